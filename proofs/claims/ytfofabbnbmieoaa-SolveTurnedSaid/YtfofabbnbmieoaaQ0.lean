/- Plain definitions and lemmas that all texts of this seat use: integers that fit 64 bits, what a slice of one-cell elements reads as, and that such readings are kept when new memory is made. -/
import Derived.WalkKit
import Derived.WalkSpells
import Derived.WalkLawsBesides
import Derived.Deep.QuietTactic
import Derived.BigQuiet
import Derived.Laws.AppendOwnNone
import Derived.Deep.RegionWith
import Derived.Deep.RegionLaw
import Derived.Deep.DeepCutAuto
import Derived.Test.YtfofabbnbmieoaaProg
import Derived.Deep.RegionHeld3
import Derived.BigRegion
import Derived.MapKept
import Derived.Maps.RangeRun
import Derived.Conc.LoneCalls
import Derived.Maps.AppendAt

namespace Go.Proofs.Ytfofabbnbmieoaa
open Go.RowKit

/-- A fact kept from the walk. -/
theorem hid {p : Prop} (h : p) : Hid p := h

/-- A contract of a callee that draws nothing, met in a region whose order is open. -/
theorem quiet_same {P : Program} {f : FuncId} {args : Array Value} {w : World} {n : Nat} {v : Value}
    (h : Calls P f args (w.drewN n) fun e w' => e = .returned v ∧ w.drewN n = w') : Calls P f args (w.drewN n) fun e w'' => e = .returned v ∧ ∃ m, w'' = w.drewN m :=
  h.mono fun _ _ ⟨he, hm⟩ => ⟨he, n, hm.symm⟩

/-- The same behind an earlier region's draws. -/
theorem quiet_same2 {P : Program} {f : FuncId} {args : Array Value} {w : World} {k n : Nat} {v : Value}
    (h : Calls P f args (w.drewN (k + n)) fun e w' => e = .returned v ∧ w.drewN (k + n) = w') : Calls P f args (w.drewN (k + n)) fun e w'' => e = .returned v ∧ ∃ m, w'' = w.drewN (k + m) :=
  h.mono fun _ _ ⟨he, hm⟩ => ⟨he, n, hm.symm⟩

/-- The number fits an int. -/
def I64 (x : Int) : Prop := -9223372036854775808 ≤ x ∧ x ≤ 9223372036854775807

/-- The slice value with the address 'a' reads as the values 'vs' (one cell each). -/
def SlV (w : World) (a : Option Addr) (vs : List Value) : Prop :=
  ∀ j v, vs[j]? = some v → ∃ b off, a = some ⟨b, off, none⟩ ∧ w.cell? ⟨b, off + j, none⟩ = some v

/-- A list of ints as values. -/
def ints (xs : List Int) : List Value := xs.map (Value.int .i64)

@[simp] theorem ints_length (xs : List Int) : (ints xs).length = xs.length := by simp [ints]

theorem SlV.nil (w : World) (a : Option Addr) : SlV w a [] := fun j _ h => by simp at h

theorem SlV.keep {w w' : World} {a : Option Addr} {vs : List Value} (h : SlV w a vs) (hk : ∀ p v, w.cell? p = some v → w'.cell? p = some v) : SlV w' a vs :=
  fun j v hj => let ⟨b, off, ha, hc⟩ := h j v hj; ⟨b, off, ha, hk _ _ hc⟩

theorem below_keeps {w w' : World} (h : Below w.heap.size w w') : ∀ p v, w.cell? p = some v → w'.cell? p = some v :=
  fun p _ hp => (h.cell (World.block_lt_of_cell? w p hp)).trans hp

theorem SlV.below {w w' : World} {a : Option Addr} {vs : List Value} (h : SlV w a vs) (hb : Below w.heap.size w w') : SlV w' a vs :=
  h.keep (below_keeps hb)

/-- One element of a slice of ints. -/
theorem SlV.int {w : World} {a : Option Addr} {xs : List Int} (h : SlV w a (ints xs)) {k : Nat} (hk : k < xs.length) :
    ∃ b off x, a = some ⟨b, off, none⟩ ∧ w.cell? ⟨b, off + k, none⟩ = some (.int .i64 x) ∧ xs[k]? = some x := by
  obtain ⟨b, off, ha, hc⟩ := h k (.int .i64 xs[k]) (by simp [ints, hk])
  exact ⟨b, off, xs[k], ha, hc, by simp [hk]⟩

/-- A list of bools as values. -/
def bools (xs : List Bool) : List Value := xs.map Value.bool

@[simp] theorem bools_length (xs : List Bool) : (bools xs).length = xs.length := by simp [bools]

/-- One element of a slice of bools. -/
theorem SlV.bool {w : World} {a : Option Addr} {xs : List Bool} (h : SlV w a (bools xs)) {k : Nat} (hk : k < xs.length) :
    ∃ b off x, a = some ⟨b, off, none⟩ ∧ w.cell? ⟨b, off + k, none⟩ = some (.bool x) ∧ xs[k]? = some x := by
  obtain ⟨b, off, ha, hc⟩ := h k (.bool xs[k]) (by simp [bools, hk])
  exact ⟨b, off, xs[k], ha, hc, by simp [hk]⟩

theorem ints_take_succ {xs : List Int} {k : Nat} {x : Int} (h : xs[k]? = some x) : ints (xs.take k) ++ [Value.int .i64 x] = ints (xs.take (k + 1)) := by
  simp [ints, List.take_add_one, h]

theorem bools_take_succ {xs : List Bool} {k : Nat} {x : Bool} (h : xs[k]? = some x) : bools (xs.take k) ++ [Value.bool x] = bools (xs.take (k + 1)) := by
  simp [bools, List.take_add_one, h]

/-- The slice value 'v' reads as the values 'vs'. -/
def Sl (w : World) (v : Value) (vs : List Value) : Prop :=
  ∃ a c, v = .slice a vs.length c ∧ vs.length ≤ c ∧ (a = none → c = 0) ∧ SlV w a vs

theorem Sl.below {w w' : World} {v : Value} {vs : List Value} (h : Sl w v vs) (hb : Below w.heap.size w w') : Sl w' v vs :=
  let ⟨a, c, h1, h2, h3, h4⟩ := h; ⟨a, c, h1, h2, h3, h4.below hb⟩

/-- What a row of the call's own reads as. -/
theorem own_sl {w : World} {B e n : Nat} {v : Value} {vs : List Value} (h : w.ownsRow B e 1 v n vs) : Sl w v vs := by
  have hn : n = vs.length := by have := h.1; omega
  rcases h.2 with ⟨rfl, h0⟩ | ⟨g, cap, cur, rfl, _, hg, hle, _, _, ht⟩
  · subst h0
    have : vs = [] := List.eq_nil_of_length_eq_zero (by omega)
    subst this
    exact ⟨none, 0, rfl, Nat.le_refl _, fun _ => rfl, SlV.nil _ _⟩
  · refine ⟨some ⟨g, 0, none⟩, cap, by rw [hn], by omega, nofun, fun j u hj => ⟨g, 0, rfl, ?_⟩⟩
    have := h.cells (g := g) rfl j u hj
    unfold Addr.add at this
    split at this
    · rename_i h0; subst h0; simpa using this
    · simpa using this

/-- The slice value 'v' reads as the ints 'xs'. -/
def SlI (w : World) (v : Value) (xs : List Int) : Prop :=
  ∃ a c, v = .slice a xs.length c ∧ xs.length ≤ c ∧ (a = none → c = 0) ∧ SlV w a (ints xs)

theorem SlI.below {w w' : World} {v : Value} {xs : List Int} (h : SlI w v xs) (hb : Below w.heap.size w w') : SlI w' v xs :=
  let ⟨a, c, h1, h2, h3, h4⟩ := h; ⟨a, c, h1, h2, h3, h4.below hb⟩

theorem own_sli {w : World} {B e n : Nat} {v : Value} {xs : List Int} (h : w.ownsRow B e 1 v n (ints xs)) : SlI w v xs := by
  obtain ⟨a, c, h1, h2, h3, h4⟩ := own_sl h
  simp only [ints_length] at h1 h2
  exact ⟨a, c, h1, h2, h3, h4⟩

theorem own_base {w : World} {B B' e size n : Nat} {v : Value} {vs : List Value} (h : w.ownsRow B e size v n vs) (hB : B' ≤ B) : w.ownsRow B' e size v n vs := by
  refine ⟨h.1, ?_⟩
  rcases h.2 with h0 | ⟨g, cap, cur, h1, h2, h3⟩
  · exact .inl h0
  · exact .inr ⟨g, cap, cur, h1, by omega, h3⟩

theorem ints_append (xs ys : List Int) : ints (xs ++ ys) = ints xs ++ ints ys := by simp [ints]

/-- The first element of a slice of ints. -/
theorem SlV.head {w : World} {a : Option Addr} {x : Int} {xs : List Int} (h : SlV w a (ints (x :: xs))) :
    ∃ b off, a = some ⟨b, off, none⟩ ∧ w.cell? ⟨b, off, none⟩ = some (.int .i64 x) := by
  obtain ⟨b, off, ha, hc⟩ := h 0 (.int .i64 x) (by simp [ints])
  exact ⟨b, off, ha, hc⟩

theorem below_dr {B : Nat} {a w : World} (h : Below B a w) (n : Nat) : Below B a (w.drewN n) := h.trans ⟨rfl, rfl, rfl, Nat.le_refl _, fun _ _ => rfl⟩

theorem SlV.drewN {w : World} {a : Option Addr} {vs : List Value} (h : SlV w a vs) (n : Nat) : SlV (w.drewN n) a vs := h

/-- Equality of two lists of ints, as a Bool. -/
def eqI (xs ys : List Int) : Bool := decide (xs = ys)

theorem eqI_len {xs ys : List Int} (h : ¬ xs.length = ys.length) : eqI xs ys = false := by
  simp [eqI]; intro e; exact h (by rw [e])
theorem eqI_at {xs ys : List Int} {k : Nat} {x y : Int} (hx : xs[k]? = some x) (hy : ys[k]? = some y) (h : ¬ x = y) : eqI xs ys = false := by
  simp [eqI]; intro e; rw [e, hy] at hx; simp at hx; exact h hx.symm
theorem take_eq_succ {α : Type} {xs ys : List α} {k : Nat} {x : α} (h : xs.take k = ys.take k) (hx : xs[k]? = some x) (hy : ys[k]? = some x) : xs.take (k + 1) = ys.take (k + 1) := by
  rw [List.take_add_one, List.take_add_one, h, hx, hy]
theorem eqI_all {xs ys : List Int} {k : Nat} (hk : ¬ k < xs.length) (hl : xs.length = ys.length) (h : xs.take k = ys.take k) : eqI xs ys = true := by
  rw [List.take_of_length_le (by omega), List.take_of_length_le (by omega)] at h
  simp [eqI, h]

end Go.Proofs.Ytfofabbnbmieoaa

/- What follows by unit propagation. Plain. -/
namespace Go.Proofs.Ytfofabbnbmieoaa

/-- What follows from clauses and assumptions by unit propagation. -/
inductive Der (C : List (List Int)) (A : List Int) : Int → Prop
  | asm {a : Int} : a ∈ A → Der C A a
  | unit {c : List Int} {l : Int} : c ∈ C → l ∈ c → (∀ m ∈ c, m ≠ l → Der C A (-m)) → Der C A l

/-- Unit propagation fails. -/
def Bad (C : List (List Int)) (A : List Int) : Prop := (∃ a, Der C A a ∧ Der C A (-a)) ∨ ∃ c ∈ C, ∀ l ∈ c, Der C A (-l)

/-- Each clause of the one has a clause of the other with the same literals. -/
def Sub (C C' : List (List Int)) : Prop := ∀ c ∈ C, ∃ c' ∈ C', ∀ l, l ∈ c ↔ l ∈ c'

theorem sub_of_subset {C C' : List (List Int)} (h : ∀ c ∈ C, c ∈ C') : Sub C C' := fun c hc => ⟨c, h c hc, fun _ => Iff.rfl⟩

theorem der_mono {C C' : List (List Int)} {A A' : List Int} (hC : Sub C C') (hA : ∀ a ∈ A, a ∈ A') {a : Int} (h : Der C A a) : Der C' A' a := by
  induction h with
  | asm ha => exact .asm (hA _ ha)
  | unit hc hl hm ih =>
    obtain ⟨c', hc', hs⟩ := hC _ hc
    exact .unit hc' ((hs _).1 hl) fun m hm hne => ih m ((hs m).2 hm) hne

theorem bad_mono {C C' : List (List Int)} {A A' : List Int} (hC : Sub C C') (hA : ∀ a ∈ A, a ∈ A') (h : Bad C A) : Bad C' A' := by
  rcases h with ⟨a, h1, h2⟩ | ⟨c, hc, h⟩
  · exact .inl ⟨a, der_mono hC hA h1, der_mono hC hA h2⟩
  · obtain ⟨c', hc', hs⟩ := hC c hc
    exact .inr ⟨c', hc', fun l hl => der_mono hC hA (h l ((hs l).2 hl))⟩

/-- The literals of a formula of n variables. -/
def LitOk (n : Nat) (a : Int) : Prop := a ≠ 0 ∧ a ≤ n ∧ -(n : Int) ≤ a
def ClsOk (n : Nat) (C : List (List Int)) : Prop := ∀ c ∈ C, ∀ a ∈ c, LitOk n a

theorem der_ok {n : Nat} {C : List (List Int)} {A : List Int} (hC : ClsOk n C) (hA : ∀ a ∈ A, LitOk n a) {a : Int} (h : Der C A a) : LitOk n a := by
  cases h with
  | asm ha => exact hA a ha
  | unit hc hl _ => exact hC _ hc _ hl

/-- The clause always holds. -/
def Taut (c : List Int) : Prop := ∃ x ∈ c, -x ∈ c

/-- K is what follows, and nothing fails. -/
structure Closed (C : List (List Int)) (A K : List Int) : Prop where
  sound : ∀ a ∈ K, Der C A a
  asm : ∀ a ∈ A, a ∈ K
  cons : ∀ a ∈ K, -a ∉ K
  unit : ∀ c ∈ C, ∀ l ∈ c, (∀ m ∈ c, m ≠ l → -m ∈ K) → l ∈ K
  clause : ∀ c ∈ C, ∃ l ∈ c, -l ∉ K

theorem Closed.der {C : List (List Int)} {A K : List Int} (h : Closed C A K) {a : Int} : Der C A a ↔ a ∈ K := by
  refine ⟨fun hd => ?_, h.sound a⟩
  induction hd with
  | asm ha => exact h.asm _ ha
  | unit hc hl hm ih => exact h.unit _ hc _ hl ih

theorem Closed.good {C : List (List Int)} {A K : List Int} (h : Closed C A K) : ¬ Bad C A := by
  rintro (⟨a, h1, h2⟩ | ⟨c, hc, hf⟩)
  · exact h.cons a (h.der.1 h1) (h.der.1 h2)
  · obtain ⟨l, hl, hn⟩ := h.clause c hc
    exact hn (h.der.1 (hf l hl))

/-- All literals of a list, by variables. -/
def byVar (n : Nat) (p : Int → Bool) : List Int := (List.range n).flatMap fun (i : Nat) => (if p ((i : Int) + 1) then [(i : Int) + 1] else []) ++ (if p (-((i : Int) + 1)) then [-((i : Int) + 1)] else [])

theorem byVar_succ (n : Nat) (p : Int → Bool) : byVar (n + 1) p = byVar n p ++ ((if p ((n : Int) + 1) then [(n : Int) + 1] else []) ++ (if p (-((n : Int) + 1)) then [-((n : Int) + 1)] else [])) := by
  simp [byVar, List.range_succ]

theorem mem_byVar {n : Nat} {p : Int → Bool} {a : Int} : a ∈ byVar n p ↔ LitOk n a ∧ p a = true := by
  simp only [byVar, List.mem_flatMap, List.mem_range, List.mem_append]
  constructor
  · rintro ⟨i, hi, h | h⟩
    · split at h
      · rename_i hp; simp at h; subst h; exact ⟨⟨by omega, by omega, by omega⟩, hp⟩
      · cases h
    · split at h
      · rename_i hp; simp at h; subst h; exact ⟨⟨by omega, by omega, by omega⟩, hp⟩
      · cases h
  · rintro ⟨⟨h0, h1, h2⟩, hp⟩
    rcases Int.lt_or_gt_of_ne h0 with h | h
    · refine ⟨(-a - 1).toNat, by omega, .inr ?_⟩
      have e : -((((-a - 1).toNat : Nat) : Int) + 1) = a := by omega
      rw [e, hp]; simp
    · refine ⟨(a - 1).toNat, by omega, .inl ?_⟩
      have e : (((a - 1).toNat : Nat) : Int) + 1 = a := by omega
      rw [e, hp]; simp

theorem byVar_congr {n : Nat} {p q : Int → Bool} (h : ∀ a, LitOk n a → p a = q a) : byVar n p = byVar n q := by
  induction n with
  | zero => rfl
  | succ n ih =>
    rw [byVar_succ, byVar_succ, ih fun a ha => h a ⟨ha.1, by have := ha.2.1; omega, by have := ha.2.2; omega⟩, h ((n : Int) + 1) ⟨by omega, by omega, by omega⟩, h (-((n : Int) + 1)) ⟨by omega, by omega, by omega⟩]

open Classical in
/-- What Units returns. -/
noncomputable def upL (n : Nat) (C : List (List Int)) (A : List Int) : List Int := if Bad C A then [] else byVar n fun a => decide (Der C A a)

open Classical in
/-- Whether Units fails. -/
noncomputable def upF (C : List (List Int)) (A : List Int) : Bool := decide (Bad C A)

theorem upF_true {C : List (List Int)} {A : List Int} : upF C A = true ↔ Bad C A := by simp [upF]
theorem upF_false {C : List (List Int)} {A : List Int} : upF C A = false ↔ ¬ Bad C A := by simp [upF]

theorem Closed.up {C : List (List Int)} {A K : List Int} (h : Closed C A K) (n : Nat) : upL n C A = byVar n (fun a => decide (a ∈ K)) ∧ upF C A = false := by
  refine ⟨?_, upF_false.2 h.good⟩
  unfold upL
  rw [if_neg h.good]
  exact byVar_congr fun a _ => by simp [h.der]

theorem bad_up {C : List (List Int)} {A : List Int} (h : Bad C A) (n : Nat) : upL n C A = [] ∧ upF C A = true := by
  refine ⟨?_, upF_true.2 h⟩
  unfold upL
  rw [if_pos h]

theorem mem_upL {n : Nat} {C : List (List Int)} {A : List Int} (hC : ClsOk n C) (hA : ∀ a ∈ A, LitOk n a) (hb : ¬ Bad C A) {a : Int} : a ∈ upL n C A ↔ Der C A a := by
  unfold upL
  rw [if_neg hb, mem_byVar]
  simp only [decide_eq_true_eq]
  exact ⟨fun h => h.2, fun h => ⟨der_ok hC hA h, h⟩⟩

/-! ### Certificates, for closed formulas -/

end Go.Proofs.Ytfofabbnbmieoaa

/- Plain facts about rup's base: clauses watched by their first two literals, what is known, and what a look at a clause leaves. -/
namespace Go.Proofs.Ytfofabbnbmieoaa.Ord

/-- The watch lists name each clause just where it is watched. -/
structure WI (n : Nat) (C : List (List Int)) (Wt : Int → List Nat) : Prop where
  cls : ∀ c ∈ C, 2 ≤ c.length ∧ c.Nodup ∧ (∀ x ∈ c, LitOk n x) ∧ ∀ x ∈ c, -x ∉ c
  cnt : ∀ (i : Nat) (c : List Int) (a : Int), C[i]? = some c → (Wt a).count i = if c[0]? = some a ∨ c[1]? = some a then 1 else 0
  lt : ∀ a, ∀ i ∈ Wt a, i < C.length

/-- Where a watched literal is false among P, the other one is known in K. The clauses in E are left out for the literal a. -/
def Pr (C : List (List Int)) (K P : List Int) (a : Int) (E : List Nat) : Prop :=
  ∀ (i : Nat) (c : List Int) (x y : Int), C[i]? = some c → c[0]? = some x → c[1]? = some y →
    (-x ∈ P ∨ (x = a ∧ i ∉ E) → y ∈ K) ∧ (-y ∈ P ∨ (y = a ∧ i ∉ E) → x ∈ K)

/-- Where both watched literals. -/
def PrB (C : List (List Int)) (K : List Int) : Prop :=
  ∀ (i : Nat) (c : List Int) (x y : Int), C[i]? = some c → c[0]? = some x → c[1]? = some y → (-x ∈ K → y ∈ K) ∧ (-y ∈ K → x ∈ K)

/-- Two places of a list change. -/
def swapL (c : List Int) (j k : Nat) : List Int := (c.set j (c.getD k 0)).set k (c.getD j 0)

theorem swapL_length (c : List Int) (j k : Nat) : (swapL c j k).length = c.length := by simp [swapL]

theorem swapL_get {c : List Int} {j k : Nat} (hj : j < c.length) (hk : k < c.length) (i : Nat) : (swapL c j k)[i]? = if i = k then c[j]? else if i = j then c[k]? else c[i]? := by
  unfold swapL
  rw [List.getElem?_set, List.getElem?_set]
  simp only [List.length_set]
  by_cases h1 : i = k
  · subst h1
    rw [if_pos rfl, if_pos hk, if_pos rfl, List.getD_eq_getElem?_getD, List.getElem?_eq_getElem hj]
    rfl
  · rw [if_neg (show ¬ k = i from fun e => h1 e.symm), if_neg h1]
    by_cases h2 : i = j
    · subst h2
      rw [if_pos rfl, if_pos hj, if_pos rfl, List.getD_eq_getElem?_getD, List.getElem?_eq_getElem hk]
      rfl
    · rw [if_neg (show ¬ j = i from fun e => h2 e.symm), if_neg h2]

theorem swapL_mem {c : List Int} {j k : Nat} (hj : j < c.length) (hk : k < c.length) {x : Int} : x ∈ swapL c j k ↔ x ∈ c := by
  constructor
  · intro h
    obtain ⟨i, hi⟩ := List.mem_iff_getElem?.1 h
    rw [swapL_get hj hk] at hi
    split at hi
    · exact List.mem_of_getElem? hi
    · split at hi
      · exact List.mem_of_getElem? hi
      · exact List.mem_of_getElem? hi
  · intro h
    obtain ⟨i, hi⟩ := List.mem_iff_getElem?.1 h
    by_cases h1 : i = j
    · subst h1
      exact List.mem_of_getElem? (i := k) (by rw [swapL_get hj hk, if_pos rfl]; exact hi)
    · by_cases h2 : i = k
      · subst h2
        exact List.mem_of_getElem? (i := j) (by rw [swapL_get hj hk, if_neg (fun e => h1 e.symm), if_pos rfl]; exact hi)
      · exact List.mem_of_getElem? (i := i) (by rw [swapL_get hj hk, if_neg h2, if_neg h1]; exact hi)

theorem nodup_get {c : List Int} (h : c.Nodup) {i j : Nat} {x : Int} (hi : c[i]? = some x) (hj : c[j]? = some x) : i = j := by
  obtain ⟨h1, e1⟩ := List.getElem?_eq_some_iff.1 hi
  obtain ⟨h2, e2⟩ := List.getElem?_eq_some_iff.1 hj
  have hp := List.pairwise_iff_getElem.1 h
  rcases Nat.lt_trichotomy i j with q | q | q
  · exact absurd (e1.trans e2.symm) (hp i j h1 h2 q)
  · exact q
  · exact absurd (e2.trans e1.symm) (hp j i h2 h1 q)

theorem nodup_of {c : List Int} (h : ∀ (i j : Nat) (x : Int), c[i]? = some x → c[j]? = some x → i = j) : c.Nodup := by
  refine List.pairwise_iff_getElem.2 fun i j hi hj hij e => ?_
  have := h i j c[i] (List.getElem?_eq_getElem hi) (by rw [e]; exact List.getElem?_eq_getElem hj)
  omega

theorem swapL_nodup {c : List Int} {j k : Nat} (hj : j < c.length) (hk : k < c.length) (h : c.Nodup) : (swapL c j k).Nodup := by
  refine nodup_of fun p q x hp hq => ?_
  rw [swapL_get hj hk] at hp hq
  by_cases p1 : p = k
  · rw [if_pos p1] at hp
    by_cases q1 : q = k
    · omega
    · rw [if_neg q1] at hq
      by_cases q2 : q = j
      · rw [if_pos q2] at hq
        have := nodup_get h hp hq
        omega
      · rw [if_neg q2] at hq
        have := nodup_get h hp hq
        omega
  · rw [if_neg p1] at hp
    by_cases p2 : p = j
    · rw [if_pos p2] at hp
      by_cases q1 : q = k
      · rw [if_pos q1] at hq
        have := nodup_get h hp hq
        omega
      · rw [if_neg q1] at hq
        by_cases q2 : q = j
        · omega
        · rw [if_neg q2] at hq
          have := nodup_get h hp hq
          omega
    · rw [if_neg p2] at hp
      by_cases q1 : q = k
      · rw [if_pos q1] at hq
        have := nodup_get h hp hq
        omega
      · rw [if_neg q1] at hq
        by_cases q2 : q = j
        · rw [if_pos q2] at hq
          have := nodup_get h hp hq
          omega
        · rw [if_neg q2] at hq
          exact nodup_get h hp hq

/-- A clause whose literals stand in another order. -/
def Same (c d : List Int) : Prop := d.length = c.length ∧ d.Nodup ∧ ∀ x, x ∈ d ↔ x ∈ c

theorem same_swap {c : List Int} {j k : Nat} (hj : j < c.length) (hk : k < c.length) (h : c.Nodup) : Same c (swapL c j k) := ⟨swapL_length _ _ _, swapL_nodup hj hk h, fun _ => swapL_mem hj hk⟩

section
variable {n : Nat} {C : List (List Int)} {Wt : Int → List Nat} {i : Nat} {c d : List Int}

theorem set_get (hc : C[i]? = some c) (t : Nat) : (C.set i d)[t]? = if t = i then some d else C[t]? := by
  rw [List.getElem?_set]
  have hi := (List.getElem?_eq_some_iff.1 hc).1
  by_cases h : i = t
  · subst h; rw [if_pos rfl, if_pos hi, if_pos rfl]
  · rw [if_neg h, if_neg (fun e => h e.symm)]

/-- The clause i in another order, watched as before. -/
theorem WI.perm (h : WI n C Wt) (hc : C[i]? = some c) (hs : Same c d) (hw : ∀ a, (d[0]? = some a ∨ d[1]? = some a) ↔ (c[0]? = some a ∨ c[1]? = some a)) : WI n (C.set i d) Wt := by
  have hcm := h.cls c (List.mem_of_getElem? hc)
  refine ⟨fun e he => ?_, fun t e a ht => ?_, fun a t ht => by rw [List.length_set]; exact h.lt a t ht⟩
  · rcases List.mem_or_eq_of_mem_set he with q | q
    · exact h.cls e q
    · rw [q]
      exact ⟨by have := hs.1; omega, hs.2.1, fun x hx => hcm.2.2.1 x ((hs.2.2 x).1 hx), fun x hx hn => hcm.2.2.2 x ((hs.2.2 x).1 hx) ((hs.2.2 _).1 hn)⟩
  · rw [set_get hc] at ht
    split at ht
    · rename_i e1
      subst e1
      injection ht with ht
      subst ht
      rw [h.cnt t c a hc]
      by_cases q : c[0]? = some a ∨ c[1]? = some a
      · rw [if_pos q, if_pos ((hw a).2 q)]
      · rw [if_neg q, if_neg (fun p => q ((hw a).1 p))]
    · exact h.cnt t e a ht

/-- The clause i watched by z in the place of a. -/
theorem WI.move {a o z : Int} {Wt' : Int → List Nat} (h : WI n C Wt) (hc : C[i]? = some c) (hs : Same c d) (hwc : ∀ b, (c[0]? = some b ∨ c[1]? = some b) ↔ (b = a ∨ b = o)) (hwd : ∀ b, (d[0]? = some b ∨ d[1]? = some b) ↔ (b = z ∨ b = o)) (haz : a ≠ z) (hao : a ≠ o) (hzo : z ≠ o)
    (h1 : ∀ t, t ≠ i → (Wt' a).count t = (Wt a).count t) (h2 : (Wt' a).count i = 0) (h3 : Wt' z = Wt z ++ [i]) (h4 : ∀ b, b ≠ a → b ≠ z → Wt' b = Wt b) (h5 : ∀ t ∈ Wt' a, t < C.length) : WI n (C.set i d) Wt' := by
  have hcm := h.cls c (List.mem_of_getElem? hc)
  have hil := (List.getElem?_eq_some_iff.1 hc).1
  refine ⟨fun e he => ?_, fun t e b ht => ?_, fun b t ht => ?_⟩
  · rcases List.mem_or_eq_of_mem_set he with q | q
    · exact h.cls e q
    · rw [q]
      exact ⟨by have := hs.1; omega, hs.2.1, fun x hx => hcm.2.2.1 x ((hs.2.2 x).1 hx), fun x hx hn => hcm.2.2.2 x ((hs.2.2 x).1 hx) ((hs.2.2 _).1 hn)⟩
  · rw [set_get hc] at ht
    split at ht
    · rename_i e1
      subst e1
      injection ht with ht
      subst ht
      have h0 := h.cnt t c b hc
      by_cases q1 : b = a
      · subst q1
        rw [h2, if_neg (fun p => ((hwd b).1 p).elim haz hao)]
      · by_cases q2 : b = z
        · subst q2
          rw [if_neg (fun p => ((hwc b).1 p).elim q1 hzo)] at h0
          rw [h3, List.count_append, h0, if_pos ((hwd b).2 (.inl rfl))]
          simp
        · rw [h4 b q1 q2, h0]
          by_cases q3 : b = o
          · rw [if_pos ((hwc b).2 (.inr q3)), if_pos ((hwd b).2 (.inr q3))]
          · rw [if_neg (fun p => ((hwc b).1 p).elim q1 q3), if_neg (fun p => ((hwd b).1 p).elim q2 q3)]
    · rename_i hti
      have h0 := h.cnt t e b ht
      by_cases q1 : b = a
      · subst q1; rw [h1 t hti, h0]
      · by_cases q2 : b = z
        · subst q2
          rw [h3, List.count_append, h0]
          have : ([i] : List Nat).count t = 0 := by rw [List.count_singleton]; simp; omega
          omega
        · rw [h4 b q1 q2, h0]
  · rw [List.length_set]
    by_cases q1 : b = a
    · subst q1; exact h5 t ht
    · by_cases q2 : b = z
      · subst q2
        rw [h3] at ht
        rcases List.mem_append.1 ht with p | p
        · exact h.lt b t p
        · rw [List.mem_singleton.1 p]; exact hil
      · rw [h4 b q1 q2] at ht; exact h.lt b t ht

end

end Go.Proofs.Ytfofabbnbmieoaa.Ord

/- Plain facts about rup's run: what holds while the clauses of a literal are gone through. -/
namespace Go.Proofs.Ytfofabbnbmieoaa.Ord

/-- The watch lists, with another list for a. -/
def effW (Wt : Int → List Nat) (a : Int) (l : List Nat) : Int → List Nat := fun b => if b = a then l else Wt b

theorem effW_self (Wt : Int → List Nat) (a : Int) (l : List Nat) : effW Wt a l a = l := if_pos rfl
theorem effW_ne (Wt : Int → List Nat) {a b : Int} (l : List Nat) (h : b ≠ a) : effW Wt a l b = Wt b := if_neg h

/-- What holds while the clauses that a watches are gone through: 'kept' stay with it, 'rest' are to come. F and A: from what all follows; K0: what was known before. -/
structure IL (n : Nat) (F : List (List Int)) (A : List Int) (C : List (List Int)) (Wt : Int → List Nat) (K P0 K0 : List Int) (a : Int) (kept rest : List Nat) : Prop where
  wi : WI n C (effW Wt a (kept ++ rest))
  pr : Pr C K P0 a rest
  bp : PrB C K0
  sub0 : ∀ x ∈ K0, x ∈ K
  subP : ∀ x ∈ P0, x ∈ K
  ak : -a ∈ K
  cons : ∀ x ∈ K, -x ∉ K
  nod : K.Nodup
  kok : ∀ x ∈ K, LitOk n x
  snd : ∀ x ∈ K, Der F A x
  sub : ∀ c ∈ C, ∃ f ∈ F, ∀ l, l ∈ c ↔ l ∈ f

section
variable {n : Nat} {F : List (List Int)} {A : List Int} {C : List (List Int)} {Wt : Int → List Nat} {K P0 K0 : List Int} {a o z : Int} {kept rest : List Nat} {i : Nat} {c d : List Int}

theorem two_get (h : 2 ≤ c.length) : ∃ x y, c[0]? = some x ∧ c[1]? = some y := ⟨_, _, List.getElem?_eq_getElem (by omega), List.getElem?_eq_getElem (by omega)⟩

/-- The clause at hand is watched by a. -/
theorem IL.here (h : IL n F A C Wt K P0 K0 a kept (i :: rest)) : ∃ c, C[i]? = some c ∧ (c[0]? = some a ∨ c[1]? = some a) ∧ i ∉ kept ∧ i ∉ rest := by
  have hm : i ∈ effW Wt a (kept ++ i :: rest) a := by rw [effW_self]; simp
  have hl := h.wi.lt a i hm
  refine ⟨C[i], List.getElem?_eq_getElem hl, ?_⟩
  have h0 := h.wi.cnt i C[i] a (List.getElem?_eq_getElem hl)
  rw [effW_self, List.count_append, List.count_cons_self] at h0
  have h1 : (C[i])[0]? = some a ∨ (C[i])[1]? = some a := by
    by_cases q : (C[i])[0]? = some a ∨ (C[i])[1]? = some a
    · exact q
    · rw [if_neg q] at h0; omega
  rw [if_pos h1] at h0
  exact ⟨h1, List.count_eq_zero.1 (by omega), List.count_eq_zero.1 (by omega)⟩

theorem pairs {x y : Int} (h : ∀ b, (c[0]? = some b ∨ c[1]? = some b) ↔ (b = a ∨ b = o)) (hx : c[0]? = some x) (hy : c[1]? = some y) (hn : c.Nodup) : (x = a ∧ y = o) ∨ (x = o ∧ y = a) := by
  have h1 := (h x).1 (.inl hx)
  have h2 := (h y).1 (.inr hy)
  have h3 : x ≠ y := fun e => by
    have := nodup_get hn hx (by rw [e]; exact hy)
    omega
  rcases h1 with h1 | h1 <;> rcases h2 with h2 | h2
  · exact absurd (h1.trans h2.symm) h3
  · exact .inl ⟨h1, h2⟩
  · exact .inr ⟨h1, h2⟩
  · exact absurd (h1.trans h2.symm) h3

/-- The clause stays with a: its other watched literal is known. -/
theorem IL.keep {K' : List Int} (h : IL n F A C Wt K P0 K0 a kept (i :: rest)) (hc : C[i]? = some c) (hs : Same c d) (hd0 : d[0]? = some o) (hd1 : d[1]? = some a) (hcw : ∀ b, (c[0]? = some b ∨ c[1]? = some b) ↔ (b = a ∨ b = o)) (hao : a ≠ o)
    (hK : ∀ x ∈ K, x ∈ K') (ho : o ∈ K') (hcons : ∀ x ∈ K', -x ∉ K') (hnod : K'.Nodup) (hkok : ∀ x ∈ K', LitOk n x) (hsnd : ∀ x ∈ K', Der F A x) : IL n F A (C.set i d) Wt K' P0 K0 a (kept ++ [i]) rest := by
  have hcm := h.wi.cls c (List.mem_of_getElem? hc)
  obtain ⟨c', hc', -, hik, hir⟩ := h.here
  obtain ⟨p, q, hp, hq⟩ := two_get hcm.1
  have hpq := pairs hcw hp hq hcm.2.1
  refine ⟨?_, fun t e x y ht hx hy => ?_, fun t e x y ht hx hy => ?_, fun x hx => hK x (h.sub0 x hx), fun x hx => hK x (h.subP x hx), hK _ h.ak, hcons, hnod, hkok, hsnd, fun e he => ?_⟩
  · have := h.wi.perm hc hs (fun b => by
      rw [hcw b, hd0, hd1]
      constructor
      · rintro (q | q)
        · injection q with q; exact .inr q.symm
        · injection q with q; exact .inl q.symm
      · rintro (q | q)
        · exact .inr (by rw [q])
        · exact .inl (by rw [q]))
    rw [List.append_assoc]
    exact this
  · rw [set_get hc] at ht
    split at ht
    · rename_i e1
      subst e1
      injection ht with ht
      subst ht
      rw [hd0] at hx
      rw [hd1] at hy
      injection hx with hx
      injection hy with hy
      subst hx hy
      refine ⟨fun hh => ?_, fun _ => ho⟩
      rcases hh with hh | hh
      · have := h.pr t c p q hc hp hq
        rcases hpq with ⟨e1, e2⟩ | ⟨e1, e2⟩
        · subst e1 e2; exact hK _ (this.2 (.inl hh))
        · subst e1 e2; exact hK _ (this.1 (.inl hh))
      · exact absurd hh.1.symm hao
    · rename_i hti
      have := h.pr t e x y ht hx hy
      refine ⟨fun hh => hK _ (this.1 (hh.imp_right fun q => ⟨q.1, fun m => ?_⟩)), fun hh => hK _ (this.2 (hh.imp_right fun q => ⟨q.1, fun m => ?_⟩))⟩
      · rcases List.mem_cons.1 m with m | m
        · exact hti m
        · exact q.2 m
      · rcases List.mem_cons.1 m with m | m
        · exact hti m
        · exact q.2 m
  · rw [set_get hc] at ht
    split at ht
    · rename_i e1
      subst e1
      injection ht with ht
      subst ht
      rw [hd0] at hx
      rw [hd1] at hy
      injection hx with hx
      injection hy with hy
      subst hx hy
      have := h.bp t c p q hc hp hq
      rcases hpq with ⟨e1, e2⟩ | ⟨e1, e2⟩
      · subst e1 e2; exact ⟨this.2, this.1⟩
      · subst e1 e2; exact this
    · exact h.bp t e x y ht hx hy
  · rcases List.mem_or_eq_of_mem_set he with q | q
    · exact h.sub e q
    · obtain ⟨f, hf, hl⟩ := h.sub c (List.mem_of_getElem? hc)
      rw [q]
      exact ⟨f, hf, fun l => (hs.2.2 l).trans (hl l)⟩

/-- The clause goes over to z. -/
theorem IL.move {Wt' : Int → List Nat} (h : IL n F A C Wt K P0 K0 a kept (i :: rest)) (hc : C[i]? = some c) (hs : Same c d) (hd0 : d[0]? = some o) (hd1 : d[1]? = some z) (hcw : ∀ b, (c[0]? = some b ∨ c[1]? = some b) ↔ (b = a ∨ b = o)) (hao : a ≠ o) (haz : a ≠ z) (hzo : z ≠ o) (hzK : -z ∉ K)
    (hz : Wt' z = Wt z ++ [i]) (hw : ∀ b, b ≠ z → Wt' b = Wt b) : IL n F A (C.set i d) Wt' K P0 K0 a kept rest := by
  have hcm := h.wi.cls c (List.mem_of_getElem? hc)
  obtain ⟨c', hc', -, hik, hir⟩ := h.here
  obtain ⟨p, q, hp, hq⟩ := two_get hcm.1
  have hpq := pairs hcw hp hq hcm.2.1
  have haK : a ∉ K := fun m => h.cons a m h.ak
  refine ⟨?_, fun t e x y ht hx hy => ?_, fun t e x y ht hx hy => ?_, h.sub0, h.subP, h.ak, h.cons, h.nod, h.kok, h.snd, fun e he => ?_⟩
  · refine h.wi.move (a := a) (o := o) (z := z) hc hs hcw (fun b => ?_) haz hao hzo (fun t hti => ?_) ?_ ?_ (fun b hb hbz => ?_) (fun t ht => ?_)
    · rw [hd0, hd1]
      constructor
      · rintro (q | q)
        · injection q with q; exact .inr q.symm
        · injection q with q; exact .inl q.symm
      · rintro (q | q)
        · exact .inr (by rw [q])
        · exact .inl (by rw [q])
    · rw [effW_self, effW_self, List.count_append, List.count_append, List.count_cons_of_ne (fun e => hti e.symm)]
    · rw [effW_self, List.count_append, List.count_eq_zero.2 hik, List.count_eq_zero.2 hir]
    · rw [effW_ne _ _ (fun e => haz e.symm), effW_ne _ _ (fun e => haz e.symm), hz]
    · rw [effW_ne _ _ hb, effW_ne _ _ hb, hw b hbz]
    · rw [effW_self] at ht
      refine h.wi.lt a t ?_
      rw [effW_self]
      rcases List.mem_append.1 ht with m | m
      · exact List.mem_append_left _ m
      · exact List.mem_append_right _ (List.mem_cons_of_mem _ m)
  · rw [set_get hc] at ht
    split at ht
    · rename_i e1
      subst e1
      injection ht with ht
      subst ht
      rw [hd0] at hx
      rw [hd1] at hy
      injection hx with hx
      injection hy with hy
      subst hx hy
      have := h.pr t c p q hc hp hq
      refine ⟨fun hh => ?_, fun hh => ?_⟩
      · rcases hh with hh | hh
        · rcases hpq with ⟨e1, e2⟩ | ⟨e1, e2⟩
          · subst e1 e2; exact absurd (this.2 (.inl hh)) haK
          · subst e1 e2; exact absurd (this.1 (.inl hh)) haK
        · exact absurd hh.1.symm hao
      · rcases hh with hh | hh
        · exact absurd (h.subP _ hh) hzK
        · exact absurd hh.1.symm haz
    · rename_i hti
      have := h.pr t e x y ht hx hy
      refine ⟨fun hh => this.1 (hh.imp_right fun q => ⟨q.1, fun m => ?_⟩), fun hh => this.2 (hh.imp_right fun q => ⟨q.1, fun m => ?_⟩)⟩
      · rcases List.mem_cons.1 m with m | m
        · exact hti m
        · exact q.2 m
      · rcases List.mem_cons.1 m with m | m
        · exact hti m
        · exact q.2 m
  · rw [set_get hc] at ht
    split at ht
    · rename_i e1
      subst e1
      injection ht with ht
      subst ht
      rw [hd0] at hx
      rw [hd1] at hy
      injection hx with hx
      injection hy with hy
      subst hx hy
      have := h.bp t c p q hc hp hq
      refine ⟨fun hh => ?_, fun hh => absurd (h.sub0 _ hh) hzK⟩
      rcases hpq with ⟨e1, e2⟩ | ⟨e1, e2⟩
      · subst e1 e2; exact absurd (h.sub0 _ (this.2 hh)) haK
      · subst e1 e2; exact absurd (h.sub0 _ (this.1 hh)) haK
    · exact h.bp t e x y ht hx hy
  · rcases List.mem_or_eq_of_mem_set he with q | q
    · exact h.sub e q
    · obtain ⟨f, hf, hl⟩ := h.sub c (List.mem_of_getElem? hc)
      rw [q]
      exact ⟨f, hf, fun l => (hs.2.2 l).trans (hl l)⟩

/-- The other literal follows, where all others are false. -/
theorem IL.derive (h : IL n F A C Wt K P0 K0 a kept rest) (hc : c ∈ C) (ho : o ∈ c) (hf : ∀ x ∈ c, x ≠ o → -x ∈ K) : Der F A o := by
  obtain ⟨f, hfF, hl⟩ := h.sub c hc
  exact .unit hfF ((hl o).1 ho) fun m hm hne => h.snd _ (hf m ((hl m).2 hm) hne)

end

/-! ### The whole run -/

/-- What holds between two literals of the trail: d of them are done. -/
structure RI (n : Nat) (F : List (List Int)) (A : List Int) (C : List (List Int)) (Wt : Int → List Nat) (K K0 : List Int) (d : Nat) : Prop where
  wi : WI n C Wt
  pr : Pr C K (K.take d) 0 []
  bp : PrB C K0
  sub0 : ∀ x ∈ K0, x ∈ K
  cons : ∀ x ∈ K, -x ∉ K
  nod : K.Nodup
  kok : ∀ x ∈ K, LitOk n x
  snd : ∀ x ∈ K, Der F A x
  sub : ∀ c ∈ C, ∃ f ∈ F, ∀ l, l ∈ c ↔ l ∈ f
  dl : d ≤ K.length

section
variable {n : Nat} {F : List (List Int)} {A : List Int} {C : List (List Int)} {Wt : Int → List Nat} {K K0 : List Int} {a : Int} {d : Nat}

theorem RI.enter (h : RI n F A C Wt K K0 d) (hk : K[d]? = some (-a)) : IL n F A C Wt K (K.take d) K0 a [] (Wt a) := by
  have hkm := List.mem_of_getElem? hk
  refine ⟨?_, fun t e x y ht hx hy => ?_, h.bp, h.sub0, fun x hx => List.mem_of_mem_take hx, hkm, h.cons, h.nod, h.kok, h.snd, h.sub⟩
  · have : effW Wt a ([] ++ Wt a) = Wt := funext fun b => by
      unfold effW
      split
      · rename_i e; rw [e]; rfl
      · rfl
    rw [this]
    exact h.wi
  · have h0 := h.pr t e x y ht hx hy
    have hin : ∀ b, (e[0]? = some b ∨ e[1]? = some b) → t ∈ Wt b := fun b hb => by
      have := h.wi.cnt t e b ht
      rw [if_pos hb] at this
      exact List.count_pos_iff.1 (by omega)
    refine ⟨fun hh => ?_, fun hh => ?_⟩
    · rcases hh with hh | hh
      · exact h0.1 (.inl hh)
      · exact absurd (hin a (.inl (hh.1 ▸ hx))) hh.2
    · rcases hh with hh | hh
      · exact h0.2 (.inl hh)
      · exact absurd (hin a (.inr (hh.1 ▸ hy))) hh.2

theorem IL.leave {kept : List Nat} {K' : List Int} (h : IL n F A C Wt K' (K.take d) K0 a kept []) (hk : K[d]? = some (-a)) (hp : ∃ R, K' = K ++ R) : RI n F A C (effW Wt a kept) K' K0 (d + 1) := by
  obtain ⟨R, rfl⟩ := hp
  have hd : d < K.length := (List.getElem?_eq_some_iff.1 hk).1
  have ht : (K ++ R).take (d + 1) = K.take d ++ [-a] := by
    rw [List.take_append_of_le_length (by omega), List.take_add_one, hk]
    rfl
  have hw := h.wi
  rw [List.append_nil] at hw
  refine ⟨hw, fun t e x y hte hx hy => ?_, h.bp, h.sub0, h.cons, h.nod, h.kok, h.snd, h.sub, by simp; omega⟩
  rw [ht]
  have h0 := h.pr t e x y hte hx hy
  have hcm := h.wi.cls e (List.mem_of_getElem? hte)
  have hx0 := (hcm.2.2.1 x (List.mem_of_getElem? hx)).1
  have hy0 := (hcm.2.2.1 y (List.mem_of_getElem? hy)).1
  have key : ∀ u : Int, u ≠ 0 → (-u ∈ K.take d ++ [-a] ∨ (u = 0 ∧ t ∉ ([] : List Nat))) → -u ∈ K.take d ∨ (u = a ∧ t ∉ ([] : List Nat)) := fun u hu hh => by
    rcases hh with hh | hh
    · rcases List.mem_append.1 hh with m | m
      · exact .inl m
      · have : -u = -a := by simpa using m
        exact .inr ⟨by omega, by simp⟩
    · exact absurd hh.1 hu
  exact ⟨fun hh => h0.1 (key x hx0 hh), fun hh => h0.2 (key y hy0 hh)⟩

/-- Where all is done, K is closed under the clauses. -/
theorem RI.closed (h : RI n F A C Wt K K0 K.length) : ∀ c ∈ C, (∃ l ∈ c, -l ∉ K) ∧ ∀ l ∈ c, (∀ m ∈ c, m ≠ l → -m ∈ K) → l ∈ K := by
  intro c hc
  obtain ⟨i, hi⟩ := List.mem_iff_getElem?.1 hc
  have hcm := h.wi.cls c hc
  obtain ⟨x, y, hx, hy⟩ := two_get hcm.1
  have h0 := h.pr i c x y hi hx hy
  rw [List.take_of_length_le (Nat.le_refl _)] at h0
  have hxm := List.mem_of_getElem? hx
  have hym := List.mem_of_getElem? hy
  have hxy : x ≠ y := fun e => by
    have := nodup_get hcm.2.1 hx (by rw [e]; exact hy)
    omega
  by_cases q1 : -x ∈ K
  · have hyK := h0.1 (.inl q1)
    refine ⟨⟨y, hym, h.cons y hyK⟩, fun l hl hall => ?_⟩
    by_cases e : y = l
    · rw [← e]; exact hyK
    · exact absurd (hall y hym e) (h.cons y hyK)
  · by_cases q2 : -y ∈ K
    · have hxK := h0.2 (.inl q2)
      refine ⟨⟨x, hxm, h.cons x hxK⟩, fun l hl hall => ?_⟩
      by_cases e : x = l
      · rw [← e]; exact hxK
      · exact absurd (hall x hxm e) (h.cons x hxK)
    · refine ⟨⟨x, hxm, q1⟩, fun l hl hall => ?_⟩
      by_cases e : x = l
      · exact absurd (hall y hym (fun e2 => hxy (e.trans e2.symm))) q2
      · exact absurd (hall x hxm e) q1

end

end Go.Proofs.Ytfofabbnbmieoaa.Ord

/- Laws for appends to slices of the call's own, whatever the source (nil or not), inside and outside regions whose order is open; for x[1:]; elements of one cell. -/
namespace Go.Proofs.Ytfofabbnbmieoaa
open Go.RowKit

theorem SlV.cells {w : World} {ad : Addr} {vs : List Value} (h : SlV w (some ad) vs) : ∀ j u, vs[j]? = some u → w.cell? (ad.add j) = some u := by
  intro j u hj
  obtain ⟨b, off, he, hc⟩ := h j u hj
  simp at he
  subst he
  unfold Addr.add
  split
  · rename_i h0; subst h0; simpa using hc
  · simpa using hc

theorem run_append_sl {P : Program} (w : World) (base : Nat) (t ty e : TypeId) (i : TypeInfo) (z : Value) (bytes : Nat) (ht : P.underlying t = some (.slice e)) (hi : P.info? e = some i) (hz : i.zero = some z)
    (hsize : i.size = 1) (hby : i.bytes = bytes) (hzs : z.cells.size = 1)
    (v : Value) (n : Nat) (xs : List Value) (hown : w.ownsRow base e 1 v n xs)
    (a : Option Addr) (m c : Nat) (news : List Value) (hs : SlV w a news) (hm : m = news.length) (hc : a = none → c = 0) (h1 : ∀ u ∈ news, u.oneCell' = true)
    (h63 : n + m ≤ maxLen) (hbytes : (n + m) * bytes ≤ 140737488355328) (hbase : base ≤ w.heap.size) :
    ∃ v' w', (Builtin.append_ #[t, t] ty #[v, .slice a m c]).run P w = .ok v' w' ∧ w'.ownsRow base e 1 v' (n + m) (xs ++ news) ∧ w.grownBy w' v.ownBlock := by
  cases a with
  | some ad =>
    obtain ⟨v', w', hr, h2, h3, -⟩ := run_append_own (P := P) w base t ty e i z 1 bytes ht hi hz hsize hby hzs (by decide) v n xs hown ad m c news (by omega) hs.cells h1 h63 hbytes hbase
    exact ⟨v', w', hr, h2, h3⟩
  | none =>
    have hn : news = [] := by
      cases news with
      | nil => rfl
      | cons u us => obtain ⟨b, off, he, -⟩ := hs 0 u rfl; cases he
    subst hn
    have hm0 : m = 0 := hm
    subst hm0
    rw [hc rfl]
    exact ⟨v, w, run_append_owned_none (P := P) (w := w) base t ty e i 1 ht hi v n xs hown, by simpa using hown, ⟨rfl, rfl, rfl, Nat.le_refl _, fun _ _ _ => rfl⟩⟩

/-- append, outside a region whose order is open. -/
theorem wpList_append_sl {P : Program} (w : World) {ops : Array Oper} {rest : List Oper} {o : Oper} {a : Act} {Q : Exit → Act → World → Prop} (hgd : o.guard = none) (s x : Operand) (t : TypeId)
    (ho : o.op = .call { callee := .builtin .append, args := #[s, x], argTypes := #[t, t] })
    (base : Nat) (e : TypeId) (i : TypeInfo) (z : Value) (bytes : Nat) (ht : P.underlying t = some (.slice e)) (hi : P.info? e = some i) (hz : i.zero = some z)
    (hsize : i.size = 1) (hby : i.bytes = bytes) (hzs : z.cells.size = 1)
    (v : Value) (n : Nat) (xs : List Value) (hs : a.eval s = v) (hown : w.ownsRow base e 1 v n xs)
    (ad : Option Addr) (m c : Nat) (news : List Value) (hx : a.eval x = .slice ad m c) (hsl : SlV w ad news) (hm : m = news.length) (hc : ad = none → c = 0) (h1 : ∀ u ∈ news, u.oneCell' = true)
    (h63 : n + m ≤ maxLen) (hbytes : (n + m) * bytes ≤ 140737488355328) (hbase : base ≤ w.heap.size)
    (h : ∀ v' w', w'.ownsRow base e 1 v' (n + m) (xs ++ news) → w.grownBy w' v.ownBlock → wpList P ops Q rest (a.put o.dst v') w') : wpList P ops Q (o :: rest) a w :=
  wpList_plain hgd fun K hK => by
    obtain ⟨v', w', hr, h2, h3⟩ := run_append_sl (P := P) w base t o.type e i z bytes ht hi hz hsize hby hzs v n xs hown ad m c news hsl hm hc h1 h63 hbytes hbase
    unfold Oper.wp execOp
    simp only [ho, resolve, invoke, builtin, Sem.run_bind, Sem.run_pure, Result.andThen_ok, List.map_toArray, List.map_cons, List.map_nil, hs, hx, hr]
    exact hK _ _ (h v' w' h2 h3)

/-- append, as one step of a region whose order is open. -/
theorem step_append_sl {P : Program} {w : World} {ops : Array Oper} {o : Oper} {a : Act} {K : Act → World → Prop} {Q : Exit → Act → World → Prop} {E : Prop} (hgd : o.guard = none) (s x : Operand) (t : TypeId)
    (ho : o.op = .call { callee := .builtin .append, args := #[s, x], argTypes := #[t, t] })
    (base : Nat) (e : TypeId) (i : TypeInfo) (z : Value) (bytes : Nat) (ht : P.underlying t = some (.slice e)) (hi : P.info? e = some i) (hz : i.zero = some z)
    (hsize : i.size = 1) (hby : i.bytes = bytes) (hzs : z.cells.size = 1)
    (v : Value) (n : Nat) (xs : List Value) (hs : a.eval s = v) (hown : w.ownsRow base e 1 v n xs)
    (ad : Option Addr) (m c : Nat) (news : List Value) (hx : a.eval x = .slice ad m c) (hsl : SlV w ad news) (hm : m = news.length) (hc : ad = none → c = 0) (h1 : ∀ u ∈ news, u.oneCell' = true)
    (h63 : n + m ≤ maxLen) (hbytes : (n + m) * bytes ≤ 140737488355328) (hbase : base ≤ w.heap.size)
    (h : ∀ v' w', w'.ownsRow base e 1 v' (n + m) (xs ++ news) → w.grownBy w' v.ownBlock → K (a.put o.dst v') w') :
    if Region.wanted o (yielded ops a.tmps) = true then Oper.wp P o a w K Q else E := by
  have hw : Region.wanted o (yielded ops a.tmps) = true := by simp [Region.wanted, hgd]
  rw [if_pos hw]
  obtain ⟨v', w', hr, h2, h3⟩ := run_append_sl (P := P) w base t o.type e i z bytes ht hi hz hsize hby hzs v n xs hown ad m c news hsl hm hc h1 h63 hbytes hbase
  unfold Oper.wp execOp
  simp only [ho, resolve, invoke, builtin, Sem.run_bind, Sem.run_pure, Result.andThen_ok, List.map_toArray, List.map_cons, List.map_nil, hs, hx, hr]
  exact h v' w' h2 h3

/-- x[1:] of a slice that is not empty: what the walk is told of it. -/
theorem tail_run {P : Program} {t e : TypeId} {w : World} {b off n c : Nat} {v : Value} {vs : List Value} (ht : P.underlying t = some (.slice e)) (hsz : ∀ wx, (sizeOf e).run P wx = .ok 1 wx)
    (hs : SlV w (some ⟨b, off, none⟩) (v :: vs)) (hn : n = (v :: vs).length) (hc : n ≤ c) :
    ∃ A, (∀ wx, (Instr.slice t (.slice (some ⟨b, off, none⟩) n c) (some (.int .i64 1)) none none).run P wx = .ok (.slice (some A) vs.length (c - 1)) wx) ∧ SlV w (some A) vs := by
  have he : P.elem t = e := by simp [Program.elem, ht]
  simp only [List.length_cons] at hn
  by_cases h1 : c = 1
  · have : vs = [] := List.eq_nil_of_length_eq_zero (by omega)
    subst this
    refine ⟨⟨b, off, none⟩, fun wx => ?_, SlV.nil _ _⟩
    rw [run_slice_l (P := P) wx t _ n c (by rw [he]; exact ht) .i64 1 (by omega) (by omega), he, hsz]
    simp [sliced, Result.andThen, h1, hn]
  · refine ⟨⟨b, off + 1, none⟩, fun wx => ?_, fun j u hj => ?_⟩
    · rw [run_slice_l (P := P) wx t _ n c (by rw [he]; exact ht) .i64 1 (by omega) (by omega), he, hsz]
      simp [sliced, Result.andThen, h1, hn, Addr.add]
    · obtain ⟨b', off', he, hcell⟩ := hs (j + 1) u (by simpa using hj)
      simp at he
      obtain ⟨rfl, rfl⟩ := he
      exact ⟨b, off + 1, rfl, by rw [Nat.add_assoc, Nat.add_comm 1 j]; exact hcell⟩

theorem slv_one {w : World} {b : Nat} {u : Value} (h : w.cell? ⟨b, 0, none⟩ = some u) : SlV w (some ⟨b, 0, none⟩) [u] := by
  intro j v hj
  match j, hj with
  | 0, hj => simp at hj; subst hj; exact ⟨b, 0, rfl, h⟩

theorem one_int {x : Int} : ∀ u ∈ [Value.int .i64 x], u.oneCell' = true := by
  intro u hu; simp at hu; subst hu; rfl

/-- A new block behind draws reads as its one value. -/
theorem slv_new_dr (w : World) (n : Nat) (u : Value) (e : TypeId) (m : Nat × Nat) : SlV ((w.drewN n).alloc (.cells #[u] e m)) (some ⟨w.heap.size, 0, none⟩) [u] := by
  refine slv_one ?_
  have h : ((w.drewN n).alloc (.cells #[u] e m)).heap[w.heap.size]? = some (.cells #[u] e m) := heap_alloc_new (w.drewN n) _
  rw [cell_of_row _ _ _ _ _ _ h]
  simp

/-- The length in a slot that holds a slice. -/
def lenOfV : Value → Nat | .slice _ n _ => n | _ => 0

theorem ints_one {xs : List Int} : ∀ u ∈ ints xs, u.oneCell' = true := by
  intro u hu
  simp [ints] at hu
  obtain ⟨x, -, rfl⟩ := hu
  rfl

/-- The slice value 'v' reads as the ints 'xs', whose cells lie in a block of the call's own (from B on). -/
def OwnT (e : TypeId) (w : World) (B : Nat) (v : Value) (xs : List Int) : Prop :=
  ∃ a c, v = .slice a xs.length c ∧ xs.length ≤ c ∧ (a = none → c = 0) ∧
    ∀ ad, a = some ad → ∃ g off cur, ad = ⟨g, off, none⟩ ∧ B ≤ g ∧ w.heap[g]? = some (.cells cur e (0, 0)) ∧ ∀ j x, xs[j]? = some x → cur[off + j]? = some (.int .i64 x)

theorem ownT_of_own {w : World} {B e n : Nat} {v : Value} {xs : List Int} (h : w.ownsRow B e 1 v n (ints xs)) : OwnT e w B v xs := by
  have hn : n = xs.length := by have := h.1; simp at this; omega
  rcases h.2 with ⟨rfl, h0⟩ | ⟨g, cap, cur, rfl, hB, hg, hle, _, _, ht⟩
  · subst h0
    have : xs = [] := List.eq_nil_of_length_eq_zero (by omega)
    subst this
    exact ⟨none, 0, rfl, Nat.le_refl _, fun _ => rfl, nofun⟩
  · refine ⟨some ⟨g, 0, none⟩, cap, by rw [hn], by omega, nofun, fun ad had => ⟨g, 0, cur, (Option.some.inj had).symm, hB, hg, fun j x hj => ?_⟩⟩
    have h1 : (ints xs)[j]? = some (.int .i64 x) := by simp [ints, hj]
    rw [← ht, List.getElem?_take] at h1
    split at h1
    · simpa using h1
    · cases h1

theorem OwnT.sli {e : TypeId} {w : World} {B : Nat} {v : Value} {xs : List Int} (h : OwnT e w B v xs) : SlI w v xs := by
  obtain ⟨a, c, h1, h2, h3, h4⟩ := h
  refine ⟨a, c, h1, h2, h3, fun j u hj => ?_⟩
  cases a with
  | none =>
    have := h3 rfl
    have h0 : xs = [] := List.eq_nil_of_length_eq_zero (by omega)
    subst h0
    simp [ints] at hj
  | some ad =>
    obtain ⟨g, off, cur, rfl, -, hg, hc⟩ := h4 ad rfl
    simp only [ints, List.getElem?_map, Option.map_eq_some_iff] at hj
    obtain ⟨x, hx, rfl⟩ := hj
    exact ⟨g, off, rfl, by rw [cell_of_row _ _ _ _ _ _ hg]; exact hc j x hx⟩

theorem OwnT.below {e : TypeId} {w w' : World} {B : Nat} {v : Value} {xs : List Int} (h : OwnT e w B v xs) (hb : Below w.heap.size w w') : OwnT e w' B v xs := by
  obtain ⟨a, c, h1, h2, h3, h4⟩ := h
  refine ⟨a, c, h1, h2, h3, fun ad had => ?_⟩
  obtain ⟨g, off, cur, e1, e2, e3, e4⟩ := h4 ad had
  exact ⟨g, off, cur, e1, e2, by rw [hb.block g (Array.getElem?_eq_some_iff.1 e3).1]; exact e3, e4⟩

theorem OwnT.base {e : TypeId} {w : World} {B B' : Nat} {v : Value} {xs : List Int} (h : OwnT e w B v xs) (hB : B' ≤ B) : OwnT e w B' v xs := by
  obtain ⟨a, c, h1, h2, h3, h4⟩ := h
  refine ⟨a, c, h1, h2, h3, fun ad had => ?_⟩
  obtain ⟨g, off, cur, e1, e2, e3⟩ := h4 ad had
  exact ⟨g, off, cur, e1, by omega, e3⟩

/-- x[1:] of a slice of ints of the call's own that is not empty. -/
theorem ownT_tail {P : Program} {t e : TypeId} {w : World} {B n c : Nat} {a : Option Addr} {x : Int} {xs : List Int} (ht : P.underlying t = some (.slice e)) (hsz : ∀ wx, (sizeOf e).run P wx = .ok 1 wx)
    (h : OwnT e w B (.slice a n c) (x :: xs)) :
    ∃ A, (∀ wx, (Instr.slice t (.slice a n c) (some (.int .i64 1)) none none).run P wx = .ok (.slice (some A) xs.length (c - 1)) wx) ∧ OwnT e w B (.slice (some A) xs.length (c - 1)) xs := by
  have he : P.elem t = e := by simp [Program.elem, ht]
  obtain ⟨a', c', h1, h2, h3, h4⟩ := h
  simp only [Value.slice.injEq] at h1
  obtain ⟨rfl, rfl, rfl⟩ := h1
  simp only [List.length_cons] at h2 ⊢
  cases a with
  | none => have := h3 rfl; omega
  | some ad =>
    obtain ⟨g, off, cur, rfl, hB, hg, hc⟩ := h4 ad rfl
    by_cases h1 : c = 1
    · have : xs = [] := List.eq_nil_of_length_eq_zero (by omega)
      subst this
      refine ⟨⟨g, off, none⟩, fun wx => ?_, _, _, rfl, by simp, nofun, fun ad had => ⟨g, off, cur, (Option.some.inj had).symm, hB, hg, by simp⟩⟩
      rw [run_slice_l (P := P) wx t _ _ c (by rw [he]; exact ht) .i64 1 (by omega) (by simp), he, hsz]
      simp [sliced, Result.andThen, h1]
    · refine ⟨⟨g, off + 1, none⟩, fun wx => ?_, _, _, rfl, by omega, nofun, fun ad had => ⟨g, off + 1, cur, (Option.some.inj had).symm, hB, hg, fun j y hj => ?_⟩⟩
      · rw [run_slice_l (P := P) wx t _ _ c (by rw [he]; exact ht) .i64 1 (by omega) (by omega), he, hsz]
        simp [sliced, Result.andThen, h1, Addr.add]
      · have := hc (j + 1) y (by simpa using hj)
        rw [Nat.add_assoc, Nat.add_comm 1 j]; exact this

end Go.Proofs.Ytfofabbnbmieoaa

/- Memory of the call's own, told block by block: which blocks a call may have touched; rows of ints in blocks. -/
namespace Go.Proofs.Ytfofabbnbmieoaa.Ord
open Go.RowKit

theorem info_int : (Try.prog.info? 3).map (fun i => (i.zero, i.size, i.bytes)) = some (some (.int .i64 0), 1, 8) := by kernel_rfl
theorem sizeOf_int (wx : World) : (sizeOf 3).run Try.prog wx = .ok 1 wx := by kernel_rfl

theorem below_al {B : Nat} {a w : World} (h : Below B a w) (hB : B ≤ w.heap.size) (o : Obj) : Below B a (w.alloc o) := h.alloc hB o
theorem box_below (w : World) (o : Obj) : Below w.heap.size w (w.alloc o) := below_al (Below.refl _ _) (Nat.le_refl _) _
theorem heap_al (w : World) (o : Obj) : (w.alloc o).heap = w.heap.push o := rfl
theorem heap_dr (w : World) (n : Nat) : (w.drewN n).heap = w.heap := rfl
theorem heap_drew (w : World) : w.drew.heap = w.heap := rfl
theorem size_al (w : World) (o : Obj) : (w.alloc o).heap.size = w.heap.size + 1 := by simp
theorem setCell_size (w : World) (a : Addr) (v : Value) : (w.setCell a v).heap.size = w.heap.size := by simp [World.setCell]

theorem fit_cell {w : World} {b : Nat} {e : TypeId} {vs : List Value} {m : Nat × Nat} (h : w.heap[b]? = some (.cells vs.toArray e m)) (j : Nat) : w.cell? ⟨b, j, none⟩ = vs[j]? := by
  rw [cell_of_row _ _ _ _ _ _ h]; simp

theorem setCell_block {w : World} {b o : Nat} {e : TypeId} {xs : List Value} (v : Value) (h : w.heap[b]? = some (.cells xs.toArray e (0, 0))) : (w.setCell ⟨b, o, none⟩ v).heap[b]? = some (.cells (xs.set o v).toArray e (0, 0)) := by
  have := heap_setCell_same w b o xs.toArray e v h
  rw [this]
  simp

theorem ints_get {xs : List Int} {k : Nat} {x : Int} (h : xs[k]? = some x) : (ints xs)[k]? = some (.int .i64 x) := by simp [ints, h]
theorem ints_set (xs : List Int) (k : Nat) (x : Int) : (ints xs).set k (.int .i64 x) = ints (xs.set k x) := by simp [ints, List.map_set]

/-- But for the blocks of S, what was there is as it was. -/
structure Touch (S : Nat → Prop) (w w' : World) : Prop where
  os : w'.os = w.os
  tape : w'.tape = w.tape
  output : w'.output = w.output
  size : w.heap.size ≤ w'.heap.size
  block : ∀ k, k < w.heap.size → ¬ S k → w'.heap[k]? = w.heap[k]?

theorem Touch.refl (S : Nat → Prop) (w : World) : Touch S w w := ⟨rfl, rfl, rfl, Nat.le_refl _, fun _ _ _ => rfl⟩
theorem Touch.trans {S : Nat → Prop} {a b c : World} (h : Touch S a b) (k : Touch S b c) : Touch S a c :=
  ⟨k.os.trans h.os, k.tape.trans h.tape, k.output.trans h.output, Nat.le_trans h.size k.size, fun i hi hn => (k.block i (by have := h.size; omega) hn).trans (h.block i hi hn)⟩
theorem Touch.mono {S S' : Nat → Prop} {a b : World} (h : Touch S a b) (hs : ∀ k, k < a.heap.size → S k → S' k) : Touch S' a b :=
  ⟨h.os, h.tape, h.output, h.size, fun i hi hn => h.block i hi (fun e => hn (hs i hi e))⟩
theorem Touch.drew {S : Nat → Prop} {a b : World} (h : Touch S a b) : Touch S a b.drew := ⟨h.os, h.tape, h.output, h.size, h.block⟩
theorem Touch.drewN {S : Nat → Prop} {a b : World} (h : Touch S a b) (n : Nat) : Touch S a (b.drewN n) := ⟨h.os, h.tape, h.output, h.size, h.block⟩
theorem Touch.setCell {S : Nat → Prop} {a b : World} (h : Touch S a b) {p : Addr} (hp : S p.block) (u : Value) : Touch S a (b.setCell p u) :=
  ⟨h.os, h.tape, h.output, by rw [setCell_size]; exact h.size, fun i hi hn => (Below.heap_setCell b p u i (fun e => hn (by rw [e]; exact hp))).trans (h.block i hi hn)⟩
theorem Touch.alloc {S : Nat → Prop} {a b : World} (h : Touch S a b) (o : Obj) : Touch S a (b.alloc o) :=
  ⟨h.os, h.tape, h.output, by rw [size_al]; have := h.size; omega, fun i hi hn => (Below.heap_alloc _ _ _ (by have := h.size; omega)).trans (h.block i hi hn)⟩
theorem Touch.grown {S : Nat → Prop} {a b c : World} {row : Option Nat} (h : Touch S a b) (hg : b.grownBy c row) (hr : ∀ k, row = some k → S k ∨ a.heap.size ≤ k) : Touch S a c :=
  ⟨hg.os.trans h.os, hg.tape.trans h.tape, hg.output.trans h.output, Nat.le_trans h.size hg.size, fun i hi hn => (hg.block i (by have := h.size; omega) (fun e => by rcases hr i e.symm with h1 | h1; exact hn h1; omega)).trans (h.block i hi hn)⟩
theorem Touch.below {S : Nat → Prop} {B : Nat} {a b : World} (h : Touch S a b) (hB : B ≤ a.heap.size) (hs : ∀ k, S k → B ≤ k) : Below B a b :=
  ⟨h.os, h.tape, h.output, h.size, fun k hk => h.block k (by omega) (fun e => by have := hs k e; omega)⟩
theorem touch_of_below {S : Nat → Prop} {a b : World} (h : Below a.heap.size a b) : Touch S a b := ⟨h.os, h.tape, h.output, h.size, fun k hk _ => h.block k hk⟩

/-- A row of ints of the call's own, whatever its base. -/
def Rw (w : World) (v : Value) (xs : List Int) : Prop := w.ownsRow 0 3 1 v xs.length (ints xs)

theorem rw_frame {w w' : World} {v : Value} {xs : List Int} (h : Rw w v xs) (hk : ∀ k, v.ownBlock = some k → w'.heap[k]? = w.heap[k]?) : Rw w' v xs := by
  refine ⟨h.1, ?_⟩
  rcases h.2 with h0 | ⟨g, cap, cur, e1, e2, e3, e4⟩
  · exact .inl h0
  · exact .inr ⟨g, cap, cur, e1, e2, by rw [hk g (by rw [e1]; rfl)]; exact e3, e4⟩

theorem rw_form {w : World} {v : Value} {xs : List Int} (h : Rw w v xs) (hn : 0 < xs.length) : ∃ g c, v = .slice (some ⟨g, 0, none⟩) xs.length c := by
  rcases h.2 with ⟨_, h0⟩ | ⟨g, cap, cur, h1, _⟩
  · omega
  · exact ⟨g, cap, h1⟩

theorem rw_shape {w : World} {v : Value} {xs : List Int} (h : Rw w v xs) : ∃ a c, v = .slice a xs.length c ∧ xs.length ≤ c ∧ (a = none → c = 0) ∧ SlV w a (ints xs) := by
  obtain ⟨a, c, h1, h2, h3, h4⟩ := own_sli h
  exact ⟨a, c, h1, h2, h3, h4⟩

theorem rw_lt {w : World} {v : Value} {xs : List Int} (h : Rw w v xs) : ∀ k, v.ownBlock = some k → k < w.heap.size := fun k hk => (h.lt k hk).2

theorem rw_get {w : World} {g c n : Nat} {xs : List Int} {k : Nat} (h : Rw w (.slice (some ⟨g, 0, none⟩) n c) xs) (hn : n = xs.length) (hk : k < xs.length) : w.cell? ⟨g, k, none⟩ = some (.int .i64 xs[k]) := by
  subst hn
  rw [World.ownsRow.cellAt h k (by omega)]; exact ints_get (by simp)

theorem rw_free {w : World} {g c n : Nat} {xs : List Int} (h : Rw w (.slice (some ⟨g, 0, none⟩) n c) xs) (hn : n = xs.length) (k : Nat) : w.frozen? ⟨g, k, none⟩ = false := by
  subst hn
  exact World.ownsRow.frozenAt h k

theorem rw_set {w : World} {g c n : Nat} {xs : List Int} (h : Rw w (.slice (some ⟨g, 0, none⟩) n c) xs) (hn : n = xs.length) (k : Nat) (x : Int) : Rw (w.setCell ⟨g, k, none⟩ (.int .i64 x)) (.slice (some ⟨g, 0, none⟩) n c) (xs.set k x) := by
  subst hn
  have := (World.ownsRow.stored h k (.int .i64 x)).1
  rw [ints_set] at this
  unfold Rw
  rw [List.length_set]
  exact this

/-- x[:k] of a row. -/
theorem rw_take {w : World} {g c n : Nat} {xs : List Int} (h : Rw w (.slice (some ⟨g, 0, none⟩) n c) xs) (hn : n = xs.length) {k : Nat} (hk : k ≤ xs.length) : Rw w (.slice (some ⟨g, 0, none⟩) k c) (xs.take k) := by
  subst hn
  refine ⟨by simp, ?_⟩
  rcases h.2 with ⟨h0, _⟩ | ⟨g', cap, cur, e1, e2, e3, e4, e5, e6, e7⟩
  · cases h0
  · injection e1 with a1 a2 a3
    have hl : (xs.take k).length = k := by simp; omega
    refine .inr ⟨g', cap, cur, ?_, e2, e3, by omega, e5, e6, ?_⟩
    · rw [hl, a1, a3]
    · rw [hl]
      have : (ints (xs.take k)) = (ints xs).take k := by simp [ints]
      rw [this, ← e7, List.take_take]
      congr 1
      omega

theorem rw_apart {w : World} {b : Nat} {cs : Array Value} {e : TypeId} {m : Nat × Nat} {v : Value} {xs : List Int} (h : Rw w v xs) (hb : w.heap[b]? = some (.cells cs e m)) (hne : e ≠ 3) : v.ownBlock ≠ some b := by
  intro he
  rcases h.2 with ⟨rfl, _⟩ | ⟨g, cap, cur, rfl, _, hg, _⟩
  · simp [Value.ownBlock] at he
  · simp only [Value.ownBlock, Option.some.injEq] at he
    rw [he, hb] at hg
    simp at hg
    exact hne hg.2.1

end Go.Proofs.Ytfofabbnbmieoaa.Ord

/- Maps whose keys are ints: what the map in a block holds, as a list of entries in the order in which their keys came in; what a look-up, a store, a delete and len do to it. -/
namespace Go.Proofs.Ytfofabbnbmieoaa.Ord
open Go.RowKit Go.MapKept

/-- The value at a key. -/
def aget (es : List (Int × Value)) (k : Int) : Option Value := (es.find? fun p => p.1 == k).map (·.2)
/-- A store at a key. -/
def aput (es : List (Int × Value)) (k : Int) (v : Value) : List (Int × Value) := if es.any (fun p => p.1 == k) then es.map (fun p => if p.1 = k then (k, v) else p) else es ++ [(k, v)]
/-- A key struck. -/
def adel (es : List (Int × Value)) (k : Int) : List (Int × Value) := es.filter fun p => p.1 != k

theorem aget_none {es : List (Int × Value)} {k : Int} (h : ∀ p ∈ es, p.1 ≠ k) : aget es k = none := by
  unfold aget
  rw [List.find?_eq_none.2 (fun p hp => by simpa using h p hp)]
  rfl

theorem aget_at {es : List (Int × Value)} {k : Int} {v : Value} (hn : (es.map (·.1)).Nodup) {j : Nat} (h : es[j]? = some (k, v)) : aget es k = some v := by
  unfold aget
  induction es generalizing j with
  | nil => simp at h
  | cons p es ih =>
    rw [List.map_cons, List.nodup_cons] at hn
    cases j with
    | zero => simp at h; subst h; simp
    | succ j =>
      simp at h
      have hne : p.1 ≠ k := fun e => hn.1 (by rw [e]; exact List.mem_map.2 ⟨(k, v), List.mem_of_getElem? h, rfl⟩)
      have hb : (p.1 == k) = false := by simpa using hne
      rw [List.find?_cons, hb]
      exact ih hn.2 h

theorem aget_of_mem {es : List (Int × Value)} {k : Int} {v : Value} (hn : (es.map (·.1)).Nodup) (h : (k, v) ∈ es) : aget es k = some v := by
  obtain ⟨j, hj⟩ := List.mem_iff_getElem?.1 h
  exact aget_at hn hj

theorem aput_keys {es : List (Int × Value)} {k : Int} {v : Value} : (aput es k v).map (·.1) = if es.any (fun p => p.1 == k) then es.map (·.1) else es.map (·.1) ++ [k] := by
  unfold aput
  split
  · rw [List.map_map]
    refine List.map_congr_left fun p _ => ?_
    simp only [Function.comp]
    split
    · rename_i h; exact h.symm
    · rfl
  · simp

theorem aput_nodup {es : List (Int × Value)} {k : Int} {v : Value} (hn : (es.map (·.1)).Nodup) : ((aput es k v).map (·.1)).Nodup := by
  rw [aput_keys]
  split
  · exact hn
  · rename_i h
    refine List.nodup_append.2 ⟨hn, by simp, fun a ha c hc => ?_⟩
    simp only [List.mem_singleton] at hc
    subst hc
    rintro rfl
    obtain ⟨p, hp, rfl⟩ := List.mem_map.1 ha
    exact h (List.any_eq_true.2 ⟨p, hp, by simp⟩)

theorem aget_aput_same {es : List (Int × Value)} {k : Int} {v : Value} (hn : (es.map (·.1)).Nodup) : aget (aput es k v) k = some v := by
  refine aget_of_mem (aput_nodup hn) ?_
  unfold aput
  split
  · rename_i h
    obtain ⟨p, hp, hk⟩ := List.any_eq_true.1 h
    exact List.mem_map.2 ⟨p, hp, by rw [if_pos (by simpa using hk)]⟩
  · simp

theorem aget_aput_other {es : List (Int × Value)} {k k' : Int} {v : Value} (hne : k' ≠ k) : aget (aput es k v) k' = aget es k' := by
  unfold aget aput
  split
  · rw [List.find?_map, Option.map_map]
    have e : ((fun p : Int × Value => p.1 == k') ∘ fun p => if p.1 = k then (k, v) else p) = fun p => p.1 == k' := by
      funext p
      simp only [Function.comp]
      split
      · rename_i h; rw [h]
      · rfl
    rw [e]
    cases hf : es.find? (fun p => p.1 == k') with
    | none => rfl
    | some p =>
      have h3 := List.find?_some hf
      simp at h3
      simp only [Option.map_some, Function.comp]
      rw [if_neg (by rw [h3]; exact hne)]
  · rw [List.find?_append]
    cases hf : es.find? (fun p => p.1 == k') with
    | none => simp [Ne.symm hne]
    | some p => simp

/-- The map at the block b: its entries, in the order in which their keys came in. -/
def IM (w : World) (b : Nat) (es : List (Int × Value)) : Prop :=
  ∃ arr clock, w.heap[b]? = some (.map arr clock) ∧ Stamped arr clock ∧ arr.toList.map (fun e => (e.key, e.val)) = es.map (fun p => (Value.int .i64 p.1, p.2))

theorem IM.frame {w w' : World} {b : Nat} {es : List (Int × Value)} (h : IM w b es) (hk : w'.heap[b]? = w.heap[b]?) : IM w' b es :=
  let ⟨arr, c, h1, h2⟩ := h; ⟨arr, c, hk.trans h1, h2⟩

theorem IM.lt {w : World} {b : Nat} {es : List (Int × Value)} (h : IM w b es) : b < w.heap.size :=
  let ⟨_, _, h1, _⟩ := h; (Array.getElem?_eq_some_iff.1 h1).1

theorem im_made (w : World) : IM (w.alloc (.map #[] 0)) w.heap.size [] := ⟨#[], 0, heap_alloc_new _ _, stamped_empty 0, rfl⟩

theorem im_size {arr : Array MapEntry} {es : List (Int × Value)} (h : arr.toList.map (fun e => (e.key, e.val)) = es.map (fun p => (Value.int .i64 p.1, p.2))) : arr.size = es.length := by
  have := congrArg List.length h
  simpa using this

theorem im_at {arr : Array MapEntry} {es : List (Int × Value)} (h : arr.toList.map (fun e => (e.key, e.val)) = es.map (fun p => (Value.int .i64 p.1, p.2))) {j : Nat} {e : MapEntry} (hj : arr.toList[j]? = some e) :
    ∃ p, es[j]? = some p ∧ e.key = .int .i64 p.1 ∧ e.val = p.2 := by
  have := congrArg (·[j]?) h
  simp only [List.getElem?_map, hj, Option.map_some] at this
  cases hp : es[j]? with
  | none => simp [hp] at this
  | some p =>
    simp only [hp, Option.map_some, Option.some.injEq, Prod.mk.injEq] at this
    exact ⟨p, rfl, this.1, this.2⟩

theorem im_at' {arr : Array MapEntry} {es : List (Int × Value)} (h : arr.toList.map (fun e => (e.key, e.val)) = es.map (fun p => (Value.int .i64 p.1, p.2))) {j : Nat} {p : Int × Value} (hj : es[j]? = some p) :
    ∃ e, arr.toList[j]? = some e ∧ e.key = .int .i64 p.1 ∧ e.val = p.2 := by
  have := congrArg (·[j]?) h
  simp only [List.getElem?_map, hj, Option.map_some] at this
  cases he : arr.toList[j]? with
  | none => rw [he] at this; cases this
  | some e =>
    simp only [he, Option.map_some, Option.some.injEq, Prod.mk.injEq] at this
    exact ⟨e, rfl, this.1, this.2⟩

theorem im_isKey {arr : Array MapEntry} {es : List (Int × Value)} (h : arr.toList.map (fun e => (e.key, e.val)) = es.map (fun p => (Value.int .i64 p.1, p.2))) : ∀ x ∈ arr.toList, IsKey (.int .i64) x.key := fun x hx => by
  obtain ⟨j, hj⟩ := List.mem_iff_getElem?.1 hx
  obtain ⟨p, -, hp, -⟩ := im_at h hj
  rw [hp]; rfl

theorem im_nodup {arr : Array MapEntry} {clock : Nat} {es : List (Int × Value)} (hs : Stamped arr clock) (h : arr.toList.map (fun e => (e.key, e.val)) = es.map (fun p => (Value.int .i64 p.1, p.2))) : (es.map (·.1)).Nodup := by
  have h3 := hs.2.2
  have e1 : arr.toList.map (·.key) = es.map (fun p => Value.int .i64 p.1) := by
    have := congrArg (List.map (·.1)) h
    simpa [List.map_map, Function.comp_def] using this
  rw [e1] at h3
  refine List.pairwise_map.2 ((List.pairwise_map.1 h3).imp fun {a c} hac => fun e => hac (by rw [e]))

theorem IM.nodup {w : World} {b : Nat} {es : List (Int × Value)} (h : IM w b es) : (es.map (·.1)).Nodup := by
  obtain ⟨arr, c, h1, h2, h3⟩ := h
  exact im_nodup h2 h3

/-- A look-up. -/
theorem im_lookup {P : Program} {t kt et : TypeId} {z : Value} (ht : P.underlying t = some (.map kt et)) (hk : P.underlying kt = some (.int .i64)) {w : World} (hz : (zeroValue et).run P w = .ok z w) {b : Nat} {es : List (Int × Value)} (h : IM w b es) (k : Int) :
    (Instr.lookup t (.map (some b)) (.int .i64 k) false).run P w = .ok ((aget es k).getD z) w := by
  obtain ⟨arr, c, h1, h2, h3⟩ := h
  have hn := im_nodup h2 h3
  have hc : ∀ e, (Instr.checkKey e 10000 kt (.int .i64 k)).run P w = .ok () w := fun e => run_checkKey (k := .int .i64 k) hk rfl e 9999
  rcases findNow_spec (d := .int .i64) (k := .int .i64 k) rfl arr.toList 0 (im_isKey h3) with ⟨f1, f2⟩ | ⟨j, e, f1, f2, f3⟩
  · have hg : aget es k = none := aget_none fun p hp e => by
      obtain ⟨j, hj⟩ := List.mem_iff_getElem?.1 hp
      obtain ⟨x, hx, hx1, -⟩ := im_at' h3 hj
      exact f2 x (List.mem_of_getElem? hx) (by rw [hx1, e])
    rw [hg]
    simp [Instr.lookup, run_underlying ht, MapKept.run_getObj_map h1, hc, run_findKey hk f1, hz, Result.andThen]
  · obtain ⟨p, hp, hp1, hp2⟩ := im_at h3 f2
    have hpk : p.1 = k := by rw [f3] at hp1; injection hp1 with _ hp1; exact hp1.symm
    have hg : aget es k = some e.val := aget_at hn (j := j) (by rw [hp, hp2, ← hpk])
    rw [hg]
    simp [Instr.lookup, run_underlying ht, MapKept.run_getObj_map h1, hc, run_findKey hk f1, Result.andThen]

/-- A block written whole. -/
theorem touch_set (w : World) (b : Nat) (o : Obj) : Touch (fun k => k = b) w { w with heap := w.heap.setIfInBounds b o } :=
  ⟨rfl, rfl, rfl, by simp, fun k _ hn => by simp [Ne.symm hn]⟩

/-- A store. -/
theorem im_update {P : Program} {t kt et : TypeId} (ht : P.underlying t = some (.map kt et)) (hk : P.underlying kt = some (.int .i64)) {w : World} {b : Nat} {es : List (Int × Value)} (h : IM w b es) (k : Int) (v : Value) :
    ∃ w', (Instr.mapUpdate t (.map (some b)) (.int .i64 k) v).run P w = .ok () w' ∧ IM w' b (aput es k v) ∧ Touch (fun i => i = b) w w' ∧ w'.heap.size = w.heap.size := by
  obtain ⟨arr, c, h1, h2, h3⟩ := h
  have hn := im_nodup h2 h3
  have hc : ∀ e, (Instr.checkKey e 10000 kt (.int .i64 k)).run P w = .ok () w := fun e => run_checkKey (k := .int .i64 k) hk rfl e 9999
  rcases findNow_spec (d := .int .i64) (k := .int .i64 k) rfl arr.toList 0 (im_isKey h3) with ⟨f1, f2⟩ | ⟨j, e, f1, f2, f3⟩
  · have hg : es.any (fun p => p.1 == k) = false := List.any_eq_false.2 fun p hp e => by
      obtain ⟨j, hj⟩ := List.mem_iff_getElem?.1 hp
      obtain ⟨x, hx, hx1, -⟩ := im_at' h3 hj
      exact f2 x (List.mem_of_getElem? hx) (by rw [hx1]; simp at e; rw [e])
    refine ⟨_, by simp [Instr.mapUpdate, run_underlying ht, MapKept.run_getObj_map h1, hc, run_findKey hk f1, run_setObj_map _ h1, Result.andThen]; rfl, ?_, touch_set w b _, by simp⟩
    refine ⟨_, _, (heap_set h1).1, stamped_push h2 f2, ?_⟩
    unfold aput
    rw [hg]
    simp [h3]
  · obtain ⟨p, hp, hp1, hp2⟩ := im_at h3 f2
    have hpk : p.1 = k := by rw [f3] at hp1; injection hp1 with _ hp1; exact hp1.symm
    have hj : arr[j]? = some e := by simpa using f2
    have hg : es.any (fun p => p.1 == k) = true := List.any_eq_true.2 ⟨p, List.mem_of_getElem? hp, by simp [hpk]⟩
    have hkey : ∀ e', arr[j]? = some e' → ({ e' with key := .int .i64 k, val := v } : MapEntry).key = e'.key := fun e' he' => by rw [hj] at he'; cases he'; exact f3.symm
    refine ⟨_, by simp [Instr.mapUpdate, run_underlying ht, MapKept.run_getObj_map h1, hc, run_findKey hk f1, hj, f3, run_keyThatStays (d := .int .i64) (k := .int .i64 k) rfl, run_setObj_map _ h1, Result.andThen]; rfl, ?_, touch_set w b _, by simp⟩
    refine ⟨_, _, (heap_set h1).1, stamped_modify h2 _ _ (fun _ _ => rfl) (fun e' _ he' => hkey e' he'), ?_⟩
    unfold aput
    rw [hg, if_pos rfl]
    refine List.ext_getElem? fun i => ?_
    simp only [List.getElem?_map, Array.getElem?_toList, Array.getElem?_modify]
    by_cases hij : j = i
    · subst hij
      rw [hj, hp]
      simp [hpk]
    · rw [if_neg hij]
      have h4 := congrArg (·[i]?) h3
      simp only [List.getElem?_map, Array.getElem?_toList] at h4
      rw [h4]
      cases hi : es[i]? with
      | none => rfl
      | some q =>
        have hqk : q.1 ≠ k := fun e2 => by
          have hil := (List.getElem?_eq_some_iff.1 hi).1
          have hjl := (List.getElem?_eq_some_iff.1 hp).1
          have hnn := (List.pairwise_iff_getElem.1 hn)
          have hi2 := (List.getElem?_eq_some_iff.1 hi).2
          have hp2 := (List.getElem?_eq_some_iff.1 hp).2
          rcases Nat.lt_or_gt_of_ne hij with hlt | hlt
          · exact hnn j i (by simpa using hjl) (by simpa using hil) hlt (by simp [hi2, hp2, hpk, e2])
          · exact hnn i j (by simpa using hil) (by simpa using hjl) hlt (by simp [hi2, hp2, hpk, e2])
        simp [hqk]

/-- len of a map. -/
theorem im_len {P : Program} {t kt et : TypeId} (ht : P.underlying t = some (.map kt et)) {w : World} {b : Nat} {es : List (Int × Value)} (h : IM w b es) (ty : TypeId) :
    (Builtin.len_ #[t] ty #[.map (some b)]).run P w = .ok (.int .i64 es.length) w := by
  obtain ⟨arr, c, h1, h2, h3⟩ := h
  have hsz := im_size h3
  simp [Builtin.len_, run_underlying ht, MapKept.run_getObj_map h1, Result.andThen, hsz]
  rfl

theorem erase_filter {es : List (Int × Value)} {k : Int} {v : Value} (hn : (es.map (·.1)).Nodup) {j : Nat} (hj : es[j]? = some (k, v)) : es.eraseIdx j = adel es k := by
  unfold adel
  induction es generalizing j with
  | nil => simp at hj
  | cons p es ih =>
    rw [List.map_cons, List.nodup_cons] at hn
    cases j with
    | zero =>
      simp at hj
      subst hj
      simp only [List.eraseIdx_cons_zero]
      rw [List.filter_cons_of_neg (by simp)]
      refine (List.filter_eq_self.2 fun q hq => ?_).symm
      simp only [bne_iff_ne, ne_eq]
      exact fun e => hn.1 (by rw [← e]; exact List.mem_map.2 ⟨q, hq, rfl⟩)
    | succ j =>
      simp at hj
      have hne : p.1 ≠ k := fun e => hn.1 (by rw [e]; exact List.mem_map.2 ⟨(k, v), List.mem_of_getElem? hj, rfl⟩)
      simp only [List.eraseIdx_cons_succ]
      rw [List.filter_cons_of_pos (by simpa using hne), ih hn.2 hj]

/-- delete. -/
theorem im_delete {P : Program} {t kt et : TypeId} (ht : P.underlying t = some (.map kt et)) (hk : P.underlying kt = some (.int .i64)) {w : World} {b : Nat} {es : List (Int × Value)} (h : IM w b es) (k : Int) (ty : TypeId) :
    ∃ w', (Builtin.delete_ #[t, kt] ty #[.map (some b), .int .i64 k]).run P w = .ok (.tuple #[]) w' ∧ IM w' b (adel es k) ∧ Touch (fun i => i = b) w w' ∧ w'.heap.size = w.heap.size := by
  obtain ⟨arr, c, h1, h2, h3⟩ := h
  have hn := im_nodup h2 h3
  have hc : ∀ e, (Instr.checkKey e 10000 kt (.int .i64 k)).run P w = .ok () w := fun e => run_checkKey (k := .int .i64 k) hk rfl e 9999
  rcases findNow_spec (d := .int .i64) (k := .int .i64 k) rfl arr.toList 0 (im_isKey h3) with ⟨f1, f2⟩ | ⟨j, e, f1, f2, f3⟩
  · have hg : adel es k = es := List.filter_eq_self.2 fun p hp => by
      simp only [bne_iff_ne, ne_eq]
      intro e
      obtain ⟨j, hj⟩ := List.mem_iff_getElem?.1 hp
      obtain ⟨x, hx, hx1, -⟩ := im_at' h3 hj
      exact f2 x (List.mem_of_getElem? hx) (by rw [hx1, e])
    rw [hg]
    refine ⟨_, by simp [Builtin.delete_, run_underlying ht, MapKept.run_getObj_map h1, hc, run_findKey hk f1, run_setObj_map _ h1, Result.andThen], ⟨arr, c, (heap_set h1).1, h2, h3⟩, touch_set w b _, by simp⟩
  · obtain ⟨p, hp, hp1, hp2⟩ := im_at h3 f2
    have hpk : p.1 = k := by rw [f3] at hp1; injection hp1 with _ hp1; exact hp1.symm
    refine ⟨_, by simp [Builtin.delete_, run_underlying ht, MapKept.run_getObj_map h1, hc, run_findKey hk f1, run_setObj_map _ h1, Result.andThen], ⟨_, c, (heap_set h1).1, stamped_erase h2 j, ?_⟩, touch_set w b _, by simp⟩
    rw [← erase_filter hn (j := j) (v := p.2) (by rw [hp, ← hpk])]
    have hjl : j < arr.size := by have := (List.getElem?_eq_some_iff.1 f2).1; simpa using this
    unfold Array.eraseIdxIfInBounds
    rw [dif_pos hjl, Array.toList_eraseIdx]
    have e1 : ∀ {α β : Type} (f : α → β) (l : List α) (i : Nat), (l.eraseIdx i).map f = (l.map f).eraseIdx i := fun f l i => by
      induction l generalizing i with
      | nil => simp
      | cons x l ih => cases i <;> simp [ih]
    rw [e1, e1, h3]

/-- An iterator over a map that is not written: which keys are still to come. -/
def IT (w : World) (r b : Nat) (es : List (Int × Value)) (left : List Int) : Prop :=
  ∃ arr clock seen, w.heap[b]? = some (.map arr clock) ∧ Stamped arr clock ∧ arr.toList.map (fun e => (e.key, e.val)) = es.map (fun p => (Value.int .i64 p.1, p.2)) ∧ w.heap[r]? = some (.mapIter (some b) clock seen clock) ∧
    (leftOf arr seen).toList.map (·.key) = left.map (Value.int .i64)

theorem IT.frame {w w' : World} {r b : Nat} {es : List (Int × Value)} {left : List Int} (h : IT w r b es left) (hb : w'.heap[b]? = w.heap[b]?) (hr : w'.heap[r]? = w.heap[r]?) : IT w' r b es left :=
  let ⟨arr, c, s, h1, h2, h3, h4, h5⟩ := h; ⟨arr, c, s, hb.trans h1, h2, h3, hr.trans h4, h5⟩

end Go.Proofs.Ytfofabbnbmieoaa.Ord

/- A walk through code with sends and receives on a buffered channel, in one goroutine, where nothing waits. -/
namespace Go.Proofs.Ytfofabbnbmieoaa.Ord
open Go.RowKit Go.Conc

section
variable {P : Program} {Q : Exit → Act → World → Prop} {a : Act} {w : World}

end

end Go.Proofs.Ytfofabbnbmieoaa.Ord

/- Unit propagation as prop's state does it: counting the literals of each clause that are open. Plain. -/
namespace Go.Proofs.Ytfofabbnbmieoaa.Ord

/-- What set makes of what is known. -/
def setK (K : List Int) (a : Int) : List Int := if -a ∈ K then K else if a ∈ K then K else K ++ [a]

theorem setK_pos {K : List Int} {a : Int} (h : -a ∉ K) (h2 : a ∈ K) : setK K a = K := by unfold setK; rw [if_neg h, if_pos h2]
theorem setK_new {K : List Int} {a : Int} (h : -a ∉ K) (h2 : a ∉ K) : setK K a = K ++ [a] := by unfold setK; rw [if_neg h, if_neg h2]

theorem setK_mem {K : List Int} {x : Int} (h : -x ∉ K) : x ∈ setK K x := by
  unfold setK
  rw [if_neg h]
  split
  · assumption
  · simp

/-- Numbers below a bound, each once, are at most so many. -/
theorem nodup_below : ∀ (n : Nat) (l : List Nat), l.Nodup → (∀ x ∈ l, x < n) → l.length ≤ n
  | 0, l, _, h => by
    cases l with
    | nil => exact Nat.le_refl _
    | cons x l => have := h x (by simp); omega
  | n + 1, l, hn, h => by
    have h1 : (l.filter fun x => decide (x ≠ n)).length ≤ n := nodup_below n _ (List.filter_sublist.nodup hn) fun x hx => by
      obtain ⟨hx1, hx2⟩ := List.mem_filter.1 hx
      have := h x hx1
      simp at hx2
      omega
    have h2 : l.length ≤ (l.filter fun x => decide (x ≠ n)).length + 1 := by
      clear h h1
      induction l with
      | nil => simp
      | cons x l ih =>
        rw [List.nodup_cons] at hn
        have := ih hn.2
        by_cases hx : x = n
        · subst hx
          rw [List.filter_cons]
          simp only [ne_eq, not_true_eq_false, decide_false, Bool.false_eq_true, if_false, List.length_cons]
          have e : l.filter (fun y => decide (y ≠ x)) = l := List.filter_eq_self.2 fun y hy => by simp; exact fun e => hn.1 (by rw [← e]; exact hy)
          simp only [ne_eq] at e
          rw [e]
          omega
        · rw [List.filter_cons]
          simp only [ne_eq, hx, not_false_eq_true, decide_true, if_true, List.length_cons]
          simp only [ne_eq] at this
          omega
    omega

theorem lits_le {n : Nat} {K : List Int} (hn : K.Nodup) (hc : ∀ a ∈ K, -a ∉ K) (hk : ∀ a ∈ K, LitOk n a) : K.length ≤ n := by
  have h1 : (K.map fun a => a.natAbs - 1).Nodup := by
    rw [List.Nodup, List.pairwise_map]
    refine List.Pairwise.imp_of_mem (fun {a c} ha hc' hac => ?_) hn
    have h1 := hk a ha
    have h2 := hk c hc'
    unfold LitOk at h1 h2
    intro e
    rcases (by omega : a = c ∨ a = -c) with e2 | e2
    · exact hac e2
    · exact hc c hc' (by rw [← e2]; exact ha)
  have := nodup_below n _ h1 fun x hx => by
    obtain ⟨a, ha, rfl⟩ := List.mem_map.1 hx
    have := hk a ha
    unfold LitOk at this
    omega
  simpa using this

end Go.Proofs.Ytfofabbnbmieoaa.Ord

/- The contracts of prop's state: set and unit. -/
namespace Go.Proofs.Ytfofabbnbmieoaa.Ord
open Go.RowKit Go.Conc

/-- The entries of a set of literals. -/
def kes (K : List Int) : List (Int × Value) := K.map fun a => (a, .bool true)

theorem kes_get (K : List Int) (a : Int) : (aget (kes K) a).getD (.bool false) = .bool (decide (a ∈ K)) := by
  induction K with
  | nil => rfl
  | cons k K ih =>
    unfold aget kes at ih ⊢
    simp only [List.map_cons, List.find?_cons]
    by_cases h : k = a
    · subst h; simp
    · have hb : (k == a) = false := by simpa using h
      simp only [hb]
      rw [ih]
      have : (a ∈ k :: K) ↔ a ∈ K := by simp [Ne.symm h]
      simp [this]

theorem kes_put {K : List Int} {a : Int} (h : a ∉ K) : aput (kes K) a (.bool true) = kes (K ++ [a]) := by
  have hg : (kes K).any (fun p => p.1 == a) = false := List.any_eq_false.2 fun p hp e => by
    obtain ⟨k, hk, rfl⟩ := List.mem_map.1 hp
    simp at e
    exact h (by rw [← e]; exact hk)
  unfold aput
  rw [hg]
  simp [kes]

theorem kes_nodup {w : World} {b : Nat} {K : List Int} (h : IM w b (kes K)) : K.Nodup := by
  have := h.nodup
  simpa [kes, List.map_map, Function.comp_def] using this

/-- What does not change in a state. -/
structure Rds (w : World) (b : Nat) (vc vo : Value) (bw bk bc : Nat) (C : List (List Int)) (f : Int → List Int) (es : List (Int × Value)) : Prop where
  blk : w.heap[b]? = some (.cells #[vc, vo, .map (some bw), .map (some bk), .chan (some bc)] 103)
  cls : ∃ a c, vc = .slice a C.length c ∧ ∀ (i : Nat) (xs : List Int), C[i]? = some xs → ∃ g o u, a = some ⟨g, o, none⟩ ∧ w.cell? ⟨g, o + i, none⟩ = some u ∧ SlI w u xs
  wth : IM w bw es ∧ ∀ k, SlI w ((aget es k).getD (.slice none 0 0)) (f k)

/-- It does not change where only the blocks of S are written. -/
def Fix (S : Nat → Prop) (w : World) (b : Nat) (vc vo : Value) (bw bk bc : Nat) (C : List (List Int)) (f : Int → List Int) (es : List (Int × Value)) : Prop := ∀ w', Touch S w w' → Rds w' b vc vo bw bk bc C f es

theorem Fix.next {S : Nat → Prop} {w w' : World} {b : Nat} {vc vo : Value} {bw bk bc : Nat} {C : List (List Int)} {f : Int → List Int} {es : List (Int × Value)} (h : Fix S w b vc vo bw bk bc C f es) (ht : Touch S w w') : Fix S w' b vc vo bw bk bc C f es := fun _ h' => h _ (ht.trans h')
theorem Fix.now {S : Nat → Prop} {w : World} {b : Nat} {vc vo : Value} {bw bk bc : Nat} {C : List (List Int)} {f : Int → List Int} {es : List (Int × Value)} (h : Fix S w b vc vo bw bk bc C f es) : Rds w b vc vo bw bk bc C f es := h w (Touch.refl _ _)

theorem Rds.cells {w : World} {b : Nat} {vc vo : Value} {bw bk bc : Nat} {C : List (List Int)} {f : Int → List Int} {es : List (Int × Value)} (h : Rds w b vc vo bw bk bc C f es) :
    w.cell? ⟨b, 0, none⟩ = some vc ∧ w.cell? ⟨b, 1, none⟩ = some vo ∧ w.cell? ⟨b, 2, none⟩ = some (.map (some bw)) ∧ w.cell? ⟨b, 3, none⟩ = some (.map (some bk)) ∧ w.cell? ⟨b, 4, none⟩ = some (.chan (some bc)) :=
  ⟨fit_cell (vs := [vc, vo, .map (some bw), .map (some bk), .chan (some bc)]) h.blk 0, fit_cell (vs := [vc, vo, .map (some bw), .map (some bk), .chan (some bc)]) h.blk 1, fit_cell (vs := [vc, vo, .map (some bw), .map (some bk), .chan (some bc)]) h.blk 2, fit_cell (vs := [vc, vo, .map (some bw), .map (some bk), .chan (some bc)]) h.blk 3, fit_cell (vs := [vc, vo, .map (some bw), .map (some bk), .chan (some bc)]) h.blk 4⟩

/-- What changes in a state: how many literals of each clause are open, what is known, and how much of it was looked at. -/
structure Dyn (S : Nat → Prop) (w : World) (vo : Value) (bk bc cap : Nat) (O K : List Int) (d : Nat) : Prop where
  op : Rw w vo O
  kn : IM w bk (kes K)
  ch : w.heap[bc]? = some (.chan cap (ints (K.drop d)).toArray false K.length d false)
  sO : ∀ k, vo.ownBlock = some k → S k
  sK : S bk
  sC : S bc
  le : d ≤ K.length

theorem info_zero_bool (w : World) : (zeroValue 4).run Try.prog w = .ok (.bool false) w := by kernel_rfl

end Go.Proofs.Ytfofabbnbmieoaa.Ord

/- The contract of prop's run. -/
namespace Go.Proofs.Ytfofabbnbmieoaa.Ord
open Go.RowKit Go.Conc

end Go.Proofs.Ytfofabbnbmieoaa.Ord

/- How prop's state lies in memory while Units builds it. -/
namespace Go.Proofs.Ytfofabbnbmieoaa.Ord
open Go.RowKit Go.Conc

theorem own_frame0 {w w' : World} {B e s n : Nat} {v : Value} {xs : List Value} (h : w.ownsRow B e s v n xs) (hk : ∀ g, v.ownBlock = some g → w'.heap[g]? = w.heap[g]?) : w'.ownsRow B e s v n xs := by
  refine ⟨h.1, ?_⟩
  rcases h.2 with h0 | ⟨g, cap, cur, e1, e2, e3, e4⟩
  · exact .inl h0
  · exact .inr ⟨g, cap, cur, e1, e2, by rw [hk g (by rw [e1]; rfl)]; exact e3, e4⟩
theorem own_lenV' {w : World} {B e s n : Nat} {v : Value} {xs : List Value} (h : w.ownsRow B e s v n xs) : ∃ a c, v = .slice a n c := by
  rcases h.2 with ⟨rfl, rfl⟩ | ⟨g, cap, cur, rfl, _⟩
  · exact ⟨_, _, rfl⟩
  · exact ⟨_, _, rfl⟩
theorem own_slv {w : World} {B e n m c : Nat} {a : Option Addr} {xs : List Value} (h : w.ownsRow B e 1 (.slice a n c) m xs) : SlV w a xs := by
  obtain ⟨a', c', h1, -, -, h4⟩ := own_sl h
  injection h1 with h5
  rw [h5]
  exact h4
theorem own_rebase {w : World} {B e n : Nat} {v : Value} {xs : List Value} (h : w.ownsRow 0 e 1 v n xs) (hB : ∀ g, v.ownBlock = some g → B ≤ g) : w.ownsRow B e 1 v n xs := ⟨h.1, h.2.imp_right fun ⟨g, cap, cur, e1, _, e3⟩ => ⟨g, cap, cur, e1, hB g (by rw [e1]; rfl), e3⟩⟩

theorem Touch.trans' {S T : Nat → Prop} {a b c : World} (h : Touch S a b) (k : Touch T b c) (hs : ∀ i, i < a.heap.size → T i → S i) : Touch S a c :=
  ⟨k.os.trans h.os, k.tape.trans h.tape, k.output.trans h.output, Nat.le_trans h.size k.size, fun i hi hn => (k.block i (by have := h.size; omega) (fun e => hn (hs i hi e))).trans (h.block i hi hn)⟩

/-- What a block of ints of the call's own is for. -/
inductive Tag where
  | cls
  | opn
  | wth (k : Int)

def nilS : Value := .slice none 0 0

/-- A clause's literals in a block that is for clauses. -/
def OwnTg (w : World) (tag : Nat → Tag) (u : Value) (xs : List Int) : Prop :=
  ∃ a c, u = .slice a xs.length c ∧ xs.length ≤ c ∧ (a = none → c = 0) ∧ ∀ ad, a = some ad → ∃ g off cur, ad = ⟨g, off, none⟩ ∧ tag g = .cls ∧ w.heap[g]? = some (.cells cur 3 (0, 0)) ∧ ∀ j x, xs[j]? = some x → cur[off + j]? = some (.int .i64 x)

theorem OwnTg.frame {w w' : World} {tag tag' : Nat → Tag} {u : Value} {xs : List Int} (h : OwnTg w tag u xs) (hk : ∀ g, g < w.heap.size → tag g = .cls → w'.heap[g]? = w.heap[g]? ∧ tag' g = .cls) : OwnTg w' tag' u xs := by
  obtain ⟨a, c, h1, h2, h3, h4⟩ := h
  refine ⟨a, c, h1, h2, h3, fun ad had => ?_⟩
  obtain ⟨g, off, cur, e1, e2, e3, e4⟩ := h4 ad had
  obtain ⟨q1, q2⟩ := hk g (Array.getElem?_eq_some_iff.1 e3).1 e2
  exact ⟨g, off, cur, e1, q2, q1.trans e3, e4⟩

theorem OwnTg.sli {w : World} {tag : Nat → Tag} {u : Value} {xs : List Int} (h : OwnTg w tag u xs) : SlI w u xs := by
  obtain ⟨a, c, h1, h2, h3, h4⟩ := h
  refine ⟨a, c, h1, h2, h3, fun j v hj => ?_⟩
  cases a with
  | none =>
    have h0 : xs = [] := List.length_eq_zero_iff.1 (by have := h3 rfl; omega)
    subst h0
    cases hj
  | some ad =>
    obtain ⟨g, off, cur, rfl, -, e3, e4⟩ := h4 ad rfl
    simp only [ints, List.getElem?_map, Option.map_eq_some_iff] at hj
    obtain ⟨x, hx, rfl⟩ := hj
    refine ⟨g, off, rfl, ?_⟩
    rw [cell_of_row _ _ _ _ _ _ e3]
    exact e4 j x hx

structure BSt (tag : Nat → Tag) (B : Nat) (w0 w : World) (bx : Nat) (vc vo : Value) (bw bk bc cap : Nat) (C : List (List Int)) (f : Int → List Int) (es : List (Int × Value)) (K : List Int) : Prop where
  bel : Below B w0 w
  le : B ≤ w.heap.size
  blk : w.heap[bx]? = some (.cells #[vc, vo, .map (some bw), .map (some bk), .chan (some bc)] 103)
  bxB : B ≤ bx
  cls : ∃ us, w.ownsRow B 22 1 vc C.length us ∧ ∀ (i : Nat) xs, C[i]? = some xs → ∃ u, us[i]? = some u ∧ OwnTg w tag u xs
  op : w.ownsRow B 3 1 vo C.length (ints (C.map fun c => (c.length : Int)))
  opt : ∀ g, vo.ownBlock = some g → tag g = .opn
  wi : IM w bw es
  wB : B ≤ bw
  wr : ∀ k, w.ownsRow B 3 1 ((aget es k).getD nilS) (f k).length (ints (f k))
  wt : ∀ k g, ((aget es k).getD nilS).ownBlock = some g → tag g = .wth k
  kn : IM w bk (kes K)
  kB : B ≤ bk
  ch : w.heap[bc]? = some (.chan cap (ints K).toArray false K.length 0 false)
  cB : B ≤ bc
  ne : bw ≠ bk

section
variable {tag : Nat → Tag} {B : Nat} {w0 w : World} {bx : Nat} {vc vo : Value} {bw bk bc cap : Nat} {C : List (List Int)} {f : Int → List Int} {es : List (Int × Value)} {K : List Int}

theorem own_cells {e n : Nat} {v : Value} {xs : List Value} (h : w.ownsRow B e 1 v n xs) {g : Nat} (hg : v.ownBlock = some g) : ∃ cur, w.heap[g]? = some (.cells cur e (0, 0)) := by
  rcases h.2 with ⟨rfl, _⟩ | ⟨g', cap', cur, rfl, _, hh, _⟩
  · cases hg
  · simp only [Value.ownBlock, Option.some.injEq] at hg
    subst hg
    exact ⟨cur, hh⟩

/-- All that was there is as it was. -/
theorem BSt.grow (h : BSt tag B w0 w bx vc vo bw bk bc cap C f es K) {w' : World} (hb : Below w.heap.size w w') {tag' : Nat → Tag} (ht : ∀ g, g < w.heap.size → tag' g = tag g) : BSt tag' B w0 w' bx vc vo bw bk bc cap C f es K := by
  have hf : ∀ k, k < w.heap.size → w'.heap[k]? = w.heap[k]? := fun k hk => hb.block k hk
  obtain ⟨us, hu1, hu2⟩ := h.cls
  refine ⟨h.bel.trans (hb.mono h.le), Nat.le_trans h.le hb.size, (hf bx (Array.getElem?_eq_some_iff.1 h.blk).1).trans h.blk, h.bxB, ⟨us, own_frame0 hu1 fun g hg => hf g (hu1.lt g hg).2, fun i xs hi => ?_⟩, own_frame0 h.op fun g hg => hf g (h.op.lt g hg).2, fun g hg => (ht g (h.op.lt g hg).2).trans (h.opt g hg), h.wi.frame (hf bw h.wi.lt), h.wB, fun k => own_frame0 (h.wr k) fun g hg => hf g ((h.wr k).lt g hg).2, fun k g hg => (ht g ((h.wr k).lt g hg).2).trans (h.wt k g hg), h.kn.frame (hf bk h.kn.lt), h.kB, (hf bc (Array.getElem?_eq_some_iff.1 h.ch).1).trans h.ch, h.cB, h.ne⟩
  obtain ⟨u, hu, ho⟩ := hu2 i xs hi
  exact ⟨u, hu, ho.frame fun g hg ht' => ⟨hf g hg, (ht g hg).trans ht'⟩⟩

/-- The blocks that set, unit and run write. -/
def wS (vo : Value) (bk bc k : Nat) : Prop := vo.ownBlock = some k ∨ k = bk ∨ k = bc

theorem BSt.notS (h : BSt tag B w0 w bx vc vo bw bk bc cap C f es K) : ¬ wS vo bk bc bx ∧ (∀ g, vc.ownBlock = some g → ¬ wS vo bk bc g) ∧ ¬ wS vo bk bc bw ∧ (∀ g, tag g = .cls → g < w.heap.size → (∃ cur, w.heap[g]? = some (.cells cur 3 (0, 0))) → ¬ wS vo bk bc g) ∧ ∀ k g, ((aget es k).getD nilS).ownBlock = some g → ¬ wS vo bk bc g := by
  obtain ⟨arrk, ck, hkm, -⟩ := h.kn
  obtain ⟨arrw, cw, hwm, -⟩ := h.wi
  obtain ⟨us, hu1, hu2⟩ := h.cls
  have hvo : ∀ g, vo.ownBlock = some g → ∃ cur, w.heap[g]? = some (.cells cur 3 (0, 0)) := fun g hg => own_cells h.op hg
  refine ⟨?_, fun g hg => ?_, ?_, fun g ht hl hc => ?_, fun k g hg => ?_⟩
  · rintro (e | e | e)
    · obtain ⟨cur, hc⟩ := hvo _ e; rw [h.blk] at hc; simp at hc
    · rw [← e, h.blk] at hkm; cases hkm
    · have := h.ch; rw [← e, h.blk] at this; cases this
  · obtain ⟨cur, hc⟩ := own_cells hu1 hg
    rintro (e | e | e)
    · obtain ⟨cur2, hc2⟩ := hvo _ e; rw [hc] at hc2; simp at hc2
    · rw [← e, hc] at hkm; cases hkm
    · have := h.ch; rw [← e, hc] at this; cases this
  · rintro (e | e | e)
    · obtain ⟨cur2, hc2⟩ := hvo _ e; rw [hwm] at hc2; cases hc2
    · exact h.ne e
    · have := h.ch; rw [← e, hwm] at this; cases this
  · obtain ⟨cur, hc⟩ := hc
    rintro (e | e | e)
    · have := h.opt g e; rw [ht] at this; cases this
    · rw [← e, hc] at hkm; cases hkm
    · have := h.ch; rw [← e, hc] at this; cases this
  · obtain ⟨cur, hc⟩ := own_cells (h.wr k) hg
    have ht := h.wt k g hg
    rintro (e | e | e)
    · have := h.opt g e; rw [ht] at this; cases this
    · rw [← e, hc] at hkm; cases hkm
    · have := h.ch; rw [← e, hc] at this; cases this

theorem BSt.fix (h : BSt tag B w0 w bx vc vo bw bk bc cap C f es K) : Fix (wS vo bk bc) w bx vc vo bw bk bc C f es := fun w' ht => by
  obtain ⟨n1, n2, n3, n4, n5⟩ := h.notS
  obtain ⟨us, hu1, hu2⟩ := h.cls
  refine ⟨(ht.block bx (Array.getElem?_eq_some_iff.1 h.blk).1 n1).trans h.blk, ?_, h.wi.frame (ht.block bw h.wi.lt n3), fun k => ?_⟩
  · have hu1' : w'.ownsRow B 22 1 vc C.length us := own_frame0 hu1 fun g hg => ht.block g (hu1.lt g hg).2 (n2 g hg)
    obtain ⟨a, c, rfl⟩ := own_lenV' hu1
    refine ⟨a, c, rfl, fun i xs hi => ?_⟩
    obtain ⟨u, hu, ho⟩ := hu2 i xs hi
    obtain ⟨g, o, he, hc⟩ := (own_slv hu1') i u hu
    have ho' : OwnTg w' tag u xs := by
      obtain ⟨a, c, h1, h2, h3, h4⟩ := ho
      refine ⟨a, c, h1, h2, h3, fun ad had => ?_⟩
      obtain ⟨g, off, cur, e1, e2, e3, e4⟩ := h4 ad had
      exact ⟨g, off, cur, e1, e2, (ht.block g (Array.getElem?_eq_some_iff.1 e3).1 (n4 g e2 (Array.getElem?_eq_some_iff.1 e3).1 ⟨cur, e3⟩)).trans e3, e4⟩
    exact ⟨g, o, u, he, hc, ho'.sli⟩
  · exact own_sli (own_frame0 (h.wr k) fun g hg => ht.block g ((h.wr k).lt g hg).2 (n5 k g hg))

/-- What set did. -/
theorem BSt.set (h : BSt tag B w0 w bx vc vo bw bk bc cap C f es K) {w' : World} {K' : List Int} (hD : Dyn (wS vo bk bc) w' vo bk bc cap (C.map fun c => (c.length : Int)) K' 0) (ht : Touch (wS vo bk bc) w w') : BSt tag B w0 w' bx vc vo bw bk bc cap C f es K' := by
  obtain ⟨n1, n2, n3, n4, n5⟩ := h.notS
  obtain ⟨us, hu1, hu2⟩ := h.cls
  have hO : w'.ownsRow B 3 1 vo C.length (ints (C.map fun c => (c.length : Int))) := by
    have := hD.op
    unfold Rw at this
    rw [List.length_map] at this
    exact own_rebase this fun g hg => (h.op.lt g hg).1
  have hlow : ∀ k, wS vo bk bc k → B ≤ k := by
    rintro k (e | e | e)
    · exact (h.op.lt k e).1
    · rw [e]; exact h.kB
    · rw [e]; exact h.cB
  refine ⟨h.bel.trans (ht.below h.le hlow), Nat.le_trans h.le ht.size, (ht.block bx (Array.getElem?_eq_some_iff.1 h.blk).1 n1).trans h.blk, h.bxB, ⟨us, own_frame0 hu1 fun g hg => ht.block g (hu1.lt g hg).2 (n2 g hg), fun i xs hi => ?_⟩, hO, h.opt, h.wi.frame (ht.block bw h.wi.lt n3), h.wB, fun k => own_frame0 (h.wr k) fun g hg => ht.block g ((h.wr k).lt g hg).2 (n5 k g hg), h.wt, hD.kn, h.kB, hD.ch, h.cB, h.ne⟩
  obtain ⟨u, hu, ho⟩ := hu2 i xs hi
  obtain ⟨a, c, h1, h2, h3, h4⟩ := ho
  refine ⟨u, hu, a, c, h1, h2, h3, fun ad had => ?_⟩
  obtain ⟨g, off, cur, e1, e2, e3, e4⟩ := h4 ad had
  exact ⟨g, off, cur, e1, e2, (ht.block g (Array.getElem?_eq_some_iff.1 e3).1 (n4 g e2 (Array.getElem?_eq_some_iff.1 e3).1 ⟨cur, e3⟩)).trans e3, e4⟩

end

section
variable {tag : Nat → Tag} {B : Nat} {w0 w : World} {bx : Nat} {vc vo : Value} {bw bk bc cap : Nat} {C : List (List Int)} {f : Int → List Int} {es : List (Int × Value)} {K : List Int}

theorem setCells2 {w : World} {b : Nat} {e : TypeId} {x0 x1 x2 x3 x4 y0 y1 : Value} (h : w.heap[b]? = some (.cells #[x0, x1, x2, x3, x4] e (0, 0))) :
    ((w.setCell ⟨b, 0, none⟩ y0).setCell ⟨b, 1, none⟩ y1).heap[b]? = some (.cells #[y0, y1, x2, x3, x4] e (0, 0)) := by
  have h1 := setCell_block (o := 0) y0 (xs := [x0, x1, x2, x3, x4]) h
  have h2 := setCell_block (o := 1) y1 (xs := [y0, x1, x2, x3, x4]) h1
  exact h2

/-- A clause came in. -/
theorem BSt.add (h : BSt tag B w0 w bx vc vo bw bk bc cap C f es K) {l : List Int} {u : Value} (hu : OwnTg w tag u l) {us : List Value} (hu1 : w.ownsRow B 22 1 vc C.length us) (hu2 : ∀ (i : Nat) xs, C[i]? = some xs → ∃ u, us[i]? = some u ∧ OwnTg w tag u xs)
    {w9 : World} {v8 v9 : Value} (ht : Touch (fun k => vc.ownBlock = some k ∨ vo.ownBlock = some k) w w9) (h8 : w9.ownsRow B 22 1 v8 (C.length + 1) (us ++ [u])) (h9 : w9.ownsRow B 3 1 v9 (C.length + 1) (ints (C.map fun c => (c.length : Int)) ++ [.int .i64 (l.length : Int)]))
    (a9 : v9.ownBlock = vo.ownBlock ∨ ∃ g, v9.ownBlock = some g ∧ w.heap.size ≤ g) :
    BSt (fun g => if g < w.heap.size then tag g else .opn) B w0 ((w9.setCell ⟨bx, 0, none⟩ v8).setCell ⟨bx, 1, none⟩ v9) bx v8 v9 bw bk bc cap (C ++ [l]) f es K ∧ OwnTg ((w9.setCell ⟨bx, 0, none⟩ v8).setCell ⟨bx, 1, none⟩ v9) (fun g => if g < w.heap.size then tag g else .opn) u l := by
  have hbxl := (Array.getElem?_eq_some_iff.1 h.blk).1
  obtain ⟨n1, n2, n3, n4, n5⟩ := h.notS
  have htT : ∀ g, g < w.heap.size → (if g < w.heap.size then tag g else .opn) = tag g := fun g hg => by rw [if_pos hg]
  obtain ⟨arrk, ck, hkm, -⟩ := h.kn
  obtain ⟨arrw, cw, hwm, -⟩ := h.wi
  have hbv : ¬ (vc.ownBlock = some bx ∨ vo.ownBlock = some bx) := by
    rintro (e | e)
    · obtain ⟨cur, hc⟩ := own_cells hu1 e; rw [h.blk] at hc; simp at hc
    · exact n1 (.inl e)
  have hb9 : w9.heap[bx]? = some (.cells #[vc, vo, .map (some bw), .map (some bk), .chan (some bc)] 103) := (ht.block bx hbxl hbv).trans h.blk
  have hset : ∀ k, k ≠ bx → ((w9.setCell ⟨bx, 0, none⟩ v8).setCell ⟨bx, 1, none⟩ v9).heap[k]? = w9.heap[k]? := fun k hk => (Below.heap_setCell _ ⟨bx, 1, none⟩ v9 k hk).trans (Below.heap_setCell _ ⟨bx, 0, none⟩ v8 k hk)
  have hT : Touch (fun k => k = bx ∨ vc.ownBlock = some k ∨ vo.ownBlock = some k) w ((w9.setCell ⟨bx, 0, none⟩ v8).setCell ⟨bx, 1, none⟩ v9) :=
    ((ht.mono fun k _ hk => .inr hk).setCell (p := ⟨bx, 0, none⟩) (.inl rfl) v8).setCell (p := ⟨bx, 1, none⟩) (.inl rfl) v9
  have hlow : ∀ k, (k = bx ∨ vc.ownBlock = some k ∨ vo.ownBlock = some k) → B ≤ k := by
    rintro k (e | e | e)
    · rw [e]; exact h.bxB
    · exact (hu1.lt k e).1
    · exact (h.op.lt k e).1
  have hblk : ∀ k, k < w.heap.size → k ≠ bx → vc.ownBlock ≠ some k → vo.ownBlock ≠ some k → ((w9.setCell ⟨bx, 0, none⟩ v8).setCell ⟨bx, 1, none⟩ v9).heap[k]? = w.heap[k]? := fun k hk h1 h2 h3 =>
    hT.block k hk (by rintro (e | e | e); exact h1 e; exact h2 e; exact h3 e)
  have hint : ∀ g cur, w.heap[g]? = some (.cells cur 3 (0, 0)) → g ≠ bx ∧ vc.ownBlock ≠ some g := fun g cur hg =>
    ⟨fun e => by rw [e, h.blk] at hg; simp at hg, fun e => by obtain ⟨c2, hc2⟩ := own_cells hu1 e; rw [hg] at hc2; simp at hc2⟩
  have hO : ∀ {u : Value} {xs : List Int}, OwnTg w tag u xs → OwnTg ((w9.setCell ⟨bx, 0, none⟩ v8).setCell ⟨bx, 1, none⟩ v9) (fun g => if g < w.heap.size then tag g else .opn) u xs := fun {u xs} ho => by
    obtain ⟨a, c, h1, h2, h3, h4⟩ := ho
    refine ⟨a, c, h1, h2, h3, fun ad had => ?_⟩
    obtain ⟨g, off, cur, e1, e2, e3, e4⟩ := h4 ad had
    have hl := (Array.getElem?_eq_some_iff.1 e3).1
    exact ⟨g, off, cur, e1, by show (if g < w.heap.size then tag g else .opn) = .cls; rw [if_pos hl]; exact e2, (hblk g hl (hint g cur e3).1 (hint g cur e3).2 (fun e => by have := h.opt g e; rw [e2] at this; cases this)).trans e3, e4⟩
  have hne8 : ∀ g, v8.ownBlock = some g → g ≠ bx := fun g hg e => by
    obtain ⟨cur, hc⟩ := own_cells h8 hg; rw [e, hb9] at hc; simp at hc
  have hne9 : ∀ g, v9.ownBlock = some g → g ≠ bx := fun g hg e => by
    obtain ⟨cur, hc⟩ := own_cells h9 hg; rw [e, hb9] at hc; simp at hc
  refine ⟨?_, hO hu⟩
  refine ⟨h.bel.trans (hT.below h.le hlow), Nat.le_trans h.le hT.size, setCells2 hb9, h.bxB, ⟨us ++ [u], ?_, fun i xs hi => ?_⟩, ?_, fun g hg => ?_, h.wi.frame (hblk bw h.wi.lt (fun e => by rw [e, h.blk] at hwm; cases hwm) (fun e => by obtain ⟨c2, hc2⟩ := own_cells hu1 e; rw [hwm] at hc2; cases hc2) (fun e => n3 (.inl e))), h.wB, fun k => own_frame0 (h.wr k) fun g hg => ?_, fun k g hg => ?_, h.kn.frame (hblk bk h.kn.lt (fun e => by rw [e, h.blk] at hkm; cases hkm) (fun e => by obtain ⟨c2, hc2⟩ := own_cells hu1 e; rw [hkm] at hc2; cases hc2) (fun e => by obtain ⟨c2, hc2⟩ := own_cells h.op e; rw [hkm] at hc2; cases hc2)), h.kB, (hblk bc (Array.getElem?_eq_some_iff.1 h.ch).1 (fun e => by have := h.ch; rw [e, h.blk] at this; cases this) (fun e => by obtain ⟨c2, hc2⟩ := own_cells hu1 e; rw [h.ch] at hc2; cases hc2) (fun e => by obtain ⟨c2, hc2⟩ := own_cells h.op e; rw [h.ch] at hc2; cases hc2)).trans h.ch, h.cB, h.ne⟩
  · rw [List.length_append, List.length_singleton]
    exact own_frame0 h8 fun g hg => hset g (hne8 g hg)
  · have hul : us.length = C.length := by have := hu1.1; omega
    by_cases hlt : i < C.length
    · rw [List.getElem?_append_left hlt] at hi
      obtain ⟨u', hu', ho'⟩ := hu2 i xs hi
      exact ⟨u', by rw [List.getElem?_append_left (by omega)]; exact hu', hO ho'⟩
    · have hie : i = C.length := by
        have := (List.getElem?_eq_some_iff.1 hi).1
        simp at this
        omega
      subst hie
      simp at hi
      subst hi
      exact ⟨u, by rw [← hul]; simp, hO hu⟩
  · rw [List.map_append, ints_append, List.length_append, List.length_singleton]
    exact own_frame0 h9 fun g hg => hset g (hne9 g hg)
  · rcases a9 with e | ⟨g', e, hge⟩
    · rw [e] at hg
      show (if g < w.heap.size then tag g else .opn) = .opn
      rw [if_pos (h.op.lt g hg).2]
      exact h.opt g hg
    · rw [e] at hg
      injection hg with hg
      show (if g < w.heap.size then tag g else .opn) = .opn
      rw [if_neg (by omega)]
  · obtain ⟨cur, hc⟩ := own_cells (h.wr k) hg
    exact hblk g ((h.wr k).lt g hg).2 (hint g cur hc).1 (hint g cur hc).2 (fun e => n5 k g hg (.inl e))
  · show (if g < w.heap.size then tag g else .opn) = .wth k
    rw [if_pos ((h.wr k).lt g hg).2]
    exact h.wt k g hg

/-- An index came in under a literal. -/
theorem BSt.wth (h : BSt tag B w0 w bx vc vo bw bk bc cap C f es K) {a i : Int} {w2 w3 : World} {v' : Value} (happ : Touch (fun k => ((aget es a).getD nilS).ownBlock = some k) w w2) (h8 : w2.ownsRow B 3 1 v' ((f a).length + 1) (ints (f a) ++ [.int .i64 i]))
    (a8 : v'.ownBlock = ((aget es a).getD nilS).ownBlock ∨ ∃ g, v'.ownBlock = some g ∧ w.heap.size ≤ g) (hup : IM w3 bw (aput es a v')) (ht : Touch (fun k => k = bw) w2 w3) :
    BSt (fun g => if g < w.heap.size then tag g else .wth a) B w0 w3 bx vc vo bw bk bc cap C (fun k => if k = a then f a ++ [i] else f k) (aput es a v') K ∧ ∀ u xs, OwnTg w tag u xs → OwnTg w3 (fun g => if g < w.heap.size then tag g else .wth a) u xs := by
  obtain ⟨n1, n2, n3, n4, n5⟩ := h.notS
  obtain ⟨us, hu1, hu2⟩ := h.cls
  obtain ⟨arrk, ck, hkm, -⟩ := h.kn
  obtain ⟨arrw, cw, hwm, -⟩ := h.wi
  have hT : Touch (fun k => k = bw ∨ ((aget es a).getD nilS).ownBlock = some k) w w3 := (happ.mono fun k _ hk => .inr hk).trans' ht fun k _ hk => .inl hk
  have hwv : ∀ g, ((aget es a).getD nilS).ownBlock = some g → ∃ cur, w.heap[g]? = some (.cells cur 3 (0, 0)) := fun g hg => own_cells (h.wr a) hg
  have hblk : ∀ k, k < w.heap.size → k ≠ bw → ((aget es a).getD nilS).ownBlock ≠ some k → w3.heap[k]? = w.heap[k]? := fun k hk h1 h2 => hT.block k hk (by rintro (e | e); exact h1 e; exact h2 e)
  have hcw : ∀ g cur e m, w.heap[g]? = some (.cells cur e m) → g ≠ bw := fun g cur e m hg e2 => by rw [e2, hwm] at hg; cases hg
  have hlow : ∀ k, (k = bw ∨ ((aget es a).getD nilS).ownBlock = some k) → B ≤ k := by
    rintro k (e | e)
    · rw [e]; exact h.wB
    · exact ((h.wr a).lt k e).1
  have hn := h.wi.nodup
  have hOO : ∀ u xs, OwnTg w tag u xs → OwnTg w3 (fun g => if g < w.heap.size then tag g else .wth a) u xs := fun u xs ho => by
    obtain ⟨ad0, c, h1, h2, h3, h4⟩ := ho
    refine ⟨ad0, c, h1, h2, h3, fun ad had => ?_⟩
    obtain ⟨g, off, cur, e1, e2, e3, e4⟩ := h4 ad had
    have hl := (Array.getElem?_eq_some_iff.1 e3).1
    exact ⟨g, off, cur, e1, by show (if g < w.heap.size then tag g else .wth a) = .cls; rw [if_pos hl]; exact e2, (hblk g hl (hcw _ _ _ _ e3) (fun e => by have := h.wt a g e; rw [e2] at this; cases this)).trans e3, e4⟩
  refine ⟨?_, hOO⟩
  refine ⟨h.bel.trans (hT.below h.le hlow), Nat.le_trans h.le hT.size, (hblk bx (Array.getElem?_eq_some_iff.1 h.blk).1 (hcw _ _ _ _ h.blk) (fun e => by obtain ⟨c, hc⟩ := hwv _ e; rw [h.blk] at hc; simp at hc)).trans h.blk, h.bxB, ⟨us, own_frame0 hu1 fun g hg => ?_, fun j xs hj => ?_⟩, own_frame0 h.op fun g hg => ?_, fun g hg => ?_, hup, h.wB, fun k => ?_, fun k g hg => ?_, h.kn.frame (hblk bk h.kn.lt (fun e => h.ne e.symm) (fun e => by obtain ⟨c, hc⟩ := hwv _ e; rw [hkm] at hc; cases hc)), h.kB, (hblk bc (Array.getElem?_eq_some_iff.1 h.ch).1 (fun e => by have := h.ch; rw [e, hwm] at this; cases this) (fun e => by obtain ⟨c, hc⟩ := hwv _ e; rw [h.ch] at hc; cases hc)).trans h.ch, h.cB, h.ne⟩
  · obtain ⟨cur, hc⟩ := own_cells hu1 hg
    exact hblk g (hu1.lt g hg).2 (hcw _ _ _ _ hc) (fun e => by obtain ⟨c2, hc2⟩ := hwv _ e; rw [hc] at hc2; simp at hc2)
  · obtain ⟨u, hu, ho⟩ := hu2 j xs hj
    exact ⟨u, hu, hOO u xs ho⟩
  · obtain ⟨cur, hc⟩ := own_cells h.op hg
    exact hblk g (h.op.lt g hg).2 (hcw _ _ _ _ hc) (fun e => by have h1 := h.wt a g e; rw [h.opt g hg] at h1; cases h1)
  · show (if g < w.heap.size then tag g else .wth a) = .opn
    rw [if_pos (h.op.lt g hg).2]; exact h.opt g hg
  · by_cases hk : k = a
    · subst hk
      simp only [if_true]
      rw [aget_aput_same hn, Option.getD_some, List.length_append, List.length_singleton, ints_append]
      refine own_frame0 h8 fun g hg => ht.block g (h8.lt g hg).2 (fun e => ?_)
      have hbw2 : w2.heap[bw]? = w.heap[bw]? := happ.block bw h.wi.lt (fun e => by obtain ⟨c, hc⟩ := hwv _ e; rw [hwm] at hc; cases hc)
      obtain ⟨cur, hc⟩ := own_cells h8 hg
      rw [e, hbw2, hwm] at hc
      cases hc
    · simp only [hk, if_false]
      rw [aget_aput_other hk]
      refine own_frame0 (h.wr k) fun g hg => ?_
      obtain ⟨cur, hc⟩ := own_cells (h.wr k) hg
      exact hblk g ((h.wr k).lt g hg).2 (hcw _ _ _ _ hc) (fun e => by have h1 := h.wt a g e; rw [h.wt k g hg] at h1; injection h1 with h1; exact hk h1)
  · by_cases hk : k = a
    · subst hk
      rw [aget_aput_same hn, Option.getD_some] at hg
      show (if g < w.heap.size then tag g else .wth k) = .wth k
      rcases a8 with e | ⟨g', e, hge⟩
      · rw [e] at hg
        rw [if_pos ((h.wr k).lt g hg).2]; exact h.wt k g hg
      · rw [e] at hg
        injection hg with hg
        rw [if_neg (by omega)]
    · rw [aget_aput_other hk] at hg
      show (if g < w.heap.size then tag g else .wth a) = .wth k
      rw [if_pos ((h.wr k).lt g hg).2]; exact h.wt k g hg

end

theorem blk_new2 (w : World) (a b : Obj) : ((w.alloc a).alloc b).heap[w.heap.size + 1]? = some b := by
  have e1 : ((w.alloc a).alloc b).heap = (w.heap.push a).push b := rfl
  rw [e1, Array.getElem?_push, if_pos (by simp)]
theorem blk_old2 (w : World) (a b : Obj) : ((w.alloc a).alloc b).heap[w.heap.size]? = some a := by
  have e1 : ((w.alloc a).alloc b).heap = (w.heap.push a).push b := rfl
  rw [e1, Array.getElem?_push, if_neg (by simp), Array.getElem?_push, if_pos rfl]

end Go.Proofs.Ytfofabbnbmieoaa.Ord

/- Plain definitions and lemmas about literals and clauses: no program in sight. -/
namespace Go.Proofs.Ytfofabbnbmieoaa
open Go.RowKit

theorem take_any_succ {α : Type} {p : α → Bool} {xs : List α} {k : Nat} {x : α} (h : xs[k]? = some x) (ha : (xs.take k).any p = false) (hp : p x = false) :
    (xs.take (k + 1)).any p = false := by
  rw [List.take_add_one, h]
  simp only [List.any_append, ha, Bool.false_or]
  simp [hp]

theorem any_of_get {α : Type} {p : α → Bool} {xs : List α} {k : Nat} {x : α} (h : xs[k]? = some x) (hp : p x = true) : xs.any p = true :=
  List.any_eq_true.2 ⟨x, List.mem_of_getElem? h, hp⟩

theorem take_all_false {α : Type} {p : α → Bool} {xs : List α} {k : Nat} (hk : ¬ k < xs.length) (ha : (xs.take k).any p = false) : xs.any p = false := by
  rwa [List.take_of_length_le (by omega)] at ha

/-- lit.Less. -/
def lessB (a b : Int) : Bool := decide (a.natAbs < b.natAbs) || (a.natAbs == b.natAbs && decide (b < a))

/-- A number is no literal of n variables. -/
def badLit (n a : Int) : Bool := a == 0 || decide (n < a.natAbs)

/-- lit.Check: the error of a clause. -/
def litCheck (n : Int) (c : List Int) : Int :=
  if n < 0 ∨ 1048576 < n then 3 else if 4096 < c.length then 5 else if c.any (badLit n) then 3 else 0

theorem litCheck_range {n : Int} {c : List Int} (h : n < 0 ∨ 1048576 < n) : litCheck n c = 3 := by simp [litCheck, h]
theorem litCheck_long {n : Int} {c : List Int} (h : 0 ≤ n ∧ n ≤ 1048576) (hl : (4096 : Int) < c.length) : litCheck n c = 5 := by
  unfold litCheck; rw [if_neg (by omega), if_pos (by omega)]
theorem litCheck_bad {n : Int} {c : List Int} (h : 0 ≤ n ∧ n ≤ 1048576) (hl : (c.length : Int) ≤ 4096) (hb : c.any (badLit n) = true) : litCheck n c = 3 := by
  unfold litCheck; rw [if_neg (by omega), if_neg (by omega), if_pos hb]
theorem litCheck_ok {n : Int} {c : List Int} (h : 0 ≤ n ∧ n ≤ 1048576) (hl : (c.length : Int) ≤ 4096) (hb : c.any (badLit n) = false) : litCheck n c = 0 := by
  unfold litCheck; rw [if_neg (by omega), if_neg (by omega), if_neg (by simp [hb])]

/-- The literal a holds in the model m. -/
def litHolds (m : List Bool) (a : Int) : Bool := decide (0 < a.natAbs) && m[a.natAbs - 1]? == some (decide (0 < a))

theorem litHolds_zero {m : List Bool} {a : Int} (h : a = 0) : litHolds m a = false := by simp [litHolds, h]
theorem litHolds_out {m : List Bool} {a : Int} (h : m.length < a.natAbs) : litHolds m a = false := by
  have : m[a.natAbs - 1]? = none := by simp; omega
  simp [litHolds, this]
theorem litHolds_in {m : List Bool} {a : Int} {x : Bool} (h : 0 < a.natAbs) (hx : m[a.natAbs - 1]? = some x) : litHolds m a = (x == decide (0 < a)) := by
  have ha : a ≠ 0 := by omega
  simp [litHolds, hx, ha]

/-- lit.Holds. -/
def holdsB (m : List Bool) (c : List Int) : Bool := c.any (litHolds m)

/-- lit.sorted's merge: two ascending lists into one, equal elements once. -/
def mrg : List Int → List Int → List Int
  | [], bs => bs
  | a :: as1, [] => a :: as1
  | a :: as1, b :: bs =>
    if lessB a b then a :: mrg as1 (b :: bs) else if lessB b a then b :: mrg (a :: as1) bs else mrg as1 (b :: bs)
termination_by as1 bs => as1.length + bs.length

/-- lit.sorted, with so many levels of recursion. -/
def msort : Nat → List Int → List Int
  | 0, xs => xs
  | n + 1, xs => if xs.length < 2 then xs else mrg (msort n (xs.take (xs.length / 2))) (msort n (xs.drop (xs.length / 2)))

theorem mrg_nil_left (bs : List Int) : mrg [] bs = bs := by rw [mrg.eq_def]
theorem mrg_nil_right (as1 : List Int) : mrg as1 [] = as1 := by rw [mrg.eq_def]; cases as1 <;> rfl
theorem mrg_cons (a b : Int) (as1 bs : List Int) : mrg (a :: as1) (b :: bs) =
    if lessB a b then a :: mrg as1 (b :: bs) else if lessB b a then b :: mrg (a :: as1) bs else mrg as1 (b :: bs) := by rw [mrg.eq_def]

theorem mem_mrg {x : Int} : ∀ (as1 bs : List Int), x ∈ mrg as1 bs → x ∈ as1 ∨ x ∈ bs := by
  intro as1 bs
  induction as1, bs using mrg.induct with
  | case1 bs => rw [mrg_nil_left]; exact Or.inr
  | case2 a as1 => rw [mrg_nil_right]; exact Or.inl
  | case3 a as1 b bs h ih =>
    rw [mrg_cons, if_pos h]
    intro hx
    rcases List.mem_cons.1 hx with h | h
    · simp [h]
    · rcases ih h with h | h <;> simp_all
  | case4 a as1 b bs h h2 ih =>
    rw [mrg_cons, if_neg h, if_pos h2]
    intro hx
    rcases List.mem_cons.1 hx with h | h
    · simp [h]
    · rcases ih h with h | h <;> simp_all
  | case5 a as1 b bs h h2 ih =>
    rw [mrg_cons, if_neg h, if_neg h2]
    intro hx
    rcases ih hx with h | h <;> simp_all

theorem mem_msort {x : Int} : ∀ (n : Nat) (xs : List Int), x ∈ msort n xs → x ∈ xs := by
  intro n
  induction n with
  | zero => intro xs h; exact h
  | succ n ih =>
    intro xs h
    rw [msort] at h
    split at h
    · exact h
    · rcases mem_mrg _ _ h with h | h
      · exact List.mem_of_mem_take (ih _ h)
      · exact List.mem_of_mem_drop (ih _ h)

theorem mrg_length : ∀ (as1 bs : List Int), (mrg as1 bs).length ≤ as1.length + bs.length := by
  intro as1 bs
  induction as1, bs using mrg.induct with
  | case1 bs => rw [mrg_nil_left]; simp
  | case2 a as1 => rw [mrg_nil_right]; simp
  | case3 a as1 b bs h ih => rw [mrg_cons, if_pos h]; simp at *; omega
  | case4 a as1 b bs h h2 ih => rw [mrg_cons, if_neg h, if_pos h2]; simp at *; omega
  | case5 a as1 b bs h h2 ih => rw [mrg_cons, if_neg h, if_neg h2]; simp at *; omega

theorem msort_length : ∀ (n : Nat) (xs : List Int), (msort n xs).length ≤ xs.length := by
  intro n
  induction n with
  | zero => intro xs; exact Nat.le_refl _
  | succ n ih =>
    intro xs
    rw [msort]
    split
    · exact Nat.le_refl _
    · have h1 := mrg_length (msort n (xs.take (xs.length / 2))) (msort n (xs.drop (xs.length / 2)))
      have h2 := ih (xs.take (xs.length / 2))
      have h3 := ih (xs.drop (xs.length / 2))
      simp at h2 h3
      omega

end Go.Proofs.Ytfofabbnbmieoaa
