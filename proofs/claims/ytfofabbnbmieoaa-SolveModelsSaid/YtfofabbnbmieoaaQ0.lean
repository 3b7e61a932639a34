/- Plain definitions and lemmas that all texts of this seat use: integers that fit 64 bits, what a slice of one-cell elements reads as, and that such readings are kept when new memory is made. -/
import Derived.WalkKit
import Derived.WalkSpells
import Derived.WalkLawsBesides
import Derived.Deep.QuietTactic
import Derived.BigQuiet
import Derived.Laws.AppendOwnNone
import Derived.Deep.RegionWith
import Derived.Deep.RegionLaw
import Derived.Deep.DeepCutAuto
import Derived.Test.YtfofabbnbmieoaaProg
import Derived.Deep.RegionHeld3
import Derived.BigRegion
import Derived.MapKept
import Derived.Maps.RangeRun
import Derived.Conc.LoneCalls

namespace Go.Proofs.Ytfofabbnbmieoaa
open Go.RowKit

/-- A fact kept from the walk. -/
theorem hid {p : Prop} (h : p) : Hid p := h

/-- A contract of a callee that draws nothing, met in a region whose order is open. -/
theorem quiet_same {P : Program} {f : FuncId} {args : Array Value} {w : World} {n : Nat} {v : Value}
    (h : Calls P f args (w.drewN n) fun e w' => e = .returned v ∧ w.drewN n = w') : Calls P f args (w.drewN n) fun e w'' => e = .returned v ∧ ∃ m, w'' = w.drewN m :=
  h.mono fun _ _ ⟨he, hm⟩ => ⟨he, n, hm.symm⟩

/-- The same behind an earlier region's draws. -/
theorem quiet_same2 {P : Program} {f : FuncId} {args : Array Value} {w : World} {k n : Nat} {v : Value}
    (h : Calls P f args (w.drewN (k + n)) fun e w' => e = .returned v ∧ w.drewN (k + n) = w') : Calls P f args (w.drewN (k + n)) fun e w'' => e = .returned v ∧ ∃ m, w'' = w.drewN (k + m) :=
  h.mono fun _ _ ⟨he, hm⟩ => ⟨he, n, hm.symm⟩

/-- The number fits an int. -/
def I64 (x : Int) : Prop := -9223372036854775808 ≤ x ∧ x ≤ 9223372036854775807

/-- The slice value with the address 'a' reads as the values 'vs' (one cell each). -/
def SlV (w : World) (a : Option Addr) (vs : List Value) : Prop :=
  ∀ j v, vs[j]? = some v → ∃ b off, a = some ⟨b, off, none⟩ ∧ w.cell? ⟨b, off + j, none⟩ = some v

/-- A list of ints as values. -/
def ints (xs : List Int) : List Value := xs.map (Value.int .i64)

@[simp] theorem ints_length (xs : List Int) : (ints xs).length = xs.length := by simp [ints]

theorem SlV.nil (w : World) (a : Option Addr) : SlV w a [] := fun j _ h => by simp at h

theorem SlV.keep {w w' : World} {a : Option Addr} {vs : List Value} (h : SlV w a vs) (hk : ∀ p v, w.cell? p = some v → w'.cell? p = some v) : SlV w' a vs :=
  fun j v hj => let ⟨b, off, ha, hc⟩ := h j v hj; ⟨b, off, ha, hk _ _ hc⟩

theorem below_keeps {w w' : World} (h : Below w.heap.size w w') : ∀ p v, w.cell? p = some v → w'.cell? p = some v :=
  fun p _ hp => (h.cell (World.block_lt_of_cell? w p hp)).trans hp

theorem SlV.below {w w' : World} {a : Option Addr} {vs : List Value} (h : SlV w a vs) (hb : Below w.heap.size w w') : SlV w' a vs :=
  h.keep (below_keeps hb)

/-- One element of a slice of ints. -/
theorem SlV.int {w : World} {a : Option Addr} {xs : List Int} (h : SlV w a (ints xs)) {k : Nat} (hk : k < xs.length) :
    ∃ b off x, a = some ⟨b, off, none⟩ ∧ w.cell? ⟨b, off + k, none⟩ = some (.int .i64 x) ∧ xs[k]? = some x := by
  obtain ⟨b, off, ha, hc⟩ := h k (.int .i64 xs[k]) (by simp [ints, hk])
  exact ⟨b, off, xs[k], ha, hc, by simp [hk]⟩

/-- A list of bools as values. -/
def bools (xs : List Bool) : List Value := xs.map Value.bool

@[simp] theorem bools_length (xs : List Bool) : (bools xs).length = xs.length := by simp [bools]

/-- One element of a slice of bools. -/
theorem SlV.bool {w : World} {a : Option Addr} {xs : List Bool} (h : SlV w a (bools xs)) {k : Nat} (hk : k < xs.length) :
    ∃ b off x, a = some ⟨b, off, none⟩ ∧ w.cell? ⟨b, off + k, none⟩ = some (.bool x) ∧ xs[k]? = some x := by
  obtain ⟨b, off, ha, hc⟩ := h k (.bool xs[k]) (by simp [bools, hk])
  exact ⟨b, off, xs[k], ha, hc, by simp [hk]⟩

theorem ints_take_succ {xs : List Int} {k : Nat} {x : Int} (h : xs[k]? = some x) : ints (xs.take k) ++ [Value.int .i64 x] = ints (xs.take (k + 1)) := by
  simp [ints, List.take_add_one, h]

theorem bools_take_succ {xs : List Bool} {k : Nat} {x : Bool} (h : xs[k]? = some x) : bools (xs.take k) ++ [Value.bool x] = bools (xs.take (k + 1)) := by
  simp [bools, List.take_add_one, h]

/-- The slice value 'v' reads as the values 'vs'. -/
def Sl (w : World) (v : Value) (vs : List Value) : Prop :=
  ∃ a c, v = .slice a vs.length c ∧ vs.length ≤ c ∧ (a = none → c = 0) ∧ SlV w a vs

theorem Sl.below {w w' : World} {v : Value} {vs : List Value} (h : Sl w v vs) (hb : Below w.heap.size w w') : Sl w' v vs :=
  let ⟨a, c, h1, h2, h3, h4⟩ := h; ⟨a, c, h1, h2, h3, h4.below hb⟩

/-- What a row of the call's own reads as. -/
theorem own_sl {w : World} {B e n : Nat} {v : Value} {vs : List Value} (h : w.ownsRow B e 1 v n vs) : Sl w v vs := by
  have hn : n = vs.length := by have := h.1; omega
  rcases h.2 with ⟨rfl, h0⟩ | ⟨g, cap, cur, rfl, _, hg, hle, _, _, ht⟩
  · subst h0
    have : vs = [] := List.eq_nil_of_length_eq_zero (by omega)
    subst this
    exact ⟨none, 0, rfl, Nat.le_refl _, fun _ => rfl, SlV.nil _ _⟩
  · refine ⟨some ⟨g, 0, none⟩, cap, by rw [hn], by omega, nofun, fun j u hj => ⟨g, 0, rfl, ?_⟩⟩
    have := h.cells (g := g) rfl j u hj
    unfold Addr.add at this
    split at this
    · rename_i h0; subst h0; simpa using this
    · simpa using this

/-- The slice value 'v' reads as the ints 'xs'. -/
def SlI (w : World) (v : Value) (xs : List Int) : Prop :=
  ∃ a c, v = .slice a xs.length c ∧ xs.length ≤ c ∧ (a = none → c = 0) ∧ SlV w a (ints xs)

theorem SlI.below {w w' : World} {v : Value} {xs : List Int} (h : SlI w v xs) (hb : Below w.heap.size w w') : SlI w' v xs :=
  let ⟨a, c, h1, h2, h3, h4⟩ := h; ⟨a, c, h1, h2, h3, h4.below hb⟩

theorem own_sli {w : World} {B e n : Nat} {v : Value} {xs : List Int} (h : w.ownsRow B e 1 v n (ints xs)) : SlI w v xs := by
  obtain ⟨a, c, h1, h2, h3, h4⟩ := own_sl h
  simp only [ints_length] at h1 h2
  exact ⟨a, c, h1, h2, h3, h4⟩

theorem own_base {w : World} {B B' e size n : Nat} {v : Value} {vs : List Value} (h : w.ownsRow B e size v n vs) (hB : B' ≤ B) : w.ownsRow B' e size v n vs := by
  refine ⟨h.1, ?_⟩
  rcases h.2 with h0 | ⟨g, cap, cur, h1, h2, h3⟩
  · exact .inl h0
  · exact .inr ⟨g, cap, cur, h1, by omega, h3⟩

theorem ints_append (xs ys : List Int) : ints (xs ++ ys) = ints xs ++ ints ys := by simp [ints]

/-- The first element of a slice of ints. -/
theorem SlV.head {w : World} {a : Option Addr} {x : Int} {xs : List Int} (h : SlV w a (ints (x :: xs))) :
    ∃ b off, a = some ⟨b, off, none⟩ ∧ w.cell? ⟨b, off, none⟩ = some (.int .i64 x) := by
  obtain ⟨b, off, ha, hc⟩ := h 0 (.int .i64 x) (by simp [ints])
  exact ⟨b, off, ha, hc⟩

theorem below_dr {B : Nat} {a w : World} (h : Below B a w) (n : Nat) : Below B a (w.drewN n) := h.trans ⟨rfl, rfl, rfl, Nat.le_refl _, fun _ _ => rfl⟩

theorem SlV.drewN {w : World} {a : Option Addr} {vs : List Value} (h : SlV w a vs) (n : Nat) : SlV (w.drewN n) a vs := h

/-- Equality of two lists of ints, as a Bool. -/
def eqI (xs ys : List Int) : Bool := decide (xs = ys)

theorem eqI_len {xs ys : List Int} (h : ¬ xs.length = ys.length) : eqI xs ys = false := by
  simp [eqI]; intro e; exact h (by rw [e])
theorem eqI_at {xs ys : List Int} {k : Nat} {x y : Int} (hx : xs[k]? = some x) (hy : ys[k]? = some y) (h : ¬ x = y) : eqI xs ys = false := by
  simp [eqI]; intro e; rw [e, hy] at hx; simp at hx; exact h hx.symm
theorem take_eq_succ {α : Type} {xs ys : List α} {k : Nat} {x : α} (h : xs.take k = ys.take k) (hx : xs[k]? = some x) (hy : ys[k]? = some x) : xs.take (k + 1) = ys.take (k + 1) := by
  rw [List.take_add_one, List.take_add_one, h, hx, hy]
theorem eqI_all {xs ys : List Int} {k : Nat} (hk : ¬ k < xs.length) (hl : xs.length = ys.length) (h : xs.take k = ys.take k) : eqI xs ys = true := by
  rw [List.take_of_length_le (by omega), List.take_of_length_le (by omega)] at h
  simp [eqI, h]

end Go.Proofs.Ytfofabbnbmieoaa

/- What follows by unit propagation. Plain. -/
namespace Go.Proofs.Ytfofabbnbmieoaa

/-- What follows from clauses and assumptions by unit propagation. -/
inductive Der (C : List (List Int)) (A : List Int) : Int → Prop
  | asm {a : Int} : a ∈ A → Der C A a
  | unit {c : List Int} {l : Int} : c ∈ C → l ∈ c → (∀ m ∈ c, m ≠ l → Der C A (-m)) → Der C A l

/-- Unit propagation fails. -/
def Bad (C : List (List Int)) (A : List Int) : Prop := (∃ a, Der C A a ∧ Der C A (-a)) ∨ ∃ c ∈ C, ∀ l ∈ c, Der C A (-l)

/-- Each clause of the one has a clause of the other with the same literals. -/
def Sub (C C' : List (List Int)) : Prop := ∀ c ∈ C, ∃ c' ∈ C', ∀ l, l ∈ c ↔ l ∈ c'

theorem sub_of_subset {C C' : List (List Int)} (h : ∀ c ∈ C, c ∈ C') : Sub C C' := fun c hc => ⟨c, h c hc, fun _ => Iff.rfl⟩

theorem der_mono {C C' : List (List Int)} {A A' : List Int} (hC : Sub C C') (hA : ∀ a ∈ A, a ∈ A') {a : Int} (h : Der C A a) : Der C' A' a := by
  induction h with
  | asm ha => exact .asm (hA _ ha)
  | unit hc hl hm ih =>
    obtain ⟨c', hc', hs⟩ := hC _ hc
    exact .unit hc' ((hs _).1 hl) fun m hm hne => ih m ((hs m).2 hm) hne

theorem bad_mono {C C' : List (List Int)} {A A' : List Int} (hC : Sub C C') (hA : ∀ a ∈ A, a ∈ A') (h : Bad C A) : Bad C' A' := by
  rcases h with ⟨a, h1, h2⟩ | ⟨c, hc, h⟩
  · exact .inl ⟨a, der_mono hC hA h1, der_mono hC hA h2⟩
  · obtain ⟨c', hc', hs⟩ := hC c hc
    exact .inr ⟨c', hc', fun l hl => der_mono hC hA (h l ((hs l).2 hl))⟩

/-- The literals of a formula of n variables. -/
def LitOk (n : Nat) (a : Int) : Prop := a ≠ 0 ∧ a ≤ n ∧ -(n : Int) ≤ a
def ClsOk (n : Nat) (C : List (List Int)) : Prop := ∀ c ∈ C, ∀ a ∈ c, LitOk n a

/-- The clause always holds. -/
def Taut (c : List Int) : Prop := ∃ x ∈ c, -x ∈ c

/-- N has C's clauses but for those that always hold. -/
theorem bad_norm {C N : List (List Int)} {A : List Int} {n : Nat} (hC : ClsOk n C) (h : ∀ c ∈ C, Taut c ∨ ∃ c' ∈ N, ∀ l, l ∈ c ↔ l ∈ c') (hb : ¬ Bad N A) :
    (∀ {a}, Der C A a → Der N A a) ∧ ¬ Bad C A := by
  have hcons : ∀ x, Der N A x → Der N A (-x) → False := fun x h1 h2 => hb (.inl ⟨x, h1, h2⟩)
  have hd : ∀ {a}, Der C A a → Der N A a := fun {a} ha => by
    induction ha with
    | asm ha => exact .asm ha
    | @unit c l hc hl hm ih =>
      rcases h c hc with ⟨x, hx, hnx⟩ | ⟨c', hc', hs⟩
      · have hx0 := (hC c hc x hx).1
        by_cases h1 : l = x
        · have h2 : -x ≠ l := by omega
          have := ih (-x) hnx h2
          rw [Int.neg_neg] at this
          rw [h1]; exact this
        · by_cases h2 : l = -x
          · have := ih x hx (by omega)
            rw [h2]; exact this
          · have g1 := ih x hx (Ne.symm h1)
            have g2 := ih (-x) hnx (Ne.symm h2)
            exact (hcons (-x) g1 (by rw [Int.neg_neg] at g2 ⊢; exact g2)).elim
      · exact .unit hc' ((hs l).1 hl) fun m hm hne => ih m ((hs m).2 hm) hne
  refine ⟨hd, fun hbad => ?_⟩
  rcases hbad with ⟨a, h1, h2⟩ | ⟨c, hc, hf⟩
  · exact hcons a (hd h1) (hd h2)
  · rcases h c hc with ⟨x, hx, hnx⟩ | ⟨c', hc', hs⟩
    · have g1 := hd (hf x hx)
      have g2 := hd (hf (-x) hnx)
      rw [Int.neg_neg] at g2
      exact hcons x g2 g1
    · exact hb (.inr ⟨c', hc', fun l hl => hd (hf l ((hs l).2 hl))⟩)

/-- K is what follows, and nothing fails. -/
structure Closed (C : List (List Int)) (A K : List Int) : Prop where
  sound : ∀ a ∈ K, Der C A a
  asm : ∀ a ∈ A, a ∈ K
  cons : ∀ a ∈ K, -a ∉ K
  unit : ∀ c ∈ C, ∀ l ∈ c, (∀ m ∈ c, m ≠ l → -m ∈ K) → l ∈ K
  clause : ∀ c ∈ C, ∃ l ∈ c, -l ∉ K

theorem Closed.der {C : List (List Int)} {A K : List Int} (h : Closed C A K) {a : Int} : Der C A a ↔ a ∈ K := by
  refine ⟨fun hd => ?_, h.sound a⟩
  induction hd with
  | asm ha => exact h.asm _ ha
  | unit hc hl hm ih => exact h.unit _ hc _ hl ih

theorem Closed.good {C : List (List Int)} {A K : List Int} (h : Closed C A K) : ¬ Bad C A := by
  rintro (⟨a, h1, h2⟩ | ⟨c, hc, hf⟩)
  · exact h.cons a (h.der.1 h1) (h.der.1 h2)
  · obtain ⟨l, hl, hn⟩ := h.clause c hc
    exact hn (h.der.1 (hf l hl))

/-- All literals of a list, by variables. -/
def byVar (n : Nat) (p : Int → Bool) : List Int := (List.range n).flatMap fun (i : Nat) => (if p ((i : Int) + 1) then [(i : Int) + 1] else []) ++ (if p (-((i : Int) + 1)) then [-((i : Int) + 1)] else [])

theorem byVar_succ (n : Nat) (p : Int → Bool) : byVar (n + 1) p = byVar n p ++ ((if p ((n : Int) + 1) then [(n : Int) + 1] else []) ++ (if p (-((n : Int) + 1)) then [-((n : Int) + 1)] else [])) := by
  simp [byVar, List.range_succ]

theorem mem_byVar {n : Nat} {p : Int → Bool} {a : Int} : a ∈ byVar n p ↔ LitOk n a ∧ p a = true := by
  simp only [byVar, List.mem_flatMap, List.mem_range, List.mem_append]
  constructor
  · rintro ⟨i, hi, h | h⟩
    · split at h
      · rename_i hp; simp at h; subst h; exact ⟨⟨by omega, by omega, by omega⟩, hp⟩
      · cases h
    · split at h
      · rename_i hp; simp at h; subst h; exact ⟨⟨by omega, by omega, by omega⟩, hp⟩
      · cases h
  · rintro ⟨⟨h0, h1, h2⟩, hp⟩
    rcases Int.lt_or_gt_of_ne h0 with h | h
    · refine ⟨(-a - 1).toNat, by omega, .inr ?_⟩
      have e : -((((-a - 1).toNat : Nat) : Int) + 1) = a := by omega
      rw [e, hp]; simp
    · refine ⟨(a - 1).toNat, by omega, .inl ?_⟩
      have e : (((a - 1).toNat : Nat) : Int) + 1 = a := by omega
      rw [e, hp]; simp

theorem byVar_congr {n : Nat} {p q : Int → Bool} (h : ∀ a, LitOk n a → p a = q a) : byVar n p = byVar n q := by
  induction n with
  | zero => rfl
  | succ n ih =>
    rw [byVar_succ, byVar_succ, ih fun a ha => h a ⟨ha.1, by have := ha.2.1; omega, by have := ha.2.2; omega⟩, h ((n : Int) + 1) ⟨by omega, by omega, by omega⟩, h (-((n : Int) + 1)) ⟨by omega, by omega, by omega⟩]

open Classical in
/-- What Units returns. -/
noncomputable def upL (n : Nat) (C : List (List Int)) (A : List Int) : List Int := if Bad C A then [] else byVar n fun a => decide (Der C A a)

open Classical in
/-- Whether Units fails. -/
noncomputable def upF (C : List (List Int)) (A : List Int) : Bool := decide (Bad C A)

theorem upF_true {C : List (List Int)} {A : List Int} : upF C A = true ↔ Bad C A := by simp [upF]
theorem upF_false {C : List (List Int)} {A : List Int} : upF C A = false ↔ ¬ Bad C A := by simp [upF]

theorem Closed.up {C : List (List Int)} {A K : List Int} (h : Closed C A K) (n : Nat) : upL n C A = byVar n (fun a => decide (a ∈ K)) ∧ upF C A = false := by
  refine ⟨?_, upF_false.2 h.good⟩
  unfold upL
  rw [if_neg h.good]
  exact byVar_congr fun a _ => by simp [h.der]

theorem bad_up {C : List (List Int)} {A : List Int} (h : Bad C A) (n : Nat) : upL n C A = [] ∧ upF C A = true := by
  refine ⟨?_, upF_true.2 h⟩
  unfold upL
  rw [if_pos h]

/-- Two formulas with the same results. -/
theorem up_congr {n : Nat} {C C' : List (List Int)} {A A' : List Int} (hb : Bad C A ↔ Bad C' A') (hd : ¬ Bad C A → ∀ a, Der C A a ↔ Der C' A' a) : upL n C A = upL n C' A' ∧ upF C A = upF C' A' := by
  by_cases h : Bad C A
  · rw [(bad_up h n).1, (bad_up h n).2, (bad_up (hb.1 h) n).1, (bad_up (hb.1 h) n).2]; exact ⟨rfl, rfl⟩
  · have h' : ¬ Bad C' A' := fun e => h (hb.2 e)
    refine ⟨?_, by rw [upF_false.2 h, upF_false.2 h']⟩
    unfold upL
    rw [if_neg h, if_neg h']
    exact byVar_congr fun a _ => by simp [hd h a]

/-- Clauses that always hold make no difference. -/
theorem up_norm {C N : List (List Int)} {A : List Int} {n : Nat} (hC : ClsOk n C) (h1 : ∀ c ∈ C, Taut c ∨ ∃ c' ∈ N, ∀ l, l ∈ c ↔ l ∈ c') (h2 : Sub N C) : upL n N A = upL n C A ∧ upF N A = upF C A := by
  by_cases h : Bad N A
  · exact up_congr ⟨fun _ => bad_mono h2 (fun _ h => h) h, fun _ => h⟩ fun hn => (hn h).elim
  · obtain ⟨g1, g2⟩ := bad_norm hC h1 h
    exact up_congr ⟨fun e => (h e).elim, fun e => (g2 e).elim⟩ fun _ _ => ⟨fun h => der_mono h2 (fun _ h => h) h, g1⟩

/-! ### Certificates, for closed formulas -/

end Go.Proofs.Ytfofabbnbmieoaa

/- Plain facts about rup's base: clauses watched by their first two literals, what is known, and what a look at a clause leaves. -/
namespace Go.Proofs.Ytfofabbnbmieoaa.Ord

/-- The watch lists name each clause just where it is watched. -/
structure WI (n : Nat) (C : List (List Int)) (Wt : Int → List Nat) : Prop where
  cls : ∀ c ∈ C, 2 ≤ c.length ∧ c.Nodup ∧ (∀ x ∈ c, LitOk n x) ∧ ∀ x ∈ c, -x ∉ c
  cnt : ∀ (i : Nat) (c : List Int) (a : Int), C[i]? = some c → (Wt a).count i = if c[0]? = some a ∨ c[1]? = some a then 1 else 0
  lt : ∀ a, ∀ i ∈ Wt a, i < C.length

/-- Where a watched literal is false among P, the other one is known in K. The clauses in E are left out for the literal a. -/
def Pr (C : List (List Int)) (K P : List Int) (a : Int) (E : List Nat) : Prop :=
  ∀ (i : Nat) (c : List Int) (x y : Int), C[i]? = some c → c[0]? = some x → c[1]? = some y →
    (-x ∈ P ∨ (x = a ∧ i ∉ E) → y ∈ K) ∧ (-y ∈ P ∨ (y = a ∧ i ∉ E) → x ∈ K)

/-- Where both watched literals. -/
def PrB (C : List (List Int)) (K : List Int) : Prop :=
  ∀ (i : Nat) (c : List Int) (x y : Int), C[i]? = some c → c[0]? = some x → c[1]? = some y → (-x ∈ K → y ∈ K) ∧ (-y ∈ K → x ∈ K)

/-- Two places of a list change. -/
def swapL (c : List Int) (j k : Nat) : List Int := (c.set j (c.getD k 0)).set k (c.getD j 0)

theorem swapL_length (c : List Int) (j k : Nat) : (swapL c j k).length = c.length := by simp [swapL]

theorem swapL_get {c : List Int} {j k : Nat} (hj : j < c.length) (hk : k < c.length) (i : Nat) : (swapL c j k)[i]? = if i = k then c[j]? else if i = j then c[k]? else c[i]? := by
  unfold swapL
  rw [List.getElem?_set, List.getElem?_set]
  simp only [List.length_set]
  by_cases h1 : i = k
  · subst h1
    rw [if_pos rfl, if_pos hk, if_pos rfl, List.getD_eq_getElem?_getD, List.getElem?_eq_getElem hj]
    rfl
  · rw [if_neg (show ¬ k = i from fun e => h1 e.symm), if_neg h1]
    by_cases h2 : i = j
    · subst h2
      rw [if_pos rfl, if_pos hj, if_pos rfl, List.getD_eq_getElem?_getD, List.getElem?_eq_getElem hk]
      rfl
    · rw [if_neg (show ¬ j = i from fun e => h2 e.symm), if_neg h2]

theorem swapL_mem {c : List Int} {j k : Nat} (hj : j < c.length) (hk : k < c.length) {x : Int} : x ∈ swapL c j k ↔ x ∈ c := by
  constructor
  · intro h
    obtain ⟨i, hi⟩ := List.mem_iff_getElem?.1 h
    rw [swapL_get hj hk] at hi
    split at hi
    · exact List.mem_of_getElem? hi
    · split at hi
      · exact List.mem_of_getElem? hi
      · exact List.mem_of_getElem? hi
  · intro h
    obtain ⟨i, hi⟩ := List.mem_iff_getElem?.1 h
    by_cases h1 : i = j
    · subst h1
      exact List.mem_of_getElem? (i := k) (by rw [swapL_get hj hk, if_pos rfl]; exact hi)
    · by_cases h2 : i = k
      · subst h2
        exact List.mem_of_getElem? (i := j) (by rw [swapL_get hj hk, if_neg (fun e => h1 e.symm), if_pos rfl]; exact hi)
      · exact List.mem_of_getElem? (i := i) (by rw [swapL_get hj hk, if_neg h2, if_neg h1]; exact hi)

theorem nodup_get {c : List Int} (h : c.Nodup) {i j : Nat} {x : Int} (hi : c[i]? = some x) (hj : c[j]? = some x) : i = j := by
  obtain ⟨h1, e1⟩ := List.getElem?_eq_some_iff.1 hi
  obtain ⟨h2, e2⟩ := List.getElem?_eq_some_iff.1 hj
  have hp := List.pairwise_iff_getElem.1 h
  rcases Nat.lt_trichotomy i j with q | q | q
  · exact absurd (e1.trans e2.symm) (hp i j h1 h2 q)
  · exact q
  · exact absurd (e2.trans e1.symm) (hp j i h2 h1 q)

theorem nodup_of {c : List Int} (h : ∀ (i j : Nat) (x : Int), c[i]? = some x → c[j]? = some x → i = j) : c.Nodup := by
  refine List.pairwise_iff_getElem.2 fun i j hi hj hij e => ?_
  have := h i j c[i] (List.getElem?_eq_getElem hi) (by rw [e]; exact List.getElem?_eq_getElem hj)
  omega

theorem swapL_nodup {c : List Int} {j k : Nat} (hj : j < c.length) (hk : k < c.length) (h : c.Nodup) : (swapL c j k).Nodup := by
  refine nodup_of fun p q x hp hq => ?_
  rw [swapL_get hj hk] at hp hq
  by_cases p1 : p = k
  · rw [if_pos p1] at hp
    by_cases q1 : q = k
    · omega
    · rw [if_neg q1] at hq
      by_cases q2 : q = j
      · rw [if_pos q2] at hq
        have := nodup_get h hp hq
        omega
      · rw [if_neg q2] at hq
        have := nodup_get h hp hq
        omega
  · rw [if_neg p1] at hp
    by_cases p2 : p = j
    · rw [if_pos p2] at hp
      by_cases q1 : q = k
      · rw [if_pos q1] at hq
        have := nodup_get h hp hq
        omega
      · rw [if_neg q1] at hq
        by_cases q2 : q = j
        · omega
        · rw [if_neg q2] at hq
          have := nodup_get h hp hq
          omega
    · rw [if_neg p2] at hp
      by_cases q1 : q = k
      · rw [if_pos q1] at hq
        have := nodup_get h hp hq
        omega
      · rw [if_neg q1] at hq
        by_cases q2 : q = j
        · rw [if_pos q2] at hq
          have := nodup_get h hp hq
          omega
        · rw [if_neg q2] at hq
          exact nodup_get h hp hq

/-- A clause whose literals stand in another order. -/
def Same (c d : List Int) : Prop := d.length = c.length ∧ d.Nodup ∧ ∀ x, x ∈ d ↔ x ∈ c

theorem same_swap {c : List Int} {j k : Nat} (hj : j < c.length) (hk : k < c.length) (h : c.Nodup) : Same c (swapL c j k) := ⟨swapL_length _ _ _, swapL_nodup hj hk h, fun _ => swapL_mem hj hk⟩

section
variable {n : Nat} {C : List (List Int)} {Wt : Int → List Nat} {i : Nat} {c d : List Int}

theorem set_get (hc : C[i]? = some c) (t : Nat) : (C.set i d)[t]? = if t = i then some d else C[t]? := by
  rw [List.getElem?_set]
  have hi := (List.getElem?_eq_some_iff.1 hc).1
  by_cases h : i = t
  · subst h; rw [if_pos rfl, if_pos hi, if_pos rfl]
  · rw [if_neg h, if_neg (fun e => h e.symm)]

/-- The clause i in another order, watched as before. -/
theorem WI.perm (h : WI n C Wt) (hc : C[i]? = some c) (hs : Same c d) (hw : ∀ a, (d[0]? = some a ∨ d[1]? = some a) ↔ (c[0]? = some a ∨ c[1]? = some a)) : WI n (C.set i d) Wt := by
  have hcm := h.cls c (List.mem_of_getElem? hc)
  refine ⟨fun e he => ?_, fun t e a ht => ?_, fun a t ht => by rw [List.length_set]; exact h.lt a t ht⟩
  · rcases List.mem_or_eq_of_mem_set he with q | q
    · exact h.cls e q
    · rw [q]
      exact ⟨by have := hs.1; omega, hs.2.1, fun x hx => hcm.2.2.1 x ((hs.2.2 x).1 hx), fun x hx hn => hcm.2.2.2 x ((hs.2.2 x).1 hx) ((hs.2.2 _).1 hn)⟩
  · rw [set_get hc] at ht
    split at ht
    · rename_i e1
      subst e1
      injection ht with ht
      subst ht
      rw [h.cnt t c a hc]
      by_cases q : c[0]? = some a ∨ c[1]? = some a
      · rw [if_pos q, if_pos ((hw a).2 q)]
      · rw [if_neg q, if_neg (fun p => q ((hw a).1 p))]
    · exact h.cnt t e a ht

/-- The clause i watched by z in the place of a. -/
theorem WI.move {a o z : Int} {Wt' : Int → List Nat} (h : WI n C Wt) (hc : C[i]? = some c) (hs : Same c d) (hwc : ∀ b, (c[0]? = some b ∨ c[1]? = some b) ↔ (b = a ∨ b = o)) (hwd : ∀ b, (d[0]? = some b ∨ d[1]? = some b) ↔ (b = z ∨ b = o)) (haz : a ≠ z) (hao : a ≠ o) (hzo : z ≠ o)
    (h1 : ∀ t, t ≠ i → (Wt' a).count t = (Wt a).count t) (h2 : (Wt' a).count i = 0) (h3 : Wt' z = Wt z ++ [i]) (h4 : ∀ b, b ≠ a → b ≠ z → Wt' b = Wt b) (h5 : ∀ t ∈ Wt' a, t < C.length) : WI n (C.set i d) Wt' := by
  have hcm := h.cls c (List.mem_of_getElem? hc)
  have hil := (List.getElem?_eq_some_iff.1 hc).1
  refine ⟨fun e he => ?_, fun t e b ht => ?_, fun b t ht => ?_⟩
  · rcases List.mem_or_eq_of_mem_set he with q | q
    · exact h.cls e q
    · rw [q]
      exact ⟨by have := hs.1; omega, hs.2.1, fun x hx => hcm.2.2.1 x ((hs.2.2 x).1 hx), fun x hx hn => hcm.2.2.2 x ((hs.2.2 x).1 hx) ((hs.2.2 _).1 hn)⟩
  · rw [set_get hc] at ht
    split at ht
    · rename_i e1
      subst e1
      injection ht with ht
      subst ht
      have h0 := h.cnt t c b hc
      by_cases q1 : b = a
      · subst q1
        rw [h2, if_neg (fun p => ((hwd b).1 p).elim haz hao)]
      · by_cases q2 : b = z
        · subst q2
          rw [if_neg (fun p => ((hwc b).1 p).elim q1 hzo)] at h0
          rw [h3, List.count_append, h0, if_pos ((hwd b).2 (.inl rfl))]
          simp
        · rw [h4 b q1 q2, h0]
          by_cases q3 : b = o
          · rw [if_pos ((hwc b).2 (.inr q3)), if_pos ((hwd b).2 (.inr q3))]
          · rw [if_neg (fun p => ((hwc b).1 p).elim q1 q3), if_neg (fun p => ((hwd b).1 p).elim q2 q3)]
    · rename_i hti
      have h0 := h.cnt t e b ht
      by_cases q1 : b = a
      · subst q1; rw [h1 t hti, h0]
      · by_cases q2 : b = z
        · subst q2
          rw [h3, List.count_append, h0]
          have : ([i] : List Nat).count t = 0 := by rw [List.count_singleton]; simp; omega
          omega
        · rw [h4 b q1 q2, h0]
  · rw [List.length_set]
    by_cases q1 : b = a
    · subst q1; exact h5 t ht
    · by_cases q2 : b = z
      · subst q2
        rw [h3] at ht
        rcases List.mem_append.1 ht with p | p
        · exact h.lt b t p
        · rw [List.mem_singleton.1 p]; exact hil
      · rw [h4 b q1 q2] at ht; exact h.lt b t ht

end

end Go.Proofs.Ytfofabbnbmieoaa.Ord

/- Plain facts about rup's run: what holds while the clauses of a literal are gone through. -/
namespace Go.Proofs.Ytfofabbnbmieoaa.Ord

/-- The watch lists, with another list for a. -/
def effW (Wt : Int → List Nat) (a : Int) (l : List Nat) : Int → List Nat := fun b => if b = a then l else Wt b

theorem effW_self (Wt : Int → List Nat) (a : Int) (l : List Nat) : effW Wt a l a = l := if_pos rfl
theorem effW_ne (Wt : Int → List Nat) {a b : Int} (l : List Nat) (h : b ≠ a) : effW Wt a l b = Wt b := if_neg h

/-- What holds while the clauses that a watches are gone through: 'kept' stay with it, 'rest' are to come. F and A: from what all follows; K0: what was known before. -/
structure IL (n : Nat) (F : List (List Int)) (A : List Int) (C : List (List Int)) (Wt : Int → List Nat) (K P0 K0 : List Int) (a : Int) (kept rest : List Nat) : Prop where
  wi : WI n C (effW Wt a (kept ++ rest))
  pr : Pr C K P0 a rest
  bp : PrB C K0
  sub0 : ∀ x ∈ K0, x ∈ K
  subP : ∀ x ∈ P0, x ∈ K
  ak : -a ∈ K
  cons : ∀ x ∈ K, -x ∉ K
  nod : K.Nodup
  kok : ∀ x ∈ K, LitOk n x
  snd : ∀ x ∈ K, Der F A x
  sub : ∀ c ∈ C, ∃ f ∈ F, ∀ l, l ∈ c ↔ l ∈ f

section
variable {n : Nat} {F : List (List Int)} {A : List Int} {C : List (List Int)} {Wt : Int → List Nat} {K P0 K0 : List Int} {a o z : Int} {kept rest : List Nat} {i : Nat} {c d : List Int}

theorem two_get (h : 2 ≤ c.length) : ∃ x y, c[0]? = some x ∧ c[1]? = some y := ⟨_, _, List.getElem?_eq_getElem (by omega), List.getElem?_eq_getElem (by omega)⟩

/-- The clause at hand is watched by a. -/
theorem IL.here (h : IL n F A C Wt K P0 K0 a kept (i :: rest)) : ∃ c, C[i]? = some c ∧ (c[0]? = some a ∨ c[1]? = some a) ∧ i ∉ kept ∧ i ∉ rest := by
  have hm : i ∈ effW Wt a (kept ++ i :: rest) a := by rw [effW_self]; simp
  have hl := h.wi.lt a i hm
  refine ⟨C[i], List.getElem?_eq_getElem hl, ?_⟩
  have h0 := h.wi.cnt i C[i] a (List.getElem?_eq_getElem hl)
  rw [effW_self, List.count_append, List.count_cons_self] at h0
  have h1 : (C[i])[0]? = some a ∨ (C[i])[1]? = some a := by
    by_cases q : (C[i])[0]? = some a ∨ (C[i])[1]? = some a
    · exact q
    · rw [if_neg q] at h0; omega
  rw [if_pos h1] at h0
  exact ⟨h1, List.count_eq_zero.1 (by omega), List.count_eq_zero.1 (by omega)⟩

theorem pairs {x y : Int} (h : ∀ b, (c[0]? = some b ∨ c[1]? = some b) ↔ (b = a ∨ b = o)) (hx : c[0]? = some x) (hy : c[1]? = some y) (hn : c.Nodup) : (x = a ∧ y = o) ∨ (x = o ∧ y = a) := by
  have h1 := (h x).1 (.inl hx)
  have h2 := (h y).1 (.inr hy)
  have h3 : x ≠ y := fun e => by
    have := nodup_get hn hx (by rw [e]; exact hy)
    omega
  rcases h1 with h1 | h1 <;> rcases h2 with h2 | h2
  · exact absurd (h1.trans h2.symm) h3
  · exact .inl ⟨h1, h2⟩
  · exact .inr ⟨h1, h2⟩
  · exact absurd (h1.trans h2.symm) h3

/-- The clause stays with a: its other watched literal is known. -/
theorem IL.keep {K' : List Int} (h : IL n F A C Wt K P0 K0 a kept (i :: rest)) (hc : C[i]? = some c) (hs : Same c d) (hd0 : d[0]? = some o) (hd1 : d[1]? = some a) (hcw : ∀ b, (c[0]? = some b ∨ c[1]? = some b) ↔ (b = a ∨ b = o)) (hao : a ≠ o)
    (hK : ∀ x ∈ K, x ∈ K') (ho : o ∈ K') (hcons : ∀ x ∈ K', -x ∉ K') (hnod : K'.Nodup) (hkok : ∀ x ∈ K', LitOk n x) (hsnd : ∀ x ∈ K', Der F A x) : IL n F A (C.set i d) Wt K' P0 K0 a (kept ++ [i]) rest := by
  have hcm := h.wi.cls c (List.mem_of_getElem? hc)
  obtain ⟨c', hc', -, hik, hir⟩ := h.here
  obtain ⟨p, q, hp, hq⟩ := two_get hcm.1
  have hpq := pairs hcw hp hq hcm.2.1
  refine ⟨?_, fun t e x y ht hx hy => ?_, fun t e x y ht hx hy => ?_, fun x hx => hK x (h.sub0 x hx), fun x hx => hK x (h.subP x hx), hK _ h.ak, hcons, hnod, hkok, hsnd, fun e he => ?_⟩
  · have := h.wi.perm hc hs (fun b => by
      rw [hcw b, hd0, hd1]
      constructor
      · rintro (q | q)
        · injection q with q; exact .inr q.symm
        · injection q with q; exact .inl q.symm
      · rintro (q | q)
        · exact .inr (by rw [q])
        · exact .inl (by rw [q]))
    rw [List.append_assoc]
    exact this
  · rw [set_get hc] at ht
    split at ht
    · rename_i e1
      subst e1
      injection ht with ht
      subst ht
      rw [hd0] at hx
      rw [hd1] at hy
      injection hx with hx
      injection hy with hy
      subst hx hy
      refine ⟨fun hh => ?_, fun _ => ho⟩
      rcases hh with hh | hh
      · have := h.pr t c p q hc hp hq
        rcases hpq with ⟨e1, e2⟩ | ⟨e1, e2⟩
        · subst e1 e2; exact hK _ (this.2 (.inl hh))
        · subst e1 e2; exact hK _ (this.1 (.inl hh))
      · exact absurd hh.1.symm hao
    · rename_i hti
      have := h.pr t e x y ht hx hy
      refine ⟨fun hh => hK _ (this.1 (hh.imp_right fun q => ⟨q.1, fun m => ?_⟩)), fun hh => hK _ (this.2 (hh.imp_right fun q => ⟨q.1, fun m => ?_⟩))⟩
      · rcases List.mem_cons.1 m with m | m
        · exact hti m
        · exact q.2 m
      · rcases List.mem_cons.1 m with m | m
        · exact hti m
        · exact q.2 m
  · rw [set_get hc] at ht
    split at ht
    · rename_i e1
      subst e1
      injection ht with ht
      subst ht
      rw [hd0] at hx
      rw [hd1] at hy
      injection hx with hx
      injection hy with hy
      subst hx hy
      have := h.bp t c p q hc hp hq
      rcases hpq with ⟨e1, e2⟩ | ⟨e1, e2⟩
      · subst e1 e2; exact ⟨this.2, this.1⟩
      · subst e1 e2; exact this
    · exact h.bp t e x y ht hx hy
  · rcases List.mem_or_eq_of_mem_set he with q | q
    · exact h.sub e q
    · obtain ⟨f, hf, hl⟩ := h.sub c (List.mem_of_getElem? hc)
      rw [q]
      exact ⟨f, hf, fun l => (hs.2.2 l).trans (hl l)⟩

/-- The clause goes over to z. -/
theorem IL.move {Wt' : Int → List Nat} (h : IL n F A C Wt K P0 K0 a kept (i :: rest)) (hc : C[i]? = some c) (hs : Same c d) (hd0 : d[0]? = some o) (hd1 : d[1]? = some z) (hcw : ∀ b, (c[0]? = some b ∨ c[1]? = some b) ↔ (b = a ∨ b = o)) (hao : a ≠ o) (haz : a ≠ z) (hzo : z ≠ o) (hzK : -z ∉ K)
    (hz : Wt' z = Wt z ++ [i]) (hw : ∀ b, b ≠ z → Wt' b = Wt b) : IL n F A (C.set i d) Wt' K P0 K0 a kept rest := by
  have hcm := h.wi.cls c (List.mem_of_getElem? hc)
  obtain ⟨c', hc', -, hik, hir⟩ := h.here
  obtain ⟨p, q, hp, hq⟩ := two_get hcm.1
  have hpq := pairs hcw hp hq hcm.2.1
  have haK : a ∉ K := fun m => h.cons a m h.ak
  refine ⟨?_, fun t e x y ht hx hy => ?_, fun t e x y ht hx hy => ?_, h.sub0, h.subP, h.ak, h.cons, h.nod, h.kok, h.snd, fun e he => ?_⟩
  · refine h.wi.move (a := a) (o := o) (z := z) hc hs hcw (fun b => ?_) haz hao hzo (fun t hti => ?_) ?_ ?_ (fun b hb hbz => ?_) (fun t ht => ?_)
    · rw [hd0, hd1]
      constructor
      · rintro (q | q)
        · injection q with q; exact .inr q.symm
        · injection q with q; exact .inl q.symm
      · rintro (q | q)
        · exact .inr (by rw [q])
        · exact .inl (by rw [q])
    · rw [effW_self, effW_self, List.count_append, List.count_append, List.count_cons_of_ne (fun e => hti e.symm)]
    · rw [effW_self, List.count_append, List.count_eq_zero.2 hik, List.count_eq_zero.2 hir]
    · rw [effW_ne _ _ (fun e => haz e.symm), effW_ne _ _ (fun e => haz e.symm), hz]
    · rw [effW_ne _ _ hb, effW_ne _ _ hb, hw b hbz]
    · rw [effW_self] at ht
      refine h.wi.lt a t ?_
      rw [effW_self]
      rcases List.mem_append.1 ht with m | m
      · exact List.mem_append_left _ m
      · exact List.mem_append_right _ (List.mem_cons_of_mem _ m)
  · rw [set_get hc] at ht
    split at ht
    · rename_i e1
      subst e1
      injection ht with ht
      subst ht
      rw [hd0] at hx
      rw [hd1] at hy
      injection hx with hx
      injection hy with hy
      subst hx hy
      have := h.pr t c p q hc hp hq
      refine ⟨fun hh => ?_, fun hh => ?_⟩
      · rcases hh with hh | hh
        · rcases hpq with ⟨e1, e2⟩ | ⟨e1, e2⟩
          · subst e1 e2; exact absurd (this.2 (.inl hh)) haK
          · subst e1 e2; exact absurd (this.1 (.inl hh)) haK
        · exact absurd hh.1.symm hao
      · rcases hh with hh | hh
        · exact absurd (h.subP _ hh) hzK
        · exact absurd hh.1.symm haz
    · rename_i hti
      have := h.pr t e x y ht hx hy
      refine ⟨fun hh => this.1 (hh.imp_right fun q => ⟨q.1, fun m => ?_⟩), fun hh => this.2 (hh.imp_right fun q => ⟨q.1, fun m => ?_⟩)⟩
      · rcases List.mem_cons.1 m with m | m
        · exact hti m
        · exact q.2 m
      · rcases List.mem_cons.1 m with m | m
        · exact hti m
        · exact q.2 m
  · rw [set_get hc] at ht
    split at ht
    · rename_i e1
      subst e1
      injection ht with ht
      subst ht
      rw [hd0] at hx
      rw [hd1] at hy
      injection hx with hx
      injection hy with hy
      subst hx hy
      have := h.bp t c p q hc hp hq
      refine ⟨fun hh => ?_, fun hh => absurd (h.sub0 _ hh) hzK⟩
      rcases hpq with ⟨e1, e2⟩ | ⟨e1, e2⟩
      · subst e1 e2; exact absurd (h.sub0 _ (this.2 hh)) haK
      · subst e1 e2; exact absurd (h.sub0 _ (this.1 hh)) haK
    · exact h.bp t e x y ht hx hy
  · rcases List.mem_or_eq_of_mem_set he with q | q
    · exact h.sub e q
    · obtain ⟨f, hf, hl⟩ := h.sub c (List.mem_of_getElem? hc)
      rw [q]
      exact ⟨f, hf, fun l => (hs.2.2 l).trans (hl l)⟩

/-- The other literal follows, where all others are false. -/
theorem IL.derive (h : IL n F A C Wt K P0 K0 a kept rest) (hc : c ∈ C) (ho : o ∈ c) (hf : ∀ x ∈ c, x ≠ o → -x ∈ K) : Der F A o := by
  obtain ⟨f, hfF, hl⟩ := h.sub c hc
  exact .unit hfF ((hl o).1 ho) fun m hm hne => h.snd _ (hf m ((hl m).2 hm) hne)

end

/-! ### The whole run -/

/-- What holds between two literals of the trail: d of them are done. -/
structure RI (n : Nat) (F : List (List Int)) (A : List Int) (C : List (List Int)) (Wt : Int → List Nat) (K K0 : List Int) (d : Nat) : Prop where
  wi : WI n C Wt
  pr : Pr C K (K.take d) 0 []
  bp : PrB C K0
  sub0 : ∀ x ∈ K0, x ∈ K
  cons : ∀ x ∈ K, -x ∉ K
  nod : K.Nodup
  kok : ∀ x ∈ K, LitOk n x
  snd : ∀ x ∈ K, Der F A x
  sub : ∀ c ∈ C, ∃ f ∈ F, ∀ l, l ∈ c ↔ l ∈ f
  dl : d ≤ K.length

section
variable {n : Nat} {F : List (List Int)} {A : List Int} {C : List (List Int)} {Wt : Int → List Nat} {K K0 : List Int} {a : Int} {d : Nat}

theorem RI.enter (h : RI n F A C Wt K K0 d) (hk : K[d]? = some (-a)) : IL n F A C Wt K (K.take d) K0 a [] (Wt a) := by
  have hkm := List.mem_of_getElem? hk
  refine ⟨?_, fun t e x y ht hx hy => ?_, h.bp, h.sub0, fun x hx => List.mem_of_mem_take hx, hkm, h.cons, h.nod, h.kok, h.snd, h.sub⟩
  · have : effW Wt a ([] ++ Wt a) = Wt := funext fun b => by
      unfold effW
      split
      · rename_i e; rw [e]; rfl
      · rfl
    rw [this]
    exact h.wi
  · have h0 := h.pr t e x y ht hx hy
    have hin : ∀ b, (e[0]? = some b ∨ e[1]? = some b) → t ∈ Wt b := fun b hb => by
      have := h.wi.cnt t e b ht
      rw [if_pos hb] at this
      exact List.count_pos_iff.1 (by omega)
    refine ⟨fun hh => ?_, fun hh => ?_⟩
    · rcases hh with hh | hh
      · exact h0.1 (.inl hh)
      · exact absurd (hin a (.inl (hh.1 ▸ hx))) hh.2
    · rcases hh with hh | hh
      · exact h0.2 (.inl hh)
      · exact absurd (hin a (.inr (hh.1 ▸ hy))) hh.2

theorem IL.leave {kept : List Nat} {K' : List Int} (h : IL n F A C Wt K' (K.take d) K0 a kept []) (hk : K[d]? = some (-a)) (hp : ∃ R, K' = K ++ R) : RI n F A C (effW Wt a kept) K' K0 (d + 1) := by
  obtain ⟨R, rfl⟩ := hp
  have hd : d < K.length := (List.getElem?_eq_some_iff.1 hk).1
  have ht : (K ++ R).take (d + 1) = K.take d ++ [-a] := by
    rw [List.take_append_of_le_length (by omega), List.take_add_one, hk]
    rfl
  have hw := h.wi
  rw [List.append_nil] at hw
  refine ⟨hw, fun t e x y hte hx hy => ?_, h.bp, h.sub0, h.cons, h.nod, h.kok, h.snd, h.sub, by simp; omega⟩
  rw [ht]
  have h0 := h.pr t e x y hte hx hy
  have hcm := h.wi.cls e (List.mem_of_getElem? hte)
  have hx0 := (hcm.2.2.1 x (List.mem_of_getElem? hx)).1
  have hy0 := (hcm.2.2.1 y (List.mem_of_getElem? hy)).1
  have key : ∀ u : Int, u ≠ 0 → (-u ∈ K.take d ++ [-a] ∨ (u = 0 ∧ t ∉ ([] : List Nat))) → -u ∈ K.take d ∨ (u = a ∧ t ∉ ([] : List Nat)) := fun u hu hh => by
    rcases hh with hh | hh
    · rcases List.mem_append.1 hh with m | m
      · exact .inl m
      · have : -u = -a := by simpa using m
        exact .inr ⟨by omega, by simp⟩
    · exact absurd hh.1 hu
  exact ⟨fun hh => h0.1 (key x hx0 hh), fun hh => h0.2 (key y hy0 hh)⟩

/-- Where all is done, K is closed under the clauses. -/
theorem RI.closed (h : RI n F A C Wt K K0 K.length) : ∀ c ∈ C, (∃ l ∈ c, -l ∉ K) ∧ ∀ l ∈ c, (∀ m ∈ c, m ≠ l → -m ∈ K) → l ∈ K := by
  intro c hc
  obtain ⟨i, hi⟩ := List.mem_iff_getElem?.1 hc
  have hcm := h.wi.cls c hc
  obtain ⟨x, y, hx, hy⟩ := two_get hcm.1
  have h0 := h.pr i c x y hi hx hy
  rw [List.take_of_length_le (Nat.le_refl _)] at h0
  have hxm := List.mem_of_getElem? hx
  have hym := List.mem_of_getElem? hy
  have hxy : x ≠ y := fun e => by
    have := nodup_get hcm.2.1 hx (by rw [e]; exact hy)
    omega
  by_cases q1 : -x ∈ K
  · have hyK := h0.1 (.inl q1)
    refine ⟨⟨y, hym, h.cons y hyK⟩, fun l hl hall => ?_⟩
    by_cases e : y = l
    · rw [← e]; exact hyK
    · exact absurd (hall y hym e) (h.cons y hyK)
  · by_cases q2 : -y ∈ K
    · have hxK := h0.2 (.inl q2)
      refine ⟨⟨x, hxm, h.cons x hxK⟩, fun l hl hall => ?_⟩
      by_cases e : x = l
      · rw [← e]; exact hxK
      · exact absurd (hall x hxm e) (h.cons x hxK)
    · refine ⟨⟨x, hxm, q1⟩, fun l hl hall => ?_⟩
      by_cases e : x = l
      · exact absurd (hall y hym (fun e2 => hxy (e.trans e2.symm))) q2
      · exact absurd (hall x hxm e) q1

end

end Go.Proofs.Ytfofabbnbmieoaa.Ord

/- Laws for appends to slices of the call's own, whatever the source (nil or not), inside and outside regions whose order is open; for x[1:]; elements of one cell. -/
namespace Go.Proofs.Ytfofabbnbmieoaa
open Go.RowKit

theorem SlV.cells {w : World} {ad : Addr} {vs : List Value} (h : SlV w (some ad) vs) : ∀ j u, vs[j]? = some u → w.cell? (ad.add j) = some u := by
  intro j u hj
  obtain ⟨b, off, he, hc⟩ := h j u hj
  simp at he
  subst he
  unfold Addr.add
  split
  · rename_i h0; subst h0; simpa using hc
  · simpa using hc

theorem run_append_sl {P : Program} (w : World) (base : Nat) (t ty e : TypeId) (i : TypeInfo) (z : Value) (bytes : Nat) (ht : P.underlying t = some (.slice e)) (hi : P.info? e = some i) (hz : i.zero = some z)
    (hsize : i.size = 1) (hby : i.bytes = bytes) (hzs : z.cells.size = 1)
    (v : Value) (n : Nat) (xs : List Value) (hown : w.ownsRow base e 1 v n xs)
    (a : Option Addr) (m c : Nat) (news : List Value) (hs : SlV w a news) (hm : m = news.length) (hc : a = none → c = 0) (h1 : ∀ u ∈ news, u.oneCell' = true)
    (h63 : n + m ≤ maxLen) (hbytes : (n + m) * bytes ≤ 140737488355328) (hbase : base ≤ w.heap.size) :
    ∃ v' w', (Builtin.append_ #[t, t] ty #[v, .slice a m c]).run P w = .ok v' w' ∧ w'.ownsRow base e 1 v' (n + m) (xs ++ news) ∧ w.grownBy w' v.ownBlock := by
  cases a with
  | some ad =>
    obtain ⟨v', w', hr, h2, h3, -⟩ := run_append_own (P := P) w base t ty e i z 1 bytes ht hi hz hsize hby hzs (by decide) v n xs hown ad m c news (by omega) hs.cells h1 h63 hbytes hbase
    exact ⟨v', w', hr, h2, h3⟩
  | none =>
    have hn : news = [] := by
      cases news with
      | nil => rfl
      | cons u us => obtain ⟨b, off, he, -⟩ := hs 0 u rfl; cases he
    subst hn
    have hm0 : m = 0 := hm
    subst hm0
    rw [hc rfl]
    exact ⟨v, w, run_append_owned_none (P := P) (w := w) base t ty e i 1 ht hi v n xs hown, by simpa using hown, ⟨rfl, rfl, rfl, Nat.le_refl _, fun _ _ _ => rfl⟩⟩

/-- append, outside a region whose order is open. -/
theorem wpList_append_sl {P : Program} (w : World) {ops : Array Oper} {rest : List Oper} {o : Oper} {a : Act} {Q : Exit → Act → World → Prop} (hgd : o.guard = none) (s x : Operand) (t : TypeId)
    (ho : o.op = .call { callee := .builtin .append, args := #[s, x], argTypes := #[t, t] })
    (base : Nat) (e : TypeId) (i : TypeInfo) (z : Value) (bytes : Nat) (ht : P.underlying t = some (.slice e)) (hi : P.info? e = some i) (hz : i.zero = some z)
    (hsize : i.size = 1) (hby : i.bytes = bytes) (hzs : z.cells.size = 1)
    (v : Value) (n : Nat) (xs : List Value) (hs : a.eval s = v) (hown : w.ownsRow base e 1 v n xs)
    (ad : Option Addr) (m c : Nat) (news : List Value) (hx : a.eval x = .slice ad m c) (hsl : SlV w ad news) (hm : m = news.length) (hc : ad = none → c = 0) (h1 : ∀ u ∈ news, u.oneCell' = true)
    (h63 : n + m ≤ maxLen) (hbytes : (n + m) * bytes ≤ 140737488355328) (hbase : base ≤ w.heap.size)
    (h : ∀ v' w', w'.ownsRow base e 1 v' (n + m) (xs ++ news) → w.grownBy w' v.ownBlock → wpList P ops Q rest (a.put o.dst v') w') : wpList P ops Q (o :: rest) a w :=
  wpList_plain hgd fun K hK => by
    obtain ⟨v', w', hr, h2, h3⟩ := run_append_sl (P := P) w base t o.type e i z bytes ht hi hz hsize hby hzs v n xs hown ad m c news hsl hm hc h1 h63 hbytes hbase
    unfold Oper.wp execOp
    simp only [ho, resolve, invoke, builtin, Sem.run_bind, Sem.run_pure, Result.andThen_ok, List.map_toArray, List.map_cons, List.map_nil, hs, hx, hr]
    exact hK _ _ (h v' w' h2 h3)

/-- append, as one step of a region whose order is open. -/
theorem step_append_sl {P : Program} {w : World} {ops : Array Oper} {o : Oper} {a : Act} {K : Act → World → Prop} {Q : Exit → Act → World → Prop} {E : Prop} (hgd : o.guard = none) (s x : Operand) (t : TypeId)
    (ho : o.op = .call { callee := .builtin .append, args := #[s, x], argTypes := #[t, t] })
    (base : Nat) (e : TypeId) (i : TypeInfo) (z : Value) (bytes : Nat) (ht : P.underlying t = some (.slice e)) (hi : P.info? e = some i) (hz : i.zero = some z)
    (hsize : i.size = 1) (hby : i.bytes = bytes) (hzs : z.cells.size = 1)
    (v : Value) (n : Nat) (xs : List Value) (hs : a.eval s = v) (hown : w.ownsRow base e 1 v n xs)
    (ad : Option Addr) (m c : Nat) (news : List Value) (hx : a.eval x = .slice ad m c) (hsl : SlV w ad news) (hm : m = news.length) (hc : ad = none → c = 0) (h1 : ∀ u ∈ news, u.oneCell' = true)
    (h63 : n + m ≤ maxLen) (hbytes : (n + m) * bytes ≤ 140737488355328) (hbase : base ≤ w.heap.size)
    (h : ∀ v' w', w'.ownsRow base e 1 v' (n + m) (xs ++ news) → w.grownBy w' v.ownBlock → K (a.put o.dst v') w') :
    if Region.wanted o (yielded ops a.tmps) = true then Oper.wp P o a w K Q else E := by
  have hw : Region.wanted o (yielded ops a.tmps) = true := by simp [Region.wanted, hgd]
  rw [if_pos hw]
  obtain ⟨v', w', hr, h2, h3⟩ := run_append_sl (P := P) w base t o.type e i z bytes ht hi hz hsize hby hzs v n xs hown ad m c news hsl hm hc h1 h63 hbytes hbase
  unfold Oper.wp execOp
  simp only [ho, resolve, invoke, builtin, Sem.run_bind, Sem.run_pure, Result.andThen_ok, List.map_toArray, List.map_cons, List.map_nil, hs, hx, hr]
  exact h v' w' h2 h3

/-- x[1:] of a slice that is not empty: what the walk is told of it. -/
theorem tail_run {P : Program} {t e : TypeId} {w : World} {b off n c : Nat} {v : Value} {vs : List Value} (ht : P.underlying t = some (.slice e)) (hsz : ∀ wx, (sizeOf e).run P wx = .ok 1 wx)
    (hs : SlV w (some ⟨b, off, none⟩) (v :: vs)) (hn : n = (v :: vs).length) (hc : n ≤ c) :
    ∃ A, (∀ wx, (Instr.slice t (.slice (some ⟨b, off, none⟩) n c) (some (.int .i64 1)) none none).run P wx = .ok (.slice (some A) vs.length (c - 1)) wx) ∧ SlV w (some A) vs := by
  have he : P.elem t = e := by simp [Program.elem, ht]
  simp only [List.length_cons] at hn
  by_cases h1 : c = 1
  · have : vs = [] := List.eq_nil_of_length_eq_zero (by omega)
    subst this
    refine ⟨⟨b, off, none⟩, fun wx => ?_, SlV.nil _ _⟩
    rw [run_slice_l (P := P) wx t _ n c (by rw [he]; exact ht) .i64 1 (by omega) (by omega), he, hsz]
    simp [sliced, Result.andThen, h1, hn]
  · refine ⟨⟨b, off + 1, none⟩, fun wx => ?_, fun j u hj => ?_⟩
    · rw [run_slice_l (P := P) wx t _ n c (by rw [he]; exact ht) .i64 1 (by omega) (by omega), he, hsz]
      simp [sliced, Result.andThen, h1, hn, Addr.add]
    · obtain ⟨b', off', he, hcell⟩ := hs (j + 1) u (by simpa using hj)
      simp at he
      obtain ⟨rfl, rfl⟩ := he
      exact ⟨b, off + 1, rfl, by rw [Nat.add_assoc, Nat.add_comm 1 j]; exact hcell⟩

theorem slv_one {w : World} {b : Nat} {u : Value} (h : w.cell? ⟨b, 0, none⟩ = some u) : SlV w (some ⟨b, 0, none⟩) [u] := by
  intro j v hj
  match j, hj with
  | 0, hj => simp at hj; subst hj; exact ⟨b, 0, rfl, h⟩

theorem one_int {x : Int} : ∀ u ∈ [Value.int .i64 x], u.oneCell' = true := by
  intro u hu; simp at hu; subst hu; rfl

/-- A new block behind draws reads as its one value. -/
theorem slv_new_dr (w : World) (n : Nat) (u : Value) (e : TypeId) (m : Nat × Nat) : SlV ((w.drewN n).alloc (.cells #[u] e m)) (some ⟨w.heap.size, 0, none⟩) [u] := by
  refine slv_one ?_
  have h : ((w.drewN n).alloc (.cells #[u] e m)).heap[w.heap.size]? = some (.cells #[u] e m) := heap_alloc_new (w.drewN n) _
  rw [cell_of_row _ _ _ _ _ _ h]
  simp

/-- The length in a slot that holds a slice. -/
def lenOfV : Value → Nat | .slice _ n _ => n | _ => 0

theorem ints_one {xs : List Int} : ∀ u ∈ ints xs, u.oneCell' = true := by
  intro u hu
  simp [ints] at hu
  obtain ⟨x, -, rfl⟩ := hu
  rfl

/-- The slice value 'v' reads as the ints 'xs', whose cells lie in a block of the call's own (from B on). -/
def OwnT (e : TypeId) (w : World) (B : Nat) (v : Value) (xs : List Int) : Prop :=
  ∃ a c, v = .slice a xs.length c ∧ xs.length ≤ c ∧ (a = none → c = 0) ∧
    ∀ ad, a = some ad → ∃ g off cur, ad = ⟨g, off, none⟩ ∧ B ≤ g ∧ w.heap[g]? = some (.cells cur e (0, 0)) ∧ ∀ j x, xs[j]? = some x → cur[off + j]? = some (.int .i64 x)

theorem ownT_of_own {w : World} {B e n : Nat} {v : Value} {xs : List Int} (h : w.ownsRow B e 1 v n (ints xs)) : OwnT e w B v xs := by
  have hn : n = xs.length := by have := h.1; simp at this; omega
  rcases h.2 with ⟨rfl, h0⟩ | ⟨g, cap, cur, rfl, hB, hg, hle, _, _, ht⟩
  · subst h0
    have : xs = [] := List.eq_nil_of_length_eq_zero (by omega)
    subst this
    exact ⟨none, 0, rfl, Nat.le_refl _, fun _ => rfl, nofun⟩
  · refine ⟨some ⟨g, 0, none⟩, cap, by rw [hn], by omega, nofun, fun ad had => ⟨g, 0, cur, (Option.some.inj had).symm, hB, hg, fun j x hj => ?_⟩⟩
    have h1 : (ints xs)[j]? = some (.int .i64 x) := by simp [ints, hj]
    rw [← ht, List.getElem?_take] at h1
    split at h1
    · simpa using h1
    · cases h1

theorem OwnT.sli {e : TypeId} {w : World} {B : Nat} {v : Value} {xs : List Int} (h : OwnT e w B v xs) : SlI w v xs := by
  obtain ⟨a, c, h1, h2, h3, h4⟩ := h
  refine ⟨a, c, h1, h2, h3, fun j u hj => ?_⟩
  cases a with
  | none =>
    have := h3 rfl
    have h0 : xs = [] := List.eq_nil_of_length_eq_zero (by omega)
    subst h0
    simp [ints] at hj
  | some ad =>
    obtain ⟨g, off, cur, rfl, -, hg, hc⟩ := h4 ad rfl
    simp only [ints, List.getElem?_map, Option.map_eq_some_iff] at hj
    obtain ⟨x, hx, rfl⟩ := hj
    exact ⟨g, off, rfl, by rw [cell_of_row _ _ _ _ _ _ hg]; exact hc j x hx⟩

theorem OwnT.below {e : TypeId} {w w' : World} {B : Nat} {v : Value} {xs : List Int} (h : OwnT e w B v xs) (hb : Below w.heap.size w w') : OwnT e w' B v xs := by
  obtain ⟨a, c, h1, h2, h3, h4⟩ := h
  refine ⟨a, c, h1, h2, h3, fun ad had => ?_⟩
  obtain ⟨g, off, cur, e1, e2, e3, e4⟩ := h4 ad had
  exact ⟨g, off, cur, e1, e2, by rw [hb.block g (Array.getElem?_eq_some_iff.1 e3).1]; exact e3, e4⟩

theorem OwnT.base {e : TypeId} {w : World} {B B' : Nat} {v : Value} {xs : List Int} (h : OwnT e w B v xs) (hB : B' ≤ B) : OwnT e w B' v xs := by
  obtain ⟨a, c, h1, h2, h3, h4⟩ := h
  refine ⟨a, c, h1, h2, h3, fun ad had => ?_⟩
  obtain ⟨g, off, cur, e1, e2, e3⟩ := h4 ad had
  exact ⟨g, off, cur, e1, by omega, e3⟩

/-- x[1:] of a slice of ints of the call's own that is not empty. -/
theorem ownT_tail {P : Program} {t e : TypeId} {w : World} {B n c : Nat} {a : Option Addr} {x : Int} {xs : List Int} (ht : P.underlying t = some (.slice e)) (hsz : ∀ wx, (sizeOf e).run P wx = .ok 1 wx)
    (h : OwnT e w B (.slice a n c) (x :: xs)) :
    ∃ A, (∀ wx, (Instr.slice t (.slice a n c) (some (.int .i64 1)) none none).run P wx = .ok (.slice (some A) xs.length (c - 1)) wx) ∧ OwnT e w B (.slice (some A) xs.length (c - 1)) xs := by
  have he : P.elem t = e := by simp [Program.elem, ht]
  obtain ⟨a', c', h1, h2, h3, h4⟩ := h
  simp only [Value.slice.injEq] at h1
  obtain ⟨rfl, rfl, rfl⟩ := h1
  simp only [List.length_cons] at h2 ⊢
  cases a with
  | none => have := h3 rfl; omega
  | some ad =>
    obtain ⟨g, off, cur, rfl, hB, hg, hc⟩ := h4 ad rfl
    by_cases h1 : c = 1
    · have : xs = [] := List.eq_nil_of_length_eq_zero (by omega)
      subst this
      refine ⟨⟨g, off, none⟩, fun wx => ?_, _, _, rfl, by simp, nofun, fun ad had => ⟨g, off, cur, (Option.some.inj had).symm, hB, hg, by simp⟩⟩
      rw [run_slice_l (P := P) wx t _ _ c (by rw [he]; exact ht) .i64 1 (by omega) (by simp), he, hsz]
      simp [sliced, Result.andThen, h1]
    · refine ⟨⟨g, off + 1, none⟩, fun wx => ?_, _, _, rfl, by omega, nofun, fun ad had => ⟨g, off + 1, cur, (Option.some.inj had).symm, hB, hg, fun j y hj => ?_⟩⟩
      · rw [run_slice_l (P := P) wx t _ _ c (by rw [he]; exact ht) .i64 1 (by omega) (by omega), he, hsz]
        simp [sliced, Result.andThen, h1, Addr.add]
      · have := hc (j + 1) y (by simpa using hj)
        rw [Nat.add_assoc, Nat.add_comm 1 j]; exact this

end Go.Proofs.Ytfofabbnbmieoaa

/- Memory of the call's own, told block by block: which blocks a call may have touched; rows of ints in blocks. -/
namespace Go.Proofs.Ytfofabbnbmieoaa.Ord
open Go.RowKit

theorem info_int : (Try.prog.info? 3).map (fun i => (i.zero, i.size, i.bytes)) = some (some (.int .i64 0), 1, 8) := by kernel_rfl
theorem sizeOf_int (wx : World) : (sizeOf 3).run Try.prog wx = .ok 1 wx := by kernel_rfl

theorem below_al {B : Nat} {a w : World} (h : Below B a w) (hB : B ≤ w.heap.size) (o : Obj) : Below B a (w.alloc o) := h.alloc hB o
theorem box_below (w : World) (o : Obj) : Below w.heap.size w (w.alloc o) := below_al (Below.refl _ _) (Nat.le_refl _) _
theorem heap_al (w : World) (o : Obj) : (w.alloc o).heap = w.heap.push o := rfl
theorem heap_dr (w : World) (n : Nat) : (w.drewN n).heap = w.heap := rfl
theorem heap_drew (w : World) : w.drew.heap = w.heap := rfl
theorem size_al (w : World) (o : Obj) : (w.alloc o).heap.size = w.heap.size + 1 := by simp
theorem setCell_size (w : World) (a : Addr) (v : Value) : (w.setCell a v).heap.size = w.heap.size := by simp [World.setCell]

theorem fit_cell {w : World} {b : Nat} {e : TypeId} {vs : List Value} {m : Nat × Nat} (h : w.heap[b]? = some (.cells vs.toArray e m)) (j : Nat) : w.cell? ⟨b, j, none⟩ = vs[j]? := by
  rw [cell_of_row _ _ _ _ _ _ h]; simp

theorem setCell_block {w : World} {b o : Nat} {e : TypeId} {xs : List Value} (v : Value) (h : w.heap[b]? = some (.cells xs.toArray e (0, 0))) : (w.setCell ⟨b, o, none⟩ v).heap[b]? = some (.cells (xs.set o v).toArray e (0, 0)) := by
  have := heap_setCell_same w b o xs.toArray e v h
  rw [this]
  simp

theorem ints_get {xs : List Int} {k : Nat} {x : Int} (h : xs[k]? = some x) : (ints xs)[k]? = some (.int .i64 x) := by simp [ints, h]
theorem ints_set (xs : List Int) (k : Nat) (x : Int) : (ints xs).set k (.int .i64 x) = ints (xs.set k x) := by simp [ints, List.map_set]

/-- But for the blocks of S, what was there is as it was. -/
structure Touch (S : Nat → Prop) (w w' : World) : Prop where
  os : w'.os = w.os
  tape : w'.tape = w.tape
  output : w'.output = w.output
  size : w.heap.size ≤ w'.heap.size
  block : ∀ k, k < w.heap.size → ¬ S k → w'.heap[k]? = w.heap[k]?

theorem Touch.refl (S : Nat → Prop) (w : World) : Touch S w w := ⟨rfl, rfl, rfl, Nat.le_refl _, fun _ _ _ => rfl⟩
theorem Touch.trans {S : Nat → Prop} {a b c : World} (h : Touch S a b) (k : Touch S b c) : Touch S a c :=
  ⟨k.os.trans h.os, k.tape.trans h.tape, k.output.trans h.output, Nat.le_trans h.size k.size, fun i hi hn => (k.block i (by have := h.size; omega) hn).trans (h.block i hi hn)⟩
theorem Touch.mono {S S' : Nat → Prop} {a b : World} (h : Touch S a b) (hs : ∀ k, k < a.heap.size → S k → S' k) : Touch S' a b :=
  ⟨h.os, h.tape, h.output, h.size, fun i hi hn => h.block i hi (fun e => hn (hs i hi e))⟩
theorem Touch.drew {S : Nat → Prop} {a b : World} (h : Touch S a b) : Touch S a b.drew := ⟨h.os, h.tape, h.output, h.size, h.block⟩
theorem Touch.drewN {S : Nat → Prop} {a b : World} (h : Touch S a b) (n : Nat) : Touch S a (b.drewN n) := ⟨h.os, h.tape, h.output, h.size, h.block⟩
theorem Touch.setCell {S : Nat → Prop} {a b : World} (h : Touch S a b) {p : Addr} (hp : S p.block) (u : Value) : Touch S a (b.setCell p u) :=
  ⟨h.os, h.tape, h.output, by rw [setCell_size]; exact h.size, fun i hi hn => (Below.heap_setCell b p u i (fun e => hn (by rw [e]; exact hp))).trans (h.block i hi hn)⟩
theorem Touch.alloc {S : Nat → Prop} {a b : World} (h : Touch S a b) (o : Obj) : Touch S a (b.alloc o) :=
  ⟨h.os, h.tape, h.output, by rw [size_al]; have := h.size; omega, fun i hi hn => (Below.heap_alloc _ _ _ (by have := h.size; omega)).trans (h.block i hi hn)⟩
theorem Touch.grown {S : Nat → Prop} {a b c : World} {row : Option Nat} (h : Touch S a b) (hg : b.grownBy c row) (hr : ∀ k, row = some k → S k ∨ a.heap.size ≤ k) : Touch S a c :=
  ⟨hg.os.trans h.os, hg.tape.trans h.tape, hg.output.trans h.output, Nat.le_trans h.size hg.size, fun i hi hn => (hg.block i (by have := h.size; omega) (fun e => by rcases hr i e.symm with h1 | h1; exact hn h1; omega)).trans (h.block i hi hn)⟩
theorem Touch.below {S : Nat → Prop} {B : Nat} {a b : World} (h : Touch S a b) (hB : B ≤ a.heap.size) (hs : ∀ k, S k → B ≤ k) : Below B a b :=
  ⟨h.os, h.tape, h.output, h.size, fun k hk => h.block k (by omega) (fun e => by have := hs k e; omega)⟩
theorem touch_of_below {S : Nat → Prop} {a b : World} (h : Below a.heap.size a b) : Touch S a b := ⟨h.os, h.tape, h.output, h.size, fun k hk _ => h.block k hk⟩

/-- A row of ints of the call's own, whatever its base. -/
def Rw (w : World) (v : Value) (xs : List Int) : Prop := w.ownsRow 0 3 1 v xs.length (ints xs)

theorem rw_frame {w w' : World} {v : Value} {xs : List Int} (h : Rw w v xs) (hk : ∀ k, v.ownBlock = some k → w'.heap[k]? = w.heap[k]?) : Rw w' v xs := by
  refine ⟨h.1, ?_⟩
  rcases h.2 with h0 | ⟨g, cap, cur, e1, e2, e3, e4⟩
  · exact .inl h0
  · exact .inr ⟨g, cap, cur, e1, e2, by rw [hk g (by rw [e1]; rfl)]; exact e3, e4⟩

theorem rw_form {w : World} {v : Value} {xs : List Int} (h : Rw w v xs) (hn : 0 < xs.length) : ∃ g c, v = .slice (some ⟨g, 0, none⟩) xs.length c := by
  rcases h.2 with ⟨_, h0⟩ | ⟨g, cap, cur, h1, _⟩
  · omega
  · exact ⟨g, cap, h1⟩

theorem rw_shape {w : World} {v : Value} {xs : List Int} (h : Rw w v xs) : ∃ a c, v = .slice a xs.length c ∧ xs.length ≤ c ∧ (a = none → c = 0) ∧ SlV w a (ints xs) := by
  obtain ⟨a, c, h1, h2, h3, h4⟩ := own_sli h
  exact ⟨a, c, h1, h2, h3, h4⟩

theorem rw_lt {w : World} {v : Value} {xs : List Int} (h : Rw w v xs) : ∀ k, v.ownBlock = some k → k < w.heap.size := fun k hk => (h.lt k hk).2

theorem rw_get {w : World} {g c n : Nat} {xs : List Int} {k : Nat} (h : Rw w (.slice (some ⟨g, 0, none⟩) n c) xs) (hn : n = xs.length) (hk : k < xs.length) : w.cell? ⟨g, k, none⟩ = some (.int .i64 xs[k]) := by
  subst hn
  rw [World.ownsRow.cellAt h k (by omega)]; exact ints_get (by simp)

theorem rw_free {w : World} {g c n : Nat} {xs : List Int} (h : Rw w (.slice (some ⟨g, 0, none⟩) n c) xs) (hn : n = xs.length) (k : Nat) : w.frozen? ⟨g, k, none⟩ = false := by
  subst hn
  exact World.ownsRow.frozenAt h k

theorem rw_set {w : World} {g c n : Nat} {xs : List Int} (h : Rw w (.slice (some ⟨g, 0, none⟩) n c) xs) (hn : n = xs.length) (k : Nat) (x : Int) : Rw (w.setCell ⟨g, k, none⟩ (.int .i64 x)) (.slice (some ⟨g, 0, none⟩) n c) (xs.set k x) := by
  subst hn
  have := (World.ownsRow.stored h k (.int .i64 x)).1
  rw [ints_set] at this
  unfold Rw
  rw [List.length_set]
  exact this

/-- x[:k] of a row. -/
theorem rw_take {w : World} {g c n : Nat} {xs : List Int} (h : Rw w (.slice (some ⟨g, 0, none⟩) n c) xs) (hn : n = xs.length) {k : Nat} (hk : k ≤ xs.length) : Rw w (.slice (some ⟨g, 0, none⟩) k c) (xs.take k) := by
  subst hn
  refine ⟨by simp, ?_⟩
  rcases h.2 with ⟨h0, _⟩ | ⟨g', cap, cur, e1, e2, e3, e4, e5, e6, e7⟩
  · cases h0
  · injection e1 with a1 a2 a3
    have hl : (xs.take k).length = k := by simp; omega
    refine .inr ⟨g', cap, cur, ?_, e2, e3, by omega, e5, e6, ?_⟩
    · rw [hl, a1, a3]
    · rw [hl]
      have : (ints (xs.take k)) = (ints xs).take k := by simp [ints]
      rw [this, ← e7, List.take_take]
      congr 1
      omega

theorem rw_apart {w : World} {b : Nat} {cs : Array Value} {e : TypeId} {m : Nat × Nat} {v : Value} {xs : List Int} (h : Rw w v xs) (hb : w.heap[b]? = some (.cells cs e m)) (hne : e ≠ 3) : v.ownBlock ≠ some b := by
  intro he
  rcases h.2 with ⟨rfl, _⟩ | ⟨g, cap, cur, rfl, _, hg, _⟩
  · simp [Value.ownBlock] at he
  · simp only [Value.ownBlock, Option.some.injEq] at he
    rw [he, hb] at hg
    simp at hg
    exact hne hg.2.1

end Go.Proofs.Ytfofabbnbmieoaa.Ord

/- Maps whose keys are ints: what the map in a block holds, as a list of entries in the order in which their keys came in; what a look-up, a store, a delete and len do to it. -/
namespace Go.Proofs.Ytfofabbnbmieoaa.Ord
open Go.RowKit Go.MapKept

/-- The value at a key. -/
def aget (es : List (Int × Value)) (k : Int) : Option Value := (es.find? fun p => p.1 == k).map (·.2)
/-- A store at a key. -/
def aput (es : List (Int × Value)) (k : Int) (v : Value) : List (Int × Value) := if es.any (fun p => p.1 == k) then es.map (fun p => if p.1 = k then (k, v) else p) else es ++ [(k, v)]
/-- A key struck. -/
def adel (es : List (Int × Value)) (k : Int) : List (Int × Value) := es.filter fun p => p.1 != k

theorem aget_none {es : List (Int × Value)} {k : Int} (h : ∀ p ∈ es, p.1 ≠ k) : aget es k = none := by
  unfold aget
  rw [List.find?_eq_none.2 (fun p hp => by simpa using h p hp)]
  rfl

theorem aget_at {es : List (Int × Value)} {k : Int} {v : Value} (hn : (es.map (·.1)).Nodup) {j : Nat} (h : es[j]? = some (k, v)) : aget es k = some v := by
  unfold aget
  induction es generalizing j with
  | nil => simp at h
  | cons p es ih =>
    rw [List.map_cons, List.nodup_cons] at hn
    cases j with
    | zero => simp at h; subst h; simp
    | succ j =>
      simp at h
      have hne : p.1 ≠ k := fun e => hn.1 (by rw [e]; exact List.mem_map.2 ⟨(k, v), List.mem_of_getElem? h, rfl⟩)
      have hb : (p.1 == k) = false := by simpa using hne
      rw [List.find?_cons, hb]
      exact ih hn.2 h

theorem aget_of_mem {es : List (Int × Value)} {k : Int} {v : Value} (hn : (es.map (·.1)).Nodup) (h : (k, v) ∈ es) : aget es k = some v := by
  obtain ⟨j, hj⟩ := List.mem_iff_getElem?.1 h
  exact aget_at hn hj

theorem aput_keys {es : List (Int × Value)} {k : Int} {v : Value} : (aput es k v).map (·.1) = if es.any (fun p => p.1 == k) then es.map (·.1) else es.map (·.1) ++ [k] := by
  unfold aput
  split
  · rw [List.map_map]
    refine List.map_congr_left fun p _ => ?_
    simp only [Function.comp]
    split
    · rename_i h; exact h.symm
    · rfl
  · simp

theorem aput_nodup {es : List (Int × Value)} {k : Int} {v : Value} (hn : (es.map (·.1)).Nodup) : ((aput es k v).map (·.1)).Nodup := by
  rw [aput_keys]
  split
  · exact hn
  · rename_i h
    refine List.nodup_append.2 ⟨hn, by simp, fun a ha c hc => ?_⟩
    simp only [List.mem_singleton] at hc
    subst hc
    rintro rfl
    obtain ⟨p, hp, rfl⟩ := List.mem_map.1 ha
    exact h (List.any_eq_true.2 ⟨p, hp, by simp⟩)

theorem aget_aput_same {es : List (Int × Value)} {k : Int} {v : Value} (hn : (es.map (·.1)).Nodup) : aget (aput es k v) k = some v := by
  refine aget_of_mem (aput_nodup hn) ?_
  unfold aput
  split
  · rename_i h
    obtain ⟨p, hp, hk⟩ := List.any_eq_true.1 h
    exact List.mem_map.2 ⟨p, hp, by rw [if_pos (by simpa using hk)]⟩
  · simp

theorem aget_aput_other {es : List (Int × Value)} {k k' : Int} {v : Value} (hne : k' ≠ k) : aget (aput es k v) k' = aget es k' := by
  unfold aget aput
  split
  · rw [List.find?_map, Option.map_map]
    have e : ((fun p : Int × Value => p.1 == k') ∘ fun p => if p.1 = k then (k, v) else p) = fun p => p.1 == k' := by
      funext p
      simp only [Function.comp]
      split
      · rename_i h; rw [h]
      · rfl
    rw [e]
    cases hf : es.find? (fun p => p.1 == k') with
    | none => rfl
    | some p =>
      have h3 := List.find?_some hf
      simp at h3
      simp only [Option.map_some, Function.comp]
      rw [if_neg (by rw [h3]; exact hne)]
  · rw [List.find?_append]
    cases hf : es.find? (fun p => p.1 == k') with
    | none => simp [Ne.symm hne]
    | some p => simp

/-- The map at the block b: its entries, in the order in which their keys came in. -/
def IM (w : World) (b : Nat) (es : List (Int × Value)) : Prop :=
  ∃ arr clock, w.heap[b]? = some (.map arr clock) ∧ Stamped arr clock ∧ arr.toList.map (fun e => (e.key, e.val)) = es.map (fun p => (Value.int .i64 p.1, p.2))

theorem IM.frame {w w' : World} {b : Nat} {es : List (Int × Value)} (h : IM w b es) (hk : w'.heap[b]? = w.heap[b]?) : IM w' b es :=
  let ⟨arr, c, h1, h2⟩ := h; ⟨arr, c, hk.trans h1, h2⟩

theorem IM.lt {w : World} {b : Nat} {es : List (Int × Value)} (h : IM w b es) : b < w.heap.size :=
  let ⟨_, _, h1, _⟩ := h; (Array.getElem?_eq_some_iff.1 h1).1

theorem im_made (w : World) : IM (w.alloc (.map #[] 0)) w.heap.size [] := ⟨#[], 0, heap_alloc_new _ _, stamped_empty 0, rfl⟩

theorem im_size {arr : Array MapEntry} {es : List (Int × Value)} (h : arr.toList.map (fun e => (e.key, e.val)) = es.map (fun p => (Value.int .i64 p.1, p.2))) : arr.size = es.length := by
  have := congrArg List.length h
  simpa using this

theorem im_at {arr : Array MapEntry} {es : List (Int × Value)} (h : arr.toList.map (fun e => (e.key, e.val)) = es.map (fun p => (Value.int .i64 p.1, p.2))) {j : Nat} {e : MapEntry} (hj : arr.toList[j]? = some e) :
    ∃ p, es[j]? = some p ∧ e.key = .int .i64 p.1 ∧ e.val = p.2 := by
  have := congrArg (·[j]?) h
  simp only [List.getElem?_map, hj, Option.map_some] at this
  cases hp : es[j]? with
  | none => simp [hp] at this
  | some p =>
    simp only [hp, Option.map_some, Option.some.injEq, Prod.mk.injEq] at this
    exact ⟨p, rfl, this.1, this.2⟩

theorem im_at' {arr : Array MapEntry} {es : List (Int × Value)} (h : arr.toList.map (fun e => (e.key, e.val)) = es.map (fun p => (Value.int .i64 p.1, p.2))) {j : Nat} {p : Int × Value} (hj : es[j]? = some p) :
    ∃ e, arr.toList[j]? = some e ∧ e.key = .int .i64 p.1 ∧ e.val = p.2 := by
  have := congrArg (·[j]?) h
  simp only [List.getElem?_map, hj, Option.map_some] at this
  cases he : arr.toList[j]? with
  | none => rw [he] at this; cases this
  | some e =>
    simp only [he, Option.map_some, Option.some.injEq, Prod.mk.injEq] at this
    exact ⟨e, rfl, this.1, this.2⟩

theorem im_isKey {arr : Array MapEntry} {es : List (Int × Value)} (h : arr.toList.map (fun e => (e.key, e.val)) = es.map (fun p => (Value.int .i64 p.1, p.2))) : ∀ x ∈ arr.toList, IsKey (.int .i64) x.key := fun x hx => by
  obtain ⟨j, hj⟩ := List.mem_iff_getElem?.1 hx
  obtain ⟨p, -, hp, -⟩ := im_at h hj
  rw [hp]; rfl

theorem im_nodup {arr : Array MapEntry} {clock : Nat} {es : List (Int × Value)} (hs : Stamped arr clock) (h : arr.toList.map (fun e => (e.key, e.val)) = es.map (fun p => (Value.int .i64 p.1, p.2))) : (es.map (·.1)).Nodup := by
  have h3 := hs.2.2
  have e1 : arr.toList.map (·.key) = es.map (fun p => Value.int .i64 p.1) := by
    have := congrArg (List.map (·.1)) h
    simpa [List.map_map, Function.comp_def] using this
  rw [e1] at h3
  refine List.pairwise_map.2 ((List.pairwise_map.1 h3).imp fun {a c} hac => fun e => hac (by rw [e]))

theorem IM.nodup {w : World} {b : Nat} {es : List (Int × Value)} (h : IM w b es) : (es.map (·.1)).Nodup := by
  obtain ⟨arr, c, h1, h2, h3⟩ := h
  exact im_nodup h2 h3

/-- A look-up. -/
theorem im_lookup {P : Program} {t kt et : TypeId} {z : Value} (ht : P.underlying t = some (.map kt et)) (hk : P.underlying kt = some (.int .i64)) {w : World} (hz : (zeroValue et).run P w = .ok z w) {b : Nat} {es : List (Int × Value)} (h : IM w b es) (k : Int) :
    (Instr.lookup t (.map (some b)) (.int .i64 k) false).run P w = .ok ((aget es k).getD z) w := by
  obtain ⟨arr, c, h1, h2, h3⟩ := h
  have hn := im_nodup h2 h3
  have hc : ∀ e, (Instr.checkKey e 10000 kt (.int .i64 k)).run P w = .ok () w := fun e => run_checkKey (k := .int .i64 k) hk rfl e 9999
  rcases findNow_spec (d := .int .i64) (k := .int .i64 k) rfl arr.toList 0 (im_isKey h3) with ⟨f1, f2⟩ | ⟨j, e, f1, f2, f3⟩
  · have hg : aget es k = none := aget_none fun p hp e => by
      obtain ⟨j, hj⟩ := List.mem_iff_getElem?.1 hp
      obtain ⟨x, hx, hx1, -⟩ := im_at' h3 hj
      exact f2 x (List.mem_of_getElem? hx) (by rw [hx1, e])
    rw [hg]
    simp [Instr.lookup, run_underlying ht, MapKept.run_getObj_map h1, hc, run_findKey hk f1, hz, Result.andThen]
  · obtain ⟨p, hp, hp1, hp2⟩ := im_at h3 f2
    have hpk : p.1 = k := by rw [f3] at hp1; injection hp1 with _ hp1; exact hp1.symm
    have hg : aget es k = some e.val := aget_at hn (j := j) (by rw [hp, hp2, ← hpk])
    rw [hg]
    simp [Instr.lookup, run_underlying ht, MapKept.run_getObj_map h1, hc, run_findKey hk f1, Result.andThen]

/-- A block written whole. -/
theorem touch_set (w : World) (b : Nat) (o : Obj) : Touch (fun k => k = b) w { w with heap := w.heap.setIfInBounds b o } :=
  ⟨rfl, rfl, rfl, by simp, fun k _ hn => by simp [Ne.symm hn]⟩

/-- A store. -/
theorem im_update {P : Program} {t kt et : TypeId} (ht : P.underlying t = some (.map kt et)) (hk : P.underlying kt = some (.int .i64)) {w : World} {b : Nat} {es : List (Int × Value)} (h : IM w b es) (k : Int) (v : Value) :
    ∃ w', (Instr.mapUpdate t (.map (some b)) (.int .i64 k) v).run P w = .ok () w' ∧ IM w' b (aput es k v) ∧ Touch (fun i => i = b) w w' ∧ w'.heap.size = w.heap.size := by
  obtain ⟨arr, c, h1, h2, h3⟩ := h
  have hn := im_nodup h2 h3
  have hc : ∀ e, (Instr.checkKey e 10000 kt (.int .i64 k)).run P w = .ok () w := fun e => run_checkKey (k := .int .i64 k) hk rfl e 9999
  rcases findNow_spec (d := .int .i64) (k := .int .i64 k) rfl arr.toList 0 (im_isKey h3) with ⟨f1, f2⟩ | ⟨j, e, f1, f2, f3⟩
  · have hg : es.any (fun p => p.1 == k) = false := List.any_eq_false.2 fun p hp e => by
      obtain ⟨j, hj⟩ := List.mem_iff_getElem?.1 hp
      obtain ⟨x, hx, hx1, -⟩ := im_at' h3 hj
      exact f2 x (List.mem_of_getElem? hx) (by rw [hx1]; simp at e; rw [e])
    refine ⟨_, by simp [Instr.mapUpdate, run_underlying ht, MapKept.run_getObj_map h1, hc, run_findKey hk f1, run_setObj_map _ h1, Result.andThen]; rfl, ?_, touch_set w b _, by simp⟩
    refine ⟨_, _, (heap_set h1).1, stamped_push h2 f2, ?_⟩
    unfold aput
    rw [hg]
    simp [h3]
  · obtain ⟨p, hp, hp1, hp2⟩ := im_at h3 f2
    have hpk : p.1 = k := by rw [f3] at hp1; injection hp1 with _ hp1; exact hp1.symm
    have hj : arr[j]? = some e := by simpa using f2
    have hg : es.any (fun p => p.1 == k) = true := List.any_eq_true.2 ⟨p, List.mem_of_getElem? hp, by simp [hpk]⟩
    have hkey : ∀ e', arr[j]? = some e' → ({ e' with key := .int .i64 k, val := v } : MapEntry).key = e'.key := fun e' he' => by rw [hj] at he'; cases he'; exact f3.symm
    refine ⟨_, by simp [Instr.mapUpdate, run_underlying ht, MapKept.run_getObj_map h1, hc, run_findKey hk f1, hj, f3, run_keyThatStays (d := .int .i64) (k := .int .i64 k) rfl, run_setObj_map _ h1, Result.andThen]; rfl, ?_, touch_set w b _, by simp⟩
    refine ⟨_, _, (heap_set h1).1, stamped_modify h2 _ _ (fun _ _ => rfl) (fun e' _ he' => hkey e' he'), ?_⟩
    unfold aput
    rw [hg, if_pos rfl]
    refine List.ext_getElem? fun i => ?_
    simp only [List.getElem?_map, Array.getElem?_toList, Array.getElem?_modify]
    by_cases hij : j = i
    · subst hij
      rw [hj, hp]
      simp [hpk]
    · rw [if_neg hij]
      have h4 := congrArg (·[i]?) h3
      simp only [List.getElem?_map, Array.getElem?_toList] at h4
      rw [h4]
      cases hi : es[i]? with
      | none => rfl
      | some q =>
        have hqk : q.1 ≠ k := fun e2 => by
          have hil := (List.getElem?_eq_some_iff.1 hi).1
          have hjl := (List.getElem?_eq_some_iff.1 hp).1
          have hnn := (List.pairwise_iff_getElem.1 hn)
          have hi2 := (List.getElem?_eq_some_iff.1 hi).2
          have hp2 := (List.getElem?_eq_some_iff.1 hp).2
          rcases Nat.lt_or_gt_of_ne hij with hlt | hlt
          · exact hnn j i (by simpa using hjl) (by simpa using hil) hlt (by simp [hi2, hp2, hpk, e2])
          · exact hnn i j (by simpa using hil) (by simpa using hjl) hlt (by simp [hi2, hp2, hpk, e2])
        simp [hqk]

/-- len of a map. -/
theorem im_len {P : Program} {t kt et : TypeId} (ht : P.underlying t = some (.map kt et)) {w : World} {b : Nat} {es : List (Int × Value)} (h : IM w b es) (ty : TypeId) :
    (Builtin.len_ #[t] ty #[.map (some b)]).run P w = .ok (.int .i64 es.length) w := by
  obtain ⟨arr, c, h1, h2, h3⟩ := h
  have hsz := im_size h3
  simp [Builtin.len_, run_underlying ht, MapKept.run_getObj_map h1, Result.andThen, hsz]
  rfl

theorem erase_filter {es : List (Int × Value)} {k : Int} {v : Value} (hn : (es.map (·.1)).Nodup) {j : Nat} (hj : es[j]? = some (k, v)) : es.eraseIdx j = adel es k := by
  unfold adel
  induction es generalizing j with
  | nil => simp at hj
  | cons p es ih =>
    rw [List.map_cons, List.nodup_cons] at hn
    cases j with
    | zero =>
      simp at hj
      subst hj
      simp only [List.eraseIdx_cons_zero]
      rw [List.filter_cons_of_neg (by simp)]
      refine (List.filter_eq_self.2 fun q hq => ?_).symm
      simp only [bne_iff_ne, ne_eq]
      exact fun e => hn.1 (by rw [← e]; exact List.mem_map.2 ⟨q, hq, rfl⟩)
    | succ j =>
      simp at hj
      have hne : p.1 ≠ k := fun e => hn.1 (by rw [e]; exact List.mem_map.2 ⟨(k, v), List.mem_of_getElem? hj, rfl⟩)
      simp only [List.eraseIdx_cons_succ]
      rw [List.filter_cons_of_pos (by simpa using hne), ih hn.2 hj]

/-- delete. -/
theorem im_delete {P : Program} {t kt et : TypeId} (ht : P.underlying t = some (.map kt et)) (hk : P.underlying kt = some (.int .i64)) {w : World} {b : Nat} {es : List (Int × Value)} (h : IM w b es) (k : Int) (ty : TypeId) :
    ∃ w', (Builtin.delete_ #[t, kt] ty #[.map (some b), .int .i64 k]).run P w = .ok (.tuple #[]) w' ∧ IM w' b (adel es k) ∧ Touch (fun i => i = b) w w' ∧ w'.heap.size = w.heap.size := by
  obtain ⟨arr, c, h1, h2, h3⟩ := h
  have hn := im_nodup h2 h3
  have hc : ∀ e, (Instr.checkKey e 10000 kt (.int .i64 k)).run P w = .ok () w := fun e => run_checkKey (k := .int .i64 k) hk rfl e 9999
  rcases findNow_spec (d := .int .i64) (k := .int .i64 k) rfl arr.toList 0 (im_isKey h3) with ⟨f1, f2⟩ | ⟨j, e, f1, f2, f3⟩
  · have hg : adel es k = es := List.filter_eq_self.2 fun p hp => by
      simp only [bne_iff_ne, ne_eq]
      intro e
      obtain ⟨j, hj⟩ := List.mem_iff_getElem?.1 hp
      obtain ⟨x, hx, hx1, -⟩ := im_at' h3 hj
      exact f2 x (List.mem_of_getElem? hx) (by rw [hx1, e])
    rw [hg]
    refine ⟨_, by simp [Builtin.delete_, run_underlying ht, MapKept.run_getObj_map h1, hc, run_findKey hk f1, run_setObj_map _ h1, Result.andThen], ⟨arr, c, (heap_set h1).1, h2, h3⟩, touch_set w b _, by simp⟩
  · obtain ⟨p, hp, hp1, hp2⟩ := im_at h3 f2
    have hpk : p.1 = k := by rw [f3] at hp1; injection hp1 with _ hp1; exact hp1.symm
    refine ⟨_, by simp [Builtin.delete_, run_underlying ht, MapKept.run_getObj_map h1, hc, run_findKey hk f1, run_setObj_map _ h1, Result.andThen], ⟨_, c, (heap_set h1).1, stamped_erase h2 j, ?_⟩, touch_set w b _, by simp⟩
    rw [← erase_filter hn (j := j) (v := p.2) (by rw [hp, ← hpk])]
    have hjl : j < arr.size := by have := (List.getElem?_eq_some_iff.1 f2).1; simpa using this
    unfold Array.eraseIdxIfInBounds
    rw [dif_pos hjl, Array.toList_eraseIdx]
    have e1 : ∀ {α β : Type} (f : α → β) (l : List α) (i : Nat), (l.eraseIdx i).map f = (l.map f).eraseIdx i := fun f l i => by
      induction l generalizing i with
      | nil => simp
      | cons x l ih => cases i <;> simp [ih]
    rw [e1, e1, h3]

/-- An iterator over a map that is not written: which keys are still to come. -/
def IT (w : World) (r b : Nat) (es : List (Int × Value)) (left : List Int) : Prop :=
  ∃ arr clock seen, w.heap[b]? = some (.map arr clock) ∧ Stamped arr clock ∧ arr.toList.map (fun e => (e.key, e.val)) = es.map (fun p => (Value.int .i64 p.1, p.2)) ∧ w.heap[r]? = some (.mapIter (some b) clock seen clock) ∧
    (leftOf arr seen).toList.map (·.key) = left.map (Value.int .i64)

theorem IT.frame {w w' : World} {r b : Nat} {es : List (Int × Value)} {left : List Int} (h : IT w r b es left) (hb : w'.heap[b]? = w.heap[b]?) (hr : w'.heap[r]? = w.heap[r]?) : IT w' r b es left :=
  let ⟨arr, c, s, h1, h2, h3, h4, h5⟩ := h; ⟨arr, c, s, hb.trans h1, h2, h3, hr.trans h4, h5⟩

/-- range over a map. -/
theorem it_range {P : Program} {t kt et : TypeId} (ht : P.underlying t = some (.map kt et)) {w : World} {b : Nat} {es : List (Int × Value)} (h : IM w b es) :
    ∃ o, (Instr.range t (.map (some b))).run P w = .ok (.pointer (some ⟨w.heap.size, 0, none⟩)) (w.alloc o) ∧ IT (w.alloc o) w.heap.size b es (es.map (·.1)) := by
  have hlt := h.lt
  obtain ⟨arr, c, h1, h2, h3⟩ := h
  refine ⟨.mapIter (some b) c #[] c, by simp [Instr.range, run_underlying ht, MapKept.run_getObj_map h1, Result.andThen], arr, c, #[], (Below.heap_alloc _ _ _ hlt).trans h1, h2, h3, heap_alloc_new _ _, ?_⟩
  have e : leftOf arr #[] = arr := Array.filter_eq_self.2 (by simp)
  rw [e]
  have := congrArg (List.map (·.1)) h3
  simpa [List.map_map, Function.comp_def] using this

theorem kept_one {l : List MapEntry} (h : (l.map (·.key)).Nodup) {x e : MapEntry} (hx : x ∈ l) (he : e ∈ l) (hk : x.key = e.key) : x = e := by
  induction l with
  | nil => cases hx
  | cons y l ih =>
    rw [List.map_cons, List.nodup_cons] at h
    rcases List.mem_cons.1 hx with h1 | h1
    · rcases List.mem_cons.1 he with h2 | h2
      · rw [h1, h2]
      · exact (h.1 (by rw [← h1, hk]; exact List.mem_map.2 ⟨e, h2, rfl⟩)).elim
    · rcases List.mem_cons.1 he with h2 | h2
      · exact (h.1 (by rw [← h2, ← hk]; exact List.mem_map.2 ⟨x, h1, rfl⟩)).elim
      · exact ih h.2 h1 h2
theorem born_one {l : List MapEntry} (h : (l.map (·.born)).Nodup) {x e : MapEntry} (hx : x ∈ l) (he : e ∈ l) (hk : x.born = e.born) : x = e := by
  induction l with
  | nil => cases hx
  | cons y l ih =>
    rw [List.map_cons, List.nodup_cons] at h
    rcases List.mem_cons.1 hx with h1 | h1
    · rcases List.mem_cons.1 he with h2 | h2
      · rw [h1, h2]
      · exact (h.1 (by rw [← h1, hk]; exact List.mem_map.2 ⟨e, h2, rfl⟩)).elim
    · rcases List.mem_cons.1 he with h2 | h2
      · exact (h.1 (by rw [← h2, ← hk]; exact List.mem_map.2 ⟨x, h1, rfl⟩)).elim
      · exact ih h.2 h1 h2

open Classical in
/-- The next key of a range. -/
theorem it_next {P : Program} {w : World} {r b : Nat} {es : List (Int × Value)} {left : List Int} (h : IT w r b es left) (ty : TypeId) :
    (left = [] ∧ (Instr.next (.pointer (some ⟨r, 0, none⟩)) false ty).run P w = .ok (.tuple #[.bool false]) w) ∨
    ∃ k v w', k ∈ left ∧ (k, v) ∈ es ∧ (Instr.next (.pointer (some ⟨r, 0, none⟩)) false ty).run P w = .ok (.tuple #[.bool true, .int .i64 k, v]) w' ∧ IT w' r b es (left.erase k) ∧ Touch (fun i => i = r) w w' ∧ w'.heap.size = w.heap.size ∧ left.Nodup ∧
      (Instr.entry (.pointer (some ⟨r, 0, none⟩))).run P w' = .ok (.tuple #[.int .i64 k, v]) w' := by
  obtain ⟨arr, c, seen, h1, h2, h3, h4, h5⟩ := h
  rcases run_next_at (P := P) w ty r b c c seen arr c h4 h1 h2.1 (Nat.le_refl _) with ⟨hz, hrun⟩ | ⟨e, he, w1, hw1, hrun⟩
  · left
    have : (leftOf arr seen).toList = [] := by
      have : leftOf arr seen = #[] := Array.eq_empty_of_size_eq_zero hz
      rw [this]
    rw [this] at h5
    exact ⟨by cases left <;> simp_all, hrun⟩
  · right
    have hmem : e ∈ arr.toList := by
      simp only [leftOf, Array.toList_filter, List.mem_filter] at he
      exact he.1
    obtain ⟨j, hj⟩ := List.mem_iff_getElem?.1 hmem
    obtain ⟨p, hp, hp1, hp2⟩ := im_at h3 hj
    have hheap : w1.heap = w.heap := by rcases hw1 with rfl | rfl <;> rfl
    have hrb : r ≠ b := fun e => by rw [e, h1] at h4; cases h4
    have hrl : r < w.heap.size := (Array.getElem?_eq_some_iff.1 h4).1
    have hkm : Value.int .i64 p.1 ∈ left.map (Value.int .i64) := by rw [← h5]; exact List.mem_map.2 ⟨e, he, hp1⟩
    have hkl : p.1 ∈ left := by
      obtain ⟨x, hx, hxe⟩ := List.mem_map.1 hkm
      injection hxe with _ hxe
      rw [← hxe]; exact hx
    have hb' : (Go.ChangeMaps.setBlock w1 r (.mapIter (some b) c (seen.push e.born) c)).heap[b]? = some (.map arr c) := by
      show (w1.heap.setIfInBounds r _)[b]? = _
      rw [hheap]; simp [hrb, h1]
    have hr' : (Go.ChangeMaps.setBlock w1 r (.mapIter (some b) c (seen.push e.born) c)).heap[r]? = some (.mapIter (some b) c (seen.push e.born) c) := by
      show (w1.heap.setIfInBounds r _)[r]? = _
      rw [hheap]; simp [hrl]
    have hkn : (arr.toList.map (·.key)).Nodup := h2.2.2
    have hln : (left.map (Value.int .i64)).Nodup := by
      rw [← h5]
      have hsub : (leftOf arr seen).toList.Sublist arr.toList := by
        simp only [leftOf, Array.toList_filter]
        exact List.filter_sublist
      exact (hsub.map _).nodup hkn
    have hleftn : left.Nodup := by
      refine (List.pairwise_map.1 hln).imp fun {a c} hac => fun e => hac (by rw [e])
    refine ⟨p.1, p.2, _, hkl, List.mem_of_getElem? hp, by rw [hrun, hp1, hp2], ⟨arr, c, _, hb', h2, h3, hr', ?_⟩, ⟨by rcases hw1 with rfl | rfl <;> rfl, by rcases hw1 with rfl | rfl <;> rfl, by rcases hw1 with rfl | rfl <;> rfl, ?_, fun k _ hk => ?_⟩, ?_, hleftn, ?_⟩
    · have e1 : (leftOf arr (seen.push e.born)).toList = (leftOf arr seen).toList.filter (fun x => decide (x.key ≠ Value.int .i64 p.1)) := by
        simp only [leftOf, Array.toList_filter, List.filter_filter]
        refine List.filter_congr fun x hx => ?_
        rw [Bool.eq_iff_iff]
        simp only [Array.contains_push, Bool.not_or, Bool.and_eq_true, ne_eq, Bool.not_eq_true', beq_eq_false_iff_ne, decide_eq_true_eq]
        constructor
        · rintro ⟨g1, g2⟩
          refine ⟨fun hk2 => g2 ?_, g1⟩
          have := kept_one hkn hx hmem (by rw [hk2, hp1])
          rw [this]
        · rintro ⟨g1, g2⟩
          refine ⟨g2, fun hb2 => g1 ?_⟩
          have := born_one h2.2.1 hx hmem hb2
          rw [this, hp1]
      rw [e1, List.Nodup.erase_eq_filter hleftn]
      have e2 : ((leftOf arr seen).toList.filter (fun x => decide (x.key ≠ Value.int .i64 p.1))).map (·.key) = ((leftOf arr seen).toList.map (·.key)).filter (fun v => decide (v ≠ Value.int .i64 p.1)) := by
        rw [List.filter_map]; rfl
      rw [e2, h5, List.filter_map]
      congr 1
      refine List.filter_congr fun x _ => ?_
      by_cases hxp : x = p.1 <;> simp [Function.comp, hxp]
    · show w.heap.size ≤ (w1.heap.setIfInBounds r _).size
      rw [hheap]; simp
    · show (w1.heap.setIfInBounds r _)[k]? = _
      rw [hheap]; simp [Ne.symm hk]
    · show (w1.heap.setIfInBounds r _).size = _
      rw [hheap]; simp
    · rw [← hp1, ← hp2]
      exact run_entry_at _ r b c seen arr c e hr' hb' hmem h2.2.1

end Go.Proofs.Ytfofabbnbmieoaa.Ord

/- A walk through code with sends and receives on a buffered channel, in one goroutine, where nothing waits. -/
namespace Go.Proofs.Ytfofabbnbmieoaa.Ord
open Go.RowKit Go.Conc

/-- The code, in a frame of an ordinary call, comes to an exit of which Q holds. -/
def wpN (P : Program) (c : Code) (Q : Exit → Act → World → Prop) (a : Act) (w : World) : Prop :=
  ∀ (b : Frame) (k : List Item) (cs : List Frame), b.kind = .normal → ∃ e a' w', Q e a' w' ∧ Arrives P (lone (b.at a (.code c :: k)) cs w) b k cs e a' w'

section
variable {P : Program} {Q : Exit → Act → World → Prop} {a : Act} {w : World}

theorem wpN_of_wp {c : Code} (h : c.wp P Q a w) : wpN P c Q a w := fun b k cs _ => h b k cs

theorem wpN_seqN {x y : Code} (h : wpN P x (Exit.then (fun a w => wpN P y Q a w) Q) a w) : wpN P (Code.seq x y) Q a w := by
  intro b k cs hb
  obtain ⟨e, a₁, w₁, hq, harr⟩ := h b (.code y :: k) cs hb
  cases e with
  | normal =>
    obtain ⟨e₂, a₂, w₂, hq₂, harr₂⟩ := hq b k cs hb
    exact ⟨e₂, a₂, w₂, hq₂, .of_steps (.head step_seq harr) harr₂⟩
  | exit id => exact ⟨_, a₁, w₁, hq, .of_steps (.one step_seq) (.pass (x := .code y) rfl (fun _ _ => .inl (by simp)) harr)⟩
  | goto l => exact ⟨_, a₁, w₁, hq, .of_steps (.one step_seq) (.pass (x := .code y) rfl (fun _ _ => .inl (by simp)) harr)⟩
  | ret => exact ⟨_, a₁, w₁, hq, .of_steps (.one step_seq) (.pass (x := .code y) rfl (fun _ _ => .inl (by simp)) harr)⟩
  | panic ch => exact ⟨_, a₁, w₁, hq, .of_steps (.one step_seq) (.pass (x := .code y) rfl (fun _ _ => .inl (by simp)) harr)⟩
  | outgrown => exact ⟨_, a₁, w₁, hq, .of_steps (.one step_seq) (.pass (x := .code y) rfl (fun _ _ => .inl (by simp)) harr)⟩

theorem wpN_seq {x y : Code} (h : x.wp P (Exit.then (fun a w => wpN P y Q a w) Q) a w) : wpN P (Code.seq x y) Q a w := wpN_seqN (wpN_of_wp h)

theorem wpN_cond {c : Operand} {x y : Code} {t : Bool} (hc : a.eval c = .bool t) (h : wpN P (if t then x else y) Q a w) : wpN P (Code.cond c x y) Q a w :=
  fun b k cs hb => let ⟨e, a', w', q, r⟩ := h b k cs hb; ⟨e, a', w', q, .of_steps (.one (step_cond hc)) r⟩

theorem wpN_block {id : Nat} {c : Code} (h : wpN P c (Exit.inBlock id Q) a w) : wpN P (Code.block id c) Q a w := by
  intro b k cs hb
  obtain ⟨e, a₁, w₁, hq, harr⟩ := h b (.inBlock id :: k) cs hb
  cases e with
  | normal => exact ⟨.normal, a₁, w₁, hq, .head step_block (Steps.trans harr (.one step_inBlock))⟩
  | exit id' =>
    by_cases hid : id' = id
    · simp only [Exit.inBlock, hid, if_true] at hq
      exact ⟨.normal, a₁, w₁, hq, .head step_block (harr k (by simp [exitTo, hid]))⟩
    · simp only [Exit.inBlock, hid, if_false] at hq
      refine ⟨.exit id', a₁, w₁, hq, fun k' hk => .head step_block (harr k' ?_)⟩
      have : (id == id') = false := by simp; exact fun h => hid h.symm
      simp [exitTo, this, hk]
  | goto l => exact ⟨_, a₁, w₁, hq, fun k' hk => .head step_block (harr k' (by simp [gotoIn, hk]))⟩
  | ret => exact ⟨_, a₁, w₁, hq, .of_steps (.one step_block) harr⟩
  | panic ch => exact ⟨_, a₁, w₁, hq, .of_steps (.one step_block) harr⟩
  | outgrown => exact ⟨_, a₁, w₁, hq, .of_steps (b := b) (k := k) (cs := cs) (e := .outgrown) (.one step_block) harr⟩

theorem wpN_loop {c : Code} (I : Act → World → Prop) (μ : Act → World → Nat) (h₀ : I a w)
    (round : ∀ a w, I a w → wpN P c (Exit.then (fun a' w' => I a' w' ∧ μ a' w' < μ a w) Q) a w) : wpN P (Code.loop c) Q a w := by
  intro b k cs hb
  have key : ∀ n a w, μ a w = n → I a w → ∃ e a' w', Q e a' w' ∧ Arrives P (lone (b.at a (.code c :: .inLoop c :: k)) cs w) b k cs e a' w' := by
    intro n
    induction n using Nat.strongRecOn with
    | _ n ih =>
      intro a w hn hI
      obtain ⟨e, a₁, w₁, hq, harr⟩ := round a w hI b (.inLoop c :: k) cs hb
      cases e with
      | normal =>
        obtain ⟨hI₁, hlt⟩ := hq
        obtain ⟨e₂, a₂, w₂, hq₂, harr₂⟩ := ih (μ a₁ w₁) (hn ▸ hlt) a₁ w₁ rfl hI₁
        exact ⟨e₂, a₂, w₂, hq₂, .of_steps (Steps.trans harr (.one step_inLoop)) harr₂⟩
      | exit id => exact ⟨_, a₁, w₁, hq, .pass (x := .inLoop c) rfl (fun _ _ => .inl (by simp)) harr⟩
      | goto l => exact ⟨_, a₁, w₁, hq, .pass (x := .inLoop c) rfl (fun _ _ => .inl (by simp)) harr⟩
      | ret => exact ⟨_, a₁, w₁, hq, .pass (x := .inLoop c) rfl (fun _ _ => .inl (by simp)) harr⟩
      | panic ch => exact ⟨_, a₁, w₁, hq, .pass (x := .inLoop c) rfl (fun _ _ => .inl (by simp)) harr⟩
      | outgrown => exact ⟨_, a₁, w₁, hq, .pass (x := .inLoop c) rfl (fun _ _ => .inl (by simp)) harr⟩
  obtain ⟨e, a', w', hq, harr⟩ := key _ a w rfl h₀
  exact ⟨e, a', w', hq, .of_steps (.one step_loop) harr⟩

theorem calls_of_wpN {f : FuncId} {fn : Func} {c : Code} {args : Array Value} {R : Ending → World → Prop} (hf : P.funcs[f]? = some fn) (hb : fn.body = some c)
    (h : wpN P c (bodyPost P fn R) { tmps := args ++ Array.replicate (fn.ntmps - args.size) undef, defers := [] } w) : Calls P f args w R := by
  intro cs
  let b : Frame := { (default : Frame) with fn := f, kind := .normal }
  have henter : Frame.enter P f args .normal = b.at { tmps := args ++ Array.replicate (fn.ntmps - args.size) undef, defers := [] } [.code c] := by
    simp [Frame.enter, Frame.at, hf, hb, b]
  obtain ⟨e, a', w', hq, harr⟩ := h b [] cs rfl
  rw [← henter] at harr
  cases e with
  | normal =>
    obtain ⟨hd, v, hr, hR⟩ := hq
    exact ⟨.returned v, w', _, hR, Steps.trans harr (.one step_end), rfl, rfl, hd, rfl, fn, hf, hr⟩
  | ret =>
    obtain ⟨hd, v, hr, hR⟩ := hq
    obtain ⟨todo, hs⟩ := harr
    exact ⟨.returned v, w', _, hR, hs, rfl, rfl, hd, rfl, fn, hf, hr⟩
  | panic chain =>
    obtain ⟨hd, hR⟩ := hq
    obtain ⟨todo, hs⟩ := harr
    exact ⟨.panicked chain, w', _, hR, hs, rfl, rfl, hd, fn, hf⟩
  | exit id => exact hq.elim
  | goto l => exact hq.elim
  | outgrown => exact ⟨.outgrown, w', b, hq, harr.resolve_left (by simp [b]), rfl, trivial⟩

/-- The operations of a region, one after another; the last of them may be a send or a receive. -/
def opsN (P : Program) (ops : Array Oper) (Q : Exit → Act → World → Prop) (l : List Nat) (a : Act) (w : World) : Prop :=
  ∀ (b : Frame) (k : List Item) (cs : List Frame), b.kind = .normal → ∃ e a' w', Q e a' w' ∧ Arrives P (lone (b.at a (.inRegion ops l :: k)) cs w) b k cs e a' w'

theorem wpN_region {id : Nat} {ops : Array Oper} (h : opsN P ops Q (List.range ops.size) a w) : wpN P (Code.region id ops false) Q a w :=
  fun b k cs hb => let ⟨e, a', w', q, r⟩ := h b k cs hb; ⟨e, a', w', q, .of_steps (.one step_region) r⟩

theorem opsN_end {ops : Array Oper} (h : Q .normal a w) : opsN P ops Q [] a w := fun _ _ _ _ => ⟨.normal, a, w, h, .one step_region_end⟩

theorem opsN_value {ops : Array Oper} {i : Nat} {rest : List Nat} {o : Oper} {v : Value} {w' : World} (ho : ops[i]? = some o) (hw : Region.wanted o (yielded ops a.tmps) = true) (hr : (execOp a.eval o).run P w = .ok (.value v) w')
    (h : opsN P ops Q rest (a.put o.dst v) w') : opsN P ops Q (i :: rest) a w := by
  intro b k cs hb
  obtain ⟨e, a', w'', hq, harr⟩ := h b k cs hb
  have hfin : (b.at a (.inRegion ops (i :: rest) :: k)).finish v = b.at (a.put o.dst v) (.inRegion ops rest :: k) := by rw [Frame.finish_at, ho]; rfl
  refine ⟨e, a', w'', hq, .of_steps (.one (step_lone_go ?_)) harr⟩
  rw [stepG_op ho hw, ← hfin]; simp [stepG.apply, hr]

theorem opsN_send {ops : Array Oper} {i : Nat} {rest : List Nat} {o : Oper} {c cap s r : Nat} {buf : Array Value} {v z : Value} {tm : Bool} (ho : ops[i]? = some o) (hw : Region.wanted o (yielded ops a.tmps) = true)
    (hr : (execOp a.eval o).run P w = .ok (.comm #[scase c v z] true .send) w) (hc : w.heap[c]? = some (.chan cap buf false s r tm)) (hroom : buf.size < cap)
    (h : opsN P ops Q rest (a.put o.dst undef) (w.setChan c cap (buf.push v) false (s + 1) r tm)) : opsN P ops Q (i :: rest) a w := by
  intro b k cs hb
  obtain ⟨e, a', w'', hq, harr⟩ := h b k cs hb
  have hfin : (b.at a (.inRegion ops (i :: rest) :: k)).finish undef = b.at (a.put o.dst undef) (.inRegion ops rest :: k) := by rw [Frame.finish_at, ho]; rfl
  refine ⟨e, a', w'', hq, .of_steps (.one ?_) harr⟩
  rw [lone_eq_solo, lone_eq_solo, ← hfin]
  exact step_lone_send_room (z' := z) (stepG_comm ho hw (by rw [hb]; decide) hr) hc hroom

theorem opsN_recv {ops : Array Oper} {i : Nat} {rest : List Nat} {o : Oper} {c cap s r : Nat} {buf : Array Value} {z : Value} {tm closed : Bool} (ho : ops[i]? = some o) (hw : Region.wanted o (yielded ops a.tmps) = true)
    (hr : (execOp a.eval o).run P w = .ok (.comm #[rcase c z] true (.recv false)) w) (hc : w.heap[c]? = some (.chan cap buf closed s r tm)) (hsome : 0 < buf.size)
    (h : opsN P ops Q rest (a.put o.dst (buf.getD 0 undef)) (w.setChan c cap (buf.extract 1 buf.size) closed s (r + 1) tm)) : opsN P ops Q (i :: rest) a w := by
  intro b k cs hb
  obtain ⟨e, a', w'', hq, harr⟩ := h b k cs hb
  have hfin : (b.at a (.inRegion ops (i :: rest) :: k)).finish (buf.getD 0 undef) = b.at (a.put o.dst (buf.getD 0 undef)) (.inRegion ops rest :: k) := by rw [Frame.finish_at, ho]; rfl
  refine ⟨e, a', w'', hq, .of_steps (.one ?_) harr⟩
  rw [lone_eq_solo, lone_eq_solo, ← hfin]
  exact step_lone_recv_buf false (stepG_comm ho hw (by rw [hb]; decide) hr) hc hsome

end

/-- The channel's block alone. -/
theorem touch_chan (w : World) (c cap : Nat) (buf : Array Value) (cl : Bool) (s r : Nat) (tm : Bool) : Touch (fun k => k = c) w (w.setChan c cap buf cl s r tm) :=
  ⟨rfl, rfl, rfl, by simp [World.setChan], fun k _ hk => by simp only [World.setChan]; rw [Array.getElem?_setIfInBounds_ne (Ne.symm hk)]⟩

end Go.Proofs.Ytfofabbnbmieoaa.Ord

/- Unit propagation as prop's state does it: counting the literals of each clause that are open. Plain. -/
namespace Go.Proofs.Ytfofabbnbmieoaa.Ord

/-- What set makes of what is known. -/
def setK (K : List Int) (a : Int) : List Int := if -a ∈ K then K else if a ∈ K then K else K ++ [a]

theorem setK_neg {K : List Int} {a : Int} (h : -a ∈ K) : setK K a = K := by unfold setK; rw [if_pos h]
theorem setK_pos {K : List Int} {a : Int} (h : -a ∉ K) (h2 : a ∈ K) : setK K a = K := by unfold setK; rw [if_neg h, if_pos h2]
theorem setK_new {K : List Int} {a : Int} (h : -a ∉ K) (h2 : a ∉ K) : setK K a = K ++ [a] := by unfold setK; rw [if_neg h, if_neg h2]

/-- What unit finds. -/
def unitR (K : List Int) (xs : List Int) : Bool := xs.any fun l => decide (-l ∉ K)
def unitK (K : List Int) (xs : List Int) : List Int := ((xs.find? fun l => decide (-l ∉ K)).map (setK K)).getD K

theorem unit_skip {K xs : List Int} {k : Nat} {x : Int} (h : ∀ y ∈ xs.take k, -y ∈ K) (hx : xs[k]? = some x) (hn : -x ∈ K) : ∀ y ∈ xs.take (k + 1), -y ∈ K := fun y hy => by
  rw [List.take_add_one, hx] at hy
  rcases List.mem_append.1 hy with hy | hy
  · exact h y hy
  · simp at hy; rw [hy]; exact hn

theorem unit_hit {K xs : List Int} {k : Nat} {x : Int} (h : ∀ y ∈ xs.take k, -y ∈ K) (hx : xs[k]? = some x) (hn : -x ∉ K) : unitR K xs = true ∧ unitK K xs = setK K x := by
  refine ⟨List.any_eq_true.2 ⟨x, List.mem_of_getElem? hx, by simpa using hn⟩, ?_⟩
  have hf : xs.find? (fun l => decide (-l ∉ K)) = some x := by
    rw [← List.take_append_drop k xs, List.find?_append, List.find?_eq_none.2 (fun y hy => by simpa using h y hy)]
    obtain ⟨hk, hxe⟩ := List.getElem?_eq_some_iff.1 hx
    rw [List.drop_eq_getElem_cons hk, hxe]
    simp [hn]
  unfold unitK
  rw [hf]; rfl

theorem unit_none {K xs : List Int} {k : Nat} (h : ∀ y ∈ xs.take k, -y ∈ K) (hk : xs.length ≤ k) : unitR K xs = false ∧ unitK K xs = K := by
  rw [List.take_of_length_le hk] at h
  refine ⟨List.any_eq_false.2 fun y hy => by simpa using h y hy, ?_⟩
  unfold unitK
  rw [List.find?_eq_none.2 (fun y hy => by simpa using h y hy)]; rfl

/-- How many literals of a clause are not false by a list. -/
def cntO (c D : List Int) : Int := ((c.filter fun l => decide (-l ∉ D)).length : Nat)

theorem cntO_nil (c : List Int) : cntO c [] = c.length := by unfold cntO; rw [List.filter_eq_self.2 (by simp)]

theorem filter_len_congr {c : List Int} {p q : Int → Bool} (h : ∀ l ∈ c, p l = q l) : (c.filter p).length = (c.filter q).length := by rw [List.filter_congr h]

theorem cntO_other {c D : List Int} {a : Int} (h : -a ∉ c) : cntO c (D ++ [a]) = cntO c D := by
  unfold cntO
  congr 1
  refine filter_len_congr fun l hl => ?_
  have : -l ≠ a := fun e => h (by rw [← e, Int.neg_neg]; exact hl)
  simp [this]

theorem cntO_hit {c D : List Int} {a : Int} (hc : c.Nodup) (h : -a ∈ c) (hD : a ∉ D) : cntO c (D ++ [a]) = cntO c D - 1 := by
  have key : ∀ c : List Int, c.Nodup → -a ∈ c → (c.filter fun l => decide (-l ∉ D ++ [a])).length + 1 = (c.filter fun l => decide (-l ∉ D)).length := by
    intro c
    induction c with
    | nil => intro _ h; cases h
    | cons x c ih =>
      intro hn hm
      rw [List.nodup_cons] at hn
      by_cases hx : x = -a
      · subst hx
        have h1 : (decide (- -a ∉ D ++ [a])) = false := by simp
        have h2 : (decide (- -a ∉ D)) = true := by rw [Int.neg_neg]; simpa using hD
        rw [List.filter_cons, List.filter_cons, h1, h2]
        simp only [Bool.false_eq_true, if_false, if_true, List.length_cons]
        congr 1
        refine filter_len_congr fun l hl => ?_
        have : -l ≠ a := fun e => hn.1 (by rw [← e, Int.neg_neg]; exact hl)
        simp [this]
      · have hm' : -a ∈ c := by rcases List.mem_cons.1 hm with h | h; exact (hx h.symm).elim; exact h
        have := ih hn.2 hm'
        have hxa : -x ≠ a := fun e => hx (by rw [← e, Int.neg_neg])
        have hb : decide (-x ∉ D ++ [a]) = decide (-x ∉ D) := by simp [hxa]
        rw [List.filter_cons, List.filter_cons, hb]
        split
        · simp only [List.length_cons]; omega
        · exact this
  have := key c hc h
  unfold cntO
  omega

/-- At most one literal is open: all others are false. -/
theorem cntO_le_one {c D : List Int} (h : cntO c D ≤ 1) {x : Int} (hx : x ∈ c) (hxn : -x ∉ D) : ∀ m ∈ c, m ≠ x → -m ∈ D := by
  intro m hm hne
  refine Classical.byContradiction fun hn => ?_
  have h1 : x ∈ c.filter fun l => decide (-l ∉ D) := List.mem_filter.2 ⟨hx, by simpa using hxn⟩
  have h2 : m ∈ c.filter fun l => decide (-l ∉ D) := List.mem_filter.2 ⟨hm, by simpa using hn⟩
  have hl : (c.filter fun l => decide (-l ∉ D)).length ≤ 1 := by unfold cntO at h; omega
  match hf : c.filter (fun l => decide (-l ∉ D)), hl with
  | [], _ => rw [hf] at h1; cases h1
  | [y], _ =>
    rw [hf] at h1 h2
    simp at h1 h2
    exact hne (by rw [h1, h2])

/-- Two literals are open. -/
theorem cntO_two {c D : List Int} (h : 2 ≤ cntO c D) (hc : c.Nodup) (l : Int) : ∃ m ∈ c, m ≠ l ∧ -m ∉ D := by
  refine Classical.byContradiction fun hn => ?_
  have hall : ∀ m ∈ c.filter (fun l => decide (-l ∉ D)), m = l := fun m hm => by
    obtain ⟨h1, h2⟩ := List.mem_filter.1 hm
    refine Classical.byContradiction fun hne => hn ⟨m, h1, hne, by simpa using h2⟩
  have hl : 2 ≤ (c.filter fun l => decide (-l ∉ D)).length := by unfold cntO at h; omega
  have hnd : (c.filter fun l => decide (-l ∉ D)).Nodup := List.filter_sublist.nodup hc
  match hf : c.filter (fun l => decide (-l ∉ D)), hl with
  | x :: y :: r, _ =>
    rw [hf] at hall hnd
    have e1 := hall x (by simp)
    have e2 := hall y (by simp)
    rw [List.nodup_cons] at hnd
    exact hnd.1 (by rw [e1, e2]; simp)

/-- The clauses with a literal. -/
def withL (C : List (List Int)) (k : Int) : List Int := ((List.range C.length).filter fun i => decide (k ∈ C.getD i [])).map fun (i : Nat) => (i : Int)

theorem mem_withL {C : List (List Int)} {k i : Int} : i ∈ withL C k ↔ ∃ (j : Nat) (c : List Int), i = j ∧ C[j]? = some c ∧ k ∈ c := by
  simp only [withL, List.mem_map, List.mem_filter, List.mem_range, decide_eq_true_eq]
  constructor
  · rintro ⟨j, ⟨hj, hk⟩, rfl⟩
    rw [List.getD_eq_getElem?_getD, List.getElem?_eq_getElem hj] at hk
    exact ⟨j, _, rfl, List.getElem?_eq_getElem hj, hk⟩
  · rintro ⟨j, c, rfl, hc, hk⟩
    refine ⟨j, ⟨(List.getElem?_eq_some_iff.1 hc).1, ?_⟩, rfl⟩
    rw [List.getD_eq_getElem?_getD, hc]; exact hk

theorem withL_nodup (C : List (List Int)) (k : Int) : (withL C k).Nodup := by
  have h : ((List.range C.length).filter fun i => decide (k ∈ C.getD i [])).Nodup := List.filter_sublist.nodup List.nodup_range
  exact List.pairwise_map.2 (h.imp fun {a c} hac => fun e => hac (by omega))

theorem withL_snoc (C : List (List Int)) (c : List Int) (k : Int) : withL (C ++ [c]) k = withL C k ++ (if k ∈ c then [(C.length : Int)] else []) := by
  unfold withL
  rw [List.length_append, List.length_singleton, List.range_succ, List.filter_append, List.map_append]
  congr 1
  · congr 1
    refine List.filter_congr fun i hi => ?_
    rw [List.mem_range] at hi
    rw [List.getD_eq_getElem?_getD, List.getD_eq_getElem?_getD, List.getElem?_append_left hi]
  · have : (C ++ [c]).getD C.length [] = c := by rw [List.getD_eq_getElem?_getD]; simp
    by_cases h : k ∈ c
    · rw [List.filter_cons, this]; simp [h]
    · rw [List.filter_cons, this]; simp [h]

/-- What holds of a state, whatever of a round was done. -/
structure PB (n : Nat) (C : List (List Int)) (A O K : List Int) (d : Nat) : Prop where
  nod : ∀ c ∈ C, c.Nodup
  cok : ClsOk n C
  olen : O.length = C.length
  sound : ∀ a ∈ K, Der C A a
  asm : ∀ a ∈ A, a ∈ K
  kok : ∀ a ∈ K, LitOk n a
  cons : ∀ a ∈ K, -a ∉ K
  knod : K.Nodup
  handled : ∀ (i : Nat) c o, C[i]? = some c → O[i]? = some o → o ≤ 1 → ∃ l ∈ c, l ∈ K
  le : d ≤ K.length

/-- At the head of a round. -/
structure PI (n : Nat) (C : List (List Int)) (A O K : List Int) (d : Nat) : Prop extends PB n C A O K d where
  cnt : ∀ (i : Nat) c, C[i]? = some c → O[i]? = some (cntO c (K.take d))

/-- Within a round, behind m clauses. -/
structure PJ (n : Nat) (C : List (List Int)) (A O K : List Int) (d : Nat) (a : Int) (m : Nat) : Prop extends PB n C A O K d where
  cur : K[d]? = some a
  cnt : ∀ (i : Nat) c, C[i]? = some c → O[i]? = some (cntO c (K.take d) - if (i : Int) ∈ (withL C (-a)).take m then 1 else 0)

theorem pj_start {n : Nat} {C : List (List Int)} {A O K : List Int} {d : Nat} {a : Int} (h : PI n C A O K d) (ha : K[d]? = some a) : PJ n C A O K d a 0 :=
  { toPB := h.toPB, cur := ha, cnt := fun i c hc => by rw [h.cnt i c hc]; simp }

theorem pj_end {n : Nat} {C : List (List Int)} {A O K : List Int} {d : Nat} {a : Int} {m : Nat} (h : PJ n C A O K d a m) (hm : (withL C (-a)).length ≤ m) : PI n C A O K (d + 1) := by
  obtain ⟨hd, ha⟩ := List.getElem?_eq_some_iff.1 h.cur
  have hnd : a ∉ K.take d := fun hin => by
    obtain ⟨j, hj, he⟩ := List.mem_iff_getElem.1 hin
    simp at hj
    rw [List.getElem_take] at he
    exact (List.pairwise_iff_getElem.1 h.knod) j d (by omega) hd (by omega) (by rw [he, ha])
  refine { toPB := { h.toPB with le := hd }, cnt := fun i c hc => ?_ }
  rw [h.cnt i c hc, List.take_of_length_le hm, List.take_add_one, h.cur]
  congr 1
  simp only [Option.toList_some]
  by_cases hin : -a ∈ c
  · rw [if_pos (mem_withL.2 ⟨i, c, rfl, hc, hin⟩), cntO_hit (h.nod c (List.mem_of_getElem? hc)) hin hnd]
  · rw [if_neg (fun hw => by
      obtain ⟨j, c', hj, hc', hk⟩ := mem_withL.1 hw
      have : j = i := by omega
      rw [this, hc] at hc'
      injection hc' with hc'
      exact hin (by rw [hc']; exact hk)), cntO_other hin]
    omega

/-- What a clause's turn finds: its index, and how many of its literals are open then. -/
theorem pj_turn {n : Nat} {C : List (List Int)} {A O K : List Int} {d : Nat} {a : Int} {m : Nat} (h : PJ n C A O K d a m) {i : Int} (hi : (withL C (-a))[m]? = some i) :
    ∃ (j : Nat) (c : List Int) (o : Int), i = j ∧ C[j]? = some c ∧ O[j]? = some o ∧ o - 1 = cntO c (K.take (d + 1)) ∧ -a ∈ c ∧ ∀ k c', k ≠ j → C[k]? = some c' → (O.set j (o - 1))[k]? = some (cntO c' (K.take d) - if (k : Int) ∈ (withL C (-a)).take (m + 1) then 1 else 0) := by
  obtain ⟨hm, hie⟩ := List.getElem?_eq_some_iff.1 hi
  obtain ⟨j, c, hij, hc, hin⟩ := mem_withL.1 (List.mem_of_getElem? hi)
  have hni : (j : Int) ∉ (withL C (-a)).take m := fun hin => by
    obtain ⟨x, hx, he⟩ := List.mem_iff_getElem.1 hin
    simp at hx
    rw [List.getElem_take] at he
    exact (List.pairwise_iff_getElem.1 (withL_nodup C (-a))) x m (by omega) hm (by omega) (by rw [he, hie, hij])
  have hO := h.cnt j c hc
  rw [if_neg hni] at hO
  obtain ⟨hd, ha⟩ := List.getElem?_eq_some_iff.1 h.cur
  have hnd : a ∉ K.take d := fun hin => by
    obtain ⟨x, hx, he⟩ := List.mem_iff_getElem.1 hin
    simp at hx
    rw [List.getElem_take] at he
    exact (List.pairwise_iff_getElem.1 h.knod) x d (by omega) hd (by omega) (by rw [he, ha])
  refine ⟨j, c, _, hij, hc, hO, ?_, hin, fun k c' hk hc' => ?_⟩
  · rw [List.take_add_one, h.cur]
    simp only [Option.toList_some]
    rw [cntO_hit (h.nod c (List.mem_of_getElem? hc)) hin hnd]
    omega
  · rw [List.getElem?_set_ne (Ne.symm hk), h.cnt k c' hc']
    congr 2
    have e : ((k : Int) ∈ (withL C (-a)).take (m + 1)) ↔ (k : Int) ∈ (withL C (-a)).take m := by
      rw [List.take_add_one, hi]
      simp only [Option.toList_some, List.mem_append, List.mem_singleton]
      exact ⟨fun h => h.elim id fun e => (hk (by omega)).elim, Or.inl⟩
    simp [e]

theorem pj_set {n : Nat} {C : List (List Int)} {A O K : List Int} {d : Nat} {a : Int} {m : Nat} (h : PJ n C A O K d a m) {i : Int} (hi : (withL C (-a))[m]? = some i) {j : Nat} {o : Int} (hij : i = j) (ho : O[j]? = some o) :
    ∀ (k : Nat) c, C[k]? = some c → (O.set j (o - 1))[k]? = some (cntO c (K.take d) - if (k : Int) ∈ (withL C (-a)).take (m + 1) then 1 else 0) := by
  obtain ⟨j', c, o', hij', hc, ho', hcnt, hin, hoth⟩ := pj_turn h hi
  have : j' = j := by omega
  subst this
  rw [ho] at ho'
  injection ho' with ho'
  subst ho'
  intro k c' hc'
  by_cases hk : k = j'
  · subst hk
    rw [hc] at hc'
    injection hc' with hc'
    subst hc'
    have hjl : k < O.length := (List.getElem?_eq_some_iff.1 ho).1
    have hni : (k : Int) ∉ (withL C (-a)).take m := fun hin => by
      obtain ⟨hm, hie⟩ := List.getElem?_eq_some_iff.1 hi
      obtain ⟨x, hx, he⟩ := List.mem_iff_getElem.1 hin
      simp at hx
      rw [List.getElem_take] at he
      exact (List.pairwise_iff_getElem.1 (withL_nodup C (-a))) x m (by omega) hm (by omega) (by rw [he, hie, hij'])
    have h1 := h.cnt k c hc
    rw [if_neg hni, ho] at h1
    injection h1 with h1
    rw [List.getElem?_set_self hjl, if_pos (by rw [List.take_add_one, hi]; simp [hij'])]
    congr 1
    omega
  · exact hoth k c' hk hc'

/-- The clause is still open. -/
theorem pj_open {n : Nat} {C : List (List Int)} {A O K : List Int} {d : Nat} {a : Int} {m : Nat} (h : PJ n C A O K d a m) {i : Int} (hi : (withL C (-a))[m]? = some i) {j : Nat} {o : Int} (hij : i = j) (ho : O[j]? = some o) (h2 : ¬ o - 1 ≤ 1) : PJ n C A (O.set j (o - 1)) K d a (m + 1) := by
  refine { toPB := { h.toPB with olen := by rw [List.length_set]; exact h.olen, handled := fun k c x hc hx hx1 => ?_ }, cur := h.cur, cnt := pj_set h hi hij ho }
  by_cases hk : k = j
  · subst hk
    rw [List.getElem?_set_self (List.getElem?_eq_some_iff.1 ho).1] at hx
    injection hx with hx
    omega
  · rw [List.getElem?_set_ne (Ne.symm hk)] at hx
    exact h.handled k c x hc hx hx1

theorem setK_mem {K : List Int} {x : Int} (h : -x ∉ K) : x ∈ setK K x := by
  unfold setK
  rw [if_neg h]
  split
  · assumption
  · simp

theorem unit_find {K c : List Int} (h : unitR K c = true) : ∃ x ∈ c, -x ∉ K ∧ unitK K c = setK K x := by
  unfold unitR at h
  cases hf : c.find? (fun l => decide (-l ∉ K)) with
  | none =>
    rw [List.find?_eq_none] at hf
    obtain ⟨x, hx, hn⟩ := List.any_eq_true.1 h
    exact (hf x hx hn).elim
  | some x => exact ⟨x, List.mem_of_find?_eq_some hf, by simpa using List.find?_some hf, by unfold unitK; rw [hf]; rfl⟩

/-- The clause's last literal is set. -/
theorem pj_unit {n : Nat} {C : List (List Int)} {A O K : List Int} {d : Nat} {a : Int} {m : Nat} (h : PJ n C A O K d a m) {i : Int} (hi : (withL C (-a))[m]? = some i) {j : Nat} {o : Int} {c : List Int} (hij : i = j) (ho : O[j]? = some o) (hc : C[j]? = some c) (h2 : o - 1 ≤ 1) (hu : unitR K c = true) :
    PJ n C A (O.set j (o - 1)) (unitK K c) d a (m + 1) := by
  obtain ⟨x, hx, hnx, hK⟩ := unit_find hu
  obtain ⟨j', c', o', hij', hc', ho', hcnt, hin, hoth⟩ := pj_turn h hi
  have hjj : j' = j := by omega
  subst hjj
  rw [ho] at ho'
  injection ho' with ho'
  subst ho'
  rw [hc] at hc'
  injection hc' with hc'
  subst hc'
  have hcm : c ∈ C := List.mem_of_getElem? hc
  have hder : Der C A x := by
    refine .unit hcm hx fun y hy hne => h.sound _ ?_
    have := cntO_le_one (by rw [← hcnt]; exact h2) hx (fun e => hnx (List.mem_of_mem_take e)) y hy hne
    exact List.mem_of_mem_take this
  obtain ⟨hd, hae⟩ := List.getElem?_eq_some_iff.1 h.cur
  rw [hK]
  by_cases hxK : x ∈ K
  · rw [setK_pos hnx hxK]
    refine { toPB := { h.toPB with olen := by rw [List.length_set]; exact h.olen, handled := fun k c2 y hc2 hy hy1 => ?_ }, cur := h.cur, cnt := pj_set h hi hij ho }
    by_cases hk : k = j'
    · subst hk
      rw [hc] at hc2
      injection hc2 with hc2
      subst hc2
      exact ⟨x, hx, hxK⟩
    · rw [List.getElem?_set_ne (Ne.symm hk)] at hy
      exact h.handled k c2 y hc2 hy hy1
  · rw [setK_new hnx hxK]
    have hx0 := h.cok c hcm x hx
    refine { toPB := ⟨h.nod, h.cok, by rw [List.length_set]; exact h.olen, fun y hy => ?_, fun y hy => List.mem_append_left _ (h.asm y hy), fun y hy => ?_, fun y hy => ?_, ?_, fun k c2 y hc2 hy hy1 => ?_, by rw [List.length_append]; omega⟩, cur := by rw [List.getElem?_append_left hd]; exact h.cur, cnt := ?_ }
    · rcases List.mem_append.1 hy with hy | hy
      · exact h.sound y hy
      · simp at hy; rw [hy]; exact hder
    · rcases List.mem_append.1 hy with hy | hy
      · exact h.kok y hy
      · simp at hy; rw [hy]; exact hx0
    · rw [List.mem_append, not_or]
      rcases List.mem_append.1 hy with hy | hy
      · refine ⟨h.cons y hy, fun e => ?_⟩
        simp at e
        exact hnx (by rw [← e, Int.neg_neg]; exact hy)
      · simp at hy
        subst hy
        refine ⟨hnx, fun e => ?_⟩
        simp at e
        have := hx0.1
        omega
    · exact List.nodup_append.2 ⟨h.knod, by simp, fun y hy z hz e => by simp at hz; exact hxK (by rw [← hz, ← e]; exact hy)⟩
    · by_cases hk : k = j'
      · subst hk
        rw [hc] at hc2
        injection hc2 with hc2
        subst hc2
        exact ⟨x, hx, by simp⟩
      · rw [List.getElem?_set_ne (Ne.symm hk)] at hy
        obtain ⟨l, hl, hlK⟩ := h.handled k c2 y hc2 hy hy1
        exact ⟨l, hl, List.mem_append_left _ hlK⟩
    · intro k c2 hc2
      rw [List.take_append_of_le_length (by omega)]
      exact pj_set h hi hij ho k c2 hc2

/-- The clause is false: it fails. -/
theorem pj_bad {n : Nat} {C : List (List Int)} {A O K : List Int} {d : Nat} {a : Int} {m : Nat} (h : PJ n C A O K d a m) {j : Nat} {c : List Int} (hc : C[j]? = some c) (hu : unitR K c = false) : Bad C A := by
  refine .inr ⟨c, List.mem_of_getElem? hc, fun l hl => h.sound _ ?_⟩
  unfold unitR at hu
  have := List.any_eq_false.1 hu l hl
  simpa using this

/-- All was looked at: it is closed. -/
theorem pi_closed {n : Nat} {C : List (List Int)} {A O K : List Int} {d : Nat} (h : PI n C A O K d) (hd : K.length ≤ d) : Closed C A K := by
  have hcnt : ∀ c ∈ C, ∃ i : Nat, C[i]? = some c ∧ O[i]? = some (cntO c K) := fun c hc => by
    obtain ⟨i, hi⟩ := List.mem_iff_getElem?.1 hc
    have := h.cnt i c hi
    rw [List.take_of_length_le hd] at this
    exact ⟨i, hi, this⟩
  refine ⟨h.sound, h.asm, h.cons, fun c hc l hl hm => ?_, fun c hc => ?_⟩
  · obtain ⟨i, hi, ho⟩ := hcnt c hc
    by_cases h1 : cntO c K ≤ 1
    · obtain ⟨x, hx, hxK⟩ := h.handled i c _ hi ho h1
      by_cases e : x = l
      · rw [← e]; exact hxK
      · exact (h.cons x hxK (hm x hx e)).elim
    · obtain ⟨x, hx, hne, hnx⟩ := cntO_two (c := c) (D := K) (by omega) (h.nod c hc) l
      exact (hnx (hm x hx hne)).elim
  · obtain ⟨i, hi, ho⟩ := hcnt c hc
    by_cases h1 : cntO c K ≤ 1
    · obtain ⟨x, hx, hxK⟩ := h.handled i c _ hi ho h1
      exact ⟨x, hx, h.cons x hxK⟩
    · obtain ⟨x, hx, -, hnx⟩ := cntO_two (c := c) (D := K) (by omega) (h.nod c hc) 0
      exact ⟨x, hx, hnx⟩

/-- Numbers below a bound, each once, are at most so many. -/
theorem nodup_below : ∀ (n : Nat) (l : List Nat), l.Nodup → (∀ x ∈ l, x < n) → l.length ≤ n
  | 0, l, _, h => by
    cases l with
    | nil => exact Nat.le_refl _
    | cons x l => have := h x (by simp); omega
  | n + 1, l, hn, h => by
    have h1 : (l.filter fun x => decide (x ≠ n)).length ≤ n := nodup_below n _ (List.filter_sublist.nodup hn) fun x hx => by
      obtain ⟨hx1, hx2⟩ := List.mem_filter.1 hx
      have := h x hx1
      simp at hx2
      omega
    have h2 : l.length ≤ (l.filter fun x => decide (x ≠ n)).length + 1 := by
      clear h h1
      induction l with
      | nil => simp
      | cons x l ih =>
        rw [List.nodup_cons] at hn
        have := ih hn.2
        by_cases hx : x = n
        · subst hx
          rw [List.filter_cons]
          simp only [ne_eq, not_true_eq_false, decide_false, Bool.false_eq_true, if_false, List.length_cons]
          have e : l.filter (fun y => decide (y ≠ x)) = l := List.filter_eq_self.2 fun y hy => by simp; exact fun e => hn.1 (by rw [← e]; exact hy)
          simp only [ne_eq] at e
          rw [e]
          omega
        · rw [List.filter_cons]
          simp only [ne_eq, hx, not_false_eq_true, decide_true, if_true, List.length_cons]
          simp only [ne_eq] at this
          omega
    omega

theorem lits_le {n : Nat} {K : List Int} (hn : K.Nodup) (hc : ∀ a ∈ K, -a ∉ K) (hk : ∀ a ∈ K, LitOk n a) : K.length ≤ n := by
  have h1 : (K.map fun a => a.natAbs - 1).Nodup := by
    rw [List.Nodup, List.pairwise_map]
    refine List.Pairwise.imp_of_mem (fun {a c} ha hc' hac => ?_) hn
    have h1 := hk a ha
    have h2 := hk c hc'
    unfold LitOk at h1 h2
    intro e
    rcases (by omega : a = c ∨ a = -c) with e2 | e2
    · exact hac e2
    · exact hc c hc' (by rw [← e2]; exact ha)
  have := nodup_below n _ h1 fun x hx => by
    obtain ⟨a, ha, rfl⟩ := List.mem_map.1 hx
    have := hk a ha
    unfold LitOk at this
    omega
  simpa using this

end Go.Proofs.Ytfofabbnbmieoaa.Ord
