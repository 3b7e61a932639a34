/- Plain definitions and lemmas that all texts of this seat use: integers that fit 64 bits, what a slice of one-cell elements reads as, and that such readings are kept when new memory is made. -/
import Derived.WalkKit
import Derived.WalkSpells
import Derived.WalkLawsBesides
import Derived.Deep.QuietTactic
import Derived.BigQuiet
import Derived.Laws.AppendOwnNone
import Derived.Deep.RegionWith
import Derived.Deep.RegionLaw
import Derived.Deep.DeepCutAuto
import Derived.Test.YtacmfiikdbekbaaProg
import Derived.Deep.RegionHeld3
import Derived.BigRegion

namespace Go.Proofs.Ytacmfiikdbekbaa
open Go.RowKit

/-- A fact kept from the walk. -/
theorem hid {p : Prop} (h : p) : Hid p := h

/-- A contract of a callee that draws nothing, met in a region whose order is open. -/
theorem quiet_same {P : Program} {f : FuncId} {args : Array Value} {w : World} {n : Nat} {v : Value}
    (h : Calls P f args (w.drewN n) fun e w' => e = .returned v ∧ w.drewN n = w') : Calls P f args (w.drewN n) fun e w'' => e = .returned v ∧ ∃ m, w'' = w.drewN m :=
  h.mono fun _ _ ⟨he, hm⟩ => ⟨he, n, hm.symm⟩

/-- The same behind an earlier region's draws. -/
theorem quiet_same2 {P : Program} {f : FuncId} {args : Array Value} {w : World} {k n : Nat} {v : Value}
    (h : Calls P f args (w.drewN (k + n)) fun e w' => e = .returned v ∧ w.drewN (k + n) = w') : Calls P f args (w.drewN (k + n)) fun e w'' => e = .returned v ∧ ∃ m, w'' = w.drewN (k + m) :=
  h.mono fun _ _ ⟨he, hm⟩ => ⟨he, n, hm.symm⟩

/-- The number fits an int. -/
def I64 (x : Int) : Prop := -9223372036854775808 ≤ x ∧ x ≤ 9223372036854775807

/-- The slice value with the address 'a' reads as the values 'vs' (one cell each). -/
def SlV (w : World) (a : Option Addr) (vs : List Value) : Prop :=
  ∀ j v, vs[j]? = some v → ∃ b off, a = some ⟨b, off, none⟩ ∧ w.cell? ⟨b, off + j, none⟩ = some v

/-- A list of ints as values. -/
def ints (xs : List Int) : List Value := xs.map (Value.int .i64)

@[simp] theorem ints_length (xs : List Int) : (ints xs).length = xs.length := by simp [ints]

theorem SlV.nil (w : World) (a : Option Addr) : SlV w a [] := fun j _ h => by simp at h

theorem SlV.keep {w w' : World} {a : Option Addr} {vs : List Value} (h : SlV w a vs) (hk : ∀ p v, w.cell? p = some v → w'.cell? p = some v) : SlV w' a vs :=
  fun j v hj => let ⟨b, off, ha, hc⟩ := h j v hj; ⟨b, off, ha, hk _ _ hc⟩

theorem below_keeps {w w' : World} (h : Below w.heap.size w w') : ∀ p v, w.cell? p = some v → w'.cell? p = some v :=
  fun p _ hp => (h.cell (World.block_lt_of_cell? w p hp)).trans hp

theorem SlV.below {w w' : World} {a : Option Addr} {vs : List Value} (h : SlV w a vs) (hb : Below w.heap.size w w') : SlV w' a vs :=
  h.keep (below_keeps hb)

/-- One element of a slice of ints. -/
theorem SlV.int {w : World} {a : Option Addr} {xs : List Int} (h : SlV w a (ints xs)) {k : Nat} (hk : k < xs.length) :
    ∃ b off x, a = some ⟨b, off, none⟩ ∧ w.cell? ⟨b, off + k, none⟩ = some (.int .i64 x) ∧ xs[k]? = some x := by
  obtain ⟨b, off, ha, hc⟩ := h k (.int .i64 xs[k]) (by simp [ints, hk])
  exact ⟨b, off, xs[k], ha, hc, by simp [hk]⟩

/-- A list of bools as values. -/
def bools (xs : List Bool) : List Value := xs.map Value.bool

@[simp] theorem bools_length (xs : List Bool) : (bools xs).length = xs.length := by simp [bools]

/-- One element of a slice of bools. -/
theorem SlV.bool {w : World} {a : Option Addr} {xs : List Bool} (h : SlV w a (bools xs)) {k : Nat} (hk : k < xs.length) :
    ∃ b off x, a = some ⟨b, off, none⟩ ∧ w.cell? ⟨b, off + k, none⟩ = some (.bool x) ∧ xs[k]? = some x := by
  obtain ⟨b, off, ha, hc⟩ := h k (.bool xs[k]) (by simp [bools, hk])
  exact ⟨b, off, xs[k], ha, hc, by simp [hk]⟩

theorem ints_take_succ {xs : List Int} {k : Nat} {x : Int} (h : xs[k]? = some x) : ints (xs.take k) ++ [Value.int .i64 x] = ints (xs.take (k + 1)) := by
  simp [ints, List.take_add_one, h]

theorem bools_take_succ {xs : List Bool} {k : Nat} {x : Bool} (h : xs[k]? = some x) : bools (xs.take k) ++ [Value.bool x] = bools (xs.take (k + 1)) := by
  simp [bools, List.take_add_one, h]

/-- The slice value 'v' reads as the values 'vs'. -/
def Sl (w : World) (v : Value) (vs : List Value) : Prop :=
  ∃ a c, v = .slice a vs.length c ∧ vs.length ≤ c ∧ (a = none → c = 0) ∧ SlV w a vs

theorem Sl.below {w w' : World} {v : Value} {vs : List Value} (h : Sl w v vs) (hb : Below w.heap.size w w') : Sl w' v vs :=
  let ⟨a, c, h1, h2, h3, h4⟩ := h; ⟨a, c, h1, h2, h3, h4.below hb⟩

/-- What a row of the call's own reads as. -/
theorem own_sl {w : World} {B e n : Nat} {v : Value} {vs : List Value} (h : w.ownsRow B e 1 v n vs) : Sl w v vs := by
  have hn : n = vs.length := by have := h.1; omega
  rcases h.2 with ⟨rfl, h0⟩ | ⟨g, cap, cur, rfl, _, hg, hle, _, _, ht⟩
  · subst h0
    have : vs = [] := List.eq_nil_of_length_eq_zero (by omega)
    subst this
    exact ⟨none, 0, rfl, Nat.le_refl _, fun _ => rfl, SlV.nil _ _⟩
  · refine ⟨some ⟨g, 0, none⟩, cap, by rw [hn], by omega, nofun, fun j u hj => ⟨g, 0, rfl, ?_⟩⟩
    have := h.cells (g := g) rfl j u hj
    unfold Addr.add at this
    split at this
    · rename_i h0; subst h0; simpa using this
    · simpa using this

/-- The slice value 'v' reads as the ints 'xs'. -/
def SlI (w : World) (v : Value) (xs : List Int) : Prop :=
  ∃ a c, v = .slice a xs.length c ∧ xs.length ≤ c ∧ (a = none → c = 0) ∧ SlV w a (ints xs)

theorem SlI.below {w w' : World} {v : Value} {xs : List Int} (h : SlI w v xs) (hb : Below w.heap.size w w') : SlI w' v xs :=
  let ⟨a, c, h1, h2, h3, h4⟩ := h; ⟨a, c, h1, h2, h3, h4.below hb⟩

theorem own_sli {w : World} {B e n : Nat} {v : Value} {xs : List Int} (h : w.ownsRow B e 1 v n (ints xs)) : SlI w v xs := by
  obtain ⟨a, c, h1, h2, h3, h4⟩ := own_sl h
  simp only [ints_length] at h1 h2
  exact ⟨a, c, h1, h2, h3, h4⟩

theorem own_base {w : World} {B B' e size n : Nat} {v : Value} {vs : List Value} (h : w.ownsRow B e size v n vs) (hB : B' ≤ B) : w.ownsRow B' e size v n vs := by
  refine ⟨h.1, ?_⟩
  rcases h.2 with h0 | ⟨g, cap, cur, h1, h2, h3⟩
  · exact .inl h0
  · exact .inr ⟨g, cap, cur, h1, by omega, h3⟩

theorem ints_append (xs ys : List Int) : ints (xs ++ ys) = ints xs ++ ints ys := by simp [ints]

/-- The first element of a slice of ints. -/
theorem SlV.head {w : World} {a : Option Addr} {x : Int} {xs : List Int} (h : SlV w a (ints (x :: xs))) :
    ∃ b off, a = some ⟨b, off, none⟩ ∧ w.cell? ⟨b, off, none⟩ = some (.int .i64 x) := by
  obtain ⟨b, off, ha, hc⟩ := h 0 (.int .i64 x) (by simp [ints])
  exact ⟨b, off, ha, hc⟩

theorem below_dr {B : Nat} {a w : World} (h : Below B a w) (n : Nat) : Below B a (w.drewN n) := h.trans ⟨rfl, rfl, rfl, Nat.le_refl _, fun _ _ => rfl⟩

theorem SlV.drewN {w : World} {a : Option Addr} {vs : List Value} (h : SlV w a vs) (n : Nat) : SlV (w.drewN n) a vs := h

/-- Equality of two lists of ints, as a Bool. -/
def eqI (xs ys : List Int) : Bool := decide (xs = ys)

theorem eqI_len {xs ys : List Int} (h : ¬ xs.length = ys.length) : eqI xs ys = false := by
  simp [eqI]; intro e; exact h (by rw [e])
theorem eqI_at {xs ys : List Int} {k : Nat} {x y : Int} (hx : xs[k]? = some x) (hy : ys[k]? = some y) (h : ¬ x = y) : eqI xs ys = false := by
  simp [eqI]; intro e; rw [e, hy] at hx; simp at hx; exact h hx.symm
theorem take_eq_succ {α : Type} {xs ys : List α} {k : Nat} {x : α} (h : xs.take k = ys.take k) (hx : xs[k]? = some x) (hy : ys[k]? = some x) : xs.take (k + 1) = ys.take (k + 1) := by
  rw [List.take_add_one, List.take_add_one, h, hx, hy]
theorem eqI_all {xs ys : List Int} {k : Nat} (hk : ¬ k < xs.length) (hl : xs.length = ys.length) (h : xs.take k = ys.take k) : eqI xs ys = true := by
  rw [List.take_of_length_le (by omega), List.take_of_length_le (by omega)] at h
  simp [eqI, h]

end Go.Proofs.Ytacmfiikdbekbaa

/- What follows by unit propagation. Plain. -/
namespace Go.Proofs.Ytacmfiikdbekbaa

/-- What follows from clauses and assumptions by unit propagation. -/
inductive Der (C : List (List Int)) (A : List Int) : Int → Prop
  | asm {a : Int} : a ∈ A → Der C A a
  | unit {c : List Int} {l : Int} : c ∈ C → l ∈ c → (∀ m ∈ c, m ≠ l → Der C A (-m)) → Der C A l

/-- Unit propagation fails. -/
def Bad (C : List (List Int)) (A : List Int) : Prop := (∃ a, Der C A a ∧ Der C A (-a)) ∨ ∃ c ∈ C, ∀ l ∈ c, Der C A (-l)

/-- Each clause of the one has a clause of the other with the same literals. -/
def Sub (C C' : List (List Int)) : Prop := ∀ c ∈ C, ∃ c' ∈ C', ∀ l, l ∈ c ↔ l ∈ c'

theorem sub_of_subset {C C' : List (List Int)} (h : ∀ c ∈ C, c ∈ C') : Sub C C' := fun c hc => ⟨c, h c hc, fun _ => Iff.rfl⟩

theorem der_mono {C C' : List (List Int)} {A A' : List Int} (hC : Sub C C') (hA : ∀ a ∈ A, a ∈ A') {a : Int} (h : Der C A a) : Der C' A' a := by
  induction h with
  | asm ha => exact .asm (hA _ ha)
  | unit hc hl hm ih =>
    obtain ⟨c', hc', hs⟩ := hC _ hc
    exact .unit hc' ((hs _).1 hl) fun m hm hne => ih m ((hs m).2 hm) hne

theorem bad_mono {C C' : List (List Int)} {A A' : List Int} (hC : Sub C C') (hA : ∀ a ∈ A, a ∈ A') (h : Bad C A) : Bad C' A' := by
  rcases h with ⟨a, h1, h2⟩ | ⟨c, hc, h⟩
  · exact .inl ⟨a, der_mono hC hA h1, der_mono hC hA h2⟩
  · obtain ⟨c', hc', hs⟩ := hC c hc
    exact .inr ⟨c', hc', fun l hl => der_mono hC hA (h l ((hs l).2 hl))⟩

/-- The literals of a formula of n variables. -/
def LitOk (n : Nat) (a : Int) : Prop := a ≠ 0 ∧ a ≤ n ∧ -(n : Int) ≤ a
def ClsOk (n : Nat) (C : List (List Int)) : Prop := ∀ c ∈ C, ∀ a ∈ c, LitOk n a

theorem der_ok {n : Nat} {C : List (List Int)} {A : List Int} (hC : ClsOk n C) (hA : ∀ a ∈ A, LitOk n a) {a : Int} (h : Der C A a) : LitOk n a := by
  cases h with
  | asm ha => exact hA a ha
  | unit hc hl _ => exact hC _ hc _ hl

/-- The clause always holds. -/
def Taut (c : List Int) : Prop := ∃ x ∈ c, -x ∈ c

/-- N has C's clauses but for those that always hold. -/
theorem bad_norm {C N : List (List Int)} {A : List Int} {n : Nat} (hC : ClsOk n C) (h : ∀ c ∈ C, Taut c ∨ ∃ c' ∈ N, ∀ l, l ∈ c ↔ l ∈ c') (hb : ¬ Bad N A) :
    (∀ {a}, Der C A a → Der N A a) ∧ ¬ Bad C A := by
  have hcons : ∀ x, Der N A x → Der N A (-x) → False := fun x h1 h2 => hb (.inl ⟨x, h1, h2⟩)
  have hd : ∀ {a}, Der C A a → Der N A a := fun {a} ha => by
    induction ha with
    | asm ha => exact .asm ha
    | @unit c l hc hl hm ih =>
      rcases h c hc with ⟨x, hx, hnx⟩ | ⟨c', hc', hs⟩
      · have hx0 := (hC c hc x hx).1
        by_cases h1 : l = x
        · have h2 : -x ≠ l := by omega
          have := ih (-x) hnx h2
          rw [Int.neg_neg] at this
          rw [h1]; exact this
        · by_cases h2 : l = -x
          · have := ih x hx (by omega)
            rw [h2]; exact this
          · have g1 := ih x hx (Ne.symm h1)
            have g2 := ih (-x) hnx (Ne.symm h2)
            exact (hcons (-x) g1 (by rw [Int.neg_neg] at g2 ⊢; exact g2)).elim
      · exact .unit hc' ((hs l).1 hl) fun m hm hne => ih m ((hs m).2 hm) hne
  refine ⟨hd, fun hbad => ?_⟩
  rcases hbad with ⟨a, h1, h2⟩ | ⟨c, hc, hf⟩
  · exact hcons a (hd h1) (hd h2)
  · rcases h c hc with ⟨x, hx, hnx⟩ | ⟨c', hc', hs⟩
    · have g1 := hd (hf x hx)
      have g2 := hd (hf (-x) hnx)
      rw [Int.neg_neg] at g2
      exact hcons x g2 g1
    · exact hb (.inr ⟨c', hc', fun l hl => hd (hf l ((hs l).2 hl))⟩)

/-- K is what follows, and nothing fails. -/
structure Closed (C : List (List Int)) (A K : List Int) : Prop where
  sound : ∀ a ∈ K, Der C A a
  asm : ∀ a ∈ A, a ∈ K
  cons : ∀ a ∈ K, -a ∉ K
  unit : ∀ c ∈ C, ∀ l ∈ c, (∀ m ∈ c, m ≠ l → -m ∈ K) → l ∈ K
  clause : ∀ c ∈ C, ∃ l ∈ c, -l ∉ K

theorem Closed.der {C : List (List Int)} {A K : List Int} (h : Closed C A K) {a : Int} : Der C A a ↔ a ∈ K := by
  refine ⟨fun hd => ?_, h.sound a⟩
  induction hd with
  | asm ha => exact h.asm _ ha
  | unit hc hl hm ih => exact h.unit _ hc _ hl ih

theorem Closed.good {C : List (List Int)} {A K : List Int} (h : Closed C A K) : ¬ Bad C A := by
  rintro (⟨a, h1, h2⟩ | ⟨c, hc, hf⟩)
  · exact h.cons a (h.der.1 h1) (h.der.1 h2)
  · obtain ⟨l, hl, hn⟩ := h.clause c hc
    exact hn (h.der.1 (hf l hl))

/-- All literals of a list, by variables. -/
def byVar (n : Nat) (p : Int → Bool) : List Int := (List.range n).flatMap fun (i : Nat) => (if p ((i : Int) + 1) then [(i : Int) + 1] else []) ++ (if p (-((i : Int) + 1)) then [-((i : Int) + 1)] else [])

theorem byVar_succ (n : Nat) (p : Int → Bool) : byVar (n + 1) p = byVar n p ++ ((if p ((n : Int) + 1) then [(n : Int) + 1] else []) ++ (if p (-((n : Int) + 1)) then [-((n : Int) + 1)] else [])) := by
  simp [byVar, List.range_succ]

theorem mem_byVar {n : Nat} {p : Int → Bool} {a : Int} : a ∈ byVar n p ↔ LitOk n a ∧ p a = true := by
  simp only [byVar, List.mem_flatMap, List.mem_range, List.mem_append]
  constructor
  · rintro ⟨i, hi, h | h⟩
    · split at h
      · rename_i hp; simp at h; subst h; exact ⟨⟨by omega, by omega, by omega⟩, hp⟩
      · cases h
    · split at h
      · rename_i hp; simp at h; subst h; exact ⟨⟨by omega, by omega, by omega⟩, hp⟩
      · cases h
  · rintro ⟨⟨h0, h1, h2⟩, hp⟩
    rcases Int.lt_or_gt_of_ne h0 with h | h
    · refine ⟨(-a - 1).toNat, by omega, .inr ?_⟩
      have e : -((((-a - 1).toNat : Nat) : Int) + 1) = a := by omega
      rw [e, hp]; simp
    · refine ⟨(a - 1).toNat, by omega, .inl ?_⟩
      have e : (((a - 1).toNat : Nat) : Int) + 1 = a := by omega
      rw [e, hp]; simp

theorem byVar_congr {n : Nat} {p q : Int → Bool} (h : ∀ a, LitOk n a → p a = q a) : byVar n p = byVar n q := by
  induction n with
  | zero => rfl
  | succ n ih =>
    rw [byVar_succ, byVar_succ, ih fun a ha => h a ⟨ha.1, by have := ha.2.1; omega, by have := ha.2.2; omega⟩, h ((n : Int) + 1) ⟨by omega, by omega, by omega⟩, h (-((n : Int) + 1)) ⟨by omega, by omega, by omega⟩]

open Classical in
/-- What Units returns. -/
noncomputable def upL (n : Nat) (C : List (List Int)) (A : List Int) : List Int := if Bad C A then [] else byVar n fun a => decide (Der C A a)

open Classical in
/-- Whether Units fails. -/
noncomputable def upF (C : List (List Int)) (A : List Int) : Bool := decide (Bad C A)

theorem upF_true {C : List (List Int)} {A : List Int} : upF C A = true ↔ Bad C A := by simp [upF]
theorem upF_false {C : List (List Int)} {A : List Int} : upF C A = false ↔ ¬ Bad C A := by simp [upF]

theorem Closed.up {C : List (List Int)} {A K : List Int} (h : Closed C A K) (n : Nat) : upL n C A = byVar n (fun a => decide (a ∈ K)) ∧ upF C A = false := by
  refine ⟨?_, upF_false.2 h.good⟩
  unfold upL
  rw [if_neg h.good]
  exact byVar_congr fun a _ => by simp [h.der]

theorem bad_up {C : List (List Int)} {A : List Int} (h : Bad C A) (n : Nat) : upL n C A = [] ∧ upF C A = true := by
  refine ⟨?_, upF_true.2 h⟩
  unfold upL
  rw [if_pos h]

theorem mem_upL {n : Nat} {C : List (List Int)} {A : List Int} (hC : ClsOk n C) (hA : ∀ a ∈ A, LitOk n a) (hb : ¬ Bad C A) {a : Int} : a ∈ upL n C A ↔ Der C A a := by
  unfold upL
  rw [if_neg hb, mem_byVar]
  simp only [decide_eq_true_eq]
  exact ⟨fun h => h.2, fun h => ⟨der_ok hC hA h, h⟩⟩

/-- Two formulas with the same results. -/
theorem up_congr {n : Nat} {C C' : List (List Int)} {A A' : List Int} (hb : Bad C A ↔ Bad C' A') (hd : ¬ Bad C A → ∀ a, Der C A a ↔ Der C' A' a) : upL n C A = upL n C' A' ∧ upF C A = upF C' A' := by
  by_cases h : Bad C A
  · rw [(bad_up h n).1, (bad_up h n).2, (bad_up (hb.1 h) n).1, (bad_up (hb.1 h) n).2]; exact ⟨rfl, rfl⟩
  · have h' : ¬ Bad C' A' := fun e => h (hb.2 e)
    refine ⟨?_, by rw [upF_false.2 h, upF_false.2 h']⟩
    unfold upL
    rw [if_neg h, if_neg h']
    exact byVar_congr fun a _ => by simp [hd h a]

/-- The order of clauses and literals, and how often they are there, makes no difference. -/
theorem up_same {n : Nat} {C C' : List (List Int)} {A A' : List Int} (h1 : Sub C C') (h2 : Sub C' C) (h3 : ∀ a, a ∈ A ↔ a ∈ A') : upL n C A = upL n C' A' ∧ upF C A = upF C' A' :=
  up_congr ⟨bad_mono h1 fun a ha => (h3 a).1 ha, bad_mono h2 fun a ha => (h3 a).2 ha⟩ fun _ _ => ⟨der_mono h1 fun a ha => (h3 a).1 ha, der_mono h2 fun a ha => (h3 a).2 ha⟩

/-- Clauses that always hold make no difference. -/
theorem up_norm {C N : List (List Int)} {A : List Int} {n : Nat} (hC : ClsOk n C) (h1 : ∀ c ∈ C, Taut c ∨ ∃ c' ∈ N, ∀ l, l ∈ c ↔ l ∈ c') (h2 : Sub N C) : upL n N A = upL n C A ∧ upF N A = upF C A := by
  by_cases h : Bad N A
  · exact up_congr ⟨fun _ => bad_mono h2 (fun _ h => h) h, fun _ => h⟩ fun hn => (hn h).elim
  · obtain ⟨g1, g2⟩ := bad_norm hC h1 h
    exact up_congr ⟨fun e => (h e).elim, fun e => (g2 e).elim⟩ fun _ _ => ⟨fun h => der_mono h2 (fun _ h => h) h, g1⟩

/-! ### Certificates, for closed formulas -/

/-- Each literal of the list is an assumption or follows from those behind it. -/
def derOk (C : List (List Int)) (A : List Int) : List Int → Bool
  | [] => true
  | l :: K => (decide (l ∈ A) || C.any fun c => decide (l ∈ c) && c.all fun m => decide (m = l) || decide (-m ∈ K)) && derOk C A K

theorem derOk_sound {C : List (List Int)} {A : List Int} : ∀ {K : List Int}, derOk C A K = true → ∀ a ∈ K, Der C A a
  | [], _, a, ha => by cases ha
  | l :: K, h, a, ha => by
    simp only [derOk, Bool.and_eq_true, Bool.or_eq_true, decide_eq_true_eq, List.any_eq_true, List.all_eq_true] at h
    have ih := derOk_sound h.2
    rcases List.mem_cons.1 ha with rfl | ha
    · rcases h.1 with h1 | ⟨c, hc, hl, hm⟩
      · exact .asm h1
      · exact .unit hc hl fun m hmc hne => (hm m hmc).elim (fun e => (hne e).elim) (fun e => ih _ e)
    · exact ih a ha

def closedOk (C : List (List Int)) (A K : List Int) : Bool :=
  derOk C A K && (A.all fun a => decide (a ∈ K)) && (K.all fun a => decide (-a ∉ K)) && C.all fun c => (c.any fun l => decide (-l ∉ K)) && c.all fun l => !(c.all fun m => decide (m = l) || decide (-m ∈ K)) || decide (l ∈ K)

theorem closedOk_sound {C : List (List Int)} {A K : List Int} (h : closedOk C A K = true) : Closed C A K := by
  simp only [closedOk, Bool.and_eq_true, List.all_eq_true, decide_eq_true_eq, List.any_eq_true, Bool.or_eq_true, Bool.not_eq_true'] at h
  obtain ⟨⟨⟨h1, h2⟩, h3⟩, h4⟩ := h
  refine ⟨derOk_sound h1, h2, h3, fun c hc l hl hm => ?_, fun c hc => (h4 c hc).1⟩
  rcases (h4 c hc).2 l hl with h5 | h5
  · rw [List.all_eq_false] at h5
    obtain ⟨m, hmc, h6⟩ := h5
    simp only [Bool.or_eq_true, decide_eq_true_eq, not_or] at h6
    exact (h6.2 (hm m hmc h6.1)).elim
  · exact h5

def badOk (C : List (List Int)) (A K : List Int) : Bool :=
  derOk C A K && ((K.any fun a => decide (-a ∈ K)) || C.any fun c => c.all fun l => decide (-l ∈ K))

theorem badOk_sound {C : List (List Int)} {A K : List Int} (h : badOk C A K = true) : Bad C A := by
  simp only [badOk, Bool.and_eq_true, Bool.or_eq_true, List.any_eq_true, List.all_eq_true, decide_eq_true_eq] at h
  have hd := derOk_sound h.1
  rcases h.2 with ⟨a, ha, hna⟩ | ⟨c, hc, hl⟩
  · exact .inl ⟨a, hd a ha, hd _ hna⟩
  · exact .inr ⟨c, hc, fun l hlc => hd _ (hl l hlc)⟩

end Go.Proofs.Ytacmfiikdbekbaa

/- Unit propagation as prop's state does it: counting the literals of each clause that are open. Plain. -/
namespace Go.Proofs.Ytacmfiikdbekbaa.Ord

/-- What set makes of what is known. -/
def setK (K : List Int) (a : Int) : List Int := if -a ∈ K then K else if a ∈ K then K else K ++ [a]

theorem setK_neg {K : List Int} {a : Int} (h : -a ∈ K) : setK K a = K := by unfold setK; rw [if_pos h]
theorem setK_pos {K : List Int} {a : Int} (h : -a ∉ K) (h2 : a ∈ K) : setK K a = K := by unfold setK; rw [if_neg h, if_pos h2]
theorem setK_new {K : List Int} {a : Int} (h : -a ∉ K) (h2 : a ∉ K) : setK K a = K ++ [a] := by unfold setK; rw [if_neg h, if_neg h2]

/-- What unit finds. -/
def unitR (K : List Int) (xs : List Int) : Bool := xs.any fun l => decide (-l ∉ K)
def unitK (K : List Int) (xs : List Int) : List Int := ((xs.find? fun l => decide (-l ∉ K)).map (setK K)).getD K

theorem unit_skip {K xs : List Int} {k : Nat} {x : Int} (h : ∀ y ∈ xs.take k, -y ∈ K) (hx : xs[k]? = some x) (hn : -x ∈ K) : ∀ y ∈ xs.take (k + 1), -y ∈ K := fun y hy => by
  rw [List.take_add_one, hx] at hy
  rcases List.mem_append.1 hy with hy | hy
  · exact h y hy
  · simp at hy; rw [hy]; exact hn

theorem unit_hit {K xs : List Int} {k : Nat} {x : Int} (h : ∀ y ∈ xs.take k, -y ∈ K) (hx : xs[k]? = some x) (hn : -x ∉ K) : unitR K xs = true ∧ unitK K xs = setK K x := by
  refine ⟨List.any_eq_true.2 ⟨x, List.mem_of_getElem? hx, by simpa using hn⟩, ?_⟩
  have hf : xs.find? (fun l => decide (-l ∉ K)) = some x := by
    rw [← List.take_append_drop k xs, List.find?_append, List.find?_eq_none.2 (fun y hy => by simpa using h y hy)]
    obtain ⟨hk, hxe⟩ := List.getElem?_eq_some_iff.1 hx
    rw [List.drop_eq_getElem_cons hk, hxe]
    simp [hn]
  unfold unitK
  rw [hf]; rfl

theorem unit_none {K xs : List Int} {k : Nat} (h : ∀ y ∈ xs.take k, -y ∈ K) (hk : xs.length ≤ k) : unitR K xs = false ∧ unitK K xs = K := by
  rw [List.take_of_length_le hk] at h
  refine ⟨List.any_eq_false.2 fun y hy => by simpa using h y hy, ?_⟩
  unfold unitK
  rw [List.find?_eq_none.2 (fun y hy => by simpa using h y hy)]; rfl

/-- How many literals of a clause are not false by a list. -/
def cntO (c D : List Int) : Int := ((c.filter fun l => decide (-l ∉ D)).length : Nat)

theorem cntO_nil (c : List Int) : cntO c [] = c.length := by unfold cntO; rw [List.filter_eq_self.2 (by simp)]

theorem filter_len_congr {c : List Int} {p q : Int → Bool} (h : ∀ l ∈ c, p l = q l) : (c.filter p).length = (c.filter q).length := by rw [List.filter_congr h]

theorem cntO_other {c D : List Int} {a : Int} (h : -a ∉ c) : cntO c (D ++ [a]) = cntO c D := by
  unfold cntO
  congr 1
  refine filter_len_congr fun l hl => ?_
  have : -l ≠ a := fun e => h (by rw [← e, Int.neg_neg]; exact hl)
  simp [this]

theorem cntO_hit {c D : List Int} {a : Int} (hc : c.Nodup) (h : -a ∈ c) (hD : a ∉ D) : cntO c (D ++ [a]) = cntO c D - 1 := by
  have key : ∀ c : List Int, c.Nodup → -a ∈ c → (c.filter fun l => decide (-l ∉ D ++ [a])).length + 1 = (c.filter fun l => decide (-l ∉ D)).length := by
    intro c
    induction c with
    | nil => intro _ h; cases h
    | cons x c ih =>
      intro hn hm
      rw [List.nodup_cons] at hn
      by_cases hx : x = -a
      · subst hx
        have h1 : (decide (- -a ∉ D ++ [a])) = false := by simp
        have h2 : (decide (- -a ∉ D)) = true := by rw [Int.neg_neg]; simpa using hD
        rw [List.filter_cons, List.filter_cons, h1, h2]
        simp only [Bool.false_eq_true, if_false, if_true, List.length_cons]
        congr 1
        refine filter_len_congr fun l hl => ?_
        have : -l ≠ a := fun e => hn.1 (by rw [← e, Int.neg_neg]; exact hl)
        simp [this]
      · have hm' : -a ∈ c := by rcases List.mem_cons.1 hm with h | h; exact (hx h.symm).elim; exact h
        have := ih hn.2 hm'
        have hxa : -x ≠ a := fun e => hx (by rw [← e, Int.neg_neg])
        have hb : decide (-x ∉ D ++ [a]) = decide (-x ∉ D) := by simp [hxa]
        rw [List.filter_cons, List.filter_cons, hb]
        split
        · simp only [List.length_cons]; omega
        · exact this
  have := key c hc h
  unfold cntO
  omega

/-- At most one literal is open: all others are false. -/
theorem cntO_le_one {c D : List Int} (h : cntO c D ≤ 1) {x : Int} (hx : x ∈ c) (hxn : -x ∉ D) : ∀ m ∈ c, m ≠ x → -m ∈ D := by
  intro m hm hne
  refine Classical.byContradiction fun hn => ?_
  have h1 : x ∈ c.filter fun l => decide (-l ∉ D) := List.mem_filter.2 ⟨hx, by simpa using hxn⟩
  have h2 : m ∈ c.filter fun l => decide (-l ∉ D) := List.mem_filter.2 ⟨hm, by simpa using hn⟩
  have hl : (c.filter fun l => decide (-l ∉ D)).length ≤ 1 := by unfold cntO at h; omega
  match hf : c.filter (fun l => decide (-l ∉ D)), hl with
  | [], _ => rw [hf] at h1; cases h1
  | [y], _ =>
    rw [hf] at h1 h2
    simp at h1 h2
    exact hne (by rw [h1, h2])

/-- Two literals are open. -/
theorem cntO_two {c D : List Int} (h : 2 ≤ cntO c D) (hc : c.Nodup) (l : Int) : ∃ m ∈ c, m ≠ l ∧ -m ∉ D := by
  refine Classical.byContradiction fun hn => ?_
  have hall : ∀ m ∈ c.filter (fun l => decide (-l ∉ D)), m = l := fun m hm => by
    obtain ⟨h1, h2⟩ := List.mem_filter.1 hm
    refine Classical.byContradiction fun hne => hn ⟨m, h1, hne, by simpa using h2⟩
  have hl : 2 ≤ (c.filter fun l => decide (-l ∉ D)).length := by unfold cntO at h; omega
  have hnd : (c.filter fun l => decide (-l ∉ D)).Nodup := List.filter_sublist.nodup hc
  match hf : c.filter (fun l => decide (-l ∉ D)), hl with
  | x :: y :: r, _ =>
    rw [hf] at hall hnd
    have e1 := hall x (by simp)
    have e2 := hall y (by simp)
    rw [List.nodup_cons] at hnd
    exact hnd.1 (by rw [e1, e2]; simp)

/-- The clauses with a literal. -/
def withL (C : List (List Int)) (k : Int) : List Int := ((List.range C.length).filter fun i => decide (k ∈ C.getD i [])).map fun (i : Nat) => (i : Int)

theorem mem_withL {C : List (List Int)} {k i : Int} : i ∈ withL C k ↔ ∃ (j : Nat) (c : List Int), i = j ∧ C[j]? = some c ∧ k ∈ c := by
  simp only [withL, List.mem_map, List.mem_filter, List.mem_range, decide_eq_true_eq]
  constructor
  · rintro ⟨j, ⟨hj, hk⟩, rfl⟩
    rw [List.getD_eq_getElem?_getD, List.getElem?_eq_getElem hj] at hk
    exact ⟨j, _, rfl, List.getElem?_eq_getElem hj, hk⟩
  · rintro ⟨j, c, rfl, hc, hk⟩
    refine ⟨j, ⟨(List.getElem?_eq_some_iff.1 hc).1, ?_⟩, rfl⟩
    rw [List.getD_eq_getElem?_getD, hc]; exact hk

theorem withL_nodup (C : List (List Int)) (k : Int) : (withL C k).Nodup := by
  have h : ((List.range C.length).filter fun i => decide (k ∈ C.getD i [])).Nodup := List.filter_sublist.nodup List.nodup_range
  exact List.pairwise_map.2 (h.imp fun {a c} hac => fun e => hac (by omega))

theorem withL_nil (k : Int) : withL [] k = [] := rfl

theorem withL_snoc (C : List (List Int)) (c : List Int) (k : Int) : withL (C ++ [c]) k = withL C k ++ (if k ∈ c then [(C.length : Int)] else []) := by
  unfold withL
  rw [List.length_append, List.length_singleton, List.range_succ, List.filter_append, List.map_append]
  congr 1
  · congr 1
    refine List.filter_congr fun i hi => ?_
    rw [List.mem_range] at hi
    rw [List.getD_eq_getElem?_getD, List.getD_eq_getElem?_getD, List.getElem?_append_left hi]
  · have : (C ++ [c]).getD C.length [] = c := by rw [List.getD_eq_getElem?_getD]; simp
    by_cases h : k ∈ c
    · rw [List.filter_cons, this]; simp [h]
    · rw [List.filter_cons, this]; simp [h]

/-- What holds of a state, whatever of a round was done. -/
structure PB (n : Nat) (C : List (List Int)) (A O K : List Int) (d : Nat) : Prop where
  nod : ∀ c ∈ C, c.Nodup
  cok : ClsOk n C
  olen : O.length = C.length
  sound : ∀ a ∈ K, Der C A a
  asm : ∀ a ∈ A, a ∈ K
  kok : ∀ a ∈ K, LitOk n a
  cons : ∀ a ∈ K, -a ∉ K
  knod : K.Nodup
  handled : ∀ (i : Nat) c o, C[i]? = some c → O[i]? = some o → o ≤ 1 → ∃ l ∈ c, l ∈ K
  le : d ≤ K.length

/-- At the head of a round. -/
structure PI (n : Nat) (C : List (List Int)) (A O K : List Int) (d : Nat) : Prop extends PB n C A O K d where
  cnt : ∀ (i : Nat) c, C[i]? = some c → O[i]? = some (cntO c (K.take d))

/-- Within a round, behind m clauses. -/
structure PJ (n : Nat) (C : List (List Int)) (A O K : List Int) (d : Nat) (a : Int) (m : Nat) : Prop extends PB n C A O K d where
  cur : K[d]? = some a
  cnt : ∀ (i : Nat) c, C[i]? = some c → O[i]? = some (cntO c (K.take d) - if (i : Int) ∈ (withL C (-a)).take m then 1 else 0)

theorem pj_start {n : Nat} {C : List (List Int)} {A O K : List Int} {d : Nat} {a : Int} (h : PI n C A O K d) (ha : K[d]? = some a) : PJ n C A O K d a 0 :=
  { toPB := h.toPB, cur := ha, cnt := fun i c hc => by rw [h.cnt i c hc]; simp }

theorem pj_end {n : Nat} {C : List (List Int)} {A O K : List Int} {d : Nat} {a : Int} {m : Nat} (h : PJ n C A O K d a m) (hm : (withL C (-a)).length ≤ m) : PI n C A O K (d + 1) := by
  obtain ⟨hd, ha⟩ := List.getElem?_eq_some_iff.1 h.cur
  have hnd : a ∉ K.take d := fun hin => by
    obtain ⟨j, hj, he⟩ := List.mem_iff_getElem.1 hin
    simp at hj
    rw [List.getElem_take] at he
    exact (List.pairwise_iff_getElem.1 h.knod) j d (by omega) hd (by omega) (by rw [he, ha])
  refine { toPB := { h.toPB with le := hd }, cnt := fun i c hc => ?_ }
  rw [h.cnt i c hc, List.take_of_length_le hm, List.take_add_one, h.cur]
  congr 1
  simp only [Option.toList_some]
  by_cases hin : -a ∈ c
  · rw [if_pos (mem_withL.2 ⟨i, c, rfl, hc, hin⟩), cntO_hit (h.nod c (List.mem_of_getElem? hc)) hin hnd]
  · rw [if_neg (fun hw => by
      obtain ⟨j, c', hj, hc', hk⟩ := mem_withL.1 hw
      have : j = i := by omega
      rw [this, hc] at hc'
      injection hc' with hc'
      exact hin (by rw [hc']; exact hk)), cntO_other hin]
    omega

/-- What a clause's turn finds: its index, and how many of its literals are open then. -/
theorem pj_turn {n : Nat} {C : List (List Int)} {A O K : List Int} {d : Nat} {a : Int} {m : Nat} (h : PJ n C A O K d a m) {i : Int} (hi : (withL C (-a))[m]? = some i) :
    ∃ (j : Nat) (c : List Int) (o : Int), i = j ∧ C[j]? = some c ∧ O[j]? = some o ∧ o - 1 = cntO c (K.take (d + 1)) ∧ -a ∈ c ∧ ∀ k c', k ≠ j → C[k]? = some c' → (O.set j (o - 1))[k]? = some (cntO c' (K.take d) - if (k : Int) ∈ (withL C (-a)).take (m + 1) then 1 else 0) := by
  obtain ⟨hm, hie⟩ := List.getElem?_eq_some_iff.1 hi
  obtain ⟨j, c, hij, hc, hin⟩ := mem_withL.1 (List.mem_of_getElem? hi)
  have hni : (j : Int) ∉ (withL C (-a)).take m := fun hin => by
    obtain ⟨x, hx, he⟩ := List.mem_iff_getElem.1 hin
    simp at hx
    rw [List.getElem_take] at he
    exact (List.pairwise_iff_getElem.1 (withL_nodup C (-a))) x m (by omega) hm (by omega) (by rw [he, hie, hij])
  have hO := h.cnt j c hc
  rw [if_neg hni] at hO
  obtain ⟨hd, ha⟩ := List.getElem?_eq_some_iff.1 h.cur
  have hnd : a ∉ K.take d := fun hin => by
    obtain ⟨x, hx, he⟩ := List.mem_iff_getElem.1 hin
    simp at hx
    rw [List.getElem_take] at he
    exact (List.pairwise_iff_getElem.1 h.knod) x d (by omega) hd (by omega) (by rw [he, ha])
  refine ⟨j, c, _, hij, hc, hO, ?_, hin, fun k c' hk hc' => ?_⟩
  · rw [List.take_add_one, h.cur]
    simp only [Option.toList_some]
    rw [cntO_hit (h.nod c (List.mem_of_getElem? hc)) hin hnd]
    omega
  · rw [List.getElem?_set_ne (Ne.symm hk), h.cnt k c' hc']
    congr 2
    have e : ((k : Int) ∈ (withL C (-a)).take (m + 1)) ↔ (k : Int) ∈ (withL C (-a)).take m := by
      rw [List.take_add_one, hi]
      simp only [Option.toList_some, List.mem_append, List.mem_singleton]
      exact ⟨fun h => h.elim id fun e => (hk (by omega)).elim, Or.inl⟩
    simp [e]

theorem pj_set {n : Nat} {C : List (List Int)} {A O K : List Int} {d : Nat} {a : Int} {m : Nat} (h : PJ n C A O K d a m) {i : Int} (hi : (withL C (-a))[m]? = some i) {j : Nat} {o : Int} (hij : i = j) (ho : O[j]? = some o) :
    ∀ (k : Nat) c, C[k]? = some c → (O.set j (o - 1))[k]? = some (cntO c (K.take d) - if (k : Int) ∈ (withL C (-a)).take (m + 1) then 1 else 0) := by
  obtain ⟨j', c, o', hij', hc, ho', hcnt, hin, hoth⟩ := pj_turn h hi
  have : j' = j := by omega
  subst this
  rw [ho] at ho'
  injection ho' with ho'
  subst ho'
  intro k c' hc'
  by_cases hk : k = j'
  · subst hk
    rw [hc] at hc'
    injection hc' with hc'
    subst hc'
    have hjl : k < O.length := (List.getElem?_eq_some_iff.1 ho).1
    have hni : (k : Int) ∉ (withL C (-a)).take m := fun hin => by
      obtain ⟨hm, hie⟩ := List.getElem?_eq_some_iff.1 hi
      obtain ⟨x, hx, he⟩ := List.mem_iff_getElem.1 hin
      simp at hx
      rw [List.getElem_take] at he
      exact (List.pairwise_iff_getElem.1 (withL_nodup C (-a))) x m (by omega) hm (by omega) (by rw [he, hie, hij'])
    have h1 := h.cnt k c hc
    rw [if_neg hni, ho] at h1
    injection h1 with h1
    rw [List.getElem?_set_self hjl, if_pos (by rw [List.take_add_one, hi]; simp [hij'])]
    congr 1
    omega
  · exact hoth k c' hk hc'

/-- The clause is still open. -/
theorem pj_open {n : Nat} {C : List (List Int)} {A O K : List Int} {d : Nat} {a : Int} {m : Nat} (h : PJ n C A O K d a m) {i : Int} (hi : (withL C (-a))[m]? = some i) {j : Nat} {o : Int} (hij : i = j) (ho : O[j]? = some o) (h2 : ¬ o - 1 ≤ 1) : PJ n C A (O.set j (o - 1)) K d a (m + 1) := by
  refine { toPB := { h.toPB with olen := by rw [List.length_set]; exact h.olen, handled := fun k c x hc hx hx1 => ?_ }, cur := h.cur, cnt := pj_set h hi hij ho }
  by_cases hk : k = j
  · subst hk
    rw [List.getElem?_set_self (List.getElem?_eq_some_iff.1 ho).1] at hx
    injection hx with hx
    omega
  · rw [List.getElem?_set_ne (Ne.symm hk)] at hx
    exact h.handled k c x hc hx hx1

theorem setK_mem {K : List Int} {x : Int} (h : -x ∉ K) : x ∈ setK K x := by
  unfold setK
  rw [if_neg h]
  split
  · assumption
  · simp

theorem unit_find {K c : List Int} (h : unitR K c = true) : ∃ x ∈ c, -x ∉ K ∧ unitK K c = setK K x := by
  unfold unitR at h
  cases hf : c.find? (fun l => decide (-l ∉ K)) with
  | none =>
    rw [List.find?_eq_none] at hf
    obtain ⟨x, hx, hn⟩ := List.any_eq_true.1 h
    exact (hf x hx hn).elim
  | some x => exact ⟨x, List.mem_of_find?_eq_some hf, by simpa using List.find?_some hf, by unfold unitK; rw [hf]; rfl⟩

/-- The clause's last literal is set. -/
theorem pj_unit {n : Nat} {C : List (List Int)} {A O K : List Int} {d : Nat} {a : Int} {m : Nat} (h : PJ n C A O K d a m) {i : Int} (hi : (withL C (-a))[m]? = some i) {j : Nat} {o : Int} {c : List Int} (hij : i = j) (ho : O[j]? = some o) (hc : C[j]? = some c) (h2 : o - 1 ≤ 1) (hu : unitR K c = true) :
    PJ n C A (O.set j (o - 1)) (unitK K c) d a (m + 1) := by
  obtain ⟨x, hx, hnx, hK⟩ := unit_find hu
  obtain ⟨j', c', o', hij', hc', ho', hcnt, hin, hoth⟩ := pj_turn h hi
  have hjj : j' = j := by omega
  subst hjj
  rw [ho] at ho'
  injection ho' with ho'
  subst ho'
  rw [hc] at hc'
  injection hc' with hc'
  subst hc'
  have hcm : c ∈ C := List.mem_of_getElem? hc
  have hder : Der C A x := by
    refine .unit hcm hx fun y hy hne => h.sound _ ?_
    have := cntO_le_one (by rw [← hcnt]; exact h2) hx (fun e => hnx (List.mem_of_mem_take e)) y hy hne
    exact List.mem_of_mem_take this
  obtain ⟨hd, hae⟩ := List.getElem?_eq_some_iff.1 h.cur
  rw [hK]
  by_cases hxK : x ∈ K
  · rw [setK_pos hnx hxK]
    refine { toPB := { h.toPB with olen := by rw [List.length_set]; exact h.olen, handled := fun k c2 y hc2 hy hy1 => ?_ }, cur := h.cur, cnt := pj_set h hi hij ho }
    by_cases hk : k = j'
    · subst hk
      rw [hc] at hc2
      injection hc2 with hc2
      subst hc2
      exact ⟨x, hx, hxK⟩
    · rw [List.getElem?_set_ne (Ne.symm hk)] at hy
      exact h.handled k c2 y hc2 hy hy1
  · rw [setK_new hnx hxK]
    have hx0 := h.cok c hcm x hx
    refine { toPB := ⟨h.nod, h.cok, by rw [List.length_set]; exact h.olen, fun y hy => ?_, fun y hy => List.mem_append_left _ (h.asm y hy), fun y hy => ?_, fun y hy => ?_, ?_, fun k c2 y hc2 hy hy1 => ?_, by rw [List.length_append]; omega⟩, cur := by rw [List.getElem?_append_left hd]; exact h.cur, cnt := ?_ }
    · rcases List.mem_append.1 hy with hy | hy
      · exact h.sound y hy
      · simp at hy; rw [hy]; exact hder
    · rcases List.mem_append.1 hy with hy | hy
      · exact h.kok y hy
      · simp at hy; rw [hy]; exact hx0
    · rw [List.mem_append, not_or]
      rcases List.mem_append.1 hy with hy | hy
      · refine ⟨h.cons y hy, fun e => ?_⟩
        simp at e
        exact hnx (by rw [← e, Int.neg_neg]; exact hy)
      · simp at hy
        subst hy
        refine ⟨hnx, fun e => ?_⟩
        simp at e
        have := hx0.1
        omega
    · exact List.nodup_append.2 ⟨h.knod, by simp, fun y hy z hz e => by simp at hz; exact hxK (by rw [← hz, ← e]; exact hy)⟩
    · by_cases hk : k = j'
      · subst hk
        rw [hc] at hc2
        injection hc2 with hc2
        subst hc2
        exact ⟨x, hx, by simp⟩
      · rw [List.getElem?_set_ne (Ne.symm hk)] at hy
        obtain ⟨l, hl, hlK⟩ := h.handled k c2 y hc2 hy hy1
        exact ⟨l, hl, List.mem_append_left _ hlK⟩
    · intro k c2 hc2
      rw [List.take_append_of_le_length (by omega)]
      exact pj_set h hi hij ho k c2 hc2

/-- The clause is false: it fails. -/
theorem pj_bad {n : Nat} {C : List (List Int)} {A O K : List Int} {d : Nat} {a : Int} {m : Nat} (h : PJ n C A O K d a m) {j : Nat} {c : List Int} (hc : C[j]? = some c) (hu : unitR K c = false) : Bad C A := by
  refine .inr ⟨c, List.mem_of_getElem? hc, fun l hl => h.sound _ ?_⟩
  unfold unitR at hu
  have := List.any_eq_false.1 hu l hl
  simpa using this

/-- All was looked at: it is closed. -/
theorem pi_closed {n : Nat} {C : List (List Int)} {A O K : List Int} {d : Nat} (h : PI n C A O K d) (hd : K.length ≤ d) : Closed C A K := by
  have hcnt : ∀ c ∈ C, ∃ i : Nat, C[i]? = some c ∧ O[i]? = some (cntO c K) := fun c hc => by
    obtain ⟨i, hi⟩ := List.mem_iff_getElem?.1 hc
    have := h.cnt i c hi
    rw [List.take_of_length_le hd] at this
    exact ⟨i, hi, this⟩
  refine ⟨h.sound, h.asm, h.cons, fun c hc l hl hm => ?_, fun c hc => ?_⟩
  · obtain ⟨i, hi, ho⟩ := hcnt c hc
    by_cases h1 : cntO c K ≤ 1
    · obtain ⟨x, hx, hxK⟩ := h.handled i c _ hi ho h1
      by_cases e : x = l
      · rw [← e]; exact hxK
      · exact (h.cons x hxK (hm x hx e)).elim
    · obtain ⟨x, hx, hne, hnx⟩ := cntO_two (c := c) (D := K) (by omega) (h.nod c hc) l
      exact (hnx (hm x hx hne)).elim
  · obtain ⟨i, hi, ho⟩ := hcnt c hc
    by_cases h1 : cntO c K ≤ 1
    · obtain ⟨x, hx, hxK⟩ := h.handled i c _ hi ho h1
      exact ⟨x, hx, h.cons x hxK⟩
    · obtain ⟨x, hx, -, hnx⟩ := cntO_two (c := c) (D := K) (by omega) (h.nod c hc) 0
      exact ⟨x, hx, hnx⟩

/-- Numbers below a bound, each once, are at most so many. -/
theorem nodup_below : ∀ (n : Nat) (l : List Nat), l.Nodup → (∀ x ∈ l, x < n) → l.length ≤ n
  | 0, l, _, h => by
    cases l with
    | nil => exact Nat.le_refl _
    | cons x l => have := h x (by simp); omega
  | n + 1, l, hn, h => by
    have h1 : (l.filter fun x => decide (x ≠ n)).length ≤ n := nodup_below n _ (List.filter_sublist.nodup hn) fun x hx => by
      obtain ⟨hx1, hx2⟩ := List.mem_filter.1 hx
      have := h x hx1
      simp at hx2
      omega
    have h2 : l.length ≤ (l.filter fun x => decide (x ≠ n)).length + 1 := by
      clear h h1
      induction l with
      | nil => simp
      | cons x l ih =>
        rw [List.nodup_cons] at hn
        have := ih hn.2
        by_cases hx : x = n
        · subst hx
          rw [List.filter_cons]
          simp only [ne_eq, not_true_eq_false, decide_false, Bool.false_eq_true, if_false, List.length_cons]
          have e : l.filter (fun y => decide (y ≠ x)) = l := List.filter_eq_self.2 fun y hy => by simp; exact fun e => hn.1 (by rw [← e]; exact hy)
          simp only [ne_eq] at e
          rw [e]
          omega
        · rw [List.filter_cons]
          simp only [ne_eq, hx, not_false_eq_true, decide_true, if_true, List.length_cons]
          simp only [ne_eq] at this
          omega
    omega

theorem lits_le {n : Nat} {K : List Int} (hn : K.Nodup) (hc : ∀ a ∈ K, -a ∉ K) (hk : ∀ a ∈ K, LitOk n a) : K.length ≤ n := by
  have h1 : (K.map fun a => a.natAbs - 1).Nodup := by
    rw [List.Nodup, List.pairwise_map]
    refine List.Pairwise.imp_of_mem (fun {a c} ha hc' hac => ?_) hn
    have h1 := hk a ha
    have h2 := hk c hc'
    unfold LitOk at h1 h2
    intro e
    rcases (by omega : a = c ∨ a = -c) with e2 | e2
    · exact hac e2
    · exact hc c hc' (by rw [← e2]; exact ha)
  have := nodup_below n _ h1 fun x hx => by
    obtain ⟨a, ha, rfl⟩ := List.mem_map.1 hx
    have := hk a ha
    unfold LitOk at this
    omega
  simpa using this

end Go.Proofs.Ytacmfiikdbekbaa.Ord

/- Plain definitions and lemmas about literals and clauses: no program in sight. -/
namespace Go.Proofs.Ytacmfiikdbekbaa
open Go.RowKit

theorem take_any_succ {α : Type} {p : α → Bool} {xs : List α} {k : Nat} {x : α} (h : xs[k]? = some x) (ha : (xs.take k).any p = false) (hp : p x = false) :
    (xs.take (k + 1)).any p = false := by
  rw [List.take_add_one, h]
  simp only [List.any_append, ha, Bool.false_or]
  simp [hp]

theorem any_of_get {α : Type} {p : α → Bool} {xs : List α} {k : Nat} {x : α} (h : xs[k]? = some x) (hp : p x = true) : xs.any p = true :=
  List.any_eq_true.2 ⟨x, List.mem_of_getElem? h, hp⟩

theorem take_all_false {α : Type} {p : α → Bool} {xs : List α} {k : Nat} (hk : ¬ k < xs.length) (ha : (xs.take k).any p = false) : xs.any p = false := by
  rwa [List.take_of_length_le (by omega)] at ha

/-- lit.Less. -/
def lessB (a b : Int) : Bool := decide (a.natAbs < b.natAbs) || (a.natAbs == b.natAbs && decide (b < a))

/-- A number is no literal of n variables. -/
def badLit (n a : Int) : Bool := a == 0 || decide (n < a.natAbs)

/-- lit.Check: the error of a clause. -/
def litCheck (n : Int) (c : List Int) : Int :=
  if n < 0 ∨ 1048576 < n then 3 else if 4096 < c.length then 5 else if c.any (badLit n) then 3 else 0

theorem litCheck_range {n : Int} {c : List Int} (h : n < 0 ∨ 1048576 < n) : litCheck n c = 3 := by simp [litCheck, h]
theorem litCheck_long {n : Int} {c : List Int} (h : 0 ≤ n ∧ n ≤ 1048576) (hl : (4096 : Int) < c.length) : litCheck n c = 5 := by
  unfold litCheck; rw [if_neg (by omega), if_pos (by omega)]
theorem litCheck_bad {n : Int} {c : List Int} (h : 0 ≤ n ∧ n ≤ 1048576) (hl : (c.length : Int) ≤ 4096) (hb : c.any (badLit n) = true) : litCheck n c = 3 := by
  unfold litCheck; rw [if_neg (by omega), if_neg (by omega), if_pos hb]
theorem litCheck_ok {n : Int} {c : List Int} (h : 0 ≤ n ∧ n ≤ 1048576) (hl : (c.length : Int) ≤ 4096) (hb : c.any (badLit n) = false) : litCheck n c = 0 := by
  unfold litCheck; rw [if_neg (by omega), if_neg (by omega), if_neg (by simp [hb])]

/-- The literal a holds in the model m. -/
def litHolds (m : List Bool) (a : Int) : Bool := decide (0 < a.natAbs) && m[a.natAbs - 1]? == some (decide (0 < a))

theorem litHolds_zero {m : List Bool} {a : Int} (h : a = 0) : litHolds m a = false := by simp [litHolds, h]
theorem litHolds_out {m : List Bool} {a : Int} (h : m.length < a.natAbs) : litHolds m a = false := by
  have : m[a.natAbs - 1]? = none := by simp; omega
  simp [litHolds, this]
theorem litHolds_in {m : List Bool} {a : Int} {x : Bool} (h : 0 < a.natAbs) (hx : m[a.natAbs - 1]? = some x) : litHolds m a = (x == decide (0 < a)) := by
  have ha : a ≠ 0 := by omega
  simp [litHolds, hx, ha]

/-- lit.Holds. -/
def holdsB (m : List Bool) (c : List Int) : Bool := c.any (litHolds m)

/-- lit.sorted's merge: two ascending lists into one, equal elements once. -/
def mrg : List Int → List Int → List Int
  | [], bs => bs
  | a :: as1, [] => a :: as1
  | a :: as1, b :: bs =>
    if lessB a b then a :: mrg as1 (b :: bs) else if lessB b a then b :: mrg (a :: as1) bs else mrg as1 (b :: bs)
termination_by as1 bs => as1.length + bs.length

/-- lit.sorted, with so many levels of recursion. -/
def msort : Nat → List Int → List Int
  | 0, xs => xs
  | n + 1, xs => if xs.length < 2 then xs else mrg (msort n (xs.take (xs.length / 2))) (msort n (xs.drop (xs.length / 2)))

theorem mrg_nil_left (bs : List Int) : mrg [] bs = bs := by rw [mrg.eq_def]
theorem mrg_nil_right (as1 : List Int) : mrg as1 [] = as1 := by rw [mrg.eq_def]; cases as1 <;> rfl
theorem mrg_cons (a b : Int) (as1 bs : List Int) : mrg (a :: as1) (b :: bs) =
    if lessB a b then a :: mrg as1 (b :: bs) else if lessB b a then b :: mrg (a :: as1) bs else mrg as1 (b :: bs) := by rw [mrg.eq_def]

theorem mem_mrg {x : Int} : ∀ (as1 bs : List Int), x ∈ mrg as1 bs → x ∈ as1 ∨ x ∈ bs := by
  intro as1 bs
  induction as1, bs using mrg.induct with
  | case1 bs => rw [mrg_nil_left]; exact Or.inr
  | case2 a as1 => rw [mrg_nil_right]; exact Or.inl
  | case3 a as1 b bs h ih =>
    rw [mrg_cons, if_pos h]
    intro hx
    rcases List.mem_cons.1 hx with h | h
    · simp [h]
    · rcases ih h with h | h <;> simp_all
  | case4 a as1 b bs h h2 ih =>
    rw [mrg_cons, if_neg h, if_pos h2]
    intro hx
    rcases List.mem_cons.1 hx with h | h
    · simp [h]
    · rcases ih h with h | h <;> simp_all
  | case5 a as1 b bs h h2 ih =>
    rw [mrg_cons, if_neg h, if_neg h2]
    intro hx
    rcases ih hx with h | h <;> simp_all

theorem mem_msort {x : Int} : ∀ (n : Nat) (xs : List Int), x ∈ msort n xs → x ∈ xs := by
  intro n
  induction n with
  | zero => intro xs h; exact h
  | succ n ih =>
    intro xs h
    rw [msort] at h
    split at h
    · exact h
    · rcases mem_mrg _ _ h with h | h
      · exact List.mem_of_mem_take (ih _ h)
      · exact List.mem_of_mem_drop (ih _ h)

theorem mrg_length : ∀ (as1 bs : List Int), (mrg as1 bs).length ≤ as1.length + bs.length := by
  intro as1 bs
  induction as1, bs using mrg.induct with
  | case1 bs => rw [mrg_nil_left]; simp
  | case2 a as1 => rw [mrg_nil_right]; simp
  | case3 a as1 b bs h ih => rw [mrg_cons, if_pos h]; simp at *; omega
  | case4 a as1 b bs h h2 ih => rw [mrg_cons, if_neg h, if_pos h2]; simp at *; omega
  | case5 a as1 b bs h h2 ih => rw [mrg_cons, if_neg h, if_neg h2]; simp at *; omega

theorem msort_length : ∀ (n : Nat) (xs : List Int), (msort n xs).length ≤ xs.length := by
  intro n
  induction n with
  | zero => intro xs; exact Nat.le_refl _
  | succ n ih =>
    intro xs
    rw [msort]
    split
    · exact Nat.le_refl _
    · have h1 := mrg_length (msort n (xs.take (xs.length / 2))) (msort n (xs.drop (xs.length / 2)))
      have h2 := ih (xs.take (xs.length / 2))
      have h3 := ih (xs.drop (xs.length / 2))
      simp at h2 h3
      omega

end Go.Proofs.Ytacmfiikdbekbaa

/- Laws for appends to slices of the call's own, whatever the source (nil or not), inside and outside regions whose order is open; for x[1:]; elements of one cell. -/
namespace Go.Proofs.Ytacmfiikdbekbaa
open Go.RowKit

theorem SlV.cells {w : World} {ad : Addr} {vs : List Value} (h : SlV w (some ad) vs) : ∀ j u, vs[j]? = some u → w.cell? (ad.add j) = some u := by
  intro j u hj
  obtain ⟨b, off, he, hc⟩ := h j u hj
  simp at he
  subst he
  unfold Addr.add
  split
  · rename_i h0; subst h0; simpa using hc
  · simpa using hc

theorem run_append_sl {P : Program} (w : World) (base : Nat) (t ty e : TypeId) (i : TypeInfo) (z : Value) (bytes : Nat) (ht : P.underlying t = some (.slice e)) (hi : P.info? e = some i) (hz : i.zero = some z)
    (hsize : i.size = 1) (hby : i.bytes = bytes) (hzs : z.cells.size = 1)
    (v : Value) (n : Nat) (xs : List Value) (hown : w.ownsRow base e 1 v n xs)
    (a : Option Addr) (m c : Nat) (news : List Value) (hs : SlV w a news) (hm : m = news.length) (hc : a = none → c = 0) (h1 : ∀ u ∈ news, u.oneCell' = true)
    (h63 : n + m ≤ maxLen) (hbytes : (n + m) * bytes ≤ 140737488355328) (hbase : base ≤ w.heap.size) :
    ∃ v' w', (Builtin.append_ #[t, t] ty #[v, .slice a m c]).run P w = .ok v' w' ∧ w'.ownsRow base e 1 v' (n + m) (xs ++ news) ∧ w.grownBy w' v.ownBlock := by
  cases a with
  | some ad =>
    obtain ⟨v', w', hr, h2, h3, -⟩ := run_append_own (P := P) w base t ty e i z 1 bytes ht hi hz hsize hby hzs (by decide) v n xs hown ad m c news (by omega) hs.cells h1 h63 hbytes hbase
    exact ⟨v', w', hr, h2, h3⟩
  | none =>
    have hn : news = [] := by
      cases news with
      | nil => rfl
      | cons u us => obtain ⟨b, off, he, -⟩ := hs 0 u rfl; cases he
    subst hn
    have hm0 : m = 0 := hm
    subst hm0
    rw [hc rfl]
    exact ⟨v, w, run_append_owned_none (P := P) (w := w) base t ty e i 1 ht hi v n xs hown, by simpa using hown, ⟨rfl, rfl, rfl, Nat.le_refl _, fun _ _ _ => rfl⟩⟩

/-- append, outside a region whose order is open. -/
theorem wpList_append_sl {P : Program} (w : World) {ops : Array Oper} {rest : List Oper} {o : Oper} {a : Act} {Q : Exit → Act → World → Prop} (hgd : o.guard = none) (s x : Operand) (t : TypeId)
    (ho : o.op = .call { callee := .builtin .append, args := #[s, x], argTypes := #[t, t] })
    (base : Nat) (e : TypeId) (i : TypeInfo) (z : Value) (bytes : Nat) (ht : P.underlying t = some (.slice e)) (hi : P.info? e = some i) (hz : i.zero = some z)
    (hsize : i.size = 1) (hby : i.bytes = bytes) (hzs : z.cells.size = 1)
    (v : Value) (n : Nat) (xs : List Value) (hs : a.eval s = v) (hown : w.ownsRow base e 1 v n xs)
    (ad : Option Addr) (m c : Nat) (news : List Value) (hx : a.eval x = .slice ad m c) (hsl : SlV w ad news) (hm : m = news.length) (hc : ad = none → c = 0) (h1 : ∀ u ∈ news, u.oneCell' = true)
    (h63 : n + m ≤ maxLen) (hbytes : (n + m) * bytes ≤ 140737488355328) (hbase : base ≤ w.heap.size)
    (h : ∀ v' w', w'.ownsRow base e 1 v' (n + m) (xs ++ news) → w.grownBy w' v.ownBlock → wpList P ops Q rest (a.put o.dst v') w') : wpList P ops Q (o :: rest) a w :=
  wpList_plain hgd fun K hK => by
    obtain ⟨v', w', hr, h2, h3⟩ := run_append_sl (P := P) w base t o.type e i z bytes ht hi hz hsize hby hzs v n xs hown ad m c news hsl hm hc h1 h63 hbytes hbase
    unfold Oper.wp execOp
    simp only [ho, resolve, invoke, builtin, Sem.run_bind, Sem.run_pure, Result.andThen_ok, List.map_toArray, List.map_cons, List.map_nil, hs, hx, hr]
    exact hK _ _ (h v' w' h2 h3)

/-- append, as one step of a region whose order is open. -/
theorem step_append_sl {P : Program} {w : World} {ops : Array Oper} {o : Oper} {a : Act} {K : Act → World → Prop} {Q : Exit → Act → World → Prop} {E : Prop} (hgd : o.guard = none) (s x : Operand) (t : TypeId)
    (ho : o.op = .call { callee := .builtin .append, args := #[s, x], argTypes := #[t, t] })
    (base : Nat) (e : TypeId) (i : TypeInfo) (z : Value) (bytes : Nat) (ht : P.underlying t = some (.slice e)) (hi : P.info? e = some i) (hz : i.zero = some z)
    (hsize : i.size = 1) (hby : i.bytes = bytes) (hzs : z.cells.size = 1)
    (v : Value) (n : Nat) (xs : List Value) (hs : a.eval s = v) (hown : w.ownsRow base e 1 v n xs)
    (ad : Option Addr) (m c : Nat) (news : List Value) (hx : a.eval x = .slice ad m c) (hsl : SlV w ad news) (hm : m = news.length) (hc : ad = none → c = 0) (h1 : ∀ u ∈ news, u.oneCell' = true)
    (h63 : n + m ≤ maxLen) (hbytes : (n + m) * bytes ≤ 140737488355328) (hbase : base ≤ w.heap.size)
    (h : ∀ v' w', w'.ownsRow base e 1 v' (n + m) (xs ++ news) → w.grownBy w' v.ownBlock → K (a.put o.dst v') w') :
    if Region.wanted o (yielded ops a.tmps) = true then Oper.wp P o a w K Q else E := by
  have hw : Region.wanted o (yielded ops a.tmps) = true := by simp [Region.wanted, hgd]
  rw [if_pos hw]
  obtain ⟨v', w', hr, h2, h3⟩ := run_append_sl (P := P) w base t o.type e i z bytes ht hi hz hsize hby hzs v n xs hown ad m c news hsl hm hc h1 h63 hbytes hbase
  unfold Oper.wp execOp
  simp only [ho, resolve, invoke, builtin, Sem.run_bind, Sem.run_pure, Result.andThen_ok, List.map_toArray, List.map_cons, List.map_nil, hs, hx, hr]
  exact h v' w' h2 h3

/-- x[1:] of a slice that is not empty: what the walk is told of it. -/
theorem tail_run {P : Program} {t e : TypeId} {w : World} {b off n c : Nat} {v : Value} {vs : List Value} (ht : P.underlying t = some (.slice e)) (hsz : ∀ wx, (sizeOf e).run P wx = .ok 1 wx)
    (hs : SlV w (some ⟨b, off, none⟩) (v :: vs)) (hn : n = (v :: vs).length) (hc : n ≤ c) :
    ∃ A, (∀ wx, (Instr.slice t (.slice (some ⟨b, off, none⟩) n c) (some (.int .i64 1)) none none).run P wx = .ok (.slice (some A) vs.length (c - 1)) wx) ∧ SlV w (some A) vs := by
  have he : P.elem t = e := by simp [Program.elem, ht]
  simp only [List.length_cons] at hn
  by_cases h1 : c = 1
  · have : vs = [] := List.eq_nil_of_length_eq_zero (by omega)
    subst this
    refine ⟨⟨b, off, none⟩, fun wx => ?_, SlV.nil _ _⟩
    rw [run_slice_l (P := P) wx t _ n c (by rw [he]; exact ht) .i64 1 (by omega) (by omega), he, hsz]
    simp [sliced, Result.andThen, h1, hn]
  · refine ⟨⟨b, off + 1, none⟩, fun wx => ?_, fun j u hj => ?_⟩
    · rw [run_slice_l (P := P) wx t _ n c (by rw [he]; exact ht) .i64 1 (by omega) (by omega), he, hsz]
      simp [sliced, Result.andThen, h1, hn, Addr.add]
    · obtain ⟨b', off', he, hcell⟩ := hs (j + 1) u (by simpa using hj)
      simp at he
      obtain ⟨rfl, rfl⟩ := he
      exact ⟨b, off + 1, rfl, by rw [Nat.add_assoc, Nat.add_comm 1 j]; exact hcell⟩

theorem slv_one {w : World} {b : Nat} {u : Value} (h : w.cell? ⟨b, 0, none⟩ = some u) : SlV w (some ⟨b, 0, none⟩) [u] := by
  intro j v hj
  match j, hj with
  | 0, hj => simp at hj; subst hj; exact ⟨b, 0, rfl, h⟩

theorem one_int {x : Int} : ∀ u ∈ [Value.int .i64 x], u.oneCell' = true := by
  intro u hu; simp at hu; subst hu; rfl

/-- A new block behind draws reads as its one value. -/
theorem slv_new_dr (w : World) (n : Nat) (u : Value) (e : TypeId) (m : Nat × Nat) : SlV ((w.drewN n).alloc (.cells #[u] e m)) (some ⟨w.heap.size, 0, none⟩) [u] := by
  refine slv_one ?_
  have h : ((w.drewN n).alloc (.cells #[u] e m)).heap[w.heap.size]? = some (.cells #[u] e m) := heap_alloc_new (w.drewN n) _
  rw [cell_of_row _ _ _ _ _ _ h]
  simp

/-- The length in a slot that holds a slice. -/
def lenOfV : Value → Nat | .slice _ n _ => n | _ => 0

theorem ints_one {xs : List Int} : ∀ u ∈ ints xs, u.oneCell' = true := by
  intro u hu
  simp [ints] at hu
  obtain ⟨x, -, rfl⟩ := hu
  rfl

/-- The slice value 'v' reads as the ints 'xs', whose cells lie in a block of the call's own (from B on). -/
def OwnT (e : TypeId) (w : World) (B : Nat) (v : Value) (xs : List Int) : Prop :=
  ∃ a c, v = .slice a xs.length c ∧ xs.length ≤ c ∧ (a = none → c = 0) ∧
    ∀ ad, a = some ad → ∃ g off cur, ad = ⟨g, off, none⟩ ∧ B ≤ g ∧ w.heap[g]? = some (.cells cur e (0, 0)) ∧ ∀ j x, xs[j]? = some x → cur[off + j]? = some (.int .i64 x)

theorem ownT_of_own {w : World} {B e n : Nat} {v : Value} {xs : List Int} (h : w.ownsRow B e 1 v n (ints xs)) : OwnT e w B v xs := by
  have hn : n = xs.length := by have := h.1; simp at this; omega
  rcases h.2 with ⟨rfl, h0⟩ | ⟨g, cap, cur, rfl, hB, hg, hle, _, _, ht⟩
  · subst h0
    have : xs = [] := List.eq_nil_of_length_eq_zero (by omega)
    subst this
    exact ⟨none, 0, rfl, Nat.le_refl _, fun _ => rfl, nofun⟩
  · refine ⟨some ⟨g, 0, none⟩, cap, by rw [hn], by omega, nofun, fun ad had => ⟨g, 0, cur, (Option.some.inj had).symm, hB, hg, fun j x hj => ?_⟩⟩
    have h1 : (ints xs)[j]? = some (.int .i64 x) := by simp [ints, hj]
    rw [← ht, List.getElem?_take] at h1
    split at h1
    · simpa using h1
    · cases h1

theorem OwnT.sli {e : TypeId} {w : World} {B : Nat} {v : Value} {xs : List Int} (h : OwnT e w B v xs) : SlI w v xs := by
  obtain ⟨a, c, h1, h2, h3, h4⟩ := h
  refine ⟨a, c, h1, h2, h3, fun j u hj => ?_⟩
  cases a with
  | none =>
    have := h3 rfl
    have h0 : xs = [] := List.eq_nil_of_length_eq_zero (by omega)
    subst h0
    simp [ints] at hj
  | some ad =>
    obtain ⟨g, off, cur, rfl, -, hg, hc⟩ := h4 ad rfl
    simp only [ints, List.getElem?_map, Option.map_eq_some_iff] at hj
    obtain ⟨x, hx, rfl⟩ := hj
    exact ⟨g, off, rfl, by rw [cell_of_row _ _ _ _ _ _ hg]; exact hc j x hx⟩

theorem OwnT.below {e : TypeId} {w w' : World} {B : Nat} {v : Value} {xs : List Int} (h : OwnT e w B v xs) (hb : Below w.heap.size w w') : OwnT e w' B v xs := by
  obtain ⟨a, c, h1, h2, h3, h4⟩ := h
  refine ⟨a, c, h1, h2, h3, fun ad had => ?_⟩
  obtain ⟨g, off, cur, e1, e2, e3, e4⟩ := h4 ad had
  exact ⟨g, off, cur, e1, e2, by rw [hb.block g (Array.getElem?_eq_some_iff.1 e3).1]; exact e3, e4⟩

theorem OwnT.base {e : TypeId} {w : World} {B B' : Nat} {v : Value} {xs : List Int} (h : OwnT e w B v xs) (hB : B' ≤ B) : OwnT e w B' v xs := by
  obtain ⟨a, c, h1, h2, h3, h4⟩ := h
  refine ⟨a, c, h1, h2, h3, fun ad had => ?_⟩
  obtain ⟨g, off, cur, e1, e2, e3⟩ := h4 ad had
  exact ⟨g, off, cur, e1, by omega, e3⟩

/-- x[1:] of a slice of ints of the call's own that is not empty. -/
theorem ownT_tail {P : Program} {t e : TypeId} {w : World} {B n c : Nat} {a : Option Addr} {x : Int} {xs : List Int} (ht : P.underlying t = some (.slice e)) (hsz : ∀ wx, (sizeOf e).run P wx = .ok 1 wx)
    (h : OwnT e w B (.slice a n c) (x :: xs)) :
    ∃ A, (∀ wx, (Instr.slice t (.slice a n c) (some (.int .i64 1)) none none).run P wx = .ok (.slice (some A) xs.length (c - 1)) wx) ∧ OwnT e w B (.slice (some A) xs.length (c - 1)) xs := by
  have he : P.elem t = e := by simp [Program.elem, ht]
  obtain ⟨a', c', h1, h2, h3, h4⟩ := h
  simp only [Value.slice.injEq] at h1
  obtain ⟨rfl, rfl, rfl⟩ := h1
  simp only [List.length_cons] at h2 ⊢
  cases a with
  | none => have := h3 rfl; omega
  | some ad =>
    obtain ⟨g, off, cur, rfl, hB, hg, hc⟩ := h4 ad rfl
    by_cases h1 : c = 1
    · have : xs = [] := List.eq_nil_of_length_eq_zero (by omega)
      subst this
      refine ⟨⟨g, off, none⟩, fun wx => ?_, _, _, rfl, by simp, nofun, fun ad had => ⟨g, off, cur, (Option.some.inj had).symm, hB, hg, by simp⟩⟩
      rw [run_slice_l (P := P) wx t _ _ c (by rw [he]; exact ht) .i64 1 (by omega) (by simp), he, hsz]
      simp [sliced, Result.andThen, h1]
    · refine ⟨⟨g, off + 1, none⟩, fun wx => ?_, _, _, rfl, by omega, nofun, fun ad had => ⟨g, off + 1, cur, (Option.some.inj had).symm, hB, hg, fun j y hj => ?_⟩⟩
      · rw [run_slice_l (P := P) wx t _ _ c (by rw [he]; exact ht) .i64 1 (by omega) (by omega), he, hsz]
        simp [sliced, Result.andThen, h1, Addr.add]
      · have := hc (j + 1) y (by simpa using hj)
        rw [Nat.add_assoc, Nat.add_comm 1 j]; exact this

end Go.Proofs.Ytacmfiikdbekbaa

/- Plain facts about lit.Norm's literals, used by its walk. -/
namespace Go.Proofs.Ytacmfiikdbekbaa
open Go.RowKit

/-- What lit.Norm has after the sort: without a leading 0. -/
def normL (xs : List Int) : List Int := if (msort xs.length xs).head? = some 0 then (msort xs.length xs).tail else msort xs.length xs

/-- The elements i-1 and i are a literal and its negative. -/
def adjAt (l : List Int) (i : Nat) : Bool := decide (1 ≤ i) && ((l.getD i 0).natAbs == (l.getD (i - 1) 0).natAbs)

/-- Two neighbours are a literal and its negative. -/
def adjB (l : List Int) : Bool := (List.range l.length).any (adjAt l)

/-- lit.Norm's literals. -/
def normV (xs : List Int) : List Int := if adjB (normL xs) then [] else normL xs

theorem range_any_succ {p : Nat → Bool} {k : Nat} (h : (List.range k).any p = false) (hp : p k = false) : (List.range (k + 1)).any p = false := by
  rw [List.range_succ, List.any_append, h]; simp [hp]

theorem range_any_of {p : Nat → Bool} {k n : Nat} (hk : k < n) (hp : p k = true) : (List.range n).any p = true :=
  List.any_eq_true.2 ⟨k, List.mem_range.2 hk, hp⟩

theorem mem_normL {x : Int} {xs : List Int} (h : x ∈ normL xs) : x ∈ xs := by
  unfold normL at h
  split at h
  · exact mem_msort xs.length xs (List.mem_of_mem_tail h)
  · exact mem_msort xs.length xs h

theorem normL_length (xs : List Int) : (normL xs).length ≤ xs.length := by
  have := msort_length xs.length xs
  unfold normL
  split
  · simp; omega
  · exact this

theorem normL_nil {xs : List Int} (h : msort xs.length xs = []) : normL xs = [] := by unfold normL; rw [h]; simp
theorem normL_zero {xs t : List Int} (h : msort xs.length xs = 0 :: t) : normL xs = t := by unfold normL; rw [h]; simp
theorem normL_cons {xs t : List Int} {x : Int} (h : msort xs.length xs = x :: t) (hx : x ≠ 0) : normL xs = x :: t := by
  unfold normL; rw [h]; simp [hx]

theorem adjAt_succ {l : List Int} {j : Nat} {x y : Int} (hx : l[j + 1]? = some x) (hy : l[j]? = some y) : adjAt l (j + 1) = (x.natAbs == y.natAbs) := by
  simp [adjAt, hx, hy]

theorem adjB_of {l : List Int} {j : Nat} {x y : Int} (hx : l[j + 1]? = some x) (hy : l[j]? = some y) (h : ((x.natAbs : Int) == y.natAbs) = true) : adjB l = true := by
  refine range_any_of (k := j + 1) (List.getElem?_eq_some_iff.1 hx).1 ?_
  rw [adjAt_succ hx hy]
  simp at h ⊢; omega

theorem adjB_not {l : List Int} {j : Nat} (hj : ¬ j + 1 < l.length) (h : (List.range (j + 1)).any (adjAt l) = false) : adjB l = false := by
  rw [adjB, List.any_eq_false] at *
  intro i hi
  exact h i (by simp at hi ⊢; omega)

theorem adj_step {l : List Int} {j : Nat} {x y : Int} (hx : l[j + 1]? = some x) (hy : l[j]? = some y) (h : ((x.natAbs : Int) == y.natAbs) = false) (hr : (List.range (j + 1)).any (adjAt l) = false) :
    (List.range (j + 1 + 1)).any (adjAt l) = false := by
  refine range_any_succ hr ?_
  rw [adjAt_succ hx hy]
  simp at h ⊢; omega

theorem normV_true {xs : List Int} (h : adjB (normL xs) = true) : normV xs = [] := by simp [normV, h]
theorem normV_false {xs : List Int} (h : adjB (normL xs) = false) : normV xs = normL xs := by simp [normV, h]

theorem ownT_shape {e : TypeId} {w : World} {B : Nat} {v : Value} {xs : List Int} (h : OwnT e w B v xs) : ∃ a c, v = .slice a xs.length c ∧ OwnT e w B (.slice a xs.length c) xs := by
  have h' := h
  obtain ⟨a, c, h1, -⟩ := h
  exact ⟨a, c, h1, h1 ▸ h'⟩

theorem OwnT.slv {e : TypeId} {w : World} {B n c : Nat} {a : Option Addr} {xs : List Int} (h : OwnT e w B (.slice a n c) xs) : SlV w a (ints xs) := by
  obtain ⟨a', c', h1, -, -, h4⟩ := h.sli
  simp only [Value.slice.injEq] at h1
  obtain ⟨rfl, -, -⟩ := h1
  exact h4

end Go.Proofs.Ytacmfiikdbekbaa

/- Plain facts about the order of literals. -/
namespace Go.Proofs.Ytacmfiikdbekbaa
open Go.RowKit

theorem lessB_iff (a b : Int) : lessB a b = true ↔ a.natAbs < b.natAbs ∨ (a.natAbs = b.natAbs ∧ b < a) := by
  simp [lessB]

theorem lessB_irrefl (a : Int) : lessB a a = false := by
  rw [Bool.eq_false_iff, Ne, lessB_iff]; omega

theorem lessB_asymm {a b : Int} (h : lessB a b = true) : lessB b a = false := by
  rw [lessB_iff] at h
  rw [Bool.eq_false_iff, Ne, lessB_iff]; omega

theorem lessB_trans {a b c : Int} (h : lessB a b = true) (h' : lessB b c = true) : lessB a c = true := by
  rw [lessB_iff] at *; omega

theorem lessB_tri {a b : Int} (h : lessB a b = false) (h' : lessB b a = false) : a = b := by
  rw [Bool.eq_false_iff, Ne, lessB_iff] at *
  omega

end Go.Proofs.Ytacmfiikdbekbaa

/- lit.Norm's literals: each literal of the clause once, in their order. -/
namespace Go.Proofs.Ytacmfiikdbekbaa
open Go.RowKit

/-- In strictly ascending order. -/
def Asc (l : List Int) : Prop := l.Pairwise (fun a b => lessB a b = true)

theorem asc_ext : ∀ {l1 l2 : List Int}, Asc l1 → Asc l2 → (∀ x, x ∈ l1 ↔ x ∈ l2) → l1 = l2
  | [], [], _, _, _ => rfl
  | [], b :: l2, _, _, h => by have := (h b).2 (by simp); simp at this
  | a :: l1, [], _, _, h => by have := (h a).1 (by simp); simp at this
  | a :: l1, b :: l2, h1, h2, h => by
    have h1' := List.pairwise_cons.1 h1
    have h2' := List.pairwise_cons.1 h2
    have hab : a = b := by
      have ha := (h a).1 (by simp)
      have hb := (h b).2 (by simp)
      rcases List.mem_cons.1 ha with h0 | ha
      · exact h0
      · rcases List.mem_cons.1 hb with h0 | hb
        · exact h0.symm
        · have e1 := h1'.1 b hb
          have e2 := h2'.1 a ha
          rw [lessB_asymm e1] at e2; cases e2
    subst hab
    congr 1
    refine asc_ext h1'.2 h2'.2 fun x => ?_
    have hx := h x
    simp only [List.mem_cons] at hx
    constructor
    · intro hm
      rcases hx.1 (Or.inr hm) with h0 | h0
      · subst h0
        have := h1'.1 x hm
        rw [lessB_irrefl] at this; cases this
      · exact h0
    · intro hm
      rcases hx.2 (Or.inr hm) with h0 | h0
      · subst h0
        have := h2'.1 x hm
        rw [lessB_irrefl] at this; cases this
      · exact h0

theorem mem_mrg_iff {x : Int} : ∀ (l1 l2 : List Int), x ∈ mrg l1 l2 ↔ x ∈ l1 ∨ x ∈ l2 := by
  intro l1 l2
  refine ⟨mem_mrg l1 l2, ?_⟩
  induction l1, l2 using mrg.induct with
  | case1 l2 => rw [mrg_nil_left]; simp
  | case2 a l1 => rw [mrg_nil_right]; simp
  | case3 a l1 b l2 h ih => rw [mrg_cons, if_pos h]; simp only [List.mem_cons] at *; rintro ((h | h) | h) <;> simp_all
  | case4 a l1 b l2 h h2 ih => rw [mrg_cons, if_neg h, if_pos h2]; simp only [List.mem_cons] at *; rintro (h | (h | h)) <;> simp_all
  | case5 a l1 b l2 h h2 ih =>
    rw [mrg_cons, if_neg h, if_neg h2]
    have e : a = b := lessB_tri (by simpa using h) (by simpa using h2)
    subst e
    simp only [List.mem_cons] at *
    rintro ((h | h) | (h | h)) <;> simp_all

theorem asc_mrg : ∀ (l1 l2 : List Int), Asc l1 → Asc l2 → Asc (mrg l1 l2) := by
  intro l1 l2
  induction l1, l2 using mrg.induct with
  | case1 l2 => rw [mrg_nil_left]; exact fun _ h => h
  | case2 a l1 => rw [mrg_nil_right]; exact fun h _ => h
  | case3 a l1 b l2 h ih =>
    intro h1 h2
    have h1' := List.pairwise_cons.1 h1
    have h2' := List.pairwise_cons.1 h2
    rw [mrg_cons, if_pos h]
    refine List.pairwise_cons.2 ⟨fun x hx => ?_, ih h1'.2 h2⟩
    rcases (mem_mrg_iff _ _).1 hx with hx | hx
    · exact h1'.1 x hx
    · rcases List.mem_cons.1 hx with rfl | hx
      · exact h
      · exact lessB_trans h (h2'.1 x hx)
  | case4 a l1 b l2 h h2 ih =>
    intro h1 h2'
    have h1' := List.pairwise_cons.1 h1
    have h3 := List.pairwise_cons.1 h2'
    rw [mrg_cons, if_neg h, if_pos h2]
    refine List.pairwise_cons.2 ⟨fun x hx => ?_, ih h1 h3.2⟩
    rcases (mem_mrg_iff _ _).1 hx with hx | hx
    · rcases List.mem_cons.1 hx with rfl | hx
      · exact h2
      · exact lessB_trans h2 (h1'.1 x hx)
    · exact h3.1 x hx
  | case5 a l1 b l2 h h2 ih =>
    intro h1 h2'
    rw [mrg_cons, if_neg h, if_neg h2]
    exact ih (List.pairwise_cons.1 h1).2 h2'

theorem mem_msort_iff {x : Int} : ∀ (n : Nat) (xs : List Int), x ∈ msort n xs ↔ x ∈ xs := by
  intro n
  induction n with
  | zero => intro xs; exact Iff.rfl
  | succ n ih =>
    intro xs
    rw [msort]
    split
    · exact Iff.rfl
    · rw [mem_mrg_iff, ih, ih, ← List.mem_append, List.take_append_drop]

theorem asc_msort : ∀ (n : Nat) (xs : List Int), xs.length ≤ n → Asc (msort n xs) := by
  intro n
  induction n with
  | zero =>
    intro xs h
    have : xs = [] := List.eq_nil_of_length_eq_zero (by omega)
    subst this
    exact List.Pairwise.nil
  | succ n ih =>
    intro xs h
    rw [msort]
    split
    · match xs with
      | [] => exact List.Pairwise.nil
      | [x] => exact List.pairwise_singleton _ _
      | x :: y :: l => simp at *; omega
    · exact asc_mrg _ _ (ih _ (by simp; omega)) (ih _ (by simp; omega))

theorem asc_normL (xs : List Int) : Asc (normL xs) := by
  have h := asc_msort xs.length xs (Nat.le_refl _)
  unfold normL
  split
  · exact List.Pairwise.sublist (List.tail_sublist _) h
  · exact h

theorem mem_normL_iff {x : Int} {xs : List Int} : x ∈ normL xs ↔ x ∈ xs ∧ x ≠ 0 := by
  have h := asc_msort xs.length xs (Nat.le_refl _)
  have hm := fun x => @mem_msort_iff x xs.length xs
  unfold normL
  generalize msort xs.length xs = L at *
  cases L with
  | nil => simp at hm ⊢; simp [hm]
  | cons a l =>
    have hp := List.pairwise_cons.1 h
    have hnot : ∀ y ∈ l, y ≠ 0 := fun y hy e => by
      have := hp.1 y hy
      subst e
      simp [lessB] at this; omega
    by_cases ha : a = 0
    · subst ha
      simp only [List.head?_cons, List.tail_cons, if_true]
      rw [← hm, List.mem_cons]
      constructor
      · exact fun h => ⟨Or.inr h, hnot x h⟩
      · rintro ⟨h | h, hx⟩
        · exact (hx h).elim
        · exact h
    · simp only [List.head?_cons, Option.some.injEq, ha, if_false]
      rw [← hm]
      refine ⟨fun h => ⟨h, ?_⟩, fun h => h.1⟩
      rcases List.mem_cons.1 h with rfl | h
      · exact ha
      · exact hnot x h

theorem asc_get {l : List Int} (h : Asc l) {i j : Nat} {x y : Int} (hij : i < j) (hx : l[i]? = some x) (hy : l[j]? = some y) : lessB x y = true := by
  obtain ⟨hi, rfl⟩ := List.getElem?_eq_some_iff.1 hx
  obtain ⟨hj, rfl⟩ := List.getElem?_eq_some_iff.1 hy
  exact List.pairwise_iff_getElem.1 h i j hi hj hij

/-- Two neighbours are a literal and its negative exactly if some literal stands beside its negative. -/
theorem adjB_iff {l : List Int} (h : Asc l) (h0 : ∀ x ∈ l, x ≠ 0) : adjB l = true ↔ ∃ x ∈ l, -x ∈ l := by
  constructor
  · intro ha
    rw [adjB, List.any_eq_true] at ha
    obtain ⟨i, hi, hp⟩ := ha
    simp only [adjAt, Bool.and_eq_true, decide_eq_true_eq, beq_iff_eq] at hp
    have hi' : i < l.length := List.mem_range.1 hi
    have h1 : l[i]? = some l[i] := by simp [hi']
    have h2 : l[i - 1]? = some l[i - 1] := by simp
    have hl := asc_get h (show i - 1 < i by omega) h2 h1
    have e1 : l.getD i 0 = l[i] := by simp [hi']
    have e2 : l.getD (i - 1) 0 = l[i - 1] := by rw [List.getD_eq_getElem?_getD, h2]; rfl
    rw [e1, e2] at hp
    refine ⟨l[i], by simp, ?_⟩
    have : -l[i] = l[i - 1] := by
      have h3 := (lessB_iff _ _).1 hl
      omega
    rw [this]; simp
  · rintro ⟨x, hx, hnx⟩
    have hx0 := h0 x hx
    obtain ⟨i, hi, hi'⟩ := List.getElem_of_mem hx
    obtain ⟨j, hj, hj'⟩ := List.getElem_of_mem hnx
    have key : ∀ i j, (hi : i < l.length) → (hj : j < l.length) → l[i].natAbs = l[j].natAbs → i < j → j = i + 1 := by
      intro i j hi hj he hij
      rcases Nat.lt_or_ge (i + 1) j with hlt | hge
      · exfalso
        have a1 := asc_get h (show i < i + 1 by omega) (x := l[i]) (y := l[i + 1]) (by simp [hi]) (by simp)
        have a2 := asc_get h hlt (x := l[i + 1]) (y := l[j]) (by simp) (by simp [hj])
        rw [lessB_iff] at a1 a2
        omega
      · omega
    have hne : i ≠ j := by
      intro e; subst e; rw [hi'] at hj'; omega
    rcases Nat.lt_or_gt_of_ne hne with hlt | hlt
    · have := key i j hi hj (by rw [hi', hj']; omega) hlt
      subst this
      exact adjB_of (j := i) (x := -x) (y := x) (by simp [← hj', hj]) (by simp [← hi', hi]) (by simp)
    · have := key j i hj hi (by rw [hi', hj']; omega) hlt
      subst this
      exact adjB_of (j := j) (x := x) (y := -x) (by simp [← hi', hi]) (by simp [← hj', hj]) (by simp)

/-- Another clause with the same literals has the same ones. -/
theorem normL_congr {xs ys : List Int} (h : ∀ x, x ≠ 0 → (x ∈ xs ↔ x ∈ ys)) : normL xs = normL ys :=
  asc_ext (asc_normL _) (asc_normL _) fun x => by
    rw [mem_normL_iff, mem_normL_iff]
    exact ⟨fun ⟨a, b⟩ => ⟨(h x b).1 a, b⟩, fun ⟨a, b⟩ => ⟨(h x b).2 a, b⟩⟩

end Go.Proofs.Ytacmfiikdbekbaa

/- Plain facts about lit.Holds and lit.Check. -/
namespace Go.Proofs.Ytacmfiikdbekbaa
open Go.RowKit

theorem holdsB_append (m : List Bool) (c d : List Int) : holdsB m (c ++ d) = (holdsB m c || holdsB m d) := by simp [holdsB]

theorem litCheck_append {n : Int} {c d : List Int} (h : c.length + d.length ≤ 4096) : (litCheck n (c ++ d) == 0) = ((litCheck n c == 0) && (litCheck n d == 0)) := by
  unfold litCheck
  by_cases hn : n < 0 ∨ 1048576 < n
  · simp [hn]
  · have e1 : ¬ 4096 < (c ++ d).length := by simp; omega
    have e2 : ¬ 4096 < c.length := by omega
    have e3 : ¬ 4096 < d.length := by omega
    simp only [if_neg hn, if_neg e1, if_neg e2, if_neg e3, List.any_append]
    cases c.any (badLit n) <;> cases d.any (badLit n) <;> rfl

theorem litHolds_neg (m : List Bool) (y : Int) : (litHolds m y && litHolds m (-y)) = false := by
  by_cases h : y = 0
  · simp [litHolds_zero h]
  · simp only [litHolds, Int.natAbs_neg]
    rcases m[y.natAbs - 1]? with _ | b
    · simp
    · cases b <;> simp <;> omega

theorem litHolds_or (m : List Bool) (y : Int) : (litHolds m y || litHolds m (-y)) = decide (1 ≤ y.natAbs ∧ y.natAbs ≤ m.length) := by
  by_cases h : y = 0
  · simp [litHolds_zero, h]
  · simp only [litHolds, Int.natAbs_neg]
    by_cases hl : y.natAbs ≤ m.length
    · have hx : m[y.natAbs - 1]? = some m[y.natAbs - 1] := by simp
      rw [hx]
      generalize m[y.natAbs - 1] = b
      rw [decide_eq_true (⟨by omega, hl⟩ : 1 ≤ y.natAbs ∧ y.natAbs ≤ m.length)]
      have h1 : 0 < y.natAbs := by omega
      rcases Int.lt_or_gt_of_ne h with hy | hy
      · have e1 : ¬ 0 < y := by omega
        cases b <;> simp [h1, e1] <;> omega
      · have e2 : ¬ 0 < -y := by omega
        cases b <;> simp [h1, hy] <;> omega
    · have hx : m[y.natAbs - 1]? = none := by simp; omega
      rw [hx]
      simp [hl]

theorem tmod200 (x : Int) : -200 ≤ x.tmod 200 ∧ x.tmod 200 ≤ 200 := by
  have := Int.natAbs_tmod x 200
  have h2 : x.natAbs % 200 < 200 := Nat.mod_lt _ (by decide)
  have h3 : (x.tmod 200).natAbs < 200 := by rw [this]; exact h2
  omega

end Go.Proofs.Ytacmfiikdbekbaa

/- Plain definitions about formulas: what cnf.Check and cnf.First return. -/
namespace Go.Proofs.Ytacmfiikdbekbaa
open Go.RowKit

/-- weepholelaw02.Small. -/
def smallB (f : List (List Int)) : Bool := !((f.take 60).any (fun c => decide (40 < c.length))) && decide (f.length ≤ 60)

/-- cnf.Check. -/
def cnfCheck (n : Int) (f : List (List Int)) : Int :=
  if n < 0 ∨ 1048576 < n then 3 else if 1048576 < f.length then 5 else match f.find? (fun c => litCheck n c != 0) with | some c => litCheck n c | none => 0

/-- The index of the first clause that does not hold. -/
def firstIdx (m : List Bool) (f : List (List Int)) : Int := match f.findIdx? (fun c => !holdsB m c) with | some i => i | none => -1

/-- cnf.First: the index and the error. -/
def cnfFirst (n : Int) (f : List (List Int)) (m : List Bool) : Int × Int :=
  if cnfCheck n f ≠ 0 then (0, cnfCheck n f) else if (m.length : Int) ≠ n then (0, 2) else (firstIdx m f, 0)

theorem cnfCheck_range {n : Int} {f : List (List Int)} (h : n < 0 ∨ 1048576 < n) : cnfCheck n f = 3 := by simp [cnfCheck, h]
theorem cnfCheck_long {n : Int} {f : List (List Int)} (h : 0 ≤ n ∧ n ≤ 1048576) (hl : (1048576 : Int) < f.length) : cnfCheck n f = 5 := by
  unfold cnfCheck; rw [if_neg (by omega), if_pos (by omega)]
theorem cnfCheck_find {n : Int} {f : List (List Int)} (h : 0 ≤ n ∧ n ≤ 1048576) (hl : (f.length : Int) ≤ 1048576) : cnfCheck n f = match f.find? (fun c => litCheck n c != 0) with | some c => litCheck n c | none => 0 := by
  unfold cnfCheck; rw [if_neg (by omega), if_neg (by omega)]

/-- No clause before k has an error. -/
theorem find_none_take {α : Type} {p : α → Bool} {f : List α} {k : Nat} (hk : ¬ k < f.length) (h : (f.take k).any p = false) : f.find? p = none := by
  rw [List.take_of_length_le (by omega)] at h
  rw [List.find?_eq_none]
  intro x hx
  rw [List.any_eq_false] at h
  exact h x hx

theorem find_some_take {α : Type} {p : α → Bool} {f : List α} {k : Nat} {c : α} (hc : f[k]? = some c) (h : (f.take k).any p = false) (hp : p c = true) : f.find? p = some c := by
  obtain ⟨hk, rfl⟩ := List.getElem?_eq_some_iff.1 hc
  rw [List.find?_eq_some_iff_getElem]
  refine ⟨hp, k, hk, rfl, fun j hj => ?_⟩
  rw [List.any_eq_false] at h
  have := h f[j] (List.mem_take_iff_getElem.2 ⟨j, by omega, rfl⟩)
  simpa using this

theorem findIdx_none_take {α : Type} {p : α → Bool} {f : List α} {k : Nat} (hk : ¬ k < f.length) (h : (f.take k).any p = false) : f.findIdx? p = none := by
  rw [List.take_of_length_le (by omega)] at h
  rw [List.findIdx?_eq_none_iff]
  intro x hx
  rw [List.any_eq_false] at h
  simpa using h x hx

theorem findIdx_some_take {α : Type} {p : α → Bool} {f : List α} {k : Nat} {c : α} (hc : f[k]? = some c) (h : (f.take k).any p = false) (hp : p c = true) : f.findIdx? p = some k := by
  obtain ⟨hk, rfl⟩ := List.getElem?_eq_some_iff.1 hc
  rw [List.findIdx?_eq_some_iff_getElem]
  refine ⟨hk, hp, fun j hj => ?_⟩
  rw [List.any_eq_false] at h
  have := h f[j] (List.mem_take_iff_getElem.2 ⟨j, by omega, rfl⟩)
  simpa using this

theorem cnfCheck_bad {n e : Int} {f : List (List Int)} {k : Nat} {c : List Int} (h : 0 ≤ n ∧ n ≤ 1048576) (hl : (f.length : Int) ≤ 1048576) (hc : f[k]? = some c) (hr : (f.take k).any (fun c => litCheck n c != 0) = false)
    (he : litCheck n c = e) (h0 : (e != 0) = true) : cnfCheck n f = e := by
  rw [cnfCheck_find h hl, find_some_take hc hr (by rw [he]; exact h0)]; exact he

theorem cnfCheck_ok {n : Int} {f : List (List Int)} {k : Nat} (h : 0 ≤ n ∧ n ≤ 1048576) (hl : (f.length : Int) ≤ 1048576) (hk : ¬ k < f.length) (hr : (f.take k).any (fun c => litCheck n c != 0) = false) : cnfCheck n f = 0 := by
  rw [cnfCheck_find h hl, find_none_take hk hr]

theorem firstIdx_at {m : List Bool} {f : List (List Int)} {k : Nat} {c : List Int} (hc : f[k]? = some c) (hr : (f.take k).any (fun c => !holdsB m c) = false) (hh : holdsB m c = false) : firstIdx m f = k := by
  unfold firstIdx; rw [findIdx_some_take hc hr (by simp [hh])]

theorem firstIdx_none {m : List Bool} {f : List (List Int)} {k : Nat} (hk : ¬ k < f.length) (hr : (f.take k).any (fun c => !holdsB m c) = false) : firstIdx m f = -1 := by
  unfold firstIdx; rw [findIdx_none_take hk hr]

theorem smallB_at {f : List (List Int)} {k : Nat} {c : List Int} (hk : k < 60) (hc : f[k]? = some c) (h : (40 : Int) < c.length) : smallB f = false := by
  unfold smallB
  have : (f.take 60).any (fun c => decide (40 < c.length)) = true := List.any_eq_true.2 ⟨c, List.mem_of_getElem? (i := k) (by rw [List.getElem?_take, if_pos hk]; exact hc), by simp; omega⟩
  simp [this]

theorem smallB_end {f : List (List Int)} {k : Nat} (hk : ¬ k < f.length ∨ k = 60) (hr : (f.take k).any (fun c => decide (40 < c.length)) = false) : smallB f = decide (f.length ≤ 60) := by
  unfold smallB
  rcases hk with h | rfl
  · by_cases hl : f.length ≤ 60
    · rw [List.take_of_length_le (by omega)] at hr
      rw [List.take_of_length_le hl, hr]; simp [hl]
    · simp [hl]
  · rw [hr]; simp

theorem smallB_le {f : List (List Int)} (h : smallB f = true) : f.length ≤ 60 ∧ ∀ c ∈ f, c.length ≤ 40 := by
  unfold smallB at h
  simp only [Bool.and_eq_true, Bool.not_eq_true', decide_eq_true_eq] at h
  obtain ⟨h1, h2⟩ := h
  refine ⟨h2, fun c hc => ?_⟩
  rw [List.take_of_length_le h2, List.any_eq_false] at h1
  have := h1 c hc
  simpa using this

end Go.Proofs.Ytacmfiikdbekbaa

/- The clauses of a formula as Units keeps them; its assumptions. Plain. -/
namespace Go.Proofs.Ytacmfiikdbekbaa.Ord

/-- The clauses that Units keeps. -/
def normN (F : List (List Int)) : List (List Int) := (F.filter fun c => !adjB (normL c)).map normL

theorem normN_skip {F : List (List Int)} {k : Nat} {c : List Int} (h : F[k]? = some c) (ht : adjB (normL c) = true) : normN (F.take (k + 1)) = normN (F.take k) := by
  rw [List.take_add_one, h]; simp [normN, ht]
theorem normN_keep {F : List (List Int)} {k : Nat} {c : List Int} (h : F[k]? = some c) (ht : adjB (normL c) = false) : normN (F.take (k + 1)) = normN (F.take k) ++ [normL c] := by
  rw [List.take_add_one, h]; simp [normN, ht]

theorem normN_length (F : List (List Int)) : (normN F).length ≤ F.length := by
  unfold normN
  rw [List.length_map]
  exact List.length_filter_le _ _

theorem asc_nodup {l : List Int} (h : Asc l) : l.Nodup := h.imp fun {a c} hac => fun e => by rw [e, lessB_irrefl] at hac; cases hac

theorem normN_mem {F : List (List Int)} {c : List Int} : c ∈ normN F ↔ ∃ d ∈ F, adjB (normL d) = false ∧ normL d = c := by
  simp only [normN, List.mem_map, List.mem_filter, Bool.not_eq_true']
  exact ⟨fun ⟨d, ⟨h1, h2⟩, h3⟩ => ⟨d, h1, h2, h3⟩, fun ⟨d, h1, h2, h3⟩ => ⟨d, ⟨h1, h2⟩, h3⟩⟩

theorem normN_nodup (F : List (List Int)) : ∀ c ∈ normN F, c.Nodup := fun c hc => by
  obtain ⟨d, -, -, rfl⟩ := normN_mem.1 hc
  exact asc_nodup (asc_normL d)

theorem normN_ok {n : Nat} {F : List (List Int)} (h : ClsOk n F) : ClsOk n (normN F) := fun c hc a ha => by
  obtain ⟨d, hd, -, rfl⟩ := normN_mem.1 hc
  exact h d hd a (mem_normL_iff.1 ha).1

theorem normN_sub {n : Nat} {F : List (List Int)} (h : ClsOk n F) : Sub (normN F) F := fun c hc => by
  obtain ⟨d, hd, -, rfl⟩ := normN_mem.1 hc
  exact ⟨d, hd, fun l => ⟨fun hl => (mem_normL_iff.1 hl).1, fun hl => mem_normL_iff.2 ⟨hl, (h d hd l hl).1⟩⟩⟩

theorem normN_cover {n : Nat} {F : List (List Int)} (h : ClsOk n F) : ∀ c ∈ F, Taut c ∨ ∃ c' ∈ normN F, ∀ l, l ∈ c ↔ l ∈ c' := fun c hc => by
  cases ht : adjB (normL c) with
  | true =>
    left
    obtain ⟨x, hx, hnx⟩ := (adjB_iff (asc_normL c) (fun x hx => (mem_normL_iff.1 hx).2)).1 ht
    exact ⟨x, (mem_normL_iff.1 hx).1, (mem_normL_iff.1 hnx).1⟩
  | false => exact .inr ⟨normL c, normN_mem.2 ⟨c, hc, ht, rfl⟩, fun l => ⟨fun hl => mem_normL_iff.2 ⟨hl, (h c hc l hl).1⟩, fun hl => (mem_normL_iff.1 hl).1⟩⟩

/-- Units over the clauses that are kept. -/
theorem normN_up {n : Nat} {F : List (List Int)} (h : ClsOk n F) (A : List Int) : upL n (normN F) A = upL n F A ∧ upF (normN F) A = upF F A := up_norm h (normN_cover h) (normN_sub h)

/-- What the assumptions leave. -/
structure PA (n : Nat) (A K : List Int) (k : Nat) : Prop where
  all : ∀ a ∈ A.take k, a ∈ K
  sub : ∀ a ∈ K, a ∈ A
  cons : ∀ a ∈ K, -a ∉ K
  nod : K.Nodup

theorem pa_start (n : Nat) (A : List Int) : PA n A [] 0 := ⟨by simp, by simp, by simp, List.nodup_nil⟩

theorem pa_step {n : Nat} {A K : List Int} {k : Nat} {a : Int} (h : PA n A K k) (ha : A[k]? = some a) (h0 : a ≠ 0) (hn : -a ∉ K) : PA n A (setK K a) (k + 1) := by
  have hm := List.mem_of_getElem? ha
  by_cases h2 : a ∈ K
  · rw [setK_pos hn h2]
    refine ⟨fun x hx => ?_, h.sub, h.cons, h.nod⟩
    rw [List.take_add_one, ha] at hx
    rcases List.mem_append.1 hx with hx | hx
    · exact h.all x hx
    · simp at hx; rw [hx]; exact h2
  · rw [setK_new hn h2]
    refine ⟨fun x hx => ?_, fun x hx => ?_, fun x hx => ?_, ?_⟩
    · rw [List.take_add_one, ha] at hx
      rcases List.mem_append.1 hx with hx | hx
      · exact List.mem_append_left _ (h.all x hx)
      · simp at hx; rw [hx]; simp
    · rcases List.mem_append.1 hx with hx | hx
      · exact h.sub x hx
      · simp at hx; rw [hx]; exact hm
    · rw [List.mem_append, not_or]
      rcases List.mem_append.1 hx with hx | hx
      · refine ⟨h.cons x hx, fun e => ?_⟩
        simp at e
        exact hn (by rw [← e, Int.neg_neg]; exact hx)
      · simp at hx
        subst hx
        refine ⟨hn, fun e => ?_⟩
        simp at e
        omega
    · exact List.nodup_append.2 ⟨h.nod, by simp, fun y hy z hz e => by simp at hz; exact h2 (by rw [← hz, ← e]; exact hy)⟩

theorem pa_bad {n : Nat} {A K : List Int} {k : Nat} {a : Int} (h : PA n A K k) (ha : A[k]? = some a) (hn : -a ∈ K) (C : List (List Int)) : Bad C A :=
  .inl ⟨a, .asm (List.mem_of_getElem? ha), .asm (h.sub _ hn)⟩

theorem pa_len {n : Nat} {A K : List Int} {k : Nat} (h : PA n A K k) (hA : ∀ a ∈ A, LitOk n a) : K.length ≤ n := lits_le h.nod h.cons fun a ha => hA a (h.sub a ha)

/-- What the loop over the unit clauses leaves. -/
structure PU (n : Nat) (C : List (List Int)) (A K : List Int) (j : Nat) : Prop where
  sound : ∀ a ∈ K, Der C A a
  asm : ∀ a ∈ A, a ∈ K
  kok : ∀ a ∈ K, LitOk n a
  cons : ∀ a ∈ K, -a ∉ K
  knod : K.Nodup
  one : ∀ (i : Nat) c, i < j → C[i]? = some c → c.length ≤ 1 → ∃ l ∈ c, l ∈ K

theorem pu_start {n : Nat} {C : List (List Int)} {A K : List Int} (h : PA n A K A.length) (hA : ∀ a ∈ A, LitOk n a) : PU n C A K 0 :=
  ⟨fun a ha => .asm (h.sub a ha), fun a ha => h.all a (by rw [List.take_length]; exact ha), fun a ha => hA a (h.sub a ha), h.cons, h.nod, fun i c hi => by omega⟩

theorem pu_skip {n : Nat} {C : List (List Int)} {A K : List Int} {j : Nat} {c : List Int} (h : PU n C A K j) (hc : C[j]? = some c) (h2 : 2 ≤ c.length) : PU n C A K (j + 1) :=
  ⟨h.sound, h.asm, h.kok, h.cons, h.knod, fun i d hi hd hl => by
    by_cases e : i = j
    · rw [e, hc] at hd; injection hd with hd; rw [← hd] at hl; omega
    · exact h.one i d (by omega) hd hl⟩

theorem der_one {C : List (List Int)} {A : List Int} {l : Int} (h : [l] ∈ C) : Der C A l := .unit h (by simp) fun m hm hne => by simp at hm; exact (hne hm).elim

theorem pu_set {n : Nat} {C : List (List Int)} {A K : List Int} {j : Nat} {l : Int} (h : PU n C A K j) (hC : ClsOk n C) (hc : C[j]? = some [l]) (hn : -l ∉ K) : PU n C A (setK K l) (j + 1) := by
  have hm := List.mem_of_getElem? hc
  have hl0 := hC _ hm l (by simp)
  by_cases h2 : l ∈ K
  · rw [setK_pos hn h2]
    exact ⟨h.sound, h.asm, h.kok, h.cons, h.knod, fun i d hi hd hl => by
      by_cases e : i = j
      · rw [e, hc] at hd; injection hd with hd; rw [← hd]; exact ⟨l, by simp, h2⟩
      · exact h.one i d (by omega) hd hl⟩
  · rw [setK_new hn h2]
    refine ⟨fun x hx => ?_, fun x hx => List.mem_append_left _ (h.asm x hx), fun x hx => ?_, fun x hx => ?_, ?_, fun i d hi hd hl => ?_⟩
    · rcases List.mem_append.1 hx with hx | hx
      · exact h.sound x hx
      · simp at hx; rw [hx]; exact der_one hm
    · rcases List.mem_append.1 hx with hx | hx
      · exact h.kok x hx
      · simp at hx; rw [hx]; exact hl0
    · rw [List.mem_append, not_or]
      rcases List.mem_append.1 hx with hx | hx
      · refine ⟨h.cons x hx, fun e => ?_⟩
        simp at e
        exact hn (by rw [← e, Int.neg_neg]; exact hx)
      · simp at hx
        subst hx
        refine ⟨hn, fun e => ?_⟩
        simp at e
        have := hl0.1
        omega
    · exact List.nodup_append.2 ⟨h.knod, by simp, fun y hy z hz e => by simp at hz; exact h2 (by rw [← hz, ← e]; exact hy)⟩
    · by_cases e : i = j
      · rw [e, hc] at hd; injection hd with hd; rw [← hd]; exact ⟨l, by simp, by simp⟩
      · obtain ⟨x, hx, hxK⟩ := h.one i d (by omega) hd hl
        exact ⟨x, hx, List.mem_append_left _ hxK⟩

theorem pu_empty {C : List (List Int)} {A : List Int} {j : Nat} (hc : C[j]? = some []) : Bad C A := .inr ⟨[], List.mem_of_getElem? hc, fun l hl => by cases hl⟩
theorem pu_bad {n : Nat} {C : List (List Int)} {A K : List Int} {j : Nat} {l : Int} (h : PU n C A K j) (hc : C[j]? = some [l]) (hn : -l ∈ K) : Bad C A := .inl ⟨l, der_one (List.mem_of_getElem? hc), h.sound _ hn⟩

theorem pu_pi {n : Nat} {C : List (List Int)} {A K : List Int} {j : Nat} (h : PU n C A K j) (hj : C.length ≤ j) (hC : ClsOk n C) (hn : ∀ c ∈ C, c.Nodup) : PI n C A (C.map fun c => (c.length : Int)) K 0 :=
  { nod := hn, cok := hC, olen := by simp, sound := h.sound, asm := h.asm, kok := h.kok, cons := h.cons, knod := h.knod, le := Nat.zero_le _,
    handled := fun i c o hc ho h1 => by
      rw [List.getElem?_map, hc] at ho
      injection ho with ho
      have ho2 : (c.length : Int) = _ := ho
      exact h.one i c (by have := (List.getElem?_eq_some_iff.1 hc).1; omega) hc (by omega)
    cnt := fun i c hc => by rw [List.getElem?_map, hc, List.take_zero, cntO_nil]; rfl }

/-! ### The order of what Units returns -/

theorem byVar_asc (n : Nat) (p : Int → Bool) (hp : ∀ a, p a = true → p (-a) = false) : Asc (byVar n p) := by
  induction n with
  | zero => exact List.Pairwise.nil
  | succ n ih =>
    rw [byVar_succ]
    refine List.pairwise_append.2 ⟨ih, ?_, fun a ha c hc => ?_⟩
    · cases h1 : p ((n : Int) + 1) with
      | true => rw [hp _ h1]; simp
      | false => cases h2 : p (-((n : Int) + 1)) <;> simp
    · have h1 := (mem_byVar.1 ha).1
      unfold LitOk at h1
      have hcs : c.natAbs = n + 1 := by
        rcases List.mem_append.1 hc with hc | hc
        · split at hc
          · simp at hc; omega
          · cases hc
        · split at hc
          · simp at hc; omega
          · cases hc
      rw [lessB_iff]
      left
      omega

end Go.Proofs.Ytacmfiikdbekbaa.Ord

/- Plain facts about the reference's way to close under unit propagation. -/
namespace Go.Proofs.Ytacmfiikdbekbaa.Ord

/-- A clause with which nothing is left to do. -/
def ClOk (K c : List Int) : Prop := (∃ l ∈ c, -l ∉ K) ∧ ∀ l ∈ c, (∀ m ∈ c, m ≠ l → -m ∈ K) → l ∈ K

/-- What the reference's unit knows of the numbers that it went through: none is open, or l is the only one. -/
def UI (K xs : List Int) (l : Int) : Prop := (l = 0 ∧ ∀ m ∈ xs, -m ∈ K) ∨ (l ≠ 0 ∧ l ∈ xs ∧ -l ∉ K ∧ l ∉ K ∧ ∀ m ∈ xs, m ≠ l → -m ∈ K)

/-- What the reference's unit answers. -/
def UR (K c : List Int) (l : Int) (is : Bool) : Prop :=
  (is = false ∧ l = 0 ∧ ∀ m ∈ c, -m ∈ K) ∨ (is = true ∧ l = 0 ∧ ClOk K c) ∨ (is = true ∧ l ≠ 0 ∧ l ∈ c ∧ -l ∉ K ∧ l ∉ K ∧ ∀ m ∈ c, m ≠ l → -m ∈ K)

theorem ui_nil (K : List Int) : UI K [] 0 := .inl ⟨rfl, by simp⟩

theorem take_cons_mem {xs : List Int} {k : Nat} {x y : Int} (hx : xs[k]? = some x) (h : y ∈ xs.take (k + 1)) : y ∈ xs.take k ∨ y = x := by
  rw [List.take_add_one, hx] at h
  simpa using h

theorem mem_take_succ {xs : List Int} {k : Nat} {x : Int} (hx : xs[k]? = some x) : x ∈ xs.take (k + 1) := by
  rw [List.take_add_one, hx]; simp

theorem mem_take_le {xs : List Int} {k : Nat} {y : Int} (h : y ∈ xs.take k) : y ∈ xs.take (k + 1) := by
  rw [List.take_add_one]; exact List.mem_append_left _ h

theorem ui_skip {K xs : List Int} {k : Nat} {x l : Int} (h : UI K (xs.take k) l) (hx : xs[k]? = some x) (hn : -x ∈ K) : UI K (xs.take (k + 1)) l := by
  rcases h with ⟨e, h⟩ | ⟨h0, h1, h2, h3, h4⟩
  · exact .inl ⟨e, fun m hm => (take_cons_mem hx hm).elim (h m) (fun e => by rw [e]; exact hn)⟩
  · exact .inr ⟨h0, mem_take_le h1, h2, h3, fun m hm hne => (take_cons_mem hx hm).elim (fun hm => h4 m hm hne) (fun e => by rw [e]; exact hn)⟩

theorem ui_same {K xs : List Int} {k : Nat} {x : Int} (h : UI K (xs.take k) x) (hx : xs[k]? = some x) (h0 : x ≠ 0) : UI K (xs.take (k + 1)) x := by
  rcases h with ⟨e, h⟩ | ⟨h0, h1, h2, h3, h4⟩
  · exact absurd e h0
  · exact .inr ⟨h0, mem_take_le h1, h2, h3, fun m hm hne => (take_cons_mem hx hm).elim (fun hm => h4 m hm hne) (fun e => absurd e hne)⟩

theorem ui_set {K xs : List Int} {k : Nat} {x l : Int} (h : UI K (xs.take k) l) (hx : xs[k]? = some x) (hn : -x ∉ K) (hk : x ∉ K) (h0 : x ≠ 0) (hl : l = 0) : UI K (xs.take (k + 1)) x := by
  rcases h with ⟨e, h⟩ | ⟨h0, -⟩
  · exact .inr ⟨h0, mem_take_succ hx, hn, hk, fun m hm hne => (take_cons_mem hx hm).elim (fun hm => h m hm) (fun e => absurd e hne)⟩
  · exact absurd hl h0

theorem ui_two {K c : List Int} {k : Nat} {x l : Int} (h : UI K (c.take k) l) (hx : c[k]? = some x) (hn : -x ∉ K) (hne : x ≠ l) (h1 : x ∈ K ∨ l ≠ 0) : ClOk K c := by
  have hxc := List.mem_of_getElem? hx
  refine ⟨⟨x, hxc, hn⟩, fun y hy hall => ?_⟩
  by_cases hyx : x = y
  · subst hyx
    rcases h1 with h1 | h1
    · exact h1
    · rcases h with ⟨e, -⟩ | ⟨_, h1, h2, -⟩
      · exact absurd e h1
      · exact absurd (hall l (List.mem_of_mem_take h1) (fun e => hne e.symm)) h2
  · exact absurd (hall x hxc hyx) hn

theorem ui_end {K c : List Int} {k : Nat} {l : Int} (h : UI K (c.take k) l) (hk : c.length ≤ k) : UR K c l (!decide (l = 0)) := by
  rw [List.take_of_length_le hk] at h
  rcases h with ⟨rfl, h⟩ | ⟨h0, h⟩
  · exact .inl ⟨by simp, rfl, h⟩
  · exact .inr (.inr ⟨by simp [h0], h0, h⟩)

/-- What is known to the reference while it goes through the clauses. -/
structure PR (n : Nat) (F : List (List Int)) (A K : List Int) : Prop where
  sound : ∀ a ∈ K, Der F A a
  asm : ∀ a ∈ A, a ∈ K
  cons : ∀ a ∈ K, -a ∉ K
  nod : K.Nodup
  kok : ∀ a ∈ K, LitOk n a

theorem pr_start {n : Nat} {F : List (List Int)} {A K : List Int} (h : PA n A K A.length) (hA : ∀ a ∈ A, LitOk n a) : PR n F A K := by
  obtain h' : PU n F A K 0 := pu_start h hA
  exact ⟨h'.sound, h'.asm, h'.cons, h'.knod, h'.kok⟩

theorem pr_len {n : Nat} {F : List (List Int)} {A K : List Int} (h : PR n F A K) : K.length ≤ n := lits_le h.nod h.cons h.kok

theorem pr_add {n : Nat} {F : List (List Int)} {A K c : List Int} {l : Int} (h : PR n F A K) (hF : ClsOk n F) (hc : c ∈ F) (h1 : l ∈ c) (h2 : -l ∉ K) (h3 : l ∉ K) (h4 : ∀ m ∈ c, m ≠ l → -m ∈ K) : PR n F A (K ++ [l]) := by
  have hl := hF c hc l h1
  refine ⟨fun a ha => ?_, fun a ha => List.mem_append_left _ (h.asm a ha), fun a ha hn => ?_, ?_, fun a ha => ?_⟩
  · rcases List.mem_append.1 ha with ha | ha
    · exact h.sound a ha
    · rw [List.mem_singleton] at ha
      subst ha
      exact .unit hc h1 fun m hm hne => h.sound _ (h4 m hm hne)
  · unfold LitOk at hl
    simp only [List.mem_append, List.mem_singleton] at ha hn
    rcases ha with ha | ha <;> rcases hn with hn | hn
    · exact h.cons a ha hn
    · exact h2 (by rw [← hn, Int.neg_neg]; exact ha)
    · exact h2 (by rw [← ha]; exact hn)
    · omega
  · rw [List.nodup_append]
    refine ⟨h.nod, by simp, fun a ha c hc => ?_⟩
    rw [List.mem_singleton] at hc
    rintro rfl
    exact h3 (by rw [← hc]; exact ha)
  · rcases List.mem_append.1 ha with ha | ha
    · exact h.kok a ha
    · rw [List.mem_singleton] at ha
      rw [ha]; exact hl

theorem pr_bad {n : Nat} {F : List (List Int)} {A K c : List Int} (h : PR n F A K) (hc : c ∈ F) (h4 : ∀ m ∈ c, -m ∈ K) : Bad F A := .inr ⟨c, hc, fun l hl => h.sound _ (h4 l hl)⟩

/-- In the middle of a round: b were known when it began. -/
def PRI (n : Nat) (F : List (List Int)) (A K : List Int) (b i : Nat) : Prop := PR n F A K ∧ b ≤ K.length ∧ (K.length = b → ∀ c ∈ F.take i, ClOk K c)

theorem pri_start {n : Nat} {F : List (List Int)} {A K : List Int} (h : PR n F A K) : PRI n F A K K.length 0 := ⟨h, Nat.le_refl _, fun _ => by simp⟩

theorem pri_ok {n : Nat} {F : List (List Int)} {A K c : List Int} {b i : Nat} (h : PRI n F A K b i) (hc : F[i]? = some c) (hk : ClOk K c) : PRI n F A K b (i + 1) := by
  refine ⟨h.1, h.2.1, fun e d hd => ?_⟩
  rw [List.take_add_one, hc] at hd
  rcases List.mem_append.1 hd with hd | hd
  · exact h.2.2 e d hd
  · simp at hd; rw [hd]; exact hk

theorem pri_add {n : Nat} {F : List (List Int)} {A K c : List Int} {b i : Nat} {l : Int} (h : PRI n F A K b i) (hF : ClsOk n F) (hc : F[i]? = some c) (h1 : l ∈ c) (h2 : -l ∉ K) (h3 : l ∉ K) (h4 : ∀ m ∈ c, m ≠ l → -m ∈ K) : PRI n F A (K ++ [l]) b (i + 1) := by
  have hb := h.2.1
  refine ⟨pr_add h.1 hF (List.mem_of_getElem? hc) h1 h2 h3 h4, by simp; omega, fun e => ?_⟩
  simp at e
  omega

/-- Before a round: the first one, or something was new in the last one, or nothing is left to do. -/
def PRO (n : Nat) (F : List (List Int)) (A K : List Int) (b : Int) : Prop := PR n F A K ∧ b ≤ K.length ∧ -1 ≤ b ∧ (b = K.length → ∀ c ∈ F, ClOk K c)

theorem pro_start {n : Nat} {F : List (List Int)} {A K : List Int} (h : PR n F A K) : PRO n F A K (-1) := ⟨h, by omega, by omega, fun e => by omega⟩

theorem pro_next {n : Nat} {F : List (List Int)} {A K : List Int} {b i : Nat} (h : PRI n F A K b i) (hi : F.length ≤ i) : PRO n F A K b := by
  refine ⟨h.1, by have := h.2.1; omega, by omega, fun e c hc => h.2.2 (by omega) c ?_⟩
  rw [List.take_of_length_le hi]
  exact hc

theorem pro_closed {n : Nat} {F : List (List Int)} {A K : List Int} {b : Int} (h : PRO n F A K b) (hb : ¬ b < K.length) : Closed F A K := by
  have hall := h.2.2.2 (by have := h.2.1; omega)
  exact ⟨h.1.sound, h.1.asm, h.1.cons, fun c hc => (hall c hc).2, fun c hc => (hall c hc).1⟩

/-- What Units answers, in layers 4's own words. -/
noncomputable def unitsV (n : Int) (F : List (List Int)) (A : List Int) : List Int × Bool × Int :=
  if cnfCheck n F = 0 then (if A.all (fun a => !badLit n a) then (upL n.toNat F A, upF F A, 0) else ([], false, 3)) else ([], false, cnfCheck n F)

theorem unitsV_err {n e : Int} {F : List (List Int)} (h : cnfCheck n F = e) (h0 : e ≠ 0) (A : List Int) : unitsV n F A = ([], false, e) := by
  unfold unitsV
  rw [h, if_neg h0]

theorem unitsV_arg {n : Int} {F : List (List Int)} {A : List Int} {k : Nat} {x : Int} (h : cnfCheck n F = 0) (hx : A[k]? = some x) (hb : badLit n x = true) : unitsV n F A = ([], false, 3) := by
  unfold unitsV
  rw [if_pos h, if_neg]
  intro ha
  have := List.all_eq_true.1 ha x (List.mem_of_getElem? hx)
  rw [hb] at this
  cases this

theorem unitsV_ok {n : Nat} {F : List (List Int)} {A : List Int} (h : cnfCheck n F = 0) (ha : A.any (badLit n) = false) : unitsV n F A = (upL n F A, upF F A, 0) := by
  unfold unitsV
  rw [if_pos h, if_pos]
  · rfl
  · rw [List.all_eq_true]
    intro x hx
    have := List.any_eq_false.1 ha x hx
    simpa using this

theorem lit_ok_of {n : Nat} {x : Int} (h : badLit n x = false) : LitOk n x := by
  unfold badLit at h
  simp only [Bool.or_eq_false_iff, beq_eq_false_iff_ne, decide_eq_false_iff_not] at h
  unfold LitOk
  omega

theorem lit_bad_of {n : Nat} {x : Int} (h : badLit n x = true) : x = 0 ∨ (n : Int) < x ∨ x < -(n : Int) := by
  unfold badLit at h
  simp only [Bool.or_eq_true, beq_iff_eq, decide_eq_true_eq] at h
  omega

theorem asm_ok_of {n : Nat} {A : List Int} (h : A.any (badLit n) = false) : ∀ a ∈ A, LitOk n a := fun a ha => lit_ok_of (by have := List.any_eq_false.1 h a ha; simpa using this)

/-- What a formula that is valid keeps to. -/
theorem cnf_valid {n : Int} {F : List (List Int)} (h : cnfCheck n F = 0) : 0 ≤ n ∧ n ≤ 1048576 ∧ F.length ≤ 1048576 ∧ (∀ c ∈ F, c.length ≤ 4096) ∧ ClsOk n.toNat F := by
  unfold cnfCheck at h
  split at h
  · simp at h
  rename_i h1
  split at h
  · simp at h
  rename_i h2
  have hall : ∀ c ∈ F, litCheck n c = 0 := by
    cases hf : F.find? (fun c => litCheck n c != 0) with
    | none =>
      intro c hc
      have := List.find?_eq_none.1 hf c hc
      simpa using this
    | some d =>
      rw [hf] at h
      have := List.find?_some hf
      simp at this
      exact absurd h this
  have hl : ∀ c ∈ F, c.length ≤ 4096 ∧ c.any (badLit n) = false := fun c hc => by
    have h3 := hall c hc
    unfold litCheck at h3
    split at h3
    · simp at h3
    split at h3
    · simp at h3
    split at h3
    · simp at h3
    rename_i h4 h5
    exact ⟨by omega, by simpa using h5⟩
  obtain ⟨m, rfl⟩ := Int.eq_ofNat_of_zero_le (show 0 ≤ n by omega)
  exact ⟨by omega, by omega, by omega, fun c hc => (hl c hc).1, fun c hc => asm_ok_of (hl c hc).2⟩

end Go.Proofs.Ytacmfiikdbekbaa.Ord

/- Plain facts for gate: what unit propagation decides in a circuit. -/
namespace Go.Proofs.Ytacmfiikdbekbaa.Ord

/-- Where every clause has a literal that holds, what is derived and consistent is closed. -/
theorem closed_of_model {C : List (List Int)} {A K : List Int} (hs : ∀ a ∈ K, Der C A a) (ha : ∀ a ∈ A, a ∈ K) (hc : ∀ a ∈ K, -a ∉ K) (hm : ∀ c ∈ C, ∃ l ∈ c, l ∈ K) : Closed C A K := by
  refine ⟨hs, ha, hc, fun c hcC l _ hall => ?_, fun c hcC => ?_⟩
  · obtain ⟨t, ht, htK⟩ := hm c hcC
    by_cases h : t = l
    · rw [← h]; exact htK
    · exact absurd (hall t ht h) (hc t htK)
  · obtain ⟨t, ht, htK⟩ := hm c hcC
    exact ⟨t, ht, hc t htK⟩

/-- A circuit: the clauses G over n variables, the literals A that are assumed, and the literals K that hold, one of each variable. -/
structure Circ (n : Nat) (G : List (List Int)) (A K : List Int) : Prop where
  sound : ∀ a ∈ K, Der G A a
  asm : ∀ a ∈ A, a ∈ K
  cons : ∀ a ∈ K, -a ∉ K
  model : ∀ c ∈ G, ∃ l ∈ c, l ∈ K
  ok : ∀ a ∈ K, LitOk n a
  cls : ClsOk n G
  total : ∀ a, LitOk n a → a ∈ K ∨ -a ∈ K

theorem Circ.closed {n : Nat} {G : List (List Int)} {A K : List Int} (h : Circ n G A K) : Closed G A K := closed_of_model h.sound h.asm h.cons h.model

theorem circ_new : Circ 1 [[1]] [] [1] := by
  refine ⟨fun a ha => ?_, by simp, by simp, by simp, by simp [LitOk], by simp [ClsOk, LitOk], fun a ha => ?_⟩
  · simp at ha
    subst ha
    exact .unit (c := [1]) (by simp) (by simp) (fun m hm hne => by simp at hm; exact absurd hm hne)
  · unfold LitOk at ha
    simp
    omega

theorem litOk_up {n : Nat} {a : Int} (h : LitOk n a) : LitOk (n + 1) a := by unfold LitOk at *; omega

/-- One variable more: the literal a of it holds, assumed or decided by the clauses R that come with it. -/
theorem Circ.more {n : Nat} {G R : List (List Int)} {A A' K : List Int} {a : Int} (h : Circ n G A K) (ha : a = (n : Int) + 1 ∨ a = -((n : Int) + 1)) (hA : ∀ x ∈ A', x ∈ A ∨ x = a) (hA2 : ∀ x ∈ A, x ∈ A') (hR : ClsOk (n + 1) R) (hM : ∀ c ∈ R, ∃ l ∈ c, l ∈ K ++ [a])
    (hD : a ∈ A' ∨ ∃ c ∈ R, a ∈ c ∧ ∀ m ∈ c, m ≠ a → -m ∈ K) : Circ (n + 1) (G ++ R) A' (K ++ [a]) := by
  have hmono : ∀ x, Der G A x → Der (G ++ R) A' x := fun x hx => der_mono (sub_of_subset fun c hc => List.mem_append_left _ hc) hA2 hx
  have hnot : ∀ x ∈ K, x ≠ a ∧ x ≠ -a := fun x hx => by
    have := h.ok x hx
    unfold LitOk at this
    omega
  refine ⟨fun x hx => ?_, fun x hx => ?_, fun x hx hn => ?_, fun c hc => ?_, fun x hx => ?_, fun c hc x hx => ?_, fun x hx => ?_⟩
  · rcases List.mem_append.1 hx with hx | hx
    · exact hmono x (h.sound x hx)
    · simp at hx
      subst hx
      rcases hD with hD | ⟨c, hc, hac, hall⟩
      · exact .asm hD
      · exact .unit (List.mem_append_right _ hc) hac fun m hm hne => hmono _ (h.sound _ (hall m hm hne))
  · rcases hA x hx with h1 | h1
    · exact List.mem_append_left _ (h.asm x h1)
    · simp [h1]
  · simp only [List.mem_append, List.mem_singleton] at hx hn
    rcases hx with hx | hx <;> rcases hn with hn | hn
    · exact h.cons x hx hn
    · exact (hnot x hx).2 (by omega)
    · exact (hnot _ hn).2 (by rw [hx])
    · omega
  · rcases List.mem_append.1 hc with hc | hc
    · obtain ⟨l, h1, h2⟩ := h.model c hc
      exact ⟨l, h1, List.mem_append_left _ h2⟩
    · exact hM c hc
  · rcases List.mem_append.1 hx with hx | hx
    · exact litOk_up (h.ok x hx)
    · simp at hx
      unfold LitOk
      omega
  · rcases List.mem_append.1 hc with hc | hc
    · exact litOk_up (h.cls c hc x hx)
    · exact hR c hc x hx
  · by_cases hxn : LitOk n x
    · rcases h.total x hxn with h1 | h1
      · exact .inl (List.mem_append_left _ h1)
      · exact .inr (List.mem_append_left _ h1)
    · have : x = a ∨ x = -a := by unfold LitOk at hx hxn; omega
      rcases this with h1 | h1
      · left; simp [h1]
      · right; simp [h1]

end Go.Proofs.Ytacmfiikdbekbaa.Ord

/- Memory of the call's own, told block by block: which blocks a call may have touched; rows of ints in blocks. -/
namespace Go.Proofs.Ytacmfiikdbekbaa.Ord
open Go.RowKit

theorem info_int : (Try.prog.info? 3).map (fun i => (i.zero, i.size, i.bytes)) = some (some (.int .i64 0), 1, 8) := by kernel_rfl
theorem sizeOf_int (wx : World) : (sizeOf 3).run Try.prog wx = .ok 1 wx := by kernel_rfl

theorem below_al {B : Nat} {a w : World} (h : Below B a w) (hB : B ≤ w.heap.size) (o : Obj) : Below B a (w.alloc o) := h.alloc hB o
theorem box_below (w : World) (o : Obj) : Below w.heap.size w (w.alloc o) := below_al (Below.refl _ _) (Nat.le_refl _) _
theorem heap_al (w : World) (o : Obj) : (w.alloc o).heap = w.heap.push o := rfl
theorem heap_dr (w : World) (n : Nat) : (w.drewN n).heap = w.heap := rfl
theorem heap_drew (w : World) : w.drew.heap = w.heap := rfl
theorem size_al (w : World) (o : Obj) : (w.alloc o).heap.size = w.heap.size + 1 := by simp
theorem setCell_size (w : World) (a : Addr) (v : Value) : (w.setCell a v).heap.size = w.heap.size := by simp [World.setCell]

theorem fit_cell {w : World} {b : Nat} {e : TypeId} {vs : List Value} {m : Nat × Nat} (h : w.heap[b]? = some (.cells vs.toArray e m)) (j : Nat) : w.cell? ⟨b, j, none⟩ = vs[j]? := by
  rw [cell_of_row _ _ _ _ _ _ h]; simp

theorem setCell_block {w : World} {b o : Nat} {e : TypeId} {xs : List Value} (v : Value) (h : w.heap[b]? = some (.cells xs.toArray e (0, 0))) : (w.setCell ⟨b, o, none⟩ v).heap[b]? = some (.cells (xs.set o v).toArray e (0, 0)) := by
  have := heap_setCell_same w b o xs.toArray e v h
  rw [this]
  simp

theorem ints_get {xs : List Int} {k : Nat} {x : Int} (h : xs[k]? = some x) : (ints xs)[k]? = some (.int .i64 x) := by simp [ints, h]
theorem ints_set (xs : List Int) (k : Nat) (x : Int) : (ints xs).set k (.int .i64 x) = ints (xs.set k x) := by simp [ints, List.map_set]

/-- But for the blocks of S, what was there is as it was. -/
structure Touch (S : Nat → Prop) (w w' : World) : Prop where
  os : w'.os = w.os
  tape : w'.tape = w.tape
  output : w'.output = w.output
  size : w.heap.size ≤ w'.heap.size
  block : ∀ k, k < w.heap.size → ¬ S k → w'.heap[k]? = w.heap[k]?

theorem Touch.refl (S : Nat → Prop) (w : World) : Touch S w w := ⟨rfl, rfl, rfl, Nat.le_refl _, fun _ _ _ => rfl⟩
theorem Touch.trans {S : Nat → Prop} {a b c : World} (h : Touch S a b) (k : Touch S b c) : Touch S a c :=
  ⟨k.os.trans h.os, k.tape.trans h.tape, k.output.trans h.output, Nat.le_trans h.size k.size, fun i hi hn => (k.block i (by have := h.size; omega) hn).trans (h.block i hi hn)⟩
theorem Touch.mono {S S' : Nat → Prop} {a b : World} (h : Touch S a b) (hs : ∀ k, k < a.heap.size → S k → S' k) : Touch S' a b :=
  ⟨h.os, h.tape, h.output, h.size, fun i hi hn => h.block i hi (fun e => hn (hs i hi e))⟩
theorem Touch.drew {S : Nat → Prop} {a b : World} (h : Touch S a b) : Touch S a b.drew := ⟨h.os, h.tape, h.output, h.size, h.block⟩
theorem Touch.drewN {S : Nat → Prop} {a b : World} (h : Touch S a b) (n : Nat) : Touch S a (b.drewN n) := ⟨h.os, h.tape, h.output, h.size, h.block⟩
theorem Touch.setCell {S : Nat → Prop} {a b : World} (h : Touch S a b) {p : Addr} (hp : S p.block) (u : Value) : Touch S a (b.setCell p u) :=
  ⟨h.os, h.tape, h.output, by rw [setCell_size]; exact h.size, fun i hi hn => (Below.heap_setCell b p u i (fun e => hn (by rw [e]; exact hp))).trans (h.block i hi hn)⟩
theorem Touch.alloc {S : Nat → Prop} {a b : World} (h : Touch S a b) (o : Obj) : Touch S a (b.alloc o) :=
  ⟨h.os, h.tape, h.output, by rw [size_al]; have := h.size; omega, fun i hi hn => (Below.heap_alloc _ _ _ (by have := h.size; omega)).trans (h.block i hi hn)⟩
theorem Touch.grown {S : Nat → Prop} {a b c : World} {row : Option Nat} (h : Touch S a b) (hg : b.grownBy c row) (hr : ∀ k, row = some k → S k ∨ a.heap.size ≤ k) : Touch S a c :=
  ⟨hg.os.trans h.os, hg.tape.trans h.tape, hg.output.trans h.output, Nat.le_trans h.size hg.size, fun i hi hn => (hg.block i (by have := h.size; omega) (fun e => by rcases hr i e.symm with h1 | h1; exact hn h1; omega)).trans (h.block i hi hn)⟩
theorem Touch.below {S : Nat → Prop} {B : Nat} {a b : World} (h : Touch S a b) (hB : B ≤ a.heap.size) (hs : ∀ k, S k → B ≤ k) : Below B a b :=
  ⟨h.os, h.tape, h.output, h.size, fun k hk => h.block k (by omega) (fun e => by have := hs k e; omega)⟩
theorem touch_of_below {S : Nat → Prop} {a b : World} (h : Below a.heap.size a b) : Touch S a b := ⟨h.os, h.tape, h.output, h.size, fun k hk _ => h.block k hk⟩

/-- A row of ints of the call's own, whatever its base. -/
def Rw (w : World) (v : Value) (xs : List Int) : Prop := w.ownsRow 0 3 1 v xs.length (ints xs)

theorem rw_frame {w w' : World} {v : Value} {xs : List Int} (h : Rw w v xs) (hk : ∀ k, v.ownBlock = some k → w'.heap[k]? = w.heap[k]?) : Rw w' v xs := by
  refine ⟨h.1, ?_⟩
  rcases h.2 with h0 | ⟨g, cap, cur, e1, e2, e3, e4⟩
  · exact .inl h0
  · exact .inr ⟨g, cap, cur, e1, e2, by rw [hk g (by rw [e1]; rfl)]; exact e3, e4⟩

theorem rw_form {w : World} {v : Value} {xs : List Int} (h : Rw w v xs) (hn : 0 < xs.length) : ∃ g c, v = .slice (some ⟨g, 0, none⟩) xs.length c := by
  rcases h.2 with ⟨_, h0⟩ | ⟨g, cap, cur, h1, _⟩
  · omega
  · exact ⟨g, cap, h1⟩

theorem rw_shape {w : World} {v : Value} {xs : List Int} (h : Rw w v xs) : ∃ a c, v = .slice a xs.length c ∧ xs.length ≤ c ∧ (a = none → c = 0) ∧ SlV w a (ints xs) := by
  obtain ⟨a, c, h1, h2, h3, h4⟩ := own_sli h
  exact ⟨a, c, h1, h2, h3, h4⟩

theorem rw_lt {w : World} {v : Value} {xs : List Int} (h : Rw w v xs) : ∀ k, v.ownBlock = some k → k < w.heap.size := fun k hk => (h.lt k hk).2

theorem rw_get {w : World} {g c n : Nat} {xs : List Int} {k : Nat} (h : Rw w (.slice (some ⟨g, 0, none⟩) n c) xs) (hn : n = xs.length) (hk : k < xs.length) : w.cell? ⟨g, k, none⟩ = some (.int .i64 xs[k]) := by
  subst hn
  rw [World.ownsRow.cellAt h k (by omega)]; exact ints_get (by simp)

theorem rw_free {w : World} {g c n : Nat} {xs : List Int} (h : Rw w (.slice (some ⟨g, 0, none⟩) n c) xs) (hn : n = xs.length) (k : Nat) : w.frozen? ⟨g, k, none⟩ = false := by
  subst hn
  exact World.ownsRow.frozenAt h k

theorem rw_set {w : World} {g c n : Nat} {xs : List Int} (h : Rw w (.slice (some ⟨g, 0, none⟩) n c) xs) (hn : n = xs.length) (k : Nat) (x : Int) : Rw (w.setCell ⟨g, k, none⟩ (.int .i64 x)) (.slice (some ⟨g, 0, none⟩) n c) (xs.set k x) := by
  subst hn
  have := (World.ownsRow.stored h k (.int .i64 x)).1
  rw [ints_set] at this
  unfold Rw
  rw [List.length_set]
  exact this

/-- x[:k] of a row. -/
theorem rw_take {w : World} {g c n : Nat} {xs : List Int} (h : Rw w (.slice (some ⟨g, 0, none⟩) n c) xs) (hn : n = xs.length) {k : Nat} (hk : k ≤ xs.length) : Rw w (.slice (some ⟨g, 0, none⟩) k c) (xs.take k) := by
  subst hn
  refine ⟨by simp, ?_⟩
  rcases h.2 with ⟨h0, _⟩ | ⟨g', cap, cur, e1, e2, e3, e4, e5, e6, e7⟩
  · cases h0
  · injection e1 with a1 a2 a3
    have hl : (xs.take k).length = k := by simp; omega
    refine .inr ⟨g', cap, cur, ?_, e2, e3, by omega, e5, e6, ?_⟩
    · rw [hl, a1, a3]
    · rw [hl]
      have : (ints (xs.take k)) = (ints xs).take k := by simp [ints]
      rw [this, ← e7, List.take_take]
      congr 1
      omega

theorem rw_apart {w : World} {b : Nat} {cs : Array Value} {e : TypeId} {m : Nat × Nat} {v : Value} {xs : List Int} (h : Rw w v xs) (hb : w.heap[b]? = some (.cells cs e m)) (hne : e ≠ 3) : v.ownBlock ≠ some b := by
  intro he
  rcases h.2 with ⟨rfl, _⟩ | ⟨g, cap, cur, rfl, _, hg, _⟩
  · simp [Value.ownBlock] at he
  · simp only [Value.ownBlock, Option.some.injEq] at he
    rw [he, hb] at hg
    simp at hg
    exact hne hg.2.1

end Go.Proofs.Ytacmfiikdbekbaa.Ord
