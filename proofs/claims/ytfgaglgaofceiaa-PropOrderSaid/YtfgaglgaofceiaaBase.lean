/- Plain definitions and lemmas that all texts of this seat use: integers that fit 64 bits, what a slice of one-cell elements reads as, and that such readings are kept when new memory is made. -/
import Derived.WalkKit
import Derived.WalkSpells
import Derived.WalkLawsBesides
import Derived.Deep.QuietTactic
import Derived.BigQuiet
namespace Go.Proofs.Ytfgaglgaofceiaa
open Go.RowKit

/-- A fact kept from the walk. -/
theorem hid {p : Prop} (h : p) : Hid p := h

/-- A contract of a callee that draws nothing, met in a region whose order is open. -/
theorem quiet_same {P : Program} {f : FuncId} {args : Array Value} {w : World} {n : Nat} {v : Value}
    (h : Calls P f args (w.drewN n) fun e w' => e = .returned v ∧ w.drewN n = w') : Calls P f args (w.drewN n) fun e w'' => e = .returned v ∧ ∃ m, w'' = w.drewN m :=
  h.mono fun _ _ ⟨he, hm⟩ => ⟨he, n, hm.symm⟩

/-- The same behind an earlier region's draws. -/
theorem quiet_same2 {P : Program} {f : FuncId} {args : Array Value} {w : World} {k n : Nat} {v : Value}
    (h : Calls P f args (w.drewN (k + n)) fun e w' => e = .returned v ∧ w.drewN (k + n) = w') : Calls P f args (w.drewN (k + n)) fun e w'' => e = .returned v ∧ ∃ m, w'' = w.drewN (k + m) :=
  h.mono fun _ _ ⟨he, hm⟩ => ⟨he, n, hm.symm⟩

/-- The number fits an int. -/
def I64 (x : Int) : Prop := -9223372036854775808 ≤ x ∧ x ≤ 9223372036854775807

/-- The slice value with the address 'a' reads as the values 'vs' (one cell each). -/
def SlV (w : World) (a : Option Addr) (vs : List Value) : Prop :=
  ∀ j v, vs[j]? = some v → ∃ b off, a = some ⟨b, off, none⟩ ∧ w.cell? ⟨b, off + j, none⟩ = some v

/-- A list of ints as values. -/
def ints (xs : List Int) : List Value := xs.map (Value.int .i64)

@[simp] theorem ints_length (xs : List Int) : (ints xs).length = xs.length := by simp [ints]

theorem SlV.nil (w : World) (a : Option Addr) : SlV w a [] := fun j _ h => by simp at h

theorem SlV.keep {w w' : World} {a : Option Addr} {vs : List Value} (h : SlV w a vs) (hk : ∀ p v, w.cell? p = some v → w'.cell? p = some v) : SlV w' a vs :=
  fun j v hj => let ⟨b, off, ha, hc⟩ := h j v hj; ⟨b, off, ha, hk _ _ hc⟩

theorem below_keeps {w w' : World} (h : Below w.heap.size w w') : ∀ p v, w.cell? p = some v → w'.cell? p = some v :=
  fun p _ hp => (h.cell (World.block_lt_of_cell? w p hp)).trans hp

theorem SlV.below {w w' : World} {a : Option Addr} {vs : List Value} (h : SlV w a vs) (hb : Below w.heap.size w w') : SlV w' a vs :=
  h.keep (below_keeps hb)

/-- One element of a slice of ints. -/
theorem SlV.int {w : World} {a : Option Addr} {xs : List Int} (h : SlV w a (ints xs)) {k : Nat} (hk : k < xs.length) :
    ∃ b off x, a = some ⟨b, off, none⟩ ∧ w.cell? ⟨b, off + k, none⟩ = some (.int .i64 x) ∧ xs[k]? = some x := by
  obtain ⟨b, off, ha, hc⟩ := h k (.int .i64 xs[k]) (by simp [ints, hk])
  exact ⟨b, off, xs[k], ha, hc, by simp [hk]⟩

/-- A list of bools as values. -/
def bools (xs : List Bool) : List Value := xs.map Value.bool

@[simp] theorem bools_length (xs : List Bool) : (bools xs).length = xs.length := by simp [bools]

/-- One element of a slice of bools. -/
theorem SlV.bool {w : World} {a : Option Addr} {xs : List Bool} (h : SlV w a (bools xs)) {k : Nat} (hk : k < xs.length) :
    ∃ b off x, a = some ⟨b, off, none⟩ ∧ w.cell? ⟨b, off + k, none⟩ = some (.bool x) ∧ xs[k]? = some x := by
  obtain ⟨b, off, ha, hc⟩ := h k (.bool xs[k]) (by simp [bools, hk])
  exact ⟨b, off, xs[k], ha, hc, by simp [hk]⟩

theorem ints_take_succ {xs : List Int} {k : Nat} {x : Int} (h : xs[k]? = some x) : ints (xs.take k) ++ [Value.int .i64 x] = ints (xs.take (k + 1)) := by
  simp [ints, List.take_add_one, h]

theorem bools_take_succ {xs : List Bool} {k : Nat} {x : Bool} (h : xs[k]? = some x) : bools (xs.take k) ++ [Value.bool x] = bools (xs.take (k + 1)) := by
  simp [bools, List.take_add_one, h]

/-- The slice value 'v' reads as the values 'vs'. -/
def Sl (w : World) (v : Value) (vs : List Value) : Prop :=
  ∃ a c, v = .slice a vs.length c ∧ vs.length ≤ c ∧ (a = none → c = 0) ∧ SlV w a vs

theorem Sl.below {w w' : World} {v : Value} {vs : List Value} (h : Sl w v vs) (hb : Below w.heap.size w w') : Sl w' v vs :=
  let ⟨a, c, h1, h2, h3, h4⟩ := h; ⟨a, c, h1, h2, h3, h4.below hb⟩

/-- What a row of the call's own reads as. -/
theorem own_sl {w : World} {B e n : Nat} {v : Value} {vs : List Value} (h : w.ownsRow B e 1 v n vs) : Sl w v vs := by
  have hn : n = vs.length := by have := h.1; omega
  rcases h.2 with ⟨rfl, h0⟩ | ⟨g, cap, cur, rfl, _, hg, hle, _, _, ht⟩
  · subst h0
    have : vs = [] := List.eq_nil_of_length_eq_zero (by omega)
    subst this
    exact ⟨none, 0, rfl, Nat.le_refl _, fun _ => rfl, SlV.nil _ _⟩
  · refine ⟨some ⟨g, 0, none⟩, cap, by rw [hn], by omega, nofun, fun j u hj => ⟨g, 0, rfl, ?_⟩⟩
    have := h.cells (g := g) rfl j u hj
    unfold Addr.add at this
    split at this
    · rename_i h0; subst h0; simpa using this
    · simpa using this

/-- The slice value 'v' reads as the ints 'xs'. -/
def SlI (w : World) (v : Value) (xs : List Int) : Prop :=
  ∃ a c, v = .slice a xs.length c ∧ xs.length ≤ c ∧ (a = none → c = 0) ∧ SlV w a (ints xs)

theorem SlI.below {w w' : World} {v : Value} {xs : List Int} (h : SlI w v xs) (hb : Below w.heap.size w w') : SlI w' v xs :=
  let ⟨a, c, h1, h2, h3, h4⟩ := h; ⟨a, c, h1, h2, h3, h4.below hb⟩

theorem own_sli {w : World} {B e n : Nat} {v : Value} {xs : List Int} (h : w.ownsRow B e 1 v n (ints xs)) : SlI w v xs := by
  obtain ⟨a, c, h1, h2, h3, h4⟩ := own_sl h
  simp only [ints_length] at h1 h2
  exact ⟨a, c, h1, h2, h3, h4⟩

theorem own_base {w : World} {B B' e size n : Nat} {v : Value} {vs : List Value} (h : w.ownsRow B e size v n vs) (hB : B' ≤ B) : w.ownsRow B' e size v n vs := by
  refine ⟨h.1, ?_⟩
  rcases h.2 with h0 | ⟨g, cap, cur, h1, h2, h3⟩
  · exact .inl h0
  · exact .inr ⟨g, cap, cur, h1, by omega, h3⟩

theorem ints_append (xs ys : List Int) : ints (xs ++ ys) = ints xs ++ ints ys := by simp [ints]

/-- The first element of a slice of ints. -/
theorem SlV.head {w : World} {a : Option Addr} {x : Int} {xs : List Int} (h : SlV w a (ints (x :: xs))) :
    ∃ b off, a = some ⟨b, off, none⟩ ∧ w.cell? ⟨b, off, none⟩ = some (.int .i64 x) := by
  obtain ⟨b, off, ha, hc⟩ := h 0 (.int .i64 x) (by simp [ints])
  exact ⟨b, off, ha, hc⟩

theorem below_dr {B : Nat} {a w : World} (h : Below B a w) (n : Nat) : Below B a (w.drewN n) := h.trans ⟨rfl, rfl, rfl, Nat.le_refl _, fun _ _ => rfl⟩

theorem SlV.drewN {w : World} {a : Option Addr} {vs : List Value} (h : SlV w a vs) (n : Nat) : SlV (w.drewN n) a vs := h

/-- Equality of two lists of ints, as a Bool. -/
def eqI (xs ys : List Int) : Bool := decide (xs = ys)

theorem eqI_len {xs ys : List Int} (h : ¬ xs.length = ys.length) : eqI xs ys = false := by
  simp [eqI]; intro e; exact h (by rw [e])
theorem eqI_at {xs ys : List Int} {k : Nat} {x y : Int} (hx : xs[k]? = some x) (hy : ys[k]? = some y) (h : ¬ x = y) : eqI xs ys = false := by
  simp [eqI]; intro e; rw [e, hy] at hx; simp at hx; exact h hx.symm
theorem take_eq_succ {α : Type} {xs ys : List α} {k : Nat} {x : α} (h : xs.take k = ys.take k) (hx : xs[k]? = some x) (hy : ys[k]? = some x) : xs.take (k + 1) = ys.take (k + 1) := by
  rw [List.take_add_one, List.take_add_one, h, hx, hy]
theorem eqI_all {xs ys : List Int} {k : Nat} (hk : ¬ k < xs.length) (hl : xs.length = ys.length) (h : xs.take k = ys.take k) : eqI xs ys = true := by
  rw [List.take_of_length_le (by omega), List.take_of_length_le (by omega)] at h
  simp [eqI, h]

end Go.Proofs.Ytfgaglgaofceiaa
