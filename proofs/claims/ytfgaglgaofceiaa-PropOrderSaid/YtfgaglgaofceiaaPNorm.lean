/- Plain facts about lit.Norm's literals, used by its walk. -/
import Derived.Test.YtfgaglgaofceiaaPLit
import Derived.Test.YtfgaglgaofceiaaOwn
namespace Go.Proofs.Ytfgaglgaofceiaa
open Go.RowKit

/-- What lit.Norm has after the sort: without a leading 0. -/
def normL (xs : List Int) : List Int := if (msort xs.length xs).head? = some 0 then (msort xs.length xs).tail else msort xs.length xs

/-- The elements i-1 and i are a literal and its negative. -/
def adjAt (l : List Int) (i : Nat) : Bool := decide (1 ≤ i) && ((l.getD i 0).natAbs == (l.getD (i - 1) 0).natAbs)

/-- Two neighbours are a literal and its negative. -/
def adjB (l : List Int) : Bool := (List.range l.length).any (adjAt l)

/-- lit.Norm's literals. -/
def normV (xs : List Int) : List Int := if adjB (normL xs) then [] else normL xs

theorem range_any_succ {p : Nat → Bool} {k : Nat} (h : (List.range k).any p = false) (hp : p k = false) : (List.range (k + 1)).any p = false := by
  rw [List.range_succ, List.any_append, h]; simp [hp]

theorem range_any_of {p : Nat → Bool} {k n : Nat} (hk : k < n) (hp : p k = true) : (List.range n).any p = true :=
  List.any_eq_true.2 ⟨k, List.mem_range.2 hk, hp⟩

theorem mem_normL {x : Int} {xs : List Int} (h : x ∈ normL xs) : x ∈ xs := by
  unfold normL at h
  split at h
  · exact mem_msort xs.length xs (List.mem_of_mem_tail h)
  · exact mem_msort xs.length xs h

theorem normL_length (xs : List Int) : (normL xs).length ≤ xs.length := by
  have := msort_length xs.length xs
  unfold normL
  split
  · simp; omega
  · exact this

theorem normL_nil {xs : List Int} (h : msort xs.length xs = []) : normL xs = [] := by unfold normL; rw [h]; simp
theorem normL_zero {xs t : List Int} (h : msort xs.length xs = 0 :: t) : normL xs = t := by unfold normL; rw [h]; simp
theorem normL_cons {xs t : List Int} {x : Int} (h : msort xs.length xs = x :: t) (hx : x ≠ 0) : normL xs = x :: t := by
  unfold normL; rw [h]; simp [hx]

theorem adjAt_succ {l : List Int} {j : Nat} {x y : Int} (hx : l[j + 1]? = some x) (hy : l[j]? = some y) : adjAt l (j + 1) = (x.natAbs == y.natAbs) := by
  simp [adjAt, hx, hy]

theorem adjB_of {l : List Int} {j : Nat} {x y : Int} (hx : l[j + 1]? = some x) (hy : l[j]? = some y) (h : ((x.natAbs : Int) == y.natAbs) = true) : adjB l = true := by
  refine range_any_of (k := j + 1) (List.getElem?_eq_some_iff.1 hx).1 ?_
  rw [adjAt_succ hx hy]
  simp at h ⊢; omega

theorem adjB_not {l : List Int} {j : Nat} (hj : ¬ j + 1 < l.length) (h : (List.range (j + 1)).any (adjAt l) = false) : adjB l = false := by
  rw [adjB, List.any_eq_false] at *
  intro i hi
  exact h i (by simp at hi ⊢; omega)

theorem adj_step {l : List Int} {j : Nat} {x y : Int} (hx : l[j + 1]? = some x) (hy : l[j]? = some y) (h : ((x.natAbs : Int) == y.natAbs) = false) (hr : (List.range (j + 1)).any (adjAt l) = false) :
    (List.range (j + 1 + 1)).any (adjAt l) = false := by
  refine range_any_succ hr ?_
  rw [adjAt_succ hx hy]
  simp at h ⊢; omega

theorem normV_true {xs : List Int} (h : adjB (normL xs) = true) : normV xs = [] := by simp [normV, h]
theorem normV_false {xs : List Int} (h : adjB (normL xs) = false) : normV xs = normL xs := by simp [normV, h]

theorem ownT_shape {e : TypeId} {w : World} {B : Nat} {v : Value} {xs : List Int} (h : OwnT e w B v xs) : ∃ a c, v = .slice a xs.length c ∧ OwnT e w B (.slice a xs.length c) xs := by
  have h' := h
  obtain ⟨a, c, h1, -⟩ := h
  exact ⟨a, c, h1, h1 ▸ h'⟩

theorem OwnT.slv {e : TypeId} {w : World} {B n c : Nat} {a : Option Addr} {xs : List Int} (h : OwnT e w B (.slice a n c) xs) : SlV w a (ints xs) := by
  obtain ⟨a', c', h1, -, -, h4⟩ := h.sli
  simp only [Value.slice.injEq] at h1
  obtain ⟨rfl, -, -⟩ := h1
  exact h4

end Go.Proofs.Ytfgaglgaofceiaa
