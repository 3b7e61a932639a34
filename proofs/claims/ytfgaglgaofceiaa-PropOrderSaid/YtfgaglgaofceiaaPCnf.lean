/- Plain definitions about formulas: what cnf.Check and cnf.First return. -/
import Derived.Test.YtfgaglgaofceiaaPHolds
namespace Go.Proofs.Ytfgaglgaofceiaa
open Go.RowKit

/-- weepholelaw02.Small. -/
def smallB (f : List (List Int)) : Bool := !((f.take 60).any (fun c => decide (40 < c.length))) && decide (f.length ≤ 60)

/-- cnf.Check. -/
def cnfCheck (n : Int) (f : List (List Int)) : Int :=
  if n < 0 ∨ 1048576 < n then 3 else if 1048576 < f.length then 5 else match f.find? (fun c => litCheck n c != 0) with | some c => litCheck n c | none => 0

/-- The index of the first clause that does not hold. -/
def firstIdx (m : List Bool) (f : List (List Int)) : Int := match f.findIdx? (fun c => !holdsB m c) with | some i => i | none => -1

/-- cnf.First: the index and the error. -/
def cnfFirst (n : Int) (f : List (List Int)) (m : List Bool) : Int × Int :=
  if cnfCheck n f ≠ 0 then (0, cnfCheck n f) else if (m.length : Int) ≠ n then (0, 2) else (firstIdx m f, 0)

theorem cnfCheck_range {n : Int} {f : List (List Int)} (h : n < 0 ∨ 1048576 < n) : cnfCheck n f = 3 := by simp [cnfCheck, h]
theorem cnfCheck_long {n : Int} {f : List (List Int)} (h : 0 ≤ n ∧ n ≤ 1048576) (hl : (1048576 : Int) < f.length) : cnfCheck n f = 5 := by
  unfold cnfCheck; rw [if_neg (by omega), if_pos (by omega)]
theorem cnfCheck_find {n : Int} {f : List (List Int)} (h : 0 ≤ n ∧ n ≤ 1048576) (hl : (f.length : Int) ≤ 1048576) : cnfCheck n f = match f.find? (fun c => litCheck n c != 0) with | some c => litCheck n c | none => 0 := by
  unfold cnfCheck; rw [if_neg (by omega), if_neg (by omega)]

/-- No clause before k has an error. -/
theorem find_none_take {α : Type} {p : α → Bool} {f : List α} {k : Nat} (hk : ¬ k < f.length) (h : (f.take k).any p = false) : f.find? p = none := by
  rw [List.take_of_length_le (by omega)] at h
  rw [List.find?_eq_none]
  intro x hx
  rw [List.any_eq_false] at h
  exact h x hx

theorem find_some_take {α : Type} {p : α → Bool} {f : List α} {k : Nat} {c : α} (hc : f[k]? = some c) (h : (f.take k).any p = false) (hp : p c = true) : f.find? p = some c := by
  obtain ⟨hk, rfl⟩ := List.getElem?_eq_some_iff.1 hc
  rw [List.find?_eq_some_iff_getElem]
  refine ⟨hp, k, hk, rfl, fun j hj => ?_⟩
  rw [List.any_eq_false] at h
  have := h f[j] (List.mem_take_iff_getElem.2 ⟨j, by omega, rfl⟩)
  simpa using this

theorem findIdx_none_take {α : Type} {p : α → Bool} {f : List α} {k : Nat} (hk : ¬ k < f.length) (h : (f.take k).any p = false) : f.findIdx? p = none := by
  rw [List.take_of_length_le (by omega)] at h
  rw [List.findIdx?_eq_none_iff]
  intro x hx
  rw [List.any_eq_false] at h
  simpa using h x hx

theorem findIdx_some_take {α : Type} {p : α → Bool} {f : List α} {k : Nat} {c : α} (hc : f[k]? = some c) (h : (f.take k).any p = false) (hp : p c = true) : f.findIdx? p = some k := by
  obtain ⟨hk, rfl⟩ := List.getElem?_eq_some_iff.1 hc
  rw [List.findIdx?_eq_some_iff_getElem]
  refine ⟨hk, hp, fun j hj => ?_⟩
  rw [List.any_eq_false] at h
  have := h f[j] (List.mem_take_iff_getElem.2 ⟨j, by omega, rfl⟩)
  simpa using this

theorem cnfCheck_bad {n e : Int} {f : List (List Int)} {k : Nat} {c : List Int} (h : 0 ≤ n ∧ n ≤ 1048576) (hl : (f.length : Int) ≤ 1048576) (hc : f[k]? = some c) (hr : (f.take k).any (fun c => litCheck n c != 0) = false)
    (he : litCheck n c = e) (h0 : (e != 0) = true) : cnfCheck n f = e := by
  rw [cnfCheck_find h hl, find_some_take hc hr (by rw [he]; exact h0)]; exact he

theorem cnfCheck_ok {n : Int} {f : List (List Int)} {k : Nat} (h : 0 ≤ n ∧ n ≤ 1048576) (hl : (f.length : Int) ≤ 1048576) (hk : ¬ k < f.length) (hr : (f.take k).any (fun c => litCheck n c != 0) = false) : cnfCheck n f = 0 := by
  rw [cnfCheck_find h hl, find_none_take hk hr]

theorem firstIdx_at {m : List Bool} {f : List (List Int)} {k : Nat} {c : List Int} (hc : f[k]? = some c) (hr : (f.take k).any (fun c => !holdsB m c) = false) (hh : holdsB m c = false) : firstIdx m f = k := by
  unfold firstIdx; rw [findIdx_some_take hc hr (by simp [hh])]

theorem firstIdx_none {m : List Bool} {f : List (List Int)} {k : Nat} (hk : ¬ k < f.length) (hr : (f.take k).any (fun c => !holdsB m c) = false) : firstIdx m f = -1 := by
  unfold firstIdx; rw [findIdx_none_take hk hr]

theorem smallB_at {f : List (List Int)} {k : Nat} {c : List Int} (hk : k < 60) (hc : f[k]? = some c) (h : (40 : Int) < c.length) : smallB f = false := by
  unfold smallB
  have : (f.take 60).any (fun c => decide (40 < c.length)) = true := List.any_eq_true.2 ⟨c, List.mem_of_getElem? (i := k) (by rw [List.getElem?_take, if_pos hk]; exact hc), by simp; omega⟩
  simp [this]

theorem smallB_end {f : List (List Int)} {k : Nat} (hk : ¬ k < f.length ∨ k = 60) (hr : (f.take k).any (fun c => decide (40 < c.length)) = false) : smallB f = decide (f.length ≤ 60) := by
  unfold smallB
  rcases hk with h | rfl
  · by_cases hl : f.length ≤ 60
    · rw [List.take_of_length_le (by omega)] at hr
      rw [List.take_of_length_le hl, hr]; simp [hl]
    · simp [hl]
  · rw [hr]; simp

theorem smallB_le {f : List (List Int)} (h : smallB f = true) : f.length ≤ 60 ∧ ∀ c ∈ f, c.length ≤ 40 := by
  unfold smallB at h
  simp only [Bool.and_eq_true, Bool.not_eq_true', decide_eq_true_eq] at h
  obtain ⟨h1, h2⟩ := h
  refine ⟨h2, fun c hc => ?_⟩
  rw [List.take_of_length_le h2, List.any_eq_false] at h1
  have := h1 c hc
  simpa using this

end Go.Proofs.Ytfgaglgaofceiaa
