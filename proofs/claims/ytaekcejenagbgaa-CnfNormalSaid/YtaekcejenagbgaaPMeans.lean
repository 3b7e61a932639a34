/- Plain facts for the law LitMeans: a clause holds exactly if what Norm makes of it does. -/
import Derived.Test.YtaekcejenagbgaaPNormal
import Derived.Test.YtaekcejenagbgaaPHolds
import Derived.Test.YtaekcejenagbgaaPFit
namespace Go.Proofs.Ytaekcejenagbgaa
open Go.RowKit

theorem holdsB_congr {m : List Bool} {c d : List Int} (h : ∀ x, x ≠ 0 → (x ∈ c ↔ x ∈ d)) : holdsB m c = holdsB m d := by
  rw [Bool.eq_iff_iff]
  simp only [holdsB, List.any_eq_true]
  constructor
  · rintro ⟨x, hx, hh⟩
    by_cases h0 : x = 0
    · rw [litHolds_zero h0] at hh; cases hh
    · exact ⟨x, (h x h0).1 hx, hh⟩
  · rintro ⟨x, hx, hh⟩
    by_cases h0 : x = 0
    · rw [litHolds_zero h0] at hh; cases hh
    · exact ⟨x, (h x h0).2 hx, hh⟩

theorem holdsB_normL (m : List Bool) (c : List Int) : holdsB m (normL c) = holdsB m c :=
  holdsB_congr fun x h0 => by rw [mem_normL_iff]; exact ⟨fun h => h.1, fun h => ⟨h, h0⟩⟩

theorem adjB_normL_iff {c : List Int} : adjB (normL c) = true ↔ ∃ x ∈ c, x ≠ 0 ∧ -x ∈ c := by
  rw [adjB_iff (asc_normL c) (fun x hx => (mem_normL_iff.1 hx).2)]
  constructor
  · rintro ⟨x, hx, hn⟩
    rw [mem_normL_iff] at hx hn
    exact ⟨x, hx.1, hx.2, hn.1⟩
  · rintro ⟨x, hx, h0, hn⟩
    exact ⟨x, mem_normL_iff.2 ⟨hx, h0⟩, mem_normL_iff.2 ⟨hn, by omega⟩⟩

/-- A clause of the model's variables holds exactly if it always does or what Norm returns does. -/
theorem holds_means {m : List Bool} {c : List Int} (h : ∀ x ∈ c, x ≠ 0 ∧ x.natAbs ≤ m.length) : holdsB m c = (adjB (normL c) || holdsB m (normV c)) := by
  cases hr : adjB (normL c) with
  | false => rw [normV_false hr, holdsB_normL]; rfl
  | true =>
    obtain ⟨x, hx, h0, hn⟩ := adjB_normL_iff.1 hr
    have h1 := litHolds_or m x
    rw [decide_eq_true (⟨by omega, (h x hx).2⟩ : 1 ≤ x.natAbs ∧ x.natAbs ≤ m.length)] at h1
    have : holdsB m c = true := by
      simp only [holdsB, List.any_eq_true]
      rcases Bool.or_eq_true_iff.1 h1 with h1 | h1
      · exact ⟨x, hx, h1⟩
      · exact ⟨-x, hn, h1⟩
    rw [this]; rfl

theorem holds_empty {m : List Bool} {c : List Int} (hr : adjB (normL c) = false) (he : (normV c).length = 0) : holdsB m c = false := by
  rw [← holdsB_normL, ← normV_false hr, List.eq_nil_of_length_eq_zero he]; rfl

theorem bools_set (bs : List Bool) (k : Nat) (b : Bool) : (bools bs).set k (.bool b) = bools (bs.set k b) := by simp [bools, List.map_set]

theorem madeBools (n : Nat) : (madeCells (Value.bool false).cells (n * 1)).toList = bools (List.replicate n false) := by
  simp only [madeCells, Value.cells, Nat.mul_one, Array.toList_map, Array.toList_range, bools]
  refine List.ext_getElem? fun i => ?_
  by_cases hi : i < n
  · simp [hi, Nat.mod_one]
  · simp [hi]

end Go.Proofs.Ytaekcejenagbgaa
