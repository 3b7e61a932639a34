/- Plain facts for the law CnfNormal: Norm's clauses in place of a formula's. -/
import Derived.Test.YtaekcejenagbgaaPMeans
import Derived.Test.YtaekcejenagbgaaPCnf
namespace Go.Proofs.Ytaekcejenagbgaa
open Go.RowKit

/-- The clauses that do not always hold, each as Norm returns it. -/
def normF (f : List (List Int)) : List (List Int) := (f.filter (fun c => !adjB (normL c))).map normV

theorem normF_skip {f : List (List Int)} {k : Nat} {c : List Int} (hc : f[k]? = some c) (h : adjB (normL c) = true) : normF (f.take (k + 1)) = normF (f.take k) := by
  simp [normF, List.take_add_one, hc, h]

theorem normF_keep {f : List (List Int)} {k : Nat} {c : List Int} (hc : f[k]? = some c) (h : adjB (normL c) = false) : normF (f.take (k + 1)) = normF (f.take k) ++ [normV c] := by
  simp [normF, List.take_add_one, hc, h]

theorem normF_length (f : List (List Int)) : (normF f).length ≤ f.length := by
  simp only [normF, List.length_map]
  exact List.length_filter_le _ _

theorem mem_normF {f : List (List Int)} {d : List Int} : d ∈ normF f ↔ ∃ c ∈ f, adjB (normL c) = false ∧ normV c = d := by
  simp only [normF, List.mem_map, List.mem_filter, Bool.not_eq_true']
  constructor
  · rintro ⟨c, ⟨h1, h2⟩, h3⟩; exact ⟨c, h1, h2, h3⟩
  · rintro ⟨c, h1, h2, h3⟩; exact ⟨c, ⟨h1, h2⟩, h3⟩

theorem firstIdx_iff (m : List Bool) (f : List (List Int)) : firstIdx m f = -1 ↔ ∀ c ∈ f, holdsB m c = true := by
  unfold firstIdx
  cases h : f.findIdx? (fun c => !holdsB m c) with
  | none =>
    rw [List.findIdx?_eq_none_iff] at h
    simp only [true_iff]
    intro c hc
    simpa using h c hc
  | some i =>
    rw [List.findIdx?_eq_some_iff_getElem] at h
    obtain ⟨h1, h2, _⟩ := h
    constructor
    · intro h3; exact absurd h3 (by show ¬ ((i : Int) = -1); omega)
    · intro h3
      have := h3 f[i] (by simp)
      rw [this] at h2; cases h2

theorem normF_holds {m : List Bool} {f : List (List Int)} (h : ∀ c ∈ f, ∀ x ∈ c, x ≠ 0 ∧ x.natAbs ≤ m.length) : (firstIdx m f == -1) = (firstIdx m (normF f) == -1) := by
  rw [Bool.eq_iff_iff, beq_iff_eq, beq_iff_eq, firstIdx_iff, firstIdx_iff]
  constructor
  · intro hh d hd
    obtain ⟨c, hc, ha, rfl⟩ := mem_normF.1 hd
    rw [normV_false ha, holdsB_normL]; exact hh c hc
  · intro hh c hc
    rw [holds_means (h c hc)]
    cases ha : adjB (normL c) with
    | true => rfl
    | false => rw [Bool.false_or]; exact hh _ (mem_normF.2 ⟨c, hc, ha, rfl⟩)

theorem normV_sub {c : List Int} {x : Int} (h : x ∈ normV c) : x ∈ c := by
  unfold normV at h
  split at h
  · simp at h
  · exact mem_normL h

theorem normV_len (c : List Int) : (normV c).length ≤ c.length := by
  unfold normV
  split
  · simp
  · exact normL_length c

theorem litCheck_normV {n : Int} {c : List Int} (h : litCheck n c = 0) : litCheck n (normV c) = 0 := by
  unfold litCheck at *
  split at h
  · cases h
  · rename_i h0
    rw [if_neg h0]
    split at h
    · cases h
    · rename_i h1
      have := normV_len c
      rw [if_neg (by omega)]
      split at h
      · cases h
      · rename_i h2
        rw [if_neg]
        simp only [List.any_eq_true, not_exists, not_and, Bool.not_eq_true] at h2 ⊢
        exact fun x hx => h2 x (normV_sub hx)

theorem cnfCheck_iff {n : Int} {f : List (List Int)} : cnfCheck n f = 0 ↔ 0 ≤ n ∧ n ≤ 1048576 ∧ (f.length : Int) ≤ 1048576 ∧ ∀ c ∈ f, litCheck n c = 0 := by
  unfold cnfCheck
  by_cases h0 : n < 0 ∨ 1048576 < n
  · rw [if_pos h0]; constructor
    · intro h; cases h
    · intro h; omega
  · rw [if_neg h0]
    by_cases h1 : 1048576 < f.length
    · rw [if_pos h1]; constructor
      · intro h; cases h
      · intro h; omega
    · rw [if_neg h1]
      cases hf : f.find? (fun c => litCheck n c != 0) with
      | some c =>
        have h2 := List.find?_some hf
        have h3 := List.mem_of_find?_eq_some hf
        simp only [bne_iff_ne, ne_eq] at h2
        constructor
        · intro h; exact absurd h h2
        · intro h; exact absurd (h.2.2.2 c h3) h2
      | none =>
        rw [List.find?_eq_none] at hf
        refine ⟨fun _ => ⟨by omega, by omega, by omega, fun c hc => by simpa using hf c hc⟩, fun _ => rfl⟩

theorem cnfCheck_normF {n : Int} {f : List (List Int)} (h : cnfCheck n f = 0) : cnfCheck n (normF f) = 0 := by
  rw [cnfCheck_iff] at *
  have := normF_length f
  refine ⟨h.1, h.2.1, by omega, fun d hd => ?_⟩
  obtain ⟨c, hc, _, rfl⟩ := mem_normF.1 hd
  exact litCheck_normV (h.2.2.2 c hc)

end Go.Proofs.Ytaekcejenagbgaa
