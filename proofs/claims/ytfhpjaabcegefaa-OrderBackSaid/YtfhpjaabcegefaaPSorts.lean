/- What is popped is sorted, each variable once. Plain. -/
import Derived.Test.YtfhpjaabcegefaaPAll
namespace Go.Proofs.Ytfhpjaabcegefaa.Ord

theorem popIn_get {A : List Int} {In : List Bool} (hz : popV A In ≠ 0) {v : Int} (h : (popIn A In)[(v - 1).toNat]? = some true) : In[(v - 1).toNat]? = some true ∧ v ≠ popV A In := by
  have hs := popV_spec hz
  unfold popIn at h
  rw [if_neg hz, List.getElem?_set] at h
  split at h
  · rename_i he
    split at h <;> cases h
  · rename_i he
    exact ⟨h, fun e => he (by rw [e])⟩

theorem popAll_mem (A : List Int) : ∀ (n : Nat) (In : List Bool), In.countP id = n → ∀ v ∈ popAll A In, 1 ≤ v ∧ v ≤ In.length ∧ In[(v - 1).toNat]? = some true
  | 0, In, h, v, hv => by unfold popAll at hv; rw [h] at hv; cases hv
  | n + 1, In, h, v, hv => by
    have hz : popV A In ≠ 0 := fun e => by rw [popV_zero_count e] at h; cases h
    have hs := popV_spec hz
    rw [popAll_cons hz, List.mem_cons] at hv
    rcases hv with rfl | hv
    · exact ⟨hs.1, hs.2.1, hs.2.2.1⟩
    · have hm := popAll_mem A n (popIn A In) (by have := popIn_count hz; omega) v hv
      rw [popIn_length] at hm
      exact ⟨hm.1, hm.2.1, (popIn_get hz hm.2.2).1⟩

theorem popAll_pair (A : List Int) : ∀ (n : Nat) (In : List Bool), In.countP id = n → (popAll A In).Pairwise fun u v => v ≠ u ∧ bef A v u = false
  | 0, In, h => by unfold popAll; rw [h]; exact List.Pairwise.nil
  | n + 1, In, h => by
    have hz : popV A In ≠ 0 := fun e => by rw [popV_zero_count e] at h; cases h
    have hs := popV_spec hz
    have hc : (popIn A In).countP id = n := by have := popIn_count hz; omega
    rw [popAll_cons hz]
    refine List.Pairwise.cons (fun v hv => ?_) (popAll_pair A n _ hc)
    have hm := popAll_mem A n _ hc v hv
    obtain ⟨g1, g2⟩ := popIn_get hz hm.2.2
    exact ⟨g2, hs.2.2.2 v hm.1 g1⟩

end Go.Proofs.Ytfhpjaabcegefaa.Ord
