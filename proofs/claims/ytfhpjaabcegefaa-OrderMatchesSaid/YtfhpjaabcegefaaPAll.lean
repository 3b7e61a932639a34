/- What all pops: plain facts. -/
import Derived.Test.YtfhpjaabcegefaaPPop
import Derived.Test.YtfhpjaabcegefaaHeapP
namespace Go.Proofs.Ytfhpjaabcegefaa.Ord

/-- At most n pops. -/
def popSeq (A : List Int) : Nat → List Bool → List Int
  | 0, _ => []
  | n + 1, In => if popV A In = 0 then [] else popV A In :: popSeq A n (popIn A In)

/-- All that is in, in the order in which it is popped. -/
def popAll (A : List Int) (In : List Bool) : List Int := popSeq A (In.countP id) In

theorem popIn_length (A : List Int) (In : List Bool) : (popIn A In).length = In.length := by unfold popIn; split <;> simp

theorem popIn_count {A : List Int} {In : List Bool} (h : popV A In ≠ 0) : (popIn A In).countP id + 1 = In.countP id := by
  obtain ⟨h1, h2, h3, -⟩ := popV_spec h
  obtain ⟨j, hj⟩ : ∃ j, (popV A In - 1).toNat = j := ⟨_, rfl⟩
  unfold popIn
  rw [if_neg h, hj]
  rw [hj] at h3
  obtain ⟨hl, hg⟩ := List.getElem?_eq_some_iff.1 h3
  rw [List.countP_set hl]
  have : 0 < In.countP id := List.countP_pos_iff.2 ⟨_, List.getElem_mem hl, by simp [hg]⟩
  simp [hg]
  omega

theorem all_false {In : List Bool} (h : ∀ i : Nat, In.getD i false = false) : In = List.replicate In.length false := by
  refine List.ext_getElem (by simp) fun i h1 h2 => ?_
  have := h i
  simp only [List.getD_eq_getElem?_getD, List.getElem?_eq_getElem h1, Option.getD_some] at this
  simp [this]

theorem popV_zero {A : List Int} {In : List Bool} (h : popV A In = 0) : In = List.replicate In.length false := by
  refine all_false fun i => ?_
  unfold popV at h
  rcases popTo_spec A In In.length with ⟨_, h2⟩ | ⟨h2, _⟩
  · by_cases hi : i < In.length
    · exact h2 i hi
    · simp [List.getD_eq_getElem?_getD, List.getElem?_eq_none (Nat.le_of_not_lt hi)]
  · omega

theorem popV_zero_count {A : List Int} {In : List Bool} (h : popV A In = 0) : In.countP id = 0 := by
  rw [popV_zero h, List.countP_replicate]; rfl

theorem popAll_nil {A : List Int} {In : List Bool} (h : popV A In = 0) : popAll A In = [] := by
  unfold popAll; rw [popV_zero_count h]; rfl

theorem popAll_cons {A : List Int} {In : List Bool} (h : popV A In ≠ 0) : popAll A In = popV A In :: popAll A (popIn A In) := by
  unfold popAll
  rw [← popIn_count h]
  simp only [popSeq]
  rw [if_neg h]

theorem popAll_length (A : List Int) : ∀ (n : Nat) (In : List Bool), In.countP id = n → (popAll A In).length = n
  | 0, In, h => by unfold popAll; rw [h]; rfl
  | n + 1, In, h => by
    have hz : popV A In ≠ 0 := fun e => by rw [popV_zero_count e] at h; cases h
    rw [popAll_cons hz, List.length_cons, popAll_length A n _ (by have := popIn_count hz; omega)]

end Go.Proofs.Ytfhpjaabcegefaa.Ord
