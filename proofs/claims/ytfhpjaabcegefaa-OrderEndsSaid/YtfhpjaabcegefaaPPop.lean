/- The abstract heap: activities and which variables are in; the variable that Pop takes. Plain. -/
import Derived.Test.YtfhpjaabcegefaaPHeapB
namespace Go.Proofs.Ytfhpjaabcegefaa

/-- One look of the reference's Pop: the best place so far (from 0 on; -1: none). -/
def popStep (A : List Int) (In : List Bool) (best : Int) (i : Nat) : Int :=
  if In.getD i false = true ∧ (best < 0 ∨ actv A (best + 1) < actv A ((i : Int) + 1)) then (i : Int) else best

/-- The best place after k looks. -/
def popTo (A : List Int) (In : List Bool) (k : Nat) : Int := (List.range k).foldl (popStep A In) (-1)

/-- What Pop takes: 0 if there is none. -/
def popV (A : List Int) (In : List Bool) : Int := popTo A In In.length + 1

theorem popTo_succ (A : List Int) (In : List Bool) (k : Nat) : popTo A In (k + 1) = popStep A In (popTo A In k) k := by
  simp [popTo, List.range_succ]

theorem popTo_spec (A : List Int) (In : List Bool) : ∀ k, (popTo A In k = -1 ∧ ∀ i, i < k → In.getD i false = false) ∨
    (0 ≤ popTo A In k ∧ popTo A In k < k ∧ In.getD (popTo A In k).toNat false = true ∧ ∀ i, i < k → In.getD i false = true → bef A ((i : Int) + 1) (popTo A In k + 1) = false) := by
  intro k
  induction k with
  | zero => exact Or.inl ⟨rfl, fun i h => by omega⟩
  | succ k ih =>
    rw [popTo_succ]
    unfold popStep
    by_cases hin : In.getD k false = true
    · rcases ih with ⟨h1, h2⟩ | ⟨h1, h2, h3, h4⟩
      · rw [if_pos ⟨hin, Or.inl (by omega)⟩]
        refine Or.inr ⟨by omega, by omega, by simpa using hin, fun i hi hi2 => ?_⟩
        by_cases hik : i = k
        · subst hik; exact nbef_self _ _
        · rw [h2 i (by omega)] at hi2; cases hi2
      · by_cases hb : actv A (popTo A In k + 1) < actv A ((k : Int) + 1)
        · rw [if_pos ⟨hin, Or.inr hb⟩]
          refine Or.inr ⟨by omega, by omega, by simpa using hin, fun i hi hi2 => ?_⟩
          by_cases hik : i = k
          · subst hik; exact nbef_self _ _
          · exact nbef_trans (h4 i (by omega) hi2) (nbef_of_bef (by rw [bef_iff]; exact Or.inl hb))
        · rw [if_neg (by rintro ⟨_, h | h⟩ <;> omega)]
          refine Or.inr ⟨h1, by omega, h3, fun i hi hi2 => ?_⟩
          by_cases hik : i = k
          · subst hik; rw [nbef_iff]; omega
          · exact h4 i (by omega) hi2
    · rw [if_neg (fun h => hin h.1)]
      have hin' : In.getD k false = false := by simpa using hin
      rcases ih with ⟨h1, h2⟩ | ⟨h1, h2, h3, h4⟩
      · exact Or.inl ⟨h1, fun i hi => by by_cases hik : i = k; · subst hik; exact hin'
                                         · exact h2 i (by omega)⟩
      · refine Or.inr ⟨h1, by omega, h3, fun i hi hi2 => ?_⟩
        by_cases hik : i = k
        · subst hik; rw [hin'] at hi2; cases hi2
        · exact h4 i (by omega) hi2

theorem getD_true {In : List Bool} {i : Nat} : In.getD i false = true ↔ In[i]? = some true := by
  rw [List.getD_eq_getElem?_getD]
  cases In[i]? with
  | none => simp
  | some b => simp

theorem popV_none {A : List Int} {In : List Bool} (h : ∀ i : Nat, In[i]? ≠ some true) : popV A In = 0 := by
  rcases popTo_spec A In In.length with ⟨h1, _⟩ | ⟨_, _, h3, _⟩
  · unfold popV; omega
  · exact absurd (getD_true.1 h3) (h _)

/-- What is in and behind which nothing comes is what Pop takes. -/
theorem popV_eq {A : List Int} {In : List Bool} {v : Int} (h1 : 1 ≤ v) (h2 : In[(v - 1).toNat]? = some true) (h3 : ∀ u : Int, 1 ≤ u → In[(u - 1).toNat]? = some true → bef A u v = false) : popV A In = v := by
  have hl : (v - 1).toNat < In.length := (List.getElem?_eq_some_iff.1 h2).1
  rcases popTo_spec A In In.length with ⟨_, h5⟩ | ⟨h5, h6, h7, h8⟩
  · rw [← getD_true, h5 _ hl] at h2; cases h2
  · have ha := h8 (v - 1).toNat hl (getD_true.2 h2)
    rw [show (((v - 1).toNat : Nat) : Int) + 1 = v by omega] at ha
    have hb := h3 (popTo A In In.length + 1) (by omega) (by rw [show (popTo A In In.length + 1 - 1).toNat = (popTo A In In.length).toNat by omega]; exact getD_true.1 h7)
    unfold popV
    exact bef_total hb ha

theorem popV_spec {A : List Int} {In : List Bool} (h : popV A In ≠ 0) : 1 ≤ popV A In ∧ popV A In ≤ In.length ∧ In[(popV A In - 1).toNat]? = some true ∧ ∀ u : Int, 1 ≤ u → In[(u - 1).toNat]? = some true → bef A u (popV A In) = false := by
  unfold popV at *
  rcases popTo_spec A In In.length with ⟨h1, _⟩ | ⟨h5, h6, h7, h8⟩
  · omega
  · refine ⟨by omega, by omega, by rw [show (popTo A In In.length + 1 - 1).toNat = (popTo A In In.length).toNat by omega]; exact getD_true.1 h7, fun u hu hin => ?_⟩
    have hl : (u - 1).toNat < In.length := (List.getElem?_eq_some_iff.1 hin).1
    have := h8 (u - 1).toNat hl (getD_true.2 hin)
    rwa [show (((u - 1).toNat : Nat) : Int) + 1 = u by omega] at this

theorem popV_range (A : List Int) (In : List Bool) : 0 ≤ popV A In ∧ popV A In ≤ In.length := by
  by_cases h : popV A In = 0
  · omega
  · have := popV_spec h; omega

/-- The variables of the items are those that are in. -/
def RelIn (I : List Int) (In : List Bool) : Prop := ∀ v : Int, 1 ≤ v → v ≤ In.length → (inI I v ↔ In[(v - 1).toNat]? = some true)

theorem pop_best {A I P : List Int} {In : List Bool} (hf : Fits I P) (ho : HeapOrd A I) (hl : P.length = In.length + 1) (hr : RelIn I In) (hI : 0 < I.length) : popV A In = at' I 0 := by
  have b0 := hf.2.1 0 hI
  refine popV_eq b0.1 ((hr _ b0.1 (by omega)).1 ⟨0, hI, rfl⟩) fun u hu hin => ?_
  have hul : (u - 1).toNat < In.length := (List.getElem?_eq_some_iff.1 hin).1
  obtain ⟨k, hk, rfl⟩ := (hr u hu (by omega)).2 hin
  exact heap_top ho k hk

theorem pop_empty {A I : List Int} {In : List Bool} (hr : RelIn I In) (hI : I.length = 0) : popV A In = 0 := by
  refine popV_none fun i hi => ?_
  have hl : i < In.length := (List.getElem?_eq_some_iff.1 hi).1
  obtain ⟨k, hk, _⟩ := (hr ((i : Int) + 1) (by omega) (by omega)).2 (by rw [show ((i : Int) + 1 - 1).toNat = i by omega]; exact hi)
  omega

theorem rel_pop {I P : List Int} {In : List Bool} (hf : Fits I P) (hr : RelIn I In) (hI : 0 < I.length) : RelIn (popI I) (In.set (at' I 0 - 1).toNat false) := by
  have b0 := hf.2.1 0 hI
  intro v h1 h2
  rw [List.length_set] at h2
  rw [inI_pop hf hI, hr v h1 h2, List.getElem?_set]
  by_cases hv : v = at' I 0
  · subst hv
    simp
  · rw [if_neg (by omega)]
    simp [hv]

theorem rel_push {I : List Int} {In : List Bool} {v : Int} (hr : RelIn I In) (h1 : 1 ≤ v) (h2 : v ≤ In.length) : RelIn (I ++ [v]) (In.set (v - 1).toNat true) := by
  intro u hu hu2
  rw [List.length_set] at hu2
  rw [inI_snoc, hr u hu hu2, List.getElem?_set]
  by_cases hv : u = v
  · subst hv
    rw [if_pos rfl, if_pos (by omega)]; simp
  · rw [if_neg (by omega)]
    simp [hv]

theorem rel_congr {I J : List Int} {In : List Bool} (hr : RelIn I In) (h : ∀ v, inI J v ↔ inI I v) : RelIn J In := fun v h1 h2 => by rw [h]; exact hr v h1 h2

theorem set_same_true {In : List Bool} {i : Nat} (h : In[i]? = some true) : In.set i true = In := by
  refine List.ext_getElem? fun k => ?_
  rw [List.getElem?_set]
  split
  · rename_i hk; subst hk
    rw [h, if_pos (List.getElem?_eq_some_iff.1 h).1]
  · rfl

theorem rel_new (n : Nat) : RelIn (newI n) (List.replicate n true) := fun v h1 h2 => by
  rw [List.length_replicate] at h2
  rw [inI_new, List.getElem?_replicate, if_pos (by omega)]
  simp; omega

end Go.Proofs.Ytfhpjaabcegefaa
