/- Plain facts on soundness: what follows holds in every model. -/
import Derived.Test.YtfgaglgaofceiaaPGrows
namespace Go.Proofs.Ytfgaglgaofceiaa.Ord

theorem lit_both {m : List Bool} {x : Int} (h1 : litHolds m x = true) (h2 : litHolds m (-x) = true) : False := by
  unfold litHolds at h1 h2
  simp only [Bool.and_eq_true, decide_eq_true_eq, beq_iff_eq, Int.natAbs_neg] at h1 h2
  have := h1.2.symm.trans h2.2
  simp only [Option.some.injEq, decide_eq_decide] at this
  omega

theorem der_holds {m : List Bool} {C : List (List Int)} {A : List Int} (hC : ∀ c ∈ C, holdsB m c = true) (hA : ∀ a ∈ A, litHolds m a = true) {a : Int} (h : Der C A a) : litHolds m a = true := by
  induction h with
  | asm ha => exact hA _ ha
  | @unit c l hc hl hm ih =>
    obtain ⟨x, hx, hh⟩ := List.any_eq_true.1 (hC c hc)
    by_cases hxl : x = l
    · rw [← hxl]; exact hh
    · exact (lit_both hh (ih x hx hxl)).elim

theorem bad_no_model {m : List Bool} {C : List (List Int)} {A : List Int} (hC : ∀ c ∈ C, holdsB m c = true) (hA : ∀ a ∈ A, litHolds m a = true) (h : Bad C A) : False := by
  rcases h with ⟨a, h1, h2⟩ | ⟨c, hc, h⟩
  · exact lit_both (der_holds hC hA h1) (der_holds hC hA h2)
  · obtain ⟨x, hx, hh⟩ := List.any_eq_true.1 (hC c hc)
    exact lit_both hh (der_holds hC hA (h x hx))

theorem firstIdx_all {m : List Bool} {f : List (List Int)} (h : firstIdx m f = -1) : ∀ c ∈ f, holdsB m c = true := by
  intro c hc
  unfold firstIdx at h
  cases hf : f.findIdx? (fun c => !holdsB m c) with
  | some i => rw [hf] at h; simp at h
  | none =>
    have := List.findIdx?_eq_none_iff.1 hf c hc
    simpa using this

theorem firstIdx_of_all {m : List Bool} {f : List (List Int)} (h : ∀ c ∈ f, holdsB m c = true) : firstIdx m f = -1 := by
  unfold firstIdx
  rw [List.findIdx?_eq_none_iff.2 (fun c hc => by simp [h c hc])]

theorem byVar_full (p : Int → Bool) (hp : ∀ a, p a = true → p (-a) = false) : ∀ m : Nat, (byVar m p).length ≤ m ∧ ((byVar m p).length = m → ∀ (i : Nat) (x : Int), (byVar m p)[i]? = some x → x.natAbs = i + 1) := by
  intro m
  induction m with
  | zero => exact ⟨by simp [byVar], fun _ i x h => by simp [byVar] at h⟩
  | succ m ih =>
    obtain ⟨h1, h2⟩ := ih
    have h3 := hp ((m : Int) + 1)
    rw [byVar_succ]
    cases hq : p ((m : Int) + 1) with
    | true =>
      have h4 := h3 hq
      rw [h4]
      simp only [if_true, Bool.false_eq_true, if_false, List.append_nil, List.length_append, List.length_singleton]
      refine ⟨by omega, fun hl i x hx => ?_⟩
      rcases Nat.lt_or_ge i (byVar m p).length with hlt | hge
      · rw [List.getElem?_append_left hlt] at hx
        exact h2 (by omega) i x hx
      · rw [List.getElem?_append_right hge] at hx
        have hi : i - (byVar m p).length = 0 := by
          rcases Nat.eq_zero_or_pos (i - (byVar m p).length) with h0 | h0
          · exact h0
          · rw [List.getElem?_eq_none (by simp; omega)] at hx; cases hx
        rw [hi] at hx
        simp at hx
        omega
    | false =>
      cases hr : p (-((m : Int) + 1)) with
      | false =>
        simp only [Bool.false_eq_true, if_false, List.append_nil]
        exact ⟨by omega, fun hl => by omega⟩
      | true =>
        simp only [if_true, Bool.false_eq_true, if_false, List.nil_append, List.length_append, List.length_singleton]
        refine ⟨by omega, fun hl i x hx => ?_⟩
        rcases Nat.lt_or_ge i (byVar m p).length with hlt | hge
        · rw [List.getElem?_append_left hlt] at hx
          exact h2 (by omega) i x hx
        · rw [List.getElem?_append_right hge] at hx
          have hi : i - (byVar m p).length = 0 := by
            rcases Nat.eq_zero_or_pos (i - (byVar m p).length) with h0 | h0
            · exact h0
            · rw [List.getElem?_eq_none (by simp; omega)] at hx; cases hx
          rw [hi] at hx
          simp at hx
          omega

/-- Where every variable is decided, what was returned is a model. -/
theorem up_model {n : Nat} {C : List (List Int)} {A U : List Int} (hC : ClsOk n C) (hU : upL n C A = U) (hb : upF C A = false) (hl : U.length = n) : firstIdx (U.map fun x => decide (0 < x)) C = -1 := by
  have hgood := upF_false.1 hb
  have hcons : ∀ x, Der C A x → Der C A (-x) → False := fun x h1 h2 => hgood (.inl ⟨x, h1, h2⟩)
  have hUb : U = byVar n (fun a => decide (a ∈ U)) := by
    have h1 : ∀ a, LitOk n a → (a ∈ U ↔ Der C A a) := fun a ha => by
      rw [← hU]
      unfold upL
      rw [if_neg hgood, mem_byVar]
      simp [ha]
    have h2 : upL n C A = byVar n (fun a => decide (a ∈ U)) := by
      unfold upL
      rw [if_neg hgood]
      exact byVar_congr fun a ha => by simp [h1 a ha]
    rw [← hU] at h2 ⊢
    exact h2
  have hmem : ∀ a, a ∈ U → Der C A a := fun a ha => by
    rw [← hU] at ha
    unfold upL at ha
    rw [if_neg hgood, mem_byVar] at ha
    simpa using ha.2
  have hin : ∀ a, LitOk n a → Der C A a → a ∈ U := fun a hk ha => by
    rw [← hU]
    unfold upL
    rw [if_neg hgood, mem_byVar]
    exact ⟨hk, by simpa using ha⟩
  have hfull := (byVar_full (fun a => decide (a ∈ U)) (fun a ha => by
    simp only [decide_eq_true_eq, decide_eq_false_iff_not] at *
    exact fun hn => hcons a (hmem a ha) (hmem _ hn)) n).2
  rw [← hUb] at hfull
  have hfull := hfull hl
  have hat : ∀ x ∈ U, litHolds (U.map fun x => decide (0 < x)) x = true := fun x hx => by
    obtain ⟨i, hi⟩ := List.mem_iff_getElem?.1 hx
    have h1 := hfull i x hi
    unfold litHolds
    rw [h1]
    simp [hi]
  have htot : ∀ a, LitOk n a → a ∈ U ∨ -a ∈ U := fun a ha => by
    unfold LitOk at ha
    have hlt : a.natAbs - 1 < U.length := by omega
    obtain ⟨x, hx⟩ : ∃ x, U[a.natAbs - 1]? = some x := ⟨_, List.getElem?_eq_getElem hlt⟩
    have h1 := hfull _ x hx
    have h2 := List.mem_of_getElem? hx
    rcases show x = a ∨ x = -a by omega with h | h
    · exact .inl (h ▸ h2)
    · exact .inr (h ▸ h2)
  refine firstIdx_of_all fun c hc => ?_
  refine List.any_eq_true.2 ?_
  by_cases h : ∃ x ∈ c, x ∈ U
  · obtain ⟨x, h1, h2⟩ := h
    exact ⟨x, h1, hat x h2⟩
  · exfalso
    refine hgood (.inr ⟨c, hc, fun l hl => ?_⟩)
    rcases htot l (hC c hc l hl) with h1 | h1
    · exact absurd ⟨l, hl, h1⟩ h
    · exact hmem _ h1

end Go.Proofs.Ytfgaglgaofceiaa.Ord
