/- lit.Norm's literals: each literal of the clause once, in their order. -/
import Derived.Test.YtfgaglgaofceiaaPNorm
import Derived.Test.YtfgaglgaofceiaaPLess
namespace Go.Proofs.Ytfgaglgaofceiaa
open Go.RowKit

/-- In strictly ascending order. -/
def Asc (l : List Int) : Prop := l.Pairwise (fun a b => lessB a b = true)

theorem asc_ext : ∀ {l1 l2 : List Int}, Asc l1 → Asc l2 → (∀ x, x ∈ l1 ↔ x ∈ l2) → l1 = l2
  | [], [], _, _, _ => rfl
  | [], b :: l2, _, _, h => by have := (h b).2 (by simp); simp at this
  | a :: l1, [], _, _, h => by have := (h a).1 (by simp); simp at this
  | a :: l1, b :: l2, h1, h2, h => by
    have h1' := List.pairwise_cons.1 h1
    have h2' := List.pairwise_cons.1 h2
    have hab : a = b := by
      have ha := (h a).1 (by simp)
      have hb := (h b).2 (by simp)
      rcases List.mem_cons.1 ha with h0 | ha
      · exact h0
      · rcases List.mem_cons.1 hb with h0 | hb
        · exact h0.symm
        · have e1 := h1'.1 b hb
          have e2 := h2'.1 a ha
          rw [lessB_asymm e1] at e2; cases e2
    subst hab
    congr 1
    refine asc_ext h1'.2 h2'.2 fun x => ?_
    have hx := h x
    simp only [List.mem_cons] at hx
    constructor
    · intro hm
      rcases hx.1 (Or.inr hm) with h0 | h0
      · subst h0
        have := h1'.1 x hm
        rw [lessB_irrefl] at this; cases this
      · exact h0
    · intro hm
      rcases hx.2 (Or.inr hm) with h0 | h0
      · subst h0
        have := h2'.1 x hm
        rw [lessB_irrefl] at this; cases this
      · exact h0

theorem mem_mrg_iff {x : Int} : ∀ (l1 l2 : List Int), x ∈ mrg l1 l2 ↔ x ∈ l1 ∨ x ∈ l2 := by
  intro l1 l2
  refine ⟨mem_mrg l1 l2, ?_⟩
  induction l1, l2 using mrg.induct with
  | case1 l2 => rw [mrg_nil_left]; simp
  | case2 a l1 => rw [mrg_nil_right]; simp
  | case3 a l1 b l2 h ih => rw [mrg_cons, if_pos h]; simp only [List.mem_cons] at *; rintro ((h | h) | h) <;> simp_all
  | case4 a l1 b l2 h h2 ih => rw [mrg_cons, if_neg h, if_pos h2]; simp only [List.mem_cons] at *; rintro (h | (h | h)) <;> simp_all
  | case5 a l1 b l2 h h2 ih =>
    rw [mrg_cons, if_neg h, if_neg h2]
    have e : a = b := lessB_tri (by simpa using h) (by simpa using h2)
    subst e
    simp only [List.mem_cons] at *
    rintro ((h | h) | (h | h)) <;> simp_all

theorem asc_mrg : ∀ (l1 l2 : List Int), Asc l1 → Asc l2 → Asc (mrg l1 l2) := by
  intro l1 l2
  induction l1, l2 using mrg.induct with
  | case1 l2 => rw [mrg_nil_left]; exact fun _ h => h
  | case2 a l1 => rw [mrg_nil_right]; exact fun h _ => h
  | case3 a l1 b l2 h ih =>
    intro h1 h2
    have h1' := List.pairwise_cons.1 h1
    have h2' := List.pairwise_cons.1 h2
    rw [mrg_cons, if_pos h]
    refine List.pairwise_cons.2 ⟨fun x hx => ?_, ih h1'.2 h2⟩
    rcases (mem_mrg_iff _ _).1 hx with hx | hx
    · exact h1'.1 x hx
    · rcases List.mem_cons.1 hx with rfl | hx
      · exact h
      · exact lessB_trans h (h2'.1 x hx)
  | case4 a l1 b l2 h h2 ih =>
    intro h1 h2'
    have h1' := List.pairwise_cons.1 h1
    have h3 := List.pairwise_cons.1 h2'
    rw [mrg_cons, if_neg h, if_pos h2]
    refine List.pairwise_cons.2 ⟨fun x hx => ?_, ih h1 h3.2⟩
    rcases (mem_mrg_iff _ _).1 hx with hx | hx
    · rcases List.mem_cons.1 hx with rfl | hx
      · exact h2
      · exact lessB_trans h2 (h1'.1 x hx)
    · exact h3.1 x hx
  | case5 a l1 b l2 h h2 ih =>
    intro h1 h2'
    rw [mrg_cons, if_neg h, if_neg h2]
    exact ih (List.pairwise_cons.1 h1).2 h2'

theorem mem_msort_iff {x : Int} : ∀ (n : Nat) (xs : List Int), x ∈ msort n xs ↔ x ∈ xs := by
  intro n
  induction n with
  | zero => intro xs; exact Iff.rfl
  | succ n ih =>
    intro xs
    rw [msort]
    split
    · exact Iff.rfl
    · rw [mem_mrg_iff, ih, ih, ← List.mem_append, List.take_append_drop]

theorem asc_msort : ∀ (n : Nat) (xs : List Int), xs.length ≤ n → Asc (msort n xs) := by
  intro n
  induction n with
  | zero =>
    intro xs h
    have : xs = [] := List.eq_nil_of_length_eq_zero (by omega)
    subst this
    exact List.Pairwise.nil
  | succ n ih =>
    intro xs h
    rw [msort]
    split
    · match xs with
      | [] => exact List.Pairwise.nil
      | [x] => exact List.pairwise_singleton _ _
      | x :: y :: l => simp at *; omega
    · exact asc_mrg _ _ (ih _ (by simp; omega)) (ih _ (by simp; omega))

theorem asc_normL (xs : List Int) : Asc (normL xs) := by
  have h := asc_msort xs.length xs (Nat.le_refl _)
  unfold normL
  split
  · exact List.Pairwise.sublist (List.tail_sublist _) h
  · exact h

theorem mem_normL_iff {x : Int} {xs : List Int} : x ∈ normL xs ↔ x ∈ xs ∧ x ≠ 0 := by
  have h := asc_msort xs.length xs (Nat.le_refl _)
  have hm := fun x => @mem_msort_iff x xs.length xs
  unfold normL
  generalize msort xs.length xs = L at *
  cases L with
  | nil => simp at hm ⊢; simp [hm]
  | cons a l =>
    have hp := List.pairwise_cons.1 h
    have hnot : ∀ y ∈ l, y ≠ 0 := fun y hy e => by
      have := hp.1 y hy
      subst e
      simp [lessB] at this; omega
    by_cases ha : a = 0
    · subst ha
      simp only [List.head?_cons, List.tail_cons, if_true]
      rw [← hm, List.mem_cons]
      constructor
      · exact fun h => ⟨Or.inr h, hnot x h⟩
      · rintro ⟨h | h, hx⟩
        · exact (hx h).elim
        · exact h
    · simp only [List.head?_cons, Option.some.injEq, ha, if_false]
      rw [← hm]
      refine ⟨fun h => ⟨h, ?_⟩, fun h => h.1⟩
      rcases List.mem_cons.1 h with rfl | h
      · exact ha
      · exact hnot x h

theorem asc_get {l : List Int} (h : Asc l) {i j : Nat} {x y : Int} (hij : i < j) (hx : l[i]? = some x) (hy : l[j]? = some y) : lessB x y = true := by
  obtain ⟨hi, rfl⟩ := List.getElem?_eq_some_iff.1 hx
  obtain ⟨hj, rfl⟩ := List.getElem?_eq_some_iff.1 hy
  exact List.pairwise_iff_getElem.1 h i j hi hj hij

/-- Two neighbours are a literal and its negative exactly if some literal stands beside its negative. -/
theorem adjB_iff {l : List Int} (h : Asc l) (h0 : ∀ x ∈ l, x ≠ 0) : adjB l = true ↔ ∃ x ∈ l, -x ∈ l := by
  constructor
  · intro ha
    rw [adjB, List.any_eq_true] at ha
    obtain ⟨i, hi, hp⟩ := ha
    simp only [adjAt, Bool.and_eq_true, decide_eq_true_eq, beq_iff_eq] at hp
    have hi' : i < l.length := List.mem_range.1 hi
    have h1 : l[i]? = some l[i] := by simp [hi']
    have h2 : l[i - 1]? = some l[i - 1] := by simp
    have hl := asc_get h (show i - 1 < i by omega) h2 h1
    have e1 : l.getD i 0 = l[i] := by simp [hi']
    have e2 : l.getD (i - 1) 0 = l[i - 1] := by rw [List.getD_eq_getElem?_getD, h2]; rfl
    rw [e1, e2] at hp
    refine ⟨l[i], by simp, ?_⟩
    have : -l[i] = l[i - 1] := by
      have h3 := (lessB_iff _ _).1 hl
      omega
    rw [this]; simp
  · rintro ⟨x, hx, hnx⟩
    have hx0 := h0 x hx
    obtain ⟨i, hi, hi'⟩ := List.getElem_of_mem hx
    obtain ⟨j, hj, hj'⟩ := List.getElem_of_mem hnx
    have key : ∀ i j, (hi : i < l.length) → (hj : j < l.length) → l[i].natAbs = l[j].natAbs → i < j → j = i + 1 := by
      intro i j hi hj he hij
      rcases Nat.lt_or_ge (i + 1) j with hlt | hge
      · exfalso
        have a1 := asc_get h (show i < i + 1 by omega) (x := l[i]) (y := l[i + 1]) (by simp [hi]) (by simp)
        have a2 := asc_get h hlt (x := l[i + 1]) (y := l[j]) (by simp) (by simp [hj])
        rw [lessB_iff] at a1 a2
        omega
      · omega
    have hne : i ≠ j := by
      intro e; subst e; rw [hi'] at hj'; omega
    rcases Nat.lt_or_gt_of_ne hne with hlt | hlt
    · have := key i j hi hj (by rw [hi', hj']; omega) hlt
      subst this
      exact adjB_of (j := i) (x := -x) (y := x) (by simp [← hj', hj]) (by simp [← hi', hi]) (by simp)
    · have := key j i hj hi (by rw [hi', hj']; omega) hlt
      subst this
      exact adjB_of (j := j) (x := x) (y := -x) (by simp [← hi', hi]) (by simp [← hj', hj]) (by simp)

/-- Another clause with the same literals has the same ones. -/
theorem normL_congr {xs ys : List Int} (h : ∀ x, x ≠ 0 → (x ∈ xs ↔ x ∈ ys)) : normL xs = normL ys :=
  asc_ext (asc_normL _) (asc_normL _) fun x => by
    rw [mem_normL_iff, mem_normL_iff]
    exact ⟨fun ⟨a, b⟩ => ⟨(h x b).1 a, b⟩, fun ⟨a, b⟩ => ⟨(h x b).2 a, b⟩⟩

end Go.Proofs.Ytfgaglgaofceiaa
