/- The reference's Norm: insertion into an ascending list; it gives the same literals as lit.Norm. -/
import Derived.Test.YtfgaglgaofceiaaPSort
namespace Go.Proofs.Ytfgaglgaofceiaa
open Go.RowKit

/-- How many elements at the head come before x. -/
def posN : List Int → Int → Nat
  | [], _ => 0
  | a :: l, x => if lessB a x then posN l x + 1 else 0

/-- One literal is put in. -/
def insN (l : List Int) (x : Int) : List Int :=
  if x = 0 then l else if l[posN l x]? = some x then l else l.take (posN l x) ++ x :: l.drop (posN l x)

/-- The reference's literals. -/
def refL (c : List Int) : List Int := c.foldl insN []

theorem posN_le : ∀ (l : List Int) (x : Int), posN l x ≤ l.length
  | [], _ => Nat.le_refl _
  | a :: l, x => by
    have := posN_le l x
    unfold posN
    split
    · simp; omega
    · simp

/-- The elements before the place come before x. -/
theorem posN_before : ∀ (l : List Int) (x : Int) (i : Nat) (y : Int), i < posN l x → l[i]? = some y → lessB y x = true
  | [], _, i, y, h, _ => by simp [posN] at h
  | a :: l, x, i, y, h, hy => by
    unfold posN at h
    split at h
    · rename_i hl
      cases i with
      | zero => simp at hy; subst hy; exact hl
      | succ i => exact posN_before l x i y (by omega) (by simpa using hy)
    · omega

theorem posN_at : ∀ (l : List Int) (x y : Int), l[posN l x]? = some y → lessB y x = false
  | [], _, _, h => by simp [posN] at h
  | a :: l, x, y, h => by
    unfold posN at h
    split at h
    · exact posN_at l x y (by simpa using h)
    · rename_i hl; simp at h; subst h; simpa using hl

/-- The place, by what the search has seen. -/
theorem posN_eq {l : List Int} {x : Int} {k : Nat} (hk : k ≤ l.length) (hb : ∀ i y, i < k → l[i]? = some y → lessB y x = true) (ha : ∀ y, l[k]? = some y → lessB y x = false) : posN l x = k := by
  rcases Nat.lt_trichotomy (posN l x) k with h | h | h
  · have h1 : l[posN l x]? = some l[posN l x] := by simp
    have h2 := hb _ _ h h1
    rw [posN_at l x _ h1] at h2; cases h2
  · exact h
  · have hl := posN_le l x
    have h1 : l[k]? = some l[k] := by simp
    have h2 := posN_before l x k _ h h1
    rw [ha _ h1] at h2; cases h2

theorem insN_mem {l : List Int} {x y : Int} : y ∈ insN l x ↔ y ∈ l ∨ (y = x ∧ x ≠ 0) := by
  unfold insN
  split
  · rename_i h; simp [h]
  · rename_i h
    split
    · rename_i h2
      have : x ∈ l := List.mem_of_getElem? h2
      constructor
      · exact Or.inl
      · rintro (h3 | ⟨rfl, _⟩)
        · exact h3
        · exact this
    · have e : y ∈ l ↔ y ∈ l.take (posN l x) ∨ y ∈ l.drop (posN l x) := by rw [← List.mem_append, List.take_append_drop]
      rw [List.mem_append, List.mem_cons, e]
      constructor
      · rintro (h1 | rfl | h1)
        · exact Or.inl (Or.inl h1)
        · exact Or.inr ⟨rfl, h⟩
        · exact Or.inl (Or.inr h1)
      · rintro ((h1 | h1) | ⟨rfl, _⟩)
        · exact Or.inl h1
        · exact Or.inr (Or.inr h1)
        · exact Or.inr (Or.inl rfl)

theorem insN_asc {l : List Int} {x : Int} (h : Asc l) : Asc (insN l x) := by
  unfold insN
  split
  · exact h
  · split
    · exact h
    · rename_i h0 h2
      have hp := List.pairwise_append.1 (show Asc (l.take (posN l x) ++ l.drop (posN l x)) by rw [List.take_append_drop]; exact h)
      refine List.pairwise_append.2 ⟨hp.1, List.pairwise_cons.2 ⟨fun y hy => ?_, hp.2.1⟩, fun a ha b hb => ?_⟩
      · obtain ⟨j, hj, rfl⟩ := List.getElem_of_mem hy
        simp only [List.length_drop] at hj
        rw [List.getElem_drop]
        have hpl : posN l x < l.length := by omega
        have h3 : l[posN l x]? = some l[posN l x] := by simp [hpl]
        have h4 := posN_at l x _ h3
        have hne : x ≠ l[posN l x] := fun e => h2 (by rw [h3, ← e])
        have h5 : lessB x l[posN l x] = true := by
          cases hq : lessB x l[posN l x] with
          | true => rfl
          | false => exact (hne (lessB_tri hq h4)).elim
        cases j with
        | zero => exact h5
        | succ j => exact lessB_trans h5 (asc_get h (i := posN l x) (j := posN l x + (j + 1)) (by omega) h3 (by simp))
      · rcases List.mem_cons.1 hb with rfl | hb
        · obtain ⟨j, hj, rfl⟩ := List.getElem_of_mem ha
          simp only [List.length_take] at hj
          rw [List.getElem_take]
          exact posN_before l b j _ (by omega) (by simp)
        · exact hp.2.2 a ha b hb

theorem foldl_insN : ∀ (c l : List Int), Asc l → Asc (c.foldl insN l) ∧ ∀ y, y ∈ c.foldl insN l ↔ y ∈ l ∨ (y ∈ c ∧ y ≠ 0)
  | [], l, h => ⟨h, fun y => by simp⟩
  | x :: c, l, h => by
    obtain ⟨h1, h2⟩ := foldl_insN c (insN l x) (insN_asc h)
    refine ⟨h1, fun y => ?_⟩
    rw [List.foldl_cons, h2, insN_mem, List.mem_cons]
    constructor
    · rintro ((a | ⟨rfl, b⟩) | ⟨a, b⟩)
      · exact Or.inl a
      · exact Or.inr ⟨Or.inl rfl, b⟩
      · exact Or.inr ⟨Or.inr a, b⟩
    · rintro (a | ⟨rfl | a, b⟩)
      · exact Or.inl (Or.inl a)
      · exact Or.inl (Or.inr ⟨rfl, b⟩)
      · exact Or.inr ⟨a, b⟩

theorem refL_eq (c : List Int) : refL c = normL c := by
  obtain ⟨h1, h2⟩ := foldl_insN c [] List.Pairwise.nil
  refine asc_ext h1 (asc_normL c) fun y => ?_
  rw [refL] at *
  rw [h2, mem_normL_iff]; simp

theorem refL_step {c : List Int} {k : Nat} {x : Int} (hx : c[k]? = some x) : refL (c.take (k + 1)) = insN (refL (c.take k)) x := by
  simp [refL, List.take_add_one, hx]

theorem insN_length (l : List Int) (x : Int) : (insN l x).length ≤ l.length + 1 := by
  have := posN_le l x
  unfold insN
  split
  · omega
  · split
    · omega
    · simp; omega

theorem foldl_insN_length : ∀ (c l : List Int), (c.foldl insN l).length ≤ l.length + c.length
  | [], l => by simp
  | x :: c, l => by
    have h1 := foldl_insN_length c (insN l x)
    have h2 := insN_length l x
    simp only [List.foldl_cons, List.length_cons]; omega

theorem refL_length (c : List Int) : (refL c).length ≤ c.length := by
  have := foldl_insN_length c []
  simpa [refL] using this

theorem foldl_insN_from : ∀ (c l : List Int) (x : Int), x ∈ c.foldl insN l → x ∈ l ∨ x ∈ c
  | [], l, x, h => Or.inl h
  | y :: c, l, x, h => by
    rcases foldl_insN_from c _ x h with h | h
    · rcases insN_mem.1 h with h | ⟨h, _⟩
      · exact Or.inl h
      · exact Or.inr (by simp [h])
    · exact Or.inr (List.mem_cons_of_mem _ h)

theorem mem_refL {c : List Int} {x : Int} (h : x ∈ refL c) : x ∈ c := by
  rcases foldl_insN_from c [] x h with h | h
  · simp at h
  · exact h

theorem insN_zero {l : List Int} {x : Int} (h : x = 0) : insN l x = l := by simp [insN, h]
theorem insN_there {l : List Int} {x : Int} {k : Nat} (h0 : x ≠ 0) (hk : posN l x = k) (h : l[k]? = some x) : insN l x = l := by
  subst hk; simp [insN, h0, h]
theorem insN_new {l : List Int} {x : Int} {k : Nat} (h0 : x ≠ 0) (hk : posN l x = k) (h : l[k]? ≠ some x) : insN l x = l.take k ++ x :: l.drop k := by
  subst hk; simp [insN, h0, h]

/-- What lies in the list while the elements behind the place `at` are shifted up, the free place being k. -/
def shiftN (l : List Int) (k : Nat) (x : Int) : List Int := l.take k ++ x :: l.drop k

theorem shiftN_step {l : List Int} {k : Nat} {x y : Int} (hy : l[k]? = some y) : (shiftN l (k + 1) x).set (k + 1) y = shiftN l k y := by
  obtain ⟨hk, rfl⟩ := List.getElem?_eq_some_iff.1 hy
  unfold shiftN
  rw [List.set_append_right _ _ (by simp; omega)]
  have : k + 1 - (l.take (k + 1)).length = 0 := by simp; omega
  rw [this, List.set_cons_zero]
  have e1 : l.take (k + 1) = l.take k ++ [l[k]] := by rw [List.take_add_one, hy]; rfl
  have e2 : l.drop k = l[k] :: l.drop (k + 1) := List.drop_eq_getElem_cons hk
  rw [e2, e1, List.append_assoc]
  rfl

theorem shiftN_end {l : List Int} {k : Nat} {z y : Int} (hk : k ≤ l.length) : (shiftN l k z).set k y = shiftN l k y := by
  unfold shiftN
  rw [List.set_append_right _ _ (by simp; omega)]
  have : k - (l.take k).length = 0 := by simp; omega
  rw [this, List.set_cons_zero]

theorem shiftN_start (l : List Int) (x : Int) : shiftN l l.length x = l ++ [x] := by simp [shiftN]

theorem shiftN_get {l : List Int} {k : Nat} {x : Int} (hk : k < l.length) : (shiftN l (k + 1) x)[k]? = l[k]? := by
  unfold shiftN
  rw [List.getElem?_append_left (by simp; omega), List.getElem?_take, if_pos (by omega)]

theorem shiftN_length {l : List Int} {k : Nat} {x : Int} (hk : k ≤ l.length) : (shiftN l k x).length = l.length + 1 := by
  unfold shiftN; simp; omega

end Go.Proofs.Ytfgaglgaofceiaa
