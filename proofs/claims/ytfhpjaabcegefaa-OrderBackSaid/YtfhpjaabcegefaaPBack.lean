/- Which variables are in after pops and pushes. Plain. -/
import Derived.Test.YtfhpjaabcegefaaPSorts
import Derived.Test.YtfhpjaabcegefaaHeapS
namespace Go.Proofs.Ytfhpjaabcegefaa.Ord

/-- All are in but for those of a list. -/
def offL (n : Nat) (l : List Int) : List Bool := (List.range n).map fun (i : Nat) => decide (((i : Int) + 1) ∉ l)

theorem offL_length (n : Nat) (l : List Int) : (offL n l).length = n := by simp [offL]
theorem offL_nil (n : Nat) : offL n [] = List.replicate n true := by
  refine List.ext_getElem (by simp [offL]) fun i h1 h2 => ?_
  simp [offL]
theorem offL_get {n : Nat} {l : List Int} {v : Int} (h1 : 1 ≤ v) (h2 : v ≤ n) : (offL n l)[(v - 1).toNat]? = some (decide (v ∉ l)) := by
  have e : (((v - 1).toNat : Nat) : Int) + 1 = v := by omega
  have hl : (v - 1).toNat < n := by omega
  obtain ⟨m, hm⟩ : ∃ m, (v - 1).toNat = m := ⟨_, rfl⟩
  rw [hm] at e hl ⊢
  simp [offL, hl, e]
theorem offL_ext {n : Nat} {l : List Int} {J : List Bool} (hJ : J.length = n) (h : ∀ v : Int, 1 ≤ v → v ≤ n → J[(v - 1).toNat]? = some (decide (v ∉ l))) : J = offL n l := by
  refine List.ext_getElem? fun i => ?_
  by_cases hi : i < n
  · have h1 := h ((i : Int) + 1) (by omega) (by omega)
    have h2 := offL_get (n := n) (l := l) (v := (i : Int) + 1) (by omega) (by omega)
    rw [show ((i : Int) + 1 - 1).toNat = i by omega] at h1 h2
    rw [h1, h2]
  · rw [List.getElem?_eq_none (by omega), List.getElem?_eq_none (by rw [offL_length]; omega)]
theorem offL_set_false {n : Nat} {l : List Int} {v : Int} (h1 : 1 ≤ v) (h2 : v ≤ n) : (offL n l).set (v - 1).toNat false = offL n (l ++ [v]) := by
  refine offL_ext (by rw [List.length_set, offL_length]) fun u g1 g2 => ?_
  rw [List.getElem?_set, offL_length]
  by_cases he : (v - 1).toNat = (u - 1).toNat
  · obtain rfl : u = v := by omega
    rw [if_pos rfl, if_pos (by omega)]; simp
  · have hne : u ≠ v := fun e => he (by rw [e])
    rw [if_neg he, offL_get g1 g2]; simp [hne]
theorem offL_set_true {n : Nat} {l l' : List Int} {v : Int} (h1 : 1 ≤ v) (h2 : v ≤ n) (hv : v ∉ l') (h : ∀ u, u ∈ l ↔ u ∈ l' ∨ u = v) : (offL n l).set (v - 1).toNat true = offL n l' := by
  refine offL_ext (by rw [List.length_set, offL_length]) fun u g1 g2 => ?_
  rw [List.getElem?_set, offL_length]
  by_cases he : (v - 1).toNat = (u - 1).toNat
  · obtain rfl : u = v := by omega
    rw [if_pos rfl, if_pos (by omega)]; simp [hv]
  · have hne : u ≠ v := fun e => he (by rw [e])
    rw [if_neg he, offL_get g1 g2]; simp [h, hne]

/-- What the law's two loops know of the list of all pops. -/
structure Wants (A : List Int) (n : Nat) (want : List Int) : Prop where
  len : want.length = n
  rng : ∀ v ∈ want, 1 ≤ v ∧ v ≤ n
  nodup : want.Nodup
  off : ∀ k, k ≤ n → popAll A (offL n (want.take k)) = want.drop k

theorem wants_of (A : List Int) (n : Nat) : Wants A n (popAll A (List.replicate n true)) := by
  obtain ⟨want, hw⟩ : ∃ want, want = popAll A (List.replicate n true) := ⟨_, rfl⟩
  rw [← hw]
  have hl : want.length = n := by rw [hw, popAll_length _ _ _ rfl, List.countP_replicate]; simp
  have hr : ∀ v ∈ want, 1 ≤ v ∧ v ≤ n := fun v hv => by
    rw [hw] at hv
    have := popAll_mem A _ (List.replicate n true) rfl v hv
    rw [List.length_replicate] at this
    exact ⟨this.1, this.2.1⟩
  have hp := popAll_pair A _ (List.replicate n true) rfl
  rw [← hw] at hp
  refine ⟨hl, hr, hp.imp fun h => Ne.symm h.1, fun k => ?_⟩
  induction k with
  | zero => intro _; rw [List.take_zero, offL_nil]; exact hw.symm
  | succ k ih =>
    intro hk
    have ihk := ih (by omega)
    have hkl : k < want.length := by omega
    rw [List.drop_eq_getElem_cons hkl] at ihk
    have hz : popV A (offL n (want.take k)) ≠ 0 := fun e => by rw [popAll_nil e] at ihk; cases ihk
    rw [popAll_cons hz] at ihk
    injection ihk with e1 e2
    have hin : popIn A (offL n (want.take k)) = offL n (want.take (k + 1)) := by
      unfold popIn
      have hg := hr _ (List.getElem_mem hkl)
      rw [if_neg hz, e1, offL_set_false hg.1 hg.2, List.take_add_one, List.getElem?_eq_getElem hkl]
      rfl
    rw [← hin]; exact e2

/-- One pop of the law's first loop. -/
structure Popped (A : List Int) (n : Nat) (want : List Int) (k : Nat) (x : Int) : Prop where
  v : popV A (offL n (want.take k)) = x
  e : popE A (offL n (want.take k)) = 0
  i : popIn A (offL n (want.take k)) = offL n (want.take (k + 1))
  has : (decide (1 ≤ x) && ((offL n (want.take (k + 1)))[(x - 1).toNat]? == some true)) = false
  len : (((offL n (want.take (k + 1))).countP id : Nat) : Int) = (n : Int) - k - 1

theorem Wants.pop {A : List Int} {n : Nat} {want : List Int} (h : Wants A n want) {k : Nat} {x : Int} (hx : want[k]? = some x) : Popped A n want k x := by
  obtain ⟨hkl, hxe⟩ := List.getElem?_eq_some_iff.1 hx
  have hk : k < n := by have := h.len; omega
  have h1 := h.off k (by omega)
  have h2 := h.off (k + 1) (by omega)
  rw [List.drop_eq_getElem_cons hkl, hxe] at h1
  have hz : popV A (offL n (want.take k)) ≠ 0 := fun e => by rw [popAll_nil e] at h1; cases h1
  rw [popAll_cons hz] at h1
  injection h1 with e1 e2
  have hg := h.rng x (List.mem_of_getElem? hx)
  refine ⟨e1, ?_, ?_, ?_, ?_⟩
  · unfold popE; rw [if_neg hz]
  · unfold popIn
    rw [if_neg hz, e1, offL_set_false hg.1 hg.2, List.take_add_one, hx]
    rfl
  · have hm : x ∈ want.take (k + 1) := by rw [List.take_add_one, hx]; simp
    rw [offL_get hg.1 hg.2]; simp [hm]
  · have h3 := popAll_length A _ (offL n (want.take (k + 1))) rfl
    rw [h2, List.length_drop, h.len] at h3
    omega

/-- What is out behind j pushes of the second loop. -/
def remL (want : List Int) (k : Nat) (turned : Bool) (j : Nat) : List Int := if turned then want.take (k - j) else (want.take k).drop j

theorem remL_zero (want : List Int) (k : Nat) (t : Bool) : remL want k t 0 = want.take k := by cases t <;> simp [remL]
theorem remL_done (want : List Int) (k : Nat) (t : Bool) : remL want k t k = [] := by cases t <;> simp [remL]

/-- One push of the law's second loop. -/
structure Pushed (n : Nat) (want : List Int) (k : Nat) (t : Bool) (j : Nat) (x : Int) : Prop where
  e : pushE n x = 0
  i : pushIn (offL n (remL want k t j)) x = offL n (remL want k t (j + 1))
  i2 : pushIn (offL n (remL want k t (j + 1))) x = offL n (remL want k t (j + 1))
  has : (decide (1 ≤ x) && ((offL n (remL want k t (j + 1)))[(x - 1).toNat]? == some true)) = true

theorem Wants.push {A : List Int} {n : Nat} {want : List Int} (h : Wants A n want) {k j : Nat} {x : Int} {t : Bool} (hk : k ≤ n) (hj : j < k) (hx : want[if t then k - 1 - j else j]? = some x) : Pushed n want k t j x := by
  have hg := h.rng x (List.mem_of_getElem? hx)
  have hlen := h.len
  have hm : x ∉ remL want k t (j + 1) ∧ ∀ u, u ∈ remL want k t j ↔ u ∈ remL want k t (j + 1) ∨ u = x := by
    cases t with
    | true =>
      simp only [remL, if_true] at hx ⊢
      have e : k - j = (k - 1 - j) + 1 := by omega
      have e2 : k - (j + 1) = k - 1 - j := by omega
      rw [e2, e, List.take_add_one, hx]
      refine ⟨fun hin => ?_, fun u => by simp⟩
      obtain ⟨i, hi, he⟩ := List.mem_iff_getElem.1 hin
      simp at hi
      rw [List.getElem_take] at he
      obtain ⟨hkl, hxe⟩ := List.getElem?_eq_some_iff.1 hx
      exact (List.pairwise_iff_getElem.1 h.nodup) i (k - 1 - j) (by omega) hkl (by omega) (by rw [he, hxe])
    | false =>
      simp only [remL, Bool.false_eq_true, if_false] at hx ⊢
      obtain ⟨hjl, hxe⟩ := List.getElem?_eq_some_iff.1 hx
      have hjl' : j < (want.take k).length := by simp; omega
      rw [List.drop_eq_getElem_cons hjl', List.getElem_take, hxe]
      refine ⟨fun hin => ?_, fun u => by simp [or_comm]⟩
      obtain ⟨i, hi, he⟩ := List.mem_iff_getElem.1 hin
      simp at hi
      rw [List.getElem_drop, List.getElem_take] at he
      exact (List.pairwise_iff_getElem.1 h.nodup) j (j + 1 + i) hjl (by omega) (by omega) (by rw [he, hxe])
  have hi : pushIn (offL n (remL want k t j)) x = offL n (remL want k t (j + 1)) := by
    unfold pushIn
    rw [if_pos ⟨hg.1, by rw [offL_length]; exact hg.2⟩]
    exact offL_set_true hg.1 hg.2 hm.1 hm.2
  refine ⟨by unfold pushE; rw [if_pos ⟨hg.1, by exact hg.2⟩], hi, ?_, ?_⟩
  · unfold pushIn
    rw [if_pos ⟨hg.1, by rw [offL_length]; exact hg.2⟩]
    refine set_same_true ?_
    rw [offL_get hg.1 hg.2]; simp [hm.1]
  · rw [offL_get hg.1 hg.2]; simp [hm.1, hg.1]

end Go.Proofs.Ytfhpjaabcegefaa.Ord
