/- Plain facts for PropOrder: the formula that is built has the same clauses, but for order and number. -/
import Derived.Test.YtfgaglgaofceiaaPRef
namespace Go.Proofs.Ytfgaglgaofceiaa.Ord

/-- G holds what the clauses of F from i on stand for, and nothing else. -/
structure GI (F : List (List Int)) (i : Nat) (G : List (List Int)) : Prop where
  sub1 : ∀ d ∈ G, ∃ c ∈ F, ∀ l, l ∈ d ↔ l ∈ c
  sub2 : ∀ j c, i ≤ j → F[j]? = some c → ∃ d ∈ G, ∀ l, l ∈ c ↔ l ∈ d
  len : ∀ d ∈ G, d.length ≤ 40
  cnt : G.length + 2 * i ≤ 2 * F.length

theorem gi_start (F : List (List Int)) : GI F F.length [] :=
  ⟨by simp, (fun j c hj hc => by rw [List.getElem?_eq_none hj] at hc; cases hc), by simp, by simp⟩

theorem gi_one {F G : List (List Int)} {i : Nat} {c : List Int} (h : GI F (i + 1) G) (hc : F[i]? = some c) (hl : c.length ≤ 20) : GI F i (G ++ [c.reverse ++ c]) := by
  have hcF := List.mem_of_getElem? hc
  have hm : ∀ l, l ∈ c.reverse ++ c ↔ l ∈ c := fun l => by simp
  have hcnt := h.cnt
  refine ⟨fun d hd => ?_, fun j e hj he => ?_, fun d hd => ?_, by simp; omega⟩
  · rcases List.mem_append.1 hd with hd | hd
    · exact h.sub1 d hd
    · simp at hd
      exact ⟨c, hcF, fun l => by rw [hd]; exact hm l⟩
  · rcases Nat.eq_or_lt_of_le hj with h1 | h1
    · subst h1
      rw [hc] at he
      injection he with he
      subst he
      exact ⟨_, List.mem_append_right _ (by simp), fun l => (hm l).symm⟩
    · obtain ⟨d, hd, hs⟩ := h.sub2 j e h1 he
      exact ⟨d, List.mem_append_left _ hd, hs⟩
  · rcases List.mem_append.1 hd with hd | hd
    · exact h.len d hd
    · simp at hd
      rw [hd]; simp; omega

theorem gi_two {F G : List (List Int)} {i : Nat} {c : List Int} (h : GI F (i + 1) G) (hc : F[i]? = some c) (hl : c.length ≤ 20) : GI F i ((G ++ [c.reverse ++ c]) ++ [c]) := by
  have h1 := gi_one h hc hl
  have hcF := List.mem_of_getElem? hc
  have hcnt := h.cnt
  refine ⟨fun d hd => ?_, fun j e hj he => ?_, fun d hd => ?_, by simp; omega⟩
  · rcases List.mem_append.1 hd with hd | hd
    · exact h1.sub1 d hd
    · simp at hd
      exact ⟨c, hcF, fun l => by rw [hd]⟩
  · obtain ⟨d, hd, hs⟩ := h1.sub2 j e hj he
    exact ⟨d, List.mem_append_left _ hd, hs⟩
  · rcases List.mem_append.1 hd with hd | hd
    · exact h1.len d hd
    · simp at hd
      rw [hd]; omega

theorem gi_up {n : Nat} {F G : List (List Int)} {A T : List Int} (h : GI F 0 G) (ht : ∀ a, a ∈ T ↔ a ∈ A) : upL n G T = upL n F A ∧ upF G T = upF F A := by
  refine up_same (fun d hd => h.sub1 d hd) (fun c hc => ?_) ht
  obtain ⟨j, hj⟩ := List.mem_iff_getElem?.1 hc
  exact h.sub2 j c (Nat.zero_le _) hj

theorem check_of {n : Nat} {G : List (List Int)} (hn : n ≤ 1048576) (hl : G.length ≤ 1048576) (h : ∀ d ∈ G, d.length ≤ 4096 ∧ ∀ a ∈ d, LitOk n a) : cnfCheck n G = 0 := by
  rw [cnfCheck_find (by omega) (by omega), List.find?_eq_none.2 ?_]
  intro d hd
  obtain ⟨h1, h2⟩ := h d hd
  rw [litCheck_ok (by omega) (by omega)]
  · simp
  · rw [List.any_eq_false]
    intro a ha
    have := h2 a ha
    unfold LitOk at this
    simp [badLit]
    omega

theorem drop_rev {c : List Int} {k : Nat} {x : Int} (h : c[k]? = some x) : (c.drop k).reverse = (c.drop (k + 1)).reverse ++ [x] := by
  have hk := (List.getElem?_eq_some_iff.1 h).1
  rw [List.drop_eq_getElem_cons hk]
  simp [(List.getElem?_eq_some_iff.1 h).2]

/-- T holds the numbers of A from i on. -/
def TI (A : List Int) (i : Nat) (T : List Int) : Prop := (∀ a, a ∈ T ↔ a ∈ A.drop i) ∧ T.length + 2 * i ≤ 2 * A.length

theorem ti_start (A : List Int) : TI A A.length [] := ⟨fun a => by simp, by simp⟩

theorem ti_step {A T : List Int} {i : Nat} {x : Int} (h : TI A (i + 1) T) (hx : A[i]? = some x) : TI A i (T ++ [x, x]) := by
  have hk := (List.getElem?_eq_some_iff.1 hx).1
  have h2 := h.2
  refine ⟨fun a => ?_, by simp; omega⟩
  rw [List.drop_eq_getElem_cons hk, List.mem_append, h.1 a]
  simp [(List.getElem?_eq_some_iff.1 hx).2]
  constructor
  · rintro (h | h)
    · exact .inr h
    · exact .inl h
  · rintro (h | h)
    · exact .inr h
    · exact .inl h

end Go.Proofs.Ytfgaglgaofceiaa.Ord
