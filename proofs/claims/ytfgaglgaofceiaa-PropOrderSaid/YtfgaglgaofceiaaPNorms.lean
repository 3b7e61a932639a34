/- The clauses of a formula as Units keeps them; its assumptions. Plain. -/
import Derived.Test.YtfgaglgaofceiaaPRun
import Derived.Test.YtfgaglgaofceiaaPSort
import Derived.Test.YtfgaglgaofceiaaPCnf
namespace Go.Proofs.Ytfgaglgaofceiaa.Ord

/-- The clauses that Units keeps. -/
def normN (F : List (List Int)) : List (List Int) := (F.filter fun c => !adjB (normL c)).map normL

theorem normN_skip {F : List (List Int)} {k : Nat} {c : List Int} (h : F[k]? = some c) (ht : adjB (normL c) = true) : normN (F.take (k + 1)) = normN (F.take k) := by
  rw [List.take_add_one, h]; simp [normN, ht]
theorem normN_keep {F : List (List Int)} {k : Nat} {c : List Int} (h : F[k]? = some c) (ht : adjB (normL c) = false) : normN (F.take (k + 1)) = normN (F.take k) ++ [normL c] := by
  rw [List.take_add_one, h]; simp [normN, ht]

theorem normN_length (F : List (List Int)) : (normN F).length ≤ F.length := by
  unfold normN
  rw [List.length_map]
  exact List.length_filter_le _ _

theorem asc_nodup {l : List Int} (h : Asc l) : l.Nodup := h.imp fun {a c} hac => fun e => by rw [e, lessB_irrefl] at hac; cases hac

theorem normN_mem {F : List (List Int)} {c : List Int} : c ∈ normN F ↔ ∃ d ∈ F, adjB (normL d) = false ∧ normL d = c := by
  simp only [normN, List.mem_map, List.mem_filter, Bool.not_eq_true']
  exact ⟨fun ⟨d, ⟨h1, h2⟩, h3⟩ => ⟨d, h1, h2, h3⟩, fun ⟨d, h1, h2, h3⟩ => ⟨d, ⟨h1, h2⟩, h3⟩⟩

theorem normN_nodup (F : List (List Int)) : ∀ c ∈ normN F, c.Nodup := fun c hc => by
  obtain ⟨d, -, -, rfl⟩ := normN_mem.1 hc
  exact asc_nodup (asc_normL d)

theorem normN_ok {n : Nat} {F : List (List Int)} (h : ClsOk n F) : ClsOk n (normN F) := fun c hc a ha => by
  obtain ⟨d, hd, -, rfl⟩ := normN_mem.1 hc
  exact h d hd a (mem_normL_iff.1 ha).1

theorem normN_sub {n : Nat} {F : List (List Int)} (h : ClsOk n F) : Sub (normN F) F := fun c hc => by
  obtain ⟨d, hd, -, rfl⟩ := normN_mem.1 hc
  exact ⟨d, hd, fun l => ⟨fun hl => (mem_normL_iff.1 hl).1, fun hl => mem_normL_iff.2 ⟨hl, (h d hd l hl).1⟩⟩⟩

theorem normN_cover {n : Nat} {F : List (List Int)} (h : ClsOk n F) : ∀ c ∈ F, Taut c ∨ ∃ c' ∈ normN F, ∀ l, l ∈ c ↔ l ∈ c' := fun c hc => by
  cases ht : adjB (normL c) with
  | true =>
    left
    obtain ⟨x, hx, hnx⟩ := (adjB_iff (asc_normL c) (fun x hx => (mem_normL_iff.1 hx).2)).1 ht
    exact ⟨x, (mem_normL_iff.1 hx).1, (mem_normL_iff.1 hnx).1⟩
  | false => exact .inr ⟨normL c, normN_mem.2 ⟨c, hc, ht, rfl⟩, fun l => ⟨fun hl => mem_normL_iff.2 ⟨hl, (h c hc l hl).1⟩, fun hl => (mem_normL_iff.1 hl).1⟩⟩

/-- Units over the clauses that are kept. -/
theorem normN_up {n : Nat} {F : List (List Int)} (h : ClsOk n F) (A : List Int) : upL n (normN F) A = upL n F A ∧ upF (normN F) A = upF F A := up_norm h (normN_cover h) (normN_sub h)

/-- What the assumptions leave. -/
structure PA (n : Nat) (A K : List Int) (k : Nat) : Prop where
  all : ∀ a ∈ A.take k, a ∈ K
  sub : ∀ a ∈ K, a ∈ A
  cons : ∀ a ∈ K, -a ∉ K
  nod : K.Nodup

theorem pa_start (n : Nat) (A : List Int) : PA n A [] 0 := ⟨by simp, by simp, by simp, List.nodup_nil⟩

theorem pa_step {n : Nat} {A K : List Int} {k : Nat} {a : Int} (h : PA n A K k) (ha : A[k]? = some a) (h0 : a ≠ 0) (hn : -a ∉ K) : PA n A (setK K a) (k + 1) := by
  have hm := List.mem_of_getElem? ha
  by_cases h2 : a ∈ K
  · rw [setK_pos hn h2]
    refine ⟨fun x hx => ?_, h.sub, h.cons, h.nod⟩
    rw [List.take_add_one, ha] at hx
    rcases List.mem_append.1 hx with hx | hx
    · exact h.all x hx
    · simp at hx; rw [hx]; exact h2
  · rw [setK_new hn h2]
    refine ⟨fun x hx => ?_, fun x hx => ?_, fun x hx => ?_, ?_⟩
    · rw [List.take_add_one, ha] at hx
      rcases List.mem_append.1 hx with hx | hx
      · exact List.mem_append_left _ (h.all x hx)
      · simp at hx; rw [hx]; simp
    · rcases List.mem_append.1 hx with hx | hx
      · exact h.sub x hx
      · simp at hx; rw [hx]; exact hm
    · rw [List.mem_append, not_or]
      rcases List.mem_append.1 hx with hx | hx
      · refine ⟨h.cons x hx, fun e => ?_⟩
        simp at e
        exact hn (by rw [← e, Int.neg_neg]; exact hx)
      · simp at hx
        subst hx
        refine ⟨hn, fun e => ?_⟩
        simp at e
        omega
    · exact List.nodup_append.2 ⟨h.nod, by simp, fun y hy z hz e => by simp at hz; exact h2 (by rw [← hz, ← e]; exact hy)⟩

theorem pa_bad {n : Nat} {A K : List Int} {k : Nat} {a : Int} (h : PA n A K k) (ha : A[k]? = some a) (hn : -a ∈ K) (C : List (List Int)) : Bad C A :=
  .inl ⟨a, .asm (List.mem_of_getElem? ha), .asm (h.sub _ hn)⟩

theorem pa_len {n : Nat} {A K : List Int} {k : Nat} (h : PA n A K k) (hA : ∀ a ∈ A, LitOk n a) : K.length ≤ n := lits_le h.nod h.cons fun a ha => hA a (h.sub a ha)

/-- What the loop over the unit clauses leaves. -/
structure PU (n : Nat) (C : List (List Int)) (A K : List Int) (j : Nat) : Prop where
  sound : ∀ a ∈ K, Der C A a
  asm : ∀ a ∈ A, a ∈ K
  kok : ∀ a ∈ K, LitOk n a
  cons : ∀ a ∈ K, -a ∉ K
  knod : K.Nodup
  one : ∀ (i : Nat) c, i < j → C[i]? = some c → c.length ≤ 1 → ∃ l ∈ c, l ∈ K

theorem pu_start {n : Nat} {C : List (List Int)} {A K : List Int} (h : PA n A K A.length) (hA : ∀ a ∈ A, LitOk n a) : PU n C A K 0 :=
  ⟨fun a ha => .asm (h.sub a ha), fun a ha => h.all a (by rw [List.take_length]; exact ha), fun a ha => hA a (h.sub a ha), h.cons, h.nod, fun i c hi => by omega⟩

theorem pu_skip {n : Nat} {C : List (List Int)} {A K : List Int} {j : Nat} {c : List Int} (h : PU n C A K j) (hc : C[j]? = some c) (h2 : 2 ≤ c.length) : PU n C A K (j + 1) :=
  ⟨h.sound, h.asm, h.kok, h.cons, h.knod, fun i d hi hd hl => by
    by_cases e : i = j
    · rw [e, hc] at hd; injection hd with hd; rw [← hd] at hl; omega
    · exact h.one i d (by omega) hd hl⟩

theorem der_one {C : List (List Int)} {A : List Int} {l : Int} (h : [l] ∈ C) : Der C A l := .unit h (by simp) fun m hm hne => by simp at hm; exact (hne hm).elim

theorem pu_set {n : Nat} {C : List (List Int)} {A K : List Int} {j : Nat} {l : Int} (h : PU n C A K j) (hC : ClsOk n C) (hc : C[j]? = some [l]) (hn : -l ∉ K) : PU n C A (setK K l) (j + 1) := by
  have hm := List.mem_of_getElem? hc
  have hl0 := hC _ hm l (by simp)
  by_cases h2 : l ∈ K
  · rw [setK_pos hn h2]
    exact ⟨h.sound, h.asm, h.kok, h.cons, h.knod, fun i d hi hd hl => by
      by_cases e : i = j
      · rw [e, hc] at hd; injection hd with hd; rw [← hd]; exact ⟨l, by simp, h2⟩
      · exact h.one i d (by omega) hd hl⟩
  · rw [setK_new hn h2]
    refine ⟨fun x hx => ?_, fun x hx => List.mem_append_left _ (h.asm x hx), fun x hx => ?_, fun x hx => ?_, ?_, fun i d hi hd hl => ?_⟩
    · rcases List.mem_append.1 hx with hx | hx
      · exact h.sound x hx
      · simp at hx; rw [hx]; exact der_one hm
    · rcases List.mem_append.1 hx with hx | hx
      · exact h.kok x hx
      · simp at hx; rw [hx]; exact hl0
    · rw [List.mem_append, not_or]
      rcases List.mem_append.1 hx with hx | hx
      · refine ⟨h.cons x hx, fun e => ?_⟩
        simp at e
        exact hn (by rw [← e, Int.neg_neg]; exact hx)
      · simp at hx
        subst hx
        refine ⟨hn, fun e => ?_⟩
        simp at e
        have := hl0.1
        omega
    · exact List.nodup_append.2 ⟨h.knod, by simp, fun y hy z hz e => by simp at hz; exact h2 (by rw [← hz, ← e]; exact hy)⟩
    · by_cases e : i = j
      · rw [e, hc] at hd; injection hd with hd; rw [← hd]; exact ⟨l, by simp, by simp⟩
      · obtain ⟨x, hx, hxK⟩ := h.one i d (by omega) hd hl
        exact ⟨x, hx, List.mem_append_left _ hxK⟩

theorem pu_empty {C : List (List Int)} {A : List Int} {j : Nat} (hc : C[j]? = some []) : Bad C A := .inr ⟨[], List.mem_of_getElem? hc, fun l hl => by cases hl⟩
theorem pu_bad {n : Nat} {C : List (List Int)} {A K : List Int} {j : Nat} {l : Int} (h : PU n C A K j) (hc : C[j]? = some [l]) (hn : -l ∈ K) : Bad C A := .inl ⟨l, der_one (List.mem_of_getElem? hc), h.sound _ hn⟩

theorem pu_pi {n : Nat} {C : List (List Int)} {A K : List Int} {j : Nat} (h : PU n C A K j) (hj : C.length ≤ j) (hC : ClsOk n C) (hn : ∀ c ∈ C, c.Nodup) : PI n C A (C.map fun c => (c.length : Int)) K 0 :=
  { nod := hn, cok := hC, olen := by simp, sound := h.sound, asm := h.asm, kok := h.kok, cons := h.cons, knod := h.knod, le := Nat.zero_le _,
    handled := fun i c o hc ho h1 => by
      rw [List.getElem?_map, hc] at ho
      injection ho with ho
      have ho2 : (c.length : Int) = _ := ho
      exact h.one i c (by have := (List.getElem?_eq_some_iff.1 hc).1; omega) hc (by omega)
    cnt := fun i c hc => by rw [List.getElem?_map, hc, List.take_zero, cntO_nil]; rfl }

/-! ### The order of what Units returns -/

theorem byVar_asc (n : Nat) (p : Int → Bool) (hp : ∀ a, p a = true → p (-a) = false) : Asc (byVar n p) := by
  induction n with
  | zero => exact List.Pairwise.nil
  | succ n ih =>
    rw [byVar_succ]
    refine List.pairwise_append.2 ⟨ih, ?_, fun a ha c hc => ?_⟩
    · cases h1 : p ((n : Int) + 1) with
      | true => rw [hp _ h1]; simp
      | false => cases h2 : p (-((n : Int) + 1)) <;> simp
    · have h1 := (mem_byVar.1 ha).1
      unfold LitOk at h1
      have hcs : c.natAbs = n + 1 := by
        rcases List.mem_append.1 hc with hc | hc
        · split at hc
          · simp at hc; omega
          · cases hc
        · split at hc
          · simp at hc; omega
          · cases hc
      rw [lessB_iff]
      left
      omega

end Go.Proofs.Ytfgaglgaofceiaa.Ord
