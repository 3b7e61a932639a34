/- Plain facts about the reference's way to close under unit propagation. -/
import Derived.Test.YtfgaglgaofceiaaPNorms
namespace Go.Proofs.Ytfgaglgaofceiaa.Ord

/-- A clause with which nothing is left to do. -/
def ClOk (K c : List Int) : Prop := (∃ l ∈ c, -l ∉ K) ∧ ∀ l ∈ c, (∀ m ∈ c, m ≠ l → -m ∈ K) → l ∈ K

/-- What the reference's unit knows of the numbers that it went through: none is open, or l is the only one. -/
def UI (K xs : List Int) (l : Int) : Prop := (l = 0 ∧ ∀ m ∈ xs, -m ∈ K) ∨ (l ≠ 0 ∧ l ∈ xs ∧ -l ∉ K ∧ l ∉ K ∧ ∀ m ∈ xs, m ≠ l → -m ∈ K)

/-- What the reference's unit answers. -/
def UR (K c : List Int) (l : Int) (is : Bool) : Prop :=
  (is = false ∧ l = 0 ∧ ∀ m ∈ c, -m ∈ K) ∨ (is = true ∧ l = 0 ∧ ClOk K c) ∨ (is = true ∧ l ≠ 0 ∧ l ∈ c ∧ -l ∉ K ∧ l ∉ K ∧ ∀ m ∈ c, m ≠ l → -m ∈ K)

theorem ui_nil (K : List Int) : UI K [] 0 := .inl ⟨rfl, by simp⟩

theorem take_cons_mem {xs : List Int} {k : Nat} {x y : Int} (hx : xs[k]? = some x) (h : y ∈ xs.take (k + 1)) : y ∈ xs.take k ∨ y = x := by
  rw [List.take_add_one, hx] at h
  simpa using h

theorem mem_take_succ {xs : List Int} {k : Nat} {x : Int} (hx : xs[k]? = some x) : x ∈ xs.take (k + 1) := by
  rw [List.take_add_one, hx]; simp

theorem mem_take_le {xs : List Int} {k : Nat} {y : Int} (h : y ∈ xs.take k) : y ∈ xs.take (k + 1) := by
  rw [List.take_add_one]; exact List.mem_append_left _ h

theorem ui_skip {K xs : List Int} {k : Nat} {x l : Int} (h : UI K (xs.take k) l) (hx : xs[k]? = some x) (hn : -x ∈ K) : UI K (xs.take (k + 1)) l := by
  rcases h with ⟨e, h⟩ | ⟨h0, h1, h2, h3, h4⟩
  · exact .inl ⟨e, fun m hm => (take_cons_mem hx hm).elim (h m) (fun e => by rw [e]; exact hn)⟩
  · exact .inr ⟨h0, mem_take_le h1, h2, h3, fun m hm hne => (take_cons_mem hx hm).elim (fun hm => h4 m hm hne) (fun e => by rw [e]; exact hn)⟩

theorem ui_same {K xs : List Int} {k : Nat} {x : Int} (h : UI K (xs.take k) x) (hx : xs[k]? = some x) (h0 : x ≠ 0) : UI K (xs.take (k + 1)) x := by
  rcases h with ⟨e, h⟩ | ⟨h0, h1, h2, h3, h4⟩
  · exact absurd e h0
  · exact .inr ⟨h0, mem_take_le h1, h2, h3, fun m hm hne => (take_cons_mem hx hm).elim (fun hm => h4 m hm hne) (fun e => absurd e hne)⟩

theorem ui_set {K xs : List Int} {k : Nat} {x l : Int} (h : UI K (xs.take k) l) (hx : xs[k]? = some x) (hn : -x ∉ K) (hk : x ∉ K) (h0 : x ≠ 0) (hl : l = 0) : UI K (xs.take (k + 1)) x := by
  rcases h with ⟨e, h⟩ | ⟨h0, -⟩
  · exact .inr ⟨h0, mem_take_succ hx, hn, hk, fun m hm hne => (take_cons_mem hx hm).elim (fun hm => h m hm) (fun e => absurd e hne)⟩
  · exact absurd hl h0

theorem ui_two {K c : List Int} {k : Nat} {x l : Int} (h : UI K (c.take k) l) (hx : c[k]? = some x) (hn : -x ∉ K) (hne : x ≠ l) (h1 : x ∈ K ∨ l ≠ 0) : ClOk K c := by
  have hxc := List.mem_of_getElem? hx
  refine ⟨⟨x, hxc, hn⟩, fun y hy hall => ?_⟩
  by_cases hyx : x = y
  · subst hyx
    rcases h1 with h1 | h1
    · exact h1
    · rcases h with ⟨e, -⟩ | ⟨_, h1, h2, -⟩
      · exact absurd e h1
      · exact absurd (hall l (List.mem_of_mem_take h1) (fun e => hne e.symm)) h2
  · exact absurd (hall x hxc hyx) hn

theorem ui_end {K c : List Int} {k : Nat} {l : Int} (h : UI K (c.take k) l) (hk : c.length ≤ k) : UR K c l (!decide (l = 0)) := by
  rw [List.take_of_length_le hk] at h
  rcases h with ⟨rfl, h⟩ | ⟨h0, h⟩
  · exact .inl ⟨by simp, rfl, h⟩
  · exact .inr (.inr ⟨by simp [h0], h0, h⟩)

/-- What is known to the reference while it goes through the clauses. -/
structure PR (n : Nat) (F : List (List Int)) (A K : List Int) : Prop where
  sound : ∀ a ∈ K, Der F A a
  asm : ∀ a ∈ A, a ∈ K
  cons : ∀ a ∈ K, -a ∉ K
  nod : K.Nodup
  kok : ∀ a ∈ K, LitOk n a

theorem pr_start {n : Nat} {F : List (List Int)} {A K : List Int} (h : PA n A K A.length) (hA : ∀ a ∈ A, LitOk n a) : PR n F A K := by
  obtain h' : PU n F A K 0 := pu_start h hA
  exact ⟨h'.sound, h'.asm, h'.cons, h'.knod, h'.kok⟩

theorem pr_len {n : Nat} {F : List (List Int)} {A K : List Int} (h : PR n F A K) : K.length ≤ n := lits_le h.nod h.cons h.kok

theorem pr_add {n : Nat} {F : List (List Int)} {A K c : List Int} {l : Int} (h : PR n F A K) (hF : ClsOk n F) (hc : c ∈ F) (h1 : l ∈ c) (h2 : -l ∉ K) (h3 : l ∉ K) (h4 : ∀ m ∈ c, m ≠ l → -m ∈ K) : PR n F A (K ++ [l]) := by
  have hl := hF c hc l h1
  refine ⟨fun a ha => ?_, fun a ha => List.mem_append_left _ (h.asm a ha), fun a ha hn => ?_, ?_, fun a ha => ?_⟩
  · rcases List.mem_append.1 ha with ha | ha
    · exact h.sound a ha
    · rw [List.mem_singleton] at ha
      subst ha
      exact .unit hc h1 fun m hm hne => h.sound _ (h4 m hm hne)
  · unfold LitOk at hl
    simp only [List.mem_append, List.mem_singleton] at ha hn
    rcases ha with ha | ha <;> rcases hn with hn | hn
    · exact h.cons a ha hn
    · exact h2 (by rw [← hn, Int.neg_neg]; exact ha)
    · exact h2 (by rw [← ha]; exact hn)
    · omega
  · rw [List.nodup_append]
    refine ⟨h.nod, by simp, fun a ha c hc => ?_⟩
    rw [List.mem_singleton] at hc
    rintro rfl
    exact h3 (by rw [← hc]; exact ha)
  · rcases List.mem_append.1 ha with ha | ha
    · exact h.kok a ha
    · rw [List.mem_singleton] at ha
      rw [ha]; exact hl

theorem pr_bad {n : Nat} {F : List (List Int)} {A K c : List Int} (h : PR n F A K) (hc : c ∈ F) (h4 : ∀ m ∈ c, -m ∈ K) : Bad F A := .inr ⟨c, hc, fun l hl => h.sound _ (h4 l hl)⟩

/-- In the middle of a round: b were known when it began. -/
def PRI (n : Nat) (F : List (List Int)) (A K : List Int) (b i : Nat) : Prop := PR n F A K ∧ b ≤ K.length ∧ (K.length = b → ∀ c ∈ F.take i, ClOk K c)

theorem pri_start {n : Nat} {F : List (List Int)} {A K : List Int} (h : PR n F A K) : PRI n F A K K.length 0 := ⟨h, Nat.le_refl _, fun _ => by simp⟩

theorem pri_ok {n : Nat} {F : List (List Int)} {A K c : List Int} {b i : Nat} (h : PRI n F A K b i) (hc : F[i]? = some c) (hk : ClOk K c) : PRI n F A K b (i + 1) := by
  refine ⟨h.1, h.2.1, fun e d hd => ?_⟩
  rw [List.take_add_one, hc] at hd
  rcases List.mem_append.1 hd with hd | hd
  · exact h.2.2 e d hd
  · simp at hd; rw [hd]; exact hk

theorem pri_add {n : Nat} {F : List (List Int)} {A K c : List Int} {b i : Nat} {l : Int} (h : PRI n F A K b i) (hF : ClsOk n F) (hc : F[i]? = some c) (h1 : l ∈ c) (h2 : -l ∉ K) (h3 : l ∉ K) (h4 : ∀ m ∈ c, m ≠ l → -m ∈ K) : PRI n F A (K ++ [l]) b (i + 1) := by
  have hb := h.2.1
  refine ⟨pr_add h.1 hF (List.mem_of_getElem? hc) h1 h2 h3 h4, by simp; omega, fun e => ?_⟩
  simp at e
  omega

/-- Before a round: the first one, or something was new in the last one, or nothing is left to do. -/
def PRO (n : Nat) (F : List (List Int)) (A K : List Int) (b : Int) : Prop := PR n F A K ∧ b ≤ K.length ∧ -1 ≤ b ∧ (b = K.length → ∀ c ∈ F, ClOk K c)

theorem pro_start {n : Nat} {F : List (List Int)} {A K : List Int} (h : PR n F A K) : PRO n F A K (-1) := ⟨h, by omega, by omega, fun e => by omega⟩

theorem pro_next {n : Nat} {F : List (List Int)} {A K : List Int} {b i : Nat} (h : PRI n F A K b i) (hi : F.length ≤ i) : PRO n F A K b := by
  refine ⟨h.1, by have := h.2.1; omega, by omega, fun e c hc => h.2.2 (by omega) c ?_⟩
  rw [List.take_of_length_le hi]
  exact hc

theorem pro_closed {n : Nat} {F : List (List Int)} {A K : List Int} {b : Int} (h : PRO n F A K b) (hb : ¬ b < K.length) : Closed F A K := by
  have hall := h.2.2.2 (by have := h.2.1; omega)
  exact ⟨h.1.sound, h.1.asm, h.1.cons, fun c hc => (hall c hc).2, fun c hc => (hall c hc).1⟩

/-- What Units answers, in layers 4's own words. -/
noncomputable def unitsV (n : Int) (F : List (List Int)) (A : List Int) : List Int × Bool × Int :=
  if cnfCheck n F = 0 then (if A.all (fun a => !badLit n a) then (upL n.toNat F A, upF F A, 0) else ([], false, 3)) else ([], false, cnfCheck n F)

theorem unitsV_err {n e : Int} {F : List (List Int)} (h : cnfCheck n F = e) (h0 : e ≠ 0) (A : List Int) : unitsV n F A = ([], false, e) := by
  unfold unitsV
  rw [h, if_neg h0]

theorem unitsV_arg {n : Int} {F : List (List Int)} {A : List Int} {k : Nat} {x : Int} (h : cnfCheck n F = 0) (hx : A[k]? = some x) (hb : badLit n x = true) : unitsV n F A = ([], false, 3) := by
  unfold unitsV
  rw [if_pos h, if_neg]
  intro ha
  have := List.all_eq_true.1 ha x (List.mem_of_getElem? hx)
  rw [hb] at this
  cases this

theorem unitsV_ok {n : Nat} {F : List (List Int)} {A : List Int} (h : cnfCheck n F = 0) (ha : A.any (badLit n) = false) : unitsV n F A = (upL n F A, upF F A, 0) := by
  unfold unitsV
  rw [if_pos h, if_pos]
  · rfl
  · rw [List.all_eq_true]
    intro x hx
    have := List.any_eq_false.1 ha x hx
    simpa using this

theorem lit_ok_of {n : Nat} {x : Int} (h : badLit n x = false) : LitOk n x := by
  unfold badLit at h
  simp only [Bool.or_eq_false_iff, beq_eq_false_iff_ne, decide_eq_false_iff_not] at h
  unfold LitOk
  omega

theorem lit_bad_of {n : Nat} {x : Int} (h : badLit n x = true) : x = 0 ∨ (n : Int) < x ∨ x < -(n : Int) := by
  unfold badLit at h
  simp only [Bool.or_eq_true, beq_iff_eq, decide_eq_true_eq] at h
  omega

theorem asm_ok_of {n : Nat} {A : List Int} (h : A.any (badLit n) = false) : ∀ a ∈ A, LitOk n a := fun a ha => lit_ok_of (by have := List.any_eq_false.1 h a ha; simpa using this)

/-- What a formula that is valid keeps to. -/
theorem cnf_valid {n : Int} {F : List (List Int)} (h : cnfCheck n F = 0) : 0 ≤ n ∧ n ≤ 1048576 ∧ F.length ≤ 1048576 ∧ (∀ c ∈ F, c.length ≤ 4096) ∧ ClsOk n.toNat F := by
  unfold cnfCheck at h
  split at h
  · simp at h
  rename_i h1
  split at h
  · simp at h
  rename_i h2
  have hall : ∀ c ∈ F, litCheck n c = 0 := by
    cases hf : F.find? (fun c => litCheck n c != 0) with
    | none =>
      intro c hc
      have := List.find?_eq_none.1 hf c hc
      simpa using this
    | some d =>
      rw [hf] at h
      have := List.find?_some hf
      simp at this
      exact absurd h this
  have hl : ∀ c ∈ F, c.length ≤ 4096 ∧ c.any (badLit n) = false := fun c hc => by
    have h3 := hall c hc
    unfold litCheck at h3
    split at h3
    · simp at h3
    split at h3
    · simp at h3
    split at h3
    · simp at h3
    rename_i h4 h5
    exact ⟨by omega, by simpa using h5⟩
  obtain ⟨m, rfl⟩ := Int.eq_ofNat_of_zero_le (show 0 ≤ n by omega)
  exact ⟨by omega, by omega, by omega, fun c hc => (hl c hc).1, fun c hc => asm_ok_of (hl c hc).2⟩

end Go.Proofs.Ytfgaglgaofceiaa.Ord
