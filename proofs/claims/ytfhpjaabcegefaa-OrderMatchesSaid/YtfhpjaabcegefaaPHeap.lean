/- Binary heaps as lists, with no program in sight: the order of variables, sifting up and down. -/
namespace Go.Proofs.Ytfhpjaabcegefaa

/-- A variable's activity. -/
def actv (A : List Int) (v : Int) : Int := A.getD v.toNat 0

/-- a comes before b. -/
def bef (A : List Int) (a b : Int) : Bool := decide (actv A b < actv A a) || (decide (actv A a = actv A b) && decide (a < b))

theorem bef_iff (A : List Int) (a b : Int) : bef A a b = true ↔ actv A b < actv A a ∨ (actv A a = actv A b ∧ a < b) := by simp [bef]
theorem nbef_iff (A : List Int) (a b : Int) : bef A a b = false ↔ actv A a < actv A b ∨ (actv A a = actv A b ∧ b ≤ a) := by
  rw [Bool.eq_false_iff, Ne, bef_iff]; omega

theorem nbef_trans {A : List Int} {a b c : Int} (h : bef A a b = false) (h' : bef A b c = false) : bef A a c = false := by
  rw [nbef_iff] at *; omega
theorem nbef_of_bef {A : List Int} {a b : Int} (h : bef A a b = true) : bef A b a = false := by
  rw [bef_iff] at h; rw [nbef_iff]; omega
theorem nbef_self (A : List Int) (a : Int) : bef A a a = false := by rw [nbef_iff]; omega
theorem bef_total {A : List Int} {a b : Int} (h : bef A a b = false) (h' : bef A b a = false) : a = b := by
  rw [nbef_iff] at *; omega

/-- An element. -/
def at' (I : List Int) (k : Nat) : Int := I.getD k 0

theorem at'_get {I : List Int} {k : Nat} {x : Int} (h : I[k]? = some x) : at' I k = x := by simp [at', h]
theorem get_at' {I : List Int} {k : Nat} (h : k < I.length) : I[k]? = some (at' I k) := by simp [at', h]

/-- Two elements exchanged. -/
def swp (I : List Int) (i j : Nat) : List Int := (I.set i (at' I j)).set j (at' I i)

theorem swp_length (I : List Int) (i j : Nat) : (swp I i j).length = I.length := by simp [swp]

theorem at'_set {I : List Int} {i k : Nat} {x : Int} (hi : i < I.length) : at' (I.set i x) k = if i = k then x else at' I k := by
  unfold at'
  rw [List.getD_eq_getElem?_getD, List.getD_eq_getElem?_getD, List.getElem?_set]
  split
  · rfl
  · rfl

theorem at'_swp {I : List Int} {i j k : Nat} (hi : i < I.length) (hj : j < I.length) : at' (swp I i j) k = if k = i then at' I j else if k = j then at' I i else at' I k := by
  unfold swp
  rw [at'_set (by simpa using hj), at'_set hi]
  by_cases h1 : j = k
  · subst h1
    by_cases h2 : j = i
    · subst h2; simp
    · simp [h2]
  · by_cases h2 : i = k
    · subst h2; simp [h1]
    · have : ¬ k = i := fun e => h2 e.symm
      have h3 : ¬ k = j := fun e => h1 e.symm
      simp [h1, h2, this, h3]

/-- No element comes before its parent. -/
def HeapOrd (A I : List Int) : Prop := ∀ j, 0 < j → j < I.length → bef A (at' I j) (at' I ((j - 1) / 2)) = false

/-- The same but at the place i, which may rise. -/
def UpInv (A I : List Int) (i : Nat) : Prop :=
  (∀ j, 0 < j → j < I.length → j ≠ i → bef A (at' I j) (at' I ((j - 1) / 2)) = false) ∧
  (∀ j, 0 < j → j < I.length → (j - 1) / 2 = i → 0 < i → bef A (at' I j) (at' I ((i - 1) / 2)) = false)

/-- The same but below the place i, which may sink. -/
def DownInv (A I : List Int) (i : Nat) : Prop :=
  (∀ j, 0 < j → j < I.length → (j - 1) / 2 ≠ i → bef A (at' I j) (at' I ((j - 1) / 2)) = false) ∧
  (∀ j, 0 < j → j < I.length → (j - 1) / 2 = i → 0 < i → bef A (at' I j) (at' I ((i - 1) / 2)) = false)

theorem up_done {A I : List Int} {i : Nat} (h : UpInv A I i) (hd : i = 0 ∨ bef A (at' I i) (at' I ((i - 1) / 2)) = false) : HeapOrd A I := fun j h1 h2 => by
  by_cases hj : j = i
  · subst hj
    rcases hd with h0 | h0
    · omega
    · exact h0
  · exact h.1 j h1 h2 hj

theorem up_step {A I : List Int} {i : Nat} (h : UpInv A I i) (hi : 0 < i) (hl : i < I.length) (hb : bef A (at' I i) (at' I ((i - 1) / 2)) = true) : UpInv A (swp I i ((i - 1) / 2)) ((i - 1) / 2) := by
  have hp : (i - 1) / 2 < i := by omega
  have hpl : (i - 1) / 2 < I.length := by omega
  refine ⟨fun j h1 h2 h3 => ?_, fun j h1 h2 h3 h4 => ?_⟩
  · rw [swp_length] at h2
    rw [at'_swp hl hpl, at'_swp hl hpl]
    by_cases hji : j = i
    · subst hji
      rw [if_pos rfl, if_neg (by omega), if_pos rfl]
      exact nbef_of_bef hb
    · rw [if_neg hji, if_neg h3]
      by_cases hpi : (j - 1) / 2 = i
      · rw [if_pos hpi]; exact h.2 j h1 h2 hpi hi
      · rw [if_neg hpi]
        by_cases hpp : (j - 1) / 2 = (i - 1) / 2
        · rw [if_pos hpp]
          have := h.1 j h1 h2 hji
          rw [hpp] at this
          exact nbef_trans this (nbef_of_bef hb)
        · rw [if_neg hpp]; exact h.1 j h1 h2 hji
  · rw [swp_length] at h2
    rw [at'_swp hl hpl, at'_swp hl hpl]
    have e1 : ¬ ((i - 1) / 2 - 1) / 2 = i := by omega
    have e2 : ¬ ((i - 1) / 2 - 1) / 2 = (i - 1) / 2 := by omega
    rw [if_neg e1, if_neg e2]
    have hup := h.1 ((i - 1) / 2) h4 hpl (by omega)
    by_cases hji : j = i
    · subst hji
      rw [if_pos rfl]; exact hup
    · rw [if_neg hji, if_neg (by omega)]
      have := h.1 j h1 h2 hji
      rw [h3] at this
      exact nbef_trans this hup

theorem down_done {A I : List Int} {i : Nat} (h : DownInv A I i) (h1 : 2 * i + 1 < I.length → bef A (at' I (2 * i + 1)) (at' I i) = false) (h2 : 2 * i + 2 < I.length → bef A (at' I (2 * i + 2)) (at' I i) = false) : HeapOrd A I := fun j j1 j2 => by
  by_cases hj : (j - 1) / 2 = i
  · rw [hj]
    by_cases hodd : j = 2 * i + 1
    · subst hodd; exact h1 j2
    · have : j = 2 * i + 2 := by omega
      subst this; exact h2 j2
  · exact h.1 j j1 j2 hj

theorem down_step {A I : List Int} {i c : Nat} (h : DownInv A I i) (hc : c = 2 * i + 1 ∨ c = 2 * i + 2) (hl : c < I.length) (hb : bef A (at' I c) (at' I i) = true)
    (h1 : 2 * i + 1 < I.length → bef A (at' I (2 * i + 1)) (at' I c) = false) (h2 : 2 * i + 2 < I.length → bef A (at' I (2 * i + 2)) (at' I c) = false) : DownInv A (swp I i c) c := by
  have hil : i < I.length := by omega
  have hpc : (c - 1) / 2 = i := by omega
  refine ⟨fun j j1 j2 j3 => ?_, fun j j1 j2 j3 j4 => ?_⟩
  · rw [swp_length] at j2
    rw [at'_swp hil hl, at'_swp hil hl]
    by_cases hji : j = i
    · subst hji
      rw [if_pos rfl, if_neg (by omega), if_neg (by omega)]
      exact h.2 c (by omega) hl hpc j1
    · rw [if_neg hji]
      by_cases hjc : j = c
      · subst hjc
        rw [if_pos rfl, if_pos hpc]
        exact nbef_of_bef hb
      · rw [if_neg hjc]
        by_cases hpi : (j - 1) / 2 = i
        · rw [if_pos hpi]
          have hjj : j = 2 * i + 1 ∨ j = 2 * i + 2 := by omega
          rcases hjj with rfl | rfl
          · exact h1 j2
          · exact h2 j2
        · rw [if_neg hpi, if_neg j3]; exact h.1 j j1 j2 hpi
  · rw [swp_length] at j2
    rw [at'_swp hil hl, at'_swp hil hl, hpc, if_pos rfl, if_neg (by omega), if_neg (by omega)]
    have := h.1 j j1 j2 (by omega)
    rw [j3] at this
    exact this

theorem heap_top {A I : List Int} (h : HeapOrd A I) : ∀ k, k < I.length → bef A (at' I k) (at' I 0) = false := by
  intro k
  induction k using Nat.strongRecOn with
  | ind k ih =>
    intro hk
    by_cases h0 : k = 0
    · subst h0; exact nbef_self _ _
    · exact nbef_trans (h k (by omega) hk) (ih ((k - 1) / 2) (by omega) (by omega))

/-- The places fit the items: 1 to n are the variables. -/
def Fits (I P : List Int) : Prop := (∀ k, k < I.length → at' P (at' I k).toNat = (k : Int)) ∧ (∀ k, k < I.length → 1 ≤ at' I k ∧ at' I k < P.length) ∧ (∀ v, v < P.length → (∀ k, k < I.length → (at' I k).toNat ≠ v) → at' P v = -1)

theorem fits_inj {I P : List Int} (h : Fits I P) {i j : Nat} (hi : i < I.length) (hj : j < I.length) (e : at' I i = at' I j) : i = j := by
  have h1 := h.1 i hi
  have h2 := h.1 j hj
  rw [e, h2] at h1
  omega

/-- Two items exchanged, with their places. -/
theorem fits_swp {I P : List Int} {i j : Nat} (h : Fits I P) (hi : i < I.length) (hj : j < I.length) : Fits (swp I i j) ((P.set (at' I j).toNat i).set (at' I i).toNat j) := by
  have bi := h.2.1 i hi
  have bj := h.2.1 j hj
  have li : (at' I i).toNat < P.length := by omega
  have lj : (at' I j).toNat < P.length := by omega
  have key : ∀ v, at' ((P.set (at' I j).toNat i).set (at' I i).toNat j) v = if (at' I i).toNat = v then (j : Int) else if (at' I j).toNat = v then (i : Int) else at' P v := fun v => by
    rw [at'_set (by simpa using li), at'_set lj]
  refine ⟨fun k hk => ?_, fun k hk => ?_, fun v hv hn => ?_⟩
  · rw [swp_length] at hk
    have bk := h.2.1 k hk
    rw [at'_swp hi hj, key]
    by_cases h1 : k = i
    · subst h1
      rw [if_pos rfl]
      by_cases h2 : at' I k = at' I j
      · rw [if_pos (by rw [h2])]
        exact congrArg Int.ofNat (fits_inj h hk hj h2).symm
      · rw [if_neg (by omega), if_pos rfl]
    · rw [if_neg h1]
      by_cases h2 : k = j
      · subst h2
        rw [if_pos rfl, if_pos rfl]
      · rw [if_neg h2]
        have e1 : ¬ (at' I i).toNat = (at' I k).toNat := fun e => h1 (fits_inj h hk hi (by omega))
        have e2 : ¬ (at' I j).toNat = (at' I k).toNat := fun e => h2 (fits_inj h hk hj (by omega))
        rw [if_neg e1, if_neg e2]; exact h.1 k hk
  · rw [swp_length] at hk
    simp only [List.length_set]
    rw [at'_swp hi hj]
    split
    · exact bj
    · split
      · exact bi
      · exact h.2.1 k hk
  · simp only [List.length_set] at hv
    rw [key]
    have e1 : ¬ (at' I i).toNat = v := fun e => by
      have := hn j (by rw [swp_length]; exact hj)
      rw [at'_swp hi hj] at this
      by_cases hji : j = i
      · subst hji; rw [if_pos rfl] at this; exact this e
      · rw [if_neg hji, if_pos rfl] at this; exact this e
    have e2 : ¬ (at' I j).toNat = v := fun e => by
      have := hn i (by rw [swp_length]; exact hi)
      rw [at'_swp hi hj, if_pos rfl] at this; exact this e
    rw [if_neg e1, if_neg e2]
    refine h.2.2 v hv fun k hk => ?_
    have := hn k (by rw [swp_length]; exact hk)
    rw [at'_swp hi hj] at this
    by_cases h1 : k = i
    · subst h1; exact e1
    · rw [if_neg h1] at this
      by_cases h2 : k = j
      · subst h2; exact e2
      · rw [if_neg h2] at this; exact this

/-- v is in the heap. -/
def inI (I : List Int) (v : Int) : Prop := ∃ k, k < I.length ∧ at' I k = v

theorem inI_swp {I : List Int} {i j : Nat} (hi : i < I.length) (hj : j < I.length) (v : Int) : inI (swp I i j) v ↔ inI I v := by
  have key := fun k => @at'_swp I i j k hi hj
  constructor
  · rintro ⟨k, hk, rfl⟩
    rw [swp_length] at hk
    rw [key]
    split
    · exact ⟨j, hj, rfl⟩
    · split
      · exact ⟨i, hi, rfl⟩
      · exact ⟨k, hk, rfl⟩
  · rintro ⟨k, hk, rfl⟩
    by_cases h1 : k = i
    · subst h1
      refine ⟨j, by rw [swp_length]; exact hj, ?_⟩
      rw [key]
      by_cases h2 : j = k
      · subst h2; rw [if_pos rfl]
      · rw [if_neg h2, if_pos rfl]
    · by_cases h2 : k = j
      · subst h2
        exact ⟨i, by rw [swp_length]; exact hi, by rw [key, if_pos rfl]⟩
      · exact ⟨k, by rw [swp_length]; exact hk, by rw [key, if_neg h1, if_neg h2]⟩

theorem fits_place {I P : List Int} (h : Fits I P) {v : Nat} (hv : v < P.length) : (0 ≤ at' P v ↔ inI I v) ∧ (inI I v → at' P v < I.length ∧ at' I (at' P v).toNat = v) := by
  have hin : inI I v → 0 ≤ at' P v ∧ at' P v < I.length ∧ at' I (at' P v).toNat = v := by
    rintro ⟨k, hk, he⟩
    have := h.1 k hk
    rw [he, Int.toNat_natCast] at this
    rw [this]
    exact ⟨by omega, by omega, by rw [Int.toNat_natCast]; exact he⟩
  refine ⟨⟨fun h0 => ?_, fun hi => (hin hi).1⟩, fun hi => (hin hi).2⟩
  refine Classical.byContradiction fun hn => ?_
  have := h.2.2 v hv fun k hk e => hn ⟨k, hk, by have := (h.2.1 k hk).1; omega⟩
  omega

end Go.Proofs.Ytfhpjaabcegefaa
