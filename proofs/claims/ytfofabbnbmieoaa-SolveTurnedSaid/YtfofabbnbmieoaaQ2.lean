/- Binary heaps as lists, with no program in sight: the order of variables, sifting up and down. -/
import Derived.Maps.AppendAt
import Derived.Deep.OwnRows
import Derived.Test.YtfofabbnbmieoaaQ0

namespace Go.Proofs.Ytfofabbnbmieoaa

/-- A variable's activity. -/
def actv (A : List Int) (v : Int) : Int := A.getD v.toNat 0

/-- a comes before b. -/
def bef (A : List Int) (a b : Int) : Bool := decide (actv A b < actv A a) || (decide (actv A a = actv A b) && decide (a < b))

theorem bef_iff (A : List Int) (a b : Int) : bef A a b = true ↔ actv A b < actv A a ∨ (actv A a = actv A b ∧ a < b) := by simp [bef]
theorem nbef_iff (A : List Int) (a b : Int) : bef A a b = false ↔ actv A a < actv A b ∨ (actv A a = actv A b ∧ b ≤ a) := by
  rw [Bool.eq_false_iff, Ne, bef_iff]; omega

theorem nbef_trans {A : List Int} {a b c : Int} (h : bef A a b = false) (h' : bef A b c = false) : bef A a c = false := by
  rw [nbef_iff] at *; omega
theorem nbef_of_bef {A : List Int} {a b : Int} (h : bef A a b = true) : bef A b a = false := by
  rw [bef_iff] at h; rw [nbef_iff]; omega
theorem nbef_self (A : List Int) (a : Int) : bef A a a = false := by rw [nbef_iff]; omega
theorem bef_total {A : List Int} {a b : Int} (h : bef A a b = false) (h' : bef A b a = false) : a = b := by
  rw [nbef_iff] at *; omega

/-- An element. -/
def at' (I : List Int) (k : Nat) : Int := I.getD k 0

/-- Two elements exchanged. -/
def swp (I : List Int) (i j : Nat) : List Int := (I.set i (at' I j)).set j (at' I i)

theorem swp_length (I : List Int) (i j : Nat) : (swp I i j).length = I.length := by simp [swp]

theorem at'_set {I : List Int} {i k : Nat} {x : Int} (hi : i < I.length) : at' (I.set i x) k = if i = k then x else at' I k := by
  unfold at'
  rw [List.getD_eq_getElem?_getD, List.getD_eq_getElem?_getD, List.getElem?_set]
  split
  · rfl
  · rfl

theorem at'_swp {I : List Int} {i j k : Nat} (hi : i < I.length) (hj : j < I.length) : at' (swp I i j) k = if k = i then at' I j else if k = j then at' I i else at' I k := by
  unfold swp
  rw [at'_set (by simpa using hj), at'_set hi]
  by_cases h1 : j = k
  · subst h1
    by_cases h2 : j = i
    · subst h2; simp
    · simp [h2]
  · by_cases h2 : i = k
    · subst h2; simp [h1]
    · have : ¬ k = i := fun e => h2 e.symm
      have h3 : ¬ k = j := fun e => h1 e.symm
      simp [h1, h2, this, h3]

/-- No element comes before its parent. -/
def HeapOrd (A I : List Int) : Prop := ∀ j, 0 < j → j < I.length → bef A (at' I j) (at' I ((j - 1) / 2)) = false

/-- The same but at the place i, which may rise. -/
def UpInv (A I : List Int) (i : Nat) : Prop :=
  (∀ j, 0 < j → j < I.length → j ≠ i → bef A (at' I j) (at' I ((j - 1) / 2)) = false) ∧
  (∀ j, 0 < j → j < I.length → (j - 1) / 2 = i → 0 < i → bef A (at' I j) (at' I ((i - 1) / 2)) = false)

/-- The same but below the place i, which may sink. -/
def DownInv (A I : List Int) (i : Nat) : Prop :=
  (∀ j, 0 < j → j < I.length → (j - 1) / 2 ≠ i → bef A (at' I j) (at' I ((j - 1) / 2)) = false) ∧
  (∀ j, 0 < j → j < I.length → (j - 1) / 2 = i → 0 < i → bef A (at' I j) (at' I ((i - 1) / 2)) = false)

theorem up_done {A I : List Int} {i : Nat} (h : UpInv A I i) (hd : i = 0 ∨ bef A (at' I i) (at' I ((i - 1) / 2)) = false) : HeapOrd A I := fun j h1 h2 => by
  by_cases hj : j = i
  · subst hj
    rcases hd with h0 | h0
    · omega
    · exact h0
  · exact h.1 j h1 h2 hj

theorem up_step {A I : List Int} {i : Nat} (h : UpInv A I i) (hi : 0 < i) (hl : i < I.length) (hb : bef A (at' I i) (at' I ((i - 1) / 2)) = true) : UpInv A (swp I i ((i - 1) / 2)) ((i - 1) / 2) := by
  have hp : (i - 1) / 2 < i := by omega
  have hpl : (i - 1) / 2 < I.length := by omega
  refine ⟨fun j h1 h2 h3 => ?_, fun j h1 h2 h3 h4 => ?_⟩
  · rw [swp_length] at h2
    rw [at'_swp hl hpl, at'_swp hl hpl]
    by_cases hji : j = i
    · subst hji
      rw [if_pos rfl, if_neg (by omega), if_pos rfl]
      exact nbef_of_bef hb
    · rw [if_neg hji, if_neg h3]
      by_cases hpi : (j - 1) / 2 = i
      · rw [if_pos hpi]; exact h.2 j h1 h2 hpi hi
      · rw [if_neg hpi]
        by_cases hpp : (j - 1) / 2 = (i - 1) / 2
        · rw [if_pos hpp]
          have := h.1 j h1 h2 hji
          rw [hpp] at this
          exact nbef_trans this (nbef_of_bef hb)
        · rw [if_neg hpp]; exact h.1 j h1 h2 hji
  · rw [swp_length] at h2
    rw [at'_swp hl hpl, at'_swp hl hpl]
    have e1 : ¬ ((i - 1) / 2 - 1) / 2 = i := by omega
    have e2 : ¬ ((i - 1) / 2 - 1) / 2 = (i - 1) / 2 := by omega
    rw [if_neg e1, if_neg e2]
    have hup := h.1 ((i - 1) / 2) h4 hpl (by omega)
    by_cases hji : j = i
    · subst hji
      rw [if_pos rfl]; exact hup
    · rw [if_neg hji, if_neg (by omega)]
      have := h.1 j h1 h2 hji
      rw [h3] at this
      exact nbef_trans this hup

theorem down_done {A I : List Int} {i : Nat} (h : DownInv A I i) (h1 : 2 * i + 1 < I.length → bef A (at' I (2 * i + 1)) (at' I i) = false) (h2 : 2 * i + 2 < I.length → bef A (at' I (2 * i + 2)) (at' I i) = false) : HeapOrd A I := fun j j1 j2 => by
  by_cases hj : (j - 1) / 2 = i
  · rw [hj]
    by_cases hodd : j = 2 * i + 1
    · subst hodd; exact h1 j2
    · have : j = 2 * i + 2 := by omega
      subst this; exact h2 j2
  · exact h.1 j j1 j2 hj

theorem down_step {A I : List Int} {i c : Nat} (h : DownInv A I i) (hc : c = 2 * i + 1 ∨ c = 2 * i + 2) (hl : c < I.length) (hb : bef A (at' I c) (at' I i) = true)
    (h1 : 2 * i + 1 < I.length → bef A (at' I (2 * i + 1)) (at' I c) = false) (h2 : 2 * i + 2 < I.length → bef A (at' I (2 * i + 2)) (at' I c) = false) : DownInv A (swp I i c) c := by
  have hil : i < I.length := by omega
  have hpc : (c - 1) / 2 = i := by omega
  refine ⟨fun j j1 j2 j3 => ?_, fun j j1 j2 j3 j4 => ?_⟩
  · rw [swp_length] at j2
    rw [at'_swp hil hl, at'_swp hil hl]
    by_cases hji : j = i
    · subst hji
      rw [if_pos rfl, if_neg (by omega), if_neg (by omega)]
      exact h.2 c (by omega) hl hpc j1
    · rw [if_neg hji]
      by_cases hjc : j = c
      · subst hjc
        rw [if_pos rfl, if_pos hpc]
        exact nbef_of_bef hb
      · rw [if_neg hjc]
        by_cases hpi : (j - 1) / 2 = i
        · rw [if_pos hpi]
          have hjj : j = 2 * i + 1 ∨ j = 2 * i + 2 := by omega
          rcases hjj with rfl | rfl
          · exact h1 j2
          · exact h2 j2
        · rw [if_neg hpi, if_neg j3]; exact h.1 j j1 j2 hpi
  · rw [swp_length] at j2
    rw [at'_swp hil hl, at'_swp hil hl, hpc, if_pos rfl, if_neg (by omega), if_neg (by omega)]
    have := h.1 j j1 j2 (by omega)
    rw [j3] at this
    exact this

theorem heap_top {A I : List Int} (h : HeapOrd A I) : ∀ k, k < I.length → bef A (at' I k) (at' I 0) = false := by
  intro k
  induction k using Nat.strongRecOn with
  | ind k ih =>
    intro hk
    by_cases h0 : k = 0
    · subst h0; exact nbef_self _ _
    · exact nbef_trans (h k (by omega) hk) (ih ((k - 1) / 2) (by omega) (by omega))

/-- The places fit the items: 1 to n are the variables. -/
def Fits (I P : List Int) : Prop := (∀ k, k < I.length → at' P (at' I k).toNat = (k : Int)) ∧ (∀ k, k < I.length → 1 ≤ at' I k ∧ at' I k < P.length) ∧ (∀ v, v < P.length → (∀ k, k < I.length → (at' I k).toNat ≠ v) → at' P v = -1)

theorem fits_inj {I P : List Int} (h : Fits I P) {i j : Nat} (hi : i < I.length) (hj : j < I.length) (e : at' I i = at' I j) : i = j := by
  have h1 := h.1 i hi
  have h2 := h.1 j hj
  rw [e, h2] at h1
  omega

/-- Two items exchanged, with their places. -/
theorem fits_swp {I P : List Int} {i j : Nat} (h : Fits I P) (hi : i < I.length) (hj : j < I.length) : Fits (swp I i j) ((P.set (at' I j).toNat i).set (at' I i).toNat j) := by
  have bi := h.2.1 i hi
  have bj := h.2.1 j hj
  have li : (at' I i).toNat < P.length := by omega
  have lj : (at' I j).toNat < P.length := by omega
  have key : ∀ v, at' ((P.set (at' I j).toNat i).set (at' I i).toNat j) v = if (at' I i).toNat = v then (j : Int) else if (at' I j).toNat = v then (i : Int) else at' P v := fun v => by
    rw [at'_set (by simpa using li), at'_set lj]
  refine ⟨fun k hk => ?_, fun k hk => ?_, fun v hv hn => ?_⟩
  · rw [swp_length] at hk
    have bk := h.2.1 k hk
    rw [at'_swp hi hj, key]
    by_cases h1 : k = i
    · subst h1
      rw [if_pos rfl]
      by_cases h2 : at' I k = at' I j
      · rw [if_pos (by rw [h2])]
        exact congrArg Int.ofNat (fits_inj h hk hj h2).symm
      · rw [if_neg (by omega), if_pos rfl]
    · rw [if_neg h1]
      by_cases h2 : k = j
      · subst h2
        rw [if_pos rfl, if_pos rfl]
      · rw [if_neg h2]
        have e1 : ¬ (at' I i).toNat = (at' I k).toNat := fun e => h1 (fits_inj h hk hi (by omega))
        have e2 : ¬ (at' I j).toNat = (at' I k).toNat := fun e => h2 (fits_inj h hk hj (by omega))
        rw [if_neg e1, if_neg e2]; exact h.1 k hk
  · rw [swp_length] at hk
    simp only [List.length_set]
    rw [at'_swp hi hj]
    split
    · exact bj
    · split
      · exact bi
      · exact h.2.1 k hk
  · simp only [List.length_set] at hv
    rw [key]
    have e1 : ¬ (at' I i).toNat = v := fun e => by
      have := hn j (by rw [swp_length]; exact hj)
      rw [at'_swp hi hj] at this
      by_cases hji : j = i
      · subst hji; rw [if_pos rfl] at this; exact this e
      · rw [if_neg hji, if_pos rfl] at this; exact this e
    have e2 : ¬ (at' I j).toNat = v := fun e => by
      have := hn i (by rw [swp_length]; exact hi)
      rw [at'_swp hi hj, if_pos rfl] at this; exact this e
    rw [if_neg e1, if_neg e2]
    refine h.2.2 v hv fun k hk => ?_
    have := hn k (by rw [swp_length]; exact hk)
    rw [at'_swp hi hj] at this
    by_cases h1 : k = i
    · subst h1; exact e1
    · rw [if_neg h1] at this
      by_cases h2 : k = j
      · subst h2; exact e2
      · rw [if_neg h2] at this; exact this

/-- v is in the heap. -/
def inI (I : List Int) (v : Int) : Prop := ∃ k, k < I.length ∧ at' I k = v

theorem inI_swp {I : List Int} {i j : Nat} (hi : i < I.length) (hj : j < I.length) (v : Int) : inI (swp I i j) v ↔ inI I v := by
  have key := fun k => @at'_swp I i j k hi hj
  constructor
  · rintro ⟨k, hk, rfl⟩
    rw [swp_length] at hk
    rw [key]
    split
    · exact ⟨j, hj, rfl⟩
    · split
      · exact ⟨i, hi, rfl⟩
      · exact ⟨k, hk, rfl⟩
  · rintro ⟨k, hk, rfl⟩
    by_cases h1 : k = i
    · subst h1
      refine ⟨j, by rw [swp_length]; exact hj, ?_⟩
      rw [key]
      by_cases h2 : j = k
      · subst h2; rw [if_pos rfl]
      · rw [if_neg h2, if_pos rfl]
    · by_cases h2 : k = j
      · subst h2
        exact ⟨i, by rw [swp_length]; exact hi, by rw [key, if_pos rfl]⟩
      · exact ⟨k, by rw [swp_length]; exact hk, by rw [key, if_neg h1, if_neg h2]⟩

theorem fits_place {I P : List Int} (h : Fits I P) {v : Nat} (hv : v < P.length) : (0 ≤ at' P v ↔ inI I v) ∧ (inI I v → at' P v < I.length ∧ at' I (at' P v).toNat = v) := by
  have hin : inI I v → 0 ≤ at' P v ∧ at' P v < I.length ∧ at' I (at' P v).toNat = v := by
    rintro ⟨k, hk, he⟩
    have := h.1 k hk
    rw [he, Int.toNat_natCast] at this
    rw [this]
    exact ⟨by omega, by omega, by rw [Int.toNat_natCast]; exact he⟩
  refine ⟨⟨fun h0 => ?_, fun hi => (hin hi).1⟩, fun hi => (hin hi).2⟩
  refine Classical.byContradiction fun hn => ?_
  have := h.2.2 v hv fun k hk e => hn ⟨k, hk, by have := (h.2.1 k hk).1; omega⟩
  omega

end Go.Proofs.Ytfofabbnbmieoaa

/- What New, Push, Pop and Bump make of a heap's lists: plain. -/
namespace Go.Proofs.Ytfofabbnbmieoaa

theorem at'_append_left {I J : List Int} {k : Nat} (h : k < I.length) : at' (I ++ J) k = at' I k := by
  unfold at'; rw [List.getD_eq_getElem?_getD, List.getD_eq_getElem?_getD, List.getElem?_append_left h]
theorem at'_snoc (I : List Int) (x : Int) : at' (I ++ [x]) I.length = x := by simp [at']
theorem at'_take {I : List Int} {m k : Nat} (h : k < m) : at' (I.take m) k = at' I k := by
  unfold at'; rw [List.getD_eq_getElem?_getD, List.getD_eq_getElem?_getD, List.getElem?_take, if_pos h]

theorem push_fits {I P : List Int} {v : Int} (h : Fits I P) (h1 : 1 ≤ v) (h2 : v < P.length) (hn : ¬ inI I v) : Fits (I ++ [v]) (P.set v.toNat I.length) := by
  have lv : v.toNat < P.length := by omega
  refine ⟨fun k hk => ?_, fun k hk => ?_, fun u hu hk => ?_⟩
  · simp only [List.length_append, List.length_singleton] at hk
    rcases Nat.lt_or_ge k I.length with hlt | hge
    · rw [at'_append_left hlt, at'_set lv, if_neg]
      · exact h.1 k hlt
      · intro e
        have := h.2.1 k hlt
        exact hn ⟨k, hlt, by omega⟩
    · have : k = I.length := by omega
      subst this
      rw [at'_snoc, at'_set lv, if_pos rfl]
  · simp only [List.length_append, List.length_singleton] at hk
    simp only [List.length_set]
    rcases Nat.lt_or_ge k I.length with hlt | hge
    · rw [at'_append_left hlt]; exact h.2.1 k hlt
    · have : k = I.length := by omega
      subst this
      rw [at'_snoc]; exact ⟨h1, h2⟩
  · simp only [List.length_set] at hu
    have hv := hk I.length (by simp)
    rw [at'_snoc] at hv
    rw [at'_set lv, if_neg hv]
    refine h.2.2 u hu fun k hkl => ?_
    have := hk k (by simp; omega)
    rwa [at'_append_left hkl] at this

theorem push_up {A I : List Int} {v : Int} (h : HeapOrd A I) : UpInv A (I ++ [v]) I.length := by
  refine ⟨fun j h1 h2 h3 => ?_, fun j h1 h2 h3 _ => ?_⟩
  · simp only [List.length_append, List.length_singleton] at h2
    rw [at'_append_left (by omega), at'_append_left (by omega)]
    exact h j h1 (by omega)
  · simp only [List.length_append, List.length_singleton] at h2
    omega

theorem inI_snoc (I : List Int) (v u : Int) : inI (I ++ [v]) u ↔ inI I u ∨ u = v := by
  constructor
  · rintro ⟨k, hk, he⟩
    simp only [List.length_append, List.length_singleton] at hk
    rcases Nat.lt_or_ge k I.length with hlt | hge
    · rw [at'_append_left hlt] at he; exact Or.inl ⟨k, hlt, he⟩
    · have : k = I.length := by omega
      subst this
      rw [at'_snoc] at he; exact Or.inr he.symm
  · rintro (⟨k, hk, he⟩ | rfl)
    · exact ⟨k, by simp; omega, by rw [at'_append_left hk]; exact he⟩
    · exact ⟨I.length, by simp, at'_snoc I u⟩

/-- The items behind a Pop, before the sift. -/
def popI (I : List Int) : List Int := (swp I 0 (I.length - 1)).take (I.length - 1)

theorem popI_length (I : List Int) : (popI I).length = I.length - 1 := by simp [popI, swp_length]

theorem at'_popI {I : List Int} {k : Nat} (h : k < I.length - 1) : at' (popI I) k = if k = 0 then at' I (I.length - 1) else at' I k := by
  unfold popI
  rw [at'_take h, at'_swp (by omega) (by omega)]
  by_cases h0 : k = 0
  · rw [if_pos h0, if_pos h0]
  · rw [if_neg h0, if_neg h0, if_neg (by omega)]

theorem pop_fits {I P : List Int} (h : Fits I P) (hl : 0 < I.length) : Fits (popI I) (((P.set (at' I (I.length - 1)).toNat (0 : Nat)).set (at' I 0).toNat ((I.length - 1 : Nat) : Int)).set (at' I 0).toNat (-1)) := by
  have hs := fits_swp h hl (show I.length - 1 < I.length by omega)
  have b0 := h.2.1 0 hl
  have l0 : (at' I 0).toNat < ((P.set (at' I (I.length - 1)).toNat (0 : Nat)).set (at' I 0).toNat ((I.length - 1 : Nat) : Int)).length := by simp; omega
  have hlast : at' (swp I 0 (I.length - 1)) (I.length - 1) = at' I 0 := by
    rw [at'_swp hl (by omega)]
    by_cases h0 : I.length - 1 = 0
    · rw [if_pos h0, h0]
    · rw [if_neg h0, if_pos rfl]
  have hpl := popI_length I
  have hat : ∀ k, k < (popI I).length → at' (popI I) k = at' (swp I 0 (I.length - 1)) k := fun k hk => by
    unfold popI; rw [at'_take (by omega)]
  refine ⟨fun k hk => ?_, fun k hk => ?_, fun v hv hn => ?_⟩
  · rw [hat k hk, at'_set l0, if_neg]
    · exact hs.1 k (by rw [swp_length]; omega)
    · intro e
      have bk := hs.2.1 k (by rw [swp_length]; omega)
      have := fits_inj hs (i := k) (j := I.length - 1) (by rw [swp_length]; omega) (by rw [swp_length]; omega) (by rw [hlast]; omega)
      omega
  · rw [hat k hk]
    simp only [List.length_set]
    have := hs.2.1 k (by rw [swp_length]; omega)
    simpa using this
  · rw [at'_set l0]
    split
    · rfl
    · rename_i hne
      refine hs.2.2 v (by simpa using hv) fun k hk => ?_
      rw [swp_length] at hk
      by_cases hkl : k = I.length - 1
      · subst hkl; rw [hlast]; exact hne
      · have := hn k (by omega)
        rwa [hat k (by omega)] at this

theorem pop_down {A I : List Int} (h : HeapOrd A I) : DownInv A (popI I) 0 := by
  have hpl := popI_length I
  refine ⟨fun j h1 h2 h3 => ?_, fun j h1 h2 h3 h4 => by omega⟩
  rw [at'_popI (by omega), at'_popI (by omega), if_neg (by omega), if_neg h3]
  exact h j h1 (by omega)

theorem inI_pop {I P : List Int} (h : Fits I P) (hl : 0 < I.length) (u : Int) : inI (popI I) u ↔ inI I u ∧ u ≠ at' I 0 := by
  have hpl := popI_length I
  constructor
  · rintro ⟨k, hk, he⟩
    rw [at'_popI (by omega)] at he
    by_cases h0 : k = 0
    · rw [if_pos h0] at he
      refine ⟨⟨I.length - 1, by omega, he⟩, fun e => ?_⟩
      have := fits_inj h (i := I.length - 1) (j := 0) (by omega) hl (by rw [he, e])
      omega
    · rw [if_neg h0] at he
      refine ⟨⟨k, by omega, he⟩, fun e => ?_⟩
      have := fits_inj h (i := k) (j := 0) (by omega) hl (by rw [he, e])
      omega
  · rintro ⟨⟨k, hk, he⟩, hne⟩
    have h0 : ¬ k = 0 := fun e => hne (by rw [← he, e])
    by_cases hkl : k = I.length - 1
    · exact ⟨0, by omega, by rw [at'_popI (by omega), if_pos rfl, ← hkl]; exact he⟩
    · exact ⟨k, by omega, by rw [at'_popI (by omega), if_neg h0]; exact he⟩

theorem actv_set {A : List Int} {v u : Int} {x : Int} (hv : v.toNat < A.length) : actv (A.set v.toNat x) u = if v.toNat = u.toNat then x else actv A u := by
  have := @at'_set A v.toNat u.toNat x hv
  exact this

/-- A Bump of a variable of the heap. -/
theorem bump_up {A I P : List Int} {v x : Int} {i : Nat} (hf : Fits I P) (h : HeapOrd A I) (hv : v.toNat < A.length) (hx : actv A v ≤ x) (hi : i < I.length) (he : at' I i = v) : UpInv (A.set v.toNat x) I i := by
  have hpos : ∀ k, k < I.length → 1 ≤ at' I k := fun k hk => (hf.2.1 k hk).1
  have old : ∀ a b, (a ≠ v ∧ 1 ≤ a ∧ 1 ≤ v) → bef A a b = false → bef (A.set v.toNat x) a b = false := fun a b ⟨ha, h1, h2⟩ hb => by
    rw [nbef_iff] at hb ⊢
    rw [actv_set hv, actv_set hv, if_neg (show ¬ v.toNat = a.toNat by omega)]
    split
    · rename_i hvb
      have : actv A b = actv A v := by unfold actv; rw [← hvb]
      have hbv : b = v ∨ b ≤ 0 := by omega
      omega
    · exact hb
  have hv1 : 1 ≤ v := he ▸ hpos i hi
  refine ⟨fun j h1 h2 h3 => ?_, fun j h1 h2 h3 h4 => ?_⟩
  · exact old _ _ ⟨fun e => h3 (fits_inj hf h2 hi (by rw [e, he])), hpos j h2, hv1⟩ (h j h1 h2)
  · have hb := h j h1 h2
    rw [h3] at hb
    have hb2 := h i h4 hi
    exact old _ _ ⟨fun e => by have := fits_inj hf h2 hi (by rw [e, he]); omega, hpos j h2, hv1⟩ (nbef_trans hb hb2)

/-- A Bump of a variable that is not in the heap. -/
theorem bump_out {A I P : List Int} {v x : Int} (hf : Fits I P) (h : HeapOrd A I) (hv : v.toNat < A.length) (h1 : 1 ≤ v) (hn : ¬ inI I v) : HeapOrd (A.set v.toNat x) I := fun j j1 j2 => by
  have hb := h j j1 j2
  have ne : ∀ k, k < I.length → ¬ v.toNat = (at' I k).toNat := fun k hk e => hn ⟨k, hk, by have := (hf.2.1 k hk).1; omega⟩
  rw [nbef_iff] at hb ⊢
  rw [actv_set hv, actv_set hv, if_neg (ne j j2), if_neg (ne ((j - 1) / 2) (by omega))]
  exact hb

/-- The items of a new heap. -/
def newI (n : Nat) : List Int := (List.range n).map fun (k : Nat) => (k : Int) + 1
/-- Its places. -/
def newP (n : Nat) : List Int := -1 :: (List.range n).map fun (k : Nat) => (k : Int)

theorem newI_length (n : Nat) : (newI n).length = n := by simp [newI]
theorem newP_length (n : Nat) : (newP n).length = n + 1 := by simp [newP]
theorem at'_newI {n k : Nat} (h : k < n) : at' (newI n) k = (k : Int) + 1 := by simp [newI, at', h]
theorem at'_newP {n k : Nat} (h : k < n) : at' (newP n) (k + 1) = (k : Int) := by simp [newP, at', h]

theorem new_fits (n : Nat) : Fits (newI n) (newP n) := by
  refine ⟨fun k hk => ?_, fun k hk => ?_, fun v hv hn => ?_⟩
  · rw [newI_length] at hk
    rw [at'_newI hk]
    have : ((k : Int) + 1).toNat = k + 1 := by omega
    rw [this, at'_newP hk]
  · rw [newI_length] at hk
    rw [at'_newI hk, newP_length]; omega
  · rw [newP_length] at hv
    cases v with
    | zero => rfl
    | succ v =>
      have := hn v (by rw [newI_length]; omega)
      rw [at'_newI (by omega)] at this
      omega

theorem actv_replicate (n : Nat) (v : Int) : actv (List.replicate n 0) v = 0 := by
  unfold actv; rw [List.getD_eq_getElem?_getD, List.getElem?_replicate]; split <;> rfl

theorem new_ord (n m : Nat) : HeapOrd (List.replicate m 0) (newI n) := fun j h1 h2 => by
  rw [newI_length] at h2
  rw [nbef_iff, actv_replicate, actv_replicate, at'_newI h2, at'_newI (by omega)]
  omega

theorem inI_new (n : Nat) (v : Int) : inI (newI n) v ↔ 1 ≤ v ∧ v ≤ n := by
  constructor
  · rintro ⟨k, hk, he⟩
    rw [newI_length] at hk
    rw [at'_newI hk] at he; omega
  · rintro ⟨h1, h2⟩
    exact ⟨(v - 1).toNat, by rw [newI_length]; omega, by rw [at'_newI (by omega)]; omega⟩

/-- How many are in the heap. -/
theorem in_count {I P : List Int} (h : Fits I P) {In : List Bool} (hl : P.length = In.length + 1) (hr : ∀ v : Int, 1 ≤ v → v ≤ In.length → (inI I v ↔ In[(v - 1).toNat]? = some true)) : I.length = In.countP id := by
  have hnd : I.Nodup := by
    rw [List.nodup_iff_pairwise_ne, List.pairwise_iff_getElem]
    intro i j hi hj hij e
    have : at' I i = at' I j := by simp [at', hi, hj, e]
    have := fits_inj h hi hj this
    omega
  have hp : I.Perm ((List.range In.length).filter (fun (k : Nat) => In[k]? == some true) |>.map fun (k : Nat) => (k : Int) + 1) := by
    refine (List.perm_ext_iff_of_nodup hnd ?_).2 fun v => ?_
    · rw [List.nodup_iff_pairwise_ne, List.pairwise_map]
      refine List.Pairwise.imp ?_ (List.Pairwise.filter _ (List.nodup_iff_pairwise_ne.1 List.nodup_range))
      intro a b hab e; omega
    · simp only [List.mem_map, List.mem_filter, List.mem_range, beq_iff_eq]
      constructor
      · intro hv
        obtain ⟨k, hk, rfl⟩ := List.getElem_of_mem hv
        have ha : at' I k = I[k] := by simp [at', hk]
        have hb := h.2.1 k hk
        rw [ha] at hb
        have := (hr I[k] hb.1 (by omega)).1 ⟨k, hk, ha⟩
        exact ⟨(I[k] - 1).toNat, ⟨by omega, this⟩, by omega⟩
      · rintro ⟨k, ⟨hk, hin⟩, rfl⟩
        have := (hr ((k : Int) + 1) (by omega) (by omega)).2 (by rw [show ((k : Int) + 1 - 1).toNat = k by omega]; exact hin)
        obtain ⟨j, hj, he⟩ := this
        rw [← he]
        have ha : at' I j = I[j] := by simp [at', hj]
        rw [ha]; simp
  rw [hp.length_eq, List.length_map]
  clear hp hr hl hnd
  induction In with
  | nil => rfl
  | cons b In ih =>
    rw [List.length_cons, List.range_succ_eq_map, List.filter_cons, List.filter_map, List.countP_cons]
    have e : (List.filter ((fun k => (b :: In)[k]? == some true) ∘ Nat.succ) (List.range In.length)) = List.filter (fun k => In[k]? == some true) (List.range In.length) := rfl
    rw [e]
    cases b <;> simp_all

theorem bef_trans {A : List Int} {a b c : Int} (h : bef A a b = true) (h' : bef A b c = true) : bef A a c = true := by
  rw [bef_iff] at *; omega

/-- The best of a place and its children so far: j children were looked at. -/
def BestSo (A I : List Int) (i j bb : Nat) : Prop :=
  (bb = i ∨ ((bb = 2 * i + 1 ∨ bb = 2 * i + 2) ∧ bb < I.length ∧ bef A (at' I bb) (at' I i) = true)) ∧
  (1 ≤ j → 2 * i + 1 < I.length → bef A (at' I (2 * i + 1)) (at' I bb) = false) ∧ (2 ≤ j → 2 * i + 2 < I.length → bef A (at' I (2 * i + 2)) (at' I bb) = false)

theorem best_start (A I : List Int) (i : Nat) : BestSo A I i 0 i := ⟨Or.inl rfl, fun h => by omega, fun h => by omega⟩

theorem best_take {A I : List Int} {i j bb c : Nat} (h : BestSo A I i j bb) (hj : j < 2) (hc : c = 2 * i + 1 + j) (hl : c < I.length) (hb : bef A (at' I c) (at' I bb) = true) : BestSo A I i (j + 1) c := by
  refine ⟨Or.inr ⟨by omega, hl, ?_⟩, fun _ hl1 => ?_, fun h2 hl2 => ?_⟩
  · rcases h.1 with rfl | ⟨_, _, h3⟩
    · exact hb
    · exact bef_trans hb h3
  · by_cases h0 : j = 0
    · have : c = 2 * i + 1 := by omega
      subst this; exact nbef_self _ _
    · exact nbef_trans (h.2.1 (by omega) hl1) (nbef_of_bef hb)
  · have : c = 2 * i + 2 := by omega
    subst this; exact nbef_self _ _

theorem best_leave {A I : List Int} {i j bb c : Nat} (h : BestSo A I i j bb) (hj : j < 2) (hc : c = 2 * i + 1 + j) (hb : c < I.length → bef A (at' I c) (at' I bb) = false) : BestSo A I i (j + 1) bb := by
  refine ⟨h.1, fun _ hl1 => ?_, fun h2 hl2 => ?_⟩
  · by_cases h0 : j = 0
    · have : c = 2 * i + 1 := by omega
      subst this; exact hb hl1
    · exact h.2.1 (by omega) hl1
  · have : c = 2 * i + 2 := by omega
    subst this; exact hb hl2

theorem best_done {A I : List Int} {i bb : Nat} (h : DownInv A I i) (hb : BestSo A I i 2 bb) : (bb = i → HeapOrd A I) ∧ (bb ≠ i → i < bb ∧ bb < I.length ∧ DownInv A (swp I i bb) bb) := by
  refine ⟨fun e => ?_, fun e => ?_⟩
  · subst e
    exact down_done h (hb.2.1 (by omega)) (hb.2.2 (by omega))
  · rcases hb.1 with h0 | ⟨h1, h2, h3⟩
    · exact absurd h0 e
    · exact ⟨by omega, h2, down_step h h1 h2 h3 (hb.2.1 (by omega)) (hb.2.2 (by omega))⟩

end Go.Proofs.Ytfofabbnbmieoaa

/- How a heap lies in memory; the contracts of before and is. -/
namespace Go.Proofs.Ytfofabbnbmieoaa.Ord
open Go.RowKit

theorem rw_val {w : World} {g c n : Nat} {xs : List Int} {k : Nat} (h : Rw w (.slice (some ⟨g, 0, none⟩) n c) xs) (hn : n = xs.length) (hk : k < xs.length) : w.cell? ⟨g, k, none⟩ = some (.int .i64 (at' xs k)) := by
  rw [rw_get h hn hk]; simp [at', hk]

/-- The order that a queue is given. -/
def fnv : Value := .func (.func 67) #[] #[]

/-- A heap: activities, items, places. -/
structure HRep (w : World) (b : Nat) (va vi vp : Value) (A I P : List Int) : Prop where
  blk : w.heap[b]? = some (.cells #[va, vi, vp, .pointer (some ⟨b, 0, none⟩), fnv] 111)
  ra : Rw w va A
  ri : Rw w vi I
  rp : Rw w vp P
  ai : va.ownBlock ≠ vi.ownBlock
  ap : va.ownBlock ≠ vp.ownBlock
  ip : vi.ownBlock ≠ vp.ownBlock

/-- The heap's own blocks. -/
def foot (b : Nat) (va vi vp : Value) (k : Nat) : Prop := k = b ∨ va.ownBlock = some k ∨ vi.ownBlock = some k ∨ vp.ownBlock = some k

theorem foot_lt {w : World} {b : Nat} {va vi vp : Value} {A I P : List Int} (h : HRep w b va vi vp A I P) {k : Nat} (hk : foot b va vi vp k) : k < w.heap.size := by
  rcases hk with rfl | hk | hk | hk
  · exact (Array.getElem?_eq_some_iff.1 h.blk).1
  · exact rw_lt h.ra k hk
  · exact rw_lt h.ri k hk
  · exact rw_lt h.rp k hk

/-- What touches none of its blocks leaves it as it is. -/
theorem hrep_frame {w w' : World} {b : Nat} {va vi vp : Value} {A I P : List Int} (h : HRep w b va vi vp A I P) (hk : ∀ k, foot b va vi vp k → w'.heap[k]? = w.heap[k]?) : HRep w' b va vi vp A I P :=
  ⟨(hk b (Or.inl rfl)).trans h.blk, rw_frame h.ra fun k e => hk k (Or.inr (Or.inl e)), rw_frame h.ri fun k e => hk k (Or.inr (Or.inr (Or.inl e))), rw_frame h.rp fun k e => hk k (Or.inr (Or.inr (Or.inr e))), h.ai, h.ap, h.ip⟩

theorem hrep_drewN {w : World} {b : Nat} {va vi vp : Value} {A I P : List Int} (h : HRep w b va vi vp A I P) (n : Nat) : HRep (w.drewN n) b va vi vp A I P := hrep_frame h fun _ _ => rfl

theorem hrep_drew {w : World} {b : Nat} {va vi vp : Value} {A I P : List Int} (h : HRep w b va vi vp A I P) : HRep w.drew b va vi vp A I P := hrep_frame h fun _ _ => rfl

/-- Its five cells. -/
theorem hrep_cells {w : World} {b : Nat} {va vi vp : Value} {A I P : List Int} (h : HRep w b va vi vp A I P) :
    w.cell? ⟨b, 0, none⟩ = some va ∧ w.cell? ⟨b, 1, none⟩ = some vi ∧ w.cell? ⟨b, 2, none⟩ = some vp ∧ w.cell? ⟨b, 3, none⟩ = some (.pointer (some ⟨b, 0, none⟩)) ∧ w.cell? ⟨b, 4, none⟩ = some (.func (.func 67) #[] #[]) :=
  ⟨fit_cell (vs := [va, vi, vp, .pointer (some ⟨b, 0, none⟩), fnv]) h.blk 0, fit_cell (vs := [va, vi, vp, .pointer (some ⟨b, 0, none⟩), fnv]) h.blk 1, fit_cell (vs := [va, vi, vp, .pointer (some ⟨b, 0, none⟩), fnv]) h.blk 2, fit_cell (vs := [va, vi, vp, .pointer (some ⟨b, 0, none⟩), fnv]) h.blk 3, fit_cell (vs := [va, vi, vp, .pointer (some ⟨b, 0, none⟩), fnv]) h.blk 4⟩

theorem hrep_free {w : World} {b : Nat} {va vi vp : Value} {A I P : List Int} (h : HRep w b va vi vp A I P) (k : Nat) : w.frozen? ⟨b, k, none⟩ = false := frozen_of_row _ _ _ _ _ h.blk

set_option maxHeartbeats 1000000 in
theorem heap_before (b : Nat) (va vi vp : Value) (A I P : List Int) (x y : Int) (r : Bool) (w : World) (hr : bef A x y = r) (h : HRep w b va vi vp A I P) (hx : 0 ≤ x ∧ x < A.length) (hy : 0 ≤ y ∧ y < A.length) (hl : A.length ≤ 4294967296) :
    Calls Try.prog 67 #[.pointer (some ⟨b, 0, none⟩), .int .i64 x, .int .i64 y] w fun e w' => e = .returned (.bool r) ∧ ∃ n, w' = w.drewN n := by
  obtain ⟨kx, rfl⟩ := Int.eq_ofNat_of_zero_le hx.1
  obtain ⟨ky, rfl⟩ := Int.eq_ofNat_of_zero_le hy.1
  obtain ⟨ga, ca, rfl⟩ := rw_form h.ra (by omega)
  have hc0 := (hrep_cells h).1
  have lx : kx < A.length := by omega
  have ly : ky < A.length := by omega
  have hcx := rw_get h.ra rfl lx
  have hcy := rw_get h.ra rfl ly
  have ex : actv A (kx : Int) = A[kx] := by simp [actv, lx]
  have ey : actv A (ky : Int) = A[ky] := by simp [actv, ly]
  have hbx : (kx : Int) < A.length := by omega
  have hby : (ky : Int) < A.length := by omega
  have HR : Hid (bef A kx ky = r) := hr
  obtain ⟨ax, hax⟩ : ∃ ax, A[kx] = ax := ⟨_, rfl⟩
  obtain ⟨ay, hay⟩ : ∃ ay, A[ky] = ay := ⟨_, rfl⟩
  rw [hax] at hcx ex
  rw [hay] at hcy ey
  have EX := hid ex
  have EY := hid ey
  clear h hr ex ey hax hay hx hy
  cases hne : (ax != ay) with
  | true =>
    go_enter Try.func67, Try.ntmps67
    go_wp2_with fail
    go_quiet (fail)
    go_wp2_with fail
    go_quiet (fail)
    go_wp2_with fail
    go_ret
    refine ⟨?_, _, by first | rfl | exact World.drewN_drewN ..⟩
    rw [← HR.out]
    have : ax ≠ ay := by simpa using hne
    simp [bef, EX.out, EY.out, this]
  | false =>
    go_enter Try.func67, Try.ntmps67
    go_wp2_with fail
    go_quiet (fail)
    go_wp2_with fail
    go_ret
    refine ⟨?_, _, by first | rfl | exact World.drewN_drewN ..⟩
    rw [← HR.out]
    have : ax = ay := by simpa using hne
    simp [bef, EX.out, EY.out, this]

set_option maxHeartbeats 1000000 in
theorem heap_is (b : Nat) (va vi vp : Value) (A I P : List Int) (v : Int) (r : Bool) (w : World) (hr : (decide (1 ≤ v) && decide (v < A.length)) = r) (h : HRep w b va vi vp A I P) :
    Calls Try.prog 85 #[.pointer (some ⟨b, 0, none⟩), .int .i64 v] w fun e w' => e = .returned (.bool r) ∧ w = w' := by
  obtain ⟨aa, ca, rfl, -⟩ := rw_shape h.ra
  have hc0 := (hrep_cells h).1
  have HR := hid hr
  clear h hr
  cases h1 : decide (1 ≤ v) with
  | false =>
    have h1' : ¬ 1 ≤ v := by simpa using h1
    go_enter Try.func85, Try.ntmps85
    go_wp2_with fail
    go_ret
    exact ⟨by rw [← HR.out, h1]; rfl, rfl⟩
  | true =>
    have h1' : 1 ≤ v := by simpa using h1
    cases h2 : decide (v < A.length)
    all_goals
      go_enter Try.func85, Try.ntmps85
      go_wp2_with fail
      go_ret
      exact ⟨by rw [← HR.out, h1, h2]; rfl, rfl⟩

end Go.Proofs.Ytfofabbnbmieoaa.Ord

/- The contracts of the queue's swap, up and down. -/
namespace Go.Proofs.Ytfofabbnbmieoaa.Ord
open Go.RowKit

theorem hrep_setI {w : World} {b g c n : Nat} {va vp : Value} {A I P : List Int} (h : HRep w b va (.slice (some ⟨g, 0, none⟩) n c) vp A I P) (hn : n = I.length) (k : Nat) (x : Int) :
    HRep (w.setCell ⟨g, k, none⟩ (.int .i64 x)) b va (.slice (some ⟨g, 0, none⟩) n c) vp A (I.set k x) P := by
  have hbg : b ≠ g := fun e => rw_apart h.ri h.blk (by decide) (by rw [e]; rfl)
  refine ⟨?_, ?_, rw_set h.ri hn k x, ?_, h.ai, h.ap, h.ip⟩
  · rw [heap_setCell_other w ⟨g, k, none⟩ b _ hbg]; exact h.blk
  · exact rw_frame h.ra fun j hj => heap_setCell_other w ⟨g, k, none⟩ j _ (fun e => h.ai (by rw [hj]; exact congrArg some e))
  · exact rw_frame h.rp fun j hj => heap_setCell_other w ⟨g, k, none⟩ j _ (fun e => h.ip (by rw [hj]; exact congrArg some e.symm))

theorem hrep_setP {w : World} {b g c n : Nat} {va vi : Value} {A I P : List Int} (h : HRep w b va vi (.slice (some ⟨g, 0, none⟩) n c) A I P) (hn : n = P.length) (k : Nat) (x : Int) :
    HRep (w.setCell ⟨g, k, none⟩ (.int .i64 x)) b va vi (.slice (some ⟨g, 0, none⟩) n c) A I (P.set k x) := by
  have hbg : b ≠ g := fun e => rw_apart h.rp h.blk (by decide) (by rw [e]; rfl)
  refine ⟨?_, ?_, ?_, rw_set h.rp hn k x, h.ai, h.ap, h.ip⟩
  · rw [heap_setCell_other w ⟨g, k, none⟩ b _ hbg]; exact h.blk
  · exact rw_frame h.ra fun j hj => heap_setCell_other w ⟨g, k, none⟩ j _ (fun e => h.ap (by rw [hj]; exact congrArg some e))
  · exact rw_frame h.ri fun j hj => heap_setCell_other w ⟨g, k, none⟩ j _ (fun e => h.ip (by rw [hj]; exact congrArg some e))

theorem hrep_setA {w : World} {b g c n : Nat} {vi vp : Value} {A I P : List Int} (h : HRep w b (.slice (some ⟨g, 0, none⟩) n c) vi vp A I P) (hn : n = A.length) (k : Nat) (x : Int) :
    HRep (w.setCell ⟨g, k, none⟩ (.int .i64 x)) b (.slice (some ⟨g, 0, none⟩) n c) vi vp (A.set k x) I P := by
  have hbg : b ≠ g := fun e => rw_apart h.ra h.blk (by decide) (by rw [e]; rfl)
  refine ⟨?_, rw_set h.ra hn k x, ?_, ?_, h.ai, h.ap, h.ip⟩
  · rw [heap_setCell_other w ⟨g, k, none⟩ b _ hbg]; exact h.blk
  · exact rw_frame h.ri fun j hj => heap_setCell_other w ⟨g, k, none⟩ j _ (fun e => h.ai (by rw [hj]; exact congrArg some e.symm))
  · exact rw_frame h.rp fun j hj => heap_setCell_other w ⟨g, k, none⟩ j _ (fun e => h.ap (by rw [hj]; exact congrArg some e.symm))

/-- The places behind a swap. -/
def swpP (I P : List Int) (i j : Nat) : List Int := (P.set (at' I j).toNat i).set (at' I i).toNat j

set_option maxRecDepth 100000 in
set_option maxHeartbeats 4000000 in
theorem q_swap (b : Nat) (va vi vp : Value) (A I P : List Int) (i j : Nat) (w : World) (h : HRep w b va vi vp A I P) (hf : Fits I P) (hi : i < I.length) (hj : j < I.length) (hl : P.length ≤ 4294967296) :
    Calls Try.prog 87 #[.pointer (some ⟨b, 1, none⟩), .int .i64 i, .int .i64 j] w fun e w' => e = .returned (.tuple #[]) ∧ HRep w' b va vi vp A (swp I i j) (swpP I P i j) ∧ Touch (foot b va vi vp) w w' := by
  obtain ⟨gi, ci, rfl⟩ := rw_form h.ri (by omega)
  have bi := hf.2.1 i hi
  have bj := hf.2.1 j hj
  obtain ⟨gp, cp, rfl⟩ := rw_form h.rp (by omega)
  obtain ⟨-, hc1, hc2, -, -⟩ := hrep_cells h
  have hci := rw_get h.ri rfl hi
  have hcj := rw_get h.ri rfl hj
  have hfi := rw_free h.ri rfl i
  have hfj := rw_free h.ri rfl j
  obtain ⟨x, hx⟩ : ∃ x, at' I i = x := ⟨_, rfl⟩
  obtain ⟨y, hy⟩ : ∃ y, at' I j = y := ⟨_, rfl⟩
  have hxi : I[i] = x := by rw [← hx]; simp [at', hi]
  have hyj : I[j] = y := by rw [← hy]; simp [at', hj]
  rw [hxi] at hci
  rw [hyj] at hcj
  have HX := hid hx
  have HY := hid hy
  have H := hid h
  have HF := hid hf
  have e1 : (i : Int) < I.length := by omega
  have e2 : (j : Int) < I.length := by omega
  have bx1 : 1 ≤ x := by rw [← hx]; exact bi.1
  have bx2 : x < P.length := by rw [← hx]; exact bi.2
  have by1 : 1 ≤ y := by rw [← hy]; exact bj.1
  have by2 : y < P.length := by rw [← hy]; exact bj.2
  clear hx hy hxi hyj h hf bi bj
  by_cases hij : i = j
  · subst hij
    have hyx : y = x := by rw [← HX.out, ← HY.out]
    subst hyx
    go_enter Try.func87, Try.ntmps87
    go_wp2_with fail
    go_cut [] (fun wx => Hid (HRep wx b va (.slice (some ⟨gi, 0, none⟩) I.length ci) (.slice (some ⟨gp, 0, none⟩) P.length cp) A (swp I i i) P) ∧ Hid (Touch (foot b va (.slice (some ⟨gi, 0, none⟩) I.length ci) (.slice (some ⟨gp, 0, none⟩) P.length cp)) w wx))
    case first =>
      go_region
      all_goals
        go_wp2_with fail
        go_meet
        case rel =>
          refine ⟨?_, (((Touch.refl _ _).setCell (Or.inr (Or.inr (Or.inl rfl))) _).setCell (Or.inr (Or.inr (Or.inl rfl))) _).drew⟩
          have h1 := hrep_drew (hrep_setI (hrep_setI H.out rfl i y) (by simp) i y)
          unfold swp
          rw [HX.out]
          exact h1
    case rest =>
      obtain ⟨h2, ht2⟩ := hcut
      clear hc1 hc2 hci hcj hfi hfj
      obtain ⟨-, hc1, hc2, -, -⟩ := hrep_cells h2.out
      have hsl : I.length = (swp I i i).length := (swp_length I i i).symm
      have hci := rw_val h2.out.ri hsl (k := i) (by rw [swp_length]; exact hi)
      have hcj := rw_val h2.out.ri hsl (k := i) (by rw [swp_length]; exact hj)
      rw [at'_swp hi hj, if_pos rfl, HY.out] at hci
      rw [at'_swp hi hj, if_pos rfl, HY.out] at hcj
      have hpy := rw_val h2.out.rp rfl (k := y.toNat) (by omega)
      have hpx := rw_val h2.out.rp rfl (k := y.toNat) (by omega)
      have hfy := rw_free h2.out.rp rfl y.toNat
      have hfx := rw_free h2.out.rp rfl y.toNat
      have H2 := hid h2.out
      have T2 := hid ht2.out
      clear h2 ht2 hsl
      go_wp2_with fail
      go_region
      all_goals
        go_wp2_with fail
        go_end0
        refine ⟨rfl, ?_, T2.out.trans ((((Touch.refl _ _).setCell (Or.inr (Or.inr (Or.inr rfl))) _).setCell (Or.inr (Or.inr (Or.inr rfl))) _).drew)⟩
        have h3 := hrep_drew (hrep_setP (hrep_setP H2.out rfl y.toNat (i : Int)) (by simp) y.toNat (i : Int))
        unfold swpP
        rw [HY.out]
        exact h3
  · have hji : ¬ j = i := fun e => hij e.symm
    have hxy : ¬ x = y := fun e => hij (fits_inj HF.out hi hj (by rw [HX.out, HY.out]; exact e))
    have hxy2 : ¬ x.toNat = y.toNat := by omega
    have hyx2 : ¬ y.toNat = x.toNat := by omega
    go_enter Try.func87, Try.ntmps87
    go_wp2_with fail
    go_cut [] (fun wx => Hid (HRep wx b va (.slice (some ⟨gi, 0, none⟩) I.length ci) (.slice (some ⟨gp, 0, none⟩) P.length cp) A (swp I i j) P) ∧ Hid (Touch (foot b va (.slice (some ⟨gi, 0, none⟩) I.length ci) (.slice (some ⟨gp, 0, none⟩) P.length cp)) w wx))
    case first =>
      go_region
      all_goals
        go_wp2_with fail
        go_meet
        case rel =>
          refine ⟨?_, (((Touch.refl _ _).setCell (Or.inr (Or.inr (Or.inl rfl))) _).setCell (Or.inr (Or.inr (Or.inl rfl))) _).drew⟩
          have h1 := hrep_drew (hrep_setI (hrep_setI H.out rfl i y) (by simp) j x)
          unfold swp
          rw [HX.out, HY.out]
          exact h1
    case rest =>
      obtain ⟨h2, ht2⟩ := hcut
      clear hc1 hc2 hci hcj hfi hfj
      obtain ⟨-, hc1, hc2, -, -⟩ := hrep_cells h2.out
      have hsl : I.length = (swp I i j).length := (swp_length I i j).symm
      have hci := rw_val h2.out.ri hsl (k := i) (by rw [swp_length]; exact hi)
      have hcj := rw_val h2.out.ri hsl (k := j) (by rw [swp_length]; exact hj)
      rw [at'_swp hi hj, if_pos rfl, HY.out] at hci
      rw [at'_swp hi hj, if_neg hji, if_pos rfl, HX.out] at hcj
      have hpy := rw_val h2.out.rp rfl (k := y.toNat) (by omega)
      have hpx := rw_val h2.out.rp rfl (k := x.toNat) (by omega)
      have hfy := rw_free h2.out.rp rfl y.toNat
      have hfx := rw_free h2.out.rp rfl x.toNat
      have H2 := hid h2.out
      have T2 := hid ht2.out
      clear h2 ht2 hsl
      go_wp2_with fail
      go_region
      all_goals
        go_wp2_with fail
        go_end0
        refine ⟨rfl, ?_, T2.out.trans ((((Touch.refl _ _).setCell (Or.inr (Or.inr (Or.inr rfl))) _).setCell (Or.inr (Or.inr (Or.inr rfl))) _).drew)⟩
        have h3 := hrep_drew (hrep_setP (hrep_setP H2.out rfl y.toNat (i : Int)) (by simp) x.toNat (j : Int))
        unfold swpP
        rw [HX.out, HY.out]
        exact h3

end Go.Proofs.Ytfofabbnbmieoaa.Ord

/- The contracts of the queue's up and down. -/
namespace Go.Proofs.Ytfofabbnbmieoaa.Ord
open Go.RowKit

/-- What a sift leaves: a heap of the same variables. -/
def Sifted (w : World) (b : Nat) (va vi vp : Value) (A : List Int) (n m : Nat) (IN : Int → Prop) : Prop :=
  ∃ I P, HRep w b va vi vp A I P ∧ HeapOrd A I ∧ Fits I P ∧ I.length = n ∧ P.length = m ∧ ∀ v, inI I v ↔ IN v

theorem swpP_length (I P : List Int) (i j : Nat) : (swpP I P i j).length = P.length := by simp [swpP]

theorem quiet_drew {P : Program} {f : FuncId} {args : Array Value} {w : World} {n : Nat} {v : Value}
    (h : Calls P f args (w.drewN n) fun e w' => e = .returned v ∧ ∃ m, w' = (w.drewN n).drewN m) : Calls P f args (w.drewN n) fun e w'' => e = .returned v ∧ ∃ m, w'' = w.drewN m :=
  h.mono fun _ _ ⟨he, m, hm⟩ => ⟨he, n + m, by rw [hm]; exact World.drewN_drewN ..⟩

theorem quiet_drew2 {P : Program} {f : FuncId} {args : Array Value} {w : World} {k n : Nat} {v : Value}
    (h : Calls P f args (w.drewN (k + n)) fun e w' => e = .returned v ∧ ∃ m, w' = (w.drewN (k + n)).drewN m) : Calls P f args (w.drewN (k + n)) fun e w'' => e = .returned v ∧ ∃ m, w'' = w.drewN (k + m) :=
  h.mono fun _ _ ⟨he, m, hm⟩ => ⟨he, n + m, by rw [hm, World.drewN_drewN, Nat.add_assoc]⟩

set_option maxRecDepth 100000 in
set_option maxHeartbeats 4000000 in
theorem q_up (b : Nat) (va vi vp : Value) (A I P : List Int) (i : Nat) (w : World) (h : HRep w b va vi vp A I P) (hf : Fits I P) (hu : UpInv A I i) (hi : i < I.length) (hA : A.length = P.length) (hl : P.length ≤ 4294967296) (hIl : I.length ≤ 4294967296) :
    Calls Try.prog 86 #[.pointer (some ⟨b, 1, none⟩), .int .i64 i] w fun e w' => e = .returned (.tuple #[]) ∧ Sifted w' b va vi vp A I.length P.length (inI I) ∧ Touch (foot b va vi vp) w w' := by
  obtain ⟨IN, hIN⟩ : ∃ IN, IN = inI I := ⟨_, rfl⟩
  obtain ⟨n, hn⟩ : ∃ n, n = I.length := ⟨_, rfl⟩
  obtain ⟨m, hm⟩ : ∃ m, m = P.length := ⟨_, rfl⟩
  obtain ⟨gi, ci, hvi⟩ := rw_form h.ri (by omega)
  rw [← hn] at hvi
  have HV := hid hvi
  have H0 : Hid (HRep w b va vi vp A I P ∧ Fits I P ∧ UpInv A I i ∧ I.length = n ∧ P.length = m ∧ ∀ v, inI I v ↔ IN v) := ⟨h, hf, hu, hn.symm, hm.symm, fun v => by rw [hIN]⟩
  rw [← hIN, ← hn, ← hm]
  rw [← hm] at hA hl
  rw [← hn] at hi hIl
  have HAL := hid hA
  clear h hf hu hn hm hIN hvi hA
  go_enter Try.func86, Try.ntmps86
  go_wp2_with fail
  go_loopw [1] (fun s1 wr => ∃ (i : Nat) (I P : List Int), s1 = .int .i64 i ∧ i < n ∧ Hid (HRep wr b va vi vp A I P ∧ Fits I P ∧ UpInv A I i ∧ I.length = n ∧ P.length = m ∧ ∀ v, inI I v ↔ IN v) ∧ Touch (foot b va vi vp) w wr) (fun s1 _ => (intOf s1).toNat)
  case atStart => exact ⟨i, I, P, rfl, hi, H0.out, Touch.refl _ _⟩
  case round =>
    clear H0
    obtain ⟨i, I, P, rfl, hi, hr, ht⟩ := hrel
    obtain ⟨h, hf, hu, hIn, hPm, hin⟩ := hr.out
    obtain ⟨-, hc1, hc2, hc3, hc4⟩ := hrep_cells h
    by_cases h0 : 0 < i
    · obtain ⟨p, hp⟩ : ∃ p, p = (i - 1) / 2 := ⟨_, rfl⟩
      have hpi : p < i := by omega
      have hpn : p < n := by omega
      have hvi := HV.out
      rw [hvi] at h hc1
      have hci := rw_val h.ri hIn.symm (k := i) (by omega)
      have hcp := rw_val h.ri hIn.symm (k := p) (by omega)
      obtain ⟨x, hx⟩ : ∃ x, at' I i = x := ⟨_, rfl⟩
      obtain ⟨y, hy⟩ : ∃ y, at' I p = y := ⟨_, rfl⟩
      have bx := hf.2.1 i (by omega)
      have bp := hf.2.1 p (by omega)
      rw [hx] at hci bx
      rw [hy] at hcp bp
      have hxA : 0 ≤ x ∧ x < A.length := by have := HAL.out; omega
      have hyA : 0 ≤ y ∧ y < A.length := by have := HAL.out; omega
      have e1 : IntKind.i64.wrap ((i : Int) - 1) = (i : Int) - 1 := IntWalk.i64_in _ (by omega)
      have e2 : ((i : Int) - 1).tdiv 2 = (p : Int) := by rw [Int.tdiv_eq_ediv_of_nonneg (by omega)]; omega
      have e3 : IntKind.i64.wrap (p : Int) = (p : Int) := IntWalk.i64_in _ (by omega)
      have e4 : ((i : Int) - 1) / 2 = (p : Int) := by omega
      have b1 : (i : Int) < n := by omega
      have b2 : (p : Int) < n := by omega
      have hd : decide (0 < i) = true := by simp [h0]
      have HX := hid hx
      have HY := hid hy
      have HP := hid hp
      have H := hid h
      have HF := hid hf
      have HU := hid hu
      have HIn := hid hIn
      have HPm := hid hPm
      have HIN := hid hin
      have hcr : ∃ r, bef A x y = r := ⟨_, rfl⟩
      obtain ⟨r, hr2⟩ := hcr
      have HB := hid fun (w : World) (hw : HRep w b va (.slice (some ⟨gi, 0, none⟩) n ci) vp A I P) => heap_before b va _ vp A I P x y r w hr2 hw hxA hyA (by have := HAL.out; omega)
      have HR2 := hid hr2
      clear hx hy hp h hf hu hIn hPm hin hr hr2 hvi bx bp hxA hyA
      cases r with
      | true =>
        go_wp2_with fail
        go_quiet ((go_at_call 67; first | exact quiet_drew2 (HB.out _ (hrep_drewN H.out _)) | exact quiet_drew (HB.out _ (hrep_drewN H.out _))))
        clear e1 e2 e3
        go_wp2_with fail
        refine (q_swap b va _ vp A I P i p _ (hrep_drewN H.out _) HF.out (by have := HIn.out; omega) (by have := HIn.out; omega) (by have := HPm.out; omega)).mono ?_
        rintro e w2 ⟨rfl, h2, ht2⟩
        have HH2 := hid h2
        have HT2 := hid ht2
        clear h2 ht2
        go_wp2_with fail
        go_roundw
        case rel =>
          refine ⟨p, swp I i p, swpP I P i p, (by first | rfl | rw [e4]), hpn, ⟨by rw [HV.out]; exact HH2.out, fits_swp HF.out (by have := HIn.out; omega) (by have := HIn.out; omega), ?_, by rw [swp_length]; exact HIn.out, by rw [swpP_length]; exact HPm.out, fun v => by rw [inI_swp (by have := HIn.out; omega) (by have := HIn.out; omega)]; exact HIN.out v⟩, (ht.drewN _).trans (by rw [HV.out]; exact HT2.out)⟩
          have hus := up_step HU.out h0 (by have := HIn.out; omega) (by rw [← HP.out, HX.out, HY.out]; exact HR2.out)
          rw [← HP.out] at hus
          exact hus
        case measure => simp [intOf]; omega
      | false =>
        go_wp2_with fail
        go_quiet ((go_at_call 67; first | exact quiet_drew2 (HB.out _ (hrep_drewN H.out _)) | exact quiet_drew (HB.out _ (hrep_drewN H.out _))))
        clear e1 e2 e3
        go_wp2_with fail
        go_end0
        exact ⟨rfl, ⟨I, P, hrep_drewN (by rw [HV.out]; exact H.out) _, up_done HU.out (Or.inr (by rw [← HP.out, HX.out, HY.out]; exact HR2.out)), HF.out, HIn.out, HPm.out, HIN.out⟩, ht.drewN _⟩
    · have hi0 : i = 0 := by omega
      have hd : decide (0 < i) = false := by simp; omega
      have HS2 := hid fun k => (⟨I, P, hrep_drewN h k, up_done hu (Or.inl hi0), hf, hIn, hPm, hin⟩ : Sifted (wr.drewN k) b va vi vp A n m IN)
      clear h hf hu hIn hPm hin hr hi0
      go_wp2_with fail
      go_quiet (fail)
      go_wp2_with fail
      go_end0
      exact ⟨rfl, HS2.out _, ht.drewN _⟩

end Go.Proofs.Ytfofabbnbmieoaa.Ord

/- The contract of the queue's down. -/
namespace Go.Proofs.Ytfofabbnbmieoaa.Ord
open Go.RowKit

set_option maxRecDepth 100000 in
set_option maxHeartbeats 4000000 in
theorem q_down (b : Nat) (va vi vp : Value) (A I P : List Int) (i : Nat) (w : World) (h : HRep w b va vi vp A I P) (hf : Fits I P) (hu : DownInv A I i) (hi : i < I.length) (hA : A.length = P.length) (hl : P.length ≤ 4294967296) (hIl : I.length ≤ 4294967296) :
    Calls Try.prog 88 #[.pointer (some ⟨b, 1, none⟩), .int .i64 i] w fun e w' => e = .returned (.tuple #[]) ∧ Sifted w' b va vi vp A I.length P.length (inI I) ∧ Touch (foot b va vi vp) w w' := by
  obtain ⟨IN, hIN⟩ : ∃ IN, IN = inI I := ⟨_, rfl⟩
  obtain ⟨n, hn⟩ : ∃ n, n = I.length := ⟨_, rfl⟩
  obtain ⟨m, hm⟩ : ∃ m, m = P.length := ⟨_, rfl⟩
  obtain ⟨gi, ci, hvi⟩ := rw_form h.ri (by omega)
  rw [← hn] at hvi
  have HV := hid hvi
  have H0 : Hid (HRep w b va vi vp A I P ∧ Fits I P ∧ DownInv A I i ∧ I.length = n ∧ P.length = m ∧ ∀ v, inI I v ↔ IN v) := ⟨h, hf, hu, hn.symm, hm.symm, fun v => by rw [hIN]⟩
  rw [← hIN, ← hn, ← hm]
  rw [← hm] at hA hl
  rw [← hn] at hi hIl
  have HAL := hid hA
  clear h hf hu hn hm hIN hvi hA
  go_enter Try.func88, Try.ntmps88
  go_wp2_with fail
  go_loopw [1] (fun s1 wr => ∃ (i : Nat) (I P : List Int), s1 = .int .i64 i ∧ i < n ∧ Hid (HRep wr b va vi vp A I P ∧ Fits I P ∧ DownInv A I i ∧ I.length = n ∧ P.length = m ∧ ∀ v, inI I v ↔ IN v) ∧ Touch (foot b va vi vp) w wr) (fun s1 _ => n - (intOf s1).toNat)
  case atStart => exact ⟨i, I, P, rfl, hi, H0.out, Touch.refl _ _⟩
  case round =>
    clear H0
    obtain ⟨i, I, P, rfl, hi, hr, ht⟩ := hrel
    obtain ⟨h, hf, hu, hIn, hPm, hin⟩ := hr.out
    obtain ⟨-, hc1, hc2, hc3, hc4⟩ := hrep_cells h
    have hvi := HV.out
    rw [hvi] at h hc1
    obtain ⟨c1, hc1e⟩ : ∃ c1, c1 = 2 * i + 1 + 0 := ⟨_, rfl⟩
    obtain ⟨c2, hc2e⟩ : ∃ c2, c2 = 2 * i + 1 + 1 := ⟨_, rfl⟩
    have e5 : 2 * (i : Int) + 1 = (c1 : Int) := by omega
    have e6 : 2 * (i : Int) + 2 = (c2 : Int) := by omega
    have hcell := fun (k : Nat) (hk : k < n) => rw_val h.ri hIn.symm (k := k) (by omega)
    have hbd := fun (k : Nat) (hk : k < n) => hf.2.1 k (by omega)
    have hB := fun (k j : Nat) (r : Bool) (hk : k < n) (hj : j < n) (hr2 : bef A (at' I k) (at' I j) = r) (w : World) (hw : HRep w b va (.slice (some ⟨gi, 0, none⟩) n ci) vp A I P) =>
      heap_before b va _ vp A I P (at' I k) (at' I j) r w hr2 hw (by have := hbd k hk; have := HAL.out; omega) (by have := hbd j hj; have := HAL.out; omega) (by have := HAL.out; omega)
    have i0 : ∀ w, (Instr.index 141 (.agg #[.int .i64 (c1 : Int), .int .i64 (c2 : Int)]) (.int .i64 0)).run Try.prog w = .ok (.int .i64 (c1 : Int)) w := fun _ => by kernel_rfl
    have i1 : ∀ w, (Instr.index 141 (.agg #[.int .i64 (c1 : Int), .int .i64 (c2 : Int)]) (.int .i64 1)).run Try.prog w = .ok (.int .i64 (c2 : Int)) w := fun _ => by kernel_rfl
    have HB := hid hB
    have HCELL := hid hcell
    have H := hid h
    have HF := hid hf
    have HU := hid hu
    have HIn := hid hIn
    have HPm := hid hPm
    have HIN := hid hin
    have HC1 := hid hc1e
    have HC2 := hid hc2e
    have hc1b : c1 ≤ 8589934592 := by omega
    have hc2b : c2 ≤ 8589934592 := by omega
    clear hB hcell hbd h hf hu hIn hPm hin hr hvi hc1e hc2e
    go_wp2_with fail
    obtain ⟨wo, rfl⟩ : ∃ wo : World, wo = wr := ⟨_, rfl⟩
    go_loopw [4, 15] (fun s4 s15 wr => ∃ (j bb nd : Nat), j ≤ 2 ∧ s15 = .int .i64 j ∧ s4 = .int .i64 bb ∧ bb < n ∧ Hid (BestSo A I i j bb) ∧ wr = wo.drewN nd) (fun _ s15 _ => 2 - (intOf s15).toNat)
    case atStart => exact ⟨0, i, 0, by omega, rfl, rfl, hi, best_start A I i, rfl⟩
    case round =>
      obtain ⟨j, bb, nd, hj, rfl, rfl, hbn, hbest, rfl⟩ := hrel
      by_cases hj2 : j < 2
      · have hjc : j = 0 ∨ j = 1 := by omega
        rcases hjc with hj0 | hj0
        · obtain rfl : j = 0 := by omega
          by_cases hcl : c1 < n
          · have hd : decide (c1 < n) = true := by simp [hcl]
            have b1 : (c1 : Int) < n := by omega
            have b2 : (bb : Int) < n := by omega
            have hck := HCELL.out c1 hcl
            have hcb := HCELL.out bb hbn
            cases hb : bef A (at' I c1) (at' I bb) with
            | true =>
              have HBF := hid (HB.out c1 bb true hcl hbn hb)
              have HBB := hid hb
              clear hb
              go_wp2_with fail
              go_quiet ((go_at_call 67; first | exact quiet_drew2 (HBF.out _ (hrep_drewN H.out _)) | exact quiet_drew (HBF.out _ (hrep_drewN H.out _))))
              go_wp2_with fail
              go_roundw
              case rel => exact ⟨0 + 1, c1, _, by omega, rfl, rfl, hcl, best_take hbest.out (by omega) HC1.out (by rw [HIn.out]; exact hcl) HBB.out, (by first | rfl | exact World.drewN_drewN ..)⟩
              case measure => simp [intOf]
            | false =>
              have HBF := hid (HB.out c1 bb false hcl hbn hb)
              have HBB := hid hb
              clear hb
              go_wp2_with fail
              go_quiet ((go_at_call 67; first | exact quiet_drew2 (HBF.out _ (hrep_drewN H.out _)) | exact quiet_drew (HBF.out _ (hrep_drewN H.out _))))
              go_wp2_with fail
              go_roundw
              case rel => exact ⟨0 + 1, bb, _, by omega, rfl, rfl, hbn, best_leave hbest.out (by omega) HC1.out (fun _ => HBB.out), (by first | rfl | exact World.drewN_drewN ..)⟩
              case measure => simp [intOf]
          · have hd : decide (c1 < n) = false := by simp; omega
            go_wp2_with fail
            go_quiet (fail)
            go_wp2_with fail
            go_roundw
            case rel => exact ⟨0 + 1, bb, _, by omega, rfl, rfl, hbn, best_leave hbest.out (by omega) HC1.out (fun h => by rw [HIn.out] at h; exact absurd h hcl), (by first | rfl | exact World.drewN_drewN ..)⟩
            case measure => simp [intOf]
        · obtain rfl : j = 1 := by omega
          by_cases hcl : c2 < n
          · have hd : decide (c2 < n) = true := by simp [hcl]
            have b1 : (c2 : Int) < n := by omega
            have b2 : (bb : Int) < n := by omega
            have hck := HCELL.out c2 hcl
            have hcb := HCELL.out bb hbn
            cases hb : bef A (at' I c2) (at' I bb) with
            | true =>
              have HBF := hid (HB.out c2 bb true hcl hbn hb)
              have HBB := hid hb
              clear hb
              go_wp2_with fail
              go_quiet ((go_at_call 67; first | exact quiet_drew2 (HBF.out _ (hrep_drewN H.out _)) | exact quiet_drew (HBF.out _ (hrep_drewN H.out _))))
              go_wp2_with fail
              go_roundw
              case rel => exact ⟨1 + 1, c2, _, by omega, rfl, rfl, hcl, best_take hbest.out (by omega) HC2.out (by rw [HIn.out]; exact hcl) HBB.out, (by first | rfl | exact World.drewN_drewN ..)⟩
              case measure => simp [intOf]
            | false =>
              have HBF := hid (HB.out c2 bb false hcl hbn hb)
              have HBB := hid hb
              clear hb
              go_wp2_with fail
              go_quiet ((go_at_call 67; first | exact quiet_drew2 (HBF.out _ (hrep_drewN H.out _)) | exact quiet_drew (HBF.out _ (hrep_drewN H.out _))))
              go_wp2_with fail
              go_roundw
              case rel => exact ⟨1 + 1, bb, _, by omega, rfl, rfl, hbn, best_leave hbest.out (by omega) HC2.out (fun _ => HBB.out), (by first | rfl | exact World.drewN_drewN ..)⟩
              case measure => simp [intOf]
          · have hd : decide (c2 < n) = false := by simp; omega
            go_wp2_with fail
            go_quiet (fail)
            go_wp2_with fail
            go_roundw
            case rel => exact ⟨1 + 1, bb, _, by omega, rfl, rfl, hbn, best_leave hbest.out (by omega) HC2.out (fun h => by rw [HIn.out] at h; exact absurd h hcl), (by first | rfl | exact World.drewN_drewN ..)⟩
            case measure => simp [intOf]
      · obtain rfl : j = 2 := by omega
        have hdone := best_done HU.out hbest.out
        by_cases hbi : bb = i
        · have hq : ((bb : Int) == (i : Int)) = true := by rw [hbi]; simp
          have HO := hid (hdone.1 hbi)
          clear hdone hbi
          go_wp2_with fail
          refine bodyPost_ret (v := .tuple #[]) (by simp [results, Try.results88, go_sem]) rfl ?_
          exact ⟨rfl, ⟨I, P, hrep_drewN (by rw [HV.out]; exact H.out) _, HO.out, HF.out, HIn.out, HPm.out, HIN.out⟩, ht.drewN _⟩
        · have hq : ((bb : Int) == (i : Int)) = false := by rw [beq_eq_false_iff_ne]; omega
          obtain ⟨hlt, hbl, hdn⟩ := hdone.2 hbi
          have HDN := hid hdn
          clear hdone hbi hdn
          go_wp2_with fail
          refine (q_swap b va _ vp A I P i bb _ (hrep_drewN H.out _) HF.out (by have := HIn.out; omega) (by have := HIn.out; omega) (by have := HPm.out; omega)).mono ?_
          rintro e w2 ⟨rfl, h2, ht2⟩
          have HH2 := hid h2
          have HT2 := hid ht2
          clear h2 ht2
          go_wp2_with fail
          go_roundw
          case rel =>
            exact ⟨bb, swp I i bb, swpP I P i bb, rfl, hbn, ⟨by rw [HV.out]; exact HH2.out, fits_swp HF.out (by have := HIn.out; omega) (by have := HIn.out; omega), HDN.out, by rw [swp_length]; exact HIn.out, by rw [swpP_length]; exact HPm.out, fun v => by rw [inI_swp (by have := HIn.out; omega) (by have := HIn.out; omega)]; exact HIN.out v⟩, (ht.drewN _).trans (by rw [HV.out]; exact HT2.out)⟩
          case measure => simp [intOf]; omega

end Go.Proofs.Ytfofabbnbmieoaa.Ord

/- The abstract heap: activities and which variables are in; the variable that Pop takes. Plain. -/
namespace Go.Proofs.Ytfofabbnbmieoaa

/-- One look of the reference's Pop: the best place so far (from 0 on; -1: none). -/
def popStep (A : List Int) (In : List Bool) (best : Int) (i : Nat) : Int :=
  if In.getD i false = true ∧ (best < 0 ∨ actv A (best + 1) < actv A ((i : Int) + 1)) then (i : Int) else best

/-- The best place after k looks. -/
def popTo (A : List Int) (In : List Bool) (k : Nat) : Int := (List.range k).foldl (popStep A In) (-1)

/-- What Pop takes: 0 if there is none. -/
def popV (A : List Int) (In : List Bool) : Int := popTo A In In.length + 1

theorem popTo_succ (A : List Int) (In : List Bool) (k : Nat) : popTo A In (k + 1) = popStep A In (popTo A In k) k := by
  simp [popTo, List.range_succ]

theorem popTo_spec (A : List Int) (In : List Bool) : ∀ k, (popTo A In k = -1 ∧ ∀ i, i < k → In.getD i false = false) ∨
    (0 ≤ popTo A In k ∧ popTo A In k < k ∧ In.getD (popTo A In k).toNat false = true ∧ ∀ i, i < k → In.getD i false = true → bef A ((i : Int) + 1) (popTo A In k + 1) = false) := by
  intro k
  induction k with
  | zero => exact Or.inl ⟨rfl, fun i h => by omega⟩
  | succ k ih =>
    rw [popTo_succ]
    unfold popStep
    by_cases hin : In.getD k false = true
    · rcases ih with ⟨h1, h2⟩ | ⟨h1, h2, h3, h4⟩
      · rw [if_pos ⟨hin, Or.inl (by omega)⟩]
        refine Or.inr ⟨by omega, by omega, by simpa using hin, fun i hi hi2 => ?_⟩
        by_cases hik : i = k
        · subst hik; exact nbef_self _ _
        · rw [h2 i (by omega)] at hi2; cases hi2
      · by_cases hb : actv A (popTo A In k + 1) < actv A ((k : Int) + 1)
        · rw [if_pos ⟨hin, Or.inr hb⟩]
          refine Or.inr ⟨by omega, by omega, by simpa using hin, fun i hi hi2 => ?_⟩
          by_cases hik : i = k
          · subst hik; exact nbef_self _ _
          · exact nbef_trans (h4 i (by omega) hi2) (nbef_of_bef (by rw [bef_iff]; exact Or.inl hb))
        · rw [if_neg (by rintro ⟨_, h | h⟩ <;> omega)]
          refine Or.inr ⟨h1, by omega, h3, fun i hi hi2 => ?_⟩
          by_cases hik : i = k
          · subst hik; rw [nbef_iff]; omega
          · exact h4 i (by omega) hi2
    · rw [if_neg (fun h => hin h.1)]
      have hin' : In.getD k false = false := by simpa using hin
      rcases ih with ⟨h1, h2⟩ | ⟨h1, h2, h3, h4⟩
      · exact Or.inl ⟨h1, fun i hi => by by_cases hik : i = k; · subst hik; exact hin'
                                         · exact h2 i (by omega)⟩
      · refine Or.inr ⟨h1, by omega, h3, fun i hi hi2 => ?_⟩
        by_cases hik : i = k
        · subst hik; rw [hin'] at hi2; cases hi2
        · exact h4 i (by omega) hi2

theorem getD_true {In : List Bool} {i : Nat} : In.getD i false = true ↔ In[i]? = some true := by
  rw [List.getD_eq_getElem?_getD]
  cases In[i]? with
  | none => simp
  | some b => simp

theorem popV_none {A : List Int} {In : List Bool} (h : ∀ i : Nat, In[i]? ≠ some true) : popV A In = 0 := by
  rcases popTo_spec A In In.length with ⟨h1, _⟩ | ⟨_, _, h3, _⟩
  · unfold popV; omega
  · exact absurd (getD_true.1 h3) (h _)

/-- What is in and behind which nothing comes is what Pop takes. -/
theorem popV_eq {A : List Int} {In : List Bool} {v : Int} (h1 : 1 ≤ v) (h2 : In[(v - 1).toNat]? = some true) (h3 : ∀ u : Int, 1 ≤ u → In[(u - 1).toNat]? = some true → bef A u v = false) : popV A In = v := by
  have hl : (v - 1).toNat < In.length := (List.getElem?_eq_some_iff.1 h2).1
  rcases popTo_spec A In In.length with ⟨_, h5⟩ | ⟨h5, h6, h7, h8⟩
  · rw [← getD_true, h5 _ hl] at h2; cases h2
  · have ha := h8 (v - 1).toNat hl (getD_true.2 h2)
    rw [show (((v - 1).toNat : Nat) : Int) + 1 = v by omega] at ha
    have hb := h3 (popTo A In In.length + 1) (by omega) (by rw [show (popTo A In In.length + 1 - 1).toNat = (popTo A In In.length).toNat by omega]; exact getD_true.1 h7)
    unfold popV
    exact bef_total hb ha

theorem popV_spec {A : List Int} {In : List Bool} (h : popV A In ≠ 0) : 1 ≤ popV A In ∧ popV A In ≤ In.length ∧ In[(popV A In - 1).toNat]? = some true ∧ ∀ u : Int, 1 ≤ u → In[(u - 1).toNat]? = some true → bef A u (popV A In) = false := by
  unfold popV at *
  rcases popTo_spec A In In.length with ⟨h1, _⟩ | ⟨h5, h6, h7, h8⟩
  · omega
  · refine ⟨by omega, by omega, by rw [show (popTo A In In.length + 1 - 1).toNat = (popTo A In In.length).toNat by omega]; exact getD_true.1 h7, fun u hu hin => ?_⟩
    have hl : (u - 1).toNat < In.length := (List.getElem?_eq_some_iff.1 hin).1
    have := h8 (u - 1).toNat hl (getD_true.2 hin)
    rwa [show (((u - 1).toNat : Nat) : Int) + 1 = u by omega] at this

theorem popV_range (A : List Int) (In : List Bool) : 0 ≤ popV A In ∧ popV A In ≤ In.length := by
  by_cases h : popV A In = 0
  · omega
  · have := popV_spec h; omega

/-- The variables of the items are those that are in. -/
def RelIn (I : List Int) (In : List Bool) : Prop := ∀ v : Int, 1 ≤ v → v ≤ In.length → (inI I v ↔ In[(v - 1).toNat]? = some true)

theorem pop_best {A I P : List Int} {In : List Bool} (hf : Fits I P) (ho : HeapOrd A I) (hl : P.length = In.length + 1) (hr : RelIn I In) (hI : 0 < I.length) : popV A In = at' I 0 := by
  have b0 := hf.2.1 0 hI
  refine popV_eq b0.1 ((hr _ b0.1 (by omega)).1 ⟨0, hI, rfl⟩) fun u hu hin => ?_
  have hul : (u - 1).toNat < In.length := (List.getElem?_eq_some_iff.1 hin).1
  obtain ⟨k, hk, rfl⟩ := (hr u hu (by omega)).2 hin
  exact heap_top ho k hk

theorem pop_empty {A I : List Int} {In : List Bool} (hr : RelIn I In) (hI : I.length = 0) : popV A In = 0 := by
  refine popV_none fun i hi => ?_
  have hl : i < In.length := (List.getElem?_eq_some_iff.1 hi).1
  obtain ⟨k, hk, _⟩ := (hr ((i : Int) + 1) (by omega) (by omega)).2 (by rw [show ((i : Int) + 1 - 1).toNat = i by omega]; exact hi)
  omega

theorem rel_pop {I P : List Int} {In : List Bool} (hf : Fits I P) (hr : RelIn I In) (hI : 0 < I.length) : RelIn (popI I) (In.set (at' I 0 - 1).toNat false) := by
  have b0 := hf.2.1 0 hI
  intro v h1 h2
  rw [List.length_set] at h2
  rw [inI_pop hf hI, hr v h1 h2, List.getElem?_set]
  by_cases hv : v = at' I 0
  · subst hv
    simp
  · rw [if_neg (by omega)]
    simp [hv]

theorem rel_push {I : List Int} {In : List Bool} {v : Int} (hr : RelIn I In) (h1 : 1 ≤ v) (h2 : v ≤ In.length) : RelIn (I ++ [v]) (In.set (v - 1).toNat true) := by
  intro u hu hu2
  rw [List.length_set] at hu2
  rw [inI_snoc, hr u hu hu2, List.getElem?_set]
  by_cases hv : u = v
  · subst hv
    rw [if_pos rfl, if_pos (by omega)]; simp
  · rw [if_neg (by omega)]
    simp [hv]

theorem rel_congr {I J : List Int} {In : List Bool} (hr : RelIn I In) (h : ∀ v, inI J v ↔ inI I v) : RelIn J In := fun v h1 h2 => by rw [h]; exact hr v h1 h2

theorem set_same_true {In : List Bool} {i : Nat} (h : In[i]? = some true) : In.set i true = In := by
  refine List.ext_getElem? fun k => ?_
  rw [List.getElem?_set]
  split
  · rename_i hk; subst hk
    rw [h, if_pos (List.getElem?_eq_some_iff.1 h).1]
  · rfl

theorem rel_new (n : Nat) : RelIn (newI n) (List.replicate n true) := fun v h1 h2 => by
  rw [List.length_replicate] at h2
  rw [inI_new, List.getElem?_replicate, if_pos (by omega)]
  simp; omega

end Go.Proofs.Ytfofabbnbmieoaa

/- The contracts of Bump, Has and Len of a heap, in terms of the activities and of which variables are in. -/
namespace Go.Proofs.Ytfofabbnbmieoaa.Ord
open Go.RowKit

/-- The heap at the block b, of the blocks of S alone: activities A, and which variables are in. -/
def Heap (w : World) (b : Nat) (S : Nat → Prop) (A : List Int) (In : List Bool) : Prop :=
  ∃ va vi vp I P, HRep w b va vi vp A I P ∧ HeapOrd A I ∧ Fits I P ∧ P.length = In.length + 1 ∧ A.length = In.length + 1 ∧ RelIn I In ∧ (∀ k, foot b va vi vp k → S k) ∧ In.length ≤ 1048576 ∧ (∀ a ∈ A, 0 ≤ a ∧ a ≤ 1152921504606846976)

theorem heap_frame {w w' : World} {b : Nat} {S : Nat → Prop} {A : List Int} {In : List Bool} (h : Heap w b S A In) (hk : ∀ k, k < w.heap.size → S k → w'.heap[k]? = w.heap[k]?) : Heap w' b S A In := by
  obtain ⟨va, vi, vp, I, P, h1, h2, h3, h4, h5, h6, h7, h8⟩ := h
  exact ⟨va, vi, vp, I, P, hrep_frame h1 fun k e => hk k (foot_lt h1 e) (h7 k e), h2, h3, h4, h5, h6, h7, h8⟩

theorem heap_touch {w w' : World} {b : Nat} {S T : Nat → Prop} {A : List Int} {In : List Bool} (h : Heap w b S A In) (ht : Touch T w w') (hd : ∀ k, S k → ¬ T k) : Heap w' b S A In :=
  heap_frame h fun k hk hs => ht.block k hk (hd k hs)

theorem heap_drewN {w : World} {b : Nat} {S : Nat → Prop} {A : List Int} {In : List Bool} (h : Heap w b S A In) (n : Nat) : Heap (w.drewN n) b S A In := heap_frame h fun _ _ _ => rfl

theorem fits_len {I P : List Int} {In : List Bool} (h : Fits I P) (hl : P.length = In.length + 1) (hr : RelIn I In) : I.length ≤ In.length := by
  rw [in_count h hl hr]; exact List.countP_le_length

theorem at'_eq_actv (A : List Int) (v : Int) : at' A v.toNat = actv A v := rfl

/-- What Bump returns. -/
def bumpE (A : List Int) (n : Nat) (v by' : Int) : Int := if 1 ≤ v ∧ v ≤ n ∧ 0 ≤ by' ∧ by' ≤ 1099511627776 ∧ actv A v + by' ≤ 1152921504606846976 then 0 else 3
/-- The activities behind it. -/
def bumpA (A : List Int) (n : Nat) (v by' : Int) : List Int := if bumpE A n v by' = 0 then A.set v.toNat (actv A v + by') else A

theorem mem_set_cases {A : List Int} {k : Nat} {x a : Int} (h : a ∈ A.set k x) : a ∈ A ∨ a = x := by
  rcases List.mem_or_eq_of_mem_set h with h | h
  · exact Or.inl h
  · exact Or.inr h

set_option maxHeartbeats 1000000 in
theorem heap_Len (b : Nat) (S : Nat → Prop) (A : List Int) (In : List Bool) (n : Int) (w : World) (hn : ((In.countP id : Nat) : Int) = n) (h : Heap w b S A In) :
    Calls Try.prog 73 #[.pointer (some ⟨b, 0, none⟩)] w fun e w' => e = .returned (.int .i64 n) ∧ w = w' := by
  obtain ⟨va, vi, vp, I, P, h1, h2, h3, h4, h5, h6, h7, h8, h9⟩ := h
  obtain ⟨hc0, hc1, hc2, -, -⟩ := hrep_cells h1
  obtain ⟨ai, ci, rfl, -⟩ := rw_shape h1.ri
  have hl := in_count h3 h4 h6
  rw [← hl] at hn
  have HN := hid hn
  clear h1 h2 h3 h4 h5 h6 h7 h8 h9 hl hn hc0 hc2
  go_enter Try.func73, Try.ntmps73
  go_wp2_with fail
  go_ret
  exact ⟨by rw [← HN.out]; rfl, rfl⟩

end Go.Proofs.Ytfofabbnbmieoaa.Ord

/- The contract of Bump of a heap. -/
namespace Go.Proofs.Ytfofabbnbmieoaa.Ord
open Go.RowKit

theorem bump_mem {A : List Int} {k : Nat} {x : Int} (h : ∀ a ∈ A, 0 ≤ a ∧ a ≤ 1152921504606846976) (hx : 0 ≤ x ∧ x ≤ 1152921504606846976) : ∀ a ∈ A.set k x, 0 ≤ a ∧ a ≤ 1152921504606846976 := fun a ha => by
  rcases mem_set_cases ha with h' | h'
  · exact h a h'
  · rw [h']; exact hx

theorem actv_range {A : List Int} (h : ∀ a ∈ A, 0 ≤ a ∧ a ≤ 1152921504606846976) (v : Int) : 0 ≤ actv A v ∧ actv A v ≤ 1152921504606846976 := by
  unfold actv
  rw [List.getD_eq_getElem?_getD]
  cases hx : A[v.toNat]? with
  | none => simp
  | some x => exact h x (List.mem_of_getElem? hx)

set_option maxRecDepth 100000 in
set_option maxHeartbeats 4000000 in
theorem heap_Bump (b : Nat) (S : Nat → Prop) (A : List Int) (In : List Bool) (v by' e : Int) (w : World) (he : bumpE A In.length v by' = e) (h : Heap w b S A In) :
    Calls Try.prog 71 #[.pointer (some ⟨b, 0, none⟩), .int .i64 v, .int .i64 by'] w fun x w' => x = .returned (.int .i64 e) ∧ Heap w' b S (bumpA A In.length v by') In ∧ Touch S w w' := by
  have h0 := h
  obtain ⟨va, vi, vp, I, P, h1, h2, h3, h4, h5, h6, h7, h8, h9⟩ := h
  have hxr := actv_range h9 v
  obtain ⟨x, hx⟩ : ∃ x, actv A v = x := ⟨_, rfl⟩
  rw [hx] at hxr
  have hN : ∀ {c : Prop}, e = 3 → Hid (bumpA A In.length v by' = A) := fun {c} h => by
    unfold bumpA; rw [he, h]; rfl
  by_cases hv : 1 ≤ v ∧ v ≤ In.length
  · have hi := heap_is b va vi vp A I P v true w (by rw [h5]; simp; omega) h1
    obtain ⟨hc0, hc1, hc2, -, -⟩ := hrep_cells h1
    obtain ⟨ga, ca, rfl⟩ := rw_form h1.ra (by omega)
    have hca := rw_val h1.ra rfl (k := v.toNat) (by omega)
    rw [at'_eq_actv, hx] at hca
    have hv0 : 0 ≤ v := by omega
    have hvA : v < A.length := by omega
    by_cases hb0 : 0 ≤ by'
    · by_cases hb1 : by' ≤ 1099511627776
      · by_cases hb2 : x + by' ≤ 1152921504606846976
        · have he0 : e = 0 := by rw [← he]; unfold bumpE; rw [if_pos ⟨hv.1, hv.2, hb0, hb1, by rw [hx]; exact hb2⟩]
          have hA' : bumpA A In.length v by' = A.set v.toNat (x + by') := by unfold bumpA; rw [he, he0, if_pos rfl, hx]
          rw [hA']
          have lv : v.toNat < A.length := by omega
          have hfa := rw_free h1.ra rfl v.toNat
          have hs := hrep_setA h1 rfl v.toNat (x + by')
          obtain ⟨-, hd1, hd2, -, -⟩ := hrep_cells hs
          obtain ⟨gp, cp, rfl⟩ := rw_form hs.rp (by omega)
          have hdp := rw_val hs.rp rfl (k := v.toNat) (by omega)
          have hpl := fits_place h3 (v := v.toNat) (by omega)
          rw [show ((v.toNat : Nat) : Int) = v by omega] at hpl
          have hm := bump_mem (k := v.toNat) h9 (show 0 ≤ x + by' ∧ x + by' ≤ 1152921504606846976 by omega)
          have hsl : (A.set v.toNat (x + by')).length = A.length := by simp
          have hil := fits_len h3 h4 h6
          have hvP : v < P.length := by omega
          have HI := hid hi
          have HM := hid hm
          have HE0 := hid he0
          by_cases hin : inI I v
          · obtain ⟨i, hi1⟩ : ∃ i : Nat, at' P v.toNat = i := ⟨(at' P v.toNat).toNat, by have := hpl.1.2 hin; omega⟩
            have hi2 := hpl.2 hin
            rw [hi1] at hdp hi2
            have hil2 : i < I.length := by omega
            have hiv : at' I i = v := by have := hi2.2; simpa using this
            have hup := bump_up (x := x + by') h3 h2 lv (by rw [hx]; omega) hil2 hiv
            have HS := hid hs
            have HF := hid h3
            have HU := hid hup
            have HR := hid h6
            have H7 := hid h7
            have HSL := hid hsl
            have HP4 := hid h4
            have HA5 := hid h5
            clear h0 h1 h2 h3 h4 h5 h6 h7 h9 hN hA' hs hpl hm hsl hi hi1 hi2 hiv hup hin he he0 hx
            go_enter Try.func71, Try.ntmps71
            go_wp2_with (go_at_call 85; refine HI.out.mono ?_; rintro e w' ⟨rfl, rfl⟩)
            go_region_with (go_at_call 86; refine (q_up b _ vi _ _ I P i _ (hrep_drew HS.out) HF.out HU.out hil2 (by rw [HSL.out]; have := HP4.out; have := HA5.out; omega) (by have := HP4.out; omega) (by omega)).mono ?_; rintro e w2 ⟨rfl, hsf, ht⟩)
            all_goals
              have HSF := hid hsf
              have HT := hid ht
              clear hsf ht
              go_wp2_with fail
              go_ret
              obtain ⟨I2, P2, r1, r2, r3, r4, r5, r6⟩ := HSF.out
              refine ⟨by rw [HE0.out]; rfl, ⟨_, _, _, I2, P2, r1, r2, r3, by rw [r5]; exact HP4.out, by rw [HSL.out]; exact HA5.out, rel_congr HR.out r6, H7.out, h8, HM.out⟩, ?_⟩
              exact ((Touch.refl S w).setCell (H7.out ga (Or.inr (Or.inl rfl))) _).drew.trans (HT.out.mono fun k _ hk => H7.out k hk)
          · have hi1 : ¬ 0 ≤ at' P v.toNat := fun h => hin (hpl.1.1 h)
            obtain ⟨p, hp⟩ : ∃ p, at' P v.toNat = p := ⟨_, rfl⟩
            rw [hp] at hdp hi1
            have hord := bump_out (x := x + by') h3 h2 lv hv.1 hin
            have HFIN : Hid (Heap (w.setCell ⟨ga, v.toNat, none⟩ (.int .i64 (x + by'))) b S (A.set v.toNat (x + by')) In) := ⟨_, _, _, I, P, hs, hord, h3, h4, by rw [hsl]; exact h5, h6, h7, h8, hm⟩
            have H7 := hid h7
            clear h0 h1 h2 h3 h4 h5 h6 h7 h9 hN hA' hs hpl hm hsl hi hin he he0 hx hp hord
            go_enter Try.func71, Try.ntmps71
            go_wp2_with (go_at_call 85; refine HI.out.mono ?_; rintro e w' ⟨rfl, rfl⟩)
            go_ret
            exact ⟨by rw [HE0.out]; rfl, HFIN.out, (Touch.refl S w).setCell (H7.out ga (Or.inr (Or.inl rfl))) _⟩
        · have he3 : e = 3 := by rw [← he]; unfold bumpE; rw [if_neg (by rintro ⟨h1, h2, h3, h4, h5⟩; rw [hx] at h5; omega)]
          rw [hN (c := True) he3]
          have HE0 := hid he3
          have HFIN := hid h0
          have HI := hid hi
          clear h0 h1 h2 h3 h4 h5 h6 h7 h9 hN he3 he hx hi
          go_enter Try.func71, Try.ntmps71
          go_wp2_with (go_at_call 85; refine HI.out.mono ?_; rintro e w' ⟨rfl, rfl⟩)
          go_ret
          exact ⟨by rw [HE0.out]; rfl, HFIN.out, Touch.refl _ _⟩
      · have he3 : e = 3 := by rw [← he]; unfold bumpE; rw [if_neg (by rintro ⟨h1, h2, h3, h4, h5⟩; omega)]
        rw [hN (c := True) he3]
        have HE0 := hid he3
        have HFIN := hid h0
        have HI := hid hi
        clear h0 h1 h2 h3 h4 h5 h6 h7 h9 hN he3 he hx hi
        go_enter Try.func71, Try.ntmps71
        go_wp2_with (go_at_call 85; refine HI.out.mono ?_; rintro e w' ⟨rfl, rfl⟩)
        go_ret
        exact ⟨by rw [HE0.out]; rfl, HFIN.out, Touch.refl _ _⟩
    · have he3 : e = 3 := by rw [← he]; unfold bumpE; rw [if_neg (by rintro ⟨h1, h2, h3, h4, h5⟩; omega)]
      rw [hN (c := True) he3]
      have HE0 := hid he3
      have HFIN := hid h0
      have HI := hid hi
      clear h0 h1 h2 h3 h4 h5 h6 h7 h9 hN he3 he hx hi
      go_enter Try.func71, Try.ntmps71
      go_wp2_with (go_at_call 85; refine HI.out.mono ?_; rintro e w' ⟨rfl, rfl⟩)
      go_ret
      exact ⟨by rw [HE0.out]; rfl, HFIN.out, Touch.refl _ _⟩
  · have hi := heap_is b va vi vp A I P v false w (by rw [h5]; simp; omega) h1
    have he3 : e = 3 := by rw [← he]; unfold bumpE; rw [if_neg (by rintro ⟨h1, h2, h3, h4, h5⟩; omega)]
    rw [hN (c := True) he3]
    have HE0 := hid he3
    have HFIN := hid h0
    have HI := hid hi
    clear h0 h1 h2 h3 h4 h5 h6 h7 h9 hN he3 he hx hi
    go_enter Try.func71, Try.ntmps71
    go_wp2_with (go_at_call 85; refine HI.out.mono ?_; rintro e w' ⟨rfl, rfl⟩)
    go_ret
    exact ⟨by rw [HE0.out]; rfl, HFIN.out, Touch.refl _ _⟩

end Go.Proofs.Ytfofabbnbmieoaa.Ord

/- The contract of Pop of a heap. -/
namespace Go.Proofs.Ytfofabbnbmieoaa.Ord
open Go.RowKit

/-- The error that Pop returns. -/
def popE (A : List Int) (In : List Bool) : Int := if popV A In = 0 then 6 else 0
/-- What is in behind it. -/
def popIn (A : List Int) (In : List Bool) : List Bool := if popV A In = 0 then In else In.set (popV A In - 1).toNat false

theorem q_swapZ (b : Nat) (va vi vp : Value) (A I P : List Int) (i j : Nat) (x y : Int) (w : World) (hx : x = i) (hy : y = j) (h : HRep w b va vi vp A I P) (hf : Fits I P) (hi : i < I.length) (hj : j < I.length) (hl : P.length ≤ 4294967296) :
    Calls Try.prog 87 #[.pointer (some ⟨b, 1, none⟩), .int .i64 x, .int .i64 y] w fun e w' => e = .returned (.tuple #[]) ∧ HRep w' b va vi vp A (swp I i j) (swpP I P i j) ∧ Touch (foot b va vi vp) w w' := by
  subst hx; subst hy; exact q_swap b va vi vp A I P i j w h hf hi hj hl

theorem q_downZ (b : Nat) (va vi vp : Value) (A I P : List Int) (i : Nat) (x : Int) (w : World) (hx : x = i) (h : HRep w b va vi vp A I P) (hf : Fits I P) (hu : DownInv A I i) (hi : i < I.length) (hA : A.length = P.length) (hl : P.length ≤ 4294967296) (hIl : I.length ≤ 4294967296) :
    Calls Try.prog 88 #[.pointer (some ⟨b, 1, none⟩), .int .i64 x] w fun e w' => e = .returned (.tuple #[]) ∧ Sifted w' b va vi vp A I.length P.length (inI I) ∧ Touch (foot b va vi vp) w w' := by
  subst hx; exact q_down b va vi vp A I P i w h hf hu hi hA hl hIl

theorem hrep_take {w : World} {b g c n : Nat} {va vp : Value} {A I P : List Int} (h : HRep w b va (.slice (some ⟨g, 0, none⟩) n c) vp A I P) (hn : n = I.length) {k : Nat} (hk : k ≤ I.length) :
    HRep (w.setCell ⟨b, 1, none⟩ (.slice (some ⟨g, 0, none⟩) k c)) b va (.slice (some ⟨g, 0, none⟩) k c) vp A (I.take k) P := by
  have hb := setCell_block (o := 1) (.slice (some ⟨g, 0, none⟩) k c) (xs := [va, .slice (some ⟨g, 0, none⟩) n c, vp, .pointer (some ⟨b, 0, none⟩), fnv]) h.blk
  have fr : ∀ {v : Value} {xs : List Int}, Rw w v xs → Rw (w.setCell ⟨b, 1, none⟩ (.slice (some ⟨g, 0, none⟩) k c)) v xs := fun hr => rw_frame hr fun j hj => heap_setCell_other w ⟨b, 1, none⟩ j _ (fun e => rw_apart hr h.blk (by decide) (by rw [hj]; exact congrArg some e))
  exact ⟨hb, fr h.ra, fr (rw_take h.ri hn hk), fr h.rp, h.ai, h.ap, h.ip⟩

theorem slice_to {P : Program} {t e : TypeId} {a : Option Addr} {n c : Nat} {k : Int} {m : Nat} (hkm : k = m) (ht : P.underlying t = some (.slice e)) (hsz : ∀ wx, (sizeOf e).run P wx = .ok 1 wx) (h1 : m ≤ c) :
    ∀ wx, (Instr.slice t (.slice a n c) none (some (.int .i64 k)) none).run P wx = .ok (.slice a m c) wx := by
  subst hkm
  intro wx
  have he : P.elem t = e := by simp [Program.elem, ht]
  rw [run_slice_h (P := P) wx t a n c (by rw [he]; exact ht) .i64 m (by omega) (by omega), he, hsz]
  cases a <;> simp [sliced, Result.andThen, Addr.add]

theorem rw_form2 {w : World} {v : Value} {xs : List Int} (h : Rw w v xs) (hn : 0 < xs.length) : ∃ g c, v = .slice (some ⟨g, 0, none⟩) xs.length c ∧ xs.length ≤ c := by
  rcases h.2 with ⟨_, h0⟩ | ⟨g, cap, cur, h1, _, _, hle, _⟩
  · omega
  · exact ⟨g, cap, h1, hle⟩

set_option maxRecDepth 100000 in
set_option maxHeartbeats 4000000 in
theorem heap_Pop (b : Nat) (S : Nat → Prop) (A : List Int) (In : List Bool) (v e : Int) (w : World) (hv : popV A In = v) (he : popE A In = e) (h : Heap w b S A In) :
    Calls Try.prog 74 #[.pointer (some ⟨b, 0, none⟩)] w fun x w' => x = .returned (.tuple #[.int .i64 v, .int .i64 e]) ∧ Heap w' b S A (popIn A In) ∧ Touch S w w' := by
  have h0 := h
  obtain ⟨va, vi, vp, I, P, h1, h2, h3, h4, h5, h6, h7, h8, h9⟩ := h
  have hil := fits_len h3 h4 h6
  obtain ⟨-, hc1, -, -, -⟩ := hrep_cells h1
  by_cases hI : I.length = 0
  · have hv0 : v = 0 := by rw [← hv]; exact pop_empty h6 hI
    have he0 : e = 6 := by rw [← he]; unfold popE; rw [hv, hv0]; rfl
    have hin : popIn A In = In := by unfold popIn; rw [hv, hv0]; rfl
    rw [hin]
    obtain ⟨ai, ci, hvi, -⟩ := rw_shape h1.ri
    rw [hI] at hvi
    rw [hvi] at hc1
    have HV0 := hid hv0
    have HE0 := hid he0
    have HF := hid h0
    clear h0 h1 h2 h3 h4 h5 h6 h7 h9 hv he hv0 he0 hin hvi hil hI
    go_enter Try.func74, Try.ntmps74
    go_wp2_with fail
    go_ret2
    exact ⟨by rw [HV0.out, HE0.out]; rfl, HF.out, Touch.refl _ _⟩
  · obtain ⟨m, hm⟩ : ∃ m, I.length = m + 1 := ⟨I.length - 1, by omega⟩
    have hvv : v = at' I 0 := by rw [← hv]; exact pop_best h3 h2 h4 h6 (by omega)
    have b0 := h3.2.1 0 (by omega)
    rw [← hvv] at b0
    have he0 : e = 0 := by rw [← he]; unfold popE; rw [hv, if_neg (by omega)]
    have hin : popIn A In = In.set (v - 1).toNat false := by unfold popIn; rw [hv, if_neg (by omega)]
    rw [hin]
    obtain ⟨gi, ci, rfl, hic⟩ := rw_form2 h1.ri (by omega)
    obtain ⟨gp, cp, rfl⟩ := rw_form h1.rp (by omega)
    have hml : ((I.length : Nat) : Int) - 1 = (m : Int) := by omega
    have hmI : I.length - 1 = m := by omega
    have hpf : Fits (popI I) ((swpP I P 0 m).set v.toNat (-1)) := by
      have hpf0 := pop_fits h3 (by omega)
      rw [hmI, ← hvv] at hpf0
      unfold swpP
      rw [← hvv]; exact hpf0
    have hpd := pop_down h2
    have hri := rel_pop h3 h6 (by omega)
    rw [← hvv] at hri
    have hpl := popI_length I
    rw [hmI] at hpl
    have hpI : popI I = (swp I 0 m).take m := by unfold popI; rw [hmI]
    have hPI := hid hpI
    have HVV := hid hvv
    have HE0 := hid he0
    have H1 := hid h1
    have H3 := hid h3
    have HPF := hid hpf
    have HPD := hid hpd
    have HRI := hid hri
    have H7 := hid h7
    have H9 := hid h9
    have HP4 := hid h4
    have HA5 := hid h5
    have HPL := hid hpl
    have hM := hid hm
    have hmc : m < ci := by omega
    have hm20 : m ≤ 1048576 := by omega
    have hPb : P.length ≤ 1048577 := by omega
    clear h0 h1 h2 h3 h4 h5 h6 h7 h9 hv he hvv he0 hin hpf hpd hri hpl hpI hmI hm hil hI
    go_enter Try.func74, Try.ntmps74
    go_wp2_with fail
    refine (q_swapZ b _ _ _ A I P 0 m _ _ w rfl rfl H1.out H3.out (by have := hM.out; omega) (by have := hM.out; omega) (by omega)).mono ?_
    rintro e1 w1 ⟨rfl, k1, t1⟩
    have K1 := hid k1
    have T1 := hid t1
    obtain ⟨-, d1, d2, -, -⟩ := hrep_cells k1
    have hsl : I.length = (swp I 0 m).length := (swp_length I 0 m).symm
    have hcm := rw_val k1.ri hsl (k := m) (by rw [swp_length]; have := hM.out; omega)
    have hat : at' (swp I 0 m) m = v := by
      rw [at'_swp (by have := hM.out; omega) (by have := hM.out; omega), HVV.out]
      by_cases h0 : m = 0
      · rw [if_pos h0, h0]
      · rw [if_neg h0, if_pos rfl]
    rw [hat] at hcm
    have hPl : P.length = (swpP I P 0 m).length := (swpP_length I P 0 m).symm
    have hcv := rw_val k1.rp hPl (k := v.toNat) (by rw [swpP_length]; omega)
    have hfv := rw_free k1.rp hPl v.toNat
    have hfb := hrep_free k1 1
    have hrun := slice_to (P := Try.prog) (t := 22) (e := 3) (a := some ⟨gi, 0, none⟩) (n := I.length) (c := ci) (k := (m : Int)) (m := m) rfl Try.underlying22 sizeOf_int (by omega)
    have n1 : ¬ b = gp := fun e => rw_apart k1.rp k1.blk (by decide) (by rw [e]; rfl)
    have n2 : ¬ gp = b := fun e => n1 e.symm
    have b0' : 0 ≤ v := by omega
    have bm : (m : Int) < I.length := by have := hM.out; omega
    clear k1 t1 hsl hat hPl
    have hpush : Hid (HRep (((w1.setCell ⟨b, 1, none⟩ (.slice (some ⟨gi, 0, none⟩) m ci)).setCell ⟨gp, v.toNat, none⟩ (.int .i64 (-1))).drew) b va (.slice (some ⟨gi, 0, none⟩) m ci) (.slice (some ⟨gp, 0, none⟩) P.length cp) A (popI I) ((swpP I P 0 m).set v.toNat (-1))) := by
      have k2 := hrep_take K1.out (swp_length I 0 m).symm (k := m) (by rw [swp_length]; have := hM.out; omega)
      rw [← hPI.out] at k2
      exact hrep_drew (hrep_setP k2 (swpP_length I P 0 m).symm v.toNat (-1))
    have htou : Hid (Touch S w (((w1.setCell ⟨b, 1, none⟩ (.slice (some ⟨gi, 0, none⟩) m ci)).setCell ⟨gp, v.toNat, none⟩ (.int .i64 (-1))).drew)) := by
      exact ((T1.out.mono fun k _ hk => H7.out k hk).setCell (H7.out b (Or.inl rfl)) _).setCell (H7.out gp (Or.inr (Or.inr (Or.inr rfl)))) _ |>.drew
    have hfoot : Hid (∀ k, foot b va (.slice (some ⟨gi, 0, none⟩) m ci) (.slice (some ⟨gp, 0, none⟩) P.length cp) k → S k) := fun k hk => H7.out k hk
    rcases Nat.eq_zero_or_pos m with hm0 | hm0
    · have hd : ¬ 0 < m := by omega
      have HM0 := hid hm0
      clear hm0
      go_wp2_with fail
      go_region
      all_goals
        go_wp2_with fail
        go_ret2
        refine ⟨by rw [HE0.out]; rfl, ⟨_, _, _, popI I, _, hpush.out, fun j j1 j2 => by have := HPL.out; have := HM0.out; omega, HPF.out, ?_, ?_, HRI.out, hfoot.out, by rw [List.length_set]; exact h8, H9.out⟩, htou.out⟩
        · simp only [List.length_set, swpP_length]; exact HP4.out
        · rw [List.length_set]; exact HA5.out
    · go_wp2_with fail
      go_region
      all_goals
        go_wp2_with fail
        refine (q_downZ b _ _ _ A (popI I) _ 0 _ _ rfl hpush.out HPF.out HPD.out (by have := HPL.out; omega) (by simp only [List.length_set, swpP_length]; have := HP4.out; have := HA5.out; omega) (by simp only [List.length_set, swpP_length]; omega) (by have := HPL.out; omega)).mono ?_
        rintro e2 w2 ⟨rfl, hsf, ht⟩
        have HSF := hid hsf
        have HT := hid ht
        clear hsf ht
        go_wp2_with fail
        go_ret2
        obtain ⟨I2, P2, r1, r2, r3, r4, r5, r6⟩ := HSF.out
        refine ⟨by rw [HE0.out]; rfl, ⟨_, _, _, I2, P2, r1, r2, r3, ?_, ?_, rel_congr HRI.out r6, hfoot.out, by rw [List.length_set]; exact h8, H9.out⟩, htou.out.trans (HT.out.mono fun k _ hk => hfoot.out k hk)⟩
        · rw [r5]; simp only [List.length_set, swpP_length]; exact HP4.out
        · rw [List.length_set]; exact HA5.out

end Go.Proofs.Ytfofabbnbmieoaa.Ord

/- The contract of Push of a heap. -/
namespace Go.Proofs.Ytfofabbnbmieoaa.Ord
open Go.RowKit

/-- The error that Push returns. -/
def pushE (n : Nat) (v : Int) : Int := if 1 ≤ v ∧ v ≤ n then 0 else 3
/-- What is in behind it. -/
def pushIn (In : List Bool) (v : Int) : List Bool := if 1 ≤ v ∧ v ≤ In.length then In.set (v - 1).toNat true else In

theorem q_upZ (b : Nat) (va vi vp : Value) (A I P : List Int) (i : Nat) (x : Int) (w : World) (hx : x = i) (h : HRep w b va vi vp A I P) (hf : Fits I P) (hu : UpInv A I i) (hi : i < I.length) (hA : A.length = P.length) (hl : P.length ≤ 4294967296) (hIl : I.length ≤ 4294967296) :
    Calls Try.prog 86 #[.pointer (some ⟨b, 1, none⟩), .int .i64 x] w fun e w' => e = .returned (.tuple #[]) ∧ Sifted w' b va vi vp A I.length P.length (inI I) ∧ Touch (foot b va vi vp) w w' := by
  subst hx; exact q_up b va vi vp A I P i w h hf hu hi hA hl hIl

theorem new_one {w : World} {g : Nat} {u : Value} {e : TypeId} (h : w.heap[g]? = some (.cells #[u] e (0, 0))) : ∀ (j : Nat) (x : Value), [u][j]? = some x → w.cell? ((⟨g, 0, none⟩ : Addr).add j) = some x := by
  intro j x hj
  match j, hj with
  | 0, hj => simp at hj; subst hj; simpa [Addr.add] using fit_cell (vs := [u]) h 0

theorem own_form9 {w : World} {B e n : Nat} {v : Value} {xs : List Value} (h : w.ownsRow B e 1 v n xs) (hn : 0 < n) : ∃ g c, v = .slice (some ⟨g, 0, none⟩) n c := by
  rcases h.2 with ⟨_, h0⟩ | ⟨g, cap, cur, h1, _⟩
  · omega
  · exact ⟨g, cap, h1⟩

/-- A later touch of blocks that are S's, or that are newer. -/
theorem push_blk {w w0 w9 : World} {gp k : Nat} {vi : Value} {x : Int} {o : Obj} (hw : w0.heap = ((w.setCell ⟨gp, k, none⟩ (.int .i64 x)).alloc o).heap)
    (hg : w0.grownBy w9 vi.ownBlock) :
    ∀ j, j < w.heap.size → vi.ownBlock ≠ some j → w9.heap[j]? = (w.setCell ⟨gp, k, none⟩ (.int .i64 x)).heap[j]? := fun j hj hne => by
  rw [hg.block j (by rw [hw, size_al, setCell_size]; omega) (fun e => hne e.symm), hw]
  exact Below.heap_alloc _ _ _ (by rw [setCell_size]; exact hj)

theorem push_rep {w w0 w9 : World} {b gp n c k : Nat} {va vi v9 : Value} {A I P : List Int} {v x : Int} {o : Obj} (h : HRep w b va vi (.slice (some ⟨gp, 0, none⟩) n c) A I P) (hn : n = P.length)
    (hown : w9.ownsRow 0 3 1 v9 (I.length + 1) (ints I ++ [.int .i64 v])) (hw : w0.heap = ((w.setCell ⟨gp, k, none⟩ (.int .i64 x)).alloc o).heap) (hg : w0.grownBy w9 vi.ownBlock)
    (hat : v9.ownBlock = vi.ownBlock ∨ v9.ownBlock = some (w.heap.size + 1)) :
    w9.heap[b]? = some (.cells #[va, vi, .slice (some ⟨gp, 0, none⟩) n c, .pointer (some ⟨b, 0, none⟩), fnv] 111) ∧ HRep (w9.setCell ⟨b, 1, none⟩ v9) b va v9 (.slice (some ⟨gp, 0, none⟩) n c) A (I ++ [v]) (P.set k x) := by
  have hblk := push_blk hw hg
  have hs := hrep_setP h hn k x
  have hbl : b < w.heap.size := (Array.getElem?_eq_some_iff.1 h.blk).1
  have hb9 : w9.heap[b]? = some (.cells #[va, vi, .slice (some ⟨gp, 0, none⟩) n c, .pointer (some ⟨b, 0, none⟩), fnv] 111) := (hblk b hbl (rw_apart h.ri h.blk (by decide))).trans hs.blk
  have hrow : Rw w9 v9 (I ++ [v]) := by
    unfold Rw
    rw [List.length_append, ints_append]; exact hown
  have la := fun j (hj : va.ownBlock = some j) => rw_lt h.ra j hj
  have lp := fun j (hj : (Value.slice (some ⟨gp, 0, none⟩) n c).ownBlock = some j) => rw_lt h.rp j hj
  refine ⟨hb9, ⟨setCell_block (o := 1) v9 (xs := [va, vi, .slice (some ⟨gp, 0, none⟩) n c, .pointer (some ⟨b, 0, none⟩), fnv]) hb9, ?_, ?_, ?_, ?_, h.ap, ?_⟩⟩
  · refine rw_frame hs.ra fun j hj => ?_
    rw [heap_setCell_other w9 ⟨b, 1, none⟩ j _ (fun e => rw_apart h.ra h.blk (by decide) (by rw [hj]; exact congrArg some e))]
    exact hblk j (la j hj) (fun e => h.ai (by rw [hj, e]))
  · exact rw_frame hrow fun j hj => heap_setCell_other w9 ⟨b, 1, none⟩ j _ (fun e => rw_apart hrow hb9 (by decide) (by rw [hj]; exact congrArg some e))
  · refine rw_frame hs.rp fun j hj => ?_
    rw [heap_setCell_other w9 ⟨b, 1, none⟩ j _ (fun e => rw_apart h.rp h.blk (by decide) (by rw [hj]; exact congrArg some e))]
    exact hblk j (lp j hj) (fun e => h.ip (by rw [hj, e]))
  · rcases hat with h1 | h1
    · rw [h1]; exact h.ai
    · rw [h1]; intro e; have := la _ e; omega
  · rcases hat with h1 | h1
    · rw [h1]; exact h.ip
    · rw [h1]; intro e; have := lp _ e.symm; omega

set_option maxRecDepth 100000 in
set_option maxHeartbeats 4000000 in
theorem heap_Push (b : Nat) (S : Nat → Prop) (A : List Int) (In : List Bool) (v e : Int) (w : World) (he : pushE In.length v = e) (h : Heap w b S A In) :
    Calls Try.prog 72 #[.pointer (some ⟨b, 0, none⟩), .int .i64 v] w fun x w' => x = .returned (.int .i64 e) ∧ ∃ S', Heap w' b S' A (pushIn In v) ∧ Touch S w w' ∧ ∀ k, S' k → S k ∨ (w.heap.size ≤ k ∧ k < w'.heap.size) := by
  have h0 := h
  obtain ⟨va, vi, vp, I, P, h1, h2, h3, h4, h5, h6, h7, h8, h9⟩ := h
  have hil := fits_len h3 h4 h6
  by_cases hv : 1 ≤ v ∧ v ≤ In.length
  · have he0 : e = 0 := by rw [← he]; unfold pushE; rw [if_pos hv]
    have hpi : pushIn In v = In.set (v - 1).toNat true := by unfold pushIn; rw [if_pos hv]
    rw [hpi]
    have hi := heap_is b va vi vp A I P v true w (by rw [h5]; simp; omega) h1
    obtain ⟨hc0, hc1, hc2, -, -⟩ := hrep_cells h1
    obtain ⟨gp, cp, rfl⟩ := rw_form h1.rp (by omega)
    have hcp := rw_val h1.rp rfl (k := v.toNat) (by omega)
    have hpl := fits_place h3 (v := v.toNat) (by omega)
    rw [show ((v.toNat : Nat) : Int) = v by omega] at hpl
    have hvP : v < P.length := by omega
    have hv0 : 0 ≤ v := by omega
    have HI := hid hi
    have HE0 := hid he0
    by_cases hin : inI I v
    · have hp0 := hpl.1.2 hin
      obtain ⟨p, hp⟩ : ∃ p, at' P v.toNat = p := ⟨_, rfl⟩
      rw [hp] at hcp hp0
      have hsame : In.set (v - 1).toNat true = In := set_same_true ((h6 v hv.1 hv.2).1 hin)
      rw [hsame]
      have HF := hid h0
      clear h0 h1 h2 h3 h4 h5 h6 h7 h9 hpl hi hin hp he he0 hpi hsame
      go_enter Try.func72, Try.ntmps72
      go_wp2_with (go_at_call 85; refine HI.out.mono ?_; rintro e w' ⟨rfl, rfl⟩)
      go_ret
      exact ⟨by rw [HE0.out]; rfl, S, HF.out, Touch.refl _ _, fun k hk => Or.inl hk⟩
    · have hp0 : ¬ 0 ≤ at' P v.toNat := fun h => hin (hpl.1.1 h)
      obtain ⟨p, hp⟩ : ∃ p, at' P v.toNat = p := ⟨_, rfl⟩
      rw [hp] at hcp hp0
      obtain ⟨ai, ci, hvi, hic, hin0⟩ := rw_shape h1.ri
      have hfv := rw_free h1.rp rfl v.toNat
      have n1 : ¬ b = gp := fun e => rw_apart h1.rp h1.blk (by decide) (by rw [e]; rfl)
      have n2 : ¬ gp = b := fun e => n1 e.symm
      obtain ⟨i0, hi0, hz0, hz1, hz2⟩ := info_parts info_int
      have hup := push_up (v := v) h2
      have hfp := push_fits h3 hv.1 hvP hin
      have hrp := rel_push h6 hv.1 hv.2
      have hs := hrep_setP h1 rfl v.toNat (I.length : Int)
      have hpl2 : at' (P.set v.toNat (I.length : Int)) v.toNat = (I.length : Int) := by rw [at'_set (by omega), if_pos rfl]
      rw [hvi] at hc1
      have H1 := hid h1
      have HS := hid hs
      have HUP := hid hup
      have HFP := hid hfp
      have HRP := hid hrp
      have HVI := hid hvi
      have H1V : Hid (HRep w b va (.slice ai I.length ci) (.slice (some ⟨gp, 0, none⟩) P.length cp) A I P) := hvi ▸ h1
      have H7 := hid h7
      have H9 := hid h9
      have HP4 := hid h4
      have HA5 := hid h5
      have HPL2 := hid hpl2
      have hfb := hrep_free h1 1
      clear h0 h1 h2 h3 h4 h5 h6 h7 h9 hpl hi hin hp he he0 hpi hup hfp hrp hs hvi hin0 hpl2
      go_enter Try.func72, Try.ntmps72
      go_wp2_with (go_at_call 85; refine HI.out.mono ?_; rintro e w' ⟨rfl, rfl⟩)
      go_region
      all_goals
        go_wp2_with (at_builtin; refine wpList_append_own_at _ rfl _ _ 22 rfl 0 3 i0 (.int .i64 0) 1 8 Try.underlying22 hi0 hz0 hz1 hz2 rfl (by decide) _ _ _ rfl (by rw [← HVI.out]; exact World.ownsRow.drew (HS.out.ri.alloc _)) ⟨w.heap.size, 0, none⟩ 1 1 [.int .i64 v] rfl rfl ?c1 one_int (by unfold maxLen; omega) (by omega) (Nat.zero_le _) ?_)
        case c1 => exact new_one (by show ((w.setCell _ _).alloc _).heap[_]? = _; rw [← setCell_size w ⟨gp, v.toNat, none⟩ (.int .i64 (I.length : Int))]; exact heap_alloc_new _ _)
        intro v9 w9 ho9 hg9 _ hat
        obtain ⟨hb9, hr9⟩ := push_rep H1V.out rfl ho9 (by rfl) hg9 hat
        have HAT := hid hat
        obtain ⟨g9, c9, rfl⟩ := own_form9 ho9 (by omega)
        have r1 : w9.cell? ⟨b, 1, none⟩ = some (.slice ai I.length ci) := fit_cell (vs := [va, .slice ai I.length ci, .slice (some ⟨gp, 0, none⟩) P.length cp, .pointer (some ⟨b, 0, none⟩), fnv]) hb9 1
        have r2 : w9.frozen? ⟨b, 1, none⟩ = false := frozen_of_row _ _ _ _ _ hb9
        obtain ⟨-, -, r3, -, -⟩ := hrep_cells hr9
        have r4 := rw_val hr9.rp (show P.length = (P.set v.toNat (I.length : Int)).length by simp) (k := v.toNat) (by simp; omega)
        rw [HPL2.out] at r4
        have HR9 := hid hr9
        have HT9 : Hid (Touch S w w9) := (((Touch.refl S w).setCell (p := ⟨gp, v.toNat, none⟩) (H7.out gp (Or.inr (Or.inr (Or.inr rfl)))) _).alloc _).drew.grown hg9 (fun k hk => Or.inl (H7.out k (Or.inr (Or.inr (Or.inl (by rw [HVI.out]; exact hk))))))
        have hsz9 : w.heap.size + 1 ≤ w9.heap.size := by have := hg9.size; rw [heap_drew, size_al, setCell_size] at this; omega
        have hlt9 : g9 < w9.heap.size := (ho9.lt g9 rfl).2
        clear ho9 hg9 hat hb9 hr9 hc0 hc1 hc2 hcp hfv hfb
        go_wp2_with fail
        go_region_with (go_at_call 86; refine (q_upZ b va _ _ A (I ++ [v]) (P.set v.toNat (I.length : Int)) I.length _ _ rfl (hrep_drew HR9.out) HFP.out HUP.out (by simp) (by rw [List.length_set]; have := HP4.out; have := HA5.out; omega) (by rw [List.length_set]; have := HP4.out; omega) (by rw [List.length_append]; simp; omega)).mono ?_; rintro e2 w2 ⟨rfl, hsf, ht⟩)
        all_goals
          have HSF := hid hsf
          have HT := hid ht
          clear hsf ht
          go_wp2_with fail
          go_ret
          obtain ⟨I2, P2, q1, q2, q3, q4, q5, q6⟩ := HSF.out
          have hz2 : w9.heap.size ≤ w2.heap.size := by have := HT.out.size; rw [heap_drew, setCell_size] at this; exact this
          have hfoot : ∀ k, foot b va (.slice (some ⟨g9, 0, none⟩) (I.length + 1) c9) (.slice (some ⟨gp, 0, none⟩) P.length cp) k → S k ∨ (w.heap.size ≤ k ∧ k < w2.heap.size) := by
            rintro k (rfl | hk | hk | hk)
            · exact Or.inl (H7.out k (Or.inl rfl))
            · exact Or.inl (H7.out k (Or.inr (Or.inl hk)))
            · rcases HAT.out with h' | h'
              · exact Or.inl (H7.out k (Or.inr (Or.inr (Or.inl (by rw [HVI.out, ← h']; exact hk)))))
              · simp only [Value.ownBlock, Option.some.injEq] at h' hk
                exact Or.inr ⟨by omega, by omega⟩
            · exact Or.inl (H7.out k (Or.inr (Or.inr (Or.inr hk))))
          refine ⟨by rw [HE0.out]; rfl, _, ⟨_, _, _, I2, P2, q1, q2, q3, ?_, ?_, rel_congr HRP.out q6, hfoot, by rw [List.length_set]; exact h8, H9.out⟩, ?_, fun k hk => hk⟩
          · rw [q5]; simp only [List.length_set]; exact HP4.out
          · rw [List.length_set]; exact HA5.out
          · refine (HT9.out.setCell (p := ⟨b, 1, none⟩) (H7.out b (Or.inl rfl)) _).drew.trans' HT.out fun k hk1 hk2 => ?_
            rcases hfoot k hk2 with h' | h'
            · exact h'
            · omega
  · have he0 : e = 3 := by rw [← he]; unfold pushE; rw [if_neg hv]
    have hpi : pushIn In v = In := by unfold pushIn; rw [if_neg hv]
    rw [hpi]
    have hi := heap_is b va vi vp A I P v false w (by rw [h5]; simp; omega) h1
    have HI := hid hi
    have HE0 := hid he0
    have HF := hid h0
    clear h0 h1 h2 h3 h4 h5 h6 h7 h9 hi he he0 hpi
    go_enter Try.func72, Try.ntmps72
    go_wp2_with (go_at_call 85; refine HI.out.mono ?_; rintro e w' ⟨rfl, rfl⟩)
    go_ret
    exact ⟨by rw [HE0.out]; rfl, S, HF.out, Touch.refl _ _, fun k hk => Or.inl hk⟩

end Go.Proofs.Ytfofabbnbmieoaa.Ord

/- The contract of New of a heap. -/
namespace Go.Proofs.Ytfofabbnbmieoaa.Ord
open Go.RowKit

theorem madeInts (n : Nat) : (madeCells (Value.int .i64 0).cells (n * 1)).toList = ints (List.replicate n 0) := by
  simp only [madeCells, Value.cells, Nat.mul_one, Array.toList_map, Array.toList_range, ints]
  refine List.ext_getElem? fun i => ?_
  by_cases hi : i < n
  · simp [hi, Nat.mod_one]
  · simp [hi]

/-- The items as the loop has them. -/
def mkI (n k : Nat) : List Int := (List.range n).map fun (i : Nat) => if i < k then (i : Int) + 1 else 0
/-- The places as the loop has them. -/
def mkP (n k : Nat) : List Int := -1 :: (List.range n).map fun (i : Nat) => if i < k then (i : Int) else 0

theorem mkI_length (n k : Nat) : (mkI n k).length = n := by simp [mkI]
theorem mkP_length (n k : Nat) : (mkP n k).length = n + 1 := by simp [mkP]
theorem mkI_zero (n : Nat) : mkI n 0 = List.replicate n 0 := by
  refine List.ext_getElem (by simp [mkI]) fun i h1 h2 => by simp [mkI]
theorem mkP_zero (n : Nat) : (List.replicate (n + 1) (0 : Int)).set 0 (-1) = mkP n 0 := by
  rw [List.replicate_succ, List.set_cons_zero]
  unfold mkP
  congr 1
  refine List.ext_getElem (by simp) fun i h1 h2 => by simp
theorem mkI_done (n : Nat) : mkI n n = newI n := by
  refine List.ext_getElem (by simp [mkI, newI]) fun i h1 h2 => ?_
  rw [mkI_length] at h1
  simp [mkI, newI, h1]
theorem mkP_done (n : Nat) : mkP n n = newP n := by
  unfold mkP newP
  congr 1
  refine List.ext_getElem (by simp) fun i h1 h2 => ?_
  have : i < n := by simpa using h1
  simp [this]
theorem mkI_step (n k : Nat) : (mkI n k).set k ((k : Int) + 1) = mkI n (k + 1) := by
  refine List.ext_getElem (by simp [mkI]) fun i h1 h2 => ?_
  rw [List.getElem_set]
  by_cases he : k = i
  · subst he; simp [mkI]
  · rw [if_neg he]
    by_cases h : i < k
    · have h' : i < k + 1 := by omega
      simp [mkI, h, h']
    · have h' : ¬ i < k + 1 := by omega
      simp [mkI, h, h']
theorem mkP_step (n k : Nat) : (mkP n k).set (k + 1) (k : Int) = mkP n (k + 1) := by
  unfold mkP
  rw [List.set_cons_succ]
  congr 1
  refine List.ext_getElem (by simp) fun i h1 h2 => ?_
  rw [List.getElem_set]
  by_cases he : k = i
  · subst he; simp
  · rw [if_neg he]
    by_cases h : i < k
    · have h' : i < k + 1 := by omega
      simp [h, h']
    · have h' : ¬ i < k + 1 := by omega
      simp [h, h']

theorem rw_made {w : World} {g n : Nat} (h : w.heap[g]? = some (.cells (madeCells #[.int .i64 0] n) 3 (0, 0))) (hn : n ≤ 1048577) : Rw w (.slice (some ⟨g, 0, none⟩) n n) (List.replicate n 0) := by
  have e := madeInts n
  simp only [Value.cells, Nat.mul_one] at e
  unfold Rw
  rw [List.length_replicate]
  have hs : (madeCells #[Value.int .i64 0] n).size = n := by
    have := congrArg List.length e
    simp [ints] at this
    exact this
  refine ⟨by simp [ints], Or.inr ⟨g, n, _, rfl, Nat.zero_le _, h, Nat.le_refl _, by unfold maxLen; omega, by rw [hs, Nat.mul_one], ?_⟩⟩
  rw [← e, Nat.mul_one]
  exact List.take_of_length_le (by simp [hs])

theorem made3 (w3 : World) (a b c : Obj) (w5 : World) (h : w5 = (((w3.alloc a).alloc b).alloc c).drew) :
    (∀ k, k < w3.heap.size → w5.heap[k]? = w3.heap[k]?) ∧ w5.heap.size = w3.heap.size + 3 ∧ w5.heap[w3.heap.size]? = some a ∧ w5.heap[w3.heap.size + 1]? = some b ∧ w5.heap[w3.heap.size + 1 + 1]? = some c := by
  subst h
  have e1 : (((w3.alloc a).alloc b).alloc c).drew.heap = ((w3.heap.push a).push b).push c := rfl
  rw [e1]
  refine ⟨fun k hk => ?_, by simp, ?_, ?_, ?_⟩
  · simp [Array.getElem?_push]
    have : k ≠ w3.heap.size + 1 + 1 := by omega
    have : k ≠ w3.heap.size + 1 := by omega
    have : k ≠ w3.heap.size := by omega
    simp [*]
  · simp [Array.getElem?_push]; omega
  · rw [Array.getElem?_push, if_neg (by simp), Array.getElem?_push, if_pos (by simp)]
  · rw [Array.getElem?_push, if_pos (by simp)]

theorem made_rep {w w3 w5 : World} {n gi gp : Nat} (hO : w3.ownsRow w.heap.size 3 1 (.slice (some ⟨w.heap.size, 0, none⟩) (n + 1) (n + 1)) (n + 1) (madeCells (Value.int .i64 0).cells ((n + 1) * 1)).toList) (hn : n ≤ 1048576) (hG : w.grownBy w3 none)
    (hgp : gp ≠ gi) (hgi1 : w3.heap.size < gi) (hgp1 : w3.heap.size < gp) (hlt : gi < w3.heap.size + 3 ∧ gp < w3.heap.size + 3)
    (h0 : ∀ k, k < w3.heap.size → w5.heap[k]? = w3.heap[k]?) (hz : w5.heap.size = w3.heap.size + 3) (hos : w5.os = w3.os) (htp : w5.tape = w3.tape) (hou : w5.output = w3.output)
    (h1 : w5.heap[w3.heap.size]? = some (.cells #[.slice (some ⟨w.heap.size, 0, none⟩) (n + 1) (n + 1), .slice (some ⟨gi, 0, none⟩) n n, .slice (some ⟨gp, 0, none⟩) (n + 1) (n + 1), .pointer (some ⟨w3.heap.size, 0, none⟩), fnv] 111))
    (h2 : w5.heap[gi]? = some (.cells (madeCells #[.int .i64 0] n) 3)) (h3 : w5.heap[gp]? = some (.cells (madeCells #[.int .i64 0] (n + 1)) 3)) :
    HRep w5 w3.heap.size (.slice (some ⟨w.heap.size, 0, none⟩) (n + 1) (n + 1)) (.slice (some ⟨gi, 0, none⟩) n n) (.slice (some ⟨gp, 0, none⟩) (n + 1) (n + 1)) (List.replicate (n + 1) 0) (List.replicate n 0) (List.replicate (n + 1) 0) ∧
      Below w.heap.size w w5 ∧ (w.heap.size ≤ w3.heap.size ∧ w3.heap.size < gi ∧ w3.heap.size < gp ∧ gi < w5.heap.size ∧ gp < w5.heap.size) := by
  have hlt3 : w.heap.size < w3.heap.size := (hO.lt _ rfl).2
  have hOr : Rw w3 (.slice (some ⟨w.heap.size, 0, none⟩) (n + 1) (n + 1)) (List.replicate (n + 1) 0) := by
    rw [madeInts] at hO
    unfold Rw
    rw [List.length_replicate]
    exact ⟨hO.1, hO.2.imp_right fun ⟨g, cap, cur, e1, _, e3⟩ => ⟨g, cap, cur, e1, Nat.zero_le _, e3⟩⟩
  refine ⟨⟨h1, rw_frame hOr fun k hk => ?_, rw_made h2 (by omega), rw_made h3 (by omega), ?_, ?_, ?_⟩, ?_, hG.size, hgi1, hgp1, by omega, by omega⟩
  · simp only [Value.ownBlock, Option.some.injEq] at hk
    exact h0 k (by omega)
  · simp [Value.ownBlock]; omega
  · simp [Value.ownBlock]; omega
  · simp [Value.ownBlock]; omega
  · refine ⟨hos.trans hG.os, htp.trans hG.tape, hou.trans hG.output, by have := hG.size; omega, fun k hk => (h0 k (by have := hG.size; omega)).trans (hG.block k hk (by simp))⟩

set_option maxRecDepth 100000 in
set_option maxHeartbeats 4000000 in
theorem order_New (n : Nat) (w : World) (hn : n ≤ 1048576) :
    Calls Try.prog 48 #[.int .i64 n] w fun e w' => ∃ b S, e = .returned (.tuple #[.pointer (some ⟨b, 0, none⟩), .int .i64 0]) ∧ Heap w' b S (List.replicate (n + 1) 0) (List.replicate n true) ∧ Below w.heap.size w w' ∧ ∀ k, S k → w.heap.size ≤ k ∧ k < w'.heap.size := by
  obtain ⟨i0, hi0, hz0, hz1, hz2⟩ := info_parts info_int
  have e1 : (n : Int) + 1 = ((n + 1 : Nat) : Int) := by omega
  have hnb : (n : Int) ≤ 1048576 := by omega
  have hnc : (0 : Int) ≤ (n : Int) := by omega
  have hwr : IntKind.i64.wrap ((n : Int) + 1) = (n : Int) + 1 := by simp [IntKind.wrap, IntKind.signed, IntKind.bits]; omega
  have hm1 : ∀ w : World, (Instr.makeSlice 22 (.int .i64 (n : Int)) (.int .i64 (n : Int))).run Try.prog w = .ok (.slice (some ⟨w.heap.size, 0, none⟩) n n) (w.alloc (.cells (madeCells #[.int .i64 0] n) 3)) := fun w => run_make_row' _ _ _ 8 Try.underlying22 info_int rfl .i64 .i64 n (by omega) (by omega) w
  have hm2 : ∀ w : World, (Instr.makeSlice 22 (.int .i64 ((n : Int) + 1)) (.int .i64 ((n : Int) + 1))).run Try.prog w = .ok (.slice (some ⟨w.heap.size, 0, none⟩) (n + 1 : Nat) (n + 1 : Nat)) (w.alloc (.cells (madeCells #[.int .i64 0] (n + 1)) 3)) := fun w => by rw [e1]; exact run_make_row' _ _ _ 8 Try.underlying22 info_int rfl .i64 .i64 (n + 1) (by omega) (by omega) w
  have hst := fun (a : Addr) (w : World) => run_store Try.prog w a (.func (.func 67) #[] #[]) .plain rfl
  have E1 := hid e1
  clear e1
  go_enter Try.func48, Try.ntmps48
  go_wp2_with (at_make; refine wpList_make_full _ rfl _ _ 22 rfl w.heap.size 3 i0 (.int .i64 0) 1 Try.underlying22 hi0 hz0 hz1 _ _ _ _ (n + 1) rfl rfl (by first | rfl | exact E1 | omega) (by first | rfl | exact E1 | omega) (by rw [hz2]; omega) (by unfold maxLen; omega) (Nat.le_refl _) ?_; intro w3 hown3 hgrow3; have HO3 := hid hown3; have HG3 := hid hgrow3; clear hown3 hgrow3)
  go_cut [] (fun wx => ∃ gi gp : Nat, Hid (HRep wx w3.heap.size (.slice (some ⟨w.heap.size, 0, none⟩) (n + 1) (n + 1)) (.slice (some ⟨gi, 0, none⟩) n n) (.slice (some ⟨gp, 0, none⟩) (n + 1) (n + 1)) (List.replicate (n + 1) 0) (List.replicate n 0) (List.replicate (n + 1) 0) ∧
      Below w.heap.size w wx ∧ (w.heap.size ≤ w3.heap.size ∧ w3.heap.size < gi ∧ w3.heap.size < gp ∧ gi < wx.heap.size ∧ gp < wx.heap.size)))
  case first =>
    go_region
    all_goals
      go_wp2_with fail
      go_meet
      case rel =>
        obtain ⟨m1, m2, m3, m4, m5⟩ := made3 w3 _ _ _ _ rfl
        first
        | exact ⟨w3.heap.size + 1 + 1, w3.heap.size + 1, made_rep HO3.out hn HG3.out (by omega) (by omega) (by omega) (by omega) m1 m2 rfl rfl rfl m3 m5 m4⟩
        | exact ⟨w3.heap.size + 1, w3.heap.size + 1 + 1, made_rep HO3.out hn HG3.out (by omega) (by omega) (by omega) (by omega) m1 m2 rfl rfl rfl m3 m4 m5⟩
  case rest =>
    obtain ⟨gi, gp, H⟩ := hcut
    obtain ⟨h5, hb5, hsz⟩ := H.out
    obtain ⟨k1, k2, k3, k4, k5⟩ := hsz
    obtain ⟨-, hc1, hc2, -, -⟩ := hrep_cells h5
    have hp0 := rw_val h5.rp (n := n + 1) (by simp) (k := 0) (by simp)
    have hf0 := rw_free h5.rp (n := n + 1) (by simp) 0
    have n1 : ¬ gp = w3.heap.size := by omega
    have hp6 := hrep_setP h5 (n := n + 1) (by simp) 0 (-1)
    rw [mkP_zero] at hp6
    have H6 := hid hp6
    have HB5 := hid hb5
    clear h5 hb5 H hp6
    go_wp2_with fail
    go_loopw [34] (fun s34 wr => ∃ k : Nat, s34 = .int .i64 k ∧ k ≤ n ∧ Hid (HRep wr w3.heap.size (.slice (some ⟨w.heap.size, 0, none⟩) (n + 1) (n + 1)) (.slice (some ⟨gi, 0, none⟩) n n) (.slice (some ⟨gp, 0, none⟩) (n + 1) (n + 1)) (List.replicate (n + 1) 0) (mkI n k) (mkP n k)) ∧ Hid (Below w.heap.size w wr ∧ gi < wr.heap.size ∧ gp < wr.heap.size)) (fun s34 _ => (n - (intOf s34)).toNat)
    case atStart => exact ⟨0, rfl, by omega, by rw [mkI_zero]; exact H6, ⟨HB5.out.setCell (p := ⟨gp, 0, none⟩) (by show w.heap.size ≤ gp; omega) _, by rw [setCell_size]; exact k4, by rw [setCell_size]; exact k5⟩⟩
    case round =>
      clear H6 HB5 hc1 hc2 hp0 hf0 k4 k5
      obtain ⟨k, rfl, hk, hh, hbw⟩ := hrel
      by_cases hkn : k < n
      · have hd : decide ((k : Int) < n) = true := by simp; omega
        have q1 : (0 : Int) ≤ k := by omega
        have q2 : (k : Int) < n := by omega
        have q3 : (k : Int) + 1 < n + 1 := by omega
        have hwk : IntKind.i64.wrap ((k : Int) + 1) = (k : Int) + 1 := IntWalk.i64_in _ (by omega)
        obtain ⟨-, hc1, hc2, -, -⟩ := hrep_cells hh.out
        have hci := rw_val hh.out.ri (n := n) (mkI_length n k).symm (k := k) (by rw [mkI_length]; exact hkn)
        have hcp := rw_val hh.out.rp (n := n + 1) (mkP_length n k).symm (k := k + 1) (by rw [mkP_length]; omega)
        have hfi := rw_free hh.out.ri (n := n) (mkI_length n k).symm k
        have hfp := rw_free hh.out.rp (n := n + 1) (mkP_length n k).symm (k + 1)
        have n2 : ¬ gi = gp := fun e => hh.out.ip (by rw [e]; rfl)
        have n3 : ¬ gp = gi := fun e => n2 e.symm
        have n4 : ¬ gi = w3.heap.size := by omega
        go_wp2_with fail
        go_region
        all_goals
          go_wp2_with fail
          go_roundw
          case rel =>
            have hr2 := hrep_drew (hrep_setP (hrep_setI hh.out (n := n) (mkI_length n k).symm k ((k : Int) + 1)) (n := n + 1) (mkP_length n k).symm (k + 1) (k : Int))
            rw [mkI_step, mkP_step] at hr2
            refine ⟨k + 1, by simp, hkn, ?_, ?_⟩
            · exact hr2
            · exact ⟨((hbw.out.1.setCell (p := ⟨gi, k, none⟩) (by show w.heap.size ≤ gi; omega) _).setCell (p := ⟨gp, k + 1, none⟩) (by show w.heap.size ≤ gp; omega) _).drew, by rw [heap_drew, setCell_size, setCell_size]; exact hbw.out.2⟩
          case measure => simp [intOf]; omega
      · have hd : decide ((k : Int) < n) = false := by simp; omega
        have hkn2 : k = n := by omega
        subst hkn2
        go_wp2_with fail
        refine bodyPost_ret (v := .tuple #[.pointer (some ⟨w3.heap.size, 0, none⟩), .int .i64 0]) (by simp [results, Try.results48, go_sem]) rfl ?_
        have hr3 := hh.out
        rw [mkI_done, mkP_done] at hr3
        obtain ⟨hb8, hs1, hs2⟩ := hbw.out
        refine ⟨w3.heap.size, foot w3.heap.size (.slice (some ⟨w.heap.size, 0, none⟩) (k + 1) (k + 1)) (.slice (some ⟨gi, 0, none⟩) k k) (.slice (some ⟨gp, 0, none⟩) (k + 1) (k + 1)), rfl, ⟨_, _, _, _, _, hr3, new_ord k (k + 1), new_fits k, by rw [newP_length, List.length_replicate], by simp, rel_new k, fun j hj => hj, by simp; omega, fun a ha => ?_⟩, hb8, ?_⟩
        · rw [List.mem_replicate] at ha
          obtain ⟨-, rfl⟩ := ha
          omega
        · rintro j (rfl | hj | hj | hj)
          · omega
          all_goals
            simp only [Value.ownBlock, Option.some.injEq] at hj
            omega

end Go.Proofs.Ytfofabbnbmieoaa.Ord

/- Heaps of a call's own; the contract of weepholelaw06.known. -/
namespace Go.Proofs.Ytfofabbnbmieoaa.Ord
open Go.RowKit

/-- A heap that was made behind the world w0, in blocks from B on. -/
structure HB (B : Nat) (w0 w : World) (b : Nat) (S : Nat → Prop) (A : List Int) (In : List Bool) : Prop where
  heap : Heap w b S A In
  bel : Below B w0 w
  le : B ≤ w.heap.size
  at' : ∀ k, S k → B ≤ k ∧ k < w.heap.size

end Go.Proofs.Ytfofabbnbmieoaa.Ord
