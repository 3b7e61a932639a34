/- What New, Push, Pop and Bump make of a heap's lists: plain. -/
import Derived.Test.YtfhpjaabcegefaaPHeap
namespace Go.Proofs.Ytfhpjaabcegefaa

theorem at'_append_left {I J : List Int} {k : Nat} (h : k < I.length) : at' (I ++ J) k = at' I k := by
  unfold at'; rw [List.getD_eq_getElem?_getD, List.getD_eq_getElem?_getD, List.getElem?_append_left h]
theorem at'_snoc (I : List Int) (x : Int) : at' (I ++ [x]) I.length = x := by simp [at']
theorem at'_take {I : List Int} {m k : Nat} (h : k < m) : at' (I.take m) k = at' I k := by
  unfold at'; rw [List.getD_eq_getElem?_getD, List.getD_eq_getElem?_getD, List.getElem?_take, if_pos h]

theorem push_fits {I P : List Int} {v : Int} (h : Fits I P) (h1 : 1 ≤ v) (h2 : v < P.length) (hn : ¬ inI I v) : Fits (I ++ [v]) (P.set v.toNat I.length) := by
  have lv : v.toNat < P.length := by omega
  refine ⟨fun k hk => ?_, fun k hk => ?_, fun u hu hk => ?_⟩
  · simp only [List.length_append, List.length_singleton] at hk
    rcases Nat.lt_or_ge k I.length with hlt | hge
    · rw [at'_append_left hlt, at'_set lv, if_neg]
      · exact h.1 k hlt
      · intro e
        have := h.2.1 k hlt
        exact hn ⟨k, hlt, by omega⟩
    · have : k = I.length := by omega
      subst this
      rw [at'_snoc, at'_set lv, if_pos rfl]
  · simp only [List.length_append, List.length_singleton] at hk
    simp only [List.length_set]
    rcases Nat.lt_or_ge k I.length with hlt | hge
    · rw [at'_append_left hlt]; exact h.2.1 k hlt
    · have : k = I.length := by omega
      subst this
      rw [at'_snoc]; exact ⟨h1, h2⟩
  · simp only [List.length_set] at hu
    have hv := hk I.length (by simp)
    rw [at'_snoc] at hv
    rw [at'_set lv, if_neg hv]
    refine h.2.2 u hu fun k hkl => ?_
    have := hk k (by simp; omega)
    rwa [at'_append_left hkl] at this

theorem push_up {A I : List Int} {v : Int} (h : HeapOrd A I) : UpInv A (I ++ [v]) I.length := by
  refine ⟨fun j h1 h2 h3 => ?_, fun j h1 h2 h3 _ => ?_⟩
  · simp only [List.length_append, List.length_singleton] at h2
    rw [at'_append_left (by omega), at'_append_left (by omega)]
    exact h j h1 (by omega)
  · simp only [List.length_append, List.length_singleton] at h2
    omega

theorem inI_snoc (I : List Int) (v u : Int) : inI (I ++ [v]) u ↔ inI I u ∨ u = v := by
  constructor
  · rintro ⟨k, hk, he⟩
    simp only [List.length_append, List.length_singleton] at hk
    rcases Nat.lt_or_ge k I.length with hlt | hge
    · rw [at'_append_left hlt] at he; exact Or.inl ⟨k, hlt, he⟩
    · have : k = I.length := by omega
      subst this
      rw [at'_snoc] at he; exact Or.inr he.symm
  · rintro (⟨k, hk, he⟩ | rfl)
    · exact ⟨k, by simp; omega, by rw [at'_append_left hk]; exact he⟩
    · exact ⟨I.length, by simp, at'_snoc I u⟩

/-- The items behind a Pop, before the sift. -/
def popI (I : List Int) : List Int := (swp I 0 (I.length - 1)).take (I.length - 1)

theorem popI_length (I : List Int) : (popI I).length = I.length - 1 := by simp [popI, swp_length]

theorem at'_popI {I : List Int} {k : Nat} (h : k < I.length - 1) : at' (popI I) k = if k = 0 then at' I (I.length - 1) else at' I k := by
  unfold popI
  rw [at'_take h, at'_swp (by omega) (by omega)]
  by_cases h0 : k = 0
  · rw [if_pos h0, if_pos h0]
  · rw [if_neg h0, if_neg h0, if_neg (by omega)]

theorem pop_fits {I P : List Int} (h : Fits I P) (hl : 0 < I.length) : Fits (popI I) (((P.set (at' I (I.length - 1)).toNat (0 : Nat)).set (at' I 0).toNat ((I.length - 1 : Nat) : Int)).set (at' I 0).toNat (-1)) := by
  have hs := fits_swp h hl (show I.length - 1 < I.length by omega)
  have b0 := h.2.1 0 hl
  have l0 : (at' I 0).toNat < ((P.set (at' I (I.length - 1)).toNat (0 : Nat)).set (at' I 0).toNat ((I.length - 1 : Nat) : Int)).length := by simp; omega
  have hlast : at' (swp I 0 (I.length - 1)) (I.length - 1) = at' I 0 := by
    rw [at'_swp hl (by omega)]
    by_cases h0 : I.length - 1 = 0
    · rw [if_pos h0, h0]
    · rw [if_neg h0, if_pos rfl]
  have hpl := popI_length I
  have hat : ∀ k, k < (popI I).length → at' (popI I) k = at' (swp I 0 (I.length - 1)) k := fun k hk => by
    unfold popI; rw [at'_take (by omega)]
  refine ⟨fun k hk => ?_, fun k hk => ?_, fun v hv hn => ?_⟩
  · rw [hat k hk, at'_set l0, if_neg]
    · exact hs.1 k (by rw [swp_length]; omega)
    · intro e
      have bk := hs.2.1 k (by rw [swp_length]; omega)
      have := fits_inj hs (i := k) (j := I.length - 1) (by rw [swp_length]; omega) (by rw [swp_length]; omega) (by rw [hlast]; omega)
      omega
  · rw [hat k hk]
    simp only [List.length_set]
    have := hs.2.1 k (by rw [swp_length]; omega)
    simpa using this
  · rw [at'_set l0]
    split
    · rfl
    · rename_i hne
      refine hs.2.2 v (by simpa using hv) fun k hk => ?_
      rw [swp_length] at hk
      by_cases hkl : k = I.length - 1
      · subst hkl; rw [hlast]; exact hne
      · have := hn k (by omega)
        rwa [hat k (by omega)] at this

theorem pop_down {A I : List Int} (h : HeapOrd A I) : DownInv A (popI I) 0 := by
  have hpl := popI_length I
  refine ⟨fun j h1 h2 h3 => ?_, fun j h1 h2 h3 h4 => by omega⟩
  rw [at'_popI (by omega), at'_popI (by omega), if_neg (by omega), if_neg h3]
  exact h j h1 (by omega)

theorem inI_pop {I P : List Int} (h : Fits I P) (hl : 0 < I.length) (u : Int) : inI (popI I) u ↔ inI I u ∧ u ≠ at' I 0 := by
  have hpl := popI_length I
  constructor
  · rintro ⟨k, hk, he⟩
    rw [at'_popI (by omega)] at he
    by_cases h0 : k = 0
    · rw [if_pos h0] at he
      refine ⟨⟨I.length - 1, by omega, he⟩, fun e => ?_⟩
      have := fits_inj h (i := I.length - 1) (j := 0) (by omega) hl (by rw [he, e])
      omega
    · rw [if_neg h0] at he
      refine ⟨⟨k, by omega, he⟩, fun e => ?_⟩
      have := fits_inj h (i := k) (j := 0) (by omega) hl (by rw [he, e])
      omega
  · rintro ⟨⟨k, hk, he⟩, hne⟩
    have h0 : ¬ k = 0 := fun e => hne (by rw [← he, e])
    by_cases hkl : k = I.length - 1
    · exact ⟨0, by omega, by rw [at'_popI (by omega), if_pos rfl, ← hkl]; exact he⟩
    · exact ⟨k, by omega, by rw [at'_popI (by omega), if_neg h0]; exact he⟩

theorem actv_set {A : List Int} {v u : Int} {x : Int} (hv : v.toNat < A.length) : actv (A.set v.toNat x) u = if v.toNat = u.toNat then x else actv A u := by
  have := @at'_set A v.toNat u.toNat x hv
  exact this

/-- A Bump of a variable of the heap. -/
theorem bump_up {A I P : List Int} {v x : Int} {i : Nat} (hf : Fits I P) (h : HeapOrd A I) (hv : v.toNat < A.length) (hx : actv A v ≤ x) (hi : i < I.length) (he : at' I i = v) : UpInv (A.set v.toNat x) I i := by
  have hpos : ∀ k, k < I.length → 1 ≤ at' I k := fun k hk => (hf.2.1 k hk).1
  have old : ∀ a b, (a ≠ v ∧ 1 ≤ a ∧ 1 ≤ v) → bef A a b = false → bef (A.set v.toNat x) a b = false := fun a b ⟨ha, h1, h2⟩ hb => by
    rw [nbef_iff] at hb ⊢
    rw [actv_set hv, actv_set hv, if_neg (show ¬ v.toNat = a.toNat by omega)]
    split
    · rename_i hvb
      have : actv A b = actv A v := by unfold actv; rw [← hvb]
      have hbv : b = v ∨ b ≤ 0 := by omega
      omega
    · exact hb
  have hv1 : 1 ≤ v := he ▸ hpos i hi
  refine ⟨fun j h1 h2 h3 => ?_, fun j h1 h2 h3 h4 => ?_⟩
  · exact old _ _ ⟨fun e => h3 (fits_inj hf h2 hi (by rw [e, he])), hpos j h2, hv1⟩ (h j h1 h2)
  · have hb := h j h1 h2
    rw [h3] at hb
    have hb2 := h i h4 hi
    exact old _ _ ⟨fun e => by have := fits_inj hf h2 hi (by rw [e, he]); omega, hpos j h2, hv1⟩ (nbef_trans hb hb2)

/-- A Bump of a variable that is not in the heap. -/
theorem bump_out {A I P : List Int} {v x : Int} (hf : Fits I P) (h : HeapOrd A I) (hv : v.toNat < A.length) (h1 : 1 ≤ v) (hn : ¬ inI I v) : HeapOrd (A.set v.toNat x) I := fun j j1 j2 => by
  have hb := h j j1 j2
  have ne : ∀ k, k < I.length → ¬ v.toNat = (at' I k).toNat := fun k hk e => hn ⟨k, hk, by have := (hf.2.1 k hk).1; omega⟩
  rw [nbef_iff] at hb ⊢
  rw [actv_set hv, actv_set hv, if_neg (ne j j2), if_neg (ne ((j - 1) / 2) (by omega))]
  exact hb

/-- The items of a new heap. -/
def newI (n : Nat) : List Int := (List.range n).map fun (k : Nat) => (k : Int) + 1
/-- Its places. -/
def newP (n : Nat) : List Int := -1 :: (List.range n).map fun (k : Nat) => (k : Int)

theorem newI_length (n : Nat) : (newI n).length = n := by simp [newI]
theorem newP_length (n : Nat) : (newP n).length = n + 1 := by simp [newP]
theorem at'_newI {n k : Nat} (h : k < n) : at' (newI n) k = (k : Int) + 1 := by simp [newI, at', h]
theorem at'_newP {n k : Nat} (h : k < n) : at' (newP n) (k + 1) = (k : Int) := by simp [newP, at', h]

theorem new_fits (n : Nat) : Fits (newI n) (newP n) := by
  refine ⟨fun k hk => ?_, fun k hk => ?_, fun v hv hn => ?_⟩
  · rw [newI_length] at hk
    rw [at'_newI hk]
    have : ((k : Int) + 1).toNat = k + 1 := by omega
    rw [this, at'_newP hk]
  · rw [newI_length] at hk
    rw [at'_newI hk, newP_length]; omega
  · rw [newP_length] at hv
    cases v with
    | zero => rfl
    | succ v =>
      have := hn v (by rw [newI_length]; omega)
      rw [at'_newI (by omega)] at this
      omega

theorem actv_replicate (n : Nat) (v : Int) : actv (List.replicate n 0) v = 0 := by
  unfold actv; rw [List.getD_eq_getElem?_getD, List.getElem?_replicate]; split <;> rfl

theorem new_ord (n m : Nat) : HeapOrd (List.replicate m 0) (newI n) := fun j h1 h2 => by
  rw [newI_length] at h2
  rw [nbef_iff, actv_replicate, actv_replicate, at'_newI h2, at'_newI (by omega)]
  omega

theorem inI_new (n : Nat) (v : Int) : inI (newI n) v ↔ 1 ≤ v ∧ v ≤ n := by
  constructor
  · rintro ⟨k, hk, he⟩
    rw [newI_length] at hk
    rw [at'_newI hk] at he; omega
  · rintro ⟨h1, h2⟩
    exact ⟨(v - 1).toNat, by rw [newI_length]; omega, by rw [at'_newI (by omega)]; omega⟩

/-- How many are in the heap. -/
theorem in_count {I P : List Int} (h : Fits I P) {In : List Bool} (hl : P.length = In.length + 1) (hr : ∀ v : Int, 1 ≤ v → v ≤ In.length → (inI I v ↔ In[(v - 1).toNat]? = some true)) : I.length = In.countP id := by
  have hnd : I.Nodup := by
    rw [List.nodup_iff_pairwise_ne, List.pairwise_iff_getElem]
    intro i j hi hj hij e
    have : at' I i = at' I j := by simp [at', hi, hj, e]
    have := fits_inj h hi hj this
    omega
  have hp : I.Perm ((List.range In.length).filter (fun (k : Nat) => In[k]? == some true) |>.map fun (k : Nat) => (k : Int) + 1) := by
    refine (List.perm_ext_iff_of_nodup hnd ?_).2 fun v => ?_
    · rw [List.nodup_iff_pairwise_ne, List.pairwise_map]
      refine List.Pairwise.imp ?_ (List.Pairwise.filter _ (List.nodup_iff_pairwise_ne.1 List.nodup_range))
      intro a b hab e; omega
    · simp only [List.mem_map, List.mem_filter, List.mem_range, beq_iff_eq]
      constructor
      · intro hv
        obtain ⟨k, hk, rfl⟩ := List.getElem_of_mem hv
        have ha : at' I k = I[k] := by simp [at', hk]
        have hb := h.2.1 k hk
        rw [ha] at hb
        have := (hr I[k] hb.1 (by omega)).1 ⟨k, hk, ha⟩
        exact ⟨(I[k] - 1).toNat, ⟨by omega, this⟩, by omega⟩
      · rintro ⟨k, ⟨hk, hin⟩, rfl⟩
        have := (hr ((k : Int) + 1) (by omega) (by omega)).2 (by rw [show ((k : Int) + 1 - 1).toNat = k by omega]; exact hin)
        obtain ⟨j, hj, he⟩ := this
        rw [← he]
        have ha : at' I j = I[j] := by simp [at', hj]
        rw [ha]; simp
  rw [hp.length_eq, List.length_map]
  clear hp hr hl hnd
  induction In with
  | nil => rfl
  | cons b In ih =>
    rw [List.length_cons, List.range_succ_eq_map, List.filter_cons, List.filter_map, List.countP_cons]
    have e : (List.filter ((fun k => (b :: In)[k]? == some true) ∘ Nat.succ) (List.range In.length)) = List.filter (fun k => In[k]? == some true) (List.range In.length) := rfl
    rw [e]
    cases b <;> simp_all

theorem bef_trans {A : List Int} {a b c : Int} (h : bef A a b = true) (h' : bef A b c = true) : bef A a c = true := by
  rw [bef_iff] at *; omega

/-- The best of a place and its children so far: j children were looked at. -/
def BestSo (A I : List Int) (i j bb : Nat) : Prop :=
  (bb = i ∨ ((bb = 2 * i + 1 ∨ bb = 2 * i + 2) ∧ bb < I.length ∧ bef A (at' I bb) (at' I i) = true)) ∧
  (1 ≤ j → 2 * i + 1 < I.length → bef A (at' I (2 * i + 1)) (at' I bb) = false) ∧ (2 ≤ j → 2 * i + 2 < I.length → bef A (at' I (2 * i + 2)) (at' I bb) = false)

theorem best_start (A I : List Int) (i : Nat) : BestSo A I i 0 i := ⟨Or.inl rfl, fun h => by omega, fun h => by omega⟩

theorem best_take {A I : List Int} {i j bb c : Nat} (h : BestSo A I i j bb) (hj : j < 2) (hc : c = 2 * i + 1 + j) (hl : c < I.length) (hb : bef A (at' I c) (at' I bb) = true) : BestSo A I i (j + 1) c := by
  refine ⟨Or.inr ⟨by omega, hl, ?_⟩, fun _ hl1 => ?_, fun h2 hl2 => ?_⟩
  · rcases h.1 with rfl | ⟨_, _, h3⟩
    · exact hb
    · exact bef_trans hb h3
  · by_cases h0 : j = 0
    · have : c = 2 * i + 1 := by omega
      subst this; exact nbef_self _ _
    · exact nbef_trans (h.2.1 (by omega) hl1) (nbef_of_bef hb)
  · have : c = 2 * i + 2 := by omega
    subst this; exact nbef_self _ _

theorem best_leave {A I : List Int} {i j bb c : Nat} (h : BestSo A I i j bb) (hj : j < 2) (hc : c = 2 * i + 1 + j) (hb : c < I.length → bef A (at' I c) (at' I bb) = false) : BestSo A I i (j + 1) bb := by
  refine ⟨h.1, fun _ hl1 => ?_, fun h2 hl2 => ?_⟩
  · by_cases h0 : j = 0
    · have : c = 2 * i + 1 := by omega
      subst this; exact hb hl1
    · exact h.2.1 (by omega) hl1
  · have : c = 2 * i + 2 := by omega
    subst this; exact hb hl2

theorem best_done {A I : List Int} {i bb : Nat} (h : DownInv A I i) (hb : BestSo A I i 2 bb) : (bb = i → HeapOrd A I) ∧ (bb ≠ i → i < bb ∧ bb < I.length ∧ DownInv A (swp I i bb) bb) := by
  refine ⟨fun e => ?_, fun e => ?_⟩
  · subst e
    exact down_done h (hb.2.1 (by omega)) (hb.2.2 (by omega))
  · rcases hb.1 with h0 | ⟨h1, h2, h3⟩
    · exact absurd h0 e
    · exact ⟨by omega, h2, down_step h h1 h2 h3 (hb.2.1 (by omega)) (hb.2.2 (by omega))⟩

end Go.Proofs.Ytfhpjaabcegefaa
