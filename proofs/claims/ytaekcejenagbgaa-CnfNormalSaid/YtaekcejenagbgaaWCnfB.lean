/- The walk of the law CnfAll. -/
import Derived.Test.YtaekcejenagbgaaFitR
import Derived.Test.YtaekcejenagbgaaWCnfA
namespace Go.Proofs.Ytaekcejenagbgaa
open Go.RowKit

theorem firstIdx_range (m : List Bool) (f : List (List Int)) : -1 ≤ firstIdx m f ∧ firstIdx m f < f.length := by
  unfold firstIdx
  split
  · rename_i i h
    rw [List.findIdx?_eq_some_iff_getElem] at h
    obtain ⟨h1, _⟩ := h
    omega
  · omega

/-- How a clause stands to the first one that does not hold. -/
theorem firstIdx_cases {m : List Bool} {f : List (List Int)} {k : Nat} {c : List Int} (hc : f[k]? = some c) :
    (holdsB m c = true ∧ c.length ≠ 0 ∧ (firstIdx m f = -1 ∨ (k : Int) < firstIdx m f)) ∨ ((k : Int) = firstIdx m f ∧ holdsB m c = false) ∨ (0 ≤ firstIdx m f ∧ firstIdx m f < k) := by
  have hne : holdsB m c = true → c.length ≠ 0 := fun h e => by
    have : c = [] := List.eq_nil_of_length_eq_zero e
    subst this
    simp [holdsB] at h
  obtain ⟨hk, rfl⟩ := List.getElem?_eq_some_iff.1 hc
  unfold firstIdx
  split
  · rename_i i h
    rw [List.findIdx?_eq_some_iff_getElem] at h
    obtain ⟨h1, h2, h3⟩ := h
    rcases Nat.lt_trichotomy k i with hlt | rfl | hgt
    · have := h3 k hlt
      have hh : holdsB m f[k] = true := by simpa using this
      exact Or.inl ⟨hh, hne hh, Or.inr (by omega)⟩
    · exact Or.inr (Or.inl ⟨rfl, by simpa using h2⟩)
    · exact Or.inr (Or.inr ⟨by omega, by omega⟩)
  · rename_i h
    rw [List.findIdx?_eq_none_iff] at h
    have := h f[k] (by simp)
    have hh : holdsB m f[k] = true := by simpa using this
    exact Or.inl ⟨hh, hne hh, Or.inl rfl⟩

set_option maxHeartbeats 4000000 in
theorem walk_CnfAll (x0 : Int) (v1 : Value) (x1 : List (List Int)) (x2 : Int) (w : World) (w0 : (Lit.int .u8 x0).wf = true) (w1 : ArgR .i8 w v1 x1) (w2 : (Lit.int .u16 x2).wf = true) :
    Calls Try.prog 5 #[.int .u8 x0, v1, .int .u16 x2] w fun e w' => e = .returned (.bool true) ∧ Below w.heap.size w w' := by
  have hb0 := bounds_u8 w0
  have hb2 := bounds_u16 w2
  have HA := hid w1
  clear w0 w1 w2
  cases hfit : fitB x1 with
  | false =>
    have HFI := hid hfit
    clear hfit
    go_enter Try.func5, Try.ntmps5
    go_wp2_with fail
    refine (law02_FitF x0 v1 x1 w HFI.out hb0.1 hb0.2 HA.out).mono ?_
    rintro e w3 ⟨rfl, hb3⟩
    have HB3 := hid hb3
    clear hb3
    go_wp2_with (go_at_call 21; refine (law02_known _).mono ?_; rintro e w' ⟨rfl, hb⟩)
    go_ret
    exact ⟨rfl, (below_al HB3.out HB3.out.size _).trans (hb.mono (by have := HB3.out.size; simp only [size_al]; omega))⟩
  | true =>
    have HFI := hid hfit
    have hlf := fitB_bounds hfit
    obtain ⟨f, hf⟩ : ∃ f, f = fitF x0 x1 := ⟨_, rfl⟩
    have hfl : f.length ≤ 30 := by rw [hf, fitF_length]; exact hlf.1
    have HFE := hid hf
    have HFOK : Hid (FOk f) := hf ▸ fok_fit hfit
    have HCK : Hid (cnfCheck (fitV x0) f = 0) := hf ▸ cnfCheck_fit hfit
    obtain ⟨V, hV⟩ : ∃ V, fitV x0 = V := ⟨_, rfl⟩
    have hVr : 1 ≤ V ∧ V ≤ 12 := hV ▸ fitV_range x0
    rw [hV] at HCK
    have HVE := hid hV
    obtain ⟨m, hm⟩ : ∃ m, m = modelL V.toNat x2 := ⟨_, rfl⟩
    have hml : (m.length : Int) = V := by rw [hm]; simp [modelL]; omega
    have HM := hid hm
    have hmb : m.length ≤ 12 := by omega
    have HML : Hid (cnfFirst V f m = (firstIdx m f, 0)) := cnfFirst_idx HCK.out (by rw [hml]; simp)
    obtain ⟨at0, hat⟩ : ∃ at0, firstIdx m f = at0 := ⟨_, rfl⟩
    have hatr := firstIdx_range m f
    rw [hat] at HML hatr
    have HAT := hid hat
    have hd1 : decide (at0 < -1) = false := by simp; omega
    have hd2 : decide ((f.length : Int) ≤ at0) = false := by simp; omega
    clear hfit hlf hf hV hm hml hat
    go_enter Try.func5, Try.ntmps5
    go_wp2_with fail
    refine (law02_FitT x0 v1 x1 w HFI.out hb0.1 hb0.2 HA.out).mono ?_
    rw [HVE.out, ← HFE.out]
    rintro e w3 ⟨a, c, rfl, -, hr3, hb3⟩
    have HB3 := hid hb3
    have HR3 := hid hr3
    have hz3 := hb3.size
    clear hb3 hr3
    go_wp2_with fail
    refine (law02_ModelR V V.toNat x2 _ (by omega) (by omega) hb2.1 hb2.2).mono ?_
    rw [← HM.out]
    rintro e w4 ⟨a4, c4, rfl, -, hs4, hb4⟩
    have HB4 := hid ((below_al HB3.out hz3 _).trans (hb4.mono (by simp only [size_al]; omega)))
    have HR4 := hid ((HR3.out.below (box_below _ _)).below hb4)
    have hq0 := hb4.cell (p := ⟨w3.heap.size, 0, none⟩) (by simp only [size_al]; omega)
    have hq1 := hb4.cell (p := ⟨w3.heap.size, 1, none⟩) (by simp only [size_al]; omega)
    have HS4 := hid hs4
    have hz4 := hb4.size
    simp only [size_al] at hz4
    clear hb4 hs4
    go_wp2_with fail
    refine (cnf_FirstR V _ f _ _ _ m _ _ at0 0 _ HML.out rfl rfl HFOK.out HR4.out HS4.out (by omega) (by omega)).mono ?_
    rintro e w5 ⟨rfl, hb5⟩
    have HB5 := hid (HB4.out.trans (hb5.mono (by omega)))
    have HR5 := hid (HR4.out.below hb5)
    have HS5 := hid (HS4.out.below hb5)
    have hr0 := hb5.cell (p := ⟨w3.heap.size, 0, none⟩) (by show w3.heap.size < _; omega)
    have hr1 := hb5.cell (p := ⟨w3.heap.size, 1, none⟩) (by show w3.heap.size < _; omega)
    clear hb5
    go_wp2_with fail
    have hfld0 : w5.cell? ⟨w3.heap.size, 1, none⟩ = some (.slice a f.length c) := by rw [hr1, hq1]; exact fit_cell (vs := [.int .i64 V, .slice a f.length c]) (heap_alloc_new w3 _) 1
    clear hq0 hq1 hr0 hr1 hd1 hd2
    go_loop [12] (fun i => ∃ k : Nat, k ≤ f.length ∧ i = .int .i64 k) (fun i => f.length - (intOf i).toNat)
    case atStart => exact ⟨0, Nat.zero_le _, rfl⟩
    case round =>
      obtain ⟨k, hk, rfl⟩ := hrel
      by_cases hlt : k < f.length
      · obtain ⟨b, off, cl, a1, cc1, rfl, hcell, hsl, hc1, hx1, hl1, -, -⟩ := HR5.out.row HFOK.out hlt
        have hcs := firstIdx_cases (m := m) hc1
        rw [HAT.out] at hcs
        have HS := hid hsl
        have HX := hid hx1
        clear hsl hc1 hx1
        rcases hcs with ⟨hh, hne, hk2⟩ | ⟨hk2, hh⟩ | ⟨h0, hk2⟩
        · have HH := hid hh
          have hz : ((cl.length : Int) == 0) = false := beq_eq_false_iff_ne.2 (by omega)
          clear hh
          rcases hk2 with hk2 | hk2
          · have hA1 : (at0 == -1) = true := by simp [hk2]
            have hA2 : ((k : Int) == at0) = false := beq_eq_false_iff_ne.2 (by omega)
            clear hk2
            go_wp2_with (go_at_call 28; refine (lit_HoldsR _ m _ _ _ cl _ _ _ _ HH.out rfl rfl HS5.out HX.out HS.out hl1 (by omega)).mono ?_; rintro e w' ⟨rfl, rfl⟩)
            go_round
            case rel => exact ⟨k + 1, by omega, by go_num⟩
            case measure => simp [intOf]; omega
          · have hA1 : (at0 == -1) = false := beq_eq_false_iff_ne.2 (by omega)
            have hA2 : ((k : Int) == at0) = false := beq_eq_false_iff_ne.2 (by omega)
            have hA3 : decide ((k : Int) < at0) = true := decide_eq_true (by omega)
            clear hk2
            go_wp2_with (go_at_call 28; refine (lit_HoldsR _ m _ _ _ cl _ _ _ _ HH.out rfl rfl HS5.out HX.out HS.out hl1 (by omega)).mono ?_; rintro e w' ⟨rfl, rfl⟩)
            go_round
            case rel => exact ⟨k + 1, by omega, by go_num⟩
            case measure => simp [intOf]; omega
        · have HH := hid hh
          have hA1 : (at0 == -1) = false := beq_eq_false_iff_ne.2 (by omega)
          have hA2 : ((k : Int) == at0) = true := beq_iff_eq.2 (by omega)
          have hA3 : decide ((k : Int) < at0) = false := decide_eq_false (by omega)
          clear hh hk2
          cases hz : ((cl.length : Int) == 0)
          all_goals
            go_wp2_with (go_at_call 28; refine (lit_HoldsR _ m _ _ _ cl _ _ _ _ HH.out rfl rfl HS5.out HX.out HS.out hl1 (by omega)).mono ?_; rintro e w' ⟨rfl, rfl⟩)
            go_round
            case rel => exact ⟨k + 1, by omega, by go_num⟩
            case measure => simp [intOf]; omega
        · have hA1 : (at0 == -1) = false := beq_eq_false_iff_ne.2 (by omega)
          have hA2 : ((k : Int) == at0) = false := beq_eq_false_iff_ne.2 (by omega)
          have hA3 : decide ((k : Int) < at0) = false := decide_eq_false (by omega)
          clear h0 hk2
          cases hz : ((cl.length : Int) == 0)
          all_goals
            go_wp2_with (go_at_call 28; refine (lit_HoldsR _ m _ _ _ cl _ _ _ _ rfl rfl rfl HS5.out HX.out HS.out hl1 (by omega)).mono ?_; rintro e w' ⟨rfl, rfl⟩)
            go_round
            case rel => exact ⟨k + 1, by omega, by go_num⟩
            case measure => simp [intOf]; omega
      · go_wp2_with (go_at_call 21; refine (law02_known _).mono ?_; rintro e w' ⟨rfl, hb⟩)
        go_ret
        exact ⟨rfl, HB5.out.trans (hb.mono HB5.out.size)⟩

end Go.Proofs.Ytaekcejenagbgaa
