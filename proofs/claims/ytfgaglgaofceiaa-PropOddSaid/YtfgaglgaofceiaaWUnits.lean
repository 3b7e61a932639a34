/- The walks of PropUnits and PropOdd. -/
import Derived.Test.YtfgaglgaofceiaaWGrows
import Derived.Test.YtfgaglgaofceiaaPropV
import Derived.Test.YtfgaglgaofceiaaWCnfA
namespace Go.Proofs.Ytfgaglgaofceiaa.Ord
open Go.RowKit

set_option maxRecDepth 100000 in
set_option maxHeartbeats 4000000 in
theorem walk_PropOdd (n0 : Int) (vc0 : Value) (x0 : List (List Int)) (v1 : Value) (x1 : List Int) (w : World) (_wn0 : (Lit.int .i64 n0).wf = true) (w0 : ArgR .i64 w vc0 x0) (w1 : ArgI .i64 w v1 x1) :
    Calls Try.prog 7 #[.agg #[.int .i64 n0, vc0], v1] w fun e w' => e = .returned (.bool true) ∧ Below w.heap.size w w' := by
  obtain ⟨a, c, rfl, hl, hr, hf⟩ := rows_of_arg w0
  obtain ⟨a1, c1, rfl, hle1, hmx1, -, hs1, hwf1⟩ := w1
  have hs1' : SlV w a1 (ints x1) := hs1
  have HF := hid hf
  have hb1 : Below w.heap.size w (w.alloc (fbox n0 a x0.length c)) := box_below _ _
  have hb2 : Below w.heap.size w ((w.alloc (fbox n0 a x0.length c)).alloc (fbox n0 a x0.length c)) := below_al hb1 (by simp only [size_al]; omega) _
  have HR1 := hid (hr.below hb1)
  have HR2 := hid (hr.below hb2)
  have HS2 := hid (hs1'.below hb2)
  have HB2 := hid hb2
  have H64 : Hid (∀ x ∈ x1, I64 x) := hid (fun x hx => by have := hwf1 x hx; exact bounds_i64 this)
  have hl2 : x0.length ≤ 9223372036854775807 := hl
  clear w0 hr hf hb1 hb2 hs1 hs1' hwf1
  cases hs : smallB x0 with
  | false =>
    have HS := hid hs
    clear hs
    go_enter Try.func7, Try.ntmps7
    go_wp2_with fail
    refine (law02_SmallR n0 _ x0 _ _ _ _ HS.out rfl HF.out HR1.out hl).mono ?_
    rintro e wx ⟨rfl, rfl⟩
    go_wp2_with (go_at_call 30; refine (law04_known _).mono ?_; rintro e w' ⟨rfl, hb⟩)
    go_ret
    exact ⟨rfl, HB2.out.trans (hb.mono (by simp only [size_al]; omega))⟩
  | true =>
    have HSB := hid (smallB_le hs)
    have hsl := (smallB_le hs).1
    have HS := hid hs
    obtain ⟨U, b, g, hU⟩ : ∃ U b g, unitsV n0 x0 x1 = (U, b, g) := ⟨_, _, _, rfl⟩
    have hul : U.length ≤ 2097152 := by have := unitsV_length n0 x0 x1; rw [hU] at this; exact this
    have HU := hid hU
    clear hs hU
    have hc20 := (box_cellsI n0 a x0.length c w (fbox n0 a x0.length c)).1
    have hc21 := (box_cellsI n0 a x0.length c w (fbox n0 a x0.length c)).2
    by_cases h20 : (20 : Int) < x1.length
    · go_enter Try.func7, Try.ntmps7
      go_wp2_with fail
      refine (law02_SmallR n0 _ x0 _ _ _ _ HS.out rfl HF.out HR1.out hl).mono ?_
      rintro e wx ⟨rfl, rfl⟩
      go_wp2_with (go_at_call 30; refine (law04_known _).mono ?_; rintro e w' ⟨rfl, hb⟩)
      go_ret
      exact ⟨rfl, HB2.out.trans (hb.mono (by simp only [size_al]; omega))⟩
    · have d1 : decide ((20 : Int) < x1.length) = false := decide_eq_false h20
      by_cases h500 : (500 : Int) < n0
      · have d2 : decide ((500 : Int) < n0) = true := decide_eq_true h500
        go_enter Try.func7, Try.ntmps7
        go_wp2_with fail
        refine (law02_SmallR n0 _ x0 _ _ _ _ HS.out rfl HF.out HR1.out hl).mono ?_
        rintro e wx ⟨rfl, rfl⟩
        go_wp2_with (go_at_call 30; refine (law04_known _).mono ?_; rintro e w' ⟨rfl, hb⟩)
        go_ret
        exact ⟨rfl, HB2.out.trans (hb.mono (by simp only [size_al]; omega))⟩
      · have d2 : decide ((500 : Int) < n0) = false := decide_eq_false h500
        go_enter Try.func7, Try.ntmps7
        go_wp2_with fail
        refine (law02_SmallR n0 _ x0 _ _ _ _ HS.out rfl HF.out HR1.out hl).mono ?_
        rintro e wx ⟨rfl, rfl⟩
        generalize hw2 : (w.alloc _).alloc _ = w2
        rw [hw2] at HR2 HS2 HB2 hc20 hc21
        clear hw2
        go_wp2_with fail
        refine (prop_UnitsN n0 a x0 x0.length c a1 x1 x1.length c1 U b g w2 HU.out rfl rfl HF.out HR2.out HS2.out hl2 (by omega)).mono ?_
        rintro e w6 ⟨hb6, au, cu, rfl, hsu⟩
        have HB6 := hid (HB2.out.trans (hb6.mono HB2.out.size))
        have HR6 := hid (HR2.out.below hb6)
        have HS6 := hid (HS2.out.below hb6)
        have HU6 := hid hsu
        have hp60 := below_keeps hb6 _ _ hc20
        have hp61 := below_keeps hb6 _ _ hc21
        clear hb6 hsu hc20 hc21
        go_wp2_with fail
        refine (ref_UnitsN n0 a x0 x0.length c a1 x1 x1.length c1 U b g w6 HU.out rfl rfl HF.out HR6.out HS6.out H64.out hl2 (by omega)).mono ?_
        rintro e w7 ⟨hb7, av, cv, rfl, hsv⟩
        have HB7 := hid (HB6.out.trans (hb7.mono HB6.out.size))
        have HU7 := hid (HU6.out.below hb7)
        have HV7 := hid hsv
        clear hb7 hsv hp60 hp61
        go_wp2_with fail
        refine (kit_EqualIntsB au av U U U.length cu U.length cv true _ (by simp [eqI]) rfl rfl HU7.out HV7.out (by omega)).mono ?_
        rintro e w10 ⟨rfl, hb10⟩
        have HB10 := hid (HB7.out.trans (hb10.mono HB7.out.size))
        clear hb10
        go_wp2_with (go_at_call 30; refine (law04_known _).mono ?_; rintro e w' ⟨rfl, hb⟩)
        go_ret
        exact ⟨rfl, HB10.out.trans (hb.mono HB10.out.size)⟩

set_option maxRecDepth 100000 in
set_option maxHeartbeats 4000000 in
theorem walk_PropUnits (x0 : Int) (v1 : Value) (x1 : List (List Int)) (v2 : Value) (x2 : List Int) (w : World) (w0 : (Lit.int .u8 x0).wf = true) (w1 : ArgR .i8 w v1 x1) (w2 : ArgI .i64 w v2 x2) :
    Calls Try.prog 6 #[.int .u8 x0, v1, v2] w fun e w' => e = .returned (.bool true) ∧ Below w.heap.size w w' := by
  have hb0 := bounds_u8 w0
  have HA := hid w1
  obtain ⟨a2, c2, rfl, hle2, hmx2, -, hs2, hwf2⟩ := w2
  have hs2' : SlV w a2 (ints x2) := hs2
  have HS := hid hs2'
  have H64 : Hid (∀ x ∈ x2, I64 x) := hid (fun x hx => by have := hwf2 x hx; exact bounds_i64 this)
  clear w0 w1 hs2 hs2' hwf2
  cases hfit : fitB x1 with
  | false =>
    have HFI := hid hfit
    clear hfit
    go_enter Try.func6, Try.ntmps6
    go_wp2_with fail
    refine (law02_FitF x0 v1 x1 w HFI.out hb0.1 hb0.2 HA.out).mono ?_
    rintro e w3 ⟨rfl, hb3⟩
    have HB3 := hid hb3
    clear hb3
    go_wp2_with (go_at_call 30; refine (law04_known _).mono ?_; rintro e w' ⟨rfl, hb⟩)
    go_ret
    exact ⟨rfl, (below_al HB3.out HB3.out.size _).trans (hb.mono (by have := HB3.out.size; simp only [size_al]; omega))⟩
  | true =>
    have hV := fitV_range x0
    obtain ⟨n, hn⟩ : ∃ n : Nat, fitV x0 = (n : Int) := ⟨(fitV x0).toNat, by omega⟩
    have hn1 : 1 ≤ n ∧ n ≤ 12 := by omega
    obtain ⟨F, hF⟩ : ∃ F, fitF x0 x1 = F := ⟨_, rfl⟩
    have hfl : F.length ≤ 30 := by rw [← hF, fitF_length]; exact (fitB_bounds hfit).1
    have HFO := hid (show FOk F from hF ▸ fok_fit hfit)
    have HN := hid hn
    have HF := hid hF
    have HFI := hid hfit
    obtain ⟨U, b, g, hU⟩ : ∃ U b g, unitsV n F x2 = (U, b, g) := ⟨_, _, _, rfl⟩
    have hul : U.length ≤ 2097152 := by have := unitsV_length n F x2; rw [hU] at this; exact this
    have HU := hid hU
    have hz0 : w.heap.size ≤ w.heap.size := Nat.le_refl _
    clear hfit hF hU hn hV
    by_cases h20 : (20 : Int) < x2.length
    · go_enter Try.func6, Try.ntmps6
      go_wp2_with fail
      refine (law02_FitG x0 v1 x1 w HFI.out hb0.1 hb0.2 HA.out).mono ?_
      rw [HN.out, HF.out]
      rintro e w3 ⟨a, c, rfl, hfc, hr3, hb3⟩
      have HB3 := hid hb3
      clear hb3 hr3
      go_wp2_with (go_at_call 30; refine (law04_known _).mono ?_; rintro e w' ⟨rfl, hb⟩)
      go_ret
      exact ⟨rfl, (below_al HB3.out HB3.out.size _).trans (hb.mono (by have := HB3.out.size; simp only [size_al]; omega))⟩
    · have d1 : decide ((20 : Int) < x2.length) = false := decide_eq_false h20
      go_enter Try.func6, Try.ntmps6
      go_wp2_with fail
      refine (law02_FitG x0 v1 x1 w HFI.out hb0.1 hb0.2 HA.out).mono ?_
      rw [HN.out, HF.out]
      rintro e w3 ⟨a, c, rfl, hfc, hr3, hb3⟩
      have hz3 := hb3.size
      have hb4 : Below w.heap.size w (w3.alloc (fbox n a F.length c)) := below_al hb3 hz3 _
      have HR4 := hid (hr3.below (box_below w3 (fbox n a F.length c)))
      have HS4 := hid (HS.out.below hb4)
      have HB4 := hid hb4
      have hp0 : (w3.alloc (fbox n a F.length c)).cell? ⟨w3.heap.size, 0, none⟩ = some (.int .i64 n) := fit_cell (vs := [.int .i64 n, .slice a F.length c]) (heap_alloc_new w3 _) 0
      have hp1 : (w3.alloc (fbox n a F.length c)).cell? ⟨w3.heap.size, 1, none⟩ = some (.slice a F.length c) := fit_cell (vs := [.int .i64 n, .slice a F.length c]) (heap_alloc_new w3 _) 1
      clear hb3 hr3 hb4
      go_wp2_with fail
      have hfb : (World.alloc w3 (.cells #[.int .i64 n, .slice a F.length c] 34)) = w3.alloc (fbox n a F.length c) := rfl
      rw [hfb]
      clear hfb
      generalize w3.alloc (fbox n a F.length c) = w4 at HR4 HS4 HB4 hp0 hp1 ⊢
      have TK := True.intro
      go_region_with (first
        | (go_at_call 32; refine (kit_CopyInts a2 x2 c2 _ (by exact HS4.out) (by omega)).mono ?_; rintro e w5 ⟨v5, rfl, ho5, hb5⟩; obtain ⟨a5, c5, rfl, -, -, hs5⟩ := own_sli ho5; have hb5' := (Below.refl w4.heap.size w4).drew.trans hb5; have hp50 := below_keeps hb5' _ _ hp0; have hp51 := below_keeps hb5' _ _ hp1; have HB5 := hid (HB4.out.trans (hb5'.mono HB4.out.size)); have HS5 := hid hs5; have HR5 := hid (HR4.out.below hb5'); have HX5 := hid (HS4.out.below hb5'); clear ho5 hb5 hb5' hs5)
        | (go_at_call 31; refine (prop_UnitsN n a F F.length c a5 x2 x2.length c5 U b g _ HU.out rfl rfl HFO.out (by exact HR5.out) (by exact HS5.out) (by omega) (by omega)).mono ?_; rintro e w6 ⟨hb6, a6, c6, rfl, hs6⟩; have hp60 := below_keeps hb6 _ _ hp50; have hp61 := below_keeps hb6 _ _ hp51; have HB6 := hid (HB5.out.trans (hb6.mono HB5.out.size)); have HS6 := hid hs6; have HR6 := hid (HR5.out.below hb6); have HX6 := hid (HX5.out.below hb6); clear hb6 hs6))
      all_goals
        go_wp2_with fail
        refine (ref_UnitsN n a F F.length c a2 x2 x2.length c2 U b g w6 HU.out rfl rfl HFO.out HR6.out HX6.out H64.out (by omega) (by omega)).mono ?_
        rintro e w7 ⟨hb7, av, cv, rfl, hsv⟩
        have HB7 := hid (HB6.out.trans (hb7.mono HB6.out.size))
        have HU7 := hid (HS6.out.below hb7)
        have HV7 := hid hsv
        clear hb7 hsv hp60 hp61
        go_wp2_with fail
        refine (kit_EqualIntsB a6 av U U U.length c6 U.length cv true _ (by simp [eqI]) rfl rfl HU7.out HV7.out (by omega)).mono ?_
        rintro e w10 ⟨rfl, hb10⟩
        have HB10 := hid (HB7.out.trans (hb10.mono HB7.out.size))
        clear hb10
        go_wp2_with (go_at_call 30; refine (law04_known _).mono ?_; rintro e w' ⟨rfl, hb⟩)
        go_ret
        exact ⟨rfl, HB10.out.trans (hb.mono HB10.out.size)⟩

end Go.Proofs.Ytfgaglgaofceiaa.Ord
