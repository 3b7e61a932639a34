/- The walk of the law CnfNames. -/
import Derived.Test.YtaekcejenagbgaaThreeX
import Derived.Test.YtaekcejenagbgaaLitB
namespace Go.Proofs.Ytaekcejenagbgaa
open Go.RowKit

set_option maxRecDepth 100000 in
set_option maxHeartbeats 8000000 in
theorem walk_CnfNames (w : World) :
    Calls Try.prog 17 #[] w fun e w' => e = .returned (.bool true) ∧ Below w.heap.size w w' := by
  obtain ⟨i1, hj, hy0, hy1, hy2⟩ := info_parts info_ints
  go_enter Try.func17, Try.ntmps17
  go_wp2_with fail
  refine (law02_threeX w).mono ?_
  rintro e w1 ⟨p0, p1, p2, p, rfl, hb1, hp0, hp1, hp2, hp, hpw, hh0, hh1, hh2, hh⟩
  have HR1 := hid (rows3 hh hh0 hh1 hh2 rfl rfl rfl)
  have HB1 := hid hb1
  have hz1 := hb1.size
  clear hb1 hh hh0 hh1 hh2
  go_wp2_with fail
  refine (law02_threeX _).mono ?_
  rintro e w2 ⟨q0, q1, q2, q, rfl, hb2, hq0, hq1, hq2, hq, hqw, hk0, hk1, hk2, hk⟩
  simp only [size_al] at hq0
  have hb1b : w2.heap[w1.heap.size]? = some (.cells #[.int .i64 2, .slice (some ⟨p, 0, none⟩) 3 3] 24) := (hb2.block _ (by simp only [size_al]; omega)).trans (heap_alloc_new w1 _)
  have HB2 := hid ((below_al HB1.out hz1 _).trans (hb2.mono (by simp only [size_al]; omega)))
  have HR2 := hid ((HR1.out.below (box_below _ _)).below hb2)
  have HBB := hid hb1b
  have HK := hid hk
  have HK0 := hid hk0
  have HK2 := hid hk2
  have hz2 := hb2.size
  simp only [size_al] at hz2
  have e0 : w2.cell? ⟨w1.heap.size, 0, none⟩ = some (.int .i64 2) := fit_cell (vs := [.int .i64 2, .slice (some ⟨p, 0, none⟩) 3 3]) hb1b 0
  have e1 : w2.cell? ⟨w1.heap.size, 1, none⟩ = some (.slice (some ⟨p, 0, none⟩) 3 3) := fit_cell (vs := [.int .i64 2, .slice (some ⟨p, 0, none⟩) 3 3]) hb1b 1
  have r1 : w2.cell? ⟨q, 1, none⟩ = some (.slice (some ⟨q1, 0, none⟩) 2 2) := fit_cell (vs := [.slice (some ⟨q0, 0, none⟩) 2 2, .slice (some ⟨q1, 0, none⟩) 2 2, .slice (some ⟨q2, 0, none⟩) 2 2]) hk 1
  have rf : w2.frozen? ⟨q, 1, none⟩ = false := frozen_of_row _ _ _ _ _ hk
  have n1 : ¬ w1.heap.size = q := by omega
  have n2 : ¬ q = w1.heap.size := by omega
  have n3 : ¬ w2.heap.size = q := by omega
  have n4 : ¬ q = w2.heap.size := by omega
  obtain ⟨v, hv⟩ : ∃ v : Value, v = .slice (some ⟨w2.heap.size + 1, 0, none⟩) 1 1 := ⟨_, rfl⟩
  have hX1 : (((w2.setCell ⟨q, 1, none⟩ v).alloc (fbox 3 (some ⟨q, 0, none⟩) 3 3)).alloc (.cells #[.int .i64 0] 3)).heap[w1.heap.size]? = some (.cells #[.int .i64 2, .slice (some ⟨p, 0, none⟩) 3 3] 24) := (sa2_old (by omega) n1).trans hb1b
  have hX2 := sa2_1 w2 ⟨q, 1, none⟩ v (fbox 3 (some ⟨q, 0, none⟩) 3 3) (.cells #[.int .i64 0] 3)
  have hX3 := sa2_at (o := 1) (v := v) (o1 := fbox 3 (some ⟨q, 0, none⟩) 3 3) (o2 := .cells #[.int .i64 0] 3) (xs := [.slice (some ⟨q0, 0, none⟩) 2 2, .slice (some ⟨q1, 0, none⟩) 2 2, .slice (some ⟨q2, 0, none⟩) 2 2]) hk
  have hX4 := sa2_2 w2 ⟨q, 1, none⟩ v (fbox 3 (some ⟨q, 0, none⟩) 3 3) (.cells #[.int .i64 0] 3)
  have hX5 : (((w2.setCell ⟨q, 1, none⟩ v).alloc (fbox 3 (some ⟨q, 0, none⟩) 3 3)).alloc (.cells #[.int .i64 0] 3)).heap[q0]? = _ := (sa2_old (by omega) (by show ¬ q0 = q; omega)).trans hk0
  have hX6 : (((w2.setCell ⟨q, 1, none⟩ v).alloc (fbox 3 (some ⟨q, 0, none⟩) 3 3)).alloc (.cells #[.int .i64 0] 3)).heap[q2]? = _ := (sa2_old (by omega) (by show ¬ q2 = q; omega)).trans hk2
  have hbX : Below w1.heap.size w1 (((w2.setCell ⟨q, 1, none⟩ v).alloc (fbox 3 (some ⟨q, 0, none⟩) 3 3)).alloc (.cells #[.int .i64 0] 3)) :=
    below_al (below_al ((((below_al (Below.refl _ _) (Nat.le_refl _) _).trans (hb2.mono (by simp only [size_al]; omega))).setCell (by show w1.heap.size ≤ q; omega) _)) (by rw [setCell_size]; omega) _) (by simp only [size_al]; rw [setCell_size]; omega) _
  have hRX := HR1.out.below hbX
  simp only [List.set_cons_succ, List.set_cons_zero] at hX3
  subst hv
  have hRG : Rws (((w2.setCell ⟨q, 1, none⟩ (.slice (some ⟨w2.heap.size + 1, 0, none⟩) 1 1)).alloc (fbox 3 (some ⟨q, 0, none⟩) 3 3)).alloc (.cells #[.int .i64 0] 3)) (some ⟨q, 0, none⟩) [[1, 2], [0], [-2, -3]] := rows3 hX3 hX5 hX4 hX6 rfl rfl rfl
  have x0 := fit_cell (vs := [.int .i64 2, .slice (some ⟨p, 0, none⟩) 3 3]) hX1 0
  have x1 := fit_cell (vs := [.int .i64 2, .slice (some ⟨p, 0, none⟩) 3 3]) hX1 1
  have x2 := fit_cell (vs := [.int .i64 3, .slice (some ⟨q, 0, none⟩) 3 3]) hX2 0
  have x3 := fit_cell (vs := [.int .i64 3, .slice (some ⟨q, 0, none⟩) 3 3]) hX2 1
  simp only [List.getElem?_cons_zero, List.getElem?_cons_succ] at x0 x1 x2 x3
  have HRX := hid hRX
  have HRG := hid hRG
  have HBX := hid (HB1.out.trans (hbX.mono hz1))
  clear hb1b hk hk0 hk1 hk2 hb2 hX1 hX2 hX3 hX4 hX5 hX6 hRX hRG hbX
  go_wp2_with fail
  refine (cnf_CheckB 2 _ threeF _ _ 3 _ (by decide) rfl fok_three HRX.out (by decide)).mono ?_
  rintro e w3 ⟨rfl, hb3⟩
  have HB3 := hid (HBX.out.trans (hb3.mono HBX.out.size))
  have HRG3 := hid (HRG.out.below hb3)
  have y2 := below_keeps hb3 _ _ x2
  have y3 := below_keeps hb3 _ _ x3
  clear hb3 x0 x1 x2 x3 e0 e1 r1 rf
  go_wp2_with fail
  refine (cnf_CheckB 3 _ [[1, 2], [0], [-2, -3]] _ _ 3 _ (by decide) rfl (fok_lits (by decide)) HRG3.out (by decide)).mono ?_
  rintro e w4 ⟨rfl, hb4⟩
  have HB4 := hid (HB3.out.trans (hb4.mono HB3.out.size))
  clear hb4 y2 y3
  go_wp2_with fail
  refine (law02_threeX _).mono ?_
  rintro e wa0 ⟨p0, p1, p2, p, rfl, hb, hp0, hp1, hp2, hp, hpw, hh0, hh1, hh2, hh⟩
  have HRa0 := hid (rows3 hh hh0 hh1 hh2 rfl rfl rfl)
  have HBa0 := hid (HB4.out.trans (hb.mono HB4.out.size))
  clear hb hh hh0 hh1 hh2 hp0 hp1 hp2 hp hpw
  go_wp2_with fail
  refine (cnf_FirstR 3 _ threeF _ _ _ [false, false, false] _ _ (0) 0 _ (by decide) rfl rfl fok_three (HRa0.out.below (box_below _ _)) (slv_at (e := 4) (m := (0, 0)) (heap_alloc_new _ _)) (by decide) (by decide)).mono ?_
  rintro e wb0 ⟨rfl, hb⟩
  have HBb0 : Hid (Below w.heap.size w wb0) := below_new HBa0.out HBa0.out.size (by simpa only [size_al] using hb)
  clear hb
  go_wp2_with fail
  refine (law02_threeX _).mono ?_
  rintro e wa1 ⟨p0, p1, p2, p, rfl, hb, hp0, hp1, hp2, hp, hpw, hh0, hh1, hh2, hh⟩
  have HRa1 := hid (rows3 hh hh0 hh1 hh2 rfl rfl rfl)
  have HBa1 := hid (HBb0.out.trans (hb.mono HBb0.out.size))
  clear hb hh hh0 hh1 hh2 hp0 hp1 hp2 hp hpw
  go_wp2_with fail
  refine (cnf_FirstR 3 _ threeF _ _ _ [true, true, true] _ _ (2) 0 _ (by decide) rfl rfl fok_three (HRa1.out.below (box_below _ _)) (slv_at (e := 4) (m := (0, 0)) (heap_alloc_new _ _)) (by decide) (by decide)).mono ?_
  rintro e wb1 ⟨rfl, hb⟩
  have HBb1 : Hid (Below w.heap.size w wb1) := below_new HBa1.out HBa1.out.size (by simpa only [size_al] using hb)
  clear hb
  go_wp2_with fail
  refine (law02_threeX _).mono ?_
  rintro e wa2 ⟨p0, p1, p2, p, rfl, hb, hp0, hp1, hp2, hp, hpw, hh0, hh1, hh2, hh⟩
  have HRa2 := hid (rows3 hh hh0 hh1 hh2 rfl rfl rfl)
  have HBa2 := hid (HBb1.out.trans (hb.mono HBb1.out.size))
  clear hb hh hh0 hh1 hh2 hp0 hp1 hp2 hp hpw
  go_wp2_with fail
  refine (cnf_FirstR 3 _ threeF _ _ _ [true] _ _ (0) 2 _ (by decide) rfl rfl fok_three (HRa2.out.below (box_below _ _)) (slv_at (e := 4) (m := (0, 0)) (heap_alloc_new _ _)) (by decide) (by decide)).mono ?_
  rintro e wb2 ⟨rfl, hb⟩
  have HBb2 : Hid (Below w.heap.size w wb2) := below_new HBa2.out HBa2.out.size (by simpa only [size_al] using hb)
  clear hb
  go_wp2_with fail
  refine (cnf_FirstR 0 none [] 0 0 none [] 0 0 (-1) 0 _ (by decide) rfl rfl (fun c hc => by simp at hc) (Rws.nil _ _) (SlV.nil _ _) (by decide) (by decide)).mono ?_
  rintro e wd ⟨rfl, hb⟩
  have HBd := hid (HBb2.out.trans (hb.mono HBb2.out.size))
  clear hb
  go_wp2_with fail
  refine (law02_threeX _).mono ?_
  rintro e we ⟨t0, t1, t2, t, rfl, hb, ht0, ht1, ht2, ht, htw, hk0, hk1, hk2, hk⟩
  have r1 : we.cell? ⟨t, 0, none⟩ = some (.slice (some ⟨t0, 0, none⟩) 2 2) := fit_cell (vs := [.slice (some ⟨t0, 0, none⟩) 2 2, .slice (some ⟨t1, 0, none⟩) 2 2, .slice (some ⟨t2, 0, none⟩) 2 2]) hk 0
  have rf : we.frozen? ⟨t, 0, none⟩ = false := frozen_of_row _ _ _ _ _ hk
  have m3 : ¬ we.heap.size = t := by omega
  have m4 : ¬ t = we.heap.size := by omega
  have hX2 := sa2_1 we ⟨t, 0, none⟩ (.slice (some ⟨we.heap.size + 1, 0, none⟩) 2 2) (fbox 3 (some ⟨t, 0, none⟩) 3 3) (.cells #[.int .i64 2, .int .i64 1] 3)
  have hX3 := sa2_at (o := 0) (v := .slice (some ⟨we.heap.size + 1, 0, none⟩) 2 2) (o1 := fbox 3 (some ⟨t, 0, none⟩) 3 3) (o2 := .cells #[.int .i64 2, .int .i64 1] 3) (xs := [.slice (some ⟨t0, 0, none⟩) 2 2, .slice (some ⟨t1, 0, none⟩) 2 2, .slice (some ⟨t2, 0, none⟩) 2 2]) hk
  have hX4 := sa2_2 we ⟨t, 0, none⟩ (.slice (some ⟨we.heap.size + 1, 0, none⟩) 2 2) (fbox 3 (some ⟨t, 0, none⟩) 3 3) (.cells #[.int .i64 2, .int .i64 1] 3)
  have hX5 : (((we.setCell ⟨t, 0, none⟩ (.slice (some ⟨we.heap.size + 1, 0, none⟩) 2 2)).alloc (fbox 3 (some ⟨t, 0, none⟩) 3 3)).alloc (.cells #[.int .i64 2, .int .i64 1] 3)).heap[t1]? = _ := (sa2_old (by omega) (by show ¬ t1 = t; omega)).trans hk1
  have hX6 : (((we.setCell ⟨t, 0, none⟩ (.slice (some ⟨we.heap.size + 1, 0, none⟩) 2 2)).alloc (fbox 3 (some ⟨t, 0, none⟩) 3 3)).alloc (.cells #[.int .i64 2, .int .i64 1] 3)).heap[t2]? = _ := (sa2_old (by omega) (by show ¬ t2 = t; omega)).trans hk2
  simp only [List.set_cons_zero] at hX3
  have hRX : Rws (((we.setCell ⟨t, 0, none⟩ (.slice (some ⟨we.heap.size + 1, 0, none⟩) 2 2)).alloc (fbox 3 (some ⟨t, 0, none⟩) 3 3)).alloc (.cells #[.int .i64 2, .int .i64 1] 3)) (some ⟨t, 0, none⟩) [[2, 1], [-1, 3], [-2, -3]] := rows3 hX3 hX4 hX5 hX6 rfl rfl rfl
  have hbX : Below wd.heap.size wd (((we.setCell ⟨t, 0, none⟩ (.slice (some ⟨we.heap.size + 1, 0, none⟩) 2 2)).alloc (fbox 3 (some ⟨t, 0, none⟩) 3 3)).alloc (.cells #[.int .i64 2, .int .i64 1] 3)) :=
    below_al (below_al (hb.setCell (by show wd.heap.size ≤ t; omega) _) (by rw [setCell_size]; exact hb.size) _) (by simp only [size_al]; rw [setCell_size]; have := hb.size; omega) _
  have x2 := fit_cell (vs := [.int .i64 3, .slice (some ⟨t, 0, none⟩) 3 3]) hX2 0
  have x3 := fit_cell (vs := [.int .i64 3, .slice (some ⟨t, 0, none⟩) 3 3]) hX2 1
  simp only [List.getElem?_cons_zero, List.getElem?_cons_succ] at x2 x3
  have HRX := hid hRX
  have HBX := hid (HBd.out.trans (hbX.mono HBd.out.size))
  have HNE : Hid (((3 : Int) == 3 && eqR [[2, 1], [-1, 3], [-2, -3]] threeF) = false) := show _ = _ by decide
  have HEQ : Hid (((3 : Int) == 3 && eqR threeF threeF) = true) := show _ = _ by decide
  have HT3 : Hid (FOk [[2, 1], [-1, 3], [-2, -3]]) := fok_lits (by decide)
  clear hb hk hk0 hk1 hk2 hX2 hX3 hX4 hX5 hX6 hRX hbX
  go_upto_region 15 with fail
  clear r1 rf
  go_cut [90] (fun s90 wx => s90 = .bool false ∧ Hid (Below w.heap.size w wx))
  case first =>
    go_region_with (first
      | (go_at_call 41; (fail_if_success (have _t := tokA)); refine (law02_threeX _).mono ?_; rintro e wA ⟨a0, a1, a2, a, rfl, hbA, -, -, -, -, -, ka0, ka1, ka2, ka⟩; have tokA := True.intro; have HRA := hid (rows3 ka ka0 ka1 ka2 rfl rfl rfl); have hbA2 := ((Below.refl _ _).drew).trans hbA; have HRT := hid (HRX.out.below hbA2); have HBA : Hid (Below w.heap.size w wA) := HBX.out.trans (hbA2.mono HBX.out.size); have z2 := below_keeps hbA2 _ _ x2; have z3 := below_keeps hbA2 _ _ x3; clear hbA hbA2 ka ka0 ka1 ka2)
      | (go_at_call 42; (fail_if_success (have _t := tokE)); (refine (cnf_Equal 3 _ [[2, 1], [-1, 3], [-2, -3]] _ _ 3 _ threeF _ _ false _ HNE.out rfl rfl HT3.out fok_three HRT.out HRA.out (by decide)).mono ?_; rintro e wE ⟨rfl, hbE⟩); have tokE := True.intro; have HBE := hid (HBA.out.trans (hbE.mono HBA.out.size)); clear hbE)
      | (go_at_call 41; (have _t := tokE); (fail_if_success (have _t := tokB)); refine (law02_threeX _).mono ?_; rintro e wB ⟨b0, b1, b2, b, rfl, hbB, -, -, -, -, -, kb0, kb1, kb2, kb⟩; have tokB := True.intro; have HRB := hid (rows3 kb kb0 kb1 kb2 rfl rfl rfl); have HBB2 := hid (HBE.out.trans (hbB.mono HBE.out.size)); clear hbB kb kb0 kb1 kb2)
      | (go_at_call 41; (have _t := tokB); refine (law02_threeX _).mono ?_; rintro e wC ⟨c0, c1, c2, c, rfl, hbC, -, -, -, -, -, kc0, kc1, kc2, kc⟩; have HRC := hid (rows3 kc kc0 kc1 kc2 rfl rfl rfl); have HRB2 := hid (HRB.out.below hbC); have HBC := hid (HBB2.out.trans (hbC.mono HBB2.out.size)); clear hbC kc kc0 kc1 kc2)
      | (go_at_call 42; (have _t := tokB); (refine (cnf_Equal 3 _ threeF _ _ 3 _ threeF _ _ true _ HEQ.out rfl rfl fok_three fok_three ?_ ?_ (by decide)).mono ?_; (first | exact HRB2.out | exact HRC.out); (first | exact HRB2.out | exact HRC.out); rintro e wF ⟨rfl, hbF⟩); have HBF := hid (HBC.out.trans (hbF.mono HBC.out.size)); clear hbF))
    all_goals
      go_wp2_with fail
      go_meet
      case rel => exact ⟨rfl, HBF⟩
  case rest =>
    obtain ⟨rfl, hbx⟩ := hcut
    clear x2 x3
    have hbz := hbx.out.size
    have HSZ : Hid (∀ wx, (sizeOf 40).run Try.prog wx = .ok 1 wx) := fun wx => by kernel_rfl
    go_wp2_with (at_make; refine wpList_make_full _ rfl _ _ 22 rfl w.heap.size 40 i1 (.slice none 0 0) 1 Try.underlying22 hj hy0 hy1 _ _ _ _ 1048577 rfl rfl rfl rfl (by rw [hy2]; omega) (by unfold maxLen; omega) hbz ?_; intro wl hownl hgrowl; have hbl : Below w.heap.size w wl := hbx.out.grown hgrowl hbz (by simp); have HOL := hid hownl; have HBL := hid hbl; clear hownl hgrowl hbl)
    obtain ⟨B, hB⟩ : ∃ B, B = wc.heap.size := ⟨_, rfl⟩
    rw [← hB] at HOL ⊢
    have hown : wl.ownsRow w.heap.size 40 1 (.slice (some ⟨B, 0, none⟩) 1048577 1048577) 1048577 (List.replicate 1048577 (.slice none 0 0)) := by
      rw [← madeNils]; exact HOL.out
    have hBl := (hown.lt B rfl).2
    have HO := hid hown
    have HR1 := hid (rws_nils hown 0 1048577 (by omega))
    clear hown HOL hB
    go_wp2_with fail
    refine (cnf_CheckB 0 _ (emptyF 1048577) _ _ 5 _ (check_many _ (by omega)) (emptyF_length _).symm (emptyF_ok _) (HR1.out.below (box_below _ _)) (by rw [emptyF_length]; omega)).mono ?_
    rintro e wm ⟨rfl, hb⟩
    have hblk : wm.heap[wl.heap.size]? = some (.cells #[.int .i64 0, .slice (some ⟨B, 0, none⟩) 1048577 1048577] 24) := (hb.block _ (by simp only [size_al]; omega)).trans (heap_alloc_new wl _)
    have HBm : Hid (Below w.heap.size w wm) := below_new HBL.out HBL.out.size (by simpa only [size_al] using hb)
    have HOm := hid (own_below (own_below HO.out (box_below _ _)) hb)
    have z0 := fit_cell (vs := [.int .i64 0, .slice (some ⟨B, 0, none⟩) 1048577 1048577]) hblk 0
    have z1 := fit_cell (vs := [.int .i64 0, .slice (some ⟨B, 0, none⟩) 1048577 1048577]) hblk 1
    have zf : wm.frozen? ⟨wl.heap.size, 1, none⟩ = false := frozen_of_row _ _ _ _ _ hblk
    simp only [List.getElem?_cons_zero, List.getElem?_cons_succ] at z0 z1
    have hBl2 : ¬ B = wl.heap.size := by omega
    have hszl : w.heap.size ≤ wl.heap.size := HBL.out.size
    have HR2 : Hid (Rws (wm.setCell ⟨wl.heap.size, 1, none⟩ (.slice (some ⟨B, 1, none⟩) 1048576 1048576)) (some ⟨B, 1, none⟩) (emptyF 1048576)) := rws_nils (own_set_far HOm.out hBl2) 1 1048576 (by omega)
    have HTL : Hid (∀ wx, (Instr.slice 22 (.slice (some ⟨B, 0, none⟩) 1048577 1048577) (some (.int .i64 1)) none none).run Try.prog wx = .ok (.slice (some ⟨B, 1, none⟩) 1048576 1048576) wx) := by
      intro wx
      have he : Try.prog.elem 22 = 40 := by simp [Program.elem, Try.underlying22]
      rw [run_slice_l (P := Try.prog) wx 22 _ 1048577 1048577 (by rw [he]; exact Try.underlying22) .i64 1 (by omega) (by omega), he, HSZ.out]
      simp [sliced, Result.andThen, Addr.add]
    have hrun := HTL.out
    clear hb hblk
    go_wp2_with fail
    refine (cnf_CheckB 0 _ (emptyF 1048576) _ _ 0 _ (check_empty _ (by omega)) (emptyF_length _).symm (emptyF_ok _) HR2.out (by rw [emptyF_length]; omega)).mono ?_
    rintro e wn ⟨rfl, hb⟩
    have HBn : Hid (Below w.heap.size w wn) := (HBm.out.setCell (by show w.heap.size ≤ wl.heap.size; exact hszl) _).trans (hb.mono (by rw [setCell_size]; exact HBm.out.size))
    have HRn := hid (HR2.out.below hb)
    have y1 : wn.cell? ⟨wl.heap.size, 1, none⟩ = some (.slice (some ⟨B, 1, none⟩) 1048576 1048576) := below_keeps hb _ _ (by first | exact World.cell?_setCell_same _ _ _ z1 | exact World.cell?_setCell_same z1 | exact World.cell?_setCell_same _ _ z1)
    clear hb hrun z0 z1 zf
    go_wp2_with fail
    refine (cnf_CheckB 1048577 none [] 0 0 3 _ (by decide) rfl (fun c hc => by simp at hc) (Rws.nil _ _) (by decide)).mono ?_
    rintro e wo ⟨rfl, hb⟩
    have HBo := hid (HBn.out.trans (hb.mono HBn.out.size))
    have HRo := hid (HRn.out.below hb)
    have y2 := below_keeps hb _ _ y1
    clear hb y1
    go_wp2_with fail
    refine (cnf_CheckB (-1) _ (emptyF 1048576) _ _ 3 _ (cnfCheck_range (Or.inl (by omega))) (emptyF_length _).symm (emptyF_ok _) HRo.out (by rw [emptyF_length]; omega)).mono ?_
    rintro e wp ⟨rfl, hb⟩
    have HBp := hid (HBo.out.trans (hb.mono HBo.out.size))
    clear hb y2
    go_wp2_with fail
    refine (law02_known _).mono ?_
    rintro e wq ⟨rfl, hb⟩
    go_wp2_with fail
    go_ret
    exact ⟨rfl, HBp.out.trans (hb.mono HBp.out.size)⟩

end Go.Proofs.Ytaekcejenagbgaa
