/- The walk of the law CnfNormal. -/
import Derived.Test.YtaekcejenagbgaaWCnfD
import Derived.Test.YtaekcejenagbgaaOwnRt
import Derived.Test.YtaekcejenagbgaaPNormF
import Derived.Test.YtaekcejenagbgaaCopyL
import Derived.Test.YtaekcejenagbgaaNormR
namespace Go.Proofs.Ytaekcejenagbgaa
open Go.RowKit

set_option maxRecDepth 100000 in
set_option maxHeartbeats 4000000 in
theorem walk_CnfNormal (x0 : Int) (v1 : Value) (x1 : List (List Int)) (x2 : Int) (w : World) (w0 : (Lit.int .u8 x0).wf = true) (w1 : ArgR .i8 w v1 x1) (w2 : (Lit.int .u16 x2).wf = true) :
    Calls Try.prog 19 #[.int .u8 x0, v1, .int .u16 x2] w fun e w' => e = .returned (.bool true) ∧ Below w.heap.size w w' := by
  have hb0 := bounds_u8 w0
  have hb2 := bounds_u16 w2
  have HA := hid w1
  clear w0 w1 w2
  cases hfit : fitB x1 with
  | false =>
    have HFI := hid hfit
    clear hfit
    go_enter Try.func19, Try.ntmps19
    go_wp2_with fail
    refine (law02_FitF x0 v1 x1 w HFI.out hb0.1 hb0.2 HA.out).mono ?_
    rintro e w3 ⟨rfl, hb3⟩
    have HB3 := hid hb3
    clear hb3
    go_wp2_with (go_at_call 21; refine (law02_known _).mono ?_; rintro e w' ⟨rfl, hb⟩)
    go_ret
    exact ⟨rfl, (below_al HB3.out HB3.out.size _).trans (hb.mono (by have := HB3.out.size; simp only [size_al]; omega))⟩
  | true =>
    have HFI := hid hfit
    have hlf := fitB_bounds hfit
    obtain ⟨i1, hj, hy0, hy1, hy2⟩ := info_parts info_ints
    obtain ⟨f, hf⟩ : ∃ f, f = fitF x0 x1 := ⟨_, rfl⟩
    have hfl : f.length ≤ 30 := by rw [hf, fitF_length]; exact hlf.1
    have HFE := hid hf
    have HFOK : Hid (FOk f) := hf ▸ fok_fit hfit
    have HCK : Hid (cnfCheck (fitV x0) f = 0) := hf ▸ cnfCheck_fit hfit
    obtain ⟨V, hV⟩ : ∃ V, fitV x0 = V := ⟨_, rfl⟩
    have hVr : 1 ≤ V ∧ V ≤ 12 := hV ▸ fitV_range x0
    have HFC : Hid (∀ c ∈ f, c.length ≤ 20) := fun c hc => (mem_fitF hfit (hf ▸ hc)).1
    obtain ⟨m, hm⟩ : ∃ m, m = modelL V.toNat x2 := ⟨_, rfl⟩
    have hml : (m.length : Int) = V := by rw [hm]; simp [modelL]; omega
    have hin : ∀ c ∈ f, ∀ x ∈ c, x ≠ 0 ∧ x.natAbs ≤ m.length := fun c hc x hx => by
      have := (mem_fitF hfit (hf ▸ hc)).2 x hx
      rw [hV] at this
      omega
    rw [hV] at HCK
    have HVE := hid hV
    have HM := hid hm
    have hmb : m.length ≤ 12 := by omega
    have HML : Hid (cnfFirst V f m = (firstIdx m f, 0)) := cnfFirst_idx HCK.out (by rw [hml]; simp)
    have HML2 : Hid (cnfFirst V (normF f) m = (firstIdx m (normF f), 0)) := cnfFirst_idx (cnfCheck_normF HCK.out) (by rw [hml]; simp)
    have heq := normF_holds hin
    obtain ⟨at0, hat⟩ : ∃ at0, firstIdx m f = at0 := ⟨_, rfl⟩
    obtain ⟨at1, hat1⟩ : ∃ at1, firstIdx m (normF f) = at1 := ⟨_, rfl⟩
    rw [hat] at HML
    rw [hat1] at HML2
    rw [hat, hat1] at heq
    have HEQ := hid heq
    have HGOK : Hid (FOk (normF f)) := by
      intro d hd
      obtain ⟨c, hc, _, rfl⟩ := mem_normF.1 hd
      have := normV_len c
      exact ⟨fun x hx => (HFOK.out c hc).1 x (normV_sub hx), by have := (HFOK.out c hc).2; omega⟩
    clear hfit hlf hf hV hm hml hat hat1 hin heq
    go_enter Try.func19, Try.ntmps19
    go_wp2_with fail
    refine (law02_FitC x0 v1 x1 w HFI.out hb0.1 hb0.2 HA.out).mono ?_
    rw [HVE.out, ← HFE.out]
    rintro e w3 ⟨a, c, rfl, hfc, -, hr3, hb3⟩
    have hbz : Below w3.heap.size w3 ((w3.alloc (.cells #[.int .i64 V, .slice a f.length c] 24)).alloc (.cells #[.int .i64 V, .slice none 0 0] 24)) := below_al (box_below _ _) (by simp only [size_al]; omega) _
    have HBZ := hid hbz
    have HB3 := hid hb3
    have HR3 := hid hr3
    have hz3 := hb3.size
    clear hb3 hr3 hbz
    go_wp2_with fail
    go_loopw [10] (fun i wr => ∃ (k : Nat) (v : Value), k ≤ f.length ∧ i = .int .i64 k ∧ Hid (wr.heap[w3.heap.size]? = some (.cells #[.int .i64 V, .slice a f.length c] 24)) ∧ Hid (wr.heap[w3.heap.size + 1]? = some (.cells #[.int .i64 V, v] 24)) ∧
        Hid (OwnRt wr (w3.heap.size + 2) v (normF (f.take k))) ∧ Below w3.heap.size w3 wr ∧ w3.heap.size + 2 ≤ wr.heap.size) (fun i _ => f.length - (intOf i).toNat)
    case atStart => exact ⟨0, .slice none 0 0, Nat.zero_le _, rfl, blk_1 _ _ _, blk_2 _ _ _, OwnRt.nil _ _, HBZ.out, by simp only [size_al]; omega⟩
    case round =>
      obtain ⟨k, v, hk, rfl, hB0, hB1, hown, hb, hsz⟩ := hrel
      have hq0 : wr.cell? ⟨w3.heap.size, 0, none⟩ = some (.int .i64 V) := fit_cell (vs := [.int .i64 V, .slice a f.length c]) hB0.out 0
      have hq1 : wr.cell? ⟨w3.heap.size, 1, none⟩ = some (.slice a f.length c) := fit_cell (vs := [.int .i64 V, .slice a f.length c]) hB0.out 1
      by_cases hlt : k < f.length
      · obtain ⟨b, off, cl, a1, cc1, rfl, hcell, hsl, hcl, hx1, -, hcap, hnn⟩ := (HR3.out.below hb).row HFOK.out hlt
        have HS := hid hsl
        have HX := hid hx1
        have HNN := hid hnn
        have hcl2 : cl.length ≤ 20 := HFC.out cl (List.mem_of_getElem? hcl)
        have HCL := hid hcl
        obtain ⟨r, hr⟩ : ∃ r, adjB (normL cl) = r := ⟨_, rfl⟩
        obtain ⟨ys, hys⟩ : ∃ ys, normV cl = ys := ⟨_, rfl⟩
        have HR := hid hr
        have HY := hid hys
        have hyl : ys.length ≤ 20 := by rw [← hys]; exact Nat.le_trans (normV_len _) hcl2
        clear hsl hx1 hcl hnn hr hys
        go_wp2_with fail
        refine (lit_NormR a1 cl ys r _ cc1 wr HR.out HY.out rfl hcap HNN.out HS.out HX.out (by omega)).mono ?_
        rintro e w4 ⟨a4, c4, rfl, ho4, hb4⟩
        have hB04 : w4.heap[w3.heap.size]? = some (.cells #[.int .i64 V, .slice (some ⟨b, off, none⟩) f.length c] 24) := (hb4.block _ (by omega)).trans hB0.out
        have hB14 : w4.heap[w3.heap.size + 1]? = some (.cells #[.int .i64 V, v] 24) := (hb4.block _ (by omega)).trans hB1.out
        have HB04 := hid hB04
        have HB14 := hid hB14
        have HO4 := hid ho4
        have HB4 := hid (hb.trans (hb4.mono (by omega)))
        have HOW := hid (hown.out.below hb4)
        have hz4 : w3.heap.size + 2 ≤ w4.heap.size := by have := hb4.size; omega
        have hz41 := hb4.size
        clear hq0 hq1 hcell hown ho4 hb4 hB0 hB1 hb
        cases r with
        | true =>
          clear hB14 hB04
          go_wp2_with fail
          go_roundw
          case rel => exact ⟨k + 1, v, by omega, by go_num, HB04.out, HB14.out, by rw [normF_skip HCL.out HR.out]; exact HOW.out, HB4.out, hz4⟩
          case measure => simp [intOf]; omega
        | false =>
          have hp1 : w4.cell? ⟨w3.heap.size + 1, 1, none⟩ = some v := fit_cell (vs := [.int .i64 V, v]) hB14 1
          obtain ⟨vs, hv1, hv2⟩ := HOW.out
          have HV1 := hid hv1
          have HV2 := hid hv2
          have hnl : (normF (f.take k)).length ≤ k := Nat.le_trans (normF_length _) (by simp; omega)
          have HONE : Hid (∀ u ∈ [Value.slice a4 ys.length c4], u.oneCell' = true) := by
            intro u hu
            simp at hu
            subst hu
            rfl
          clear hB14 hB04 hv1 hv2
          go_wp2_with (at_builtin; refine wpList_append_sl _ rfl _ _ 22 rfl (w3.heap.size + 2) 40 i1 (.slice none 0 0) 24 Try.underlying22 hj hy0 hy1 hy2 rfl v (normF (f.take k)).length vs rfl (HV1.out.alloc _) _ 1 _ [.slice a4 ys.length c4] rfl (slv_new _ [.slice a4 ys.length c4] _ _) rfl (by nofun) HONE.out (by unfold maxLen; omega) (by omega) (by simp only [size_al]; omega) ?_; intro v9 w9 ho9 hg9; have HG9 := hid hg9; have HO9 := hid ho9; have hq9 : w9.heap[w3.heap.size + 1]? = some (.cells #[.int .i64 V, v] 24) := (hg9.block _ (by simp only [size_al]; omega) (own_not HV1.out (by omega))).trans ((Below.heap_alloc _ _ _ (by omega)).trans HB14.out); have HQ9 := hid hq9; have hr1 : w9.cell? ⟨w3.heap.size + 1, 1, none⟩ = some v := fit_cell (vs := [.int .i64 V, v]) hq9 1; have hr2 : w9.frozen? ⟨w3.heap.size + 1, 1, none⟩ = false := frozen_of_row _ _ _ _ _ hq9; obtain ⟨a9, c9, rfl, -⟩ := own_sl ho9; clear ho9 hg9 hq9)
          have hX := HG9.out.size
          simp only [size_al] at hX
          have hpush : OwnRt w9 (w3.heap.size + 2) (.slice a9 (vs.length + 1) c9) (normF (f.take (k + 1))) := by
            rw [normF_keep HCL.out HR.out, HY.out]
            refine OwnRt.push (HV1.out.alloc _) (fun j d hd => let ⟨u, e1, e2⟩ := HV2.out j d hd; ⟨u, e1, e2.below (box_below _ _)⟩) ((HO4.out.base (by omega)).below (box_below _ _)) ?_ HG9.out
            have h := HO9.out
            rw [List.length_append] at h
            exact h
          have hb9 : Below w3.heap.size w3 w9 := (below_al HB4.out (by omega) _).grown HG9.out (by simp only [size_al]; omega) (fun q hq => by have := (HV1.out.lt q hq).1; omega)
          have hB09 : w9.heap[w3.heap.size]? = some (.cells #[.int .i64 V, .slice (some ⟨b, off, none⟩) f.length c] 24) := (HG9.out.block _ (by simp only [size_al]; omega) (own_not HV1.out (by omega))).trans ((Below.heap_alloc _ _ _ (by omega)).trans HB04.out)
          have HP := hid hpush
          have HB09 := hid hB09
          clear hpush hB09
          go_roundw
          case rel =>
            refine ⟨k + 1, .slice a9 (vs.length + 1) c9, by omega, by go_num, ?_, ?_, HP.out.setBelow (by simp) _, hb9.setCell (by simp) _, by simp [World.setCell]; omega⟩
            · exact (Below.heap_setCell _ _ _ _ (by simp)).trans HB09.out
            · exact heap_setCell_same w9 (w3.heap.size + 1) 1 #[.int .i64 V, v] 24 _ HQ9.out
          case measure => simp [intOf]; omega
      · have hkl : k = f.length := by omega
        have hO := hown.out
        rw [hkl, List.take_length] at hO
        obtain ⟨g, hg⟩ : ∃ g, g = normF f := ⟨_, rfl⟩
        have hgl : g.length ≤ 30 := by rw [hg]; exact Nat.le_trans (normF_length f) hfl
        rw [← hg] at HML2 HGOK hO
        obtain ⟨ag, cg, rfl, -, -, hrg⟩ := hO.shape
        have hp0 : wr.cell? ⟨w3.heap.size + 1, 0, none⟩ = some (.int .i64 V) := fit_cell (vs := [.int .i64 V, .slice ag g.length cg]) hB1.out 0
        have hp1 : wr.cell? ⟨w3.heap.size + 1, 1, none⟩ = some (.slice ag g.length cg) := fit_cell (vs := [.int .i64 V, .slice ag g.length cg]) hB1.out 1
        have HRG := hid hrg
        have HRF := hid (HR3.out.below hb)
        have HB := hid (HB3.out.trans (hb.mono hz3))
        have hzr := HB.out.size
        clear hkl hO hg hrg hown hb
        go_wp2_with fail
        refine (law02_ModelR V V.toNat x2 _ (by omega) (by omega) hb2.1 hb2.2).mono ?_
        rw [← HM.out]
        rintro e w4 ⟨a4, c4, rfl, -, hs4, hb4⟩
        have HB4 := hid (HB.out.trans (hb4.mono hzr))
        have HRF4 := hid (HRF.out.below hb4)
        have HRG4 := hid (HRG.out.below hb4)
        have HS4 := hid hs4
        have r0 := below_keeps hb4 _ _ hq0
        have r1 := below_keeps hb4 _ _ hq1
        have r2 := below_keeps hb4 _ _ hp0
        have r3 := below_keeps hb4 _ _ hp1
        clear hb4 hs4 hq0 hq1 hp0 hp1
        go_wp2_with fail
        refine (cnf_FirstR V _ f _ _ _ m _ _ at0 0 _ HML.out rfl rfl HFOK.out HRF4.out HS4.out (by omega) (by omega)).mono ?_
        rintro e w5 ⟨rfl, hb5⟩
        have HB5 := hid (HB4.out.trans (hb5.mono HB4.out.size))
        have HRG5 := hid (HRG4.out.below hb5)
        have HS5 := hid (HS4.out.below hb5)
        have q2 := below_keeps hb5 _ _ r2
        have q3 := below_keeps hb5 _ _ r3
        clear hb5 r0 r1 r2 r3
        go_wp2_with fail
        refine (cnf_FirstR V _ g _ _ _ m _ _ at1 0 _ HML2.out rfl rfl HGOK.out HRG5.out HS5.out (by omega) (by omega)).mono ?_
        rintro e w6 ⟨rfl, hb6⟩
        have HB6 := hid (HB5.out.trans (hb6.mono HB5.out.size))
        have heq := HEQ.out
        clear hb6 q2 q3
        obtain ⟨r, hr⟩ : ∃ r, (at1 == -1) = r := ⟨_, rfl⟩
        rw [hr] at heq
        cases r
        all_goals
          go_wp2_with (go_at_call 21; refine (law02_known _).mono ?_; rintro e w' ⟨rfl, hb⟩)
          go_ret
          exact ⟨rfl, HB6.out.trans (hb.mono HB6.out.size)⟩

end Go.Proofs.Ytaekcejenagbgaa
