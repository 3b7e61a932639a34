/- The walk of PropSound. -/
import Derived.Test.YtfgaglgaofceiaaWGrows
import Derived.Test.YtfgaglgaofceiaaPSound
import Derived.Deep.RegionHeld3
namespace Go.Proofs.Ytfgaglgaofceiaa.Ord
open Go.RowKit

theorem lit_at {M : List Bool} {y : Int} {q : Nat} {z : Bool} (hq : y.natAbs = q + 1) (hz : M[q]? = some z) : litHolds M y = (z == decide (0 < y)) := by
  unfold litHolds
  rw [hq, Nat.add_sub_cancel, hz]
  simp

theorem take_cons_mem0 {xs : List Int} {k : Nat} {x y : Int} (hx : xs[k]? = some x) (h : y ∈ xs.take (k + 1)) : y ∈ xs.take k ∨ y = x := by
  rw [List.take_add_one, hx] at h
  simpa using h

theorem setL {P M : List Bool} {j : Nat} {b : Bool} (hl : P.length = M.length) (hb : P[j]? = some b) : (bools (P.take j ++ M.drop j)).set j (.bool b) = bools (P.take (j + 1) ++ M.drop (j + 1)) := by
  have hj : j < P.length := (List.getElem?_eq_some_iff.1 hb).1
  have h1 : M.drop j = M[j] :: M.drop (j + 1) := List.drop_eq_getElem_cons (by omega)
  rw [h1, List.take_add_one, hb]
  simp only [bools, List.map_append, List.map_cons, Option.toList]
  rw [List.set_append_right _ _ (by simp; omega)]
  have h2 : j - (List.map Value.bool (List.take j P)).length = 0 := by simp; omega
  rw [h2]
  simp

set_option maxRecDepth 100000 in
set_option maxHeartbeats 8000000 in
theorem walk_PropSound (x0 : Int) (v1 : Value) (x1 : List (List Int)) (v2 : Value) (x2 : List Int) (x3 : Int) (w : World) (w0 : (Lit.int .u8 x0).wf = true) (w1 : ArgR .i8 w v1 x1) (w2 : ArgI .i8 w v2 x2) (w3 : (Lit.int .u16 x3).wf = true) :
    Calls Try.prog 13 #[.int .u8 x0, v1, v2, .int .u16 x3] w fun e w' => e = .returned (.bool true) ∧ Below w.heap.size w w' := by
  have hb0 := bounds_u8 w0
  have hb3' := bounds_u16 w3
  have HA := hid w1
  have HL := hid w2
  clear w0 w1 w2 w3
  cases hfit : fitB x1 with
  | false =>
    have HFI := hid hfit
    clear hfit
    go_enter Try.func13, Try.ntmps13
    go_wp2_with fail
    refine (law02_FitF x0 v1 x1 w HFI.out hb0.1 hb0.2 HA.out).mono ?_
    rintro e w3 ⟨rfl, hb3⟩
    have HB3 := hid hb3
    clear hb3
    go_wp2_with (go_at_call 30; refine (law04_known _).mono ?_; rintro e w' ⟨rfl, hb⟩)
    go_ret
    exact ⟨rfl, (below_al HB3.out HB3.out.size _).trans (hb.mono (by have := HB3.out.size; simp only [size_al]; omega))⟩
  | true =>
    have hV := fitV_range x0
    obtain ⟨n, hn⟩ : ∃ n : Nat, fitV x0 = (n : Int) := ⟨(fitV x0).toNat, by omega⟩
    have hn1 : 1 ≤ n ∧ n ≤ 12 := by omega
    obtain ⟨F, hF⟩ : ∃ F, fitF x0 x1 = F := ⟨_, rfl⟩
    have hfl : F.length ≤ 30 := by rw [← hF, fitF_length]; exact (fitB_bounds hfit).1
    obtain ⟨A, hA⟩ : ∃ A, asmL n x2 = A := ⟨_, rfl⟩
    have hal : A.length ≤ 12 := hA ▸ asmL_length _ _
    have hcl : ∀ c ∈ F, c.length ≤ 1048576 := fun c hc => by
      rw [← hF] at hc
      simp only [fitF, List.mem_map] at hc
      obtain ⟨c', hc', rfl⟩ := hc
      have := fitC_length (fitV x0) c'
      have := (fitB_bounds hfit).2 c' hc'
      omega
    have hcok : ClsOk n F := hF ▸ clsok_fit x0 hn.symm x1
    have haok : ∀ a ∈ A, LitOk n a := hA ▸ asmL_ok hn1.1 x2
    have hok : UOk n F A := ⟨by omega, hF ▸ fok_fit hfit, by omega, by omega, hcl, by rw [← hn, ← hF]; exact cnfCheck_fit hfit, hcok, haok⟩
    obtain ⟨V, hVV⟩ : ∃ V, upL n F A = V := ⟨_, rfl⟩
    obtain ⟨bv, hbv⟩ : ∃ b, upF F A = b := ⟨_, rfl⟩
    have hvl : V.length ≤ 24 := by have := upL_length n F A; rw [hVV] at this; omega
    obtain ⟨M, hM⟩ : ∃ M, modelL n x3 = M := ⟨_, rfl⟩
    have hml : M.length = n := by rw [← hM]; simp [modelL]
    obtain ⟨at0, hat⟩ : ∃ i, firstIdx M F = i := ⟨_, rfl⟩
    have hfirst : cnfFirst n F M = (at0, 0) := by
      unfold cnfFirst
      rw [if_neg (by simpa using hok.chk), if_neg (by simp [hml]), hat]
    have hfirst2 : bv = false → V.length = n → cnfFirst n F (V.map fun x => decide (0 < x)) = (-1, 0) := fun h1 h2 => by
      unfold cnfFirst
      rw [if_neg (by simpa using hok.chk), if_neg (by simp [h2]), up_model hcok hVV (hbv.trans h1) h2]
    have hsnd : at0 = -1 → (∀ a ∈ A, litHolds M a = true) → bv = false ∧ ∀ a ∈ V, litHolds M a = true := fun h1 h2 => by
      have h3 := firstIdx_all (hat.trans h1)
      constructor
      · rw [← hbv]
        exact upF_false.2 fun h => bad_no_model h3 h2 h
      · intro a ha
        have hg : ¬ Bad F A := fun h => bad_no_model h3 h2 h
        rw [← hVV, mem_upL hcok haok hg] at ha
        exact der_holds h3 h2 ha
    have hvok : ∀ a ∈ V, LitOk n a := hVV ▸ upL_ok
    have HM := hid hM
    have HML := hid hml
    have HFS := hid hfirst
    have HFS2 := hid hfirst2
    have HSND := hid hsnd
    have HVOK := hid hvok
    have HAOK := hid haok
    have HN := hid hn
    have HF := hid hF
    have HAE := hid hA
    have HOK := hid hok
    have HV := hid (And.intro hVV hbv)
    have HFI := hid hfit
    clear hfit hF hA hcl hcok haok hok hVV hbv hn hV hM hml hat hfirst hfirst2 hsnd hvok
    go_enter Try.func13, Try.ntmps13
    go_wp2_with fail
    refine (law02_FitG x0 v1 x1 w HFI.out hb0.1 hb0.2 HA.out).mono ?_
    rw [HN.out, HF.out]
    rintro e w3 ⟨a, c, rfl, hfc, hr3, hb3⟩
    have HB3 := hid hb3
    have HR3 := hid (hr3.below (box_below w3 (fbox n a F.length c)))
    have hz3 := hb3.size
    have HL3 := hid (argI_below HL.out (hb3.trans ((box_below w3 (fbox n a F.length c)).mono hz3)))
    clear hb3 hr3
    go_wp2_with fail
    refine (law04_assumed n a F.length c v2 x2 _ (by omega) HL3.out).mono ?_
    rw [HAE.out]
    rintro e w4 ⟨va, rfl, hsl4, hb4⟩
    obtain ⟨a4, c4, rfl, hc4, -, hs4⟩ := hsl4
    have HB4 := hid ((below_al HB3.out hz3 _).trans (hb4.mono (by simp only [size_al]; omega)))
    have HR4 := hid (HR3.out.below hb4)
    have hq0 := hb4.cell (p := ⟨w3.heap.size, 0, none⟩) (by simp only [size_al]; omega)
    have hq1 := hb4.cell (p := ⟨w3.heap.size, 1, none⟩) (by simp only [size_al]; omega)
    have hp0 : w4.cell? ⟨w3.heap.size, 0, none⟩ = some (.int .i64 n) := by rw [hq0]; exact fit_cell (vs := [.int .i64 n, .slice a F.length c]) (heap_alloc_new w3 _) 0
    have hp1 : w4.cell? ⟨w3.heap.size, 1, none⟩ = some (.slice a F.length c) := by rw [hq1]; exact fit_cell (vs := [.int .i64 n, .slice a F.length c]) (heap_alloc_new w3 _) 1
    have HS4 := hid hs4
    clear hb4 hs4 hq0 hq1
    go_wp2_with fail
    refine (prop_UnitsG n a F F.length c a4 A A.length c4 V bv w4 HV.out.1 HV.out.2 HOK.out rfl rfl HR4.out HS4.out).mono ?_
    rintro e w5 ⟨hb5, av, cv, rfl, hsv⟩
    have HB5 := hid (HB4.out.trans (hb5.mono HB4.out.size))
    have HR5 := hid (HR4.out.below hb5)
    have HS5 := hid (HS4.out.below hb5)
    have HV5 := hid hsv
    have hp50 := below_keeps hb5 _ _ hp0
    have hp51 := below_keeps hb5 _ _ hp1
    have hwn : IntKind.i64.wrap (-(n : Int)) = -(n : Int) := IntWalk.i64_in _ (by omega)
    clear hb5 hsv hp0 hp1
    go_wp2_with fail
    go_loopw [15] (fun s15 wr => ∃ j nd : Nat, s15 = .int .i64 j ∧ j ≤ V.length ∧ wr = w5.drewN nd) (fun s15 _ => (V.length - (intOf s15)).toNat)
    case atStart => exact ⟨0, 0, rfl, Nat.zero_le _, rfl⟩
    case round =>
      obtain ⟨j, nd, rfl, hj, rfl⟩ := hrel
      by_cases hlt : j < V.length
      · obtain ⟨bo, oo, y, rfl, hcy, hyj⟩ := HV5.out.int hlt
        have hy := HVOK.out y (List.mem_of_getElem? hyj)
        unfold LitOk at hy
        have d0 : (y == 0) = false := by rw [beq_eq_false_iff_ne]; exact hy.1
        have d1 : decide ((n : Int) < y) = false := decide_eq_false (by omega)
        have d2 : decide (y < -(n : Int)) = false := decide_eq_false (by omega)
        have hwj : IntKind.i64.wrap ((j : Int) + 1) = (j : Int) + 1 := IntWalk.i64_in _ (by omega)
        clear hyj hy
        go_wp2_with fail
        go_quiet (fail)
        go_wp2_with fail
        go_roundw
        case rel => exact ⟨j + 1, _, by simp, hlt, (by first | rfl | exact World.drewN_drewN ..)⟩
        case measure => simp [intOf]; omega
      · clear hwn
        have hbd : Below w5.heap.size w5 (w5.drewN nd) := below_dr (Below.refl _ _) nd
        generalize w5.drewN nd = w5d at hbd ⊢
        have HBD := hid (HB5.out.trans (hbd.mono HB5.out.size))
        have HR5' := hid (HR5.out.below hbd)
        have HS5' := hid (HS5.out.below hbd)
        have HV5' := hid (HV5.out.below hbd)
        have hp50' := below_keeps hbd _ _ hp50
        have hp51' := below_keeps hbd _ _ hp51
        clear hbd hp50 hp51
        go_wp2_with fail
        refine (law02_ModelR n n x3 w5d rfl (by omega) hb3'.1 hb3'.2).mono ?_
        rw [HM.out, HML.out]
        rintro e w6 ⟨am, cm, rfl, hom, hsm, hb6⟩
        have HB6 := hid (HBD.out.trans (hb6.mono HBD.out.size))
        have HR6 := hid (HR5'.out.below hb6)
        have HS6 := hid (HS5'.out.below hb6)
        have HV6 := hid (HV5'.out.below hb6)
        have HM6 := hid hsm
        have HBM := hid hb6
        have HOM := hid hom
        have hp60 := below_keeps hb6 _ _ hp50'
        have hp61 := below_keeps hb6 _ _ hp51'
        have hz5 : w.heap.size ≤ w5d.heap.size := HBD.out.size
        have HP0 := hid hp50'
        have HP1 := hid hp51'
        clear hb6 hsm hom hp50' hp51'
        by_cases hfull : bv = false ∧ V.length = n
        · obtain ⟨rfl, hvn⟩ := hfull
          obtain ⟨g, rfl⟩ : ∃ g, am = some ⟨g, 0, none⟩ := by
            rcases HOM.out.2 with ⟨h0, -⟩ | ⟨g, cap, cur, h0, -⟩
            · injection h0 with _ h1 _; omega
            · injection h0 with h1 _ _; exact ⟨g, h1⟩
          have HVN := hid hvn
          have d1 : ((V.length : Int) == n) = true := by rw [beq_iff_eq]; omega
          have HOM0 : Hid (w6.ownsRow w5d.heap.size 4 1 (.slice (some ⟨g, 0, none⟩) n cm) n (bools (((V.map fun x => decide (0 < x)).take 0) ++ M.drop 0))) := HOM
          have HB60 : Hid (Below w5d.heap.size w5d w6) := HBM
          clear hvn HOM HM6
          go_wp2_with fail
          clear hp60 hp61
          go_loopw [17] (fun s17 wr => ∃ j : Nat, s17 = .int .i64 j ∧ j ≤ V.length ∧ Hid (wr.ownsRow w5d.heap.size 4 1 (.slice (some ⟨g, 0, none⟩) n cm) n (bools (((V.map fun x => decide (0 < x)).take j) ++ M.drop j))) ∧ Hid (Below w5d.heap.size w5d wr)) (fun s17 _ => (V.length - (intOf s17)).toNat)
          case atStart => exact ⟨0, rfl, Nat.zero_le _, HOM0, HB60⟩
          case round =>
            clear HOM0 HB60
            obtain ⟨j, rfl, hj, HO, HBR⟩ := hrel
            by_cases hlt : j < V.length
            · obtain ⟨bo, oo, y, rfl, hcy, hyj⟩ := (HV5'.out.below HBR.out).int hlt
              have hjn : j < n := by have := HVN.out; omega
              obtain ⟨old, hold⟩ : ∃ old, wr.cell? ⟨g, j, none⟩ = some old := by
                rw [HO.out.cellAt j (by omega)]
                exact ⟨_, List.getElem?_eq_getElem (by rw [show (bools (((V.map fun x => decide (0 < x)).take j) ++ M.drop j)).length = n by have := HO.out.1; simpa using this]; exact hjn)⟩
              have hfz : wr.frozen? ⟨g, j, none⟩ = false := HO.out.frozenAt j
              have HNX := hid (HO.out.stored j (.bool (decide (0 < y)))).1
              have HG := hid (HO.out.stored j (.bool (decide (0 < y)))).2
              have HST := hid (setL (P := V.map fun x => decide (0 < x)) (M := M) (j := j) (b := decide (0 < y)) (by rw [List.length_map, HVN.out, HML.out]) (by simp [hyj]))
              have hwj : IntKind.i64.wrap ((j : Int) + 1) = (j : Int) + 1 := IntWalk.i64_in _ (by omega)
              have hjn2 : (j : Int) < n := by omega
              clear hyj
              go_wp2_with fail
              go_roundw
              case rel => exact ⟨j + 1, by simp, hlt, hid (by rw [← HST.out]; exact HNX.out), hid (HBR.out.grown HG.out HBR.out.size (fun q hq => (HO.out.lt q hq).1))⟩
              case measure => simp [intOf]; omega
            · have hjl : j = V.length := by omega
              have HO2 : Hid (wr.ownsRow w5d.heap.size 4 1 (.slice (some ⟨g, 0, none⟩) n cm) n (bools (V.map fun x => decide (0 < x)))) := hid (by
                have h1 := HO.out
                rw [hjl, List.take_of_length_le (by simp), List.drop_of_length_le (by rw [HML.out, HVN.out]; exact Nat.le_refl _), List.append_nil] at h1
                exact h1)
              clear hjl HO
              have hrp0 := below_keeps HBR.out _ _ HP0.out
              have hrp1 := below_keeps HBR.out _ _ HP1.out
              obtain ⟨am', cm', e8, -, -, hs8⟩ := own_sl HO2.out
              injection e8 with e8 e9 e10
              subst e8
              have HS8 := hid hs8
              clear e9 e10 hs8
              have HVL : Hid (n = (V.map fun x => decide (0 < x)).length) := hid (by rw [List.length_map]; exact HVN.out.symm)
              go_wp2_with fail
              refine (cnf_FirstR n a F F.length c (some ⟨g, 0, none⟩) (V.map fun x => decide (0 < x)) n cm (-1) 0 wr (HFS2.out trivial HVN.out) rfl HVL.out HOK.out.f (HR5'.out.below HBR.out) HS8.out (by omega) (by rw [List.length_map]; omega)).mono ?_
              rintro e w8 ⟨rfl, hb8⟩
              have HB8 := hid (HBD.out.trans ((HBR.out.trans (hb8.mono HBR.out.size)).mono HBD.out.size))
              clear hb8
              go_wp2_with (go_at_call 30; refine (law04_known _).mono ?_; rintro e w' ⟨rfl, hb⟩)
              go_ret
              exact ⟨rfl, HB8.out.trans (hb.mono HB8.out.size)⟩
        · have d1 : (!bv && ((V.length : Int) == n)) = false := by
            cases bv with
            | true => rfl
            | false =>
              have : V.length ≠ n := fun h => hfull ⟨rfl, h⟩
              simp; omega
          have HD1 := hid d1
          clear hfull d1 HOM
          cases bv with
          | true =>
            go_wp2_with fail
            refine (cnf_FirstR n a F F.length c am M n cm at0 0 w6 HFS.out rfl HML.out.symm HOK.out.f HR6.out HM6.out (by omega) (by have := HML.out; omega)).mono ?_
            rintro e w7 ⟨rfl, hb7⟩
            have HB7 := hid (HB6.out.trans (hb7.mono HB6.out.size))
            have HS7 := hid (HS6.out.below hb7)
            have HV7 := hid (HV6.out.below hb7)
            have HM7 := hid (HM6.out.below hb7)
            clear hb7 hp60 hp61
            by_cases hat : at0 = -1
            · have HAT := hid hat
              have d3 : (at0 != -1) = false := by simpa using hat
              clear hat
              go_wp2_with fail
              go_loopw [22] (fun s22 wr => ∃ j nd : Nat, s22 = .int .i64 j ∧ j ≤ A.length ∧ wr = w7.drewN nd ∧ Hid (∀ x ∈ A.take j, litHolds M x = true)) (fun s22 _ => (A.length - (intOf s22)).toNat)
              case atStart => exact ⟨0, 0, rfl, Nat.zero_le _, rfl, by simp [Hid]⟩
              case round =>
                obtain ⟨j, nd, rfl, hj, rfl, HALL⟩ := hrel
                by_cases hlt : j < A.length
                · obtain ⟨bo, oo, y, rfl, hcy, hyj⟩ := HS7.out.int hlt
                  have hy := HAOK.out y (List.mem_of_getElem? hyj)
                  unfold LitOk at hy
                  obtain ⟨q, hq⟩ : ∃ q : Nat, y.natAbs = q + 1 := ⟨y.natAbs - 1, by omega⟩
                  have hqn : q < M.length := by have := HML.out; omega
                  obtain ⟨bm, om, z, rfl, hcz, hzq⟩ := HM7.out.bool hqn
                  have HQ := hid hq
                  have HYJ := hid hyj
                  have HZQ := hid hzq
                  have HNZ := hid hy.1
                  have hjA : (j : Int) < A.length := by omega
                  have hqn2 : (q : Int) < n := by have := HML.out; omega
                  have hwj : IntKind.i64.wrap ((j : Int) + 1) = (j : Int) + 1 := IntWalk.i64_in _ (by omega)
                  have hwy : IntKind.i64.wrap (-y) = -y := IntWalk.i64_in _ (by omega)
                  have hqn3 : q < n := by omega
                  have hwq : IntKind.i64.wrap (max y (-y) - 1) = (q : Int) := by rw [IntWalk.i64_in _ (by omega)]; omega
                  clear hq hyj hzq hy
                  have HLH : Hid (litHolds M y = (z == decide (0 < y))) := hid (lit_at HQ.out HZQ.out)
                  obtain ⟨p, hp⟩ : ∃ p, decide ((0 : Int) < y) = p := ⟨_, rfl⟩
                  rw [hp] at HLH
                  cases p <;> cases z
                  · have HLV : Hid (litHolds M y = true) := hid (by rw [HLH.out]; rfl)
                    have HN : Hid (∀ x ∈ A.take (j + 1), litHolds M x = true) := hid (fun x hx => (take_cons_mem0 HYJ.out hx).elim (HALL.out x) (fun e => by rw [e, HLV.out]))
                    go_wp2_with fail
                    go_region_held3 (fun w' => w'.cell? ⟨bo, oo + j, none⟩ = some (.int .i64 y) ∧ w'.cell? ⟨bm, om + q, none⟩ = some (.bool false)) (go_keep) (fail)
                    go_wp2_with fail
                    go_roundw
                    case rel => exact ⟨j + 1, _, by simp, hlt, (by first | rfl | exact World.drewN_drewN ..), HN⟩
                    case measure => simp [intOf]; omega
                  · have HLV : Hid (litHolds M y = false) := hid (by rw [HLH.out]; rfl)
                    go_wp2_with fail
                    go_region_held3 (fun w' => w'.cell? ⟨bo, oo + j, none⟩ = some (.int .i64 y) ∧ w'.cell? ⟨bm, om + q, none⟩ = some (.bool true)) (go_keep) (fail)
                    go_wp2_with fail
                    refine (law04_known _).mono ?_
                    rintro e w9 ⟨rfl, hb9⟩
                    have HB9 := hid (HB7.out.trans (((below_dr (Below.refl w7.heap.size w7) _).trans hb9).mono HB7.out.size))
                    clear hb9
                    go_wp2_with fail
                    go_ret
                    exact ⟨rfl, HB9.out⟩
                  · have HLV : Hid (litHolds M y = false) := hid (by rw [HLH.out]; rfl)
                    go_wp2_with fail
                    go_region_held3 (fun w' => w'.cell? ⟨bo, oo + j, none⟩ = some (.int .i64 y) ∧ w'.cell? ⟨bm, om + q, none⟩ = some (.bool false)) (go_keep) (fail)
                    go_wp2_with fail
                    refine (law04_known _).mono ?_
                    rintro e w9 ⟨rfl, hb9⟩
                    have HB9 := hid (HB7.out.trans (((below_dr (Below.refl w7.heap.size w7) _).trans hb9).mono HB7.out.size))
                    clear hb9
                    go_wp2_with fail
                    go_ret
                    exact ⟨rfl, HB9.out⟩
                  · have HLV : Hid (litHolds M y = true) := hid (by rw [HLH.out]; rfl)
                    have HN : Hid (∀ x ∈ A.take (j + 1), litHolds M x = true) := hid (fun x hx => (take_cons_mem0 HYJ.out hx).elim (HALL.out x) (fun e => by rw [e, HLV.out]))
                    go_wp2_with fail
                    go_region_held3 (fun w' => w'.cell? ⟨bo, oo + j, none⟩ = some (.int .i64 y) ∧ w'.cell? ⟨bm, om + q, none⟩ = some (.bool true)) (go_keep) (fail)
                    go_wp2_with fail
                    go_roundw
                    case rel => exact ⟨j + 1, _, by simp, hlt, (by first | rfl | exact World.drewN_drewN ..), HN⟩
                    case measure => simp [intOf]; omega
                · exfalso
                  have h1 := HALL.out
                  rw [List.take_of_length_le (by omega)] at h1
                  exact absurd (HSND.out HAT.out h1).1 (by simp)
            · have d3 : (at0 != -1) = true := by simpa using hat
              clear hat
              go_wp2_with fail
              refine (law04_known _).mono ?_
              rintro e w9 ⟨rfl, hb9⟩
              have HB9 := hid (HB7.out.trans (hb9.mono HB7.out.size))
              clear hb9
              go_wp2_with fail
              go_ret
              exact ⟨rfl, HB9.out⟩
          | false =>
            have d2 : ((V.length : Int) == n) = false := by have := HD1.out; simpa using this
            go_wp2_with fail
            refine (cnf_FirstR n a F F.length c am M n cm at0 0 w6 HFS.out rfl HML.out.symm HOK.out.f HR6.out HM6.out (by omega) (by have := HML.out; omega)).mono ?_
            rintro e w7 ⟨rfl, hb7⟩
            have HB7 := hid (HB6.out.trans (hb7.mono HB6.out.size))
            have HS7 := hid (HS6.out.below hb7)
            have HV7 := hid (HV6.out.below hb7)
            have HM7 := hid (HM6.out.below hb7)
            clear hb7 hp60 hp61
            by_cases hat : at0 = -1
            · have HAT := hid hat
              have d3 : (at0 != -1) = false := by simpa using hat
              clear hat
              go_wp2_with fail
              go_loopw [22] (fun s22 wr => ∃ j nd : Nat, s22 = .int .i64 j ∧ j ≤ A.length ∧ wr = w7.drewN nd ∧ Hid (∀ x ∈ A.take j, litHolds M x = true)) (fun s22 _ => (A.length - (intOf s22)).toNat)
              case atStart => exact ⟨0, 0, rfl, Nat.zero_le _, rfl, by simp [Hid]⟩
              case round =>
                obtain ⟨j, nd, rfl, hj, rfl, HALL⟩ := hrel
                by_cases hlt : j < A.length
                · obtain ⟨bo, oo, y, rfl, hcy, hyj⟩ := HS7.out.int hlt
                  have hy := HAOK.out y (List.mem_of_getElem? hyj)
                  unfold LitOk at hy
                  obtain ⟨q, hq⟩ : ∃ q : Nat, y.natAbs = q + 1 := ⟨y.natAbs - 1, by omega⟩
                  have hqn : q < M.length := by have := HML.out; omega
                  obtain ⟨bm, om, z, rfl, hcz, hzq⟩ := HM7.out.bool hqn
                  have HQ := hid hq
                  have HYJ := hid hyj
                  have HZQ := hid hzq
                  have HNZ := hid hy.1
                  have hjA : (j : Int) < A.length := by omega
                  have hqn2 : (q : Int) < n := by have := HML.out; omega
                  have hwj : IntKind.i64.wrap ((j : Int) + 1) = (j : Int) + 1 := IntWalk.i64_in _ (by omega)
                  have hwy : IntKind.i64.wrap (-y) = -y := IntWalk.i64_in _ (by omega)
                  have hqn3 : q < n := by omega
                  have hwq : IntKind.i64.wrap (max y (-y) - 1) = (q : Int) := by rw [IntWalk.i64_in _ (by omega)]; omega
                  clear hq hyj hzq hy
                  have HLH : Hid (litHolds M y = (z == decide (0 < y))) := hid (lit_at HQ.out HZQ.out)
                  obtain ⟨p, hp⟩ : ∃ p, decide ((0 : Int) < y) = p := ⟨_, rfl⟩
                  rw [hp] at HLH
                  cases p <;> cases z
                  · have HLV : Hid (litHolds M y = true) := hid (by rw [HLH.out]; rfl)
                    have HN : Hid (∀ x ∈ A.take (j + 1), litHolds M x = true) := hid (fun x hx => (take_cons_mem0 HYJ.out hx).elim (HALL.out x) (fun e => by rw [e, HLV.out]))
                    go_wp2_with fail
                    go_region_held3 (fun w' => w'.cell? ⟨bo, oo + j, none⟩ = some (.int .i64 y) ∧ w'.cell? ⟨bm, om + q, none⟩ = some (.bool false)) (go_keep) (fail)
                    go_wp2_with fail
                    go_roundw
                    case rel => exact ⟨j + 1, _, by simp, hlt, (by first | rfl | exact World.drewN_drewN ..), HN⟩
                    case measure => simp [intOf]; omega
                  · have HLV : Hid (litHolds M y = false) := hid (by rw [HLH.out]; rfl)
                    go_wp2_with fail
                    go_region_held3 (fun w' => w'.cell? ⟨bo, oo + j, none⟩ = some (.int .i64 y) ∧ w'.cell? ⟨bm, om + q, none⟩ = some (.bool true)) (go_keep) (fail)
                    go_wp2_with fail
                    refine (law04_known _).mono ?_
                    rintro e w9 ⟨rfl, hb9⟩
                    have HB9 := hid (HB7.out.trans (((below_dr (Below.refl w7.heap.size w7) _).trans hb9).mono HB7.out.size))
                    clear hb9
                    go_wp2_with fail
                    go_ret
                    exact ⟨rfl, HB9.out⟩
                  · have HLV : Hid (litHolds M y = false) := hid (by rw [HLH.out]; rfl)
                    go_wp2_with fail
                    go_region_held3 (fun w' => w'.cell? ⟨bo, oo + j, none⟩ = some (.int .i64 y) ∧ w'.cell? ⟨bm, om + q, none⟩ = some (.bool false)) (go_keep) (fail)
                    go_wp2_with fail
                    refine (law04_known _).mono ?_
                    rintro e w9 ⟨rfl, hb9⟩
                    have HB9 := hid (HB7.out.trans (((below_dr (Below.refl w7.heap.size w7) _).trans hb9).mono HB7.out.size))
                    clear hb9
                    go_wp2_with fail
                    go_ret
                    exact ⟨rfl, HB9.out⟩
                  · have HLV : Hid (litHolds M y = true) := hid (by rw [HLH.out]; rfl)
                    have HN : Hid (∀ x ∈ A.take (j + 1), litHolds M x = true) := hid (fun x hx => (take_cons_mem0 HYJ.out hx).elim (HALL.out x) (fun e => by rw [e, HLV.out]))
                    go_wp2_with fail
                    go_region_held3 (fun w' => w'.cell? ⟨bo, oo + j, none⟩ = some (.int .i64 y) ∧ w'.cell? ⟨bm, om + q, none⟩ = some (.bool true)) (go_keep) (fail)
                    go_wp2_with fail
                    go_roundw
                    case rel => exact ⟨j + 1, _, by simp, hlt, (by first | rfl | exact World.drewN_drewN ..), HN⟩
                    case measure => simp [intOf]; omega
                · have h1 := HALL.out
                  rw [List.take_of_length_le (by omega)] at h1
                  have HV2 : Hid (∀ a ∈ V, litHolds M a = true) := hid (HSND.out HAT.out h1).2
                  have hbq : Below w7.heap.size w7 (w7.drewN nd) := below_dr (Below.refl _ _) nd
                  have HV8 := hid (HV7.out.below hbq)
                  have HM8 := hid (HM7.out.below hbq)
                  have HB8 := hid (HB7.out.trans (hbq.mono HB7.out.size))
                  clear h1 hbq
                  generalize w7.drewN nd = w8 at HV8 HM8 HB8 ⊢
                  go_wp2_with fail
                  go_loopw [23] (fun s23 wr => ∃ j nd : Nat, s23 = .int .i64 j ∧ j ≤ V.length ∧ wr = w8.drewN nd) (fun s23 _ => (V.length - (intOf s23)).toNat)
                  case atStart => exact ⟨0, 0, rfl, Nat.zero_le _, rfl⟩
                  case round =>
                    obtain ⟨j, nd, rfl, hj, rfl⟩ := hrel
                    by_cases hlt : j < V.length
                    · obtain ⟨bo, oo, y, rfl, hcy, hyj⟩ := HV8.out.int hlt
                      have hy := HVOK.out y (List.mem_of_getElem? hyj)
                      unfold LitOk at hy
                      obtain ⟨q, hq⟩ : ∃ q : Nat, y.natAbs = q + 1 := ⟨y.natAbs - 1, by omega⟩
                      have hqn : q < M.length := by have := HML.out; omega
                      obtain ⟨bm, om, z, rfl, hcz, hzq⟩ := HM8.out.bool hqn
                      have HQ := hid hq
                      have HYJ := hid hyj
                      have HZQ := hid hzq
                      have HNZ := hid hy.1
                      have hjA : (j : Int) < V.length := by omega
                      have hqn2 : (q : Int) < n := by have := HML.out; omega
                      have hwj : IntKind.i64.wrap ((j : Int) + 1) = (j : Int) + 1 := IntWalk.i64_in _ (by omega)
                      have hwy : IntKind.i64.wrap (-y) = -y := IntWalk.i64_in _ (by omega)
                      have hqn3 : q < n := by omega
                      have hwq : IntKind.i64.wrap (max y (-y) - 1) = (q : Int) := by rw [IntWalk.i64_in _ (by omega)]; omega
                      clear hq hyj hzq hy
                      have HLH : Hid (litHolds M y = (z == decide (0 < y))) := hid (lit_at HQ.out HZQ.out)
                      obtain ⟨p, hp⟩ : ∃ p, decide ((0 : Int) < y) = p := ⟨_, rfl⟩
                      rw [hp] at HLH
                      cases p <;> cases z
                      · have HLV : Hid (litHolds M y = true) := hid (by rw [HLH.out]; rfl)
                        go_wp2_with fail
                        go_region_held3 (fun w' => w'.cell? ⟨bo, oo + j, none⟩ = some (.int .i64 y) ∧ w'.cell? ⟨bm, om + q, none⟩ = some (.bool false)) (go_keep) (fail)
                        go_wp2_with fail
                        go_roundw
                        case rel => exact ⟨j + 1, _, by simp, hlt, (by first | rfl | exact World.drewN_drewN ..)⟩
                        case measure => simp [intOf]; omega
                      · have HLV : Hid (litHolds M y = false) := hid (by rw [HLH.out]; rfl)
                        exfalso
                        have h1 := HV2.out y (List.mem_of_getElem? HYJ.out)
                        rw [HLV.out] at h1
                        cases h1
                      · have HLV : Hid (litHolds M y = false) := hid (by rw [HLH.out]; rfl)
                        exfalso
                        have h1 := HV2.out y (List.mem_of_getElem? HYJ.out)
                        rw [HLV.out] at h1
                        cases h1
                      · have HLV : Hid (litHolds M y = true) := hid (by rw [HLH.out]; rfl)
                        go_wp2_with fail
                        go_region_held3 (fun w' => w'.cell? ⟨bo, oo + j, none⟩ = some (.int .i64 y) ∧ w'.cell? ⟨bm, om + q, none⟩ = some (.bool true)) (go_keep) (fail)
                        go_wp2_with fail
                        go_roundw
                        case rel => exact ⟨j + 1, _, by simp, hlt, (by first | rfl | exact World.drewN_drewN ..)⟩
                        case measure => simp [intOf]; omega
                    · go_wp2_with fail
                      refine (law04_known _).mono ?_
                      rintro e w9 ⟨rfl, hb9⟩
                      have HB9 := hid (HB8.out.trans (((below_dr (Below.refl w8.heap.size w8) _).trans hb9).mono HB8.out.size))
                      clear hb9
                      go_wp2_with fail
                      go_ret
                      exact ⟨rfl, HB9.out⟩
            · have d3 : (at0 != -1) = true := by simpa using hat
              clear hat
              go_wp2_with fail
              refine (law04_known _).mono ?_
              rintro e w9 ⟨rfl, hb9⟩
              have HB9 := hid (HB7.out.trans (hb9.mono HB7.out.size))
              clear hb9
              go_wp2_with fail
              go_ret
              exact ⟨rfl, HB9.out⟩

end Go.Proofs.Ytfgaglgaofceiaa.Ord
