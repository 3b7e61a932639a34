/- The walk of PropClosed. -/
import Derived.Test.YtfgaglgaofceiaaWGrows
import Derived.Test.YtfgaglgaofceiaaPClosed
import Derived.Deep.RegionHeld3
namespace Go.Proofs.Ytfgaglgaofceiaa.Ord
open Go.RowKit Go.Conc

attribute [local go_sem ↓] Go.wp_at_zero Go.wp_at_succ

set_option maxHeartbeats 1000000 in
theorem law04_hasE (a : Option Addr) (xs : List Int) (n c : Nat) (x : Int) (r : Bool) (w : World) (hr : hasB xs x = r) (hn : n = xs.length) (hs : SlV w a (ints xs)) (hl : xs.length ≤ 4294967296) :
    Calls Try.prog 38 #[.slice a n c, .int .i64 x] w fun e w' => e = .returned (.bool r) ∧ w = w' := by
  subst hn
  have HS := hid hs
  have HR := hid hr
  clear hs hr
  go_enter Try.func38, Try.ntmps38
  go_wp2_with fail
  go_loop [5] (fun s5 => ∃ k : Nat, s5 = .int .i64 k ∧ k ≤ xs.length ∧ Hid (x ∉ xs.take k)) (fun s5 => (xs.length - (intOf s5)).toNat)
  case atStart => exact ⟨0, rfl, Nat.zero_le _, hid (by simp)⟩
  case round =>
    obtain ⟨k, rfl, hk, HK⟩ := hrel
    by_cases hlt : k < xs.length
    · obtain ⟨bo, oo, y, rfl, hcy, hyk⟩ := HS.out.int hlt
      have hwk : IntKind.i64.wrap ((k : Int) + 1) = (k : Int) + 1 := IntWalk.i64_in _ (by omega)
      have htk : xs.take (k + 1) = xs.take k ++ [y] := by rw [List.take_add_one, hyk]; rfl
      by_cases he : y = x
      · have hrt : r = true := by rw [← HR.out]; simp [hasB, ← he, List.mem_of_getElem? hyk]
        subst hrt
        subst he
        clear hyk htk
        go_wp2_with fail
        go_ret
        exact ⟨rfl, rfl⟩
      · have d1 : (y == x) = false := by simp [he]
        have HK9 : Hid (x ∉ xs.take (k + 1)) := hid (by rw [htk]; simp only [List.mem_append, List.mem_singleton]; rintro (h | h); exact HK.out h; exact he h.symm)
        clear hyk htk
        go_wp2_with fail
        go_round
        case rel => exact ⟨k + 1, by simp, hlt, HK9⟩
        case measure => simp [intOf]; omega
    · have hrf : r = false := by
        have h1 := HK.out
        rw [List.take_of_length_le (by omega)] at h1
        rw [← HR.out]; simp [hasB, h1]
      subst hrf
      go_wp2_with fail
      go_ret
      exact ⟨rfl, rfl⟩

set_option maxRecDepth 100000 in
set_option maxHeartbeats 4000000 in
theorem walk_PropClosed (x0 : Int) (v1 : Value) (x1 : List (List Int)) (v2 : Value) (x2 : List Int) (w : World) (w0 : (Lit.int .u8 x0).wf = true) (w1 : ArgR .i8 w v1 x1) (w2 : ArgI .i8 w v2 x2) :
    Calls Try.prog 10 #[.int .u8 x0, v1, v2] w fun e w' => e = .returned (.bool true) ∧ Below w.heap.size w w' := by
  obtain ⟨i0, hi0, hz0, hz1, hz2⟩ := info_parts info_intU
  have hb0 := bounds_u8 w0
  have HA := hid w1
  have HL := hid w2
  clear w0 w1 w2
  cases hfit : fitB x1 with
  | false =>
    have HFI := hid hfit
    clear hfit
    go_enter Try.func10, Try.ntmps10
    go_wp2_with fail
    refine (law02_FitF x0 v1 x1 w HFI.out hb0.1 hb0.2 HA.out).mono ?_
    rintro e w3 ⟨rfl, hb3⟩
    have HB3 := hid hb3
    clear hb3
    go_wp2_with (go_at_call 30; refine (law04_known _).mono ?_; rintro e w' ⟨rfl, hb⟩)
    go_ret
    exact ⟨rfl, (below_al HB3.out HB3.out.size _).trans (hb.mono (by have := HB3.out.size; simp only [size_al]; omega))⟩
  | true =>
    have hV := fitV_range x0
    obtain ⟨n, hn⟩ : ∃ n : Nat, fitV x0 = (n : Int) := ⟨(fitV x0).toNat, by omega⟩
    have hn1 : 1 ≤ n ∧ n ≤ 12 := by omega
    obtain ⟨F, hF⟩ : ∃ F, fitF x0 x1 = F := ⟨_, rfl⟩
    have hfl : F.length ≤ 30 := by rw [← hF, fitF_length]; exact (fitB_bounds hfit).1
    obtain ⟨A, hA⟩ : ∃ A, asmL n x2 = A := ⟨_, rfl⟩
    have hal : A.length ≤ 12 := hA ▸ asmL_length _ _
    have hcl20 : ∀ c ∈ F, c.length ≤ 20 := fun c hc => by
      rw [← hF] at hc
      simp only [fitF, List.mem_map] at hc
      obtain ⟨c', hc', rfl⟩ := hc
      have := fitC_length (fitV x0) c'
      have := (fitB_bounds hfit).2 c' hc'
      omega
    have hcok : ClsOk n F := hF ▸ clsok_fit x0 hn.symm x1
    have haok : ∀ a ∈ A, LitOk n a := hA ▸ asmL_ok hn1.1 x2
    have hok : UOk n F A := ⟨by omega, hF ▸ fok_fit hfit, by omega, by omega, fun c hc => Nat.le_trans (hcl20 c hc) (by omega), by rw [← hn, ← hF]; exact cnfCheck_fit hfit, hcok, haok⟩
    obtain ⟨V, hVV⟩ : ∃ V, upL n F A = V := ⟨_, rfl⟩
    obtain ⟨bv, hbv⟩ : ∃ b, upF F A = b := ⟨_, rfl⟩
    have hvl : V.length ≤ 24 := by have := upL_length n F A; rw [hVV] at this; omega
    have hvn : bv = true → V = [] := fun h => by rw [← hVV]; exact (bad_up (upF_true.1 (hbv.trans h)) n).1
    have hvg : bv = false → (∀ a ∈ A, a ∈ V) ∧ (∀ a ∈ V, -a ∉ V) ∧ (∀ i x y, V[i]? = some x → V[i + 1]? = some y → x.natAbs < y.natAbs) ∧ (∀ c ∈ F, (∀ l ∈ c, l ∉ V) → 2 ≤ (seenC V c).length) ∧ ∀ a ∈ V, LitOk n a := fun h => by
      have hb := upF_false.1 (hbv.trans h)
      rw [← hVV]
      exact ⟨up_asm hcok haok hb, up_cons hcok haok hb, fun i x y => up_abs hb, fun c hc => up_clause hcok haok hb hc, upL_ok⟩
    have HN := hid hn
    have HF := hid hF
    have HAE := hid hA
    have HOK := hid hok
    have HV := hid (And.intro hVV hbv)
    have HFI := hid hfit
    have HVN := hid hvn
    have HVG := hid hvg
    have HC20 := hid hcl20
    have HAO := hid haok
    clear hfit hF hA hcl20 hcok haok hok hVV hbv hn hV hvn hvg
    go_enter Try.func10, Try.ntmps10
    go_wp2_with fail
    refine (law02_FitG x0 v1 x1 w HFI.out hb0.1 hb0.2 HA.out).mono ?_
    rw [HN.out, HF.out]
    rintro e w3 ⟨a, c, rfl, hfc, hr3, hb3⟩
    have HB3 := hid hb3
    have HR3 := hid (hr3.below (box_below w3 (fbox n a F.length c)))
    have hz3 := hb3.size
    have HL3 := hid (argI_below HL.out (hb3.trans ((box_below w3 (fbox n a F.length c)).mono hz3)))
    clear hb3 hr3
    go_wp2_with fail
    refine (law04_assumed n a F.length c v2 x2 _ (by omega) HL3.out).mono ?_
    rw [HAE.out]
    rintro e w4 ⟨va, rfl, hsl4, hb4⟩
    obtain ⟨a4, c4, rfl, hc4, -, hs4⟩ := hsl4
    have HB4 := hid ((below_al HB3.out hz3 _).trans (hb4.mono (by simp only [size_al]; omega)))
    have HR4 := hid (HR3.out.below hb4)
    have hq0 := hb4.cell (p := ⟨w3.heap.size, 0, none⟩) (by simp only [size_al]; omega)
    have hq1 := hb4.cell (p := ⟨w3.heap.size, 1, none⟩) (by simp only [size_al]; omega)
    have hp0 : w4.cell? ⟨w3.heap.size, 0, none⟩ = some (.int .i64 n) := by rw [hq0]; exact fit_cell (vs := [.int .i64 n, .slice a F.length c]) (heap_alloc_new w3 _) 0
    have hp1 : w4.cell? ⟨w3.heap.size, 1, none⟩ = some (.slice a F.length c) := by rw [hq1]; exact fit_cell (vs := [.int .i64 n, .slice a F.length c]) (heap_alloc_new w3 _) 1
    have HS4 := hid hs4
    clear hb4 hs4 hq0 hq1
    go_wp2_with fail
    refine (prop_UnitsG n a F F.length c a4 A A.length c4 V bv w4 HV.out.1 HV.out.2 HOK.out rfl rfl HR4.out HS4.out).mono ?_
    rintro e w7 ⟨hb7, av, cv, rfl, hsv⟩
    have HB7 := hid (HB4.out.trans (hb7.mono HB4.out.size))
    have HR7 := hid (HR4.out.below hb7)
    have HS7 := hid (HS4.out.below hb7)
    have HV7 := hid hsv
    have hp70 := below_keeps hb7 _ _ hp0
    have hp71 := below_keeps hb7 _ _ hp1
    have HP7 := hid (And.intro hp70 hp71)
    clear hb7 hsv hp0 hp1 hp70 hp71
    cases bv with
    | true =>
      obtain rfl : V = [] := HVN.out rfl
      go_wp2_with (go_at_call 30; refine (law04_known _).mono ?_; rintro e w' ⟨rfl, hb⟩)
      go_ret
      exact ⟨rfl, HB7.out.trans (hb.mono HB7.out.size)⟩
    | false =>
      go_wp2_with fail
      go_loopw [13] (fun s13 wr => ∃ j : Nat, s13 = .int .i64 j ∧ j ≤ A.length ∧ Hid (Below w7.heap.size w7 wr)) (fun s13 _ => (A.length - (intOf s13)).toNat)
      case atStart => exact ⟨0, rfl, Nat.zero_le _, hid (Below.refl _ _)⟩
      case round =>
        obtain ⟨j, rfl, hj, HBR⟩ := hrel
        by_cases hlt : j < A.length
        · obtain ⟨bo, oo, y, rfl, hcy, hyj⟩ := (HS7.out.below HBR.out).int hlt
          have hwj : IntKind.i64.wrap ((j : Int) + 1) = (j : Int) + 1 := IntWalk.i64_in _ (by omega)
          have HH := hid (show hasB V y = true by simp [hasB, (HVG.out trivial).1 y (List.mem_of_getElem? hyj)])
          clear hyj
          go_wp2_with fail
          refine (law04_has av V V.length cv y true _ HH.out rfl (HV7.out.below HBR.out) (by omega)).mono ?_
          rintro e w8 ⟨rfl, hb8⟩
          have HB8 := hid (HBR.out.trans (hb8.mono HBR.out.size))
          clear hb8
          go_wp2_with fail
          go_roundw
          case rel => exact ⟨j + 1, by simp, hlt, HB8⟩
          case measure => simp [intOf]; omega
        · have HBX := hid HBR.out
          go_wp2_with fail
          clear HBX
          go_loopw [14] (fun s14 wr => ∃ j : Nat, s14 = .int .i64 j ∧ j ≤ V.length ∧ Hid (Below w7.heap.size w7 wr)) (fun s14 _ => (V.length - (intOf s14)).toNat)
          case atStart => exact ⟨0, rfl, Nat.zero_le _, HBR⟩
          case round =>
            clear HBR
            obtain ⟨j, rfl, hj, HBR⟩ := hrel
            by_cases hlt : j < V.length
            · obtain ⟨bo, oo, y, rfl, hcy, hyj⟩ := (HV7.out.below HBR.out).int hlt
              have hyl := (HVG.out trivial).2.2.2.2 y (List.mem_of_getElem? hyj)
              unfold LitOk at hyl
              have hny : IntKind.i64.wrap (-y) = -y := IntWalk.i64_in _ (by omega)
              have HH := hid (show hasB V (-y) = false by simp [hasB, (HVG.out trivial).2.1 y (List.mem_of_getElem? hyj)])
              have hwj : IntKind.i64.wrap ((j : Int) + 1) = (j : Int) + 1 := IntWalk.i64_in _ (by omega)
              have HVR := hid (HV7.out.below HBR.out)
              have HYJ := hid hyj
              clear hyj
              by_cases hj0 : j = 0
              · have d1 : decide ((0 : Int) < j) = false := decide_eq_false (by omega)
                have d1n : decide (0 < j) = false := decide_eq_false (by omega)
                have d1p : ¬ 0 < j := by omega
                have hjl2 : (j : Int) < V.length := by omega
                clear hyl hj0
                go_wp2_with fail
                go_quiet ((go_at_call 38; first | exact quiet_same (law04_hasE _ V V.length cv (-y) false _ HH.out rfl (by exact HVR.out) (by omega)) | exact quiet_same2 (law04_hasE _ V V.length cv (-y) false _ HH.out rfl (by exact HVR.out) (by omega))))
                go_wp2_with fail
                go_roundw
                case rel => exact ⟨j + 1, by simp, hlt, hid (below_dr HBR.out _)⟩
                case measure => simp [intOf]; omega
              · obtain ⟨i, hi⟩ : ∃ i, j = i + 1 := ⟨j - 1, by omega⟩
                obtain ⟨bo2, oo2, z, e2, hcz, hzj⟩ := (HV7.out.below HBR.out).int (show i < V.length by omega)
                injection e2 with e2
                injection e2 with e3 e4 _
                subst e3 e4
                have habs := (HVG.out trivial).2.2.1 i z y hzj (by rw [← hi]; exact HYJ.out)
                have hzl := (HVG.out trivial).2.2.2.2 z (List.mem_of_getElem? hzj)
                unfold LitOk at hzl
                have d1 : decide ((0 : Int) < j) = true := decide_eq_true (by omega)
                have d1n : decide (0 < j) = true := decide_eq_true (by omega)
                have d1p : 0 < j := by omega
                obtain ⟨my, hm1⟩ : ∃ m, max y (-y) = m := ⟨_, rfl⟩
                obtain ⟨mz, hm2⟩ : ∃ m, max z (-z) = m := ⟨_, rfl⟩
                have d2 : decide (my ≤ mz) = false := decide_eq_false (by omega)
                have d2p : ¬ my ≤ mz := by omega
                have hnz : IntKind.i64.wrap (-z) = -z := IntWalk.i64_in _ (by omega)
                have hwi : IntKind.i64.wrap ((j : Int) - 1) = (i : Int) := by rw [IntWalk.i64_in _ (by omega)]; omega
                have hil : i < V.length := by omega
                have hil2 : (i : Int) < V.length := by omega
                have hjl2 : (j : Int) < V.length := by omega
                clear hi hyl hzl habs hzj hj0
                go_wp2_with fail
                go_region_held3 (fun w' => w'.cell? ⟨bo, oo + j, none⟩ = some (.int .i64 y) ∧ w'.cell? ⟨bo, oo + i, none⟩ = some (.int .i64 z)) (first | assumption | go_keep) ((go_at_call 38; refine (law04_hasE _ V V.length cv (-y) false _ HH.out rfl ?_ (by omega)).mono ?_; exact HVR.out; rintro e w8 ⟨rfl, rfl⟩))
                all_goals
                  go_wp2_with fail
                  go_roundw
                  case rel => exact ⟨j + 1, by simp, hlt, hid HBR.out.drew⟩
                  case measure => simp [intOf]; omega
            · have HBX := hid HBR.out
              have hp1 := below_keeps HBR.out _ _ HP7.out.2
              go_wp2_with fail
              clear HBX hp1
              go_loopw [15] (fun s15 wr => ∃ i : Nat, s15 = .int .i64 i ∧ i ≤ F.length ∧ Hid (Below w7.heap.size w7 wr)) (fun s15 _ => (F.length - (intOf s15)).toNat)
              case atStart => exact ⟨0, rfl, Nat.zero_le _, HBR⟩
              case round =>
                clear HBR
                obtain ⟨i, rfl, hi, HBR⟩ := hrel
                have hp1 := below_keeps HBR.out _ _ HP7.out.2
                by_cases hil : i < F.length
                · obtain ⟨bo, oo, c, ac, cc, rfl, hcell, hsc, hc, hci, -, hcc, hcn⟩ := (HR7.out.below HBR.out).row HOK.out.f hil
                  have hc20 := HC20.out c (List.mem_of_getElem? hc)
                  have HCI := hid hc
                  have HSC := hid hsc
                  have HCOK := hid (HOK.out.cok c (List.mem_of_getElem? hc))
                  have hwi : IntKind.i64.wrap ((i : Int) + 1) = (i : Int) + 1 := IntWalk.i64_in _ (by omega)
                  have hil2 : (i : Int) < F.length := by omega
                  clear hc hsc hci hcc hcn
                  obtain ⟨wo, rfl⟩ : ∃ wo : World, wo = wr := ⟨_, rfl⟩
                  go_wp2_with fail
                  have HO0 : Hid (wo.ownsRow wo.heap.size 3 1 (.slice none 0 0) 0 (ints [])) := hid (World.ownsRow_nil _ _ _ _)
                  have HPC := hid (And.intro hp1 hcell)
                  clear hp1 hcell hwi
                  go_loopw [16, 17, 18, 19] (fun s16 s17 s18 s19 wq => ∃ (k : Nat) (S : List Int) (h : Bool), s19 = .int .i64 k ∧ k ≤ c.length ∧ s16 = .bool h ∧ s17 = .int .i64 (S.length : Int) ∧ Hid (seenC V (c.take k) = S) ∧ Hid ((c.take k).any (hasB V) = h) ∧ Hid (wq.ownsRow wo.heap.size 3 1 s18 S.length (ints S)) ∧ Hid (Below wo.heap.size wo wq) ∧ wo.heap.size ≤ wq.heap.size) (fun _ _ _ s19 _ => (c.length - (intOf s19)).toNat)
                  case atStart => exact ⟨0, [], false, rfl, Nat.zero_le _, rfl, rfl, rfl, rfl, HO0, hid (Below.refl _ _), Nat.le_refl _⟩
                  case round =>
                    clear HO0
                    obtain ⟨k, S, h, rfl, hk, rfl, rfl, HSE, HAN0, HO, HBQ, hszq⟩ := hrel
                    have hp1 := below_keeps HBQ.out _ _ HPC.out.1
                    have hcell := below_keeps HBQ.out _ _ HPC.out.2
                    obtain ⟨a18, c18, e18, -, -, hs18⟩ := own_sli HO.out
                    subst e18
                    have HSS := hid hs18
                    have HVQ := hid (HV7.out.below (HBR.out.trans (HBQ.out.mono HBR.out.size)))
                    have hSk : S.length ≤ k := by have := seenC_take_length V c k; rw [HSE.out] at this; exact this
                    clear hs18
                    by_cases hklt : k < c.length
                    · obtain ⟨bx, ox, x, rfl, hcx, hxk⟩ := (HSC.out.below HBQ.out).int hklt
                      have hxo := HCOK.out x (List.mem_of_getElem? hxk)
                      unfold LitOk at hxo
                      have hnx : IntKind.i64.wrap (-x) = -x := IntWalk.i64_in _ (by omega)
                      have hwk : IntKind.i64.wrap ((k : Int) + 1) = (k : Int) + 1 := IntWalk.i64_in _ (by omega)
                      have hwS : IntKind.i64.wrap ((S.length : Int) + 1) = (S.length : Int) + 1 := IntWalk.i64_in _ (by omega)
                      have hk2 : (k : Int) < c.length := by omega
                      have HXK := hid hxk
                      have HLB : Hid (S.length + 1 ≤ maxLen ∧ (S.length + 1) * 8 ≤ 140737488355328) := hid (by unfold maxLen; omega)
                      obtain ⟨r0, hr0⟩ : ∃ r, hasB V x = r := ⟨_, rfl⟩
                      obtain ⟨r1, hr1⟩ : ∃ r, hasB V (-x) = r := ⟨_, rfl⟩
                      obtain ⟨r2, hr2⟩ : ∃ r, hasB S x = r := ⟨_, rfl⟩
                      have HAN : Hid ((c.take (k + 1)).any (hasB V) = (h || r0)) := hid (by rw [List.take_add_one, HXK.out, List.any_append, HAN0.out]; simp [hr0])
                      clear hxk hxo
                      cases h with
                      | true =>
                        go_wp2_with fail
                        refine (law04_hasE av V V.length cv (-x) r1 _ hr1 rfl HVQ.out (by omega)).mono ?_
                        rintro e w8 ⟨rfl, rfl⟩
                        cases r1 with
                        | true =>
                          have HSN : Hid (seenC V (c.take (k + 1)) = S) := hid (by rw [seenC_step HXK.out, HSE.out]; unfold seenS; rw [if_pos (.inl (by simpa [hasB] using hr1))])
                          go_wp2_with fail
                          go_roundw
                          case rel => exact ⟨k + 1, S, _, by simp, hklt, rfl, rfl, HSN, HAN, HO, HBQ, hszq⟩
                          case measure => simp [intOf]; omega
                        | false =>
                          go_wp2_with fail
                          refine (law04_hasE a18 S S.length c18 x r2 _ hr2 rfl HSS.out (by omega)).mono ?_
                          rintro e w9 ⟨rfl, rfl⟩
                          cases r2 with
                          | true =>
                            have HSN : Hid (seenC V (c.take (k + 1)) = S) := hid (by rw [seenC_step HXK.out, HSE.out]; unfold seenS; rw [if_pos (.inr (by simpa [hasB] using hr2))])
                            go_wp2_with fail
                            go_roundw
                            case rel => exact ⟨k + 1, S, _, by simp, hklt, rfl, rfl, HSN, HAN, HO, HBQ, hszq⟩
                            case measure => simp [intOf]; omega
                          | false =>
                            have HSN : Hid (seenC V (c.take (k + 1)) = S ++ [x]) := hid (by
                              rw [seenC_step HXK.out, HSE.out]; unfold seenS
                              rw [if_neg (by rintro (h | h); simp [hasB, h] at hr1; simp [hasB, h] at hr2)])
                            go_wp2_with (at_builtin; refine wpList_append_own _ rfl _ _ 22 rfl wo.heap.size 3 i0 (.int .i64 0) 1 8 Try.underlying22 hi0 hz0 hz1 hz2 rfl (by decide) _ _ _ rfl (HO.out.alloc _) ⟨wr.heap.size, 0, none⟩ 1 1 [.int .i64 x] rfl rfl ?c1 one_int (by exact HLB.out.1) (by exact HLB.out.2) (by simp only [size_al]; exact Nat.le_succ_of_le hszq) ?_)
                            case c1 => exact new_oneP (heap_alloc_new _ _)
                            intro v9 w9 ho9 hg9 _
                            have HO9 : Hid (w9.ownsRow wo.heap.size 3 1 v9 (S ++ [x]).length (ints (S ++ [x]))) := hid (by rw [List.length_append, ints_append]; exact ho9)
                            have HB9 : Hid (Below wo.heap.size wo w9) := hid (HBQ.out.trans (((Below.refl _ wr).alloc HBQ.out.size _).grown hg9 (by have := HBQ.out.size; simp only [size_al]; omega) fun q hq => (HO.out.lt q hq).1))
                            have hsz9 : wo.heap.size ≤ w9.heap.size := HB9.out.size
                            clear ho9 hg9
                            go_wp2_with fail
                            go_roundw
                            case rel => exact ⟨k + 1, S ++ [x], _, by simp, hklt, rfl, by simp, HSN, HAN, HO9, HB9, hsz9⟩
                            case measure => simp [intOf]; omega
                      | false =>
                        go_wp2_with fail
                        refine (law04_hasE av V V.length cv x r0 _ hr0 rfl HVQ.out (by omega)).mono ?_
                        rintro e w6 ⟨rfl, rfl⟩
                        go_wp2_with fail
                        refine (law04_hasE av V V.length cv (-x) r1 _ hr1 rfl HVQ.out (by omega)).mono ?_
                        rintro e w8 ⟨rfl, rfl⟩
                        cases r1 with
                        | true =>
                          have HSN : Hid (seenC V (c.take (k + 1)) = S) := hid (by rw [seenC_step HXK.out, HSE.out]; unfold seenS; rw [if_pos (.inl (by simpa [hasB] using hr1))])
                          go_wp2_with fail
                          go_roundw
                          case rel => exact ⟨k + 1, S, _, by simp, hklt, rfl, rfl, HSN, HAN, HO, HBQ, hszq⟩
                          case measure => simp [intOf]; omega
                        | false =>
                          go_wp2_with fail
                          refine (law04_hasE a18 S S.length c18 x r2 _ hr2 rfl HSS.out (by omega)).mono ?_
                          rintro e w9 ⟨rfl, rfl⟩
                          cases r2 with
                          | true =>
                            have HSN : Hid (seenC V (c.take (k + 1)) = S) := hid (by rw [seenC_step HXK.out, HSE.out]; unfold seenS; rw [if_pos (.inr (by simpa [hasB] using hr2))])
                            go_wp2_with fail
                            go_roundw
                            case rel => exact ⟨k + 1, S, _, by simp, hklt, rfl, rfl, HSN, HAN, HO, HBQ, hszq⟩
                            case measure => simp [intOf]; omega
                          | false =>
                            have HSN : Hid (seenC V (c.take (k + 1)) = S ++ [x]) := hid (by
                              rw [seenC_step HXK.out, HSE.out]; unfold seenS
                              rw [if_neg (by rintro (h | h); simp [hasB, h] at hr1; simp [hasB, h] at hr2)])
                            go_wp2_with (at_builtin; refine wpList_append_own _ rfl _ _ 22 rfl wo.heap.size 3 i0 (.int .i64 0) 1 8 Try.underlying22 hi0 hz0 hz1 hz2 rfl (by decide) _ _ _ rfl (HO.out.alloc _) ⟨wr.heap.size, 0, none⟩ 1 1 [.int .i64 x] rfl rfl ?c1 one_int (by exact HLB.out.1) (by exact HLB.out.2) (by simp only [size_al]; exact Nat.le_succ_of_le hszq) ?_)
                            case c1 => exact new_oneP (heap_alloc_new _ _)
                            intro v9 w9 ho9 hg9 _
                            have HO9 : Hid (w9.ownsRow wo.heap.size 3 1 v9 (S ++ [x]).length (ints (S ++ [x]))) := hid (by rw [List.length_append, ints_append]; exact ho9)
                            have HB9 : Hid (Below wo.heap.size wo w9) := hid (HBQ.out.trans (((Below.refl _ wr).alloc HBQ.out.size _).grown hg9 (by have := HBQ.out.size; simp only [size_al]; omega) fun q hq => (HO.out.lt q hq).1))
                            have hsz9 : wo.heap.size ≤ w9.heap.size := HB9.out.size
                            clear ho9 hg9
                            go_wp2_with fail
                            go_roundw
                            case rel => exact ⟨k + 1, S ++ [x], _, by simp, hklt, rfl, by simp, HSN, HAN, HO9, HB9, hsz9⟩
                            case measure => simp [intOf]; omega
                    · have hkc : k = c.length := by omega
                      have hSn := HSE.out
                      have hAn := HAN0.out
                      rw [hkc, List.take_of_length_le (Nat.le_refl _)] at hSn hAn
                      have hwi : IntKind.i64.wrap ((i : Int) + 1) = (i : Int) + 1 := IntWalk.i64_in _ (by omega)
                      have HBN := hid (HBR.out.trans (HBQ.out.mono HBR.out.size))
                      clear hkc
                      cases h with
                      | true =>
                        clear hSn hAn
                        go_wp2_with fail
                        go_roundw
                        case rel => exact ⟨i + 1, by simp, hil, HBN⟩
                        case measure => simp [intOf]; omega
                      | false =>
                        have h2 : 2 ≤ S.length := by
                          have := (HVG.out trivial).2.2.2.1 c (List.mem_of_getElem? HCI.out) (fun l hl hlv => by
                            have := List.any_eq_false.1 hAn l hl
                            simp [hasB, hlv] at this)
                          rw [hSn] at this
                          exact this
                        have d2 : decide ((S.length : Int) < 2) = false := decide_eq_false (by omega)
                        clear hSn hAn
                        go_wp2_with fail
                        go_roundw
                        case rel => exact ⟨i + 1, by simp, hil, HBN⟩
                        case measure => simp [intOf]; omega
                · go_wp2_with fail
                  refine (law04_known _).mono ?_
                  rintro e w9 ⟨rfl, hb9⟩
                  have HB9 := hid (HB7.out.trans ((HBR.out.trans (hb9.mono HBR.out.size)).mono HB7.out.size))
                  clear hb9
                  go_wp2_with fail
                  go_ret
                  exact ⟨rfl, HB9.out⟩

end Go.Proofs.Ytfgaglgaofceiaa.Ord
