/- The walk of RupSound. -/
import Derived.Test.YtfmahgobogelkaaQ13
import Derived.Test.YtfmahgobogelkaaQ12

namespace Go.Proofs.Ytfmahgobogelkaa.Ord
open Go.RowKit

set_option maxRecDepth 100000 in
set_option maxHeartbeats 8000000 in
theorem walk_RupSound (x0 : Int) (v1 : Value) (x1 : List (List Int)) (v2 : Value) (x2 : List (List Int)) (x3 : Int) (w : World) (w0 : (Lit.int .u8 x0).wf = true) (w1 : ArgR .i8 w v1 x1) (w2 : ArgR .i8 w v2 x2) (w3 : (Lit.int .u16 x3).wf = true) :
    Calls Try.prog 6 #[.int .u8 x0, v1, v2, .int .u16 x3] w fun e w' => e = .returned (.bool true) ∧ Below w.heap.size w w' := by
  have hb0 := bounds_u8 w0
  have HA := hid w1
  have HA2 := hid w2
  have hb3' := bounds_u16 w3
  clear w0 w1 w2 w3
  obtain ⟨Q, hQ⟩ : ∃ Q : Ending → World → Prop, (fun e w' => e = .returned (.bool true) ∧ Below w.heap.size w w') = Q := ⟨_, rfl⟩
  rw [hQ]
  have HQ : Hid (∀ w', Below w.heap.size w w' → Q (.returned (.bool true)) w') := hid fun w' hw => by rw [← hQ]; exact ⟨rfl, hw⟩
  clear hQ
  cases hfit : fitB x1 with
  | false =>
    have HFI := hid hfit
    clear hfit
    go_enter Try.func6, Try.ntmps6
    go_wp2_with fail
    refine (law02_FitF x0 v1 x1 w HFI.out hb0.1 hb0.2 HA.out).mono ?_
    rintro e w3 ⟨rfl, hb3⟩
    have HB3 := hid hb3
    clear hb3
    go_wp2_with (go_at_call 39; refine (law05_known _).mono ?_; rintro e w' ⟨rfl, hb⟩)
    exact HQ.out _ ((below_al HB3.out HB3.out.size _).trans (hb.mono (by have := HB3.out.size; simp only [size_al]; omega)))
  | true =>
    have hV := fitV_range x0
    obtain ⟨n, hn⟩ : ∃ n : Nat, fitV x0 = (n : Int) := ⟨(fitV x0).toNat, by omega⟩
    have hn1 : 1 ≤ n ∧ n ≤ 12 := by omega
    obtain ⟨F, hF⟩ : ∃ F, fitF x0 x1 = F := ⟨_, rfl⟩
    have hfl : F.length ≤ 30 := by rw [← hF, fitF_length]; exact (fitB_bounds hfit).1
    have HFO := hid (show FOk F from hF ▸ fok_fit hfit)
    have HFK : Hid (ClsOk n F) := hid (hF ▸ clsok_fit x0 hn.symm x1)
    have HCHK : Hid (cnfCheck n F = 0) := hid (by rw [← hn, ← hF]; exact cnfCheck_fit hfit)
    have HFC : Hid (∀ c ∈ F, c.length ≤ 20) := hid fun c hc => by
      rw [← hF] at hc
      simp only [fitF, List.mem_map] at hc
      obtain ⟨c', hc', rfl⟩ := hc
      exact Nat.le_trans (fitC_length (fitV x0) c') ((fitB_bounds hfit).2 c' hc')
    have HN := hid hn
    have HF := hid hF
    have HFI := hid hfit
    clear hfit hF hn hV
    cases hfp : fitB x2 with
    | false =>
      have HFP := hid hfp
      clear hfp
      go_enter Try.func6, Try.ntmps6
      go_wp2_with fail
      refine (law02_FitH x0 v1 x1 w HFI.out hb0.1 hb0.2 HA.out).mono ?_
      rw [HN.out, HF.out]
      rintro e w3 ⟨a, c, rfl, hfc, hcn, hr3, hb3⟩
      have HCN := hid hcn
      have hz3 := hb3.size
      have hb4 : Below w.heap.size w (w3.alloc (fbox n a F.length c)) := below_al hb3 hz3 _
      have HR4 := hid (hr3.below (box_below w3 (fbox n a F.length c)))
      have HB4 := hid hb4
      have hp0 : (w3.alloc (fbox n a F.length c)).cell? ⟨w3.heap.size, 0, none⟩ = some (.int .i64 n) := fit_cell (vs := [.int .i64 n, .slice a F.length c]) (heap_alloc_new w3 _) 0
      have hp1 : (w3.alloc (fbox n a F.length c)).cell? ⟨w3.heap.size, 1, none⟩ = some (.slice a F.length c) := fit_cell (vs := [.int .i64 n, .slice a F.length c]) (heap_alloc_new w3 _) 1
      have hb7l : w3.heap.size < (w3.alloc (fbox n a F.length c)).heap.size := by simp only [size_al]; omega
      clear hb3 hr3 hb4 hcn hz3
      go_wp2_with fail
      have hfb : (World.alloc w3 (.cells #[.int .i64 n, .slice a F.length c] 34)) = w3.alloc (fbox n a F.length c) := rfl
      rw [hfb]
      clear hfb
      generalize w3.alloc (fbox n a F.length c) = w4 at HR4 HB4 hp0 hp1 hb7l ⊢
      generalize w3.heap.size = b7 at hp0 hp1 hb7l ⊢
      have HP := hid (And.intro hp0 hp1)
      have hb7 : w.heap.size ≤ b7 ∨ True := .inr trivial
      clear hb7
      obtain ⟨M, hM⟩ : ∃ M, F.length = M := ⟨_, rfl⟩
      rw [hM] at hfl hfc hp1 HP
      try rw [hM]
      have HM := hid hM
      clear hM
      refine (law05_clausesF n a M c v2 x2 _ hn1 HFP.out (argR_below HA2.out HB4.out)).mono ?_
      rintro e w5 ⟨v, rfl, hb5⟩
      have HB5 := hid (HB4.out.trans (hb5.mono HB4.out.size))
      clear hb5 hp0 hp1
      go_wp2_with (go_at_call 39; refine (law05_known _).mono ?_; rintro e w' ⟨rfl, hb⟩)
      exact HQ.out _ (HB5.out.trans (hb.mono HB5.out.size))
    | true =>
      obtain ⟨P, hP⟩ : ∃ P, clsL n x2 = P := ⟨_, rfl⟩
      have HPO : Hid (PrOk n P) := hid (hP ▸ clsL_ok hn1 hfp)
      have HFP := hid hfp
      have HPE := hid hP
      have hpl : P.length ≤ 30 := HPO.out.len
      clear hfp hP
      go_enter Try.func6, Try.ntmps6
      go_wp2_with fail
      refine (law02_FitH x0 v1 x1 w HFI.out hb0.1 hb0.2 HA.out).mono ?_
      rw [HN.out, HF.out]
      rintro e w3 ⟨a, c, rfl, hfc, hcn, hr3, hb3⟩
      have HCN := hid hcn
      have hz3 := hb3.size
      have hb4 : Below w.heap.size w (w3.alloc (fbox n a F.length c)) := below_al hb3 hz3 _
      have HR4 := hid (hr3.below (box_below w3 (fbox n a F.length c)))
      have HB4 := hid hb4
      have hp0 : (w3.alloc (fbox n a F.length c)).cell? ⟨w3.heap.size, 0, none⟩ = some (.int .i64 n) := fit_cell (vs := [.int .i64 n, .slice a F.length c]) (heap_alloc_new w3 _) 0
      have hp1 : (w3.alloc (fbox n a F.length c)).cell? ⟨w3.heap.size, 1, none⟩ = some (.slice a F.length c) := fit_cell (vs := [.int .i64 n, .slice a F.length c]) (heap_alloc_new w3 _) 1
      have hb7l : w3.heap.size < (w3.alloc (fbox n a F.length c)).heap.size := by simp only [size_al]; omega
      clear hb3 hr3 hb4 hcn hz3
      go_wp2_with fail
      have hfb : (World.alloc w3 (.cells #[.int .i64 n, .slice a F.length c] 34)) = w3.alloc (fbox n a F.length c) := rfl
      rw [hfb]
      clear hfb
      generalize w3.alloc (fbox n a F.length c) = w4 at HR4 HB4 hp0 hp1 hb7l ⊢
      generalize w3.heap.size = b7 at hp0 hp1 hb7l ⊢
      have HP := hid (And.intro hp0 hp1)
      have hb7 : w.heap.size ≤ b7 ∨ True := .inr trivial
      clear hb7
      obtain ⟨M, hM⟩ : ∃ M, F.length = M := ⟨_, rfl⟩
      rw [hM] at hfl hfc hp1 HP
      try rw [hM]
      have HM := hid hM
      clear hM
      refine (law05_clausesT n a M c v2 x2 _ hn1 HFP.out (argR_below HA2.out HB4.out)).mono ?_
      rw [HPE.out]
      rintro e w5 ⟨aP, cP, rfl, hPc, hPn, hrP, hb5⟩
      have HPC := hid (And.intro hPc hPn)
      have HB5 := hid (HB4.out.trans (hb5.mono HB4.out.size))
      have HR5 := hid (HR4.out.below hb5)
      have HRT5 := hid hrP
      have HRP5 := hid hrP.rws
      have p0 := below_keeps hb5 _ _ hp0
      have p1 := below_keeps hb5 _ _ hp1
      have hb75 : b7 < w5.heap.size := Nat.lt_of_lt_of_le hb7l hb5.size
      clear hb5 hp0 hp1 HP hPc hPn hrP HB4 HR4 hb7l
      obtain ⟨N, hNN⟩ : ∃ N, P.length = N := ⟨_, rfl⟩
      rw [hNN] at hpl HPC ⊢
      have HNN := hid hNN
      clear hNN
      obtain ⟨ml, hml⟩ : ∃ ml, modelL n x3 = ml := ⟨_, rfl⟩
      have hmn : ml.length = n := by rw [← hml]; simp [modelL]
      obtain ⟨r, hr⟩ : ∃ r, rupI F P = r := ⟨_, rfl⟩
      have hrr := rupI_range F P
      rw [hr, HNN.out] at hrr
      have HRV := hid (rupV_fine (F := F) HCHK.out HPO.out (by omega))
      rw [hr] at HRV
      have HMOD := hid (And.intro hml (And.intro hmn hr))
      clear hml hr
      go_wp2_with fail
      refine (law02_ModelR n n x3 _ rfl (by omega) (by omega) (by omega)).mono ?_
      rintro e w6 ⟨am, cm, rfl, -, hsm, hb6⟩
      rw [HMOD.out.1] at hsm
      rw [HMOD.out.1, hmn]
      have HB6 := hid (HB5.out.trans (hb6.mono HB5.out.size))
      have HR6 := hid (HR5.out.below hb6)
      have HRP6 := hid (HRP5.out.below hb6)
      have HSM6 := hid hsm
      have q0 := below_keeps hb6 _ _ p0
      have q1 := below_keeps hb6 _ _ p1
      clear hb6 hsm p0 p1 hmn
      obtain ⟨fi, hfi⟩ : ∃ i, firstIdx ml F = i := ⟨_, rfl⟩
      have hcf : cnfFirst n F ml = (fi, 0) := by
        unfold cnfFirst
        rw [if_neg (by rw [HCHK.out]; simp), if_neg (by rw [HMOD.out.2.1]; simp), hfi]
      have HFI2 := hid (And.intro hfi hcf)
      clear hfi hcf
      go_wp2_with fail
      refine (cnf_FirstR n a F M c am ml n cm fi 0 _ HFI2.out.2 HM.out.symm HMOD.out.2.1.symm HFO.out HR6.out HSM6.out (by rw [HM.out]; omega) (by rw [HMOD.out.2.1]; omega)).mono ?_
      rintro e w7 ⟨rfl, hb7⟩
      have HB7 := hid (HB6.out.trans (hb7.mono HB6.out.size))
      have HR7 := hid (HR6.out.below hb7)
      have HRP7 := hid (HRP6.out.below hb7)
      have HSM7 := hid (HSM6.out.below hb7)
      have p0 := below_keeps hb7 _ _ q0
      have p1 := below_keeps hb7 _ _ q1
      clear hb7 q0 q1
      go_wp2_with fail
      refine (rup_CheckN n a F M c aP P N cP r 0 _ HRV.out HM.out.symm HNN.out.symm HFO.out HR7.out HPO.out.fok HRP7.out (by rw [HM.out]; omega) (by rw [HNN.out]; omega)).mono ?_
      rintro e w8 ⟨rfl, hb8⟩
      have HB8 := hid (HB7.out.trans (hb8.mono HB7.out.size))
      have HR8 := hid (HR7.out.below hb8)
      have HRP8 := hid (HRP7.out.below hb8)
      have HSM8 := hid (HSM7.out.below hb8)
      have q0 := below_keeps hb8 _ _ p0
      have q1 := below_keeps hb8 _ _ p1
      clear hb8 p0 p1
      have d1 : decide (r < -1) = false := decide_eq_false (by omega)
      have d2 : decide ((N : Int) < r) = false := decide_eq_false (by omega)
      by_cases hm1 : fi = -1
      · have hm2 : (fi != -1) = false := by simp [hm1]
        have hall : ∀ d ∈ F, holdsB ml d = true := firstIdx_all (HFI2.out.1.trans hm1)
        obtain ⟨hne, hrh⟩ := rupI_model HMOD.out.2.1 hall HPO.out.ok
        rw [HMOD.out.2.2] at hne hrh
        obtain ⟨k1, rfl⟩ := Int.eq_ofNat_of_zero_le (show 0 ≤ r by omega)
        have hr2 : ((k1 : Int) == -1) = false := by simp
        have d3 : decide (N < k1) = false := decide_eq_false (by omega)
        have HALL := hid hall
        have HRH := hid hrh
        clear hm1 hall hrh hne
        go_wp2_with fail
        go_loop [17] (fun s17 => ∃ i : Nat, s17 = .int .i64 i ∧ i ≤ k1 ∧ Hid (i ≤ k1)) (fun s17 => (k1 - (intOf s17)).toNat)
        case atStart => exact ⟨0, rfl, by omega, hid (by omega)⟩
        case round =>
          obtain ⟨i, rfl, hik, -⟩ := hrel
          by_cases hlt : i < k1
          · have hlt2 : (i : Int) < k1 := by omega
            obtain ⟨bf, off, d, ad, cd, hap, hcell, hcs, hck, hc64, hcl, hcc, hc0⟩ := HRP8.out.row HPO.out.fok (k := i) (by rw [HNN.out]; omega)
            subst hap
            have hiN : (i : Int) < N := by omega
            have hwi : IntKind.i64.wrap ((i : Int) + 1) = (i : Int) + 1 := IntWalk.i64_in _ (by omega)
            have HCALL := hid (lit_HoldsR am ml n cm ad d d.length cd true w8 (HRH.out i d hlt2 hck) HMOD.out.2.1.symm rfl HSM8.out hc64 hcs hcl (by rw [HMOD.out.2.1]; omega))
            clear hcs hck hc64 hcl hcc hc0
            go_wp2_with fail
            refine HCALL.out.mono ?_
            rintro e w9 ⟨rfl, rfl⟩
            go_wp2_with fail
            go_round
            case rel => exact ⟨i + 1, by simp, by omega, hid (by omega)⟩
            case measure => simp [intOf]; omega
          · have hie : i = k1 := by omega
            subst hie
            have hlt2 : ¬ (i : Int) < i := by omega
            have HPR : Hid (w8.cell? ⟨b7, 0, none⟩ = some (.int .i64 n) ∧ w8.cell? ⟨b7, 1, none⟩ = some (.slice a M c)) := hid ⟨q0, q1⟩
            clear hlt hik q0 q1
            go_wp2_with fail
            go_loopw [18] (fun s18 wr => ∃ j : Nat, s18 = .int .i64 j ∧ j ≤ N ∧ Hid (Below w8.heap.size w8 wr)) (fun s18 _ => (N - (intOf s18)).toNat)
            case atStart => exact ⟨0, rfl, by omega, hid (Below.refl _ _)⟩
            case round =>
              obtain ⟨j, rfl, hjN, HZ⟩ := hrel
              have p0 := below_keeps HZ.out _ _ HPR.out.1
              have p1 := below_keeps HZ.out _ _ HPR.out.2
              by_cases hlt : j < N
              · have hlt2 : (j : Int) < N := by omega
                obtain ⟨bf, off, d, ad, cd, hap, hcell, hcs, hck, hc64, hcl, hcc, hc0⟩ := (HRP8.out.below HZ.out).row HPO.out.fok (k := j) (by rw [HNN.out]; exact hlt)
                subst hap
                have hdP := List.mem_of_getElem? hck
                have hdl := HPO.out.cl d hdP
                have hwj : IntKind.i64.wrap ((j : Int) + 1) = (j : Int) + 1 := IntWalk.i64_in _ (by omega)
                have himp := impV_ok HCHK.out (HPO.out.lits (by omega) hdP)
                obtain ⟨bi, hbi⟩ : ∃ b, upF F (negs d) = b := ⟨_, rfl⟩
                rw [hbi] at himp
                have HBI : Hid (bi = true → holdsB ml d = true) := hid fun h => imp_holds HMOD.out.2.1 HALL.out (HPO.out.ok d hdP) (hbi.trans h)
                have HCALL1 : Hid (∀ wz, Below wr.heap.size wr wz → Calls Try.prog 43 #[.agg #[.int .i64 n, .slice a M c], .slice ad d.length cd] wz fun e w' => e = .returned (.tuple #[.bool bi, .int .i64 0]) ∧ Below wz.heap.size wz w') := hid fun wz hz => rup_ImpliedN n a F M c ad d d.length cd bi 0 wz himp HM.out.symm rfl HFO.out ((HR8.out.below HZ.out).below hz) hc64 (hcs.below hz) (by rw [HM.out]; omega) (by omega)
                have HDD := hid (And.intro hcs hc64)
                clear hcs hck hc64 hcl hcc hc0 himp hbi
                go_wp2_with fail
                go_cut [19, 20] (fun s19 s20 wz => s19 = .bool bi ∧ s20 = .int .i64 0 ∧ Hid (Below wr.heap.size wr wz))
                case first =>
                  go_region_held3 (fun y => y.cell? ⟨b7, 0, none⟩ = some (.int .i64 n) ∧ y.cell? ⟨b7, 1, none⟩ = some (.slice a M c) ∧ y.cell? ⟨bf, off + j, none⟩ = some (.slice ad d.length cd)) (first | exact ⟨‹_›, ‹_›, ‹_›⟩ | go_keep)
                    ((go_at_call 43; refine (HCALL1.out _ (by first | exact Below.refl _ _ | exact (Below.refl _ _).drew)).mono ?_; rintro e wz ⟨rfl, hbz⟩; have HBZ := hid hbz; have z0 := below_keeps hbz _ _ p0; have z1 := below_keeps hbz _ _ p1; have z2 := below_keeps hbz _ _ hcell; clear hbz))
                  all_goals
                    go_wp2_with fail
                    go_meet
                    case rel => exact ⟨rfl, rfl, hid (by first | exact HBZ.out | exact HBZ.out.drew | exact ((Below.refl wr.heap.size wr).drew.trans HBZ.out) | exact ((Below.refl wr.heap.size wr).drew.trans HBZ.out).drew)⟩
                case rest =>
                  obtain ⟨rfl, rfl, HBC⟩ := hcut
                  have hcell2 := below_keeps HBC.out _ _ hcell
                  have HZC := hid (HZ.out.trans (HBC.out.mono HZ.out.size))
                  cases bi with
                  | false =>
                    clear p0 p1 hcell HCALL1 hcell2
                    go_wp2_with fail
                    go_roundw
                    case rel => exact ⟨j + 1, by simp, by omega, HZC⟩
                    case measure => simp [intOf]; omega
                  | true =>
                    have HCALL2 := hid (lit_HoldsR am ml n cm ad d d.length cd true wc (HBI.out rfl) HMOD.out.2.1.symm rfl (HSM8.out.below HZC.out) HDD.out.2 (HDD.out.1.below HBC.out) (by omega) (by rw [HMOD.out.2.1]; omega))
                    clear p0 p1 hcell HCALL1
                    go_wp2_with fail
                    refine HCALL2.out.mono ?_
                    rintro e w9 ⟨rfl, rfl⟩
                    go_wp2_with fail
                    go_roundw
                    case rel => exact ⟨j + 1, by simp, by omega, HZC⟩
                    case measure => simp [intOf]; omega
              · have hje : j = N := by omega
                subst hje
                have hlt2 : ¬ (j : Int) < j := by omega
                have HBE := hid (HB8.out.trans (HZ.out.mono HB8.out.size))
                clear p0 p1 hlt hjN
                go_wp2_with (go_at_call 39; refine (law05_known _).mono ?_; rintro e w' ⟨rfl, hb⟩)
                exact HQ.out _ (HBE.out.trans (hb.mono HBE.out.size))
      · have hm2 : (fi != -1) = true := by simpa using hm1
        clear hm1
        go_wp2_with (go_at_call 39; refine (law05_known _).mono ?_; rintro e w' ⟨rfl, hb⟩)
        exact HQ.out _ (HB8.out.trans (hb.mono HB8.out.size))

end Go.Proofs.Ytfmahgobogelkaa.Ord
