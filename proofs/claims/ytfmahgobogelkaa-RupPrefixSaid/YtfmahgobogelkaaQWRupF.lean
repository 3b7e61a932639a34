/- The walk of RupPrefix. -/
import Derived.Test.YtfmahgobogelkaaQ13

namespace Go.Proofs.Ytfmahgobogelkaa.Ord
open Go.RowKit

set_option maxRecDepth 100000 in
set_option maxHeartbeats 8000000 in
theorem walk_RupPrefix (x0 : Int) (v1 : Value) (x1 : List (List Int)) (v2 : Value) (x2 : List (List Int)) (w : World) (w0 : (Lit.int .u8 x0).wf = true) (w1 : ArgR .i8 w v1 x1) (w2 : ArgR .i8 w v2 x2) :
    Calls Try.prog 13 #[.int .u8 x0, v1, v2] w fun e w' => e = .returned (.bool true) ∧ Below w.heap.size w w' := by
  have hb0 := bounds_u8 w0
  have HA := hid w1
  have HA2 := hid w2
  obtain ⟨i1, hi1, hy0, hy1, hy2⟩ := info_parts info_ints
  clear w0 w1 w2
  obtain ⟨Q, hQ⟩ : ∃ Q : Ending → World → Prop, (fun e w' => e = .returned (.bool true) ∧ Below w.heap.size w w') = Q := ⟨_, rfl⟩
  rw [hQ]
  have HQ : Hid (∀ w', Below w.heap.size w w' → Q (.returned (.bool true)) w') := hid fun w' hw => by rw [← hQ]; exact ⟨rfl, hw⟩
  clear hQ
  cases hfit : fitB x1 with
  | false =>
    have HFI := hid hfit
    clear hfit
    go_enter Try.func13, Try.ntmps13
    go_wp2_with fail
    refine (law02_FitF x0 v1 x1 w HFI.out hb0.1 hb0.2 HA.out).mono ?_
    rintro e w3 ⟨rfl, hb3⟩
    have HB3 := hid hb3
    clear hb3
    go_wp2_with (go_at_call 39; refine (law05_known _).mono ?_; rintro e w' ⟨rfl, hb⟩)
    exact HQ.out _ ((below_al HB3.out HB3.out.size _).trans (hb.mono (by have := HB3.out.size; simp only [size_al]; omega)))
  | true =>
    have hV := fitV_range x0
    obtain ⟨n, hn⟩ : ∃ n : Nat, fitV x0 = (n : Int) := ⟨(fitV x0).toNat, by omega⟩
    have hn1 : 1 ≤ n ∧ n ≤ 12 := by omega
    obtain ⟨F, hF⟩ : ∃ F, fitF x0 x1 = F := ⟨_, rfl⟩
    have hfl : F.length ≤ 30 := by rw [← hF, fitF_length]; exact (fitB_bounds hfit).1
    have HFO := hid (show FOk F from hF ▸ fok_fit hfit)
    have HFK : Hid (ClsOk n F) := hid (hF ▸ clsok_fit x0 hn.symm x1)
    have HCHK : Hid (cnfCheck n F = 0) := hid (by rw [← hn, ← hF]; exact cnfCheck_fit hfit)
    have HFC : Hid (∀ c ∈ F, c.length ≤ 20) := hid fun c hc => by
      rw [← hF] at hc
      simp only [fitF, List.mem_map] at hc
      obtain ⟨c', hc', rfl⟩ := hc
      exact Nat.le_trans (fitC_length (fitV x0) c') ((fitB_bounds hfit).2 c' hc')
    have HN := hid hn
    have HF := hid hF
    have HFI := hid hfit
    clear hfit hF hn hV
    cases hfp : fitB x2 with
    | false =>
      have HFP := hid hfp
      clear hfp
      go_enter Try.func13, Try.ntmps13
      go_wp2_with fail
      refine (law02_FitH x0 v1 x1 w HFI.out hb0.1 hb0.2 HA.out).mono ?_
      rw [HN.out, HF.out]
      rintro e w3 ⟨a, c, rfl, hfc, hcn, hr3, hb3⟩
      have HCN := hid hcn
      have hz3 := hb3.size
      have hb4 : Below w.heap.size w (w3.alloc (fbox n a F.length c)) := below_al hb3 hz3 _
      have HR4 := hid (hr3.below (box_below w3 (fbox n a F.length c)))
      have HB4 := hid hb4
      have hp0 : (w3.alloc (fbox n a F.length c)).cell? ⟨w3.heap.size, 0, none⟩ = some (.int .i64 n) := fit_cell (vs := [.int .i64 n, .slice a F.length c]) (heap_alloc_new w3 _) 0
      have hp1 : (w3.alloc (fbox n a F.length c)).cell? ⟨w3.heap.size, 1, none⟩ = some (.slice a F.length c) := fit_cell (vs := [.int .i64 n, .slice a F.length c]) (heap_alloc_new w3 _) 1
      have hb7l : w3.heap.size < (w3.alloc (fbox n a F.length c)).heap.size := by simp only [size_al]; omega
      clear hb3 hr3 hb4 hcn hz3
      go_wp2_with fail
      have hfb : (World.alloc w3 (.cells #[.int .i64 n, .slice a F.length c] 34)) = w3.alloc (fbox n a F.length c) := rfl
      rw [hfb]
      clear hfb
      generalize w3.alloc (fbox n a F.length c) = w4 at HR4 HB4 hp0 hp1 hb7l ⊢
      generalize w3.heap.size = b7 at hp0 hp1 hb7l ⊢
      have HP := hid (And.intro hp0 hp1)
      have hb7 : w.heap.size ≤ b7 ∨ True := .inr trivial
      clear hb7
      obtain ⟨M, hM⟩ : ∃ M, F.length = M := ⟨_, rfl⟩
      rw [hM] at hfl hfc hp1 HP
      try rw [hM]
      have HM := hid hM
      clear hM
      refine (law05_clausesF n a M c v2 x2 _ hn1 HFP.out (argR_below HA2.out HB4.out)).mono ?_
      rintro e w5 ⟨v, rfl, hb5⟩
      have HB5 := hid (HB4.out.trans (hb5.mono HB4.out.size))
      clear hb5 hp0 hp1
      go_wp2_with (go_at_call 39; refine (law05_known _).mono ?_; rintro e w' ⟨rfl, hb⟩)
      exact HQ.out _ (HB5.out.trans (hb.mono HB5.out.size))
    | true =>
      obtain ⟨P, hP⟩ : ∃ P, clsL n x2 = P := ⟨_, rfl⟩
      have HPO : Hid (PrOk n P) := hid (hP ▸ clsL_ok hn1 hfp)
      have HFP := hid hfp
      have HPE := hid hP
      have hpl : P.length ≤ 30 := HPO.out.len
      clear hfp hP
      go_enter Try.func13, Try.ntmps13
      go_wp2_with fail
      refine (law02_FitH x0 v1 x1 w HFI.out hb0.1 hb0.2 HA.out).mono ?_
      rw [HN.out, HF.out]
      rintro e w3 ⟨a, c, rfl, hfc, hcn, hr3, hb3⟩
      have HCN := hid hcn
      have hz3 := hb3.size
      have hb4 : Below w.heap.size w (w3.alloc (fbox n a F.length c)) := below_al hb3 hz3 _
      have HR4 := hid (hr3.below (box_below w3 (fbox n a F.length c)))
      have HB4 := hid hb4
      have hp0 : (w3.alloc (fbox n a F.length c)).cell? ⟨w3.heap.size, 0, none⟩ = some (.int .i64 n) := fit_cell (vs := [.int .i64 n, .slice a F.length c]) (heap_alloc_new w3 _) 0
      have hp1 : (w3.alloc (fbox n a F.length c)).cell? ⟨w3.heap.size, 1, none⟩ = some (.slice a F.length c) := fit_cell (vs := [.int .i64 n, .slice a F.length c]) (heap_alloc_new w3 _) 1
      have hb7l : w3.heap.size < (w3.alloc (fbox n a F.length c)).heap.size := by simp only [size_al]; omega
      clear hb3 hr3 hb4 hcn hz3
      go_wp2_with fail
      have hfb : (World.alloc w3 (.cells #[.int .i64 n, .slice a F.length c] 34)) = w3.alloc (fbox n a F.length c) := rfl
      rw [hfb]
      clear hfb
      generalize w3.alloc (fbox n a F.length c) = w4 at HR4 HB4 hp0 hp1 hb7l ⊢
      generalize w3.heap.size = b7 at hp0 hp1 hb7l ⊢
      have HP := hid (And.intro hp0 hp1)
      have hb7 : w.heap.size ≤ b7 ∨ True := .inr trivial
      clear hb7
      obtain ⟨M, hM⟩ : ∃ M, F.length = M := ⟨_, rfl⟩
      rw [hM] at hfl hfc hp1 HP
      try rw [hM]
      have HM := hid hM
      clear hM
      refine (law05_clausesT n a M c v2 x2 _ hn1 HFP.out (argR_below HA2.out HB4.out)).mono ?_
      rw [HPE.out]
      rintro e w5 ⟨aP, cP, rfl, hPc, hPn, hrP, hb5⟩
      have HPC := hid (And.intro hPc hPn)
      have HB5 := hid (HB4.out.trans (hb5.mono HB4.out.size))
      have HR5 := hid (HR4.out.below hb5)
      have HRT5 := hid hrP
      have HRP5 := hid hrP.rws
      have p0 := below_keeps hb5 _ _ hp0
      have p1 := below_keeps hb5 _ _ hp1
      have hb75 : b7 < w5.heap.size := Nat.lt_of_lt_of_le hb7l hb5.size
      clear hb5 hp0 hp1 HP hPc hPn hrP HB4 HR4 hb7l
      obtain ⟨N, hNN⟩ : ∃ N, P.length = N := ⟨_, rfl⟩
      rw [hNN] at hpl HPC ⊢
      have HNN := hid hNN
      clear hNN
      obtain ⟨r, hr⟩ : ∃ r, rupI F P = r := ⟨_, rfl⟩
      have hrr := rupI_range F P
      rw [hr, HNN.out] at hrr
      have HRV := hid (rupV_fine (F := F) HCHK.out HPO.out (by omega))
      rw [hr] at HRV
      have HRI := hid hr
      clear hr
      go_wp2_with fail
      refine (rup_CheckN n a F M c aP P N cP r 0 _ HRV.out HM.out.symm HNN.out.symm HFO.out HR5.out HPO.out.fok HRP5.out (by rw [HM.out]; omega) (by rw [HNN.out]; omega)).mono ?_
      rintro e w6 ⟨rfl, hb6⟩
      have HB6 := hid (HB5.out.trans (hb6.mono HB5.out.size))
      have HR6 := hid (HR5.out.below hb6)
      have HRT6 := hid (HRT5.out.below hb6)
      have HRP6 := hid (HRP5.out.below hb6)
      have q0 := below_keeps hb6 _ _ p0
      have q1 := below_keeps hb6 _ _ p1
      clear hb6 p0 p1
      have d1 : decide (r < -1) = false := decide_eq_false (by omega)
      have d2 : decide ((N : Int) < r) = false := decide_eq_false (by omega)
      have hrk : (∃ k : Nat, r = k ∧ k < N) ∨ (r = -1 ∨ r = N) := by
        by_cases h1 : r = -1
        · exact .inr (.inl h1)
        · by_cases h2 : r = N
          · exact .inr (.inr h2)
          · exact .inl ⟨r.toNat, by omega, by omega⟩
      rcases hrk with ⟨k, rfl, hkN⟩ | hrB
      · have d3 : decide (N < k) = false := decide_eq_false (by omega)
        obtain ⟨hpf, htr, hfl2⟩ := rupI_prefix HRI.out (by rw [HNN.out]; exact hkN)
        have HPF := hid (And.intro hpf (And.intro htr hfl2))
        clear hpf htr hfl2
        go_wp2_with fail
        refine (kit_CopyFormula n a F M c w6 HM.out.symm HFO.out HR6.out (by rw [HM.out]; omega) (fun d hd => by have := HFC.out d hd; omega)).mono ?_
        rw [HM.out]
        rintro e w7 ⟨a7, c7, rfl, hc7, ho7, -, hb7⟩
        have hrt7 : OwnR0 w7 w6.heap.size (.slice a7 M c7) F := ownR0_of ho7
        have hb8 : Below w6.heap.size w6 (w7.alloc (fbox n a7 M c7)) := below_al hb7 hb7.size _
        have HS0 : Hid ((w7.alloc (fbox n a7 M c7)).heap[w7.heap.size]? = some (fbox n a7 M c7) ∧ OwnR0 (w7.alloc (fbox n a7 M c7)) w6.heap.size (.slice a7 M c7) (F ++ P.take 0) ∧ M = (F ++ P.take 0).length ∧ Below w6.heap.size w6 (w7.alloc (fbox n a7 M c7))) := hid ⟨heap_alloc_new _ _, by rw [List.take_zero, List.append_nil]; exact hrt7.below (box_below _ _), by rw [List.take_zero, List.append_nil, HM.out], hb8⟩
        have hb12B : w6.heap.size ≤ w7.heap.size := hb7.size
        clear hb7 ho7 hrt7 hb8
        go_wp2_with fail
        have hfb : (World.alloc w7 (.cells #[.int .i64 n, .slice a7 M c7] 34)) = w7.alloc (fbox n a7 M c7) := rfl
        rw [hfb]
        clear hfb
        generalize w7.alloc (fbox n a7 M c7) = w8 at HS0 ⊢
        generalize w7.heap.size = b12 at HS0 hb12B ⊢
        go_loopw [13] (fun s13 wr => ∃ (i : Nat) (a9 : Option Addr) (m9 c9 : Nat), s13 = .int .i64 i ∧ i ≤ N ∧ i ≤ k ∧ Hid (wr.heap[b12]? = some (fbox n a9 m9 c9) ∧ OwnR0 wr w6.heap.size (.slice a9 m9 c9) (F ++ P.take i) ∧ m9 = (F ++ P.take i).length ∧ Below w6.heap.size w6 wr)) (fun s13 _ => (N - (intOf s13)).toNat)
        case atStart => exact ⟨0, a7, M, c7, rfl, by omega, by omega, HS0⟩
        case round =>
          clear HS0
          obtain ⟨i, a9, m9, c9, rfl, hiN, hik, HS⟩ := hrel
          by_cases hlt : i < N
          · have hlt2 : (i : Int) < N := by omega
            obtain ⟨d, hck⟩ : ∃ d, P[i]? = some d := ⟨_, List.getElem?_eq_getElem (by rw [HNN.out]; exact hlt)⟩
            obtain ⟨bf, off, d0, hap, hcell, hoT⟩ := HRT6.out i d hck
            subst hap
            obtain ⟨ad, cd, hvd, hle, hcn, hrest⟩ := hoT
            have hoT : OwnT 3 w6 0 (.slice ad d.length cd) d := ⟨ad, cd, rfl, hle, hcn, hrest⟩
            subst hvd
            have HCK := hid hck
            have HOT := hid hoT
            have hcell2 := below_keeps HS.out.2.2.2 _ _ hcell
            have hdP := List.mem_of_getElem? hck
            have hdl := HPO.out.cl d hdP
            have hwi : IntKind.i64.wrap ((i : Int) + 1) = (i : Int) + 1 := IntWalk.i64_in _ (by omega)
            have p0 : wr.cell? ⟨b12, 0, none⟩ = some (.int .i64 n) := fit_cell (vs := [.int .i64 n, .slice a9 m9 c9]) HS.out.1 0
            have p1 : wr.cell? ⟨b12, 1, none⟩ = some (.slice a9 m9 c9) := fit_cell (vs := [.int .i64 n, .slice a9 m9 c9]) HS.out.1 1
            have hchk : cnfCheck n (F ++ P.take i) = 0 := check_more HCHK.out (fun d hd => HPO.out.lits (by omega) hd) (by rw [HM.out, HNN.out]; omega)
            have himp := impV_ok hchk (HPO.out.lits (by omega) hdP)
            obtain ⟨bi, hbi⟩ : ∃ b, upF (F ++ P.take i) (negs d) = b := ⟨_, rfl⟩
            rw [hbi] at himp
            have HBI := hid hbi
            obtain ⟨aq, cq, e9, hle9, hn9, hrw9⟩ := HS.out.2.1.shape
            injection e9 with e9a e9b e9c
            subst e9a e9c
            have h64 : ∀ x ∈ d, I64 x := (HPO.out.fok d hdP).1
            have HCALL : Hid (∀ wz, Below wr.heap.size wr wz → Calls Try.prog 43 #[.agg #[.int .i64 n, .slice a9 m9 c9], .slice ad d.length cd] wz fun e w' => e = .returned (.tuple #[.bool bi, .int .i64 0]) ∧ Below wz.heap.size wz w') := hid fun wz hz => by
              obtain ⟨a', c', e1, e2, e3, e4⟩ := (hoT.below HS.out.2.2.2).sli
              injection e1 with e1 _ e1c
              subst e1 e1c
              exact rup_ImpliedN n a9 (F ++ P.take i) m9 c9 ad d d.length cd bi 0 wz himp HS.out.2.2.1 rfl (fok_app HFO.out (fok_take HPO.out.fok i)) (hrw9.below hz) h64 (e4.below hz) (by rw [List.length_append, List.length_take, HM.out, HNN.out]; omega) (by omega)
            obtain ⟨dl, hdle⟩ : ∃ m, d.length = m := ⟨_, rfl⟩
            rw [hdle] at hcell2 hdl HCALL
            have HDLE := hid hdle
            clear hcell hck hoT hle hcn hrest hdP hchk himp hbi hle9 hn9 hrw9 e9b h64 hdle
            go_wp2_with fail
            go_cut [14, 15] (fun s14 s15 wz => s14 = .bool bi ∧ s15 = .int .i64 0 ∧ Hid (Below wr.heap.size wr wz))
            case first =>
              go_region_held3 (fun y => y.cell? ⟨b12, 0, none⟩ = some (.int .i64 n) ∧ y.cell? ⟨b12, 1, none⟩ = some (.slice a9 m9 c9) ∧ y.cell? ⟨bf, off + i, none⟩ = some (.slice ad dl cd)) (first | exact ⟨‹_›, ‹_›, ‹_›⟩ | go_keep)
                ((go_at_call 43; refine (HCALL.out _ (by first | exact Below.refl _ _ | exact (Below.refl _ _).drew)).mono ?_; rintro e wz ⟨rfl, hbz⟩; have HBZ := hid hbz; have z0 := below_keeps hbz _ _ p0; have z1 := below_keeps hbz _ _ p1; have z2 := below_keeps hbz _ _ hcell2; clear hbz))
              all_goals
                go_wp2_with fail
                go_meet
                case rel => exact ⟨rfl, rfl, hid (by first | exact HBZ.out | exact HBZ.out.drew | exact ((Below.refl wr.heap.size wr).drew.trans HBZ.out) | exact ((Below.refl wr.heap.size wr).drew.trans HBZ.out).drew)⟩
            case rest =>
              obtain ⟨rfl, rfl, HBC⟩ := hcut
              have hbx := (HBC.out.block b12 (Array.getElem?_eq_some_iff.1 HS.out.1).1).trans HS.out.1
              have hcell3 := below_keeps HBC.out _ _ hcell2
              have HOS := hid (HS.out.2.1.below HBC.out)
              have HML := hid HS.out.2.2.1
              have HB6c := hid (HS.out.2.2.2.trans (HBC.out.mono HS.out.2.2.2.size))
              clear HBC HCALL p0 p1 hcell2 HS
              by_cases hik2 : i = k
              · have hbf : bi = false := by rw [← HBI.out]; subst hik2; exact HPF.out.2.2 d HCK.out
                subst hbf
                subst hik2
                have d4 : ((i : Int) != i) = false := by simp
                have HW := hid HB6c.out
                have q0' := below_keeps HB6c.out _ _ q0
                have q1' := below_keeps HB6c.out _ _ q1
                clear hbx hcell3 HOS
                have hi0 : ¬ (i : Int) < 0 := by omega
                have hi1' : decide ((i : Int) < 0) = false := decide_eq_false hi0
                have hin : ((i : Int) == N) = false := by simp; omega
                have hst := slice_toG (P := Try.prog) (t := 32) (a := some ⟨bf, off, none⟩) (n := N) (c := cP) (k := (i : Int) + 1) (m := i + 1) (by simp) Try.underlying32 (fun wx => by kernel_rfl) (by have := HPC.out.1; omega)
                have HCALL := hid (fun wz (hz : Below wc.heap.size wc wz) => rup_CheckN n a F M c (some ⟨bf, off, none⟩) (P.take (i + 1)) (i + 1) cP i 0 wz (by rw [rupV_fine HCHK.out ⟨by rw [List.length_take]; omega, fun x hx => HPO.out.ok x (List.mem_of_mem_take hx), fun x hx => HPO.out.cl x (List.mem_of_mem_take hx), fok_take HPO.out.fok _⟩ (by omega), HPF.out.1]) HM.out.symm (by rw [List.length_take, HNN.out]; omega) HFO.out ((HR6.out.below HB6c.out).below hz) (fok_take HPO.out.fok _) (rws_takeG ((HRP6.out.below HB6c.out).below hz) (i + 1)) (by rw [HM.out]; omega) (by rw [List.length_take]; omega))
                go_wp2_with fail
                have hcw : IntKind.i64.wrap ((i : Int) + 1) = (i : Int) + 1 := hwi
                go_region_held3 (fun y => y.cell? ⟨b7, 0, none⟩ = some (.int .i64 n) ∧ y.cell? ⟨b7, 1, none⟩ = some (.slice a M c)) (first | exact ⟨‹_›, ‹_›⟩ | go_keep)
                  ((go_at_call 42; refine (HCALL.out _ (by first | exact Below.refl _ _ | exact (Below.refl _ _).drew)).mono ?_; rintro e wz ⟨rfl, hbz⟩; have hbz : Below wc.heap.size wc wz := (by first | exact hbz | exact (Below.refl wc.heap.size wc).drew.trans hbz); have HBZ := hid hbz; have z0 := below_keeps hbz _ _ q0'; have z1 := below_keeps hbz _ _ q1'; clear hbz))
                all_goals
                  go_wp2_with (go_at_call 39; refine (law05_known _).mono ?_; rintro e w' ⟨rfl, hb⟩)
                  have hz := (HB6.out.trans (HW.out.mono HB6.out.size))
                  exact HQ.out _ ((hz.trans (HBZ.out.mono hz.size)).trans (hb.mono (by have := HBZ.out.size; have := hz.size; first | omega | (show w.heap.size ≤ wz.heap.size; omega))))
              have hbt : bi = true := by rw [← HBI.out]; exact HPF.out.2.1 i d (by omega) HCK.out
              subst hbt
              obtain ⟨us, hrow, hvs⟩ := HOS.out
              have HROW : Hid (wc.ownsRow w6.heap.size 22 1 (.slice a9 m9 c9) m9 us) := hid (by rw [← HML.out] at hrow; exact hrow)
              have HVS := hid hvs
              have hm9 : m9 ≤ 1048576 := by
                have h1 := HML.out
                rw [List.length_append, List.length_take, HM.out, HNN.out] at h1
                omega
              have hwcs : w6.heap.size ≤ wc.heap.size := HB6c.out.size
              have hbgl : b12 < wc.heap.size := (Array.getElem?_eq_some_iff.1 hbx).1
              have HBX := hid hbx
              have hs0 : wc.cell? ⟨b12, 1, none⟩ = some (.slice a9 m9 c9) := fit_cell (vs := [.int .i64 n, .slice a9 m9 c9]) hbx 1
              have hs0a := fun o => below_keeps (box_below wc o) _ _ hs0
              have hs2a := fun o => below_keeps (box_below wc o) _ _ hcell3
              clear hrow hvs hbx
              have d4 : ((k : Int) == i) = false := by simp; omega
              have HOT9 := hid (HOT.out.below HB6c.out)
              rw [HDLE.out] at HOT9

              go_wp2_with fail
              go_region_law (refine step_append_at1 rfl _ _ 32 rfl w6.heap.size 22 i1 (.slice none 0 0) 24 Try.underlying32 hi1 hy0 hy1 hy2 rfl (.slice a9 m9 c9) m9 us (by rfl) (by exact HROW.out.alloc _) _ (.slice ad dl cd) (by rfl) (by exact heap_alloc_new _ _) rfl (by unfold maxLen; omega) (by omega) (by simp; omega) ?_; intro v12 w12 h12 hg12 ha12; obtain ⟨a12, c12, rfl⟩ := own_lenV' h12; have H12 := hid h12; have HG12 := hid hg12; have hx12 : w12.heap[b12]? = some (.cells #[.int .i64 n, .slice a9 m9 c9] 34) := (hg12.block _ (by simp; omega) (fun e => by obtain ⟨cu, hc⟩ := own_cells HROW.out e.symm; rw [HBX.out] at hc; unfold fbox at hc; simp at hc)).trans ((Below.heap_alloc _ _ _ (by exact hbgl)).trans HBX.out); have HX12 := hid hx12; have hs0 : w12.cell? ⟨b12, 1, none⟩ = some (.slice a9 m9 c9) := fit_cell (vs := [.int .i64 n, .slice a9 m9 c9]) hx12 1; have hf12 : w12.frozen? ⟨b12, 1, none⟩ = false := frozen_of_row _ _ _ _ _ hx12; clear h12 hg12 ha12 hx12)
              all_goals
                have hbA := (Below.refl wc.heap.size wc).drew.alloc (Nat.le_refl _) (.cells #[.slice ad dl cd] 22)
                have hP12 : OwnR0 w12 w6.heap.size (.slice a12 (m9 + 1) c12) ((F ++ P.take i) ++ [d]) := OwnR0.push (by rw [← HML.out]; exact HROW.out.alloc _) (fun j e hj => let ⟨u, e1, e2⟩ := HVS.out j e hj; ⟨u, e1, e2.below hbA⟩) (HOT9.out.below hbA) (by rw [← HML.out]; exact H12.out) HG12.out
                have hB12 : Below w6.heap.size w6 (w12.setCell ⟨b12, 1, none⟩ (.slice a12 (m9 + 1) c12)) := ((below_al HB6c.out.drew HB6c.out.size _).grown HG12.out (by simp; omega) (fun q hq => (HROW.out.lt q hq).1)).setCell (by exact hb12B) _
                have HS2 : Hid ((w12.setCell ⟨b12, 1, none⟩ (.slice a12 (m9 + 1) c12)).heap[b12]? = some (fbox n a12 (m9 + 1) c12) ∧ OwnR0 (w12.setCell ⟨b12, 1, none⟩ (.slice a12 (m9 + 1) c12)) w6.heap.size (.slice a12 (m9 + 1) c12) (F ++ P.take (i + 1)) ∧ m9 + 1 = (F ++ P.take (i + 1)).length ∧ Below w6.heap.size w6 (w12.setCell ⟨b12, 1, none⟩ (.slice a12 (m9 + 1) c12))) := hid (by
                  rw [List.take_add_one, HCK.out, ← List.append_assoc]
                  refine ⟨setCell_block (o := 1) (xs := [.int .i64 n, .slice a9 m9 c9]) (.slice a12 (m9 + 1) c12) HX12.out, ?_, ?_, hB12⟩
                  · exact hP12.setBox HX12.out (by decide) (by decide) _
                  · rw [HML.out]
                    simp only [List.length_append, Option.toList_some, List.length_cons, List.length_nil])
                clear hP12 hB12 hbA hs0 hs0a hs2a hcell3
                go_wp2_with fail
                go_roundw
                case rel => exact ⟨i + 1, a12, m9 + 1, c12, by simp, by omega, (by first | omega | exact hid (by omega)), HS2⟩
                case measure => simp [intOf]; omega
          · exfalso
            omega

      · obtain ⟨hall, hlast⟩ := rupI_rest (F := F) (P := P) (by rw [HRI.out, HNN.out]; exact hrB)
        rw [HRI.out] at hlast
        have HALL := hid hall
        have HLAST := hid hlast
        have HRB := hid hrB
        clear hall hlast
        go_wp2_with fail
        refine (kit_CopyFormula n a F M c w6 HM.out.symm HFO.out HR6.out (by rw [HM.out]; omega) (fun d hd => by have := HFC.out d hd; omega)).mono ?_
        rw [HM.out]
        rintro e w7 ⟨a7, c7, rfl, hc7, ho7, -, hb7⟩
        have hrt7 : OwnR0 w7 w6.heap.size (.slice a7 M c7) F := ownR0_of ho7
        have hb8 : Below w6.heap.size w6 (w7.alloc (fbox n a7 M c7)) := below_al hb7 hb7.size _
        have HS0 : Hid ((w7.alloc (fbox n a7 M c7)).heap[w7.heap.size]? = some (fbox n a7 M c7) ∧ OwnR0 (w7.alloc (fbox n a7 M c7)) w6.heap.size (.slice a7 M c7) (F ++ P.take 0) ∧ M = (F ++ P.take 0).length ∧ Below w6.heap.size w6 (w7.alloc (fbox n a7 M c7))) := hid ⟨heap_alloc_new _ _, by rw [List.take_zero, List.append_nil]; exact hrt7.below (box_below _ _), by rw [List.take_zero, List.append_nil, HM.out], hb8⟩
        have hb12B : w6.heap.size ≤ w7.heap.size := hb7.size
        clear hb7 ho7 hrt7 hb8
        go_wp2_with fail
        have hfb : (World.alloc w7 (.cells #[.int .i64 n, .slice a7 M c7] 34)) = w7.alloc (fbox n a7 M c7) := rfl
        rw [hfb]
        clear hfb
        generalize w7.alloc (fbox n a7 M c7) = w8 at HS0 ⊢
        generalize w7.heap.size = b12 at HS0 hb12B ⊢
        go_loopw [13] (fun s13 wr => ∃ (i : Nat) (a9 : Option Addr) (m9 c9 : Nat), s13 = .int .i64 i ∧ i ≤ N ∧ Hid (i ≤ N) ∧ Hid (wr.heap[b12]? = some (fbox n a9 m9 c9) ∧ OwnR0 wr w6.heap.size (.slice a9 m9 c9) (F ++ P.take i) ∧ m9 = (F ++ P.take i).length ∧ Below w6.heap.size w6 wr)) (fun s13 _ => (N - (intOf s13)).toNat)
        case atStart => exact ⟨0, a7, M, c7, rfl, by omega, hid (by omega), HS0⟩
        case round =>
          clear HS0
          obtain ⟨i, a9, m9, c9, rfl, hiN, hik, HS⟩ := hrel
          by_cases hlt : i < N
          · have hlt2 : (i : Int) < N := by omega
            obtain ⟨d, hck⟩ : ∃ d, P[i]? = some d := ⟨_, List.getElem?_eq_getElem (by rw [HNN.out]; exact hlt)⟩
            obtain ⟨bf, off, d0, hap, hcell, hoT⟩ := HRT6.out i d hck
            subst hap
            obtain ⟨ad, cd, hvd, hle, hcn, hrest⟩ := hoT
            have hoT : OwnT 3 w6 0 (.slice ad d.length cd) d := ⟨ad, cd, rfl, hle, hcn, hrest⟩
            subst hvd
            have HCK := hid hck
            have HOT := hid hoT
            have hcell2 := below_keeps HS.out.2.2.2 _ _ hcell
            have hdP := List.mem_of_getElem? hck
            have hdl := HPO.out.cl d hdP
            have hwi : IntKind.i64.wrap ((i : Int) + 1) = (i : Int) + 1 := IntWalk.i64_in _ (by omega)
            have p0 : wr.cell? ⟨b12, 0, none⟩ = some (.int .i64 n) := fit_cell (vs := [.int .i64 n, .slice a9 m9 c9]) HS.out.1 0
            have p1 : wr.cell? ⟨b12, 1, none⟩ = some (.slice a9 m9 c9) := fit_cell (vs := [.int .i64 n, .slice a9 m9 c9]) HS.out.1 1
            have hchk : cnfCheck n (F ++ P.take i) = 0 := check_more HCHK.out (fun d hd => HPO.out.lits (by omega) hd) (by rw [HM.out, HNN.out]; omega)
            have himp := impV_ok hchk (HPO.out.lits (by omega) hdP)
            obtain ⟨bi, hbi⟩ : ∃ b, upF (F ++ P.take i) (negs d) = b := ⟨_, rfl⟩
            rw [hbi] at himp
            have HBI := hid hbi
            obtain ⟨aq, cq, e9, hle9, hn9, hrw9⟩ := HS.out.2.1.shape
            injection e9 with e9a e9b e9c
            subst e9a e9c
            have h64 : ∀ x ∈ d, I64 x := (HPO.out.fok d hdP).1
            have HCALL : Hid (∀ wz, Below wr.heap.size wr wz → Calls Try.prog 43 #[.agg #[.int .i64 n, .slice a9 m9 c9], .slice ad d.length cd] wz fun e w' => e = .returned (.tuple #[.bool bi, .int .i64 0]) ∧ Below wz.heap.size wz w') := hid fun wz hz => by
              obtain ⟨a', c', e1, e2, e3, e4⟩ := (hoT.below HS.out.2.2.2).sli
              injection e1 with e1 _ e1c
              subst e1 e1c
              exact rup_ImpliedN n a9 (F ++ P.take i) m9 c9 ad d d.length cd bi 0 wz himp HS.out.2.2.1 rfl (fok_app HFO.out (fok_take HPO.out.fok i)) (hrw9.below hz) h64 (e4.below hz) (by rw [List.length_append, List.length_take, HM.out, HNN.out]; omega) (by omega)
            obtain ⟨dl, hdle⟩ : ∃ m, d.length = m := ⟨_, rfl⟩
            rw [hdle] at hcell2 hdl HCALL
            have HDLE := hid hdle
            clear hcell hck hoT hle hcn hrest hdP hchk himp hbi hle9 hn9 hrw9 e9b h64 hdle
            go_wp2_with fail
            go_cut [14, 15] (fun s14 s15 wz => s14 = .bool bi ∧ s15 = .int .i64 0 ∧ Hid (Below wr.heap.size wr wz))
            case first =>
              go_region_held3 (fun y => y.cell? ⟨b12, 0, none⟩ = some (.int .i64 n) ∧ y.cell? ⟨b12, 1, none⟩ = some (.slice a9 m9 c9) ∧ y.cell? ⟨bf, off + i, none⟩ = some (.slice ad dl cd)) (first | exact ⟨‹_›, ‹_›, ‹_›⟩ | go_keep)
                ((go_at_call 43; refine (HCALL.out _ (by first | exact Below.refl _ _ | exact (Below.refl _ _).drew)).mono ?_; rintro e wz ⟨rfl, hbz⟩; have HBZ := hid hbz; have z0 := below_keeps hbz _ _ p0; have z1 := below_keeps hbz _ _ p1; have z2 := below_keeps hbz _ _ hcell2; clear hbz))
              all_goals
                go_wp2_with fail
                go_meet
                case rel => exact ⟨rfl, rfl, hid (by first | exact HBZ.out | exact HBZ.out.drew | exact ((Below.refl wr.heap.size wr).drew.trans HBZ.out) | exact ((Below.refl wr.heap.size wr).drew.trans HBZ.out).drew)⟩
            case rest =>
              obtain ⟨rfl, rfl, HBC⟩ := hcut
              have hbx := (HBC.out.block b12 (Array.getElem?_eq_some_iff.1 HS.out.1).1).trans HS.out.1
              have hcell3 := below_keeps HBC.out _ _ hcell2
              have HOS := hid (HS.out.2.1.below HBC.out)
              have HML := hid HS.out.2.2.1
              have HB6c := hid (HS.out.2.2.2.trans (HBC.out.mono HS.out.2.2.2.size))
              clear HBC HCALL p0 p1 hcell2 HS
              have hbt : bi = true := by rw [← HBI.out]; exact HALL.out i d HCK.out
              subst hbt
              obtain ⟨us, hrow, hvs⟩ := HOS.out
              have HROW : Hid (wc.ownsRow w6.heap.size 22 1 (.slice a9 m9 c9) m9 us) := hid (by rw [← HML.out] at hrow; exact hrow)
              have HVS := hid hvs
              have hm9 : m9 ≤ 1048576 := by
                have h1 := HML.out
                rw [List.length_append, List.length_take, HM.out, HNN.out] at h1
                omega
              have hwcs : w6.heap.size ≤ wc.heap.size := HB6c.out.size
              have hbgl : b12 < wc.heap.size := (Array.getElem?_eq_some_iff.1 hbx).1
              have HBX := hid hbx
              have hs0 : wc.cell? ⟨b12, 1, none⟩ = some (.slice a9 m9 c9) := fit_cell (vs := [.int .i64 n, .slice a9 m9 c9]) hbx 1
              have hs0a := fun o => below_keeps (box_below wc o) _ _ hs0
              have hs2a := fun o => below_keeps (box_below wc o) _ _ hcell3
              clear hrow hvs hbx
              have d4 : (r == i) = false := by simp; omega
              have HOT9 := hid (HOT.out.below HB6c.out)
              rw [HDLE.out] at HOT9

              go_wp2_with fail
              go_region_law (refine step_append_at1 rfl _ _ 32 rfl w6.heap.size 22 i1 (.slice none 0 0) 24 Try.underlying32 hi1 hy0 hy1 hy2 rfl (.slice a9 m9 c9) m9 us (by rfl) (by exact HROW.out.alloc _) _ (.slice ad dl cd) (by rfl) (by exact heap_alloc_new _ _) rfl (by unfold maxLen; omega) (by omega) (by simp; omega) ?_; intro v12 w12 h12 hg12 ha12; obtain ⟨a12, c12, rfl⟩ := own_lenV' h12; have H12 := hid h12; have HG12 := hid hg12; have hx12 : w12.heap[b12]? = some (.cells #[.int .i64 n, .slice a9 m9 c9] 34) := (hg12.block _ (by simp; omega) (fun e => by obtain ⟨cu, hc⟩ := own_cells HROW.out e.symm; rw [HBX.out] at hc; unfold fbox at hc; simp at hc)).trans ((Below.heap_alloc _ _ _ (by exact hbgl)).trans HBX.out); have HX12 := hid hx12; have hs0 : w12.cell? ⟨b12, 1, none⟩ = some (.slice a9 m9 c9) := fit_cell (vs := [.int .i64 n, .slice a9 m9 c9]) hx12 1; have hf12 : w12.frozen? ⟨b12, 1, none⟩ = false := frozen_of_row _ _ _ _ _ hx12; clear h12 hg12 ha12 hx12)
              all_goals
                have hbA := (Below.refl wc.heap.size wc).drew.alloc (Nat.le_refl _) (.cells #[.slice ad dl cd] 22)
                have hP12 : OwnR0 w12 w6.heap.size (.slice a12 (m9 + 1) c12) ((F ++ P.take i) ++ [d]) := OwnR0.push (by rw [← HML.out]; exact HROW.out.alloc _) (fun j e hj => let ⟨u, e1, e2⟩ := HVS.out j e hj; ⟨u, e1, e2.below hbA⟩) (HOT9.out.below hbA) (by rw [← HML.out]; exact H12.out) HG12.out
                have hB12 : Below w6.heap.size w6 (w12.setCell ⟨b12, 1, none⟩ (.slice a12 (m9 + 1) c12)) := ((below_al HB6c.out.drew HB6c.out.size _).grown HG12.out (by simp; omega) (fun q hq => (HROW.out.lt q hq).1)).setCell (by exact hb12B) _
                have HS2 : Hid ((w12.setCell ⟨b12, 1, none⟩ (.slice a12 (m9 + 1) c12)).heap[b12]? = some (fbox n a12 (m9 + 1) c12) ∧ OwnR0 (w12.setCell ⟨b12, 1, none⟩ (.slice a12 (m9 + 1) c12)) w6.heap.size (.slice a12 (m9 + 1) c12) (F ++ P.take (i + 1)) ∧ m9 + 1 = (F ++ P.take (i + 1)).length ∧ Below w6.heap.size w6 (w12.setCell ⟨b12, 1, none⟩ (.slice a12 (m9 + 1) c12))) := hid (by
                  rw [List.take_add_one, HCK.out, ← List.append_assoc]
                  refine ⟨setCell_block (o := 1) (xs := [.int .i64 n, .slice a9 m9 c9]) (.slice a12 (m9 + 1) c12) HX12.out, ?_, ?_, hB12⟩
                  · exact hP12.setBox HX12.out (by decide) (by decide) _
                  · rw [HML.out]
                    simp only [List.length_append, Option.toList_some, List.length_cons, List.length_nil])
                clear hP12 hB12 hbA hs0 hs0a hs2a hcell3
                go_wp2_with fail
                go_roundw
                case rel => exact ⟨i + 1, a12, m9 + 1, c12, by simp, by omega, (by first | omega | exact hid (by omega)), HS2⟩
                case measure => simp [intOf]; omega
          · have hie : i = N := by omega
            subst hie
            have hlt2 : ¬ (i : Int) < i := by omega
            have HW := hid (HB6.out.trans (HS.out.2.2.2.mono HB6.out.size))
            have HBS := hid HS.out.2.2.2
            clear HS hlt hiN
            by_cases hi0 : i = 0
            · have hP0 : P = [] := List.eq_nil_of_length_eq_zero (by rw [HNN.out]; exact hi0)
              have hr0 : r ≠ -1 := fun q => by have := HLAST.out.1 q; rw [hP0] at this; simp at this
              have hr1 : r = i := HRB.out.resolve_left hr0
              subst hr1
              have e1 : decide ((i : Int) < 0) = false := decide_eq_false (by omega)
              have e2 : ((i : Int) == -1) = false := by simp
              have e3 : ¬ (0 : Int) < i := by omega
              have e4 : ¬ 0 < i := by omega
              clear hi0 hr0
              go_wp2_with (go_at_call 39; refine (law05_known _).mono ?_; rintro e w' ⟨rfl, hb⟩)
              exact HQ.out _ (HW.out.trans (hb.mono HW.out.size))
            · obtain ⟨d, hck⟩ : ∃ d, P[i - 1]? = some d := ⟨_, List.getElem?_eq_getElem (by rw [HNN.out]; omega)⟩
              obtain ⟨bf, off, d0, hap, hcell, hoT⟩ := HRT6.out (i - 1) d hck
              subst hap
              obtain ⟨ad, cd, hvd, hle, hcn, hrest⟩ := hoT
              subst hvd
              have hcell2 := below_keeps HBS.out _ _ hcell
              have HLST : Hid (P.getLast? = some d) := hid (by rw [List.getLast?_eq_getElem?, HNN.out]; exact hck)
              have hwi : IntKind.i64.wrap ((i : Int) - 1) = (i : Int) - 1 := IntWalk.i64_in _ (by omega)
              have hge : (0 : Int) ≤ (i : Int) - 1 := by omega
              have hlt3 : (i : Int) - 1 < i := by omega
              have htn : ((i : Int) - 1).toNat = i - 1 := by omega
              have e3 : (0 : Int) < i := by omega
              have e4 : 0 < i := by omega
              clear hck hcell hle hcn hrest hi0
              by_cases hd0 : d.length = 0
              · have hr1 : r = -1 := HLAST.out.2 (by rw [HLST.out, List.eq_nil_of_length_eq_zero hd0])
                subst hr1
                have e5 : ((d.length : Int) == 0) = true := by simp [hd0]
                clear hd0
                go_wp2_with (go_at_call 39; refine (law05_known _).mono ?_; rintro e w' ⟨rfl, hb⟩)
                exact HQ.out _ (HW.out.trans (hb.mono HW.out.size))
              · have hr0 : r ≠ -1 := fun q => by have := HLAST.out.1 q; rw [HLST.out] at this; injection this with this; exact hd0 (by rw [this]; rfl)
                have hr1 : r = i := HRB.out.resolve_left hr0
                subst hr1
                have e1 : decide ((i : Int) < 0) = false := decide_eq_false (by omega)
                have e2 : ((i : Int) == -1) = false := by simp
                have e5 : ((d.length : Int) == 0) = false := by simp; intro h; exact hd0 (by simp [h])
                clear hd0 hr0
                go_wp2_with (go_at_call 39; refine (law05_known _).mono ?_; rintro e w' ⟨rfl, hb⟩)
                exact HQ.out _ (HW.out.trans (hb.mono HW.out.size))

end Go.Proofs.Ytfmahgobogelkaa.Ord
