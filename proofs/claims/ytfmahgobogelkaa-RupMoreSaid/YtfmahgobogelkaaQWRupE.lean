/- The walk of RupMore. -/
import Derived.Test.YtfmahgobogelkaaQ13

namespace Go.Proofs.Ytfmahgobogelkaa.Ord
open Go.RowKit

attribute [local go_sem ↓] Go.wp_at_zero Go.wp_at_succ
attribute [local go_sem ↓ high] app_mark

/-- Those of the clauses that are implied. -/
noncomputable def impL (F : List (List Int)) (P : List (List Int)) : List (List Int) := P.filter fun c => upF F (negs c)

theorem impL_step {F P : List (List Int)} {k : Nat} {c : List Int} (hc : P[k]? = some c) : impL F (P.take (k + 1)) = impL F (P.take k) ++ (if upF F (negs c) = true then [c] else []) := by
  unfold impL
  rw [List.take_add_one, hc, List.filter_append]
  congr 1
  simp only [Option.toList_some, List.filter_cons, List.filter_nil]

theorem impL_len (F P : List (List Int)) : (impL F P).length ≤ P.length := List.length_filter_le _ _

theorem impL_imp {F P : List (List Int)} : ∀ c ∈ impL F P, upF F (negs c) = true := fun _ hc => (List.mem_filter.1 hc).2

theorem impL_sub {F P : List (List Int)} : ∀ c ∈ impL F P, c ∈ P := fun _ hc => (List.mem_filter.1 hc).1

theorem vals_app {w : World} {us vs : List Value} {f g : List (List Int)} (hul : us.length = f.length) (h1 : ∀ (j : Nat) (c : List Int), f[j]? = some c → ∃ u, us[j]? = some u ∧ SlI w u c) (h2 : ∀ (j : Nat) (c : List Int), g[j]? = some c → ∃ u, vs[j]? = some u ∧ SlI w u c) : ∀ (j : Nat) (c : List Int), (f ++ g)[j]? = some c → ∃ u, (us ++ vs)[j]? = some u ∧ SlI w u c := fun j d hd => by
  by_cases q : j < f.length
  · rw [List.getElem?_append_left q] at hd
    obtain ⟨x, e1, e2⟩ := h1 j d hd
    exact ⟨x, by rw [List.getElem?_append_left (by omega)]; exact e1, e2⟩
  · rw [List.getElem?_append_right (by omega)] at hd
    obtain ⟨x, e1, e2⟩ := h2 _ d hd
    exact ⟨x, by rw [List.getElem?_append_right (by omega), hul]; exact e1, e2⟩

theorem vals_oneC {w : World} {us : List Value} {f : List (List Int)} (hul : us.length = f.length) (h1 : ∀ (j : Nat) (c : List Int), f[j]? = some c → ∃ u, us[j]? = some u ∧ SlI w u c) : ∀ u ∈ us, u.oneCell' = true := fun u hu => by
  obtain ⟨j, hj⟩ := List.mem_iff_getElem?.1 hu
  have hl := (List.getElem?_eq_some_iff.1 hj).1
  obtain ⟨x, e1, a, c, e2, -⟩ := h1 j _ (List.getElem?_eq_getElem (by omega : j < f.length))
  rw [hj] at e1
  injection e1 with e1
  subst e1
  subst e2
  rfl

theorem prOk_app {n : Nat} {B P : List (List Int)} (hB : ∀ c ∈ B, c ∈ P) (h : PrOk n P) : (∀ d ∈ B ++ P, litCheck n d = 0 ∨ ¬ n ≤ 12) ∧ FOk (B ++ P) := by
  have hs : ∀ d ∈ B ++ P, d ∈ P := fun d hd => (List.mem_append.1 hd).elim (hB d) id
  refine ⟨fun d hd => ?_, fun d hd => h.fok d (hs d hd)⟩
  by_cases q : n ≤ 12
  · exact .inl (h.lits q (hs d hd))
  · exact .inr q

set_option maxRecDepth 100000 in
set_option maxHeartbeats 8000000 in
theorem walk_RupMore (x0 : Int) (v1 : Value) (x1 : List (List Int)) (v2 : Value) (x2 : List (List Int)) (x3 : Int) (w : World) (w0 : (Lit.int .u8 x0).wf = true) (w1 : ArgR .i8 w v1 x1) (w2 : ArgR .i8 w v2 x2) (w3 : (Lit.int .u8 x3).wf = true) :
    Calls Try.prog 12 #[.int .u8 x0, v1, v2, .int .u8 x3] w fun e w' => e = .returned (.bool true) ∧ Below w.heap.size w w' := by
  have hb0 := bounds_u8 w0
  have HA := hid w1
  have HA2 := hid w2
  have hb3' := bounds_u8 w3
  obtain ⟨i1, hi1, hy0, hy1, hy2⟩ := info_parts info_ints
  clear w0 w1 w2 w3
  obtain ⟨Q, hQ⟩ : ∃ Q : Ending → World → Prop, (fun e w' => e = .returned (.bool true) ∧ Below w.heap.size w w') = Q := ⟨_, rfl⟩
  rw [hQ]
  have HQ : Hid (∀ w', Below w.heap.size w w' → Q (.returned (.bool true)) w') := hid fun w' hw => by rw [← hQ]; exact ⟨rfl, hw⟩
  clear hQ
  cases hfit : fitB x1 with
  | false =>
    have HFI := hid hfit
    clear hfit
    go_enter Try.func12, Try.ntmps12
    go_wp2_with fail
    refine (law02_FitF x0 v1 x1 w HFI.out hb0.1 hb0.2 HA.out).mono ?_
    rintro e w3 ⟨rfl, hb3⟩
    have HB3 := hid hb3
    clear hb3
    go_wp2_with (go_at_call 39; refine (law05_known _).mono ?_; rintro e w' ⟨rfl, hb⟩)
    exact HQ.out _ ((below_al HB3.out HB3.out.size _).trans (hb.mono (by have := HB3.out.size; simp only [size_al]; omega)))
  | true =>
    have hV := fitV_range x0
    obtain ⟨n, hn⟩ : ∃ n : Nat, fitV x0 = (n : Int) := ⟨(fitV x0).toNat, by omega⟩
    have hn1 : 1 ≤ n ∧ n ≤ 12 := by omega
    obtain ⟨F, hF⟩ : ∃ F, fitF x0 x1 = F := ⟨_, rfl⟩
    have hfl : F.length ≤ 30 := by rw [← hF, fitF_length]; exact (fitB_bounds hfit).1
    have HFO := hid (show FOk F from hF ▸ fok_fit hfit)
    have HFK : Hid (ClsOk n F) := hid (hF ▸ clsok_fit x0 hn.symm x1)
    have HCHK : Hid (cnfCheck n F = 0) := hid (by rw [← hn, ← hF]; exact cnfCheck_fit hfit)
    have HFC : Hid (∀ c ∈ F, c.length ≤ 20) := hid fun c hc => by
      rw [← hF] at hc
      simp only [fitF, List.mem_map] at hc
      obtain ⟨c', hc', rfl⟩ := hc
      exact Nat.le_trans (fitC_length (fitV x0) c') ((fitB_bounds hfit).2 c' hc')
    have HN := hid hn
    have HF := hid hF
    have HFI := hid hfit
    clear hfit hF hn hV
    cases hfp : fitB x2 with
    | false =>
      have HFP := hid hfp
      clear hfp
      go_enter Try.func12, Try.ntmps12
      go_wp2_with fail
      refine (law02_FitH x0 v1 x1 w HFI.out hb0.1 hb0.2 HA.out).mono ?_
      rw [HN.out, HF.out]
      rintro e w3 ⟨a, c, rfl, hfc, hcn, hr3, hb3⟩
      have HCN := hid hcn
      have hz3 := hb3.size
      have hb4 : Below w.heap.size w (w3.alloc (fbox n a F.length c)) := below_al hb3 hz3 _
      have HR4 := hid (hr3.below (box_below w3 (fbox n a F.length c)))
      have HB4 := hid hb4
      have hp0 : (w3.alloc (fbox n a F.length c)).cell? ⟨w3.heap.size, 0, none⟩ = some (.int .i64 n) := fit_cell (vs := [.int .i64 n, .slice a F.length c]) (heap_alloc_new w3 _) 0
      have hp1 : (w3.alloc (fbox n a F.length c)).cell? ⟨w3.heap.size, 1, none⟩ = some (.slice a F.length c) := fit_cell (vs := [.int .i64 n, .slice a F.length c]) (heap_alloc_new w3 _) 1
      have hb7l : w3.heap.size < (w3.alloc (fbox n a F.length c)).heap.size := by simp only [size_al]; omega
      clear hb3 hr3 hb4 hcn hz3
      go_wp2_with fail
      have hfb : (World.alloc w3 (.cells #[.int .i64 n, .slice a F.length c] 34)) = w3.alloc (fbox n a F.length c) := rfl
      rw [hfb]
      clear hfb
      generalize w3.alloc (fbox n a F.length c) = w4 at HR4 HB4 hp0 hp1 hb7l ⊢
      generalize w3.heap.size = b7 at hp0 hp1 hb7l ⊢
      have HP := hid (And.intro hp0 hp1)
      have hb7 : w.heap.size ≤ b7 ∨ True := .inr trivial
      clear hb7
      obtain ⟨M, hM⟩ : ∃ M, F.length = M := ⟨_, rfl⟩
      rw [hM] at hfl hfc hp1 HP
      try rw [hM]
      have HM := hid hM
      clear hM
      refine (law05_clausesF n a M c v2 x2 _ hn1 HFP.out (argR_below HA2.out HB4.out)).mono ?_
      rintro e w5 ⟨v, rfl, hb5⟩
      have HB5 := hid (HB4.out.trans (hb5.mono HB4.out.size))
      clear hb5 hp0 hp1
      go_wp2_with (go_at_call 39; refine (law05_known _).mono ?_; rintro e w' ⟨rfl, hb⟩)
      exact HQ.out _ (HB5.out.trans (hb.mono HB5.out.size))
    | true =>
      obtain ⟨P, hP⟩ : ∃ P, clsL n x2 = P := ⟨_, rfl⟩
      have HPO : Hid (PrOk n P) := hid (hP ▸ clsL_ok hn1 hfp)
      have HFP := hid hfp
      have HPE := hid hP
      have hpl : P.length ≤ 30 := HPO.out.len
      clear hfp hP
      go_enter Try.func12, Try.ntmps12
      go_wp2_with fail
      refine (law02_FitH x0 v1 x1 w HFI.out hb0.1 hb0.2 HA.out).mono ?_
      rw [HN.out, HF.out]
      rintro e w3 ⟨a, c, rfl, hfc, hcn, hr3, hb3⟩
      have HCN := hid hcn
      have hz3 := hb3.size
      have hb4 : Below w.heap.size w (w3.alloc (fbox n a F.length c)) := below_al hb3 hz3 _
      have HR4 := hid (hr3.below (box_below w3 (fbox n a F.length c)))
      have HB4 := hid hb4
      have hp0 : (w3.alloc (fbox n a F.length c)).cell? ⟨w3.heap.size, 0, none⟩ = some (.int .i64 n) := fit_cell (vs := [.int .i64 n, .slice a F.length c]) (heap_alloc_new w3 _) 0
      have hp1 : (w3.alloc (fbox n a F.length c)).cell? ⟨w3.heap.size, 1, none⟩ = some (.slice a F.length c) := fit_cell (vs := [.int .i64 n, .slice a F.length c]) (heap_alloc_new w3 _) 1
      have hb7l : w3.heap.size < (w3.alloc (fbox n a F.length c)).heap.size := by simp only [size_al]; omega
      clear hb3 hr3 hb4 hcn hz3
      go_wp2_with fail
      have hfb : (World.alloc w3 (.cells #[.int .i64 n, .slice a F.length c] 34)) = w3.alloc (fbox n a F.length c) := rfl
      rw [hfb]
      clear hfb
      generalize w3.alloc (fbox n a F.length c) = w4 at HR4 HB4 hp0 hp1 hb7l ⊢
      generalize w3.heap.size = b7 at hp0 hp1 hb7l ⊢
      have HP := hid (And.intro hp0 hp1)
      have hb7 : w.heap.size ≤ b7 ∨ True := .inr trivial
      clear hb7
      obtain ⟨M, hM⟩ : ∃ M, F.length = M := ⟨_, rfl⟩
      rw [hM] at hfl hfc hp1 HP
      try rw [hM]
      have HM := hid hM
      clear hM
      refine (law05_clausesT n a M c v2 x2 _ hn1 HFP.out (argR_below HA2.out HB4.out)).mono ?_
      rw [HPE.out]
      rintro e w5 ⟨aP, cP, rfl, hPc, hPn, hrP, hb5⟩
      have HPC := hid (And.intro hPc hPn)
      have HB5 := hid (HB4.out.trans (hb5.mono HB4.out.size))
      have HR5 := hid (HR4.out.below hb5)
      have HRT5 := hid hrP
      have HRP5 := hid hrP.rws
      have p0 := below_keeps hb5 _ _ hp0
      have p1 := below_keeps hb5 _ _ hp1
      have hb75 : b7 < w5.heap.size := Nat.lt_of_lt_of_le hb7l hb5.size
      clear hb5 hp0 hp1 HP hPc hPn hrP HB4 HR4 hb7l
      obtain ⟨N, hNN⟩ : ∃ N, P.length = N := ⟨_, rfl⟩
      rw [hNN] at hpl HPC ⊢
      have HNN := hid hNN
      clear hNN
      obtain ⟨k, hk⟩ : ∃ k, k = x3.toNat % (M + 1) := ⟨_, rfl⟩
      have hkM : k ≤ M := by have := Nat.mod_lt x3.toNat (show 0 < M + 1 by omega); omega
      have hrem : x3.tmod ((M : Int) + 1) = (k : Int) := by
        rw [hk, Int.tmod_eq_emod_of_nonneg hb3'.1, Int.natCast_emod, Int.toNat_of_nonneg hb3'.1]; simp
      have hrun := slice_headG (P := Try.prog) (t := 32) (e := 22) (a := a) (n := M) (c := c) (k := k) Try.underlying32 (fun wx => by kernel_rfl) (by omega) (by omega)
      have htn : ((k : Int)).toNat = k := by omega
      have ew : IntKind.i64.wrap x3 = x3 := IntWalk.i64_in _ (by omega)
      have ek : IntKind.i64.wrap (k : Int) = (k : Int) := IntWalk.i64_in _ (by omega)
      have ef : IntKind.i64.wrap ((M : Int) + 1) = (M : Int) + 1 := IntWalk.i64_in _ (by omega)
      have zf : ¬ (M : Int) + 1 = 0 := by omega
      rw [htn] at hrun
      clear hk htn
      have hp0a := fun o => below_keeps (box_below w5 o) _ _ p0
      have hp1a := fun o => below_keeps (box_below w5 o) _ _ p1
      go_wp2_with fail
      go_region
      go_wp2_with fail
      have hb5 : Below w5.heap.size w5 (w5.alloc (fbox n a k c)).drew := (box_below w5 _).drew
      have r0 : (w5.alloc (fbox n a k c)).drew.cell? ⟨w5.heap.size, 0, none⟩ = some (.int .i64 n) := fit_cell (w := (w5.alloc (fbox n a k c)).drew) (vs := [.int .i64 n, .slice a k c]) (heap_alloc_new w5 (fbox n a k c)) 0
      have r1 : (w5.alloc (fbox n a k c)).drew.cell? ⟨w5.heap.size, 1, none⟩ = some (.slice a k c) := fit_cell (w := (w5.alloc (fbox n a k c)).drew) (vs := [.int .i64 n, .slice a k c]) (heap_alloc_new w5 (fbox n a k c)) 1
      have hfb : (w5.alloc (.cells #[.int .i64 n, .slice a k c] 34)).drew = (w5.alloc (fbox n a k c)).drew := rfl
      rw [hfb]
      clear hfb hp0a hp1a hrun ew ek ef zf hrem
      generalize (w5.alloc (fbox n a k c)).drew = w8 at hb5 r0 r1 ⊢
      have HB8 := hid (HB5.out.trans (hb5.mono HB5.out.size))
      have HR8 := hid (HR5.out.below hb5)
      have HRP8 := hid (HRP5.out.below hb5)
      have q0 := below_keeps hb5 _ _ p0
      have q1 := below_keeps hb5 _ _ p1
      clear hb5 p0 p1
      generalize w5.heap.size = b12 at r0 r1 ⊢
      have HCE := hid (And.intro (And.intro q0 q1) (And.intro r0 r1))
      clear q0 q1 r0 r1
      have HTD : Hid ((F.take k).length = k) := hid (by rw [List.length_take, HM.out]; omega)
      have HFK2 : Hid (cnfCheck n (F.take k) = 0) := hid (check_takeG HCHK.out k)
      go_loopw [13, 14] (fun s13 s14 wr => ∃ (i : Nat) (v13 : Value), s14 = .int .i64 i ∧ v13 = s13 ∧ i ≤ N ∧ Hid (OwnRs w8 wr v13 (impL F (P.take i)))) (fun _ s14 _ => (N - (intOf s14)).toNat)
      case atStart => exact ⟨0, _, rfl, rfl, by omega, hid (OwnRs.nil w8 w8 (Below.refl _ _))⟩
      case round =>
        obtain ⟨i, v13, rfl, rfl, hiN, HO⟩ := hrel
        have q0 := below_keeps HO.out.bel _ _ HCE.out.1.1
        have q1 := below_keeps HO.out.bel _ _ HCE.out.1.2
        have r0 := below_keeps HO.out.bel _ _ HCE.out.2.1
        have r1 := below_keeps HO.out.bel _ _ HCE.out.2.2
        by_cases hlt : i < N
        · have hlt2 : (i : Int) < N := by omega
          obtain ⟨bf, off, d, ad, cd, hap, hcell, hcs, hck, hc64, hcl, hcc, hc0⟩ := HRP8.out.row HPO.out.fok (k := i) (by rw [HNN.out]; exact hlt)
          subst hap
          have hcell2 := below_keeps HO.out.bel _ _ hcell
          have hdP := List.mem_of_getElem? hck
          have hdl := HPO.out.cl d hdP
          have hwi : IntKind.i64.wrap ((i : Int) + 1) = (i : Int) + 1 := IntWalk.i64_in _ (by omega)
          have himp1 := impV_ok HFK2.out (HPO.out.lits (by omega) hdP)
          have himp2 := impV_ok HCHK.out (HPO.out.lits (by omega) hdP)
          obtain ⟨ba, hba⟩ : ∃ b, upF (F.take k) (negs d) = b := ⟨_, rfl⟩
          obtain ⟨bb, hbb⟩ : ∃ b, upF F (negs d) = b := ⟨_, rfl⟩
          have HAB : Hid (ba = true → bb = true) := hid fun h => hbb ▸ up_more (fun c hc => List.mem_of_mem_take hc) (hba.trans h)
          rw [hba] at himp1
          rw [hbb] at himp2
          have HBB := hid hbb
          have HCALL1 : Hid (∀ wz, Below w8.heap.size w8 wz → Calls Try.prog 43 #[.agg #[.int .i64 n, .slice a k c], .slice ad d.length cd] wz fun e w' => e = .returned (.tuple #[.bool ba, .int .i64 0]) ∧ Below wz.heap.size wz w') := hid fun wz hz => rup_ImpliedN n a (F.take k) k c ad d d.length cd ba 0 wz himp1 HTD.out.symm rfl (fok_take HFO.out k) (rws_takeG (HR8.out.below hz) k) hc64 (hcs.below hz) (by rw [HTD.out]; omega) (by omega)
          have HCALL2 : Hid (∀ wz, Below w8.heap.size w8 wz → Calls Try.prog 43 #[.agg #[.int .i64 n, .slice a M c], .slice ad d.length cd] wz fun e w' => e = .returned (.tuple #[.bool bb, .int .i64 0]) ∧ Below wz.heap.size wz w') := hid fun wz hz => rup_ImpliedN n a F M c ad d d.length cd bb 0 wz himp2 HM.out.symm rfl HFO.out (HR8.out.below hz) hc64 (hcs.below hz) (by rw [HM.out]; omega) (by omega)
          have HROWD : Hid (SlI w8 (.slice ad d.length cd) d) := hid ⟨ad, cd, rfl, hcc, hc0, hcs⟩
          have HCK := hid hck
          obtain ⟨dl, hdle⟩ : ∃ m, d.length = m := ⟨_, rfl⟩
          rw [hdle] at hcell2 hdl HCALL1 HCALL2 HROWD
          clear hcell hcs hck hc64 hcl hcc hc0 himp1 himp2 hba hbb hdP hdle
          go_wp2_with fail
          go_cut [15, 16] (fun s15 s16 wz => s15 = .bool ba ∧ s16 = .int .i64 0 ∧ Hid (Below wr.heap.size wr wz))
          case first =>
            go_region_held3 (fun y => y.cell? ⟨b12, 0, none⟩ = some (.int .i64 n) ∧ y.cell? ⟨b12, 1, none⟩ = some (.slice a k c) ∧ y.cell? ⟨bf, off + i, none⟩ = some (.slice ad dl cd)) (first | exact ⟨‹_›, ‹_›, ‹_›⟩ | go_keep)
              ((go_at_call 43; refine (HCALL1.out _ (by first | exact HO.out.bel | exact HO.out.bel.drew)).mono ?_; rintro e wz ⟨rfl, hbz⟩; have HBZ := hid hbz; have z0 := below_keeps hbz _ _ r0; have z1 := below_keeps hbz _ _ r1; have z2 := below_keeps hbz _ _ hcell2; clear hbz))
            all_goals
              go_wp2_with fail
              go_meet
              case rel => exact ⟨rfl, rfl, hid (by first | exact HBZ.out | exact HBZ.out.drew | exact ((Below.refl wr.heap.size wr).drew.trans HBZ.out) | exact ((Below.refl wr.heap.size wr).drew.trans HBZ.out).drew)⟩
          case rest =>
            obtain ⟨rfl, rfl, HBC⟩ := hcut
            have HOC := hid (HO.out.grow HBC.out)
            have s0 := below_keeps HBC.out _ _ q0
            have s1 := below_keeps HBC.out _ _ q1
            have s2 := below_keeps HBC.out _ _ hcell2
            clear q0 q1 r0 r1 hcell2 HBC HCALL1
            go_wp2_with fail
            go_cut [17, 18] (fun s17 s18 wz => s17 = .bool bb ∧ s18 = .int .i64 0 ∧ Hid (Below wc.heap.size wc wz))
            case first =>
              go_region_held3 (fun y => y.cell? ⟨b7, 0, none⟩ = some (.int .i64 n) ∧ y.cell? ⟨b7, 1, none⟩ = some (.slice a M c) ∧ y.cell? ⟨bf, off + i, none⟩ = some (.slice ad dl cd)) (first | exact ⟨‹_›, ‹_›, ‹_›⟩ | go_keep)
                ((go_at_call 43; refine (HCALL2.out _ (by first | exact HOC.out.bel | exact HOC.out.bel.drew)).mono ?_; rintro e wz ⟨rfl, hbz⟩; have HBZ := hid hbz; have z0 := below_keeps hbz _ _ s0; have z1 := below_keeps hbz _ _ s1; have z2 := below_keeps hbz _ _ s2; clear hbz))
              all_goals
                go_wp2_with fail
                go_meet
                case rel => exact ⟨rfl, rfl, hid (by first | exact HBZ.out | exact HBZ.out.drew | exact ((Below.refl wc.heap.size wc).drew.trans HBZ.out) | exact ((Below.refl wc.heap.size wc).drew.trans HBZ.out).drew)⟩
            case rest =>
              obtain ⟨rfl, rfl, HBD⟩ := hcut
              have HOD := hid (HOC.out.grow HBD.out)
              have hcell4 := below_keeps HBD.out _ _ s2
              clear s0 s1 s2 HBD HCALL2
              cases bb with
              | false =>
                have hba : ba = false := by
                  cases hq : ba with
                  | false => rfl
                  | true => have := HAB.out hq; cases this
                subst hba
                clear hcell4
                go_wp2_with fail
                go_roundw
                case rel => exact ⟨i + 1, _, by simp, rfl, by omega, hid (by rw [impL_step HCK.out, HBB.out]; simpa using HOD.out)⟩
                case measure => simp [intOf]; omega
              | true =>
                obtain ⟨us, hrow, hvs⟩ := HOD.out.row
                obtain ⟨L, hL⟩ : ∃ L, impL F (P.take i) = L := ⟨_, rfl⟩
                rw [hL] at hrow hvs
                have hLl : L.length ≤ 30 := by rw [← hL]; have := impL_len F (P.take i); rw [List.length_take, HNN.out] at this; omega
                obtain ⟨a3, c3, hv3⟩ := own_lenV' hrow
                obtain ⟨LL, hLL⟩ : ∃ m, L.length = m := ⟨_, rfl⟩
                rw [hLL] at hrow hv3 hLl
                subst hv3
                have hszc : w8.heap.size ≤ wc.heap.size := HOD.out.bel.size
                obtain ⟨a6, c6, w6, hr6, ho6, hg6, ha6⟩ := appM_one (P := Try.prog) (wc.alloc (.cells #[.slice ad dl cd] 22)) w8.heap.size 32 32 22 i1 (.slice none 0 0) 24 Try.underlying32 hi1 hy0 hy1 hy2 rfl (.slice a3 LL c3) LL us (hrow.alloc _) wc.heap.size (.slice ad dl cd) (heap_alloc_new _ _) rfl (by unfold maxLen; omega) (by omega) (by simp only [size_al]; omega)
                have HO2 : Hid (OwnRs w8 w6 (.slice a6 (LL + 1) c6) (impL F (P.take (i + 1)))) := hid (by
                  rw [impL_step HCK.out, HBB.out, hL]
                  have hod := HOD.out
                  rw [hL] at hod
                  exact hod.push (box_below _ _) HROWD.out (by rw [hLL]; exact hrow) hvs (by rw [hLL]; exact ho6) hg6)
                clear hrow hvs hL hLL ho6 hg6 ha6
                cases ba with
                | false =>
                  go_wp2_with fail
                  go_roundw
                  case rel => exact ⟨i + 1, _, by simp, rfl, by omega, HO2⟩
                  case measure => simp [intOf]; omega
                | true =>
                  go_wp2_with fail
                  go_roundw
                  case rel => exact ⟨i + 1, _, by simp, rfl, by omega, HO2⟩
                  case measure => simp [intOf]; omega
        · have hie : i = N := by omega
          subst hie
          have hlt2 : ¬ (i : Int) < i := by omega
          have HW := hid (HB8.out.trans (HO.out.bel.mono HB8.out.size))
          obtain ⟨us, hrow, hvs⟩ := HO.out.row
          have HBW := hid HO.out.bel
          rw [List.take_of_length_le (by rw [HNN.out]; exact Nat.le_refl _)] at hrow hvs
          obtain ⟨L, hL⟩ : ∃ L, impL F P = L := ⟨_, rfl⟩
          have HLI : Hid (∀ c ∈ L, upF F (negs c) = true) := hid (hL ▸ impL_imp)
          have HLS : Hid (∀ c ∈ L, c ∈ P) := hid (hL ▸ impL_sub)
          rw [hL] at hrow hvs
          have hLl : L.length ≤ 30 := by rw [← hL]; have := impL_len F P; rw [HNN.out] at this; omega
          have hul : us.length = L.length := by have := hrow.1; simpa using this
          obtain ⟨a3, c3, hv3⟩ := own_lenV' hrow
          obtain ⟨LL, hLL⟩ : ∃ m, L.length = m := ⟨_, rfl⟩
          rw [hLL] at hrow hv3 hLl hul
          subst hv3
          have HLL := hid hLL
          obtain ⟨vs, hvl, hvS, hvV⟩ := rws_vals HRP8.out
          have HVS := hid (vals_app (by rw [hul, hLL]) hvs hvV)
          have HONE := hid (vals_oneC hvl hvV)
          have HROW := hid hrow
          have HSLV := hid hvS
          have HVL : Hid (i = vs.length) := hid (by rw [hvl, HNN.out])
          obtain ⟨x, hx⟩ : ∃ x, rupI (F.take k) P = x := ⟨_, rfl⟩
          obtain ⟨y, hy⟩ : ∃ y, rupI F P = y := ⟨_, rfl⟩
          obtain ⟨z, hz⟩ : ∃ z, rupI F (L ++ P) = z := ⟨_, rfl⟩
          have HXY : Hid (x = -1 → y = -1) := hid fun q => hy ▸ rupI_more (fun c hc => List.mem_of_mem_take hc) (hx.trans q)
          have HYZ : Hid (y = -1 → z = -1) := hid fun q => hz ▸ rupI_ahead HLI.out (hy.trans q)
          have hLP : (∀ d ∈ L ++ P, litCheck n d = 0) ∧ FOk (L ++ P) := ⟨fun d hd => ((prOk_app HLS.out HPO.out).1 d hd).resolve_right (by omega), (prOk_app HLS.out HPO.out).2⟩
          have HCX := hid (fun wz (q : Below w8.heap.size w8 wz) => rup_CheckN n a (F.take k) k c aP P i cP x 0 wz (by rw [rupV_fine HFK2.out HPO.out (by omega), hx]) HTD.out.symm HNN.out.symm (fok_take HFO.out k) (rws_takeG (HR8.out.below q) k) HPO.out.fok (HRP8.out.below q) (by rw [HTD.out]; omega) (by rw [HNN.out]; omega))
          have HCY := hid (fun wz (q : Below w8.heap.size w8 wz) => rup_CheckN n a F M c aP P i cP y 0 wz (by rw [rupV_fine HCHK.out HPO.out (by omega), hy]) HM.out.symm HNN.out.symm HFO.out (HR8.out.below q) HPO.out.fok (HRP8.out.below q) (by rw [HM.out]; omega) (by rw [HNN.out]; omega))
          have HCZ := hid (fun wz a6 c6 (q : Below w8.heap.size w8 wz) (hr : Rws wz a6 (L ++ P)) => rup_CheckN n a F M c a6 (L ++ P) (LL + i) c6 z 0 wz (by rw [← hz]; unfold rupV; rw [if_pos (rupErr_ok HCHK.out hLP.1)]; rfl) HM.out.symm (by rw [List.length_append, HLL.out, HNN.out]) HFO.out (HR8.out.below q) hLP.2 hr (by rw [HM.out]; omega) (by rw [List.length_append, HLL.out, HNN.out]; omega))
          clear hx hy hz hLP hvl hvV hvS hrow hvs hul hLL hL HO hlt hiN
          go_wp2_with fail
          refine (HCX.out _ HBW.out).mono ?_
          rintro e wx ⟨rfl, hbx⟩
          have HBX := hid (HBW.out.trans (hbx.mono HBW.out.size))
          have HROW2 := hid (own_below HROW.out hbx)
          clear hbx q0 q1 r0 r1
          have q0 := below_keeps HBX.out _ _ HCE.out.1.1
          have q1 := below_keeps HBX.out _ _ HCE.out.1.2
          go_wp2_with fail
          refine (HCY.out _ HBX.out).mono ?_
          rintro e wy ⟨rfl, hby⟩
          have HBY := hid (HBX.out.trans (hby.mono HBX.out.size))
          have HROW3 := hid (own_below HROW2.out hby)
          clear hby q0 q1
          have q0 := below_keeps HBY.out _ _ HCE.out.1.1
          have q1 := below_keeps HBY.out _ _ HCE.out.1.2
          go_wp2_with fail
          have hwys : w8.heap.size ≤ wy.heap.size := HBY.out.size
          go_region_held3 (fun y => y.cell? ⟨b7, 0, none⟩ = some (.int .i64 n) ∧ y.cell? ⟨b7, 1, none⟩ = some (.slice a M c)) (first | exact ⟨‹_›, ‹_›⟩ | go_keep)
            (first
              | (refine step_append_sl rfl _ _ 32 rfl w8.heap.size 22 i1 (.slice none 0 0) 24 Try.underlying32 hi1 hy0 hy1 hy2 rfl (.slice a3 LL c3) LL us (by rfl) (by exact HROW3.out) aP i cP vs (by rfl) (by first | exact HSLV.out.below HBY.out | exact HSLV.out.below HBY.out.drew) HVL.out HPC.out.2 HONE.out (by unfold maxLen; omega) (by omega) (by exact hwys) ?_; intro v8 w9 ho9 hg9; obtain ⟨a8, c8, rfl⟩ := own_lenV' ho9; have hb9 : Below w8.heap.size w8 w9 := (by first | exact HBY.out.grown hg9 HBY.out.size (fun q hq => (HROW3.out.lt q hq).1) | exact HBY.out.drew.grown hg9 HBY.out.size (fun q hq => (HROW3.out.lt q hq).1)); have HB9 := hid hb9; have HR9 : Hid (Rws w9 a8 (L ++ P)) := hid (by obtain ⟨a', c', e, -, -, hr⟩ := (OwnRs.mk hb9 ⟨us ++ vs, by rw [List.length_append, HLL.out, HNN.out]; exact ho9, HVS.out⟩ : OwnRs w8 w9 (.slice a8 (LL + i) c8) (L ++ P)).shape; injection e with e1 e2 e3; subst e1; exact hr); have y0 := below_keeps hb9 _ _ HCE.out.1.1; have y1 := below_keeps hb9 _ _ HCE.out.1.2; clear ho9 hg9 hb9)
              | (go_at_call 42; refine (HCZ.out _ _ _ (by first | exact HB9.out | exact HB9.out.drew) (by exact HR9.out)).mono ?_; rintro e w10 ⟨rfl, hb10⟩; have hb10 : Below w8.heap.size w8 w10 := (by first | exact HB9.out.trans (hb10.mono HB9.out.size) | exact HB9.out.drew.trans (hb10.mono HB9.out.size)); have HB10 := hid hb10; have z0 := below_keeps hb10 _ _ HCE.out.1.1; have z1 := below_keeps hb10 _ _ HCE.out.1.2; clear hb10))
          all_goals
            have HWE := hid (HB8.out.trans (HB10.out.mono HB8.out.size))
            by_cases ey : y = -1
            · have ez := HYZ.out ey
              have d2 : (y == -1) = true := by simp [ey]
              have d3 : (y != -1) = false := by simp [ey]
              have d4 : (z == -1) = true := by simp [ez]
              clear ey ez
              by_cases ex : x = -1
              · have d1 : (x != -1) = false := by simp [ex]
                clear ex
                go_wp2_with (go_at_call 39; refine (law05_known _).mono ?_; rintro e w' ⟨rfl, hb⟩)
                exact HQ.out _ (HWE.out.trans (hb.mono HWE.out.size))
              · have d1 : (x != -1) = true := by simp [ex]
                clear ex
                go_wp2_with (go_at_call 39; refine (law05_known _).mono ?_; rintro e w' ⟨rfl, hb⟩)
                exact HQ.out _ (HWE.out.trans (hb.mono HWE.out.size))
            · have ex : x ≠ -1 := fun q => ey (HXY.out q)
              have d1 : (x != -1) = true := by simp [ex]
              have d3 : (y != -1) = true := by simp [ey]
              clear ex ey
              go_wp2_with (go_at_call 39; refine (law05_known _).mono ?_; rintro e w' ⟨rfl, hb⟩)
              exact HQ.out _ (HWE.out.trans (hb.mono HWE.out.size))

end Go.Proofs.Ytfmahgobogelkaa.Ord
