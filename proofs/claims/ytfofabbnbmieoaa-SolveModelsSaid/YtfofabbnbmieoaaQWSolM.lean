/- The walk of SolveModels. -/
import Derived.Test.YtfofabbnbmieoaaQ19
import Derived.Test.YtfofabbnbmieoaaQSPig
import Derived.Test.YtfofabbnbmieoaaQSHold
import Derived.Test.YtfofabbnbmieoaaQPSolM

namespace Go.Proofs.Ytfofabbnbmieoaa.Ord
open Go.RowKit

attribute [local go_sem ↓] Go.wp_at_zero Go.wp_at_succ
attribute [local go_sem ↓ high] app_mark

theorem chkM_of {n : Nat} {F : List (List Int)} (hn : n ≤ 1048576) (hF : ClsOk n F) (hl : ∀ c ∈ F, c.length ≤ 4096) (hFl : F.length ≤ 1048576) : cnfCheck n F = 0 := by
  have hlit : ∀ c ∈ F, litCheck n c = 0 := fun c hc => by
    unfold litCheck
    rw [if_neg (by omega), if_neg (by have := hl c hc; omega), if_neg]
    intro ha
    obtain ⟨x, hx, hb⟩ := List.any_eq_true.1 ha
    have h2 := hF c hc x hx
    unfold LitOk at h2
    unfold badLit at hb
    simp only [Bool.or_eq_true, beq_iff_eq, decide_eq_true_eq] at hb
    omega
  unfold cnfCheck
  rw [if_neg (by omega), if_neg (by omega)]
  have : F.find? (fun c => litCheck n c != 0) = none := List.find?_eq_none.2 fun c hc => by simp [hlit c hc]
  rw [this]

/-- The state between the rounds. -/
structure MO (n : Nat) (F : List (List Int)) (w6 wl : World) (B b : Nat) (ms : List (List Bool)) : Prop where
  mi : MI n F ms
  fb : FB wl B b n (F ++ nots n ms)
  bel : Below B w6 wl

theorem nots_ok {n : Nat} {F : List (List Int)} {ms : List (List Bool)} (hF : ClsOk n F) : ClsOk n (F ++ nots n ms) := fun c hc => by
  rcases List.mem_append.1 hc with q | q
  · exact hF c q
  · obtain ⟨m, -, rfl⟩ := List.mem_map.1 q
    exact notM_ok

theorem notM_len (n : Nat) (m : List Bool) : (notM n m).length = n := by simp [notM]
theorem fixM_len (n : Nat) (m : List Bool) : (fixM n m).length = n := by simp [fixM]

theorem notM_take {n i : Nat} {m : List Bool} (h : i < n) : (notM n m).take (i + 1) = (notM n m).take i ++ [-toM m i] := by
  rw [List.take_add_one]
  unfold notM
  rw [List.getElem?_map, List.getElem?_range h]
  rfl

theorem fixM_take {n i : Nat} {m : List Bool} (h : i < n) : (fixM n m).take (i + 1) = (fixM n m).take i ++ [[toM m i]] := by
  rw [List.take_add_one]
  unfold fixM
  rw [List.getElem?_map, List.getElem?_range h]
  rfl

theorem okM {n : Nat} {G : List (List Int)} (hn : n ≤ 5) (h : ClsOk n G) (hl : ∀ c ∈ G, c.length ≤ 20) (hG : G.length ≤ 70) : FOk G ∧ cnfCheck n G = 0 :=
  ⟨fun c hc => ⟨fun x hx => by
    have h1 := h c hc x hx
    unfold LitOk at h1
    unfold I64
    omega, by have := hl c hc; omega⟩, chkM_of (by omega) h (fun c hc => Nat.le_trans (hl c hc) (by omega)) (by omega)⟩

theorem MI.small {n : Nat} {F : List (List Int)} {ms : List (List Bool)} (h : MI n F ms) (hn : n ≤ 5) : ms.length ≤ 32 := by
  have h1 := h.len
  have h2 := Nat.pow_le_pow_right (n := 2) (by decide) hn
  omega

theorem okN {n : Nat} {F : List (List Int)} {ms : List (List Bool)} (hn : n ≤ 5) (hF : ClsOk n F) (hcl : ∀ c ∈ F, c.length ≤ 20) (hFl : F.length ≤ 30) (h : MI n F ms) : FOk (F ++ nots n ms) ∧ cnfCheck n (F ++ nots n ms) = 0 :=
  okM hn (nots_ok hF) (fun c hc => by
    rcases List.mem_append.1 hc with q | q
    · exact hcl c q
    · obtain ⟨m, -, rfl⟩ := List.mem_map.1 q
      rw [notM_len]; omega) (by
    have := h.small hn
    simp only [List.length_append, nots, List.length_map]
    omega)

theorem cntM_le (n : Nat) (F : List (List Int)) (k : Nat) : cntM n F k ≤ k := by
  have h : cntM n F k ≤ (List.range k).length := List.length_filter_le _ _
  rwa [List.length_range] at h

theorem SolOk.m1M {n : Nat} {F : List (List Int)} {M : List Bool} {P : List (List Int)} (h : SolOk n F 1 M P) : M.length = n ∧ ∀ c ∈ F, holdsB M c = true := by
  generalize ha : (1 : Int) = a at h
  cases h with
  | sat h1 h2 => exact ⟨h1, firstIdx_all h2⟩
  | unsat _ _ _ _ => cases ha
  | unk => cases ha

set_option maxRecDepth 100000 in
set_option maxHeartbeats 8000000 in
theorem walk_SolveModels (x0 : Int) (v1 : Value) (x1 : List (List Int)) (w : World) (w0 : (Lit.int .u8 x0).wf = true) (w1 : ArgR .i8 w v1 x1) :
    Calls Try.prog 12 #[.int .u8 x0, v1] w fun e w' => e = .returned (.bool true) ∧ Below w.heap.size w w' := by
  have hb0 := bounds_u8 w0
  obtain ⟨y, hy⟩ : ∃ B, x0.tmod 5 = B := ⟨_, rfl⟩
  have hy0 : 0 ≤ y ∧ y ≤ 4 := by
    rw [← hy, Int.tmod_eq_emod_of_nonneg hb0.1]
    omega
  have hyw : IntKind.u8.wrap y = y := by
    unfold IntKind.wrap
    simp [IntKind.signed, IntKind.bits]
    omega
  have HY := hid (show 0 ≤ y ∧ y ≤ 255 by omega)
  have HA := hid w1
  clear w0 w1
  cases hfit : fitB x1 with
  | false =>
    have HFI := hid hfit
    clear hfit hy0
    go_enter Try.func12, Try.ntmps12
    go_wp2_with fail
    refine (law02_FitF y v1 x1 w HFI.out HY.out.1 HY.out.2 HA.out).mono ?_
    rintro e w3 ⟨rfl, hb3⟩
    have HB3 := hid hb3
    clear hb3
    go_wp2_with (go_at_call 30; refine (law07_known _).mono ?_; rintro e w' ⟨rfl, hb⟩)
    go_ret
    exact ⟨rfl, (below_al HB3.out HB3.out.size _).trans (hb.mono (by have := HB3.out.size; simp only [size_al]; omega))⟩
  | true =>
    obtain ⟨n, hn⟩ : ∃ n : Nat, fitV y = (n : Int) := ⟨(fitV y).toNat, by have := fitV_range y; omega⟩
    have hn1 : 1 ≤ n ∧ n ≤ 5 := by unfold fitV at hn; omega
    obtain ⟨F, hF⟩ : ∃ F, fitF y x1 = F := ⟨_, rfl⟩
    have hchk : cnfCheck n F = 0 := by rw [← hF, ← hn]; exact cnfCheck_fit hfit
    have hFl30 : F.length ≤ 30 := by rw [← hF, fitF_length]; exact (fitB_bounds hfit).1
    have hcl20 : ∀ c ∈ F, c.length ≤ 20 := fun c hc => by rw [← hF] at hc; exact (mem_fitF hfit hc).1
    have HFO := hid (And.intro (show FOk F from hF ▸ fok_fit hfit) (And.intro hchk (And.intro hn1 (And.intro hFl30 hcl20))))
    obtain ⟨FL, hFL⟩ : ∃ t, F.length = t := ⟨_, rfl⟩
    have HN := hid (And.intro hn (And.intro hF (And.intro hFL (show ClsOk n F from (cnf_valid hchk).2.2.2.2))))
    have HFI := hid hfit
    clear hfit hF hn hchk hn1 hFl30 hcl20 hy0
    go_enter Try.func12, Try.ntmps12
    go_wp2_with fail
    refine (law02_FitS y v1 x1 w HFI.out HY.out.1 HY.out.2 HA.out).mono ?_
    rw [HN.out.1, HN.out.2.1, hFL]
    rintro e w3 ⟨a, c, rfl, hr3, hb3⟩
    obtain ⟨w4, hw4⟩ : ∃ t, w3.alloc (.cells #[.int .i64 n, .slice a FL c] 34 (0, 0)) = t := ⟨_, rfl⟩
    obtain ⟨hb4, hs4, z4⟩ := box1 w3 _ hw4
    have d4 := fun i => cell_of_row w4 w3.heap.size i _ _ _ z4
    have H4 := hid (And.intro (hb3.trans (hb4.mono hb3.size)) (And.intro hs4 (And.intro z4 (hr3.below hb4))))
    have HCP := hid (show ∀ wx, Below w4.heap.size w4 wx → Calls Try.prog 28 #[.agg #[.int .i64 n, .slice a FL c]] wx fun e w' => ∃ a' c', e = .returned (.agg #[.int .i64 n, .slice a' FL c']) ∧ OwnRw w' wx.heap.size (.slice a' FL c') F ∧ Below wx.heap.size wx w' from fun wx h => by
      refine (kit_CopyFormula n a F FL c wx hFL.symm HFO.out.1 ((hr3.below hb4).rws.below h) (by have := HFO.out.2.2.2.1; omega) (fun d hd => by have := HFO.out.2.2.2.2 d hd; omega)).mono ?_
      rintro e w' ⟨a', c', rfl, -, ho, -, hb⟩
      rw [hFL] at ho ⊢
      exact ⟨a', c', rfl, ho, hb⟩)
    clear hb3 hr3 hb4 hs4 z4 hFL
    go_wp2_with fail
    refine (HCP.out w4 (Below.refl _ _)).mono ?_
    rintro e w5 ⟨a5, c5, rfl, ho5, hb5⟩
    obtain ⟨w6, hw6⟩ : ∃ t, w5.alloc (.cells #[.int .i64 n, .slice a5 FL c5] 34 (0, 0)) = t := ⟨_, rfl⟩
    obtain ⟨hb6, hs6, z6⟩ := box1 w5 _ hw6
    obtain ⟨B, hB⟩ : ∃ t, w4.heap.size = t := ⟨_, rfl⟩
    have hb46 := hb5.trans (hb6.mono hb5.size)
    have hfb : FB w6 w4.heap.size w5.heap.size n (F ++ nots n []) := by
      rw [show nots n [] = [] from rfl, List.append_nil]
      obtain ⟨vs, g1, g2⟩ := ho5
      refine ⟨_, vs, z6, hb5.size, own_below g1 hb6, fun j d hj => ?_⟩
      obtain ⟨u, e1, e2⟩ := g2 j d hj
      exact ⟨u, e1, ((ownT_of_own e2).base (Nat.zero_le _)).below hb6⟩
    rw [hB] at hb46 hfb
    have HM6 : Hid (MO n F w4 w6 B w5.heap.size []) := hid ⟨⟨List.nodup_nil, nofun⟩, hfb, hb46⟩
    have HB := hid hB
    clear hb5 hb6 hs6 z6 hb46 hfb ho5 hB d4
    go_wp2_with fail
    have HX0 := hid (show w5.heap.size ≤ w5.heap.size from Nat.le_refl _)
    go_loopw [7] (fun s7 wl => ∃ (ms : List (List Bool)) (L : Nat), s7 = .int .i64 L ∧ L ≤ 32 ∧ Hid (MO n F w4 wl B w5.heap.size ms ∧ ms.length = L)) (fun s7 _ => (33 - intOf s7).toNat)
    case atStart => exact ⟨[], 0, rfl, Nat.zero_le _, hid ⟨HM6.out, rfl⟩⟩
    case round =>
      clear HM6
      obtain ⟨ms, L, rfl, hL32, HS⟩ := hrel
      have hL0 : ¬ (32 : Int) < L := by omega
      have hL0n : ¬ 32 < L := by omega
      have hwL : IntKind.i64.wrap ((L : Int) + 1) = (L : Int) + 1 := IntWalk.i64_in _ (by omega)
      obtain ⟨ag, cg, zg, hrg⟩ := HS.out.1.fb.rows
      have hok := okN HFO.out.2.2.1.2 HN.out.2.2.2 HFO.out.2.2.2.2 HFO.out.2.2.2.1 HS.out.1.mi
      obtain ⟨G, hG⟩ : ∃ t, F ++ nots n ms = t := ⟨_, rfl⟩
      rw [hG] at zg hrg hok
      obtain ⟨gl, hgl⟩ : ∃ t, G.length = t := ⟨_, rfl⟩
      rw [hgl] at zg
      have dg := fun i => cell_of_row wr w5.heap.size i _ _ _ zg
      obtain ⟨A, hA⟩ : ∃ A : Int, ansV n G = A := ⟨_, rfl⟩
      have hA12 : A = 1 ∨ A = 2 := by
        rw [← hA]
        unfold ansV
        split
        · exact Or.inl rfl
        · exact Or.inr rfl
      have hn25 : n ≤ 25 := by have := HFO.out.2.2.1; omega
      have HSV := hid (solve_Solve0 n ag G gl cg A wr hA hgl.symm hok.1 hrg hok.2 hn25)
      have HG := hid (And.intro hG (And.intro hgl (And.intro hA (And.intro hrg (And.intro hok (And.intro zg hn25))))))
      clear hG hgl hA hrg hok zg hn25
      go_wp2_with fail
      refine HSV.out.mono ?_
      rintro e wS ⟨M, P, am, ap, ml, pl, cm, cp, rfl, hml, hpl, hsok, hM, hP, hbS⟩
      obtain ⟨w7, hw7⟩ : ∃ t, wS.alloc (.cells #[.int .u8 A, .slice am ml cm, .slice ap pl cp] 51 (0, 0)) = t := ⟨_, rfl⟩
      obtain ⟨hb7, hs7, z7⟩ := box1 wS _ hw7
      have hbr7 := hbS.trans (hb7.mono hbS.size)
      have zg7 := (hbr7.block w5.heap.size (Array.getElem?_eq_some_iff.1 HG.out.2.2.2.2.2.1).1).trans HG.out.2.2.2.2.2.1
      have dg7 := fun i => cell_of_row w7 w5.heap.size i _ _ _ zg7
      have dx7 := fun i => cell_of_row w7 wS.heap.size i _ _ _ z7
      have HRT := hid (law07_right n ag G gl cg A M P am ap ml pl cm cp w7 HG.out.2.1.symm hml hpl HG.out.2.2.2.2.1.1 (HG.out.2.2.2.1.below hbr7) HG.out.2.2.2.2.1.2 HG.out.2.2.2.2.2.2 hsok (hM.below hb7) (hP.below hb7))
      have H7 := hid (And.intro hbr7 (And.intro z7 (And.intro hml (And.intro hsok (hM.below hb7)))))
      clear hbS hb7 hs7 z7 hbr7 zg7 hml hpl hsok hM hP HSV dg
      rcases hA12 with rfl | rfl
      · go_wp2_with fail
        refine HRT.out.mono ?_
        rintro e w8 ⟨rfl, hb8⟩
        obtain ⟨hmn, hmh⟩ := H7.out.2.2.2.1.m1M
        have hmln : ml = n := H7.out.2.2.1.trans hmn
        subst hmln
        have hw78 := hb8
        have HBL := hid (show B ≤ wr.heap.size by rw [← HB.out]; exact HS.out.1.bel.size)
        have hb48 : Below B w4 w8 := HS.out.1.bel.trans ((H7.out.1.trans (hb8.mono H7.out.1.size)).mono HBL.out)
        have H8 := hid (And.intro hb8 (And.intro hb48 (And.intro hmn hmh)))
        have HZF := hid (show ∀ wx, Below B w4 wx → wx.heap[w3.heap.size]? = some (.cells #[.int .i64 ml, .slice a FL c] 34 (0, 0)) from fun wx h => (h.block w3.heap.size (by rw [← HB.out]; have := H4.out.2.1; omega)).trans H4.out.2.2.1)
        have df8 := fun i => cell_of_row w8 w3.heap.size i _ _ _ (HZF.out w8 hb48)
        have zx8 := (hb8.block wS.heap.size (Array.getElem?_eq_some_iff.1 H7.out.2.1).1).trans H7.out.2.1
        have dx8 := fun i => cell_of_row w8 wS.heap.size i _ _ _ zx8
        have HZX := hid zx8
        have hCP8 := hid (HCP.out w8 (by rw [HB.out]; exact hb48))
        clear hb8 hw78 hb48 hmn hmh dx7 dg7 zx8
        go_wp2_with fail
        refine hCP8.out.mono ?_
        rintro e w9 ⟨a9, c9, rfl, ho9, hb9⟩
        obtain ⟨w10, hw10⟩ : ∃ t, w9.alloc (.cells #[.int .i64 ml, .slice a9 FL c9] 34 (0, 0)) = t := ⟨_, rfl⟩
        obtain ⟨hb10, hs10, z10⟩ := box1 w9 _ hw10
        have hb810 := hb9.trans (hb10.mono hb9.size)
        have hfb : FB w10 w8.heap.size w9.heap.size ml F := by
          obtain ⟨vs, g1, g2⟩ := ho9
          refine ⟨_, vs, z10, hb9.size, own_below g1 hb10, fun j d hj => ?_⟩
          obtain ⟨u, e1, e2⟩ := g2 j d hj
          exact ⟨u, e1, ((ownT_of_own e2).base (Nat.zero_le _)).below hb10⟩
        have HP0 := hid (hfb.pst hb810 (by have := hb810.size; omega))
        clear hb9 hb10 hs10 z10 hb810 hfb ho9 hCP8 df8 dx8
        go_wp2_with fail
        go_loopw [12, 13] (fun s12 s13 wm => ∃ (i V : Nat), s13 = .int .i64 V ∧ i ≤ ml ∧ Hid (PSt w8 w8.heap.size w9.heap.size ml wm (F ++ (fixM ml M).take i) s12 ((notM ml M).take i) ∧ V = i + 1)) (fun _ s13 _ => (ml + 1 - intOf s13).toNat)
        case atStart => exact ⟨0, 1, rfl, Nat.zero_le _, hid ⟨by rw [List.take_zero, List.take_zero, List.append_nil]; exact HP0.out, rfl⟩⟩
        case round =>
          clear HP0
          obtain ⟨i, V, rfl, hin, HI⟩ := hrel
          have hn5 : ml ≤ 5 := HFO.out.2.2.1.2
          have HN5 := hid hn5
          have hVi := HI.out.2
          have hV0 : (0 : Int) ≤ i := by omega
          have hwV1 : IntKind.i64.wrap ((V : Int) - 1) = (i : Int) := (IntWalk.i64_in _ (by omega)).trans (by omega)
          have hwVp : IntKind.i64.wrap ((V : Int) + 1) = (V : Int) + 1 := IntWalk.i64_in _ (by omega)
          have hwVn : IntKind.i64.wrap (-(V : Int)) = -(V : Int) := IntWalk.i64_in _ (by omega)
          have hwV : IntKind.i64.wrap (V : Int) = (V : Int) := IntWalk.i64_in _ (by omega)
          have hbw : Below w8.heap.size w8 wr := HI.out.1.bel
          have hbw4 : Below B w4 wr := H8.out.2.1.trans (hbw.mono (by have := H8.out.2.1.size; rw [HB.out] at this; exact this))
          have df := fun i => cell_of_row wr w3.heap.size i _ _ _ (HZF.out wr hbw4)
          have zx := (hbw.block wS.heap.size (Array.getElem?_eq_some_iff.1 HZX.out).1).trans HZX.out
          have dx := fun i => cell_of_row wr wS.heap.size i _ _ _ zx
          by_cases hlt : i < ml
          · have hVn : (V : Int) ≤ ml := by omega
            have hVnn : V ≤ ml := by omega
            have hlti : (i : Int) < ml := by omega
            obtain ⟨mb, hmb⟩ : ∃ mb, M[i]? = some mb := ⟨_, List.getElem?_eq_getElem (by have := H8.out.2.2.1; omega)⟩
            obtain ⟨b2, o2, ha2, hcm⟩ := ((H7.out.2.2.2.2.below H8.out.1).below hbw) i (.bool mb) (by unfold bools; rw [List.getElem?_map, hmb]; rfl)
            subst ha2
            clear zx hbw hbw4 hn5 hVi
            cases mb with
            | true =>
              have hto : toM M i = (V : Int) := by
                unfold toM
                rw [hmb]
                have := HI.out.2
                simp
                omega
              have hGl : (F ++ (fixM ml M).take i).length ≤ 1048576 := by
                simp only [List.length_append, List.length_take, fixM_len]
                have := HN5.out
                have := HFO.out.2.2.2.1
                omega
              obtain ⟨GL, hGL⟩ : ∃ t, (F ++ (fixM ml M).take i).length = t := ⟨_, rfl⟩
              obtain ⟨a0, cap, a12, c12, w12, hc1, hr12, hc2, hf2, hP12⟩ := HI.out.1.row (c := [(V : Int)]) hGl
              rw [hGL] at hc1 hr12 hc2 hP12
              have hr12 : (appM #[32, 32] 32 #[.slice a0 GL cap, .slice (some ⟨wr.heap.size + 1, 0, none⟩) 1 1]).run Try.prog ((wr.alloc (.cells #[.int .i64 ((V : Int))] 3 (0, 0))).alloc (.cells #[.slice (some ⟨wr.heap.size, 0, none⟩) 1 1] 22 (0, 0))) = .ok (.slice a12 (GL + 1) c12) w12 := hr12
              obtain ⟨a', c', w9', hr9, hP9⟩ := hP12.num (-(V : Int)) (by rw [List.length_take, notM_len]; have := HFO.out.2.2.1; omega)
              have hnl : ((notM ml M).take i).length = i := by rw [List.length_take, notM_len]; omega
              have e1 : F ++ (fixM ml M).take i ++ [[(V : Int)]] = F ++ (fixM ml M).take (i + 1) := by rw [fixM_take hlt, hto, List.append_assoc]
              have e2 : (notM ml M).take i ++ [-(V : Int)] = (notM ml M).take (i + 1) := by rw [notM_take hlt, hto]; try rw [Int.neg_neg]
              rw [hnl] at hr9 hP9
              rw [setCell_size] at hr9
              rw [e1, e2] at hP9
              have HP9 := hid hP9
              have hc1a := fun o => below_keeps (box_below wr o) _ _ hc1
              have hc1b := fun o o' => below_keeps (below_al (box_below wr o) (by simp only [size_al]; omega) o') _ _ hc1
              clear hto hGl hGL hP9 hP12 hnl e1 e2 hmb
              go_wp2_with fail
              go_roundw
              case rel => exact ⟨i + 1, V + 1, by simp, by omega, hid ⟨HP9.out, by have := HI.out.2; omega⟩⟩
              case measure => simp [intOf]; omega
            | false =>
              have hto : toM M i = -(V : Int) := by
                unfold toM
                rw [hmb]
                have := HI.out.2
                simp
                omega
              have hGl : (F ++ (fixM ml M).take i).length ≤ 1048576 := by
                simp only [List.length_append, List.length_take, fixM_len]
                have := HN5.out
                have := HFO.out.2.2.2.1
                omega
              obtain ⟨GL, hGL⟩ : ∃ t, (F ++ (fixM ml M).take i).length = t := ⟨_, rfl⟩
              obtain ⟨a0, cap, a12, c12, w12, hc1, hr12, hc2, hf2, hP12⟩ := HI.out.1.row (c := [-(V : Int)]) hGl
              rw [hGL] at hc1 hr12 hc2 hP12
              have hr12 : (appM #[32, 32] 32 #[.slice a0 GL cap, .slice (some ⟨wr.heap.size + 1, 0, none⟩) 1 1]).run Try.prog ((wr.alloc (.cells #[.int .i64 (-(V : Int))] 3 (0, 0))).alloc (.cells #[.slice (some ⟨wr.heap.size, 0, none⟩) 1 1] 22 (0, 0))) = .ok (.slice a12 (GL + 1) c12) w12 := hr12
              obtain ⟨a', c', w9', hr9, hP9⟩ := hP12.num ((V : Int)) (by rw [List.length_take, notM_len]; have := HFO.out.2.2.1; omega)
              have hnl : ((notM ml M).take i).length = i := by rw [List.length_take, notM_len]; omega
              have e1 : F ++ (fixM ml M).take i ++ [[-(V : Int)]] = F ++ (fixM ml M).take (i + 1) := by rw [fixM_take hlt, hto, List.append_assoc]
              have e2 : (notM ml M).take i ++ [(V : Int)] = (notM ml M).take (i + 1) := by rw [notM_take hlt, hto]; try rw [Int.neg_neg]
              rw [hnl] at hr9 hP9
              rw [setCell_size] at hr9
              rw [e1, e2] at hP9
              have HP9 := hid hP9
              have hc1a := fun o => below_keeps (box_below wr o) _ _ hc1
              have hc1b := fun o o' => below_keeps (below_al (box_below wr o) (by simp only [size_al]; omega) o') _ _ hc1
              clear hto hGl hGL hP9 hP12 hnl e1 e2 hmb
              go_wp2_with fail
              go_roundw
              case rel => exact ⟨i + 1, V + 1, by simp, by omega, hid ⟨HP9.out, by have := HI.out.2; omega⟩⟩
              case measure => simp [intOf]; omega
          · have hie : i = ml := by omega
            subst hie
            have hVn : ¬ (V : Int) ≤ i := by omega
            have hVnn : ¬ V ≤ i := by omega
            clear hVi hn5
            have hQ := HI.out.1
            rw [List.take_of_length_le (by rw [fixM_len]; exact Nat.le_refl _), List.take_of_length_le (by rw [notM_len]; exact Nat.le_refl _)] at hQ
            obtain ⟨ac, cc, hsv⟩ := own_lenV' hQ.own
            rw [notM_len] at hsv
            subst hsv
            have hxT : OwnT 3 wr 0 (.slice ac i cc) (notM i M) := (ownT_of_own hQ.own).base (Nat.zero_le _)
            obtain ⟨ax, cx, zx1, hrx⟩ := hQ.form.rows
            obtain ⟨gx, hgx⟩ : ∃ t, (F ++ fixM i M).length = t := ⟨_, rfl⟩
            rw [hgx] at zx1
            have okx := okM (G := F ++ fixM i M) HN5.out (fun c hc => by rcases List.mem_append.1 hc with q | q; exact HN.out.2.2.2 c q; exact fixM_ok c q) (fun c hc => by
              rcases List.mem_append.1 hc with q | q
              · exact HFO.out.2.2.2.2 c q
              · obtain ⟨j, -, rfl⟩ := List.mem_map.1 q
                simp) (by rw [List.length_append, fixM_len]; have := HFO.out.2.2.2.1; have := HN5.out; omega)
            have hans : ansV i (F ++ fixM i M) = 1 := ansV_sat ⟨M, H8.out.2.2.1, fun c hc => by
              rcases List.mem_append.1 hc with q | q
              · exact H8.out.2.2.2 c (by rw [← HG.out.1]; exact List.mem_append_left _ q)
              · exact fix_holds H8.out.2.2.1 c q⟩
            have dfx := fun j => cell_of_row wr w9.heap.size j _ _ _ zx1
            have HANS := hid (law07_answer i ax (F ++ fixM i M) gx cx 1 wr hans hgx.symm okx.1 hrx okx.2 HG.out.2.2.2.2.2.2)
            have HXT := hid hxT
            have HBQ := hid hQ.bel
            clear hQ hxT zx1 hrx hgx okx hans zx hbw hbw4
            go_wp2_with fail
            refine HANS.out.mono ?_
            rintro e w11 ⟨rfl, hb11⟩
            have hch := ((H7.out.1.trans (H8.out.1.mono H7.out.1.size)).trans (HBQ.out.mono (Nat.le_trans H7.out.1.size H8.out.1.size))).trans (hb11.mono (Nat.le_trans (Nat.le_trans H7.out.1.size H8.out.1.size) HBQ.out.size))
            have hgl := HG.out.2.1
            rw [← HG.out.1] at hgl
            obtain ⟨a0, cap, a12, c12, w12, hc1, hr12, hc2, hf2, hF12, hB12⟩ := (HS.out.1.fb.below hch).push (Nat.le_trans HBL.out hch.size) (HXT.out.below hb11) rfl (by
              simp only [List.length_append, nots, List.length_map]
              have := HS.out.1.mi.small HN5.out
              have := HFO.out.2.2.2.1
              omega)
            rw [hgl] at hc1 hr12 hc2 hF12 hB12
            have hmi := HS.out.1.mi.next H8.out.2.2.1 (fun c hc => H8.out.2.2.2 c (by rw [← HG.out.1]; exact hc))
            have HE := hid (show MO i F w4 (w12.setCell ⟨w5.heap.size, 1, none⟩ (.slice a12 (gl + 1) c12)) B w5.heap.size (ms ++ [M]) from ⟨hmi, by rw [show nots i (ms ++ [M]) = nots i ms ++ [notM i M] by simp [nots], ← List.append_assoc]; exact hF12, HS.out.1.bel.trans ((hch.mono HBL.out).trans hB12)⟩)
            have hL1 := hmi.small HN5.out
            rw [List.length_append, HS.out.2] at hL1
            have hL2 : L + 1 ≤ 32 := hL1
            have hc1a := fun o => below_keeps (box_below w11 o) _ _ hc1
            clear hch hgl hF12 hB12 hmi hb11 HANS hL1
            go_wp2_with fail
            go_roundw
            case rel => exact ⟨ms ++ [M], L + 1, by simp, by omega, hid ⟨HE.out, by rw [List.length_append, HS.out.2]; rfl⟩⟩
            case measure => simp [intOf]; omega
      · go_wp2_with fail
        refine HRT.out.mono ?_
        rintro e w8 ⟨rfl, hb8⟩
        have HBL := hid (show B ≤ wr.heap.size by rw [← HB.out]; exact HS.out.1.bel.size)
        have hb48 : Below B w4 w8 := HS.out.1.bel.trans ((H7.out.1.trans (hb8.mono H7.out.1.size)).mono HBL.out)
        have HZF := hid (show ∀ wx, Below B w4 wx → wx.heap[w3.heap.size]? = some (.cells #[.int .i64 n, .slice a FL c] 34 (0, 0)) from fun wx h => (h.block w3.heap.size (by rw [← HB.out]; have := H4.out.2.1; omega)).trans H4.out.2.2.1)
        have hno : ¬ HasM n (F ++ nots n ms) := fun h => by
          have h2 := HG.out.2.2.1
          rw [HG.out.1] at h
          rw [ansV_sat h] at h2
          exact absurd h2 (by decide)
        have hcnt : cntM n F (2 ^ n) = L := by rw [← HS.out.1.mi.all hno, HS.out.2]
        obtain ⟨P2, hP2⟩ : ∃ t, 2 ^ n = t := ⟨_, rfl⟩
        have hP32 : P2 ≤ 32 := by
          have h2 := Nat.pow_le_pow_right (n := 2) (by decide) HFO.out.2.2.1.2
          omega
        rw [hP2] at hcnt
        have hsh : Op.shift .shl .u16 1 .u64 (n : Int) = pure (.int .u16 (P2 : Nat)) := by
          have hn5 := HFO.out.2.2.1
          have hy0 : (0 : Int) ≤ (n : Int) := by omega
          have hy1 : (n : Int) ≤ IntKind.u16.bits := by simp [IntKind.bits]; omega
          have hp : ((2 : Int) ^ n) = (P2 : Int) := by rw [← hP2]; simp
          rw [shift_shl .u16 .u64 1 (n : Int) hy0 hy1, show ((n : Int)).toNat = n by omega, Int.one_mul, hp]
          refine congrArg (fun t => pure (Value.int .u16 t)) ?_
          unfold IntKind.wrap
          simp [IntKind.signed, IntKind.bits]
          omega
        have hnu : IntKind.u64.wrap (n : Int) = (n : Int) := by
          have hn5 := HFO.out.2.2.1
          unfold IntKind.wrap
          simp [IntKind.signed, IntKind.bits]
          omega
        have zx8 := (hb8.block wS.heap.size (Array.getElem?_eq_some_iff.1 H7.out.2.1).1).trans H7.out.2.1
        have dx8 := fun i => cell_of_row w8 wS.heap.size i _ _ _ zx8
        have df8 := fun i => cell_of_row w8 w3.heap.size i _ _ _ (HZF.out w8 hb48)
        have HCN := hid (And.intro hcnt hb48)
        clear hcnt hno hP2 hb8 hb48 zx8 dx7 dg7 H7 HRT HS
        go_wp2_with fail
        go_loopw [15, 16] (fun s15 s16 wl => ∃ (k W : Nat), s15 = .int .i64 W ∧ s16 = .int .u16 k ∧ k ≤ P2 ∧ Hid (Below B w4 wl ∧ cntM n F k = W)) (fun _ s16 _ => (P2 - intOf s16).toNat)
        case atStart => exact ⟨0, 0, rfl, rfl, Nat.zero_le _, hid ⟨HCN.out.2, rfl⟩⟩
        case round =>
          clear dx8 df8
          obtain ⟨k, W, rfl, rfl, hkP, HK⟩ := hrel
          have hWk : W ≤ k := by rw [← HK.out.2]; exact cntM_le n F k
          have hwW : IntKind.i64.wrap ((W : Int) + 1) = (W : Int) + 1 := IntWalk.i64_in _ (by omega)
          have hwk : IntKind.u16.wrap ((k : Int) + 1) = (k : Int) + 1 := by
            unfold IntKind.wrap
            simp [IntKind.signed, IntKind.bits]
            omega
          have zf := HZF.out wr HK.out.1
          have df := fun i => cell_of_row wr w3.heap.size i _ _ _ zf
          by_cases hlt : k < P2
          · have hlti : (k : Int) < P2 := by omega
            have s0 : ∀ (wx : World), Below wr.heap.size wr wx → wx.cell? ⟨w3.heap.size, 0, none⟩ = some (.int .i64 n) ∧ wx.cell? ⟨w3.heap.size, 1, none⟩ = some (.slice a FL c) := fun wx h => by
              have y := (h.block w3.heap.size (Array.getElem?_eq_some_iff.1 zf).1).trans zf
              exact ⟨fit_cell (vs := [.int .i64 n, .slice a FL c]) y 0, fit_cell (vs := [.int .i64 n, .slice a FL c]) y 1⟩
            have HS0 := hid s0
            obtain ⟨r, hr⟩ : ∃ r, (F.all fun c => holdsB (modelL n k) c) = r := ⟨_, rfl⟩
            have HR := hid hr
            clear s0 zf hr
            go_wp2_with fail
            refine wp_region_R (fun yw => yw.cell? ⟨w3.heap.size, 0, none⟩ = some (.int .i64 n) ∧ yw.cell? ⟨w3.heap.size, 1, none⟩ = some (.slice a FL c)) [] (by kernel_rfl) ?_
            have hHeld := HS0.out wr.drew (Below.refl _ _).drew
            refine wpR.take 0 rfl (by kernel_rfl) (fun _ _ _ h => h) (by rfl) (v := ?_) ?_ (by assumption) ?_
            rotate_left 1
            · (intro wx hSw; (try dsimp only at hSw); go_simp; try with_reducible rfl)
            try simp only [Act.put, List.setIfInBounds_toArray, List.set_cons_zero, List.set_cons_succ]
            refine wpR.pure 1 rfl (by kernel_rfl) (fun _ _ _ h => h) (by rfl) (v := ?_) ?_ ?_
            rotate_left 1
            · (intro wx _; go_simp; try with_reducible rfl)
            try simp only [Act.put, List.setIfInBounds_toArray, List.set_cons_zero, List.set_cons_succ]
            refine wpR.take 2 rfl (by kernel_rfl) (fun _ _ _ h => h) (by rfl) (v := ?_) ?_ (by assumption) ?_
            rotate_left 1
            · (intro wx hSw; (try dsimp only at hSw); go_simp; try with_reducible rfl)
            try simp only [Act.put, List.setIfInBounds_toArray, List.set_cons_zero, List.set_cons_succ]
            refine wpR.pure 3 rfl (by kernel_rfl) (fun _ _ _ h => h) (by rfl) (v := ?_) ?_ ?_
            rotate_left 1
            · (intro wx _; go_simp; try with_reducible rfl)
            try simp only [Act.put, List.setIfInBounds_toArray, List.set_cons_zero, List.set_cons_succ]
            refine wpR.enter 4 rfl (by kernel_rfl) (by rfl) (f := ?_) (args := ?_) ?_ ?_
            rotate_left 2
            · (go_simp; first | done | with_reducible rfl | (refine ⟨?_, ?_⟩ <;> with_reducible rfl))
            refine (law02_ModelR n n k wr.drew rfl (by have := HFO.out.2.2.1; omega) (by omega) (by omega)).mono ?_
            rintro e wM ⟨am, cm, rfl, -, hMS, hbM⟩
            have hbM' : Below wr.heap.size wr wM := (Below.refl wr.heap.size wr).drew.trans hbM
            refine ⟨_, rfl, fun _ => HS0.out _ hbM', ?_⟩
            try simp only [Act.put, List.setIfInBounds_toArray, List.set_cons_zero, List.set_cons_succ]
            refine wpR.enter 5 rfl (by kernel_rfl) (by rfl) (f := ?_) (args := ?_) ?_ ?_
            rotate_left 2
            · (go_simp; first | done | with_reducible rfl | (refine ⟨?_, ?_⟩ <;> with_reducible rfl))
            have hbW : Below B w4 wM := HK.out.1.trans (hbM'.mono (by rw [← HB.out]; exact HK.out.1.size))
            refine (law07_holds n a F FL c am (modelL n k) (modelL n k).length cm r wM HR.out HN.out.2.2.1.symm rfl (by simp [modelL]) (by have := HFO.out.2.2.1; omega) HN.out.2.2.2 HFO.out.1 (H4.out.2.2.2.rws.below (by rw [HB.out]; exact hbW)) hMS (by have := HN.out.2.2.1; have := HFO.out.2.2.2.1; omega)).mono ?_
            rintro e wH ⟨rfl, hbH⟩
            have hbH' : Below wr.heap.size wr wH := hbM'.trans (hbH.mono hbM'.size)
            refine ⟨_, rfl, fun _ => HS0.out _ hbH', ?_⟩
            try simp only [Act.put, List.setIfInBounds_toArray, List.set_cons_zero, List.set_cons_succ]
            have HKN := hid (And.intro (hbW.trans (hbH.mono (by rw [← HB.out]; exact hbW.size))) (show cntM n F (k + 1) = W + (if r then 1 else 0) by rw [cntM_succ, HK.out.2, HR.out]))
            clear hbM hbM' hMS hbW hbH hbH' hHeld
            refine wpR.done (by kernel_rfl) ?_
            cases r with
            | true =>
              go_wp2_with fail
              go_roundw
              case rel => exact ⟨k + 1, W + 1, by simp, by simp, by omega, hid ⟨HKN.out.1, HKN.out.2⟩⟩
              case measure => simp [intOf]; omega
            | false =>
              go_wp2_with fail
              go_roundw
              case rel => exact ⟨k + 1, W, by simp, by simp, by omega, hid ⟨HKN.out.1, HKN.out.2⟩⟩
              case measure => simp [intOf]; omega
          · have hke : k = P2 := by omega
            subst hke
            have hlti : ¬ (k : Int) < k := by omega
            have hWL : W = L := HK.out.2.symm.trans HCN.out.1
            subst hWL
            have HBK := hid (H4.out.1.trans (HK.out.1.mono (by rw [← HB.out]; exact H4.out.1.size)))
            go_wp2_with (go_at_call 30; refine (law07_known _).mono ?_; rintro e w' ⟨rfl, hb⟩)
            go_ret
            exact ⟨rfl, HBK.out.trans (hb.mono HBK.out.size)⟩

end Go.Proofs.Ytfofabbnbmieoaa.Ord
