/- The walk of SolveImplied. -/
import Derived.Test.YtfofabbnbmieoaaQ19
import Derived.Test.YtfofabbnbmieoaaQ20

namespace Go.Proofs.Ytfofabbnbmieoaa.Ord
open Go.RowKit

attribute [local go_sem ↓] Go.wp_at_zero Go.wp_at_succ
attribute [local go_sem ↓ high] app_mark

theorem chkI_of {n : Nat} {c : List Int} (hn : n ≤ 1048576) (h : ∀ x ∈ c, LitOk n x) (hl : c.length ≤ 4096) : litCheck n c = 0 :=
  litCheck_ok (by omega) (by omega) (by
    rw [List.any_eq_false]
    intro x hx
    have := h x hx
    unfold LitOk at this
    unfold badLit
    simp
    omega)

theorem chkJ_of {n : Nat} {F : List (List Int)} (hn : n ≤ 1048576) (hF : ClsOk n F) (hl : ∀ c ∈ F, c.length ≤ 4096) (hFl : F.length ≤ 1048576) : cnfCheck n F = 0 := by
  have hlit : ∀ c ∈ F, litCheck n c = 0 := fun c hc => by
    unfold litCheck
    rw [if_neg (by omega), if_neg (by have := hl c hc; omega), if_neg]
    intro ha
    obtain ⟨x, hx, hb⟩ := List.any_eq_true.1 ha
    have h2 := hF c hc x hx
    unfold LitOk at h2
    unfold badLit at hb
    simp only [Bool.or_eq_true, beq_iff_eq, decide_eq_true_eq] at hb
    omega
  unfold cnfCheck
  rw [if_neg (by omega), if_neg (by omega)]
  have : F.find? (fun c => litCheck n c != 0) = none := List.find?_eq_none.2 fun c hc => by simp [hlit c hc]
  rw [this]

theorem ok3 {n : Nat} {G : List (List Int)} (hn : n ≤ 12) (h : ClsOk n G) (hl : ∀ c ∈ G, c.length ≤ 20) (hG : G.length ≤ 60) : FOk G ∧ cnfCheck n G = 0 :=
  ⟨fun c hc => ⟨fun x hx => by
    have h1 := h c hc x hx
    unfold LitOk at h1
    unfold I64
    omega, by have := hl c hc; omega⟩, chkJ_of (by omega) h (fun c hc => Nat.le_trans (hl c hc) (by omega)) (by omega)⟩

theorem impL_mem {F D : List (List Int)} {c : List Int} (h : c ∈ impL F D) : c ∈ D := (List.mem_filter.1 h).1

theorem impL_len {F D : List (List Int)} : (impL F D).length ≤ D.length := List.length_filter_le _ _

theorem impL_next {F D : List (List Int)} {d : List Int} {i : Nat} {r : Bool} (h : D[i]? = some d) (hr : upF F (negs d) = r) : impL F (D.take (i + 1)) = impL F (D.take i) ++ (if r then [d] else []) := by
  unfold impL
  rw [List.take_add_one, h, List.filter_append]
  cases r with
  | true => simp [hr]
  | false => simp [hr]

set_option maxRecDepth 100000 in
set_option maxHeartbeats 8000000 in
theorem walk_SolveImplied (x0 : Int) (v1 : Value) (x1 : List (List Int)) (v2 : Value) (x2 : List (List Int)) (w : World) (w0 : (Lit.int .u8 x0).wf = true) (w1 : ArgR .i8 w v1 x1) (w2 : ArgR .i8 w v2 x2) :
    Calls Try.prog 6 #[.int .u8 x0, v1, v2] w fun e w' => e = .returned (.bool true) ∧ Below w.heap.size w w' := by
  have hb0 := bounds_u8 w0
  have HA := hid w1
  have HA2 := hid w2
  clear w0 w1 w2
  cases hfit : fitB x1 with
  | false =>
    have HFI := hid hfit
    clear hfit
    go_enter Try.func6, Try.ntmps6
    go_wp2_with fail
    refine (law02_FitF x0 v1 x1 w HFI.out hb0.1 hb0.2 HA.out).mono ?_
    rintro e w3 ⟨rfl, hb3⟩
    have HB3 := hid hb3
    clear hb3
    go_wp2_with (go_at_call 30; refine (law07_known _).mono ?_; rintro e w' ⟨rfl, hb⟩)
    go_ret
    exact ⟨rfl, (below_al HB3.out HB3.out.size _).trans (hb.mono (by have := HB3.out.size; simp only [size_al]; omega))⟩
  | true =>
    have hV := fitV_range x0
    obtain ⟨n, hn⟩ : ∃ n : Nat, fitV x0 = (n : Int) := ⟨(fitV x0).toNat, by omega⟩
    have hn1 : 1 ≤ n ∧ n ≤ 12 := by omega
    obtain ⟨F, hF⟩ : ∃ F, fitF x0 x1 = F := ⟨_, rfl⟩
    have hchk : cnfCheck n F = 0 := by rw [← hF, ← hn]; exact cnfCheck_fit hfit
    have hFl30 : F.length ≤ 30 := by rw [← hF, fitF_length]; exact (fitB_bounds hfit).1
    have hcl20 : ∀ c ∈ F, c.length ≤ 20 := fun c hc => by rw [← hF] at hc; exact (mem_fitF hfit hc).1
    have HFO := hid (And.intro (show FOk F from hF ▸ fok_fit hfit) (And.intro hchk (And.intro hn1 (And.intro hFl30 hcl20))))
    obtain ⟨N1, hN1⟩ : ∃ N1 : Nat, n - 1 = N1 := ⟨_, rfl⟩
    have hN1i : IntKind.i64.wrap ((n : Int) - 1) = (N1 : Int) := (IntWalk.i64_in _ (by omega)).trans (by omega)
    have hN1b : 0 ≤ (N1 : Int) ∧ (N1 : Int) ≤ 255 := by omega
    have hN1u : IntKind.u8.wrap (N1 : Int) = (N1 : Int) := by
      unfold IntKind.wrap
      simp [IntKind.signed, IntKind.bits]
      omega
    have hD1 : fitV (N1 : Int) = n := by unfold fitV; omega
    obtain ⟨FL, hFL⟩ : ∃ t, F.length = t := ⟨_, rfl⟩
    have HN := hid (And.intro hn (And.intro hF (And.intro hFL hN1b)))
    have HFI := hid hfit
    clear hfit hF hn hV hchk hn1 hFl30 hcl20 hN1 hN1b
    go_enter Try.func6, Try.ntmps6
    go_wp2_with fail
    refine (law02_FitS x0 v1 x1 w HFI.out hb0.1 hb0.2 HA.out).mono ?_
    rw [HN.out.1, HN.out.2.1, hFL]
    rintro e w3 ⟨a, c, rfl, hr3, hb3⟩
    obtain ⟨w4, hw4⟩ : ∃ t, w3.alloc (.cells #[.int .i64 n, .slice a FL c] 34 (0, 0)) = t := ⟨_, rfl⟩
    obtain ⟨hb4, hs4, z4⟩ := box1 w3 _ hw4
    have d4 := fun i => cell_of_row w4 w3.heap.size i _ _ _ z4
    have H4 := hid (And.intro (hb3.trans (hb4.mono hb3.size)) (And.intro hs4 (And.intro z4 (hr3.below hb4))))
    clear hb3 hr3 hb4 hs4 z4 hFL
    cases hfit2 : fitB x2 with
    | false =>
      have HFI2 := hid hfit2
      clear hfit2
      go_wp2_with fail
      refine (law02_FitF (N1 : Int) v2 x2 w4 HFI2.out HN.out.2.2.2.1 HN.out.2.2.2.2 (argR_belowS HA2.out H4.out.1)).mono ?_
      rintro e w5 ⟨rfl, hb5⟩
      have HB5 := hid (H4.out.1.trans (hb5.mono H4.out.1.size))
      clear hb5 d4
      go_wp2_with (go_at_call 30; refine (law07_known _).mono ?_; rintro e w' ⟨rfl, hb⟩)
      go_ret
      exact ⟨rfl, (below_al HB5.out HB5.out.size _).trans (hb.mono (by have := HB5.out.size; simp only [size_al]; omega))⟩
    | true =>
      obtain ⟨D, hD⟩ : ∃ D, fitF (N1 : Int) x2 = D := ⟨_, rfl⟩
      obtain ⟨DL, hDL⟩ : ∃ t, D.length = t := ⟨_, rfl⟩
      have hDl30 : D.length ≤ 30 := by rw [← hD, fitF_length]; exact (fitB_bounds hfit2).1
      have hDcl : ∀ c ∈ D, c.length ≤ 20 := fun c hc => by rw [← hD] at hc; exact (mem_fitF hfit2 hc).1
      have hDok : ClsOk n D := hD ▸ clsok_fit _ hD1.symm x2
      have HD := hid (And.intro (show FOk D from hD ▸ fok_fit hfit2) (And.intro hDok (And.intro hDcl hDL)))
      have HDE := hid (And.intro hD1 hD)
      have hDLb : DL ≤ 30 := by omega
      have HFI2 := hid hfit2
      clear hfit2 hD hDl30 hDcl hDok hD1
      go_wp2_with fail
      refine (law02_FitS (N1 : Int) v2 x2 w4 HFI2.out HN.out.2.2.2.1 HN.out.2.2.2.2 (argR_belowS HA2.out H4.out.1)).mono ?_
      rw [HDE.out.1, HDE.out.2, hDL]
      rintro e w5 ⟨a2, c2, rfl, hr5, hb5⟩
      obtain ⟨w6, hw6⟩ : ∃ t, w5.alloc (.cells #[.int .i64 n, .slice a2 DL c2] 34 (0, 0)) = t := ⟨_, rfl⟩
      obtain ⟨hb6, hs6, z6⟩ := box1 w5 _ hw6
      have hb46 := hb5.trans (hb6.mono hb5.size)
      have z46 := (hb46.block w3.heap.size (by have := H4.out.2.1; omega)).trans H4.out.2.2.1
      have d6 := fun i => cell_of_row w6 w5.heap.size i _ _ _ z6
      have d46 := fun i => cell_of_row w6 w3.heap.size i _ _ _ z46
      have H6 := hid (And.intro (H4.out.1.trans (hb46.mono H4.out.1.size)) (And.intro hs6 (And.intro z6 (And.intro z46 (And.intro (hr5.below hb6) (And.intro (H4.out.2.2.2.below hb46) (show w3.heap.size < w5.heap.size by have := hb5.size; have := H4.out.2.1; omega)))))))
      clear hb5 hr5 hb6 hs6 z6 hb46 z46 d4 hDL
      go_wp2_with fail
      obtain ⟨B6, hB6⟩ : ∃ t, w6.heap.size = t := ⟨_, rfl⟩
      have HB6 := hid hB6
      have s0 : ∀ (wx : World), Below B6 w6 wx → wx.cell? ⟨w3.heap.size, 0, none⟩ = some (.int .i64 n) ∧ wx.cell? ⟨w3.heap.size, 1, none⟩ = some (.slice a FL c) := fun wx h => by
        rw [← hB6] at h
        have y := (h.block w3.heap.size (by have := H6.out.2.1; have := H6.out.2.2.2.2.2.2; omega)).trans H6.out.2.2.2.1
        exact ⟨fit_cell (vs := [.int .i64 n, .slice a FL c]) y 0, fit_cell (vs := [.int .i64 n, .slice a FL c]) y 1⟩
      have HS0 := hid s0
      have cp : ∀ wx, Below B6 w6 wx → Calls Try.prog 28 #[.agg #[.int .i64 n, .slice a FL c]] wx fun e w' => ∃ a' c', e = .returned (.agg #[.int .i64 n, .slice a' FL c']) ∧ OwnRw w' wx.heap.size (.slice a' FL c') F ∧ Below wx.heap.size wx w' := fun wx h => by
        rw [← hB6] at h
        refine (kit_CopyFormula n a F FL c wx HN.out.2.2.1.symm HFO.out.1 (H6.out.2.2.2.2.2.1.rws.below h) (by have := HFO.out.2.2.2.1; omega) (fun d hd => by have := HFO.out.2.2.2.2 d hd; omega)).mono ?_
        rintro e w' ⟨a', c', rfl, -, ho, -, hb⟩
        rw [HN.out.2.2.1] at ho ⊢
        exact ⟨a', c', rfl, ho, hb⟩
      have HCP := hid cp
      clear s0 cp hB6
      go_cut [10, 11] (fun s10 s11 wx => ∃ b b' : Nat, s10 = .pointer (some ⟨b, 0, none⟩) ∧ s11 = .pointer (some ⟨b', 0, none⟩) ∧ Hid (FB2 wx B6 b b' n F F ∧ Below B6 w6 wx))
      case first =>
        refine wp_region_R (fun yw => yw.cell? ⟨w3.heap.size, 0, none⟩ = some (.int .i64 n) ∧ yw.cell? ⟨w3.heap.size, 1, none⟩ = some (.slice a FL c)) [6, 7] (by kernel_rfl) ?_
        have hHeld := HS0.out w6.drew (Below.refl _ _).drew
        refine wpR.take 0 rfl (by kernel_rfl) (fun _ _ _ h => h) (by rfl) (v := ?_) ?_ (by assumption) ?_
        rotate_left 1
        · (intro wx hSw; (try dsimp only at hSw); go_simp; try with_reducible rfl)
        try simp only [Act.put, List.setIfInBounds_toArray, List.set_cons_zero, List.set_cons_succ]
        refine wpR.take 2 rfl (by kernel_rfl) (fun _ _ _ h => h) (by rfl) (v := ?_) ?_ (by assumption) ?_
        rotate_left 1
        · (intro wx hSw; (try dsimp only at hSw); go_simp; try with_reducible rfl)
        try simp only [Act.put, List.setIfInBounds_toArray, List.set_cons_zero, List.set_cons_succ]
        have g0 : CS F FL B6 w6 w6.drew none none none none := ⟨(Below.refl _ _).drew, Nat.le_of_eq HB6.out.symm, nofun, nofun, nofun, nofun, nofun, nofun⟩
        refine wpR.fork3 1 4 5 (by kernel_rfl) ?_ ?_ ?_
        · skip
          refine wpO.enter 1 rfl (by rfl) (f := ?_) (args := ?_) ?_ ?_
          rotate_left 2
          · (go_simp; first | done | with_reducible rfl | (refine ⟨?_, ?_⟩ <;> with_reducible rfl))
          refine (HCP.out _ g0.1).mono ?_
          rintro e u1 ⟨a1, c1, rfl, ho1, hb1⟩
          have g1 := g0.copy1 (p := (a1, c1)) ho1 hb1
          refine ⟨_, rfl, fun _ _ => HS0.out _ g1.1, ?_⟩
          try simp only [Act.put, List.setIfInBounds_toArray, List.set_cons_zero, List.set_cons_succ]
          refine wpR.fork3 3 4 5 (by kernel_rfl) ?_ ?_ ?_
          · skip
            refine wpO.enter 3 rfl (by rfl) (f := ?_) (args := ?_) ?_ ?_
            rotate_left 2
            · (go_simp; first | done | with_reducible rfl | (refine ⟨?_, ?_⟩ <;> with_reducible rfl))
            refine (HCP.out _ g1.1).mono ?_
            rintro e u2 ⟨a2, c2, rfl, ho2, hb2⟩
            have g2 := g1.copy3 (p := (a2, c2)) ho2 hb2
            refine ⟨_, rfl, fun _ _ => HS0.out _ g2.1, ?_⟩
            try simp only [Act.put, List.setIfInBounds_toArray, List.set_cons_zero, List.set_cons_succ]
            refine wpR.fork2 4 5 (by kernel_rfl) ?_ ?_
            · skip
              refine wpO.one 4 rfl (by rfl) (v := ?_) (w' := ?_) ?_ ?_
              rotate_left 2
              · (go_simp; first | done | with_reducible rfl | (refine ⟨?_, ?_⟩ <;> with_reducible rfl))
              have g3 := g2.box4
              refine ⟨fun _ _ => HS0.out _ g3.1, ?_⟩
              try simp only [Act.put, List.setIfInBounds_toArray, List.set_cons_zero, List.set_cons_succ]
              refine wpR.fork1 5 (by kernel_rfl) ?_
              · skip
                refine wpO.one 5 rfl (by rfl) (v := ?_) (w' := ?_) ?_ ?_
                rotate_left 2
                · (go_simp; first | done | with_reducible rfl | (refine ⟨?_, ?_⟩ <;> with_reducible rfl))
                have g4 := g3.box5
                refine ⟨fun _ _ => HS0.out _ g4.1, ?_⟩
                try simp only [Act.put, List.setIfInBounds_toArray, List.set_cons_zero, List.set_cons_succ]
                have hL : CS F FL B6 w6 ((u2.alloc zbox).alloc zbox) (some (a1, c1)) (some (a2, c2)) (some (u2.heap.size)) (some (u2.heap.size + 1)) := by first | exact g4 | (simp only [size_al] at g4; exact g4)
                generalize ((u2.alloc zbox).alloc zbox) = uf at hL ⊢
                clear g1 g2 g3 g4 ho1 hb1 ho2 hb2
                generalize u2.heap.size + 1 = b5 at hL ⊢
                generalize u2.heap.size = b4 at hL ⊢
                have HL := hid hL
                obtain ⟨q1, q2, q3, q4, -, -, -, -⟩ := hL.fin
                refine wpR.skip 6 rfl (by kernel_rfl) (by rfl) (w' := ?_) ?_ ?_ ?_
                rotate_left 1
                · (go_simp; first | done | with_reducible rfl | (refine ⟨?_, ?_⟩ <;> with_reducible rfl))
                · (exact fun h => absurd (by decide) h)
                try simp only [Act.put]
                have HL2 := hid (HL.out.st2 HN.out.2.2.1 n)
                obtain ⟨r1, r2, r3, r4⟩ := HL.out.st1 n (.slice a1 FL c1)
                clear q1 q2 q3 q4 hL
                refine wpR.skip 7 rfl (by kernel_rfl) (by rfl) (w' := ?_) ?_ ?_ ?_
                rotate_left 1
                · (go_simp; first | done | with_reducible rfl | (refine ⟨?_, ?_⟩ <;> with_reducible rfl))
                · (exact fun h => absurd (by decide) h)
                try simp only [Act.put]
                refine wpR.done (by kernel_rfl) ?_
                go_wp2_with fail
                go_meet
                exact ⟨b4, b5, rfl, rfl, HL2⟩
            · skip
              refine wpO.one 5 rfl (by rfl) (v := ?_) (w' := ?_) ?_ ?_
              rotate_left 2
              · (go_simp; first | done | with_reducible rfl | (refine ⟨?_, ?_⟩ <;> with_reducible rfl))
              have g3 := g2.box5
              refine ⟨fun _ _ => HS0.out _ g3.1, ?_⟩
              try simp only [Act.put, List.setIfInBounds_toArray, List.set_cons_zero, List.set_cons_succ]
              refine wpR.fork1 4 (by kernel_rfl) ?_
              · skip
                refine wpO.one 4 rfl (by rfl) (v := ?_) (w' := ?_) ?_ ?_
                rotate_left 2
                · (go_simp; first | done | with_reducible rfl | (refine ⟨?_, ?_⟩ <;> with_reducible rfl))
                have g4 := g3.box4
                refine ⟨fun _ _ => HS0.out _ g4.1, ?_⟩
                try simp only [Act.put, List.setIfInBounds_toArray, List.set_cons_zero, List.set_cons_succ]
                have hL : CS F FL B6 w6 ((u2.alloc zbox).alloc zbox) (some (a1, c1)) (some (a2, c2)) (some (u2.heap.size + 1)) (some (u2.heap.size)) := by first | exact g4 | (simp only [size_al] at g4; exact g4)
                generalize ((u2.alloc zbox).alloc zbox) = uf at hL ⊢
                clear g1 g2 g3 g4 ho1 hb1 ho2 hb2
                generalize u2.heap.size + 1 = b4 at hL ⊢
                generalize u2.heap.size = b5 at hL ⊢
                have HL := hid hL
                obtain ⟨q1, q2, q3, q4, -, -, -, -⟩ := hL.fin
                refine wpR.skip 6 rfl (by kernel_rfl) (by rfl) (w' := ?_) ?_ ?_ ?_
                rotate_left 1
                · (go_simp; first | done | with_reducible rfl | (refine ⟨?_, ?_⟩ <;> with_reducible rfl))
                · (exact fun h => absurd (by decide) h)
                try simp only [Act.put]
                have HL2 := hid (HL.out.st2 HN.out.2.2.1 n)
                obtain ⟨r1, r2, r3, r4⟩ := HL.out.st1 n (.slice a1 FL c1)
                clear q1 q2 q3 q4 hL
                refine wpR.skip 7 rfl (by kernel_rfl) (by rfl) (w' := ?_) ?_ ?_ ?_
                rotate_left 1
                · (go_simp; first | done | with_reducible rfl | (refine ⟨?_, ?_⟩ <;> with_reducible rfl))
                · (exact fun h => absurd (by decide) h)
                try simp only [Act.put]
                refine wpR.done (by kernel_rfl) ?_
                go_wp2_with fail
                go_meet
                exact ⟨b4, b5, rfl, rfl, HL2⟩
          · skip
            refine wpO.one 4 rfl (by rfl) (v := ?_) (w' := ?_) ?_ ?_
            rotate_left 2
            · (go_simp; first | done | with_reducible rfl | (refine ⟨?_, ?_⟩ <;> with_reducible rfl))
            have g2 := g1.box4
            refine ⟨fun _ _ => HS0.out _ g2.1, ?_⟩
            try simp only [Act.put, List.setIfInBounds_toArray, List.set_cons_zero, List.set_cons_succ]
            refine wpR.fork2 3 5 (by kernel_rfl) ?_ ?_
            · skip
              refine wpO.enter 3 rfl (by rfl) (f := ?_) (args := ?_) ?_ ?_
              rotate_left 2
              · (go_simp; first | done | with_reducible rfl | (refine ⟨?_, ?_⟩ <;> with_reducible rfl))
              refine (HCP.out _ g2.1).mono ?_
              rintro e u3 ⟨a3, c3, rfl, ho3, hb3⟩
              have g3 := g2.copy3 (p := (a3, c3)) ho3 hb3
              refine ⟨_, rfl, fun _ _ => HS0.out _ g3.1, ?_⟩
              try simp only [Act.put, List.setIfInBounds_toArray, List.set_cons_zero, List.set_cons_succ]
              refine wpR.fork1 5 (by kernel_rfl) ?_
              · skip
                refine wpO.one 5 rfl (by rfl) (v := ?_) (w' := ?_) ?_ ?_
                rotate_left 2
                · (go_simp; first | done | with_reducible rfl | (refine ⟨?_, ?_⟩ <;> with_reducible rfl))
                have g4 := g3.box5
                refine ⟨fun _ _ => HS0.out _ g4.1, ?_⟩
                try simp only [Act.put, List.setIfInBounds_toArray, List.set_cons_zero, List.set_cons_succ]
                have hL : CS F FL B6 w6 (u3.alloc zbox) (some (a1, c1)) (some (a3, c3)) (some (u1.heap.size)) (some (u3.heap.size)) := by first | exact g4 | (simp only [size_al] at g4; exact g4)
                generalize (u3.alloc zbox) = uf at hL ⊢
                clear g1 g2 g3 g4 ho1 hb1 ho3 hb3
                generalize u1.heap.size = b4 at hL ⊢
                generalize u3.heap.size = b5 at hL ⊢
                have HL := hid hL
                obtain ⟨q1, q2, q3, q4, -, -, -, -⟩ := hL.fin
                refine wpR.skip 6 rfl (by kernel_rfl) (by rfl) (w' := ?_) ?_ ?_ ?_
                rotate_left 1
                · (go_simp; first | done | with_reducible rfl | (refine ⟨?_, ?_⟩ <;> with_reducible rfl))
                · (exact fun h => absurd (by decide) h)
                try simp only [Act.put]
                have HL2 := hid (HL.out.st2 HN.out.2.2.1 n)
                obtain ⟨r1, r2, r3, r4⟩ := HL.out.st1 n (.slice a1 FL c1)
                clear q1 q2 q3 q4 hL
                refine wpR.skip 7 rfl (by kernel_rfl) (by rfl) (w' := ?_) ?_ ?_ ?_
                rotate_left 1
                · (go_simp; first | done | with_reducible rfl | (refine ⟨?_, ?_⟩ <;> with_reducible rfl))
                · (exact fun h => absurd (by decide) h)
                try simp only [Act.put]
                refine wpR.done (by kernel_rfl) ?_
                go_wp2_with fail
                go_meet
                exact ⟨b4, b5, rfl, rfl, HL2⟩
            · skip
              refine wpO.one 5 rfl (by rfl) (v := ?_) (w' := ?_) ?_ ?_
              rotate_left 2
              · (go_simp; first | done | with_reducible rfl | (refine ⟨?_, ?_⟩ <;> with_reducible rfl))
              have g3 := g2.box5
              refine ⟨fun _ _ => HS0.out _ g3.1, ?_⟩
              try simp only [Act.put, List.setIfInBounds_toArray, List.set_cons_zero, List.set_cons_succ]
              refine wpR.fork1 3 (by kernel_rfl) ?_
              · skip
                refine wpO.enter 3 rfl (by rfl) (f := ?_) (args := ?_) ?_ ?_
                rotate_left 2
                · (go_simp; first | done | with_reducible rfl | (refine ⟨?_, ?_⟩ <;> with_reducible rfl))
                refine (HCP.out _ g3.1).mono ?_
                rintro e u4 ⟨a4, c4, rfl, ho4, hb4⟩
                have g4 := g3.copy3 (p := (a4, c4)) ho4 hb4
                refine ⟨_, rfl, fun _ _ => HS0.out _ g4.1, ?_⟩
                try simp only [Act.put, List.setIfInBounds_toArray, List.set_cons_zero, List.set_cons_succ]
                have hL : CS F FL B6 w6 u4 (some (a1, c1)) (some (a4, c4)) (some (u1.heap.size)) (some (u1.heap.size + 1)) := by first | exact g4 | (simp only [size_al] at g4; exact g4)
                generalize u4 = uf at hL ⊢
                clear g1 g2 g3 g4 ho1 hb1 ho4 hb4
                generalize u1.heap.size + 1 = b5 at hL ⊢
                generalize u1.heap.size = b4 at hL ⊢
                have HL := hid hL
                obtain ⟨q1, q2, q3, q4, -, -, -, -⟩ := hL.fin
                refine wpR.skip 6 rfl (by kernel_rfl) (by rfl) (w' := ?_) ?_ ?_ ?_
                rotate_left 1
                · (go_simp; first | done | with_reducible rfl | (refine ⟨?_, ?_⟩ <;> with_reducible rfl))
                · (exact fun h => absurd (by decide) h)
                try simp only [Act.put]
                have HL2 := hid (HL.out.st2 HN.out.2.2.1 n)
                obtain ⟨r1, r2, r3, r4⟩ := HL.out.st1 n (.slice a1 FL c1)
                clear q1 q2 q3 q4 hL
                refine wpR.skip 7 rfl (by kernel_rfl) (by rfl) (w' := ?_) ?_ ?_ ?_
                rotate_left 1
                · (go_simp; first | done | with_reducible rfl | (refine ⟨?_, ?_⟩ <;> with_reducible rfl))
                · (exact fun h => absurd (by decide) h)
                try simp only [Act.put]
                refine wpR.done (by kernel_rfl) ?_
                go_wp2_with fail
                go_meet
                exact ⟨b4, b5, rfl, rfl, HL2⟩
          · skip
            refine wpO.one 5 rfl (by rfl) (v := ?_) (w' := ?_) ?_ ?_
            rotate_left 2
            · (go_simp; first | done | with_reducible rfl | (refine ⟨?_, ?_⟩ <;> with_reducible rfl))
            have g2 := g1.box5
            refine ⟨fun _ _ => HS0.out _ g2.1, ?_⟩
            try simp only [Act.put, List.setIfInBounds_toArray, List.set_cons_zero, List.set_cons_succ]
            refine wpR.fork2 3 4 (by kernel_rfl) ?_ ?_
            · skip
              refine wpO.enter 3 rfl (by rfl) (f := ?_) (args := ?_) ?_ ?_
              rotate_left 2
              · (go_simp; first | done | with_reducible rfl | (refine ⟨?_, ?_⟩ <;> with_reducible rfl))
              refine (HCP.out _ g2.1).mono ?_
              rintro e u3 ⟨a3, c3, rfl, ho3, hb3⟩
              have g3 := g2.copy3 (p := (a3, c3)) ho3 hb3
              refine ⟨_, rfl, fun _ _ => HS0.out _ g3.1, ?_⟩
              try simp only [Act.put, List.setIfInBounds_toArray, List.set_cons_zero, List.set_cons_succ]
              refine wpR.fork1 4 (by kernel_rfl) ?_
              · skip
                refine wpO.one 4 rfl (by rfl) (v := ?_) (w' := ?_) ?_ ?_
                rotate_left 2
                · (go_simp; first | done | with_reducible rfl | (refine ⟨?_, ?_⟩ <;> with_reducible rfl))
                have g4 := g3.box4
                refine ⟨fun _ _ => HS0.out _ g4.1, ?_⟩
                try simp only [Act.put, List.setIfInBounds_toArray, List.set_cons_zero, List.set_cons_succ]
                have hL : CS F FL B6 w6 (u3.alloc zbox) (some (a1, c1)) (some (a3, c3)) (some (u3.heap.size)) (some (u1.heap.size)) := by first | exact g4 | (simp only [size_al] at g4; exact g4)
                generalize (u3.alloc zbox) = uf at hL ⊢
                clear g1 g2 g3 g4 ho1 hb1 ho3 hb3
                generalize u3.heap.size = b4 at hL ⊢
                generalize u1.heap.size = b5 at hL ⊢
                have HL := hid hL
                obtain ⟨q1, q2, q3, q4, -, -, -, -⟩ := hL.fin
                refine wpR.skip 6 rfl (by kernel_rfl) (by rfl) (w' := ?_) ?_ ?_ ?_
                rotate_left 1
                · (go_simp; first | done | with_reducible rfl | (refine ⟨?_, ?_⟩ <;> with_reducible rfl))
                · (exact fun h => absurd (by decide) h)
                try simp only [Act.put]
                have HL2 := hid (HL.out.st2 HN.out.2.2.1 n)
                obtain ⟨r1, r2, r3, r4⟩ := HL.out.st1 n (.slice a1 FL c1)
                clear q1 q2 q3 q4 hL
                refine wpR.skip 7 rfl (by kernel_rfl) (by rfl) (w' := ?_) ?_ ?_ ?_
                rotate_left 1
                · (go_simp; first | done | with_reducible rfl | (refine ⟨?_, ?_⟩ <;> with_reducible rfl))
                · (exact fun h => absurd (by decide) h)
                try simp only [Act.put]
                refine wpR.done (by kernel_rfl) ?_
                go_wp2_with fail
                go_meet
                exact ⟨b4, b5, rfl, rfl, HL2⟩
            · skip
              refine wpO.one 4 rfl (by rfl) (v := ?_) (w' := ?_) ?_ ?_
              rotate_left 2
              · (go_simp; first | done | with_reducible rfl | (refine ⟨?_, ?_⟩ <;> with_reducible rfl))
              have g3 := g2.box4
              refine ⟨fun _ _ => HS0.out _ g3.1, ?_⟩
              try simp only [Act.put, List.setIfInBounds_toArray, List.set_cons_zero, List.set_cons_succ]
              refine wpR.fork1 3 (by kernel_rfl) ?_
              · skip
                refine wpO.enter 3 rfl (by rfl) (f := ?_) (args := ?_) ?_ ?_
                rotate_left 2
                · (go_simp; first | done | with_reducible rfl | (refine ⟨?_, ?_⟩ <;> with_reducible rfl))
                refine (HCP.out _ g3.1).mono ?_
                rintro e u4 ⟨a4, c4, rfl, ho4, hb4⟩
                have g4 := g3.copy3 (p := (a4, c4)) ho4 hb4
                refine ⟨_, rfl, fun _ _ => HS0.out _ g4.1, ?_⟩
                try simp only [Act.put, List.setIfInBounds_toArray, List.set_cons_zero, List.set_cons_succ]
                have hL : CS F FL B6 w6 u4 (some (a1, c1)) (some (a4, c4)) (some (u1.heap.size + 1)) (some (u1.heap.size)) := by first | exact g4 | (simp only [size_al] at g4; exact g4)
                generalize u4 = uf at hL ⊢
                clear g1 g2 g3 g4 ho1 hb1 ho4 hb4
                generalize u1.heap.size + 1 = b4 at hL ⊢
                generalize u1.heap.size = b5 at hL ⊢
                have HL := hid hL
                obtain ⟨q1, q2, q3, q4, -, -, -, -⟩ := hL.fin
                refine wpR.skip 6 rfl (by kernel_rfl) (by rfl) (w' := ?_) ?_ ?_ ?_
                rotate_left 1
                · (go_simp; first | done | with_reducible rfl | (refine ⟨?_, ?_⟩ <;> with_reducible rfl))
                · (exact fun h => absurd (by decide) h)
                try simp only [Act.put]
                have HL2 := hid (HL.out.st2 HN.out.2.2.1 n)
                obtain ⟨r1, r2, r3, r4⟩ := HL.out.st1 n (.slice a1 FL c1)
                clear q1 q2 q3 q4 hL
                refine wpR.skip 7 rfl (by kernel_rfl) (by rfl) (w' := ?_) ?_ ?_ ?_
                rotate_left 1
                · (go_simp; first | done | with_reducible rfl | (refine ⟨?_, ?_⟩ <;> with_reducible rfl))
                · (exact fun h => absurd (by decide) h)
                try simp only [Act.put]
                refine wpR.done (by kernel_rfl) ?_
                go_wp2_with fail
                go_meet
                exact ⟨b4, b5, rfl, rfl, HL2⟩
        · skip
          refine wpO.one 4 rfl (by rfl) (v := ?_) (w' := ?_) ?_ ?_
          rotate_left 2
          · (go_simp; first | done | with_reducible rfl | (refine ⟨?_, ?_⟩ <;> with_reducible rfl))
          have g1 := g0.box4
          refine ⟨fun _ _ => HS0.out _ g1.1, ?_⟩
          try simp only [Act.put, List.setIfInBounds_toArray, List.set_cons_zero, List.set_cons_succ]
          refine wpR.fork2 1 5 (by kernel_rfl) ?_ ?_
          · skip
            refine wpO.enter 1 rfl (by rfl) (f := ?_) (args := ?_) ?_ ?_
            rotate_left 2
            · (go_simp; first | done | with_reducible rfl | (refine ⟨?_, ?_⟩ <;> with_reducible rfl))
            refine (HCP.out _ g1.1).mono ?_
            rintro e u2 ⟨a2, c2, rfl, ho2, hb2⟩
            have g2 := g1.copy1 (p := (a2, c2)) ho2 hb2
            refine ⟨_, rfl, fun _ _ => HS0.out _ g2.1, ?_⟩
            try simp only [Act.put, List.setIfInBounds_toArray, List.set_cons_zero, List.set_cons_succ]
            refine wpR.fork2 3 5 (by kernel_rfl) ?_ ?_
            · skip
              refine wpO.enter 3 rfl (by rfl) (f := ?_) (args := ?_) ?_ ?_
              rotate_left 2
              · (go_simp; first | done | with_reducible rfl | (refine ⟨?_, ?_⟩ <;> with_reducible rfl))
              refine (HCP.out _ g2.1).mono ?_
              rintro e u3 ⟨a3, c3, rfl, ho3, hb3⟩
              have g3 := g2.copy3 (p := (a3, c3)) ho3 hb3
              refine ⟨_, rfl, fun _ _ => HS0.out _ g3.1, ?_⟩
              try simp only [Act.put, List.setIfInBounds_toArray, List.set_cons_zero, List.set_cons_succ]
              refine wpR.fork1 5 (by kernel_rfl) ?_
              · skip
                refine wpO.one 5 rfl (by rfl) (v := ?_) (w' := ?_) ?_ ?_
                rotate_left 2
                · (go_simp; first | done | with_reducible rfl | (refine ⟨?_, ?_⟩ <;> with_reducible rfl))
                have g4 := g3.box5
                refine ⟨fun _ _ => HS0.out _ g4.1, ?_⟩
                try simp only [Act.put, List.setIfInBounds_toArray, List.set_cons_zero, List.set_cons_succ]
                have hL : CS F FL B6 w6 (u3.alloc zbox) (some (a2, c2)) (some (a3, c3)) (some (w6.heap.size)) (some (u3.heap.size)) := by first | exact g4 | (simp only [size_al] at g4; exact g4)
                generalize (u3.alloc zbox) = uf at hL ⊢
                clear g1 g2 g3 g4 ho2 hb2 ho3 hb3
                generalize w6.heap.size = b4 at hL ⊢
                generalize u3.heap.size = b5 at hL ⊢
                have HL := hid hL
                obtain ⟨q1, q2, q3, q4, -, -, -, -⟩ := hL.fin
                refine wpR.skip 6 rfl (by kernel_rfl) (by rfl) (w' := ?_) ?_ ?_ ?_
                rotate_left 1
                · (go_simp; first | done | with_reducible rfl | (refine ⟨?_, ?_⟩ <;> with_reducible rfl))
                · (exact fun h => absurd (by decide) h)
                try simp only [Act.put]
                have HL2 := hid (HL.out.st2 HN.out.2.2.1 n)
                obtain ⟨r1, r2, r3, r4⟩ := HL.out.st1 n (.slice a2 FL c2)
                clear q1 q2 q3 q4 hL
                refine wpR.skip 7 rfl (by kernel_rfl) (by rfl) (w' := ?_) ?_ ?_ ?_
                rotate_left 1
                · (go_simp; first | done | with_reducible rfl | (refine ⟨?_, ?_⟩ <;> with_reducible rfl))
                · (exact fun h => absurd (by decide) h)
                try simp only [Act.put]
                refine wpR.done (by kernel_rfl) ?_
                go_wp2_with fail
                go_meet
                exact ⟨b4, b5, rfl, rfl, HL2⟩
            · skip
              refine wpO.one 5 rfl (by rfl) (v := ?_) (w' := ?_) ?_ ?_
              rotate_left 2
              · (go_simp; first | done | with_reducible rfl | (refine ⟨?_, ?_⟩ <;> with_reducible rfl))
              have g3 := g2.box5
              refine ⟨fun _ _ => HS0.out _ g3.1, ?_⟩
              try simp only [Act.put, List.setIfInBounds_toArray, List.set_cons_zero, List.set_cons_succ]
              refine wpR.fork1 3 (by kernel_rfl) ?_
              · skip
                refine wpO.enter 3 rfl (by rfl) (f := ?_) (args := ?_) ?_ ?_
                rotate_left 2
                · (go_simp; first | done | with_reducible rfl | (refine ⟨?_, ?_⟩ <;> with_reducible rfl))
                refine (HCP.out _ g3.1).mono ?_
                rintro e u4 ⟨a4, c4, rfl, ho4, hb4⟩
                have g4 := g3.copy3 (p := (a4, c4)) ho4 hb4
                refine ⟨_, rfl, fun _ _ => HS0.out _ g4.1, ?_⟩
                try simp only [Act.put, List.setIfInBounds_toArray, List.set_cons_zero, List.set_cons_succ]
                have hL : CS F FL B6 w6 u4 (some (a2, c2)) (some (a4, c4)) (some (w6.heap.size)) (some (u2.heap.size)) := by first | exact g4 | (simp only [size_al] at g4; exact g4)
                generalize u4 = uf at hL ⊢
                clear g1 g2 g3 g4 ho2 hb2 ho4 hb4
                generalize w6.heap.size = b4 at hL ⊢
                generalize u2.heap.size = b5 at hL ⊢
                have HL := hid hL
                obtain ⟨q1, q2, q3, q4, -, -, -, -⟩ := hL.fin
                refine wpR.skip 6 rfl (by kernel_rfl) (by rfl) (w' := ?_) ?_ ?_ ?_
                rotate_left 1
                · (go_simp; first | done | with_reducible rfl | (refine ⟨?_, ?_⟩ <;> with_reducible rfl))
                · (exact fun h => absurd (by decide) h)
                try simp only [Act.put]
                have HL2 := hid (HL.out.st2 HN.out.2.2.1 n)
                obtain ⟨r1, r2, r3, r4⟩ := HL.out.st1 n (.slice a2 FL c2)
                clear q1 q2 q3 q4 hL
                refine wpR.skip 7 rfl (by kernel_rfl) (by rfl) (w' := ?_) ?_ ?_ ?_
                rotate_left 1
                · (go_simp; first | done | with_reducible rfl | (refine ⟨?_, ?_⟩ <;> with_reducible rfl))
                · (exact fun h => absurd (by decide) h)
                try simp only [Act.put]
                refine wpR.done (by kernel_rfl) ?_
                go_wp2_with fail
                go_meet
                exact ⟨b4, b5, rfl, rfl, HL2⟩
          · skip
            refine wpO.one 5 rfl (by rfl) (v := ?_) (w' := ?_) ?_ ?_
            rotate_left 2
            · (go_simp; first | done | with_reducible rfl | (refine ⟨?_, ?_⟩ <;> with_reducible rfl))
            have g2 := g1.box5
            refine ⟨fun _ _ => HS0.out _ g2.1, ?_⟩
            try simp only [Act.put, List.setIfInBounds_toArray, List.set_cons_zero, List.set_cons_succ]
            refine wpR.fork1 1 (by kernel_rfl) ?_
            · skip
              refine wpO.enter 1 rfl (by rfl) (f := ?_) (args := ?_) ?_ ?_
              rotate_left 2
              · (go_simp; first | done | with_reducible rfl | (refine ⟨?_, ?_⟩ <;> with_reducible rfl))
              refine (HCP.out _ g2.1).mono ?_
              rintro e u3 ⟨a3, c3, rfl, ho3, hb3⟩
              have g3 := g2.copy1 (p := (a3, c3)) ho3 hb3
              refine ⟨_, rfl, fun _ _ => HS0.out _ g3.1, ?_⟩
              try simp only [Act.put, List.setIfInBounds_toArray, List.set_cons_zero, List.set_cons_succ]
              refine wpR.fork1 3 (by kernel_rfl) ?_
              · skip
                refine wpO.enter 3 rfl (by rfl) (f := ?_) (args := ?_) ?_ ?_
                rotate_left 2
                · (go_simp; first | done | with_reducible rfl | (refine ⟨?_, ?_⟩ <;> with_reducible rfl))
                refine (HCP.out _ g3.1).mono ?_
                rintro e u4 ⟨a4, c4, rfl, ho4, hb4⟩
                have g4 := g3.copy3 (p := (a4, c4)) ho4 hb4
                refine ⟨_, rfl, fun _ _ => HS0.out _ g4.1, ?_⟩
                try simp only [Act.put, List.setIfInBounds_toArray, List.set_cons_zero, List.set_cons_succ]
                have hL : CS F FL B6 w6 u4 (some (a3, c3)) (some (a4, c4)) (some (w6.heap.size)) (some (w6.heap.size + 1)) := by first | exact g4 | (simp only [size_al] at g4; exact g4)
                generalize u4 = uf at hL ⊢
                clear g1 g2 g3 g4 ho3 hb3 ho4 hb4
                generalize w6.heap.size + 1 = b5 at hL ⊢
                generalize w6.heap.size = b4 at hL ⊢
                have HL := hid hL
                obtain ⟨q1, q2, q3, q4, -, -, -, -⟩ := hL.fin
                refine wpR.skip 6 rfl (by kernel_rfl) (by rfl) (w' := ?_) ?_ ?_ ?_
                rotate_left 1
                · (go_simp; first | done | with_reducible rfl | (refine ⟨?_, ?_⟩ <;> with_reducible rfl))
                · (exact fun h => absurd (by decide) h)
                try simp only [Act.put]
                have HL2 := hid (HL.out.st2 HN.out.2.2.1 n)
                obtain ⟨r1, r2, r3, r4⟩ := HL.out.st1 n (.slice a3 FL c3)
                clear q1 q2 q3 q4 hL
                refine wpR.skip 7 rfl (by kernel_rfl) (by rfl) (w' := ?_) ?_ ?_ ?_
                rotate_left 1
                · (go_simp; first | done | with_reducible rfl | (refine ⟨?_, ?_⟩ <;> with_reducible rfl))
                · (exact fun h => absurd (by decide) h)
                try simp only [Act.put]
                refine wpR.done (by kernel_rfl) ?_
                go_wp2_with fail
                go_meet
                exact ⟨b4, b5, rfl, rfl, HL2⟩
        · skip
          refine wpO.one 5 rfl (by rfl) (v := ?_) (w' := ?_) ?_ ?_
          rotate_left 2
          · (go_simp; first | done | with_reducible rfl | (refine ⟨?_, ?_⟩ <;> with_reducible rfl))
          have g1 := g0.box5
          refine ⟨fun _ _ => HS0.out _ g1.1, ?_⟩
          try simp only [Act.put, List.setIfInBounds_toArray, List.set_cons_zero, List.set_cons_succ]
          refine wpR.fork2 1 4 (by kernel_rfl) ?_ ?_
          · skip
            refine wpO.enter 1 rfl (by rfl) (f := ?_) (args := ?_) ?_ ?_
            rotate_left 2
            · (go_simp; first | done | with_reducible rfl | (refine ⟨?_, ?_⟩ <;> with_reducible rfl))
            refine (HCP.out _ g1.1).mono ?_
            rintro e u2 ⟨a2, c2, rfl, ho2, hb2⟩
            have g2 := g1.copy1 (p := (a2, c2)) ho2 hb2
            refine ⟨_, rfl, fun _ _ => HS0.out _ g2.1, ?_⟩
            try simp only [Act.put, List.setIfInBounds_toArray, List.set_cons_zero, List.set_cons_succ]
            refine wpR.fork2 3 4 (by kernel_rfl) ?_ ?_
            · skip
              refine wpO.enter 3 rfl (by rfl) (f := ?_) (args := ?_) ?_ ?_
              rotate_left 2
              · (go_simp; first | done | with_reducible rfl | (refine ⟨?_, ?_⟩ <;> with_reducible rfl))
              refine (HCP.out _ g2.1).mono ?_
              rintro e u3 ⟨a3, c3, rfl, ho3, hb3⟩
              have g3 := g2.copy3 (p := (a3, c3)) ho3 hb3
              refine ⟨_, rfl, fun _ _ => HS0.out _ g3.1, ?_⟩
              try simp only [Act.put, List.setIfInBounds_toArray, List.set_cons_zero, List.set_cons_succ]
              refine wpR.fork1 4 (by kernel_rfl) ?_
              · skip
                refine wpO.one 4 rfl (by rfl) (v := ?_) (w' := ?_) ?_ ?_
                rotate_left 2
                · (go_simp; first | done | with_reducible rfl | (refine ⟨?_, ?_⟩ <;> with_reducible rfl))
                have g4 := g3.box4
                refine ⟨fun _ _ => HS0.out _ g4.1, ?_⟩
                try simp only [Act.put, List.setIfInBounds_toArray, List.set_cons_zero, List.set_cons_succ]
                have hL : CS F FL B6 w6 (u3.alloc zbox) (some (a2, c2)) (some (a3, c3)) (some (u3.heap.size)) (some (w6.heap.size)) := by first | exact g4 | (simp only [size_al] at g4; exact g4)
                generalize (u3.alloc zbox) = uf at hL ⊢
                clear g1 g2 g3 g4 ho2 hb2 ho3 hb3
                generalize u3.heap.size = b4 at hL ⊢
                generalize w6.heap.size = b5 at hL ⊢
                have HL := hid hL
                obtain ⟨q1, q2, q3, q4, -, -, -, -⟩ := hL.fin
                refine wpR.skip 6 rfl (by kernel_rfl) (by rfl) (w' := ?_) ?_ ?_ ?_
                rotate_left 1
                · (go_simp; first | done | with_reducible rfl | (refine ⟨?_, ?_⟩ <;> with_reducible rfl))
                · (exact fun h => absurd (by decide) h)
                try simp only [Act.put]
                have HL2 := hid (HL.out.st2 HN.out.2.2.1 n)
                obtain ⟨r1, r2, r3, r4⟩ := HL.out.st1 n (.slice a2 FL c2)
                clear q1 q2 q3 q4 hL
                refine wpR.skip 7 rfl (by kernel_rfl) (by rfl) (w' := ?_) ?_ ?_ ?_
                rotate_left 1
                · (go_simp; first | done | with_reducible rfl | (refine ⟨?_, ?_⟩ <;> with_reducible rfl))
                · (exact fun h => absurd (by decide) h)
                try simp only [Act.put]
                refine wpR.done (by kernel_rfl) ?_
                go_wp2_with fail
                go_meet
                exact ⟨b4, b5, rfl, rfl, HL2⟩
            · skip
              refine wpO.one 4 rfl (by rfl) (v := ?_) (w' := ?_) ?_ ?_
              rotate_left 2
              · (go_simp; first | done | with_reducible rfl | (refine ⟨?_, ?_⟩ <;> with_reducible rfl))
              have g3 := g2.box4
              refine ⟨fun _ _ => HS0.out _ g3.1, ?_⟩
              try simp only [Act.put, List.setIfInBounds_toArray, List.set_cons_zero, List.set_cons_succ]
              refine wpR.fork1 3 (by kernel_rfl) ?_
              · skip
                refine wpO.enter 3 rfl (by rfl) (f := ?_) (args := ?_) ?_ ?_
                rotate_left 2
                · (go_simp; first | done | with_reducible rfl | (refine ⟨?_, ?_⟩ <;> with_reducible rfl))
                refine (HCP.out _ g3.1).mono ?_
                rintro e u4 ⟨a4, c4, rfl, ho4, hb4⟩
                have g4 := g3.copy3 (p := (a4, c4)) ho4 hb4
                refine ⟨_, rfl, fun _ _ => HS0.out _ g4.1, ?_⟩
                try simp only [Act.put, List.setIfInBounds_toArray, List.set_cons_zero, List.set_cons_succ]
                have hL : CS F FL B6 w6 u4 (some (a2, c2)) (some (a4, c4)) (some (u2.heap.size)) (some (w6.heap.size)) := by first | exact g4 | (simp only [size_al] at g4; exact g4)
                generalize u4 = uf at hL ⊢
                clear g1 g2 g3 g4 ho2 hb2 ho4 hb4
                generalize u2.heap.size = b4 at hL ⊢
                generalize w6.heap.size = b5 at hL ⊢
                have HL := hid hL
                obtain ⟨q1, q2, q3, q4, -, -, -, -⟩ := hL.fin
                refine wpR.skip 6 rfl (by kernel_rfl) (by rfl) (w' := ?_) ?_ ?_ ?_
                rotate_left 1
                · (go_simp; first | done | with_reducible rfl | (refine ⟨?_, ?_⟩ <;> with_reducible rfl))
                · (exact fun h => absurd (by decide) h)
                try simp only [Act.put]
                have HL2 := hid (HL.out.st2 HN.out.2.2.1 n)
                obtain ⟨r1, r2, r3, r4⟩ := HL.out.st1 n (.slice a2 FL c2)
                clear q1 q2 q3 q4 hL
                refine wpR.skip 7 rfl (by kernel_rfl) (by rfl) (w' := ?_) ?_ ?_ ?_
                rotate_left 1
                · (go_simp; first | done | with_reducible rfl | (refine ⟨?_, ?_⟩ <;> with_reducible rfl))
                · (exact fun h => absurd (by decide) h)
                try simp only [Act.put]
                refine wpR.done (by kernel_rfl) ?_
                go_wp2_with fail
                go_meet
                exact ⟨b4, b5, rfl, rfl, HL2⟩
          · skip
            refine wpO.one 4 rfl (by rfl) (v := ?_) (w' := ?_) ?_ ?_
            rotate_left 2
            · (go_simp; first | done | with_reducible rfl | (refine ⟨?_, ?_⟩ <;> with_reducible rfl))
            have g2 := g1.box4
            refine ⟨fun _ _ => HS0.out _ g2.1, ?_⟩
            try simp only [Act.put, List.setIfInBounds_toArray, List.set_cons_zero, List.set_cons_succ]
            refine wpR.fork1 1 (by kernel_rfl) ?_
            · skip
              refine wpO.enter 1 rfl (by rfl) (f := ?_) (args := ?_) ?_ ?_
              rotate_left 2
              · (go_simp; first | done | with_reducible rfl | (refine ⟨?_, ?_⟩ <;> with_reducible rfl))
              refine (HCP.out _ g2.1).mono ?_
              rintro e u3 ⟨a3, c3, rfl, ho3, hb3⟩
              have g3 := g2.copy1 (p := (a3, c3)) ho3 hb3
              refine ⟨_, rfl, fun _ _ => HS0.out _ g3.1, ?_⟩
              try simp only [Act.put, List.setIfInBounds_toArray, List.set_cons_zero, List.set_cons_succ]
              refine wpR.fork1 3 (by kernel_rfl) ?_
              · skip
                refine wpO.enter 3 rfl (by rfl) (f := ?_) (args := ?_) ?_ ?_
                rotate_left 2
                · (go_simp; first | done | with_reducible rfl | (refine ⟨?_, ?_⟩ <;> with_reducible rfl))
                refine (HCP.out _ g3.1).mono ?_
                rintro e u4 ⟨a4, c4, rfl, ho4, hb4⟩
                have g4 := g3.copy3 (p := (a4, c4)) ho4 hb4
                refine ⟨_, rfl, fun _ _ => HS0.out _ g4.1, ?_⟩
                try simp only [Act.put, List.setIfInBounds_toArray, List.set_cons_zero, List.set_cons_succ]
                have hL : CS F FL B6 w6 u4 (some (a3, c3)) (some (a4, c4)) (some (w6.heap.size + 1)) (some (w6.heap.size)) := by first | exact g4 | (simp only [size_al] at g4; exact g4)
                generalize u4 = uf at hL ⊢
                clear g1 g2 g3 g4 ho3 hb3 ho4 hb4
                generalize w6.heap.size + 1 = b4 at hL ⊢
                generalize w6.heap.size = b5 at hL ⊢
                have HL := hid hL
                obtain ⟨q1, q2, q3, q4, -, -, -, -⟩ := hL.fin
                refine wpR.skip 6 rfl (by kernel_rfl) (by rfl) (w' := ?_) ?_ ?_ ?_
                rotate_left 1
                · (go_simp; first | done | with_reducible rfl | (refine ⟨?_, ?_⟩ <;> with_reducible rfl))
                · (exact fun h => absurd (by decide) h)
                try simp only [Act.put]
                have HL2 := hid (HL.out.st2 HN.out.2.2.1 n)
                obtain ⟨r1, r2, r3, r4⟩ := HL.out.st1 n (.slice a3 FL c3)
                clear q1 q2 q3 q4 hL
                refine wpR.skip 7 rfl (by kernel_rfl) (by rfl) (w' := ?_) ?_ ?_ ?_
                rotate_left 1
                · (go_simp; first | done | with_reducible rfl | (refine ⟨?_, ?_⟩ <;> with_reducible rfl))
                · (exact fun h => absurd (by decide) h)
                try simp only [Act.put]
                refine wpR.done (by kernel_rfl) ?_
                go_wp2_with fail
                go_meet
                exact ⟨b4, b5, rfl, rfl, HL2⟩
      case rest =>
        obtain ⟨b, b', rfl, rfl, HC⟩ := hcut
        clear HCP HS0 d6 d46
        go_wp2_with fail
        go_loopw [12] (fun s12 wl => ∃ i : Nat, s12 = .int .i64 i ∧ i ≤ DL ∧ Hid (FB2 wl B6 b b' n (F ++ impL F (D.take i)) (F ++ D.take i) ∧ Below B6 w6 wl)) (fun s12 _ => (DL - intOf s12).toNat)
        case atStart => exact ⟨0, rfl, Nat.zero_le _, hid (by rw [List.take_zero, show impL F [] = [] from rfl, List.append_nil]; exact HC.out)⟩
        case round =>
          clear HC
          obtain ⟨i, rfl, hiD, HS⟩ := hrel
          have hi0 : (0 : Int) ≤ i := by omega
          have hwi : IntKind.i64.wrap ((i : Int) + 1) = (i : Int) + 1 := IntWalk.i64_in _ (by omega)
          have st : ∀ (wx : World), Below B6 w6 wx → (∀ j, wx.cell? ⟨w5.heap.size, j, none⟩ = #[.int .i64 n, .slice a2 DL c2][j]?) ∧ ∀ j, wx.cell? ⟨w3.heap.size, j, none⟩ = #[.int .i64 n, .slice a FL c][j]? := fun wx h => by
            rw [← HB6.out] at h
            have y := (h.block w5.heap.size (by have := H6.out.2.1; omega)).trans H6.out.2.2.1
            have z := (h.block w3.heap.size (by have := H6.out.2.1; have := H6.out.2.2.2.2.2.2; omega)).trans H6.out.2.2.2.1
            exact ⟨fun j => cell_of_row wx w5.heap.size j _ _ _ y, fun j => cell_of_row wx w3.heap.size j _ _ _ z⟩
          have HST := hid st
          have d6 := (st wr HS.out.2).1 1
          clear st
          by_cases hlt : i < DL
          · have hlti : (i : Int) < DL := by omega
            obtain ⟨d, hd⟩ : ∃ d, D[i]? = some d := ⟨_, List.getElem?_eq_getElem (by have := HD.out.2.2.2; omega)⟩
            obtain ⟨bd, od, u, ha2, hcd6, hT6⟩ := H6.out.2.2.2.2.1 i d hd
            have HCL := hid (show ∀ (wx : World), Below B6 w6 wx → wx.cell? ⟨bd, od + i, none⟩ = some u from fun wx h => below_keeps (by rw [HB6.out]; exact h) _ _ hcd6)
            have HT := hid (show ∀ (wx : World), Below B6 w6 wx → OwnT 3 wx 0 u d from fun wx h => hT6.below (by rw [HB6.out]; exact h))
            have HLE := hid (show ∀ (wx : World), Below B6 w6 wx → B6 ≤ wx.drew.heap.size from fun wx h => Nat.le_trans (Nat.le_of_eq HB6.out.symm) h.size)
            subst ha2
            obtain ⟨ad, cd, hu, -⟩ := id hT6
            subst hu
            obtain ⟨dl, hdl⟩ : ∃ t, d.length = t := ⟨_, rfl⟩
            rw [hdl] at HCL HT
            have hdD := List.mem_of_getElem? hd
            have HDD := hid (And.intro hd (And.intro hdl hdD))
            clear hd hdl hdD hT6 hcd6
            have hdr : Below wr.heap.size wr wr.drew := (Below.refl wr.heap.size wr).drew
            have hB6l : B6 ≤ wr.drew.heap.size := HLE.out wr HS.out.2
            obtain ⟨GL, hGL⟩ : ∃ t, (F ++ D.take i).length = t := ⟨_, rfl⟩
            obtain ⟨h0, hcap, a12, c12, w12, hc1, hr12, hc2, hf2, hF12, hB12, hB12'⟩ := (HS.out.1.symm.below hdr).push hB6l ((HT.out wr HS.out.2).below hdr) rfl (by simp only [List.length_append, List.length_take]; have := HFO.out.2.2.2.1; have := HD.out.2.2.2; omega)
            rw [hGL] at hc1 hr12 hc2 hF12 hB12
            have hr12 : (appM #[32, 32] 32 #[.slice h0 GL hcap, .slice (some ⟨wr.heap.size, 0, none⟩) 1 1]).run Try.prog (wr.alloc (.cells #[.slice ad dl cd] 22 (0, 0))).drew = .ok (.slice a12 (GL + 1) c12) w12 := hr12
            have HF12 := hid (And.intro hF12.symm (HS.out.2.drew.trans hB12))
            have k1 := HST.out wr.drew HS.out.2.drew
            have k2 := HST.out _ (below_al HS.out.2.drew hB6l (.cells #[.slice ad dl cd] 22 (0, 0)))
            have k3 := HST.out w12 (HS.out.2.drew.trans hB12')
            have hcd1 := HCL.out wr.drew HS.out.2.drew
            have hcd3 := HCL.out w12 (HS.out.2.drew.trans hB12')
            have hc1a := fun o => below_keeps (box_below wr.drew o) _ _ hc1
            have hcda := fun o => below_keeps (box_below wr.drew o) _ _ hcd1
            have s1 : (wr.drew.cell? ⟨b', 1, none⟩ = some (.slice h0 GL hcap) ∧ wr.drew.cell? ⟨w5.heap.size, 1, none⟩ = some (.slice (some ⟨bd, od, none⟩) DL c2) ∧ wr.drew.cell? ⟨bd, od + i, none⟩ = some (.slice ad dl cd)) := ⟨hc1, k1.1 1, hcd1⟩
            have HS2 := hid (show ∀ x, x = wr.drew.alloc (.cells #[.slice ad dl cd] 22 (0, 0)) → (x.cell? ⟨b', 1, none⟩ = some (.slice h0 GL hcap) ∧ x.cell? ⟨w5.heap.size, 1, none⟩ = some (.slice (some ⟨bd, od, none⟩) DL c2) ∧ x.cell? ⟨bd, od + i, none⟩ = some (.slice ad dl cd)) from fun x e => by subst e; exact ⟨hc1a _, k2.1 1, hcda _⟩)
            have HS3 := hid (show (w12.cell? ⟨b', 1, none⟩ = some (.slice h0 GL hcap) ∧ w12.cell? ⟨w5.heap.size, 1, none⟩ = some (.slice (some ⟨bd, od, none⟩) DL c2) ∧ w12.cell? ⟨bd, od + i, none⟩ = some (.slice ad dl cd)) from ⟨hc2, k3.1 1, hcd3⟩)
            clear k1 k2 k3 hcd3 hcda hc1a hF12 hB12 hB12' hGL hdr hB6l hcd1
            go_wp2_with fail
            refine wp_region_R (fun yw => yw.cell? ⟨b', 1, none⟩ = some (.slice h0 GL hcap) ∧ yw.cell? ⟨w5.heap.size, 1, none⟩ = some (.slice (some ⟨bd, od, none⟩) DL c2) ∧ yw.cell? ⟨bd, od + i, none⟩ = some (.slice ad dl cd)) [10] (by kernel_rfl) ?_
            have hHeld := s1
            refine wpR.pure 0 rfl (by kernel_rfl) (fun _ _ _ h => h) (by rfl) (v := ?_) ?_ ?_
            rotate_left 1
            · (intro wx _; go_simp; try with_reducible rfl)
            try simp only [Act.put, List.setIfInBounds_toArray, List.set_cons_zero, List.set_cons_succ]
            refine wpR.take 1 rfl (by kernel_rfl) (fun _ _ _ h => h) (by rfl) (v := ?_) ?_ (by assumption) ?_
            rotate_left 1
            · (intro wx hSw; (try dsimp only at hSw); go_simp; try with_reducible rfl)
            try simp only [Act.put, List.setIfInBounds_toArray, List.set_cons_zero, List.set_cons_succ]
            refine wpR.pure 2 rfl (by kernel_rfl) (fun _ _ _ h => h) (by rfl) (v := ?_) ?_ ?_
            rotate_left 1
            · (intro wx _; go_simp; try with_reducible rfl)
            try simp only [Act.put, List.setIfInBounds_toArray, List.set_cons_zero, List.set_cons_succ]
            refine wpR.take 3 rfl (by kernel_rfl) (fun _ _ _ h => h) (by rfl) (v := ?_) ?_ (by assumption) ?_
            rotate_left 1
            · (intro wx hSw; (try dsimp only at hSw); go_simp; try with_reducible rfl)
            try simp only [Act.put, List.setIfInBounds_toArray, List.set_cons_zero, List.set_cons_succ]
            refine wpR.pure 4 rfl (by kernel_rfl) (fun _ _ _ h => h) (by rfl) (v := ?_) ?_ ?_
            rotate_left 1
            · (intro wx _; go_simp; try with_reducible rfl)
            try simp only [Act.put, List.setIfInBounds_toArray, List.set_cons_zero, List.set_cons_succ]
            refine wpR.take 5 rfl (by kernel_rfl) (fun _ _ _ h => h) (by rfl) (v := ?_) ?_ (by assumption) ?_
            rotate_left 1
            · (intro wx hSw; (try dsimp only at hSw); go_simp; try with_reducible rfl)
            try simp only [Act.put, List.setIfInBounds_toArray, List.set_cons_zero, List.set_cons_succ]
            refine wpR.take 6 rfl (by kernel_rfl) (fun _ _ _ h => h) (by rfl) (v := ?_) ?_ (by assumption) ?_
            rotate_left 1
            · (intro wx hSw; (try dsimp only at hSw); go_simp; try with_reducible rfl)
            try simp only [Act.put, List.setIfInBounds_toArray, List.set_cons_zero, List.set_cons_succ]
            refine wpR.one 7 rfl (by kernel_rfl) (by rfl) (v := ?_) (w' := ?_) ?_ ?_ ?_
            rotate_left 2
            · (go_simp; first | done | with_reducible rfl | (refine ⟨?_, ?_⟩ <;> with_reducible rfl))
            · (intro _; exact HS2.out _ rfl)
            try simp only [Act.put, List.setIfInBounds_toArray, List.set_cons_zero, List.set_cons_succ]
            refine wpR.one 8 rfl (by kernel_rfl) (by rfl) (v := ?_) (w' := ?_) ?_ ?_ ?_
            rotate_left 2
            · (go_simp; first | done | with_reducible rfl | (refine ⟨?_, ?_⟩ <;> with_reducible rfl))
            · (intro _; exact HS3.out)
            try simp only [Act.put, List.setIfInBounds_toArray, List.set_cons_zero, List.set_cons_succ]
            refine wpR.pure 9 rfl (by kernel_rfl) (fun _ _ _ h => h) (by rfl) (v := ?_) ?_ ?_
            rotate_left 1
            · (intro wx _; go_simp; try with_reducible rfl)
            try simp only [Act.put, List.setIfInBounds_toArray, List.set_cons_zero, List.set_cons_succ]
            refine wpR.skip 10 rfl (by kernel_rfl) (by rfl) (w' := ?_) ?_ ?_ ?_
            rotate_left 1
            · (go_simp; first | done | with_reducible rfl | (refine ⟨?_, ?_⟩ <;> with_reducible rfl))
            · (exact fun h => absurd (by decide) h)
            try simp only [Act.put]
            refine wpR.done (by kernel_rfl) ?_
            clear hHeld s1 hc1 hr12 hc2
            generalize w12.setCell ⟨b', 1, none⟩ (.slice a12 (GL + 1) c12) = w13 at HF12 ⊢
            clear hf2
            clear HS2 HS3
            have HF13 := hid HF12.out
            clear HF12 HS
            have HS13 := hid (show ∀ (wx : World), Below B6 w6 wx → ((wx.cell? ⟨w3.heap.size, 0, none⟩ = some (.int .i64 n) ∧ wx.cell? ⟨w3.heap.size, 1, none⟩ = some (.slice a FL c)) ∧ wx.cell? ⟨w5.heap.size, 1, none⟩ = some (.slice (some ⟨bd, od, none⟩) DL c2) ∧ wx.cell? ⟨bd, od + i, none⟩ = some (.slice ad dl cd)) from fun wx h => ⟨⟨(HST.out wx h).2 0, (HST.out wx h).2 1⟩, (HST.out wx h).1 1, HCL.out wx h⟩)
            obtain ⟨r, hr⟩ : ∃ r, upF F (negs d) = r := ⟨_, rfl⟩
            have HR := hid hr
            clear hr
            have HIM : Hid (Calls Try.prog 31 #[.agg #[.int .i64 n, .slice a FL c], .slice ad dl cd] w13.drew fun e w' => e = .returned (.tuple #[.bool r, .int .i64 0]) ∧ Below w13.drew.heap.size w13.drew w') := hid (by
              obtain ⟨_, _, e, _, _, hs⟩ := (HT.out w13.drew HF13.out.2.drew).sli
              injection e with e
              subst e
              have h := rup_ImpliedS n a F FL c ad d dl cd w13.drew HN.out.2.2.1.symm HDD.out.2.1.symm HFO.out.1 (H6.out.2.2.2.2.2.1.rws.below (by rw [HB6.out]; exact HF13.out.2.drew)) (HD.out.1 d HDD.out.2.2).1 hs (by have := HFO.out.2.2.2.1; omega) (by have := HD.out.2.2.1 d HDD.out.2.2; omega)
              unfold impliedRS at h
              rw [impV_okS HFO.out.2.1 (chkI_of (n := n) (by have := HFO.out.2.2.1; omega) (HD.out.2.1 d HDD.out.2.2) (by have := HD.out.2.2.1 d HDD.out.2.2; omega)), HR.out] at h
              exact h)
            go_wp2_with fail
            refine wp_region_R (fun wx => (wx.cell? ⟨w3.heap.size, 0, none⟩ = some (.int .i64 n) ∧ wx.cell? ⟨w3.heap.size, 1, none⟩ = some (.slice a FL c)) ∧ wx.cell? ⟨w5.heap.size, 1, none⟩ = some (.slice (some ⟨bd, od, none⟩) DL c2) ∧ wx.cell? ⟨bd, od + i, none⟩ = some (.slice ad dl cd)) [] (by kernel_rfl) ?_
            have hHeld := HS13.out w13.drew HF13.out.2.drew
            refine wpR.take 0 rfl (by kernel_rfl) (fun _ _ _ h => h) (by rfl) (v := ?_) ?_ (by assumption) ?_
            rotate_left 1
            · (intro wx hSw; (try dsimp only at hSw); go_simp; try with_reducible rfl)
            try simp only [Act.put, List.setIfInBounds_toArray, List.set_cons_zero, List.set_cons_succ]
            refine wpR.pure 1 rfl (by kernel_rfl) (fun _ _ _ h => h) (by rfl) (v := ?_) ?_ ?_
            rotate_left 1
            · (intro wx _; go_simp; try with_reducible rfl)
            try simp only [Act.put, List.setIfInBounds_toArray, List.set_cons_zero, List.set_cons_succ]
            refine wpR.take 2 rfl (by kernel_rfl) (fun _ _ _ h => h) (by rfl) (v := ?_) ?_ (by assumption) ?_
            rotate_left 1
            · (intro wx hSw; (try dsimp only at hSw); go_simp; try with_reducible rfl)
            try simp only [Act.put, List.setIfInBounds_toArray, List.set_cons_zero, List.set_cons_succ]
            refine wpR.pure 3 rfl (by kernel_rfl) (fun _ _ _ h => h) (by rfl) (v := ?_) ?_ ?_
            rotate_left 1
            · (intro wx _; go_simp; try with_reducible rfl)
            try simp only [Act.put, List.setIfInBounds_toArray, List.set_cons_zero, List.set_cons_succ]
            refine wpR.take 4 rfl (by kernel_rfl) (fun _ _ _ h => h) (by rfl) (v := ?_) ?_ (by assumption) ?_
            rotate_left 1
            · (intro wx hSw; (try dsimp only at hSw); go_simp; try with_reducible rfl)
            try simp only [Act.put, List.setIfInBounds_toArray, List.set_cons_zero, List.set_cons_succ]
            refine wpR.take 5 rfl (by kernel_rfl) (fun _ _ _ h => h) (by rfl) (v := ?_) ?_ (by assumption) ?_
            rotate_left 1
            · (intro wx hSw; (try dsimp only at hSw); go_simp; try with_reducible rfl)
            try simp only [Act.put, List.setIfInBounds_toArray, List.set_cons_zero, List.set_cons_succ]
            refine wpR.enter 6 rfl (by kernel_rfl) (by rfl) (f := ?_) (args := ?_) ?_ ?_
            rotate_left 2
            · (go_simp; first | done | with_reducible rfl | (refine ⟨?_, ?_⟩ <;> with_reducible rfl))
            refine HIM.out.mono ?_
            rintro e w14 ⟨rfl, hb14⟩
            have hb14' : Below B6 w6 w14 := HF13.out.2.drew.trans (hb14.mono (HLE.out w13 HF13.out.2))
            refine ⟨_, rfl, fun _ => HS13.out w14 hb14', ?_⟩
            try simp only [Act.put, List.setIfInBounds_toArray, List.set_cons_zero, List.set_cons_succ]
            have HF14 := hid (And.intro (HF13.out.1.below ((Below.refl w13.heap.size w13).drew.trans hb14)) hb14')
            clear hb14 hb14' hHeld HIM HF13
            refine wpR.pure 7 rfl (by kernel_rfl) (fun _ _ _ h => h) (by rfl) (v := ?_) ?_ ?_
            rotate_left 1
            · (intro wx _; go_simp; try with_reducible rfl)
            try simp only [Act.put, List.setIfInBounds_toArray, List.set_cons_zero, List.set_cons_succ]
            refine wpR.pure 8 rfl (by kernel_rfl) (fun _ _ _ h => h) (by rfl) (v := ?_) ?_ ?_
            rotate_left 1
            · (intro wx _; go_simp; try with_reducible rfl)
            try simp only [Act.put, List.setIfInBounds_toArray, List.set_cons_zero, List.set_cons_succ]
            refine wpR.pure 9 rfl (by kernel_rfl) (fun _ _ _ h => h) (by rfl) (v := ?_) ?_ ?_
            rotate_left 1
            · (intro wx _; go_simp; try with_reducible rfl)
            try simp only [Act.put, List.setIfInBounds_toArray, List.set_cons_zero, List.set_cons_succ]
            refine wpR.pure 10 rfl (by kernel_rfl) (fun _ _ _ h => h) (by rfl) (v := ?_) ?_ ?_
            rotate_left 1
            · (intro wx _; go_simp; try with_reducible rfl)
            try simp only [Act.put, List.setIfInBounds_toArray, List.set_cons_zero, List.set_cons_succ]
            refine wpR.pure 11 rfl (by kernel_rfl) (fun _ _ _ h => h) (by rfl) (v := ?_) ?_ ?_
            rotate_left 1
            · (intro wx _; go_simp; try with_reducible rfl)
            try simp only [Act.put, List.setIfInBounds_toArray, List.set_cons_zero, List.set_cons_succ]
            refine wpR.done (by kernel_rfl) ?_
            have htk : D.take (i + 1) = D.take i ++ [d] := by rw [List.take_add_one, HDD.out.1]; rfl
            have HTK := hid htk
            clear htk
            cases r with
            | true =>
              have hdr : Below w14.heap.size w14 w14.drew := (Below.refl w14.heap.size w14).drew
              have hB6l : B6 ≤ w14.drew.heap.size := HLE.out w14 HF14.out.2
              obtain ⟨GL, hGL⟩ : ∃ t, (F ++ impL F (D.take i)).length = t := ⟨_, rfl⟩
              obtain ⟨h0, hcap, a12, c12, w12, hc1, hr12, hc2, hf2, hF12, hB12, hB12'⟩ := (HF14.out.1.below hdr).push hB6l ((HT.out w14 HF14.out.2).below hdr) rfl (by simp only [List.length_append]; have := impL_len (F := F) (D := D.take i); simp only [List.length_take] at this; have := HFO.out.2.2.2.1; have := HD.out.2.2.2; omega)
              rw [hGL] at hc1 hr12 hc2 hF12 hB12
              have hr12 : (appM #[32, 32] 32 #[.slice h0 GL hcap, .slice (some ⟨w14.heap.size, 0, none⟩) 1 1]).run Try.prog (w14.alloc (.cells #[.slice ad dl cd] 22 (0, 0))).drew = .ok (.slice a12 (GL + 1) c12) w12 := hr12
              have HF12 := hid (And.intro hF12 (HF14.out.2.drew.trans hB12))
              have k1 := HST.out w14.drew HF14.out.2.drew
              have k2 := HST.out _ (below_al HF14.out.2.drew hB6l (.cells #[.slice ad dl cd] 22 (0, 0)))
              have k3 := HST.out w12 (HF14.out.2.drew.trans hB12')
              have hcd1 := HCL.out w14.drew HF14.out.2.drew
              have hcd3 := HCL.out w12 (HF14.out.2.drew.trans hB12')
              have hc1a := fun o => below_keeps (box_below w14.drew o) _ _ hc1
              have hcda := fun o => below_keeps (box_below w14.drew o) _ _ hcd1
              have s1 : (w14.drew.cell? ⟨b, 1, none⟩ = some (.slice h0 GL hcap) ∧ w14.drew.cell? ⟨w5.heap.size, 1, none⟩ = some (.slice (some ⟨bd, od, none⟩) DL c2) ∧ w14.drew.cell? ⟨bd, od + i, none⟩ = some (.slice ad dl cd)) := ⟨hc1, k1.1 1, hcd1⟩
              have HS2 := hid (show ∀ x, x = w14.drew.alloc (.cells #[.slice ad dl cd] 22 (0, 0)) → (x.cell? ⟨b, 1, none⟩ = some (.slice h0 GL hcap) ∧ x.cell? ⟨w5.heap.size, 1, none⟩ = some (.slice (some ⟨bd, od, none⟩) DL c2) ∧ x.cell? ⟨bd, od + i, none⟩ = some (.slice ad dl cd)) from fun x e => by subst e; exact ⟨hc1a _, k2.1 1, hcda _⟩)
              have HS3 := hid (show (w12.cell? ⟨b, 1, none⟩ = some (.slice h0 GL hcap) ∧ w12.cell? ⟨w5.heap.size, 1, none⟩ = some (.slice (some ⟨bd, od, none⟩) DL c2) ∧ w12.cell? ⟨bd, od + i, none⟩ = some (.slice ad dl cd)) from ⟨hc2, k3.1 1, hcd3⟩)
              clear k1 k2 k3 hcd3 hcda hc1a hF12 hB12 hB12' hGL hdr hB6l hcd1
              go_wp2_with fail
              refine wp_region_R (fun yw => yw.cell? ⟨b, 1, none⟩ = some (.slice h0 GL hcap) ∧ yw.cell? ⟨w5.heap.size, 1, none⟩ = some (.slice (some ⟨bd, od, none⟩) DL c2) ∧ yw.cell? ⟨bd, od + i, none⟩ = some (.slice ad dl cd)) [10] (by kernel_rfl) ?_
              have hHeld := s1
              refine wpR.pure 0 rfl (by kernel_rfl) (fun _ _ _ h => h) (by rfl) (v := ?_) ?_ ?_
              rotate_left 1
              · (intro wx _; go_simp; try with_reducible rfl)
              try simp only [Act.put, List.setIfInBounds_toArray, List.set_cons_zero, List.set_cons_succ]
              refine wpR.take 1 rfl (by kernel_rfl) (fun _ _ _ h => h) (by rfl) (v := ?_) ?_ (by assumption) ?_
              rotate_left 1
              · (intro wx hSw; (try dsimp only at hSw); go_simp; try with_reducible rfl)
              try simp only [Act.put, List.setIfInBounds_toArray, List.set_cons_zero, List.set_cons_succ]
              refine wpR.pure 2 rfl (by kernel_rfl) (fun _ _ _ h => h) (by rfl) (v := ?_) ?_ ?_
              rotate_left 1
              · (intro wx _; go_simp; try with_reducible rfl)
              try simp only [Act.put, List.setIfInBounds_toArray, List.set_cons_zero, List.set_cons_succ]
              refine wpR.take 3 rfl (by kernel_rfl) (fun _ _ _ h => h) (by rfl) (v := ?_) ?_ (by assumption) ?_
              rotate_left 1
              · (intro wx hSw; (try dsimp only at hSw); go_simp; try with_reducible rfl)
              try simp only [Act.put, List.setIfInBounds_toArray, List.set_cons_zero, List.set_cons_succ]
              refine wpR.pure 4 rfl (by kernel_rfl) (fun _ _ _ h => h) (by rfl) (v := ?_) ?_ ?_
              rotate_left 1
              · (intro wx _; go_simp; try with_reducible rfl)
              try simp only [Act.put, List.setIfInBounds_toArray, List.set_cons_zero, List.set_cons_succ]
              refine wpR.take 5 rfl (by kernel_rfl) (fun _ _ _ h => h) (by rfl) (v := ?_) ?_ (by assumption) ?_
              rotate_left 1
              · (intro wx hSw; (try dsimp only at hSw); go_simp; try with_reducible rfl)
              try simp only [Act.put, List.setIfInBounds_toArray, List.set_cons_zero, List.set_cons_succ]
              refine wpR.take 6 rfl (by kernel_rfl) (fun _ _ _ h => h) (by rfl) (v := ?_) ?_ (by assumption) ?_
              rotate_left 1
              · (intro wx hSw; (try dsimp only at hSw); go_simp; try with_reducible rfl)
              try simp only [Act.put, List.setIfInBounds_toArray, List.set_cons_zero, List.set_cons_succ]
              refine wpR.one 7 rfl (by kernel_rfl) (by rfl) (v := ?_) (w' := ?_) ?_ ?_ ?_
              rotate_left 2
              · (go_simp; first | done | with_reducible rfl | (refine ⟨?_, ?_⟩ <;> with_reducible rfl))
              · (intro _; exact HS2.out _ rfl)
              try simp only [Act.put, List.setIfInBounds_toArray, List.set_cons_zero, List.set_cons_succ]
              refine wpR.one 8 rfl (by kernel_rfl) (by rfl) (v := ?_) (w' := ?_) ?_ ?_ ?_
              rotate_left 2
              · (go_simp; first | done | with_reducible rfl | (refine ⟨?_, ?_⟩ <;> with_reducible rfl))
              · (intro _; exact HS3.out)
              try simp only [Act.put, List.setIfInBounds_toArray, List.set_cons_zero, List.set_cons_succ]
              refine wpR.pure 9 rfl (by kernel_rfl) (fun _ _ _ h => h) (by rfl) (v := ?_) ?_ ?_
              rotate_left 1
              · (intro wx _; go_simp; try with_reducible rfl)
              try simp only [Act.put, List.setIfInBounds_toArray, List.set_cons_zero, List.set_cons_succ]
              refine wpR.skip 10 rfl (by kernel_rfl) (by rfl) (w' := ?_) ?_ ?_ ?_
              rotate_left 1
              · (go_simp; first | done | with_reducible rfl | (refine ⟨?_, ?_⟩ <;> with_reducible rfl))
              · (exact fun h => absurd (by decide) h)
              try simp only [Act.put]
              refine wpR.done (by kernel_rfl) ?_
              clear hHeld s1 hc1 hr12 hc2
              generalize w12.setCell ⟨b, 1, none⟩ (.slice a12 (GL + 1) c12) = w16 at HF12 ⊢
              clear hf2
              clear HS2 HS3
              go_wp2_with fail
              go_roundw
              case rel => exact ⟨i + 1, by simp, by omega, hid ⟨by rw [impL_next HDD.out.1 HR.out, if_pos rfl, HTK.out, ← List.append_assoc, ← List.append_assoc]; exact HF12.out.1, HF12.out.2⟩⟩
              case measure => simp [intOf]; omega
            | false =>
              go_wp2_with fail
              go_roundw
              case rel => exact ⟨i + 1, by simp, by omega, hid ⟨by rw [impL_next HDD.out.1 HR.out, if_neg Bool.false_ne_true, HTK.out, List.append_nil, ← List.append_assoc]; exact HF14.out.1, HF14.out.2⟩⟩
              case measure => simp [intOf]; omega
          · have hie : i = DL := by omega
            subst hie
            have hDt : D.take i = D := List.take_of_length_le (by have := HD.out.2.2.2; omega)
            have hS2 := HS.out.1
            rw [hDt] at hS2
            obtain ⟨ag, cg, zg, hrg⟩ := hS2.fst.rows
            obtain ⟨ah, ch, zh, hrh⟩ := hS2.symm.fst.rows
            have hcls : ClsOk n F := (cnf_valid HFO.out.2.1).2.2.2.2
            have hDok := HD.out.2.1
            have hiff := imp_iff (F := F) hDok
            have hHG : HasM n (F ++ D) → HasM n F := fun h => h.mono fun c hc => List.mem_append_left _ hc
            have hGo := ok3 (n := n) (G := F ++ impL F D) HFO.out.2.2.1.2 (fun c hc => by rcases List.mem_append.1 hc with q | q; exact hcls c q; exact hDok c (impL_mem q)) (fun c hc => by rcases List.mem_append.1 hc with q | q; exact HFO.out.2.2.2.2 c q; exact HD.out.2.2.1 c (impL_mem q)) (by rw [List.length_append]; have := impL_len (F := F) (D := D); have := HFO.out.2.2.2.1; have := HD.out.2.2.2; omega)
            have hHo := ok3 (n := n) (G := F ++ D) HFO.out.2.2.1.2 (fun c hc => by rcases List.mem_append.1 hc with q | q; exact hcls c q; exact hDok c q) (fun c hc => by rcases List.mem_append.1 hc with q | q; exact HFO.out.2.2.2.2 c q; exact HD.out.2.2.1 c q) (by rw [List.length_append]; have := HFO.out.2.2.2.1; have := HD.out.2.2.2; omega)
            obtain ⟨G, hG⟩ : ∃ t, F ++ impL F D = t := ⟨_, rfl⟩
            obtain ⟨H, hH⟩ : ∃ t, F ++ D = t := ⟨_, rfl⟩
            rw [hG] at hiff hGo zg hrg
            rw [hH] at hHG hHo zh hrh
            obtain ⟨gl, hgl⟩ : ∃ t, G.length = t := ⟨_, rfl⟩
            obtain ⟨hl, hhl⟩ : ∃ t, H.length = t := ⟨_, rfl⟩
            rw [hgl] at zg
            rw [hhl] at zh
            have hAC : ∃ A C : Int, ansV n F = A ∧ ansV n G = A ∧ ansV n H = C ∧ ((A = 1 ∧ C = 1) ∨ (A = 1 ∧ C = 2) ∨ (A = 2 ∧ C = 2)) := by
              by_cases q : HasM n F
              · by_cases q2 : HasM n H
                · exact ⟨1, 1, ansV_sat q, ansV_sat (hiff.1 q), ansV_sat q2, .inl ⟨rfl, rfl⟩⟩
                · exact ⟨1, 2, ansV_sat q, ansV_sat (hiff.1 q), ansV_un q2, .inr (.inl ⟨rfl, rfl⟩)⟩
              · exact ⟨2, 2, ansV_un q, ansV_un fun e => q (hiff.2 e), ansV_un fun e => q (hHG e), .inr (.inr ⟨rfl, rfl⟩)⟩
            obtain ⟨A, C, hA1, hA2, hA3, hAC⟩ := hAC
            have HAN := hid (And.intro hA1 (And.intro hA2 (And.intro hA3 hAC)))
            have HGH := hid (And.intro hGo (And.intro hHo (And.intro hgl hhl)))
            have HRG := hid (And.intro hrg hrh)
            have hn25 : n ≤ 25 := by have := HFO.out.2.2.1; omega
            have HN25 := hid hn25
            have s0 : ∀ (wx : World), Below wr.heap.size wr wx → (wx.cell? ⟨w3.heap.size, 0, none⟩ = some (.int .i64 n) ∧ wx.cell? ⟨w3.heap.size, 1, none⟩ = some (.slice a FL c)) ∧ (wx.cell? ⟨b, 0, none⟩ = some (.int .i64 n) ∧ wx.cell? ⟨b, 1, none⟩ = some (.slice ag gl cg)) ∧ wx.cell? ⟨b', 0, none⟩ = some (.int .i64 n) ∧ wx.cell? ⟨b', 1, none⟩ = some (.slice ah hl ch) := fun wx h => by
              have hw := HST.out wx (HS.out.2.trans (h.mono (Nat.le_trans (Nat.le_of_eq HB6.out.symm) HS.out.2.size)))
              have y := (h.block b (Array.getElem?_eq_some_iff.1 zg).1).trans zg
              have z := (h.block b' (Array.getElem?_eq_some_iff.1 zh).1).trans zh
              exact ⟨⟨hw.2 0, hw.2 1⟩, ⟨fit_cell (vs := [.int .i64 n, .slice ag gl cg]) y 0, fit_cell (vs := [.int .i64 n, .slice ag gl cg]) y 1⟩, fit_cell (vs := [.int .i64 n, .slice ah hl ch]) z 0, fit_cell (vs := [.int .i64 n, .slice ah hl ch]) z 1⟩
            have HS0 := hid s0
            clear s0 hDt hS2 zg hrg zh hrh hcls hDok hiff hHG hGo hHo hG hH hgl hhl hA1 hA2 hA3 hAC hn25
            go_wp2_with fail
            refine wp_region_R (fun wx => (wx.cell? ⟨w3.heap.size, 0, none⟩ = some (.int .i64 n) ∧ wx.cell? ⟨w3.heap.size, 1, none⟩ = some (.slice a FL c)) ∧ (wx.cell? ⟨b, 0, none⟩ = some (.int .i64 n) ∧ wx.cell? ⟨b, 1, none⟩ = some (.slice ag gl cg)) ∧ wx.cell? ⟨b', 0, none⟩ = some (.int .i64 n) ∧ wx.cell? ⟨b', 1, none⟩ = some (.slice ah hl ch)) [] (by kernel_rfl) ?_
            have hHeld := HS0.out wr.drew (Below.refl _ _).drew
            refine wpR.take 0 rfl (by kernel_rfl) (fun _ _ _ h => h) (by rfl) (v := ?_) ?_ (by assumption) ?_
            rotate_left 1
            · (intro wx hSw; (try dsimp only at hSw); go_simp; try with_reducible rfl)
            try simp only [Act.put, List.setIfInBounds_toArray, List.set_cons_zero, List.set_cons_succ]
            refine wpR.take 2 rfl (by kernel_rfl) (fun _ _ _ h => h) (by rfl) (v := ?_) ?_ (by assumption) ?_
            rotate_left 1
            · (intro wx hSw; (try dsimp only at hSw); go_simp; try with_reducible rfl)
            try simp only [Act.put, List.setIfInBounds_toArray, List.set_cons_zero, List.set_cons_succ]
            refine wpR.take 4 rfl (by kernel_rfl) (fun _ _ _ h => h) (by rfl) (v := ?_) ?_ (by assumption) ?_
            rotate_left 1
            · (intro wx hSw; (try dsimp only at hSw); go_simp; try with_reducible rfl)
            try simp only [Act.put, List.setIfInBounds_toArray, List.set_cons_zero, List.set_cons_succ]
            refine wpR.enter 1 rfl (by kernel_rfl) (by rfl) (f := ?_) (args := ?_) ?_ ?_
            rotate_left 2
            · (go_simp; first | done | with_reducible rfl | (refine ⟨?_, ?_⟩ <;> with_reducible rfl))
            refine (law07_answer n a F FL c A wr.drew HAN.out.1 HN.out.2.2.1.symm HFO.out.1 (H6.out.2.2.2.2.2.1.rws.below (by rw [HB6.out]; exact HS.out.2.drew)) HFO.out.2.1 HN25.out).mono ?_
            rintro e wA ⟨rfl, hbA⟩
            have hbA' : Below wr.heap.size wr wA := (Below.refl wr.heap.size wr).drew.trans hbA
            refine ⟨_, rfl, fun _ => HS0.out _ hbA', ?_⟩
            try simp only [Act.put, List.setIfInBounds_toArray, List.set_cons_zero, List.set_cons_succ]
            refine wpR.enter 3 rfl (by kernel_rfl) (by rfl) (f := ?_) (args := ?_) ?_ ?_
            rotate_left 2
            · (go_simp; first | done | with_reducible rfl | (refine ⟨?_, ?_⟩ <;> with_reducible rfl))
            refine (law07_answer n ag G gl cg A wA HAN.out.2.1 HGH.out.2.2.1.symm HGH.out.1.1 (HRG.out.1.below hbA') HGH.out.1.2 HN25.out).mono ?_
            rintro e wB ⟨rfl, hbB⟩
            have hbB' : Below wr.heap.size wr wB := hbA'.trans (hbB.mono hbA'.size)
            refine ⟨_, rfl, fun _ => HS0.out _ hbB', ?_⟩
            try simp only [Act.put, List.setIfInBounds_toArray, List.set_cons_zero, List.set_cons_succ]
            refine wpR.enter 5 rfl (by kernel_rfl) (by rfl) (f := ?_) (args := ?_) ?_ ?_
            rotate_left 2
            · (go_simp; first | done | with_reducible rfl | (refine ⟨?_, ?_⟩ <;> with_reducible rfl))
            refine (law07_answer n ah H hl ch C wB HAN.out.2.2.1 HGH.out.2.2.2.symm HGH.out.2.1.1 (HRG.out.2.below hbB') HGH.out.2.1.2 HN25.out).mono ?_
            rintro e wC ⟨rfl, hbC⟩
            have hbC' : Below wr.heap.size wr wC := hbB'.trans (hbC.mono hbB'.size)
            refine ⟨_, rfl, fun _ => HS0.out _ hbC', ?_⟩
            try simp only [Act.put, List.setIfInBounds_toArray, List.set_cons_zero, List.set_cons_succ]
            have HBC := hid hbC'
            have HB := hid (H6.out.1.trans ((by rw [HB6.out]; exact HS.out.2 : Below w6.heap.size w6 wr).mono H6.out.1.size))
            clear hbA hbA' hbB hbB' hbC hbC' hHeld
            refine wpR.pure 6 rfl (by kernel_rfl) (fun _ _ _ h => h) (by rfl) (v := ?_) ?_ ?_
            rotate_left 1
            · (intro wx _; go_simp; try with_reducible rfl)
            try simp only [Act.put, List.setIfInBounds_toArray, List.set_cons_zero, List.set_cons_succ]
            refine wpR.pure 7 rfl (by kernel_rfl) (fun _ _ _ h => h) (by rfl) (v := ?_) ?_ ?_
            rotate_left 1
            · (intro wx _; go_simp; try with_reducible rfl)
            try simp only [Act.put, List.setIfInBounds_toArray, List.set_cons_zero, List.set_cons_succ]
            refine wpR.pure 8 rfl (by kernel_rfl) (fun _ _ _ h => h) (by rfl) (v := ?_) ?_ ?_
            rotate_left 1
            · (intro wx _; go_simp; try with_reducible rfl)
            try simp only [Act.put, List.setIfInBounds_toArray, List.set_cons_zero, List.set_cons_succ]
            refine wpR.done (by kernel_rfl) ?_
            have hfin := HAN.out.2.2.2
            clear HAN
            rcases hfin with ⟨rfl, rfl⟩ | ⟨rfl, rfl⟩ | ⟨rfl, rfl⟩ <;> (
              go_wp2_with (go_at_call 30; refine (law07_known _).mono ?_; rintro e w' ⟨rfl, hb⟩)
              go_ret
              have hz := HB.out.size
              exact ⟨rfl, HB.out.trans ((HBC.out.mono hz).trans (hb.mono (Nat.le_trans hz HBC.out.size)))⟩)

end Go.Proofs.Ytfofabbnbmieoaa.Ord
