/- The walk of SolveBudgets. -/
import Derived.Test.YtfofabbnbmieoaaQ20

namespace Go.Proofs.Ytfofabbnbmieoaa.Ord
open Go.RowKit

set_option maxRecDepth 100000 in
set_option maxHeartbeats 4000000 in
theorem walk_SolveBudgets (x0 : Int) (v1 : Value) (x1 : List (List Int)) (x2 : Int) (w : World) (w0 : (Lit.int .u8 x0).wf = true) (w1 : ArgR .i8 w v1 x1) (w2 : (Lit.int .u8 x2).wf = true) :
    Calls Try.prog 8 #[.int .u8 x0, v1, .int .u8 x2] w fun e w' => e = .returned (.bool true) ∧ Below w.heap.size w w' := by
  have hb0 := bounds_u8 w0
  have hb2 := bounds_u8 w2
  have HA := hid w1
  clear w0 w1 w2
  cases hfit : fitB x1 with
  | false =>
    have HFI := hid hfit
    clear hfit
    go_enter Try.func8, Try.ntmps8
    go_wp2_with fail
    refine (law02_FitF x0 v1 x1 w HFI.out hb0.1 hb0.2 HA.out).mono ?_
    rintro e w3 ⟨rfl, hb3⟩
    have HB3 := hid hb3
    clear hb3
    go_wp2_with (go_at_call 30; refine (law07_known _).mono ?_; rintro e w' ⟨rfl, hb⟩)
    go_ret
    exact ⟨rfl, (below_al HB3.out HB3.out.size _).trans (hb.mono (by have := HB3.out.size; simp only [size_al]; omega))⟩
  | true =>
    have hV := fitV_range x0
    obtain ⟨n, hn⟩ : ∃ n : Nat, fitV x0 = (n : Int) := ⟨(fitV x0).toNat, by omega⟩
    have hn1 : 1 ≤ n ∧ n ≤ 12 := by omega
    obtain ⟨F, hF⟩ : ∃ F, fitF x0 x1 = F := ⟨_, rfl⟩
    have hchk : cnfCheck n F = 0 := by rw [← hF, ← hn]; exact cnfCheck_fit hfit
    have HFO := hid (And.intro (show FOk F from hF ▸ fok_fit hfit) (And.intro hchk hn1))
    have HN := hid hn
    have HF := hid hF
    have HFI := hid hfit
    obtain ⟨hb, hhb⟩ : ∃ b, hasAB n F [] = b := ⟨_, rfl⟩
    have hAb : ansV n F = if hb then 1 else 2 := by rw [has_ans, hhb]
    have HV := hid hhb
    have HAB := hid hAb
    obtain ⟨B, hB⟩ : ∃ B, x2.tmod 41 = B := ⟨_, rfl⟩
    have hB0 : 0 ≤ B ∧ B ≤ 40 := by
      rw [← hB, Int.tmod_eq_emod_of_nonneg hb2.1]
      omega
    have hBw : IntKind.i64.wrap B = B := IntWalk.i64_in _ (by omega)
    have hx2w : IntKind.i64.wrap x2 = x2 := IntWalk.i64_in _ (by omega)
    clear hfit hF hn hV hchk hn1 hhb hAb
    go_enter Try.func8, Try.ntmps8
    go_wp2_with fail
    refine (law02_FitG x0 v1 x1 w HFI.out hb0.1 hb0.2 HA.out).mono ?_
    rw [HN.out, HF.out]
    rintro e w3 ⟨a, c, rfl, hfc, hr3, hb3⟩
    obtain ⟨FL, hFL⟩ : ∃ t, F.length = t := ⟨_, rfl⟩
    rw [hFL] at hfc ⊢
    obtain ⟨w4, hw4⟩ : ∃ t, w3.alloc (.cells #[.int .i64 n, .slice a FL c] 34 (0, 0)) = t := ⟨_, rfl⟩
    obtain ⟨hb4, hs4, z4⟩ := box1 w3 _ hw4
    have d4 := fun i => cell_of_row w4 w3.heap.size i _ _ _ z4
    have HS := hid (solve_SolveN n a F FL c B w4 hFL.symm HFO.out.1 (hr3.below hb4) HFO.out.2.1 (by have := HFO.out.2.2; omega) hB0.1 (by omega))
    have H4 := hid (And.intro (hb3.trans (hb4.mono hb3.size)) (And.intro hs4 (And.intro z4 (And.intro (hr3.below hb4) hFL))))
    have HZ3 := hid hb3.size
    clear hb3 hr3 hb4 hs4 z4 hFL hfc
    go_wp2_with fail
    refine HS.out.mono ?_
    rintro e w5 ⟨A, M, P, am, ap, ml, pl, cm, cp, rfl, hml, hpl, hok, hans, hM, hP, hb5⟩
    obtain ⟨w6, hw6⟩ : ∃ t, w5.alloc (.cells #[.int .u8 A, .slice am ml cm, .slice ap pl cp] 51 (0, 0)) = t := ⟨_, rfl⟩
    obtain ⟨hb6, hs6, z6⟩ := box1 w5 _ hw6
    have hb46 := hb5.trans (hb6.mono hb5.size)
    have y4 := (hb46.block w3.heap.size (by have := H4.out.2.1; omega)).trans H4.out.2.2.1
    have d6 := fun i => cell_of_row w6 w3.heap.size i _ _ _ y4
    have HH := hid fun w7 (hb7 : Below w6.heap.size w6 w7) => ref_Has0 n a F FL c hb w7 HV.out H4.out.2.2.2.2.symm HFO.out.1 ((H4.out.2.2.2.1.below hb46).below hb7) HFO.out.2.1
    have HR := hid (law07_right n a F FL c A M P am ap ml pl cm cp w6 H4.out.2.2.2.2.symm hml hpl HFO.out.1 (H4.out.2.2.2.1.below hb46) HFO.out.2.1 (by have := HFO.out.2.2; omega) hok (hM.below hb6) (hP.below hb6))
    have H6 := hid (And.intro (H4.out.1.trans (hb46.mono (by have := H4.out.1.size; omega))) (And.intro y4 (And.intro z6 (And.intro hs6 (show w3.heap.size < w6.heap.size by have := hb46.size; have := H4.out.2.1; omega)))))
    have k6 := fun i => cell_of_row w6 w5.heap.size i _ _ _ z6
    have HOK := hid (And.intro hok hans)
    have HA012 : Hid ((A = 1 ∧ hb = true) ∨ (A = 2 ∧ hb = false) ∨ (A = 0 ∧ B ≠ 0)) := hid (by
      by_cases h0 : A = 0
      · exact .inr (.inr ⟨h0, fun e => hans (.inl e) h0⟩)
      · have h1 := hok.ans h0
        rw [HAB.out] at h1
        cases hb
        · exact .inr (.inl ⟨h1, rfl⟩)
        · exact .inl ⟨h1, rfl⟩)
    clear hml hpl hok hans hM hP hb5 hb6 hs6 z6 hb46 y4 d4 HS HOK
    rcases HA012.out with ⟨rfl, rfl⟩ | ⟨rfl, rfl⟩ | ⟨rfl, hBz⟩
    · by_cases hBz : B = 0
      · have hBz2 : (B == 0) = true := beq_iff_eq.2 hBz
        clear hBz
        go_wp2_with fail
        refine HR.out.mono ?_
        rintro e w7 ⟨rfl, hb7⟩
        have y7 := (hb7.block w3.heap.size H6.out.2.2.2.2).trans H6.out.2.1
        have z7 := (hb7.block w5.heap.size (by have := H6.out.2.2.2.1; omega)).trans H6.out.2.2.1
        have d7 := fun i => cell_of_row w7 w3.heap.size i _ _ _ y7
        have k7 := fun i => cell_of_row w7 w5.heap.size i _ _ _ z7
        have HH7 := hid (HH.out w7 hb7)
        have HB7 := hid (And.intro (H6.out.1.trans (hb7.mono H6.out.1.size)) (And.intro z7 (show w5.heap.size < w7.heap.size by have := hb7.size; have := H6.out.2.2.2.1; omega)))
        clear hb7 y7 z7 d6 k6 HH HR
        go_wp2_with fail
        refine HH7.out.mono ?_
        rintro e w8 ⟨rfl, hb8⟩
        have k8 := fun i => cell_of_row w8 w5.heap.size i _ _ _ ((hb8.block _ HB7.out.2.2).trans HB7.out.2.1)
        have HB8 := hid (HB7.out.1.trans (hb8.mono HB7.out.1.size))
        clear hb8 d7 k7 HH7
        go_wp2_with (go_at_call 30; refine (law07_known _).mono ?_; rintro e w' ⟨rfl, hb⟩)
        go_ret
        exact ⟨rfl, HB8.out.trans (hb.mono HB8.out.size)⟩
      · have hBz2 : (B == 0) = false := beq_false_of_ne hBz
        clear hBz
        go_wp2_with fail
        refine HR.out.mono ?_
        rintro e w7 ⟨rfl, hb7⟩
        have y7 := (hb7.block w3.heap.size H6.out.2.2.2.2).trans H6.out.2.1
        have z7 := (hb7.block w5.heap.size (by have := H6.out.2.2.2.1; omega)).trans H6.out.2.2.1
        have d7 := fun i => cell_of_row w7 w3.heap.size i _ _ _ y7
        have k7 := fun i => cell_of_row w7 w5.heap.size i _ _ _ z7
        have HH7 := hid (HH.out w7 hb7)
        have HB7 := hid (And.intro (H6.out.1.trans (hb7.mono H6.out.1.size)) (And.intro z7 (show w5.heap.size < w7.heap.size by have := hb7.size; have := H6.out.2.2.2.1; omega)))
        clear hb7 y7 z7 d6 k6 HH HR
        go_wp2_with fail
        refine HH7.out.mono ?_
        rintro e w8 ⟨rfl, hb8⟩
        have k8 := fun i => cell_of_row w8 w5.heap.size i _ _ _ ((hb8.block _ HB7.out.2.2).trans HB7.out.2.1)
        have HB8 := hid (HB7.out.1.trans (hb8.mono HB7.out.1.size))
        clear hb8 d7 k7 HH7
        go_wp2_with (go_at_call 30; refine (law07_known _).mono ?_; rintro e w' ⟨rfl, hb⟩)
        go_ret
        exact ⟨rfl, HB8.out.trans (hb.mono HB8.out.size)⟩
    · by_cases hBz : B = 0
      · have hBz2 : (B == 0) = true := beq_iff_eq.2 hBz
        clear hBz
        go_wp2_with fail
        refine HR.out.mono ?_
        rintro e w7 ⟨rfl, hb7⟩
        have y7 := (hb7.block w3.heap.size H6.out.2.2.2.2).trans H6.out.2.1
        have z7 := (hb7.block w5.heap.size (by have := H6.out.2.2.2.1; omega)).trans H6.out.2.2.1
        have d7 := fun i => cell_of_row w7 w3.heap.size i _ _ _ y7
        have k7 := fun i => cell_of_row w7 w5.heap.size i _ _ _ z7
        have HH7 := hid (HH.out w7 hb7)
        have HB7 := hid (And.intro (H6.out.1.trans (hb7.mono H6.out.1.size)) (And.intro z7 (show w5.heap.size < w7.heap.size by have := hb7.size; have := H6.out.2.2.2.1; omega)))
        clear hb7 y7 z7 d6 k6 HH HR
        go_wp2_with fail
        refine HH7.out.mono ?_
        rintro e w8 ⟨rfl, hb8⟩
        have k8 := fun i => cell_of_row w8 w5.heap.size i _ _ _ ((hb8.block _ HB7.out.2.2).trans HB7.out.2.1)
        have HB8 := hid (HB7.out.1.trans (hb8.mono HB7.out.1.size))
        clear hb8 d7 k7 HH7
        go_wp2_with (go_at_call 30; refine (law07_known _).mono ?_; rintro e w' ⟨rfl, hb⟩)
        go_ret
        exact ⟨rfl, HB8.out.trans (hb.mono HB8.out.size)⟩
      · have hBz2 : (B == 0) = false := beq_false_of_ne hBz
        clear hBz
        go_wp2_with fail
        refine HR.out.mono ?_
        rintro e w7 ⟨rfl, hb7⟩
        have y7 := (hb7.block w3.heap.size H6.out.2.2.2.2).trans H6.out.2.1
        have z7 := (hb7.block w5.heap.size (by have := H6.out.2.2.2.1; omega)).trans H6.out.2.2.1
        have d7 := fun i => cell_of_row w7 w3.heap.size i _ _ _ y7
        have k7 := fun i => cell_of_row w7 w5.heap.size i _ _ _ z7
        have HH7 := hid (HH.out w7 hb7)
        have HB7 := hid (And.intro (H6.out.1.trans (hb7.mono H6.out.1.size)) (And.intro z7 (show w5.heap.size < w7.heap.size by have := hb7.size; have := H6.out.2.2.2.1; omega)))
        clear hb7 y7 z7 d6 k6 HH HR
        go_wp2_with fail
        refine HH7.out.mono ?_
        rintro e w8 ⟨rfl, hb8⟩
        have k8 := fun i => cell_of_row w8 w5.heap.size i _ _ _ ((hb8.block _ HB7.out.2.2).trans HB7.out.2.1)
        have HB8 := hid (HB7.out.1.trans (hb8.mono HB7.out.1.size))
        clear hb8 d7 k7 HH7
        go_wp2_with (go_at_call 30; refine (law07_known _).mono ?_; rintro e w' ⟨rfl, hb⟩)
        go_ret
        exact ⟨rfl, HB8.out.trans (hb.mono HB8.out.size)⟩
    · have hBz2 : (B == 0) = false := beq_false_of_ne hBz
      clear hBz
      go_wp2_with fail
      refine HR.out.mono ?_
      rintro e w7 ⟨rfl, hb7⟩
      have y7 := (hb7.block w3.heap.size H6.out.2.2.2.2).trans H6.out.2.1
      have z7 := (hb7.block w5.heap.size (by have := H6.out.2.2.2.1; omega)).trans H6.out.2.2.1
      have d7 := fun i => cell_of_row w7 w3.heap.size i _ _ _ y7
      have k7 := fun i => cell_of_row w7 w5.heap.size i _ _ _ z7
      have HH7 := hid (HH.out w7 hb7)
      have HB7 := hid (And.intro (H6.out.1.trans (hb7.mono H6.out.1.size)) (And.intro z7 (show w5.heap.size < w7.heap.size by have := hb7.size; have := H6.out.2.2.2.1; omega)))
      clear hb7 y7 z7 d6 k6 HH HR
      go_wp2_with fail
      refine HH7.out.mono ?_
      rintro e w8 ⟨rfl, hb8⟩
      have k8 := fun i => cell_of_row w8 w5.heap.size i _ _ _ ((hb8.block _ HB7.out.2.2).trans HB7.out.2.1)
      have HB8 := hid (HB7.out.1.trans (hb8.mono HB7.out.1.size))
      clear hb8 d7 k7 HH7
      go_wp2_with (go_at_call 30; refine (law07_known _).mono ?_; rintro e w' ⟨rfl, hb⟩)
      go_ret
      exact ⟨rfl, HB8.out.trans (hb.mono HB8.out.size)⟩

end Go.Proofs.Ytfofabbnbmieoaa.Ord
