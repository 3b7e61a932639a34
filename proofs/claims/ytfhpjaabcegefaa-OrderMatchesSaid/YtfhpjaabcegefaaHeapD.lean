/- The contract of the queue's down. -/
import Derived.Test.YtfhpjaabcegefaaHeapU
namespace Go.Proofs.Ytfhpjaabcegefaa.Ord
open Go.RowKit

set_option maxRecDepth 100000 in
set_option maxHeartbeats 4000000 in
theorem q_down (b : Nat) (va vi vp : Value) (A I P : List Int) (i : Nat) (w : World) (h : HRep w b va vi vp A I P) (hf : Fits I P) (hu : DownInv A I i) (hi : i < I.length) (hA : A.length = P.length) (hl : P.length ≤ 4294967296) (hIl : I.length ≤ 4294967296) :
    Calls Try.prog 33 #[.pointer (some ⟨b, 1, none⟩), .int .i64 i] w fun e w' => e = .returned (.tuple #[]) ∧ Sifted w' b va vi vp A I.length P.length (inI I) ∧ Touch (foot b va vi vp) w w' := by
  obtain ⟨IN, hIN⟩ : ∃ IN, IN = inI I := ⟨_, rfl⟩
  obtain ⟨n, hn⟩ : ∃ n, n = I.length := ⟨_, rfl⟩
  obtain ⟨m, hm⟩ : ∃ m, m = P.length := ⟨_, rfl⟩
  obtain ⟨gi, ci, hvi⟩ := rw_form h.ri (by omega)
  rw [← hn] at hvi
  have HV := hid hvi
  have H0 : Hid (HRep w b va vi vp A I P ∧ Fits I P ∧ DownInv A I i ∧ I.length = n ∧ P.length = m ∧ ∀ v, inI I v ↔ IN v) := ⟨h, hf, hu, hn.symm, hm.symm, fun v => by rw [hIN]⟩
  rw [← hIN, ← hn, ← hm]
  rw [← hm] at hA hl
  rw [← hn] at hi hIl
  have HAL := hid hA
  clear h hf hu hn hm hIN hvi hA
  go_enter Try.func33, Try.ntmps33
  go_wp2_with fail
  go_loopw [1] (fun s1 wr => ∃ (i : Nat) (I P : List Int), s1 = .int .i64 i ∧ i < n ∧ Hid (HRep wr b va vi vp A I P ∧ Fits I P ∧ DownInv A I i ∧ I.length = n ∧ P.length = m ∧ ∀ v, inI I v ↔ IN v) ∧ Touch (foot b va vi vp) w wr) (fun s1 _ => n - (intOf s1).toNat)
  case atStart => exact ⟨i, I, P, rfl, hi, H0.out, Touch.refl _ _⟩
  case round =>
    clear H0
    obtain ⟨i, I, P, rfl, hi, hr, ht⟩ := hrel
    obtain ⟨h, hf, hu, hIn, hPm, hin⟩ := hr.out
    obtain ⟨-, hc1, hc2, hc3, hc4⟩ := hrep_cells h
    have hvi := HV.out
    rw [hvi] at h hc1
    obtain ⟨c1, hc1e⟩ : ∃ c1, c1 = 2 * i + 1 + 0 := ⟨_, rfl⟩
    obtain ⟨c2, hc2e⟩ : ∃ c2, c2 = 2 * i + 1 + 1 := ⟨_, rfl⟩
    have e5 : 2 * (i : Int) + 1 = (c1 : Int) := by omega
    have e6 : 2 * (i : Int) + 2 = (c2 : Int) := by omega
    have hcell := fun (k : Nat) (hk : k < n) => rw_val h.ri hIn.symm (k := k) (by omega)
    have hbd := fun (k : Nat) (hk : k < n) => hf.2.1 k (by omega)
    have hB := fun (k j : Nat) (r : Bool) (hk : k < n) (hj : j < n) (hr2 : bef A (at' I k) (at' I j) = r) (w : World) (hw : HRep w b va (.slice (some ⟨gi, 0, none⟩) n ci) vp A I P) =>
      heap_before b va _ vp A I P (at' I k) (at' I j) r w hr2 hw (by have := hbd k hk; have := HAL.out; omega) (by have := hbd j hj; have := HAL.out; omega) (by have := HAL.out; omega)
    have i0 : ∀ w, (Instr.index 66 (.agg #[.int .i64 (c1 : Int), .int .i64 (c2 : Int)]) (.int .i64 0)).run Try.prog w = .ok (.int .i64 (c1 : Int)) w := fun _ => by kernel_rfl
    have i1 : ∀ w, (Instr.index 66 (.agg #[.int .i64 (c1 : Int), .int .i64 (c2 : Int)]) (.int .i64 1)).run Try.prog w = .ok (.int .i64 (c2 : Int)) w := fun _ => by kernel_rfl
    have HB := hid hB
    have HCELL := hid hcell
    have H := hid h
    have HF := hid hf
    have HU := hid hu
    have HIn := hid hIn
    have HPm := hid hPm
    have HIN := hid hin
    have HC1 := hid hc1e
    have HC2 := hid hc2e
    have hc1b : c1 ≤ 8589934592 := by omega
    have hc2b : c2 ≤ 8589934592 := by omega
    clear hB hcell hbd h hf hu hIn hPm hin hr hvi hc1e hc2e
    go_wp2_with fail
    obtain ⟨wo, rfl⟩ : ∃ wo : World, wo = wr := ⟨_, rfl⟩
    go_loopw [4, 15] (fun s4 s15 wr => ∃ (j bb nd : Nat), j ≤ 2 ∧ s15 = .int .i64 j ∧ s4 = .int .i64 bb ∧ bb < n ∧ Hid (BestSo A I i j bb) ∧ wr = wo.drewN nd) (fun _ s15 _ => 2 - (intOf s15).toNat)
    case atStart => exact ⟨0, i, 0, by omega, rfl, rfl, hi, best_start A I i, rfl⟩
    case round =>
      obtain ⟨j, bb, nd, hj, rfl, rfl, hbn, hbest, rfl⟩ := hrel
      by_cases hj2 : j < 2
      · have hjc : j = 0 ∨ j = 1 := by omega
        rcases hjc with hj0 | hj0
        · obtain rfl : j = 0 := by omega
          by_cases hcl : c1 < n
          · have hd : decide (c1 < n) = true := by simp [hcl]
            have b1 : (c1 : Int) < n := by omega
            have b2 : (bb : Int) < n := by omega
            have hck := HCELL.out c1 hcl
            have hcb := HCELL.out bb hbn
            cases hb : bef A (at' I c1) (at' I bb) with
            | true =>
              have HBF := hid (HB.out c1 bb true hcl hbn hb)
              have HBB := hid hb
              clear hb
              go_wp2_with fail
              go_quiet ((go_at_call 29; first | exact quiet_drew2 (HBF.out _ (hrep_drewN H.out _)) | exact quiet_drew (HBF.out _ (hrep_drewN H.out _))))
              go_wp2_with fail
              go_roundw
              case rel => exact ⟨0 + 1, c1, _, by omega, rfl, rfl, hcl, best_take hbest.out (by omega) HC1.out (by rw [HIn.out]; exact hcl) HBB.out, (by first | rfl | exact World.drewN_drewN ..)⟩
              case measure => simp [intOf]
            | false =>
              have HBF := hid (HB.out c1 bb false hcl hbn hb)
              have HBB := hid hb
              clear hb
              go_wp2_with fail
              go_quiet ((go_at_call 29; first | exact quiet_drew2 (HBF.out _ (hrep_drewN H.out _)) | exact quiet_drew (HBF.out _ (hrep_drewN H.out _))))
              go_wp2_with fail
              go_roundw
              case rel => exact ⟨0 + 1, bb, _, by omega, rfl, rfl, hbn, best_leave hbest.out (by omega) HC1.out (fun _ => HBB.out), (by first | rfl | exact World.drewN_drewN ..)⟩
              case measure => simp [intOf]
          · have hd : decide (c1 < n) = false := by simp; omega
            go_wp2_with fail
            go_quiet (fail)
            go_wp2_with fail
            go_roundw
            case rel => exact ⟨0 + 1, bb, _, by omega, rfl, rfl, hbn, best_leave hbest.out (by omega) HC1.out (fun h => by rw [HIn.out] at h; exact absurd h hcl), (by first | rfl | exact World.drewN_drewN ..)⟩
            case measure => simp [intOf]
        · obtain rfl : j = 1 := by omega
          by_cases hcl : c2 < n
          · have hd : decide (c2 < n) = true := by simp [hcl]
            have b1 : (c2 : Int) < n := by omega
            have b2 : (bb : Int) < n := by omega
            have hck := HCELL.out c2 hcl
            have hcb := HCELL.out bb hbn
            cases hb : bef A (at' I c2) (at' I bb) with
            | true =>
              have HBF := hid (HB.out c2 bb true hcl hbn hb)
              have HBB := hid hb
              clear hb
              go_wp2_with fail
              go_quiet ((go_at_call 29; first | exact quiet_drew2 (HBF.out _ (hrep_drewN H.out _)) | exact quiet_drew (HBF.out _ (hrep_drewN H.out _))))
              go_wp2_with fail
              go_roundw
              case rel => exact ⟨1 + 1, c2, _, by omega, rfl, rfl, hcl, best_take hbest.out (by omega) HC2.out (by rw [HIn.out]; exact hcl) HBB.out, (by first | rfl | exact World.drewN_drewN ..)⟩
              case measure => simp [intOf]
            | false =>
              have HBF := hid (HB.out c2 bb false hcl hbn hb)
              have HBB := hid hb
              clear hb
              go_wp2_with fail
              go_quiet ((go_at_call 29; first | exact quiet_drew2 (HBF.out _ (hrep_drewN H.out _)) | exact quiet_drew (HBF.out _ (hrep_drewN H.out _))))
              go_wp2_with fail
              go_roundw
              case rel => exact ⟨1 + 1, bb, _, by omega, rfl, rfl, hbn, best_leave hbest.out (by omega) HC2.out (fun _ => HBB.out), (by first | rfl | exact World.drewN_drewN ..)⟩
              case measure => simp [intOf]
          · have hd : decide (c2 < n) = false := by simp; omega
            go_wp2_with fail
            go_quiet (fail)
            go_wp2_with fail
            go_roundw
            case rel => exact ⟨1 + 1, bb, _, by omega, rfl, rfl, hbn, best_leave hbest.out (by omega) HC2.out (fun h => by rw [HIn.out] at h; exact absurd h hcl), (by first | rfl | exact World.drewN_drewN ..)⟩
            case measure => simp [intOf]
      · obtain rfl : j = 2 := by omega
        have hdone := best_done HU.out hbest.out
        by_cases hbi : bb = i
        · have hq : ((bb : Int) == (i : Int)) = true := by rw [hbi]; simp
          have HO := hid (hdone.1 hbi)
          clear hdone hbi
          go_wp2_with fail
          refine bodyPost_ret (v := .tuple #[]) (by simp [results, Try.results33, go_sem]) rfl ?_
          exact ⟨rfl, ⟨I, P, hrep_drewN (by rw [HV.out]; exact H.out) _, HO.out, HF.out, HIn.out, HPm.out, HIN.out⟩, ht.drewN _⟩
        · have hq : ((bb : Int) == (i : Int)) = false := by rw [beq_eq_false_iff_ne]; omega
          obtain ⟨hlt, hbl, hdn⟩ := hdone.2 hbi
          have HDN := hid hdn
          clear hdone hbi hdn
          go_wp2_with fail
          refine (q_swap b va _ vp A I P i bb _ (hrep_drewN H.out _) HF.out (by have := HIn.out; omega) (by have := HIn.out; omega) (by have := HPm.out; omega)).mono ?_
          rintro e w2 ⟨rfl, h2, ht2⟩
          have HH2 := hid h2
          have HT2 := hid ht2
          clear h2 ht2
          go_wp2_with fail
          go_roundw
          case rel =>
            exact ⟨bb, swp I i bb, swpP I P i bb, rfl, hbn, ⟨by rw [HV.out]; exact HH2.out, fits_swp HF.out (by have := HIn.out; omega) (by have := HIn.out; omega), HDN.out, by rw [swp_length]; exact HIn.out, by rw [swpP_length]; exact HPm.out, fun v => by rw [inI_swp (by have := HIn.out; omega) (by have := HIn.out; omega)]; exact HIN.out v⟩, (ht.drewN _).trans (by rw [HV.out]; exact HT2.out)⟩
          case measure => simp [intOf]; omega

end Go.Proofs.Ytfhpjaabcegefaa.Ord
