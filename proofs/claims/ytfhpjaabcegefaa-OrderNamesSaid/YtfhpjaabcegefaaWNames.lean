/- The walk of OrderNames. -/
import Derived.Test.YtfhpjaabcegefaaLawT
namespace Go.Proofs.Ytfhpjaabcegefaa.Ord
open Go.RowKit

set_option maxHeartbeats 400000 in
theorem nil_Pop (w : World) : Calls Try.prog 16 #[.pointer none] w fun e w' => e = .returned (.tuple #[.int .i64 0, .int .i64 1]) ∧ w = w' := by
  go_enter Try.func16, Try.ntmps16
  go_wp2_with fail
  go_ret2
  exact ⟨rfl, rfl⟩
set_option maxHeartbeats 400000 in
theorem nil_Bump (v x : Int) (w : World) : Calls Try.prog 14 #[.pointer none, .int .i64 v, .int .i64 x] w fun e w' => e = .returned (.int .i64 1) ∧ w = w' := by
  go_enter Try.func14, Try.ntmps14
  go_wp2_with fail
  go_ret
  exact ⟨rfl, rfl⟩
set_option maxHeartbeats 400000 in
theorem nil_Push (v : Int) (w : World) : Calls Try.prog 24 #[.pointer none, .int .i64 v] w fun e w' => e = .returned (.int .i64 1) ∧ w = w' := by
  go_enter Try.func24, Try.ntmps24
  go_wp2_with fail
  go_ret
  exact ⟨rfl, rfl⟩
set_option maxHeartbeats 400000 in
theorem nil_Has (v : Int) (w : World) : Calls Try.prog 25 #[.pointer none, .int .i64 v] w fun e w' => e = .returned (.bool false) ∧ w = w' := by
  go_enter Try.func25, Try.ntmps25
  go_wp2_with fail
  go_ret
  exact ⟨rfl, rfl⟩
set_option maxHeartbeats 400000 in
theorem nil_Len (w : World) : Calls Try.prog 18 #[.pointer none] w fun e w' => e = .returned (.int .i64 0) ∧ w = w' := by
  go_enter Try.func18, Try.ntmps18
  go_wp2_with fail
  go_ret
  exact ⟨rfl, rfl⟩
set_option maxHeartbeats 400000 in
theorem nil_Copy (w : World) : Calls Try.prog 22 #[.pointer none] w fun e w' => e = .returned (.pointer none) ∧ w = w' := by
  go_enter Try.func22, Try.ntmps22
  go_wp2_with fail
  go_ret
  exact ⟨rfl, rfl⟩

/-- The activities after k great bumps. -/
def bigA (k : Nat) : List Int := [0, (k : Int) * 1099511627776]
theorem bigA_bump {k : Nat} (h : k < 1048576) : bumpE (bigA k) [true].length 1 1099511627776 = 0 ∧ bumpA (bigA k) [true].length 1 1099511627776 = bigA (k + 1) := by
  have e : bumpE (bigA k) [true].length 1 1099511627776 = 0 := by
    unfold bumpE
    rw [if_pos]
    have : actv (bigA k) 1 = (k : Int) * 1099511627776 := rfl
    rw [this]
    simp
    omega
  refine ⟨e, ?_⟩
  unfold bumpA
  rw [e, if_pos rfl]
  show [0, (k : Int) * 1099511627776 + 1099511627776] = [0, ((k + 1 : Nat) : Int) * 1099511627776]
  have : (k : Int) * 1099511627776 + 1099511627776 = ((k + 1 : Nat) : Int) * 1099511627776 := by omega
  rw [this]
theorem bigA_end : bumpE (bigA 1048576) [true].length 1 1 = 3 ∧ bumpA (bigA 1048576) [true].length 1 1 = bigA 1048576 ∧ bumpE (bigA 1048576) [true].length 1 0 = 0 ∧ bumpA (bigA 1048576) [true].length 1 0 = bigA 1048576 := by decide

set_option maxRecDepth 100000 in
set_option maxHeartbeats 8000000 in
theorem walk_OrderNames (w : World) :
    Calls Try.prog 10 #[] w fun e w' => e = .returned (.bool true) ∧ Below w.heap.size w w' := by
  go_enter Try.func10, Try.ntmps10
  go_wp2_with fail
  refine (hb_New 3 w.heap.size [0, 0, 0, 0] [true, true, true] w _ rfl rfl (by decide) (Below.refl _ _) (Nat.le_refl _) _ rfl).mono ?_
  rintro e w1 ⟨b1, S1, rfl, h1, -⟩
  have H1 := hid h1
  clear h1
  go_wp2_with fail
  refine (hb_Pop b1 _ S1 [0, 0, 0, 0] [true, true, true] [false, true, true] 1 0 _ _ (by decide) (by decide) (by decide) H1.out).mono ?_
  rintro e w2 ⟨rfl, h2, -⟩
  have H2 := hid h2
  clear h2
  go_wp2_with fail
  refine (heap_Len b1 S1 [0, 0, 0, 0] [false, true, true] 2 _ (by decide) H2.out.heap).mono ?_
  rintro e wx ⟨rfl, rfl⟩
  go_wp2_with fail
  refine (heap_Has b1 S1 [0, 0, 0, 0] [false, true, true] (1) false _ (by decide) H2.out.heap).mono ?_
  rintro e wx ⟨rfl, rfl⟩
  go_wp2_with fail
  refine (heap_Has b1 S1 [0, 0, 0, 0] [false, true, true] (2) true _ (by decide) H2.out.heap).mono ?_
  rintro e wx ⟨rfl, rfl⟩
  go_wp2_with fail
  refine (heap_Has b1 S1 [0, 0, 0, 0] [false, true, true] (4) false _ (by decide) H2.out.heap).mono ?_
  rintro e wx ⟨rfl, rfl⟩
  go_wp2_with fail
  refine (heap_Has b1 S1 [0, 0, 0, 0] [false, true, true] (0) false _ (by decide) H2.out.heap).mono ?_
  rintro e wx ⟨rfl, rfl⟩
  go_wp2_with fail
  refine (hb_Bump b1 _ S1 [0, 0, 0, 0] [0, 5, 0, 0] [false, true, true] 1 5 0 _ _ (by decide) (by decide) H2.out).mono ?_
  rintro e w3 ⟨rfl, h3, -⟩
  have H3 := hid h3
  clear h3
  go_wp2_with fail
  refine (hb_Pop b1 _ S1 [0, 5, 0, 0] [false, true, true] [false, false, true] 2 0 _ _ (by decide) (by decide) (by decide) H3.out).mono ?_
  rintro e w4 ⟨rfl, h4, -⟩
  have H4 := hid h4
  clear h4
  go_wp2_with fail
  refine (hb_Push b1 _ S1 [0, 5, 0, 0] [false, false, true] [true, false, true] 1 0 _ _ (by decide) (by decide) H4.out).mono ?_
  rintro e w5 ⟨rfl, S5, h5, -⟩
  have H5 := hid h5
  clear h5
  go_wp2_with fail
  refine (hb_Push b1 _ S5 [0, 5, 0, 0] [true, false, true] [true, false, true] 1 0 _ _ (by decide) (by decide) H5.out).mono ?_
  rintro e w6 ⟨rfl, S6, h6, -⟩
  have H6 := hid h6
  clear h6
  go_wp2_with fail
  refine (heap_Len b1 S6 [0, 5, 0, 0] [true, false, true] 2 _ (by decide) H6.out.heap).mono ?_
  rintro e wx ⟨rfl, rfl⟩
  go_wp2_with fail
  refine (hb_Pop b1 _ S6 [0, 5, 0, 0] [true, false, true] [false, false, true] 1 0 _ _ (by decide) (by decide) (by decide) H6.out).mono ?_
  rintro e w7 ⟨rfl, h7, -⟩
  have H7 := hid h7
  clear h7
  go_wp2_with fail
  refine (hb_Bump b1 _ S6 [0, 5, 0, 0] [0, 5, 0, 0] [false, false, true] 4 1 3 _ _ (by decide) (by decide) H7.out).mono ?_
  rintro e w8 ⟨rfl, h8, -⟩
  have H8 := hid h8
  clear h8
  go_wp2_with fail
  refine (hb_Bump b1 _ S6 [0, 5, 0, 0] [0, 5, 0, 0] [false, false, true] 0 1 3 _ _ (by decide) (by decide) H8.out).mono ?_
  rintro e w9 ⟨rfl, h9, -⟩
  have H9 := hid h9
  clear h9
  go_wp2_with fail
  refine (hb_Bump b1 _ S6 [0, 5, 0, 0] [0, 5, 0, 0] [false, false, true] 1 (-1) 3 _ _ (by decide) (by decide) H9.out).mono ?_
  rintro e w10 ⟨rfl, h10, -⟩
  have H10 := hid h10
  clear h10
  go_wp2_with fail
  refine (hb_Push b1 _ S6 [0, 5, 0, 0] [false, false, true] [false, false, true] 4 3 _ _ (by decide) (by decide) H10.out).mono ?_
  rintro e w11 ⟨rfl, S11, h11, -⟩
  have H11 := hid h11
  clear h11
  go_wp2_with fail
  refine (hb_Bump b1 _ S11 [0, 5, 0, 0] [0, 5, 0, 0] [false, false, true] 1 1099511627777 3 _ _ (by decide) (by decide) H11.out).mono ?_
  rintro e w12 ⟨rfl, h12, -⟩
  have H12 := hid h12
  clear h12
  go_wp2_with fail
  refine (hb_Bump b1 _ S11 [0, 5, 0, 0] [0, 1099511627781, 0, 0] [false, false, true] 1 1099511627776 0 _ _ (by decide) (by decide) H12.out).mono ?_
  rintro e w13 ⟨rfl, h13, -⟩
  have H13 := hid h13
  clear h13
  go_wp2_with fail
  refine (order_NewF (-1) _ (by decide)).mono ?_
  rintro e wx ⟨rfl, rfl⟩
  go_wp2_with fail
  refine (order_NewF (1048577) _ (by decide)).mono ?_
  rintro e wx ⟨rfl, rfl⟩
  go_wp2_with fail
  refine (hb_New 0 w.heap.size [0] [] w _ rfl rfl (by decide) H13.out.bel H13.out.le _ rfl).mono ?_
  rintro e w16 ⟨b2, S2, rfl, h16, -⟩
  have H16 := hid h16
  clear h16
  go_wp2_with fail
  refine (hb_Pop b2 _ S2 [0] [] [] 0 6 _ _ (by decide) (by decide) (by decide) H16.out).mono ?_
  rintro e w17 ⟨rfl, h17, -⟩
  have H17 := hid h17
  clear h17
  go_wp2_with fail
  refine (heap_Len b2 S2 [0] [] 0 _ (by decide) H17.out.heap).mono ?_
  rintro e wx ⟨rfl, rfl⟩
  go_wp2_with fail
  refine (hb_New 1 w.heap.size (bigA 0) [true] w _ rfl rfl (by decide) H17.out.bel H17.out.le _ rfl).mono ?_
  rintro e w18 ⟨b3, S3, rfl, h18, -⟩
  have H18 := hid h18
  clear h18
  go_wp2_with fail
  go_loopw [11] (fun s11 wr => ∃ k : Nat, s11 = .int .i64 k ∧ k ≤ 1048576 ∧ Hid (HB w.heap.size w wr b3 S3 (bigA k) [true])) (fun s11 _ => (1048576 - (intOf s11)).toNat)
  case atStart => exact ⟨0, rfl, Nat.zero_le _, H18⟩
  case round =>
    obtain ⟨k, rfl, hk, hh⟩ := hrel
    by_cases hlt : k < 1048576
    · have hb := bigA_bump hlt
      have HBB := hid hb
      have e1 : decide ((k : Int) < 1048576) = true := decide_eq_true (by omega)
      have hwk : IntKind.i64.wrap ((k : Int) + 1) = (k : Int) + 1 := IntWalk.i64_in _ (by omega)
      clear hb
      go_wp2_with fail
      refine (hb_Bump b3 _ S3 (bigA k) (bigA (k + 1)) [true] 1 1099511627776 0 _ _ HBB.out.1 HBB.out.2 hh.out).mono ?_
      rintro e w2 ⟨rfl, h2, -⟩
      have H2 := hid h2
      clear h2
      go_wp2_with fail
      go_roundw
      case rel => exact ⟨k + 1, by simp, hlt, H2⟩
      case measure => simp [intOf]; omega
    · obtain rfl : k = 1048576 := by omega
      have e1 : decide (((1048576 : Nat) : Int) < 1048576) = false := by decide
      go_wp2_with fail
      refine (hb_Bump b3 _ S3 (bigA 1048576) (bigA 1048576) [true] 1 1 3 _ _ bigA_end.1 bigA_end.2.1 hh.out).mono ?_
      rintro e wa ⟨rfl, ha, -⟩
      have HA := hid ha
      clear ha
      go_wp2_with fail
      refine (hb_Bump b3 _ S3 (bigA 1048576) (bigA 1048576) [true] 1 0 0 _ _ bigA_end.2.2.1 bigA_end.2.2.2 HA.out).mono ?_
      rintro e wb ⟨rfl, hb, -⟩
      have HB := hid hb
      clear hb
      go_wp2_with fail
      refine (nil_Pop _).mono ?_
      rintro e wx ⟨rfl, rfl⟩
      go_wp2_with fail
      refine (nil_Bump 9 (-1) _).mono ?_
      rintro e wx ⟨rfl, rfl⟩
      go_wp2_with fail
      refine (nil_Push 9 _).mono ?_
      rintro e wx ⟨rfl, rfl⟩
      go_wp2_with fail
      refine (nil_Has 1 _).mono ?_
      rintro e wx ⟨rfl, rfl⟩
      go_wp2_with fail
      refine (nil_Len _).mono ?_
      rintro e wx ⟨rfl, rfl⟩
      go_wp2_with fail
      refine (nil_Copy _).mono ?_
      rintro e wx ⟨rfl, rfl⟩
      go_wp2_with fail
      refine (law06_known _).mono ?_
      rintro e wc ⟨rfl, hc⟩
      have HC := hid hc
      clear hc
      go_wp2_with fail
      go_ret
      exact ⟨rfl, HB.out.bel.trans (HC.out.mono HB.out.le)⟩

end Go.Proofs.Ytfhpjaabcegefaa.Ord
