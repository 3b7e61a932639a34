/- The walks of the laws LitChecks and LitHolds. -/
import Derived.Test.YtaekcejenagbgaaKnown01
namespace Go.Proofs.Ytaekcejenagbgaa
open Go.RowKit

theorem i64s_of_wf {xs : List Int} (h : ∀ x ∈ xs, (Lit.int .i64 x).wf = true) : ∀ x ∈ xs, I64 x := fun x hx => i64_of_wf (h x hx)

set_option maxHeartbeats 1000000 in
theorem walk_LitChecks (x0 : Int) (v1 : Value) (x1 : List Int) (w : World) (_w0 : (Lit.int .i64 x0).wf = true) (w1 : ArgI .i64 w v1 x1) :
    Calls Try.prog 8 #[.int .i64 x0, v1] w fun e w' => e = .returned (.bool true) ∧ Below w.heap.size w w' := by
  obtain ⟨a1, c1, rfl, hle, hm, hn, hs, hw⟩ := w1
  have hx := hid (i64s_of_wf hw)
  have HS : Hid (SlV w a1 (ints x1)) := hs
  have HN := hid hn
  clear hw hs hn hm
  by_cases hl : x1.length ≤ 200
  · go_enter Try.func8, Try.ntmps8
    go_wp2_with fail
    refine (kit_CopyInts a1 x1 c1 w HS.out (by omega)).mono ?_
    rintro e w2 ⟨v2, rfl, ho2, hb2⟩
    obtain ⟨a2, c2, rfl, -, -, hs2⟩ := own_sli ho2
    have HS2 := hid hs2
    have HSA := hid (HS.out.below hb2)
    clear ho2 hs2
    go_wp2_with fail
    refine (lit_CheckR x0 _ x1 _ _ _ _ rfl rfl hx.out HS2.out (by omega)).mono ?_
    rintro e w3 ⟨rfl, rfl⟩
    go_wp2_with fail
    refine (ref01_CheckR x0 _ x1 _ _ _ _ rfl rfl hx.out HSA.out (by omega)).mono ?_
    rintro e w4 ⟨rfl, rfl⟩
    go_wp2_with (go_at_call 30; refine (law01_known _).mono ?_; rintro e w' ⟨rfl, hb⟩)
    go_ret
    exact ⟨rfl, hb2.trans (hb.mono hb2.size)⟩
  · go_enter Try.func8, Try.ntmps8
    go_wp2_with (go_at_call 30; refine (law01_known _).mono ?_; rintro e w' ⟨rfl, hb⟩)
    go_ret
    exact ⟨rfl, hb⟩

set_option maxHeartbeats 1000000 in
theorem walk_LitHolds (v0 : Value) (x0 : List Bool) (v1 : Value) (x1 : List Int) (w : World) (w0 : ArgB w v0 x0) (w1 : ArgI .i64 w v1 x1) :
    Calls Try.prog 10 #[v0, v1] w fun e w' => e = .returned (.bool true) ∧ Below w.heap.size w w' := by
  obtain ⟨a1, c1, rfl, hle, hm, hn, hs, hw⟩ := w1
  obtain ⟨a0, c0, rfl, hle0, hm0, hn0, hs0⟩ := w0
  have hx := hid (i64s_of_wf hw)
  have HS : Hid (SlV w a1 (ints x1)) := hs
  have HS0 := hid hs0
  clear hw hs hn hm hn0 hm0 hs0
  by_cases hl : x0.length ≤ 200
  · by_cases hl1 : x1.length ≤ 200
    · go_enter Try.func10, Try.ntmps10
      go_wp2_with fail
      refine (kit_CopyInts a1 x1 c1 w HS.out (by omega)).mono ?_
      rintro e w2 ⟨v2, rfl, ho2, hb2⟩
      obtain ⟨a2, c2, rfl, -, -, hs2⟩ := own_sli ho2
      have HS2 := hid hs2
      have HSA := hid (HS.out.below hb2)
      have HSB := hid (HS0.out.below hb2)
      clear ho2 hs2
      go_wp2_with fail
      refine (lit_HoldsR _ x0 _ _ _ x1 _ _ _ _ rfl rfl rfl HSB.out hx.out HS2.out (by omega) (by omega)).mono ?_
      rintro e w3 ⟨rfl, rfl⟩
      go_wp2_with fail
      refine (ref01_HoldsR _ x0 _ _ _ x1 _ _ _ _ rfl rfl rfl HSB.out hx.out HSA.out (by omega) (by omega)).mono ?_
      rintro e w4 ⟨rfl, n, rfl⟩
      go_wp2_with (go_at_call 30; refine (law01_known _).mono ?_; rintro e w' ⟨rfl, hb⟩)
      go_ret
      exact ⟨rfl, (below_dr hb2 _).trans (hb.mono hb2.size)⟩
    · have hd0 : decide ((200 : Int) < x0.length) = false := by simp; omega
      have hd1 : decide ((200 : Int) < x1.length) = true := by simp; omega
      go_enter Try.func10, Try.ntmps10
      go_wp2_with (go_at_call 30; refine (law01_known _).mono ?_; rintro e w' ⟨rfl, hb⟩)
      go_ret
      exact ⟨rfl, hb⟩
  · have hd0 : decide ((200 : Int) < x0.length) = true := by simp; omega
    go_enter Try.func10, Try.ntmps10
    go_wp2_with (go_at_call 30; refine (law01_known _).mono ?_; rintro e w' ⟨rfl, hb⟩)
    go_ret
    exact ⟨rfl, hb⟩

end Go.Proofs.Ytaekcejenagbgaa
