/- The walk of the law LitNorms. -/
import Derived.Test.YtaekcejenagbgaaNormR
import Derived.Test.YtaekcejenagbgaaKnown01
import Derived.Test.YtaekcejenagbgaaWLitB
namespace Go.Proofs.Ytaekcejenagbgaa
open Go.RowKit

set_option maxHeartbeats 4000000 in
theorem walk_LitNorms (v0 : Value) (x0 : List Int) (x1 x2 : Int) (w : World) (w0 : ArgI .i64 w v0 x0) (w1 : (Lit.int .i64 x1).wf = true) (w2 : (Lit.int .i64 x2).wf = true) :
    Calls Try.prog 9 #[v0, .int .i64 x1, .int .i64 x2] w fun e w' => e = .returned (.bool true) ∧ Below w.heap.size w w' := by
  obtain ⟨a0, c0, rfl, hle0, hm0, hn0, hs0, hw0⟩ := w0
  have hx0 := hid (i64s_of_wf hw0)
  have HS0 : Hid (SlV w a0 (ints x0)) := hs0
  have i1 := i64_of_wf w1
  have i2 := i64_of_wf w2
  have HK := hid fun w => law01_known w
  clear hw0 hs0 hn0 hm0 w1 w2
  by_cases hl : x0.length ≤ 200
  · obtain ⟨r, hr⟩ : ∃ r, adjB (normL x0) = r := ⟨_, rfl⟩
    obtain ⟨ys, hys⟩ : ∃ ys, normV x0 = ys := ⟨_, rfl⟩
    have hyl : ys.length ≤ 200 := by rw [← hys]; exact Nat.le_trans (normV_length _) hl
    obtain ⟨rl, hrl⟩ : ∃ r, lessB x1 x2 = r := ⟨_, rfl⟩
    have HR := hid hr
    have HY := hid hys
    have HRL := hid hrl
    clear hr hys hrl
    go_enter Try.func9, Try.ntmps9
    go_wp2_with fail
    refine (kit_CopyInts a0 x0 c0 w HS0.out (by omega)).mono ?_
    rintro e w2 ⟨v2, rfl, ho2, hb2⟩
    obtain ⟨a2, c2, rfl, hc2, hn2, hs2⟩ := own_sli ho2
    have HS2 := hid hs2
    have HN2 := hid hn2
    have HB2 := hid hb2
    clear ho2 hs2 hn2 hb2
    go_wp2_with fail
    refine (lit_NormR a2 x0 ys r _ c2 w2 HR.out HY.out rfl hc2 HN2.out HS2.out hx0.out (by omega)).mono ?_
    rintro e w3 ⟨a3, c3, rfl, ho3, hb3⟩
    have HS3 := hid (OwnT.slv ho3)
    have HB3 := hid (HB2.out.trans (hb3.mono HB2.out.size))
    have HS2' := hid (HS2.out.below hb3)
    clear ho3 hb3
    go_wp2_with fail
    refine (ref01_NormR a0 x0 ys r _ c0 w3 HR.out HY.out rfl (HS0.out.below HB3.out) hx0.out (by omega)).mono ?_
    rintro e w4 ⟨a4, c4, rfl, hs4, hb4⟩
    have HS4 := hid hs4
    have HB4 := hid (HB3.out.trans (hb4.mono HB3.out.size))
    have HS2'' := hid (HS2'.out.below hb4)
    have HS3' := hid (HS3.out.below hb4)
    clear hs4 hb4
    go_wp2_with fail
    refine (kit_EqualIntsR a3 a4 ys ys _ c3 _ c4 true w4 (eqI_self _) rfl rfl HS3'.out HS4.out (by omega)).mono ?_
    rintro e w5 ⟨rfl, n5, rfl⟩
    cases r
    all_goals
      go_wp2_with fail
      refine (kit_EqualIntsR a2 a0 x0 x0 _ c2 _ c0 true _ (eqI_self _) rfl rfl (HS2''.out.drewN _) ((HS0.out.below HB4.out).drewN _) (by omega)).mono ?_
      rintro e w6 ⟨rfl, n6, rfl⟩
      go_wp2_with fail
      refine (lit_Less' x1 x2 rl _ HRL.out i1 i2).mono ?_
      rintro e w6 ⟨rfl, rfl⟩
      go_wp2_with fail
      refine (ref01_Less' x1 x2 rl _ HRL.out i1 i2).mono ?_
      rintro e w6 ⟨rfl, rfl⟩
      cases rl
      all_goals
        go_wp2_with (go_at_call 30; refine (HK.out _).mono ?_; rintro e w' ⟨rfl, hb⟩)
        go_ret
        exact ⟨rfl, (by first | exact below_dr HB4.out _ | exact below_dr (below_dr HB4.out _) _ : Below w.heap.size w _).trans (hb.mono HB4.out.size)⟩
  · go_enter Try.func9, Try.ntmps9
    go_wp2_with (go_at_call 30; refine (HK.out _).mono ?_; rintro e w' ⟨rfl, hb⟩)
    go_ret
    exact ⟨rfl, hb⟩

end Go.Proofs.Ytaekcejenagbgaa
