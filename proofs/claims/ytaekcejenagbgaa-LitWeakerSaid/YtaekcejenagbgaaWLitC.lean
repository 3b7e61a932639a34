/- The walks of the laws LitWeaker and LitOpposites. -/
import Derived.Test.YtaekcejenagbgaaWLitB
import Derived.Test.YtaekcejenagbgaaPHolds
namespace Go.Proofs.Ytaekcejenagbgaa
open Go.RowKit

set_option maxHeartbeats 4000000 in
theorem walk_LitWeaker (v0 : Value) (x0 : List Int) (v1 : Value) (x1 : List Int) (v2 : Value) (x2 : List Bool) (x3 : Int) (w : World) (w0 : ArgI .i64 w v0 x0) (w1 : ArgI .i64 w v1 x1) (w2 : ArgB w v2 x2) (_w3 : (Lit.int .i64 x3).wf = true) :
    Calls Try.prog 16 #[v0, v1, v2, .int .i64 x3] w fun e w' => e = .returned (.bool true) ∧ Below w.heap.size w w' := by
  obtain ⟨a0, c0, rfl, hle0, hm0, hn0, hs0, hw0⟩ := w0
  obtain ⟨a1, c1, rfl, hle1, hm1, hn1, hs1, hw1⟩ := w1
  obtain ⟨a2, c2, rfl, hle2, hm2, hn2, hs2⟩ := w2
  have hx0 := hid (i64s_of_wf hw0)
  have hx1 := hid (i64s_of_wf hw1)
  have hxx : Hid (∀ x ∈ x0 ++ x1, I64 x) := fun x hx => by
    rcases List.mem_append.1 hx with h | h
    · exact hx0.out x h
    · exact hx1.out x h
  have HS0 : Hid (SlV w a0 (ints x0)) := hs0
  have HS1 : Hid (SlV w a1 (ints x1)) := hs1
  have HS2 := hid hs2
  have HN1 := hid hn1
  clear hw0 hw1 hs0 hs1 hs2 hn0 hn1 hn2 hm0 hm1 hm2
  have HK := hid fun w => law01_known w
  by_cases hlen : x0.length ≤ 40 ∧ x1.length ≤ 40 ∧ x2.length ≤ 100
  · obtain ⟨l0, l1, l2⟩ := hlen
    obtain ⟨i0, hi, hz0, hz1, hz2⟩ := info_parts info_int
    obtain ⟨rc, erc⟩ : ∃ r, holdsB x2 x0 = r := ⟨_, rfl⟩
    obtain ⟨rd, erd⟩ : ∃ r, holdsB x2 x1 = r := ⟨_, rfl⟩
    have era : holdsB x2 (x0 ++ x1) = (rc || rd) := by rw [holdsB_append, erc, erd]
    obtain ⟨kc, ekc⟩ : ∃ r, litCheck x3 x0 = r := ⟨_, rfl⟩
    obtain ⟨kd, ekd⟩ : ∃ r, litCheck x3 x1 = r := ⟨_, rfl⟩
    obtain ⟨ka, eka⟩ : ∃ r, litCheck x3 (x0 ++ x1) = r := ⟨_, rfl⟩
    have hk : (ka == 0) = ((kc == 0) && (kd == 0)) := by rw [← eka, ← ekc, ← ekd]; exact litCheck_append (by omega)
    have ERC := hid erc
    have ERD := hid erd
    have ERA := hid era
    have EKC := hid ekc
    have EKD := hid ekd
    have EKA := hid eka
    obtain ⟨bc, ebc⟩ : ∃ r, (kc == 0) = r := ⟨_, rfl⟩
    obtain ⟨bd, ebd⟩ : ∃ r, (kd == 0) = r := ⟨_, rfl⟩
    rw [ebc, ebd] at hk
    clear erc erd era ekc ekd eka
    go_enter Try.func16, Try.ntmps16
    go_wp2_with fail
    refine (kit_CopyInts a0 x0 c0 w HS0.out (by omega)).mono ?_
    rintro e w4 ⟨v4, rfl, ho4, hb4⟩
    have HS0' := hid (HS0.out.below hb4)
    have HS1' := hid (HS1.out.below hb4)
    have HS2' := hid (HS2.out.below hb4)
    have hz4 := hb4.size
    go_wp2_with (at_builtin; refine wpList_append_sl _ rfl _ _ 40 rfl w.heap.size 3 i0 (.int .i64 0) 8 Try.underlying40 hi hz0 hz1 hz2 rfl v4 x0.length (ints x0) rfl ho4 a1 x1.length c1 (ints x1) rfl HS1'.out (by simp) HN1.out ints_one (by unfold maxLen; omega) (by omega) hz4 ?_; intro v5 w5 ho5 hg5; rw [← ints_append] at ho5; obtain ⟨a5, c5, rfl, -, -, hs5⟩ := own_sli ho5; have hb5 : Below w.heap.size w w5 := hb4.grown hg5 hz4 (fun q hq => (ho4.lt q hq).1); have HS5 := hid hs5; have HB := hid (show Below w.heap.size w w5 from hb5); clear ho5 hg5 hs5 ho4 hb4 HS0' HS1' HS2')
    have HS0' := hid (HS0.out.below HB.out)
    have HS1' := hid (HS1.out.below HB.out)
    have HS2' := hid (HS2.out.below HB.out)
    refine (lit_HoldsR _ x2 _ _ _ (x0 ++ x1) _ _ _ _ ERA.out (by simp) (by simp) HS2'.out hxx.out HS5.out (by simp; omega) (by omega)).mono ?_
    rintro e w6 ⟨rfl, rfl⟩
    go_wp2_with fail
    refine (lit_HoldsR _ x2 _ _ _ x0 _ _ _ _ ERC.out rfl rfl HS2'.out hx0.out HS0'.out (by omega) (by omega)).mono ?_
    rintro e w6 ⟨rfl, rfl⟩
    cases rc <;> cases rd
    all_goals
      go_wp2_with (go_at_call 28; refine (lit_HoldsR _ x2 _ _ _ x1 _ _ _ _ ERD.out rfl rfl HS2'.out hx1.out HS1'.out (by omega) (by omega)).mono ?_; rintro e w6 ⟨rfl, rfl⟩)
      refine (lit_CheckR x3 _ (x0 ++ x1) _ _ _ _ EKA.out (by simp) hxx.out HS5.out (by simp; omega)).mono ?_
      rintro e w6 ⟨rfl, rfl⟩
      go_wp2_with fail
      refine (lit_CheckR x3 _ x0 _ _ _ _ EKC.out rfl hx0.out HS0'.out (by omega)).mono ?_
      rintro e w6 ⟨rfl, rfl⟩
      cases bc <;> cases bd
      all_goals
        go_wp2_with (first
          | (go_at_call 31; refine (lit_CheckR x3 _ x1 _ _ _ _ EKD.out rfl hx1.out HS1'.out (by omega)).mono ?_; rintro e w6 ⟨rfl, rfl⟩)
          | (go_at_call 30; refine (HK.out _).mono ?_; rintro e w' ⟨rfl, hb⟩))
        go_ret
        exact ⟨rfl, HB.out.trans (hb.mono HB.out.size)⟩
  · have hd : decide ((40 : Int) < x0.length) = true ∨ (decide ((40 : Int) < x0.length) = false ∧ (decide ((40 : Int) < x1.length) = true ∨ (decide ((40 : Int) < x1.length) = false ∧ decide ((100 : Int) < x2.length) = true))) := by
      simp; omega
    rcases hd with h1 | ⟨h1, h2 | ⟨h2, h3⟩⟩
    all_goals
      go_enter Try.func16, Try.ntmps16
      go_wp2_with (go_at_call 30; refine (HK.out _).mono ?_; rintro e w' ⟨rfl, hb⟩)
      go_ret
      exact ⟨rfl, hb⟩

end Go.Proofs.Ytaekcejenagbgaa
