/- The walk of OrderParts. -/
import Derived.Test.YtfhpjaabcegefaaPParts
import Derived.Test.YtfhpjaabcegefaaWOdd
namespace Go.Proofs.Ytfhpjaabcegefaa.Ord
open Go.RowKit

theorem tw_drew {B : Nat} {w0 w : World} {b b2 : Nat} {S S2 : Nat → Prop} {A A2 : List Int} {In In2 : List Bool} (h : TW B w0 w b S A In b2 S2 A2 In2) : TW B w0 w.drew b S A In b2 S2 A2 In2 :=
  ⟨hb_touch h.one (T := fun _ => False) (Touch.refl _ _).drew (fun _ _ h => h) (fun _ h => h.elim), hb_touch h.two (T := fun _ => False) (Touch.refl _ _).drew (fun _ _ h => h) (fun _ h => h.elim), h.apart⟩

set_option maxRecDepth 100000 in
set_option maxHeartbeats 4000000 in
theorem walk_OrderParts (v0 : Value) (x0 : List Int) (v1 : Value) (x1 : List Int) (w : World) (w0 : ArgI .u16 w v0 x0) (w1 : ArgI .u16 w v1 x1) :
    Calls Try.prog 6 #[v0, v1] w fun e w' => e = .returned (.bool true) ∧ Below w.heap.size w w' := by
  obtain ⟨a0, c0, rfl, hle0, hm0, hn0, hs0, hw0⟩ := w0
  obtain ⟨a1, c1, rfl, hle1, hm1, hn1, hs1, hw1⟩ := w1
  have HX := hid (u16s hw0)
  have HS := hid hs0
  have HX1 := hid (u16s hw1)
  have HS1 := hid hs1
  have hlm : x1.length ≤ 9223372036854775807 := by unfold maxLen at hm1; omega
  clear hs0 hw0 hle0 hm0 hn0 hs1 hw1 hle1 hm1 hn1
  by_cases hl : x0.length ≤ 100
  · have hd0 : decide ((100 : Int) < x0.length) = false := by simp; omega
    go_enter Try.func6, Try.ntmps6
    go_wp2_with fail
    refine (law06_made a0 c0 w.heap.size x0 w _ HS.out HX.out (by omega) (Below.refl _ _) (Nat.le_refl _)).mono ?_
    rintro e w1 ⟨b1, S1, rfl, h1, h2, h3⟩
    have H1 := hid h1
    have H2 := hid h2
    clear h1 h2 h3
    go_wp2_with fail
    refine (hb_New x0.length w.heap.size (pA x0 x0.length) (List.replicate x0.length true) w _ (pA_full x0).symm rfl (by omega) H2.out H1.out.le _ rfl).mono ?_
    rintro e w2 ⟨b2, S2, rfl, h4, h5, -, h6⟩
    have hT : TW w.heap.size w w2 b2 S2 (pA x0 x0.length) (List.replicate x0.length true) b1 S1 (0 :: x0) (List.replicate x0.length true) :=
      ⟨h4, hb_touch H1.out (T := fun k => w1.heap.size ≤ k) (touch_of_below h5) (fun k hk => by have := (H1.out.at' k hk).2; omega) (fun k hk => by have := H1.out.le; omega), fun k hk2 hk => by have h7 := (H1.out.at' k hk).2; have h8 := h6 k hk2; omega⟩
    have HT := hid hT
    clear hT h4 h5 h6
    go_wp2_with fail
    refine (tw_all b2 _ _ _ (List.replicate x0.length true) b1 _ _ _ w _ HT.out (by simp; omega)).mono ?_
    rintro e w3 ⟨a3, c3, rfl, -, h7, -⟩
    rw [List.length_replicate, ← pI_full] at h7
    have HT3 := hid h7
    clear h7 HT H1 H2
    have hwr0 : IntKind.i64.wrap ((x0.length : Int) - 1) = (x0.length : Int) - 1 := IntWalk.i64_in _ (by omega)
    go_wp2_with fail
    go_loopw [8] (fun s8 wr => ∃ (k : Nat) (z : Int) (S : Nat → Prop), s8 = .int .i64 z ∧ Hid (z = (k : Int) - 1) ∧ k ≤ x0.length ∧ Hid (TW w.heap.size w wr b2 S (pA x0 k) (pI x0.length k) b1 S1 (0 :: x0) (List.replicate x0.length true))) (fun s8 _ => (intOf s8 + 1).toNat)
    case atStart => exact ⟨x0.length, _, S2, rfl, rfl, Nat.le_refl _, HT3⟩
    case round =>
      clear hwr0 HT3
      obtain ⟨k, z, S, rfl, hz, hk, ht⟩ := hrel
      cases k with
      | zero =>
        obtain rfl : z = -1 := by have := hz.out; omega
        rw [pA_zero, pI_zero] at ht
        clear hz
        go_wp2_with fail
        refine (tw_all b1 _ _ (0 :: x0) (List.replicate x0.length true) b2 _ (0 :: x0) _ w _ ht.out.symm (by simp; omega)).mono ?_
        rintro e w7 ⟨a7, c7, rfl, ho7, ht7, -⟩
        have HO7 := hid ho7
        have HT7 := hid ht7
        clear ho7 ht7
        go_wp2_with fail
        refine (tw_all b2 _ _ (0 :: x0) (List.replicate x0.length true) b1 _ (0 :: x0) _ w _ HT7.out.symm (by simp; omega)).mono ?_
        rintro e w8 ⟨a8, c8, rfl, ho8, ht8, hu8⟩
        have HO7b := hid (own_touch HO7.out hu8 fun k hk => (ht.out.one.at' k hk).2)
        have HO8 := hid ho8
        have HT8 := hid ht8
        clear ho8 ht8 hu8
        go_wp2_with fail
        refine (law06_same a7 a8 (popAll (0 :: x0) (List.replicate x0.length true)) (popAll (0 :: x0) (List.replicate x0.length true)) c7 c8 _ (rowV HO7b.out) (rowV HO8.out) (by rw [popAll_length _ _ _ rfl, List.countP_replicate]; simp; omega)).mono ?_
        rintro e w9 ⟨rfl, n9, rfl⟩
        have heq : eqI (popAll (0 :: x0) (List.replicate x0.length true)) (popAll (0 :: x0) (List.replicate x0.length true)) = true := by simp [eqI]
        rw [heq]
        clear heq
        go_wp2_with fail
        refine (law06_known _).mono ?_
        rintro e w10 ⟨rfl, hb10⟩
        have HB10 := hid hb10
        clear hb10
        go_wp2_with fail
        go_ret
        exact ⟨rfl, (below_dr HT8.out.one.bel n9).trans (HB10.out.mono HT8.out.one.le)⟩
      | succ j =>
        obtain rfl : z = (j : Int) := by have := hz.out; omega
        clear hz
        have hj : j < x0.length := hk
        obtain ⟨ba, oa, x, rfl, hcx, hxk⟩ := slv_intK (HS.out.below ht.out.one.bel) hj
        have hxb := HX.out x (List.mem_of_getElem? hxk)
        have HXK := hid hxk
        have q1 : (0 : Int) ≤ j := by omega
        have q2 : (j : Int) < x0.length := by omega
        have hwk : IntKind.i64.wrap ((j : Int) + 1) = (j : Int) + 1 := IntWalk.i64_in _ (by omega)
        clear hxk
        by_cases hp : 0 < x1.length
        · have e1 : decide ((0 : Int) < x1.length) = true := decide_eq_true (by omega)
          obtain ⟨m, hm⟩ : ∃ m, j % x1.length = m := ⟨_, rfl⟩
          have hml : m < x1.length := by rw [← hm]; exact Nat.mod_lt _ hp
          obtain ⟨bp, op, p, rfl, hcp, hpk⟩ := slv_intK (HS1.out.below ht.out.one.bel) hml
          have hpb := HX1.out p (List.mem_of_getElem? hpk)
          have e2 : (j : Int).tmod (x1.length : Int) = (m : Int) := by rw [← hm, ← Int.ofNat_tmod]
          have e3 : IntKind.i64.wrap (m : Int) = (m : Int) := IntWalk.i64_in _ (by omega)
          have e4 : (m : Int) < x1.length := by omega
          have e5 : (0 : Int) ≤ m := by omega
          have e6 : ¬ (x1.length : Int) = 0 := by omega
          clear hpk hm
          go_wp2_with fail
          go_region
          all_goals go_wp2_with fail
          · have g1 := parts_one (xs := x0) (k := j) (n := x0.length) (y := 0) hj rfl (by omega)
            have g2 := parts_two (n := x0.length) (y := x) (d := 0) HXK.out rfl (by omega) (by omega) (by omega)
            have g3 := parts_push (n := x0.length) hj
            have G1 := hid g1
            have G2 := hid g2
            have G3 := hid g3
            clear g1 g2 g3
            refine (tw_Bump b2 _ S (pA x0 (j + 1)) ((pA x0 (j + 1)).set (j + 1) 0) (pI x0.length (j + 1)) b1 S1 (0 :: x0) (List.replicate x0.length true) ((j : Int) + 1) 0 0 w _ (by rw [pI_length hj]; exact G1.out.1) (by rw [pI_length hj]; exact G1.out.2) (tw_drew ht.out)).mono ?_
            rintro e wa ⟨rfl, ha⟩
            have HA := hid ha
            clear ha
            go_wp2_with fail
            refine (tw_Push b2 _ S _ (pI x0.length (j + 1)) (pI x0.length j) b1 S1 (0 :: x0) (List.replicate x0.length true) ((j : Int) + 1) 0 w _ (by rw [pI_length hj]; exact G3.out.1) G3.out.2 HA.out).mono ?_
            rintro e wb ⟨rfl, Sb, hb, -, -⟩
            have HB' := hid hb
            clear hb
            go_wp2_with fail
            refine (tw_Bump b2 _ Sb _ (pA x0 j) (pI x0.length j) b1 S1 (0 :: x0) (List.replicate x0.length true) ((j : Int) + 1) x 0 w _ (by rw [pI_length (by omega)]; exact G2.out.1) (by rw [pI_length (by omega)]; exact G2.out.2) HB'.out).mono ?_
            rintro e wd ⟨rfl, hd⟩
            have HD := hid hd
            clear hd
            have hwm : IntKind.i64.wrap ((j : Int) - 1) = (j : Int) - 1 := IntWalk.i64_in _ (by omega)
            go_wp2_with fail
            go_roundw
            case rel => exact ⟨j, _, Sb, rfl, rfl, by omega, HD⟩
            case measure => simp [intOf]
          · have g1 := parts_one (xs := x0) (k := j) (n := x0.length) (y := (x - p)) hj rfl (by omega)
            have g2 := parts_two (n := x0.length) (y := p) (d := (x - p)) HXK.out rfl (by omega) (by omega) (by omega)
            have g3 := parts_push (n := x0.length) hj
            have G1 := hid g1
            have G2 := hid g2
            have G3 := hid g3
            clear g1 g2 g3
            refine (tw_Bump b2 _ S (pA x0 (j + 1)) ((pA x0 (j + 1)).set (j + 1) (x - p)) (pI x0.length (j + 1)) b1 S1 (0 :: x0) (List.replicate x0.length true) ((j : Int) + 1) (x - p) 0 w _ (by rw [pI_length hj]; exact G1.out.1) (by rw [pI_length hj]; exact G1.out.2) (tw_drew ht.out)).mono ?_
            rintro e wa ⟨rfl, ha⟩
            have HA := hid ha
            clear ha
            go_wp2_with fail
            refine (tw_Push b2 _ S _ (pI x0.length (j + 1)) (pI x0.length j) b1 S1 (0 :: x0) (List.replicate x0.length true) ((j : Int) + 1) 0 w _ (by rw [pI_length hj]; exact G3.out.1) G3.out.2 HA.out).mono ?_
            rintro e wb ⟨rfl, Sb, hb, -, -⟩
            have HB' := hid hb
            clear hb
            go_wp2_with fail
            refine (tw_Bump b2 _ Sb _ (pA x0 j) (pI x0.length j) b1 S1 (0 :: x0) (List.replicate x0.length true) ((j : Int) + 1) p 0 w _ (by rw [pI_length (by omega)]; exact G2.out.1) (by rw [pI_length (by omega)]; exact G2.out.2) HB'.out).mono ?_
            rintro e wd ⟨rfl, hd⟩
            have HD := hid hd
            clear hd
            have hwm : IntKind.i64.wrap ((j : Int) - 1) = (j : Int) - 1 := IntWalk.i64_in _ (by omega)
            go_wp2_with fail
            go_roundw
            case rel => exact ⟨j, _, Sb, rfl, rfl, by omega, HD⟩
            case measure => simp [intOf]
        · have e1 : decide ((0 : Int) < x1.length) = false := decide_eq_false (by omega)
          go_wp2_with fail
          have g1 := parts_one (xs := x0) (k := j) (n := x0.length) (y := x) hj rfl (by omega)
          have g2 := parts_two (n := x0.length) (y := 0) (d := x) HXK.out rfl (by omega) (by omega) (by omega)
          have g3 := parts_push (n := x0.length) hj
          have G1 := hid g1
          have G2 := hid g2
          have G3 := hid g3
          clear g1 g2 g3
          refine (tw_Bump b2 _ S (pA x0 (j + 1)) ((pA x0 (j + 1)).set (j + 1) x) (pI x0.length (j + 1)) b1 S1 (0 :: x0) (List.replicate x0.length true) ((j : Int) + 1) x 0 w _ (by rw [pI_length hj]; exact G1.out.1) (by rw [pI_length hj]; exact G1.out.2) ht.out).mono ?_
          rintro e wa ⟨rfl, ha⟩
          have HA := hid ha
          clear ha
          go_wp2_with fail
          refine (tw_Push b2 _ S _ (pI x0.length (j + 1)) (pI x0.length j) b1 S1 (0 :: x0) (List.replicate x0.length true) ((j : Int) + 1) 0 w _ (by rw [pI_length hj]; exact G3.out.1) G3.out.2 HA.out).mono ?_
          rintro e wb ⟨rfl, Sb, hb, -, -⟩
          have HB' := hid hb
          clear hb
          go_wp2_with fail
          refine (tw_Bump b2 _ Sb _ (pA x0 j) (pI x0.length j) b1 S1 (0 :: x0) (List.replicate x0.length true) ((j : Int) + 1) 0 0 w _ (by rw [pI_length (by omega)]; exact G2.out.1) (by rw [pI_length (by omega)]; exact G2.out.2) HB'.out).mono ?_
          rintro e wd ⟨rfl, hd⟩
          have HD := hid hd
          clear hd
          have hwm : IntKind.i64.wrap ((j : Int) - 1) = (j : Int) - 1 := IntWalk.i64_in _ (by omega)
          go_wp2_with fail
          go_roundw
          case rel => exact ⟨j, _, Sb, rfl, rfl, by omega, HD⟩
          case measure => simp [intOf]
  · have hd0 : decide ((100 : Int) < x0.length) = true := by simp; omega
    go_enter Try.func6, Try.ntmps6
    go_wp2_with (go_at_call 11; refine (law06_known _).mono ?_; rintro e w' ⟨rfl, hb⟩)
    go_ret
    exact ⟨rfl, hb⟩

end Go.Proofs.Ytfhpjaabcegefaa.Ord
