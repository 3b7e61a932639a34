/- The walk of OrderMatches. -/
import Derived.Test.YtfhpjaabcegefaaWEnds
namespace Go.Proofs.Ytfhpjaabcegefaa.Ord
open Go.RowKit

set_option maxRecDepth 100000 in
set_option maxHeartbeats 8000000 in
theorem walk_OrderMatches (n : Int) (v1 : Value) (x1 : List (Int × Int × Int)) (w : World) (g0 : (Lit.int .i64 n).wf = true) (w1 : ArgC w v1 x1) :
    Calls Try.prog 9 #[.int .i64 n, v1] w fun e w' => e = .returned (.bool true) ∧ Below w.heap.size w w' := by
  obtain ⟨a0, c0, rfl, hle0, hm0, hn0, hs0⟩ := w1
  have HS := hid hs0
  clear hs0 hle0 hm0 hn0 g0
  by_cases hl : x1.length ≤ 200
  · have hd0 : decide ((200 : Int) < x1.length) = false := by simp; omega
    by_cases hbig : 300 < n ∧ n ≤ 1048576
    · have hd1 : decide ((300 : Int) < n) = true := decide_eq_true hbig.1
      have hd2 : decide (n ≤ 1048576) = true := decide_eq_true hbig.2
      clear hbig
      go_enter Try.func9, Try.ntmps9
      go_wp2_with (go_at_call 11; refine (law06_known _).mono ?_; rintro e w' ⟨rfl, hb⟩)
      go_ret
      exact ⟨rfl, hb⟩
    · by_cases hn : 0 ≤ n ∧ n ≤ 300
      · obtain ⟨m, rfl⟩ := Int.eq_ofNat_of_zero_le hn.1
        have hd1 : decide ((300 : Int) < m) = false := decide_eq_false (by omega)
        have hmb : m ≤ 300 := by omega
        clear hbig hn
        go_enter Try.func9, Try.ntmps9
        go_wp2_with fail
        refine (hb_New m w.heap.size (List.replicate (m + 1) 0) (List.replicate m true) w _ rfl rfl (by omega) (Below.refl _ _) (Nat.le_refl _) _ rfl).mono ?_
        rintro e w1 ⟨b1, S1, rfl, h1, -⟩
        have H1 := hid h1
        clear h1
        go_wp2_with fail
        refine (br_New m w.heap.size w _ (by omega) H1.out.le b1 S1 _ _ H1.out _ rfl).mono ?_
        rintro e w2 ⟨b2, rfl, h2⟩
        have H2 := hid h2
        clear h2 H1
        go_wp2_with fail
        go_loopw [9] (fun s9 wr => ∃ (k : Nat) (A : List Int) (J : List Bool), s9 = .int .i64 k ∧ k ≤ x1.length ∧ Hid (BR w.heap.size w wr b1 A J b2 A J)) (fun s9 _ => (x1.length - (intOf s9)).toNat)
        case atStart => exact ⟨0, _, _, rfl, Nat.zero_le _, H2⟩
        case round =>
          clear H2
          obtain ⟨k, A, J, rfl, hk, HH⟩ := hrel
          by_cases hlt : k < x1.length
          · obtain ⟨⟨q0, q1, q2⟩, hq⟩ : ∃ q, x1[k]? = some q := ⟨_, List.getElem?_eq_getElem hlt⟩
            obtain ⟨ba, oa, rfl, hca, hcb, hcc, wa, wb, wc⟩ := HS.out k _ hq
            have hk0 := below_keeps HH.out.bel _ _ hca
            have hk1 := below_keeps HH.out.bel _ _ hcb
            have hk2 := below_keeps HH.out.bel _ _ hcc
            have p1 : (k : Int) < x1.length := by omega
            have hwk : IntKind.i64.wrap ((k : Int) + 1) = (k : Int) + 1 := IntWalk.i64_in _ (by omega)
            have HCB := hid (And.intro hcb hcc)
            have hq0 := bounds_u8 wa
            have hwq : IntKind.u8.wrap (q0 % 5) = q0 % 5 := by simp [IntKind.wrap, IntKind.signed, IntKind.bits]; omega
            rcases (by omega : q0 % 5 = 0 ∨ q0 % 5 = 1 ∨ q0 % 5 = 2 ∨ q0 % 5 = 3 ∨ q0 % 5 = 4) with hm | hm | hm | hm | hm
            · obtain ⟨E, hE⟩ : ∃ E, bumpE A J.length q1 q2 = E := ⟨_, rfl⟩
              obtain ⟨A', hA'⟩ : ∃ A', bumpA A J.length q1 q2 = A' := ⟨_, rfl⟩
              have HE := hid (And.intro hE hA')
              have HD := hid HH.out.drew
              clear hca hcb hcc wa wb wc hq hE hA' HH
              have HH := HD
              clear HD
              go_wp2_with fail
              go_region_held3 (fun x => x.cell? ⟨ba, oa + k * 3 + 1, none⟩ = some (.int .i64 q1) ∧ x.cell? ⟨ba, oa + k * 3 + 2, none⟩ = some (.int .i64 q2)) (first | exact ⟨‹_›, ‹_›⟩ | go_keep) (first
                | (go_at_call 14; refine (br_BumpH b1 _ b2 A A' _ _ _ q1 q2 E w _ HE.out.1 HE.out.2 HH.out).mono ?_; rintro e w5 ⟨rfl, h5⟩; have k1 := below_keeps h5.bel _ _ HCB.out.1; have k2 := below_keeps h5.bel _ _ HCB.out.2; clear HH; have HH := hid h5; clear h5)
                | (go_at_call 15; refine (br_BumpQ b1 _ b2 _ _ A A' _ q1 q2 E w _ HE.out.1 HE.out.2 HH.out).mono ?_; rintro e w5 ⟨rfl, h5⟩; have k1 := below_keeps h5.bel _ _ HCB.out.1; have k2 := below_keeps h5.bel _ _ HCB.out.2; clear HH; have HH := hid h5; clear h5))
              go_wp2_with fail
              go_roundw
              case rel => exact ⟨k + 1, A', J, by simp, hlt, HH⟩
              case measure => simp [intOf]; omega
            · obtain ⟨v, hv⟩ : ∃ v, popV A J = v := ⟨_, rfl⟩
              obtain ⟨E, he⟩ : ∃ E, popE A J = E := ⟨_, rfl⟩
              obtain ⟨J', hJ⟩ : ∃ J', popIn A J = J' := ⟨_, rfl⟩
              have HP := hid (And.intro hv (And.intro hJ he))
              clear hca hcb hcc wa wb wc hq hv hJ he
              go_wp2_with fail
              refine (br_PopH b1 _ b2 A J J' A J v E w _ HP.out.1 HP.out.2.2 HP.out.2.1 HH.out).mono ?_
              rintro e w3 ⟨rfl, h3⟩
              have H3 := hid h3
              clear h3 HH
              go_wp2_with fail
              refine (br_PopQ b1 _ b2 A J' A J J' v E w _ HP.out.1 HP.out.2.2 HP.out.2.1 H3.out).mono ?_
              rintro e w4 ⟨rfl, h4⟩
              have H4 := hid h4
              clear h4 H3
              go_wp2_with fail
              go_roundw
              case rel => exact ⟨k + 1, A, J', by simp, hlt, H4⟩
              case measure => simp [intOf]; omega
            · obtain ⟨E, hE⟩ : ∃ E, pushE J.length q1 = E := ⟨_, rfl⟩
              obtain ⟨J', hJ⟩ : ∃ J', pushIn J q1 = J' := ⟨_, rfl⟩
              have HE := hid (And.intro hE hJ)
              have HD := hid HH.out.drew
              clear hca hcb hcc wa wb wc hq hE hJ HH
              have HH := HD
              clear HD
              go_wp2_with fail
              go_region_held3 (fun x => x.cell? ⟨ba, oa + k * 3 + 1, none⟩ = some (.int .i64 q1)) (first | assumption | go_keep) (first
                | (go_at_call 24; refine (br_PushH b1 _ b2 _ J J' _ _ q1 E w _ HE.out.1 HE.out.2 HH.out).mono ?_; rintro e w5 ⟨rfl, h5⟩; have k1 := below_keeps h5.bel _ _ HCB.out.1; clear HH; have HH := hid h5; clear h5)
                | (go_at_call 26; refine (br_PushQ b1 _ b2 _ _ _ J J' q1 E w _ HE.out.1 HE.out.2 HH.out).mono ?_; rintro e w5 ⟨rfl, h5⟩; have k1 := below_keeps h5.bel _ _ HCB.out.1; clear HH; have HH := hid h5; clear h5))
              go_wp2_with fail
              go_roundw
              case rel => exact ⟨k + 1, A, J', by simp, hlt, HH⟩
              case measure => simp [intOf]; omega
            · obtain ⟨r, hr⟩ : ∃ r, (decide (1 ≤ q1) && (J[(q1 - 1).toNat]? == some true)) = r := ⟨_, rfl⟩
              obtain ⟨c, hc⟩ : ∃ c, ((J.countP id : Nat) : Int) = c := ⟨_, rfl⟩
              have HR := hid (And.intro hr hc)
              clear hca hcb hcc wa wb wc hq hr hc
              go_wp2_with fail
              go_quiet ((first
                | (go_at_call 25; exact quiet_same (br_HasH b1 _ b2 A J A J q1 r w _ HR.out.1 (HH.out.drewN _)))
                | (go_at_call 27; exact quiet_same (br_HasQ b1 _ b2 A J A J q1 r w _ HR.out.1 (HH.out.drewN _)))
                | (go_at_call 18; exact quiet_same (br_LenH b1 _ b2 A J A J c w _ HR.out.2 (HH.out.drewN _)))
                | (go_at_call 19; exact quiet_same (br_LenQ b1 _ b2 A J A J c w _ HR.out.2 (HH.out.drewN _)))))
              go_wp2_with fail
              go_roundw
              case rel => exact ⟨k + 1, A, J, by simp, hlt, HH.out.drewN _⟩
              case measure => simp [intOf]; omega
            · obtain ⟨v, hv⟩ : ∃ v, popV A J = v := ⟨_, rfl⟩
              obtain ⟨E, he⟩ : ∃ E, popE A J = E := ⟨_, rfl⟩
              have HP := hid (And.intro hv he)
              clear hca hcb hcc wa wb wc hq hv he
              go_wp2_with fail
              refine (br_CopyH b1 _ b2 A J A J w _ HH.out).mono ?_
              rintro e w3 ⟨b3, S3, rfl, h3⟩
              have H3 := hid h3
              clear h3
              go_wp2_with fail
              refine (hb_Pop b3 _ S3 A J _ v E _ _ HP.out.1 HP.out.2 rfl H3.out).mono ?_
              rintro e w4 ⟨rfl, h4, -⟩
              have HH4 := hid (br_keep HH.out h4.bel)
              clear h4 H3 HH
              go_wp2_with fail
              refine (br_CopyQ b1 _ b2 A J A J w _ HH4.out).mono ?_
              rintro e w5 ⟨b5, S5, rfl, h5⟩
              have H5 := hid h5
              clear h5
              go_wp2_with fail
              refine (rb_Pop b5 _ S5 A J _ v E _ _ HP.out.1 HP.out.2 rfl H5.out).mono ?_
              rintro e w6 ⟨rfl, h6⟩
              have HH6 := hid (br_keep HH4.out h6.bel)
              clear h6 H5 HH4
              go_wp2_with fail
              go_roundw
              case rel => exact ⟨k + 1, A, J, by simp, hlt, HH6⟩
              case measure => simp [intOf]; omega
          · have hd3 : decide ((k : Int) < x1.length) = false := decide_eq_false (by omega)
            go_wp2_with fail
            refine (law06_known _).mono ?_
            rintro e w17 ⟨rfl, hb17⟩
            have HB17 := hid hb17
            clear hb17
            go_wp2_with fail
            go_ret
            exact ⟨rfl, HH.out.bel.trans (HB17.out.mono HH.out.le)⟩
      · have hnE : newE n = 3 := by unfold newE; rw [if_neg (by omega)]
        have HN := hid hnE
        rcases (by omega : n < 0 ∨ 1048576 < n) with hd1 | hd1
        · have e1 : decide ((300 : Int) < n) = false := decide_eq_false (by omega)
          clear hbig hn hnE
          go_enter Try.func9, Try.ntmps9
          go_wp2_with fail
          refine (order_NewF n _ HN.out).mono ?_
          rintro e wx ⟨rfl, rfl⟩
          go_wp2_with fail
          refine (ref_NewF n _ HN.out).mono ?_
          rintro e wx ⟨rfl, rfl⟩
          go_wp2_with fail
          go_loopw [9] (fun s9 wr => s9 = .int .i64 0 ∧ wr = w) (fun _ _ => 0)
          case atStart => exact ⟨rfl, rfl⟩
          case round =>
            obtain ⟨rfl, rfl⟩ := hrel
            go_wp2_with fail
            refine (law06_known _).mono ?_
            rintro e w17 ⟨rfl, hb17⟩
            go_wp2_with fail
            go_ret
            exact ⟨rfl, hb17⟩
        · have e1 : decide ((300 : Int) < n) = true := decide_eq_true (by omega)
          have e2 : decide (n ≤ 1048576) = false := decide_eq_false (by omega)
          clear hbig hn hnE
          go_enter Try.func9, Try.ntmps9
          go_wp2_with fail
          refine (order_NewF n _ HN.out).mono ?_
          rintro e wx ⟨rfl, rfl⟩
          go_wp2_with fail
          refine (ref_NewF n _ HN.out).mono ?_
          rintro e wx ⟨rfl, rfl⟩
          go_wp2_with fail
          go_loopw [9] (fun s9 wr => s9 = .int .i64 0 ∧ wr = w) (fun _ _ => 0)
          case atStart => exact ⟨rfl, rfl⟩
          case round =>
            obtain ⟨rfl, rfl⟩ := hrel
            go_wp2_with fail
            refine (law06_known _).mono ?_
            rintro e w17 ⟨rfl, hb17⟩
            go_wp2_with fail
            go_ret
            exact ⟨rfl, hb17⟩
  · have hd0 : decide ((200 : Int) < x1.length) = true := by simp; omega
    go_enter Try.func9, Try.ntmps9
    go_wp2_with (go_at_call 11; refine (law06_known _).mono ?_; rintro e w' ⟨rfl, hb⟩)
    go_ret
    exact ⟨rfl, hb⟩

end Go.Proofs.Ytfhpjaabcegefaa.Ord
