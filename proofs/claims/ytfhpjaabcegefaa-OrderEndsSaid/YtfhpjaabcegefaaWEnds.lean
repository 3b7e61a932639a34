/- The walk of OrderEnds. -/
import Derived.Test.YtfhpjaabcegefaaOpenC
namespace Go.Proofs.Ytfhpjaabcegefaa.Ord
open Go.RowKit

theorem bumpA_length (A : List Int) (n : Nat) (v x : Int) : (bumpA A n v x).length = A.length := by unfold bumpA; split <;> simp

/-- How many items a heap has, out of its memory. -/
def lenAt (w : World) (b : Nat) : Nat := match w.cell? ⟨b, 1, none⟩ with
  | some (.slice _ n _) => n
  | _ => 0

theorem lenAt_heap {w : World} {b : Nat} {S : Nat → Prop} {A : List Int} {In : List Bool} (h : Heap w b S A In) : lenAt w b = In.countP id := by
  obtain ⟨va, vi, vp, I, P, h1, h2, h3, h4, h5, h6, h7, h8, h9⟩ := h
  obtain ⟨-, hc1, -⟩ := hrep_cells h1
  obtain ⟨a, c, rfl, -⟩ := rw_shape h1.ri
  unfold lenAt
  rw [hc1]
  exact in_count h3 h4 h6

theorem lenAt_br {B : Nat} {w0 w : World} {b b2 : Nat} {A A2 : List Int} {In In2 : List Bool} (h : BR B w0 w b A In b2 A2 In2) : lenAt w b = In.countP id := by
  obtain ⟨S, S2, h1, h2, h3⟩ := h
  exact lenAt_heap h1.heap

set_option maxRecDepth 100000 in
set_option maxHeartbeats 4000000 in
theorem walk_OrderEnds (n : Int) (v1 : Value) (x1 : List (Int × Int × Int)) (w : World) (g0 : (Lit.int .u8 n).wf = true) (w1 : ArgC w v1 x1) :
    Calls Try.prog 3 #[.int .u8 n, v1] w fun e w' => e = .returned (.bool true) ∧ Below w.heap.size w w' := by
  obtain ⟨a0, c0, rfl, hle0, hm0, hn0, hs0⟩ := w1
  have HS := hid hs0
  have hb1 := bounds_u8 g0
  clear hs0 hle0 hm0 hn0 g0
  by_cases hl : x1.length ≤ 100
  · have hd0 : decide ((100 : Int) < x1.length) = false := by simp; omega
    obtain ⟨m, hm⟩ : ∃ m : Nat, n % 60 = (m : Int) := ⟨(n % 60).toNat, by omega⟩
    have hmb : m < 60 := by omega
    have hwn : IntKind.i64.wrap n = n := IntWalk.i64_in _ (by omega)
    have hw1 : IntKind.i64.wrap (1 + n % 60) = 1 + n % 60 := IntWalk.i64_in _ (by omega)
    have HM := hid hm
    clear hm
    go_enter Try.func3, Try.ntmps3
    go_wp2_with fail
    refine (hb_New (m + 1) w.heap.size (List.replicate (m + 1 + 1) 0) (List.replicate (m + 1) true) w _ rfl rfl (by omega) (Below.refl _ _) (Nat.le_refl _) _ (by have := HM.out; omega)).mono ?_
    rintro e w1 ⟨b1, S1, rfl, h1, -⟩
    have H1 := hid h1
    clear h1
    go_wp2_with fail
    refine (br_New (m + 1) w.heap.size w _ (by omega) H1.out.le b1 S1 _ _ H1.out _ (by have := HM.out; omega)).mono ?_
    rintro e w2 ⟨b2, rfl, h2⟩
    have H2 := hid h2
    clear h2 H1
    go_wp2_with fail
    go_loopw [9] (fun s9 wr => ∃ (k : Nat) (A : List Int), s9 = .int .i64 k ∧ k ≤ x1.length ∧ Hid (BR w.heap.size w wr b1 A (List.replicate (m + 1) true) b2 A (List.replicate (m + 1) true))) (fun s9 _ => (x1.length - (intOf s9)).toNat)
    case atStart => exact ⟨0, _, rfl, Nat.zero_le _, H2⟩
    case round =>
      clear H2
      obtain ⟨k, A, rfl, hk, hh⟩ := hrel
      by_cases hlt : k < x1.length
      · obtain ⟨⟨q0, q1, q2⟩, hq⟩ : ∃ q, x1[k]? = some q := ⟨_, List.getElem?_eq_getElem hlt⟩
        obtain ⟨ba, oa, rfl, hca, hcb, hcc, wa, wb, wc⟩ := HS.out k _ hq
        have hk1 := below_keeps hh.out.bel _ _ hcb
        have hk2 := below_keeps hh.out.bel _ _ hcc
        have p1 : (k : Int) < x1.length := by omega
        have hwk : IntKind.i64.wrap ((k : Int) + 1) = (k : Int) + 1 := IntWalk.i64_in _ (by omega)
        have HCB := hid (And.intro hcb hcc)
        obtain ⟨E, hE⟩ : ∃ E, bumpE A (List.replicate (m + 1) true).length q1 q2 = E := ⟨_, rfl⟩
        obtain ⟨A', hA'⟩ : ∃ A', bumpA A (List.replicate (m + 1) true).length q1 q2 = A' := ⟨_, rfl⟩
        have HE := hid (And.intro hE hA')
        have HH := hid hh.out.drew
        clear hca hcb hcc wa wb wc hq hE hA' hh
        go_wp2_with fail
        go_region_held3 (fun x => x.cell? ⟨ba, oa + k * 3 + 1, none⟩ = some (.int .i64 q1) ∧ x.cell? ⟨ba, oa + k * 3 + 2, none⟩ = some (.int .i64 q2)) (first | exact ⟨‹_›, ‹_›⟩ | go_keep) (first
          | (go_at_call 14; refine (br_BumpH b1 _ b2 A A' _ _ _ q1 q2 E w _ HE.out.1 HE.out.2 HH.out).mono ?_; rintro e w5 ⟨rfl, h5⟩; have k1 := below_keeps h5.bel _ _ HCB.out.1; have k2 := below_keeps h5.bel _ _ HCB.out.2; clear HH; have HH := hid h5; clear h5)
          | (go_at_call 15; refine (br_BumpQ b1 _ b2 _ _ A A' _ q1 q2 E w _ HE.out.1 HE.out.2 HH.out).mono ?_; rintro e w5 ⟨rfl, h5⟩; have k1 := below_keeps h5.bel _ _ HCB.out.1; have k2 := below_keeps h5.bel _ _ HCB.out.2; clear HH; have HH := hid h5; clear h5))
        go_wp2_with fail
        go_roundw
        case rel => exact ⟨k + 1, A', by simp, hlt, HH⟩
        case measure => simp [intOf]; omega
      · have hd1 : decide ((k : Int) < x1.length) = false := decide_eq_false (by omega)
        have HH := hh
        clear hh
        go_wp2_with fail
        go_loopw [10] (fun s10 wr => ∃ J : List Bool, s10 = s10 ∧ Hid (BR w.heap.size w wr b1 A J b2 A J)) (fun _ wr => lenAt wr b1)
        case atStart => exact ⟨_, rfl, HH⟩
        case round =>
          clear HH
          obtain ⟨J, -, HJ⟩ := hrel
          obtain ⟨v, hv⟩ : ∃ v, popV A J = v := ⟨_, rfl⟩
          obtain ⟨J', hJ⟩ : ∃ J', popIn A J = J' := ⟨_, rfl⟩
          by_cases hz : popV A J = 0
          · have he : popE A J = 6 := by unfold popE; rw [if_pos hz]
            have HP := hid (And.intro hv (And.intro hJ he))
            clear hv hJ he hz
            go_wp2_with fail
            refine (br_PopH b1 _ b2 A J J' A J v 6 w _ HP.out.1 HP.out.2.2 HP.out.2.1 HJ.out).mono ?_
            rintro e w3 ⟨rfl, h3⟩
            have H3 := hid h3
            clear h3
            go_wp2_with fail
            refine (br_PopQ b1 _ b2 A J' A J J' v 6 w _ HP.out.1 HP.out.2.2 HP.out.2.1 H3.out).mono ?_
            rintro e w4 ⟨rfl, h4⟩
            have H4 := hid h4
            clear h4
            go_wp2_with fail
            refine (br_LenH b1 _ b2 A J' A J' _ w _ rfl H4.out).mono ?_
            rintro e w5 ⟨rfl, rfl⟩
            go_wp2_with fail
            refine (br_LenQ b1 _ b2 A J' A J' _ w _ rfl H4.out).mono ?_
            rintro e w5 ⟨rfl, rfl⟩
            go_wp2_with fail
            refine (law06_known _).mono ?_
            rintro e w17 ⟨rfl, hb17⟩
            have HB17 := hid hb17
            clear hb17
            go_wp2_with fail
            go_ret
            exact ⟨rfl, H4.out.bel.trans (HB17.out.mono H4.out.le)⟩
          · have he : popE A J = 0 := by unfold popE; rw [if_neg hz]
            have hcnt := popIn_count hz
            rw [hJ] at hcnt
            have HP := hid (And.intro hv (And.intro hJ he))
            have HC := hid hcnt
            clear hv hJ he hz hcnt
            go_wp2_with fail
            refine (br_PopH b1 _ b2 A J J' A J v 0 w _ HP.out.1 HP.out.2.2 HP.out.2.1 HJ.out).mono ?_
            rintro e w3 ⟨rfl, h3⟩
            have H3 := hid h3
            clear h3
            go_wp2_with fail
            refine (br_PopQ b1 _ b2 A J' A J J' v 0 w _ HP.out.1 HP.out.2.2 HP.out.2.1 H3.out).mono ?_
            rintro e w4 ⟨rfl, h4⟩
            have H4 := hid h4
            clear h4
            go_wp2_with fail
            refine (br_LenH b1 _ b2 A J' A J' _ w _ rfl H4.out).mono ?_
            rintro e w5 ⟨rfl, rfl⟩
            go_wp2_with fail
            refine (br_LenQ b1 _ b2 A J' A J' _ w _ rfl H4.out).mono ?_
            rintro e w5 ⟨rfl, rfl⟩
            go_wp2_with fail
            go_roundw
            case rel => exact ⟨J', by trivial, H4⟩
            case measure =>
              show lenAt _ b1 < lenAt _ b1
              rw [lenAt_br H4.out, lenAt_br HJ.out]
              have := HC.out
              omega
  · have hd0 : decide ((100 : Int) < x1.length) = true := by simp; omega
    go_enter Try.func3, Try.ntmps3
    go_wp2_with (go_at_call 11; refine (law06_known _).mono ?_; rintro e w' ⟨rfl, hb⟩)
    go_ret
    exact ⟨rfl, hb⟩

end Go.Proofs.Ytfhpjaabcegefaa.Ord
