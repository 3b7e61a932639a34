/- The contract of lit.sorted at the order lit.Less. -/
import Derived.Test.YtacmfiikdbekbaaProg
import Derived.ProofKit
import Derived.OpenShut
import Derived.ChangeOld
import Derived.Lib.SmallJoins
import Derived.Deep.Slices
import Derived.Deep.Matrix
import Derived.Deep.CutBlock
import Derived.Deep.OwnRows
import Derived.WideMake
import Derived.Deep.DrawnRows
import Derived.Test.YtacmfiikdbekbaaQ1
import Derived.Test.YtacmfiikdbekbaaQ0

namespace Go.Proofs.Ytacmfiikdbekbaa
open Go.RowKit

set_option maxHeartbeats 4000000 in
theorem lit_sorted (n : Nat) : ∀ (a : Option Addr) (xs : List Int) (m cap : Nat) (w : World), xs.length ≤ n → m = xs.length → m ≤ cap → (a = none → cap = 0) → SlV w a (ints xs) → (∀ x ∈ xs, I64 x) → xs.length ≤ 4294967296 →
    Calls Try.prog 48 #[.slice a m cap, .func (.func 15) #[] #[]] w fun e w' =>
      ∃ v, e = .returned v ∧ w'.ownsRow w.heap.size 3 1 v (msort n xs).length (ints (msort n xs)) ∧ Below w.heap.size w w' := by
  induction n with
  | zero =>
    intro a xs m cap w hn hm hcap hc0 hs hx hl
    have hx0 : xs = [] := List.eq_nil_of_length_eq_zero (by omega)
    exact lit_sorted_short a xs m cap w hm hc0 hs (by rw [hx0]; decide)
  | succ n ih =>
    intro a xs m cap w hn hm hcap hc0 hs hx hl
    by_cases h2 : xs.length < 2
    · have := lit_sorted_short a xs m cap w hm hc0 hs h2
      rw [msort, if_pos h2]
      exact this
    clear hc0
    subst hm
    obtain ⟨B, hB⟩ : ∃ B, B = w.heap.size := ⟨_, rfl⟩
    rw [← hB]
    have HB := hid hB
    have H := hid hx
    have IH := hid ih
    clear hB hx ih
    · obtain ⟨b0, off0, x0, rfl, -, -⟩ := hs.int (show 0 < xs.length by omega)
      have hd : decide ((xs.length : Int) < 2) = false := by simp; omega
      obtain ⟨hf, hh⟩ : ∃ hf : Nat, xs.length / 2 = hf := ⟨_, rfl⟩
      have hh1 : (xs.length : Int) / 2 = hf := by omega
      have hh2 : 2 * hf ≤ xs.length := by omega
      have hh3 : xs.length ≤ 2 * hf + 1 := by omega
      have hh4 : 1 ≤ hf := by omega
      have hh5 : hf < cap := by omega
      have HH := hid hh
      clear hh h2
      have hsA : SlV w (some ⟨b0, off0, none⟩) (ints (xs.take hf)) := by rw [ints_take]; exact hs.take hf
      have hsB : SlV w (some ⟨b0, off0 + hf, none⟩) (ints (xs.drop hf)) := by rw [ints_drop]; exact hs.drop hf
      go_enter Try.func48, Try.ntmps48
      go_wp2_with fail
      have HH1 := hid hh1
      clear hh1
      go_cut [6, 7] (fun s6 s7 wx => Hid (SlI wx s6 (msort n (xs.take hf))) ∧ Hid (SlI wx s7 (msort n (xs.drop hf))) ∧ Below B w wx)
      case first =>
        go_region_with (first
          | (go_at_call_of 48 (Value.slice (some ⟨b0, off0, none⟩) hf hf); refine (IH.out _ (xs.take hf) _ _ _ (by simp; omega) (by simp; omega) (Nat.le_refl _) (by nofun) ?_ (fun x hx => H.out x (List.mem_of_mem_take hx)) (by simp; omega)).mono ?_; exact hsA; rintro e w1 ⟨v1, rfl, ho1, hb1⟩)
          | (go_at_call 48; refine (IH.out _ (xs.drop hf) _ _ _ (by simp; omega) (by simp) (by omega) (by nofun) ?_ (fun x hx => H.out x (List.mem_of_mem_drop hx)) (by simp; omega)).mono ?_; exact SlV.below (w := w.drew) hsB hb1; rintro e w2 ⟨v2, rfl, ho2, hb2⟩))
        all_goals
          have R1 : SlI w2 v1 (msort n (xs.take hf)) := (own_sli ho1).below hb2
          have R2 : SlI w2 v2 (msort n (xs.drop hf)) := own_sli ho2
          have R3 : Below B w w2 := by rw [HB.out]; exact (((Below.refl _ w).drew).trans hb1).trans (hb2.mono hb1.size)
          clear ho1 ho2 hb1 hb2
          go_wp2_with fail
          go_meet
          case rel => exact ⟨R1, R2, R3⟩
      case rest =>
        obtain ⟨RA, RB, hb0⟩ := hcut
        obtain ⟨A, hA⟩ : ∃ A, A = msort n (xs.take hf) := ⟨_, rfl⟩
        obtain ⟨C, hC⟩ : ∃ C, C = msort n (xs.drop hf) := ⟨_, rfl⟩
        rw [← hA] at RA
        rw [← hC] at RB
        have HA := hid hA
        have HC := hid hC
        have hlA : A.length ≤ hf := by rw [hA]; have := msort_length n (xs.take hf); simp at this; omega
        have hlC : C.length ≤ xs.length - hf := by rw [hC]; have := msort_length n (xs.drop hf); simpa using this
        have hxA : ∀ x ∈ A, I64 x := fun x hx => H.out x (List.mem_of_mem_take (mem_msort n _ (hA ▸ hx)))
        have hxC : ∀ x ∈ C, I64 x := fun x hx => H.out x (List.mem_of_mem_drop (mem_msort n _ (hC ▸ hx)))
        clear hA hC
        have HXA := hid hxA
        have HXC := hid hxC
        clear hxA hxC hd hs hsA hsB
        obtain ⟨a1, c1, rfl, hle1, hn1, hs1⟩ := RA
        obtain ⟨a2, c2, rfl, hle2, hn2, hs2⟩ := RB
        obtain ⟨i0, hi, hz0, hz1, hz2⟩ := info_parts info_int
        have HN1 := hid hn1
        have HN2 := hid hn2
        clear hn1 hn2
        have hbs := hb0.size
        go_wp2_with (at_make; refine wpList_make_own _ rfl _ _ 22 rfl wc.heap.size 3 i0 (.int .i64 0) 1 Try.underlying22 hi hz0 hz1 _ _ _ (A.length + C.length) rfl rfl (by omega) (by rw [hz2]; omega) (by unfold maxLen; omega) (Nat.le_refl _) ?_; intro w3 hown3 hgrow3)
        have hb3 : Below wc.heap.size wc w3 := (Below.refl _ _).grown hgrow3 (Nat.le_refl _) (by simp)
        have HO3 := hid hown3
        clear hown3 hgrow3
        go_wp2_with fail
        go_loopw [6, 7, 8] (fun s6 s7 s8 wr => ∃ l1 l2 lo : List Int, Hid (SlI wc s6 l1) ∧ Hid (SlI wc s7 l2) ∧ Hid (wr.ownsRow wc.heap.size 3 1 s8 lo.length (ints lo)) ∧ Below wc.heap.size wc wr ∧ Hid (lo ++ mrg l1 l2 = mrg A C) ∧
            Hid (∀ x ∈ l1, I64 x) ∧ Hid (∀ x ∈ l2, I64 x) ∧ l1.length + l2.length + lo.length ≤ 4294967296) (fun s6 s7 _ _ => lenOfV s6 + lenOfV s7)
        case atStart => exact ⟨A, C, [], ⟨a1, c1, rfl, hle1, HN1.out, hs1⟩, ⟨a2, c2, rfl, hle2, HN2.out, hs2⟩, HO3.out, hb3, rfl, HXA, HXC, by simp; omega⟩
        case round =>
          obtain ⟨l1, l2, lo, RA, RB, RO, hbr, HM, HXa, HXb, htot⟩ := hrel
          obtain ⟨a1, c1, rfl, hle1, hn1, hs1⟩ := RA
          obtain ⟨a2, c2, rfl, hle2, hn2, hs2⟩ := RB
          have HN1 := hid hn1
          have HN2 := hid hn2
          clear hn1 hn2 HO3 hb3
          have hbz := hbr.size
          by_cases hex : l1 = [] ∨ l2 = []
          · have hmrg : mrg l1 l2 = l1 ++ l2 := by rcases hex with h | h <;> subst h <;> simp [mrg_nil_left, mrg_nil_right]
            have HMR := hid hmrg
            clear hmrg
            have hsr1 := hs1.below hbr
            have hsr2 := hs2.below hbr
            have hd : decide (0 < l1.length) = false ∨ (decide (0 < l1.length) = true ∧ decide (0 < l2.length) = false) := by
              rcases hex with h | h
              · subst h; simp
              · subst h
                cases l1 with
                | nil => simp
                | cons x l => right; exact ⟨by simp, by simp⟩
            clear hex
            rcases hd with hd1 | ⟨hd1, hd2⟩
            all_goals
              go_wp2_with (first
                | (at_builtin; refine wpList_append_sl _ rfl (.tmp 78) (.tmp 79) 22 rfl wc.heap.size 3 i0 (.int .i64 0) 8 Try.underlying22 hi hz0 hz1 hz2 rfl _ lo.length (ints lo) rfl RO.out _ l1.length _ (ints l1) rfl hsr1 (by simp) HN1.out ints_one (by unfold maxLen; omega) (by omega) hbz ?_; intro v8 w8 ho8 hg8; have hb8 : Below wc.heap.size wc w8 := hbr.grown hg8 hbz (fun q hq => (RO.out.lt q hq).1); have HO8 := hid ho8; have hbz8 := hb8.size; have hsr3 := hs2.below hb8; clear ho8 hg8)
                | (at_builtin; refine wpList_append_sl _ rfl (.tmp 80) (.tmp 81) 22 rfl wc.heap.size 3 i0 (.int .i64 0) 8 Try.underlying22 hi hz0 hz1 hz2 rfl _ _ _ rfl HO8.out _ l2.length _ (ints l2) rfl hsr3 (by simp) HN2.out ints_one (by unfold maxLen; omega) (by omega) hbz8 ?_; intro v9 w9 ho9 hg9; have hb9 : Below wc.heap.size wc w9 := hb8.grown hg9 hbz8 (fun q hq => (HO8.out.lt q hq).1); have HO9 := hid ho9; clear ho9 hg9))
              have hms : msort (n + 1) xs = lo ++ l1 ++ l2 := by
                rw [msort, if_neg (by omega), HH.out, ← HA.out, ← HC.out, ← HM.out, HMR.out, List.append_assoc]
              have HMS := hid hms
              clear hms
              go_ret
              refine ⟨_, rfl, ?_, ?_⟩
              · rw [HMS.out, ints_append, ints_append, List.length_append, List.length_append]
                exact own_base HO9.out (by have := HB.out; omega)
              · exact hb0.trans (hb9.mono (by have := HB.out; omega))
          · obtain ⟨x, l1', rfl⟩ : ∃ x l, l1 = x :: l := by
              cases l1 with
              | nil => exact (hex (Or.inl rfl)).elim
              | cons x l => exact ⟨x, l, rfl⟩
            obtain ⟨y, l2', rfl⟩ : ∃ x l, l2 = x :: l := by
              cases l2 with
              | nil => exact (hex (Or.inr rfl)).elim
              | cons x l => exact ⟨x, l, rfl⟩
            clear hex
            have hx64 : I64 x := HXa.out x (by simp)
            have hy64 : I64 y := HXb.out y (by simp)
            obtain ⟨b1, o1, rfl, hcx⟩ := (hs1.below hbr).head
            obtain ⟨b2, o2, rfl, hcy⟩ := (hs2.below hbr).head
            obtain ⟨A1, hrun1, hst1⟩ := tail_run (P := Try.prog) (t := 22) (e := 3) Try.underlying22 (fun wx => by simp [sizeOf, typeInfo, hi, hz1]) (n := l1'.length + 1) hs1 (by simp) hle1
            rw [List.length_map] at hrun1
            obtain ⟨A2, hrun2, hst2⟩ := tail_run (P := Try.prog) (t := 22) (e := 3) Try.underlying22 (fun wx => by simp [sizeOf, typeInfo, hi, hz1]) (n := l2'.length + 1) hs2 (by simp) hle2
            rw [List.length_map] at hrun2
            have hown := RO.out
            have hlo : lo.length + 1 ≤ maxLen := by unfold maxLen; simp at htot; omega
            have HLO := hid hlo
            clear hlo
            cases hxy : lessB x y with
            | true =>
              have HXY := hid hxy
              clear hxy
              go_wp2_with fail
              go_quiet ((go_at_call 15; exact quiet_same (lit_Less' _ _ _ _ HXY.out (by assumption) (by assumption))))
              go_wp2_with fail
              have hb1 : (lo.length + 1) * 8 ≤ 140737488355328 := by simp at htot; omega
              go_region_law (refine step_append_sl rfl _ _ 22 rfl wc.heap.size 3 i0 (.int .i64 0) 8 Try.underlying22 hi hz0 hz1 hz2 rfl u8 lo.length (ints lo) rfl ?_ _ 1 _ [.int .i64 x] rfl ?_ rfl nofun one_int HLO.out hb1 ?_ ?_; exact hown.alloc _; exact slv_new_dr _ _ _ _ _; (first | (simp; omega) | omega); intro v8 w8 ho8 hg8)
              all_goals
                have HO8 := hid ho8
                have hb8 : Below wc.heap.size wc w8 := ((below_dr hbr _).alloc (by simp; omega) _).grown hg8 (by simp; omega) (fun q hq => (hown.lt q hq).1)
                clear ho8 hg8
                go_simp
                go_wp2_with fail
                go_roundw
                case rel =>
                  refine ⟨l1', y :: l2', lo ++ [x], ⟨_, _, rfl, by simp at hle1; omega, nofun, hst1⟩, ⟨_, _, rfl, hle2, nofun, hs2⟩, ?_, hb8, ?_, fun z hz => HXa.out z (by simp [hz]), HXb, by simp at htot ⊢; omega⟩
                  · simp only [List.length_append, List.length_singleton, ints_append]; exact HO8.out
                  · have := HM.out
                    rw [mrg_cons, if_pos HXY.out] at this
                    simpa [Hid] using this
                case measure => simp [lenOfV]
            | false =>
              have HXY := hid hxy
              clear hxy
              cases hyx : lessB y x with
              | true =>
                have HYX := hid hyx
                clear hyx
                go_wp2_with fail
                go_quiet ((go_at_call 15; exact quiet_same (lit_Less' _ _ _ _ HXY.out (by assumption) (by assumption))))
                go_wp2_with fail
                go_quiet ((go_at_call 15; first | exact quiet_same2 (lit_Less' _ _ _ _ HYX.out (by assumption) (by assumption)) | exact quiet_same (lit_Less' _ _ _ _ HYX.out (by assumption) (by assumption))))
                go_wp2_with fail
                have hb1 : (lo.length + 1) * 8 ≤ 140737488355328 := by simp at htot; omega
                go_region_law (refine step_append_sl rfl _ _ 22 rfl wc.heap.size 3 i0 (.int .i64 0) 8 Try.underlying22 hi hz0 hz1 hz2 rfl u8 lo.length (ints lo) rfl ?_ _ 1 _ [.int .i64 y] rfl ?_ rfl nofun one_int HLO.out hb1 ?_ ?_; exact hown.alloc _; exact slv_new_dr _ _ _ _ _; (first | (simp; omega) | omega); intro v8 w8 ho8 hg8)
                all_goals
                  have HO8 := hid ho8
                  have hb8 : Below wc.heap.size wc w8 := ((below_dr hbr _).alloc (by simp; omega) _).grown hg8 (by simp; omega) (fun q hq => (hown.lt q hq).1)
                  clear ho8 hg8
                  go_simp
                  go_wp2_with fail
                  go_roundw
                  case rel =>
                    refine ⟨x :: l1', l2', lo ++ [y], ⟨_, _, rfl, hle1, nofun, hs1⟩, ⟨_, _, rfl, by simp at hle2; omega, nofun, hst2⟩, ?_, hb8, ?_, HXa, fun z hz => HXb.out z (by simp [hz]), by simp at htot ⊢; omega⟩
                    · simp only [List.length_append, List.length_singleton, ints_append]; exact HO8.out
                    · have := HM.out
                      rw [mrg_cons, if_neg (by simp [HXY.out]), if_pos HYX.out] at this
                      simpa [Hid] using this
                  case measure => simp [lenOfV]
              | false =>
                have HYX := hid hyx
                clear hyx
                go_wp2_with fail
                go_quiet ((go_at_call 15; exact quiet_same (lit_Less' _ _ _ _ HXY.out (by assumption) (by assumption))))
                go_wp2_with fail
                go_quiet ((go_at_call 15; first | exact quiet_same2 (lit_Less' _ _ _ _ HYX.out (by assumption) (by assumption)) | exact quiet_same (lit_Less' _ _ _ _ HYX.out (by assumption) (by assumption))))
                go_wp2_with fail
                go_roundw
                case rel =>
                  refine ⟨l1', y :: l2', lo, ⟨_, _, rfl, by simp at hle1; omega, nofun, hst1⟩, ⟨_, _, rfl, hle2, nofun, hs2⟩, RO, ?_, ?_, fun z hz => HXa.out z (by simp [hz]), HXb, by simp at htot ⊢; omega⟩
                  · first | exact below_dr hbr _ | exact below_dr (below_dr hbr _) _
                  · have := HM.out
                    rw [mrg_cons, if_neg (by simp [HXY.out]), if_neg (by simp [HYX.out])] at this
                    exact this
                case measure => simp [lenOfV]

end Go.Proofs.Ytacmfiikdbekbaa

/- The contract of lit.Norm. -/
namespace Go.Proofs.Ytacmfiikdbekbaa
open Go.RowKit

theorem sizeOf_int (wx : World) : (sizeOf 3).run Try.prog wx = .ok 1 wx := by kernel_rfl

set_option maxHeartbeats 1000000 in
theorem lit_Norm (a : Option Addr) (xs : List Int) (m cap : Nat) (w : World) (hm : m = xs.length) (hcap : m ≤ cap) (hc0 : a = none → cap = 0) (hs : SlV w a (ints xs)) (hx : ∀ x ∈ xs, I64 x) (hl : xs.length ≤ 4294967296) :
    Calls Try.prog 11 #[.slice a m cap] w fun e w' =>
      ∃ v, e = .returned (.tuple #[v, .bool (adjB (normL xs))]) ∧ OwnT 3 w' w.heap.size v (normV xs) ∧ Below w.heap.size w w' := by
  subst hm
  have hc := fun w => lit_sorted xs.length a xs xs.length cap w (Nat.le_refl _) rfl hcap hc0
  have HC := hid hc
  have HX := hid hx
  have HS := hid hs
  clear hc hc0 hx hs
  obtain ⟨L0, hL0⟩ : ∃ L0, L0 = msort xs.length xs := ⟨_, rfl⟩
  obtain ⟨L, hL⟩ : ∃ L, L = normL xs := ⟨_, rfl⟩
  have HL0 := hid hL0
  have HL := hid hL
  have hlen : L.length ≤ 4294967296 := by rw [hL]; exact Nat.le_trans (normL_length xs) hl
  have hxL : ∀ x ∈ L, I64 x := fun x h => HX.out x (mem_normL (hL ▸ h))
  have HXL := hid hxL
  rw [← hL]
  obtain ⟨B, hB⟩ : ∃ B, B = w.heap.size := ⟨_, rfl⟩
  rw [← hB]
  have HB := hid hB
  clear hL0 hL hxL hB
  rcases hcase : L0 with _ | ⟨z, t⟩
  · have HLn : Hid (L = []) := by rw [HL.out]; exact normL_nil (by rw [← HL0.out, hcase])
    have HCase := hid hcase
    clear hcase
    go_enter Try.func11, Try.ntmps11
    go_wp2_with (go_at_call 48; refine (HC.out _ HS.out HX.out hl).mono ?_; rintro e w1 ⟨v1, rfl, ho1, hb1⟩; rw [← HL0.out, HCase.out] at ho1; rw [← HB.out] at ho1 hb1; obtain ⟨a1, c1, rfl, ho2⟩ := ownT_shape (HLn.out ▸ ownT_of_own ho1 : OwnT 3 w1 B v1 L); have hl0 : decide (0 < L.length) = false := by rw [HLn.out]; rfl)
    clear hl0
    go_loopw [5] (fun i wr => ∃ j nd : Nat, j ≤ L.length ∧ wr = w1.drewN nd ∧ i = .int .i64 ((j : Int) + 1) ∧ Hid ((List.range (j + 1)).any (adjAt L) = false)) (fun i _ => L.length + 1 - (intOf i).toNat)
    case atStart => exact ⟨0, 0, Nat.zero_le _, rfl, rfl, rfl⟩
    case round =>
      obtain ⟨j, nd, hj, rfl, rfl, hrel⟩ := hrel
      by_cases hlt : j + 1 < L.length
      · obtain ⟨b, off, x, rfl, hc, hx⟩ := (OwnT.slv ho2).int hlt
        obtain ⟨b', off', y, hbb, hd, hy⟩ := (OwnT.slv ho2).int (k := j) (by omega)
        simp at hbb
        obtain ⟨rfl, rfl⟩ := hbb
        have hx64 : I64 x := HXL.out x (List.mem_of_getElem? hx)
        have hy64 : I64 y := HXL.out y (List.mem_of_getElem? hy)
        have HX1 := hid hx
        have HY1 := hid hy
        have HO2 := hid ho2
        have e1 : IntKind.i64.wrap ((j : Int) + 1 - 1) = (j : Int) := by rw [IntWalk.i64_in _ (by omega)]; omega
        have e1' : IntKind.i64.wrap (j : Int) = (j : Int) := IntWalk.i64_in (j : Int) (by omega)
        have e2 : 0 ≤ (j : Int) + 1 := by omega
        have e3 : ((j : Int) + 1).toNat = j + 1 := by omega
        have e4 : (j : Int) + 1 < L.length := by omega
        have e5 : (j : Int) < L.length := by omega
        clear hx hy ho2
        go_wp2_with fail
        go_quiet ((go_at_call 49; first | exact quiet_same2 (lit_size _ _ (by assumption)) | exact quiet_same (lit_size _ _ (by assumption))))
        clear e1 e1' e2 e3
        go_wp2_with fail
        · have hne : ((x.natAbs : Int) == y.natAbs) = true := by assumption
          go_ret2
          have hadj := adjB_of HX1.out HY1.out hne
          rw [hadj, normV_true (HL.out ▸ hadj)]
          exact ⟨_, rfl, ⟨none, 0, rfl, Nat.le_refl _, fun _ => rfl, nofun⟩, by first | exact below_dr hb1 _ | exact below_dr (below_dr hb1 _) _⟩
        · have hne : ((x.natAbs : Int) == y.natAbs) = false := by assumption
          go_roundw
          case rel => exact ⟨j + 1, _, by omega, (by first | rfl | exact World.drewN_drewN ..), by go_num, adj_step HX1.out HY1.out hne hrel⟩
          case measure => simp [intOf]; omega
      · have hadj := adjB_not hlt hrel
        have HADJ := hid hadj
        clear hadj
        go_wp2_with fail
        go_ret2
        rw [HADJ.out, normV_false (HL.out ▸ HADJ.out), ← HL.out]
        exact ⟨_, rfl, ho2, by first | exact below_dr hb1 _ | exact below_dr (below_dr hb1 _) _⟩
  · by_cases hz : z = 0
    · have HLn : Hid (L = t) := by rw [HL.out]; exact normL_zero (by rw [← HL0.out, hcase, hz])
      have HCase : Hid (L0 = 0 :: L) := by rw [HLn.out, hcase, hz]; rfl
      clear hcase hz
      go_enter Try.func11, Try.ntmps11
      go_wp2_with (go_at_call 48; refine (HC.out _ HS.out HX.out hl).mono ?_; rintro e w1 ⟨v1, rfl, ho1, hb1⟩; rw [← HL0.out, HCase.out] at ho1; rw [← HB.out] at ho1 hb1; obtain ⟨a0, c0, rfl, ho0⟩ := ownT_shape (ownT_of_own ho1); obtain ⟨A1, hrun1, ho2⟩ := ownT_tail Try.underlying22 sizeOf_int ho0; obtain ⟨b0, o0, rfl, hcell0⟩ := (OwnT.slv ho0).head; simp only [List.length_cons] at hrun1; clear ho1 ho0)
      generalize hA1 : (some A1) = a1 at ho2
      generalize hC1 : c0 - 1 = c1 at ho2
      clear hA1 hC1
      go_loopw [5] (fun i wr => ∃ j nd : Nat, j ≤ L.length ∧ wr = w1.drewN nd ∧ i = .int .i64 ((j : Int) + 1) ∧ Hid ((List.range (j + 1)).any (adjAt L) = false)) (fun i _ => L.length + 1 - (intOf i).toNat)
      case atStart => exact ⟨0, 0, Nat.zero_le _, rfl, rfl, rfl⟩
      case round =>
        obtain ⟨j, nd, hj, rfl, rfl, hrel⟩ := hrel
        by_cases hlt : j + 1 < L.length
        · obtain ⟨b, off, x, rfl, hc, hx⟩ := (OwnT.slv ho2).int hlt
          obtain ⟨b', off', y, hbb, hd, hy⟩ := (OwnT.slv ho2).int (k := j) (by omega)
          simp at hbb
          obtain ⟨rfl, rfl⟩ := hbb
          have hx64 : I64 x := HXL.out x (List.mem_of_getElem? hx)
          have hy64 : I64 y := HXL.out y (List.mem_of_getElem? hy)
          have HX1 := hid hx
          have HY1 := hid hy
          have HO2 := hid ho2
          have e1 : IntKind.i64.wrap ((j : Int) + 1 - 1) = (j : Int) := by rw [IntWalk.i64_in _ (by omega)]; omega
          have e1' : IntKind.i64.wrap (j : Int) = (j : Int) := IntWalk.i64_in (j : Int) (by omega)
          have e2 : 0 ≤ (j : Int) + 1 := by omega
          have e3 : ((j : Int) + 1).toNat = j + 1 := by omega
          have e4 : (j : Int) + 1 < L.length := by omega
          have e5 : (j : Int) < L.length := by omega
          clear hx hy ho2
          go_wp2_with fail
          go_quiet ((go_at_call 49; first | exact quiet_same2 (lit_size _ _ (by assumption)) | exact quiet_same (lit_size _ _ (by assumption))))
          clear e1 e1' e2 e3
          go_wp2_with fail
          · have hne : ((x.natAbs : Int) == y.natAbs) = true := by assumption
            go_ret2
            have hadj := adjB_of HX1.out HY1.out hne
            rw [hadj, normV_true (HL.out ▸ hadj)]
            exact ⟨_, rfl, ⟨none, 0, rfl, Nat.le_refl _, fun _ => rfl, nofun⟩, by first | exact below_dr hb1 _ | exact below_dr (below_dr hb1 _) _⟩
          · have hne : ((x.natAbs : Int) == y.natAbs) = false := by assumption
            go_roundw
            case rel => exact ⟨j + 1, _, by omega, (by first | rfl | exact World.drewN_drewN ..), by go_num, adj_step HX1.out HY1.out hne hrel⟩
            case measure => simp [intOf]; omega
        · have hadj := adjB_not hlt hrel
          have HADJ := hid hadj
          clear hadj
          go_wp2_with fail
          go_ret2
          rw [HADJ.out, normV_false (HL.out ▸ HADJ.out), ← HL.out]
          exact ⟨_, rfl, ho2, by first | exact below_dr hb1 _ | exact below_dr (below_dr hb1 _) _⟩
    · have HLn : Hid (L = z :: t) := by rw [HL.out]; exact normL_cons (by rw [← HL0.out, hcase]) hz
      have HCase : Hid (L0 = L) := by rw [HLn.out, hcase]; rfl
      have hz' : (z == 0) = false := by simp [hz]
      have hl1 : 0 < L.length := by rw [HLn.out]; simp
      clear hcase hz
      go_enter Try.func11, Try.ntmps11
      go_wp2_with (go_at_call 48; refine (HC.out _ HS.out HX.out hl).mono ?_; rintro e w1 ⟨v1, rfl, ho1, hb1⟩; rw [← HL0.out, HCase.out] at ho1; rw [← HB.out] at ho1 hb1; obtain ⟨a1, c1, rfl, ho2⟩ := ownT_shape (ownT_of_own ho1); obtain ⟨b0, o0, rfl, hcell0⟩ := (show SlV w1 a1 (ints (z :: t)) from HLn.out ▸ OwnT.slv ho2).head; clear ho1; have hl0 : decide (0 < L.length) = true := (by rw [HLn.out]; simp))
      clear hl0 hl1 hcell0
      generalize hA1 : (some (⟨b0, o0, none⟩ : Addr)) = a1 at ho2
      clear hA1
      go_loopw [5] (fun i wr => ∃ j nd : Nat, j ≤ L.length ∧ wr = w1.drewN nd ∧ i = .int .i64 ((j : Int) + 1) ∧ Hid ((List.range (j + 1)).any (adjAt L) = false)) (fun i _ => L.length + 1 - (intOf i).toNat)
      case atStart => exact ⟨0, 0, Nat.zero_le _, rfl, rfl, rfl⟩
      case round =>
        obtain ⟨j, nd, hj, rfl, rfl, hrel⟩ := hrel
        by_cases hlt : j + 1 < L.length
        · obtain ⟨b, off, x, rfl, hc, hx⟩ := (OwnT.slv ho2).int hlt
          obtain ⟨b', off', y, hbb, hd, hy⟩ := (OwnT.slv ho2).int (k := j) (by omega)
          simp at hbb
          obtain ⟨rfl, rfl⟩ := hbb
          have hx64 : I64 x := HXL.out x (List.mem_of_getElem? hx)
          have hy64 : I64 y := HXL.out y (List.mem_of_getElem? hy)
          have HX1 := hid hx
          have HY1 := hid hy
          have HO2 := hid ho2
          have e1 : IntKind.i64.wrap ((j : Int) + 1 - 1) = (j : Int) := by rw [IntWalk.i64_in _ (by omega)]; omega
          have e1' : IntKind.i64.wrap (j : Int) = (j : Int) := IntWalk.i64_in (j : Int) (by omega)
          have e2 : 0 ≤ (j : Int) + 1 := by omega
          have e3 : ((j : Int) + 1).toNat = j + 1 := by omega
          have e4 : (j : Int) + 1 < L.length := by omega
          have e5 : (j : Int) < L.length := by omega
          clear hx hy ho2
          go_wp2_with fail
          go_quiet ((go_at_call 49; first | exact quiet_same2 (lit_size _ _ (by assumption)) | exact quiet_same (lit_size _ _ (by assumption))))
          clear e1 e1' e2 e3
          go_wp2_with fail
          · have hne : ((x.natAbs : Int) == y.natAbs) = true := by assumption
            go_ret2
            have hadj := adjB_of HX1.out HY1.out hne
            rw [hadj, normV_true (HL.out ▸ hadj)]
            exact ⟨_, rfl, ⟨none, 0, rfl, Nat.le_refl _, fun _ => rfl, nofun⟩, by first | exact below_dr hb1 _ | exact below_dr (below_dr hb1 _) _⟩
          · have hne : ((x.natAbs : Int) == y.natAbs) = false := by assumption
            go_roundw
            case rel => exact ⟨j + 1, _, by omega, (by first | rfl | exact World.drewN_drewN ..), by go_num, adj_step HX1.out HY1.out hne hrel⟩
            case measure => simp [intOf]; omega
        · have hadj := adjB_not hlt hrel
          have HADJ := hid hadj
          clear hadj
          go_wp2_with fail
          go_ret2
          rw [HADJ.out, normV_false (HL.out ▸ HADJ.out), ← HL.out]
          exact ⟨_, rfl, ho2, by first | exact below_dr hb1 _ | exact below_dr (below_dr hb1 _) _⟩

end Go.Proofs.Ytacmfiikdbekbaa

/- The contracts of the reference's functions of layer 1: size, Less, Check, Holds. -/
namespace Go.Proofs.Ytacmfiikdbekbaa
open Go.RowKit

end Go.Proofs.Ytacmfiikdbekbaa

/- Closed facts about lit.Norm's literals. -/
namespace Go.Proofs.Ytacmfiikdbekbaa
open Go.RowKit

theorem norm_3132 : normL [3, -1, 3, 2] = [-1, 2, 3] := by
  simp [normL, msort, mrg_cons, mrg_nil_left, mrg_nil_right, lessB]

theorem adj_3132 : adjB (normL [3, -1, 3, 2]) = false := by rw [norm_3132]; decide

theorem slv_new (w : World) (vs : List Value) (e : TypeId) (m : Nat × Nat) : SlV (w.alloc (.cells vs.toArray e m)) (some ⟨w.heap.size, 0, none⟩) vs := by
  intro j v hj
  refine ⟨w.heap.size, 0, rfl, ?_⟩
  have h : (w.alloc (.cells vs.toArray e m)).heap[w.heap.size]? = some (.cells vs.toArray e m) := heap_alloc_new w _
  rw [cell_of_row _ _ _ _ _ _ h]
  simpa using hj

end Go.Proofs.Ytacmfiikdbekbaa

/- What an argument that came in is told of to the walk: ints, bools, slices of these, slices of slices of ints; out of the row's own reading. -/
namespace Go.Proofs.Ytacmfiikdbekbaa
open Go.ChangeShapes Go.WideShapes Go.ChangeAt Go.RowKit

/-- The value reads as a slice of ints of the kind k; each fits its kind. -/
def ArgI (k : IntKind) (w : World) (v : Value) (xs : List Int) : Prop :=
  ∃ a c, v = .slice a xs.length c ∧ xs.length ≤ c ∧ c ≤ maxLen ∧ (a = none → c = 0) ∧ SlV w a (xs.map (Value.int k)) ∧ ∀ x ∈ xs, (Lit.int k x).wf = true

/-- The value reads as a slice of bools. -/
def ArgB (w : World) (v : Value) (xs : List Bool) : Prop :=
  ∃ a c, v = .slice a xs.length c ∧ xs.length ≤ c ∧ c ≤ maxLen ∧ (a = none → c = 0) ∧ SlV w a (bools xs)

/-- The value reads as a slice of slices of ints of the kind k. -/
def ArgR (k : IntKind) (w : World) (v : Value) (xss : List (List Int)) : Prop :=
  ∃ a c, v = .slice a xss.length c ∧ xss.length ≤ c ∧ c ≤ maxLen ∧ (a = none → c = 0) ∧
    ∀ j xs, xss[j]? = some xs → ∃ b off u, a = some ⟨b, off, none⟩ ∧ w.cell? ⟨b, off + j, none⟩ = some u ∧ ArgI k w u xs

theorem slV_of_row {w : World} {a : Addr} {vs : List Value} (h : ∀ i v, vs[i]? = some v → w.cell? (a.add i) = some v) : SlV w (some a) vs := by
  intro j v hj
  have h0 : ∃ u, vs[0]? = some u := by
    cases vs with
    | nil => simp at hj
    | cons u us => exact ⟨u, rfl⟩
  obtain ⟨u, hu⟩ := h0
  have hs := World.cell?_spot (h 0 u hu)
  obtain ⟨b, off, spot⟩ := a
  simp [Addr.add] at hs
  subst hs
  refine ⟨b, off, rfl, ?_⟩
  have := h j v hj
  unfold Addr.add at this
  split at this
  · rename_i h0; subst h0; simpa using this
  · exact this

section
variable {P : Program} {W : World} {H : Type} {enc : TypeId × Value → H}

theorem trod_ints {t e : TypeId} {k : IntKind} {fuel : Nat} {held : Bool} {v : Value} {x : DataW H × List MemPlace} (ht : P.underlying t = some (.slice e)) (he : P.underlying e = some (.int k)) (hc : P.cellsOf e = 1)
    (h : DataW.trod enc P W 0 (fun _ => true) held fuel t [v] = some x) : ∃ xs, ArgI k W v xs := by
  rcases open_ints ht he hc h with ⟨hcs, _⟩ | ⟨a, l, c, zs, hcs, _, hl, hm, hz, _, hcell, hwz⟩
  · simp at hcs
    subst hcs
    exact ⟨[], none, 0, rfl, Nat.le_refl _, by simp [maxLen], fun _ => rfl, SlV.nil _ _, by simp⟩
  · simp at hcs
    subst hcs
    simp only [if_true] at hz
    have hlen : (zs.take l).length = l := by simp; omega
    refine ⟨zs.take l, some a, c, by rw [hlen], by omega, hm, nofun, slV_of_row fun i v hv => ?_, fun n hn => hwz n (List.mem_of_mem_take hn)⟩
    simp only [List.getElem?_map, Option.map_eq_some_iff] at hv
    obtain ⟨x, hx, rfl⟩ := hv
    rw [List.getElem?_take] at hx
    split at hx
    · rename_i hi
      have := hcell i (by omega)
      rw [this]
      simp [List.getD_eq_getElem?_getD, hx]
    · cases hx

theorem arg_ints {r : Reach} {b0 : Nat} {t e : TypeId} {k : IntKind} {held : Bool} {v : Value} {d : DataW H} {p : List MemPlace} (ht : P.underlying t = some (.slice e)) (he : P.underlying e = some (.int k)) (hc : P.cellsOf e = 1)
    (hv : Value.okWide P W r b0 t v) (h : DataW.Trod enc P W 0 (fun _ => true) held t v d p) : ∃ xs, ArgI k W v xs := by
  obtain ⟨a, l, c, rfl⟩ := okWide_slice ht hv
  obtain ⟨fuel, hf⟩ := h
  exact trod_ints ht he hc (by simpa [Value.cells] using hf)

theorem arg_int {r : Reach} {b0 : Nat} {t : TypeId} {k : IntKind} {held : Bool} {v : Value} {d : DataW H} {p : List MemPlace} (ht : P.underlying t = some (.int k))
    (hv : Value.okWide P W r b0 t v) (h : DataW.Trod enc P W 0 (fun _ => true) held t v d p) : ∃ x, v = .int k x ∧ (Lit.int k x).wf = true := by
  obtain ⟨n, h1, _, _, h4⟩ := open_int ht hv h
  exact ⟨n, h1, h4⟩

theorem arg_bool {r : Reach} {b0 : Nat} {t : TypeId} {held : Bool} {v : Value} {d : DataW H} {p : List MemPlace} (ht : P.underlying t = some .bool)
    (hv : Value.okWide P W r b0 t v) (h : DataW.Trod enc P W 0 (fun _ => true) held t v d p) : ∃ x, v = .bool x := by
  obtain ⟨n, h1, _, _⟩ := open_bool ht hv h
  exact ⟨n, h1⟩

theorem arg_bools {r : Reach} {b0 : Nat} {t e : TypeId} {held : Bool} {v : Value} {d : DataW H} {p : List MemPlace} (ht : P.underlying t = some (.slice e)) (he : P.underlying e = some .bool) (hc : P.cellsOf e = 1)
    (hv : Value.okWide P W r b0 t v) (h : DataW.Trod enc P W 0 (fun _ => true) held t v d p) : ∃ xs, ArgB W v xs := by
  obtain ⟨a, l, c, rfl⟩ := okWide_slice ht hv
  obtain ⟨fuel, hf⟩ := h
  rcases Go.Deep.open_slice1 ht hc hf with ⟨hcs, _⟩ | ⟨a', l', c', m, n, V, D, Pl, hcs, _, hl, hm, hmm, _, hx⟩
  · simp [Value.cells] at hcs
    obtain ⟨rfl, rfl, rfl⟩ := hcs
    exact ⟨[], none, 0, rfl, Nat.le_refl _, by simp [maxLen], fun _ => rfl, SlV.nil _ _⟩
  · simp [Value.cells] at hcs
    obtain ⟨rfl, rfl, rfl⟩ := hcs
    simp only [if_true] at hmm
    have hb : ∀ i, i < m → ∃ b, V i = .bool b := fun i hi => by
      obtain ⟨b, hb, _⟩ := DataW.trod_bool he (hx i hi).2
      exact ⟨b, by simpa using hb⟩
    refine ⟨(List.range l).map (fun i => match V i with | .bool b => b | _ => false), some a', c, by simp, by simpa using hl, hm, nofun, slV_of_row fun i v hv => ?_⟩
    simp only [bools, List.map_map, List.getElem?_map, Option.map_eq_some_iff] at hv
    obtain ⟨j, hj, rfl⟩ := hv
    obtain ⟨hlt, he'⟩ := List.getElem?_eq_some_iff.1 hj
    simp at hlt he'
    subst he'
    obtain ⟨b, hb'⟩ := hb i (by omega)
    rw [(hx i (by omega)).1]
    simp [hb']

theorem trod_rows {t e q : TypeId} {k : IntKind} {fuel : Nat} {held : Bool} {v : Value} {x : DataW H × List MemPlace} (ht : P.underlying t = some (.slice e)) (he : P.underlying e = some (.slice q)) (hq : P.underlying q = some (.int k)) (ce : P.cellsOf e = 1) (cq : P.cellsOf q = 1)
    (h : DataW.trod enc P W 0 (fun _ => true) held fuel t [v] = some x) : ∃ xss, ArgR k W v xss := by
  rcases Go.Deep.open_slice1 ht ce h with ⟨hcs, _⟩ | ⟨a, l, c, m, n, V, D, Pl, hcs, _, hl, hm, hmm, _, hx⟩
  · simp at hcs
    subst hcs
    exact ⟨[], none, 0, rfl, Nat.le_refl _, by simp [maxLen], fun _ => rfl, by simp⟩
  · simp at hcs
    subst hcs
    simp only [if_true] at hmm
    have hr : ∀ i, ∃ xs, i < l → ArgI k W (V i) xs := fun i => by
      by_cases hi : i < l
      · obtain ⟨xs, hxs⟩ := trod_ints he hq cq (hx i (by omega)).2
        exact ⟨xs, fun _ => hxs⟩
      · exact ⟨[], fun h => (hi h).elim⟩
    let X := fun i => Classical.choose (hr i)
    have hX : ∀ i, i < l → ArgI k W (V i) (X i) := fun i => Classical.choose_spec (hr i)
    have hrow : SlV W (some a) ((List.range l).map V) := slV_of_row fun i v hv => by
      simp only [List.getElem?_map, Option.map_eq_some_iff] at hv
      obtain ⟨j, hj, rfl⟩ := hv
      obtain ⟨hlt, he'⟩ := List.getElem?_eq_some_iff.1 hj
      simp at hlt he'
      subst he'
      exact (hx i (by omega)).1
    refine ⟨(List.range l).map X, some a, c, by simp, by simpa using hl, hm, nofun, fun j xs hj => ?_⟩
    simp only [List.getElem?_map, Option.map_eq_some_iff] at hj
    obtain ⟨i, hi, rfl⟩ := hj
    obtain ⟨hlt, he'⟩ := List.getElem?_eq_some_iff.1 hi
    simp at hlt he'
    subst he'
    obtain ⟨b, off, h1, h2⟩ := hrow j (V j) (by simp [List.getElem?_range hlt])
    exact ⟨b, off, V j, h1, h2, hX j hlt⟩

theorem arg_rows {r : Reach} {b0 : Nat} {t e q : TypeId} {k : IntKind} {held : Bool} {v : Value} {d : DataW H} {p : List MemPlace} (ht : P.underlying t = some (.slice e)) (he : P.underlying e = some (.slice q)) (hq : P.underlying q = some (.int k)) (ce : P.cellsOf e = 1) (cq : P.cellsOf q = 1)
    (hv : Value.okWide P W r b0 t v) (h : DataW.Trod enc P W 0 (fun _ => true) held t v d p) : ∃ xss, ArgR k W v xss := by
  obtain ⟨a, l, c, rfl⟩ := okWide_slice ht hv
  obtain ⟨fuel, hf⟩ := h
  exact trod_rows ht he hq ce cq (by simpa [Value.cells] using hf)

/-- A struct of an int and a slice of slices of ints (api.Formula), by value. -/
theorem arg_formula {r : Reach} {b0 : Nat} {t e q u : TypeId} {f0 f1 : Field} {held : Bool} {v : Value} {d : DataW H} {p : List MemPlace} (hs : P.underlying t = some (.struct #[f0, f1])) (hone : Go.Deep.oneCellFields P #[f0, f1] = true) (hC : P.cellsOf t = 2)
    (h0 : P.underlying f0.type = some (.int .i64)) (h1 : f1.type = u) (ht : P.underlying u = some (.slice e)) (he : P.underlying e = some (.slice q)) (hq : P.underlying q = some (.int .i64)) (ce : P.cellsOf e = 1) (cq : P.cellsOf q = 1)
    (hv : Value.okWide P W r b0 t v) (h : DataW.Trod enc P W 0 (fun _ => true) held t v d p) : ∃ n vc xss, v = .agg #[.int .i64 n, vc] ∧ (Lit.int .i64 n).wf = true ∧ ArgR .i64 W vc xss := by
  obtain ⟨v0, v1, y0, y1, n, rfl, _, _, hy0, hy1⟩ := Go.Joins.open_agg2 hs hone hC hv h
  obtain ⟨m, hm, _, hw⟩ := DataW.trod_int h0 hy0
  simp at hm
  subst hm
  subst h1
  obtain ⟨xss, hx⟩ := trod_rows ht he hq ce cq hy1
  exact ⟨m, v1, xss, rfl, hw, hx⟩

end
end Go.Proofs.Ytacmfiikdbekbaa

/- The contracts of package lit, the reference and the kit once more, with the result under a name of its own. -/
namespace Go.Proofs.Ytacmfiikdbekbaa
open Go.RowKit

theorem i64_of_wf {x : Int} (h : (Lit.int .i64 x).wf = true) : I64 x := bounds_i64 h

theorem lit_CheckR (n : Int) (a : Option Addr) (xs : List Int) (m cap : Nat) (r : Int) (w : World) (hr : litCheck n xs = r) (hm : m = xs.length) (hx : ∀ x ∈ xs, I64 x) (hs : SlV w a (ints xs)) (hl : xs.length ≤ 9223372036854775807) :
    Calls Try.prog 12 #[.int .i64 n, .slice a m cap] w fun e w' => e = .returned (.int .i64 r) ∧ w = w' := by
  subst hm; subst hr; exact lit_Check n a xs cap w hx hs hl

theorem lit_HoldsR (am : Option Addr) (m : List Bool) (lm capm : Nat) (a : Option Addr) (xs : List Int) (lx cap : Nat) (r : Bool) (w : World) (hr : holdsB m xs = r) (hlm : lm = m.length) (hlx : lx = xs.length) (hm : SlV w am (bools m)) (hx : ∀ x ∈ xs, I64 x)
    (hs : SlV w a (ints xs)) (hl : xs.length ≤ 9223372036854775807) (hl2 : m.length ≤ 9223372036854775807) :
    Calls Try.prog 13 #[.slice am lm capm, .slice a lx cap] w fun e w' => e = .returned (.bool r) ∧ w = w' := by
  subst hlm; subst hlx; subst hr; exact lit_Holds am m capm a xs cap w hm hx hs hl hl2

theorem kit_EqualIntsR (a b : Option Addr) (xs ys : List Int) (la ca lb cb : Nat) (r : Bool) (w : World) (hr : eqI xs ys = r) (hla : la = xs.length) (hlb : lb = ys.length) (hs : SlV w a (ints xs)) (ht : SlV w b (ints ys)) (hl : xs.length ≤ 9223372036854775807) :
    Calls Try.prog 14 #[.slice a la ca, .slice b lb cb] w fun e w' => e = .returned (.bool r) ∧ ∃ n, w' = w.drewN n := by
  subst hla; subst hlb; subst hr; exact kit_EqualInts a b xs ys ca cb w hs ht hl

/-- lit.Norm, where no literal stands beside its negative. -/
theorem lit_NormF (a : Option Addr) (xs ys : List Int) (m cap : Nat) (w : World) (hn : adjB (normL xs) = false) (hy : normL xs = ys) (hm : m = xs.length) (hcap : m ≤ cap) (hc0 : a = none → cap = 0) (hs : SlV w a (ints xs)) (hx : ∀ x ∈ xs, I64 x) (hl : xs.length ≤ 4294967296) :
    Calls Try.prog 11 #[.slice a m cap] w fun e w' =>
      ∃ a' c', e = .returned (.tuple #[.slice a' ys.length c', .bool false]) ∧ OwnT 3 w' w.heap.size (.slice a' ys.length c') ys ∧ Below w.heap.size w w' := by
  refine (lit_Norm a xs m cap w hm hcap hc0 hs hx hl).mono ?_
  rintro e w' ⟨v, rfl, ho, hb⟩
  rw [normV_false hn, hy] at ho
  obtain ⟨a', c', rfl, ho'⟩ := ownT_shape ho
  exact ⟨a', c', by rw [hn], ho', hb⟩

/-- lit.Norm, where a literal stands beside its negative. -/
theorem lit_NormT (a : Option Addr) (xs : List Int) (m cap : Nat) (w : World) (hn : adjB (normL xs) = true) (hm : m = xs.length) (hcap : m ≤ cap) (hc0 : a = none → cap = 0) (hs : SlV w a (ints xs)) (hx : ∀ x ∈ xs, I64 x) (hl : xs.length ≤ 4294967296) :
    Calls Try.prog 11 #[.slice a m cap] w fun e w' =>
      ∃ a' c', e = .returned (.tuple #[.slice a' 0 c', .bool true]) ∧ Below w.heap.size w w' := by
  refine (lit_Norm a xs m cap w hm hcap hc0 hs hx hl).mono ?_
  rintro e w' ⟨v, rfl, ho, hb⟩
  rw [normV_true hn] at ho
  obtain ⟨a', c', rfl, ho'⟩ := ownT_shape ho
  exact ⟨a', c', by rw [hn]; rfl, hb⟩

theorem slv_at {w : World} {b : Nat} {vs : List Value} {e : TypeId} {m : Nat × Nat} (h : w.heap[b]? = some (.cells vs.toArray e m)) : SlV w (some ⟨b, 0, none⟩) vs := by
  intro j v hj
  refine ⟨b, 0, rfl, ?_⟩
  rw [cell_of_row _ _ _ _ _ _ h]
  simpa using hj

theorem below_al {B : Nat} {a w : World} (h : Below B a w) (hB : B ≤ w.heap.size) (o : Obj) : Below B a (w.alloc o) := h.alloc hB o

theorem heap_al (w : World) (o : Obj) : (w.alloc o).heap = w.heap.push o := rfl
theorem heap_dr (w : World) (n : Nat) : (w.drewN n).heap = w.heap := rfl

theorem size_al (w : World) (o : Obj) : (w.alloc o).heap.size = w.heap.size + 1 := by simp

end Go.Proofs.Ytacmfiikdbekbaa

/- The contracts of weepholelaw02.Small, cnf.Check and the reference's Check of layer 2. -/
namespace Go.Proofs.Ytacmfiikdbekbaa
open Go.RowKit

/-- The slice with the address 'a' reads as the lists 'f'. -/
def Rws (w : World) (a : Option Addr) (f : List (List Int)) : Prop :=
  ∀ j c, f[j]? = some c → ∃ b off v, a = some ⟨b, off, none⟩ ∧ w.cell? ⟨b, off + j, none⟩ = some v ∧ SlI w v c

theorem Rws.below {w w' : World} {a : Option Addr} {f : List (List Int)} (h : Rws w a f) (hb : Below w.heap.size w w') : Rws w' a f :=
  fun j c hj => let ⟨b, off, v, h1, h2, h3⟩ := h j c hj; ⟨b, off, v, h1, below_keeps hb _ _ h2, h3.below hb⟩

/-- Every clause is of ints, and none is too long for an int. -/
def FOk (f : List (List Int)) : Prop := ∀ c ∈ f, (∀ x ∈ c, I64 x) ∧ c.length ≤ 9223372036854775807

theorem Rws.row {w : World} {a : Option Addr} {f : List (List Int)} (h : Rws w a f) (hf : FOk f) {k : Nat} (hk : k < f.length) :
    ∃ b off c a' c', a = some ⟨b, off, none⟩ ∧ w.cell? ⟨b, off + k, none⟩ = some (.slice a' c.length c') ∧ SlV w a' (ints c) ∧ f[k]? = some c ∧ (∀ x ∈ c, I64 x) ∧ c.length ≤ 9223372036854775807 ∧ c.length ≤ c' ∧ (a' = none → c' = 0) := by
  obtain ⟨b, off, v, h1, h2, a', c', rfl, h3, h4, h5⟩ := h k f[k] (by simp [hk])
  have := hf f[k] (by simp)
  exact ⟨b, off, f[k], a', c', h1, h2, h5, by simp [hk], this.1, this.2, h3, h4⟩

/-- The struct's box. -/
abbrev fbox (n : Int) (a : Option Addr) (m c : Nat) : Obj := .cells #[.int .i64 n, .slice a m c] 34

theorem box_below (w : World) (o : Obj) : Below w.heap.size w (w.alloc o) := below_al (Below.refl _ _) (Nat.le_refl _) _

set_option maxHeartbeats 1000000 in
theorem law02_Small (n : Int) (a : Option Addr) (f : List (List Int)) (m c : Nat) (w : World) (hm : m = f.length) (hf : FOk f) (hr : Rws w a f) (hl : f.length ≤ 9223372036854775807) :
    Calls Try.prog 22 #[.agg #[.int .i64 n, .slice a m c]] w fun e w' => e = .returned (.bool (smallB f)) ∧ w.alloc (fbox n a m c) = w' := by
  subst hm
  have HF := hid hf
  have HR := hid (hr.below (box_below w (fbox n a f.length c)))
  clear hf hr
  go_enter Try.func22, Try.ntmps22
  go_wp2_with fail
  go_loop [3] (fun i => ∃ k : Nat, k ≤ f.length ∧ k ≤ 60 ∧ i = .int .i64 k ∧ Hid ((f.take k).any (fun c => decide (40 < c.length)) = false)) (fun i => 60 - (intOf i).toNat)
  case atStart => exact ⟨0, Nat.zero_le _, by decide, rfl, rfl⟩
  case round =>
    obtain ⟨k, hk, hk6, rfl, hrel⟩ := hrel
    by_cases hlt : k < f.length
    · by_cases h60 : k < 60
      · obtain ⟨b, off, c1, a1, cc1, rfl, hcell, -, hc1, -, -, -, -⟩ := HR.out.row HF.out hlt
        have HC := hid hc1
        have hd : decide (k < f.length) = true := by simp [hlt]
        clear hc1
        go_wp2_with fail
        · have hgt : (40 : Int) < c1.length := by assumption
          go_ret
          exact ⟨by rw [smallB_at h60 HC.out hgt]; rfl, rfl⟩
        · have hle : (c1.length : Int) ≤ 40 := by assumption
          go_round
          case rel => exact ⟨k + 1, by omega, by omega, by go_num, take_any_succ HC.out hrel (by simp; omega)⟩
          case measure => simp [intOf]; omega
      · have hd : decide (k < f.length) = true := by simp [hlt]
        have hk60 : k = 60 := by omega
        subst hk60
        have HS := hid (smallB_end (Or.inr rfl) hrel)
        go_wp2_with fail
        go_ret
        exact ⟨by rw [HS.out]; simp; omega, rfl⟩
    · have hd : decide (k < f.length) = false := by simp; omega
      have HS := hid (smallB_end (Or.inl hlt) hrel)
      go_wp2_with fail
      go_ret
      exact ⟨by rw [HS.out]; simp; omega, rfl⟩

set_option maxHeartbeats 1000000 in
theorem cnf_Check (n : Int) (a : Option Addr) (f : List (List Int)) (m c : Nat) (w : World) (hm : m = f.length) (hf : FOk f) (hr : Rws w a f) (hl : f.length ≤ 9223372036854775807) :
    Calls Try.prog 18 #[.agg #[.int .i64 n, .slice a m c]] w fun e w' => e = .returned (.int .i64 (cnfCheck n f)) ∧ w.alloc (fbox n a m c) = w' := by
  subst hm
  have HF := hid hf
  have HR := hid (hr.below (box_below w (fbox n a f.length c)))
  clear hf hr
  go_enter Try.func18, Try.ntmps18
  go_wp2_with fail
  refine wp_scope_jumps 0 (fun a' w' => w' = w.alloc (fbox n a f.length c) ∧ ∃ u0 u1 u2 u3 u4 u5 u6 u7 u8 u9 u10 u11 u12 u13 u14 u15 u16 u17 u18 u19 u20 u21 u22 u23 u24 u25 u26 u27 u28 u29 u30 u31 : Value, a' = ⟨#[u0, u1, u2, u3, u4, u5, u6, u7, u8, u9, u10, u11, u12, u13, u14, u15, u16, u17, u18, u19, u20, u21, u22, u23, u24, u25, u26, u27, u28, u29, u30, u31], []⟩ ∧ u2 = .int .i64 (cnfCheck n f)) (fun _ _ => 0) (by rfl) ?_ ?_
  · by_cases h0 : n < 0
    · go_wp2_with fail
      simp only [Exit.jump]
      go_ret
      exact ⟨by rw [cnfCheck_range (Or.inl h0)]; rfl, rfl⟩
    · by_cases h1 : 1048576 < n
      · go_wp2_with fail
        simp only [Exit.jump]
        go_ret
        exact ⟨by rw [cnfCheck_range (Or.inr h1)]; rfl, rfl⟩
      · have hn : 0 ≤ n ∧ n ≤ 1048576 := by omega
        have HN := hid hn
        by_cases h2 : (1048576 : Int) < f.length
        · go_wp2_with fail
          simp only [Exit.jump]
          go_ret
          exact ⟨by rw [cnfCheck_long HN.out h2]; rfl, rfl⟩
        · have hl2 : (f.length : Int) ≤ 1048576 := by omega
          go_wp2_with fail
          go_loop [20] (fun i => ∃ k : Nat, k ≤ f.length ∧ i = .int .i64 k ∧ Hid ((f.take k).any (fun c => litCheck n c != 0) = false)) (fun i => f.length - (intOf i).toNat)
          case atStart => exact ⟨0, Nat.zero_le _, rfl, rfl⟩
          case round =>
            obtain ⟨k, hk, rfl, hrel⟩ := hrel
            by_cases hlt : k < f.length
            · obtain ⟨b, off, c1, a1, cc1, rfl, hcell, hsl, hc1, hx1, hl1, -, -⟩ := HR.out.row HF.out hlt
              have HC := hid hc1
              have HS := hid hsl
              have HX := hid hx1
              obtain ⟨e1, he1⟩ : ∃ e1, litCheck n c1 = e1 := ⟨_, rfl⟩
              have HE := hid he1
              clear hc1 hsl hx1 he1
              by_cases hz : e1 = 0
              · have hz' : (e1 != 0) = false := by simp [hz]
                have HZ := hid hz
                clear hz
                go_wp2_with (go_at_call 12; refine (lit_CheckR n _ c1 _ _ _ _ HE.out rfl HX.out HS.out hl1).mono ?_; rintro e w' ⟨rfl, rfl⟩)
                go_round
                case rel => exact ⟨k + 1, by omega, by go_num, take_any_succ HC.out hrel (by simp [HE.out, HZ.out])⟩
                case measure => simp [intOf]; omega
              · have hz' : (e1 != 0) = true := by simp [hz]
                have HB := hid (cnfCheck_bad HN.out hl2 HC.out hrel HE.out hz')
                clear hz
                go_wp2_with (go_at_call 12; refine (lit_CheckR n _ c1 _ _ _ _ HE.out rfl HX.out HS.out hl1).mono ?_; rintro e w' ⟨rfl, rfl⟩)
                go_step3
                simp only [Exit.then, Exit.inBlock]
                refine ⟨rfl, ?_⟩
                refine ⟨rfl, ?_⟩
                repeat (apply Exists.intro)
                exact ⟨rfl, by rw [HB.out]⟩
            · go_wp2_with fail
              simp only [Exit.jump]
              go_ret
              exact ⟨by rw [cnfCheck_ok HN.out hl2 hlt hrel]; rfl, rfl⟩
  · rintro a' w' ⟨rfl, u0, u1, u2, u3, u4, u5, u6, u7, u8, u9, u10, u11, u12, u13, u14, u15, u16, u17, u18, u19, u20, u21, u22, u23, u24, u25, u26, u27, u28, u29, u30, u31, rfl, rfl⟩
    go_wp2_with fail
    simp only [Exit.jump]
    go_ret
    exact ⟨rfl, rfl⟩

end Go.Proofs.Ytacmfiikdbekbaa

/- The reference's Norm: insertion into an ascending list; it gives the same literals as lit.Norm. -/
namespace Go.Proofs.Ytacmfiikdbekbaa
open Go.RowKit

/-- How many elements at the head come before x. -/
def posN : List Int → Int → Nat
  | [], _ => 0
  | a :: l, x => if lessB a x then posN l x + 1 else 0

/-- One literal is put in. -/
def insN (l : List Int) (x : Int) : List Int :=
  if x = 0 then l else if l[posN l x]? = some x then l else l.take (posN l x) ++ x :: l.drop (posN l x)

/-- The reference's literals. -/
def refL (c : List Int) : List Int := c.foldl insN []

theorem posN_le : ∀ (l : List Int) (x : Int), posN l x ≤ l.length
  | [], _ => Nat.le_refl _
  | a :: l, x => by
    have := posN_le l x
    unfold posN
    split
    · simp; omega
    · simp

/-- The elements before the place come before x. -/
theorem posN_before : ∀ (l : List Int) (x : Int) (i : Nat) (y : Int), i < posN l x → l[i]? = some y → lessB y x = true
  | [], _, i, y, h, _ => by simp [posN] at h
  | a :: l, x, i, y, h, hy => by
    unfold posN at h
    split at h
    · rename_i hl
      cases i with
      | zero => simp at hy; subst hy; exact hl
      | succ i => exact posN_before l x i y (by omega) (by simpa using hy)
    · omega

theorem posN_at : ∀ (l : List Int) (x y : Int), l[posN l x]? = some y → lessB y x = false
  | [], _, _, h => by simp [posN] at h
  | a :: l, x, y, h => by
    unfold posN at h
    split at h
    · exact posN_at l x y (by simpa using h)
    · rename_i hl; simp at h; subst h; simpa using hl

/-- The place, by what the search has seen. -/
theorem posN_eq {l : List Int} {x : Int} {k : Nat} (hk : k ≤ l.length) (hb : ∀ i y, i < k → l[i]? = some y → lessB y x = true) (ha : ∀ y, l[k]? = some y → lessB y x = false) : posN l x = k := by
  rcases Nat.lt_trichotomy (posN l x) k with h | h | h
  · have h1 : l[posN l x]? = some l[posN l x] := by simp
    have h2 := hb _ _ h h1
    rw [posN_at l x _ h1] at h2; cases h2
  · exact h
  · have hl := posN_le l x
    have h1 : l[k]? = some l[k] := by simp
    have h2 := posN_before l x k _ h h1
    rw [ha _ h1] at h2; cases h2

theorem insN_mem {l : List Int} {x y : Int} : y ∈ insN l x ↔ y ∈ l ∨ (y = x ∧ x ≠ 0) := by
  unfold insN
  split
  · rename_i h; simp [h]
  · rename_i h
    split
    · rename_i h2
      have : x ∈ l := List.mem_of_getElem? h2
      constructor
      · exact Or.inl
      · rintro (h3 | ⟨rfl, _⟩)
        · exact h3
        · exact this
    · have e : y ∈ l ↔ y ∈ l.take (posN l x) ∨ y ∈ l.drop (posN l x) := by rw [← List.mem_append, List.take_append_drop]
      rw [List.mem_append, List.mem_cons, e]
      constructor
      · rintro (h1 | rfl | h1)
        · exact Or.inl (Or.inl h1)
        · exact Or.inr ⟨rfl, h⟩
        · exact Or.inl (Or.inr h1)
      · rintro ((h1 | h1) | ⟨rfl, _⟩)
        · exact Or.inl h1
        · exact Or.inr (Or.inr h1)
        · exact Or.inr (Or.inl rfl)

theorem insN_asc {l : List Int} {x : Int} (h : Asc l) : Asc (insN l x) := by
  unfold insN
  split
  · exact h
  · split
    · exact h
    · rename_i h0 h2
      have hp := List.pairwise_append.1 (show Asc (l.take (posN l x) ++ l.drop (posN l x)) by rw [List.take_append_drop]; exact h)
      refine List.pairwise_append.2 ⟨hp.1, List.pairwise_cons.2 ⟨fun y hy => ?_, hp.2.1⟩, fun a ha b hb => ?_⟩
      · obtain ⟨j, hj, rfl⟩ := List.getElem_of_mem hy
        simp only [List.length_drop] at hj
        rw [List.getElem_drop]
        have hpl : posN l x < l.length := by omega
        have h3 : l[posN l x]? = some l[posN l x] := by simp [hpl]
        have h4 := posN_at l x _ h3
        have hne : x ≠ l[posN l x] := fun e => h2 (by rw [h3, ← e])
        have h5 : lessB x l[posN l x] = true := by
          cases hq : lessB x l[posN l x] with
          | true => rfl
          | false => exact (hne (lessB_tri hq h4)).elim
        cases j with
        | zero => exact h5
        | succ j => exact lessB_trans h5 (asc_get h (i := posN l x) (j := posN l x + (j + 1)) (by omega) h3 (by simp))
      · rcases List.mem_cons.1 hb with rfl | hb
        · obtain ⟨j, hj, rfl⟩ := List.getElem_of_mem ha
          simp only [List.length_take] at hj
          rw [List.getElem_take]
          exact posN_before l b j _ (by omega) (by simp)
        · exact hp.2.2 a ha b hb

theorem foldl_insN : ∀ (c l : List Int), Asc l → Asc (c.foldl insN l) ∧ ∀ y, y ∈ c.foldl insN l ↔ y ∈ l ∨ (y ∈ c ∧ y ≠ 0)
  | [], l, h => ⟨h, fun y => by simp⟩
  | x :: c, l, h => by
    obtain ⟨h1, h2⟩ := foldl_insN c (insN l x) (insN_asc h)
    refine ⟨h1, fun y => ?_⟩
    rw [List.foldl_cons, h2, insN_mem, List.mem_cons]
    constructor
    · rintro ((a | ⟨rfl, b⟩) | ⟨a, b⟩)
      · exact Or.inl a
      · exact Or.inr ⟨Or.inl rfl, b⟩
      · exact Or.inr ⟨Or.inr a, b⟩
    · rintro (a | ⟨rfl | a, b⟩)
      · exact Or.inl (Or.inl a)
      · exact Or.inl (Or.inr ⟨rfl, b⟩)
      · exact Or.inr ⟨a, b⟩

theorem refL_eq (c : List Int) : refL c = normL c := by
  obtain ⟨h1, h2⟩ := foldl_insN c [] List.Pairwise.nil
  refine asc_ext h1 (asc_normL c) fun y => ?_
  rw [refL] at *
  rw [h2, mem_normL_iff]; simp

theorem refL_step {c : List Int} {k : Nat} {x : Int} (hx : c[k]? = some x) : refL (c.take (k + 1)) = insN (refL (c.take k)) x := by
  simp [refL, List.take_add_one, hx]

theorem insN_length (l : List Int) (x : Int) : (insN l x).length ≤ l.length + 1 := by
  have := posN_le l x
  unfold insN
  split
  · omega
  · split
    · omega
    · simp; omega

theorem foldl_insN_length : ∀ (c l : List Int), (c.foldl insN l).length ≤ l.length + c.length
  | [], l => by simp
  | x :: c, l => by
    have h1 := foldl_insN_length c (insN l x)
    have h2 := insN_length l x
    simp only [List.foldl_cons, List.length_cons]; omega

theorem refL_length (c : List Int) : (refL c).length ≤ c.length := by
  have := foldl_insN_length c []
  simpa [refL] using this

theorem foldl_insN_from : ∀ (c l : List Int) (x : Int), x ∈ c.foldl insN l → x ∈ l ∨ x ∈ c
  | [], l, x, h => Or.inl h
  | y :: c, l, x, h => by
    rcases foldl_insN_from c _ x h with h | h
    · rcases insN_mem.1 h with h | ⟨h, _⟩
      · exact Or.inl h
      · exact Or.inr (by simp [h])
    · exact Or.inr (List.mem_cons_of_mem _ h)

theorem mem_refL {c : List Int} {x : Int} (h : x ∈ refL c) : x ∈ c := by
  rcases foldl_insN_from c [] x h with h | h
  · simp at h
  · exact h

theorem insN_zero {l : List Int} {x : Int} (h : x = 0) : insN l x = l := by simp [insN, h]
theorem insN_there {l : List Int} {x : Int} {k : Nat} (h0 : x ≠ 0) (hk : posN l x = k) (h : l[k]? = some x) : insN l x = l := by
  subst hk; simp [insN, h0, h]
theorem insN_new {l : List Int} {x : Int} {k : Nat} (h0 : x ≠ 0) (hk : posN l x = k) (h : l[k]? ≠ some x) : insN l x = l.take k ++ x :: l.drop k := by
  subst hk; simp [insN, h0, h]

/-- What lies in the list while the elements behind the place `at` are shifted up, the free place being k. -/
def shiftN (l : List Int) (k : Nat) (x : Int) : List Int := l.take k ++ x :: l.drop k

theorem shiftN_step {l : List Int} {k : Nat} {x y : Int} (hy : l[k]? = some y) : (shiftN l (k + 1) x).set (k + 1) y = shiftN l k y := by
  obtain ⟨hk, rfl⟩ := List.getElem?_eq_some_iff.1 hy
  unfold shiftN
  rw [List.set_append_right _ _ (by simp; omega)]
  have : k + 1 - (l.take (k + 1)).length = 0 := by simp; omega
  rw [this, List.set_cons_zero]
  have e1 : l.take (k + 1) = l.take k ++ [l[k]] := by rw [List.take_add_one, hy]; rfl
  have e2 : l.drop k = l[k] :: l.drop (k + 1) := List.drop_eq_getElem_cons hk
  rw [e2, e1, List.append_assoc]
  rfl

theorem shiftN_end {l : List Int} {k : Nat} {z y : Int} (hk : k ≤ l.length) : (shiftN l k z).set k y = shiftN l k y := by
  unfold shiftN
  rw [List.set_append_right _ _ (by simp; omega)]
  have : k - (l.take k).length = 0 := by simp; omega
  rw [this, List.set_cons_zero]

theorem shiftN_start (l : List Int) (x : Int) : shiftN l l.length x = l ++ [x] := by simp [shiftN]

theorem shiftN_get {l : List Int} {k : Nat} {x : Int} (hk : k < l.length) : (shiftN l (k + 1) x)[k]? = l[k]? := by
  unfold shiftN
  rw [List.getElem?_append_left (by simp; omega), List.getElem?_take, if_pos (by omega)]

theorem shiftN_length {l : List Int} {k : Nat} {x : Int} (hk : k ≤ l.length) : (shiftN l k x).length = l.length + 1 := by
  unfold shiftN; simp; omega

end Go.Proofs.Ytacmfiikdbekbaa

/- The contract of the reference's Norm. -/
namespace Go.Proofs.Ytacmfiikdbekbaa
open Go.RowKit

/-- The form of a row of the call's own that is not empty. -/
theorem own_form {w : World} {B e n : Nat} {v : Value} {xs : List Value} (h : w.ownsRow B e 1 v n xs) (hn : 0 < n) : ∃ g c, v = .slice (some ⟨g, 0, none⟩) n c := by
  rcases h.2 with ⟨_, h0⟩ | ⟨g, cap, cur, h1, _⟩
  · omega
  · exact ⟨g, cap, h1⟩

theorem ints_get {xs : List Int} {k : Nat} {x : Int} (h : xs[k]? = some x) : (ints xs)[k]? = some (.int .i64 x) := by simp [ints, h]

theorem ints_set (xs : List Int) (k : Nat) (x : Int) : (ints xs).set k (.int .i64 x) = ints (xs.set k x) := by simp [ints, List.map_set]

theorem hsto_len {w : World} {B g c j s : Nat} {l : List Int} {z x : Int} (h : (w.setCell ⟨g, s, none⟩ (.int .i64 x)).ownsRow B 3 1 (.slice (some ⟨g, 0, none⟩) (l.length + 1) c) (l.length + 1) ((ints (shiftN l s z)).set s (.int .i64 x))) (hs : s ≤ l.length) (hj : s = j) :
    (w.setCell ⟨g, s, none⟩ (.int .i64 x)).ownsRow B 3 1 (.slice (some ⟨g, 0, none⟩) (l.length + 1) c) (l.take j ++ x :: l.drop j).length (ints (l.take j ++ x :: l.drop j)) := by
  subst hj
  rw [ints_set, shiftN_end (z := z) hs] at h
  have e := shiftN_length (x := x) hs
  unfold shiftN at e h
  rw [e]; exact h

end Go.Proofs.Ytacmfiikdbekbaa

/- The contracts of lit.Norm and the reference's Norm once more, with their results under names; weepholelaw01.has. -/
namespace Go.Proofs.Ytacmfiikdbekbaa
open Go.RowKit

theorem lit_NormR (a : Option Addr) (xs ys : List Int) (r : Bool) (m cap : Nat) (w : World) (hr : adjB (normL xs) = r) (hy : normV xs = ys) (hm : m = xs.length) (hcap : m ≤ cap) (hc0 : a = none → cap = 0) (hs : SlV w a (ints xs)) (hx : ∀ x ∈ xs, I64 x) (hl : xs.length ≤ 4294967296) :
    Calls Try.prog 11 #[.slice a m cap] w fun e w' =>
      ∃ a' c', e = .returned (.tuple #[.slice a' ys.length c', .bool r]) ∧ OwnT 3 w' w.heap.size (.slice a' ys.length c') ys ∧ Below w.heap.size w w' := by
  refine (lit_Norm a xs m cap w hm hcap hc0 hs hx hl).mono ?_
  rintro e w' ⟨v, rfl, ho, hb⟩
  rw [hy] at ho
  obtain ⟨a', c', rfl, ho'⟩ := ownT_shape ho
  exact ⟨a', c', by rw [hr], ho', hb⟩

theorem normV_length (xs : List Int) : (normV xs).length ≤ xs.length := by
  unfold normV
  split
  · simp
  · exact normL_length xs

theorem mem_normV {x : Int} {xs : List Int} (h : x ∈ normV xs) : x ∈ xs := by
  unfold normV at h
  split at h
  · simp at h
  · exact mem_normL h

theorem eqI_self (xs : List Int) : eqI xs xs = true := by simp [eqI]

end Go.Proofs.Ytacmfiikdbekbaa

/- The contract of weepholelaw01.known. -/
namespace Go.Proofs.Ytacmfiikdbekbaa
open Go.RowKit

set_option maxHeartbeats 1000000 in
theorem law01_known (w : World) :
    Calls Try.prog 16 #[] w fun e w' => e = .returned (.bool true) ∧ Below w.heap.size w w' := by
  go_enter Try.func16, Try.ntmps16
  go_wp2_with fail
  refine (lit_NormF _ [3, -1, 3, 2] [-1, 2, 3] _ _ _ adj_3132 norm_3132 rfl (by decide) (by nofun) (slv_new _ _ _ _) (by simp [I64]) (by decide)).mono ?_
  rintro e w1 ⟨a1, c1, rfl, ho1, hb1⟩
  have hs1 := OwnT.slv ho1
  have hB1 : Below w.heap.size w w1 := (below_al (Below.refl _ _) (Nat.le_refl _) _).trans (hb1.mono (by simp))
  clear ho1 hb1
  go_wp2_with fail
  refine (kit_EqualIntsR _ _ [-1, 2, 3] [-1, 2, 3] _ _ _ _ true _ (by decide) rfl rfl (hs1.below (below_al (Below.refl _ _) (Nat.le_refl _) _)) (slv_new _ _ _ _) (by decide)).mono ?_
  rintro e w2 ⟨rfl, n2, rfl⟩
  go_wp2_with fail
  refine (lit_HoldsR _ [false, true] _ _ _ [-1] _ _ true _ (by decide) rfl rfl (slv_at (e := 4) (m := (0, 0)) (by simp [heap_al, Array.getElem_push, bools])) (by simp [I64]) (slv_at (e := 3) (m := (0, 0)) (by simp [heap_al, Array.getElem_push, ints])) (by decide) (by decide)).mono ?_
  rintro e w3 ⟨rfl, rfl⟩
  go_wp2_with fail
  refine (lit_CheckR 3 _ [1, -3] _ _ 0 _ (by decide) rfl (by simp [I64]) (slv_at (e := 3) (m := (0, 0)) (by simp [heap_al, Array.getElem_push, ints])) (by decide)).mono ?_
  rintro e w4 ⟨rfl, rfl⟩
  go_wp2_with fail
  go_ret
  refine ⟨rfl, ?_⟩
  have hz := hB1.size
  repeat (refine below_al ?_ (by simp; omega) _)
  refine below_dr ?_ _
  exact below_al hB1 hz _

end Go.Proofs.Ytacmfiikdbekbaa

/- The contracts of package lit and the kit once more, for closed calls: the world behind is told by Below alone. -/
namespace Go.Proofs.Ytacmfiikdbekbaa
open Go.RowKit

theorem lit_CheckB (n : Int) (a : Option Addr) (xs : List Int) (m cap : Nat) (r : Int) (w : World) (hr : litCheck n xs = r) (hm : m = xs.length) (hx : ∀ x ∈ xs, I64 x) (hs : SlV w a (ints xs)) (hl : xs.length ≤ 9223372036854775807) :
    Calls Try.prog 12 #[.int .i64 n, .slice a m cap] w fun e w' => e = .returned (.int .i64 r) ∧ Below w.heap.size w w' :=
  (lit_CheckR n a xs m cap r w hr hm hx hs hl).mono fun _ _ ⟨he, hw⟩ => ⟨he, hw ▸ Below.refl _ _⟩

theorem lit_HoldsB (am : Option Addr) (m : List Bool) (lm capm : Nat) (a : Option Addr) (xs : List Int) (lx cap : Nat) (r : Bool) (w : World) (hr : holdsB m xs = r) (hlm : lm = m.length) (hlx : lx = xs.length) (hm : SlV w am (bools m)) (hx : ∀ x ∈ xs, I64 x)
    (hs : SlV w a (ints xs)) (hl : xs.length ≤ 9223372036854775807) (hl2 : m.length ≤ 9223372036854775807) :
    Calls Try.prog 13 #[.slice am lm capm, .slice a lx cap] w fun e w' => e = .returned (.bool r) ∧ Below w.heap.size w w' :=
  (lit_HoldsR am m lm capm a xs lx cap r w hr hlm hlx hm hx hs hl hl2).mono fun _ _ ⟨he, hw⟩ => ⟨he, hw ▸ Below.refl _ _⟩

theorem lit_LessB (a b : Int) (r : Bool) (w : World) (hr : lessB a b = r) (ha : I64 a) (hb : I64 b) :
    Calls Try.prog 15 #[.int .i64 a, .int .i64 b] w fun e w' => e = .returned (.bool r) ∧ Below w.heap.size w w' :=
  (lit_Less' a b r w hr ha hb).mono fun _ _ ⟨he, hw⟩ => ⟨he, hw ▸ Below.refl _ _⟩

theorem kit_EqualIntsB (a b : Option Addr) (xs ys : List Int) (la ca lb cb : Nat) (r : Bool) (w : World) (hr : eqI xs ys = r) (hla : la = xs.length) (hlb : lb = ys.length) (hs : SlV w a (ints xs)) (ht : SlV w b (ints ys)) (hl : xs.length ≤ 9223372036854775807) :
    Calls Try.prog 14 #[.slice a la ca, .slice b lb cb] w fun e w' => e = .returned (.bool r) ∧ Below w.heap.size w w' :=
  (kit_EqualIntsR a b xs ys la ca lb cb r w hr hla hlb hs ht hl).mono fun _ _ ⟨he, n, hw⟩ => ⟨he, hw ▸ below_dr (Below.refl _ _) n⟩

theorem lit_NormB (a : Option Addr) (xs ys : List Int) (r : Bool) (m cap : Nat) (w : World) (hr : adjB (normL xs) = r) (hy : normV xs = ys) (hm : m = xs.length) (hcap : m ≤ cap) (hc0 : a = none → cap = 0) (hs : SlV w a (ints xs)) (hx : ∀ x ∈ xs, I64 x) (hl : xs.length ≤ 4294967296) :
    Calls Try.prog 11 #[.slice a m cap] w fun e w' =>
      ∃ a' c', e = .returned (.tuple #[.slice a' ys.length c', .bool r]) ∧ SlV w' a' (ints ys) ∧ Below w.heap.size w w' :=
  (lit_NormR a xs ys r m cap w hr hy hm hcap hc0 hs hx hl).mono fun _ _ ⟨a', c', he, ho, hb⟩ => ⟨a', c', he, OwnT.slv ho, hb⟩

theorem slice_headB {P : Program} {t e : TypeId} {a : Option Addr} {n c : Nat} {k : Int} (ht : P.underlying t = some (.slice e)) (hsz : ∀ wx, (sizeOf e).run P wx = .ok 1 wx) (h0 : 0 ≤ k) (h1 : k ≤ c) :
    ∀ wx, (Instr.slice t (.slice a n c) none (some (.int .i64 k)) none).run P wx = .ok (.slice a k.toNat c) wx := by
  intro wx
  have he : P.elem t = e := by simp [Program.elem, ht]
  rw [run_slice_h (P := P) wx t a n c (by rw [he]; exact ht) .i64 k h0 h1, he, hsz]
  cases a <;> simp [sliced, Result.andThen, Addr.add]

theorem box_belowB (w : World) (o : Obj) : Below w.heap.size w (w.alloc o) := below_al (Below.refl _ _) (Nat.le_refl _) _

theorem blk2a (w : World) (o o2 : Obj) : ((w.alloc o).alloc o2).heap[w.heap.size]? = some o := by
  rw [heap_al, heap_al, Array.getElem?_push, if_neg (by simp), Array.getElem?_push, if_pos rfl]

theorem blk2b (w : World) (o o2 : Obj) : ((w.alloc o).alloc o2).heap[w.heap.size + 1]? = some o2 := by
  rw [heap_al, Array.getElem?_push, if_pos (by simp)]

/-- A new block, then a call. -/
theorem below_new {B : Nat} {w w1 w2 : World} {o : Obj} (h : Below B w w1) (hB : B ≤ w1.heap.size) (h2 : Below (w1.heap.size + 1) (w1.alloc o) w2) : Below B w w2 :=
  (below_al h hB o).trans (h2.mono (by omega))

theorem below_new2 {B : Nat} {w w1 w2 : World} {o o2 : Obj} (h : Below B w w1) (hB : B ≤ w1.heap.size) (h2 : Below (w1.heap.size + 1 + 1) ((w1.alloc o).alloc o2) w2) : Below B w w2 :=
  (below_al (below_al h hB o) (by simp only [size_al]; omega) o2).trans (h2.mono (by omega))

end Go.Proofs.Ytacmfiikdbekbaa

/- The contracts of cnf.First and the reference's Check and First of layer 2. -/
namespace Go.Proofs.Ytacmfiikdbekbaa
open Go.RowKit

theorem cnfFirst_err {n e : Int} {f : List (List Int)} {m : List Bool} (h : cnfCheck n f = e) (h0 : (e != 0) = true) : cnfFirst n f m = (0, e) := by
  have : e ≠ 0 := by simpa using h0
  unfold cnfFirst; rw [if_pos (by rw [h]; exact this), h]
theorem cnfFirst_arg {n : Int} {f : List (List Int)} {m : List Bool} (h : cnfCheck n f = 0) (h0 : ((m.length : Int) != n) = true) : cnfFirst n f m = (0, 2) := by
  unfold cnfFirst; rw [if_neg (by simp [h]), if_pos (by simpa using h0)]
theorem cnfFirst_idx {n : Int} {f : List (List Int)} {m : List Bool} (h : cnfCheck n f = 0) (h0 : ((m.length : Int) != n) = false) : cnfFirst n f m = (firstIdx m f, 0) := by
  unfold cnfFirst; rw [if_neg (by simp [h]), if_neg (by simpa using h0)]

theorem cnf_CheckR (n : Int) (a : Option Addr) (f : List (List Int)) (m c : Nat) (e : Int) (w : World) (he : cnfCheck n f = e) (hm : m = f.length) (hf : FOk f) (hr : Rws w a f) (hl : f.length ≤ 9223372036854775807) :
    Calls Try.prog 18 #[.agg #[.int .i64 n, .slice a m c]] w fun x w' => x = .returned (.int .i64 e) ∧ w.alloc (fbox n a m c) = w' := he ▸ cnf_Check n a f m c w hm hf hr hl

set_option maxHeartbeats 1000000 in
theorem cnf_First (n : Int) (a : Option Addr) (f : List (List Int)) (lf c : Nat) (am : Option Addr) (m : List Bool) (lm cm : Nat) (w : World) (hlf : lf = f.length) (hlm : lm = m.length) (hf : FOk f) (hr : Rws w a f) (hm : SlV w am (bools m))
    (hl : f.length ≤ 9223372036854775807) (hl2 : m.length ≤ 9223372036854775807) :
    Calls Try.prog 19 #[.agg #[.int .i64 n, .slice a lf c], .slice am lm cm] w fun x w' =>
      x = .returned (.tuple #[.int .i64 (cnfFirst n f m).1, .int .i64 (cnfFirst n f m).2]) ∧ Below w.heap.size w w' := by
  subst hlf
  subst hlm
  have HF := hid hf
  obtain ⟨e1, he1⟩ : ∃ e1, cnfCheck n f = e1 := ⟨_, rfl⟩
  have HE := hid he1
  have HR1 := hid (hr.below (box_below w (fbox n a f.length c)))
  have hb2 : Below w.heap.size w ((w.alloc (fbox n a f.length c)).alloc (fbox n a f.length c)) := below_al (box_below _ _) (by simp only [size_al]; omega) _
  have HR2 := hid (hr.below hb2)
  have HM2 := hid (hm.below hb2)
  have HB2 := hid hb2
  clear hf hr hm he1 hb2
  by_cases hz : e1 = 0
  · have hz' : (e1 != 0) = false := by simp [hz]
    have HZ : Hid (cnfCheck n f = 0) := by rw [HE.out, hz]; rfl
    clear hz
    cases hlen : ((m.length : Int) != n) with
    | true =>
      have HG := hid (cnfFirst_arg HZ.out hlen)
      go_enter Try.func19, Try.ntmps19
      go_wp2_with (go_at_call 18; refine (cnf_CheckR n _ f _ _ _ _ HE.out rfl HF.out HR1.out hl).mono ?_; rintro e w' ⟨rfl, rfl⟩)
      go_ret2
      exact ⟨by rw [HG.out]; rfl, HB2.out⟩
    | false =>
      have HG := hid (cnfFirst_idx HZ.out hlen)
      go_enter Try.func19, Try.ntmps19
      go_wp2_with (go_at_call 18; refine (cnf_CheckR n _ f _ _ _ _ HE.out rfl HF.out HR1.out hl).mono ?_; rintro e w' ⟨rfl, rfl⟩)
      go_loop [22] (fun i => ∃ k : Nat, k ≤ f.length ∧ i = .int .i64 k ∧ Hid ((f.take k).any (fun c => !holdsB m c) = false)) (fun i => f.length - (intOf i).toNat)
      case atStart => exact ⟨0, Nat.zero_le _, rfl, rfl⟩
      case round =>
        obtain ⟨k, hk, rfl, hrel⟩ := hrel
        by_cases hlt : k < f.length
        · obtain ⟨b, off, c1, a1, cc1, rfl, hcell, hsl, hc1, hx1, hl1, -, -⟩ := HR2.out.row HF.out hlt
          have HC := hid hc1
          have HS := hid hsl
          have HX := hid hx1
          obtain ⟨r1, hr1⟩ : ∃ r1, holdsB m c1 = r1 := ⟨_, rfl⟩
          have HH := hid hr1
          clear hc1 hsl hx1 hr1
          cases r1 with
          | true =>
            go_wp2_with (go_at_call 13; refine (lit_HoldsR _ m _ _ _ c1 _ _ _ _ HH.out rfl rfl HM2.out HX.out HS.out hl1 hl2).mono ?_; rintro e w' ⟨rfl, rfl⟩)
            go_round
            case rel => exact ⟨k + 1, by omega, by go_num, take_any_succ HC.out hrel (by simp [HH.out])⟩
            case measure => simp [intOf]; omega
          | false =>
            have HI := hid (firstIdx_at HC.out hrel HH.out)
            go_wp2_with (go_at_call 13; refine (lit_HoldsR _ m _ _ _ c1 _ _ _ _ HH.out rfl rfl HM2.out HX.out HS.out hl1 hl2).mono ?_; rintro e w' ⟨rfl, rfl⟩)
            go_ret2
            exact ⟨by rw [HG.out, HI.out]; rfl, HB2.out⟩
        · have HI := hid (firstIdx_none hlt hrel)
          go_wp2_with fail
          go_ret2
          exact ⟨by rw [HG.out, HI.out]; rfl, HB2.out⟩
  · have hz' : (e1 != 0) = true := by simp [hz]
    have HG := hid (cnfFirst_err (m := m) HE.out hz')
    clear hz
    go_enter Try.func19, Try.ntmps19
    go_wp2_with (go_at_call 18; refine (cnf_CheckR n _ f _ _ _ _ HE.out rfl HF.out HR1.out hl).mono ?_; rintro e w' ⟨rfl, rfl⟩)
    go_ret2
    exact ⟨by rw [HG.out]; rfl, HB2.out⟩

end Go.Proofs.Ytacmfiikdbekbaa

/- The contracts of the reference's First of layer 2, and of weepholelaw02.three and known. -/
namespace Go.Proofs.Ytacmfiikdbekbaa
open Go.RowKit

/-- The formula of weepholelaw02.three. -/
def threeF : List (List Int) := [[1, 2], [-1, 3], [-2, -3]]

set_option maxHeartbeats 1000000 in
theorem law02_three (w : World) :
    Calls Try.prog 17 #[] w fun e w' => e = .returned (.agg #[.int .i64 3, .slice (some ⟨w.heap.size + 4, 0, none⟩) 3 3]) ∧ Below w.heap.size w w' ∧ w'.heap.size = w.heap.size + 5 ∧
      w'.heap[w.heap.size + 1]? = some (.cells #[.int .i64 1, .int .i64 2] 3) ∧ w'.heap[w.heap.size + 2]? = some (.cells #[.int .i64 (-1), .int .i64 3] 3) ∧ w'.heap[w.heap.size + 3]? = some (.cells #[.int .i64 (-2), .int .i64 (-3)] 3) ∧
      w'.heap[w.heap.size + 4]? = some (.cells #[.slice (some ⟨w.heap.size + 1, 0, none⟩) 2 2, .slice (some ⟨w.heap.size + 2, 0, none⟩) 2 2, .slice (some ⟨w.heap.size + 3, 0, none⟩) 2 2] 22) := by
  go_enter Try.func17, Try.ntmps17
  go_wp2_with fail
  refine bodyPost_ret (v := .agg #[.int .i64 3, .slice (some ⟨w.heap.size + 4, 0, none⟩) 3 3]) (by simp [results, Try.results17, go_sem]) rfl ⟨rfl, ?_, ?_, ?_, ?_, ?_, ?_⟩
  · exact below_al (below_al (below_al (below_al (box_below _ _) (by simp only [size_al]; omega) _) (by simp only [size_al]; omega) _) (by simp only [size_al]; omega) _) (by simp only [size_al]; omega) _
  · simp only [size_al]
  all_goals simp [heap_al, Array.getElem_push]

theorem fok_three : FOk threeF := by
  intro c hc
  simp [threeF] at hc
  rcases hc with rfl | rfl | rfl <;> simp [I64]

theorem sli_of_block {w : World} {b n : Nat} {e : TypeId} {xs : List Int} {m : Nat × Nat} (h : w.heap[b]? = some (.cells (ints xs).toArray e m)) (hn : n = xs.length) : SlI w (.slice (some ⟨b, 0, none⟩) n n) xs :=
  ⟨some ⟨b, 0, none⟩, n, by rw [hn], by omega, nofun, slv_at h⟩

theorem law02_threeR (w : World) :
    Calls Try.prog 17 #[] w fun e w' => ∃ a c, e = .returned (.agg #[.int .i64 3, .slice a 3 c]) ∧ Rws w' a threeF ∧ Below w.heap.size w w' := by
  refine (law02_three w).mono ?_
  rintro e w' ⟨rfl, hb, hs, h1, h2, h3, h4⟩
  refine ⟨_, _, rfl, ?_, hb⟩
  intro j c hj
  have hcell := slv_at (vs := [.slice (some ⟨w.heap.size + 1, 0, none⟩) 2 2, .slice (some ⟨w.heap.size + 2, 0, none⟩) 2 2, .slice (some ⟨w.heap.size + 3, 0, none⟩) 2 2]) h4
  match j, hj with
  | 0, hj => simp [threeF] at hj; subst hj; obtain ⟨b, off, e1, e2⟩ := hcell 0 _ rfl; exact ⟨b, off, _, e1, e2, sli_of_block h1 rfl⟩
  | 1, hj => simp [threeF] at hj; subst hj; obtain ⟨b, off, e1, e2⟩ := hcell 1 _ rfl; exact ⟨b, off, _, e1, e2, sli_of_block h2 rfl⟩
  | 2, hj => simp [threeF] at hj; subst hj; obtain ⟨b, off, e1, e2⟩ := hcell 2 _ rfl; exact ⟨b, off, _, e1, e2, sli_of_block h3 rfl⟩
  | j + 3, hj => simp [threeF] at hj

theorem cnf_FirstR (n : Int) (a : Option Addr) (f : List (List Int)) (lf c : Nat) (am : Option Addr) (m : List Bool) (lm cm : Nat) (i e : Int) (w : World) (hr0 : cnfFirst n f m = (i, e)) (hlf : lf = f.length) (hlm : lm = m.length) (hf : FOk f) (hr : Rws w a f) (hm : SlV w am (bools m))
    (hl : f.length ≤ 9223372036854775807) (hl2 : m.length ≤ 9223372036854775807) :
    Calls Try.prog 19 #[.agg #[.int .i64 n, .slice a lf c], .slice am lm cm] w fun x w' =>
      x = .returned (.tuple #[.int .i64 i, .int .i64 e]) ∧ Below w.heap.size w w' := by
  have := cnf_First n a f lf c am m lm cm w hlf hlm hf hr hm hl hl2
  rwa [hr0] at this

set_option maxHeartbeats 1000000 in
theorem law02_known (w : World) :
    Calls Try.prog 21 #[] w fun e w' => e = .returned (.bool true) ∧ Below w.heap.size w w' := by
  go_enter Try.func21, Try.ntmps21
  go_wp2_with fail
  refine (law02_threeR w).mono ?_
  rintro e w1 ⟨a1, c1, rfl, hr1, hb1⟩
  have HR1 := hid hr1
  clear hr1
  go_wp2_with fail
  refine (cnf_FirstR 3 _ threeF _ _ _ [true, false, true] _ _ (-1) 0 _ (by decide) rfl rfl fok_three (HR1.out.below (box_below _ _)) (slv_at (e := 4) (m := (0, 0)) (by simp [heap_al, bools])) (by decide) (by decide)).mono ?_
  rintro e w2 ⟨rfl, hb2⟩
  have hB2 : Below w.heap.size w w2 := (below_al hb1 hb1.size _).trans (hb2.mono (by have := hb1.size; simp only [size_al]; omega))
  clear hb1 hb2 HR1
  go_wp2_with fail
  refine (law02_threeR _).mono ?_
  rintro e w3 ⟨a3, c3, rfl, hr3, hb3⟩
  have HR3 := hid hr3
  clear hr3
  go_wp2_with fail
  refine (cnf_CheckR 3 _ threeF _ _ 0 _ (by decide) rfl fok_three HR3.out (by decide)).mono ?_
  rintro e w4 ⟨rfl, rfl⟩
  go_wp2_with fail
  go_ret
  exact ⟨rfl, below_al (hB2.trans (hb3.mono hB2.size)) (Nat.le_trans hB2.size hb3.size) _⟩

end Go.Proofs.Ytacmfiikdbekbaa

/- Rows of rows of the call's own. -/
namespace Go.Proofs.Ytacmfiikdbekbaa
open Go.RowKit

theorem info_ints : (Try.prog.info? 22).map (fun i => (i.zero, i.size, i.bytes)) = some (some (.slice none 0 0), 1, 24) := by kernel_rfl

/-- The slice value 'v' is a row of the call's own (from B on) of the lists 'f', each a row of the call's own. -/
def OwnRw (w : World) (B : Nat) (v : Value) (f : List (List Int)) : Prop :=
  ∃ vs, w.ownsRow B 22 1 v f.length vs ∧ ∀ (j : Nat) (c : List Int), f[j]? = some c → ∃ u, vs[j]? = some u ∧ w.ownsRow B 3 1 u c.length (ints c)

theorem fit_cell {w : World} {b : Nat} {e : TypeId} {vs : List Value} {m : Nat × Nat} (h : w.heap[b]? = some (.cells vs.toArray e m)) (j : Nat) : w.cell? ⟨b, j, none⟩ = vs[j]? := by
  rw [cell_of_row _ _ _ _ _ _ h]; simp

theorem own_below {w w' : World} {B e s n : Nat} {v : Value} {xs : List Value} (h : w.ownsRow B e s v n xs) (hb : Below w.heap.size w w') : w'.ownsRow B e s v n xs := by
  refine ⟨h.1, ?_⟩
  rcases h.2 with h0 | ⟨g, cap, cur, e1, e2, e3, e4⟩
  · exact .inl h0
  · exact .inr ⟨g, cap, cur, e1, e2, by rw [hb.block g (Array.getElem?_eq_some_iff.1 e3).1]; exact e3, e4⟩

theorem own_apart {w : World} {B B' e e' s s' n n' : Nat} {v v' : Value} {xs xs' : List Value} (h : w.ownsRow B e s v n xs) (h' : w.ownsRow B' e' s' v' n' xs') (hne : e ≠ e') : v.ownBlock = none ∨ v.ownBlock ≠ v'.ownBlock := by
  rcases h.2 with ⟨rfl, _⟩ | ⟨g, cap, cur, rfl, _, hg, _⟩
  · exact .inl rfl
  · rcases h'.2 with ⟨rfl, _⟩ | ⟨g', cap', cur', rfl, _, hg', _⟩
    · exact .inr (by simp [Value.ownBlock])
    · refine .inr fun he => ?_
      simp only [Value.ownBlock, Option.some.injEq] at he
      rw [he, hg'] at hg
      simp at hg
      exact hne hg.2.symm

/-- One element of a slice of ints of the kind k. -/
theorem SlV.intK {w : World} {a : Option Addr} {xs : List Int} {k : IntKind} (h : SlV w a (xs.map (Value.int k))) {j : Nat} (hj : j < xs.length) :
    ∃ b off x, a = some ⟨b, off, none⟩ ∧ w.cell? ⟨b, off + j, none⟩ = some (.int k x) ∧ xs[j]? = some x := by
  obtain ⟨b, off, ha, hc⟩ := h j (.int k xs[j]) (by simp [hj])
  exact ⟨b, off, xs[j], ha, hc, by simp [hj]⟩

theorem own_not {w : World} {B e s n k : Nat} {v : Value} {xs : List Value} (h : w.ownsRow B e s v n xs) (hk : k < B) : some k ≠ v.ownBlock := by
  intro he
  have := h.lt k he.symm
  omega

theorem OwnRw.below {w w' : World} {B : Nat} {v : Value} {f : List (List Int)} (h : OwnRw w B v f) (hb : Below w.heap.size w w') : OwnRw w' B v f :=
  let ⟨vs, h1, h2⟩ := h; ⟨vs, own_below h1 hb, fun j c hj => let ⟨u, e1, e2⟩ := h2 j c hj; ⟨u, e1, own_below e2 hb⟩⟩

theorem OwnRw.base {w : World} {B B' : Nat} {v : Value} {f : List (List Int)} (h : OwnRw w B v f) (hB : B' ≤ B) : OwnRw w B' v f :=
  let ⟨vs, h1, h2⟩ := h; ⟨vs, own_base h1 hB, fun j c hj => let ⟨u, e1, e2⟩ := h2 j c hj; ⟨u, e1, own_base e2 hB⟩⟩

theorem OwnRw.setBelow {w : World} {B : Nat} {v : Value} {f : List (List Int)} (h : OwnRw w B v f) {a : Addr} (ha : a.block < B) (u : Value) : OwnRw (w.setCell a u) B v f :=
  let ⟨vs, h1, h2⟩ := h; ⟨vs, ownsRow_setCell_below h1 ha u, fun j c hj => let ⟨x, e1, e2⟩ := h2 j c hj; ⟨x, e1, ownsRow_setCell_below e2 ha u⟩⟩

/-- A row appended. -/
theorem OwnRw.push {w w' : World} {B : Nat} {v v' x : Value} {f : List (List Int)} {c : List Int} {vs : List Value} (h1 : w.ownsRow B 22 1 v f.length vs)
    (h2 : ∀ (j : Nat) (c : List Int), f[j]? = some c → ∃ u, vs[j]? = some u ∧ w.ownsRow B 3 1 u c.length (ints c)) (hx : w.ownsRow B 3 1 x c.length (ints c))
    (h' : w'.ownsRow B 22 1 v' (f.length + 1) (vs ++ [x])) (hg : w.grownBy w' v.ownBlock) : OwnRw w' B v' (f ++ [c]) := by
  have hl : vs.length = f.length := by have := h1.1; omega
  refine ⟨vs ++ [x], by simpa using h', fun j d hj => ?_⟩
  rcases Nat.lt_or_ge j f.length with hlt | hge
  · rw [List.getElem?_append_left hlt] at hj
    obtain ⟨u, e1, e2⟩ := h2 j d hj
    exact ⟨u, by rw [List.getElem?_append_left (by omega)]; exact e1, e2.kept hg (own_apart e2 h1 (by decide))⟩
  · rw [List.getElem?_append_right hge] at hj
    have hj0 : j - f.length = 0 := by
      rcases Nat.eq_zero_or_pos (j - f.length) with h0 | h0
      · exact h0
      · rw [List.getElem?_eq_none (by simp; omega)] at hj; cases hj
    rw [hj0] at hj
    simp at hj
    subst hj
    exact ⟨x, by rw [List.getElem?_append_right (by omega), hl, hj0]; rfl, hx.kept hg (own_apart hx h1 (by decide))⟩

theorem OwnRw.shape {w : World} {B : Nat} {v : Value} {f : List (List Int)} (h : OwnRw w B v f) : ∃ a c, v = .slice a f.length c ∧ f.length ≤ c ∧ (a = none → c = 0) ∧ Rws w a f := by
  obtain ⟨vs, h1, h2⟩ := h
  obtain ⟨a, c, e1, e2, e3, e4⟩ := own_sl h1
  have hl : vs.length = f.length := by have := h1.1; omega
  rw [hl] at e1 e2
  refine ⟨a, c, e1, e2, e3, fun j d hj => ?_⟩
  obtain ⟨u, g1, g2⟩ := h2 j d hj
  obtain ⟨b, off, k1, k2⟩ := e4 j u g1
  exact ⟨b, off, u, k1, k2, own_sli g2⟩

end Go.Proofs.Ytacmfiikdbekbaa

/- Rows of rows, the inner ones slices into blocks of the call's own. -/
namespace Go.Proofs.Ytacmfiikdbekbaa
open Go.RowKit

/-- The slice value 'v' is a row of the call's own (from B on) of the lists 'f', each a slice of ints in a block of the call's own. -/
def OwnRt (w : World) (B : Nat) (v : Value) (f : List (List Int)) : Prop :=
  ∃ vs, w.ownsRow B 22 1 v f.length vs ∧ ∀ (j : Nat) (c : List Int), f[j]? = some c → ∃ u, vs[j]? = some u ∧ OwnT 3 w B u c

theorem ownT_kept {e e' : TypeId} {w w' : World} {B B' n' s' : Nat} {v v' : Value} {xs : List Int} {xs' : List Value} (h : OwnT e w B v xs) (h' : w.ownsRow B' e' s' v' n' xs') (hne : e ≠ e') (hg : w.grownBy w' v'.ownBlock) : OwnT e w' B v xs := by
  obtain ⟨a, c, h1, h2, h3, h4⟩ := h
  refine ⟨a, c, h1, h2, h3, fun ad had => ?_⟩
  obtain ⟨g, off, cur, e1, e2, e3, e4⟩ := h4 ad had
  refine ⟨g, off, cur, e1, e2, ?_, e4⟩
  rw [hg.block g (Array.getElem?_eq_some_iff.1 e3).1 ?_]
  · exact e3
  · intro he
    rcases h'.2 with ⟨rfl, _⟩ | ⟨g', cap', cur', rfl, _, hg', _⟩
    · simp [Value.ownBlock] at he
    · simp only [Value.ownBlock, Option.some.injEq] at he
      rw [← he, e3] at hg'
      simp at hg'
      exact hne hg'.2

theorem ownT_setBelow {e : TypeId} {w : World} {B : Nat} {v : Value} {xs : List Int} (h : OwnT e w B v xs) {a : Addr} (ha : a.block < B) (u : Value) : OwnT e (w.setCell a u) B v xs := by
  obtain ⟨ad, c, h1, h2, h3, h4⟩ := h
  refine ⟨ad, c, h1, h2, h3, fun x hx => ?_⟩
  obtain ⟨g, off, cur, e1, e2, e3, e4⟩ := h4 x hx
  exact ⟨g, off, cur, e1, e2, by rw [heap_setCell_other w a g u (by omega)]; exact e3, e4⟩

theorem OwnRt.nil (w : World) (B : Nat) : OwnRt w B (.slice none 0 0) [] := ⟨[], World.ownsRow_nil _ _ _ _, by simp⟩

theorem OwnRt.below {w w' : World} {B : Nat} {v : Value} {f : List (List Int)} (h : OwnRt w B v f) (hb : Below w.heap.size w w') : OwnRt w' B v f :=
  let ⟨vs, h1, h2⟩ := h; ⟨vs, own_below h1 hb, fun j c hj => let ⟨u, e1, e2⟩ := h2 j c hj; ⟨u, e1, e2.below hb⟩⟩

theorem OwnRt.setBelow {w : World} {B : Nat} {v : Value} {f : List (List Int)} (h : OwnRt w B v f) {a : Addr} (ha : a.block < B) (u : Value) : OwnRt (w.setCell a u) B v f :=
  let ⟨vs, h1, h2⟩ := h; ⟨vs, ownsRow_setCell_below h1 ha u, fun j c hj => let ⟨x, e1, e2⟩ := h2 j c hj; ⟨x, e1, ownT_setBelow e2 ha u⟩⟩

/-- A row appended. -/
theorem OwnRt.push {w w' : World} {B : Nat} {v v' x : Value} {f : List (List Int)} {c : List Int} {vs : List Value} (h1 : w.ownsRow B 22 1 v f.length vs)
    (h2 : ∀ (j : Nat) (c : List Int), f[j]? = some c → ∃ u, vs[j]? = some u ∧ OwnT 3 w B u c) (hx : OwnT 3 w B x c)
    (h' : w'.ownsRow B 22 1 v' (f.length + 1) (vs ++ [x])) (hg : w.grownBy w' v.ownBlock) : OwnRt w' B v' (f ++ [c]) := by
  have hl : vs.length = f.length := by have := h1.1; omega
  refine ⟨vs ++ [x], by simpa using h', fun j d hj => ?_⟩
  rcases Nat.lt_or_ge j f.length with hlt | hge
  · rw [List.getElem?_append_left hlt] at hj
    obtain ⟨u, e1, e2⟩ := h2 j d hj
    exact ⟨u, by rw [List.getElem?_append_left (by omega)]; exact e1, ownT_kept e2 h1 (by decide) hg⟩
  · rw [List.getElem?_append_right hge] at hj
    have hj0 : j - f.length = 0 := by
      rcases Nat.eq_zero_or_pos (j - f.length) with h0 | h0
      · exact h0
      · rw [List.getElem?_eq_none (by simp; omega)] at hj; cases hj
    rw [hj0] at hj
    simp at hj
    subst hj
    exact ⟨x, by rw [List.getElem?_append_right (by omega), hl, hj0]; rfl, ownT_kept hx h1 (by decide) hg⟩

theorem OwnRt.shape {w : World} {B : Nat} {v : Value} {f : List (List Int)} (h : OwnRt w B v f) : ∃ a c, v = .slice a f.length c ∧ f.length ≤ c ∧ (a = none → c = 0) ∧ Rws w a f := by
  obtain ⟨vs, h1, h2⟩ := h
  obtain ⟨a, c, e1, e2, e3, e4⟩ := own_sl h1
  have hl : vs.length = f.length := by have := h1.1; omega
  rw [hl] at e1 e2
  refine ⟨a, c, e1, e2, e3, fun j d hj => ?_⟩
  obtain ⟨u, g1, g2⟩ := h2 j d hj
  obtain ⟨b, off, k1, k2⟩ := e4 j u g1
  exact ⟨b, off, u, k1, k2, g2.sli⟩

end Go.Proofs.Ytacmfiikdbekbaa

/- The contracts of gate's builder: its table of clauses. -/
namespace Go.Proofs.Ytacmfiikdbekbaa.Ord
open Go.RowKit Go.Conc

attribute [local go_sem ↓] Go.wp_at_zero Go.wp_at_succ

/-- The clauses of the gates: 1 the gate, 2 to 4 its arguments. -/
def gateT : Nat → List (List Int)
  | 0 => [[-1, 2], [-1, 3], [1, -2, -3]]
  | 1 => [[-1, 2, 3], [-1, -2, -3], [1, -2, 3], [1, 2, -3]]
  | _ => [[-2, -3, 1], [-2, 3, -1], [2, -4, 1], [2, 4, -1], [-3, -4, 1], [3, 4, -1]]

/-- A table of rows at the block g, all of it from B on. -/
def TB (w : World) (B : Nat) (a : Option Addr) (f : List (List Int)) : Prop :=
  ∃ g vs, a = some ⟨g, 0, none⟩ ∧ B ≤ g ∧ w.heap[g]? = some (.cells (List.toArray vs) 22 (0, 0)) ∧ ∀ (j : Nat) (c : List Int), f[j]? = some c → ∃ u, vs[j]? = some u ∧ OwnT 3 w B u c

theorem tb_at {w : World} {B b : Nat} {f : List (List Int)} {bs : List Nat} (hl : bs.length = f.length) (hB : B ≤ b) (hbs : ∀ x ∈ bs, B ≤ x)
    (h : w.heap[b]? = some (.cells (List.zipWith (fun b c => Value.slice (some ⟨b, 0, none⟩) c.length c.length) bs f).toArray 22 (0, 0)))
    (h1 : ∀ p ∈ bs.zip f, w.heap[p.1]? = some (.cells (ints p.2).toArray 3 (0, 0))) : TB w B (some ⟨b, 0, none⟩) f := by
  refine ⟨b, _, rfl, hB, h, fun j c hj => ?_⟩
  have hjl := (List.getElem?_eq_some_iff.1 hj).1
  obtain ⟨b1, hb1⟩ : ∃ b1, bs[j]? = some b1 := ⟨_, List.getElem?_eq_getElem (by omega)⟩
  refine ⟨.slice (some ⟨b1, 0, none⟩) c.length c.length, by simp [List.getElem?_zipWith, hb1, hj], some ⟨b1, 0, none⟩, c.length, rfl, Nat.le_refl _, (fun e => by cases e), fun ad had => ?_⟩
  have hz : (b1, c) ∈ bs.zip f := List.mem_of_getElem? (i := j) (by rw [List.getElem?_zip_eq_some]; exact ⟨hb1, hj⟩)
  injection had with had
  exact ⟨b1, 0, _, had.symm, hbs b1 (List.mem_of_getElem? hb1), h1 _ hz, fun i x hx => by simp [ints, hx]⟩

set_option maxRecDepth 100000 in
set_option maxHeartbeats 4000000 in
theorem gate_clauses (w : World) :
    Calls Try.prog 69 #[] w fun e w' => ∃ a0 a1 a2, e = .returned (.agg #[.slice a0 3 3, .slice a1 4 4, .slice a2 6 6]) ∧ TB w' w.heap.size a0 (gateT 0) ∧ TB w' w.heap.size a1 (gateT 1) ∧ TB w' w.heap.size a2 (gateT 2) ∧ Below w.heap.size w w' := by
  go_enter Try.func69, Try.ntmps69
  go_wp2_with fail
  generalize hW : World.alloc _ _ = wz
  have hb0 : wz.heap[w.heap.size]? = some (.cells #[.slice (some ⟨w.heap.size + 1 + 1 + 1 + 1, 0, none⟩) 3 3, .slice (some ⟨w.heap.size + 1 + 1 + 1 + 1 + 1 + 1 + 1 + 1 + 1, 0, none⟩) 4 4, .slice (some ⟨w.heap.size + 1 + 1 + 1 + 1 + 1 + 1 + 1 + 1 + 1 + 1 + 1 + 1 + 1 + 1 + 1 + 1, 0, none⟩) 6 6] 110) := by rw [← hW]; simp only [heap_al, Array.getElem?_push, Array.size_push]; rw [if_neg (by omega)]; rw [if_neg (by omega)]; rw [if_neg (by omega)]; rw [if_neg (by omega)]; rw [if_neg (by omega)]; rw [if_neg (by omega)]; rw [if_neg (by omega)]; rw [if_neg (by omega)]; rw [if_neg (by omega)]; rw [if_neg (by omega)]; rw [if_neg (by omega)]; rw [if_neg (by omega)]; rw [if_neg (by omega)]; rw [if_neg (by omega)]; rw [if_neg (by omega)]; rw [if_neg (by omega)]; rw [if_pos trivial]
  have hb1 : wz.heap[w.heap.size + 1]? = some (.cells #[.int .i64 (-1), .int .i64 (2)] 3) := by rw [← hW]; simp only [heap_al, Array.getElem?_push, Array.size_push]; rw [if_neg (by omega)]; rw [if_neg (by omega)]; rw [if_neg (by omega)]; rw [if_neg (by omega)]; rw [if_neg (by omega)]; rw [if_neg (by omega)]; rw [if_neg (by omega)]; rw [if_neg (by omega)]; rw [if_neg (by omega)]; rw [if_neg (by omega)]; rw [if_neg (by omega)]; rw [if_neg (by omega)]; rw [if_neg (by omega)]; rw [if_neg (by omega)]; rw [if_neg (by omega)]; rw [if_pos trivial]
  have hb2 : wz.heap[w.heap.size + 1 + 1]? = some (.cells #[.int .i64 (-1), .int .i64 (3)] 3) := by rw [← hW]; simp only [heap_al, Array.getElem?_push, Array.size_push]; rw [if_neg (by omega)]; rw [if_neg (by omega)]; rw [if_neg (by omega)]; rw [if_neg (by omega)]; rw [if_neg (by omega)]; rw [if_neg (by omega)]; rw [if_neg (by omega)]; rw [if_neg (by omega)]; rw [if_neg (by omega)]; rw [if_neg (by omega)]; rw [if_neg (by omega)]; rw [if_neg (by omega)]; rw [if_neg (by omega)]; rw [if_neg (by omega)]; rw [if_pos trivial]
  have hb3 : wz.heap[w.heap.size + 1 + 1 + 1]? = some (.cells #[.int .i64 (1), .int .i64 (-2), .int .i64 (-3)] 3) := by rw [← hW]; simp only [heap_al, Array.getElem?_push, Array.size_push]; rw [if_neg (by omega)]; rw [if_neg (by omega)]; rw [if_neg (by omega)]; rw [if_neg (by omega)]; rw [if_neg (by omega)]; rw [if_neg (by omega)]; rw [if_neg (by omega)]; rw [if_neg (by omega)]; rw [if_neg (by omega)]; rw [if_neg (by omega)]; rw [if_neg (by omega)]; rw [if_neg (by omega)]; rw [if_neg (by omega)]; rw [if_pos trivial]
  have hb4 : wz.heap[w.heap.size + 1 + 1 + 1 + 1]? = some (.cells #[.slice (some ⟨w.heap.size + 1, 0, none⟩) 2 2, .slice (some ⟨w.heap.size + 1 + 1, 0, none⟩) 2 2, .slice (some ⟨w.heap.size + 1 + 1 + 1, 0, none⟩) 3 3] 22) := by rw [← hW]; simp only [heap_al, Array.getElem?_push, Array.size_push]; rw [if_neg (by omega)]; rw [if_neg (by omega)]; rw [if_neg (by omega)]; rw [if_neg (by omega)]; rw [if_neg (by omega)]; rw [if_neg (by omega)]; rw [if_neg (by omega)]; rw [if_neg (by omega)]; rw [if_neg (by omega)]; rw [if_neg (by omega)]; rw [if_neg (by omega)]; rw [if_neg (by omega)]; rw [if_pos trivial]
  have hb5 : wz.heap[w.heap.size + 1 + 1 + 1 + 1 + 1]? = some (.cells #[.int .i64 (-1), .int .i64 (2), .int .i64 (3)] 3) := by rw [← hW]; simp only [heap_al, Array.getElem?_push, Array.size_push]; rw [if_neg (by omega)]; rw [if_neg (by omega)]; rw [if_neg (by omega)]; rw [if_neg (by omega)]; rw [if_neg (by omega)]; rw [if_neg (by omega)]; rw [if_neg (by omega)]; rw [if_neg (by omega)]; rw [if_neg (by omega)]; rw [if_neg (by omega)]; rw [if_neg (by omega)]; rw [if_pos trivial]
  have hb6 : wz.heap[w.heap.size + 1 + 1 + 1 + 1 + 1 + 1]? = some (.cells #[.int .i64 (-1), .int .i64 (-2), .int .i64 (-3)] 3) := by rw [← hW]; simp only [heap_al, Array.getElem?_push, Array.size_push]; rw [if_neg (by omega)]; rw [if_neg (by omega)]; rw [if_neg (by omega)]; rw [if_neg (by omega)]; rw [if_neg (by omega)]; rw [if_neg (by omega)]; rw [if_neg (by omega)]; rw [if_neg (by omega)]; rw [if_neg (by omega)]; rw [if_neg (by omega)]; rw [if_pos trivial]
  have hb7 : wz.heap[w.heap.size + 1 + 1 + 1 + 1 + 1 + 1 + 1]? = some (.cells #[.int .i64 (1), .int .i64 (-2), .int .i64 (3)] 3) := by rw [← hW]; simp only [heap_al, Array.getElem?_push, Array.size_push]; rw [if_neg (by omega)]; rw [if_neg (by omega)]; rw [if_neg (by omega)]; rw [if_neg (by omega)]; rw [if_neg (by omega)]; rw [if_neg (by omega)]; rw [if_neg (by omega)]; rw [if_neg (by omega)]; rw [if_neg (by omega)]; rw [if_pos trivial]
  have hb8 : wz.heap[w.heap.size + 1 + 1 + 1 + 1 + 1 + 1 + 1 + 1]? = some (.cells #[.int .i64 (1), .int .i64 (2), .int .i64 (-3)] 3) := by rw [← hW]; simp only [heap_al, Array.getElem?_push, Array.size_push]; rw [if_neg (by omega)]; rw [if_neg (by omega)]; rw [if_neg (by omega)]; rw [if_neg (by omega)]; rw [if_neg (by omega)]; rw [if_neg (by omega)]; rw [if_neg (by omega)]; rw [if_neg (by omega)]; rw [if_pos trivial]
  have hb9 : wz.heap[w.heap.size + 1 + 1 + 1 + 1 + 1 + 1 + 1 + 1 + 1]? = some (.cells #[.slice (some ⟨w.heap.size + 1 + 1 + 1 + 1 + 1, 0, none⟩) 3 3, .slice (some ⟨w.heap.size + 1 + 1 + 1 + 1 + 1 + 1, 0, none⟩) 3 3, .slice (some ⟨w.heap.size + 1 + 1 + 1 + 1 + 1 + 1 + 1, 0, none⟩) 3 3, .slice (some ⟨w.heap.size + 1 + 1 + 1 + 1 + 1 + 1 + 1 + 1, 0, none⟩) 3 3] 22) := by rw [← hW]; simp only [heap_al, Array.getElem?_push, Array.size_push]; rw [if_neg (by omega)]; rw [if_neg (by omega)]; rw [if_neg (by omega)]; rw [if_neg (by omega)]; rw [if_neg (by omega)]; rw [if_neg (by omega)]; rw [if_neg (by omega)]; rw [if_pos trivial]
  have hb10 : wz.heap[w.heap.size + 1 + 1 + 1 + 1 + 1 + 1 + 1 + 1 + 1 + 1]? = some (.cells #[.int .i64 (-2), .int .i64 (-3), .int .i64 (1)] 3) := by rw [← hW]; simp only [heap_al, Array.getElem?_push, Array.size_push]; rw [if_neg (by omega)]; rw [if_neg (by omega)]; rw [if_neg (by omega)]; rw [if_neg (by omega)]; rw [if_neg (by omega)]; rw [if_neg (by omega)]; rw [if_pos trivial]
  have hb11 : wz.heap[w.heap.size + 1 + 1 + 1 + 1 + 1 + 1 + 1 + 1 + 1 + 1 + 1]? = some (.cells #[.int .i64 (-2), .int .i64 (3), .int .i64 (-1)] 3) := by rw [← hW]; simp only [heap_al, Array.getElem?_push, Array.size_push]; rw [if_neg (by omega)]; rw [if_neg (by omega)]; rw [if_neg (by omega)]; rw [if_neg (by omega)]; rw [if_neg (by omega)]; rw [if_pos trivial]
  have hb12 : wz.heap[w.heap.size + 1 + 1 + 1 + 1 + 1 + 1 + 1 + 1 + 1 + 1 + 1 + 1]? = some (.cells #[.int .i64 (2), .int .i64 (-4), .int .i64 (1)] 3) := by rw [← hW]; simp only [heap_al, Array.getElem?_push, Array.size_push]; rw [if_neg (by omega)]; rw [if_neg (by omega)]; rw [if_neg (by omega)]; rw [if_neg (by omega)]; rw [if_pos trivial]
  have hb13 : wz.heap[w.heap.size + 1 + 1 + 1 + 1 + 1 + 1 + 1 + 1 + 1 + 1 + 1 + 1 + 1]? = some (.cells #[.int .i64 (2), .int .i64 (4), .int .i64 (-1)] 3) := by rw [← hW]; simp only [heap_al, Array.getElem?_push, Array.size_push]; rw [if_neg (by omega)]; rw [if_neg (by omega)]; rw [if_neg (by omega)]; rw [if_pos trivial]
  have hb14 : wz.heap[w.heap.size + 1 + 1 + 1 + 1 + 1 + 1 + 1 + 1 + 1 + 1 + 1 + 1 + 1 + 1]? = some (.cells #[.int .i64 (-3), .int .i64 (-4), .int .i64 (1)] 3) := by rw [← hW]; simp only [heap_al, Array.getElem?_push, Array.size_push]; rw [if_neg (by omega)]; rw [if_neg (by omega)]; rw [if_pos trivial]
  have hb15 : wz.heap[w.heap.size + 1 + 1 + 1 + 1 + 1 + 1 + 1 + 1 + 1 + 1 + 1 + 1 + 1 + 1 + 1]? = some (.cells #[.int .i64 (3), .int .i64 (4), .int .i64 (-1)] 3) := by rw [← hW]; simp only [heap_al, Array.getElem?_push, Array.size_push]; rw [if_neg (by omega)]; rw [if_pos trivial]
  have hb16 : wz.heap[w.heap.size + 1 + 1 + 1 + 1 + 1 + 1 + 1 + 1 + 1 + 1 + 1 + 1 + 1 + 1 + 1 + 1]? = some (.cells #[.slice (some ⟨w.heap.size + 1 + 1 + 1 + 1 + 1 + 1 + 1 + 1 + 1 + 1, 0, none⟩) 3 3, .slice (some ⟨w.heap.size + 1 + 1 + 1 + 1 + 1 + 1 + 1 + 1 + 1 + 1 + 1, 0, none⟩) 3 3, .slice (some ⟨w.heap.size + 1 + 1 + 1 + 1 + 1 + 1 + 1 + 1 + 1 + 1 + 1 + 1, 0, none⟩) 3 3, .slice (some ⟨w.heap.size + 1 + 1 + 1 + 1 + 1 + 1 + 1 + 1 + 1 + 1 + 1 + 1 + 1, 0, none⟩) 3 3, .slice (some ⟨w.heap.size + 1 + 1 + 1 + 1 + 1 + 1 + 1 + 1 + 1 + 1 + 1 + 1 + 1 + 1, 0, none⟩) 3 3, .slice (some ⟨w.heap.size + 1 + 1 + 1 + 1 + 1 + 1 + 1 + 1 + 1 + 1 + 1 + 1 + 1 + 1 + 1, 0, none⟩) 3 3] 22) := by rw [← hW]; simp only [heap_al, Array.getElem?_push, Array.size_push]; rw [if_pos trivial]
  have hB : Below w.heap.size w wz := by rw [← hW]; exact (below_al (below_al (below_al (below_al (below_al (below_al (below_al (below_al (below_al (below_al (below_al (below_al (below_al (below_al (below_al (below_al (box_below _ _) (by simp only [size_al]; omega) _) (by simp only [size_al]; omega) _) (by simp only [size_al]; omega) _) (by simp only [size_al]; omega) _) (by simp only [size_al]; omega) _) (by simp only [size_al]; omega) _) (by simp only [size_al]; omega) _) (by simp only [size_al]; omega) _) (by simp only [size_al]; omega) _) (by simp only [size_al]; omega) _) (by simp only [size_al]; omega) _) (by simp only [size_al]; omega) _) (by simp only [size_al]; omega) _) (by simp only [size_al]; omega) _) (by simp only [size_al]; omega) _) (by simp only [size_al]; omega) _)
  have hq0 := fit_cell hb0 0
  have hq1 := fit_cell hb0 1
  have hq2 := fit_cell hb0 2
  clear hW
  exact bodyPost_ret (v := .agg #[.slice (some ⟨w.heap.size + 1 + 1 + 1 + 1, 0, none⟩) 3 3, .slice (some ⟨w.heap.size + 1 + 1 + 1 + 1 + 1 + 1 + 1 + 1 + 1, 0, none⟩) 4 4, .slice (some ⟨w.heap.size + 1 + 1 + 1 + 1 + 1 + 1 + 1 + 1 + 1 + 1 + 1 + 1 + 1 + 1 + 1 + 1, 0, none⟩) 6 6]) (by simp [results, Try.results69, go_sem, hq0, hq1, hq2]) rfl ⟨_, _, _, rfl, tb_at (bs := [w.heap.size + 1, w.heap.size + 1 + 1, w.heap.size + 1 + 1 + 1]) (f := gateT 0) rfl (by omega) (by simp; omega) hb4 (by intro p hp; simp [gateT] at hp; rcases hp with rfl | rfl | rfl; exact hb1; exact hb2; exact hb3), tb_at (bs := [w.heap.size + 1 + 1 + 1 + 1 + 1, w.heap.size + 1 + 1 + 1 + 1 + 1 + 1, w.heap.size + 1 + 1 + 1 + 1 + 1 + 1 + 1, w.heap.size + 1 + 1 + 1 + 1 + 1 + 1 + 1 + 1]) (f := gateT 1) rfl (by omega) (by simp; omega) hb9 (by intro p hp; simp [gateT] at hp; rcases hp with rfl | rfl | rfl | rfl; exact hb5; exact hb6; exact hb7; exact hb8), tb_at (bs := [w.heap.size + 1 + 1 + 1 + 1 + 1 + 1 + 1 + 1 + 1 + 1, w.heap.size + 1 + 1 + 1 + 1 + 1 + 1 + 1 + 1 + 1 + 1 + 1, w.heap.size + 1 + 1 + 1 + 1 + 1 + 1 + 1 + 1 + 1 + 1 + 1 + 1, w.heap.size + 1 + 1 + 1 + 1 + 1 + 1 + 1 + 1 + 1 + 1 + 1 + 1 + 1, w.heap.size + 1 + 1 + 1 + 1 + 1 + 1 + 1 + 1 + 1 + 1 + 1 + 1 + 1 + 1, w.heap.size + 1 + 1 + 1 + 1 + 1 + 1 + 1 + 1 + 1 + 1 + 1 + 1 + 1 + 1 + 1]) (f := gateT 2) rfl (by omega) (by simp; omega) hb16 (by intro p hp; simp [gateT] at hp; rcases hp with rfl | rfl | rfl | rfl | rfl | rfl; exact hb10; exact hb11; exact hb12; exact hb13; exact hb14; exact hb15), hB⟩


end Go.Proofs.Ytacmfiikdbekbaa.Ord
