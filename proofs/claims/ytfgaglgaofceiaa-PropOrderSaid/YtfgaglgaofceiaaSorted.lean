/- The contract of lit.sorted at the order lit.Less. -/
import Derived.Test.YtfgaglgaofceiaaSortedA
namespace Go.Proofs.Ytfgaglgaofceiaa
open Go.RowKit

set_option maxHeartbeats 4000000 in
theorem lit_sorted (n : Nat) : ∀ (a : Option Addr) (xs : List Int) (m cap : Nat) (w : World), xs.length ≤ n → m = xs.length → m ≤ cap → (a = none → cap = 0) → SlV w a (ints xs) → (∀ x ∈ xs, I64 x) → xs.length ≤ 4294967296 →
    Calls Try.prog 40 #[.slice a m cap, .func (.func 18) #[] #[]] w fun e w' =>
      ∃ v, e = .returned v ∧ w'.ownsRow w.heap.size 3 1 v (msort n xs).length (ints (msort n xs)) ∧ Below w.heap.size w w' := by
  induction n with
  | zero =>
    intro a xs m cap w hn hm hcap hc0 hs hx hl
    have hx0 : xs = [] := List.eq_nil_of_length_eq_zero (by omega)
    exact lit_sorted_short a xs m cap w hm hc0 hs (by rw [hx0]; decide)
  | succ n ih =>
    intro a xs m cap w hn hm hcap hc0 hs hx hl
    by_cases h2 : xs.length < 2
    · have := lit_sorted_short a xs m cap w hm hc0 hs h2
      rw [msort, if_pos h2]
      exact this
    clear hc0
    subst hm
    obtain ⟨B, hB⟩ : ∃ B, B = w.heap.size := ⟨_, rfl⟩
    rw [← hB]
    have HB := hid hB
    have H := hid hx
    have IH := hid ih
    clear hB hx ih
    · obtain ⟨b0, off0, x0, rfl, -, -⟩ := hs.int (show 0 < xs.length by omega)
      have hd : decide ((xs.length : Int) < 2) = false := by simp; omega
      obtain ⟨hf, hh⟩ : ∃ hf : Nat, xs.length / 2 = hf := ⟨_, rfl⟩
      have hh1 : (xs.length : Int) / 2 = hf := by omega
      have hh2 : 2 * hf ≤ xs.length := by omega
      have hh3 : xs.length ≤ 2 * hf + 1 := by omega
      have hh4 : 1 ≤ hf := by omega
      have hh5 : hf < cap := by omega
      have HH := hid hh
      clear hh h2
      have hsA : SlV w (some ⟨b0, off0, none⟩) (ints (xs.take hf)) := by rw [ints_take]; exact hs.take hf
      have hsB : SlV w (some ⟨b0, off0 + hf, none⟩) (ints (xs.drop hf)) := by rw [ints_drop]; exact hs.drop hf
      go_enter Try.func40, Try.ntmps40
      go_wp2_with fail
      have HH1 := hid hh1
      clear hh1
      go_cut [6, 7] (fun s6 s7 wx => Hid (SlI wx s6 (msort n (xs.take hf))) ∧ Hid (SlI wx s7 (msort n (xs.drop hf))) ∧ Below B w wx)
      case first =>
        go_region_with (first
          | (go_at_call_of 40 (Value.slice (some ⟨b0, off0, none⟩) hf hf); refine (IH.out _ (xs.take hf) _ _ _ (by simp; omega) (by simp; omega) (Nat.le_refl _) (by nofun) ?_ (fun x hx => H.out x (List.mem_of_mem_take hx)) (by simp; omega)).mono ?_; exact hsA; rintro e w1 ⟨v1, rfl, ho1, hb1⟩)
          | (go_at_call 40; refine (IH.out _ (xs.drop hf) _ _ _ (by simp; omega) (by simp) (by omega) (by nofun) ?_ (fun x hx => H.out x (List.mem_of_mem_drop hx)) (by simp; omega)).mono ?_; exact SlV.below (w := w.drew) hsB hb1; rintro e w2 ⟨v2, rfl, ho2, hb2⟩))
        all_goals
          have R1 : SlI w2 v1 (msort n (xs.take hf)) := (own_sli ho1).below hb2
          have R2 : SlI w2 v2 (msort n (xs.drop hf)) := own_sli ho2
          have R3 : Below B w w2 := by rw [HB.out]; exact (((Below.refl _ w).drew).trans hb1).trans (hb2.mono hb1.size)
          clear ho1 ho2 hb1 hb2
          go_wp2_with fail
          go_meet
          case rel => exact ⟨R1, R2, R3⟩
      case rest =>
        obtain ⟨RA, RB, hb0⟩ := hcut
        obtain ⟨A, hA⟩ : ∃ A, A = msort n (xs.take hf) := ⟨_, rfl⟩
        obtain ⟨C, hC⟩ : ∃ C, C = msort n (xs.drop hf) := ⟨_, rfl⟩
        rw [← hA] at RA
        rw [← hC] at RB
        have HA := hid hA
        have HC := hid hC
        have hlA : A.length ≤ hf := by rw [hA]; have := msort_length n (xs.take hf); simp at this; omega
        have hlC : C.length ≤ xs.length - hf := by rw [hC]; have := msort_length n (xs.drop hf); simpa using this
        have hxA : ∀ x ∈ A, I64 x := fun x hx => H.out x (List.mem_of_mem_take (mem_msort n _ (hA ▸ hx)))
        have hxC : ∀ x ∈ C, I64 x := fun x hx => H.out x (List.mem_of_mem_drop (mem_msort n _ (hC ▸ hx)))
        clear hA hC
        have HXA := hid hxA
        have HXC := hid hxC
        clear hxA hxC hd hs hsA hsB
        obtain ⟨a1, c1, rfl, hle1, hn1, hs1⟩ := RA
        obtain ⟨a2, c2, rfl, hle2, hn2, hs2⟩ := RB
        obtain ⟨i0, hi, hz0, hz1, hz2⟩ := info_parts info_int
        have HN1 := hid hn1
        have HN2 := hid hn2
        clear hn1 hn2
        have hbs := hb0.size
        go_wp2_with (at_make; refine wpList_make_own _ rfl _ _ 22 rfl wc.heap.size 3 i0 (.int .i64 0) 1 Try.underlying22 hi hz0 hz1 _ _ _ (A.length + C.length) rfl rfl (by omega) (by rw [hz2]; omega) (by unfold maxLen; omega) (Nat.le_refl _) ?_; intro w3 hown3 hgrow3)
        have hb3 : Below wc.heap.size wc w3 := (Below.refl _ _).grown hgrow3 (Nat.le_refl _) (by simp)
        have HO3 := hid hown3
        clear hown3 hgrow3
        go_wp2_with fail
        go_loopw [6, 7, 8] (fun s6 s7 s8 wr => ∃ l1 l2 lo : List Int, Hid (SlI wc s6 l1) ∧ Hid (SlI wc s7 l2) ∧ Hid (wr.ownsRow wc.heap.size 3 1 s8 lo.length (ints lo)) ∧ Below wc.heap.size wc wr ∧ Hid (lo ++ mrg l1 l2 = mrg A C) ∧
            Hid (∀ x ∈ l1, I64 x) ∧ Hid (∀ x ∈ l2, I64 x) ∧ l1.length + l2.length + lo.length ≤ 4294967296) (fun s6 s7 _ _ => lenOfV s6 + lenOfV s7)
        case atStart => exact ⟨A, C, [], ⟨a1, c1, rfl, hle1, HN1.out, hs1⟩, ⟨a2, c2, rfl, hle2, HN2.out, hs2⟩, HO3.out, hb3, rfl, HXA, HXC, by simp; omega⟩
        case round =>
          obtain ⟨l1, l2, lo, RA, RB, RO, hbr, HM, HXa, HXb, htot⟩ := hrel
          obtain ⟨a1, c1, rfl, hle1, hn1, hs1⟩ := RA
          obtain ⟨a2, c2, rfl, hle2, hn2, hs2⟩ := RB
          have HN1 := hid hn1
          have HN2 := hid hn2
          clear hn1 hn2 HO3 hb3
          have hbz := hbr.size
          by_cases hex : l1 = [] ∨ l2 = []
          · have hmrg : mrg l1 l2 = l1 ++ l2 := by rcases hex with h | h <;> subst h <;> simp [mrg_nil_left, mrg_nil_right]
            have HMR := hid hmrg
            clear hmrg
            have hsr1 := hs1.below hbr
            have hsr2 := hs2.below hbr
            have hd : decide (0 < l1.length) = false ∨ (decide (0 < l1.length) = true ∧ decide (0 < l2.length) = false) := by
              rcases hex with h | h
              · subst h; simp
              · subst h
                cases l1 with
                | nil => simp
                | cons x l => right; exact ⟨by simp, by simp⟩
            clear hex
            rcases hd with hd1 | ⟨hd1, hd2⟩
            all_goals
              go_wp2_with (first
                | (at_builtin; refine wpList_append_sl _ rfl (.tmp 78) (.tmp 79) 22 rfl wc.heap.size 3 i0 (.int .i64 0) 8 Try.underlying22 hi hz0 hz1 hz2 rfl _ lo.length (ints lo) rfl RO.out _ l1.length _ (ints l1) rfl hsr1 (by simp) HN1.out ints_one (by unfold maxLen; omega) (by omega) hbz ?_; intro v8 w8 ho8 hg8; have hb8 : Below wc.heap.size wc w8 := hbr.grown hg8 hbz (fun q hq => (RO.out.lt q hq).1); have HO8 := hid ho8; have hbz8 := hb8.size; have hsr3 := hs2.below hb8; clear ho8 hg8)
                | (at_builtin; refine wpList_append_sl _ rfl (.tmp 80) (.tmp 81) 22 rfl wc.heap.size 3 i0 (.int .i64 0) 8 Try.underlying22 hi hz0 hz1 hz2 rfl _ _ _ rfl HO8.out _ l2.length _ (ints l2) rfl hsr3 (by simp) HN2.out ints_one (by unfold maxLen; omega) (by omega) hbz8 ?_; intro v9 w9 ho9 hg9; have hb9 : Below wc.heap.size wc w9 := hb8.grown hg9 hbz8 (fun q hq => (HO8.out.lt q hq).1); have HO9 := hid ho9; clear ho9 hg9))
              have hms : msort (n + 1) xs = lo ++ l1 ++ l2 := by
                rw [msort, if_neg (by omega), HH.out, ← HA.out, ← HC.out, ← HM.out, HMR.out, List.append_assoc]
              have HMS := hid hms
              clear hms
              go_ret
              refine ⟨_, rfl, ?_, ?_⟩
              · rw [HMS.out, ints_append, ints_append, List.length_append, List.length_append]
                exact own_base HO9.out (by have := HB.out; omega)
              · exact hb0.trans (hb9.mono (by have := HB.out; omega))
          · obtain ⟨x, l1', rfl⟩ : ∃ x l, l1 = x :: l := by
              cases l1 with
              | nil => exact (hex (Or.inl rfl)).elim
              | cons x l => exact ⟨x, l, rfl⟩
            obtain ⟨y, l2', rfl⟩ : ∃ x l, l2 = x :: l := by
              cases l2 with
              | nil => exact (hex (Or.inr rfl)).elim
              | cons x l => exact ⟨x, l, rfl⟩
            clear hex
            have hx64 : I64 x := HXa.out x (by simp)
            have hy64 : I64 y := HXb.out y (by simp)
            obtain ⟨b1, o1, rfl, hcx⟩ := (hs1.below hbr).head
            obtain ⟨b2, o2, rfl, hcy⟩ := (hs2.below hbr).head
            obtain ⟨A1, hrun1, hst1⟩ := tail_run (P := Try.prog) (t := 22) (e := 3) Try.underlying22 (fun wx => by simp [sizeOf, typeInfo, hi, hz1]) (n := l1'.length + 1) hs1 (by simp) hle1
            rw [List.length_map] at hrun1
            obtain ⟨A2, hrun2, hst2⟩ := tail_run (P := Try.prog) (t := 22) (e := 3) Try.underlying22 (fun wx => by simp [sizeOf, typeInfo, hi, hz1]) (n := l2'.length + 1) hs2 (by simp) hle2
            rw [List.length_map] at hrun2
            have hown := RO.out
            have hlo : lo.length + 1 ≤ maxLen := by unfold maxLen; simp at htot; omega
            have HLO := hid hlo
            clear hlo
            cases hxy : lessB x y with
            | true =>
              have HXY := hid hxy
              clear hxy
              go_wp2_with fail
              go_quiet ((go_at_call 18; exact quiet_same (lit_Less' _ _ _ _ HXY.out (by assumption) (by assumption))))
              go_wp2_with fail
              have hb1 : (lo.length + 1) * 8 ≤ 140737488355328 := by simp at htot; omega
              go_region_law (refine step_append_sl rfl _ _ 22 rfl wc.heap.size 3 i0 (.int .i64 0) 8 Try.underlying22 hi hz0 hz1 hz2 rfl u8 lo.length (ints lo) rfl ?_ _ 1 _ [.int .i64 x] rfl ?_ rfl nofun one_int HLO.out hb1 ?_ ?_; exact hown.alloc _; exact slv_new_dr _ _ _ _ _; (first | (simp; omega) | omega); intro v8 w8 ho8 hg8)
              all_goals
                have HO8 := hid ho8
                have hb8 : Below wc.heap.size wc w8 := ((below_dr hbr _).alloc (by simp; omega) _).grown hg8 (by simp; omega) (fun q hq => (hown.lt q hq).1)
                clear ho8 hg8
                go_simp
                go_wp2_with fail
                go_roundw
                case rel =>
                  refine ⟨l1', y :: l2', lo ++ [x], ⟨_, _, rfl, by simp at hle1; omega, nofun, hst1⟩, ⟨_, _, rfl, hle2, nofun, hs2⟩, ?_, hb8, ?_, fun z hz => HXa.out z (by simp [hz]), HXb, by simp at htot ⊢; omega⟩
                  · simp only [List.length_append, List.length_singleton, ints_append]; exact HO8.out
                  · have := HM.out
                    rw [mrg_cons, if_pos HXY.out] at this
                    simpa [Hid] using this
                case measure => simp [lenOfV]
            | false =>
              have HXY := hid hxy
              clear hxy
              cases hyx : lessB y x with
              | true =>
                have HYX := hid hyx
                clear hyx
                go_wp2_with fail
                go_quiet ((go_at_call 18; exact quiet_same (lit_Less' _ _ _ _ HXY.out (by assumption) (by assumption))))
                go_wp2_with fail
                go_quiet ((go_at_call 18; first | exact quiet_same2 (lit_Less' _ _ _ _ HYX.out (by assumption) (by assumption)) | exact quiet_same (lit_Less' _ _ _ _ HYX.out (by assumption) (by assumption))))
                go_wp2_with fail
                have hb1 : (lo.length + 1) * 8 ≤ 140737488355328 := by simp at htot; omega
                go_region_law (refine step_append_sl rfl _ _ 22 rfl wc.heap.size 3 i0 (.int .i64 0) 8 Try.underlying22 hi hz0 hz1 hz2 rfl u8 lo.length (ints lo) rfl ?_ _ 1 _ [.int .i64 y] rfl ?_ rfl nofun one_int HLO.out hb1 ?_ ?_; exact hown.alloc _; exact slv_new_dr _ _ _ _ _; (first | (simp; omega) | omega); intro v8 w8 ho8 hg8)
                all_goals
                  have HO8 := hid ho8
                  have hb8 : Below wc.heap.size wc w8 := ((below_dr hbr _).alloc (by simp; omega) _).grown hg8 (by simp; omega) (fun q hq => (hown.lt q hq).1)
                  clear ho8 hg8
                  go_simp
                  go_wp2_with fail
                  go_roundw
                  case rel =>
                    refine ⟨x :: l1', l2', lo ++ [y], ⟨_, _, rfl, hle1, nofun, hs1⟩, ⟨_, _, rfl, by simp at hle2; omega, nofun, hst2⟩, ?_, hb8, ?_, HXa, fun z hz => HXb.out z (by simp [hz]), by simp at htot ⊢; omega⟩
                    · simp only [List.length_append, List.length_singleton, ints_append]; exact HO8.out
                    · have := HM.out
                      rw [mrg_cons, if_neg (by simp [HXY.out]), if_pos HYX.out] at this
                      simpa [Hid] using this
                  case measure => simp [lenOfV]
              | false =>
                have HYX := hid hyx
                clear hyx
                go_wp2_with fail
                go_quiet ((go_at_call 18; exact quiet_same (lit_Less' _ _ _ _ HXY.out (by assumption) (by assumption))))
                go_wp2_with fail
                go_quiet ((go_at_call 18; first | exact quiet_same2 (lit_Less' _ _ _ _ HYX.out (by assumption) (by assumption)) | exact quiet_same (lit_Less' _ _ _ _ HYX.out (by assumption) (by assumption))))
                go_wp2_with fail
                go_roundw
                case rel =>
                  refine ⟨l1', y :: l2', lo, ⟨_, _, rfl, by simp at hle1; omega, nofun, hst1⟩, ⟨_, _, rfl, hle2, nofun, hs2⟩, RO, ?_, ?_, fun z hz => HXa.out z (by simp [hz]), HXb, by simp at htot ⊢; omega⟩
                  · first | exact below_dr hbr _ | exact below_dr (below_dr hbr _) _
                  · have := HM.out
                    rw [mrg_cons, if_neg (by simp [HXY.out]), if_neg (by simp [HYX.out])] at this
                    exact this
                case measure => simp [lenOfV]

end Go.Proofs.Ytfgaglgaofceiaa
