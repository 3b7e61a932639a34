/- The contracts of gate's Or, Mux and Xor. -/
import Derived.Test.YtacmfiikdbekbaaQKateE

namespace Go.Proofs.Ytacmfiikdbekbaa.Ord2
open Go.RowKit Go.Conc Go.Proofs.Ytacmfiikdbekbaa.Ord

attribute [local go_sem ↓] Go.wp_at_zero Go.wp_at_succ

set_option maxRecDepth 100000 in
set_option maxHeartbeats 4000000 in
theorem gate_Or {X : Nat → Prop} (w : World) (B b n : Nat) (G : List (List Int)) (x y : Int) (h : GB X w B b n G) (h1 : 1 ≤ n) (hx : LitOk n x) (hy : LitOk n y) (hn : n < 1048576) (hG : G.length + 6 ≤ 1048576) :
    Calls Try.prog 37 #[.pointer (some ⟨b, 0, none⟩), .int .i64 x, .int .i64 y] w fun e w' => e = .returned (.tuple #[.int .i64 (gOr n G x y).1, .int .i64 0]) ∧ GB X w' B b (gOr n G x y).2.1 (gOr n G x y).2.2 ∧ Gk X B w w' := by
  have hxn : LitOk n (-x) := by unfold LitOk at *; omega
  have hyn : LitOk n (-y) := by unfold LitOk at *; omega
  have HA := hid (gate_And w B b n G (-x) (-y) h hxn hyn hn hG)
  have hok := gAnd_ok (G := G) h1 hxn hyn
  have hnx : IntKind.i64.wrap (-x) = -x := IntWalk.i64_in _ (by unfold LitOk at hx; omega)
  have hny : IntKind.i64.wrap (-y) = -y := IntWalk.i64_in _ (by unfold LitOk at hy; omega)
  obtain ⟨z, hz⟩ : ∃ z, (gAnd n G (-x) (-y)).1 = z := ⟨_, rfl⟩
  have hzb : -1048577 ≤ z ∧ z ≤ 1048577 := by rw [hz] at hok; unfold LitOk at hok; omega
  have hnz : IntKind.i64.wrap (-z) = -z := IntWalk.i64_in _ (by omega)
  unfold gOr
  rw [hz] at HA ⊢
  clear h hx hy hxn hyn hok hz hzb
  go_enter Try.func37, Try.ntmps37
  go_wp2_with fail
  refine HA.out.mono ?_
  rintro e w2 ⟨rfl, h2, k2⟩
  have H2 := hid h2
  have K2 := hid k2
  clear h2 k2
  go_wp2_with fail
  go_ret2
  exact ⟨rfl, H2.out, K2.out⟩

set_option maxRecDepth 100000 in
set_option maxHeartbeats 4000000 in
theorem gate_Mux {X : Nat → Prop} (w : World) (B b n : Nat) (G : List (List Int)) (c x y : Int) (h : GB X w B b n G) (hc : LitOk n c) (hx : LitOk n x) (hy : LitOk n y) (hn : n < 1048576) (hG : G.length + 6 ≤ 1048576) :
    Calls Try.prog 39 #[.pointer (some ⟨b, 0, none⟩), .int .i64 c, .int .i64 x, .int .i64 y] w fun e w' => e = .returned (.tuple #[.int .i64 (gMux n G c x y).1, .int .i64 0]) ∧ GB X w' B b (gMux n G c x y).2.1 (gMux n G c x y).2.2 ∧ Gk X B w w' := by
  have hBw : B ≤ w.heap.size := by obtain ⟨v, q1, -, q3, -⟩ := h; have := (Array.getElem?_eq_some_iff.1 q1).1; omega
  have hall : [c, x, y].all (fun a => !badLit n a) = true := by simp [not_bad hx, not_bad hy, not_bad hc]
  have HH := hid (gate_has (w.alloc (.cells (ints [c, x, y]).toArray 3 (0, 0))) B b n G (some ⟨w.heap.size, 0, none⟩) [c, x, y] 3 3 true (h.below (box_below _ _)) (by omega) rfl (slv_at (heap_alloc_new _ _)) (by simp) hall)
  have HB1 := hid (h.below (box_below w (.cells (ints [c, x, y]).toArray 3 (0, 0))))
  have HK1 : Hid (Gk X B w (w.alloc (.cells (ints [c, x, y]).toArray 3 (0, 0)))) := hid (Gk.of_below (box_below _ _) hBw)
  have hcb : -1048576 ≤ c ∧ c ≤ 1048576 := by unfold LitOk at hc; omega
  have hxb : -1048576 ≤ x ∧ x ≤ 1048576 := by unfold LitOk at hx; omega
  have hyb : -1048576 ≤ y ∧ y ≤ 1048576 := by unfold LitOk at hy; omega
  have hBw1 : B ≤ (w.alloc (.cells (ints [c, x, y]).toArray 3 (0, 0))).heap.size := by simp only [size_al]; omega
  have HW2 := hid (gate_write ((w.alloc (.cells (ints [c, x, y]).toArray 3 (0, 0))).alloc (.cells (ints [c, x, y]).toArray 3 (0, 0))) B b n G 2 (some ⟨w.heap.size + 1, 0, none⟩) [c, x, y] 3 3 (HB1.out.below (box_below _ _)) hn rfl (ownT_newG (by rw [← size_al w _]; exact heap_alloc_new _ _) rfl (by omega)) (by simp) (by omega) (by show ∀ d ∈ gateT 2, ∀ p ∈ d, p.natAbs < 5; decide) hG (fun z hz => by simp at hz; rcases hz with rfl | rfl | rfl <;> assumption))
  have HK2 : Hid (Gk X B w ((w.alloc (.cells (ints [c, x, y]).toArray 3 (0, 0))).alloc (.cells (ints [c, x, y]).toArray 3 (0, 0)))) := hid (HK1.out.trans (Gk.of_below (box_below _ _) hBw1))
  clear h hc hx hy hall hG hn hcb hxb hyb hBw1
  unfold gMux
  by_cases c1 : c = 1
  · have d1 : (c == 1) = true := by rw [beq_iff_eq]; exact c1
    rw [if_pos (.inl c1)]
    clear c1
    go_enter Try.func39, Try.ntmps39
    go_wp2_with fail
    refine HH.out.mono ?_
    rintro e w2 ⟨rfl, rfl⟩
    go_wp2_with fail
    go_ret2
    exact ⟨rfl, HB1.out, HK1.out⟩
  · have d1 : (c == 1) = false := by rw [beq_eq_false_iff_ne]; exact c1
    by_cases c2 : x = y
    · have d2 : (x == y) = true := by rw [beq_iff_eq]; exact c2
      rw [if_pos (.inr c2)]
      clear c1 c2
      go_enter Try.func39, Try.ntmps39
      go_wp2_with fail
      refine HH.out.mono ?_
      rintro e w2 ⟨rfl, rfl⟩
      go_wp2_with fail
      go_ret2
      exact ⟨rfl, HB1.out, HK1.out⟩
    · have d2 : (x == y) = false := by rw [beq_eq_false_iff_ne]; exact c2
      rw [if_neg (by rintro (h | h); exact c1 h; exact c2 h)]
      by_cases c3 : c = -1
      · have d3 : (c == -1) = true := by rw [beq_iff_eq]; exact c3
        rw [if_pos c3]
        clear c1 c2 c3
        go_enter Try.func39, Try.ntmps39
        go_wp2_with fail
        refine HH.out.mono ?_
        rintro e w2 ⟨rfl, rfl⟩
        go_wp2_with fail
        go_ret2
        exact ⟨rfl, HB1.out, HK1.out⟩
      · have d3 : (c == -1) = false := by rw [beq_eq_false_iff_ne]; exact c3
        rw [if_neg c3]
        clear c1 c2 c3
        go_enter Try.func39, Try.ntmps39
        go_wp2_with fail
        refine HH.out.mono ?_
        rintro e w2 ⟨rfl, rfl⟩
        go_wp2_with fail
        refine HW2.out.mono ?_
        rintro e w3 ⟨rfl, h3, k3⟩
        have H3 := hid h3
        have K3 := hid (HK2.out.trans k3)
        clear h3 k3
        go_wp2_with fail
        go_ret2
        exact ⟨rfl, H3.out, K3.out⟩

set_option maxRecDepth 100000 in
set_option maxHeartbeats 4000000 in
theorem gate_Xor {X : Nat → Prop} (w : World) (B b n : Nat) (G : List (List Int)) (x y : Int) (h : GB X w B b n G) (hx : LitOk n x) (hy : LitOk n y) (hn : n < 1048576) (hG : G.length + 6 ≤ 1048576) :
    Calls Try.prog 38 #[.pointer (some ⟨b, 0, none⟩), .int .i64 x, .int .i64 y] w fun e w' => e = .returned (.tuple #[.int .i64 (gXor n G x y).1, .int .i64 0]) ∧ GB X w' B b (gXor n G x y).2.1 (gXor n G x y).2.2 ∧ Gk X B w w' := by
  have hBw : B ≤ w.heap.size := by obtain ⟨v, q1, -, q3, -⟩ := h; have := (Array.getElem?_eq_some_iff.1 q1).1; omega
  have hall : [x, y].all (fun a => !badLit n a) = true := by simp [not_bad hx, not_bad hy]
  have HH := hid (gate_has (w.alloc (.cells (ints [x, y]).toArray 3 (0, 0))) B b n G (some ⟨w.heap.size, 0, none⟩) [x, y] 2 2 true (h.below (box_below _ _)) (by omega) rfl (slv_at (heap_alloc_new _ _)) (by simp) hall)
  have HB1 := hid (h.below (box_below w (.cells (ints [x, y]).toArray 3 (0, 0))))
  have HK1 : Hid (Gk X B w (w.alloc (.cells (ints [x, y]).toArray 3 (0, 0)))) := hid (Gk.of_below (box_below _ _) hBw)
  have hxb : -1048576 ≤ x ∧ x ≤ 1048576 := by unfold LitOk at hx; omega
  have hyb : -1048576 ≤ y ∧ y ≤ 1048576 := by unfold LitOk at hy; omega
  have hny : IntKind.i64.wrap (-y) = -y := IntWalk.i64_in _ (by omega)
  have hnx : IntKind.i64.wrap (-x) = -x := IntWalk.i64_in _ (by omega)
  have HMX : Hid (x = 1 ∨ x = -1 → IntKind.i64.wrap (-x * y) = -x * y) := hid (fun hh => IntWalk.i64_in _ (by rcases hh with rfl | rfl <;> omega))
  have HMY : Hid (y = 1 ∨ y = -1 → IntKind.i64.wrap (-y * x) = -y * x) := hid (fun hh => IntWalk.i64_in _ (by rcases hh with rfl | rfl <;> omega))
  have hBw1 : B ≤ (w.alloc (.cells (ints [x, y]).toArray 3 (0, 0))).heap.size := by simp only [size_al]; omega
  have HW2 := hid (gate_write ((w.alloc (.cells (ints [x, y]).toArray 3 (0, 0))).alloc (.cells (ints [x, y]).toArray 3 (0, 0))) B b n G 1 (some ⟨w.heap.size + 1, 0, none⟩) [x, y] 2 2 (HB1.out.below (box_below _ _)) hn rfl (ownT_newG (by rw [← size_al w _]; exact heap_alloc_new _ _) rfl (by omega)) (by simp) (by omega) (by show ∀ d ∈ gateT 1, ∀ p ∈ d, p.natAbs < 4; decide) hG (fun z hz => by simp at hz; rcases hz with rfl | rfl <;> assumption))
  have HK2 : Hid (Gk X B w ((w.alloc (.cells (ints [x, y]).toArray 3 (0, 0))).alloc (.cells (ints [x, y]).toArray 3 (0, 0)))) := hid (HK1.out.trans (Gk.of_below (box_below _ _) hBw1))
  clear h hx hy hall hG hn hxb hyb hBw1
  unfold gXor
  by_cases c1 : x = y
  · have d1 : (x == y) = true := by rw [beq_iff_eq]; exact c1
    rw [if_pos c1]
    clear c1
    go_enter Try.func38, Try.ntmps38
    go_wp2_with fail
    refine HH.out.mono ?_
    rintro e w2 ⟨rfl, rfl⟩
    go_wp2_with fail
    go_ret2
    exact ⟨rfl, HB1.out, HK1.out⟩
  · have d1 : (x == y) = false := by rw [beq_eq_false_iff_ne]; exact c1
    rw [if_neg c1]
    by_cases c2 : x = -y
    · have d2 : (x == -y) = true := by rw [beq_iff_eq]; exact c2
      rw [if_pos c2]
      clear c1 c2
      go_enter Try.func38, Try.ntmps38
      go_wp2_with fail
      refine HH.out.mono ?_
      rintro e w2 ⟨rfl, rfl⟩
      go_wp2_with fail
      go_ret2
      exact ⟨rfl, HB1.out, HK1.out⟩
    · have d2 : (x == -y) = false := by rw [beq_eq_false_iff_ne]; exact c2
      rw [if_neg c2]
      by_cases c3 : x = 1
      · have d3 : (x == 1) = true := by rw [beq_iff_eq]; exact c3
        rw [if_pos (.inl c3)]
        have hm := HMX.out (.inl c3)
        clear c1 c2 c3
        go_enter Try.func38, Try.ntmps38
        go_wp2_with fail
        refine HH.out.mono ?_
        rintro e w2 ⟨rfl, rfl⟩
        go_wp2_with fail
        go_ret2
        exact ⟨rfl, HB1.out, HK1.out⟩
      · have d3 : (x == 1) = false := by rw [beq_eq_false_iff_ne]; exact c3
        by_cases c4 : x = -1
        · have d4 : (x == -1) = true := by rw [beq_iff_eq]; exact c4
          rw [if_pos (.inr c4)]
          have hm := HMX.out (.inr c4)
          clear c1 c2 c3 c4
          go_enter Try.func38, Try.ntmps38
          go_wp2_with fail
          refine HH.out.mono ?_
          rintro e w2 ⟨rfl, rfl⟩
          go_wp2_with fail
          go_ret2
          exact ⟨rfl, HB1.out, HK1.out⟩
        · have d4 : (x == -1) = false := by rw [beq_eq_false_iff_ne]; exact c4
          rw [if_neg (by rintro (h | h); exact c3 h; exact c4 h)]
          by_cases c5 : y = 1
          · have d5 : (y == 1) = true := by rw [beq_iff_eq]; exact c5
            rw [if_pos (.inl c5)]
            have hm := HMY.out (.inl c5)
            clear c1 c2 c3 c4 c5
            go_enter Try.func38, Try.ntmps38
            go_wp2_with fail
            refine HH.out.mono ?_
            rintro e w2 ⟨rfl, rfl⟩
            go_wp2_with fail
            go_ret2
            exact ⟨rfl, HB1.out, HK1.out⟩
          · have d5 : (y == 1) = false := by rw [beq_eq_false_iff_ne]; exact c5
            by_cases c6 : y = -1
            · have d6 : (y == -1) = true := by rw [beq_iff_eq]; exact c6
              rw [if_pos (.inr c6)]
              have hm := HMY.out (.inr c6)
              clear c1 c2 c3 c4 c5 c6
              go_enter Try.func38, Try.ntmps38
              go_wp2_with fail
              refine HH.out.mono ?_
              rintro e w2 ⟨rfl, rfl⟩
              go_wp2_with fail
              go_ret2
              exact ⟨rfl, HB1.out, HK1.out⟩
            · have d6 : (y == -1) = false := by rw [beq_eq_false_iff_ne]; exact c6
              rw [if_neg (by rintro (h | h); exact c5 h; exact c6 h)]
              clear c1 c2 c3 c4 c5 c6
              go_enter Try.func38, Try.ntmps38
              go_wp2_with fail
              refine HH.out.mono ?_
              rintro e w2 ⟨rfl, rfl⟩
              go_wp2_with fail
              refine HW2.out.mono ?_
              rintro e w3 ⟨rfl, h3, k3⟩
              have H3 := hid h3
              have K3 := hid (HK2.out.trans k3)
              clear h3 k3
              go_wp2_with fail
              go_ret2
              exact ⟨rfl, H3.out, K3.out⟩

end Go.Proofs.Ytacmfiikdbekbaa.Ord2
