/- The contracts of gate's And and Or. -/
import Derived.Test.YtacmfiikdbekbaaQKateD

namespace Go.Proofs.Ytacmfiikdbekbaa.Ord2
open Go.RowKit Go.Conc Go.Proofs.Ytacmfiikdbekbaa.Ord

attribute [local go_sem ↓] Go.wp_at_zero Go.wp_at_succ

set_option maxRecDepth 100000 in
set_option maxHeartbeats 4000000 in
theorem gate_And {X : Nat → Prop} (w : World) (B b n : Nat) (G : List (List Int)) (x y : Int) (h : GB X w B b n G) (hx : LitOk n x) (hy : LitOk n y) (hn : n < 1048576) (hG : G.length + 6 ≤ 1048576) :
    Calls Try.prog 36 #[.pointer (some ⟨b, 0, none⟩), .int .i64 x, .int .i64 y] w fun e w' => e = .returned (.tuple #[.int .i64 (gAnd n G x y).1, .int .i64 0]) ∧ GB X w' B b (gAnd n G x y).2.1 (gAnd n G x y).2.2 ∧ Gk X B w w' := by
  have hBw : B ≤ w.heap.size := by obtain ⟨v, q1, -, q3, -⟩ := h; have := (Array.getElem?_eq_some_iff.1 q1).1; omega
  have hall : [x, y].all (fun a => !badLit n a) = true := by simp [not_bad hx, not_bad hy]
  have HH := hid (gate_has (w.alloc (.cells (ints [x, y]).toArray 3 (0, 0))) B b n G (some ⟨w.heap.size, 0, none⟩) [x, y] 2 2 true (h.below (box_below _ _)) (by omega) rfl (slv_at (heap_alloc_new _ _)) (by simp) hall)
  have HB1 := hid (h.below (box_below w (.cells (ints [x, y]).toArray 3 (0, 0))))
  have HK1 : Hid (Gk X B w (w.alloc (.cells (ints [x, y]).toArray 3 (0, 0)))) := hid (Gk.of_below (box_below _ _) hBw)
  have hxb : -1048576 ≤ x ∧ x ≤ 1048576 := by unfold LitOk at hx; omega
  have hyb : -1048576 ≤ y ∧ y ≤ 1048576 := by unfold LitOk at hy; omega
  have hny : IntKind.i64.wrap (-y) = -y := IntWalk.i64_in _ (by omega)
  have HG := hid hG
  have HN := hid hn
  have HXB := hid hxb
  have HYB := hid hyb
  have hBw1 : B ≤ (w.alloc (.cells (ints [x, y]).toArray 3 (0, 0))).heap.size := by simp only [size_al]; omega
  have HW2 := hid (gate_write ((w.alloc (.cells (ints [x, y]).toArray 3 (0, 0))).alloc (.cells (ints [x, y]).toArray 3 (0, 0))) B b n G 0 (some ⟨w.heap.size + 1, 0, none⟩) [x, y] 2 2 (HB1.out.below (box_below _ _)) hn rfl (ownT_newG (by rw [← size_al w _]; exact heap_alloc_new _ _) rfl (by omega)) (by simp) (by omega) (by show ∀ c ∈ gateT 0, ∀ p ∈ c, p.natAbs < 4; decide) hG (fun z hz => by simp at hz; rcases hz with rfl | rfl <;> assumption))
  have HK2 : Hid (Gk X B w ((w.alloc (.cells (ints [x, y]).toArray 3 (0, 0))).alloc (.cells (ints [x, y]).toArray 3 (0, 0)))) := hid (HK1.out.trans (Gk.of_below (box_below _ _) hBw1))
  clear h hx hy hall hG hn hxb hyb hBw1
  unfold gAnd
  by_cases c1 : x = y
  · have d1 : (x == y) = true := by rw [beq_iff_eq]; exact c1
    rw [if_pos (.inl c1)]
    clear c1
    go_enter Try.func36, Try.ntmps36
    go_wp2_with fail
    refine HH.out.mono ?_
    rintro e w2 ⟨rfl, rfl⟩
    go_wp2_with fail
    go_ret2
    exact ⟨rfl, HB1.out, HK1.out⟩
  · have d1 : (x == y) = false := by rw [beq_eq_false_iff_ne]; exact c1
    by_cases c2 : y = 1
    · have d2 : (y == 1) = true := by rw [beq_iff_eq]; exact c2
      rw [if_pos (.inr c2)]
      clear c1 c2
      go_enter Try.func36, Try.ntmps36
      go_wp2_with fail
      refine HH.out.mono ?_
      rintro e w2 ⟨rfl, rfl⟩
      go_wp2_with fail
      go_ret2
      exact ⟨rfl, HB1.out, HK1.out⟩
    · have d2 : (y == 1) = false := by rw [beq_eq_false_iff_ne]; exact c2
      rw [if_neg (by rintro (h | h); exact c1 h; exact c2 h)]
      by_cases c3 : x = 1
      · have d3 : (x == 1) = true := by rw [beq_iff_eq]; exact c3
        rw [if_pos c3]
        clear c1 c2 c3
        go_enter Try.func36, Try.ntmps36
        go_wp2_with fail
        refine HH.out.mono ?_
        rintro e w2 ⟨rfl, rfl⟩
        go_wp2_with fail
        go_ret2
        exact ⟨rfl, HB1.out, HK1.out⟩
      · have d3 : (x == 1) = false := by rw [beq_eq_false_iff_ne]; exact c3
        rw [if_neg c3]
        by_cases c4 : x = -y ∨ x = -1 ∨ y = -1
        · rw [if_pos c4]
          have HC := hid c4
          by_cases c5 : x = -y
          · have d5 : (x == -y) = true := by rw [beq_iff_eq]; exact c5
            clear c1 c2 c3 c4 c5
            go_enter Try.func36, Try.ntmps36
            go_wp2_with fail
            refine HH.out.mono ?_
            rintro e w2 ⟨rfl, rfl⟩
            go_wp2_with fail
            go_ret2
            exact ⟨rfl, HB1.out, HK1.out⟩
          · have d5 : (x == -y) = false := by rw [beq_eq_false_iff_ne]; exact c5
            by_cases c6 : x = -1
            · have d6 : (x == -1) = true := by rw [beq_iff_eq]; exact c6
              clear c1 c2 c3 c4 c5 c6
              go_enter Try.func36, Try.ntmps36
              go_wp2_with fail
              refine HH.out.mono ?_
              rintro e w2 ⟨rfl, rfl⟩
              go_wp2_with fail
              go_ret2
              exact ⟨rfl, HB1.out, HK1.out⟩
            · have d6 : (x == -1) = false := by rw [beq_eq_false_iff_ne]; exact c6
              have d7 : (y == -1) = true := by rw [beq_iff_eq]; rcases c4 with h | h | h; exact absurd h c5; exact absurd h c6; exact h
              clear c1 c2 c3 c4 c5 c6
              go_enter Try.func36, Try.ntmps36
              go_wp2_with fail
              refine HH.out.mono ?_
              rintro e w2 ⟨rfl, rfl⟩
              go_wp2_with fail
              go_ret2
              exact ⟨rfl, HB1.out, HK1.out⟩
        · rw [if_neg c4]
          have d5 : (x == -y) = false := by rw [beq_eq_false_iff_ne]; exact fun h => c4 (.inl h)
          have d6 : (x == -1) = false := by rw [beq_eq_false_iff_ne]; exact fun h => c4 (.inr (.inl h))
          have d7 : (y == -1) = false := by rw [beq_eq_false_iff_ne]; exact fun h => c4 (.inr (.inr h))
          clear c1 c2 c3 c4
          go_enter Try.func36, Try.ntmps36
          go_wp2_with fail
          refine HH.out.mono ?_
          rintro e w2 ⟨rfl, rfl⟩
          go_wp2_with fail
          refine HW2.out.mono ?_
          rintro e w3 ⟨rfl, h3, k3⟩
          have H3 := hid h3
          have K3 := hid (HK2.out.trans k3)
          clear h3 k3
          go_wp2_with fail
          go_ret2
          exact ⟨rfl, H3.out, K3.out⟩

end Go.Proofs.Ytacmfiikdbekbaa.Ord2
