/- The walk of the law LitOpposites. -/
import Derived.Test.YtaekcejenagbgaaWLitB
import Derived.Test.YtaekcejenagbgaaPHolds
namespace Go.Proofs.Ytaekcejenagbgaa
open Go.RowKit

set_option maxHeartbeats 4000000 in
theorem walk_LitOpposites (x0 : Int) (v1 : Value) (x1 : List Bool) (w : World) (w0 : (Lit.int .i64 x0).wf = true) (w1 : ArgB w v1 x1) :
    Calls Try.prog 14 #[.int .i64 x0, v1] w fun e w' => e = .returned (.bool true) ∧ Below w.heap.size w w' := by
  obtain ⟨a1, c1, rfl, hle1, hm1, hn1, hs1⟩ := w1
  have hx0 := i64_of_wf w0
  have HS1 := hid hs1
  clear hs1 hn1 hm1 w0
  have HK := hid fun w => law01_known w
  by_cases hl : x1.length ≤ 100
  · by_cases hmin : x0 = -9223372036854775808
    · have hd0 : decide ((100 : Int) < x1.length) = false := by simp; omega
      subst hmin
      go_enter Try.func14, Try.ntmps14
      go_wp2_with (go_at_call 30; refine (HK.out _).mono ?_; rintro e w' ⟨rfl, hb⟩)
      go_ret
      exact ⟨rfl, hb⟩
    · have hd0 : decide ((100 : Int) < x1.length) = false := by simp; omega
      have hd1 : (x0 == -9223372036854775808) = false := by simp [hmin]
      have hb0 : -9223372036854775808 < x0 := by unfold I64 at hx0; omega
      have hb1 : x0 ≤ 9223372036854775807 := hx0.2
      clear hmin
      have hc : 200 < x0 ∨ x0 < -200 ∨ (-200 ≤ x0 ∧ x0 ≤ 200) := by omega
      have htm := hid (tmod200 x0)
      rcases hc with hc | hc | ⟨hc1, hc2⟩
      all_goals
        go_enter Try.func14, Try.ntmps14
        go_upto_if 21 with (fail)
        go_cut [0] (fun s0 wx => wx = w ∧ ∃ y : Int, s0 = .int .i64 y ∧ Hid (-200 ≤ y ∧ y ≤ 200))
        case first =>
          go_wp2_with fail
          go_meet
          case rel => first | exact ⟨rfl, _, rfl, htm⟩ | exact ⟨rfl, _, rfl, by unfold Hid; omega⟩
      all_goals
        obtain ⟨rfl, y, rfl, hy⟩ := hcut
        have hy1 := hy.out.1
        have hy2 := hy.out.2
        clear htm
        obtain ⟨ra, era⟩ : ∃ r, litHolds x1 y = r := ⟨_, rfl⟩
        obtain ⟨rb, erb⟩ : ∃ r, litHolds x1 (-y) = r := ⟨_, rfl⟩
        have ERA : Hid (holdsB x1 [y] = ra) := by simp [Hid, holdsB, era]
        have ERB : Hid (holdsB x1 [-y] = rb) := by simp [Hid, holdsB, erb]
        have ERC : Hid (holdsB x1 [y, -y] = (ra || rb)) := by simp [Hid, holdsB, era, erb]
        have h1 : (ra && rb) = false := by rw [← era, ← erb]; exact litHolds_neg x1 y
        have h2 : (ra || rb) = decide (1 ≤ y.natAbs ∧ y.natAbs ≤ x1.length) := by rw [← era, ← erb]; exact litHolds_or x1 y
        have hIy : Hid (∀ x ∈ [y], I64 x) := by simp [Hid, I64]; omega
        have hIn : Hid (∀ x ∈ [-y], I64 x) := by simp [Hid, I64]; omega
        have hIb : Hid (∀ x ∈ [y, -y], I64 x) := by simp [Hid, I64]; omega
        clear era erb
        have hcs : (y = 0 ∧ ra = false ∧ rb = false) ∨ (y < 0 ∧ (x1.length : Int) < -y ∧ ra = false ∧ rb = false) ∨ (0 < y ∧ (x1.length : Int) < y ∧ ra = false ∧ rb = false) ∨
            (y < 0 ∧ -y ≤ x1.length ∧ ra = false ∧ rb = true) ∨ (y < 0 ∧ -y ≤ x1.length ∧ ra = true ∧ rb = false) ∨ (0 < y ∧ y ≤ x1.length ∧ ra = false ∧ rb = true) ∨ (0 < y ∧ y ≤ x1.length ∧ ra = true ∧ rb = false) := by
          by_cases hr : 1 ≤ y.natAbs ∧ y.natAbs ≤ x1.length
          · rw [decide_eq_true hr] at h2
            cases ra <;> cases rb <;> simp at h1 h2 ⊢ <;> omega
          · rw [decide_eq_false hr] at h2
            cases ra <;> cases rb <;> simp at h1 h2 ⊢ <;> omega
        clear h1 h2
        rcases hcs with ⟨h0, rfl, rfl⟩ | ⟨h0, h3, rfl, rfl⟩ | ⟨h0, h3, rfl, rfl⟩ | ⟨h0, h3, rfl, rfl⟩ | ⟨h0, h3, rfl, rfl⟩ | ⟨h0, h3, rfl, rfl⟩ | ⟨h0, h3, rfl, rfl⟩
        all_goals
          try subst h0
          go_wp2_with fail
          refine (lit_HoldsR _ x1 _ _ _ _ _ _ _ _ ERA.out rfl rfl (HS1.out.below (below_al (Below.refl _ _) (Nat.le_refl _) _)) hIy.out (slv_at (e := 3) (m := (0, 0)) (by simp [heap_al, ints])) (by simp) (by omega)).mono ?_
          rintro e w6 ⟨rfl, rfl⟩
          go_wp2_with fail
          refine (lit_HoldsR _ x1 _ _ _ _ _ _ _ _ ERB.out rfl rfl (HS1.out.below (below_al (below_al (Below.refl _ _) (Nat.le_refl _) _) (by simp) _)) hIn.out (slv_at (e := 3) (m := (0, 0)) (by simp [heap_al, Array.getElem_push, ints])) (by simp) (by omega)).mono ?_
          rintro e w6 ⟨rfl, rfl⟩
          go_wp2_with fail
          refine (lit_HoldsR _ x1 _ _ _ _ _ _ _ _ ERC.out rfl rfl (HS1.out.below (below_al (below_al (below_al (Below.refl _ _) (Nat.le_refl _) _) (by simp only [size_al]; omega) _) (by simp only [size_al]; omega) _)) hIb.out (slv_at (e := 3) (m := (0, 0)) (by simp [heap_al, Array.getElem_push, ints])) (by simp) (by omega)).mono ?_
          rintro e w6 ⟨rfl, rfl⟩
          go_wp2_with (go_at_call 30; refine (HK.out _).mono ?_; rintro e w' ⟨rfl, hb⟩)
          go_ret
          exact ⟨rfl, (below_al (below_al (below_al (Below.refl _ _) (Nat.le_refl _) _) (by simp only [size_al]; omega) _) (by simp only [size_al]; omega) _).trans (hb.mono (by simp; omega))⟩
  · have hd0 : decide ((100 : Int) < x1.length) = true := by simp; omega
    go_enter Try.func14, Try.ntmps14
    go_wp2_with (go_at_call 30; refine (HK.out _).mono ?_; rintro e w' ⟨rfl, hb⟩)
    go_ret
    exact ⟨rfl, hb⟩

end Go.Proofs.Ytaekcejenagbgaa
