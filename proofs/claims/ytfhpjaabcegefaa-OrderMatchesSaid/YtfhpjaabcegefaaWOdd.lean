/- The walk of OrderOdd. -/
import Derived.Test.YtfhpjaabcegefaaLawT
namespace Go.Proofs.Ytfhpjaabcegefaa.Ord
open Go.RowKit

theorem u16s {xs : List Int} (h : ∀ x ∈ xs, (Lit.int .u16 x).wf = true) : ∀ x ∈ xs, 0 ≤ x ∧ x ≤ 65535 := fun x hx => by
  have := bounds_u16 (h x hx)
  omega

theorem bump_out {A : List Int} {n : Nat} {v by' : Int} (h : v < 1 ∨ (n : Int) < v ∨ by' < 0 ∨ 1099511627776 < by') : bumpE A n v by' = 3 ∧ bumpA A n v by' = A := by
  have e : bumpE A n v by' = 3 := by unfold bumpE; rw [if_neg (by omega)]
  exact ⟨e, by unfold bumpA; rw [e, if_neg (by decide)]⟩

theorem push_out {n : Nat} {v : Int} (h : v < 1 ∨ (n : Int) < v) : pushE n v = 3 := by unfold pushE; rw [if_neg (by omega)]
theorem pushIn_out {In : List Bool} {v : Int} (h : v < 1 ∨ (In.length : Int) < v) : pushIn In v = In := by unfold pushIn; rw [if_neg (by omega)]

set_option maxRecDepth 100000 in
set_option maxHeartbeats 4000000 in
theorem walk_OrderOdd (v0 : Value) (x0 : List Int) (v by' : Int) (w : World) (w0 : ArgI .u16 w v0 x0) (_w1 : (Lit.int .i64 v).wf = true) (_w2 : (Lit.int .i64 by').wf = true) :
    Calls Try.prog 7 #[v0, .int .i64 v, .int .i64 by'] w fun e w' => e = .returned (.bool true) ∧ Below w.heap.size w w' := by
  obtain ⟨a0, c0, rfl, hle0, hm0, hn0, hs0, hw0⟩ := w0
  have HX := hid (u16s hw0)
  have HS := hid hs0
  clear hs0 hw0 hle0 hm0 hn0
  by_cases hl : x0.length ≤ 100
  · have hd0 : decide ((100 : Int) < x0.length) = false := by simp; omega
    go_enter Try.func7, Try.ntmps7
    go_wp2_with fail
    refine (law06_made a0 c0 w.heap.size x0 w _ HS.out HX.out (by omega) (Below.refl _ _) (Nat.le_refl _)).mono ?_
    rintro e w1 ⟨b1, S1, rfl, h1, h2, h3⟩
    have H1 := hid h1
    have H2 := hid h2
    clear h1 h2 h3
    go_wp2_with fail
    refine (law06_made a0 c0 w.heap.size x0 w _ (HS.out.below H2.out) HX.out (by omega) H2.out H1.out.le).mono ?_
    rintro e w2 ⟨b2, S2, rfl, h4, h5, h6⟩
    have hT : TW w.heap.size w w2 b1 S1 (0 :: x0) (List.replicate x0.length true) b2 S2 (0 :: x0) (List.replicate x0.length true) :=
      ⟨hb_touch H1.out (T := fun k => w1.heap.size ≤ k) (touch_of_below h5) (fun k hk => by have := (H1.out.at' k hk).2; omega) (fun k hk => by have := H1.out.le; omega), h4, fun k hk hk2 => by have h7 := (H1.out.at' k hk).2; have h8 := h6 k hk2; omega⟩
    have HT := hid hT
    clear hT h4 h5 h6
    rcases (by omega : v < 1 ∨ (1 ≤ v ∧ (x0.length : Int) < v) ∨ (1 ≤ v ∧ v ≤ x0.length)) with hv | hv | hv
    · have d1 : decide (v < 1) = true := by simp; omega
      have HE1 := hid (bump_out (A := 0 :: x0) (n := x0.length) (v := v) (by' := 1) (by omega))
      have HE2 := hid (push_out (n := x0.length) (v := v) (by omega))
      have HE3 := hid (pushIn_out (In := List.replicate x0.length true) (v := v) (by rw [List.length_replicate]; omega))
      have HE4 : Hid ((decide (1 ≤ v) && ((List.replicate x0.length true)[(v - 1).toNat]? == some true)) = false) := by
        by_cases h1 : 1 ≤ v
        · rw [List.getElem?_eq_none (by rw [List.length_replicate]; omega)]; simp [Hid]
        · simp [Hid, h1]
      clear hv
      go_wp2_with fail
      refine (tw_Bump b1 _ _ (0 :: x0) (0 :: x0) (List.replicate x0.length true) b2 _ _ _ v 1 3 w _ (by rw [List.length_replicate]; exact HE1.out.1) (by rw [List.length_replicate]; exact HE1.out.2) HT.out).mono ?_
      rintro e w3 ⟨rfl, h3⟩
      have HT3 := hid h3
      clear h3
      go_wp2_with fail
      refine (tw_Push b1 _ _ (0 :: x0) (List.replicate x0.length true) (List.replicate x0.length true) b2 _ _ _ v 3 w _ (by rw [List.length_replicate]; exact HE2.out) HE3.out HT3.out).mono ?_
      rintro e w4 ⟨rfl, S4, h4, -, -⟩
      have HT4 := hid h4
      clear h4
      go_wp2_with fail
      refine (heap_Has b1 _ (0 :: x0) (List.replicate x0.length true) v false _ HE4.out HT4.out.one.heap).mono ?_
      rintro e w5 ⟨rfl, rfl⟩
      clear HT HT3
      have HT := HT4
      clear HT4
      rcases (by omega : by' < 0 ∨ (0 ≤ by' ∧ 1099511627776 < by') ∨ (0 ≤ by' ∧ by' ≤ 1099511627776)) with hb | hb | hb
      · have e1 : decide (by' < 0) = true := by simp; omega
        have HE := hid (bump_out (A := 0 :: x0) (n := x0.length) (v := v) (by' := by') (by omega))
        clear hb
        go_wp2_with fail
        refine (tw_Bump b1 _ _ (0 :: x0) (0 :: x0) (List.replicate x0.length true) b2 _ _ _ v by' 3 w _ (by rw [List.length_replicate]; exact HE.out.1) (by rw [List.length_replicate]; exact HE.out.2) HT.out).mono ?_
        rintro e w6 ⟨rfl, h6⟩
        have HT' := hid h6
        clear h6 HT
        have HT := HT'
        clear HT'
        go_wp2_with fail
        refine (tw_all b1 _ _ (0 :: x0) (List.replicate x0.length true) b2 _ (0 :: x0) (List.replicate x0.length true) w _ HT.out (by simp; omega)).mono ?_
        rintro e w7 ⟨a7, c7, rfl, ho7, ht7, -⟩
        have HO7 := hid ho7
        have HT7 := hid ht7
        clear ho7 ht7
        go_wp2_with fail
        refine (tw_all b2 _ _ (0 :: x0) (List.replicate x0.length true) b1 _ (0 :: x0) _ w _ HT7.out.symm (by simp; omega)).mono ?_
        rintro e w8 ⟨a8, c8, rfl, ho8, ht8, hu8⟩
        have HO7b := hid (own_touch HO7.out hu8 fun k hk => (by have h9 := (HT.out.two.at' k hk).2; exact h9))
        have HO8 := hid ho8
        have HT8 := hid ht8
        clear ho8 ht8 hu8
        go_wp2_with fail
        refine (law06_same a7 a8 (popAll (0 :: x0) (List.replicate x0.length true)) (popAll (0 :: x0) (List.replicate x0.length true)) c7 c8 _ (rowV HO7b.out) (rowV HO8.out) (by rw [popAll_length _ _ _ rfl, List.countP_replicate]; simp; omega)).mono ?_
        rintro e w9 ⟨rfl, n9, rfl⟩
        have heq : eqI (popAll (0 :: x0) (List.replicate x0.length true)) (popAll (0 :: x0) (List.replicate x0.length true)) = true := by simp [eqI]
        rw [heq]
        clear heq
        go_wp2_with fail
        refine (law06_known _).mono ?_
        rintro e w10 ⟨rfl, hb10⟩
        have HB10 := hid hb10
        clear hb10
        go_wp2_with fail
        go_ret
        exact ⟨rfl, (below_dr HT8.out.one.bel n9).trans (HB10.out.mono HT8.out.one.le)⟩
      · have e1 : decide (by' < 0) = false := by simp; omega
        have e2 : decide (1099511627776 < by') = true := by simp; omega
        have HE := hid (bump_out (A := 0 :: x0) (n := x0.length) (v := v) (by' := by') (by omega))
        clear hb
        go_wp2_with fail
        refine (tw_Bump b1 _ _ (0 :: x0) (0 :: x0) (List.replicate x0.length true) b2 _ _ _ v by' 3 w _ (by rw [List.length_replicate]; exact HE.out.1) (by rw [List.length_replicate]; exact HE.out.2) HT.out).mono ?_
        rintro e w6 ⟨rfl, h6⟩
        have HT' := hid h6
        clear h6 HT
        have HT := HT'
        clear HT'
        go_wp2_with fail
        refine (tw_all b1 _ _ (0 :: x0) (List.replicate x0.length true) b2 _ (0 :: x0) (List.replicate x0.length true) w _ HT.out (by simp; omega)).mono ?_
        rintro e w7 ⟨a7, c7, rfl, ho7, ht7, -⟩
        have HO7 := hid ho7
        have HT7 := hid ht7
        clear ho7 ht7
        go_wp2_with fail
        refine (tw_all b2 _ _ (0 :: x0) (List.replicate x0.length true) b1 _ (0 :: x0) _ w _ HT7.out.symm (by simp; omega)).mono ?_
        rintro e w8 ⟨a8, c8, rfl, ho8, ht8, hu8⟩
        have HO7b := hid (own_touch HO7.out hu8 fun k hk => (by have h9 := (HT.out.two.at' k hk).2; exact h9))
        have HO8 := hid ho8
        have HT8 := hid ht8
        clear ho8 ht8 hu8
        go_wp2_with fail
        refine (law06_same a7 a8 (popAll (0 :: x0) (List.replicate x0.length true)) (popAll (0 :: x0) (List.replicate x0.length true)) c7 c8 _ (rowV HO7b.out) (rowV HO8.out) (by rw [popAll_length _ _ _ rfl, List.countP_replicate]; simp; omega)).mono ?_
        rintro e w9 ⟨rfl, n9, rfl⟩
        have heq : eqI (popAll (0 :: x0) (List.replicate x0.length true)) (popAll (0 :: x0) (List.replicate x0.length true)) = true := by simp [eqI]
        rw [heq]
        clear heq
        go_wp2_with fail
        refine (law06_known _).mono ?_
        rintro e w10 ⟨rfl, hb10⟩
        have HB10 := hid hb10
        clear hb10
        go_wp2_with fail
        go_ret
        exact ⟨rfl, (below_dr HT8.out.one.bel n9).trans (HB10.out.mono HT8.out.one.le)⟩
      · have e1 : decide (by' < 0) = false := by simp; omega
        have e2 : decide (1099511627776 < by') = false := by simp; omega
        clear hb
        go_wp2_with fail
        refine (tw_all b1 _ _ (0 :: x0) (List.replicate x0.length true) b2 _ (0 :: x0) (List.replicate x0.length true) w _ HT.out (by simp; omega)).mono ?_
        rintro e w7 ⟨a7, c7, rfl, ho7, ht7, -⟩
        have HO7 := hid ho7
        have HT7 := hid ht7
        clear ho7 ht7
        go_wp2_with fail
        refine (tw_all b2 _ _ (0 :: x0) (List.replicate x0.length true) b1 _ (0 :: x0) _ w _ HT7.out.symm (by simp; omega)).mono ?_
        rintro e w8 ⟨a8, c8, rfl, ho8, ht8, hu8⟩
        have HO7b := hid (own_touch HO7.out hu8 fun k hk => (by have h9 := (HT.out.two.at' k hk).2; exact h9))
        have HO8 := hid ho8
        have HT8 := hid ht8
        clear ho8 ht8 hu8
        go_wp2_with fail
        refine (law06_same a7 a8 (popAll (0 :: x0) (List.replicate x0.length true)) (popAll (0 :: x0) (List.replicate x0.length true)) c7 c8 _ (rowV HO7b.out) (rowV HO8.out) (by rw [popAll_length _ _ _ rfl, List.countP_replicate]; simp; omega)).mono ?_
        rintro e w9 ⟨rfl, n9, rfl⟩
        have heq : eqI (popAll (0 :: x0) (List.replicate x0.length true)) (popAll (0 :: x0) (List.replicate x0.length true)) = true := by simp [eqI]
        rw [heq]
        clear heq
        go_wp2_with fail
        refine (law06_known _).mono ?_
        rintro e w10 ⟨rfl, hb10⟩
        have HB10 := hid hb10
        clear hb10
        go_wp2_with fail
        go_ret
        exact ⟨rfl, (below_dr HT8.out.one.bel n9).trans (HB10.out.mono HT8.out.one.le)⟩
    · have d1 : decide (v < 1) = false := by simp; omega
      have d2 : decide ((x0.length : Int) < v) = true := by simp; omega
      have HE1 := hid (bump_out (A := 0 :: x0) (n := x0.length) (v := v) (by' := 1) (by omega))
      have HE2 := hid (push_out (n := x0.length) (v := v) (by omega))
      have HE3 := hid (pushIn_out (In := List.replicate x0.length true) (v := v) (by rw [List.length_replicate]; omega))
      have HE4 : Hid ((decide (1 ≤ v) && ((List.replicate x0.length true)[(v - 1).toNat]? == some true)) = false) := by
        by_cases h1 : 1 ≤ v
        · rw [List.getElem?_eq_none (by rw [List.length_replicate]; omega)]; simp [Hid]
        · simp [Hid, h1]
      clear hv
      go_wp2_with fail
      refine (tw_Bump b1 _ _ (0 :: x0) (0 :: x0) (List.replicate x0.length true) b2 _ _ _ v 1 3 w _ (by rw [List.length_replicate]; exact HE1.out.1) (by rw [List.length_replicate]; exact HE1.out.2) HT.out).mono ?_
      rintro e w3 ⟨rfl, h3⟩
      have HT3 := hid h3
      clear h3
      go_wp2_with fail
      refine (tw_Push b1 _ _ (0 :: x0) (List.replicate x0.length true) (List.replicate x0.length true) b2 _ _ _ v 3 w _ (by rw [List.length_replicate]; exact HE2.out) HE3.out HT3.out).mono ?_
      rintro e w4 ⟨rfl, S4, h4, -, -⟩
      have HT4 := hid h4
      clear h4
      go_wp2_with fail
      refine (heap_Has b1 _ (0 :: x0) (List.replicate x0.length true) v false _ HE4.out HT4.out.one.heap).mono ?_
      rintro e w5 ⟨rfl, rfl⟩
      clear HT HT3
      have HT := HT4
      clear HT4
      rcases (by omega : by' < 0 ∨ (0 ≤ by' ∧ 1099511627776 < by') ∨ (0 ≤ by' ∧ by' ≤ 1099511627776)) with hb | hb | hb
      · have e1 : decide (by' < 0) = true := by simp; omega
        have HE := hid (bump_out (A := 0 :: x0) (n := x0.length) (v := v) (by' := by') (by omega))
        clear hb
        go_wp2_with fail
        refine (tw_Bump b1 _ _ (0 :: x0) (0 :: x0) (List.replicate x0.length true) b2 _ _ _ v by' 3 w _ (by rw [List.length_replicate]; exact HE.out.1) (by rw [List.length_replicate]; exact HE.out.2) HT.out).mono ?_
        rintro e w6 ⟨rfl, h6⟩
        have HT' := hid h6
        clear h6 HT
        have HT := HT'
        clear HT'
        go_wp2_with fail
        refine (tw_all b1 _ _ (0 :: x0) (List.replicate x0.length true) b2 _ (0 :: x0) (List.replicate x0.length true) w _ HT.out (by simp; omega)).mono ?_
        rintro e w7 ⟨a7, c7, rfl, ho7, ht7, -⟩
        have HO7 := hid ho7
        have HT7 := hid ht7
        clear ho7 ht7
        go_wp2_with fail
        refine (tw_all b2 _ _ (0 :: x0) (List.replicate x0.length true) b1 _ (0 :: x0) _ w _ HT7.out.symm (by simp; omega)).mono ?_
        rintro e w8 ⟨a8, c8, rfl, ho8, ht8, hu8⟩
        have HO7b := hid (own_touch HO7.out hu8 fun k hk => (by have h9 := (HT.out.two.at' k hk).2; exact h9))
        have HO8 := hid ho8
        have HT8 := hid ht8
        clear ho8 ht8 hu8
        go_wp2_with fail
        refine (law06_same a7 a8 (popAll (0 :: x0) (List.replicate x0.length true)) (popAll (0 :: x0) (List.replicate x0.length true)) c7 c8 _ (rowV HO7b.out) (rowV HO8.out) (by rw [popAll_length _ _ _ rfl, List.countP_replicate]; simp; omega)).mono ?_
        rintro e w9 ⟨rfl, n9, rfl⟩
        have heq : eqI (popAll (0 :: x0) (List.replicate x0.length true)) (popAll (0 :: x0) (List.replicate x0.length true)) = true := by simp [eqI]
        rw [heq]
        clear heq
        go_wp2_with fail
        refine (law06_known _).mono ?_
        rintro e w10 ⟨rfl, hb10⟩
        have HB10 := hid hb10
        clear hb10
        go_wp2_with fail
        go_ret
        exact ⟨rfl, (below_dr HT8.out.one.bel n9).trans (HB10.out.mono HT8.out.one.le)⟩
      · have e1 : decide (by' < 0) = false := by simp; omega
        have e2 : decide (1099511627776 < by') = true := by simp; omega
        have HE := hid (bump_out (A := 0 :: x0) (n := x0.length) (v := v) (by' := by') (by omega))
        clear hb
        go_wp2_with fail
        refine (tw_Bump b1 _ _ (0 :: x0) (0 :: x0) (List.replicate x0.length true) b2 _ _ _ v by' 3 w _ (by rw [List.length_replicate]; exact HE.out.1) (by rw [List.length_replicate]; exact HE.out.2) HT.out).mono ?_
        rintro e w6 ⟨rfl, h6⟩
        have HT' := hid h6
        clear h6 HT
        have HT := HT'
        clear HT'
        go_wp2_with fail
        refine (tw_all b1 _ _ (0 :: x0) (List.replicate x0.length true) b2 _ (0 :: x0) (List.replicate x0.length true) w _ HT.out (by simp; omega)).mono ?_
        rintro e w7 ⟨a7, c7, rfl, ho7, ht7, -⟩
        have HO7 := hid ho7
        have HT7 := hid ht7
        clear ho7 ht7
        go_wp2_with fail
        refine (tw_all b2 _ _ (0 :: x0) (List.replicate x0.length true) b1 _ (0 :: x0) _ w _ HT7.out.symm (by simp; omega)).mono ?_
        rintro e w8 ⟨a8, c8, rfl, ho8, ht8, hu8⟩
        have HO7b := hid (own_touch HO7.out hu8 fun k hk => (by have h9 := (HT.out.two.at' k hk).2; exact h9))
        have HO8 := hid ho8
        have HT8 := hid ht8
        clear ho8 ht8 hu8
        go_wp2_with fail
        refine (law06_same a7 a8 (popAll (0 :: x0) (List.replicate x0.length true)) (popAll (0 :: x0) (List.replicate x0.length true)) c7 c8 _ (rowV HO7b.out) (rowV HO8.out) (by rw [popAll_length _ _ _ rfl, List.countP_replicate]; simp; omega)).mono ?_
        rintro e w9 ⟨rfl, n9, rfl⟩
        have heq : eqI (popAll (0 :: x0) (List.replicate x0.length true)) (popAll (0 :: x0) (List.replicate x0.length true)) = true := by simp [eqI]
        rw [heq]
        clear heq
        go_wp2_with fail
        refine (law06_known _).mono ?_
        rintro e w10 ⟨rfl, hb10⟩
        have HB10 := hid hb10
        clear hb10
        go_wp2_with fail
        go_ret
        exact ⟨rfl, (below_dr HT8.out.one.bel n9).trans (HB10.out.mono HT8.out.one.le)⟩
      · have e1 : decide (by' < 0) = false := by simp; omega
        have e2 : decide (1099511627776 < by') = false := by simp; omega
        clear hb
        go_wp2_with fail
        refine (tw_all b1 _ _ (0 :: x0) (List.replicate x0.length true) b2 _ (0 :: x0) (List.replicate x0.length true) w _ HT.out (by simp; omega)).mono ?_
        rintro e w7 ⟨a7, c7, rfl, ho7, ht7, -⟩
        have HO7 := hid ho7
        have HT7 := hid ht7
        clear ho7 ht7
        go_wp2_with fail
        refine (tw_all b2 _ _ (0 :: x0) (List.replicate x0.length true) b1 _ (0 :: x0) _ w _ HT7.out.symm (by simp; omega)).mono ?_
        rintro e w8 ⟨a8, c8, rfl, ho8, ht8, hu8⟩
        have HO7b := hid (own_touch HO7.out hu8 fun k hk => (by have h9 := (HT.out.two.at' k hk).2; exact h9))
        have HO8 := hid ho8
        have HT8 := hid ht8
        clear ho8 ht8 hu8
        go_wp2_with fail
        refine (law06_same a7 a8 (popAll (0 :: x0) (List.replicate x0.length true)) (popAll (0 :: x0) (List.replicate x0.length true)) c7 c8 _ (rowV HO7b.out) (rowV HO8.out) (by rw [popAll_length _ _ _ rfl, List.countP_replicate]; simp; omega)).mono ?_
        rintro e w9 ⟨rfl, n9, rfl⟩
        have heq : eqI (popAll (0 :: x0) (List.replicate x0.length true)) (popAll (0 :: x0) (List.replicate x0.length true)) = true := by simp [eqI]
        rw [heq]
        clear heq
        go_wp2_with fail
        refine (law06_known _).mono ?_
        rintro e w10 ⟨rfl, hb10⟩
        have HB10 := hid hb10
        clear hb10
        go_wp2_with fail
        go_ret
        exact ⟨rfl, (below_dr HT8.out.one.bel n9).trans (HB10.out.mono HT8.out.one.le)⟩
    · have d1 : decide (v < 1) = false := by simp; omega
      have d2 : decide ((x0.length : Int) < v) = false := by simp; omega
      clear hv
      rcases (by omega : by' < 0 ∨ (0 ≤ by' ∧ 1099511627776 < by') ∨ (0 ≤ by' ∧ by' ≤ 1099511627776)) with hb | hb | hb
      · have e1 : decide (by' < 0) = true := by simp; omega
        have HE := hid (bump_out (A := 0 :: x0) (n := x0.length) (v := v) (by' := by') (by omega))
        clear hb
        go_wp2_with fail
        refine (tw_Bump b1 _ _ (0 :: x0) (0 :: x0) (List.replicate x0.length true) b2 _ _ _ v by' 3 w _ (by rw [List.length_replicate]; exact HE.out.1) (by rw [List.length_replicate]; exact HE.out.2) HT.out).mono ?_
        rintro e w6 ⟨rfl, h6⟩
        have HT' := hid h6
        clear h6 HT
        have HT := HT'
        clear HT'
        go_wp2_with fail
        refine (tw_all b1 _ _ (0 :: x0) (List.replicate x0.length true) b2 _ (0 :: x0) (List.replicate x0.length true) w _ HT.out (by simp; omega)).mono ?_
        rintro e w7 ⟨a7, c7, rfl, ho7, ht7, -⟩
        have HO7 := hid ho7
        have HT7 := hid ht7
        clear ho7 ht7
        go_wp2_with fail
        refine (tw_all b2 _ _ (0 :: x0) (List.replicate x0.length true) b1 _ (0 :: x0) _ w _ HT7.out.symm (by simp; omega)).mono ?_
        rintro e w8 ⟨a8, c8, rfl, ho8, ht8, hu8⟩
        have HO7b := hid (own_touch HO7.out hu8 fun k hk => (by have h9 := (HT.out.two.at' k hk).2; exact h9))
        have HO8 := hid ho8
        have HT8 := hid ht8
        clear ho8 ht8 hu8
        go_wp2_with fail
        refine (law06_same a7 a8 (popAll (0 :: x0) (List.replicate x0.length true)) (popAll (0 :: x0) (List.replicate x0.length true)) c7 c8 _ (rowV HO7b.out) (rowV HO8.out) (by rw [popAll_length _ _ _ rfl, List.countP_replicate]; simp; omega)).mono ?_
        rintro e w9 ⟨rfl, n9, rfl⟩
        have heq : eqI (popAll (0 :: x0) (List.replicate x0.length true)) (popAll (0 :: x0) (List.replicate x0.length true)) = true := by simp [eqI]
        rw [heq]
        clear heq
        go_wp2_with fail
        refine (law06_known _).mono ?_
        rintro e w10 ⟨rfl, hb10⟩
        have HB10 := hid hb10
        clear hb10
        go_wp2_with fail
        go_ret
        exact ⟨rfl, (below_dr HT8.out.one.bel n9).trans (HB10.out.mono HT8.out.one.le)⟩
      · have e1 : decide (by' < 0) = false := by simp; omega
        have e2 : decide (1099511627776 < by') = true := by simp; omega
        have HE := hid (bump_out (A := 0 :: x0) (n := x0.length) (v := v) (by' := by') (by omega))
        clear hb
        go_wp2_with fail
        refine (tw_Bump b1 _ _ (0 :: x0) (0 :: x0) (List.replicate x0.length true) b2 _ _ _ v by' 3 w _ (by rw [List.length_replicate]; exact HE.out.1) (by rw [List.length_replicate]; exact HE.out.2) HT.out).mono ?_
        rintro e w6 ⟨rfl, h6⟩
        have HT' := hid h6
        clear h6 HT
        have HT := HT'
        clear HT'
        go_wp2_with fail
        refine (tw_all b1 _ _ (0 :: x0) (List.replicate x0.length true) b2 _ (0 :: x0) (List.replicate x0.length true) w _ HT.out (by simp; omega)).mono ?_
        rintro e w7 ⟨a7, c7, rfl, ho7, ht7, -⟩
        have HO7 := hid ho7
        have HT7 := hid ht7
        clear ho7 ht7
        go_wp2_with fail
        refine (tw_all b2 _ _ (0 :: x0) (List.replicate x0.length true) b1 _ (0 :: x0) _ w _ HT7.out.symm (by simp; omega)).mono ?_
        rintro e w8 ⟨a8, c8, rfl, ho8, ht8, hu8⟩
        have HO7b := hid (own_touch HO7.out hu8 fun k hk => (by have h9 := (HT.out.two.at' k hk).2; exact h9))
        have HO8 := hid ho8
        have HT8 := hid ht8
        clear ho8 ht8 hu8
        go_wp2_with fail
        refine (law06_same a7 a8 (popAll (0 :: x0) (List.replicate x0.length true)) (popAll (0 :: x0) (List.replicate x0.length true)) c7 c8 _ (rowV HO7b.out) (rowV HO8.out) (by rw [popAll_length _ _ _ rfl, List.countP_replicate]; simp; omega)).mono ?_
        rintro e w9 ⟨rfl, n9, rfl⟩
        have heq : eqI (popAll (0 :: x0) (List.replicate x0.length true)) (popAll (0 :: x0) (List.replicate x0.length true)) = true := by simp [eqI]
        rw [heq]
        clear heq
        go_wp2_with fail
        refine (law06_known _).mono ?_
        rintro e w10 ⟨rfl, hb10⟩
        have HB10 := hid hb10
        clear hb10
        go_wp2_with fail
        go_ret
        exact ⟨rfl, (below_dr HT8.out.one.bel n9).trans (HB10.out.mono HT8.out.one.le)⟩
      · have e1 : decide (by' < 0) = false := by simp; omega
        have e2 : decide (1099511627776 < by') = false := by simp; omega
        clear hb
        go_wp2_with fail
        refine (tw_all b1 _ _ (0 :: x0) (List.replicate x0.length true) b2 _ (0 :: x0) (List.replicate x0.length true) w _ HT.out (by simp; omega)).mono ?_
        rintro e w7 ⟨a7, c7, rfl, ho7, ht7, -⟩
        have HO7 := hid ho7
        have HT7 := hid ht7
        clear ho7 ht7
        go_wp2_with fail
        refine (tw_all b2 _ _ (0 :: x0) (List.replicate x0.length true) b1 _ (0 :: x0) _ w _ HT7.out.symm (by simp; omega)).mono ?_
        rintro e w8 ⟨a8, c8, rfl, ho8, ht8, hu8⟩
        have HO7b := hid (own_touch HO7.out hu8 fun k hk => (by have h9 := (HT.out.two.at' k hk).2; exact h9))
        have HO8 := hid ho8
        have HT8 := hid ht8
        clear ho8 ht8 hu8
        go_wp2_with fail
        refine (law06_same a7 a8 (popAll (0 :: x0) (List.replicate x0.length true)) (popAll (0 :: x0) (List.replicate x0.length true)) c7 c8 _ (rowV HO7b.out) (rowV HO8.out) (by rw [popAll_length _ _ _ rfl, List.countP_replicate]; simp; omega)).mono ?_
        rintro e w9 ⟨rfl, n9, rfl⟩
        have heq : eqI (popAll (0 :: x0) (List.replicate x0.length true)) (popAll (0 :: x0) (List.replicate x0.length true)) = true := by simp [eqI]
        rw [heq]
        clear heq
        go_wp2_with fail
        refine (law06_known _).mono ?_
        rintro e w10 ⟨rfl, hb10⟩
        have HB10 := hid hb10
        clear hb10
        go_wp2_with fail
        go_ret
        exact ⟨rfl, (below_dr HT8.out.one.bel n9).trans (HB10.out.mono HT8.out.one.le)⟩
  · have hd0 : decide ((100 : Int) < x0.length) = true := by simp; omega
    go_enter Try.func7, Try.ntmps7
    go_wp2_with (go_at_call 11; refine (law06_known _).mono ?_; rintro e w' ⟨rfl, hb⟩)
    go_ret
    exact ⟨rfl, hb⟩

end Go.Proofs.Ytfhpjaabcegefaa.Ord
