/- The walk of OrderCopies. -/
import Derived.Test.YtfhpjaabcegefaaHeapV
import Derived.Test.YtfhpjaabcegefaaWOdd
namespace Go.Proofs.Ytfhpjaabcegefaa.Ord
open Go.RowKit

theorem hb_Copy (b B : Nat) (S : Nat → Prop) (A : List Int) (In : List Bool) (w0 w : World) (h : HB B w0 w b S A In) :
    Calls Try.prog 22 #[.pointer (some ⟨b, 0, none⟩)] w fun e w' => ∃ b' S', e = .returned (.pointer (some ⟨b', 0, none⟩)) ∧ HB B w0 w' b' S' A In ∧ Touch (fun k => w.heap.size ≤ k) w w' ∧ ∀ k, S' k → w.heap.size ≤ k ∧ k < w'.heap.size := by
  refine (heap_Copy b S A In w h.heap).mono fun e w' hh => ?_
  obtain ⟨b', S', h1, h2, h3, h4⟩ := hh
  exact ⟨b', S', h1, ⟨h2, h.bel.trans (h3.mono h.le), Nat.le_trans h.le h3.size, fun k hk => ⟨Nat.le_trans h.le (h4 k hk).1, (h4 k hk).2⟩⟩, touch_of_below h3, h4⟩

theorem all_len (x0 : List Int) : (popAll (0 :: x0) (List.replicate x0.length true)).length = x0.length := by
  rw [popAll_length _ _ _ rfl, List.countP_replicate]; simp

theorem hb_drewN {B b : Nat} {S : Nat → Prop} {A : List Int} {In : List Bool} {w0 w : World} (h : HB B w0 w b S A In) (n : Nat) : HB B w0 (w.drewN n) b S A In :=
  ⟨heap_drewN h.heap n, below_dr h.bel n, h.le, h.at'⟩

set_option maxRecDepth 100000 in
set_option maxHeartbeats 4000000 in
theorem walk_OrderCopies (v0 : Value) (x0 : List Int) (v by' : Int) (w : World) (w0 : ArgI .u16 w v0 x0) (g1 : (Lit.int .u8 v).wf = true) (g2 : (Lit.int .u16 by').wf = true) :
    Calls Try.prog 5 #[v0, .int .u8 v, .int .u16 by'] w fun e w' => e = .returned (.bool true) ∧ Below w.heap.size w w' := by
  obtain ⟨a0, c0, rfl, hle0, hm0, hn0, hs0, hw0⟩ := w0
  have HX := hid (u16s hw0)
  have HS := hid hs0
  have hb1 := bounds_u8 g1
  have hb2 := bounds_u16 g2
  clear hs0 hw0 hle0 hm0 hn0 g1 g2
  by_cases hl : x0.length ≤ 100
  · have hd0 : decide ((100 : Int) < x0.length) = false := by simp; omega
    go_enter Try.func5, Try.ntmps5
    go_wp2_with fail
    refine (law06_made a0 c0 w.heap.size x0 w _ HS.out HX.out (by omega) (Below.refl _ _) (Nat.le_refl _)).mono ?_
    rintro e w1 ⟨b1, S1, rfl, h1, h2, h3⟩
    have H1 := hid h1
    have H2 := hid h2
    have D1 := hid fun k hk => (h1.at' k hk).2
    clear h1 h2 h3
    go_wp2_with fail
    refine (law06_made a0 c0 w.heap.size x0 w _ (HS.out.below H2.out) HX.out (by omega) H2.out H1.out.le).mono ?_
    rintro e w2 ⟨b2, S2, rfl, h4, h5, h6⟩
    have D2 := hid fun k hk => And.intro (h6 k hk) (h4.at' k hk).2
    have hA2 := hb_touch H1.out (T := fun k => w1.heap.size ≤ k) (touch_of_below h5) (fun k hk => by have := D1.out k hk; omega) (fun k hk => by have := H1.out.le; omega)
    have HA2 := hid hA2
    have HQ2 := hid h4
    have z2 := h5.size
    clear h4 h5 h6 hA2
    go_wp2_with fail
    refine (hb_Copy b1 w.heap.size S1 _ _ w _ HA2.out).mono ?_
    rintro e w3 ⟨b3, S3, rfl, h7, h8, h9⟩
    have D3 := hid h9
    have HA3 := hid (hb_touch HA2.out h8 (fun k hk => by have := D1.out k hk; omega) (fun k hk => by have := HA2.out.le; omega))
    have HQ3 := hid (hb_touch HQ2.out h8 (fun k hk => by have := D2.out k hk; omega) (fun k hk => by have := HA2.out.le; omega))
    have HC3 := hid h7
    have z3 := h8.size
    clear h7 h8 h9
    go_wp2_with fail
    refine (hb_Copy b1 w.heap.size S1 _ _ w _ HA3.out).mono ?_
    rintro e w4 ⟨b4, S4, rfl, h7, h8, h9⟩
    have D4 := hid h9
    have HA4 := hid (hb_touch HA3.out h8 (fun k hk => by have := D1.out k hk; omega) (fun k hk => by have := HA3.out.le; omega))
    have HQ4 := hid (hb_touch HQ3.out h8 (fun k hk => by have := D2.out k hk; omega) (fun k hk => by have := HA3.out.le; omega))
    have HC4 := hid (hb_touch HC3.out h8 (fun k hk => by have := D3.out k hk; omega) (fun k hk => by have := HA3.out.le; omega))
    have HD4 := hid h7
    have z4 := h8.size
    clear h7 h8 h9
    have hwx : IntKind.i64.wrap v = v := IntWalk.i64_in _ (by omega)
    have hwy : IntKind.i64.wrap by' = by' := IntWalk.i64_in _ (by omega)
    have hwz : IntKind.i64.wrap (by' + 1) = by' + 1 := IntWalk.i64_in _ (by omega)
    go_wp2_with fail
    refine (hb_Bump b3 w.heap.size S3 _ _ _ v (by' + 1) _ w _ rfl rfl HC4.out).mono ?_
    rintro e w5 ⟨rfl, h7, h8⟩
    have HC5 := hid h7
    have HT5 := hid h8
    clear h7 h8
    go_wp2_with fail
    refine (hb_Pop b3 w.heap.size S3 _ _ _ _ _ w _ rfl rfl rfl HC5.out).mono ?_
    rintro e w6 ⟨rfl, h7, h8⟩
    have hT6 := HT5.out.trans h8
    have HA6 := hid (hb_touch HA4.out hT6 (fun k hk hk2 => by have := D1.out k hk; have := D3.out k hk2; omega) (fun k hk => (HC4.out.at' k hk).1))
    have HQ6 := hid (hb_touch HQ4.out hT6 (fun k hk hk2 => by have := D2.out k hk; have := D3.out k hk2; omega) (fun k hk => (HC4.out.at' k hk).1))
    have HD6 := hid (hb_touch HD4.out hT6 (fun k hk hk2 => by have := D4.out k hk; have := D3.out k hk2; omega) (fun k hk => (HC4.out.at' k hk).1))
    have z6 := hT6.size
    clear h7 h8 hT6 HC5 HT5
    go_wp2_with fail
    refine (law06_all b2 w.heap.size S2 _ _ w _ HQ6.out (by simp; omega)).mono ?_
    rintro e w7 ⟨v7, rfl, ho7, h7, hT7⟩
    obtain ⟨a7, c7, rfl⟩ := own_lenV ho7
    have HO7 := hid ho7
    have HA7 := hid (hb_touch HA6.out hT7 (fun k hk hk2 => by have := D1.out k hk; have := D2.out k hk2; omega) (fun k hk => (HQ6.out.at' k hk).1))
    have HD7 := hid (hb_touch HD6.out hT7 (fun k hk hk2 => by have := D4.out k hk; have := D2.out k hk2; omega) (fun k hk => (HQ6.out.at' k hk).1))
    have z7 := hT7.size
    clear h7 hT7 ho7
    go_wp2_with fail
    refine (law06_all b1 w.heap.size S1 _ _ w _ HA7.out (by simp; omega)).mono ?_
    rintro e w8 ⟨v8, rfl, ho8, h8, hT8⟩
    obtain ⟨a8, c8, rfl⟩ := own_lenV ho8
    have HO8 := hid ho8
    have HO78 := hid (own_touch HO7.out hT8 fun k hk => by have := D1.out k hk; omega)
    have HD8 := hid (hb_touch HD7.out hT8 (fun k hk hk2 => by have := D4.out k hk; have := D1.out k hk2; omega) (fun k hk => (HA7.out.at' k hk).1))
    clear h8 hT8 ho8
    go_wp2_with fail
    refine (law06_same a8 a7 (popAll (0 :: x0) (List.replicate x0.length true)) (popAll (0 :: x0) (List.replicate x0.length true)) c8 c7 _ (rowV HO8.out) (rowV HO78.out) (by rw [all_len]; omega)).mono ?_
    rintro e w9 ⟨rfl, n9, rfl⟩
    have heq : eqI (popAll (0 :: x0) (List.replicate x0.length true)) (popAll (0 :: x0) (List.replicate x0.length true)) = true := by simp [eqI]
    rw [heq]
    go_wp2_with fail
    refine (law06_all b4 w.heap.size S4 _ _ w _ (hb_drewN HD8.out n9) (by simp; omega)).mono ?_
    rintro e w10 ⟨v10, rfl, ho10, h10, hT10⟩
    obtain ⟨a10, c10, rfl⟩ := own_lenV ho10
    have HO10 := hid ho10
    have ho79 : (w8.drewN n9).ownsRow w6.heap.size 3 1 (.slice a7 (popAll (0 :: x0) (List.replicate x0.length true)).length c7) (popAll (0 :: x0) (List.replicate x0.length true)).length (ints (popAll (0 :: x0) (List.replicate x0.length true))) := HO78.out
    have HO710 := hid (own_touch ho79 hT10 fun k hk => by have := D4.out k hk; omega)
    have HD10 := hid h10
    clear h10 hT10 ho10 ho79
    go_wp2_with fail
    refine (law06_same a10 a7 (popAll (0 :: x0) (List.replicate x0.length true)) (popAll (0 :: x0) (List.replicate x0.length true)) c10 c7 _ (rowV HO10.out) (rowV HO710.out) (by rw [all_len]; omega)).mono ?_
    rintro e w11 ⟨rfl, n11, rfl⟩
    rw [heq]
    clear heq
    go_wp2_with fail
    refine (law06_known _).mono ?_
    rintro e w12 ⟨rfl, hb12⟩
    have HB12 := hid hb12
    clear hb12
    go_wp2_with fail
    go_ret
    exact ⟨rfl, (below_dr HD10.out.bel n11).trans (HB12.out.mono HD10.out.le)⟩
  · have hd0 : decide ((100 : Int) < x0.length) = true := by simp; omega
    go_enter Try.func5, Try.ntmps5
    go_wp2_with (go_at_call 11; refine (law06_known _).mono ?_; rintro e w' ⟨rfl, hb⟩)
    go_ret
    exact ⟨rfl, hb⟩

end Go.Proofs.Ytfhpjaabcegefaa.Ord
