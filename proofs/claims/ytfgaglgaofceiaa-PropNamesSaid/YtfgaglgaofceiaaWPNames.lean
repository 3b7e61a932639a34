/- The walk of PropNames. -/
import Derived.Test.YtfgaglgaofceiaaPropN
namespace Go.Proofs.Ytfgaglgaofceiaa.Ord
open Go.RowKit

theorem rws_one {w : World} {b b1 : Nat} {xs : List Int} {n : Nat} {e : TypeId} {m : Nat × Nat} (h : w.heap[b]? = some (.cells #[.slice (some ⟨b1, 0, none⟩) n n] e m)) (h1 : SlI w (.slice (some ⟨b1, 0, none⟩) n n) xs) : Rws w (some ⟨b, 0, none⟩) [xs] := by
  intro j c hj
  have hcell := slv_at (vs := [.slice (some ⟨b1, 0, none⟩) n n]) h
  match j, hj with
  | 0, hj => simp at hj; subst hj; obtain ⟨b, off, e1, e2⟩ := hcell 0 _ rfl; exact ⟨b, off, _, e1, e2, h1⟩
  | j + 1, hj => simp at hj

theorem rws_two {w : World} {b b1 b2 : Nat} {xs ys : List Int} {n k : Nat} {e : TypeId} {m : Nat × Nat} (h : w.heap[b]? = some (.cells #[.slice (some ⟨b1, 0, none⟩) n n, .slice (some ⟨b2, 0, none⟩) k k] e m)) (h1 : SlI w (.slice (some ⟨b1, 0, none⟩) n n) xs) (h2 : SlI w (.slice (some ⟨b2, 0, none⟩) k k) ys) : Rws w (some ⟨b, 0, none⟩) [xs, ys] := by
  intro j c hj
  have hcell := slv_at (vs := [.slice (some ⟨b1, 0, none⟩) n n, .slice (some ⟨b2, 0, none⟩) k k]) h
  match j, hj with
  | 0, hj => simp at hj; subst hj; obtain ⟨b, off, e1, e2⟩ := hcell 0 _ rfl; exact ⟨b, off, _, e1, e2, h1⟩
  | 1, hj => simp at hj; subst hj; obtain ⟨b, off, e1, e2⟩ := hcell 1 _ rfl; exact ⟨b, off, _, e1, e2, h2⟩
  | j + 2, hj => simp at hj

theorem pn_u0 : unitsV ((3 : Nat) : Int) threeF [] = ([], false, 0) := unitsV_closed [] chk_three (by decide) (closedOk_sound (by decide)) (by decide)
theorem pn_u1 : unitsV ((3 : Nat) : Int) threeF [-1] = ([-1, 2, -3], false, 0) := unitsV_closed [-3, 2, -1] chk_three (by decide) (closedOk_sound (by decide)) (by decide)
theorem pn_u2 : unitsV ((3 : Nat) : Int) threeF [-2, 3] = ([1, -2, 3], false, 0) := unitsV_closed [1, 3, -2] chk_three (by decide) (closedOk_sound (by decide)) (by decide)
theorem pn_u3 : unitsV ((3 : Nat) : Int) threeF [1, 1] = ([1, -2, 3], false, 0) := unitsV_closed [-2, 3, 1] chk_three (by decide) (closedOk_sound (by decide)) (by decide)
theorem pn_f0 : unitsV ((3 : Nat) : Int) threeF [1, 2] = ([], true, 0) := unitsV_fails chk_three (by decide) (badOk_sound (K := [3, -3, 2, 1]) (by decide))
theorem pn_f1 : unitsV ((3 : Nat) : Int) threeF [1, -1] = ([], true, 0) := unitsV_fails chk_three (by decide) (badOk_sound (K := [1, -1]) (by decide))
theorem pn_f2 : unitsV ((1 : Nat) : Int) [[1, 1], [-1, -1]] [] = ([], true, 0) := unitsV_fails (by decide) (by decide) (badOk_sound (K := [1, -1]) (by decide))
theorem pn_f3 : unitsV ((0 : Nat) : Int) [[]] [] = ([], true, 0) := unitsV_fails (by decide) (by decide) (badOk_sound (K := []) (by decide))
theorem pn_e0 : unitsV ((3 : Nat) : Int) threeF [4] = ([], false, 3) := unitsV_arg (k := 0) (x := 4) chk_three rfl (by decide)
theorem pn_e1 : unitsV ((3 : Nat) : Int) threeF [0] = ([], false, 3) := unitsV_arg (k := 0) (x := 0) chk_three rfl (by decide)
theorem pn_e2 : unitsV ((3 : Nat) : Int) threeF [1, -1, -9223372036854775808] = ([], false, 3) := unitsV_arg (k := 2) (x := -9223372036854775808) chk_three rfl (by decide)
theorem pn_u4 : unitsV ((2 : Nat) : Int) [[1, -1]] [-2] = ([-2], false, 0) := unitsV_closed [-2] (by decide) (by decide) (closedOk_sound (by decide)) (by decide)

set_option maxRecDepth 100000 in
set_option maxHeartbeats 8000000 in
theorem walk_PropNames (w : World) :
    Calls Try.prog 8 #[] w fun e w' => e = .returned (.bool true) ∧ Below w.heap.size w w' := by
  have HB0 := hid (Below.refl w.heap.size w)
  go_enter Try.func8, Try.ntmps8
  go_wp2_with fail
  refine (law04_three _).mono ?_
  rintro e wa1 ⟨a1, c1, rfl, hr1, hb1⟩
  have HA1 : Hid (Below w.heap.size w wa1) := hid (HB0.out.trans (hb1.mono HB0.out.size))
  have HR1 := hid hr1
  clear hr1 hb1
  go_wp2_with fail
  refine (law04_unitsT 3 a1 threeF 3 c1 none [] 0 0 none [] 0 0 _ pn_u0 rfl rfl rfl fok_three HR1.out (SlV.nil _ _) (SlV.nil _ _) (by decide) (by decide)).mono ?_
  rintro e wb2 ⟨rfl, hb2⟩
  have HB2 : Hid (Below w.heap.size w wb2) := hid (HA1.out.trans (hb2.mono (by have := (HA1.out).size; (try simp only [size_al]); omega)))
  clear hb2
  go_wp2_with fail
  refine (law04_three _).mono ?_
  rintro e wa3 ⟨a3, c3, rfl, hr3, hb3⟩
  have HA3 : Hid (Below w.heap.size w wa3) := hid (HB2.out.trans (hb3.mono HB2.out.size))
  have HR3 := hid hr3
  clear hr3 hb3
  go_wp2_with fail
  refine (law04_unitsT 3 a3 threeF 3 c3 (some ⟨wa3.heap.size, 0, none⟩) [-1, 2, -3] 3 3 (some ⟨wa3.heap.size + 1, 0, none⟩) [-1] 1 1 _ pn_u1 rfl rfl rfl fok_three (HR3.out.below (below_al (below_al (Below.refl wa3.heap.size wa3) (by have := ((Below.refl wa3.heap.size wa3)).size; (try simp only [size_al]); omega) _) (by have := ((Below.refl wa3.heap.size wa3)).size; (try simp only [size_al]); omega) _)) (slv_at (vs := ints [-1]) (e := 3) (m := (0, 0)) (by simp only [heap_al, Array.getElem?_push, Array.size_push]; rw [if_pos trivial]; try rfl)) (slv_at (vs := ints [-1, 2, -3]) (e := 3) (m := (0, 0)) (by simp only [heap_al, Array.getElem?_push, Array.size_push]; rw [if_neg (by omega)]; rw [if_pos trivial]; try rfl)) (by decide) (by decide)).mono ?_
  rintro e wb4 ⟨rfl, hb4⟩
  have HB4 : Hid (Below w.heap.size w wb4) := hid ((below_al (below_al HA3.out (by have := (HA3.out).size; (try simp only [size_al]); omega) _) (by have := (HA3.out).size; (try simp only [size_al]); omega) _).trans (hb4.mono (by have := (HA3.out).size; (try simp only [size_al]); omega)))
  clear hb4
  go_wp2_with fail
  refine (law04_three _).mono ?_
  rintro e wa5 ⟨a5, c5, rfl, hr5, hb5⟩
  have HA5 : Hid (Below w.heap.size w wa5) := hid (HB4.out.trans (hb5.mono HB4.out.size))
  have HR5 := hid hr5
  clear hr5 hb5
  go_wp2_with fail
  refine (law04_unitsT 3 a5 threeF 3 c5 (some ⟨wa5.heap.size, 0, none⟩) [1, -2, 3] 3 3 (some ⟨wa5.heap.size + 1, 0, none⟩) [-2, 3] 2 2 _ pn_u2 rfl rfl rfl fok_three (HR5.out.below (below_al (below_al (Below.refl wa5.heap.size wa5) (by have := ((Below.refl wa5.heap.size wa5)).size; (try simp only [size_al]); omega) _) (by have := ((Below.refl wa5.heap.size wa5)).size; (try simp only [size_al]); omega) _)) (slv_at (vs := ints [-2, 3]) (e := 3) (m := (0, 0)) (by simp only [heap_al, Array.getElem?_push, Array.size_push]; rw [if_pos trivial]; try rfl)) (slv_at (vs := ints [1, -2, 3]) (e := 3) (m := (0, 0)) (by simp only [heap_al, Array.getElem?_push, Array.size_push]; rw [if_neg (by omega)]; rw [if_pos trivial]; try rfl)) (by decide) (by decide)).mono ?_
  rintro e wb6 ⟨rfl, hb6⟩
  have HB6 : Hid (Below w.heap.size w wb6) := hid ((below_al (below_al HA5.out (by have := (HA5.out).size; (try simp only [size_al]); omega) _) (by have := (HA5.out).size; (try simp only [size_al]); omega) _).trans (hb6.mono (by have := (HA5.out).size; (try simp only [size_al]); omega)))
  clear hb6
  go_wp2_with fail
  refine (law04_three _).mono ?_
  rintro e wa7 ⟨a7, c7, rfl, hr7, hb7⟩
  have HA7 : Hid (Below w.heap.size w wa7) := hid (HB6.out.trans (hb7.mono HB6.out.size))
  have HR7 := hid hr7
  clear hr7 hb7
  go_wp2_with fail
  refine (law04_unitsT 3 a7 threeF 3 c7 (some ⟨wa7.heap.size, 0, none⟩) [1, -2, 3] 3 3 (some ⟨wa7.heap.size + 1, 0, none⟩) [1, 1] 2 2 _ pn_u3 rfl rfl rfl fok_three (HR7.out.below (below_al (below_al (Below.refl wa7.heap.size wa7) (by have := ((Below.refl wa7.heap.size wa7)).size; (try simp only [size_al]); omega) _) (by have := ((Below.refl wa7.heap.size wa7)).size; (try simp only [size_al]); omega) _)) (slv_at (vs := ints [1, 1]) (e := 3) (m := (0, 0)) (by simp only [heap_al, Array.getElem?_push, Array.size_push]; rw [if_pos trivial]; try rfl)) (slv_at (vs := ints [1, -2, 3]) (e := 3) (m := (0, 0)) (by simp only [heap_al, Array.getElem?_push, Array.size_push]; rw [if_neg (by omega)]; rw [if_pos trivial]; try rfl)) (by decide) (by decide)).mono ?_
  rintro e wb8 ⟨rfl, hb8⟩
  have HB8 : Hid (Below w.heap.size w wb8) := hid ((below_al (below_al HA7.out (by have := (HA7.out).size; (try simp only [size_al]); omega) _) (by have := (HA7.out).size; (try simp only [size_al]); omega) _).trans (hb8.mono (by have := (HA7.out).size; (try simp only [size_al]); omega)))
  clear hb8
  go_wp2_with fail
  refine (law04_three _).mono ?_
  rintro e wa9 ⟨a9, c9, rfl, hr9, hb9⟩
  have HA9 : Hid (Below w.heap.size w wa9) := hid (HB8.out.trans (hb9.mono HB8.out.size))
  have HR9 := hid hr9
  clear hr9 hb9
  go_wp2_with fail
  refine (law04_failsT 3 a9 threeF 3 c9 (some ⟨wa9.heap.size, 0, none⟩) [1, 2] 2 2 _ pn_f0 rfl rfl fok_three (HR9.out.below (below_al (Below.refl wa9.heap.size wa9) (by have := ((Below.refl wa9.heap.size wa9)).size; (try simp only [size_al]); omega) _)) (slv_at (vs := ints [1, 2]) (e := 3) (m := (0, 0)) (by simp only [heap_al, Array.getElem?_push]; rw [if_pos trivial]; try rfl)) (by decide) (by decide)).mono ?_
  rintro e wb10 ⟨rfl, hb10⟩
  have HB10 : Hid (Below w.heap.size w wb10) := hid ((below_al HA9.out (by have := (HA9.out).size; (try simp only [size_al]); omega) _).trans (hb10.mono (by have := (HA9.out).size; (try simp only [size_al]); omega)))
  clear hb10
  go_wp2_with fail
  refine (law04_three _).mono ?_
  rintro e wa11 ⟨a11, c11, rfl, hr11, hb11⟩
  have HA11 : Hid (Below w.heap.size w wa11) := hid (HB10.out.trans (hb11.mono HB10.out.size))
  have HR11 := hid hr11
  clear hr11 hb11
  go_wp2_with fail
  refine (law04_failsT 3 a11 threeF 3 c11 (some ⟨wa11.heap.size, 0, none⟩) [1, -1] 2 2 _ pn_f1 rfl rfl fok_three (HR11.out.below (below_al (Below.refl wa11.heap.size wa11) (by have := ((Below.refl wa11.heap.size wa11)).size; (try simp only [size_al]); omega) _)) (slv_at (vs := ints [1, -1]) (e := 3) (m := (0, 0)) (by simp only [heap_al, Array.getElem?_push]; rw [if_pos trivial]; try rfl)) (by decide) (by decide)).mono ?_
  rintro e wb12 ⟨rfl, hb12⟩
  have HB12 : Hid (Below w.heap.size w wb12) := hid ((below_al HA11.out (by have := (HA11.out).size; (try simp only [size_al]); omega) _).trans (hb12.mono (by have := (HA11.out).size; (try simp only [size_al]); omega)))
  clear hb12
  go_wp2_with fail
  refine (law04_failsT 1 (some ⟨wb12.heap.size + 1 + 1, 0, none⟩) [[1, 1], [-1, -1]] 2 2 none [] 0 0 _ pn_f2 rfl rfl (by intro c hc; simp at hc; rcases hc with rfl | rfl <;> simp [I64]) (rws_two (e := 22) (m := (0, 0)) (b1 := wb12.heap.size) (b2 := wb12.heap.size + 1) (n := 2) (k := 2) (by simp only [heap_al, Array.getElem?_push, Array.size_push]; rw [if_pos trivial]; try rfl) (sli_of_block (xs := [1, 1]) (e := 3) (m := (0, 0)) (by simp only [heap_al, Array.getElem?_push, Array.size_push]; rw [if_neg (by omega)]; rw [if_neg (by omega)]; rw [if_pos trivial]; try rfl) rfl) (sli_of_block (xs := [-1, -1]) (e := 3) (m := (0, 0)) (by simp only [heap_al, Array.getElem?_push, Array.size_push]; rw [if_neg (by omega)]; rw [if_pos trivial]; try rfl) rfl)) (SlV.nil _ _) (by decide) (by decide)).mono ?_
  rintro e wb13 ⟨rfl, hb13⟩
  have HB13 : Hid (Below w.heap.size w wb13) := hid ((below_al (below_al (below_al HB12.out (by have := (HB12.out).size; (try simp only [size_al]); omega) _) (by have := (HB12.out).size; (try simp only [size_al]); omega) _) (by have := (HB12.out).size; (try simp only [size_al]); omega) _).trans (hb13.mono (by have := (HB12.out).size; (try simp only [size_al]); omega)))
  clear hb13
  go_wp2_with fail
  refine (law04_failsT 0 (some ⟨wb13.heap.size + 1, 0, none⟩) [[]] 1 1 none [] 0 0 _ pn_f3 rfl rfl (by intro c hc; simp at hc; subst hc; simp) (rws_one (e := 22) (m := (0, 0)) (b1 := wb13.heap.size) (n := 0) (by simp only [heap_al, Array.getElem?_push, Array.size_push]; rw [if_pos trivial]; try rfl) (sli_of_block (xs := []) (e := 3) (m := (0, 0)) (by simp only [heap_al, Array.getElem?_push, Array.size_push]; rw [if_neg (by omega)]; rw [if_pos trivial]; try rfl) rfl)) (SlV.nil _ _) (by decide) (by decide)).mono ?_
  rintro e wb14 ⟨rfl, hb14⟩
  have HB14 : Hid (Below w.heap.size w wb14) := hid ((below_al (below_al HB13.out (by have := (HB13.out).size; (try simp only [size_al]); omega) _) (by have := (HB13.out).size; (try simp only [size_al]); omega) _).trans (hb14.mono (by have := (HB13.out).size; (try simp only [size_al]); omega)))
  clear hb14
  go_wp2_with fail
  refine (law04_three _).mono ?_
  rintro e wa15 ⟨a15, c15, rfl, hr15, hb15⟩
  have HA15 : Hid (Below w.heap.size w wa15) := hid (HB14.out.trans (hb15.mono HB14.out.size))
  have HR15 := hid hr15
  clear hr15 hb15
  go_wp2_with fail
  refine (prop_UnitsN 3 a15 threeF 3 c15 (some ⟨wa15.heap.size, 0, none⟩) [4] 1 1 [] false 3 _ pn_e0 rfl rfl fok_three (HR15.out.below (below_al (Below.refl wa15.heap.size wa15) (by have := ((Below.refl wa15.heap.size wa15)).size; (try simp only [size_al]); omega) _)) (slv_at (vs := ints [4]) (e := 3) (m := (0, 0)) (by simp only [heap_al, Array.getElem?_push]; rw [if_pos trivial]; try rfl)) (by decide) (by decide)).mono ?_
  rintro e wb16 ⟨hb16, ar16, cr16, rfl, -⟩
  have HB16 : Hid (Below w.heap.size w wb16) := hid ((below_al HA15.out (by have := (HA15.out).size; (try simp only [size_al]); omega) _).trans (hb16.mono (by have := (HA15.out).size; (try simp only [size_al]); omega)))
  clear hb16
  go_wp2_with fail
  refine (law04_three _).mono ?_
  rintro e wa17 ⟨a17, c17, rfl, hr17, hb17⟩
  have HA17 : Hid (Below w.heap.size w wa17) := hid (HB16.out.trans (hb17.mono HB16.out.size))
  have HR17 := hid hr17
  clear hr17 hb17
  go_wp2_with fail
  refine (prop_UnitsN 3 a17 threeF 3 c17 (some ⟨wa17.heap.size, 0, none⟩) [0] 1 1 [] false 3 _ pn_e1 rfl rfl fok_three (HR17.out.below (below_al (Below.refl wa17.heap.size wa17) (by have := ((Below.refl wa17.heap.size wa17)).size; (try simp only [size_al]); omega) _)) (slv_at (vs := ints [0]) (e := 3) (m := (0, 0)) (by simp only [heap_al, Array.getElem?_push]; rw [if_pos trivial]; try rfl)) (by decide) (by decide)).mono ?_
  rintro e wb18 ⟨hb18, ar18, cr18, rfl, -⟩
  have HB18 : Hid (Below w.heap.size w wb18) := hid ((below_al HA17.out (by have := (HA17.out).size; (try simp only [size_al]); omega) _).trans (hb18.mono (by have := (HA17.out).size; (try simp only [size_al]); omega)))
  clear hb18
  go_wp2_with fail
  refine (law04_three _).mono ?_
  rintro e wa19 ⟨a19, c19, rfl, hr19, hb19⟩
  have HA19 : Hid (Below w.heap.size w wa19) := hid (HB18.out.trans (hb19.mono HB18.out.size))
  have HR19 := hid hr19
  clear hr19 hb19
  go_wp2_with fail
  refine (prop_UnitsN 3 a19 threeF 3 c19 (some ⟨wa19.heap.size, 0, none⟩) [1, -1, -9223372036854775808] 3 3 [] false 3 _ pn_e2 rfl rfl fok_three (HR19.out.below (below_al (Below.refl wa19.heap.size wa19) (by have := ((Below.refl wa19.heap.size wa19)).size; (try simp only [size_al]); omega) _)) (slv_at (vs := ints [1, -1, -9223372036854775808]) (e := 3) (m := (0, 0)) (by simp only [heap_al, Array.getElem?_push]; rw [if_pos trivial]; try rfl)) (by decide) (by decide)).mono ?_
  rintro e wb20 ⟨hb20, ar20, cr20, rfl, -⟩
  have HB20 : Hid (Below w.heap.size w wb20) := hid ((below_al HA19.out (by have := (HA19.out).size; (try simp only [size_al]); omega) _).trans (hb20.mono (by have := (HA19.out).size; (try simp only [size_al]); omega)))
  clear hb20
  go_wp2_with fail
  refine (law04_unitsT 2 (some ⟨wb20.heap.size + 1, 0, none⟩) [[1, -1]] 1 1 (some ⟨wb20.heap.size + 1 + 1, 0, none⟩) [-2] 1 1 (some ⟨wb20.heap.size + 1 + 1 + 1, 0, none⟩) [-2] 1 1 _ pn_u4 rfl rfl rfl (by intro c hc; simp at hc; subst hc; simp [I64]) (rws_one (e := 22) (m := (0, 0)) (b1 := wb20.heap.size) (n := 2) (by simp only [heap_al, Array.getElem?_push, Array.size_push]; rw [if_neg (by omega)]; rw [if_neg (by omega)]; rw [if_pos trivial]; try rfl) (sli_of_block (xs := [1, -1]) (e := 3) (m := (0, 0)) (by simp only [heap_al, Array.getElem?_push, Array.size_push]; rw [if_neg (by omega)]; rw [if_neg (by omega)]; rw [if_neg (by omega)]; rw [if_pos trivial]; try rfl) rfl)) (slv_at (vs := ints [-2]) (e := 3) (m := (0, 0)) (by simp only [heap_al, Array.getElem?_push, Array.size_push]; rw [if_pos trivial]; try rfl)) (slv_at (vs := ints [-2]) (e := 3) (m := (0, 0)) (by simp only [heap_al, Array.getElem?_push, Array.size_push]; rw [if_neg (by omega)]; rw [if_pos trivial]; try rfl)) (by decide) (by decide)).mono ?_
  rintro e wb21 ⟨rfl, hb21⟩
  have HB21 : Hid (Below w.heap.size w wb21) := hid ((below_al (below_al (below_al (below_al HB20.out (by have := (HB20.out).size; (try simp only [size_al]); omega) _) (by have := (HB20.out).size; (try simp only [size_al]); omega) _) (by have := (HB20.out).size; (try simp only [size_al]); omega) _) (by have := (HB20.out).size; (try simp only [size_al]); omega) _).trans (hb21.mono (by have := (HB20.out).size; (try simp only [size_al]); omega)))
  clear hb21
  go_wp2_with fail
  refine (law04_known _).mono ?_
  rintro e wz ⟨rfl, hz⟩
  have HZ : Hid (Below w.heap.size w wz) := hid (HB21.out.trans (hz.mono HB21.out.size))
  clear hz
  go_wp2_with fail
  go_ret
  exact ⟨rfl, HZ.out⟩

end Go.Proofs.Ytfgaglgaofceiaa.Ord
