/- The walk of SolveNames. -/
import Derived.Test.YtfofabbnbmieoaaQWSolO

namespace Go.Proofs.Ytfofabbnbmieoaa.Ord
open Go.RowKit

theorem ans_e0 : ansV 0 [] = 1 := ansV_sat ⟨[], rfl, nofun⟩
theorem ans_e5 : ansV 5 [] = 1 := ansV_sat ⟨[true, true, true, true, true], rfl, nofun⟩
theorem ans_y : ansV 0 [[]] = 2 := ansV_un (by
  rintro ⟨m, hm, hh⟩
  have := hh [] (by simp)
  simp [holdsB] at this)
theorem ans_z : ansV 1 [[1], [-1]] = 2 := ansV_un (by
  rintro ⟨m, hm, hh⟩
  match m, hm with
  | [a], _ => cases a <;> revert hh <;> decide)

theorem SolOk.m1 {n : Nat} {F : List (List Int)} {M : List Bool} {P : List (List Int)} (h : SolOk n F 1 M P) : M.length = n := by
  generalize ha : (1 : Int) = a at h
  cases h with
  | sat h1 _ => exact h1
  | unsat _ _ _ _ => cases ha
  | unk => cases ha

theorem SolOk.p2 {n : Nat} {F : List (List Int)} {M : List Bool} {P : List (List Int)} (h : SolOk n F 2 M P) : 0 < P.length := by
  generalize ha : (2 : Int) = a at h
  cases h with
  | sat _ _ => cases ha
  | unsat h1 _ _ _ =>
    refine Nat.pos_of_ne_zero fun e => ?_
    have : P = [] := List.eq_nil_of_length_eq_zero e
    subst this
    simp [rupI, rupGo] at h1
  | unk => cases ha

set_option maxRecDepth 100000 in
set_option maxHeartbeats 8000000 in
theorem walk_SolveNames (w : World) :
    Calls Try.prog 10 #[] w fun e w' => e = .returned (.bool true) ∧ Below w.heap.size w w' := by
  have HX := hid (solve_Solve0 0 none [] 0 0 1 w ans_e0 rfl nofun (rws_nil _) (by decide) (by decide))
  go_enter Try.func10, Try.ntmps10
  go_wp2_with fail
  refine HX.out.mono ?_
  rintro e a1 ⟨M1, P1, am1, ap1, ml1, pl1, cm1, cp1, rfl, hml1, hpl1, hok1, -, -, hb1⟩
  have hm1 : ml1 = 0 := hml1.trans hok1.m1
  subst hm1
  clear hml1 hpl1 hok1 HX
  obtain ⟨b1, hw1⟩ : ∃ t, a1.alloc (.cells #[.int .u8 1, .slice am1 0 cm1, .slice ap1 pl1 cp1] 51 (0, 0)) = t := ⟨_, rfl⟩
  obtain ⟨hbb1, hs1, z1⟩ := box1 a1 _ hw1
  have H1 := hid (And.intro (hb1.trans (hbb1.mono hb1.size)) (And.intro hs1 z1))
  clear hb1 hbb1 hs1 z1
  go_wp2_with fail
  -- the formula of one empty clause
  have hl2 := allocs_spec [.cells (ints []).toArray 3 (0, 0), .cells #[.slice (some ⟨b1.heap.size, 0, none⟩) 0 0] 22 (0, 0)] b1
  obtain ⟨c1, hc1⟩ : ∃ t, allocs b1 [.cells (ints []).toArray 3 (0, 0), .cells #[.slice (some ⟨b1.heap.size, 0, none⟩) 0 0] 22 (0, 0)] = t := ⟨_, rfl⟩
  change Calls Try.prog _ _ (allocs b1 [.cells (ints []).toArray 3 (0, 0), .cells #[.slice (some ⟨b1.heap.size, 0, none⟩) 0 0] 22 (0, 0)]) _
  rw [hc1] at hl2 ⊢
  have hr2 : Rws c1 (some ⟨b1.heap.size + 1, 0, none⟩) [[]] := rws_blocks (vs := [.slice (some ⟨b1.heap.size, 0, none⟩) 0 0]) (hl2.2.2 1 _ rfl) fun j c hj => by
    match j, hj with
    | 0, hj => injection hj with hj; subst hj; exact ⟨_, rfl, hl2.2.2 0 _ rfl⟩
    | j + 1, hj => cases hj
  refine (solve_Solve0 0 (some ⟨b1.heap.size + 1, 0, none⟩) [[]] 1 1 2 c1 ans_y rfl (fun c hc => by simp at hc; subst hc; exact ⟨nofun, by simp⟩) hr2 (by decide) (by decide)).mono ?_
  rintro e a2 ⟨M2, P2, am2, ap2, ml2, pl2, cm2, cp2, rfl, -, hpl2, hok2, -, -, hb2⟩
  have hp2 : 0 < pl2 := by rw [hpl2]; exact hok2.p2
  have hp2i : (0 : Int) < pl2 := by omega
  obtain ⟨b2, hw2⟩ : ∃ t, a2.alloc (.cells #[.int .u8 2, .slice am2 ml2 cm2, .slice ap2 pl2 cp2] 51 (0, 0)) = t := ⟨_, rfl⟩
  obtain ⟨hbb2, hs2, z2⟩ := box1 a2 _ hw2
  have hb12 := (hl2.1.trans (hb2.mono hl2.1.size)).trans (hbb2.mono (Nat.le_trans hl2.1.size hb2.size))
  have H2 := hid (And.intro hb12 (And.intro hs2 z2))
  clear hpl2 hok2 hb2 hbb2 hs2 z2 hl2 hr2 hb12 hc1
  go_wp2_with fail
  -- two clauses of one literal
  have hl3 := allocs_spec [.cells (ints [1]).toArray 3 (0, 0), .cells (ints [-1]).toArray 3 (0, 0), .cells #[.slice (some ⟨b2.heap.size, 0, none⟩) 1 1, .slice (some ⟨b2.heap.size + 1, 0, none⟩) 1 1] 22 (0, 0)] b2
  obtain ⟨c2, hc2⟩ : ∃ t, allocs b2 [.cells (ints [1]).toArray 3 (0, 0), .cells (ints [-1]).toArray 3 (0, 0), .cells #[.slice (some ⟨b2.heap.size, 0, none⟩) 1 1, .slice (some ⟨b2.heap.size + 1, 0, none⟩) 1 1] 22 (0, 0)] = t := ⟨_, rfl⟩
  change Calls Try.prog _ _ (allocs b2 [.cells (ints [1]).toArray 3 (0, 0), .cells (ints [-1]).toArray 3 (0, 0), .cells #[.slice (some ⟨b2.heap.size, 0, none⟩) 1 1, .slice (some ⟨b2.heap.size + 1, 0, none⟩) 1 1] 22 (0, 0)]) _
  rw [hc2] at hl3 ⊢
  have hr3 : Rws c2 (some ⟨b2.heap.size + 2, 0, none⟩) [[1], [-1]] := rws_blocks (vs := [.slice (some ⟨b2.heap.size, 0, none⟩) 1 1, .slice (some ⟨b2.heap.size + 1, 0, none⟩) 1 1]) (hl3.2.2 2 _ rfl) fun j c hj => by
    match j, hj with
    | 0, hj => injection hj with hj; subst hj; exact ⟨_, rfl, hl3.2.2 0 _ rfl⟩
    | 1, hj => injection hj with hj; subst hj; exact ⟨_, rfl, hl3.2.2 1 _ rfl⟩
    | j + 2, hj => cases hj
  refine (solve_Solve0 1 (some ⟨b2.heap.size + 2, 0, none⟩) [[1], [-1]] 2 2 2 c2 ans_z rfl (fun c hc => by simp at hc; rcases hc with rfl | rfl <;> exact ⟨by simp [I64], by simp⟩) hr3 (by decide) (by decide)).mono ?_
  rintro e a3 ⟨M3, P3, am3, ap3, ml3, pl3, cm3, cp3, rfl, -, -, -, -, -, hb3⟩
  obtain ⟨b3, hw3⟩ : ∃ t, a3.alloc (.cells #[.int .u8 2, .slice am3 ml3 cm3, .slice ap3 pl3 cp3] 51 (0, 0)) = t := ⟨_, rfl⟩
  obtain ⟨hbb3, hs3, z3⟩ := box1 a3 _ hw3
  have hb23 := (hl3.1.trans (hb3.mono hl3.1.size)).trans (hbb3.mono (Nat.le_trans hl3.1.size hb3.size))
  have H3 := hid (And.intro hb23 (And.intro hs3 z3))
  clear hb3 hbb3 hs3 z3 hl3 hr3 hb23 hc2
  go_wp2_with fail
  -- what is refused
  refine (solve_SolveR 0 none [] 0 0 (-1) 3 b3 (by decide) (by decide) rfl nofun (rws_nil _) (by decide)).mono ?_
  rintro e a4 ⟨rfl, hb4⟩
  have hbb4 := (box1 a4 (.cells #[.int .u8 0, .slice none 0 0, .slice none 0 0] 51 (0, 0)) rfl).1
  have H4 := hid (hb4.trans (hbb4.mono hb4.size))
  clear hb4 hbb4
  go_wp2_with fail
  refine (solve_SolveR 0 none [] 0 0 1099511627777 3 _ (by decide) (by decide) rfl nofun (rws_nil _) (by decide)).mono ?_
  rintro e a5 ⟨rfl, hb5⟩
  have hbb5 := (box1 a5 (.cells #[.int .u8 0, .slice none 0 0, .slice none 0 0] 51 (0, 0)) rfl).1
  have H5 := hid (H4.out.trans ((hb5.trans (hbb5.mono hb5.size)).mono H4.out.size))
  clear hb5 hbb5
  go_wp2_with fail
  refine (solve_SolveR (-1) none [] 0 0 (-1) 3 _ (by decide) (by decide) rfl nofun (rws_nil _) (by decide)).mono ?_
  rintro e a6 ⟨rfl, hb6⟩
  have hbb6 := (box1 a6 (.cells #[.int .u8 0, .slice none 0 0, .slice none 0 0] 51 (0, 0)) rfl).1
  have H6 := hid (H5.out.trans ((hb6.trans (hbb6.mono hb6.size)).mono H5.out.size))
  clear hb6 hbb6
  go_wp2_with fail
  refine (solve_SolveN 5 none [] 0 0 1 _ rfl nofun (rws_nil _) (by decide) (by decide) (by decide) (by decide)).mono ?_
  rintro e a7 ⟨A7, M7, P7, am7, ap7, ml7, pl7, cm7, cp7, rfl, hml7, -, hok7, hans7, -, -, hb7⟩
  have hA7 : A7 = 1 := (hok7.ans (hans7 (.inr rfl))).trans ans_e5
  subst hA7
  have hm7 : ml7 = 5 := hml7.trans hok7.m1
  subst hm7
  clear hml7 hok7 hans7
  obtain ⟨b7, hw7⟩ : ∃ t, a7.alloc (.cells #[.int .u8 1, .slice am7 5 cm7, .slice ap7 pl7 cp7] 51 (0, 0)) = t := ⟨_, rfl⟩
  obtain ⟨hbb7, hs7, z7⟩ := box1 a7 _ hw7
  have hb37 := H6.out.trans ((hb7.trans (hbb7.mono hb7.size)).mono H6.out.size)
  have hb27 := H3.out.1.trans (hb37.mono H3.out.1.size)
  have hb17 := H2.out.1.trans (hb27.mono H2.out.1.size)
  have k1 := fun i => cell_of_row b7 a1.heap.size i _ _ _ ((hb17.block _ (by have := H1.out.2.1; omega)).trans H1.out.2.2)
  have k2 := fun i => cell_of_row b7 a2.heap.size i _ _ _ ((hb27.block _ (by have := H2.out.2.1; omega)).trans H2.out.2.2)
  have k3 := fun i => cell_of_row b7 a3.heap.size i _ _ _ ((hb37.block _ (by have := H3.out.2.1; omega)).trans H3.out.2.2)
  have k7 := fun i => cell_of_row b7 a7.heap.size i _ _ _ z7
  have HB := hid (H1.out.1.trans (hb17.mono H1.out.1.size))
  clear hb7 hbb7 hs7 z7 hb37 hb27 hb17
  go_wp2_with (go_at_call 30; refine (law07_known _).mono ?_; rintro e w' ⟨rfl, hb⟩)
  go_ret
  exact ⟨rfl, HB.out.trans (hb.mono HB.out.size)⟩

end Go.Proofs.Ytfofabbnbmieoaa.Ord
