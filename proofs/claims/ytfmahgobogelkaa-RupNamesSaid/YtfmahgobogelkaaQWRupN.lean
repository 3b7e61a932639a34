/- The walk of RupNames. -/
import Derived.Test.YtfmahgobogelkaaQ13

namespace Go.Proofs.Ytfmahgobogelkaa.Ord
open Go.RowKit

attribute [local go_sem ↓] Go.wp_at_zero Go.wp_at_succ
attribute [local go_sem ↓ high] app_mark

theorem rws_takeN {w : World} {a : Option Addr} {f : List (List Int)} (h : Rws w a f) (k : Nat) : Rws w a (f.take k) := fun j c hj => by
  have hl := (List.getElem?_eq_some_iff.1 hj).1
  rw [List.length_take] at hl
  rw [List.getElem?_take_of_lt (by omega)] at hj
  exact h j c hj

theorem rn_four : FOk fourF := fok_four
theorem rn_g : FOk (fourF.take 3) := fun d hd => fok_four d (List.mem_of_mem_take hd)
theorem imp_bad {n : Nat} {F : List (List Int)} {c : List Int} (K : List Int) (h : cnfCheck n F = 0) (h1 : litCheck n c = 0) (hk : badOk F (negs c) K = true) : impV n F c = (true, 0) := by
  rw [impV_ok h h1, upF_true.2 (badOk_sound hk)]
theorem imp_closed {n : Nat} {F : List (List Int)} {c : List Int} (K : List Int) (h : cnfCheck n F = 0) (h1 : litCheck n c = 0) (hk : closedOk F (negs c) K = true) : impV n F c = (false, 0) := by
  rw [impV_ok h h1]
  rw [((closedOk_sound hk).up n).2]
theorem rn_i0 : impV ((2 : Nat) : Int) fourF [1] = (true, 0) := imp_bad [2, -2, -1] (by decide) (by decide) (by decide)
theorem rn_i1 : impV ((2 : Nat) : Int) fourF [] = (false, 0) := imp_closed [] (by decide) (by decide) (by decide)
theorem rn_i2 : impV ((2 : Nat) : Int) (fourF.take 3) [-1] = (false, 0) := imp_closed [2, 1] (by decide) (by decide) (by decide)
theorem rn_i3 : impV ((2 : Nat) : Int) (fourF.take 3) [1, -1] = (true, 0) := imp_bad [1, -1] (by decide) (by decide) (by decide)
theorem rn_i4 : impV ((2 : Nat) : Int) (fourF.take 3) [2] = (true, 0) := imp_bad [1, -1, -2] (by decide) (by decide) (by decide)

theorem up_false {F : List (List Int)} {A : List Int} (K : List Int) (hk : closedOk F A K = true) : upF F A = false := ((closedOk_sound hk).up 1).2
theorem rn_a : rupV ((2 : Nat) : Int) fourF [[]] = (0, 0) := rupV_at (k := 0) (c := []) (rupErr_ok (by decide) (by decide)) (fun i c hi => by omega) rfl (up_false [] (by decide))
theorem rn_b : rupV ((2 : Nat) : Int) fourF [[1]] = (1, 0) := by
  rw [rupV_all (rupErr_ok (by decide) (by decide)) fun i c hi hc => ?_]
  · rfl
  · match i, hc with
    | 0, hc => simp at hc; subst hc; simpa using upF_true.2 (badOk_sound (C := fourF) (A := negs [1]) (K := [2, -2, -1]) (by decide))
    | i + 1, hc => simp at hc
theorem rn_c : rupV ((2 : Nat) : Int) fourF [] = (0, 0) := by
  rw [rupV_all (rupErr_ok (by decide) (by decide)) fun i c hi => by simp at hi]
  rfl
theorem rn_d : rupV ((2 : Nat) : Int) (fourF.take 3) [[1], []] = (1, 0) := rupV_at (k := 1) (c := []) (rupErr_ok (by decide) (by decide)) (fun i c hi hc => by
  have : i = 0 := by omega
  subst this
  simp at hc
  subst hc
  simpa using upF_true.2 (badOk_sound (C := fourF.take 3) (A := negs [1]) (K := [2, -2, -1]) (by decide))) rfl (up_false [2, 1] (by decide))
theorem rn_k : rupV ((2 : Nat) : Int) fourF [[3]] = (0, 3) := rupV_err (rupErr_at (k := 0) (c := [3]) (by decide) (by decide) rfl (by decide) (by decide)) (by decide)
theorem rn_l : impV ((2 : Nat) : Int) fourF [0] = (false, 3) := impV_lit (by decide) (by decide) (by decide)
theorem rn_m : rupV ((2 : Nat) : Int) fourF [[-2], [], [0]] = (0, 3) := rupV_err (rupErr_at (k := 2) (c := [0]) (by decide) (by decide) rfl (by decide) (by decide)) (by decide)

theorem sli_nil (w : World) : SlI w (.slice none 0 0) [] := ⟨none, 0, rfl, Nat.le_refl _, fun _ => rfl, fun j v hv => by simp [ints] at hv⟩

theorem rws_list {w : World} {b : Nat} {e : TypeId} {m : Nat × Nat} {vs : List Value} {P : List (List Int)} (h : w.heap[b]? = some (.cells vs.toArray e m)) (hl : vs.length = P.length) (hv : ∀ (j : Nat) (c : List Int) (v : Value), P[j]? = some c → vs[j]? = some v → SlI w v c) : Rws w (some ⟨b, 0, none⟩) P := by
  intro j c hj
  have hjl := (List.getElem?_eq_some_iff.1 hj).1
  have hg : vs[j]? = some vs[j] := List.getElem?_eq_getElem (by omega)
  obtain ⟨b', off, e1, e2⟩ := slv_at h j _ hg
  exact ⟨b', off, _, e1, e2, hv j c _ hj hg⟩

theorem rws_1 {w : World} {b : Nat} {e : TypeId} {m : Nat × Nat} {v : Value} {c : List Int} (h : w.heap[b]? = some (.cells #[v] e m)) (h1 : SlI w v c) : Rws w (some ⟨b, 0, none⟩) [c] := rws_list (vs := [v]) h rfl fun j c v hj hv => by
  match j, hj, hv with
  | 0, hj, hv => simp at hj hv; subst hj hv; exact h1
  | j + 1, hj, _ => simp at hj

theorem rws_2 {w : World} {b : Nat} {e : TypeId} {m : Nat × Nat} {v v2 : Value} {c c2 : List Int} (h : w.heap[b]? = some (.cells #[v, v2] e m)) (h1 : SlI w v c) (h2 : SlI w v2 c2) : Rws w (some ⟨b, 0, none⟩) [c, c2] := rws_list (vs := [v, v2]) h rfl fun j c v hj hv => by
  match j, hj, hv with
  | 0, hj, hv => simp at hj hv; subst hj hv; exact h1
  | 1, hj, hv => simp at hj hv; subst hj hv; exact h2
  | j + 2, hj, _ => simp at hj

theorem rws_3 {w : World} {b : Nat} {e : TypeId} {m : Nat × Nat} {v v2 v3 : Value} {c c2 c3 : List Int} (h : w.heap[b]? = some (.cells #[v, v2, v3] e m)) (h1 : SlI w v c) (h2 : SlI w v2 c2) (h3 : SlI w v3 c3) : Rws w (some ⟨b, 0, none⟩) [c, c2, c3] := rws_list (vs := [v, v2, v3]) h rfl fun j c v hj hv => by
  match j, hj, hv with
  | 0, hj, hv => simp at hj hv; subst hj hv; exact h1
  | 1, hj, hv => simp at hj hv; subst hj hv; exact h2
  | 2, hj, hv => simp at hj hv; subst hj hv; exact h3
  | j + 3, hj, _ => simp at hj

set_option maxRecDepth 100000 in
set_option maxHeartbeats 8000000 in
theorem walk_RupNames (w : World) :
    Calls Try.prog 10 #[] w fun e w' => e = .returned (.bool true) ∧ Below w.heap.size w w' := by
  obtain ⟨Q, hQ⟩ : ∃ Q : Ending → World → Prop, (fun e w' => e = .returned (.bool true) ∧ Below w.heap.size w w') = Q := ⟨_, rfl⟩
  rw [hQ]
  have HQ : Hid (∀ w', Below w.heap.size w w' → Q (.returned (.bool true)) w') := hid fun w' hw => by rw [← hQ]; exact ⟨rfl, hw⟩
  clear hQ
  go_enter Try.func10, Try.ntmps10
  go_wp2_with fail
  refine (law05_four w).mono ?_
  rintro e w1 ⟨a1, c1, rfl, hc1, hr1, hb1⟩
  have HB1 := hid hb1
  have HR1 := hid hr1
  have hrun := slice_headG (P := Try.prog) (t := 32) (e := 22) (a := some a1) (n := 4) (c := c1) (k := 3) Try.underlying32 (fun wx => by kernel_rfl) (by omega) (by omega)
  rw [show ((3 : Int)).toNat = 3 by omega] at hrun
  clear hb1 hr1
  go_wp2_with fail
  have hfb : (World.alloc w1 (.cells #[.int .i64 2, .slice (some a1) 3 c1] 34)) = w1.alloc (fbox 2 (some a1) 3 c1) := rfl
  rw [hfb]
  clear hfb
  have hb2 : Below w.heap.size w (w1.alloc (fbox 2 (some a1) 3 c1)) := below_al HB1.out HB1.out.size _
  have hr2 : Rws (w1.alloc (fbox 2 (some a1) 3 c1)) (some a1) fourF := HR1.out.below (box_below w1 _)
  have hx2 : (w1.alloc (fbox 2 (some a1) 3 c1)).heap[w1.heap.size]? = some (fbox 2 (some a1) 3 c1) := heap_alloc_new _ _
  generalize w1.alloc (fbox 2 (some a1) 3 c1) = w2 at hb2 hr2 hx2 ⊢
  generalize w1.heap.size = b1 at hx2 ⊢
  have p0 : w2.cell? ⟨b1, 0, none⟩ = some (.int .i64 2) := fit_cell (vs := [.int .i64 2, .slice (some a1) 3 c1]) hx2 0
  have p1 : w2.cell? ⟨b1, 1, none⟩ = some (.slice (some a1) 3 c1) := fit_cell (vs := [.int .i64 2, .slice (some a1) 3 c1]) hx2 1
  have HP := hid (And.intro p0 p1)
  have HB2 := hid hb2
  have HR2 := hid hr2
  have HC1 := hid (fun wz (hz : Below w2.heap.size w2 wz) => law05_four wz)
  clear hb2 hr2 hx2 hrun
  go_cut [2] (fun s2 wz => ∃ bF a2 c2 a3 c3, s2 = .slice (some ⟨bF, 0, none⟩) 5 5 ∧ Hid (4 ≤ c2 ∧ 4 ≤ c3 ∧ Rws wz (some a2) fourF ∧ Rws wz (some a3) fourF ∧ Below w2.heap.size w2 wz ∧ wz.heap[bF]? = some (.cells #[.int .i64 2, .slice (some a2) 4 c2, .int .i64 2, .slice (some a3) 4 c3, .int .i64 2, .slice (some a1) 3 c1, .int .i64 2, .slice (some a1) 3 c1, .int .i64 2, .slice (some a1) 3 c1] 34)))
  case first =>
    go_region_held3 (fun y => y.cell? ⟨b1, 0, none⟩ = some (.int .i64 2) ∧ y.cell? ⟨b1, 1, none⟩ = some (.slice (some a1) 3 c1)) (first | exact ⟨‹_›, ‹_›⟩ | go_keep)
      (first
        | (go_at_call 49; refine (HC1.out _ (by first | exact Below.refl _ _ | exact (Below.refl _ _).drew)).mono ?_; rintro e w3 ⟨a2, c2, rfl, hc2, hr3, hb3⟩; have hb3 : Below w2.heap.size w2 w3 := (by first | exact hb3 | exact (Below.refl w2.heap.size w2).drew.trans hb3); have HB3 := hid hb3; have HR3 := hid hr3; have HC2 := hid hc2; have q0 := below_keeps hb3 _ _ p0; have q1 := below_keeps hb3 _ _ p1; clear hb3 hr3)
        | (go_at_call 49; refine (law05_four _).mono ?_; rintro e w4 ⟨a3, c3, rfl, hc3, hr4, hb4⟩; have hb4 : Below w3.heap.size w3 w4 := (by first | exact hb4 | exact (Below.refl w3.heap.size w3).drew.trans hb4); have HB4 := hid hb4; have HR4 := hid hr4; have HC3 := hid hc3; have r0 := below_keeps hb4 _ _ q0; have r1 := below_keeps hb4 _ _ q1; clear hb4 hr4))
    all_goals
      go_wp2_with fail
      go_meet
      case rel => exact ⟨w4.heap.size, a2, c2, a3, c3, rfl, hid ⟨HC2.out, HC3.out, (HR3.out.below HB4.out).below (box_below _ _), HR4.out.below (box_below _ _), below_al (HB3.out.trans (HB4.out.mono HB3.out.size)) (HB3.out.trans (HB4.out.mono HB3.out.size)).size _, heap_alloc_new _ _⟩⟩
  case rest =>
    obtain ⟨bF, a2, c2, a3, c3, rfl, HF⟩ := hcut
    clear p0 p1
    obtain ⟨W, hW⟩ : ∃ W, ((((((wc.alloc (.cells #[.int .i64 1] 3)).alloc (.cells #[.int .i64 (-1)] 3)).alloc (.cells #[.int .i64 1, .int .i64 (-1)] 3)).alloc (.cells #[.int .i64 2] 3)).alloc (.cells #[.slice (some ⟨wc.heap.size, 0, none⟩) 1 1, .slice none 0 0, .slice (some ⟨wc.heap.size + 1, 0, none⟩) 1 1, .slice (some ⟨wc.heap.size + 1 + 1, 0, none⟩) 2 2, .slice (some ⟨wc.heap.size + 1 + 1 + 1, 0, none⟩) 1 1] 22)).alloc (.cells #[.bool true, .bool false, .bool false, .bool true, .bool true] 4)) = W := ⟨_, rfl⟩
    have hbW : Below wc.heap.size wc W := by rw [← hW]; exact (below_al (below_al (below_al (below_al (below_al (below_al (Below.refl wc.heap.size wc) (Nat.le_refl _) _) (by (try simp only [size_al]); omega) _) (by (try simp only [size_al]); omega) _) (by (try simp only [size_al]); omega) _) (by (try simp only [size_al]); omega) _) (by (try simp only [size_al]); omega) _)
    have hW0 : W.heap[wc.heap.size]? = some (.cells #[.int .i64 1] 3) := by rw [← hW]; simp only [heap_al, Array.getElem?_push, Array.size_push]; rw [if_neg (by omega)]; rw [if_neg (by omega)]; rw [if_neg (by omega)]; rw [if_neg (by omega)]; rw [if_neg (by omega)]; rw [if_pos trivial]
    have hW1 : W.heap[wc.heap.size + 1]? = some (.cells #[.int .i64 (-1)] 3) := by rw [← hW]; simp only [heap_al, Array.getElem?_push, Array.size_push]; rw [if_neg (by omega)]; rw [if_neg (by omega)]; rw [if_neg (by omega)]; rw [if_neg (by omega)]; rw [if_pos trivial]
    have hW2 : W.heap[wc.heap.size + 1 + 1]? = some (.cells #[.int .i64 1, .int .i64 (-1)] 3) := by rw [← hW]; simp only [heap_al, Array.getElem?_push, Array.size_push]; rw [if_neg (by omega)]; rw [if_neg (by omega)]; rw [if_neg (by omega)]; rw [if_pos trivial]
    have hW3 : W.heap[wc.heap.size + 1 + 1 + 1]? = some (.cells #[.int .i64 2] 3) := by rw [← hW]; simp only [heap_al, Array.getElem?_push, Array.size_push]; rw [if_neg (by omega)]; rw [if_neg (by omega)]; rw [if_pos trivial]
    have hW4 : W.heap[wc.heap.size + 1 + 1 + 1 + 1]? = some (.cells #[.slice (some ⟨wc.heap.size, 0, none⟩) 1 1, .slice none 0 0, .slice (some ⟨wc.heap.size + 1, 0, none⟩) 1 1, .slice (some ⟨wc.heap.size + 1 + 1, 0, none⟩) 2 2, .slice (some ⟨wc.heap.size + 1 + 1 + 1, 0, none⟩) 1 1] 22) := by rw [← hW]; simp only [heap_al, Array.getElem?_push, Array.size_push]; rw [if_neg (by omega)]; rw [if_pos trivial]
    have hW5 : W.heap[wc.heap.size + 1 + 1 + 1 + 1 + 1]? = some (.cells #[.bool true, .bool false, .bool false, .bool true, .bool true] 4) := by rw [← hW]; simp only [heap_al, Array.getElem?_push, Array.size_push]; rw [if_pos trivial]
    go_wp2_with fail
    try rw [hW]
    clear hW
    generalize wc.heap.size + 1 + 1 + 1 + 1 + 1 = g5 at hW5 ⊢
    generalize wc.heap.size + 1 + 1 + 1 + 1 = g4 at hW4 ⊢
    generalize wc.heap.size + 1 + 1 + 1 = g3 at hW3 hW4 ⊢
    generalize wc.heap.size + 1 + 1 = g2 at hW2 hW4 ⊢
    generalize wc.heap.size + 1 = g1 at hW1 hW4 ⊢
    have HBW := hid (HF.out.2.2.2.2.1.trans (hbW.mono HF.out.2.2.2.2.1.size))
    have hfW : W.heap[bF]? = some (.cells #[.int .i64 2, .slice (some a2) 4 c2, .int .i64 2, .slice (some a3) 4 c3, .int .i64 2, .slice (some a1) 3 c1, .int .i64 2, .slice (some a1) 3 c1, .int .i64 2, .slice (some a1) 3 c1] 34) := (hbW.block bF (Array.getElem?_eq_some_iff.1 HF.out.2.2.2.2.2).1).trans HF.out.2.2.2.2.2
    have HRa := hid (HF.out.2.2.1.below hbW)
    have HRb := hid (HF.out.2.2.2.1.below hbW)
    have HRg := hid (rws_takeN (HR2.out.below HBW.out) 3)
    have HXX := hid (And.intro hfW (And.intro hW0 (And.intro hW1 (And.intro hW2 (And.intro hW3 (And.intro hW4 hW5))))))
    clear hbW hfW hW0 hW1 hW2 hW3 hW4 hW5
    go_loopw [5] (fun s5 wr => ∃ i : Int, s5 = .int .i64 i ∧ 0 ≤ i ∧ i ≤ 5 ∧ Hid (Below W.heap.size W wr)) (fun s5 _ => (5 - (intOf s5)).toNat)
    case atStart => exact ⟨0, rfl, by omega, by omega, hid (Below.refl _ _)⟩
    case round =>
      obtain ⟨i, rfl, h0, h5, HB⟩ := hrel
      rcases (by omega : i = 0 ∨ i = 1 ∨ i = 2 ∨ i = 3 ∨ i = 4 ∨ i = 5) with rfl | rfl | rfl | rfl | rfl | rfl
      · have u0 := below_keeps HB.out ⟨bF, 0, none⟩ (.int .i64 2) (fit_cell (vs := [.int .i64 2, .slice (some a2) 4 c2, .int .i64 2, .slice (some a3) 4 c3, .int .i64 2, .slice (some a1) 3 c1, .int .i64 2, .slice (some a1) 3 c1, .int .i64 2, .slice (some a1) 3 c1]) HXX.out.1 0)
        have u1 := below_keeps HB.out ⟨bF, 1, none⟩ (.slice (some a2) 4 c2) (fit_cell (vs := [.int .i64 2, .slice (some a2) 4 c2, .int .i64 2, .slice (some a3) 4 c3, .int .i64 2, .slice (some a1) 3 c1, .int .i64 2, .slice (some a1) 3 c1, .int .i64 2, .slice (some a1) 3 c1]) HXX.out.1 1)
        have u2 := below_keeps HB.out ⟨g4, 0, none⟩ (.slice (some ⟨wc.heap.size, 0, none⟩) 1 1) (fit_cell (vs := [.slice (some ⟨wc.heap.size, 0, none⟩) 1 1, .slice none 0 0, .slice (some ⟨g1, 0, none⟩) 1 1, .slice (some ⟨g2, 0, none⟩) 2 2, .slice (some ⟨g3, 0, none⟩) 1 1]) HXX.out.2.2.2.2.2.1 0)
        have u3 := below_keeps HB.out ⟨g5, 0, none⟩ (.bool true) (fit_cell (vs := [.bool true, .bool false, .bool false, .bool true, .bool true]) HXX.out.2.2.2.2.2.2 0)
        have HCALL := hid (fun wz (hz : Below W.heap.size W wz) => rup_ImpliedN 2 (some a2) fourF 4 c2 (some ⟨wc.heap.size, 0, none⟩) [1] 1 1 true 0 wz rn_i0 rfl rfl rn_four (HRa.out.below hz) (by simp [I64]) ((slv_at (vs := ints [1]) (e := 3) (m := (0, 0)) (HXX.out.2.1)).below hz) (by decide) (by decide))
        clear h0 h5
        go_wp2_with fail
        go_region_held3 (fun y => y.cell? ⟨bF, 0, none⟩ = some (.int .i64 2) ∧ y.cell? ⟨bF, 1, none⟩ = some (.slice (some a2) 4 c2) ∧ y.cell? ⟨g4, 0, none⟩ = some (.slice (some ⟨wc.heap.size, 0, none⟩) 1 1) ∧ y.cell? ⟨g5, 0, none⟩ = some (.bool true)) (first | exact ⟨‹_›, ‹_›, ‹_›, ‹_›⟩ | go_keep)
          ((go_at_call 43; refine (HCALL.out _ (by first | exact HB.out | exact HB.out.drew)).mono ?_; rintro e wz ⟨rfl, hbz⟩; have hbz : Below wr.heap.size wr wz := (by first | exact hbz | exact (Below.refl wr.heap.size wr).drew.trans hbz); have HBZ := hid hbz; have z0 := below_keeps hbz _ _ u0; have z1 := below_keeps hbz _ _ u1; have z2 := below_keeps hbz _ _ u2; have z3 := below_keeps hbz _ _ u3; clear hbz))
        all_goals
          go_wp2_with fail
          go_roundw
          case rel => exact ⟨1, rfl, by omega, by omega, hid (HB.out.trans (HBZ.out.mono HB.out.size))⟩
          case measure => simp [intOf]
      · have u0 := below_keeps HB.out ⟨bF, 2, none⟩ (.int .i64 2) (fit_cell (vs := [.int .i64 2, .slice (some a2) 4 c2, .int .i64 2, .slice (some a3) 4 c3, .int .i64 2, .slice (some a1) 3 c1, .int .i64 2, .slice (some a1) 3 c1, .int .i64 2, .slice (some a1) 3 c1]) HXX.out.1 2)
        have u1 := below_keeps HB.out ⟨bF, 3, none⟩ (.slice (some a3) 4 c3) (fit_cell (vs := [.int .i64 2, .slice (some a2) 4 c2, .int .i64 2, .slice (some a3) 4 c3, .int .i64 2, .slice (some a1) 3 c1, .int .i64 2, .slice (some a1) 3 c1, .int .i64 2, .slice (some a1) 3 c1]) HXX.out.1 3)
        have u2 := below_keeps HB.out ⟨g4, 1, none⟩ (.slice none 0 0) (fit_cell (vs := [.slice (some ⟨wc.heap.size, 0, none⟩) 1 1, .slice none 0 0, .slice (some ⟨g1, 0, none⟩) 1 1, .slice (some ⟨g2, 0, none⟩) 2 2, .slice (some ⟨g3, 0, none⟩) 1 1]) HXX.out.2.2.2.2.2.1 1)
        have u3 := below_keeps HB.out ⟨g5, 1, none⟩ (.bool false) (fit_cell (vs := [.bool true, .bool false, .bool false, .bool true, .bool true]) HXX.out.2.2.2.2.2.2 1)
        have HCALL := hid (fun wz (hz : Below W.heap.size W wz) => rup_ImpliedN 2 (some a3) fourF 4 c3 none [] 0 0 false 0 wz rn_i1 rfl rfl rn_four (HRb.out.below hz) (by simp [I64]) (SlV.nil _ _) (by decide) (by decide))
        clear h0 h5
        go_wp2_with fail
        go_region_held3 (fun y => y.cell? ⟨bF, 2, none⟩ = some (.int .i64 2) ∧ y.cell? ⟨bF, 3, none⟩ = some (.slice (some a3) 4 c3) ∧ y.cell? ⟨g4, 1, none⟩ = some (.slice none 0 0) ∧ y.cell? ⟨g5, 1, none⟩ = some (.bool false)) (first | exact ⟨‹_›, ‹_›, ‹_›, ‹_›⟩ | go_keep)
          ((go_at_call 43; refine (HCALL.out _ (by first | exact HB.out | exact HB.out.drew)).mono ?_; rintro e wz ⟨rfl, hbz⟩; have hbz : Below wr.heap.size wr wz := (by first | exact hbz | exact (Below.refl wr.heap.size wr).drew.trans hbz); have HBZ := hid hbz; have z0 := below_keeps hbz _ _ u0; have z1 := below_keeps hbz _ _ u1; have z2 := below_keeps hbz _ _ u2; have z3 := below_keeps hbz _ _ u3; clear hbz))
        all_goals
          go_wp2_with fail
          go_roundw
          case rel => exact ⟨2, rfl, by omega, by omega, hid (HB.out.trans (HBZ.out.mono HB.out.size))⟩
          case measure => simp [intOf]
      · have u0 := below_keeps HB.out ⟨bF, 4, none⟩ (.int .i64 2) (fit_cell (vs := [.int .i64 2, .slice (some a2) 4 c2, .int .i64 2, .slice (some a3) 4 c3, .int .i64 2, .slice (some a1) 3 c1, .int .i64 2, .slice (some a1) 3 c1, .int .i64 2, .slice (some a1) 3 c1]) HXX.out.1 4)
        have u1 := below_keeps HB.out ⟨bF, 5, none⟩ (.slice (some a1) 3 c1) (fit_cell (vs := [.int .i64 2, .slice (some a2) 4 c2, .int .i64 2, .slice (some a3) 4 c3, .int .i64 2, .slice (some a1) 3 c1, .int .i64 2, .slice (some a1) 3 c1, .int .i64 2, .slice (some a1) 3 c1]) HXX.out.1 5)
        have u2 := below_keeps HB.out ⟨g4, 2, none⟩ (.slice (some ⟨g1, 0, none⟩) 1 1) (fit_cell (vs := [.slice (some ⟨wc.heap.size, 0, none⟩) 1 1, .slice none 0 0, .slice (some ⟨g1, 0, none⟩) 1 1, .slice (some ⟨g2, 0, none⟩) 2 2, .slice (some ⟨g3, 0, none⟩) 1 1]) HXX.out.2.2.2.2.2.1 2)
        have u3 := below_keeps HB.out ⟨g5, 2, none⟩ (.bool false) (fit_cell (vs := [.bool true, .bool false, .bool false, .bool true, .bool true]) HXX.out.2.2.2.2.2.2 2)
        have HCALL := hid (fun wz (hz : Below W.heap.size W wz) => rup_ImpliedN 2 (some a1) (fourF.take 3) 3 c1 (some ⟨g1, 0, none⟩) [-1] 1 1 false 0 wz rn_i2 rfl rfl rn_g (HRg.out.below hz) (by simp [I64]) ((slv_at (vs := ints [-1]) (e := 3) (m := (0, 0)) (HXX.out.2.2.1)).below hz) (by decide) (by decide))
        clear h0 h5
        go_wp2_with fail
        go_region_held3 (fun y => y.cell? ⟨bF, 4, none⟩ = some (.int .i64 2) ∧ y.cell? ⟨bF, 5, none⟩ = some (.slice (some a1) 3 c1) ∧ y.cell? ⟨g4, 2, none⟩ = some (.slice (some ⟨g1, 0, none⟩) 1 1) ∧ y.cell? ⟨g5, 2, none⟩ = some (.bool false)) (first | exact ⟨‹_›, ‹_›, ‹_›, ‹_›⟩ | go_keep)
          ((go_at_call 43; refine (HCALL.out _ (by first | exact HB.out | exact HB.out.drew)).mono ?_; rintro e wz ⟨rfl, hbz⟩; have hbz : Below wr.heap.size wr wz := (by first | exact hbz | exact (Below.refl wr.heap.size wr).drew.trans hbz); have HBZ := hid hbz; have z0 := below_keeps hbz _ _ u0; have z1 := below_keeps hbz _ _ u1; have z2 := below_keeps hbz _ _ u2; have z3 := below_keeps hbz _ _ u3; clear hbz))
        all_goals
          go_wp2_with fail
          go_roundw
          case rel => exact ⟨3, rfl, by omega, by omega, hid (HB.out.trans (HBZ.out.mono HB.out.size))⟩
          case measure => simp [intOf]
      · have u0 := below_keeps HB.out ⟨bF, 6, none⟩ (.int .i64 2) (fit_cell (vs := [.int .i64 2, .slice (some a2) 4 c2, .int .i64 2, .slice (some a3) 4 c3, .int .i64 2, .slice (some a1) 3 c1, .int .i64 2, .slice (some a1) 3 c1, .int .i64 2, .slice (some a1) 3 c1]) HXX.out.1 6)
        have u1 := below_keeps HB.out ⟨bF, 7, none⟩ (.slice (some a1) 3 c1) (fit_cell (vs := [.int .i64 2, .slice (some a2) 4 c2, .int .i64 2, .slice (some a3) 4 c3, .int .i64 2, .slice (some a1) 3 c1, .int .i64 2, .slice (some a1) 3 c1, .int .i64 2, .slice (some a1) 3 c1]) HXX.out.1 7)
        have u2 := below_keeps HB.out ⟨g4, 3, none⟩ (.slice (some ⟨g2, 0, none⟩) 2 2) (fit_cell (vs := [.slice (some ⟨wc.heap.size, 0, none⟩) 1 1, .slice none 0 0, .slice (some ⟨g1, 0, none⟩) 1 1, .slice (some ⟨g2, 0, none⟩) 2 2, .slice (some ⟨g3, 0, none⟩) 1 1]) HXX.out.2.2.2.2.2.1 3)
        have u3 := below_keeps HB.out ⟨g5, 3, none⟩ (.bool true) (fit_cell (vs := [.bool true, .bool false, .bool false, .bool true, .bool true]) HXX.out.2.2.2.2.2.2 3)
        have HCALL := hid (fun wz (hz : Below W.heap.size W wz) => rup_ImpliedN 2 (some a1) (fourF.take 3) 3 c1 (some ⟨g2, 0, none⟩) [1, -1] 2 2 true 0 wz rn_i3 rfl rfl rn_g (HRg.out.below hz) (by simp [I64]) ((slv_at (vs := ints [1, -1]) (e := 3) (m := (0, 0)) (HXX.out.2.2.2.1)).below hz) (by decide) (by decide))
        clear h0 h5
        go_wp2_with fail
        go_region_held3 (fun y => y.cell? ⟨bF, 6, none⟩ = some (.int .i64 2) ∧ y.cell? ⟨bF, 7, none⟩ = some (.slice (some a1) 3 c1) ∧ y.cell? ⟨g4, 3, none⟩ = some (.slice (some ⟨g2, 0, none⟩) 2 2) ∧ y.cell? ⟨g5, 3, none⟩ = some (.bool true)) (first | exact ⟨‹_›, ‹_›, ‹_›, ‹_›⟩ | go_keep)
          ((go_at_call 43; refine (HCALL.out _ (by first | exact HB.out | exact HB.out.drew)).mono ?_; rintro e wz ⟨rfl, hbz⟩; have hbz : Below wr.heap.size wr wz := (by first | exact hbz | exact (Below.refl wr.heap.size wr).drew.trans hbz); have HBZ := hid hbz; have z0 := below_keeps hbz _ _ u0; have z1 := below_keeps hbz _ _ u1; have z2 := below_keeps hbz _ _ u2; have z3 := below_keeps hbz _ _ u3; clear hbz))
        all_goals
          go_wp2_with fail
          go_roundw
          case rel => exact ⟨4, rfl, by omega, by omega, hid (HB.out.trans (HBZ.out.mono HB.out.size))⟩
          case measure => simp [intOf]
      · have u0 := below_keeps HB.out ⟨bF, 8, none⟩ (.int .i64 2) (fit_cell (vs := [.int .i64 2, .slice (some a2) 4 c2, .int .i64 2, .slice (some a3) 4 c3, .int .i64 2, .slice (some a1) 3 c1, .int .i64 2, .slice (some a1) 3 c1, .int .i64 2, .slice (some a1) 3 c1]) HXX.out.1 8)
        have u1 := below_keeps HB.out ⟨bF, 9, none⟩ (.slice (some a1) 3 c1) (fit_cell (vs := [.int .i64 2, .slice (some a2) 4 c2, .int .i64 2, .slice (some a3) 4 c3, .int .i64 2, .slice (some a1) 3 c1, .int .i64 2, .slice (some a1) 3 c1, .int .i64 2, .slice (some a1) 3 c1]) HXX.out.1 9)
        have u2 := below_keeps HB.out ⟨g4, 4, none⟩ (.slice (some ⟨g3, 0, none⟩) 1 1) (fit_cell (vs := [.slice (some ⟨wc.heap.size, 0, none⟩) 1 1, .slice none 0 0, .slice (some ⟨g1, 0, none⟩) 1 1, .slice (some ⟨g2, 0, none⟩) 2 2, .slice (some ⟨g3, 0, none⟩) 1 1]) HXX.out.2.2.2.2.2.1 4)
        have u3 := below_keeps HB.out ⟨g5, 4, none⟩ (.bool true) (fit_cell (vs := [.bool true, .bool false, .bool false, .bool true, .bool true]) HXX.out.2.2.2.2.2.2 4)
        have HCALL := hid (fun wz (hz : Below W.heap.size W wz) => rup_ImpliedN 2 (some a1) (fourF.take 3) 3 c1 (some ⟨g3, 0, none⟩) [2] 1 1 true 0 wz rn_i4 rfl rfl rn_g (HRg.out.below hz) (by simp [I64]) ((slv_at (vs := ints [2]) (e := 3) (m := (0, 0)) (HXX.out.2.2.2.2.1)).below hz) (by decide) (by decide))
        clear h0 h5
        go_wp2_with fail
        go_region_held3 (fun y => y.cell? ⟨bF, 8, none⟩ = some (.int .i64 2) ∧ y.cell? ⟨bF, 9, none⟩ = some (.slice (some a1) 3 c1) ∧ y.cell? ⟨g4, 4, none⟩ = some (.slice (some ⟨g3, 0, none⟩) 1 1) ∧ y.cell? ⟨g5, 4, none⟩ = some (.bool true)) (first | exact ⟨‹_›, ‹_›, ‹_›, ‹_›⟩ | go_keep)
          ((go_at_call 43; refine (HCALL.out _ (by first | exact HB.out | exact HB.out.drew)).mono ?_; rintro e wz ⟨rfl, hbz⟩; have hbz : Below wr.heap.size wr wz := (by first | exact hbz | exact (Below.refl wr.heap.size wr).drew.trans hbz); have HBZ := hid hbz; have z0 := below_keeps hbz _ _ u0; have z1 := below_keeps hbz _ _ u1; have z2 := below_keeps hbz _ _ u2; have z3 := below_keeps hbz _ _ u3; clear hbz))
        all_goals
          go_wp2_with fail
          go_roundw
          case rel => exact ⟨5, rfl, by omega, by omega, hid (HB.out.trans (HBZ.out.mono HB.out.size))⟩
          case measure => simp [intOf]
      · clear h0 h5
        have HB5 := hid (HBW.out.trans (HB.out.mono HBW.out.size))
        have HB2W := hid (HB2.out.trans (HB5.out.mono HB2.out.size))
        have g0 := below_keeps HB5.out _ _ HP.out.1
        have g1' := below_keeps HB5.out _ _ HP.out.2
        have HG0 := hid (HRg.out.below HB.out)
        go_wp2_with fail
        refine (law05_four _).mono ?_
        rintro e wx1 ⟨ax1, cx1, rfl, hcx1, hrx1, hbx1⟩
        have HX1 : Hid (Below w.heap.size w wx1) := hid (HB2W.out.trans (hbx1.mono HB2W.out.size))
        have HRX1 := hid hrx1
        have HGx1 := hid (HG0.out.below hbx1)
        have gx1 := below_keeps hbx1 _ _ g0
        have gy1 := below_keeps hbx1 _ _ g1'
        clear hbx1 hrx1
        go_wp2_with fail
        refine (rup_CheckN 2 (some ax1) fourF 4 cx1 (some ⟨wx1.heap.size, 0, none⟩) [[]] 1 1 0 0 _ rn_a rfl rfl fok_four (HRX1.out.below (below_al (Below.refl wx1.heap.size wx1) (by (try simp only [size_al]); omega) _)) (by intro d hd; simp at hd; subst hd; simp) (rws_1 (e := 22) (m := (0, 0)) (by simp only [heap_al, Array.getElem?_push]; rw [if_pos trivial]; try rfl) (sli_nil _)) (by decide) (by decide)).mono ?_
        rintro e wy2 ⟨rfl, hby2⟩
        have hbz2 : Below wx1.heap.size wx1 wy2 := (below_al (Below.refl wx1.heap.size wx1) (by (try simp only [size_al]); omega) _).trans (hby2.mono (by (try simp only [size_al]); omega))
        have HY2 : Hid (Below w.heap.size w wy2) := hid (HX1.out.trans (hbz2.mono HX1.out.size))
        have HGy2 := hid (HGx1.out.below hbz2)
        have gx2 := below_keeps hbz2 _ _ gx1
        have gy2 := below_keeps hbz2 _ _ gy1
        clear hby2 hbz2 gx1 gy1
        go_wp2_with fail
        refine (law05_four _).mono ?_
        rintro e wx3 ⟨ax3, cx3, rfl, hcx3, hrx3, hbx3⟩
        have HX3 : Hid (Below w.heap.size w wx3) := hid (HY2.out.trans (hbx3.mono HY2.out.size))
        have HRX3 := hid hrx3
        have HGx3 := hid (HGy2.out.below hbx3)
        have gx3 := below_keeps hbx3 _ _ gx2
        have gy3 := below_keeps hbx3 _ _ gy2
        clear hbx3 hrx3
        go_wp2_with fail
        refine (rup_CheckN 2 (some ax3) fourF 4 cx3 (some ⟨wx3.heap.size + 1, 0, none⟩) [[1]] 1 1 1 0 _ rn_b rfl rfl fok_four (HRX3.out.below (below_al (below_al (Below.refl wx3.heap.size wx3) (by (try simp only [size_al]); omega) _) (by (try simp only [size_al]); omega) _)) (by intro d hd; simp at hd; subst hd; simp [I64]) (rws_1 (e := 22) (m := (0, 0)) (by simp only [heap_al, Array.getElem?_push, Array.size_push]; rw [if_pos trivial]; try rfl) (sli_of_block (xs := [1]) (e := 3) (m := (0, 0)) (by simp only [heap_al, Array.getElem?_push, Array.size_push]; rw [if_neg (by omega)]; rw [if_pos trivial]; try rfl) rfl)) (by decide) (by decide)).mono ?_
        rintro e wy4 ⟨rfl, hby4⟩
        have hbz4 : Below wx3.heap.size wx3 wy4 := (below_al (below_al (Below.refl wx3.heap.size wx3) (by (try simp only [size_al]); omega) _) (by (try simp only [size_al]); omega) _).trans (hby4.mono (by (try simp only [size_al]); omega))
        have HY4 : Hid (Below w.heap.size w wy4) := hid (HX3.out.trans (hbz4.mono HX3.out.size))
        have HGy4 := hid (HGx3.out.below hbz4)
        have gx4 := below_keeps hbz4 _ _ gx3
        have gy4 := below_keeps hbz4 _ _ gy3
        clear hby4 hbz4 gx3 gy3
        go_wp2_with fail
        refine (law05_four _).mono ?_
        rintro e wx5 ⟨ax5, cx5, rfl, hcx5, hrx5, hbx5⟩
        have HX5 : Hid (Below w.heap.size w wx5) := hid (HY4.out.trans (hbx5.mono HY4.out.size))
        have HRX5 := hid hrx5
        have HGx5 := hid (HGy4.out.below hbx5)
        have gx5 := below_keeps hbx5 _ _ gx4
        have gy5 := below_keeps hbx5 _ _ gy4
        clear hbx5 hrx5
        go_wp2_with fail
        refine (rup_CheckN 2 (some ax5) fourF 4 cx5 none [] 0 0 0 0 _ rn_c rfl rfl fok_four HRX5.out (by intro d hd; simp at hd) (fun j c hj => by simp at hj) (by decide) (by decide)).mono ?_
        rintro e wy6 ⟨rfl, hby6⟩
        have hbz6 : Below wx5.heap.size wx5 wy6 := hby6
        have HY6 : Hid (Below w.heap.size w wy6) := hid (HX5.out.trans (hbz6.mono HX5.out.size))
        have HGy6 := hid (HGx5.out.below hbz6)
        have gx6 := below_keeps hbz6 _ _ gx5
        have gy6 := below_keeps hbz6 _ _ gy5
        clear hby6 hbz6 gx5 gy5
        go_wp2_with fail
        refine (rup_CheckN 2 (some a1) (fourF.take 3) 3 c1 (some ⟨wy6.heap.size + 1, 0, none⟩) [[1], []] 2 2 1 0 _ rn_d rfl rfl rn_g (HGy6.out.below (below_al (below_al (Below.refl wy6.heap.size wy6) (by (try simp only [size_al]); omega) _) (by (try simp only [size_al]); omega) _)) (by intro d hd; simp at hd; rcases hd with rfl | rfl <;> simp [I64]) (rws_2 (e := 22) (m := (0, 0)) (by simp only [heap_al, Array.getElem?_push, Array.size_push]; rw [if_pos trivial]; try rfl) (sli_of_block (xs := [1]) (e := 3) (m := (0, 0)) (by simp only [heap_al, Array.getElem?_push, Array.size_push]; rw [if_neg (by omega)]; rw [if_pos trivial]; try rfl) rfl) (sli_nil _)) (by decide) (by decide)).mono ?_
        rintro e wy7 ⟨rfl, hby7⟩
        have hbz7 : Below wy6.heap.size wy6 wy7 := (below_al (below_al (Below.refl wy6.heap.size wy6) (by (try simp only [size_al]); omega) _) (by (try simp only [size_al]); omega) _).trans (hby7.mono (by (try simp only [size_al]); omega))
        have HY7 : Hid (Below w.heap.size w wy7) := hid (HY6.out.trans (hbz7.mono HY6.out.size))
        have HGy7 := hid (HGy6.out.below hbz7)
        have gx7 := below_keeps hbz7 _ _ gx6
        have gy7 := below_keeps hbz7 _ _ gy6
        clear hby7 hbz7 gx6 gy6
        go_wp2_with fail
        refine (law05_four _).mono ?_
        rintro e wx8 ⟨ax8, cx8, rfl, hcx8, hrx8, hbx8⟩
        have HX8 : Hid (Below w.heap.size w wx8) := hid (HY7.out.trans (hbx8.mono HY7.out.size))
        have HRX8 := hid hrx8
        have HGx8 := hid (HGy7.out.below hbx8)
        have gx8 := below_keeps hbx8 _ _ gx7
        have gy8 := below_keeps hbx8 _ _ gy7
        clear hbx8 hrx8
        go_wp2_with fail
        refine (rup_CheckN 2 (some ax8) fourF 4 cx8 (some ⟨wx8.heap.size + 1, 0, none⟩) [[3]] 1 1 0 3 _ rn_k rfl rfl fok_four (HRX8.out.below (below_al (below_al (Below.refl wx8.heap.size wx8) (by (try simp only [size_al]); omega) _) (by (try simp only [size_al]); omega) _)) (by intro d hd; simp at hd; subst hd; simp [I64]) (rws_1 (e := 22) (m := (0, 0)) (by simp only [heap_al, Array.getElem?_push, Array.size_push]; rw [if_pos trivial]; try rfl) (sli_of_block (xs := [3]) (e := 3) (m := (0, 0)) (by simp only [heap_al, Array.getElem?_push, Array.size_push]; rw [if_neg (by omega)]; rw [if_pos trivial]; try rfl) rfl)) (by decide) (by decide)).mono ?_
        rintro e wy9 ⟨rfl, hby9⟩
        have hbz9 : Below wx8.heap.size wx8 wy9 := (below_al (below_al (Below.refl wx8.heap.size wx8) (by (try simp only [size_al]); omega) _) (by (try simp only [size_al]); omega) _).trans (hby9.mono (by (try simp only [size_al]); omega))
        have HY9 : Hid (Below w.heap.size w wy9) := hid (HX8.out.trans (hbz9.mono HX8.out.size))
        have HGy9 := hid (HGx8.out.below hbz9)
        have gx9 := below_keeps hbz9 _ _ gx8
        have gy9 := below_keeps hbz9 _ _ gy8
        clear hby9 hbz9 gx8 gy8
        go_wp2_with fail
        refine (law05_four _).mono ?_
        rintro e wx10 ⟨ax10, cx10, rfl, hcx10, hrx10, hbx10⟩
        have HX10 : Hid (Below w.heap.size w wx10) := hid (HY9.out.trans (hbx10.mono HY9.out.size))
        have HRX10 := hid hrx10
        have HGx10 := hid (HGy9.out.below hbx10)
        have gx10 := below_keeps hbx10 _ _ gx9
        have gy10 := below_keeps hbx10 _ _ gy9
        clear hbx10 hrx10
        go_wp2_with fail
        refine (rup_ImpliedN 2 (some ax10) fourF 4 cx10 (some ⟨wx10.heap.size, 0, none⟩) [0] 1 1 false 3 _ rn_l rfl rfl fok_four (HRX10.out.below (below_al (Below.refl wx10.heap.size wx10) (by (try simp only [size_al]); omega) _)) (by simp [I64]) (slv_at (vs := ints [0]) (e := 3) (m := (0, 0)) (by simp only [heap_al, Array.getElem?_push]; rw [if_pos trivial]; try rfl)) (by decide) (by decide)).mono ?_
        rintro e wy11 ⟨rfl, hby11⟩
        have hbz11 : Below wx10.heap.size wx10 wy11 := (below_al (Below.refl wx10.heap.size wx10) (by (try simp only [size_al]); omega) _).trans (hby11.mono (by (try simp only [size_al]); omega))
        have HY11 : Hid (Below w.heap.size w wy11) := hid (HX10.out.trans (hbz11.mono HX10.out.size))
        have HGy11 := hid (HGx10.out.below hbz11)
        have gx11 := below_keeps hbz11 _ _ gx10
        have gy11 := below_keeps hbz11 _ _ gy10
        clear hby11 hbz11 gx10 gy10
        go_wp2_with fail
        refine (law05_four _).mono ?_
        rintro e wx12 ⟨ax12, cx12, rfl, hcx12, hrx12, hbx12⟩
        have HX12 : Hid (Below w.heap.size w wx12) := hid (HY11.out.trans (hbx12.mono HY11.out.size))
        have HRX12 := hid hrx12
        have HGx12 := hid (HGy11.out.below hbx12)
        have gx12 := below_keeps hbx12 _ _ gx11
        have gy12 := below_keeps hbx12 _ _ gy11
        clear hbx12 hrx12
        go_wp2_with fail
        refine (rup_CheckN 2 (some ax12) fourF 4 cx12 (some ⟨wx12.heap.size + 1 + 1, 0, none⟩) [[-2], [], [0]] 3 3 0 3 _ rn_m rfl rfl fok_four (HRX12.out.below (below_al (below_al (below_al (Below.refl wx12.heap.size wx12) (by (try simp only [size_al]); omega) _) (by (try simp only [size_al]); omega) _) (by (try simp only [size_al]); omega) _)) (by intro d hd; simp at hd; rcases hd with rfl | rfl | rfl <;> simp [I64]) (rws_3 (e := 22) (m := (0, 0)) (by simp only [heap_al, Array.getElem?_push, Array.size_push]; rw [if_pos trivial]; try rfl) (sli_of_block (xs := [-2]) (e := 3) (m := (0, 0)) (by simp only [heap_al, Array.getElem?_push, Array.size_push]; rw [if_neg (by omega)]; rw [if_neg (by omega)]; rw [if_pos trivial]; try rfl) rfl) (sli_nil _) (sli_of_block (xs := [0]) (e := 3) (m := (0, 0)) (by simp only [heap_al, Array.getElem?_push, Array.size_push]; rw [if_neg (by omega)]; rw [if_pos trivial]; try rfl) rfl)) (by decide) (by decide)).mono ?_
        rintro e wy13 ⟨rfl, hby13⟩
        have hbz13 : Below wx12.heap.size wx12 wy13 := (below_al (below_al (below_al (Below.refl wx12.heap.size wx12) (by (try simp only [size_al]); omega) _) (by (try simp only [size_al]); omega) _) (by (try simp only [size_al]); omega) _).trans (hby13.mono (by (try simp only [size_al]); omega))
        have HY13 : Hid (Below w.heap.size w wy13) := hid (HX12.out.trans (hbz13.mono HX12.out.size))
        have HGy13 := hid (HGx12.out.below hbz13)
        have gx13 := below_keeps hbz13 _ _ gx12
        have gy13 := below_keeps hbz13 _ _ gy12
        clear hby13 hbz13 gx12 gy12
        go_wp2_with (go_at_call 39; refine (law05_known _).mono ?_; rintro e w' ⟨rfl, hb⟩)
        exact HQ.out _ (HY13.out.trans (hb.mono HY13.out.size))

end Go.Proofs.Ytfmahgobogelkaa.Ord
