/- The walk of GateNames. (Printed by gen_gatenames.py.) -/
import Derived.Test.YtacmfiikdbekbaaQGateX
import Derived.Test.YtacmfiikdbekbaaQ10
import Derived.Test.YtacmfiikdbekbaaQEqL
import Derived.Test.YtacmfiikdbekbaaQAppN

namespace Go.Proofs.Ytacmfiikdbekbaa.Ord
open Go.RowKit Go.Conc

attribute [local go_sem ↓] Go.wp_at_zero Go.wp_at_succ

theorem fok_small {G : List (List Int)} (h : G.all (fun c => c.all (fun x => decide (-10 ≤ x ∧ x ≤ 10)) && decide (c.length ≤ 10)) = true) : FOk G := by
  intro c hc
  have h1 := List.all_eq_true.1 h c hc
  simp only [Bool.and_eq_true, decide_eq_true_eq, List.all_eq_true] at h1
  refine ⟨fun x hx => ?_, by omega⟩
  have := h1.1 x hx
  unfold I64
  omega

def nmG2 : List (List Int) := awG ++ [[-5, -2], [-5, -3], [5, 2, 3]]
def nmG3 : List (List Int) := nmG2 ++ [[-6, 2, -3], [-6, -2, 3], [6, -2, -3], [6, 2, 3]]
def nmG4 : List (List Int) := nmG3 ++ [[-2, -3, 7], [-2, 3, -7], [2, 3, 7], [2, -3, -7], [-3, 3, 7], [3, -3, -7]]

theorem nm_or : gOr 4 awG 2 3 = (-5, 5, nmG2) := by decide
theorem nm_xor : gXor 5 nmG2 2 (-3) = (6, 6, nmG3) := by decide
theorem nm_mux : gMux 6 nmG3 2 3 (-3) = (7, 7, nmG4) := by decide
theorem nm_u1 : unitsV ((7 : Nat) : Int) nmG4 [-2, -3] = ([1, -2, -3, -4, 5, 6, 7], false, 0) := unitsV_closedG [7, 6, 5, -4, 1, -2, -3] (by decide) (by decide) (closedOk_sound (by decide)) (by decide)
theorem nm_u2 : unitsV ((7 : Nat) : Int) nmG4 [2, -3] = ([1, 2, -3, -4, -5, -6, -7], false, 0) := unitsV_closedG [-7, -6, -5, -4, 1, 2, -3] (by decide) (by decide) (closedOk_sound (by decide)) (by decide)
theorem nm_u3 : unitsV ((7 : Nat) : Int) nmG4 [2, 3] = ([1, 2, 3, 4, -5, 6, 7], false, 0) := unitsV_closedG [7, 6, -5, 4, 1, 2, 3] (by decide) (by decide) (closedOk_sound (by decide)) (by decide)
theorem nm_u4 : unitsV ((7 : Nat) : Int) nmG4 [-2, 3] = ([1, -2, 3, -4, -5, -6, -7], false, 0) := unitsV_closedG [-7, -6, -5, -4, 1, -2, 3] (by decide) (by decide) (closedOk_sound (by decide)) (by decide)

/-- The ones, as far as they are written. -/
def onesL (k : Nat) : List Int := List.replicate k 1 ++ List.replicate (4097 - k) 0

theorem onesL_set {k : Nat} (hk : k < 4097) : (onesL k).set k 1 = onesL (k + 1) := by
  unfold onesL
  rw [List.set_append_right _ _ (by simp), List.length_replicate, Nat.sub_self, show 4097 - k = (4097 - (k + 1)) + 1 by omega, List.replicate_succ, List.set_cons_zero, List.replicate_succ', List.append_assoc]
  rfl

theorem onesL_length {k : Nat} (hk : k ≤ 4097) : (onesL k).length = 4097 := by unfold onesL; simp; omega

theorem onesL_mem {a : Int} (h : a ∈ onesL 4097) : a = 1 := by
  unfold onesL at h
  rcases List.mem_append.1 h with h | h
  · exact List.eq_of_mem_replicate h
  · exact absurd rfl (List.mem_replicate.1 h).1

theorem onesL_all : (onesL 4097).all (fun a => !badLit 3 a) = true := by
  rw [List.all_eq_true]
  intro a ha
  rw [onesL_mem ha]
  rfl

theorem onesL_drop : (onesL 4097).drop 1 = List.replicate 4096 1 := by
  unfold onesL
  rw [Nat.sub_self, List.replicate_zero, List.append_nil, List.drop_replicate]

theorem zeros_all {Z : List Int} (h : Z = List.replicate 4097 0) : Z.all (fun a => !badLit 3 a) = false := by
  rw [List.all_eq_false]
  exact ⟨0, by rw [h]; exact List.mem_replicate.2 ⟨by omega, rfl⟩, by decide⟩

theorem rws_one {w : World} {b g : Nat} {c : List Int} {f : List (List Int)} (hb : w.heap[b]? = some (.cells #[.slice (some ⟨g, 0, none⟩) c.length c.length] 22 (0, 0))) (hg : w.heap[g]? = some (.cells (ints c).toArray 3 (0, 0))) (hf : f = [c]) : Rws w (some ⟨b, 0, none⟩) f := by
  subst hf
  intro j d hj
  match j, hj with
  | 0, hj =>
    simp at hj
    subst hj
    exact ⟨b, 0, _, rfl, fit_cell (vs := [.slice (some ⟨g, 0, none⟩) c.length c.length]) hb 0, some ⟨g, 0, none⟩, c.length, rfl, Nat.le_refl _, nofun, slv_at hg⟩

theorem rws_two {w : World} {b g g2 : Nat} {c c2 : List Int} {f : List (List Int)} (hb : w.heap[b]? = some (.cells #[.slice (some ⟨g, 0, none⟩) c.length c.length, .slice (some ⟨g2, 0, none⟩) c2.length c2.length] 22 (0, 0))) (hg : w.heap[g]? = some (.cells (ints c).toArray 3 (0, 0))) (hg2 : w.heap[g2]? = some (.cells (ints c2).toArray 3 (0, 0))) (hf : f = [c, c2]) : Rws w (some ⟨b, 0, none⟩) f := by
  subst hf
  intro j d hj
  match j, hj with
  | 0, hj =>
    simp at hj
    subst hj
    exact ⟨b, 0, _, rfl, fit_cell (vs := [.slice (some ⟨g, 0, none⟩) c.length c.length, .slice (some ⟨g2, 0, none⟩) c2.length c2.length]) hb 0, some ⟨g, 0, none⟩, c.length, rfl, Nat.le_refl _, nofun, slv_at hg⟩
  | 1, hj =>
    simp at hj
    subst hj
    exact ⟨b, 0, _, rfl, fit_cell (vs := [.slice (some ⟨g, 0, none⟩) c.length c.length, .slice (some ⟨g2, 0, none⟩) c2.length c2.length]) hb 1, some ⟨g2, 0, none⟩, c2.length, rfl, Nat.le_refl _, nofun, slv_at hg2⟩

set_option maxRecDepth 100000 in
set_option maxHeartbeats 16000000 in
theorem walk_GateNames (w : World) :
    Calls Try.prog 9 #[] w fun e w' => e = .returned (.bool true) ∧ Below w.heap.size w w' := by
  have hmk : ∃ Z, Z = List.replicate 4097 (0 : Int) ∧ ∀ w : World, (Instr.makeSlice 22 (.int .i64 4097) (.int .i64 4097)).run Try.prog w = .ok (.slice (some ⟨w.heap.size, 0, none⟩) 4097 4097) (w.alloc (.cells (ints Z).toArray 3 (0, 0))) := by
    refine ⟨_, rfl, fun w => ?_⟩
    have h := run_make_row' (P := Try.prog) 22 3 (.int .i64 0) 8 Try.underlying22 info_intG rfl .i64 .i64 4097 (by omega) (by omega) w
    rw [made_list] at h
    simpa [ints] using h
  obtain ⟨Z, hZ, hmk⟩ := hmk
  have HZ := hid hZ
  clear hZ
  go_enter Try.func9, Try.ntmps9
  go_wp2_with fail
  refine (gate_New w (fun _ => False) (fun _ h => h.elim)).mono ?_
  rintro e w1 ⟨b, rfl, hg1, hb1⟩
  have HG1 := hid hg1
  have HB1 := hid hb1
  clear hg1 hb1
  go_wp2_with fail
  refine (gate_Formula w1 w.heap.size b 1 [[1]] HG1.out (by simp) (by simp)).mono ?_
  rintro e w2 ⟨a2, c2, rfl, hr2, hb2⟩
  have HB2 := hid (HB1.out.trans (hb2.mono HB1.out.size))
  have HG2 := hid (HG1.out.below hb2)
  have HR2 := hid hr2
  clear hr2 hb2
  go_wp2_with fail
  have hbq := below_al (box_below w2 (.cells #[.int .i64 1] 3 (0, 0))) (by simp only [size_al]; omega) (.cells #[.slice (some ⟨w2.heap.size, 0, none⟩) 1 1] 22 (0, 0))
  refine (kit_EqualFormula 1 a2 [[1]] 1 c2 1 (some ⟨w2.heap.size + 1, 0, none⟩) [[1]] 1 1 true _ (by decide) rfl rfl (fok_small (by decide)) (fok_small (by decide)) (HR2.out.below hbq) (rws_one (g := w2.heap.size) (c := [1]) (by
    have h := heap_alloc_new (w2.alloc (.cells #[.int .i64 1] 3 (0, 0))) (.cells #[.slice (some ⟨w2.heap.size, 0, none⟩) 1 1] 22 (0, 0))
    rw [size_al] at h
    exact h) ((Below.heap_alloc _ _ _ (by rw [size_al]; omega)).trans (heap_alloc_new _ _)) rfl) (by decide)).mono ?_
  rintro e w3 ⟨rfl, hb3⟩
  have hb3' := hbq.trans (hb3.mono hbq.size)
  have HG3 := hid (HG2.out.below hb3')
  have HB3 := hid (HB2.out.trans (hb3'.mono HB2.out.size))
  clear hbq hb3 hb3'

  go_wp2_with fail
  refine (gate_Fresh w3 w.heap.size b 1 [[1]] HG3.out (by omega)).mono ?_
  rintro e w4 ⟨rfl, hg, hk⟩
  have HG4 : Hid (GB (fun _ => False) w4 w.heap.size b 2 [[1]]) := hid hg
  have HB4 := hid (HB3.out.trans hk.below)
  clear hg hk HG3 HB3
  go_wp2_with fail
  refine (gate_Fresh w4 w.heap.size b 2 [[1]] HG4.out (by omega)).mono ?_
  rintro e w5 ⟨rfl, hg, hk⟩
  have HG5 : Hid (GB (fun _ => False) w5 w.heap.size b 3 [[1]]) := hid hg
  have HB5 := hid (HB4.out.trans hk.below)
  clear hg hk HG4 HB4
  go_wp2_with fail
  refine (gate_Clause (w5.alloc (.cells (ints [2, -3]).toArray 3 (0, 0))) w.heap.size b 3 [[1]] (some ⟨w5.heap.size, 0, none⟩) [2, -3] 2 2 (HG5.out.below (box_below _ _)) (by omega) rfl (slv_at (heap_alloc_new _ _)) nofun (by simp [LitOk]) (by decide) (by decide)).mono ?_
  rintro e w6 ⟨rfl, hg, hk⟩
  have HG6 : Hid (GB (fun _ => False) w6 w.heap.size b 3 [[1], [2, -3]]) := hid hg
  have HB6 := hid ((HB5.out.trans ((box_below w5 (.cells (ints [2, -3]).toArray 3 (0, 0))).mono HB5.out.size)).trans hk.below)
  clear hg hk HG5 HB5
  go_wp2_with fail
  refine (gate_Formula w6 w.heap.size b 3 [[1], [2, -3]] HG6.out (by decide) (by simp)).mono ?_
  rintro e wf ⟨af, cf, rfl, hrf, hbf⟩
  have HBF := hid (HB6.out.trans (hbf.mono HB6.out.size))
  have HGF := hid (HG6.out.below hbf)
  have HRF := hid hrf
  clear hrf hbf HG6 HB6
  go_wp2_with fail
  have hbq := below_al (below_al (box_below wf (.cells #[.int .i64 1] 3 (0, 0))) (by simp only [size_al]; omega) (.cells #[.int .i64 2, .int .i64 (-3)] 3 (0, 0))) (by simp only [size_al]; omega) (.cells #[.slice (some ⟨wf.heap.size, 0, none⟩) 1 1, .slice (some ⟨wf.heap.size + 1, 0, none⟩) 2 2] 22 (0, 0))
  refine (kit_EqualFormula 3 af [[1], [2, -3]] 2 cf 3 (some ⟨wf.heap.size + 1 + 1, 0, none⟩) [[1], [2, -3]] 2 2 true _ (by decide) rfl rfl (fok_small (by decide)) (fok_small (by decide)) (HRF.out.below hbq) (rws_two (g := wf.heap.size) (g2 := wf.heap.size + 1) (c := [1]) (c2 := [2, -3]) (by
    have h := heap_alloc_new ((wf.alloc (.cells #[.int .i64 1] 3 (0, 0))).alloc (.cells #[.int .i64 2, .int .i64 (-3)] 3 (0, 0))) (.cells #[.slice (some ⟨wf.heap.size, 0, none⟩) 1 1, .slice (some ⟨wf.heap.size + 1, 0, none⟩) 2 2] 22 (0, 0))
    rw [size_al, size_al] at h
    exact h) ((Below.heap_alloc _ _ _ (by rw [size_al, size_al]; omega)).trans ((Below.heap_alloc _ _ _ (by rw [size_al]; omega)).trans (heap_alloc_new _ _))) ((Below.heap_alloc _ _ _ (by rw [size_al, size_al]; omega)).trans (by
    have h := heap_alloc_new (wf.alloc (.cells #[.int .i64 1] 3 (0, 0))) (.cells #[.int .i64 2, .int .i64 (-3)] 3 (0, 0))
    rw [size_al] at h
    exact h)) rfl) (by decide)).mono ?_
  rintro e w7 ⟨rfl, hb3⟩
  have hb3' := hbq.trans (hb3.mono hbq.size)
  have HG7 := hid (HGF.out.below hb3')
  have HB7 := hid (HBF.out.trans (hb3'.mono HBF.out.size))
  clear hbq hb3 hb3' HGF HBF HRF
  go_wp2_with fail
  refine (gate_And_bad w7 w.heap.size b 3 [[1], [2, -3]] 2 4 HG7.out (by omega) (by decide)).mono ?_
  rintro e w8 ⟨rfl, hb⟩
  have HG8 := hid (HG7.out.below hb)
  have HB8 := hid (HB7.out.trans (hb.mono HB7.out.size))
  clear hb HG7 HB7
  go_wp2_with fail
  refine (gate_Mux_bad w8 w.heap.size b 3 [[1], [2, -3]] 1 2 (-4) HG8.out (by omega) (by decide)).mono ?_
  rintro e w9 ⟨rfl, hb⟩
  have HG9 := hid (HG8.out.below hb)
  have HB9 := hid (HB8.out.trans (hb.mono HB8.out.size))
  clear hb HG8 HB8
  go_wp2_with fail
  refine (gate_Or_bad w9 w.heap.size b 3 [[1], [2, -3]] 0 1 HG9.out (by omega) (by decide) (by decide) (by decide)).mono ?_
  rintro e w10 ⟨rfl, hb⟩
  have HG10 := hid (HG9.out.below hb)
  have HB10 := hid (HB9.out.trans (hb.mono HB9.out.size))
  clear hb HG9 HB9
  go_wp2_with fail
  refine (gate_Xor_bad w10 w.heap.size b 3 [[1], [2, -3]] (-5) 1 HG10.out (by omega) (by decide)).mono ?_
  rintro e w11 ⟨rfl, hb⟩
  have HG11 := hid (HG10.out.below hb)
  have HB11 := hid (HB10.out.trans (hb.mono HB10.out.size))
  clear hb HG10 HB10
  go_wp2_with fail
  refine (gate_Clause_bad (w11.alloc (.cells (ints [0]).toArray 3 (0, 0))) w.heap.size b 3 [[1], [2, -3]] (some ⟨w11.heap.size, 0, none⟩) [0] 1 1 (HG11.out.below (box_below _ _)) (by omega) rfl (slv_at (heap_alloc_new _ _)) (by decide) (by decide)).mono ?_
  rintro e w12 ⟨rfl, rfl⟩
  have HG12 := hid (HG11.out.below (box_below w11 (.cells (ints [0]).toArray 3 (0, 0))))
  have HB12 := hid (HB11.out.trans ((box_below w11 (.cells (ints [0]).toArray 3 (0, 0))).mono HB11.out.size))
  clear HG11 HB11
  generalize (w11.alloc (.cells (ints [0]).toArray 3 (0, 0))) = w12 at HG12 HB12 ⊢
  go_wp2_with fail
  refine (gate_Clause_bad (w12.alloc (.cells (ints Z).toArray 3 (0, 0))) w.heap.size b 3 [[1], [2, -3]] (some ⟨w12.heap.size, 0, none⟩) Z 4097 4097 (HG12.out.below (box_below _ _)) (by omega) (by rw [HZ.out]; exact List.length_replicate.symm) (slv_at (heap_alloc_new _ _)) (by rw [HZ.out, List.length_replicate]; omega) (zeros_all HZ.out)).mono ?_
  rintro e w13 ⟨rfl, rfl⟩
  have HG13 := hid (HG12.out.below (box_below w12 (.cells (ints Z).toArray 3 (0, 0))))
  have HB13 := hid (HB12.out.trans ((box_below w12 (.cells (ints Z).toArray 3 (0, 0))).mono HB12.out.size))
  clear HG12 HB12
  generalize (w12.alloc (.cells (ints Z).toArray 3 (0, 0))) = w13 at HG13 HB13 ⊢
  go_wp2_with fail
  have HO0 : Hid ((w13.alloc (.cells (ints Z).toArray 3 (0, 0))).heap[w13.heap.size]? = some (.cells (ints (onesL 0)).toArray 3 (0, 0))) := hid (by
    have h := heap_alloc_new w13 (.cells (ints Z).toArray 3 (0, 0))
    rw [h, HZ.out]
    rfl)
  have HX0 : Hid (Below w13.heap.size w13 (w13.alloc (.cells (ints Z).toArray 3 (0, 0)))) := hid (box_below _ _)
  obtain ⟨bo, hbo⟩ : ∃ bo, w13.heap.size = bo := ⟨_, rfl⟩
  have HBO := hid hbo
  rw [hbo] at HO0 ⊢
  clear hbo hmk
  go_loopw [11] (fun s11 wr => ∃ k : Nat, s11 = .int .i64 k ∧ k ≤ 4097 ∧ Hid (wr.heap[bo]? = some (.cells (ints (onesL k)).toArray 3 (0, 0))) ∧ Hid (Below w13.heap.size w13 wr)) (fun s11 _ => (4097 - (intOf s11)).toNat)
  case atStart => exact ⟨0, rfl, by omega, HO0, HX0⟩
  case round =>
    clear HO0 HX0
    obtain ⟨k, rfl, hk, HO, HX⟩ := hrel
    by_cases hlt : k < 4097
    · have hlt2 : (k : Int) < 4097 := by omega
      have hwk : IntKind.i64.wrap ((k : Int) + 1) = (k : Int) + 1 := IntWalk.i64_in _ (by omega)
      obtain ⟨y, hy⟩ : ∃ y, (onesL k)[k]? = some y := ⟨_, List.getElem?_eq_getElem (by rw [onesL_length hk]; exact hlt)⟩
      have hc : wr.cell? ⟨bo, k, none⟩ = some (.int .i64 y) := (fit_cell HO.out k).trans (by simp [ints, hy])
      have hfz : wr.frozen? ⟨bo, k, none⟩ = false := frozen_of_row _ _ _ _ _ HO.out
      have HN : Hid ((wr.setCell ⟨bo, k, none⟩ (.int .i64 1)).heap[bo]? = some (.cells (ints (onesL (k + 1))).toArray 3 (0, 0))) := hid (by
        have h := setCell_blockG (o := k) (.int .i64 1) HO.out
        rw [h, ← onesL_set hlt]
        simp [ints, List.map_set])
      have HXN : Hid (Below w13.heap.size w13 (wr.setCell ⟨bo, k, none⟩ (.int .i64 1))) := hid (HX.out.setCell (by show w13.heap.size ≤ bo; rw [HBO.out]; exact Nat.le_refl _) _)
      clear hy
      go_wp2_with fail
      go_roundw
      case rel => exact ⟨k + 1, by simp, hlt, HN, HXN⟩
      case measure => simp [intOf]; omega
    · have hk2 : k = 4097 := by omega
      subst hk2
      obtain ⟨O, hO⟩ : ∃ O, onesL 4097 = O := ⟨_, rfl⟩
      have HOE := hid hO
      rw [hO] at HO
      clear hO
      have hOl : O.length = 4097 := by rw [← HOE.out]; exact onesL_length (Nat.le_refl _)
      have HOL := hid hOl
      have HG := hid (HG13.out.below HX.out)
      have HB := hid (HB13.out.trans (HX.out.mono HB13.out.size))
      have hso : SlV wr (some ⟨bo, 0, none⟩) (ints O) := slv_at HO.out
      have HSO := hid hso
      have HSD : Hid (SlV wr (some ⟨bo, 1, none⟩) (ints (O.drop 1))) := hid (fun j v hj => ⟨bo, 1, rfl, by
        rw [fit_cell HO.out]
        simp only [ints, List.getElem?_map, List.getElem?_drop] at hj ⊢
        exact hj⟩)
      have HTL : Hid (∀ wx, (Instr.slice 22 (.slice (some ⟨bo, 0, none⟩) 4097 4097) (some (.int .i64 1)) none none).run Try.prog wx = .ok (.slice (some ⟨bo, 1, none⟩) 4096 4096) wx) := by
        intro wx
        have he : Try.prog.elem 22 = 3 := by simp [Program.elem, Try.underlying22]
        rw [run_slice_l (P := Try.prog) wx 22 _ 4097 4097 (by rw [he]; exact Try.underlying22) .i64 1 (by omega) (by omega), he, sizeOf_int]
        simp [sliced, Result.andThen, Addr.add]
      clear hOl hso HG13 HB13 HX HBO HO hlt
      go_wp2_with fail
      refine (gate_Clause_long wr w.heap.size b 3 [[1], [2, -3]] (some ⟨bo, 0, none⟩) O 4097 4097 HG.out (by omega) HOL.out.symm HSO.out (by rw [HOL.out]; omega) (by rw [← HOE.out]; exact onesL_all) (by omega)).mono ?_
      rintro e wl ⟨rfl, rfl⟩
      have htl := HTL.out
      go_wp2_with fail
      refine (gate_Clause wr w.heap.size b 3 [[1], [2, -3]] (some ⟨bo, 1, none⟩) (O.drop 1) 4096 4096 HG.out (by omega) (by rw [List.length_drop, HOL.out]) HSD.out nofun (fun a ha => by have e := onesL_mem (a := a) (by rw [HOE.out]; exact List.mem_of_mem_drop ha); subst e; simp [LitOk]) (by rw [List.length_drop, HOL.out]; omega) (by decide)).mono ?_
      rintro e wm ⟨rfl, hg, hk⟩
      have HGM := hid hg
      have HBM := hid (HB.out.trans hk.below)
      clear hg hk HG HB htl
      go_wp2_with fail
      refine (gate_Clause wm w.heap.size b 3 ([[1], [2, -3]] ++ [O.drop 1]) none [] 0 0 HGM.out (by omega) rfl (SlV.nil _ _) (fun _ => rfl) (by simp) (by decide) (by simp)).mono ?_
      rintro e wn ⟨rfl, hg, hk⟩
      have HB10 := hid (HBM.out.trans hk.below)
      clear hg hk HGM HBM HSO HSD HTL

      have hszn : w.heap.size ≤ wn.heap.size := HB10.out.size
      go_wp2_with fail
      refine (gate_New wn (fun _ => False) (fun _ h => h.elim)).mono ?_
      rintro e v1 ⟨c, rfl, hg1, hb1⟩
      have HG1 := hid hg1
      have HB1 := hid hb1
      clear hg1 hb1
      go_wp2_with fail
      refine (gate_Fresh v1 wn.heap.size c 1 [[1]] HG1.out (by omega)).mono ?_
      rintro e v2 ⟨rfl, hg, hk⟩
      have HG2 : Hid (GB (fun _ => False) v2 wn.heap.size c 2 [[1]]) := hid hg
      have HB2 := hid (HB1.out.trans hk.below)
      clear hg hk HG1 HB1
      go_wp2_with fail
      refine (gate_Fresh v2 wn.heap.size c 2 [[1]] HG2.out (by omega)).mono ?_
      rintro e v3 ⟨rfl, hg, hk⟩
      have HG3 : Hid (GB (fun _ => False) v3 wn.heap.size c 3 [[1]]) := hid hg
      have HB3 := hid (HB2.out.trans hk.below)
      clear hg hk HG2 HB2
      go_wp2_with fail
      refine (gate_And v3 wn.heap.size c 3 [[1]] 2 3 HG3.out (by simp [LitOk]) (by simp [LitOk]) (by omega) (by decide)).mono ?_
      rw [aw_and]
      rintro e v4 ⟨rfl, hg, hk⟩
      have HG4 : Hid (GB (fun _ => False) v4 wn.heap.size c 4 awG) := hid hg
      have HB4 := hid (HB3.out.trans hk.below)
      clear hg hk HG3 HB3
      go_wp2_with fail
      refine (gate_Or v4 wn.heap.size c 4 awG 2 3 HG4.out (by omega) (by simp [LitOk]) (by simp [LitOk]) (by omega) (by decide)).mono ?_
      rw [nm_or]
      rintro e v5 ⟨rfl, hg, hk⟩
      have HG5 : Hid (GB (fun _ => False) v5 wn.heap.size c 5 nmG2) := hid hg
      have HB5 := hid (HB4.out.trans hk.below)
      clear hg hk HG4 HB4
      go_wp2_with fail
      refine (gate_Xor v5 wn.heap.size c 5 nmG2 2 (-3) HG5.out (by simp [LitOk]) (by simp [LitOk]) (by omega) (by decide)).mono ?_
      rw [nm_xor]
      rintro e v6 ⟨rfl, hg, hk⟩
      have HG6 : Hid (GB (fun _ => False) v6 wn.heap.size c 6 nmG3) := hid hg
      have HB6 := hid (HB5.out.trans hk.below)
      clear hg hk HG5 HB5
      go_wp2_with fail
      refine (gate_Mux v6 wn.heap.size c 6 nmG3 2 3 (-3) HG6.out (by simp [LitOk]) (by simp [LitOk]) (by simp [LitOk]) (by omega) (by decide)).mono ?_
      rw [nm_mux]
      rintro e v7 ⟨rfl, hg, hk⟩
      have HG7 : Hid (GB (fun _ => False) v7 wn.heap.size c 7 nmG4) := hid hg
      have HB7 := hid (HB6.out.trans hk.below)
      clear hg hk HG6 HB6
      go_wp2_with fail
      refine (law15_decidedT (v7.alloc (.cells (ints [-2, -3]).toArray 3 (0, 0))) wn.heap.size c 7 nmG4 (4) false (some ⟨v7.heap.size, 0, none⟩) [-2, -3] 2 2 [1, -2, -3, -4, 5, 6, 7] (HG7.out.below (box_below _ _)) (by decide) (by decide) (fok_small (by decide)) rfl (slv_at (heap_alloc_new _ _)) (by decide) nm_u1 (by decide) (by decide) (by decide) (by decide)).mono ?_
      rintro e v8 ⟨rfl, hb⟩
      have hb' := (box_below v7 (.cells (ints [-2, -3]).toArray 3 (0, 0))).trans (hb.mono (by simp only [size_al]; omega))
      have HG8 := hid (HG7.out.below hb')
      have HB8 := hid (HB7.out.trans (hb'.mono HB7.out.size))
      clear hb hb' HG7 HB7
      go_wp2_with fail
      refine (law15_decidedT (v8.alloc (.cells (ints [2, -3]).toArray 3 (0, 0))) wn.heap.size c 7 nmG4 (-5) true (some ⟨v8.heap.size, 0, none⟩) [2, -3] 2 2 [1, 2, -3, -4, -5, -6, -7] (HG8.out.below (box_below _ _)) (by decide) (by decide) (fok_small (by decide)) rfl (slv_at (heap_alloc_new _ _)) (by decide) nm_u2 (by decide) (by decide) (by decide) (by decide)).mono ?_
      rintro e v9 ⟨rfl, hb⟩
      have hb' := (box_below v8 (.cells (ints [2, -3]).toArray 3 (0, 0))).trans (hb.mono (by simp only [size_al]; omega))
      have HG9 := hid (HG8.out.below hb')
      have HB9 := hid (HB8.out.trans (hb'.mono HB8.out.size))
      clear hb hb' HG8 HB8
      go_wp2_with fail
      refine (law15_decidedT (v9.alloc (.cells (ints [-2, -3]).toArray 3 (0, 0))) wn.heap.size c 7 nmG4 (-5) false (some ⟨v9.heap.size, 0, none⟩) [-2, -3] 2 2 [1, -2, -3, -4, 5, 6, 7] (HG9.out.below (box_below _ _)) (by decide) (by decide) (fok_small (by decide)) rfl (slv_at (heap_alloc_new _ _)) (by decide) nm_u1 (by decide) (by decide) (by decide) (by decide)).mono ?_
      rintro e v10 ⟨rfl, hb⟩
      have hb' := (box_below v9 (.cells (ints [-2, -3]).toArray 3 (0, 0))).trans (hb.mono (by simp only [size_al]; omega))
      have HG10 := hid (HG9.out.below hb')
      have HB10 := hid (HB9.out.trans (hb'.mono HB9.out.size))
      clear hb hb' HG9 HB9
      go_wp2_with fail
      refine (law15_decidedT (v10.alloc (.cells (ints [2, 3]).toArray 3 (0, 0))) wn.heap.size c 7 nmG4 (6) true (some ⟨v10.heap.size, 0, none⟩) [2, 3] 2 2 [1, 2, 3, 4, -5, 6, 7] (HG10.out.below (box_below _ _)) (by decide) (by decide) (fok_small (by decide)) rfl (slv_at (heap_alloc_new _ _)) (by decide) nm_u3 (by decide) (by decide) (by decide) (by decide)).mono ?_
      rintro e v11 ⟨rfl, hb⟩
      have hb' := (box_below v10 (.cells (ints [2, 3]).toArray 3 (0, 0))).trans (hb.mono (by simp only [size_al]; omega))
      have HG11 := hid (HG10.out.below hb')
      have HB11 := hid (HB10.out.trans (hb'.mono HB10.out.size))
      clear hb hb' HG10 HB10
      go_wp2_with fail
      refine (law15_decidedT (v11.alloc (.cells (ints [2, -3]).toArray 3 (0, 0))) wn.heap.size c 7 nmG4 (6) false (some ⟨v11.heap.size, 0, none⟩) [2, -3] 2 2 [1, 2, -3, -4, -5, -6, -7] (HG11.out.below (box_below _ _)) (by decide) (by decide) (fok_small (by decide)) rfl (slv_at (heap_alloc_new _ _)) (by decide) nm_u2 (by decide) (by decide) (by decide) (by decide)).mono ?_
      rintro e v12 ⟨rfl, hb⟩
      have hb' := (box_below v11 (.cells (ints [2, -3]).toArray 3 (0, 0))).trans (hb.mono (by simp only [size_al]; omega))
      have HG12 := hid (HG11.out.below hb')
      have HB12 := hid (HB11.out.trans (hb'.mono HB11.out.size))
      clear hb hb' HG11 HB11
      go_wp2_with fail
      refine (law15_decidedT (v12.alloc (.cells (ints [2, 3]).toArray 3 (0, 0))) wn.heap.size c 7 nmG4 (7) true (some ⟨v12.heap.size, 0, none⟩) [2, 3] 2 2 [1, 2, 3, 4, -5, 6, 7] (HG12.out.below (box_below _ _)) (by decide) (by decide) (fok_small (by decide)) rfl (slv_at (heap_alloc_new _ _)) (by decide) nm_u3 (by decide) (by decide) (by decide) (by decide)).mono ?_
      rintro e v13 ⟨rfl, hb⟩
      have hb' := (box_below v12 (.cells (ints [2, 3]).toArray 3 (0, 0))).trans (hb.mono (by simp only [size_al]; omega))
      have HG13 := hid (HG12.out.below hb')
      have HB13 := hid (HB12.out.trans (hb'.mono HB12.out.size))
      clear hb hb' HG12 HB12
      go_wp2_with fail
      refine (law15_decidedT (v13.alloc (.cells (ints [-2, 3]).toArray 3 (0, 0))) wn.heap.size c 7 nmG4 (7) false (some ⟨v13.heap.size, 0, none⟩) [-2, 3] 2 2 [1, -2, 3, -4, -5, -6, -7] (HG13.out.below (box_below _ _)) (by decide) (by decide) (fok_small (by decide)) rfl (slv_at (heap_alloc_new _ _)) (by decide) nm_u4 (by decide) (by decide) (by decide) (by decide)).mono ?_
      rintro e v14 ⟨rfl, hb⟩
      have hb' := (box_below v13 (.cells (ints [-2, 3]).toArray 3 (0, 0))).trans (hb.mono (by simp only [size_al]; omega))
      have HG14 := hid (HG13.out.below hb')
      have HB14 := hid (HB13.out.trans (hb'.mono HB13.out.size))
      clear hb hb' HG13 HB13
      have HBA := hid (HB10.out.trans (HB14.out.mono hszn))
      clear HG14 HB14 HB10
      go_wp2_with fail
      refine (nil_Fresh v14).mono ?_
      rintro e z1 ⟨rfl, rfl⟩
      go_wp2_with fail
      refine (nil_And v14 0 0).mono ?_
      rintro e z1 ⟨rfl, rfl⟩
      go_wp2_with fail
      refine (nil_Or v14).mono ?_
      rintro e z1 ⟨rfl, rfl⟩
      go_wp2_with fail
      refine (nil_Xor v14 0 0).mono ?_
      rintro e z1 ⟨rfl, rfl⟩
      go_wp2_with fail
      refine (nil_Mux v14 0 0 0).mono ?_
      rintro e z1 ⟨rfl, rfl⟩
      go_wp2_with fail
      refine (nil_Clause v14 _).mono ?_
      rintro e z1 ⟨rfl, rfl⟩
      go_wp2_with fail
      refine (nil_True v14).mono ?_
      rintro e z1 ⟨rfl, rfl⟩
      go_wp2_with fail
      refine (nil_Formula v14).mono ?_
      rintro e z1 ⟨rfl, hb1⟩
      have HBZ := hid (HBA.out.trans (hb1.mono HBA.out.size))
      clear hb1 HBA
      go_wp2_with fail
      refine (kit_EqualFormula 0 none [] 0 0 0 none [] 0 0 true z1 (by decide) rfl rfl (fok_small (by decide)) (fok_small (by decide)) (fun j d hj => by simp at hj) (fun j d hj => by simp at hj) (by decide)).mono ?_
      rintro e z2 ⟨rfl, hb2⟩
      have HBY := hid (HBZ.out.trans (hb2.mono HBZ.out.size))
      clear hb2 HBZ
      go_wp2_with fail
      refine (law15_awake z2).mono ?_
      rintro e z3 ⟨rfl, hb3⟩
      have HBX := hid (HBY.out.trans (hb3.mono HBY.out.size))
      clear hb3 HBY
      go_wp2_with fail
      go_ret
      exact ⟨rfl, HBX.out⟩

end Go.Proofs.Ytacmfiikdbekbaa.Ord
