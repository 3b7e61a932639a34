/- The walk of the law CnfCopies. -/
import Derived.Test.YtaekcejenagbgaaWCnfA
import Derived.Test.YtaekcejenagbgaaEqL
import Derived.Test.YtaekcejenagbgaaCopyC
import Derived.Test.YtaekcejenagbgaaRowSet
import Derived.Test.YtaekcejenagbgaaRefN
import Derived.Deep.RegionHeld3
namespace Go.Proofs.Ytaekcejenagbgaa
open Go.RowKit

theorem law02_SmallB (n : Int) (a : Option Addr) (f : List (List Int)) (m c : Nat) (r : Bool) (w : World) (hr0 : smallB f = r) (hm : m = f.length) (hf : FOk f) (hr : Rws w a f) (hl : f.length ≤ 9223372036854775807) :
    Calls Try.prog 20 #[.agg #[.int .i64 n, .slice a m c]] w fun e w' => e = .returned (.bool r) ∧ Below w.heap.size w w' :=
  (law02_SmallR n a f m c r w hr0 hm hf hr hl).mono fun _ _ ⟨he, hw⟩ => ⟨he, hw ▸ box_below _ _⟩

theorem cell_far' {w : World} {a b : Addr} {u v : Value} (h : w.cell? b = some v) (hne : ¬ b.block = a.block) : (w.setCell a u).cell? b = some v := by
  rw [World.cell?_setCell_far]
  · exact h
  · exact fun e => hne e.symm

theorem eqR_self (f : List (List Int)) : eqR f f = true := by simp [eqR]
theorem eqR_comm (f g : List (List Int)) : eqR f g = eqR g f := by simp [eqR, eq_comm]

set_option maxRecDepth 100000 in
set_option maxHeartbeats 8000000 in
theorem walk_CnfCopies (n0 : Int) (vc0 : Value) (x0 : List (List Int)) (n1 : Int) (vc1 : Value) (x1 : List (List Int)) (x2 x3 : Int) (w : World) (_wn0 : (Lit.int .i64 n0).wf = true) (w0 : ArgR .i64 w vc0 x0) (_wn1 : (Lit.int .i64 n1).wf = true) (w1 : ArgR .i64 w vc1 x1) (w2 : (Lit.int .u8 x2).wf = true) (w3 : (Lit.int .u8 x3).wf = true) :
    Calls Try.prog 18 #[.agg #[.int .i64 n0, vc0], .agg #[.int .i64 n1, vc1], .int .u8 x2, .int .u8 x3] w fun e w' => e = .returned (.bool true) ∧ Below w.heap.size w w' := by
  obtain ⟨a, c, rfl, hl, hr, hf⟩ := rows_of_arg w0
  obtain ⟨b, d, rfl, hl1, hr1, hf1⟩ := rows_of_arg w1
  have hb2 := bounds_u8 w2
  have hb3 := bounds_u8 w3
  have HF := hid hf
  have HG := hid hf1
  have HR0 := hid hr
  have HBW := hid (below_2 w (fbox n0 a x0.length c) (fbox n1 b x1.length d))
  have HRF := hid (hr.below HBW.out)
  have HRG := hid (hr1.below HBW.out)
  have HK := hid fun w => law02_known w
  clear w0 w1 w2 w3 hr hr1 hf hf1 _wn0 _wn1
  cases hs : smallB x0 with
  | false =>
    have HS := hid hs
    clear hs
    go_enter Try.func18, Try.ntmps18
    go_wp2_with fail
    refine (law02_SmallB n0 _ x0 _ _ _ _ HS.out rfl HF.out HRF.out hl).mono ?_
    rintro e w4 ⟨rfl, hb4⟩
    have HB4 := hid (HBW.out.trans (hb4.mono (by simp only [size_al]; omega)))
    clear hb4
    go_wp2_with fail
    refine (HK.out _).mono ?_
    rintro e w5 ⟨rfl, hb5⟩
    go_wp2_with fail
    go_ret
    exact ⟨rfl, HB4.out.trans (hb5.mono HB4.out.size)⟩
  | true =>
    have HS := hid hs
    have hsm := smallB_le hs
    have hlf := hsm.1
    have HCL := hid hsm.2
    clear hs hsm
    go_enter Try.func18, Try.ntmps18
    go_wp2_with fail
    refine (law02_SmallB n0 _ x0 _ _ _ _ HS.out rfl HF.out HRF.out hl).mono ?_
    rintro e w4 ⟨rfl, hb4⟩
    have HB4 := hid (HBW.out.trans (hb4.mono (by simp only [size_al]; omega)))
    have HRF4 := hid (HRF.out.below hb4)
    have HRG4 := hid (HRG.out.below hb4)
    have hz4 : w.heap.size + 2 ≤ w4.heap.size := by have := hb4.size; simpa only [size_al] using this
    have f0 : w4.cell? ⟨w.heap.size, 0, none⟩ = some (.int .i64 n0) := fit_cell (vs := [.int .i64 n0, .slice a x0.length c]) ((hb4.block _ (by simp only [size_al]; omega)).trans (blk_1 _ _ _)) 0
    have f1 : w4.cell? ⟨w.heap.size, 1, none⟩ = some (.slice a x0.length c) := fit_cell (vs := [.int .i64 n0, .slice a x0.length c]) ((hb4.block _ (by simp only [size_al]; omega)).trans (blk_1 _ _ _)) 1
    have g0 : w4.cell? ⟨w.heap.size + 1, 0, none⟩ = some (.int .i64 n1) := fit_cell (vs := [.int .i64 n1, .slice b x1.length d]) ((hb4.block _ (by simp only [size_al]; omega)).trans (blk_2 _ _ _)) 0
    have g1 : w4.cell? ⟨w.heap.size + 1, 1, none⟩ = some (.slice b x1.length d) := fit_cell (vs := [.int .i64 n1, .slice b x1.length d]) ((hb4.block _ (by simp only [size_al]; omega)).trans (blk_2 _ _ _)) 1
    clear hb4
    cases hs1 : smallB x1 with
    | false =>
      have HS1 := hid hs1
      clear hs1
      go_wp2_with fail
      refine (law02_SmallB n1 _ x1 _ _ _ _ HS1.out rfl HG.out HRG4.out hl1).mono ?_
      rintro e w5 ⟨rfl, hb5⟩
      have HB5 := hid (HB4.out.trans (hb5.mono HB4.out.size))
      clear hb5
      go_wp2_with fail
      refine (HK.out _).mono ?_
      rintro e w6 ⟨rfl, hb6⟩
      go_wp2_with fail
      go_ret
      exact ⟨rfl, HB5.out.trans (hb6.mono HB5.out.size)⟩
    | true =>
      have HS1 := hid hs1
      clear hs1
      go_wp2_with fail
      refine (law02_SmallB n1 _ x1 _ _ _ _ HS1.out rfl HG.out HRG4.out hl1).mono ?_
      rintro e w5 ⟨rfl, hb5⟩
      have HB5 := hid (HB4.out.trans (hb5.mono HB4.out.size))
      have HRF5 := hid (HRF4.out.below hb5)
      have HRG5 := hid (HRG4.out.below hb5)
      have hz5 := hb5.size
      have f50 := below_keeps hb5 _ _ f0
      have f51 := below_keeps hb5 _ _ f1
      have g50 := below_keeps hb5 _ _ g0
      have g51 := below_keeps hb5 _ _ g1
      clear hb5 f0 f1 g0 g1
      go_wp2_with fail
      refine (cnf_Copy n0 a x0 _ c w5 rfl HF.out HRF5.out (by omega) (fun c hc => by have := HCL.out c hc; omega)).mono ?_
      rintro e w6 ⟨rfl, ho6, hb6⟩
      obtain ⟨b6, ha6⟩ : ∃ b6, b6 = w5.heap.size + 1 + 1 := ⟨_, rfl⟩
      rw [← ha6] at ho6 ⊢
      have HO6 := hid ho6
      have HA6 := hid ha6
      have HB6 := hid (HB5.out.trans (hb6.mono HB5.out.size))
      have HRF6 := hid (HRF5.out.below hb6)
      have HRG6 := hid (HRG5.out.below hb6)
      have hz6 := hb6.size
      have f60 := below_keeps hb6 _ _ f50
      have f61 := below_keeps hb6 _ _ f51
      have g60 := below_keeps hb6 _ _ g50
      have g61 := below_keeps hb6 _ _ g51
      clear hb6 f50 f51 g50 g51 ho6 ha6
      go_upto_region 4 with fail
      obtain ⟨q, hq⟩ : ∃ q, ((n0 == n1) && eqR x0 x1) = q := ⟨_, rfl⟩
      have hq2 : ((n1 == n0) && eqR x1 x0) = q := by rw [← hq, eqR_comm x1 x0, Bool.beq_comm]
      have HQ := hid hq
      have HQ2 := hid hq2
      have HRC6 : Hid (Rws w6 (some ⟨b6, 0, none⟩) x0) := by
        obtain ⟨a', c', e1, -, -, e4⟩ := HO6.out.shape
        injection e1 with e1
        rw [e1]
        exact e4
      clear hq hq2
      have HT : Hid (((n0 == n0) && eqR x0 x0) = true) := by simp [Hid, eqR_self]
      have hb60 : Below w6.heap.size w6 (w6.alloc (.cells #[.int .i64 n0, .slice (some ⟨b6, 0, none⟩) x0.length x0.length] 24)) := box_below _ _
      have hs60 : w6.heap.size + 1 ≤ (w6.alloc (.cells #[.int .i64 n0, .slice (some ⟨b6, 0, none⟩) x0.length x0.length] 24)).drew.heap.size := by show _ ≤ (w6.alloc _).heap.size; simp only [size_al]; omega
      have c0' : (w6.alloc (.cells #[.int .i64 n0, .slice (some ⟨b6, 0, none⟩) x0.length x0.length] 24)).cell? ⟨w6.heap.size, 0, none⟩ = some (.int .i64 n0) := fit_cell (vs := [.int .i64 n0, .slice (some ⟨b6, 0, none⟩) x0.length x0.length]) (heap_alloc_new w6 _) 0
      have c1' : (w6.alloc (.cells #[.int .i64 n0, .slice (some ⟨b6, 0, none⟩) x0.length x0.length] 24)).cell? ⟨w6.heap.size, 1, none⟩ = some (.slice (some ⟨b6, 0, none⟩) x0.length x0.length) := fit_cell (vs := [.int .i64 n0, .slice (some ⟨b6, 0, none⟩) x0.length x0.length]) (heap_alloc_new w6 _) 1
      have f60' := below_keeps hb60 _ _ f60
      have f61' := below_keeps hb60 _ _ f61
      have g60' := below_keeps hb60 _ _ g60
      have g61' := below_keeps hb60 _ _ g61
      go_cut [50] (fun s50 wx => s50 = .bool false ∧ Hid (Below w6.heap.size w6 wx) ∧ w6.heap.size + 1 ≤ wx.heap.size ∧ Hid (wx.cell? ⟨w.heap.size, 0, none⟩ = some (.int .i64 n0)) ∧ Hid (wx.cell? ⟨w.heap.size, 1, none⟩ = some (.slice a x0.length c)) ∧ Hid (wx.cell? ⟨w6.heap.size, 0, none⟩ = some (.int .i64 n0)) ∧ Hid (wx.cell? ⟨w6.heap.size, 1, none⟩ = some (.slice (some ⟨b6, 0, none⟩) x0.length x0.length)))
      case first =>
        go_region_held3 (fun x => x.cell? ⟨w.heap.size, 0, none⟩ = some (.int .i64 n0) ∧ x.cell? ⟨w.heap.size, 1, none⟩ = some (.slice a x0.length c) ∧ x.cell? ⟨w.heap.size + 1, 0, none⟩ = some (.int .i64 n1) ∧ x.cell? ⟨w.heap.size + 1, 1, none⟩ = some (.slice b x1.length d) ∧ x.cell? ⟨w6.heap.size, 0, none⟩ = some (.int .i64 n0) ∧ x.cell? ⟨w6.heap.size, 1, none⟩ = some (.slice (some ⟨b6, 0, none⟩) x0.length x0.length) ∧ Below w6.heap.size w6 x ∧ w6.heap.size + 1 ≤ x.heap.size)
          (first | exact ⟨f60', f61', g60', g61', c0', c1', hb60.drew, hs60⟩ | exact ⟨(hb9.cell (p := ⟨w.heap.size, 0, none⟩) (by show w.heap.size < _; omega)).trans s1, (hb9.cell (p := ⟨w.heap.size, 1, none⟩) (by show w.heap.size < _; omega)).trans s2, (hb9.cell (p := ⟨w.heap.size + 1, 0, none⟩) (by show w.heap.size + 1 < _; omega)).trans s3, (hb9.cell (p := ⟨w.heap.size + 1, 1, none⟩) (by show w.heap.size + 1 < _; omega)).trans s4, (hb9.cell (p := ⟨w6.heap.size, 0, none⟩) (by show w6.heap.size < _; omega)).trans s5, (hb9.cell (p := ⟨w6.heap.size, 1, none⟩) (by show w6.heap.size < _; omega)).trans s6, s7.trans (hb9.mono (by omega)), by omega⟩)
          (first
            | (go_at_call 44; obtain ⟨s1, s2, s3, s4, s5, s6, s7, s8⟩ := (by assumption : (fun x => x.cell? ⟨w.heap.size, 0, none⟩ = some (.int .i64 n0) ∧ x.cell? ⟨w.heap.size, 1, none⟩ = some (.slice a x0.length c) ∧ x.cell? ⟨w.heap.size + 1, 0, none⟩ = some (.int .i64 n1) ∧ x.cell? ⟨w.heap.size + 1, 1, none⟩ = some (.slice b x1.length d) ∧ x.cell? ⟨w6.heap.size, 0, none⟩ = some (.int .i64 n0) ∧ x.cell? ⟨w6.heap.size, 1, none⟩ = some (.slice (some ⟨b6, 0, none⟩) x0.length x0.length) ∧ Below w6.heap.size w6 x ∧ w6.heap.size + 1 ≤ x.heap.size) _); ((with_reducible refine (kit_EqualFormula n0 _ x0 _ _ n0 _ x0 _ _ true _ HT.out rfl rfl HF.out HF.out (HRC6.out.below s7) (HRF6.out.below s7) hl).mono ?_); rintro e w9 ⟨rfl, hb9⟩; have hz9 := hb9.size))
            | (go_at_call 44; obtain ⟨s1, s2, s3, s4, s5, s6, s7, s8⟩ := (by assumption : (fun x => x.cell? ⟨w.heap.size, 0, none⟩ = some (.int .i64 n0) ∧ x.cell? ⟨w.heap.size, 1, none⟩ = some (.slice a x0.length c) ∧ x.cell? ⟨w.heap.size + 1, 0, none⟩ = some (.int .i64 n1) ∧ x.cell? ⟨w.heap.size + 1, 1, none⟩ = some (.slice b x1.length d) ∧ x.cell? ⟨w6.heap.size, 0, none⟩ = some (.int .i64 n0) ∧ x.cell? ⟨w6.heap.size, 1, none⟩ = some (.slice (some ⟨b6, 0, none⟩) x0.length x0.length) ∧ Below w6.heap.size w6 x ∧ w6.heap.size + 1 ≤ x.heap.size) _); ((with_reducible refine (kit_EqualFormula n0 _ x0 _ _ n1 _ x1 _ _ q _ HQ.out rfl rfl HF.out HG.out (HRF6.out.below s7) (HRG6.out.below s7) hl).mono ?_); rintro e w9 ⟨rfl, hb9⟩; have hz9 := hb9.size))
            | (go_at_call 42; obtain ⟨s1, s2, s3, s4, s5, s6, s7, s8⟩ := (by assumption : (fun x => x.cell? ⟨w.heap.size, 0, none⟩ = some (.int .i64 n0) ∧ x.cell? ⟨w.heap.size, 1, none⟩ = some (.slice a x0.length c) ∧ x.cell? ⟨w.heap.size + 1, 0, none⟩ = some (.int .i64 n1) ∧ x.cell? ⟨w.heap.size + 1, 1, none⟩ = some (.slice b x1.length d) ∧ x.cell? ⟨w6.heap.size, 0, none⟩ = some (.int .i64 n0) ∧ x.cell? ⟨w6.heap.size, 1, none⟩ = some (.slice (some ⟨b6, 0, none⟩) x0.length x0.length) ∧ Below w6.heap.size w6 x ∧ w6.heap.size + 1 ≤ x.heap.size) _); ((with_reducible refine (cnf_Equal n0 _ x0 _ _ n0 _ x0 _ _ true _ HT.out rfl rfl HF.out HF.out (HRF6.out.below s7) (HRC6.out.below s7) hl).mono ?_); rintro e w9 ⟨rfl, hb9⟩; have hz9 := hb9.size))
            | (go_at_call 42; obtain ⟨s1, s2, s3, s4, s5, s6, s7, s8⟩ := (by assumption : (fun x => x.cell? ⟨w.heap.size, 0, none⟩ = some (.int .i64 n0) ∧ x.cell? ⟨w.heap.size, 1, none⟩ = some (.slice a x0.length c) ∧ x.cell? ⟨w.heap.size + 1, 0, none⟩ = some (.int .i64 n1) ∧ x.cell? ⟨w.heap.size + 1, 1, none⟩ = some (.slice b x1.length d) ∧ x.cell? ⟨w6.heap.size, 0, none⟩ = some (.int .i64 n0) ∧ x.cell? ⟨w6.heap.size, 1, none⟩ = some (.slice (some ⟨b6, 0, none⟩) x0.length x0.length) ∧ Below w6.heap.size w6 x ∧ w6.heap.size + 1 ≤ x.heap.size) _); ((with_reducible refine (cnf_Equal n0 _ x0 _ _ n1 _ x1 _ _ q _ HQ.out rfl rfl HF.out HG.out (HRF6.out.below s7) (HRG6.out.below s7) hl).mono ?_); rintro e w9 ⟨rfl, hb9⟩; have hz9 := hb9.size))
            | (go_at_call 42; obtain ⟨s1, s2, s3, s4, s5, s6, s7, s8⟩ := (by assumption : (fun x => x.cell? ⟨w.heap.size, 0, none⟩ = some (.int .i64 n0) ∧ x.cell? ⟨w.heap.size, 1, none⟩ = some (.slice a x0.length c) ∧ x.cell? ⟨w.heap.size + 1, 0, none⟩ = some (.int .i64 n1) ∧ x.cell? ⟨w.heap.size + 1, 1, none⟩ = some (.slice b x1.length d) ∧ x.cell? ⟨w6.heap.size, 0, none⟩ = some (.int .i64 n0) ∧ x.cell? ⟨w6.heap.size, 1, none⟩ = some (.slice (some ⟨b6, 0, none⟩) x0.length x0.length) ∧ Below w6.heap.size w6 x ∧ w6.heap.size + 1 ≤ x.heap.size) _); ((with_reducible refine (cnf_Equal n1 _ x1 _ _ n0 _ x0 _ _ q _ HQ2.out rfl rfl HG.out HF.out (HRG6.out.below s7) (HRF6.out.below s7) hl1).mono ?_); rintro e w9 ⟨rfl, hb9⟩; have hz9 := hb9.size)))
        all_goals
          obtain ⟨s1, s2, s3, s4, s5, s6, s7, s8⟩ := (by assumption : (fun x => x.cell? ⟨w.heap.size, 0, none⟩ = some (.int .i64 n0) ∧ x.cell? ⟨w.heap.size, 1, none⟩ = some (.slice a x0.length c) ∧ x.cell? ⟨w.heap.size + 1, 0, none⟩ = some (.int .i64 n1) ∧ x.cell? ⟨w.heap.size + 1, 1, none⟩ = some (.slice b x1.length d) ∧ x.cell? ⟨w6.heap.size, 0, none⟩ = some (.int .i64 n0) ∧ x.cell? ⟨w6.heap.size, 1, none⟩ = some (.slice (some ⟨b6, 0, none⟩) x0.length x0.length) ∧ Below w6.heap.size w6 x ∧ w6.heap.size + 1 ≤ x.heap.size) _)
          go_wp2_with fail
          go_meet
          case rel => exact ⟨by first | rfl | (cases q <;> rfl), s7, s8, s1, s2, s5, s6⟩
      case rest =>
        obtain ⟨rfl, hbx, hzx, d1, d2, d3, d4⟩ := hcut
        have hd1 := d1.out
        have hd2 := d2.out
        have hd3 := d3.out
        have hd4 := d4.out
        have HBX := hid (HB6.out.trans (hbx.out.mono (by omega)))
        clear d1 d2 d3 d4 f60 f61 g60 g61 f60' f61' g60' g61' c0' c1' hb60 hs60
        cases hlz : ((x0.length : Int) == 0) with
        | true =>
          go_wp2_with fail
          refine (HK.out _).mono ?_
          rintro e w7 ⟨rfl, hb7⟩
          go_wp2_with fail
          go_ret
          exact ⟨rfl, HBX.out.trans (hb7.mono HBX.out.size)⟩
        | false =>
          have hlp : 0 < x0.length := by have := beq_eq_false_iff_ne.1 hlz; omega
          obtain ⟨ii, hii⟩ : ∃ ii, ii = x2.toNat % x0.length := ⟨_, rfl⟩
          have hil : ii < x0.length := by rw [hii]; exact Nat.mod_lt _ hlp
          have hrem : x2.tmod (x0.length : Int) = (ii : Int) := by
            rw [hii, Int.tmod_eq_emod_of_nonneg hb2.1, Int.natCast_emod, Int.toNat_of_nonneg hb2.1]
          have hw2 : IntKind.i64.wrap x2 = x2 := IntWalk.i64_in x2 (by omega)
          have hwi : IntKind.i64.wrap (ii : Int) = ii := IntWalk.i64_in _ (by omega)
          have hi1 : (ii : Int) < x0.length := by omega
          have hnz : ¬ (x0.length : Int) = 0 := by omega
          obtain ⟨vs, hv16, hv26⟩ := HO6.out
          have hv1 := own_below hv16 hbx.out
          obtain ⟨cl, hcl⟩ : ∃ cl, x0[ii]? = some cl := ⟨x0[ii], by simp [hil]⟩
          obtain ⟨u, hvu, hou6⟩ := hv26 ii cl hcl
          have hou := own_below hou6 hbx.out
          have hult := hid (fun q hq => (hou6.lt q hq).2)
          have hv2 : ∀ (j : Nat) (c : List Int), x0[j]? = some c → ∃ u, vs[j]? = some u ∧ wc.ownsRow w5.heap.size 3 1 u c.length (ints c) := fun j c hj => let ⟨u, e1, e2⟩ := hv26 j c hj; ⟨u, e1, own_below e2 hbx.out⟩
          have hcl40 : cl.length ≤ 40 := HCL.out cl (List.mem_of_getElem? hcl)
          have hcell : wc.cell? ⟨b6, ii, none⟩ = some u := by
            rw [hv1.cellAt ii (by omega)]; exact hvu
          obtain ⟨al, cc, rfl, halc, haln, hsl⟩ := own_sli hou
          have HSL := hid hsl
          have HV1 := hid hv1
          have HV2 := hid hv2
          have HCLX := hid hcl
          have HVU := hid hvu
          have HOU := hid hou
          have HII := hid hii
          clear hv1 hv2 hv16 hv26 hcl hvu hou hou6 hii hsl
          cases hlc : ((cl.length : Int) == 0) with
          | true =>
            go_wp2_with fail
            go_quiet (fail)
            go_wp2_with fail
            refine (HK.out _).mono ?_
            rintro e w7 ⟨rfl, hb7⟩
            go_wp2_with fail
            go_ret
            exact ⟨rfl, (below_dr HBX.out _).trans (hb7.mono HBX.out.size)⟩
          | false =>
            have hcp : 0 < cl.length := by have := beq_eq_false_iff_ne.1 hlc; omega
            obtain ⟨g, cg, hform⟩ := own_form HOU.out hcp
            injection hform with hf1 hf2 hf3
            subst hf1
            go_wp2_with fail
            go_quiet (fail)
            clear hw2 hwi hrem
            go_wp2_with fail
            refine (kit_CopyFormula n0 a x0 _ c _ rfl HF.out ((HRF6.out.below hbx.out).drewN _) (by omega) (fun c hc => by have := HCL.out c hc; omega)).mono ?_
            rintro e w7 ⟨a7, c7, rfl, h7c, ho7, hr7, hb7⟩
            obtain ⟨kk, hkk⟩ : ∃ kk, kk = x3.toNat % cl.length := ⟨_, rfl⟩
            have hkl : kk < cl.length := by rw [hkk]; exact Nat.mod_lt _ hcp
            have hrem : x3 % (cl.length : Int) = (kk : Int) := by
              rw [hkk, Int.natCast_emod, Int.toNat_of_nonneg hb3.1]
            obtain ⟨x, hx⟩ : ∃ x, cl[kk]? = some x := ⟨cl[kk], by simp [hkl]⟩
            have hxI : I64 x := (HF.out cl (List.mem_of_getElem? HCLX.out)).1 x (List.mem_of_getElem? hx)
            obtain ⟨y, hy⟩ : ∃ y, wrap64 (x + 1) = y := ⟨_, rfl⟩
            have hyI : I64 y := by
              unfold I64 at hxI ⊢
              rw [← hy]
              unfold wrap64
              omega
            have hyx : y ≠ x := by
              unfold I64 at hxI
              rw [← hy]
              unfold wrap64
              omega
            have hou7 : w7.ownsRow w5.heap.size 3 1 (.slice (some ⟨g, 0, none⟩) cl.length cc) cl.length (ints cl) := own_below (w := wc.drewN nq) HOU.out hb7
            have hgl := (hou7.lt g rfl).2
            have hgl0 := (hou7.lt g rfl).1
            have hgl6 : g < w6.heap.size := hult.out g rfl
            have ne1 : ¬ g = w.heap.size := by omega
            have ne2 : ¬ w.heap.size = g := by omega
            have ne3 : ¬ g = w6.heap.size := by omega
            have ne4 : ¬ w6.heap.size = g := by omega
            have ne5 : ¬ g = w7.heap.size := by omega
            have ne6 : ¬ w7.heap.size = g := by omega
            have hv7 : w7.ownsRow w5.heap.size 40 1 (.slice (some ⟨b6, 0, none⟩) x0.length x0.length) x0.length vs := own_below (w := wc.drewN nq) HV1.out hb7
            have hin7 : ∀ (j : Nat) (c : List Int), x0[j]? = some c → ∃ u, vs[j]? = some u ∧ w7.ownsRow w5.heap.size 3 1 u c.length (ints c) := fun j c hj => let ⟨u, e1, e2⟩ := HV2.out j c hj; ⟨u, e1, own_below (w := wc.drewN nq) e2 hb7⟩
            have hrs := (rows_set (kk := kk) (y := y) hv7 hin7 hou7).below (box_below _ (.cells #[.int .i64 n0, .slice a7 x0.length c7] 24))
            have hcx : w7.cell? ⟨g, kk, none⟩ = some (.int .i64 x) := by rw [hou7.cellAt kk (by omega)]; exact ints_get hx
            have hfx : w7.frozen? ⟨g, kk, none⟩ = false := hou7.frozenAt kk
            have hne := setRows_ne (g := g) (y := y) HCLX.out HVU.out rfl hx hyx
            have hbox := box_below (w7.setCell ⟨g, kk, none⟩ (.int .i64 y)) (.cells #[.int .i64 n0, .slice a7 x0.length c7] 24)
            have t1 := below_keeps hbox _ _ (cell_far' (a := ⟨g, kk, none⟩) (u := .int .i64 y) (below_keeps hb7 _ _ hd1) ne2)
            have t2 := below_keeps hbox _ _ (cell_far' (a := ⟨g, kk, none⟩) (u := .int .i64 y) (below_keeps hb7 _ _ hd2) ne2)
            have t3 := below_keeps hbox _ _ (cell_far' (a := ⟨g, kk, none⟩) (u := .int .i64 y) (below_keeps hb7 _ _ hd3) ne4)
            have t4 := below_keeps hbox _ _ (cell_far' (a := ⟨g, kk, none⟩) (u := .int .i64 y) (below_keeps hb7 _ _ hd4) ne4)
            have hsz9 : (w7.setCell ⟨g, kk, none⟩ (.int .i64 y)).heap.size = w7.heap.size := by simp [World.setCell]
            have hblk9 := heap_alloc_new (w7.setCell ⟨g, kk, none⟩ (.int .i64 y)) (.cells #[.int .i64 n0, .slice a7 x0.length c7] 24)
            rw [hsz9] at hblk9
            have t5 := fit_cell (vs := [.int .i64 n0, .slice a7 x0.length c7]) hblk9 0
            have t6 := fit_cell (vs := [.int .i64 n0, .slice a7 x0.length c7]) hblk9 1
            simp only [List.getElem?_cons_zero, List.getElem?_cons_succ] at t5 t6
            have HRS := hid hrs
            have HNE := hid hne
            have HO7 := hid ho7
            have hz7 := hb7.size
            simp only [heap_dr] at hz7
            have HB7 := hid ((below_dr HBX.out _).trans (hb7.mono HBX.out.size))
            have HBB := hid hbox
            clear hblk9 hsz9 hbox
            clear hd1 hd2 hd3 hd4 hou7 hv7 hin7 hrs hne hx hkk ho7 hr7 hb7 hcell
            go_wp2_with fail
            have hB9 : Below w.heap.size w ((w7.setCell ⟨g, kk, none⟩ (.int .i64 y)).alloc (.cells #[.int .i64 n0, .slice a7 x0.length c7] 24)) := (HB7.out.setCell (by show w.heap.size ≤ g; omega) _).trans (HBB.out.mono (by simp only [World.setCell, Array.size_modify]; exact HB7.out.size))
            have hR9 := HR0.out.below hB9
            have hW9 : Rws ((w7.setCell ⟨g, kk, none⟩ (.int .i64 y)).alloc (.cells #[.int .i64 n0, .slice a7 x0.length c7] 24)) a7 x0 := by
              obtain ⟨a', c', e1, -, -, e4⟩ := ((HO7.out.setBelow (a := ⟨g, kk, none⟩) (by show g < wc.heap.size; omega) (.int .i64 y)).below HBB.out).shape
              injection e1 with e1
              rw [← e1] at e4; exact e4
            have hC9 : Rws ((w7.setCell ⟨g, kk, none⟩ (.int .i64 y)).alloc (.cells #[.int .i64 n0, .slice a7 x0.length c7] 24)) (some ⟨b6, 0, none⟩) (setRows vs x0 g kk y) := by
              obtain ⟨a', c', e1, -, -, e4⟩ := HRS.out.shape
              injection e1 with e1
              rw [← e1] at e4; exact e4
            have hFS : FOk (setRows vs x0 g kk y) := fun d hd => by
              obtain ⟨c0, hc0, hlen, hmem⟩ := setRows_mem hd
              have := HF.out c0 hc0
              exact ⟨fun z hz => by rcases hmem z hz with h | h; exact this.1 z h; exact h ▸ hyI, by omega⟩
            have hNE : ((n0 == n0) && eqR x0 (setRows vs x0 g kk y)) = false := by
              have := HNE.out
              simp [eqR, this]
            have hsl : x0.length = (setRows vs x0 g kk y).length := (setRows_length vs x0 g kk y).symm
            have HB9 := hid hB9
            have HC9 := hid hC9
            have HFS := hid hFS
            have HNEQ := hid hNE
            have HSLN := hid hsl
            have HR9 := hid hR9
            have HW9 := hid hW9
            clear hB9 hR9 hW9 hC9 hFS hNE hsl
            refine (kit_EqualFormula n0 _ x0 _ _ n0 _ x0 _ _ true _ HT.out rfl rfl HF.out HF.out HR9.out HW9.out hl).mono ?_
            rintro e w10 ⟨rfl, hb10⟩
            have HB10 := hid (HB9.out.trans (hb10.mono HB9.out.size))
            have HR10 := hid (HR9.out.below hb10)
            have HC10 := hid (HC9.out.below hb10)
            have u1 := below_keeps hb10 _ _ t1
            have u2 := below_keeps hb10 _ _ t2
            have u3 := below_keeps hb10 _ _ t3
            have u4 := below_keeps hb10 _ _ t4
            clear hb10 t1 t2 t3 t4 t5 t6
            go_wp2_with fail
            refine (cnf_Equal n0 _ x0 _ _ n0 _ (setRows vs x0 g kk y) _ _ false _ HNEQ.out rfl HSLN.out HF.out HFS.out HR10.out HC10.out hl).mono ?_
            rintro e w11 ⟨rfl, hb11⟩
            have HB11 := hid (HB10.out.trans (hb11.mono HB10.out.size))
            clear hb11
            go_wp2_with fail
            refine (HK.out _).mono ?_
            rintro e w12 ⟨rfl, hb12⟩
            go_wp2_with fail
            go_ret
            exact ⟨rfl, HB11.out.trans (hb12.mono HB11.out.size)⟩

end Go.Proofs.Ytaekcejenagbgaa
