/- The walks of the laws CnfChecks and CnfFirsts. -/
import Derived.Test.YtaekcejenagbgaaCnfC
import Derived.Test.YtaekcejenagbgaaOpen
namespace Go.Proofs.Ytaekcejenagbgaa
open Go.RowKit

theorem rows_of_arg {w : World} {v : Value} {f : List (List Int)} (h : ArgR .i64 w v f) :
    ∃ a c, v = .slice a f.length c ∧ f.length ≤ 9223372036854775807 ∧ Rws w a f ∧ FOk f := by
  obtain ⟨a, c, rfl, h1, h2, _, h4⟩ := h
  unfold maxLen at h2
  refine ⟨a, c, rfl, by omega, fun j xs hj => ?_, fun xs hxs => ?_⟩
  · obtain ⟨b, off, u, e1, e2, a', c', e3, e4, e5, e6, e7, _⟩ := h4 j xs hj
    exact ⟨b, off, u, e1, e2, a', c', e3, e4, e6, e7⟩
  · obtain ⟨j, hj, rfl⟩ := List.getElem_of_mem hxs
    obtain ⟨b, off, u, e1, e2, a', c', e3, e4, e5, e6, e7, e8⟩ := h4 j _ (List.getElem?_eq_getElem hj)
    unfold maxLen at e5
    exact ⟨fun x hx => i64_of_wf (e8 x hx), by omega⟩

theorem law02_SmallR (n : Int) (a : Option Addr) (f : List (List Int)) (m c : Nat) (r : Bool) (w : World) (hr0 : smallB f = r) (hm : m = f.length) (hf : FOk f) (hr : Rws w a f) (hl : f.length ≤ 9223372036854775807) :
    Calls Try.prog 20 #[.agg #[.int .i64 n, .slice a m c]] w fun e w' => e = .returned (.bool r) ∧ w.alloc (fbox n a m c) = w' := hr0 ▸ law02_Small n a f m c w hm hf hr hl

set_option maxHeartbeats 1000000 in
theorem walk_CnfChecks (n0 : Int) (vc0 : Value) (x0 : List (List Int)) (w : World) (_wn0 : (Lit.int .i64 n0).wf = true) (w0 : ArgR .i64 w vc0 x0) :
    Calls Try.prog 3 #[.agg #[.int .i64 n0, vc0]] w fun e w' => e = .returned (.bool true) ∧ Below w.heap.size w w' := by
  obtain ⟨a, c, rfl, hl, hr, hf⟩ := rows_of_arg w0
  have HF := hid hf
  have hb1 : Below w.heap.size w (w.alloc (fbox n0 a x0.length c)) := box_below _ _
  have hb2 : Below w.heap.size w ((w.alloc (fbox n0 a x0.length c)).alloc (fbox n0 a x0.length c)) := below_al hb1 (by simp only [size_al]; omega) _
  have hb3 : Below w.heap.size w (((w.alloc (fbox n0 a x0.length c)).alloc (fbox n0 a x0.length c)).alloc (fbox n0 a x0.length c)) := below_al hb2 (by simp only [size_al]; omega) _
  have hb4 : Below w.heap.size w ((((w.alloc (fbox n0 a x0.length c)).alloc (fbox n0 a x0.length c)).alloc (fbox n0 a x0.length c)).alloc (fbox n0 a x0.length c)) := below_al hb3 (by simp only [size_al]; omega) _
  have HR1 := hid (hr.below hb1)
  have HR2 := hid (hr.below hb2)
  have HR3 := hid (hr.below hb3)
  have HB2 := hid hb2
  have HB4 := hid hb4
  obtain ⟨e0, he0⟩ : ∃ e0, cnfCheck n0 x0 = e0 := ⟨_, rfl⟩
  have HE := hid he0
  clear w0 hr hf hb1 hb2 hb3 hb4 he0
  cases hs : smallB x0 with
  | false =>
    have HS := hid hs
    clear hs
    go_enter Try.func3, Try.ntmps3
    go_wp2_with fail
    refine (law02_SmallR n0 _ x0 _ _ _ _ HS.out rfl HF.out HR1.out hl).mono ?_
    rintro e w1 ⟨rfl, rfl⟩
    go_wp2_with (go_at_call 21; refine (law02_known _).mono ?_; rintro e w' ⟨rfl, hb⟩)
    go_ret
    exact ⟨rfl, HB2.out.trans (hb.mono (by simp only [size_al]; omega))⟩
  | true =>
    have HS := hid hs
    clear hs
    go_enter Try.func3, Try.ntmps3
    go_wp2_with fail
    refine (law02_SmallR n0 _ x0 _ _ _ _ HS.out rfl HF.out HR1.out hl).mono ?_
    rintro e w1 ⟨rfl, rfl⟩
    go_wp2_with fail
    go_region_with (first
      | (go_at_call 22; refine (cnf_CheckR n0 _ x0 _ _ _ _ HE.out rfl HF.out ?_ hl).mono ?_; exact HR2.out; rintro e w2 ⟨rfl, rfl⟩)
      | (go_at_call 23; refine (ref02_CheckR n0 _ x0 _ _ _ _ HE.out rfl HF.out ?_ hl).mono ?_; exact HR3.out; rintro e w2 ⟨rfl, nd, rfl⟩)
      | (go_at_call 21; refine (law02_known _).mono ?_; rintro e w3 ⟨rfl, hb⟩))
    all_goals
      go_wp2_with fail
      go_ret
      exact ⟨rfl, (below_dr HB4.out _).trans (hb.mono (by simp only [heap_dr, size_al]; omega))⟩

set_option maxHeartbeats 1000000 in
theorem walk_CnfFirsts (n0 : Int) (vc0 : Value) (x0 : List (List Int)) (v1 : Value) (x1 : List Bool) (w : World) (_wn0 : (Lit.int .i64 n0).wf = true) (w0 : ArgR .i64 w vc0 x0) (w1 : ArgB w v1 x1) :
    Calls Try.prog 4 #[.agg #[.int .i64 n0, vc0], v1] w fun e w' => e = .returned (.bool true) ∧ Below w.heap.size w w' := by
  obtain ⟨a, c, rfl, hl, hr, hf⟩ := rows_of_arg w0
  obtain ⟨a1, c1, rfl, hle1, hm1, hn1, hs1⟩ := w1
  have HF := hid hf
  have hb1 : Below w.heap.size w (w.alloc (fbox n0 a x0.length c)) := box_below _ _
  have hb2 : Below w.heap.size w ((w.alloc (fbox n0 a x0.length c)).alloc (fbox n0 a x0.length c)) := below_al hb1 (by simp only [size_al]; omega) _
  have HR1 := hid (hr.below hb1)
  have HR2 := hid (hr.below hb2)
  have HM2 := hid (hs1.below hb2)
  have HR := hid hr
  have HM := hid hs1
  have HB2 := hid hb2
  clear w0 hr hf hb1 hb2 hs1 hn1 hm1
  obtain ⟨r, hr⟩ : ∃ r, cnfFirst n0 x0 x1 = r := ⟨_, rfl⟩
  obtain ⟨i, e0⟩ := r
  have HCF := hid hr
  clear hr
  have hd : smallB x0 = false ∨ (smallB x0 = true ∧ decide ((200 : Int) < x1.length) = true) ∨ (smallB x0 = true ∧ decide ((200 : Int) < x1.length) = false) := by
    cases smallB x0 <;> cases decide ((200 : Int) < x1.length) <;> simp
  rcases hd with hs | ⟨hs, hd⟩ | ⟨hs, hd⟩
  · have HS := hid hs
    clear hs
    go_enter Try.func4, Try.ntmps4
    go_wp2_with fail
    refine (law02_SmallR n0 _ x0 _ _ _ _ HS.out rfl HF.out HR1.out hl).mono ?_
    rintro e w1 ⟨rfl, rfl⟩
    go_wp2_with (go_at_call 21; refine (law02_known _).mono ?_; rintro e w' ⟨rfl, hb⟩)
    go_ret
    exact ⟨rfl, HB2.out.trans (hb.mono (by simp only [size_al]; omega))⟩
  · have HS := hid hs
    clear hs
    go_enter Try.func4, Try.ntmps4
    go_wp2_with fail
    refine (law02_SmallR n0 _ x0 _ _ _ _ HS.out rfl HF.out HR1.out hl).mono ?_
    rintro e w1 ⟨rfl, rfl⟩
    go_wp2_with (go_at_call 21; refine (law02_known _).mono ?_; rintro e w' ⟨rfl, hb⟩)
    go_ret
    exact ⟨rfl, HB2.out.trans (hb.mono (by simp only [size_al]; omega))⟩
  · have HS := hid hs
    have hl2 : x1.length ≤ 9223372036854775807 := by simp at hd; omega
    clear hs
    go_enter Try.func4, Try.ntmps4
    go_wp2_with fail
    refine (law02_SmallR n0 _ x0 _ _ _ _ HS.out rfl HF.out HR1.out hl).mono ?_
    rintro e w1 ⟨rfl, rfl⟩
    go_wp2_with fail
    refine (cnf_FirstR n0 _ x0 _ _ _ x1 _ _ i e0 _ HCF.out rfl rfl HF.out HR2.out HM2.out hl hl2).mono ?_
    rintro e w2 ⟨rfl, hb2⟩
    have hB2 : Below w.heap.size w w2 := HB2.out.trans (hb2.mono (by simp only [size_al]; omega))
    have HB := hid hB2
    have hq0 := hb2.cell (p := ⟨w.heap.size, 0, none⟩) (by simp only [size_al]; omega)
    have hq1 := hb2.cell (p := ⟨w.heap.size, 1, none⟩) (by simp only [size_al]; omega)
    have HR3 := hid (HR.out.below hB2)
    have HM3 := hid (HM.out.below hB2)
    clear hb2 hB2
    go_wp2_with fail
    refine (ref02_FirstR n0 _ x0 _ _ _ x1 _ _ i e0 _ HCF.out rfl rfl HF.out HR3.out HM3.out hl hl2).mono ?_
    rintro e w3 ⟨rfl, hb3⟩
    have HB3 := hid (HB.out.trans (hb3.mono HB.out.size))
    clear hb3
    go_wp2_with (go_at_call 21; refine (law02_known _).mono ?_; rintro e w' ⟨rfl, hb⟩)
    go_ret
    exact ⟨rfl, HB3.out.trans (hb.mono HB3.out.size)⟩

end Go.Proofs.Ytaekcejenagbgaa
