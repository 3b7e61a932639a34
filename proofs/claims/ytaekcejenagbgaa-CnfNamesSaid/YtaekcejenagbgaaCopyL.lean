/- The contracts of the kit package's CopyLists and CopyFormula. -/
import Derived.Test.YtaekcejenagbgaaOwnRw
import Derived.Test.YtaekcejenagbgaaKit
namespace Go.Proofs.Ytaekcejenagbgaa
open Go.RowKit

theorem Rws.drewN {w : World} {a : Option Addr} {f : List (List Int)} (h : Rws w a f) (n : Nat) : Rws (w.drewN n) a f := h

theorem OwnRw.nil (w : World) (B : Nat) : OwnRw w B (.slice none 0 0) [] := ⟨[], World.ownsRow_nil _ _ _ _, by simp⟩

theorem take_snoc_rw {f : List (List Int)} {k : Nat} {c : List Int} (hc : f[k]? = some c) : f.take (k + 1) = f.take k ++ [c] := by
  simp [List.take_add_one, hc]

set_option maxHeartbeats 1000000 in
theorem kit_CopyLists (a : Option Addr) (f : List (List Int)) (m c : Nat) (w : World) (hm : m = f.length) (hf : FOk f) (hr : Rws w a f) (hl : f.length ≤ 65536) (hc : ∀ c ∈ f, c.length ≤ 65536) :
    Calls Try.prog 46 #[.slice a m c] w fun e w' => ∃ v, e = .returned v ∧ OwnRw w' w.heap.size v f ∧ Below w.heap.size w w' := by
  subst hm
  have HF := hid hf
  have HR := hid hr
  have HC := hid hc
  obtain ⟨i1, hj, hy0, hy1, hy2⟩ := info_parts info_ints
  clear hf hr hc
  go_enter Try.func46, Try.ntmps46
  go_wp2_with fail
  go_loopw [3, 4] (fun v i wr => ∃ k : Nat, k ≤ f.length ∧ i = .int .i64 k ∧ Hid (OwnRw wr w.heap.size v (f.take k)) ∧ Below w.heap.size w wr) (fun _ i _ => f.length - (intOf i).toNat)
  case atStart => exact ⟨0, Nat.zero_le _, rfl, OwnRw.nil _ _, Below.refl _ _⟩
  case round =>
    obtain ⟨k, hk, rfl, ho, hb⟩ := hrel
    by_cases hlt : k < f.length
    · obtain ⟨b, off, cl, a1, cc1, rfl, hcell, hsl, hcl, -, -, -, -⟩ := (HR.out.below hb).row HF.out hlt
      have HS := hid hsl
      have HCL := hid hcl
      have hcl2 : cl.length ≤ 65536 := HC.out cl (List.mem_of_getElem? hcl)
      have hbz := hb.size
      clear hsl hcl
      go_wp2_with fail
      refine (kit_CopyInts a1 cl cc1 wr HS.out (by omega)).mono ?_
      rintro e w2 ⟨v2, rfl, ho2, hb2⟩
      obtain ⟨vs, hv1, hv2⟩ := ho.out.below hb2
      have hkl : (f.take k).length = k := by simp; omega
      rw [hkl] at hv1
      have HV1 := hid hv1
      have HV2 := hid hv2
      have HO2 := hid ho2
      have hz2 := hb2.size
      obtain ⟨a2, c2, rfl, -⟩ := own_sli ho2
      have HONE : Hid (∀ u ∈ [Value.slice a2 cl.length c2], u.oneCell' = true) := by
        intro u hu
        simp at hu
        subst hu
        rfl
      have HB2 := hid hb2
      clear ho hv1 hv2 ho2 hb2
      go_wp2_with (at_builtin; refine wpList_append_sl _ rfl _ _ 22 rfl w.heap.size 40 i1 (.slice none 0 0) 24 Try.underlying22 hj hy0 hy1 hy2 rfl _ k vs rfl (HV1.out.alloc _) _ 1 _ [.slice a2 cl.length c2] rfl (slv_new _ [.slice a2 cl.length c2] _ _) rfl (by nofun) HONE.out (by unfold maxLen; omega) (by omega) (by simp only [size_al]; omega) ?_; intro v9 w9 ho9 hg9; have HG9 := hid hg9; have HO9 := hid ho9; clear ho9 hg9)
      have hb9 : Below w.heap.size w w9 := (below_al (hb.trans (HB2.out.mono hbz)) (by omega) _).grown HG9.out (by simp only [size_al]; omega) (fun q hq => (HV1.out.lt q hq).1)
      have hpush : OwnRw w9 w.heap.size v9 (f.take (k + 1)) := by
        rw [take_snoc_rw HCL.out]
        exact OwnRw.push (by rw [hkl]; exact HV1.out.alloc _) (fun j d hd => let ⟨u, e1, e2⟩ := HV2.out j d hd; ⟨u, e1, e2.alloc _⟩) ((own_base HO2.out hbz).alloc _) (by rw [hkl]; exact HO9.out) HG9.out
      have HP := hid hpush
      clear hpush
      go_roundw
      case rel => exact ⟨k + 1, by omega, by go_num, HP.out, hb9⟩
      case measure => simp [intOf]; omega
    · have hkl : k = f.length := by omega
      have HO : Hid (OwnRw wr w.heap.size u3 f) := by
        have := ho.out
        rw [hkl, List.take_length] at this
        exact this
      clear hkl
      go_wp2_with fail
      go_ret
      exact ⟨_, rfl, HO.out, hb⟩

theorem blk_1 (w : World) (o o2 : Obj) : ((w.alloc o).alloc o2).heap[w.heap.size]? = some o := by
  rw [heap_al, heap_al, Array.getElem?_push, if_neg (by simp), Array.getElem?_push, if_pos rfl]

theorem blk_2 (w : World) (o o2 : Obj) : ((w.alloc o).alloc o2).heap[w.heap.size + 1]? = some o2 := by
  rw [heap_al, Array.getElem?_push, if_pos (by simp)]

set_option maxHeartbeats 1000000 in
theorem kit_CopyFormula (n : Int) (a : Option Addr) (f : List (List Int)) (m c : Nat) (w : World) (hm : m = f.length) (hf : FOk f) (hr : Rws w a f) (hl : f.length ≤ 65536) (hc : ∀ c ∈ f, c.length ≤ 65536) :
    Calls Try.prog 29 #[.agg #[.int .i64 n, .slice a m c]] w fun e w' =>
      ∃ a' c', e = .returned (.agg #[.int .i64 n, .slice a' f.length c']) ∧ f.length ≤ c' ∧ OwnRw w' w.heap.size (.slice a' f.length c') f ∧ Rws w' a' f ∧ Below w.heap.size w w' := by
  subst hm
  have HF := hid hf
  have HC := hid hc
  have hb2 : Below w.heap.size w ((w.alloc (fbox n a f.length c)).alloc (.cells #[.int .i64 0, .slice none 0 0] 24)) := below_al (box_below _ _) (by simp only [size_al]; omega) _
  have HB2 := hid hb2
  have HR := hid (hr.below hb2)
  clear hf hr hc hb2
  go_enter Try.func29, Try.ntmps29
  go_wp2_with fail
  refine (kit_CopyLists a f _ c _ rfl HF.out HR.out hl HC.out).mono ?_
  rintro e w3 ⟨v3, rfl, ho3, hb3⟩
  obtain ⟨a3, c3, rfl, h3c, -, hr3⟩ := ho3.shape
  have hB0 : w3.heap[w.heap.size]? = some (.cells #[.int .i64 n, .slice a f.length c] 24) := (hb3.block _ (by simp only [size_al]; omega)).trans (blk_1 _ _ _)
  have hB1 : w3.heap[w.heap.size + 1]? = some (.cells #[.int .i64 0, .slice none 0 0] 24) := (hb3.block _ (by simp only [size_al]; omega)).trans (blk_2 _ _ _)
  have hq0 : w3.cell? ⟨w.heap.size, 0, none⟩ = some (.int .i64 n) := fit_cell (vs := [.int .i64 n, .slice a f.length c]) hB0 0
  have hq1 : w3.cell? ⟨w.heap.size, 1, none⟩ = some (.slice a f.length c) := fit_cell (vs := [.int .i64 n, .slice a f.length c]) hB0 1
  have hp0 : w3.cell? ⟨w.heap.size + 1, 0, none⟩ = some (.int .i64 0) := fit_cell (vs := [.int .i64 0, .slice none 0 0]) hB1 0
  have hp1 : w3.cell? ⟨w.heap.size + 1, 1, none⟩ = some (.slice none 0 0) := fit_cell (vs := [.int .i64 0, .slice none 0 0]) hB1 1
  have hf0 : w3.frozen? ⟨w.heap.size, 1, none⟩ = false := frozen_of_row _ _ _ _ _ hB0
  have hf1 : w3.frozen? ⟨w.heap.size + 1, 0, none⟩ = false := frozen_of_row _ _ _ _ _ hB1
  have hf2 : w3.frozen? ⟨w.heap.size + 1, 1, none⟩ = false := frozen_of_row _ _ _ _ _ hB1
  have HO3 := hid ho3
  have HR3 := hid hr3
  have HB3 := hid (HB2.out.trans (hb3.mono (by simp only [size_al]; omega)))
  clear ho3 hr3 hb3 hB0 hB1
  go_wp2_with fail
  refine bodyPost_ret (v := .agg #[.int .i64 n, .slice a3 f.length c3]) (by simp [results, Try.results29, go_sem, hp0, hp1]) rfl ?_
  have hO : OwnRw (((w3.setCell ⟨w.heap.size, 1, none⟩ (.slice a3 f.length c3)).setCell ⟨w.heap.size + 1, 0, none⟩ (.int .i64 n)).setCell ⟨w.heap.size + 1, 1, none⟩ (.slice a3 f.length c3)) w.heap.size (.slice a3 f.length c3) f :=
    (((HO3.out.setBelow (by simp only [size_al]; omega) _).setBelow (by simp only [size_al]; omega) _).setBelow (by simp only [size_al]; omega) _).base (by simp only [size_al]; omega)
  refine ⟨a3, c3, rfl, h3c, hO, ?_, ((HB3.out.setCell (by simp) _).setCell (by simp) _).setCell (by simp) _⟩
  obtain ⟨a', c', e1, -, -, e4⟩ := hO.shape
  injection e1 with e1
  subst e1
  exact e4

end Go.Proofs.Ytaekcejenagbgaa
