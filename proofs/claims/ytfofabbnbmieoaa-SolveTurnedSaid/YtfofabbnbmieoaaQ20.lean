/- The contract of ref07's Error. -/
import Derived.Test.YtfofabbnbmieoaaQ18
import Derived.Test.YtfofabbnbmieoaaQ1
import Derived.Test.YtfofabbnbmieoaaQ3
import Derived.Test.YtfofabbnbmieoaaQ8
import Derived.Test.YtfofabbnbmieoaaQRefHas
import Derived.Test.YtfofabbnbmieoaaQ10

namespace Go.Proofs.Ytfofabbnbmieoaa.Ord
open Go.RowKit

/-- The error of Solve. -/
def solErr (n b : Int) (F : List (List Int)) : Int := if cnfCheck n F = 0 then (if b < 0 ∨ 1099511627776 < b then 3 else 0) else cnfCheck n F

set_option maxRecDepth 100000 in
theorem ref07_Error (n : Int) (acl : Option Addr) (F : List (List Int)) (mf cf : Nat) (b e : Int) (w : World) (he : solErr n b F = e) (hmf : mf = F.length) (hf : FOk F) (hr : Rws w acl F) (hl : F.length ≤ 9223372036854775807) :
    Calls Try.prog 36 #[.agg #[.int .i64 n, .slice acl mf cf], .int .i64 b] w fun x w' => x = .returned (.int .i64 e) ∧ Below w.heap.size w w' := by
  obtain ⟨w1, hw1⟩ : ∃ t, w.alloc (.cells #[.int .i64 n, .slice acl mf cf] 34 (0, 0)) = t := ⟨_, rfl⟩
  obtain ⟨hb1, hs1, z1⟩ := box1 w _ hw1
  have c1 := fun i => cell_of_row w1 w.heap.size i _ _ _ z1
  obtain ⟨g, hg⟩ : ∃ g, cnfCheck n F = g := ⟨_, rfl⟩
  have HC := hid ((ref02_CheckR n acl F mf cf g w1 hg hmf hf (hr.below hb1) hl).mono fun x w2 (h : x = .returned (.int .i64 g) ∧ ∃ k, w2 = (w1.alloc (fbox n acl mf cf)).drewN k) => (show x = .returned (.int .i64 g) ∧ Below w1.heap.size w1 w2 from ⟨h.1, by obtain ⟨k, hk⟩ := h.2; rw [hk]; exact below_dr (box_below _ _) k⟩))
  have HB := hid hb1
  have HE := hid (And.intro he hg)
  clear hb1 hs1 z1 he hg hmf hf hr hl
  by_cases hz : g = 0
  · subst hz
    by_cases hb0 : b < 0
    · go_enter Try.func36, Try.ntmps36
      go_wp2_with fail
      refine HC.out.mono ?_
      rintro x w2 ⟨rfl, hb2⟩
      have HB2 := hid (HB.out.trans (hb2.mono HB.out.size))
      clear hb2 c1 HC
      go_wp2_with fail
      go_ret
      exact ⟨by rw [← HE.out.1]; unfold solErr; rw [if_pos HE.out.2, if_pos (.inl hb0)]; rfl, HB2.out⟩
    · by_cases hb1 : 1099511627776 < b
      · go_enter Try.func36, Try.ntmps36
        go_wp2_with fail
        refine HC.out.mono ?_
        rintro x w2 ⟨rfl, hb2⟩
        have HB2 := hid (HB.out.trans (hb2.mono HB.out.size))
        clear hb2 c1 HC
        go_wp2_with fail
        go_ret
        exact ⟨by rw [← HE.out.1]; unfold solErr; rw [if_pos HE.out.2, if_pos (.inr hb1)]; rfl, HB2.out⟩
      · go_enter Try.func36, Try.ntmps36
        go_wp2_with fail
        refine HC.out.mono ?_
        rintro x w2 ⟨rfl, hb2⟩
        have HB2 := hid (HB.out.trans (hb2.mono HB.out.size))
        clear hb2 c1 HC
        go_wp2_with fail
        go_ret
        exact ⟨by rw [← HE.out.1]; unfold solErr; rw [if_pos HE.out.2, if_neg (by omega)]; rfl, HB2.out⟩
  · have hz2 : (g == 0) = false := beq_false_of_ne hz
    have HZ := hid hz
    clear hz
    go_enter Try.func36, Try.ntmps36
    go_wp2_with fail
    refine HC.out.mono ?_
    rintro x w2 ⟨rfl, hb2⟩
    have HB2 := hid (HB.out.trans (hb2.mono HB.out.size))
    clear hb2 c1 HC
    go_wp2_with fail
    go_ret
    exact ⟨by rw [← HE.out.1]; unfold solErr; rw [if_neg (by rw [HE.out.2]; exact HZ.out), HE.out.2]; rfl, HB2.out⟩

end Go.Proofs.Ytfofabbnbmieoaa.Ord

/- The contract of weepholelaw02.Fit. -/
namespace Go.Proofs.Ytfofabbnbmieoaa
open Go.RowKit

set_option maxHeartbeats 4000000 in
theorem law02_Fit (n : Int) (v1 : Value) (l : List (List Int)) (w : World) (hn0 : 0 ≤ n) (hn1 : n ≤ 255) (h1 : ArgR .i8 w v1 l) :
    Calls Try.prog 29 #[.int .u8 n, v1] w fun e w' =>
      ((fitB l = false ∧ e = .returned (.tuple #[.agg #[.int .i64 0, .slice none 0 0], .bool false])) ∨
       (fitB l = true ∧ ∃ v, e = .returned (.tuple #[.agg #[.int .i64 (fitV n), v], .bool true]) ∧ OwnRw w' w.heap.size v (fitF n l))) ∧ Below w.heap.size w w' := by
  obtain ⟨a, c, rfl, hle, hmx, hnn, hrows⟩ := h1
  have HRW := hid hrows
  obtain ⟨i0, hi, hz0, hz1, hz2⟩ := info_parts info_int
  obtain ⟨i1, hj, hy0, hy1, hy2⟩ := info_parts info_ints
  have hV := fitV_range n
  obtain ⟨V, hVe⟩ : ∃ V, V = fitV n := ⟨_, rfl⟩
  have hVe2 : 1 + n % 12 = V := by rw [hVe]; rfl
  rw [← hVe] at hV
  have HVE := hid hVe
  clear hrows hnn hVe
  go_enter Try.func29, Try.ntmps29
  have hb2 : Below w.heap.size w ((w.alloc (.cells #[.int .i64 0, .slice none 0 0] 34)).alloc (.cells #[.int .i64 V, .slice none 0 0] 34)) := below_al (box_below _ _) (by simp only [size_al]; omega) _
  have HB2 := hid hb2
  clear hb2
  by_cases hlen : (30 : Int) < l.length
  · go_wp2_with fail
    exact bodyPost_ret (v := .tuple #[.agg #[.int .i64 0, .slice none 0 0], .bool false]) (by simp [results, Try.results29, go_sem]) rfl ⟨Or.inl ⟨fitB_false_long hlen, rfl⟩, HB2.out⟩
  · have hl30 : (l.length : Int) ≤ 30 := by omega
    go_wp2_with fail
    go_loopw [7] (fun i wr => ∃ (k : Nat) (v : Value), k ≤ l.length ∧ i = .int .i64 k ∧ Hid (wr.heap[w.heap.size]? = some (.cells #[.int .i64 0, .slice none 0 0] 34)) ∧ Hid (wr.heap[w.heap.size + 1]? = some (.cells #[.int .i64 V, v] 34)) ∧
        Hid (OwnRw wr (w.heap.size + 2) v ((l.take k).map (fitC V))) ∧ Below w.heap.size w wr ∧ w.heap.size + 2 ≤ wr.heap.size ∧ Hid ((l.take k).any (fun c => decide (20 < c.length)) = false)) (fun i _ => l.length - (intOf i).toNat)
    case atStart => exact ⟨0, .slice none 0 0, Nat.zero_le _, rfl, by simp [Hid, heap_al, Array.getElem?_push], by simp [Hid, heap_al, Array.getElem_push], ⟨[], World.ownsRow_nil _ _ _ _, by simp⟩, HB2.out, by simp only [size_al]; omega, rfl⟩
    case round =>
      obtain ⟨k, v, hk, rfl, hB0, hB1, hown, hb, hsz, hany⟩ := hrel
      have hq0 : wr.cell? ⟨w.heap.size, 0, none⟩ = some (.int .i64 0) := fit_cell (vs := [.int .i64 0, .slice none 0 0]) hB0.out 0
      have hq1 : wr.cell? ⟨w.heap.size, 1, none⟩ = some (.slice none 0 0) := fit_cell (vs := [.int .i64 0, .slice none 0 0]) hB0.out 1
      have hf0 : wr.frozen? ⟨w.heap.size, 0, none⟩ = false := frozen_of_row _ _ _ _ _ hB0.out
      have hf1 : wr.frozen? ⟨w.heap.size, 1, none⟩ = false := frozen_of_row _ _ _ _ _ hB0.out
      have hp0 : wr.cell? ⟨w.heap.size + 1, 0, none⟩ = some (.int .i64 V) := fit_cell (vs := [.int .i64 V, v]) hB1.out 0
      have hp1 : wr.cell? ⟨w.heap.size + 1, 1, none⟩ = some v := fit_cell (vs := [.int .i64 V, v]) hB1.out 1
      by_cases hlt : k < l.length
      · obtain ⟨cl, hcl⟩ : ∃ cl, l[k]? = some cl := ⟨l[k], by simp [hlt]⟩
        obtain ⟨b, off, u, rfl, hc0, a', c', rfl, hle', hmx', hnn', hsl, hwf⟩ := HRW.out k cl hcl
        have hcell := below_keeps hb _ _ hc0
        have HCL := hid hcl
        have HSL := hid hsl
        have HWF := hid hwf
        have HC0 := hid hc0
        clear hcl hsl hwf hc0 hnn'
        by_cases h20 : (20 : Int) < cl.length
        · go_wp2_with fail
          exact bodyPost_ret (v := .tuple #[.agg #[.int .i64 0, .slice none 0 0], .bool false]) (by simp [results, Try.results29, go_sem, hq0, hq1]) rfl ⟨Or.inl ⟨fitB_false_at HCL.out h20, rfl⟩, (hb.setCell (by simp) _).setCell (by simp) _⟩
        · clear hq0 hq1 hf0 hf1
          obtain ⟨wo, rfl⟩ : ∃ wo : World, wo = wr := ⟨_, rfl⟩
          go_wp2_with fail
          go_loopw [8, 9] (fun v8 i w2 => ∃ j : Nat, j ≤ cl.length ∧ i = .int .i64 j ∧ Hid (w2.ownsRow wo.heap.size 3 1 v8 (fitC V (cl.take j)).length (ints (fitC V (cl.take j)))) ∧ Below wo.heap.size wo w2) (fun _ i _ => cl.length - (intOf i).toNat)
          case atStart => exact ⟨0, Nat.zero_le _, rfl, World.ownsRow_nil _ _ _ _, Below.refl _ _⟩
          case round =>
            obtain ⟨j, hj1, rfl, ho8, hb8⟩ := hrel
            have hcell2 := below_keeps hb8 _ _ hcell
            have hB1' : wr.heap[w.heap.size + 1]? = some (.cells #[.int .i64 V, v] 34) := (hb8.block _ (by omega)).trans hB1.out
            have HB1 := hid hB1'
            have hp0' : wr.cell? ⟨w.heap.size + 1, 0, none⟩ = some (.int .i64 V) := fit_cell (vs := [.int .i64 V, v]) hB1' 0
            have hp1' : wr.cell? ⟨w.heap.size + 1, 1, none⟩ = some v := fit_cell (vs := [.int .i64 V, v]) hB1' 1
            have hg1' : wr.frozen? ⟨w.heap.size + 1, 1, none⟩ = false := frozen_of_row _ _ _ _ _ hB1'
            have hz8 := hb8.size
            clear hB1' hcell hp0 hp1
            by_cases hjl : j < cl.length
            · obtain ⟨b2, off2, x, rfl, hcx, hx⟩ := (HSL.out.below (hb.trans (hb8.mono (by omega)))).intK hjl
              have hxb := bounds_i8 (HWF.out x (List.mem_of_getElem? hx))
              have HX := hid hx
              obtain ⟨t, ht⟩ : ∃ t, x.tmod (V + 1) = t := ⟨_, rfl⟩
              have htb : -13 ≤ t ∧ t ≤ 13 := by
                have g1 := Int.natAbs_tmod x (V + 1)
                have g2 : x.natAbs % (V + 1).natAbs < (V + 1).natAbs := Nat.mod_lt _ (by omega)
                rw [← g1, ht] at g2
                omega
              have HT := hid ht
              have e1 : (k : Int) < l.length := by omega
              have e2 : (j : Int) < cl.length := by omega
              have e3 : IntKind.i64.wrap x = x := IntWalk.i64_in x (by omega)
              have e4 : IntKind.i64.wrap (V + 1) = V + 1 := IntWalk.i64_in _ (by omega)
              have e5 : IntKind.i64.wrap t = t := IntWalk.i64_in _ (by omega)
              have e6 : ¬ V + 1 = 0 := by omega
              clear hx
              by_cases h0 : t = 0
              · have H0 := hid h0
                have hne : (t != 0) = false := by simp [h0]
                clear h0
                go_wp2_with fail
                go_quiet (fail)
                clear e1 e2 e3 e4 e5 e6
                go_wp2_with fail
                go_roundw
                case rel => exact ⟨j + 1, by omega, by go_num, by rw [fitC_step_zero HX.out (by rw [HT.out]; exact H0.out)]; exact ho8.out, below_dr hb8 _⟩
                case measure => simp [intOf]; omega
              · have H0 := hid h0
                have hne : (t != 0) = true := by simp [h0]
                have hfl := fitC_length V (cl.take j)
                have hfl2 : (fitC V (cl.take j)).length ≤ j := Nat.le_trans hfl (by simp; omega)
                clear h0 hfl
                go_wp2_with fail
                go_quiet (fail)
                clear e1 e2 e3 e4 e5 e6
                go_wp2_with (at_builtin; refine wpList_append_sl _ rfl _ _ 22 rfl wo.heap.size 3 i0 (.int .i64 0) 8 Try.underlying22 hi hz0 hz1 hz2 rfl u8 (fitC V (cl.take j)).length (ints (fitC V (cl.take j))) rfl (World.ownsRow.alloc (w := wr.drewN nq) ho8.out _) _ 1 _ [.int .i64 t] rfl (slv_new_dr _ _ _ _ _) rfl (by nofun) one_int (by unfold maxLen; omega) (by omega) (by simp only [size_al, heap_dr]; omega) ?_; intro v9 w9 ho9 hg9; have HO9 := hid ho9; have HG9 := hid hg9; clear ho9 hg9)
                have hb9 : Below wo.heap.size wo w9 := (below_al (below_dr hb8 nq) (by simp only [heap_dr]; omega) _).grown HG9.out (by simp only [size_al, heap_dr]; omega) (fun q hq => (ho8.out.lt q hq).1)
                have HF : Hid (w9.ownsRow wo.heap.size 3 1 v9 (fitC V (cl.take (j + 1))).length (ints (fitC V (cl.take (j + 1))))) := by
                  rw [fitC_step HX.out (by rw [HT.out]; exact H0.out), HT.out, ints_append, List.length_append]
                  exact HO9.out
                go_wp2_with fail
                go_roundw
                case rel => exact ⟨j + 1, by omega, by go_num, HF, hb9⟩
                case measure => simp [intOf]; omega
            · have hjc : j = cl.length := by omega
              have HO8 : Hid (wr.ownsRow wo.heap.size 3 1 u8 (fitC V cl).length (ints (fitC V cl))) := by
                have := ho8.out
                rw [hjc, List.take_length] at this
                exact this
              clear ho8
              obtain ⟨vs, hv1, hv2⟩ := hown.out.below hb8
              have HV2 := hid hv2
              have hkl : ((l.take k).map (fitC V)).length = k := by simp; omega
              rw [hkl] at hv1
              have HV1 := hid hv1
              obtain ⟨a8, c8, rfl, -⟩ := own_sli HO8.out
              have HONE : Hid (∀ u ∈ [Value.slice a8 (fitC V cl).length c8], u.oneCell' = true) := by
                intro u hu
                simp at hu
                subst hu
                rfl
              go_wp2_with (at_builtin; refine wpList_append_sl _ rfl _ _ 32 rfl (w.heap.size + 2) 22 i1 (.slice none 0 0) 24 Try.underlying32 hj hy0 hy1 hy2 rfl v k vs rfl (HV1.out.alloc _) _ 1 _ [.slice a8 (fitC V cl).length c8] rfl (slv_new _ [.slice a8 (fitC V cl).length c8] _ _) rfl (by nofun) HONE.out (by unfold maxLen; omega) (by omega) (by simp only [size_al]; omega) ?_; intro v9 w9 ho9 hg9; obtain ⟨a9, c9, rfl, -⟩ := own_sl ho9; have HG9 := hid hg9; have HO9 := hid ho9; have hq9 : w9.heap[w.heap.size + 1]? = some (.cells #[.int .i64 V, v] 34) := (hg9.block _ (by simp only [size_al]; omega) (own_not HV1.out (by omega))).trans ((Below.heap_alloc _ _ _ (by omega)).trans HB1.out); have HQ9 := hid hq9; have hr1 : w9.cell? ⟨w.heap.size + 1, 1, none⟩ = some v := fit_cell (vs := [.int .i64 V, v]) hq9 1; have hr2 : w9.frozen? ⟨w.heap.size + 1, 1, none⟩ = false := frozen_of_row _ _ _ _ _ hq9; clear ho9 hg9 hq9)
              have hX := HG9.out.size
              simp only [size_al] at hX
              have hO9 : w9.ownsRow (w.heap.size + 2) 22 1 (.slice a9 (vs.length + 1) c9) (k + 1) (vs ++ [.slice a8 (fitC V cl).length c8]) := by
                have h := HO9.out
                rw [List.length_append] at h
                exact h
              have hpush : OwnRw w9 (w.heap.size + 2) (.slice a9 (vs.length + 1) c9) ((l.take (k + 1)).map (fitC V)) := by
                rw [fitF_step HCL.out]
                exact OwnRw.push (by rw [hkl]; exact HV1.out.alloc _) (fun j d hd => let ⟨u, e1, e2⟩ := HV2.out j d hd; ⟨u, e1, e2.alloc _⟩) ((own_base HO8.out hsz).alloc _) (by rw [hkl]; exact hO9) HG9.out
              have hb9 : Below w.heap.size w w9 := (below_al (hb.trans (hb8.mono (by omega))) (by omega) _).grown HG9.out (by simp only [size_al]; omega) (fun q hq => by have := (HV1.out.lt q hq).1; omega)
              have hB09 : w9.heap[w.heap.size]? = some (.cells #[.int .i64 0, .slice none 0 0] 34) := (HG9.out.block _ (by simp only [size_al]; omega) (own_not HV1.out (by omega))).trans ((Below.heap_alloc _ _ _ (by omega)).trans ((hb8.block _ (by omega)).trans hB0.out))
              have HP := hid hpush
              have HB09 := hid hB09
              clear hpush hB09 hO9
              go_roundw
              case rel =>
                refine ⟨k + 1, .slice a9 (vs.length + 1) c9, by omega, by go_num, ?_, ?_, HP.out.setBelow (by simp) _, hb9.setCell (by simp) _, by simp [World.setCell]; omega, take_any_succ HCL.out hany (by simp; omega)⟩
                · exact (Below.heap_setCell _ _ _ _ (by simp)).trans HB09.out
                · exact heap_setCell_same w9 (w.heap.size + 1) 1 #[.int .i64 V, v] 34 _ HQ9.out
              case measure => simp [intOf]; omega
      · obtain ⟨av, cv, rfl⟩ : ∃ av cv, v = .slice av l.length cv := by
          obtain ⟨vs, ho, -⟩ := hown.out
          obtain ⟨av, cv, h1, -⟩ := own_sl ho
          have h2 : vs.length = l.length := by have := ho.1; simp at this; omega
          exact ⟨av, cv, by rw [h1, h2]⟩
        have hkl : k = l.length := by omega
        subst hkl
        go_wp2_with fail
        refine bodyPost_ret (v := .tuple #[.agg #[.int .i64 V, .slice av l.length cv], .bool true]) (by simp [results, Try.results29, go_sem, hq0, hq1]) rfl ⟨Or.inr ⟨fitB_true hl30 hlt hany, _, by rw [HVE.out], ?_⟩, ?_⟩
        · have h1 := hown.out
          rw [List.take_length] at h1
          rw [fitF, ← HVE.out]
          exact ((h1.setBelow (by simp) _).setBelow (by simp) _).base (by omega)
        · exact (hb.setCell (by simp) _).setCell (by simp) _

end Go.Proofs.Ytfofabbnbmieoaa

/- weepholelaw04.assumed. -/
namespace Go.Proofs.Ytfofabbnbmieoaa.Ord
open Go.RowKit

end Go.Proofs.Ytfofabbnbmieoaa.Ord

/- The contract of weepholelaw02.Model. -/
namespace Go.Proofs.Ytfofabbnbmieoaa
open Go.RowKit

theorem info_bool : (Try.prog.info? 4).map (fun i => (i.zero, i.size, i.bytes)) = some (some (.bool false), 1, 1) := by kernel_rfl

/-- The bit i of a number. -/
def bitB (b : Int) (i : Nat) : Bool := b.toNat.testBit i

/-- weepholelaw02.Model. -/
def modelL (n : Nat) (b : Int) : List Bool := (List.range n).map (bitB b)

/-- What the model holds after k rounds. -/
def modelAt (n : Nat) (b : Int) (k : Nat) : List Value := (List.range n).map (fun i => Value.bool (decide (i < k) && bitB b i))

theorem modelAt_zero {n : Nat} {b : Int} : (madeCells (Value.bool false).cells (n * 1)).toList = modelAt n b 0 := by
  simp only [modelAt, madeCells, Value.cells, Nat.mul_one, Array.toList_map, Array.toList_range]
  refine List.map_congr_left fun i _ => ?_
  simp [Nat.mod_one]

theorem modelAt_succ {n k : Nat} {b : Int} (h : k < n) : (modelAt n b k).set k (.bool (bitB b k)) = modelAt n b (k + 1) := by
  refine List.ext_getElem? fun i => ?_
  rw [List.getElem?_set]
  by_cases hi : k = i
  · subst hi; simp [modelAt, h]
  · rw [if_neg hi]
    by_cases hn : i < n
    · have : (i < k) ↔ (i < k + 1) := by omega
      simp [modelAt, hn, this]
    · simp [modelAt, hn]

theorem modelAt_end {n : Nat} {b : Int} : modelAt n b n = bools (modelL n b) := by
  simp only [modelAt, bools, modelL, List.map_map]
  refine List.map_congr_left fun i hi => ?_
  have := List.mem_range.1 hi
  simp [this]

theorem bits_and_u16_one (a : Nat) (ha : a < 65536) : bits BinOp.and IntKind.u16 (a : Int) 1 = ((a % 2 : Nat) : Int) := by
  have h1 : (BitVec.ofInt 16 (a : Int)).toNat = a := by
    rw [BitVec.ofInt_natCast, BitVec.toNat_ofNat]; exact Nat.mod_eq_of_lt (by omega)
  have h2 : (BitVec.ofInt 16 (1 : Int)).toNat = 1 := by decide
  show IntKind.u16.wrap ((BitVec.ofInt 16 (a : Int) &&& BitVec.ofInt 16 1).toNat : Int) = _
  rw [BitVec.toNat_and, h1, h2, Nat.and_one_is_mod, IntWalk.u16_in _ (by omega)]

theorem model_bit (b : Int) (k : Nat) (h0 : 0 ≤ b) (h1 : b ≤ 65535) : (bits BinOp.and IntKind.u16 (b / 2 ^ min k 16) 1 == 1) = bitB b k := by
  obtain ⟨m, rfl⟩ := Int.eq_ofNat_of_zero_le h0
  have hm : m ≤ 65535 := by omega
  have e1 : ((m : Int) / 2 ^ min k 16) = ((m / 2 ^ min k 16 : Nat) : Int) := by simp
  have hlt : m / 2 ^ min k 16 < 65536 := Nat.lt_of_le_of_lt (Nat.div_le_self _ _) (by omega)
  rw [e1, bits_and_u16_one _ hlt]
  simp only [bitB, Int.toNat_natCast, Nat.testBit_eq_decide_div_mod_eq]
  have e2 : m / 2 ^ min k 16 = m / 2 ^ k := by
    by_cases hk : k ≤ 16
    · rw [Nat.min_eq_left hk]
    · have h16 : m / 2 ^ 16 = 0 := Nat.div_eq_of_lt (by omega)
      have hkk : m / 2 ^ k = 0 := Nat.div_eq_of_lt (Nat.lt_of_lt_of_le (show m < 2 ^ 16 by omega) (Nat.pow_le_pow_right (by decide) (by omega)))
      rw [Nat.min_eq_right (by omega), h16, hkk]
  rw [e2]
  generalize m / 2 ^ k = q
  by_cases h : q % 2 = 1
  · simp [h]
  · have : q % 2 = 0 := by omega
    simp [this]

set_option maxHeartbeats 1000000 in
theorem law02_Model (n : Nat) (b : Int) (w : World) (hn : n ≤ 64) (h0 : 0 ≤ b) (h1 : b ≤ 65535) :
    Calls Try.prog 38 #[.int .i64 n, .int .u16 b] w fun e w' => ∃ v, e = .returned v ∧ w'.ownsRow w.heap.size 4 1 v n (bools (modelL n b)) ∧ Below w.heap.size w w' := by
  obtain ⟨i0, hi, hz0, hz1, hz2⟩ := info_parts info_bool

  go_enter Try.func38, Try.ntmps38
  go_wp2_with (at_make; refine wpList_make_full _ rfl _ _ 27 rfl w.heap.size 4 i0 (.bool false) 1 Try.underlying27 hi hz0 hz1 _ _ _ _ n rfl rfl rfl rfl (by rw [hz2]; omega) (by unfold maxLen; omega) (Nat.le_refl _) ?_; intro w3 hown3 hgrow3)

  have hb3 : Below w.heap.size w w3 := (Below.refl _ _).grown hgrow3 (by omega) (by simp)
  have HO3 := hid hown3
  clear hown3 hgrow3
  go_wp2_with fail
  go_loopw [6] (fun i wr => ∃ k : Nat, k ≤ n ∧ i = .int .i64 k ∧ Hid (wr.ownsRow w.heap.size 4 1 (.slice (some ⟨w.heap.size, 0, none⟩) n n) n (modelAt n b k)) ∧ Below w.heap.size w wr) (fun i _ => n - (intOf i).toNat)
  case atStart => exact ⟨0, Nat.zero_le _, rfl, by rw [← modelAt_zero]; exact HO3.out, hb3⟩
  case round =>
    obtain ⟨k, hk, rfl, ho, hb⟩ := hrel
    by_cases hlt : k < n
    · have hc : wr.cell? ⟨w.heap.size, k, none⟩ = some (.bool (decide (k < k) && bitB b k)) := by
        rw [ho.out.cellAt k (by omega)]; simp [modelAt, hlt]
      have hfz : wr.frozen? ⟨w.heap.size, k, none⟩ = false := ho.out.frozenAt k
      have HN := hid (ho.out.stored k (.bool (bitB b k))).1
      have HG := hid (ho.out.stored k (.bool (bitB b k))).2
      go_wp2_with fail
      go_roundw
      case rel =>
        rw [model_bit b k h0 h1]
        exact ⟨k + 1, by omega, by go_num, by rw [← modelAt_succ hlt]; exact HN.out, hb.grown HG.out hb.size (by simp)⟩
      case measure => simp [intOf]; omega
    · have hkn : k = n := by omega
      subst hkn
      go_wp2_with fail
      go_ret
      exact ⟨_, rfl, by rw [← modelAt_end]; exact ho, hb⟩

end Go.Proofs.Ytfofabbnbmieoaa

/- The contracts of Fit and Model once more, by cases and with their shapes; what Fit makes is valid. -/
namespace Go.Proofs.Ytfofabbnbmieoaa
open Go.RowKit

theorem law02_FitT (n : Int) (v1 : Value) (l : List (List Int)) (w : World) (hfit : fitB l = true) (hn0 : 0 ≤ n) (hn1 : n ≤ 255) (h1 : ArgR .i8 w v1 l) :
    Calls Try.prog 29 #[.int .u8 n, v1] w fun e w' =>
      ∃ a c, e = .returned (.tuple #[.agg #[.int .i64 (fitV n), .slice a (fitF n l).length c], .bool true]) ∧ OwnRw w' w.heap.size (.slice a (fitF n l).length c) (fitF n l) ∧ Rws w' a (fitF n l) ∧ Below w.heap.size w w' := by
  refine (law02_Fit n v1 l w hn0 hn1 h1).mono ?_
  rintro e w' ⟨h | ⟨_, v, rfl, ho⟩, hb⟩
  · rw [hfit] at h; cases h.1
  · obtain ⟨a, c, rfl, _, _, hr⟩ := ho.shape
    exact ⟨a, c, rfl, ho, hr, hb⟩

theorem law02_FitF (n : Int) (v1 : Value) (l : List (List Int)) (w : World) (hfit : fitB l = false) (hn0 : 0 ≤ n) (hn1 : n ≤ 255) (h1 : ArgR .i8 w v1 l) :
    Calls Try.prog 29 #[.int .u8 n, v1] w fun e w' =>
      e = .returned (.tuple #[.agg #[.int .i64 0, .slice none 0 0], .bool false]) ∧ Below w.heap.size w w' := by
  refine (law02_Fit n v1 l w hn0 hn1 h1).mono ?_
  rintro e w' ⟨⟨_, rfl⟩ | ⟨h, _⟩, hb⟩
  · exact ⟨rfl, hb⟩
  · rw [hfit] at h; cases h

theorem law02_ModelR (x : Int) (n : Nat) (b : Int) (w : World) (hx : x = n) (hn : n ≤ 64) (h0 : 0 ≤ b) (h1 : b ≤ 65535) :
    Calls Try.prog 38 #[.int .i64 x, .int .u16 b] w fun e w' => ∃ a c, e = .returned (.slice a (modelL n b).length c) ∧ w'.ownsRow w.heap.size 4 1 (.slice a (modelL n b).length c) (modelL n b).length (bools (modelL n b)) ∧ SlV w' a (bools (modelL n b)) ∧ Below w.heap.size w w' := by
  subst hx
  refine (law02_Model n b w hn h0 h1).mono ?_
  rintro e w' ⟨v, rfl, ho, hb⟩
  obtain ⟨a, c, rfl, _, _, hs⟩ := own_sl ho
  have hl : (modelL n b).length = n := by simp [modelL]
  rw [bools_length] at *
  exact ⟨a, c, rfl, hl.symm ▸ ho, hs, hb⟩

theorem fitF_length (n : Int) (l : List (List Int)) : (fitF n l).length = l.length := by simp [fitF]

theorem fitB_bounds {l : List (List Int)} (h : fitB l = true) : l.length ≤ 30 ∧ ∀ c ∈ l, c.length ≤ 20 := by
  simp only [fitB, Bool.and_eq_true, decide_eq_true_eq, Bool.not_eq_true', List.any_eq_false] at h
  exact ⟨h.1, fun c hc => by simpa using h.2 c hc⟩

theorem mem_fitF {n : Int} {l : List (List Int)} (h : fitB l = true) {d : List Int} (hd : d ∈ fitF n l) : d.length ≤ 20 ∧ ∀ x ∈ d, x ≠ 0 ∧ -fitV n ≤ x ∧ x ≤ fitV n := by
  simp only [fitF, List.mem_map] at hd
  obtain ⟨c, hc, rfl⟩ := hd
  exact ⟨Nat.le_trans (fitC_length _ _) ((fitB_bounds h).2 c hc), fun x hx => mem_fitC (fitV_range n).1 hx⟩

theorem fok_fit {n : Int} {l : List (List Int)} (h : fitB l = true) : FOk (fitF n l) := fun d hd => by
  have h1 := mem_fitF h hd
  have h2 := fitV_range n
  exact ⟨fun x hx => by have := h1.2 x hx; unfold I64; omega, by omega⟩

theorem litCheck_fit {n : Int} {l : List (List Int)} (h : fitB l = true) {d : List Int} (hd : d ∈ fitF n l) : litCheck (fitV n) d = 0 := by
  have h1 := mem_fitF h hd
  have h2 := fitV_range n
  refine litCheck_ok (by omega) (by omega) ?_
  rw [List.any_eq_false]
  intro x hx
  have := h1.2 x hx
  simp [badLit]; omega

theorem cnfCheck_fit {n : Int} {l : List (List Int)} (h : fitB l = true) : cnfCheck (fitV n) (fitF n l) = 0 := by
  have h2 := fitV_range n
  have h3 := (fitB_bounds h).1
  have h4 := fitF_length n l
  rw [cnfCheck_find (by omega) (by omega)]
  have : (fitF n l).find? (fun c => litCheck (fitV n) c != 0) = none := by
    rw [List.find?_eq_none]
    intro d hd
    simp [litCheck_fit h hd]
  rw [this]

end Go.Proofs.Ytfofabbnbmieoaa

/- The walk of PropGrows. -/
namespace Go.Proofs.Ytfofabbnbmieoaa.Ord
open Go.RowKit

theorem law02_FitG (n : Int) (v1 : Value) (l : List (List Int)) (w : World) (hfit : fitB l = true) (hn0 : 0 ≤ n) (hn1 : n ≤ 255) (h1 : ArgR .i8 w v1 l) :
    Calls Try.prog 29 #[.int .u8 n, v1] w fun e w' =>
      ∃ a c, e = .returned (.tuple #[.agg #[.int .i64 (fitV n), .slice a (fitF n l).length c], .bool true]) ∧ (fitF n l).length ≤ c ∧ Rws w' a (fitF n l) ∧ Below w.heap.size w w' := by
  refine (law02_FitT n v1 l w hfit hn0 hn1 h1).mono ?_
  rintro e w' ⟨a, c, rfl, ho, hr, hb⟩
  obtain ⟨a', c', e1, e2, _, _⟩ := ho.shape
  injection e1 with e3 e4 e5
  subst e3 e5
  exact ⟨_, _, rfl, e2, hr, hb⟩

end Go.Proofs.Ytfofabbnbmieoaa.Ord

/- The walks of SolveAnswers and SolveBudgets. -/
namespace Go.Proofs.Ytfofabbnbmieoaa.Ord
open Go.RowKit

theorem has_nil {n : Nat} {F : List (List Int)} : HasA n F [] ↔ HasM n F := ⟨fun ⟨m, h1, h2, _⟩ => ⟨m, h1, h2⟩, fun ⟨m, h1, h2⟩ => ⟨m, h1, h2, nofun⟩⟩

theorem has_ans {n : Nat} {F : List (List Int)} : ansV n F = if hasAB n F [] then 1 else 2 := by
  cases h : hasAB n F [] with
  | true => rw [ansV_sat (has_nil.1 (hasAB_true.1 h))]; rfl
  | false => rw [ansV_un fun e => hasAB_false.1 h (has_nil.2 e)]; rfl

/-- Has with no assumptions. -/
theorem ref_Has0 (n : Nat) (acl : Option Addr) (F : List (List Int)) (mf cf : Nat) (b : Bool) (w : World) (hb : hasAB n F [] = b) (hmf : mf = F.length) (hf : FOk F) (hr : Rws w acl F) (h0 : cnfCheck n F = 0) :
    Calls Try.prog 34 #[.agg #[.int .i64 n, .slice acl mf cf], .slice none 0 0] w fun e w' => e = .returned (.bool b) ∧ Below w.heap.size w w' :=
  hb ▸ ref_Has n acl F mf cf hmf hf h0 (hasM n F []) none [] 0 0 w rfl rfl hr (fun j u hj => by simp [ints] at hj) nofun (by simp)

set_option maxRecDepth 100000 in
set_option maxHeartbeats 4000000 in
theorem walk_SolveAnswers (x0 : Int) (v1 : Value) (x1 : List (List Int)) (w : World) (w0 : (Lit.int .u8 x0).wf = true) (w1 : ArgR .i8 w v1 x1) :
    Calls Try.prog 7 #[.int .u8 x0, v1] w fun e w' => e = .returned (.bool true) ∧ Below w.heap.size w w' := by
  have hb0 := bounds_u8 w0
  have HA := hid w1
  clear w0 w1
  cases hfit : fitB x1 with
  | false =>
    have HFI := hid hfit
    clear hfit
    go_enter Try.func7, Try.ntmps7
    go_wp2_with fail
    refine (law02_FitF x0 v1 x1 w HFI.out hb0.1 hb0.2 HA.out).mono ?_
    rintro e w3 ⟨rfl, hb3⟩
    have HB3 := hid hb3
    clear hb3
    go_wp2_with (go_at_call 30; refine (law07_known _).mono ?_; rintro e w' ⟨rfl, hb⟩)
    go_ret
    exact ⟨rfl, (below_al HB3.out HB3.out.size _).trans (hb.mono (by have := HB3.out.size; simp only [size_al]; omega))⟩
  | true =>
    have hV := fitV_range x0
    obtain ⟨n, hn⟩ : ∃ n : Nat, fitV x0 = (n : Int) := ⟨(fitV x0).toNat, by omega⟩
    have hn1 : 1 ≤ n ∧ n ≤ 12 := by omega
    obtain ⟨F, hF⟩ : ∃ F, fitF x0 x1 = F := ⟨_, rfl⟩
    have hchk : cnfCheck n F = 0 := by rw [← hF, ← hn]; exact cnfCheck_fit hfit
    have HFO := hid (And.intro (show FOk F from hF ▸ fok_fit hfit) (And.intro hchk hn1))
    have HN := hid hn
    have HF := hid hF
    have HFI := hid hfit
    obtain ⟨hb, hhb⟩ : ∃ b, hasAB n F [] = b := ⟨_, rfl⟩
    obtain ⟨A, hA⟩ : ∃ A, ansV n F = A := ⟨_, rfl⟩
    have hAb : A = if hb then 1 else 2 := by rw [← hA, has_ans, hhb]
    have HV := hid (And.intro hhb hA)
    have HAB := hid hAb
    clear hfit hF hn hV hchk hn1 hhb hA hAb
    go_enter Try.func7, Try.ntmps7
    go_wp2_with fail
    refine (law02_FitG x0 v1 x1 w HFI.out hb0.1 hb0.2 HA.out).mono ?_
    rw [HN.out, HF.out]
    rintro e w3 ⟨a, c, rfl, hfc, hr3, hb3⟩
    obtain ⟨FL, hFL⟩ : ∃ t, F.length = t := ⟨_, rfl⟩
    rw [hFL] at hfc ⊢
    obtain ⟨w4, hw4⟩ : ∃ t, w3.alloc (.cells #[.int .i64 n, .slice a FL c] 34 (0, 0)) = t := ⟨_, rfl⟩
    obtain ⟨hb4, hs4, z4⟩ := box1 w3 _ hw4
    have d4 := fun i => cell_of_row w4 w3.heap.size i _ _ _ z4
    have HS := hid (solve_Solve0 n a F FL c A w4 HV.out.2 hFL.symm HFO.out.1 (hr3.below hb4) HFO.out.2.1 (by have := HFO.out.2.2; omega))
    have H4 := hid (And.intro (hb3.trans (hb4.mono hb3.size)) (And.intro hs4 (And.intro z4 (And.intro (hr3.below hb4) hFL))))
    have HZ3 := hid hb3.size
    clear hb3 hr3 hb4 hs4 z4 hFL hfc
    go_wp2_with fail
    refine HS.out.mono ?_
    rintro e w5 ⟨M, P, am, ap, ml, pl, cm, cp, rfl, hml, hpl, hok, hM, hP, hb5⟩
    obtain ⟨w6, hw6⟩ : ∃ t, w5.alloc (.cells #[.int .u8 A, .slice am ml cm, .slice ap pl cp] 51 (0, 0)) = t := ⟨_, rfl⟩
    obtain ⟨hb6, hs6, z6⟩ := box1 w5 _ hw6
    have hb46 := hb5.trans (hb6.mono hb5.size)
    have y4 := (hb46.block w3.heap.size (by have := H4.out.2.1; omega)).trans H4.out.2.2.1
    have d6 := fun i => cell_of_row w6 w3.heap.size i _ _ _ y4
    have HH := hid (ref_Has0 n a F FL c hb w6 HV.out.1 H4.out.2.2.2.2.symm HFO.out.1 (H4.out.2.2.2.1.below hb46) HFO.out.2.1)
    have HR := hid fun w7 (hb7 : Below w6.heap.size w6 w7) => law07_right n a F FL c A M P am ap ml pl cm cp w7 H4.out.2.2.2.2.symm hml hpl HFO.out.1 ((H4.out.2.2.2.1.below hb46).below hb7) HFO.out.2.1 (by have := HFO.out.2.2; omega) hok ((hM.below hb6).below hb7) ((hP.below hb6).below hb7)
    have H6 := hid (And.intro (H4.out.1.trans (hb46.mono (by have := H4.out.1.size; omega))) (And.intro y4 (And.intro z6 (And.intro hs6 (show w3.heap.size < w6.heap.size by have := hb46.size; have := H4.out.2.1; omega)))))
    clear hml hpl hok hM hP hb5 hb6 hs6 z6 hb46 y4 d4 HS
    go_wp2_with fail
    refine HH.out.mono ?_
    rintro e w7 ⟨rfl, hb7⟩
    have y7 := (hb7.block w3.heap.size H6.out.2.2.2.2).trans H6.out.2.1
    have z7 := (hb7.block w5.heap.size (by have := H6.out.2.2.2.1; omega)).trans H6.out.2.2.1
    have d7 := fun i => cell_of_row w7 w3.heap.size i _ _ _ y7
    have k7 := fun i => cell_of_row w7 w5.heap.size i _ _ _ z7
    have HR7 := hid (HR.out w7 hb7)
    have HB7 := hid (H6.out.1.trans (hb7.mono H6.out.1.size))
    clear hb7 y7 z7 d6 HH HR
    cases hb with
    | true =>
      have hA1 : A = 1 := HAB.out
      subst hA1
      go_wp2_with fail
      refine HR7.out.mono ?_
      rintro e w8 ⟨rfl, hb8⟩
      have HB8 := hid (HB7.out.trans (hb8.mono HB7.out.size))
      clear hb8 d7 k7 HR7
      go_wp2_with (go_at_call 30; refine (law07_known _).mono ?_; rintro e w' ⟨rfl, hb⟩)
      go_ret
      exact ⟨rfl, HB8.out.trans (hb.mono HB8.out.size)⟩
    | false =>
      have hA1 : A = 2 := HAB.out
      subst hA1
      go_wp2_with fail
      refine HR7.out.mono ?_
      rintro e w8 ⟨rfl, hb8⟩
      have HB8 := hid (HB7.out.trans (hb8.mono HB7.out.size))
      clear hb8 d7 k7 HR7
      go_wp2_with (go_at_call 30; refine (law07_known _).mono ?_; rintro e w' ⟨rfl, hb⟩)
      go_ret
      exact ⟨rfl, HB8.out.trans (hb.mono HB8.out.size)⟩

end Go.Proofs.Ytfofabbnbmieoaa.Ord

/- The walks of the laws CnfChecks and CnfFirsts. -/
namespace Go.Proofs.Ytfofabbnbmieoaa
open Go.RowKit

theorem rows_of_arg {w : World} {v : Value} {f : List (List Int)} (h : ArgR .i64 w v f) :
    ∃ a c, v = .slice a f.length c ∧ f.length ≤ 9223372036854775807 ∧ Rws w a f ∧ FOk f := by
  obtain ⟨a, c, rfl, h1, h2, _, h4⟩ := h
  unfold maxLen at h2
  refine ⟨a, c, rfl, by omega, fun j xs hj => ?_, fun xs hxs => ?_⟩
  · obtain ⟨b, off, u, e1, e2, a', c', e3, e4, e5, e6, e7, _⟩ := h4 j xs hj
    exact ⟨b, off, u, e1, e2, a', c', e3, e4, e6, e7⟩
  · obtain ⟨j, hj, rfl⟩ := List.getElem_of_mem hxs
    obtain ⟨b, off, u, e1, e2, a', c', e3, e4, e5, e6, e7, e8⟩ := h4 j _ (List.getElem?_eq_getElem hj)
    unfold maxLen at e5
    exact ⟨fun x hx => i64_of_wf (e8 x hx), by omega⟩

theorem law02_SmallR (n : Int) (a : Option Addr) (f : List (List Int)) (m c : Nat) (r : Bool) (w : World) (hr0 : smallB f = r) (hm : m = f.length) (hf : FOk f) (hr : Rws w a f) (hl : f.length ≤ 9223372036854775807) :
    Calls Try.prog 25 #[.agg #[.int .i64 n, .slice a m c]] w fun e w' => e = .returned (.bool r) ∧ w.alloc (fbox n a m c) = w' := hr0 ▸ law02_Small n a f m c w hm hf hr hl

end Go.Proofs.Ytfofabbnbmieoaa

/- The contracts of the kit package's CopyLists and CopyFormula. -/
namespace Go.Proofs.Ytfofabbnbmieoaa
open Go.RowKit

theorem Rws.drewN {w : World} {a : Option Addr} {f : List (List Int)} (h : Rws w a f) (n : Nat) : Rws (w.drewN n) a f := h

theorem OwnRw.nil (w : World) (B : Nat) : OwnRw w B (.slice none 0 0) [] := ⟨[], World.ownsRow_nil _ _ _ _, by simp⟩

theorem take_snoc_rw {f : List (List Int)} {k : Nat} {c : List Int} (hc : f[k]? = some c) : f.take (k + 1) = f.take k ++ [c] := by
  simp [List.take_add_one, hc]

set_option maxHeartbeats 1000000 in
theorem kit_CopyLists (a : Option Addr) (f : List (List Int)) (m c : Nat) (w : World) (hm : m = f.length) (hf : FOk f) (hr : Rws w a f) (hl : f.length ≤ 65536) (hc : ∀ c ∈ f, c.length ≤ 65536) :
    Calls Try.prog 46 #[.slice a m c] w fun e w' => ∃ v, e = .returned v ∧ OwnRw w' w.heap.size v f ∧ Below w.heap.size w w' := by
  subst hm
  have HF := hid hf
  have HR := hid hr
  have HC := hid hc
  obtain ⟨i1, hj, hy0, hy1, hy2⟩ := info_parts info_ints
  clear hf hr hc
  go_enter Try.func46, Try.ntmps46
  go_wp2_with fail
  go_loopw [3, 4] (fun v i wr => ∃ k : Nat, k ≤ f.length ∧ i = .int .i64 k ∧ Hid (OwnRw wr w.heap.size v (f.take k)) ∧ Below w.heap.size w wr) (fun _ i _ => f.length - (intOf i).toNat)
  case atStart => exact ⟨0, Nat.zero_le _, rfl, OwnRw.nil _ _, Below.refl _ _⟩
  case round =>
    obtain ⟨k, hk, rfl, ho, hb⟩ := hrel
    by_cases hlt : k < f.length
    · obtain ⟨b, off, cl, a1, cc1, rfl, hcell, hsl, hcl, -, -, -, -⟩ := (HR.out.below hb).row HF.out hlt
      have HS := hid hsl
      have HCL := hid hcl
      have hcl2 : cl.length ≤ 65536 := HC.out cl (List.mem_of_getElem? hcl)
      have hbz := hb.size
      clear hsl hcl
      go_wp2_with fail
      refine (kit_CopyInts a1 cl cc1 wr HS.out (by omega)).mono ?_
      rintro e w2 ⟨v2, rfl, ho2, hb2⟩
      obtain ⟨vs, hv1, hv2⟩ := ho.out.below hb2
      have hkl : (f.take k).length = k := by simp; omega
      rw [hkl] at hv1
      have HV1 := hid hv1
      have HV2 := hid hv2
      have HO2 := hid ho2
      have hz2 := hb2.size
      obtain ⟨a2, c2, rfl, -⟩ := own_sli ho2
      have HONE : Hid (∀ u ∈ [Value.slice a2 cl.length c2], u.oneCell' = true) := by
        intro u hu
        simp at hu
        subst hu
        rfl
      have HB2 := hid hb2
      clear ho hv1 hv2 ho2 hb2
      go_wp2_with (at_builtin; refine wpList_append_sl _ rfl _ _ 32 rfl w.heap.size 22 i1 (.slice none 0 0) 24 Try.underlying32 hj hy0 hy1 hy2 rfl _ k vs rfl (HV1.out.alloc _) _ 1 _ [.slice a2 cl.length c2] rfl (slv_new _ [.slice a2 cl.length c2] _ _) rfl (by nofun) HONE.out (by unfold maxLen; omega) (by omega) (by simp only [size_al]; omega) ?_; intro v9 w9 ho9 hg9; have HG9 := hid hg9; have HO9 := hid ho9; clear ho9 hg9)
      have hb9 : Below w.heap.size w w9 := (below_al (hb.trans (HB2.out.mono hbz)) (by omega) _).grown HG9.out (by simp only [size_al]; omega) (fun q hq => (HV1.out.lt q hq).1)
      have hpush : OwnRw w9 w.heap.size v9 (f.take (k + 1)) := by
        rw [take_snoc_rw HCL.out]
        exact OwnRw.push (by rw [hkl]; exact HV1.out.alloc _) (fun j d hd => let ⟨u, e1, e2⟩ := HV2.out j d hd; ⟨u, e1, e2.alloc _⟩) ((own_base HO2.out hbz).alloc _) (by rw [hkl]; exact HO9.out) HG9.out
      have HP := hid hpush
      clear hpush
      go_roundw
      case rel => exact ⟨k + 1, by omega, by go_num, HP.out, hb9⟩
      case measure => simp [intOf]; omega
    · have hkl : k = f.length := by omega
      have HO : Hid (OwnRw wr w.heap.size u3 f) := by
        have := ho.out
        rw [hkl, List.take_length] at this
        exact this
      clear hkl
      go_wp2_with fail
      go_ret
      exact ⟨_, rfl, HO.out, hb⟩

theorem blk_1 (w : World) (o o2 : Obj) : ((w.alloc o).alloc o2).heap[w.heap.size]? = some o := by
  rw [heap_al, heap_al, Array.getElem?_push, if_neg (by simp), Array.getElem?_push, if_pos rfl]

theorem blk_2 (w : World) (o o2 : Obj) : ((w.alloc o).alloc o2).heap[w.heap.size + 1]? = some o2 := by
  rw [heap_al, Array.getElem?_push, if_pos (by simp)]

set_option maxHeartbeats 1000000 in
theorem kit_CopyFormula (n : Int) (a : Option Addr) (f : List (List Int)) (m c : Nat) (w : World) (hm : m = f.length) (hf : FOk f) (hr : Rws w a f) (hl : f.length ≤ 65536) (hc : ∀ c ∈ f, c.length ≤ 65536) :
    Calls Try.prog 28 #[.agg #[.int .i64 n, .slice a m c]] w fun e w' =>
      ∃ a' c', e = .returned (.agg #[.int .i64 n, .slice a' f.length c']) ∧ f.length ≤ c' ∧ OwnRw w' w.heap.size (.slice a' f.length c') f ∧ Rws w' a' f ∧ Below w.heap.size w w' := by
  subst hm
  have HF := hid hf
  have HC := hid hc
  have hb2 : Below w.heap.size w ((w.alloc (fbox n a f.length c)).alloc (.cells #[.int .i64 0, .slice none 0 0] 34)) := below_al (box_below _ _) (by simp only [size_al]; omega) _
  have HB2 := hid hb2
  have HR := hid (hr.below hb2)
  clear hf hr hc hb2
  go_enter Try.func28, Try.ntmps28
  go_wp2_with fail
  refine (kit_CopyLists a f _ c _ rfl HF.out HR.out hl HC.out).mono ?_
  rintro e w3 ⟨v3, rfl, ho3, hb3⟩
  obtain ⟨a3, c3, rfl, h3c, -, hr3⟩ := ho3.shape
  have hB0 : w3.heap[w.heap.size]? = some (.cells #[.int .i64 n, .slice a f.length c] 34) := (hb3.block _ (by simp only [size_al]; omega)).trans (blk_1 _ _ _)
  have hB1 : w3.heap[w.heap.size + 1]? = some (.cells #[.int .i64 0, .slice none 0 0] 34) := (hb3.block _ (by simp only [size_al]; omega)).trans (blk_2 _ _ _)
  have hq0 : w3.cell? ⟨w.heap.size, 0, none⟩ = some (.int .i64 n) := fit_cell (vs := [.int .i64 n, .slice a f.length c]) hB0 0
  have hq1 : w3.cell? ⟨w.heap.size, 1, none⟩ = some (.slice a f.length c) := fit_cell (vs := [.int .i64 n, .slice a f.length c]) hB0 1
  have hp0 : w3.cell? ⟨w.heap.size + 1, 0, none⟩ = some (.int .i64 0) := fit_cell (vs := [.int .i64 0, .slice none 0 0]) hB1 0
  have hp1 : w3.cell? ⟨w.heap.size + 1, 1, none⟩ = some (.slice none 0 0) := fit_cell (vs := [.int .i64 0, .slice none 0 0]) hB1 1
  have hf0 : w3.frozen? ⟨w.heap.size, 1, none⟩ = false := frozen_of_row _ _ _ _ _ hB0
  have hf1 : w3.frozen? ⟨w.heap.size + 1, 0, none⟩ = false := frozen_of_row _ _ _ _ _ hB1
  have hf2 : w3.frozen? ⟨w.heap.size + 1, 1, none⟩ = false := frozen_of_row _ _ _ _ _ hB1
  have HO3 := hid ho3
  have HR3 := hid hr3
  have HB3 := hid (HB2.out.trans (hb3.mono (by simp only [size_al]; omega)))
  clear ho3 hr3 hb3 hB0 hB1
  go_wp2_with fail
  refine bodyPost_ret (v := .agg #[.int .i64 n, .slice a3 f.length c3]) (by simp [results, Try.results28, go_sem, hp0, hp1]) rfl ?_
  have hO : OwnRw (((w3.setCell ⟨w.heap.size, 1, none⟩ (.slice a3 f.length c3)).setCell ⟨w.heap.size + 1, 0, none⟩ (.int .i64 n)).setCell ⟨w.heap.size + 1, 1, none⟩ (.slice a3 f.length c3)) w.heap.size (.slice a3 f.length c3) f :=
    (((HO3.out.setBelow (by simp only [size_al]; omega) _).setBelow (by simp only [size_al]; omega) _).setBelow (by simp only [size_al]; omega) _).base (by simp only [size_al]; omega)
  refine ⟨a3, c3, rfl, h3c, hO, ?_, ((HB3.out.setCell (by simp) _).setCell (by simp) _).setCell (by simp) _⟩
  obtain ⟨a', c', e1, -, -, e4⟩ := hO.shape
  injection e1 with e1
  subst e1
  exact e4

end Go.Proofs.Ytfofabbnbmieoaa

/- Rows of rows, the inner ones slices into blocks of the call's own. -/
namespace Go.Proofs.Ytfofabbnbmieoaa
open Go.RowKit

/-- The slice value 'v' is a row of the call's own (from B on) of the lists 'f', each a slice of ints in a block of the call's own. -/
def OwnRt (w : World) (B : Nat) (v : Value) (f : List (List Int)) : Prop :=
  ∃ vs, w.ownsRow B 22 1 v f.length vs ∧ ∀ (j : Nat) (c : List Int), f[j]? = some c → ∃ u, vs[j]? = some u ∧ OwnT 3 w B u c

theorem ownT_kept {e e' : TypeId} {w w' : World} {B B' n' s' : Nat} {v v' : Value} {xs : List Int} {xs' : List Value} (h : OwnT e w B v xs) (h' : w.ownsRow B' e' s' v' n' xs') (hne : e ≠ e') (hg : w.grownBy w' v'.ownBlock) : OwnT e w' B v xs := by
  obtain ⟨a, c, h1, h2, h3, h4⟩ := h
  refine ⟨a, c, h1, h2, h3, fun ad had => ?_⟩
  obtain ⟨g, off, cur, e1, e2, e3, e4⟩ := h4 ad had
  refine ⟨g, off, cur, e1, e2, ?_, e4⟩
  rw [hg.block g (Array.getElem?_eq_some_iff.1 e3).1 ?_]
  · exact e3
  · intro he
    rcases h'.2 with ⟨rfl, _⟩ | ⟨g', cap', cur', rfl, _, hg', _⟩
    · simp [Value.ownBlock] at he
    · simp only [Value.ownBlock, Option.some.injEq] at he
      rw [← he, e3] at hg'
      simp at hg'
      exact hne hg'.2

theorem ownT_setBelow {e : TypeId} {w : World} {B : Nat} {v : Value} {xs : List Int} (h : OwnT e w B v xs) {a : Addr} (ha : a.block < B) (u : Value) : OwnT e (w.setCell a u) B v xs := by
  obtain ⟨ad, c, h1, h2, h3, h4⟩ := h
  refine ⟨ad, c, h1, h2, h3, fun x hx => ?_⟩
  obtain ⟨g, off, cur, e1, e2, e3, e4⟩ := h4 x hx
  exact ⟨g, off, cur, e1, e2, by rw [heap_setCell_other w a g u (by omega)]; exact e3, e4⟩

theorem OwnRt.nil (w : World) (B : Nat) : OwnRt w B (.slice none 0 0) [] := ⟨[], World.ownsRow_nil _ _ _ _, by simp⟩

theorem OwnRt.below {w w' : World} {B : Nat} {v : Value} {f : List (List Int)} (h : OwnRt w B v f) (hb : Below w.heap.size w w') : OwnRt w' B v f :=
  let ⟨vs, h1, h2⟩ := h; ⟨vs, own_below h1 hb, fun j c hj => let ⟨u, e1, e2⟩ := h2 j c hj; ⟨u, e1, e2.below hb⟩⟩

theorem OwnRt.setBelow {w : World} {B : Nat} {v : Value} {f : List (List Int)} (h : OwnRt w B v f) {a : Addr} (ha : a.block < B) (u : Value) : OwnRt (w.setCell a u) B v f :=
  let ⟨vs, h1, h2⟩ := h; ⟨vs, ownsRow_setCell_below h1 ha u, fun j c hj => let ⟨x, e1, e2⟩ := h2 j c hj; ⟨x, e1, ownT_setBelow e2 ha u⟩⟩

/-- A row appended. -/
theorem OwnRt.push {w w' : World} {B : Nat} {v v' x : Value} {f : List (List Int)} {c : List Int} {vs : List Value} (h1 : w.ownsRow B 22 1 v f.length vs)
    (h2 : ∀ (j : Nat) (c : List Int), f[j]? = some c → ∃ u, vs[j]? = some u ∧ OwnT 3 w B u c) (hx : OwnT 3 w B x c)
    (h' : w'.ownsRow B 22 1 v' (f.length + 1) (vs ++ [x])) (hg : w.grownBy w' v.ownBlock) : OwnRt w' B v' (f ++ [c]) := by
  have hl : vs.length = f.length := by have := h1.1; omega
  refine ⟨vs ++ [x], by simpa using h', fun j d hj => ?_⟩
  rcases Nat.lt_or_ge j f.length with hlt | hge
  · rw [List.getElem?_append_left hlt] at hj
    obtain ⟨u, e1, e2⟩ := h2 j d hj
    exact ⟨u, by rw [List.getElem?_append_left (by omega)]; exact e1, ownT_kept e2 h1 (by decide) hg⟩
  · rw [List.getElem?_append_right hge] at hj
    have hj0 : j - f.length = 0 := by
      rcases Nat.eq_zero_or_pos (j - f.length) with h0 | h0
      · exact h0
      · rw [List.getElem?_eq_none (by simp; omega)] at hj; cases hj
    rw [hj0] at hj
    simp at hj
    subst hj
    exact ⟨x, by rw [List.getElem?_append_right (by omega), hl, hj0]; rfl, ownT_kept hx h1 (by decide) hg⟩

theorem OwnRt.shape {w : World} {B : Nat} {v : Value} {f : List (List Int)} (h : OwnRt w B v f) : ∃ a c, v = .slice a f.length c ∧ f.length ≤ c ∧ (a = none → c = 0) ∧ Rws w a f := by
  obtain ⟨vs, h1, h2⟩ := h
  obtain ⟨a, c, e1, e2, e3, e4⟩ := own_sl h1
  have hl : vs.length = f.length := by have := h1.1; omega
  rw [hl] at e1 e2
  refine ⟨a, c, e1, e2, e3, fun j d hj => ?_⟩
  obtain ⟨u, g1, g2⟩ := h2 j d hj
  obtain ⟨b, off, k1, k2⟩ := e4 j u g1
  exact ⟨b, off, u, k1, k2, g2.sli⟩

end Go.Proofs.Ytfofabbnbmieoaa

/- Plain facts for SolveModels: all models, one after the other. -/
namespace Go.Proofs.Ytfofabbnbmieoaa.Ord

/-- The literal of the variable i + 1 that holds in m. -/
def toM (m : List Bool) (i : Nat) : Int := if (m[i]?).getD false then (i : Int) + 1 else -((i : Int) + 1)

/-- The clause that excludes m; the clauses that fix it. -/
def notM (n : Nat) (m : List Bool) : List Int := (List.range n).map fun i => -toM m i
def fixM (n : Nat) (m : List Bool) : List (List Int) := (List.range n).map fun i => [toM m i]

section
variable {n : Nat} {m m' : List Bool} {F : List (List Int)} {ms : List (List Bool)}

theorem toM_ok {i : Nat} (hi : i < n) : LitOk n (toM m i) ∧ LitOk n (-toM m i) := by
  unfold toM LitOk
  split <;> omega

theorem toM_holds {i : Nat} (hm : m.length = n) (hm' : m'.length = n) (hi : i < n) : litHolds m' (toM m i) = (m'[i]? == m[i]?) := by
  obtain ⟨a, ha⟩ : ∃ a, m[i]? = some a := ⟨m[i]'(by omega), List.getElem?_eq_getElem (by omega)⟩
  obtain ⟨b, hb⟩ : ∃ b, m'[i]? = some b := ⟨m'[i]'(by omega), List.getElem?_eq_getElem (by omega)⟩
  have e : (toM m i).natAbs = i + 1 := by unfold toM; split <;> omega
  rw [litHolds_in (x := b) (by omega) (by rw [e]; exact hb), ha, hb]
  unfold toM
  rw [ha]
  cases a
  · have : ¬ (0 < (if (some false).getD false = true then (i : Int) + 1 else -((i : Int) + 1))) := by simp; omega
    rw [decide_eq_false this]
    cases b <;> rfl
  · have : 0 < (if (some true).getD false = true then (i : Int) + 1 else -((i : Int) + 1)) := by show 0 < (i : Int) + 1; omega
    rw [decide_eq_true this]
    cases b <;> rfl

theorem not_holds (hm : m.length = n) (hm' : m'.length = n) : holdsB m' (notM n m) = true ↔ m' ≠ m := by
  unfold holdsB notM
  rw [List.any_map, List.any_eq_true]
  constructor
  · rintro ⟨i, hi, h⟩ rfl
    have hi := List.mem_range.1 hi
    have h1 := toM_holds hm hm hi
    have h : litHolds m' (-toM m' i) = true := h
    have h2 : litHolds m' (toM m' i) = true := by rw [h1]; simp
    exact lit_both h2 h
  · intro hne
    obtain ⟨i, hi⟩ : ∃ i, m'[i]? ≠ m[i]? := Classical.byContradiction fun q => hne (List.ext_getElem? fun i => Classical.byContradiction fun q2 => q ⟨i, q2⟩)
    have hin : i < n := Nat.lt_of_not_le fun q => hi (by rw [List.getElem?_eq_none (by omega), List.getElem?_eq_none (by omega)])
    refine ⟨i, List.mem_range.2 hin, ?_⟩
    show litHolds m' (-toM m i) = true
    refine lit_total hm' (toM_ok hin).1 ?_
    rw [toM_holds hm hm' hin]
    simpa using hi

theorem fix_holds (hm : m.length = n) : ∀ c ∈ fixM n m, holdsB m c = true := fun c hc => by
  obtain ⟨i, hi, rfl⟩ := List.mem_map.1 hc
  have := toM_holds hm hm (List.mem_range.1 hi)
  simp only [holdsB, List.any_cons, List.any_nil, Bool.or_false, this]
  simp

/-- Models found so far. -/
structure MI (n : Nat) (F : List (List Int)) (ms : List (List Bool)) : Prop where
  nod : ms.Nodup
  ok : ∀ m ∈ ms, m.length = n ∧ ∀ c ∈ F, holdsB m c = true

def nots (n : Nat) (ms : List (List Bool)) : List (List Int) := ms.map (notM n)

theorem MI.next (h : MI n F ms) (hm : m.length = n) (hh : ∀ c ∈ F ++ nots n ms, holdsB m c = true) : MI n F (ms ++ [m]) := by
  refine ⟨List.nodup_append.2 ⟨h.nod, by simp, fun x hx y hy => ?_⟩, fun x hx => ?_⟩
  · have e : y = m := by simpa using hy
    rintro rfl
    have h1 := hh (notM n x) (List.mem_append_right _ (List.mem_map.2 ⟨x, hx, rfl⟩))
    exact (not_holds (h.ok x hx).1 hm).1 h1 e.symm
  · rcases List.mem_append.1 hx with q | q
    · exact h.ok x q
    · rw [List.mem_singleton.1 q]
      exact ⟨hm, fun c hc => hh c (List.mem_append_left _ hc)⟩

/-- A number for a model. -/
def codeM : List Bool → Nat
  | [] => 0
  | b :: t => 2 * codeM t + (if b then 1 else 0)

theorem codeM_lt : ∀ m : List Bool, codeM m < 2 ^ m.length
  | [] => by simp [codeM]
  | b :: t => by
    have := codeM_lt t
    simp only [codeM, List.length_cons, Nat.pow_succ]
    split <;> omega

theorem codeM_bit : ∀ (m : List Bool) (i : Nat), (codeM m).testBit i = (m[i]?).getD false
  | [], i => by simp [codeM]
  | b :: t, 0 => by
    simp only [codeM, Nat.testBit_zero, List.getElem?_cons_zero, Option.getD_some]
    cases b
    · simp
    · simp
  | b :: t, i + 1 => by
    rw [Nat.testBit_succ, List.getElem?_cons_succ, ← codeM_bit t i]
    congr 1
    simp only [codeM]
    split <;> omega

theorem modelL_code (hm : m.length = n) : modelL n (codeM m : Int) = m := by
  unfold modelL
  refine List.ext_getElem (by simp [hm]) fun i h1 h2 => ?_
  rw [List.getElem_map, List.getElem_range]
  unfold bitB
  rw [Int.toNat_natCast, codeM_bit, List.getElem?_eq_getElem h2]
  rfl

theorem modelL_inj {a b : Nat} (ha : a < 2 ^ n) (hb : b < 2 ^ n) (h : modelL n (a : Int) = modelL n (b : Int)) : a = b := by
  refine Nat.eq_of_testBit_eq fun i => ?_
  by_cases hi : i < n
  · have h1 := congrArg (fun l => l[i]?) h
    unfold modelL at h1
    simp only [List.getElem?_map, List.getElem?_range hi, Option.map_some, Option.some.injEq] at h1
    exact h1
  · have hp : 2 ^ n ≤ 2 ^ i := Nat.pow_le_pow_right (by decide) (by omega)
    rw [Nat.testBit_lt_two_pow (by omega), Nat.testBit_lt_two_pow (by omega)]

theorem sub_len {α : Type} [DecidableEq α] : ∀ {xs ys : List α}, xs.Nodup → (∀ a ∈ xs, a ∈ ys) → xs.length ≤ ys.length
  | [], _, _, _ => Nat.zero_le _
  | x :: xs, ys, hn, hs => by
    rw [List.nodup_cons] at hn
    have hx := hs x (by simp)
    have h1 := sub_len (xs := xs) (ys := ys.erase x) hn.2 fun a ha => (List.mem_erase_of_ne fun e => hn.1 (by rw [← e]; exact ha)).2 (hs a (List.mem_cons_of_mem _ ha))
    have h2 := List.length_erase_of_mem hx
    have h3 := List.length_pos_iff.2 (List.ne_nil_of_mem hx)
    simp only [List.length_cons]
    omega

/-- The models, by their numbers, below k. -/
def cntM (n : Nat) (F : List (List Int)) (k : Nat) : Nat := ((List.range k).filter fun (b : Nat) => F.all fun c => holdsB (modelL n b) c).length

theorem cntM_succ (n : Nat) (F : List (List Int)) (k : Nat) : cntM n F (k + 1) = cntM n F k + (if (F.all fun c => holdsB (modelL n k) c) then 1 else 0) := by
  unfold cntM
  rw [List.range_succ, List.filter_append, List.length_append]
  congr 1
  rw [List.filter_cons]
  split <;> simp_all

theorem MI.len (h : MI n F ms) : ms.length ≤ 2 ^ n := by
  have h1 : (ms.map codeM).Nodup := by
    refine List.Pairwise.map _ (R := fun a b => a ∈ ms ∧ b ∈ ms ∧ a ≠ b) (fun a b hab e => hab.2.2 ?_) ?_
    · rw [← modelL_code (h.ok a hab.1).1, ← modelL_code (h.ok b hab.2.1).1, e]
    · exact List.Pairwise.and_mem.1 (h.nod) |>.imp fun ⟨a1, a2, a3⟩ => ⟨a1, a2, a3⟩
  have h2 := sub_len (ys := List.range (2 ^ n)) h1 fun a ha => by
    obtain ⟨m, hm, rfl⟩ := List.mem_map.1 ha
    have := codeM_lt m
    rw [(h.ok m hm).1] at this
    exact List.mem_range.2 this
  simpa using h2

theorem MI.all (h : MI n F ms) (hno : ¬ HasM n (F ++ nots n ms)) : ms.length = cntM n F (2 ^ n) := by
  let L := ((List.range (2 ^ n)).filter fun (b : Nat) => F.all fun c => holdsB (modelL n b) c)
  have hL : (L.map fun (b : Nat) => modelL n (b : Int)).Nodup := by
    refine List.Pairwise.map _ (R := fun a b => a ∈ L ∧ b ∈ L ∧ a ≠ b) (fun a b hab e => hab.2.2 ?_) ?_
    · exact modelL_inj (List.mem_range.1 (List.mem_filter.1 hab.1).1) (List.mem_range.1 (List.mem_filter.1 hab.2.1).1) e
    · exact List.Pairwise.and_mem.1 (List.nodup_range.filter _) |>.imp fun ⟨a1, a2, a3⟩ => ⟨a1, a2, a3⟩
  have h1 : ms.length ≤ (L.map fun (b : Nat) => modelL n (b : Int)).length := sub_len h.nod fun m hm => by
    have hl := (h.ok m hm).1
    have hc := codeM_lt m
    rw [hl] at hc
    refine List.mem_map.2 ⟨codeM m, List.mem_filter.2 ⟨List.mem_range.2 hc, ?_⟩, modelL_code hl⟩
    rw [List.all_eq_true]
    intro c hcF
    rw [modelL_code hl]
    exact (h.ok m hm).2 c hcF
  have h2 : (L.map fun (b : Nat) => modelL n (b : Int)).length ≤ ms.length := sub_len hL fun m hm => by
    obtain ⟨b, hb, rfl⟩ := List.mem_map.1 hm
    have hF := (List.mem_filter.1 hb).2
    rw [List.all_eq_true] at hF
    refine Classical.byContradiction fun q => hno ⟨modelL n b, by simp [modelL], fun c hc => ?_⟩
    rcases List.mem_append.1 hc with r | r
    · exact hF c r
    · obtain ⟨m', hm', rfl⟩ := List.mem_map.1 r
      refine (not_holds (h.ok m' hm').1 (by simp [modelL])).2 fun e => q ?_
      rw [e]; exact hm'
  rw [List.length_map] at h1 h2
  unfold cntM
  exact Nat.le_antisymm h1 h2

theorem notM_ok : ∀ x ∈ notM n m, LitOk n x := fun x hx => by
  obtain ⟨i, hi, rfl⟩ := List.mem_map.1 hx
  exact (toM_ok (List.mem_range.1 hi)).2

theorem fixM_ok : ClsOk n (fixM n m) := fun c hc x hx => by
  obtain ⟨i, hi, rfl⟩ := List.mem_map.1 hc
  rw [List.mem_singleton.1 hx]
  exact (toM_ok (List.mem_range.1 hi)).1

end

end Go.Proofs.Ytfofabbnbmieoaa.Ord

/- Plain facts for SolvePigeons. -/
namespace Go.Proofs.Ytfofabbnbmieoaa.Ord

/-- The pigeon p is in the hole h. -/
def pvar (H p h : Nat) : Int := (p : Int) * H + h + 1

def ppair (H p h q : Nat) : List Int := [-pvar H p h, -pvar H q h]
def ppairs (H p h : Nat) : List (List Int) := (List.range p).map fun q => ppair H p h q
def prow (H p : Nat) : List Int := (List.range H).map fun h => pvar H p h
def pone (H p : Nat) : List (List Int) := (List.range H).flatMap (fun h => ppairs H p h) ++ [prow H p]
def pig (k H : Nat) : List (List Int) := (List.range k).flatMap fun p => pone H p

section
variable {k H p h q : Nat} {m : List Bool}

theorem pvar_range (hp : p < k) (hh : h < H) : 1 ≤ pvar H p h ∧ pvar H p h ≤ ((k * H : Nat) : Int) ∧ (pvar H p h).natAbs = p * H + h + 1 := by
  have h1 : (p + 1) * H ≤ k * H := Nat.mul_le_mul_right H hp
  have h2 : (p + 1) * H = p * H + H := Nat.succ_mul p H
  have e : pvar H p h = ((p * H + h + 1 : Nat) : Int) := by unfold pvar; simp
  rw [e]
  omega

theorem pvar_ok (hp : p < k) (hh : h < H) : LitOk (k * H) (pvar H p h) ∧ LitOk (k * H) (-pvar H p h) := by
  have := pvar_range hp hh
  unfold LitOk
  omega

theorem mem_pig {c : List Int} : c ∈ pig k H ↔ ∃ p, p < k ∧ ((∃ h q, h < H ∧ q < p ∧ c = ppair H p h q) ∨ c = prow H p) := by
  unfold pig pone ppairs
  simp only [List.mem_flatMap, List.mem_range, List.mem_append, List.mem_map, List.mem_singleton]
  constructor
  · rintro ⟨p, hp, ⟨h, hh, q, hq, rfl⟩ | rfl⟩
    · exact ⟨p, hp, .inl ⟨h, q, hh, hq, rfl⟩⟩
    · exact ⟨p, hp, .inr rfl⟩
  · rintro ⟨p, hp, ⟨h, q, hh, hq, rfl⟩ | rfl⟩
    · exact ⟨p, hp, .inl ⟨h, hh, q, hq, rfl⟩⟩
    · exact ⟨p, hp, .inr rfl⟩

theorem pig_ok : ClsOk (k * H) (pig k H) := fun c hc x hx => by
  obtain ⟨p, hp, ⟨h, q, hh, hq, rfl⟩ | rfl⟩ := mem_pig.1 hc
  · simp only [ppair, List.mem_cons, List.not_mem_nil, or_false] at hx
    rcases hx with rfl | rfl
    · exact (pvar_ok hp hh).2
    · exact (pvar_ok (by omega) hh).2
  · obtain ⟨h, hh, rfl⟩ := List.mem_map.1 hx
    exact (pvar_ok hp (List.mem_range.1 hh)).1

theorem pig_cl {c : List Int} (hc : c ∈ pig k H) : c.length ≤ H + 2 := by
  obtain ⟨p, hp, ⟨h, q, hh, hq, rfl⟩ | rfl⟩ := mem_pig.1 hc
  · simp [ppair]
  · simp [prow]

/-- There are more pigeons than holes. -/
theorem pig_un (hk : H < k) : ¬ HasM (k * H) (pig k H) := by
  rintro ⟨m, hm, hh⟩
  have h1 : ∀ p, p < k → ∃ h, h < H ∧ litHolds m (pvar H p h) = true := fun p hp => by
    have := hh (prow H p) (mem_pig.2 ⟨p, hp, .inr rfl⟩)
    unfold holdsB at this
    obtain ⟨x, hx, hxx⟩ := List.any_eq_true.1 this
    obtain ⟨h, hh', rfl⟩ := List.mem_map.1 hx
    exact ⟨h, List.mem_range.1 hh', hxx⟩
  have h2 : ∀ p q h, p < k → q < p → h < H → litHolds m (pvar H p h) = true → litHolds m (pvar H q h) = true → False := fun p q h hp hq hhH a b => by
    have := hh (ppair H p h q) (mem_pig.2 ⟨p, hp, .inl ⟨h, q, hhH, hq, rfl⟩⟩)
    unfold holdsB at this
    obtain ⟨x, hx, hxx⟩ := List.any_eq_true.1 this
    simp only [ppair, List.mem_cons, List.not_mem_nil, or_false] at hx
    rcases hx with rfl | rfl
    · exact lit_both a hxx
    · exact lit_both b hxx
  let f : Nat → Nat := fun p => if hp : p < k then Classical.choose (h1 p hp) else 0
  have hf : ∀ p, p < k → f p < H ∧ litHolds m (pvar H p (f p)) = true := fun p hp => by
    show (if hp : p < k then Classical.choose (h1 p hp) else 0) < H ∧ litHolds m (pvar H p (if hp : p < k then Classical.choose (h1 p hp) else 0)) = true
    rw [dif_pos hp]
    exact Classical.choose_spec (h1 p hp)
  have hnd : ((List.range k).map f).Nodup := by
    refine List.Pairwise.map _ (R := fun a b => a < k ∧ b < k ∧ a ≠ b) (fun a b hab e => ?_) ?_
    · obtain ⟨ha, hb, hne⟩ := hab
      have fa := hf a ha
      have fb := hf b hb
      rw [← e] at fb
      rcases Nat.lt_or_gt_of_ne hne with q | q
      · exact h2 b a (f a) hb q fa.1 fb.2 fa.2
      · exact h2 a b (f a) ha q fa.1 fa.2 fb.2
    · exact List.Pairwise.and_mem.1 (List.nodup_range (n := k)) |>.imp fun ⟨a1, a2, a3⟩ => ⟨List.mem_range.1 a1, List.mem_range.1 a2, a3⟩
  have := nodup_below H _ hnd fun x hx => by
    obtain ⟨p, hp, rfl⟩ := List.mem_map.1 hx
    exact (hf p (List.mem_range.1 hp)).1
  simp at this
  omega

/-- There are as many. -/
theorem pig_sat (k : Nat) : HasM (k * k) (pig k k) := by
  let m : List Bool := (List.range (k * k)).map fun i => i / k == i % k
  have hv : ∀ p h, p < k → h < k → litHolds m (pvar k p h) = (p == h) := fun p h hp hh => by
    have hr := pvar_range (k := k) (H := k) hp hh
    have h3 : m[(pvar k p h).natAbs - 1]? = some (p == h) := by
      rw [hr.2.2, show p * k + h + 1 - 1 = p * k + h by omega]
      show ((List.range (k * k)).map fun i => i / k == i % k)[p * k + h]? = _
      rw [List.getElem?_map, List.getElem?_range (by omega)]
      show some ((p * k + h) / k == (p * k + h) % k) = _
      have e1 : (p * k + h) / k = p := by
        rw [Nat.mul_comm, Nat.mul_add_div (by omega), Nat.div_eq_of_lt hh, Nat.add_zero]
      have e2 : (p * k + h) % k = h := by
        rw [Nat.mul_comm, Nat.mul_add_mod, Nat.mod_eq_of_lt hh]
      rw [e1, e2]
    rw [litHolds_in (by omega) h3, decide_eq_true (by omega)]
    cases (p == h) <;> rfl
  refine ⟨m, by simp [m], fun c hc => ?_⟩
  obtain ⟨p, hp, ⟨h, q, hh, hq, rfl⟩ | rfl⟩ := mem_pig.1 hc
  · by_cases e : p = h
    · refine List.any_eq_true.2 ⟨-pvar k q h, by simp [ppair], lit_total (n := k * k) (by simp [m]) (pvar_ok (by omega) hh).1 ?_⟩
      rw [hv q h (by omega) hh]
      exact beq_false_of_ne (by omega)
    · refine List.any_eq_true.2 ⟨-pvar k p h, by simp [ppair], lit_total (n := k * k) (by simp [m]) (pvar_ok hp hh).1 ?_⟩
      rw [hv p h hp hh]
      exact beq_false_of_ne e
  · exact List.any_eq_true.2 ⟨pvar k p p, List.mem_map.2 ⟨p, List.mem_range.2 hp, rfl⟩, by rw [hv p p hp hp]; simp⟩

end

end Go.Proofs.Ytfofabbnbmieoaa.Ord
