/- The contract of weepholelaw02.Fit. -/
import Derived.Test.YtfgaglgaofceiaaOwnRw
import Derived.Test.YtfgaglgaofceiaaPFit
namespace Go.Proofs.Ytfgaglgaofceiaa
open Go.RowKit

set_option maxHeartbeats 4000000 in
theorem law02_Fit (n : Int) (v1 : Value) (l : List (List Int)) (w : World) (hn0 : 0 ≤ n) (hn1 : n ≤ 255) (h1 : ArgR .i8 w v1 l) :
    Calls Try.prog 29 #[.int .u8 n, v1] w fun e w' =>
      ((fitB l = false ∧ e = .returned (.tuple #[.agg #[.int .i64 0, .slice none 0 0], .bool false])) ∨
       (fitB l = true ∧ ∃ v, e = .returned (.tuple #[.agg #[.int .i64 (fitV n), v], .bool true]) ∧ OwnRw w' w.heap.size v (fitF n l))) ∧ Below w.heap.size w w' := by
  obtain ⟨a, c, rfl, hle, hmx, hnn, hrows⟩ := h1
  have HRW := hid hrows
  obtain ⟨i0, hi, hz0, hz1, hz2⟩ := info_parts info_int
  obtain ⟨i1, hj, hy0, hy1, hy2⟩ := info_parts info_ints
  have hV := fitV_range n
  obtain ⟨V, hVe⟩ : ∃ V, V = fitV n := ⟨_, rfl⟩
  have hVe2 : 1 + n % 12 = V := by rw [hVe]; rfl
  rw [← hVe] at hV
  have HVE := hid hVe
  clear hrows hnn hVe
  go_enter Try.func29, Try.ntmps29
  have hb2 : Below w.heap.size w ((w.alloc (.cells #[.int .i64 0, .slice none 0 0] 34)).alloc (.cells #[.int .i64 V, .slice none 0 0] 34)) := below_al (box_below _ _) (by simp only [size_al]; omega) _
  have HB2 := hid hb2
  clear hb2
  by_cases hlen : (30 : Int) < l.length
  · go_wp2_with fail
    exact bodyPost_ret (v := .tuple #[.agg #[.int .i64 0, .slice none 0 0], .bool false]) (by simp [results, Try.results29, go_sem]) rfl ⟨Or.inl ⟨fitB_false_long hlen, rfl⟩, HB2.out⟩
  · have hl30 : (l.length : Int) ≤ 30 := by omega
    go_wp2_with fail
    go_loopw [7] (fun i wr => ∃ (k : Nat) (v : Value), k ≤ l.length ∧ i = .int .i64 k ∧ Hid (wr.heap[w.heap.size]? = some (.cells #[.int .i64 0, .slice none 0 0] 34)) ∧ Hid (wr.heap[w.heap.size + 1]? = some (.cells #[.int .i64 V, v] 34)) ∧
        Hid (OwnRw wr (w.heap.size + 2) v ((l.take k).map (fitC V))) ∧ Below w.heap.size w wr ∧ w.heap.size + 2 ≤ wr.heap.size ∧ Hid ((l.take k).any (fun c => decide (20 < c.length)) = false)) (fun i _ => l.length - (intOf i).toNat)
    case atStart => exact ⟨0, .slice none 0 0, Nat.zero_le _, rfl, by simp [Hid, heap_al, Array.getElem?_push], by simp [Hid, heap_al, Array.getElem_push], ⟨[], World.ownsRow_nil _ _ _ _, by simp⟩, HB2.out, by simp only [size_al]; omega, rfl⟩
    case round =>
      obtain ⟨k, v, hk, rfl, hB0, hB1, hown, hb, hsz, hany⟩ := hrel
      have hq0 : wr.cell? ⟨w.heap.size, 0, none⟩ = some (.int .i64 0) := fit_cell (vs := [.int .i64 0, .slice none 0 0]) hB0.out 0
      have hq1 : wr.cell? ⟨w.heap.size, 1, none⟩ = some (.slice none 0 0) := fit_cell (vs := [.int .i64 0, .slice none 0 0]) hB0.out 1
      have hf0 : wr.frozen? ⟨w.heap.size, 0, none⟩ = false := frozen_of_row _ _ _ _ _ hB0.out
      have hf1 : wr.frozen? ⟨w.heap.size, 1, none⟩ = false := frozen_of_row _ _ _ _ _ hB0.out
      have hp0 : wr.cell? ⟨w.heap.size + 1, 0, none⟩ = some (.int .i64 V) := fit_cell (vs := [.int .i64 V, v]) hB1.out 0
      have hp1 : wr.cell? ⟨w.heap.size + 1, 1, none⟩ = some v := fit_cell (vs := [.int .i64 V, v]) hB1.out 1
      by_cases hlt : k < l.length
      · obtain ⟨cl, hcl⟩ : ∃ cl, l[k]? = some cl := ⟨l[k], by simp [hlt]⟩
        obtain ⟨b, off, u, rfl, hc0, a', c', rfl, hle', hmx', hnn', hsl, hwf⟩ := HRW.out k cl hcl
        have hcell := below_keeps hb _ _ hc0
        have HCL := hid hcl
        have HSL := hid hsl
        have HWF := hid hwf
        have HC0 := hid hc0
        clear hcl hsl hwf hc0 hnn'
        by_cases h20 : (20 : Int) < cl.length
        · go_wp2_with fail
          exact bodyPost_ret (v := .tuple #[.agg #[.int .i64 0, .slice none 0 0], .bool false]) (by simp [results, Try.results29, go_sem, hq0, hq1]) rfl ⟨Or.inl ⟨fitB_false_at HCL.out h20, rfl⟩, (hb.setCell (by simp) _).setCell (by simp) _⟩
        · clear hq0 hq1 hf0 hf1
          obtain ⟨wo, rfl⟩ : ∃ wo : World, wo = wr := ⟨_, rfl⟩
          go_wp2_with fail
          go_loopw [8, 9] (fun v8 i w2 => ∃ j : Nat, j ≤ cl.length ∧ i = .int .i64 j ∧ Hid (w2.ownsRow wo.heap.size 3 1 v8 (fitC V (cl.take j)).length (ints (fitC V (cl.take j)))) ∧ Below wo.heap.size wo w2) (fun _ i _ => cl.length - (intOf i).toNat)
          case atStart => exact ⟨0, Nat.zero_le _, rfl, World.ownsRow_nil _ _ _ _, Below.refl _ _⟩
          case round =>
            obtain ⟨j, hj1, rfl, ho8, hb8⟩ := hrel
            have hcell2 := below_keeps hb8 _ _ hcell
            have hB1' : wr.heap[w.heap.size + 1]? = some (.cells #[.int .i64 V, v] 34) := (hb8.block _ (by omega)).trans hB1.out
            have HB1 := hid hB1'
            have hp0' : wr.cell? ⟨w.heap.size + 1, 0, none⟩ = some (.int .i64 V) := fit_cell (vs := [.int .i64 V, v]) hB1' 0
            have hp1' : wr.cell? ⟨w.heap.size + 1, 1, none⟩ = some v := fit_cell (vs := [.int .i64 V, v]) hB1' 1
            have hg1' : wr.frozen? ⟨w.heap.size + 1, 1, none⟩ = false := frozen_of_row _ _ _ _ _ hB1'
            have hz8 := hb8.size
            clear hB1' hcell hp0 hp1
            by_cases hjl : j < cl.length
            · obtain ⟨b2, off2, x, rfl, hcx, hx⟩ := (HSL.out.below (hb.trans (hb8.mono (by omega)))).intK hjl
              have hxb := bounds_i8 (HWF.out x (List.mem_of_getElem? hx))
              have HX := hid hx
              obtain ⟨t, ht⟩ : ∃ t, x.tmod (V + 1) = t := ⟨_, rfl⟩
              have htb : -13 ≤ t ∧ t ≤ 13 := by
                have g1 := Int.natAbs_tmod x (V + 1)
                have g2 : x.natAbs % (V + 1).natAbs < (V + 1).natAbs := Nat.mod_lt _ (by omega)
                rw [← g1, ht] at g2
                omega
              have HT := hid ht
              have e1 : (k : Int) < l.length := by omega
              have e2 : (j : Int) < cl.length := by omega
              have e3 : IntKind.i64.wrap x = x := IntWalk.i64_in x (by omega)
              have e4 : IntKind.i64.wrap (V + 1) = V + 1 := IntWalk.i64_in _ (by omega)
              have e5 : IntKind.i64.wrap t = t := IntWalk.i64_in _ (by omega)
              have e6 : ¬ V + 1 = 0 := by omega
              clear hx
              by_cases h0 : t = 0
              · have H0 := hid h0
                have hne : (t != 0) = false := by simp [h0]
                clear h0
                go_wp2_with fail
                go_quiet (fail)
                clear e1 e2 e3 e4 e5 e6
                go_wp2_with fail
                go_roundw
                case rel => exact ⟨j + 1, by omega, by go_num, by rw [fitC_step_zero HX.out (by rw [HT.out]; exact H0.out)]; exact ho8.out, below_dr hb8 _⟩
                case measure => simp [intOf]; omega
              · have H0 := hid h0
                have hne : (t != 0) = true := by simp [h0]
                have hfl := fitC_length V (cl.take j)
                have hfl2 : (fitC V (cl.take j)).length ≤ j := Nat.le_trans hfl (by simp; omega)
                clear h0 hfl
                go_wp2_with fail
                go_quiet (fail)
                clear e1 e2 e3 e4 e5 e6
                go_wp2_with (at_builtin; refine wpList_append_sl _ rfl _ _ 22 rfl wo.heap.size 3 i0 (.int .i64 0) 8 Try.underlying22 hi hz0 hz1 hz2 rfl u8 (fitC V (cl.take j)).length (ints (fitC V (cl.take j))) rfl (World.ownsRow.alloc (w := wr.drewN nq) ho8.out _) _ 1 _ [.int .i64 t] rfl (slv_new_dr _ _ _ _ _) rfl (by nofun) one_int (by unfold maxLen; omega) (by omega) (by simp only [size_al, heap_dr]; omega) ?_; intro v9 w9 ho9 hg9; have HO9 := hid ho9; have HG9 := hid hg9; clear ho9 hg9)
                have hb9 : Below wo.heap.size wo w9 := (below_al (below_dr hb8 nq) (by simp only [heap_dr]; omega) _).grown HG9.out (by simp only [size_al, heap_dr]; omega) (fun q hq => (ho8.out.lt q hq).1)
                have HF : Hid (w9.ownsRow wo.heap.size 3 1 v9 (fitC V (cl.take (j + 1))).length (ints (fitC V (cl.take (j + 1))))) := by
                  rw [fitC_step HX.out (by rw [HT.out]; exact H0.out), HT.out, ints_append, List.length_append]
                  exact HO9.out
                go_wp2_with fail
                go_roundw
                case rel => exact ⟨j + 1, by omega, by go_num, HF, hb9⟩
                case measure => simp [intOf]; omega
            · have hjc : j = cl.length := by omega
              have HO8 : Hid (wr.ownsRow wo.heap.size 3 1 u8 (fitC V cl).length (ints (fitC V cl))) := by
                have := ho8.out
                rw [hjc, List.take_length] at this
                exact this
              clear ho8
              obtain ⟨vs, hv1, hv2⟩ := hown.out.below hb8
              have HV2 := hid hv2
              have hkl : ((l.take k).map (fitC V)).length = k := by simp; omega
              rw [hkl] at hv1
              have HV1 := hid hv1
              obtain ⟨a8, c8, rfl, -⟩ := own_sli HO8.out
              have HONE : Hid (∀ u ∈ [Value.slice a8 (fitC V cl).length c8], u.oneCell' = true) := by
                intro u hu
                simp at hu
                subst hu
                rfl
              go_wp2_with (at_builtin; refine wpList_append_sl _ rfl _ _ 32 rfl (w.heap.size + 2) 22 i1 (.slice none 0 0) 24 Try.underlying32 hj hy0 hy1 hy2 rfl v k vs rfl (HV1.out.alloc _) _ 1 _ [.slice a8 (fitC V cl).length c8] rfl (slv_new _ [.slice a8 (fitC V cl).length c8] _ _) rfl (by nofun) HONE.out (by unfold maxLen; omega) (by omega) (by simp only [size_al]; omega) ?_; intro v9 w9 ho9 hg9; obtain ⟨a9, c9, rfl, -⟩ := own_sl ho9; have HG9 := hid hg9; have HO9 := hid ho9; have hq9 : w9.heap[w.heap.size + 1]? = some (.cells #[.int .i64 V, v] 34) := (hg9.block _ (by simp only [size_al]; omega) (own_not HV1.out (by omega))).trans ((Below.heap_alloc _ _ _ (by omega)).trans HB1.out); have HQ9 := hid hq9; have hr1 : w9.cell? ⟨w.heap.size + 1, 1, none⟩ = some v := fit_cell (vs := [.int .i64 V, v]) hq9 1; have hr2 : w9.frozen? ⟨w.heap.size + 1, 1, none⟩ = false := frozen_of_row _ _ _ _ _ hq9; clear ho9 hg9 hq9)
              have hX := HG9.out.size
              simp only [size_al] at hX
              have hO9 : w9.ownsRow (w.heap.size + 2) 22 1 (.slice a9 (vs.length + 1) c9) (k + 1) (vs ++ [.slice a8 (fitC V cl).length c8]) := by
                have h := HO9.out
                rw [List.length_append] at h
                exact h
              have hpush : OwnRw w9 (w.heap.size + 2) (.slice a9 (vs.length + 1) c9) ((l.take (k + 1)).map (fitC V)) := by
                rw [fitF_step HCL.out]
                exact OwnRw.push (by rw [hkl]; exact HV1.out.alloc _) (fun j d hd => let ⟨u, e1, e2⟩ := HV2.out j d hd; ⟨u, e1, e2.alloc _⟩) ((own_base HO8.out hsz).alloc _) (by rw [hkl]; exact hO9) HG9.out
              have hb9 : Below w.heap.size w w9 := (below_al (hb.trans (hb8.mono (by omega))) (by omega) _).grown HG9.out (by simp only [size_al]; omega) (fun q hq => by have := (HV1.out.lt q hq).1; omega)
              have hB09 : w9.heap[w.heap.size]? = some (.cells #[.int .i64 0, .slice none 0 0] 34) := (HG9.out.block _ (by simp only [size_al]; omega) (own_not HV1.out (by omega))).trans ((Below.heap_alloc _ _ _ (by omega)).trans ((hb8.block _ (by omega)).trans hB0.out))
              have HP := hid hpush
              have HB09 := hid hB09
              clear hpush hB09 hO9
              go_roundw
              case rel =>
                refine ⟨k + 1, .slice a9 (vs.length + 1) c9, by omega, by go_num, ?_, ?_, HP.out.setBelow (by simp) _, hb9.setCell (by simp) _, by simp [World.setCell]; omega, take_any_succ HCL.out hany (by simp; omega)⟩
                · exact (Below.heap_setCell _ _ _ _ (by simp)).trans HB09.out
                · exact heap_setCell_same w9 (w.heap.size + 1) 1 #[.int .i64 V, v] 34 _ HQ9.out
              case measure => simp [intOf]; omega
      · obtain ⟨av, cv, rfl⟩ : ∃ av cv, v = .slice av l.length cv := by
          obtain ⟨vs, ho, -⟩ := hown.out
          obtain ⟨av, cv, h1, -⟩ := own_sl ho
          have h2 : vs.length = l.length := by have := ho.1; simp at this; omega
          exact ⟨av, cv, by rw [h1, h2]⟩
        have hkl : k = l.length := by omega
        subst hkl
        go_wp2_with fail
        refine bodyPost_ret (v := .tuple #[.agg #[.int .i64 V, .slice av l.length cv], .bool true]) (by simp [results, Try.results29, go_sem, hq0, hq1]) rfl ⟨Or.inr ⟨fitB_true hl30 hlt hany, _, by rw [HVE.out], ?_⟩, ?_⟩
        · have h1 := hown.out
          rw [List.take_length] at h1
          rw [fitF, ← HVE.out]
          exact ((h1.setBelow (by simp) _).setBelow (by simp) _).base (by omega)
        · exact (hb.setCell (by simp) _).setCell (by simp) _

end Go.Proofs.Ytfgaglgaofceiaa
