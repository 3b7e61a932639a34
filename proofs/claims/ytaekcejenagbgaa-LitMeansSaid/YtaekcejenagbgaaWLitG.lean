/- The walk of the law LitMeans. -/
import Derived.Test.YtaekcejenagbgaaNormR
import Derived.Test.YtaekcejenagbgaaKnown01
import Derived.Test.YtaekcejenagbgaaPMeans
import Derived.Test.YtaekcejenagbgaaWLitB
import Derived.Test.YtaekcejenagbgaaFitR
namespace Go.Proofs.Ytaekcejenagbgaa
open Go.RowKit

set_option maxRecDepth 100000 in
set_option maxHeartbeats 4000000 in
theorem walk_LitMeans (v0 : Value) (x0 : List Int) (x1 : Int) (w : World) (w0 : ArgI .i8 w v0 x0) (w1 : (Lit.int .u32 x1).wf = true) :
    Calls Try.prog 13 #[v0, .int .u32 x1] w fun e w' => e = .returned (.bool true) ∧ Below w.heap.size w w' := by
  obtain ⟨a0, c0, rfl, hle0, hm0, hn0, hs0, hw0⟩ := w0
  have HW := hid hw0
  have HS0 := hid hs0
  have hb1 := bounds_u32 w1
  have HK := hid fun w => law01_known w
  clear hw0 hs0 hn0 hm0 w1
  obtain ⟨i0, hi, hz0, hz1, hz2⟩ := info_parts info_int
  obtain ⟨ib, hbi, hbz0, hbz1, hbz2⟩ := info_parts info_bool
  by_cases hl : x0.length ≤ 60
  · go_enter Try.func13, Try.ntmps13
    go_wp2_with (at_make; refine wpList_make_full _ rfl _ _ 29 rfl w.heap.size 4 ib (.bool false) 1 Try.underlying29 hbi hbz0 hbz1 _ _ _ _ 30 rfl rfl rfl rfl (by rw [hbz2]; omega) (by unfold maxLen; omega) (Nat.le_refl _) ?_; intro w3 hown3 hgrow3; have hb3 : Below w.heap.size w w3 := (Below.refl _ _).grown hgrow3 (by omega) (by simp); have HO3 := hid hown3; clear hown3 hgrow3)
    go_loopw [6] (fun i wr => ∃ (k : Nat) (bs : List Bool), k ≤ 30 ∧ bs.length = 30 ∧ i = .int .i64 k ∧ Hid (wr.ownsRow w.heap.size 4 1 (.slice (some ⟨w.heap.size, 0, none⟩) 30 30) 30 (bools bs)) ∧ Below w.heap.size w wr) (fun i _ => 30 - (intOf i).toNat)
    case atStart => exact ⟨0, List.replicate 30 false, by omega, by simp, rfl, by rw [← madeBools]; exact HO3.out, hb3⟩
    case round =>
      obtain ⟨k, bs, hk, hbl, rfl, ho, hb⟩ := hrel
      have HBL := hid hbl
      by_cases hlt : k < 30
      · obtain ⟨y, hy⟩ : ∃ y, bs[k]? = some y := ⟨bs[k], by simp⟩
        have hc : wr.cell? ⟨w.heap.size, k, none⟩ = some (.bool y) := by
          rw [ho.out.cellAt k (by omega)]; simp [bools, hy]
        have hfz : wr.frozen? ⟨w.heap.size, k, none⟩ = false := ho.out.frozenAt k
        have HN := hid fun b => (ho.out.stored k (.bool b)).1
        have HG := hid fun b => (ho.out.stored k (.bool b)).2
        clear hbl hy
        go_wp2_with fail
        go_roundw
        case rel =>
          refine ⟨k + 1, bs.set k (bits BinOp.and IntKind.u32 (x1 / 2 ^ k) 1 == 1), by omega, ?_, by go_num, ?_, hb.grown (HG.out _) hb.size (by simp)⟩
          · rw [List.length_set]; exact HBL.out
          · rw [← bools_set]; exact HN.out _
        case measure => simp [intOf]; omega
      · clear hbl
        obtain ⟨w4, hw4⟩ : ∃ w4, w4 = wr := ⟨_, rfl⟩
        subst hw4
        have hbz := hb.size
        go_wp2_with fail
        clear hlt hk
        go_loopw [7, 8] (fun v7 i wr => ∃ j : Nat, j ≤ x0.length ∧ i = .int .i64 j ∧ Hid (wr.ownsRow w4.heap.size 3 1 v7 (fitC 30 (x0.take j)).length (ints (fitC 30 (x0.take j)))) ∧ Below w4.heap.size w4 wr) (fun _ i _ => x0.length - (intOf i).toNat)
        case atStart => exact ⟨0, Nat.zero_le _, rfl, World.ownsRow_nil _ _ _ _, Below.refl _ _⟩
        case round =>
          obtain ⟨j, hj, rfl, ho8, hb8⟩ := hrel
          have hz8 := hb8.size
          by_cases hlt : j < x0.length
          · obtain ⟨b2, off2, x, rfl, hcx, hx⟩ := (HS0.out.below (hb.trans (hb8.mono hbz))).intK hlt
            have hxb := bounds_i8 (HW.out x (List.mem_of_getElem? hx))
            have HX := hid hx
            obtain ⟨t, ht⟩ : ∃ t, x.tmod 31 = t := ⟨_, rfl⟩
            have htb : -31 ≤ t ∧ t ≤ 31 := by
              have g1 := Int.natAbs_tmod x 31
              have g2 : x.natAbs % 31 < 31 := Nat.mod_lt _ (by omega)
              have g3 : t.natAbs < 31 := by rw [← ht, g1]; exact g2
              omega
            have HT : Hid (x.tmod (30 + 1) = t) := ht
            have hfl := fitC_length 30 (x0.take j)
            have hfl2 : (fitC 30 (x0.take j)).length ≤ j := Nat.le_trans hfl (by simp; omega)
            clear hx hfl
            by_cases h0 : t = 0
            · have H0 := hid h0
              have hne : (t != 0) = false := by simp [h0]
              clear h0
              go_wp2_with fail
              go_roundw
              case rel => exact ⟨j + 1, by omega, by go_num, by rw [fitC_step_zero HX.out (by rw [HT.out]; exact H0.out)]; exact ho8.out, hb8⟩
              case measure => simp [intOf]; omega
            · have H0 := hid h0
              have hne : (t != 0) = true := by simp [h0]
              clear h0
              go_wp2_with (at_builtin; refine wpList_append_sl _ rfl _ _ 40 rfl w4.heap.size 3 i0 (.int .i64 0) 8 Try.underlying40 hi hz0 hz1 hz2 rfl _ _ _ rfl (ho8.out.alloc _) _ 1 _ [.int .i64 t] rfl (slv_new _ [.int .i64 t] _ _) rfl (by nofun) one_int (by unfold maxLen; omega) (by omega) (by simp only [size_al]; omega) ?_; intro v9 w9 ho9 hg9; have HO9 := hid ho9; have HG9 := hid hg9; clear ho9 hg9)
              have hb9 : Below w4.heap.size w4 w9 := (below_al hb8 (by omega) _).grown HG9.out (by simp only [size_al]; omega) (fun q hq => (ho8.out.lt q hq).1)
              have HF : Hid (w9.ownsRow w4.heap.size 3 1 v9 (fitC 30 (x0.take (j + 1))).length (ints (fitC 30 (x0.take (j + 1))))) := by
                rw [fitC_step HX.out (by rw [HT.out]; exact H0.out), HT.out, ints_append, List.length_append]
                exact HO9.out
              go_roundw
              case rel => exact ⟨j + 1, by omega, by go_num, HF, hb9⟩
              case measure => simp [intOf]; omega
          · have hjl : j = x0.length := by omega
            obtain ⟨l, hll⟩ : ∃ l, l = fitC 30 x0 := ⟨_, rfl⟩
            have ho9 := ho8.out
            rw [hjl, List.take_length, ← hll] at ho9
            have hl60 : l.length ≤ 60 := by rw [hll]; exact Nat.le_trans (fitC_length _ _) hl
            have hmem : ∀ x ∈ l, x ≠ 0 ∧ x.natAbs ≤ bs.length := fun x hx => by
              have := mem_fitC (V := 30) (by omega) (hll ▸ hx)
              rw [HBL.out]
              omega
            have hl64 : Hid (∀ x ∈ l, I64 x) := fun x hx => by
              have := mem_fitC (V := 30) (by omega) (hll ▸ hx)
              unfold I64; omega
            have HM := hid (holds_means hmem)
            have HE := hid (fun h1 h2 => holds_empty (m := bs) (c := l) h1 h2)
            obtain ⟨r, hr⟩ : ∃ r, adjB (normL l) = r := ⟨_, rfl⟩
            obtain ⟨ys, hys⟩ : ∃ ys, normV l = ys := ⟨_, rfl⟩
            obtain ⟨h1, hh1⟩ : ∃ h1, holdsB bs l = h1 := ⟨_, rfl⟩
            obtain ⟨h2, hh2⟩ : ∃ h2, holdsB bs ys = h2 := ⟨_, rfl⟩
            have hyl : ys.length ≤ 60 := by rw [← hys]; exact Nat.le_trans (normV_length _) hl60
            have hy64 : Hid (∀ y ∈ ys, I64 y) := fun y hy => hl64.out y (mem_normV (hys ▸ hy))
            have hm12 : h1 = (r || h2) := by rw [← hh1, ← hh2, ← hys, ← hr]; exact HM.out
            have he12 : r = false → ys.length = 0 → h1 = false := fun e1 e2 => by rw [← hh1]; exact HE.out (by rw [hr]; exact e1) (by rw [hys]; exact e2)
            obtain ⟨a9, c9, rfl, hc9, hn9, hs9⟩ := own_sli ho9
            have HS9 := hid hs9
            have HN9 := hid hn9
            have HR := hid hr
            have HY := hid hys
            have HH1 := hid hh1
            have HH2 := hid hh2
            have hsm : SlV wr (some ⟨w.heap.size, 0, none⟩) (bools bs) := by
              obtain ⟨a', c', e1, -, -, e4⟩ := own_sl ho.out
              injection e1 with e1
              subst e1
              exact SlV.below e4 hb8
            have HSM := hid hsm
            have HB := hid (hb.trans (hb8.mono hbz))
            clear hll ho8 ho9 hmem HM HE hr hys hh1 hh2 hs9 hn9 hsm ho hjl
            go_wp2_with fail
            refine (lit_NormR a9 l ys r _ c9 wr HR.out HY.out rfl hc9 HN9.out HS9.out hl64.out (by omega)).mono ?_
            rintro e w10 ⟨a10, c10, rfl, ho10, hb10⟩
            have HS10 := hid (OwnT.slv ho10)
            have HS9' := hid (HS9.out.below hb10)
            have HSM' := hid (HSM.out.below hb10)
            have HB10 := hid (HB.out.trans (hb10.mono HB.out.size))
            have hl30 : 30 = bs.length := HBL.out.symm
            have HL30 := hid hl30
            clear ho10 hb10 hl30
            have hcs : (r = true ∧ h1 = true) ∨ (r = false ∧ ((ys.length : Int) == 0) = true ∧ h1 = false ∧ h2 = false) ∨ (r = false ∧ ((ys.length : Int) == 0) = false ∧ h1 = h2) := by
              cases r with
              | true => exact Or.inl ⟨rfl, by simpa using hm12⟩
              | false =>
                refine Or.inr ?_
                by_cases h0 : ys.length = 0
                · have e := he12 rfl h0
                  refine Or.inl ⟨rfl, by simp [h0], e, ?_⟩
                  rw [e] at hm12; simpa using hm12.symm
                · exact Or.inr ⟨rfl, by rw [beq_eq_false_iff_ne]; omega, by simpa using hm12⟩
            clear hm12 he12
            rcases hcs with ⟨rfl, rfl⟩ | ⟨rfl, hz, rfl, rfl⟩ | ⟨rfl, hz, rfl⟩
            · cases hz : ((ys.length : Int) == 0)
              all_goals
                go_wp2_with fail
                refine (lit_HoldsR _ bs 30 _ _ l _ _ _ _ HH1.out HL30.out rfl HSM'.out hl64.out HS9'.out (by omega) (by have := HL30.out; omega)).mono ?_
                rintro e w' ⟨rfl, rfl⟩
                go_wp2_with (go_at_call 30; refine (HK.out _).mono ?_; rintro e w' ⟨rfl, hb⟩)
                go_ret
                exact ⟨rfl, HB10.out.trans (hb.mono HB10.out.size)⟩
            · go_wp2_with fail
              refine (lit_HoldsR _ bs 30 _ _ l _ _ _ _ HH1.out HL30.out rfl HSM'.out hl64.out HS9'.out (by omega) (by have := HL30.out; omega)).mono ?_
              rintro e w' ⟨rfl, rfl⟩
              go_wp2_with fail
              refine (lit_HoldsR _ bs 30 _ _ l _ _ _ _ HH1.out HL30.out rfl HSM'.out hl64.out HS9'.out (by omega) (by have := HL30.out; omega)).mono ?_
              rintro e w' ⟨rfl, rfl⟩
              go_wp2_with fail
              refine (lit_HoldsR _ bs 30 _ _ ys _ _ _ _ HH2.out HL30.out rfl HSM'.out hy64.out HS10.out (by omega) (by have := HL30.out; omega)).mono ?_
              rintro e w' ⟨rfl, rfl⟩
              go_wp2_with (go_at_call 30; refine (HK.out _).mono ?_; rintro e w' ⟨rfl, hb⟩)
              go_ret
              exact ⟨rfl, HB10.out.trans (hb.mono HB10.out.size)⟩
            · cases h1
              all_goals
                go_wp2_with fail
                refine (lit_HoldsR _ bs 30 _ _ l _ _ _ _ HH1.out HL30.out rfl HSM'.out hl64.out HS9'.out (by omega) (by have := HL30.out; omega)).mono ?_
                rintro e w' ⟨rfl, rfl⟩
                go_wp2_with fail
                refine (lit_HoldsR _ bs 30 _ _ ys _ _ _ _ HH2.out HL30.out rfl HSM'.out hy64.out HS10.out (by omega) (by have := HL30.out; omega)).mono ?_
                rintro e w' ⟨rfl, rfl⟩
                go_wp2_with (go_at_call 30; refine (HK.out _).mono ?_; rintro e w' ⟨rfl, hb⟩)
                go_ret
                exact ⟨rfl, HB10.out.trans (hb.mono HB10.out.size)⟩
  · go_enter Try.func13, Try.ntmps13
    go_wp2_with (go_at_call 30; refine (HK.out _).mono ?_; rintro e w' ⟨rfl, hb⟩)
    go_ret
    exact ⟨rfl, hb⟩

end Go.Proofs.Ytaekcejenagbgaa
