/- The walk of PropChain. -/
import Derived.Test.YtfgaglgaofceiaaPropN
import Derived.Test.YtfgaglgaofceiaaPChain
import Derived.Test.YtfgaglgaofceiaaOwnRt
namespace Go.Proofs.Ytfgaglgaofceiaa.Ord
open Go.RowKit Go.Conc

attribute [local go_sem ↓] Go.wp_at_zero Go.wp_at_succ

theorem ownT_new {w : World} {b : Nat} {xs : List Int} {n : Nat} (h : w.heap[b]? = some (.cells (ints xs).toArray 3 (0, 0))) (hn : n = xs.length) {B : Nat} (hB : B ≤ b) : OwnT 3 w B (.slice (some ⟨b, 0, none⟩) n n) xs := by
  refine ⟨some ⟨b, 0, none⟩, n, by rw [hn], by omega, (fun e => by cases e), fun ad had => ?_⟩
  injection had with had
  refine ⟨b, 0, _, had.symm, hB, h, fun j x hj => ?_⟩
  simp [ints, hj]

theorem fok_chain {m : Nat} (h : m ≤ 100000) : FOk (chF m) := by
  intro c hc
  obtain ⟨i, hi, rfl⟩ := mem_chF.1 hc
  refine ⟨fun x hx => ?_, by simp⟩
  simp at hx
  unfold I64
  omega

theorem chain_unitsP {m : Nat} {k : Int} (h : m ≤ 100000) (hk : ((m + 1 : Nat) : Int) = k) : unitsV k (chF m) [1] = (posL (m + 1), false, 0) := by
  subst hk
  exact unitsV_closed _ (chain_check m h) (by simp [badLit]; omega) (chain_closed m) (byVar_pos _ _ (Nat.le_refl _))

theorem chain_unitsN {m : Nat} {k : Int} (h : m ≤ 100000) (hk : ((m + 1 : Nat) : Int) = k) : unitsV k (chF m) [-k] = (negL (m + 1), false, 0) := by
  subst hk
  exact unitsV_closed _ (chain_check m h) (by simp [badLit]; omega) (by have := chain_closed_back m; rwa [show -((m : Int) + 1) = -((m + 1 : Nat) : Int) by omega] at this) (byVar_neg _ _ (Nat.le_refl _))

theorem chain_fails {m : Nat} {k : Int} (h : m ≤ 100000) (hk : ((m + 1 : Nat) : Int) = k) : unitsV k (chF m) [1, -k] = ([], true, 0) := by
  subst hk
  exact unitsV_fails (chain_check m h) (by simp [badLit]; omega) (by have := chain_bad m; rwa [show -((m : Int) + 1) = -((m + 1 : Nat) : Int) by omega] at this)

set_option maxRecDepth 100000 in
set_option maxHeartbeats 8000000 in
theorem walk_PropChain (x0 : Int) (x1 : Bool) (w : World) (w0 : (Lit.int .u16 x0).wf = true) :
    Calls Try.prog 9 #[.int .u16 x0, .bool x1] w fun e w' => e = .returned (.bool true) ∧ Below w.heap.size w w' := by
  have hb0 := bounds_u16 w0
  obtain ⟨i0, hi0, hz0, hz1, hz2⟩ := info_parts info_intU
  obtain ⟨i1, hi1, hy0, hy1, hy2⟩ := info_parts info_intsU
  obtain ⟨m, hm⟩ : ∃ m, m = x0.toNat % 2000 := ⟨_, rfl⟩
  have hm2 : m < 2000 := by rw [hm]; exact Nat.mod_lt _ (by omega)
  have hrem : x0.tmod 2000 = (m : Int) := by
    rw [hm, Int.tmod_eq_emod_of_nonneg hb0.1, Int.natCast_emod, Int.toNat_of_nonneg hb0.1]; rfl
  obtain ⟨k, hk⟩ : ∃ k : Int, k = (m : Int) + 1 := ⟨_, rfl⟩
  have HK := hid hk
  have ew0 : IntKind.i64.wrap x0 = x0 := IntWalk.i64_in _ (by omega)
  have ew1 : IntKind.i64.wrap (m : Int) = (m : Int) := IntWalk.i64_in _ (by omega)
  have ew2 : IntKind.i64.wrap (1 + (m : Int)) = k := by rw [IntWalk.i64_in _ (by omega), hk]; omega
  have hkr : 1 ≤ k ∧ k ≤ 2000 := by omega
  have hk2 : ((m + 1 : Nat) : Int) = k := by omega
  have HK2 := hid hk2
  clear w0 hm hk hk2
  go_enter Try.func9, Try.ntmps9
  go_wp2_with fail
  clear hrem ew0 ew1 ew2
  have HB0 : Hid (Below w.heap.size w (w.alloc (.cells #[.int .i64 k, .slice none 0 0] 34))) := hid (box_below _ _)
  have hbx0 : (w.alloc (.cells #[.int .i64 k, .slice none 0 0] 34)).heap[w.heap.size]? = some (.cells #[.int .i64 k, .slice none 0 0] 34) := heap_alloc_new _ _
  have hsz0 : w.heap.size + 1 ≤ (w.alloc (.cells #[.int .i64 k, .slice none 0 0] 34)).heap.size := by simp only [size_al]; omega
  generalize (w.alloc (.cells #[.int .i64 k, .slice none 0 0] 34)) = wf at HB0 hbx0 hsz0 ⊢
  generalize hbb : w.heap.size = bb at hbx0 hsz0 ⊢
  have HBB := hid hbb
  have HX0 := hid hbx0
  clear hbb hbx0
  go_loopw [7] (fun s7 wr => ∃ (i : Nat) (y : Int) (v : Value), s7 = .int .i64 y ∧ Hid (y = (i : Int) + 1) ∧ i ≤ m ∧ Hid (wr.heap[bb]? = some (.cells #[.int .i64 k, v] 34)) ∧ Hid (OwnRt wr (bb + 1) v (chF i)) ∧ Hid (Below w.heap.size w wr) ∧ bb + 1 ≤ wr.heap.size) (fun s7 _ => (k - intOf s7).toNat)
  case atStart => exact ⟨0, 1, _, rfl, hid rfl, Nat.zero_le _, HX0, hid (OwnRt.nil _ _), HB0, hsz0⟩
  case round =>
    clear HX0 HB0 hsz0
    obtain ⟨i, y, v, rfl, HY, him, HX, HO, HB, hsz⟩ := hrel
    have hq0 : wr.cell? ⟨bb, 0, none⟩ = some (.int .i64 k) := fit_cell (vs := [.int .i64 k, v]) HX.out 0
    have hq1 : wr.cell? ⟨bb, 1, none⟩ = some v := fit_cell (vs := [.int .i64 k, v]) HX.out 1
    by_cases hlt : i < m
    · have d1 : decide (y < k) = true := decide_eq_true (by have := HY.out; have := HK.out; omega)
      have HME := hid (show (k - (y + 1)).toNat < (k - y).toNat by have := HY.out; have := HK.out; omega)
      have HY2 : Hid (y + 1 = ((i + 1 : Nat) : Int) + 1) := hid (by have := HY.out; omega)
      have hwy : IntKind.i64.wrap (y + 1) = y + 1 := IntWalk.i64_in _ (by have := HY.out; omega)
      have hwn : IntKind.i64.wrap (-y) = -y := IntWalk.i64_in _ (by have := HY.out; omega)
      have HCH : Hid (chF (i + 1) = chF i ++ [[-y, y + 1]]) := hid (by have := HY.out; rw [chF_succ, this, show (i : Int) + 2 = (i : Int) + 1 + 1 by omega])
      obtain ⟨vs, ho, hvs⟩ := HO.out
      rw [chF_length] at ho
      have HO1 := hid ho
      have HVS := hid hvs
      have hvl : vs.length = i := by have := ho.1; omega
      have HVL := hid hvl
      have HHS : Hid (bb + 1 ≤ wr.heap.size + 1 + 1) := hid (by omega)
      have HLB : Hid (i + 1 ≤ maxLen ∧ (i + 1) * 24 ≤ 140737488355328) := hid (by unfold maxLen; omega)
      have HONE : Hid (∀ u ∈ [Value.slice (some ⟨wr.heap.size, 0, none⟩) 2 2], u.oneCell' = true) := by
        intro u hu
        simp at hu
        subst hu
        rfl
      have hbbs : bb < wr.heap.size := by omega
      clear ho hvs hvl
      go_wp2_with (at_builtin; refine wpList_append_own _ rfl _ _ 32 rfl (bb + 1) 22 i1 (.slice none 0 0) 1 24 Try.underlying32 hi1 hy0 hy1 hy2 rfl (by decide) _ _ _ rfl ((HO1.out.alloc _).alloc _) ⟨wr.heap.size + 1, 0, none⟩ 1 1 [.slice (some ⟨wr.heap.size, 0, none⟩) 2 2] rfl rfl ?c1 HONE.out (by exact HLB.out.1) (by exact HLB.out.2) (by simp only [size_al]; exact HHS.out) ?_)
      case c1 => exact new_oneR (by rw [← size_al wr _]; exact heap_alloc_new _ _)
      intro v9 w9 ho9 hg9 _
      obtain ⟨a9, c9, rfl⟩ := own_lenV' ho9
      have hx9 : w9.heap[bb]? = some (.cells #[.int .i64 k, v] 34) := (hg9.block _ (by simp only [size_al]; omega) (own_not HO1.out (by omega))).trans ((Below.heap_alloc _ _ _ (by simp only [size_al]; omega)).trans ((Below.heap_alloc _ _ _ (by omega)).trans HX.out))
      have hr0 : w9.cell? ⟨bb, 0, none⟩ = some (.int .i64 k) := fit_cell (vs := [.int .i64 k, v]) hx9 0
      have hr1 : w9.cell? ⟨bb, 1, none⟩ = some v := fit_cell (vs := [.int .i64 k, v]) hx9 1
      have hr2 : w9.frozen? ⟨bb, 1, none⟩ = false := frozen_of_row _ _ _ _ _ hx9
      have hP9 : OwnRt w9 (bb + 1) (.slice a9 (i + 1) c9) (chF (i + 1)) := by
        rw [HCH.out]
        refine OwnRt.push (by rw [chF_length]; exact (HO1.out.alloc _).alloc _) (fun j d hd => let ⟨u, e1, e2⟩ := HVS.out j d hd; ⟨u, e1, e2.below (((Below.refl _ wr).alloc (Nat.le_refl _) _).alloc (by simp only [size_al]; omega) _)⟩) (ownT_new (b := wr.heap.size) ?_ rfl hsz) (by rw [chF_length]; exact ho9) hg9
        exact (Below.heap_alloc _ _ _ (by simp)).trans (heap_alloc_new _ _)
      have hB9 : Below w.heap.size w w9 := (below_al (below_al HB.out HB.out.size _) (by have := HB.out.size; simp only [size_al]; omega) _).grown hg9 (by have := HB.out.size; simp only [size_al]; omega) (fun q hq => by have := (HO1.out.lt q hq).1; have := HBB.out; omega)
      have hsz9 : bb + 1 ≤ w9.heap.size := Nat.le_trans (by simp only [size_al]; omega) hg9.size
      have HX9 := hid hx9
      have HP9 := hid hP9
      have HB9 := hid hB9
      clear hq0 hq1 ho9 hg9 hx9 hP9 hB9 hbbs
      go_wp2_with fail
      go_roundw
      case rel => exact ⟨i + 1, y + 1, .slice a9 (i + 1) c9, rfl, HY2, hlt, hid (heap_setCell_same w9 bb 1 #[.int .i64 k, v] 34 _ HX9.out), hid (HP9.out.setBelow (by simp) _), hid (HB9.out.setCell (by rw [HBB.out]; exact Nat.le_refl _) _), by simpa [World.setCell] using hsz9⟩
      case measure => exact HME.out
    · have d1 : decide (y < k) = false := decide_eq_false (by have := HY.out; have := HK.out; omega)
      have him2 : i = m := by omega
      subst him2
      have hsl := HO.out.shape
      obtain ⟨av, cv, rfl, -, -, hrw⟩ := hsl
      rw [chF_length] at hq1
      have HRW := hid hrw
      clear hrw
      obtain ⟨wo, rfl⟩ : ∃ wo : World, wo = wr := ⟨_, rfl⟩
      cases x1 with
      | false =>
        have hwk : IntKind.i64.wrap (-k) = -k := IntWalk.i64_in _ (by omega)
        go_wp2_with fail
        have HO0 : Hid (wo.ownsRow wo.heap.size 3 1 (.slice none 0 0) 0 (ints [])) := hid (World.ownsRow_nil _ _ _ _)
        generalize hB : wo.heap.size = B at HO0
        have HBQ : Hid (wo.heap.size = B) := hid hB
        have HBz : Hid (B ≤ wo.heap.size) := hid (by omega)
        clear hB hwk d1
        go_loopw [8, 10] (fun s8 s10 wq => ∃ (j : Nat) (y : Int), s10 = .int .i64 y ∧ Hid (y = (j : Int) + 1) ∧ j ≤ i + 1 ∧ Hid (wq.ownsRow B 3 1 s8 j (ints (posL j))) ∧ Hid (Below wo.heap.size wo wq) ∧ B ≤ wq.heap.size) (fun _ s10 _ => (k + 1 - intOf s10).toNat)
        case atStart => exact ⟨0, 1, rfl, hid rfl, Nat.zero_le _, HO0, hid (Below.refl _ _), HBz.out⟩
        case round =>
          clear HO0 HBz
          obtain ⟨j, y2, rfl, HY2, hj, HO2, HB2, hsz2⟩ := hrel
          by_cases hjl : j < i + 1
          · have d1 : decide (y2 ≤ k) = true := decide_eq_true (by have := HY2.out; have := HK.out; omega)
            have HME := hid (show (k + 1 - (y2 + 1)).toNat < (k + 1 - y2).toNat by have := HY2.out; have := HK.out; omega)
            have HY3 : Hid (y2 + 1 = ((j + 1 : Nat) : Int) + 1) := hid (by have := HY2.out; omega)
            have hwy : IntKind.i64.wrap (y2 + 1) = y2 + 1 := IntWalk.i64_in _ (by have := HY2.out; omega)
            have hwn : IntKind.i64.wrap (-y2) = -y2 := IntWalk.i64_in _ (by have := HY2.out; omega)
            have HL : Hid (ints (posL (j + 1)) = ints (posL j) ++ [.int .i64 (y2)]) := hid (by have := HY2.out; rw [posL_succ, ← this]; simp [ints])
            have HLB : Hid (j + 1 ≤ maxLen ∧ (j + 1) * 8 ≤ 140737488355328) := hid (by unfold maxLen; omega)
            go_wp2_with (at_builtin; refine wpList_append_own _ rfl _ _ 22 rfl B 3 i0 (.int .i64 0) 1 8 Try.underlying22 hi0 hz0 hz1 hz2 rfl (by decide) _ _ _ rfl (HO2.out.alloc _) ⟨wr.heap.size, 0, none⟩ 1 1 [.int .i64 (y2)] rfl rfl ?c1 one_int (by exact HLB.out.1) (by exact HLB.out.2) (by simp only [size_al]; exact Nat.le_succ_of_le hsz2) ?_)
            case c1 => exact new_oneR (heap_alloc_new _ _)
            intro v9 w9 ho9 hg9 _
            have HO9 : Hid (w9.ownsRow B 3 1 v9 (j + 1) (ints (posL (j + 1)))) := hid (by rw [HL.out]; exact ho9)
            have HB9 : Hid (Below wo.heap.size wo w9) := hid (HB2.out.trans (((Below.refl _ wr).alloc HB2.out.size _).grown hg9 (by have := HB2.out.size; simp only [size_al]; omega) fun q hq => by have := (HO2.out.lt q hq).1; have := HBQ.out; omega))
            have hsz9 : B ≤ w9.heap.size := Nat.le_trans (Nat.le_trans hsz2 (by simp only [size_al]; omega)) hg9.size
            clear ho9 hg9
            go_wp2_with fail
            go_roundw
            case rel => exact ⟨j + 1, y2 + 1, rfl, HY3, hjl, HO9, HB9, hsz9⟩
            case measure => exact HME.out
          · have d1 : decide (y2 ≤ k) = false := decide_eq_false (by have := HY2.out; have := HK.out; omega)
            have hj2 : j = i + 1 := by omega
            have HO3 : Hid (wr.ownsRow B 3 1 u8 (i + 1) (ints (posL (i + 1)))) := hid (by have := HO2.out; rwa [hj2] at this)
            clear hj2 HO2
            obtain ⟨a8, c8, rfl⟩ := own_lenV' HO3.out
            have hsl8 := own_sli HO3.out
            obtain ⟨a8', c8', e8, -, -, hs8⟩ := hsl8
            injection e8 with e8 e9 e10
            clear e9 e10
            subst e8
            have HS8 := hid hs8
            have hp0 := below_keeps HB2.out _ _ hq0
            have hp1 := below_keeps HB2.out _ _ hq1
            have HR2 := hid (HRW.out.below HB2.out)
            have HB3 := hid (HB.out.trans (HB2.out.mono HB.out.size))
            have hwk : IntKind.i64.wrap (-k) = -k := IntWalk.i64_in _ (by omega)
            clear hs8 hq0 hq1
            go_wp2_with fail
            refine (law04_unitsT k av (chF i) i cv a8 (posL (i + 1)) (i + 1) c8 (some ⟨wr.heap.size, 0, none⟩) [1] 1 1 _ (chain_unitsP (by omega) HK2.out) (chF_length i).symm (posL_length _).symm rfl (fok_chain (by omega)) (HR2.out.below (box_below _ _)) (slv_at (vs := ints [1]) (e := 3) (m := (0, 0)) (by exact heap_alloc_new _ _)) (HS8.out.below (box_below _ _)) (by rw [chF_length]; omega) (by simp)).mono ?_
            rintro e w10 ⟨rfl, hb10⟩
            have hb10' := (box_below wr (.cells #[.int .i64 (1)] 3)).trans (hb10.mono (by simp only [size_al]; omega))
            have hp00 := below_keeps hb10' _ _ hp0
            have hp01 := below_keeps hb10' _ _ hp1
            have HR10 := hid (HR2.out.below hb10')
            have HB10 := hid (HB3.out.trans (hb10'.mono HB3.out.size))
            clear hb10 hb10' hp0 hp1
            by_cases hi0 : i = 0
            · have d2 : (k == 1) = true := by rw [beq_iff_eq]; have := HK.out; omega
              clear hi0
              go_wp2_with fail
              refine (law04_known _).mono ?_
              rintro e w12 ⟨rfl, hb12⟩
              have HB12 := hid (HB10.out.trans (hb12.mono HB10.out.size))
              clear hb12
              go_wp2_with fail
              go_ret
              exact ⟨rfl, HB12.out⟩
            · have d2 : (k == 1) = false := by rw [beq_eq_false_iff_ne]; have := HK.out; omega
              clear hi0
              go_wp2_with fail
              refine (law04_failsT k av (chF i) i cv (some ⟨w10.heap.size, 0, none⟩) [1, -k] 2 2 _ (chain_fails (by omega) HK2.out) (chF_length i).symm rfl (fok_chain (by omega)) (HR10.out.below (box_below _ _)) (slv_at (vs := ints [1, -k]) (e := 3) (m := (0, 0)) (by exact heap_alloc_new _ _)) (by rw [chF_length]; omega) (by simp)).mono ?_
              rintro e w11 ⟨rfl, hb11⟩
              have HB11 := hid (HB10.out.trans (((box_below w10 (.cells #[.int .i64 1, .int .i64 (-k)] 3)).trans (hb11.mono (by simp only [size_al]; omega))).mono HB10.out.size))
              clear hb11
              go_wp2_with fail
              refine (law04_known _).mono ?_
              rintro e w12 ⟨rfl, hb12⟩
              have HB12 := hid (HB11.out.trans (hb12.mono HB11.out.size))
              clear hb12
              go_wp2_with fail
              go_ret
              exact ⟨rfl, HB12.out⟩
      | true =>
        have hwk : IntKind.i64.wrap (-k) = -k := IntWalk.i64_in _ (by omega)
        go_wp2_with fail
        have HO0 : Hid (wo.ownsRow wo.heap.size 3 1 (.slice none 0 0) 0 (ints [])) := hid (World.ownsRow_nil _ _ _ _)
        generalize hB : wo.heap.size = B at HO0
        have HBQ : Hid (wo.heap.size = B) := hid hB
        have HBz : Hid (B ≤ wo.heap.size) := hid (by omega)
        clear hB hwk d1
        go_loopw [8, 10] (fun s8 s10 wq => ∃ (j : Nat) (y : Int), s10 = .int .i64 y ∧ Hid (y = (j : Int) + 1) ∧ j ≤ i + 1 ∧ Hid (wq.ownsRow B 3 1 s8 j (ints (negL j))) ∧ Hid (Below wo.heap.size wo wq) ∧ B ≤ wq.heap.size) (fun _ s10 _ => (k + 1 - intOf s10).toNat)
        case atStart => exact ⟨0, 1, rfl, hid rfl, Nat.zero_le _, HO0, hid (Below.refl _ _), HBz.out⟩
        case round =>
          clear HO0 HBz
          obtain ⟨j, y2, rfl, HY2, hj, HO2, HB2, hsz2⟩ := hrel
          by_cases hjl : j < i + 1
          · have d1 : decide (y2 ≤ k) = true := decide_eq_true (by have := HY2.out; have := HK.out; omega)
            have HME := hid (show (k + 1 - (y2 + 1)).toNat < (k + 1 - y2).toNat by have := HY2.out; have := HK.out; omega)
            have HY3 : Hid (y2 + 1 = ((j + 1 : Nat) : Int) + 1) := hid (by have := HY2.out; omega)
            have hwy : IntKind.i64.wrap (y2 + 1) = y2 + 1 := IntWalk.i64_in _ (by have := HY2.out; omega)
            have hwn : IntKind.i64.wrap (-y2) = -y2 := IntWalk.i64_in _ (by have := HY2.out; omega)
            have HL : Hid (ints (negL (j + 1)) = ints (negL j) ++ [.int .i64 (-y2)]) := hid (by have := HY2.out; rw [negL_succ, ← this]; simp [ints])
            have HLB : Hid (j + 1 ≤ maxLen ∧ (j + 1) * 8 ≤ 140737488355328) := hid (by unfold maxLen; omega)
            go_wp2_with (at_builtin; refine wpList_append_own _ rfl _ _ 22 rfl B 3 i0 (.int .i64 0) 1 8 Try.underlying22 hi0 hz0 hz1 hz2 rfl (by decide) _ _ _ rfl (HO2.out.alloc _) ⟨wr.heap.size, 0, none⟩ 1 1 [.int .i64 (-y2)] rfl rfl ?c1 one_int (by exact HLB.out.1) (by exact HLB.out.2) (by simp only [size_al]; exact Nat.le_succ_of_le hsz2) ?_)
            case c1 => exact new_oneR (heap_alloc_new _ _)
            intro v9 w9 ho9 hg9 _
            have HO9 : Hid (w9.ownsRow B 3 1 v9 (j + 1) (ints (negL (j + 1)))) := hid (by rw [HL.out]; exact ho9)
            have HB9 : Hid (Below wo.heap.size wo w9) := hid (HB2.out.trans (((Below.refl _ wr).alloc HB2.out.size _).grown hg9 (by have := HB2.out.size; simp only [size_al]; omega) fun q hq => by have := (HO2.out.lt q hq).1; have := HBQ.out; omega))
            have hsz9 : B ≤ w9.heap.size := Nat.le_trans (Nat.le_trans hsz2 (by simp only [size_al]; omega)) hg9.size
            clear ho9 hg9
            go_wp2_with fail
            go_roundw
            case rel => exact ⟨j + 1, y2 + 1, rfl, HY3, hjl, HO9, HB9, hsz9⟩
            case measure => exact HME.out
          · have d1 : decide (y2 ≤ k) = false := decide_eq_false (by have := HY2.out; have := HK.out; omega)
            have hj2 : j = i + 1 := by omega
            have HO3 : Hid (wr.ownsRow B 3 1 u8 (i + 1) (ints (negL (i + 1)))) := hid (by have := HO2.out; rwa [hj2] at this)
            clear hj2 HO2
            obtain ⟨a8, c8, rfl⟩ := own_lenV' HO3.out
            have hsl8 := own_sli HO3.out
            obtain ⟨a8', c8', e8, -, -, hs8⟩ := hsl8
            injection e8 with e8 e9 e10
            clear e9 e10
            subst e8
            have HS8 := hid hs8
            have hp0 := below_keeps HB2.out _ _ hq0
            have hp1 := below_keeps HB2.out _ _ hq1
            have HR2 := hid (HRW.out.below HB2.out)
            have HB3 := hid (HB.out.trans (HB2.out.mono HB.out.size))
            have hwk : IntKind.i64.wrap (-k) = -k := IntWalk.i64_in _ (by omega)
            clear hs8 hq0 hq1
            go_wp2_with fail
            refine (law04_unitsT k av (chF i) i cv a8 (negL (i + 1)) (i + 1) c8 (some ⟨wr.heap.size, 0, none⟩) [-k] 1 1 _ (chain_unitsN (by omega) HK2.out) (chF_length i).symm (negL_length _).symm rfl (fok_chain (by omega)) (HR2.out.below (box_below _ _)) (slv_at (vs := ints [-k]) (e := 3) (m := (0, 0)) (by exact heap_alloc_new _ _)) (HS8.out.below (box_below _ _)) (by rw [chF_length]; omega) (by simp)).mono ?_
            rintro e w10 ⟨rfl, hb10⟩
            have hb10' := (box_below wr (.cells #[.int .i64 (-k)] 3)).trans (hb10.mono (by simp only [size_al]; omega))
            have hp00 := below_keeps hb10' _ _ hp0
            have hp01 := below_keeps hb10' _ _ hp1
            have HR10 := hid (HR2.out.below hb10')
            have HB10 := hid (HB3.out.trans (hb10'.mono HB3.out.size))
            clear hb10 hb10' hp0 hp1
            by_cases hi0 : i = 0
            · have d2 : (k == 1) = true := by rw [beq_iff_eq]; have := HK.out; omega
              clear hi0
              go_wp2_with fail
              refine (law04_known _).mono ?_
              rintro e w12 ⟨rfl, hb12⟩
              have HB12 := hid (HB10.out.trans (hb12.mono HB10.out.size))
              clear hb12
              go_wp2_with fail
              go_ret
              exact ⟨rfl, HB12.out⟩
            · have d2 : (k == 1) = false := by rw [beq_eq_false_iff_ne]; have := HK.out; omega
              clear hi0
              go_wp2_with fail
              refine (law04_failsT k av (chF i) i cv (some ⟨w10.heap.size, 0, none⟩) [1, -k] 2 2 _ (chain_fails (by omega) HK2.out) (chF_length i).symm rfl (fok_chain (by omega)) (HR10.out.below (box_below _ _)) (slv_at (vs := ints [1, -k]) (e := 3) (m := (0, 0)) (by exact heap_alloc_new _ _)) (by rw [chF_length]; omega) (by simp)).mono ?_
              rintro e w11 ⟨rfl, hb11⟩
              have HB11 := hid (HB10.out.trans (((box_below w10 (.cells #[.int .i64 1, .int .i64 (-k)] 3)).trans (hb11.mono (by simp only [size_al]; omega))).mono HB10.out.size))
              clear hb11
              go_wp2_with fail
              refine (law04_known _).mono ?_
              rintro e w12 ⟨rfl, hb12⟩
              have HB12 := hid (HB11.out.trans (hb12.mono HB11.out.size))
              clear hb12
              go_wp2_with fail
              go_ret
              exact ⟨rfl, HB12.out⟩

end Go.Proofs.Ytfgaglgaofceiaa.Ord
