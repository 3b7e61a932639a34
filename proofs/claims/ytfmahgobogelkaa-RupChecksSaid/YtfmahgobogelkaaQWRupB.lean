/- The walk of RupChecks. -/
import Derived.Test.YtfmahgobogelkaaQ13

namespace Go.Proofs.Ytfmahgobogelkaa.Ord
open Go.RowKit

theorem eqR_same (f : List (List Int)) : eqR f f = true := by simp [eqR]

set_option maxRecDepth 100000 in
set_option maxHeartbeats 4000000 in
theorem walk_RupChecks (x0 : Int) (v1 : Value) (x1 : List (List Int)) (v2 : Value) (x2 : List (List Int)) (w : World) (w0 : (Lit.int .u8 x0).wf = true) (w1 : ArgR .i8 w v1 x1) (w2 : ArgR .i64 w v2 x2) :
    Calls Try.prog 7 #[.int .u8 x0, v1, v2] w fun e w' => e = .returned (.bool true) ∧ Below w.heap.size w w' := by
  have hb0 := bounds_u8 w0
  have HA := hid w1
  obtain ⟨a2, c2, rfl, hl2, hcf2, hr2, hf2⟩ := rows_of_argC w2
  have HR := hid hr2
  have HF2 := hid hf2
  clear w0 w1 w2 hr2 hf2 hcf2
  cases hfit : fitB x1 with
  | false =>
    have HFI := hid hfit
    clear hfit
    go_enter Try.func7, Try.ntmps7
    go_wp2_with fail
    refine (law02_FitF x0 v1 x1 w HFI.out hb0.1 hb0.2 HA.out).mono ?_
    rintro e w3 ⟨rfl, hb3⟩
    have HB3 := hid hb3
    clear hb3
    go_wp2_with (go_at_call 39; refine (law05_known _).mono ?_; rintro e w' ⟨rfl, hb⟩)
    go_ret
    exact ⟨rfl, (below_al HB3.out HB3.out.size _).trans (hb.mono (by have := HB3.out.size; simp only [size_al]; omega))⟩
  | true =>
    have hV := fitV_range x0
    obtain ⟨n, hn⟩ : ∃ n : Nat, fitV x0 = (n : Int) := ⟨(fitV x0).toNat, by omega⟩
    have hn1 : 1 ≤ n ∧ n ≤ 12 := by omega
    obtain ⟨F, hF⟩ : ∃ F, fitF x0 x1 = F := ⟨_, rfl⟩
    have hfl : F.length ≤ 30 := by rw [← hF, fitF_length]; exact (fitB_bounds hfit).1
    have HFO := hid (show FOk F from hF ▸ fok_fit hfit)
    have HN := hid hn
    have HF := hid hF
    have HFI := hid hfit
    obtain ⟨i, g, hU⟩ : ∃ i g, rupV n F x2 = (i, g) := ⟨_, _, rfl⟩
    have HU := hid hU
    have hz0 : w.heap.size ≤ w.heap.size := Nat.le_refl _
    clear hfit hF hU hn hV
    by_cases h20 : (20 : Int) < x2.length
    · go_enter Try.func7, Try.ntmps7
      go_wp2_with fail
      refine (law02_FitG x0 v1 x1 w HFI.out hb0.1 hb0.2 HA.out).mono ?_
      rw [HN.out, HF.out]
      rintro e w3 ⟨a, c, rfl, hfc, hr3, hb3⟩
      have HB3 := hid hb3
      clear hb3 hr3
      go_wp2_with (go_at_call 39; refine (law05_known _).mono ?_; rintro e w' ⟨rfl, hb⟩)
      go_ret
      exact ⟨rfl, (below_al HB3.out HB3.out.size _).trans (hb.mono (by have := HB3.out.size; simp only [size_al]; omega))⟩
    · have d1 : decide ((20 : Int) < x2.length) = false := decide_eq_false h20
      obtain ⟨N, hNN⟩ : ∃ N, x2.length = N := ⟨_, rfl⟩
      rw [hNN] at d1 h20 hl2
      have HNN := hid hNN
      rw [hNN]
      clear hNN
      go_enter Try.func7, Try.ntmps7
      go_wp2_with fail
      refine (law02_FitH x0 v1 x1 w HFI.out hb0.1 hb0.2 HA.out).mono ?_
      rw [HN.out, HF.out]
      rintro e w3 ⟨a, c, rfl, hfc, hcn, hr3, hb3⟩
      have HCN := hid hcn
      have hz3 := hb3.size
      have hb4 : Below w.heap.size w (w3.alloc (fbox n a F.length c)) := below_al hb3 hz3 _
      have HR4 := hid (hr3.below (box_below w3 (fbox n a F.length c)))
      have HS4 := hid (HR.out.below hb4)
      have HB4 := hid hb4
      have hp0 : (w3.alloc (fbox n a F.length c)).cell? ⟨w3.heap.size, 0, none⟩ = some (.int .i64 n) := fit_cell (vs := [.int .i64 n, .slice a F.length c]) (heap_alloc_new w3 _) 0
      have hp1 : (w3.alloc (fbox n a F.length c)).cell? ⟨w3.heap.size, 1, none⟩ = some (.slice a F.length c) := fit_cell (vs := [.int .i64 n, .slice a F.length c]) (heap_alloc_new w3 _) 1
      clear hb3 hr3 hb4 hcn
      go_wp2_with fail
      have hfb : (World.alloc w3 (.cells #[.int .i64 n, .slice a F.length c] 34)) = w3.alloc (fbox n a F.length c) := rfl
      rw [hfb]
      clear hfb
      generalize w3.alloc (fbox n a F.length c) = w4 at HR4 HS4 HB4 hp0 hp1 ⊢
      have HP := hid (And.intro hp0 hp1)
      clear hp0 hp1
      go_loop [9] (fun s9 => ∃ k : Nat, s9 = .int .i64 k ∧ k ≤ N ∧ Hid (∀ d ∈ x2.take k, d.length ≤ 20)) (fun s9 => (N - (intOf s9)).toNat)
      case atStart => exact ⟨0, rfl, by omega, hid (by simp)⟩
      case round =>
        obtain ⟨k, rfl, hkN, HJ⟩ := hrel
        by_cases hlt : k < N
        · have hlt2 : (k : Int) < N := by omega
          obtain ⟨b, off, d, ad, cd, hap, hcell, hcs, hck, hc64, hcl, hcc, hc0⟩ := HS4.out.row HF2.out (k := k) (by rw [HNN.out]; exact hlt)
          subst hap
          have hwk : IntKind.i64.wrap ((k : Int) + 1) = (k : Int) + 1 := IntWalk.i64_in _ (by omega)
          have HCK := hid hck
          clear hcs hck hc64 hcc hc0
          by_cases hd : (20 : Int) < d.length
          · have hd2 : 20 < d.length := by omega
            go_wp2_with (go_at_call 39; refine (law05_known _).mono ?_; rintro e w' ⟨rfl, hb⟩)
            go_ret
            exact ⟨rfl, HB4.out.trans (hb.mono HB4.out.size)⟩
          · have hd2 : ¬ 20 < d.length := by omega
            go_wp2_with fail
            go_round
            case rel => exact ⟨k + 1, by simp, by omega, hid fun y hy => by
              rw [List.take_add_one, HCK.out] at hy
              rcases List.mem_append.1 hy with q | q
              · exact HJ.out y q
              · have : y = d := by simpa using q
                rw [this]; omega⟩
            case measure => simp [intOf]; omega
        · have hke : k = N := by omega
          subst hke
          have hlt2 : ¬ (k : Int) < k := by omega
          have HL : Hid (∀ d ∈ x2, d.length ≤ 20) := hid fun d hd => HJ.out d (by rw [List.take_of_length_le (by rw [HNN.out]; exact Nat.le_refl _)]; exact hd)
          clear HJ hlt hkN
          go_wp2_with fail
          refine (kit_CopyLists a2 x2 k c2 _ HNN.out.symm HF2.out HS4.out (by rw [HNN.out]; omega) (fun d hd => by have := HL.out d hd; omega)).mono ?_
          rintro e w5 ⟨v5, rfl, ho5, hb5⟩
          obtain ⟨a5, c5, rfl, -, -, hs5⟩ := ho5.shape
          have hp50 := below_keeps hb5 _ _ HP.out.1
          have hp51 := below_keeps hb5 _ _ HP.out.2
          have HB5 := hid (HB4.out.trans (hb5.mono HB4.out.size))
          have HR5 := hid (HR4.out.below hb5)
          have HX5 := hid (HS4.out.below hb5)
          have HS5 := hid hs5
          clear ho5 hb5 hs5
          go_wp2_with fail
          refine (rup_CheckN n a F F.length c a5 x2 x2.length c5 i g w5 HU.out rfl rfl HFO.out HR5.out HF2.out HS5.out (by omega) (by rw [HNN.out]; omega)).mono ?_
          rintro e w6 ⟨rfl, hb6⟩
          have hp60 := below_keeps hb6 _ _ hp50
          have hp61 := below_keeps hb6 _ _ hp51
          have HB6 := hid (HB5.out.trans (hb6.mono HB5.out.size))
          have HR6 := hid (HR5.out.below hb6)
          have HX6 := hid (HX5.out.below hb6)
          have HS6 := hid (HS5.out.below hb6)
          clear hb6 hp50 hp51
          go_wp2_with fail
          refine (ref05_CheckN n a F F.length c a2 x2 k c2 i g w6 HU.out rfl HNN.out.symm HCN.out HFO.out HR6.out HF2.out HX6.out (by rw [HNN.out]; omega)).mono ?_
          rintro e w7 ⟨rfl, hb7⟩
          have HB7 := hid (HB6.out.trans (hb7.mono HB6.out.size))
          have HX7 := hid (HX6.out.below hb7)
          have HS7 := hid (HS6.out.below hb7)
          clear hb7 hp60 hp61
          go_wp2_with fail
          refine (kit_EqualLists a5 a2 x2 x2 x2.length c5 k c2 true w7 (eqR_same _) rfl HNN.out.symm HF2.out HF2.out HS7.out HX7.out (by rw [HNN.out]; omega)).mono ?_
          rintro e w8 ⟨rfl, nd, rfl⟩
          go_wp2_with (go_at_call 39; refine (law05_known _).mono ?_; rintro e w' ⟨rfl, hb⟩)
          go_ret
          exact ⟨rfl, (below_dr HB7.out nd).trans (hb.mono HB7.out.size)⟩

end Go.Proofs.Ytfmahgobogelkaa.Ord
