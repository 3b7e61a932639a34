/- The contracts of the queue's swap, up and down. -/
import Derived.Test.YtfhpjaabcegefaaHeapR
namespace Go.Proofs.Ytfhpjaabcegefaa.Ord
open Go.RowKit

theorem row_block {w : World} {g c n : Nat} {xs : List Int} (h : Rw w (.slice (some ⟨g, 0, none⟩) n c) xs) : ∃ cur, w.heap[g]? = some (.cells cur 3 (0, 0)) := by
  rcases h.2 with ⟨h0, _⟩ | ⟨g', cap, cur, e1, _, e3, _⟩
  · cases h0
  · injection e1 with a1
    injection a1 with a1
    injection a1 with a1
    subst a1
    exact ⟨cur, e3⟩

theorem hrep_setI {w : World} {b g c n : Nat} {va vp : Value} {A I P : List Int} (h : HRep w b va (.slice (some ⟨g, 0, none⟩) n c) vp A I P) (hn : n = I.length) (k : Nat) (x : Int) :
    HRep (w.setCell ⟨g, k, none⟩ (.int .i64 x)) b va (.slice (some ⟨g, 0, none⟩) n c) vp A (I.set k x) P := by
  have hbg : b ≠ g := fun e => rw_apart h.ri h.blk (by decide) (by rw [e]; rfl)
  refine ⟨?_, ?_, rw_set h.ri hn k x, ?_, h.ai, h.ap, h.ip⟩
  · rw [heap_setCell_other w ⟨g, k, none⟩ b _ hbg]; exact h.blk
  · exact rw_frame h.ra fun j hj => heap_setCell_other w ⟨g, k, none⟩ j _ (fun e => h.ai (by rw [hj]; exact congrArg some e))
  · exact rw_frame h.rp fun j hj => heap_setCell_other w ⟨g, k, none⟩ j _ (fun e => h.ip (by rw [hj]; exact congrArg some e.symm))

theorem hrep_setP {w : World} {b g c n : Nat} {va vi : Value} {A I P : List Int} (h : HRep w b va vi (.slice (some ⟨g, 0, none⟩) n c) A I P) (hn : n = P.length) (k : Nat) (x : Int) :
    HRep (w.setCell ⟨g, k, none⟩ (.int .i64 x)) b va vi (.slice (some ⟨g, 0, none⟩) n c) A I (P.set k x) := by
  have hbg : b ≠ g := fun e => rw_apart h.rp h.blk (by decide) (by rw [e]; rfl)
  refine ⟨?_, ?_, ?_, rw_set h.rp hn k x, h.ai, h.ap, h.ip⟩
  · rw [heap_setCell_other w ⟨g, k, none⟩ b _ hbg]; exact h.blk
  · exact rw_frame h.ra fun j hj => heap_setCell_other w ⟨g, k, none⟩ j _ (fun e => h.ap (by rw [hj]; exact congrArg some e))
  · exact rw_frame h.ri fun j hj => heap_setCell_other w ⟨g, k, none⟩ j _ (fun e => h.ip (by rw [hj]; exact congrArg some e))

theorem hrep_setA {w : World} {b g c n : Nat} {vi vp : Value} {A I P : List Int} (h : HRep w b (.slice (some ⟨g, 0, none⟩) n c) vi vp A I P) (hn : n = A.length) (k : Nat) (x : Int) :
    HRep (w.setCell ⟨g, k, none⟩ (.int .i64 x)) b (.slice (some ⟨g, 0, none⟩) n c) vi vp (A.set k x) I P := by
  have hbg : b ≠ g := fun e => rw_apart h.ra h.blk (by decide) (by rw [e]; rfl)
  refine ⟨?_, rw_set h.ra hn k x, ?_, ?_, h.ai, h.ap, h.ip⟩
  · rw [heap_setCell_other w ⟨g, k, none⟩ b _ hbg]; exact h.blk
  · exact rw_frame h.ri fun j hj => heap_setCell_other w ⟨g, k, none⟩ j _ (fun e => h.ai (by rw [hj]; exact congrArg some e.symm))
  · exact rw_frame h.rp fun j hj => heap_setCell_other w ⟨g, k, none⟩ j _ (fun e => h.ap (by rw [hj]; exact congrArg some e.symm))

/-- The places behind a swap. -/
def swpP (I P : List Int) (i j : Nat) : List Int := (P.set (at' I j).toNat i).set (at' I i).toNat j

set_option maxRecDepth 100000 in
set_option maxHeartbeats 4000000 in
theorem q_swap (b : Nat) (va vi vp : Value) (A I P : List Int) (i j : Nat) (w : World) (h : HRep w b va vi vp A I P) (hf : Fits I P) (hi : i < I.length) (hj : j < I.length) (hl : P.length ≤ 4294967296) :
    Calls Try.prog 32 #[.pointer (some ⟨b, 1, none⟩), .int .i64 i, .int .i64 j] w fun e w' => e = .returned (.tuple #[]) ∧ HRep w' b va vi vp A (swp I i j) (swpP I P i j) ∧ Touch (foot b va vi vp) w w' := by
  obtain ⟨gi, ci, rfl⟩ := rw_form h.ri (by omega)
  have bi := hf.2.1 i hi
  have bj := hf.2.1 j hj
  obtain ⟨gp, cp, rfl⟩ := rw_form h.rp (by omega)
  obtain ⟨-, hc1, hc2, -, -⟩ := hrep_cells h
  have hci := rw_get h.ri rfl hi
  have hcj := rw_get h.ri rfl hj
  have hfi := rw_free h.ri rfl i
  have hfj := rw_free h.ri rfl j
  obtain ⟨x, hx⟩ : ∃ x, at' I i = x := ⟨_, rfl⟩
  obtain ⟨y, hy⟩ : ∃ y, at' I j = y := ⟨_, rfl⟩
  have hxi : I[i] = x := by rw [← hx]; simp [at', hi]
  have hyj : I[j] = y := by rw [← hy]; simp [at', hj]
  rw [hxi] at hci
  rw [hyj] at hcj
  have HX := hid hx
  have HY := hid hy
  have H := hid h
  have HF := hid hf
  have e1 : (i : Int) < I.length := by omega
  have e2 : (j : Int) < I.length := by omega
  have bx1 : 1 ≤ x := by rw [← hx]; exact bi.1
  have bx2 : x < P.length := by rw [← hx]; exact bi.2
  have by1 : 1 ≤ y := by rw [← hy]; exact bj.1
  have by2 : y < P.length := by rw [← hy]; exact bj.2
  clear hx hy hxi hyj h hf bi bj
  by_cases hij : i = j
  · subst hij
    have hyx : y = x := by rw [← HX.out, ← HY.out]
    subst hyx
    go_enter Try.func32, Try.ntmps32
    go_wp2_with fail
    go_cut [] (fun wx => Hid (HRep wx b va (.slice (some ⟨gi, 0, none⟩) I.length ci) (.slice (some ⟨gp, 0, none⟩) P.length cp) A (swp I i i) P) ∧ Hid (Touch (foot b va (.slice (some ⟨gi, 0, none⟩) I.length ci) (.slice (some ⟨gp, 0, none⟩) P.length cp)) w wx))
    case first =>
      go_region
      all_goals
        go_wp2_with fail
        go_meet
        case rel =>
          refine ⟨?_, (((Touch.refl _ _).setCell (Or.inr (Or.inr (Or.inl rfl))) _).setCell (Or.inr (Or.inr (Or.inl rfl))) _).drew⟩
          have h1 := hrep_drew (hrep_setI (hrep_setI H.out rfl i y) (by simp) i y)
          unfold swp
          rw [HX.out]
          exact h1
    case rest =>
      obtain ⟨h2, ht2⟩ := hcut
      clear hc1 hc2 hci hcj hfi hfj
      obtain ⟨-, hc1, hc2, -, -⟩ := hrep_cells h2.out
      have hsl : I.length = (swp I i i).length := (swp_length I i i).symm
      have hci := rw_val h2.out.ri hsl (k := i) (by rw [swp_length]; exact hi)
      have hcj := rw_val h2.out.ri hsl (k := i) (by rw [swp_length]; exact hj)
      rw [at'_swp hi hj, if_pos rfl, HY.out] at hci
      rw [at'_swp hi hj, if_pos rfl, HY.out] at hcj
      have hpy := rw_val h2.out.rp rfl (k := y.toNat) (by omega)
      have hpx := rw_val h2.out.rp rfl (k := y.toNat) (by omega)
      have hfy := rw_free h2.out.rp rfl y.toNat
      have hfx := rw_free h2.out.rp rfl y.toNat
      have H2 := hid h2.out
      have T2 := hid ht2.out
      clear h2 ht2 hsl
      go_wp2_with fail
      go_region
      all_goals
        go_wp2_with fail
        go_end0
        refine ⟨rfl, ?_, T2.out.trans ((((Touch.refl _ _).setCell (Or.inr (Or.inr (Or.inr rfl))) _).setCell (Or.inr (Or.inr (Or.inr rfl))) _).drew)⟩
        have h3 := hrep_drew (hrep_setP (hrep_setP H2.out rfl y.toNat (i : Int)) (by simp) y.toNat (i : Int))
        unfold swpP
        rw [HY.out]
        exact h3
  · have hji : ¬ j = i := fun e => hij e.symm
    have hxy : ¬ x = y := fun e => hij (fits_inj HF.out hi hj (by rw [HX.out, HY.out]; exact e))
    have hxy2 : ¬ x.toNat = y.toNat := by omega
    have hyx2 : ¬ y.toNat = x.toNat := by omega
    go_enter Try.func32, Try.ntmps32
    go_wp2_with fail
    go_cut [] (fun wx => Hid (HRep wx b va (.slice (some ⟨gi, 0, none⟩) I.length ci) (.slice (some ⟨gp, 0, none⟩) P.length cp) A (swp I i j) P) ∧ Hid (Touch (foot b va (.slice (some ⟨gi, 0, none⟩) I.length ci) (.slice (some ⟨gp, 0, none⟩) P.length cp)) w wx))
    case first =>
      go_region
      all_goals
        go_wp2_with fail
        go_meet
        case rel =>
          refine ⟨?_, (((Touch.refl _ _).setCell (Or.inr (Or.inr (Or.inl rfl))) _).setCell (Or.inr (Or.inr (Or.inl rfl))) _).drew⟩
          have h1 := hrep_drew (hrep_setI (hrep_setI H.out rfl i y) (by simp) j x)
          unfold swp
          rw [HX.out, HY.out]
          exact h1
    case rest =>
      obtain ⟨h2, ht2⟩ := hcut
      clear hc1 hc2 hci hcj hfi hfj
      obtain ⟨-, hc1, hc2, -, -⟩ := hrep_cells h2.out
      have hsl : I.length = (swp I i j).length := (swp_length I i j).symm
      have hci := rw_val h2.out.ri hsl (k := i) (by rw [swp_length]; exact hi)
      have hcj := rw_val h2.out.ri hsl (k := j) (by rw [swp_length]; exact hj)
      rw [at'_swp hi hj, if_pos rfl, HY.out] at hci
      rw [at'_swp hi hj, if_neg hji, if_pos rfl, HX.out] at hcj
      have hpy := rw_val h2.out.rp rfl (k := y.toNat) (by omega)
      have hpx := rw_val h2.out.rp rfl (k := x.toNat) (by omega)
      have hfy := rw_free h2.out.rp rfl y.toNat
      have hfx := rw_free h2.out.rp rfl x.toNat
      have H2 := hid h2.out
      have T2 := hid ht2.out
      clear h2 ht2 hsl
      go_wp2_with fail
      go_region
      all_goals
        go_wp2_with fail
        go_end0
        refine ⟨rfl, ?_, T2.out.trans ((((Touch.refl _ _).setCell (Or.inr (Or.inr (Or.inr rfl))) _).setCell (Or.inr (Or.inr (Or.inr rfl))) _).drew)⟩
        have h3 := hrep_drew (hrep_setP (hrep_setP H2.out rfl y.toNat (i : Int)) (by simp) x.toNat (j : Int))
        unfold swpP
        rw [HX.out, HY.out]
        exact h3

end Go.Proofs.Ytfhpjaabcegefaa.Ord
