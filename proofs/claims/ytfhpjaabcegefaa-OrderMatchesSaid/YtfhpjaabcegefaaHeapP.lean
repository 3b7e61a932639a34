/- The contract of Pop of a heap. -/
import Derived.Test.YtfhpjaabcegefaaHeapN
namespace Go.Proofs.Ytfhpjaabcegefaa.Ord
open Go.RowKit

/-- The error that Pop returns. -/
def popE (A : List Int) (In : List Bool) : Int := if popV A In = 0 then 6 else 0
/-- What is in behind it. -/
def popIn (A : List Int) (In : List Bool) : List Bool := if popV A In = 0 then In else In.set (popV A In - 1).toNat false

theorem q_swapZ (b : Nat) (va vi vp : Value) (A I P : List Int) (i j : Nat) (x y : Int) (w : World) (hx : x = i) (hy : y = j) (h : HRep w b va vi vp A I P) (hf : Fits I P) (hi : i < I.length) (hj : j < I.length) (hl : P.length ≤ 4294967296) :
    Calls Try.prog 32 #[.pointer (some ⟨b, 1, none⟩), .int .i64 x, .int .i64 y] w fun e w' => e = .returned (.tuple #[]) ∧ HRep w' b va vi vp A (swp I i j) (swpP I P i j) ∧ Touch (foot b va vi vp) w w' := by
  subst hx; subst hy; exact q_swap b va vi vp A I P i j w h hf hi hj hl

theorem q_downZ (b : Nat) (va vi vp : Value) (A I P : List Int) (i : Nat) (x : Int) (w : World) (hx : x = i) (h : HRep w b va vi vp A I P) (hf : Fits I P) (hu : DownInv A I i) (hi : i < I.length) (hA : A.length = P.length) (hl : P.length ≤ 4294967296) (hIl : I.length ≤ 4294967296) :
    Calls Try.prog 33 #[.pointer (some ⟨b, 1, none⟩), .int .i64 x] w fun e w' => e = .returned (.tuple #[]) ∧ Sifted w' b va vi vp A I.length P.length (inI I) ∧ Touch (foot b va vi vp) w w' := by
  subst hx; exact q_down b va vi vp A I P i w h hf hu hi hA hl hIl

theorem hrep_take {w : World} {b g c n : Nat} {va vp : Value} {A I P : List Int} (h : HRep w b va (.slice (some ⟨g, 0, none⟩) n c) vp A I P) (hn : n = I.length) {k : Nat} (hk : k ≤ I.length) :
    HRep (w.setCell ⟨b, 1, none⟩ (.slice (some ⟨g, 0, none⟩) k c)) b va (.slice (some ⟨g, 0, none⟩) k c) vp A (I.take k) P := by
  have hb := setCell_block (o := 1) (.slice (some ⟨g, 0, none⟩) k c) (xs := [va, .slice (some ⟨g, 0, none⟩) n c, vp, .pointer (some ⟨b, 0, none⟩), fnv]) h.blk
  have fr : ∀ {v : Value} {xs : List Int}, Rw w v xs → Rw (w.setCell ⟨b, 1, none⟩ (.slice (some ⟨g, 0, none⟩) k c)) v xs := fun hr => rw_frame hr fun j hj => heap_setCell_other w ⟨b, 1, none⟩ j _ (fun e => rw_apart hr h.blk (by decide) (by rw [hj]; exact congrArg some e))
  exact ⟨hb, fr h.ra, fr (rw_take h.ri hn hk), fr h.rp, h.ai, h.ap, h.ip⟩

theorem slice_to {P : Program} {t e : TypeId} {a : Option Addr} {n c : Nat} {k : Int} {m : Nat} (hkm : k = m) (ht : P.underlying t = some (.slice e)) (hsz : ∀ wx, (sizeOf e).run P wx = .ok 1 wx) (h1 : m ≤ c) :
    ∀ wx, (Instr.slice t (.slice a n c) none (some (.int .i64 k)) none).run P wx = .ok (.slice a m c) wx := by
  subst hkm
  intro wx
  have he : P.elem t = e := by simp [Program.elem, ht]
  rw [run_slice_h (P := P) wx t a n c (by rw [he]; exact ht) .i64 m (by omega) (by omega), he, hsz]
  cases a <;> simp [sliced, Result.andThen, Addr.add]

theorem rw_form2 {w : World} {v : Value} {xs : List Int} (h : Rw w v xs) (hn : 0 < xs.length) : ∃ g c, v = .slice (some ⟨g, 0, none⟩) xs.length c ∧ xs.length ≤ c := by
  rcases h.2 with ⟨_, h0⟩ | ⟨g, cap, cur, h1, _, _, hle, _⟩
  · omega
  · exact ⟨g, cap, h1, hle⟩

set_option maxRecDepth 100000 in
set_option maxHeartbeats 4000000 in
theorem heap_Pop (b : Nat) (S : Nat → Prop) (A : List Int) (In : List Bool) (v e : Int) (w : World) (hv : popV A In = v) (he : popE A In = e) (h : Heap w b S A In) :
    Calls Try.prog 16 #[.pointer (some ⟨b, 0, none⟩)] w fun x w' => x = .returned (.tuple #[.int .i64 v, .int .i64 e]) ∧ Heap w' b S A (popIn A In) ∧ Touch S w w' := by
  have h0 := h
  obtain ⟨va, vi, vp, I, P, h1, h2, h3, h4, h5, h6, h7, h8, h9⟩ := h
  have hil := fits_len h3 h4 h6
  obtain ⟨-, hc1, -, -, -⟩ := hrep_cells h1
  by_cases hI : I.length = 0
  · have hv0 : v = 0 := by rw [← hv]; exact pop_empty h6 hI
    have he0 : e = 6 := by rw [← he]; unfold popE; rw [hv, hv0]; rfl
    have hin : popIn A In = In := by unfold popIn; rw [hv, hv0]; rfl
    rw [hin]
    obtain ⟨ai, ci, hvi, -⟩ := rw_shape h1.ri
    rw [hI] at hvi
    rw [hvi] at hc1
    have HV0 := hid hv0
    have HE0 := hid he0
    have HF := hid h0
    clear h0 h1 h2 h3 h4 h5 h6 h7 h9 hv he hv0 he0 hin hvi hil hI
    go_enter Try.func16, Try.ntmps16
    go_wp2_with fail
    go_ret2
    exact ⟨by rw [HV0.out, HE0.out]; rfl, HF.out, Touch.refl _ _⟩
  · obtain ⟨m, hm⟩ : ∃ m, I.length = m + 1 := ⟨I.length - 1, by omega⟩
    have hvv : v = at' I 0 := by rw [← hv]; exact pop_best h3 h2 h4 h6 (by omega)
    have b0 := h3.2.1 0 (by omega)
    rw [← hvv] at b0
    have he0 : e = 0 := by rw [← he]; unfold popE; rw [hv, if_neg (by omega)]
    have hin : popIn A In = In.set (v - 1).toNat false := by unfold popIn; rw [hv, if_neg (by omega)]
    rw [hin]
    obtain ⟨gi, ci, rfl, hic⟩ := rw_form2 h1.ri (by omega)
    obtain ⟨gp, cp, rfl⟩ := rw_form h1.rp (by omega)
    have hml : ((I.length : Nat) : Int) - 1 = (m : Int) := by omega
    have hmI : I.length - 1 = m := by omega
    have hpf : Fits (popI I) ((swpP I P 0 m).set v.toNat (-1)) := by
      have hpf0 := pop_fits h3 (by omega)
      rw [hmI, ← hvv] at hpf0
      unfold swpP
      rw [← hvv]; exact hpf0
    have hpd := pop_down h2
    have hri := rel_pop h3 h6 (by omega)
    rw [← hvv] at hri
    have hpl := popI_length I
    rw [hmI] at hpl
    have hpI : popI I = (swp I 0 m).take m := by unfold popI; rw [hmI]
    have hPI := hid hpI
    have HVV := hid hvv
    have HE0 := hid he0
    have H1 := hid h1
    have H3 := hid h3
    have HPF := hid hpf
    have HPD := hid hpd
    have HRI := hid hri
    have H7 := hid h7
    have H9 := hid h9
    have HP4 := hid h4
    have HA5 := hid h5
    have HPL := hid hpl
    have hM := hid hm
    have hmc : m < ci := by omega
    have hm20 : m ≤ 1048576 := by omega
    have hPb : P.length ≤ 1048577 := by omega
    clear h0 h1 h2 h3 h4 h5 h6 h7 h9 hv he hvv he0 hin hpf hpd hri hpl hpI hmI hm hil hI
    go_enter Try.func16, Try.ntmps16
    go_wp2_with fail
    refine (q_swapZ b _ _ _ A I P 0 m _ _ w rfl rfl H1.out H3.out (by have := hM.out; omega) (by have := hM.out; omega) (by omega)).mono ?_
    rintro e1 w1 ⟨rfl, k1, t1⟩
    have K1 := hid k1
    have T1 := hid t1
    obtain ⟨-, d1, d2, -, -⟩ := hrep_cells k1
    have hsl : I.length = (swp I 0 m).length := (swp_length I 0 m).symm
    have hcm := rw_val k1.ri hsl (k := m) (by rw [swp_length]; have := hM.out; omega)
    have hat : at' (swp I 0 m) m = v := by
      rw [at'_swp (by have := hM.out; omega) (by have := hM.out; omega), HVV.out]
      by_cases h0 : m = 0
      · rw [if_pos h0, h0]
      · rw [if_neg h0, if_pos rfl]
    rw [hat] at hcm
    have hPl : P.length = (swpP I P 0 m).length := (swpP_length I P 0 m).symm
    have hcv := rw_val k1.rp hPl (k := v.toNat) (by rw [swpP_length]; omega)
    have hfv := rw_free k1.rp hPl v.toNat
    have hfb := hrep_free k1 1
    have hrun := slice_to (P := Try.prog) (t := 40) (e := 3) (a := some ⟨gi, 0, none⟩) (n := I.length) (c := ci) (k := (m : Int)) (m := m) rfl Try.underlying40 sizeOf_int (by omega)
    have n1 : ¬ b = gp := fun e => rw_apart k1.rp k1.blk (by decide) (by rw [e]; rfl)
    have n2 : ¬ gp = b := fun e => n1 e.symm
    have b0' : 0 ≤ v := by omega
    have bm : (m : Int) < I.length := by have := hM.out; omega
    clear k1 t1 hsl hat hPl
    have hpush : Hid (HRep (((w1.setCell ⟨b, 1, none⟩ (.slice (some ⟨gi, 0, none⟩) m ci)).setCell ⟨gp, v.toNat, none⟩ (.int .i64 (-1))).drew) b va (.slice (some ⟨gi, 0, none⟩) m ci) (.slice (some ⟨gp, 0, none⟩) P.length cp) A (popI I) ((swpP I P 0 m).set v.toNat (-1))) := by
      have k2 := hrep_take K1.out (swp_length I 0 m).symm (k := m) (by rw [swp_length]; have := hM.out; omega)
      rw [← hPI.out] at k2
      exact hrep_drew (hrep_setP k2 (swpP_length I P 0 m).symm v.toNat (-1))
    have htou : Hid (Touch S w (((w1.setCell ⟨b, 1, none⟩ (.slice (some ⟨gi, 0, none⟩) m ci)).setCell ⟨gp, v.toNat, none⟩ (.int .i64 (-1))).drew)) := by
      exact ((T1.out.mono fun k _ hk => H7.out k hk).setCell (H7.out b (Or.inl rfl)) _).setCell (H7.out gp (Or.inr (Or.inr (Or.inr rfl)))) _ |>.drew
    have hfoot : Hid (∀ k, foot b va (.slice (some ⟨gi, 0, none⟩) m ci) (.slice (some ⟨gp, 0, none⟩) P.length cp) k → S k) := fun k hk => H7.out k hk
    rcases Nat.eq_zero_or_pos m with hm0 | hm0
    · have hd : ¬ 0 < m := by omega
      have HM0 := hid hm0
      clear hm0
      go_wp2_with fail
      go_region
      all_goals
        go_wp2_with fail
        go_ret2
        refine ⟨by rw [HE0.out]; rfl, ⟨_, _, _, popI I, _, hpush.out, fun j j1 j2 => by have := HPL.out; have := HM0.out; omega, HPF.out, ?_, ?_, HRI.out, hfoot.out, by rw [List.length_set]; exact h8, H9.out⟩, htou.out⟩
        · simp only [List.length_set, swpP_length]; exact HP4.out
        · rw [List.length_set]; exact HA5.out
    · go_wp2_with fail
      go_region
      all_goals
        go_wp2_with fail
        refine (q_downZ b _ _ _ A (popI I) _ 0 _ _ rfl hpush.out HPF.out HPD.out (by have := HPL.out; omega) (by simp only [List.length_set, swpP_length]; have := HP4.out; have := HA5.out; omega) (by simp only [List.length_set, swpP_length]; omega) (by have := HPL.out; omega)).mono ?_
        rintro e2 w2 ⟨rfl, hsf, ht⟩
        have HSF := hid hsf
        have HT := hid ht
        clear hsf ht
        go_wp2_with fail
        go_ret2
        obtain ⟨I2, P2, r1, r2, r3, r4, r5, r6⟩ := HSF.out
        refine ⟨by rw [HE0.out]; rfl, ⟨_, _, _, I2, P2, r1, r2, r3, ?_, ?_, rel_congr HRI.out r6, hfoot.out, by rw [List.length_set]; exact h8, H9.out⟩, htou.out.trans (HT.out.mono fun k _ hk => hfoot.out k hk)⟩
        · rw [r5]; simp only [List.length_set, swpP_length]; exact HP4.out
        · rw [List.length_set]; exact HA5.out

end Go.Proofs.Ytfhpjaabcegefaa.Ord
