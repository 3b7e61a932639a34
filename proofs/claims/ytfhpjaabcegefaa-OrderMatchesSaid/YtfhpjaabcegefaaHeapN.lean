/- The contract of Bump of a heap. -/
import Derived.Test.YtfhpjaabcegefaaHeapM
namespace Go.Proofs.Ytfhpjaabcegefaa.Ord
open Go.RowKit

theorem bump_mem {A : List Int} {k : Nat} {x : Int} (h : ∀ a ∈ A, 0 ≤ a ∧ a ≤ 1152921504606846976) (hx : 0 ≤ x ∧ x ≤ 1152921504606846976) : ∀ a ∈ A.set k x, 0 ≤ a ∧ a ≤ 1152921504606846976 := fun a ha => by
  rcases mem_set_cases ha with h' | h'
  · exact h a h'
  · rw [h']; exact hx

theorem actv_range {A : List Int} (h : ∀ a ∈ A, 0 ≤ a ∧ a ≤ 1152921504606846976) (v : Int) : 0 ≤ actv A v ∧ actv A v ≤ 1152921504606846976 := by
  unfold actv
  rw [List.getD_eq_getElem?_getD]
  cases hx : A[v.toNat]? with
  | none => simp
  | some x => exact h x (List.mem_of_getElem? hx)

set_option maxRecDepth 100000 in
set_option maxHeartbeats 4000000 in
theorem heap_Bump (b : Nat) (S : Nat → Prop) (A : List Int) (In : List Bool) (v by' e : Int) (w : World) (he : bumpE A In.length v by' = e) (h : Heap w b S A In) :
    Calls Try.prog 14 #[.pointer (some ⟨b, 0, none⟩), .int .i64 v, .int .i64 by'] w fun x w' => x = .returned (.int .i64 e) ∧ Heap w' b S (bumpA A In.length v by') In ∧ Touch S w w' := by
  have h0 := h
  obtain ⟨va, vi, vp, I, P, h1, h2, h3, h4, h5, h6, h7, h8, h9⟩ := h
  have hxr := actv_range h9 v
  obtain ⟨x, hx⟩ : ∃ x, actv A v = x := ⟨_, rfl⟩
  rw [hx] at hxr
  have hN : ∀ {c : Prop}, e = 3 → Hid (bumpA A In.length v by' = A) := fun {c} h => by
    unfold bumpA; rw [he, h]; rfl
  by_cases hv : 1 ≤ v ∧ v ≤ In.length
  · have hi := heap_is b va vi vp A I P v true w (by rw [h5]; simp; omega) h1
    obtain ⟨hc0, hc1, hc2, -, -⟩ := hrep_cells h1
    obtain ⟨ga, ca, rfl⟩ := rw_form h1.ra (by omega)
    have hca := rw_val h1.ra rfl (k := v.toNat) (by omega)
    rw [at'_eq_actv, hx] at hca
    have hv0 : 0 ≤ v := by omega
    have hvA : v < A.length := by omega
    by_cases hb0 : 0 ≤ by'
    · by_cases hb1 : by' ≤ 1099511627776
      · by_cases hb2 : x + by' ≤ 1152921504606846976
        · have he0 : e = 0 := by rw [← he]; unfold bumpE; rw [if_pos ⟨hv.1, hv.2, hb0, hb1, by rw [hx]; exact hb2⟩]
          have hA' : bumpA A In.length v by' = A.set v.toNat (x + by') := by unfold bumpA; rw [he, he0, if_pos rfl, hx]
          rw [hA']
          have lv : v.toNat < A.length := by omega
          have hfa := rw_free h1.ra rfl v.toNat
          have hs := hrep_setA h1 rfl v.toNat (x + by')
          obtain ⟨-, hd1, hd2, -, -⟩ := hrep_cells hs
          obtain ⟨gp, cp, rfl⟩ := rw_form hs.rp (by omega)
          have hdp := rw_val hs.rp rfl (k := v.toNat) (by omega)
          have hpl := fits_place h3 (v := v.toNat) (by omega)
          rw [show ((v.toNat : Nat) : Int) = v by omega] at hpl
          have hm := bump_mem (k := v.toNat) h9 (show 0 ≤ x + by' ∧ x + by' ≤ 1152921504606846976 by omega)
          have hsl : (A.set v.toNat (x + by')).length = A.length := by simp
          have hil := fits_len h3 h4 h6
          have hvP : v < P.length := by omega
          have HI := hid hi
          have HM := hid hm
          have HE0 := hid he0
          by_cases hin : inI I v
          · obtain ⟨i, hi1⟩ : ∃ i : Nat, at' P v.toNat = i := ⟨(at' P v.toNat).toNat, by have := hpl.1.2 hin; omega⟩
            have hi2 := hpl.2 hin
            rw [hi1] at hdp hi2
            have hil2 : i < I.length := by omega
            have hiv : at' I i = v := by have := hi2.2; simpa using this
            have hup := bump_up (x := x + by') h3 h2 lv (by rw [hx]; omega) hil2 hiv
            have HS := hid hs
            have HF := hid h3
            have HU := hid hup
            have HR := hid h6
            have H7 := hid h7
            have HSL := hid hsl
            have HP4 := hid h4
            have HA5 := hid h5
            clear h0 h1 h2 h3 h4 h5 h6 h7 h9 hN hA' hs hpl hm hsl hi hi1 hi2 hiv hup hin he he0 hx
            go_enter Try.func14, Try.ntmps14
            go_wp2_with (go_at_call 30; refine HI.out.mono ?_; rintro e w' ⟨rfl, rfl⟩)
            go_region_with (go_at_call 31; refine (q_up b _ vi _ _ I P i _ (hrep_drew HS.out) HF.out HU.out hil2 (by rw [HSL.out]; have := HP4.out; have := HA5.out; omega) (by have := HP4.out; omega) (by omega)).mono ?_; rintro e w2 ⟨rfl, hsf, ht⟩)
            all_goals
              have HSF := hid hsf
              have HT := hid ht
              clear hsf ht
              go_wp2_with fail
              go_ret
              obtain ⟨I2, P2, r1, r2, r3, r4, r5, r6⟩ := HSF.out
              refine ⟨by rw [HE0.out]; rfl, ⟨_, _, _, I2, P2, r1, r2, r3, by rw [r5]; exact HP4.out, by rw [HSL.out]; exact HA5.out, rel_congr HR.out r6, H7.out, h8, HM.out⟩, ?_⟩
              exact ((Touch.refl S w).setCell (H7.out ga (Or.inr (Or.inl rfl))) _).drew.trans (HT.out.mono fun k _ hk => H7.out k hk)
          · have hi1 : ¬ 0 ≤ at' P v.toNat := fun h => hin (hpl.1.1 h)
            obtain ⟨p, hp⟩ : ∃ p, at' P v.toNat = p := ⟨_, rfl⟩
            rw [hp] at hdp hi1
            have hord := bump_out (x := x + by') h3 h2 lv hv.1 hin
            have HFIN : Hid (Heap (w.setCell ⟨ga, v.toNat, none⟩ (.int .i64 (x + by'))) b S (A.set v.toNat (x + by')) In) := ⟨_, _, _, I, P, hs, hord, h3, h4, by rw [hsl]; exact h5, h6, h7, h8, hm⟩
            have H7 := hid h7
            clear h0 h1 h2 h3 h4 h5 h6 h7 h9 hN hA' hs hpl hm hsl hi hin he he0 hx hp hord
            go_enter Try.func14, Try.ntmps14
            go_wp2_with (go_at_call 30; refine HI.out.mono ?_; rintro e w' ⟨rfl, rfl⟩)
            go_ret
            exact ⟨by rw [HE0.out]; rfl, HFIN.out, (Touch.refl S w).setCell (H7.out ga (Or.inr (Or.inl rfl))) _⟩
        · have he3 : e = 3 := by rw [← he]; unfold bumpE; rw [if_neg (by rintro ⟨h1, h2, h3, h4, h5⟩; rw [hx] at h5; omega)]
          rw [hN (c := True) he3]
          have HE0 := hid he3
          have HFIN := hid h0
          have HI := hid hi
          clear h0 h1 h2 h3 h4 h5 h6 h7 h9 hN he3 he hx hi
          go_enter Try.func14, Try.ntmps14
          go_wp2_with (go_at_call 30; refine HI.out.mono ?_; rintro e w' ⟨rfl, rfl⟩)
          go_ret
          exact ⟨by rw [HE0.out]; rfl, HFIN.out, Touch.refl _ _⟩
      · have he3 : e = 3 := by rw [← he]; unfold bumpE; rw [if_neg (by rintro ⟨h1, h2, h3, h4, h5⟩; omega)]
        rw [hN (c := True) he3]
        have HE0 := hid he3
        have HFIN := hid h0
        have HI := hid hi
        clear h0 h1 h2 h3 h4 h5 h6 h7 h9 hN he3 he hx hi
        go_enter Try.func14, Try.ntmps14
        go_wp2_with (go_at_call 30; refine HI.out.mono ?_; rintro e w' ⟨rfl, rfl⟩)
        go_ret
        exact ⟨by rw [HE0.out]; rfl, HFIN.out, Touch.refl _ _⟩
    · have he3 : e = 3 := by rw [← he]; unfold bumpE; rw [if_neg (by rintro ⟨h1, h2, h3, h4, h5⟩; omega)]
      rw [hN (c := True) he3]
      have HE0 := hid he3
      have HFIN := hid h0
      have HI := hid hi
      clear h0 h1 h2 h3 h4 h5 h6 h7 h9 hN he3 he hx hi
      go_enter Try.func14, Try.ntmps14
      go_wp2_with (go_at_call 30; refine HI.out.mono ?_; rintro e w' ⟨rfl, rfl⟩)
      go_ret
      exact ⟨by rw [HE0.out]; rfl, HFIN.out, Touch.refl _ _⟩
  · have hi := heap_is b va vi vp A I P v false w (by rw [h5]; simp; omega) h1
    have he3 : e = 3 := by rw [← he]; unfold bumpE; rw [if_neg (by rintro ⟨h1, h2, h3, h4, h5⟩; omega)]
    rw [hN (c := True) he3]
    have HE0 := hid he3
    have HFIN := hid h0
    have HI := hid hi
    clear h0 h1 h2 h3 h4 h5 h6 h7 h9 hN he3 he hx hi
    go_enter Try.func14, Try.ntmps14
    go_wp2_with (go_at_call 30; refine HI.out.mono ?_; rintro e w' ⟨rfl, rfl⟩)
    go_ret
    exact ⟨by rw [HE0.out]; rfl, HFIN.out, Touch.refl _ _⟩

end Go.Proofs.Ytfhpjaabcegefaa.Ord
