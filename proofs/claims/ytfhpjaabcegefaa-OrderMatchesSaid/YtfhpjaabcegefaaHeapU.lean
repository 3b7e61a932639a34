/- The contracts of the queue's up and down. -/
import Derived.Test.YtfhpjaabcegefaaHeapQ
namespace Go.Proofs.Ytfhpjaabcegefaa.Ord
open Go.RowKit

/-- What a sift leaves: a heap of the same variables. -/
def Sifted (w : World) (b : Nat) (va vi vp : Value) (A : List Int) (n m : Nat) (IN : Int → Prop) : Prop :=
  ∃ I P, HRep w b va vi vp A I P ∧ HeapOrd A I ∧ Fits I P ∧ I.length = n ∧ P.length = m ∧ ∀ v, inI I v ↔ IN v

theorem swpP_length (I P : List Int) (i j : Nat) : (swpP I P i j).length = P.length := by simp [swpP]

theorem quiet_drew {P : Program} {f : FuncId} {args : Array Value} {w : World} {n : Nat} {v : Value}
    (h : Calls P f args (w.drewN n) fun e w' => e = .returned v ∧ ∃ m, w' = (w.drewN n).drewN m) : Calls P f args (w.drewN n) fun e w'' => e = .returned v ∧ ∃ m, w'' = w.drewN m :=
  h.mono fun _ _ ⟨he, m, hm⟩ => ⟨he, n + m, by rw [hm]; exact World.drewN_drewN ..⟩

theorem quiet_drew2 {P : Program} {f : FuncId} {args : Array Value} {w : World} {k n : Nat} {v : Value}
    (h : Calls P f args (w.drewN (k + n)) fun e w' => e = .returned v ∧ ∃ m, w' = (w.drewN (k + n)).drewN m) : Calls P f args (w.drewN (k + n)) fun e w'' => e = .returned v ∧ ∃ m, w'' = w.drewN (k + m) :=
  h.mono fun _ _ ⟨he, m, hm⟩ => ⟨he, n + m, by rw [hm, World.drewN_drewN, Nat.add_assoc]⟩

set_option maxRecDepth 100000 in
set_option maxHeartbeats 4000000 in
theorem q_up (b : Nat) (va vi vp : Value) (A I P : List Int) (i : Nat) (w : World) (h : HRep w b va vi vp A I P) (hf : Fits I P) (hu : UpInv A I i) (hi : i < I.length) (hA : A.length = P.length) (hl : P.length ≤ 4294967296) (hIl : I.length ≤ 4294967296) :
    Calls Try.prog 31 #[.pointer (some ⟨b, 1, none⟩), .int .i64 i] w fun e w' => e = .returned (.tuple #[]) ∧ Sifted w' b va vi vp A I.length P.length (inI I) ∧ Touch (foot b va vi vp) w w' := by
  obtain ⟨IN, hIN⟩ : ∃ IN, IN = inI I := ⟨_, rfl⟩
  obtain ⟨n, hn⟩ : ∃ n, n = I.length := ⟨_, rfl⟩
  obtain ⟨m, hm⟩ : ∃ m, m = P.length := ⟨_, rfl⟩
  obtain ⟨gi, ci, hvi⟩ := rw_form h.ri (by omega)
  rw [← hn] at hvi
  have HV := hid hvi
  have H0 : Hid (HRep w b va vi vp A I P ∧ Fits I P ∧ UpInv A I i ∧ I.length = n ∧ P.length = m ∧ ∀ v, inI I v ↔ IN v) := ⟨h, hf, hu, hn.symm, hm.symm, fun v => by rw [hIN]⟩
  rw [← hIN, ← hn, ← hm]
  rw [← hm] at hA hl
  rw [← hn] at hi hIl
  have HAL := hid hA
  clear h hf hu hn hm hIN hvi hA
  go_enter Try.func31, Try.ntmps31
  go_wp2_with fail
  go_loopw [1] (fun s1 wr => ∃ (i : Nat) (I P : List Int), s1 = .int .i64 i ∧ i < n ∧ Hid (HRep wr b va vi vp A I P ∧ Fits I P ∧ UpInv A I i ∧ I.length = n ∧ P.length = m ∧ ∀ v, inI I v ↔ IN v) ∧ Touch (foot b va vi vp) w wr) (fun s1 _ => (intOf s1).toNat)
  case atStart => exact ⟨i, I, P, rfl, hi, H0.out, Touch.refl _ _⟩
  case round =>
    clear H0
    obtain ⟨i, I, P, rfl, hi, hr, ht⟩ := hrel
    obtain ⟨h, hf, hu, hIn, hPm, hin⟩ := hr.out
    obtain ⟨-, hc1, hc2, hc3, hc4⟩ := hrep_cells h
    by_cases h0 : 0 < i
    · obtain ⟨p, hp⟩ : ∃ p, p = (i - 1) / 2 := ⟨_, rfl⟩
      have hpi : p < i := by omega
      have hpn : p < n := by omega
      have hvi := HV.out
      rw [hvi] at h hc1
      have hci := rw_val h.ri hIn.symm (k := i) (by omega)
      have hcp := rw_val h.ri hIn.symm (k := p) (by omega)
      obtain ⟨x, hx⟩ : ∃ x, at' I i = x := ⟨_, rfl⟩
      obtain ⟨y, hy⟩ : ∃ y, at' I p = y := ⟨_, rfl⟩
      have bx := hf.2.1 i (by omega)
      have bp := hf.2.1 p (by omega)
      rw [hx] at hci bx
      rw [hy] at hcp bp
      have hxA : 0 ≤ x ∧ x < A.length := by have := HAL.out; omega
      have hyA : 0 ≤ y ∧ y < A.length := by have := HAL.out; omega
      have e1 : IntKind.i64.wrap ((i : Int) - 1) = (i : Int) - 1 := IntWalk.i64_in _ (by omega)
      have e2 : ((i : Int) - 1).tdiv 2 = (p : Int) := by rw [Int.tdiv_eq_ediv_of_nonneg (by omega)]; omega
      have e3 : IntKind.i64.wrap (p : Int) = (p : Int) := IntWalk.i64_in _ (by omega)
      have e4 : ((i : Int) - 1) / 2 = (p : Int) := by omega
      have b1 : (i : Int) < n := by omega
      have b2 : (p : Int) < n := by omega
      have hd : decide (0 < i) = true := by simp [h0]
      have HX := hid hx
      have HY := hid hy
      have HP := hid hp
      have H := hid h
      have HF := hid hf
      have HU := hid hu
      have HIn := hid hIn
      have HPm := hid hPm
      have HIN := hid hin
      have hcr : ∃ r, bef A x y = r := ⟨_, rfl⟩
      obtain ⟨r, hr2⟩ := hcr
      have HB := hid fun (w : World) (hw : HRep w b va (.slice (some ⟨gi, 0, none⟩) n ci) vp A I P) => heap_before b va _ vp A I P x y r w hr2 hw hxA hyA (by have := HAL.out; omega)
      have HR2 := hid hr2
      clear hx hy hp h hf hu hIn hPm hin hr hr2 hvi bx bp hxA hyA
      cases r with
      | true =>
        go_wp2_with fail
        go_quiet ((go_at_call 29; first | exact quiet_drew2 (HB.out _ (hrep_drewN H.out _)) | exact quiet_drew (HB.out _ (hrep_drewN H.out _))))
        clear e1 e2 e3
        go_wp2_with fail
        refine (q_swap b va _ vp A I P i p _ (hrep_drewN H.out _) HF.out (by have := HIn.out; omega) (by have := HIn.out; omega) (by have := HPm.out; omega)).mono ?_
        rintro e w2 ⟨rfl, h2, ht2⟩
        have HH2 := hid h2
        have HT2 := hid ht2
        clear h2 ht2
        go_wp2_with fail
        go_roundw
        case rel =>
          refine ⟨p, swp I i p, swpP I P i p, (by first | rfl | rw [e4]), hpn, ⟨by rw [HV.out]; exact HH2.out, fits_swp HF.out (by have := HIn.out; omega) (by have := HIn.out; omega), ?_, by rw [swp_length]; exact HIn.out, by rw [swpP_length]; exact HPm.out, fun v => by rw [inI_swp (by have := HIn.out; omega) (by have := HIn.out; omega)]; exact HIN.out v⟩, (ht.drewN _).trans (by rw [HV.out]; exact HT2.out)⟩
          have hus := up_step HU.out h0 (by have := HIn.out; omega) (by rw [← HP.out, HX.out, HY.out]; exact HR2.out)
          rw [← HP.out] at hus
          exact hus
        case measure => simp [intOf]; omega
      | false =>
        go_wp2_with fail
        go_quiet ((go_at_call 29; first | exact quiet_drew2 (HB.out _ (hrep_drewN H.out _)) | exact quiet_drew (HB.out _ (hrep_drewN H.out _))))
        clear e1 e2 e3
        go_wp2_with fail
        go_end0
        exact ⟨rfl, ⟨I, P, hrep_drewN (by rw [HV.out]; exact H.out) _, up_done HU.out (Or.inr (by rw [← HP.out, HX.out, HY.out]; exact HR2.out)), HF.out, HIn.out, HPm.out, HIN.out⟩, ht.drewN _⟩
    · have hi0 : i = 0 := by omega
      have hd : decide (0 < i) = false := by simp; omega
      have HS2 := hid fun k => (⟨I, P, hrep_drewN h k, up_done hu (Or.inl hi0), hf, hIn, hPm, hin⟩ : Sifted (wr.drewN k) b va vi vp A n m IN)
      clear h hf hu hIn hPm hin hr hi0
      go_wp2_with fail
      go_quiet (fail)
      go_wp2_with fail
      go_end0
      exact ⟨rfl, HS2.out _, ht.drewN _⟩

end Go.Proofs.Ytfhpjaabcegefaa.Ord
