/- The contracts of Bump, Has and Len of a heap, in terms of the activities and of which variables are in. -/
import Derived.Test.YtfhpjaabcegefaaHeapD
import Derived.Test.YtfhpjaabcegefaaPPop
namespace Go.Proofs.Ytfhpjaabcegefaa.Ord
open Go.RowKit

/-- The heap at the block b, of the blocks of S alone: activities A, and which variables are in. -/
def Heap (w : World) (b : Nat) (S : Nat → Prop) (A : List Int) (In : List Bool) : Prop :=
  ∃ va vi vp I P, HRep w b va vi vp A I P ∧ HeapOrd A I ∧ Fits I P ∧ P.length = In.length + 1 ∧ A.length = In.length + 1 ∧ RelIn I In ∧ (∀ k, foot b va vi vp k → S k) ∧ In.length ≤ 1048576 ∧ (∀ a ∈ A, 0 ≤ a ∧ a ≤ 1152921504606846976)

theorem heap_frame {w w' : World} {b : Nat} {S : Nat → Prop} {A : List Int} {In : List Bool} (h : Heap w b S A In) (hk : ∀ k, k < w.heap.size → S k → w'.heap[k]? = w.heap[k]?) : Heap w' b S A In := by
  obtain ⟨va, vi, vp, I, P, h1, h2, h3, h4, h5, h6, h7, h8⟩ := h
  exact ⟨va, vi, vp, I, P, hrep_frame h1 fun k e => hk k (foot_lt h1 e) (h7 k e), h2, h3, h4, h5, h6, h7, h8⟩

theorem heap_touch {w w' : World} {b : Nat} {S T : Nat → Prop} {A : List Int} {In : List Bool} (h : Heap w b S A In) (ht : Touch T w w') (hd : ∀ k, S k → ¬ T k) : Heap w' b S A In :=
  heap_frame h fun k hk hs => ht.block k hk (hd k hs)

theorem heap_drewN {w : World} {b : Nat} {S : Nat → Prop} {A : List Int} {In : List Bool} (h : Heap w b S A In) (n : Nat) : Heap (w.drewN n) b S A In := heap_frame h fun _ _ _ => rfl

theorem fits_len {I P : List Int} {In : List Bool} (h : Fits I P) (hl : P.length = In.length + 1) (hr : RelIn I In) : I.length ≤ In.length := by
  rw [in_count h hl hr]; exact List.countP_le_length

theorem at'_eq_actv (A : List Int) (v : Int) : at' A v.toNat = actv A v := rfl

/-- What Bump returns. -/
def bumpE (A : List Int) (n : Nat) (v by' : Int) : Int := if 1 ≤ v ∧ v ≤ n ∧ 0 ≤ by' ∧ by' ≤ 1099511627776 ∧ actv A v + by' ≤ 1152921504606846976 then 0 else 3
/-- The activities behind it. -/
def bumpA (A : List Int) (n : Nat) (v by' : Int) : List Int := if bumpE A n v by' = 0 then A.set v.toNat (actv A v + by') else A

theorem mem_set_cases {A : List Int} {k : Nat} {x a : Int} (h : a ∈ A.set k x) : a ∈ A ∨ a = x := by
  rcases List.mem_or_eq_of_mem_set h with h | h
  · exact Or.inl h
  · exact Or.inr h

set_option maxHeartbeats 1000000 in
theorem heap_Has (b : Nat) (S : Nat → Prop) (A : List Int) (In : List Bool) (v : Int) (r : Bool) (w : World) (hr : (decide (1 ≤ v) && (In[(v - 1).toNat]? == some true)) = r) (h : Heap w b S A In) :
    Calls Try.prog 25 #[.pointer (some ⟨b, 0, none⟩), .int .i64 v] w fun e w' => e = .returned (.bool r) ∧ w = w' := by
  obtain ⟨va, vi, vp, I, P, h1, h2, h3, h4, h5, h6, h7, h8, h9⟩ := h
  obtain ⟨hc0, hc1, hc2, -, -⟩ := hrep_cells h1
  by_cases hv : 1 ≤ v ∧ v ≤ In.length
  · have hi := heap_is b va vi vp A I P v true w (by rw [h5]; simp; omega) h1
    obtain ⟨gp, cp, rfl⟩ := rw_form h1.rp (by omega)
    have hcp := rw_val h1.rp rfl (k := v.toNat) (by omega)
    have hpl := fits_place h3 (v := v.toNat) (by omega)
    obtain ⟨p, hp⟩ : ∃ p, at' P v.toNat = p := ⟨_, rfl⟩
    rw [hp] at hcp hpl
    have hrr : decide (0 ≤ p) = r := by
      rw [← hr, decide_eq_true hv.1, Bool.true_and, Bool.eq_iff_iff, decide_eq_true_eq, hpl.1, show ((v.toNat : Nat) : Int) = v by omega, h6 v hv.1 hv.2]
      simp
    have hb : v < P.length := by omega
    have hb0 : 0 ≤ v := by omega
    have HI := hid hi
    have HRR := hid hrr
    clear h1 h2 h3 h4 h5 h6 h7 h8 h9 hr hpl hp hi hc0 hc1
    cases r with
    | true =>
      have hp0 : 0 ≤ p := by simpa using hrr
      go_enter Try.func25, Try.ntmps25
      go_wp2_with (go_at_call 30; refine HI.out.mono ?_; rintro e w' ⟨rfl, rfl⟩)
      go_ret
      exact ⟨rfl, rfl⟩
    | false =>
      have hp0 : ¬ 0 ≤ p := by simpa using hrr
      go_enter Try.func25, Try.ntmps25
      go_wp2_with (go_at_call 30; refine HI.out.mono ?_; rintro e w' ⟨rfl, rfl⟩)
      go_ret
      exact ⟨rfl, rfl⟩
  · have hi := heap_is b va vi vp A I P v false w (by rw [h5]; simp; omega) h1
    have hrr : r = false := by
      rw [← hr]
      by_cases h0 : 1 ≤ v
      · have : In[(v - 1).toNat]? = none := by simp; omega
        rw [this]; simp
      · simp [h0]
    have HI := hid hi
    have HRR := hid hrr
    clear h1 h2 h3 h4 h5 h6 h7 h8 h9 hr hi hc0 hc1 hc2 hrr
    go_enter Try.func25, Try.ntmps25
    go_wp2_with (go_at_call 30; refine HI.out.mono ?_; rintro e w' ⟨rfl, rfl⟩)
    go_ret
    exact ⟨by rw [HRR.out]; rfl, rfl⟩

set_option maxHeartbeats 1000000 in
theorem heap_Len (b : Nat) (S : Nat → Prop) (A : List Int) (In : List Bool) (n : Int) (w : World) (hn : ((In.countP id : Nat) : Int) = n) (h : Heap w b S A In) :
    Calls Try.prog 18 #[.pointer (some ⟨b, 0, none⟩)] w fun e w' => e = .returned (.int .i64 n) ∧ w = w' := by
  obtain ⟨va, vi, vp, I, P, h1, h2, h3, h4, h5, h6, h7, h8, h9⟩ := h
  obtain ⟨hc0, hc1, hc2, -, -⟩ := hrep_cells h1
  obtain ⟨ai, ci, rfl, -⟩ := rw_shape h1.ri
  have hl := in_count h3 h4 h6
  rw [← hl] at hn
  have HN := hid hn
  clear h1 h2 h3 h4 h5 h6 h7 h8 h9 hl hn hc0 hc2
  go_enter Try.func18, Try.ntmps18
  go_wp2_with fail
  go_ret
  exact ⟨by rw [← HN.out]; rfl, rfl⟩

end Go.Proofs.Ytfhpjaabcegefaa.Ord
