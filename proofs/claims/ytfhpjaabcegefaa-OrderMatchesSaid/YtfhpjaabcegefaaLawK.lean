/- Heaps of a call's own; the contract of weepholelaw06.known. -/
import Derived.Test.YtfhpjaabcegefaaHeapC
namespace Go.Proofs.Ytfhpjaabcegefaa.Ord
open Go.RowKit

/-- A heap that was made behind the world w0, in blocks from B on. -/
structure HB (B : Nat) (w0 w : World) (b : Nat) (S : Nat → Prop) (A : List Int) (In : List Bool) : Prop where
  heap : Heap w b S A In
  bel : Below B w0 w
  le : B ≤ w.heap.size
  at' : ∀ k, S k → B ≤ k ∧ k < w.heap.size

theorem hb_New (n : Nat) (B : Nat) (A : List Int) (In : List Bool) (w0 w : World) (hA : List.replicate (n + 1) 0 = A) (hI : List.replicate n true = In) (hn : n ≤ 1048576) (hb : Below B w0 w) (hB : B ≤ w.heap.size) (x : Int) (hx : x = n) :
    Calls Try.prog 12 #[.int .i64 x] w fun e w' => ∃ b S, e = .returned (.tuple #[.pointer (some ⟨b, 0, none⟩), .int .i64 0]) ∧ HB B w0 w' b S A In ∧ Below w.heap.size w w' ∧ w.heap.size ≤ w'.heap.size ∧ ∀ k, S k → w.heap.size ≤ k := by
  subst hA hI hx
  refine (order_New n w hn).mono fun e w' h => ?_
  obtain ⟨b, S, h1, h2, h3, h4⟩ := h
  exact ⟨b, S, h1, ⟨h2, hb.trans (h3.mono hB), Nat.le_trans hB h3.size, fun k hk => ⟨Nat.le_trans hB (h4 k hk).1, (h4 k hk).2⟩⟩, h3, h3.size, fun k hk => (h4 k hk).1⟩

theorem hb_step {B b : Nat} {S : Nat → Prop} {A A' : List Int} {In In' : List Bool} {w0 w w' : World} (h : HB B w0 w b S A In) (h' : Heap w' b S A' In') (ht : Touch S w w') : HB B w0 w' b S A' In' :=
  ⟨h', h.bel.trans (ht.below h.le fun k hk => (h.at' k hk).1), Nat.le_trans h.le ht.size, fun k hk => ⟨(h.at' k hk).1, Nat.lt_of_lt_of_le (h.at' k hk).2 ht.size⟩⟩

theorem hb_Bump (b B : Nat) (S : Nat → Prop) (A A' : List Int) (In : List Bool) (v by' e : Int) (w0 w : World) (he : bumpE A In.length v by' = e) (hA : bumpA A In.length v by' = A') (h : HB B w0 w b S A In) :
    Calls Try.prog 14 #[.pointer (some ⟨b, 0, none⟩), .int .i64 v, .int .i64 by'] w fun x w' => x = .returned (.int .i64 e) ∧ HB B w0 w' b S A' In ∧ Touch S w w' := by
  subst hA
  exact (heap_Bump b S A In v by' e w he h.heap).mono fun x w' hh => ⟨hh.1, hb_step h hh.2.1 hh.2.2, hh.2.2⟩

theorem hb_Pop (b B : Nat) (S : Nat → Prop) (A : List Int) (In In' : List Bool) (v e : Int) (w0 w : World) (hv : popV A In = v) (he : popE A In = e) (hI : popIn A In = In') (h : HB B w0 w b S A In) :
    Calls Try.prog 16 #[.pointer (some ⟨b, 0, none⟩)] w fun x w' => x = .returned (.tuple #[.int .i64 v, .int .i64 e]) ∧ HB B w0 w' b S A In' ∧ Touch S w w' := by
  subst hI
  exact (heap_Pop b S A In v e w hv he h.heap).mono fun x w' hh => ⟨hh.1, hb_step h hh.2.1 hh.2.2, hh.2.2⟩

set_option maxRecDepth 100000 in
set_option maxHeartbeats 4000000 in
theorem law06_known (w : World) :
    Calls Try.prog 11 #[] w fun e w' => e = .returned (.bool true) ∧ Below w.heap.size w w' := by
  go_enter Try.func11, Try.ntmps11
  go_wp2_with fail
  refine (hb_New 3 w.heap.size [0, 0, 0, 0] [true, true, true] w _ rfl rfl (by decide) (Below.refl _ _) (Nat.le_refl _) _ rfl).mono ?_
  rintro e w1 ⟨b, S, rfl, h1, -⟩
  have H1 := hid h1
  clear h1
  go_wp2_with fail
  refine (hb_Bump b _ S [0, 0, 0, 0] [0, 0, 0, 1] [true, true, true] 3 1 0 _ _ (by decide) (by decide) H1.out).mono ?_
  rintro e w2 ⟨rfl, h2, -⟩
  have H2 := hid h2
  clear h2
  go_wp2_with fail
  refine (hb_Bump b _ S [0, 0, 0, 1] [0, 0, 1, 1] [true, true, true] 2 1 0 _ _ (by decide) (by decide) H2.out).mono ?_
  rintro e w3 ⟨rfl, h3, -⟩
  have H3 := hid h3
  clear h3
  go_wp2_with fail
  refine (hb_Pop b _ S [0, 0, 1, 1] [true, true, true] [true, false, true] 2 0 _ _ (by decide) (by decide) (by decide) H3.out).mono ?_
  rintro e w4 ⟨rfl, h4, -⟩
  have H4 := hid h4
  clear h4
  go_wp2_with fail
  refine (hb_Pop b _ S [0, 0, 1, 1] [true, false, true] [true, false, false] 3 0 _ _ (by decide) (by decide) (by decide) H4.out).mono ?_
  rintro e w5 ⟨rfl, h5, -⟩
  have H5 := hid h5
  clear h5
  go_wp2_with fail
  refine (hb_Pop b _ S [0, 0, 1, 1] [true, false, false] [false, false, false] 1 0 _ _ (by decide) (by decide) (by decide) H5.out).mono ?_
  rintro e w6 ⟨rfl, h6, -⟩
  have H6 := hid h6
  clear h6
  go_wp2_with fail
  refine (hb_Pop b _ S [0, 0, 1, 1] [false, false, false] [false, false, false] 0 6 _ _ (by decide) (by decide) (by decide) H6.out).mono ?_
  rintro e w7 ⟨rfl, h7, -⟩
  have H7 := hid h7
  clear h7
  go_wp2_with fail
  go_ret
  exact ⟨rfl, H7.out.bel⟩

end Go.Proofs.Ytfhpjaabcegefaa.Ord
