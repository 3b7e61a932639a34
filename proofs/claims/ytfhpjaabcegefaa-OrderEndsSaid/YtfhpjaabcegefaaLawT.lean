/- Two heaps that share no block. -/
import Derived.Test.YtfhpjaabcegefaaLawA
namespace Go.Proofs.Ytfhpjaabcegefaa.Ord
open Go.RowKit

structure TW (B : Nat) (w0 w : World) (b : Nat) (S : Nat → Prop) (A : List Int) (In : List Bool) (b2 : Nat) (S2 : Nat → Prop) (A2 : List Int) (In2 : List Bool) : Prop where
  one : HB B w0 w b S A In
  two : HB B w0 w b2 S2 A2 In2
  apart : ∀ k, S k → ¬ S2 k

theorem TW.symm {B : Nat} {w0 w : World} {b b2 : Nat} {S S2 : Nat → Prop} {A A2 : List Int} {In In2 : List Bool} (h : TW B w0 w b S A In b2 S2 A2 In2) : TW B w0 w b2 S2 A2 In2 b S A In :=
  ⟨h.two, h.one, fun k h1 h2 => h.apart k h2 h1⟩

theorem TW.next {B : Nat} {w0 w w' : World} {b b2 : Nat} {S S' S2 : Nat → Prop} {A A' A2 : List Int} {In In' In2 : List Bool} (h : TW B w0 w b S A In b2 S2 A2 In2) (h1 : HB B w0 w' b S' A' In') (ht : Touch S w w') (hs : ∀ k, S' k → S k ∨ w.heap.size ≤ k) : TW B w0 w' b S' A' In' b2 S2 A2 In2 :=
  ⟨h1, hb_touch h.two ht (fun k h2 h3 => h.apart k h3 h2) (fun k hk => (h.one.at' k hk).1), fun k h2 h3 => by
    rcases hs k h2 with h4 | h4
    · exact h.apart k h4 h3
    · have := (h.two.at' k h3).2; omega⟩

theorem tw_Bump (b B : Nat) (S : Nat → Prop) (A A' : List Int) (In : List Bool) (b2 : Nat) (S2 : Nat → Prop) (A2 : List Int) (In2 : List Bool) (v by' e : Int) (w0 w : World) (he : bumpE A In.length v by' = e) (hA : bumpA A In.length v by' = A') (h : TW B w0 w b S A In b2 S2 A2 In2) :
    Calls Try.prog 14 #[.pointer (some ⟨b, 0, none⟩), .int .i64 v, .int .i64 by'] w fun x w' => x = .returned (.int .i64 e) ∧ TW B w0 w' b S A' In b2 S2 A2 In2 :=
  (hb_Bump b B S A A' In v by' e w0 w he hA h.one).mono fun _ _ hh => ⟨hh.1, h.next hh.2.1 hh.2.2 fun _ hk => Or.inl hk⟩

theorem tw_Pop (b B : Nat) (S : Nat → Prop) (A : List Int) (In In' : List Bool) (b2 : Nat) (S2 : Nat → Prop) (A2 : List Int) (In2 : List Bool) (v e : Int) (w0 w : World) (hv : popV A In = v) (he : popE A In = e) (hI : popIn A In = In') (h : TW B w0 w b S A In b2 S2 A2 In2) :
    Calls Try.prog 16 #[.pointer (some ⟨b, 0, none⟩)] w fun x w' => x = .returned (.tuple #[.int .i64 v, .int .i64 e]) ∧ TW B w0 w' b S A In' b2 S2 A2 In2 ∧ Touch S w w' :=
  (hb_Pop b B S A In In' v e w0 w hv he hI h.one).mono fun _ _ hh => ⟨hh.1, h.next hh.2.1 hh.2.2 fun _ hk => Or.inl hk, hh.2.2⟩

theorem hb_Push (b B : Nat) (S : Nat → Prop) (A : List Int) (In In' : List Bool) (v e : Int) (w0 w : World) (he : pushE In.length v = e) (hI : pushIn In v = In') (h : HB B w0 w b S A In) :
    Calls Try.prog 24 #[.pointer (some ⟨b, 0, none⟩), .int .i64 v] w fun x w' => x = .returned (.int .i64 e) ∧ ∃ S', HB B w0 w' b S' A In' ∧ Touch S w w' ∧ ∀ k, S' k → S k ∨ w.heap.size ≤ k := by
  subst hI
  refine (heap_Push b S A In v e w he h.heap).mono fun x w' hh => ⟨hh.1, ?_⟩
  obtain ⟨S', h1, h2, h3⟩ := hh.2
  refine ⟨S', ⟨h1, h.bel.trans (h2.below h.le fun k hk => (h.at' k hk).1), Nat.le_trans h.le h2.size, fun k hk => ?_⟩, h2, fun k hk => (h3 k hk).imp_right fun h4 => h4.1⟩
  rcases h3 k hk with h4 | h4
  · have := h2.size; have := h.at' k h4; omega
  · have := h.le; omega

theorem tw_Push (b B : Nat) (S : Nat → Prop) (A : List Int) (In In' : List Bool) (b2 : Nat) (S2 : Nat → Prop) (A2 : List Int) (In2 : List Bool) (v e : Int) (w0 w : World) (he : pushE In.length v = e) (hI : pushIn In v = In') (h : TW B w0 w b S A In b2 S2 A2 In2) :
    Calls Try.prog 24 #[.pointer (some ⟨b, 0, none⟩), .int .i64 v] w fun x w' => x = .returned (.int .i64 e) ∧ ∃ S', TW B w0 w' b S' A In' b2 S2 A2 In2 ∧ Touch S w w' ∧ ∀ k, S' k → S k ∨ w.heap.size ≤ k := by
  refine (hb_Push b B S A In In' v e w0 w he hI h.one).mono fun x w' hh => ⟨hh.1, ?_⟩
  obtain ⟨S', h1, h2, h3⟩ := hh.2
  exact ⟨S', h.next h1 h2 h3, h2, h3⟩

/-- Both are popped empty, one behind the other; their lists are compared. -/
theorem tw_all (b B : Nat) (S : Nat → Prop) (A : List Int) (In : List Bool) (b2 : Nat) (S2 : Nat → Prop) (A2 : List Int) (In2 : List Bool) (w0 w : World) (h : TW B w0 w b S A In b2 S2 A2 In2) (hn : In.length ≤ 1000) :
    Calls Try.prog 21 #[.pointer (some ⟨b, 0, none⟩)] w fun e w' => ∃ a c, e = .returned (.slice a (popAll A In).length c) ∧ w'.ownsRow w.heap.size 3 1 (.slice a (popAll A In).length c) (popAll A In).length (ints (popAll A In)) ∧ TW B w0 w' b S A (List.replicate In.length false) b2 S2 A2 In2 ∧ Touch S w w' := by
  refine (law06_all b B S A In w0 w h.one hn).mono fun e w' hh => ?_
  obtain ⟨v, h1, h2, h3, h4⟩ := hh
  obtain ⟨a, c, rfl⟩ := own_lenV h2
  exact ⟨a, c, h1, h2, h.next h3 h4 fun _ hk => Or.inl hk, h4⟩

theorem rowV {w : World} {B n c : Nat} {a : Option Addr} {xs : List Int} (h : w.ownsRow B 3 1 (.slice a n c) xs.length (ints xs)) : SlV w a (ints xs) := by
  obtain ⟨a', c', h1, -, -, h4⟩ := own_sli h
  injection h1 with h5
  rw [h5]
  exact h4

end Go.Proofs.Ytfhpjaabcegefaa.Ord
