/- The contract of Copy of weepholeref06's heaps. -/
import Derived.Test.YtfhpjaabcegefaaRefP
import Derived.Test.YtfhpjaabcegefaaHeapV
namespace Go.Proofs.Ytfhpjaabcegefaa.Ord
open Go.RowKit

/-- What Copy's region reads. -/
structure BunR (w : World) (b B : Nat) (va vi : Value) (A : List Int) (In : List Bool) : Prop where
  rep : RRep w b va vi A In
  foot : ∀ k, rfoot b va vi k → k < B
  size : B ≤ w.heap.size

theorem BunR.cells {w : World} {b B : Nat} {va vi : Value} {A : List Int} {In : List Bool} (h : BunR w b B va vi A In) : w.cell? ⟨b, 0, none⟩ = some va ∧ w.cell? ⟨b, 1, none⟩ = some vi := rrep_cells h.rep
theorem BunR.grown {w w' : World} {b B : Nat} {va vi : Value} {A : List Int} {In : List Bool} (h : BunR w b B va vi A In) (hg : w.grownBy w' none) : BunR w' b B va vi A In :=
  ⟨rrep_frame h.rep fun k hf => hg.block k (by have := h.foot k hf; have := h.size; omega) (by simp), h.foot, Nat.le_trans h.size hg.size⟩
theorem BunR.drew {w : World} {b B : Nat} {va vi : Value} {A : List Int} {In : List Bool} (h : BunR w b B va vi A In) : BunR w.drew b B va vi A In := ⟨rrep_frame h.rep fun _ _ => rfl, h.foot, h.size⟩

theorem bools_one' {xs : List Bool} : ∀ u ∈ bools xs, u.oneCell' = true := by
  intro u hu; simp [bools] at hu; rcases hu with ⟨-, rfl⟩ | ⟨-, rfl⟩ <;> rfl

theorem own_zero {w : World} {B e n : Nat} {v : Value} {xs : List Value} (h : w.ownsRow B e 1 v n xs) : w.ownsRow 0 e 1 v n xs := ⟨h.1, h.2.imp_right fun ⟨g, cap, cur, e1, _, e3⟩ => ⟨g, cap, cur, e1, Nat.zero_le _, e3⟩⟩

theorem copy_two2 {wA wB wC : World} {nX nY e1 e2 : Nat} {vX vY : Value} {xs ys : List Value} (hoX : wB.ownsRow wA.heap.size e1 1 vX nX xs) (hoY : wC.ownsRow wB.heap.size e2 1 vY nY ys) (hgY : wB.grownBy wC none) :
    wC.ownsRow wA.heap.size e1 1 vX nX xs ∧ ∀ k, vX.ownBlock = some k → vY.ownBlock ≠ some k := by
  have fX := hoX.lt
  have fY := hoY.lt
  exact ⟨own_frame0 hoX fun g hg => hgY.block g (fX g hg).2 (by simp), fun k hk hk2 => by have := fX k hk; have := fY k hk2; omega⟩

theorem own_slv {w : World} {B e n m c : Nat} {a : Option Addr} {xs : List Value} (h : w.ownsRow B e 1 (.slice a n c) m xs) : SlV w a xs := by
  obtain ⟨a', c', h1, -, -, h4⟩ := own_sl h
  injection h1 with h5
  rw [h5]
  exact h4

set_option maxRecDepth 100000 in
set_option maxHeartbeats 4000000 in
theorem ref_Copy (b : Nat) (S : Nat → Prop) (A : List Int) (In : List Bool) (w : World) (h : RHeap w b S A In) :
    Calls Try.prog 28 #[.pointer (some ⟨b, 0, none⟩)] w fun e w' => ∃ b' S', e = .returned (.pointer (some ⟨b', 0, none⟩)) ∧ RHeap w' b' S' A In ∧ Below w.heap.size w w' ∧ ∀ k, S' k → w.heap.size ≤ k ∧ k < w'.heap.size := by
  obtain ⟨i0, hi0, hz0, hz1, hz2⟩ := info_parts info_int
  obtain ⟨ib, hib, hbz0, hbz1, hbz2⟩ := info_parts info_boolR
  obtain ⟨va, vi, h1, h2, h3, h4⟩ := h
  have htl : A.tail.length = In.length := by rw [List.length_tail, h1.len]; omega
  have hsa := rw_shape h1.ra
  rw [htl] at hsa
  obtain ⟨aa, ca, rfl, -, han, -⟩ := hsa
  obtain ⟨ai, ci, rfl, -, hin, -⟩ := rwb_shape h1.ri
  have hbun : BunR w b w.heap.size (.slice aa In.length ca) (.slice ai In.length ci) A In := ⟨h1, fun k hk => rfoot_lt h1 hk, Nat.le_refl _⟩
  obtain ⟨d1, d2⟩ := hbun.cells
  have HBUN := hid hbun.drew
  have HAN := hid han
  have HIN := hid hin
  have HLEN := hid h1.len
  have HTL := hid htl
  have H4 := hid h4
  clear hbun h1 h2 h4 han hin htl
  go_enter Try.func28, Try.ntmps28
  go_wp2_with fail
  go_region_law (first
    | (refine step_append_sl rfl _ _ 40 rfl _ 3 i0 (.int .i64 0) 8 Try.underlying40 hi0 hz0 hz1 hz2 rfl (.slice none 0 0) 0 [] rfl (World.ownsRow_nil _ _ _ _) aa In.length ca (ints A.tail) rfl (rowV HBUN.out.rep.ra) (by simp only [ints_length]; exact HTL.out.symm) HAN.out ints_one (by unfold maxLen; omega) (by omega) (Nat.le_refl _) ?_; intro v8 w8 hoi hgi; rw [List.nil_append, Nat.zero_add] at hoi; obtain ⟨aI, cI, rfl⟩ := own_lenV hoi; have HOI := hid hoi; have HGI := hid hgi; have hbun := HBUN.out.grown hgi; obtain ⟨d1, d2⟩ := hbun.cells; clear HBUN; have HBUN := hid hbun; clear hoi hgi hbun)
    | (refine step_append_sl rfl _ _ 42 rfl _ 4 ib (.bool false) 1 Try.underlying42 hib hbz0 hbz1 hbz2 rfl (.slice none 0 0) 0 [] rfl (World.ownsRow_nil _ _ _ _) ai In.length ci (bools In) rfl (own_slv HBUN.out.rep.ri) (by simp) HIN.out bools_one' (by unfold maxLen; omega) (by omega) (Nat.le_refl _) ?_; intro v8 w8 hop hgp; rw [List.nil_append, Nat.zero_add] at hop; obtain ⟨aP, cP, rfl⟩ := own_lenV hop; have HOP := hid hop; have HGP := hid hgp; have hbun := HBUN.out.grown hgp; obtain ⟨d1, d2⟩ := hbun.cells; clear HBUN; have HBUN := hid hbun; clear hop hgp hbun))
  all_goals
    go_wp2_with fail
    go_ret
    have hr : w8.ownsRow w.heap.size 3 1 (.slice aI In.length cI) In.length (ints A.tail) ∧ w8.ownsRow w.heap.size 4 1 (.slice aP In.length cP) In.length (bools In) ∧ (∀ k, (Value.slice aI In.length cI).ownBlock = some k → (Value.slice aP In.length cP).ownBlock ≠ some k) ∧ Below w.heap.size w w8 := by
      first
      | (obtain ⟨r1, r2⟩ := copy_two2 HOI.out HOP.out HGP.out
         exact ⟨r1, own_base HOP.out (by have := HGI.out.size; exact this), r2, ((Below.refl _ _).drew.grown HGI.out (Nat.le_refl _) (fun q hq => by cases hq)).grown HGP.out (by have := HGI.out.size; exact this) (fun q hq => by cases hq)⟩)
      | (obtain ⟨r1, r2⟩ := copy_two2 HOP.out HOI.out HGI.out
         exact ⟨own_base HOI.out (by have := HGP.out.size; exact this), r1, fun k h1 h2 => r2 k h2 h1, ((Below.refl _ _).drew.grown HGP.out (Nat.le_refl _) (fun q hq => by cases hq)).grown HGI.out (by have := HGP.out.size; exact this) (fun q hq => by cases hq)⟩)
    obtain ⟨r1, r2, r3, r4⟩ := hr
    have f1 := r1.lt
    have f2 := r2.lt
    have hsz := r4.size
    have hblk := heap_alloc_new w8 (.cells #[.slice aI In.length cI, .slice aP In.length cP] 62)
    have hfr : ∀ k, k < w8.heap.size → (w8.alloc (.cells #[.slice aI In.length cI, .slice aP In.length cP] 62)).heap[k]? = w8.heap[k]? := fun k hk => Below.heap_alloc _ _ _ (by omega)
    refine ⟨w8.heap.size, rfoot w8.heap.size (.slice aI In.length cI) (.slice aP In.length cP), rfl, ⟨_, _, ⟨hblk, ?_, ?_, r3, fun e => ?_, fun e => ?_, HLEN.out⟩, fun k hk => hk, h3, H4.out⟩, r4.alloc hsz _, ?_⟩
    · have := own_zero (own_frame0 r1 fun g hg => hfr g (f1 g hg).2)
      unfold Rw; rw [HTL.out]; exact this
    · exact own_zero (own_frame0 r2 fun g hg => hfr g (f2 g hg).2)
    · have := (f1 _ e).2; omega
    · have := (f2 _ e).2; omega
    · rintro k (rfl | hk | hk)
      · exact ⟨hsz, by simp⟩
      · have := f1 k hk; exact ⟨by omega, by simp; omega⟩
      · have := f2 k hk; exact ⟨by omega, by simp; omega⟩

end Go.Proofs.Ytfhpjaabcegefaa.Ord
