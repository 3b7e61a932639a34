/- The contract of Copy of a heap. -/
import Derived.Test.YtfhpjaabcegefaaLawT
namespace Go.Proofs.Ytfhpjaabcegefaa.Ord
open Go.RowKit

/-- What Copy's last region reads and writes. -/
structure Bun (w : World) (b B : Nat) (va vi vp v3 : Value) (A I P : List Int) : Prop where
  rep : HRep w b va vi vp A I P
  blk : w.heap[B]? = some (.cells #[v3, .slice none 0 0, .slice none 0 0, .pointer none, .nilFunc] 59)
  lt : b < B
  foot : ∀ k, foot b va vi vp k → k < B
  row : Rw w v3 A
  own : ∀ k, v3.ownBlock = some k → k < B

theorem Bun.next {w w' : World} {b B : Nat} {va vi vp v3 : Value} {A I P : List Int} (h : Bun w b B va vi vp v3 A I P) (hk : ∀ k, k ≤ B → w'.heap[k]? = w.heap[k]?) : Bun w' b B va vi vp v3 A I P :=
  ⟨hrep_frame h.rep fun k hf => hk k (by have := h.foot k hf; omega), (hk B (Nat.le_refl _)).trans h.blk, h.lt, h.foot, rw_frame h.row fun k e => hk k (by have := h.own k e; omega), h.own⟩

theorem Bun.cells {w : World} {b B : Nat} {va vi vp v3 : Value} {A I P : List Int} (h : Bun w b B va vi vp v3 A I P) :
    w.cell? ⟨b, 1, none⟩ = some vi ∧ w.cell? ⟨b, 2, none⟩ = some vp ∧ w.cell? ⟨B, 1, none⟩ = some (.slice none 0 0) ∧ w.cell? ⟨B, 2, none⟩ = some (.slice none 0 0) ∧ w.cell? ⟨B, 3, none⟩ = some (.pointer none) ∧ w.cell? ⟨B, 4, none⟩ = some .nilFunc ∧ ∀ k, w.frozen? ⟨B, k, none⟩ = false := by
  obtain ⟨-, h1, h2, -, -⟩ := hrep_cells h.rep
  exact ⟨h1, h2, fit_cell (vs := [v3, .slice none 0 0, .slice none 0 0, .pointer none, .nilFunc]) h.blk 1, fit_cell (vs := [v3, .slice none 0 0, .slice none 0 0, .pointer none, .nilFunc]) h.blk 2, fit_cell (vs := [v3, .slice none 0 0, .slice none 0 0, .pointer none, .nilFunc]) h.blk 3, fit_cell (vs := [v3, .slice none 0 0, .slice none 0 0, .pointer none, .nilFunc]) h.blk 4, fun k => frozen_of_row _ _ _ _ _ h.blk⟩

theorem Bun.size {w : World} {b B : Nat} {va vi vp v3 : Value} {A I P : List Int} (h : Bun w b B va vi vp v3 A I P) : B < w.heap.size := (Array.getElem?_eq_some_iff.1 h.blk).1
theorem Bun.grown {w w' : World} {b B : Nat} {va vi vp v3 : Value} {A I P : List Int} (h : Bun w b B va vi vp v3 A I P) (hg : w.grownBy w' none) : Bun w' b B va vi vp v3 A I P :=
  h.next fun k hk => hg.block k (by have := h.size; omega) (by simp)

theorem bun_new {w w3 w4 : World} {b g3 c3 : Nat} {va vi vp : Value} {A I P : List Int} (h : HRep w b va vi vp A I P)
    (ho : w3.ownsRow w.heap.size 3 1 (.slice (some ⟨g3, 0, none⟩) A.length c3) A.length (ints A)) (hg : w.grownBy w3 none)
    (hw : w3.alloc (.cells #[.slice (some ⟨g3, 0, none⟩) A.length c3, .slice none 0 0, .slice none 0 0, .pointer none, .nilFunc] 59) = w4) :
    Bun w4 b w3.heap.size va vi vp (.slice (some ⟨g3, 0, none⟩) A.length c3) A I P := by
  subst hw
  have hz := hg.size
  have hfr : ∀ k, k < w.heap.size → (w3.alloc (.cells #[.slice (some ⟨g3, 0, none⟩) A.length c3, .slice none 0 0, .slice none 0 0, .pointer none, .nilFunc] 59)).heap[k]? = w.heap[k]? := fun k hk =>
    (Below.heap_alloc _ _ _ (by omega)).trans (hg.block k hk (by simp))
  have hrow : Rw w3 (.slice (some ⟨g3, 0, none⟩) A.length c3) A := ⟨ho.1, ho.2.imp_right fun ⟨g, cap, cur, e1, _, e3⟩ => ⟨g, cap, cur, e1, Nat.zero_le _, e3⟩⟩
  refine ⟨hrep_frame h fun k hf => hfr k (foot_lt h hf), heap_alloc_new _ _, ?_, fun k hf => ?_, rw_frame hrow fun k e => Below.heap_alloc _ _ _ (rw_lt hrow k e), fun k e => rw_lt hrow k e⟩
  · have := (Array.getElem?_eq_some_iff.1 h.blk).1; omega
  · have := foot_lt h hf; omega

theorem copy_two {wA wB wC : World} {B nX nY : Nat} {vX vY : Value} {xs ys : List Value} (hoX : wB.ownsRow wA.heap.size 3 1 vX nX xs) (hgX : wA.grownBy wB none) (hoY : wC.ownsRow wB.heap.size 3 1 vY nY ys) (hgY : wB.grownBy wC none) (hB : B < wA.heap.size) :
    wC.ownsRow 0 3 1 vX nX xs ∧ wC.ownsRow 0 3 1 vY nY ys ∧ (∀ k, vX.ownBlock = some k → B < k) ∧ (∀ k, vY.ownBlock = some k → B < k) ∧ ∀ k, vX.ownBlock = some k → vY.ownBlock ≠ some k := by
  have z1 := hgX.size
  have fX := hoX.lt
  have fY := hoY.lt
  refine ⟨⟨hoX.1, ?_⟩, ⟨hoY.1, hoY.2.imp_right fun ⟨g, cap, cur, e1, _, e3⟩ => ⟨g, cap, cur, e1, Nat.zero_le _, e3⟩⟩, fun k hk => by have := fX k hk; omega, fun k hk => by have := fY k hk; omega, fun k hk hk2 => by have := fX k hk; have := fY k hk2; omega⟩
  rcases hoX.2 with h0 | ⟨g, cap, cur, e1, e2, e3, e4⟩
  · exact .inl h0
  · exact .inr ⟨g, cap, cur, e1, Nat.zero_le _, by rw [hgY.block g (fX g (by rw [e1]; rfl)).2 (by simp)]; exact e3, e4⟩

theorem bun_fin {w9 w9' : World} {b B : Nat} {vi' vp' va vi vp v3 : Value} {A I P : List Int} (h : Bun w9 b B va vi vp v3 A I P)
    (hI : Rw w9 vi' I) (hP : Rw w9 vp' P) (hpl : 0 < P.length) (hv3 : ∃ g, v3.ownBlock = some g) (hbi : ∀ k, vi'.ownBlock = some k → B < k) (hbp : ∀ k, vp'.ownBlock = some k → B < k)
    (hne : ∀ k, vp'.ownBlock = some k → vi'.ownBlock ≠ some k)
    (hw : w9' = ((((w9.setCell ⟨B, 1, none⟩ vi').setCell ⟨B, 2, none⟩ vp').setCell ⟨B, 3, none⟩ (.pointer (some ⟨B, 0, none⟩))).setCell ⟨B, 4, none⟩ fnv)) :
    HRep w9' B v3 vi' vp' A I P := by
  subst hw
  obtain ⟨gp, cp, rfl⟩ := rw_form hP hpl
  have q1 := setCell_block (o := 1) vi' (xs := [v3, .slice none 0 0, .slice none 0 0, .pointer none, .nilFunc]) h.blk
  have q2 := setCell_block (o := 2) (.slice (some ⟨gp, 0, none⟩) P.length cp) (xs := [v3, vi', .slice none 0 0, .pointer none, .nilFunc]) q1
  have q3 := setCell_block (o := 3) (.pointer (some ⟨B, 0, none⟩)) (xs := [v3, vi', .slice (some ⟨gp, 0, none⟩) P.length cp, .pointer none, .nilFunc]) q2
  have q4 := setCell_block (o := 4) fnv (xs := [v3, vi', .slice (some ⟨gp, 0, none⟩) P.length cp, .pointer (some ⟨B, 0, none⟩), .nilFunc]) q3
  have hfr : ∀ (w : World) (o j : Nat) (u : Value), j ≠ B → (w.setCell ⟨B, o, none⟩ u).heap[j]? = w.heap[j]? := fun w o j u hj => heap_setCell_other w ⟨B, o, none⟩ j u hj
  have hf4 : ∀ j, j ≠ B → ((((w9.setCell ⟨B, 1, none⟩ vi').setCell ⟨B, 2, none⟩ (.slice (some ⟨gp, 0, none⟩) P.length cp)).setCell ⟨B, 3, none⟩ (.pointer (some ⟨B, 0, none⟩))).setCell ⟨B, 4, none⟩ fnv).heap[j]? = w9.heap[j]? := fun j hj => by
    rw [hfr _ _ _ _ hj, hfr _ _ _ _ hj, hfr _ _ _ _ hj, hfr _ _ _ _ hj]
  refine ⟨q4, rw_frame h.row fun k e => hf4 k (by have := h.own k e; omega), rw_frame hI fun k e => hf4 k (by have := hbi k e; omega), rw_frame hP fun k e => hf4 k (by have := hbp k e; omega), ?_, ?_, ?_⟩
  · intro e
    obtain ⟨g, hg⟩ := hv3
    have a1 := h.own g hg
    have a2 := hbi g (by rw [← e]; exact hg)
    omega
  · intro e
    have a1 := h.own gp (by rw [e]; rfl)
    have a2 := hbp gp rfl
    omega
  · intro e
    exact hne gp rfl e

set_option maxRecDepth 100000 in
set_option maxHeartbeats 4000000 in
theorem heap_Copy (b : Nat) (S : Nat → Prop) (A : List Int) (In : List Bool) (w : World) (h : Heap w b S A In) :
    Calls Try.prog 22 #[.pointer (some ⟨b, 0, none⟩)] w fun e w' => ∃ b' S', e = .returned (.pointer (some ⟨b', 0, none⟩)) ∧ Heap w' b' S' A In ∧ Below w.heap.size w w' ∧ ∀ k, S' k → w.heap.size ≤ k ∧ k < w'.heap.size := by
  obtain ⟨i0, hi0, hz0, hz1, hz2⟩ := info_parts info_int
  obtain ⟨va, vi, vp, I, P, h1, h2, h3, h4, h5, h6, h7, h8, h9⟩ := h
  have hil := fits_len h3 h4 h6
  obtain ⟨ga, ca, rfl⟩ := rw_form h1.ra (by omega)
  obtain ⟨gp, cp, rfl⟩ := rw_form h1.rp (by omega)
  obtain ⟨ai, ci, rfl, hic, hin0, hsi⟩ := rw_shape h1.ri
  obtain ⟨hc0, hc1, hc2, -, -⟩ := hrep_cells h1
  have HSA := hid (rowV h1.ra)
  have H1 := hid h1
  have HALL := hid (And.intro h2 (And.intro h3 (And.intro h6 h9)))
  have HIN0 := hid hin0
  have HLEN := hid (And.intro h4 h5)
  have hAl : A.length ≤ 1048577 ∧ 0 < A.length := by omega
  have hPl : P.length ≤ 1048577 ∧ 0 < P.length := by omega
  have hIl : I.length ≤ 1048577 := by omega
  clear h2 h3 h4 h5 h6 h7 h9 hsi h1 hin0
  have hst := fun (a : Addr) (w : World) => run_store Try.prog w a (.func (.func 29) #[] #[]) .plain rfl
  go_enter Try.func22, Try.ntmps22
  go_wp2_with (at_builtin; refine wpList_append_sl _ rfl _ _ 40 rfl w.heap.size 3 i0 (.int .i64 0) 8 Try.underlying40 hi0 hz0 hz1 hz2 rfl (.slice none 0 0) 0 [] rfl (World.ownsRow_nil _ _ _ _) (some ⟨ga, 0, none⟩) A.length ca (ints A) rfl HSA.out (by simp [ints]) (by intro h; cases h) ints_one (by unfold maxLen; omega) (by omega) (Nat.le_refl _) ?_; intro v3 w3 ho3 hg3; rw [List.nil_append, Nat.zero_add] at ho3; obtain ⟨g3, c3, rfl⟩ := own_form9 ho3 (by omega); have HO3 := hid ho3; have HG3 := hid hg3; clear ho3 hg3)
  have hz3 := HG3.out.size
  generalize hw4 : w3.alloc _ = w4
  have hbun := bun_new H1.out HO3.out HG3.out hw4
  have HBEL : Hid (Below w.heap.size w w4) := hid (by rw [← hw4]; exact ((Below.refl _ _).grown HG3.out (Nat.le_refl _) (fun q hq => by cases hq)).alloc (by omega) _)
  have hlt4 : w3.heap.size < w4.heap.size := hbun.size
  clear hw4 hc0 hc1 hc2
  obtain ⟨d1, d2, d3, d4, d5, d6, d7⟩ := hbun.cells
  have HBUN := hid (hbun.next (w' := w4.drew) fun _ _ => rfl)
  clear hbun
  go_region_law (first
    | (refine step_append_sl rfl _ _ 40 rfl _ 3 i0 (.int .i64 0) 8 Try.underlying40 hi0 hz0 hz1 hz2 rfl (.slice none 0 0) 0 [] rfl (World.ownsRow_nil _ _ _ _) ai I.length ci (ints I) rfl (rowV HBUN.out.rep.ri) (by simp [ints]) HIN0.out ints_one (by unfold maxLen; omega) (by omega) (Nat.le_refl _) ?_; intro v8 w8 hoi hgi; rw [List.nil_append, Nat.zero_add] at hoi; obtain ⟨aI, cI, rfl⟩ := own_lenV hoi; have HOI := hid hoi; have HGI := hid hgi; have hbun := HBUN.out.grown hgi; obtain ⟨d1, d2, d3, d4, d5, d6, d7⟩ := hbun.cells; clear HBUN; have HBUN := hid hbun; clear hoi hgi hbun)
    | (refine step_append_sl rfl _ _ 40 rfl _ 3 i0 (.int .i64 0) 8 Try.underlying40 hi0 hz0 hz1 hz2 rfl (.slice none 0 0) 0 [] rfl (World.ownsRow_nil _ _ _ _) (some ⟨gp, 0, none⟩) P.length cp (ints P) rfl (rowV HBUN.out.rep.rp) (by simp [ints]) (by intro h; cases h) ints_one (by unfold maxLen; omega) (by omega) (Nat.le_refl _) ?_; intro v8 w8 hop hgp; rw [List.nil_append, Nat.zero_add] at hop; obtain ⟨aP, cP, rfl⟩ := own_lenV hop; have HOP := hid hop; have HGP := hid hgp; have hbun := HBUN.out.grown hgp; obtain ⟨d1, d2, d3, d4, d5, d6, d7⟩ := hbun.cells; clear HBUN; have HBUN := hid hbun; clear hop hgp hbun))
  all_goals
    go_wp2_with fail
    go_ret
    have hr : Rw w8 (.slice aI I.length cI) I ∧ Rw w8 (.slice aP P.length cP) P ∧ (∀ k, (Value.slice aI I.length cI).ownBlock = some k → w3.heap.size < k) ∧ (∀ k, (Value.slice aP P.length cP).ownBlock = some k → w3.heap.size < k) ∧ (∀ k, (Value.slice aP P.length cP).ownBlock = some k → (Value.slice aI I.length cI).ownBlock ≠ some k) ∧ Below w.heap.size w w8 := by
      first
      | (obtain ⟨r1, r2, r3, r4, r5⟩ := copy_two HOI.out HGI.out HOP.out HGP.out hlt4
         exact ⟨r1, r2, r3, r4, fun k hp hi => r5 k hi hp, (HBEL.out.drew.grown HGI.out (by show w.heap.size ≤ w4.heap.size; omega) (fun q hq => by cases hq)).grown HGP.out (by have := HGI.out.size; have : w4.drew.heap.size = w4.heap.size := rfl; omega) (fun q hq => by cases hq)⟩)
      | (obtain ⟨r1, r2, r3, r4, r5⟩ := copy_two HOP.out HGP.out HOI.out HGI.out hlt4
         exact ⟨r2, r1, r4, r3, fun k hp hi => r5 k hp hi, (HBEL.out.drew.grown HGP.out (by show w.heap.size ≤ w4.heap.size; omega) (fun q hq => by cases hq)).grown HGI.out (by have := HGP.out.size; have : w4.drew.heap.size = w4.heap.size := rfl; omega) (fun q hq => by cases hq)⟩)
    obtain ⟨r1, r2, r3, r4, r5, r6⟩ := hr
    have h9 := bun_fin HBUN.out r1 r2 hPl.2 ⟨g3, rfl⟩ r3 r4 r5 rfl
    obtain ⟨p1, p2, p3, p4⟩ := HALL.out
    have hbe : w.heap.size ≤ w3.heap.size := hz3
    refine ⟨w3.heap.size, _, rfl, ⟨_, _, _, I, P, h9, p1, p2, HLEN.out.1, HLEN.out.2, p3, fun k hk => hk, h8, p4⟩, (((r6.setCell (p := ⟨w3.heap.size, 1, none⟩) hbe _).setCell (p := ⟨w3.heap.size, 2, none⟩) hbe _).setCell (p := ⟨w3.heap.size, 3, none⟩) hbe _).setCell (p := ⟨w3.heap.size, 4, none⟩) hbe _, fun k hk => ⟨?_, foot_lt h9 hk⟩⟩
    rcases hk with rfl | hk | hk | hk
    · exact hbe
    · have := (HO3.out.lt k hk).1; omega
    · have := r3 k hk; omega
    · have := r4 k hk; omega

end Go.Proofs.Ytfhpjaabcegefaa.Ord
