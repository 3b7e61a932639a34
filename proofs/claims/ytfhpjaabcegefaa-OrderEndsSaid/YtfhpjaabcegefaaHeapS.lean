/- The contract of Push of a heap. -/
import Derived.Test.YtfhpjaabcegefaaHeapP
import Derived.Maps.AppendAt
namespace Go.Proofs.Ytfhpjaabcegefaa.Ord
open Go.RowKit

/-- The error that Push returns. -/
def pushE (n : Nat) (v : Int) : Int := if 1 ≤ v ∧ v ≤ n then 0 else 3
/-- What is in behind it. -/
def pushIn (In : List Bool) (v : Int) : List Bool := if 1 ≤ v ∧ v ≤ In.length then In.set (v - 1).toNat true else In

theorem q_upZ (b : Nat) (va vi vp : Value) (A I P : List Int) (i : Nat) (x : Int) (w : World) (hx : x = i) (h : HRep w b va vi vp A I P) (hf : Fits I P) (hu : UpInv A I i) (hi : i < I.length) (hA : A.length = P.length) (hl : P.length ≤ 4294967296) (hIl : I.length ≤ 4294967296) :
    Calls Try.prog 31 #[.pointer (some ⟨b, 1, none⟩), .int .i64 x] w fun e w' => e = .returned (.tuple #[]) ∧ Sifted w' b va vi vp A I.length P.length (inI I) ∧ Touch (foot b va vi vp) w w' := by
  subst hx; exact q_up b va vi vp A I P i w h hf hu hi hA hl hIl

theorem new_one {w : World} {g : Nat} {u : Value} {e : TypeId} (h : w.heap[g]? = some (.cells #[u] e (0, 0))) : ∀ (j : Nat) (x : Value), [u][j]? = some x → w.cell? ((⟨g, 0, none⟩ : Addr).add j) = some x := by
  intro j x hj
  match j, hj with
  | 0, hj => simp at hj; subst hj; simpa [Addr.add] using fit_cell (vs := [u]) h 0

theorem own_form9 {w : World} {B e n : Nat} {v : Value} {xs : List Value} (h : w.ownsRow B e 1 v n xs) (hn : 0 < n) : ∃ g c, v = .slice (some ⟨g, 0, none⟩) n c := by
  rcases h.2 with ⟨_, h0⟩ | ⟨g, cap, cur, h1, _⟩
  · omega
  · exact ⟨g, cap, h1⟩

/-- A later touch of blocks that are S's, or that are newer. -/
theorem Touch.trans' {S T : Nat → Prop} {a b c : World} (h : Touch S a b) (k : Touch T b c) (hs : ∀ i, i < a.heap.size → T i → S i) : Touch S a c :=
  ⟨k.os.trans h.os, k.tape.trans h.tape, k.output.trans h.output, Nat.le_trans h.size k.size, fun i hi hn => (k.block i (by have := h.size; omega) (fun e => hn (hs i hi e))).trans (h.block i hi hn)⟩

theorem push_blk {w w0 w9 : World} {gp k : Nat} {vi : Value} {x : Int} {o : Obj} (hw : w0.heap = ((w.setCell ⟨gp, k, none⟩ (.int .i64 x)).alloc o).heap)
    (hg : w0.grownBy w9 vi.ownBlock) :
    ∀ j, j < w.heap.size → vi.ownBlock ≠ some j → w9.heap[j]? = (w.setCell ⟨gp, k, none⟩ (.int .i64 x)).heap[j]? := fun j hj hne => by
  rw [hg.block j (by rw [hw, size_al, setCell_size]; omega) (fun e => hne e.symm), hw]
  exact Below.heap_alloc _ _ _ (by rw [setCell_size]; exact hj)

theorem push_rep {w w0 w9 : World} {b gp n c k : Nat} {va vi v9 : Value} {A I P : List Int} {v x : Int} {o : Obj} (h : HRep w b va vi (.slice (some ⟨gp, 0, none⟩) n c) A I P) (hn : n = P.length)
    (hown : w9.ownsRow 0 3 1 v9 (I.length + 1) (ints I ++ [.int .i64 v])) (hw : w0.heap = ((w.setCell ⟨gp, k, none⟩ (.int .i64 x)).alloc o).heap) (hg : w0.grownBy w9 vi.ownBlock)
    (hat : v9.ownBlock = vi.ownBlock ∨ v9.ownBlock = some (w.heap.size + 1)) :
    w9.heap[b]? = some (.cells #[va, vi, .slice (some ⟨gp, 0, none⟩) n c, .pointer (some ⟨b, 0, none⟩), fnv] 59) ∧ HRep (w9.setCell ⟨b, 1, none⟩ v9) b va v9 (.slice (some ⟨gp, 0, none⟩) n c) A (I ++ [v]) (P.set k x) := by
  have hblk := push_blk hw hg
  have hs := hrep_setP h hn k x
  have hbl : b < w.heap.size := (Array.getElem?_eq_some_iff.1 h.blk).1
  have hb9 : w9.heap[b]? = some (.cells #[va, vi, .slice (some ⟨gp, 0, none⟩) n c, .pointer (some ⟨b, 0, none⟩), fnv] 59) := (hblk b hbl (rw_apart h.ri h.blk (by decide))).trans hs.blk
  have hrow : Rw w9 v9 (I ++ [v]) := by
    unfold Rw
    rw [List.length_append, ints_append]; exact hown
  have la := fun j (hj : va.ownBlock = some j) => rw_lt h.ra j hj
  have lp := fun j (hj : (Value.slice (some ⟨gp, 0, none⟩) n c).ownBlock = some j) => rw_lt h.rp j hj
  refine ⟨hb9, ⟨setCell_block (o := 1) v9 (xs := [va, vi, .slice (some ⟨gp, 0, none⟩) n c, .pointer (some ⟨b, 0, none⟩), fnv]) hb9, ?_, ?_, ?_, ?_, h.ap, ?_⟩⟩
  · refine rw_frame hs.ra fun j hj => ?_
    rw [heap_setCell_other w9 ⟨b, 1, none⟩ j _ (fun e => rw_apart h.ra h.blk (by decide) (by rw [hj]; exact congrArg some e))]
    exact hblk j (la j hj) (fun e => h.ai (by rw [hj, e]))
  · exact rw_frame hrow fun j hj => heap_setCell_other w9 ⟨b, 1, none⟩ j _ (fun e => rw_apart hrow hb9 (by decide) (by rw [hj]; exact congrArg some e))
  · refine rw_frame hs.rp fun j hj => ?_
    rw [heap_setCell_other w9 ⟨b, 1, none⟩ j _ (fun e => rw_apart h.rp h.blk (by decide) (by rw [hj]; exact congrArg some e))]
    exact hblk j (lp j hj) (fun e => h.ip (by rw [hj, e]))
  · rcases hat with h1 | h1
    · rw [h1]; exact h.ai
    · rw [h1]; intro e; have := la _ e; omega
  · rcases hat with h1 | h1
    · rw [h1]; exact h.ip
    · rw [h1]; intro e; have := lp _ e.symm; omega

set_option maxRecDepth 100000 in
set_option maxHeartbeats 4000000 in
theorem heap_Push (b : Nat) (S : Nat → Prop) (A : List Int) (In : List Bool) (v e : Int) (w : World) (he : pushE In.length v = e) (h : Heap w b S A In) :
    Calls Try.prog 24 #[.pointer (some ⟨b, 0, none⟩), .int .i64 v] w fun x w' => x = .returned (.int .i64 e) ∧ ∃ S', Heap w' b S' A (pushIn In v) ∧ Touch S w w' ∧ ∀ k, S' k → S k ∨ (w.heap.size ≤ k ∧ k < w'.heap.size) := by
  have h0 := h
  obtain ⟨va, vi, vp, I, P, h1, h2, h3, h4, h5, h6, h7, h8, h9⟩ := h
  have hil := fits_len h3 h4 h6
  by_cases hv : 1 ≤ v ∧ v ≤ In.length
  · have he0 : e = 0 := by rw [← he]; unfold pushE; rw [if_pos hv]
    have hpi : pushIn In v = In.set (v - 1).toNat true := by unfold pushIn; rw [if_pos hv]
    rw [hpi]
    have hi := heap_is b va vi vp A I P v true w (by rw [h5]; simp; omega) h1
    obtain ⟨hc0, hc1, hc2, -, -⟩ := hrep_cells h1
    obtain ⟨gp, cp, rfl⟩ := rw_form h1.rp (by omega)
    have hcp := rw_val h1.rp rfl (k := v.toNat) (by omega)
    have hpl := fits_place h3 (v := v.toNat) (by omega)
    rw [show ((v.toNat : Nat) : Int) = v by omega] at hpl
    have hvP : v < P.length := by omega
    have hv0 : 0 ≤ v := by omega
    have HI := hid hi
    have HE0 := hid he0
    by_cases hin : inI I v
    · have hp0 := hpl.1.2 hin
      obtain ⟨p, hp⟩ : ∃ p, at' P v.toNat = p := ⟨_, rfl⟩
      rw [hp] at hcp hp0
      have hsame : In.set (v - 1).toNat true = In := set_same_true ((h6 v hv.1 hv.2).1 hin)
      rw [hsame]
      have HF := hid h0
      clear h0 h1 h2 h3 h4 h5 h6 h7 h9 hpl hi hin hp he he0 hpi hsame
      go_enter Try.func24, Try.ntmps24
      go_wp2_with (go_at_call 30; refine HI.out.mono ?_; rintro e w' ⟨rfl, rfl⟩)
      go_ret
      exact ⟨by rw [HE0.out]; rfl, S, HF.out, Touch.refl _ _, fun k hk => Or.inl hk⟩
    · have hp0 : ¬ 0 ≤ at' P v.toNat := fun h => hin (hpl.1.1 h)
      obtain ⟨p, hp⟩ : ∃ p, at' P v.toNat = p := ⟨_, rfl⟩
      rw [hp] at hcp hp0
      obtain ⟨ai, ci, hvi, hic, hin0⟩ := rw_shape h1.ri
      have hfv := rw_free h1.rp rfl v.toNat
      have n1 : ¬ b = gp := fun e => rw_apart h1.rp h1.blk (by decide) (by rw [e]; rfl)
      have n2 : ¬ gp = b := fun e => n1 e.symm
      obtain ⟨i0, hi0, hz0, hz1, hz2⟩ := info_parts info_int
      have hup := push_up (v := v) h2
      have hfp := push_fits h3 hv.1 hvP hin
      have hrp := rel_push h6 hv.1 hv.2
      have hs := hrep_setP h1 rfl v.toNat (I.length : Int)
      have hpl2 : at' (P.set v.toNat (I.length : Int)) v.toNat = (I.length : Int) := by rw [at'_set (by omega), if_pos rfl]
      rw [hvi] at hc1
      have H1 := hid h1
      have HS := hid hs
      have HUP := hid hup
      have HFP := hid hfp
      have HRP := hid hrp
      have HVI := hid hvi
      have H1V : Hid (HRep w b va (.slice ai I.length ci) (.slice (some ⟨gp, 0, none⟩) P.length cp) A I P) := hvi ▸ h1
      have H7 := hid h7
      have H9 := hid h9
      have HP4 := hid h4
      have HA5 := hid h5
      have HPL2 := hid hpl2
      have hfb := hrep_free h1 1
      clear h0 h1 h2 h3 h4 h5 h6 h7 h9 hpl hi hin hp he he0 hpi hup hfp hrp hs hvi hin0 hpl2
      go_enter Try.func24, Try.ntmps24
      go_wp2_with (go_at_call 30; refine HI.out.mono ?_; rintro e w' ⟨rfl, rfl⟩)
      go_region
      all_goals
        go_wp2_with (at_builtin; refine wpList_append_own_at _ rfl _ _ 40 rfl 0 3 i0 (.int .i64 0) 1 8 Try.underlying40 hi0 hz0 hz1 hz2 rfl (by decide) _ _ _ rfl (by rw [← HVI.out]; exact World.ownsRow.drew (HS.out.ri.alloc _)) ⟨w.heap.size, 0, none⟩ 1 1 [.int .i64 v] rfl rfl ?c1 one_int (by unfold maxLen; omega) (by omega) (Nat.zero_le _) ?_)
        case c1 => exact new_one (by show ((w.setCell _ _).alloc _).heap[_]? = _; rw [← setCell_size w ⟨gp, v.toNat, none⟩ (.int .i64 (I.length : Int))]; exact heap_alloc_new _ _)
        intro v9 w9 ho9 hg9 _ hat
        obtain ⟨hb9, hr9⟩ := push_rep H1V.out rfl ho9 (by rfl) hg9 hat
        have HAT := hid hat
        obtain ⟨g9, c9, rfl⟩ := own_form9 ho9 (by omega)
        have r1 : w9.cell? ⟨b, 1, none⟩ = some (.slice ai I.length ci) := fit_cell (vs := [va, .slice ai I.length ci, .slice (some ⟨gp, 0, none⟩) P.length cp, .pointer (some ⟨b, 0, none⟩), fnv]) hb9 1
        have r2 : w9.frozen? ⟨b, 1, none⟩ = false := frozen_of_row _ _ _ _ _ hb9
        obtain ⟨-, -, r3, -, -⟩ := hrep_cells hr9
        have r4 := rw_val hr9.rp (show P.length = (P.set v.toNat (I.length : Int)).length by simp) (k := v.toNat) (by simp; omega)
        rw [HPL2.out] at r4
        have HR9 := hid hr9
        have HT9 : Hid (Touch S w w9) := (((Touch.refl S w).setCell (p := ⟨gp, v.toNat, none⟩) (H7.out gp (Or.inr (Or.inr (Or.inr rfl)))) _).alloc _).drew.grown hg9 (fun k hk => Or.inl (H7.out k (Or.inr (Or.inr (Or.inl (by rw [HVI.out]; exact hk))))))
        have hsz9 : w.heap.size + 1 ≤ w9.heap.size := by have := hg9.size; rw [heap_drew, size_al, setCell_size] at this; omega
        have hlt9 : g9 < w9.heap.size := (ho9.lt g9 rfl).2
        clear ho9 hg9 hat hb9 hr9 hc0 hc1 hc2 hcp hfv hfb
        go_wp2_with fail
        go_region_with (go_at_call 31; refine (q_upZ b va _ _ A (I ++ [v]) (P.set v.toNat (I.length : Int)) I.length _ _ rfl (hrep_drew HR9.out) HFP.out HUP.out (by simp) (by rw [List.length_set]; have := HP4.out; have := HA5.out; omega) (by rw [List.length_set]; have := HP4.out; omega) (by rw [List.length_append]; simp; omega)).mono ?_; rintro e2 w2 ⟨rfl, hsf, ht⟩)
        all_goals
          have HSF := hid hsf
          have HT := hid ht
          clear hsf ht
          go_wp2_with fail
          go_ret
          obtain ⟨I2, P2, q1, q2, q3, q4, q5, q6⟩ := HSF.out
          have hz2 : w9.heap.size ≤ w2.heap.size := by have := HT.out.size; rw [heap_drew, setCell_size] at this; exact this
          have hfoot : ∀ k, foot b va (.slice (some ⟨g9, 0, none⟩) (I.length + 1) c9) (.slice (some ⟨gp, 0, none⟩) P.length cp) k → S k ∨ (w.heap.size ≤ k ∧ k < w2.heap.size) := by
            rintro k (rfl | hk | hk | hk)
            · exact Or.inl (H7.out k (Or.inl rfl))
            · exact Or.inl (H7.out k (Or.inr (Or.inl hk)))
            · rcases HAT.out with h' | h'
              · exact Or.inl (H7.out k (Or.inr (Or.inr (Or.inl (by rw [HVI.out, ← h']; exact hk)))))
              · simp only [Value.ownBlock, Option.some.injEq] at h' hk
                exact Or.inr ⟨by omega, by omega⟩
            · exact Or.inl (H7.out k (Or.inr (Or.inr (Or.inr hk))))
          refine ⟨by rw [HE0.out]; rfl, _, ⟨_, _, _, I2, P2, q1, q2, q3, ?_, ?_, rel_congr HRP.out q6, hfoot, by rw [List.length_set]; exact h8, H9.out⟩, ?_, fun k hk => hk⟩
          · rw [q5]; simp only [List.length_set]; exact HP4.out
          · rw [List.length_set]; exact HA5.out
          · refine (HT9.out.setCell (p := ⟨b, 1, none⟩) (H7.out b (Or.inl rfl)) _).drew.trans' HT.out fun k hk1 hk2 => ?_
            rcases hfoot k hk2 with h' | h'
            · exact h'
            · omega
  · have he0 : e = 3 := by rw [← he]; unfold pushE; rw [if_neg hv]
    have hpi : pushIn In v = In := by unfold pushIn; rw [if_neg hv]
    rw [hpi]
    have hi := heap_is b va vi vp A I P v false w (by rw [h5]; simp; omega) h1
    have HI := hid hi
    have HE0 := hid he0
    have HF := hid h0
    clear h0 h1 h2 h3 h4 h5 h6 h7 h9 hi he he0 hpi
    go_enter Try.func24, Try.ntmps24
    go_wp2_with (go_at_call 30; refine HI.out.mono ?_; rintro e w' ⟨rfl, rfl⟩)
    go_ret
    exact ⟨by rw [HE0.out]; rfl, S, HF.out, Touch.refl _ _, fun k hk => Or.inl hk⟩

end Go.Proofs.Ytfhpjaabcegefaa.Ord
