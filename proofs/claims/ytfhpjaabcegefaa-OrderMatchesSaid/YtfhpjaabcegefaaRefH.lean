/- The contracts of weepholeref06's heaps, in the terms of the heaps of order: activities (index 0 is not used) and which variables are in. -/
import Derived.Test.YtfhpjaabcegefaaHeapS
import Derived.Deep.OwnRows
namespace Go.Proofs.Ytfhpjaabcegefaa.Ord
open Go.RowKit

theorem own_frame0 {w w' : World} {B e s n : Nat} {v : Value} {xs : List Value} (h : w.ownsRow B e s v n xs) (hk : ∀ g, v.ownBlock = some g → w'.heap[g]? = w.heap[g]?) : w'.ownsRow B e s v n xs := by
  refine ⟨h.1, ?_⟩
  rcases h.2 with h0 | ⟨g, cap, cur, e1, e2, e3, e4⟩
  · exact .inl h0
  · exact .inr ⟨g, cap, cur, e1, e2, by rw [hk g (by rw [e1]; rfl)]; exact e3, e4⟩

theorem own_n {w : World} {B e n m c : Nat} {a : Option Addr} {xs : List Value} (h : w.ownsRow B e 1 (.slice a n c) m xs) : m = n := by
  rcases h.2 with ⟨h0, h1⟩ | ⟨g, cap, cur, e1, _⟩
  · injection h0 with h2 h3 h4; omega
  · injection e1 with h2 h3 h4; omega

/-- A row of bools of the call's own. -/
def RwB (w : World) (v : Value) (bs : List Bool) : Prop := w.ownsRow 0 4 1 v bs.length (bools bs)

theorem bools_set0 (bs : List Bool) (k : Nat) (b : Bool) : (bools bs).set k (.bool b) = bools (bs.set k b) := by simp [bools, List.map_set]
theorem bools_get0 {bs : List Bool} {k : Nat} {x : Bool} (h : bs[k]? = some x) : (bools bs)[k]? = some (.bool x) := by simp [bools, h]

theorem rwb_form {w : World} {v : Value} {bs : List Bool} (h : RwB w v bs) (hn : 0 < bs.length) : ∃ g c, v = .slice (some ⟨g, 0, none⟩) bs.length c := by
  rcases h.2 with ⟨_, h0⟩ | ⟨g, cap, cur, h1, _⟩
  · omega
  · exact ⟨g, cap, h1⟩
theorem rwb_shape {w : World} {v : Value} {bs : List Bool} (h : RwB w v bs) : ∃ a c, v = .slice a bs.length c ∧ bs.length ≤ c ∧ (a = none → c = 0) ∧ SlV w a (bools bs) := by
  obtain ⟨a, c, h1, h2, h3, h4⟩ := own_sl h
  simp only [bools_length] at h1 h2
  exact ⟨a, c, h1, h2, h3, h4⟩
theorem rwb_get {w : World} {g c n k : Nat} {bs : List Bool} {x : Bool} (h : RwB w (.slice (some ⟨g, 0, none⟩) n c) bs) (hx : bs[k]? = some x) : w.cell? ⟨g, k, none⟩ = some (.bool x) := by
  have hk : k < bs.length := (List.getElem?_eq_some_iff.1 hx).1
  obtain rfl := own_n h
  rw [World.ownsRow.cellAt h k (by omega)]; exact bools_get0 hx
theorem rwb_free {w : World} {g c n : Nat} {bs : List Bool} (h : RwB w (.slice (some ⟨g, 0, none⟩) n c) bs) (k : Nat) : w.frozen? ⟨g, k, none⟩ = false := by obtain rfl := own_n h; exact World.ownsRow.frozenAt h k
theorem rwb_set {w : World} {g c n : Nat} {bs : List Bool} (h : RwB w (.slice (some ⟨g, 0, none⟩) n c) bs) (k : Nat) (x : Bool) : RwB (w.setCell ⟨g, k, none⟩ (.bool x)) (.slice (some ⟨g, 0, none⟩) n c) (bs.set k x) := by
  obtain rfl := own_n h
  have := (World.ownsRow.stored h k (.bool x)).1
  rw [bools_set0] at this
  unfold RwB
  rw [List.length_set]
  exact this

/-- How a heap of the reference lies in memory. -/
structure RRep (w : World) (b : Nat) (va vi : Value) (A : List Int) (In : List Bool) : Prop where
  blk : w.heap[b]? = some (.cells #[va, vi] 62)
  ra : Rw w va A.tail
  ri : RwB w vi In
  ap : ∀ k, va.ownBlock = some k → vi.ownBlock ≠ some k
  ab : va.ownBlock ≠ some b
  ib : vi.ownBlock ≠ some b
  len : A.length = In.length + 1

def rfoot (b : Nat) (va vi : Value) (k : Nat) : Prop := k = b ∨ va.ownBlock = some k ∨ vi.ownBlock = some k

theorem rfoot_lt {w : World} {b : Nat} {va vi : Value} {A : List Int} {In : List Bool} (h : RRep w b va vi A In) {k : Nat} (hk : rfoot b va vi k) : k < w.heap.size := by
  rcases hk with rfl | hk | hk
  · exact (Array.getElem?_eq_some_iff.1 h.blk).1
  · exact rw_lt h.ra k hk
  · exact (World.ownsRow.lt h.ri k hk).2

theorem rrep_frame {w w' : World} {b : Nat} {va vi : Value} {A : List Int} {In : List Bool} (h : RRep w b va vi A In) (hk : ∀ k, rfoot b va vi k → w'.heap[k]? = w.heap[k]?) : RRep w' b va vi A In :=
  ⟨(hk b (Or.inl rfl)).trans h.blk, rw_frame h.ra fun k e => hk k (Or.inr (Or.inl e)), own_frame0 h.ri fun k e => hk k (Or.inr (Or.inr e)), h.ap, h.ab, h.ib, h.len⟩

theorem rrep_cells {w : World} {b : Nat} {va vi : Value} {A : List Int} {In : List Bool} (h : RRep w b va vi A In) : w.cell? ⟨b, 0, none⟩ = some va ∧ w.cell? ⟨b, 1, none⟩ = some vi :=
  ⟨fit_cell (vs := [va, vi]) h.blk 0, fit_cell (vs := [va, vi]) h.blk 1⟩

/-- The reference's heap at the block b, of the blocks of S alone. -/
def RHeap (w : World) (b : Nat) (S : Nat → Prop) (A : List Int) (In : List Bool) : Prop :=
  ∃ va vi, RRep w b va vi A In ∧ (∀ k, rfoot b va vi k → S k) ∧ In.length ≤ 1048576 ∧ (∀ a ∈ A, 0 ≤ a ∧ a ≤ 1152921504606846976)

theorem rheap_frame {w w' : World} {b : Nat} {S : Nat → Prop} {A : List Int} {In : List Bool} (h : RHeap w b S A In) (hk : ∀ k, k < w.heap.size → S k → w'.heap[k]? = w.heap[k]?) : RHeap w' b S A In := by
  obtain ⟨va, vi, h1, h2, h3⟩ := h
  exact ⟨va, vi, rrep_frame h1 fun k e => hk k (rfoot_lt h1 e) (h2 k e), h2, h3⟩
theorem rheap_touch {w w' : World} {b : Nat} {S T : Nat → Prop} {A : List Int} {In : List Bool} (h : RHeap w b S A In) (ht : Touch T w w') (hd : ∀ k, S k → ¬ T k) : RHeap w' b S A In :=
  rheap_frame h fun k hk hs => ht.block k hk (hd k hs)
theorem rheap_drewN {w : World} {b : Nat} {S : Nat → Prop} {A : List Int} {In : List Bool} (h : RHeap w b S A In) (n : Nat) : RHeap (w.drewN n) b S A In := rheap_frame h fun _ _ _ => rfl

theorem tail_get {A : List Int} {n : Nat} (hl : A.length = n + 1) {k : Nat} (hk : k < n) : A.tail[k]? = some (actv A ((k : Int) + 1)) := by
  rw [List.getElem?_tail]
  have e : ((k : Int) + 1).toNat = k + 1 := by omega
  unfold actv
  rw [e, List.getD_eq_getElem?_getD, List.getElem?_eq_getElem (by omega)]
  rfl

theorem rw_cell {w : World} {g c n k : Nat} {xs : List Int} {x : Int} (h : Rw w (.slice (some ⟨g, 0, none⟩) n c) xs) (hx : xs[k]? = some x) : w.cell? ⟨g, k, none⟩ = some (.int .i64 x) := by
  have hk : k < xs.length := (List.getElem?_eq_some_iff.1 hx).1
  obtain rfl := own_n h
  rw [World.ownsRow.cellAt h k (by omega)]; exact ints_get hx

theorem rw_set' {w : World} {g c n : Nat} {xs : List Int} (h : Rw w (.slice (some ⟨g, 0, none⟩) n c) xs) (k : Nat) (x : Int) : Rw (w.setCell ⟨g, k, none⟩ (.int .i64 x)) (.slice (some ⟨g, 0, none⟩) n c) (xs.set k x) := by
  obtain rfl := own_n h
  have := (World.ownsRow.stored h k (.int .i64 x)).1
  rw [ints_set] at this
  unfold Rw
  rw [List.length_set]
  exact this

theorem rw_free' {w : World} {g c n : Nat} {xs : List Int} (h : Rw w (.slice (some ⟨g, 0, none⟩) n c) xs) (k : Nat) : w.frozen? ⟨g, k, none⟩ = false := by obtain rfl := own_n h; exact World.ownsRow.frozenAt h k
theorem rw_formN {w : World} {v : Value} {xs : List Int} {n : Nat} (h : Rw w v xs) (hl : xs.length = n) (hn : 0 < n) : ∃ g c, v = .slice (some ⟨g, 0, none⟩) n c := by
  subst hl; exact rw_form h hn

/-- A store of an activity. -/
theorem rrep_setA {w : World} {b g c n : Nat} {vi : Value} {A : List Int} {In : List Bool} (h : RRep w b (.slice (some ⟨g, 0, none⟩) n c) vi A In) (k : Nat) (x : Int) : RRep (w.setCell ⟨g, k, none⟩ (.int .i64 x)) b (.slice (some ⟨g, 0, none⟩) n c) vi (A.set (k + 1) x) In := by
  have hg : ∀ i, i ≠ g → (w.setCell ⟨g, k, none⟩ (.int .i64 x)).heap[i]? = w.heap[i]? := fun i hi => Below.heap_setCell w ⟨g, k, none⟩ _ i hi
  have hgb : g ≠ b := fun e => h.ab (by rw [e]; rfl)
  refine ⟨(hg b (Ne.symm hgb)).trans h.blk, ?_, own_frame0 h.ri fun i hi => hg i (fun e => h.ap g rfl (by rw [← e]; exact hi)), h.ap, h.ab, h.ib, by rw [List.length_set]; exact h.len⟩
  have e : (A.set (k + 1) x).tail = A.tail.set k x := by cases A <;> simp
  rw [e]
  exact rw_set' h.ra k x

/-- A store of whether a variable is in. -/
theorem rrep_setI {w : World} {b g c n : Nat} {va : Value} {A : List Int} {In : List Bool} (h : RRep w b va (.slice (some ⟨g, 0, none⟩) n c) A In) (k : Nat) (x : Bool) : RRep (w.setCell ⟨g, k, none⟩ (.bool x)) b va (.slice (some ⟨g, 0, none⟩) n c) A (In.set k x) := by
  have hg : ∀ i, i ≠ g → (w.setCell ⟨g, k, none⟩ (.bool x)).heap[i]? = w.heap[i]? := fun i hi => Below.heap_setCell w ⟨g, k, none⟩ _ i hi
  have hgb : g ≠ b := fun e => h.ib (by rw [e]; rfl)
  exact ⟨(hg b (Ne.symm hgb)).trans h.blk, rw_frame h.ra fun i hi => hg i (fun e => h.ap i hi (by rw [e]; rfl)), rwb_set h.ri k x, h.ap, h.ab, h.ib, by rw [List.length_set]; exact h.len⟩

set_option maxRecDepth 100000 in
set_option maxHeartbeats 4000000 in
theorem ref_Bump (b : Nat) (S : Nat → Prop) (A : List Int) (In : List Bool) (v by' e : Int) (w : World) (he : bumpE A In.length v by' = e) (h : RHeap w b S A In) :
    Calls Try.prog 15 #[.pointer (some ⟨b, 0, none⟩), .int .i64 v, .int .i64 by'] w fun x w' => x = .returned (.int .i64 e) ∧ RHeap w' b S (bumpA A In.length v by') In ∧ Touch S w w' := by
  have h0 := h
  obtain ⟨va, vi, h1, h2, h3, h4⟩ := h
  obtain ⟨hc0, hc1⟩ := rrep_cells h1
  obtain ⟨ai, ci, rfl, -, -, -⟩ := rwb_shape h1.ri
  have hN : e = 3 → Hid (bumpA A In.length v by' = A) := fun h => by
    unfold bumpA; rw [he, h]; rfl
  by_cases hv : 1 ≤ v ∧ v ≤ In.length
  · obtain ⟨x, hx⟩ : ∃ x, actv A v = x := ⟨_, rfl⟩
    have hxr := actv_range h4 v
    rw [hx] at hxr
    obtain ⟨k, hk⟩ : ∃ k : Nat, (k : Int) + 1 = v := ⟨(v - 1).toNat, by omega⟩
    have hg := tail_get h1.len (k := k) (by omega)
    rw [hk, hx] at hg
    have htl : A.tail.length = In.length := by rw [List.length_tail, h1.len]; omega
    obtain ⟨ga, ca, rfl⟩ := rw_formN h1.ra htl (by omega)
    have hcx := rw_cell h1.ra hg
    have hfx := rw_free' h1.ra k
    have hcell : ∀ y, y ≤ 1152921504606846976 → 0 ≤ y → RHeap (w.setCell ⟨ga, k, none⟩ (.int .i64 y)) b S (A.set v.toNat y) In := fun y hy hy0 => by
      have h5 := rrep_setA h1 k y
      rw [show k + 1 = v.toNat by omega] at h5
      exact ⟨_, _, h5, h2, h3, bump_mem h4 ⟨hy0, hy⟩⟩
    have hSa : S ga := h2 ga (Or.inr (Or.inl rfl))
    have q1 : (k : Int) < (In.length : Int) := by omega
    have hw1 : IntKind.i64.wrap (v - 1) = (k : Int) := by rw [IntWalk.i64_in _ (by omega)]; omega
    have d1 : decide (v < 1) = false := decide_eq_false (by omega)
    have d2 : decide ((In.length : Int) < v) = false := decide_eq_false (by omega)
    by_cases hb0 : 0 ≤ by'
    · have d3 : decide (by' < 0) = false := decide_eq_false (by omega)
      by_cases hb1 : by' ≤ 1099511627776
      · have d4 : decide ((1099511627776 : Int) < by') = false := decide_eq_false (by omega)
        have hw2 : IntKind.i64.wrap (x + by') = x + by' := IntWalk.i64_in _ (by omega)
        by_cases hb2 : x + by' ≤ 1152921504606846976
        · have d5 : decide ((1152921504606846976 : Int) < x + by') = false := decide_eq_false (by omega)
          have he0 : e = 0 := by rw [← he]; unfold bumpE; rw [if_pos ⟨hv.1, hv.2, hb0, hb1, by rw [hx]; exact hb2⟩]
          have hA' : bumpA A In.length v by' = A.set v.toNat (x + by') := by unfold bumpA; rw [he, he0, if_pos rfl, hx]
          rw [hA']
          have HF := hid (hcell (x + by') hb2 (by omega))
          have HE0 := hid he0
          clear h0 h1 h2 h3 h4 hN he he0 hx hg hk htl hcell hA' hv
          go_enter Try.func15, Try.ntmps15
          go_wp2_with fail
          go_region
          all_goals
            go_wp2_with fail
            go_ret
            exact ⟨by rw [HE0.out]; rfl, rheap_drewN HF.out 1, ((Touch.refl S w).setCell hSa _).drew⟩
        · have d5 : decide ((1152921504606846976 : Int) < x + by') = true := decide_eq_true (by omega)
          have he3 : e = 3 := by rw [← he]; unfold bumpE; rw [if_neg (by rintro ⟨h1, h2, h3, h4, h5⟩; rw [hx] at h5; omega)]
          rw [(hN he3).out]
          have HE0 := hid he3
          have HFIN := hid h0
          clear h0 h1 h2 h3 h4 hN he he3 hx hg hk htl hcell hv
          go_enter Try.func15, Try.ntmps15
          go_wp2_with fail
          go_ret
          exact ⟨by rw [HE0.out]; rfl, HFIN.out, Touch.refl _ _⟩
      · have d4 : decide ((1099511627776 : Int) < by') = true := decide_eq_true (by omega)
        have he3 : e = 3 := by rw [← he]; unfold bumpE; rw [if_neg (by rintro ⟨h1, h2, h3, h4, h5⟩; omega)]
        rw [(hN he3).out]
        have HE0 := hid he3
        have HFIN := hid h0
        clear h0 h1 h2 h3 h4 hN he he3 hx hg hk htl hcell hv
        go_enter Try.func15, Try.ntmps15
        go_wp2_with fail
        go_ret
        exact ⟨by rw [HE0.out]; rfl, HFIN.out, Touch.refl _ _⟩
    · have d3 : decide (by' < 0) = true := decide_eq_true (by omega)
      have he3 : e = 3 := by rw [← he]; unfold bumpE; rw [if_neg (by rintro ⟨h1, h2, h3, h4, h5⟩; omega)]
      rw [(hN he3).out]
      have HE0 := hid he3
      have HFIN := hid h0
      clear h0 h1 h2 h3 h4 hN he he3 hx hg hk htl hcell hv
      go_enter Try.func15, Try.ntmps15
      go_wp2_with fail
      go_ret
      exact ⟨by rw [HE0.out]; rfl, HFIN.out, Touch.refl _ _⟩
  · have he3 : e = 3 := by rw [← he]; unfold bumpE; rw [if_neg (by rintro ⟨h1, h2, h3, h4, h5⟩; omega)]
    rw [(hN he3).out]
    have HE0 := hid he3
    have HFIN := hid h0
    by_cases hv1 : v < 1
    · have d1 : decide (v < 1) = true := decide_eq_true hv1
      clear h0 h1 h2 h3 h4 hN he he3 hv
      go_enter Try.func15, Try.ntmps15
      go_wp2_with fail
      go_ret
      exact ⟨by rw [HE0.out]; rfl, HFIN.out, Touch.refl _ _⟩
    · have d1 : decide (v < 1) = false := decide_eq_false hv1
      have d2 : decide ((In.length : Int) < v) = true := decide_eq_true (by omega)
      clear h0 h1 h2 h3 h4 hN he he3 hv
      go_enter Try.func15, Try.ntmps15
      go_wp2_with fail
      go_ret
      exact ⟨by rw [HE0.out]; rfl, HFIN.out, Touch.refl _ _⟩

set_option maxRecDepth 100000 in
set_option maxHeartbeats 4000000 in
theorem ref_Push (b : Nat) (S : Nat → Prop) (A : List Int) (In : List Bool) (v e : Int) (w : World) (he : pushE In.length v = e) (h : RHeap w b S A In) :
    Calls Try.prog 26 #[.pointer (some ⟨b, 0, none⟩), .int .i64 v] w fun x w' => x = .returned (.int .i64 e) ∧ RHeap w' b S A (pushIn In v) ∧ Touch S w w' := by
  have h0 := h
  obtain ⟨va, vi, h1, h2, h3, h4⟩ := h
  obtain ⟨hc0, hc1⟩ := rrep_cells h1
  by_cases hv : 1 ≤ v ∧ v ≤ In.length
  · obtain ⟨k, hk⟩ : ∃ k : Nat, (k : Int) + 1 = v := ⟨(v - 1).toNat, by omega⟩
    obtain ⟨gi, ci, rfl⟩ := rwb_form h1.ri (by omega)
    have hkl : k < In.length := by omega
    have hcx := rwb_get h1.ri (List.getElem?_eq_getElem hkl)
    have hfx := rwb_free h1.ri k
    have he0 : e = 0 := by rw [← he]; unfold pushE; rw [if_pos hv]
    have hI : pushIn In v = In.set k true := by unfold pushIn; rw [if_pos hv, show (v - 1).toNat = k by omega]
    have hcell : RHeap (w.setCell ⟨gi, k, none⟩ (.bool true)) b S A (In.set k true) := ⟨_, _, rrep_setI h1 k true, h2, by rw [List.length_set]; exact h3, h4⟩
    have hSi : S gi := h2 gi (Or.inr (Or.inr rfl))
    rw [hI]
    have q1 : (k : Int) < (In.length : Int) := by omega
    have hw1 : IntKind.i64.wrap (v - 1) = (k : Int) := by rw [IntWalk.i64_in _ (by omega)]; omega
    have d1 : decide (v < 1) = false := decide_eq_false (by omega)
    have d2 : decide ((In.length : Int) < v) = false := decide_eq_false (by omega)
    have HE0 := hid he0
    have HF := hid hcell
    clear h0 h1 h2 h3 h4 he he0 hI hcell hv hk
    go_enter Try.func26, Try.ntmps26
    go_wp2_with fail
    go_ret
    exact ⟨by rw [HE0.out]; rfl, HF.out, (Touch.refl S w).setCell hSi _⟩
  · obtain ⟨ai, ci, rfl, -, -, -⟩ := rwb_shape h1.ri
    have he3 : e = 3 := by rw [← he]; unfold pushE; rw [if_neg hv]
    have hI : pushIn In v = In := by unfold pushIn; rw [if_neg hv]
    rw [hI]
    have HE0 := hid he3
    have HFIN := hid h0
    by_cases hv1 : v < 1
    · have d1 : decide (v < 1) = true := decide_eq_true hv1
      clear h0 h1 h2 h3 h4 he he3 hv hI
      go_enter Try.func26, Try.ntmps26
      go_wp2_with fail
      go_ret
      exact ⟨by rw [HE0.out]; rfl, HFIN.out, Touch.refl _ _⟩
    · have d1 : decide (v < 1) = false := decide_eq_false hv1
      have d2 : decide ((In.length : Int) < v) = true := decide_eq_true (by omega)
      clear h0 h1 h2 h3 h4 he he3 hv hI
      go_enter Try.func26, Try.ntmps26
      go_wp2_with fail
      go_ret
      exact ⟨by rw [HE0.out]; rfl, HFIN.out, Touch.refl _ _⟩

set_option maxRecDepth 100000 in
set_option maxHeartbeats 4000000 in
theorem ref_Has (b : Nat) (S : Nat → Prop) (A : List Int) (In : List Bool) (v : Int) (r : Bool) (w : World) (hr : (decide (1 ≤ v) && (In[(v - 1).toNat]? == some true)) = r) (h : RHeap w b S A In) :
    Calls Try.prog 27 #[.pointer (some ⟨b, 0, none⟩), .int .i64 v] w fun e w' => e = .returned (.bool r) ∧ w = w' := by
  obtain ⟨va, vi, h1, h2, h3, h4⟩ := h
  obtain ⟨hc0, hc1⟩ := rrep_cells h1
  by_cases hv1 : 1 ≤ v
  · have d1 : decide (1 ≤ v) = true := decide_eq_true hv1
    rw [d1, Bool.true_and] at hr
    by_cases hv2 : v ≤ In.length
    · obtain ⟨k, hk⟩ : ∃ k : Nat, (k : Int) + 1 = v := ⟨(v - 1).toNat, by omega⟩
      obtain ⟨gi, ci, rfl⟩ := rwb_form h1.ri (by omega)
      have hkl : k < In.length := by omega
      obtain ⟨x, hx⟩ : ∃ x, In[k]? = some x := ⟨_, List.getElem?_eq_getElem hkl⟩
      have hcx := rwb_get h1.ri hx
      rw [show (v - 1).toNat = k by omega, hx] at hr
      have hxr : x = r := by rw [← hr]; cases x <;> rfl
      have q1 : (k : Int) < (In.length : Int) := by omega
      have hw1 : IntKind.i64.wrap (v - 1) = (k : Int) := by rw [IntWalk.i64_in _ (by omega)]; omega
      have d2 : decide (v ≤ (In.length : Int)) = true := decide_eq_true (by omega)
      have HR := hid hxr
      clear h1 h2 h3 h4 hr hxr hx hk hkl
      go_enter Try.func27, Try.ntmps27
      go_wp2_with fail
      go_ret
      exact ⟨by rw [← HR.out]; rfl, rfl⟩
    · obtain ⟨ai, ci, rfl, -, -, -⟩ := rwb_shape h1.ri
      have d2 : decide (v ≤ (In.length : Int)) = false := decide_eq_false hv2
      have hrf : false = r := by rw [← hr, List.getElem?_eq_none (by omega)]; rfl
      have HR := hid hrf
      clear h1 h2 h3 h4 hr hrf
      go_enter Try.func27, Try.ntmps27
      go_wp2_with fail
      go_ret
      exact ⟨by rw [← HR.out]; rfl, rfl⟩
  · have d1 : decide (1 ≤ v) = false := decide_eq_false hv1
    rw [d1, Bool.false_and] at hr
    have HR := hid hr
    clear h1 h2 h3 h4 hr
    go_enter Try.func27, Try.ntmps27
    go_wp2_with fail
    go_ret
    exact ⟨by rw [← HR.out]; rfl, rfl⟩

theorem count_take {In : List Bool} {k : Nat} {x : Bool} (h : In[k]? = some x) : (In.take (k + 1)).countP id = (In.take k).countP id + (if x then 1 else 0) := by
  rw [List.take_add_one, h, List.countP_append]; cases x <;> rfl

set_option maxRecDepth 100000 in
set_option maxHeartbeats 4000000 in
theorem ref_Len (b : Nat) (S : Nat → Prop) (A : List Int) (In : List Bool) (n : Int) (w : World) (hn : ((In.countP id : Nat) : Int) = n) (h : RHeap w b S A In) :
    Calls Try.prog 19 #[.pointer (some ⟨b, 0, none⟩)] w fun e w' => e = .returned (.int .i64 n) ∧ w = w' := by
  obtain ⟨va, vi, h1, h2, h3, h4⟩ := h
  obtain ⟨hc0, hc1⟩ := rrep_cells h1
  obtain ⟨ai, ci, rfl, -, -, hs⟩ := rwb_shape h1.ri
  have HN := hid hn
  have HS := hid hs
  clear h1 h2 h4 hn hs
  go_enter Try.func19, Try.ntmps19
  go_wp2_with fail
  go_loop [3, 4] (fun s3 s4 => ∃ (k : Nat) (c : Nat), s4 = .int .i64 k ∧ k ≤ In.length ∧ s3 = .int .i64 c ∧ Hid (c = (In.take k).countP id) ∧ c ≤ k) (fun _ s4 => (In.length - (intOf s4)).toNat)
  case atStart => exact ⟨0, 0, rfl, Nat.zero_le _, rfl, by simp [Hid], Nat.le_refl _⟩
  case round =>
    obtain ⟨k, c, rfl, hk, rfl, hcc, hck⟩ := hrel
    by_cases hlt : k < In.length
    · obtain ⟨bo, oo, x, rfl, hcx, hxk⟩ := HS.out.bool hlt
      have hct := count_take hxk
      have HCT := hid hct
      have hwk : IntKind.i64.wrap ((k : Int) + 1) = (k : Int) + 1 := IntWalk.i64_in _ (by omega)
      have hwc : IntKind.i64.wrap ((c : Int) + 1) = (c : Int) + 1 := IntWalk.i64_in _ (by omega)
      clear hct hxk
      cases x with
      | true =>
        go_wp2_with fail
        go_round
        case rel => exact ⟨k + 1, c + 1, by simp, hlt, by simp, (by rw [HCT.out, hcc.out]; rfl), by omega⟩
        case measure => simp [intOf]; omega
      | false =>
        go_wp2_with fail
        go_round
        case rel => exact ⟨k + 1, c, by simp, hlt, rfl, (by rw [HCT.out, hcc.out]; rfl), by omega⟩
        case measure => simp [intOf]; omega
    · have hke : k = In.length := by omega
      have hcn : (c : Int) = n := by rw [hcc.out, ← HN.out, hke, List.take_length]
      have HCN := hid hcn
      clear hcn hke
      go_wp2_with fail
      go_ret
      exact ⟨by first | rfl | (rw [HCN.out]; rfl), rfl⟩

end Go.Proofs.Ytfhpjaabcegefaa.Ord
