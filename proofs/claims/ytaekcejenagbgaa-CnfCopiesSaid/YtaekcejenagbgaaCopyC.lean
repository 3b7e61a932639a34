/- The contract of cnf.Copy. -/
import Derived.Test.YtaekcejenagbgaaCopyL
import Derived.Laws.CopyOwn
import Derived.Test.YtaekcejenagbgaaOwn
namespace Go.Proofs.Ytaekcejenagbgaa
open Go.RowKit

/-- The outer row while it is filled: 'us' stand, the rest is nil. -/
def partV (n : Nat) (us : List Value) : List Value := us ++ List.replicate (n - us.length) (.slice none 0 0)

theorem partV_length {n : Nat} {us : List Value} (h : us.length ≤ n) : (partV n us).length = n := by simp [partV]; omega
theorem partV_set {n : Nat} {us : List Value} {u : Value} (h : us.length < n) : (partV n us).set us.length u = partV n (us ++ [u]) := by
  unfold partV
  rw [List.set_append_right _ _ (Nat.le_refl _), Nat.sub_self]
  have e : n - us.length = (n - (us ++ [u]).length) + 1 := by simp; omega
  rw [e, List.replicate_succ, List.set_cons_zero, List.append_assoc]
  rfl
theorem partV_get {n : Nat} {us : List Value} (h : us.length < n) : (partV n us)[us.length]? = some (.slice none 0 0) := by
  unfold partV
  rw [List.getElem?_append_right (Nat.le_refl _), Nat.sub_self, List.getElem?_replicate, if_pos (by omega)]
theorem partV_made (n : Nat) : (madeCells (Value.slice none 0 0).cells (n * 1)).toList = partV n [] := by
  simp only [madeCells, Value.cells, Nat.mul_one, Array.toList_map, Array.toList_range, partV, List.nil_append, List.length_nil, Nat.sub_zero]
  refine List.ext_getElem? fun i => ?_
  by_cases hi : i < n
  · simp [hi, Nat.mod_one]
  · simp [hi]

/-- A row that was made in full, as a block. -/
theorem made_block {w : World} {B g n e : Nat} {xs : List Value} (h : w.ownsRow B e 1 (.slice (some ⟨g, 0, none⟩) n n) n xs) : w.heap[g]? = some (.cells xs.toArray e (0, 0)) := by
  rcases h.2 with ⟨h', _⟩ | ⟨g', cap', cur, h', _, hg, hle, _, hsz, ht⟩
  · simp at h'
  · simp only [Value.slice.injEq, Option.some.injEq, Addr.mk.injEq, and_true, true_and] at h'
    obtain ⟨rfl, rfl⟩ := h'
    rw [hg]
    have : cur.toList = xs := by rw [← ht, List.take_of_length_le (by simp [hsz])]
    rw [← this]

theorem block_own {w : World} {B g e : Nat} {xs : List Value} {n : Nat} (hn : n = xs.length) (h : w.heap[g]? = some (.cells xs.toArray e (0, 0))) (hB : B ≤ g) (hm : n ≤ maxLen) : w.ownsRow B e 1 (.slice (some ⟨g, 0, none⟩) n n) n xs := by
  subst hn
  exact ⟨by simp, .inr ⟨g, xs.length, xs.toArray, rfl, hB, h, Nat.le_refl _, hm, by simp, by simp⟩⟩

theorem splice_all {cur cs : List Value} (h : cs.length = cur.length) : splice cur 0 cs = cs := by
  unfold splice
  simp [h]

theorem setCell_block {w : World} {b o : Nat} {e : TypeId} {xs : List Value} (v : Value) (h : w.heap[b]? = some (.cells xs.toArray e (0, 0))) : (w.setCell ⟨b, o, none⟩ v).heap[b]? = some (.cells (xs.set o v).toArray e (0, 0)) := by
  have := heap_setCell_same w b o xs.toArray e v h
  rw [this]
  simp

/-- A round's new row, and its place in the outer row. -/
theorem copy_step {w wr w4 : World} {m k : Nat} {v : Value} {xs : List Value} (hb : Below w.heap.size w wr) (hsz : w.heap.size + 3 ≤ wr.heap.size) (hg : wr.grownBy w4 none)
    (ho : w4.ownsRow (w.heap.size + 3) 3 1 (.slice (some ⟨wr.heap.size, 0, none⟩) m m) m xs) :
    Below w.heap.size w (w4.setCell ⟨w.heap.size + 1 + 1, k, none⟩ v) ∧ (w4.setCell ⟨w.heap.size + 1 + 1, k, none⟩ v).heap[wr.heap.size]? = some (.cells xs.toArray 3 (0, 0)) := by
  refine ⟨(hb.grown hg (by omega) (by simp)).setCell (by simp; omega) _, ?_⟩
  rw [heap_setCell_other w4 ⟨w.heap.size + 1 + 1, k, none⟩ wr.heap.size v (by simp; omega)]
  exact made_block ho

theorem copy_pos {w : World} {a : Option Addr} {xs : List Int} {g : Nat} (h : SlV w a (ints xs)) : 0 < (ints xs).length → some (⟨g, 0, none⟩ : Addr) = some ⟨g, 0, none⟩ ∧ ∃ ad, a = some ad ∧ ∀ j v, (ints xs)[j]? = some v → w.cell? (ad.add j) = some v := by
  intro hp
  refine ⟨rfl, ?_⟩
  cases a with
  | none =>
    obtain ⟨u, hu⟩ : ∃ u, (ints xs)[0]? = some u := ⟨(ints xs)[0], by simp⟩
    obtain ⟨b, off, h1, -⟩ := h 0 u hu
    cases h1
  | some ad => exact ⟨ad, rfl, h.cells⟩

theorem own_of_blocks {w w' : World} {B e s n : Nat} {v : Value} {xs : List Value} (h : w.ownsRow B e s v n xs) (hk : ∀ b, B ≤ b → b < w.heap.size → w'.heap[b]? = w.heap[b]?) : w'.ownsRow B e s v n xs := by
  refine ⟨h.1, ?_⟩
  rcases h.2 with h0 | ⟨g, cap, cur, e1, e2, e3, e4⟩
  · exact .inl h0
  · exact .inr ⟨g, cap, cur, e1, e2, by rw [hk g e2 (Array.getElem?_eq_some_iff.1 e3).1]; exact e3, e4⟩

set_option maxHeartbeats 4000000 in
theorem cnf_Copy (n : Int) (a : Option Addr) (f : List (List Int)) (m c : Nat) (w : World) (hm : m = f.length) (hf : FOk f) (hr : Rws w a f) (hl : f.length ≤ 65536) (hc : ∀ c ∈ f, c.length ≤ 65536) :
    Calls Try.prog 43 #[.agg #[.int .i64 n, .slice a m c]] w fun e w' =>
      e = .returned (.agg #[.int .i64 n, .slice (some ⟨w.heap.size + 1 + 1, 0, none⟩) f.length f.length]) ∧ OwnRw w' w.heap.size (.slice (some ⟨w.heap.size + 1 + 1, 0, none⟩) f.length f.length) f ∧ Below w.heap.size w w' := by
  subst hm
  obtain ⟨i0, hi, hz0, hz1, hz2⟩ := info_parts info_int
  obtain ⟨i1, hj, hy0, hy1, hy2⟩ := info_parts info_ints
  have HF := hid hf
  have HC := hid hc
  have hb2 : Below w.heap.size w ((w.alloc (fbox n a f.length c)).alloc (.cells #[.int .i64 0, .slice none 0 0] 24)) := below_al (box_below _ _) (by simp only [size_al]; omega) _
  have HB2 := hid hb2
  have HR := hid hr
  have hb1s : (Try.prog.info? 3).map (·.size) = some 1 := by rw [hi]; simp [hz1]
  clear hf hr hc hb2
  go_enter Try.func43, Try.ntmps43
  go_wp2_with (at_make; refine wpList_make_full _ rfl _ _ 22 rfl (w.heap.size + 2) 40 i1 (.slice none 0 0) 1 Try.underlying22 hj hy0 hy1 _ _ _ _ f.length rfl rfl rfl rfl (by rw [hy2]; omega) (by unfold maxLen; omega) (by simp only [size_al]; omega) ?_; intro w3 hown3 hgrow3; have hB0 : w3.heap[w.heap.size]? = some (.cells #[.int .i64 n, .slice a f.length c] 24) := (hgrow3.block _ (by simp only [size_al]; omega) (by simp)).trans (blk_1 _ _ _); have HB0 := hid hB0; have hq1 : w3.cell? ⟨w.heap.size, 1, none⟩ = some (.slice a f.length c) := fit_cell (vs := [.int .i64 n, .slice a f.length c]) hB0 1; have HO3 := hid hown3; have HG3 := hid hgrow3; clear hown3 hgrow3 hB0)
  have hB1 : w3.heap[w.heap.size + 1]? = some (.cells #[.int .i64 0, .slice none 0 0] 24) := (HG3.out.block _ (by simp only [size_al]; omega) (by simp)).trans (blk_2 _ _ _)
  have HB1 := hid hB1
  have hO : w3.ownsRow (w.heap.size + 2) 40 1 (.slice (some ⟨w.heap.size + 1 + 1, 0, none⟩) f.length f.length) f.length (madeCells (Value.slice none 0 0).cells (f.length * 1)).toList := by
    have := HO3.out
    simpa only [size_al] using this
  rw [partV_made] at hO
  have HM := hid (made_block hO)
  have hzz : w.heap.size + 1 + 1 < w3.heap.size := (hO.lt _ rfl).2
  have HBW : Hid (Below w.heap.size w w3) := HB2.out.grown HG3.out (by simp only [size_al]; omega) (by simp)
  clear hO HO3 HG3 hB1 hq1
  go_loopw [13] (fun i wr => ∃ (k : Nat) (us : List Value), k ≤ f.length ∧ us.length = k ∧ i = .int .i64 k ∧ Hid (wr.heap[w.heap.size]? = some (.cells #[.int .i64 n, .slice a f.length c] 24)) ∧ Hid (wr.heap[w.heap.size + 1]? = some (.cells #[.int .i64 0, .slice none 0 0] 24)) ∧
      Hid (wr.heap[w.heap.size + 1 + 1]? = some (.cells (partV f.length us).toArray 40 (0, 0))) ∧ Hid (∀ (j : Nat) (c : List Int), j < k → f[j]? = some c → ∃ u, us[j]? = some u ∧ wr.ownsRow (w.heap.size + 3) 3 1 u c.length (ints c)) ∧ Below w.heap.size w wr ∧ w.heap.size + 3 ≤ wr.heap.size) (fun i _ => f.length - (intOf i).toNat)
  case atStart => exact ⟨0, [], Nat.zero_le _, rfl, rfl, HB0.out, HB1.out, HM.out, fun j c h => by omega, HBW.out, by omega⟩
  case round =>
    obtain ⟨k, us, hk, hus, rfl, hB0, hB1, hB2, hin, hb, hsz⟩ := hrel
    by_cases hlt : k < f.length
    · obtain ⟨b, off, cl, a1, cc1, rfl, hcell0, hsl, hcl, -, -, -, -⟩ := HR.out.row HF.out hlt
      have hcell := below_keeps hb _ _ hcell0
      have HS := hid hsl
      have HCL := hid hcl
      have hcl2 : cl.length ≤ 65536 := HC.out cl (List.mem_of_getElem? hcl)
      have HUS := hid hus
      clear hsl hcl hus hcell0
      go_wp2_with (first
        | (at_make; refine wpList_make_full _ rfl _ _ 40 rfl (w.heap.size + 3) 3 i0 (.int .i64 0) 1 Try.underlying40 hi hz0 hz1 _ _ _ _ cl.length rfl rfl rfl rfl (by rw [hz2]; omega) (by unfold maxLen; omega) hsz ?_; intro w4 hown4 hgrow4; have hB24 : w4.heap[w.heap.size + 1 + 1]? = some (.cells (partV f.length us).toArray 40 (0, 0)) := (hgrow4.block _ (by omega) (by simp)).trans hB2.out; have HB24 := hid hB24; have hp : w4.cell? ⟨w.heap.size + 1 + 1, k, none⟩ = some (.slice none 0 0) := (by rw [fit_cell hB24, ← HUS.out]; exact partV_get (by have := HUS.out; omega)); have hfz : w4.frozen? ⟨w.heap.size + 1 + 1, k, none⟩ = false := frozen_of_row _ _ _ _ _ hB24; have hm4 := copy_step (k := k) (v := .slice (some ⟨wr.heap.size, 0, none⟩) cl.length cl.length) hb hsz hgrow4 hown4; obtain ⟨hbs, hblk⟩ := hm4; have HBS := hid hbs; have HBLK := hid hblk; have HG4 := hid hgrow4; clear hown4 hgrow4 hB24 hbs hblk)
        | (with_reducible refine wpList_copy_splice rfl (.tmp 27) (.tmp 28) 40 40 rfl 3 Try.underlying40 hb1s _ _ _ _ _ _ rfl rfl wr.heap.size 0 (madeCells (Value.int .i64 0).cells (cl.length * 1)).toList 3 HBLK.out (ints cl) (by simp) (copy_pos (HS.out.below HBS.out)) (by simp [madeCells]) ints_one wr.heap.size _ (Below.refl _ _) (Nat.le_refl _) ?_; intro w5 h5 hb5; rw [splice_all (by simp [madeCells])] at h5; have HB5 := hid hb5; clear hb5))
      have hz5 : w4.heap.size ≤ w5.heap.size := by have := HB5.out.size; simpa [World.setCell] using this
      have hz4 := HG4.out.size
      have hown5 : w5.ownsRow (w.heap.size + 3) 3 1 (.slice (some ⟨wr.heap.size, 0, none⟩) cl.length cl.length) cl.length (ints cl) := block_own (by simp) h5.out hsz (by unfold maxLen; omega)
      have hblks : ∀ b', b' < wr.heap.size → b' ≠ w.heap.size + 1 + 1 → w5.heap[b']? = wr.heap[b']? := fun b' h1 h2 =>
        (HB5.out.block _ h1).trans ((heap_setCell_other w4 ⟨w.heap.size + 1 + 1, k, none⟩ b' _ h2).trans (HG4.out.block _ h1 (by simp)))
      have hin5 : ∀ (j : Nat) (c : List Int), j < k + 1 → f[j]? = some c → ∃ u, (us ++ [Value.slice (some ⟨wr.heap.size, 0, none⟩) cl.length cl.length])[j]? = some u ∧ w5.ownsRow (w.heap.size + 3) 3 1 u c.length (ints c) := fun j c hjk hjc => by
        rcases Nat.lt_or_ge j k with hj' | hj'
        · obtain ⟨u, e1, e2⟩ := hin.out j c hj' hjc
          exact ⟨u, by rw [List.getElem?_append_left (by have := HUS.out; omega)]; exact e1, own_of_blocks e2 fun b' h1 h2 => hblks b' h2 (by omega)⟩
        · have hjk' : j = k := by omega
          subst hjk'
          rw [HCL.out] at hjc
          injection hjc with hjc
          subst hjc
          exact ⟨_, by rw [List.getElem?_append_right (by have := HUS.out; omega), HUS.out, Nat.sub_self]; rfl, hown5⟩
      have hB25 : w5.heap[w.heap.size + 1 + 1]? = some (.cells (partV f.length (us ++ [Value.slice (some ⟨wr.heap.size, 0, none⟩) cl.length cl.length])).toArray 40 (0, 0)) := by
        rw [HB5.out.block _ (by omega), ← partV_set (by have := HUS.out; omega), HUS.out]
        exact setCell_block _ HB24.out
      have HIN5 := hid hin5
      have HB25 := hid hB25
      have HBL := hid hblks
      clear hin5 hB25 hblks hown5 hp
      go_roundw
      case rel => exact ⟨k + 1, _, by omega, by rw [List.length_append, HUS.out]; rfl, by go_num, (HBL.out _ (by omega) (by omega)).trans hB0.out, (HBL.out _ (by omega) (by omega)).trans hB1.out, HB25.out, HIN5.out, HBS.out.trans (HB5.out.mono (by omega)), by omega⟩
      case measure => simp [intOf]; omega
    · have hkl : k = f.length := by omega
      have hrow3 : ∀ (j : Nat) (c : List Int), f[j]? = some c → ∃ u, us[j]? = some u ∧ wr.ownsRow (w.heap.size + 3) 3 1 u c.length (ints c) := fun j c hjc => hin.out j c (by have := (List.getElem?_eq_some_iff.1 hjc).1; omega) hjc
      have hout3 : wr.ownsRow (w.heap.size + 1 + 1) 40 1 (.slice (some ⟨w.heap.size + 1 + 1, 0, none⟩) f.length f.length) f.length us := by
        have h2 := hB2.out
        have e : partV f.length us = us := by unfold partV; rw [hus, hkl, Nat.sub_self]; simp
        rw [e] at h2
        exact block_own (by omega) h2 (by omega) (by unfold maxLen; omega)
      have hq0 : wr.cell? ⟨w.heap.size, 0, none⟩ = some (.int .i64 n) := fit_cell (vs := [.int .i64 n, .slice a f.length c]) hB0.out 0
      have hq1 : wr.cell? ⟨w.heap.size, 1, none⟩ = some (.slice a f.length c) := fit_cell (vs := [.int .i64 n, .slice a f.length c]) hB0.out 1
      have hp0 : wr.cell? ⟨w.heap.size + 1, 0, none⟩ = some (.int .i64 0) := fit_cell (vs := [.int .i64 0, .slice none 0 0]) hB1.out 0
      have hp1 : wr.cell? ⟨w.heap.size + 1, 1, none⟩ = some (.slice none 0 0) := fit_cell (vs := [.int .i64 0, .slice none 0 0]) hB1.out 1
      have hf0 : wr.frozen? ⟨w.heap.size, 1, none⟩ = false := frozen_of_row _ _ _ _ _ hB0.out
      have hf1 : wr.frozen? ⟨w.heap.size + 1, 0, none⟩ = false := frozen_of_row _ _ _ _ _ hB1.out
      have hf2 : wr.frozen? ⟨w.heap.size + 1, 1, none⟩ = false := frozen_of_row _ _ _ _ _ hB1.out
      have HOUT : Hid (OwnRw wr (w.heap.size + 1 + 1) (.slice (some ⟨w.heap.size + 1 + 1, 0, none⟩) f.length f.length) f) := ⟨us, hout3, fun j c hjc => let ⟨u, e1, e2⟩ := hrow3 j c hjc; ⟨u, e1, own_base e2 (by omega)⟩⟩
      clear hrow3 hout3 hus hkl hB0 hB1 hB2 hin
      go_wp2_with fail
      refine bodyPost_ret (v := .agg #[.int .i64 n, .slice (some ⟨w.heap.size + 1 + 1, 0, none⟩) f.length f.length]) (by simp [results, Try.results43, go_sem, hp0, hp1]) rfl ⟨rfl, ?_, ?_⟩
      · exact (((HOUT.out.setBelow (by simp; omega) _).setBelow (by simp) _).setBelow (by simp) _).base (by omega)
      · exact ((hb.setCell (by simp) _).setCell (by simp) _).setCell (by simp) _

end Go.Proofs.Ytaekcejenagbgaa
