/- Plain facts about solve's back, and its heap's part of the memory. -/
import Derived.Test.YtfofabbnbmieoaaQ5
import Derived.Test.YtfofabbnbmieoaaQ3
import Derived.Test.YtfofabbnbmieoaaQ0
import Derived.Test.YtfofabbnbmieoaaQ2
import Derived.Test.YtfofabbnbmieoaaQ4
import Derived.Test.YtfofabbnbmieoaaQSolH

namespace Go.Proofs.Ytfofabbnbmieoaa.Ord
open Go.RowKit Go.Conc

theorem Heap.wide {w : World} {b : Nat} {S S' : Nat → Prop} {A : List Int} {In : List Bool} (h : Heap w b S A In) (hs : ∀ k, k < w.heap.size → S k → S' k) : Heap w b S' A In := by
  obtain ⟨va, vi, vp, I, P, h1, h2, h3, h4, h5, h6, h7, h8⟩ := h
  exact ⟨va, vi, vp, I, P, h1, h2, h3, h4, h5, h6, fun k e => hs k (foot_lt h1 e) (h7 k e), h8⟩

section
variable {tag : Nat → KT} {B : Nat} {w0 w w' : World} {a : SA} {v : SV} {d : SD}

/-- The heap changes. -/
theorem SM.heapUp (h : SM tag B w0 w a v d) {S' : Nat → Prop} {A' : List Int} {In' : List Bool} (hH : Heap w' a.bh S' A' In') (hT : Touch (fun k => tag k = .hep) w w') (hS : ∀ k, S' k → tag k = .hep ∨ w.heap.size ≤ k) (hl : In'.length = d.In.length) :
    SM (tgN tag w .hep) B w0 w' a v { d with A := A', In := In' } ∧ SR tag (tgN tag w .hep) w w' := by
  refine ⟨h.upd (fun s => s = .hep) nofun hT (fun g hg => tgN_old hg) (fun k hk _ => Nat.le_trans h.le hk) (fun s hs hc => by cases s <;> first | exact hc | exact absurd rfl hs) ?_, hT.mono fun k _ e => by rw [e]; nofun, fun g hg e => (tgN_old hg).trans e⟩
  rintro s rfl
  refine ⟨hH.wide fun k _ hk => ?_, by rw [hl]; exact (h.co .hep).2⟩
  by_cases q : k < w.heap.size
  · rw [tgN_old q]
    rcases hS k hk with e | e
    · exact e
    · omega
  · exact tgN_new (by omega)

theorem SM.push (h : SM tag B w0 w a v d) {v0 : Int} : Calls Try.prog 72 #[.pointer (some ⟨a.bh, 0, none⟩), .int .i64 v0] w fun x w' => x = .returned (.int .i64 (pushE d.In.length v0)) ∧ SM (tgN tag w .hep) B w0 w' a v { d with In := pushIn d.In v0 } ∧ SR tag (tgN tag w .hep) w w' :=
  (heap_Push a.bh _ d.A d.In v0 _ w rfl (h.co .hep).1).mono fun x w' ⟨h1, S', h2, h3, h4⟩ => by
    have hl : (pushIn d.In v0).length = d.In.length := by unfold pushIn; split <;> simp
    exact ⟨h1, h.heapUp h2 h3 (fun k hk => (h4 k hk).imp id fun q => q.1) hl⟩

end

/-- While decisions are taken back: j of them are. -/
structure UD (n : Nat) (d : SD) (b : Nat) (j : Nat) (d' : SD) : Prop where
  same : ∃ va ph In, d' = { d with va := va, ph := ph, In := In }
  va : ∀ x, LitOk n x → hvL d'.va x = if x ∈ d.K.take b ++ d.K.drop (b + j) then 1 else if -x ∈ d.K.take b ++ d.K.drop (b + j) then -1 else 0
  vr : ∀ y ∈ d'.va, -1 ≤ y ∧ y ≤ 1
  hp : ∀ x, LitOk n x → x ∉ d.K.take b ++ d.K.drop (b + j) → -x ∉ d.K.take b ++ d.K.drop (b + j) → d'.In[(vrL x).toNat - 1]? = some true
  il : d'.In.length = d.In.length
  vl : d'.va.length = d.va.length

section
variable {n : Nat} {d d' : SD} {Rz : List Int} {bs : List Nat} {b j : Nat}

theorem LK.ud (h : LK n d Rz bs) (b : Nat) : UD n d b 0 d := by
  refine ⟨⟨_, _, _, rfl⟩, ?_, h.vr, ?_, rfl, rfl⟩
  · rw [Nat.add_zero, List.take_append_drop]; exact h.va
  · rw [Nat.add_zero, List.take_append_drop]; exact h.hp

theorem UD.step (h : UD n d b j d') (hnd : d.K.Nodup) (hc : ∀ y ∈ d.K, -y ∉ d.K) (hk : ∀ y ∈ d.K, LitOk n y) {x : Int} (hx : d.K[b + j]? = some x) (hva : d.va.length = n + 1) (hin : d.In.length = n) (y : Int) :
    UD n d b (j + 1) { d' with ph := d'.ph.set (vrL x).toNat y, va := d'.va.set (vrL x).toNat 0, In := pushIn d'.In (vrL x) } := by
  have hxm := List.mem_of_getElem? hx
  have hxo := hk x hxm
  have hv := vrL_range hxo
  obtain ⟨hl, he⟩ := List.getElem?_eq_some_iff.1 hx
  have e1 : d.K.drop (b + j) = x :: d.K.drop (b + (j + 1)) := by rw [List.drop_eq_getElem_cons hl, he]; rfl
  have hnx : x ∉ d.K.take b ++ d.K.drop (b + (j + 1)) ∧ -x ∉ d.K.take b ++ d.K.drop (b + (j + 1)) := by
    have hsub : ∀ z, z ∈ d.K.take b ++ d.K.drop (b + (j + 1)) → z ∈ d.K := fun z hz => by
      rcases List.mem_append.1 hz with q | q
      · exact List.mem_of_mem_take q
      · exact List.mem_of_mem_drop q
    refine ⟨fun m => ?_, fun m => hc x hxm (hsub _ m)⟩
    rcases List.mem_append.1 m with q | q
    · obtain ⟨t, ht⟩ := List.mem_iff_getElem?.1 q
      have htl := (List.getElem?_eq_some_iff.1 ht).1
      rw [List.length_take] at htl
      rw [List.getElem?_take_of_lt (by omega)] at ht
      have := nodup_get hnd ht hx
      omega
    · obtain ⟨t, ht⟩ := List.mem_iff_getElem?.1 q
      rw [List.getElem?_drop] at ht
      have := nodup_get hnd ht hx
      omega
  have hmem : ∀ z, z ∈ d.K.take b ++ d.K.drop (b + j) ↔ z = x ∨ z ∈ d.K.take b ++ d.K.drop (b + (j + 1)) := fun z => by
    rw [e1]
    simp only [List.mem_append, List.mem_cons]
    constructor
    · rintro (q | q | q)
      · exact .inr (.inl q)
      · exact .inl q
      · exact .inr (.inr q)
    · rintro (q | q | q)
      · exact .inr (.inl q)
      · exact .inl q
      · exact .inr (.inr q)
  have hpI : pushIn d'.In (vrL x) = d'.In.set ((vrL x) - 1).toNat true := by
    unfold pushIn
    rw [if_pos ⟨hv.1, by rw [h.il, hin]; exact hv.2⟩]
  obtain ⟨va, ph, In, e⟩ := h.same
  refine ⟨⟨_, _, _, by rw [e]⟩, fun z hz => ?_, fun z hz => ?_, fun z hz h1 h2 => ?_, ?_, by simpa using h.vl⟩
  · show hvL (d'.va.set (vrL x).toNat 0) z = _
    rw [hvL_set (by rw [h.vl]; omega) hxo.1 hz.1]
    by_cases q : z = x
    · rw [if_pos q, q, if_neg hnx.1, if_neg hnx.2]
      split <;> rfl
    · rw [if_neg q]
      by_cases q2 : z = -x
      · rw [if_pos q2, q2, if_neg hnx.2, if_neg (c := - -x ∈ _) (by rw [Int.neg_neg]; exact hnx.1)]
        split <;> rfl
      · rw [if_neg q2, h.va z hz]
        have a1 : z ∈ d.K.take b ++ d.K.drop (b + j) ↔ z ∈ d.K.take b ++ d.K.drop (b + (j + 1)) := (hmem z).trans ⟨fun m => m.elim (fun e => absurd e q) id, .inr⟩
        have a2 : -z ∈ d.K.take b ++ d.K.drop (b + j) ↔ -z ∈ d.K.take b ++ d.K.drop (b + (j + 1)) := (hmem (-z)).trans ⟨fun m => m.elim (fun e => absurd (by omega) q2) id, .inr⟩
        simp only [a1, a2]
  · have hz : z ∈ d'.va.set (vrL x).toNat 0 := hz
    rcases List.mem_or_eq_of_mem_set hz with q | q
    · exact h.vr z q
    · rw [q]; omega
  · show (pushIn d'.In (vrL x))[(vrL z).toNat - 1]? = some true
    rw [hpI]
    by_cases q : (vrL z).toNat = (vrL x).toNat
    · have hv2 := vrL_range hz
      rw [q, show (vrL x).toNat - 1 = (vrL x - 1).toNat by omega, List.getElem?_set_self (by rw [h.il, hin]; omega)]
    · have hv2 := vrL_range hz
      rw [List.getElem?_set_ne (by omega)]
      refine h.hp z hz (fun m => ?_) fun m => ?_
      · rcases (hmem z).1 m with e | e
        · exact q (by rw [e])
        · exact h1 e
      · rcases (hmem (-z)).1 m with e | e
        · exact q (by rw [← e, vrL_neg])
        · exact h2 e
  · show (pushIn d'.In (vrL x)).length = _
    rw [hpI, List.length_set, h.il]

/-- What back leaves. -/
theorem UD.done {l : Nat} (h : UD n d b j d') (hj : d.K.length ≤ b + j) (hk : LK n d Rz bs) (hi : bs.Pairwise (· < ·)) (hl : bs[l]? = some b) (hb : b ≤ d.K.length) : LK n { d' with K := d.K.take b, dn := b, ls := d.ls.take l } (Rz.take b) (bs.take l) := by
  have hva := h.va
  have hhp := h.hp
  rw [List.drop_eq_nil_of_le hj, List.append_nil] at hva hhp
  obtain ⟨va, ph, In, e⟩ := h.same
  have e1 : d'.lv = d.lv := by rw [e]
  have e2 : d'.re = d.re := by rw [e]
  have e3 : d'.se = d.se := by rw [e]
  refine ⟨hva, h.vr, ?_, fun i x hi' => ?_, fun i x r hi' hr => ?_, hhp, by show ∀ y ∈ d'.se, y = false; rw [e3]; exact hk.se⟩
  · show d.ls.take l = _
    rw [hk.ls, List.map_take]
  · have hi' : (d.K.take b)[i]? = some x := hi'
    have hil := (List.getElem?_eq_some_iff.1 hi').1
    rw [List.length_take] at hil
    rw [List.getElem?_take_of_lt (by omega)] at hi'
    show d'.lv[_]? = _
    rw [e1, lvl_take hi hl (by omega)]
    exact hk.lv i x hi'
  · have hi' : (d.K.take b)[i]? = some x := hi'
    have hil := (List.getElem?_eq_some_iff.1 hi').1
    rw [List.length_take] at hil
    rw [List.getElem?_take_of_lt (by omega)] at hi' hr
    show d'.re[_]? = _
    rw [e2]
    exact hk.re i x r hi' hr

end

end Go.Proofs.Ytfofabbnbmieoaa.Ord

/- solve's learn: the rows that it makes and the marks that it sets. -/
namespace Go.Proofs.Ytfofabbnbmieoaa.Ord
open Go.RowKit Go.Conc

section
variable {tag tag' tag0 : Nat → KT} {B b0 : Nat} {w0 w wr w' : World} {a : SA} {v : SV} {d : SD}

theorem SM.seec (h : SM tag B w0 w a v d) {i : Nat} (hi : i < a.n1) : w.cell? ⟨a.bs, i, none⟩ = some (.bool ((d.se[i]?).getD false)) := by
  rw [fit_cell (h.co .see).1.1 i]
  have hl := (h.co .see).2
  unfold bools
  rw [List.getElem?_map, List.getElem?_eq_getElem (by omega)]
  rfl

/-- Blocks of others change. -/
theorem SM.other (h : SM tag B w0 w a v d) (hT : Touch (fun k => tag k = .oth ∧ B ≤ k) w w') (ht : ∀ g, g < w.heap.size → tag' g = tag g) (hB : ∀ k, w.heap.size ≤ k → tag' k ≠ .oth → B ≤ k) : SM tag' B w0 w' a v d := by
  refine ⟨h.bel.trans (hT.below h.le fun k hk => hk.2), Nat.le_trans h.le hT.size, fun k hk => ?_, fun t => ?_⟩
  · by_cases q : k < w.heap.size
    · exact h.tB k (by rw [← ht k q]; exact hk)
    · exact hB k (by omega) hk
  · by_cases q : t = .oth
    · subst q; trivial
    · exact (h.co t).keep fun k hk e => ⟨hT.block k hk (by rw [e]; exact fun q' => q q'.1), ht k hk⟩

theorem SM.bumpC (h : SM tag B w0 w a v d) {v0 by' : Int} : Calls Try.prog 71 #[.pointer (some ⟨a.bh, 0, none⟩), .int .i64 v0, .int .i64 by'] w fun x w' => ∃ e A', x = .returned (.int .i64 e) ∧ SM (tgN tag w .hep) B w0 w' a v { d with A := A' } ∧ SR tag (tgN tag w .hep) w w' :=
  (heap_Bump a.bh _ d.A d.In v0 by' _ w rfl (h.co .hep).1).mono fun x w' ⟨h1, h2, h3⟩ => by
    exact ⟨_, _, h1, h.heapUp h2 h3 (fun k hk => .inl hk) rfl⟩

/-- A row of the call's own, of none of the state's kinds. -/
def OutR (tag : Nat → KT) (b0 : Nat) (w : World) (u : Value) (xs : List Int) : Prop := w.ownsRow b0 3 1 u xs.length (ints xs) ∧ ∀ g, u.ownBlock = some g → tag g = .oth

theorem OutR.keep {u : Value} {xs : List Int} (h : OutR tag b0 w u xs) (hT : SR tag tag' w w') : OutR tag' b0 w' u xs :=
  ⟨own_frame0 h.1 fun g hg => hT.1.block g (h.1.lt g hg).2 (by rw [h.2 g hg]; exact fun e => e rfl), fun g hg => hT.2 g (h.1.lt g hg).2 (h.2 g hg)⟩

set_option maxRecDepth 10000 in
/-- A number more. -/
theorem OutR.push {u : Value} {xs : List Int} (hO : OutR tag w.heap.size wr u xs) (h : SM tag B w0 wr a v d) (hS : SR tag0 tag w wr) (hB : B ≤ w.heap.size) (hl : xs.length ≤ 4194304) (x : Int) :
    ∃ a' c' w6, (appM #[22, 22] 22 #[u, .slice (some ⟨wr.heap.size, 0, none⟩) 1 1]).run Try.prog (wr.alloc (.cells #[.int .i64 x] 3 (0, 0))) = .ok (.slice a' (xs.length + 1) c') w6 ∧ SM (tgN tag wr .oth) B w0 w6 a v d ∧ SR tag0 (tgN tag wr .oth) w w6 ∧ OutR (tgN tag wr .oth) w.heap.size w6 (.slice a' (xs.length + 1) c') (xs ++ [x]) := by
  obtain ⟨i0, hi0, hz0, hz1, hz2⟩ := info_parts info_int
  have hsz := hS.1.size
  have hbox := box_below wr (.cells #[.int .i64 x] 3 (0, 0))
  obtain ⟨a', c', w6, hr, ho, hg, ha⟩ := appM_one (P := Try.prog) (wr.alloc (.cells #[.int .i64 x] 3 (0, 0))) w.heap.size 22 22 3 i0 (.int .i64 0) 8 Try.underlying22 hi0 hz0 hz1 hz2 rfl u xs.length (ints xs) (hO.1.alloc _) wr.heap.size (.int .i64 x) (heap_alloc_new _ _) rfl (by unfold maxLen; omega) (by omega) (by simp only [size_al]; omega)
  have hT : Touch (fun k => tag k = .oth ∧ B ≤ k ∧ w.heap.size ≤ k) wr w6 := by
    have h1 : Touch (fun k => tag k = .oth ∧ B ≤ k ∧ w.heap.size ≤ k) wr (wr.alloc (.cells #[.int .i64 x] 3 (0, 0))) := ⟨hbox.os, hbox.tape, hbox.output, hbox.size, fun k hk _ => hbox.block k hk⟩
    refine h1.grown hg fun k hk => .inl ⟨hO.2 k hk, ?_, ?_⟩
    · have := (hO.1.lt k hk).1; omega
    · exact (hO.1.lt k hk).1
  have hold : ∀ g, g < wr.heap.size → tgN tag wr .oth g = tag g := fun g hg => tgN_old hg
  refine ⟨a', c', w6, hr, h.other (hT.mono fun k _ e => ⟨e.1, e.2.1⟩) hold (fun k hk hn => absurd (tgN_new hk) hn), ⟨hS.1.trans' hT fun i hi e => absurd e.2.2 (by omega), fun g hg e => (hold g (by omega)).trans (hS.2 g hg e)⟩, ?_, fun g hg => ?_⟩
  · have e1 : (xs ++ [x]).length = xs.length + 1 := by simp
    rw [e1, ints_append]
    exact ho
  · by_cases q : g < wr.heap.size
    · rw [hold g q]
      rcases ha with e | e
      · exact hO.2 g (e ▸ hg)
      · have e2 := hg.symm.trans e
        injection e2 with e2
        exact absurd q (by rw [e2]; exact Nat.not_lt.2 hbox.size)
    · exact tgN_new (Nat.le_of_not_lt q)

set_option maxRecDepth 10000 in
theorem OutR.shape {u : Value} {xs : List Int} (h : OutR tag b0 w u xs) (hne : 0 < xs.length) : ∃ g c cur, u = .slice (some ⟨g, 0, none⟩) xs.length c ∧ xs.length ≤ c ∧ b0 ≤ g ∧ tag g = .oth ∧ w.heap[g]? = some (.cells cur 3 (0, 0)) ∧ (∀ (j : Nat) (x : Int), xs[j]? = some x → cur[j]? = some (.int .i64 x)) := by
  rcases h.1.2 with ⟨-, e⟩ | ⟨g, cap, cur, e, h1, h2, h3, h4, h5, h6⟩
  · omega
  · refine ⟨g, cap, cur, e, h3, h1, h.2 g (by rw [e]; rfl), h2, fun j x hj => ?_⟩
    have hjl := (List.getElem?_eq_some_iff.1 hj).1
    have h7 : (ints xs)[j]? = some (.int .i64 x) := by unfold ints; rw [List.getElem?_map, hj]; rfl
    rw [← h6, Nat.mul_one, List.getElem?_take_of_lt hjl, Array.getElem?_toList] at h7
    exact h7

theorem OutR.cell {g n c : Nat} {xs : List Int} (h : OutR tag b0 w (.slice (some ⟨g, 0, none⟩) n c) xs) {j : Nat} {x : Int} (hj : xs[j]? = some x) : w.cell? ⟨g, j, none⟩ = some (.int .i64 x) := by
  have hjl := (List.getElem?_eq_some_iff.1 hj).1
  obtain ⟨g', c', cur, e, -, -, -, h2, h3⟩ := h.shape (by omega)
  injection e with e
  injection e with e
  injection e with e
  subst e
  rw [cell_of_row _ _ _ _ _ _ h2]
  exact h3 j x hj

theorem OutR.free {g n c : Nat} {xs : List Int} (h : OutR tag b0 w (.slice (some ⟨g, 0, none⟩) n c) xs) (hne : 0 < xs.length) (j : Nat) : w.frozen? ⟨g, j, none⟩ = false := by
  obtain ⟨g', c', cur, e, -, -, -, h2, -⟩ := h.shape hne
  injection e with e
  injection e with e
  injection e with e
  subst e
  exact frozen_of_row _ _ _ _ _ h2

/-- A number is written. -/
theorem OutR.set {g n c : Nat} {xs : List Int} (hO : OutR tag w.heap.size wr (.slice (some ⟨g, 0, none⟩) n c) xs) (h : SM tag B w0 wr a v d) (hS : SR tag0 tag w wr) (hB : B ≤ w.heap.size) {j : Nat} (_hj : j < xs.length) (x : Int) :
    OutR tag w.heap.size (wr.setCell ⟨g, j, none⟩ (.int .i64 x)) (.slice (some ⟨g, 0, none⟩) n c) (xs.set j x) ∧ SM tag B w0 (wr.setCell ⟨g, j, none⟩ (.int .i64 x)) a v d ∧ SR tag0 tag w (wr.setCell ⟨g, j, none⟩ (.int .i64 x)) := by
  have hgt : tag g = .oth := hO.2 g rfl
  have hgb := (hO.1.lt g rfl).1
  have hT : Touch (fun k => k = g) wr (wr.setCell ⟨g, j, none⟩ (.int .i64 x)) := Touch.setCell (S := fun k => k = g) (p := ⟨g, j, none⟩) (Touch.refl _ wr) rfl _
  refine ⟨⟨?_, hO.2⟩, h.other (hT.mono fun k _ e => ⟨by rw [e]; exact hgt, by rw [e]; omega⟩) (fun _ _ => rfl) (fun k _ hk => h.tB k hk), hS.1.trans' hT fun i hi e => (by omega), fun g' hg' e => hS.2 g' hg' e⟩
  obtain ⟨q1, q2⟩ := hO.1
  rcases q2 with ⟨e, -⟩ | ⟨g', cap, cur, e, h1, h2, h3, h4, h5, h6⟩
  · cases e
  · injection e with e1 e2 e3
    injection e1 with e1
    injection e1 with e1
    subst e1 e3
    refine ⟨by simp [ints], .inr ⟨g, c, _, by rw [e2, List.length_set], h1, heap_setCell_same wr g j cur 3 (.int .i64 x) h2, by rw [List.length_set]; exact h3, h4, by simpa using h5, ?_⟩⟩
    rw [List.length_set, Nat.mul_one]
    rw [Nat.mul_one] at h6
    have e4 : ints (xs.set j x) = (ints xs).set j (.int .i64 x) := by unfold ints; rw [List.map_set]
    rw [e4, ← h6, Array.toList_setIfInBounds, List.take_set]

end

end Go.Proofs.Ytfofabbnbmieoaa.Ord

/- The clauses of a formula as Units keeps them; its assumptions. Plain. -/
namespace Go.Proofs.Ytfofabbnbmieoaa.Ord

/-- The clauses that Units keeps. -/
def normN (F : List (List Int)) : List (List Int) := (F.filter fun c => !adjB (normL c)).map normL

theorem normN_skip {F : List (List Int)} {k : Nat} {c : List Int} (h : F[k]? = some c) (ht : adjB (normL c) = true) : normN (F.take (k + 1)) = normN (F.take k) := by
  rw [List.take_add_one, h]; simp [normN, ht]
theorem normN_keep {F : List (List Int)} {k : Nat} {c : List Int} (h : F[k]? = some c) (ht : adjB (normL c) = false) : normN (F.take (k + 1)) = normN (F.take k) ++ [normL c] := by
  rw [List.take_add_one, h]; simp [normN, ht]

theorem normN_length (F : List (List Int)) : (normN F).length ≤ F.length := by
  unfold normN
  rw [List.length_map]
  exact List.length_filter_le _ _

theorem asc_nodup {l : List Int} (h : Asc l) : l.Nodup := h.imp fun {a c} hac => fun e => by rw [e, lessB_irrefl] at hac; cases hac

theorem normN_mem {F : List (List Int)} {c : List Int} : c ∈ normN F ↔ ∃ d ∈ F, adjB (normL d) = false ∧ normL d = c := by
  simp only [normN, List.mem_map, List.mem_filter, Bool.not_eq_true']
  exact ⟨fun ⟨d, ⟨h1, h2⟩, h3⟩ => ⟨d, h1, h2, h3⟩, fun ⟨d, h1, h2, h3⟩ => ⟨d, ⟨h1, h2⟩, h3⟩⟩

theorem normN_nodup (F : List (List Int)) : ∀ c ∈ normN F, c.Nodup := fun c hc => by
  obtain ⟨d, -, -, rfl⟩ := normN_mem.1 hc
  exact asc_nodup (asc_normL d)

theorem normN_ok {n : Nat} {F : List (List Int)} (h : ClsOk n F) : ClsOk n (normN F) := fun c hc a ha => by
  obtain ⟨d, hd, -, rfl⟩ := normN_mem.1 hc
  exact h d hd a (mem_normL_iff.1 ha).1

theorem normN_sub {n : Nat} {F : List (List Int)} (h : ClsOk n F) : Sub (normN F) F := fun c hc => by
  obtain ⟨d, hd, -, rfl⟩ := normN_mem.1 hc
  exact ⟨d, hd, fun l => ⟨fun hl => (mem_normL_iff.1 hl).1, fun hl => mem_normL_iff.2 ⟨hl, (h d hd l hl).1⟩⟩⟩

theorem normN_cover {n : Nat} {F : List (List Int)} (h : ClsOk n F) : ∀ c ∈ F, Taut c ∨ ∃ c' ∈ normN F, ∀ l, l ∈ c ↔ l ∈ c' := fun c hc => by
  cases ht : adjB (normL c) with
  | true =>
    left
    obtain ⟨x, hx, hnx⟩ := (adjB_iff (asc_normL c) (fun x hx => (mem_normL_iff.1 hx).2)).1 ht
    exact ⟨x, (mem_normL_iff.1 hx).1, (mem_normL_iff.1 hnx).1⟩
  | false => exact .inr ⟨normL c, normN_mem.2 ⟨c, hc, ht, rfl⟩, fun l => ⟨fun hl => mem_normL_iff.2 ⟨hl, (h c hc l hl).1⟩, fun hl => (mem_normL_iff.1 hl).1⟩⟩

/-- Units over the clauses that are kept. -/
theorem normN_up {n : Nat} {F : List (List Int)} (h : ClsOk n F) (A : List Int) : upL n (normN F) A = upL n F A ∧ upF (normN F) A = upF F A := up_norm h (normN_cover h) (normN_sub h)

/-- What the assumptions leave. -/
structure PA (n : Nat) (A K : List Int) (k : Nat) : Prop where
  all : ∀ a ∈ A.take k, a ∈ K
  sub : ∀ a ∈ K, a ∈ A
  cons : ∀ a ∈ K, -a ∉ K
  nod : K.Nodup

theorem pa_start (n : Nat) (A : List Int) : PA n A [] 0 := ⟨by simp, by simp, by simp, List.nodup_nil⟩

theorem pa_step {n : Nat} {A K : List Int} {k : Nat} {a : Int} (h : PA n A K k) (ha : A[k]? = some a) (h0 : a ≠ 0) (hn : -a ∉ K) : PA n A (setK K a) (k + 1) := by
  have hm := List.mem_of_getElem? ha
  by_cases h2 : a ∈ K
  · rw [setK_pos hn h2]
    refine ⟨fun x hx => ?_, h.sub, h.cons, h.nod⟩
    rw [List.take_add_one, ha] at hx
    rcases List.mem_append.1 hx with hx | hx
    · exact h.all x hx
    · simp at hx; rw [hx]; exact h2
  · rw [setK_new hn h2]
    refine ⟨fun x hx => ?_, fun x hx => ?_, fun x hx => ?_, ?_⟩
    · rw [List.take_add_one, ha] at hx
      rcases List.mem_append.1 hx with hx | hx
      · exact List.mem_append_left _ (h.all x hx)
      · simp at hx; rw [hx]; simp
    · rcases List.mem_append.1 hx with hx | hx
      · exact h.sub x hx
      · simp at hx; rw [hx]; exact hm
    · rw [List.mem_append, not_or]
      rcases List.mem_append.1 hx with hx | hx
      · refine ⟨h.cons x hx, fun e => ?_⟩
        simp at e
        exact hn (by rw [← e, Int.neg_neg]; exact hx)
      · simp at hx
        subst hx
        refine ⟨hn, fun e => ?_⟩
        simp at e
        omega
    · exact List.nodup_append.2 ⟨h.nod, by simp, fun y hy z hz e => by simp at hz; exact h2 (by rw [← hz, ← e]; exact hy)⟩

theorem pa_bad {n : Nat} {A K : List Int} {k : Nat} {a : Int} (h : PA n A K k) (ha : A[k]? = some a) (hn : -a ∈ K) (C : List (List Int)) : Bad C A :=
  .inl ⟨a, .asm (List.mem_of_getElem? ha), .asm (h.sub _ hn)⟩

theorem pa_len {n : Nat} {A K : List Int} {k : Nat} (h : PA n A K k) (hA : ∀ a ∈ A, LitOk n a) : K.length ≤ n := lits_le h.nod h.cons fun a ha => hA a (h.sub a ha)

/-- What the loop over the unit clauses leaves. -/
structure PU (n : Nat) (C : List (List Int)) (A K : List Int) (j : Nat) : Prop where
  sound : ∀ a ∈ K, Der C A a
  asm : ∀ a ∈ A, a ∈ K
  kok : ∀ a ∈ K, LitOk n a
  cons : ∀ a ∈ K, -a ∉ K
  knod : K.Nodup
  one : ∀ (i : Nat) c, i < j → C[i]? = some c → c.length ≤ 1 → ∃ l ∈ c, l ∈ K

theorem pu_start {n : Nat} {C : List (List Int)} {A K : List Int} (h : PA n A K A.length) (hA : ∀ a ∈ A, LitOk n a) : PU n C A K 0 :=
  ⟨fun a ha => .asm (h.sub a ha), fun a ha => h.all a (by rw [List.take_length]; exact ha), fun a ha => hA a (h.sub a ha), h.cons, h.nod, fun i c hi => by omega⟩

theorem pu_skip {n : Nat} {C : List (List Int)} {A K : List Int} {j : Nat} {c : List Int} (h : PU n C A K j) (hc : C[j]? = some c) (h2 : 2 ≤ c.length) : PU n C A K (j + 1) :=
  ⟨h.sound, h.asm, h.kok, h.cons, h.knod, fun i d hi hd hl => by
    by_cases e : i = j
    · rw [e, hc] at hd; injection hd with hd; rw [← hd] at hl; omega
    · exact h.one i d (by omega) hd hl⟩

theorem der_one {C : List (List Int)} {A : List Int} {l : Int} (h : [l] ∈ C) : Der C A l := .unit h (by simp) fun m hm hne => by simp at hm; exact (hne hm).elim

theorem pu_set {n : Nat} {C : List (List Int)} {A K : List Int} {j : Nat} {l : Int} (h : PU n C A K j) (hC : ClsOk n C) (hc : C[j]? = some [l]) (hn : -l ∉ K) : PU n C A (setK K l) (j + 1) := by
  have hm := List.mem_of_getElem? hc
  have hl0 := hC _ hm l (by simp)
  by_cases h2 : l ∈ K
  · rw [setK_pos hn h2]
    exact ⟨h.sound, h.asm, h.kok, h.cons, h.knod, fun i d hi hd hl => by
      by_cases e : i = j
      · rw [e, hc] at hd; injection hd with hd; rw [← hd]; exact ⟨l, by simp, h2⟩
      · exact h.one i d (by omega) hd hl⟩
  · rw [setK_new hn h2]
    refine ⟨fun x hx => ?_, fun x hx => List.mem_append_left _ (h.asm x hx), fun x hx => ?_, fun x hx => ?_, ?_, fun i d hi hd hl => ?_⟩
    · rcases List.mem_append.1 hx with hx | hx
      · exact h.sound x hx
      · simp at hx; rw [hx]; exact der_one hm
    · rcases List.mem_append.1 hx with hx | hx
      · exact h.kok x hx
      · simp at hx; rw [hx]; exact hl0
    · rw [List.mem_append, not_or]
      rcases List.mem_append.1 hx with hx | hx
      · refine ⟨h.cons x hx, fun e => ?_⟩
        simp at e
        exact hn (by rw [← e, Int.neg_neg]; exact hx)
      · simp at hx
        subst hx
        refine ⟨hn, fun e => ?_⟩
        simp at e
        have := hl0.1
        omega
    · exact List.nodup_append.2 ⟨h.knod, by simp, fun y hy z hz e => by simp at hz; exact h2 (by rw [← hz, ← e]; exact hy)⟩
    · by_cases e : i = j
      · rw [e, hc] at hd; injection hd with hd; rw [← hd]; exact ⟨l, by simp, by simp⟩
      · obtain ⟨x, hx, hxK⟩ := h.one i d (by omega) hd hl
        exact ⟨x, hx, List.mem_append_left _ hxK⟩

theorem pu_empty {C : List (List Int)} {A : List Int} {j : Nat} (hc : C[j]? = some []) : Bad C A := .inr ⟨[], List.mem_of_getElem? hc, fun l hl => by cases hl⟩
theorem pu_bad {n : Nat} {C : List (List Int)} {A K : List Int} {j : Nat} {l : Int} (h : PU n C A K j) (hc : C[j]? = some [l]) (hn : -l ∈ K) : Bad C A := .inl ⟨l, der_one (List.mem_of_getElem? hc), h.sound _ hn⟩

theorem pu_pi {n : Nat} {C : List (List Int)} {A K : List Int} {j : Nat} (h : PU n C A K j) (hj : C.length ≤ j) (hC : ClsOk n C) (hn : ∀ c ∈ C, c.Nodup) : PI n C A (C.map fun c => (c.length : Int)) K 0 :=
  { nod := hn, cok := hC, olen := by simp, sound := h.sound, asm := h.asm, kok := h.kok, cons := h.cons, knod := h.knod, le := Nat.zero_le _,
    handled := fun i c o hc ho h1 => by
      rw [List.getElem?_map, hc] at ho
      injection ho with ho
      have ho2 : (c.length : Int) = _ := ho
      exact h.one i c (by have := (List.getElem?_eq_some_iff.1 hc).1; omega) hc (by omega)
    cnt := fun i c hc => by rw [List.getElem?_map, hc, List.take_zero, cntO_nil]; rfl }

/-! ### The order of what Units returns -/

theorem byVar_asc (n : Nat) (p : Int → Bool) (hp : ∀ a, p a = true → p (-a) = false) : Asc (byVar n p) := by
  induction n with
  | zero => exact List.Pairwise.nil
  | succ n ih =>
    rw [byVar_succ]
    refine List.pairwise_append.2 ⟨ih, ?_, fun a ha c hc => ?_⟩
    · cases h1 : p ((n : Int) + 1) with
      | true => rw [hp _ h1]; simp
      | false => cases h2 : p (-((n : Int) + 1)) <;> simp
    · have h1 := (mem_byVar.1 ha).1
      unfold LitOk at h1
      have hcs : c.natAbs = n + 1 := by
        rcases List.mem_append.1 hc with hc | hc
        · split at hc
          · simp at hc; omega
          · cases hc
        · split at hc
          · simp at hc; omega
          · cases hc
      rw [lessB_iff]
      left
      omega

end Go.Proofs.Ytfofabbnbmieoaa.Ord

/- The walk of solve's load. -/
namespace Go.Proofs.Ytfofabbnbmieoaa.Ord
open Go.RowKit Go.Conc

attribute [local go_sem ↓] Go.wp_at_zero Go.wp_at_succ
attribute [local go_sem ↓ high] app_mark

/-- What load leaves. -/
structure LdS (n : Nat) (tag : Nat → KT) (B : Nat) (w0 w : World) (a : SA) (d0 : SD) (G : List (List Int)) (k : Nat) (wr : World) (tag' : Nat → KT) (v : SV) (d : SD) (Rz : List Int) : Prop where
  sm : SM tag' B w0 wr a v d
  sr : SR tag tag' w wr
  lk : LK n d Rz []
  P : d.P = d0.P
  bp : d.bp = d0.bp
  cl : d.C.length ≤ k

def solLoadR (n : Nat) (tag : Nat → KT) (B : Nat) (w0 w : World) (a : SA) (d0 : SD) (F : List (List Int)) (e : Ending) (w' : World) : Prop :=
  ∃ tag' v' d' Rz', LdS n tag B w0 w a d0 F F.length w' tag' v' d' Rz' ∧ ((e = .returned (.bool true) ∧ CD n F d'.C (WtF d'.Wt) d'.K Rz' [] d'.K.length ∧ d'.dn = d'.K.length) ∨ (e = .returned (.bool false) ∧ Bad F []))

theorem take_snoc {F : List (List Int)} {j : Nat} {c : List Int} (h : F[j]? = some c) : F.take (j + 1) = F.take j ++ [c] := by
  rw [List.take_add_one, h]
  rfl

theorem touch_below {S : Nat → Prop} {w w' : World} (h : Below w.heap.size w w') : Touch S w w' := ⟨h.os, h.tape, h.output, h.size, fun k hk _ => h.block k hk⟩

theorem LdS.grow {n : Nat} {tag : Nat → KT} {B : Nat} {w0 w : World} {a : SA} {d0 : SD} {G : List (List Int)} {k : Nat} {wr w1 : World} {tag' : Nat → KT} {v : SV} {d : SD} {Rz : List Int} (h : LdS n tag B w0 w a d0 G k wr tag' v d Rz) (hb : Below wr.heap.size wr w1) : LdS n tag B w0 w a d0 G k w1 (tgN tag' wr .oth) v d Rz :=
  ⟨h.sm.grow hb (fun _ hg => tgN_old hg) fun _ hk hn => absurd (tgN_new hk) hn, h.sr.trans ⟨touch_below hb, fun _ hg e => (tgN_old hg).trans e⟩, h.lk, h.P, h.bp, h.cl⟩

set_option maxRecDepth 100000 in
set_option maxHeartbeats 8000000 in
theorem sol_load (tag : Nat → KT) (w0 w : World) (a : SA) (v : SV) (d : SD) (n : Nat) (n' : Int) (F : List (List Int)) (acl : Option Addr) (mf cf : Nat) (Rz : List Int) (h : SM tag w0.heap.size w0 w a v d) (hn : a.n1 = n + 1) (hn1 : n ≤ 1048576) (hk : LK n d Rz []) (hd : CD n [] d.C (WtF d.Wt) d.K Rz [] 0) (hdn : d.dn = 0) (hC : d.C = []) (hmf : mf = F.length) (hr : Rws w0 acl F) (hf : ∀ c ∈ F, ∀ x ∈ c, LitOk n x) (hfl : ∀ c ∈ F, c.length ≤ 4294967296) (hFl : F.length ≤ 4294967296) :
    Calls Try.prog 49 #[.pointer (some ⟨a.bx, 0, none⟩), .agg #[.int .i64 n', .slice acl mf cf]] w (solLoadR n tag w0.heap.size w0 w a d F) := by
  subst hmf
  obtain ⟨Q, hQ⟩ : ∃ Q : Ending → World → Prop, solLoadR n tag w0.heap.size w0 w a d F = Q := ⟨_, rfl⟩
  rw [hQ]
  have HQ : Hid (∀ e w', solLoadR n tag w0.heap.size w0 w a d F e w' → Q e w') := hid (fun e w' h => by rw [← hQ]; exact h)
  clear hQ
  have hL : LdS n tag w0.heap.size w0 w a d (F.take 0) 0 w tag v d Rz := ⟨h, SR.refl _ _, hk, rfl, rfl, by rw [hC]; exact Nat.le_refl _⟩
  have hbx := box_below w (.cells #[.int .i64 n', .slice acl F.length cf] 34 (0, 0))
  have HL := hid (And.intro (hL.grow hbx) (And.intro hd hdn))
  have hfo : FOk F := fun c hc => ⟨fun x hx => by have := hf c hc x hx; unfold LitOk at this; unfold I64; omega, by have := hfl c hc; omega⟩
  have HR := hid (And.intro hr (And.intro hf (And.intro hfl (And.intro hFl hfo))))
  have HN := hid (And.intro hn hn1)
  have hz := heap_alloc_new w (.cells #[.int .i64 n', .slice acl F.length cf] 34 (0, 0))
  have z1 : (w.alloc (.cells #[.int .i64 n', .slice acl F.length cf] 34 (0, 0))).cell? ⟨w.heap.size, 1, none⟩ = some (.slice acl F.length cf) := by rw [cell_of_row _ _ _ _ _ _ hz]; rfl
  obtain ⟨FL, hFL⟩ : ∃ t, F.length = t := ⟨_, rfl⟩
  rw [hFL] at z1
  have HFL := hid hFL
  rw [hFL] at HL ⊢
  clear h hn hn1 hk hd hdn hC hr hf hfl hFl hL hbx hfo hz
  go_enter Try.func49, Try.ntmps49
  go_wp2_with fail
  go_loopw [12] (fun s12 wl => ∃ (tag' : Nat → KT) (v' : SV) (d' : SD) (Rz' : List Int) (j : Nat), s12 = .int .i64 j ∧ j ≤ FL ∧ Hid (LdS n tag w0.heap.size w0 w a d (F.take j) j wl tag' v' d' Rz' ∧ CD n (F.take j) d'.C (WtF d'.Wt) d'.K Rz' [] 0 ∧ d'.dn = 0)) (fun s12 _ => (FL - (intOf s12)).toNat)
  case atStart => exact ⟨_, _, _, _, 0, rfl, Nat.zero_le _, hid ⟨HL.out.1, HL.out.2.1, HL.out.2.2⟩⟩
  case round =>
    clear HL z1
    obtain ⟨tag1, v1, d1, Rz1, j, rfl, hjF, HS⟩ := hrel
    by_cases hlt : j < FL
    · have hlt2 : (j : Int) < FL := by omega
      have hj0 : (0 : Int) ≤ j := by omega
      obtain ⟨hL, hD, hdn⟩ := HS.out
      have hrw : Rws wr acl F := HR.out.1.below hL.sm.bel
      obtain ⟨b, off, c, a', c', rfl, hcell, hsl, hFj, hx64, hcl, hcc, hc0⟩ := hrw.row HR.out.2.2.2.2 (k := j) (by have := HFL.out; omega)
      have hcF := List.mem_of_getElem? hFj
      have hwj : IntKind.i64.wrap ((j : Int) + 1) = (j : Int) + 1 := IntWalk.i64_in _ (by have := HR.out.2.2.2.1; have := HFL.out; omega)
      have hok := HR.out.2.1 c hcF
      have hcl2 := HR.out.2.2.1 c hcF
      have hts := take_snoc hFj
      have HTS := hid hts
      have HCF := hid (And.intro hcF hok)
      obtain ⟨cl, hcll⟩ : ∃ t, c.length = t := ⟨_, rfl⟩
      cases hadj : adjB (normL c) with
      | true =>
        have HN1 := hid (lit_NormT a' c c.length c' wr hadj rfl hcc hc0 hsl hx64 hcl2)
        have htt : Taut c := by
          obtain ⟨x, hx, -, hn⟩ := adjB_normL_iff.1 hadj
          exact ⟨x, hx, hn⟩
        have HD := hid (hD.grow0 (.inl htt))
        rw [hcll] at hcell HN1
        clear hL hD hdn hrw hsl hFj hx64 hcl hcc hc0 hcF hok hcl2 hts hadj htt hcll
        go_wp2_with fail
        refine HN1.out.mono ?_
        rintro e w1 ⟨a2, c2, rfl, hb⟩
        have HL1 := hid (HS.out.1.grow hb)
        clear hb HN1
        go_wp2_with fail
        go_roundw
        case rel => exact ⟨_, _, _, _, j + 1, by simp, by omega, hid ⟨⟨HL1.out.sm, HL1.out.sr, HL1.out.lk, HL1.out.P, HL1.out.bp, Nat.le_succ_of_le HL1.out.cl⟩, by rw [HTS.out]; exact HD.out, HS.out.2.2⟩⟩
        case measure => simp [intOf]; omega
      | false =>
        obtain ⟨ys, hys⟩ : ∃ ys, normL c = ys := ⟨_, rfl⟩
        have HN1 := hid (lit_NormF a' c ys c.length c' wr hadj hys rfl hcc hc0 hsl hx64 hcl2)
        have hmem : ∀ x, x ∈ ys ↔ x ∈ c := fun x => by rw [← hys, mem_normL_iff]; exact ⟨fun h => h.1, fun h => ⟨h, (hok x h).1⟩⟩
        have hnd : ys.Nodup := by rw [← hys]; exact asc_nodup (asc_normL c)
        have hop : ∀ x ∈ ys, -x ∉ ys := fun x hx hnx => by
          have : adjB (normL c) = true := adjB_normL_iff.2 ⟨x, (hmem x).1 hx, (hok x ((hmem x).1 hx)).1, (hmem _).1 hnx⟩
          rw [hadj] at this
          cases this
        have hyo : ∀ x ∈ ys, LitOk n x := fun x hx => hok x ((hmem x).1 hx)
        have hyl : ys.length ≤ n := lits_le hnd hop hyo
        have HY := hid (And.intro hmem (And.intro hnd (And.intro hop (And.intro hyo hyl))))
        have HD := hid (And.intro hD hdn)
        rw [hcll] at hcell HN1
        obtain ⟨N, hN⟩ : ∃ t, ys.length = t := ⟨_, rfl⟩
        have HNN := hid hN
        rw [hN] at HN1
        clear hL hD hdn hrw hsl hFj hx64 hcl hcc hc0 hcF hok hcl2 hts hadj hcll hys hmem hnd hop hyo hyl hN
        by_cases hN0 : N = 0
        · subst hN0
          have hyn : ys = [] := List.eq_nil_of_length_eq_zero HNN.out
          have HB : Hid (Bad F []) := hid (bad_sub (HD.out.1.bad0 (c := c) (fun l hl => by
            have := (HY.out.1 l).2 hl
            rw [hyn] at this
            cases this)) fun d hd => by rw [← HTS.out] at hd; exact List.mem_of_mem_take hd)
          clear hyn
          go_wp2_with fail
          refine HN1.out.mono ?_
          rintro e w1 ⟨a2, c2, rfl, -, hb⟩
          have hL1 := HS.out.1.grow hb
          have HE := hid (HQ.out (.returned (.bool false)) w1 ⟨_, _, _, _, ⟨hL1.sm, hL1.sr, hL1.lk, hL1.P, hL1.bp, Nat.le_trans hL1.cl (by rw [HFL.out]; exact hjF)⟩, .inr ⟨rfl, HB.out⟩⟩)
          clear hb hL1 HN1
          go_wp2_with fail
          exact HE.out
        · have hN1 : (0 : Int) < N := by omega
          go_wp2_with fail
          refine HN1.out.mono ?_
          rintro e w1 ⟨a2, c2, rfl, hown, hb⟩
          have hL1 := HS.out.1.grow hb
          have htg : ∀ g, wr.heap.size ≤ g → tgN tag1 wr .oth g = .oth := fun g hg => tgN_new hg
          generalize tgN tag1 wr .oth = tag2 at hL1 htg
          obtain ⟨a3, c3, e3, hc3, hcz, had⟩ := hown
          injection e3 with e3 e4 e5
          subst e3 e5
          clear e4
          have HT3 := hid htg
          have HL1 := hid hL1
          cases a2 with
          | none => exact absurd (hcz rfl) (by have := HNN.out; omega)
          | some ad =>
            obtain ⟨g, og, cur, rfl, hgB, hgb, hgc⟩ := had ad rfl
            have hgt := htg g hgB
            obtain ⟨x0, hx0⟩ : ∃ x, ys[0]? = some x := ⟨_, List.getElem?_eq_getElem (by have := HNN.out; omega)⟩
            have hx0o := HY.out.2.2.2.1 x0 (List.mem_of_getElem? hx0)
            have p0 : w1.cell? ⟨g, og, none⟩ = some (.int .i64 x0) := by rw [cell_of_row _ _ _ _ _ _ hgb]; exact hgc 0 x0 hx0
            have hgw := HS.out.1.sr.1.size
            by_cases hN2 : N = 1
            · subst hN2
              have hyx : ∀ l, l ∈ c ↔ l = x0 := fun l => by
                rw [← HY.out.1 l]
                obtain ⟨z, hz⟩ := List.length_eq_one_iff.1 HNN.out
                rw [hz] at hx0
                injection hx0 with hx0
                rw [hz, List.mem_singleton, hx0]
              have hcons := HD.out.1.cons
              have HHO : Hid (∀ (wz : World) (tg : Nat → KT) (r : Int), SM tg w0.heap.size w0 wz a v1 d1 → hvL d1.va x0 = r → Calls Try.prog 68 #[.pointer (some ⟨a.bx, 0, none⟩), .int .i64 x0] wz fun e' w' => e' = .returned (.int .i8 r) ∧ ∃ q', w' = wz.drewN q') := hid fun wz tg r hM hr => sol_holds tg w0.heap.size w0 wz a v1 d1 n x0 r hM HN.out.1 HN.out.2 hx0o HL1.out.lk.vr hr
              by_cases hxm : -x0 ∈ d1.K
              · have HW := hid (HHO.out w1 _ (-1) hL1.sm ((hL1.lk.hvm hx0o hcons).2 hxm))
                have HB : Hid (Bad F []) := hid (bad_sub (HD.out.1.bad0 (c := c) (fun l hl => by rw [(hyx l).1 hl]; exact hxm)) fun d hd => by rw [← HTS.out] at hd; exact List.mem_of_mem_take hd)
                have HE : Hid (∀ k, Q (.returned (.bool false)) (w1.drewN k)) := hid fun k => HQ.out _ _ ⟨_, _, _, _, ⟨hL1.sm.drewN k, hL1.sr.drewN k, hL1.lk, hL1.P, hL1.bp, Nat.le_trans hL1.cl (by rw [HFL.out]; exact hjF)⟩, .inr ⟨rfl, HB.out⟩⟩
                clear hb hL1 htg hc3 had hcz hgB hgb hgc hgt hx0 hx0o hgw hyx hcons hxm
                go_wp2_with fail
                refine HW.out.mono ?_
                rintro e w' ⟨rfl, q, rfl⟩
                go_wp2_with fail
                exact HE.out _
              · by_cases hx1 : x0 ∈ d1.K
                · have HW := hid (HHO.out w1 _ 1 hL1.sm ((hL1.lk.hv1 hx0o).2 hx1))
                  have HW2 := hid fun q => HHO.out (w1.drewN q) _ 1 (hL1.sm.drewN q) ((hL1.lk.hv1 hx0o).2 hx1)
                  have HD2 := hid (HD.out.1.grow0 (c := c) (.inr (.inr ⟨x0, (hyx x0).2 rfl, by simpa [k0] using hx1⟩)))
                  clear hb hL1 htg hc3 had hcz hgB hgb hgc hgt hx0 hx0o hgw hyx hcons hxm hx1
                  go_wp2_with fail
                  refine HW.out.mono ?_
                  rintro e w' ⟨rfl, q, rfl⟩
                  go_wp2_with fail
                  refine (HW2.out q).mono ?_
                  rintro e w' ⟨rfl, q2, rfl⟩
                  go_wp2_with fail
                  go_roundw
                  case rel => exact ⟨_, _, _, _, j + 1, by simp, by omega, hid ⟨⟨HL1.out.sm.drewN (q + q2), HL1.out.sr.drewN (q + q2), HL1.out.lk, HL1.out.P, HL1.out.bp, Nat.le_succ_of_le HL1.out.cl⟩, by rw [HTS.out]; exact HD2.out, HD.out.2⟩⟩
                  case measure => simp [intOf]; omega
                · have hv0 : hvL d1.va x0 = 0 := by rw [hL1.lk.va x0 hx0o, if_neg hx1, if_neg hxm]
                  have HW := hid (HHO.out w1 _ 0 hL1.sm hv0)
                  have HW2 := hid fun q => HHO.out (w1.drewN q) _ 0 (hL1.sm.drewN q) hv0
                  have HD2 := hid (HD.out.1.unit0 hyx hx0o hx1 hxm (-1))
                  have hKl : d1.K.length ≤ 1048576 := by have := lits_le HD.out.1.nod hcons HD.out.1.kok; have := HN.out.2; omega
                  have HS8 := hid fun q => sol_set tag2 w0.heap.size w0 (w1.drewN q) a v1 d1 n x0 (-1) (hL1.sm.drewN q) HN.out.1 HN.out.2 hx0o hKl
                  have hlk2 : LK n (setD d1 x0 (-1)) (Rz1 ++ [-1]) [] := hL1.lk.set HD.out.1.rl hx0o hx1 hxm (fun b hb => by cases hb) ((hL1.sm.co .val).2.trans HN.out.1) ((hL1.sm.co .lev).2.trans HN.out.1) ((hL1.sm.co .rea).2.trans HN.out.1)
                  have HLK2 := hid hlk2
                  clear hb hL1 htg hc3 had hcz hgB hgb hgc hgt hx0 hx0o hgw hyx hcons hxm hx1 hv0 hKl hlk2
                  go_wp2_with fail
                  refine HW.out.mono ?_
                  rintro e w' ⟨rfl, q, rfl⟩
                  go_wp2_with fail
                  refine (HW2.out q).mono ?_
                  rintro e w' ⟨rfl, q2, rfl⟩
                  go_wp2_with fail
                  refine (HS8.out (q + q2)).mono ?_
                  rintro e w8 ⟨rfl, tag8, vt8, hM8, hS8⟩
                  have HM8 := hid (And.intro hM8 ((HL1.out.sr.drewN (q + q2)).trans hS8))
                  clear hM8 hS8
                  go_wp2_with fail
                  go_roundw
                  case rel => exact ⟨_, _, _, _, j + 1, by simp, by omega, hid ⟨⟨HM8.out.1, HM8.out.2, HLK2.out, HL1.out.P, HL1.out.bp, Nat.le_succ_of_le HL1.out.cl⟩, by rw [HTS.out]; exact HD2.out, HD.out.2⟩⟩
                  case measure => simp [intOf]; omega
            · have hN2' : 2 ≤ N := by omega
              have hN0' : ((N : Int) == 0) = false := beq_false_of_ne (by omega)
              have hN1' : ((N : Int) == 1) = false := beq_false_of_ne (by omega)
              obtain ⟨x1, hx1⟩ : ∃ x, ys[1]? = some x := ⟨_, List.getElem?_eq_getElem (by have := HNN.out; omega)⟩
              have hx1o := HY.out.2.2.2.1 x1 (List.mem_of_getElem? hx1)
              have hne : x0 ≠ x1 := fun e => by
                have := nodup_get HY.out.2.1 hx0 (by rw [e]; exact hx1)
                omega
              have hRo : Ro .oth tag2 w1 (.slice (some ⟨g, og, none⟩) ys.length c2) ys := ⟨g, og, c2, cur, rfl, hc3, hgt, hgb, hgc⟩
              have hB0 := hL1.sm.le
              have hAT := sol_attach tag2 w0.heap.size w0 w1 a v1 d1 n g og c2 ys hL1.sm HN.out.1 HN.out.2 (by rw [HNN.out]; exact hN2') (by have := HY.out.2.2.2.2; have := HN.out.2; omega) HY.out.2.2.2.1 (by have := hL1.cl; have := HR.out.2.2.2.1; have := HFL.out; omega) hRo (by have := HS.out.1.sm.le; omega) (fun b => by have := HD.out.1.wi.lenS b; have := hL1.cl; have := HR.out.2.2.2.1; have := HFL.out; omega)
              rw [HNN.out] at hAT
              have HA := hid hAT
              have HD2 := hid (HD.out.1.more0 (c := c) HY.out.1 (by rw [HNN.out]; exact hN2') HY.out.2.1 HY.out.2.2.2.1 HY.out.2.2.1 hx0 hx1 (attD_wt HN.out.1 ((hL1.sm.co .wtb).2.2) hx0 hx1 hx0o hx1o hne))
              have HGW := hid (And.intro hgB hgw)
              clear hb hL1 htg hc3 had hcz hgB hgb hgc hgt hx0 hx0o hgw hx1 hx1o hne hRo hAT hB0 p0
              go_wp2_with fail
              refine HA.out.mono ?_
              rintro e w8 ⟨rfl, tag8, v8, hM8, hT8, hO8⟩
              have hs8 : SR tag tag8 w w8 := ⟨HL1.out.sr.1.trans' hT8 fun i hi hs e => hs (HL1.out.sr.2 i hi e), fun k hk e => hO8 k (Nat.lt_of_lt_of_le hk HL1.out.sr.1.size) (by have := HGW.out; omega) (HL1.out.sr.2 k hk e)⟩
              have HM8 := hid (And.intro hM8 hs8)
              clear hM8 hT8 hO8 hs8 HA
              go_wp2_with fail
              go_roundw
              case rel => exact ⟨_, _, _, _, j + 1, by simp, by omega, hid ⟨⟨HM8.out.1, HM8.out.2, ⟨HL1.out.lk.va, HL1.out.lk.vr, HL1.out.lk.ls, HL1.out.lk.lv, HL1.out.lk.re, HL1.out.lk.hp, HL1.out.lk.se⟩, HL1.out.P, HL1.out.bp, by show (d1.C ++ [ys]).length ≤ j + 1; rw [List.length_append]; have := HL1.out.cl; simp; omega⟩, by rw [HTS.out]; exact HD2.out, HD.out.2⟩⟩
              case measure => simp [intOf]; omega
    · have hje : j = FL := by omega
      subst hje
      have hlt2 : ¬ (j : Int) < j := by omega
      obtain ⟨hL, hD, hdn⟩ := HS.out
      rw [← HFL.out, List.take_length] at hD
      have hCl : d1.C.length ≤ 4398046511104 := by have := hL.cl; have := HR.out.2.2.2.1; have := HFL.out; omega
      have HPR := hid (sol_propagate tag1 w0.heap.size w0 wr a v1 d1 n F Rz1 [] hL.sm HN.out.1 HN.out.2 hL.lk (by rw [hdn]; exact hD) hCl)
      have HL2 := hid hL
      clear hL hD hdn hCl
      go_wp2_with fail
      refine HPR.out.mono ?_
      rintro e w2 ⟨tag2, v2, d2, Rz2, hW, hres⟩
      have hLd : LdS n tag w0.heap.size w0 w a d F F.length w2 tag2 v2 d2 Rz2 := ⟨hW.sm, HL2.out.sr.trans hW.sr, hW.lk, hW.pg.P.trans HL2.out.P, hW.pg.bp.trans HL2.out.bp, by rw [hW.pg.cl, HFL.out]; exact HL2.out.cl⟩
      rcases hres with ⟨rfl, hcd, hdn2⟩ | ⟨i, rfl, hcf⟩
      · have HE := hid (HQ.out (.returned (.bool true)) w2 ⟨tag2, v2, d2, Rz2, hLd, .inl ⟨rfl, hcd, hdn2⟩⟩)
        clear hW hLd hcd hdn2 HPR
        go_wp2_with fail
        exact HE.out
      · have HE := hid (HQ.out (.returned (.bool false)) w2 ⟨tag2, v2, d2, Rz2, hLd, .inr ⟨rfl, hcf.bad0⟩⟩)
        have hin : ¬ (i : Int) < 0 := by omega
        clear hW hLd hcf HPR
        go_wp2_with fail
        exact HE.out

end Go.Proofs.Ytfofabbnbmieoaa.Ord

/- Plain facts about solve's learn: what holds between its steps. -/
namespace Go.Proofs.Ytfofabbnbmieoaa.Ord

theorem lvl_lt {bs : List Nat} {t j : Nat} (hj : j ∈ bs) (h : t < j) : lvl bs t < lvl bs j := by
  unfold lvl
  induction bs with
  | nil => cases hj
  | cons b r ih =>
    simp only [List.filter_cons]
    have hm : (r.filter fun b => decide (b ≤ t)).length ≤ (r.filter fun b => decide (b ≤ j)).length := lvl_mono r (Nat.le_of_lt h)
    rcases List.mem_cons.1 hj with e | e
    · subst e
      rw [if_neg (by simp; omega), if_pos (by simp)]
      simp only [List.length_cons]
      omega
    · have := ih e
      by_cases h1 : b ≤ t
      · rw [if_pos (by simpa using h1), if_pos (by simp; omega)]
        simp only [List.length_cons]
        omega
      · rw [if_neg (by simpa using h1)]
        split
        · simp only [List.length_cons]; omega
        · exact this

/-- A variable stands at one place of the trail. -/
theorem place_eq {K : List Int} (hnd : K.Nodup) (hc : ∀ y ∈ K, -y ∉ K) {i j : Nat} {x y : Int} (hi : K[i]? = some x) (hj : K[j]? = some y) (h : x.natAbs = y.natAbs) : i = j := by
  have h1 : x = y ∨ x = -y := by omega
  rcases h1 with e | e
  · exact nodup_get hnd hi (by rw [e]; exact hj)
  · exact absurd (List.mem_of_getElem? hi) (by rw [e]; exact hc y (List.mem_of_getElem? hj))

/-- Between two literals of a clause. -/
structure LQ (n : Nat) (G : List (List Int)) (K : List Int) (bs : List Nat) (c : List Int) (sk : Int) (m M : Nat) (S : List Nat) (O : List Int) (se : List Bool) : Prop where
  li : LI G K bs M S O (Rest G c sk m)
  lk : ∀ l ∈ c, l ≠ sk → ∃ j, j < M ∧ K[j]? = some (-l)
  ne : S ≠ [] ∨ ∃ l ∈ c.drop m, l ≠ sk ∧ ∃ j, K[j]? = some (-l) ∧ lvl bs j = bs.length
  sq : ∀ v, v ≤ n → ((se[v]?).getD false = true ↔ SeenP K S O v)
  sl : se.length = n + 1
  co : ∀ l ∈ c, LitOk n l
  ml : M ≤ K.length

/-- What holds of the trail throughout. -/
structure LT (n : Nat) (G : List (List Int)) (K : List Int) (bs : List Nat) : Prop where
  cons : ∀ y ∈ K, -y ∉ K
  nod : K.Nodup
  kok : ∀ y ∈ K, LitOk n y
  lv0 : ∀ (i : Nat) (a : Int), K[i]? = some a → lvl bs i = 0 → Der G [] a

section
variable {n : Nat} {G : List (List Int)} {K : List Int} {bs : List Nat} {c : List Int} {sk l : Int} {m M j : Nat} {S : List Nat} {O : List Int} {se : List Bool}

theorem abs_range {x : Int} (h : LitOk n x) : 1 ≤ x.natAbs ∧ x.natAbs ≤ n := by
  unfold LitOk at h
  omega

theorem drop_at (hl : c[m]? = some l) : c.drop m = l :: c.drop (m + 1) := by
  obtain ⟨h, e⟩ := List.getElem?_eq_some_iff.1 hl
  rw [List.drop_eq_getElem_cons h, e]

theorem LI.sizes {X : List Int → Prop} (h : LI G K bs M S O X) (ht : LT n G K bs) : S.length ≤ M ∧ O.length ≤ n := by
  refine ⟨nodup_below _ _ h.snd fun j hj => (h.sp j hj).1, lits_le h.ond (fun o ho hm => ?_) fun o ho => ?_⟩
  · obtain ⟨j, hj, -⟩ := h.ol o ho
    obtain ⟨j2, hj2, -⟩ := h.ol (-o) hm
    rw [Int.neg_neg] at hj2
    exact ht.cons o (List.mem_of_getElem? hj2) (List.mem_of_getElem? hj)
  · obtain ⟨j, hj, -⟩ := h.ol o ho
    have := ht.kok _ (List.mem_of_getElem? hj)
    unfold LitOk at this ⊢
    omega

/-- A literal that is left out. -/
theorem LQ.skip (h : LQ n G K bs c sk m M S O se) (ht : LT n G K bs) (hb : 0 < bs.length) (hl : c[m]? = some l) (hs : l = sk ∨ SeenP K S O l.natAbs ∨ ∀ j, K[j]? = some (-l) → lvl bs j = 0) : LQ n G K bs c sk (m + 1) M S O se := by
  refine ⟨h.li.skip ht.cons ht.lv0 hl fun hne => ?_, h.lk, ?_, h.sq, h.sl, h.co, h.ml⟩
  · obtain ⟨j, hj, hk⟩ := h.lk l (List.mem_of_getElem? hl) hne
    rcases hs with e | e | e
    · exact absurd e hne
    · exact ⟨j, hk, .inl e⟩
    · exact ⟨j, hk, .inr (e j hk)⟩
  · rcases h.ne with q | ⟨x, hx, hxs, j, hj, hlv⟩
    · exact .inl q
    · rw [drop_at hl] at hx
      rcases List.mem_cons.1 hx with e | e
      · subst e
        left
        rcases hs with e | (⟨t, ht1, -⟩ | ⟨o, ho, hoa⟩) | e
        · exact absurd e hxs
        · intro e; rw [e] at ht1; cases ht1
        · exfalso
          obtain ⟨j2, hj2, -, hlt⟩ := h.li.ol o ho
          have := place_eq ht.nod ht.cons hj hj2 (by rw [Int.natAbs_neg, Int.natAbs_neg, hoa])
          subst this
          omega
        · have := e j hj
          omega
      · exact .inr ⟨x, e, hxs, j, hj, hlv⟩

theorem seen_set {v w : Nat} (hw : w < se.length) (b : Bool) : ((se.set w b)[v]?).getD false = if v = w then b else (se[v]?).getD false := by
  by_cases q : v = w
  · rw [if_pos q, q, List.getElem?_set_self hw]; rfl
  · rw [if_neg q, List.getElem?_set_ne (fun e => q e.symm)]

/-- A literal of the level at hand. -/
theorem LQ.opn (h : LQ n G K bs c sk m M S O se) (hl : c[m]? = some l) (_hne : l ≠ sk) (hns : ¬ SeenP K S O l.natAbs) (hj : K[j]? = some (-l)) (hlv : lvl bs j = bs.length) (hjM : j < M) : LQ n G K bs c sk (m + 1) M (S ++ [j]) O (se.set l.natAbs true) := by
  have hlo := h.co l (List.mem_of_getElem? hl)
  have hr := abs_range hlo
  refine ⟨h.li.open hl hj hns hjM hlv, h.lk, .inl (by simp), fun v hv2 => ?_, by simpa using h.sl, h.co, h.ml⟩
  rw [seen_set (by rw [h.sl]; omega)]
  by_cases q : v = l.natAbs
  · rw [if_pos q]
    exact ⟨fun _ => .inl ⟨j, by simp, _, hj, by rw [q, Int.natAbs_neg]⟩, fun _ => rfl⟩
  · rw [if_neg q, h.sq v hv2]
    constructor
    · rintro (⟨t, ht, p, hp, e⟩ | e)
      · exact .inl ⟨t, List.mem_append_left _ ht, p, hp, e⟩
      · exact .inr e
    · rintro (⟨t, ht, p, hp, e⟩ | e)
      · rcases List.mem_append.1 ht with ht | ht
        · exact .inl ⟨t, ht, p, hp, e⟩
        · have ht : t = j := by simpa using ht
          subst ht
          rw [hj] at hp
          injection hp with hp
          subst hp
          rw [Int.natAbs_neg] at e
          exact absurd e.symm q
      · exact .inr e

/-- A literal of a level below. -/
theorem LQ.out (h : LQ n G K bs c sk m M S O se) (hl : c[m]? = some l) (_hne : l ≠ sk) (hns : ¬ SeenP K S O l.natAbs) (ht : LT n G K bs) (hj : K[j]? = some (-l)) (h0 : 0 < lvl bs j) (hlv : lvl bs j < bs.length) : LQ n G K bs c sk (m + 1) M S (O ++ [l]) (se.set l.natAbs true) := by
  have hlo := h.co l (List.mem_of_getElem? hl)
  have hr := abs_range hlo
  refine ⟨h.li.out hl hj hns h0 hlv, h.lk, ?_, fun v hv2 => ?_, by simpa using h.sl, h.co, h.ml⟩
  · rcases h.ne with q | ⟨x, hx, hxs, j2, hj2, hlv2⟩
    · exact .inl q
    · rw [drop_at hl] at hx
      rcases List.mem_cons.1 hx with e | e
      · subst e
        have := nodup_get ht.nod hj hj2
        subst this
        omega
      · exact .inr ⟨x, e, hxs, j2, hj2, hlv2⟩
  · rw [seen_set (by rw [h.sl]; omega)]
    by_cases q : v = l.natAbs
    · rw [if_pos q]
      exact ⟨fun _ => .inr ⟨l, by simp, q.symm⟩, fun _ => rfl⟩
    · rw [if_neg q, h.sq v hv2]
      constructor
      · rintro (e | ⟨o, ho, e⟩)
        · exact .inl e
        · exact .inr ⟨o, List.mem_append_left _ ho, e⟩
      · rintro (e | ⟨o, ho, e⟩)
        · exact .inl e
        · rcases List.mem_append.1 ho with ho | ho
          · exact .inr ⟨o, ho, e⟩
          · have ho : o = l := by simpa using ho
            subst ho
            exact absurd e.symm q

/-- Between two clauses, while the last place is looked for. -/
structure LP (n : Nat) (G : List (List Int)) (K : List Int) (bs : List Nat) (M : Nat) (S : List Nat) (O : List Int) (se : List Bool) : Prop where
  li : LI G K bs M S O (fun _ => True)
  ne : S ≠ []
  sq : ∀ v, v ≤ n → ((se[v]?).getD false = true ↔ SeenP K S O v)
  sl : se.length = n + 1
  ml : M ≤ K.length

theorem LQ.done (h : LQ n G K bs c sk m M S O se) (hm : c.length ≤ m) : LP n G K bs M S O se := by
  refine ⟨h.li.done hm, ?_, h.sq, h.sl, h.ml⟩
  rcases h.ne with q | ⟨x, hx, -⟩
  · exact q
  · rw [List.drop_eq_nil_of_le hm] at hx
    cases hx

/-- A place that is not seen is none of S. -/
theorem LP.notIn (h : LP n G K bs M S O se) (ht : LT n G K bs) {at' : Nat} {p : Int} (hp : K[at']? = some p) (hs : (se[p.natAbs]?).getD false = false) : at' ∉ S := fun hm => by
  have hr := abs_range (ht.kok p (List.mem_of_getElem? hp))
  have := (h.sq p.natAbs hr.2).2 (.inl ⟨at', hm, p, hp, rfl⟩)
  rw [hs] at this
  cases this

/-- The last place that is seen is the last of S. -/
theorem LP.isIn (h : LP n G K bs M S O se) (ht : LT n G K bs) {at' : Nat} {p : Int} (hp : K[at']? = some p) (hs : (se[p.natAbs]?).getD false = true) (hmax : ∀ t ∈ S, t ≤ at') : at' ∈ S := by
  have hr := abs_range (ht.kok p (List.mem_of_getElem? hp))
  rcases (h.sq p.natAbs hr.2).1 hs with ⟨j, hj, q, hq, e⟩ | ⟨o, ho, e⟩
  · rw [← place_eq ht.nod ht.cons hq hp e]
    exact hj
  · exfalso
    obtain ⟨j, hj, -, hlt⟩ := h.li.ol o ho
    have := place_eq ht.nod ht.cons hj hp (by rw [Int.natAbs_neg, e])
    subst this
    obtain ⟨t, ht'⟩ := List.exists_mem_of_ne_nil _ h.ne
    have h1 := hmax t ht'
    have h2 := (h.li.sp t ht').2
    have h3 := lvl_mono bs h1
    omega

theorem LP.seErase (h : LP n G K bs M S O se) (ht : LT n G K bs) {at' : Nat} {p : Int} (hp : K[at']? = some p) (hin : at' ∈ S) : ∀ v, v ≤ n → (((se.set p.natAbs false)[v]?).getD false = true ↔ SeenP K (S.erase at') O v) := fun v hv2 => by
  have hr := abs_range (ht.kok p (List.mem_of_getElem? hp))
  rw [seen_set (by rw [h.sl]; omega)]
  have hlv := (h.li.sp at' hin).2
  by_cases q : v = p.natAbs
  · rw [if_pos q]
    refine ⟨fun e => (by cases e), fun e => ?_⟩
    exfalso
    rcases e with ⟨j, hj, x, hx, e⟩ | ⟨o, ho, e⟩
    · have := place_eq ht.nod ht.cons hx hp (by omega)
      subst this
      exact (List.Nodup.not_mem_erase h.li.snd) hj
    · obtain ⟨j, hj, -, hlt⟩ := h.li.ol o ho
      have := place_eq ht.nod ht.cons hj hp (by rw [Int.natAbs_neg]; omega)
      subst this
      omega
  · rw [if_neg q, h.sq v hv2]
    constructor
    · rintro (⟨j, hj, x, hx, e⟩ | e)
      · refine .inl ⟨j, (List.mem_erase_of_ne fun e' => ?_).2 hj, x, hx, e⟩
        subst e'
        rw [hp] at hx
        injection hx with hx
        subst hx
        exact q e.symm
      · exact .inr e
    · rintro (⟨j, hj, x, hx, e⟩ | e)
      · exact .inl ⟨j, List.mem_of_mem_erase hj, x, hx, e⟩
      · exact .inr e

/-- The next clause. -/
theorem LP.next {C : List (List Int)} {Rz : List Int} (h : LP n G K bs M S O se) (ht : LT n G K bs) {at' : Nat} {p : Int} (hp : K[at']? = some p) (hin : at' ∈ S) (hmax : ∀ t ∈ S, t ≤ at') (hs : S.erase at' ≠ []) (hb : 0 < bs.length) (hrs : RsOk C K Rz bs) (hsub : ∀ c ∈ C, ∃ f ∈ G, ∀ l, l ∈ c ↔ l ∈ f) (hco : ∀ c ∈ C, ∀ l ∈ c, LitOk n l) :
    ∃ (r : Nat) (c : List Int), Rz[at']? = some (r : Int) ∧ C[r]? = some c ∧ LQ n G K bs c p 0 at' (S.erase at') O (se.set p.natAbs false) := by
  obtain ⟨t, hte⟩ := List.exists_mem_of_ne_nil _ hs
  have htS := List.mem_of_mem_erase hte
  have htne : t ≠ at' := fun e => List.Nodup.not_mem_erase h.li.snd (e ▸ hte)
  have htlt : t < at' := by have := hmax t htS; omega
  have hlv := (h.li.sp at' hin).2
  have hlt := (h.li.sp t htS).2
  obtain ⟨r, c, h1, h2, h3, h4⟩ := hrs at' p hp (fun m => by have := lvl_lt m htlt; omega) (by omega)
  have hcC := List.mem_of_getElem? h2
  obtain ⟨f, hf, hl⟩ := hsub c hcC
  refine ⟨r, c, h1, h2, h.li.pop hin hmax hp hf hl h3, fun l hl' hne => h4 l hl' hne, .inl hs, h.seErase ht hp hin, by simpa using h.sl, hco c hcC, ?_⟩
  exact Nat.le_of_lt (List.getElem?_eq_some_iff.1 hp).1

/-- The end. -/
theorem LP.end (h : LP n G K bs M S O se) (ht : LT n G K bs) {at' : Nat} {p : Int} (hp : K[at']? = some p) (hin : at' ∈ S) (hs : S.erase at' = []) : LD n G K bs at' p O ∧ ∀ v, v ≤ n → (((se.set p.natAbs false)[v]?).getD false = true ↔ ∃ o ∈ O, o.natAbs = v) := by
  refine ⟨h.li.learned (fun t ht' => ?_) hin hp, fun v hv2 => ?_⟩
  · by_cases q : t = at'
    · exact q
    · have := (List.mem_erase_of_ne q).2 ht'
      rw [hs] at this
      cases this
  · rw [h.seErase ht hp hin v hv2, hs]
    constructor
    · rintro (⟨j, hj, -⟩ | e)
      · cases hj
      · exact e
    · exact .inr

/-- While the clause is put in order: xs is the clause, lv the greatest level up to k, at the place 1. -/
structure LF (n : Nat) (K : List Int) (bs : List Nat) (p : Int) (O xs : List Int) (lv k : Nat) (se : List Bool) : Prop where
  len : xs.length = O.length + 1
  x0 : xs[0]? = some (-p)
  mem : ∀ x, x ∈ xs ↔ x = -p ∨ x ∈ O
  nod : xs.Nodup
  sq : ∀ v, v ≤ n → ((se[v]?).getD false = true ↔ ∃ o ∈ xs.drop k, o.natAbs = v)
  sl : se.length = n + 1
  k1 : 1 ≤ k
  l0 : k = 1 → lv = 0
  l1 : 1 < k → ∃ y j, xs[1]? = some y ∧ K[j]? = some (-y) ∧ lvl bs j = lv
  lm : ∀ (t : Nat) (y : Int) (j : Nat), 1 ≤ t → t < k → xs[t]? = some y → K[j]? = some (-y) → lvl bs j ≤ lv

theorem LD.notIn {p : Int} (hd : LD n G K bs j p O) (ht : LT n G K bs) : -p ∉ O ∧ p ∉ O := by
  refine ⟨fun m => ?_, fun m => ?_⟩
  · obtain ⟨j2, hj2, -, hlt⟩ := hd.ol _ m
    rw [Int.neg_neg] at hj2
    have := nodup_get ht.nod hj2 hd.pj
    subst this
    have := hd.pl
    omega
  · obtain ⟨j2, hj2, -, -⟩ := hd.ol _ m
    exact ht.cons p (List.mem_of_getElem? hd.pj) (List.mem_of_getElem? hj2)

theorem LD.first {p : Int} (hd : LD n G K bs j p O) (ht : LT n G K bs) (hs : ∀ v, v ≤ n → ((se[v]?).getD false = true ↔ ∃ o ∈ O, o.natAbs = v)) (hl : se.length = n + 1) : LF n K bs p O (-p :: O) 0 1 se := by
  refine ⟨rfl, rfl, fun x => by simp, List.nodup_cons.2 ⟨(hd.notIn ht).1, hd.ond⟩, hs, hl, Nat.le_refl _, fun _ => rfl, fun h => absurd h (by omega), fun t y j h1 h2 => absurd h1 (by omega)⟩

theorem LF.at {p : Int} {xs : List Int} {lv k : Nat} (h : LF n K bs p O xs lv k se) (hd : LD n G K bs j p O) {y : Int} (hy : xs[k]? = some y) : ∃ j2, K[j2]? = some (-y) ∧ 0 < lvl bs j2 ∧ lvl bs j2 < bs.length := by
  have hm := List.mem_of_getElem? hy
  rcases (h.mem y).1 hm with e | e
  · have h1 := h.x0
    rw [← e] at h1
    have := nodup_get h.nod hy h1
    have := h.k1
    omega
  · exact hd.ol y e

theorem LF.at' {p : Int} {xs : List Int} {lv k t : Nat} (h : LF n K bs p O xs lv k se) (hd : LD n G K bs j p O) {y : Int} (hy : xs[t]? = some y) (ht : 1 ≤ t) : ∃ j2, K[j2]? = some (-y) ∧ 0 < lvl bs j2 ∧ lvl bs j2 < bs.length := by
  have hm := List.mem_of_getElem? hy
  rcases (h.mem y).1 hm with e | e
  · have h1 := h.x0
    rw [← e] at h1
    have := nodup_get h.nod hy h1
    omega
  · exact hd.ol y e

theorem LF.step {p : Int} {xs : List Int} {lv k : Nat} (h : LF n K bs p O xs lv k se) (ht : LT n G K bs) (hd : LD n G K bs j p O) {y : Int} (hy : xs[k]? = some y) {j2 : Nat} (hj : K[j2]? = some (-y)) (hyn : y.natAbs ≤ n) :
    (lvl bs j2 ≤ lv → LF n K bs p O xs lv (k + 1) (se.set y.natAbs false)) ∧ (lv < lvl bs j2 → LF n K bs p O (swapL xs 1 k) (lvl bs j2) (k + 1) (se.set y.natAbs false)) := by
  have hk1 := h.k1
  have hkl := (List.getElem?_eq_some_iff.1 hy).1
  have hse : ∀ (zs : List Int), (∀ o, o ∈ zs ↔ o ∈ xs.drop (k + 1)) → ∀ v, v ≤ n → (((se.set y.natAbs false)[v]?).getD false = true ↔ ∃ o ∈ zs, o.natAbs = v) := fun zs hz v hv2 => by
    rw [seen_set (by rw [h.sl]; omega)]
    have hdr := drop_at hy
    by_cases q : v = y.natAbs
    · rw [if_pos q]
      refine ⟨fun e => (by cases e), fun ⟨o, ho, e⟩ => ?_⟩
      exfalso
      have ho2 := (hz o).1 ho
      have hom : o ∈ xs := List.mem_of_mem_drop ho2
      obtain ⟨t, hot⟩ := List.mem_iff_getElem?.1 ho2
      rw [List.getElem?_drop] at hot
      obtain ⟨jo, hjo, -, -⟩ := h.at' hd (t := k + 1 + t) hot (by omega)
      have := place_eq ht.nod ht.cons hjo hj (by rw [Int.natAbs_neg, Int.natAbs_neg]; omega)
      subst this
      rw [hj] at hjo
      injection hjo with hjo
      have e2 : o = y := by omega
      rw [e2] at hot
      have := nodup_get h.nod hot hy
      omega
    · rw [if_neg q, h.sq v hv2, hdr]
      constructor
      · rintro ⟨o, ho, e⟩
        rcases List.mem_cons.1 ho with ho | ho
        · subst ho; exact absurd e.symm q
        · exact ⟨o, (hz o).2 ho, e⟩
      · rintro ⟨o, ho, e⟩
        exact ⟨o, List.mem_cons_of_mem _ ((hz o).1 ho), e⟩
  refine ⟨fun hle => ?_, fun hgt => ?_⟩
  · have hk2 : k ≠ 1 := fun e => by
      have := h.l0 e
      obtain ⟨j3, hj3, h3, -⟩ := h.at hd hy
      have := nodup_get ht.nod hj3 hj
      subst this
      omega
    refine ⟨h.len, h.x0, h.mem, h.nod, hse _ (fun _ => Iff.rfl), by simpa using h.sl, by omega, fun e => by omega, fun _ => h.l1 (by omega), fun t z jz h1 h2 hz hjz => ?_⟩
    by_cases q : t < k
    · exact h.lm t z jz h1 q hz hjz
    · have : t = k := by omega
      subst this
      rw [hy] at hz
      injection hz with hz
      subst hz
      have := nodup_get ht.nod hjz hj
      subst this
      exact hle
  · have h1l : 1 < xs.length := by omega
    have hg := swapL_get (c := xs) (j := 1) (k := k) h1l hkl
    refine ⟨by rw [swapL_length]; exact h.len, by rw [hg, if_neg (by omega), if_neg (by omega)]; exact h.x0, fun x => (swapL_mem h1l hkl).trans (h.mem x), swapL_nodup h1l hkl h.nod, hse _ (fun o => ?_), by simpa using h.sl, by omega, fun e => by omega, fun _ => ⟨y, j2, ?_, hj, rfl⟩, fun t z jz q1 q2 hz hjz => ?_⟩
    · have e : (swapL xs 1 k).drop (k + 1) = xs.drop (k + 1) := by
        apply List.ext_getElem?
        intro t
        rw [List.getElem?_drop, List.getElem?_drop, hg, if_neg (by omega), if_neg (by omega)]
      rw [e]
    · rw [hg]
      by_cases q : 1 = k
      · rw [if_pos q, ← hy, q]
      · rw [if_neg q, if_pos rfl]; exact hy
    · rw [hg] at hz
      split at hz
      · obtain ⟨j3, hj3⟩ : ∃ j3, K[j3]? = some (-z) := ⟨jz, hjz⟩
        by_cases q : k = 1
        · rw [q] at hy
          rw [hy] at hz
          injection hz with hz
          subst hz
          have := nodup_get ht.nod hjz hj
          subst this
          exact Nat.le_refl _
        · have := h.lm 1 z jz (Nat.le_refl _) (by omega) hz hjz
          omega
      · split at hz
        · rw [hy] at hz
          injection hz with hz
          subst hz
          have := nodup_get ht.nod hjz hj
          subst this
          exact Nat.le_refl _
        · have := h.lm t z jz q1 (by omega) hz hjz
          omega

/-- What learn answers: c the clause, lv the level to go back to. -/
structure LA (n : Nat) (K : List Int) (bs : List Nat) (p : Int) (O c : List Int) (lv : Nat) : Prop where
  len : c.length = O.length + 1
  x0 : c[0]? = some (-p)
  mem : ∀ x, x ∈ c ↔ x = -p ∨ x ∈ O
  nod : c.Nodup
  l0 : O = [] → lv = 0
  l1 : O ≠ [] → ∃ y j, c[1]? = some y ∧ K[j]? = some (-y) ∧ lvl bs j = lv
  lm : ∀ o ∈ O, ∀ j, K[j]? = some (-o) → lvl bs j ≤ lv

theorem LF.done {p : Int} {xs : List Int} {lv k : Nat} (h : LF n K bs p O xs lv k se) (hpO : -p ∉ O) (hk : k = xs.length) : LA n K bs p O xs lv ∧ ∀ b ∈ se, b = false := by
  refine ⟨⟨h.len, h.x0, h.mem, h.nod, fun e => h.l0 (by rw [hk, h.len, e]; rfl), fun e => h.l1 ?_, fun o ho j hj => ?_⟩, fun b hb => ?_⟩
  · have := List.length_pos_iff.2 e
    have := h.len
    omega
  · obtain ⟨t, ht⟩ := List.mem_iff_getElem?.1 ((h.mem o).2 (.inr ho))
    have htl := (List.getElem?_eq_some_iff.1 ht).1
    refine h.lm t o j ?_ (by omega) ht hj
    rcases Nat.eq_zero_or_pos t with q | q
    · subst q
      rw [h.x0] at ht
      injection ht with ht
      rw [← ht] at ho
      exact absurd ho hpO
    · exact q
  · obtain ⟨v, hv⟩ := List.mem_iff_getElem?.1 hb
    have hvl := (List.getElem?_eq_some_iff.1 hv).1
    rw [h.sl] at hvl
    have h1 := h.sq v (by omega)
    rw [hv] at h1
    cases b with
    | false => rfl
    | true =>
      obtain ⟨o, ho, -⟩ := h1.1 rfl
      rw [List.drop_eq_nil_of_le (by omega)] at ho
      cases ho

end

end Go.Proofs.Ytfofabbnbmieoaa.Ord

/- The contract of solve's back. -/
namespace Go.Proofs.Ytfofabbnbmieoaa.Ord
open Go.RowKit Go.Conc

attribute [local go_sem ↓] Go.wp_at_zero Go.wp_at_succ
attribute [local go_sem ↓ high] app_mark

section
variable {tag : Nat → KT} {B : Nat} {w0 w : World} {a : SA} {v : SV} {d : SD}

theorem SM.phac (h : SM tag B w0 w a v d) {i : Nat} (hi : i < a.n1) : w.cell? ⟨a.bp, i, none⟩ = some (.int .i8 ((d.ph[i]?).getD 0)) := by
  rw [fit_cell (h.co .pha).1.1 i]
  have hl := (h.co .pha).2
  unfold vi8
  rw [List.getElem?_map, List.getElem?_eq_getElem (by omega)]
  rfl

theorem SM.lvsc (h : SM tag B w0 w a v d) : ∃ au cu, v.vd = .slice au d.ls.length cu ∧ w.ownsRow B 94 1 v.vd d.ls.length (ints d.ls) := by
  have h1 := (h.co .lvs).1
  have e : (ints d.ls).length = d.ls.length := by simp [ints]
  rw [e] at h1
  obtain ⟨au, cu, hv⟩ := own_lenV' h1
  exact ⟨au, cu, hv, h1⟩

/-- The trail is cut. -/
theorem SM.cutT (h : SM tag B w0 w a v d) {ao : Option Addr} {n b cap : Nat} (hv : v.vt = .slice ao n cap) (hb : b ≤ d.K.length) :
    SM tag B w0 (w.setCell ⟨a.bx, 8, none⟩ (.slice ao b cap)) a { v with vt := .slice ao b cap } { d with K := d.K.take b } := by
  have hsb : tag a.bx = .sta := (h.co .sta).2
  have h1 := (h.co .trl).1
  have e : (ints d.K).length = d.K.length := by simp [ints]
  rw [e, hv] at h1
  obtain ⟨hn, -, -⟩ := own_cap h1
  subst hn
  refine h.upd (fun s => s = .trl ∨ s = .sta) (by rintro (e | e) <;> cases e) ((Touch.refl _ w).setCell (p := ⟨a.bx, 8, none⟩) (.inr hsb) _) (fun _ _ => rfl) (fun k _ hk => h.tB k hk) (fun s hs hc => by cases s <;> first | exact hc | exact absurd (.inl rfl) hs | exact absurd (.inr rfl) hs) ?_
  rintro s (rfl | rfl)
  · have h2 := own_cut h1 hb
    have e2 : (ints d.K).take b = ints (d.K.take b) := by unfold ints; rw [List.map_take]
    have e3 : (ints (d.K.take b)).length = b := by simp [ints]; omega
    rw [e2] at h2
    refine ⟨?_, fun g hg => (h.co .trl).2 g (by rw [hv]; cases ao <;> exact hg)⟩
    show World.ownsRow _ B 3 1 (.slice ao b cap) (ints (d.K.take b)).length (ints (d.K.take b))
    rw [e3]
    exact own_setO h2 (h.co .sta).1 (by decide) _ _
  · exact (h.co .sta).set (o := 8) _

/-- The levels are cut. -/
theorem SM.cutL (h : SM tag B w0 w a v d) {ao : Option Addr} {n b cap : Nat} (hv : v.vd = .slice ao n cap) (hb : b ≤ d.ls.length) :
    SM tag B w0 (w.setCell ⟨a.bx, 10, none⟩ (.slice ao b cap)) a { v with vd := .slice ao b cap } { d with ls := d.ls.take b } := by
  have hsb : tag a.bx = .sta := (h.co .sta).2
  have h1 := (h.co .lvs).1
  have e : (ints d.ls).length = d.ls.length := by simp [ints]
  rw [e, hv] at h1
  obtain ⟨hn, -, -⟩ := own_cap h1
  subst hn
  refine h.upd (fun s => s = .lvs ∨ s = .sta) (by rintro (e | e) <;> cases e) ((Touch.refl _ w).setCell (p := ⟨a.bx, 10, none⟩) (.inr hsb) _) (fun _ _ => rfl) (fun k _ hk => h.tB k hk) (fun s hs hc => by cases s <;> first | exact hc | exact absurd (.inl rfl) hs | exact absurd (.inr rfl) hs) ?_
  rintro s (rfl | rfl)
  · have h2 := own_cut h1 hb
    have e2 : (ints d.ls).take b = ints (d.ls.take b) := by unfold ints; rw [List.map_take]
    have e3 : (ints (d.ls.take b)).length = b := by simp [ints]; omega
    rw [e2] at h2
    refine ⟨?_, fun g hg => (h.co .lvs).2 g (by rw [hv]; cases ao <;> exact hg)⟩
    show World.ownsRow _ B 94 1 (.slice ao b cap) (ints (d.ls.take b)).length (ints (d.ls.take b))
    rw [e3]
    exact own_setO h2 (h.co .sta).1 (by decide) _ _
  · exact (h.co .sta).set (o := 10) _

end

/-- No level is taken back. -/
theorem sol_back0 (tag : Nat → KT) (B : Nat) (w0 w : World) (a : SA) (v : SV) (d : SD) (l : Nat) (h : SM tag B w0 w a v d) (hl : d.ls.length ≤ l) :
    Calls Try.prog 53 #[.pointer (some ⟨a.bx, 0, none⟩), .int .i64 l] w fun e w' => e = .returned (.tuple #[]) ∧ w = w' := by
  obtain ⟨ad, cd, hvd, -⟩ := h.lvsc
  have b10 : w.cell? ⟨a.bx, 10, none⟩ = some v.vd := h.cell 10
  rw [hvd] at b10
  obtain ⟨nl, hnl⟩ : ∃ t, d.ls.length = t := ⟨_, rfl⟩
  rw [hnl] at b10 hl
  have hli : (nl : Int) ≤ l := by omega
  clear h hvd hnl
  go_enter Try.func53, Try.ntmps53
  go_wp2_with fail
  exact ⟨rfl, _, results_none rfl _ _ _, rfl, rfl⟩

set_option maxRecDepth 100000 in
set_option maxHeartbeats 8000000 in
theorem sol_back (tag : Nat → KT) (B : Nat) (w0 w : World) (a : SA) (v : SV) (d : SD) (n : Nat) (Rz : List Int) (bs : List Nat) (l b : Nat) (h : SM tag B w0 w a v d) (hn : a.n1 = n + 1) (hn1 : n ≤ 1048576) (hk : LK n d Rz bs) (hnd : d.K.Nodup) (hcc : ∀ y ∈ d.K, -y ∉ d.K) (hok : ∀ y ∈ d.K, LitOk n y) (hinc : bs.Pairwise (· < ·)) (hl : bs[l]? = some b) (hbK : b < d.K.length) :
    Calls Try.prog 53 #[.pointer (some ⟨a.bx, 0, none⟩), .int .i64 l] w fun e w' => e = .returned (.tuple #[]) ∧ ∃ tag' v' va ph In, SM tag' B w0 w' a v' { d with va := va, ph := ph, In := In, K := d.K.take b, dn := b, ls := d.ls.take l } ∧ SR tag tag' w w' ∧ LK n { d with va := va, ph := ph, In := In, K := d.K.take b, dn := b, ls := d.ls.take l } (Rz.take b) (bs.take l) := by
  have hKn : d.K.length ≤ n := lits_le hnd hcc hok
  obtain ⟨ad, cd, hvd, hod⟩ := h.lvsc
  obtain ⟨at1, ct, hvt, hot⟩ := h.trlc
  have b10 : w.cell? ⟨a.bx, 10, none⟩ = some v.vd := h.cell 10
  have b8 : w.cell? ⟨a.bx, 8, none⟩ = some v.vt := h.cell 8
  rw [hvd] at b10 hod
  rw [hvt] at b8 hot
  have hll : l < bs.length := (List.getElem?_eq_some_iff.1 hl).1
  have hls : d.ls[l]? = some (b : Int) := by rw [hk.ls, List.getElem?_map, hl]; rfl
  have hlsl : d.ls.length = bs.length := by rw [hk.ls, List.length_map]
  obtain ⟨bd, od, had, hcd⟩ := own_slv hod l (.int .i64 (b : Int)) (by unfold ints; rw [List.getElem?_map, hls]; rfl)
  subst had
  obtain ⟨x0, hx0⟩ : ∃ x, d.K[b]? = some x := ⟨_, List.getElem?_eq_getElem hbK⟩
  obtain ⟨bt, ot, hat, -⟩ := own_slv hot b (.int .i64 x0) (by unfold ints; rw [List.getElem?_map, hx0]; rfl)
  subst hat
  obtain ⟨-, hkc, -⟩ := own_cap hot
  obtain ⟨-, hlc, -⟩ := own_cap hod
  have hbct : b ≤ ct := by omega
  have hlcd : l ≤ cd := by omega
  obtain ⟨kl, hkl⟩ : ∃ t, d.K.length = t := ⟨_, rfl⟩
  obtain ⟨nl, hnl⟩ : ∃ t, d.ls.length = t := ⟨_, rfl⟩
  have hrun : ∀ wx, (Instr.slice 22 (.slice (some ⟨bt, ot, none⟩) kl ct) (some (.int .i64 (b : Int))) none none).run Try.prog wx = .ok (.slice (some ⟨bt, ot + b, none⟩) (kl - b) (ct - b)) wx := by
    have h1 := slice_fromG (P := Try.prog) (t := 22) (e := 3) (ad := ⟨bt, ot, none⟩) (n := kl) (c := ct) (k := (b : Int)) (m := b) rfl Try.underlying22 (fun wx => by kernel_rfl) (by omega)
    rw [if_neg (by omega), Addr.add_lit] at h1
    exact h1
  have hrun2 := slice_toG (P := Try.prog) (t := 22) (e := 3) (a := some ⟨bt, ot, none⟩) (n := kl) (c := ct) (k := (b : Int)) (m := b) rfl Try.underlying22 (fun wx => by kernel_rfl) (by omega)
  have hrun3 := slice_toG (P := Try.prog) (t := 81) (e := 94) (a := some ⟨bd, od, none⟩) (n := nl) (c := cd) (k := (l : Int)) (m := l) rfl Try.underlying81 (fun wx => by kernel_rfl) (by omega)
  rw [hnl] at b10
  rw [hkl] at b8
  have hli : (l : Int) < nl := by omega
  have hli3 : ¬ nl ≤ l := by omega
  have hl0 : (0 : Int) ≤ l := by omega
  have HH := hid h
  have HU : Hid (UD n d b 0 d) := hid (hk.ud b)
  have HK := hid (And.intro hnd (And.intro hcc (And.intro hok (And.intro hinc (And.intro hl (And.intro hk hvt))))))
  have HN := hid (And.intro hn (And.intro hn1 (And.intro hKn (And.intro hbK (And.intro hkl (And.intro hnl (And.intro hlsl hvd)))))))
  obtain ⟨M, hM⟩ : ∃ t, kl - b = t := ⟨_, rfl⟩
  rw [hM] at hrun
  have HM := hid hM
  clear h hk hnd hcc hok hinc hl hn hn1 hKn hbK hvd hod hvt hot hls hlsl hll hx0 hkc hlc hkl hnl hM
  go_enter Try.func53, Try.ntmps53
  go_wp2_with fail
  go_loopw [30] (fun s30 wr => ∃ (tag' : Nat → KT) (d' : SD) (j : Nat), s30 = .int .i64 j ∧ j ≤ M ∧ Hid (SM tag' B w0 wr a v d' ∧ SR tag tag' w wr ∧ UD n d b j d')) (fun s30 _ => (M - (intOf s30)).toNat)
  case atStart => exact ⟨tag, d, 0, rfl, Nat.zero_le _, hid ⟨HH.out, SR.refl _ _, HU.out⟩⟩
  case round =>
    clear HH HU b10 b8 hcd hrun hrun2 hrun3
    obtain ⟨tag1, d1, j, rfl, hjM, HS⟩ := hrel
    by_cases hlt : j < M
    · have hltj : (j : Int) < M := by omega
      have hwj : IntKind.i64.wrap ((j : Int) + 1) = (j : Int) + 1 := IntWalk.i64_in _ (by have := HN.out; have := HM.out; omega)
      obtain ⟨hM1, hS1, hU1⟩ := HS.out
      obtain ⟨va1, ph1, In1, hd1⟩ := hU1.same
      obtain ⟨x, hx⟩ : ∃ x, d.K[b + j]? = some x := ⟨_, List.getElem?_eq_getElem (by have := HN.out.2.2.2.2.1; have := HM.out; omega)⟩
      have hxm := List.mem_of_getElem? hx
      have hxo := HK.out.2.2.1 x hxm
      have hvr := vrL_range hxo
      obtain ⟨k, hk⟩ : ∃ k : Nat, vrL x = k := ⟨(vrL x).toNat, by omega⟩
      have hkt : (vrL x).toNat = k := by omega
      have hkn : k < a.n1 := by have := HN.out.1; omega
      have hxb : -1048577 ≤ x ∧ x ≤ 1048577 := by have := HN.out.2.1; unfold LitOk at hxo; omega
      have HV : Hid (∀ wz : World, Calls Try.prog 70 #[.int .i64 x] wz fun e w' => e = .returned (.int .i64 (k : Int)) ∧ wz = w') := hid fun wz => sol_variable x k wz hk hxb
      -- the trail's cell
      obtain ⟨at2, ct2, hvt2, hot2⟩ := hM1.trlc
      have hK1 : d1.K = d.K := by rw [hd1]
      rw [hK1, hvt2] at hot2
      have hcx : wr.cell? ⟨bt, ot + b + j, none⟩ = some (.int .i64 x) := by
        obtain ⟨bt3, ot3, e3, h3⟩ := own_slv hot2 (b + j) (.int .i64 x) (by unfold ints; rw [List.getElem?_map, hx]; rfl)
        have e4 := HK.out.2.2.2.2.2.2
        rw [hvt2] at e4
        injection e4 with e4
        rw [e4] at e3
        injection e3 with e3
        injection e3 with e3 e5
        subst e3 e5
        rw [Nat.add_assoc]
        exact h3
      obtain ⟨y, hy⟩ : ∃ y, (d1.va[k]?).getD 0 = y := ⟨_, rfl⟩
      have cv := hM1.valc hkn
      rw [hy] at cv
      have cp := hM1.phac hkn
      have b3 : wr.cell? ⟨a.bx, 3, none⟩ = some (.slice (some ⟨a.bv, 0, none⟩) a.n1 a.n1) := hM1.cell 3
      have b4 : wr.cell? ⟨a.bx, 4, none⟩ = some (.slice (some ⟨a.bp, 0, none⟩) a.n1 a.n1) := hM1.cell 4
      have hki : (k : Int) < a.n1 := by omega
      have hk0 : (0 : Int) ≤ k := by omega
      have fp : wr.frozen? ⟨a.bp, k, none⟩ = false := Fx.free (hM1.co .pha).1
      have hM2 := hM1.setPha k y
      have cv2 := hM2.valc hkn
      have hy2 : (({ d1 with ph := d1.ph.set k y } : SD).va[k]?).getD 0 = y := hy
      rw [hy2] at cv2
      have b32 : (wr.setCell ⟨a.bp, k, none⟩ (.int .i8 y)).cell? ⟨a.bx, 3, none⟩ = some (.slice (some ⟨a.bv, 0, none⟩) a.n1 a.n1) := hM2.cell 3
      have b42 : (wr.setCell ⟨a.bp, k, none⟩ (.int .i8 y)).cell? ⟨a.bx, 4, none⟩ = some (.slice (some ⟨a.bp, 0, none⟩) a.n1 a.n1) := hM2.cell 4
      have fv : (wr.setCell ⟨a.bp, k, none⟩ (.int .i8 y)).frozen? ⟨a.bv, k, none⟩ = false := Fx.free (hM2.co .val).1
      have hM3 := hM2.setVal k 0
      have hS3 := ((hS1.same (hM1.chg (o := k) (hM1.co .pha).1.2 nofun (.int .i8 y))).same (hM2.chg (o := k) (hM2.co .val).1.2 nofun (.int .i8 0))).drew
      have HP := hid (hM3.drew.push (v0 := (k : Int)))
      have b0 : (((wr.setCell ⟨a.bp, k, none⟩ (.int .i8 y)).setCell ⟨a.bv, k, none⟩ (.int .i8 0)).drew).cell? ⟨a.bx, 0, none⟩ = some (.pointer (some ⟨a.bh, 0, none⟩)) := hM3.drew.cell 0
      have HU2 := hid (hU1.step HK.out.1 HK.out.2.1 HK.out.2.2.1 hx (by have h1 := (hM1.co .val).2; rw [hU1.vl] at h1; rw [h1]; exact HN.out.1) (by have h1 := (hM1.co .hep).2; rw [hU1.il] at h1; have := HN.out.1; omega) y)
      rw [hkt, hk] at HU2
      have HS3 := hid hS3
      clear hM1 hS1 hU1 hd1 hx hxm hxo hvr hk hkt hkn hxb hvt2 hot2 hK1 hy hM2 hM3 hS3 hy2
      go_wp2_with (go_at_call 70; refine (HV.out _).mono ?_; rintro e w' ⟨rfl, rfl⟩)
      refine wp_region_R (fun yw => yw.cell? ⟨a.bx, 3, none⟩ = some (.slice (some ⟨a.bv, 0, none⟩) a.n1 a.n1) ∧ yw.cell? ⟨a.bx, 4, none⟩ = some (.slice (some ⟨a.bp, 0, none⟩) a.n1 a.n1) ∧ yw.cell? ⟨a.bv, k, none⟩ = some (.int .i8 y)) [20] (by kernel_rfl) ?_
      have hHeld : (fun yw : World => yw.cell? ⟨a.bx, 3, none⟩ = some (.slice (some ⟨a.bv, 0, none⟩) a.n1 a.n1) ∧ yw.cell? ⟨a.bx, 4, none⟩ = some (.slice (some ⟨a.bp, 0, none⟩) a.n1 a.n1) ∧ yw.cell? ⟨a.bv, k, none⟩ = some (.int .i8 y)) wr.drew := ⟨b3, b4, cv⟩
      refine wpR.take 0 rfl (by kernel_rfl) (fun _ _ _ h => h) (by rfl) (v := ?_) ?_ (by assumption) ?_
      rotate_left 1
      · (intro wx hSw; (try dsimp only at hSw); go_simp; try with_reducible rfl)
      try simp only [Act.put, List.setIfInBounds_toArray, List.set_cons_zero, List.set_cons_succ]
      refine wpR.take 1 rfl (by kernel_rfl) (fun _ _ _ h => h) (by rfl) (v := ?_) ?_ (by assumption) ?_
      rotate_left 1
      · (intro wx hSw; (try dsimp only at hSw); go_simp; try with_reducible rfl)
      try simp only [Act.put, List.setIfInBounds_toArray, List.set_cons_zero, List.set_cons_succ]
      refine wpR.take 2 rfl (by kernel_rfl) (fun _ _ _ h => h) (by rfl) (v := ?_) ?_ (by assumption) ?_
      rotate_left 1
      · (intro wx hSw; (try dsimp only at hSw); go_simp; try with_reducible rfl)
      try simp only [Act.put, List.setIfInBounds_toArray, List.set_cons_zero, List.set_cons_succ]
      refine wpR.take 3 rfl (by kernel_rfl) (fun _ _ _ h => h) (by rfl) (v := ?_) ?_ (by assumption) ?_
      rotate_left 1
      · (intro wx hSw; (try dsimp only at hSw); go_simp; try with_reducible rfl)
      try simp only [Act.put, List.setIfInBounds_toArray, List.set_cons_zero, List.set_cons_succ]
      refine wpR.take 4 rfl (by kernel_rfl) (fun _ _ _ h => h) (by rfl) (v := ?_) ?_ (by assumption) ?_
      rotate_left 1
      · (intro wx hSw; (try dsimp only at hSw); go_simp; try with_reducible rfl)
      try simp only [Act.put, List.setIfInBounds_toArray, List.set_cons_zero, List.set_cons_succ]
      refine wpR.take 5 rfl (by kernel_rfl) (fun _ _ _ h => h) (by rfl) (v := ?_) ?_ (by assumption) ?_
      rotate_left 1
      · (intro wx hSw; (try dsimp only at hSw); go_simp; try with_reducible rfl)
      try simp only [Act.put, List.setIfInBounds_toArray, List.set_cons_zero, List.set_cons_succ]
      refine wpR.take 6 rfl (by kernel_rfl) (fun _ _ _ h => h) (by rfl) (v := ?_) ?_ (by assumption) ?_
      rotate_left 1
      · (intro wx hSw; (try dsimp only at hSw); go_simp; try with_reducible rfl)
      try simp only [Act.put, List.setIfInBounds_toArray, List.set_cons_zero, List.set_cons_succ]
      refine wpR.take 7 rfl (by kernel_rfl) (fun _ _ _ h => h) (by rfl) (v := ?_) ?_ (by assumption) ?_
      rotate_left 1
      · (intro wx hSw; (try dsimp only at hSw); go_simp; try with_reducible rfl)
      try simp only [Act.put, List.setIfInBounds_toArray, List.set_cons_zero, List.set_cons_succ]
      refine wpR.take 8 rfl (by kernel_rfl) (fun _ _ _ h => h) (by rfl) (v := ?_) ?_ (by assumption) ?_
      rotate_left 1
      · (intro wx hSw; (try dsimp only at hSw); go_simp; try with_reducible rfl)
      try simp only [Act.put, List.setIfInBounds_toArray, List.set_cons_zero, List.set_cons_succ]
      refine wpR.take 9 rfl (by kernel_rfl) (fun _ _ _ h => h) (by rfl) (v := ?_) ?_ (by assumption) ?_
      rotate_left 1
      · (intro wx hSw; (try dsimp only at hSw); go_simp; try with_reducible rfl)
      try simp only [Act.put, List.setIfInBounds_toArray, List.set_cons_zero, List.set_cons_succ]
      refine wpR.take 10 rfl (by kernel_rfl) (fun _ _ _ h => h) (by rfl) (v := ?_) ?_ (by assumption) ?_
      rotate_left 1
      · (intro wx hSw; (try dsimp only at hSw); go_simp; try with_reducible rfl)
      try simp only [Act.put, List.setIfInBounds_toArray, List.set_cons_zero, List.set_cons_succ]
      refine wpR.take 11 rfl (by kernel_rfl) (fun _ _ _ h => h) (by rfl) (v := ?_) ?_ (by assumption) ?_
      rotate_left 1
      · (intro wx hSw; (try dsimp only at hSw); go_simp; try with_reducible rfl)
      try simp only [Act.put, List.setIfInBounds_toArray, List.set_cons_zero, List.set_cons_succ]
      refine wpR.take 12 rfl (by kernel_rfl) (fun _ _ _ h => h) (by rfl) (v := ?_) ?_ (by assumption) ?_
      rotate_left 1
      · (intro wx hSw; (try dsimp only at hSw); go_simp; try with_reducible rfl)
      try simp only [Act.put, List.setIfInBounds_toArray, List.set_cons_zero, List.set_cons_succ]
      refine wpR.take 13 rfl (by kernel_rfl) (fun _ _ _ h => h) (by rfl) (v := ?_) ?_ (by assumption) ?_
      rotate_left 1
      · (intro wx hSw; (try dsimp only at hSw); go_simp; try with_reducible rfl)
      try simp only [Act.put, List.setIfInBounds_toArray, List.set_cons_zero, List.set_cons_succ]
      refine wpR.take 14 rfl (by kernel_rfl) (fun _ _ _ h => h) (by rfl) (v := ?_) ?_ (by assumption) ?_
      rotate_left 1
      · (intro wx hSw; (try dsimp only at hSw); go_simp; try with_reducible rfl)
      try simp only [Act.put, List.setIfInBounds_toArray, List.set_cons_zero, List.set_cons_succ]
      refine wpR.take 15 rfl (by kernel_rfl) (fun _ _ _ h => h) (by rfl) (v := ?_) ?_ (by assumption) ?_
      rotate_left 1
      · (intro wx hSw; (try dsimp only at hSw); go_simp; try with_reducible rfl)
      try simp only [Act.put, List.setIfInBounds_toArray, List.set_cons_zero, List.set_cons_succ]
      refine wpR.take 16 rfl (by kernel_rfl) (fun _ _ _ h => h) (by rfl) (v := ?_) ?_ (by assumption) ?_
      rotate_left 1
      · (intro wx hSw; (try dsimp only at hSw); go_simp; try with_reducible rfl)
      try simp only [Act.put, List.setIfInBounds_toArray, List.set_cons_zero, List.set_cons_succ]
      refine wpR.take 17 rfl (by kernel_rfl) (fun _ _ _ h => h) (by rfl) (v := ?_) ?_ (by assumption) ?_
      rotate_left 1
      · (intro wx hSw; (try dsimp only at hSw); go_simp; try with_reducible rfl)
      try simp only [Act.put, List.setIfInBounds_toArray, List.set_cons_zero, List.set_cons_succ]
      refine wpR.skip 18 rfl (by kernel_rfl) (by rfl) (w' := ?_) ?_ ?_ ?_
      rotate_left 1
      · (go_simp; first | done | with_reducible rfl | (refine ⟨?_, ?_⟩ <;> with_reducible rfl))
      · (intro _; exact ⟨b32, b42, cv2⟩)
      try simp only [Act.put]
      have hHeld0 := hHeld
      clear hHeld0
      have hHeld : (fun yw : World => yw.cell? ⟨a.bx, 3, none⟩ = some (.slice (some ⟨a.bv, 0, none⟩) a.n1 a.n1) ∧ yw.cell? ⟨a.bx, 4, none⟩ = some (.slice (some ⟨a.bp, 0, none⟩) a.n1 a.n1) ∧ yw.cell? ⟨a.bv, k, none⟩ = some (.int .i8 y)) (wr.setCell ⟨a.bp, k, none⟩ (.int .i8 y)).drew := ⟨b32, b42, cv2⟩
      refine wpR.take 19 rfl (by kernel_rfl) (fun _ _ _ h => h) (by rfl) (v := ?_) ?_ (by assumption) ?_
      rotate_left 1
      · (intro wx hSw; (try dsimp only at hSw); go_simp; try with_reducible rfl)
      try simp only [Act.put, List.setIfInBounds_toArray, List.set_cons_zero, List.set_cons_succ]
      refine wpR.skip 20 rfl (by kernel_rfl) (by rfl) (w' := ?_) ?_ ?_ ?_
      rotate_left 1
      · (go_simp; first | done | with_reducible rfl | (refine ⟨?_, ?_⟩ <;> with_reducible rfl))
      · (exact fun h => absurd (by decide) h)
      try simp only [Act.put]
      refine wpR.done (by kernel_rfl) ?_
      go_wp2_with fail
      refine HP.out.mono ?_
      rintro e w' ⟨rfl, hM4, hS4⟩
      have HM4 := hid (And.intro hM4 (And.intro (HS3.out.trans hS4) HU2.out))
      clear hM4 hS4 HP HU2 HS3 HS
      go_wp2_with fail
      go_roundw
      case rel =>
        exact ⟨_, _, j + 1, by simp, by omega, hid HM4.out⟩
      case measure => simp [intOf]; omega
    · have hje : j = M := by omega
      subst hje
      have hltj : ¬ (j : Int) < j := by omega
      obtain ⟨hM1, hS1, hU1⟩ := HS.out
      obtain ⟨va1, ph1, In1, hd1⟩ := hU1.same
      have hvt := HK.out.2.2.2.2.2.2
      have hvd := HN.out.2.2.2.2.2.2.2
      have b10 : wr.cell? ⟨a.bx, 10, none⟩ = some (.slice (some ⟨bd, od, none⟩) nl cd) := by rw [hM1.cell 10, ← HN.out.2.2.2.2.2.1, ← hvd]; rfl
      have b8 : wr.cell? ⟨a.bx, 8, none⟩ = some (.slice (some ⟨bt, ot, none⟩) kl ct) := by rw [hM1.cell 8, ← HN.out.2.2.2.2.1, ← hvt]; rfl
      have b9 : ∃ y, wr.cell? ⟨a.bx, 9, none⟩ = some y := ⟨_, hM1.cell 9⟩
      obtain ⟨y9, b9⟩ := b9
      have eK : d1.K = d.K := by rw [hd1]
      have el : d1.ls = d.ls := by rw [hd1]
      have hM2 := hM1.cutT hvt (b := b) (by rw [eK]; have := HN.out.2.2.2.1; omega)
      have hM3 := hM2.setDn b
      have hM4 := hM3.cutL hvd (b := l) (by show l ≤ d1.ls.length; rw [el, HN.out.2.2.2.2.2.1]; omega)
      have c9 : (wr.setCell ⟨a.bx, 8, none⟩ (.slice (some ⟨bt, ot, none⟩) b ct)).cell? ⟨a.bx, 9, none⟩ = some (.int .i64 d1.dn) := hM2.cell 9
      have c10 : ((wr.setCell ⟨a.bx, 8, none⟩ (.slice (some ⟨bt, ot, none⟩) b ct)).setCell ⟨a.bx, 9, none⟩ (.int .i64 b)).cell? ⟨a.bx, 10, none⟩ = some (.slice (some ⟨bd, od, none⟩) nl cd) := by rw [hM3.cell 10]; show some v.vd = _; rw [hvd, HN.out.2.2.2.2.2.1]
      have f8 : wr.frozen? ⟨a.bx, 8, none⟩ = false := Fx.free (hM1.co .sta)
      have f9 : (wr.setCell ⟨a.bx, 8, none⟩ (.slice (some ⟨bt, ot, none⟩) b ct)).frozen? ⟨a.bx, 9, none⟩ = false := Fx.free (hM2.co .sta)
      have f10 : ((wr.setCell ⟨a.bx, 8, none⟩ (.slice (some ⟨bt, ot, none⟩) b ct)).setCell ⟨a.bx, 9, none⟩ (.int .i64 b)).frozen? ⟨a.bx, 10, none⟩ = false := Fx.free (hM3.co .sta)
      have hS4 := ((hS1.same (hM1.chg (b := a.bx) (o := 8) (hM1.co .sta).2 nofun (.slice (some ⟨bt, ot, none⟩) b ct))).same (hM2.chg (b := a.bx) (o := 9) (hM1.co .sta).2 nofun (.int .i64 b))).same (hM3.chg (b := a.bx) (o := 10) (hM1.co .sta).2 nofun (.slice (some ⟨bd, od, none⟩) l cd))
      have hLK := hU1.done (Rz := Rz) (by have := HN.out.2.2.2.2.1; have := HM.out; omega) HK.out.2.2.2.2.2.1 HK.out.2.2.2.1 HK.out.2.2.2.2.1 (Nat.le_of_lt HN.out.2.2.2.1)
      have HF := hid (And.intro hM4.drew (And.intro hS4.drew hLK))
      have HE := hid hd1
      clear hM1 hS1 hU1 hd1 hvt hvd eK el hM2 hM3 hM4 hS4 hLK
      go_wp2_with fail
      refine wp_region_R (fun yw => yw.cell? ⟨a.bx, 8, none⟩ = some (.slice (some ⟨bt, ot, none⟩) kl ct) ∧ yw.cell? ⟨a.bx, 10, none⟩ = some (.slice (some ⟨bd, od, none⟩) nl cd)) [18, 21, 24] (by kernel_rfl) ?_
      have hHeld : (fun yw : World => yw.cell? ⟨a.bx, 8, none⟩ = some (.slice (some ⟨bt, ot, none⟩) kl ct) ∧ yw.cell? ⟨a.bx, 10, none⟩ = some (.slice (some ⟨bd, od, none⟩) nl cd)) wr.drew := ⟨b8, b10⟩
      refine wpR.pure 0 rfl (by kernel_rfl) (fun _ _ _ h => h) (by rfl) (v := ?_) ?_ ?_
      rotate_left 1
      · (intro wx _; go_simp; try with_reducible rfl)
      try simp only [Act.put, List.setIfInBounds_toArray, List.set_cons_zero, List.set_cons_succ]
      refine wpR.pure 1 rfl (by kernel_rfl) (fun _ _ _ h => h) (by rfl) (v := ?_) ?_ ?_
      rotate_left 1
      · (intro wx _; go_simp; try with_reducible rfl)
      try simp only [Act.put, List.setIfInBounds_toArray, List.set_cons_zero, List.set_cons_succ]
      refine wpR.pure 2 rfl (by kernel_rfl) (fun _ _ _ h => h) (by rfl) (v := ?_) ?_ ?_
      rotate_left 1
      · (intro wx _; go_simp; try with_reducible rfl)
      try simp only [Act.put, List.setIfInBounds_toArray, List.set_cons_zero, List.set_cons_succ]
      refine wpR.pure 3 rfl (by kernel_rfl) (fun _ _ _ h => h) (by rfl) (v := ?_) ?_ ?_
      rotate_left 1
      · (intro wx _; go_simp; try with_reducible rfl)
      try simp only [Act.put, List.setIfInBounds_toArray, List.set_cons_zero, List.set_cons_succ]
      refine wpR.pure 4 rfl (by kernel_rfl) (fun _ _ _ h => h) (by rfl) (v := ?_) ?_ ?_
      rotate_left 1
      · (intro wx _; go_simp; try with_reducible rfl)
      try simp only [Act.put, List.setIfInBounds_toArray, List.set_cons_zero, List.set_cons_succ]
      refine wpR.pure 5 rfl (by kernel_rfl) (fun _ _ _ h => h) (by rfl) (v := ?_) ?_ ?_
      rotate_left 1
      · (intro wx _; go_simp; try with_reducible rfl)
      try simp only [Act.put, List.setIfInBounds_toArray, List.set_cons_zero, List.set_cons_succ]
      refine wpR.take 6 rfl (by kernel_rfl) (fun _ _ _ h => h) (by rfl) (v := ?_) ?_ (by assumption) ?_
      rotate_left 1
      · (intro wx hSw; (try dsimp only at hSw); go_simp; try with_reducible rfl)
      try simp only [Act.put, List.setIfInBounds_toArray, List.set_cons_zero, List.set_cons_succ]
      refine wpR.pure 7 rfl (by kernel_rfl) (fun _ _ _ h => h) (by rfl) (v := ?_) ?_ ?_
      rotate_left 1
      · (intro wx _; go_simp; try with_reducible rfl)
      try simp only [Act.put, List.setIfInBounds_toArray, List.set_cons_zero, List.set_cons_succ]
      refine wpR.pure 8 rfl (by kernel_rfl) (fun _ _ _ h => h) (by rfl) (v := ?_) ?_ ?_
      rotate_left 1
      · (intro wx _; go_simp; try with_reducible rfl)
      try simp only [Act.put, List.setIfInBounds_toArray, List.set_cons_zero, List.set_cons_succ]
      refine wpR.pure 9 rfl (by kernel_rfl) (fun _ _ _ h => h) (by rfl) (v := ?_) ?_ ?_
      rotate_left 1
      · (intro wx _; go_simp; try with_reducible rfl)
      try simp only [Act.put, List.setIfInBounds_toArray, List.set_cons_zero, List.set_cons_succ]
      refine wpR.pure 10 rfl (by kernel_rfl) (fun _ _ _ h => h) (by rfl) (v := ?_) ?_ ?_
      rotate_left 1
      · (intro wx _; go_simp; try with_reducible rfl)
      try simp only [Act.put, List.setIfInBounds_toArray, List.set_cons_zero, List.set_cons_succ]
      refine wpR.pure 11 rfl (by kernel_rfl) (fun _ _ _ h => h) (by rfl) (v := ?_) ?_ ?_
      rotate_left 1
      · (intro wx _; go_simp; try with_reducible rfl)
      try simp only [Act.put, List.setIfInBounds_toArray, List.set_cons_zero, List.set_cons_succ]
      refine wpR.pure 12 rfl (by kernel_rfl) (fun _ _ _ h => h) (by rfl) (v := ?_) ?_ ?_
      rotate_left 1
      · (intro wx _; go_simp; try with_reducible rfl)
      try simp only [Act.put, List.setIfInBounds_toArray, List.set_cons_zero, List.set_cons_succ]
      refine wpR.take 13 rfl (by kernel_rfl) (fun _ _ _ h => h) (by rfl) (v := ?_) ?_ (by assumption) ?_
      rotate_left 1
      · (intro wx hSw; (try dsimp only at hSw); go_simp; try with_reducible rfl)
      try simp only [Act.put, List.setIfInBounds_toArray, List.set_cons_zero, List.set_cons_succ]
      refine wpR.pure 14 rfl (by kernel_rfl) (fun _ _ _ h => h) (by rfl) (v := ?_) ?_ ?_
      rotate_left 1
      · (intro wx _; go_simp; try with_reducible rfl)
      try simp only [Act.put, List.setIfInBounds_toArray, List.set_cons_zero, List.set_cons_succ]
      refine wpR.pure 15 rfl (by kernel_rfl) (fun _ _ _ h => h) (by rfl) (v := ?_) ?_ ?_
      rotate_left 1
      · (intro wx _; go_simp; try with_reducible rfl)
      try simp only [Act.put, List.setIfInBounds_toArray, List.set_cons_zero, List.set_cons_succ]
      refine wpR.pure 16 rfl (by kernel_rfl) (fun _ _ _ h => h) (by rfl) (v := ?_) ?_ ?_
      rotate_left 1
      · (intro wx _; go_simp; try with_reducible rfl)
      try simp only [Act.put, List.setIfInBounds_toArray, List.set_cons_zero, List.set_cons_succ]
      refine wpR.pure 17 rfl (by kernel_rfl) (fun _ _ _ h => h) (by rfl) (v := ?_) ?_ ?_
      rotate_left 1
      · (intro wx _; go_simp; try with_reducible rfl)
      try simp only [Act.put, List.setIfInBounds_toArray, List.set_cons_zero, List.set_cons_succ]
      refine wpR.skip 18 rfl (by kernel_rfl) (by rfl) (w' := ?_) ?_ ?_ ?_
      rotate_left 1
      · (go_simp; first | done | with_reducible rfl | (refine ⟨?_, ?_⟩ <;> with_reducible rfl))
      · (intro q; exact absurd (by decide) q)
      try simp only [Act.put]
      refine wpR.pure 19 rfl (by kernel_rfl) (fun _ _ _ h => h) (by rfl) (v := ?_) ?_ ?_
      rotate_left 1
      · (intro wx _; go_simp; try with_reducible rfl)
      try simp only [Act.put, List.setIfInBounds_toArray, List.set_cons_zero, List.set_cons_succ]
      refine wpR.pure 20 rfl (by kernel_rfl) (fun _ _ _ h => h) (by rfl) (v := ?_) ?_ ?_
      rotate_left 1
      · (intro wx _; go_simp; try with_reducible rfl)
      try simp only [Act.put, List.setIfInBounds_toArray, List.set_cons_zero, List.set_cons_succ]
      refine wpR.skip 21 rfl (by kernel_rfl) (by rfl) (w' := ?_) ?_ ?_ ?_
      rotate_left 1
      · (go_simp; first | done | with_reducible rfl | (refine ⟨?_, ?_⟩ <;> with_reducible rfl))
      · (intro q; exact absurd (by decide) q)
      try simp only [Act.put]
      refine wpR.pure 22 rfl (by kernel_rfl) (fun _ _ _ h => h) (by rfl) (v := ?_) ?_ ?_
      rotate_left 1
      · (intro wx _; go_simp; try with_reducible rfl)
      try simp only [Act.put, List.setIfInBounds_toArray, List.set_cons_zero, List.set_cons_succ]
      refine wpR.pure 23 rfl (by kernel_rfl) (fun _ _ _ h => h) (by rfl) (v := ?_) ?_ ?_
      rotate_left 1
      · (intro wx _; go_simp; try with_reducible rfl)
      try simp only [Act.put, List.setIfInBounds_toArray, List.set_cons_zero, List.set_cons_succ]
      refine wpR.skip 24 rfl (by kernel_rfl) (by rfl) (w' := ?_) ?_ ?_ ?_
      rotate_left 1
      · (go_simp; first | done | with_reducible rfl | (refine ⟨?_, ?_⟩ <;> with_reducible rfl))
      · (intro q; exact absurd (by decide) q)
      try simp only [Act.put]
      refine wpR.done (by kernel_rfl) ?_
      go_wp2_with fail
      exact ⟨rfl, _, results_none rfl _ _ _, rfl, _, _, _, _, _, (by have h := HF.out; rw [HE.out] at h; exact h)⟩

end Go.Proofs.Ytfofabbnbmieoaa.Ord
