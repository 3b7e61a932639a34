/- The walk of solve.Solve. -/
import Derived.Deep.LoopGhost
import Derived.Deep.DeepCutAuto
import Derived.Test.YtfofabbnbmieoaaQ7
import Derived.Test.YtfofabbnbmieoaaQSolN
import Derived.Test.YtfofabbnbmieoaaQ9

namespace Go.Proofs.Ytfofabbnbmieoaa.Ord
open Go.RowKit Go.Conc

attribute [local go_sem ↓] Go.wp_at_zero Go.wp_at_succ
attribute [local go_sem ↓ high] app_mark

/-- What Solve answers. -/
def solR (n : Nat) (F : List (List Int)) (b : Int) (w : World) (e : Ending) (w' : World) : Prop :=
  ∃ (ans : Int) (M : List Bool) (P : List (List Int)) (am ap : Option Addr) (cm cp : Nat), e = .returned (.tuple #[.agg #[.int .u8 ans, .slice am M.length cm, .slice ap P.length cp], .int .i64 0]) ∧ SolOk n F ans M P ∧ (b = 0 ∨ F = [] → ans ≠ 0) ∧ SlV w' am (bools M) ∧ Rws w' ap P ∧ (M.length ≤ cm ∧ (am = none → cm = 0)) ∧ (P.length ≤ cp ∧ (ap = none → cp = 0)) ∧ Below w.heap.size w w'

/-- What holds at the head of the main loop: k is the measure. -/
structure SvI (n : Nat) (F : List (List Int)) (tag0 : Nat → KT) (w0 wS : World) (a : SA) (k : Nat) (wr : World) (tag : Nat → KT) (v : SV) (d : SD) (Rz : List Int) (bs : List Nat) (cf rn un : Nat) : Prop where
  sm : SM tag w0.heap.size w0 wr a v d
  sr : SR tag0 tag wS wr
  lm : SLM n F d Rz bs
  cd : CD n (F ++ d.P) d.C (WtF d.Wt) d.K Rz bs d.dn
  cfe : cf = d.P.length
  rn1 : 1 ≤ rn
  rne : rn ≤ un
  une : un ≤ 65 * 3 ^ n + 64
  b0 : 0 ≤ d.bp ∧ d.bp ≤ 1099511627776
  fn : F = [] → d.P = []
  ke : k = ((3 ^ n - cf) * 2 + (if un ≤ cf then 1 else 0)) * (n + 1) + (n - d.K.length)

theorem slv_nil (w : World) : SlV w none (bools []) := fun j u hj => by simp [bools] at hj
theorem rws_nil (w : World) : Rws w none [] := fun j u hj => by simp at hj

theorem lexM {n X X' a a' : Nat} (h : X' < X) (ha : a' ≤ n) : X' * (n + 1) + a' < X * (n + 1) + a := by
  have h1 := Nat.mul_le_mul_right (n + 1) h
  have h2 : (X' + 1) * (n + 1) = X' * (n + 1) + (n + 1) := Nat.succ_mul _ _
  have h3 : Nat.succ X' * (n + 1) = (X' + 1) * (n + 1) := rfl
  omega

theorem LK.ls0 {n : Nat} {d : SD} {Rz : List Int} {bs : List Nat} (h : LK n d Rz bs) : d.ls.length = bs.length := by rw [h.ls, List.length_map]

theorem CD.klen {n : Nat} {G C : List (List Int)} {Wt : Int → List Nat} {K Rz : List Int} {bs : List Nat} {k : Nat} (h : CD n G C Wt K Rz bs k) : K.length ≤ n := lits_le h.nod h.cons h.kok

theorem slv_touch {S : Nat → Prop} {w w' : World} {g o : Nat} {vs : List Value} (h : SlV w (some ⟨g, o, none⟩) vs) (hT : Touch S w w') (hg : ¬ S g) : SlV w' (some ⟨g, o, none⟩) vs := fun j u hj => by
  obtain ⟨b, off, e, hc⟩ := h j u hj
  injection e with e
  injection e with e1 e2
  subst e1 e2
  exact ⟨g, o, rfl, hT.cellT hc hg⟩

theorem info_dec : (Try.prog.info? 94).map (fun i => (i.zero, i.size, i.bytes)) = some (some (.agg #[.int .i64 0]), 1, 8) := by kernel_rfl

theorem Ro.keepG {t : KT} {tag tag' : Nat → KT} {w w' : World} {g o n cap : Nat} {c : List Int} (h : Ro t tag w (.slice (some ⟨g, o, none⟩) n cap) c) (h1 : w'.heap[g]? = w.heap[g]?) (h2 : tag' g = tag g) : Ro t tag' w' (.slice (some ⟨g, o, none⟩) n cap) c := by
  obtain ⟨g', o', cap', cur, e, q2, q3, q4, q5⟩ := h
  injection e with e1 e2 e3
  injection e1 with e1
  injection e1 with e1 e4
  subst e1 e2 e3 e4
  exact ⟨g, o, cap, cur, rfl, q2, h2.trans q3, h1.trans q4, q5⟩

theorem Ro.tagG {t : KT} {tag : Nat → KT} {w : World} {g o n cap : Nat} {c : List Int} (h : Ro t tag w (.slice (some ⟨g, o, none⟩) n cap) c) : tag g = t ∧ g < w.heap.size ∧ (∀ (j : Nat) (x : Int), c[j]? = some x → w.cell? ⟨g, o + j, none⟩ = some (.int .i64 x)) := by
  obtain ⟨g', o', cap', cur, e, q2, q3, q4, q5⟩ := h
  injection e with e1 e2 e3
  injection e1 with e1
  injection e1 with e1 e4
  subst e1 e2 e3 e4
  exact ⟨q3, (Array.getElem?_eq_some_iff.1 q4).1, fun j x hj => by rw [cell_of_row _ _ _ _ _ _ q4]; exact q5 j x hj⟩

theorem SvI.drew {n : Nat} {F : List (List Int)} {tag0 : Nat → KT} {w0 wS : World} {a : SA} {k : Nat} {wr : World} {tag : Nat → KT} {v : SV} {d : SD} {Rz : List Int} {bs : List Nat} {cf rn un : Nat} (h : SvI n F tag0 w0 wS a k wr tag v d Rz bs cf rn un) : SvI n F tag0 w0 wS a k wr.drew tag v d Rz bs cf rn un :=
  ⟨h.sm.drew, h.sr.drew, h.lm, h.cd, h.cfe, h.rn1, h.rne, h.une, h.b0, h.fn, h.ke⟩

theorem solR_end {n : Nat} {F : List (List Int)} {b : Int} {w w3 w8 : World} {r : Nat} (hr : r = w.heap.size + 1) (hs3 : w.heap.size + 2 ≤ w3.heap.size) (hb3 : Below w.heap.size w w3) (y1 : w3.heap[r]? = some rbox) (h8 : Below w3.heap.size w3 w8) {ans : Int} {M : List Bool} {P : List (List Int)} {am ap : Option Addr} {ml pl cm cp : Nat} (hml : ml = M.length) (hpl : pl = P.length) (hok : SolOk n F ans M P) (hans : b = 0 ∨ F = [] → ans ≠ 0) (hM : ∀ w9, Touch (fun k => k < w3.heap.size) w8 w9 → SlV w9 am (bools M)) (hP : ∀ w9, Touch (fun k => k < w3.heap.size) w8 w9 → Rws w9 ap P) (h1 : M.length ≤ cm ∧ (am = none → cm = 0)) (h2 : P.length ≤ cp ∧ (ap = none → cp = 0)) :
    (∀ i, w8.cell? ⟨r, i, none⟩ = (#[.int .u8 0, .slice none 0 0, .slice none 0 0] : Array Value)[i]?) ∧ (∀ i, w8.frozen? ⟨r, i, none⟩ = false) ∧ ∀ w9, ((w8.setCell ⟨r, 0, none⟩ (.int .u8 ans)).setCell ⟨r, 1, none⟩ (.slice am ml cm)).setCell ⟨r, 2, none⟩ (.slice ap pl cp) = w9 →
      solR n F b w (.returned (.tuple #[.agg #[.int .u8 ans, .slice am ml cm, .slice ap pl cp], .int .i64 0])) w9 ∧ w9.cell? ⟨r, 0, none⟩ = some (.int .u8 ans) ∧ w9.cell? ⟨r, 1, none⟩ = some (.slice am ml cm) ∧ w9.cell? ⟨r, 2, none⟩ = some (.slice ap pl cp) := by
  subst hml hpl
  have y8 : w8.heap[r]? = some rbox := (h8.block r (by omega)).trans y1
  refine ⟨fun i => cell_of_row w8 r i _ _ _ y8, fun i => frozen_of_row _ _ _ _ _ y8, fun w9 h9 => ?_⟩
  have hb9 := setCell_block (o := 2) (.slice ap P.length cp) (setCell_block (o := 1) (.slice am M.length cm) (setCell_block (o := 0) (xs := [.int .u8 0, .slice none 0 0, .slice none 0 0]) (.int .u8 ans) y8))
  have hT : Touch (fun k => k = r) w8 w9 := by
    rw [← h9]
    exact (((Touch.refl (fun k => k = r) w8).setCell (p := ⟨r, 0, none⟩) rfl _).setCell (p := ⟨r, 1, none⟩) rfl _).setCell (p := ⟨r, 2, none⟩) rfl _
  rw [h9] at hb9
  have hT3 : Touch (fun k => k < w3.heap.size) w8 w9 := hT.mono fun k _ e => by rw [e]; omega
  have hbw : Below w.heap.size w w9 := (hb3.trans (h8.mono (by omega))).trans (hT.below (by have := h8.size; omega) fun k hk => by rw [hk]; omega)
  exact ⟨⟨ans, M, P, am, ap, cm, cp, rfl, hok, hans, hM w9 hT3, hP w9 hT3, h1, h2, hbw⟩, fit_cell hb9 0, fit_cell hb9 1, fit_cell hb9 2⟩

set_option maxRecDepth 100000 in
set_option maxHeartbeats 16000000 in
theorem solve_Solve (n : Nat) (acl : Option Addr) (F : List (List Int)) (mf cf : Nat) (b : Int) (w : World) (hmf : mf = F.length) (hf : FOk F) (hr : Rws w acl F) (hc : cnfCheck n F = 0) (hn : n ≤ 25) (hb0 : 0 ≤ b) (hb1 : b ≤ 1099511627776) :
    Calls Try.prog 33 #[.agg #[.int .i64 n, .slice acl mf cf], .int .i64 b] w (solR n F b w) := by
  subst hmf
  obtain ⟨Q, hQ⟩ : ∃ Q : Ending → World → Prop, solR n F b w = Q := ⟨_, rfl⟩
  have HQ : Hid (∀ e w', solR n F b w e w' → Q e w') := hid (fun e w' h => by rw [← hQ]; exact h)
  rw [hQ]
  clear hQ
  obtain ⟨-, -, hFl, hcl, hCl⟩ := cnf_valid hc
  have hCl : ClsOk n F := hCl
  obtain ⟨w2, hw2⟩ : ∃ t, (w.alloc (.cells #[.int .i64 n, .slice acl F.length cf] 34 (0, 0))).alloc (.cells #[.int .u8 0, .slice none 0 0, .slice none 0 0] 51 (0, 0)) = t := ⟨_, rfl⟩
  have hb2 : Below w.heap.size w w2 := by rw [← hw2]; exact below_al (box_below w _) (by simp only [size_al]; omega) _
  have hs2 : w2.heap.size = w.heap.size + 2 := by rw [← hw2]; simp only [size_al]
  have hck := cnf_CheckR n acl F F.length cf 0 w2 hc rfl hf (hr.below hb2) (by omega)
  have z0 : w2.heap[w.heap.size]? = some (fbox n acl F.length cf) := by rw [← hw2, heap_alloc_old _ _ (by simp only [size_al]; omega)]; exact heap_alloc_new w _
  have z1 : w2.heap[w.heap.size + 1]? = some rbox := by
    have := heap_alloc_new (w.alloc (fbox n acl F.length cf)) rbox
    rw [size_al] at this
    rw [← hw2]
    exact this
  have HC := hid hck
  obtain ⟨w3, hw3⟩ : ∃ t, w2.alloc (fbox n acl F.length cf) = t := ⟨_, rfl⟩
  rw [hw3] at hck
  have hb3 : Below w2.heap.size w2 w3 := by rw [← hw3]; exact box_below _ _
  have hbw3 := hb2.trans (hb3.mono (by omega))
  have y0 : w3.heap[w.heap.size]? = some (fbox n acl F.length cf) := (hb3.block _ (by omega)).trans z0
  have y1 : w3.heap[w.heap.size + 1]? = some rbox := (hb3.block _ (by omega)).trans z1
  have hs3 : w.heap.size + 2 ≤ w3.heap.size := by have := hb3.size; omega
  have c0 : ∀ {B : Nat} {wx : World}, w3.heap.size ≤ B → Below B w3 wx → wx.cell? ⟨w.heap.size, 0, none⟩ = some (.int .i64 n) ∧ wx.cell? ⟨w.heap.size, 1, none⟩ = some (.slice acl F.length cf) := fun {B wx} hB h => by
    have := (h.block w.heap.size (by omega)).trans y0
    exact ⟨fit_cell (vs := [.int .i64 n, .slice acl F.length cf]) this 0, fit_cell (vs := [.int .i64 n, .slice acl F.length cf]) this 1⟩
  have HQ0 := HQ
  have hN1 : IntKind.i64.wrap ((n : Int) + 1) = ((n + 1 : Nat) : Int) := (IntWalk.i64_in _ (by omega)).trans (by omega)
  obtain ⟨N1, hN1e⟩ : ∃ t, n + 1 = t := ⟨_, rfl⟩
  rw [hN1e] at hN1
  obtain ⟨N2, hN2e⟩ : ∃ t, 2 * N1 = t := ⟨_, rfl⟩
  have hN2 : IntKind.i64.wrap (2 * (N1 : Int)) = (N2 : Int) := (IntWalk.i64_in _ (by omega)).trans (by omega)
  have m1 : ∀ w : World, (Instr.makeSlice 32 (.int .i64 (N2 : Int)) (.int .i64 (N2 : Int))).run Try.prog w = .ok (.slice (some ⟨w.heap.size, 0, none⟩) N2 N2) (w.alloc (.cells (madeCells #[.slice none 0 0] N2) 22 (0, 0))) := fun w => run_make_row' _ _ _ 24 Try.underlying32 info_ints rfl .i64 .i64 N2 (by omega) (by omega) w
  have m2 : ∀ w : World, (Instr.makeSlice 73 (.int .i64 (N1 : Int)) (.int .i64 (N1 : Int))).run Try.prog w = .ok (.slice (some ⟨w.heap.size, 0, none⟩) N1 N1) (w.alloc (.cells (madeCells #[.int .i8 0] N1) 74 (0, 0))) := fun w => run_make_row' _ _ _ 1 Try.underlying73 (by kernel_rfl) rfl .i64 .i64 N1 (by omega) (by omega) w
  have m3 : ∀ w : World, (Instr.makeSlice 22 (.int .i64 (N1 : Int)) (.int .i64 (N1 : Int))).run Try.prog w = .ok (.slice (some ⟨w.heap.size, 0, none⟩) N1 N1) (w.alloc (.cells (madeCells #[.int .i64 0] N1) 3 (0, 0))) := fun w => run_make_row' _ _ _ 8 Try.underlying22 info_int rfl .i64 .i64 N1 (by omega) (by omega) w
  have m4 : ∀ w : World, (Instr.makeSlice 27 (.int .i64 (N1 : Int)) (.int .i64 (N1 : Int))).run Try.prog w = .ok (.slice (some ⟨w.heap.size, 0, none⟩) N1 N1) (w.alloc (.cells (madeCells #[.bool false] N1) 4 (0, 0))) := fun w => run_make_row' _ _ _ 1 Try.underlying27 (by kernel_rfl) rfl .i64 .i64 N1 (by omega) (by omega) w
  have d0 := c0 (Nat.le_refl _) (Below.refl w3.heap.size w3)
  have d00 := d0.1
  have d01 := d0.2
  have e0 : w2.cell? ⟨w.heap.size, 0, none⟩ = some (.int .i64 n) := fit_cell (vs := [.int .i64 n, .slice acl F.length cf]) z0 0
  have e1 : w2.cell? ⟨w.heap.size, 1, none⟩ = some (.slice acl F.length cf) := fit_cell (vs := [.int .i64 n, .slice acl F.length cf]) z0 1
  have HNEW := hid (order_New n w3 (by omega))
  have C0 := hid (fun (B : Nat) (wx : World) (hB : w3.heap.size ≤ B) (h : Below B w3 wx) => c0 hB h)
  have HR3 := hid (hr.below hbw3)
  have HB3 := hid hbw3
  have Y := hid (And.intro y0 (And.intro y1 hs3))
  have HF := hid (And.intro hFl (And.intro hcl (And.intro hCl hf)))
  have hnb1 : ¬ b < 0 := by omega
  have hnb2 : ¬ 1099511627776 < b := by omega
  have HNN := hid (And.intro hn (And.intro hN1e hN2e))
  obtain ⟨FL, hFL⟩ : ∃ t, F.length = t := ⟨_, rfl⟩
  have HFL := hid hFL
  have hw2 : (w.alloc (.cells #[.int .i64 n, .slice acl FL cf] 34 (0, 0))).alloc (.cells #[.int .u8 0, .slice none 0 0, .slice none 0 0] 51 (0, 0)) = w2 := by rw [← hFL]; exact hw2
  rw [hFL] at e1 d01 HC hw3 C0 ⊢
  clear c0 hr hc hck z0 z1 hb2 hs2 hb3 hbw3 y0 y1 hs3 hFl hcl hCl hf d0 hn hN1e hN2e hFL HQ0
  go_enter Try.func33, Try.ntmps33
  go_wp2_with fail
  go_step3
  go_wp2_with fail
  refine HC.out.mono ?_
  rintro x w' ⟨rfl, rfl⟩
  rw [hw3]
  clear HC e0 e1 hw2 hw3
  go_wp2_with fail
  refine HNEW.out.mono ?_
  rintro x w4 ⟨bh, S, rfl, hH4, hb4, hS4⟩
  have d40 := (C0.out _ _ (Nat.le_refl _) hb4).1
  have d41 := (C0.out _ _ (Nat.le_refl _) hb4).2
  have H4 := hid (And.intro hH4 (And.intro hb4 hS4))
  clear hH4 hb4 hS4 d00 d01 HNEW
  go_wp2_with fail
  go_cut [10] (fun s10 wx => ∃ (bx : Nat) (a : SA) (tag : Nat → KT), s10 = .pointer (some ⟨bx, 0, none⟩) ∧ Hid (a.bx = bx ∧ a.n1 = n + 1 ∧ SM tag w3.heap.size w3 wx a (v0S n) (d0S n) ∧ ∀ k, k < w3.heap.size → tag k = .oth))
  case first =>
    refine wp_region_R (fun _ => True) [3, 5, 7, 9, 11, 13, 14, 15, 16] (by kernel_rfl) ?_
    refine wpR.pure 0 rfl (by kernel_rfl) (fun _ _ _ h => h) (by rfl) (v := ?_) ?_ ?_
    rotate_left 1
    · (intro wx _; go_simp; try with_reducible rfl)
    try simp only [Act.put, List.setIfInBounds_toArray, List.set_cons_zero, List.set_cons_succ]
    refine wpR.pure 1 rfl (by kernel_rfl) (fun _ _ _ h => h) (by rfl) (v := ?_) ?_ ?_
    rotate_left 1
    · (intro wx _; go_simp; try with_reducible rfl)
    try simp only [Act.put, List.setIfInBounds_toArray, List.set_cons_zero, List.set_cons_succ]
    refine wpR.pure 2 rfl (by kernel_rfl) (fun _ _ _ h => h) (by rfl) (v := ?_) ?_ ?_
    rotate_left 1
    · (intro wx _; go_simp; try with_reducible rfl)
    try simp only [Act.put, List.setIfInBounds_toArray, List.set_cons_zero, List.set_cons_succ]
    refine wpR.pure 4 rfl (by kernel_rfl) (fun _ _ _ h => h) (by rfl) (v := ?_) ?_ ?_
    rotate_left 1
    · (intro wx _; go_simp; try with_reducible rfl)
    try simp only [Act.put, List.setIfInBounds_toArray, List.set_cons_zero, List.set_cons_succ]
    refine wpR.pure 6 rfl (by kernel_rfl) (fun _ _ _ h => h) (by rfl) (v := ?_) ?_ ?_
    rotate_left 1
    · (intro wx _; go_simp; try with_reducible rfl)
    try simp only [Act.put, List.setIfInBounds_toArray, List.set_cons_zero, List.set_cons_succ]
    refine wpR.pure 8 rfl (by kernel_rfl) (fun _ _ _ h => h) (by rfl) (v := ?_) ?_ ?_
    rotate_left 1
    · (intro wx _; go_simp; try with_reducible rfl)
    try simp only [Act.put, List.setIfInBounds_toArray, List.set_cons_zero, List.set_cons_succ]
    refine wpR.pure 10 rfl (by kernel_rfl) (fun _ _ _ h => h) (by rfl) (v := ?_) ?_ ?_
    rotate_left 1
    · (intro wx _; go_simp; try with_reducible rfl)
    try simp only [Act.put, List.setIfInBounds_toArray, List.set_cons_zero, List.set_cons_succ]
    refine wpR.pure 12 rfl (by kernel_rfl) (fun _ _ _ h => h) (by rfl) (v := ?_) ?_ ?_
    rotate_left 1
    · (intro wx _; go_simp; try with_reducible rfl)
    try simp only [Act.put, List.setIfInBounds_toArray, List.set_cons_zero, List.set_cons_succ]
    refine wpR.makes (k := 3) (fun _ => trivial) (by kernel_rfl) 6 [⟨3, some 48, fun g => .slice (some ⟨g, 0, none⟩) N2 N2, .cells (madeCells #[.slice none 0 0] N2) 22 (0, 0)⟩, ⟨5, some 50, fun g => .slice (some ⟨g, 0, none⟩) N1 N1, .cells (madeCells #[.int .i8 0] N1) 74 (0, 0)⟩, ⟨7, some 52, fun g => .slice (some ⟨g, 0, none⟩) N1 N1, .cells (madeCells #[.int .i8 0] N1) 74 (0, 0)⟩, ⟨9, some 54, fun g => .slice (some ⟨g, 0, none⟩) N1 N1, .cells (madeCells #[.int .i64 0] N1) 3 (0, 0)⟩, ⟨11, some 56, fun g => .slice (some ⟨g, 0, none⟩) N1 N1, .cells (madeCells #[.int .i64 0] N1) 3 (0, 0)⟩, ⟨13, some 58, fun g => .slice (some ⟨g, 0, none⟩) N1 N1, .cells (madeCells #[.bool false] N1) 4 (0, 0)⟩] _ _ _ rfl ?mades (mkOk_spec (by kernel_rfl)) (apAll_spec (by kernel_rfl)) ?mored
    case mades =>
      intro m hm
      simp only [List.mem_cons, List.not_mem_nil, or_false] at hm
      rcases hm with rfl | rfl | rfl | rfl | rfl | rfl
      · exact ⟨_, rfl, rfl, by rfl, fun w => by go_simp⟩
      · exact ⟨_, rfl, rfl, by rfl, fun w => by go_simp⟩
      · exact ⟨_, rfl, rfl, by rfl, fun w => by go_simp⟩
      · exact ⟨_, rfl, rfl, by rfl, fun w => by go_simp⟩
      · exact ⟨_, rfl, rfl, by rfl, fun w => by go_simp⟩
      · exact ⟨_, rfl, rfl, by rfl, fun w => by go_simp⟩
    case mored =>
      intro g w5 hg hgn hgb hws hbel hgo
      match g, hg with
      | [g1, g2, g3, g4, g5, g6], _ =>
      simp only [putAll, Act.put, List.setIfInBounds_toArray, List.set_cons_zero, List.set_cons_succ]
      refine wpR.pure 14 rfl (by kernel_rfl) (fun _ _ _ h => h) (by rfl) (v := ?_) ?_ ?_
      rotate_left 1
      · (intro wx _; go_simp; try with_reducible rfl)
      try simp only [Act.put, List.setIfInBounds_toArray, List.set_cons_zero, List.set_cons_succ]
      refine wpR.one 15 rfl (by kernel_rfl) (by rfl) (v := ?_) (w' := ?_) ?_ ?_ ?_
      rotate_left 2
      · (go_simp; first | done | with_reducible rfl | (refine ⟨?_, ?_⟩ <;> with_reducible rfl))
      · (intro q; exact absurd (by decide) q)
      try simp only [Act.put, List.setIfInBounds_toArray, List.set_cons_zero, List.set_cons_succ]
      refine wpR.pure 16 rfl (by kernel_rfl) (fun _ _ _ h => h) (by rfl) (v := ?_) ?_ ?_
      rotate_left 1
      · (intro wx _; go_simp; try with_reducible rfl)
      try simp only [Act.put, List.setIfInBounds_toArray, List.set_cons_zero, List.set_cons_succ]
      refine wpR.done (by kernel_rfl) ?_
      have hN := HNN.out
      obtain ⟨-, rfl, rfl⟩ := hN
      obtain ⟨hH4, hb4, hS4⟩ := H4.out
      have k1 := hgb g1 (by simp)
      have k2 := hgb g2 (by simp)
      have k3 := hgb g3 (by simp)
      have k4 := hgb g4 (by simp)
      have k5 := hgb g5 (by simp)
      have k6 := hgb g6 (by simp)
      have hz4 : w4.drew.heap.size = w4.heap.size := rfl
      rw [hz4] at k1 k2 k3 k4 k5 k6
      have hb45 : Below w4.heap.size w4 w5 := (Below.refl w4.heap.size w4).drew.trans hbel
      go_wp2_with fail
      go_meet
      case rel =>
        obtain ⟨w6, hw6⟩ : ∃ t, w5.alloc (.cells #[.pointer (some ⟨bh, 0, none⟩), .slice none 0 0, .slice (some ⟨g1, 0, none⟩) (2 * (n + 1)) (2 * (n + 1)), .slice (some ⟨g2, 0, none⟩) (n + 1) (n + 1), .slice (some ⟨g3, 0, none⟩) (n + 1) (n + 1), .slice (some ⟨g4, 0, none⟩) (n + 1) (n + 1), .slice (some ⟨g5, 0, none⟩) (n + 1) (n + 1), .slice (some ⟨g6, 0, none⟩) (n + 1) (n + 1), .slice none 0 0, .int .i64 0, .slice none 0 0, .slice none 0 0, .int .i64 16] 83 (0, 0)) = t := ⟨_, rfl⟩
        have hws5 : w5.heap.size = w4.heap.size + 6 := hws
        have hb56 : Below w5.heap.size w5 w6 := by rw [← hw6]; exact box_below _ _
        have hb46 : Below w4.heap.size w4 w6 := hb45.trans (hb56.mono (by omega))
        have hH6 : Heap w6 bh S (List.replicate (n + 1) 0) (List.replicate n true) := heap_frame hH4 fun k hk _ => hb46.block k hk
        have hblk : ∀ g ob, g < w5.heap.size → w5.heap[g]? = some ob → w6.heap[g]? = some ob := fun g ob hg h => (hb56.block g hg).trans h
        have hbb : w6.heap[w5.heap.size]? = some (.cells (scells ⟨w5.heap.size, bh, g1, g2, g3, g4, g5, g6, n + 1⟩ (v0S n) (d0S n)).toArray 83 (0, 0)) := by rw [← hw6]; exact heap_alloc_new _ _
        have hin := sm_init (w2 := w3) (w3 := w4) (w5 := w6) (bx := w5.heap.size) hH6 hS4 (hb4.trans (hb46.mono hb4.size)) hb4.size hgn (fun g hg => by have := hgb g hg; rw [hz4] at this; exact this) (hblk g1 _ k1.2 (hgo 0 _ g1 rfl rfl)) (hblk g2 _ k2.2 (hgo 1 _ g2 rfl rfl)) (hblk g3 _ k3.2 (hgo 2 _ g3 rfl rfl)) (hblk g4 _ k4.2 (hgo 3 _ g4 rfl rfl)) (hblk g5 _ k5.2 (hgo 4 _ g5 rfl rfl)) (hblk g6 _ k6.2 (hgo 5 _ g6 rfl rfl)) hbb
        rw [hw6, ← hws5]
        exact ⟨_, _, _, rfl, hid ⟨rfl, rfl, hin.1, hin.2⟩⟩
  case rest =>
    obtain ⟨bx, a, tag0, rfl, HA⟩ := hcut
    obtain ⟨hax, han, hM0, ht0⟩ := HA.out
    subst hax
    have hC1 := (C0.out _ _ (Nat.le_refl _) hM0.bel).1
    have hC2 := (C0.out _ _ (Nat.le_refl _) hM0.bel).2
    have hld := sol_load tag0 w3 wc a (v0S n) (d0S n) n n F acl FL cf [] hM0 han (by have := HNN.out.1; omega) (lk_init n) (cd_init n) rfl rfl HFL.out.symm HR3.out (fun c hc x hx => HF.out.2.2.1 c hc x hx) (fun c hc => by have := HF.out.2.1 c hc; omega) (by have := HF.out.1; omega)
    have HLD := hid hld
    have HM0 := hid hM0
    have HT0 := hid ht0
    have HAN := hid han
    clear hM0 ht0 hld HA H4 d40 d41 m1 m2 m3 m4 hN1 hN2 han
    go_wp2_with fail
    refine HLD.out.mono ?_
    rintro x w7 ⟨tag7, v7, d7, Rz7, hL7, hres⟩
    have hlm : SLM n F d7 Rz7 [] := ⟨hL7.lk, by rw [hL7.P]; exact List.nodup_nil, by rw [hL7.P]; exact nofun, by rw [hL7.P]; exact nofun, Nat.le_trans hL7.cl (Nat.le_add_right _ _)⟩
    have hP7 : d7.P = [] := hL7.P
    have hFP : F ++ d7.P = F := by rw [hP7, List.append_nil]
    rcases hres with ⟨rfl, hcd, hdn⟩ | ⟨rfl, hbad⟩
    · have hcd7 : CD n (F ++ d7.P) d7.C (WtF d7.Wt) d7.K Rz7 [] d7.dn := by rw [hFP, hdn]; exact hcd
      obtain ⟨k0, hk0⟩ : ∃ k : Nat, ((3 ^ n - 0) * 2 + (if 64 ≤ 0 then 1 else 0)) * (n + 1) + (n - d7.K.length) = k := ⟨_, rfl⟩
      have HI : Hid (SvI n F tag7 w3 w7 a k0 w7 tag7 v7 d7 Rz7 [] 0 1 64) := hid ⟨hL7.sm, SR.refl _ _, hlm, hcd7, by rw [hP7]; rfl, by omega, by omega, by omega, by rw [hL7.bp]; exact ⟨by show (0 : Int) ≤ 16; decide, by show (16 : Int) ≤ _; decide⟩, fun _ => hP7, hk0.symm⟩
      have HT : Hid (3 ^ n ≤ 847288609443) := hid (Nat.le_trans (Nat.pow_le_pow_right (by decide) HNN.out.1) (by decide))
      have hn7 : Below w3.heap.size w3 w7 := hL7.sm.bel
      clear hL7 hlm hP7 hFP hcd hdn hcd7 hk0 HLD HM0 hn7
      go_wp2_with fail
      go_step3
      go_wp2_with fail
      go_loopg [11, 12, 13] k0 (fun gk s11 s12 s13 wr => ∃ (tag : Nat → KT) (v : SV) (d : SD) (Rz : List Int) (bs : List Nat) (cn rn un : Nat), s11 = .int .i64 cn ∧ s12 = .int .i64 rn ∧ s13 = .int .i64 un ∧ Hid (SvI n F tag7 w3 w7 a gk wr tag v d Rz bs cn rn un))
      case atStart => exact ⟨_, _, _, _, _, 0, 1, 64, rfl, rfl, rfl, HI⟩
      case round =>
        clear HI
        obtain ⟨tag1, v1, d1, Rz1, bs1, cn, rn, un, rfl, rfl, rfl, HS⟩ := hrel
        have hcn : cn ≤ 847288609443 := by have := HS.out.cfe; have := HS.out.lm.plen; have := HT.out; omega
        have hun : un ≤ 55073759613859 := by have := HS.out.une; have := HT.out; omega
        have hrn : rn ≤ un := HS.out.rne
        have hCl : d1.C.length ≤ 4398046511104 := by have := HS.out.lm.cl; have := HS.out.cfe; have := HF.out.1; omega
        have HPR := hid (sol_propagate tag1 w3.heap.size w3 wr a v1 d1 n (F ++ d1.P) Rz1 bs1 HS.out.sm HAN.out (by have := HNN.out.1; omega) HS.out.lm.lk HS.out.cd hCl)
        have HB := hid (And.intro hcn (And.intro hun (And.intro hrn hCl)))
        clear hcn hun hrn hCl
        go_wp2_with fail
        refine HPR.out.mono ?_
        rintro x w8 ⟨tag2, v2, d2, Rz2, hW, hres⟩
        have hlm2 := HS.out.lm.prop hW.lk hW.pg
        have hsr2 := HS.out.sr.trans hW.sr
        rcases hres with ⟨rfl, hcd, hdn⟩ | ⟨i, rfl, hcf⟩
        · have hcd2 : CD n (F ++ d2.P) d2.C (WtF d2.Wt) d2.K Rz2 bs1 d2.K.length := by rw [hW.pg.P]; exact hcd
          by_cases hre : un ≤ cn
          · have hre2 : (un : Int) ≤ cn := by omega
            have hwr : IntKind.i64.wrap ((rn : Int) + 1) = ((rn + 1 : Nat) : Int) := (IntWalk.i64_in _ (by have := HB.out; omega)).trans (by omega)
            have HL := hid (fun wz => sol_length (rn + 1) (by omega) (by have := HB.out; omega) wz)
            have HW := hid (And.intro hW (And.intro hlm2 (And.intro hsr2 (And.intro hcd2 hdn))))
            clear hW hlm2 hsr2 hcd2 hdn hcd HPR
            go_wp2_with fail
            refine (HL.out w8).mono ?_
            rintro x w9 ⟨r, rfl, hr1, hr2, rfl⟩
            have hw1 : IntKind.i64.wrap (64 * (r : Int)) = 64 * (r : Int) := IntWalk.i64_in _ (by have := HB.out; omega)
            have hw2 : IntKind.i64.wrap ((cn : Int) + 64 * (r : Int)) = ((cn + 64 * r : Nat) : Int) := (IntWalk.i64_in _ (by have := HB.out; omega)).trans (by omega)
            have HNX : Hid (∀ (wz : World) (tagz : Nat → KT) (vz : SV) (dz : SD) (Rzz : List Int) (bz : List Nat), SM tagz w3.heap.size w3 wz a vz dz → SR tag7 tagz w7 wz → LK n dz Rzz bz → dz.P = d2.P → dz.C.length = d2.C.length → dz.bp = d2.bp → CD n (F ++ d2.P) dz.C (WtF dz.Wt) dz.K Rzz bz dz.dn → ∃ k', k' < gk ∧ SvI n F tag7 w3 w7 a k' wz tagz vz dz Rzz bz cn (rn + 1) (cn + 64 * r)) := hid fun wz tagz vz dz Rzz bz h1 h2 h3 h4 h5 h6 h7 => by
              refine ⟨_, ?_, h1, h2, HW.out.2.1.re h3 h4 h5, by rw [h4]; exact h7, by rw [h4, HW.out.1.pg.P]; exact HS.out.cfe, by omega, by have := HS.out.rne; omega, ?_, by rw [h6, HW.out.1.pg.bp]; exact HS.out.b0, fun e => by rw [h4, HW.out.1.pg.P]; exact HS.out.fn e, rfl⟩
              · rw [HS.out.ke, if_pos hre, if_neg (by omega)]
                exact lexM (by omega) (Nat.sub_le _ _)
              · have := HS.out.rne
                have h8 := HS.out.lm.plen
                rw [← HS.out.cfe] at h8
                omega
            by_cases hb : bs1 = []
            · subst hb
              have HBK := hid (sol_back0 tag2 w3.heap.size w3 w8 a v2 d2 0 HW.out.1.sm (by rw [HW.out.1.lk.ls0]; exact Nat.le_refl _))
              have HE := hid (HNX.out w8 tag2 v2 d2 Rz2 [] HW.out.1.sm HW.out.2.2.1 HW.out.1.lk rfl rfl rfl (by rw [HW.out.2.2.2.2]; exact HW.out.2.2.2.1))
              clear hr1 hr2 HL
              go_wp2_with fail
              refine HBK.out.mono ?_
              rintro x w9 ⟨rfl, rfl⟩
              obtain ⟨k', hk', hI'⟩ := HE.out
              have HI' := hid hI'
              clear hI' HBK
              go_wp2_with fail
              go_roundg k'
              case measure => exact hk'
              case rel => exact ⟨_, _, _, _, _, cn, rn + 1, cn + 64 * r, rfl, rfl, rfl, HI'⟩
            · obtain ⟨b0, hb0⟩ : ∃ b0, bs1[0]? = some b0 := ⟨_, List.getElem?_eq_getElem (List.length_pos_iff.2 hb)⟩
              have hbk := sol_back tag2 w3.heap.size w3 w8 a v2 d2 n Rz2 bs1 0 b0 HW.out.1.sm HAN.out (by have := HNN.out.1; omega) HW.out.1.lk HW.out.2.2.2.1.nod HW.out.2.2.2.1.cons HW.out.2.2.2.1.kok HW.out.2.2.2.1.inc hb0 (HW.out.2.2.2.1.bl b0 (List.mem_of_getElem? hb0))
              have hcb := HW.out.2.2.2.1.back hb0
              have HBK := hid hbk
              have HCB := hid hcb
              clear hr1 hr2 HL hbk hcb hb hb0
              go_wp2_with fail
              refine HBK.out.mono ?_
              rintro x w9 ⟨rfl, tag3, v3, va3, ph3, In3, hM3, hS3, hK3⟩
              obtain ⟨k', hk', hI'⟩ := HNX.out w9 tag3 v3 _ _ _ hM3 (HW.out.2.2.1.trans hS3) hK3 rfl rfl rfl HCB.out
              have HI' := hid hI'
              clear hI' HBK hM3 hS3 hK3
              go_wp2_with fail
              go_roundg k'
              case measure => exact hk'
              case rel => exact ⟨_, _, _, _, _, cn, rn + 1, cn + 64 * r, rfl, rfl, rfl, HI'⟩
          · have hre2 : ¬ (un : Int) ≤ cn := by omega
            have hnx := sol_next tag2 w3.heap.size w3 w8 a v2 d2 n Rz2 bs1 hW.sm HAN.out (by have := HNN.out.1; omega) hW.lk
            have HNX := hid hnx
            have HW := hid (And.intro hW (And.intro hlm2 (And.intro hsr2 (And.intro hcd2 hdn))))
            clear hW hlm2 hsr2 hcd2 hdn hcd HPR hnx
            go_wp2_with fail
            refine HNX.out.mono ?_
            rintro x w9 ⟨v0, tag3, In3, rfl, hM3, hS3, hres3⟩
            rcases hres3 with ⟨rfl, hfull⟩ | ⟨hv1, hvn, hvK, hvnK, hin3⟩
            · have hmd := sol_model tag3 w3.heap.size w3 w9 a v2 _ n hM3 HAN.out (by have := HNN.out.1; omega)
              have HMD := hid hmd
              have HOK := hid (HW.out.2.1.model HW.out.2.2.2.1 HF.out.2.2.1 hfull)
              have HM3 := hid hM3
              clear hM3 hS3 hfull hmd HNX
              go_wp2_with fail
              refine HMD.out.mono ?_
              rintro x w10 ⟨g, rfl, hb10, hs10, hg10⟩
              have hb310 : Below w3.heap.size w3 w10 := HM3.out.bel.trans (hb10.mono HM3.out.le)
              have hgl : ¬ g < w3.heap.size := by have := HM3.out.le; omega
              obtain ⟨k0, kf, hend⟩ := solR_end (b := b) rfl Y.out.2.2 HB3.out Y.out.2.1 hb310 (M := mdl n d2.va n) (am := some ⟨g, 0, none⟩) (ap := none) (cm := n) (cp := 0) (mdl_length _ _ _).symm rfl HOK.out (fun _ => by decide) (fun _ hT => slv_touch hs10 hT hgl) (fun _ _ => rws_nil _) ⟨by rw [mdl_length]; exact Nat.le_refl _, nofun⟩ ⟨Nat.le_refl _, fun _ => rfl⟩
              have HEND := hid hend
              clear hb10 hs10 hg10 hb310 hgl hend HMD
              go_wp2_with fail
              rw [Exit.noGoto_ret]
              generalize hw9 : ((w10.setCell ⟨w.heap.size + 1, 0, none⟩ (.int .u8 1)).setCell ⟨w.heap.size + 1, 1, none⟩ (.slice (some ⟨g, 0, none⟩) n n)).setCell ⟨w.heap.size + 1, 2, none⟩ (.slice none 0 0) = w11
              obtain ⟨hsr, q0, q1, q2⟩ := HEND.out w11 hw9
              have HSR := hid (HQ.out _ _ hsr)
              clear k0 kf hw9 hsr
              exact ⟨rfl, _, by simp [results, Try.results33, go_sem, q0, q1, q2], HSR.out⟩
            · obtain ⟨i1, hi1, hy0, hy1, hy2⟩ := info_parts info_dec
              obtain ⟨ad, cd, hvd, hod⟩ := hM3.lvsc
              obtain ⟨at1, ct, hvt, hot⟩ := hM3.trlc
              have b10 : w9.cell? ⟨a.bx, 10, none⟩ = some v2.vd := hM3.cell 10
              have b8 : w9.cell? ⟨a.bx, 8, none⟩ = some v2.vt := hM3.cell 8
              have hKn := HW.out.2.2.2.1.klen
              have hbl := HW.out.2.2.2.1.bl
              have hls0 := HW.out.1.lk.ls0
              obtain ⟨LL, hLL⟩ : ∃ t, d2.ls.length = t := ⟨_, rfl⟩
              obtain ⟨KL, hKL⟩ : ∃ t, d2.K.length = t := ⟨_, rfl⟩
              have hLLn : LL ≤ 1048576 := by
                have h1 : bs1.Nodup := HW.out.2.2.2.1.inc.imp fun h => Nat.ne_of_lt h
                have h2 := nodup_below d2.K.length bs1 h1 hbl
                have := HNN.out.1
                omega
              rw [hvd] at b10 hod
              rw [hvt] at b8
              rw [hLL] at b10 hod
              rw [hKL] at b8
              obtain ⟨a12, c12, w12, hr12, h12, hg12, ha12⟩ := appM_one (P := Try.prog) (w9.alloc (.cells #[.int .i64 (KL : Int)] 94 (0, 0))).drew w3.heap.size 81 81 94 i1 (.agg #[.int .i64 0]) 8 Try.underlying81 hi1 hy0 hy1 hy2 rfl (.slice ad LL cd) LL (ints d2.ls) (hod.alloc _) w9.heap.size (.int .i64 (KL : Int)) (heap_alloc_new _ _) rfl (by unfold maxLen; omega) (by omega) (by show w3.heap.size ≤ (w9.alloc _).heap.size; have := hM3.le; simp only [size_al]; omega)
              have hpl := hM3.pushL (x := (KL : Int)) (u6 := .slice a12 (LL + 1) c12) (box_below w9 (.cells #[.int .i64 (KL : Int)] 94 (0, 0))).drew (by rw [show ({ d2 with In := In3 } : SD).ls.length = LL from hLL]; exact h12) (by rw [hvd, show ({ d2 with In := In3 } : SD).ls.length = LL from hLL]; exact hg12) (by rw [hvd, show ({ d2 with In := In3 } : SD).ls.length = LL from hLL]; exact ha12)
              obtain ⟨hM4, hS4, hb4⟩ := hpl
              have q4 : w12.cell? ⟨a.bx, 10, none⟩ = some (.slice ad LL cd) := by rw [fit_cell hb4 10, ← hLL, ← show ({ d2 with In := In3 } : SD).ls.length = d2.ls.length from rfl, ← hvd]; rfl
              have f4 : w12.frozen? ⟨a.bx, 10, none⟩ = false := frozen_of_row _ _ _ _ _ hb4
              obtain ⟨w13, hw13⟩ : ∃ t, w12.setCell ⟨a.bx, 10, none⟩ (.slice a12 (LL + 1) c12) = t := ⟨_, rfl⟩
              rw [hw13] at hM4 hS4
              have hv0n : v0 < a.n1 := by have := HAN.out; omega
              have hv0i : (v0 : Int) < a.n1 := by omega
              have hv00 : (0 : Int) ≤ v0 := by omega
              have p4 : w13.cell? ⟨a.bx, 4, none⟩ = some (.slice (some ⟨a.bp, 0, none⟩) a.n1 a.n1) := hM4.cell 4
              obtain ⟨y, hy⟩ : ∃ y, (d2.ph[v0]?).getD 0 = y := ⟨_, rfl⟩
              have pv : w13.cell? ⟨a.bp, v0, none⟩ = some (.int .i8 y) := by
                have h1 := hM4.phac hv0n
                have h2 : ((({ d2 with In := In3, ls := d2.ls ++ [(KL : Int)] } : SD).ph[v0]?).getD 0) = y := hy
                rw [← h2]
                exact h1
              have hvo : ∀ x : Int, x.natAbs = v0 → LitOk n x := fun x hx => by unfold LitOk; omega
              have HX : Hid (∀ x : Int, x.natAbs = v0 → x ∉ d2.K ∧ -x ∉ d2.K) := hid fun x hx => by
                rcases show x = (v0 : Int) ∨ x = -(v0 : Int) by omega with e | e
                · rw [e]; exact ⟨hvK, hvnK⟩
                · rw [e, Int.neg_neg]; exact ⟨hvnK, hvK⟩
              have hgo : ∀ x : Int, x.natAbs = v0 → Calls Try.prog 55 #[.pointer (some ⟨a.bx, 0, none⟩), .int .i64 x, .int .i64 (-1)] w13 fun e w' => e = .returned (.tuple #[]) ∧ ∃ k', k' < gk ∧ ∃ tag v d Rz bs, SvI n F tag7 w3 w7 a k' w' tag v d Rz bs cn rn un := fun x hx => by
                have hxo := hvo x hx
                have hx12 := HX.out x hx
                have hst := sol_set (tgN tag3 w9 .lvs) w3.heap.size w3 w13 a _ _ n x (-1) hM4 HAN.out (by have := HNN.out.1; omega) hxo (by show d2.K.length ≤ _; have := HNN.out.1; omega)
                refine hst.mono ?_
                rintro e w' ⟨he, tag5, vt5, hM5, hS5⟩
                have hcd5 := HW.out.2.2.2.1.decide hx12.1 hx12.2 hxo (-1)
                have hlk5 := HW.out.1.lk.dec (rs := -1) (In' := In3) HW.out.2.2.2.1.rl hx hxo hx12.1 hx12.2 hbl hin3 (by have h1 : In3.length + 1 = a.n1 := (hM3.co .hep).2; have h2 := HAN.out; omega) ((HW.out.1.sm.co .val).2.trans HAN.out) ((HW.out.1.sm.co .lev).2.trans HAN.out) ((HW.out.1.sm.co .rea).2.trans HAN.out)
                rw [hKL] at hlk5 hcd5
                have hkl5 := hcd5.klen
                have hK12 : d1.K.length ≤ d2.K.length := by
                  obtain ⟨R, hR⟩ := HW.out.1.pg.K
                  rw [hR, List.length_append]
                  omega
                refine ⟨he, _, ?_, tag5, _, _, _, _, ⟨hM5, ((HW.out.2.2.1.trans hS3).trans hS4).trans hS5, HW.out.2.1.re hlk5 rfl rfl, ?_, ?_, HS.out.rn1, HS.out.rne, HS.out.une, ?_, ?_, rfl⟩⟩
                · rw [HS.out.ke]
                  refine Nat.add_lt_add_left ?_ _
                  show n - (d2.K ++ [x]).length < n - d1.K.length
                  simp only [List.length_append, List.length_singleton] at hkl5 ⊢
                  omega
                · show CD n (F ++ d2.P) d2.C (WtF d2.Wt) (d2.K ++ [x]) _ _ d2.dn
                  rw [HW.out.2.2.2.2, hKL]
                  exact hcd5
                · show cn = d2.P.length
                  rw [HW.out.1.pg.P]
                  exact HS.out.cfe
                · show 0 ≤ d2.bp ∧ d2.bp ≤ _
                  rw [HW.out.1.pg.bp]
                  exact HS.out.b0
                · intro e
                  show d2.P = []
                  rw [HW.out.1.pg.P]
                  exact HS.out.fn e
              have HG1 := hid (hgo (v0 : Int) (by omega))
              have HG2 := hid (hgo (-(v0 : Int)) (by omega))
              have hwn : IntKind.i64.wrap (-(v0 : Int)) = -(v0 : Int) := IntWalk.i64_in _ (by have := HNN.out.1; omega)
              have b10a := fun o => below_keeps (box_below w9 o) _ _ b10
              have b8a := fun o => below_keeps (box_below w9 o) _ _ b8
              have hv0z : ((v0 : Int) == 0) = false := beq_false_of_ne (by omega)
              clear hM3 hS3 hvK hvnK hin3 hvd hod hvt hot hKn hbl hls0 hLL hKL hLLn h12 hg12 ha12 hM4 hS4 hb4 hv0n hy hvo hgo HNX
              go_wp2_with fail
              refine wp_region_R (fun yw => yw.cell? ⟨a.bx, 10, none⟩ = some (.slice ad LL cd) ∧ yw.cell? ⟨a.bx, 8, none⟩ = some (.slice at1 KL ct)) [12, 15] (by kernel_rfl) ?_
              have hHeld : (fun yw : World => yw.cell? ⟨a.bx, 10, none⟩ = some (.slice ad LL cd) ∧ yw.cell? ⟨a.bx, 8, none⟩ = some (.slice at1 KL ct)) w9.drew := ⟨b10, b8⟩
              refine wpR.pure 0 rfl (by kernel_rfl) (fun _ _ _ h => h) (by rfl) (v := ?_) ?_ ?_
              rotate_left 1
              · (intro wx _; go_simp; try with_reducible rfl)
              try simp only [Act.put, List.setIfInBounds_toArray, List.set_cons_zero, List.set_cons_succ]
              refine wpR.pure 1 rfl (by kernel_rfl) (fun _ _ _ h => h) (by rfl) (v := ?_) ?_ ?_
              rotate_left 1
              · (intro wx _; go_simp; try with_reducible rfl)
              try simp only [Act.put, List.setIfInBounds_toArray, List.set_cons_zero, List.set_cons_succ]
              refine wpR.pure 2 rfl (by kernel_rfl) (fun _ _ _ h => h) (by rfl) (v := ?_) ?_ ?_
              rotate_left 1
              · (intro wx _; go_simp; try with_reducible rfl)
              try simp only [Act.put, List.setIfInBounds_toArray, List.set_cons_zero, List.set_cons_succ]
              refine wpR.pure 3 rfl (by kernel_rfl) (fun _ _ _ h => h) (by rfl) (v := ?_) ?_ ?_
              rotate_left 1
              · (intro wx _; go_simp; try with_reducible rfl)
              try simp only [Act.put, List.setIfInBounds_toArray, List.set_cons_zero, List.set_cons_succ]
              refine wpR.take 4 rfl (by kernel_rfl) (fun _ _ _ h => h) (by rfl) (v := ?_) ?_ (by assumption) ?_
              rotate_left 1
              · (intro wx hSw; (try dsimp only at hSw); go_simp; try with_reducible rfl)
              try simp only [Act.put, List.setIfInBounds_toArray, List.set_cons_zero, List.set_cons_succ]
              refine wpR.pure 5 rfl (by kernel_rfl) (fun _ _ _ h => h) (by rfl) (v := ?_) ?_ ?_
              rotate_left 1
              · (intro wx _; go_simp; try with_reducible rfl)
              try simp only [Act.put, List.setIfInBounds_toArray, List.set_cons_zero, List.set_cons_succ]
              refine wpR.pure 6 rfl (by kernel_rfl) (fun _ _ _ h => h) (by rfl) (v := ?_) ?_ ?_
              rotate_left 1
              · (intro wx _; go_simp; try with_reducible rfl)
              try simp only [Act.put, List.setIfInBounds_toArray, List.set_cons_zero, List.set_cons_succ]
              refine wpR.pure 7 rfl (by kernel_rfl) (fun _ _ _ h => h) (by rfl) (v := ?_) ?_ ?_
              rotate_left 1
              · (intro wx _; go_simp; try with_reducible rfl)
              try simp only [Act.put, List.setIfInBounds_toArray, List.set_cons_zero, List.set_cons_succ]
              refine wpR.take 8 rfl (by kernel_rfl) (fun _ _ _ h => h) (by rfl) (v := ?_) ?_ (by assumption) ?_
              rotate_left 1
              · (intro wx hSw; (try dsimp only at hSw); go_simp; try with_reducible rfl)
              try simp only [Act.put, List.setIfInBounds_toArray, List.set_cons_zero, List.set_cons_succ]
              refine wpR.pure 9 rfl (by kernel_rfl) (fun _ _ _ h => h) (by rfl) (v := ?_) ?_ ?_
              rotate_left 1
              · (intro wx _; go_simp; try with_reducible rfl)
              try simp only [Act.put, List.setIfInBounds_toArray, List.set_cons_zero, List.set_cons_succ]
              refine wpR.pure 10 rfl (by kernel_rfl) (fun _ _ _ h => h) (by rfl) (v := ?_) ?_ ?_
              rotate_left 1
              · (intro wx _; go_simp; try with_reducible rfl)
              try simp only [Act.put, List.setIfInBounds_toArray, List.set_cons_zero, List.set_cons_succ]
              refine wpR.one 11 rfl (by kernel_rfl) (by rfl) (v := ?_) (w' := ?_) ?_ ?_ ?_
              rotate_left 2
              · (go_simp; first | done | with_reducible rfl | (refine ⟨?_, ?_⟩ <;> with_reducible rfl))
              · (intro _; exact ⟨b10a _, b8a _⟩)
              try simp only [Act.put, List.setIfInBounds_toArray, List.set_cons_zero, List.set_cons_succ]
              refine wpR.one 12 rfl (by kernel_rfl) (by rfl) (v := ?_) (w' := ?_) ?_ ?_ ?_
              rotate_left 2
              · (go_simp; first | done | with_reducible rfl | (refine ⟨?_, ?_⟩ <;> with_reducible rfl))
              · (intro q; exact absurd (by decide) q)
              try simp only [Act.put, List.setIfInBounds_toArray, List.set_cons_zero, List.set_cons_succ]
              refine wpR.pure 13 rfl (by kernel_rfl) (fun _ _ _ h => h) (by rfl) (v := ?_) ?_ ?_
              rotate_left 1
              · (intro wx _; go_simp; try with_reducible rfl)
              try simp only [Act.put, List.setIfInBounds_toArray, List.set_cons_zero, List.set_cons_succ]
              refine wpR.pure 14 rfl (by kernel_rfl) (fun _ _ _ h => h) (by rfl) (v := ?_) ?_ ?_
              rotate_left 1
              · (intro wx _; go_simp; try with_reducible rfl)
              try simp only [Act.put, List.setIfInBounds_toArray, List.set_cons_zero, List.set_cons_succ]
              refine wpR.skip 15 rfl (by kernel_rfl) (by rfl) (w' := ?_) ?_ ?_ ?_
              rotate_left 1
              · (go_simp; first | done | with_reducible rfl | (refine ⟨?_, ?_⟩ <;> with_reducible rfl))
              · (intro q; exact absurd (by decide) q)
              try simp only [Act.put]
              refine wpR.done (by kernel_rfl) ?_
              clear hr12 q4 f4 b10a b8a b10 b8 hHeld
              by_cases hy1 : y = 1
              · have hy2 : (y == 1) = true := beq_iff_eq.2 hy1
                clear hy1
                go_wp2_with fail
                refine HG1.out.mono ?_
                rintro e w14 ⟨rfl, k', hk', tag5, v5, d5, Rz5, bs5, hI'⟩
                have HI' := hid hI'
                clear hI' HG1 HG2
                go_wp2_with fail
                go_roundg k'
                case measure => exact hk'
                case rel => exact ⟨_, _, _, _, _, cn, rn, un, rfl, rfl, rfl, HI'⟩
              · have hy2 : (y == 1) = false := beq_false_of_ne hy1
                clear hy1
                go_wp2_with fail
                refine HG2.out.mono ?_
                rintro e w14 ⟨rfl, k', hk', tag5, v5, d5, Rz5, bs5, hI'⟩
                have HI' := hid hI'
                clear hI' HG1 HG2
                go_wp2_with fail
                go_roundg k'
                case measure => exact hk'
                case rel => exact ⟨_, _, _, _, _, cn, rn, un, rfl, rfl, rfl, HI'⟩
        · have hi0 : (0 : Int) ≤ i := by omega
          obtain ⟨ad, cd, hvd, -⟩ := hW.sm.lvsc
          have b10 : w8.cell? ⟨a.bx, 10, none⟩ = some (.slice ad d2.ls.length cd) := by rw [hW.sm.cell 10, ← hvd]; rfl
          have hll : d2.ls.length = bs1.length := by rw [hW.lk.ls, List.length_map]
          obtain ⟨LL, hLL⟩ : ∃ t, d2.ls.length = t := ⟨_, rfl⟩
          rw [hLL] at b10
          by_cases hbs : LL = 0
          · subst hbs
            have hb0 : bs1 = [] := List.eq_nil_of_length_eq_zero (by omega)
            subst hb0
            have hP2 : d2.P.length ≤ 4398046511104 := by rw [hW.pg.P, ← HS.out.cfe]; have := HB.out.1; omega
            have HUN := hid (sol_unsat tag2 w3.heap.size w3 w8 a v2 d2 hW.sm hP2)
            have HPF := hid (hlm2.proof (by rw [hW.pg.P]; exact hcf.bad0))
            obtain ⟨PL, hPL⟩ : ∃ t, d2.P.length = t := ⟨_, rfl⟩
            rw [hPL] at HUN
            have HPL := hid hPL
            clear hW hlm2 hsr2 hcf hvd hll hLL hP2 hPL HPR
            go_wp2_with fail
            refine HUN.out.mono ?_
            rintro x w9 ⟨av, cv, rfl, hrw8, hcv1, hcv2, hb8⟩
            obtain ⟨k0, kf, hend⟩ := solR_end (b := b) rfl Y.out.2.2 HB3.out Y.out.2.1 hb8 (M := []) (am := none) (cm := 0) (pl := PL + 1) rfl (by simp [HPL.out]) HPF.out (fun _ => by decide) (fun _ _ => slv_nil _) hrw8 ⟨Nat.le_refl _, fun _ => rfl⟩ ⟨by simp [HPL.out]; exact hcv1, hcv2⟩
            have HEND := hid hend
            clear hrw8 hcv1 hcv2 hb8 hend b10
            go_wp2_with fail
            rw [Exit.noGoto_ret]
            generalize hw9 : ((w9.setCell ⟨w.heap.size + 1, 0, none⟩ (.int .u8 2)).setCell ⟨w.heap.size + 1, 1, none⟩ (.slice none 0 0)).setCell ⟨w.heap.size + 1, 2, none⟩ (.slice av (PL + 1) cv) = w10
            obtain ⟨hsr, q0, q1, q2⟩ := HEND.out w10 hw9
            have HSR := hid (HQ.out _ _ hsr)
            clear k0 kf hw9 hsr
            exact ⟨rfl, _, by simp [results, Try.results33, go_sem, q0, q1, q2], HSR.out⟩
          · have hb0 : 0 < bs1.length := by omega
            have hLz : ((LL : Int) == 0) = false := beq_false_of_ne (by omega)
            have hwc : IntKind.i64.wrap ((cn : Int) + 1) = ((cn + 1 : Nat) : Int) := (IntWalk.i64_in _ (by have := HB.out; omega)).trans (by omega)
            have HLN := hid (sol_learn tag2 w3.heap.size w3 w8 a v2 d2 n (F ++ d1.P) Rz2 bs1 i hW.sm HAN.out (by have := HNN.out.1; omega) hW.lk hcf hb0)
            have HW := hid (And.intro hW (And.intro hlm2 (And.intro hsr2 (And.intro hcf hb0))))
            clear hW hlm2 hsr2 hcf hvd hll hLL HPR hb0
            go_wp2_with fail
            refine HLN.out.mono ?_
            rintro x w9 ⟨tag3, A3, u, c, lv, j, p, O, rfl, hM3, hS3, hO3, hLD, hLA⟩
            obtain ⟨b', hz⟩ := hLA.fit hLD HW.out.2.2.2.1.toCB HW.out.2.2.2.2
            rw [← HW.out.1.pg.P] at hz
            have hCB : CB n (F ++ d2.P) d2.C (WtF d2.Wt) d2.K Rz2 bs1 := by rw [HW.out.1.pg.P]; exact HW.out.2.2.2.1.toCB
            have hc1 : 0 < c.length := (List.getElem?_eq_some_iff.1 hz.x0).1
            have hcn : c.length ≤ n := lits_le hz.nod hz.op hz.ok
            have hn25 := HNN.out.1
            obtain ⟨g, cc, rfl, hro3, hgB⟩ := hO3.ro hc1
            have h8s := HW.out.1.sm.le
            have h98 := hS3.1.size
            have h78 := HW.out.2.2.1.1.size
            obtain ⟨i0, hi0, hz0, hz1, hz2⟩ := info_parts info_int
            obtain ⟨i1, hi1, hy0, hy1, hy2⟩ := info_parts info_ints
            have hsl3 : SlV w9.drew (some ⟨g, 0, none⟩) (ints c) := own_slv hO3.1
            obtain ⟨a4, c4, w10, hr10, ho10, hg10, ha10⟩ := appM_sl (P := Try.prog) w9.drew w9.heap.size 22 22 3 i0 (.int .i64 0) 8 Try.underlying22 hi0 hz0 hz1 hz2 rfl (.slice none 0 0) 0 [] (World.ownsRow_nil _ _ _ _) (some ⟨g, 0, none⟩) c.length cc (ints c) hsl3 (by simp [ints]) nofun (fun u hu => by unfold ints at hu; obtain ⟨x, -, rfl⟩ := List.mem_map.1 hu; rfl) (by unfold maxLen; omega) (by omega) (Nat.le_refl _)
            simp only [Nat.zero_add, List.nil_append] at hr10 ho10
            have hb10 : Below w9.heap.size w9 w10 := (Below.refl w9.heap.size w9).drew.grown hg10 (Nat.le_refl _) (fun q hq => by cases hq)
            have h109 := hb10.size
            have hM10 := hM3.grow hb10 (tag' := tgN tag3 w9 .oth) (fun g hg => tgN_old hg) fun k hk hn => absurd (tgN_new hk) hn
            have hS10 : SR tag3 (tgN tag3 w9 .oth) w9 w10 := ⟨touch_below hb10, fun _ hg e => (tgN_old hg).trans e⟩
            have hO10 : OutR (tgN tag3 w9 .oth) w9.heap.size w10 (.slice a4 c.length c4) c := ⟨ho10, fun g hg => tgN_new (ho10.lt g hg).1⟩
            obtain ⟨g4, c5, e4, hro4, hg4⟩ := hO10.ro hc1
            injection e4 with e4 e5 e6
            subst e4 e6
            clear e5
            have hro10 := (hO3.keep hS10).ro hc1
            obtain ⟨g', cc', e7, hro10, -⟩ := hro10
            clear e7
            have hSR10 := (HW.out.2.2.1.trans hS3).trans hS10
            obtain ⟨af, cf2, hvf, hof⟩ := hM10.prfc
            have b11 : w10.cell? ⟨a.bx, 11, none⟩ = some v2.vf := hM10.cell 11
            have b11d : w9.cell? ⟨a.bx, 11, none⟩ = some v2.vf := hM3.cell 11
            have hPn : d2.P.length < 3 ^ n := HW.out.2.1.lt (hz.more HW.out.2.1).2.2.2
            have hPT := HT.out
            obtain ⟨PL, hPL⟩ : ∃ t, d2.P.length = t := ⟨_, rfl⟩
            have hPL2 : ({ d2 with A := A3 } : SD).P.length = PL := hPL
            rw [hvf] at b11 b11d hof
            rw [hPL2] at b11 b11d hof
            obtain ⟨a6, c6, w12, hr12, ho12, hg12, ha12⟩ := appM_one (P := Try.prog) (w10.alloc (.cells #[.slice (some ⟨g4, 0, none⟩) c.length c4] 22 (0, 0))) w3.heap.size 32 32 22 i1 (.slice none 0 0) 24 Try.underlying32 hi1 hy0 hy1 hy2 rfl (.slice af PL cf2) PL v2.ps (hof.alloc _) w10.heap.size (.slice (some ⟨g4, 0, none⟩) c.length c4) (heap_alloc_new _ _) rfl (by unfold maxLen; omega) (by omega) (by have := hM10.le; simp only [size_al]; omega)
            obtain ⟨tag5, hM5, hT5, hO5, hb5⟩ := hM10.pushP (u6 := .slice a6 (PL + 1) c6) hro4 (by omega) (box_below w10 (.cells #[.slice (some ⟨g4, 0, none⟩) c.length c4] 22 (0, 0))) (by rw [hPL2]; exact ho12) (by rw [hvf, hPL2]; exact hg12) (by rw [hvf, hPL2]; exact ha12)
            have q5 : w12.cell? ⟨a.bx, 11, none⟩ = some (.slice af PL cf2) := by rw [fit_cell hb5 11, ← hPL2, ← hvf]; rfl
            have f5 : w12.frozen? ⟨a.bx, 11, none⟩ = false := frozen_of_row _ _ _ _ _ hb5
            obtain ⟨w13, hw13⟩ : ∃ t, w12.setCell ⟨a.bx, 11, none⟩ (.slice a6 (PL + 1) c6) = t := ⟨_, rfl⟩
            rw [hw13] at hM5 hT5
            have hgl9 : g < w9.heap.size := hro3.tagG.2.1
            have hro13 : Ro .oth tag5 w13 (.slice (some ⟨g, 0, none⟩) c.length cc) c := hro10.keepG (hT5.block g (by omega) (fun e => e hro10.tagG.1)) ((hO5 g (by omega) (by omega) hro10.tagG.1).trans hro10.tagG.1.symm)
            have hSR13 : SR tag7 tag5 w7 w13 := ⟨hSR10.1.trans' hT5 fun i hi hs e => hs (hSR10.2 i hi e), fun k hk e => hO5 k (by omega) (by omega) (hSR10.2 k hk e)⟩
            have hlk5 : LK n { d2 with A := A3, P := d2.P ++ [c] } Rz2 bs1 := ⟨HW.out.1.lk.va, HW.out.1.lk.vr, HW.out.1.lk.ls, HW.out.1.lk.lv, HW.out.1.lk.re, HW.out.1.lk.hp, HW.out.1.lk.se⟩
            have HBK := hid (sol_back tag5 w3.heap.size w3 w13 a _ _ n Rz2 bs1 lv b' hM5 HAN.out (by omega) hlk5 hCB.nod hCB.cons hCB.kok hCB.inc hz.bl hz.bK)
            have HZ := hid (And.intro hz (And.intro hCB (And.intro hc1 (And.intro hcn (And.intro hPn hPL)))))
            have HR := hid (And.intro hro13 (And.intro hSR13 hgB))
            obtain ⟨CL, hCL⟩ : ∃ t, c.length = t := ⟨_, rfl⟩
            rw [hCL] at hr10 hr12 ⊢
            have HCL := hid hCL
            have b11a := fun o => below_keeps (box_below w10 o) _ _ b11
            clear hM3 hS3 hO3 hLD hLA hz hCB hc1 hcn hn25 hro3 hgB h8s h98 h78 hsl3 ho10 hg10 ha10 hb10 h109 hM10 hS10 hO10 hro4 hg4 hro10 hSR10 hvf hof hPn hPT hPL hPL2 ho12 hg12 ha12 hM5 hT5 hO5 hb5 hgl9 hro13 hSR13 hlk5 hCL HLN
            go_wp2_with fail
            refine wp_region_R (fun yw => yw.cell? ⟨a.bx, 11, none⟩ = some (.slice af PL cf2)) [8, 11] (by kernel_rfl) ?_
            have hHeld : (fun yw : World => yw.cell? ⟨a.bx, 11, none⟩ = some (.slice af PL cf2)) w9.drew := b11d
            refine wpR.pure 0 rfl (by kernel_rfl) (fun _ _ _ h => h) (by rfl) (v := ?_) ?_ ?_
            rotate_left 1
            · (intro wx _; go_simp; try with_reducible rfl)
            try simp only [Act.put, List.setIfInBounds_toArray, List.set_cons_zero, List.set_cons_succ]
            refine wpR.pure 1 rfl (by kernel_rfl) (fun _ _ _ h => h) (by rfl) (v := ?_) ?_ ?_
            rotate_left 1
            · (intro wx _; go_simp; try with_reducible rfl)
            try simp only [Act.put, List.setIfInBounds_toArray, List.set_cons_zero, List.set_cons_succ]
            refine wpR.pure 2 rfl (by kernel_rfl) (fun _ _ _ h => h) (by rfl) (v := ?_) ?_ ?_
            rotate_left 1
            · (intro wx _; go_simp; try with_reducible rfl)
            try simp only [Act.put, List.setIfInBounds_toArray, List.set_cons_zero, List.set_cons_succ]
            refine wpR.pure 3 rfl (by kernel_rfl) (fun _ _ _ h => h) (by rfl) (v := ?_) ?_ ?_
            rotate_left 1
            · (intro wx _; go_simp; try with_reducible rfl)
            try simp only [Act.put, List.setIfInBounds_toArray, List.set_cons_zero, List.set_cons_succ]
            refine wpR.take 4 rfl (by kernel_rfl) (fun _ _ _ h => h) (by rfl) (v := ?_) ?_ (by assumption) ?_
            rotate_left 1
            · (intro wx hSw; (try dsimp only at hSw); go_simp; try with_reducible rfl)
            try simp only [Act.put, List.setIfInBounds_toArray, List.set_cons_zero, List.set_cons_succ]
            refine wpR.pure 5 rfl (by kernel_rfl) (fun _ _ _ h => h) (by rfl) (v := ?_) ?_ ?_
            rotate_left 1
            · (intro wx _; go_simp; try with_reducible rfl)
            try simp only [Act.put, List.setIfInBounds_toArray, List.set_cons_zero, List.set_cons_succ]
            refine wpR.one 6 rfl (by kernel_rfl) (by rfl) (v := ?_) (w' := ?_) ?_ ?_ ?_
            rotate_left 2
            · (go_simp; first | done | with_reducible rfl | (refine ⟨?_, ?_⟩ <;> with_reducible rfl))
            · (intro _; exact b11)
            try simp only [Act.put, List.setIfInBounds_toArray, List.set_cons_zero, List.set_cons_succ]
            refine wpR.one 7 rfl (by kernel_rfl) (by rfl) (v := ?_) (w' := ?_) ?_ ?_ ?_
            rotate_left 2
            · (go_simp; first | done | with_reducible rfl | (refine ⟨?_, ?_⟩ <;> with_reducible rfl))
            · (intro _; exact b11a _)
            try simp only [Act.put, List.setIfInBounds_toArray, List.set_cons_zero, List.set_cons_succ]
            refine wpR.one 8 rfl (by kernel_rfl) (by rfl) (v := ?_) (w' := ?_) ?_ ?_ ?_
            rotate_left 2
            · (go_simp; first | done | with_reducible rfl | (refine ⟨?_, ?_⟩ <;> with_reducible rfl))
            · (intro q; exact absurd (by decide) q)
            try simp only [Act.put, List.setIfInBounds_toArray, List.set_cons_zero, List.set_cons_succ]
            refine wpR.pure 9 rfl (by kernel_rfl) (fun _ _ _ h => h) (by rfl) (v := ?_) ?_ ?_
            rotate_left 1
            · (intro wx _; go_simp; try with_reducible rfl)
            try simp only [Act.put, List.setIfInBounds_toArray, List.set_cons_zero, List.set_cons_succ]
            refine wpR.pure 10 rfl (by kernel_rfl) (fun _ _ _ h => h) (by rfl) (v := ?_) ?_ ?_
            rotate_left 1
            · (intro wx _; go_simp; try with_reducible rfl)
            try simp only [Act.put, List.setIfInBounds_toArray, List.set_cons_zero, List.set_cons_succ]
            refine wpR.skip 11 rfl (by kernel_rfl) (by rfl) (w' := ?_) ?_ ?_ ?_
            rotate_left 1
            · (go_simp; first | done | with_reducible rfl | (refine ⟨?_, ?_⟩ <;> with_reducible rfl))
            · (intro q; exact absurd (by decide) q)
            try simp only [Act.put]
            refine wpR.done (by kernel_rfl) ?_
            clear hr10 hr12 q5 f5 b11a b11 b11d hHeld
            go_wp2_with fail
            refine HBK.out.mono ?_
            rintro x w14 ⟨rfl, tag6, v6, va6, ph6, In6, hM6, hS6, hK6⟩
            obtain ⟨up, hup⟩ : ∃ t, -p = t := ⟨_, rfl⟩
            have hz := HZ.out.1
            rw [hup] at hz
            have HU := hid hz
            clear hz hup
            obtain ⟨d6, hd6⟩ : ∃ t : SD, { { d2 with A := A3, P := d2.P ++ [c] } with va := va6, ph := ph6, In := In6, K := d2.K.take b', dn := b', ls := d2.ls.take lv } = t := ⟨_, rfl⟩
            have hM6 : SM tag6 w3.heap.size w3 w14 a v6 d6 := by rw [← hd6]; exact hM6
            have hK6 : LK n d6 (Rz2.take b') (bs1.take lv) := by rw [← hd6]; exact hK6
            have HD6 : Hid (d6.C = d2.C ∧ d6.Wt = d2.Wt ∧ d6.K = d2.K.take b' ∧ d6.dn = b' ∧ d6.P = d2.P ++ [c] ∧ d6.bp = d2.bp) := hid (by rw [← hd6]; exact ⟨rfl, rfl, rfl, rfl, rfl, rfl⟩)
            clear hd6
            have h13g := HR.out.1.tagG
            have hro14 : Ro .oth tag6 w14 (.slice (some ⟨g, 0, none⟩) c.length cc) c := HR.out.1.keepG (hS6.1.block g h13g.2.1 (fun e => e h13g.1)) ((hS6.2 g h13g.2.1 h13g.1).trans h13g.1.symm)
            have hSR14 := HR.out.2.1.trans hS6
            have HFIN : Hid (∀ (wz : World) (tagz : Nat → KT) (vz : SV) (dz : SD) (Rzz : List Int), SM tagz w3.heap.size w3 wz a vz dz → SR tag7 tagz w7 wz → LK n dz Rzz (bs1.take lv) → dz.P = d2.P ++ [c] → dz.C.length ≤ d2.C.length + 1 → CD n (F ++ (d2.P ++ [c])) dz.C (WtF dz.Wt) dz.K Rzz (bs1.take lv) dz.dn → ∀ nb : Int, 0 ≤ nb → nb ≤ 1099511627776 → ∃ k', k' < gk ∧ SvI n F tag7 w3 w7 a k' (wz.setCell ⟨a.bx, 12, none⟩ (.int .i64 nb)) tagz vz { dz with bp := nb } Rzz (bs1.take lv) (cn + 1) rn un) := hid fun wz tagz vz dz Rzz h1 h2 h3 h4 h5 h7 nb hnb0 hnb1 => by
              have hlt := HZ.out.2.2.2.2.1
              have hcP : cn = d2.P.length := by rw [HW.out.1.pg.P]; exact HS.out.cfe
              refine ⟨_, ?_, h1.setBump nb, h2.same (h1.chg (b := a.bx) (o := 12) (h1.co .sta).2 nofun (.int .i64 nb)), HW.out.2.1.more HU.out (⟨h3.va, h3.vr, h3.ls, h3.lv, h3.re, h3.hp, h3.se⟩) h4 h5, by show CD n (F ++ dz.P) dz.C (WtF dz.Wt) dz.K _ _ dz.dn; rw [h4]; exact h7, by show cn + 1 = dz.P.length; rw [h4, hcP]; simp, HS.out.rn1, HS.out.rne, HS.out.une, ⟨hnb0, hnb1⟩, fun e => ?_, rfl⟩
              · rw [HS.out.ke]
                refine lexM ?_ (Nat.sub_le _ _)
                split <;> split <;> omega
              · exfalso
                have hP1 := HS.out.fn e
                have hcl := HS.out.lm.cl
                rw [e, hP1] at hcl
                obtain ⟨c0, hc0, -⟩ := HW.out.2.2.2.1.fls
                have := (List.getElem?_eq_some_iff.1 hc0).1
                have := HW.out.1.pg.cl
                have hcl2 : d1.C.length ≤ 0 := hcl
                omega
            have HM6 := hid (And.intro hM6 (And.intro hK6 (And.intro hro14 hSR14)))
            have hcl0 : (0 : Int) < CL := by have := HZ.out.2.2.1; have := HCL.out; omega
            have hcl0n : 0 < CL := by omega
            have hup0 : c[0]? = some up := HU.out.x0
            have huok : LitOk n up := HU.out.ok up (List.mem_of_getElem? hup0)
            have HUK := hid (And.intro hup0 huok)
            clear hM6 hS6 hK6 h13g hro14 hSR14 HBK hup0 huok
            by_cases hc2 : 1 < CL
            · have hc2i : (1 : Int) < CL := by omega
              have hC6 : d6.C.length ≤ 4398046511104 := by
                rw [HD6.out.1, HW.out.1.pg.cl]
                exact HB.out.2.2.2
              obtain ⟨y1, hy1⟩ : ∃ y, c[1]? = some y := ⟨_, List.getElem?_eq_getElem (by rw [HCL.out]; exact hc2)⟩
              have hy1o := HU.out.ok y1 (List.mem_of_getElem? hy1)
              have hne : up ≠ y1 := fun e => by
                have := nodup_get HU.out.nod HUK.out.1 (by rw [e]; exact hy1)
                omega
              have hwl : ∀ b, (WtF d6.Wt b).length ≤ 4398046511104 := fun b => by
                have h1 := HZ.out.2.1.wi.lenS b
                have h2 := HW.out.1.pg.cl
                have h3 := HB.out.2.2.2
                rw [HD6.out.2.1]
                omega
              have hat := sol_attach tag6 w3.heap.size w3 w14 a v6 d6 n g 0 cc c HM6.out.1 HAN.out (by have := HNN.out.1; omega) (by rw [HCL.out]; exact hc2) (by have := HZ.out.2.2.2.1; have := HNN.out.1; omega) HU.out.ok hC6 HM6.out.2.2.1 (by have h1 := HW.out.1.sm.le; have h2 := HR.out.2.2; omega) hwl
              rw [HCL.out] at hat
              have HAT := hid hat
              have hwt := attD_wt (d := d6) HAN.out ((HM6.out.1.co .wtb).2.2) HUK.out.1 hy1 HUK.out.2 hy1o hne
              have hkp := HU.out.keep2 (Wt' := WtF (attD d6 c).Wt) HZ.out.2.1 hy1 (fun b => by rw [hwt b, HD6.out.2.1, HD6.out.1])
              have HKP := hid hkp
              have hlt : (Rz2.take b').length = d6.K.length := by rw [HD6.out.2.2.1, List.length_take, List.length_take, HZ.out.2.1.rl]
              have hla : LK n (attD d6 c) (Rz2.take b') (bs1.take lv) := ⟨HM6.out.2.1.va, HM6.out.2.1.vr, HM6.out.2.1.ls, HM6.out.2.1.lv, HM6.out.2.1.re, HM6.out.2.1.hp, HM6.out.2.1.se⟩
              have hls : LK n (setD (attD d6 c) up (d6.C.length : Int)) (Rz2.take b' ++ [(d6.C.length : Int)]) (bs1.take lv) := hla.set hlt HUK.out.2 (by show up ∉ d6.K; rw [HD6.out.2.2.1]; exact HU.out.u1) (by show -up ∉ d6.K; rw [HD6.out.2.2.1]; exact HU.out.u2) (fun b hb => by
                have h1 := (HU.out.after HZ.out.2.1).bl b hb
                show b ≤ d6.K.length
                rw [HD6.out.2.2.1]
                exact Nat.le_of_lt h1) ((HM6.out.1.co .val).2.trans HAN.out) ((HM6.out.1.co .lev).2.trans HAN.out) ((HM6.out.1.co .rea).2.trans HAN.out)
              have HLS := hid hls
              have hKl : d6.K.length ≤ 1048576 := by
                have h1 := HZ.out.2.1
                have h2 := lits_le h1.nod h1.cons h1.kok
                have h3 := HNN.out.1
                rw [HD6.out.2.2.1, List.length_take]
                omega
              have HKL := hid hKl
              clear hC6 hy1 hy1o hne hwl hat hwt hkp hlt hla hls hKl hc2
              go_wp2_with fail
              refine HAT.out.mono ?_
              rintro x w24 ⟨rfl, tag8, v8, hM8, hT8, hO8⟩
              have h14g := HM6.out.2.2.1.tagG
              have hp0 : w24.cell? ⟨g, 0, none⟩ = some (.int .i64 up) := hT8.cellT (p := ⟨g, 0, none⟩) (h14g.2.2 0 up HUK.out.1) (fun e => e h14g.1)
              have hSR24 : SR tag7 tag8 w7 w24 := ⟨HM6.out.2.2.2.1.trans' hT8 fun i hi hs e => hs (HM6.out.2.2.2.2 i hi e), fun k hk e => hO8 k (Nat.lt_of_lt_of_le hk HM6.out.2.2.2.1.size) (by have h1 := HR.out.2.2; have h2 := HW.out.2.2.1.1.size; omega) (HM6.out.2.2.2.2 k hk e)⟩
              have HST := hid (sol_set tag8 w3.heap.size w3 w24 a v8 (attD d6 c) n up (d6.C.length : Int) hM8 HAN.out (by have := HNN.out.1; omega) HUK.out.2 HKL.out)
              have HM8 := hid hSR24
              clear hM8 hT8 hO8 h14g hSR24 HAT
              obtain ⟨DC, hDC⟩ : ∃ t, d6.C.length = t := ⟨_, rfl⟩
              have HDC := hid hDC
              rw [hDC] at HST ⊢
              clear hDC
              go_wp2_with fail
              refine HST.out.mono ?_
              rintro x w15 ⟨rfl, tag9, vt9, hM9, hS9⟩
              have hfin := HFIN.out w15 tag9 _ _ _ hM9 (HM8.out.trans hS9) (by rw [HDC.out] at HLS; exact HLS.out) HD6.out.2.2.2.2.1 (by show (d6.C ++ [c]).length ≤ _; rw [HD6.out.1]; simp) (by
                show CD n _ (d6.C ++ [c]) (WtF (attD d6 c).Wt) (d6.K ++ [up]) _ _ d6.dn
                have h1 := HKP.out
                rw [← HDC.out, HD6.out.1, HD6.out.2.2.1, HD6.out.2.2.2.1]
                exact h1)
              have hbpr : 0 ≤ d6.bp ∧ d6.bp ≤ 1099511627776 := by rw [HD6.out.2.2.2.2.2, HW.out.1.pg.bp]; exact HS.out.b0
              have b12 : w15.cell? ⟨a.bx, 12, none⟩ = some (.int .i64 d6.bp) := hM9.cell 12
              have f12 : w15.frozen? ⟨a.bx, 12, none⟩ = false := Fx.free (hM9.co .sta)
              have HFI := hid hfin
              have HM9 := hid hM9.bel
              clear hM9 hS9 hfin HST HLS HFIN
              obtain ⟨bp, hbp⟩ : ∃ t, d6.bp = t := ⟨_, rfl⟩
              rw [hbp] at hbpr b12
              clear hbp
              obtain ⟨bq, hbq⟩ : ∃ t, bp.tdiv 16 = t := ⟨_, rfl⟩
              have hbq0 : 0 ≤ bq ∧ bq ≤ bp := by rw [← hbq, Int.tdiv_eq_ediv_of_nonneg hbpr.1]; omega
              have hw16 : IntKind.i64.wrap bq = bq := IntWalk.i64_in _ (by omega)
              have hwad : IntKind.i64.wrap (bp + bq) = bp + bq := IntWalk.i64_in _ (by omega)
              go_wp2_with fail
              refine wp_region_R (fun yw => yw.cell? ⟨a.bx, 12, none⟩ = some (.int .i64 bp)) [14] (by kernel_rfl) ?_
              have hHeld : (fun yw : World => yw.cell? ⟨a.bx, 12, none⟩ = some (.int .i64 bp)) w15.drew := b12
              refine wpR.pure 0 rfl (by kernel_rfl) (fun _ _ _ h => h) (by rfl) (v := ?_) ?_ ?_
              rotate_left 1
              · (intro wx _; go_simp; try with_reducible rfl)
              try simp only [Act.put, List.setIfInBounds_toArray, List.set_cons_zero, List.set_cons_succ]
              refine wpR.pure 1 rfl (by kernel_rfl) (fun _ _ _ h => h) (by rfl) (v := ?_) ?_ ?_
              rotate_left 1
              · (intro wx _; go_simp; try with_reducible rfl)
              try simp only [Act.put, List.setIfInBounds_toArray, List.set_cons_zero, List.set_cons_succ]
              refine wpR.pure 2 rfl (by kernel_rfl) (fun _ _ _ h => h) (by rfl) (v := ?_) ?_ ?_
              rotate_left 1
              · (intro wx _; go_simp; try with_reducible rfl)
              try simp only [Act.put, List.setIfInBounds_toArray, List.set_cons_zero, List.set_cons_succ]
              refine wpR.pure 3 rfl (by kernel_rfl) (fun _ _ _ h => h) (by rfl) (v := ?_) ?_ ?_
              rotate_left 1
              · (intro wx _; go_simp; try with_reducible rfl)
              try simp only [Act.put, List.setIfInBounds_toArray, List.set_cons_zero, List.set_cons_succ]
              refine wpR.take 4 rfl (by kernel_rfl) (fun _ _ _ h => h) (by rfl) (v := ?_) ?_ (by assumption) ?_
              rotate_left 1
              · (intro wx hSw; (try dsimp only at hSw); go_simp; try with_reducible rfl)
              try simp only [Act.put, List.setIfInBounds_toArray, List.set_cons_zero, List.set_cons_succ]
              refine wpR.pure 5 rfl (by kernel_rfl) (fun _ _ _ h => h) (by rfl) (v := ?_) ?_ ?_
              rotate_left 1
              · (intro wx _; go_simp; try with_reducible rfl)
              try simp only [Act.put, List.setIfInBounds_toArray, List.set_cons_zero, List.set_cons_succ]
              refine wpR.pure 6 rfl (by kernel_rfl) (fun _ _ _ h => h) (by rfl) (v := ?_) ?_ ?_
              rotate_left 1
              · (intro wx _; go_simp; try with_reducible rfl)
              try simp only [Act.put, List.setIfInBounds_toArray, List.set_cons_zero, List.set_cons_succ]
              refine wpR.pure 7 rfl (by kernel_rfl) (fun _ _ _ h => h) (by rfl) (v := ?_) ?_ ?_
              rotate_left 1
              · (intro wx _; go_simp; try with_reducible rfl)
              try simp only [Act.put, List.setIfInBounds_toArray, List.set_cons_zero, List.set_cons_succ]
              refine wpR.take 8 rfl (by kernel_rfl) (fun _ _ _ h => h) (by rfl) (v := ?_) ?_ (by assumption) ?_
              rotate_left 1
              · (intro wx hSw; (try dsimp only at hSw); go_simp; try with_reducible rfl)
              try simp only [Act.put, List.setIfInBounds_toArray, List.set_cons_zero, List.set_cons_succ]
              refine wpR.pure 9 rfl (by kernel_rfl) (fun _ _ _ h => h) (by rfl) (v := ?_) ?_ ?_
              rotate_left 1
              · (intro wx _; go_simp; try with_reducible rfl)
              try simp only [Act.put, List.setIfInBounds_toArray, List.set_cons_zero, List.set_cons_succ]
              refine wpR.pure 10 rfl (by kernel_rfl) (fun _ _ _ h => h) (by rfl) (v := ?_) ?_ ?_
              rotate_left 1
              · (intro wx _; go_simp; try with_reducible rfl)
              try simp only [Act.put, List.setIfInBounds_toArray, List.set_cons_zero, List.set_cons_succ]
              refine wpR.pure 11 rfl (by kernel_rfl) (fun _ _ _ h => h) (by rfl) (v := ?_) ?_ ?_
              rotate_left 1
              · (intro wx _; go_simp; try with_reducible rfl)
              try simp only [Act.put, List.setIfInBounds_toArray, List.set_cons_zero, List.set_cons_succ]
              refine wpR.pure 12 rfl (by kernel_rfl) (fun _ _ _ h => h) (by rfl) (v := ?_) ?_ ?_
              rotate_left 1
              · (intro wx _; go_simp; try with_reducible rfl)
              try simp only [Act.put, List.setIfInBounds_toArray, List.set_cons_zero, List.set_cons_succ]
              refine wpR.pure 13 rfl (by kernel_rfl) (fun _ _ _ h => h) (by rfl) (v := ?_) ?_ ?_
              rotate_left 1
              · (intro wx _; go_simp; try with_reducible rfl)
              try simp only [Act.put, List.setIfInBounds_toArray, List.set_cons_zero, List.set_cons_succ]
              refine wpR.skip 14 rfl (by kernel_rfl) (by rfl) (w' := ?_) ?_ ?_ ?_
              rotate_left 1
              · (go_simp; first | done | with_reducible rfl | (refine ⟨?_, ?_⟩ <;> with_reducible rfl))
              · (intro q; exact absurd (by decide) q)
              try simp only [Act.put]
              refine wpR.done (by kernel_rfl) ?_
              have hnbr : 0 ≤ (if (1099511627776 : Int) < bp + bq then 1099511627776 else bp + bq) ∧ (if (1099511627776 : Int) < bp + bq then 1099511627776 else bp + bq) ≤ 1099511627776 := by split <;> omega
              generalize (if (1099511627776 : Int) < bp + bq then 1099511627776 else bp + bq) = nb at hnbr ⊢
              obtain ⟨k', hk', hI'⟩ := HFI.out nb hnbr.1 hnbr.2
              have HI' := hid hI'.drew
              clear hI' HFI b12 f12 hbq hbq0 hbpr hw16 hwad hnbr hHeld HM9 hp0
              generalize (w15.setCell ⟨a.bx, 12, none⟩ (.int .i64 nb)).drew = w16 at HI' ⊢
              by_cases hbr : 0 < b ∧ b ≤ ((cn + 1 : Nat) : Int)
              · have hbr1 := hbr.1
                have hbr2 : b ≤ (cn : Int) + 1 := by have := hbr.2; omega
                clear hbr
                obtain ⟨k0, kf, hend⟩ := solR_end (n := n) (F := F) (b := b) rfl Y.out.2.2 HB3.out Y.out.2.1 HI'.out.sm.bel (M := []) (P := []) (am := none) (ap := none) (ml := 0) (pl := 0) (cm := 0) (cp := 0) rfl rfl .unk (fun e => e.elim (fun e => by omega) (fun e => absurd (HI'.out.fn e) (fun e2 => by have := HI'.out.cfe; rw [e2] at this; cases this))) (fun _ _ => slv_nil _) (fun _ _ => rws_nil _) ⟨Nat.le_refl _, fun _ => rfl⟩ ⟨Nat.le_refl _, fun _ => rfl⟩
                have HEND := hid hend
                clear hend
                go_wp2_with fail
                rw [Exit.noGoto_ret]
                generalize hw9 : ((w16.setCell ⟨w.heap.size + 1, 0, none⟩ (.int .u8 0)).setCell ⟨w.heap.size + 1, 1, none⟩ (.slice none 0 0)).setCell ⟨w.heap.size + 1, 2, none⟩ (.slice none 0 0) = w17
                obtain ⟨hsr, q0, q1, q2⟩ := HEND.out w17 hw9
                have HSR := hid (HQ.out _ _ hsr)
                clear k0 kf hw9 hsr
                exact ⟨rfl, _, by simp [results, Try.results33, go_sem, q0, q1, q2], HSR.out⟩
              · by_cases hq : 0 < b
                · have hbr2 : ¬ b ≤ (cn : Int) + 1 := by omega
                  clear hbr
                  go_wp2_with fail
                  go_roundg k'
                  case measure => exact hk'
                  case rel => exact ⟨_, _, _, _, _, cn + 1, rn, un, by simp, rfl, rfl, HI'⟩
                · clear hbr
                  go_wp2_with fail
                  go_roundg k'
                  case measure => exact hk'
                  case rel => exact ⟨_, _, _, _, _, cn + 1, rn, un, by simp, rfl, rfl, HI'⟩
            · have hc2i : ¬ (1 : Int) < CL := by omega
              have hp0 : w14.cell? ⟨g, 0, none⟩ = some (.int .i64 up) := HM6.out.2.2.1.tagG.2.2 0 up HUK.out.1
              have hKl : d6.K.length ≤ 1048576 := by
                have h1 := HZ.out.2.1
                have h2 := lits_le h1.nod h1.cons h1.kok
                have h3 := HNN.out.1
                rw [HD6.out.2.2.1, List.length_take]
                omega
              have HST := hid (sol_set tag6 w3.heap.size w3 w14 a v6 d6 n up (-1) HM6.out.1 HAN.out (by have := HNN.out.1; omega) HUK.out.2 hKl)
              have hlt : (Rz2.take b').length = d6.K.length := by rw [HD6.out.2.2.1, List.length_take, List.length_take, HZ.out.2.1.rl]
              have hls : LK n (setD d6 up (-1)) (Rz2.take b' ++ [-1]) (bs1.take lv) := HM6.out.2.1.set hlt HUK.out.2 (by rw [HD6.out.2.2.1]; exact HU.out.u1) (by rw [HD6.out.2.2.1]; exact HU.out.u2) (fun b hb => by
                have h1 := (HU.out.after HZ.out.2.1).bl b hb
                rw [HD6.out.2.2.1]
                exact Nat.le_of_lt h1) ((HM6.out.1.co .val).2.trans HAN.out) ((HM6.out.1.co .lev).2.trans HAN.out) ((HM6.out.1.co .rea).2.trans HAN.out)
              have hcd := HU.out.keep1 HZ.out.2.1 (by have := HCL.out; omega) (-1)
              have HLS := hid (And.intro hls hcd)
              clear hKl hlt hls hcd hc2
              go_wp2_with fail
              refine HST.out.mono ?_
              rintro x w15 ⟨rfl, tag9, vt9, hM9, hS9⟩
              have hfin := HFIN.out w15 tag9 _ _ _ hM9 (HM6.out.2.2.2.trans hS9) HLS.out.1 HD6.out.2.2.2.2.1 (by show d6.C.length ≤ _; rw [HD6.out.1]; omega) (by show CD n _ d6.C (WtF d6.Wt) (d6.K ++ [up]) _ _ d6.dn; rw [HD6.out.1, HD6.out.2.1, HD6.out.2.2.1, HD6.out.2.2.2.1]; exact HLS.out.2)
              have hbpr : 0 ≤ d6.bp ∧ d6.bp ≤ 1099511627776 := by rw [HD6.out.2.2.2.2.2, HW.out.1.pg.bp]; exact HS.out.b0
              have b12 : w15.cell? ⟨a.bx, 12, none⟩ = some (.int .i64 d6.bp) := hM9.cell 12
              have f12 : w15.frozen? ⟨a.bx, 12, none⟩ = false := Fx.free (hM9.co .sta)
              have HFI := hid hfin
              have HM9 := hid hM9.bel
              clear hM9 hS9 hfin HST HLS HFIN
              obtain ⟨bp, hbp⟩ : ∃ t, d6.bp = t := ⟨_, rfl⟩
              rw [hbp] at hbpr b12
              clear hbp
              obtain ⟨bq, hbq⟩ : ∃ t, bp.tdiv 16 = t := ⟨_, rfl⟩
              have hbq0 : 0 ≤ bq ∧ bq ≤ bp := by rw [← hbq, Int.tdiv_eq_ediv_of_nonneg hbpr.1]; omega
              have hw16 : IntKind.i64.wrap bq = bq := IntWalk.i64_in _ (by omega)
              have hwad : IntKind.i64.wrap (bp + bq) = bp + bq := IntWalk.i64_in _ (by omega)
              go_wp2_with fail
              refine wp_region_R (fun yw => yw.cell? ⟨a.bx, 12, none⟩ = some (.int .i64 bp)) [14] (by kernel_rfl) ?_
              have hHeld : (fun yw : World => yw.cell? ⟨a.bx, 12, none⟩ = some (.int .i64 bp)) w15.drew := b12
              refine wpR.pure 0 rfl (by kernel_rfl) (fun _ _ _ h => h) (by rfl) (v := ?_) ?_ ?_
              rotate_left 1
              · (intro wx _; go_simp; try with_reducible rfl)
              try simp only [Act.put, List.setIfInBounds_toArray, List.set_cons_zero, List.set_cons_succ]
              refine wpR.pure 1 rfl (by kernel_rfl) (fun _ _ _ h => h) (by rfl) (v := ?_) ?_ ?_
              rotate_left 1
              · (intro wx _; go_simp; try with_reducible rfl)
              try simp only [Act.put, List.setIfInBounds_toArray, List.set_cons_zero, List.set_cons_succ]
              refine wpR.pure 2 rfl (by kernel_rfl) (fun _ _ _ h => h) (by rfl) (v := ?_) ?_ ?_
              rotate_left 1
              · (intro wx _; go_simp; try with_reducible rfl)
              try simp only [Act.put, List.setIfInBounds_toArray, List.set_cons_zero, List.set_cons_succ]
              refine wpR.pure 3 rfl (by kernel_rfl) (fun _ _ _ h => h) (by rfl) (v := ?_) ?_ ?_
              rotate_left 1
              · (intro wx _; go_simp; try with_reducible rfl)
              try simp only [Act.put, List.setIfInBounds_toArray, List.set_cons_zero, List.set_cons_succ]
              refine wpR.take 4 rfl (by kernel_rfl) (fun _ _ _ h => h) (by rfl) (v := ?_) ?_ (by assumption) ?_
              rotate_left 1
              · (intro wx hSw; (try dsimp only at hSw); go_simp; try with_reducible rfl)
              try simp only [Act.put, List.setIfInBounds_toArray, List.set_cons_zero, List.set_cons_succ]
              refine wpR.pure 5 rfl (by kernel_rfl) (fun _ _ _ h => h) (by rfl) (v := ?_) ?_ ?_
              rotate_left 1
              · (intro wx _; go_simp; try with_reducible rfl)
              try simp only [Act.put, List.setIfInBounds_toArray, List.set_cons_zero, List.set_cons_succ]
              refine wpR.pure 6 rfl (by kernel_rfl) (fun _ _ _ h => h) (by rfl) (v := ?_) ?_ ?_
              rotate_left 1
              · (intro wx _; go_simp; try with_reducible rfl)
              try simp only [Act.put, List.setIfInBounds_toArray, List.set_cons_zero, List.set_cons_succ]
              refine wpR.pure 7 rfl (by kernel_rfl) (fun _ _ _ h => h) (by rfl) (v := ?_) ?_ ?_
              rotate_left 1
              · (intro wx _; go_simp; try with_reducible rfl)
              try simp only [Act.put, List.setIfInBounds_toArray, List.set_cons_zero, List.set_cons_succ]
              refine wpR.take 8 rfl (by kernel_rfl) (fun _ _ _ h => h) (by rfl) (v := ?_) ?_ (by assumption) ?_
              rotate_left 1
              · (intro wx hSw; (try dsimp only at hSw); go_simp; try with_reducible rfl)
              try simp only [Act.put, List.setIfInBounds_toArray, List.set_cons_zero, List.set_cons_succ]
              refine wpR.pure 9 rfl (by kernel_rfl) (fun _ _ _ h => h) (by rfl) (v := ?_) ?_ ?_
              rotate_left 1
              · (intro wx _; go_simp; try with_reducible rfl)
              try simp only [Act.put, List.setIfInBounds_toArray, List.set_cons_zero, List.set_cons_succ]
              refine wpR.pure 10 rfl (by kernel_rfl) (fun _ _ _ h => h) (by rfl) (v := ?_) ?_ ?_
              rotate_left 1
              · (intro wx _; go_simp; try with_reducible rfl)
              try simp only [Act.put, List.setIfInBounds_toArray, List.set_cons_zero, List.set_cons_succ]
              refine wpR.pure 11 rfl (by kernel_rfl) (fun _ _ _ h => h) (by rfl) (v := ?_) ?_ ?_
              rotate_left 1
              · (intro wx _; go_simp; try with_reducible rfl)
              try simp only [Act.put, List.setIfInBounds_toArray, List.set_cons_zero, List.set_cons_succ]
              refine wpR.pure 12 rfl (by kernel_rfl) (fun _ _ _ h => h) (by rfl) (v := ?_) ?_ ?_
              rotate_left 1
              · (intro wx _; go_simp; try with_reducible rfl)
              try simp only [Act.put, List.setIfInBounds_toArray, List.set_cons_zero, List.set_cons_succ]
              refine wpR.pure 13 rfl (by kernel_rfl) (fun _ _ _ h => h) (by rfl) (v := ?_) ?_ ?_
              rotate_left 1
              · (intro wx _; go_simp; try with_reducible rfl)
              try simp only [Act.put, List.setIfInBounds_toArray, List.set_cons_zero, List.set_cons_succ]
              refine wpR.skip 14 rfl (by kernel_rfl) (by rfl) (w' := ?_) ?_ ?_ ?_
              rotate_left 1
              · (go_simp; first | done | with_reducible rfl | (refine ⟨?_, ?_⟩ <;> with_reducible rfl))
              · (intro q; exact absurd (by decide) q)
              try simp only [Act.put]
              refine wpR.done (by kernel_rfl) ?_
              have hnbr : 0 ≤ (if (1099511627776 : Int) < bp + bq then 1099511627776 else bp + bq) ∧ (if (1099511627776 : Int) < bp + bq then 1099511627776 else bp + bq) ≤ 1099511627776 := by split <;> omega
              generalize (if (1099511627776 : Int) < bp + bq then 1099511627776 else bp + bq) = nb at hnbr ⊢
              obtain ⟨k', hk', hI'⟩ := HFI.out nb hnbr.1 hnbr.2
              have HI' := hid hI'.drew
              clear hI' HFI b12 f12 hbq hbq0 hbpr hw16 hwad hnbr hHeld HM9 hp0
              generalize (w15.setCell ⟨a.bx, 12, none⟩ (.int .i64 nb)).drew = w16 at HI' ⊢
              by_cases hbr : 0 < b ∧ b ≤ ((cn + 1 : Nat) : Int)
              · have hbr1 := hbr.1
                have hbr2 : b ≤ (cn : Int) + 1 := by have := hbr.2; omega
                clear hbr
                obtain ⟨k0, kf, hend⟩ := solR_end (n := n) (F := F) (b := b) rfl Y.out.2.2 HB3.out Y.out.2.1 HI'.out.sm.bel (M := []) (P := []) (am := none) (ap := none) (ml := 0) (pl := 0) (cm := 0) (cp := 0) rfl rfl .unk (fun e => e.elim (fun e => by omega) (fun e => absurd (HI'.out.fn e) (fun e2 => by have := HI'.out.cfe; rw [e2] at this; cases this))) (fun _ _ => slv_nil _) (fun _ _ => rws_nil _) ⟨Nat.le_refl _, fun _ => rfl⟩ ⟨Nat.le_refl _, fun _ => rfl⟩
                have HEND := hid hend
                clear hend
                go_wp2_with fail
                rw [Exit.noGoto_ret]
                generalize hw9 : ((w16.setCell ⟨w.heap.size + 1, 0, none⟩ (.int .u8 0)).setCell ⟨w.heap.size + 1, 1, none⟩ (.slice none 0 0)).setCell ⟨w.heap.size + 1, 2, none⟩ (.slice none 0 0) = w17
                obtain ⟨hsr, q0, q1, q2⟩ := HEND.out w17 hw9
                have HSR := hid (HQ.out _ _ hsr)
                clear k0 kf hw9 hsr
                exact ⟨rfl, _, by simp [results, Try.results33, go_sem, q0, q1, q2], HSR.out⟩
              · by_cases hq : 0 < b
                · have hbr2 : ¬ b ≤ (cn : Int) + 1 := by omega
                  clear hbr
                  go_wp2_with fail
                  go_roundg k'
                  case measure => exact hk'
                  case rel => exact ⟨_, _, _, _, _, cn + 1, rn, un, by simp, rfl, rfl, HI'⟩
                · clear hbr
                  go_wp2_with fail
                  go_roundg k'
                  case measure => exact hk'
                  case rel => exact ⟨_, _, _, _, _, cn + 1, rn, un, by simp, rfl, rfl, HI'⟩
    · have hun := sol_unsat tag7 w3.heap.size w3 w7 a v7 d7 hL7.sm (by rw [hP7]; exact Nat.zero_le _)
      have HUN := hid hun
      have HPF := hid (hlm.proof (by rw [hFP]; exact hbad))
      obtain ⟨PL, hPL⟩ : ∃ t, d7.P.length = t := ⟨_, rfl⟩
      rw [hPL] at HUN
      have HPL := hid hPL
      clear hL7 hlm hP7 hFP hbad hun HLD hPL
      go_wp2_with fail
      refine HUN.out.mono ?_
      rintro x w8 ⟨av, cv, rfl, hrw8, hcv1, hcv2, hb8⟩
      obtain ⟨k0, kf, hend⟩ := solR_end (b := b) rfl Y.out.2.2 HB3.out Y.out.2.1 hb8 (M := []) (am := none) (cm := 0) (pl := PL + 1) rfl (by simp [HPL.out]) HPF.out (fun _ => by decide) (fun _ _ => slv_nil _) hrw8 ⟨Nat.le_refl _, fun _ => rfl⟩ ⟨by simp [HPL.out]; exact hcv1, hcv2⟩
      have HEND := hid hend
      clear hrw8 hcv1 hcv2 hb8 hend
      go_wp2_with fail
      rw [Exit.noGoto_ret]
      generalize hw9 : ((w8.setCell ⟨w.heap.size + 1, 0, none⟩ (.int .u8 2)).setCell ⟨w.heap.size + 1, 1, none⟩ (.slice none 0 0)).setCell ⟨w.heap.size + 1, 2, none⟩ (.slice av (PL + 1) cv) = w9
      obtain ⟨hsr, q0, q1, q2⟩ := HEND.out w9 hw9
      have HSR := hid (HQ.out _ _ hsr)
      clear k0 kf hw9 hsr
      exact ⟨rfl, _, by simp [results, Try.results33, go_sem, q0, q1, q2], HSR.out⟩

end Go.Proofs.Ytfofabbnbmieoaa.Ord
