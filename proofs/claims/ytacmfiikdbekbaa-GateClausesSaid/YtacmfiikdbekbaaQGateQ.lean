/- The contract of law15's Put. -/
import Derived.Test.YtacmfiikdbekbaaQ4

namespace Go.Proofs.Ytacmfiikdbekbaa.Ord
open Go.RowKit Go.Conc

attribute [local go_sem ↓] Go.wp_at_zero Go.wp_at_succ
attribute [local go_sem ↓ high] app_mark

set_option maxHeartbeats 1000000 in
theorem ref15_And (w : World) (x y : Bool) : Calls Try.prog 64 #[.bool x, .bool y] w fun e w' => e = .returned (.bool (x && y)) ∧ w = w' := by
  go_enter Try.func64, Try.ntmps64
  cases x <;> cases y
  all_goals
    go_wp2_with fail
    go_ret
    exact ⟨rfl, rfl⟩

set_option maxHeartbeats 1000000 in
theorem ref15_Or (w : World) (x y : Bool) : Calls Try.prog 65 #[.bool x, .bool y] w fun e w' => e = .returned (.bool (x || y)) ∧ w = w' := by
  go_enter Try.func65, Try.ntmps65
  cases x <;> cases y
  all_goals
    go_wp2_with fail
    go_ret
    exact ⟨rfl, rfl⟩

set_option maxHeartbeats 1000000 in
theorem ref15_Xor (w : World) (x y : Bool) : Calls Try.prog 66 #[.bool x, .bool y] w fun e w' => e = .returned (.bool (x != y)) ∧ w = w' := by
  go_enter Try.func66, Try.ntmps66
  cases x <;> cases y
  all_goals
    go_wp2_with fail
    go_ret
    exact ⟨rfl, rfl⟩

set_option maxHeartbeats 1000000 in
theorem ref15_Mux (w : World) (c x y : Bool) : Calls Try.prog 67 #[.bool c, .bool x, .bool y] w fun e w' => e = .returned (.bool (if c then x else y)) ∧ w = w' := by
  go_enter Try.func67, Try.ntmps67
  cases c
  all_goals
    go_wp2_with fail
    go_ret
    exact ⟨rfl, rfl⟩

/-- The literal that Put takes by a rest, and its value. -/
def pkP (L : List Int) (V : List Bool) (r : Nat) : Int × Bool := if r % 2 = 1 then (-(L.getD (r / 2) 0), !(V.getD (r / 2) false)) else (L.getD (r / 2) 0, V.getD (r / 2) false)

/-- What the gate number q gives. -/
def gPut (n : Nat) (G : List (List Int)) (q : Nat) (x y z : Int) : Int × Nat × List (List Int) :=
  match q with
  | 0 => gAnd n G x y
  | 1 => gOr n G x y
  | 2 => gXor n G x y
  | _ => gMux n G x y z

/-- Its value. -/
def vPut (q : Nat) (x y z : Bool) : Bool :=
  match q with
  | 0 => x && y
  | 1 => x || y
  | 2 => x != y
  | _ => if x then y else z

/-- The memory of Put: the circuit, the gate, what it takes, the literals and the values. -/
structure PM (w wr : World) (cA cG cT cl cv : List Value) : Prop where
  bel : Below w.heap.size w wr
  h4 : wr.heap[w.heap.size]? = some (.cells cA.toArray 46 (0, 0))
  h5 : wr.heap[w.heap.size + 1]? = some (.cells cG.toArray 56 (0, 0))
  h11 : wr.heap[w.heap.size + 1 + 1]? = some (.cells cT.toArray 105 (0, 0))
  h12 : wr.heap[w.heap.size + 1 + 1 + 1]? = some (.cells cl.toArray 105 (0, 0))
  h13 : wr.heap[w.heap.size + 1 + 1 + 1 + 1]? = some (.cells cv.toArray 106 (0, 0))

section
variable {w wr : World} {cA cG cT cl cv : List Value}

theorem PM.dr (h : PM w wr cA cG cT cl cv) : PM w wr.drew cA cG cT cl cv := ⟨h.bel.drew, h.h4, h.h5, h.h11, h.h12, h.h13⟩

theorem PM.set12 (h : PM w wr cA cG cT cl cv) (j : Nat) (u : Value) : PM w (wr.setCell ⟨w.heap.size + 1 + 1 + 1, j, none⟩ u) cA cG cT (cl.set j u) cv :=
  ⟨h.bel.setCell (by show w.heap.size ≤ w.heap.size + 1 + 1 + 1; omega) _, (heap_setCell_other wr ⟨w.heap.size + 1 + 1 + 1, j, none⟩ _ _ (by show w.heap.size ≠ w.heap.size + 1 + 1 + 1; omega)).trans h.h4, (heap_setCell_other wr ⟨w.heap.size + 1 + 1 + 1, j, none⟩ _ _ (by show w.heap.size + 1 ≠ w.heap.size + 1 + 1 + 1; omega)).trans h.h5, (heap_setCell_other wr ⟨w.heap.size + 1 + 1 + 1, j, none⟩ _ _ (by show w.heap.size + 1 + 1 ≠ w.heap.size + 1 + 1 + 1; omega)).trans h.h11, setCell_blockG _ h.h12, (heap_setCell_other wr ⟨w.heap.size + 1 + 1 + 1, j, none⟩ _ _ (by show w.heap.size + 1 + 1 + 1 + 1 ≠ w.heap.size + 1 + 1 + 1; omega)).trans h.h13⟩

theorem PM.set13 (h : PM w wr cA cG cT cl cv) (j : Nat) (u : Value) : PM w (wr.setCell ⟨w.heap.size + 1 + 1 + 1 + 1, j, none⟩ u) cA cG cT cl (cv.set j u) :=
  ⟨h.bel.setCell (by show w.heap.size ≤ w.heap.size + 1 + 1 + 1 + 1; omega) _, (heap_setCell_other wr ⟨w.heap.size + 1 + 1 + 1 + 1, j, none⟩ _ _ (by show w.heap.size ≠ w.heap.size + 1 + 1 + 1 + 1; omega)).trans h.h4, (heap_setCell_other wr ⟨w.heap.size + 1 + 1 + 1 + 1, j, none⟩ _ _ (by show w.heap.size + 1 ≠ w.heap.size + 1 + 1 + 1 + 1; omega)).trans h.h5, (heap_setCell_other wr ⟨w.heap.size + 1 + 1 + 1 + 1, j, none⟩ _ _ (by show w.heap.size + 1 + 1 ≠ w.heap.size + 1 + 1 + 1 + 1; omega)).trans h.h11, (heap_setCell_other wr ⟨w.heap.size + 1 + 1 + 1 + 1, j, none⟩ _ _ (by show w.heap.size + 1 + 1 + 1 ≠ w.heap.size + 1 + 1 + 1 + 1; omega)).trans h.h12, setCell_blockG _ h.h13⟩
end

set_option maxRecDepth 100000 in
set_option maxHeartbeats 4000000 in
theorem law15_Put {X : Nat → Prop} (w : World) (B b n : Nat) (G : List (List Int)) (vI vV : Value) (what g0 g1 g2 : Int) (al av : Option Addr) (nl nv cl cv : Nat) (L : List Int) (V : List Bool) (q : Nat) (l0 l1 l2 : Int) (v0 v1 v2 : Bool)
    (h : GB X w B b n G) (h1 : 1 ≤ n) (hn : n < 1048576) (hG : G.length + 6 ≤ 1048576) (hw0 : 0 ≤ what ∧ what ≤ 255) (hq : what % 4 = (q : Int)) (hnl : nl = L.length) (hnv : nv = L.length) (hlv : V.length = L.length) (hl1 : 1 ≤ L.length) (hl2 : L.length ≤ 10000) (hL : SlV w al (ints L)) (hV : SlV w av (bools V)) (hok : ∀ x ∈ L, LitOk n x)
    (hp : ∀ (i : Nat) (g : Int), [g0, g1, g2][i]? = some g → ∃ r : Nat, g % (2 * (L.length : Int)) = (r : Int) ∧ [l0, l1, l2][i]? = some (pkP L V r).1 ∧ [v0, v1, v2][i]? = some (pkP L V r).2)
    (k0 : LitOk n l0) (k1 : LitOk n l1) (k2 : LitOk n l2) :
    Calls Try.prog 47 #[.agg #[.pointer (some ⟨b, 0, none⟩), vI, vV], .agg #[.int .u8 what, .int .i64 g0, .int .i64 g1, .int .i64 g2], .slice al nl cl, .slice av nv cv] w fun e w' =>
      e = .returned (.tuple #[.int .i64 (gPut n G q l0 l1 l2).1, .bool (vPut q v0 v1 v2), .int .i64 0]) ∧ GB X w' B b (gPut n G q l0 l1 l2).2.1 (gPut n G q l0 l1 l2).2.2 ∧ Gk B w w' := by
  subst hnl
  subst hnv
  have HGB := hid h
  have HL := hid hL
  have HV := hid hV
  have HOK := hid hok
  have HP := hid hp
  have HK := hid (And.intro k0 (And.intro k1 k2))
  have HLV := hid hlv
  clear h hL hV hok hp k0 k1 k2 hlv
  go_enter Try.func47, Try.ntmps47
  go_wp2_with fail
  have hp0 : PM w (((((w.alloc (.cells #[.pointer (some ⟨b, 0, none⟩), vI, vV] 46)).alloc (.cells #[.int .u8 what, .int .i64 g0, .int .i64 g1, .int .i64 g2] 56)).alloc (.cells #[.int .i64 g0, .int .i64 g1, .int .i64 g2] 105)).alloc (.cells #[.int .i64 0, .int .i64 0, .int .i64 0] 105)).alloc (.cells #[.bool false, .bool false, .bool false] 106)) [.pointer (some ⟨b, 0, none⟩), vI, vV] [.int .u8 what, .int .i64 g0, .int .i64 g1, .int .i64 g2] [.int .i64 g0, .int .i64 g1, .int .i64 g2] [.int .i64 0, .int .i64 0, .int .i64 0] [.bool false, .bool false, .bool false] := by
    refine ⟨below_al (below_al (below_al (below_al (box_below _ _) (by simp only [size_al]; omega) _) (by simp only [size_al]; omega) _) (by simp only [size_al]; omega) _) (by simp only [size_al]; omega) _, ?_, ?_, ?_, ?_, ?_⟩
    · simp only [heap_al, Array.getElem?_push, Array.size_push]; rw [if_neg (by omega), if_neg (by omega), if_neg (by omega), if_neg (by omega), if_pos trivial]
    · simp only [heap_al, Array.getElem?_push, Array.size_push]; rw [if_neg (by omega), if_neg (by omega), if_neg (by omega), if_pos trivial]
    · simp only [heap_al, Array.getElem?_push, Array.size_push]; rw [if_neg (by omega)]; rw [if_neg (by omega)]; rw [if_pos trivial]
    · simp only [heap_al, Array.getElem?_push, Array.size_push]; rw [if_neg (by omega)]; rw [if_pos trivial]
    · simp only [heap_al, Array.getElem?_push, Array.size_push]; rw [if_pos trivial]
  have HP0 := hid hp0
  clear hp0
  generalize hwz : (((((w.alloc _).alloc _).alloc _).alloc _).alloc _) = wz at HP0 ⊢
  clear hwz
  go_loopw [14, 15] (fun s14 _ wl => ∃ i : Nat, s14 = .int .i64 i ∧ i ≤ 3 ∧ Hid (PM w wl [.pointer (some ⟨b, 0, none⟩), vI, vV] [.int .u8 what, .int .i64 g0, .int .i64 g1, .int .i64 g2] [.int .i64 g0, .int .i64 g1, .int .i64 g2] (([.int .i64 l0, .int .i64 l1, .int .i64 l2] : List Value).take i ++ List.replicate (3 - i) (.int .i64 0)) (([.bool v0, .bool v1, .bool v2] : List Value).take i ++ List.replicate (3 - i) (.bool false)))) (fun s14 _ _ => (3 - (intOf s14)).toNat)
  case atStart => exact ⟨0, rfl, by omega, HP0⟩
  case round =>
    clear HP0
    obtain ⟨i, rfl, hi, HM⟩ := hrel
    by_cases hlt : i < 3
    · have hlt2 : (i : Int) < 3 := by omega
      have hwi : IntKind.i64.wrap ((i : Int) + 1) = (i : Int) + 1 := IntWalk.i64_in _ (by omega)
      obtain ⟨g, hg⟩ : ∃ g, [g0, g1, g2][i]? = some g := ⟨_, List.getElem?_eq_getElem hlt⟩
      obtain ⟨r, hr, hpl, hpv⟩ := HP.out i g hg
      have hct : wr.cell? ⟨w.heap.size + 1 + 1, i, none⟩ = some (.int .i64 g) := by
        rw [fit_cell HM.out.h11 i]
        match i, hlt, hg with
        | 0, _, hg => simpa using hg
        | 1, _, hg => simpa using hg
        | 2, _, hg => simpa using hg
      have hw2 : IntKind.i64.wrap (2 * (L.length : Int)) = 2 * (L.length : Int) := IntWalk.i64_in _ (by omega)
      clear hg
      go_wp2_with fail
      refine (kit_Mod wr g (2 * (L.length : Int)) (by omega) (by omega)).mono ?_
      rw [hr]
      rintro e w2 ⟨rfl, rfl⟩
      have hrl : r < 2 * L.length := by have := Int.emod_lt_of_pos g (show (0 : Int) < 2 * (L.length : Int) by omega); omega
      obtain ⟨j, hj⟩ : ∃ j, r / 2 = j := ⟨_, rfl⟩
      have hjl : j < L.length := by omega
      have hquo : (r : Int).tdiv 2 = (j : Int) := by rw [Int.tdiv_eq_ediv_of_nonneg (by omega)]; omega
      have hwj : IntKind.i64.wrap (j : Int) = (j : Int) := IntWalk.i64_in _ (by omega)
      have hjl2 : (j : Int) < L.length := by omega
      obtain ⟨b1, o1, x, rfl, hx0, hxj⟩ := HL.out.int (k := j) hjl
      obtain ⟨b2, o2, y, rfl, hy0, hyj⟩ := HV.out.bool (k := j) (by rw [HLV.out]; exact hjl)
      have hx := below_keeps HM.out.bel _ _ hx0
      have hy := below_keeps HM.out.bel _ _ hy0
      have hy12 : ∀ v, (wr.setCell ⟨w.heap.size + 1 + 1 + 1, i, none⟩ v).cell? ⟨b2, o2 + j, none⟩ = some (.bool y) := fun v => below_keeps (HM.out.set12 i v).bel _ _ hy0
      have hx12 : ∀ v, (wr.setCell ⟨w.heap.size + 1 + 1 + 1, i, none⟩ v).cell? ⟨b1, o1 + j, none⟩ = some (.int .i64 x) := fun v => below_keeps (HM.out.set12 i v).bel _ _ hx0
      have hx13 : ∀ v, (wr.setCell ⟨w.heap.size + 1 + 1 + 1 + 1, i, none⟩ v).cell? ⟨b1, o1 + j, none⟩ = some (.int .i64 x) := fun v => below_keeps (HM.out.set13 i v).bel _ _ hx0
      have hy13 : ∀ v, (wr.setCell ⟨w.heap.size + 1 + 1 + 1 + 1, i, none⟩ v).cell? ⟨b2, o2 + j, none⟩ = some (.bool y) := fun v => below_keeps (HM.out.set13 i v).bel _ _ hy0
      clear hx0 hy0
      have hxb := HOK.out x (List.mem_of_getElem? hxj)
      have hwx : IntKind.i64.wrap (-x) = -x := IntWalk.i64_in _ (by unfold LitOk at hxb; omega)
      have e2 : (r : Int).tmod 2 = ((r % 2 : Nat) : Int) := by rw [Int.tmod_eq_emod_of_nonneg (by omega)]; omega
      have hq12 : wr.cell? ⟨w.heap.size + 1 + 1 + 1, i, none⟩ = some (.int .i64 0) := by
        rw [fit_cell HM.out.h12 i]
        match i, hlt with
        | 0, _ => rfl
        | 1, _ => rfl
        | 2, _ => rfl
      have hq13 : wr.cell? ⟨w.heap.size + 1 + 1 + 1 + 1, i, none⟩ = some (.bool false) := by
        rw [fit_cell HM.out.h13 i]
        match i, hlt with
        | 0, _ => rfl
        | 1, _ => rfl
        | 2, _ => rfl
      have hf12 : wr.frozen? ⟨w.heap.size + 1 + 1 + 1, i, none⟩ = false := frozen_of_row _ _ _ _ _ HM.out.h12
      have hf13 : wr.frozen? ⟨w.heap.size + 1 + 1 + 1 + 1, i, none⟩ = false := frozen_of_row _ _ _ _ _ HM.out.h13
      clear hct hw2 hr hxb
      go_wp2_with fail
      have HXJ := hid (And.intro hxj hyj)
      have HRJ := hid hj
      have HPL := hid hpl
      have HPV := hid hpv
      clear hxj hyj hj hpl hpv
      have HN := hid ((HM.out.set12 i (.int .i64 x)).set13 i (.bool y)).dr
      have HQ : Hid (((wr.setCell ⟨w.heap.size + 1 + 1 + 1, i, none⟩ (.int .i64 x)).setCell ⟨w.heap.size + 1 + 1 + 1 + 1, i, none⟩ (.bool y)).drew.cell? ⟨w.heap.size + 1 + 1 + 1, i, none⟩ = some (.int .i64 x) ∧ ((wr.setCell ⟨w.heap.size + 1 + 1 + 1, i, none⟩ (.int .i64 x)).setCell ⟨w.heap.size + 1 + 1 + 1 + 1, i, none⟩ (.bool y)).drew.cell? ⟨w.heap.size + 1 + 1 + 1 + 1, i, none⟩ = some (.bool y)) := hid (by
        refine ⟨(fit_cell HN.out.h12 i).trans ?_, (fit_cell HN.out.h13 i).trans ?_⟩
        · match i, hlt with
          | 0, _ => rfl
          | 1, _ => rfl
          | 2, _ => rfl
        · match i, hlt with
          | 0, _ => rfl
          | 1, _ => rfl
          | 2, _ => rfl)
      go_region
      generalize ((wr.setCell ⟨w.heap.size + 1 + 1 + 1, i, none⟩ (.int .i64 x)).setCell ⟨w.heap.size + 1 + 1 + 1 + 1, i, none⟩ (.bool y)).drew = w5 at HN HQ ⊢
      clear hx hy hy12 hx12 hx13 hy13 hq12 hq13 hf12 hf13 hquo hwj hjl2 HM
      have hq12 := HQ.out.1
      have hq13 := HQ.out.2
      have hf12 : w5.frozen? ⟨w.heap.size + 1 + 1 + 1, i, none⟩ = false := frozen_of_row _ _ _ _ _ HN.out.h12
      have hf13 : w5.frozen? ⟨w.heap.size + 1 + 1 + 1 + 1, i, none⟩ = false := frozen_of_row _ _ _ _ _ HN.out.h13
      by_cases hodd : r % 2 = 1
      · have e3 : (r : Int).tmod 2 = 1 := by rw [e2, hodd]; rfl
        have hxl : [l0, l1, l2][i]? = some (-x) ∧ [v0, v1, v2][i]? = some (!y) := by
          have h3 := HPL.out
          have h4 := HPV.out
          unfold pkP at h3 h4
          rw [if_pos hodd, HRJ.out] at h3 h4
          simpa [List.getD, HXJ.out.1, HXJ.out.2] using And.intro h3 h4
        have hq13a : ∀ v, (w5.setCell ⟨w.heap.size + 1 + 1 + 1, i, none⟩ v).cell? ⟨w.heap.size + 1 + 1 + 1 + 1, i, none⟩ = some (.bool y) := fun v => (fit_cell (HN.out.set12 i v).h13 i).trans ((fit_cell HN.out.h13 i).symm.trans hq13)
        have HE := hid ((HN.out.set12 i (.int .i64 (-x))).set13 i (.bool !y)).dr
        have HXL := hid hxl
        clear e2 hodd hxl
        go_wp2_with fail
        go_region
        go_wp2_with fail
        go_roundw
        case rel =>
          refine ⟨i + 1, by simp, hlt, ?_⟩
          have h3 := HXL.out
          have h4 := HE.out
          match i, hlt with
          | 0, _ => obtain ⟨e5, e6⟩ := h3; injection e5 with e5; injection e6 with e6; subst e5 e6; exact h4
          | 1, _ => obtain ⟨e5, e6⟩ := h3; injection e5 with e5; injection e6 with e6; subst e5 e6; exact h4
          | 2, _ => obtain ⟨e5, e6⟩ := h3; injection e5 with e5; injection e6 with e6; subst e5 e6; exact h4
        case measure => simp [intOf]; omega
      · have e3 : (r : Int).tmod 2 = 0 := by rw [e2]; omega
        have hxl : [l0, l1, l2][i]? = some x ∧ [v0, v1, v2][i]? = some y := by
          have h3 := HPL.out
          have h4 := HPV.out
          unfold pkP at h3 h4
          rw [if_neg hodd, HRJ.out] at h3 h4
          simpa [List.getD, HXJ.out.1, HXJ.out.2] using And.intro h3 h4
        have HXL := hid hxl
        clear e2 hodd hxl
        go_wp2_with fail
        go_roundw
        case rel =>
          refine ⟨i + 1, by simp, hlt, ?_⟩
          have h3 := HXL.out
          have h4 := HN.out
          match i, hlt with
          | 0, _ => obtain ⟨e5, e6⟩ := h3; injection e5 with e5; injection e6 with e6; subst e5 e6; exact h4
          | 1, _ => obtain ⟨e5, e6⟩ := h3; injection e5 with e5; injection e6 with e6; subst e5 e6; exact h4
          | 2, _ => obtain ⟨e5, e6⟩ := h3; injection e5 with e5; injection e6 with e6; subst e5 e6; exact h4
        case measure => simp [intOf]; omega
    · have hi3 : i = 3 := by omega
      subst hi3
      have HM3 : Hid (PM w wr [.pointer (some ⟨b, 0, none⟩), vI, vV] [.int .u8 what, .int .i64 g0, .int .i64 g1, .int .i64 g2] [.int .i64 g0, .int .i64 g1, .int .i64 g2] [.int .i64 l0, .int .i64 l1, .int .i64 l2] [.bool v0, .bool v1, .bool v2]) := HM
      clear HM
      have hBw : B ≤ w.heap.size := by obtain ⟨v, q1, -, q3, -⟩ := HGB.out; have := (Array.getElem?_eq_some_iff.1 q1).1; omega
      have hc4 : wr.cell? ⟨w.heap.size, 0, none⟩ = some (.pointer (some ⟨b, 0, none⟩)) := fit_cell HM3.out.h4 0
      have hg5 : wr.cell? ⟨w.heap.size + 1, 0, none⟩ = some (.int .u8 what) := fit_cell HM3.out.h5 0
      have ha0 : wr.cell? ⟨w.heap.size + 1 + 1 + 1, 0, none⟩ = some (.int .i64 l0) := fit_cell HM3.out.h12 0
      have ha1 : wr.cell? ⟨w.heap.size + 1 + 1 + 1, 1, none⟩ = some (.int .i64 l1) := fit_cell HM3.out.h12 1
      have ha2 : wr.cell? ⟨w.heap.size + 1 + 1 + 1, 2, none⟩ = some (.int .i64 l2) := fit_cell HM3.out.h12 2
      have hv0 : wr.cell? ⟨w.heap.size + 1 + 1 + 1 + 1, 0, none⟩ = some (.bool v0) := fit_cell HM3.out.h13 0
      have hv1 : wr.cell? ⟨w.heap.size + 1 + 1 + 1 + 1, 1, none⟩ = some (.bool v1) := fit_cell HM3.out.h13 1
      have hv2 : wr.cell? ⟨w.heap.size + 1 + 1 + 1 + 1, 2, none⟩ = some (.bool v2) := fit_cell HM3.out.h13 2
      have hrem : what.tmod 4 = (q : Int) := by rw [Int.tmod_eq_emod_of_nonneg hw0.1]; exact hq
      have hq4 : q = 0 ∨ q = 1 ∨ q = 2 ∨ q = 3 := by omega
      clear hq
      rcases hq4 with rfl | rfl | rfl | rfl
      · go_wp2_with fail
        refine (gate_And wr B b n G l0 l1 (HGB.out.below HM3.out.bel) HK.out.1 HK.out.2.1 hn hG).mono ?_
        rintro e w7 ⟨rfl, hg7, hk7⟩
        have h13' := (hk7.kept _ _ _ _ HM3.out.h13 (by decide) (by decide)).trans HM3.out.h13
        have hr0 := fit_cell (vs := [.bool v0, .bool v1, .bool v2]) h13' 0
        have hr1 := fit_cell (vs := [.bool v0, .bool v1, .bool v2]) h13' 1
        have hr2 := fit_cell (vs := [.bool v0, .bool v1, .bool v2]) h13' 2
        have HG7 := hid hg7
        have HK7 := hid ((Gk.of_below HM3.out.bel hBw).trans hk7)
        clear hg7 hk7 h13' hv0 hv1 hv2 ha0 ha1 ha2 hc4 hg5
        go_wp2_with fail
        refine (ref15_And w7 v0 v1).mono ?_
        rintro e w8 ⟨rfl, rfl⟩
        go_wp2_with fail
        go_ret3
        exact ⟨rfl, HG7.out, HK7.out⟩
      · go_wp2_with fail
        refine (gate_Or wr B b n G l0 l1 (HGB.out.below HM3.out.bel) h1 HK.out.1 HK.out.2.1 hn hG).mono ?_
        rintro e w7 ⟨rfl, hg7, hk7⟩
        have h13' := (hk7.kept _ _ _ _ HM3.out.h13 (by decide) (by decide)).trans HM3.out.h13
        have hr0 := fit_cell (vs := [.bool v0, .bool v1, .bool v2]) h13' 0
        have hr1 := fit_cell (vs := [.bool v0, .bool v1, .bool v2]) h13' 1
        have hr2 := fit_cell (vs := [.bool v0, .bool v1, .bool v2]) h13' 2
        have HG7 := hid hg7
        have HK7 := hid ((Gk.of_below HM3.out.bel hBw).trans hk7)
        clear hg7 hk7 h13' hv0 hv1 hv2 ha0 ha1 ha2 hc4 hg5
        go_wp2_with fail
        refine (ref15_Or w7 v0 v1).mono ?_
        rintro e w8 ⟨rfl, rfl⟩
        go_wp2_with fail
        go_ret3
        exact ⟨rfl, HG7.out, HK7.out⟩
      · go_wp2_with fail
        refine (gate_Xor wr B b n G l0 l1 (HGB.out.below HM3.out.bel) HK.out.1 HK.out.2.1 hn hG).mono ?_
        rintro e w7 ⟨rfl, hg7, hk7⟩
        have h13' := (hk7.kept _ _ _ _ HM3.out.h13 (by decide) (by decide)).trans HM3.out.h13
        have hr0 := fit_cell (vs := [.bool v0, .bool v1, .bool v2]) h13' 0
        have hr1 := fit_cell (vs := [.bool v0, .bool v1, .bool v2]) h13' 1
        have hr2 := fit_cell (vs := [.bool v0, .bool v1, .bool v2]) h13' 2
        have HG7 := hid hg7
        have HK7 := hid ((Gk.of_below HM3.out.bel hBw).trans hk7)
        clear hg7 hk7 h13' hv0 hv1 hv2 ha0 ha1 ha2 hc4 hg5
        go_wp2_with fail
        refine (ref15_Xor w7 v0 v1).mono ?_
        rintro e w8 ⟨rfl, rfl⟩
        go_wp2_with fail
        go_ret3
        exact ⟨rfl, HG7.out, HK7.out⟩
      · go_wp2_with fail
        refine (gate_Mux wr B b n G l0 l1 l2 (HGB.out.below HM3.out.bel) HK.out.1 HK.out.2.1 HK.out.2.2 hn hG).mono ?_
        rintro e w7 ⟨rfl, hg7, hk7⟩
        have h13' := (hk7.kept _ _ _ _ HM3.out.h13 (by decide) (by decide)).trans HM3.out.h13
        have hr0 := fit_cell (vs := [.bool v0, .bool v1, .bool v2]) h13' 0
        have hr1 := fit_cell (vs := [.bool v0, .bool v1, .bool v2]) h13' 1
        have hr2 := fit_cell (vs := [.bool v0, .bool v1, .bool v2]) h13' 2
        have HG7 := hid hg7
        have HK7 := hid ((Gk.of_below HM3.out.bel hBw).trans hk7)
        clear hg7 hk7 h13' hv0 hv1 hv2 ha0 ha1 ha2 hc4 hg5
        go_wp2_with fail
        obtain ⟨r, hr⟩ : ∃ r, (if v0 = true then v1 else v2) = r := ⟨_, rfl⟩
        have hM := ref15_Mux w7 v0 v1 v2
        rw [hr] at hM
        have HRR := hid hr
        clear hr
        refine hM.mono ?_
        rintro e w8 ⟨rfl, rfl⟩
        clear hM
        go_wp2_with fail
        go_ret3
        exact ⟨by rw [← HRR.out]; rfl, HG7.out, HK7.out⟩

end Go.Proofs.Ytacmfiikdbekbaa.Ord
