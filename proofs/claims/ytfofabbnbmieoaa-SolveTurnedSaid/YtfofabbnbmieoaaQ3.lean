/- How solve's state lies in memory. -/
import Derived.BigRegion
import Derived.Deep.DrawnRows
import Derived.Test.YtfofabbnbmieoaaQ1
import Derived.Test.YtfofabbnbmieoaaQ2
import Derived.Test.YtfofabbnbmieoaaQ0

namespace Go.Proofs.Ytfofabbnbmieoaa.Ord
open Go.RowKit Go.Conc

/-- What a block is for. -/
inductive KT where
  | sta
  | cls (i : Nat)
  | clr
  | wtb
  | wth (j : Nat)
  | val
  | pha
  | lev
  | rea
  | see
  | trl
  | lvs
  | prf
  | prc
  | hep
  | oth

def vi8 (l : List Int) : List Value := l.map (Value.int .i8)

/-- A block of a kind. -/
def Fx (t : KT) (tag : Nat → KT) (w : World) (b : Nat) (vs : List Value) (e : TypeId) : Prop := w.heap[b]? = some (.cells vs.toArray e (0, 0)) ∧ tag b = t

/-- A growing row of a kind. -/
def Gr (t : KT) (tag : Nat → KT) (B : Nat) (w : World) (e : TypeId) (v : Value) (xs : List Value) : Prop := w.ownsRow B e 1 v xs.length xs ∧ ∀ g, v.ownBlock = some g → tag g = t

/-- A row of ints in a block of a kind. -/
def Ro (t : KT) (tag : Nat → KT) (w : World) (u : Value) (c : List Int) : Prop :=
  ∃ g o cap cur, u = .slice (some ⟨g, o, none⟩) c.length cap ∧ c.length ≤ cap ∧ tag g = t ∧ w.heap[g]? = some (.cells cur 3 (0, 0)) ∧ ∀ (j : Nat) (x : Int), c[j]? = some x → cur[o + j]? = some (.int .i64 x)

/-- Where the fixed blocks are; n1: the variables and one. -/
structure SA where
  bx : Nat
  bh : Nat
  bw : Nat
  bv : Nat
  bp : Nat
  bl : Nat
  br : Nat
  bs : Nat
  n1 : Nat

/-- The values of the growing rows. -/
structure SV where
  vc : Value
  us : List Value
  ws : List Value
  vt : Value
  vd : Value
  vf : Value
  ps : List Value

/-- What the state says. -/
structure SD where
  C : List (List Int)
  Wt : List (List Nat)
  va : List Int
  ph : List Int
  lv : List Int
  re : List Int
  se : List Bool
  K : List Int
  dn : Nat
  ls : List Int
  P : List (List Int)
  bp : Int
  A : List Int
  In : List Bool

/-- The state's own cells. -/
def scells (a : SA) (v : SV) (d : SD) : List Value :=
  [.pointer (some ⟨a.bh, 0, none⟩), v.vc, .slice (some ⟨a.bw, 0, none⟩) (2 * a.n1) (2 * a.n1), .slice (some ⟨a.bv, 0, none⟩) a.n1 a.n1, .slice (some ⟨a.bp, 0, none⟩) a.n1 a.n1, .slice (some ⟨a.bl, 0, none⟩) a.n1 a.n1, .slice (some ⟨a.br, 0, none⟩) a.n1 a.n1, .slice (some ⟨a.bs, 0, none⟩) a.n1 a.n1, v.vt, .int .i64 d.dn, v.vd, v.vf, .int .i64 d.bp]

/-- The part of one kind. -/
def Co (t : KT) (tag : Nat → KT) (B : Nat) (w : World) (a : SA) (v : SV) (d : SD) : Prop :=
  match t with
  | .sta => Fx .sta tag w a.bx (scells a v d) 83
  | .cls i => ∀ c, d.C[i]? = some c → ∃ u, v.us[i]? = some u ∧ Ro (.cls i) tag w u c
  | .clr => Gr .clr tag B w 22 v.vc v.us ∧ v.us.length = d.C.length
  | .wtb => Fx .wtb tag w a.bw v.ws 22 ∧ v.ws.length = 2 * a.n1 ∧ d.Wt.length = 2 * a.n1
  | .wth j => ∀ ns, d.Wt[j]? = some ns → ∃ u, v.ws[j]? = some u ∧ Gr (.wth j) tag B w 3 u (nnts ns)
  | .val => Fx .val tag w a.bv (vi8 d.va) 74 ∧ d.va.length = a.n1
  | .pha => Fx .pha tag w a.bp (vi8 d.ph) 74 ∧ d.ph.length = a.n1
  | .lev => Fx .lev tag w a.bl (ints d.lv) 3 ∧ d.lv.length = a.n1
  | .rea => Fx .rea tag w a.br (ints d.re) 3 ∧ d.re.length = a.n1
  | .see => Fx .see tag w a.bs (bools d.se) 4 ∧ d.se.length = a.n1
  | .trl => Gr .trl tag B w 3 v.vt (ints d.K)
  | .lvs => Gr .lvs tag B w 94 v.vd (ints d.ls)
  | .prf => Gr .prf tag B w 22 v.vf v.ps ∧ v.ps.length = d.P.length
  | .prc => ∀ (i : Nat) (c : List Int), d.P[i]? = some c → ∃ u, v.ps[i]? = some u ∧ Ro .prc tag w u c
  | .hep => Heap w a.bh (fun k => tag k = .hep) d.A d.In ∧ d.In.length + 1 = a.n1
  | .oth => True

structure SM (tag : Nat → KT) (B : Nat) (w0 w : World) (a : SA) (v : SV) (d : SD) : Prop where
  bel : Below B w0 w
  le : B ≤ w.heap.size
  tB : ∀ k, tag k ≠ .oth → B ≤ k
  co : ∀ t, Co t tag B w a v d

section
variable {tag tag' : Nat → KT} {B : Nat} {w0 w w' : World} {a : SA} {v v' : SV} {d d' : SD} {t : KT}

theorem Fx.keep {b : Nat} {vs : List Value} {e : TypeId} (h : Fx t tag w b vs e) (hk : ∀ k, k < w.heap.size → tag k = t → w'.heap[k]? = w.heap[k]? ∧ tag' k = tag k) : Fx t tag' w' b vs e := by
  have q := hk b (Array.getElem?_eq_some_iff.1 h.1).1 h.2
  exact ⟨q.1.trans h.1, q.2.trans h.2⟩

theorem Gr.keep {e : TypeId} {u : Value} {xs : List Value} (h : Gr t tag B w e u xs) (hk : ∀ k, k < w.heap.size → tag k = t → w'.heap[k]? = w.heap[k]? ∧ tag' k = tag k) : Gr t tag' B w' e u xs :=
  ⟨own_frame0 h.1 fun g hg => (hk g (h.1.lt g hg).2 (h.2 g hg)).1, fun g hg => (hk g (h.1.lt g hg).2 (h.2 g hg)).2.trans (h.2 g hg)⟩

theorem Ro.keep {u : Value} {c : List Int} (h : Ro t tag w u c) (hk : ∀ k, k < w.heap.size → tag k = t → w'.heap[k]? = w.heap[k]? ∧ tag' k = tag k) : Ro t tag' w' u c := by
  obtain ⟨g, o, cap, cur, h1, h2, h3, h4, h5⟩ := h
  have q := hk g (Array.getElem?_eq_some_iff.1 h4).1 h3
  exact ⟨g, o, cap, cur, h1, h2, q.2.trans h3, q.1.trans h4, h5⟩

/-- A part whose blocks are as they were. -/
theorem Co.keep (h : Co t tag B w a v d) (hk : ∀ k, k < w.heap.size → tag k = t → w'.heap[k]? = w.heap[k]? ∧ tag' k = tag k) : Co t tag' B w' a v d := by
  cases t with
  | sta => exact Fx.keep h hk
  | cls i => exact fun c hc => let ⟨u, h1, h2⟩ := h c hc; ⟨u, h1, h2.keep hk⟩
  | clr => exact ⟨h.1.keep hk, h.2⟩
  | wtb => exact ⟨h.1.keep hk, h.2⟩
  | wth j => exact fun ns hj => let ⟨u, h1, h2⟩ := h ns hj; ⟨u, h1, h2.keep hk⟩
  | val => exact ⟨h.1.keep hk, h.2⟩
  | pha => exact ⟨h.1.keep hk, h.2⟩
  | lev => exact ⟨h.1.keep hk, h.2⟩
  | rea => exact ⟨h.1.keep hk, h.2⟩
  | see => exact ⟨h.1.keep hk, h.2⟩
  | trl => exact Gr.keep h hk
  | lvs => exact Gr.keep h hk
  | prf => exact ⟨h.1.keep hk, h.2⟩
  | prc => exact fun i c hc => let ⟨u, h1, h2⟩ := h i c hc; ⟨u, h1, h2.keep hk⟩
  | hep =>
    refine ⟨?_, h.2⟩
    obtain ⟨va, vi, vp, I, P, h1, h2, h3, h4, h5, h6, h7, h8⟩ := h.1
    exact ⟨va, vi, vp, I, P, hrep_frame h1 fun k e => (hk k (foot_lt h1 e) (h7 k e)).1, h2, h3, h4, h5, h6, fun k e => (hk k (foot_lt h1 e) (h7 k e)).2.trans (h7 k e), h8⟩
  | oth => trivial

/-- Some parts change. -/
theorem SM.upd (h : SM tag B w0 w a v d) (X : KT → Prop) (hX : ¬ X .oth) (hT : Touch (fun k => X (tag k)) w w') (ht : ∀ g, g < w.heap.size → tag' g = tag g) (hB : ∀ k, w.heap.size ≤ k → tag' k ≠ .oth → B ≤ k) (hd : ∀ t, ¬ X t → Co t tag B w a v d → Co t tag B w a v' d') (hn : ∀ t, X t → Co t tag' B w' a v' d') : SM tag' B w0 w' a v' d' := by
  refine ⟨h.bel.trans (hT.below h.le fun k hk => h.tB k fun e => hX (e ▸ hk)), Nat.le_trans h.le hT.size, fun k hk => ?_, fun t => ?_⟩
  · by_cases q : k < w.heap.size
    · exact h.tB k (by rw [← ht k q]; exact hk)
    · exact hB k (by omega) hk
  · by_cases q : X t
    · exact hn t q
    · exact (hd t q (h.co t)).keep fun k hk e => ⟨hT.block k hk (by rw [e]; exact q), ht k hk⟩

/-- The world grew. -/
theorem SM.grow (h : SM tag B w0 w a v d) (hb : Below w.heap.size w w') (ht : ∀ g, g < w.heap.size → tag' g = tag g) (hB : ∀ k, w.heap.size ≤ k → tag' k ≠ .oth → B ≤ k) : SM tag' B w0 w' a v d := by
  refine ⟨h.bel.trans (hb.mono h.le), Nat.le_trans h.le hb.size, fun k hk => ?_, fun t => (h.co t).keep fun k hk e => ⟨hb.block k hk, ht k hk⟩⟩
  by_cases q : k < w.heap.size
  · exact h.tB k (by rw [← ht k q]; exact hk)
  · exact hB k (by omega) hk

/-- A cell of a fixed block is set. -/
theorem Fx.set {b o : Nat} {vs : List Value} {e : TypeId} (h : Fx t tag w b vs e) (u : Value) : Fx t tag (w.setCell ⟨b, o, none⟩ u) b (vs.set o u) e :=
  ⟨setCell_block u h.1, h.2⟩

/-- A cell of a fixed block of the kind t. -/
theorem SM.setFx (h : SM tag B w0 w a v d) {b o : Nat} (u : Value) (ho : t ≠ .oth) (hb : tag b = t) (hd : ∀ s, s ≠ t → Co s tag B w a v d → Co s tag B w a v' d') (hn : Co t tag B (w.setCell ⟨b, o, none⟩ u) a v' d') : SM tag B w0 (w.setCell ⟨b, o, none⟩ u) a v' d' :=
  h.upd (fun s => s = t) (fun e => ho e.symm) ((Touch.refl _ w).setCell hb u) (fun _ _ => rfl) (fun k _ hk => h.tB k hk) hd fun s hs => by subst hs; exact hn

theorem SM.setVal (h : SM tag B w0 w a v d) (i : Nat) (x : Int) : SM tag B w0 (w.setCell ⟨a.bv, i, none⟩ (.int .i8 x)) a v { d with va := d.va.set i x } :=
  h.setFx (t := .val) _ (by nofun) (h.co .val).1.2 (fun s hs hc => by cases s <;> first | exact hc | exact absurd rfl hs) ⟨by
    have := (h.co .val).1.set (o := i) (.int .i8 x)
    unfold vi8 at this ⊢
    rw [← List.map_set] at this
    exact this, by simpa using (h.co .val).2⟩

theorem SM.setPha (h : SM tag B w0 w a v d) (i : Nat) (x : Int) : SM tag B w0 (w.setCell ⟨a.bp, i, none⟩ (.int .i8 x)) a v { d with ph := d.ph.set i x } :=
  h.setFx (t := .pha) _ (by nofun) (h.co .pha).1.2 (fun s hs hc => by cases s <;> first | exact hc | exact absurd rfl hs) ⟨by
    have := (h.co .pha).1.set (o := i) (.int .i8 x)
    unfold vi8 at this ⊢
    rw [← List.map_set] at this
    exact this, by simpa using (h.co .pha).2⟩

theorem SM.setLev (h : SM tag B w0 w a v d) (i : Nat) (x : Int) : SM tag B w0 (w.setCell ⟨a.bl, i, none⟩ (.int .i64 x)) a v { d with lv := d.lv.set i x } :=
  h.setFx (t := .lev) _ (by nofun) (h.co .lev).1.2 (fun s hs hc => by cases s <;> first | exact hc | exact absurd rfl hs) ⟨by
    have := (h.co .lev).1.set (o := i) (.int .i64 x)
    unfold ints at this ⊢
    rw [← List.map_set] at this
    exact this, by simpa using (h.co .lev).2⟩

theorem SM.setRea (h : SM tag B w0 w a v d) (i : Nat) (x : Int) : SM tag B w0 (w.setCell ⟨a.br, i, none⟩ (.int .i64 x)) a v { d with re := d.re.set i x } :=
  h.setFx (t := .rea) _ (by nofun) (h.co .rea).1.2 (fun s hs hc => by cases s <;> first | exact hc | exact absurd rfl hs) ⟨by
    have := (h.co .rea).1.set (o := i) (.int .i64 x)
    unfold ints at this ⊢
    rw [← List.map_set] at this
    exact this, by simpa using (h.co .rea).2⟩

theorem SM.setSee (h : SM tag B w0 w a v d) (i : Nat) (x : Bool) : SM tag B w0 (w.setCell ⟨a.bs, i, none⟩ (.bool x)) a v { d with se := d.se.set i x } :=
  h.setFx (t := .see) _ (by nofun) (h.co .see).1.2 (fun s hs hc => by cases s <;> first | exact hc | exact absurd rfl hs) ⟨by
    have := (h.co .see).1.set (o := i) (.bool x)
    unfold bools at this ⊢
    rw [← List.map_set] at this
    exact this, by simpa using (h.co .see).2⟩

theorem SM.setDn (h : SM tag B w0 w a v d) (x : Nat) : SM tag B w0 (w.setCell ⟨a.bx, 9, none⟩ (.int .i64 x)) a v { d with dn := x } :=
  h.setFx (t := .sta) _ (by nofun) (h.co .sta).2 (fun s hs hc => by cases s <;> first | exact hc | exact absurd rfl hs) ((h.co .sta).set (o := 9) (.int .i64 x))

theorem SM.setBump (h : SM tag B w0 w a v d) (x : Int) : SM tag B w0 (w.setCell ⟨a.bx, 12, none⟩ (.int .i64 x)) a v { d with bp := x } :=
  h.setFx (t := .sta) _ (by nofun) (h.co .sta).2 (fun s hs hc => by cases s <;> first | exact hc | exact absurd rfl hs) ((h.co .sta).set (o := 12) (.int .i64 x))

end

end Go.Proofs.Ytfofabbnbmieoaa.Ord

/- The contracts of solve's index, variable and holds. -/
namespace Go.Proofs.Ytfofabbnbmieoaa.Ord
open Go.RowKit Go.Conc

/-- The index of a literal. -/
def ixL (a : Int) : Int := if a < 0 then -2 * a + 1 else 2 * a

/-- The variable of a literal. -/
def vrL (a : Int) : Int := if a < 0 then -a else a

theorem ixL_range {n : Nat} {a : Int} (h : LitOk n a) : 0 ≤ ixL a ∧ (ixL a).toNat < 2 * (n + 1) := by
  unfold ixL
  unfold LitOk at h
  split <;> omega

theorem vrL_range {n : Nat} {a : Int} (h : LitOk n a) : 1 ≤ vrL a ∧ vrL a ≤ n := by
  unfold vrL
  unfold LitOk at h
  split <;> omega

theorem sol_index (a r : Int) (w : World) (hr : ixL a = r) (ha : -1048577 ≤ a ∧ a ≤ 1048577) :
    Calls Try.prog 69 #[.int .i64 a] w fun e w' => e = .returned (.int .i64 r) ∧ w = w' := by
  by_cases h : a < 0
  · have e1 : IntKind.i64.wrap (-2 * a) = -2 * a := IntWalk.i64_in _ (by omega)
    have e2 : IntKind.i64.wrap (-2 * a + 1) = -2 * a + 1 := IntWalk.i64_in _ (by omega)
    have HR : Hid (-2 * a + 1 = r) := hid (by rw [← hr]; unfold ixL; rw [if_pos h])
    clear hr
    go_enter Try.func69, Try.ntmps69
    go_wp2_with fail
    go_ret
    exact ⟨by rw [← HR.out]; rfl, rfl⟩
  · have e1 : IntKind.i64.wrap (2 * a) = 2 * a := IntWalk.i64_in _ (by omega)
    have HR : Hid (2 * a = r) := hid (by rw [← hr]; unfold ixL; rw [if_neg h])
    clear hr
    go_enter Try.func69, Try.ntmps69
    go_wp2_with fail
    go_ret
    exact ⟨by rw [← HR.out]; rfl, rfl⟩

theorem sol_variable (a r : Int) (w : World) (hr : vrL a = r) (ha : -1048577 ≤ a ∧ a ≤ 1048577) :
    Calls Try.prog 70 #[.int .i64 a] w fun e w' => e = .returned (.int .i64 r) ∧ w = w' := by
  have e1 : IntKind.i64.wrap (-a) = -a := IntWalk.i64_in _ (by omega)
  have HR : Hid (max a (-a) = r) := hid (by rw [← hr]; unfold vrL; split <;> omega)
  clear hr
  go_enter Try.func70, Try.ntmps70
  go_wp2_with fail
  all_goals
    go_ret
    have h := HR.out
    refine ⟨?_, rfl⟩
    first
      | (have h2 : -a = r := by omega
         subst h2; rfl)
      | (have h2 : a = r := by omega
         subst h2; rfl)

/-- What holds says. -/
def hvL (va : List Int) (a : Int) : Int := if a < 0 then -((va[(-a).toNat]?).getD 0) else (va[a.toNat]?).getD 0

section
variable {tag : Nat → KT} {B : Nat} {w0 w : World} {a : SA} {v : SV} {d : SD}

theorem SM.cell (h : SM tag B w0 w a v d) (i : Nat) : w.cell? ⟨a.bx, i, none⟩ = (scells a v d)[i]? := fit_cell (h.co .sta).1 i

theorem SM.valc (h : SM tag B w0 w a v d) {i : Nat} (hi : i < a.n1) : w.cell? ⟨a.bv, i, none⟩ = some (.int .i8 ((d.va[i]?).getD 0)) := by
  rw [fit_cell (h.co .val).1.1 i]
  have hl := (h.co .val).2
  unfold vi8
  rw [List.getElem?_map, List.getElem?_eq_getElem (by omega)]
  rfl

end

theorem sol_holds (tag : Nat → KT) (B : Nat) (w0 w : World) (a : SA) (v : SV) (d : SD) (n : Nat) (x r : Int) (h : SM tag B w0 w a v d) (hn : a.n1 = n + 1) (hn1 : n ≤ 1048576) (hx : LitOk n x) (hv : ∀ y ∈ d.va, -1 ≤ y ∧ y ≤ 1) (hr : hvL d.va x = r) :
    Calls Try.prog 68 #[.pointer (some ⟨a.bx, 0, none⟩), .int .i64 x] w fun e w' => e = .returned (.int .i8 r) ∧ ∃ q, w' = w.drewN q := by
  have c3 : w.cell? ⟨a.bx, 3, none⟩ = some (.slice (some ⟨a.bv, 0, none⟩) a.n1 a.n1) := h.cell 3
  unfold LitOk at hx
  have hg : ∀ i : Nat, -1 ≤ (d.va[i]?).getD 0 ∧ (d.va[i]?).getD 0 ≤ 1 := fun i => by
    cases hi : d.va[i]? with
    | none => simp
    | some y => exact hv y (List.mem_of_getElem? hi)
  by_cases hneg : x < 0
  · obtain ⟨k, hk⟩ : ∃ k : Nat, -x = k := ⟨(-x).toNat, by omega⟩
    have hkn : k < a.n1 := by omega
    have cv := h.valc hkn
    have hr2 : -((d.va[k]?).getD 0) = r := by
      rw [← hr]; unfold hvL; rw [if_pos hneg]
      have : (-x).toNat = k := by omega
      rw [this]
    have hgk := hg k
    obtain ⟨y, hy⟩ : ∃ y, (d.va[k]?).getD 0 = y := ⟨_, rfl⟩
    rw [hy] at cv hr2 hgk
    have HR := hid hr2
    have e1 : IntKind.i64.wrap (-x) = k := by rw [hk]; exact IntWalk.i64_in _ (by omega)
    have e2 : IntKind.i8.wrap (-y) = -y := by
      have : y = -1 ∨ y = 0 ∨ y = 1 := by omega
      rcases this with rfl | rfl | rfl <;> rfl
    have hki : (k : Int) < a.n1 := by omega
    clear h hv hr hr2 hg hy hn
    go_enter Try.func68, Try.ntmps68
    go_wp2_with fail
    go_ret
    exact ⟨by rw [← HR.out]; rfl, 0, rfl⟩
  · obtain ⟨k, hk⟩ : ∃ k : Nat, x = k := ⟨x.toNat, by omega⟩
    have hkn : k < a.n1 := by omega
    have cv := h.valc hkn
    have hr2 : (d.va[k]?).getD 0 = r := by
      rw [← hr]; unfold hvL; rw [if_neg hneg]
      have : x.toNat = k := by omega
      rw [this]
    rw [hr2] at cv
    have hki : (k : Int) < a.n1 := by omega
    subst hk
    clear h hv hr hr2 hg hn
    go_enter Try.func68, Try.ntmps68
    go_wp2_with fail
    go_ret
    exact ⟨rfl, 0, rfl⟩

end Go.Proofs.Ytfofabbnbmieoaa.Ord

/- The contract of rup's set. -/
namespace Go.Proofs.Ytfofabbnbmieoaa.Ord
open Go.RowKit Go.Conc

attribute [local go_sem ↓] Go.wp_at_zero Go.wp_at_succ
attribute [local go_sem ↓ high] app_mark

/-- What is thrown. -/
def failV : Value := .iface 128 (.agg #[])

/-- What set leaves where the literal is not known to be false. -/
def setR (tag : Nat → RT) (B : Nat) (w0 w : World) (bx bw bk : Nat) (vc vt : Value) (dn : Nat) (C : List (List Int)) (us : List Value) (es : List (Int × Value)) (Wt : Int → List Nat) (K' : List Int) (w' : World) : Prop :=
  ∃ tag' vt', RM tag' B w0 w' bx bw bk vc vt' dn C us es Wt K' ∧ (∀ g, g < w.heap.size → tag' g = tag g) ∧ Touch (fun k => k = bx ∨ k = bk ∨ vt.ownBlock = some k) w w'

theorem setCell3 {w : World} {b : Nat} {e : TypeId} {x0 x1 x2 x3 x4 y : Value} (h : w.heap[b]? = some (.cells #[x0, x1, x2, x3, x4] e (0, 0))) : (w.setCell ⟨b, 3, none⟩ y).heap[b]? = some (.cells #[x0, x1, x2, y, x4] e (0, 0)) := by
  have h1 := setCell_block (o := 3) y (xs := [x0, x1, x2, x3, x4]) h
  exact h1

set_option maxRecDepth 100000 in
set_option maxHeartbeats 4000000 in
theorem rup_set (tag : Nat → RT) (B : Nat) (w0 w : World) (bx bw bk : Nat) (vc vt : Value) (dn : Nat) (C : List (List Int)) (us : List Value) (es : List (Int × Value)) (Wt : Int → List Nat) (K : List Int) (a : Int) (h : RM tag B w0 w bx bw bk vc vt dn C us es Wt K) (ha : -1048576 ≤ a ∧ a ≤ 1048576) (hKl : K.length ≤ 2199023255552) :
    Calls Try.prog 90 #[.pointer (some ⟨bx, 0, none⟩), .int .i64 a] w fun e w' => (-a ∈ K → e = .panicked [{ v := failV, recovered := false }] ∧ w' = w) ∧ (-a ∉ K → e = .returned (.tuple #[]) ∧ setR tag B w0 w bx bw bk vc vt dn C us es Wt (setK K a) w') := by
  obtain ⟨i0, hi0, hz0, hz1', hz2⟩ := info_parts info_int
  obtain ⟨-, -, hc2, hc3, -⟩ := h.cells
  have hw1 : IntKind.i64.wrap (-a) = -a := IntWalk.i64_in _ (by omega)
  have hl1 : ∀ x, (Instr.lookup 100 (.map (some bk)) (.int .i64 x) false).run Try.prog w = .ok (.bool (decide (x ∈ K))) w := fun x => by
    rw [im_lookup (P := Try.prog) Try.underlying100 Try.underlying3 (info_zero_bool w) h.kn x, kes_get]
  by_cases h1 : -a ∈ K
  · have hm := hl1 (-a)
    rw [decide_eq_true h1] at hm
    have H1 := hid h1
    clear hl1 h1 h
    go_enter Try.func90, Try.ntmps90
    go_wp2_with fail
    exact ⟨rfl, fun _ => ⟨rfl, rfl⟩, fun h => absurd H1.out h⟩
  · have hm := hl1 (-a)
    rw [decide_eq_false h1] at hm
    by_cases h2 : a ∈ K
    · have hm2 := hl1 a
      rw [decide_eq_true h2] at hm2
      have HR : Hid (setR tag B w0 w bx bw bk vc vt dn C us es Wt (setK K a) w) := hid (by
        rw [setK_pos h1 h2]
        exact ⟨tag, vt, h, fun _ _ => rfl, Touch.refl _ _⟩)
      have H1 := hid h1
      clear hl1 h1 h2 h
      go_enter Try.func90, Try.ntmps90
      go_wp2_with fail
      exact ⟨rfl, _, results_none rfl _ _ _, fun h => absurd h H1.out, fun _ => ⟨rfl, HR.out⟩⟩
    · have hm2 := hl1 a
      rw [decide_eq_false h2] at hm2
      obtain ⟨a1, a2, a3, a4, a5, a6, a7, a8, a9⟩ := h.apart
      obtain ⟨w1, hup, him, ht1, hz1⟩ := im_update (P := Try.prog) Try.underlying100 Try.underlying3 h.kn a (.bool true)
      rw [kes_put h2] at him
      have hbx1 := (ht1.block bx (Array.getElem?_eq_some_iff.1 h.blk).1 a2).trans h.blk
      have htr1 : w1.ownsRow B 3 1 vt K.length (ints K) := own_frame0 h.tr fun g hg => ht1.block g (h.tr.lt g hg).2 (fun e => a8 (e ▸ hg))
      obtain ⟨at', ct', hvt⟩ := own_lenV' h.tr
      obtain ⟨y, hy⟩ : ∃ y, K.length = y := ⟨_, rfl⟩
      rw [hy] at hvt htr1
      have hB1 : B ≤ w1.heap.size := by have := h.le; omega
      obtain ⟨a6, c6, w6, hr6, ho6, hg6, ha6⟩ := appM_one (P := Try.prog) (w1.alloc (.cells #[.int .i64 a] 3 (0, 0))) B 22 22 3 i0 (.int .i64 0) 8 Try.underlying22 hi0 hz0 hz1' hz2 rfl vt y (ints K) (htr1.alloc _) w1.heap.size (.int .i64 a) (heap_alloc_new _ _) rfl (by unfold maxLen; omega) (by omega) (by simp only [size_al]; omega)
      have hbx6 := blk_app (box_below w1 (.cells #[.int .i64 a] 3 (0, 0))) htr1 hg6 hbx1 (by decide)
      have hq3 : w1.cell? ⟨bx, 3, none⟩ = some vt := fit_cell (vs := [vc, .map (some bw), .map (some bk), vt, .int .i64 dn]) hbx1 3
      have hq6 : w6.cell? ⟨bx, 3, none⟩ = some vt := fit_cell (vs := [vc, .map (some bw), .map (some bk), vt, .int .i64 dn]) hbx6 3
      have hf6 : w6.frozen? ⟨bx, 3, none⟩ = false := frozen_of_row _ _ _ _ _ hbx6
      have hz6 : w.heap.size ≤ w6.heap.size := by have := hg6.size; simp only [size_al] at this; omega
      have hT : Touch (fun k => k = bx ∨ k = bk ∨ vt.ownBlock = some k) w (w6.setCell ⟨bx, 3, none⟩ (.slice a6 (y + 1) c6)) :=
        (((ht1.mono fun k _ hk => (.inr (.inl hk) : k = bx ∨ k = bk ∨ vt.ownBlock = some k)).alloc _).grown hg6 (fun k hk => .inl (.inr (.inr hk)))).setCell (.inl rfl) _
      have hbxF := setCell3 (y := .slice a6 (y + 1) c6) hbx6
      have hbk1 := him.lt
      have hkF : (w6.setCell ⟨bx, 3, none⟩ (.slice a6 (y + 1) c6)).heap[bk]? = w1.heap[bk]? := (heap_setCell_other w6 ⟨bx, 3, none⟩ bk _ (fun e => a2 e.symm)).trans ((hg6.block bk (by simp only [size_al]; omega) (fun e => a8 e.symm)).trans (Below.heap_alloc _ _ _ hbk1))
      have HR : Hid (setR tag B w0 w bx bw bk vc vt dn C us es Wt (setK K a) (w6.setCell ⟨bx, 3, none⟩ (.slice a6 (y + 1) c6))) := hid (by
        rw [setK_new h1 h2]
        refine ⟨fun g => if g < w.heap.size then tag g else .trl, .slice a6 (y + 1) c6, h.known hT (fun g hg => if_pos hg) hbxF ?_ (fun g hg => ?_) (him.frame hkF), fun g hg => if_pos hg, hT⟩
        · have e : (K ++ [a]).length = y + 1 := by simp [hy]
          rw [e, ints_append]
          exact own_setO ho6 hbx6 (by decide) _ _
        · show (if g < w.heap.size then tag g else RT.trl) = RT.trl
          by_cases hgl : g < w.heap.size
          · rw [if_pos hgl]
            rcases ha6 with e | e
            · exact h.trt g (e ▸ hg)
            · rw [e] at hg
              injection hg with hg
              simp only [size_al] at hg
              omega
          · rw [if_neg hgl])
      have H1 := hid h1
      subst hvt
      clear hz1 hz6 hB1 hl1 h1 h2 h him ht1 hbx1 htr1 hy ho6 hg6 ha6 hbx6 hT hbxF hkF a1 a2 a3 a4 a5 a7 a8 a9
      go_enter Try.func90, Try.ntmps90
      go_wp2_with fail
      exact ⟨rfl, _, results_none rfl _ _ _, fun h => absurd h H1.out, fun _ => ⟨rfl, HR.out⟩⟩

end Go.Proofs.Ytfofabbnbmieoaa.Ord

/- solve's state: rows that grow. -/
namespace Go.Proofs.Ytfofabbnbmieoaa.Ord
open Go.RowKit Go.Conc

/-- New blocks are of the kind t. -/
def tgN (tag : Nat → KT) (w : World) (t : KT) : Nat → KT := fun k => if k < w.heap.size then tag k else t

theorem tgN_old {tag : Nat → KT} {w : World} {t : KT} {k : Nat} (h : k < w.heap.size) : tgN tag w t k = tag k := if_pos h
theorem tgN_new {tag : Nat → KT} {w : World} {t : KT} {k : Nat} (h : w.heap.size ≤ k) : tgN tag w t k = t := if_neg (by omega)

/-- What a call may touch, and how blocks are named behind it. -/
def SR (tag tag' : Nat → KT) (w w' : World) : Prop := Touch (fun k => tag k ≠ .oth) w w' ∧ ∀ g, g < w.heap.size → tag g = .oth → tag' g = .oth

theorem SR.refl (tag : Nat → KT) (w : World) : SR tag tag w w := ⟨Touch.refl _ _, fun _ _ h => h⟩

theorem SR.trans {t1 t2 t3 : Nat → KT} {a b c : World} (h : SR t1 t2 a b) (k : SR t2 t3 b c) : SR t1 t3 a c :=
  ⟨h.1.trans' k.1 fun i hi hs e => hs (h.2 i hi e), fun g hg e => k.2 g (Nat.lt_of_lt_of_le hg h.1.size) (h.2 g hg e)⟩

section
variable {tag : Nat → KT} {B : Nat} {w0 w w1 w6 : World} {a : SA} {v : SV} {d : SD} {t : KT}

/-- A row that grew. -/
theorem Gr.push {e : TypeId} {u u6 y : Value} {xs : List Value} (h : Gr t tag B w e u xs) (h1 : Below w.heap.size w w1) (ho : w6.ownsRow B e 1 u6 (xs.length + 1) (xs ++ [y])) (hg : w1.grownBy w6 u.ownBlock) (ha : u6.ownBlock = u.ownBlock ∨ u6.ownBlock = some w1.heap.size) :
    Touch (fun k => tag k = t) w w6 ∧ Gr t (tgN tag w t) B w6 e u6 (xs ++ [y]) := by
  refine ⟨?_, by rw [List.length_append]; exact ho, fun g hg' => ?_⟩
  · have ht1 : Touch (fun k => tag k = t) w w1 := ⟨h1.os, h1.tape, h1.output, h1.size, fun k hk _ => h1.block k hk⟩
    exact ht1.grown hg fun k hk => .inl (h.2 k hk)
  · by_cases q : g < w.heap.size
    · rw [tgN_old q]
      rcases ha with e' | e'
      · exact h.2 g (e' ▸ hg')
      · rw [e'] at hg'
        injection hg' with hg'
        have := h1.size
        omega
    · exact tgN_new (by omega)

theorem Fx.touch {X : Nat → Prop} {tag' : Nat → KT} {b : Nat} {vs : List Value} {e : TypeId} (h : Fx t tag w b vs e) (hT : Touch X w w6) (hn : ¬ X b) (ht : ∀ g, g < w.heap.size → tag' g = tag g) : Fx t tag' w6 b vs e := by
  have hl := (Array.getElem?_eq_some_iff.1 h.1).1
  exact ⟨(hT.block b hl hn).trans h.1, (ht b hl).trans h.2⟩

/-- A literal more on the trail. -/
theorem SM.pushK (h : SM tag B w0 w a v d) {u6 : Value} {x : Int} (h1 : Below w.heap.size w w1) (ho : w6.ownsRow B 3 1 u6 (d.K.length + 1) (ints d.K ++ [.int .i64 x])) (hg : w1.grownBy w6 v.vt.ownBlock) (ha : u6.ownBlock = v.vt.ownBlock ∨ u6.ownBlock = some w1.heap.size) :
    SM (tgN tag w .trl) B w0 (w6.setCell ⟨a.bx, 8, none⟩ u6) a { v with vt := u6 } { d with K := d.K ++ [x] } ∧ SR tag (tgN tag w .trl) w (w6.setCell ⟨a.bx, 8, none⟩ u6) ∧ w6.heap[a.bx]? = some (.cells (scells a v d).toArray 83 (0, 0)) := by
  have hk : (ints d.K).length = d.K.length := by simp [ints]
  obtain ⟨hT, hG⟩ := Gr.push (h.co .trl) h1 (by rw [hk]; exact ho) hg ha
  have hs : Fx .sta (tgN tag w .trl) w6 a.bx (scells a v d) 83 := Fx.touch (h.co .sta) hT (by rw [(h.co .sta).2]; nofun) fun g hg => tgN_old hg
  have hsb : tag a.bx = .sta := (h.co .sta).2
  have hT2 : Touch (fun k => tag k = .trl ∨ tag k = .sta) w (w6.setCell ⟨a.bx, 8, none⟩ u6) := (hT.mono fun k _ e => .inl e).setCell (.inr hsb) _
  refine ⟨h.upd (fun s => s = .trl ∨ s = .sta) (by rintro (e | e) <;> cases e) hT2 (fun g hg => tgN_old hg) (fun k hk _ => Nat.le_trans h.le hk) (fun s hs hc => by cases s <;> first | exact hc | exact absurd (.inl rfl) hs | exact absurd (.inr rfl) hs) ?_, ⟨hT2.mono fun k _ e => by rcases e with e | e <;> (rw [e]; nofun), fun g hg e => (tgN_old hg).trans e⟩, hs.1⟩
  rintro s (rfl | rfl)
  · show Gr .trl _ B _ 3 u6 (ints (d.K ++ [x]))
    rw [ints_append]
    refine ⟨?_, hG.2⟩
    exact own_setO hG.1 hs.1 (by decide) _ _
  · exact hs.set (o := 8) u6

end

end Go.Proofs.Ytfofabbnbmieoaa.Ord

/- The contract of solve's set. -/
namespace Go.Proofs.Ytfofabbnbmieoaa.Ord
open Go.RowKit Go.Conc

attribute [local go_sem ↓] Go.wp_at_zero Go.wp_at_succ
attribute [local go_sem ↓ high] app_mark

/-- What set changes. -/
def setD (d : SD) (x rs : Int) : SD := { d with va := d.va.set (vrL x).toNat (if x < 0 then -1 else 1), lv := d.lv.set (vrL x).toNat d.ls.length, re := d.re.set (vrL x).toNat rs, K := d.K ++ [x] }

section
variable {tag : Nat → KT} {B : Nat} {w0 w : World} {a : SA} {v : SV} {d : SD} {t : KT}

theorem Fx.free {b o : Nat} {vs : List Value} {e : TypeId} (h : Fx t tag w b vs e) : w.frozen? ⟨b, o, none⟩ = false := frozen_of_row _ _ _ _ _ h.1

theorem SM.levc (h : SM tag B w0 w a v d) {i : Nat} (hi : i < a.n1) : w.cell? ⟨a.bl, i, none⟩ = some (.int .i64 ((d.lv[i]?).getD 0)) := by
  rw [fit_cell (h.co .lev).1.1 i]
  have hl := (h.co .lev).2
  unfold ints
  rw [List.getElem?_map, List.getElem?_eq_getElem (by omega)]
  rfl

theorem SM.reac (h : SM tag B w0 w a v d) {i : Nat} (hi : i < a.n1) : w.cell? ⟨a.br, i, none⟩ = some (.int .i64 ((d.re[i]?).getD 0)) := by
  rw [fit_cell (h.co .rea).1.1 i]
  have hl := (h.co .rea).2
  unfold ints
  rw [List.getElem?_map, List.getElem?_eq_getElem (by omega)]
  rfl

end

set_option maxRecDepth 100000 in
set_option maxHeartbeats 4000000 in
theorem sol_set (tag : Nat → KT) (B : Nat) (w0 w : World) (a : SA) (v : SV) (d : SD) (n : Nat) (x rs : Int) (h : SM tag B w0 w a v d) (hn : a.n1 = n + 1) (hn1 : n ≤ 1048576) (hx : LitOk n x) (hK : d.K.length ≤ 1048576) :
    Calls Try.prog 55 #[.pointer (some ⟨a.bx, 0, none⟩), .int .i64 x, .int .i64 rs] w fun e w' => e = .returned (.tuple #[]) ∧ ∃ tag' vt', SM tag' B w0 w' a { v with vt := vt' } (setD d x rs) ∧ SR tag tag' w w' := by
  obtain ⟨i0, hi0, hz0, hz1, hz2⟩ := info_parts info_int
  have hvr := vrL_range hx
  obtain ⟨k, hk⟩ : ∃ k : Nat, vrL x = k := ⟨(vrL x).toNat, by omega⟩
  have hkn : k < a.n1 := by omega
  have hki : (k : Int) < a.n1 := by omega
  have hk0 : (0 : Int) ≤ k := by omega
  unfold LitOk at hx
  have hx' : -1048577 ≤ x ∧ x ≤ 1048577 := by omega
  obtain ⟨s, hs⟩ : ∃ s : Int, (if x < 0 then -1 else 1) = s := ⟨_, rfl⟩
  -- the worlds
  have c3 : w.cell? ⟨a.bx, 3, none⟩ = some (.slice (some ⟨a.bv, 0, none⟩) a.n1 a.n1) := h.cell 3
  have cv := h.valc hkn
  have fv : w.frozen? ⟨a.bv, k, none⟩ = false := Fx.free (h.co .val).1
  have hsv : ∀ (w : World) (d : SD), SM tag B w0 w a v d → ∀ y, SR tag tag w (w.setCell ⟨a.bv, k, none⟩ y) := fun w d h y => ⟨(Touch.refl _ w).setCell (by rw [(h.co .val).1.2]; nofun) _, fun _ _ h => h⟩
  obtain ⟨w1, hW, h1, hs1⟩ : ∃ w1, ((x < 0 ∧ ∃ wa, w.setCell ⟨a.bv, k, none⟩ (.int .i8 1) = wa ∧ wa.setCell ⟨a.bv, k, none⟩ (.int .i8 (-1)) = w1 ∧ wa.cell? ⟨a.bx, 3, none⟩ = some (.slice (some ⟨a.bv, 0, none⟩) a.n1 a.n1) ∧ (∃ y, wa.cell? ⟨a.bv, k, none⟩ = some y) ∧ wa.frozen? ⟨a.bv, k, none⟩ = false) ∨ (¬ x < 0 ∧ w.setCell ⟨a.bv, k, none⟩ (.int .i8 1) = w1)) ∧ SM tag B w0 w1 a v { d with va := d.va.set k s } ∧ SR tag tag w w1 := by
    by_cases hneg : x < 0
    · rw [if_pos hneg] at hs
      have ha := h.setVal k 1
      have hb := ha.setVal k (-1)
      refine ⟨_, .inl ⟨hneg, _, rfl, rfl, ha.cell 3, ⟨_, ha.valc hkn⟩, Fx.free (ha.co .val).1⟩, ?_, (hsv _ _ h _).trans (hsv _ _ ha _)⟩
      rw [← hs]
      simpa only [List.set_set] using hb
    · rw [if_neg hneg] at hs
      refine ⟨_, .inr ⟨hneg, rfl⟩, ?_, hsv _ _ h _⟩
      rw [← hs]
      exact h.setVal k 1
  have h2 := h1.setLev k d.ls.length
  obtain ⟨w2, hw2⟩ : ∃ w2, w1.setCell ⟨a.bl, k, none⟩ (.int .i64 d.ls.length) = w2 := ⟨_, rfl⟩
  rw [hw2] at h2
  have h3 := h2.setRea k rs
  obtain ⟨w3, hw3⟩ : ∃ w3, w2.setCell ⟨a.br, k, none⟩ (.int .i64 rs) = w3 := ⟨_, rfl⟩
  rw [hw3] at h3
  have hs2 : SR tag tag w1 w2 := ⟨by rw [← hw2]; exact (Touch.refl _ w1).setCell (by rw [(h.co .lev).1.2]; nofun) _, fun _ _ h => h⟩
  have hs3 : SR tag tag w2 w3 := ⟨by rw [← hw3]; exact (Touch.refl _ w2).setCell (by rw [(h.co .rea).1.2]; nofun) _, fun _ _ h => h⟩
  have HS3 := hid ((hs1.trans hs2).trans hs3)
  have hK3 := (h3.co .trl).1
  have hkl : (ints d.K).length = d.K.length := by simp [ints]
  obtain ⟨at8, ct8, hvt⟩ := own_lenV' hK3
  have hB3 := h3.le
  obtain ⟨a6, c6, w6, hr6, ho6, hg6, ha6⟩ := appM_one (P := Try.prog) (w3.alloc (.cells #[.int .i64 x] 3 (0, 0))).drew B 22 22 3 i0 (.int .i64 0) 8 Try.underlying22 hi0 hz0 hz1 hz2 rfl v.vt d.K.length (ints d.K) (by rw [hkl] at hK3; exact hK3.alloc _) w3.heap.size (.int .i64 x) (heap_alloc_new _ _) rfl (by unfold maxLen; omega) (by omega) (by show B ≤ (w3.alloc _).heap.size; simp only [size_al]; omega)
  obtain ⟨hM6, hR6, hb6⟩ := h3.pushK (box_below w3 (.cells #[.int .i64 x] 3 (0, 0))).drew ho6 hg6 ha6
  have hq6 : w6.cell? ⟨a.bx, 8, none⟩ = some v.vt := fit_cell hb6 8
  have hf6 : w6.frozen? ⟨a.bx, 8, none⟩ = false := frozen_of_row _ _ _ _ _ hb6
  have HF : Hid (∃ tag' vt', SM tag' B w0 (w6.setCell ⟨a.bx, 8, none⟩ (.slice a6 (d.K.length + 1) c6)) a { v with vt := vt' } (setD d x rs) ∧ SR tag tag' w (w6.setCell ⟨a.bx, 8, none⟩ (.slice a6 (d.K.length + 1) c6))) := hid (by
    refine ⟨tgN tag w3 .trl, .slice a6 (d.K.length + 1) c6, ?_, HS3.out.trans hR6⟩
    have e : setD d x rs = { d with va := d.va.set k s, lv := d.lv.set k d.ls.length, re := d.re.set k rs, K := d.K ++ [x] } := by
      unfold setD
      rw [hk, hs]
      rfl
    rw [e]
    exact hM6)
  have hlv := (h1.co .lvs).1
  obtain ⟨al, cl, hvd⟩ := own_lenV' hlv
  have hll : (ints d.ls).length = d.ls.length := by simp [ints]
  rw [hll] at hvd
  have d5 : w1.cell? ⟨a.bx, 5, none⟩ = some (.slice (some ⟨a.bl, 0, none⟩) a.n1 a.n1) := h1.cell 5
  have d6 : w1.cell? ⟨a.bx, 6, none⟩ = some (.slice (some ⟨a.br, 0, none⟩) a.n1 a.n1) := h1.cell 6
  have d10 : w1.cell? ⟨a.bx, 10, none⟩ = some v.vd := h1.cell 10
  have dl := h1.levc hkn
  have fl : w1.frozen? ⟨a.bl, k, none⟩ = false := Fx.free (h1.co .lev).1
  have dr := h2.reac hkn
  have fr : w2.frozen? ⟨a.br, k, none⟩ = false := Fx.free (h2.co .rea).1
  have dr1 := h1.reac hkn
  have e8 : w3.cell? ⟨a.bx, 8, none⟩ = some v.vt := h3.cell 8
  have e2 : w2.cell? ⟨a.bx, 6, none⟩ = some (.slice (some ⟨a.br, 0, none⟩) a.n1 a.n1) := h2.cell 6
  rw [hvd] at d10
  rw [hkl] at hvt
  rw [hvt] at hr6 e8 hq6
  clear hM6 hR6 hb6 HS3 hlv hvd hll hsv h1 h2 h3 h hs1 hs2 hs3 hK3 hvt hB3 ho6 hg6 ha6 hs hvr hn
  have HV : Hid (∀ wz : World, Calls Try.prog 70 #[.int .i64 x] wz fun e w' => e = .returned (.int .i64 (k : Int)) ∧ wz = w') := hid fun wz => sol_variable x k wz hk hx'
  rcases hW with ⟨hneg, wa, hwa, hw1, ca, ⟨y, cy⟩, fa⟩ | ⟨hneg, hw1⟩
  · go_enter Try.func55, Try.ntmps55
    go_wp2_with (go_at_call 70; refine (HV.out _).mono ?_; rintro e w' ⟨rfl, rfl⟩)
    go_region
    all_goals
      go_wp2_with fail
      exact ⟨rfl, _, results_none rfl _ _ _, rfl, HF.out⟩
  · go_enter Try.func55, Try.ntmps55
    go_wp2_with (go_at_call 70; refine (HV.out _).mono ?_; rintro e w' ⟨rfl, rfl⟩)
    go_region
    all_goals
      go_wp2_with fail
      exact ⟨rfl, _, results_none rfl _ _ _, rfl, HF.out⟩

end Go.Proofs.Ytfofabbnbmieoaa.Ord

/- solve's state: a watch more, a clause more, a proof's clause more, a level more. -/
namespace Go.Proofs.Ytfofabbnbmieoaa.Ord
open Go.RowKit Go.Conc

/-- A watch more. -/
def addW (j i : Nat) (Wt : List (List Nat)) : List (List Nat) := Wt.set j ((Wt[j]?).getD [] ++ [i])

section
variable {tag : Nat → KT} {B : Nat} {w0 w w1 w6 : World} {a : SA} {v : SV} {d : SD} {t : KT}

theorem SM.cong (h : SM tag B w0 w a v d) {tag' : Nat → KT} (ht : ∀ k, k < w.heap.size → tag k ≠ .oth → tag' k = tag k) (hB : ∀ k, tag' k ≠ .oth → B ≤ k) : SM tag' B w0 w a v d :=
  ⟨h.bel, h.le, hB, fun t => by
    by_cases q : t = .oth
    · subst q; trivial
    · exact (h.co t).keep fun k hk e => ⟨rfl, ht k hk (by rw [e]; exact q)⟩⟩

/-- A watch list's part. -/
theorem SM.wthAt (h : SM tag B w0 w a v d) {j : Nat} (hj : j < 2 * a.n1) : ∃ u ns, v.ws[j]? = some u ∧ d.Wt[j]? = some ns ∧ Gr (.wth j) tag B w 3 u (nnts ns) := by
  have hl := (h.co .wtb).2.2
  obtain ⟨u, h1, h2⟩ := h.co (.wth j) _ (List.getElem?_eq_getElem (by omega : j < d.Wt.length))
  exact ⟨u, _, h1, List.getElem?_eq_getElem (by omega), h2⟩

theorem nnts_append (l : List Nat) (i : Nat) : nnts (l ++ [i]) = nnts l ++ [.int .i64 (i : Int)] := by simp [nnts]

/-- A number more in a watch list. -/
theorem SM.pushW (h : SM tag B w0 w a v d) {j i : Nat} (hj : j < 2 * a.n1) {u u6 : Value} {ns : List Nat} (hu : v.ws[j]? = some u) (hns : d.Wt[j]? = some ns) (h1 : Below w.heap.size w w1) (ho : w6.ownsRow B 3 1 u6 (ns.length + 1) (nnts ns ++ [.int .i64 (i : Int)])) (hg : w1.grownBy w6 u.ownBlock) (ha : u6.ownBlock = u.ownBlock ∨ u6.ownBlock = some w1.heap.size) :
    SM (tgN tag w (.wth j)) B w0 (w6.setCell ⟨a.bw, j, none⟩ u6) a { v with ws := v.ws.set j u6 } { d with Wt := addW j i d.Wt } ∧ Touch (fun k => tag k = .wth j ∨ tag k = .wtb) w (w6.setCell ⟨a.bw, j, none⟩ u6) ∧ w6.heap[a.bw]? = some (.cells v.ws.toArray 22 (0, 0)) ∧ w6.heap[a.bx]? = some (.cells (scells a v d).toArray 83 (0, 0)) := by
  obtain ⟨u', e1, hG⟩ := h.co (.wth j) ns hns
  rw [hu] at e1
  injection e1 with e1
  subst e1
  have hnl : (nnts ns).length = ns.length := nnts_length ns
  obtain ⟨hT, hG⟩ := Gr.push hG h1 (by rw [hnl]; exact ho) hg ha
  have hs : Fx .wtb (tgN tag w (.wth j)) w6 a.bw v.ws 22 := Fx.touch (h.co .wtb).1 hT (by rw [(h.co .wtb).1.2]; nofun) fun g hg => tgN_old hg
  have hs2 : Fx .sta (tgN tag w (.wth j)) w6 a.bx (scells a v d) 83 := Fx.touch (h.co .sta) hT (by rw [(h.co .sta).2]; nofun) fun g hg => tgN_old hg
  have hsb : tag a.bw = .wtb := (h.co .wtb).1.2
  have hT2 : Touch (fun k => tag k = .wth j ∨ tag k = .wtb) w (w6.setCell ⟨a.bw, j, none⟩ u6) := (hT.mono fun k _ e => .inl e).setCell (.inr hsb) _
  refine ⟨h.upd (fun s => s = .wth j ∨ s = .wtb) (by rintro (e | e) <;> cases e) hT2 (fun g hg => tgN_old hg) (fun k hk _ => Nat.le_trans h.le hk) (fun s hs hc => ?_) ?_, hT2, hs.1, hs2.1⟩
  · cases s with
    | wth m =>
      have hm : m ≠ j := fun e => hs (.inl (by rw [e]))
      intro ns' hns'
      have hns' : (addW j i d.Wt)[m]? = some ns' := hns'
      unfold addW at hns'
      rw [List.getElem?_set_ne (fun e => hm e.symm)] at hns'
      obtain ⟨u', q1, q2⟩ := hc ns' hns'
      exact ⟨u', by show (v.ws.set j u6)[m]? = some u'; rw [List.getElem?_set_ne (fun e => hm e.symm)]; exact q1, q2⟩
    | wtb => exact absurd (.inr rfl) hs
    | _ => exact hc
  · rintro s (rfl | rfl)
    · intro ns' hns'
      have hns' : (addW j i d.Wt)[j]? = some ns' := hns'
      unfold addW at hns'
      have hl := (h.co .wtb).2
      rw [List.getElem?_set_self (by omega), hns] at hns'
      injection hns' with hns'
      subst hns'
      refine ⟨u6, by show (v.ws.set j u6)[j]? = some u6; rw [List.getElem?_set_self (by omega)], ?_⟩
      show Gr (.wth j) _ B _ 3 u6 (nnts (ns ++ [i]))
      rw [nnts_append]
      exact ⟨own_setO hG.1 hs.1 (by decide) _ _, hG.2⟩
    · exact ⟨hs.set (o := j) u6, by simpa using (h.co .wtb).2.1, by unfold addW; simpa using (h.co .wtb).2.2⟩

/-- A clause more: its row becomes the state's. -/
theorem SM.pushC (h : SM tag B w0 w a v d) {g o cap : Nat} {c : List Int} {u6 : Value} (hc : Ro .oth tag w (.slice (some ⟨g, o, none⟩) c.length cap) c) (hgB : B ≤ g) (h1 : Below w.heap.size w w1) (ho : w6.ownsRow B 22 1 u6 (d.C.length + 1) (v.us ++ [.slice (some ⟨g, o, none⟩) c.length cap])) (hg : w1.grownBy w6 v.vc.ownBlock) (ha : u6.ownBlock = v.vc.ownBlock ∨ u6.ownBlock = some w1.heap.size) :
    ∃ tag', SM tag' B w0 (w6.setCell ⟨a.bx, 1, none⟩ u6) a { v with vc := u6, us := v.us ++ [.slice (some ⟨g, o, none⟩) c.length cap] } { d with C := d.C ++ [c] } ∧ Touch (fun k => tag k ≠ .oth) w (w6.setCell ⟨a.bx, 1, none⟩ u6) ∧ (∀ k, k < w.heap.size → k ≠ g → tag k = .oth → tag' k = .oth) ∧ w6.heap[a.bx]? = some (.cells (scells a v d).toArray 83 (0, 0)) := by
  obtain ⟨g', o', cap', cur, e1, hcap, htg, hblk, hval⟩ := hc
  injection e1 with e1 e2 e3
  injection e1 with e1
  injection e1 with e1 e4
  subst e1 e3 e4
  have hgl := (Array.getElem?_eq_some_iff.1 hblk).1
  obtain ⟨tg, htgd⟩ : ∃ tg : Nat → KT, (fun k => if k = g then KT.cls d.C.length else tag k) = tg := ⟨_, rfl⟩
  have ht1 : ∀ k, k ≠ g → tg k = tag k := fun k hk => by rw [← htgd]; exact if_neg hk
  have ht2 : tg g = .cls d.C.length := by rw [← htgd]; exact if_pos rfl
  have hm : SM tg B w0 w a v d := h.cong (fun k _ hk => ht1 k fun e => hk (by rw [e]; exact htg)) fun k hk => by
    by_cases q : k = g
    · rw [q]; exact hgB
    · exact h.tB k (by rw [← ht1 k q]; exact hk)
  have hul := (h.co .clr).2
  obtain ⟨hT, hG⟩ := Gr.push (hm.co .clr).1 h1 (by rw [hul]; exact ho) hg ha
  have hs : Fx .sta (tgN tg w .clr) w6 a.bx (scells a v d) 83 := Fx.touch (hm.co .sta) hT (by rw [(hm.co .sta).2]; nofun) fun g hg => tgN_old hg
  have hsb : tg a.bx = .sta := (hm.co .sta).2
  have hT2 : Touch (fun k => tg k = .clr ∨ tg k = .sta) w (w6.setCell ⟨a.bx, 1, none⟩ u6) := (hT.mono fun k _ e => .inl e).setCell (.inr hsb) _
  have hT3 : Touch (fun k => (fun s => s = KT.clr ∨ s = .sta ∨ s = .cls d.C.length) (tg k)) w (w6.setCell ⟨a.bx, 1, none⟩ u6) := hT2.mono fun k _ e => e.elim .inl fun e => .inr (.inl e)
  refine ⟨tgN tg w .clr, hm.upd (fun s => s = .clr ∨ s = .sta ∨ s = .cls d.C.length) (by rintro (e | e | e) <;> cases e) hT3 (fun g hg => tgN_old hg) (fun k hk _ => Nat.le_trans h.le hk) (fun s hs hc => ?_) ?_, hT2.mono fun k _ e => ?_, fun k hk hkg e => (tgN_old hk).trans ((ht1 k hkg).trans e), hs.1⟩
  · cases s with
    | cls m =>
      have hmm : m ≠ d.C.length := fun e => hs (.inr (.inr (by rw [e])))
      intro c' hc'
      have hc' : (d.C ++ [c])[m]? = some c' := hc'
      by_cases q : m < d.C.length
      · rw [List.getElem?_append_left q] at hc'
        obtain ⟨u', q1, q2⟩ := hc c' hc'
        exact ⟨u', by show (v.us ++ _)[m]? = some u'; rw [List.getElem?_append_left (by omega)]; exact q1, q2⟩
      · rw [List.getElem?_eq_none (by simp; omega)] at hc'
        cases hc'
    | clr => exact absurd (.inl rfl) hs
    | sta => exact absurd (.inr (.inl rfl)) hs
    | _ => exact hc
  · rintro s (rfl | rfl | rfl)
    · exact ⟨⟨own_setO hG.1 hs.1 (by decide) _ _, hG.2⟩, by simp [hul]⟩
    · exact hs.set (o := 1) u6
    · intro c' hc'
      have hc' : (d.C ++ [c])[d.C.length]? = some c' := hc'
      rw [List.getElem?_append_right (Nat.le_refl _)] at hc'
      simp at hc'
      subst hc'
      refine ⟨.slice (some ⟨g, o, none⟩) c.length cap, by show (v.us ++ _)[d.C.length]? = _; rw [List.getElem?_append_right (by omega)]; simp [hul], g, o, cap, cur, rfl, hcap, (tgN_old hgl).trans ht2, ?_, hval⟩
      exact (hT2.block g hgl (by rw [ht2]; rintro (e | e) <;> cases e)).trans hblk
  · rcases e with e | e
    · by_cases q : k = g
      · rw [q, ht2] at e; cases e
      · rw [← ht1 k q, e]; nofun
    · by_cases q : k = g
      · rw [q, ht2] at e; cases e
      · rw [← ht1 k q, e]; nofun

end

end Go.Proofs.Ytfofabbnbmieoaa.Ord

/- lit.Norm's literals: each literal of the clause once, in their order. -/
namespace Go.Proofs.Ytfofabbnbmieoaa
open Go.RowKit

/-- In strictly ascending order. -/
def Asc (l : List Int) : Prop := l.Pairwise (fun a b => lessB a b = true)

theorem mem_mrg_iff {x : Int} : ∀ (l1 l2 : List Int), x ∈ mrg l1 l2 ↔ x ∈ l1 ∨ x ∈ l2 := by
  intro l1 l2
  refine ⟨mem_mrg l1 l2, ?_⟩
  induction l1, l2 using mrg.induct with
  | case1 l2 => rw [mrg_nil_left]; simp
  | case2 a l1 => rw [mrg_nil_right]; simp
  | case3 a l1 b l2 h ih => rw [mrg_cons, if_pos h]; simp only [List.mem_cons] at *; rintro ((h | h) | h) <;> simp_all
  | case4 a l1 b l2 h h2 ih => rw [mrg_cons, if_neg h, if_pos h2]; simp only [List.mem_cons] at *; rintro (h | (h | h)) <;> simp_all
  | case5 a l1 b l2 h h2 ih =>
    rw [mrg_cons, if_neg h, if_neg h2]
    have e : a = b := lessB_tri (by simpa using h) (by simpa using h2)
    subst e
    simp only [List.mem_cons] at *
    rintro ((h | h) | (h | h)) <;> simp_all

theorem asc_mrg : ∀ (l1 l2 : List Int), Asc l1 → Asc l2 → Asc (mrg l1 l2) := by
  intro l1 l2
  induction l1, l2 using mrg.induct with
  | case1 l2 => rw [mrg_nil_left]; exact fun _ h => h
  | case2 a l1 => rw [mrg_nil_right]; exact fun h _ => h
  | case3 a l1 b l2 h ih =>
    intro h1 h2
    have h1' := List.pairwise_cons.1 h1
    have h2' := List.pairwise_cons.1 h2
    rw [mrg_cons, if_pos h]
    refine List.pairwise_cons.2 ⟨fun x hx => ?_, ih h1'.2 h2⟩
    rcases (mem_mrg_iff _ _).1 hx with hx | hx
    · exact h1'.1 x hx
    · rcases List.mem_cons.1 hx with rfl | hx
      · exact h
      · exact lessB_trans h (h2'.1 x hx)
  | case4 a l1 b l2 h h2 ih =>
    intro h1 h2'
    have h1' := List.pairwise_cons.1 h1
    have h3 := List.pairwise_cons.1 h2'
    rw [mrg_cons, if_neg h, if_pos h2]
    refine List.pairwise_cons.2 ⟨fun x hx => ?_, ih h1 h3.2⟩
    rcases (mem_mrg_iff _ _).1 hx with hx | hx
    · rcases List.mem_cons.1 hx with rfl | hx
      · exact h2
      · exact lessB_trans h2 (h1'.1 x hx)
    · exact h3.1 x hx
  | case5 a l1 b l2 h h2 ih =>
    intro h1 h2'
    rw [mrg_cons, if_neg h, if_neg h2]
    exact ih (List.pairwise_cons.1 h1).2 h2'

theorem mem_msort_iff {x : Int} : ∀ (n : Nat) (xs : List Int), x ∈ msort n xs ↔ x ∈ xs := by
  intro n
  induction n with
  | zero => intro xs; exact Iff.rfl
  | succ n ih =>
    intro xs
    rw [msort]
    split
    · exact Iff.rfl
    · rw [mem_mrg_iff, ih, ih, ← List.mem_append, List.take_append_drop]

theorem asc_msort : ∀ (n : Nat) (xs : List Int), xs.length ≤ n → Asc (msort n xs) := by
  intro n
  induction n with
  | zero =>
    intro xs h
    have : xs = [] := List.eq_nil_of_length_eq_zero (by omega)
    subst this
    exact List.Pairwise.nil
  | succ n ih =>
    intro xs h
    rw [msort]
    split
    · match xs with
      | [] => exact List.Pairwise.nil
      | [x] => exact List.pairwise_singleton _ _
      | x :: y :: l => simp at *; omega
    · exact asc_mrg _ _ (ih _ (by simp; omega)) (ih _ (by simp; omega))

theorem asc_normL (xs : List Int) : Asc (normL xs) := by
  have h := asc_msort xs.length xs (Nat.le_refl _)
  unfold normL
  split
  · exact List.Pairwise.sublist (List.tail_sublist _) h
  · exact h

theorem mem_normL_iff {x : Int} {xs : List Int} : x ∈ normL xs ↔ x ∈ xs ∧ x ≠ 0 := by
  have h := asc_msort xs.length xs (Nat.le_refl _)
  have hm := fun x => @mem_msort_iff x xs.length xs
  unfold normL
  generalize msort xs.length xs = L at *
  cases L with
  | nil => simp at hm ⊢; simp [hm]
  | cons a l =>
    have hp := List.pairwise_cons.1 h
    have hnot : ∀ y ∈ l, y ≠ 0 := fun y hy e => by
      have := hp.1 y hy
      subst e
      simp [lessB] at this; omega
    by_cases ha : a = 0
    · subst ha
      simp only [List.head?_cons, List.tail_cons, if_true]
      rw [← hm, List.mem_cons]
      constructor
      · exact fun h => ⟨Or.inr h, hnot x h⟩
      · rintro ⟨h | h, hx⟩
        · exact (hx h).elim
        · exact h
    · simp only [List.head?_cons, Option.some.injEq, ha, if_false]
      rw [← hm]
      refine ⟨fun h => ⟨h, ?_⟩, fun h => h.1⟩
      rcases List.mem_cons.1 h with rfl | h
      · exact ha
      · exact hnot x h

theorem asc_get {l : List Int} (h : Asc l) {i j : Nat} {x y : Int} (hij : i < j) (hx : l[i]? = some x) (hy : l[j]? = some y) : lessB x y = true := by
  obtain ⟨hi, rfl⟩ := List.getElem?_eq_some_iff.1 hx
  obtain ⟨hj, rfl⟩ := List.getElem?_eq_some_iff.1 hy
  exact List.pairwise_iff_getElem.1 h i j hi hj hij

/-- Two neighbours are a literal and its negative exactly if some literal stands beside its negative. -/
theorem adjB_iff {l : List Int} (h : Asc l) (h0 : ∀ x ∈ l, x ≠ 0) : adjB l = true ↔ ∃ x ∈ l, -x ∈ l := by
  constructor
  · intro ha
    rw [adjB, List.any_eq_true] at ha
    obtain ⟨i, hi, hp⟩ := ha
    simp only [adjAt, Bool.and_eq_true, decide_eq_true_eq, beq_iff_eq] at hp
    have hi' : i < l.length := List.mem_range.1 hi
    have h1 : l[i]? = some l[i] := by simp [hi']
    have h2 : l[i - 1]? = some l[i - 1] := by simp
    have hl := asc_get h (show i - 1 < i by omega) h2 h1
    have e1 : l.getD i 0 = l[i] := by simp [hi']
    have e2 : l.getD (i - 1) 0 = l[i - 1] := by rw [List.getD_eq_getElem?_getD, h2]; rfl
    rw [e1, e2] at hp
    refine ⟨l[i], by simp, ?_⟩
    have : -l[i] = l[i - 1] := by
      have h3 := (lessB_iff _ _).1 hl
      omega
    rw [this]; simp
  · rintro ⟨x, hx, hnx⟩
    have hx0 := h0 x hx
    obtain ⟨i, hi, hi'⟩ := List.getElem_of_mem hx
    obtain ⟨j, hj, hj'⟩ := List.getElem_of_mem hnx
    have key : ∀ i j, (hi : i < l.length) → (hj : j < l.length) → l[i].natAbs = l[j].natAbs → i < j → j = i + 1 := by
      intro i j hi hj he hij
      rcases Nat.lt_or_ge (i + 1) j with hlt | hge
      · exfalso
        have a1 := asc_get h (show i < i + 1 by omega) (x := l[i]) (y := l[i + 1]) (by simp [hi]) (by simp)
        have a2 := asc_get h hlt (x := l[i + 1]) (y := l[j]) (by simp) (by simp [hj])
        rw [lessB_iff] at a1 a2
        omega
      · omega
    have hne : i ≠ j := by
      intro e; subst e; rw [hi'] at hj'; omega
    rcases Nat.lt_or_gt_of_ne hne with hlt | hlt
    · have := key i j hi hj (by rw [hi', hj']; omega) hlt
      subst this
      exact adjB_of (j := i) (x := -x) (y := x) (by simp [← hj', hj]) (by simp [← hi', hi]) (by simp)
    · have := key j i hj hi (by rw [hi', hj']; omega) hlt
      subst this
      exact adjB_of (j := j) (x := x) (y := -x) (by simp [← hi', hi]) (by simp [← hj', hj]) (by simp)

end Go.Proofs.Ytfofabbnbmieoaa

/- Plain facts for the law LitNormal: the clause in another order. -/
namespace Go.Proofs.Ytfofabbnbmieoaa
open Go.RowKit

end Go.Proofs.Ytfofabbnbmieoaa

/- Plain definitions: what weepholelaw02.Fit makes. -/
namespace Go.Proofs.Ytfofabbnbmieoaa
open Go.RowKit

/-- The number of variables. -/
def fitV (n : Int) : Int := 1 + n % 12

/-- A clause. -/
def fitC (V : Int) (c : List Int) : List Int := (c.map (fun x => x.tmod (V + 1))).filter (fun x => x != 0)

/-- The clauses. -/
def fitF (n : Int) (l : List (List Int)) : List (List Int) := l.map (fitC (fitV n))

/-- Whether they are few enough. -/
def fitB (l : List (List Int)) : Bool := decide (l.length ≤ 30) && !(l.any (fun c => decide (20 < c.length)))

theorem fitC_step_zero {V x : Int} {c : List Int} {k : Nat} (hx : c[k]? = some x) (h : x.tmod (V + 1) = 0) : fitC V (c.take (k + 1)) = fitC V (c.take k) := by
  simp [fitC, List.take_add_one, hx, h]

theorem fitC_step {V x : Int} {c : List Int} {k : Nat} (hx : c[k]? = some x) (h : x.tmod (V + 1) ≠ 0) : fitC V (c.take (k + 1)) = fitC V (c.take k) ++ [x.tmod (V + 1)] := by
  simp [fitC, List.take_add_one, hx, h]

theorem fitC_length (V : Int) (c : List Int) : (fitC V c).length ≤ c.length := by
  have := List.length_filter_le (fun x : Int => x != 0) (c.map (fun x => x.tmod (V + 1)))
  simpa [fitC] using this

theorem fitF_step {V : Int} {l : List (List Int)} {c : List Int} {k : Nat} (hc : l[k]? = some c) : (l.take (k + 1)).map (fitC V) = (l.take k).map (fitC V) ++ [fitC V c] := by
  simp [List.take_add_one, hc]

theorem fitV_range (n : Int) : 1 ≤ fitV n ∧ fitV n ≤ 12 := by unfold fitV; omega

theorem mem_fitC {V x : Int} {c : List Int} (hV : 1 ≤ V) (h : x ∈ fitC V c) : x ≠ 0 ∧ -V ≤ x ∧ x ≤ V := by
  simp only [fitC, List.mem_filter, List.mem_map, bne_iff_ne, ne_eq] at h
  obtain ⟨⟨y, _, rfl⟩, h0⟩ := h
  refine ⟨h0, ?_⟩
  have h1 := Int.natAbs_tmod y (V + 1)
  have h2 : y.natAbs % (V + 1).natAbs < (V + 1).natAbs := Nat.mod_lt _ (by omega)
  rw [← h1] at h2
  omega

theorem fitB_false_at {l : List (List Int)} {k : Nat} {c : List Int} (hc : l[k]? = some c) (h : (20 : Int) < c.length) : fitB l = false := by
  have : l.any (fun c => decide (20 < c.length)) = true := any_of_get hc (by simp; omega)
  simp [fitB, this]
theorem fitB_false_long {l : List (List Int)} (h : (30 : Int) < l.length) : fitB l = false := by
  have : ¬ l.length ≤ 30 := by omega
  simp [fitB, this]
theorem fitB_true {l : List (List Int)} {k : Nat} (h : (l.length : Int) ≤ 30) (hk : ¬ k < l.length) (hr : (l.take k).any (fun c => decide (20 < c.length)) = false) : fitB l = true := by
  rw [List.take_of_length_le (by omega)] at hr
  have : l.length ≤ 30 := by omega
  simp only [fitB, hr, this]; rfl

end Go.Proofs.Ytfofabbnbmieoaa

/- Plain facts for the law LitMeans: a clause holds exactly if what Norm makes of it does. -/
namespace Go.Proofs.Ytfofabbnbmieoaa
open Go.RowKit

theorem adjB_normL_iff {c : List Int} : adjB (normL c) = true ↔ ∃ x ∈ c, x ≠ 0 ∧ -x ∈ c := by
  rw [adjB_iff (asc_normL c) (fun x hx => (mem_normL_iff.1 hx).2)]
  constructor
  · rintro ⟨x, hx, hn⟩
    rw [mem_normL_iff] at hx hn
    exact ⟨x, hx.1, hx.2, hn.1⟩
  · rintro ⟨x, hx, h0, hn⟩
    exact ⟨x, mem_normL_iff.2 ⟨hx, h0⟩, mem_normL_iff.2 ⟨hn, by omega⟩⟩

end Go.Proofs.Ytfofabbnbmieoaa

/- Plain facts about rup's base between two calls. -/
namespace Go.Proofs.Ytfofabbnbmieoaa.Ord

/-- Each clause of F is among C up to order, or always holds, or one of its literals is known. -/
def All (F C : List (List Int)) (K : List Int) : Prop := ∀ f ∈ F, Taut f ∨ (∃ d ∈ C, ∀ l, l ∈ d ↔ l ∈ f) ∨ ∃ l ∈ f, l ∈ K

/-- The base between two calls, where nothing has failed. -/
structure Top (n : Nat) (F C : List (List Int)) (Wt : Int → List Nat) (K : List Int) : Prop where
  wi : WI n C Wt
  bp : PrB C K
  cons : ∀ x ∈ K, -x ∉ K
  nod : K.Nodup
  kok : ∀ x ∈ K, LitOk n x
  snd : ∀ x ∈ K, Der F [] x
  sub : ∀ c ∈ C, ∃ f ∈ F, ∀ l, l ∈ c ↔ l ∈ f
  all : All F C K

theorem All.mono {F C C' : List (List Int)} {K K' : List Int} (h : All F C K) (hC : ∀ d ∈ C, ∃ e ∈ C', ∀ l, l ∈ e ↔ l ∈ d) (hK : ∀ x ∈ K, x ∈ K') : All F C' K' := fun f hf => by
  rcases h f hf with h1 | ⟨d, hd, hl⟩ | ⟨l, hl, hk⟩
  · exact .inl h1
  · obtain ⟨e, he, hle⟩ := hC d hd
    exact .inr (.inl ⟨e, he, fun l => (hle l).trans (hl l)⟩)
  · exact .inr (.inr ⟨l, hl, hK l hk⟩)

theorem All.app {F C : List (List Int)} {K c : List Int} (h : All F C K) (hc : Taut c ∨ (∃ d ∈ C, ∀ l, l ∈ d ↔ l ∈ c) ∨ ∃ l ∈ c, l ∈ K) : All (F ++ [c]) C K := fun f hf => by
  rcases List.mem_append.1 hf with q | q
  · exact h f q
  · rw [List.mem_singleton.1 q]; exact hc

section
variable {n : Nat} {F C C' : List (List Int)} {Wt Wt' : Int → List Nat} {K K' K0 A : List Int}

/-- The base before clauses are gone through under assumptions. -/
theorem Top.start (h : Top n F C Wt K) {R : List Int} (hK : K' = K ++ R) (hcons : ∀ x ∈ K', -x ∉ K') (hnod : K'.Nodup) (hkok : ∀ x ∈ K', LitOk n x) (hA : ∀ x ∈ R, x ∈ A) : RI n F A C Wt K' K K.length := by
  subst hK
  refine ⟨h.wi, fun t c x y ht hx hy => ?_, h.bp, fun x hx => List.mem_append_left _ hx, hcons, hnod, hkok, fun x hx => ?_, h.sub, by simp⟩
  · rw [List.take_left]
    have h0 := h.bp t c x y ht hx hy
    have hcm := h.wi.cls c (List.mem_of_getElem? ht)
    have hx0 := (hcm.2.2.1 x (List.mem_of_getElem? hx)).1
    have hy0 := (hcm.2.2.1 y (List.mem_of_getElem? hy)).1
    exact ⟨fun hh => List.mem_append_left _ (h0.1 (hh.elim id fun q => absurd q.1 hx0)), fun hh => List.mem_append_left _ (h0.2 (hh.elim id fun q => absurd q.1 hy0))⟩
  · rcases List.mem_append.1 hx with q | q
    · exact der_mono (sub_of_subset fun c hc => hc) (fun a ha => by simp at ha) (h.snd x q)
    · exact .asm (hA x q)

/-- Where all is gone through, K is what follows. -/
theorem RI.done (h : RI n F A C Wt K K0 K.length) (hF : ClsOk n F) (ha : All F C K) (hA : ∀ x ∈ A, x ∈ K) : Closed F A K := by
  have hcl := h.closed
  have key : ∀ f ∈ F, (∃ l ∈ f, -l ∉ K) ∧ ∀ l ∈ f, (∀ m ∈ f, m ≠ l → -m ∈ K) → l ∈ K := fun f hf => by
    rcases ha f hf with ⟨x, hx, hnx⟩ | ⟨d, hd, hl⟩ | ⟨l, hl, hk⟩
    · refine ⟨?_, fun l hl hall => ?_⟩
      · by_cases q : -x ∈ K
        · exact ⟨-x, hnx, fun p => h.cons _ q (by rw [Int.neg_neg] at p ⊢; exact p)⟩
        · exact ⟨x, hx, q⟩
      · by_cases q1 : x = l
        · by_cases q2 : -x = l
          · have := (hF f hf x hx).1
            omega
          · have := hall (-x) hnx q2
            rw [Int.neg_neg] at this
            rw [← q1]; exact this
        · have h1 := hall x hx q1
          by_cases q2 : -x = l
          · rw [← q2]; exact h1
          · have h2 := hall (-x) hnx q2
            rw [Int.neg_neg] at h2
            exact absurd h1 (h.cons x h2)
    · obtain ⟨⟨l, h1, h2⟩, h3⟩ := hcl d hd
      exact ⟨⟨l, (hl l).1 h1, h2⟩, fun l hlf hall => h3 l ((hl l).2 hlf) fun m hm hne => hall m ((hl m).1 hm) hne⟩
    · refine ⟨⟨l, hl, h.cons l hk⟩, fun l' _ hall => ?_⟩
      by_cases q : l = l'
      · rw [← q]; exact hk
      · exact absurd (hall l hl q) (h.cons l hk)
  exact ⟨h.snd, hA, h.cons, fun c hc l hl => (key c hc).2 l hl, fun c hc => (key c hc).1⟩

/-- The base behind a clause that was added. -/
theorem RI.top (h : RI n F [] C Wt K K0 K.length) (ha : All F C K) : Top n F C Wt K := by
  refine ⟨h.wi, fun t c x y ht hx hy => ?_, h.cons, h.nod, h.kok, h.snd, h.sub, ha⟩
  have h0 := h.pr t c x y ht hx hy
  rw [List.take_of_length_le (Nat.le_refl _)] at h0
  exact ⟨fun q => h0.1 (.inl q), fun q => h0.2 (.inl q)⟩

theorem Top.taut (h : Top n F C Wt K) {c : List Int} (hc : Taut c) : Top n (F ++ [c]) C Wt K :=
  ⟨h.wi, h.bp, h.cons, h.nod, h.kok, fun x hx => der_mono (sub_of_subset fun _ hd => List.mem_append_left _ hd) (fun _ ha => ha) (h.snd x hx), fun d hd => let ⟨f, hf, hl⟩ := h.sub d hd; ⟨f, List.mem_append_left _ hf, hl⟩, h.all.app (.inl hc)⟩

end

/-- A clause's literals while two that are not false are brought to its head: j are looked at, p brought. -/
structure OI (K ys l : List Int) (p j : Nat) : Prop where
  same : Same ys l
  p2 : p ≤ 2
  pj : p ≤ j
  fst : ∀ (t : Nat) (x : Int), t < p → l[t]? = some x → -x ∉ K
  rest : p < 2 → ∀ (t : Nat) (x : Int), p ≤ t → t < j → l[t]? = some x → -x ∈ K

section
variable {K ys l : List Int} {p j : Nat} {x : Int}

theorem OI.start (K : List Int) {ys : List Int} (h : ys.Nodup) : OI K ys ys 0 0 := ⟨⟨rfl, h, fun _ => Iff.rfl⟩, by omega, by omega, fun t x ht => by omega, fun _ t x _ ht => by omega⟩

theorem OI.skip (h : OI K ys l p j) (hx : l[j]? = some x) (hk : -x ∈ K ∨ ¬ p < 2) : OI K ys l p (j + 1) :=
  ⟨h.same, h.p2, by have := h.pj; omega, h.fst, fun hp t y h1 h2 hy => by
    by_cases q : t < j
    · exact h.rest hp t y h1 q hy
    · have : t = j := by omega
      subst this
      rw [hx] at hy
      injection hy with hy
      rw [← hy]
      exact hk.resolve_right (fun q => q hp)⟩

theorem OI.take (h : OI K ys l p j) (hx : l[j]? = some x) (hk : -x ∉ K) (hp : p < 2) : OI K ys (swapL l p j) (p + 1) (j + 1) := by
  have hj := (List.getElem?_eq_some_iff.1 hx).1
  have hpj := h.pj
  refine ⟨?_, by omega, by omega, fun t y ht hy => ?_, fun hp2 t y h1 h2 hy => ?_⟩
  · have := same_swap (c := l) (j := p) (k := j) (by omega) hj h.same.2.1
    exact ⟨this.1.trans h.same.1, this.2.1, fun z => (this.2.2 z).trans (h.same.2.2 z)⟩
  · rw [swapL_get (by omega) hj] at hy
    by_cases q1 : t = j
    · rw [if_pos q1] at hy
      have : p = j := by omega
      rw [this, hx] at hy
      injection hy with hy
      rw [← hy]; exact hk
    · rw [if_neg q1] at hy
      by_cases q2 : t = p
      · rw [if_pos q2, hx] at hy
        injection hy with hy
        rw [← hy]; exact hk
      · rw [if_neg q2] at hy
        exact h.fst t y (by omega) hy
  · rw [swapL_get (by omega) hj] at hy
    by_cases q1 : t = j
    · rw [if_pos q1] at hy
      exact h.rest hp p y (Nat.le_refl _) (by omega) hy
    · rw [if_neg q1, if_neg (by omega)] at hy
      exact h.rest hp t y (by omega) (by omega) hy

theorem OI.none (h : OI K ys l 0 j) (hj : l.length ≤ j) : ∀ x ∈ ys, -x ∈ K := fun x hx => by
  obtain ⟨t, ht⟩ := List.mem_iff_getElem?.1 ((h.same.2.2 x).2 hx)
  have := (List.getElem?_eq_some_iff.1 ht).1
  exact h.rest (by omega) t x (by omega) (by omega) ht

theorem OI.one (h : OI K ys l 1 j) (hj : l.length ≤ j) {x0 : Int} (h0 : l[0]? = some x0) : -x0 ∉ K ∧ ∀ x ∈ ys, x ≠ x0 → -x ∈ K := by
  refine ⟨h.fst 0 x0 (by omega) h0, fun x hx hne => ?_⟩
  obtain ⟨t, ht⟩ := List.mem_iff_getElem?.1 ((h.same.2.2 x).2 hx)
  have := (List.getElem?_eq_some_iff.1 ht).1
  match t, ht with
  | 0, ht => rw [h0] at ht; injection ht with ht; exact absurd ht.symm hne
  | t + 1, ht => exact h.rest (by omega) (t + 1) x (by omega) (by omega) ht

end

section
variable {n : Nat} {F C : List (List Int)} {Wt Wt' : Int → List Nat} {K K1 c l : List Int} {x0 x1 : Int}

/-- What is known behind a set. -/
structure KX (n : Nat) (F : List (List Int)) (K K1 : List Int) : Prop where
  pre : ∃ R, K1 = K ++ R
  cons : ∀ x ∈ K1, -x ∉ K1
  nod : K1.Nodup
  kok : ∀ x ∈ K1, LitOk n x
  snd : ∀ x ∈ K1, Der F [] x

theorem Top.kx (h : Top n F C Wt K) (c : List Int) : KX n (F ++ [c]) K K := ⟨⟨[], by simp⟩, h.cons, h.nod, h.kok, fun x hx => der_mono (sub_of_subset fun _ hd => List.mem_append_left _ hd) (fun _ ha => ha) (h.snd x hx)⟩

theorem KX.one (h : KX n F K K1) (h0 : x0 ∉ K1) (hn : -x0 ∉ K1) (hok : LitOk n x0) (hd : Der F [] x0) : KX n F K (K1 ++ [x0]) := by
  refine ⟨let ⟨R, hR⟩ := h.pre; ⟨R ++ [x0], by rw [hR, List.append_assoc]⟩, fun x hx hm => ?_, ?_, fun x hx => ?_, fun x hx => ?_⟩
  · rcases List.mem_append.1 hx with q | q <;> rcases List.mem_append.1 hm with p | p
    · exact h.cons x q p
    · have e : -x = x0 := by simpa using p
      exact hn (by rw [← e, Int.neg_neg]; exact q)
    · have e : x = x0 := by simpa using q
      exact hn (by rw [← e]; exact p)
    · have e1 : x = x0 := by simpa using q
      have e2 : -x = x0 := by simpa using p
      have := hok.1
      omega
  · exact List.nodup_append.2 ⟨h.nod, by simp, fun x hx y hy => by
      have : y = x0 := by simpa using hy
      rintro rfl
      exact h0 (this ▸ hx)⟩
  · rcases List.mem_append.1 hx with q | q
    · exact h.kok x q
    · have : x = x0 := by simpa using q
      rw [this]; exact hok
  · rcases List.mem_append.1 hx with q | q
    · exact h.snd x q
    · have : x = x0 := by simpa using q
      rw [this]; exact hd

/-- The base before a clause of one literal is gone through. -/
theorem Top.single (h : Top n F C Wt K) (hk : KX n (F ++ [c]) K K1) (h0 : x0 ∈ c) (hm : x0 ∈ K1) : RI n (F ++ [c]) [] C Wt K1 [] K.length ∧ All (F ++ [c]) C K1 := by
  obtain ⟨R, hR⟩ := hk.pre
  subst hR
  refine ⟨⟨h.wi, fun t d x y ht hx hy => ?_, fun t d x y _ _ _ => ⟨fun q => by simp at q, fun q => by simp at q⟩, fun x hx => by simp at hx, hk.cons, hk.nod, hk.kok, hk.snd, fun d hd => let ⟨f, hf, hl⟩ := h.sub d hd; ⟨f, List.mem_append_left _ hf, hl⟩, by simp⟩, (h.all.mono (fun d hd => ⟨d, hd, fun _ => Iff.rfl⟩) fun x hx => List.mem_append_left _ hx).app (.inr (.inr ⟨x0, h0, hm⟩))⟩
  rw [List.take_left]
  have h0 := h.bp t d x y ht hx hy
  have hcm := h.wi.cls d (List.mem_of_getElem? ht)
  have hx0 := (hcm.2.2.1 x (List.mem_of_getElem? hx)).1
  have hy0 := (hcm.2.2.1 y (List.mem_of_getElem? hy)).1
  exact ⟨fun hh => List.mem_append_left _ (h0.1 (hh.elim id fun q => absurd q.1 hx0)), fun hh => List.mem_append_left _ (h0.2 (hh.elim id fun q => absurd q.1 hy0))⟩

/-- The base before a clause of more literals is gone through. -/
theorem Top.push (h : Top n F C Wt K) (hk : KX n (F ++ [c]) K K1) (hl2 : 2 ≤ l.length) (hnd : l.Nodup) (hok : ∀ x ∈ l, LitOk n x) (hop : ∀ x ∈ l, -x ∉ l) (hlc : ∀ x, x ∈ l ↔ x ∈ c) (h0 : l[0]? = some x0) (h1 : l[1]? = some x1) (hn0 : -x0 ∉ K) (hn1 : -x1 ∉ K ∨ x0 ∈ K1)
    (hw : ∀ b, Wt' b = if b = x0 ∨ b = x1 then Wt b ++ [C.length] else Wt b) : RI n (F ++ [c]) [] (C ++ [l]) Wt' K1 [] K.length ∧ All (F ++ [c]) (C ++ [l]) K1 := by
  obtain ⟨R, hR⟩ := hk.pre
  subst hR
  have hget : ∀ (t : Nat) (d : List Int), (C ++ [l])[t]? = some d → (t < C.length ∧ C[t]? = some d) ∨ (t = C.length ∧ d = l) := fun t d ht => by
    by_cases q : t < C.length
    · rw [List.getElem?_append_left q] at ht; exact .inl ⟨q, ht⟩
    · rw [List.getElem?_append_right (by omega)] at ht
      have h2 := (List.getElem?_eq_some_iff.1 ht).1
      simp at h2
      have h3 : t = C.length := by omega
      subst h3
      simp at ht
      exact .inr ⟨rfl, ht.symm⟩
  refine ⟨⟨⟨fun d hd => ?_, fun t d b ht => ?_, fun b t ht => ?_⟩, fun t d x y ht hx hy => ?_, fun t d x y _ _ _ => ⟨fun q => by simp at q, fun q => by simp at q⟩, fun x hx => by simp at hx, hk.cons, hk.nod, hk.kok, hk.snd, fun d hd => ?_, by simp⟩, ?_⟩
  · rcases List.mem_append.1 hd with q | q
    · exact h.wi.cls d q
    · rw [List.mem_singleton.1 q]; exact ⟨hl2, hnd, hok, hop⟩
  · rw [hw b]
    rcases hget t d ht with ⟨q1, q2⟩ | ⟨q1, q2⟩
    · have h3 := h.wi.cnt t d b q2
      split
      · rw [List.count_append, h3]
        have : ([C.length] : List Nat).count t = 0 := by rw [List.count_singleton]; simp; omega
        omega
      · exact h3
    · subst q1 q2
      have h3 : (Wt b).count C.length = 0 := List.count_eq_zero.2 fun q => by have := h.wi.lt b _ q; omega
      have h4 : (d[0]? = some b ∨ d[1]? = some b) ↔ (b = x0 ∨ b = x1) := by
        rw [h0, h1]
        constructor
        · rintro (q | q)
          · injection q with q; exact .inl q.symm
          · injection q with q; exact .inr q.symm
        · rintro (q | q)
          · exact .inl (by rw [q])
          · exact .inr (by rw [q])
      by_cases q : b = x0 ∨ b = x1
      · rw [if_pos q, if_pos (h4.2 q), List.count_append, h3]
        simp
      · rw [if_neg q, if_neg (fun p => q (h4.1 p)), h3]
  · rw [hw b] at ht
    rw [List.length_append]
    split at ht
    · rcases List.mem_append.1 ht with q | q
      · have := h.wi.lt b t q; omega
      · rw [List.mem_singleton.1 q]; simp
    · have := h.wi.lt b t ht; omega
  · rw [List.take_left]
    rcases hget t d ht with ⟨q1, q2⟩ | ⟨q1, q2⟩
    · have h0 := h.bp t d x y q2 hx hy
      have hcm := h.wi.cls d (List.mem_of_getElem? q2)
      have hx0 := (hcm.2.2.1 x (List.mem_of_getElem? hx)).1
      have hy0 := (hcm.2.2.1 y (List.mem_of_getElem? hy)).1
      exact ⟨fun hh => List.mem_append_left _ (h0.1 (hh.elim id fun q => absurd q.1 hx0)), fun hh => List.mem_append_left _ (h0.2 (hh.elim id fun q => absurd q.1 hy0))⟩
    · subst q2
      rw [h0] at hx
      rw [h1] at hy
      injection hx with hx
      injection hy with hy
      subst hx hy
      have hx0 := (hok x0 (List.mem_of_getElem? h0)).1
      have hy0 := (hok x1 (List.mem_of_getElem? h1)).1
      exact ⟨fun hh => hh.elim (fun q => absurd q hn0) (fun q => absurd q.1 hx0), fun hh => hh.elim (fun q => hn1.elim (fun p => absurd q p) id) (fun q => absurd q.1 hy0)⟩
  · rcases List.mem_append.1 hd with q | q
    · obtain ⟨f, hf, hl⟩ := h.sub d q
      exact ⟨f, List.mem_append_left _ hf, hl⟩
    · rw [List.mem_singleton.1 q]; exact ⟨c, by simp, hlc⟩
  · exact (h.all.mono (fun d hd => ⟨d, List.mem_append_left _ hd, fun _ => Iff.rfl⟩) fun x hx => List.mem_append_left _ hx).app (.inr (.inl ⟨l, by simp, hlc⟩))

end

end Go.Proofs.Ytfofabbnbmieoaa.Ord

/- Plain facts about the solver: levels and reasons, and what propagation leaves. -/
namespace Go.Proofs.Ytfofabbnbmieoaa.Ord

/-- The level of a place of the trail, where levels begin at bs. -/
def lvl (bs : List Nat) (i : Nat) : Nat := (bs.filter fun b => decide (b ≤ i)).length

theorem lvl_le (bs : List Nat) (i : Nat) : lvl bs i ≤ bs.length := List.length_filter_le _ _

theorem lvl_full {bs : List Nat} {i : Nat} (h : ∀ b ∈ bs, b ≤ i) : lvl bs i = bs.length := by
  unfold lvl
  rw [List.filter_eq_self.2 fun b hb => decide_eq_true (h b hb)]

theorem lvl_app (as1 bs : List Nat) (i : Nat) : lvl (as1 ++ bs) i = lvl as1 i + lvl bs i := by simp [lvl]

theorem lvl_none {bs : List Nat} {i : Nat} (h : ∀ b ∈ bs, i < b) : lvl bs i = 0 := by
  unfold lvl
  rw [List.length_eq_zero_iff, List.filter_eq_nil_iff]
  intro b hb
  have := h b hb
  simp
  omega

theorem lvl_mono (bs : List Nat) {i j : Nat} (h : i ≤ j) : lvl bs i ≤ lvl bs j := by
  unfold lvl
  induction bs with
  | nil => simp
  | cons b t ih =>
    simp only [List.filter_cons]
    by_cases h1 : b ≤ i
    · rw [if_pos (by simpa using h1), if_pos (by simp; omega)]
      simp only [List.length_cons]; omega
    · rw [if_neg (by simpa using h1)]
      split
      · simp only [List.length_cons]; omega
      · exact ih

/-- Places below the level k + 1. -/
theorem lvl_lt_iff {bs : List Nat} (h : bs.Pairwise (· < ·)) {k b : Nat} (hk : bs[k]? = some b) (i : Nat) : lvl bs i ≤ k ↔ i < b := by
  obtain ⟨hkl, hkb⟩ := List.getElem?_eq_some_iff.1 hk
  have e : bs = bs.take k ++ b :: bs.drop (k + 1) := by
    rw [← hkb, ← List.drop_eq_getElem_cons hkl, List.take_append_drop]
  have hp := h
  rw [e, List.pairwise_append] at hp
  obtain ⟨h1, h2, h3⟩ := hp
  rw [List.pairwise_cons] at h2
  have hlen : (bs.take k).length = k := by rw [List.length_take]; omega
  constructor
  · intro hl
    by_cases q : i < b
    · exact q
    · exfalso
      have h4 : lvl (bs.take k) i = k := by
        rw [lvl_full fun c hc => by have := h3 c hc b (by simp); omega, hlen]
      have h5 : 1 ≤ lvl (b :: bs.drop (k + 1)) i := by
        unfold lvl
        rw [List.filter_cons, if_pos (by simp; omega)]
        simp
      rw [e, lvl_app] at hl
      omega
  · intro q
    rw [e, lvl_app, lvl_none (bs := b :: bs.drop (k + 1)) fun c hc => by
      rcases List.mem_cons.1 hc with m | m
      · rw [m]; exact q
      · have := h2.1 c m; omega]
    have := lvl_le (bs.take k) i
    omega

/-- Below a boundary the levels behind it make no difference. -/
theorem lvl_take {bs : List Nat} (h : bs.Pairwise (· < ·)) {k b i : Nat} (hk : bs[k]? = some b) (hi : i < b) : lvl (bs.take k) i = lvl bs i := by
  obtain ⟨hkl, hkb⟩ := List.getElem?_eq_some_iff.1 hk
  have e : bs = bs.take k ++ b :: bs.drop (k + 1) := by
    rw [← hkb, ← List.drop_eq_getElem_cons hkl, List.take_append_drop]
  have hp := h
  rw [e, List.pairwise_append] at hp
  obtain ⟨h1, h2, h3⟩ := hp
  rw [List.pairwise_cons] at h2
  conv => rhs; rw [e, lvl_app]
  rw [lvl_none (bs := b :: bs.drop (k + 1)) fun c hc => by
      rcases List.mem_cons.1 hc with m | m
      · rw [m]; exact hi
      · have := h2.1 c m; omega]
  omega

/-- All literals. -/
def allL (n : Nat) : List Int := byVar n fun _ => true

theorem mem_allL {n : Nat} {a : Int} : a ∈ allL n ↔ LitOk n a := by simp [allL, mem_byVar]

/-- Each literal that is neither decided nor of level 0 has a clause from which it follows. -/
def RsOk (C : List (List Int)) (K Rz : List Int) (bs : List Nat) : Prop :=
  ∀ (i : Nat) (a : Int), K[i]? = some a → i ∉ bs → 0 < lvl bs i → ∃ (r : Nat) (c : List Int), Rz[i]? = some (r : Int) ∧ C[r]? = some c ∧ a ∈ c ∧ ∀ m ∈ c, m ≠ a → ∃ j, j < i ∧ K[j]? = some (-m)

/-- What is known at level 0. -/
def k0 (bs : List Nat) (K : List Int) : List Int := match bs with | [] => K | b :: _ => K.take b

theorem k0_sub {bs : List Nat} {K : List Int} {x : Int} (h : x ∈ k0 bs K) : x ∈ K := by
  cases bs with
  | nil => exact h
  | cons b t => exact List.mem_of_mem_take h

/-- What holds at all times between the solver's steps. -/
structure CB (n : Nat) (G C : List (List Int)) (Wt : Int → List Nat) (K Rz : List Int) (bs : List Nat) : Prop where
  wi : WI n C Wt
  bp : ∀ b ∈ bs, PrB C (K.take b)
  bl : ∀ b ∈ bs, b < K.length
  inc : bs.Pairwise (· < ·)
  rl : Rz.length = K.length
  rs : RsOk C K Rz bs
  lv0 : ∀ (i : Nat) (a : Int), K[i]? = some a → lvl bs i = 0 → Der G [] a
  cons : ∀ x ∈ K, -x ∉ K
  nod : K.Nodup
  kok : ∀ x ∈ K, LitOk n x
  sub : ∀ c ∈ C, ∃ f ∈ G, ∀ l, l ∈ c ↔ l ∈ f
  al : All G C (k0 bs K)

/-- Between two literals of the trail: d of them are done. -/
structure CD (n : Nat) (G C : List (List Int)) (Wt : Int → List Nat) (K Rz : List Int) (bs : List Nat) (d : Nat) : Prop extends CB n G C Wt K Rz bs where
  pr : Pr C K (K.take d) 0 []
  dl : d ≤ K.length
  bd : ∀ b ∈ bs, b ≤ d

/-- While the clauses that a watches are gone through. -/
structure CJ (n : Nat) (G C : List (List Int)) (Wt : Int → List Nat) (K Rz : List Int) (bs : List Nat) (Kd : List Int) (d : Nat) (a : Int) (kept rest : List Nat) : Prop extends CB n G C (effW Wt a (kept ++ rest)) K Rz bs where
  pr : Pr C K (Kd.take d) a rest
  hk : Kd[d]? = some (-a)
  pre : ∃ R, K = Kd ++ R
  bd : ∀ b ∈ bs, b ≤ d

section
variable {n : Nat} {G C : List (List Int)} {Wt Wt' : Int → List Nat} {K Kd Rz : List Int} {bs : List Nat} {d : Nat} {a o z : Int} {kept rest : List Nat} {i : Nat} {c e : List Int}

theorem CJ.ak (h : CJ n G C Wt K Rz bs Kd d a kept rest) : -a ∈ K := by
  obtain ⟨R, hR⟩ := h.pre
  rw [hR]
  exact List.mem_append_left _ (List.mem_of_getElem? h.hk)

theorem CJ.ka (h : CJ n G C Wt K Rz bs Kd d a kept rest) : K[d]? = some (-a) := by
  obtain ⟨R, hR⟩ := h.pre
  rw [hR, List.getElem?_append_left (List.getElem?_eq_some_iff.1 h.hk).1]
  exact h.hk

/-- The same for one of the prefixes. -/
theorem CJ.il (h : CJ n G C Wt K Rz bs Kd d a kept rest) {K0 : List Int} (hb : PrB C K0) (hs : ∀ x ∈ K0, x ∈ K) : IL n G (allL n) C Wt K (Kd.take d) K0 a kept rest :=
  ⟨h.wi, h.pr, hb, hs, fun x hx => by
    obtain ⟨R, hR⟩ := h.pre
    rw [hR]
    exact List.mem_append_left _ (List.mem_of_mem_take hx), h.ak, h.cons, h.nod, h.kok, fun x hx => .asm (mem_allL.2 (h.kok x hx)), h.sub⟩

theorem prb_nil (C : List (List Int)) : PrB C [] := fun i c x y _ _ _ => ⟨fun q => by simp at q, fun q => by simp at q⟩

theorem CJ.il0 (h : CJ n G C Wt K Rz bs Kd d a kept rest) : IL n G (allL n) C Wt K (Kd.take d) [] a kept rest := h.il (prb_nil C) fun x hx => by simp at hx

theorem rs_set {K Rz : List Int} (h : RsOk C K Rz bs) (hc : C[i]? = some c) (hs : Same c e) : RsOk (C.set i e) K Rz bs := fun j a hj hjb hl => by
  obtain ⟨r, d, h1, h2, h3, h4⟩ := h j a hj hjb hl
  by_cases q : r = i
  · rw [q] at h2
    rw [hc] at h2
    injection h2 with h2
    subst h2
    exact ⟨r, e, h1, by rw [set_get hc, if_pos q], (hs.2.2 a).2 h3, fun m hm hne => h4 m ((hs.2.2 m).1 hm) hne⟩
  · exact ⟨r, d, h1, by rw [set_get hc, if_neg q]; exact h2, h3, h4⟩

theorem rs_more {K Rz : List Int} (h : RsOk C K Rz bs) (hl : Rz.length = K.length) (o : Int) (i : Nat) (hc : C[i]? = some c) (ho : o ∈ c) (hf : ∀ m ∈ c, m ≠ o → -m ∈ K) : RsOk C (K ++ [o]) (Rz ++ [(i : Int)]) bs := fun j a hj hjb hlv => by
  by_cases q : j < K.length
  · rw [List.getElem?_append_left q] at hj
    obtain ⟨r, d, h1, h2, h3, h4⟩ := h j a hj hjb hlv
    refine ⟨r, d, by rw [List.getElem?_append_left (by omega)]; exact h1, h2, h3, fun m hm hne => ?_⟩
    obtain ⟨t, ht, hk⟩ := h4 m hm hne
    exact ⟨t, ht, by rw [List.getElem?_append_left (by omega)]; exact hk⟩
  · rw [List.getElem?_append_right (by omega)] at hj
    have hj2 := (List.getElem?_eq_some_iff.1 hj).1
    simp at hj2
    have hjk : j = K.length := by omega
    subst hjk
    simp at hj
    subst hj
    refine ⟨i, c, by rw [List.getElem?_append_right (by omega)]; simp [hl], hc, ho, fun m hm hne => ?_⟩
    obtain ⟨t, ht⟩ := List.mem_iff_getElem?.1 (hf m hm hne)
    have htl := (List.getElem?_eq_some_iff.1 ht).1
    exact ⟨t, htl, by rw [List.getElem?_append_left htl]; exact ht⟩

theorem all_set {F : List (List Int)} {K : List Int} (h : All F C K) (hc : C[i]? = some c) (hs : Same c e) : All F (C.set i e) K :=
  h.mono (fun d hd => by
    obtain ⟨j, hj⟩ := List.mem_iff_getElem?.1 hd
    by_cases q : j = i
    · rw [q, hc] at hj
      injection hj with hj
      subst hj
      exact ⟨e, List.mem_of_getElem? (i := i) (by rw [set_get hc, if_pos rfl]), hs.2.2⟩
    · exact ⟨d, List.mem_of_getElem? (i := j) (by rw [set_get hc, if_neg q]; exact hj), fun _ => Iff.rfl⟩) fun x hx => hx

theorem k0_app {bs : List Nat} {K : List Int} {x o : Int} (hb : ∀ b ∈ bs, b < K.length) (h : x ∈ k0 bs K) : x ∈ k0 bs (K ++ [o]) := by
  cases bs with
  | nil => exact List.mem_append_left _ h
  | cons b t =>
    show x ∈ (K ++ [o]).take b
    rw [List.take_append_of_le_length (Nat.le_of_lt (hb b (by simp)))]
    exact h

/-- The clause stays with a: its other watched literal holds. -/
theorem CJ.keep (h : CJ n G C Wt K Rz bs Kd d a kept (i :: rest)) (hc : C[i]? = some c) (hs : Same c e) (hd0 : e[0]? = some o) (hd1 : e[1]? = some a) (hcw : ∀ b, (c[0]? = some b ∨ c[1]? = some b) ↔ (b = a ∨ b = o)) (hao : a ≠ o) (ho : o ∈ K) : CJ n G (C.set i e) Wt K Rz bs Kd d a (kept ++ [i]) rest := by
  have key := fun (K0 : List Int) (hb : PrB C K0) (hk : ∀ x ∈ K0, x ∈ K) => (h.il hb hk).keep hc hs hd0 hd1 hcw hao (K' := K) (fun x hx => hx) ho h.cons h.nod h.kok fun x hx => .asm (mem_allL.2 (h.kok x hx))
  have h0 := key [] (prb_nil C) fun x hx => by simp at hx
  exact ⟨⟨h0.wi, fun b hb => (key _ (h.bp b hb) fun x hx => List.mem_of_mem_take hx).bp, h.bl, h.inc, h.rl, rs_set h.rs hc hs, h.lv0, h.cons, h.nod, h.kok, h0.sub, all_set h.al hc hs⟩, h0.pr, h.hk, h.pre, h.bd⟩

/-- The clause goes over to z. -/
theorem CJ.move (h : CJ n G C Wt K Rz bs Kd d a kept (i :: rest)) (hc : C[i]? = some c) (hs : Same c e) (hd0 : e[0]? = some o) (hd1 : e[1]? = some z) (hcw : ∀ b, (c[0]? = some b ∨ c[1]? = some b) ↔ (b = a ∨ b = o)) (hao : a ≠ o) (haz : a ≠ z) (hzo : z ≠ o) (hzK : -z ∉ K)
    (hz : Wt' z = Wt z ++ [i]) (hw : ∀ b, b ≠ z → Wt' b = Wt b) : CJ n G (C.set i e) Wt' K Rz bs Kd d a kept rest := by
  have key := fun (K0 : List Int) (hb : PrB C K0) (hk : ∀ x ∈ K0, x ∈ K) => (h.il hb hk).move (Wt' := Wt') hc hs hd0 hd1 hcw hao haz hzo hzK hz hw
  have h0 := key [] (prb_nil C) fun x hx => by simp at hx
  exact ⟨⟨h0.wi, fun b hb => (key _ (h.bp b hb) fun x hx => List.mem_of_mem_take hx).bp, h.bl, h.inc, h.rl, rs_set h.rs hc hs, h.lv0, h.cons, h.nod, h.kok, h0.sub, all_set h.al hc hs⟩, h0.pr, h.hk, h.pre, h.bd⟩

/-- The clause makes its other watched literal hold. -/
theorem CJ.set (h : CJ n G C Wt K Rz bs Kd d a kept (i :: rest)) (hc : C[i]? = some c) (hs : Same c e) (hd0 : e[0]? = some o) (hd1 : e[1]? = some a) (hcw : ∀ b, (c[0]? = some b ∨ c[1]? = some b) ↔ (b = a ∨ b = o)) (hao : a ≠ o) (ho : o ∉ K ∧ -o ∉ K) (hf : ∀ x ∈ c, x ≠ o → -x ∈ K) : CJ n G (C.set i e) Wt (K ++ [o]) (Rz ++ [(i : Int)]) bs Kd d a (kept ++ [i]) rest := by
  have hcC := List.mem_of_getElem? hc
  have hcm := h.wi.cls c hcC
  have hoc : o ∈ c := (hs.2.2 o).1 (List.mem_of_getElem? hd0)
  have hok := hcm.2.2.1 o hoc
  have hcons : ∀ x ∈ K ++ [o], -x ∉ K ++ [o] := fun x hx hn => by
    rcases List.mem_append.1 hx with q | q <;> rcases List.mem_append.1 hn with p | p
    · exact h.cons x q p
    · have e : -x = o := by simpa using p
      exact ho.2 (by rw [← e, Int.neg_neg]; exact q)
    · have e : x = o := by simpa using q
      exact ho.2 (by rw [← e]; exact p)
    · have e1 : x = o := by simpa using q
      have e2 : -x = o := by simpa using p
      have := hok.1
      omega
  have hnod : (K ++ [o]).Nodup := List.nodup_append.2 ⟨h.nod, by simp, fun x hx y hy => by
    have : y = o := by simpa using hy
    rintro rfl
    exact ho.1 (this ▸ hx)⟩
  have hkok : ∀ x ∈ K ++ [o], LitOk n x := fun x hx => by
    rcases List.mem_append.1 hx with q | q
    · exact h.kok x q
    · have : x = o := by simpa using q
      rw [this]; exact hok
  have key := fun (K0 : List Int) (hb : PrB C K0) (hk : ∀ x ∈ K0, x ∈ K) => (h.il hb hk).keep hc hs hd0 hd1 hcw hao (K' := K ++ [o]) (fun x hx => List.mem_append_left _ hx) (by simp) hcons hnod hkok fun x hx => .asm (mem_allL.2 (hkok x hx))
  have h0 := key [] (prb_nil C) fun x hx => by simp at hx
  have htk : ∀ b ∈ bs, (K ++ [o]).take b = K.take b := fun b hb => List.take_append_of_le_length (Nat.le_of_lt (h.bl b hb))
  have hdK : d < K.length := (List.getElem?_eq_some_iff.1 h.ka).1
  have hcw2 : (C.set i e)[i]? = some e := by rw [set_get hc, if_pos rfl]
  refine ⟨⟨h0.wi, fun b hb => by rw [htk b hb]; exact (key _ (h.bp b hb) fun x hx => List.mem_of_mem_take hx).bp, fun b hb => by have := h.bl b hb; simp; omega, h.inc, by simp [h.rl], rs_more (rs_set h.rs hc hs) h.rl o i hcw2 ((hs.2.2 o).2 hoc) fun m hm hne => hf m ((hs.2.2 m).1 hm) hne, fun j x hj hl => ?_, hcons, hnod, hkok, h0.sub, (all_set h.al hc hs).mono (fun d hd => ⟨d, hd, fun _ => Iff.rfl⟩) fun x hx => k0_app h.bl hx⟩, h0.pr, h.hk, ?_, h.bd⟩
  · by_cases q : j < K.length
    · rw [List.getElem?_append_left q] at hj
      exact h.lv0 j x hj hl
    · rw [List.getElem?_append_right (by omega)] at hj
      have hj2 := (List.getElem?_eq_some_iff.1 hj).1
      simp at hj2
      have hjk : j = K.length := by omega
      subst hjk
      simp at hj
      subst hj
      rw [lvl_full fun b hb => by have := h.bl b hb; omega] at hl
      have hb0 : bs = [] := List.length_eq_zero_iff.1 hl
      obtain ⟨f, hfG, hlf⟩ := h.sub c hcC
      refine .unit hfG ((hlf _).1 hoc) fun m hm hne => ?_
      obtain ⟨t, ht⟩ := List.mem_iff_getElem?.1 (hf m ((hlf m).2 hm) hne)
      exact h.lv0 t _ ht (by rw [hb0]; rfl)
  · obtain ⟨R, hR⟩ := h.pre
    exact ⟨R ++ [o], by rw [hR, List.append_assoc]⟩

/-- What a conflict leaves: a clause that is false, with a literal of the level at hand. -/
structure CF (n : Nat) (G C : List (List Int)) (Wt : Int → List Nat) (K Rz : List Int) (bs : List Nat) (i : Nat) : Prop extends CB n G C Wt K Rz bs where
  fls : ∃ c, C[i]? = some c ∧ (∀ x ∈ c, -x ∈ K) ∧ ∃ x ∈ c, ∃ j, K[j]? = some (-x) ∧ lvl bs j = bs.length

/-- The clause stays, and is false. -/
theorem CJ.fail (h : CJ n G C Wt K Rz bs Kd d a kept (i :: rest)) (hc : C[i]? = some c) (hs : Same c e) (hd0 : e[0]? = some o) (hd1 : e[1]? = some a) (hcw : ∀ b, (c[0]? = some b ∨ c[1]? = some b) ↔ (b = a ∨ b = o)) (hf : ∀ x ∈ c, x ≠ o → -x ∈ K) (hno : -o ∈ K) :
    CF n G (C.set i e) (effW Wt a (kept ++ i :: rest)) K Rz bs i := by
  have hcC := List.mem_of_getElem? hc
  have hcm := h.wi.cls c hcC
  obtain ⟨p, q, hp, hq⟩ := two_get hcm.1
  have hpq := pairs hcw hp hq hcm.2.1
  have hwi : WI n (C.set i e) (effW Wt a (kept ++ i :: rest)) := h.wi.perm hc hs fun b => by
    rw [hcw b, hd0, hd1]
    constructor
    · rintro (q | q)
      · injection q with q; exact .inr q.symm
      · injection q with q; exact .inl q.symm
    · rintro (q | q)
      · exact .inr (by rw [q])
      · exact .inl (by rw [q])
  have hbp : ∀ K0, PrB C K0 → PrB (C.set i e) K0 := fun K0 hb t f x y ht hx hy => by
    rw [set_get hc] at ht
    split at ht
    · rename_i e1
      subst e1
      injection ht with ht
      subst ht
      rw [hd0] at hx
      rw [hd1] at hy
      injection hx with hx
      injection hy with hy
      subst hx hy
      have := hb t c p q hc hp hq
      rcases hpq with ⟨e1, e2⟩ | ⟨e1, e2⟩
      · subst e1 e2; exact ⟨this.2, this.1⟩
      · subst e1 e2; exact this
    · exact hb t f x y ht hx hy
  have hae : a ∈ e := List.mem_of_getElem? hd1
  refine ⟨⟨hwi, fun b hb => hbp _ (h.bp b hb), h.bl, h.inc, h.rl, rs_set h.rs hc hs, h.lv0, h.cons, h.nod, h.kok, fun f he => ?_, all_set h.al hc hs⟩, e, by rw [set_get hc, if_pos rfl], fun x hx => ?_, a, hae, d, h.ka, lvl_full h.bd⟩
  · rcases List.mem_or_eq_of_mem_set he with q | q
    · exact h.sub f q
    · obtain ⟨g, hg, hl⟩ := h.sub c hcC
      rw [q]
      exact ⟨g, hg, fun l => (hs.2.2 l).trans (hl l)⟩
  · by_cases q : x = o
    · rw [q]; exact hno
    · exact hf x ((hs.2.2 x).1 hx) q

theorem CD.ri (h : CD n G C Wt K Rz bs d) : RI n G (allL n) C Wt K [] d :=
  ⟨h.wi, h.pr, prb_nil C, fun x hx => by simp at hx, h.cons, h.nod, h.kok, fun x hx => .asm (mem_allL.2 (h.kok x hx)), h.sub, h.dl⟩

theorem CD.enter (h : CD n G C Wt K Rz bs d) (hk : K[d]? = some (-a)) : CJ n G C Wt K Rz bs K d a [] (Wt a) := by
  have h0 := h.ri.enter hk
  exact ⟨⟨h0.wi, h.bp, h.bl, h.inc, h.rl, h.rs, h.lv0, h.cons, h.nod, h.kok, h.sub, h.al⟩, h0.pr, hk, ⟨[], by simp⟩, h.bd⟩

theorem CJ.leave (h : CJ n G C Wt K Rz bs Kd d a kept []) : CD n G C (effW Wt a kept) K Rz bs (d + 1) := by
  have h0 := h.il0.leave h.hk h.pre
  exact ⟨⟨h0.wi, h.bp, h.bl, h.inc, h.rl, h.rs, h.lv0, h.cons, h.nod, h.kok, h.sub, h.al⟩, h0.pr, h0.dl, fun b hb => by have := h.bd b hb; omega⟩

/-- A decision. -/
theorem CD.decide (h : CD n G C Wt K Rz bs K.length) {o : Int} (h0 : o ∉ K) (hn : -o ∉ K) (hok : LitOk n o) (r : Int) : CD n G C Wt (K ++ [o]) (Rz ++ [r]) (bs ++ [K.length]) K.length := by
  have htk : ∀ b, b ≤ K.length → (K ++ [o]).take b = K.take b := fun b hb => List.take_append_of_le_length hb
  have hpb : PrB C K := fun t c x y ht hx hy => by
    have h1 := h.pr t c x y ht hx hy
    rw [List.take_of_length_le (Nat.le_refl _)] at h1
    exact ⟨fun q => h1.1 (.inl q), fun q => h1.2 (.inl q)⟩
  refine ⟨⟨h.wi, fun b hb => ?_, fun b hb => ?_, ?_, by simp [h.rl], fun i a hi hib hl => ?_, fun i a hi hl => ?_, fun x hx hm => ?_, ?_, fun x hx => ?_, h.sub, ?_⟩, fun t c x y ht hx hy => ?_, by simp, fun b hb => ?_⟩
  · rcases List.mem_append.1 hb with q | q
    · rw [htk b (Nat.le_of_lt (h.bl b q))]; exact h.bp b q
    · rw [List.mem_singleton.1 q, htk _ (Nat.le_refl _), List.take_of_length_le (Nat.le_refl _)]; exact hpb
  · rcases List.mem_append.1 hb with q | q
    · have := h.bl b q; simp; omega
    · rw [List.mem_singleton.1 q]; simp
  · rw [List.pairwise_append]
    exact ⟨h.inc, by simp, fun b hb c hc => by rw [List.mem_singleton.1 hc]; exact h.bl b hb⟩
  · by_cases q : i < K.length
    · rw [List.getElem?_append_left q] at hi
      rw [lvl_app, lvl_none (bs := [K.length]) (fun b hb => by rw [List.mem_singleton.1 hb]; exact q)] at hl
      obtain ⟨r', d, h1, h2, h3, h4⟩ := h.rs i a hi (fun m => hib (List.mem_append_left _ m)) (by omega)
      refine ⟨r', d, by rw [List.getElem?_append_left (by have := h.rl; omega)]; exact h1, h2, h3, fun m hm hne => ?_⟩
      obtain ⟨t, ht, hk⟩ := h4 m hm hne
      exact ⟨t, ht, by rw [List.getElem?_append_left (by omega)]; exact hk⟩
    · have hil := (List.getElem?_eq_some_iff.1 hi).1
      simp at hil
      exact absurd (by simp; omega) hib
  · by_cases q : i < K.length
    · rw [List.getElem?_append_left q] at hi
      rw [lvl_app] at hl
      exact h.lv0 i a hi (by omega)
    · rw [lvl_app] at hl
      have : lvl [K.length] i = 1 := lvl_full fun b hb => by rw [List.mem_singleton.1 hb]; omega
      omega
  · rcases List.mem_append.1 hx with q | q <;> rcases List.mem_append.1 hm with p | p
    · exact h.cons x q p
    · have e : -x = o := by simpa using p
      exact hn (by rw [← e, Int.neg_neg]; exact q)
    · have e : x = o := by simpa using q
      exact hn (by rw [← e]; exact p)
    · have e1 : x = o := by simpa using q
      have e2 : -x = o := by simpa using p
      have := hok.1
      omega
  · exact List.nodup_append.2 ⟨h.nod, by simp, fun x hx y hy => by
      have : y = o := by simpa using hy
      rintro rfl
      exact h0 (this ▸ hx)⟩
  · rcases List.mem_append.1 hx with q | q
    · exact h.kok x q
    · have : x = o := by simpa using q
      rw [this]; exact hok
  · refine h.al.mono (fun d hd => ⟨d, hd, fun _ => Iff.rfl⟩) fun x hx => ?_
    cases bs with
    | nil =>
      show x ∈ (K ++ [o]).take K.length
      rw [htk _ (Nat.le_refl _), List.take_of_length_le (Nat.le_refl _)]; exact hx
    | cons b t =>
      show x ∈ (K ++ [o]).take b
      rw [htk b (Nat.le_of_lt (h.bl b (by simp)))]; exact hx
  · rw [htk _ (Nat.le_refl _)]
    have h1 := h.pr t c x y ht hx hy
    exact ⟨fun q => List.mem_append_left _ (h1.1 q), fun q => List.mem_append_left _ (h1.2 q)⟩
  · rcases List.mem_append.1 hb with q | q
    · exact Nat.le_of_lt (h.bl b q)
    · rw [List.mem_singleton.1 q]; exact Nat.le_refl _

end

end Go.Proofs.Ytfofabbnbmieoaa.Ord

/- Plain facts about the solver's learn: the clause that follows from a conflict. -/
namespace Go.Proofs.Ytfofabbnbmieoaa.Ord

/-- A variable of one of the places S, or of one of the literals O. -/
def SeenP (K : List Int) (S : List Nat) (O : List Int) (v : Nat) : Prop := (∃ j ∈ S, ∃ p, K[j]? = some p ∧ p.natAbs = v) ∨ ∃ o ∈ O, o.natAbs = v

/-- Between two clauses: if the literals at the places S hold and those of O do not, all is bad. M: the places still to come are below it. -/
structure LI (G : List (List Int)) (K : List Int) (bs : List Nat) (M : Nat) (S : List Nat) (O : List Int) (X : List Int → Prop) : Prop where
  core : ∀ A, (∀ j ∈ S, ∀ p, K[j]? = some p → Der G A p) → (∀ o ∈ O, Der G A (-o)) → X A → Bad G A
  sp : ∀ j ∈ S, j < M ∧ lvl bs j = bs.length
  snd : S.Nodup
  ol : ∀ o ∈ O, ∃ j, K[j]? = some (-o) ∧ 0 < lvl bs j ∧ lvl bs j < bs.length
  ond : O.Nodup

section
variable {n : Nat} {G C : List (List Int)} {Wt : Int → List Nat} {K Rz : List Int} {bs : List Nat} {i m : Nat} {c : List Int} {S : List Nat} {O : List Int} {M : Nat} {X Y : List Int → Prop} {sk : Int}

/-- The literals of c from m on, but for skip, do not hold. -/
def Rest (G : List (List Int)) (c : List Int) (skip : Int) (m : Nat) (A : List Int) : Prop := ∀ l ∈ c.drop m, l ≠ skip → Der G A (-l)

/-- The clause that is false, at first. -/
theorem CF.start (h : CF n G C Wt K Rz bs i) (hc : C[i]? = some c) : LI G K bs K.length [] [] (Rest G c 0 0) ∧ (∀ l ∈ c, l ≠ 0 → ∃ j, j < K.length ∧ K[j]? = some (-l)) := by
  obtain ⟨c', hc', hf, -⟩ := h.fls
  rw [hc] at hc'
  injection hc' with hc'
  subst hc'
  have hcC := List.mem_of_getElem? hc
  obtain ⟨f, hfG, hl⟩ := h.sub c hcC
  have hcm := h.wi.cls c hcC
  refine ⟨⟨fun A _ _ hX => .inr ⟨f, hfG, fun l hlf => hX l (by rw [List.drop_zero]; exact (hl l).2 hlf) (hcm.2.2.1 l ((hl l).2 hlf)).1⟩, nofun, List.nodup_nil, nofun, List.nodup_nil⟩, fun l hlc _ => ?_⟩
  obtain ⟨j, hj⟩ := List.mem_iff_getElem?.1 (hf l hlc)
  exact ⟨j, (List.getElem?_eq_some_iff.1 hj).1, hj⟩

/-- A literal that is left out: it is the one that follows, or of level 0, or it was met before. -/
theorem LI.skip (h : LI G K bs M S O (Rest G c sk m)) (hcons : ∀ x ∈ K, -x ∉ K) (hlv : ∀ (i : Nat) (a : Int), K[i]? = some a → lvl bs i = 0 → Der G [] a) {l : Int} (hl : c[m]? = some l) (hlk : l ≠ sk → ∃ j, K[j]? = some (-l) ∧ (SeenP K S O l.natAbs ∨ lvl bs j = 0)) : LI G K bs M S O (Rest G c sk (m + 1)) := by
  refine ⟨fun A h1 h2 h3 => h.core A h1 h2 fun x hx hne => ?_, h.sp, h.snd, h.ol, h.ond⟩
  obtain ⟨hml, hme⟩ := List.getElem?_eq_some_iff.1 hl
  rw [List.drop_eq_getElem_cons hml, hme] at hx
  rcases List.mem_cons.1 hx with q | q
  · subst q
    obtain ⟨j, hj, hq⟩ := hlk hne
    rcases hq with hq | hq
    · rcases hq with ⟨t, ht, p, hp, hpv⟩ | ⟨o, ho, hov⟩
      · have : p = -x := by
          have hpm := List.mem_of_getElem? hp
          have hjm := List.mem_of_getElem? hj
          by_cases e : p = -x
          · exact e
          · have e2 : p = x := by omega
            exact absurd hjm (hcons p hpm ∘ fun m => by rw [e2]; exact m)
        rw [← this]
        exact h1 t ht p hp
      · obtain ⟨t, ht, -⟩ := h.ol o ho
        have : o = x := by
          have hom := List.mem_of_getElem? ht
          have hjm := List.mem_of_getElem? hj
          by_cases e : o = x
          · exact e
          · have e2 : o = -x := by omega
            exact absurd hom (hcons _ hjm ∘ fun m => by rw [e2] at m; exact m)
        rw [← this]
        exact h2 o ho
    · exact der_mono (sub_of_subset fun _ hd => hd) (fun a ha => by simp at ha) (hlv j _ hj hq)
  · exact h3 x q hne

/-- A literal of the level at hand. -/
theorem LI.open (h : LI G K bs M S O (Rest G c sk m)) {l : Int} (hl : c[m]? = some l) {j : Nat} (hj : K[j]? = some (-l)) (hns : ¬ SeenP K S O l.natAbs) (hjM : j < M) (hlv : lvl bs j = bs.length) : LI G K bs M (S ++ [j]) O (Rest G c sk (m + 1)) := by
  obtain ⟨hml, hme⟩ := List.getElem?_eq_some_iff.1 hl
  refine ⟨fun A h1 h2 h3 => h.core A (fun t ht => h1 t (List.mem_append_left _ ht)) h2 fun x hx hne => ?_, fun t ht => ?_, List.nodup_append.2 ⟨h.snd, by simp, fun x hx y hy => ?_⟩, h.ol, h.ond⟩
  · rw [List.drop_eq_getElem_cons hml, hme] at hx
    rcases List.mem_cons.1 hx with q | q
    · subst q
      exact h1 j (by simp) _ hj
    · exact h3 x q hne
  · rcases List.mem_append.1 ht with q | q
    · exact h.sp t q
    · rw [List.mem_singleton.1 q]; exact ⟨hjM, hlv⟩
  · have : y = j := by simpa using hy
    rintro rfl
    exact hns (.inl ⟨x, hx, -l, by rw [this]; exact hj, by simp⟩)

/-- A literal of a level below. -/
theorem LI.out (h : LI G K bs M S O (Rest G c sk m)) {l : Int} (hl : c[m]? = some l) {j : Nat} (hj : K[j]? = some (-l)) (hns : ¬ SeenP K S O l.natAbs) (h0 : 0 < lvl bs j) (hlv : lvl bs j < bs.length) : LI G K bs M S (O ++ [l]) (Rest G c sk (m + 1)) := by
  obtain ⟨hml, hme⟩ := List.getElem?_eq_some_iff.1 hl
  refine ⟨fun A h1 h2 h3 => h.core A h1 (fun t ht => h2 t (List.mem_append_left _ ht)) fun x hx hne => ?_, h.sp, h.snd, fun o ho => ?_, List.nodup_append.2 ⟨h.ond, by simp, fun x hx y hy => ?_⟩⟩
  · rw [List.drop_eq_getElem_cons hml, hme] at hx
    rcases List.mem_cons.1 hx with q | q
    · subst q
      exact h2 x (by simp)
    · exact h3 x q hne
  · rcases List.mem_append.1 ho with q | q
    · exact h.ol o q
    · rw [List.mem_singleton.1 q]; exact ⟨j, hj, h0, hlv⟩
  · have : y = l := by simpa using hy
    rintro rfl
    exact hns (.inr ⟨x, hx, by rw [this]⟩)

/-- The clause is done. -/
theorem LI.done (h : LI G K bs M S O (Rest G c sk m)) (hm : c.length ≤ m) : LI G K bs M S O (fun _ => True) :=
  ⟨fun A h1 h2 _ => h.core A h1 h2 (fun x hx => by rw [List.drop_eq_nil_of_le hm] at hx; cases hx), h.sp, h.snd, h.ol, h.ond⟩

/-- The last of the places is taken out: it follows from its clause. -/
theorem LI.pop (h : LI G K bs M S O (fun _ => True)) {j : Nat} (hj : j ∈ S) (hmax : ∀ t ∈ S, t ≤ j) {p : Int} (hp : K[j]? = some p) {f c : List Int} (hf : f ∈ G) (hl : ∀ l, l ∈ c ↔ l ∈ f) (hpc : p ∈ c) : LI G K bs j (S.erase j) O (Rest G c p 0) := by
  refine ⟨fun A h1 h2 h3 => h.core A (fun t ht q hq => ?_) h2 trivial, fun t ht => ?_, h.snd.erase j, h.ol, h.ond⟩
  · by_cases e : t = j
    · subst e
      rw [hp] at hq
      injection hq with hq
      rw [← hq]
      exact .unit hf ((hl p).1 hpc) fun m hm hne => h3 m (by rw [List.drop_zero]; exact (hl m).2 hm) hne
    · exact h1 t ((List.mem_erase_of_ne e).2 ht) q hq
  · have h5 := List.mem_of_mem_erase ht
    have h6 := hmax t h5
    have h7 : t ≠ j := fun e => by
      rw [e] at ht
      exact (h.snd.not_mem_erase) ht
    exact ⟨by omega, (h.sp t h5).2⟩

end

/-- What was learned: p is the literal at the place j, O are literals of lower levels. -/
structure LD (n : Nat) (G : List (List Int)) (K : List Int) (bs : List Nat) (j : Nat) (p : Int) (O : List Int) : Prop where
  bad : Bad G (p :: O.map fun o => -o)
  pj : K[j]? = some p
  pl : lvl bs j = bs.length
  ol : ∀ o ∈ O, ∃ j, K[j]? = some (-o) ∧ 0 < lvl bs j ∧ lvl bs j < bs.length
  ond : O.Nodup

theorem LI.learned {n : Nat} {G : List (List Int)} {K : List Int} {bs : List Nat} {M : Nat} {S : List Nat} {O : List Int} (h : LI G K bs M S O (fun _ => True)) {j : Nat} (hS : ∀ t ∈ S, t = j) (hj : j ∈ S) {p : Int} (hp : K[j]? = some p) : LD n G K bs j p O :=
  ⟨h.core _ (fun t ht q hq => by
    rw [hS t ht, hp] at hq
    injection hq with hq
    rw [← hq]
    exact .asm (by simp)) (fun o ho => .asm (by
      refine List.mem_cons_of_mem _ (List.mem_map.2 ⟨o, ho, rfl⟩))) trivial, hp, (h.sp j hj).2, h.ol, h.ond⟩

section
variable {n : Nat} {G C : List (List Int)} {Wt Wt' : Int → List Nat} {K Rz : List Int} {bs : List Nat} {j : Nat} {p : Int} {O D : List Int} {l b : Nat}

/-- The clause that was learned is none of those that were there. -/
theorem LD.new (hd : LD n G K bs j p O) (h : CB n G C Wt K Rz bs) (hb : 0 < bs.length) {f : List Int} (hf : f ∈ G) (hs : ∀ x, x ∈ f ↔ x = -p ∨ x ∈ O) : False := by
  have hfk : ∀ x ∈ f, -x ∈ K := fun x hx => by
    rcases (hs x).1 hx with q | q
    · rw [q, Int.neg_neg]; exact List.mem_of_getElem? hd.pj
    · obtain ⟨t, ht, -⟩ := hd.ol x q
      exact List.mem_of_getElem? ht
  rcases h.al f hf with ⟨x, hx, hnx⟩ | ⟨d, hdC, hl⟩ | ⟨x, hx, hk⟩
  · have h1 := hfk x hx
    have h2 := hfk (-x) hnx
    rw [Int.neg_neg] at h2
    exact h.cons x h2 h1
  · obtain ⟨t, ht⟩ := List.mem_iff_getElem?.1 hdC
    have hcm := h.wi.cls d hdC
    obtain ⟨x, y, hx, hy⟩ := two_get hcm.1
    have hxd := List.mem_of_getElem? hx
    have hyd := List.mem_of_getElem? hy
    obtain ⟨bl, hbl⟩ : ∃ bl, bs[bs.length - 1]? = some bl := ⟨_, List.getElem?_eq_getElem (by omega)⟩
    have hpb := h.bp bl (List.mem_of_getElem? hbl) t d x y ht hx hy
    have hin : ∀ z ∈ O, -z ∈ K.take bl := fun z hz => by
      obtain ⟨q, hq, -, h2⟩ := hd.ol z hz
      have := (lvl_lt_iff h.inc hbl q).1 (by omega)
      exact List.mem_of_getElem? (i := q) (by rw [List.getElem?_take_of_lt this]; exact hq)
    have hout : ∀ z ∈ d, z ∉ K.take bl := fun z hz hm => by
      have := hfk z ((hl z).1 hz)
      exact h.cons z (List.mem_of_mem_take hm) this
    rcases (hs x).1 ((hl x).1 hxd) with q1 | q1
    · rcases (hs y).1 ((hl y).1 hyd) with q2 | q2
      · have := nodup_get hcm.2.1 hx (by rw [q1, ← q2]; exact hy)
        omega
      · exact hout x hxd (hpb.2 (hin y q2))
    · exact hout y hyd (hpb.1 (hin x q1))
  · exact h.cons x (k0_sub hk) (hfk x hx)

end

end Go.Proofs.Ytfofabbnbmieoaa.Ord

/- Plain facts about the solver's step back, and about the clause that it keeps. -/
namespace Go.Proofs.Ytfofabbnbmieoaa.Ord

theorem inc_take {bs : List Nat} (h : bs.Pairwise (· < ·)) {l b : Nat} (hl : bs[l]? = some b) : ∀ c ∈ bs.take l, c < b := fun c hc => by
  obtain ⟨k, hk⟩ := List.mem_iff_getElem?.1 hc
  have hkl := (List.getElem?_eq_some_iff.1 hk).1
  rw [List.length_take] at hkl
  rw [List.getElem?_take_of_lt (by omega)] at hk
  obtain ⟨h1, e1⟩ := List.getElem?_eq_some_iff.1 hk
  obtain ⟨h2, e2⟩ := List.getElem?_eq_some_iff.1 hl
  rw [← e1, ← e2]
  exact List.pairwise_iff_getElem.1 h k l h1 h2 (by omega)

theorem inc_mem {bs : List Nat} (h : bs.Pairwise (· < ·)) {l b c : Nat} (hl : bs[l]? = some b) (hc : c ∈ bs) (hcb : c < b) : c ∈ bs.take l := by
  obtain ⟨k, hk⟩ := List.mem_iff_getElem?.1 hc
  obtain ⟨h1, e1⟩ := List.getElem?_eq_some_iff.1 hk
  obtain ⟨h2, e2⟩ := List.getElem?_eq_some_iff.1 hl
  have hkl : k < l := by
    rcases Nat.lt_trichotomy k l with q | q | q
    · exact q
    · subst q; omega
    · have := List.pairwise_iff_getElem.1 h l k h2 h1 q
      omega
  exact List.mem_of_getElem? (i := k) (by rw [List.getElem?_take_of_lt hkl]; exact hk)

section
variable {n : Nat} {G C : List (List Int)} {Wt Wt' : Int → List Nat} {K Rz : List Int} {bs : List Nat} {l b : Nat}

/-- A step back to the level l. -/
theorem CB.back (h : CB n G C Wt K Rz bs) (hl : bs[l]? = some b) : CD n G C Wt (K.take b) (Rz.take b) (bs.take l) b := by
  have hbm := List.mem_of_getElem? hl
  have hbK := h.bl b hbm
  have hlt := inc_take h.inc hl
  have htt : ∀ c, c ≤ b → (K.take b).take c = K.take c := fun c hc => by rw [List.take_take, Nat.min_eq_left hc]
  have hlen : (K.take b).length = b := by rw [List.length_take]; omega
  have hg : ∀ (i : Nat) (a : Int), (K.take b)[i]? = some a → i < b ∧ K[i]? = some a := fun i a hi => by
    have hib := (List.getElem?_eq_some_iff.1 hi).1
    rw [hlen] at hib
    rw [List.getElem?_take_of_lt hib] at hi
    exact ⟨hib, hi⟩
  refine ⟨⟨h.wi, fun c hc => ?_, fun c hc => by rw [hlen]; exact hlt c hc, h.inc.sublist (List.take_sublist _ _), by rw [List.length_take, List.length_take, h.rl], fun i a hi hib hlv => ?_, fun i a hi hlv => ?_, fun x hx hn => h.cons x (List.mem_of_mem_take hx) (List.mem_of_mem_take hn), h.nod.sublist (List.take_sublist _ _), fun x hx => h.kok x (List.mem_of_mem_take hx), h.sub, ?_⟩, ?_, by rw [hlen]; exact Nat.le_refl _, fun c hc => Nat.le_of_lt (hlt c hc)⟩
  · rw [htt c (Nat.le_of_lt (hlt c hc))]
    exact h.bp c (List.mem_of_mem_take hc)
  · obtain ⟨h1, h2⟩ := hg i a hi
    rw [lvl_take h.inc hl h1] at hlv
    obtain ⟨r, c, q1, q2, q3, q4⟩ := h.rs i a h2 (fun m => hib (inc_mem h.inc hl m h1)) hlv
    refine ⟨r, c, by rw [List.getElem?_take_of_lt h1]; exact q1, q2, q3, fun m hm hne => ?_⟩
    obtain ⟨j, hj, hk⟩ := q4 m hm hne
    exact ⟨j, hj, by rw [List.getElem?_take_of_lt (by omega)]; exact hk⟩
  · obtain ⟨h1, h2⟩ := hg i a hi
    rw [lvl_take h.inc hl h1] at hlv
    exact h.lv0 i a h2 hlv
  · have : k0 (bs.take l) (K.take b) = k0 bs K := by
      cases bs with
      | nil => simp at hl
      | cons c t =>
        cases l with
        | zero =>
          simp at hl
          subst hl
          rfl
        | succ l =>
          show (K.take b).take c = K.take c
          exact htt c (Nat.le_of_lt (hlt c (by simp)))
    rw [this]
    exact h.al
  · intro t c x y ht hx hy
    have h0 := h.bp b hbm t c x y ht hx hy
    have hcm := h.wi.cls c (List.mem_of_getElem? ht)
    have hx0 := (hcm.2.2.1 x (List.mem_of_getElem? hx)).1
    have hy0 := (hcm.2.2.1 y (List.mem_of_getElem? hy)).1
    rw [htt b (Nat.le_refl _)]
    exact ⟨fun q => h0.1 (q.elim id fun q => absurd q.1 hx0), fun q => h0.2 (q.elim id fun q => absurd q.1 hy0)⟩

/-- A new clause is watched. -/
theorem WI.push (h : WI n C Wt) {l : List Int} {x0 x1 : Int} (hl2 : 2 ≤ l.length) (hnd : l.Nodup) (hok : ∀ x ∈ l, LitOk n x) (hop : ∀ x ∈ l, -x ∉ l) (h0 : l[0]? = some x0) (h1 : l[1]? = some x1)
    (hw : ∀ b, Wt' b = if b = x0 ∨ b = x1 then Wt b ++ [C.length] else Wt b) : WI n (C ++ [l]) Wt' := by
  refine ⟨fun d hd => ?_, fun t d b ht => ?_, fun b t ht => ?_⟩
  · rcases List.mem_append.1 hd with q | q
    · exact h.cls d q
    · rw [List.mem_singleton.1 q]; exact ⟨hl2, hnd, hok, hop⟩
  · rw [hw b]
    by_cases q1 : t < C.length
    · rw [List.getElem?_append_left q1] at ht
      have h3 := h.cnt t d b ht
      split
      · rw [List.count_append, h3]
        have : ([C.length] : List Nat).count t = 0 := by rw [List.count_singleton]; simp; omega
        omega
      · exact h3
    · rw [List.getElem?_append_right (by omega)] at ht
      have h2 := (List.getElem?_eq_some_iff.1 ht).1
      simp at h2
      have h3 : t = C.length := by omega
      subst h3
      simp at ht
      subst ht
      have h3 : (Wt b).count C.length = 0 := List.count_eq_zero.2 fun q => by have := h.lt b _ q; omega
      have h4 : (l[0]? = some b ∨ l[1]? = some b) ↔ (b = x0 ∨ b = x1) := by
        rw [h0, h1]
        constructor
        · rintro (q | q)
          · injection q with q; exact .inl q.symm
          · injection q with q; exact .inr q.symm
        · rintro (q | q)
          · exact .inl (by rw [q])
          · exact .inr (by rw [q])
      by_cases q : b = x0 ∨ b = x1
      · rw [if_pos q, if_pos (h4.2 q), List.count_append, h3]
        simp
      · rw [if_neg q, if_neg (fun p => q (h4.1 p)), h3]
  · rw [hw b] at ht
    rw [List.length_append]
    split at ht
    · rcases List.mem_append.1 ht with q | q
      · have := h.lt b t q; omega
      · rw [List.mem_singleton.1 q]; simp
    · have := h.lt b t ht; omega

theorem cons_app {K : List Int} {o : Int} (h : ∀ x ∈ K, -x ∉ K) (hn : -o ∉ K) (h0 : o ≠ 0) : ∀ x ∈ K ++ [o], -x ∉ K ++ [o] := fun x hx hm => by
  rcases List.mem_append.1 hx with q | q <;> rcases List.mem_append.1 hm with p | p
  · exact h x q p
  · have e : -x = o := by simpa using p
    exact hn (by rw [← e, Int.neg_neg]; exact q)
  · have e : x = o := by simpa using q
    exact hn (by rw [← e]; exact p)
  · have e1 : x = o := by simpa using q
    have e2 : -x = o := by simpa using p
    omega

theorem nodup_app {K : List Int} {o : Int} (h : K.Nodup) (h0 : o ∉ K) : (K ++ [o]).Nodup := List.nodup_append.2 ⟨h, by simp, fun x hx y hy => by
  have : y = o := by simpa using hy
  rintro rfl
  exact h0 (this ▸ hx)⟩

theorem kok_app {K : List Int} {o : Int} (h : ∀ x ∈ K, LitOk n x) (h0 : LitOk n o) : ∀ x ∈ K ++ [o], LitOk n x := fun x hx => by
  rcases List.mem_append.1 hx with q | q
  · exact h x q
  · have : x = o := by simpa using q
    rw [this]; exact h0

/-- A clause of more literals is kept, and its first one holds. -/
theorem CD.keepC (h : CD n G C Wt K Rz bs K.length) {D e : List Int} {u y : Int} (hl2 : 2 ≤ e.length) (hnd : e.Nodup) (hok : ∀ x ∈ e, LitOk n x) (hop : ∀ x ∈ e, -x ∉ e) (hD : ∀ x, x ∈ e ↔ x ∈ D) (h0 : e[0]? = some u) (h1 : e[1]? = some y)
    (hw : ∀ b, Wt' b = if b = u ∨ b = y then Wt b ++ [C.length] else Wt b) (hu : u ∉ K) (hnu : -u ∉ K) (hf : ∀ x ∈ e, x ≠ u → -x ∈ K) (hy : ∀ b ∈ bs, -y ∉ K.take b) : CD n (G ++ [D]) (C ++ [e]) Wt' (K ++ [u]) (Rz ++ [(C.length : Int)]) bs K.length := by
  have hue := List.mem_of_getElem? h0
  have hye := List.mem_of_getElem? h1
  have huk := hok u hue
  have htk : ∀ b, b ≤ K.length → (K ++ [u]).take b = K.take b := fun b hb => List.take_append_of_le_length hb
  have hget : ∀ (t : Nat) (d : List Int), (C ++ [e])[t]? = some d → (t < C.length ∧ C[t]? = some d) ∨ (t = C.length ∧ d = e) := fun t d ht => by
    by_cases q : t < C.length
    · rw [List.getElem?_append_left q] at ht; exact .inl ⟨q, ht⟩
    · rw [List.getElem?_append_right (by omega)] at ht
      have h2 := (List.getElem?_eq_some_iff.1 ht).1
      simp at h2
      have h3 : t = C.length := by omega
      subst h3
      simp at ht
      exact .inr ⟨rfl, ht.symm⟩
  have hx0 : ∀ {d : List Int} {x : Int}, d ∈ C → x ∈ d → x ≠ 0 := fun hd hx => ((h.wi.cls _ hd).2.2.1 _ hx).1
  have hy0 := (hok y hye).1
  refine ⟨⟨h.wi.push hl2 hnd hok hop h0 h1 hw, fun b hb t d x z ht hx hz => ?_, fun b hb => by have := h.bl b hb; simp; omega, h.inc, by simp [h.rl], ?_, fun i a hi hlv => ?_, cons_app h.cons hnu huk.1, nodup_app h.nod hu, kok_app h.kok huk, fun d hd => ?_, ?_⟩, fun t d x z ht hx hz => ?_, by simp, h.bd⟩
  · rw [htk b (Nat.le_of_lt (h.bl b hb))]
    rcases hget t d ht with ⟨q1, q2⟩ | ⟨q1, q2⟩
    · exact h.bp b hb t d x z q2 hx hz
    · subst q2
      rw [h0] at hx
      rw [h1] at hz
      injection hx with hx
      injection hz with hz
      subst hx hz
      exact ⟨fun q => absurd (List.mem_of_mem_take q) hnu, fun q => absurd q (hy b hb)⟩
  · have hmore : RsOk (C ++ [e]) K Rz bs := fun i a hi hib hlv => by
      obtain ⟨r, d, q1, q2, q3, q4⟩ := h.rs i a hi hib hlv
      exact ⟨r, d, q1, by rw [List.getElem?_append_left (List.getElem?_eq_some_iff.1 q2).1]; exact q2, q3, q4⟩
    exact rs_more hmore h.rl u C.length (by simp) hue hf
  · have hmo : ∀ {x : Int}, Der G [] x → Der (G ++ [D]) [] x := fun hx => der_mono (sub_of_subset fun _ hd => List.mem_append_left _ hd) (fun _ ha => ha) hx
    by_cases q : i < K.length
    · rw [List.getElem?_append_left q] at hi
      exact hmo (h.lv0 i a hi hlv)
    · rw [List.getElem?_append_right (by omega)] at hi
      have hj2 := (List.getElem?_eq_some_iff.1 hi).1
      simp at hj2
      have hik : i = K.length := by omega
      subst hik
      simp at hi
      subst hi
      rw [lvl_full h.bd] at hlv
      have hb0 : bs = [] := List.length_eq_zero_iff.1 hlv
      refine .unit (c := D) (by simp) ((hD u).1 hue) fun m hm hne => ?_
      obtain ⟨t, ht⟩ := List.mem_iff_getElem?.1 (hf m ((hD m).2 hm) hne)
      exact hmo (h.lv0 t _ ht (by rw [hb0]; rfl))
  · rcases List.mem_append.1 hd with q | q
    · obtain ⟨f, hf, hl⟩ := h.sub d q
      exact ⟨f, List.mem_append_left _ hf, hl⟩
    · rw [List.mem_singleton.1 q]; exact ⟨D, by simp, hD⟩
  · exact (h.al.mono (fun d hd => ⟨d, List.mem_append_left _ hd, fun _ => Iff.rfl⟩) fun x hx => k0_app h.bl hx).app (.inr (.inl ⟨e, by simp, hD⟩))
  · rw [htk _ (Nat.le_refl _)]
    rcases hget t d ht with ⟨q1, q2⟩ | ⟨q1, q2⟩
    · have h3 := h.pr t d x z q2 hx hz
      exact ⟨fun q => List.mem_append_left _ (h3.1 q), fun q => List.mem_append_left _ (h3.2 q)⟩
    · subst q2
      rw [h0] at hx
      rw [h1] at hz
      injection hx with hx
      injection hz with hz
      subst hx hz
      exact ⟨fun q => absurd (q.elim (fun q => List.mem_of_mem_take q) fun q => absurd q.1 huk.1) hnu, fun _ => by simp⟩

/-- A clause of one literal: it holds at level 0. -/
theorem CD.keepU (h : CD n G C Wt K Rz [] K.length) {u : Int} (hok : LitOk n u) (hu : u ∉ K) (hnu : -u ∉ K) (r : Int) {D : List Int} (hD : ∀ x, x ∈ D ↔ x = u) : CD n (G ++ [D]) C Wt (K ++ [u]) (Rz ++ [r]) [] K.length := by
  refine ⟨⟨h.wi, (fun b hb => by cases hb), (fun b hb => by cases hb), List.Pairwise.nil, by simp [h.rl], (fun i a hi hib hlv => by cases hlv), fun i a hi hlv => ?_, cons_app h.cons hnu hok.1, nodup_app h.nod hu, kok_app h.kok hok, fun d hd => ?_, ?_⟩, fun t d x z ht hx hz => ?_, by simp, (fun b hb => by cases hb)⟩
  · by_cases q : i < K.length
    · rw [List.getElem?_append_left q] at hi
      exact der_mono (sub_of_subset fun _ hd => List.mem_append_left _ hd) (fun _ ha => ha) (h.lv0 i a hi hlv)
    · rw [List.getElem?_append_right (by omega)] at hi
      have hj2 := (List.getElem?_eq_some_iff.1 hi).1
      simp at hj2
      have hik : i = K.length := by omega
      subst hik
      simp at hi
      subst hi
      exact .unit (c := D) (by simp) ((hD u).2 rfl) fun m hm hne => absurd ((hD m).1 hm) hne
  · obtain ⟨f, hf, hl⟩ := h.sub d hd
    exact ⟨f, List.mem_append_left _ hf, hl⟩
  · exact (h.al.mono (fun d hd => ⟨d, hd, fun _ => Iff.rfl⟩) fun x hx => List.mem_append_left _ hx).app (.inr (.inr ⟨u, (hD u).2 rfl, by simp [k0]⟩))
  · rw [List.take_append_of_le_length (Nat.le_refl _)]
    have h3 := h.pr t d x z ht hx hz
    exact ⟨fun q => List.mem_append_left _ (h3.1 q), fun q => List.mem_append_left _ (h3.2 q)⟩

end

/-! ### A number for each clause -/

/-- A number for a clause's literals. -/
def codeC : Nat → List Int → Nat
  | 0, _ => 0
  | k + 1, D => 3 * codeC k D + (if ((k : Int) + 1) ∈ D then 1 else if -((k : Int) + 1) ∈ D then 2 else 0)

theorem codeC_lt (n : Nat) (D : List Int) : codeC n D < 3 ^ n := by
  induction n with
  | zero => simp [codeC]
  | succ n ih =>
    simp only [codeC, Nat.pow_succ]
    split
    · omega
    · split <;> omega

theorem codeC_eq {D E : List Int} (hD : ∀ x ∈ D, -x ∉ D) (hE : ∀ x ∈ E, -x ∉ E) : ∀ {n : Nat}, codeC n D = codeC n E → ∀ x, LitOk n x → (x ∈ D ↔ x ∈ E)
  | 0, _, x, hx => by
    have := hx
    unfold LitOk at this
    omega
  | n + 1, h, x, hx => by
    simp only [codeC] at h
    have h1 : codeC n D = codeC n E ∧ (if ((n : Int) + 1) ∈ D then 1 else if -((n : Int) + 1) ∈ D then 2 else 0) = (if ((n : Int) + 1) ∈ E then 1 else if -((n : Int) + 1) ∈ E then 2 else 0) := by
      have hp : ∀ X : List Int, (if ((n : Int) + 1) ∈ X then 1 else if -((n : Int) + 1) ∈ X then 2 else 0) ≤ 2 := fun X => by
        split
        · omega
        · split <;> omega
      have h1 := hp D
      have h2 := hp E
      generalize (if ((n : Int) + 1) ∈ D then 1 else if -((n : Int) + 1) ∈ D then 2 else 0) = p at h h1 ⊢
      generalize (if ((n : Int) + 1) ∈ E then 1 else if -((n : Int) + 1) ∈ E then 2 else 0) = q at h h2 ⊢
      omega
    by_cases q : x = (n : Int) + 1
    · subst q
      have h2 := h1.2
      by_cases a : ((n : Int) + 1) ∈ D
      · by_cases b : ((n : Int) + 1) ∈ E
        · exact ⟨fun _ => b, fun _ => a⟩
        · rw [if_pos a, if_neg b] at h2
          split at h2 <;> omega
      · by_cases b : ((n : Int) + 1) ∈ E
        · rw [if_neg a, if_pos b] at h2
          split at h2 <;> omega
        · exact ⟨fun m => absurd m a, fun m => absurd m b⟩
    · by_cases q2 : x = -((n : Int) + 1)
      · subst q2
        have h2 := h1.2
        have hD2 : -((n : Int) + 1) ∈ D → ((n : Int) + 1) ∉ D := fun m k => hD _ k m
        have hE2 : -((n : Int) + 1) ∈ E → ((n : Int) + 1) ∉ E := fun m k => hE _ k m
        by_cases a : -((n : Int) + 1) ∈ D
        · by_cases b : -((n : Int) + 1) ∈ E
          · exact ⟨fun _ => b, fun _ => a⟩
          · rw [if_neg (hD2 a), if_pos a, if_neg b] at h2
            split at h2 <;> omega
        · by_cases b : -((n : Int) + 1) ∈ E
          · rw [if_neg (hE2 b), if_pos b, if_neg a] at h2
            split at h2 <;> omega
          · exact ⟨fun m => absurd m a, fun m => absurd m b⟩
      · exact codeC_eq hD hE h1.1 x (by unfold LitOk at hx ⊢; omega)

end Go.Proofs.Ytfofabbnbmieoaa.Ord
