/- The memory of GateClauses: the builder, the literals and values, the indexes and the clauses that were given. -/
import Derived.Test.YtacmfiikdbekbaaQKateK
import Derived.Test.YtacmfiikdbekbaaQKateQ
import Derived.Test.YtacmfiikdbekbaaQAppN
import Derived.Test.YtacmfiikdbekbaaQGateR

namespace Go.Proofs.Ytacmfiikdbekbaa.Ord2
open Go.RowKit Go.Conc Go.Proofs.Ytacmfiikdbekbaa.Ord

theorem GB.old {X : Nat → Prop} {w : World} {B b n : Nat} {G : List (List Int)} (h : GB X w B b n G) : Ord.GB X w B b n G :=
  let ⟨v, h1, ⟨vs, g1, g2, _⟩, h3, h4⟩ := h
  ⟨v, h1, ⟨vs, g1, fun j c hj => let ⟨u, e1, e2⟩ := g2 j c hj; ⟨u, e1, e2⟩⟩, h3.1, h4⟩

/-- What Begin leaves. -/
theorem gb_begin {w : World} {B b n m : Nat} {G : List (List Int)} {vI : Value} {xs : List Value} (h : Ord.GB (XO B vI) w B b n G) (hI : w.ownsRow B 3 1 vI m xs) : GB (XO B vI) w B b n G := by
  obtain ⟨v, h1, ⟨vs, g1, g2⟩, h3, h4⟩ := h
  refine ⟨v, h1, ⟨vs, g1, fun j c hj => let ⟨u, e1, e2⟩ := g2 j c hj; ⟨u, e1, e2⟩, fun g hg hx => ?_⟩, ⟨h3, fun hx => ?_⟩, h4⟩
  · rcases hx with hx | hx
    · have := (g1.lt g hg).1; omega
    · exact own_own g1 hI (by decide) (by rw [hg]; nofun) (hg.trans hx.symm)
  · rcases hx with hx | hx
    · omega
    · exact own_ty hI h1 (by decide) hx.symm

/-- The clauses that were given, in rows of their own. -/
def GvR (X : Nat → Prop) (w : World) (B : Nat) (vL vA vD : Value) (D : List (List Int)) : Prop :=
  ∃ us, w.ownsRow B 22 1 vD D.length us ∧ ∀ (j : Nat) (c : List Int), D[j]? = some c → ∃ u, us[j]? = some u ∧ w.ownsRow B 3 1 u c.length (ints c) ∧ ∀ g, u.ownBlock = some g → X g ∧ vL.ownBlock ≠ some g ∧ vA.ownBlock ≠ some g

structure CS (X : Nat → Prop) (w wr : World) (b bc n : Nat) (G : List (List Int)) (bx : List Value) (vL vW vA vD : Value) (L : List Int) (W : List Bool) (A : List Int) (D : List (List Int)) : Prop where
  bel : Below w.heap.size w wr
  gb : GB X wr w.heap.size b n G
  box : wr.heap[bc]? = some (.cells bx.toArray 46 (0, 0))
  lr : wr.ownsRow w.heap.size 3 1 vL L.length (ints L)
  vr : wr.ownsRow w.heap.size 4 1 vW W.length (bools W)
  ar : wr.ownsRow w.heap.size 3 1 vA A.length (ints A)
  dr : GvR X wr w.heap.size vL vA vD D
  xL : ∀ g, vL.ownBlock = some g → X g
  xA : ∀ g, vA.ownBlock = some g → X g
  xD : ∀ g, vD.ownBlock = some g → X g
  la : ∀ g, vL.ownBlock = some g → vA.ownBlock ≠ some g

section
variable {X : Nat → Prop} {w wr w' : World} {b bc n n' : Nat} {G G' : List (List Int)} {bx : List Value} {vL vW vA vD : Value} {L A : List Int} {W : List Bool} {D : List (List Int)}

/-- A call of the builder. -/
theorem CS.gk (h : CS X w wr b bc n G bx vL vW vA vD L W A D) (hk : Gk X w.heap.size wr w') (hg : GB X w' w.heap.size b n' G') : CS X w w' b bc n' G' bx vL vW vA vD L W A D := by
  have fr : ∀ {e s m : Nat} {v : Value} {xs : List Value}, wr.ownsRow w.heap.size e s v m xs → (∀ g, v.ownBlock = some g → X g) → w'.ownsRow w.heap.size e s v m xs := fun ho hx => own_frame0 ho fun g hg => hk.keptX g (hx g hg) (ho.lt g hg).2
  obtain ⟨us, d1, d2⟩ := h.dr
  exact ⟨h.bel.trans hk.below, hg, (hk.kept bc _ _ _ h.box (by decide) (by decide)).trans h.box, fr h.lr h.xL, own_gk h.vr hk (by decide) (by decide), fr h.ar h.xA, ⟨us, fr d1 h.xD, fun j c hj => let ⟨u, e1, e2, e3⟩ := d2 j c hj; ⟨u, e1, fr e2 fun g hg => (e3 g hg).1, e3⟩⟩, h.xL, h.xA, h.xD, h.la⟩

/-- What is made beside it. -/
theorem CS.new (h : CS X w wr b bc n G bx vL vW vA vD L W A D) (hb : Below wr.heap.size wr w') : CS (fun k => X k ∨ (wr.heap.size ≤ k ∧ k < w'.heap.size)) w w' b bc n G bx vL vW vA vD L W A D := by
  obtain ⟨us, d1, d2⟩ := h.dr
  exact ⟨h.bel.trans (hb.mono h.bel.size), h.gb.new hb, (hb.block bc (Array.getElem?_eq_some_iff.1 h.box).1).trans h.box, own_below h.lr hb, own_below h.vr hb, own_below h.ar hb, ⟨us, own_below d1 hb, fun j c hj => let ⟨u, e1, e2, e3⟩ := d2 j c hj; ⟨u, e1, own_below e2 hb, fun g hg => ⟨.inl (e3 g hg).1, (e3 g hg).2⟩⟩⟩, fun g hg => .inl (h.xL g hg), fun g hg => .inl (h.xA g hg), fun g hg => .inl (h.xD g hg), h.la⟩

theorem CS.grow (h : CS X w wr b bc n G bx vL vW vA vD L W A D) (hb : Below wr.heap.size wr w') : CS X w w' b bc n G bx vL vW vA vD L W A D := by
  obtain ⟨us, d1, d2⟩ := h.dr
  exact ⟨h.bel.trans (hb.mono h.bel.size), h.gb.below hb, (hb.block bc (Array.getElem?_eq_some_iff.1 h.box).1).trans h.box, own_below h.lr hb, own_below h.vr hb, own_below h.ar hb, ⟨us, own_below d1 hb, fun j c hj => let ⟨u, e1, e2, e3⟩ := d2 j c hj; ⟨u, e1, own_below e2 hb, e3⟩⟩, h.xL, h.xA, h.xD, h.la⟩

/-- An append to the indexes. -/
theorem CS.pushA (h : CS X w wr b bc n G bx vL vW vA vD L W A D) {v' : Value} {A' : List Int} {m : Nat} (ho : w'.ownsRow w.heap.size 3 1 v' m (ints A')) (hm : m = A'.length) (hg : wr.grownBy w' vA.ownBlock) (ha : v'.ownBlock = vA.ownBlock ∨ v'.ownBlock = some wr.heap.size) : CS (fun k => X k ∨ (wr.heap.size ≤ k ∧ k < w'.heap.size)) w w' b bc n G bx vL vW v' vD L W A' D := by
  obtain ⟨us, d1, d2⟩ := h.dr
  have hne : ∀ g, g < wr.heap.size → vA.ownBlock ≠ some g → v'.ownBlock ≠ some g := fun g hl hn e => by
    rcases ha with q | q
    · exact hn (q ▸ e)
    · rw [q] at e; injection e with e; omega
  have hX' : ∀ g, v'.ownBlock = some g → X g ∨ (wr.heap.size ≤ g ∧ g < w'.heap.size) := fun g hg' => by
    rcases ha with q | q
    · exact .inl (h.xA g (q ▸ hg'))
    · have h2 := (ho.lt g hg').2
      rw [q] at hg'
      injection hg' with hg'
      exact .inr ⟨by omega, h2⟩
  refine ⟨h.bel.grown hg h.bel.size (fun q hq => (h.ar.lt q hq).1), h.gb.grown h.ar h.xA hg, (hg.block bc (Array.getElem?_eq_some_iff.1 h.box).1 (own_ty h.ar h.box (by decide))).trans h.box, own_frame0 h.lr fun g hgl => hg.block g (h.lr.lt g hgl).2 (fun e => h.la g hgl e.symm), own_grownO h.vr h.ar (by decide) hg, by rw [← hm]; exact ho, ⟨us, own_grownO d1 h.ar (by decide) hg, fun j c hj => ?_⟩, fun g hg' => .inl (h.xL g hg'), hX', fun g hg' => .inl (h.xD g hg'), fun g hgl => hne g (h.lr.lt g hgl).2 (h.la g hgl)⟩
  obtain ⟨u, e1, e2, e3⟩ := d2 j c hj
  exact ⟨u, e1, own_frame0 e2 fun g hgu => hg.block g (e2.lt g hgu).2 (fun e => (e3 g hgu).2.2 e.symm), fun g hgu => ⟨.inl (e3 g hgu).1, (e3 g hgu).2.1, hne g (e2.lt g hgu).2 (e3 g hgu).2.2⟩⟩

/-- An append to the literals. -/
theorem CS.pushL (h : CS X w wr b bc n G bx vL vW vA vD L W A D) {v' : Value} {L' : List Int} {m : Nat} (ho : w'.ownsRow w.heap.size 3 1 v' m (ints L')) (hm : m = L'.length) (hg : wr.grownBy w' vL.ownBlock) (ha : v'.ownBlock = vL.ownBlock ∨ v'.ownBlock = some wr.heap.size) : CS (fun k => X k ∨ (wr.heap.size ≤ k ∧ k < w'.heap.size)) w w' b bc n G bx v' vW vA vD L' W A D := by
  obtain ⟨us, d1, d2⟩ := h.dr
  have hne : ∀ g, g < wr.heap.size → vL.ownBlock ≠ some g → v'.ownBlock ≠ some g := fun g hl hn e => by
    rcases ha with q | q
    · exact hn (q ▸ e)
    · rw [q] at e; injection e with e; omega
  have hX' : ∀ g, v'.ownBlock = some g → X g ∨ (wr.heap.size ≤ g ∧ g < w'.heap.size) := fun g hg' => by
    rcases ha with q | q
    · exact .inl (h.xL g (q ▸ hg'))
    · have h2 := (ho.lt g hg').2
      rw [q] at hg'
      injection hg' with hg'
      exact .inr ⟨by omega, h2⟩
  refine ⟨h.bel.grown hg h.bel.size (fun q hq => (h.lr.lt q hq).1), h.gb.grown h.lr h.xL hg, (hg.block bc (Array.getElem?_eq_some_iff.1 h.box).1 (own_ty h.lr h.box (by decide))).trans h.box, by rw [← hm]; exact ho, own_grownO h.vr h.lr (by decide) hg, own_frame0 h.ar fun g hgl => hg.block g (h.ar.lt g hgl).2 (fun e => h.la g e.symm hgl), ⟨us, own_grownO d1 h.lr (by decide) hg, fun j c hj => ?_⟩, hX', fun g hg' => .inl (h.xA g hg'), fun g hg' => .inl (h.xD g hg'), fun g hgl e => ?_⟩
  · obtain ⟨u, e1, e2, e3⟩ := d2 j c hj
    exact ⟨u, e1, own_frame0 e2 fun g hgu => hg.block g (e2.lt g hgu).2 (fun e => (e3 g hgu).2.1 e.symm), fun g hgu => ⟨.inl (e3 g hgu).1, hne g (e2.lt g hgu).2 (e3 g hgu).2.1, (e3 g hgu).2.2⟩⟩
  · exact hne g (h.ar.lt g e).2 (fun q => h.la g q e) hgl

/-- An append to the values. -/
theorem CS.pushW (h : CS X w wr b bc n G bx vL vW vA vD L W A D) {v' : Value} {W' : List Bool} {m : Nat} (ho : w'.ownsRow w.heap.size 4 1 v' m (bools W')) (hm : m = W'.length) (hg : wr.grownBy w' vW.ownBlock) : CS X w w' b bc n G bx vL v' vA vD L W' A D := by
  obtain ⟨us, d1, d2⟩ := h.dr
  exact ⟨h.bel.grown hg h.bel.size (fun q hq => (h.vr.lt q hq).1), h.gb.grownO h.vr (by decide) (by decide) (by decide) hg, (hg.block bc (Array.getElem?_eq_some_iff.1 h.box).1 (own_ty h.vr h.box (by decide))).trans h.box, own_grownO h.lr h.vr (by decide) hg, by rw [← hm]; exact ho, own_grownO h.ar h.vr (by decide) hg, ⟨us, own_grownO d1 h.vr (by decide) hg, fun j c hj => let ⟨u, e1, e2, e3⟩ := d2 j c hj; ⟨u, e1, own_grownO e2 h.vr (by decide) hg, e3⟩⟩, h.xL, h.xA, h.xD, h.la⟩

/-- An append to the clauses that were given. -/
theorem CS.pushD (h : CS X w wr b bc n G bx vL vW vA vD L W A D) {v' u : Value} {c : List Int} {us : List Value} {m : Nat} (hus : wr.ownsRow w.heap.size 22 1 vD D.length us) (hall : ∀ (j : Nat) (c : List Int), D[j]? = some c → ∃ u, us[j]? = some u ∧ wr.ownsRow w.heap.size 3 1 u c.length (ints c) ∧ ∀ g, u.ownBlock = some g → X g ∧ vL.ownBlock ≠ some g ∧ vA.ownBlock ≠ some g)
    (hu : wr.ownsRow w.heap.size 3 1 u c.length (ints c)) (hux : ∀ g, u.ownBlock = some g → X g ∧ vL.ownBlock ≠ some g ∧ vA.ownBlock ≠ some g) (ho : w'.ownsRow w.heap.size 22 1 v' m (us ++ [u])) (hm : m = D.length + 1) (hg : wr.grownBy w' vD.ownBlock) (ha : v'.ownBlock = vD.ownBlock ∨ v'.ownBlock = some wr.heap.size) : CS (fun k => X k ∨ (wr.heap.size ≤ k ∧ k < w'.heap.size)) w w' b bc n G bx vL vW vA v' L W A (D ++ [c]) := by
  have hul : us.length = D.length := by have := hus.1; omega
  have hX' : ∀ g, v'.ownBlock = some g → X g ∨ (wr.heap.size ≤ g ∧ g < w'.heap.size) := fun g hg' => by
    rcases ha with q | q
    · exact .inl (h.xD g (q ▸ hg'))
    · have h2 := (ho.lt g hg').2
      rw [q] at hg'
      injection hg' with hg'
      exact .inr ⟨by omega, h2⟩
  refine ⟨h.bel.grown hg h.bel.size (fun q hq => (hus.lt q hq).1), h.gb.grownR hus h.xD hg, (hg.block bc (Array.getElem?_eq_some_iff.1 h.box).1 (own_ty hus h.box (by decide))).trans h.box, own_grownO h.lr hus (by decide) hg, own_grownO h.vr hus (by decide) hg, own_grownO h.ar hus (by decide) hg, ⟨us ++ [u], by rw [List.length_append, List.length_singleton, ← hm]; exact ho, fun j d hj => ?_⟩, fun g hg' => .inl (h.xL g hg'), fun g hg' => .inl (h.xA g hg'), hX', h.la⟩
  rcases Nat.lt_or_ge j D.length with hlt | hge
  · rw [List.getElem?_append_left hlt] at hj
    obtain ⟨x, e1, e2, e3⟩ := hall j d hj
    exact ⟨x, by rw [List.getElem?_append_left (by omega)]; exact e1, own_grownO e2 hus (by decide) hg, fun g hgu => ⟨.inl (e3 g hgu).1, (e3 g hgu).2⟩⟩
  · have hjd : j = D.length := by have := (List.getElem?_eq_some_iff.1 hj).1; simp at this; omega
    subst hjd
    rw [List.getElem?_append_right (Nat.le_refl _), Nat.sub_self] at hj
    simp at hj
    subst hj
    exact ⟨u, by rw [List.getElem?_append_right (by omega), hul, Nat.sub_self]; rfl, own_grownO hu hus (by decide) hg, fun g hgu => ⟨.inl (hux g hgu).1, (hux g hgu).2⟩⟩

theorem CS.cells {v0 v1 v2 : Value} (h : CS X w wr b bc n G [v0, v1, v2] vL vW vA vD L W A D) : wr.cell? ⟨bc, 0, none⟩ = some v0 ∧ wr.cell? ⟨bc, 1, none⟩ = some v1 ∧ wr.cell? ⟨bc, 2, none⟩ = some v2 :=
  ⟨fit_cell (vs := [v0, v1, v2]) h.box 0, fit_cell (vs := [v0, v1, v2]) h.box 1, fit_cell (vs := [v0, v1, v2]) h.box 2⟩
end

end Go.Proofs.Ytacmfiikdbekbaa.Ord2
