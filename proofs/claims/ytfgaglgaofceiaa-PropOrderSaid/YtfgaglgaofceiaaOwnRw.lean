/- Rows of rows of the call's own. -/
import Derived.Test.YtfgaglgaofceiaaCnfC
namespace Go.Proofs.Ytfgaglgaofceiaa
open Go.RowKit

theorem info_ints : (Try.prog.info? 22).map (fun i => (i.zero, i.size, i.bytes)) = some (some (.slice none 0 0), 1, 24) := by kernel_rfl

/-- The slice value 'v' is a row of the call's own (from B on) of the lists 'f', each a row of the call's own. -/
def OwnRw (w : World) (B : Nat) (v : Value) (f : List (List Int)) : Prop :=
  ∃ vs, w.ownsRow B 22 1 v f.length vs ∧ ∀ (j : Nat) (c : List Int), f[j]? = some c → ∃ u, vs[j]? = some u ∧ w.ownsRow B 3 1 u c.length (ints c)

theorem fit_cell {w : World} {b : Nat} {e : TypeId} {vs : List Value} {m : Nat × Nat} (h : w.heap[b]? = some (.cells vs.toArray e m)) (j : Nat) : w.cell? ⟨b, j, none⟩ = vs[j]? := by
  rw [cell_of_row _ _ _ _ _ _ h]; simp

theorem own_below {w w' : World} {B e s n : Nat} {v : Value} {xs : List Value} (h : w.ownsRow B e s v n xs) (hb : Below w.heap.size w w') : w'.ownsRow B e s v n xs := by
  refine ⟨h.1, ?_⟩
  rcases h.2 with h0 | ⟨g, cap, cur, e1, e2, e3, e4⟩
  · exact .inl h0
  · exact .inr ⟨g, cap, cur, e1, e2, by rw [hb.block g (Array.getElem?_eq_some_iff.1 e3).1]; exact e3, e4⟩

theorem own_apart {w : World} {B B' e e' s s' n n' : Nat} {v v' : Value} {xs xs' : List Value} (h : w.ownsRow B e s v n xs) (h' : w.ownsRow B' e' s' v' n' xs') (hne : e ≠ e') : v.ownBlock = none ∨ v.ownBlock ≠ v'.ownBlock := by
  rcases h.2 with ⟨rfl, _⟩ | ⟨g, cap, cur, rfl, _, hg, _⟩
  · exact .inl rfl
  · rcases h'.2 with ⟨rfl, _⟩ | ⟨g', cap', cur', rfl, _, hg', _⟩
    · exact .inr (by simp [Value.ownBlock])
    · refine .inr fun he => ?_
      simp only [Value.ownBlock, Option.some.injEq] at he
      rw [he, hg'] at hg
      simp at hg
      exact hne hg.2.symm

/-- One element of a slice of ints of the kind k. -/
theorem SlV.intK {w : World} {a : Option Addr} {xs : List Int} {k : IntKind} (h : SlV w a (xs.map (Value.int k))) {j : Nat} (hj : j < xs.length) :
    ∃ b off x, a = some ⟨b, off, none⟩ ∧ w.cell? ⟨b, off + j, none⟩ = some (.int k x) ∧ xs[j]? = some x := by
  obtain ⟨b, off, ha, hc⟩ := h j (.int k xs[j]) (by simp [hj])
  exact ⟨b, off, xs[j], ha, hc, by simp [hj]⟩

theorem own_not {w : World} {B e s n k : Nat} {v : Value} {xs : List Value} (h : w.ownsRow B e s v n xs) (hk : k < B) : some k ≠ v.ownBlock := by
  intro he
  have := h.lt k he.symm
  omega

theorem OwnRw.below {w w' : World} {B : Nat} {v : Value} {f : List (List Int)} (h : OwnRw w B v f) (hb : Below w.heap.size w w') : OwnRw w' B v f :=
  let ⟨vs, h1, h2⟩ := h; ⟨vs, own_below h1 hb, fun j c hj => let ⟨u, e1, e2⟩ := h2 j c hj; ⟨u, e1, own_below e2 hb⟩⟩

theorem OwnRw.base {w : World} {B B' : Nat} {v : Value} {f : List (List Int)} (h : OwnRw w B v f) (hB : B' ≤ B) : OwnRw w B' v f :=
  let ⟨vs, h1, h2⟩ := h; ⟨vs, own_base h1 hB, fun j c hj => let ⟨u, e1, e2⟩ := h2 j c hj; ⟨u, e1, own_base e2 hB⟩⟩

theorem OwnRw.setBelow {w : World} {B : Nat} {v : Value} {f : List (List Int)} (h : OwnRw w B v f) {a : Addr} (ha : a.block < B) (u : Value) : OwnRw (w.setCell a u) B v f :=
  let ⟨vs, h1, h2⟩ := h; ⟨vs, ownsRow_setCell_below h1 ha u, fun j c hj => let ⟨x, e1, e2⟩ := h2 j c hj; ⟨x, e1, ownsRow_setCell_below e2 ha u⟩⟩

/-- A row appended. -/
theorem OwnRw.push {w w' : World} {B : Nat} {v v' x : Value} {f : List (List Int)} {c : List Int} {vs : List Value} (h1 : w.ownsRow B 22 1 v f.length vs)
    (h2 : ∀ (j : Nat) (c : List Int), f[j]? = some c → ∃ u, vs[j]? = some u ∧ w.ownsRow B 3 1 u c.length (ints c)) (hx : w.ownsRow B 3 1 x c.length (ints c))
    (h' : w'.ownsRow B 22 1 v' (f.length + 1) (vs ++ [x])) (hg : w.grownBy w' v.ownBlock) : OwnRw w' B v' (f ++ [c]) := by
  have hl : vs.length = f.length := by have := h1.1; omega
  refine ⟨vs ++ [x], by simpa using h', fun j d hj => ?_⟩
  rcases Nat.lt_or_ge j f.length with hlt | hge
  · rw [List.getElem?_append_left hlt] at hj
    obtain ⟨u, e1, e2⟩ := h2 j d hj
    exact ⟨u, by rw [List.getElem?_append_left (by omega)]; exact e1, e2.kept hg (own_apart e2 h1 (by decide))⟩
  · rw [List.getElem?_append_right hge] at hj
    have hj0 : j - f.length = 0 := by
      rcases Nat.eq_zero_or_pos (j - f.length) with h0 | h0
      · exact h0
      · rw [List.getElem?_eq_none (by simp; omega)] at hj; cases hj
    rw [hj0] at hj
    simp at hj
    subst hj
    exact ⟨x, by rw [List.getElem?_append_right (by omega), hl, hj0]; rfl, hx.kept hg (own_apart hx h1 (by decide))⟩

theorem OwnRw.shape {w : World} {B : Nat} {v : Value} {f : List (List Int)} (h : OwnRw w B v f) : ∃ a c, v = .slice a f.length c ∧ f.length ≤ c ∧ (a = none → c = 0) ∧ Rws w a f := by
  obtain ⟨vs, h1, h2⟩ := h
  obtain ⟨a, c, e1, e2, e3, e4⟩ := own_sl h1
  have hl : vs.length = f.length := by have := h1.1; omega
  rw [hl] at e1 e2
  refine ⟨a, c, e1, e2, e3, fun j d hj => ?_⟩
  obtain ⟨u, g1, g2⟩ := h2 j d hj
  obtain ⟨b, off, k1, k2⟩ := e4 j u g1
  exact ⟨b, off, u, k1, k2, own_sli g2⟩

end Go.Proofs.Ytfgaglgaofceiaa
