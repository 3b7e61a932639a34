/- Rows of rows, the inner ones slices into blocks of the call's own. -/
import Derived.Test.YtfgaglgaofceiaaOwnRw
namespace Go.Proofs.Ytfgaglgaofceiaa
open Go.RowKit

/-- The slice value 'v' is a row of the call's own (from B on) of the lists 'f', each a slice of ints in a block of the call's own. -/
def OwnRt (w : World) (B : Nat) (v : Value) (f : List (List Int)) : Prop :=
  ∃ vs, w.ownsRow B 22 1 v f.length vs ∧ ∀ (j : Nat) (c : List Int), f[j]? = some c → ∃ u, vs[j]? = some u ∧ OwnT 3 w B u c

theorem ownT_kept {e e' : TypeId} {w w' : World} {B B' n' s' : Nat} {v v' : Value} {xs : List Int} {xs' : List Value} (h : OwnT e w B v xs) (h' : w.ownsRow B' e' s' v' n' xs') (hne : e ≠ e') (hg : w.grownBy w' v'.ownBlock) : OwnT e w' B v xs := by
  obtain ⟨a, c, h1, h2, h3, h4⟩ := h
  refine ⟨a, c, h1, h2, h3, fun ad had => ?_⟩
  obtain ⟨g, off, cur, e1, e2, e3, e4⟩ := h4 ad had
  refine ⟨g, off, cur, e1, e2, ?_, e4⟩
  rw [hg.block g (Array.getElem?_eq_some_iff.1 e3).1 ?_]
  · exact e3
  · intro he
    rcases h'.2 with ⟨rfl, _⟩ | ⟨g', cap', cur', rfl, _, hg', _⟩
    · simp [Value.ownBlock] at he
    · simp only [Value.ownBlock, Option.some.injEq] at he
      rw [← he, e3] at hg'
      simp at hg'
      exact hne hg'.2

theorem ownT_setBelow {e : TypeId} {w : World} {B : Nat} {v : Value} {xs : List Int} (h : OwnT e w B v xs) {a : Addr} (ha : a.block < B) (u : Value) : OwnT e (w.setCell a u) B v xs := by
  obtain ⟨ad, c, h1, h2, h3, h4⟩ := h
  refine ⟨ad, c, h1, h2, h3, fun x hx => ?_⟩
  obtain ⟨g, off, cur, e1, e2, e3, e4⟩ := h4 x hx
  exact ⟨g, off, cur, e1, e2, by rw [heap_setCell_other w a g u (by omega)]; exact e3, e4⟩

theorem OwnRt.nil (w : World) (B : Nat) : OwnRt w B (.slice none 0 0) [] := ⟨[], World.ownsRow_nil _ _ _ _, by simp⟩

theorem OwnRt.below {w w' : World} {B : Nat} {v : Value} {f : List (List Int)} (h : OwnRt w B v f) (hb : Below w.heap.size w w') : OwnRt w' B v f :=
  let ⟨vs, h1, h2⟩ := h; ⟨vs, own_below h1 hb, fun j c hj => let ⟨u, e1, e2⟩ := h2 j c hj; ⟨u, e1, e2.below hb⟩⟩

theorem OwnRt.setBelow {w : World} {B : Nat} {v : Value} {f : List (List Int)} (h : OwnRt w B v f) {a : Addr} (ha : a.block < B) (u : Value) : OwnRt (w.setCell a u) B v f :=
  let ⟨vs, h1, h2⟩ := h; ⟨vs, ownsRow_setCell_below h1 ha u, fun j c hj => let ⟨x, e1, e2⟩ := h2 j c hj; ⟨x, e1, ownT_setBelow e2 ha u⟩⟩

/-- A row appended. -/
theorem OwnRt.push {w w' : World} {B : Nat} {v v' x : Value} {f : List (List Int)} {c : List Int} {vs : List Value} (h1 : w.ownsRow B 22 1 v f.length vs)
    (h2 : ∀ (j : Nat) (c : List Int), f[j]? = some c → ∃ u, vs[j]? = some u ∧ OwnT 3 w B u c) (hx : OwnT 3 w B x c)
    (h' : w'.ownsRow B 22 1 v' (f.length + 1) (vs ++ [x])) (hg : w.grownBy w' v.ownBlock) : OwnRt w' B v' (f ++ [c]) := by
  have hl : vs.length = f.length := by have := h1.1; omega
  refine ⟨vs ++ [x], by simpa using h', fun j d hj => ?_⟩
  rcases Nat.lt_or_ge j f.length with hlt | hge
  · rw [List.getElem?_append_left hlt] at hj
    obtain ⟨u, e1, e2⟩ := h2 j d hj
    exact ⟨u, by rw [List.getElem?_append_left (by omega)]; exact e1, ownT_kept e2 h1 (by decide) hg⟩
  · rw [List.getElem?_append_right hge] at hj
    have hj0 : j - f.length = 0 := by
      rcases Nat.eq_zero_or_pos (j - f.length) with h0 | h0
      · exact h0
      · rw [List.getElem?_eq_none (by simp; omega)] at hj; cases hj
    rw [hj0] at hj
    simp at hj
    subst hj
    exact ⟨x, by rw [List.getElem?_append_right (by omega), hl, hj0]; rfl, ownT_kept hx h1 (by decide) hg⟩

theorem OwnRt.shape {w : World} {B : Nat} {v : Value} {f : List (List Int)} (h : OwnRt w B v f) : ∃ a c, v = .slice a f.length c ∧ f.length ≤ c ∧ (a = none → c = 0) ∧ Rws w a f := by
  obtain ⟨vs, h1, h2⟩ := h
  obtain ⟨a, c, e1, e2, e3, e4⟩ := own_sl h1
  have hl : vs.length = f.length := by have := h1.1; omega
  rw [hl] at e1 e2
  refine ⟨a, c, e1, e2, e3, fun j d hj => ?_⟩
  obtain ⟨u, g1, g2⟩ := h2 j d hj
  obtain ⟨b, off, k1, k2⟩ := e4 j u g1
  exact ⟨b, off, u, k1, k2, g2.sli⟩

end Go.Proofs.Ytfgaglgaofceiaa
