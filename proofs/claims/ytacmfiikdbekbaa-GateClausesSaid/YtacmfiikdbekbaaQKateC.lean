/- The builder of gate: how it lies in memory, what leaves other things alone, and the contracts of New, True, Fresh and has. -/
import Derived.Test.YtacmfiikdbekbaaQ4

namespace Go.Proofs.Ytacmfiikdbekbaa.Ord2
open Go.RowKit Go.Conc Go.Proofs.Ytacmfiikdbekbaa.Ord

attribute [local go_sem ↓] Go.wp_at_zero Go.wp_at_succ

/-- A slice of ints of the call's own, from B on, in none of the blocks X. -/
def OwnTX (X : Nat → Prop) (w : World) (B : Nat) (u : Value) (c : List Int) : Prop := OwnT 3 w B u c ∧ ∀ a n k, u = .slice (some a) n k → ¬ X a.block

/-- Rows of ints of the call's own, the inner ones in none of the blocks X. -/
def OwnRtX (X : Nat → Prop) (w : World) (B : Nat) (v : Value) (f : List (List Int)) : Prop :=
  ∃ vs, w.ownsRow B 22 1 v f.length vs ∧ (∀ (j : Nat) (c : List Int), f[j]? = some c → ∃ u, vs[j]? = some u ∧ OwnTX X w B u c) ∧ ∀ g, v.ownBlock = some g → ¬ X g

/-- A builder at the block b, with n variables and the clauses G; all that it holds lies from B on, its clauses in none of the blocks X. -/
def GB (X : Nat → Prop) (w : World) (B b n : Nat) (G : List (List Int)) : Prop :=
  ∃ v, w.heap[b]? = some (.cells #[.int .i64 n, v] 94) ∧ OwnRtX X w B v G ∧ (B ≤ b ∧ ¬ X b) ∧ ∀ k, X k → k < w.heap.size

theorem OwnTX.below {X : Nat → Prop} {w w' : World} {B : Nat} {u : Value} {c : List Int} (h : OwnTX X w B u c) (hb : Below w.heap.size w w') : OwnTX X w' B u c := ⟨h.1.below hb, h.2⟩

theorem OwnRtX.rt {X : Nat → Prop} {w : World} {B : Nat} {v : Value} {f : List (List Int)} (h : OwnRtX X w B v f) : OwnRt w B v f :=
  let ⟨vs, h1, h2, _⟩ := h; ⟨vs, h1, fun j c hj => let ⟨u, e1, e2⟩ := h2 j c hj; ⟨u, e1, e2.1⟩⟩

theorem OwnRtX.shape {X : Nat → Prop} {w : World} {B : Nat} {v : Value} {f : List (List Int)} (h : OwnRtX X w B v f) : ∃ a c, v = .slice a f.length c ∧ f.length ≤ c ∧ (a = none → c = 0) ∧ Rws w a f := h.rt.shape

theorem OwnRtX.below {X : Nat → Prop} {w w' : World} {B : Nat} {v : Value} {f : List (List Int)} (h : OwnRtX X w B v f) (hb : Below w.heap.size w w') : OwnRtX X w' B v f :=
  let ⟨vs, h1, h2, h3⟩ := h; ⟨vs, own_below h1 hb, fun j c hj => let ⟨u, e1, e2⟩ := h2 j c hj; ⟨u, e1, e2.below hb⟩, h3⟩

/-- A row appended. -/
theorem OwnRtX.push {X : Nat → Prop} {w w' : World} {B : Nat} {v v' x : Value} {f : List (List Int)} {c : List Int} {vs : List Value} (h1 : w.ownsRow B 22 1 v f.length vs)
    (h2 : ∀ (j : Nat) (c : List Int), f[j]? = some c → ∃ u, vs[j]? = some u ∧ OwnTX X w B u c) (hx : OwnTX X w B x c)
    (h' : w'.ownsRow B 22 1 v' (f.length + 1) (vs ++ [x])) (hg : w.grownBy w' v.ownBlock) (hn : ∀ g, v'.ownBlock = some g → ¬ X g) : OwnRtX X w' B v' (f ++ [c]) := by
  have hl : vs.length = f.length := by have := h1.1; omega
  refine ⟨vs ++ [x], by simpa using h', fun j d hj => ?_, hn⟩
  rcases Nat.lt_or_ge j f.length with hlt | hge
  · rw [List.getElem?_append_left hlt] at hj
    obtain ⟨u, e1, e2⟩ := h2 j d hj
    exact ⟨u, by rw [List.getElem?_append_left (by omega)]; exact e1, ownT_kept e2.1 h1 (by decide) hg, e2.2⟩
  · rw [List.getElem?_append_right hge] at hj
    have hj0 : j - f.length = 0 := by
      rcases Nat.eq_zero_or_pos (j - f.length) with h0 | h0
      · exact h0
      · rw [List.getElem?_eq_none (by simp; omega)] at hj; cases hj
    rw [hj0] at hj
    simp at hj
    subst hj
    exact ⟨x, by rw [List.getElem?_append_right (by omega), hl, hj0]; rfl, ownT_kept hx.1 h1 (by decide) hg, hx.2⟩

/-- Ints in a block of their own that is newer than X. -/
theorem ownTX_own {X : Nat → Prop} {w : World} {L B n : Nat} {v : Value} {xs : List Int} (h : w.ownsRow L 3 1 v n (ints xs)) (hX : ∀ k, X k → k < L) (hB : B ≤ L) : OwnTX X w B v xs := by
  refine ⟨(ownT_of_own h).base hB, fun a m k e hx => ?_⟩
  rcases h.2 with ⟨rfl, _⟩ | ⟨g, cap, cur, rfl, hL, _⟩
  · cases e
  · injection e with e
    injection e with e
    subst e
    have := hX _ hx
    simp at this
    omega

/-- Nothing below B is touched, of what lies above only builders and rows of rows, and nothing of X. -/
structure Gk (X : Nat → Prop) (B : Nat) (w w' : World) : Prop where
  below : Below B w w'
  kept : ∀ (k : Nat) (cs : Array Value) (t : TypeId) (m : Nat × Nat), w.heap[k]? = some (.cells cs t m) → t ≠ 22 → t ≠ 94 → w'.heap[k]? = w.heap[k]?
  keptX : ∀ k, X k → k < w.heap.size → w'.heap[k]? = w.heap[k]?

theorem Gk.refl (X : Nat → Prop) (B : Nat) (w : World) : Gk X B w w := ⟨Below.refl _ _, fun _ _ _ _ _ _ _ => rfl, fun _ _ _ => rfl⟩

theorem Gk.trans {X : Nat → Prop} {B : Nat} {w w' w'' : World} (h : Gk X B w w') (h' : Gk X B w' w'') : Gk X B w w'' :=
  ⟨h.below.trans h'.below, fun k cs t m hk h1 h2 => by
    have e := h.kept k cs t m hk h1 h2
    rw [h'.kept k cs t m (by rw [e]; exact hk) h1 h2, e], fun k hk hl => (h'.keptX k hk (Nat.lt_of_lt_of_le hl h.below.size)).trans (h.keptX k hk hl)⟩

theorem Gk.of_below {X : Nat → Prop} {B : Nat} {w w' : World} (h : Below w.heap.size w w') (hB : B ≤ w.heap.size) : Gk X B w w' :=
  ⟨h.mono hB, fun k _ _ _ hk _ _ => h.block k (Array.getElem?_eq_some_iff.1 hk).1, fun k _ hl => h.block k hl⟩

theorem Gk.set {X : Nat → Prop} {B b j : Nat} {w : World} {cs : Array Value} {m : Nat × Nat} (hb : w.heap[b]? = some (.cells cs 94 m)) (hB : B ≤ b ∧ ¬ X b) (u : Value) : Gk X B w (w.setCell ⟨b, j, none⟩ u) := by
  refine ⟨(Below.refl B w).setCell hB.1 _, fun k ds t m' hk _ h2 => ?_, fun k hk _ => ?_⟩
  · refine heap_setCell_other w ⟨b, j, none⟩ k u ?_
    intro e
    have e : k = b := by first | exact e | exact e.symm
    rw [e, hb] at hk
    injection hk with hk
    injection hk with _ hk _
    exact h2 hk.symm
  · refine heap_setCell_other w ⟨b, j, none⟩ k u ?_
    intro e
    have e : k = b := by first | exact e | exact e.symm
    exact hB.2 (e ▸ hk)

theorem Gk.grown {X : Nat → Prop} {B : Nat} {w w' : World} {s n : Nat} {v : Value} {xs : List Value} (ho : w.ownsRow B 22 s v n xs) (hB : B ≤ w.heap.size) (hg : w.grownBy w' v.ownBlock) (hX : ∀ g, v.ownBlock = some g → ¬ X g) : Gk X B w w' := by
  refine ⟨(Below.refl B w).grown hg hB fun q hq => (ho.lt q hq).1, fun k cs t m hk h1 _ => hg.block k (Array.getElem?_eq_some_iff.1 hk).1 fun e => ?_, fun k hk hl => hg.block k hl fun e => hX k e.symm hk⟩
  rcases ho.2 with ⟨rfl, _⟩ | ⟨g, cap, cur, rfl, _, hg', _⟩
  · cases e
  · injection e with e
    have e : k = g := e
    rw [e, hg'] at hk
    injection hk with hk
    injection hk with _ hk _
    exact h1 hk.symm

theorem ownT_gk {X : Nat → Prop} {w w' : World} {B B' : Nat} {v : Value} {xs : List Int} (h : OwnT 3 w B v xs) (hk : Gk X B' w w') : OwnT 3 w' B v xs := by
  obtain ⟨a, c, h1, h2, h3, h4⟩ := h
  refine ⟨a, c, h1, h2, h3, fun ad had => ?_⟩
  obtain ⟨g, off, cur, e1, e2, e3, e4⟩ := h4 ad had
  exact ⟨g, off, cur, e1, e2, (hk.kept g _ _ _ e3 (by decide) (by decide)).trans e3, e4⟩

theorem own_gk {X : Nat → Prop} {w w' : World} {B B' e s n : Nat} {v : Value} {xs : List Value} (h : w.ownsRow B e s v n xs) (hk : Gk X B' w w') (h1 : e ≠ 22) (h2 : e ≠ 94) : w'.ownsRow B e s v n xs := by
  refine ⟨h.1, ?_⟩
  rcases h.2 with h0 | ⟨g, cap, cur, e1, e2, e3, e4⟩
  · exact .inl h0
  · exact .inr ⟨g, cap, cur, e1, e2, (hk.kept g _ _ _ e3 h1 h2).trans e3, e4⟩

theorem ownTX_gk {X X' : Nat → Prop} {w w' : World} {B B' : Nat} {v : Value} {xs : List Int} (h : OwnTX X w B v xs) (hk : Gk X' B' w w') : OwnTX X w' B v xs := ⟨ownT_gk h.1 hk, h.2⟩

theorem GB.below {X : Nat → Prop} {w w' : World} {B b n : Nat} {G : List (List Int)} (h : GB X w B b n G) (hb : Below w.heap.size w w') : GB X w' B b n G :=
  let ⟨v, h1, h2, h3, h4⟩ := h
  ⟨v, (hb.block b (Array.getElem?_eq_some_iff.1 h1).1).trans h1, h2.below hb, h3, fun k hk => Nat.lt_of_lt_of_le (h4 k hk) hb.size⟩

theorem GB.sub {X X' : Nat → Prop} {w : World} {B b n : Nat} {G : List (List Int)} (h : GB X w B b n G) (hs : ∀ k, X' k → X k) : GB X' w B b n G :=
  let ⟨v, h1, ⟨vs, g1, g2, g3⟩, h3, h4⟩ := h
  ⟨v, h1, ⟨vs, g1, fun j c hj => let ⟨u, e1, e2⟩ := g2 j c hj; ⟨u, e1, e2.1, fun a n k e hx => e2.2 a n k e (hs _ hx)⟩, fun g hg hx => g3 g hg (hs g hx)⟩, ⟨h3.1, fun hx => h3.2 (hs _ hx)⟩, fun k hk => h4 k (hs k hk)⟩

/-- What is made beside the builder is none of its clauses. -/
theorem GB.new {X : Nat → Prop} {w w' : World} {B b n : Nat} {G : List (List Int)} (h : GB X w B b n G) (hb : Below w.heap.size w w') : GB (fun k => X k ∨ (w.heap.size ≤ k ∧ k < w'.heap.size)) w' B b n G := by
  obtain ⟨v, h1, ⟨vs, g1, g2, g3⟩, h3, h4⟩ := h
  refine ⟨v, (hb.block b (Array.getElem?_eq_some_iff.1 h1).1).trans h1, ⟨vs, own_below g1 hb, fun j c hj => ?_, fun g hg hx => hx.elim (g3 g hg) (fun q => by have := (g1.lt g hg).2; omega)⟩, ⟨h3.1, fun hx => hx.elim h3.2 (fun q => by have := (Array.getElem?_eq_some_iff.1 h1).1; omega)⟩, fun k hk => ?_⟩
  · obtain ⟨u, e1, e2⟩ := g2 j c hj
    refine ⟨u, e1, e2.1.below hb, fun a m k e hx => ?_⟩
    rcases hx with hx | hx
    · exact e2.2 a m k e hx
    · obtain ⟨ad, cc, q1, q2, q3, q4⟩ := e2.1
      rw [e] at q1
      injection q1 with q1 _ _
      obtain ⟨g, off, cur, r1, r2, r3, r4⟩ := q4 a q1.symm
      subst r1
      have := (Array.getElem?_eq_some_iff.1 r3).1
      simp at hx
      omega
  · rcases hk with hk | hk
    · exact Nat.lt_of_lt_of_le (h4 k hk) hb.size
    · exact hk.2

/-- An append to ints in one of the blocks X. -/
theorem GB.grown {X : Nat → Prop} {w w' : World} {B b n : Nat} {G : List (List Int)} (h : GB X w B b n G) {Bl m : Nat} {v : Value} {xs : List Value} (ho : w.ownsRow Bl 3 1 v m xs) (hX : ∀ k, v.ownBlock = some k → X k) (hg : w.grownBy w' v.ownBlock) : GB (fun k => X k ∨ (w.heap.size ≤ k ∧ k < w'.heap.size)) w' B b n G := by
  have hne : ∀ {g cs t m}, w.heap[g]? = some (.cells cs t m) → t ≠ 3 → some g ≠ v.ownBlock := by
    intro g cs t m hgb ht e
    rcases ho.2 with ⟨rfl, _⟩ | ⟨g', cap, cur, rfl, _, hg', _⟩
    · cases e
    · injection e with e
      have e : g = g' := e
      rw [e, hg'] at hgb
      injection hgb with hgb
      injection hgb with _ hgb _
      exact ht hgb.symm
  obtain ⟨u, h1, ⟨vs, g1, g2, g3⟩, h3, h4⟩ := h
  refine ⟨u, (hg.block b (Array.getElem?_eq_some_iff.1 h1).1 (hne h1 (by decide))).trans h1, ⟨vs, ?_, fun j c hj => ?_, fun g hg' hx => hx.elim (g3 g hg') (fun q => by have := (g1.lt g hg').2; omega)⟩, ⟨h3.1, fun hx => hx.elim h3.2 (fun q => by have := (Array.getElem?_eq_some_iff.1 h1).1; omega)⟩, fun k hk => ?_⟩
  · refine ⟨g1.1, ?_⟩
    rcases g1.2 with h0 | ⟨g, cap, cur, e1, e2, e3, e4⟩
    · exact .inl h0
    · exact .inr ⟨g, cap, cur, e1, e2, (hg.block g (Array.getElem?_eq_some_iff.1 e3).1 (hne e3 (by decide))).trans e3, e4⟩
  · obtain ⟨x, e1, e2⟩ := g2 j c hj
    obtain ⟨ad, cc, q1, q2, q3, q4⟩ := e2.1
    refine ⟨x, e1, ⟨ad, cc, q1, q2, q3, fun a ha => ?_⟩, fun a m k e hx => ?_⟩
    · obtain ⟨g, off, cur, r1, r2, r3, r4⟩ := q4 a ha
      refine ⟨g, off, cur, r1, r2, (hg.block g (Array.getElem?_eq_some_iff.1 r3).1 fun e => ?_).trans r3, r4⟩
      have := hX g e.symm
      rw [ha] at q1
      subst r1
      exact e2.2 _ _ _ q1 this
    · rcases hx with hx | hx
      · exact e2.2 a m k e hx
      · rw [e] at q1
        injection q1 with q1 _ _
        obtain ⟨g, off, cur, r1, r2, r3, r4⟩ := q4 a q1.symm
        subst r1
        have := (Array.getElem?_eq_some_iff.1 r3).1
        simp at hx
        omega
  · rcases hk with hk | hk
    · exact Nat.lt_of_lt_of_le (h4 k hk) hg.size
    · exact hk.2

/-- An append to a row of another type. -/
theorem GB.grownO {X : Nat → Prop} {w w' : World} {B b n : Nat} {G : List (List Int)} (h : GB X w B b n G) {Bl m s e : Nat} {v : Value} {xs : List Value} (ho : w.ownsRow Bl e s v m xs) (h1 : e ≠ 3) (h2 : e ≠ 22) (h3 : e ≠ 94) (hg : w.grownBy w' v.ownBlock) : GB X w' B b n G := by
  have hne : ∀ {g cs t m}, w.heap[g]? = some (.cells cs t m) → t ≠ e → some g ≠ v.ownBlock := by
    intro g cs t m hgb ht e
    rcases ho.2 with ⟨rfl, _⟩ | ⟨g', cap, cur, rfl, _, hg', _⟩
    · cases e
    · injection e with e
      have e : g = g' := e
      rw [e, hg'] at hgb
      injection hgb with hgb
      injection hgb with _ hgb _
      exact ht hgb.symm
  obtain ⟨u, k1, ⟨vs, g1, g2, g3⟩, k3, k4⟩ := h
  refine ⟨u, (hg.block b (Array.getElem?_eq_some_iff.1 k1).1 (hne k1 (Ne.symm h3))).trans k1, ⟨vs, ?_, fun j c hj => ?_, g3⟩, k3, fun k hk => Nat.lt_of_lt_of_le (k4 k hk) hg.size⟩
  · refine ⟨g1.1, ?_⟩
    rcases g1.2 with h0 | ⟨g, cap, cur, e1, e2, e3, e4⟩
    · exact .inl h0
    · exact .inr ⟨g, cap, cur, e1, e2, (hg.block g (Array.getElem?_eq_some_iff.1 e3).1 (hne e3 (Ne.symm h2))).trans e3, e4⟩
  · obtain ⟨x, e1, e2⟩ := g2 j c hj
    obtain ⟨ad, cc, q1, q2, q3, q4⟩ := e2.1
    refine ⟨x, e1, ⟨ad, cc, q1, q2, q3, fun a ha => ?_⟩, e2.2⟩
    obtain ⟨g, off, cur, r1, r2, r3, r4⟩ := q4 a ha
    exact ⟨g, off, cur, r1, r2, (hg.block g (Array.getElem?_eq_some_iff.1 r3).1 (hne r3 (Ne.symm h1))).trans r3, r4⟩

/-- An append to rows of rows in one of the blocks X. -/
theorem GB.grownR {X : Nat → Prop} {w w' : World} {B b n : Nat} {G : List (List Int)} (h : GB X w B b n G) {Bl m : Nat} {v : Value} {xs : List Value} (ho : w.ownsRow Bl 22 1 v m xs) (hX : ∀ k, v.ownBlock = some k → X k) (hg : w.grownBy w' v.ownBlock) : GB (fun k => X k ∨ (w.heap.size ≤ k ∧ k < w'.heap.size)) w' B b n G := by
  have hne : ∀ {g cs t m}, w.heap[g]? = some (.cells cs t m) → t ≠ 22 → some g ≠ v.ownBlock := by
    intro g cs t m hgb ht e
    rcases ho.2 with ⟨rfl, _⟩ | ⟨g', cap, cur, rfl, _, hg', _⟩
    · cases e
    · injection e with e
      have e : g = g' := e
      rw [e, hg'] at hgb
      injection hgb with hgb
      injection hgb with _ hgb _
      exact ht hgb.symm
  obtain ⟨u, h1, ⟨vs, g1, g2, g3⟩, h3, h4⟩ := h
  refine ⟨u, (hg.block b (Array.getElem?_eq_some_iff.1 h1).1 (hne h1 (by decide))).trans h1, ⟨vs, ?_, fun j c hj => ?_, fun g hg' hx => hx.elim (g3 g hg') (fun q => by have := (g1.lt g hg').2; omega)⟩, ⟨h3.1, fun hx => hx.elim h3.2 (fun q => by have := (Array.getElem?_eq_some_iff.1 h1).1; omega)⟩, fun k hk => ?_⟩
  · exact own_frame0 g1 fun g hg' => hg.block g (g1.lt g hg').2 fun e => g3 g hg' (hX g e.symm)
  · obtain ⟨x, e1, e2⟩ := g2 j c hj
    obtain ⟨ad, cc, q1, q2, q3, q4⟩ := e2.1
    refine ⟨x, e1, ⟨ad, cc, q1, q2, q3, fun a ha => ?_⟩, fun a m k e hx => ?_⟩
    · obtain ⟨g, off, cur, r1, r2, r3, r4⟩ := q4 a ha
      exact ⟨g, off, cur, r1, r2, (hg.block g (Array.getElem?_eq_some_iff.1 r3).1 (hne r3 (by decide))).trans r3, r4⟩
    · rcases hx with hx | hx
      · exact e2.2 a m k e hx
      · rw [e] at q1
        injection q1 with q1 _ _
        obtain ⟨g, off, cur, r1, r2, r3, r4⟩ := q4 a q1.symm
        subst r1
        have := (Array.getElem?_eq_some_iff.1 r3).1
        simp at hx
        omega
  · rcases hk with hk | hk
    · exact Nat.lt_of_lt_of_le (h4 k hk) hg.size
    · exact hk.2

theorem GB.cells {X : Nat → Prop} {w : World} {B b n : Nat} {G : List (List Int)} (h : GB X w B b n G) : ∃ a c, w.cell? ⟨b, 0, none⟩ = some (.int .i64 n) ∧ w.cell? ⟨b, 1, none⟩ = some (.slice a G.length c) ∧ Rws w a G ∧ b < w.heap.size := by
  obtain ⟨v, h1, h2, -⟩ := h
  obtain ⟨a, c, rfl, -, -, h4⟩ := h2.shape
  exact ⟨a, c, fit_cell (vs := [.int .i64 n, .slice a G.length c]) h1 0, fit_cell (vs := [.int .i64 n, .slice a G.length c]) h1 1, h4, (Array.getElem?_eq_some_iff.1 h1).1⟩

theorem GB.frozen {X : Nat → Prop} {w : World} {B b n : Nat} {G : List (List Int)} (h : GB X w B b n G) (k : Nat) : w.frozen? ⟨b, k, none⟩ = false := by
  obtain ⟨v, h1, -⟩ := h
  exact frozen_of_row _ _ _ _ _ h1

/-- The builder's rows where its cells are set. -/
theorem rtX_setBuilder {X : Nat → Prop} {w : World} {B b j : Nat} {cs : Array Value} {v u : Value} {G : List (List Int)} (h1 : w.heap[b]? = some (.cells cs 94 (0, 0))) (h2 : OwnRtX X w B v G) (hB : B ≤ b ∧ ¬ X b) : OwnRtX X (w.setCell ⟨b, j, none⟩ u) B v G := by
  obtain ⟨vs, g1, g2, g3⟩ := h2
  have hk : Gk X B w (w.setCell ⟨b, j, none⟩ u) := Gk.set h1 hB _
  refine ⟨vs, own_frame0 g1 fun g hg => heap_setCell_other w ⟨b, j, none⟩ g _ ?_, fun j c hj => let ⟨u, e1, e2⟩ := g2 j c hj; ⟨u, e1, ownTX_gk e2 hk⟩, g3⟩
  intro e
  have e : g = b := by first | exact e | exact e.symm
  rcases g1.2 with ⟨rfl, _⟩ | ⟨g', cap, cur, rfl, _, hg', _⟩
  · cases hg
  · injection hg with hg
    have hg : g' = g := hg
    rw [hg, e, h1] at hg'
    injection hg' with hg'
    injection hg' with _ hg' _
    exact absurd hg' (by decide)

/-- The number of variables is set. -/
theorem GB.setVars {X : Nat → Prop} {w : World} {B b n : Nat} {G : List (List Int)} (h : GB X w B b n G) (m : Nat) : GB X (w.setCell ⟨b, 0, none⟩ (.int .i64 m)) B b m G ∧ Gk X B w (w.setCell ⟨b, 0, none⟩ (.int .i64 m)) := by
  obtain ⟨v, h1, h2, h3, h4⟩ := h
  exact ⟨⟨v, heap_setCell_same w b 0 #[.int .i64 n, v] 94 _ h1, rtX_setBuilder h1 h2 h3, h3, fun k hk => by simpa [World.setCell] using h4 k hk⟩, Gk.set h1 h3 _⟩

set_option maxHeartbeats 1000000 in
theorem gate_True (w : World) (b : Nat) :
    Calls Try.prog 46 #[.pointer (some ⟨b, 0, none⟩)] w fun e w' => e = .returned (.int .i64 1) ∧ w = w' := by
  go_enter Try.func46, Try.ntmps46
  go_wp2_with fail
  go_ret
  exact ⟨rfl, rfl⟩

set_option maxRecDepth 100000 in
set_option maxHeartbeats 1000000 in
theorem gate_Fresh {X : Nat → Prop} (w : World) (B b n : Nat) (G : List (List Int)) (h : GB X w B b n G) (hn : n < 1048576) :
    Calls Try.prog 43 #[.pointer (some ⟨b, 0, none⟩)] w fun e w' => e = .returned (.tuple #[.int .i64 ((n : Int) + 1), .int .i64 0]) ∧ GB X w' B b (n + 1) G ∧ Gk X B w w' := by
  obtain ⟨a, c, hc0, hc1, -, hbl⟩ := h.cells
  have hf0 := h.frozen 0
  have hwn : IntKind.i64.wrap ((n : Int) + 1) = (n : Int) + 1 := IntWalk.i64_in _ (by omega)
  have d1 : ((n : Int) == 1048576) = false := by rw [beq_eq_false_iff_ne]; omega
  have HS := hid (h.setVars (n + 1))
  clear h hn
  go_enter Try.func43, Try.ntmps43
  go_wp2_with fail
  go_ret2
  exact ⟨rfl, HS.out.1, HS.out.2⟩

set_option maxRecDepth 100000 in
set_option maxHeartbeats 1000000 in
theorem gate_has {X : Nat → Prop} (w : World) (B b n : Nat) (G : List (List Int)) (al : Option Addr) (l : List Int) (m c : Nat) (r : Bool) (h : GB X w B b n G) (hn : n ≤ 1048576) (hm : m = l.length) (hs : SlV w al (ints l)) (hl : l.length ≤ 1048576) (hr : l.all (fun a => !badLit n a) = r) :
    Calls Try.prog 58 #[.pointer (some ⟨b, 0, none⟩), .slice al m c] w fun e w' => e = .returned (.bool r) ∧ w = w' := by
  subst hm
  obtain ⟨a, c', hc0, hc1, -, hbl⟩ := h.cells
  have hwn : IntKind.i64.wrap (-(n : Int)) = -(n : Int) := IntWalk.i64_in _ (by omega)
  have HS := hid hs
  have HR := hid hr
  clear h hs hr hc1
  go_enter Try.func58, Try.ntmps58
  go_wp2_with fail
  go_loop [9] (fun s9 => ∃ k : Nat, s9 = .int .i64 k ∧ k ≤ l.length ∧ Hid ((l.take k).any (badLit n) = false)) (fun s9 => (l.length - (intOf s9)).toNat)
  case atStart => exact ⟨0, rfl, Nat.zero_le _, by simp [Hid]⟩
  case round =>
    obtain ⟨k, rfl, hk, hany⟩ := hrel
    by_cases hlt : k < l.length
    · obtain ⟨bo, oo, x, rfl, hcx, hxk⟩ := HS.out.int hlt
      have HX := hid hxk
      have hwk : IntKind.i64.wrap ((k : Int) + 1) = (k : Int) + 1 := IntWalk.i64_in _ (by omega)
      clear hxk
      by_cases hb : badLit n x = true
      · have hrf : r = false := by
          rw [← HR.out, Bool.eq_false_iff]
          intro ha
          have := List.all_eq_true.1 ha x (List.mem_of_getElem? HX.out)
          rw [hb] at this
          cases this
        subst hrf
        rcases lit_bad_of hb with h0 | h0 | h0
        · have d0 : (x == 0) = true := by rw [h0]; rfl
          clear h0 hb
          go_wp2_with fail
          go_ret
          exact ⟨rfl, rfl⟩
        · have d0 : (x == 0) = false := by rw [beq_eq_false_iff_ne]; omega
          have d1 : decide ((n : Int) < x) = true := decide_eq_true h0
          clear h0 hb
          go_wp2_with fail
          go_ret
          exact ⟨rfl, rfl⟩
        · have d0 : (x == 0) = false := by rw [beq_eq_false_iff_ne]; omega
          have d1 : decide ((n : Int) < x) = false := decide_eq_false (by omega)
          have d2 : decide (x < -(n : Int)) = true := decide_eq_true h0
          clear h0 hb
          go_wp2_with fail
          go_ret
          exact ⟨rfl, rfl⟩
      · have hb' : badLit n x = false := by simpa using hb
        have hx := lit_ok_of hb'
        unfold LitOk at hx
        have d0 : (x == 0) = false := by rw [beq_eq_false_iff_ne]; exact hx.1
        have d1 : decide ((n : Int) < x) = false := decide_eq_false (by omega)
        have d2 : decide (x < -(n : Int)) = false := decide_eq_false (by omega)
        have HN := hid (take_any_succ HX.out hany.out hb')
        clear hb hb' hx
        go_wp2_with fail
        go_round
        case rel => exact ⟨k + 1, by simp, hlt, HN⟩
        case measure => simp [intOf]; omega
    · have hrt : r = true := by
        rw [← HR.out, List.all_eq_true]
        intro x hx
        have := List.any_eq_false.1 (take_all_false hlt hany.out) x hx
        simpa using this
      subst hrt
      go_wp2_with fail
      go_ret
      exact ⟨rfl, rfl⟩

end Go.Proofs.Ytacmfiikdbekbaa.Ord2
