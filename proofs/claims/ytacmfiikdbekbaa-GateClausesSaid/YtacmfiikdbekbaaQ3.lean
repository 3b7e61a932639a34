/- The builder of gate: how it lies in memory, what leaves other things alone, and the contracts of New, True, Fresh and has. -/
import Derived.Test.YtacmfiikdbekbaaQ2
import Derived.Test.YtacmfiikdbekbaaQ0

namespace Go.Proofs.Ytacmfiikdbekbaa.Ord
open Go.RowKit Go.Conc

attribute [local go_sem ↓] Go.wp_at_zero Go.wp_at_succ

theorem info_intG : (Try.prog.info? 3).map (fun i => (i.zero, i.size, i.bytes)) = some (some (.int .i64 0), 1, 8) := by kernel_rfl
theorem info_intsG : (Try.prog.info? 22).map (fun i => (i.zero, i.size, i.bytes)) = some (some (.slice none 0 0), 1, 24) := by kernel_rfl

/-- A slice of ints of the call's own, from B on, in none of the blocks X. -/
def OwnTX (X : Nat → Prop) (w : World) (B : Nat) (u : Value) (c : List Int) : Prop := OwnT 3 w B u c ∧ ∀ a n k, u = .slice (some a) n k → ¬ X a.block

/-- Rows of ints of the call's own, the inner ones in none of the blocks X. -/
def OwnRtX (X : Nat → Prop) (w : World) (B : Nat) (v : Value) (f : List (List Int)) : Prop :=
  ∃ vs, w.ownsRow B 22 1 v f.length vs ∧ ∀ (j : Nat) (c : List Int), f[j]? = some c → ∃ u, vs[j]? = some u ∧ OwnTX X w B u c

/-- A builder at the block b, with n variables and the clauses G; all that it holds lies from B on, its clauses in none of the blocks X. -/
def GB (X : Nat → Prop) (w : World) (B b n : Nat) (G : List (List Int)) : Prop :=
  ∃ v, w.heap[b]? = some (.cells #[.int .i64 n, v] 94) ∧ OwnRtX X w B v G ∧ B ≤ b ∧ ∀ k, X k → k < w.heap.size

theorem OwnTX.below {X : Nat → Prop} {w w' : World} {B : Nat} {u : Value} {c : List Int} (h : OwnTX X w B u c) (hb : Below w.heap.size w w') : OwnTX X w' B u c := ⟨h.1.below hb, h.2⟩

theorem OwnRtX.rt {X : Nat → Prop} {w : World} {B : Nat} {v : Value} {f : List (List Int)} (h : OwnRtX X w B v f) : OwnRt w B v f :=
  let ⟨vs, h1, h2⟩ := h; ⟨vs, h1, fun j c hj => let ⟨u, e1, e2⟩ := h2 j c hj; ⟨u, e1, e2.1⟩⟩

theorem OwnRtX.shape {X : Nat → Prop} {w : World} {B : Nat} {v : Value} {f : List (List Int)} (h : OwnRtX X w B v f) : ∃ a c, v = .slice a f.length c ∧ f.length ≤ c ∧ (a = none → c = 0) ∧ Rws w a f := h.rt.shape

theorem OwnRtX.below {X : Nat → Prop} {w w' : World} {B : Nat} {v : Value} {f : List (List Int)} (h : OwnRtX X w B v f) (hb : Below w.heap.size w w') : OwnRtX X w' B v f :=
  let ⟨vs, h1, h2⟩ := h; ⟨vs, own_below h1 hb, fun j c hj => let ⟨u, e1, e2⟩ := h2 j c hj; ⟨u, e1, e2.below hb⟩⟩

/-- A row appended. -/
theorem OwnRtX.push {X : Nat → Prop} {w w' : World} {B : Nat} {v v' x : Value} {f : List (List Int)} {c : List Int} {vs : List Value} (h1 : w.ownsRow B 22 1 v f.length vs)
    (h2 : ∀ (j : Nat) (c : List Int), f[j]? = some c → ∃ u, vs[j]? = some u ∧ OwnTX X w B u c) (hx : OwnTX X w B x c)
    (h' : w'.ownsRow B 22 1 v' (f.length + 1) (vs ++ [x])) (hg : w.grownBy w' v.ownBlock) : OwnRtX X w' B v' (f ++ [c]) := by
  have hl : vs.length = f.length := by have := h1.1; omega
  refine ⟨vs ++ [x], by simpa using h', fun j d hj => ?_⟩
  rcases Nat.lt_or_ge j f.length with hlt | hge
  · rw [List.getElem?_append_left hlt] at hj
    obtain ⟨u, e1, e2⟩ := h2 j d hj
    exact ⟨u, by rw [List.getElem?_append_left (by omega)]; exact e1, ownT_kept e2.1 h1 (by decide) hg, e2.2⟩
  · rw [List.getElem?_append_right hge] at hj
    have hj0 : j - f.length = 0 := by
      rcases Nat.eq_zero_or_pos (j - f.length) with h0 | h0
      · exact h0
      · rw [List.getElem?_eq_none (by simp; omega)] at hj; cases hj
    rw [hj0] at hj
    simp at hj
    subst hj
    exact ⟨x, by rw [List.getElem?_append_right (by omega), hl, hj0]; rfl, ownT_kept hx.1 h1 (by decide) hg, hx.2⟩

/-- Ints in a block of their own that is newer than X. -/
theorem ownTX_own {X : Nat → Prop} {w : World} {L B n : Nat} {v : Value} {xs : List Int} (h : w.ownsRow L 3 1 v n (ints xs)) (hX : ∀ k, X k → k < L) (hB : B ≤ L) : OwnTX X w B v xs := by
  refine ⟨(ownT_of_own h).base hB, fun a m k e hx => ?_⟩
  rcases h.2 with ⟨rfl, _⟩ | ⟨g, cap, cur, rfl, hL, _⟩
  · cases e
  · injection e with e
    injection e with e
    subst e
    have := hX _ hx
    simp at this
    omega

/-- Nothing below B is touched, and of what lies above only builders and rows of rows. -/
structure Gk (B : Nat) (w w' : World) : Prop where
  below : Below B w w'
  kept : ∀ (k : Nat) (cs : Array Value) (t : TypeId) (m : Nat × Nat), w.heap[k]? = some (.cells cs t m) → t ≠ 22 → t ≠ 94 → w'.heap[k]? = w.heap[k]?

theorem Gk.refl (B : Nat) (w : World) : Gk B w w := ⟨Below.refl _ _, fun _ _ _ _ _ _ _ => rfl⟩

theorem Gk.trans {B : Nat} {w w' w'' : World} (h : Gk B w w') (h' : Gk B w' w'') : Gk B w w'' :=
  ⟨h.below.trans h'.below, fun k cs t m hk h1 h2 => by
    have e := h.kept k cs t m hk h1 h2
    rw [h'.kept k cs t m (by rw [e]; exact hk) h1 h2, e]⟩

theorem Gk.of_below {B : Nat} {w w' : World} (h : Below w.heap.size w w') (hB : B ≤ w.heap.size) : Gk B w w' :=
  ⟨h.mono hB, fun k _ _ _ hk _ _ => h.block k (Array.getElem?_eq_some_iff.1 hk).1⟩

theorem Gk.set {B b j : Nat} {w : World} {cs : Array Value} {m : Nat × Nat} (hb : w.heap[b]? = some (.cells cs 94 m)) (hB : B ≤ b) (u : Value) : Gk B w (w.setCell ⟨b, j, none⟩ u) := by
  refine ⟨(Below.refl B w).setCell hB _, fun k ds t m' hk _ h2 => ?_⟩
  refine heap_setCell_other w ⟨b, j, none⟩ k u ?_
  intro e
  have e : k = b := by first | exact e | exact e.symm
  rw [e, hb] at hk
  injection hk with hk
  injection hk with _ hk _
  exact h2 hk.symm

theorem Gk.grown {B : Nat} {w w' : World} {s n : Nat} {v : Value} {xs : List Value} (ho : w.ownsRow B 22 s v n xs) (hB : B ≤ w.heap.size) (hg : w.grownBy w' v.ownBlock) : Gk B w w' := by
  refine ⟨(Below.refl B w).grown hg hB fun q hq => (ho.lt q hq).1, fun k cs t m hk h1 _ => hg.block k (Array.getElem?_eq_some_iff.1 hk).1 fun e => ?_⟩
  rcases ho.2 with ⟨rfl, _⟩ | ⟨g, cap, cur, rfl, _, hg', _⟩
  · cases e
  · injection e with e
    have e : k = g := e
    rw [e, hg'] at hk
    injection hk with hk
    injection hk with _ hk _
    exact h1 hk.symm

theorem ownT_gk {w w' : World} {B B' : Nat} {v : Value} {xs : List Int} (h : OwnT 3 w B v xs) (hk : Gk B' w w') : OwnT 3 w' B v xs := by
  obtain ⟨a, c, h1, h2, h3, h4⟩ := h
  refine ⟨a, c, h1, h2, h3, fun ad had => ?_⟩
  obtain ⟨g, off, cur, e1, e2, e3, e4⟩ := h4 ad had
  exact ⟨g, off, cur, e1, e2, (hk.kept g _ _ _ e3 (by decide) (by decide)).trans e3, e4⟩

theorem own_gk {w w' : World} {B B' e s n : Nat} {v : Value} {xs : List Value} (h : w.ownsRow B e s v n xs) (hk : Gk B' w w') (h1 : e ≠ 22) (h2 : e ≠ 94) : w'.ownsRow B e s v n xs := by
  refine ⟨h.1, ?_⟩
  rcases h.2 with h0 | ⟨g, cap, cur, e1, e2, e3, e4⟩
  · exact .inl h0
  · exact .inr ⟨g, cap, cur, e1, e2, (hk.kept g _ _ _ e3 h1 h2).trans e3, e4⟩

theorem ownTX_gk {X : Nat → Prop} {w w' : World} {B B' : Nat} {v : Value} {xs : List Int} (h : OwnTX X w B v xs) (hk : Gk B' w w') : OwnTX X w' B v xs := ⟨ownT_gk h.1 hk, h.2⟩

theorem GB.below {X : Nat → Prop} {w w' : World} {B b n : Nat} {G : List (List Int)} (h : GB X w B b n G) (hb : Below w.heap.size w w') : GB X w' B b n G :=
  let ⟨v, h1, h2, h3, h4⟩ := h
  ⟨v, (hb.block b (Array.getElem?_eq_some_iff.1 h1).1).trans h1, h2.below hb, h3, fun k hk => Nat.lt_of_lt_of_le (h4 k hk) hb.size⟩

theorem GB.sub {X X' : Nat → Prop} {w : World} {B b n : Nat} {G : List (List Int)} (h : GB X w B b n G) (hs : ∀ k, X' k → X k) : GB X' w B b n G :=
  let ⟨v, h1, ⟨vs, g1, g2⟩, h3, h4⟩ := h
  ⟨v, h1, ⟨vs, g1, fun j c hj => let ⟨u, e1, e2⟩ := g2 j c hj; ⟨u, e1, e2.1, fun a n k e hx => e2.2 a n k e (hs _ hx)⟩⟩, h3, fun k hk => h4 k (hs k hk)⟩

/-- What is made beside the builder is none of its clauses. -/
theorem GB.new {X : Nat → Prop} {w w' : World} {B b n : Nat} {G : List (List Int)} (h : GB X w B b n G) (hb : Below w.heap.size w w') : GB (fun k => X k ∨ (w.heap.size ≤ k ∧ k < w'.heap.size)) w' B b n G := by
  obtain ⟨v, h1, ⟨vs, g1, g2⟩, h3, h4⟩ := h
  refine ⟨v, (hb.block b (Array.getElem?_eq_some_iff.1 h1).1).trans h1, ⟨vs, own_below g1 hb, fun j c hj => ?_⟩, h3, fun k hk => ?_⟩
  · obtain ⟨u, e1, e2⟩ := g2 j c hj
    refine ⟨u, e1, e2.1.below hb, fun a m k e hx => ?_⟩
    rcases hx with hx | hx
    · exact e2.2 a m k e hx
    · obtain ⟨ad, cc, q1, q2, q3, q4⟩ := e2.1
      rw [e] at q1
      injection q1 with q1 _ _
      obtain ⟨g, off, cur, r1, r2, r3, r4⟩ := q4 a q1.symm
      subst r1
      have := (Array.getElem?_eq_some_iff.1 r3).1
      simp at hx
      omega
  · rcases hk with hk | hk
    · exact Nat.lt_of_lt_of_le (h4 k hk) hb.size
    · exact hk.2

/-- An append to ints in one of the blocks X. -/
theorem GB.grown {X : Nat → Prop} {w w' : World} {B b n : Nat} {G : List (List Int)} (h : GB X w B b n G) {Bl m : Nat} {v : Value} {xs : List Value} (ho : w.ownsRow Bl 3 1 v m xs) (hX : ∀ k, v.ownBlock = some k → X k) (hg : w.grownBy w' v.ownBlock) : GB (fun k => X k ∨ (w.heap.size ≤ k ∧ k < w'.heap.size)) w' B b n G := by
  have hne : ∀ {g cs t m}, w.heap[g]? = some (.cells cs t m) → t ≠ 3 → some g ≠ v.ownBlock := by
    intro g cs t m hgb ht e
    rcases ho.2 with ⟨rfl, _⟩ | ⟨g', cap, cur, rfl, _, hg', _⟩
    · cases e
    · injection e with e
      have e : g = g' := e
      rw [e, hg'] at hgb
      injection hgb with hgb
      injection hgb with _ hgb _
      exact ht hgb.symm
  obtain ⟨u, h1, ⟨vs, g1, g2⟩, h3, h4⟩ := h
  refine ⟨u, (hg.block b (Array.getElem?_eq_some_iff.1 h1).1 (hne h1 (by decide))).trans h1, ⟨vs, ?_, fun j c hj => ?_⟩, h3, fun k hk => ?_⟩
  · refine ⟨g1.1, ?_⟩
    rcases g1.2 with h0 | ⟨g, cap, cur, e1, e2, e3, e4⟩
    · exact .inl h0
    · exact .inr ⟨g, cap, cur, e1, e2, (hg.block g (Array.getElem?_eq_some_iff.1 e3).1 (hne e3 (by decide))).trans e3, e4⟩
  · obtain ⟨x, e1, e2⟩ := g2 j c hj
    obtain ⟨ad, cc, q1, q2, q3, q4⟩ := e2.1
    refine ⟨x, e1, ⟨ad, cc, q1, q2, q3, fun a ha => ?_⟩, fun a m k e hx => ?_⟩
    · obtain ⟨g, off, cur, r1, r2, r3, r4⟩ := q4 a ha
      refine ⟨g, off, cur, r1, r2, (hg.block g (Array.getElem?_eq_some_iff.1 r3).1 fun e => ?_).trans r3, r4⟩
      have := hX g e.symm
      rw [ha] at q1
      subst r1
      exact e2.2 _ _ _ q1 this
    · rcases hx with hx | hx
      · exact e2.2 a m k e hx
      · rw [e] at q1
        injection q1 with q1 _ _
        obtain ⟨g, off, cur, r1, r2, r3, r4⟩ := q4 a q1.symm
        subst r1
        have := (Array.getElem?_eq_some_iff.1 r3).1
        simp at hx
        omega
  · rcases hk with hk | hk
    · exact Nat.lt_of_lt_of_le (h4 k hk) hg.size
    · exact hk.2

/-- An append to a row of another type. -/
theorem GB.grownO {X : Nat → Prop} {w w' : World} {B b n : Nat} {G : List (List Int)} (h : GB X w B b n G) {Bl m s e : Nat} {v : Value} {xs : List Value} (ho : w.ownsRow Bl e s v m xs) (h1 : e ≠ 3) (h2 : e ≠ 22) (h3 : e ≠ 94) (hg : w.grownBy w' v.ownBlock) : GB X w' B b n G := by
  have hne : ∀ {g cs t m}, w.heap[g]? = some (.cells cs t m) → t ≠ e → some g ≠ v.ownBlock := by
    intro g cs t m hgb ht e
    rcases ho.2 with ⟨rfl, _⟩ | ⟨g', cap, cur, rfl, _, hg', _⟩
    · cases e
    · injection e with e
      have e : g = g' := e
      rw [e, hg'] at hgb
      injection hgb with hgb
      injection hgb with _ hgb _
      exact ht hgb.symm
  obtain ⟨u, k1, ⟨vs, g1, g2⟩, k3, k4⟩ := h
  refine ⟨u, (hg.block b (Array.getElem?_eq_some_iff.1 k1).1 (hne k1 (Ne.symm h3))).trans k1, ⟨vs, ?_, fun j c hj => ?_⟩, k3, fun k hk => Nat.lt_of_lt_of_le (k4 k hk) hg.size⟩
  · refine ⟨g1.1, ?_⟩
    rcases g1.2 with h0 | ⟨g, cap, cur, e1, e2, e3, e4⟩
    · exact .inl h0
    · exact .inr ⟨g, cap, cur, e1, e2, (hg.block g (Array.getElem?_eq_some_iff.1 e3).1 (hne e3 (Ne.symm h2))).trans e3, e4⟩
  · obtain ⟨x, e1, e2⟩ := g2 j c hj
    obtain ⟨ad, cc, q1, q2, q3, q4⟩ := e2.1
    refine ⟨x, e1, ⟨ad, cc, q1, q2, q3, fun a ha => ?_⟩, e2.2⟩
    obtain ⟨g, off, cur, r1, r2, r3, r4⟩ := q4 a ha
    exact ⟨g, off, cur, r1, r2, (hg.block g (Array.getElem?_eq_some_iff.1 r3).1 (hne r3 (Ne.symm h1))).trans r3, r4⟩

theorem GB.cells {X : Nat → Prop} {w : World} {B b n : Nat} {G : List (List Int)} (h : GB X w B b n G) : ∃ a c, w.cell? ⟨b, 0, none⟩ = some (.int .i64 n) ∧ w.cell? ⟨b, 1, none⟩ = some (.slice a G.length c) ∧ Rws w a G ∧ b < w.heap.size := by
  obtain ⟨v, h1, h2, -⟩ := h
  obtain ⟨a, c, rfl, -, -, h4⟩ := h2.shape
  exact ⟨a, c, fit_cell (vs := [.int .i64 n, .slice a G.length c]) h1 0, fit_cell (vs := [.int .i64 n, .slice a G.length c]) h1 1, h4, (Array.getElem?_eq_some_iff.1 h1).1⟩

theorem GB.frozen {X : Nat → Prop} {w : World} {B b n : Nat} {G : List (List Int)} (h : GB X w B b n G) (k : Nat) : w.frozen? ⟨b, k, none⟩ = false := by
  obtain ⟨v, h1, -⟩ := h
  exact frozen_of_row _ _ _ _ _ h1

/-- The builder's rows where its cells are set. -/
theorem rtX_setBuilder {X : Nat → Prop} {w : World} {B b j : Nat} {cs : Array Value} {v u : Value} {G : List (List Int)} (h1 : w.heap[b]? = some (.cells cs 94 (0, 0))) (h2 : OwnRtX X w B v G) (hB : B ≤ b) : OwnRtX X (w.setCell ⟨b, j, none⟩ u) B v G := by
  obtain ⟨vs, g1, g2⟩ := h2
  have hk : Gk B w (w.setCell ⟨b, j, none⟩ u) := Gk.set h1 hB _
  refine ⟨vs, own_frame0 g1 fun g hg => heap_setCell_other w ⟨b, j, none⟩ g _ ?_, fun j c hj => let ⟨u, e1, e2⟩ := g2 j c hj; ⟨u, e1, ownTX_gk e2 hk⟩⟩
  intro e
  have e : g = b := by first | exact e | exact e.symm
  rcases g1.2 with ⟨rfl, _⟩ | ⟨g', cap, cur, rfl, _, hg', _⟩
  · cases hg
  · injection hg with hg
    have hg : g' = g := hg
    rw [hg, e, h1] at hg'
    injection hg' with hg'
    injection hg' with _ hg' _
    exact absurd hg' (by decide)

/-- The number of variables is set. -/
theorem GB.setVars {X : Nat → Prop} {w : World} {B b n : Nat} {G : List (List Int)} (h : GB X w B b n G) (m : Nat) : GB X (w.setCell ⟨b, 0, none⟩ (.int .i64 m)) B b m G ∧ Gk B w (w.setCell ⟨b, 0, none⟩ (.int .i64 m)) := by
  obtain ⟨v, h1, h2, h3, h4⟩ := h
  exact ⟨⟨v, heap_setCell_same w b 0 #[.int .i64 n, v] 94 _ h1, rtX_setBuilder h1 h2 h3, h3, fun k hk => by simpa [World.setCell] using h4 k hk⟩, Gk.set h1 h3 _⟩

set_option maxHeartbeats 1000000 in
theorem gate_True (w : World) (b : Nat) :
    Calls Try.prog 46 #[.pointer (some ⟨b, 0, none⟩)] w fun e w' => e = .returned (.int .i64 1) ∧ w = w' := by
  go_enter Try.func46, Try.ntmps46
  go_wp2_with fail
  go_ret
  exact ⟨rfl, rfl⟩

set_option maxRecDepth 100000 in
set_option maxHeartbeats 1000000 in
theorem gate_Fresh {X : Nat → Prop} (w : World) (B b n : Nat) (G : List (List Int)) (h : GB X w B b n G) (hn : n < 1048576) :
    Calls Try.prog 43 #[.pointer (some ⟨b, 0, none⟩)] w fun e w' => e = .returned (.tuple #[.int .i64 ((n : Int) + 1), .int .i64 0]) ∧ GB X w' B b (n + 1) G ∧ Gk B w w' := by
  obtain ⟨a, c, hc0, hc1, -, hbl⟩ := h.cells
  have hf0 := h.frozen 0
  have hwn : IntKind.i64.wrap ((n : Int) + 1) = (n : Int) + 1 := IntWalk.i64_in _ (by omega)
  have d1 : ((n : Int) == 1048576) = false := by rw [beq_eq_false_iff_ne]; omega
  have HS := hid (h.setVars (n + 1))
  clear h hn
  go_enter Try.func43, Try.ntmps43
  go_wp2_with fail
  go_ret2
  exact ⟨rfl, HS.out.1, HS.out.2⟩

set_option maxRecDepth 100000 in
set_option maxHeartbeats 1000000 in
theorem gate_has {X : Nat → Prop} (w : World) (B b n : Nat) (G : List (List Int)) (al : Option Addr) (l : List Int) (m c : Nat) (r : Bool) (h : GB X w B b n G) (hn : n ≤ 1048576) (hm : m = l.length) (hs : SlV w al (ints l)) (hl : l.length ≤ 1048576) (hr : l.all (fun a => !badLit n a) = r) :
    Calls Try.prog 58 #[.pointer (some ⟨b, 0, none⟩), .slice al m c] w fun e w' => e = .returned (.bool r) ∧ w = w' := by
  subst hm
  obtain ⟨a, c', hc0, hc1, -, hbl⟩ := h.cells
  have hwn : IntKind.i64.wrap (-(n : Int)) = -(n : Int) := IntWalk.i64_in _ (by omega)
  have HS := hid hs
  have HR := hid hr
  clear h hs hr hc1
  go_enter Try.func58, Try.ntmps58
  go_wp2_with fail
  go_loop [9] (fun s9 => ∃ k : Nat, s9 = .int .i64 k ∧ k ≤ l.length ∧ Hid ((l.take k).any (badLit n) = false)) (fun s9 => (l.length - (intOf s9)).toNat)
  case atStart => exact ⟨0, rfl, Nat.zero_le _, by simp [Hid]⟩
  case round =>
    obtain ⟨k, rfl, hk, hany⟩ := hrel
    by_cases hlt : k < l.length
    · obtain ⟨bo, oo, x, rfl, hcx, hxk⟩ := HS.out.int hlt
      have HX := hid hxk
      have hwk : IntKind.i64.wrap ((k : Int) + 1) = (k : Int) + 1 := IntWalk.i64_in _ (by omega)
      clear hxk
      by_cases hb : badLit n x = true
      · have hrf : r = false := by
          rw [← HR.out, Bool.eq_false_iff]
          intro ha
          have := List.all_eq_true.1 ha x (List.mem_of_getElem? HX.out)
          rw [hb] at this
          cases this
        subst hrf
        rcases lit_bad_of hb with h0 | h0 | h0
        · have d0 : (x == 0) = true := by rw [h0]; rfl
          clear h0 hb
          go_wp2_with fail
          go_ret
          exact ⟨rfl, rfl⟩
        · have d0 : (x == 0) = false := by rw [beq_eq_false_iff_ne]; omega
          have d1 : decide ((n : Int) < x) = true := decide_eq_true h0
          clear h0 hb
          go_wp2_with fail
          go_ret
          exact ⟨rfl, rfl⟩
        · have d0 : (x == 0) = false := by rw [beq_eq_false_iff_ne]; omega
          have d1 : decide ((n : Int) < x) = false := decide_eq_false (by omega)
          have d2 : decide (x < -(n : Int)) = true := decide_eq_true h0
          clear h0 hb
          go_wp2_with fail
          go_ret
          exact ⟨rfl, rfl⟩
      · have hb' : badLit n x = false := by simpa using hb
        have hx := lit_ok_of hb'
        unfold LitOk at hx
        have d0 : (x == 0) = false := by rw [beq_eq_false_iff_ne]; exact hx.1
        have d1 : decide ((n : Int) < x) = false := decide_eq_false (by omega)
        have d2 : decide (x < -(n : Int)) = false := decide_eq_false (by omega)
        have HN := hid (take_any_succ HX.out hany.out hb')
        clear hb hb' hx
        go_wp2_with fail
        go_round
        case rel => exact ⟨k + 1, by simp, hlt, HN⟩
        case measure => simp [intOf]; omega
    · have hrt : r = true := by
        rw [← HR.out, List.all_eq_true]
        intro x hx
        have := List.any_eq_false.1 (take_all_false hlt hany.out) x hx
        simpa using this
      subst hrt
      go_wp2_with fail
      go_ret
      exact ⟨rfl, rfl⟩

end Go.Proofs.Ytacmfiikdbekbaa.Ord

/- The contracts of gate's New and write. -/
namespace Go.Proofs.Ytacmfiikdbekbaa.Ord
open Go.RowKit Go.Conc

attribute [local go_sem ↓] Go.wp_at_zero Go.wp_at_succ

theorem own_new {w : World} {B g e n : Nat} {xs : List Value} (h : w.heap[g]? = some (.cells xs.toArray e (0, 0))) (hB : B ≤ g) (hn : n = xs.length) (hm : n ≤ maxLen) : w.ownsRow B e 1 (.slice (some ⟨g, 0, none⟩) n n) n xs := by
  subst hn
  exact ⟨by omega, .inr ⟨g, _, xs.toArray, rfl, hB, h, Nat.le_refl _, hm, by simp, by simp⟩⟩

theorem ownT_newG {w : World} {b : Nat} {xs : List Int} {n : Nat} (h : w.heap[b]? = some (.cells (ints xs).toArray 3 (0, 0))) (hn : n = xs.length) {B : Nat} (hB : B ≤ b) : OwnT 3 w B (.slice (some ⟨b, 0, none⟩) n n) xs := by
  refine ⟨some ⟨b, 0, none⟩, n, by rw [hn], by omega, (fun e => by cases e), fun ad had => ?_⟩
  injection had with had
  refine ⟨b, 0, _, had.symm, hB, h, fun j x hj => ?_⟩
  simp [ints, hj]

theorem new_oneG {w : World} {g : Nat} {u : Value} {e : TypeId} (h : w.heap[g]? = some (.cells #[u] e (0, 0))) : ∀ (j : Nat) (x : Value), [u][j]? = some x → w.cell? ((⟨g, 0, none⟩ : Addr).add j) = some x := by
  intro j x hj
  cases j with
  | succ j => simp at hj
  | zero =>
    simp at hj
    subst hj
    simp [World.cell?, Addr.add, h]

set_option maxRecDepth 100000 in
set_option maxHeartbeats 1000000 in
theorem gate_New (w : World) (X : Nat → Prop) (hX : ∀ k, X k → k < w.heap.size) :
    Calls Try.prog 42 #[] w fun e w' => ∃ b, e = .returned (.pointer (some ⟨b, 0, none⟩)) ∧ GB X w' w.heap.size b 1 [[1]] ∧ Below w.heap.size w w' := by
  go_enter Try.func42, Try.ntmps42
  go_wp2_with fail
  generalize hW : World.alloc _ _ = wz
  have h0 : wz.heap[w.heap.size]? = some (.cells (ints [1]).toArray 3 (0, 0)) := by rw [← hW]; simp only [heap_al, Array.getElem?_push, Array.size_push]; rw [if_neg (by omega)]; rw [if_neg (by omega)]; rw [if_pos trivial]; rfl
  have h1 : wz.heap[w.heap.size + 1]? = some (.cells [.slice (some ⟨w.heap.size, 0, none⟩) 1 1].toArray 22 (0, 0)) := by rw [← hW]; simp only [heap_al, Array.getElem?_push, Array.size_push]; rw [if_neg (by omega)]; rw [if_pos trivial]
  have h2 : wz.heap[w.heap.size + 1 + 1]? = some (.cells #[.int .i64 (1 : Nat), .slice (some ⟨w.heap.size + 1, 0, none⟩) 1 1] 94) := by rw [← hW]; simp only [heap_al, Array.getElem?_push, Array.size_push]; rw [if_pos trivial]; try rfl
  have hB : Below w.heap.size w wz := by rw [← hW]; exact below_al (below_al (box_below _ _) (by simp only [size_al]; omega) _) (by simp only [size_al]; omega) _
  clear hW
  go_ret
  refine ⟨_, rfl, ⟨_, h2, ⟨_, own_new h1 (by omega) rfl (by unfold maxLen; omega), fun j c hj => ?_⟩, by omega, fun k hk => Nat.lt_of_lt_of_le (hX k hk) hB.size⟩, hB⟩
  match j, hj with
  | 0, hj => simp at hj; subst hj; exact ⟨_, rfl, ownT_newG h0 rfl (Nat.le_refl _), fun a n k e hx => by injection e with e; injection e with e; subst e; have := hX _ hx; simp at this⟩
  | j + 1, hj => simp at hj

/-- A row of a gate's clauses, its places filled in. -/
def gRow (at0 : List Int) (row : List Int) : List Int := row.map fun p => if p < 0 then -(at0.getD p.natAbs 0) else at0.getD p.natAbs 0

theorem gRow_step {at0 row : List Int} {k : Nat} {p y : Int} (hp : row[k]? = some p) (hy : at0[p.natAbs]? = some y) : gRow at0 (row.take (k + 1)) = gRow at0 (row.take k) ++ [if p < 0 then -y else y] := by
  unfold gRow
  rw [List.take_add_one, hp, List.map_append]
  simp [List.getD, hy]

theorem gRow_length (at0 row : List Int) : (gRow at0 row).length = row.length := by simp [gRow]

theorem gateT_row (kind : Nat) : ∀ c ∈ gateT kind, c.length ≤ 3 := by
  rcases kind with _ | _ | k
  · decide
  · decide
  · rw [show gateT (k + 1 + 1) = gateT 2 from rfl]; decide

theorem own_not_builder {w : World} {B b s n : Nat} {cs : Array Value} {v : Value} {xs : List Value} (h1 : w.heap[b]? = some (.cells cs 94 (0, 0))) (ho : w.ownsRow B 22 s v n xs) : some b ≠ v.ownBlock := by
  intro e
  rcases ho.2 with ⟨rfl, _⟩ | ⟨g', cap, cur, rfl, _, hg', _⟩
  · cases e
  · injection e with e
    have e : b = g' := e
    rw [← e, h1] at hg'
    injection hg' with hg'
    injection hg' with _ hg' _
    exact absurd hg' (by decide)

set_option maxRecDepth 100000 in
set_option maxHeartbeats 8000000 in
theorem gate_write {X : Nat → Prop} (w : World) (B b n : Nat) (G : List (List Int)) (kind : Nat) (al : Option Addr) (l : List Int) (m cp : Nat) (h : GB X w B b n G) (hn : n < 1048576) (hm : m = l.length) (hs : OwnT 3 w B (.slice al l.length cp) l) (hll : l.length ≤ 3) (hk : kind < 3) (hT : ∀ c ∈ gateT kind, ∀ p ∈ c, p.natAbs < 2 + l.length) (hG : G.length + 6 ≤ 1048576) (hlb : ∀ x ∈ l, -1048576 ≤ x ∧ x ≤ 1048576) :
    Calls Try.prog 59 #[.pointer (some ⟨b, 0, none⟩), .int .i64 kind, .slice al m cp] w fun e w' => e = .returned (.tuple #[.int .i64 ((n : Int) + 1), .int .i64 0]) ∧ GB X w' B b (n + 1) (G ++ (gateT kind).map (gRow (0 :: ((n : Int) + 1) :: l))) ∧ Gk B w w' := by
  subst hm
  obtain ⟨i0, hi0, hz0, hz1, hz2⟩ := info_parts info_intG
  obtain ⟨i1, hi1, hy0, hy1, hy2⟩ := info_parts info_intsG
  have HGB := hid h
  have HS := hid hs
  have HT := hid hT
  have HLB := hid hlb
  clear h hs hT hlb
  go_enter Try.func59, Try.ntmps59
  go_wp2_with fail
  refine (gate_clauses w).mono ?_
  rintro e w1 ⟨a0, a1, a2, rfl, ht0, ht1, ht2, hb1⟩
  obtain ⟨T, hTe⟩ : ∃ T, gateT kind = T := ⟨_, rfl⟩
  have hTl : T.length ≤ 6 := by
    rw [← hTe]
    rcases kind with _ | _ | k <;> simp [gateT]
  have hidx : ∃ aT, (∀ wx, (Instr.index 110 (.agg #[.slice a0 3 3, .slice a1 4 4, .slice a2 6 6]) (.int .i64 kind)).run Try.prog wx = .ok (.slice aT T.length T.length) wx) ∧ TB w1 w.heap.size aT T := by
    rw [← hTe]
    rcases kind with _ | _ | _ | k
    · exact ⟨a0, fun wx => by kernel_rfl, ht0⟩
    · exact ⟨a1, fun wx => by kernel_rfl, ht1⟩
    · exact ⟨a2, fun wx => by kernel_rfl, ht2⟩
    · omega
  obtain ⟨aT, hix, htb⟩ := hidx

  have hBw : B ≤ w.heap.size := by obtain ⟨v, q1, -, q3, -⟩ := HGB.out; have := (Array.getElem?_eq_some_iff.1 q1).1; omega
  obtain ⟨v, hv0, hr0, hBb, hXb⟩ := HGB.out
  have HXB := hid hXb
  clear hXb
  have hvl : ∀ g, v.ownBlock = some g → g < w.heap.size := fun g hg => by obtain ⟨vs, o1, -⟩ := hr0; exact (o1.lt g hg).2
  have hbw : b < w.heap.size := (Array.getElem?_eq_some_iff.1 hv0).1
  have hx1 : w1.heap[b]? = some (.cells #[.int .i64 n, v] 94) := (hb1.block b hbw).trans hv0
  have hr1 := hr0.below hb1
  obtain ⟨av, cv, rfl, -, -, -⟩ := hr0.shape
  have hc0 : w1.cell? ⟨b, 0, none⟩ = some (.int .i64 n) := fit_cell (vs := [.int .i64 n, .slice av G.length cv]) hx1 0
  have hc1 : w1.cell? ⟨b, 1, none⟩ = some (.slice av G.length cv) := fit_cell (vs := [.int .i64 n, .slice av G.length cv]) hx1 1
  have hf0 : w1.frozen? ⟨b, 0, none⟩ = false := frozen_of_row _ _ _ _ _ hx1
  have hk1 : Gk B w w1 := Gk.of_below hb1 hBw
  have hkS : Gk B w1 (w1.setCell ⟨b, 0, none⟩ (.int .i64 ((n : Int) + 1))) := Gk.set hx1 hBb _
  have hxS : (w1.setCell ⟨b, 0, none⟩ (.int .i64 ((n : Int) + 1))).heap[b]? = some (.cells #[.int .i64 ((n : Int) + 1), .slice av G.length cv] 94) := heap_setCell_same w1 b 0 #[.int .i64 n, .slice av G.length cv] 94 _ hx1
  have hrS : OwnRtX X (w1.setCell ⟨b, 0, none⟩ (.int .i64 ((n : Int) + 1))) B (.slice av G.length cv) G := rtX_setBuilder hx1 hr1 hBb
  obtain ⟨gT, tvs, rfl, hgT, hgh, hgr⟩ := htb
  have hghS : (w1.setCell ⟨b, 0, none⟩ (.int .i64 ((n : Int) + 1))).heap[gT]? = some (.cells tvs.toArray 22 (0, 0)) := (heap_setCell_other w1 ⟨b, 0, none⟩ gT _ (by show gT ≠ b; omega)).trans hgh
  have hszS : (w1.setCell ⟨b, 0, none⟩ (.int .i64 ((n : Int) + 1))).heap.size = w1.heap.size := by simp [World.setCell]
  have hwsz : w.heap.size ≤ w1.heap.size := hb1.size
  have hwn : IntKind.i64.wrap ((n : Int) + 1) = (n : Int) + 1 := IntWalk.i64_in _ (by omega)
  have hwT : IntKind.i64.wrap ((G.length : Int) + T.length) = (G.length : Int) + T.length := IntWalk.i64_in _ (by omega)
  have d1 : ((n : Int) == 1048576) = false := by rw [beq_eq_false_iff_ne]; omega
  have d2 : decide ((1048576 : Int) < (G.length : Int) + T.length) = false := decide_eq_false (by omega)
  have HSI := hid (fun (wx : World) (hk : Gk B w wx) => ownT_gk HS.out hk)
  have HKS := hid (hk1.trans hkS)
  have HXS := hid hxS
  have HRS := hid hrS
  have HGHS := hid hghS
  have HGR := hid (fun j c hj => let ⟨u, e1, e2⟩ := hgr j c hj; (⟨u, e1, ownT_gk e2 hkS⟩ : ∃ u, tvs[j]? = some u ∧ OwnT 3 (w1.setCell ⟨b, 0, none⟩ (.int .i64 ((n : Int) + 1))) w.heap.size u c))
  have HVL := hid hvl
  have HTE := hid hTe
  have hcS0 : (w1.setCell ⟨b, 0, none⟩ (.int .i64 ((n : Int) + 1))).cell? ⟨b, 0, none⟩ = some (.int .i64 ((n : Int) + 1)) := fit_cell (vs := [.int .i64 ((n : Int) + 1), .slice av G.length cv]) hxS 0
  clear ht0 ht1 ht2 hb1 hv0 hr0 hx1 hr1 hk1 hkS hxS hrS hgh hgr hghS hvl hTe
  have hAl : ∀ o, OwnT 3 ((w1.setCell ⟨b, 0, none⟩ (.int .i64 ((n : Int) + 1))).alloc o) B (.slice al l.length cp) l := fun o => HSI.out _ (HKS.out.trans (Gk.of_below (box_below _ _) (by rw [hszS]; omega)))
  have hSl : ∀ o, SlV ((w1.setCell ⟨b, 0, none⟩ (.int .i64 ((n : Int) + 1))).alloc o) al (ints l) ∧ (al = none → cp = 0) := fun o => by
    obtain ⟨q1, q2, q3, q4, q5, -⟩ := hAl o
    obtain ⟨r1, r2, r3, r4, r5, r6⟩ := (hAl o).sli
    injection q3 with q3 _ q6
    injection r3 with r3 _ r7
    subst q3 q6 r3 r7
    exact ⟨r6, q5⟩
  have HSL := hid hSl
  have HONE : Hid (∀ u ∈ ints l, u.oneCell' = true) := hid (fun u hu => by simp [ints] at hu; obtain ⟨x, -, rfl⟩ := hu; rfl)
  have HLM : Hid (2 + l.length ≤ maxLen ∧ (2 + l.length) * 8 ≤ 140737488355328) := hid (by unfold maxLen; omega)
  have HNW : Hid (∀ o, o = Obj.cells (ints [0, (n : Int) + 1]).toArray 3 (0, 0) → ((w1.setCell ⟨b, 0, none⟩ (.int .i64 ((n : Int) + 1))).alloc o).ownsRow w1.heap.size 3 1 (.slice (some ⟨w1.heap.size, 0, none⟩) 2 2) 2 (ints [0, (n : Int) + 1])) := hid (fun o ho => by
    subst ho
    exact own_new (by rw [← hszS]; exact heap_alloc_new _ _) (Nat.le_refl _) rfl (by unfold maxLen; omega))
  clear hAl hSl
  go_wp2_with (at_builtin; refine wpList_append_sl _ rfl _ _ 22 rfl w1.heap.size 3 i0 (.int .i64 0) 8 Try.underlying22 hi0 hz0 hz1 hz2 rfl (.slice (some ⟨w1.heap.size, 0, none⟩) 2 2) 2 (ints [0, (n : Int) + 1]) rfl (HNW.out _ rfl) al l.length cp (ints l) rfl (HSL.out _).1 (by simp) (HSL.out (.cells #[] 0)).2 HONE.out (by exact HLM.out.1) (by exact HLM.out.2) (by simp) ?_; intro v9 w9 ho9 hg9; have HO9 := hid ho9; have HG9 := hid hg9; clear ho9 hg9)
  obtain ⟨a9, c9, rfl⟩ := own_lenV' HO9.out
  have hb9 : Below (w1.setCell ⟨b, 0, none⟩ (.int .i64 ((n : Int) + 1))).heap.size (w1.setCell ⟨b, 0, none⟩ (.int .i64 ((n : Int) + 1))) w9 := ((Below.refl _ (w1.setCell ⟨b, 0, none⟩ (.int .i64 ((n : Int) + 1)))).alloc (Nat.le_refl _) _).grown HG9.out (by simp) (fun q hq => by injection hq with hq; have hq : w1.heap.size = q := hq; rw [← hq, hszS]; exact Nat.le_refl _)
  have HK9 : Hid (Gk B w w9) := hid (HKS.out.trans (Gk.of_below hb9 (by rw [hszS]; omega)))
  have HX9 : Hid (w9.heap[b]? = some (.cells #[.int .i64 ((n : Int) + 1), .slice av G.length cv] 94)) := hid ((hb9.block b (by rw [hszS]; omega)).trans HXS.out)
  have HR9 : Hid (OwnRtX X w9 B (.slice av G.length cv) G) := hid (HRS.out.below hb9)
  have hgl : gT < w1.heap.size := by rw [← hszS]; exact (Array.getElem?_eq_some_iff.1 HGHS.out).1
  have HGH9 : Hid (w9.heap[gT]? = some (.cells tvs.toArray 22 (0, 0))) := hid ((hb9.block gT (by rw [hszS]; exact hgl)).trans HGHS.out)
  have HGR9 := hid (fun j c hj => let ⟨u, e1, e2⟩ := HGR.out j c hj; (⟨u, e1, e2.below hb9⟩ : ∃ u, tvs[j]? = some u ∧ OwnT 3 w9 w.heap.size u c))
  have hz9 : w1.heap.size ≤ w9.heap.size := by have := hb9.size; rw [hszS] at this; exact this
  obtain ⟨at0, hat0⟩ : ∃ at0, (0 : Int) :: ((n : Int) + 1) :: l = at0 := ⟨_, rfl⟩
  have hal : at0.length = 2 + l.length := by rw [← hat0]; simp; omega
  have HAT : Hid (OwnT 3 w9 w.heap.size (.slice a9 (2 + l.length) c9) at0) := hid (by
    have h1 := HO9.out
    rw [← ints_append, show [0, (n : Int) + 1] ++ l = at0 from hat0] at h1
    exact (ownT_of_own h1).base hwsz)
  have HAB : Hid (∀ x ∈ at0, -1048576 ≤ x ∧ x ≤ 1048576) := hid (fun x hx => by
    rw [← hat0] at hx
    simp at hx
    rcases hx with rfl | rfl | hx
    · omega
    · omega
    · exact HLB.out x hx)
  have HA0 := hid hat0
  have HAL := hid hal
  clear hb9 HO9 HG9 HGHS HGR HXS HRS HKS HSI HSL hc0 hc1 hf0 hcS0 hix hwn hwT d1 d2 hat0 hal
  go_loopw [55] (fun s55 wr => ∃ (j : Nat) (av' : Option Addr) (cv' : Nat), s55 = .int .i64 j ∧ j ≤ T.length ∧ Hid (wr.heap[b]? = some (.cells #[.int .i64 ((n : Int) + 1), .slice av' (G.length + j) cv'] 94)) ∧ Hid (OwnRtX X wr B (.slice av' (G.length + j) cv') (G ++ (T.take j).map (gRow at0))) ∧ Hid (Gk B w9 wr) ∧ Hid (wr.heap[gT]? = some (.cells tvs.toArray 22 (0, 0))) ∧ Hid (∀ g, (Value.slice av' (G.length + j) cv').ownBlock = some g → g < w.heap.size ∨ w9.heap.size ≤ g) ∧ w9.heap.size ≤ wr.heap.size) (fun s55 _ => (T.length - (intOf s55)).toNat)
  case atStart => exact ⟨0, av, cv, rfl, Nat.zero_le _, HX9, hid (by simpa using HR9.out), hid (Gk.refl _ _), HGH9, hid (fun g hg => .inl (HVL.out g hg)), Nat.le_refl _⟩
  case round =>
    clear HX9 HR9 HGH9
    obtain ⟨j, av', cv', rfl, hj, HX, HR, HK, HGH, HOB, hszr⟩ := hrel
    have hc0 : wr.cell? ⟨b, 0, none⟩ = some (.int .i64 ((n : Int) + 1)) := fit_cell (vs := [.int .i64 ((n : Int) + 1), .slice av' (G.length + j) cv']) HX.out 0
    have hc1 : wr.cell? ⟨b, 1, none⟩ = some (.slice av' (G.length + j) cv') := fit_cell (vs := [.int .i64 ((n : Int) + 1), .slice av' (G.length + j) cv']) HX.out 1
    by_cases hjl : j < T.length
    · obtain ⟨row, hrow⟩ : ∃ row, T[j]? = some row := ⟨_, List.getElem?_eq_getElem hjl⟩
      obtain ⟨u, hu1, hu2⟩ := HGR9.out j row hrow
      have hu3 := ownT_gk hu2 HK.out
      obtain ⟨ar, cr, rfl, -, -, hsr⟩ := hu3.sli
      have hcr : wr.cell? ⟨gT, 0 + j, none⟩ = some (.slice ar row.length cr) := by rw [Nat.zero_add, fit_cell HGH.out j]; exact hu1
      have hcr' : wr.cell? ⟨gT, j, none⟩ = some (.slice ar row.length cr) := by rw [fit_cell HGH.out j]; exact hu1
      have HSR := hid hsr
      have HROW := hid hrow
      have HRT := hid (HT.out row (by rw [HTE.out]; exact List.mem_of_getElem? hrow))
      have hrl : row.length ≤ 3 := gateT_row kind row (by rw [HTE.out]; exact List.mem_of_getElem? hrow)
      have hwj : IntKind.i64.wrap ((j : Int) + 1) = (j : Int) + 1 := IntWalk.i64_in _ (by omega)
      have hj2 : (j : Int) < T.length := by omega
      clear hrow hu1 hu2 hu3 hsr
      obtain ⟨wo, rfl⟩ : ∃ wo : World, wo = wr := ⟨_, rfl⟩
      go_wp2_with fail
      have HO0 : Hid (wo.ownsRow wo.heap.size 3 1 (.slice none 0 0) 0 (ints (gRow at0 (row.take 0)))) := hid (World.ownsRow_nil _ _ _ _)
      have HPC := hid (And.intro hc0 hc1)
      clear hwj hc0 hc1 hcr hcr'
      go_loopw [12, 61] (fun s12 s61 wq => ∃ k : Nat, s61 = .int .i64 k ∧ k ≤ row.length ∧ Hid (wq.ownsRow wo.heap.size 3 1 s12 k (ints (gRow at0 (row.take k)))) ∧ Hid (Below wo.heap.size wo wq) ∧ wo.heap.size ≤ wq.heap.size) (fun _ s61 _ => (row.length - (intOf s61)).toNat)
      case atStart => exact ⟨0, rfl, Nat.zero_le _, HO0, hid (Below.refl _ _), Nat.le_refl _⟩
      case round =>
        clear HO0
        obtain ⟨k, rfl, hk2, HQ, HBQ, hszq⟩ := hrel
        by_cases hkl : k < row.length
        · obtain ⟨bx, ox, p, rfl, hcx, hxk⟩ := (HSR.out.below HBQ.out).int hkl
          have hpl := HRT.out p (List.mem_of_getElem? hxk)
          obtain ⟨q, hq⟩ : ∃ q, p.natAbs = q := ⟨_, rfl⟩
          have hql : q < at0.length := by rw [HAL.out]; omega
          have hat2 := (ownT_gk HAT.out (HK.out.trans (Gk.of_below HBQ.out (by have := HK9.out.below.size; omega)))).sli
          obtain ⟨a9', c9', e9, -, -, hs9⟩ := hat2
          injection e9 with e9 e10 e11
          subst e9 e11
          obtain ⟨by1, oy1, y, rfl, hcy, hyq⟩ := hs9.int hql
          have hyb := HAB.out y (List.mem_of_getElem? hyq)
          have hq1 : (q : Int) < 2 + (l.length : Int) := by omega
          have hq2 : q < 2 + l.length := by omega
          have hkl2 : (k : Int) < row.length := by omega
          have hwk : IntKind.i64.wrap ((k : Int) + 1) = (k : Int) + 1 := IntWalk.i64_in _ (by omega)
          have hwy : IntKind.i64.wrap (-y) = -y := IntWalk.i64_in _ (by omega)
          have HLK : Hid (k + 1 ≤ maxLen ∧ (k + 1) * 8 ≤ 140737488355328) := hid (by unfold maxLen; omega)
          clear e10 hs9
          by_cases hp0 : p < 0
          · have HST : Hid (ints (gRow at0 (row.take (k + 1))) = ints (gRow at0 (row.take k)) ++ [.int .i64 (-y)]) := hid (by rw [gRow_step hxk (by rw [hq]; exact hyq), if_pos hp0]; simp [ints])
            have d3 : decide (p < 0) = true := decide_eq_true hp0
            have hwp : IntKind.i64.wrap (-p) = (q : Int) := by rw [IntWalk.i64_in _ (by omega)]; omega
            clear hxk hyq hq hpl hyb hp0
            go_wp2_with (at_builtin; refine wpList_append_own _ rfl _ _ 22 rfl wo.heap.size 3 i0 (.int .i64 0) 1 8 Try.underlying22 hi0 hz0 hz1 hz2 rfl (by decide) _ _ _ rfl (HQ.out.alloc _) ⟨wr.heap.size, 0, none⟩ 1 1 [.int .i64 (-y)] rfl rfl ?c1 one_int (by exact HLK.out.1) (by exact HLK.out.2) (by simp only [size_al]; exact Nat.le_succ_of_le hszq) ?_)
            case c1 => exact new_oneG (heap_alloc_new _ _)
            intro v8 w8 ho8 hg8 _
            have HQ8 : Hid (w8.ownsRow wo.heap.size 3 1 v8 (k + 1) (ints (gRow at0 (row.take (k + 1))))) := hid (by rw [HST.out]; exact ho8)
            have HB8 : Hid (Below wo.heap.size wo w8) := hid (HBQ.out.trans (((Below.refl _ wr).alloc HBQ.out.size _).grown hg8 (by have := HBQ.out.size; simp only [size_al]; omega) fun q hq => (HQ.out.lt q hq).1))
            have hsz8 : wo.heap.size ≤ w8.heap.size := HB8.out.size
            clear ho8 hg8
            go_wp2_with fail
            go_roundw
            case rel => exact ⟨k + 1, by simp, hkl, HQ8, HB8, hsz8⟩
            case measure => simp [intOf]; omega
          · have HST : Hid (ints (gRow at0 (row.take (k + 1))) = ints (gRow at0 (row.take k)) ++ [.int .i64 y]) := hid (by rw [gRow_step hxk (by rw [hq]; exact hyq), if_neg hp0]; simp [ints])
            have hpq : p = (q : Int) := by omega
            have d3 : decide ((q : Int) < 0) = false := decide_eq_false (by omega)
            subst hpq
            clear hxk hyq hq hpl hyb hp0
            go_wp2_with (at_builtin; refine wpList_append_own _ rfl _ _ 22 rfl wo.heap.size 3 i0 (.int .i64 0) 1 8 Try.underlying22 hi0 hz0 hz1 hz2 rfl (by decide) _ _ _ rfl (HQ.out.alloc _) ⟨wr.heap.size, 0, none⟩ 1 1 [.int .i64 (y)] rfl rfl ?c1 one_int (by exact HLK.out.1) (by exact HLK.out.2) (by simp only [size_al]; exact Nat.le_succ_of_le hszq) ?_)
            case c1 => exact new_oneG (heap_alloc_new _ _)
            intro v8 w8 ho8 hg8 _
            have HQ8 : Hid (w8.ownsRow wo.heap.size 3 1 v8 (k + 1) (ints (gRow at0 (row.take (k + 1))))) := hid (by rw [HST.out]; exact ho8)
            have HB8 : Hid (Below wo.heap.size wo w8) := hid (HBQ.out.trans (((Below.refl _ wr).alloc HBQ.out.size _).grown hg8 (by have := HBQ.out.size; simp only [size_al]; omega) fun q hq => (HQ.out.lt q hq).1))
            have hsz8 : wo.heap.size ≤ w8.heap.size := HB8.out.size
            clear ho8 hg8
            go_wp2_with fail
            go_roundw
            case rel => exact ⟨k + 1, by simp, hkl, HQ8, HB8, hsz8⟩
            case measure => simp [intOf]; omega
        · have hkr : k = row.length := by omega
          have HQ2 : Hid (wr.ownsRow wo.heap.size 3 1 u12 row.length (ints (gRow at0 row))) := hid (by have := HQ.out; rwa [hkr, List.take_of_length_le (Nat.le_refl _)] at this)
          clear HQ hkr
          obtain ⟨a12, c12, rfl⟩ := own_lenV' HQ2.out
          have hbo : b < wo.heap.size := (Array.getElem?_eq_some_iff.1 HX.out).1
          have hgo : gT < wo.heap.size := by have := (Array.getElem?_eq_some_iff.1 HGH.out).1; omega
          have hX2 : wr.heap[b]? = some (.cells #[.int .i64 ((n : Int) + 1), .slice av' (G.length + j) cv'] 94) := (HBQ.out.block b hbo).trans HX.out
          have hGH2 : wr.heap[gT]? = some (.cells tvs.toArray 22 (0, 0)) := (HBQ.out.block gT hgo).trans HGH.out
          have hR2 := HR.out.below HBQ.out
          obtain ⟨vs, ho, hvs⟩ := hR2
          have hlen : (G ++ (T.take j).map (gRow at0)).length = G.length + j := by simp; omega
          rw [hlen] at ho
          obtain ⟨gl, hgle⟩ : ∃ gl, G.length + j = gl := ⟨_, rfl⟩
          have hgl2 : gl ≤ 1048576 := by omega
          have HGE := hid hgle
          rw [hgle] at HOB
          have hc0 : wr.cell? ⟨b, 0, none⟩ = some (.int .i64 ((n : Int) + 1)) := fit_cell (vs := [.int .i64 ((n : Int) + 1), .slice av' (G.length + j) cv']) hX2 0
          have hc1 : wr.cell? ⟨b, 1, none⟩ = some (.slice av' (G.length + j) cv') := fit_cell (vs := [.int .i64 ((n : Int) + 1), .slice av' (G.length + j) cv']) hX2 1
          rw [hgle] at ho hX2 hc1
          have HX2 := hid hX2
          have HGH2 := hid hGH2
          have HO2 := hid ho
          have HVS := hid hvs
          have HLEN := hid hlen
          have HCO : Hid (OwnTX X wr B (.slice a12 row.length c12) (gRow at0 row)) := hid (ownTX_own HQ2.out (fun k hk => by have := HXB.out k hk; have := HK.out.below.size; have := HK9.out.below.size; omega) (by have := HK.out.below.size; have := HK9.out.below.size; omega))
          have HON2 : Hid (∀ u ∈ [Value.slice a12 row.length c12], u.oneCell' = true) := by
            intro u hu
            simp at hu
            subst hu
            rfl
          have HLK : Hid (gl + 1 ≤ maxLen ∧ (gl + 1) * 24 ≤ 140737488355328) := hid (by unfold maxLen; omega)
          have hBr : B ≤ wr.heap.size := by have := HK.out.below.size; have := HK9.out.below.size; omega
          have HKW : Hid (Gk B w9 wr) := hid (HK.out.trans (Gk.of_below HBQ.out (by omega)))
          have hwj : IntKind.i64.wrap ((j : Int) + 1) = (j : Int) + 1 := IntWalk.i64_in _ (by omega)
          clear hX2 hGH2 ho hvs hlen hgle
          go_wp2_with (at_builtin; refine wpList_append_own_at _ rfl _ _ 32 rfl B 22 i1 (.slice none 0 0) 1 24 Try.underlying32 hi1 hy0 hy1 hy2 rfl (by decide) _ _ _ rfl (HO2.out.alloc _) ⟨wr.heap.size, 0, none⟩ 1 1 [.slice a12 row.length c12] rfl rfl ?c2 HON2.out (by exact HLK.out.1) (by exact HLK.out.2) (by simp only [size_al]; exact Nat.le_succ_of_le hBr) ?_)
          case c2 => exact new_oneG (heap_alloc_new _ _)
          intro v8 w8 ho8 hg8 _ ha8
          obtain ⟨a8, c8, rfl⟩ := own_lenV' ho8
          have hx8 : w8.heap[b]? = some (.cells #[.int .i64 ((n : Int) + 1), .slice av' gl cv'] 94) := (hg8.block b (by have := (Array.getElem?_eq_some_iff.1 HX2.out).1; simp only [size_al]; omega) (own_not_builder HX2.out HO2.out)).trans ((Below.heap_alloc _ _ _ (Array.getElem?_eq_some_iff.1 HX2.out).1).trans HX2.out)
          have hgw9 : gT < w9.heap.size := by omega
          have hgT8 : w8.heap[gT]? = some (.cells tvs.toArray 22 (0, 0)) := (hg8.block gT (by have := (Array.getElem?_eq_some_iff.1 HGH2.out).1; simp only [size_al]; omega) (fun e => by have := HOB.out gT e.symm; omega)).trans ((Below.heap_alloc _ _ _ (Array.getElem?_eq_some_iff.1 HGH2.out).1).trans HGH2.out)
          have hP8 : OwnRtX X w8 B (.slice a8 (gl + 1) c8) ((G ++ (T.take j).map (gRow at0)) ++ [gRow at0 row]) :=
            OwnRtX.push (by rw [HLEN.out, HGE.out]; exact HO2.out.alloc _) (fun i d hd => let ⟨u, e1, e2⟩ := HVS.out i d hd; ⟨u, e1, e2.below (box_below _ _)⟩) (HCO.out.below (box_below _ _)) (by rw [HLEN.out, HGE.out]; exact ho8) hg8
          have hk8 : Gk B w9 w8 := HKW.out.trans ((Gk.of_below (box_below wr _) hBr).trans (Gk.grown (HO2.out.alloc _) (by simp only [size_al]; omega) hg8))
          have hTK : G ++ (T.take (j + 1)).map (gRow at0) = (G ++ (T.take j).map (gRow at0)) ++ [gRow at0 row] := by rw [List.take_add_one, HROW.out]; simp
          have hob8 : ∀ g, (Value.slice a8 (gl + 1) c8).ownBlock = some g → g < w.heap.size ∨ w9.heap.size ≤ g := fun g hg => by
            rcases ha8 with e | e
            · exact HOB.out g (e.symm.trans hg)
            · rw [e] at hg
              injection hg with hg
              right; omega
          have hr1 : w8.cell? ⟨b, 1, none⟩ = some (.slice av' gl cv') := fit_cell (vs := [.int .i64 ((n : Int) + 1), .slice av' gl cv']) hx8 1
          have hr2 : w8.frozen? ⟨b, 1, none⟩ = false := frozen_of_row _ _ _ _ _ hx8
          have hgl1 : G.length + (j + 1) = gl + 1 := by have := HGE.out; omega
          have HGL1 := hid hgl1
          have HXN : Hid ((w8.setCell ⟨b, 1, none⟩ (.slice a8 (gl + 1) c8)).heap[b]? = some (.cells #[.int .i64 ((n : Int) + 1), .slice a8 (gl + 1) c8] 94)) := hid (heap_setCell_same w8 b 1 #[.int .i64 ((n : Int) + 1), .slice av' gl cv'] 94 _ hx8)
          have HRN : Hid (OwnRtX X (w8.setCell ⟨b, 1, none⟩ (.slice a8 (gl + 1) c8)) B (.slice a8 (gl + 1) c8) (G ++ (T.take (j + 1)).map (gRow at0))) := hid (by rw [hTK]; exact rtX_setBuilder hx8 hP8 hBb)
          have HKN : Hid (Gk B w9 (w8.setCell ⟨b, 1, none⟩ (.slice a8 (gl + 1) c8))) := hid (hk8.trans (Gk.set hx8 hBb _))
          have HGN : Hid ((w8.setCell ⟨b, 1, none⟩ (.slice a8 (gl + 1) c8)).heap[gT]? = some (.cells tvs.toArray 22 (0, 0))) := hid ((heap_setCell_other w8 ⟨b, 1, none⟩ gT _ (by show gT ≠ b; omega)).trans hgT8)
          have HON := hid hob8
          have HSN : Hid (w9.heap.size ≤ (w8.setCell ⟨b, 1, none⟩ (.slice a8 (gl + 1) c8)).heap.size) := hid (by have := hg8.size; simp only [size_al] at this; simp only [World.setCell]; first | omega | (simp; omega))
          clear ho8 hg8 ha8 hx8 hgT8 hP8 hk8 hTK hob8 hgl1 hc0 hc1
          go_wp2_with fail
          go_roundw
          case rel => exact ⟨j + 1, a8, c8, by simp, hjl, (by rw [HGL1.out]; exact HXN), (by rw [HGL1.out]; exact HRN), HKN, HGN, (by rw [HGL1.out]; exact HON), HSN.out⟩
          case measure => simp [intOf]; omega
    · have hjT : j = T.length := by omega
      have HRE : Hid (OwnRtX X wr B (.slice av' (G.length + j) cv') (G ++ (gateT kind).map (gRow (0 :: ((n : Int) + 1) :: l)))) := hid (by have := HR.out; rw [hjT, List.take_of_length_le (Nat.le_refl _), ← HTE.out, ← HA0.out] at this; rw [hjT, ← HTE.out]; exact this)
      have HKE := hid (HK9.out.trans HK.out)
      clear hjT
      go_wp2_with fail
      go_ret2
      exact ⟨rfl, ⟨_, HX.out, HRE.out, hBb, fun k hk => Nat.lt_of_lt_of_le (HXB.out k hk) HKE.out.below.size⟩, HKE.out⟩

end Go.Proofs.Ytacmfiikdbekbaa.Ord

/- The contracts of gate's And and Or. -/
namespace Go.Proofs.Ytacmfiikdbekbaa.Ord
open Go.RowKit Go.Conc

attribute [local go_sem ↓] Go.wp_at_zero Go.wp_at_succ

/-- What And gives: its literal, the number of variables and the clauses behind it. -/
def gAnd (n : Nat) (G : List (List Int)) (x y : Int) : Int × Nat × List (List Int) :=
  if x = y ∨ y = 1 then (x, n, G) else if x = 1 then (y, n, G) else if x = -y ∨ x = -1 ∨ y = -1 then (-1, n, G) else ((n : Int) + 1, n + 1, G ++ (gateT 0).map (gRow [0, (n : Int) + 1, x, y]))

theorem not_bad {n : Nat} {x : Int} (h : LitOk n x) : badLit n x = false := by
  unfold LitOk at h
  simp [badLit]
  omega

set_option maxRecDepth 100000 in
set_option maxHeartbeats 4000000 in
theorem gate_And {X : Nat → Prop} (w : World) (B b n : Nat) (G : List (List Int)) (x y : Int) (h : GB X w B b n G) (hx : LitOk n x) (hy : LitOk n y) (hn : n < 1048576) (hG : G.length + 6 ≤ 1048576) :
    Calls Try.prog 36 #[.pointer (some ⟨b, 0, none⟩), .int .i64 x, .int .i64 y] w fun e w' => e = .returned (.tuple #[.int .i64 (gAnd n G x y).1, .int .i64 0]) ∧ GB X w' B b (gAnd n G x y).2.1 (gAnd n G x y).2.2 ∧ Gk B w w' := by
  have hBw : B ≤ w.heap.size := by obtain ⟨v, q1, -, q3, -⟩ := h; have := (Array.getElem?_eq_some_iff.1 q1).1; omega
  have hall : [x, y].all (fun a => !badLit n a) = true := by simp [not_bad hx, not_bad hy]
  have HH := hid (gate_has (w.alloc (.cells (ints [x, y]).toArray 3 (0, 0))) B b n G (some ⟨w.heap.size, 0, none⟩) [x, y] 2 2 true (h.below (box_below _ _)) (by omega) rfl (slv_at (heap_alloc_new _ _)) (by simp) hall)
  have HB1 := hid (h.below (box_below w (.cells (ints [x, y]).toArray 3 (0, 0))))
  have HK1 : Hid (Gk B w (w.alloc (.cells (ints [x, y]).toArray 3 (0, 0)))) := hid (Gk.of_below (box_below _ _) hBw)
  have hxb : -1048576 ≤ x ∧ x ≤ 1048576 := by unfold LitOk at hx; omega
  have hyb : -1048576 ≤ y ∧ y ≤ 1048576 := by unfold LitOk at hy; omega
  have hny : IntKind.i64.wrap (-y) = -y := IntWalk.i64_in _ (by omega)
  have HG := hid hG
  have HN := hid hn
  have HXB := hid hxb
  have HYB := hid hyb
  have hBw1 : B ≤ (w.alloc (.cells (ints [x, y]).toArray 3 (0, 0))).heap.size := by simp only [size_al]; omega
  have HW2 := hid (gate_write ((w.alloc (.cells (ints [x, y]).toArray 3 (0, 0))).alloc (.cells (ints [x, y]).toArray 3 (0, 0))) B b n G 0 (some ⟨w.heap.size + 1, 0, none⟩) [x, y] 2 2 (HB1.out.below (box_below _ _)) hn rfl (ownT_newG (by rw [← size_al w _]; exact heap_alloc_new _ _) rfl (by omega)) (by simp) (by omega) (by show ∀ c ∈ gateT 0, ∀ p ∈ c, p.natAbs < 4; decide) hG (fun z hz => by simp at hz; rcases hz with rfl | rfl <;> assumption))
  have HK2 : Hid (Gk B w ((w.alloc (.cells (ints [x, y]).toArray 3 (0, 0))).alloc (.cells (ints [x, y]).toArray 3 (0, 0)))) := hid (HK1.out.trans (Gk.of_below (box_below _ _) hBw1))
  clear h hx hy hall hG hn hxb hyb hBw1
  unfold gAnd
  by_cases c1 : x = y
  · have d1 : (x == y) = true := by rw [beq_iff_eq]; exact c1
    rw [if_pos (.inl c1)]
    clear c1
    go_enter Try.func36, Try.ntmps36
    go_wp2_with fail
    refine HH.out.mono ?_
    rintro e w2 ⟨rfl, rfl⟩
    go_wp2_with fail
    go_ret2
    exact ⟨rfl, HB1.out, HK1.out⟩
  · have d1 : (x == y) = false := by rw [beq_eq_false_iff_ne]; exact c1
    by_cases c2 : y = 1
    · have d2 : (y == 1) = true := by rw [beq_iff_eq]; exact c2
      rw [if_pos (.inr c2)]
      clear c1 c2
      go_enter Try.func36, Try.ntmps36
      go_wp2_with fail
      refine HH.out.mono ?_
      rintro e w2 ⟨rfl, rfl⟩
      go_wp2_with fail
      go_ret2
      exact ⟨rfl, HB1.out, HK1.out⟩
    · have d2 : (y == 1) = false := by rw [beq_eq_false_iff_ne]; exact c2
      rw [if_neg (by rintro (h | h); exact c1 h; exact c2 h)]
      by_cases c3 : x = 1
      · have d3 : (x == 1) = true := by rw [beq_iff_eq]; exact c3
        rw [if_pos c3]
        clear c1 c2 c3
        go_enter Try.func36, Try.ntmps36
        go_wp2_with fail
        refine HH.out.mono ?_
        rintro e w2 ⟨rfl, rfl⟩
        go_wp2_with fail
        go_ret2
        exact ⟨rfl, HB1.out, HK1.out⟩
      · have d3 : (x == 1) = false := by rw [beq_eq_false_iff_ne]; exact c3
        rw [if_neg c3]
        by_cases c4 : x = -y ∨ x = -1 ∨ y = -1
        · rw [if_pos c4]
          have HC := hid c4
          by_cases c5 : x = -y
          · have d5 : (x == -y) = true := by rw [beq_iff_eq]; exact c5
            clear c1 c2 c3 c4 c5
            go_enter Try.func36, Try.ntmps36
            go_wp2_with fail
            refine HH.out.mono ?_
            rintro e w2 ⟨rfl, rfl⟩
            go_wp2_with fail
            go_ret2
            exact ⟨rfl, HB1.out, HK1.out⟩
          · have d5 : (x == -y) = false := by rw [beq_eq_false_iff_ne]; exact c5
            by_cases c6 : x = -1
            · have d6 : (x == -1) = true := by rw [beq_iff_eq]; exact c6
              clear c1 c2 c3 c4 c5 c6
              go_enter Try.func36, Try.ntmps36
              go_wp2_with fail
              refine HH.out.mono ?_
              rintro e w2 ⟨rfl, rfl⟩
              go_wp2_with fail
              go_ret2
              exact ⟨rfl, HB1.out, HK1.out⟩
            · have d6 : (x == -1) = false := by rw [beq_eq_false_iff_ne]; exact c6
              have d7 : (y == -1) = true := by rw [beq_iff_eq]; rcases c4 with h | h | h; exact absurd h c5; exact absurd h c6; exact h
              clear c1 c2 c3 c4 c5 c6
              go_enter Try.func36, Try.ntmps36
              go_wp2_with fail
              refine HH.out.mono ?_
              rintro e w2 ⟨rfl, rfl⟩
              go_wp2_with fail
              go_ret2
              exact ⟨rfl, HB1.out, HK1.out⟩
        · rw [if_neg c4]
          have d5 : (x == -y) = false := by rw [beq_eq_false_iff_ne]; exact fun h => c4 (.inl h)
          have d6 : (x == -1) = false := by rw [beq_eq_false_iff_ne]; exact fun h => c4 (.inr (.inl h))
          have d7 : (y == -1) = false := by rw [beq_eq_false_iff_ne]; exact fun h => c4 (.inr (.inr h))
          clear c1 c2 c3 c4
          go_enter Try.func36, Try.ntmps36
          go_wp2_with fail
          refine HH.out.mono ?_
          rintro e w2 ⟨rfl, rfl⟩
          go_wp2_with fail
          refine HW2.out.mono ?_
          rintro e w3 ⟨rfl, h3, k3⟩
          have H3 := hid h3
          have K3 := hid (HK2.out.trans k3)
          clear h3 k3
          go_wp2_with fail
          go_ret2
          exact ⟨rfl, H3.out, K3.out⟩

end Go.Proofs.Ytacmfiikdbekbaa.Ord

/- The contracts of gate's Or, Mux and Xor. -/
namespace Go.Proofs.Ytacmfiikdbekbaa.Ord
open Go.RowKit Go.Conc

attribute [local go_sem ↓] Go.wp_at_zero Go.wp_at_succ

/-- What Or gives. -/
def gOr (n : Nat) (G : List (List Int)) (x y : Int) : Int × Nat × List (List Int) := (-(gAnd n G (-x) (-y)).1, (gAnd n G (-x) (-y)).2.1, (gAnd n G (-x) (-y)).2.2)

/-- What Mux gives. -/
def gMux (n : Nat) (G : List (List Int)) (c x y : Int) : Int × Nat × List (List Int) :=
  if c = 1 ∨ x = y then (x, n, G) else if c = -1 then (y, n, G) else ((n : Int) + 1, n + 1, G ++ (gateT 2).map (gRow [0, (n : Int) + 1, c, x, y]))

theorem gAnd_ok {n : Nat} {G : List (List Int)} {x y : Int} (hn : 1 ≤ n) (hx : LitOk n x) (hy : LitOk n y) : LitOk (gAnd n G x y).2.1 (gAnd n G x y).1 ∧ (gAnd n G x y).2.1 ≤ n + 1 := by
  unfold gAnd
  split
  · exact ⟨hx, by simp⟩
  · split
    · exact ⟨hy, by simp⟩
    · split
      · exact ⟨by unfold LitOk; simp; omega, by simp⟩
      · exact ⟨by unfold LitOk; simp; omega, by simp⟩

set_option maxRecDepth 100000 in
set_option maxHeartbeats 4000000 in
theorem gate_Or {X : Nat → Prop} (w : World) (B b n : Nat) (G : List (List Int)) (x y : Int) (h : GB X w B b n G) (h1 : 1 ≤ n) (hx : LitOk n x) (hy : LitOk n y) (hn : n < 1048576) (hG : G.length + 6 ≤ 1048576) :
    Calls Try.prog 37 #[.pointer (some ⟨b, 0, none⟩), .int .i64 x, .int .i64 y] w fun e w' => e = .returned (.tuple #[.int .i64 (gOr n G x y).1, .int .i64 0]) ∧ GB X w' B b (gOr n G x y).2.1 (gOr n G x y).2.2 ∧ Gk B w w' := by
  have hxn : LitOk n (-x) := by unfold LitOk at *; omega
  have hyn : LitOk n (-y) := by unfold LitOk at *; omega
  have HA := hid (gate_And w B b n G (-x) (-y) h hxn hyn hn hG)
  have hok := gAnd_ok (G := G) h1 hxn hyn
  have hnx : IntKind.i64.wrap (-x) = -x := IntWalk.i64_in _ (by unfold LitOk at hx; omega)
  have hny : IntKind.i64.wrap (-y) = -y := IntWalk.i64_in _ (by unfold LitOk at hy; omega)
  obtain ⟨z, hz⟩ : ∃ z, (gAnd n G (-x) (-y)).1 = z := ⟨_, rfl⟩
  have hzb : -1048577 ≤ z ∧ z ≤ 1048577 := by rw [hz] at hok; unfold LitOk at hok; omega
  have hnz : IntKind.i64.wrap (-z) = -z := IntWalk.i64_in _ (by omega)
  unfold gOr
  rw [hz] at HA ⊢
  clear h hx hy hxn hyn hok hz hzb
  go_enter Try.func37, Try.ntmps37
  go_wp2_with fail
  refine HA.out.mono ?_
  rintro e w2 ⟨rfl, h2, k2⟩
  have H2 := hid h2
  have K2 := hid k2
  clear h2 k2
  go_wp2_with fail
  go_ret2
  exact ⟨rfl, H2.out, K2.out⟩

set_option maxRecDepth 100000 in
set_option maxHeartbeats 4000000 in
theorem gate_Mux {X : Nat → Prop} (w : World) (B b n : Nat) (G : List (List Int)) (c x y : Int) (h : GB X w B b n G) (hc : LitOk n c) (hx : LitOk n x) (hy : LitOk n y) (hn : n < 1048576) (hG : G.length + 6 ≤ 1048576) :
    Calls Try.prog 39 #[.pointer (some ⟨b, 0, none⟩), .int .i64 c, .int .i64 x, .int .i64 y] w fun e w' => e = .returned (.tuple #[.int .i64 (gMux n G c x y).1, .int .i64 0]) ∧ GB X w' B b (gMux n G c x y).2.1 (gMux n G c x y).2.2 ∧ Gk B w w' := by
  have hBw : B ≤ w.heap.size := by obtain ⟨v, q1, -, q3, -⟩ := h; have := (Array.getElem?_eq_some_iff.1 q1).1; omega
  have hall : [c, x, y].all (fun a => !badLit n a) = true := by simp [not_bad hx, not_bad hy, not_bad hc]
  have HH := hid (gate_has (w.alloc (.cells (ints [c, x, y]).toArray 3 (0, 0))) B b n G (some ⟨w.heap.size, 0, none⟩) [c, x, y] 3 3 true (h.below (box_below _ _)) (by omega) rfl (slv_at (heap_alloc_new _ _)) (by simp) hall)
  have HB1 := hid (h.below (box_below w (.cells (ints [c, x, y]).toArray 3 (0, 0))))
  have HK1 : Hid (Gk B w (w.alloc (.cells (ints [c, x, y]).toArray 3 (0, 0)))) := hid (Gk.of_below (box_below _ _) hBw)
  have hcb : -1048576 ≤ c ∧ c ≤ 1048576 := by unfold LitOk at hc; omega
  have hxb : -1048576 ≤ x ∧ x ≤ 1048576 := by unfold LitOk at hx; omega
  have hyb : -1048576 ≤ y ∧ y ≤ 1048576 := by unfold LitOk at hy; omega
  have hBw1 : B ≤ (w.alloc (.cells (ints [c, x, y]).toArray 3 (0, 0))).heap.size := by simp only [size_al]; omega
  have HW2 := hid (gate_write ((w.alloc (.cells (ints [c, x, y]).toArray 3 (0, 0))).alloc (.cells (ints [c, x, y]).toArray 3 (0, 0))) B b n G 2 (some ⟨w.heap.size + 1, 0, none⟩) [c, x, y] 3 3 (HB1.out.below (box_below _ _)) hn rfl (ownT_newG (by rw [← size_al w _]; exact heap_alloc_new _ _) rfl (by omega)) (by simp) (by omega) (by show ∀ d ∈ gateT 2, ∀ p ∈ d, p.natAbs < 5; decide) hG (fun z hz => by simp at hz; rcases hz with rfl | rfl | rfl <;> assumption))
  have HK2 : Hid (Gk B w ((w.alloc (.cells (ints [c, x, y]).toArray 3 (0, 0))).alloc (.cells (ints [c, x, y]).toArray 3 (0, 0)))) := hid (HK1.out.trans (Gk.of_below (box_below _ _) hBw1))
  clear h hc hx hy hall hG hn hcb hxb hyb hBw1
  unfold gMux
  by_cases c1 : c = 1
  · have d1 : (c == 1) = true := by rw [beq_iff_eq]; exact c1
    rw [if_pos (.inl c1)]
    clear c1
    go_enter Try.func39, Try.ntmps39
    go_wp2_with fail
    refine HH.out.mono ?_
    rintro e w2 ⟨rfl, rfl⟩
    go_wp2_with fail
    go_ret2
    exact ⟨rfl, HB1.out, HK1.out⟩
  · have d1 : (c == 1) = false := by rw [beq_eq_false_iff_ne]; exact c1
    by_cases c2 : x = y
    · have d2 : (x == y) = true := by rw [beq_iff_eq]; exact c2
      rw [if_pos (.inr c2)]
      clear c1 c2
      go_enter Try.func39, Try.ntmps39
      go_wp2_with fail
      refine HH.out.mono ?_
      rintro e w2 ⟨rfl, rfl⟩
      go_wp2_with fail
      go_ret2
      exact ⟨rfl, HB1.out, HK1.out⟩
    · have d2 : (x == y) = false := by rw [beq_eq_false_iff_ne]; exact c2
      rw [if_neg (by rintro (h | h); exact c1 h; exact c2 h)]
      by_cases c3 : c = -1
      · have d3 : (c == -1) = true := by rw [beq_iff_eq]; exact c3
        rw [if_pos c3]
        clear c1 c2 c3
        go_enter Try.func39, Try.ntmps39
        go_wp2_with fail
        refine HH.out.mono ?_
        rintro e w2 ⟨rfl, rfl⟩
        go_wp2_with fail
        go_ret2
        exact ⟨rfl, HB1.out, HK1.out⟩
      · have d3 : (c == -1) = false := by rw [beq_eq_false_iff_ne]; exact c3
        rw [if_neg c3]
        clear c1 c2 c3
        go_enter Try.func39, Try.ntmps39
        go_wp2_with fail
        refine HH.out.mono ?_
        rintro e w2 ⟨rfl, rfl⟩
        go_wp2_with fail
        refine HW2.out.mono ?_
        rintro e w3 ⟨rfl, h3, k3⟩
        have H3 := hid h3
        have K3 := hid (HK2.out.trans k3)
        clear h3 k3
        go_wp2_with fail
        go_ret2
        exact ⟨rfl, H3.out, K3.out⟩

/-- What Xor gives. -/
def gXor (n : Nat) (G : List (List Int)) (x y : Int) : Int × Nat × List (List Int) :=
  if x = y then (-1, n, G) else if x = -y then (1, n, G) else if x = 1 ∨ x = -1 then (-x * y, n, G) else if y = 1 ∨ y = -1 then (-y * x, n, G) else ((n : Int) + 1, n + 1, G ++ (gateT 1).map (gRow [0, (n : Int) + 1, x, y]))

set_option maxRecDepth 100000 in
set_option maxHeartbeats 4000000 in
theorem gate_Xor {X : Nat → Prop} (w : World) (B b n : Nat) (G : List (List Int)) (x y : Int) (h : GB X w B b n G) (hx : LitOk n x) (hy : LitOk n y) (hn : n < 1048576) (hG : G.length + 6 ≤ 1048576) :
    Calls Try.prog 38 #[.pointer (some ⟨b, 0, none⟩), .int .i64 x, .int .i64 y] w fun e w' => e = .returned (.tuple #[.int .i64 (gXor n G x y).1, .int .i64 0]) ∧ GB X w' B b (gXor n G x y).2.1 (gXor n G x y).2.2 ∧ Gk B w w' := by
  have hBw : B ≤ w.heap.size := by obtain ⟨v, q1, -, q3, -⟩ := h; have := (Array.getElem?_eq_some_iff.1 q1).1; omega
  have hall : [x, y].all (fun a => !badLit n a) = true := by simp [not_bad hx, not_bad hy]
  have HH := hid (gate_has (w.alloc (.cells (ints [x, y]).toArray 3 (0, 0))) B b n G (some ⟨w.heap.size, 0, none⟩) [x, y] 2 2 true (h.below (box_below _ _)) (by omega) rfl (slv_at (heap_alloc_new _ _)) (by simp) hall)
  have HB1 := hid (h.below (box_below w (.cells (ints [x, y]).toArray 3 (0, 0))))
  have HK1 : Hid (Gk B w (w.alloc (.cells (ints [x, y]).toArray 3 (0, 0)))) := hid (Gk.of_below (box_below _ _) hBw)
  have hxb : -1048576 ≤ x ∧ x ≤ 1048576 := by unfold LitOk at hx; omega
  have hyb : -1048576 ≤ y ∧ y ≤ 1048576 := by unfold LitOk at hy; omega
  have hny : IntKind.i64.wrap (-y) = -y := IntWalk.i64_in _ (by omega)
  have hnx : IntKind.i64.wrap (-x) = -x := IntWalk.i64_in _ (by omega)
  have HMX : Hid (x = 1 ∨ x = -1 → IntKind.i64.wrap (-x * y) = -x * y) := hid (fun hh => IntWalk.i64_in _ (by rcases hh with rfl | rfl <;> omega))
  have HMY : Hid (y = 1 ∨ y = -1 → IntKind.i64.wrap (-y * x) = -y * x) := hid (fun hh => IntWalk.i64_in _ (by rcases hh with rfl | rfl <;> omega))
  have hBw1 : B ≤ (w.alloc (.cells (ints [x, y]).toArray 3 (0, 0))).heap.size := by simp only [size_al]; omega
  have HW2 := hid (gate_write ((w.alloc (.cells (ints [x, y]).toArray 3 (0, 0))).alloc (.cells (ints [x, y]).toArray 3 (0, 0))) B b n G 1 (some ⟨w.heap.size + 1, 0, none⟩) [x, y] 2 2 (HB1.out.below (box_below _ _)) hn rfl (ownT_newG (by rw [← size_al w _]; exact heap_alloc_new _ _) rfl (by omega)) (by simp) (by omega) (by show ∀ d ∈ gateT 1, ∀ p ∈ d, p.natAbs < 4; decide) hG (fun z hz => by simp at hz; rcases hz with rfl | rfl <;> assumption))
  have HK2 : Hid (Gk B w ((w.alloc (.cells (ints [x, y]).toArray 3 (0, 0))).alloc (.cells (ints [x, y]).toArray 3 (0, 0)))) := hid (HK1.out.trans (Gk.of_below (box_below _ _) hBw1))
  clear h hx hy hall hG hn hxb hyb hBw1
  unfold gXor
  by_cases c1 : x = y
  · have d1 : (x == y) = true := by rw [beq_iff_eq]; exact c1
    rw [if_pos c1]
    clear c1
    go_enter Try.func38, Try.ntmps38
    go_wp2_with fail
    refine HH.out.mono ?_
    rintro e w2 ⟨rfl, rfl⟩
    go_wp2_with fail
    go_ret2
    exact ⟨rfl, HB1.out, HK1.out⟩
  · have d1 : (x == y) = false := by rw [beq_eq_false_iff_ne]; exact c1
    rw [if_neg c1]
    by_cases c2 : x = -y
    · have d2 : (x == -y) = true := by rw [beq_iff_eq]; exact c2
      rw [if_pos c2]
      clear c1 c2
      go_enter Try.func38, Try.ntmps38
      go_wp2_with fail
      refine HH.out.mono ?_
      rintro e w2 ⟨rfl, rfl⟩
      go_wp2_with fail
      go_ret2
      exact ⟨rfl, HB1.out, HK1.out⟩
    · have d2 : (x == -y) = false := by rw [beq_eq_false_iff_ne]; exact c2
      rw [if_neg c2]
      by_cases c3 : x = 1
      · have d3 : (x == 1) = true := by rw [beq_iff_eq]; exact c3
        rw [if_pos (.inl c3)]
        have hm := HMX.out (.inl c3)
        clear c1 c2 c3
        go_enter Try.func38, Try.ntmps38
        go_wp2_with fail
        refine HH.out.mono ?_
        rintro e w2 ⟨rfl, rfl⟩
        go_wp2_with fail
        go_ret2
        exact ⟨rfl, HB1.out, HK1.out⟩
      · have d3 : (x == 1) = false := by rw [beq_eq_false_iff_ne]; exact c3
        by_cases c4 : x = -1
        · have d4 : (x == -1) = true := by rw [beq_iff_eq]; exact c4
          rw [if_pos (.inr c4)]
          have hm := HMX.out (.inr c4)
          clear c1 c2 c3 c4
          go_enter Try.func38, Try.ntmps38
          go_wp2_with fail
          refine HH.out.mono ?_
          rintro e w2 ⟨rfl, rfl⟩
          go_wp2_with fail
          go_ret2
          exact ⟨rfl, HB1.out, HK1.out⟩
        · have d4 : (x == -1) = false := by rw [beq_eq_false_iff_ne]; exact c4
          rw [if_neg (by rintro (h | h); exact c3 h; exact c4 h)]
          by_cases c5 : y = 1
          · have d5 : (y == 1) = true := by rw [beq_iff_eq]; exact c5
            rw [if_pos (.inl c5)]
            have hm := HMY.out (.inl c5)
            clear c1 c2 c3 c4 c5
            go_enter Try.func38, Try.ntmps38
            go_wp2_with fail
            refine HH.out.mono ?_
            rintro e w2 ⟨rfl, rfl⟩
            go_wp2_with fail
            go_ret2
            exact ⟨rfl, HB1.out, HK1.out⟩
          · have d5 : (y == 1) = false := by rw [beq_eq_false_iff_ne]; exact c5
            by_cases c6 : y = -1
            · have d6 : (y == -1) = true := by rw [beq_iff_eq]; exact c6
              rw [if_pos (.inr c6)]
              have hm := HMY.out (.inr c6)
              clear c1 c2 c3 c4 c5 c6
              go_enter Try.func38, Try.ntmps38
              go_wp2_with fail
              refine HH.out.mono ?_
              rintro e w2 ⟨rfl, rfl⟩
              go_wp2_with fail
              go_ret2
              exact ⟨rfl, HB1.out, HK1.out⟩
            · have d6 : (y == -1) = false := by rw [beq_eq_false_iff_ne]; exact c6
              rw [if_neg (by rintro (h | h); exact c5 h; exact c6 h)]
              clear c1 c2 c3 c4 c5 c6
              go_enter Try.func38, Try.ntmps38
              go_wp2_with fail
              refine HH.out.mono ?_
              rintro e w2 ⟨rfl, rfl⟩
              go_wp2_with fail
              refine HW2.out.mono ?_
              rintro e w3 ⟨rfl, h3, k3⟩
              have H3 := hid h3
              have K3 := hid (HK2.out.trans k3)
              clear h3 k3
              go_wp2_with fail
              go_ret2
              exact ⟨rfl, H3.out, K3.out⟩

end Go.Proofs.Ytacmfiikdbekbaa.Ord

/- Plain facts for gate: And in a circuit. -/
namespace Go.Proofs.Ytacmfiikdbekbaa.Ord

theorem and_rows (p x y : Int) : (gateT 0).map (gRow [0, p, x, y]) = [[-p, x], [-p, y], [p, -x, -y]] := by
  simp [gateT, gRow, List.getD]

theorem circ_and {n : Nat} {G : List (List Int)} {A K : List Int} (h : Circ n G A K) (h1 : (1 : Int) ∈ K) {x y : Int} (hx : LitOk n x) (hy : LitOk n y) :
    ∃ K', Circ (gAnd n G x y).2.1 (gAnd n G x y).2.2 A K' ∧ (∀ a ∈ K, a ∈ K') ∧ LitOk (gAnd n G x y).2.1 (gAnd n G x y).1 ∧ ((gAnd n G x y).1 ∈ K' ↔ x ∈ K ∧ y ∈ K) := by
  have hm1 : (-1 : Int) ∉ K := h.cons 1 h1
  have hn1 : 1 ≤ n := by have := h.ok 1 h1; unfold LitOk at this; omega
  unfold gAnd
  by_cases c1 : x = y ∨ y = 1
  · rw [if_pos c1]
    refine ⟨K, h, fun _ h => h, hx, ?_⟩
    rcases c1 with rfl | rfl
    · simp
    · simp [h1]
  · rw [if_neg c1]
    by_cases c2 : x = 1
    · rw [if_pos c2]
      subst c2
      exact ⟨K, h, fun _ h => h, hy, by simp [h1]⟩
    · rw [if_neg c2]
      by_cases c3 : x = -y ∨ x = -1 ∨ y = -1
      · rw [if_pos c3]
        refine ⟨K, h, fun _ h => h, by unfold LitOk; simp; omega, ?_⟩
        simp only [hm1, false_iff]
        rintro ⟨q1, q2⟩
        rcases c3 with rfl | rfl | rfl
        · exact h.cons y q2 q1
        · exact hm1 q1
        · exact hm1 q2
      · rw [if_neg c3, and_rows]
        have hxy := h.total x hx
        have hyy := h.total y hy
        have hcls : ClsOk (n + 1) [[-((n : Int) + 1), x], [-((n : Int) + 1), y], [(n : Int) + 1, -x, -y]] := by
          intro c hc a ha
          unfold LitOk at *
          simp at hc
          rcases hc with rfl | rfl | rfl <;> (simp at ha; rcases ha with rfl | ha <;> (try (rcases ha with rfl | rfl)) <;> omega)
        by_cases q : x ∈ K ∧ y ∈ K
        · refine ⟨K ++ [(n : Int) + 1], h.more (.inl rfl) (fun a ha => .inl ha) (fun a ha => ha) hcls ?_ (.inr ⟨[(n : Int) + 1, -x, -y], by simp, by simp, ?_⟩), fun a ha => List.mem_append_left _ ha, by unfold LitOk; simp; omega, by simp [q.1, q.2]⟩
          · intro c hc
            simp at hc
            rcases hc with rfl | rfl | rfl
            · exact ⟨x, by simp, by simp [q.1]⟩
            · exact ⟨y, by simp, by simp [q.2]⟩
            · exact ⟨(n : Int) + 1, by simp, by simp⟩
          · intro m hm hne
            simp at hm
            rcases hm with rfl | rfl | rfl
            · exact absurd rfl hne
            · simpa using q.1
            · simpa using q.2
        · have hnk : (n : Int) + 1 ∉ K ++ [-((n : Int) + 1)] := by
            simp only [List.mem_append, List.mem_singleton, not_or]
            exact ⟨fun e => by have := h.ok _ e; unfold LitOk at this; omega, by omega⟩
          have hor : -x ∈ K ∨ -y ∈ K := by
            rcases hxy with e1 | e1
            · rcases hyy with e2 | e2
              · exact absurd ⟨e1, e2⟩ q
              · exact .inr e2
            · exact .inl e1
          refine ⟨K ++ [-((n : Int) + 1)], h.more (.inr rfl) (fun a ha => .inl ha) (fun a ha => ha) hcls ?_ (.inr ?_), fun a ha => List.mem_append_left _ ha, by unfold LitOk; simp; omega, by simp only [hnk, q]⟩
          · intro c hc
            simp at hc
            rcases hc with rfl | rfl | rfl
            · exact ⟨-((n : Int) + 1), by simp, by simp⟩
            · exact ⟨-((n : Int) + 1), by simp, by simp⟩
            · rcases hor with e | e
              · exact ⟨-x, by simp, by simp [e]⟩
              · exact ⟨-y, by simp, by simp [e]⟩
          · rcases hor with e | e
            · refine ⟨[-((n : Int) + 1), x], by simp, by simp, fun m hm hne => ?_⟩
              simp at hm
              rcases hm with rfl | rfl
              · exact absurd rfl hne
              · exact e
            · refine ⟨[-((n : Int) + 1), y], by simp, by simp, fun m hm hne => ?_⟩
              simp at hm
              rcases hm with rfl | rfl
              · exact absurd rfl hne
              · exact e

theorem Circ.neg {n : Nat} {G : List (List Int)} {A K : List Int} (h : Circ n G A K) {a : Int} (ha : LitOk n a) : -a ∈ K ↔ ¬ a ∈ K :=
  ⟨fun h1 h2 => h.cons a h2 h1, fun h1 => (h.total a ha).resolve_left h1⟩

theorem circ_or {n : Nat} {G : List (List Int)} {A K : List Int} (h : Circ n G A K) (h1 : (1 : Int) ∈ K) {x y : Int} (hx : LitOk n x) (hy : LitOk n y) :
    ∃ K', Circ (gOr n G x y).2.1 (gOr n G x y).2.2 A K' ∧ (∀ a ∈ K, a ∈ K') ∧ LitOk (gOr n G x y).2.1 (gOr n G x y).1 ∧ ((gOr n G x y).1 ∈ K' ↔ x ∈ K ∨ y ∈ K) := by
  have hxn : LitOk n (-x) := by unfold LitOk at *; omega
  have hyn : LitOk n (-y) := by unfold LitOk at *; omega
  obtain ⟨K', g1, g2, g3, g4⟩ := circ_and h h1 hxn hyn
  refine ⟨K', g1, g2, ?_, ?_⟩
  · show LitOk (gAnd n G (-x) (-y)).2.1 (-(gAnd n G (-x) (-y)).1)
    unfold LitOk at *
    omega
  · show -(gAnd n G (-x) (-y)).1 ∈ K' ↔ x ∈ K ∨ y ∈ K
    rw [g1.neg g3, g4, h.neg hx, h.neg hy]
    by_cases e1 : x ∈ K <;> by_cases e2 : y ∈ K <;> simp [e1, e2]

end Go.Proofs.Ytacmfiikdbekbaa.Ord

/- Plain facts for gate: Xor in a circuit. -/
namespace Go.Proofs.Ytacmfiikdbekbaa.Ord

theorem xor_rows (p x y : Int) : (gateT 1).map (gRow [0, p, x, y]) = [[-p, x, y], [-p, -x, -y], [p, -x, y], [p, x, -y]] := by
  simp [gateT, gRow, List.getD]

theorem circ_xor {n : Nat} {G : List (List Int)} {A K : List Int} (h : Circ n G A K) (h1 : (1 : Int) ∈ K) {x y : Int} (hx : LitOk n x) (hy : LitOk n y) :
    ∃ K', Circ (gXor n G x y).2.1 (gXor n G x y).2.2 A K' ∧ (∀ a ∈ K, a ∈ K') ∧ LitOk (gXor n G x y).2.1 (gXor n G x y).1 ∧ ((gXor n G x y).1 ∈ K' ↔ ¬ (x ∈ K ↔ y ∈ K)) := by
  have hm1 : (-1 : Int) ∉ K := h.cons 1 h1
  have hn1 : 1 ≤ n := by have := h.ok 1 h1; unfold LitOk at this; omega
  have hxn := h.neg hx
  have hyn := h.neg hy
  have okx : LitOk n (-x) := by unfold LitOk at *; omega
  have oky : LitOk n (-y) := by unfold LitOk at *; omega
  unfold gXor
  by_cases c1 : x = y
  · rw [if_pos c1]
    subst c1
    exact ⟨K, h, fun _ h => h, by unfold LitOk; simp; omega, by simp [hm1]⟩
  · rw [if_neg c1]
    by_cases c2 : x = -y
    · rw [if_pos c2]
      subst c2
      refine ⟨K, h, fun _ h => h, by unfold LitOk; simp; omega, ?_⟩
      by_cases e : y ∈ K <;> simp [h1, hyn, e]
    · rw [if_neg c2]
      by_cases c3 : x = 1 ∨ x = -1
      · rw [if_pos c3]
        refine ⟨K, h, fun _ h => h, ?_, ?_⟩
        · rcases c3 with rfl | rfl
          · simpa using oky
          · simpa using hy
        · rcases c3 with rfl | rfl
          · by_cases e : y ∈ K <;> simp [h1, hyn, e]
          · by_cases e : y ∈ K <;> simp [hm1, e]
      · rw [if_neg c3]
        by_cases c4 : y = 1 ∨ y = -1
        · rw [if_pos c4]
          refine ⟨K, h, fun _ h => h, ?_, ?_⟩
          · rcases c4 with rfl | rfl
            · simpa using okx
            · simpa using hx
          · rcases c4 with rfl | rfl
            · by_cases e : x ∈ K <;> simp [h1, hxn, e]
            · by_cases e : x ∈ K <;> simp [hm1, e]
        · rw [if_neg c4, xor_rows]
          have hcls : ClsOk (n + 1) [[-((n : Int) + 1), x, y], [-((n : Int) + 1), -x, -y], [(n : Int) + 1, -x, y], [(n : Int) + 1, x, -y]] := by
            intro c hc a ha
            unfold LitOk at *
            simp at hc
            rcases hc with rfl | rfl | rfl | rfl <;> (simp at ha; rcases ha with rfl | rfl | rfl <;> omega)
          have hnk : (n : Int) + 1 ∉ K ++ [-((n : Int) + 1)] := by
            simp only [List.mem_append, List.mem_singleton, not_or]
            exact ⟨fun e => by have := h.ok _ e; unfold LitOk at this; omega, by omega⟩
          by_cases ex : x ∈ K <;> by_cases ey : y ∈ K
          · refine ⟨K ++ [-((n : Int) + 1)], h.more (.inr rfl) (fun a ha => .inl ha) (fun a ha => ha) hcls ?_ (.inr ⟨[-((n : Int) + 1), -x, -y], by simp, by simp, ?_⟩), fun a ha => List.mem_append_left _ ha, by unfold LitOk; simp; omega, by simp [hnk, ex, ey]⟩
            · intro c hc; simp at hc; rcases hc with rfl | rfl | rfl | rfl
              · exact ⟨x, by simp, by simp [ex]⟩
              · exact ⟨-((n : Int) + 1), by simp, by simp⟩
              · exact ⟨y, by simp, by simp [ey]⟩
              · exact ⟨x, by simp, by simp [ex]⟩
            · intro m hm hne; simp at hm; rcases hm with rfl | rfl | rfl
              · exact absurd rfl hne
              · simpa using ex
              · simpa using ey
          · have ny := hyn.2 ey
            refine ⟨K ++ [(n : Int) + 1], h.more (.inl rfl) (fun a ha => .inl ha) (fun a ha => ha) hcls ?_ (.inr ⟨[(n : Int) + 1, -x, y], by simp, by simp, ?_⟩), fun a ha => List.mem_append_left _ ha, by unfold LitOk; simp; omega, by simp [ex, ey]⟩
            · intro c hc; simp at hc; rcases hc with rfl | rfl | rfl | rfl
              · exact ⟨x, by simp, by simp [ex]⟩
              · exact ⟨-y, by simp, by simp [ny]⟩
              · exact ⟨(n : Int) + 1, by simp, by simp⟩
              · exact ⟨x, by simp, by simp [ex]⟩
            · intro m hm hne; simp at hm; rcases hm with rfl | rfl | rfl
              · exact absurd rfl hne
              · simpa using ex
              · exact ny
          · have nx := hxn.2 ex
            refine ⟨K ++ [(n : Int) + 1], h.more (.inl rfl) (fun a ha => .inl ha) (fun a ha => ha) hcls ?_ (.inr ⟨[(n : Int) + 1, x, -y], by simp, by simp, ?_⟩), fun a ha => List.mem_append_left _ ha, by unfold LitOk; simp; omega, by simp [ex, ey]⟩
            · intro c hc; simp at hc; rcases hc with rfl | rfl | rfl | rfl
              · exact ⟨y, by simp, by simp [ey]⟩
              · exact ⟨-x, by simp, by simp [nx]⟩
              · exact ⟨y, by simp, by simp [ey]⟩
              · exact ⟨(n : Int) + 1, by simp, by simp⟩
            · intro m hm hne; simp at hm; rcases hm with rfl | rfl | rfl
              · exact absurd rfl hne
              · exact nx
              · simpa using ey
          · have nx := hxn.2 ex
            have ny := hyn.2 ey
            refine ⟨K ++ [-((n : Int) + 1)], h.more (.inr rfl) (fun a ha => .inl ha) (fun a ha => ha) hcls ?_ (.inr ⟨[-((n : Int) + 1), x, y], by simp, by simp, ?_⟩), fun a ha => List.mem_append_left _ ha, by unfold LitOk; simp; omega, by simp [hnk, ex, ey]⟩
            · intro c hc; simp at hc; rcases hc with rfl | rfl | rfl | rfl
              · exact ⟨-((n : Int) + 1), by simp, by simp⟩
              · exact ⟨-x, by simp, by simp [nx]⟩
              · exact ⟨-x, by simp, by simp [nx]⟩
              · exact ⟨-y, by simp, by simp [ny]⟩
            · intro m hm hne; simp at hm; rcases hm with rfl | rfl | rfl
              · exact absurd rfl hne
              · exact nx
              · exact ny

end Go.Proofs.Ytacmfiikdbekbaa.Ord

/- Plain facts for gate: Mux in a circuit. -/
namespace Go.Proofs.Ytacmfiikdbekbaa.Ord

theorem mux_rows (p c x y : Int) : (gateT 2).map (gRow [0, p, c, x, y]) = [[-c, -x, p], [-c, x, -p], [c, -y, p], [c, y, -p], [-x, -y, p], [x, y, -p]] := by
  simp [gateT, gRow, List.getD]

theorem circ_mux {n : Nat} {G : List (List Int)} {A K : List Int} (h : Circ n G A K) (h1 : (1 : Int) ∈ K) {c x y : Int} (hc : LitOk n c) (hx : LitOk n x) (hy : LitOk n y) :
    ∃ K', Circ (gMux n G c x y).2.1 (gMux n G c x y).2.2 A K' ∧ (∀ a ∈ K, a ∈ K') ∧ LitOk (gMux n G c x y).2.1 (gMux n G c x y).1 ∧ ((gMux n G c x y).1 ∈ K' ↔ (c ∈ K ∧ x ∈ K) ∨ (c ∉ K ∧ y ∈ K)) := by
  have hm1 : (-1 : Int) ∉ K := h.cons 1 h1
  have hcn := h.neg hc
  have hxn := h.neg hx
  have hyn := h.neg hy
  unfold gMux
  by_cases c1 : c = 1 ∨ x = y
  · rw [if_pos c1]
    refine ⟨K, h, fun _ h => h, hx, ?_⟩
    rcases c1 with rfl | rfl
    · simp [h1]
    · by_cases e : c ∈ K <;> simp [e]
  · rw [if_neg c1]
    by_cases c2 : c = -1
    · rw [if_pos c2]
      subst c2
      exact ⟨K, h, fun _ h => h, hy, by simp [hm1]⟩
    · rw [if_neg c2, mux_rows]
      have hcls : ClsOk (n + 1) [[-c, -x, (n : Int) + 1], [-c, x, -((n : Int) + 1)], [c, -y, (n : Int) + 1], [c, y, -((n : Int) + 1)], [-x, -y, (n : Int) + 1], [x, y, -((n : Int) + 1)]] := by
        intro d hd a ha
        unfold LitOk at *
        simp at hd
        rcases hd with rfl | rfl | rfl | rfl | rfl | rfl <;> (simp at ha; rcases ha with rfl | rfl | rfl <;> omega)
      have hnk : (n : Int) + 1 ∉ K ++ [-((n : Int) + 1)] := by
        simp only [List.mem_append, List.mem_singleton, not_or]
        exact ⟨fun e => by have := h.ok _ e; unfold LitOk at this; omega, by omega⟩
      by_cases ec : c ∈ K
      · by_cases ex : x ∈ K
        · refine ⟨K ++ [(n : Int) + 1], h.more (.inl rfl) (fun a ha => .inl ha) (fun a ha => ha) hcls ?_ (.inr ⟨[-c, -x, (n : Int) + 1], by simp, by simp, ?_⟩), fun a ha => List.mem_append_left _ ha, by unfold LitOk; simp; omega, by simp [ec, ex]⟩
          · intro d hd; simp at hd; rcases hd with rfl | rfl | rfl | rfl | rfl | rfl
            · exact ⟨(n : Int) + 1, by simp, by simp⟩
            · exact ⟨x, by simp, by simp [ex]⟩
            · exact ⟨(n : Int) + 1, by simp, by simp⟩
            · exact ⟨c, by simp, by simp [ec]⟩
            · exact ⟨(n : Int) + 1, by simp, by simp⟩
            · exact ⟨x, by simp, by simp [ex]⟩
          · intro m hm hne; simp at hm; rcases hm with rfl | rfl | rfl
            · simpa using ec
            · simpa using ex
            · exact absurd rfl hne
        · have nx := hxn.2 ex
          refine ⟨K ++ [-((n : Int) + 1)], h.more (.inr rfl) (fun a ha => .inl ha) (fun a ha => ha) hcls ?_ (.inr ⟨[-c, x, -((n : Int) + 1)], by simp, by simp, ?_⟩), fun a ha => List.mem_append_left _ ha, by unfold LitOk; simp; omega, by simp [hnk, ec, ex]⟩
          · intro d hd; simp at hd; rcases hd with rfl | rfl | rfl | rfl | rfl | rfl
            · exact ⟨-x, by simp, by simp [nx]⟩
            · exact ⟨-((n : Int) + 1), by simp, by simp⟩
            · exact ⟨c, by simp, by simp [ec]⟩
            · exact ⟨c, by simp, by simp [ec]⟩
            · exact ⟨-x, by simp, by simp [nx]⟩
            · exact ⟨-((n : Int) + 1), by simp, by simp⟩
          · intro m hm hne; simp at hm; rcases hm with rfl | rfl | rfl
            · simpa using ec
            · exact nx
            · exact absurd rfl hne
      · have nc := hcn.2 ec
        by_cases ey : y ∈ K
        · refine ⟨K ++ [(n : Int) + 1], h.more (.inl rfl) (fun a ha => .inl ha) (fun a ha => ha) hcls ?_ (.inr ⟨[c, -y, (n : Int) + 1], by simp, by simp, ?_⟩), fun a ha => List.mem_append_left _ ha, by unfold LitOk; simp; omega, by simp [ec, ey]⟩
          · intro d hd; simp at hd; rcases hd with rfl | rfl | rfl | rfl | rfl | rfl
            · exact ⟨(n : Int) + 1, by simp, by simp⟩
            · exact ⟨-c, by simp, by simp [nc]⟩
            · exact ⟨(n : Int) + 1, by simp, by simp⟩
            · exact ⟨y, by simp, by simp [ey]⟩
            · exact ⟨(n : Int) + 1, by simp, by simp⟩
            · exact ⟨y, by simp, by simp [ey]⟩
          · intro m hm hne; simp at hm; rcases hm with rfl | rfl | rfl
            · exact nc
            · simpa using ey
            · exact absurd rfl hne
        · have ny := hyn.2 ey
          refine ⟨K ++ [-((n : Int) + 1)], h.more (.inr rfl) (fun a ha => .inl ha) (fun a ha => ha) hcls ?_ (.inr ⟨[c, y, -((n : Int) + 1)], by simp, by simp, ?_⟩), fun a ha => List.mem_append_left _ ha, by unfold LitOk; simp; omega, by simp [hnk, ec, ey]⟩
          · intro d hd; simp at hd; rcases hd with rfl | rfl | rfl | rfl | rfl | rfl
            · exact ⟨-c, by simp, by simp [nc]⟩
            · exact ⟨-((n : Int) + 1), by simp, by simp⟩
            · exact ⟨-y, by simp, by simp [ny]⟩
            · exact ⟨-((n : Int) + 1), by simp, by simp⟩
            · exact ⟨-y, by simp, by simp [ny]⟩
            · exact ⟨-((n : Int) + 1), by simp, by simp⟩
          · intro m hm hne; simp at hm; rcases hm with rfl | rfl | rfl
            · exact nc
            · exact ny
            · exact absurd rfl hne

end Go.Proofs.Ytacmfiikdbekbaa.Ord

/- Plain facts for gate: an input more, and how much a gate adds. -/
namespace Go.Proofs.Ytacmfiikdbekbaa.Ord

theorem circ_fresh {n : Nat} {G : List (List Int)} {A K : List Int} (h : Circ n G A K) {a : Int} (ha : a = (n : Int) + 1 ∨ a = -((n : Int) + 1)) : Circ (n + 1) G (A ++ [a]) (K ++ [a]) := by
  have := h.more (R := []) (A' := A ++ [a]) ha (fun x hx => by simpa using hx) (fun x hx => List.mem_append_left _ hx) (fun c hc => by cases hc) (fun c hc => by cases hc) (.inl (by simp))
  simpa using this

theorem gAnd_size (n : Nat) (G : List (List Int)) (x y : Int) : (gAnd n G x y).2.1 ≤ n + 1 ∧ n ≤ (gAnd n G x y).2.1 ∧ (gAnd n G x y).2.2.length ≤ G.length + 6 := by
  unfold gAnd
  split
  · simp
  · split
    · simp
    · split
      · simp
      · rw [and_rows]; simp

theorem gXor_size (n : Nat) (G : List (List Int)) (x y : Int) : (gXor n G x y).2.1 ≤ n + 1 ∧ n ≤ (gXor n G x y).2.1 ∧ (gXor n G x y).2.2.length ≤ G.length + 6 := by
  unfold gXor
  split
  · simp
  · split
    · simp
    · split
      · simp
      · split
        · simp
        · rw [xor_rows]; simp

theorem gMux_size (n : Nat) (G : List (List Int)) (c x y : Int) : (gMux n G c x y).2.1 ≤ n + 1 ∧ n ≤ (gMux n G c x y).2.1 ∧ (gMux n G c x y).2.2.length ≤ G.length + 6 := by
  unfold gMux
  split
  · simp
  · split
    · simp
    · rw [mux_rows]; simp

end Go.Proofs.Ytacmfiikdbekbaa.Ord

/- Plain facts for gate: what is decided, from whatever is assumed, and what stays decided behind a gate. -/
namespace Go.Proofs.Ytacmfiikdbekbaa.Ord

/-- A literal that has a value. -/
def Dk (K : List Int) (a : Int) : Prop := a ∈ K ∨ -a ∈ K
/-- Its value. -/
def tv (K : List Int) (a : Int) : Bool := decide (a ∈ K)

/-- What has a value keeps it. -/
def Ext (K K' : List Int) : Prop := ∀ a, Dk K a → Dk K' a ∧ tv K' a = tv K a

/-- The literal is decided. -/
def Dec (G : List (List Int)) (A : List Int) (a : Int) : Prop := Der G A a ∨ Der G A (-a)

theorem Ext.refl (K : List Int) : Ext K K := fun _ h => ⟨h, rfl⟩
theorem Ext.trans {K K' K'' : List Int} (h : Ext K K') (h' : Ext K' K'') : Ext K K'' := fun a ha => ⟨(h' a (h a ha).1).1, ((h' a (h a ha).1).2).trans (h a ha).2⟩

theorem Circ.dk {n : Nat} {G : List (List Int)} {A K : List Int} (h : Circ n G A K) {a : Int} : Dk K a ↔ LitOk n a := by
  refine ⟨fun ha => ?_, h.total a⟩
  rcases ha with ha | ha
  · exact h.ok a ha
  · have := h.ok _ ha
    unfold LitOk at *
    omega

theorem Circ.ext {n n' : Nat} {G G' : List (List Int)} {A A' K K' : List Int} (_h : Circ n G A K) (h' : Circ n' G' A' K') (hs : ∀ a ∈ K, a ∈ K') : Ext K K' := by
  intro a ha
  refine ⟨ha.elim (fun q => .inl (hs _ q)) (fun q => .inr (hs _ q)), ?_⟩
  unfold tv
  by_cases q : a ∈ K
  · simp [q, hs _ q]
  · have h1 := hs _ (ha.resolve_left q)
    have : a ∉ K' := fun e => h'.cons a e h1
    simp [q, this]

theorem tv_eq {K : List Int} {a : Int} {p : Prop} [Decidable p] (h : a ∈ K ↔ p) : tv K a = decide p := by
  unfold tv
  exact decide_eq_decide.2 h

theorem Circ.tv_neg {n : Nat} {G : List (List Int)} {A K : List Int} (h : Circ n G A K) {a : Int} (ha : Dk K a) : tv K (-a) = !tv K a := by
  have := h.neg (h.dk.1 ha)
  unfold tv
  by_cases q : a ∈ K <;> simp [q, this]

theorem Dk.neg {K : List Int} {a : Int} (h : Dk K a) : Dk K (-a) := by
  rcases h with h | h
  · exact .inr (by rw [Int.neg_neg]; exact h)
  · exact .inl h

theorem Dec.neg {G : List (List Int)} {A : List Int} {a : Int} (h : Dec G A a) : Dec G A (-a) := by
  rcases h with h | h
  · exact .inr (by rw [Int.neg_neg]; exact h)
  · exact .inl h

theorem Dec.mono {G G' : List (List Int)} {A : List Int} {a : Int} (hs : ∀ c ∈ G, c ∈ G') (h : Dec G A a) : Dec G' A a :=
  h.elim (fun q => .inl (der_mono (sub_of_subset hs) (fun _ h => h) q)) (fun q => .inr (der_mono (sub_of_subset hs) (fun _ h => h) q))

theorem der_1G {G : List (List Int)} {A : List Int} (hu : [1] ∈ G) : Der G A 1 := .unit hu (by simp) (fun m hm hne => by simp at hm; exact absurd hm hne)

theorem dec_one {G : List (List Int)} {A : List Int} (hu : [1] ∈ G) : Dec G A 1 := .inl (der_1G hu)
theorem dec_mone {G : List (List Int)} {A : List Int} (hu : [1] ∈ G) : Dec G A (-1) := (dec_one hu).neg

/-- A literal of a clause whose others are false. -/
theorem der_unit {G : List (List Int)} {A : List Int} {c : List Int} {a : Int} (hc : c ∈ G) (ha : a ∈ c) (h : ∀ m ∈ c, m = a ∨ Der G A (-m)) : Der G A a :=
  .unit hc ha fun m hm hne => (h m hm).resolve_left hne

theorem dec_and {n : Nat} {G : List (List Int)} (hu : [1] ∈ G) {x y : Int} {A : List Int} (hx : Dec G A x) (hy : Dec G A y) : Dec (gAnd n G x y).2.2 A (gAnd n G x y).1 := by
  unfold gAnd
  split
  · exact hx
  · split
    · exact hy
    · split
      · exact dec_mone hu
      · rw [and_rows]
        have hs : ∀ c ∈ G, c ∈ G ++ [[-((n : Int) + 1), x], [-((n : Int) + 1), y], [(n : Int) + 1, -x, -y]] := fun c hc => List.mem_append_left _ hc
        have hx' := hx.mono hs
        have hy' := hy.mono hs
        simp only
        generalize (n : Int) + 1 = z at *
        rcases hx' with hx' | hx'
        · rcases hy' with hy' | hy'
          · refine .inl (der_unit (c := [z, -x, -y]) (by simp) (by simp) fun m hm => ?_)
            simp at hm
            rcases hm with rfl | rfl | rfl
            · exact .inl rfl
            · right; rwa [Int.neg_neg]
            · right; rwa [Int.neg_neg]
          · refine .inr (der_unit (c := [-z, y]) (by simp) (by simp) fun m hm => ?_)
            simp at hm
            rcases hm with rfl | rfl
            · exact .inl rfl
            · exact .inr hy'
        · refine .inr (der_unit (c := [-z, x]) (by simp) (by simp) fun m hm => ?_)
          simp at hm
          rcases hm with rfl | rfl
          · exact .inl rfl
          · exact .inr hx'

theorem dec_or {n : Nat} {G : List (List Int)} (hu : [1] ∈ G) {x y : Int} {A : List Int} (hx : Dec G A x) (hy : Dec G A y) : Dec (gOr n G x y).2.2 A (gOr n G x y).1 :=
  Dec.neg (dec_and hu hx.neg hy.neg)

theorem dec_xor {n : Nat} {G : List (List Int)} (hu : [1] ∈ G) {x y : Int} {A : List Int} (hx : Dec G A x) (hy : Dec G A y) : Dec (gXor n G x y).2.2 A (gXor n G x y).1 := by
  unfold gXor
  split
  · exact dec_mone hu
  · split
    · exact dec_one hu
    · split
      · rename_i h
        rcases h with rfl | rfl
        · simpa using hy.neg
        · simpa using hy
      · split
        · rename_i h
          rcases h with rfl | rfl
          · simpa using hx.neg
          · simpa using hx
        · rw [xor_rows]
          have hs : ∀ c ∈ G, c ∈ G ++ [[-((n : Int) + 1), x, y], [-((n : Int) + 1), -x, -y], [(n : Int) + 1, -x, y], [(n : Int) + 1, x, -y]] := fun c hc => List.mem_append_left _ hc
          have hx' := hx.mono hs
          have hy' := hy.mono hs
          simp only
          generalize (n : Int) + 1 = z at *
          rcases hx' with hx' | hx' <;> rcases hy' with hy' | hy'
          · refine .inr (der_unit (c := [-z, -x, -y]) (by simp) (by simp) fun m hm => ?_)
            simp at hm
            rcases hm with rfl | rfl | rfl
            · exact .inl rfl
            · right; rwa [Int.neg_neg]
            · right; rwa [Int.neg_neg]
          · refine .inl (der_unit (c := [z, -x, y]) (by simp) (by simp) fun m hm => ?_)
            simp at hm
            rcases hm with rfl | rfl | rfl
            · exact .inl rfl
            · right; rwa [Int.neg_neg]
            · right; exact hy'
          · refine .inl (der_unit (c := [z, x, -y]) (by simp) (by simp) fun m hm => ?_)
            simp at hm
            rcases hm with rfl | rfl | rfl
            · exact .inl rfl
            · right; exact hx'
            · right; rwa [Int.neg_neg]
          · refine .inr (der_unit (c := [-z, x, y]) (by simp) (by simp) fun m hm => ?_)
            simp at hm
            rcases hm with rfl | rfl | rfl
            · exact .inl rfl
            · right; exact hx'
            · right; exact hy'

theorem dec_mux {n : Nat} {G : List (List Int)} {q x y : Int} {A : List Int} (hq : Dec G A q) (hx : Dec G A x) (hy : Dec G A y) : Dec (gMux n G q x y).2.2 A (gMux n G q x y).1 := by
  unfold gMux
  split
  · exact hx
  · split
    · exact hy
    · rw [mux_rows]
      have hs : ∀ c ∈ G, c ∈ G ++ [[-q, -x, (n : Int) + 1], [-q, x, -((n : Int) + 1)], [q, -y, (n : Int) + 1], [q, y, -((n : Int) + 1)], [-x, -y, (n : Int) + 1], [x, y, -((n : Int) + 1)]] := fun c hc => List.mem_append_left _ hc
      have hq' := hq.mono hs
      have hx' := hx.mono hs
      have hy' := hy.mono hs
      simp only
      generalize (n : Int) + 1 = z at *
      rcases hq' with hq' | hq'
      · rcases hx' with hx' | hx'
        · refine .inl (der_unit (c := [-q, -x, z]) (by simp) (by simp) fun m hm => ?_)
          simp at hm
          rcases hm with rfl | rfl | rfl
          · right; rwa [Int.neg_neg]
          · right; rwa [Int.neg_neg]
          · exact .inl rfl
        · refine .inr (der_unit (c := [-q, x, -z]) (by simp) (by simp) fun m hm => ?_)
          simp at hm
          rcases hm with rfl | rfl | rfl
          · right; rwa [Int.neg_neg]
          · right; exact hx'
          · exact .inl rfl
      · rcases hy' with hy' | hy'
        · refine .inl (der_unit (c := [q, -y, z]) (by simp) (by simp) fun m hm => ?_)
          simp at hm
          rcases hm with rfl | rfl | rfl
          · right; exact hq'
          · right; rwa [Int.neg_neg]
          · exact .inl rfl
        · refine .inr (der_unit (c := [q, y, -z]) (by simp) (by simp) fun m hm => ?_)
          simp at hm
          rcases hm with rfl | rfl | rfl
          · right; exact hq'
          · right; exact hy'
          · exact .inl rfl

/-- What a gate leaves of the clauses. -/
structure GG (G G' : List (List Int)) : Prop where
  sub : ∀ c ∈ G, c ∈ G'
  pre : G'.take G.length = G
  len : (∀ c ∈ G, c.length ≤ 4096) → ∀ c ∈ G', c.length ≤ 4096

theorem GG.refl (G : List (List Int)) : GG G G := ⟨fun _ h => h, by simp, fun h => h⟩
theorem GG.app {G R : List (List Int)} (h : ∀ c ∈ R, c.length ≤ 3) : GG G (G ++ R) :=
  ⟨fun _ h => List.mem_append_left _ h, by simp, fun h1 c hc => (List.mem_append.1 hc).elim (h1 c) (fun q => by have := h c q; omega)⟩

theorem gg_and (n : Nat) (G : List (List Int)) (x y : Int) : GG G (gAnd n G x y).2.2 := by
  unfold gAnd
  split
  · exact .refl _
  · split
    · exact .refl _
    · split
      · exact .refl _
      · rw [and_rows]; exact .app (by simp)

theorem gg_or (n : Nat) (G : List (List Int)) (x y : Int) : GG G (gOr n G x y).2.2 := gg_and n G (-x) (-y)

theorem gg_xor (n : Nat) (G : List (List Int)) (x y : Int) : GG G (gXor n G x y).2.2 := by
  unfold gXor
  split
  · exact .refl _
  · split
    · exact .refl _
    · split
      · exact .refl _
      · split
        · exact .refl _
        · rw [xor_rows]; exact .app (by simp)

theorem gg_mux (n : Nat) (G : List (List Int)) (c x y : Int) : GG G (gMux n G c x y).2.2 := by
  unfold gMux
  split
  · exact .refl _
  · split
    · exact .refl _
    · rw [mux_rows]; exact .app (by simp)

/-- What is behind a gate: its literal and value, the clauses and the literals that hold, behind it. -/
structure GX (G G' : List (List Int)) (K K' : List Int) (z : Int) (v : Bool) : Prop where
  ext : Ext K K'
  dk : Dk K' z
  tv : tv K' z = v
  gg : GG G G'

end Go.Proofs.Ytacmfiikdbekbaa.Ord

/- The contracts of the gates, told by the values of the literals. -/
namespace Go.Proofs.Ytacmfiikdbekbaa.Ord
open Go.RowKit Go.Conc

/-- A builder in memory whose variables are all decided by A; K are the literals that hold. -/
structure GS (X : Nat → Prop) (w : World) (B b m n : Nat) (G : List (List Int)) (A K : List Int) : Prop where
  gb : GB X w B b n G
  circ : Circ n G A K
  one : (1 : Int) ∈ K
  nm : n ≤ m
  gm : G.length ≤ 6 * m
  cl : ∀ c ∈ G, c.length ≤ 4096
  unit : [1] ∈ G

theorem GS.below {X : Nat → Prop} {w w' : World} {B b m n : Nat} {G : List (List Int)} {A K : List Int} (h : GS X w B b m n G A K) (hb : Below w.heap.size w w') : GS X w' B b m n G A K :=
  ⟨h.gb.below hb, h.circ, h.one, h.nm, h.gm, h.cl, h.unit⟩

theorem GS.dk1 {X : Nat → Prop} {w : World} {B b m n : Nat} {G : List (List Int)} {A K : List Int} (h : GS X w B b m n G A K) : Dk K 1 ∧ tv K 1 = true := ⟨.inl h.one, by simp [tv, h.one]⟩

theorem GS.n1 {X : Nat → Prop} {w : World} {B b m n : Nat} {G : List (List Int)} {A K : List Int} (h : GS X w B b m n G A K) : 1 ≤ n := by
  have := h.circ.ok 1 h.one
  unfold LitOk at this
  omega

/-- What a call of a gate with the decided literals L leaves. -/
def GPost (X : Nat → Prop) (w : World) (B b m : Nat) (G : List (List Int)) (A K : List Int) (v : Bool) (L : List Int) (e : Ending) (w' : World) : Prop :=
  ∃ (z : Int) (n' : Nat) (G' : List (List Int)) (K' : List Int), e = .returned (.tuple #[.int .i64 z, .int .i64 0]) ∧ GS X w' B b (m + 1) n' G' A K' ∧ Gk B w w' ∧ GX G G' K K' z v ∧ ∀ A', (∀ x ∈ L, Dec G A' x) → Dec G' A' z

theorem gs_And {X : Nat → Prop} (w : World) (B b m n : Nat) (G : List (List Int)) (A K : List Int) (x y : Int) (h : GS X w B b m n G A K) (hx : Dk K x) (hy : Dk K y) (hm : m ≤ 100000) :
    Calls Try.prog 36 #[.pointer (some ⟨b, 0, none⟩), .int .i64 x, .int .i64 y] w (GPost X w B b m G A K (tv K x && tv K y) [x, y]) := by
  have hxk := h.circ.dk.1 hx
  have hyk := h.circ.dk.1 hy
  have hnm := h.nm
  have hgm := h.gm
  refine (gate_And w B b n G x y h.gb hxk hyk (by omega) (by omega)).mono ?_
  rintro e w' ⟨rfl, hg, hk⟩
  obtain ⟨K', c1, c2, c3, c4⟩ := circ_and h.circ h.one hxk hyk
  have hs := gAnd_size n G x y
  have hgg := gg_and n G x y
  refine ⟨_, _, _, K', rfl, ⟨hg, c1, c2 1 h.one, by omega, by omega, hgg.len h.cl, hgg.sub _ h.unit⟩, hk, ⟨h.circ.ext c1 c2, c1.dk.2 c3, ?_, hgg⟩, fun A' hA => dec_and h.unit (hA x (by simp)) (hA y (by simp))⟩
  rw [tv_eq c4]; simp [tv]

theorem gs_Or {X : Nat → Prop} (w : World) (B b m n : Nat) (G : List (List Int)) (A K : List Int) (x y : Int) (h : GS X w B b m n G A K) (hx : Dk K x) (hy : Dk K y) (hm : m ≤ 100000) :
    Calls Try.prog 37 #[.pointer (some ⟨b, 0, none⟩), .int .i64 x, .int .i64 y] w (GPost X w B b m G A K (tv K x || tv K y) [x, y]) := by
  have hxk := h.circ.dk.1 hx
  have hyk := h.circ.dk.1 hy
  have hnm := h.nm
  have hgm := h.gm
  refine (gate_Or w B b n G x y h.gb h.n1 hxk hyk (by omega) (by omega)).mono ?_
  rintro e w' ⟨rfl, hg, hk⟩
  obtain ⟨K', c1, c2, c3, c4⟩ := circ_or h.circ h.one hxk hyk
  have hs := gAnd_size n G (-x) (-y)
  have hgg := gg_or n G x y
  refine ⟨_, _, _, K', rfl, ⟨hg, c1, c2 1 h.one, ?_, ?_, hgg.len h.cl, hgg.sub _ h.unit⟩, hk, ⟨h.circ.ext c1 c2, c1.dk.2 c3, ?_, hgg⟩, fun A' hA => dec_or h.unit (hA x (by simp)) (hA y (by simp))⟩
  · show (gAnd n G (-x) (-y)).2.1 ≤ m + 1; omega
  · show (gAnd n G (-x) (-y)).2.2.length ≤ 6 * (m + 1); omega
  · rw [tv_eq c4]; simp [tv]

theorem gs_Xor {X : Nat → Prop} (w : World) (B b m n : Nat) (G : List (List Int)) (A K : List Int) (x y : Int) (h : GS X w B b m n G A K) (hx : Dk K x) (hy : Dk K y) (hm : m ≤ 100000) :
    Calls Try.prog 38 #[.pointer (some ⟨b, 0, none⟩), .int .i64 x, .int .i64 y] w (GPost X w B b m G A K (tv K x != tv K y) [x, y]) := by
  have hxk := h.circ.dk.1 hx
  have hyk := h.circ.dk.1 hy
  have hnm := h.nm
  have hgm := h.gm
  refine (gate_Xor w B b n G x y h.gb hxk hyk (by omega) (by omega)).mono ?_
  rintro e w' ⟨rfl, hg, hk⟩
  obtain ⟨K', c1, c2, c3, c4⟩ := circ_xor h.circ h.one hxk hyk
  have hs := gXor_size n G x y
  have hgg := gg_xor n G x y
  refine ⟨_, _, _, K', rfl, ⟨hg, c1, c2 1 h.one, by omega, by omega, hgg.len h.cl, hgg.sub _ h.unit⟩, hk, ⟨h.circ.ext c1 c2, c1.dk.2 c3, ?_, hgg⟩, fun A' hA => dec_xor h.unit (hA x (by simp)) (hA y (by simp))⟩
  rw [tv_eq c4]
  unfold tv
  by_cases e1 : x ∈ K <;> by_cases e2 : y ∈ K <;> simp [e1, e2]

theorem gs_Mux {X : Nat → Prop} (w : World) (B b m n : Nat) (G : List (List Int)) (A K : List Int) (c x y : Int) (h : GS X w B b m n G A K) (hc : Dk K c) (hx : Dk K x) (hy : Dk K y) (hm : m ≤ 100000) :
    Calls Try.prog 39 #[.pointer (some ⟨b, 0, none⟩), .int .i64 c, .int .i64 x, .int .i64 y] w (GPost X w B b m G A K (if tv K c then tv K x else tv K y) [c, x, y]) := by
  have hck := h.circ.dk.1 hc
  have hxk := h.circ.dk.1 hx
  have hyk := h.circ.dk.1 hy
  have hnm := h.nm
  have hgm := h.gm
  refine (gate_Mux w B b n G c x y h.gb hck hxk hyk (by omega) (by omega)).mono ?_
  rintro e w' ⟨rfl, hg, hk⟩
  obtain ⟨K', c1, c2, c3, c4⟩ := circ_mux h.circ h.one hck hxk hyk
  have hs := gMux_size n G c x y
  have hgg := gg_mux n G c x y
  refine ⟨_, _, _, K', rfl, ⟨hg, c1, c2 1 h.one, by omega, by omega, hgg.len h.cl, hgg.sub _ h.unit⟩, hk, ⟨h.circ.ext c1 c2, c1.dk.2 c3, ?_, hgg⟩, fun A' hA => dec_mux (hA c (by simp)) (hA x (by simp)) (hA y (by simp))⟩
  rw [tv_eq c4]
  unfold tv
  by_cases e0 : c ∈ K <;> by_cases e1 : x ∈ K <;> by_cases e2 : y ∈ K <;> simp [e0, e1, e2]

end Go.Proofs.Ytacmfiikdbekbaa.Ord

/- What law15 calls: the kit's Mod; a few facts about the builder's surroundings. -/
namespace Go.Proofs.Ytacmfiikdbekbaa.Ord
open Go.RowKit Go.Conc

attribute [local go_sem ↓] Go.wp_at_zero Go.wp_at_succ

theorem GB.base {X : Nat → Prop} {w : World} {B B' b n : Nat} {G : List (List Int)} (h : GB X w B b n G) (hB : B' ≤ B) : GB X w B' b n G :=
  let ⟨v, h1, ⟨vs, g1, g2⟩, h3, h4⟩ := h
  ⟨v, h1, ⟨vs, own_base g1 hB, fun j c hj => let ⟨u, e1, e2⟩ := g2 j c hj; ⟨u, e1, e2.1.base hB, e2.2⟩⟩, by omega, h4⟩

theorem mod_fact {n m : Int} (hm : 0 < m) : (n.tmod m + m).tmod m = n % m := by
  have h1 := Int.tmod_lt_of_pos n hm
  have h2 : -m < n.tmod m := by
    have := Int.tmod_lt_of_pos (-n) hm
    rw [Int.neg_tmod] at this
    omega
  rw [Int.tmod_eq_emod_of_nonneg (by omega), Int.add_emod_right]
  have h3 := Int.mul_tdiv_add_tmod n m
  conv => rhs; rw [← h3]
  rw [Int.add_comm, Int.add_mul_emod_self_left]

theorem mod_bounds {n m : Int} (hm : 0 < m) : -m < n.tmod m ∧ n.tmod m < m := by
  refine ⟨?_, Int.tmod_lt_of_pos n hm⟩
  have := Int.tmod_lt_of_pos (-n) hm
  rw [Int.neg_tmod] at this
  omega

set_option maxRecDepth 100000 in
set_option maxHeartbeats 1000000 in
theorem kit_Mod (w : World) (n m : Int) (hm : 1 ≤ m) (hm2 : m ≤ 4294967296) :
    Calls Try.prog 27 #[.int .i64 n, .int .i64 m] w fun e w' => e = .returned (.int .i64 (n % m)) ∧ w = w' := by
  obtain ⟨b1, b2⟩ := mod_bounds (n := n) (m := m) (by omega)
  have hf := mod_fact (n := n) (m := m) (by omega)
  obtain ⟨r, hr⟩ : ∃ r, n.tmod m = r := ⟨_, rfl⟩
  rw [hr] at b1 b2 hf
  have b3 := mod_bounds (n := r + m) (m := m) (by omega)
  obtain ⟨q, hq⟩ : ∃ q, n % m = q := ⟨_, rfl⟩
  rw [hq] at hf ⊢
  have d0 : decide (m < 1) = false := decide_eq_false (by omega)
  have z0 : ¬ m = 0 := by omega
  have z1 : (m == 0) = false := by rw [beq_eq_false_iff_ne]; exact z0
  have hw1 : IntKind.i64.wrap r = r := IntWalk.i64_in _ (by omega)
  have hw2 : IntKind.i64.wrap (r + m) = r + m := IntWalk.i64_in _ (by omega)
  have hw3 : IntKind.i64.wrap q = q := IntWalk.i64_in _ (by rw [hf] at b3; omega)
  clear hq b1 b2 b3
  go_enter Try.func27, Try.ntmps27
  go_wp2_with fail
  go_ret
  exact ⟨rfl, rfl⟩

end Go.Proofs.Ytacmfiikdbekbaa.Ord
