/- Formulas that a law builds while another clause grows. -/
import Derived.Test.YtfofabbnbmieoaaQSMis
import Derived.Test.YtfofabbnbmieoaaQ19

namespace Go.Proofs.Ytfofabbnbmieoaa.Ord
open Go.RowKit

theorem own_ownP {w : World} {B B' e e' s s' n n' : Nat} {v v' : Value} {xs xs' : List Value} (ho : w.ownsRow B e s v n xs) (ho' : w.ownsRow B' e' s' v' n' xs') (ht : e ≠ e') (hn : v.ownBlock ≠ none) : v.ownBlock ≠ v'.ownBlock := by
  rcases ho.2 with ⟨rfl, _⟩ | ⟨g', cap, cur, rfl, _, hg', _⟩
  · exact absurd rfl hn
  · exact own_ty ho' hg' ht

theorem own_appP {w w1 w6 : World} {B B' e e' s s' n n' : Nat} {v v' : Value} {xs xs' : List Value} (h1 : Below w.heap.size w w1) (ho : w.ownsRow B e s v n xs) (hg : w1.grownBy w6 v.ownBlock) (ho' : w.ownsRow B' e' s' v' n' xs') (ht : e' ≠ e) : w6.ownsRow B' e' s' v' n' xs' :=
  own_frame0 (own_below ho' h1) fun g hg' => hg.block g ((own_below ho' h1).lt g hg').2 (by rw [← hg']; exact own_ownP ho' ho ht (by rw [hg']; nofun))

/-- The formula at block b, beside a row v of ints that grows: none of the clauses lies in its block. -/
structure PSt (w1 : World) (B b : Nat) (n : Int) (w : World) (G : List (List Int)) (v : Value) (xs : List Int) : Prop where
  bel : Below B w1 w
  le : B ≤ w.heap.size
  fb : ∃ f vs, w.heap[b]? = some (.cells #[.int .i64 n, f] 34 (0, 0)) ∧ B ≤ b ∧ w.ownsRow B 22 1 f G.length vs ∧ ∀ (j : Nat) (c : List Int), G[j]? = some c → ∃ u, vs[j]? = some u ∧ OwnT 3 w 0 u c ∧ ∀ a m k, u = .slice (some a) m k → v.ownBlock ≠ some a.block
  own : w.ownsRow B 3 1 v xs.length (ints xs)

section
variable {w1 w w' : World} {B b : Nat} {n : Int} {G : List (List Int)} {v : Value} {xs : List Int}

theorem PSt.form (h : PSt w1 B b n w G v xs) : FB w B b n G := by
  obtain ⟨f, vs, h1, h2, h3, h4⟩ := h.fb
  exact ⟨f, vs, h1, h2, h3, fun j c hj => let ⟨u, e1, e2, _⟩ := h4 j c hj; ⟨u, e1, e2⟩⟩

theorem FB.pst (h : FB w B b n G) (hb : Below B w1 w) (hB : B ≤ w.heap.size) : PSt w1 B b n w G (.slice none 0 0) [] := by
  obtain ⟨f, vs, h1, h2, h3, h4⟩ := h
  exact ⟨hb, hB, ⟨f, vs, h1, h2, h3, fun j c hj => let ⟨u, e1, e2⟩ := h4 j c hj; ⟨u, e1, e2, fun _ _ _ _ e => by cases e⟩⟩, World.ownsRow_nil _ _ _ _⟩

/-- The row grows. -/
theorem PSt.num (h : PSt w1 B b n w G v xs) (x : Int) (hl : xs.length ≤ 1048576) :
    ∃ a' c' w', (appM #[22, 22] 22 #[v, .slice (some ⟨w.heap.size, 0, none⟩) 1 1]).run Try.prog (w.alloc (.cells #[.int .i64 x] 3 (0, 0))) = .ok (.slice a' (xs.length + 1) c') w' ∧ PSt w1 B b n w' G (.slice a' (xs.length + 1) c') (xs ++ [x]) := by
  obtain ⟨i0, hi0, hz0, hz1, hz2⟩ := info_parts info_int
  obtain ⟨hb1, hs1, z1⟩ := box1 w (.cells #[.int .i64 x] 3 (0, 0)) rfl
  have hB := h.le
  obtain ⟨a', c', w', r1, r2, r3, r4⟩ := appM_one (P := Try.prog) (w.alloc (.cells #[.int .i64 x] 3 (0, 0))) B 22 22 3 i0 (.int .i64 0) 8 Try.underlying22 hi0 hz0 hz1 hz2 rfl v xs.length (ints xs) (h.own.alloc _) w.heap.size (.int .i64 x) z1 rfl (by unfold maxLen; omega) (by omega) (by omega)
  obtain ⟨f, vs, h1, h2, h3, h4⟩ := h.fb
  have hbel : Below B w w' := (hb1.mono hB).grown r3 (by omega) fun q hq => (h.own.lt q hq).1
  have e : ints xs ++ [.int .i64 x] = ints (xs ++ [x]) := by simp [ints]
  rw [e] at r2
  refine ⟨a', c', w', r1, h.bel.trans hbel, by have := hbel.size; omega, ⟨f, vs, blk_app hb1 h.own r3 h1 (by decide), h2, own_appP hb1 h.own r3 h3 (by decide), fun j c hj => ?_⟩, by rw [List.length_append]; exact r2⟩
  obtain ⟨u, e1, e2, e3⟩ := h4 j c hj
  have hu := e2.below hb1
  refine ⟨u, e1, ?_, fun a m k hu2 => ?_⟩
  · obtain ⟨ad, cc, q1, q2, q3, q4⟩ := hu
    refine ⟨ad, cc, q1, q2, q3, fun y hy => ?_⟩
    obtain ⟨g, off, cur, k1, k2, k3, k4⟩ := q4 y hy
    refine ⟨g, off, cur, k1, k2, ?_, k4⟩
    rw [r3.block g (Array.getElem?_eq_some_iff.1 k3).1 (fun e => ?_)]
    · exact k3
    · subst hy
      have := e3 y _ cc q1
      rw [k1] at this
      exact this e.symm
  · rcases r4 with r4 | r4
    · rw [r4]; exact e3 a m k hu2
    · rw [r4]
      intro e
      injection e with e
      obtain ⟨ad, cc, q1, q2, q3, q4⟩ := e2
      rw [hu2] at q1
      injection q1 with q1
      obtain ⟨g, off, cur, k1, k2, k3, k4⟩ := q4 a q1.symm
      have k5 := (Array.getElem?_eq_some_iff.1 k3).1
      rw [k1] at e
      simp only [size_al] at e
      have e : w.heap.size + 1 = g := e
      omega

/-- A clause of its own block more. -/
theorem PSt.row (h : PSt w1 B b n w G v xs) {c : List Int} (hl : G.length ≤ 1048576) :
    ∃ a cap a12 c12 w12, w.cell? ⟨b, 1, none⟩ = some (.slice a G.length cap) ∧ (appM #[32, 32] 32 #[.slice a G.length cap, .slice (some ⟨w.heap.size + 1, 0, none⟩) 1 1]).run Try.prog ((w.alloc (.cells (ints c).toArray 3 (0, 0))).alloc (.cells #[.slice (some ⟨w.heap.size, 0, none⟩) c.length c.length] 22 (0, 0))) = .ok (.slice a12 (G.length + 1) c12) w12 ∧ w12.cell? ⟨b, 1, none⟩ = some (.slice a G.length cap) ∧ w12.frozen? ⟨b, 1, none⟩ = false ∧
      PSt w1 B b n (w12.setCell ⟨b, 1, none⟩ (.slice a12 (G.length + 1) c12)) (G ++ [c]) v xs := by
  obtain ⟨i1, hi1, hy0, hy1, hy2⟩ := info_parts info_ints
  obtain ⟨f, vs, h1, h2, h3, h4⟩ := h.fb
  have hB := h.le
  obtain ⟨a, cap, hv⟩ := own_lenV' h3
  subst hv
  obtain ⟨hb0, hs0, z0⟩ := box1 w (.cells (ints c).toArray 3 (0, 0)) rfl
  obtain ⟨wp, hwp⟩ : ∃ t, w.alloc (.cells (ints c).toArray 3 (0, 0)) = t := ⟨_, rfl⟩
  rw [hwp] at hb0 hs0 z0 ⊢
  obtain ⟨hb1, hs1, z1⟩ := box1 wp (.cells #[.slice (some ⟨w.heap.size, 0, none⟩) c.length c.length] 22 (0, 0)) rfl
  have hb01 := hb0.trans (hb1.mono hb0.size)
  rw [hs0] at z1
  obtain ⟨a12, c12, w12, hr12, ho12, hg12, -⟩ := appM_one (P := Try.prog) (wp.alloc (.cells #[.slice (some ⟨w.heap.size, 0, none⟩) c.length c.length] 22 (0, 0))) B 32 32 22 i1 (.slice none 0 0) 24 Try.underlying32 hi1 hy0 hy1 hy2 rfl (.slice a G.length cap) G.length vs (own_below h3 hb01) (w.heap.size + 1) (.slice (some ⟨w.heap.size, 0, none⟩) c.length c.length) z1 rfl (by unfold maxLen; omega) (by omega) (by omega)
  have q1 : w12.heap[b]? = some (.cells #[.int .i64 n, .slice a G.length cap] 34 (0, 0)) := blk_app hb01 h3 hg12 h1 (by decide)
  have hT : ∀ {u : Value} {d : List Int}, OwnT 3 (wp.alloc (.cells #[.slice (some ⟨w.heap.size, 0, none⟩) c.length c.length] 22 (0, 0))) 0 u d → OwnT 3 w12 0 u d := fun hu => ownT_kept hu (own_below h3 hb01) (by decide) hg12
  have hx0 : OwnT 3 (wp.alloc (.cells #[.slice (some ⟨w.heap.size, 0, none⟩) c.length c.length] 22 (0, 0))) 0 (.slice (some ⟨w.heap.size, 0, none⟩) c.length c.length) c := ⟨some ⟨w.heap.size, 0, none⟩, c.length, rfl, Nat.le_refl _, nofun, fun y hy => by
    injection hy with hy
    subst hy
    exact ⟨w.heap.size, 0, _, rfl, Nat.zero_le _, (hb1.block _ (by omega)).trans z0, fun j x hj => by
      rw [Nat.zero_add, List.getElem?_toArray]
      unfold ints
      rw [List.getElem?_map, hj]
      rfl⟩⟩
  have hbel : Below B w w12 := (hb01.mono hB).grown hg12 (by omega) fun q hq => (h3.lt q hq).1
  refine ⟨a, cap, a12, c12, w12, by rw [cell_of_row _ _ _ _ _ _ h1]; rfl, hr12, by rw [cell_of_row _ _ _ _ _ _ q1]; rfl, frozen_of_row _ _ _ _ _ q1, h.bel.trans (hbel.setCell (p := ⟨b, 1, none⟩) h2 _), by rw [setCell_size]; have := hbel.size; omega, ⟨_, vs ++ [.slice (some ⟨w.heap.size, 0, none⟩) c.length c.length], setCell_block (o := 1) (xs := [.int .i64 n, .slice a G.length cap]) _ q1, h2, ?_, fun j d hj => ?_⟩, own_setO (own_appP hb01 h3 hg12 h.own (by decide)) q1 (by decide) _ _⟩
  · rw [List.length_append]
    exact own_setO ho12 q1 (by decide) _ _
  · have hl2 : vs.length = G.length := by have := h3.1; omega
    rcases Nat.lt_or_ge j G.length with q | q
    · rw [List.getElem?_append_left q] at hj
      obtain ⟨u, e1, e2, e3⟩ := h4 j d hj
      exact ⟨u, by rw [List.getElem?_append_left (by omega)]; exact e1, ownT_setX (hT (e2.below hb01)) q1 (by decide) _, e3⟩
    · rw [List.getElem?_append_right q] at hj
      have h5 := (List.getElem?_eq_some_iff.1 hj).1
      simp at h5
      have h6 : j = G.length := by omega
      subst h6
      simp at hj
      subst hj
      refine ⟨_, by rw [List.getElem?_append_right (by omega), hl2]; simp, ownT_setX (hT hx0) q1 (by decide) _, fun a' m k e => ?_⟩
      injection e with e
      injection e with e
      intro e2
      have := (h.own.lt _ e2).2
      rw [← e] at this
      exact absurd this (Nat.lt_irrefl _)

end

end Go.Proofs.Ytfofabbnbmieoaa.Ord
