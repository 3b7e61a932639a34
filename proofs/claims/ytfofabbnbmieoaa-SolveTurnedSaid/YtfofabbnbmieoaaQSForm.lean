/- Formulas that a law builds: a box, its rows, a clause more. -/
import Derived.Test.YtfofabbnbmieoaaQ18
import Derived.Test.YtfofabbnbmieoaaQ20

namespace Go.Proofs.Ytfofabbnbmieoaa.Ord
open Go.RowKit

theorem ownT_setX {w : World} {B : Nat} {v : Value} {xs : List Int} {b k : Nat} {cs : Array Value} {t : TypeId} {m : Nat × Nat} (h : OwnT 3 w B v xs) (hb : w.heap[b]? = some (.cells cs t m)) (ht : t ≠ 3) (u : Value) : OwnT 3 (w.setCell ⟨b, k, none⟩ u) B v xs := by
  obtain ⟨ad, c, h1, h2, h3, h4⟩ := h
  refine ⟨ad, c, h1, h2, h3, fun x hx => ?_⟩
  obtain ⟨g, off, cur, e1, e2, e3, e4⟩ := h4 x hx
  refine ⟨g, off, cur, e1, e2, ?_, e4⟩
  rw [heap_setCell_other w ⟨b, k, none⟩ g u ?_]
  · exact e3
  · intro e
    have e : g = b := by first | exact e | exact e.symm
    rw [e, hb] at e3
    injection e3 with e3
    injection e3 with _ e3 _
    exact ht e3

/-- A formula that is built at block b: n variables and clauses G, all from B on. -/
def FB (w : World) (B b : Nat) (n : Int) (G : List (List Int)) : Prop :=
  ∃ v vs, w.heap[b]? = some (.cells #[.int .i64 n, v] 34 (0, 0)) ∧ B ≤ b ∧ w.ownsRow B 22 1 v G.length vs ∧ ∀ (j : Nat) (c : List Int), G[j]? = some c → ∃ u, vs[j]? = some u ∧ OwnT 3 w 0 u c

section
variable {w w' : World} {B b : Nat} {n : Int} {G : List (List Int)}

theorem FB.below (h : FB w B b n G) (hb : Below w.heap.size w w') : FB w' B b n G := by
  obtain ⟨v, vs, h1, h2, h3, h4⟩ := h
  exact ⟨v, vs, (hb.block b (Array.getElem?_eq_some_iff.1 h1).1).trans h1, h2, own_below h3 hb, fun j c hj => let ⟨u, e1, e2⟩ := h4 j c hj; ⟨u, e1, e2.below hb⟩⟩

theorem FB.rows (h : FB w B b n G) : ∃ a c, w.heap[b]? = some (.cells #[.int .i64 n, .slice a G.length c] 34 (0, 0)) ∧ Rws w a G := by
  obtain ⟨v, vs, h1, h2, h3, h4⟩ := h
  obtain ⟨a, c, e1, e2, e3, e4⟩ := own_sl h3
  have hl : vs.length = G.length := by have := h3.1; omega
  rw [hl] at e1
  subst e1
  refine ⟨a, c, h1, fun j d hj => ?_⟩
  obtain ⟨u, g1, g2⟩ := h4 j d hj
  obtain ⟨bb, off, k1, k2⟩ := e4 j u g1
  exact ⟨bb, off, u, k1, k2, g2.sli⟩

/-- A clause more. -/
theorem FB.push (h : FB w B b n G) (hB : B ≤ w.heap.size) {x : Value} {c : List Int} (hx : OwnT 3 w 0 x c) (hx1 : x.oneCell' = true) (hl : G.length ≤ 1048576) :
    ∃ a cap a12 c12 w12, w.cell? ⟨b, 1, none⟩ = some (.slice a G.length cap) ∧ (appM #[32, 32] 32 #[.slice a G.length cap, .slice (some ⟨w.heap.size, 0, none⟩) 1 1]).run Try.prog (w.alloc (.cells #[x] 22 (0, 0))) = .ok (.slice a12 (G.length + 1) c12) w12 ∧ w12.cell? ⟨b, 1, none⟩ = some (.slice a G.length cap) ∧ w12.frozen? ⟨b, 1, none⟩ = false ∧
      FB (w12.setCell ⟨b, 1, none⟩ (.slice a12 (G.length + 1) c12)) B b n (G ++ [c]) ∧ Below B w (w12.setCell ⟨b, 1, none⟩ (.slice a12 (G.length + 1) c12)) := by
  obtain ⟨i1, hi1, hy0, hy1, hy2⟩ := info_parts info_ints
  obtain ⟨v, vs, h1, h2, h3, h4⟩ := h
  obtain ⟨a, cap, hv⟩ := own_lenV' h3
  subst hv
  obtain ⟨hb1, hs1, z1⟩ := box1 w (.cells #[x] 22 (0, 0)) rfl
  obtain ⟨a12, c12, w12, hr12, ho12, hg12, -⟩ := appM_one (P := Try.prog) (w.alloc (.cells #[x] 22 (0, 0))) B 32 32 22 i1 (.slice none 0 0) 24 Try.underlying32 hi1 hy0 hy1 hy2 rfl (.slice a G.length cap) G.length vs (h3.alloc _) w.heap.size x z1 hx1 (by unfold maxLen; omega) (by omega) (by omega)
  have q1 : w12.heap[b]? = some (.cells #[.int .i64 n, .slice a G.length cap] 34 (0, 0)) := blk_app hb1 h3 hg12 h1 (by decide)
  have hT : ∀ {u : Value} {d : List Int}, OwnT 3 w 0 u d → OwnT 3 w12 0 u d := fun hu => ownT_kept (hu.below hb1) (h3.alloc _) (by decide) hg12
  have hbel : Below B w w12 := (hb1.mono hB).grown hg12 (by omega) fun q hq => (h3.lt q hq).1
  refine ⟨a, cap, a12, c12, w12, by rw [cell_of_row _ _ _ _ _ _ h1]; rfl, hr12, by rw [cell_of_row _ _ _ _ _ _ q1]; rfl, frozen_of_row _ _ _ _ _ q1, ⟨_, vs ++ [x], setCell_block (o := 1) (xs := [.int .i64 n, .slice a G.length cap]) _ q1, h2, ?_, fun j d hj => ?_⟩, hbel.setCell (p := ⟨b, 1, none⟩) h2 _⟩
  · rw [List.length_append]
    exact own_setO ho12 q1 (by decide) _ _
  · have hl2 : vs.length = G.length := by have := h3.1; omega
    rcases Nat.lt_or_ge j G.length with q | q
    · rw [List.getElem?_append_left q] at hj
      obtain ⟨u, e1, e2⟩ := h4 j d hj
      exact ⟨u, by rw [List.getElem?_append_left (by omega)]; exact e1, ownT_setX (hT e2) q1 (by decide) _⟩
    · rw [List.getElem?_append_right q] at hj
      have h5 := (List.getElem?_eq_some_iff.1 hj).1
      simp at h5
      have h6 : j = G.length := by omega
      subst h6
      simp at hj
      subst hj
      exact ⟨x, by rw [List.getElem?_append_right (by omega), hl2]; simp, ownT_setX (hT hx) q1 (by decide) _⟩

/-- A number more in a row of the law's own. -/
theorem row_push {v : Value} {xs : List Int} (h : w.ownsRow B 3 1 v xs.length (ints xs)) (hB : B ≤ w.heap.size) (x : Int) (hl : xs.length ≤ 1048576) :
    ∃ a' c' w', (appM #[22, 22] 22 #[v, .slice (some ⟨w.heap.size, 0, none⟩) 1 1]).run Try.prog (w.alloc (.cells #[.int .i64 x] 3 (0, 0))) = .ok (.slice a' (xs.length + 1) c') w' ∧ w'.ownsRow B 3 1 (.slice a' (xs.length + 1) c') (xs ++ [x]).length (ints (xs ++ [x])) ∧ Below B w w' := by
  obtain ⟨i0, hi0, hz0, hz1, hz2⟩ := info_parts info_int
  obtain ⟨hb1, hs1, z1⟩ := box1 w (.cells #[.int .i64 x] 3 (0, 0)) rfl
  obtain ⟨a', c', w', h1, h2, h3, -⟩ := appM_one (P := Try.prog) (w.alloc (.cells #[.int .i64 x] 3 (0, 0))) B 22 22 3 i0 (.int .i64 0) 8 Try.underlying22 hi0 hz0 hz1 hz2 rfl v xs.length (ints xs) (h.alloc _) w.heap.size (.int .i64 x) z1 rfl (by unfold maxLen; omega) (by omega) (by omega)
  refine ⟨a', c', w', h1, ?_, (hb1.mono hB).grown h3 (by omega) fun q hq => (h.lt q hq).1⟩
  have e : ints xs ++ [.int .i64 x] = ints (xs ++ [x]) := by simp [ints]
  rw [e] at h2
  rw [List.length_append]
  exact h2

end

end Go.Proofs.Ytfofabbnbmieoaa.Ord
