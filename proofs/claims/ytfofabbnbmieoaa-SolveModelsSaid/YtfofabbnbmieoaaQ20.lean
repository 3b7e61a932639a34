/- Two copies of a formula and two boxes, made in any order. -/
import Derived.Test.YtfofabbnbmieoaaQ19

namespace Go.Proofs.Ytfofabbnbmieoaa.Ord
open Go.RowKit

/-- A box of a formula that holds nothing yet. -/
abbrev zbox : Obj := .cells #[.int .i64 0, .slice none 0 0] 34 (0, 0)

/-- What is made so far: the copies and the boxes. -/
def CS (F : List (List Int)) (FL B : Nat) (w6 u : World) (o1 o3 : Option (Option Addr × Nat)) (o4 o5 : Option Nat) : Prop :=
  Below B w6 u ∧ B ≤ u.heap.size ∧ (∀ p, o1 = some p → OwnRw u B (.slice p.1 FL p.2) F) ∧ (∀ p, o3 = some p → OwnRw u B (.slice p.1 FL p.2) F) ∧ (∀ b, o4 = some b → u.heap[b]? = some zbox ∧ B ≤ b) ∧ (∀ b, o5 = some b → u.heap[b]? = some zbox ∧ B ≤ b) ∧
    (∀ b b', o4 = some b → o5 = some b' → b ≠ b') ∧ (∀ p q, o1 = some p → o3 = some q → ∀ g, (Value.slice q.1 FL q.2).ownBlock = some g → some g ≠ (Value.slice p.1 FL p.2).ownBlock)

theorem ownRw_belowC {w w' : World} {B : Nat} {v : Value} {f : List (List Int)} (h : OwnRw w B v f) (hb : Below w.heap.size w w') : OwnRw w' B v f :=
  let ⟨vs, h1, h2⟩ := h; ⟨vs, own_below h1 hb, fun j c hj => let ⟨u, e1, e2⟩ := h2 j c hj; ⟨u, e1, own_below e2 hb⟩⟩

theorem own_baseC {w : World} {B B' e n : Nat} {v : Value} {xs : List Value} (h : w.ownsRow B' e 1 v n xs) (hB : B ≤ B') : w.ownsRow B e 1 v n xs := by
  refine ⟨h.1, ?_⟩
  rcases h.2 with h0 | ⟨g, cap, cur, e1, e2, e3⟩
  · exact .inl h0
  · exact .inr ⟨g, cap, cur, e1, Nat.le_trans hB e2, e3⟩

section
variable {F : List (List Int)} {FL B : Nat} {w6 u u' : World} {o1 o3 : Option (Option Addr × Nat)} {o4 o5 : Option Nat}

theorem CS.box4 (h : CS F FL B w6 u o1 o3 none o5) : CS F FL B w6 (u.alloc zbox) o1 o3 (some u.heap.size) o5 := by
  obtain ⟨h1, h2, h3, h4, h5, h6, h7, h8⟩ := h
  obtain ⟨hb, hs, z⟩ := box1 u zbox rfl
  refine ⟨h1.trans (hb.mono h2), Nat.le_trans h2 hb.size, fun p hp => ownRw_belowC (h3 p hp) hb, fun p hp => ownRw_belowC (h4 p hp) hb, fun b hb' => ?_, fun b hb' => ⟨(hb.block b (Array.getElem?_eq_some_iff.1 (h6 b hb').1).1).trans (h6 b hb').1, (h6 b hb').2⟩, fun b b' e e' => ?_, h8⟩
  · injection hb' with e
    subst e
    exact ⟨z, h2⟩
  · injection e with e
    subst e
    have := (Array.getElem?_eq_some_iff.1 (h6 b' e').1).1
    omega

theorem CS.box5 (h : CS F FL B w6 u o1 o3 o4 none) : CS F FL B w6 (u.alloc zbox) o1 o3 o4 (some u.heap.size) := by
  obtain ⟨h1, h2, h3, h4, h5, h6, h7, h8⟩ := h
  obtain ⟨hb, hs, z⟩ := box1 u zbox rfl
  refine ⟨h1.trans (hb.mono h2), Nat.le_trans h2 hb.size, fun p hp => ownRw_belowC (h3 p hp) hb, fun p hp => ownRw_belowC (h4 p hp) hb, fun b hb' => ⟨(hb.block b (Array.getElem?_eq_some_iff.1 (h5 b hb').1).1).trans (h5 b hb').1, (h5 b hb').2⟩, fun b hb' => ?_, fun b b' e e' => ?_, h8⟩
  · injection hb' with e
    subst e
    exact ⟨z, h2⟩
  · injection e' with e'
    subst e'
    have := (Array.getElem?_eq_some_iff.1 (h5 b e).1).1
    omega

theorem CS.copy1 (h : CS F FL B w6 u none none o4 o5) {p : Option Addr × Nat} (ho : OwnRw u' u.heap.size (.slice p.1 FL p.2) F) (hb : Below u.heap.size u u') : CS F FL B w6 u' (some p) none o4 o5 := by
  obtain ⟨h1, h2, h3, h4, h5, h6, h7, h8⟩ := h
  refine ⟨h1.trans (hb.mono h2), Nat.le_trans h2 hb.size, fun q hq => ?_, nofun, fun b hb' => ⟨(hb.block b (Array.getElem?_eq_some_iff.1 (h5 b hb').1).1).trans (h5 b hb').1, (h5 b hb').2⟩, fun b hb' => ⟨(hb.block b (Array.getElem?_eq_some_iff.1 (h6 b hb').1).1).trans (h6 b hb').1, (h6 b hb').2⟩, h7, nofun⟩
  injection hq with e
  subst e
  obtain ⟨vs, g1, g2⟩ := ho
  exact ⟨vs, own_baseC g1 h2, fun j c hj => let ⟨x, e1, e2⟩ := g2 j c hj; ⟨x, e1, own_baseC e2 h2⟩⟩

theorem CS.copy3 {p0 : Option Addr × Nat} (h : CS F FL B w6 u (some p0) none o4 o5) {p : Option Addr × Nat} (ho : OwnRw u' u.heap.size (.slice p.1 FL p.2) F) (hb : Below u.heap.size u u') : CS F FL B w6 u' (some p0) (some p) o4 o5 := by
  obtain ⟨h1, h2, h3, h4, h5, h6, h7, h8⟩ := h
  refine ⟨h1.trans (hb.mono h2), Nat.le_trans h2 hb.size, fun q hq => ownRw_belowC (h3 q hq) hb, fun q hq => ?_, fun b hb' => ⟨(hb.block b (Array.getElem?_eq_some_iff.1 (h5 b hb').1).1).trans (h5 b hb').1, (h5 b hb').2⟩, fun b hb' => ⟨(hb.block b (Array.getElem?_eq_some_iff.1 (h6 b hb').1).1).trans (h6 b hb').1, (h6 b hb').2⟩, h7, fun q q' e e' g hg e2 => ?_⟩
  · injection hq with e
    subst e
    obtain ⟨vs, g1, g2⟩ := ho
    exact ⟨vs, own_baseC g1 h2, fun j c hj => let ⟨x, e1, e2⟩ := g2 j c hj; ⟨x, e1, own_baseC e2 h2⟩⟩
  · injection e' with e'
    subst e'
    obtain ⟨vs, g1, g2⟩ := ho
    obtain ⟨vs', k1, k2⟩ := h3 q e
    have q1 := (g1.lt g hg).1
    have q2 := (k1.lt g e2.symm).2
    omega

theorem CS.fin {p q : Option Addr × Nat} {b b' : Nat} (h : CS F FL B w6 u (some p) (some q) (some b) (some b')) :
    u.cell? ⟨b, 0, none⟩ = some (.int .i64 0) ∧ u.cell? ⟨b, 1, none⟩ = some (.slice none 0 0) ∧ u.frozen? ⟨b, 0, none⟩ = false ∧ u.frozen? ⟨b, 1, none⟩ = false ∧ u.cell? ⟨b', 0, none⟩ = some (.int .i64 0) ∧ u.cell? ⟨b', 1, none⟩ = some (.slice none 0 0) ∧ u.frozen? ⟨b', 0, none⟩ = false ∧ u.frozen? ⟨b', 1, none⟩ = false := by
  obtain ⟨h1, h2, h3, h4, h5, h6, h7, h8⟩ := h
  have e1 := (h5 b rfl).1
  have e2 := (h6 b' rfl).1
  exact ⟨by rw [cell_of_row _ _ _ _ _ _ e1]; rfl, by rw [cell_of_row _ _ _ _ _ _ e1]; rfl, frozen_of_row _ _ _ _ _ e1, frozen_of_row _ _ _ _ _ e1, by rw [cell_of_row _ _ _ _ _ _ e2]; rfl, by rw [cell_of_row _ _ _ _ _ _ e2]; rfl, frozen_of_row _ _ _ _ _ e2, frozen_of_row _ _ _ _ _ e2⟩

/-- A value stored in a formula's box. -/
abbrev stF (u : World) (b : Nat) (n : Int) (v : Value) : World := (u.setCell ⟨b, 0, none⟩ (.int .i64 n)).setCell ⟨b, 1, none⟩ v

theorem stF_at {u : World} {b : Nat} {n : Int} {v : Value} (h : u.heap[b]? = some zbox) : (stF u b n v).heap[b]? = some (.cells #[.int .i64 n, v] 34 (0, 0)) :=
  setCell_block (o := 1) (xs := [.int .i64 n, .slice none 0 0]) v (setCell_block (o := 0) (xs := [.int .i64 0, .slice none 0 0]) (.int .i64 n) h)

theorem stF_other {u : World} {b k : Nat} {n : Int} {v : Value} (hk : k ≠ b) : (stF u b n v).heap[k]? = u.heap[k]? :=
  (heap_setCell_other (u.setCell ⟨b, 0, none⟩ (.int .i64 n)) ⟨b, 1, none⟩ k v hk).trans (heap_setCell_other u ⟨b, 0, none⟩ k _ hk)

theorem stF_mid {u : World} {b : Nat} {n : Int} (h : u.heap[b]? = some zbox) : (u.setCell ⟨b, 0, none⟩ (.int .i64 n)).heap[b]? = some (.cells #[.int .i64 n, .slice none 0 0] 34 (0, 0)) :=
  setCell_block (o := 0) (xs := [.int .i64 0, .slice none 0 0]) (.int .i64 n) h

theorem stF_own {u : World} {b B m : Nat} {n : Int} {v x : Value} {xs : List Value} (h : u.heap[b]? = some zbox) (ho : u.ownsRow B 22 1 x m xs) : (stF u b n v).ownsRow B 22 1 x m xs :=
  own_setO (own_setO ho h (by decide) _ _) (stF_mid h) (by decide) _ _

theorem stF_ownT {u : World} {b B : Nat} {n : Int} {v x : Value} {xs : List Int} (h : u.heap[b]? = some zbox) (ho : OwnT 3 u B x xs) : OwnT 3 (stF u b n v) B x xs :=
  ownT_setX (ownT_setX ho h (by decide) _) (stF_mid h) (by decide) _

theorem CS.st1 {p q : Option Addr × Nat} {b b' : Nat} (h : CS F FL B w6 u (some p) (some q) (some b) (some b')) (n : Int) (v : Value) :
    (stF u b n v).cell? ⟨b', 0, none⟩ = some (.int .i64 0) ∧ (stF u b n v).cell? ⟨b', 1, none⟩ = some (.slice none 0 0) ∧ (stF u b n v).frozen? ⟨b', 0, none⟩ = false ∧ (stF u b n v).frozen? ⟨b', 1, none⟩ = false := by
  obtain ⟨h1, h2, h3, h4, h5, h6, h7, h8⟩ := h
  have e2 : (stF u b n v).heap[b']? = some zbox := (stF_other (h7 b b' rfl rfl).symm).trans (h6 b' rfl).1
  exact ⟨by rw [cell_of_row _ _ _ _ _ _ e2]; rfl, by rw [cell_of_row _ _ _ _ _ _ e2]; rfl, frozen_of_row _ _ _ _ _ e2, frozen_of_row _ _ _ _ _ e2⟩

theorem CS.st2 {p q : Option Addr × Nat} {b b' : Nat} (hFL : F.length = FL) (h : CS F FL B w6 u (some p) (some q) (some b) (some b')) (n : Int) :
    FB2 (stF (stF u b n (.slice p.1 FL p.2)) b' n (.slice q.1 FL q.2)) B b b' n F F ∧ Below B w6 (stF (stF u b n (.slice p.1 FL p.2)) b' n (.slice q.1 FL q.2)) := by
  obtain ⟨h1, h2, h3, h4, h5, h6, h7, h8⟩ := h
  have hne := h7 b b' rfl rfl
  have e0 := (h5 b rfl).1
  have e2 : (stF u b n (.slice p.1 FL p.2)).heap[b']? = some zbox := (stF_other hne.symm).trans (h6 b' rfl).1
  obtain ⟨vs, g1, g2⟩ := h3 p rfl
  obtain ⟨vs', k1, k2⟩ := h4 q rfl
  subst hFL
  refine ⟨⟨_, vs, _, vs', ⟨(stF_other hne).trans (stF_at e0), (h5 b rfl).2, stF_own e2 (stF_own e0 g1), fun j c hj => ?_⟩, ⟨stF_at e2, (h6 b' rfl).2, stF_own e2 (stF_own e0 k1), fun j c hj => ?_⟩, hne, h8 p q rfl rfl⟩, ?_⟩
  · obtain ⟨x, x1, x2⟩ := g2 j c hj
    exact ⟨x, x1, stF_ownT e2 (stF_ownT e0 ((ownT_of_own x2).base (Nat.zero_le _)))⟩
  · obtain ⟨x, x1, x2⟩ := k2 j c hj
    exact ⟨x, x1, stF_ownT e2 (stF_ownT e0 ((ownT_of_own x2).base (Nat.zero_le _)))⟩
  · exact (((h1.setCell (p := ⟨b, 0, none⟩) (h5 b rfl).2 _).setCell (p := ⟨b, 1, none⟩) (h5 b rfl).2 _).setCell (p := ⟨b', 0, none⟩) (h6 b' rfl).2 _).setCell (p := ⟨b', 1, none⟩) (h6 b' rfl).2 _

end

end Go.Proofs.Ytfofabbnbmieoaa.Ord
