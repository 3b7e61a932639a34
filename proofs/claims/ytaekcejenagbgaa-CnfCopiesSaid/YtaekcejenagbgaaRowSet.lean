/- One cell of one row of a list of rows of the call's own is written. -/
import Derived.Test.YtaekcejenagbgaaOwnRw
namespace Go.Proofs.Ytaekcejenagbgaa
open Go.RowKit

/-- The rows behind a store of y at the place kk of the block g. -/
def setRows (vs : List Value) (f : List (List Int)) (g kk : Nat) (y : Int) : List (List Int) :=
  (List.range f.length).map fun j => if (vs.getD j undef).ownBlock = some g then (f.getD j []).set kk y else f.getD j []

theorem setRows_length (vs : List Value) (f : List (List Int)) (g kk : Nat) (y : Int) : (setRows vs f g kk y).length = f.length := by simp [setRows]

theorem setRows_get {vs : List Value} {f : List (List Int)} {g kk : Nat} {y : Int} {j : Nat} {c : List Int} {u : Value} (hc : f[j]? = some c) (hu : vs[j]? = some u) :
    (setRows vs f g kk y)[j]? = some (if u.ownBlock = some g then c.set kk y else c) := by
  obtain ⟨hj, rfl⟩ := List.getElem?_eq_some_iff.1 hc
  simp [setRows, hj, hu]

theorem ints_set' (xs : List Int) (k : Nat) (x : Int) : (ints xs).set k (.int .i64 x) = ints (xs.set k x) := by simp [ints, List.map_set]

theorem own_set_int {w : World} {B n g kk : Nat} {u : Value} {xs : List Int} {y : Int} (h : w.ownsRow B 3 1 u n (ints xs)) :
    (w.setCell ⟨g, kk, none⟩ (.int .i64 y)).ownsRow B 3 1 u n (ints (if u.ownBlock = some g then xs.set kk y else xs)) := by
  by_cases hu : u.ownBlock = some g
  · rw [if_pos hu]
    obtain ⟨h0, h1⟩ := h
    rcases h1 with ⟨rfl, _⟩ | ⟨g', cap, cur, rfl, rest⟩
    · simp [Value.ownBlock] at hu
    · simp only [Value.ownBlock, Option.some.injEq] at hu
      subst hu
      have hh : w.ownsRow B 3 1 (.slice (some ⟨g', 0, none⟩) n cap) n (ints xs) := ⟨h0, .inr ⟨g', cap, cur, rfl, rest⟩⟩
      rw [← ints_set']
      exact (hh.stored kk (.int .i64 y)).1
  · rw [if_neg hu]
    obtain ⟨h0, h1⟩ := h
    refine ⟨h0, ?_⟩
    rcases h1 with hn | ⟨g', cap, cur, rfl, e1, e2, e3⟩
    · exact .inl hn
    · simp only [Value.ownBlock, Option.some.injEq] at hu
      exact .inr ⟨g', cap, cur, rfl, e1, by rw [heap_setCell_other w ⟨g, kk, none⟩ g' _ hu]; exact e2, e3⟩

theorem rows_set {w : World} {B : Nat} {v : Value} {f : List (List Int)} {vs : List Value} {g kk n cap : Nat} {xs : List Value} {y : Int}
    (h1 : w.ownsRow B 40 1 v f.length vs) (h2 : ∀ (j : Nat) (c : List Int), f[j]? = some c → ∃ u, vs[j]? = some u ∧ w.ownsRow B 3 1 u c.length (ints c))
    (hg : w.ownsRow B 3 1 (.slice (some ⟨g, 0, none⟩) n cap) n xs) : OwnRw (w.setCell ⟨g, kk, none⟩ (.int .i64 y)) B v (setRows vs f g kk y) := by
  refine ⟨vs, ?_, fun j c hj => ?_⟩
  · rw [setRows_length]
    obtain ⟨h0, h3⟩ := h1
    refine ⟨h0, ?_⟩
    rcases h3 with hn | ⟨g', cap', cur, rfl, e1, e2, e3⟩
    · exact .inl hn
    · refine .inr ⟨g', cap', cur, rfl, e1, ?_, e3⟩
      rw [heap_setCell_other w ⟨g, kk, none⟩ g' _ ?_]
      · exact e2
      · rintro rfl
        rcases hg.2 with ⟨h', _⟩ | ⟨g', cap'', cur', h', _, hgg, _⟩
        · simp at h'
        · simp only [Value.slice.injEq, Option.some.injEq, Addr.mk.injEq, and_true, true_and] at h'
          obtain ⟨rfl, rfl⟩ := h'
          rw [e2] at hgg
          simp at hgg
  · have hjl : j < f.length := by have := (List.getElem?_eq_some_iff.1 hj).1; rw [setRows_length] at this; exact this
    obtain ⟨u, e1, e2⟩ := h2 j f[j] (by simp [hjl])
    have hs := setRows_get (g := g) (kk := kk) (y := y) (show f[j]? = some f[j] by simp [hjl]) e1
    rw [hs] at hj
    injection hj with hj
    subst hj
    refine ⟨u, e1, ?_⟩
    have := own_set_int (g := g) (kk := kk) (y := y) e2
    split
    · rename_i hu; rw [if_pos hu] at this; rw [List.length_set]; exact this
    · rename_i hu; rw [if_neg hu] at this; exact this

theorem setRows_mem {vs : List Value} {f : List (List Int)} {g kk : Nat} {y : Int} {d : List Int} (hd : d ∈ setRows vs f g kk y) : ∃ c ∈ f, d.length = c.length ∧ ∀ x ∈ d, x ∈ c ∨ x = y := by
  simp only [setRows, List.mem_map, List.mem_range] at hd
  obtain ⟨j, hj, rfl⟩ := hd
  have e : f.getD j [] = f[j] := by simp [hj]
  rw [e]
  refine ⟨f[j], by simp, ?_⟩
  split
  · exact ⟨by simp, fun x hx => by rcases List.mem_or_eq_of_mem_set hx with h | h; exact Or.inl h; exact Or.inr h⟩
  · exact ⟨rfl, fun x hx => Or.inl hx⟩

theorem setRows_ne {vs : List Value} {f : List (List Int)} {g kk : Nat} {x y : Int} {j : Nat} {c : List Int} {u : Value} (hc : f[j]? = some c) (hu : vs[j]? = some u) (hg : u.ownBlock = some g) (hx : c[kk]? = some x) (hy : y ≠ x) : f ≠ setRows vs f g kk y := by
  intro e
  have h := setRows_get (g := g) (kk := kk) (y := y) hc hu
  rw [← e, hc, if_pos hg] at h
  injection h with h
  obtain ⟨hk, hx'⟩ := List.getElem?_eq_some_iff.1 hx
  have : (c.set kk y)[kk]? = some y := by simp [hk]
  rw [← h, hx] at this
  injection this with this
  exact hy this.symm

end Go.Proofs.Ytaekcejenagbgaa
