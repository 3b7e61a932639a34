/- Memory of the call's own, told block by block: which blocks a call may have touched; rows of ints in blocks. -/
import Derived.Test.YtfgaglgaofceiaaProg
import Derived.Test.YtfgaglgaofceiaaOwn
import Derived.Deep.RegionHeld3
import Derived.BigRegion
namespace Go.Proofs.Ytfgaglgaofceiaa.Ord
open Go.RowKit

theorem info_int : (Try.prog.info? 3).map (fun i => (i.zero, i.size, i.bytes)) = some (some (.int .i64 0), 1, 8) := by kernel_rfl
theorem sizeOf_int (wx : World) : (sizeOf 3).run Try.prog wx = .ok 1 wx := by kernel_rfl

theorem below_al {B : Nat} {a w : World} (h : Below B a w) (hB : B ≤ w.heap.size) (o : Obj) : Below B a (w.alloc o) := h.alloc hB o
theorem box_below (w : World) (o : Obj) : Below w.heap.size w (w.alloc o) := below_al (Below.refl _ _) (Nat.le_refl _) _
theorem heap_al (w : World) (o : Obj) : (w.alloc o).heap = w.heap.push o := rfl
theorem heap_dr (w : World) (n : Nat) : (w.drewN n).heap = w.heap := rfl
theorem heap_drew (w : World) : w.drew.heap = w.heap := rfl
theorem size_al (w : World) (o : Obj) : (w.alloc o).heap.size = w.heap.size + 1 := by simp
theorem setCell_size (w : World) (a : Addr) (v : Value) : (w.setCell a v).heap.size = w.heap.size := by simp [World.setCell]

theorem fit_cell {w : World} {b : Nat} {e : TypeId} {vs : List Value} {m : Nat × Nat} (h : w.heap[b]? = some (.cells vs.toArray e m)) (j : Nat) : w.cell? ⟨b, j, none⟩ = vs[j]? := by
  rw [cell_of_row _ _ _ _ _ _ h]; simp

theorem setCell_block {w : World} {b o : Nat} {e : TypeId} {xs : List Value} (v : Value) (h : w.heap[b]? = some (.cells xs.toArray e (0, 0))) : (w.setCell ⟨b, o, none⟩ v).heap[b]? = some (.cells (xs.set o v).toArray e (0, 0)) := by
  have := heap_setCell_same w b o xs.toArray e v h
  rw [this]
  simp

theorem ints_get {xs : List Int} {k : Nat} {x : Int} (h : xs[k]? = some x) : (ints xs)[k]? = some (.int .i64 x) := by simp [ints, h]
theorem ints_set (xs : List Int) (k : Nat) (x : Int) : (ints xs).set k (.int .i64 x) = ints (xs.set k x) := by simp [ints, List.map_set]

/-- But for the blocks of S, what was there is as it was. -/
structure Touch (S : Nat → Prop) (w w' : World) : Prop where
  os : w'.os = w.os
  tape : w'.tape = w.tape
  output : w'.output = w.output
  size : w.heap.size ≤ w'.heap.size
  block : ∀ k, k < w.heap.size → ¬ S k → w'.heap[k]? = w.heap[k]?

theorem Touch.refl (S : Nat → Prop) (w : World) : Touch S w w := ⟨rfl, rfl, rfl, Nat.le_refl _, fun _ _ _ => rfl⟩
theorem Touch.trans {S : Nat → Prop} {a b c : World} (h : Touch S a b) (k : Touch S b c) : Touch S a c :=
  ⟨k.os.trans h.os, k.tape.trans h.tape, k.output.trans h.output, Nat.le_trans h.size k.size, fun i hi hn => (k.block i (by have := h.size; omega) hn).trans (h.block i hi hn)⟩
theorem Touch.mono {S S' : Nat → Prop} {a b : World} (h : Touch S a b) (hs : ∀ k, k < a.heap.size → S k → S' k) : Touch S' a b :=
  ⟨h.os, h.tape, h.output, h.size, fun i hi hn => h.block i hi (fun e => hn (hs i hi e))⟩
theorem Touch.drew {S : Nat → Prop} {a b : World} (h : Touch S a b) : Touch S a b.drew := ⟨h.os, h.tape, h.output, h.size, h.block⟩
theorem Touch.drewN {S : Nat → Prop} {a b : World} (h : Touch S a b) (n : Nat) : Touch S a (b.drewN n) := ⟨h.os, h.tape, h.output, h.size, h.block⟩
theorem Touch.setCell {S : Nat → Prop} {a b : World} (h : Touch S a b) {p : Addr} (hp : S p.block) (u : Value) : Touch S a (b.setCell p u) :=
  ⟨h.os, h.tape, h.output, by rw [setCell_size]; exact h.size, fun i hi hn => (Below.heap_setCell b p u i (fun e => hn (by rw [e]; exact hp))).trans (h.block i hi hn)⟩
theorem Touch.alloc {S : Nat → Prop} {a b : World} (h : Touch S a b) (o : Obj) : Touch S a (b.alloc o) :=
  ⟨h.os, h.tape, h.output, by rw [size_al]; have := h.size; omega, fun i hi hn => (Below.heap_alloc _ _ _ (by have := h.size; omega)).trans (h.block i hi hn)⟩
theorem Touch.grown {S : Nat → Prop} {a b c : World} {row : Option Nat} (h : Touch S a b) (hg : b.grownBy c row) (hr : ∀ k, row = some k → S k ∨ a.heap.size ≤ k) : Touch S a c :=
  ⟨hg.os.trans h.os, hg.tape.trans h.tape, hg.output.trans h.output, Nat.le_trans h.size hg.size, fun i hi hn => (hg.block i (by have := h.size; omega) (fun e => by rcases hr i e.symm with h1 | h1; exact hn h1; omega)).trans (h.block i hi hn)⟩
theorem Touch.below {S : Nat → Prop} {B : Nat} {a b : World} (h : Touch S a b) (hB : B ≤ a.heap.size) (hs : ∀ k, S k → B ≤ k) : Below B a b :=
  ⟨h.os, h.tape, h.output, h.size, fun k hk => h.block k (by omega) (fun e => by have := hs k e; omega)⟩
theorem touch_of_below {S : Nat → Prop} {a b : World} (h : Below a.heap.size a b) : Touch S a b := ⟨h.os, h.tape, h.output, h.size, fun k hk _ => h.block k hk⟩

/-- A row of ints of the call's own, whatever its base. -/
def Rw (w : World) (v : Value) (xs : List Int) : Prop := w.ownsRow 0 3 1 v xs.length (ints xs)

theorem rw_frame {w w' : World} {v : Value} {xs : List Int} (h : Rw w v xs) (hk : ∀ k, v.ownBlock = some k → w'.heap[k]? = w.heap[k]?) : Rw w' v xs := by
  refine ⟨h.1, ?_⟩
  rcases h.2 with h0 | ⟨g, cap, cur, e1, e2, e3, e4⟩
  · exact .inl h0
  · exact .inr ⟨g, cap, cur, e1, e2, by rw [hk g (by rw [e1]; rfl)]; exact e3, e4⟩

theorem rw_form {w : World} {v : Value} {xs : List Int} (h : Rw w v xs) (hn : 0 < xs.length) : ∃ g c, v = .slice (some ⟨g, 0, none⟩) xs.length c := by
  rcases h.2 with ⟨_, h0⟩ | ⟨g, cap, cur, h1, _⟩
  · omega
  · exact ⟨g, cap, h1⟩

theorem rw_shape {w : World} {v : Value} {xs : List Int} (h : Rw w v xs) : ∃ a c, v = .slice a xs.length c ∧ xs.length ≤ c ∧ (a = none → c = 0) ∧ SlV w a (ints xs) := by
  obtain ⟨a, c, h1, h2, h3, h4⟩ := own_sli h
  exact ⟨a, c, h1, h2, h3, h4⟩

theorem rw_lt {w : World} {v : Value} {xs : List Int} (h : Rw w v xs) : ∀ k, v.ownBlock = some k → k < w.heap.size := fun k hk => (h.lt k hk).2

theorem rw_get {w : World} {g c n : Nat} {xs : List Int} {k : Nat} (h : Rw w (.slice (some ⟨g, 0, none⟩) n c) xs) (hn : n = xs.length) (hk : k < xs.length) : w.cell? ⟨g, k, none⟩ = some (.int .i64 xs[k]) := by
  subst hn
  rw [World.ownsRow.cellAt h k (by omega)]; exact ints_get (by simp)

theorem rw_free {w : World} {g c n : Nat} {xs : List Int} (h : Rw w (.slice (some ⟨g, 0, none⟩) n c) xs) (hn : n = xs.length) (k : Nat) : w.frozen? ⟨g, k, none⟩ = false := by
  subst hn
  exact World.ownsRow.frozenAt h k

theorem rw_set {w : World} {g c n : Nat} {xs : List Int} (h : Rw w (.slice (some ⟨g, 0, none⟩) n c) xs) (hn : n = xs.length) (k : Nat) (x : Int) : Rw (w.setCell ⟨g, k, none⟩ (.int .i64 x)) (.slice (some ⟨g, 0, none⟩) n c) (xs.set k x) := by
  subst hn
  have := (World.ownsRow.stored h k (.int .i64 x)).1
  rw [ints_set] at this
  unfold Rw
  rw [List.length_set]
  exact this

/-- x[:k] of a row. -/
theorem rw_take {w : World} {g c n : Nat} {xs : List Int} (h : Rw w (.slice (some ⟨g, 0, none⟩) n c) xs) (hn : n = xs.length) {k : Nat} (hk : k ≤ xs.length) : Rw w (.slice (some ⟨g, 0, none⟩) k c) (xs.take k) := by
  subst hn
  refine ⟨by simp, ?_⟩
  rcases h.2 with ⟨h0, _⟩ | ⟨g', cap, cur, e1, e2, e3, e4, e5, e6, e7⟩
  · cases h0
  · injection e1 with a1 a2 a3
    have hl : (xs.take k).length = k := by simp; omega
    refine .inr ⟨g', cap, cur, ?_, e2, e3, by omega, e5, e6, ?_⟩
    · rw [hl, a1, a3]
    · rw [hl]
      have : (ints (xs.take k)) = (ints xs).take k := by simp [ints]
      rw [this, ← e7, List.take_take]
      congr 1
      omega

theorem rw_apart {w : World} {b : Nat} {cs : Array Value} {e : TypeId} {m : Nat × Nat} {v : Value} {xs : List Int} (h : Rw w v xs) (hb : w.heap[b]? = some (.cells cs e m)) (hne : e ≠ 3) : v.ownBlock ≠ some b := by
  intro he
  rcases h.2 with ⟨rfl, _⟩ | ⟨g, cap, cur, rfl, _, hg, _⟩
  · simp [Value.ownBlock] at he
  · simp only [Value.ownBlock, Option.some.injEq] at he
    rw [he, hb] at hg
    simp at hg
    exact hne hg.2.1

end Go.Proofs.Ytfgaglgaofceiaa.Ord
