/- The contracts of the reference's unit and Units of layer 4. -/
import Derived.WideMake
import Derived.Deep.OwnRows
import Derived.Deep.DrawnRows
import Derived.Test.YtacmfiikdbekbaaQ0
import Derived.Test.YtacmfiikdbekbaaQ1
import Derived.Test.YtacmfiikdbekbaaQ2

namespace Go.Proofs.Ytacmfiikdbekbaa.Ord
open Go.RowKit Go.Conc

attribute [local go_sem ↓] Go.wp_at_zero Go.wp_at_succ

theorem look_kes {w : World} {bk : Nat} {K : List Int} (h : IM w bk (kes K)) (a : Int) :
    (Instr.lookup 99 (.map (some bk)) (.int .i64 a) false).run Try.prog w = .ok (.bool (decide (a ∈ K))) w := by
  rw [im_lookup (P := Try.prog) Try.underlying99 Try.underlying3 (info_zero_bool w) h a, kes_get]

/-- What the reference's unit leaves. -/
def refUnitR (K c : List Int) (w : World) (e : Ending) (w' : World) : Prop := w' = w ∧ ∃ (l : Int) (b : Bool), e = .returned (.tuple #[.int .i64 l, .bool b]) ∧ UR K c l b

theorem kes_set {K : List Int} {a : Int} (h : -a ∉ K) : aput (kes K) a (.bool true) = kes (setK K a) := by
  by_cases h2 : a ∈ K
  · rw [setK_pos h h2]
    have hg : (kes K).any (fun p => p.1 == a) = true := List.any_eq_true.2 ⟨(a, Value.bool true), List.mem_map.2 ⟨a, h2, rfl⟩, by simp⟩
    unfold aput
    rw [hg, if_pos rfl]
    refine (List.map_congr_left fun p hp => ?_).trans (List.map_id _)
    obtain ⟨k, -, rfl⟩ := List.mem_map.1 hp
    simp only [id]
    split
    · rename_i e; rw [← e]
    · rfl
  · rw [setK_new h h2, kes_put h2]

theorem box_cellsR (n : Nat) (acl : Option Addr) (m cf : Nat) (w : World) (o : Obj) : ((w.alloc (fbox n acl m cf)).alloc o).cell? ⟨w.heap.size, 0, none⟩ = some (.int .i64 n) ∧ ((w.alloc (fbox n acl m cf)).alloc o).cell? ⟨w.heap.size, 1, none⟩ = some (.slice acl m cf) := by
  have hb : ((w.alloc (fbox n acl m cf)).alloc o).heap[w.heap.size]? = some (fbox n acl m cf) := (Below.heap_alloc _ _ _ (by simp)).trans (heap_alloc_new _ _)
  unfold fbox at hb ⊢
  constructor <;> simp [World.cell?, hb]

theorem new_oneR {w : World} {g : Nat} {u : Value} {e : TypeId} (h : w.heap[g]? = some (.cells #[u] e (0, 0))) : ∀ (j : Nat) (x : Value), [u][j]? = some x → w.cell? ((⟨g, 0, none⟩ : Addr).add j) = some x := by
  intro j x hj
  cases j with
  | succ j => simp at hj
  | zero =>
    simp at hj
    subst hj
    simp [World.cell?, Addr.add, h]

theorem im_append {w8 w9 : World} {b : Nat} {es : List (Int × Value)} {o : Obj} {B e s n : Nat} {v : Value} {xs : List Value} (hi : IM w8 b es) (ho : w8.ownsRow B e s v n xs) (hb : b < B) (hg : (w8.alloc o).grownBy w9 v.ownBlock) : IM w9 b es := by
  refine hi.frame ((hg.block b (by rw [size_al]; have := hi.lt; omega) ?_).trans (Below.heap_alloc _ _ _ hi.lt))
  intro e
  have := (ho.lt b e.symm).1
  omega

/-- What the reference's Units leaves. -/
def refUnitsR (n : Int) (F : List (List Int)) (A : List Int) (w : World) (e : Ending) (w' : World) : Prop :=
  Below w.heap.size w w' ∧ ∃ ar cr, e = .returned (.tuple #[.slice ar (unitsV n F A).1.length cr, .bool (unitsV n F A).2.1, .int .i64 (unitsV n F A).2.2]) ∧ SlV w' ar (ints (unitsV n F A).1)

theorem refUnitsR_bad {n : Nat} {F : List (List Int)} {A : List Int} {w w' : World} (h0 : cnfCheck n F = 0) (ha : A.any (badLit n) = false) (h : Bad F A) (hb : Below w.heap.size w w') : refUnitsR n F A w (.returned (.tuple #[.slice none 0 0, .bool true, .int .i64 0])) w' := by
  obtain ⟨e3, e4⟩ := bad_up h n
  refine ⟨hb, none, 0, ?_, ?_⟩
  · rw [unitsV_ok h0 ha, e3, e4]; rfl
  · rw [unitsV_ok h0 ha, e3]; exact SlV.nil _ _

theorem refUnitsR_arg {n : Int} {F : List (List Int)} {A : List Int} {w w' : World} {k : Nat} {x : Int} (h0 : cnfCheck n F = 0) (hx : A[k]? = some x) (hbx : badLit n x = true) (hb : Below w.heap.size w w') : refUnitsR n F A w (.returned (.tuple #[.slice none 0 0, .bool false, .int .i64 3])) w' := by
  refine ⟨hb, none, 0, ?_, ?_⟩
  · rw [unitsV_arg h0 hx hbx]; rfl
  · rw [unitsV_arg h0 hx hbx]; exact SlV.nil _ _

theorem refUnitsR_err {n e : Int} {F : List (List Int)} {A : List Int} {w w' : World} (h0 : cnfCheck n F = e) (he : e ≠ 0) (hb : Below w.heap.size w w') : refUnitsR n F A w (.returned (.tuple #[.slice none 0 0, .bool false, .int .i64 e])) w' := by
  refine ⟨hb, none, 0, ?_, ?_⟩
  · rw [unitsV_err h0 he]; rfl
  · rw [unitsV_err h0 he]; exact SlV.nil _ _

theorem refUnitsR_ok {n : Nat} {F : List (List Int)} {A K : List Int} {w w' : World} {a : Option Addr} {m c : Nat} (h0 : cnfCheck n F = 0) (ha : A.any (badLit n) = false) (h : Closed F A K) (hm : m = (byVar n fun a => decide (a ∈ K)).length) (hs : SlV w' a (ints (byVar n fun a => decide (a ∈ K)))) (hb : Below w.heap.size w w') : refUnitsR n F A w (.returned (.tuple #[.slice a m c, .bool false, .int .i64 0])) w' := by
  obtain ⟨e3, e4⟩ := h.up n
  refine ⟨hb, a, c, ?_, ?_⟩
  · rw [unitsV_ok h0 ha, e3, e4, hm]
  · rw [unitsV_ok h0 ha, e3]; exact hs

end Go.Proofs.Ytacmfiikdbekbaa.Ord
