/- weepholelaw02.three once more, with its blocks under names; closed facts for CnfNames. -/
import Derived.Test.YtaekcejenagbgaaEqL
import Derived.Test.YtaekcejenagbgaaCnfC
import Derived.Test.YtaekcejenagbgaaCopyL
namespace Go.Proofs.Ytaekcejenagbgaa
open Go.RowKit

theorem law02_threeX (w : World) :
    Calls Try.prog 41 #[] w fun e w' => ∃ b0 b1 b2 b : Nat, e = .returned (.agg #[.int .i64 3, .slice (some ⟨b, 0, none⟩) 3 3]) ∧ Below w.heap.size w w' ∧ w.heap.size ≤ b0 ∧ b0 < b1 ∧ b1 < b2 ∧ b2 < b ∧ b < w'.heap.size ∧
      w'.heap[b0]? = some (.cells (ints [1, 2]).toArray 3) ∧ w'.heap[b1]? = some (.cells (ints [-1, 3]).toArray 3) ∧ w'.heap[b2]? = some (.cells (ints [-2, -3]).toArray 3) ∧
      w'.heap[b]? = some (.cells #[.slice (some ⟨b0, 0, none⟩) 2 2, .slice (some ⟨b1, 0, none⟩) 2 2, .slice (some ⟨b2, 0, none⟩) 2 2] 40) := by
  refine (law02_three w).mono ?_
  rintro e w' ⟨he, hb, hs, h1, h2, h3, h4⟩
  exact ⟨w.heap.size + 1, w.heap.size + 2, w.heap.size + 3, w.heap.size + 4, he, hb, by omega, by omega, by omega, by omega, by omega, h1, h2, h3, h4⟩

/-- Three rows, each in a block of its own. -/
theorem rows3 {w : World} {b b0 b1 b2 n0 n1 n2 : Nat} {c0 c1 c2 : List Int} (h : w.heap[b]? = some (.cells #[.slice (some ⟨b0, 0, none⟩) n0 n0, .slice (some ⟨b1, 0, none⟩) n1 n1, .slice (some ⟨b2, 0, none⟩) n2 n2] 40))
    (h0 : w.heap[b0]? = some (.cells (ints c0).toArray 3)) (h1 : w.heap[b1]? = some (.cells (ints c1).toArray 3)) (h2 : w.heap[b2]? = some (.cells (ints c2).toArray 3)) (e0 : n0 = c0.length) (e1 : n1 = c1.length) (e2 : n2 = c2.length) :
    Rws w (some ⟨b, 0, none⟩) [c0, c1, c2] := by
  intro j c hj
  have hcell := slv_at (vs := [.slice (some ⟨b0, 0, none⟩) n0 n0, .slice (some ⟨b1, 0, none⟩) n1 n1, .slice (some ⟨b2, 0, none⟩) n2 n2]) h
  match j, hj with
  | 0, hj => simp at hj; subst hj; obtain ⟨b', off, e1, e2⟩ := hcell 0 _ rfl; exact ⟨b', off, _, e1, e2, sli_of_block h0 e0⟩
  | 1, hj => simp at hj; subst hj; obtain ⟨b', off, e1', e2⟩ := hcell 1 _ rfl; exact ⟨b', off, _, e1', e2, sli_of_block h1 e1⟩
  | 2, hj => simp at hj; subst hj; obtain ⟨b', off, e1, e2'⟩ := hcell 2 _ rfl; exact ⟨b', off, _, e1, e2', sli_of_block h2 e2⟩
  | j + 3, hj => simp at hj

theorem fok_lits {f : List (List Int)} (h : f.all (fun c => c.all (fun x => decide (-100 ≤ x ∧ x ≤ 100)) && decide (c.length ≤ 100)) = true) : FOk f := by
  intro c hc
  have := List.all_eq_true.1 h c hc
  simp only [Bool.and_eq_true, List.all_eq_true, decide_eq_true_eq] at this
  exact ⟨fun x hx => by have := this.1 x hx; unfold I64; omega, by omega⟩

theorem cnf_CheckB (n : Int) (a : Option Addr) (f : List (List Int)) (m c : Nat) (e : Int) (w : World) (he : cnfCheck n f = e) (hm : m = f.length) (hf : FOk f) (hr : Rws w a f) (hl : f.length ≤ 9223372036854775807) :
    Calls Try.prog 22 #[.agg #[.int .i64 n, .slice a m c]] w fun x w' => x = .returned (.int .i64 e) ∧ Below w.heap.size w w' :=
  (cnf_CheckR n a f m c e w he hm hf hr hl).mono fun _ _ ⟨he, hw⟩ => ⟨he, hw ▸ box_below _ _⟩

theorem Rws.nil (w : World) (a : Option Addr) : Rws w a [] := fun j c h => by simp at h

/-- So many empty clauses. -/
def emptyF (n : Nat) : List (List Int) := List.replicate n []
theorem emptyF_length (n : Nat) : (emptyF n).length = n := by simp [emptyF]
theorem emptyF_ok (n : Nat) : FOk (emptyF n) := fun c hc => by
  rw [List.eq_of_mem_replicate hc]; exact ⟨by simp, by simp⟩
theorem check_empty (n : Nat) (h : (n : Int) ≤ 1048576) : cnfCheck 0 (emptyF n) = 0 := by
  rw [cnfCheck_find (by omega) (by rw [emptyF_length]; exact h)]
  have : (emptyF n).find? (fun c => litCheck 0 c != 0) = none := by
    rw [List.find?_eq_none]
    intro c hc
    rw [List.eq_of_mem_replicate hc]; decide
  rw [this]
theorem check_many (n : Nat) (h : 1048576 < (n : Int)) : cnfCheck 0 (emptyF n) = 5 := cnfCheck_long (by omega) (by rw [emptyF_length]; exact h)

/-- A row of nils reads as so many empty clauses. -/
theorem rws_nils {w : World} {B g n c : Nat} (h : w.ownsRow B 40 1 (.slice (some ⟨g, 0, none⟩) n c) n (List.replicate n (.slice none 0 0))) (k m : Nat) (hk : k + m ≤ n) : Rws w (some ⟨g, k, none⟩) (emptyF m) := by
  intro j d hj
  unfold emptyF at hj
  rw [List.getElem?_replicate] at hj
  split at hj
  · rename_i hjm
    injection hj with hj
    subst hj
    refine ⟨g, k, .slice none 0 0, rfl, ?_, ⟨none, 0, rfl, Nat.le_refl _, fun _ => rfl, SlV.nil _ _⟩⟩
    rw [h.cellAt (k + j) (by omega), List.getElem?_replicate, if_pos (by omega)]
  · cases hj

theorem madeNils (n : Nat) : (madeCells (Value.slice none 0 0).cells (n * 1)).toList = List.replicate n (.slice none 0 0) := by
  simp only [madeCells, Value.cells, Nat.mul_one, Array.toList_map, Array.toList_range]
  refine List.ext_getElem? fun i => ?_
  by_cases hi : i < n
  · simp [hi, Nat.mod_one]
  · simp [hi]

theorem setCell_size (w : World) (a : Addr) (v : Value) : (w.setCell a v).heap.size = w.heap.size := by simp [World.setCell]

theorem own_set_far {w : World} {B e sz n c g : Nat} {xs : List Value} {a : Addr} {v : Value} (h : w.ownsRow B e sz (.slice (some ⟨g, 0, none⟩) n c) n xs) (hne : ¬ g = a.block) : (w.setCell a v).ownsRow B e sz (.slice (some ⟨g, 0, none⟩) n c) n xs := by
  refine ⟨h.1, ?_⟩
  rcases h.2 with hn | ⟨g', cap, cur, e1, e2, e3, e4⟩
  · exact .inl hn
  · refine .inr ⟨g', cap, cur, e1, e2, ?_, e4⟩
    injection e1 with e1
    injection e1 with e1
    injection e1 with e1
    subst e1
    rw [heap_setCell_other w a g v hne]; exact e3

/-- A store, then two new blocks. -/
theorem sa2_old {w : World} {a : Addr} {v : Value} {o o2 : Obj} {b : Nat} (h : b < w.heap.size) (hne : ¬ b = a.block) : (((w.setCell a v).alloc o).alloc o2).heap[b]? = w.heap[b]? := by
  rw [heap_al, heap_al, Array.getElem?_push, if_neg (by simp [World.setCell]; omega), Array.getElem?_push, if_neg (by simp [World.setCell]; omega), heap_setCell_other w a b v hne]
theorem sa2_at {w : World} {b o : Nat} {v : Value} {o1 o2 : Obj} {e : TypeId} {xs : List Value} (h : w.heap[b]? = some (.cells xs.toArray e (0, 0))) : (((w.setCell ⟨b, o, none⟩ v).alloc o1).alloc o2).heap[b]? = some (.cells (xs.set o v).toArray e (0, 0)) := by
  have hb := (Array.getElem?_eq_some_iff.1 h).1
  rw [heap_al, heap_al, Array.getElem?_push, if_neg (by simp [World.setCell]; omega), Array.getElem?_push, if_neg (by simp [World.setCell]; omega), heap_setCell_same w b o xs.toArray e v h]
  simp
theorem sa2_1 (w : World) (a : Addr) (v : Value) (o o2 : Obj) : (((w.setCell a v).alloc o).alloc o2).heap[w.heap.size]? = some o := by
  have := blk_1 (w.setCell a v) o o2
  rwa [setCell_size] at this
theorem sa2_2 (w : World) (a : Addr) (v : Value) (o o2 : Obj) : (((w.setCell a v).alloc o).alloc o2).heap[w.heap.size + 1]? = some o2 := by
  have := blk_2 (w.setCell a v) o o2
  rwa [setCell_size] at this

end Go.Proofs.Ytaekcejenagbgaa
