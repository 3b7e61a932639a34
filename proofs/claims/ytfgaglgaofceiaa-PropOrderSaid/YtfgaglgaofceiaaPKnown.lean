/- Closed facts about lit.Norm's literals. -/
import Derived.Test.YtfgaglgaofceiaaPNorm
namespace Go.Proofs.Ytfgaglgaofceiaa
open Go.RowKit

theorem norm_3132 : normL [3, -1, 3, 2] = [-1, 2, 3] := by
  simp [normL, msort, mrg_cons, mrg_nil_left, mrg_nil_right, lessB]

theorem adj_3132 : adjB (normL [3, -1, 3, 2]) = false := by rw [norm_3132]; decide

theorem slv_new (w : World) (vs : List Value) (e : TypeId) (m : Nat × Nat) : SlV (w.alloc (.cells vs.toArray e m)) (some ⟨w.heap.size, 0, none⟩) vs := by
  intro j v hj
  refine ⟨w.heap.size, 0, rfl, ?_⟩
  have h : (w.alloc (.cells vs.toArray e m)).heap[w.heap.size]? = some (.cells vs.toArray e m) := heap_alloc_new w _
  rw [cell_of_row _ _ _ _ _ _ h]
  simpa using hj

end Go.Proofs.Ytfgaglgaofceiaa
