/- Plain facts about the order of literals. -/
import Derived.Test.YtfgaglgaofceiaaPLit
namespace Go.Proofs.Ytfgaglgaofceiaa
open Go.RowKit

theorem lessB_iff (a b : Int) : lessB a b = true ↔ a.natAbs < b.natAbs ∨ (a.natAbs = b.natAbs ∧ b < a) := by
  simp [lessB]

theorem lessB_irrefl (a : Int) : lessB a a = false := by
  rw [Bool.eq_false_iff, Ne, lessB_iff]; omega

theorem lessB_asymm {a b : Int} (h : lessB a b = true) : lessB b a = false := by
  rw [lessB_iff] at h
  rw [Bool.eq_false_iff, Ne, lessB_iff]; omega

theorem lessB_trans {a b c : Int} (h : lessB a b = true) (h' : lessB b c = true) : lessB a c = true := by
  rw [lessB_iff] at *; omega

theorem lessB_tri {a b : Int} (h : lessB a b = false) (h' : lessB b a = false) : a = b := by
  rw [Bool.eq_false_iff, Ne, lessB_iff] at *
  omega

end Go.Proofs.Ytfgaglgaofceiaa
