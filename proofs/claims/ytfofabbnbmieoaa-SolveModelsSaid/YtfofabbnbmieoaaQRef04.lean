/- The contracts of the reference's unit and Units of layer 4. -/
import Derived.WideMake
import Derived.Deep.OwnRows
import Derived.Deep.DrawnRows
import Derived.Test.YtfofabbnbmieoaaQ9
import Derived.Test.YtfofabbnbmieoaaQ1
import Derived.Test.YtfofabbnbmieoaaQ2

namespace Go.Proofs.Ytfofabbnbmieoaa.Ord
open Go.RowKit Go.Conc

attribute [local go_sem ↓] Go.wp_at_zero Go.wp_at_succ

/-- What the reference's Units leaves. -/
def refUnitsR (n : Int) (F : List (List Int)) (A : List Int) (w : World) (e : Ending) (w' : World) : Prop :=
  Below w.heap.size w w' ∧ ∃ ar cr, e = .returned (.tuple #[.slice ar (unitsV n F A).1.length cr, .bool (unitsV n F A).2.1, .int .i64 (unitsV n F A).2.2]) ∧ SlV w' ar (ints (unitsV n F A).1)

theorem refUnitsR_arg {n : Int} {F : List (List Int)} {A : List Int} {w w' : World} {k : Nat} {x : Int} (h0 : cnfCheck n F = 0) (hx : A[k]? = some x) (hbx : badLit n x = true) (hb : Below w.heap.size w w') : refUnitsR n F A w (.returned (.tuple #[.slice none 0 0, .bool false, .int .i64 3])) w' := by
  refine ⟨hb, none, 0, ?_, ?_⟩
  · rw [unitsV_arg h0 hx hbx]; rfl
  · rw [unitsV_arg h0 hx hbx]; exact SlV.nil _ _

theorem refUnitsR_err {n e : Int} {F : List (List Int)} {A : List Int} {w w' : World} (h0 : cnfCheck n F = e) (he : e ≠ 0) (hb : Below w.heap.size w w') : refUnitsR n F A w (.returned (.tuple #[.slice none 0 0, .bool false, .int .i64 e])) w' := by
  refine ⟨hb, none, 0, ?_, ?_⟩
  · rw [unitsV_err h0 he]; rfl
  · rw [unitsV_err h0 he]; exact SlV.nil _ _

end Go.Proofs.Ytfofabbnbmieoaa.Ord
