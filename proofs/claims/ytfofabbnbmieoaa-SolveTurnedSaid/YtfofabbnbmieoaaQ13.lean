/- The reference's Norm: insertion into an ascending list; it gives the same literals as lit.Norm. -/
import Derived.Deep.CutBlock
import Derived.Test.YtfofabbnbmieoaaQ3
import Derived.Test.YtfofabbnbmieoaaQ1

namespace Go.Proofs.Ytfofabbnbmieoaa
open Go.RowKit

end Go.Proofs.Ytfofabbnbmieoaa

/- The contract of the reference's Norm. -/
namespace Go.Proofs.Ytfofabbnbmieoaa
open Go.RowKit

theorem ints_get {xs : List Int} {k : Nat} {x : Int} (h : xs[k]? = some x) : (ints xs)[k]? = some (.int .i64 x) := by simp [ints, h]

theorem ints_set (xs : List Int) (k : Nat) (x : Int) : (ints xs).set k (.int .i64 x) = ints (xs.set k x) := by simp [ints, List.map_set]

end Go.Proofs.Ytfofabbnbmieoaa

/- The contracts of lit.Norm and the reference's Norm once more, with their results under names; weepholelaw01.has. -/
namespace Go.Proofs.Ytfofabbnbmieoaa
open Go.RowKit

end Go.Proofs.Ytfofabbnbmieoaa

/- The contract of weepholelaw01.known. -/
namespace Go.Proofs.Ytfofabbnbmieoaa
open Go.RowKit

end Go.Proofs.Ytfofabbnbmieoaa

/- The contracts of package lit and the kit once more, for closed calls: the world behind is told by Below alone. -/
namespace Go.Proofs.Ytfofabbnbmieoaa
open Go.RowKit

end Go.Proofs.Ytfofabbnbmieoaa
