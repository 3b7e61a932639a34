/- The sort of prop.Units: slices.SortFunc with the closure that calls lit.Less. -/
import Derived.Lib.SortBridge
import Derived.Lib.Builder
import Derived.Deep.Upon
import Derived.Test.YtfofabbnbmieoaaQ13
import Derived.Test.YtfofabbnbmieoaaQ1
import Derived.Test.YtfofabbnbmieoaaQ0
import Derived.Test.YtfofabbnbmieoaaSortL

namespace Go.Proofs.Ytfofabbnbmieoaa.Ord
open Go.RowKit Go.Conc Go.Shelf Go.Sort

/-- An int of the machine. -/
abbrev Int64s := {x : Int // I64 x}

instance : Inhabited Int64s := ⟨⟨0, by unfold I64; omega⟩⟩

end Go.Proofs.Ytfofabbnbmieoaa.Ord
