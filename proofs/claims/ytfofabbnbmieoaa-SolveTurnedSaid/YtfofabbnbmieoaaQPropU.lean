/- The contract of prop.Units. -/
import Derived.Deep.OwnRows
import Derived.WideMake
import Derived.Deep.DrawnRows
import Derived.Test.YtfofabbnbmieoaaQPropU3
import Derived.Test.YtfofabbnbmieoaaQ6
import Derived.Test.YtfofabbnbmieoaaQ15
import Derived.Test.YtfofabbnbmieoaaQ1
import Derived.Test.YtfofabbnbmieoaaQ13

namespace Go.Proofs.Ytfofabbnbmieoaa.Ord
open Go.RowKit Go.Conc

attribute [local go_sem ↓] Go.wp_at_zero Go.wp_at_succ

end Go.Proofs.Ytfofabbnbmieoaa.Ord
