/- Region 23 of prop.Units (x.clauses, x.open = append(x.clauses, l), append(x.open, len(l))), apart from the rest. -/
import Derived.Deep.OwnRows
import Derived.WideMake
import Derived.Deep.DrawnRows
import Derived.Test.YtfofabbnbmieoaaQ0
import Derived.Test.YtfofabbnbmieoaaQ6

namespace Go.Proofs.Ytfofabbnbmieoaa.Ord
open Go.RowKit Go.Conc

attribute [local go_sem ↓] Go.wp_at_zero Go.wp_at_succ

end Go.Proofs.Ytfofabbnbmieoaa.Ord
