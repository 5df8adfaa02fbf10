/- The program's least diversity. -/
import Derived.Test.YtaojjlhlahoocaaDivI
import Derived.Test.YtaojjlhlahoocaaRecodeS
namespace Go.Proofs.Ytaojjlhlahoocaa
open Go.RowKit
attribute [local go_sem ↓] Go.wp_at_zero Go.wp_at_succ

end Go.Proofs.Ytaojjlhlahoocaa
