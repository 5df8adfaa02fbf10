/- The reference's least diversity. -/
import Derived.Test.YtaojjlhlahoocaaDivS
namespace Go.Proofs.Ytaojjlhlahoocaa
open Go.RowKit
attribute [local go_sem ↓] Go.wp_at_zero Go.wp_at_succ

end Go.Proofs.Ytaojjlhlahoocaa
