/- PersonValid, PeopleValid: the program's and the reference's. -/
import Derived.Test.YtfhidimmaeiiaaaChecked
import Derived.Test.YtfhidimmaeiiaaaMem
import Derived.Test.YtfhidimmaeiiaaaPure
import Derived.WalkKit
import Derived.LoopTactic
namespace Go.Proofs.Ytfhidimmaeiiaaa
open Go.RowKit

theorem specIn (n lo hi : Int) (w : World) : Calls Try.prog 20 #[.int .i64 n, .int .i64 lo, .int .i64 hi] w fun e w' => e = .returned (.bool (inB n lo hi)) ∧ w' = w := by
  go_enter Try.func20, Try.ntmps20
  go_wp2
  all_goals go_ret
  all_goals refine ⟨?_, rfl⟩
  all_goals refine congrArg (fun b => Ending.returned (.bool b)) ?_
  all_goals first
    | (rw [inB_no (by omega)]; done)
    | (unfold inB; simp only [decide_eq_decide]; omega)

end Go.Proofs.Ytfhidimmaeiiaaa
