/- The reference's checks of ladders. -/
import Derived.Test.YtfhidimmaeiiaaaPerson
import Derived.Deep.QuietTactic
import Derived.BigQuiet
import Derived.Outline
namespace Go.Proofs.Ytfhidimmaeiiaaa
open Go.RowKit

def ladTo (L : List (List Int)) (k : Nat) : Prop := (∀ j, j < k → goodS (ixs L j)) ∧ ∀ j, 0 < j → j < k → coarse (ixs L (j - 1)) (ixs L j)
theorem ladTo_next {L : List (List Int)} {k : Nat} (h : Hid (ladTo L k)) (h1 : goodS (ixs L k)) (h2 : 0 < k → coarse (ixs L (k - 1)) (ixs L k)) : Hid (ladTo L (k + 1)) := by
  refine ⟨fun j hj => ?_, fun j h0 hj => ?_⟩
  · rcases Nat.lt_or_ge j k with hlt | hge
    · exact h.1 j hlt
    · obtain rfl : j = k := by omega
      exact h1
  · rcases Nat.lt_or_ge j k with hlt | hge
    · exact h.2 j h0 hlt
    · obtain rfl : j = k := by omega
      exact h2 h0

end Go.Proofs.Ytfhidimmaeiiaaa
