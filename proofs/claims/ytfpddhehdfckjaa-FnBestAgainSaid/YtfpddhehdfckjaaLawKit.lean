/- What the walks of the laws share. -/
import Derived.Test.YtfpddhehdfckjaaDraw4
import Derived.Test.YtfpddhehdfckjaaPlain1
namespace Go.Proofs.Ytfpddhehdfckjaa
open Go.RowKit

/-- In a law: the people and the ladder, and the box of the recoding. -/
def LW (w : World) (A : Option Addr) (l : List Pn) (A2 : Option Addr) (L : List (List Int)) (bx : Nat) (xa xj xs : Int) : Prop := Arg w A l A2 L ∧ Blk w bx 44 [.int .i64 xa, .int .i64 xj, .int .i64 xs]
theorem LW.below {w w' : World} {A A2 : Option Addr} {l : List Pn} {L : List (List Int)} {bx : Nat} {xa xj xs : Int} (h : LW w A l A2 L bx xa xj xs) (hb : Below w.heap.size w w') : LW w' A l A2 L bx xa xj xs := ⟨h.1.below hb, h.2.below hb h.2.lt⟩
theorem LW.cells {w : World} {A A2 : Option Addr} {l : List Pn} {L : List (List Int)} {bx : Nat} {xa xj xs : Int} (h : LW w A l A2 L bx xa xj xs) : w.cell? ⟨bx, 0, none⟩ = some (.int .i64 xa) ∧ w.cell? ⟨bx, 1, none⟩ = some (.int .i64 xj) ∧ w.cell? ⟨bx, 2, none⟩ = some (.int .i64 xs) := ⟨h.2.cell 0, h.2.cell 1, h.2.cell 2⟩
theorem val_not {V : Int} (h : V = -1) : V < 0 := by omega
end Go.Proofs.Ytfpddhehdfckjaa
