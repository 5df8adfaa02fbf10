/- What the walks of the laws share: one more list of people beside the drawn one. -/
import Derived.Test.YtfpddhehdfckjaaLawKit
import Derived.Test.YtfpddhehdfckjaaApp
import Derived.Test.YtfpddhehdfckjaaPlain2
namespace Go.Proofs.Ytfpddhehdfckjaa
open Go.RowKit

/-- In a law: the people and the ladder, the box of the recoding, and other people y. -/
def LW2 (w : World) (A : Option Addr) (l : List Pn) (A2 : Option Addr) (L : List (List Int)) (bx : Nat) (xa xj xs : Int) (AY : Option Addr) (y : List Pn) : Prop := Arg w A l A2 L ∧ Blk w bx 44 [.int .i64 xa, .int .i64 xj, .int .i64 xs] ∧ Ppl w w.heap.size AY y ∧ y.length ≤ 2000000
section
variable {w w' w4 w6 : World} {A A2 AY : Option Addr} {l y : List Pn} {L : List (List Int)} {bx : Nat} {xa xj xs : Int}
theorem LW2.below (h : LW2 w A l A2 L bx xa xj xs AY y) (hb : Below w.heap.size w w') : LW2 w' A l A2 L bx xa xj xs AY y := ⟨h.1.below hb, h.2.1.below hb h.2.1.lt, (h.2.2.1.below hb).more hb.size, h.2.2.2⟩
theorem LW2.cells (h : LW2 w A l A2 L bx xa xj xs AY y) : w.cell? ⟨bx, 0, none⟩ = some (.int .i64 xa) ∧ w.cell? ⟨bx, 1, none⟩ = some (.int .i64 xj) ∧ w.cell? ⟨bx, 2, none⟩ = some (.int .i64 xs) := ⟨h.2.1.cell 0, h.2.1.cell 1, h.2.1.cell 2⟩
theorem LW2.yarg (h : LW2 w A l A2 L bx xa xj xs AY y) : Arg w AY y A2 L := ⟨h.2.2.1, h.2.2.2, h.1.2.2⟩
theorem LW2.lw (h : LW2 w A l A2 L bx xa xj xs AY y) : LW w A l A2 L bx xa xj xs := ⟨h.1, h.2.1⟩
theorem LW.more (h : LW w4 A l A2 L bx xa xj xs) (hb : Below w4.heap.size w4 w6) (hP : Ppl w6 w6.heap.size AY y) (hy : y.length ≤ 2000000) : LW2 w6 A l A2 L bx xa xj xs AY y := ⟨(h.below hb).1, (h.below hb).2, hP, hy⟩
theorem join_end {w0 : World} {v : Value} (h : LW w4 A l A2 L bx xa xj xs) (hB : Below w0.heap.size w0 w4) (ho : OPpl w6 w4.heap.size 82 v y) (hb : Below w4.heap.size w4 w6) (hy : y.length ≤ 2000000) :
    ∃ A9 c9, v = .slice A9 y.length c9 ∧ LW2 w6 A l A2 L bx xa xj xs A9 y ∧ y.length ≤ c9 ∧ c9 ≤ 9223372036854775807 ∧ Below w0.heap.size w0 w6 := by
  obtain ⟨A9, c9, e, hP, h1, h2⟩ := ho.form
  exact ⟨A9, c9, e, h.more hb hP hy, h1, h2, hB.trans (hb.mono hB.size)⟩
end
/-- Two lists of other people. -/
def LW3 (w : World) (A : Option Addr) (l : List Pn) (A2 : Option Addr) (L : List (List Int)) (bx : Nat) (xa xj xs : Int) (AY : Option Addr) (y : List Pn) (AZ : Option Addr) (z : List Pn) : Prop := Arg w A l A2 L ∧ Blk w bx 44 [.int .i64 xa, .int .i64 xj, .int .i64 xs] ∧ (Ppl w w.heap.size AY y ∧ y.length ≤ 2000000) ∧ Ppl w w.heap.size AZ z ∧ z.length ≤ 2000000
section
variable {w w' w4 w6 : World} {A A2 AY AZ : Option Addr} {l y z : List Pn} {L : List (List Int)} {bx : Nat} {xa xj xs : Int}
theorem LW3.below (h : LW3 w A l A2 L bx xa xj xs AY y AZ z) (hb : Below w.heap.size w w') : LW3 w' A l A2 L bx xa xj xs AY y AZ z := ⟨h.1.below hb, h.2.1.below hb h.2.1.lt, ⟨(h.2.2.1.1.below hb).more hb.size, h.2.2.1.2⟩, (h.2.2.2.1.below hb).more hb.size, h.2.2.2.2⟩
theorem LW3.cells (h : LW3 w A l A2 L bx xa xj xs AY y AZ z) : w.cell? ⟨bx, 0, none⟩ = some (.int .i64 xa) ∧ w.cell? ⟨bx, 1, none⟩ = some (.int .i64 xj) ∧ w.cell? ⟨bx, 2, none⟩ = some (.int .i64 xs) := ⟨h.2.1.cell 0, h.2.1.cell 1, h.2.1.cell 2⟩
theorem LW3.yarg (h : LW3 w A l A2 L bx xa xj xs AY y AZ z) : Arg w AY y A2 L := ⟨h.2.2.1.1, h.2.2.1.2, h.1.2.2⟩
theorem LW3.zarg (h : LW3 w A l A2 L bx xa xj xs AY y AZ z) : Arg w AZ z A2 L := ⟨h.2.2.2.1, h.2.2.2.2, h.1.2.2⟩
theorem join_end2 {w0 : World} {v : Value} (h : LW2 w4 A l A2 L bx xa xj xs AY y) (hB : Below w0.heap.size w0 w4) (ho : OPpl w6 w4.heap.size 82 v z) (hb : Below w4.heap.size w4 w6) (hz : z.length ≤ 2000000) :
    ∃ A9 c9, v = .slice A9 z.length c9 ∧ LW3 w6 A l A2 L bx xa xj xs AY y A9 z ∧ z.length ≤ c9 ∧ c9 ≤ 9223372036854775807 ∧ Below w0.heap.size w0 w6 := by
  obtain ⟨A9, c9, e, hP, h1, h2⟩ := ho.form
  have h3 := h.below hb
  exact ⟨A9, c9, e, ⟨h3.1, h3.2.1, h3.2.2, hP, hz⟩, h1, h2, hB.trans (hb.mono hB.size)⟩
end
end Go.Proofs.Ytfpddhehdfckjaa
