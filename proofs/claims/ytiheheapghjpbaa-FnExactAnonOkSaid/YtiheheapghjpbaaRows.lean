/-
  No cell of these rows narrows 'for every input' (looked for: loops, veiled, ifaces, maps, wideKeys, modest, calm, conditions, laid).
  DERIVED. THE GIVEN ROWS OF THIS SEAT. 12 by the template 'for every input the law returns true; each argument reads behind the call as it read before'; 0 by the template 'total and deterministic' (their statements: YtiheheapghjpbaaTotals.lean).
  GIVEN WITH THE SEED: the statements are not yours to turn. If you find one false, say at which input.
  Laid BY PROGRAM, IN A SANDBOX (cutbox-rows.mjs): the forced cells as the released guide's own fill.sh prints them over the translation 12dd2fdd45d9d0e7… (all of the seat's roots in one cut). By AI agents, Wed Nov 11 2026. No macro, syntax, notation, axiom, sorry.
-/
import Derived.Test.YtiheheapghjpbaaChecked
import GoSem.Claim
import GoSem.ClaimJoined
import GoSem.ClaimMapViews
import Derived.JoinedTies
import Derived.KernelRfl
namespace Go.Proofs.Ytiheheapghjpbaa
/- THE CELL 'sum', in the pinned program and in every row, IS THE sha256 OF THE DUMP (.gsa) THAT YtiheheapghjpbaaProg.lean LOADS. Nothing in Lean hashes anything: it is a label: what it is worth is what the hold of that sum in a sandbox is worth. -/
noncomputable def Try.pinned : Pinned := { name := "ytiheheapghjpbaa", sum := "12dd2fdd45d9d0e7db33a269180786b23059cab1bee60e3a5fe7a5e3cfe5006d", checked := Try.checked }
namespace Rows
def none {H : Type} : Left H := { results := [], args := [] }

/-- 'laws.FnDiverseJoin': WHATEVER THE INPUT: true; the input reads as it did. -/
def fnDiverseJoinSpec : ChangeSpec := { name := "fnDiverseJoin", fn := fun _ => fun
  | [d] => { results := [.lit (.bool true)], args := [d] }
  | _ => none }
def fnDiverseJoinRow : OpenClaim := { program := "ytiheheapghjpbaa", sum := "12dd2fdd45d9d0e7db33a269180786b23059cab1bee60e3a5fe7a5e3cfe5006d", func := "loop.example/disclosurecontrol/laws.FnDiverseJoin", spec := "fnDiverseJoin", unfollowed := true, recurses := true, plainKeys := false, apart := false }
def FnDiverseJoinSaid : Prop := fnDiverseJoinRow.holds Try.pinned (OpenSpec.ofChange fnDiverseJoinSpec)

/-- ITS FALSE NEIGHBOUR: 'it returns false'. Refute it at one input. -/
def fnDiverseJoinWrong : ChangeSpec := { name := "fnDiverseJoin", fn := fun _ => fun
  | [d] => { results := [.lit (.bool false)], args := [d] }
  | _ => none }
def FnDiverseJoinWrongFalsely : Prop := fnDiverseJoinRow.holds Try.pinned (OpenSpec.ofChange fnDiverseJoinWrong)

/-- 'laws.FnExactRecodePeople': WHATEVER THE INPUT: true; the input reads as it did. -/
def fnExactRecodePeopleSpec : ChangeSpec := { name := "fnExactRecodePeople", fn := fun _ => fun
  | [d1, d2, d3] => { results := [.lit (.bool true)], args := [d1, d2, d3] }
  | _ => none }
def fnExactRecodePeopleRow : OpenClaim := { program := "ytiheheapghjpbaa", sum := "12dd2fdd45d9d0e7db33a269180786b23059cab1bee60e3a5fe7a5e3cfe5006d", func := "loop.example/disclosurecontrol/laws.FnExactRecodePeople", spec := "fnExactRecodePeople", plainKeys := false, apart := false }
def FnExactRecodePeopleSaid : Prop := fnExactRecodePeopleRow.holds Try.pinned (OpenSpec.ofChange fnExactRecodePeopleSpec)

/-- ITS FALSE NEIGHBOUR: 'it returns false'. Refute it at one input. -/
def fnExactRecodePeopleWrong : ChangeSpec := { name := "fnExactRecodePeople", fn := fun _ => fun
  | [d1, d2, d3] => { results := [.lit (.bool false)], args := [d1, d2, d3] }
  | _ => none }
def FnExactRecodePeopleWrongFalsely : Prop := fnExactRecodePeopleRow.holds Try.pinned (OpenSpec.ofChange fnExactRecodePeopleWrong)

/-- 'laws.FnDiverseLess': WHATEVER THE INPUT: true; the input reads as it did. -/
def fnDiverseLessSpec : ChangeSpec := { name := "fnDiverseLess", fn := fun _ => fun
  | [d1, d2] => { results := [.lit (.bool true)], args := [d1, d2] }
  | _ => none }
def fnDiverseLessRow : OpenClaim := { program := "ytiheheapghjpbaa", sum := "12dd2fdd45d9d0e7db33a269180786b23059cab1bee60e3a5fe7a5e3cfe5006d", func := "loop.example/disclosurecontrol/laws.FnDiverseLess", spec := "fnDiverseLess", unfollowed := true, recurses := true, plainKeys := false, apart := false }
def FnDiverseLessSaid : Prop := fnDiverseLessRow.holds Try.pinned (OpenSpec.ofChange fnDiverseLessSpec)

/-- ITS FALSE NEIGHBOUR: 'it returns false'. Refute it at one input. -/
def fnDiverseLessWrong : ChangeSpec := { name := "fnDiverseLess", fn := fun _ => fun
  | [d1, d2] => { results := [.lit (.bool false)], args := [d1, d2] }
  | _ => none }
def FnDiverseLessWrongFalsely : Prop := fnDiverseLessRow.holds Try.pinned (OpenSpec.ofChange fnDiverseLessWrong)

/-- 'laws.FnGroupSize': WHATEVER THE INPUT: true; the input reads as it did. -/
def fnGroupSizeSpec : ChangeSpec := { name := "fnGroupSize", fn := fun _ => fun
  | [d] => { results := [.lit (.bool true)], args := [d] }
  | _ => none }
def fnGroupSizeRow : OpenClaim := { program := "ytiheheapghjpbaa", sum := "12dd2fdd45d9d0e7db33a269180786b23059cab1bee60e3a5fe7a5e3cfe5006d", func := "loop.example/disclosurecontrol/laws.FnGroupSize", spec := "fnGroupSize", plainKeys := false, apart := false }
def FnGroupSizeSaid : Prop := fnGroupSizeRow.holds Try.pinned (OpenSpec.ofChange fnGroupSizeSpec)

/-- ITS FALSE NEIGHBOUR: 'it returns false'. Refute it at one input. -/
def fnGroupSizeWrong : ChangeSpec := { name := "fnGroupSize", fn := fun _ => fun
  | [d] => { results := [.lit (.bool false)], args := [d] }
  | _ => none }
def FnGroupSizeWrongFalsely : Prop := fnGroupSizeRow.holds Try.pinned (OpenSpec.ofChange fnGroupSizeWrong)

/-- 'laws.FnDropAll': WHATEVER THE INPUT: true; the input reads as it did. -/
def fnDropAllSpec : ChangeSpec := { name := "fnDropAll", fn := fun _ => fun
  | [d] => { results := [.lit (.bool true)], args := [d] }
  | _ => none }
def fnDropAllRow : OpenClaim := { program := "ytiheheapghjpbaa", sum := "12dd2fdd45d9d0e7db33a269180786b23059cab1bee60e3a5fe7a5e3cfe5006d", func := "loop.example/disclosurecontrol/laws.FnDropAll", spec := "fnDropAll", plainKeys := false, apart := false }
def FnDropAllSaid : Prop := fnDropAllRow.holds Try.pinned (OpenSpec.ofChange fnDropAllSpec)

/-- ITS FALSE NEIGHBOUR: 'it returns false'. Refute it at one input. -/
def fnDropAllWrong : ChangeSpec := { name := "fnDropAll", fn := fun _ => fun
  | [d] => { results := [.lit (.bool false)], args := [d] }
  | _ => none }
def FnDropAllWrongFalsely : Prop := fnDropAllRow.holds Try.pinned (OpenSpec.ofChange fnDropAllWrong)

/-- 'laws.FnDropCoarser': WHATEVER THE INPUT: true; the input reads as it did. -/
def fnDropCoarserSpec : ChangeSpec := { name := "fnDropCoarser", fn := fun _ => fun
  | [d] => { results := [.lit (.bool true)], args := [d] }
  | _ => none }
def fnDropCoarserRow : OpenClaim := { program := "ytiheheapghjpbaa", sum := "12dd2fdd45d9d0e7db33a269180786b23059cab1bee60e3a5fe7a5e3cfe5006d", func := "loop.example/disclosurecontrol/laws.FnDropCoarser", spec := "fnDropCoarser", plainKeys := false, apart := false }
def FnDropCoarserSaid : Prop := fnDropCoarserRow.holds Try.pinned (OpenSpec.ofChange fnDropCoarserSpec)

/-- ITS FALSE NEIGHBOUR: 'it returns false'. Refute it at one input. -/
def fnDropCoarserWrong : ChangeSpec := { name := "fnDropCoarser", fn := fun _ => fun
  | [d] => { results := [.lit (.bool false)], args := [d] }
  | _ => none }
def FnDropCoarserWrongFalsely : Prop := fnDropCoarserRow.holds Try.pinned (OpenSpec.ofChange fnDropCoarserWrong)

/-- 'laws.FnDropOrder': WHATEVER THE INPUT: true; the input reads as it did. -/
def fnDropOrderSpec : ChangeSpec := { name := "fnDropOrder", fn := fun _ => fun
  | [d1, d2] => { results := [.lit (.bool true)], args := [d1, d2] }
  | _ => none }
def fnDropOrderRow : OpenClaim := { program := "ytiheheapghjpbaa", sum := "12dd2fdd45d9d0e7db33a269180786b23059cab1bee60e3a5fe7a5e3cfe5006d", func := "loop.example/disclosurecontrol/laws.FnDropOrder", spec := "fnDropOrder", plainKeys := false, apart := false }
def FnDropOrderSaid : Prop := fnDropOrderRow.holds Try.pinned (OpenSpec.ofChange fnDropOrderSpec)

/-- ITS FALSE NEIGHBOUR: 'it returns false'. Refute it at one input. -/
def fnDropOrderWrong : ChangeSpec := { name := "fnDropOrder", fn := fun _ => fun
  | [d1, d2] => { results := [.lit (.bool false)], args := [d1, d2] }
  | _ => none }
def FnDropOrderWrongFalsely : Prop := fnDropOrderRow.holds Try.pinned (OpenSpec.ofChange fnDropOrderWrong)

/-- 'laws.FnDropTwice': WHATEVER THE INPUT: true; the input reads as it did. -/
def fnDropTwiceSpec : ChangeSpec := { name := "fnDropTwice", fn := fun _ => fun
  | [d] => { results := [.lit (.bool true)], args := [d] }
  | _ => none }
def fnDropTwiceRow : OpenClaim := { program := "ytiheheapghjpbaa", sum := "12dd2fdd45d9d0e7db33a269180786b23059cab1bee60e3a5fe7a5e3cfe5006d", func := "loop.example/disclosurecontrol/laws.FnDropTwice", spec := "fnDropTwice", plainKeys := false, apart := false }
def FnDropTwiceSaid : Prop := fnDropTwiceRow.holds Try.pinned (OpenSpec.ofChange fnDropTwiceSpec)

/-- ITS FALSE NEIGHBOUR: 'it returns false'. Refute it at one input. -/
def fnDropTwiceWrong : ChangeSpec := { name := "fnDropTwice", fn := fun _ => fun
  | [d] => { results := [.lit (.bool false)], args := [d] }
  | _ => none }
def FnDropTwiceWrongFalsely : Prop := fnDropTwiceRow.holds Try.pinned (OpenSpec.ofChange fnDropTwiceWrong)

/-- 'laws.FnDiverseOk': WHATEVER THE INPUT: true; the input reads as it did. -/
def fnDiverseOkSpec : ChangeSpec := { name := "fnDiverseOk", fn := fun _ => fun
  | [d] => { results := [.lit (.bool true)], args := [d] }
  | _ => none }
def fnDiverseOkRow : OpenClaim := { program := "ytiheheapghjpbaa", sum := "12dd2fdd45d9d0e7db33a269180786b23059cab1bee60e3a5fe7a5e3cfe5006d", func := "loop.example/disclosurecontrol/laws.FnDiverseOk", spec := "fnDiverseOk", unfollowed := true, recurses := true, plainKeys := false, apart := false }
def FnDiverseOkSaid : Prop := fnDiverseOkRow.holds Try.pinned (OpenSpec.ofChange fnDiverseOkSpec)

/-- ITS FALSE NEIGHBOUR: 'it returns false'. Refute it at one input. -/
def fnDiverseOkWrong : ChangeSpec := { name := "fnDiverseOk", fn := fun _ => fun
  | [d] => { results := [.lit (.bool false)], args := [d] }
  | _ => none }
def FnDiverseOkWrongFalsely : Prop := fnDiverseOkRow.holds Try.pinned (OpenSpec.ofChange fnDiverseOkWrong)

/-- 'laws.FnDiverseLeastTop': WHATEVER THE INPUT: true; the input reads as it did. -/
def fnDiverseLeastTopSpec : ChangeSpec := { name := "fnDiverseLeastTop", fn := fun _ => fun
  | [d] => { results := [.lit (.bool true)], args := [d] }
  | _ => none }
def fnDiverseLeastTopRow : OpenClaim := { program := "ytiheheapghjpbaa", sum := "12dd2fdd45d9d0e7db33a269180786b23059cab1bee60e3a5fe7a5e3cfe5006d", func := "loop.example/disclosurecontrol/laws.FnDiverseLeastTop", spec := "fnDiverseLeastTop", unfollowed := true, recurses := true, plainKeys := false, apart := false }
def FnDiverseLeastTopSaid : Prop := fnDiverseLeastTopRow.holds Try.pinned (OpenSpec.ofChange fnDiverseLeastTopSpec)

/-- ITS FALSE NEIGHBOUR: 'it returns false'. Refute it at one input. -/
def fnDiverseLeastTopWrong : ChangeSpec := { name := "fnDiverseLeastTop", fn := fun _ => fun
  | [d] => { results := [.lit (.bool false)], args := [d] }
  | _ => none }
def FnDiverseLeastTopWrongFalsely : Prop := fnDiverseLeastTopRow.holds Try.pinned (OpenSpec.ofChange fnDiverseLeastTopWrong)

/-- 'laws.FnDiverseOrder': WHATEVER THE INPUT: true; the input reads as it did. -/
def fnDiverseOrderSpec : ChangeSpec := { name := "fnDiverseOrder", fn := fun _ => fun
  | [d1, d2] => { results := [.lit (.bool true)], args := [d1, d2] }
  | _ => none }
def fnDiverseOrderRow : OpenClaim := { program := "ytiheheapghjpbaa", sum := "12dd2fdd45d9d0e7db33a269180786b23059cab1bee60e3a5fe7a5e3cfe5006d", func := "loop.example/disclosurecontrol/laws.FnDiverseOrder", spec := "fnDiverseOrder", unfollowed := true, recurses := true, plainKeys := false, apart := false }
def FnDiverseOrderSaid : Prop := fnDiverseOrderRow.holds Try.pinned (OpenSpec.ofChange fnDiverseOrderSpec)

/-- ITS FALSE NEIGHBOUR: 'it returns false'. Refute it at one input. -/
def fnDiverseOrderWrong : ChangeSpec := { name := "fnDiverseOrder", fn := fun _ => fun
  | [d1, d2] => { results := [.lit (.bool false)], args := [d1, d2] }
  | _ => none }
def FnDiverseOrderWrongFalsely : Prop := fnDiverseOrderRow.holds Try.pinned (OpenSpec.ofChange fnDiverseOrderWrong)

/-- 'laws.FnExactAnonOk': WHATEVER THE INPUT: true; the input reads as it did. -/
def fnExactAnonOkSpec : ChangeSpec := { name := "fnExactAnonOk", fn := fun _ => fun
  | [d1, d2, d3, d4] => { results := [.lit (.bool true)], args := [d1, d2, d3, d4] }
  | _ => none }
def fnExactAnonOkRow : OpenClaim := { program := "ytiheheapghjpbaa", sum := "12dd2fdd45d9d0e7db33a269180786b23059cab1bee60e3a5fe7a5e3cfe5006d", func := "loop.example/disclosurecontrol/laws.FnExactAnonOk", spec := "fnExactAnonOk", plainKeys := false, apart := false }
def FnExactAnonOkSaid : Prop := fnExactAnonOkRow.holds Try.pinned (OpenSpec.ofChange fnExactAnonOkSpec)

/-- ITS FALSE NEIGHBOUR: 'it returns false'. Refute it at one input. -/
def fnExactAnonOkWrong : ChangeSpec := { name := "fnExactAnonOk", fn := fun _ => fun
  | [d1, d2, d3, d4] => { results := [.lit (.bool false)], args := [d1, d2, d3, d4] }
  | _ => none }
def FnExactAnonOkWrongFalsely : Prop := fnExactAnonOkRow.holds Try.pinned (OpenSpec.ofChange fnExactAnonOkWrong)

/- THE SECOND FORM. 'bulk': how many values and letters a reading holds, each counted each time it is reached (what is shared counts as often as it is met; a slice's spare places count too). A statement '..UptoSaid' is the law's where the arguments, and the package variables that the reading takes, are together of bulk at most 1048576: NARROWER than '..Said'. Prove '..Said' where nothing that the law and all that it calls make is longer than what came in: it says more and counts as full. Else prove '..UptoSaid'. A law counts once. -/
mutual
def uptoBulk {H : Type} : DataW H → Nat
  | .lit (.string bytes) => bytes.length + 1
  | .lit _ => 1
  | .nil => 1
  | .ptr d => uptoBulk d + 1
  | .slice elems spare => uptoBulkAll elems + uptoBulkAll spare + 1
  | .agg parts => uptoBulkAll parts + 1
  | .iface _ d => uptoBulk d + 1
  | .map entries => uptoBulkEntries entries + 1
  | .held _ => 1
def uptoBulkAll {H : Type} : List (DataW H) → Nat
  | [] => 0
  | d :: r => uptoBulk d + uptoBulkAll r
def uptoBulkEntries {H : Type} : List (Lit × DataW H) → Nat
  | [] => 0
  | x :: r => uptoBulkEntry x + uptoBulkEntries r
def uptoBulkEntry {H : Type} : Lit × DataW H → Nat
  | (.string bytes, d) => bytes.length + uptoBulk d + 1
  | (_, d) => uptoBulk d + 1
 end
def uptoSmall : (H : Type) → List (DataW H) → Bool := fun _ ds => decide (uptoBulkAll ds ≤ 1048576)
def OpenSpec.upto (s : _root_.Go.ChangeSpec) : _root_.Go.OpenSpec := { _root_.Go.OpenSpec.ofChange s with cond := some uptoSmall }

/-- 'laws.FnDiverseJoin', WHERE WHAT IT READS IS OF BULK AT MOST 1048576: true; the input reads as it did. -/
def fnDiverseJoinUptoRow : OpenClaim := { program := "ytiheheapghjpbaa", sum := "12dd2fdd45d9d0e7db33a269180786b23059cab1bee60e3a5fe7a5e3cfe5006d", func := "loop.example/disclosurecontrol/laws.FnDiverseJoin", spec := "fnDiverseJoin", unfollowed := true, recurses := true, plainKeys := false, apart := false, narrowed := true }
def FnDiverseJoinUptoSaid : Prop := fnDiverseJoinUptoRow.holds Try.pinned (OpenSpec.upto fnDiverseJoinSpec)

/-- 'laws.FnExactRecodePeople', WHERE WHAT IT READS IS OF BULK AT MOST 1048576: true; the input reads as it did. -/
def fnExactRecodePeopleUptoRow : OpenClaim := { program := "ytiheheapghjpbaa", sum := "12dd2fdd45d9d0e7db33a269180786b23059cab1bee60e3a5fe7a5e3cfe5006d", func := "loop.example/disclosurecontrol/laws.FnExactRecodePeople", spec := "fnExactRecodePeople", plainKeys := false, apart := false, narrowed := true }
def FnExactRecodePeopleUptoSaid : Prop := fnExactRecodePeopleUptoRow.holds Try.pinned (OpenSpec.upto fnExactRecodePeopleSpec)

/-- 'laws.FnDiverseLess', WHERE WHAT IT READS IS OF BULK AT MOST 1048576: true; the input reads as it did. -/
def fnDiverseLessUptoRow : OpenClaim := { program := "ytiheheapghjpbaa", sum := "12dd2fdd45d9d0e7db33a269180786b23059cab1bee60e3a5fe7a5e3cfe5006d", func := "loop.example/disclosurecontrol/laws.FnDiverseLess", spec := "fnDiverseLess", unfollowed := true, recurses := true, plainKeys := false, apart := false, narrowed := true }
def FnDiverseLessUptoSaid : Prop := fnDiverseLessUptoRow.holds Try.pinned (OpenSpec.upto fnDiverseLessSpec)

/-- 'laws.FnGroupSize', WHERE WHAT IT READS IS OF BULK AT MOST 1048576: true; the input reads as it did. -/
def fnGroupSizeUptoRow : OpenClaim := { program := "ytiheheapghjpbaa", sum := "12dd2fdd45d9d0e7db33a269180786b23059cab1bee60e3a5fe7a5e3cfe5006d", func := "loop.example/disclosurecontrol/laws.FnGroupSize", spec := "fnGroupSize", plainKeys := false, apart := false, narrowed := true }
def FnGroupSizeUptoSaid : Prop := fnGroupSizeUptoRow.holds Try.pinned (OpenSpec.upto fnGroupSizeSpec)

/-- 'laws.FnDropAll', WHERE WHAT IT READS IS OF BULK AT MOST 1048576: true; the input reads as it did. -/
def fnDropAllUptoRow : OpenClaim := { program := "ytiheheapghjpbaa", sum := "12dd2fdd45d9d0e7db33a269180786b23059cab1bee60e3a5fe7a5e3cfe5006d", func := "loop.example/disclosurecontrol/laws.FnDropAll", spec := "fnDropAll", plainKeys := false, apart := false, narrowed := true }
def FnDropAllUptoSaid : Prop := fnDropAllUptoRow.holds Try.pinned (OpenSpec.upto fnDropAllSpec)

/-- 'laws.FnDropCoarser', WHERE WHAT IT READS IS OF BULK AT MOST 1048576: true; the input reads as it did. -/
def fnDropCoarserUptoRow : OpenClaim := { program := "ytiheheapghjpbaa", sum := "12dd2fdd45d9d0e7db33a269180786b23059cab1bee60e3a5fe7a5e3cfe5006d", func := "loop.example/disclosurecontrol/laws.FnDropCoarser", spec := "fnDropCoarser", plainKeys := false, apart := false, narrowed := true }
def FnDropCoarserUptoSaid : Prop := fnDropCoarserUptoRow.holds Try.pinned (OpenSpec.upto fnDropCoarserSpec)

/-- 'laws.FnDropOrder', WHERE WHAT IT READS IS OF BULK AT MOST 1048576: true; the input reads as it did. -/
def fnDropOrderUptoRow : OpenClaim := { program := "ytiheheapghjpbaa", sum := "12dd2fdd45d9d0e7db33a269180786b23059cab1bee60e3a5fe7a5e3cfe5006d", func := "loop.example/disclosurecontrol/laws.FnDropOrder", spec := "fnDropOrder", plainKeys := false, apart := false, narrowed := true }
def FnDropOrderUptoSaid : Prop := fnDropOrderUptoRow.holds Try.pinned (OpenSpec.upto fnDropOrderSpec)

/-- 'laws.FnDropTwice', WHERE WHAT IT READS IS OF BULK AT MOST 1048576: true; the input reads as it did. -/
def fnDropTwiceUptoRow : OpenClaim := { program := "ytiheheapghjpbaa", sum := "12dd2fdd45d9d0e7db33a269180786b23059cab1bee60e3a5fe7a5e3cfe5006d", func := "loop.example/disclosurecontrol/laws.FnDropTwice", spec := "fnDropTwice", plainKeys := false, apart := false, narrowed := true }
def FnDropTwiceUptoSaid : Prop := fnDropTwiceUptoRow.holds Try.pinned (OpenSpec.upto fnDropTwiceSpec)

/-- 'laws.FnDiverseOk', WHERE WHAT IT READS IS OF BULK AT MOST 1048576: true; the input reads as it did. -/
def fnDiverseOkUptoRow : OpenClaim := { program := "ytiheheapghjpbaa", sum := "12dd2fdd45d9d0e7db33a269180786b23059cab1bee60e3a5fe7a5e3cfe5006d", func := "loop.example/disclosurecontrol/laws.FnDiverseOk", spec := "fnDiverseOk", unfollowed := true, recurses := true, plainKeys := false, apart := false, narrowed := true }
def FnDiverseOkUptoSaid : Prop := fnDiverseOkUptoRow.holds Try.pinned (OpenSpec.upto fnDiverseOkSpec)

/-- 'laws.FnDiverseLeastTop', WHERE WHAT IT READS IS OF BULK AT MOST 1048576: true; the input reads as it did. -/
def fnDiverseLeastTopUptoRow : OpenClaim := { program := "ytiheheapghjpbaa", sum := "12dd2fdd45d9d0e7db33a269180786b23059cab1bee60e3a5fe7a5e3cfe5006d", func := "loop.example/disclosurecontrol/laws.FnDiverseLeastTop", spec := "fnDiverseLeastTop", unfollowed := true, recurses := true, plainKeys := false, apart := false, narrowed := true }
def FnDiverseLeastTopUptoSaid : Prop := fnDiverseLeastTopUptoRow.holds Try.pinned (OpenSpec.upto fnDiverseLeastTopSpec)

/-- 'laws.FnDiverseOrder', WHERE WHAT IT READS IS OF BULK AT MOST 1048576: true; the input reads as it did. -/
def fnDiverseOrderUptoRow : OpenClaim := { program := "ytiheheapghjpbaa", sum := "12dd2fdd45d9d0e7db33a269180786b23059cab1bee60e3a5fe7a5e3cfe5006d", func := "loop.example/disclosurecontrol/laws.FnDiverseOrder", spec := "fnDiverseOrder", unfollowed := true, recurses := true, plainKeys := false, apart := false, narrowed := true }
def FnDiverseOrderUptoSaid : Prop := fnDiverseOrderUptoRow.holds Try.pinned (OpenSpec.upto fnDiverseOrderSpec)

/-- 'laws.FnExactAnonOk', WHERE WHAT IT READS IS OF BULK AT MOST 1048576: true; the input reads as it did. -/
def fnExactAnonOkUptoRow : OpenClaim := { program := "ytiheheapghjpbaa", sum := "12dd2fdd45d9d0e7db33a269180786b23059cab1bee60e3a5fe7a5e3cfe5006d", func := "loop.example/disclosurecontrol/laws.FnExactAnonOk", spec := "fnExactAnonOk", plainKeys := false, apart := false, narrowed := true }
def FnExactAnonOkUptoSaid : Prop := fnExactAnonOkUptoRow.holds Try.pinned (OpenSpec.upto fnExactAnonOkSpec)

end Rows
end Go.Proofs.Ytiheheapghjpbaa
