/-
  No cell of these rows narrows 'for every input' (looked for: loops, veiled, ifaces, maps, wideKeys, modest, calm, conditions, laid).
  DERIVED. THE GIVEN ROWS OF THIS SEAT. 12 by the template 'for every input the law returns true; each argument reads behind the call as it read before'; 0 by the template 'total and deterministic' (their statements: YtialdbphnofidaaTotals.lean).
  GIVEN WITH THE SEED: the statements are not yours to turn. If you find one false, say at which input.
  Laid BY PROGRAM, IN A SANDBOX (cutbox-rows.mjs): the forced cells as the released guide's own fill.sh prints them over the translation d933e4b0c2dd59ed… (all of the seat's roots in one cut). By AI agents, Wed Nov 11 2026. No macro, syntax, notation, axiom, sorry.
-/
import Derived.Test.YtialdbphnofidaaChecked
import GoSem.Claim
import GoSem.ClaimJoined
import GoSem.ClaimMapViews
import Derived.JoinedTies
import Derived.KernelRfl
namespace Go.Proofs.Ytialdbphnofidaa
/- THE CELL 'sum', in the pinned program and in every row, IS THE sha256 OF THE DUMP (.gsa) THAT YtialdbphnofidaaProg.lean LOADS. Nothing in Lean hashes anything: it is a label: what it is worth is what the hold of that sum in a sandbox is worth. -/
noncomputable def Try.pinned : Pinned := { name := "ytialdbphnofidaa", sum := "d933e4b0c2dd59ed5eee0ac1bbb5b3aea3e285a69e40cfd6850659b786b3c396", checked := Try.checked }
namespace Rows
def none {H : Type} : Left H := { results := [], args := [] }

/-- 'laws.FnExactAnonCost': WHATEVER THE INPUT: true; the input reads as it did. -/
def fnExactAnonCostSpec : ChangeSpec := { name := "fnExactAnonCost", fn := fun _ => fun
  | [d1, d2] => { results := [.lit (.bool true)], args := [d1, d2] }
  | _ => none }
def fnExactAnonCostRow : OpenClaim := { program := "ytialdbphnofidaa", sum := "d933e4b0c2dd59ed5eee0ac1bbb5b3aea3e285a69e40cfd6850659b786b3c396", func := "loop.example/disclosurecontrol/laws.FnExactAnonCost", spec := "fnExactAnonCost", plainKeys := false, apart := false }
def FnExactAnonCostSaid : Prop := fnExactAnonCostRow.holds Try.pinned (OpenSpec.ofChange fnExactAnonCostSpec)

/-- ITS FALSE NEIGHBOUR: 'it returns false'. Refute it at one input. -/
def fnExactAnonCostWrong : ChangeSpec := { name := "fnExactAnonCost", fn := fun _ => fun
  | [d1, d2] => { results := [.lit (.bool false)], args := [d1, d2] }
  | _ => none }
def FnExactAnonCostWrongFalsely : Prop := fnExactAnonCostRow.holds Try.pinned (OpenSpec.ofChange fnExactAnonCostWrong)

/-- 'laws.FnDiverseJoin': WHATEVER THE INPUT: true; the input reads as it did. -/
def fnDiverseJoinSpec : ChangeSpec := { name := "fnDiverseJoin", fn := fun _ => fun
  | [d] => { results := [.lit (.bool true)], args := [d] }
  | _ => none }
def fnDiverseJoinRow : OpenClaim := { program := "ytialdbphnofidaa", sum := "d933e4b0c2dd59ed5eee0ac1bbb5b3aea3e285a69e40cfd6850659b786b3c396", func := "loop.example/disclosurecontrol/laws.FnDiverseJoin", spec := "fnDiverseJoin", unfollowed := true, recurses := true, plainKeys := false, apart := false }
def FnDiverseJoinSaid : Prop := fnDiverseJoinRow.holds Try.pinned (OpenSpec.ofChange fnDiverseJoinSpec)

/-- ITS FALSE NEIGHBOUR: 'it returns false'. Refute it at one input. -/
def fnDiverseJoinWrong : ChangeSpec := { name := "fnDiverseJoin", fn := fun _ => fun
  | [d] => { results := [.lit (.bool false)], args := [d] }
  | _ => none }
def FnDiverseJoinWrongFalsely : Prop := fnDiverseJoinRow.holds Try.pinned (OpenSpec.ofChange fnDiverseJoinWrong)

/-- 'laws.FnCost': WHATEVER THE INPUT: true; the input reads as it did. -/
def fnCostSpec : ChangeSpec := { name := "fnCost", fn := fun _ => fun
  | [d] => { results := [.lit (.bool true)], args := [d] }
  | _ => none }
def fnCostRow : OpenClaim := { program := "ytialdbphnofidaa", sum := "d933e4b0c2dd59ed5eee0ac1bbb5b3aea3e285a69e40cfd6850659b786b3c396", func := "loop.example/disclosurecontrol/laws.FnCost", spec := "fnCost", plainKeys := false, apart := false }
def FnCostSaid : Prop := fnCostRow.holds Try.pinned (OpenSpec.ofChange fnCostSpec)

/-- ITS FALSE NEIGHBOUR: 'it returns false'. Refute it at one input. -/
def fnCostWrong : ChangeSpec := { name := "fnCost", fn := fun _ => fun
  | [d] => { results := [.lit (.bool false)], args := [d] }
  | _ => none }
def FnCostWrongFalsely : Prop := fnCostRow.holds Try.pinned (OpenSpec.ofChange fnCostWrong)

/-- 'laws.FnGroupManySum': WHATEVER THE INPUT: true; the input reads as it did. -/
def fnGroupManySumSpec : ChangeSpec := { name := "fnGroupManySum", fn := fun _ => fun
  | [d] => { results := [.lit (.bool true)], args := [d] }
  | _ => none }
def fnGroupManySumRow : OpenClaim := { program := "ytialdbphnofidaa", sum := "d933e4b0c2dd59ed5eee0ac1bbb5b3aea3e285a69e40cfd6850659b786b3c396", func := "loop.example/disclosurecontrol/laws.FnGroupManySum", spec := "fnGroupManySum", plainKeys := false, apart := false }
def FnGroupManySumSaid : Prop := fnGroupManySumRow.holds Try.pinned (OpenSpec.ofChange fnGroupManySumSpec)

/-- ITS FALSE NEIGHBOUR: 'it returns false'. Refute it at one input. -/
def fnGroupManySumWrong : ChangeSpec := { name := "fnGroupManySum", fn := fun _ => fun
  | [d] => { results := [.lit (.bool false)], args := [d] }
  | _ => none }
def FnGroupManySumWrongFalsely : Prop := fnGroupManySumRow.holds Try.pinned (OpenSpec.ofChange fnGroupManySumWrong)

/-- 'laws.FnExactRecodePeople': WHATEVER THE INPUT: true; the input reads as it did. -/
def fnExactRecodePeopleSpec : ChangeSpec := { name := "fnExactRecodePeople", fn := fun _ => fun
  | [d1, d2, d3] => { results := [.lit (.bool true)], args := [d1, d2, d3] }
  | _ => none }
def fnExactRecodePeopleRow : OpenClaim := { program := "ytialdbphnofidaa", sum := "d933e4b0c2dd59ed5eee0ac1bbb5b3aea3e285a69e40cfd6850659b786b3c396", func := "loop.example/disclosurecontrol/laws.FnExactRecodePeople", spec := "fnExactRecodePeople", plainKeys := false, apart := false }
def FnExactRecodePeopleSaid : Prop := fnExactRecodePeopleRow.holds Try.pinned (OpenSpec.ofChange fnExactRecodePeopleSpec)

/-- ITS FALSE NEIGHBOUR: 'it returns false'. Refute it at one input. -/
def fnExactRecodePeopleWrong : ChangeSpec := { name := "fnExactRecodePeople", fn := fun _ => fun
  | [d1, d2, d3] => { results := [.lit (.bool false)], args := [d1, d2, d3] }
  | _ => none }
def FnExactRecodePeopleWrongFalsely : Prop := fnExactRecodePeopleRow.holds Try.pinned (OpenSpec.ofChange fnExactRecodePeopleWrong)

/-- 'laws.FnExactGroupLeast': WHATEVER THE INPUT: true; the input reads as it did. -/
def fnExactGroupLeastSpec : ChangeSpec := { name := "fnExactGroupLeast", fn := fun _ => fun
  | [d1, d2, d3] => { results := [.lit (.bool true)], args := [d1, d2, d3] }
  | _ => none }
def fnExactGroupLeastRow : OpenClaim := { program := "ytialdbphnofidaa", sum := "d933e4b0c2dd59ed5eee0ac1bbb5b3aea3e285a69e40cfd6850659b786b3c396", func := "loop.example/disclosurecontrol/laws.FnExactGroupLeast", spec := "fnExactGroupLeast", plainKeys := false, apart := false }
def FnExactGroupLeastSaid : Prop := fnExactGroupLeastRow.holds Try.pinned (OpenSpec.ofChange fnExactGroupLeastSpec)

/-- ITS FALSE NEIGHBOUR: 'it returns false'. Refute it at one input. -/
def fnExactGroupLeastWrong : ChangeSpec := { name := "fnExactGroupLeast", fn := fun _ => fun
  | [d1, d2, d3] => { results := [.lit (.bool false)], args := [d1, d2, d3] }
  | _ => none }
def FnExactGroupLeastWrongFalsely : Prop := fnExactGroupLeastRow.holds Try.pinned (OpenSpec.ofChange fnExactGroupLeastWrong)

/-- 'laws.FnGroupLeast': WHATEVER THE INPUT: true; the input reads as it did. -/
def fnGroupLeastSpec : ChangeSpec := { name := "fnGroupLeast", fn := fun _ => fun
  | [d] => { results := [.lit (.bool true)], args := [d] }
  | _ => none }
def fnGroupLeastRow : OpenClaim := { program := "ytialdbphnofidaa", sum := "d933e4b0c2dd59ed5eee0ac1bbb5b3aea3e285a69e40cfd6850659b786b3c396", func := "loop.example/disclosurecontrol/laws.FnGroupLeast", spec := "fnGroupLeast", plainKeys := false, apart := false }
def FnGroupLeastSaid : Prop := fnGroupLeastRow.holds Try.pinned (OpenSpec.ofChange fnGroupLeastSpec)

/-- ITS FALSE NEIGHBOUR: 'it returns false'. Refute it at one input. -/
def fnGroupLeastWrong : ChangeSpec := { name := "fnGroupLeast", fn := fun _ => fun
  | [d] => { results := [.lit (.bool false)], args := [d] }
  | _ => none }
def FnGroupLeastWrongFalsely : Prop := fnGroupLeastRow.holds Try.pinned (OpenSpec.ofChange fnGroupLeastWrong)

/-- 'laws.FnGroupMany': WHATEVER THE INPUT: true; the input reads as it did. -/
def fnGroupManySpec : ChangeSpec := { name := "fnGroupMany", fn := fun _ => fun
  | [d] => { results := [.lit (.bool true)], args := [d] }
  | _ => none }
def fnGroupManyRow : OpenClaim := { program := "ytialdbphnofidaa", sum := "d933e4b0c2dd59ed5eee0ac1bbb5b3aea3e285a69e40cfd6850659b786b3c396", func := "loop.example/disclosurecontrol/laws.FnGroupMany", spec := "fnGroupMany", plainKeys := false, apart := false }
def FnGroupManySaid : Prop := fnGroupManyRow.holds Try.pinned (OpenSpec.ofChange fnGroupManySpec)

/-- ITS FALSE NEIGHBOUR: 'it returns false'. Refute it at one input. -/
def fnGroupManyWrong : ChangeSpec := { name := "fnGroupMany", fn := fun _ => fun
  | [d] => { results := [.lit (.bool false)], args := [d] }
  | _ => none }
def FnGroupManyWrongFalsely : Prop := fnGroupManyRow.holds Try.pinned (OpenSpec.ofChange fnGroupManyWrong)

/-- 'laws.FnDiverseLess': WHATEVER THE INPUT: true; the input reads as it did. -/
def fnDiverseLessSpec : ChangeSpec := { name := "fnDiverseLess", fn := fun _ => fun
  | [d1, d2] => { results := [.lit (.bool true)], args := [d1, d2] }
  | _ => none }
def fnDiverseLessRow : OpenClaim := { program := "ytialdbphnofidaa", sum := "d933e4b0c2dd59ed5eee0ac1bbb5b3aea3e285a69e40cfd6850659b786b3c396", func := "loop.example/disclosurecontrol/laws.FnDiverseLess", spec := "fnDiverseLess", unfollowed := true, recurses := true, plainKeys := false, apart := false }
def FnDiverseLessSaid : Prop := fnDiverseLessRow.holds Try.pinned (OpenSpec.ofChange fnDiverseLessSpec)

/-- ITS FALSE NEIGHBOUR: 'it returns false'. Refute it at one input. -/
def fnDiverseLessWrong : ChangeSpec := { name := "fnDiverseLess", fn := fun _ => fun
  | [d1, d2] => { results := [.lit (.bool false)], args := [d1, d2] }
  | _ => none }
def FnDiverseLessWrongFalsely : Prop := fnDiverseLessRow.holds Try.pinned (OpenSpec.ofChange fnDiverseLessWrong)

/-- 'laws.FnGroupSize': WHATEVER THE INPUT: true; the input reads as it did. -/
def fnGroupSizeSpec : ChangeSpec := { name := "fnGroupSize", fn := fun _ => fun
  | [d] => { results := [.lit (.bool true)], args := [d] }
  | _ => none }
def fnGroupSizeRow : OpenClaim := { program := "ytialdbphnofidaa", sum := "d933e4b0c2dd59ed5eee0ac1bbb5b3aea3e285a69e40cfd6850659b786b3c396", func := "loop.example/disclosurecontrol/laws.FnGroupSize", spec := "fnGroupSize", plainKeys := false, apart := false }
def FnGroupSizeSaid : Prop := fnGroupSizeRow.holds Try.pinned (OpenSpec.ofChange fnGroupSizeSpec)

/-- ITS FALSE NEIGHBOUR: 'it returns false'. Refute it at one input. -/
def fnGroupSizeWrong : ChangeSpec := { name := "fnGroupSize", fn := fun _ => fun
  | [d] => { results := [.lit (.bool false)], args := [d] }
  | _ => none }
def FnGroupSizeWrongFalsely : Prop := fnGroupSizeRow.holds Try.pinned (OpenSpec.ofChange fnGroupSizeWrong)

/-- 'laws.FnExactAnonDrop': WHATEVER THE INPUT: true; the input reads as it did. -/
def fnExactAnonDropSpec : ChangeSpec := { name := "fnExactAnonDrop", fn := fun _ => fun
  | [d1, d2, d3, d4] => { results := [.lit (.bool true)], args := [d1, d2, d3, d4] }
  | _ => none }
def fnExactAnonDropRow : OpenClaim := { program := "ytialdbphnofidaa", sum := "d933e4b0c2dd59ed5eee0ac1bbb5b3aea3e285a69e40cfd6850659b786b3c396", func := "loop.example/disclosurecontrol/laws.FnExactAnonDrop", spec := "fnExactAnonDrop", plainKeys := false, apart := false }
def FnExactAnonDropSaid : Prop := fnExactAnonDropRow.holds Try.pinned (OpenSpec.ofChange fnExactAnonDropSpec)

/-- ITS FALSE NEIGHBOUR: 'it returns false'. Refute it at one input. -/
def fnExactAnonDropWrong : ChangeSpec := { name := "fnExactAnonDrop", fn := fun _ => fun
  | [d1, d2, d3, d4] => { results := [.lit (.bool false)], args := [d1, d2, d3, d4] }
  | _ => none }
def FnExactAnonDropWrongFalsely : Prop := fnExactAnonDropRow.holds Try.pinned (OpenSpec.ofChange fnExactAnonDropWrong)

/-- 'laws.FnExactGroupUniques': WHATEVER THE INPUT: true; the input reads as it did. -/
def fnExactGroupUniquesSpec : ChangeSpec := { name := "fnExactGroupUniques", fn := fun _ => fun
  | [d1, d2, d3] => { results := [.lit (.bool true)], args := [d1, d2, d3] }
  | _ => none }
def fnExactGroupUniquesRow : OpenClaim := { program := "ytialdbphnofidaa", sum := "d933e4b0c2dd59ed5eee0ac1bbb5b3aea3e285a69e40cfd6850659b786b3c396", func := "loop.example/disclosurecontrol/laws.FnExactGroupUniques", spec := "fnExactGroupUniques", plainKeys := false, apart := false }
def FnExactGroupUniquesSaid : Prop := fnExactGroupUniquesRow.holds Try.pinned (OpenSpec.ofChange fnExactGroupUniquesSpec)

/-- ITS FALSE NEIGHBOUR: 'it returns false'. Refute it at one input. -/
def fnExactGroupUniquesWrong : ChangeSpec := { name := "fnExactGroupUniques", fn := fun _ => fun
  | [d1, d2, d3] => { results := [.lit (.bool false)], args := [d1, d2, d3] }
  | _ => none }
def FnExactGroupUniquesWrongFalsely : Prop := fnExactGroupUniquesRow.holds Try.pinned (OpenSpec.ofChange fnExactGroupUniquesWrong)

/- THE SECOND FORM. 'bulk': how many values and letters a reading holds, each counted each time it is reached (what is shared counts as often as it is met; a slice's spare places count too). A statement '..UptoSaid' is the law's where the arguments, and the package variables that the reading takes, are together of bulk at most 1048576: NARROWER than '..Said'. Prove '..Said' where nothing that the law and all that it calls make is longer than what came in: it says more and counts as full. Else prove '..UptoSaid'. A law counts once. -/
mutual
def uptoBulk {H : Type} : DataW H → Nat
  | .lit (.string bytes) => bytes.length + 1
  | .lit _ => 1
  | .nil => 1
  | .ptr d => uptoBulk d + 1
  | .slice elems spare => uptoBulkAll elems + uptoBulkAll spare + 1
  | .agg parts => uptoBulkAll parts + 1
  | .iface _ d => uptoBulk d + 1
  | .map entries => uptoBulkEntries entries + 1
  | .held _ => 1
def uptoBulkAll {H : Type} : List (DataW H) → Nat
  | [] => 0
  | d :: r => uptoBulk d + uptoBulkAll r
def uptoBulkEntries {H : Type} : List (Lit × DataW H) → Nat
  | [] => 0
  | x :: r => uptoBulkEntry x + uptoBulkEntries r
def uptoBulkEntry {H : Type} : Lit × DataW H → Nat
  | (.string bytes, d) => bytes.length + uptoBulk d + 1
  | (_, d) => uptoBulk d + 1
 end
def uptoSmall : (H : Type) → List (DataW H) → Bool := fun _ ds => decide (uptoBulkAll ds ≤ 1048576)
def OpenSpec.upto (s : _root_.Go.ChangeSpec) : _root_.Go.OpenSpec := { _root_.Go.OpenSpec.ofChange s with cond := some uptoSmall }

/-- 'laws.FnExactAnonCost', WHERE WHAT IT READS IS OF BULK AT MOST 1048576: true; the input reads as it did. -/
def fnExactAnonCostUptoRow : OpenClaim := { program := "ytialdbphnofidaa", sum := "d933e4b0c2dd59ed5eee0ac1bbb5b3aea3e285a69e40cfd6850659b786b3c396", func := "loop.example/disclosurecontrol/laws.FnExactAnonCost", spec := "fnExactAnonCost", plainKeys := false, apart := false, narrowed := true }
def FnExactAnonCostUptoSaid : Prop := fnExactAnonCostUptoRow.holds Try.pinned (OpenSpec.upto fnExactAnonCostSpec)

/-- 'laws.FnDiverseJoin', WHERE WHAT IT READS IS OF BULK AT MOST 1048576: true; the input reads as it did. -/
def fnDiverseJoinUptoRow : OpenClaim := { program := "ytialdbphnofidaa", sum := "d933e4b0c2dd59ed5eee0ac1bbb5b3aea3e285a69e40cfd6850659b786b3c396", func := "loop.example/disclosurecontrol/laws.FnDiverseJoin", spec := "fnDiverseJoin", unfollowed := true, recurses := true, plainKeys := false, apart := false, narrowed := true }
def FnDiverseJoinUptoSaid : Prop := fnDiverseJoinUptoRow.holds Try.pinned (OpenSpec.upto fnDiverseJoinSpec)

/-- 'laws.FnCost', WHERE WHAT IT READS IS OF BULK AT MOST 1048576: true; the input reads as it did. -/
def fnCostUptoRow : OpenClaim := { program := "ytialdbphnofidaa", sum := "d933e4b0c2dd59ed5eee0ac1bbb5b3aea3e285a69e40cfd6850659b786b3c396", func := "loop.example/disclosurecontrol/laws.FnCost", spec := "fnCost", plainKeys := false, apart := false, narrowed := true }
def FnCostUptoSaid : Prop := fnCostUptoRow.holds Try.pinned (OpenSpec.upto fnCostSpec)

/-- 'laws.FnGroupManySum', WHERE WHAT IT READS IS OF BULK AT MOST 1048576: true; the input reads as it did. -/
def fnGroupManySumUptoRow : OpenClaim := { program := "ytialdbphnofidaa", sum := "d933e4b0c2dd59ed5eee0ac1bbb5b3aea3e285a69e40cfd6850659b786b3c396", func := "loop.example/disclosurecontrol/laws.FnGroupManySum", spec := "fnGroupManySum", plainKeys := false, apart := false, narrowed := true }
def FnGroupManySumUptoSaid : Prop := fnGroupManySumUptoRow.holds Try.pinned (OpenSpec.upto fnGroupManySumSpec)

/-- 'laws.FnExactRecodePeople', WHERE WHAT IT READS IS OF BULK AT MOST 1048576: true; the input reads as it did. -/
def fnExactRecodePeopleUptoRow : OpenClaim := { program := "ytialdbphnofidaa", sum := "d933e4b0c2dd59ed5eee0ac1bbb5b3aea3e285a69e40cfd6850659b786b3c396", func := "loop.example/disclosurecontrol/laws.FnExactRecodePeople", spec := "fnExactRecodePeople", plainKeys := false, apart := false, narrowed := true }
def FnExactRecodePeopleUptoSaid : Prop := fnExactRecodePeopleUptoRow.holds Try.pinned (OpenSpec.upto fnExactRecodePeopleSpec)

/-- 'laws.FnExactGroupLeast', WHERE WHAT IT READS IS OF BULK AT MOST 1048576: true; the input reads as it did. -/
def fnExactGroupLeastUptoRow : OpenClaim := { program := "ytialdbphnofidaa", sum := "d933e4b0c2dd59ed5eee0ac1bbb5b3aea3e285a69e40cfd6850659b786b3c396", func := "loop.example/disclosurecontrol/laws.FnExactGroupLeast", spec := "fnExactGroupLeast", plainKeys := false, apart := false, narrowed := true }
def FnExactGroupLeastUptoSaid : Prop := fnExactGroupLeastUptoRow.holds Try.pinned (OpenSpec.upto fnExactGroupLeastSpec)

/-- 'laws.FnGroupLeast', WHERE WHAT IT READS IS OF BULK AT MOST 1048576: true; the input reads as it did. -/
def fnGroupLeastUptoRow : OpenClaim := { program := "ytialdbphnofidaa", sum := "d933e4b0c2dd59ed5eee0ac1bbb5b3aea3e285a69e40cfd6850659b786b3c396", func := "loop.example/disclosurecontrol/laws.FnGroupLeast", spec := "fnGroupLeast", plainKeys := false, apart := false, narrowed := true }
def FnGroupLeastUptoSaid : Prop := fnGroupLeastUptoRow.holds Try.pinned (OpenSpec.upto fnGroupLeastSpec)

/-- 'laws.FnGroupMany', WHERE WHAT IT READS IS OF BULK AT MOST 1048576: true; the input reads as it did. -/
def fnGroupManyUptoRow : OpenClaim := { program := "ytialdbphnofidaa", sum := "d933e4b0c2dd59ed5eee0ac1bbb5b3aea3e285a69e40cfd6850659b786b3c396", func := "loop.example/disclosurecontrol/laws.FnGroupMany", spec := "fnGroupMany", plainKeys := false, apart := false, narrowed := true }
def FnGroupManyUptoSaid : Prop := fnGroupManyUptoRow.holds Try.pinned (OpenSpec.upto fnGroupManySpec)

/-- 'laws.FnDiverseLess', WHERE WHAT IT READS IS OF BULK AT MOST 1048576: true; the input reads as it did. -/
def fnDiverseLessUptoRow : OpenClaim := { program := "ytialdbphnofidaa", sum := "d933e4b0c2dd59ed5eee0ac1bbb5b3aea3e285a69e40cfd6850659b786b3c396", func := "loop.example/disclosurecontrol/laws.FnDiverseLess", spec := "fnDiverseLess", unfollowed := true, recurses := true, plainKeys := false, apart := false, narrowed := true }
def FnDiverseLessUptoSaid : Prop := fnDiverseLessUptoRow.holds Try.pinned (OpenSpec.upto fnDiverseLessSpec)

/-- 'laws.FnGroupSize', WHERE WHAT IT READS IS OF BULK AT MOST 1048576: true; the input reads as it did. -/
def fnGroupSizeUptoRow : OpenClaim := { program := "ytialdbphnofidaa", sum := "d933e4b0c2dd59ed5eee0ac1bbb5b3aea3e285a69e40cfd6850659b786b3c396", func := "loop.example/disclosurecontrol/laws.FnGroupSize", spec := "fnGroupSize", plainKeys := false, apart := false, narrowed := true }
def FnGroupSizeUptoSaid : Prop := fnGroupSizeUptoRow.holds Try.pinned (OpenSpec.upto fnGroupSizeSpec)

/-- 'laws.FnExactAnonDrop', WHERE WHAT IT READS IS OF BULK AT MOST 1048576: true; the input reads as it did. -/
def fnExactAnonDropUptoRow : OpenClaim := { program := "ytialdbphnofidaa", sum := "d933e4b0c2dd59ed5eee0ac1bbb5b3aea3e285a69e40cfd6850659b786b3c396", func := "loop.example/disclosurecontrol/laws.FnExactAnonDrop", spec := "fnExactAnonDrop", plainKeys := false, apart := false, narrowed := true }
def FnExactAnonDropUptoSaid : Prop := fnExactAnonDropUptoRow.holds Try.pinned (OpenSpec.upto fnExactAnonDropSpec)

/-- 'laws.FnExactGroupUniques', WHERE WHAT IT READS IS OF BULK AT MOST 1048576: true; the input reads as it did. -/
def fnExactGroupUniquesUptoRow : OpenClaim := { program := "ytialdbphnofidaa", sum := "d933e4b0c2dd59ed5eee0ac1bbb5b3aea3e285a69e40cfd6850659b786b3c396", func := "loop.example/disclosurecontrol/laws.FnExactGroupUniques", spec := "fnExactGroupUniques", plainKeys := false, apart := false, narrowed := true }
def FnExactGroupUniquesUptoSaid : Prop := fnExactGroupUniquesUptoRow.holds Try.pinned (OpenSpec.upto fnExactGroupUniquesSpec)

end Rows
end Go.Proofs.Ytialdbphnofidaa
