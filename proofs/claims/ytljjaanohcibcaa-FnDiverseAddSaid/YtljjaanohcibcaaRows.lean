/-
  No cell of these rows narrows 'for every input' (looked for: loops, veiled, ifaces, maps, wideKeys, modest, calm, conditions, laid).
  DERIVED. THE GIVEN ROWS OF THIS SEAT. 12 by the template 'for every input the law returns true; each argument reads behind the call as it read before'; 0 by the template 'total and deterministic' (their statements: YtljjaanohcibcaaTotals.lean).
  GIVEN WITH THE SEED: the statements are not yours to turn. If you find one false, say at which input.
  Laid BY PROGRAM, IN A SANDBOX (cutbox-rows.mjs): the forced cells as the released guide's own fill.sh prints them over the translation c47b73ebdb6acd5e… (all of the seat's roots in one cut). By AI agents, Wed Nov 11 2026. No macro, syntax, notation, axiom, sorry.
-/
import Derived.Test.YtljjaanohcibcaaChecked
import GoSem.Claim
import GoSem.ClaimJoined
import GoSem.ClaimMapViews
import Derived.JoinedTies
import Derived.KernelRfl
namespace Go.Proofs.Ytljjaanohcibcaa
/- THE CELL 'sum', in the pinned program and in every row, IS THE sha256 OF THE DUMP (.gsa) THAT YtljjaanohcibcaaProg.lean LOADS. Nothing in Lean hashes anything: it is a label: what it is worth is what the hold of that sum in a sandbox is worth. -/
noncomputable def Try.pinned : Pinned := { name := "ytljjaanohcibcaa", sum := "c47b73ebdb6acd5e2444dc595fbbe3008036368ff57235e2f17a9efd3df36422", checked := Try.checked }
namespace Rows
def none {H : Type} : Left H := { results := [], args := [] }

/-- 'laws.FnDrop': WHATEVER THE INPUT: true; the input reads as it did. -/
def fnDropSpec : ChangeSpec := { name := "fnDrop", fn := fun _ => fun
  | [d] => { results := [.lit (.bool true)], args := [d] }
  | _ => none }
def fnDropRow : OpenClaim := { program := "ytljjaanohcibcaa", sum := "c47b73ebdb6acd5e2444dc595fbbe3008036368ff57235e2f17a9efd3df36422", func := "loop.example/disclosurecontrol/laws.FnDrop", spec := "fnDrop", plainKeys := false, apart := false }
def FnDropSaid : Prop := fnDropRow.holds Try.pinned (OpenSpec.ofChange fnDropSpec)

/-- ITS FALSE NEIGHBOUR: 'it returns false'. Refute it at one input. -/
def fnDropWrong : ChangeSpec := { name := "fnDrop", fn := fun _ => fun
  | [d] => { results := [.lit (.bool false)], args := [d] }
  | _ => none }
def FnDropWrongFalsely : Prop := fnDropRow.holds Try.pinned (OpenSpec.ofChange fnDropWrong)

/-- 'laws.FnAnonOkCoarser': WHATEVER THE INPUT: true; the input reads as it did. -/
def fnAnonOkCoarserSpec : ChangeSpec := { name := "fnAnonOkCoarser", fn := fun _ => fun
  | [d] => { results := [.lit (.bool true)], args := [d] }
  | _ => none }
def fnAnonOkCoarserRow : OpenClaim := { program := "ytljjaanohcibcaa", sum := "c47b73ebdb6acd5e2444dc595fbbe3008036368ff57235e2f17a9efd3df36422", func := "loop.example/disclosurecontrol/laws.FnAnonOkCoarser", spec := "fnAnonOkCoarser", plainKeys := false, apart := false }
def FnAnonOkCoarserSaid : Prop := fnAnonOkCoarserRow.holds Try.pinned (OpenSpec.ofChange fnAnonOkCoarserSpec)

/-- ITS FALSE NEIGHBOUR: 'it returns false'. Refute it at one input. -/
def fnAnonOkCoarserWrong : ChangeSpec := { name := "fnAnonOkCoarser", fn := fun _ => fun
  | [d] => { results := [.lit (.bool false)], args := [d] }
  | _ => none }
def FnAnonOkCoarserWrongFalsely : Prop := fnAnonOkCoarserRow.holds Try.pinned (OpenSpec.ofChange fnAnonOkCoarserWrong)

/-- 'laws.FnExactDiverseLeast': WHATEVER THE INPUT: true; the input reads as it did. -/
def fnExactDiverseLeastSpec : ChangeSpec := { name := "fnExactDiverseLeast", fn := fun _ => fun
  | [d1, d2, d3] => { results := [.lit (.bool true)], args := [d1, d2, d3] }
  | _ => none }
def fnExactDiverseLeastRow : OpenClaim := { program := "ytljjaanohcibcaa", sum := "c47b73ebdb6acd5e2444dc595fbbe3008036368ff57235e2f17a9efd3df36422", func := "loop.example/disclosurecontrol/laws.FnExactDiverseLeast", spec := "fnExactDiverseLeast", unfollowed := true, recurses := true, plainKeys := false, apart := false }
def FnExactDiverseLeastSaid : Prop := fnExactDiverseLeastRow.holds Try.pinned (OpenSpec.ofChange fnExactDiverseLeastSpec)

/-- ITS FALSE NEIGHBOUR: 'it returns false'. Refute it at one input. -/
def fnExactDiverseLeastWrong : ChangeSpec := { name := "fnExactDiverseLeast", fn := fun _ => fun
  | [d1, d2, d3] => { results := [.lit (.bool false)], args := [d1, d2, d3] }
  | _ => none }
def FnExactDiverseLeastWrongFalsely : Prop := fnExactDiverseLeastRow.holds Try.pinned (OpenSpec.ofChange fnExactDiverseLeastWrong)

/-- 'laws.FnDiverseLeast': WHATEVER THE INPUT: true; the input reads as it did. -/
def fnDiverseLeastSpec : ChangeSpec := { name := "fnDiverseLeast", fn := fun _ => fun
  | [d] => { results := [.lit (.bool true)], args := [d] }
  | _ => none }
def fnDiverseLeastRow : OpenClaim := { program := "ytljjaanohcibcaa", sum := "c47b73ebdb6acd5e2444dc595fbbe3008036368ff57235e2f17a9efd3df36422", func := "loop.example/disclosurecontrol/laws.FnDiverseLeast", spec := "fnDiverseLeast", unfollowed := true, recurses := true, plainKeys := false, apart := false }
def FnDiverseLeastSaid : Prop := fnDiverseLeastRow.holds Try.pinned (OpenSpec.ofChange fnDiverseLeastSpec)

/-- ITS FALSE NEIGHBOUR: 'it returns false'. Refute it at one input. -/
def fnDiverseLeastWrong : ChangeSpec := { name := "fnDiverseLeast", fn := fun _ => fun
  | [d] => { results := [.lit (.bool false)], args := [d] }
  | _ => none }
def FnDiverseLeastWrongFalsely : Prop := fnDiverseLeastRow.holds Try.pinned (OpenSpec.ofChange fnDiverseLeastWrong)

/-- 'laws.FnGroupOrder': WHATEVER THE INPUT: true; the input reads as it did. -/
def fnGroupOrderSpec : ChangeSpec := { name := "fnGroupOrder", fn := fun _ => fun
  | [d1, d2] => { results := [.lit (.bool true)], args := [d1, d2] }
  | _ => none }
def fnGroupOrderRow : OpenClaim := { program := "ytljjaanohcibcaa", sum := "c47b73ebdb6acd5e2444dc595fbbe3008036368ff57235e2f17a9efd3df36422", func := "loop.example/disclosurecontrol/laws.FnGroupOrder", spec := "fnGroupOrder", plainKeys := false, apart := false }
def FnGroupOrderSaid : Prop := fnGroupOrderRow.holds Try.pinned (OpenSpec.ofChange fnGroupOrderSpec)

/-- ITS FALSE NEIGHBOUR: 'it returns false'. Refute it at one input. -/
def fnGroupOrderWrong : ChangeSpec := { name := "fnGroupOrder", fn := fun _ => fun
  | [d1, d2] => { results := [.lit (.bool false)], args := [d1, d2] }
  | _ => none }
def FnGroupOrderWrongFalsely : Prop := fnGroupOrderRow.holds Try.pinned (OpenSpec.ofChange fnGroupOrderWrong)

/-- 'laws.FnUniquesAll': WHATEVER THE INPUT: true; the input reads as it did. -/
def fnUniquesAllSpec : ChangeSpec := { name := "fnUniquesAll", fn := fun _ => fun
  | [d] => { results := [.lit (.bool true)], args := [d] }
  | _ => none }
def fnUniquesAllRow : OpenClaim := { program := "ytljjaanohcibcaa", sum := "c47b73ebdb6acd5e2444dc595fbbe3008036368ff57235e2f17a9efd3df36422", func := "loop.example/disclosurecontrol/laws.FnUniquesAll", spec := "fnUniquesAll", plainKeys := false, apart := false }
def FnUniquesAllSaid : Prop := fnUniquesAllRow.holds Try.pinned (OpenSpec.ofChange fnUniquesAllSpec)

/-- ITS FALSE NEIGHBOUR: 'it returns false'. Refute it at one input. -/
def fnUniquesAllWrong : ChangeSpec := { name := "fnUniquesAll", fn := fun _ => fun
  | [d] => { results := [.lit (.bool false)], args := [d] }
  | _ => none }
def FnUniquesAllWrongFalsely : Prop := fnUniquesAllRow.holds Try.pinned (OpenSpec.ofChange fnUniquesAllWrong)

/-- 'laws.FnUniquesTwice': WHATEVER THE INPUT: true; the input reads as it did. -/
def fnUniquesTwiceSpec : ChangeSpec := { name := "fnUniquesTwice", fn := fun _ => fun
  | [d] => { results := [.lit (.bool true)], args := [d] }
  | _ => none }
def fnUniquesTwiceRow : OpenClaim := { program := "ytljjaanohcibcaa", sum := "c47b73ebdb6acd5e2444dc595fbbe3008036368ff57235e2f17a9efd3df36422", func := "loop.example/disclosurecontrol/laws.FnUniquesTwice", spec := "fnUniquesTwice", plainKeys := false, apart := false }
def FnUniquesTwiceSaid : Prop := fnUniquesTwiceRow.holds Try.pinned (OpenSpec.ofChange fnUniquesTwiceSpec)

/-- ITS FALSE NEIGHBOUR: 'it returns false'. Refute it at one input. -/
def fnUniquesTwiceWrong : ChangeSpec := { name := "fnUniquesTwice", fn := fun _ => fun
  | [d] => { results := [.lit (.bool false)], args := [d] }
  | _ => none }
def FnUniquesTwiceWrongFalsely : Prop := fnUniquesTwiceRow.holds Try.pinned (OpenSpec.ofChange fnUniquesTwiceWrong)

/-- 'laws.FnExactDiverseSize': WHATEVER THE INPUT: true; the input reads as it did. -/
def fnExactDiverseSizeSpec : ChangeSpec := { name := "fnExactDiverseSize", fn := fun _ => fun
  | [d1, d2, d3, d4] => { results := [.lit (.bool true)], args := [d1, d2, d3, d4] }
  | _ => none }
def fnExactDiverseSizeRow : OpenClaim := { program := "ytljjaanohcibcaa", sum := "c47b73ebdb6acd5e2444dc595fbbe3008036368ff57235e2f17a9efd3df36422", func := "loop.example/disclosurecontrol/laws.FnExactDiverseSize", spec := "fnExactDiverseSize", unfollowed := true, recurses := true, plainKeys := false, apart := false }
def FnExactDiverseSizeSaid : Prop := fnExactDiverseSizeRow.holds Try.pinned (OpenSpec.ofChange fnExactDiverseSizeSpec)

/-- ITS FALSE NEIGHBOUR: 'it returns false'. Refute it at one input. -/
def fnExactDiverseSizeWrong : ChangeSpec := { name := "fnExactDiverseSize", fn := fun _ => fun
  | [d1, d2, d3, d4] => { results := [.lit (.bool false)], args := [d1, d2, d3, d4] }
  | _ => none }
def FnExactDiverseSizeWrongFalsely : Prop := fnExactDiverseSizeRow.holds Try.pinned (OpenSpec.ofChange fnExactDiverseSizeWrong)

/-- 'laws.FnDiverseAdd': WHATEVER THE INPUT: true; the input reads as it did. -/
def fnDiverseAddSpec : ChangeSpec := { name := "fnDiverseAdd", fn := fun _ => fun
  | [d1, d2] => { results := [.lit (.bool true)], args := [d1, d2] }
  | _ => none }
def fnDiverseAddRow : OpenClaim := { program := "ytljjaanohcibcaa", sum := "c47b73ebdb6acd5e2444dc595fbbe3008036368ff57235e2f17a9efd3df36422", func := "loop.example/disclosurecontrol/laws.FnDiverseAdd", spec := "fnDiverseAdd", unfollowed := true, recurses := true, plainKeys := false, apart := false }
def FnDiverseAddSaid : Prop := fnDiverseAddRow.holds Try.pinned (OpenSpec.ofChange fnDiverseAddSpec)

/-- ITS FALSE NEIGHBOUR: 'it returns false'. Refute it at one input. -/
def fnDiverseAddWrong : ChangeSpec := { name := "fnDiverseAdd", fn := fun _ => fun
  | [d1, d2] => { results := [.lit (.bool false)], args := [d1, d2] }
  | _ => none }
def FnDiverseAddWrongFalsely : Prop := fnDiverseAddRow.holds Try.pinned (OpenSpec.ofChange fnDiverseAddWrong)

/-- 'laws.FnUniques': WHATEVER THE INPUT: true; the input reads as it did. -/
def fnUniquesSpec : ChangeSpec := { name := "fnUniques", fn := fun _ => fun
  | [d] => { results := [.lit (.bool true)], args := [d] }
  | _ => none }
def fnUniquesRow : OpenClaim := { program := "ytljjaanohcibcaa", sum := "c47b73ebdb6acd5e2444dc595fbbe3008036368ff57235e2f17a9efd3df36422", func := "loop.example/disclosurecontrol/laws.FnUniques", spec := "fnUniques", plainKeys := false, apart := false }
def FnUniquesSaid : Prop := fnUniquesRow.holds Try.pinned (OpenSpec.ofChange fnUniquesSpec)

/-- ITS FALSE NEIGHBOUR: 'it returns false'. Refute it at one input. -/
def fnUniquesWrong : ChangeSpec := { name := "fnUniques", fn := fun _ => fun
  | [d] => { results := [.lit (.bool false)], args := [d] }
  | _ => none }
def FnUniquesWrongFalsely : Prop := fnUniquesRow.holds Try.pinned (OpenSpec.ofChange fnUniquesWrong)

/-- 'laws.FnExactDiverseFar': WHATEVER THE INPUT: true; the input reads as it did. -/
def fnExactDiverseFarSpec : ChangeSpec := { name := "fnExactDiverseFar", fn := fun _ => fun
  | [d1, d2, d3, d4] => { results := [.lit (.bool true)], args := [d1, d2, d3, d4] }
  | _ => none }
def fnExactDiverseFarRow : OpenClaim := { program := "ytljjaanohcibcaa", sum := "c47b73ebdb6acd5e2444dc595fbbe3008036368ff57235e2f17a9efd3df36422", func := "loop.example/disclosurecontrol/laws.FnExactDiverseFar", spec := "fnExactDiverseFar", unfollowed := true, recurses := true, plainKeys := false, apart := false }
def FnExactDiverseFarSaid : Prop := fnExactDiverseFarRow.holds Try.pinned (OpenSpec.ofChange fnExactDiverseFarSpec)

/-- ITS FALSE NEIGHBOUR: 'it returns false'. Refute it at one input. -/
def fnExactDiverseFarWrong : ChangeSpec := { name := "fnExactDiverseFar", fn := fun _ => fun
  | [d1, d2, d3, d4] => { results := [.lit (.bool false)], args := [d1, d2, d3, d4] }
  | _ => none }
def FnExactDiverseFarWrongFalsely : Prop := fnExactDiverseFarRow.holds Try.pinned (OpenSpec.ofChange fnExactDiverseFarWrong)

/-- 'laws.FnExactDiverseOk': WHATEVER THE INPUT: true; the input reads as it did. -/
def fnExactDiverseOkSpec : ChangeSpec := { name := "fnExactDiverseOk", fn := fun _ => fun
  | [d1, d2, d3, d4, d5] => { results := [.lit (.bool true)], args := [d1, d2, d3, d4, d5] }
  | _ => none }
def fnExactDiverseOkRow : OpenClaim := { program := "ytljjaanohcibcaa", sum := "c47b73ebdb6acd5e2444dc595fbbe3008036368ff57235e2f17a9efd3df36422", func := "loop.example/disclosurecontrol/laws.FnExactDiverseOk", spec := "fnExactDiverseOk", unfollowed := true, recurses := true, plainKeys := false, apart := false }
def FnExactDiverseOkSaid : Prop := fnExactDiverseOkRow.holds Try.pinned (OpenSpec.ofChange fnExactDiverseOkSpec)

/-- ITS FALSE NEIGHBOUR: 'it returns false'. Refute it at one input. -/
def fnExactDiverseOkWrong : ChangeSpec := { name := "fnExactDiverseOk", fn := fun _ => fun
  | [d1, d2, d3, d4, d5] => { results := [.lit (.bool false)], args := [d1, d2, d3, d4, d5] }
  | _ => none }
def FnExactDiverseOkWrongFalsely : Prop := fnExactDiverseOkRow.holds Try.pinned (OpenSpec.ofChange fnExactDiverseOkWrong)

/- THE SECOND FORM. 'bulk': how many values and letters a reading holds, each counted each time it is reached (what is shared counts as often as it is met; a slice's spare places count too). A statement '..UptoSaid' is the law's where the arguments, and the package variables that the reading takes, are together of bulk at most 1048576: NARROWER than '..Said'. Prove '..Said' where nothing that the law and all that it calls make is longer than what came in: it says more and counts as full. Else prove '..UptoSaid'. A law counts once. -/
mutual
def uptoBulk {H : Type} : DataW H → Nat
  | .lit (.string bytes) => bytes.length + 1
  | .lit _ => 1
  | .nil => 1
  | .ptr d => uptoBulk d + 1
  | .slice elems spare => uptoBulkAll elems + uptoBulkAll spare + 1
  | .agg parts => uptoBulkAll parts + 1
  | .iface _ d => uptoBulk d + 1
  | .map entries => uptoBulkEntries entries + 1
  | .held _ => 1
def uptoBulkAll {H : Type} : List (DataW H) → Nat
  | [] => 0
  | d :: r => uptoBulk d + uptoBulkAll r
def uptoBulkEntries {H : Type} : List (Lit × DataW H) → Nat
  | [] => 0
  | x :: r => uptoBulkEntry x + uptoBulkEntries r
def uptoBulkEntry {H : Type} : Lit × DataW H → Nat
  | (.string bytes, d) => bytes.length + uptoBulk d + 1
  | (_, d) => uptoBulk d + 1
 end
def uptoSmall : (H : Type) → List (DataW H) → Bool := fun _ ds => decide (uptoBulkAll ds ≤ 1048576)
def OpenSpec.upto (s : _root_.Go.ChangeSpec) : _root_.Go.OpenSpec := { _root_.Go.OpenSpec.ofChange s with cond := some uptoSmall }

/-- 'laws.FnDrop', WHERE WHAT IT READS IS OF BULK AT MOST 1048576: true; the input reads as it did. -/
def fnDropUptoRow : OpenClaim := { program := "ytljjaanohcibcaa", sum := "c47b73ebdb6acd5e2444dc595fbbe3008036368ff57235e2f17a9efd3df36422", func := "loop.example/disclosurecontrol/laws.FnDrop", spec := "fnDrop", plainKeys := false, apart := false, narrowed := true }
def FnDropUptoSaid : Prop := fnDropUptoRow.holds Try.pinned (OpenSpec.upto fnDropSpec)

/-- 'laws.FnAnonOkCoarser', WHERE WHAT IT READS IS OF BULK AT MOST 1048576: true; the input reads as it did. -/
def fnAnonOkCoarserUptoRow : OpenClaim := { program := "ytljjaanohcibcaa", sum := "c47b73ebdb6acd5e2444dc595fbbe3008036368ff57235e2f17a9efd3df36422", func := "loop.example/disclosurecontrol/laws.FnAnonOkCoarser", spec := "fnAnonOkCoarser", plainKeys := false, apart := false, narrowed := true }
def FnAnonOkCoarserUptoSaid : Prop := fnAnonOkCoarserUptoRow.holds Try.pinned (OpenSpec.upto fnAnonOkCoarserSpec)

/-- 'laws.FnExactDiverseLeast', WHERE WHAT IT READS IS OF BULK AT MOST 1048576: true; the input reads as it did. -/
def fnExactDiverseLeastUptoRow : OpenClaim := { program := "ytljjaanohcibcaa", sum := "c47b73ebdb6acd5e2444dc595fbbe3008036368ff57235e2f17a9efd3df36422", func := "loop.example/disclosurecontrol/laws.FnExactDiverseLeast", spec := "fnExactDiverseLeast", unfollowed := true, recurses := true, plainKeys := false, apart := false, narrowed := true }
def FnExactDiverseLeastUptoSaid : Prop := fnExactDiverseLeastUptoRow.holds Try.pinned (OpenSpec.upto fnExactDiverseLeastSpec)

/-- 'laws.FnDiverseLeast', WHERE WHAT IT READS IS OF BULK AT MOST 1048576: true; the input reads as it did. -/
def fnDiverseLeastUptoRow : OpenClaim := { program := "ytljjaanohcibcaa", sum := "c47b73ebdb6acd5e2444dc595fbbe3008036368ff57235e2f17a9efd3df36422", func := "loop.example/disclosurecontrol/laws.FnDiverseLeast", spec := "fnDiverseLeast", unfollowed := true, recurses := true, plainKeys := false, apart := false, narrowed := true }
def FnDiverseLeastUptoSaid : Prop := fnDiverseLeastUptoRow.holds Try.pinned (OpenSpec.upto fnDiverseLeastSpec)

/-- 'laws.FnGroupOrder', WHERE WHAT IT READS IS OF BULK AT MOST 1048576: true; the input reads as it did. -/
def fnGroupOrderUptoRow : OpenClaim := { program := "ytljjaanohcibcaa", sum := "c47b73ebdb6acd5e2444dc595fbbe3008036368ff57235e2f17a9efd3df36422", func := "loop.example/disclosurecontrol/laws.FnGroupOrder", spec := "fnGroupOrder", plainKeys := false, apart := false, narrowed := true }
def FnGroupOrderUptoSaid : Prop := fnGroupOrderUptoRow.holds Try.pinned (OpenSpec.upto fnGroupOrderSpec)

/-- 'laws.FnUniquesAll', WHERE WHAT IT READS IS OF BULK AT MOST 1048576: true; the input reads as it did. -/
def fnUniquesAllUptoRow : OpenClaim := { program := "ytljjaanohcibcaa", sum := "c47b73ebdb6acd5e2444dc595fbbe3008036368ff57235e2f17a9efd3df36422", func := "loop.example/disclosurecontrol/laws.FnUniquesAll", spec := "fnUniquesAll", plainKeys := false, apart := false, narrowed := true }
def FnUniquesAllUptoSaid : Prop := fnUniquesAllUptoRow.holds Try.pinned (OpenSpec.upto fnUniquesAllSpec)

/-- 'laws.FnUniquesTwice', WHERE WHAT IT READS IS OF BULK AT MOST 1048576: true; the input reads as it did. -/
def fnUniquesTwiceUptoRow : OpenClaim := { program := "ytljjaanohcibcaa", sum := "c47b73ebdb6acd5e2444dc595fbbe3008036368ff57235e2f17a9efd3df36422", func := "loop.example/disclosurecontrol/laws.FnUniquesTwice", spec := "fnUniquesTwice", plainKeys := false, apart := false, narrowed := true }
def FnUniquesTwiceUptoSaid : Prop := fnUniquesTwiceUptoRow.holds Try.pinned (OpenSpec.upto fnUniquesTwiceSpec)

/-- 'laws.FnExactDiverseSize', WHERE WHAT IT READS IS OF BULK AT MOST 1048576: true; the input reads as it did. -/
def fnExactDiverseSizeUptoRow : OpenClaim := { program := "ytljjaanohcibcaa", sum := "c47b73ebdb6acd5e2444dc595fbbe3008036368ff57235e2f17a9efd3df36422", func := "loop.example/disclosurecontrol/laws.FnExactDiverseSize", spec := "fnExactDiverseSize", unfollowed := true, recurses := true, plainKeys := false, apart := false, narrowed := true }
def FnExactDiverseSizeUptoSaid : Prop := fnExactDiverseSizeUptoRow.holds Try.pinned (OpenSpec.upto fnExactDiverseSizeSpec)

/-- 'laws.FnDiverseAdd', WHERE WHAT IT READS IS OF BULK AT MOST 1048576: true; the input reads as it did. -/
def fnDiverseAddUptoRow : OpenClaim := { program := "ytljjaanohcibcaa", sum := "c47b73ebdb6acd5e2444dc595fbbe3008036368ff57235e2f17a9efd3df36422", func := "loop.example/disclosurecontrol/laws.FnDiverseAdd", spec := "fnDiverseAdd", unfollowed := true, recurses := true, plainKeys := false, apart := false, narrowed := true }
def FnDiverseAddUptoSaid : Prop := fnDiverseAddUptoRow.holds Try.pinned (OpenSpec.upto fnDiverseAddSpec)

/-- 'laws.FnUniques', WHERE WHAT IT READS IS OF BULK AT MOST 1048576: true; the input reads as it did. -/
def fnUniquesUptoRow : OpenClaim := { program := "ytljjaanohcibcaa", sum := "c47b73ebdb6acd5e2444dc595fbbe3008036368ff57235e2f17a9efd3df36422", func := "loop.example/disclosurecontrol/laws.FnUniques", spec := "fnUniques", plainKeys := false, apart := false, narrowed := true }
def FnUniquesUptoSaid : Prop := fnUniquesUptoRow.holds Try.pinned (OpenSpec.upto fnUniquesSpec)

/-- 'laws.FnExactDiverseFar', WHERE WHAT IT READS IS OF BULK AT MOST 1048576: true; the input reads as it did. -/
def fnExactDiverseFarUptoRow : OpenClaim := { program := "ytljjaanohcibcaa", sum := "c47b73ebdb6acd5e2444dc595fbbe3008036368ff57235e2f17a9efd3df36422", func := "loop.example/disclosurecontrol/laws.FnExactDiverseFar", spec := "fnExactDiverseFar", unfollowed := true, recurses := true, plainKeys := false, apart := false, narrowed := true }
def FnExactDiverseFarUptoSaid : Prop := fnExactDiverseFarUptoRow.holds Try.pinned (OpenSpec.upto fnExactDiverseFarSpec)

/-- 'laws.FnExactDiverseOk', WHERE WHAT IT READS IS OF BULK AT MOST 1048576: true; the input reads as it did. -/
def fnExactDiverseOkUptoRow : OpenClaim := { program := "ytljjaanohcibcaa", sum := "c47b73ebdb6acd5e2444dc595fbbe3008036368ff57235e2f17a9efd3df36422", func := "loop.example/disclosurecontrol/laws.FnExactDiverseOk", spec := "fnExactDiverseOk", unfollowed := true, recurses := true, plainKeys := false, apart := false, narrowed := true }
def FnExactDiverseOkUptoSaid : Prop := fnExactDiverseOkUptoRow.holds Try.pinned (OpenSpec.upto fnExactDiverseOkSpec)

end Rows
end Go.Proofs.Ytljjaanohcibcaa
