/-
  No cell of these rows narrows 'for every input' (looked for: loops, veiled, ifaces, maps, wideKeys, modest, calm, conditions, laid).
  DERIVED. THE GIVEN ROWS OF THIS SEAT. 12 by the template 'for every input the law returns true; each argument reads behind the call as it read before'; 0 by the template 'total and deterministic' (their statements: YtaojjlhlahoocaaTotals.lean).
  GIVEN WITH THE SEED: the statements are not yours to turn. If you find one false, say at which input.
  Laid BY PROGRAM, IN A SANDBOX (cutbox-rows.mjs): the forced cells as the released guide's own fill.sh prints them over the translation 4bc74c8eee7a28af… (all of the seat's roots in one cut). By AI agents, Wed Nov 11 2026. No macro, syntax, notation, axiom, sorry.
-/
import Derived.Test.YtaojjlhlahoocaaChecked
import GoSem.Claim
import GoSem.ClaimJoined
import GoSem.ClaimMapViews
import Derived.JoinedTies
import Derived.KernelRfl
namespace Go.Proofs.Ytaojjlhlahoocaa
/- THE CELL 'sum', in the pinned program and in every row, IS THE sha256 OF THE DUMP (.gsa) THAT YtaojjlhlahoocaaProg.lean LOADS. Nothing in Lean hashes anything: it is a label: what it is worth is what the hold of that sum in a sandbox is worth. -/
noncomputable def Try.pinned : Pinned := { name := "ytaojjlhlahoocaa", sum := "4bc74c8eee7a28afe093b4f357226468d2fe868d8b61f6efb4a9f13b0e8eec89", checked := Try.checked }
namespace Rows
def none {H : Type} : Left H := { results := [], args := [] }

/-- 'laws.FnKeepLess': WHATEVER THE INPUT: true; the input reads as it did. -/
def fnKeepLessSpec : ChangeSpec := { name := "fnKeepLess", fn := fun _ => fun
  | [d] => { results := [.lit (.bool true)], args := [d] }
  | _ => none }
def fnKeepLessRow : OpenClaim := { program := "ytaojjlhlahoocaa", sum := "4bc74c8eee7a28afe093b4f357226468d2fe868d8b61f6efb4a9f13b0e8eec89", func := "loop.example/disclosurecontrol/laws.FnKeepLess", spec := "fnKeepLess", plainKeys := false, apart := false }
def FnKeepLessSaid : Prop := fnKeepLessRow.holds Try.pinned (OpenSpec.ofChange fnKeepLessSpec)

/-- ITS FALSE NEIGHBOUR: 'it returns false'. Refute it at one input. -/
def fnKeepLessWrong : ChangeSpec := { name := "fnKeepLess", fn := fun _ => fun
  | [d] => { results := [.lit (.bool false)], args := [d] }
  | _ => none }
def FnKeepLessWrongFalsely : Prop := fnKeepLessRow.holds Try.pinned (OpenSpec.ofChange fnKeepLessWrong)

/-- 'laws.FnKeepPeople': WHATEVER THE INPUT: true; the input reads as it did. -/
def fnKeepPeopleSpec : ChangeSpec := { name := "fnKeepPeople", fn := fun _ => fun
  | [d] => { results := [.lit (.bool true)], args := [d] }
  | _ => none }
def fnKeepPeopleRow : OpenClaim := { program := "ytaojjlhlahoocaa", sum := "4bc74c8eee7a28afe093b4f357226468d2fe868d8b61f6efb4a9f13b0e8eec89", func := "loop.example/disclosurecontrol/laws.FnKeepPeople", spec := "fnKeepPeople", plainKeys := false, apart := false }
def FnKeepPeopleSaid : Prop := fnKeepPeopleRow.holds Try.pinned (OpenSpec.ofChange fnKeepPeopleSpec)

/-- ITS FALSE NEIGHBOUR: 'it returns false'. Refute it at one input. -/
def fnKeepPeopleWrong : ChangeSpec := { name := "fnKeepPeople", fn := fun _ => fun
  | [d] => { results := [.lit (.bool false)], args := [d] }
  | _ => none }
def FnKeepPeopleWrongFalsely : Prop := fnKeepPeopleRow.holds Try.pinned (OpenSpec.ofChange fnKeepPeopleWrong)

/-- 'laws.FnAnonJoin': WHATEVER THE INPUT: true; the input reads as it did. -/
def fnAnonJoinSpec : ChangeSpec := { name := "fnAnonJoin", fn := fun _ => fun
  | [d] => { results := [.lit (.bool true)], args := [d] }
  | _ => none }
def fnAnonJoinRow : OpenClaim := { program := "ytaojjlhlahoocaa", sum := "4bc74c8eee7a28afe093b4f357226468d2fe868d8b61f6efb4a9f13b0e8eec89", func := "loop.example/disclosurecontrol/laws.FnAnonJoin", spec := "fnAnonJoin", plainKeys := false, apart := false }
def FnAnonJoinSaid : Prop := fnAnonJoinRow.holds Try.pinned (OpenSpec.ofChange fnAnonJoinSpec)

/-- ITS FALSE NEIGHBOUR: 'it returns false'. Refute it at one input. -/
def fnAnonJoinWrong : ChangeSpec := { name := "fnAnonJoin", fn := fun _ => fun
  | [d] => { results := [.lit (.bool false)], args := [d] }
  | _ => none }
def FnAnonJoinWrongFalsely : Prop := fnAnonJoinRow.holds Try.pinned (OpenSpec.ofChange fnAnonJoinWrong)

/-- 'laws.FnAnonOk': WHATEVER THE INPUT: true; the input reads as it did. -/
def fnAnonOkSpec : ChangeSpec := { name := "fnAnonOk", fn := fun _ => fun
  | [d1, d2] => { results := [.lit (.bool true)], args := [d1, d2] }
  | _ => none }
def fnAnonOkRow : OpenClaim := { program := "ytaojjlhlahoocaa", sum := "4bc74c8eee7a28afe093b4f357226468d2fe868d8b61f6efb4a9f13b0e8eec89", func := "loop.example/disclosurecontrol/laws.FnAnonOk", spec := "fnAnonOk", plainKeys := false, apart := false }
def FnAnonOkSaid : Prop := fnAnonOkRow.holds Try.pinned (OpenSpec.ofChange fnAnonOkSpec)

/-- ITS FALSE NEIGHBOUR: 'it returns false'. Refute it at one input. -/
def fnAnonOkWrong : ChangeSpec := { name := "fnAnonOk", fn := fun _ => fun
  | [d1, d2] => { results := [.lit (.bool false)], args := [d1, d2] }
  | _ => none }
def FnAnonOkWrongFalsely : Prop := fnAnonOkRow.holds Try.pinned (OpenSpec.ofChange fnAnonOkWrong)

/-- 'laws.FnFarTwice': WHATEVER THE INPUT: true; the input reads as it did. -/
def fnFarTwiceSpec : ChangeSpec := { name := "fnFarTwice", fn := fun _ => fun
  | [d] => { results := [.lit (.bool true)], args := [d] }
  | _ => none }
def fnFarTwiceRow : OpenClaim := { program := "ytaojjlhlahoocaa", sum := "4bc74c8eee7a28afe093b4f357226468d2fe868d8b61f6efb4a9f13b0e8eec89", func := "loop.example/disclosurecontrol/laws.FnFarTwice", spec := "fnFarTwice", unfollowed := true, recurses := true, plainKeys := false, apart := false }
def FnFarTwiceSaid : Prop := fnFarTwiceRow.holds Try.pinned (OpenSpec.ofChange fnFarTwiceSpec)

/-- ITS FALSE NEIGHBOUR: 'it returns false'. Refute it at one input. -/
def fnFarTwiceWrong : ChangeSpec := { name := "fnFarTwice", fn := fun _ => fun
  | [d] => { results := [.lit (.bool false)], args := [d] }
  | _ => none }
def FnFarTwiceWrongFalsely : Prop := fnFarTwiceRow.holds Try.pinned (OpenSpec.ofChange fnFarTwiceWrong)

/-- 'laws.FnKeep': WHATEVER THE INPUT: true; the input reads as it did. -/
def fnKeepSpec : ChangeSpec := { name := "fnKeep", fn := fun _ => fun
  | [d] => { results := [.lit (.bool true)], args := [d] }
  | _ => none }
def fnKeepRow : OpenClaim := { program := "ytaojjlhlahoocaa", sum := "4bc74c8eee7a28afe093b4f357226468d2fe868d8b61f6efb4a9f13b0e8eec89", func := "loop.example/disclosurecontrol/laws.FnKeep", spec := "fnKeep", plainKeys := false, apart := false }
def FnKeepSaid : Prop := fnKeepRow.holds Try.pinned (OpenSpec.ofChange fnKeepSpec)

/-- ITS FALSE NEIGHBOUR: 'it returns false'. Refute it at one input. -/
def fnKeepWrong : ChangeSpec := { name := "fnKeep", fn := fun _ => fun
  | [d] => { results := [.lit (.bool false)], args := [d] }
  | _ => none }
def FnKeepWrongFalsely : Prop := fnKeepRow.holds Try.pinned (OpenSpec.ofChange fnKeepWrong)

/-- 'laws.FnDiverse': WHATEVER THE INPUT: true; the input reads as it did. -/
def fnDiverseSpec : ChangeSpec := { name := "fnDiverse", fn := fun _ => fun
  | [d] => { results := [.lit (.bool true)], args := [d] }
  | _ => none }
def fnDiverseRow : OpenClaim := { program := "ytaojjlhlahoocaa", sum := "4bc74c8eee7a28afe093b4f357226468d2fe868d8b61f6efb4a9f13b0e8eec89", func := "loop.example/disclosurecontrol/laws.FnDiverse", spec := "fnDiverse", unfollowed := true, recurses := true, plainKeys := false, apart := false }
def FnDiverseSaid : Prop := fnDiverseRow.holds Try.pinned (OpenSpec.ofChange fnDiverseSpec)

/-- ITS FALSE NEIGHBOUR: 'it returns false'. Refute it at one input. -/
def fnDiverseWrong : ChangeSpec := { name := "fnDiverse", fn := fun _ => fun
  | [d] => { results := [.lit (.bool false)], args := [d] }
  | _ => none }
def FnDiverseWrongFalsely : Prop := fnDiverseRow.holds Try.pinned (OpenSpec.ofChange fnDiverseWrong)

/-- 'laws.FnFar': WHATEVER THE INPUT: true; the input reads as it did. -/
def fnFarSpec : ChangeSpec := { name := "fnFar", fn := fun _ => fun
  | [d] => { results := [.lit (.bool true)], args := [d] }
  | _ => none }
def fnFarRow : OpenClaim := { program := "ytaojjlhlahoocaa", sum := "4bc74c8eee7a28afe093b4f357226468d2fe868d8b61f6efb4a9f13b0e8eec89", func := "loop.example/disclosurecontrol/laws.FnFar", spec := "fnFar", unfollowed := true, recurses := true, plainKeys := false, apart := false }
def FnFarSaid : Prop := fnFarRow.holds Try.pinned (OpenSpec.ofChange fnFarSpec)

/-- ITS FALSE NEIGHBOUR: 'it returns false'. Refute it at one input. -/
def fnFarWrong : ChangeSpec := { name := "fnFar", fn := fun _ => fun
  | [d] => { results := [.lit (.bool false)], args := [d] }
  | _ => none }
def FnFarWrongFalsely : Prop := fnFarRow.holds Try.pinned (OpenSpec.ofChange fnFarWrong)

/-- 'laws.FnKeepGroups': WHATEVER THE INPUT: true; the input reads as it did. -/
def fnKeepGroupsSpec : ChangeSpec := { name := "fnKeepGroups", fn := fun _ => fun
  | [d] => { results := [.lit (.bool true)], args := [d] }
  | _ => none }
def fnKeepGroupsRow : OpenClaim := { program := "ytaojjlhlahoocaa", sum := "4bc74c8eee7a28afe093b4f357226468d2fe868d8b61f6efb4a9f13b0e8eec89", func := "loop.example/disclosurecontrol/laws.FnKeepGroups", spec := "fnKeepGroups", plainKeys := false, apart := false }
def FnKeepGroupsSaid : Prop := fnKeepGroupsRow.holds Try.pinned (OpenSpec.ofChange fnKeepGroupsSpec)

/-- ITS FALSE NEIGHBOUR: 'it returns false'. Refute it at one input. -/
def fnKeepGroupsWrong : ChangeSpec := { name := "fnKeepGroups", fn := fun _ => fun
  | [d] => { results := [.lit (.bool false)], args := [d] }
  | _ => none }
def FnKeepGroupsWrongFalsely : Prop := fnKeepGroupsRow.holds Try.pinned (OpenSpec.ofChange fnKeepGroupsWrong)

/-- 'laws.FnDiverseOne': WHATEVER THE INPUT: true; the input reads as it did. -/
def fnDiverseOneSpec : ChangeSpec := { name := "fnDiverseOne", fn := fun _ => fun
  | [d] => { results := [.lit (.bool true)], args := [d] }
  | _ => none }
def fnDiverseOneRow : OpenClaim := { program := "ytaojjlhlahoocaa", sum := "4bc74c8eee7a28afe093b4f357226468d2fe868d8b61f6efb4a9f13b0e8eec89", func := "loop.example/disclosurecontrol/laws.FnDiverseOne", spec := "fnDiverseOne", unfollowed := true, recurses := true, plainKeys := false, apart := false }
def FnDiverseOneSaid : Prop := fnDiverseOneRow.holds Try.pinned (OpenSpec.ofChange fnDiverseOneSpec)

/-- ITS FALSE NEIGHBOUR: 'it returns false'. Refute it at one input. -/
def fnDiverseOneWrong : ChangeSpec := { name := "fnDiverseOne", fn := fun _ => fun
  | [d] => { results := [.lit (.bool false)], args := [d] }
  | _ => none }
def FnDiverseOneWrongFalsely : Prop := fnDiverseOneRow.holds Try.pinned (OpenSpec.ofChange fnDiverseOneWrong)

/-- 'laws.FnDiverseSame': WHATEVER THE INPUT: true; the input reads as it did. -/
def fnDiverseSameSpec : ChangeSpec := { name := "fnDiverseSame", fn := fun _ => fun
  | [d] => { results := [.lit (.bool true)], args := [d] }
  | _ => none }
def fnDiverseSameRow : OpenClaim := { program := "ytaojjlhlahoocaa", sum := "4bc74c8eee7a28afe093b4f357226468d2fe868d8b61f6efb4a9f13b0e8eec89", func := "loop.example/disclosurecontrol/laws.FnDiverseSame", spec := "fnDiverseSame", unfollowed := true, recurses := true, plainKeys := false, apart := false }
def FnDiverseSameSaid : Prop := fnDiverseSameRow.holds Try.pinned (OpenSpec.ofChange fnDiverseSameSpec)

/-- ITS FALSE NEIGHBOUR: 'it returns false'. Refute it at one input. -/
def fnDiverseSameWrong : ChangeSpec := { name := "fnDiverseSame", fn := fun _ => fun
  | [d] => { results := [.lit (.bool false)], args := [d] }
  | _ => none }
def FnDiverseSameWrongFalsely : Prop := fnDiverseSameRow.holds Try.pinned (OpenSpec.ofChange fnDiverseSameWrong)

/-- 'laws.FnFarAll': WHATEVER THE INPUT: true; the input reads as it did. -/
def fnFarAllSpec : ChangeSpec := { name := "fnFarAll", fn := fun _ => fun
  | [d] => { results := [.lit (.bool true)], args := [d] }
  | _ => none }
def fnFarAllRow : OpenClaim := { program := "ytaojjlhlahoocaa", sum := "4bc74c8eee7a28afe093b4f357226468d2fe868d8b61f6efb4a9f13b0e8eec89", func := "loop.example/disclosurecontrol/laws.FnFarAll", spec := "fnFarAll", unfollowed := true, recurses := true, plainKeys := false, apart := false }
def FnFarAllSaid : Prop := fnFarAllRow.holds Try.pinned (OpenSpec.ofChange fnFarAllSpec)

/-- ITS FALSE NEIGHBOUR: 'it returns false'. Refute it at one input. -/
def fnFarAllWrong : ChangeSpec := { name := "fnFarAll", fn := fun _ => fun
  | [d] => { results := [.lit (.bool false)], args := [d] }
  | _ => none }
def FnFarAllWrongFalsely : Prop := fnFarAllRow.holds Try.pinned (OpenSpec.ofChange fnFarAllWrong)

/- THE SECOND FORM. 'bulk': how many values and letters a reading holds, each counted each time it is reached (what is shared counts as often as it is met; a slice's spare places count too). A statement '..UptoSaid' is the law's where the arguments, and the package variables that the reading takes, are together of bulk at most 1048576: NARROWER than '..Said'. Prove '..Said' where nothing that the law and all that it calls make is longer than what came in: it says more and counts as full. Else prove '..UptoSaid'. A law counts once. -/
mutual
def uptoBulk {H : Type} : DataW H → Nat
  | .lit (.string bytes) => bytes.length + 1
  | .lit _ => 1
  | .nil => 1
  | .ptr d => uptoBulk d + 1
  | .slice elems spare => uptoBulkAll elems + uptoBulkAll spare + 1
  | .agg parts => uptoBulkAll parts + 1
  | .iface _ d => uptoBulk d + 1
  | .map entries => uptoBulkEntries entries + 1
  | .held _ => 1
def uptoBulkAll {H : Type} : List (DataW H) → Nat
  | [] => 0
  | d :: r => uptoBulk d + uptoBulkAll r
def uptoBulkEntries {H : Type} : List (Lit × DataW H) → Nat
  | [] => 0
  | x :: r => uptoBulkEntry x + uptoBulkEntries r
def uptoBulkEntry {H : Type} : Lit × DataW H → Nat
  | (.string bytes, d) => bytes.length + uptoBulk d + 1
  | (_, d) => uptoBulk d + 1
 end
def uptoSmall : (H : Type) → List (DataW H) → Bool := fun _ ds => decide (uptoBulkAll ds ≤ 1048576)
def OpenSpec.upto (s : _root_.Go.ChangeSpec) : _root_.Go.OpenSpec := { _root_.Go.OpenSpec.ofChange s with cond := some uptoSmall }

/-- 'laws.FnKeepLess', WHERE WHAT IT READS IS OF BULK AT MOST 1048576: true; the input reads as it did. -/
def fnKeepLessUptoRow : OpenClaim := { program := "ytaojjlhlahoocaa", sum := "4bc74c8eee7a28afe093b4f357226468d2fe868d8b61f6efb4a9f13b0e8eec89", func := "loop.example/disclosurecontrol/laws.FnKeepLess", spec := "fnKeepLess", plainKeys := false, apart := false, narrowed := true }
def FnKeepLessUptoSaid : Prop := fnKeepLessUptoRow.holds Try.pinned (OpenSpec.upto fnKeepLessSpec)

/-- 'laws.FnKeepPeople', WHERE WHAT IT READS IS OF BULK AT MOST 1048576: true; the input reads as it did. -/
def fnKeepPeopleUptoRow : OpenClaim := { program := "ytaojjlhlahoocaa", sum := "4bc74c8eee7a28afe093b4f357226468d2fe868d8b61f6efb4a9f13b0e8eec89", func := "loop.example/disclosurecontrol/laws.FnKeepPeople", spec := "fnKeepPeople", plainKeys := false, apart := false, narrowed := true }
def FnKeepPeopleUptoSaid : Prop := fnKeepPeopleUptoRow.holds Try.pinned (OpenSpec.upto fnKeepPeopleSpec)

/-- 'laws.FnAnonJoin', WHERE WHAT IT READS IS OF BULK AT MOST 1048576: true; the input reads as it did. -/
def fnAnonJoinUptoRow : OpenClaim := { program := "ytaojjlhlahoocaa", sum := "4bc74c8eee7a28afe093b4f357226468d2fe868d8b61f6efb4a9f13b0e8eec89", func := "loop.example/disclosurecontrol/laws.FnAnonJoin", spec := "fnAnonJoin", plainKeys := false, apart := false, narrowed := true }
def FnAnonJoinUptoSaid : Prop := fnAnonJoinUptoRow.holds Try.pinned (OpenSpec.upto fnAnonJoinSpec)

/-- 'laws.FnAnonOk', WHERE WHAT IT READS IS OF BULK AT MOST 1048576: true; the input reads as it did. -/
def fnAnonOkUptoRow : OpenClaim := { program := "ytaojjlhlahoocaa", sum := "4bc74c8eee7a28afe093b4f357226468d2fe868d8b61f6efb4a9f13b0e8eec89", func := "loop.example/disclosurecontrol/laws.FnAnonOk", spec := "fnAnonOk", plainKeys := false, apart := false, narrowed := true }
def FnAnonOkUptoSaid : Prop := fnAnonOkUptoRow.holds Try.pinned (OpenSpec.upto fnAnonOkSpec)

/-- 'laws.FnFarTwice', WHERE WHAT IT READS IS OF BULK AT MOST 1048576: true; the input reads as it did. -/
def fnFarTwiceUptoRow : OpenClaim := { program := "ytaojjlhlahoocaa", sum := "4bc74c8eee7a28afe093b4f357226468d2fe868d8b61f6efb4a9f13b0e8eec89", func := "loop.example/disclosurecontrol/laws.FnFarTwice", spec := "fnFarTwice", unfollowed := true, recurses := true, plainKeys := false, apart := false, narrowed := true }
def FnFarTwiceUptoSaid : Prop := fnFarTwiceUptoRow.holds Try.pinned (OpenSpec.upto fnFarTwiceSpec)

/-- 'laws.FnKeep', WHERE WHAT IT READS IS OF BULK AT MOST 1048576: true; the input reads as it did. -/
def fnKeepUptoRow : OpenClaim := { program := "ytaojjlhlahoocaa", sum := "4bc74c8eee7a28afe093b4f357226468d2fe868d8b61f6efb4a9f13b0e8eec89", func := "loop.example/disclosurecontrol/laws.FnKeep", spec := "fnKeep", plainKeys := false, apart := false, narrowed := true }
def FnKeepUptoSaid : Prop := fnKeepUptoRow.holds Try.pinned (OpenSpec.upto fnKeepSpec)

/-- 'laws.FnDiverse', WHERE WHAT IT READS IS OF BULK AT MOST 1048576: true; the input reads as it did. -/
def fnDiverseUptoRow : OpenClaim := { program := "ytaojjlhlahoocaa", sum := "4bc74c8eee7a28afe093b4f357226468d2fe868d8b61f6efb4a9f13b0e8eec89", func := "loop.example/disclosurecontrol/laws.FnDiverse", spec := "fnDiverse", unfollowed := true, recurses := true, plainKeys := false, apart := false, narrowed := true }
def FnDiverseUptoSaid : Prop := fnDiverseUptoRow.holds Try.pinned (OpenSpec.upto fnDiverseSpec)

/-- 'laws.FnFar', WHERE WHAT IT READS IS OF BULK AT MOST 1048576: true; the input reads as it did. -/
def fnFarUptoRow : OpenClaim := { program := "ytaojjlhlahoocaa", sum := "4bc74c8eee7a28afe093b4f357226468d2fe868d8b61f6efb4a9f13b0e8eec89", func := "loop.example/disclosurecontrol/laws.FnFar", spec := "fnFar", unfollowed := true, recurses := true, plainKeys := false, apart := false, narrowed := true }
def FnFarUptoSaid : Prop := fnFarUptoRow.holds Try.pinned (OpenSpec.upto fnFarSpec)

/-- 'laws.FnKeepGroups', WHERE WHAT IT READS IS OF BULK AT MOST 1048576: true; the input reads as it did. -/
def fnKeepGroupsUptoRow : OpenClaim := { program := "ytaojjlhlahoocaa", sum := "4bc74c8eee7a28afe093b4f357226468d2fe868d8b61f6efb4a9f13b0e8eec89", func := "loop.example/disclosurecontrol/laws.FnKeepGroups", spec := "fnKeepGroups", plainKeys := false, apart := false, narrowed := true }
def FnKeepGroupsUptoSaid : Prop := fnKeepGroupsUptoRow.holds Try.pinned (OpenSpec.upto fnKeepGroupsSpec)

/-- 'laws.FnDiverseOne', WHERE WHAT IT READS IS OF BULK AT MOST 1048576: true; the input reads as it did. -/
def fnDiverseOneUptoRow : OpenClaim := { program := "ytaojjlhlahoocaa", sum := "4bc74c8eee7a28afe093b4f357226468d2fe868d8b61f6efb4a9f13b0e8eec89", func := "loop.example/disclosurecontrol/laws.FnDiverseOne", spec := "fnDiverseOne", unfollowed := true, recurses := true, plainKeys := false, apart := false, narrowed := true }
def FnDiverseOneUptoSaid : Prop := fnDiverseOneUptoRow.holds Try.pinned (OpenSpec.upto fnDiverseOneSpec)

/-- 'laws.FnDiverseSame', WHERE WHAT IT READS IS OF BULK AT MOST 1048576: true; the input reads as it did. -/
def fnDiverseSameUptoRow : OpenClaim := { program := "ytaojjlhlahoocaa", sum := "4bc74c8eee7a28afe093b4f357226468d2fe868d8b61f6efb4a9f13b0e8eec89", func := "loop.example/disclosurecontrol/laws.FnDiverseSame", spec := "fnDiverseSame", unfollowed := true, recurses := true, plainKeys := false, apart := false, narrowed := true }
def FnDiverseSameUptoSaid : Prop := fnDiverseSameUptoRow.holds Try.pinned (OpenSpec.upto fnDiverseSameSpec)

/-- 'laws.FnFarAll', WHERE WHAT IT READS IS OF BULK AT MOST 1048576: true; the input reads as it did. -/
def fnFarAllUptoRow : OpenClaim := { program := "ytaojjlhlahoocaa", sum := "4bc74c8eee7a28afe093b4f357226468d2fe868d8b61f6efb4a9f13b0e8eec89", func := "loop.example/disclosurecontrol/laws.FnFarAll", spec := "fnFarAll", unfollowed := true, recurses := true, plainKeys := false, apart := false, narrowed := true }
def FnFarAllUptoSaid : Prop := fnFarAllUptoRow.holds Try.pinned (OpenSpec.upto fnFarAllSpec)

end Rows
end Go.Proofs.Ytaojjlhlahoocaa
