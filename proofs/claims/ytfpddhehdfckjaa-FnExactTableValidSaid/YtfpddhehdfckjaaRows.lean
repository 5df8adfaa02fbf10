/-
  No cell of these rows narrows 'for every input' (looked for: loops, veiled, ifaces, maps, wideKeys, modest, calm, conditions, laid).
  DERIVED. THE GIVEN ROWS OF THIS SEAT. 12 by the template 'for every input the law returns true; each argument reads behind the call as it read before'; 0 by the template 'total and deterministic' (their statements: YtfpddhehdfckjaaTotals.lean).
  GIVEN WITH THE SEED: the statements are not yours to turn. If you find one false, say at which input.
  Laid BY PROGRAM, IN A SANDBOX (cutbox-rows.mjs): the forced cells as the released guide's own fill.sh prints them over the translation 1d836bfbafa76b7d… (all of the seat's roots in one cut). By AI agents, Wed Nov 11 2026. No macro, syntax, notation, axiom, sorry.
-/
import Derived.Test.YtfpddhehdfckjaaChecked
import GoSem.Claim
import GoSem.ClaimJoined
import GoSem.ClaimMapViews
import Derived.JoinedTies
import Derived.KernelRfl
namespace Go.Proofs.Ytfpddhehdfckjaa
/- THE CELL 'sum', in the pinned program and in every row, IS THE sha256 OF THE DUMP (.gsa) THAT YtfpddhehdfckjaaProg.lean LOADS. Nothing in Lean hashes anything: it is a label: what it is worth is what the hold of that sum in a sandbox is worth. -/
noncomputable def Try.pinned : Pinned := { name := "ytfpddhehdfckjaa", sum := "1d836bfbafa76b7d28b0a5d09048dc3c9030bc7380b8790cc57489c4c9423ff5", checked := Try.checked }
namespace Rows
def none {H : Type} : Left H := { results := [], args := [] }

/-- 'laws.FnExactTableValid': WHATEVER THE INPUT: true; the input reads as it did. -/
def fnExactTableValidSpec : ChangeSpec := { name := "fnExactTableValid", fn := fun _ => fun
  | [d] => { results := [.lit (.bool true)], args := [d] }
  | _ => none }
def fnExactTableValidRow : OpenClaim := { program := "ytfpddhehdfckjaa", sum := "1d836bfbafa76b7d28b0a5d09048dc3c9030bc7380b8790cc57489c4c9423ff5", func := "loop.example/disclosurecontrol/laws.FnExactTableValid", spec := "fnExactTableValid", plainKeys := false, apart := false }
def FnExactTableValidSaid : Prop := fnExactTableValidRow.holds Try.pinned (OpenSpec.ofChange fnExactTableValidSpec)

/-- ITS FALSE NEIGHBOUR: 'it returns false'. Refute it at one input. -/
def fnExactTableValidWrong : ChangeSpec := { name := "fnExactTableValid", fn := fun _ => fun
  | [d] => { results := [.lit (.bool false)], args := [d] }
  | _ => none }
def FnExactTableValidWrongFalsely : Prop := fnExactTableValidRow.holds Try.pinned (OpenSpec.ofChange fnExactTableValidWrong)

/-- 'laws.FnMaskMany': WHATEVER THE INPUT: true; the input reads as it did. -/
def fnMaskManySpec : ChangeSpec := { name := "fnMaskMany", fn := fun _ => fun
  | [d1, d2] => { results := [.lit (.bool true)], args := [d1, d2] }
  | _ => none }
def fnMaskManyRow : OpenClaim := { program := "ytfpddhehdfckjaa", sum := "1d836bfbafa76b7d28b0a5d09048dc3c9030bc7380b8790cc57489c4c9423ff5", func := "loop.example/disclosurecontrol/laws.FnMaskMany", spec := "fnMaskMany", plainKeys := false, apart := false }
def FnMaskManySaid : Prop := fnMaskManyRow.holds Try.pinned (OpenSpec.ofChange fnMaskManySpec)

/-- ITS FALSE NEIGHBOUR: 'it returns false'. Refute it at one input. -/
def fnMaskManyWrong : ChangeSpec := { name := "fnMaskMany", fn := fun _ => fun
  | [d1, d2] => { results := [.lit (.bool false)], args := [d1, d2] }
  | _ => none }
def FnMaskManyWrongFalsely : Prop := fnMaskManyRow.holds Try.pinned (OpenSpec.ofChange fnMaskManyWrong)

/-- 'laws.FnTable': WHATEVER THE INPUT: true; the input reads as it did. -/
def fnTableSpec : ChangeSpec := { name := "fnTable", fn := fun _ => fun
  | [d1, d2] => { results := [.lit (.bool true)], args := [d1, d2] }
  | _ => none }
def fnTableRow : OpenClaim := { program := "ytfpddhehdfckjaa", sum := "1d836bfbafa76b7d28b0a5d09048dc3c9030bc7380b8790cc57489c4c9423ff5", func := "loop.example/disclosurecontrol/laws.FnTable", spec := "fnTable", plainKeys := false, apart := false }
def FnTableSaid : Prop := fnTableRow.holds Try.pinned (OpenSpec.ofChange fnTableSpec)

/-- ITS FALSE NEIGHBOUR: 'it returns false'. Refute it at one input. -/
def fnTableWrong : ChangeSpec := { name := "fnTable", fn := fun _ => fun
  | [d1, d2] => { results := [.lit (.bool false)], args := [d1, d2] }
  | _ => none }
def FnTableWrongFalsely : Prop := fnTableRow.holds Try.pinned (OpenSpec.ofChange fnTableWrong)

/-- 'laws.FnMask': WHATEVER THE INPUT: true; the input reads as it did. -/
def fnMaskSpec : ChangeSpec := { name := "fnMask", fn := fun _ => fun
  | [d] => { results := [.lit (.bool true)], args := [d] }
  | _ => none }
def fnMaskRow : OpenClaim := { program := "ytfpddhehdfckjaa", sum := "1d836bfbafa76b7d28b0a5d09048dc3c9030bc7380b8790cc57489c4c9423ff5", func := "loop.example/disclosurecontrol/laws.FnMask", spec := "fnMask", plainKeys := false, apart := false }
def FnMaskSaid : Prop := fnMaskRow.holds Try.pinned (OpenSpec.ofChange fnMaskSpec)

/-- ITS FALSE NEIGHBOUR: 'it returns false'. Refute it at one input. -/
def fnMaskWrong : ChangeSpec := { name := "fnMask", fn := fun _ => fun
  | [d] => { results := [.lit (.bool false)], args := [d] }
  | _ => none }
def FnMaskWrongFalsely : Prop := fnMaskRow.holds Try.pinned (OpenSpec.ofChange fnMaskWrong)

/-- 'laws.FnBest': WHATEVER THE INPUT: true; the input reads as it did. -/
def fnBestSpec : ChangeSpec := { name := "fnBest", fn := fun _ => fun
  | [d] => { results := [.lit (.bool true)], args := [d] }
  | _ => none }
def fnBestRow : OpenClaim := { program := "ytfpddhehdfckjaa", sum := "1d836bfbafa76b7d28b0a5d09048dc3c9030bc7380b8790cc57489c4c9423ff5", func := "loop.example/disclosurecontrol/laws.FnBest", spec := "fnBest", unfollowed := true, recurses := true, plainKeys := false, apart := false }
def FnBestSaid : Prop := fnBestRow.holds Try.pinned (OpenSpec.ofChange fnBestSpec)

/-- ITS FALSE NEIGHBOUR: 'it returns false'. Refute it at one input. -/
def fnBestWrong : ChangeSpec := { name := "fnBest", fn := fun _ => fun
  | [d] => { results := [.lit (.bool false)], args := [d] }
  | _ => none }
def FnBestWrongFalsely : Prop := fnBestRow.holds Try.pinned (OpenSpec.ofChange fnBestWrong)

/-- 'laws.FnBestAgain': WHATEVER THE INPUT: true; the input reads as it did. -/
def fnBestAgainSpec : ChangeSpec := { name := "fnBestAgain", fn := fun _ => fun
  | [d] => { results := [.lit (.bool true)], args := [d] }
  | _ => none }
def fnBestAgainRow : OpenClaim := { program := "ytfpddhehdfckjaa", sum := "1d836bfbafa76b7d28b0a5d09048dc3c9030bc7380b8790cc57489c4c9423ff5", func := "loop.example/disclosurecontrol/laws.FnBestAgain", spec := "fnBestAgain", unfollowed := true, recurses := true, plainKeys := false, apart := false }
def FnBestAgainSaid : Prop := fnBestAgainRow.holds Try.pinned (OpenSpec.ofChange fnBestAgainSpec)

/-- ITS FALSE NEIGHBOUR: 'it returns false'. Refute it at one input. -/
def fnBestAgainWrong : ChangeSpec := { name := "fnBestAgain", fn := fun _ => fun
  | [d] => { results := [.lit (.bool false)], args := [d] }
  | _ => none }
def FnBestAgainWrongFalsely : Prop := fnBestAgainRow.holds Try.pinned (OpenSpec.ofChange fnBestAgainWrong)

/-- 'laws.FnBestMore': WHATEVER THE INPUT: true; the input reads as it did. -/
def fnBestMoreSpec : ChangeSpec := { name := "fnBestMore", fn := fun _ => fun
  | [d] => { results := [.lit (.bool true)], args := [d] }
  | _ => none }
def fnBestMoreRow : OpenClaim := { program := "ytfpddhehdfckjaa", sum := "1d836bfbafa76b7d28b0a5d09048dc3c9030bc7380b8790cc57489c4c9423ff5", func := "loop.example/disclosurecontrol/laws.FnBestMore", spec := "fnBestMore", unfollowed := true, recurses := true, plainKeys := false, apart := false }
def FnBestMoreSaid : Prop := fnBestMoreRow.holds Try.pinned (OpenSpec.ofChange fnBestMoreSpec)

/-- ITS FALSE NEIGHBOUR: 'it returns false'. Refute it at one input. -/
def fnBestMoreWrong : ChangeSpec := { name := "fnBestMore", fn := fun _ => fun
  | [d] => { results := [.lit (.bool false)], args := [d] }
  | _ => none }
def FnBestMoreWrongFalsely : Prop := fnBestMoreRow.holds Try.pinned (OpenSpec.ofChange fnBestMoreWrong)

/-- 'laws.FnBestNone': WHATEVER THE INPUT: true; the input reads as it did. -/
def fnBestNoneSpec : ChangeSpec := { name := "fnBestNone", fn := fun _ => fun
  | [d] => { results := [.lit (.bool true)], args := [d] }
  | _ => none }
def fnBestNoneRow : OpenClaim := { program := "ytfpddhehdfckjaa", sum := "1d836bfbafa76b7d28b0a5d09048dc3c9030bc7380b8790cc57489c4c9423ff5", func := "loop.example/disclosurecontrol/laws.FnBestNone", spec := "fnBestNone", unfollowed := true, recurses := true, plainKeys := false, apart := false }
def FnBestNoneSaid : Prop := fnBestNoneRow.holds Try.pinned (OpenSpec.ofChange fnBestNoneSpec)

/-- ITS FALSE NEIGHBOUR: 'it returns false'. Refute it at one input. -/
def fnBestNoneWrong : ChangeSpec := { name := "fnBestNone", fn := fun _ => fun
  | [d] => { results := [.lit (.bool false)], args := [d] }
  | _ => none }
def FnBestNoneWrongFalsely : Prop := fnBestNoneRow.holds Try.pinned (OpenSpec.ofChange fnBestNoneWrong)

/-- 'laws.FnBestTop': WHATEVER THE INPUT: true; the input reads as it did. -/
def fnBestTopSpec : ChangeSpec := { name := "fnBestTop", fn := fun _ => fun
  | [d] => { results := [.lit (.bool true)], args := [d] }
  | _ => none }
def fnBestTopRow : OpenClaim := { program := "ytfpddhehdfckjaa", sum := "1d836bfbafa76b7d28b0a5d09048dc3c9030bc7380b8790cc57489c4c9423ff5", func := "loop.example/disclosurecontrol/laws.FnBestTop", spec := "fnBestTop", unfollowed := true, recurses := true, plainKeys := false, apart := false }
def FnBestTopSaid : Prop := fnBestTopRow.holds Try.pinned (OpenSpec.ofChange fnBestTopSpec)

/-- ITS FALSE NEIGHBOUR: 'it returns false'. Refute it at one input. -/
def fnBestTopWrong : ChangeSpec := { name := "fnBestTop", fn := fun _ => fun
  | [d] => { results := [.lit (.bool false)], args := [d] }
  | _ => none }
def FnBestTopWrongFalsely : Prop := fnBestTopRow.holds Try.pinned (OpenSpec.ofChange fnBestTopWrong)

/-- 'laws.FnBestOk': WHATEVER THE INPUT: true; the input reads as it did. -/
def fnBestOkSpec : ChangeSpec := { name := "fnBestOk", fn := fun _ => fun
  | [d] => { results := [.lit (.bool true)], args := [d] }
  | _ => none }
def fnBestOkRow : OpenClaim := { program := "ytfpddhehdfckjaa", sum := "1d836bfbafa76b7d28b0a5d09048dc3c9030bc7380b8790cc57489c4c9423ff5", func := "loop.example/disclosurecontrol/laws.FnBestOk", spec := "fnBestOk", unfollowed := true, recurses := true, plainKeys := false, apart := false }
def FnBestOkSaid : Prop := fnBestOkRow.holds Try.pinned (OpenSpec.ofChange fnBestOkSpec)

/-- ITS FALSE NEIGHBOUR: 'it returns false'. Refute it at one input. -/
def fnBestOkWrong : ChangeSpec := { name := "fnBestOk", fn := fun _ => fun
  | [d] => { results := [.lit (.bool false)], args := [d] }
  | _ => none }
def FnBestOkWrongFalsely : Prop := fnBestOkRow.holds Try.pinned (OpenSpec.ofChange fnBestOkWrong)

/-- 'laws.FnExactAnonKeep': WHATEVER THE INPUT: true; the input reads as it did. -/
def fnExactAnonKeepSpec : ChangeSpec := { name := "fnExactAnonKeep", fn := fun _ => fun
  | [d1, d2, d3, d4] => { results := [.lit (.bool true)], args := [d1, d2, d3, d4] }
  | _ => none }
def fnExactAnonKeepRow : OpenClaim := { program := "ytfpddhehdfckjaa", sum := "1d836bfbafa76b7d28b0a5d09048dc3c9030bc7380b8790cc57489c4c9423ff5", func := "loop.example/disclosurecontrol/laws.FnExactAnonKeep", spec := "fnExactAnonKeep", plainKeys := false, apart := false }
def FnExactAnonKeepSaid : Prop := fnExactAnonKeepRow.holds Try.pinned (OpenSpec.ofChange fnExactAnonKeepSpec)

/-- ITS FALSE NEIGHBOUR: 'it returns false'. Refute it at one input. -/
def fnExactAnonKeepWrong : ChangeSpec := { name := "fnExactAnonKeep", fn := fun _ => fun
  | [d1, d2, d3, d4] => { results := [.lit (.bool false)], args := [d1, d2, d3, d4] }
  | _ => none }
def FnExactAnonKeepWrongFalsely : Prop := fnExactAnonKeepRow.holds Try.pinned (OpenSpec.ofChange fnExactAnonKeepWrong)

/-- 'laws.FnExactAnonBest': WHATEVER THE INPUT: true; the input reads as it did. -/
def fnExactAnonBestSpec : ChangeSpec := { name := "fnExactAnonBest", fn := fun _ => fun
  | [d1, d2, d3, d4] => { results := [.lit (.bool true)], args := [d1, d2, d3, d4] }
  | _ => none }
def fnExactAnonBestRow : OpenClaim := { program := "ytfpddhehdfckjaa", sum := "1d836bfbafa76b7d28b0a5d09048dc3c9030bc7380b8790cc57489c4c9423ff5", func := "loop.example/disclosurecontrol/laws.FnExactAnonBest", spec := "fnExactAnonBest", unfollowed := true, recurses := true, plainKeys := false, apart := false }
def FnExactAnonBestSaid : Prop := fnExactAnonBestRow.holds Try.pinned (OpenSpec.ofChange fnExactAnonBestSpec)

/-- ITS FALSE NEIGHBOUR: 'it returns false'. Refute it at one input. -/
def fnExactAnonBestWrong : ChangeSpec := { name := "fnExactAnonBest", fn := fun _ => fun
  | [d1, d2, d3, d4] => { results := [.lit (.bool false)], args := [d1, d2, d3, d4] }
  | _ => none }
def FnExactAnonBestWrongFalsely : Prop := fnExactAnonBestRow.holds Try.pinned (OpenSpec.ofChange fnExactAnonBestWrong)

/- THE SECOND FORM. 'bulk': how many values and letters a reading holds, each counted each time it is reached (what is shared counts as often as it is met; a slice's spare places count too). A statement '..UptoSaid' is the law's where the arguments, and the package variables that the reading takes, are together of bulk at most 1048576: NARROWER than '..Said'. Prove '..Said' where nothing that the law and all that it calls make is longer than what came in: it says more and counts as full. Else prove '..UptoSaid'. A law counts once. -/
mutual
def uptoBulk {H : Type} : DataW H → Nat
  | .lit (.string bytes) => bytes.length + 1
  | .lit _ => 1
  | .nil => 1
  | .ptr d => uptoBulk d + 1
  | .slice elems spare => uptoBulkAll elems + uptoBulkAll spare + 1
  | .agg parts => uptoBulkAll parts + 1
  | .iface _ d => uptoBulk d + 1
  | .map entries => uptoBulkEntries entries + 1
  | .held _ => 1
def uptoBulkAll {H : Type} : List (DataW H) → Nat
  | [] => 0
  | d :: r => uptoBulk d + uptoBulkAll r
def uptoBulkEntries {H : Type} : List (Lit × DataW H) → Nat
  | [] => 0
  | x :: r => uptoBulkEntry x + uptoBulkEntries r
def uptoBulkEntry {H : Type} : Lit × DataW H → Nat
  | (.string bytes, d) => bytes.length + uptoBulk d + 1
  | (_, d) => uptoBulk d + 1
 end
def uptoSmall : (H : Type) → List (DataW H) → Bool := fun _ ds => decide (uptoBulkAll ds ≤ 1048576)
def OpenSpec.upto (s : _root_.Go.ChangeSpec) : _root_.Go.OpenSpec := { _root_.Go.OpenSpec.ofChange s with cond := some uptoSmall }

/-- 'laws.FnExactTableValid', WHERE WHAT IT READS IS OF BULK AT MOST 1048576: true; the input reads as it did. -/
def fnExactTableValidUptoRow : OpenClaim := { program := "ytfpddhehdfckjaa", sum := "1d836bfbafa76b7d28b0a5d09048dc3c9030bc7380b8790cc57489c4c9423ff5", func := "loop.example/disclosurecontrol/laws.FnExactTableValid", spec := "fnExactTableValid", plainKeys := false, apart := false, narrowed := true }
def FnExactTableValidUptoSaid : Prop := fnExactTableValidUptoRow.holds Try.pinned (OpenSpec.upto fnExactTableValidSpec)

/-- 'laws.FnMaskMany', WHERE WHAT IT READS IS OF BULK AT MOST 1048576: true; the input reads as it did. -/
def fnMaskManyUptoRow : OpenClaim := { program := "ytfpddhehdfckjaa", sum := "1d836bfbafa76b7d28b0a5d09048dc3c9030bc7380b8790cc57489c4c9423ff5", func := "loop.example/disclosurecontrol/laws.FnMaskMany", spec := "fnMaskMany", plainKeys := false, apart := false, narrowed := true }
def FnMaskManyUptoSaid : Prop := fnMaskManyUptoRow.holds Try.pinned (OpenSpec.upto fnMaskManySpec)

/-- 'laws.FnTable', WHERE WHAT IT READS IS OF BULK AT MOST 1048576: true; the input reads as it did. -/
def fnTableUptoRow : OpenClaim := { program := "ytfpddhehdfckjaa", sum := "1d836bfbafa76b7d28b0a5d09048dc3c9030bc7380b8790cc57489c4c9423ff5", func := "loop.example/disclosurecontrol/laws.FnTable", spec := "fnTable", plainKeys := false, apart := false, narrowed := true }
def FnTableUptoSaid : Prop := fnTableUptoRow.holds Try.pinned (OpenSpec.upto fnTableSpec)

/-- 'laws.FnMask', WHERE WHAT IT READS IS OF BULK AT MOST 1048576: true; the input reads as it did. -/
def fnMaskUptoRow : OpenClaim := { program := "ytfpddhehdfckjaa", sum := "1d836bfbafa76b7d28b0a5d09048dc3c9030bc7380b8790cc57489c4c9423ff5", func := "loop.example/disclosurecontrol/laws.FnMask", spec := "fnMask", plainKeys := false, apart := false, narrowed := true }
def FnMaskUptoSaid : Prop := fnMaskUptoRow.holds Try.pinned (OpenSpec.upto fnMaskSpec)

/-- 'laws.FnBest', WHERE WHAT IT READS IS OF BULK AT MOST 1048576: true; the input reads as it did. -/
def fnBestUptoRow : OpenClaim := { program := "ytfpddhehdfckjaa", sum := "1d836bfbafa76b7d28b0a5d09048dc3c9030bc7380b8790cc57489c4c9423ff5", func := "loop.example/disclosurecontrol/laws.FnBest", spec := "fnBest", unfollowed := true, recurses := true, plainKeys := false, apart := false, narrowed := true }
def FnBestUptoSaid : Prop := fnBestUptoRow.holds Try.pinned (OpenSpec.upto fnBestSpec)

/-- 'laws.FnBestAgain', WHERE WHAT IT READS IS OF BULK AT MOST 1048576: true; the input reads as it did. -/
def fnBestAgainUptoRow : OpenClaim := { program := "ytfpddhehdfckjaa", sum := "1d836bfbafa76b7d28b0a5d09048dc3c9030bc7380b8790cc57489c4c9423ff5", func := "loop.example/disclosurecontrol/laws.FnBestAgain", spec := "fnBestAgain", unfollowed := true, recurses := true, plainKeys := false, apart := false, narrowed := true }
def FnBestAgainUptoSaid : Prop := fnBestAgainUptoRow.holds Try.pinned (OpenSpec.upto fnBestAgainSpec)

/-- 'laws.FnBestMore', WHERE WHAT IT READS IS OF BULK AT MOST 1048576: true; the input reads as it did. -/
def fnBestMoreUptoRow : OpenClaim := { program := "ytfpddhehdfckjaa", sum := "1d836bfbafa76b7d28b0a5d09048dc3c9030bc7380b8790cc57489c4c9423ff5", func := "loop.example/disclosurecontrol/laws.FnBestMore", spec := "fnBestMore", unfollowed := true, recurses := true, plainKeys := false, apart := false, narrowed := true }
def FnBestMoreUptoSaid : Prop := fnBestMoreUptoRow.holds Try.pinned (OpenSpec.upto fnBestMoreSpec)

/-- 'laws.FnBestNone', WHERE WHAT IT READS IS OF BULK AT MOST 1048576: true; the input reads as it did. -/
def fnBestNoneUptoRow : OpenClaim := { program := "ytfpddhehdfckjaa", sum := "1d836bfbafa76b7d28b0a5d09048dc3c9030bc7380b8790cc57489c4c9423ff5", func := "loop.example/disclosurecontrol/laws.FnBestNone", spec := "fnBestNone", unfollowed := true, recurses := true, plainKeys := false, apart := false, narrowed := true }
def FnBestNoneUptoSaid : Prop := fnBestNoneUptoRow.holds Try.pinned (OpenSpec.upto fnBestNoneSpec)

/-- 'laws.FnBestTop', WHERE WHAT IT READS IS OF BULK AT MOST 1048576: true; the input reads as it did. -/
def fnBestTopUptoRow : OpenClaim := { program := "ytfpddhehdfckjaa", sum := "1d836bfbafa76b7d28b0a5d09048dc3c9030bc7380b8790cc57489c4c9423ff5", func := "loop.example/disclosurecontrol/laws.FnBestTop", spec := "fnBestTop", unfollowed := true, recurses := true, plainKeys := false, apart := false, narrowed := true }
def FnBestTopUptoSaid : Prop := fnBestTopUptoRow.holds Try.pinned (OpenSpec.upto fnBestTopSpec)

/-- 'laws.FnBestOk', WHERE WHAT IT READS IS OF BULK AT MOST 1048576: true; the input reads as it did. -/
def fnBestOkUptoRow : OpenClaim := { program := "ytfpddhehdfckjaa", sum := "1d836bfbafa76b7d28b0a5d09048dc3c9030bc7380b8790cc57489c4c9423ff5", func := "loop.example/disclosurecontrol/laws.FnBestOk", spec := "fnBestOk", unfollowed := true, recurses := true, plainKeys := false, apart := false, narrowed := true }
def FnBestOkUptoSaid : Prop := fnBestOkUptoRow.holds Try.pinned (OpenSpec.upto fnBestOkSpec)

/-- 'laws.FnExactAnonKeep', WHERE WHAT IT READS IS OF BULK AT MOST 1048576: true; the input reads as it did. -/
def fnExactAnonKeepUptoRow : OpenClaim := { program := "ytfpddhehdfckjaa", sum := "1d836bfbafa76b7d28b0a5d09048dc3c9030bc7380b8790cc57489c4c9423ff5", func := "loop.example/disclosurecontrol/laws.FnExactAnonKeep", spec := "fnExactAnonKeep", plainKeys := false, apart := false, narrowed := true }
def FnExactAnonKeepUptoSaid : Prop := fnExactAnonKeepUptoRow.holds Try.pinned (OpenSpec.upto fnExactAnonKeepSpec)

/-- 'laws.FnExactAnonBest', WHERE WHAT IT READS IS OF BULK AT MOST 1048576: true; the input reads as it did. -/
def fnExactAnonBestUptoRow : OpenClaim := { program := "ytfpddhehdfckjaa", sum := "1d836bfbafa76b7d28b0a5d09048dc3c9030bc7380b8790cc57489c4c9423ff5", func := "loop.example/disclosurecontrol/laws.FnExactAnonBest", spec := "fnExactAnonBest", unfollowed := true, recurses := true, plainKeys := false, apart := false, narrowed := true }
def FnExactAnonBestUptoSaid : Prop := fnExactAnonBestUptoRow.holds Try.pinned (OpenSpec.upto fnExactAnonBestSpec)

end Rows
end Go.Proofs.Ytfpddhehdfckjaa
