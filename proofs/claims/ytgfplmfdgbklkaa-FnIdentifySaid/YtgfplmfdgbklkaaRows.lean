/-
  No cell of these rows narrows 'for every input' (looked for: loops, veiled, ifaces, maps, wideKeys, modest, calm, conditions, laid).
  DERIVED. THE GIVEN ROWS OF THIS SEAT. 10 by the template 'for every input the law returns true; each argument reads behind the call as it read before'; 0 by the template 'total and deterministic' (their statements: YtgfplmfdgbklkaaTotals.lean).
  GIVEN WITH THE SEED: the statements are not yours to turn. If you find one false, say at which input.
  Laid BY PROGRAM, IN A SANDBOX (cutbox-rows.mjs): the forced cells as the released guide's own fill.sh prints them over the translation 06acba9be9e9d7d9… (all of the seat's roots in one cut). By AI agents, Wed Nov 11 2026. No macro, syntax, notation, axiom, sorry.
-/
import Derived.Test.YtgfplmfdgbklkaaChecked
import GoSem.Claim
import GoSem.ClaimJoined
import GoSem.ClaimMapViews
import Derived.JoinedTies
import Derived.KernelRfl
namespace Go.Proofs.Ytgfplmfdgbklkaa
/- THE CELL 'sum', in the pinned program and in every row, IS THE sha256 OF THE DUMP (.gsa) THAT YtgfplmfdgbklkaaProg.lean LOADS. Nothing in Lean hashes anything: it is a label: what it is worth is what the hold of that sum in a sandbox is worth. -/
noncomputable def Try.pinned : Pinned := { name := "ytgfplmfdgbklkaa", sum := "06acba9be9e9d7d90b340c6cc2b75f25c766e2f1bbb8c4bdc1f27f8a02fba9d5", checked := Try.checked }
namespace Rows
def none {H : Type} : Left H := { results := [], args := [] }

/-- 'laws.FnExactMatchStart': WHATEVER THE INPUT: true; the input reads as it did. -/
def fnExactMatchStartSpec : ChangeSpec := { name := "fnExactMatchStart", fn := fun _ => fun
  | [d1, d2, d3] => { results := [.lit (.bool true)], args := [d1, d2, d3] }
  | _ => none }
def fnExactMatchStartRow : OpenClaim := { program := "ytgfplmfdgbklkaa", sum := "06acba9be9e9d7d90b340c6cc2b75f25c766e2f1bbb8c4bdc1f27f8a02fba9d5", func := "loop.example/g00953/laws.FnExactMatchStart", spec := "fnExactMatchStart", inPlace := ["internal/bytealg.IndexByteString", "internal/bytealg.IndexString"], named := ["internal/bytealg.MaxLen"], apart := false }
def FnExactMatchStartSaid : Prop := fnExactMatchStartRow.holds Try.pinned (OpenSpec.ofChange fnExactMatchStartSpec)

/-- ITS FALSE NEIGHBOUR: 'it returns false'. Refute it at one input. -/
def fnExactMatchStartWrong : ChangeSpec := { name := "fnExactMatchStart", fn := fun _ => fun
  | [d1, d2, d3] => { results := [.lit (.bool false)], args := [d1, d2, d3] }
  | _ => none }
def FnExactMatchStartWrongFalsely : Prop := fnExactMatchStartRow.holds Try.pinned (OpenSpec.ofChange fnExactMatchStartWrong)

/-- 'laws.FnExactErrorFrom': WHATEVER THE INPUT: true; the input reads as it did. -/
def fnExactErrorFromSpec : ChangeSpec := { name := "fnExactErrorFrom", fn := fun _ => fun
  | [d1, d2, d3] => { results := [.lit (.bool true)], args := [d1, d2, d3] }
  | _ => none }
def fnExactErrorFromRow : OpenClaim := { program := "ytgfplmfdgbklkaa", sum := "06acba9be9e9d7d90b340c6cc2b75f25c766e2f1bbb8c4bdc1f27f8a02fba9d5", func := "loop.example/g00953/laws.FnExactErrorFrom", spec := "fnExactErrorFrom", inPlace := ["internal/bytealg.IndexByteString", "internal/bytealg.IndexString"], named := ["internal/bytealg.MaxLen"], apart := false }
def FnExactErrorFromSaid : Prop := fnExactErrorFromRow.holds Try.pinned (OpenSpec.ofChange fnExactErrorFromSpec)

/-- ITS FALSE NEIGHBOUR: 'it returns false'. Refute it at one input. -/
def fnExactErrorFromWrong : ChangeSpec := { name := "fnExactErrorFrom", fn := fun _ => fun
  | [d1, d2, d3] => { results := [.lit (.bool false)], args := [d1, d2, d3] }
  | _ => none }
def FnExactErrorFromWrongFalsely : Prop := fnExactErrorFromRow.holds Try.pinned (OpenSpec.ofChange fnExactErrorFromWrong)

/-- 'laws.FnExactPhasesNeeded': WHATEVER THE INPUT: true; the input reads as it did. -/
def fnExactPhasesNeededSpec : ChangeSpec := { name := "fnExactPhasesNeeded", fn := fun _ => fun
  | [d1, d2, d3] => { results := [.lit (.bool true)], args := [d1, d2, d3] }
  | _ => none }
def fnExactPhasesNeededRow : OpenClaim := { program := "ytgfplmfdgbklkaa", sum := "06acba9be9e9d7d90b340c6cc2b75f25c766e2f1bbb8c4bdc1f27f8a02fba9d5", func := "loop.example/g00953/laws.FnExactPhasesNeeded", spec := "fnExactPhasesNeeded", inPlace := ["internal/bytealg.IndexByteString", "internal/bytealg.IndexString"], unfollowed := true, recurses := true, named := ["internal/bytealg.MaxLen"], apart := false }
def FnExactPhasesNeededSaid : Prop := fnExactPhasesNeededRow.holds Try.pinned (OpenSpec.ofChange fnExactPhasesNeededSpec)

/-- ITS FALSE NEIGHBOUR: 'it returns false'. Refute it at one input. -/
def fnExactPhasesNeededWrong : ChangeSpec := { name := "fnExactPhasesNeeded", fn := fun _ => fun
  | [d1, d2, d3] => { results := [.lit (.bool false)], args := [d1, d2, d3] }
  | _ => none }
def FnExactPhasesNeededWrongFalsely : Prop := fnExactPhasesNeededRow.holds Try.pinned (OpenSpec.ofChange fnExactPhasesNeededWrong)

/-- 'laws.FnExactIsCertain': WHATEVER THE INPUT: true; the input reads as it did. -/
def fnExactIsCertainSpec : ChangeSpec := { name := "fnExactIsCertain", fn := fun _ => fun
  | [d1, d2, d3] => { results := [.lit (.bool true)], args := [d1, d2, d3] }
  | _ => none }
def fnExactIsCertainRow : OpenClaim := { program := "ytgfplmfdgbklkaa", sum := "06acba9be9e9d7d90b340c6cc2b75f25c766e2f1bbb8c4bdc1f27f8a02fba9d5", func := "loop.example/g00953/laws.FnExactIsCertain", spec := "fnExactIsCertain", inPlace := ["internal/bytealg.IndexByteString", "internal/bytealg.IndexString"], unfollowed := true, recurses := true, named := ["internal/bytealg.MaxLen"], apart := false }
def FnExactIsCertainSaid : Prop := fnExactIsCertainRow.holds Try.pinned (OpenSpec.ofChange fnExactIsCertainSpec)

/-- ITS FALSE NEIGHBOUR: 'it returns false'. Refute it at one input. -/
def fnExactIsCertainWrong : ChangeSpec := { name := "fnExactIsCertain", fn := fun _ => fun
  | [d1, d2, d3] => { results := [.lit (.bool false)], args := [d1, d2, d3] }
  | _ => none }
def FnExactIsCertainWrongFalsely : Prop := fnExactIsCertainRow.holds Try.pinned (OpenSpec.ofChange fnExactIsCertainWrong)

/-- 'laws.FnExactConfused': WHATEVER THE INPUT: true; the input reads as it did. -/
def fnExactConfusedSpec : ChangeSpec := { name := "fnExactConfused", fn := fun _ => fun
  | [d1, d2, d3] => { results := [.lit (.bool true)], args := [d1, d2, d3] }
  | _ => none }
def fnExactConfusedRow : OpenClaim := { program := "ytgfplmfdgbklkaa", sum := "06acba9be9e9d7d90b340c6cc2b75f25c766e2f1bbb8c4bdc1f27f8a02fba9d5", func := "loop.example/g00953/laws.FnExactConfused", spec := "fnExactConfused", inPlace := ["internal/bytealg.IndexByteString", "internal/bytealg.IndexString"], unfollowed := true, recurses := true, named := ["internal/bytealg.MaxLen"], apart := false }
def FnExactConfusedSaid : Prop := fnExactConfusedRow.holds Try.pinned (OpenSpec.ofChange fnExactConfusedSpec)

/-- ITS FALSE NEIGHBOUR: 'it returns false'. Refute it at one input. -/
def fnExactConfusedWrong : ChangeSpec := { name := "fnExactConfused", fn := fun _ => fun
  | [d1, d2, d3] => { results := [.lit (.bool false)], args := [d1, d2, d3] }
  | _ => none }
def FnExactConfusedWrongFalsely : Prop := fnExactConfusedRow.holds Try.pinned (OpenSpec.ofChange fnExactConfusedWrong)

/-- 'laws.FnExactIdentifyLight': WHATEVER THE INPUT: true; the input reads as it did. -/
def fnExactIdentifyLightSpec : ChangeSpec := { name := "fnExactIdentifyLight", fn := fun _ => fun
  | [d1, d2, d3] => { results := [.lit (.bool true)], args := [d1, d2, d3] }
  | _ => none }
def fnExactIdentifyLightRow : OpenClaim := { program := "ytgfplmfdgbklkaa", sum := "06acba9be9e9d7d90b340c6cc2b75f25c766e2f1bbb8c4bdc1f27f8a02fba9d5", func := "loop.example/g00953/laws.FnExactIdentifyLight", spec := "fnExactIdentifyLight", inPlace := ["internal/bytealg.IndexByteString", "internal/bytealg.IndexString"], unfollowed := true, recurses := true, named := ["internal/bytealg.MaxLen"], apart := false }
def FnExactIdentifyLightSaid : Prop := fnExactIdentifyLightRow.holds Try.pinned (OpenSpec.ofChange fnExactIdentifyLightSpec)

/-- ITS FALSE NEIGHBOUR: 'it returns false'. Refute it at one input. -/
def fnExactIdentifyLightWrong : ChangeSpec := { name := "fnExactIdentifyLight", fn := fun _ => fun
  | [d1, d2, d3] => { results := [.lit (.bool false)], args := [d1, d2, d3] }
  | _ => none }
def FnExactIdentifyLightWrongFalsely : Prop := fnExactIdentifyLightRow.holds Try.pinned (OpenSpec.ofChange fnExactIdentifyLightWrong)

/-- 'laws.FnExactLikelyLight': WHATEVER THE INPUT: true; the input reads as it did. -/
def fnExactLikelyLightSpec : ChangeSpec := { name := "fnExactLikelyLight", fn := fun _ => fun
  | [d1, d2, d3] => { results := [.lit (.bool true)], args := [d1, d2, d3] }
  | _ => none }
def fnExactLikelyLightRow : OpenClaim := { program := "ytgfplmfdgbklkaa", sum := "06acba9be9e9d7d90b340c6cc2b75f25c766e2f1bbb8c4bdc1f27f8a02fba9d5", func := "loop.example/g00953/laws.FnExactLikelyLight", spec := "fnExactLikelyLight", inPlace := ["internal/bytealg.IndexByteString", "internal/bytealg.IndexString"], unfollowed := true, recurses := true, named := ["internal/bytealg.MaxLen"], apart := false }
def FnExactLikelyLightSaid : Prop := fnExactLikelyLightRow.holds Try.pinned (OpenSpec.ofChange fnExactLikelyLightSpec)

/-- ITS FALSE NEIGHBOUR: 'it returns false'. Refute it at one input. -/
def fnExactLikelyLightWrong : ChangeSpec := { name := "fnExactLikelyLight", fn := fun _ => fun
  | [d1, d2, d3] => { results := [.lit (.bool false)], args := [d1, d2, d3] }
  | _ => none }
def FnExactLikelyLightWrongFalsely : Prop := fnExactLikelyLightRow.holds Try.pinned (OpenSpec.ofChange fnExactLikelyLightWrong)

/-- 'laws.FnExactChoiceClashes': WHATEVER THE INPUT: true; the input reads as it did. -/
def fnExactChoiceClashesSpec : ChangeSpec := { name := "fnExactChoiceClashes", fn := fun _ => fun
  | [d1, d2] => { results := [.lit (.bool true)], args := [d1, d2] }
  | _ => none }
def fnExactChoiceClashesRow : OpenClaim := { program := "ytgfplmfdgbklkaa", sum := "06acba9be9e9d7d90b340c6cc2b75f25c766e2f1bbb8c4bdc1f27f8a02fba9d5", func := "loop.example/g00953/laws.FnExactChoiceClashes", spec := "fnExactChoiceClashes", inPlace := ["internal/bytealg.IndexByteString", "internal/bytealg.IndexString"], unfollowed := true, recurses := true, named := ["internal/bytealg.MaxLen"], apart := false }
def FnExactChoiceClashesSaid : Prop := fnExactChoiceClashesRow.holds Try.pinned (OpenSpec.ofChange fnExactChoiceClashesSpec)

/-- ITS FALSE NEIGHBOUR: 'it returns false'. Refute it at one input. -/
def fnExactChoiceClashesWrong : ChangeSpec := { name := "fnExactChoiceClashes", fn := fun _ => fun
  | [d1, d2] => { results := [.lit (.bool false)], args := [d1, d2] }
  | _ => none }
def FnExactChoiceClashesWrongFalsely : Prop := fnExactChoiceClashesRow.holds Try.pinned (OpenSpec.ofChange fnExactChoiceClashesWrong)

/-- 'laws.FnCertain': WHATEVER THE INPUT: true; the input reads as it did. -/
def fnCertainSpec : ChangeSpec := { name := "fnCertain", fn := fun _ => fun
  | [d1, d2] => { results := [.lit (.bool true)], args := [d1, d2] }
  | _ => none }
def fnCertainRow : OpenClaim := { program := "ytgfplmfdgbklkaa", sum := "06acba9be9e9d7d90b340c6cc2b75f25c766e2f1bbb8c4bdc1f27f8a02fba9d5", func := "loop.example/g00953/laws.FnCertain", spec := "fnCertain", inPlace := ["internal/bytealg.IndexByteString", "internal/bytealg.IndexString"], unfollowed := true, recurses := true, named := ["internal/bytealg.MaxLen"], apart := false }
def FnCertainSaid : Prop := fnCertainRow.holds Try.pinned (OpenSpec.ofChange fnCertainSpec)

/-- ITS FALSE NEIGHBOUR: 'it returns false'. Refute it at one input. -/
def fnCertainWrong : ChangeSpec := { name := "fnCertain", fn := fun _ => fun
  | [d1, d2] => { results := [.lit (.bool false)], args := [d1, d2] }
  | _ => none }
def FnCertainWrongFalsely : Prop := fnCertainRow.holds Try.pinned (OpenSpec.ofChange fnCertainWrong)

/-- 'laws.FnIdentify': WHATEVER THE INPUT: true; the input reads as it did. -/
def fnIdentifySpec : ChangeSpec := { name := "fnIdentify", fn := fun _ => fun
  | [d1, d2] => { results := [.lit (.bool true)], args := [d1, d2] }
  | _ => none }
def fnIdentifyRow : OpenClaim := { program := "ytgfplmfdgbklkaa", sum := "06acba9be9e9d7d90b340c6cc2b75f25c766e2f1bbb8c4bdc1f27f8a02fba9d5", func := "loop.example/g00953/laws.FnIdentify", spec := "fnIdentify", inPlace := ["internal/bytealg.IndexByteString", "internal/bytealg.IndexString"], unfollowed := true, recurses := true, named := ["internal/bytealg.MaxLen"], apart := false }
def FnIdentifySaid : Prop := fnIdentifyRow.holds Try.pinned (OpenSpec.ofChange fnIdentifySpec)

/-- ITS FALSE NEIGHBOUR: 'it returns false'. Refute it at one input. -/
def fnIdentifyWrong : ChangeSpec := { name := "fnIdentify", fn := fun _ => fun
  | [d1, d2] => { results := [.lit (.bool false)], args := [d1, d2] }
  | _ => none }
def FnIdentifyWrongFalsely : Prop := fnIdentifyRow.holds Try.pinned (OpenSpec.ofChange fnIdentifyWrong)

/- THE SECOND FORM. 'bulk': how many values and letters a reading holds, each counted each time it is reached (what is shared counts as often as it is met; a slice's spare places count too). A statement '..UptoSaid' is the law's where the arguments, and the package variables that the reading takes, are together of bulk at most 1048576: NARROWER than '..Said'. Prove '..Said' where nothing that the law and all that it calls make is longer than what came in: it says more and counts as full. Else prove '..UptoSaid'. A law counts once. -/
mutual
def uptoBulk {H : Type} : DataW H → Nat
  | .lit (.string bytes) => bytes.length + 1
  | .lit _ => 1
  | .nil => 1
  | .ptr d => uptoBulk d + 1
  | .slice elems spare => uptoBulkAll elems + uptoBulkAll spare + 1
  | .agg parts => uptoBulkAll parts + 1
  | .iface _ d => uptoBulk d + 1
  | .map entries => uptoBulkEntries entries + 1
  | .held _ => 1
def uptoBulkAll {H : Type} : List (DataW H) → Nat
  | [] => 0
  | d :: r => uptoBulk d + uptoBulkAll r
def uptoBulkEntries {H : Type} : List (Lit × DataW H) → Nat
  | [] => 0
  | x :: r => uptoBulkEntry x + uptoBulkEntries r
def uptoBulkEntry {H : Type} : Lit × DataW H → Nat
  | (.string bytes, d) => bytes.length + uptoBulk d + 1
  | (_, d) => uptoBulk d + 1
 end
def uptoSmall : (H : Type) → List (DataW H) → Bool := fun _ ds => decide (uptoBulkAll ds ≤ 1048576)
def OpenSpec.upto (s : _root_.Go.ChangeSpec) : _root_.Go.OpenSpec := { _root_.Go.OpenSpec.ofChange s with cond := some uptoSmall }

/-- 'laws.FnExactMatchStart', WHERE WHAT IT READS IS OF BULK AT MOST 1048576: true; the input reads as it did. -/
def fnExactMatchStartUptoRow : OpenClaim := { program := "ytgfplmfdgbklkaa", sum := "06acba9be9e9d7d90b340c6cc2b75f25c766e2f1bbb8c4bdc1f27f8a02fba9d5", func := "loop.example/g00953/laws.FnExactMatchStart", spec := "fnExactMatchStart", inPlace := ["internal/bytealg.IndexByteString", "internal/bytealg.IndexString"], named := ["internal/bytealg.MaxLen"], apart := false, narrowed := true }
def FnExactMatchStartUptoSaid : Prop := fnExactMatchStartUptoRow.holds Try.pinned (OpenSpec.upto fnExactMatchStartSpec)

/-- 'laws.FnExactErrorFrom', WHERE WHAT IT READS IS OF BULK AT MOST 1048576: true; the input reads as it did. -/
def fnExactErrorFromUptoRow : OpenClaim := { program := "ytgfplmfdgbklkaa", sum := "06acba9be9e9d7d90b340c6cc2b75f25c766e2f1bbb8c4bdc1f27f8a02fba9d5", func := "loop.example/g00953/laws.FnExactErrorFrom", spec := "fnExactErrorFrom", inPlace := ["internal/bytealg.IndexByteString", "internal/bytealg.IndexString"], named := ["internal/bytealg.MaxLen"], apart := false, narrowed := true }
def FnExactErrorFromUptoSaid : Prop := fnExactErrorFromUptoRow.holds Try.pinned (OpenSpec.upto fnExactErrorFromSpec)

/-- 'laws.FnExactPhasesNeeded', WHERE WHAT IT READS IS OF BULK AT MOST 1048576: true; the input reads as it did. -/
def fnExactPhasesNeededUptoRow : OpenClaim := { program := "ytgfplmfdgbklkaa", sum := "06acba9be9e9d7d90b340c6cc2b75f25c766e2f1bbb8c4bdc1f27f8a02fba9d5", func := "loop.example/g00953/laws.FnExactPhasesNeeded", spec := "fnExactPhasesNeeded", inPlace := ["internal/bytealg.IndexByteString", "internal/bytealg.IndexString"], unfollowed := true, recurses := true, named := ["internal/bytealg.MaxLen"], apart := false, narrowed := true }
def FnExactPhasesNeededUptoSaid : Prop := fnExactPhasesNeededUptoRow.holds Try.pinned (OpenSpec.upto fnExactPhasesNeededSpec)

/-- 'laws.FnExactIsCertain', WHERE WHAT IT READS IS OF BULK AT MOST 1048576: true; the input reads as it did. -/
def fnExactIsCertainUptoRow : OpenClaim := { program := "ytgfplmfdgbklkaa", sum := "06acba9be9e9d7d90b340c6cc2b75f25c766e2f1bbb8c4bdc1f27f8a02fba9d5", func := "loop.example/g00953/laws.FnExactIsCertain", spec := "fnExactIsCertain", inPlace := ["internal/bytealg.IndexByteString", "internal/bytealg.IndexString"], unfollowed := true, recurses := true, named := ["internal/bytealg.MaxLen"], apart := false, narrowed := true }
def FnExactIsCertainUptoSaid : Prop := fnExactIsCertainUptoRow.holds Try.pinned (OpenSpec.upto fnExactIsCertainSpec)

/-- 'laws.FnExactConfused', WHERE WHAT IT READS IS OF BULK AT MOST 1048576: true; the input reads as it did. -/
def fnExactConfusedUptoRow : OpenClaim := { program := "ytgfplmfdgbklkaa", sum := "06acba9be9e9d7d90b340c6cc2b75f25c766e2f1bbb8c4bdc1f27f8a02fba9d5", func := "loop.example/g00953/laws.FnExactConfused", spec := "fnExactConfused", inPlace := ["internal/bytealg.IndexByteString", "internal/bytealg.IndexString"], unfollowed := true, recurses := true, named := ["internal/bytealg.MaxLen"], apart := false, narrowed := true }
def FnExactConfusedUptoSaid : Prop := fnExactConfusedUptoRow.holds Try.pinned (OpenSpec.upto fnExactConfusedSpec)

/-- 'laws.FnExactIdentifyLight', WHERE WHAT IT READS IS OF BULK AT MOST 1048576: true; the input reads as it did. -/
def fnExactIdentifyLightUptoRow : OpenClaim := { program := "ytgfplmfdgbklkaa", sum := "06acba9be9e9d7d90b340c6cc2b75f25c766e2f1bbb8c4bdc1f27f8a02fba9d5", func := "loop.example/g00953/laws.FnExactIdentifyLight", spec := "fnExactIdentifyLight", inPlace := ["internal/bytealg.IndexByteString", "internal/bytealg.IndexString"], unfollowed := true, recurses := true, named := ["internal/bytealg.MaxLen"], apart := false, narrowed := true }
def FnExactIdentifyLightUptoSaid : Prop := fnExactIdentifyLightUptoRow.holds Try.pinned (OpenSpec.upto fnExactIdentifyLightSpec)

/-- 'laws.FnExactLikelyLight', WHERE WHAT IT READS IS OF BULK AT MOST 1048576: true; the input reads as it did. -/
def fnExactLikelyLightUptoRow : OpenClaim := { program := "ytgfplmfdgbklkaa", sum := "06acba9be9e9d7d90b340c6cc2b75f25c766e2f1bbb8c4bdc1f27f8a02fba9d5", func := "loop.example/g00953/laws.FnExactLikelyLight", spec := "fnExactLikelyLight", inPlace := ["internal/bytealg.IndexByteString", "internal/bytealg.IndexString"], unfollowed := true, recurses := true, named := ["internal/bytealg.MaxLen"], apart := false, narrowed := true }
def FnExactLikelyLightUptoSaid : Prop := fnExactLikelyLightUptoRow.holds Try.pinned (OpenSpec.upto fnExactLikelyLightSpec)

/-- 'laws.FnExactChoiceClashes', WHERE WHAT IT READS IS OF BULK AT MOST 1048576: true; the input reads as it did. -/
def fnExactChoiceClashesUptoRow : OpenClaim := { program := "ytgfplmfdgbklkaa", sum := "06acba9be9e9d7d90b340c6cc2b75f25c766e2f1bbb8c4bdc1f27f8a02fba9d5", func := "loop.example/g00953/laws.FnExactChoiceClashes", spec := "fnExactChoiceClashes", inPlace := ["internal/bytealg.IndexByteString", "internal/bytealg.IndexString"], unfollowed := true, recurses := true, named := ["internal/bytealg.MaxLen"], apart := false, narrowed := true }
def FnExactChoiceClashesUptoSaid : Prop := fnExactChoiceClashesUptoRow.holds Try.pinned (OpenSpec.upto fnExactChoiceClashesSpec)

/-- 'laws.FnCertain', WHERE WHAT IT READS IS OF BULK AT MOST 1048576: true; the input reads as it did. -/
def fnCertainUptoRow : OpenClaim := { program := "ytgfplmfdgbklkaa", sum := "06acba9be9e9d7d90b340c6cc2b75f25c766e2f1bbb8c4bdc1f27f8a02fba9d5", func := "loop.example/g00953/laws.FnCertain", spec := "fnCertain", inPlace := ["internal/bytealg.IndexByteString", "internal/bytealg.IndexString"], unfollowed := true, recurses := true, named := ["internal/bytealg.MaxLen"], apart := false, narrowed := true }
def FnCertainUptoSaid : Prop := fnCertainUptoRow.holds Try.pinned (OpenSpec.upto fnCertainSpec)

/-- 'laws.FnIdentify', WHERE WHAT IT READS IS OF BULK AT MOST 1048576: true; the input reads as it did. -/
def fnIdentifyUptoRow : OpenClaim := { program := "ytgfplmfdgbklkaa", sum := "06acba9be9e9d7d90b340c6cc2b75f25c766e2f1bbb8c4bdc1f27f8a02fba9d5", func := "loop.example/g00953/laws.FnIdentify", spec := "fnIdentify", inPlace := ["internal/bytealg.IndexByteString", "internal/bytealg.IndexString"], unfollowed := true, recurses := true, named := ["internal/bytealg.MaxLen"], apart := false, narrowed := true }
def FnIdentifyUptoSaid : Prop := fnIdentifyUptoRow.holds Try.pinned (OpenSpec.upto fnIdentifySpec)

end Rows
end Go.Proofs.Ytgfplmfdgbklkaa
