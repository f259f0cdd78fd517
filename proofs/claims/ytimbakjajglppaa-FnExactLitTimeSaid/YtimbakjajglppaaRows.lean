/-
  No cell of these rows narrows 'for every input' (looked for: loops, veiled, ifaces, maps, wideKeys, modest, calm, conditions, laid).
  DERIVED. THE GIVEN ROWS OF THIS SEAT. 6 by the template 'for every input the law returns true; each argument reads behind the call as it read before'; 0 by the template 'total and deterministic' (their statements: YtimbakjajglppaaTotals.lean).
  GIVEN WITH THE SEED: the statements are not yours to turn. If you find one false, say at which input.
  Laid BY PROGRAM, IN A SANDBOX (cutbox-rows.mjs): the forced cells as the released guide's own fill.sh prints them over the translation c86179910f8c6707… (all of the seat's roots in one cut). By AI agents, Wed Nov 11 2026. No macro, syntax, notation, axiom, sorry.
-/
import Derived.Test.YtimbakjajglppaaChecked
import GoSem.Claim
import GoSem.ClaimJoined
import GoSem.ClaimMapViews
import Derived.JoinedTies
import Derived.KernelRfl
namespace Go.Proofs.Ytimbakjajglppaa
/- THE CELL 'sum', in the pinned program and in every row, IS THE sha256 OF THE DUMP (.gsa) THAT YtimbakjajglppaaProg.lean LOADS. Nothing in Lean hashes anything: it is a label: what it is worth is what the hold of that sum in a sandbox is worth. -/
noncomputable def Try.pinned : Pinned := { name := "ytimbakjajglppaa", sum := "c86179910f8c670756a56b26b977d80881d0d743e157d3b16d891fb588a03e8c", checked := Try.checked }
namespace Rows
def none {H : Type} : Left H := { results := [], args := [] }

/-- 'laws.FnExactSameDuties': WHATEVER THE INPUT: true; the input reads as it did. -/
def fnExactSameDutiesSpec : ChangeSpec := { name := "fnExactSameDuties", fn := fun _ => fun
  | [d1, d2] => { results := [.lit (.bool true)], args := [d1, d2] }
  | _ => none }
def fnExactSameDutiesRow : OpenClaim := { program := "ytimbakjajglppaa", sum := "c86179910f8c670756a56b26b977d80881d0d743e157d3b16d891fb588a03e8c", func := "loop.example/g00953/laws.FnExactSameDuties", spec := "fnExactSameDuties", apart := false }
def FnExactSameDutiesSaid : Prop := fnExactSameDutiesRow.holds Try.pinned (OpenSpec.ofChange fnExactSameDutiesSpec)

/-- ITS FALSE NEIGHBOUR: 'it returns false'. Refute it at one input. -/
def fnExactSameDutiesWrong : ChangeSpec := { name := "fnExactSameDuties", fn := fun _ => fun
  | [d1, d2] => { results := [.lit (.bool false)], args := [d1, d2] }
  | _ => none }
def FnExactSameDutiesWrongFalsely : Prop := fnExactSameDutiesRow.holds Try.pinned (OpenSpec.ofChange fnExactSameDutiesWrong)

/-- 'laws.FnExactPlanDuties': WHATEVER THE INPUT: true; the input reads as it did. -/
def fnExactPlanDutiesSpec : ChangeSpec := { name := "fnExactPlanDuties", fn := fun _ => fun
  | [d1, d2, d3, d4] => { results := [.lit (.bool true)], args := [d1, d2, d3, d4] }
  | _ => none }
def fnExactPlanDutiesRow : OpenClaim := { program := "ytimbakjajglppaa", sum := "c86179910f8c670756a56b26b977d80881d0d743e157d3b16d891fb588a03e8c", func := "loop.example/g00953/laws.FnExactPlanDuties", spec := "fnExactPlanDuties", unfollowed := true, recurses := true, apart := false }
def FnExactPlanDutiesSaid : Prop := fnExactPlanDutiesRow.holds Try.pinned (OpenSpec.ofChange fnExactPlanDutiesSpec)

/-- ITS FALSE NEIGHBOUR: 'it returns false'. Refute it at one input. -/
def fnExactPlanDutiesWrong : ChangeSpec := { name := "fnExactPlanDuties", fn := fun _ => fun
  | [d1, d2, d3, d4] => { results := [.lit (.bool false)], args := [d1, d2, d3, d4] }
  | _ => none }
def FnExactPlanDutiesWrongFalsely : Prop := fnExactPlanDutiesRow.holds Try.pinned (OpenSpec.ofChange fnExactPlanDutiesWrong)

/-- 'laws.FnExactLeastPeriod': WHATEVER THE INPUT: true; the input reads as it did. -/
def fnExactLeastPeriodSpec : ChangeSpec := { name := "fnExactLeastPeriod", fn := fun _ => fun
  | [d] => { results := [.lit (.bool true)], args := [d] }
  | _ => none }
def fnExactLeastPeriodRow : OpenClaim := { program := "ytimbakjajglppaa", sum := "c86179910f8c670756a56b26b977d80881d0d743e157d3b16d891fb588a03e8c", func := "loop.example/g00953/laws.FnExactLeastPeriod", spec := "fnExactLeastPeriod", inPlace := ["internal/bytealg.IndexByteString"], apart := false }
def FnExactLeastPeriodSaid : Prop := fnExactLeastPeriodRow.holds Try.pinned (OpenSpec.ofChange fnExactLeastPeriodSpec)

/-- ITS FALSE NEIGHBOUR: 'it returns false'. Refute it at one input. -/
def fnExactLeastPeriodWrong : ChangeSpec := { name := "fnExactLeastPeriod", fn := fun _ => fun
  | [d] => { results := [.lit (.bool false)], args := [d] }
  | _ => none }
def FnExactLeastPeriodWrongFalsely : Prop := fnExactLeastPeriodRow.holds Try.pinned (OpenSpec.ofChange fnExactLeastPeriodWrong)

/-- 'laws.FnExactValidCharacter': WHATEVER THE INPUT: true; the input reads as it did. -/
def fnExactValidCharacterSpec : ChangeSpec := { name := "fnExactValidCharacter", fn := fun _ => fun
  | [d] => { results := [.lit (.bool true)], args := [d] }
  | _ => none }
def fnExactValidCharacterRow : OpenClaim := { program := "ytimbakjajglppaa", sum := "c86179910f8c670756a56b26b977d80881d0d743e157d3b16d891fb588a03e8c", func := "loop.example/g00953/laws.FnExactValidCharacter", spec := "fnExactValidCharacter", inPlace := ["internal/bytealg.IndexByteString"], apart := false }
def FnExactValidCharacterSaid : Prop := fnExactValidCharacterRow.holds Try.pinned (OpenSpec.ofChange fnExactValidCharacterSpec)

/-- ITS FALSE NEIGHBOUR: 'it returns false'. Refute it at one input. -/
def fnExactValidCharacterWrong : ChangeSpec := { name := "fnExactValidCharacter", fn := fun _ => fun
  | [d] => { results := [.lit (.bool false)], args := [d] }
  | _ => none }
def FnExactValidCharacterWrongFalsely : Prop := fnExactValidCharacterRow.holds Try.pinned (OpenSpec.ofChange fnExactValidCharacterWrong)

/-- 'laws.FnExactFlashCount': WHATEVER THE INPUT: true; the input reads as it did. -/
def fnExactFlashCountSpec : ChangeSpec := { name := "fnExactFlashCount", fn := fun _ => fun
  | [d] => { results := [.lit (.bool true)], args := [d] }
  | _ => none }
def fnExactFlashCountRow : OpenClaim := { program := "ytimbakjajglppaa", sum := "c86179910f8c670756a56b26b977d80881d0d743e157d3b16d891fb588a03e8c", func := "loop.example/g00953/laws.FnExactFlashCount", spec := "fnExactFlashCount", inPlace := ["internal/bytealg.IndexByteString"], apart := false }
def FnExactFlashCountSaid : Prop := fnExactFlashCountRow.holds Try.pinned (OpenSpec.ofChange fnExactFlashCountSpec)

/-- ITS FALSE NEIGHBOUR: 'it returns false'. Refute it at one input. -/
def fnExactFlashCountWrong : ChangeSpec := { name := "fnExactFlashCount", fn := fun _ => fun
  | [d] => { results := [.lit (.bool false)], args := [d] }
  | _ => none }
def FnExactFlashCountWrongFalsely : Prop := fnExactFlashCountRow.holds Try.pinned (OpenSpec.ofChange fnExactFlashCountWrong)

/-- 'laws.FnExactLitTime': WHATEVER THE INPUT: true; the input reads as it did. -/
def fnExactLitTimeSpec : ChangeSpec := { name := "fnExactLitTime", fn := fun _ => fun
  | [d] => { results := [.lit (.bool true)], args := [d] }
  | _ => none }
def fnExactLitTimeRow : OpenClaim := { program := "ytimbakjajglppaa", sum := "c86179910f8c670756a56b26b977d80881d0d743e157d3b16d891fb588a03e8c", func := "loop.example/g00953/laws.FnExactLitTime", spec := "fnExactLitTime", inPlace := ["internal/bytealg.IndexByteString"], apart := false }
def FnExactLitTimeSaid : Prop := fnExactLitTimeRow.holds Try.pinned (OpenSpec.ofChange fnExactLitTimeSpec)

/-- ITS FALSE NEIGHBOUR: 'it returns false'. Refute it at one input. -/
def fnExactLitTimeWrong : ChangeSpec := { name := "fnExactLitTime", fn := fun _ => fun
  | [d] => { results := [.lit (.bool false)], args := [d] }
  | _ => none }
def FnExactLitTimeWrongFalsely : Prop := fnExactLitTimeRow.holds Try.pinned (OpenSpec.ofChange fnExactLitTimeWrong)

/- THE SECOND FORM. 'bulk': how many values and letters a reading holds, each counted each time it is reached (what is shared counts as often as it is met; a slice's spare places count too). A statement '..UptoSaid' is the law's where the arguments, and the package variables that the reading takes, are together of bulk at most 1048576: NARROWER than '..Said'. Prove '..Said' where nothing that the law and all that it calls make is longer than what came in: it says more and counts as full. Else prove '..UptoSaid'. A law counts once. -/
mutual
def uptoBulk {H : Type} : DataW H → Nat
  | .lit (.string bytes) => bytes.length + 1
  | .lit _ => 1
  | .nil => 1
  | .ptr d => uptoBulk d + 1
  | .slice elems spare => uptoBulkAll elems + uptoBulkAll spare + 1
  | .agg parts => uptoBulkAll parts + 1
  | .iface _ d => uptoBulk d + 1
  | .map entries => uptoBulkEntries entries + 1
  | .held _ => 1
def uptoBulkAll {H : Type} : List (DataW H) → Nat
  | [] => 0
  | d :: r => uptoBulk d + uptoBulkAll r
def uptoBulkEntries {H : Type} : List (Lit × DataW H) → Nat
  | [] => 0
  | x :: r => uptoBulkEntry x + uptoBulkEntries r
def uptoBulkEntry {H : Type} : Lit × DataW H → Nat
  | (.string bytes, d) => bytes.length + uptoBulk d + 1
  | (_, d) => uptoBulk d + 1
 end
def uptoSmall : (H : Type) → List (DataW H) → Bool := fun _ ds => decide (uptoBulkAll ds ≤ 1048576)
def OpenSpec.upto (s : _root_.Go.ChangeSpec) : _root_.Go.OpenSpec := { _root_.Go.OpenSpec.ofChange s with cond := some uptoSmall }

/-- 'laws.FnExactSameDuties', WHERE WHAT IT READS IS OF BULK AT MOST 1048576: true; the input reads as it did. -/
def fnExactSameDutiesUptoRow : OpenClaim := { program := "ytimbakjajglppaa", sum := "c86179910f8c670756a56b26b977d80881d0d743e157d3b16d891fb588a03e8c", func := "loop.example/g00953/laws.FnExactSameDuties", spec := "fnExactSameDuties", apart := false, narrowed := true }
def FnExactSameDutiesUptoSaid : Prop := fnExactSameDutiesUptoRow.holds Try.pinned (OpenSpec.upto fnExactSameDutiesSpec)

/-- 'laws.FnExactPlanDuties', WHERE WHAT IT READS IS OF BULK AT MOST 1048576: true; the input reads as it did. -/
def fnExactPlanDutiesUptoRow : OpenClaim := { program := "ytimbakjajglppaa", sum := "c86179910f8c670756a56b26b977d80881d0d743e157d3b16d891fb588a03e8c", func := "loop.example/g00953/laws.FnExactPlanDuties", spec := "fnExactPlanDuties", unfollowed := true, recurses := true, apart := false, narrowed := true }
def FnExactPlanDutiesUptoSaid : Prop := fnExactPlanDutiesUptoRow.holds Try.pinned (OpenSpec.upto fnExactPlanDutiesSpec)

/-- 'laws.FnExactLeastPeriod', WHERE WHAT IT READS IS OF BULK AT MOST 1048576: true; the input reads as it did. -/
def fnExactLeastPeriodUptoRow : OpenClaim := { program := "ytimbakjajglppaa", sum := "c86179910f8c670756a56b26b977d80881d0d743e157d3b16d891fb588a03e8c", func := "loop.example/g00953/laws.FnExactLeastPeriod", spec := "fnExactLeastPeriod", inPlace := ["internal/bytealg.IndexByteString"], apart := false, narrowed := true }
def FnExactLeastPeriodUptoSaid : Prop := fnExactLeastPeriodUptoRow.holds Try.pinned (OpenSpec.upto fnExactLeastPeriodSpec)

/-- 'laws.FnExactValidCharacter', WHERE WHAT IT READS IS OF BULK AT MOST 1048576: true; the input reads as it did. -/
def fnExactValidCharacterUptoRow : OpenClaim := { program := "ytimbakjajglppaa", sum := "c86179910f8c670756a56b26b977d80881d0d743e157d3b16d891fb588a03e8c", func := "loop.example/g00953/laws.FnExactValidCharacter", spec := "fnExactValidCharacter", inPlace := ["internal/bytealg.IndexByteString"], apart := false, narrowed := true }
def FnExactValidCharacterUptoSaid : Prop := fnExactValidCharacterUptoRow.holds Try.pinned (OpenSpec.upto fnExactValidCharacterSpec)

/-- 'laws.FnExactFlashCount', WHERE WHAT IT READS IS OF BULK AT MOST 1048576: true; the input reads as it did. -/
def fnExactFlashCountUptoRow : OpenClaim := { program := "ytimbakjajglppaa", sum := "c86179910f8c670756a56b26b977d80881d0d743e157d3b16d891fb588a03e8c", func := "loop.example/g00953/laws.FnExactFlashCount", spec := "fnExactFlashCount", inPlace := ["internal/bytealg.IndexByteString"], apart := false, narrowed := true }
def FnExactFlashCountUptoSaid : Prop := fnExactFlashCountUptoRow.holds Try.pinned (OpenSpec.upto fnExactFlashCountSpec)

/-- 'laws.FnExactLitTime', WHERE WHAT IT READS IS OF BULK AT MOST 1048576: true; the input reads as it did. -/
def fnExactLitTimeUptoRow : OpenClaim := { program := "ytimbakjajglppaa", sum := "c86179910f8c670756a56b26b977d80881d0d743e157d3b16d891fb588a03e8c", func := "loop.example/g00953/laws.FnExactLitTime", spec := "fnExactLitTime", inPlace := ["internal/bytealg.IndexByteString"], apart := false, narrowed := true }
def FnExactLitTimeUptoSaid : Prop := fnExactLitTimeUptoRow.holds Try.pinned (OpenSpec.upto fnExactLitTimeSpec)

end Rows
end Go.Proofs.Ytimbakjajglppaa
