/-
  No cell of these rows narrows 'for every input' (looked for: loops, veiled, ifaces, maps, wideKeys, modest, calm, conditions, laid).
  DERIVED. THE GIVEN ROWS OF THIS SEAT. 7 by the template 'for every input the law returns true; each argument reads behind the call as it read before'; 0 by the template 'total and deterministic' (their statements: YtemcmabogikndaaTotals.lean).
  GIVEN WITH THE SEED: the statements are not yours to turn. If you find one false, say at which input.
  Laid BY PROGRAM, IN A SANDBOX (cutbox-rows.mjs): the forced cells as the released guide's own fill.sh prints them over the translation 55ee8896f69b29a8… (all of the seat's roots in one cut). By AI agents, Wed Nov 11 2026. No macro, syntax, notation, axiom, sorry.
-/
import Derived.Test.YtemcmabogikndaaChecked
import GoSem.Claim
import GoSem.ClaimJoined
import GoSem.ClaimMapViews
import Derived.JoinedTies
import Derived.KernelRfl
namespace Go.Proofs.Ytemcmabogikndaa
/- THE CELL 'sum', in the pinned program and in every row, IS THE sha256 OF THE DUMP (.gsa) THAT YtemcmabogikndaaProg.lean LOADS. Nothing in Lean hashes anything: it is a label: what it is worth is what the hold of that sum in a sandbox is worth. -/
noncomputable def Try.pinned : Pinned := { name := "ytemcmabogikndaa", sum := "55ee8896f69b29a88d210febb5e7c55d0807c3b0b28a2f59ffd5dcb33e73cca3", checked := Try.checked }
namespace Rows
def none {H : Type} : Left H := { results := [], args := [] }

/-- 'laws.FnExactLitShare': WHATEVER THE INPUT: true; the input reads as it did. -/
def fnExactLitShareSpec : ChangeSpec := { name := "fnExactLitShare", fn := fun _ => fun
  | [d] => { results := [.lit (.bool true)], args := [d] }
  | _ => none }
def fnExactLitShareRow : OpenClaim := { program := "ytemcmabogikndaa", sum := "55ee8896f69b29a88d210febb5e7c55d0807c3b0b28a2f59ffd5dcb33e73cca3", func := "loop.example/g00953/laws.FnExactLitShare", spec := "fnExactLitShare", inPlace := ["internal/bytealg.IndexByteString"], apart := false }
def FnExactLitShareSaid : Prop := fnExactLitShareRow.holds Try.pinned (OpenSpec.ofChange fnExactLitShareSpec)

/-- ITS FALSE NEIGHBOUR: 'it returns false'. Refute it at one input. -/
def fnExactLitShareWrong : ChangeSpec := { name := "fnExactLitShare", fn := fun _ => fun
  | [d] => { results := [.lit (.bool false)], args := [d] }
  | _ => none }
def FnExactLitShareWrongFalsely : Prop := fnExactLitShareRow.holds Try.pinned (OpenSpec.ofChange fnExactLitShareWrong)

/-- 'laws.FnExactDayUse': WHATEVER THE INPUT: true; the input reads as it did. -/
def fnExactDayUseSpec : ChangeSpec := { name := "fnExactDayUse", fn := fun _ => fun
  | [d1, d2, d3] => { results := [.lit (.bool true)], args := [d1, d2, d3] }
  | _ => none }
def fnExactDayUseRow : OpenClaim := { program := "ytemcmabogikndaa", sum := "55ee8896f69b29a88d210febb5e7c55d0807c3b0b28a2f59ffd5dcb33e73cca3", func := "loop.example/g00953/laws.FnExactDayUse", spec := "fnExactDayUse", inPlace := ["internal/bytealg.IndexByteString"], apart := false }
def FnExactDayUseSaid : Prop := fnExactDayUseRow.holds Try.pinned (OpenSpec.ofChange fnExactDayUseSpec)

/-- ITS FALSE NEIGHBOUR: 'it returns false'. Refute it at one input. -/
def fnExactDayUseWrong : ChangeSpec := { name := "fnExactDayUse", fn := fun _ => fun
  | [d1, d2, d3] => { results := [.lit (.bool false)], args := [d1, d2, d3] }
  | _ => none }
def FnExactDayUseWrongFalsely : Prop := fnExactDayUseRow.holds Try.pinned (OpenSpec.ofChange fnExactDayUseWrong)

/-- 'laws.FnExactAutonomyOf': WHATEVER THE INPUT: true; the input reads as it did. -/
def fnExactAutonomyOfSpec : ChangeSpec := { name := "fnExactAutonomyOf", fn := fun _ => fun
  | [d1, d2, d3] => { results := [.lit (.bool true)], args := [d1, d2, d3] }
  | _ => none }
def fnExactAutonomyOfRow : OpenClaim := { program := "ytemcmabogikndaa", sum := "55ee8896f69b29a88d210febb5e7c55d0807c3b0b28a2f59ffd5dcb33e73cca3", func := "loop.example/g00953/laws.FnExactAutonomyOf", spec := "fnExactAutonomyOf", inPlace := ["internal/bytealg.IndexByteString"], apart := false }
def FnExactAutonomyOfSaid : Prop := fnExactAutonomyOfRow.holds Try.pinned (OpenSpec.ofChange fnExactAutonomyOfSpec)

/-- ITS FALSE NEIGHBOUR: 'it returns false'. Refute it at one input. -/
def fnExactAutonomyOfWrong : ChangeSpec := { name := "fnExactAutonomyOf", fn := fun _ => fun
  | [d1, d2, d3] => { results := [.lit (.bool false)], args := [d1, d2, d3] }
  | _ => none }
def FnExactAutonomyOfWrongFalsely : Prop := fnExactAutonomyOfRow.holds Try.pinned (OpenSpec.ofChange fnExactAutonomyOfWrong)

/-- 'laws.FnExactNextLevel': WHATEVER THE INPUT: true; the input reads as it did. -/
def fnExactNextLevelSpec : ChangeSpec := { name := "fnExactNextLevel", fn := fun _ => fun
  | [d1, d2, d3, d4] => { results := [.lit (.bool true)], args := [d1, d2, d3, d4] }
  | _ => none }
def fnExactNextLevelRow : OpenClaim := { program := "ytemcmabogikndaa", sum := "55ee8896f69b29a88d210febb5e7c55d0807c3b0b28a2f59ffd5dcb33e73cca3", func := "loop.example/g00953/laws.FnExactNextLevel", spec := "fnExactNextLevel", inPlace := ["internal/bytealg.IndexByteString"], apart := false }
def FnExactNextLevelSaid : Prop := fnExactNextLevelRow.holds Try.pinned (OpenSpec.ofChange fnExactNextLevelSpec)

/-- ITS FALSE NEIGHBOUR: 'it returns false'. Refute it at one input. -/
def fnExactNextLevelWrong : ChangeSpec := { name := "fnExactNextLevel", fn := fun _ => fun
  | [d1, d2, d3, d4] => { results := [.lit (.bool false)], args := [d1, d2, d3, d4] }
  | _ => none }
def FnExactNextLevelWrongFalsely : Prop := fnExactNextLevelRow.holds Try.pinned (OpenSpec.ofChange fnExactNextLevelWrong)

/-- 'laws.FnExactPhasesOf': WHATEVER THE INPUT: true; the input reads as it did. -/
def fnExactPhasesOfSpec : ChangeSpec := { name := "fnExactPhasesOf", fn := fun _ => fun
  | [d1, d2] => { results := [.lit (.bool true)], args := [d1, d2] }
  | _ => none }
def fnExactPhasesOfRow : OpenClaim := { program := "ytemcmabogikndaa", sum := "55ee8896f69b29a88d210febb5e7c55d0807c3b0b28a2f59ffd5dcb33e73cca3", func := "loop.example/g00953/laws.FnExactPhasesOf", spec := "fnExactPhasesOf", inPlace := ["internal/bytealg.IndexByteString", "internal/bytealg.IndexString"], named := ["internal/bytealg.MaxLen"], apart := false }
def FnExactPhasesOfSaid : Prop := fnExactPhasesOfRow.holds Try.pinned (OpenSpec.ofChange fnExactPhasesOfSpec)

/-- ITS FALSE NEIGHBOUR: 'it returns false'. Refute it at one input. -/
def fnExactPhasesOfWrong : ChangeSpec := { name := "fnExactPhasesOf", fn := fun _ => fun
  | [d1, d2] => { results := [.lit (.bool false)], args := [d1, d2] }
  | _ => none }
def FnExactPhasesOfWrongFalsely : Prop := fnExactPhasesOfRow.holds Try.pinned (OpenSpec.ofChange fnExactPhasesOfWrong)

/-- 'laws.FnExactObserveLight': WHATEVER THE INPUT: true; the input reads as it did. -/
def fnExactObserveLightSpec : ChangeSpec := { name := "fnExactObserveLight", fn := fun _ => fun
  | [d1, d2, d3, d4] => { results := [.lit (.bool true)], args := [d1, d2, d3, d4] }
  | _ => none }
def fnExactObserveLightRow : OpenClaim := { program := "ytemcmabogikndaa", sum := "55ee8896f69b29a88d210febb5e7c55d0807c3b0b28a2f59ffd5dcb33e73cca3", func := "loop.example/g00953/laws.FnExactObserveLight", spec := "fnExactObserveLight", inPlace := ["internal/bytealg.IndexByteString", "internal/bytealg.IndexString"], named := ["internal/bytealg.MaxLen"], apart := false }
def FnExactObserveLightSaid : Prop := fnExactObserveLightRow.holds Try.pinned (OpenSpec.ofChange fnExactObserveLightSpec)

/-- ITS FALSE NEIGHBOUR: 'it returns false'. Refute it at one input. -/
def fnExactObserveLightWrong : ChangeSpec := { name := "fnExactObserveLight", fn := fun _ => fun
  | [d1, d2, d3, d4] => { results := [.lit (.bool false)], args := [d1, d2, d3, d4] }
  | _ => none }
def FnExactObserveLightWrongFalsely : Prop := fnExactObserveLightRow.holds Try.pinned (OpenSpec.ofChange fnExactObserveLightWrong)

/-- 'laws.FnExactMatchFrom': WHATEVER THE INPUT: true; the input reads as it did. -/
def fnExactMatchFromSpec : ChangeSpec := { name := "fnExactMatchFrom", fn := fun _ => fun
  | [d1, d2, d3, d4] => { results := [.lit (.bool true)], args := [d1, d2, d3, d4] }
  | _ => none }
def fnExactMatchFromRow : OpenClaim := { program := "ytemcmabogikndaa", sum := "55ee8896f69b29a88d210febb5e7c55d0807c3b0b28a2f59ffd5dcb33e73cca3", func := "loop.example/g00953/laws.FnExactMatchFrom", spec := "fnExactMatchFrom", inPlace := ["internal/bytealg.IndexByteString", "internal/bytealg.IndexString"], named := ["internal/bytealg.MaxLen"], apart := false }
def FnExactMatchFromSaid : Prop := fnExactMatchFromRow.holds Try.pinned (OpenSpec.ofChange fnExactMatchFromSpec)

/-- ITS FALSE NEIGHBOUR: 'it returns false'. Refute it at one input. -/
def fnExactMatchFromWrong : ChangeSpec := { name := "fnExactMatchFrom", fn := fun _ => fun
  | [d1, d2, d3, d4] => { results := [.lit (.bool false)], args := [d1, d2, d3, d4] }
  | _ => none }
def FnExactMatchFromWrongFalsely : Prop := fnExactMatchFromRow.holds Try.pinned (OpenSpec.ofChange fnExactMatchFromWrong)

/- THE SECOND FORM. 'bulk': how many values and letters a reading holds, each counted each time it is reached (what is shared counts as often as it is met; a slice's spare places count too). A statement '..UptoSaid' is the law's where the arguments, and the package variables that the reading takes, are together of bulk at most 1048576: NARROWER than '..Said'. Prove '..Said' where nothing that the law and all that it calls make is longer than what came in: it says more and counts as full. Else prove '..UptoSaid'. A law counts once. -/
mutual
def uptoBulk {H : Type} : DataW H → Nat
  | .lit (.string bytes) => bytes.length + 1
  | .lit _ => 1
  | .nil => 1
  | .ptr d => uptoBulk d + 1
  | .slice elems spare => uptoBulkAll elems + uptoBulkAll spare + 1
  | .agg parts => uptoBulkAll parts + 1
  | .iface _ d => uptoBulk d + 1
  | .map entries => uptoBulkEntries entries + 1
  | .held _ => 1
def uptoBulkAll {H : Type} : List (DataW H) → Nat
  | [] => 0
  | d :: r => uptoBulk d + uptoBulkAll r
def uptoBulkEntries {H : Type} : List (Lit × DataW H) → Nat
  | [] => 0
  | x :: r => uptoBulkEntry x + uptoBulkEntries r
def uptoBulkEntry {H : Type} : Lit × DataW H → Nat
  | (.string bytes, d) => bytes.length + uptoBulk d + 1
  | (_, d) => uptoBulk d + 1
 end
def uptoSmall : (H : Type) → List (DataW H) → Bool := fun _ ds => decide (uptoBulkAll ds ≤ 1048576)
def OpenSpec.upto (s : _root_.Go.ChangeSpec) : _root_.Go.OpenSpec := { _root_.Go.OpenSpec.ofChange s with cond := some uptoSmall }

/-- 'laws.FnExactLitShare', WHERE WHAT IT READS IS OF BULK AT MOST 1048576: true; the input reads as it did. -/
def fnExactLitShareUptoRow : OpenClaim := { program := "ytemcmabogikndaa", sum := "55ee8896f69b29a88d210febb5e7c55d0807c3b0b28a2f59ffd5dcb33e73cca3", func := "loop.example/g00953/laws.FnExactLitShare", spec := "fnExactLitShare", inPlace := ["internal/bytealg.IndexByteString"], apart := false, narrowed := true }
def FnExactLitShareUptoSaid : Prop := fnExactLitShareUptoRow.holds Try.pinned (OpenSpec.upto fnExactLitShareSpec)

/-- 'laws.FnExactDayUse', WHERE WHAT IT READS IS OF BULK AT MOST 1048576: true; the input reads as it did. -/
def fnExactDayUseUptoRow : OpenClaim := { program := "ytemcmabogikndaa", sum := "55ee8896f69b29a88d210febb5e7c55d0807c3b0b28a2f59ffd5dcb33e73cca3", func := "loop.example/g00953/laws.FnExactDayUse", spec := "fnExactDayUse", inPlace := ["internal/bytealg.IndexByteString"], apart := false, narrowed := true }
def FnExactDayUseUptoSaid : Prop := fnExactDayUseUptoRow.holds Try.pinned (OpenSpec.upto fnExactDayUseSpec)

/-- 'laws.FnExactAutonomyOf', WHERE WHAT IT READS IS OF BULK AT MOST 1048576: true; the input reads as it did. -/
def fnExactAutonomyOfUptoRow : OpenClaim := { program := "ytemcmabogikndaa", sum := "55ee8896f69b29a88d210febb5e7c55d0807c3b0b28a2f59ffd5dcb33e73cca3", func := "loop.example/g00953/laws.FnExactAutonomyOf", spec := "fnExactAutonomyOf", inPlace := ["internal/bytealg.IndexByteString"], apart := false, narrowed := true }
def FnExactAutonomyOfUptoSaid : Prop := fnExactAutonomyOfUptoRow.holds Try.pinned (OpenSpec.upto fnExactAutonomyOfSpec)

/-- 'laws.FnExactNextLevel', WHERE WHAT IT READS IS OF BULK AT MOST 1048576: true; the input reads as it did. -/
def fnExactNextLevelUptoRow : OpenClaim := { program := "ytemcmabogikndaa", sum := "55ee8896f69b29a88d210febb5e7c55d0807c3b0b28a2f59ffd5dcb33e73cca3", func := "loop.example/g00953/laws.FnExactNextLevel", spec := "fnExactNextLevel", inPlace := ["internal/bytealg.IndexByteString"], apart := false, narrowed := true }
def FnExactNextLevelUptoSaid : Prop := fnExactNextLevelUptoRow.holds Try.pinned (OpenSpec.upto fnExactNextLevelSpec)

/-- 'laws.FnExactPhasesOf', WHERE WHAT IT READS IS OF BULK AT MOST 1048576: true; the input reads as it did. -/
def fnExactPhasesOfUptoRow : OpenClaim := { program := "ytemcmabogikndaa", sum := "55ee8896f69b29a88d210febb5e7c55d0807c3b0b28a2f59ffd5dcb33e73cca3", func := "loop.example/g00953/laws.FnExactPhasesOf", spec := "fnExactPhasesOf", inPlace := ["internal/bytealg.IndexByteString", "internal/bytealg.IndexString"], named := ["internal/bytealg.MaxLen"], apart := false, narrowed := true }
def FnExactPhasesOfUptoSaid : Prop := fnExactPhasesOfUptoRow.holds Try.pinned (OpenSpec.upto fnExactPhasesOfSpec)

/-- 'laws.FnExactObserveLight', WHERE WHAT IT READS IS OF BULK AT MOST 1048576: true; the input reads as it did. -/
def fnExactObserveLightUptoRow : OpenClaim := { program := "ytemcmabogikndaa", sum := "55ee8896f69b29a88d210febb5e7c55d0807c3b0b28a2f59ffd5dcb33e73cca3", func := "loop.example/g00953/laws.FnExactObserveLight", spec := "fnExactObserveLight", inPlace := ["internal/bytealg.IndexByteString", "internal/bytealg.IndexString"], named := ["internal/bytealg.MaxLen"], apart := false, narrowed := true }
def FnExactObserveLightUptoSaid : Prop := fnExactObserveLightUptoRow.holds Try.pinned (OpenSpec.upto fnExactObserveLightSpec)

/-- 'laws.FnExactMatchFrom', WHERE WHAT IT READS IS OF BULK AT MOST 1048576: true; the input reads as it did. -/
def fnExactMatchFromUptoRow : OpenClaim := { program := "ytemcmabogikndaa", sum := "55ee8896f69b29a88d210febb5e7c55d0807c3b0b28a2f59ffd5dcb33e73cca3", func := "loop.example/g00953/laws.FnExactMatchFrom", spec := "fnExactMatchFrom", inPlace := ["internal/bytealg.IndexByteString", "internal/bytealg.IndexString"], named := ["internal/bytealg.MaxLen"], apart := false, narrowed := true }
def FnExactMatchFromUptoSaid : Prop := fnExactMatchFromUptoRow.holds Try.pinned (OpenSpec.upto fnExactMatchFromSpec)

end Rows
end Go.Proofs.Ytemcmabogikndaa
