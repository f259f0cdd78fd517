/-
  No cell of these rows narrows 'for every input' (looked for: loops, veiled, ifaces, maps, wideKeys, modest, calm, conditions, laid).
  DERIVED. THE GIVEN ROWS OF THIS SEAT. 5 by the template 'for every input the law returns true; each argument reads behind the call as it read before'; 0 by the template 'total and deterministic' (their statements: YtpgcgmbjlecnpaaGreatTotals.lean).
  GIVEN WITH THE SEED: the statements are not yours to turn. If you find one false, say at which input.
  Laid BY PROGRAM, IN A SANDBOX (cutbox-rows.mjs): the forced cells as the released guide's own fill.sh prints them over the translation ea943af4896771e0… (all of the seat's roots in one cut). By AI agents, Wed Nov 11 2026. No macro, syntax, notation, axiom, sorry.
-/
import Derived.Test.YtpgcgmbjlecnpaaGreatChecked
import GoSem.Claim
import GoSem.ClaimJoined
import GoSem.ClaimMapViews
import Derived.JoinedTies
import Derived.KernelRfl
namespace Go.Proofs.YtpgcgmbjlecnpaaGreat
/- THE CELL 'sum', in the pinned program and in every row, IS THE sha256 OF THE DUMP (.gsa) THAT YtpgcgmbjlecnpaaGreatProg.lean LOADS. Nothing in Lean hashes anything: it is a label: what it is worth is what the hold of that sum in a sandbox is worth. -/
noncomputable def Tryz.pinned : Pinned := { name := "ytpgcgmbjlecnpaagreat", sum := "ea943af4896771e0ffea77e9cbf260e33140f159f5e923f418bf56ed81a4f4e3", checked := Tryz.checked }
namespace Rows
def none {H : Type} : Left H := { results := [], args := [] }

/-- 'laws.FnExactLastsThrough': WHATEVER THE INPUT: true; the input reads as it did. -/
def fnExactLastsThroughSpec : ChangeSpec := { name := "fnExactLastsThrough", fn := fun _ => fun
  | [d1, d2, d3, d4, d5] => { results := [.lit (.bool true)], args := [d1, d2, d3, d4, d5] }
  | _ => none }
def fnExactLastsThroughRow : OpenClaim := { program := "ytpgcgmbjlecnpaagreat", sum := "ea943af4896771e0ffea77e9cbf260e33140f159f5e923f418bf56ed81a4f4e3", func := "loop.example/g00953/laws.FnExactLastsThrough", spec := "fnExactLastsThrough", inPlace := ["internal/bytealg.IndexByteString"], recurses := true, apart := false }
def FnExactLastsThroughSaid : Prop := fnExactLastsThroughRow.holds Tryz.pinned (OpenSpec.ofChange fnExactLastsThroughSpec)

/-- ITS FALSE NEIGHBOUR: 'it returns false'. Refute it at one input. -/
def fnExactLastsThroughWrong : ChangeSpec := { name := "fnExactLastsThrough", fn := fun _ => fun
  | [d1, d2, d3, d4, d5] => { results := [.lit (.bool false)], args := [d1, d2, d3, d4, d5] }
  | _ => none }
def FnExactLastsThroughWrongFalsely : Prop := fnExactLastsThroughRow.holds Tryz.pinned (OpenSpec.ofChange fnExactLastsThroughWrong)

/-- 'laws.FnExactLevelsOf': WHATEVER THE INPUT: true; the input reads as it did. -/
def fnExactLevelsOfSpec : ChangeSpec := { name := "fnExactLevelsOf", fn := fun _ => fun
  | [d1, d2, d3, d4, d5] => { results := [.lit (.bool true)], args := [d1, d2, d3, d4, d5] }
  | _ => none }
def fnExactLevelsOfRow : OpenClaim := { program := "ytpgcgmbjlecnpaagreat", sum := "ea943af4896771e0ffea77e9cbf260e33140f159f5e923f418bf56ed81a4f4e3", func := "loop.example/g00953/laws.FnExactLevelsOf", spec := "fnExactLevelsOf", inPlace := ["internal/bytealg.IndexByteString"], recurses := true, apart := false }
def FnExactLevelsOfSaid : Prop := fnExactLevelsOfRow.holds Tryz.pinned (OpenSpec.ofChange fnExactLevelsOfSpec)

/-- ITS FALSE NEIGHBOUR: 'it returns false'. Refute it at one input. -/
def fnExactLevelsOfWrong : ChangeSpec := { name := "fnExactLevelsOf", fn := fun _ => fun
  | [d1, d2, d3, d4, d5] => { results := [.lit (.bool false)], args := [d1, d2, d3, d4, d5] }
  | _ => none }
def FnExactLevelsOfWrongFalsely : Prop := fnExactLevelsOfRow.holds Tryz.pinned (OpenSpec.ofChange fnExactLevelsOfWrong)

/-- 'laws.FnExactLeastBattery': WHATEVER THE INPUT: true; the input reads as it did. -/
def fnExactLeastBatterySpec : ChangeSpec := { name := "fnExactLeastBattery", fn := fun _ => fun
  | [d1, d2, d3, d4, d5] => { results := [.lit (.bool true)], args := [d1, d2, d3, d4, d5] }
  | _ => none }
def fnExactLeastBatteryRow : OpenClaim := { program := "ytpgcgmbjlecnpaagreat", sum := "ea943af4896771e0ffea77e9cbf260e33140f159f5e923f418bf56ed81a4f4e3", func := "loop.example/g00953/laws.FnExactLeastBattery", spec := "fnExactLeastBattery", inPlace := ["internal/bytealg.IndexByteString"], unfollowed := true, recurses := true, apart := false }
def FnExactLeastBatterySaid : Prop := fnExactLeastBatteryRow.holds Tryz.pinned (OpenSpec.ofChange fnExactLeastBatterySpec)

/-- ITS FALSE NEIGHBOUR: 'it returns false'. Refute it at one input. -/
def fnExactLeastBatteryWrong : ChangeSpec := { name := "fnExactLeastBattery", fn := fun _ => fun
  | [d1, d2, d3, d4, d5] => { results := [.lit (.bool false)], args := [d1, d2, d3, d4, d5] }
  | _ => none }
def FnExactLeastBatteryWrongFalsely : Prop := fnExactLeastBatteryRow.holds Tryz.pinned (OpenSpec.ofChange fnExactLeastBatteryWrong)

/-- 'laws.FnExactLeastPanel': WHATEVER THE INPUT: true; the input reads as it did. -/
def fnExactLeastPanelSpec : ChangeSpec := { name := "fnExactLeastPanel", fn := fun _ => fun
  | [d1, d2, d3, d4, d5] => { results := [.lit (.bool true)], args := [d1, d2, d3, d4, d5] }
  | _ => none }
def fnExactLeastPanelRow : OpenClaim := { program := "ytpgcgmbjlecnpaagreat", sum := "ea943af4896771e0ffea77e9cbf260e33140f159f5e923f418bf56ed81a4f4e3", func := "loop.example/g00953/laws.FnExactLeastPanel", spec := "fnExactLeastPanel", inPlace := ["internal/bytealg.IndexByteString"], unfollowed := true, recurses := true, apart := false }
def FnExactLeastPanelSaid : Prop := fnExactLeastPanelRow.holds Tryz.pinned (OpenSpec.ofChange fnExactLeastPanelSpec)

/-- ITS FALSE NEIGHBOUR: 'it returns false'. Refute it at one input. -/
def fnExactLeastPanelWrong : ChangeSpec := { name := "fnExactLeastPanel", fn := fun _ => fun
  | [d1, d2, d3, d4, d5] => { results := [.lit (.bool false)], args := [d1, d2, d3, d4, d5] }
  | _ => none }
def FnExactLeastPanelWrongFalsely : Prop := fnExactLeastPanelRow.holds Tryz.pinned (OpenSpec.ofChange fnExactLeastPanelWrong)

/-- 'laws.FnYear': WHATEVER THE INPUT: true; the input reads as it did. -/
def fnYearSpec : ChangeSpec := { name := "fnYear", fn := fun _ => fun
  | [d1, d2] => { results := [.lit (.bool true)], args := [d1, d2] }
  | _ => none }
def fnYearRow : OpenClaim := { program := "ytpgcgmbjlecnpaagreat", sum := "ea943af4896771e0ffea77e9cbf260e33140f159f5e923f418bf56ed81a4f4e3", func := "loop.example/g00953/laws.FnYear", spec := "fnYear", inPlace := ["internal/bytealg.IndexByteString"], unfollowed := true, recurses := true, apart := false }
def FnYearSaid : Prop := fnYearRow.holds Tryz.pinned (OpenSpec.ofChange fnYearSpec)

/-- ITS FALSE NEIGHBOUR: 'it returns false'. Refute it at one input. -/
def fnYearWrong : ChangeSpec := { name := "fnYear", fn := fun _ => fun
  | [d1, d2] => { results := [.lit (.bool false)], args := [d1, d2] }
  | _ => none }
def FnYearWrongFalsely : Prop := fnYearRow.holds Tryz.pinned (OpenSpec.ofChange fnYearWrong)

/- THE SECOND FORM. 'bulk': how many values and letters a reading holds, each counted each time it is reached (what is shared counts as often as it is met; a slice's spare places count too). A statement '..UptoSaid' is the law's where the arguments, and the package variables that the reading takes, are together of bulk at most 1048576: NARROWER than '..Said'. Prove '..Said' where nothing that the law and all that it calls make is longer than what came in: it says more and counts as full. Else prove '..UptoSaid'. A law counts once. -/
mutual
def uptoBulk {H : Type} : DataW H → Nat
  | .lit (.string bytes) => bytes.length + 1
  | .lit _ => 1
  | .nil => 1
  | .ptr d => uptoBulk d + 1
  | .slice elems spare => uptoBulkAll elems + uptoBulkAll spare + 1
  | .agg parts => uptoBulkAll parts + 1
  | .iface _ d => uptoBulk d + 1
  | .map entries => uptoBulkEntries entries + 1
  | .held _ => 1
def uptoBulkAll {H : Type} : List (DataW H) → Nat
  | [] => 0
  | d :: r => uptoBulk d + uptoBulkAll r
def uptoBulkEntries {H : Type} : List (Lit × DataW H) → Nat
  | [] => 0
  | x :: r => uptoBulkEntry x + uptoBulkEntries r
def uptoBulkEntry {H : Type} : Lit × DataW H → Nat
  | (.string bytes, d) => bytes.length + uptoBulk d + 1
  | (_, d) => uptoBulk d + 1
 end
def uptoSmall : (H : Type) → List (DataW H) → Bool := fun _ ds => decide (uptoBulkAll ds ≤ 1048576)
def OpenSpec.upto (s : _root_.Go.ChangeSpec) : _root_.Go.OpenSpec := { _root_.Go.OpenSpec.ofChange s with cond := some uptoSmall }

/-- 'laws.FnExactLastsThrough', WHERE WHAT IT READS IS OF BULK AT MOST 1048576: true; the input reads as it did. -/
def fnExactLastsThroughUptoRow : OpenClaim := { program := "ytpgcgmbjlecnpaagreat", sum := "ea943af4896771e0ffea77e9cbf260e33140f159f5e923f418bf56ed81a4f4e3", func := "loop.example/g00953/laws.FnExactLastsThrough", spec := "fnExactLastsThrough", inPlace := ["internal/bytealg.IndexByteString"], recurses := true, apart := false, narrowed := true }
def FnExactLastsThroughUptoSaid : Prop := fnExactLastsThroughUptoRow.holds Tryz.pinned (OpenSpec.upto fnExactLastsThroughSpec)

/-- 'laws.FnExactLevelsOf', WHERE WHAT IT READS IS OF BULK AT MOST 1048576: true; the input reads as it did. -/
def fnExactLevelsOfUptoRow : OpenClaim := { program := "ytpgcgmbjlecnpaagreat", sum := "ea943af4896771e0ffea77e9cbf260e33140f159f5e923f418bf56ed81a4f4e3", func := "loop.example/g00953/laws.FnExactLevelsOf", spec := "fnExactLevelsOf", inPlace := ["internal/bytealg.IndexByteString"], recurses := true, apart := false, narrowed := true }
def FnExactLevelsOfUptoSaid : Prop := fnExactLevelsOfUptoRow.holds Tryz.pinned (OpenSpec.upto fnExactLevelsOfSpec)

/-- 'laws.FnExactLeastBattery', WHERE WHAT IT READS IS OF BULK AT MOST 1048576: true; the input reads as it did. -/
def fnExactLeastBatteryUptoRow : OpenClaim := { program := "ytpgcgmbjlecnpaagreat", sum := "ea943af4896771e0ffea77e9cbf260e33140f159f5e923f418bf56ed81a4f4e3", func := "loop.example/g00953/laws.FnExactLeastBattery", spec := "fnExactLeastBattery", inPlace := ["internal/bytealg.IndexByteString"], unfollowed := true, recurses := true, apart := false, narrowed := true }
def FnExactLeastBatteryUptoSaid : Prop := fnExactLeastBatteryUptoRow.holds Tryz.pinned (OpenSpec.upto fnExactLeastBatterySpec)

/-- 'laws.FnExactLeastPanel', WHERE WHAT IT READS IS OF BULK AT MOST 1048576: true; the input reads as it did. -/
def fnExactLeastPanelUptoRow : OpenClaim := { program := "ytpgcgmbjlecnpaagreat", sum := "ea943af4896771e0ffea77e9cbf260e33140f159f5e923f418bf56ed81a4f4e3", func := "loop.example/g00953/laws.FnExactLeastPanel", spec := "fnExactLeastPanel", inPlace := ["internal/bytealg.IndexByteString"], unfollowed := true, recurses := true, apart := false, narrowed := true }
def FnExactLeastPanelUptoSaid : Prop := fnExactLeastPanelUptoRow.holds Tryz.pinned (OpenSpec.upto fnExactLeastPanelSpec)

/-- 'laws.FnYear', WHERE WHAT IT READS IS OF BULK AT MOST 1048576: true; the input reads as it did. -/
def fnYearUptoRow : OpenClaim := { program := "ytpgcgmbjlecnpaagreat", sum := "ea943af4896771e0ffea77e9cbf260e33140f159f5e923f418bf56ed81a4f4e3", func := "loop.example/g00953/laws.FnYear", spec := "fnYear", inPlace := ["internal/bytealg.IndexByteString"], unfollowed := true, recurses := true, apart := false, narrowed := true }
def FnYearUptoSaid : Prop := fnYearUptoRow.holds Tryz.pinned (OpenSpec.upto fnYearSpec)

end Rows
end Go.Proofs.YtpgcgmbjlecnpaaGreat
