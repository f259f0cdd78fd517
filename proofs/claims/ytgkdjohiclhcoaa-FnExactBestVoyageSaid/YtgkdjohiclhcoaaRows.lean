/-
  No cell of these rows narrows 'for every input' (looked for: loops, veiled, ifaces, maps, wideKeys, modest, calm, conditions, laid).
  DERIVED. THE GIVEN ROWS OF THIS SEAT. 3 by the template 'for every input the law returns true; each argument reads behind the call as it read before'; 0 by the template 'total and deterministic' (their statements: YtgkdjohiclhcoaaTotals.lean).
  GIVEN WITH THE SEED: the statements are not yours to turn. If you find one false, say at which input.
  Laid BY PROGRAM, IN A SANDBOX (cutbox-rows.mjs): the forced cells as the released guide's own fill.sh prints them over the translation 510781842dcec43f… (all of the seat's roots in one cut). By AI agents, Wed Nov 11 2026. No macro, syntax, notation, axiom, sorry.
-/
import Derived.Test.YtgkdjohiclhcoaaChecked
import GoSem.Claim
import GoSem.ClaimJoined
import GoSem.ClaimMapViews
import Derived.JoinedTies
import Derived.KernelRfl
namespace Go.Proofs.Ytgkdjohiclhcoaa
/- THE CELL 'sum', in the pinned program and in every row, IS THE sha256 OF THE DUMP (.gsa) THAT YtgkdjohiclhcoaaProg.lean LOADS. Nothing in Lean hashes anything: it is a label: what it is worth is what the hold of that sum in a sandbox is worth. -/
noncomputable def Try.pinned : Pinned := { name := "ytgkdjohiclhcoaa", sum := "510781842dcec43f368425f23c053774f08b4360eed3d8326a781d50a45a77b0", checked := Try.checked }
namespace Rows
def none {H : Type} : Left H := { results := [], args := [] }

/-- 'laws.FnExactBestVoyage': WHATEVER THE INPUT: true; the input reads as it did. -/
def fnExactBestVoyageSpec : ChangeSpec := { name := "fnExactBestVoyage", fn := fun _ => fun
  | [d1, d2, d3, d4, d5] => { results := [.lit (.bool true)], args := [d1, d2, d3, d4, d5] }
  | _ => none }
def fnExactBestVoyageRow : OpenClaim := { program := "ytgkdjohiclhcoaa", sum := "510781842dcec43f368425f23c053774f08b4360eed3d8326a781d50a45a77b0", func := "loop.example/g00953/laws.FnExactBestVoyage", spec := "fnExactBestVoyage", unfollowed := true, recurses := true, apart := false }
def FnExactBestVoyageSaid : Prop := fnExactBestVoyageRow.holds Try.pinned (OpenSpec.ofChange fnExactBestVoyageSpec)

/-- ITS FALSE NEIGHBOUR: 'it returns false'. Refute it at one input. -/
def fnExactBestVoyageWrong : ChangeSpec := { name := "fnExactBestVoyage", fn := fun _ => fun
  | [d1, d2, d3, d4, d5] => { results := [.lit (.bool false)], args := [d1, d2, d3, d4, d5] }
  | _ => none }
def FnExactBestVoyageWrongFalsely : Prop := fnExactBestVoyageRow.holds Try.pinned (OpenSpec.ofChange fnExactBestVoyageWrong)

/-- 'laws.FnGreedy': WHATEVER THE INPUT: true; the input reads as it did. -/
def fnGreedySpec : ChangeSpec := { name := "fnGreedy", fn := fun _ => fun
  | [d1, d2] => { results := [.lit (.bool true)], args := [d1, d2] }
  | _ => none }
def fnGreedyRow : OpenClaim := { program := "ytgkdjohiclhcoaa", sum := "510781842dcec43f368425f23c053774f08b4360eed3d8326a781d50a45a77b0", func := "loop.example/g00953/laws.FnGreedy", spec := "fnGreedy", inPlace := ["slices.overlaps[int64]"], apart := false }
def FnGreedySaid : Prop := fnGreedyRow.holds Try.pinned (OpenSpec.ofChange fnGreedySpec)

/-- ITS FALSE NEIGHBOUR: 'it returns false'. Refute it at one input. -/
def fnGreedyWrong : ChangeSpec := { name := "fnGreedy", fn := fun _ => fun
  | [d1, d2] => { results := [.lit (.bool false)], args := [d1, d2] }
  | _ => none }
def FnGreedyWrongFalsely : Prop := fnGreedyRow.holds Try.pinned (OpenSpec.ofChange fnGreedyWrong)

/-- 'laws.FnExactImproveVoyage': WHATEVER THE INPUT: true; the input reads as it did. -/
def fnExactImproveVoyageSpec : ChangeSpec := { name := "fnExactImproveVoyage", fn := fun _ => fun
  | [d1, d2, d3, d4, d5] => { results := [.lit (.bool true)], args := [d1, d2, d3, d4, d5] }
  | _ => none }
def fnExactImproveVoyageRow : OpenClaim := { program := "ytgkdjohiclhcoaa", sum := "510781842dcec43f368425f23c053774f08b4360eed3d8326a781d50a45a77b0", func := "loop.example/g00953/laws.FnExactImproveVoyage", spec := "fnExactImproveVoyage", inPlace := ["slices.overlaps[int64]"], apart := false }
def FnExactImproveVoyageSaid : Prop := fnExactImproveVoyageRow.holds Try.pinned (OpenSpec.ofChange fnExactImproveVoyageSpec)

/-- ITS FALSE NEIGHBOUR: 'it returns false'. Refute it at one input. -/
def fnExactImproveVoyageWrong : ChangeSpec := { name := "fnExactImproveVoyage", fn := fun _ => fun
  | [d1, d2, d3, d4, d5] => { results := [.lit (.bool false)], args := [d1, d2, d3, d4, d5] }
  | _ => none }
def FnExactImproveVoyageWrongFalsely : Prop := fnExactImproveVoyageRow.holds Try.pinned (OpenSpec.ofChange fnExactImproveVoyageWrong)

/- THE SECOND FORM. 'bulk': how many values and letters a reading holds, each counted each time it is reached (what is shared counts as often as it is met; a slice's spare places count too). A statement '..UptoSaid' is the law's where the arguments, and the package variables that the reading takes, are together of bulk at most 1048576: NARROWER than '..Said'. Prove '..Said' where nothing that the law and all that it calls make is longer than what came in: it says more and counts as full. Else prove '..UptoSaid'. A law counts once. -/
mutual
def uptoBulk {H : Type} : DataW H → Nat
  | .lit (.string bytes) => bytes.length + 1
  | .lit _ => 1
  | .nil => 1
  | .ptr d => uptoBulk d + 1
  | .slice elems spare => uptoBulkAll elems + uptoBulkAll spare + 1
  | .agg parts => uptoBulkAll parts + 1
  | .iface _ d => uptoBulk d + 1
  | .map entries => uptoBulkEntries entries + 1
  | .held _ => 1
def uptoBulkAll {H : Type} : List (DataW H) → Nat
  | [] => 0
  | d :: r => uptoBulk d + uptoBulkAll r
def uptoBulkEntries {H : Type} : List (Lit × DataW H) → Nat
  | [] => 0
  | x :: r => uptoBulkEntry x + uptoBulkEntries r
def uptoBulkEntry {H : Type} : Lit × DataW H → Nat
  | (.string bytes, d) => bytes.length + uptoBulk d + 1
  | (_, d) => uptoBulk d + 1
 end
def uptoSmall : (H : Type) → List (DataW H) → Bool := fun _ ds => decide (uptoBulkAll ds ≤ 1048576)
def OpenSpec.upto (s : _root_.Go.ChangeSpec) : _root_.Go.OpenSpec := { _root_.Go.OpenSpec.ofChange s with cond := some uptoSmall }

/-- 'laws.FnExactBestVoyage', WHERE WHAT IT READS IS OF BULK AT MOST 1048576: true; the input reads as it did. -/
def fnExactBestVoyageUptoRow : OpenClaim := { program := "ytgkdjohiclhcoaa", sum := "510781842dcec43f368425f23c053774f08b4360eed3d8326a781d50a45a77b0", func := "loop.example/g00953/laws.FnExactBestVoyage", spec := "fnExactBestVoyage", unfollowed := true, recurses := true, apart := false, narrowed := true }
def FnExactBestVoyageUptoSaid : Prop := fnExactBestVoyageUptoRow.holds Try.pinned (OpenSpec.upto fnExactBestVoyageSpec)

/-- 'laws.FnGreedy', WHERE WHAT IT READS IS OF BULK AT MOST 1048576: true; the input reads as it did. -/
def fnGreedyUptoRow : OpenClaim := { program := "ytgkdjohiclhcoaa", sum := "510781842dcec43f368425f23c053774f08b4360eed3d8326a781d50a45a77b0", func := "loop.example/g00953/laws.FnGreedy", spec := "fnGreedy", inPlace := ["slices.overlaps[int64]"], apart := false, narrowed := true }
def FnGreedyUptoSaid : Prop := fnGreedyUptoRow.holds Try.pinned (OpenSpec.upto fnGreedySpec)

/-- 'laws.FnExactImproveVoyage', WHERE WHAT IT READS IS OF BULK AT MOST 1048576: true; the input reads as it did. -/
def fnExactImproveVoyageUptoRow : OpenClaim := { program := "ytgkdjohiclhcoaa", sum := "510781842dcec43f368425f23c053774f08b4360eed3d8326a781d50a45a77b0", func := "loop.example/g00953/laws.FnExactImproveVoyage", spec := "fnExactImproveVoyage", inPlace := ["slices.overlaps[int64]"], apart := false, narrowed := true }
def FnExactImproveVoyageUptoSaid : Prop := fnExactImproveVoyageUptoRow.holds Try.pinned (OpenSpec.upto fnExactImproveVoyageSpec)

end Rows
end Go.Proofs.Ytgkdjohiclhcoaa
