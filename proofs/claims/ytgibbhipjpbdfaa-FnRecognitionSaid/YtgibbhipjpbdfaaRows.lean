/-
  No cell of these rows narrows 'for every input' (looked for: loops, veiled, ifaces, maps, wideKeys, modest, calm, conditions, laid).
  DERIVED. THE GIVEN ROWS OF THIS SEAT. 2 by the template 'for every input the law returns true; each argument reads behind the call as it read before'; 0 by the template 'total and deterministic' (their statements: YtgibbhipjpbdfaaTotals.lean).
  GIVEN WITH THE SEED: the statements are not yours to turn. If you find one false, say at which input.
  Laid BY PROGRAM, IN A SANDBOX (cutbox-rows.mjs): the forced cells as the released guide's own fill.sh prints them over the translation 64cc00e9ee5b484f… (all of the seat's roots in one cut). By AI agents, Wed Nov 11 2026. No macro, syntax, notation, axiom, sorry.
-/
import Derived.Test.YtgibbhipjpbdfaaChecked
import GoSem.Claim
import GoSem.ClaimJoined
import GoSem.ClaimMapViews
import Derived.JoinedTies
import Derived.KernelRfl
namespace Go.Proofs.Ytgibbhipjpbdfaa
/- THE CELL 'sum', in the pinned program and in every row, IS THE sha256 OF THE DUMP (.gsa) THAT YtgibbhipjpbdfaaProg.lean LOADS. Nothing in Lean hashes anything: it is a label: what it is worth is what the hold of that sum in a sandbox is worth. -/
noncomputable def Try.pinned : Pinned := { name := "ytgibbhipjpbdfaa", sum := "64cc00e9ee5b484fa171619fd469e2b2a81487a4079d7578b3ccb61afc8ef3a8", checked := Try.checked }
namespace Rows
def none {H : Type} : Left H := { results := [], args := [] }

/-- 'laws.FnExactRecognizeCharacter': WHATEVER THE INPUT: true; the input reads as it did. -/
def fnExactRecognizeCharacterSpec : ChangeSpec := { name := "fnExactRecognizeCharacter", fn := fun _ => fun
  | [d] => { results := [.lit (.bool true)], args := [d] }
  | _ => none }
def fnExactRecognizeCharacterRow : OpenClaim := { program := "ytgibbhipjpbdfaa", sum := "64cc00e9ee5b484fa171619fd469e2b2a81487a4079d7578b3ccb61afc8ef3a8", func := "loop.example/g00953/laws.FnExactRecognizeCharacter", spec := "fnExactRecognizeCharacter", inPlace := ["internal/bytealg.IndexByteString", "internal/bytealg.IndexString"], recurses := true, named := ["internal/bytealg.MaxLen"], apart := false }
def FnExactRecognizeCharacterSaid : Prop := fnExactRecognizeCharacterRow.holds Try.pinned (OpenSpec.ofChange fnExactRecognizeCharacterSpec)

/-- ITS FALSE NEIGHBOUR: 'it returns false'. Refute it at one input. -/
def fnExactRecognizeCharacterWrong : ChangeSpec := { name := "fnExactRecognizeCharacter", fn := fun _ => fun
  | [d] => { results := [.lit (.bool false)], args := [d] }
  | _ => none }
def FnExactRecognizeCharacterWrongFalsely : Prop := fnExactRecognizeCharacterRow.holds Try.pinned (OpenSpec.ofChange fnExactRecognizeCharacterWrong)

/-- 'laws.FnRecognition': WHATEVER THE INPUT: true; the input reads as it did. -/
def fnRecognitionSpec : ChangeSpec := { name := "fnRecognition", fn := fun _ => fun
  | [d1, d2] => { results := [.lit (.bool true)], args := [d1, d2] }
  | _ => none }
def fnRecognitionRow : OpenClaim := { program := "ytgibbhipjpbdfaa", sum := "64cc00e9ee5b484fa171619fd469e2b2a81487a4079d7578b3ccb61afc8ef3a8", func := "loop.example/g00953/laws.FnRecognition", spec := "fnRecognition", inPlace := ["internal/bytealg.IndexByteString", "internal/bytealg.IndexString"], named := ["internal/bytealg.MaxLen"], apart := false }
def FnRecognitionSaid : Prop := fnRecognitionRow.holds Try.pinned (OpenSpec.ofChange fnRecognitionSpec)

/-- ITS FALSE NEIGHBOUR: 'it returns false'. Refute it at one input. -/
def fnRecognitionWrong : ChangeSpec := { name := "fnRecognition", fn := fun _ => fun
  | [d1, d2] => { results := [.lit (.bool false)], args := [d1, d2] }
  | _ => none }
def FnRecognitionWrongFalsely : Prop := fnRecognitionRow.holds Try.pinned (OpenSpec.ofChange fnRecognitionWrong)

/- THE SECOND FORM. 'bulk': how many values and letters a reading holds, each counted each time it is reached (what is shared counts as often as it is met; a slice's spare places count too). A statement '..UptoSaid' is the law's where the arguments, and the package variables that the reading takes, are together of bulk at most 1048576: NARROWER than '..Said'. Prove '..Said' where nothing that the law and all that it calls make is longer than what came in: it says more and counts as full. Else prove '..UptoSaid'. A law counts once. -/
mutual
def uptoBulk {H : Type} : DataW H → Nat
  | .lit (.string bytes) => bytes.length + 1
  | .lit _ => 1
  | .nil => 1
  | .ptr d => uptoBulk d + 1
  | .slice elems spare => uptoBulkAll elems + uptoBulkAll spare + 1
  | .agg parts => uptoBulkAll parts + 1
  | .iface _ d => uptoBulk d + 1
  | .map entries => uptoBulkEntries entries + 1
  | .held _ => 1
def uptoBulkAll {H : Type} : List (DataW H) → Nat
  | [] => 0
  | d :: r => uptoBulk d + uptoBulkAll r
def uptoBulkEntries {H : Type} : List (Lit × DataW H) → Nat
  | [] => 0
  | x :: r => uptoBulkEntry x + uptoBulkEntries r
def uptoBulkEntry {H : Type} : Lit × DataW H → Nat
  | (.string bytes, d) => bytes.length + uptoBulk d + 1
  | (_, d) => uptoBulk d + 1
 end
def uptoSmall : (H : Type) → List (DataW H) → Bool := fun _ ds => decide (uptoBulkAll ds ≤ 1048576)
def OpenSpec.upto (s : _root_.Go.ChangeSpec) : _root_.Go.OpenSpec := { _root_.Go.OpenSpec.ofChange s with cond := some uptoSmall }

/-- 'laws.FnExactRecognizeCharacter', WHERE WHAT IT READS IS OF BULK AT MOST 1048576: true; the input reads as it did. -/
def fnExactRecognizeCharacterUptoRow : OpenClaim := { program := "ytgibbhipjpbdfaa", sum := "64cc00e9ee5b484fa171619fd469e2b2a81487a4079d7578b3ccb61afc8ef3a8", func := "loop.example/g00953/laws.FnExactRecognizeCharacter", spec := "fnExactRecognizeCharacter", inPlace := ["internal/bytealg.IndexByteString", "internal/bytealg.IndexString"], recurses := true, named := ["internal/bytealg.MaxLen"], apart := false, narrowed := true }
def FnExactRecognizeCharacterUptoSaid : Prop := fnExactRecognizeCharacterUptoRow.holds Try.pinned (OpenSpec.upto fnExactRecognizeCharacterSpec)

/-- 'laws.FnRecognition', WHERE WHAT IT READS IS OF BULK AT MOST 1048576: true; the input reads as it did. -/
def fnRecognitionUptoRow : OpenClaim := { program := "ytgibbhipjpbdfaa", sum := "64cc00e9ee5b484fa171619fd469e2b2a81487a4079d7578b3ccb61afc8ef3a8", func := "loop.example/g00953/laws.FnRecognition", spec := "fnRecognition", inPlace := ["internal/bytealg.IndexByteString", "internal/bytealg.IndexString"], named := ["internal/bytealg.MaxLen"], apart := false, narrowed := true }
def FnRecognitionUptoSaid : Prop := fnRecognitionUptoRow.holds Try.pinned (OpenSpec.upto fnRecognitionSpec)

end Rows
end Go.Proofs.Ytgibbhipjpbdfaa
