
/- PhasesOf, both sides. -/
import Derived.Test.YtgibbhipjpbdfaaGreatCol
import Derived.Test.YtgibbhipjpbdfaaGreatChPhI
namespace Go.Proofs.YtgibbhipjpbdfaaGreat
open Go.RowKit
def phOf (x : Ch) (co : ByteArray) : List Ph × Int := if validB x = false then ([], 1) else if (colB co && hasC x.cs co) = false then ([], 3) else (phasesL x co, 0)
theorem PhasesOf_len (x : Ch) (co : ByteArray) : (phOf x co).1.length ≤ 101 := by
  unfold phOf
  split
  · simp
  split
  · simp
  · rename_i hv _
    exact (phases_len (valid_shape (by simpa using hv))).2
/-- The outcome: a list of phases in memory of the call's own, and a code. -/
def PhPost (w : World) (R : List Ph × Int) (e : Ending) (w' : World) : Prop := ∃ v, e = .returned (.tuple #[v, .int .i64 R.2]) ∧ w'.ownsRow w.heap.size 118 2 v R.1.length (R.1.flatMap Ph.cells) ∧ Below w.heap.size w w'
theorem phPost_nil {w w' : World} {R : List Ph × Int} {code : Int} (h : R = ([], code)) (hb : Below w.heap.size w w') : PhPost w R (.returned (.tuple #[.slice none 0 0, .int .i64 code])) w' := by
  subst h
  exact ⟨_, rfl, World.ownsRow_nil _ _ _ _, hb⟩
end Go.Proofs.YtgibbhipjpbdfaaGreat
