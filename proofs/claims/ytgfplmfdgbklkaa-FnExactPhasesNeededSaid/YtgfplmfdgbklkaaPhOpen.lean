/- What the reader gives of a []Phase argument. -/
import Derived.Test.YtgfplmfdgbklkaaChOpen
import Derived.Test.YtgfplmfdgbklkaaPhLaw
namespace Go.Proofs.Ytgfplmfdgbklkaa
open Go.ChangeShapes Go.WideShapes Go.ChangeAt Go.RowKit Go.Deep
theorem phase_trod {H : Type} {en : TypeId × Value → H} {w : World} {base : Nat} {spare : Nat → Bool} {held : Bool} (m : Nat) (cs : List Value) (y : DataW H × List MemPlace) (h : DataW.trod en Try.prog w base spare held m 74 cs = some y) :
    ∃ p : Ph, cs = p.cells ∧ p.c.size ≤ maxLen := by
  have hl := struct_len Try.underlying74 h 2 (by kernel_rfl)
  match cs, hl with
  | [a, b], _ =>
    obtain ⟨_, _, g0⟩ := struct_field Try.underlying74 h 0 _ rfl 1 (by kernel_rfl) [a] rfl
    obtain ⟨_, _, g1⟩ := struct_field Try.underlying74 h 1 _ rfl 1 (by kernel_rfl) [b] rfl
    obtain ⟨x0, e0, _, hx0⟩ := DataW.trod_string Try.underlying9 g0
    obtain ⟨x1, e1, _, _⟩ := DataW.trod_int Try.underlying2 g1
    simp only [List.cons.injEq, and_true] at e0 e1
    subst e0 e1
    exact ⟨⟨x0, x1⟩, rfl, hx0⟩
end Go.Proofs.Ytgfplmfdgbklkaa
