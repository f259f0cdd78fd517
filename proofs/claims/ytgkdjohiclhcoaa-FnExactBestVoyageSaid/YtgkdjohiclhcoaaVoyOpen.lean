/- What the reader gives of ships, works and orders. -/
import Derived.Test.YtgkdjohiclhcoaaVoy
import Derived.Test.YtgkdjohiclhcoaaOpen
namespace Go.Proofs.Ytgkdjohiclhcoaa
open Go.ChangeShapes Go.WideShapes Go.ChangeAt Go.RowKit Go.Deep
section
variable {H : Type} {en : TypeId × Value → H} {w : World} {base : Nat} {spare : Nat → Bool} {held : Bool}
theorem i64_trod (m : Nat) (cs : List Value) (y : DataW H × List MemPlace) (h : DataW.trod en Try.prog w base spare held m 2 cs = some y) : ∃ s : Int, cs = intC s ∧ True := by
  obtain ⟨x, e0, _, _⟩ := DataW.trod_int Try.underlying2 h
  exact ⟨x, e0, trivial⟩
theorem vpoint_trod (m : Nat) (cs : List Value) (y : DataW H × List MemPlace) (h : DataW.trod en Try.prog w base spare held m 25 cs = some y) : ∃ a b : Int, cs = [.int .i64 a, .int .i64 b] := by
  have hl := struct_len Try.underlying25 h 2 (by kernel_rfl)
  match cs, hl with
  | [a, b], _ =>
    obtain ⟨_, _, g0⟩ := struct_field Try.underlying25 h 0 _ rfl 1 (by kernel_rfl) [a] rfl
    obtain ⟨_, _, g1⟩ := struct_field Try.underlying25 h 1 _ rfl 1 (by kernel_rfl) [b] rfl
    obtain ⟨x0, e0, _, _⟩ := DataW.trod_int Try.underlying2 g0
    obtain ⟨x1, e1, _, _⟩ := DataW.trod_int Try.underlying2 g1
    simp only [List.cons.injEq, and_true] at e0 e1
    subst e0 e1
    exact ⟨_, _, rfl⟩
theorem ship_trod (m : Nat) (cs : List Value) (y : DataW H × List MemPlace) (h : DataW.trod en Try.prog w base spare held m 23 cs = some y) :
    ∃ s : Sh, cs = [.string s.name, .int .i64 s.sp, .int .i64 s.ld, .int .i64 s.dr] ∧ s.name.size ≤ maxLen := by
  have hl := struct_len Try.underlying23 h 4 (by kernel_rfl)
  match cs, hl with
  | [a, b, c, d], _ =>
    obtain ⟨_, _, g0⟩ := struct_field Try.underlying23 h 0 _ rfl 1 (by kernel_rfl) [a] rfl
    obtain ⟨_, _, g1⟩ := struct_field Try.underlying23 h 1 _ rfl 1 (by kernel_rfl) [b] rfl
    obtain ⟨_, _, g2⟩ := struct_field Try.underlying23 h 2 _ rfl 1 (by kernel_rfl) [c] rfl
    obtain ⟨_, _, g3⟩ := struct_field Try.underlying23 h 3 _ rfl 1 (by kernel_rfl) [d] rfl
    obtain ⟨s, e0, _, hs⟩ := DataW.trod_string Try.underlying9 g0
    obtain ⟨x1, e1, _, _⟩ := DataW.trod_int Try.underlying2 g1
    obtain ⟨x2, e2, _, _⟩ := DataW.trod_int Try.underlying2 g2
    obtain ⟨x3, e3, _, _⟩ := DataW.trod_int Try.underlying2 g3
    simp only [List.cons.injEq, and_true] at e0 e1 e2 e3
    subst e0 e1 e2 e3
    exact ⟨⟨s, x1, x2, x3⟩, rfl, hs⟩
theorem work_trod (m : Nat) (cs : List Value) (y : DataW H × List MemPlace) (h : DataW.trod en Try.prog w base spare held m 56 cs = some y) :
    ∃ z : Wk, cs = z.cells ∧ z.name.size ≤ maxLen := by
  have hl := struct_len Try.underlying56 h 7 (by kernel_rfl)
  match cs, hl with
  | [a, b, c, d, e, f, g], _ =>
    obtain ⟨_, _, g0⟩ := struct_field Try.underlying56 h 0 _ rfl 1 (by kernel_rfl) [a] rfl
    obtain ⟨_, _, g1⟩ := struct_field Try.underlying56 h 1 _ rfl 2 (by kernel_rfl) [b, c] rfl
    obtain ⟨_, _, g2⟩ := struct_field Try.underlying56 h 2 _ rfl 1 (by kernel_rfl) [d] rfl
    obtain ⟨_, _, g3⟩ := struct_field Try.underlying56 h 3 _ rfl 1 (by kernel_rfl) [e] rfl
    obtain ⟨_, _, g4⟩ := struct_field Try.underlying56 h 4 _ rfl 1 (by kernel_rfl) [f] rfl
    obtain ⟨_, _, g5⟩ := struct_field Try.underlying56 h 5 _ rfl 1 (by kernel_rfl) [g] rfl
    obtain ⟨s, e0, _, hs⟩ := DataW.trod_string Try.underlying9 g0
    obtain ⟨px, py, e1⟩ := vpoint_trod _ _ _ g1
    obtain ⟨x2, e2, _, _⟩ := DataW.trod_int Try.underlying2 g2
    obtain ⟨x3, e3, _, _⟩ := DataW.trod_int Try.underlying2 g3
    obtain ⟨x4, e4, _, _⟩ := DataW.trod_int Try.underlying2 g4
    obtain ⟨x5, e5, _, _⟩ := DataW.trod_int Try.underlying2 g5
    simp only [List.cons.injEq, and_true] at e0 e1 e2 e3 e4 e5
    obtain ⟨rfl, rfl⟩ := e1
    subst e0 e2 e3 e4 e5
    exact ⟨⟨s, px, py, x2, x3, x4, x5⟩, rfl, hs⟩
end
end Go.Proofs.Ytgkdjohiclhcoaa
