/- What the reader gives of a Character argument. -/
import Derived.Test.YtomjdkjkdmieaaaDoorChLaw
import Derived.Test.YtomjdkjkdmieaaaDoorOpen
namespace Go.Proofs.YtomjdkjkdmieaaaDoor
open Go.ChangeShapes Go.WideShapes Go.ChangeAt Go.RowKit Go.Deep
theorem int_trod {H : Type} {en : TypeId × Value → H} {w : World} {base : Nat} {spare : Nat → Bool} {held : Bool} (m : Nat) (cs : List Value) (y : DataW H × List MemPlace) (h : DataW.trod en Tryd.prog w base spare held m 2 cs = some y) :
    ∃ s : Int, cs = intC s ∧ True := by
  obtain ⟨x, e0, _, _⟩ := DataW.trod_int Tryd.underlying2 h
  exact ⟨x, e0, trivial⟩
theorem character_trod {H : Type} {en : TypeId × Value → H} {w : World} {base : Nat} {spare : Nat → Bool} {held : Bool} (m : Nat) (cs : List Value) (y : DataW H × List MemPlace) (h : DataW.trod en Tryd.prog w base spare held m 24 cs = some y) :
    ∃ k A n c l s p, ∃ gs : List Int, cs = [.int .i64 k, .slice A n c, .string l, .string s, .int .i64 p] ∧ Sl w w.heap.size 1 A n (gs.flatMap intC) ∧ n ≤ maxLen ∧ l.size ≤ maxLen ∧ s.size ≤ maxLen := by
  have hl := struct_len Tryd.underlying24 h 5 (by kernel_rfl)
  match cs, hl with
  | [a, b, c, d, f], _ =>
    obtain ⟨_, _, g0⟩ := struct_field Tryd.underlying24 h 0 _ rfl 1 (by kernel_rfl) [a] rfl
    obtain ⟨_, _, g1⟩ := struct_field Tryd.underlying24 h 1 _ rfl 1 (by kernel_rfl) [b] rfl
    obtain ⟨_, _, g2⟩ := struct_field Tryd.underlying24 h 2 _ rfl 1 (by kernel_rfl) [c] rfl
    obtain ⟨_, _, g3⟩ := struct_field Tryd.underlying24 h 3 _ rfl 1 (by kernel_rfl) [d] rfl
    obtain ⟨_, _, g4⟩ := struct_field Tryd.underlying24 h 4 _ rfl 1 (by kernel_rfl) [f] rfl
    obtain ⟨x0, e0, _, _⟩ := DataW.trod_int Tryd.underlying2 g0
    obtain ⟨x2, e2, _, hx2⟩ := DataW.trod_string Tryd.underlying9 g2
    obtain ⟨x3, e3, _, hx3⟩ := DataW.trod_string Tryd.underlying9 g3
    obtain ⟨x4, e4, _, _⟩ := DataW.trod_int Tryd.underlying2 g4
    simp only [List.cons.injEq, and_true] at e0 e2 e3 e4
    subst e0 e2 e3 e4
    obtain ⟨A, n, cc, rfl⟩ : ∃ A n cc, b = .slice A n cc := by
      rcases open_slice Tryd.underlying22 g1 with ⟨hcs, _⟩ | ⟨a, len, cap, m, fu, D, Pl, hcs, _⟩
      · simp at hcs; exact ⟨_, _, _, hcs⟩
      · simp at hcs; exact ⟨_, _, _, hcs⟩
    obtain ⟨m0, xs, s0, _⟩ := open_Sl intC 1 intC_len (by omega) (fun _ => True) Tryd.underlying22 (by kernel_rfl) int_trod g1
    exact ⟨x0, A, n, cc, x2, x3, x4, xs, rfl, s0, m0, hx2, hx3⟩
end Go.Proofs.YtomjdkjkdmieaaaDoor
