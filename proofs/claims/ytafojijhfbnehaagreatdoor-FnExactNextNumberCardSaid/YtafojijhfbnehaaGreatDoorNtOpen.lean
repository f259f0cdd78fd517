/- Notices as the caller's data: how they read. -/
import Derived.Test.YtafojijhfbnehaaGreatDoorOpG
import Derived.Test.YtafojijhfbnehaaGreatDoorNtsLaw
namespace Go.Proofs.YtafojijhfbnehaaGreatDoor
open Go.ChangeShapes Go.WideShapes Go.ChangeAt Go.RowKit Go.Deep
theorem nt_trod {H : Type} {en : TypeId × Value → H} {w : World} {base : Nat} {spare : Nat → Bool} {held : Bool} (m : Nat) (cs : List Value) (y : DataW H × List MemPlace) (h : DataW.trod en Tryz.prog w base spare held m 45 cs = some y) :
    ∃ g : NtG, cs = g.cells ∧ AidRd w g.z := by
  have hl := struct_len Tryz.underlying45 h 20 (by kernel_rfl)
  match cs, hl with
  | a :: b :: c :: d :: r, hl =>
    have hr : r.length = 16 := by simp at hl; omega
    obtain ⟨_, _, g0⟩ := struct_field Tryz.underlying45 h 0 _ rfl 1 (by kernel_rfl) [a] rfl
    obtain ⟨_, _, g1⟩ := struct_field Tryz.underlying45 h 1 _ rfl 1 (by kernel_rfl) [b] rfl
    obtain ⟨_, _, g2⟩ := struct_field Tryz.underlying45 h 2 _ rfl 1 (by kernel_rfl) [c] rfl
    obtain ⟨_, _, g3⟩ := struct_field Tryz.underlying45 h 3 _ rfl 1 (by kernel_rfl) [d] rfl
    obtain ⟨_, _, g4⟩ := struct_field Tryz.underlying45 h 4 _ rfl 16 (by kernel_rfl) r (by simpa using List.take_of_length_le (Nat.le_of_eq hr))
    obtain ⟨x0, e0, _, _⟩ := DataW.trod_int Tryz.underlying2 g0
    obtain ⟨x1, e1, _, _⟩ := DataW.trod_int Tryz.underlying2 g1
    obtain ⟨x2, e2, _, _⟩ := DataW.trod_int Tryz.underlying2 g2
    obtain ⟨x3, e3, _, _⟩ := DataW.trod_int Tryz.underlying2 g3
    obtain ⟨z, hz, rd⟩ := aid_trod _ _ _ g4
    simp only [List.cons.injEq, and_true] at e0 e1 e2 e3
    subst e0 e1 e2 e3 hz
    exact ⟨⟨⟨x0, x1, x2, x3⟩, z⟩, rfl, rd⟩
end Go.Proofs.YtafojijhfbnehaaGreatDoor
