/- HasLight, both sides. -/
import Derived.Test.YtpgcgmbjlecnpaaGreatDoorAidS
import Derived.Test.YtpgcgmbjlecnpaaGreatDoorAidI3
namespace Go.Proofs.YtpgcgmbjlecnpaaGreatDoor
open Go.RowKit
def hasLB (a : AidX) : Bool := aidB a && litB a
theorem has_kind {a : AidX} (h : aidB a = true) : (!(a.ch.k == 0)) = litB a := by
  cases hl : litB a
  · have hu : unlitB a = true := by rw [aidB, hl] at h; simp at h; exact h.2
    simp [unlit_kind hu]
  · simp [lit_kind hl]
set_option maxHeartbeats 400000 in
theorem l12Lit_c (b off : Nat) (z : AidG) (w : World) (hp : AidP w b off z) : Calls Tryz.prog 41 #[.pointer (some ⟨b, off, none⟩)] w fun e w' => e = .returned (.bool (!(z.a.ch.k == 0))) ∧ w = w' := by
  obtain ⟨c0, c1, c2, c3, c4, c5, c6, c7, c8, c9, c10, c11, c12, c13, c14, c15, hz⟩ := hp
  go_enter Tryz.func41, Tryz.ntmps41
  go_wp2
  go_ret
  exact ⟨rfl, rfl⟩
end Go.Proofs.YtpgcgmbjlecnpaaGreatDoor
