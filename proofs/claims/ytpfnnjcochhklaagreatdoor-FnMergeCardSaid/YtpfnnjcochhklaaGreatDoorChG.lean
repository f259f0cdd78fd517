/- ChG: several of my texts in one. -/
import Derived.Test.YtpfnnjcochhklaaGreatDoorChIG

/- Phases of characters, in plain Lean. -/
namespace Go.Proofs.YtpfnnjcochhklaaGreatDoor
open Go.RowKit
structure Ph where
  c : ByteArray
  len : Int
abbrev Ph.cells (p : Ph) : List Value := [.string p.c, .int .i64 p.len]
theorem Ph.cells_len (p : Ph) : p.cells.length = 2 := rfl
theorem valid_shape {x : Ch} (h : validB x = true) : shapeB x = true := by simp only [validB, Bool.and_eq_true] at h; exact h.1
theorem leastI_bd {x : Ch} (h : shapeB x = true) : 0 ≤ leastI x ∧ (steadyB x = false → x.k ≠ 3 → (timesL x).sum + 10 ≤ leastI x) := by
  have ht := shape_TOk h
  obtain ⟨b1, b2⟩ := times_bd ht
  have hs : 0 ≤ (timesL x).sum := by
    have : ∀ l : List Int, (∀ y ∈ l, 0 ≤ y ∧ y ≤ 40) → 0 ≤ l.sum := by
      intro l
      induction l with
      | nil => simp
      | cons a l ih => intro h; have := h a (by simp); have := ih (fun y hy => h y (by simp [hy])); simp; omega
    exact this _ b2
  have hr : 10 ≤ restI x := by
    have := gapI_bd x.k
    unfold restI gapI at *
    (repeat' split) <;> simp_all <;> omega
  unfold leastI
  refine ⟨?_, fun h1 h2 => ?_⟩
  · (repeat' split) <;> omega
  · rw [if_neg (by rw [h1]; simp), if_neg h2]; omega
end Go.Proofs.YtpfnnjcochhklaaGreatDoor

/- Phases of characters: the reference's. -/
namespace Go.Proofs.YtpfnnjcochhklaaGreatDoor
open Go.RowKit
end Go.Proofs.YtpfnnjcochhklaaGreatDoor

/- Phases of characters: the program's. -/
namespace Go.Proofs.YtpfnnjcochhklaaGreatDoor
open Go.RowKit
end Go.Proofs.YtpfnnjcochhklaaGreatDoor

/- Characters: how long lit. -/
namespace Go.Proofs.YtpfnnjcochhklaaGreatDoor
open Go.RowKit
end Go.Proofs.YtpfnnjcochhklaaGreatDoor
