/- Walks of the laws' own functions over duties. -/
import Derived.Test.YtgcfmmcdecabpaaDoorChecked
import Derived.Test.YtgcfmmcdecabpaaDoorBase
namespace Go.Proofs.YtgcfmmcdecabpaaDoor
open Go.RowKit

structure Duty where
  keeper : ByteArray
  fr : Int
  un : Int
  deriving DecidableEq
def Duty.cells (d : Duty) : List Value := [.string d.keeper, .int .i64 d.fr, .int .i64 d.un]
theorem Duty.cells_len (d : Duty) : d.cells.length = 3 := rfl
abbrev Duty.val (d : Duty) : Value := .agg #[.string d.keeper, .int .i64 d.fr, .int .i64 d.un]

/-- The k-th duty of a slice. -/
theorem Sl.duty {w : World} {B n : Nat} {A : Option Addr} {xs : List Duty} (h : Sl w B 3 A n (xs.flatMap Duty.cells)) (k : Nat) (hk : k < n) :
    ∃ b off d, A = some ⟨b, off, none⟩ ∧ b < B ∧ xs[k]? = some d ∧ w.cell? ⟨b, off + k * 3, none⟩ = some (.string d.keeper) ∧ w.cell? ⟨b, off + k * 3 + 1, none⟩ = some (.int .i64 d.fr) ∧ w.cell? ⟨b, off + k * 3 + 2, none⟩ = some (.int .i64 d.un) := by
  obtain ⟨b, off, d, hA, hb, hx, hc⟩ := h.get Duty.cells 3 Duty.cells_len (by omega) k hk
  exact ⟨b, off, d, hA, hb, hx, hc 0 _ rfl, hc 1 _ rfl, hc 2 _ rfl⟩
def Duty.same (d e : Duty) : Bool := d.keeper.toList == e.keeper.toList && d.fr == e.fr && d.un == e.un
theorem Duty.same_eq (d e : Duty) : d.same e = decide (d = e) := by
  cases d; cases e
  simp only [Duty.same, ba_beq, Duty.mk.injEq]
  rw [Bool.eq_iff_iff]
  simp [and_assoc]

set_option maxHeartbeats 400000 in
theorem eqDuty_c (d e : Duty) (w : World) :
    Calls Tryd.prog 6 #[d.val, e.val] w fun r w' => r = .returned (.bool (d.same e)) ∧ Below w.heap.size w w' := by
  obtain ⟨s, f, u⟩ := d
  obtain ⟨t, g, v⟩ := e
  go_enter Tryd.func6, Tryd.ntmps6
  go_wp2
  all_goals
    go_ret
    exact ⟨ret_eq (bool_eq (by simp_all [Duty.same])), (by (repeat (first | (with_reducible assumption) | (with_reducible exact Below.refl _ _) | exact Nat.le_refl _ | exact Below.size (by with_reducible assumption) | (with_reducible refine Below.drew ?_) | (with_reducible refine below_drewN ?_ _) | (with_reducible refine Below.alloc ?_ ?_ _) | (with_reducible refine Below.setCell ?_ ?_ _) | (with_reducible refine le_alloc ?_ _) | (with_reducible refine le_set ?_ _ _) | (with_reducible refine le_drew ?_) | (with_reducible refine le_drewN ?_ _) | omega | (dsimp only; omega))))⟩

def Sees2 (w : World) (b b' : Nat) (w' : World) : Prop := Below w.heap.size w w' ∧ (∀ x, w'.cell? ⟨b, x, none⟩ = w.cell? ⟨b, x, none⟩) ∧ (∀ x, w'.cell? ⟨b', x, none⟩ = w.cell? ⟨b', x, none⟩)
theorem sees2 {w w' : World} {b b' : Nat} (h : Below w.heap.size w w') (hb : b < w.heap.size) (hb' : b' < w.heap.size) : Below w.heap.size w w' ∧ (∀ x, w'.cell? ⟨b, x, none⟩ = w.cell? ⟨b, x, none⟩) ∧ (∀ x, w'.cell? ⟨b', x, none⟩ = w.cell? ⟨b', x, none⟩) := ⟨h, keepC h b hb, keepC h b' hb'⟩

end Go.Proofs.YtgcfmmcdecabpaaDoor
