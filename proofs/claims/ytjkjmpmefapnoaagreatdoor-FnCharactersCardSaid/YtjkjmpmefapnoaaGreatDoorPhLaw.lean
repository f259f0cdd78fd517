
/- The laws' own functions over []Phase, and marks on a Character. -/
import Derived.Test.YtjkjmpmefapnoaaGreatDoorChEq
import Derived.Test.YtjkjmpmefapnoaaGreatDoorMark
import Derived.Test.YtjkjmpmefapnoaaGreatDoorChPhS
namespace Go.Proofs.YtjkjmpmefapnoaaGreatDoor
open Go.RowKit
abbrev Ph.val (p : Ph) : Value := .agg #[.string p.c, .int .i64 p.len]
theorem Sl.ph2 {w : World} {B n : Nat} {A : Option Addr} {xs : List Ph} (h : Sl w B 2 A n (xs.flatMap Ph.cells)) (k : Nat) (hk : k < n) :
    ∃ b off x, A = some ⟨b, off, none⟩ ∧ b < B ∧ xs[k]? = some x ∧ w.cell? ⟨b, off + k * 2, none⟩ = some (.string x.c) ∧ w.cell? ⟨b, off + k * 2 + 1, none⟩ = some (.int .i64 x.len) := by
  obtain ⟨b, off, s, hA, hb, hx, hc⟩ := h.get Ph.cells 2 Ph.cells_len (by omega) k hk
  exact ⟨b, off, s, hA, hb, hx, hc 0 _ rfl, hc 1 _ rfl⟩
theorem ch_box {A : Option Addr} {n c : Nat} (w : World) (x : Ch) (E : TypeId) :
    let W := w.alloc (.cells #[.int .i64 x.k, .slice A n c, .string x.l, .string x.cs, .int .i64 x.p] E)
    W.cell? ⟨w.heap.size, 0, none⟩ = some (.int .i64 x.k) ∧ W.cell? ⟨w.heap.size, 1, none⟩ = some (.slice A n c) ∧ W.cell? ⟨w.heap.size, 2, none⟩ = some (.string x.l) ∧ W.cell? ⟨w.heap.size, 3, none⟩ = some (.string x.cs) ∧ W.cell? ⟨w.heap.size, 4, none⟩ = some (.int .i64 x.p) := by
  intro W
  have hb : W.heap[w.heap.size]? = some (.cells #[.int .i64 x.k, .slice A n c, .string x.l, .string x.cs, .int .i64 x.p] E (0, 0)) := heap_alloc_new w _
  refine ⟨?_, ?_, ?_, ?_, ?_⟩
  all_goals
    rw [cell_of_row _ w.heap.size _ _ E (0, 0) hb]
    rfl
end Go.Proofs.YtjkjmpmefapnoaaGreatDoor
