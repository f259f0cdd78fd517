/- DdRR: several of my texts in one. -/
import Derived.Test.YtgibbhipjpbdfaaApp
import Derived.Test.YtgibbhipjpbdfaaIntS

/- IsDistinct: rows of rows of integers of any length; the law's own functions over them. -/
namespace Go.Proofs.Ytgibbhipjpbdfaa
open Go.RowKit
structure RowG where
  A : Option Addr
  c : Nat
  xs : List Int
abbrev RowG.n (r : RowG) : Nat := r.xs.length
abbrev RowG.cells (r : RowG) : List Value := [.slice r.A r.xs.length r.c]
theorem RowG.cells_len (r : RowG) : r.cells.length = 1 := rfl
/-- The slice .slice A n _ reads as the rows rs. -/
structure RS (w : World) (A : Option Addr) (n : Nat) (rs : List RowG) : Prop where
  sl : Sl w w.heap.size 1 A n (rs.flatMap RowG.cells)
  ok : ∀ r ∈ rs, Sl w w.heap.size 1 r.A r.xs.length (r.xs.flatMap intC) ∧ r.xs.length ≤ 1048576
theorem RS.next {w w' : World} {A : Option Addr} {n : Nat} {rs : List RowG} (h : RS w A n rs) (hb : Below w.heap.size w w') : RS w' A n rs := ⟨h.sl.next hb, fun r hr => ⟨(h.ok r hr).1.next hb, (h.ok r hr).2⟩⟩
theorem RS.len {w : World} {A : Option Addr} {n : Nat} {rs : List RowG} (h : RS w A n rs) : rs.length = n := h.sl.len RowG.cells 1 RowG.cells_len (by omega)
theorem RS.get {w : World} {A : Option Addr} {n : Nat} {rs : List RowG} (h : RS w A n rs) (k : Nat) (hk : k < n) :
    ∃ b off r, A = some ⟨b, off, none⟩ ∧ b < w.heap.size ∧ rs[k]? = some r ∧ Sl w w.heap.size 1 r.A r.xs.length (r.xs.flatMap intC) ∧ r.xs.length ≤ 1048576 ∧ w.cell? ⟨b, off + k, none⟩ = some (.slice r.A r.xs.length r.c) := by
  obtain ⟨b, off, r, hA, hb, hx, hc⟩ := h.sl.get RowG.cells 1 RowG.cells_len (by omega) k hk
  have := h.ok r (List.mem_of_getElem? hx)
  exact ⟨b, off, r, hA, hb, hx, this.1, this.2, by simpa using hc 0 _ rfl⟩
end Go.Proofs.Ytgibbhipjpbdfaa

/- IsDistinct: rows of rows: the law's sizes and copies. -/
namespace Go.Proofs.Ytgibbhipjpbdfaa
open Go.RowKit
/-- They lie in memory of the call's own. -/
structure RowsOwn (w : World) (base : Nat) (v : Value) (n : Nat) (rs : List RowG) : Prop where
  own : w.ownsRow base 24 1 v n (rs.flatMap RowG.cells)
  inn : ∀ r ∈ rs, w.ownsRow base 2 1 (.slice r.A r.xs.length r.c) r.xs.length (r.xs.flatMap intC)
theorem RowsOwn.next {w w' : World} {base n : Nat} {v : Value} {rs : List RowG} (h : RowsOwn w base v n rs) (hb : Below w.heap.size w w') : RowsOwn w' base v n rs := ⟨own_next h.own hb, fun r hr => own_next (h.inn r hr) hb⟩
theorem RowsOwn.rs {w : World} {base n c : Nat} {A : Option Addr} {rs : List RowG} (h : RowsOwn w base (.slice A n c) n rs) (hb : ∀ r ∈ rs, r.xs.length ≤ 1048576) : RS w A n rs := ⟨Sl.of_own h.own, fun r hr => ⟨Sl.of_own (h.inn r hr), hb r hr⟩⟩
theorem drowsInfo : (Try.prog.info? 24).map (fun i => (i.zero, i.size, i.bytes)) = some (some (.slice none 0 0), 1, 24) := by kernel_rfl
theorem set_take {ys : List Value} {k n : Nat} {v : Value} (hl : ys.length = n) (hk : k < n) : (ys.set k v).take (k + 1) = ys.take k ++ [v] := by
  rw [List.take_add_one, List.getElem?_set_self (by omega), Option.toList_some, List.take_set_of_le (Nat.le_refl k)]
end Go.Proofs.Ytgibbhipjpbdfaa
