/- DdA: several of my texts in one. -/
import Derived.Test.YtgibbhipjpbdfaaGreatApp
import Derived.Test.YtgibbhipjpbdfaaGreatIntS
import Derived.Test.YtgibbhipjpbdfaaGreatSmall

/- IsDistinct: rows of rows of integers of any length; the law's own functions over them. -/
namespace Go.Proofs.YtgibbhipjpbdfaaGreat
open Go.RowKit
structure RowG where
  A : Option Addr
  c : Nat
  xs : List Int
abbrev RowG.n (r : RowG) : Nat := r.xs.length
abbrev RowG.cells (r : RowG) : List Value := [.slice r.A r.xs.length r.c]
theorem RowG.cells_len (r : RowG) : r.cells.length = 1 := rfl
/-- The slice .slice A n _ reads as the rows rs. -/
structure RS (w : World) (A : Option Addr) (n : Nat) (rs : List RowG) : Prop where
  sl : Sl w w.heap.size 1 A n (rs.flatMap RowG.cells)
  ok : ∀ r ∈ rs, Sl w w.heap.size 1 r.A r.xs.length (r.xs.flatMap intC) ∧ r.xs.length ≤ 1048576
theorem RS.next {w w' : World} {A : Option Addr} {n : Nat} {rs : List RowG} (h : RS w A n rs) (hb : Below w.heap.size w w') : RS w' A n rs := ⟨h.sl.next hb, fun r hr => ⟨(h.ok r hr).1.next hb, (h.ok r hr).2⟩⟩
theorem RS.len {w : World} {A : Option Addr} {n : Nat} {rs : List RowG} (h : RS w A n rs) : rs.length = n := h.sl.len RowG.cells 1 RowG.cells_len (by omega)
theorem RS.get {w : World} {A : Option Addr} {n : Nat} {rs : List RowG} (h : RS w A n rs) (k : Nat) (hk : k < n) :
    ∃ b off r, A = some ⟨b, off, none⟩ ∧ b < w.heap.size ∧ rs[k]? = some r ∧ Sl w w.heap.size 1 r.A r.xs.length (r.xs.flatMap intC) ∧ r.xs.length ≤ 1048576 ∧ w.cell? ⟨b, off + k, none⟩ = some (.slice r.A r.xs.length r.c) := by
  obtain ⟨b, off, r, hA, hb, hx, hc⟩ := h.sl.get RowG.cells 1 RowG.cells_len (by omega) k hk
  have := h.ok r (List.mem_of_getElem? hx)
  exact ⟨b, off, r, hA, hb, hx, this.1, this.2, by simpa using hc 0 _ rfl⟩
end Go.Proofs.YtgibbhipjpbdfaaGreat

/- IsDistinct: rows of rows: the law's sizes and copies. -/
namespace Go.Proofs.YtgibbhipjpbdfaaGreat
open Go.RowKit
/-- They lie in memory of the call's own. -/
structure RowsOwn (w : World) (base : Nat) (v : Value) (n : Nat) (rs : List RowG) : Prop where
  own : w.ownsRow base 28 1 v n (rs.flatMap RowG.cells)
  inn : ∀ r ∈ rs, w.ownsRow base 2 1 (.slice r.A r.xs.length r.c) r.xs.length (r.xs.flatMap intC)
theorem RowsOwn.next {w w' : World} {base n : Nat} {v : Value} {rs : List RowG} (h : RowsOwn w base v n rs) (hb : Below w.heap.size w w') : RowsOwn w' base v n rs := ⟨own_next h.own hb, fun r hr => own_next (h.inn r hr) hb⟩
theorem RowsOwn.rs {w : World} {base n c : Nat} {A : Option Addr} {rs : List RowG} (h : RowsOwn w base (.slice A n c) n rs) (hb : ∀ r ∈ rs, r.xs.length ≤ 1048576) : RS w A n rs := ⟨Sl.of_own h.own, fun r hr => ⟨Sl.of_own (h.inn r hr), hb r hr⟩⟩
theorem drowsInfo : (Tryz.prog.info? 28).map (fun i => (i.zero, i.size, i.bytes)) = some (some (.slice none 0 0), 1, 24) := by kernel_rfl
theorem set_take {ys : List Value} {k n : Nat} {v : Value} (hl : ys.length = n) (hk : k < n) : (ys.set k v).take (k + 1) = ys.take k ++ [v] := by
  rw [List.take_add_one, List.getElem?_set_self (by omega), Option.toList_some, List.take_set_of_le (Nat.le_refl k)]
end Go.Proofs.YtgibbhipjpbdfaaGreat

/- IsDistinct: pairs of lights, plain; the reference's l18Pairs. -/
namespace Go.Proofs.YtgibbhipjpbdfaaGreat
open Go.RowKit
def rowOk (prev : Option (List Int)) (r : List Int) (n : Int) : Bool :=
  match r with
  | [a, b] => inB a 0 (n - 1) && (inB b (a + 1) (n - 1) && (match prev with
    | some [c, d] => !(decide (a < c) || (c == a && decide (b ≤ d)))
    | _ => true))
  | _ => false
def pairOk (xss : List (List Int)) (n : Int) (i : Nat) : Bool := match xss[i]? with
  | none => true
  | some r => rowOk (if i = 0 then none else xss[i - 1]?) r n
def pairsB (xss : List (List Int)) (n : Int) : Bool := inB n 0 24 && allB xss.length (pairOk xss n)
theorem rowOk_two {prev : Option (List Int)} {r : List Int} {n : Int} (h : rowOk prev r n = true) : ∃ a b, r = [a, b] ∧ 0 ≤ a ∧ a < b ∧ b ≤ n - 1 := by
  unfold rowOk at h
  split at h
  · rename_i a b
    simp only [Bool.and_eq_true] at h
    have h1 := inB_iff.1 h.1
    have h2 := inB_iff.1 h.2.1
    exact ⟨a, b, rfl, by omega, by omega, by omega⟩
  · cases h
/-- Every pair of a valid list has two lights, in order. -/
theorem pairs_two {xss : List (List Int)} {n : Int} (h : pairsB xss n = true) {i : Nat} {r : List Int} (hr : xss[i]? = some r) : ∃ a b, r = [a, b] ∧ 0 ≤ a ∧ a < b ∧ b ≤ n - 1 := by
  simp only [pairsB, Bool.and_eq_true] at h
  have hi := (List.getElem?_eq_some_iff.1 hr).1
  have := allB_iff.1 h.2 i hi
  unfold pairOk at this
  rw [hr] at this
  exact rowOk_two this
theorem pairs_n {xss : List (List Int)} {n : Int} (h : pairsB xss n = true) : 0 ≤ n ∧ n ≤ 24 := by
  simp only [pairsB, Bool.and_eq_true] at h
  exact inB_iff.1 h.1
end Go.Proofs.YtgibbhipjpbdfaaGreat
