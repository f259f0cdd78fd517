
/- More words for memory. No program is named here. -/
import Derived.Test.YtpfnnjcochhklaaGreatDoorBsG
import Derived.Test.YtpfnnjcochhklaaGreatDoorApG
namespace Go.Proofs.YtpfnnjcochhklaaGreatDoor
open Go.RowKit
/-- Behind an append onto v: v' is another block than g, if v was. -/
theorem other_next {v v' : Value} {w : World} {g : Nat} (hat : v'.ownBlock = v.ownBlock ∨ v'.ownBlock = some w.heap.size) (h : v.ownBlock ≠ some g) (hg : g < w.heap.size) : v'.ownBlock ≠ some g := by
  rcases hat with e | e
  · rw [e]; exact h
  · rw [e]; intro e0; injection e0 with e0; omega
theorem Sl.int_at {w : World} {B n b off k : Nat} {xs : List Int} {x : Int} (h : Sl w B 1 (some ⟨b, off, none⟩) n (xs.flatMap intC)) (hx : xs[k]? = some x) : w.cell? ⟨b, off + k, none⟩ = some (.int .i64 x) := by
  have hl := h.len intC 1 intC_len (by omega)
  have hk : k < n := by rw [← hl]; exact (List.getElem?_eq_some_iff.1 hx).1
  obtain ⟨b', off', x', e, _, hx', hc⟩ := h.int k hk
  injection e with e
  injection e with e1 e2 _
  subst e1 e2
  rw [hx] at hx'; injection hx' with hx'; subst hx'
  exact hc
/-- The slice read beside an append. -/
theorem Sl.beside {w w' : World} {sz n : Nat} {A : Option Addr} {xs : List Value} {v v' : Value} {o : Obj} (h : Sl w w.heap.size sz A n xs) (hg : (w.alloc o).grownBy w' v.ownBlock) (hat : v'.ownBlock = v.ownBlock ∨ v'.ownBlock = some (w.alloc o).heap.size)
    (hne : ∀ b off, A = some ⟨b, off, none⟩ → v.ownBlock ≠ some b) (hn : 0 < n) : Sl w' w'.heap.size sz A n xs ∧ ∀ b off, A = some ⟨b, off, none⟩ → v'.ownBlock ≠ some b := by
  have h1 : Sl (w.alloc o) w.heap.size sz A n xs := h.keep fun b hb => Below.heap_alloc w o b hb
  have hz : w.heap.size ≤ (w.alloc o).heap.size := le_alloc (Nat.le_refl _) _
  refine ⟨(h1.apart hg hz hne).more (Nat.le_trans hz hg.size), fun b off e => ?_⟩
  obtain ⟨b', off', e', hb, _⟩ := h.2 hn
  rw [e] at e'
  injection e' with e'
  injection e' with e1 _ _
  subst e1
  exact other_next hat (hne b off e) (Nat.lt_of_lt_of_le hb hz)
end Go.Proofs.YtpfnnjcochhklaaGreatDoor
