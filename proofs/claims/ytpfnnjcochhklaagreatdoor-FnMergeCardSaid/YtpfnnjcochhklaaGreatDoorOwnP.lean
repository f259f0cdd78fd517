
/- One aid in one block of memory, and stores into it. -/
import Derived.Test.YtpfnnjcochhklaaGreatDoorAidsG
import Derived.Deep.MidRow
namespace Go.Proofs.YtpfnnjcochhklaaGreatDoor
open Go.RowKit
def aidZ : AidG := ⟨⟨0, ByteArray.empty, 0, 0, 0, ⟨0, ByteArray.empty, ByteArray.empty, ByteArray.empty⟩, ⟨0, [], ByteArray.empty, ByteArray.empty, 0⟩, [], 0⟩, none, 0, none, 0⟩
theorem sizeW (b : Nat) : ∀ (vs : List Value) (o : Nat) (w : World), (w.setCells b o vs).heap.size = w.heap.size
  | [], _, _ => rfl
  | v :: r, o, w => by rw [World.setCells, sizeW b r (o + 1) _]; simp
theorem belowW {B : Nat} {a : World} (b : Nat) (hB : B ≤ b) : ∀ (vs : List Value) (o : Nat) (w : World), Below B a w → Below B a (w.setCells b o vs)
  | [], _, _, h => h
  | v :: r, o, w, h => by rw [World.setCells]; exact belowW b hB r (o + 1) _ (h.setCell (p := ⟨b, o, none⟩) hB v)
theorem ownW {base : Nat} {e : TypeId} {size : Nat} {v : Value} {n : Nat} {xs : List Value} (b : Nat) (hB : b < base) : ∀ (vs : List Value) (o : Nat) (w : World), w.ownsRow base e size v n xs → (w.setCells b o vs).ownsRow base e size v n xs
  | [], _, _, h => h
  | u :: r, o, w, h => by rw [World.setCells]; exact ownW b hB r (o + 1) _ (ownsRow_setCell_below h (a := ⟨b, o, none⟩) hB u)
theorem AidP.range {w : World} {b : Nat} {z : AidG} (h : AidP w b 0 z) : w.rangeAt b 0 z.cells
  | 0, v, hv => h.c0.trans hv
  | 1, v, hv => h.c1.trans hv
  | 2, v, hv => h.c2.trans hv
  | 3, v, hv => h.c3.trans hv
  | 4, v, hv => h.c4.trans hv
  | 5, v, hv => h.c5.trans hv
  | 6, v, hv => h.c6.trans hv
  | 7, v, hv => h.c7.trans hv
  | 8, v, hv => h.c8.trans hv
  | 9, v, hv => h.c9.trans hv
  | 10, v, hv => h.c10.trans hv
  | 11, v, hv => h.c11.trans hv
  | 12, v, hv => h.c12.trans hv
  | 13, v, hv => h.c13.trans hv
  | 14, v, hv => h.c14.trans hv
  | 15, v, hv => h.c15.trans hv
  | n + 16, v, hv => by simp [AidG.cells] at hv
theorem aidP_of {w : World} {b : Nat} {z : AidG} (h : w.rangeAt b 0 z.cells) (hb : b < w.heap.size) : AidP w b 0 z := ⟨h 0 _ rfl, h 1 _ rfl, h 2 _ rfl, h 3 _ rfl, h 4 _ rfl, h 5 _ rfl, h 6 _ rfl, h 7 _ rfl, h 8 _ rfl, h 9 _ rfl, h 10 _ rfl, h 11 _ rfl, h 12 _ rfl, h 13 _ rfl, h 14 _ rfl, h 15 _ rfl, hb⟩
/-- The block b holds one aid and may be written. -/
structure AidF (w : World) (b : Nat) (z : AidG) : Prop where
  p : AidP w b 0 z
  f : ∀ i, w.frozen? ⟨b, i, none⟩ = false
section
variable {w w' : World} {b : Nat} {z : AidG}
theorem AidF.box (w : World) (z : AidG) (E : TypeId) : AidF (w.alloc (aidO z E)) w.heap.size z := ⟨aidp_box w z E, fun i => frozen_of_row _ _ i _ _ (heap_alloc_new w _)⟩
theorem AidF.next (h : AidF w b z) (hb : Below w.heap.size w w') : AidF w' b z := ⟨h.p.next hb, fun i => (keepF hb b h.p.hb i).trans (h.f i)⟩
theorem AidF.there (h : AidF w b z) (o n : Nat) (hn : o + n ≤ 16) : w.there b o n := fun j hj => by
  refine ⟨?_, h.f _⟩
  have hl : o + j < z.cells.length := by simp [AidG.cells]; omega
  have := h.p.range (o + j) _ (List.getElem?_eq_getElem hl)
  rw [Nat.zero_add] at this
  rw [this]; rfl
theorem AidF.other (h : AidF w b z) (b' o : Nat) (vs : List Value) (hne : b ≠ b') : AidF (w.setCells b' o vs) b z := by
  have k : ∀ i, (w.setCells b' o vs).cell? ⟨b, i, none⟩ = w.cell? ⟨b, i, none⟩ := fun i => World.cell?_setCells_out b' vs o w ⟨b, i, none⟩ (fun e _ => absurd e hne)
  exact ⟨⟨(k _).trans h.p.c0, (k _).trans h.p.c1, (k _).trans h.p.c2, (k _).trans h.p.c3, (k _).trans h.p.c4, (k _).trans h.p.c5, (k _).trans h.p.c6, (k _).trans h.p.c7, (k _).trans h.p.c8, (k _).trans h.p.c9, (k _).trans h.p.c10, (k _).trans h.p.c11, (k _).trans h.p.c12, (k _).trans h.p.c13, (k _).trans h.p.c14, (k _).trans h.p.c15, by rw [sizeW]; exact h.p.hb⟩, fun i => (World.frozen?_setCells b' vs o w _).trans (h.f i)⟩
theorem AidF.grown (h : AidF w b z) {row : Option Nat} (hg : w.grownBy w' row) (hne : ∀ k, row = some k → b ≠ k) : AidF w' b z := by
  have e : w'.heap[b]? = w.heap[b]? := hg.block b h.p.hb (fun e => hne b e.symm rfl)
  have k : ∀ i, w'.cell? ⟨b, i, none⟩ = w.cell? ⟨b, i, none⟩ := fun i => World.cell?_of_block (w := w) e
  exact ⟨⟨(k _).trans h.p.c0, (k _).trans h.p.c1, (k _).trans h.p.c2, (k _).trans h.p.c3, (k _).trans h.p.c4, (k _).trans h.p.c5, (k _).trans h.p.c6, (k _).trans h.p.c7, (k _).trans h.p.c8, (k _).trans h.p.c9, (k _).trans h.p.c10, (k _).trans h.p.c11, (k _).trans h.p.c12, (k _).trans h.p.c13, (k _).trans h.p.c14, (k _).trans h.p.c15, Nat.lt_of_lt_of_le h.p.hb hg.size⟩, fun i => by
    have := h.f i
    simp only [World.frozen?] at this ⊢
    rw [e]; exact this⟩
abbrev chCells (z : AidG) (A' : Option Addr) (c' : Nat) : List Value := [.int .i64 z.a.ch.k, .slice A' z.n c', .string z.a.ch.l, .string z.a.ch.cs, .int .i64 z.a.ch.p]
theorem AidF.char (h : AidF w b z) (A' : Option Addr) (c' : Nat) : AidF (w.setCells b 9 (chCells z A' c')) b ⟨z.a, A', c', z.B, z.d⟩ := by
  have r := World.rangeAt_setCells_same w b 9 (chCells z A' c') (h.there 9 5 (by omega))
  have out : ∀ i, (i < 9 ∨ 14 ≤ i) → (w.setCells b 9 (chCells z A' c')).cell? ⟨b, 0 + i, none⟩ = w.cell? ⟨b, 0 + i, none⟩ := fun i hi => World.cell?_setCells_out b _ 9 w ⟨b, 0 + i, none⟩ (fun _ _ => by simp only [List.length_cons, List.length_nil]; omega)
  exact ⟨⟨(out 0 (by omega)).trans h.p.c0, (out 1 (by omega)).trans h.p.c1, (out 2 (by omega)).trans h.p.c2, (out 3 (by omega)).trans h.p.c3, (out 4 (by omega)).trans h.p.c4, (out 5 (by omega)).trans h.p.c5, (out 6 (by omega)).trans h.p.c6, (out 7 (by omega)).trans h.p.c7, (out 8 (by omega)).trans h.p.c8, r 0 _ rfl, r 1 _ rfl, r 2 _ rfl, r 3 _ rfl, r 4 _ rfl, (out 14 (by omega)).trans h.p.c14, (out 15 (by omega)).trans h.p.c15, by rw [sizeW]; exact h.p.hb⟩, fun i => (World.frozen?_setCells b _ 9 w _).trans (h.f i)⟩
theorem AidF.secs (h : AidF w b z) (B' : Option Addr) (d' : Nat) : AidF (w.setCell ⟨b, 14, none⟩ (.slice B' z.m d')) b ⟨z.a, z.A, z.c, B', d'⟩ := by
  show AidF (w.setCells b 14 [.slice B' z.m d']) b _
  have r := World.rangeAt_setCells_same w b 14 [.slice B' z.m d'] (h.there 14 1 (by omega))
  have out : ∀ i, (i < 14 ∨ 15 ≤ i) → (w.setCells b 14 [.slice B' z.m d']).cell? ⟨b, 0 + i, none⟩ = w.cell? ⟨b, 0 + i, none⟩ := fun i hi => World.cell?_setCells_out b _ 14 w ⟨b, 0 + i, none⟩ (fun _ _ => by simp only [List.length_cons, List.length_nil]; omega)
  exact ⟨⟨(out 0 (by omega)).trans h.p.c0, (out 1 (by omega)).trans h.p.c1, (out 2 (by omega)).trans h.p.c2, (out 3 (by omega)).trans h.p.c3, (out 4 (by omega)).trans h.p.c4, (out 5 (by omega)).trans h.p.c5, (out 6 (by omega)).trans h.p.c6, (out 7 (by omega)).trans h.p.c7, (out 8 (by omega)).trans h.p.c8, (out 9 (by omega)).trans h.p.c9, (out 10 (by omega)).trans h.p.c10, (out 11 (by omega)).trans h.p.c11, (out 12 (by omega)).trans h.p.c12, (out 13 (by omega)).trans h.p.c13, r 0 _ rfl, (out 15 (by omega)).trans h.p.c15, by rw [sizeW]; exact h.p.hb⟩, fun i => (World.frozen?_setCells b _ 14 w _).trans (h.f i)⟩
theorem AidF.group (h : AidF w b z) (A' : Option Addr) (c' : Nat) : AidF (w.setCell ⟨b, 10, none⟩ (.slice A' z.n c')) b ⟨z.a, A', c', z.B, z.d⟩ := by
  show AidF (w.setCells b 10 [.slice A' z.n c']) b _
  have r := World.rangeAt_setCells_same w b 10 [.slice A' z.n c'] (h.there 10 1 (by omega))
  have out : ∀ i, (i < 10 ∨ 11 ≤ i) → (w.setCells b 10 [.slice A' z.n c']).cell? ⟨b, 0 + i, none⟩ = w.cell? ⟨b, 0 + i, none⟩ := fun i hi => World.cell?_setCells_out b _ 10 w ⟨b, 0 + i, none⟩ (fun _ _ => by simp only [List.length_cons, List.length_nil]; omega)
  exact ⟨⟨(out 0 (by omega)).trans h.p.c0, (out 1 (by omega)).trans h.p.c1, (out 2 (by omega)).trans h.p.c2, (out 3 (by omega)).trans h.p.c3, (out 4 (by omega)).trans h.p.c4, (out 5 (by omega)).trans h.p.c5, (out 6 (by omega)).trans h.p.c6, (out 7 (by omega)).trans h.p.c7, (out 8 (by omega)).trans h.p.c8, (out 9 (by omega)).trans h.p.c9, r 0 _ rfl, (out 11 (by omega)).trans h.p.c11, (out 12 (by omega)).trans h.p.c12, (out 13 (by omega)).trans h.p.c13, (out 14 (by omega)).trans h.p.c14, (out 15 (by omega)).trans h.p.c15, by rw [sizeW]; exact h.p.hb⟩, fun i => (World.frozen?_setCells b _ 10 w _).trans (h.f i)⟩
theorem AidF.set (h : AidF w b z) (z' : AidG) : AidF (w.setCells b 0 z'.cells) b z' :=
  ⟨aidP_of (World.rangeAt_setCells_same w b 0 z'.cells (h.there 0 16 (by omega))) (by rw [sizeW]; exact h.p.hb), fun i => (World.frozen?_setCells b _ 0 w _).trans (h.f i)⟩
end
end Go.Proofs.YtpfnnjcochhklaaGreatDoor
