/- Calls in memory; cells behind stores. -/
import Derived.Test.YtgkdjohiclhcoaaVoyT
import Derived.Test.YtgkdjohiclhcoaaSrc
namespace Go.Proofs.Ytgkdjohiclhcoaa
open Go.RowKit
abbrev clO (c : Cl) (e : TypeId) : Obj := .cells #[.int .i64 c.k, .int .i64 c.ar, .int .i64 c.be, .int .i64 c.en] e
structure ClP (w : World) (b off : Nat) (c : Cl) : Prop where
  c0 : w.cell? ⟨b, off, none⟩ = some (.int .i64 c.k)
  c1 : w.cell? ⟨b, off + 1, none⟩ = some (.int .i64 c.ar)
  c2 : w.cell? ⟨b, off + 2, none⟩ = some (.int .i64 c.be)
  c3 : w.cell? ⟨b, off + 3, none⟩ = some (.int .i64 c.en)
  hb : b < w.heap.size
theorem ClP.next {w w' : World} {b off : Nat} {c : Cl} (h : ClP w b off c) (hb : Below w.heap.size w w') : ClP w' b off c :=
  have k := keepC hb b h.hb
  ⟨(k _).trans h.c0, (k _).trans h.c1, (k _).trans h.c2, (k _).trans h.c3, Nat.lt_of_lt_of_le h.hb hb.size⟩
theorem ClP.box (w : World) (c : Cl) (e : TypeId) : ClP (w.alloc (clO c e)) w.heap.size 0 c := by
  have hb : (w.alloc (clO c e)).heap[w.heap.size]? = some (.cells #[.int .i64 c.k, .int .i64 c.ar, .int .i64 c.be, .int .i64 c.en] e (0, 0)) := heap_alloc_new w _
  have h := fun i => cell_of_row _ w.heap.size i _ e (0, 0) hb
  exact ⟨(h 0).trans rfl, (h 1).trans rfl, (h 2).trans rfl, (h 3).trans rfl, by simp⟩
theorem cell_off {w : World} {b i j : Nat} {u v : Value} (h : ¬ i = j) (hq : w.cell? ⟨b, j, none⟩ = some v) : (w.setCell ⟨b, i, none⟩ u).cell? ⟨b, j, none⟩ = some v := (World.cell?_setCell_other w _ _ _ (fun e => h (by injection e))).trans hq
theorem cell_blk {w : World} {b c i j : Nat} {u v : Value} (h : ¬ b = c) (hq : w.cell? ⟨c, j, none⟩ = some v) : (w.setCell ⟨b, i, none⟩ u).cell? ⟨c, j, none⟩ = some v := (World.cell?_setCell_other w _ _ _ (fun e => h (by injection e))).trans hq
theorem cell_blk4 {w : World} {b c j : Nat} {u0 u1 u2 u3 v : Value} (h : ¬ b = c) (hq : w.cell? ⟨c, j, none⟩ = some v) : ((((w.setCell ⟨b, 0, none⟩ u0).setCell ⟨b, 1, none⟩ u1).setCell ⟨b, 2, none⟩ u2).setCell ⟨b, 3, none⟩ u3).cell? ⟨c, j, none⟩ = some v := cell_blk h (cell_blk h (cell_blk h (cell_blk h hq)))
theorem then_world {K : Act → World → Prop} {Q : Exit → Act → World → Prop} {x : Exit} {a : Act} {W : World} (F : World → Prop) (hF : F W) (k : ∀ w2, F w2 → Exit.then K Q x a w2) : Exit.then K Q x a W := k W hF
end Go.Proofs.Ytgkdjohiclhcoaa
