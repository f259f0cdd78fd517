
/- Characters: the reference's functions on a pointer. -/
import Derived.Test.YtgibbhipjpbdfaaGreatChSpec1
namespace Go.Proofs.YtgibbhipjpbdfaaGreat
open Go.RowKit
/-- A Character lies at block b from cell off on; its group reads as gs. -/
structure ChP (w : World) (b off : Nat) (A : Option Addr) (n c : Nat) (x : Ch) : Prop where
  c0 : w.cell? ⟨b, off, none⟩ = some (.int .i64 x.k)
  c1 : w.cell? ⟨b, off + 1, none⟩ = some (.slice A n c)
  c2 : w.cell? ⟨b, off + 2, none⟩ = some (.string x.l)
  c3 : w.cell? ⟨b, off + 3, none⟩ = some (.string x.cs)
  c4 : w.cell? ⟨b, off + 4, none⟩ = some (.int .i64 x.p)
  hb : b < w.heap.size
  sl : Sl w w.heap.size 1 A n (x.gs.flatMap intC)
  hn : n ≤ 1048576
  hl : x.l.size ≤ 1048576
  hs : x.cs.size ≤ 1048576
theorem ChP.next {w w' : World} {b off : Nat} {A : Option Addr} {n c : Nat} {x : Ch} (h : ChP w b off A n c x) (hb : Below w.heap.size w w') : ChP w' b off A n c x :=
  ⟨(keepC hb b h.hb _).trans h.c0, (keepC hb b h.hb _).trans h.c1, (keepC hb b h.hb _).trans h.c2, (keepC hb b h.hb _).trans h.c3, (keepC hb b h.hb _).trans h.c4, Nat.lt_of_lt_of_le h.hb hb.size, h.sl.next hb, h.hn, h.hl, h.hs⟩
theorem ChP.len {w : World} {b off : Nat} {A : Option Addr} {n c : Nat} {x : Ch} (h : ChP w b off A n c x) : x.gs.length = n := h.sl.len intC 1 intC_len (by omega)
set_option maxRecDepth 100000 in
set_option maxHeartbeats 400000 in
theorem l05Steady_c (b off : Nat) (A : Option Addr) (n c : Nat) (x : Ch) (w : World) (h : ChP w b off A n c x) :
    Calls Tryz.prog 52 #[.pointer (some ⟨b, off, none⟩)] w fun e w' => e = .returned (.bool (steadyB x)) ∧ w = w' := by
  have hl := h.len
  obtain ⟨c0, c1, c2, c3, c4, hb, sl, hn, hlz, hs⟩ := h
  have Hl := Lib.hid hl; clear hl
  go_enter Tryz.func52, Tryz.ntmps52
  go_wp2
  all_goals
    go_ret
    have hl := Hl.out
    have hg : x.gs = [] ↔ n = 0 := by rw [← hl]; exact List.length_eq_zero_iff.symm
    refine ⟨ret_eq (bool_eq ?_), rfl⟩
    simp only [steadyB, hg]
    simp_all
    try (rw [Bool.eq_iff_iff]; simp)
end Go.Proofs.YtgibbhipjpbdfaaGreat
