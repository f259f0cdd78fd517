/- PhG: several of my texts in one. -/
import Derived.Test.YtpfnnjcochhklaaGreatDoorChEq
import Derived.Test.YtpfnnjcochhklaaGreatDoorMkG
import Derived.Test.YtpfnnjcochhklaaGreatDoorChG
import Derived.Test.YtpfnnjcochhklaaGreatDoorChecked
import Derived.Test.YtpfnnjcochhklaaGreatDoorBsG

/- The laws' own functions over []Phase, and marks on a Character. -/
namespace Go.Proofs.YtpfnnjcochhklaaGreatDoor
open Go.RowKit
abbrev Ph.val (p : Ph) : Value := .agg #[.string p.c, .int .i64 p.len]
end Go.Proofs.YtpfnnjcochhklaaGreatDoor

/- Slices of Characters: how they lie, and the laws' own functions over them. -/
namespace Go.Proofs.YtpfnnjcochhklaaGreatDoor
open Go.RowKit
/-- A Character and where its group lies. -/
structure ChG where
  x : Ch
  A : Option Addr
  c : Nat
abbrev ChG.n (z : ChG) : Nat := z.x.gs.length
abbrev ChG.cells (z : ChG) : List Value := [.int .i64 z.x.k, .slice z.A z.n z.c, .string z.x.l, .string z.x.cs, .int .i64 z.x.p]
theorem ChG.cells_len (z : ChG) : z.cells.length = 5 := rfl
/-- What is known of one of them. -/
structure ChGOk (w : World) (z : ChG) : Prop where
  sl : Sl w w.heap.size 1 z.A z.n (z.x.gs.flatMap intC)
  hn : z.n ≤ 1048576
  hl : z.x.l.size ≤ 1048576
  hs : z.x.cs.size ≤ 1048576
theorem ChGOk.next {w w' : World} {z : ChG} (h : ChGOk w z) (hb : Below w.heap.size w w') : ChGOk w' z := ⟨h.sl.next hb, h.hn, h.hl, h.hs⟩
/-- The slice .slice A n _ reads as the Characters zs. -/
structure ChS (w : World) (A : Option Addr) (n : Nat) (zs : List ChG) : Prop where
  sl : Sl w w.heap.size 5 A n (zs.flatMap ChG.cells)
  ok : ∀ z ∈ zs, ChGOk w z
theorem ChS.next {w w' : World} {A : Option Addr} {n : Nat} {zs : List ChG} (h : ChS w A n zs) (hb : Below w.heap.size w w') : ChS w' A n zs := ⟨h.sl.next hb, fun z hz => (h.ok z hz).next hb⟩
theorem ChS.len {w : World} {A : Option Addr} {n : Nat} {zs : List ChG} (h : ChS w A n zs) : zs.length = n := h.sl.len ChG.cells 5 ChG.cells_len (by omega)
theorem ChS.get {w : World} {A : Option Addr} {n : Nat} {zs : List ChG} (h : ChS w A n zs) (k : Nat) (hk : k < n) :
    ∃ b off z, A = some ⟨b, off, none⟩ ∧ b < w.heap.size ∧ zs[k]? = some z ∧ ChGOk w z ∧ w.cell? ⟨b, off + k * 5, none⟩ = some (.int .i64 z.x.k) ∧ w.cell? ⟨b, off + k * 5 + 1, none⟩ = some (.slice z.A z.n z.c) ∧
      w.cell? ⟨b, off + k * 5 + 2, none⟩ = some (.string z.x.l) ∧ w.cell? ⟨b, off + k * 5 + 3, none⟩ = some (.string z.x.cs) ∧ w.cell? ⟨b, off + k * 5 + 4, none⟩ = some (.int .i64 z.x.p) := by
  obtain ⟨b, off, z, hA, hb, hx, hc⟩ := h.sl.get ChG.cells 5 ChG.cells_len (by omega) k hk
  exact ⟨b, off, z, hA, hb, hx, h.ok z (List.mem_of_getElem? hx), hc 0 _ rfl, hc 1 _ rfl, hc 2 _ rfl, hc 3 _ rfl, hc 4 _ rfl⟩
/-- They lie in memory of the call's own. -/
structure ChOwn (w : World) (base : Nat) (v : Value) (n : Nat) (zs : List ChG) : Prop where
  own : w.ownsRow base 53 5 v n (zs.flatMap ChG.cells)
  grp : ∀ z ∈ zs, w.ownsRow base 2 1 (.slice z.A z.n z.c) z.n (z.x.gs.flatMap intC)
theorem ChOwn.next {w w' : World} {base n : Nat} {v : Value} {zs : List ChG} (h : ChOwn w base v n zs) (hb : Below w.heap.size w w') : ChOwn w' base v n zs := ⟨own_next h.own hb, fun z hz => own_next (h.grp z hz) hb⟩
theorem ChOwn.len {w : World} {base n c : Nat} {A : Option Addr} {zs : List ChG} (h : ChOwn w base (.slice A n c) n zs) : zs.length = n := (Sl.of_own h.own).len ChG.cells 5 ChG.cells_len (by omega)
theorem ChOwn.sl {w : World} {base n c : Nat} {A : Option Addr} {zs : List ChG} (h : ChOwn w base (.slice A n c) n zs) (hb : ∀ z ∈ zs, z.n ≤ 1048576 ∧ z.x.l.size ≤ 1048576 ∧ z.x.cs.size ≤ 1048576) : ChS w A n zs :=
  ⟨Sl.of_own h.own, fun z hz => ⟨Sl.of_own (h.grp z hz), (hb z hz).1, (hb z hz).2.1, (hb z hz).2.2⟩⟩
end Go.Proofs.YtpfnnjcochhklaaGreatDoor

/- The reference's least and greatest of two numbers. -/
namespace Go.Proofs.YtpfnnjcochhklaaGreatDoor
open Go.RowKit
set_option maxHeartbeats 400000 in
theorem l00Min_c (a b : Int) (w : World) : Calls Tryz.prog 103 #[.int .i64 a, .int .i64 b] w fun e w' => e = .returned (.int .i64 (min a b)) ∧ w = w' := by
  go_enter Tryz.func103, Tryz.ntmps103
  go_wp2
  all_goals
    go_ret
    exact ⟨ret_eq (int_eq (by omega)), rfl⟩
end Go.Proofs.YtpfnnjcochhklaaGreatDoor
