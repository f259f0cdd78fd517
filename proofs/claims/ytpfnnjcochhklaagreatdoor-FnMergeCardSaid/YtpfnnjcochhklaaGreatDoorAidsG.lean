/- AidsG: several of my texts in one. -/
import Derived.Test.YtpfnnjcochhklaaGreatDoorAiG
import Derived.Test.YtpfnnjcochhklaaGreatDoorSecLaw

/- The laws' own functions over one aid. -/
namespace Go.Proofs.YtpfnnjcochhklaaGreatDoor
open Go.RowKit
/-- The new aid lies in memory of the call's own. -/
structure AidNew (w : World) (base : Nat) (z : AidG) : Prop where
  g : w.ownsRow base 2 1 (.slice z.A z.n z.c) z.n (z.a.ch.gs.flatMap intC)
  s : w.ownsRow base 94 3 (.slice z.B z.m z.d) z.m (z.a.secs.flatMap Sec.cells)
theorem AidNew.next {w w' : World} {base : Nat} {z : AidG} (h : AidNew w base z) (hb : Below w.heap.size w w') : AidNew w' base z := ⟨own_next h.g hb, own_next h.s hb⟩
theorem AidNew.ok {w : World} {base : Nat} {z : AidG} (h : AidNew w base z) (b : AidBd z.a) : AidOk w z := ⟨Sl.of_own h.g, Sl.of_own h.s, b⟩
end Go.Proofs.YtpfnnjcochhklaaGreatDoor

/- The laws' eqAid, at equal values. -/
namespace Go.Proofs.YtpfnnjcochhklaaGreatDoor
open Go.RowKit
end Go.Proofs.YtpfnnjcochhklaaGreatDoor

/- Lists of aids: how they lie, and the laws' own functions over them. -/
namespace Go.Proofs.YtpfnnjcochhklaaGreatDoor
open Go.RowKit
theorem aidInfo : (Tryz.prog.info? 56).map (fun i => (i.zero, i.size, i.bytes)) = some (some (.agg #[.int .i64 0, .string ByteArray.empty, .int .i64 0, .int .i64 0, .int .i64 0, .int .i64 0, .string ByteArray.empty, .string ByteArray.empty, .string ByteArray.empty, .int .i64 0, .slice none 0 0, .string ByteArray.empty, .string ByteArray.empty, .int .i64 0, .slice none 0 0, .int .i64 0]), 16, 208) := by kernel_rfl
/-- The slice .slice A n _ reads as the aids zs. -/
structure AidSl (w : World) (A : Option Addr) (n : Nat) (zs : List AidG) : Prop where
  sl : Sl w w.heap.size 16 A n (zs.flatMap AidG.cells)
  ok : ∀ z ∈ zs, AidOk w z
theorem AidSl.next {w w' : World} {A : Option Addr} {n : Nat} {zs : List AidG} (h : AidSl w A n zs) (hb : Below w.heap.size w w') : AidSl w' A n zs := ⟨h.sl.next hb, fun z hz => (h.ok z hz).next hb⟩
theorem AidSl.len {w : World} {A : Option Addr} {n : Nat} {zs : List AidG} (h : AidSl w A n zs) : zs.length = n := h.sl.len AidG.cells 16 AidG.cells_len (by omega)
theorem AidSl.get {w : World} {A : Option Addr} {n : Nat} {zs : List AidG} (h : AidSl w A n zs) (k : Nat) (hk : k < n) :
    ∃ b off z, A = some ⟨b, off, none⟩ ∧ zs[k]? = some z ∧ AidOk w z ∧ AidP w b (off + k * 16) z := by
  obtain ⟨b, off, z, hA, hb, hx, hp⟩ := aid_at h.sl (Nat.le_refl _) k hk
  exact ⟨b, off, z, hA, hx, h.ok z (List.mem_of_getElem? hx), hp⟩
/-- They lie in memory of the call's own. -/
structure AidOwn (w : World) (base : Nat) (v : Value) (n : Nat) (zs : List AidG) : Prop where
  own : w.ownsRow base 56 16 v n (zs.flatMap AidG.cells)
  new : ∀ z ∈ zs, AidNew w base z
theorem AidOwn.next {w w' : World} {base n : Nat} {v : Value} {zs : List AidG} (h : AidOwn w base v n zs) (hb : Below w.heap.size w w') : AidOwn w' base v n zs := ⟨own_next h.own hb, fun z hz => (h.new z hz).next hb⟩
theorem AidOwn.sl {w : World} {base n c : Nat} {A : Option Addr} {zs : List AidG} (h : AidOwn w base (.slice A n c) n zs) (hb : ∀ z ∈ zs, AidBd z.a) : AidSl w A n zs := ⟨Sl.of_own h.own, fun z hz => (h.new z hz).ok (hb z hz)⟩
end Go.Proofs.YtpfnnjcochhklaaGreatDoor

/- Lists of aids: equal ones; valid ones in plain Lean. -/
namespace Go.Proofs.YtpfnnjcochhklaaGreatDoor
open Go.RowKit
def aidZero : AidX := ⟨0, ByteArray.empty, 0, 0, 0, ⟨0, ByteArray.empty, ByteArray.empty, ByteArray.empty⟩, ⟨0, [], ByteArray.empty, ByteArray.empty, 0⟩, [], 0⟩
def aAt (l : List AidX) (i : Nat) : AidX := l.getD i aidZero
theorem aAt_eq {zs : List AidG} {i : Nat} {z : AidG} (h : zs[i]? = some z) : aAt (zs.map AidG.a) i = z.a := by simp [aAt, h]
def aidsP (l : List AidX) : Prop := (∀ i, i < l.length → aidB (aAt l i) = true) ∧ ∀ i, i < l.length → 0 < i → (aAt l (i - 1)).num < (aAt l i).num
instance (l : List AidX) : Decidable (aidsP l) := by unfold aidsP; infer_instance
def aidsB (l : List AidX) : Bool := decide (l.length ≤ 24 ∧ aidsP l)
theorem aidsB_no {l : List AidX} (h : ¬ aidsP l) : aidsB l = false := by simp [aidsB, h]
theorem aidsB_yes {l : List AidX} (h : aidsP l) : aidsB l = decide (l.length ≤ 24) := by simp [aidsB, h]
end Go.Proofs.YtpfnnjcochhklaaGreatDoor
