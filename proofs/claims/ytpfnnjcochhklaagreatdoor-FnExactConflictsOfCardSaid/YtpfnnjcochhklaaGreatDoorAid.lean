
/- Aids, in plain Lean. -/
import Derived.Test.YtpfnnjcochhklaaGreatDoorSec
import Derived.Test.YtpfnnjcochhklaaGreatDoorChValid
namespace Go.Proofs.YtpfnnjcochhklaaGreatDoor
open Go.RowKit
structure Mk where
  k : Int
  cs : ByteArray
  sh : ByteArray
  tp : ByteArray
abbrev Mk.cells (m : Mk) : List Value := [.int .i64 m.k, .string m.cs, .string m.sh, .string m.tp]
abbrev Mk.val (m : Mk) : Value := .agg #[.int .i64 m.k, .string m.cs, .string m.sh, .string m.tp]
abbrev ptV (x y : Int) : Value := .agg #[.int .i64 x, .int .i64 y]
structure AidX where
  num : Int
  nm : ByteArray
  x : Int
  y : Int
  h : Int
  mr : Mk
  ch : Ch
  secs : List Sec
  it : Int
/-- An aid and where its group and its sectors lie. -/
structure AidG where
  a : AidX
  A : Option Addr
  c : Nat
  B : Option Addr
  d : Nat
abbrev AidG.n (z : AidG) : Nat := z.a.ch.gs.length
abbrev AidG.m (z : AidG) : Nat := z.a.secs.length
abbrev AidG.cells (z : AidG) : List Value := [.int .i64 z.a.num, .string z.a.nm, .int .i64 z.a.x, .int .i64 z.a.y, .int .i64 z.a.h, .int .i64 z.a.mr.k, .string z.a.mr.cs, .string z.a.mr.sh, .string z.a.mr.tp,
  .int .i64 z.a.ch.k, .slice z.A z.n z.c, .string z.a.ch.l, .string z.a.ch.cs, .int .i64 z.a.ch.p, .slice z.B z.m z.d, .int .i64 z.a.it]
theorem AidG.cells_len (z : AidG) : z.cells.length = 16 := rfl
theorem aidg_one (z : AidG) : ∀ u ∈ z.cells, u.oneCell' = true := by simp [AidG.cells, Value.oneCell']
abbrev AidG.val (z : AidG) : Value := .agg #[.int .i64 z.a.num, .string z.a.nm, .int .i64 z.a.x, .int .i64 z.a.y, .int .i64 z.a.h, .int .i64 z.a.mr.k, .string z.a.mr.cs, .string z.a.mr.sh, .string z.a.mr.tp,
  .int .i64 z.a.ch.k, .slice z.A z.n z.c, .string z.a.ch.l, .string z.a.ch.cs, .int .i64 z.a.ch.p, .slice z.B z.m z.d, .int .i64 z.a.it]
/-- Bounds that the law's size gives. -/
structure AidBd (a : AidX) : Prop where
  nm : a.nm.size ≤ 1048576
  cs : a.mr.cs.size ≤ 1048576
  sh : a.mr.sh.size ≤ 1048576
  tp : a.mr.tp.size ≤ 1048576
  gs : a.ch.gs.length ≤ 1048576
  l : a.ch.l.size ≤ 1048576
  cc : a.ch.cs.size ≤ 1048576
  ss : a.secs.length ≤ 1048576
  sc : ∀ s ∈ a.secs, s.c.size ≤ 1048576
/-- What the reader gives. -/
structure AidRd (w : World) (z : AidG) : Prop where
  sl : Sl w w.heap.size 1 z.A z.n (z.a.ch.gs.flatMap intC)
  ss : Sl w w.heap.size 3 z.B z.m (z.a.secs.flatMap Sec.cells)
  nm : z.a.nm.size ≤ maxLen
  cs : z.a.mr.cs.size ≤ maxLen
  sh : z.a.mr.sh.size ≤ maxLen
  tp : z.a.mr.tp.size ≤ maxLen
  gs : z.n ≤ maxLen
  l : z.a.ch.l.size ≤ maxLen
  cc : z.a.ch.cs.size ≤ maxLen
  sn : z.m ≤ maxLen
  sc : ∀ s ∈ z.a.secs, s.c.size ≤ maxLen
structure AidOk (w : World) (z : AidG) : Prop where
  sl : Sl w w.heap.size 1 z.A z.n (z.a.ch.gs.flatMap intC)
  ss : Sl w w.heap.size 3 z.B z.m (z.a.secs.flatMap Sec.cells)
  bd : AidBd z.a
theorem AidRd.ok {w : World} {z : AidG} (h : AidRd w z) (b : AidBd z.a) : AidOk w z := ⟨h.sl, h.ss, b⟩
theorem AidRd.next {w w' : World} {z : AidG} (h : AidRd w z) (hb : Below w.heap.size w w') : AidRd w' z := ⟨h.sl.next hb, h.ss.next hb, h.nm, h.cs, h.sh, h.tp, h.gs, h.l, h.cc, h.sn, h.sc⟩
theorem AidOk.next {w w' : World} {z : AidG} (h : AidOk w z) (hb : Below w.heap.size w w') : AidOk w' z := ⟨h.sl.next hb, h.ss.next hb, h.bd⟩
/-- Its cells at a place of memory. -/
structure AidP (w : World) (b off : Nat) (z : AidG) : Prop where
  c0 : w.cell? ⟨b, off, none⟩ = some (.int .i64 z.a.num)
  c1 : w.cell? ⟨b, off + 1, none⟩ = some (.string z.a.nm)
  c2 : w.cell? ⟨b, off + 2, none⟩ = some (.int .i64 z.a.x)
  c3 : w.cell? ⟨b, off + 3, none⟩ = some (.int .i64 z.a.y)
  c4 : w.cell? ⟨b, off + 4, none⟩ = some (.int .i64 z.a.h)
  c5 : w.cell? ⟨b, off + 5, none⟩ = some (.int .i64 z.a.mr.k)
  c6 : w.cell? ⟨b, off + 6, none⟩ = some (.string z.a.mr.cs)
  c7 : w.cell? ⟨b, off + 7, none⟩ = some (.string z.a.mr.sh)
  c8 : w.cell? ⟨b, off + 8, none⟩ = some (.string z.a.mr.tp)
  c9 : w.cell? ⟨b, off + 9, none⟩ = some (.int .i64 z.a.ch.k)
  c10 : w.cell? ⟨b, off + 10, none⟩ = some (.slice z.A z.n z.c)
  c11 : w.cell? ⟨b, off + 11, none⟩ = some (.string z.a.ch.l)
  c12 : w.cell? ⟨b, off + 12, none⟩ = some (.string z.a.ch.cs)
  c13 : w.cell? ⟨b, off + 13, none⟩ = some (.int .i64 z.a.ch.p)
  c14 : w.cell? ⟨b, off + 14, none⟩ = some (.slice z.B z.m z.d)
  c15 : w.cell? ⟨b, off + 15, none⟩ = some (.int .i64 z.a.it)
  hb : b < w.heap.size
theorem AidP.next {w w' : World} {b off : Nat} {z : AidG} (h : AidP w b off z) (hb : Below w.heap.size w w') : AidP w' b off z :=
  have k := keepC hb b h.hb
  ⟨(k _).trans h.c0, (k _).trans h.c1, (k _).trans h.c2, (k _).trans h.c3, (k _).trans h.c4, (k _).trans h.c5, (k _).trans h.c6, (k _).trans h.c7, (k _).trans h.c8, (k _).trans h.c9, (k _).trans h.c10, (k _).trans h.c11, (k _).trans h.c12, (k _).trans h.c13, (k _).trans h.c14, (k _).trans h.c15, Nat.lt_of_lt_of_le h.hb hb.size⟩
abbrev aidO (z : AidG) (E : TypeId) : Obj := .cells z.cells.toArray E
theorem aidp_box (w : World) (z : AidG) (E : TypeId) : AidP (w.alloc (aidO z E)) w.heap.size 0 z := by
  have hb : (w.alloc (aidO z E)).heap[w.heap.size]? = some (.cells z.cells.toArray E (0, 0)) := heap_alloc_new w _
  refine ⟨?_, ?_, ?_, ?_, ?_, ?_, ?_, ?_, ?_, ?_, ?_, ?_, ?_, ?_, ?_, ?_, by simp⟩
  all_goals
    rw [cell_of_row _ w.heap.size _ _ E (0, 0) hb]
    rfl
theorem aid_at {w : World} {B n : Nat} {A : Option Addr} {zs : List AidG} (h : Sl w B 16 A n (zs.flatMap AidG.cells)) (hB : B ≤ w.heap.size) (k : Nat) (hk : k < n) :
    ∃ b off z, A = some ⟨b, off, none⟩ ∧ b < B ∧ zs[k]? = some z ∧ AidP w b (off + k * 16) z := by
  obtain ⟨b, off, z, hA, hb, hx, hc⟩ := h.get AidG.cells 16 AidG.cells_len (by omega) k hk
  exact ⟨b, off, z, hA, hb, hx, hc 0 _ rfl, hc 1 _ rfl, hc 2 _ rfl, hc 3 _ rfl, hc 4 _ rfl, hc 5 _ rfl, hc 6 _ rfl, hc 7 _ rfl, hc 8 _ rfl, hc 9 _ rfl, hc 10 _ rfl, hc 11 _ rfl, hc 12 _ rfl, hc 13 _ rfl, hc 14 _ rfl, hc 15 _ rfl, by omega⟩
/-! Marks. -/
def bs (l : List UInt8) : ByteArray := ⟨l.toArray⟩
def mkCols : List (List UInt8) := [[], [82], [71], [66, 89], [66, 89, 66], [89, 66], [89, 66, 89], [66, 82, 66], [82, 87], [89]]
def mkTops : List (List UInt8) := [[], [99, 97, 110], [99, 111, 110, 101], [117, 112], [98, 97, 115, 101], [100, 111, 119, 110], [112, 111, 105, 110, 116], [98, 97, 108, 108, 115], [98, 97, 108, 108], [99, 114, 111, 115, 115]]
def can8 : List UInt8 := [99, 97, 110]
def cone8 : List UInt8 := [99, 111, 110, 101]
def pil8 : List UInt8 := [112, 105, 108, 108, 97, 114]
def spar8 : List UInt8 := [115, 112, 97, 114]
def sph8 : List UInt8 := [115, 112, 104, 101, 114, 101]
def mkShapes : List (List (List UInt8)) := [[], [can8, pil8, spar8], [cone8, pil8, spar8], [pil8, spar8], [pil8, spar8], [pil8, spar8], [pil8, spar8], [pil8, spar8], [sph8, pil8, spar8], [can8, cone8, pil8, spar8, sph8]]
def mkCol (k : Int) : ByteArray := bs (mkCols.getD k.toNat [])
def mkTop (k : Int) : ByteArray := bs (mkTops.getD k.toNat [])
def mkShp (k : Int) : List ByteArray := (mkShapes.getD k.toNat []).map bs
def mkZeroB (m : Mk) : Bool := decide (m.k = 0) && (isE m.cs && (isE m.sh && isE m.tp))
def hasS (l : List ByteArray) (s : ByteArray) : Bool := l.any fun t => t.toList == s.toList
def markOkB (m : Mk) : Bool := inB m.k 1 9 && (m.cs.toList == (mkCol m.k).toList && (hasS (mkShp m.k) m.sh && (isE m.tp || m.tp.toList == (mkTop m.k).toList)))
def markB (m : Mk) : Bool := mkZeroB m || markOkB m
/-! Aids. -/
/-- The colors that occur. -/
def colsOf (l : List Sec) : List UInt8 := ([87, 82, 71, 89] : List UInt8).filter fun c => l.any fun s => s.c.toList == [c]
def litB (a : AidX) : Bool := validB a.ch && (inB a.it 1 100000000 && (secsB a.secs && (if a.secs = [] then decide (a.ch.cs.size = 1) else colsOf a.secs == a.ch.cs.toList)))
def plainCh (c : Ch) : Bool := decide (c.k = 0) && (decide (c.gs = []) && (isE c.l && (isE c.cs && decide (c.p = 0))))
def unlitB (a : AidX) : Bool := plainCh a.ch && (decide (a.secs = []) && decide (a.it = 0))
def aidHeadB (a : AidX) : Bool := inB a.num 1 9999 && (nameB a.nm && ((inB a.x 0 200000 && inB a.y 0 200000) && (inB a.h 0 3000 && markB a.mr)))
def aidB (a : AidX) : Bool := aidHeadB a && (litB a || unlitB a)
theorem plain_unlit {c : Ch} (h : plainCh c = true) : validB c = false := by
  simp only [plainCh, Bool.and_eq_true, decide_eq_true_eq] at h
  have : fitsB c = false := by unfold fitsB; simp [h.1]
  simp [validB, shapeB, this]
theorem lit_kind {a : AidX} (h : litB a = true) : a.ch.k ≠ 0 := fun e => by
  have : fitsB a.ch = false := by unfold fitsB; simp [e]
  simp [litB, validB, shapeB, this] at h
theorem unlit_kind {a : AidX} (h : unlitB a = true) : a.ch.k = 0 := by
  simp only [unlitB, plainCh, Bool.and_eq_true, decide_eq_true_eq] at h
  exact h.1.1
end Go.Proofs.YtpfnnjcochhklaaGreatDoor
