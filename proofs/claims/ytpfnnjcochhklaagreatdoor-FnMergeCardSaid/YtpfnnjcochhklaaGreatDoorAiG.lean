/- AiG: several of my texts in one. -/
import Derived.Test.YtpfnnjcochhklaaGreatDoorChC
import Derived.Test.YtpfnnjcochhklaaGreatDoorChIG

/- Sectors of lights, in plain Lean. -/
namespace Go.Proofs.YtpfnnjcochhklaaGreatDoor
open Go.RowKit
structure Sec where
  f : Int
  t : Int
  c : ByteArray
abbrev Sec.cells (s : Sec) : List Value := [.int .i64 s.f, .int .i64 s.t, .string s.c]
theorem Sec.cells_len (s : Sec) : s.cells.length = 3 := rfl
theorem sec_one (s : Sec) : ∀ u ∈ s.cells, u.oneCell' = true := by simp [Sec.cells, Value.oneCell']
def zeroSec : Sec := ⟨0, 0, ByteArray.empty⟩
def arcI (f t : Int) : Int := (t - f - 1) % 360 + 1
def distI (f g : Int) : Int := (g - f) % 360
theorem arc_bd (f t : Int) : 1 ≤ arcI f t ∧ arcI f t ≤ 360 := by unfold arcI; omega
def secOk (s : Sec) : Bool := inB s.f 0 359 && inB s.t 0 359 && colB s.c
theorem secOk_bd {s : Sec} (h : secOk s = true) : (0 ≤ s.f ∧ s.f ≤ 359) ∧ (0 ≤ s.t ∧ s.t ≤ 359) ∧ colB s.c = true := by
  simp only [secOk, Bool.and_eq_true] at h
  exact ⟨inB_iff.1 h.1.1, inB_iff.1 h.1.2, h.2⟩
def sAt (l : List Sec) (i : Nat) : Sec := l.getD i zeroSec
theorem sAt_eq {l : List Sec} {i : Nat} {s : Sec} (h : l[i]? = some s) : sAt l i = s := by simp [sAt, h]
/-- Each sector ends where the next one begins, or ahead of it. -/
def secsP (l : List Sec) : Prop := (∀ i, i < l.length → secOk (sAt l i) = true) ∧ (∀ i, i < l.length → 0 < i → (sAt l (i - 1)).f < (sAt l i).f) ∧
  ∀ i, i < l.length → ∀ k, k < l.length → i ≠ k → arcI (sAt l i).f (sAt l i).t ≤ distI (sAt l i).f (sAt l k).f
instance (l : List Sec) : Decidable (secsP l) := by unfold secsP; infer_instance
def secsB (l : List Sec) : Bool := decide (l.length ≤ 12 ∧ secsP l)
theorem secs_rise {l : List Sec} (h : ∀ i, i < l.length → 0 < i → (sAt l (i - 1)).f < (sAt l i).f) : ∀ d i, i + d + 1 < l.length → (sAt l i).f < (sAt l (i + d + 1)).f
  | 0, i, hi => h (i + 0 + 1) hi (by omega)
  | d + 1, i, hi => by
    have h1 := secs_rise h d i (by omega)
    have h2 := h (i + (d + 1) + 1) hi (by omega)
    rw [show i + (d + 1) + 1 - 1 = i + d + 1 by omega] at h2
    omega
theorem secs_rise' {l : List Sec} (h : ∀ i, i < l.length → 0 < i → (sAt l (i - 1)).f < (sAt l i).f) {i k : Nat} (hik : i < k) (hk : k < l.length) : (sAt l i).f < (sAt l k).f := by
  have := secs_rise h (k - i - 1) i (by omega)
  rwa [show i + (k - i - 1) + 1 = k by omega] at this
theorem dist_up {a b : Int} (h : a < b) (h0 : 0 ≤ a) (h1 : b ≤ 359) : distI a b = b - a := by unfold distI; omega
theorem dist_down {a b : Int} (h : b < a) (h0 : 0 ≤ b) (h1 : a ≤ 359) : distI a b = b - a + 360 := by unfold distI; omega
/-- The reference asks the next one alone. -/
theorem secs_next {l : List Sec} (h1 : ∀ i, i < l.length → secOk (sAt l i) = true) (h2 : ∀ i, i < l.length → 0 < i → (sAt l (i - 1)).f < (sAt l i).f)
    (h3 : 1 < l.length → ∀ i, i < l.length → arcI (sAt l i).f (sAt l i).t ≤ distI (sAt l i).f (sAt l ((i + 1) % l.length)).f) : secsP l := by
  refine ⟨h1, h2, fun i hi k hk hik => ?_⟩
  have h3 := h3 (by omega) i hi
  obtain ⟨bi, _, _⟩ := secOk_bd (h1 i hi)
  obtain ⟨bk, _, _⟩ := secOk_bd (h1 k hk)
  obtain ⟨b0, _, _⟩ := secOk_bd (h1 0 (by omega))
  have r0 : ∀ j, 0 < j → j < l.length → (sAt l 0).f < (sAt l j).f := fun j h0 hj => secs_rise' h2 h0 hj
  by_cases he : i + 1 = l.length
  · rw [he, Nat.mod_self] at h3
    have r1 := r0 i (by omega) hi
    rw [dist_down r1 b0.1 bi.2] at h3
    have hki : k < i := by omega
    have r2 := secs_rise' h2 hki hi
    rw [dist_down r2 bk.1 bi.2]
    by_cases hk0 : k = 0
    · subst hk0; omega
    · have := r0 k (by omega) hk; omega
  · rw [Nat.mod_eq_of_lt (by omega)] at h3
    obtain ⟨bn, _, _⟩ := secOk_bd (h1 (i + 1) (by omega))
    rw [dist_up (secs_rise' h2 (by omega) (by omega)) bi.1 bn.2] at h3
    rcases Nat.lt_or_ge i k with hlt | hge
    · rw [dist_up (secs_rise' h2 hlt hk) bi.1 bk.2]
      by_cases hk1 : k = i + 1
      · subst hk1; omega
      · have := secs_rise' h2 (show i + 1 < k by omega) hk; omega
    · have hki : k < i := by omega
      rw [dist_down (secs_rise' h2 hki hi) bk.1 bi.2]
      omega
theorem secs_to_next {l : List Sec} (h : secsP l) (hn : 1 < l.length) (i : Nat) (hi : i < l.length) : arcI (sAt l i).f (sAt l i).t ≤ distI (sAt l i).f (sAt l ((i + 1) % l.length)).f := by
  refine h.2.2 i hi _ (Nat.mod_lt _ (by omega)) ?_
  by_cases he : i + 1 = l.length
  · rw [he, Nat.mod_self]; omega
  · rw [Nat.mod_eq_of_lt (by omega)]; omega
/-- The sum of the first arcs. -/
def arcSum (l : List Sec) : Nat → Int
  | 0 => 0
  | m + 1 => arcSum l m + arcI (sAt l m).f (sAt l m).t
theorem arcSum_bd (l : List Sec) : ∀ m : Nat, (m : Int) ≤ arcSum l m ∧ arcSum l m ≤ 360 * m
  | 0 => by simp [arcSum]
  | m + 1 => by
    have := arcSum_bd l m
    have := arc_bd (sAt l m).f (sAt l m).t
    simp only [arcSum]; omega
theorem arcSum_part {l : List Sec} (h : secsP l) : ∀ m, m < l.length → arcSum l m ≤ (sAt l m).f - (sAt l 0).f
  | 0, _ => by simp [arcSum]
  | m + 1, hm => by
    have ih := arcSum_part h m (by omega)
    have h3 := h.2.2 m (by omega) (m + 1) hm (by omega)
    obtain ⟨bi, _, _⟩ := secOk_bd (h.1 m (by omega))
    obtain ⟨bn, _, _⟩ := secOk_bd (h.1 (m + 1) hm)
    rw [dist_up (secs_rise' h.2.1 (by omega) hm) bi.1 bn.2] at h3
    simp only [arcSum]; omega
theorem arcSum_all {l : List Sec} (h : secsP l) : arcSum l l.length ≤ 360 := by
  rcases Nat.eq_zero_or_pos l.length with h0 | h0
  · rw [h0]; simp [arcSum]
  · obtain ⟨m, hm⟩ : ∃ m, l.length = m + 1 := ⟨l.length - 1, by omega⟩
    rw [hm]
    have h1 := arcSum_part h m (by omega)
    have h4 := arc_bd (sAt l m).f (sAt l m).t
    simp only [arcSum]
    by_cases hm0 : m = 0
    · subst hm0; simp [arcSum]; omega
    · have h3 := h.2.2 m (by omega) 0 (by omega) hm0
      obtain ⟨bi, _, _⟩ := secOk_bd (h.1 m (by omega))
      obtain ⟨b0, _, _⟩ := secOk_bd (h.1 0 (by omega))
      rw [dist_down (secs_rise' h.2.1 (show 0 < m by omega) (by omega)) b0.1 bi.2] at h3
      omega
theorem secsB_no {l : List Sec} (h : ¬ secsP l) : secsB l = false := by simp [secsB, h]
theorem secsB_yes {l : List Sec} (h : secsP l) : secsB l = decide (l.length ≤ 12) := by simp [secsB, h]
end Go.Proofs.YtpfnnjcochhklaaGreatDoor

/- Aids, in plain Lean. -/
namespace Go.Proofs.YtpfnnjcochhklaaGreatDoor
open Go.RowKit
structure Mk where
  k : Int
  cs : ByteArray
  sh : ByteArray
  tp : ByteArray
abbrev Mk.cells (m : Mk) : List Value := [.int .i64 m.k, .string m.cs, .string m.sh, .string m.tp]
abbrev Mk.val (m : Mk) : Value := .agg #[.int .i64 m.k, .string m.cs, .string m.sh, .string m.tp]
abbrev ptV (x y : Int) : Value := .agg #[.int .i64 x, .int .i64 y]
structure AidX where
  num : Int
  nm : ByteArray
  x : Int
  y : Int
  h : Int
  mr : Mk
  ch : Ch
  secs : List Sec
  it : Int
/-- An aid and where its group and its sectors lie. -/
structure AidG where
  a : AidX
  A : Option Addr
  c : Nat
  B : Option Addr
  d : Nat
abbrev AidG.n (z : AidG) : Nat := z.a.ch.gs.length
abbrev AidG.m (z : AidG) : Nat := z.a.secs.length
abbrev AidG.cells (z : AidG) : List Value := [.int .i64 z.a.num, .string z.a.nm, .int .i64 z.a.x, .int .i64 z.a.y, .int .i64 z.a.h, .int .i64 z.a.mr.k, .string z.a.mr.cs, .string z.a.mr.sh, .string z.a.mr.tp,
  .int .i64 z.a.ch.k, .slice z.A z.n z.c, .string z.a.ch.l, .string z.a.ch.cs, .int .i64 z.a.ch.p, .slice z.B z.m z.d, .int .i64 z.a.it]
theorem AidG.cells_len (z : AidG) : z.cells.length = 16 := rfl
theorem aidg_one (z : AidG) : ∀ u ∈ z.cells, u.oneCell' = true := by simp [AidG.cells, Value.oneCell']
abbrev AidG.val (z : AidG) : Value := .agg #[.int .i64 z.a.num, .string z.a.nm, .int .i64 z.a.x, .int .i64 z.a.y, .int .i64 z.a.h, .int .i64 z.a.mr.k, .string z.a.mr.cs, .string z.a.mr.sh, .string z.a.mr.tp,
  .int .i64 z.a.ch.k, .slice z.A z.n z.c, .string z.a.ch.l, .string z.a.ch.cs, .int .i64 z.a.ch.p, .slice z.B z.m z.d, .int .i64 z.a.it]
/-- Bounds that the law's size gives. -/
structure AidBd (a : AidX) : Prop where
  nm : a.nm.size ≤ 1048576
  cs : a.mr.cs.size ≤ 1048576
  sh : a.mr.sh.size ≤ 1048576
  tp : a.mr.tp.size ≤ 1048576
  gs : a.ch.gs.length ≤ 1048576
  l : a.ch.l.size ≤ 1048576
  cc : a.ch.cs.size ≤ 1048576
  ss : a.secs.length ≤ 1048576
  sc : ∀ s ∈ a.secs, s.c.size ≤ 1048576
/-- What the reader gives. -/
structure AidRd (w : World) (z : AidG) : Prop where
  sl : Sl w w.heap.size 1 z.A z.n (z.a.ch.gs.flatMap intC)
  ss : Sl w w.heap.size 3 z.B z.m (z.a.secs.flatMap Sec.cells)
  nm : z.a.nm.size ≤ maxLen
  cs : z.a.mr.cs.size ≤ maxLen
  sh : z.a.mr.sh.size ≤ maxLen
  tp : z.a.mr.tp.size ≤ maxLen
  gs : z.n ≤ maxLen
  l : z.a.ch.l.size ≤ maxLen
  cc : z.a.ch.cs.size ≤ maxLen
  sn : z.m ≤ maxLen
  sc : ∀ s ∈ z.a.secs, s.c.size ≤ maxLen
structure AidOk (w : World) (z : AidG) : Prop where
  sl : Sl w w.heap.size 1 z.A z.n (z.a.ch.gs.flatMap intC)
  ss : Sl w w.heap.size 3 z.B z.m (z.a.secs.flatMap Sec.cells)
  bd : AidBd z.a
theorem AidRd.ok {w : World} {z : AidG} (h : AidRd w z) (b : AidBd z.a) : AidOk w z := ⟨h.sl, h.ss, b⟩
theorem AidRd.next {w w' : World} {z : AidG} (h : AidRd w z) (hb : Below w.heap.size w w') : AidRd w' z := ⟨h.sl.next hb, h.ss.next hb, h.nm, h.cs, h.sh, h.tp, h.gs, h.l, h.cc, h.sn, h.sc⟩
theorem AidOk.next {w w' : World} {z : AidG} (h : AidOk w z) (hb : Below w.heap.size w w') : AidOk w' z := ⟨h.sl.next hb, h.ss.next hb, h.bd⟩
/-- Its cells at a place of memory. -/
structure AidP (w : World) (b off : Nat) (z : AidG) : Prop where
  c0 : w.cell? ⟨b, off, none⟩ = some (.int .i64 z.a.num)
  c1 : w.cell? ⟨b, off + 1, none⟩ = some (.string z.a.nm)
  c2 : w.cell? ⟨b, off + 2, none⟩ = some (.int .i64 z.a.x)
  c3 : w.cell? ⟨b, off + 3, none⟩ = some (.int .i64 z.a.y)
  c4 : w.cell? ⟨b, off + 4, none⟩ = some (.int .i64 z.a.h)
  c5 : w.cell? ⟨b, off + 5, none⟩ = some (.int .i64 z.a.mr.k)
  c6 : w.cell? ⟨b, off + 6, none⟩ = some (.string z.a.mr.cs)
  c7 : w.cell? ⟨b, off + 7, none⟩ = some (.string z.a.mr.sh)
  c8 : w.cell? ⟨b, off + 8, none⟩ = some (.string z.a.mr.tp)
  c9 : w.cell? ⟨b, off + 9, none⟩ = some (.int .i64 z.a.ch.k)
  c10 : w.cell? ⟨b, off + 10, none⟩ = some (.slice z.A z.n z.c)
  c11 : w.cell? ⟨b, off + 11, none⟩ = some (.string z.a.ch.l)
  c12 : w.cell? ⟨b, off + 12, none⟩ = some (.string z.a.ch.cs)
  c13 : w.cell? ⟨b, off + 13, none⟩ = some (.int .i64 z.a.ch.p)
  c14 : w.cell? ⟨b, off + 14, none⟩ = some (.slice z.B z.m z.d)
  c15 : w.cell? ⟨b, off + 15, none⟩ = some (.int .i64 z.a.it)
  hb : b < w.heap.size
theorem AidP.next {w w' : World} {b off : Nat} {z : AidG} (h : AidP w b off z) (hb : Below w.heap.size w w') : AidP w' b off z :=
  have k := keepC hb b h.hb
  ⟨(k _).trans h.c0, (k _).trans h.c1, (k _).trans h.c2, (k _).trans h.c3, (k _).trans h.c4, (k _).trans h.c5, (k _).trans h.c6, (k _).trans h.c7, (k _).trans h.c8, (k _).trans h.c9, (k _).trans h.c10, (k _).trans h.c11, (k _).trans h.c12, (k _).trans h.c13, (k _).trans h.c14, (k _).trans h.c15, Nat.lt_of_lt_of_le h.hb hb.size⟩
abbrev aidO (z : AidG) (E : TypeId) : Obj := .cells z.cells.toArray E
theorem aidp_box (w : World) (z : AidG) (E : TypeId) : AidP (w.alloc (aidO z E)) w.heap.size 0 z := by
  have hb : (w.alloc (aidO z E)).heap[w.heap.size]? = some (.cells z.cells.toArray E (0, 0)) := heap_alloc_new w _
  refine ⟨?_, ?_, ?_, ?_, ?_, ?_, ?_, ?_, ?_, ?_, ?_, ?_, ?_, ?_, ?_, ?_, by simp⟩
  all_goals
    rw [cell_of_row _ w.heap.size _ _ E (0, 0) hb]
    rfl
theorem aid_at {w : World} {B n : Nat} {A : Option Addr} {zs : List AidG} (h : Sl w B 16 A n (zs.flatMap AidG.cells)) (hB : B ≤ w.heap.size) (k : Nat) (hk : k < n) :
    ∃ b off z, A = some ⟨b, off, none⟩ ∧ b < B ∧ zs[k]? = some z ∧ AidP w b (off + k * 16) z := by
  obtain ⟨b, off, z, hA, hb, hx, hc⟩ := h.get AidG.cells 16 AidG.cells_len (by omega) k hk
  exact ⟨b, off, z, hA, hb, hx, hc 0 _ rfl, hc 1 _ rfl, hc 2 _ rfl, hc 3 _ rfl, hc 4 _ rfl, hc 5 _ rfl, hc 6 _ rfl, hc 7 _ rfl, hc 8 _ rfl, hc 9 _ rfl, hc 10 _ rfl, hc 11 _ rfl, hc 12 _ rfl, hc 13 _ rfl, hc 14 _ rfl, hc 15 _ rfl, by omega⟩
/-! Marks. -/
def bs (l : List UInt8) : ByteArray := ⟨l.toArray⟩
def mkCols : List (List UInt8) := [[], [82], [71], [66, 89], [66, 89, 66], [89, 66], [89, 66, 89], [66, 82, 66], [82, 87], [89]]
def mkTops : List (List UInt8) := [[], [99, 97, 110], [99, 111, 110, 101], [117, 112], [98, 97, 115, 101], [100, 111, 119, 110], [112, 111, 105, 110, 116], [98, 97, 108, 108, 115], [98, 97, 108, 108], [99, 114, 111, 115, 115]]
def can8 : List UInt8 := [99, 97, 110]
def cone8 : List UInt8 := [99, 111, 110, 101]
def pil8 : List UInt8 := [112, 105, 108, 108, 97, 114]
def spar8 : List UInt8 := [115, 112, 97, 114]
def sph8 : List UInt8 := [115, 112, 104, 101, 114, 101]
def mkShapes : List (List (List UInt8)) := [[], [can8, pil8, spar8], [cone8, pil8, spar8], [pil8, spar8], [pil8, spar8], [pil8, spar8], [pil8, spar8], [pil8, spar8], [sph8, pil8, spar8], [can8, cone8, pil8, spar8, sph8]]
def mkCol (k : Int) : ByteArray := bs (mkCols.getD k.toNat [])
def mkTop (k : Int) : ByteArray := bs (mkTops.getD k.toNat [])
def mkShp (k : Int) : List ByteArray := (mkShapes.getD k.toNat []).map bs
def mkZeroB (m : Mk) : Bool := decide (m.k = 0) && (isE m.cs && (isE m.sh && isE m.tp))
def hasS (l : List ByteArray) (s : ByteArray) : Bool := l.any fun t => t.toList == s.toList
def markOkB (m : Mk) : Bool := inB m.k 1 9 && (m.cs.toList == (mkCol m.k).toList && (hasS (mkShp m.k) m.sh && (isE m.tp || m.tp.toList == (mkTop m.k).toList)))
def markB (m : Mk) : Bool := mkZeroB m || markOkB m
/-! Aids. -/
/-- The colors that occur. -/
def colsOf (l : List Sec) : List UInt8 := ([87, 82, 71, 89] : List UInt8).filter fun c => l.any fun s => s.c.toList == [c]
def litB (a : AidX) : Bool := validB a.ch && (inB a.it 1 100000000 && (secsB a.secs && (if a.secs = [] then decide (a.ch.cs.size = 1) else colsOf a.secs == a.ch.cs.toList)))
def plainCh (c : Ch) : Bool := decide (c.k = 0) && (decide (c.gs = []) && (isE c.l && (isE c.cs && decide (c.p = 0))))
def unlitB (a : AidX) : Bool := plainCh a.ch && (decide (a.secs = []) && decide (a.it = 0))
def aidHeadB (a : AidX) : Bool := inB a.num 1 9999 && (nameB a.nm && ((inB a.x 0 200000 && inB a.y 0 200000) && (inB a.h 0 3000 && markB a.mr)))
def aidB (a : AidX) : Bool := aidHeadB a && (litB a || unlitB a)
theorem plain_unlit {c : Ch} (h : plainCh c = true) : validB c = false := by
  simp only [plainCh, Bool.and_eq_true, decide_eq_true_eq] at h
  have : fitsB c = false := by unfold fitsB; simp [h.1]
  simp [validB, shapeB, this]
end Go.Proofs.YtpfnnjcochhklaaGreatDoor
