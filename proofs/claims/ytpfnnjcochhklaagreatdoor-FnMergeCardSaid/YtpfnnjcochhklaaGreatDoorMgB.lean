
/- An aid that is being drawn: its box, the result's box, its group, its sectors and the source. -/
import Derived.Test.YtpfnnjcochhklaaGreatDoorMgEG
import Derived.Test.YtpfnnjcochhklaaGreatDoorMgA
import Derived.Test.YtpfnnjcochhklaaGreatDoorOwnG
import Derived.Test.YtpfnnjcochhklaaGreatDoorSecG
namespace Go.Proofs.YtpfnnjcochhklaaGreatDoor
open Go.RowKit
def putV : List Value → Nat → List Value → List Value
  | xs, _, [] => xs
  | xs, o, v :: r => putV (xs.set o v) (o + 1) r
theorem own_putV {base g n c sz : Nat} {e : TypeId} : ∀ (vs : List Value) (o : Nat) (xs : List Value) (w : World), w.ownsRow base e sz (.slice (some ⟨g, 0, none⟩) n c) n xs → (w.setCells g o vs).ownsRow base e sz (.slice (some ⟨g, 0, none⟩) n c) n (putV xs o vs) ∧ w.grownBy (w.setCells g o vs) (some g)
  | [], _, _, w, h => ⟨h, grown_refl w _⟩
  | v :: r, o, xs, w, h => by
    have s := h.stored o v
    have t := own_putV r (o + 1) (xs.set o v) (w.setCell ⟨g, o, none⟩ v) s.1
    exact ⟨t.1, grown_trans s.2 t.2⟩
theorem putV_all (xs : List Value) : ∀ (vs pre : List Value), pre.length + vs.length = xs.length → putV (pre ++ xs.drop pre.length) pre.length vs = pre ++ vs
  | [], pre, h => by
    have h2 : xs.drop pre.length = [] := List.drop_of_length_le (by simp at h; omega)
    rw [putV, h2]
  | v :: r, pre, h => by
    have h1 : pre.length < xs.length := by simp at h; omega
    have h2 : (pre ++ xs.drop pre.length).set pre.length v = (pre ++ [v]) ++ xs.drop (pre ++ [v]).length := by
      rw [List.drop_eq_getElem_cons h1, List.set_append_right _ _ (Nat.le_refl _), Nat.sub_self, List.set_cons_zero, List.length_append, List.length_singleton, List.append_assoc]; rfl
    have ih := putV_all xs r (pre ++ [v]) (by simp at h ⊢; omega)
    rw [putV, h2]
    rw [List.length_append, List.length_singleton] at ih ⊢
    rw [ih, List.append_assoc]; rfl
/-- z is being drawn into block X by a call that began at w. -/
structure AiD (w wr : World) (lo b a X : Nat) (z : AidG) : Prop where
  box : wr.ownsRow w.heap.size 56 16 (.slice (some ⟨X, 0, none⟩) 1 1) 1 z.cells
  res : wr.ownsRow w.heap.size 56 16 (.slice (some ⟨w.heap.size, 0, none⟩) 1 1) 1 aidZ.cells
  ne : X ≠ w.heap.size
  grp : wr.ownsRow w.heap.size 2 1 (.slice z.A z.n z.c) z.n (z.a.ch.gs.flatMap intC)
  sec : wr.ownsRow w.heap.size 94 3 (.slice z.B z.m z.d) z.m (z.a.secs.flatMap Sec.cells)
  sr : Src wr lo b a
  gr : w.grownBy wr (some b)
  lt : b < w.heap.size
  lo' : lo ≤ w.heap.size
section
variable {w wr w' : World} {lo b a a' X : Nat} {z : AidG}
theorem AiD.draw (h : AiD w wr lo b a X z) (hs : Src w' lo b a') (hg : wr.grownBy w' (some b)) : AiD w w' lo b a' X z :=
  ⟨own_src h.box hg h.lt, own_src h.res hg h.lt, h.ne, own_src h.grp hg h.lt, own_src h.sec hg h.lt, hs, grown_trans h.gr hg, h.lt, h.lo'⟩
theorem AiD.next (h : AiD w wr lo b a X z) (hb : Below wr.heap.size wr w') : AiD w w' lo b a X z := h.draw (h.sr.next hb) (grown_of_below hb)
theorem AiD.more (h : AiD w wr lo b a X z) (ha : a ≤ a') : AiD w wr lo b a' X z := ⟨h.box, h.res, h.ne, h.grp, h.sec, h.sr.more ha, h.gr, h.lt, h.lo'⟩
theorem AiD.put (h : AiD w wr lo b a X z) (z' : AidG) (o : Nat) (vs : List Value) (hz : putV z.cells o vs = z'.cells) (hg : wr.ownsRow w.heap.size 2 1 (.slice z'.A z'.n z'.c) z'.n (z'.a.ch.gs.flatMap intC)) (hs : wr.ownsRow w.heap.size 94 3 (.slice z'.B z'.m z'.d) z'.m (z'.a.secs.flatMap Sec.cells)) : AiD w (wr.setCells X o vs) lo b a X z' := by
  have s := own_putV vs o _ _ h.box
  rw [hz] at s
  have hX := h.box.lt X rfl
  refine ⟨s.1, own_grown h.res s.2 (.inr fun e => h.ne (Option.some.inj e).symm), h.ne, own_grown hg s.2 (own_ne hg h.box (by decide)), own_grown hs s.2 (own_ne hs h.box (by decide)), src_own h.sr h.box s.2 (by decide) h.lo', grown_own h.gr s.2 fun k hk => ?_, h.lt, h.lo'⟩
  injection hk with hk
  omega
theorem AiD.put1 (h : AiD w wr lo b a X z) (z' : AidG) (o : Nat) (v : Value) (hz : z.cells.set o v = z'.cells) (hg : wr.ownsRow w.heap.size 2 1 (.slice z'.A z'.n z'.c) z'.n (z'.a.ch.gs.flatMap intC)) (hs : wr.ownsRow w.heap.size 94 3 (.slice z'.B z'.m z'.d) z'.m (z'.a.secs.flatMap Sec.cells)) : AiD w (wr.setCell ⟨X, o, none⟩ v) lo b a X z' :=
  h.put z' o [v] hz hg hs
theorem own_aidp {base : Nat} {c : Nat} (h : wr.ownsRow base 56 16 (.slice (some ⟨X, 0, none⟩) 1 c) 1 z.cells) : AidP wr X 0 z :=
  ⟨(h.cellAt 0 (by omega)).trans rfl, (h.cellAt 1 (by omega)).trans rfl, (h.cellAt 2 (by omega)).trans rfl, (h.cellAt 3 (by omega)).trans rfl, (h.cellAt 4 (by omega)).trans rfl, (h.cellAt 5 (by omega)).trans rfl, (h.cellAt 6 (by omega)).trans rfl, (h.cellAt 7 (by omega)).trans rfl, (h.cellAt 8 (by omega)).trans rfl, (h.cellAt 9 (by omega)).trans rfl, (h.cellAt 10 (by omega)).trans rfl, (h.cellAt 11 (by omega)).trans rfl, (h.cellAt 12 (by omega)).trans rfl, (h.cellAt 13 (by omega)).trans rfl, (h.cellAt 14 (by omega)).trans rfl, (h.cellAt 15 (by omega)).trans rfl, (h.lt X rfl).2⟩
theorem AiD.p (h : AiD w wr lo b a X z) : AidP wr X 0 z := own_aidp h.box
theorem there_of {X o n : Nat} {z : AidG} (h : AidP wr X 0 z) (f : ∀ i, wr.frozen? ⟨X, i, none⟩ = false) (hn : o + n ≤ 16) : wr.there X o n := (AidF.mk h f).there o n hn
theorem AiD.thereX (h : AiD w wr lo b a X z) (o n : Nat) (hn : o + n ≤ 16) : wr.there X o n := there_of h.p h.box.frozenAt hn
theorem AiD.thereR (h : AiD w wr lo b a X z) : wr.there w.heap.size 0 16 := there_of (own_aidp (z := aidZ) h.res) h.res.frozenAt (by omega)
/-- The aid is returned. -/
theorem AiD.fin (h : AiD w wr lo b a X z) : AidP (wr.setCells w.heap.size 0 z.cells) w.heap.size 0 z ∧ AidNew (wr.setCells w.heap.size 0 z.cells) w.heap.size z ∧ Src (wr.setCells w.heap.size 0 z.cells) lo b a ∧ w.grownBy (wr.setCells w.heap.size 0 z.cells) (some b) := by
  have s := own_putV z.cells 0 _ _ h.res
  have e : putV aidZ.cells 0 z.cells = z.cells := putV_all aidZ.cells z.cells [] rfl
  rw [e] at s
  refine ⟨own_aidp s.1, ⟨own_grown h.grp s.2 (own_ne h.grp h.res (by decide)), own_grown h.sec s.2 (own_ne h.sec h.res (by decide))⟩, src_own h.sr h.res s.2 (by decide) h.lo', grown_own h.gr s.2 fun k hk => ?_⟩
  injection hk with hk
  omega
end
/-- Bounds of a valid aid. -/
theorem beq_size {s t : ByteArray} (h : (s.toList == t.toList) = true) : s.size = t.size := by
  rw [← toL_len, ← toL_len, eq_of_beq h]
theorem isE_size {s : ByteArray} (h : isE s = true) : s.size = 0 := by
  rw [isE, List.isEmpty_iff] at h
  rw [← toL_len, h]; rfl
theorem marks_bd {k : Int} (h : inB k 1 9 = true) : (mkCol k).size ≤ 10 ∧ (mkTop k).size ≤ 10 ∧ ∀ t ∈ mkShp k, t.size ≤ 10 := by
  rcases kind9 h with rfl | rfl | rfl | rfl | rfl | rfl | rfl | rfl | rfl <;> exact ⟨by decide, by decide, by decide⟩
theorem mark_bd {m : Mk} (h : markB m = true) : m.cs.size ≤ 10 ∧ m.sh.size ≤ 10 ∧ m.tp.size ≤ 10 := by
  rw [markB, Bool.or_eq_true] at h
  rcases h with h | h
  · simp only [mkZeroB, Bool.and_eq_true] at h
    have h1 := isE_size h.2.1
    have h2 := isE_size h.2.2.1
    have h3 := isE_size h.2.2.2
    omega
  · simp only [markOkB, Bool.and_eq_true, Bool.or_eq_true] at h
    obtain ⟨hk, hc, hs, ht⟩ := h
    obtain ⟨b1, b2, b3⟩ := marks_bd hk
    have h1 := beq_size hc
    refine ⟨by omega, ?_, ?_⟩
    · obtain ⟨t, ht, he⟩ := List.any_eq_true.1 hs
      have := beq_size he
      have := b3 t ht
      omega
    · rcases ht with ht | ht
      · have := isE_size ht; omega
      · have := beq_size ht; omega
theorem secs_bd {l : List Sec} (h : secsB l = true) : l.length ≤ 12 ∧ ∀ s ∈ l, s.c.size = 1 := by
  rw [secsB, decide_eq_true_eq] at h
  refine ⟨h.1, fun s hs => ?_⟩
  obtain ⟨i, hi⟩ := List.getElem?_of_mem hs
  have h1 := h.2.1 i (List.getElem?_eq_some_iff.1 hi).1
  rw [sAt_eq hi] at h1
  exact colB_size (secOk_bd h1).2.2
theorem valid_bd {x : AidX} (h : aidB x = true) : AidBd x := by
  simp only [aidB, aidHeadB, Bool.and_eq_true] at h
  obtain ⟨⟨_, hn, _, _, hm⟩, hl⟩ := h
  obtain ⟨_, n2, _⟩ := nameB_iff.1 hn
  obtain ⟨m1, m2, m3⟩ := mark_bd hm
  rw [Bool.or_eq_true] at hl
  rcases hl with hl | hl
  · simp only [litB, Bool.and_eq_true] at hl
    obtain ⟨hv, _, hs, _⟩ := hl
    obtain ⟨z1, z2, z3⟩ := shape_sizes (valid_shape hv)
    obtain ⟨s1, s2⟩ := secs_bd hs
    exact ⟨by omega, by omega, by omega, by omega, by omega, by omega, by omega, by omega, fun s h => by have := s2 s h; omega⟩
  · simp only [unlitB, plainCh, Bool.and_eq_true, decide_eq_true_eq] at hl
    obtain ⟨⟨_, hg, e1, e2, _⟩, hs, _⟩ := hl
    have h1 := isE_size e1
    have h2 := isE_size e2
    exact ⟨by omega, by omega, by omega, by omega, by rw [hg]; exact Nat.zero_le _, by omega, by omega, by rw [hs]; exact Nat.zero_le _, fun s h => by rw [hs] at h; cases h⟩
/-- What the draw of one aid leaves. -/
def DrawAns (lo b a : Nat) (w : World) (e : Ending) (w' : World) : Prop := ∃ z : AidG, e = .returned z.val ∧ aidB z.a = true ∧ AidNew w' w.heap.size z ∧ Src w' lo b a ∧ w.grownBy w' (some b)
end Go.Proofs.YtpfnnjcochhklaaGreatDoor
