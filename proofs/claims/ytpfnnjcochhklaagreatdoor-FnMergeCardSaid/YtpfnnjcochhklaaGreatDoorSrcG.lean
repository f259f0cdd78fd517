/- SrcG: several of my texts in one. -/
import Derived.Test.YtpfnnjcochhklaaGreatDoorApG
import Derived.Test.YtpfnnjcochhklaaGreatDoorChecked
import Derived.Test.YtpfnnjcochhklaaGreatDoorBsG

/- What is written lies in a range of blocks. No program is named here. -/
namespace Go.Proofs.YtpfnnjcochhklaaGreatDoor
open Go.RowKit
/-- A step of a region that draws its order; the way back into the region is shut. -/
theorem allReadyS_cons {P : Program} {md : Region.Mode} {ops : Array Oper} {Q : Exit → Act → World → Prop} {fuel : Nat} {listed : Array Bool} {a : Act} {w : World} {i : Nat} {o : Oper} {rs : List Nat} (ho : ops[i]? = some o)
    (h : ∀ K' : Act → World → Prop, Shut (∀ a w, wpAny P md ops Q fuel (listed.setIfInBounds i true) a w → K' a w) → if Region.wanted o (yielded ops a.tmps) = true then Oper.wp P o a w K' Q else K' (a.put o.dst undef) w)
    (hs : AllReady P md ops Q fuel listed a w rs) : AllReady P md ops Q fuel listed a w (i :: rs) := AllReady.cons ho (fun K hK => h K hK) hs
structure Rng (lo hi : Nat) (w w' : World) : Prop where
  os : w'.os = w.os
  tape : w'.tape = w.tape
  output : w'.output = w.output
  size : w.heap.size ≤ w'.heap.size
  block : ∀ b, b < w.heap.size → (b < lo ∨ hi ≤ b) → w'.heap[b]? = w.heap[b]?
theorem Rng.refl (lo hi : Nat) (w : World) : Rng lo hi w w := ⟨rfl, rfl, rfl, Nat.le_refl _, fun _ _ _ => rfl⟩
theorem Rng.trans {lo hi : Nat} {a b c : World} (h : Rng lo hi a b) (k : Rng lo hi b c) : Rng lo hi a c :=
  ⟨k.os.trans h.os, k.tape.trans h.tape, k.output.trans h.output, Nat.le_trans h.size k.size, fun i hi' hne => (k.block i (Nat.lt_of_lt_of_le hi' h.size) hne).trans (h.block i hi' hne)⟩
/-- A row of integers of the call's own, whatever it holds. -/
def OwnAny (w : World) (base : Nat) (e : TypeId) (sz n : Nat) (v : Value) : Prop := ∃ ys, w.ownsRow base e sz v n ys
theorem OwnAny.grown {w w' : World} {base base' : Nat} {e e' : TypeId} {sz sz' n m : Nat} {v u : Value} {us : List Value} (h : OwnAny w base e sz n v) (hu : w.ownsRow base' e' sz' u m us) (hg : w.grownBy w' u.ownBlock) (hne : e ≠ e') : OwnAny w' base e sz n v := by
  obtain ⟨ys, hy⟩ := h
  exact ⟨ys, own_grown hy hg (own_ne hy hu hne)⟩
theorem OwnAny.next {w w' : World} {base : Nat} {e : TypeId} {sz n : Nat} {v : Value} (h : OwnAny w base e sz n v) (hb : Below w.heap.size w w') : OwnAny w' base e sz n v := by
  obtain ⟨ys, hy⟩ := h
  exact ⟨ys, own_next hy hb⟩
end Go.Proofs.YtpfnnjcochhklaaGreatDoor

/- Rows of bytes. -/
namespace Go.Proofs.YtpfnnjcochhklaaGreatDoor
open Go.RowKit
def u8C (x : Int) : List Value := [.int .u8 x]
theorem u8C_len (x : Int) : (u8C x).length = 1 := rfl
theorem Sl.u8 {w : World} {B n : Nat} {A : Option Addr} {xs : List Int} (h : Sl w B 1 A n (xs.flatMap u8C)) (k : Nat) (hk : k < n) :
    ∃ b off x, A = some ⟨b, off, none⟩ ∧ b < B ∧ xs[k]? = some x ∧ w.cell? ⟨b, off + k, none⟩ = some (.int .u8 x) := by
  obtain ⟨b, off, s, hA, hb, hx, hc⟩ := h.get u8C 1 u8C_len (by omega) k hk
  have := hc 0 _ rfl
  rw [Nat.mul_one, Nat.add_zero] at this
  exact ⟨b, off, s, hA, hb, hx, this⟩
end Go.Proofs.YtpfnnjcochhklaaGreatDoor

/- The source of choices by which a law draws its inputs: next, pick, one, among, text. -/
namespace Go.Proofs.YtpfnnjcochhklaaGreatDoor
open Go.RowKit
abbrev srcC (A : Option Addr) (n c : Nat) (a : Nat) (seed : Int) : List Value := [.slice A n c, .int .i64 a, .int .u64 seed]
/-- The source lies in block b of the law's own (not below lo); it has been asked at most a times. -/
def Src (w : World) (lo b a : Nat) : Prop := ∃ (A : Option Addr) (n c a' : Nat) (seed : Int) (bs : List Int), a' ≤ a ∧ w.ownsRow lo 78 3 (.slice (some ⟨b, 0, none⟩) 1 1) 1 (srcC A n c a' seed) ∧ Sl w lo 1 A n (bs.flatMap u8C) ∧ (∀ x ∈ bs, 0 ≤ x ∧ x ≤ 255) ∧ n ≤ maxLen ∧ lo ≤ w.heap.size
theorem Src.lt {w : World} {lo b a : Nat} (h : Src w lo b a) : lo ≤ b ∧ b < w.heap.size := by
  obtain ⟨A, n, c, a', seed, bs, _, ho, _⟩ := h
  exact ho.lt b rfl
theorem Src.next {w w' : World} {lo b a : Nat} (h : Src w lo b a) (hb : Below w.heap.size w w') : Src w' lo b a := by
  obtain ⟨A, n, c, a', seed, bs, ha, ho, hs, hbs, hn, hl⟩ := h
  exact ⟨A, n, c, a', seed, bs, ha, own_next ho hb, hs.keep fun b hb' => hb.block b (by omega), hbs, hn, Nat.le_trans hl hb.size⟩
theorem Src.more {w : World} {lo b a a2 : Nat} (h : Src w lo b a) (h2 : a ≤ a2) : Src w lo b a2 := by
  obtain ⟨A, n, c, a', seed, bs, ha, r⟩ := h
  exact ⟨A, n, c, a', seed, bs, by omega, r⟩
theorem u64_bd (n : Int) : 0 ≤ IntKind.u64.wrap n ∧ IntKind.u64.wrap n ≤ 18446744073709551615 := by
  have e : IntKind.u64.wrap n = n % 18446744073709551616 := rfl
  rw [e]; omega
theorem and_255 (E : Int) (h0 : 0 ≤ E) (h1 : E ≤ 18446744073709551615) : 0 ≤ wrap64 (bits BinOp.and IntKind.u64 E 255) ∧ wrap64 (bits BinOp.and IntKind.u64 E 255) ≤ 255 := by
  have h := bits_and_u64_nat E.toNat 255 (by omega) (by omega)
  rw [Int.toNat_of_nonneg h0] at h
  have h2 : E.toNat &&& 255 ≤ 255 := Nat.and_le_right
  have h3 : bits BinOp.and IntKind.u64 E 255 = ((E.toNat &&& 255 : Nat) : Int) := h
  rw [h3]
  unfold wrap64
  omega
theorem lit_own (w : World) (base : Nat) (e : TypeId) (cs : Array Value) (n sz : Nat) (hb : base ≤ w.heap.size) (hm : n ≤ maxLen) (hs : cs.size = n * sz) :
    (w.alloc (.cells cs e)).ownsRow base e sz (.slice (some ⟨w.heap.size, 0, none⟩) n n) n cs.toList :=
  ⟨by simpa using hs, .inr ⟨w.heap.size, n, cs, rfl, hb, heap_alloc_new w _, Nat.le_refl _, hm, hs, by rw [List.take_of_length_le (by simp [hs])]⟩⟩
def NextAns (w : World) (lo b a : Nat) (e : Ending) (w' : World) : Prop := ∃ r : Int, e = .returned (.int .i64 r) ∧ 0 ≤ r ∧ r ≤ 255 ∧ Src w' lo b (a + 1) ∧ w.grownBy w' (some b)
set_option maxRecDepth 100000 in
set_option maxHeartbeats 1000000 in
theorem srcNext_c (lo b a : Nat) (w : World) (h : Src w lo b a) (ha : a ≤ 1000000000) :
    Calls Tryz.prog 66 #[.pointer (some ⟨b, 0, none⟩)] w (NextAns w lo b a) := by
  obtain ⟨A, n, c, a', seed, bs, ha', ho, hs, hbs, hn, hl⟩ := h
  have f0 : w.cell? ⟨b, 0, none⟩ = some (.slice A n c) := by rw [ho.cellAt 0 (by omega)]; rfl
  have f1 : w.cell? ⟨b, 1, none⟩ = some (.int .i64 a') := by rw [ho.cellAt 1 (by omega)]; rfl
  have f2 : w.cell? ⟨b, 2, none⟩ = some (.int .u64 seed) := by rw [ho.cellAt 2 (by omega)]; rfl
  have fz := ho.frozenAt
  unfold maxLen at hn
  by_cases hlt : a' < n
  · obtain ⟨b1, off1, x, rfl, hb1, hx, d1⟩ := hs.u8 a' hlt
    obtain ⟨x0, x1⟩ := hbs x (List.mem_of_getElem? hx)
    have hlt' : decide ((a' : Int) < (n : Int)) = true := by simpa using hlt
    have hle' : decide ((a' : Int) + 1 ≤ (n : Int)) = true := by simp; omega
    have hne : b1 ≠ b := by have := (ho.lt b rfl).1; omega
    have Hx := Lib.hid hx; clear hx
    have Hle' := Lib.hid hle'; clear hle'
    have Hbs := Lib.hid hbs; clear hbs
    go_enter Tryz.func66, Tryz.ntmps66
    go_wp2
    go_quiet (fail)
    have ho1 := own_next ho (below_drewN (Below.refl w.heap.size w) nq)
    have hs1 := hs.keep fun b' hb' => (below_drewN (Below.refl w.heap.size w) nq).block b' (by omega)
    have hg1 : w.grownBy (w.drewN nq) (some b) := grown_of_below (below_drewN (Below.refl w.heap.size w) nq)
    have hl1 : lo ≤ (w.drewN nq).heap.size := hl
    obtain ⟨b1', off1', x', e1', _, hx', d1'⟩ := hs1.u8 a' hlt
    injection e1' with e1'
    injection e1' with e1' e2' _
    subst e1' e2'
    obtain rfl : x = x' := by rw [Hx.out] at hx'; injection hx'
    have f0 : (w.drewN nq).cell? ⟨b, 0, none⟩ = some (.slice (some ⟨b1, off1, none⟩) n c) := by rw [ho1.cellAt 0 (by omega)]; rfl
    have f1 : (w.drewN nq).cell? ⟨b, 1, none⟩ = some (.int .i64 a') := by rw [ho1.cellAt 1 (by omega)]; rfl
    have f2 : (w.drewN nq).cell? ⟨b, 2, none⟩ = some (.int .u64 seed) := by rw [ho1.cellAt 2 (by omega)]; rfl
    have fz := ho1.frozenAt
    clear hx' ho hs
    generalize w.drewN nq = w1 at *
    go_wp2
    go_quiet (fail)
    have ho2 := own_next ho1 (below_drewN (Below.refl w1.heap.size w1) nq)
    have hs2 := hs1.keep fun b' hb' => (below_drewN (Below.refl w1.heap.size w1) nq).block b' (by omega)
    have hg2 : w.grownBy (w1.drewN nq) (some b) := grown_trans hg1 (grown_of_below (below_drewN (Below.refl w1.heap.size w1) nq))
    have hl2 : lo ≤ (w1.drewN nq).heap.size := hl1
    have f0 : (w1.drewN nq).cell? ⟨b, 0, none⟩ = some (.slice (some ⟨b1, off1, none⟩) n c) := by rw [ho2.cellAt 0 (by omega)]; rfl
    have f1 : (w1.drewN nq).cell? ⟨b, 1, none⟩ = some (.int .i64 a') := by rw [ho2.cellAt 1 (by omega)]; rfl
    have f2 : (w1.drewN nq).cell? ⟨b, 2, none⟩ = some (.int .u64 seed) := by rw [ho2.cellAt 2 (by omega)]; rfl
    have fz := ho2.frozenAt
    clear ho1 hs1 hg1
    generalize w1.drewN nq = w2 at *
    go_wp2
    generalize IntKind.u64.wrap (IntKind.u64.wrap (IntKind.u64.wrap (seed * 6364136223846793005) + x) + 1442695040888963407) = seed2
    have s1 := ho2.stored 1 (.int .i64 ((a' : Int) + 1))
    have s2 := s1.1.stored 2 (.int .u64 seed2)
    have hg3 := grown_trans (grown_trans hg2 s1.2) s2.2
    have hs3 : Sl ((w2.setCell ⟨b, 1, none⟩ (.int .i64 ((a' : Int) + 1))).setCell ⟨b, 2, none⟩ (.int .u64 seed2)) lo 1 (some ⟨b1, off1, none⟩) n (bs.flatMap u8C) := hs2.grown (grown_trans s1.2 s2.2) hl2 fun g hg => by injection hg with hg; have := (ho2.lt b rfl).1; omega
    have ho3 := s2.1
    have hl3 : lo ≤ ((w2.setCell ⟨b, 1, none⟩ (.int .i64 ((a' : Int) + 1))).setCell ⟨b, 2, none⟩ (.int .u64 seed2)).heap.size := by simpa using hl2
    have f0 : ((w2.setCell ⟨b, 1, none⟩ (.int .i64 ((a' : Int) + 1))).setCell ⟨b, 2, none⟩ (.int .u64 seed2)).cell? ⟨b, 0, none⟩ = some (.slice (some ⟨b1, off1, none⟩) n c) := by rw [ho3.cellAt 0 (by omega)]; rfl
    have f1 : ((w2.setCell ⟨b, 1, none⟩ (.int .i64 ((a' : Int) + 1))).setCell ⟨b, 2, none⟩ (.int .u64 seed2)).cell? ⟨b, 1, none⟩ = some (.int .i64 ((a' : Int) + 1)) := by rw [ho3.cellAt 1 (by omega)]; rfl
    clear s1 s2 hs2 hg2 ho2
    have hle' := Hle'.out
    generalize (w2.setCell ⟨b, 1, none⟩ (.int .i64 ((a' : Int) + 1))).setCell ⟨b, 2, none⟩ (.int .u64 seed2) = w3 at *
    go_quiet (fail)
    go_wp2
    go_ret
    have hb4 := below_drewN (Below.refl w3.heap.size w3) nq
    exact ⟨x, rfl, x0, x1, ⟨_, n, c, a' + 1, seed2, bs, by omega, own_next ho3 hb4, hs3.keep fun b' hb' => hb4.block b' (by omega), Hbs.out, by unfold maxLen; omega, hl3⟩, grown_trans hg3 (grown_of_below hb4)⟩
  · have hlt' : decide ((a' : Int) < (n : Int)) = false := by simp; omega
    have hle' : decide ((a' : Int) + 1 ≤ (n : Int)) = false := by simp; omega
    have Hle' := Lib.hid hle'; clear hle'
    have Hbs := Lib.hid hbs; clear hbs
    go_enter Tryz.func66, Tryz.ntmps66
    go_wp2
    go_quiet (fail)
    have ho1 := own_next ho (below_drewN (Below.refl w.heap.size w) nq)
    have hs1 := hs.keep fun b' hb' => (below_drewN (Below.refl w.heap.size w) nq).block b' (by omega)
    have hg1 : w.grownBy (w.drewN nq) (some b) := grown_of_below (below_drewN (Below.refl w.heap.size w) nq)
    have hl1 : lo ≤ (w.drewN nq).heap.size := hl
    have f0 : (w.drewN nq).cell? ⟨b, 0, none⟩ = some (.slice A n c) := by rw [ho1.cellAt 0 (by omega)]; rfl
    have f1 : (w.drewN nq).cell? ⟨b, 1, none⟩ = some (.int .i64 a') := by rw [ho1.cellAt 1 (by omega)]; rfl
    have f2 : (w.drewN nq).cell? ⟨b, 2, none⟩ = some (.int .u64 seed) := by rw [ho1.cellAt 2 (by omega)]; rfl
    have fz := ho1.frozenAt
    clear ho hs
    generalize w.drewN nq = w2 at *
    go_wp2
    obtain ⟨g0, g1⟩ := u64_bd (IntKind.u64.wrap (IntKind.u64.wrap (seed * 6364136223846793005)) + 1442695040888963407)
    generalize IntKind.u64.wrap (IntKind.u64.wrap (IntKind.u64.wrap (seed * 6364136223846793005)) + 1442695040888963407) = seed2 at *
    have hbits : 0 ≤ wrap64 (bits BinOp.and IntKind.u64 (seed2 / 1099511627776) 255) ∧ wrap64 (bits BinOp.and IntKind.u64 (seed2 / 1099511627776) 255) ≤ 255 := and_255 _ (by omega) (by omega)
    have Hbits := Lib.hid hbits; clear hbits
    clear g0 g1
    have s1 := ho1.stored 1 (.int .i64 ((a' : Int) + 1))
    have s2 := s1.1.stored 2 (.int .u64 seed2)
    have hg3 := grown_trans (grown_trans hg1 s1.2) s2.2
    have hs3 : Sl ((w2.setCell ⟨b, 1, none⟩ (.int .i64 ((a' : Int) + 1))).setCell ⟨b, 2, none⟩ (.int .u64 seed2)) lo 1 A n (bs.flatMap u8C) := hs1.grown (grown_trans s1.2 s2.2) hl1 fun g hg => by injection hg with hg; have := (ho1.lt b rfl).1; omega
    have ho3 := s2.1
    have hl3 : lo ≤ ((w2.setCell ⟨b, 1, none⟩ (.int .i64 ((a' : Int) + 1))).setCell ⟨b, 2, none⟩ (.int .u64 seed2)).heap.size := by simpa using hl1
    have f0 : ((w2.setCell ⟨b, 1, none⟩ (.int .i64 ((a' : Int) + 1))).setCell ⟨b, 2, none⟩ (.int .u64 seed2)).cell? ⟨b, 0, none⟩ = some (.slice A n c) := by rw [ho3.cellAt 0 (by omega)]; rfl
    have f1 : ((w2.setCell ⟨b, 1, none⟩ (.int .i64 ((a' : Int) + 1))).setCell ⟨b, 2, none⟩ (.int .u64 seed2)).cell? ⟨b, 1, none⟩ = some (.int .i64 ((a' : Int) + 1)) := by rw [ho3.cellAt 1 (by omega)]; rfl
    have f2 : ((w2.setCell ⟨b, 1, none⟩ (.int .i64 ((a' : Int) + 1))).setCell ⟨b, 2, none⟩ (.int .u64 seed2)).cell? ⟨b, 2, none⟩ = some (.int .u64 seed2) := by rw [ho3.cellAt 2 (by omega)]; rfl
    clear s1 s2 hs1 hg1 ho1
    have hle' := Hle'.out
    generalize (w2.setCell ⟨b, 1, none⟩ (.int .i64 ((a' : Int) + 1))).setCell ⟨b, 2, none⟩ (.int .u64 seed2) = w3 at *
    go_quiet (fail)
    have hb4 := below_drewN (Below.refl w3.heap.size w3) nq
    have f2 : (w3.drewN nq).cell? ⟨b, 2, none⟩ = some (.int .u64 seed2) := by rw [(own_next ho3 hb4).cellAt 2 (by omega)]; rfl
    go_wp2
    go_ret
    exact ⟨_, rfl, Hbits.out.1, Hbits.out.2, ⟨A, n, c, a' + 1, seed2, bs, by omega, own_next ho3 hb4, hs3.keep fun b' hb' => hb4.block b' (by omega), Hbs.out, by unfold maxLen; omega, hl3⟩, grown_trans hg3 (grown_of_below hb4)⟩
theorem Src.lo {w : World} {lo b a : Nat} (h : Src w lo b a) : lo ≤ w.heap.size := by
  obtain ⟨A, n, c, a', seed, bs, _, _, _, _, _, hl⟩ := h
  exact hl
def PickAns (n : Int) (w : World) (lo b a : Nat) (e : Ending) (w' : World) : Prop := ∃ r : Int, e = .returned (.int .i64 r) ∧ 0 ≤ r ∧ (r < n ∨ r = 0) ∧ Src w' lo b (a + 2) ∧ w.grownBy w' (some b)
set_option maxRecDepth 100000 in
set_option maxHeartbeats 1000000 in
theorem pickN_c (n : Int) (lo b a : Nat) (w : World) (h : Src w lo b a) (ha : a ≤ 900000000) (hn : n ≤ 1000000) :
    Calls Tryz.prog 39 #[.pointer (some ⟨b, 0, none⟩), .int .i64 n] w (PickAns n w lo b a) := by
  by_cases h1 : n ≤ 1
  · go_enter Tryz.func39, Tryz.ntmps39
    go_wp2
    go_ret
    exact ⟨0, rfl, by omega, .inr rfl, h.more (by omega), grown_refl _ _⟩
  by_cases h2 : 200 < n
  · go_enter Tryz.func39, Tryz.ntmps39
    go_wp2_with fail
    refine (srcNext_c lo b a w h (by omega)).mono ?_
    rintro e w1 ⟨r, rfl, r0, r1, hs1, hg1⟩
    go_wp2_with fail
    refine (srcNext_c lo b (a + 1) w1 hs1 (by omega)).mono ?_
    rintro e w2 ⟨q, rfl, q0, q1, hs2, hg2⟩
    go_wp2_with fail
    go_ret
    exact ⟨_, rfl, Int.emod_nonneg _ (by omega), .inl (Int.emod_lt_of_pos _ (by omega)), hs2, grown_trans hg1 hg2⟩
  · go_enter Tryz.func39, Tryz.ntmps39
    go_wp2_with fail
    refine (srcNext_c lo b a w h (by omega)).mono ?_
    rintro e w1 ⟨r, rfl, r0, r1, hs1, hg1⟩
    go_wp2_with fail
    go_ret
    exact ⟨_, rfl, Int.emod_nonneg _ (by omega), .inl (Int.emod_lt_of_pos _ (by omega)), hs1.more (by omega), hg1⟩
def OneAns (w : World) (lo b a : Nat) (e : Ending) (w' : World) : Prop := ∃ r : Bool, e = .returned (.bool r) ∧ Src w' lo b (a + 2) ∧ w.grownBy w' (some b)
set_option maxRecDepth 100000 in
set_option maxHeartbeats 400000 in
theorem one_c (n : Int) (lo b a : Nat) (w : World) (h : Src w lo b a) (ha : a ≤ 900000000) (hn : n ≤ 1000000) :
    Calls Tryz.prog 43 #[.pointer (some ⟨b, 0, none⟩), .int .i64 n] w (OneAns w lo b a) := by
  go_enter Tryz.func43, Tryz.ntmps43
  go_wp2_with fail
  refine (pickN_c n lo b a w h ha hn).mono ?_
  rintro e w1 ⟨r, rfl, r0, r1, hs1, hg1⟩
  go_wp2_with fail
  all_goals
    go_ret
    exact ⟨_, rfl, hs1, hg1⟩
def AmongAns (xs : List Int) (w : World) (lo b a : Nat) (e : Ending) (w' : World) : Prop := ∃ r : Int, e = .returned (.int .i64 r) ∧ r ∈ xs ∧ Src w' lo b (a + 2) ∧ w.grownBy w' (some b)
set_option maxRecDepth 100000 in
set_option maxHeartbeats 400000 in
theorem among_c (A : Option Addr) (n c B : Nat) (xs : List Int) (lo b a : Nat) (w : World) (h : Src w lo b a) (ha : a ≤ 900000000) (hx : Sl w B 1 A n (xs.flatMap intC)) (hB : B ≤ w.heap.size) (hne : ∀ b' off, A = some ⟨b', off, none⟩ → b' ≠ b) (h1 : 1 ≤ n) (hn : n ≤ 1000000) :
    Calls Tryz.prog 71 #[.pointer (some ⟨b, 0, none⟩), .slice A n c] w (AmongAns xs w lo b a) := by
  have j0 : (0 : Int) < (n : Int) := by omega
  go_enter Tryz.func71, Tryz.ntmps71
  go_wp2_with fail
  refine (pickN_c (n : Int) lo b a w h ha (by omega)).mono ?_
  rintro e w1 ⟨r, rfl, r0, r1, hs1, hg1⟩
  obtain ⟨k, rfl⟩ := Int.eq_ofNat_of_zero_le r0
  have hk : k < n := by omega
  have hx1 := hx.apart hg1 hB fun b' off e e' => hne b' off e (Option.some.inj e').symm
  obtain ⟨b1, off1, x, rfl, hb1, hm, d1⟩ := hx1.int k hk
  have j1 : (k : Int) < (n : Int) := by omega
  have hmem := List.mem_of_getElem? hm
  have Hm := Lib.hid hm; clear hm
  have Hmem := Lib.hid hmem; clear hmem
  go_wp2_with fail
  go_ret
  exact ⟨_, rfl, Hmem.out, hs1, hg1⟩
def TextAns (xs : List ByteArray) (w : World) (lo b a : Nat) (e : Ending) (w' : World) : Prop := ∃ r : ByteArray, e = .returned (.string r) ∧ r ∈ xs ∧ Src w' lo b (a + 2) ∧ w.grownBy w' (some b)
set_option maxRecDepth 100000 in
set_option maxHeartbeats 400000 in
theorem text_c (A : Option Addr) (n c B : Nat) (xs : List ByteArray) (lo b a : Nat) (w : World) (h : Src w lo b a) (ha : a ≤ 900000000) (hx : Sl w B 1 A n (xs.flatMap strC)) (hB : B ≤ w.heap.size) (hne : ∀ b' off, A = some ⟨b', off, none⟩ → b' ≠ b) (h1 : 1 ≤ n) (hn : n ≤ 1000000) :
    Calls Tryz.prog 67 #[.pointer (some ⟨b, 0, none⟩), .slice A n c] w (TextAns xs w lo b a) := by
  have j0 : (0 : Int) < (n : Int) := by omega
  go_enter Tryz.func67, Tryz.ntmps67
  go_wp2_with fail
  refine (pickN_c (n : Int) lo b a w h ha (by omega)).mono ?_
  rintro e w1 ⟨r, rfl, r0, r1, hs1, hg1⟩
  obtain ⟨k, rfl⟩ := Int.eq_ofNat_of_zero_le r0
  have hk : k < n := by omega
  have hx1 := hx.apart hg1 hB fun b' off e e' => hne b' off e (Option.some.inj e').symm
  obtain ⟨b1, off1, x, rfl, hb1, hm, d1⟩ := hx1.str k hk
  have j1 : (k : Int) < (n : Int) := by omega
  have hmem := List.mem_of_getElem? hm
  have Hm := Lib.hid hm; clear hm
  have Hmem := Lib.hid hmem; clear hmem
  go_wp2_with fail
  go_ret
  exact ⟨_, rfl, Hmem.out, hs1, hg1⟩
set_option maxRecDepth 100000 in
set_option maxHeartbeats 400000 in
theorem from_c (A : Option Addr) (n c : Nat) (bs : List Int) (w : World) (hx : Sl w w.heap.size 1 A n (bs.flatMap u8C)) (hb : ∀ x ∈ bs, 0 ≤ x ∧ x ≤ 255) (hn : n ≤ maxLen) :
    Calls Tryz.prog 21 #[.slice A n c] w fun e w' => ∃ b, e = .returned (.pointer (some ⟨b, 0, none⟩)) ∧ Src w' w.heap.size b 0 ∧ Below w.heap.size w w' := by
  go_enter Tryz.func21, Tryz.ntmps21
  go_wp2
  go_ret
  have hbl : Below w.heap.size w (w.alloc (.cells #[.slice A n c, .int .i64 0, .int .u64 0] 78)) := by (repeat (first | (with_reducible assumption) | (with_reducible exact Below.refl _ _) | exact Nat.le_refl _ | exact Below.size (by with_reducible assumption) | (with_reducible refine Below.drew ?_) | (with_reducible refine below_drewN ?_ _) | (with_reducible refine Below.alloc ?_ ?_ _) | (with_reducible refine Below.setCell ?_ ?_ _) | (with_reducible refine le_alloc ?_ _) | (with_reducible refine le_set ?_ _ _) | (with_reducible refine le_drew ?_) | (with_reducible refine le_drewN ?_ _) | omega | (dsimp only; omega)))
  exact ⟨_, rfl, ⟨A, n, c, 0, 0, bs, Nat.le_refl _, lit_own w w.heap.size 78 #[.slice A n c, .int .i64 0, .int .u64 0] 1 3 (Nat.le_refl _) (by decide) rfl, hx.below hbl, hb, hn, hbl.size⟩, hbl⟩
end Go.Proofs.YtpfnnjcochhklaaGreatDoor

/- Small functions of the laws that choose numbers from bytes. -/
namespace Go.Proofs.YtpfnnjcochhklaaGreatDoor
open Go.RowKit
set_option maxRecDepth 100000 in
set_option maxHeartbeats 400000 in
theorem r8Long_c (A A' : Option Addr) (n c n' c' : Nat) (w : World) : Calls Tryz.prog 5 #[.slice A n c, .slice A' n' c'] w fun e w' => e = .returned (.bool (decide (1048576 < n) || decide (1048576 < n'))) ∧ w = w' := by
  by_cases h1 : 1048576 < n
  · have h1' : (1048576 : Int) < (n : Int) := by omega
    go_enter Tryz.func5, Tryz.ntmps5
    go_wp2
    go_ret
    exact ⟨ret_eq (bool_eq (by rw [decide_eq_true h1]; rfl)), rfl⟩
  · have h1' : ¬ (1048576 : Int) < (n : Int) := by omega
    by_cases h2 : 1048576 < n'
    · have h2' : (1048576 : Int) < (n' : Int) := by omega
      go_enter Tryz.func5, Tryz.ntmps5
      go_wp2
      go_ret
      exact ⟨ret_eq (bool_eq (by first | (rw [decide_eq_true h2, decide_eq_false h1]; rfl) | rfl | (simp; omega))), rfl⟩
    · have h2' : ¬ (1048576 : Int) < (n' : Int) := by omega
      go_enter Tryz.func5, Tryz.ntmps5
      go_wp2
      go_ret
      exact ⟨ret_eq (bool_eq (by first | (rw [decide_eq_false h2, decide_eq_false h1]; rfl) | rfl | (simp; omega))), rfl⟩
end Go.Proofs.YtpfnnjcochhklaaGreatDoor
