/- MrkG: several of my texts in one. -/
import Derived.Test.YtpfnnjcochhklaaGreatDoorIntS
import Derived.Test.YtpfnnjcochhklaaGreatDoorMark
import Derived.Test.YtpfnnjcochhklaaGreatDoorSecLaw
import Derived.Test.YtpfnnjcochhklaaGreatDoorApp
import Derived.Test.YtpfnnjcochhklaaGreatDoorAidsG

/- Marks on integers (where no phases are). -/
namespace Go.Proofs.YtpfnnjcochhklaaGreatDoor
open Go.RowKit
def markInts (k n : Nat) : List Int := (List.range n).map fun i => ((k + i : Nat) : Int)
theorem markInts_next (k n : Nat) : markInts k (n + 1) = markInts k n ++ [((k + n : Nat) : Int)] := by simp [markInts, List.range_succ]
theorem markInts_at {k n i : Nat} (h : i < n) : (markInts k n)[i]? = some ((k + i : Nat) : Int) := by simp [markInts, h]
set_option maxRecDepth 100000 in
set_option maxHeartbeats 400000 in
theorem markInt64S_c (A : Option Addr) (n c k0 base : Nat) (ys0 : List Value) (w : World) (hown0 : w.ownsRow base 2 1 (.slice A n c) n ys0) (hm : n ≤ 1048576) (hk1 : k0 ≤ 100000000000000000) :
    Calls Tryz.prog 19 #[.slice A n c, .int .i64 k0] w fun e w' => e = .returned (.int .i64 (k0 + n : Nat)) ∧ w'.ownsRow base 2 1 (.slice A n c) n ((markInts k0 n).flatMap intC) ∧ w.grownBy w' (Value.slice A n c).ownBlock := by
  go_enter Tryz.func19, Tryz.ntmps19
  go_wp2
  go_loopw [1, 5] (fun q i wr => ∃ (k : Nat) (ys : List Value), k ≤ n ∧ i = .int .i64 k ∧ q = .int .i64 (k0 + k : Nat) ∧ wr.ownsRow base 2 1 (.slice A n c) n ys ∧ ys.take (k * 1) = (markInts k0 k).flatMap intC ∧ w.grownBy wr (Value.slice A n c).ownBlock) (fun _ i _ => n - (intOf i).toNat)
  case atStart => exact ⟨0, _, Nat.zero_le _, rfl, rfl, hown0, by simp [markInts], grown_refl _ _⟩
  case round =>
    obtain ⟨k, ys, hk, rfl, rfl, hown, hys, hgw⟩ := hrel
    by_cases hlt : k < n
    · obtain ⟨g, rfl, hg1, hg2⟩ := own_form hown (by omega)
      have hyl := hown.1
      obtain ⟨y0, f0⟩ := own_cell hown k (by omega)
      have f3 := hown.frozenAt
      have Hys := Lib.hid hys; clear hys
      have Hyl := Lib.hid hyl; clear hyl
      go_wp2
      go_roundw
      case rel =>
        have s1 := hown.stored k (.int .i64 (k0 + k : Nat))
        refine ⟨k + 1, setAll ys (k * 1) (intC (k0 + k : Nat)), by omega, by go_num, by go_num, ?_, ?_, grown_trans hgw s1.2⟩
        · have := s1.1
          rw [Nat.mul_one]; exact this
        · rw [setAll_take Hyl.out hlt (intC_len _), Hys.out, markInts_next]
          simp
      case measure => simp [intOf]; omega
    · go_wp2
      go_ret
      obtain rfl : k = n := by omega
      have hyl := hown.1
      rw [List.take_of_length_le (by omega)] at hys
      subst hys
      exact ⟨rfl, hown, hgw⟩
set_option maxRecDepth 100000 in
set_option maxHeartbeats 400000 in
theorem heldInt64S_c (A : Option Addr) (n c k0 : Nat) (w : World) (h : Sl w w.heap.size 1 A n ((markInts k0 n).flatMap intC)) (hm : n ≤ 1048576) (hk1 : k0 ≤ 100000000000000000) :
    Calls Tryz.prog 20 #[.slice A n c, .int .i64 k0] w fun e w' => e = .returned (.int .i64 (k0 + n : Nat)) ∧ w = w' := by
  go_enter Tryz.func20, Tryz.ntmps20
  go_wp2
  go_loop [1, 5] (fun q i => ∃ (k : Nat), k ≤ n ∧ i = .int .i64 k ∧ q = .int .i64 (k0 + k : Nat)) (fun _ i => n - (intOf i).toNat)
  case atStart => exact ⟨0, Nat.zero_le _, rfl, rfl⟩
  case round =>
    obtain ⟨k, hk, rfl, rfl⟩ := hrel
    by_cases hlt : k < n
    · obtain ⟨b, off, d, rfl, hb, hd, c1⟩ := h.int k hlt
      obtain rfl : _ = d := Option.some.inj ((markInts_at hlt).symm.trans hd)
      clear hd
      go_wp2
      go_round
      case rel => exact ⟨k + 1, by omega, by go_num, by go_num⟩
      case measure => simp [intOf]; omega
    · go_wp2
      go_ret
      obtain rfl : k = n := by omega
      exact ⟨rfl, rfl⟩
end Go.Proofs.YtpfnnjcochhklaaGreatDoor

/- Marks on sectors. -/
namespace Go.Proofs.YtpfnnjcochhklaaGreatDoor
open Go.RowKit
def mkSec (k : Nat) : Sec := ⟨(k : Nat), (k + 1 : Nat), markT (k + 2)⟩
def markSecs (k n : Nat) : List Sec := (List.range n).map fun i => mkSec (k + 3 * i)
theorem markSecs_next (k n : Nat) : markSecs k (n + 1) = markSecs k n ++ [mkSec (k + 3 * n)] := by simp [markSecs, List.range_succ]
theorem markSecs_at {k n i : Nat} (h : i < n) : (markSecs k n)[i]? = some (mkSec (k + 3 * i)) := by simp [markSecs, h]
set_option maxRecDepth 100000 in
set_option maxHeartbeats 1000000 in
theorem markSectorS_c (A : Option Addr) (n c k0 base : Nat) (ys0 : List Value) (w : World) (hown0 : w.ownsRow base 94 3 (.slice A n c) n ys0) (hm : n ≤ 1048576) (hk0 : 0 < k0) (hk1 : k0 ≤ 100000000000000000) :
    Calls Tryz.prog 38 #[.slice A n c, .int .i64 k0] w fun e w' => e = .returned (.int .i64 (k0 + 3 * n : Nat)) ∧ w'.ownsRow base 94 3 (.slice A n c) n ((markSecs k0 n).flatMap Sec.cells) ∧ w.grownBy w' (Value.slice A n c).ownBlock := by
  go_enter Tryz.func38, Tryz.ntmps38
  go_wp2
  go_loopw [1, 5] (fun q i wr => ∃ (k : Nat) (ys : List Value), k ≤ n ∧ i = .int .i64 k ∧ q = .int .i64 (k0 + 3 * k : Nat) ∧ wr.ownsRow base 94 3 (.slice A n c) n ys ∧ ys.take (k * 3) = (markSecs k0 k).flatMap Sec.cells ∧ w.grownBy wr (Value.slice A n c).ownBlock) (fun _ i _ => n - (intOf i).toNat)
  case atStart => exact ⟨0, _, Nat.zero_le _, rfl, rfl, hown0, by simp [markSecs], grown_refl _ _⟩
  case round =>
    obtain ⟨k, ys, hk, rfl, rfl, hown, hys, hgw⟩ := hrel
    by_cases hlt : k < n
    · obtain ⟨g, rfl, hg1, hg2⟩ := own_form hown (by omega)
      have hyl := hown.1
      obtain ⟨y0, f0⟩ := own_cell hown (k * 3) (by omega)
      obtain ⟨y1, f1⟩ := own_cell hown (k * 3 + 1) (by omega)
      have fz := hown.frozenAt
      have s1 := hown.stored (k * 3) (.int .i64 ((k0 + 3 * k : Nat) : Int))
      have s2 := s1.1.stored (k * 3 + 1) (.int .i64 ((k0 + 3 * k + 1 : Nat) : Int))
      have Hys := Lib.hid hys; clear hys
      have Hyl := Lib.hid hyl; clear hyl
      have S1 := Lib.hid s1; clear s1
      have S2 := Lib.hid s2; clear s2
      go_wp2_with (go_at_call 37; refine (markText_c (k0 + 3 * k + 2) _ (by omega) (by omega)).mono ?_; rintro e w2 ⟨rfl, hb1⟩; have ho2 := own_next S2.out.1 hb1; obtain ⟨y2, f2⟩ := own_cell ho2 (k * 3 + 2) (by omega); have f3 := ho2.frozenAt)
      go_roundw
      case rel =>
        have s3 := ho2.stored (k * 3 + 2) (.string (markT (k0 + 3 * k + 2)))
        refine ⟨k + 1, setAll ys (k * 3) (Sec.cells (mkSec (k0 + 3 * k))), by omega, by go_num, by go_num, ?_, ?_, ?_⟩
        · exact s3.1
        · rw [setAll_take Hyl.out hlt (Sec.cells_len _), Hys.out, markSecs_next]
          simp
        · exact grown_trans (grown_trans (grown_trans (grown_trans hgw S1.out.2) S2.out.2) (grown_of_below hb1)) s3.2
      case measure => simp [intOf]; omega
    · go_wp2
      go_ret
      obtain rfl : k = n := by omega
      have hyl := hown.1
      rw [List.take_of_length_le (by omega)] at hys
      subst hys
      exact ⟨rfl, hown, hgw⟩
end Go.Proofs.YtpfnnjcochhklaaGreatDoor

/- What is written lies in a range of blocks. No program is named here. -/
namespace Go.Proofs.YtpfnnjcochhklaaGreatDoor
open Go.RowKit
/-- A step of a region that draws its order; the way back into the region is shut. -/
theorem allReadyS_cons {P : Program} {md : Region.Mode} {ops : Array Oper} {Q : Exit → Act → World → Prop} {fuel : Nat} {listed : Array Bool} {a : Act} {w : World} {i : Nat} {o : Oper} {rs : List Nat} (ho : ops[i]? = some o)
    (h : ∀ K' : Act → World → Prop, Shut (∀ a w, wpAny P md ops Q fuel (listed.setIfInBounds i true) a w → K' a w) → if Region.wanted o (yielded ops a.tmps) = true then Oper.wp P o a w K' Q else K' (a.put o.dst undef) w)
    (hs : AllReady P md ops Q fuel listed a w rs) : AllReady P md ops Q fuel listed a w (i :: rs) := AllReady.cons ho (fun K hK => h K hK) hs
structure Rng (lo hi : Nat) (w w' : World) : Prop where
  os : w'.os = w.os
  tape : w'.tape = w.tape
  output : w'.output = w.output
  size : w.heap.size ≤ w'.heap.size
  block : ∀ b, b < w.heap.size → (b < lo ∨ hi ≤ b) → w'.heap[b]? = w.heap[b]?
theorem Rng.refl (lo hi : Nat) (w : World) : Rng lo hi w w := ⟨rfl, rfl, rfl, Nat.le_refl _, fun _ _ _ => rfl⟩
theorem Rng.trans {lo hi : Nat} {a b c : World} (h : Rng lo hi a b) (k : Rng lo hi b c) : Rng lo hi a c :=
  ⟨k.os.trans h.os, k.tape.trans h.tape, k.output.trans h.output, Nat.le_trans h.size k.size, fun i hi' hne => (k.block i (Nat.lt_of_lt_of_le hi' h.size) hne).trans (h.block i hi' hne)⟩
theorem Rng.wider {lo hi lo' hi' : Nat} {a b : World} (h : Rng lo hi a b) (h1 : lo' ≤ lo) (h2 : hi ≤ hi') : Rng lo' hi' a b :=
  ⟨h.os, h.tape, h.output, h.size, fun i hi' hne => h.block i hi' (by omega)⟩
theorem rng_below {lo hi : Nat} {w w' : World} (h : Below w.heap.size w w') : Rng lo hi w w' := ⟨h.os, h.tape, h.output, h.size, fun b hb _ => h.block b hb⟩
theorem rng_grown {lo hi : Nat} {w w' : World} {row : Option Nat} (h : w.grownBy w' row) (hr : ∀ k, row = some k → lo ≤ k ∧ k < hi) : Rng lo hi w w' :=
  ⟨h.os, h.tape, h.output, h.size, fun b hb hne => h.block b hb fun e => by have := hr b e.symm; omega⟩
theorem below_rng {B lo hi : Nat} {a w w' : World} (hb : Below B a w) (h : Rng lo hi w w') (h1 : B ≤ lo) (h2 : B ≤ w.heap.size) : Below B a w' :=
  ⟨h.os.trans hb.os, h.tape.trans hb.tape, h.output.trans hb.output, Nat.le_trans hb.size h.size, fun b hlt => (h.block b (by omega) (.inl (by omega))).trans (hb.block b hlt)⟩
theorem own_rng {w w' : World} {base lo hi : Nat} {e : TypeId} {sz n : Nat} {v : Value} {xs : List Value} (h : w.ownsRow base e sz v n xs) (hr : Rng lo hi w w') (hne : ∀ k, v.ownBlock = some k → k < lo ∨ hi ≤ k) : w'.ownsRow base e sz v n xs := by
  obtain ⟨h1, h2⟩ := h
  refine ⟨h1, ?_⟩
  rcases h2 with h2 | ⟨g, cap, cur, hv, hb, hg, r⟩
  · exact .inl h2
  · refine .inr ⟨g, cap, cur, hv, hb, ?_, r⟩
    rw [hr.block g (Array.getElem?_eq_some_iff.1 hg).1 (hne g (by rw [hv]; rfl))]
    exact hg
theorem Sl.rng {w w' : World} {B lo hi sz n : Nat} {A : Option Addr} {xs : List Value} (h : Sl w B sz A n xs) (hr : Rng lo hi w w') (hB : B ≤ lo) (h2 : B ≤ w.heap.size) : Sl w' B sz A n xs :=
  h.keep fun b hb => hr.block b (by omega) (.inl (by omega))
theorem keepR {lo hi : Nat} {w w' : World} (h : Rng lo hi w w') (b : Nat) (hb : b < w.heap.size) (hr : b < lo ∨ hi ≤ b) : ∀ i, w'.cell? ⟨b, i, none⟩ = w.cell? ⟨b, i, none⟩ := fun _ => World.cell?_of_block (w := w) (h.block b hb hr)
/-- A row of integers of the call's own, whatever it holds. -/
def OwnAny (w : World) (base : Nat) (e : TypeId) (sz n : Nat) (v : Value) : Prop := ∃ ys, w.ownsRow base e sz v n ys
theorem OwnAny.grown {w w' : World} {base base' : Nat} {e e' : TypeId} {sz sz' n m : Nat} {v u : Value} {us : List Value} (h : OwnAny w base e sz n v) (hu : w.ownsRow base' e' sz' u m us) (hg : w.grownBy w' u.ownBlock) (hne : e ≠ e') : OwnAny w' base e sz n v := by
  obtain ⟨ys, hy⟩ := h
  exact ⟨ys, own_grown hy hg (own_ne hy hu hne)⟩
theorem OwnAny.next {w w' : World} {base : Nat} {e : TypeId} {sz n : Nat} {v : Value} (h : OwnAny w base e sz n v) (hb : Below w.heap.size w w') : OwnAny w' base e sz n v := by
  obtain ⟨ys, hy⟩ := h
  exact ⟨ys, own_next hy hb⟩
/-- One row is written; another one (perhaps of the same block) is still a row. -/
theorem ownAny_mark {w w' : World} {base base' : Nat} {e e' : TypeId} {sz sz' n m : Nat} {v u : Value} {us us' : List Value} (h : OwnAny w base e sz n v) (hu : w.ownsRow base' e' sz' u m us) (hu' : w'.ownsRow base' e' sz' u m us') (hg : w.grownBy w' u.ownBlock) : OwnAny w' base e sz n v := by
  obtain ⟨ys, hy⟩ := h
  by_cases hne : v.ownBlock = none ∨ v.ownBlock ≠ u.ownBlock
  · exact ⟨ys, own_grown hy hg hne⟩
  · obtain ⟨h1, h2⟩ := hy
    rcases h2 with h2 | ⟨g, cap, cur, hv, hb, hgg, q1, q2, q3, q4⟩
    · exact ⟨ys, h1, .inl h2⟩
    · rcases hu.2 with h3 | ⟨g3, cap3, cur3, hv3, hb3, hg3, r1, r2, r3, r4⟩
      · exact absurd (.inr (by rw [hv, h3.1]; simp [Value.ownBlock])) hne
      · rcases hu'.2 with h4 | ⟨g4, cap4, cur4, hv4, hb4, hg4, s1, s2, s3, s4⟩
        · rw [h4.1] at hv3; cases hv3
        · rw [hv3] at hv4
          injection hv4 with e1 e2 e3
          injection e1 with e1
          injection e1 with e1
          subst e1 e3
          have hgg3 : g = g3 := by
            rcases Classical.em (v.ownBlock = u.ownBlock) with e0 | e0
            · rw [hv, hv3] at e0
              simpa [Value.ownBlock] using e0
            · exact absurd (.inr e0) hne
          subst hgg3
          rw [hgg] at hg3
          injection hg3 with hg3
          injection hg3 with e5 e6
          subst e5 e6
          refine ⟨_, ?_, .inr ⟨g, cap, cur4, hv, hb, hg4, q1, q2, ?_, rfl⟩⟩
          · have := q3
            have := r3
            have hz : n * sz ≤ cur4.size := by
              rw [s3, ← r3, q3]; exact Nat.mul_le_mul_right _ q1
            rw [List.length_take, Array.length_toList]
            exact Nat.min_eq_left hz
          · rw [s3, ← r3, q3]
end Go.Proofs.YtpfnnjcochhklaaGreatDoor

/- Marks on aids. -/
namespace Go.Proofs.YtpfnnjcochhklaaGreatDoor
open Go.RowKit
/-- What the marks leave in the memory of one aid. -/
structure AidMk (w : World) (base k0 : Nat) (z : AidG) : Prop where
  g : w.ownsRow base 2 1 (.slice z.A z.n z.c) z.n ((markInts k0 z.n).flatMap intC)
  s : w.ownsRow base 94 3 (.slice z.B z.m z.d) z.m ((markSecs (k0 + z.n) z.m).flatMap Sec.cells)
theorem AidMk.next {w w' : World} {base k0 : Nat} {z : AidG} (h : AidMk w base k0 z) (hb : Below w.heap.size w w') : AidMk w' base k0 z := ⟨own_next h.g hb, own_next h.s hb⟩
end Go.Proofs.YtpfnnjcochhklaaGreatDoor

/- The marks that a law lays over a list of aids: what they change. -/
namespace Go.Proofs.YtpfnnjcochhklaaGreatDoor
open Go.RowKit
theorem dropSet {ys xs : List Value} {p q : Nat} {v : Value} (h : ys.drop p = xs.drop p) (hq : q < p) : (ys.set q v).drop p = xs.drop p := by
  rw [List.drop_set, if_pos hq, h]
theorem dropMore {ys xs : List Value} {p q : Nat} (h : ys.drop p = xs.drop p) (hp : p ≤ q) : ys.drop q = xs.drop q := by
  have : ys.drop q = (ys.drop p).drop (q - p) := by rw [List.drop_drop]; congr 1; omega
  rw [this, h, List.drop_drop]; congr 1; omega
theorem dropAt {ys xs : List Value} {p q : Nat} (h : ys.drop p = xs.drop p) (hp : p ≤ q) : ys[q]? = xs[q]? := by
  have h1 : (ys.drop p)[q - p]? = (xs.drop p)[q - p]? := by rw [h]
  rw [List.getElem?_drop, List.getElem?_drop, show p + (q - p) = q by omega] at h1
  exact h1
structure AMk (w0 w : World) (base hi g n c o : Nat) (z : AidG) (zs : List AidG) (ys : List Value) : Prop where
  own : w.ownsRow base 56 16 (.slice (some ⟨g, 0, none⟩) n c) n ys
  s10 : ys[o + 10]? = some (.slice z.A z.n z.c)
  s14 : ys[o + 14]? = some (.slice z.B z.m z.d)
  all : ∀ z' ∈ zs, OwnAny w base 2 1 z'.n (.slice z'.A z'.n z'.c) ∧ OwnAny w base 94 3 z'.m (.slice z'.B z'.m z'.d)
  tail : ys.drop (o + 16) = (zs.flatMap AidG.cells).drop (o + 16)
  rng : Rng base hi w0 w
  gb : base ≤ g ∧ g < hi
section
variable {w0 w w' : World} {base hi g n c o : Nat} {z : AidG} {zs : List AidG} {ys : List Value}
theorem AMk.next (h : AMk w0 w base hi g n c o z zs ys) (hb : Below w.heap.size w w') : AMk w0 w' base hi g n c o z zs ys :=
  ⟨own_next h.own hb, h.s10, h.s14, fun z' hz => ⟨(h.all z' hz).1.next hb, (h.all z' hz).2.next hb⟩, h.tail, h.rng.trans (rng_below hb), h.gb⟩
theorem AMk.store (h : AMk w0 w base hi g n c o z zs ys) (i : Nat) (u : Value) (h16 : i < 16) (h10 : i ≠ 10) (h14 : i ≠ 14) : AMk w0 (w.setCell ⟨g, o + i, none⟩ u) base hi g n c o z zs (ys.set (o + i) u) := by
  have s := h.own.stored (o + i) u
  refine ⟨s.1, by rw [List.getElem?_set_ne (by omega)]; exact h.s10, by rw [List.getElem?_set_ne (by omega)]; exact h.s14, fun z' hz => ⟨(h.all z' hz).1.grown h.own s.2 (by decide), (h.all z' hz).2.grown h.own s.2 (by decide)⟩, dropSet h.tail (by omega), h.rng.trans (rng_grown s.2 fun k hk => ?_), h.gb⟩
  have : g = k := by simpa using hk
  have := h.gb
  omega
theorem AMk.y (h : AMk w0 w base hi g n c o z zs ys) (i : Nat) (h16 : i < 16) (ho : o + 16 ≤ n * 16) : ∃ v, w.cell? ⟨g, o + i, none⟩ = some v := by
  obtain ⟨v, hv⟩ := own_cell h.own (o + i) (by omega)
  exact ⟨_, hv⟩
theorem AMk.c10 (h : AMk w0 w base hi g n c o z zs ys) (ho : o + 16 ≤ n * 16) : w.cell? ⟨g, o + 10, none⟩ = some (.slice z.A z.n z.c) := (h.own.cellAt _ (by omega)).trans h.s10
theorem AMk.c14 (h : AMk w0 w base hi g n c o z zs ys) (ho : o + 16 ≤ n * 16) : w.cell? ⟨g, o + 14, none⟩ = some (.slice z.B z.m z.d) := (h.own.cellAt _ (by omega)).trans h.s14
theorem AMk.mark (h : AMk w0 w base hi g n c o z zs ys) {e : TypeId} {sz m : Nat} {v : Value} {us us' : List Value} (hu : w.ownsRow base e sz v m us) (hu' : w'.ownsRow base e sz v m us') (hg : w.grownBy w' v.ownBlock) (hne : 56 ≠ e) (hr : ∀ k, v.ownBlock = some k → k < hi) : AMk w0 w' base hi g n c o z zs ys :=
  ⟨own_grown h.own hg (own_ne h.own hu hne), h.s10, h.s14, fun z' hz => ⟨ownAny_mark (h.all z' hz).1 hu hu' hg, ownAny_mark (h.all z' hz).2 hu hu' hg⟩, h.tail, h.rng.trans (rng_grown hg fun k hk => ⟨(hu.lt k hk).1, hr k hk⟩), h.gb⟩
end
set_option maxRecDepth 100000 in
set_option maxHeartbeats 4000000 in
theorem markAidSK_c (A : Option Addr) (n c s0 : Nat) (zs : List AidG) (base hi : Nat) (w : World) (h : AidOwn w base (.slice A n c) n zs) (hm : n ≤ 1048576) (hz : ∀ z ∈ zs, z.n ≤ 1048576 ∧ z.m ≤ 1048576)
    (hA : ∀ k, (Value.slice A n c).ownBlock = some k → k < hi) (hG : ∀ z ∈ zs, (∀ k, (Value.slice z.A z.n z.c).ownBlock = some k → k < hi) ∧ ∀ k, (Value.slice z.B z.m z.d).ownBlock = some k → k < hi) (hp0 : 0 < s0) (hp1 : s0 ≤ 10000000000000) :
    Calls Tryz.prog 18 #[.slice A n c, .int .i64 (s0 : Int)] w fun e w' => ∃ K : Nat, e = .returned (.int .i64 (K : Int)) ∧ Rng base hi w w' ∧ 0 < K ∧ K ≤ s0 + n * 4194318 := by
  have hl : zs.length = n := (Sl.of_own h.own).len AidG.cells 16 AidG.cells_len (by omega)
  have hall : ∀ z' ∈ zs, OwnAny w base 2 1 z'.n (.slice z'.A z'.n z'.c) ∧ OwnAny w base 94 3 z'.m (.slice z'.B z'.m z'.d) := fun z hz => ⟨⟨_, (h.new z hz).g⟩, ⟨_, (h.new z hz).s⟩⟩
  have hown0 := h.own
  clear h
  have Hl := Lib.hid hl; clear hl
  have Hz := Lib.hid hz; clear hz
  have HG := Lib.hid hG; clear hG
  have HA := Lib.hid hA; clear hA
  have HAl := Lib.hid hall; clear hall
  go_enter Tryz.func18, Tryz.ntmps18
  go_wp2
  go_loopw [1, 5] (fun q i wr => ∃ (k K : Nat) (ys : List Value), k ≤ n ∧ i = .int .i64 k ∧ q = .int .i64 (K : Int) ∧ 0 < K ∧ K ≤ s0 + k * 4194318 ∧ wr.ownsRow base 56 16 (.slice A n c) n ys ∧ Hid (ys.drop (k * 16) = (zs.flatMap AidG.cells).drop (k * 16)) ∧ Hid (∀ z' ∈ zs, OwnAny wr base 2 1 z'.n (.slice z'.A z'.n z'.c) ∧ OwnAny wr base 94 3 z'.m (.slice z'.B z'.m z'.d)) ∧ Rng base hi w wr) (fun _ i _ => n - (intOf i).toNat)
  case atStart => exact ⟨0, s0, _, Nat.zero_le _, rfl, rfl, by omega, by omega, hown0, Lib.hid rfl, HAl, Rng.refl _ _ _⟩
  case round =>
    clear hown0 HAl
    obtain ⟨k, K, ys, hk, rfl, rfl, hK0, hK1, hown, Hys, Hgr, hrw⟩ := hrel
    have k0 : (0 : Int) ≤ (k : Int) := by omega
    by_cases hlt : k < n
    · have k1 : (k : Int) < (n : Int) := by omega
      obtain ⟨g, rfl, hg1, hg2⟩ := own_form hown (by omega)
      obtain ⟨z, hx⟩ : ∃ z, zs[k]? = some z := ⟨_, List.getElem?_eq_getElem (by rw [Hl.out]; omega)⟩
      have hzm := List.mem_of_getElem? hx
      obtain ⟨hzn, hzs⟩ := Hz.out z hzm
      obtain ⟨hGa, hGb⟩ := HG.out z hzm
      have ho16 : k * 16 + 16 ≤ n * 16 := by omega
      have h0 : AMk w wr base hi g n c (k * 16) z zs ys := ⟨hown, by rw [dropAt Hys.out (by omega), flat_at AidG.cells 16 AidG.cells_len zs k 10 z hx (by decide)]; rfl, by rw [dropAt Hys.out (by omega), flat_at AidG.cells 16 AidG.cells_len zs k 14 z hx (by decide)]; rfl, Hgr.out, dropMore Hys.out (by omega), hrw, hg1, HA.out g rfl⟩
      have fz := hown.frozenAt
      obtain ⟨y0, f0⟩ := h0.y 0 (by omega) ho16
      rw [Nat.add_zero] at f0
      have h1 := h0.store 0 (.int .i64 (K : Int)) (by omega) (by omega) (by omega)
      clear h0 hown Hys Hgr hrw
      have Hx := Lib.hid hx; clear hx
      have H1 := Lib.hid h1; clear h1
      have HGa := Lib.hid hGa; clear hGa
      have HGb := Lib.hid hGb; clear hGb
      go_wp2_with fail
      refine (markText_c (K + 1) _ (by omega) (by omega)).mono ?_
      rintro e w2 ⟨rfl, hb⟩
      have h2 := (H1.out).next hb
      have fz := (h2).own.frozenAt
      clear hb
      obtain ⟨y1, f1⟩ := h2.y 1 (by omega) ho16
      obtain ⟨y2, f2⟩ := h2.y 2 (by omega) ho16
      obtain ⟨y3, f3⟩ := h2.y 3 (by omega) ho16
      obtain ⟨y4, f4⟩ := h2.y 4 (by omega) ho16
      obtain ⟨y5, f5⟩ := h2.y 5 (by omega) ho16
      have h3 := ((((h2.store 1 (.string (markT (K + 1))) (by omega) (by omega) (by omega)).store 2 (.int .i64 ((K + 2 : Nat) : Int)) (by omega) (by omega) (by omega)).store 3 (.int .i64 ((K + 3 : Nat) : Int)) (by omega) (by omega) (by omega)).store 4 (.int .i64 ((K + 4 : Nat) : Int)) (by omega) (by omega) (by omega)).store 5 (.int .i64 ((K + 5 : Nat) : Int)) (by omega) (by omega) (by omega)
      clear h2
      have H3 := Lib.hid h3; clear h3
      go_wp2_with fail
      clear f1 f2 f3 f4 f5 fz
      refine (markText_c (K + 6) _ (by omega) (by omega)).mono ?_
      rintro e w3 ⟨rfl, hb⟩
      have h4 := (H3.out).next hb
      have fz := (h4).own.frozenAt
      clear hb
      obtain ⟨y6, f6⟩ := h4.y 6 (by omega) ho16
      have h5 := h4.store 6 (.string (markT (K + 6))) (by omega) (by omega) (by omega)
      clear h4
      have H5 := Lib.hid h5; clear h5
      go_wp2_with fail
      clear f6 fz
      refine (markText_c (K + 7) _ (by omega) (by omega)).mono ?_
      rintro e w4 ⟨rfl, hb⟩
      have h6 := (H5.out).next hb
      have fz := (h6).own.frozenAt
      clear hb
      obtain ⟨y7, f7⟩ := h6.y 7 (by omega) ho16
      have h7 := h6.store 7 (.string (markT (K + 7))) (by omega) (by omega) (by omega)
      clear h6
      have H7 := Lib.hid h7; clear h7
      go_wp2_with fail
      clear f7 fz
      refine (markText_c (K + 8) _ (by omega) (by omega)).mono ?_
      rintro e w5 ⟨rfl, hb⟩
      have h8 := (H7.out).next hb
      have fz := (h8).own.frozenAt
      clear hb
      obtain ⟨y8, f8⟩ := h8.y 8 (by omega) ho16
      obtain ⟨y9, f9⟩ := h8.y 9 (by omega) ho16
      have c10 := h8.c10 ho16
      have h9 := (h8.store 8 (.string (markT (K + 8))) (by omega) (by omega) (by omega)).store 9 (.int .i64 ((K + 9 : Nat) : Int)) (by omega) (by omega) (by omega)
      clear h8
      obtain ⟨us, hus⟩ := (h9.all z hzm).1
      have H9 := Lib.hid h9; clear h9
      have HUs := Lib.hid hus; clear hus
      go_wp2_with fail
      clear f8 f9 fz c10
      refine (markInt64S_c z.A z.n z.c (K + 10) base us _ HUs.out hzn (by omega)).mono ?_
      rintro e w6 ⟨rfl, hu', hgu⟩
      have h10 := H9.out.mark HUs.out hu' hgu (by decide) HGa.out
      clear hu' hgu
      have H10 := Lib.hid h10; clear h10
      go_wp2_with fail
      refine (markText_c (K + 10 + z.n) _ (by omega) (by omega)).mono ?_
      rintro e w7 ⟨rfl, hb⟩
      have h11 := (H10.out).next hb
      have fz := (h11).own.frozenAt
      clear hb
      obtain ⟨y11, f11⟩ := h11.y 11 (by omega) ho16
      have h12 := h11.store 11 (.string (markT (K + 10 + z.n))) (by omega) (by omega) (by omega)
      clear h11
      have H12 := Lib.hid h12; clear h12
      go_wp2_with fail
      clear f11 fz
      refine (markText_c (K + 10 + z.n + 1) _ (by omega) (by omega)).mono ?_
      rintro e w8 ⟨rfl, hb⟩
      have h13 := (H12.out).next hb
      have fz := (h13).own.frozenAt
      clear hb
      obtain ⟨y12, f12⟩ := h13.y 12 (by omega) ho16
      obtain ⟨y13, f13⟩ := h13.y 13 (by omega) ho16
      have c14 := h13.c14 ho16
      have h14 := (h13.store 12 (.string (markT (K + 10 + z.n + 1))) (by omega) (by omega) (by omega)).store 13 (.int .i64 ((K + 10 + z.n + 1 + 1 : Nat) : Int)) (by omega) (by omega) (by omega)
      clear h13
      obtain ⟨vs, hvs⟩ := (h14.all z hzm).2
      have H14 := Lib.hid h14; clear h14
      have HVs := Lib.hid hvs; clear hvs
      go_wp2_with fail
      clear f12 f13 fz c14
      refine (markSectorS_c z.B z.m z.d (K + 10 + z.n + 1 + 1 + 1) base vs _ HVs.out hzs (by omega) (by omega)).mono ?_
      rintro e w9 ⟨rfl, hv', hgv⟩
      have h15 := H14.out.mark HVs.out hv' hgv (by decide) HGb.out
      clear hv' hgv
      obtain ⟨y15, f15⟩ := h15.y 15 (by omega) ho16
      have fz := h15.own.frozenAt
      have h16 := h15.store 15 (.int .i64 ((K + 10 + z.n + 1 + 1 + 1 + 3 * z.m : Nat) : Int)) (by omega) (by omega) (by omega)
      clear h15
      have H16 := Lib.hid h16; clear h16
      go_wp2_with fail
      go_roundw
      case rel =>
        exact ⟨k + 1, K + 10 + z.n + 1 + 1 + 1 + 3 * z.m + 1, _, by omega, by go_num, by first | rfl | go_num, by omega, by omega, H16.out.own, Lib.hid (by have := H16.out.tail; rwa [show k * 16 + 16 = (k + 1) * 16 by omega] at this), Lib.hid H16.out.all, H16.out.rng⟩
      case measure => simp [intOf]; omega
    · obtain rfl : k = n := by omega
      go_wp2
      go_ret
      exact ⟨K, rfl, hrw, hK0, hK1⟩
theorem markAidS_c (A : Option Addr) (n c : Nat) (zs : List AidG) (base hi : Nat) (w : World) (h : AidOwn w base (.slice A n c) n zs) (hm : n ≤ 1048576) (hz : ∀ z ∈ zs, z.n ≤ 1048576 ∧ z.m ≤ 1048576)
    (hA : ∀ k, (Value.slice A n c).ownBlock = some k → k < hi) (hG : ∀ z ∈ zs, (∀ k, (Value.slice z.A z.n z.c).ownBlock = some k → k < hi) ∧ ∀ k, (Value.slice z.B z.m z.d).ownBlock = some k → k < hi) :
    Calls Tryz.prog 18 #[.slice A n c, .int .i64 1] w fun e w' => ∃ K : Nat, e = .returned (.int .i64 (K : Int)) ∧ Rng base hi w w' ∧ 0 < K ∧ K ≤ 1 + n * 4194318 :=
  markAidSK_c A n c 1 zs base hi w h hm hz hA hG (by decide) (by decide)
end Go.Proofs.YtpfnnjcochhklaaGreatDoor
