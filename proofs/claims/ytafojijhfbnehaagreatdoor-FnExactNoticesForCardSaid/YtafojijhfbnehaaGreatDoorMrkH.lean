/- MrkH: several of my texts in one. -/
import Derived.Test.YtafojijhfbnehaaGreatDoorIntS
import Derived.Test.YtafojijhfbnehaaGreatDoorMark
import Derived.Test.YtafojijhfbnehaaGreatDoorSecLaw
import Derived.Test.YtafojijhfbnehaaGreatDoorApp
/- Marks on integers (where no phases are). -/
namespace Go.Proofs.YtafojijhfbnehaaGreatDoor
open Go.RowKit
def markInts (k n : Nat) : List Int := (List.range n).map fun i => ((k + i : Nat) : Int)
theorem markInts_next (k n : Nat) : markInts k (n + 1) = markInts k n ++ [((k + n : Nat) : Int)] := by simp [markInts, List.range_succ]
theorem markInts_at {k n i : Nat} (h : i < n) : (markInts k n)[i]? = some ((k + i : Nat) : Int) := by simp [markInts, h]
set_option maxRecDepth 100000 in
set_option maxHeartbeats 400000 in
theorem markInt64S_c (A : Option Addr) (n c k0 base : Nat) (ys0 : List Value) (w : World) (hown0 : w.ownsRow base 2 1 (.slice A n c) n ys0) (hm : n ≤ 1048576) (hk1 : k0 ≤ 100000000000000000) :
    Calls Tryz.prog 37 #[.slice A n c, .int .i64 k0] w fun e w' => e = .returned (.int .i64 (k0 + n : Nat)) ∧ w'.ownsRow base 2 1 (.slice A n c) n ((markInts k0 n).flatMap intC) ∧ w.grownBy w' (Value.slice A n c).ownBlock := by
  go_enter Tryz.func37, Tryz.ntmps37
  go_wp2
  go_loopw [1, 5] (fun q i wr => ∃ (k : Nat) (ys : List Value), k ≤ n ∧ i = .int .i64 k ∧ q = .int .i64 (k0 + k : Nat) ∧ wr.ownsRow base 2 1 (.slice A n c) n ys ∧ ys.take (k * 1) = (markInts k0 k).flatMap intC ∧ w.grownBy wr (Value.slice A n c).ownBlock) (fun _ i _ => n - (intOf i).toNat)
  case atStart => exact ⟨0, _, Nat.zero_le _, rfl, rfl, hown0, by simp [markInts], grown_refl _ _⟩
  case round =>
    obtain ⟨k, ys, hk, rfl, rfl, hown, hys, hgw⟩ := hrel
    by_cases hlt : k < n
    · obtain ⟨g, rfl, hg1, hg2⟩ := own_form hown (by omega)
      have hyl := hown.1
      obtain ⟨y0, f0⟩ := own_cell hown k (by omega)
      have f3 := hown.frozenAt
      have Hys := Lib.hid hys; clear hys
      have Hyl := Lib.hid hyl; clear hyl
      go_wp2
      go_roundw
      case rel =>
        have s1 := hown.stored k (.int .i64 (k0 + k : Nat))
        refine ⟨k + 1, setAll ys (k * 1) (intC (k0 + k : Nat)), by omega, by go_num, by go_num, ?_, ?_, grown_trans hgw s1.2⟩
        · have := s1.1
          rw [Nat.mul_one]; exact this
        · rw [setAll_take Hyl.out hlt (intC_len _), Hys.out, markInts_next]
          simp
      case measure => simp [intOf]; omega
    · go_wp2
      go_ret
      obtain rfl : k = n := by omega
      have hyl := hown.1
      rw [List.take_of_length_le (by omega)] at hys
      subst hys
      exact ⟨rfl, hown, hgw⟩
set_option maxRecDepth 100000 in
set_option maxHeartbeats 400000 in
theorem heldInt64S_c (A : Option Addr) (n c k0 : Nat) (w : World) (h : Sl w w.heap.size 1 A n ((markInts k0 n).flatMap intC)) (hm : n ≤ 1048576) (hk1 : k0 ≤ 100000000000000000) :
    Calls Tryz.prog 38 #[.slice A n c, .int .i64 k0] w fun e w' => e = .returned (.int .i64 (k0 + n : Nat)) ∧ w = w' := by
  go_enter Tryz.func38, Tryz.ntmps38
  go_wp2
  go_loop [1, 5] (fun q i => ∃ (k : Nat), k ≤ n ∧ i = .int .i64 k ∧ q = .int .i64 (k0 + k : Nat)) (fun _ i => n - (intOf i).toNat)
  case atStart => exact ⟨0, Nat.zero_le _, rfl, rfl⟩
  case round =>
    obtain ⟨k, hk, rfl, rfl⟩ := hrel
    by_cases hlt : k < n
    · obtain ⟨b, off, d, rfl, hb, hd, c1⟩ := h.int k hlt
      obtain rfl : _ = d := Option.some.inj ((markInts_at hlt).symm.trans hd)
      clear hd
      go_wp2
      go_round
      case rel => exact ⟨k + 1, by omega, by go_num, by go_num⟩
      case measure => simp [intOf]; omega
    · go_wp2
      go_ret
      obtain rfl : k = n := by omega
      exact ⟨rfl, rfl⟩
end Go.Proofs.YtafojijhfbnehaaGreatDoor
/- Marks on sectors. -/
namespace Go.Proofs.YtafojijhfbnehaaGreatDoor
open Go.RowKit
def mkSec (k : Nat) : Sec := ⟨(k : Nat), (k + 1 : Nat), markT (k + 2)⟩
def markSecs (k n : Nat) : List Sec := (List.range n).map fun i => mkSec (k + 3 * i)
theorem markSecs_next (k n : Nat) : markSecs k (n + 1) = markSecs k n ++ [mkSec (k + 3 * n)] := by simp [markSecs, List.range_succ]
theorem markSecs_at {k n i : Nat} (h : i < n) : (markSecs k n)[i]? = some (mkSec (k + 3 * i)) := by simp [markSecs, h]
set_option maxRecDepth 100000 in
set_option maxHeartbeats 1000000 in
theorem markSectorS_c (A : Option Addr) (n c k0 base : Nat) (ys0 : List Value) (w : World) (hown0 : w.ownsRow base 140 3 (.slice A n c) n ys0) (hm : n ≤ 1048576) (hk0 : 0 < k0) (hk1 : k0 ≤ 100000000000000000) :
    Calls Tryz.prog 74 #[.slice A n c, .int .i64 k0] w fun e w' => e = .returned (.int .i64 (k0 + 3 * n : Nat)) ∧ w'.ownsRow base 140 3 (.slice A n c) n ((markSecs k0 n).flatMap Sec.cells) ∧ w.grownBy w' (Value.slice A n c).ownBlock := by
  go_enter Tryz.func74, Tryz.ntmps74
  go_wp2
  go_loopw [1, 5] (fun q i wr => ∃ (k : Nat) (ys : List Value), k ≤ n ∧ i = .int .i64 k ∧ q = .int .i64 (k0 + 3 * k : Nat) ∧ wr.ownsRow base 140 3 (.slice A n c) n ys ∧ ys.take (k * 3) = (markSecs k0 k).flatMap Sec.cells ∧ w.grownBy wr (Value.slice A n c).ownBlock) (fun _ i _ => n - (intOf i).toNat)
  case atStart => exact ⟨0, _, Nat.zero_le _, rfl, rfl, hown0, by simp [markSecs], grown_refl _ _⟩
  case round =>
    obtain ⟨k, ys, hk, rfl, rfl, hown, hys, hgw⟩ := hrel
    by_cases hlt : k < n
    · obtain ⟨g, rfl, hg1, hg2⟩ := own_form hown (by omega)
      have hyl := hown.1
      obtain ⟨y0, f0⟩ := own_cell hown (k * 3) (by omega)
      obtain ⟨y1, f1⟩ := own_cell hown (k * 3 + 1) (by omega)
      have fz := hown.frozenAt
      have s1 := hown.stored (k * 3) (.int .i64 ((k0 + 3 * k : Nat) : Int))
      have s2 := s1.1.stored (k * 3 + 1) (.int .i64 ((k0 + 3 * k + 1 : Nat) : Int))
      have Hys := Lib.hid hys; clear hys
      have Hyl := Lib.hid hyl; clear hyl
      have S1 := Lib.hid s1; clear s1
      have S2 := Lib.hid s2; clear s2
      go_wp2_with (go_at_call 73; refine (markText_c (k0 + 3 * k + 2) _ (by omega) (by omega)).mono ?_; rintro e w2 ⟨rfl, hb1⟩; have ho2 := own_next S2.out.1 hb1; obtain ⟨y2, f2⟩ := own_cell ho2 (k * 3 + 2) (by omega); have f3 := ho2.frozenAt)
      go_roundw
      case rel =>
        have s3 := ho2.stored (k * 3 + 2) (.string (markT (k0 + 3 * k + 2)))
        refine ⟨k + 1, setAll ys (k * 3) (Sec.cells (mkSec (k0 + 3 * k))), by omega, by go_num, by go_num, ?_, ?_, ?_⟩
        · exact s3.1
        · rw [setAll_take Hyl.out hlt (Sec.cells_len _), Hys.out, markSecs_next]
          simp
        · exact grown_trans (grown_trans (grown_trans (grown_trans hgw S1.out.2) S2.out.2) (grown_of_below hb1)) s3.2
      case measure => simp [intOf]; omega
    · go_wp2
      go_ret
      obtain rfl : k = n := by omega
      have hyl := hown.1
      rw [List.take_of_length_le (by omega)] at hys
      subst hys
      exact ⟨rfl, hown, hgw⟩
set_option maxRecDepth 100000 in
set_option maxHeartbeats 1000000 in
theorem heldSectorS_c (A : Option Addr) (n c k0 : Nat) (w : World) (h : Sl w w.heap.size 3 A n ((markSecs k0 n).flatMap Sec.cells)) (hm : n ≤ 1048576) (hk0 : 0 < k0) (hk1 : k0 ≤ 100000000000000000) :
    Calls Tryz.prog 81 #[.slice A n c, .int .i64 k0] w fun e w' => e = .returned (.int .i64 (k0 + 3 * n : Nat)) ∧ Below w.heap.size w w' := by
  go_enter Tryz.func81, Tryz.ntmps81
  go_wp2
  go_loopw [1, 5] (fun q i wr => ∃ (k : Nat), k ≤ n ∧ i = .int .i64 k ∧ q = .int .i64 (k0 + 3 * k : Nat) ∧ Below w.heap.size w wr) (fun _ i _ => n - (intOf i).toNat)
  case atStart => exact ⟨0, Nat.zero_le _, rfl, rfl, Below.refl _ _⟩
  case round =>
    obtain ⟨k, hk, rfl, rfl, hbw⟩ := hrel
    by_cases hlt : k < n
    · obtain ⟨b, off, d, rfl, hb, hd, c1, c2, c3⟩ := (h.next hbw).sec k hlt
      obtain rfl : _ = d := Option.some.inj ((markSecs_at hlt).symm.trans hd)
      clear hd
      simp only [mkSec] at c1 c2 c3
      have j1 : (0 : Int) ≤ (k : Int) := by omega
      have j2 : (k : Int) < (n : Int) := by omega
      go_wp2
      go_region_held3 (fun w' => Below wr.heap.size wr w' ∧ (∀ x, w'.cell? ⟨b, x, none⟩ = wr.cell? ⟨b, x, none⟩)) (first | exact ⟨(Below.refl _ _).drew, keepC (Below.refl _ _).drew b hb⟩ | exact ⟨(Below.refl _ _).drew.trans hb1, keepC ((Below.refl _ _).drew.trans hb1) b hb⟩) (first | (go_at_call 73; refine (markText_c (k0 + 3 * k + 2) _ (by omega) (by omega)).mono ?_; rintro e w' ⟨rfl, hb1⟩))
      have hb2 : Below wr.heap.size wr w' := (Below.refl wr.heap.size wr).drew.trans hb1
      go_wp2
      go_roundw
      case rel => exact ⟨k + 1, by omega, by go_num, by go_num, hbw.trans (hb2.mono hbw.size)⟩
      case measure => simp [intOf]; omega
    · go_wp2
      go_ret
      obtain rfl : k = n := by omega
      exact ⟨rfl, hbw⟩
end Go.Proofs.YtafojijhfbnehaaGreatDoor
/- What is written lies in a range of blocks. No program is named here. -/
namespace Go.Proofs.YtafojijhfbnehaaGreatDoor
open Go.RowKit
/-- A step of a region that draws its order; the way back into the region is shut. -/
theorem allReadyS_cons {P : Program} {md : Region.Mode} {ops : Array Oper} {Q : Exit → Act → World → Prop} {fuel : Nat} {listed : Array Bool} {a : Act} {w : World} {i : Nat} {o : Oper} {rs : List Nat} (ho : ops[i]? = some o)
    (h : ∀ K' : Act → World → Prop, Shut (∀ a w, wpAny P md ops Q fuel (listed.setIfInBounds i true) a w → K' a w) → if Region.wanted o (yielded ops a.tmps) = true then Oper.wp P o a w K' Q else K' (a.put o.dst undef) w)
    (hs : AllReady P md ops Q fuel listed a w rs) : AllReady P md ops Q fuel listed a w (i :: rs) := AllReady.cons ho (fun K hK => h K hK) hs
structure Rng (lo hi : Nat) (w w' : World) : Prop where
  os : w'.os = w.os
  tape : w'.tape = w.tape
  output : w'.output = w.output
  size : w.heap.size ≤ w'.heap.size
  block : ∀ b, b < w.heap.size → (b < lo ∨ hi ≤ b) → w'.heap[b]? = w.heap[b]?
theorem Rng.refl (lo hi : Nat) (w : World) : Rng lo hi w w := ⟨rfl, rfl, rfl, Nat.le_refl _, fun _ _ _ => rfl⟩
theorem Rng.trans {lo hi : Nat} {a b c : World} (h : Rng lo hi a b) (k : Rng lo hi b c) : Rng lo hi a c :=
  ⟨k.os.trans h.os, k.tape.trans h.tape, k.output.trans h.output, Nat.le_trans h.size k.size, fun i hi' hne => (k.block i (Nat.lt_of_lt_of_le hi' h.size) hne).trans (h.block i hi' hne)⟩
theorem Rng.wider {lo hi lo' hi' : Nat} {a b : World} (h : Rng lo hi a b) (h1 : lo' ≤ lo) (h2 : hi ≤ hi') : Rng lo' hi' a b :=
  ⟨h.os, h.tape, h.output, h.size, fun i hi' hne => h.block i hi' (by omega)⟩
theorem rng_below {lo hi : Nat} {w w' : World} (h : Below w.heap.size w w') : Rng lo hi w w' := ⟨h.os, h.tape, h.output, h.size, fun b hb _ => h.block b hb⟩
theorem rng_grown {lo hi : Nat} {w w' : World} {row : Option Nat} (h : w.grownBy w' row) (hr : ∀ k, row = some k → lo ≤ k ∧ k < hi) : Rng lo hi w w' :=
  ⟨h.os, h.tape, h.output, h.size, fun b hb hne => h.block b hb fun e => by have := hr b e.symm; omega⟩
theorem below_rng {B lo hi : Nat} {a w w' : World} (hb : Below B a w) (h : Rng lo hi w w') (h1 : B ≤ lo) (h2 : B ≤ w.heap.size) : Below B a w' :=
  ⟨h.os.trans hb.os, h.tape.trans hb.tape, h.output.trans hb.output, Nat.le_trans hb.size h.size, fun b hlt => (h.block b (by omega) (.inl (by omega))).trans (hb.block b hlt)⟩
theorem own_rng {w w' : World} {base lo hi : Nat} {e : TypeId} {sz n : Nat} {v : Value} {xs : List Value} (h : w.ownsRow base e sz v n xs) (hr : Rng lo hi w w') (hne : ∀ k, v.ownBlock = some k → k < lo ∨ hi ≤ k) : w'.ownsRow base e sz v n xs := by
  obtain ⟨h1, h2⟩ := h
  refine ⟨h1, ?_⟩
  rcases h2 with h2 | ⟨g, cap, cur, hv, hb, hg, r⟩
  · exact .inl h2
  · refine .inr ⟨g, cap, cur, hv, hb, ?_, r⟩
    rw [hr.block g (Array.getElem?_eq_some_iff.1 hg).1 (hne g (by rw [hv]; rfl))]
    exact hg
theorem Sl.rng {w w' : World} {B lo hi sz n : Nat} {A : Option Addr} {xs : List Value} (h : Sl w B sz A n xs) (hr : Rng lo hi w w') (hB : B ≤ lo) (h2 : B ≤ w.heap.size) : Sl w' B sz A n xs :=
  h.keep fun b hb => hr.block b (by omega) (.inl (by omega))
theorem keepR {lo hi : Nat} {w w' : World} (h : Rng lo hi w w') (b : Nat) (hb : b < w.heap.size) (hr : b < lo ∨ hi ≤ b) : ∀ i, w'.cell? ⟨b, i, none⟩ = w.cell? ⟨b, i, none⟩ := fun _ => World.cell?_of_block (w := w) (h.block b hb hr)
/-- A row of integers of the call's own, whatever it holds. -/
def OwnAny (w : World) (base : Nat) (e : TypeId) (sz n : Nat) (v : Value) : Prop := ∃ ys, w.ownsRow base e sz v n ys
theorem OwnAny.grown {w w' : World} {base base' : Nat} {e e' : TypeId} {sz sz' n m : Nat} {v u : Value} {us : List Value} (h : OwnAny w base e sz n v) (hu : w.ownsRow base' e' sz' u m us) (hg : w.grownBy w' u.ownBlock) (hne : e ≠ e') : OwnAny w' base e sz n v := by
  obtain ⟨ys, hy⟩ := h
  exact ⟨ys, own_grown hy hg (own_ne hy hu hne)⟩
theorem OwnAny.next {w w' : World} {base : Nat} {e : TypeId} {sz n : Nat} {v : Value} (h : OwnAny w base e sz n v) (hb : Below w.heap.size w w') : OwnAny w' base e sz n v := by
  obtain ⟨ys, hy⟩ := h
  exact ⟨ys, own_next hy hb⟩
/-- One row is written; another one (perhaps of the same block) is still a row. -/
theorem ownAny_mark {w w' : World} {base base' : Nat} {e e' : TypeId} {sz sz' n m : Nat} {v u : Value} {us us' : List Value} (h : OwnAny w base e sz n v) (hu : w.ownsRow base' e' sz' u m us) (hu' : w'.ownsRow base' e' sz' u m us') (hg : w.grownBy w' u.ownBlock) : OwnAny w' base e sz n v := by
  obtain ⟨ys, hy⟩ := h
  by_cases hne : v.ownBlock = none ∨ v.ownBlock ≠ u.ownBlock
  · exact ⟨ys, own_grown hy hg hne⟩
  · obtain ⟨h1, h2⟩ := hy
    rcases h2 with h2 | ⟨g, cap, cur, hv, hb, hgg, q1, q2, q3, q4⟩
    · exact ⟨ys, h1, .inl h2⟩
    · rcases hu.2 with h3 | ⟨g3, cap3, cur3, hv3, hb3, hg3, r1, r2, r3, r4⟩
      · exact absurd (.inr (by rw [hv, h3.1]; simp [Value.ownBlock])) hne
      · rcases hu'.2 with h4 | ⟨g4, cap4, cur4, hv4, hb4, hg4, s1, s2, s3, s4⟩
        · rw [h4.1] at hv3; cases hv3
        · rw [hv3] at hv4
          injection hv4 with e1 e2 e3
          injection e1 with e1
          injection e1 with e1
          subst e1 e3
          have hgg3 : g = g3 := by
            rcases Classical.em (v.ownBlock = u.ownBlock) with e0 | e0
            · rw [hv, hv3] at e0
              simpa [Value.ownBlock] using e0
            · exact absurd (.inr e0) hne
          subst hgg3
          rw [hgg] at hg3
          injection hg3 with hg3
          injection hg3 with e5 e6
          subst e5 e6
          refine ⟨_, ?_, .inr ⟨g, cap, cur4, hv, hb, hg4, q1, q2, ?_, rfl⟩⟩
          · have := q3
            have := r3
            have hz : n * sz ≤ cur4.size := by
              rw [s3, ← r3, q3]; exact Nat.mul_le_mul_right _ q1
            rw [List.length_take, Array.length_toList]
            exact Nat.min_eq_left hz
          · rw [s3, ← r3, q3]
end Go.Proofs.YtafojijhfbnehaaGreatDoor
