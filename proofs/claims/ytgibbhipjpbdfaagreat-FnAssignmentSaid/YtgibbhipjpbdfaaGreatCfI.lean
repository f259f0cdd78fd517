/- CfI: several of my texts in one. -/
import Derived.Test.YtgibbhipjpbdfaaGreatApp
import Derived.Test.YtgibbhipjpbdfaaGreatSrcG
import Derived.Lib.AppendZerosOnto
import Derived.Test.YtgibbhipjpbdfaaGreatCfS

/- The library's Grow and Concat, at strings and at phases. -/

namespace Go.Proofs.YtgibbhipjpbdfaaGreat
open Go.RowKit
theorem strInfoC : (Tryz.prog.info? 9).map (fun i => (i.zero, i.size, i.bytes)) = some (some (.string ByteArray.empty), 1, 16) := by kernel_rfl
theorem phInfoC : (Tryz.prog.info? 118).map (fun i => (i.zero, i.size, i.bytes)) = some (some (.agg #[.string ByteArray.empty, .int .i64 0]), 2, 24) := by kernel_rfl
set_option maxRecDepth 100000 in
set_option maxHeartbeats 2000000 in
theorem growS_c (n : Nat) (w : World) (h1 : 1 ≤ n) (hn : n ≤ 1048576) :
    Calls Tryz.prog 120 #[.slice none 0 0, .int .i64 n] w fun e w' => ∃ g cap, e = .returned (.slice (some ⟨g, 0, none⟩) 0 cap) ∧ w'.ownsRow w.heap.size 9 1 (.slice (some ⟨g, 0, none⟩) 0 cap) 0 [] ∧ Below w.heap.size w w' := by
  obtain ⟨i0, hi, hz0, hz1, hz2⟩ := info_parts strInfoC
  have e63 : n ≤ maxLen := by unfold maxLen; omega
  obtain ⟨G, hG⟩ : ∃ G, grownCap w n 0 9 = G := ⟨_, rfl⟩
  obtain ⟨ROW, hROW⟩ : ∃ ROW, Builtin.zeroCells (Value.string ByteArray.empty).cells n ++ Builtin.zeroCells (Value.string ByteArray.empty).cells (G - n) = ROW := ⟨_, rfl⟩
  have hr : ∀ ty, (Builtin.append_ #[71, 3] ty #[.slice none 0 0, .int .i64 (n : Int)]).run Tryz.prog w = .ok (.slice (some ⟨w.heap.size, 0, none⟩) n G) (w.drew.alloc (.cells ROW 9)) := fun ty => by
    have := Lib.run_append_nil_zeros (P := Tryz.prog) w 71 3 ty 9 i0 _ .i64 .i64 Tryz.underlying71 Tryz.underlying3 hi hz0 n (by omega) (by omega) (by omega) (by rw [hz2]; omega)
    rw [hG, hROW] at this
    exact this
  have hGn : n ≤ G := by rw [← hG]; exact grownCap_ge w _ _ _
  have hGm : G ≤ maxLen := by
    have := grownCap_le_maxLen w n 0 9 e63
    rwa [hG] at this
  have hRl : ROW.size = G * 1 := by
    rw [← hROW]
    simp [Builtin.zeroCells, Value.cells]
    omega
  have hW : ∀ W, W = w.drew.alloc (.cells ROW 9) → W.ownsRow w.heap.size 9 1 (.slice (some ⟨w.heap.size, 0, none⟩) 0 G) 0 [] ∧ Below w.heap.size w W := fun W e => by
    subst e
    exact ⟨⟨rfl, .inr ⟨w.heap.size, G, ROW, rfl, Nat.le_refl _, heap_alloc_new w.drew _, Nat.zero_le _, hGm, hRl, by simp⟩⟩, (Below.refl _ _).drew.alloc (Nat.le_refl _) _⟩
  have i1 : (0 : Int) < (n : Int) := by omega
  have Hr := Lib.hid hr; clear hr
  have HW := Lib.hid hW; clear hW
  have HG := Lib.hid hG; clear hG
  have HROW := Lib.hid hROW; clear hROW
  have HRl := Lib.hid hRl; clear hRl
  clear hz0 hz1 hz2 hi
  go_enter Tryz.func120, Tryz.ntmps120
  go_wp2_with (at_builtin; refine Lib.wpList_append_run _ rfl _ _ _ _ rfl _ _ rfl rfl _ _ (Hr.out _) ?_)
  go_ret
  obtain ⟨a, b⟩ := HW.out _ rfl
  exact ⟨_, _, rfl, a, b⟩
set_option maxRecDepth 100000 in
set_option maxHeartbeats 2000000 in
theorem growP_c (n : Nat) (w : World) (h1 : 1 ≤ n) (hn : n ≤ 1048576) :
    Calls Tryz.prog 108 #[.slice none 0 0, .int .i64 n] w fun e w' => ∃ g cap, e = .returned (.slice (some ⟨g, 0, none⟩) 0 cap) ∧ w'.ownsRow w.heap.size 118 2 (.slice (some ⟨g, 0, none⟩) 0 cap) 0 [] ∧ Below w.heap.size w w' := by
  obtain ⟨i0, hi, hz0, hz1, hz2⟩ := info_parts phInfoC
  have e63 : n ≤ maxLen := by unfold maxLen; omega
  obtain ⟨G, hG⟩ : ∃ G, grownCap w n 0 118 = G := ⟨_, rfl⟩
  obtain ⟨ROW, hROW⟩ : ∃ ROW, Builtin.zeroCells (Value.agg #[.string ByteArray.empty, .int .i64 0]).cells n ++ Builtin.zeroCells (Value.agg #[.string ByteArray.empty, .int .i64 0]).cells (G - n) = ROW := ⟨_, rfl⟩
  have hr : ∀ ty, (Builtin.append_ #[92, 3] ty #[.slice none 0 0, .int .i64 (n : Int)]).run Tryz.prog w = .ok (.slice (some ⟨w.heap.size, 0, none⟩) n G) (w.drew.alloc (.cells ROW 118)) := fun ty => by
    have := Lib.run_append_nil_zeros (P := Tryz.prog) w 92 3 ty 118 i0 _ .i64 .i64 Tryz.underlying92 Tryz.underlying3 hi hz0 n (by omega) (by omega) (by omega) (by rw [hz2]; omega)
    rw [hG, hROW] at this
    exact this
  have hGn : n ≤ G := by rw [← hG]; exact grownCap_ge w _ _ _
  have hGm : G ≤ maxLen := by
    have := grownCap_le_maxLen w n 0 118 e63
    rwa [hG] at this
  have hRl : ROW.size = G * 2 := by
    rw [← hROW]
    simp [Builtin.zeroCells, Value.cells]
    omega
  have hW : ∀ W, W = w.drew.alloc (.cells ROW 118) → W.ownsRow w.heap.size 118 2 (.slice (some ⟨w.heap.size, 0, none⟩) 0 G) 0 [] ∧ Below w.heap.size w W := fun W e => by
    subst e
    exact ⟨⟨rfl, .inr ⟨w.heap.size, G, ROW, rfl, Nat.le_refl _, heap_alloc_new w.drew _, Nat.zero_le _, hGm, hRl, by simp⟩⟩, (Below.refl _ _).drew.alloc (Nat.le_refl _) _⟩
  have i1 : (0 : Int) < (n : Int) := by omega
  have Hr := Lib.hid hr; clear hr
  have HW := Lib.hid hW; clear hW
  have HG := Lib.hid hG; clear hG
  have HROW := Lib.hid hROW; clear hROW
  have HRl := Lib.hid hRl; clear hRl
  clear hz0 hz1 hz2 hi
  go_enter Tryz.func108, Tryz.ntmps108
  go_wp2_with (at_builtin; refine Lib.wpList_append_run _ rfl _ _ _ _ rfl _ _ rfl rfl _ _ (Hr.out _) ?_)
  go_ret
  obtain ⟨a, b⟩ := HW.out _ rfl
  exact ⟨_, _, rfl, a, b⟩
set_option maxRecDepth 100000 in
set_option maxHeartbeats 2000000 in
theorem concatP_c (b : Nat) (A1 : Option Addr) (n1 c1 : Nat) (A2 : Option Addr) (n2 c2 : Nat) (xs1 xs2 : List Value) (w : World) (h1 : Sl w w.heap.size 2 A1 n1 xs1) (h2 : Sl w w.heap.size 2 A2 n2 xs2) (d0 : w.cell? ⟨b, 0, none⟩ = some (.slice A1 n1 c1)) (d1 : w.cell? ⟨b, 1, none⟩ = some (.slice A2 n2 c2)) (hb : b < w.heap.size)
    (hn : 1 ≤ n1 + n2) (hm : n1 + n2 ≤ 1048576) (o1 : ∀ u ∈ xs1, u.oneCell' = true) (o2 : ∀ u ∈ xs2, u.oneCell' = true) :
    Calls Tryz.prog 94 #[.slice (some ⟨b, 0, none⟩) 2 2] w fun e w' => ∃ A c, e = .returned (.slice A (n1 + n2) c) ∧ w'.ownsRow w.heap.size 118 2 (.slice A (n1 + n2) c) (n1 + n2) (xs1 ++ xs2) ∧ Below w.heap.size w w' := by
  obtain ⟨i0, hi, hz0, hz1, hz2⟩ := info_parts phInfoC
  have e1 : 0 + n1 ≤ maxLen := by unfold maxLen; omega
  have e2 : (0 + n1) * 24 ≤ 140737488355328 := by omega
  have e3 : n1 + n2 ≤ maxLen := by unfold maxLen; omega
  have e4 : (n1 + n2) * 24 ≤ 140737488355328 := by omega
  have hG : Calls Tryz.prog 108 #[.slice none 0 0, .int .i64 ((n1 : Int) + (n2 : Int))] w fun e w' => ∃ g cap, e = .returned (.slice (some ⟨g, 0, none⟩) 0 cap) ∧ w'.ownsRow w.heap.size 118 2 (.slice (some ⟨g, 0, none⟩) 0 cap) 0 [] ∧ Below w.heap.size w w' := by
    have := growP_c (n1 + n2) w hn hm
    rwa [Int.natCast_add] at this
  have HG := Lib.hid hG; clear hG
  have E1 := Lib.hid e1; clear e1
  have E2 := Lib.hid e2; clear e2
  have E3 := Lib.hid e3; clear e3
  have E4 := Lib.hid e4; clear e4
  have O1 := Lib.hid o1; clear o1
  have O2 := Lib.hid o2; clear o2
  have H1 := Lib.hid h1; clear h1
  have H2 := Lib.hid h2; clear h2
  go_enter Tryz.func94, Tryz.ntmps94
  go_wp2_with fail
  go_loop [3, 11] (fun sz i => (i = .int .i64 0 ∧ sz = .int .i64 0) ∨ (i = .int .i64 1 ∧ sz = .int .i64 (n1 : Int)) ∨ (i = .int .i64 2 ∧ sz = .int .i64 ((n1 : Int) + (n2 : Int)))) (fun _ i => 2 - (intOf i).toNat)
  case atStart => exact .inl ⟨rfl, rfl⟩
  case round =>
    have i1 : (0 : Int) ≤ (n1 : Int) := by omega
    have i2 : (0 : Int) ≤ (n2 : Int) := by omega
    rcases hrel with ⟨rfl, rfl⟩ | ⟨rfl, rfl⟩ | ⟨rfl, rfl⟩
    · go_wp2_with fail
      go_round
      case rel => exact .inr (.inl ⟨rfl, by go_num⟩)
      case measure => simp [intOf]
    · go_wp2_with fail
      go_round
      case rel => exact .inr (.inr ⟨rfl, by go_num⟩)
      case measure => simp [intOf]
    · go_wp2_with fail
      refine HG.out.mono ?_
      rintro e w1 ⟨g, cap, rfl, ho1, hb1⟩
      have q0 := (keepC hb1 b hb 0).trans d0
      have q1 := (keepC hb1 b hb 1).trans d1
      go_wp2_with fail
      go_loopw [6, 27] (fun v i wr => ((i = .int .i64 0 ∧ wr.ownsRow w.heap.size 118 2 v 0 []) ∨ (i = .int .i64 1 ∧ wr.ownsRow w.heap.size 118 2 v n1 xs1) ∨ (i = .int .i64 2 ∧ wr.ownsRow w.heap.size 118 2 v (n1 + n2) (xs1 ++ xs2))) ∧ Below w.heap.size w wr) (fun _ i _ => 2 - (intOf i).toNat)
      case atStart => exact ⟨.inl ⟨rfl, ho1⟩, hb1⟩
      case round =>
        clear ho1 hb1 q0 q1
        obtain ⟨hrel, hbw⟩ := hrel
        have q0 := (keepC hbw b hb 0).trans d0
        have q1 := (keepC hbw b hb 1).trans d1
        rcases hrel with ⟨rfl, ho⟩ | ⟨rfl, ho⟩ | ⟨rfl, ho⟩
        · obtain ⟨A3, c3, rfl⟩ := own_slice ho
          go_wp2_with (at_builtin; refine wpl_append _ rfl (.tmp 31) (.tmp 32) _ rfl w.heap.size 118 i0 _ 2 24 Tryz.underlying92 hi hz0 hz1 hz2 rfl (by omega) _ 0 _ rfl ho w.heap.size A1 n1 c1 xs1 rfl (H1.out.below hbw) O1.out E1.out E2.out hbw.size ?_; intro v4 w4 ho4 hg4 hat4)
          go_roundw
          case rel =>
            rw [Nat.zero_add, List.nil_append] at ho4
            exact ⟨.inr (.inl ⟨rfl, ho4⟩), hbw.grown hg4 hbw.size fun g hg => (ho.lt g hg).1⟩
          case measure => simp [intOf]
        · obtain ⟨A3, c3, rfl⟩ := own_slice ho
          go_wp2_with (at_builtin; refine wpl_append _ rfl (.tmp 31) (.tmp 32) _ rfl w.heap.size 118 i0 _ 2 24 Tryz.underlying92 hi hz0 hz1 hz2 rfl (by omega) _ n1 _ rfl ho w.heap.size A2 n2 c2 xs2 rfl (H2.out.below hbw) O2.out E3.out E4.out hbw.size ?_; intro v4 w4 ho4 hg4 hat4)
          go_roundw
          case rel => exact ⟨.inr (.inr ⟨rfl, ho4⟩), hbw.grown hg4 hbw.size fun g hg => (ho.lt g hg).1⟩
          case measure => simp [intOf]
        · obtain ⟨A3, c3, rfl⟩ := own_slice ho
          go_wp2_with fail
          go_ret
          exact ⟨A3, c3, rfl, ho, hbw⟩
set_option maxRecDepth 100000 in
set_option maxHeartbeats 2000000 in
theorem concatS_c (b : Nat) (A1 : Option Addr) (n1 c1 : Nat) (A2 : Option Addr) (n2 c2 : Nat) (xs1 xs2 : List Value) (w : World) (h1 : Sl w w.heap.size 1 A1 n1 xs1) (h2 : Sl w w.heap.size 1 A2 n2 xs2) (d0 : w.cell? ⟨b, 0, none⟩ = some (.slice A1 n1 c1)) (d1 : w.cell? ⟨b, 1, none⟩ = some (.slice A2 n2 c2)) (hb : b < w.heap.size)
    (hn : 1 ≤ n1 + n2) (hm : n1 + n2 ≤ 1048576) (o1 : ∀ u ∈ xs1, u.oneCell' = true) (o2 : ∀ u ∈ xs2, u.oneCell' = true) :
    Calls Tryz.prog 117 #[.slice (some ⟨b, 0, none⟩) 2 2] w fun e w' => ∃ A c, e = .returned (.slice A (n1 + n2) c) ∧ w'.ownsRow w.heap.size 9 1 (.slice A (n1 + n2) c) (n1 + n2) (xs1 ++ xs2) ∧ Below w.heap.size w w' := by
  obtain ⟨i0, hi, hz0, hz1, hz2⟩ := info_parts strInfoC
  have e1 : 0 + n1 ≤ maxLen := by unfold maxLen; omega
  have e2 : (0 + n1) * 16 ≤ 140737488355328 := by omega
  have e3 : n1 + n2 ≤ maxLen := by unfold maxLen; omega
  have e4 : (n1 + n2) * 16 ≤ 140737488355328 := by omega
  have hG : Calls Tryz.prog 120 #[.slice none 0 0, .int .i64 ((n1 : Int) + (n2 : Int))] w fun e w' => ∃ g cap, e = .returned (.slice (some ⟨g, 0, none⟩) 0 cap) ∧ w'.ownsRow w.heap.size 9 1 (.slice (some ⟨g, 0, none⟩) 0 cap) 0 [] ∧ Below w.heap.size w w' := by
    have := growS_c (n1 + n2) w hn hm
    rwa [Int.natCast_add] at this
  have HG := Lib.hid hG; clear hG
  have E1 := Lib.hid e1; clear e1
  have E2 := Lib.hid e2; clear e2
  have E3 := Lib.hid e3; clear e3
  have E4 := Lib.hid e4; clear e4
  have O1 := Lib.hid o1; clear o1
  have O2 := Lib.hid o2; clear o2
  have H1 := Lib.hid h1; clear h1
  have H2 := Lib.hid h2; clear h2
  go_enter Tryz.func117, Tryz.ntmps117
  go_wp2_with fail
  go_loop [3, 11] (fun sz i => (i = .int .i64 0 ∧ sz = .int .i64 0) ∨ (i = .int .i64 1 ∧ sz = .int .i64 (n1 : Int)) ∨ (i = .int .i64 2 ∧ sz = .int .i64 ((n1 : Int) + (n2 : Int)))) (fun _ i => 2 - (intOf i).toNat)
  case atStart => exact .inl ⟨rfl, rfl⟩
  case round =>
    have i1 : (0 : Int) ≤ (n1 : Int) := by omega
    have i2 : (0 : Int) ≤ (n2 : Int) := by omega
    rcases hrel with ⟨rfl, rfl⟩ | ⟨rfl, rfl⟩ | ⟨rfl, rfl⟩
    · go_wp2_with fail
      go_round
      case rel => exact .inr (.inl ⟨rfl, by go_num⟩)
      case measure => simp [intOf]
    · go_wp2_with fail
      go_round
      case rel => exact .inr (.inr ⟨rfl, by go_num⟩)
      case measure => simp [intOf]
    · go_wp2_with fail
      refine HG.out.mono ?_
      rintro e w1 ⟨g, cap, rfl, ho1, hb1⟩
      have q0 := (keepC hb1 b hb 0).trans d0
      have q1 := (keepC hb1 b hb 1).trans d1
      go_wp2_with fail
      go_loopw [6, 27] (fun v i wr => ((i = .int .i64 0 ∧ wr.ownsRow w.heap.size 9 1 v 0 []) ∨ (i = .int .i64 1 ∧ wr.ownsRow w.heap.size 9 1 v n1 xs1) ∨ (i = .int .i64 2 ∧ wr.ownsRow w.heap.size 9 1 v (n1 + n2) (xs1 ++ xs2))) ∧ Below w.heap.size w wr) (fun _ i _ => 2 - (intOf i).toNat)
      case atStart => exact ⟨.inl ⟨rfl, ho1⟩, hb1⟩
      case round =>
        clear ho1 hb1 q0 q1
        obtain ⟨hrel, hbw⟩ := hrel
        have q0 := (keepC hbw b hb 0).trans d0
        have q1 := (keepC hbw b hb 1).trans d1
        rcases hrel with ⟨rfl, ho⟩ | ⟨rfl, ho⟩ | ⟨rfl, ho⟩
        · obtain ⟨A3, c3, rfl⟩ := own_slice ho
          go_wp2_with (at_builtin; refine wpl_append _ rfl (.tmp 31) (.tmp 32) _ rfl w.heap.size 9 i0 _ 1 16 Tryz.underlying71 hi hz0 hz1 hz2 rfl (by omega) _ 0 _ rfl ho w.heap.size A1 n1 c1 xs1 rfl (H1.out.below hbw) O1.out E1.out E2.out hbw.size ?_; intro v4 w4 ho4 hg4 hat4)
          go_roundw
          case rel =>
            rw [Nat.zero_add, List.nil_append] at ho4
            exact ⟨.inr (.inl ⟨rfl, ho4⟩), hbw.grown hg4 hbw.size fun g hg => (ho.lt g hg).1⟩
          case measure => simp [intOf]
        · obtain ⟨A3, c3, rfl⟩ := own_slice ho
          go_wp2_with (at_builtin; refine wpl_append _ rfl (.tmp 31) (.tmp 32) _ rfl w.heap.size 9 i0 _ 1 16 Tryz.underlying71 hi hz0 hz1 hz2 rfl (by omega) _ n1 _ rfl ho w.heap.size A2 n2 c2 xs2 rfl (H2.out.below hbw) O2.out E3.out E4.out hbw.size ?_; intro v4 w4 ho4 hg4 hat4)
          go_roundw
          case rel => exact ⟨.inr (.inr ⟨rfl, ho4⟩), hbw.grown hg4 hbw.size fun g hg => (ho.lt g hg).1⟩
          case measure => simp [intOf]
        · obtain ⟨A3, c3, rfl⟩ := own_slice ho
          go_wp2_with fail
          go_ret
          exact ⟨A3, c3, rfl, ho, hbw⟩
end Go.Proofs.YtgibbhipjpbdfaaGreat

/- The pattern of phases on the program's side: repeats, comparisons. -/
namespace Go.Proofs.YtgibbhipjpbdfaaGreat
open Go.RowKit
set_option maxRecDepth 100000 in
set_option maxHeartbeats 1000000 in
theorem repeats_c (A : Option Addr) (n c k : Nat) (B : List Int) (w : World) (h : Sl w w.heap.size 1 A n (B.flatMap nC)) (hi : inN B) (h1 : 1 ≤ n) (hm : n ≤ 200000) (hk : k ≤ n) :
    Calls Tryz.prog 116 #[.slice A n c, .int .i64 k] w fun e w' => e = .returned (.bool (cycB B k)) ∧ Below w.heap.size w w' := by
  have hl : B.length = n := h.len nC 1 nC_len (by omega)
  have Hl := Lib.hid hl; clear hl
  have Hi := Lib.hid hi; clear hi
  go_enter Tryz.func116, Tryz.ntmps116
  go_wp2_with fail
  go_loopw [8] (fun i wr => ∃ t : Nat, t ≤ n ∧ i = .int .i64 t ∧ Hid (∀ r, r < t → B[r]? = B[(r + k) % n]?) ∧ Below w.heap.size w wr) (fun i _ => n - (intOf i).toNat)
  case atStart => exact ⟨0, Nat.zero_le _, rfl, Lib.hid (fun r hr => absurd hr (by omega)), Below.refl _ _⟩
  case round =>
    obtain ⟨t, ht, rfl, Hs, hbw⟩ := hrel
    have t0 : (0 : Int) ≤ (t : Int) := by omega
    by_cases hlt : t < n
    · have t1 : (t : Int) < (n : Int) := by omega
      have m1 : (t + k) % n < n := Nat.mod_lt _ (by omega)
      have em1 : ((t : Int) + (k : Int)) % (n : Int) = (((t + k) % n : Nat) : Int) := by push_cast; rfl
      obtain ⟨b, off, x, rfl, hb, hx, c0⟩ := h.nm t hlt
      obtain ⟨b2, off2, y, e2, _, hy, c2⟩ := h.nm ((t + k) % n) m1
      injection e2 with e2; injection e2 with e3 e4 _
      subst e3 e4
      have xb := Hi.out x (List.mem_of_getElem? hx)
      have yb := Hi.out y (List.mem_of_getElem? hy)
      obtain ⟨r1, hr1⟩ : ∃ r, (t + k) % n = r := ⟨_, rfl⟩
      rw [hr1] at em1 m1 c2 hy
      have i2 : (0 : Int) ≤ (r1 : Int) := by omega
      have i3 : (r1 : Int) < (n : Int) := by omega
      have q0 := (keepC hbw b hb (off + t)).trans c0
      have q1 := (keepC hbw b hb (off + r1)).trans c2
      have hbq := name_beq xb yb
      have Hr1 := Lib.hid hr1; clear hr1
      have Hx := Lib.hid hx; clear hx
      have Hy := Lib.hid hy; clear hy
      clear c0 c2
      by_cases hxy : x = y
      · subst hxy
        rw [decide_eq_true rfl] at hbq
        go_wp2_with fail
        go_quiet (fail)
        go_wp2_with fail
        go_roundw
        case rel => exact ⟨t + 1, by omega, by go_num, Lib.hid (fun r hr => by
          rcases Nat.lt_or_ge r t with h2 | h2
          · exact Hs.out r h2
          · obtain rfl : r = t := by omega
            rw [Hr1.out, Hx.out, Hy.out]), below_drewN hbw _⟩
        case measure => simp [intOf]; omega
      · rw [decide_eq_false hxy] at hbq
        have hno : cycB B k = false := by
          rw [cycB]
          refine allB_no (k := t) (by rw [Hl.out]; exact hlt) (decide_eq_false fun e => hxy ?_)
          rw [Hl.out, Hr1.out, Hx.out, Hy.out] at e
          exact Option.some.inj e
        have Hno := Lib.hid hno; clear hno
        clear hxy
        go_wp2_with fail
        go_quiet (fail)
        go_wp2_with fail
        go_ret
        exact ⟨ret_eq (bool_eq Hno.out.symm), below_drewN hbw _⟩
    · obtain rfl : t = n := by omega
      have hyes : cycB B k = true := cyc_iff.2 fun i hi => by rw [Hl.out] at hi ⊢; exact Hs.out i hi
      have Hyes := Lib.hid hyes; clear hyes
      go_wp2_with fail
      go_ret
      exact ⟨ret_eq (bool_eq Hyes.out.symm), hbw⟩
theorem isNaNS_c (s : ByteArray) (w : World) : Calls Tryz.prog 121 #[.string s] w fun e w' => e = .returned (.bool false) ∧ w = w' := by
  have h : (s.toList == s.toList) = true := by simp
  go_enter Tryz.func121, Tryz.ntmps121
  go_wp2_with fail
  go_ret
  exact ⟨rfl, rfl⟩
set_option maxHeartbeats 1000000 in
theorem cmpName_c (x y : Int) (hx : 0 ≤ x ∧ x ≤ 255) (hy : 0 ≤ y ∧ y ≤ 255) (w : World) : Calls Tryz.prog 118 #[.string (nameC x), .string (nameC y)] w fun e w' => e = .returned (.int .i64 (if x < y then -1 else if x = y then 0 else 1)) ∧ w = w' := by
  have hb := name_beq hx hy
  have hl := name_less hx hy
  by_cases h1 : x < y
  · rw [if_pos h1]
    rw [decide_eq_true h1] at hl
    clear h1 hb
    go_enter Tryz.func118, Tryz.ntmps118
    go_wp2_with ((go_at_call 121; refine (isNaNS_c _ _).mono ?_; rintro e w1 ⟨rfl, rfl⟩))
    go_ret
    exact ⟨rfl, rfl⟩
  · rw [if_neg h1]
    rw [decide_eq_false h1] at hl
    by_cases h2 : x = y
    · rw [if_pos h2]
      rw [decide_eq_true h2] at hb
      clear h1 h2
      go_enter Tryz.func118, Tryz.ntmps118
      go_wp2_with ((go_at_call 121; refine (isNaNS_c _ _).mono ?_; rintro e w1 ⟨rfl, rfl⟩))
      go_ret
      exact ⟨rfl, rfl⟩
    · rw [if_neg h2]
      rw [decide_eq_false h2] at hb
      clear h1 h2
      go_enter Tryz.func118, Tryz.ntmps118
      go_wp2_with ((go_at_call 121; refine (isNaNS_c _ _).mono ?_; rintro e w1 ⟨rfl, rfl⟩))
      go_ret
      exact ⟨rfl, rfl⟩
set_option maxRecDepth 100000 in
set_option maxHeartbeats 1000000 in
theorem compareS_c (A1 : Option Addr) (n c1 : Nat) (X : List Int) (A2 : Option Addr) (c2 : Nat) (Y : List Int) (w : World) (h1 : Sl w w.heap.size 1 A1 n (X.flatMap nC)) (h2 : Sl w w.heap.size 1 A2 n (Y.flatMap nC)) (i1 : inN X) (i2 : inN Y) (hm : n ≤ 200000) :
    Calls Tryz.prog 107 #[.slice A1 n c1, .slice A2 n c2] w fun e w' => ∃ r : Int, e = .returned (.int .i64 r) ∧ decide (r < 0) = ltB X Y ∧ w = w' := by
  have l1 : X.length = n := h1.len nC 1 nC_len (by omega)
  have l2 : Y.length = n := h2.len nC 1 nC_len (by omega)
  have L1 := Lib.hid l1; clear l1
  have L2 := Lib.hid l2; clear l2
  have I1 := Lib.hid i1; clear i1
  have I2 := Lib.hid i2; clear i2
  go_enter Tryz.func107, Tryz.ntmps107
  go_wp2_with fail
  go_loop [11] (fun i => ∃ k : Nat, k ≤ n ∧ i = .int .i64 k ∧ Hid (∀ r, r < k → X[r]? = Y[r]?)) (fun i => n - (intOf i).toNat)
  case atStart => exact ⟨0, Nat.zero_le _, rfl, Lib.hid (fun r hr => absurd hr (by omega))⟩
  case round =>
    obtain ⟨k, hk, rfl, Hs⟩ := hrel
    have k0 : (0 : Int) ≤ (k : Int) := by omega
    by_cases hlt : k < n
    · have k1 : (k : Int) < (n : Int) := by omega
      obtain ⟨b, off, x, rfl, hb, hx, q0⟩ := h1.nm k hlt
      obtain ⟨b2, off2, y, rfl, _, hy, q1⟩ := h2.nm k hlt
      have xb := I1.out x (List.mem_of_getElem? hx)
      have yb := I2.out y (List.mem_of_getElem? hy)
      have hC := cmpName_c x y xb yb w
      by_cases hxy : x = y
      · subst hxy
        rw [if_neg (by omega), if_pos rfl] at hC
        have Hx := Lib.hid hx; clear hx
        have Hy := Lib.hid hy; clear hy
        have HC := Lib.hid hC; clear hC
        go_wp2_with fail
        refine HC.out.mono ?_
        rintro e w1 ⟨rfl, rfl⟩
        go_wp2_with fail
        go_round
        case rel => exact ⟨k + 1, by omega, by go_num, Lib.hid (fun r hr => by
          rcases Nat.lt_or_ge r k with h2 | h2
          · exact Hs.out r h2
          · obtain rfl : r = k := by omega
            rw [Hx.out, Hy.out])⟩
        case measure => simp [intOf]; omega
      · have hlb := lt_at Hs.out hx hy hxy
        by_cases hls : x < y
        · rw [if_pos hls] at hC
          rw [decide_eq_true hls] at hlb
          have Hx := Lib.hid hx; clear hx
          have Hy := Lib.hid hy; clear hy
          have HC := Lib.hid hC; clear hC
          have Hlb := Lib.hid hlb; clear hlb
          go_wp2_with fail
          refine HC.out.mono ?_
          rintro e w1 ⟨rfl, rfl⟩
          go_wp2_with fail
          go_ret
          exact ⟨-1, rfl, by rw [Hlb.out]; rfl, rfl⟩
        · rw [if_neg hls, if_neg hxy] at hC
          rw [decide_eq_false hls] at hlb
          have Hx := Lib.hid hx; clear hx
          have Hy := Lib.hid hy; clear hy
          have HC := Lib.hid hC; clear hC
          have Hlb := Lib.hid hlb; clear hlb
          go_wp2_with fail
          refine HC.out.mono ?_
          rintro e w1 ⟨rfl, rfl⟩
          go_wp2_with fail
          go_ret
          exact ⟨1, rfl, by rw [Hlb.out]; rfl, rfl⟩
    · obtain rfl : k = n := by omega
      have hls := lt_same Hs.out L1.out L2.out
      have Hls := Lib.hid hls; clear hls
      go_wp2_with fail
      go_ret
      exact ⟨0, rfl, by rw [Hls.out]; rfl, rfl⟩
end Go.Proofs.YtgibbhipjpbdfaaGreat

/- The pattern of phases on the program's side: tenths, one period, rotations, the normal pattern. -/
namespace Go.Proofs.YtgibbhipjpbdfaaGreat
open Go.RowKit
set_option maxRecDepth 100000 in
set_option maxHeartbeats 2000000 in
theorem tenths_c (A : Option Addr) (n c : Nat) (ps : List Ph) (w : World) (h : Sl w w.heap.size 2 A n (ps.flatMap Ph.cells)) (hm : n ≤ 200) (hb : ∀ p ∈ ps, 0 ≤ p.len ∧ p.len ≤ 600) (ho : ∀ p ∈ ps, okS p.c) :
    Calls Tryz.prog 115 #[.slice A n c] w fun e w' => ∃ v, e = .returned v ∧ w'.ownsRow w.heap.size 9 1 v (tenC ps).length ((tenC ps).flatMap nC) ∧ Below w.heap.size w w' := by
  obtain ⟨p0, hp, hy0, hy1, hy2⟩ := info_parts strInfoC
  have hl := h.len Ph.cells 2 Ph.cells_len (by omega)
  have hov : (w.alloc (.cells #[] 9)).ownsRow w.heap.size 9 1 (.slice (some ⟨w.heap.size, 0, none⟩) 0 0) 0 [] := World.ownsRow_made w #[] 0 (Nat.le_refl _) (by simp [maxLen]) rfl
  have hbv : Below w.heap.size w (w.alloc (.cells #[] 9)) := (Below.refl _ _).alloc (Nat.le_refl _) _
  have Hl := Lib.hid hl; clear hl
  have Hb := Lib.hid hb; clear hb
  have Ho := Lib.hid ho; clear ho
  go_enter Tryz.func115, Tryz.ntmps115
  go_wp2_with fail
  go_loopw [3, 9] (fun v i wr => ∃ k : Nat, k ≤ n ∧ i = .int .i64 k ∧ wr.ownsRow w.heap.size 9 1 v (tenC (ps.take k)).length ((tenC (ps.take k)).flatMap nC) ∧ Below w.heap.size w wr) (fun _ i _ => n - (intOf i).toNat)
  case atStart => exact ⟨0, Nat.zero_le _, rfl, hov, hbv⟩
  case round =>
    clear hov hbv
    obtain ⟨k, hk, rfl, hov, hbw⟩ := hrel
    by_cases hlt : k < n
    · obtain ⟨b, off, p, rfl, hb', hx, d0, d1⟩ := h.ph k hlt
      have q0 := (keepC hbw b hb' _).trans d0
      have q1 := (keepC hbw b hb' _).trans d1
      obtain ⟨l0, l1⟩ := Hb.out p (List.mem_of_getElem? hx)
      have hcd : nameC (code p.c) = p.c := name_code (Ho.out p (List.mem_of_getElem? hx))
      have hnx := tenC_next hx
      have hlen : (tenC (ps.take k)).length ≤ 600 * k := by
        have := tenC_len (ps := ps.take k) fun p hp => Hb.out p (List.mem_of_mem_take hp)
        rw [List.length_take] at this
        omega
      obtain ⟨B, hB⟩ : ∃ B, tenC (ps.take k) = B := ⟨_, rfl⟩
      rw [hB] at hov hnx hlen
      obtain ⟨cd, hcde⟩ : ∃ cd, code p.c = cd := ⟨_, rfl⟩
      rw [hcde] at hcd hnx
      rw [← hcd] at q0
      obtain ⟨A3, c3, rfl⟩ := own_slice hov
      obtain ⟨L, hL⟩ : ∃ L : Nat, p.len = L := ⟨p.len.toNat, by omega⟩
      rw [hL, Int.toNat_natCast] at hnx
      rw [hL] at q1 l1
      have hbX : Below wr.heap.size wr (wr.alloc (.cells #[.string (nameC cd), .int .i64 (L : Int)] 118)) := (Below.refl _ _).alloc (Nat.le_refl _) _
      have hoX := lit_own wr w.heap.size 118 #[.string (nameC cd), .int .i64 (L : Int)] 1 2 hbw.size (by decide) rfl
      have hoV := own_next hov hbX
      have hbx := hbw.trans (hbX.mono hbw.size)
      obtain ⟨wx, hwx⟩ : ∃ wx, wr.alloc (.cells #[.string (nameC cd), .int .i64 (L : Int)] 118) = wx := ⟨_, rfl⟩
      obtain ⟨g, hg⟩ : ∃ g, wr.heap.size = g := ⟨_, rfl⟩
      rw [hwx] at hoX hoV hbx
      rw [hg] at hoX
      have x0 := hoX.cellAt 0 (by omega)
      have x1 := hoX.cellAt 1 (by omega)
      simp only [List.getElem?_cons_zero, List.getElem?_cons_succ] at x0 x1
      have j0 : (0 : Int) ≤ (k : Int) := by omega
      have j1 : (k : Int) < (n : Int) := by omega
      have HB := Lib.hid hB; clear hB
      have Hx := Lib.hid hx; clear hx
      have HL := Lib.hid hL; clear hL
      have Hnx := Lib.hid hnx; clear hnx
      have Hcd := Lib.hid hcd; clear hcd
      have Hcde := Lib.hid hcde; clear hcde
      clear hov hbw hbX d0 d1
      go_wp2_with fail
      try rw [hwx]
      try rw [hg]
      clear hwx hg q0 q1 x0 x1
      go_loopw [3, 15] (fun v i wr2 => ∃ j : Nat, j ≤ L ∧ i = .int .i64 j ∧ wr2.ownsRow w.heap.size 9 1 v (B.length + j) ((B ++ List.replicate j cd).flatMap nC) ∧ wr2.ownsRow w.heap.size 118 2 (.slice (some ⟨g, 0, none⟩) 1 1) 1 [.string (nameC cd), .int .i64 (L : Int)] ∧ Below w.heap.size w wr2) (fun _ i _ => L - (intOf i).toNat)
      case atStart => exact ⟨0, Nat.zero_le _, rfl, by simpa using hoV, hoX, hbx⟩
      case round =>
        clear hoV hoX hbx
        obtain ⟨j, hj, rfl, hov, hoX, hbw⟩ := hrel
        obtain ⟨A3, c3, rfl⟩ := own_slice hov
        have x0 := hoX.cellAt 0 (by omega)
        have x1 := hoX.cellAt 1 (by omega)
        simp only [List.getElem?_cons_zero, List.getElem?_cons_succ] at x0 x1
        have i0 : (0 : Int) ≤ (j : Int) := by omega
        by_cases hlj : j < L
        · have i1 : (j : Int) < (L : Int) := by omega
          have e63 : B.length + j + 1 ≤ maxLen := by unfold maxLen; omega
          have e32 : (B.length + j + 1) * 16 ≤ 140737488355328 := by omega
          have E63 := Lib.hid e63; clear e63
          have E32 := Lib.hid e32; clear e32
          go_wp2_with (at_builtin; refine wpl_append _ rfl (.tmp 17) (.tmp 20) _ rfl w.heap.size 9 p0 _ 1 16 Tryz.underlying71 hp hy0 hy1 hy2 rfl (by omega) _ (B.length + j) _ rfl (hov.alloc _) (wr.heap.size + 1) (some ⟨wr.heap.size, 0, none⟩) 1 1 (nC cd) rfl (Sl.new wr 9 _ 1 1 rfl) (nC_one _) E63.out E32.out (le_alloc hbw.size _) ?_; intro v4 w4 ho4 hg4 hat4)
          go_roundw
          case rel =>
            have hoX2 := own_grown (hoX.alloc (.cells #[.string (nameC cd)] 9)) hg4 (own_ne (hoX.alloc (.cells #[.string (nameC cd)] 9)) (hov.alloc _) (by decide))
            refine ⟨j + 1, by omega, by go_num, ?_, hoX2, (hbw.alloc hbw.size _).grown hg4 (le_alloc hbw.size _) fun g hg => (hov.lt g hg).1⟩
            rw [List.replicate_succ', ← List.append_assoc, List.flatMap_append]
            simpa [Nat.add_assoc] using ho4
          case measure => simp [intOf]; omega
        · obtain rfl : j = L := by omega
          go_wp2_with fail
          go_roundw
          case rel =>
            refine ⟨k + 1, by omega, by go_num, ?_, hbw⟩
            rw [Hnx.out]
            simpa using hov
          case measure => simp [intOf]; omega
    · obtain rfl : k = n := by omega
      rw [List.take_of_length_le (by rw [Hl.out]; omega)] at hov
      obtain ⟨A3, c3, rfl⟩ := own_slice hov
      go_wp2_with fail
      go_ret
      exact ⟨_, rfl, hov, hbw⟩
set_option maxRecDepth 100000 in
set_option maxHeartbeats 2000000 in
theorem onePeriod_c (A : Option Addr) (n c : Nat) (ps : List Ph) (w : World) (h : Sl w w.heap.size 2 A n (ps.flatMap Ph.cells)) (hm : n ≤ 200) (hb : ∀ p ∈ ps, 0 ≤ p.len ∧ p.len ≤ 600) (ho : ∀ p ∈ ps, okS p.c) (h1 : 1 ≤ (tenC ps).length) :
    Calls Tryz.prog 105 #[.slice A n c] w fun e w' => ∃ A' m c', e = .returned (.slice A' m c') ∧ m = (onceB (tenC ps)).length ∧ m ≤ c' ∧ Sl w' w'.heap.size 1 A' m ((onceB (tenC ps)).flatMap nC) ∧ Below w.heap.size w w' := by
  have hl := h.len Ph.cells 2 Ph.cells_len (by omega)
  have hlen := tenC_len hb
  rw [hl] at hlen
  have hT := tenths_c A n c ps w h hm hb ho
  have hin := inN_ten ps
  obtain ⟨B, hB⟩ : ∃ B, tenC ps = B := ⟨_, rfl⟩
  rw [hB] at hlen h1 hT hin ⊢
  obtain ⟨L, hL⟩ : ∃ L, B.length = L := ⟨_, rfl⟩
  rw [hL] at hlen h1 hT
  have hpi := per_is (B := B) (by omega)
  have hol : (onceB B).length = perN B := by rw [onceB, List.length_take]; have := hpi.hi; omega
  obtain ⟨Q, hQ⟩ : ∃ Q, perN B = Q := ⟨_, rfl⟩
  rw [hQ] at hpi hol
  have hoc : onceB B = B.take Q := by rw [onceB, hQ]
  rw [hoc]
  rw [hoc] at hol
  have pl := hpi.lo
  have ph := hpi.hi
  rw [hL] at ph
  have HB := Lib.hid hB; clear hB
  have HL := Lib.hid hL; clear hL
  have HQ := Lib.hid hQ; clear hQ
  have Hpi := Lib.hid hpi; clear hpi
  have Hol := Lib.hid hol; clear hol
  have Hoc := Lib.hid hoc; clear hoc
  have HT := Lib.hid hT; clear hT
  have Hl := Lib.hid hl; clear hl
  have Hb := Lib.hid hb; clear hb
  have Ho := Lib.hid ho; clear ho
  have Hin := Lib.hid hin; clear hin
  go_enter Tryz.func105, Tryz.ntmps105
  go_wp2_with fail
  refine HT.out.mono ?_
  rintro e w1 ⟨v, rfl, ho1, hb1⟩
  obtain ⟨g, c1, rfl, hg, hg'⟩ := ho1.form h1
  have hcap := own_cap ho1
  have s1 := Sl.of_own ho1
  go_wp2_with fail
  go_loopw [4] (fun i wr => ∃ k : Nat, 1 ≤ k ∧ k ≤ Q ∧ i = .int .i64 k ∧ Below w1.heap.size w1 wr) (fun i _ => Q - (intOf i).toNat)
  case atStart => exact ⟨1, Nat.le_refl _, pl, rfl, Below.refl _ _⟩
  case round =>
    obtain ⟨k, hk1, hk, rfl, hbw⟩ := hrel
    have k0 : (1 : Int) ≤ (k : Int) := by omega
    have hR := repeats_c (some ⟨g, 0, none⟩) L c1 k B wr (s1.next hbw) Hin.out h1 (by omega) (by omega)
    by_cases hlt : k < Q
    · rw [Hpi.out.least k hk1 hlt] at hR
      have HR := Lib.hid hR; clear hR
      go_wp2_with fail
      refine HR.out.mono ?_
      rintro e w2 ⟨rfl, hb2⟩
      go_wp2_with fail
      go_roundw
      case rel => exact ⟨k + 1, by omega, by omega, by go_num, hbw.trans (hb2.mono hbw.size)⟩
      case measure => simp [intOf]; omega
    · obtain rfl : k = Q := by omega
      rw [Hpi.out.cyc] at hR
      have p3 : k ≤ c1 := by omega
      have p4 : c1 ≠ 0 := by omega
      have p5 : (0 : Int) ≤ (k : Int) := by omega
      have p6 : (k : Int) ≤ (c1 : Int) := by omega
      have HR := Lib.hid hR; clear hR
      go_wp2_with fail
      refine HR.out.mono ?_
      rintro e w2 ⟨rfl, hb2⟩
      go_wp2_with fail
      go_ret
      have hb3 := hbw.trans (hb2.mono hbw.size)
      have s2 := (s1.next hb3).pre nC 1 nC_len k (by omega)
      exact ⟨_, _, _, rfl, Hol.out.symm, p3, s2, hb1.trans (hb3.mono hb1.size)⟩
theorem drop_nC (B : List Int) (k : Nat) : (B.drop k).flatMap nC = (B.flatMap nC).drop k := by
  induction B generalizing k with
  | nil => simp
  | cons y ys ih =>
    cases k with
    | zero => rfl
    | succ k => rw [List.flatMap_cons, List.drop_succ_cons, ih]; rfl
/-- A slice of names from an index on. -/
theorem Sl.sufN {w : World} {Bk n : Nat} {b off : Nat} {B : List Int} (h : Sl w Bk 1 (some ⟨b, off, none⟩) n (B.flatMap nC)) (j : Nat) (hj : j ≤ n) : Sl w Bk 1 (some ⟨b, off + j, none⟩) (n - j) ((B.drop j).flatMap nC) := by
  have hl : B.length = n := h.len nC 1 nC_len (by omega)
  refine ⟨by rw [flat_len nC 1 nC_len, List.length_drop, hl], fun hpos => ?_⟩
  obtain ⟨b', off', e, hlt, hc⟩ := h.2 (by omega)
  injection e with e
  injection e with e1 e2 _
  subst e1 e2
  refine ⟨b, off + j, rfl, hlt, fun q u hu => ?_⟩
  have hd := drop_nC B j
  rw [hd, List.getElem?_drop] at hu
  have := hc (j + q) u hu
  rwa [← Nat.add_assoc] at this
theorem nC_ones (B : List Int) : ∀ u ∈ B.flatMap nC, u.oneCell' = true := fun u hu => by
  obtain ⟨b, _, hb⟩ := List.mem_flatMap.1 hu
  exact nC_one b u hb
set_option maxRecDepth 100000 in
set_option maxHeartbeats 2000000 in
theorem rotated_c (b off n c t : Nat) (B : List Int) (w : World) (h : Sl w w.heap.size 1 (some ⟨b, off, none⟩) n (B.flatMap nC)) (hc : n ≤ c) (ht : t < n) (hm : n ≤ 200000) :
    Calls Tryz.prog 106 #[.slice (some ⟨b, off, none⟩) n c, .int .i64 t] w fun e w' => ∃ A c', e = .returned (.slice A n c') ∧ w'.ownsRow w.heap.size 9 1 (.slice A n c') n ((rotB B t).flatMap nC) ∧ Below w.heap.size w w' := by
  have s1 := h.sufN t (by omega)
  have s2 := h.pre nC 1 nC_len t (by omega)
  have hnn : n - t + t = n := by omega
  have t0 : (0 : Int) ≤ (t : Int) := by omega
  have t1 : (t : Int) ≤ (n : Int) := by omega
  have t2 : (t : Int) ≤ (c : Int) := by omega
  have t3 : ¬ c = t := by omega
  have t4 : t ≤ n := by omega
  have t5 : t ≤ c := by omega
  have hrot : (B.drop t).flatMap nC ++ (B.take t).flatMap nC = (rotB B t).flatMap nC := by rw [rotB, List.flatMap_append]
  have S1 := Lib.hid s1; clear s1
  have S2 := Lib.hid s2; clear s2
  have Hnn := Lib.hid hnn; clear hnn
  have Hrot := Lib.hid hrot; clear hrot
  have H := Lib.hid h; clear h
  go_enter Tryz.func106, Tryz.ntmps106
  go_wp2_with fail
  have e1 : ∀ {w' : World}, Below w.heap.size w w' → Below w.heap.size w w' := fun h => h
  refine wp_region_held_drew (S := fun w' => Below w.heap.size w w') (by kernel_rfl) (e1 (Below.refl _ _).drew) (fun hHeld => ?_)
  (first
    | (refine wpAnyH_take (i := 0) (v := ?_) rfl (by kernel_rfl) (by kernel_rfl) (by kernel_rfl) (fun _ _ _ h => h) (Or.inl ⟨by rfl, ?_⟩) (by assumption) ?_
       rotate_left
       focus (intro wq hSq; (try dsimp only at hSq); go_simp; (try (with_reducible rfl)); done))
    | (refine wpAnyH_take (i := 0) (v := undef) rfl (by kernel_rfl) (by kernel_rfl) (by kernel_rfl) (fun _ _ _ h => h) (Or.inr ⟨by rfl, rfl⟩) (by assumption) ?_)
    | fail "take 0")
  try simp only [Act.put, List.setIfInBounds_toArray, List.set_cons_zero, List.set_cons_succ, List.getElem_toArray, List.getElem_cons_zero]
  (first
    | (refine wpAnyH_take (i := 1) (v := ?_) rfl (by kernel_rfl) (by kernel_rfl) (by kernel_rfl) (fun _ _ _ h => h) (Or.inl ⟨by rfl, ?_⟩) (by assumption) ?_
       rotate_left
       focus (intro wq hSq; (try dsimp only at hSq); go_simp; (try (with_reducible rfl)); done))
    | (refine wpAnyH_take (i := 1) (v := undef) rfl (by kernel_rfl) (by kernel_rfl) (by kernel_rfl) (fun _ _ _ h => h) (Or.inr ⟨by rfl, rfl⟩) (by assumption) ?_)
    | fail "take 1")
  try simp only [Act.put, List.setIfInBounds_toArray, List.set_cons_zero, List.set_cons_succ, List.getElem_toArray, List.getElem_cons_zero, List.getElem_cons_succ]
  (first
    | (refine wpAnyH_take (i := 2) (v := ?_) rfl (by kernel_rfl) (by kernel_rfl) (by kernel_rfl) (fun _ _ _ h => h) (Or.inl ⟨by rfl, ?_⟩) (by assumption) ?_
       rotate_left
       focus (intro wq hSq; (try dsimp only at hSq); go_simp; (try (with_reducible rfl)); done))
    | (refine wpAnyH_take (i := 2) (v := undef) rfl (by kernel_rfl) (by kernel_rfl) (by kernel_rfl) (fun _ _ _ h => h) (Or.inr ⟨by rfl, rfl⟩) (by assumption) ?_)
    | fail "take 2")
  try simp only [Act.put, List.setIfInBounds_toArray, List.set_cons_zero, List.set_cons_succ, List.getElem_toArray, List.getElem_cons_zero, List.getElem_cons_succ]
  (first
    | (refine wpAnyH_take (i := 3) (v := ?_) rfl (by kernel_rfl) (by kernel_rfl) (by kernel_rfl) (fun _ _ _ h => h) (Or.inl ⟨by rfl, ?_⟩) (by assumption) ?_
       rotate_left
       focus (intro wq hSq; (try dsimp only at hSq); go_simp; (try (with_reducible rfl)); done))
    | (refine wpAnyH_take (i := 3) (v := undef) rfl (by kernel_rfl) (by kernel_rfl) (by kernel_rfl) (fun _ _ _ h => h) (Or.inr ⟨by rfl, rfl⟩) (by assumption) ?_)
    | fail "take 3")
  try simp only [Act.put, List.setIfInBounds_toArray, List.set_cons_zero, List.set_cons_succ, List.getElem_toArray, List.getElem_cons_zero, List.getElem_cons_succ]
  (first
    | (refine wpAnyH_take (i := 4) (v := ?_) rfl (by kernel_rfl) (by kernel_rfl) (by kernel_rfl) (fun _ _ _ h => h) (Or.inl ⟨by rfl, ?_⟩) (by assumption) ?_
       rotate_left
       focus (intro wq hSq; (try dsimp only at hSq); go_simp; (try (with_reducible rfl)); done))
    | (refine wpAnyH_take (i := 4) (v := undef) rfl (by kernel_rfl) (by kernel_rfl) (by kernel_rfl) (fun _ _ _ h => h) (Or.inr ⟨by rfl, rfl⟩) (by assumption) ?_)
    | fail "take 4")
  try simp only [Act.put, List.setIfInBounds_toArray, List.set_cons_zero, List.set_cons_succ, List.getElem_toArray, List.getElem_cons_zero, List.getElem_cons_succ]
  (first
    | (refine wpAnyH_take (i := 5) (v := ?_) rfl (by kernel_rfl) (by kernel_rfl) (by kernel_rfl) (fun _ _ _ h => h) (Or.inl ⟨by rfl, ?_⟩) (by assumption) ?_
       rotate_left
       focus (intro wq hSq; (try dsimp only at hSq); go_simp; (try (with_reducible rfl)); done))
    | (refine wpAnyH_take (i := 5) (v := undef) rfl (by kernel_rfl) (by kernel_rfl) (by kernel_rfl) (fun _ _ _ h => h) (Or.inr ⟨by rfl, rfl⟩) (by assumption) ?_)
    | fail "take 5")
  try simp only [Act.put, List.setIfInBounds_toArray, List.set_cons_zero, List.set_cons_succ, List.getElem_toArray, List.getElem_cons_zero, List.getElem_cons_succ]
  have hbA : Below w.heap.size w (w.drew.alloc (.cells #[.slice (some ⟨b, off + t, none⟩) (n - t) (c - t), .slice (some ⟨b, off, none⟩) t c] 71)) := (Below.refl _ _).drew.alloc (Nat.le_refl _) _
  have hal := heap_alloc_new w.drew (.cells #[.slice (some ⟨b, off + t, none⟩) (n - t) (c - t), .slice (some ⟨b, off, none⟩) t c] 71)
  refine wpAnyH_ready (rs := [6]) (by kernel_rfl) (by simp) ?_
  refine AllReadyH.cons (o := _) rfl (fun K hK => ?_) AllReadyH.nil
  go_simp
  skip
  refine hK.out _ _ ?_ (fun hHeld => ?_)
  · exact e1 (by (repeat (first | (with_reducible assumption) | (with_reducible exact Below.refl _ _) | exact Nat.le_refl _ | exact Below.size (by with_reducible assumption) | (with_reducible refine Below.drew ?_) | (with_reducible refine below_drewN ?_ _) | (with_reducible refine Below.alloc ?_ ?_ _) | (with_reducible refine Below.setCell ?_ ?_ _) | (with_reducible refine le_alloc ?_ _) | (with_reducible refine le_set ?_ _ _) | (with_reducible refine le_drew ?_) | (with_reducible refine le_drewN ?_ _) | omega | (dsimp only; omega))))
  clear hK K
  try simp only [Act.put, List.setIfInBounds_toArray, List.set_cons_zero, List.set_cons_succ, List.getElem_toArray, List.getElem_cons_zero, List.getElem_cons_succ]
  have hC := concatS_c w.heap.size (some ⟨b, off + t, none⟩) (n - t) (c - t) (some ⟨b, off, none⟩) t c _ _ _ (S1.out.next hbA) (S2.out.next hbA) ((cell_of_row _ w.heap.size 0 _ _ _ hal).trans rfl) ((cell_of_row _ w.heap.size 1 _ _ _ hal).trans rfl) (by simp) (by omega) (by omega) (nC_ones _) (nC_ones _)
  rw [Hnn.out, Hrot.out] at hC
  refine wpAnyH_ready (rs := [7]) (by kernel_rfl) (by simp) ?_
  refine AllReadyH.cons (o := _) rfl (fun K hK => ?_) AllReadyH.nil
  go_simp
  refine hC.mono ?_; rintro e w2 ⟨A2, c2, rfl, ho2, hb2⟩; have hb12 : Below w.heap.size w w2 := hbA.trans (hb2.mono hbA.size)
  refine hK.out _ _ ?_ (fun hHeld => ?_)
  · exact e1 hb12
  clear hK K
  try simp only [Act.put, List.setIfInBounds_toArray, List.set_cons_zero, List.set_cons_succ, List.getElem_toArray, List.getElem_cons_zero, List.getElem_cons_succ]
  (first
    | (refine wpAnyH_take (i := 8) (v := ?_) rfl (by kernel_rfl) (by kernel_rfl) (by kernel_rfl) (fun _ _ _ h => h) (Or.inl ⟨by rfl, ?_⟩) (by assumption) ?_
       rotate_left
       focus (intro wq hSq; (try dsimp only at hSq); go_simp; (try (with_reducible rfl)); done))
    | (refine wpAnyH_take (i := 8) (v := undef) rfl (by kernel_rfl) (by kernel_rfl) (by kernel_rfl) (fun _ _ _ h => h) (Or.inr ⟨by rfl, rfl⟩) (by assumption) ?_)
    | fail "take 8")
  try simp only [Act.put, List.setIfInBounds_toArray, List.set_cons_zero, List.set_cons_succ, List.getElem_toArray, List.getElem_cons_zero, List.getElem_cons_succ]
  refine wpAnyH_done (by kernel_rfl) ?_ _
  have ho3 := own_base ho2 hbA.size
  clear hC ho2 hHeld hal
  go_wp2_with fail
  go_ret
  exact ⟨A2, c2, rfl, ho3, hb12⟩
end Go.Proofs.YtgibbhipjpbdfaaGreat

/- The pattern of phases on the program's side: the normal pattern, runs. -/
namespace Go.Proofs.YtgibbhipjpbdfaaGreat
open Go.RowKit
set_option maxRecDepth 100000 in
set_option maxHeartbeats 2000000 in
theorem normal_c (A : Option Addr) (n c : Nat) (ps : List Ph) (w : World) (h : Sl w w.heap.size 2 A n (ps.flatMap Ph.cells)) (hm : n ≤ 200) (hb : ∀ p ∈ ps, 0 ≤ p.len ∧ p.len ≤ 600) (ho : ∀ p ∈ ps, okS p.c) (h1 : 1 ≤ (tenC ps).length) :
    Calls Tryz.prog 93 #[.slice A n c] w fun e w' => ∃ A' m c', e = .returned (.slice A' m c') ∧ m = (onceB (tenC ps)).length ∧ Sl w' w'.heap.size 1 A' m ((normB (onceB (tenC ps))).flatMap nC) ∧ Below w.heap.size w w' := by
  have hl := h.len Ph.cells 2 Ph.cells_len (by omega)
  have hlen := tenC_len hb
  rw [hl] at hlen
  have hP := onePeriod_c A n c ps w h hm hb ho h1
  have hon := once_len h1
  have hin : inN (onceB (tenC ps)) := inN_take (inN_ten ps) _
  obtain ⟨O, hO⟩ : ∃ O, onceB (tenC ps) = O := ⟨_, rfl⟩
  rw [hO] at hP hin hon ⊢
  obtain ⟨m, hmO⟩ : ∃ m, O.length = m := ⟨_, rfl⟩
  rw [hmO] at hP hon ⊢
  have m1 := hon.1
  have m2 : m ≤ 120000 := by omega
  have hbn := best_norm (B := O) (by omega)
  rw [hmO] at hbn
  clear hon hlen
  have HO := Lib.hid hO; clear hO
  have HmO := Lib.hid hmO; clear hmO
  have HP := Lib.hid hP; clear hP
  have Hin := Lib.hid hin; clear hin
  have Hbn := Lib.hid hbn; clear hbn
  have Hl := Lib.hid hl; clear hl
  have Hb := Lib.hid hb; clear hb
  have Ho := Lib.hid ho; clear ho
  have H1 := Lib.hid h1; clear h1
  go_enter Tryz.func93, Tryz.ntmps93
  go_wp2_with fail
  refine HP.out.mono ?_
  rintro e w1 ⟨A1, m', c1, rfl, rfl, hmc, s1, hb1⟩
  obtain ⟨b, off, rfl⟩ : ∃ b off, A1 = some ⟨b, off, none⟩ := by
    obtain ⟨b, off, x, e, _⟩ := s1.nm 0 (by omega)
    exact ⟨b, off, e⟩
  go_wp2_with fail
  go_loopw [4, 12] (fun v i wr => ∃ (t : Nat) (A2 : Option Addr) (c2 : Nat), t ≤ m' ∧ i = .int .i64 t ∧ v = .slice A2 m' c2 ∧ Sl wr wr.heap.size 1 A2 m' ((bestN O t).flatMap nC) ∧ Below w1.heap.size w1 wr) (fun _ i _ => m' - (intOf i).toNat)
  case atStart => exact ⟨0, _, _, Nat.zero_le _, rfl, rfl, s1, Below.refl _ _⟩
  case round =>
    obtain ⟨t, A2, c2, ht, rfl, rfl, s2, hbw⟩ := hrel
    have t0 : (0 : Int) ≤ (t : Int) := by omega
    by_cases hlt : t < m'
    · have t1 : (t : Int) < (m' : Int) := by omega
      have k1 : (t + m' - 1) % m' < m' := Nat.mod_lt _ (by omega)
      have em1 : ((t : Int) + (m' : Int) - 1) % (m' : Int) = (((t + m' - 1) % m' : Nat) : Int) := by
        rw [Int.natCast_emod]; congr 1; omega
      obtain ⟨b1, off1, x, e1, hb1', hx, d0⟩ := s1.nm t hlt
      obtain ⟨b2, off2, y, e2, _, hy, d1⟩ := s1.nm ((t + m' - 1) % m') k1
      injection e1 with e1; injection e1 with e3 e4 _
      injection e2 with e2; injection e2 with e5 e6 _
      subst e3 e4 e5 e6
      have xb := Hin.out x (List.mem_of_getElem? hx)
      have yb := Hin.out y (List.mem_of_getElem? hy)
      have hnx := bestN_next O t
      rw [HmO.out, hx, hy] at hnx
      obtain ⟨r1, hr1⟩ : ∃ r, (t + m' - 1) % m' = r := ⟨_, rfl⟩
      rw [hr1] at em1 k1 d1
      have i2 : (0 : Int) ≤ (r1 : Int) := by omega
      have i3 : (r1 : Int) < (m' : Int) := by omega
      have q0 := (keepC hbw b hb1' (off + t)).trans d0
      have q1 := (keepC hbw b hb1' (off + r1)).trans d1
      have hbq := name_beq xb yb
      have Hr1 := Lib.hid hr1; clear hr1
      have Hx := Lib.hid hx; clear hx
      have Hy := Lib.hid hy; clear hy
      clear d0 d1
      by_cases hxy : x = y
      · rw [if_pos (by rw [hxy])] at hnx
        rw [decide_eq_true hxy] at hbq
        have Hnx := Lib.hid hnx; clear hnx
        clear hxy
        go_wp2_with fail
        go_quiet (fail)
        go_wp2_with fail
        go_roundw
        case rel => exact ⟨t + 1, A2, c2, by omega, by go_num, rfl, by rw [Hnx.out]; exact s2.next (below_drewN (Below.refl _ _) _), below_drewN hbw _⟩
        case measure => simp [intOf]; omega
      · rw [if_neg (fun e => hxy (Option.some.inj e))] at hnx
        rw [decide_eq_false hxy] at hbq
        clear hxy
        have hR : ∀ q, Calls Tryz.prog 106 #[.slice (some ⟨b, off, none⟩) m' c1, .int .i64 t] (wr.drewN q) fun e w' => ∃ A c', e = .returned (.slice A m' c') ∧ w'.ownsRow wr.heap.size 9 1 (.slice A m' c') m' ((rotB O t).flatMap nC) ∧ Below wr.heap.size wr w' := fun q => by
          refine (rotated_c b off m' c1 t O (wr.drewN q) ((s1.next hbw).keep fun _ _ => rfl) hmc hlt (by omega)).mono ?_
          rintro e w' ⟨A, c', h1, h2, h3⟩
          exact ⟨A, c', h1, h2, (below_drewN (Below.refl wr.heap.size wr) q).trans h3⟩
        have hbi := bestN_in Hin.out (by rw [HmO.out]; omega) t (by rw [HmO.out]; omega)
        have hri := inN_rot Hin.out t
        have Hnx := Lib.hid hnx; clear hnx
        have HR := Lib.hid hR; clear hR
        have Hbi := Lib.hid hbi; clear hbi
        have Hri := Lib.hid hri; clear hri
        go_wp2_with fail
        go_quiet (fail)
        go_wp2_with fail
        refine (HR.out _).mono ?_
        rintro e w4 ⟨A4, c4, rfl, ho4, hb4⟩
        have s4 := Sl.of_own ho4
        have hC := compareS_c A4 m' c4 (rotB O t) A2 c2 (bestN O t) w4 s4 (s2.next hb4) Hri.out Hbi.out (by omega)
        have hbw4 := hbw.trans (hb4.mono hbw.size)
        have s24 := s2.next hb4
        have HC := Lib.hid hC; clear hC
        have S4 := Lib.hid s4; clear s4
        have S24 := Lib.hid s24; clear s24
        clear ho4 hb4 s2
        go_wp2_with fail
        refine HC.out.mono ?_
        rintro e w5 ⟨r, rfl, hr, rfl⟩
        by_cases hr0 : r < 0
        · have hL : ltB (rotB O t) (bestN O t) = true := by rw [← hr]; exact decide_eq_true hr0
          have HL := Lib.hid hL; clear hL
          clear hr
          go_wp2_with fail
          go_roundw
          case rel => exact ⟨t + 1, A4, c4, by omega, by go_num, rfl, by rw [Hnx.out, if_pos HL.out]; exact S4.out, hbw4⟩
          case measure => simp [intOf]; omega
        · have hL : ltB (rotB O t) (bestN O t) = false := by rw [← hr]; exact decide_eq_false hr0
          have HL := Lib.hid hL; clear hL
          clear hr
          go_wp2_with fail
          go_roundw
          case rel => exact ⟨t + 1, A2, c2, by omega, by go_num, rfl, by rw [Hnx.out, if_neg (by rw [HL.out]; simp)]; exact S24.out, hbw4⟩
          case measure => simp [intOf]; omega
    · obtain rfl : t = m' := by omega
      rw [Hbn.out] at s2
      go_wp2_with fail
      go_ret
      exact ⟨_, _, _, rfl, rfl, s2, hb1.trans (hbw.mono hb1.size)⟩
set_option maxRecDepth 100000 in
set_option maxHeartbeats 2000000 in
theorem join_c (A : Option Addr) (n c : Nat) (B : List Int) (w : World) (h : Sl w w.heap.size 1 A n (B.flatMap nC)) (hm : n ≤ 200000) (hbb : inN B) :
    Calls Tryz.prog 92 #[.slice A n c] w fun e w' => ∃ v, e = .returned v ∧ w'.ownsRow w.heap.size 118 2 v (joinB B).length (runC (joinB B)) ∧ Below w.heap.size w w' := by
  obtain ⟨p0, hp, hy0, hy1, hy2⟩ := info_parts phInfo'
  have hl : B.length = n := h.len nC 1 nC_len (by omega)
  have hov : (w.alloc (.cells #[] 118)).ownsRow w.heap.size 118 2 (.slice (some ⟨w.heap.size, 0, none⟩) 0 0) 0 [] := World.ownsRow_made w #[] 0 (Nat.le_refl _) (by simp [maxLen]) rfl
  have hbv : Below w.heap.size w (w.alloc (.cells #[] 118)) := (Below.refl _ _).alloc (Nat.le_refl _) _
  have Hl := Lib.hid hl; clear hl
  have Hbb := Lib.hid hbb; clear hbb
  go_enter Tryz.func92, Tryz.ntmps92
  go_wp2_with fail
  go_loopw [3, 10] (fun v i wr => ∃ k : Nat, k ≤ n ∧ i = .int .i64 k ∧ wr.ownsRow w.heap.size 118 2 v (joinB (B.take k)).length (runC (joinB (B.take k))) ∧ Below w.heap.size w wr) (fun _ i _ => n - (intOf i).toNat)
  case atStart => exact ⟨0, Nat.zero_le _, rfl, hov, hbv⟩
  case round =>
    clear hov hbv
    obtain ⟨k, hk, rfl, hov, hbw⟩ := hrel
    have i0 : (0 : Int) ≤ (k : Int) := by omega
    by_cases hlt : k < n
    · have i1 : (k : Int) < (n : Int) := by omega
      obtain ⟨b, off, x, rfl, hb, hx, d0⟩ := h.nm k hlt
      have q0 := (keepC hbw b hb (off + k)).trans d0
      have hxb := Hbb.out x (List.mem_of_getElem? hx)
      have hnx := join_next hx
      have hjl := join_len B k (by rw [Hl.out]; exact hk)
      have hjb := join_bd B k (by rw [Hl.out]; exact hk)
      obtain ⟨D, hD⟩ : ∃ D, joinB (B.take k) = D := ⟨_, rfl⟩
      rw [hD] at hov hnx hjl hjb
      have hjb' : ∀ d ∈ D, (0 ≤ d.1 ∧ d.1 ≤ 255) ∧ 1 ≤ d.2 ∧ d.2 ≤ (k : Int) := fun d hd => ⟨Hbb.out _ (hjb d hd).1, (hjb d hd).2⟩
      clear hjb d0
      have Hx := Lib.hid hx; clear hx
      have HD := Lib.hid hD; clear hD
      rcases D.eq_nil_or_concat with h0 | ⟨D', d, h0⟩
      · have hD2 : joinB (B.take (k + 1)) = D ++ [(x, 1)] := by rw [hnx, h0]; rfl
        have hl0 : D.length = 0 := by rw [h0]; rfl
        obtain ⟨m, hm0⟩ : ∃ m, D.length = m := ⟨_, rfl⟩
        rw [hm0] at hov hl0
        subst hl0
        obtain ⟨A3, c3, rfl⟩ := own_slice hov
        have HD2 := Lib.hid hD2; clear hD2
        have Hm0 := Lib.hid hm0; clear hm0
        clear hnx h0
        have e63 : 0 + 1 ≤ maxLen := by unfold maxLen; omega
        have e32 : (0 + 1) * 24 ≤ 140737488355328 := by omega
        have E63 := Lib.hid e63; clear e63
        have E32 := Lib.hid e32; clear e32
        go_wp2_with (at_builtin; refine wpl_append _ rfl (.tmp 37) (.tmp 40) _ rfl w.heap.size 118 p0 _ 2 24 Tryz.underlying92 hp hy0 hy1 hy2 rfl (by omega) _ 0 _ rfl (hov.alloc _) (wr.heap.size + 1) (some ⟨wr.heap.size, 0, none⟩) 1 1 [.string (nameC x), .int .i64 1] rfl (Sl.new wr 118 _ 1 2 rfl) (phC_one' (toPh (x, 1))) E63.out E32.out (le_alloc hbw.size _) ?_; intro v2 w2 ho2 hg2 hat2)
        go_roundw
        case rel =>
          refine ⟨k + 1, by omega, by go_num, ?_, (hbw.alloc hbw.size _).grown hg2 (le_alloc hbw.size _) fun g hg => (hov.lt g hg).1⟩
          rw [HD2.out, runC_app, List.length_append, Hm0.out]
          exact ho2
        case measure => simp [intOf]; omega
      · rw [List.concat_eq_append] at h0
        obtain ⟨d1, d2⟩ := d
        have hdb := hjb' (d1, d2) (by rw [h0]; simp)
        obtain ⟨⟨z0, z1⟩, z2, z3⟩ := hdb
        dsimp only at z0 z1 z2 z3
        obtain ⟨l, hl1⟩ : ∃ l, D'.length = l := ⟨_, rfl⟩
        have hml : D.length = l + 1 := by rw [h0, ← hl1]; simp
        obtain ⟨m, hm0⟩ : ∃ m, D.length = m := ⟨_, rfl⟩
        rw [hm0] at hov hml hjl
        have em : (m : Int) - 1 = (l : Int) := by omega
        have em2 : IntKind.i64.wrap ((m : Int) - 1) = (l : Int) := by rw [IntWalk.i64_in _ (by omega)]; omega
        have g0 : (0 : Int) < (m : Int) := by omega
        have g00 : 0 < m := by omega
        have g1 : (0 : Int) ≤ (l : Int) := by omega
        have g2 : (l : Int) < (m : Int) := by omega
        obtain ⟨g, c3, rfl, hg, hg'⟩ := hov.form (by omega)
        have y0 := hov.cellAt (l * 2) (by omega)
        have y1 := hov.cellAt (l * 2 + 1) (by omega)
        have y2 := hov.frozenAt (l * 2 + 1)
        rw [h0, runC_app, List.getElem?_append_right (by rw [runC_len, hl1]; omega), runC_len, hl1, show l * 2 - l * 2 = 0 by omega] at y0
        rw [h0, runC_app, List.getElem?_append_right (by rw [runC_len, hl1]; omega), runC_len, hl1, show l * 2 + 1 - l * 2 = 1 by omega] at y1
        simp only [List.getElem?_cons_zero, List.getElem?_cons_succ] at y0 y1
        have hbq := name_beq ⟨z0, z1⟩ hxb
        have Hml := Lib.hid hml; clear hml
        by_cases hc : d1 = x
        · have hD2 : joinB (B.take (k + 1)) = D' ++ [(x, d2 + 1)] := by rw [hnx, h0, jstep]; simp [hc]
          rw [decide_eq_true hc] at hbq
          subst hc
          have hst := hov.stored (l * 2 + 1) (.int .i64 (d2 + 1))
          rw [h0, ← hl1, runC_set, hl1] at hst
          have HD2 := Lib.hid hD2; clear hD2
          have Hm0 := Lib.hid hm0; clear hm0
          have Hl1 := Lib.hid hl1; clear hl1
          have H0 := Lib.hid h0; clear h0
          have Hst := Lib.hid hst; clear hst
          clear hnx
          go_wp2_with fail
          go_roundw
          case rel =>
            refine ⟨k + 1, by omega, by go_num, ?_, by (repeat (first | (with_reducible assumption) | (with_reducible exact Below.refl _ _) | exact Nat.le_refl _ | exact Below.size (by with_reducible assumption) | (with_reducible refine Below.drew ?_) | (with_reducible refine below_drewN ?_ _) | (with_reducible refine Below.alloc ?_ ?_ _) | (with_reducible refine Below.setCell ?_ ?_ _) | (with_reducible refine le_alloc ?_ _) | (with_reducible refine le_set ?_ _ _) | (with_reducible refine le_drew ?_) | (with_reducible refine le_drewN ?_ _) | omega | (dsimp only; omega)))⟩
            rw [HD2.out, List.length_append, Hl1.out, show l + [(d1, d2 + 1)].length = m by have := Hml.out; simp; omega]
            exact Hst.out.1
          case measure => simp [intOf]; omega
        · have hD2 : joinB (B.take (k + 1)) = D ++ [(x, 1)] := by rw [hnx, h0, jstep]; simp [hc]
          rw [decide_eq_false hc] at hbq
          have HD2 := Lib.hid hD2; clear hD2
          have Hm0 := Lib.hid hm0; clear hm0
          have Hl1 := Lib.hid hl1; clear hl1
          have H0 := Lib.hid h0; clear h0
          clear hnx hc
          have e63 : m + 1 ≤ maxLen := by unfold maxLen; omega
          have e32 : (m + 1) * 24 ≤ 140737488355328 := by omega
          have E63 := Lib.hid e63; clear e63
          have E32 := Lib.hid e32; clear e32
          go_wp2_with (at_builtin; refine wpl_append _ rfl (.tmp 37) (.tmp 40) _ rfl w.heap.size 118 p0 _ 2 24 Tryz.underlying92 hp hy0 hy1 hy2 rfl (by omega) _ m _ rfl (hov.alloc _) (wr.heap.size + 1) (some ⟨wr.heap.size, 0, none⟩) 1 1 [.string (nameC x), .int .i64 1] rfl (Sl.new wr 118 _ 1 2 rfl) (phC_one' (toPh (x, 1))) E63.out E32.out (le_alloc hbw.size _) ?_; intro v2 w2 ho2 hg2 hat2)
          go_roundw
          case rel =>
            refine ⟨k + 1, by omega, by go_num, ?_, (hbw.alloc hbw.size _).grown hg2 (le_alloc hbw.size _) fun g hg => (hov.lt g hg).1⟩
            rw [HD2.out, runC_app, List.length_append, Hm0.out]
            exact ho2
          case measure => simp [intOf]; omega
    · obtain rfl : k = n := by omega
      rw [List.take_of_length_le (by rw [Hl.out]; omega)] at hov
      obtain ⟨A3, c3, rfl⟩ := own_slice hov
      go_wp2_with fail
      go_ret
      exact ⟨_, rfl, hov, hbw⟩
end Go.Proofs.YtgibbhipjpbdfaaGreat

/- Two rhythms that are alike, on the program's side. -/
namespace Go.Proofs.YtgibbhipjpbdfaaGreat
open Go.RowKit
def dI (a b : Int) : Int := if a < b then b - a else a - b
theorem dI_in {a b tol : Int} : decide (dI a b ≤ tol) = inB (a - b) (-tol) tol := by
  rw [Bool.eq_iff_iff, decide_eq_true_eq, inB_iff, dI]
  split <;> omega
theorem distI_c (a b : Int) (w : World) (ha : -1000000 ≤ a ∧ a ≤ 1000000) (hb : -1000000 ≤ b ∧ b ≤ 1000000) : Calls Tryz.prog 109 #[.int .i64 a, .int .i64 b] w fun e w' => e = .returned (.int .i64 (dI a b)) ∧ w = w' := by
  unfold dI
  rcases Int.lt_or_le a b with h | h
  · rw [if_pos h]
    have h1 : a - b < b - a := by omega
    go_enter Tryz.func109, Tryz.ntmps109
    go_wp2
    go_ret
    exact ⟨rfl, rfl⟩
  · rw [if_neg (by omega)]
    have h1 : b - a ≤ a - b := by omega
    have h2 : ¬ a - b < b - a := by omega
    go_enter Tryz.func109, Tryz.ntmps109
    go_wp2
    go_ret
    exact ⟨rfl, rfl⟩
def clI (c1 l1 c2 l2 tol : Int) : Bool := decide (c1 = c2) && inB (l1 - l2) (-tol) tol
abbrev phV (c l : Int) : Value := .agg #[.string (nameC c), .int .i64 l]
set_option maxHeartbeats 1000000 in
theorem phClose_c (c1 l1 c2 l2 tol : Int) (w : World) (h1 : 0 ≤ c1 ∧ c1 ≤ 255) (h2 : 0 ≤ c2 ∧ c2 ≤ 255) (b1 : 1 ≤ l1 ∧ l1 ≤ 1000000) (b2 : 1 ≤ l2 ∧ l2 ≤ 1000000) :
    Calls Tryz.prog 97 #[phV c1 l1, phV c2 l2, .int .i64 tol] w fun e w' => e = .returned (.bool (clI c1 l1 c2 l2 tol)) ∧ Below w.heap.size w w' := by
  have hbq := name_beq h1 h2
  have hD : ∀ w1, Calls Tryz.prog 109 #[.int .i64 l1, .int .i64 l2] w1 fun e w' => e = .returned (.int .i64 (dI l1 l2)) ∧ w1 = w' := fun w1 => distI_c l1 l2 w1 (by omega) (by omega)
  obtain ⟨d, hd⟩ : ∃ d, dI l1 l2 = d := ⟨_, rfl⟩
  have hi := dI_in (a := l1) (b := l2) (tol := tol)
  rw [hd] at hD hi
  have hb0 : Below w.heap.size w ((w.alloc (.cells #[.string (nameC c1), .int .i64 l1] 118)).alloc (.cells #[.string (nameC c2), .int .i64 l2] 118)) := by (repeat (first | (with_reducible assumption) | (with_reducible exact Below.refl _ _) | exact Nat.le_refl _ | exact Below.size (by with_reducible assumption) | (with_reducible refine Below.drew ?_) | (with_reducible refine below_drewN ?_ _) | (with_reducible refine Below.alloc ?_ ?_ _) | (with_reducible refine Below.setCell ?_ ?_ _) | (with_reducible refine le_alloc ?_ _) | (with_reducible refine le_set ?_ _ _) | (with_reducible refine le_drew ?_) | (with_reducible refine le_drewN ?_ _) | omega | (dsimp only; omega)))
  have HD := Lib.hid hD; clear hD
  have Hd := Lib.hid hd; clear hd
  by_cases hc : c1 = c2
  · rw [decide_eq_true hc] at hbq
    have hcl : clI c1 l1 c2 l2 tol = decide (d ≤ tol) := by rw [clI, decide_eq_true hc, hi]; rfl
    have Hcl := Lib.hid hcl; clear hcl
    have Hi := Lib.hid hi; clear hi
    clear hc
    go_enter Tryz.func97, Tryz.ntmps97
    go_wp2_with (go_at_call 109; refine (HD.out _).mono ?_; rintro e w1 ⟨rfl, rfl⟩)
    go_ret
    exact ⟨ret_eq (bool_eq Hcl.out.symm), hb0⟩
  · rw [decide_eq_false hc] at hbq
    have hcl : clI c1 l1 c2 l2 tol = false := by rw [clI, decide_eq_false hc]; rfl
    have Hcl := Lib.hid hcl; clear hcl
    have Hi := Lib.hid hi; clear hi
    clear hc
    go_enter Tryz.func97, Tryz.ntmps97
    go_wp2_with fail
    go_ret
    exact ⟨ret_eq (bool_eq Hcl.out.symm), hb0⟩
theorem alloc_at2 {w w' : World} {cs : Array Value} {e : TypeId} (hb : Below (w.alloc (.cells cs e)).heap.size (w.alloc (.cells cs e)) w') : w'.heap[w.heap.size]? = some (.cells cs e (0, 0)) := (hb.block _ (by simp)).trans (heap_alloc_new w _)
abbrev clF (h : Nat) : Value := .func (.func 96) #[] #[.pointer (some ⟨h, 0, none⟩)]
set_option maxHeartbeats 1000000 in
theorem closeF_c (h : Nat) (c1 l1 c2 l2 tol : Int) (w : World) (hc : w.cell? ⟨h, 0, none⟩ = some (.int .i64 tol)) (hh : h < w.heap.size) (h1 : 0 ≤ c1 ∧ c1 ≤ 255) (h2 : 0 ≤ c2 ∧ c2 ≤ 255) (b1 : 1 ≤ l1 ∧ l1 ≤ 1000000) (b2 : 1 ≤ l2 ∧ l2 ≤ 1000000) :
    Calls Tryz.prog 96 #[phV c1 l1, phV c2 l2, .pointer (some ⟨h, 0, none⟩)] w fun e w' => e = .returned (.bool (clI c1 l1 c2 l2 tol)) ∧ Below w.heap.size w w' := by
  have hb0 : Below w.heap.size w ((w.alloc (.cells #[.string (nameC c1), .int .i64 l1] 118)).alloc (.cells #[.string (nameC c2), .int .i64 l2] 118)) := by (repeat (first | (with_reducible assumption) | (with_reducible exact Below.refl _ _) | exact Nat.le_refl _ | exact Below.size (by with_reducible assumption) | (with_reducible refine Below.drew ?_) | (with_reducible refine below_drewN ?_ _) | (with_reducible refine Below.alloc ?_ ?_ _) | (with_reducible refine Below.setCell ?_ ?_ _) | (with_reducible refine le_alloc ?_ _) | (with_reducible refine le_set ?_ _ _) | (with_reducible refine le_drew ?_) | (with_reducible refine le_drewN ?_ _) | omega | (dsimp only; omega)))
  have q0 := (keepC hb0 h hh 0).trans hc
  have p0 := alloc_at2 (w := w) (cs := #[.string (nameC c1), .int .i64 l1]) (e := 118) (w' := (w.alloc (.cells #[.string (nameC c1), .int .i64 l1] 118)).alloc (.cells #[.string (nameC c2), .int .i64 l2] 118)) (by (repeat (first | (with_reducible assumption) | (with_reducible exact Below.refl _ _) | exact Nat.le_refl _ | exact Below.size (by with_reducible assumption) | (with_reducible refine Below.drew ?_) | (with_reducible refine below_drewN ?_ _) | (with_reducible refine Below.alloc ?_ ?_ _) | (with_reducible refine Below.setCell ?_ ?_ _) | (with_reducible refine le_alloc ?_ _) | (with_reducible refine le_set ?_ _ _) | (with_reducible refine le_drew ?_) | (with_reducible refine le_drewN ?_ _) | omega | (dsimp only; omega))))
  have p1 := heap_alloc_new (w.alloc (.cells #[.string (nameC c1), .int .i64 l1] 118)) (.cells #[.string (nameC c2), .int .i64 l2] 118)
  have hs : (w.alloc (.cells #[.string (nameC c1), .int .i64 l1] 118)).heap.size = w.heap.size + 1 := by simp
  rw [hs] at p1
  obtain ⟨w0, hw⟩ : ∃ w0, (w.alloc (.cells #[.string (nameC c1), .int .i64 l1] 118)).alloc (.cells #[.string (nameC c2), .int .i64 l2] 118) = w0 := ⟨_, rfl⟩
  rw [hw] at hb0 q0 p0 p1
  have a0 := (cell_of_row w0 w.heap.size 0 _ _ _ p0).trans rfl
  have a1 := (cell_of_row w0 w.heap.size 1 _ _ _ p0).trans rfl
  have a2 := (cell_of_row w0 (w.heap.size + 1) 0 _ _ _ p1).trans rfl
  have a3 := (cell_of_row w0 (w.heap.size + 1) 1 _ _ _ p1).trans rfl
  have hC := phClose_c c1 l1 c2 l2 tol w0 h1 h2 b1 b2
  have HC := Lib.hid hC; clear hC
  clear p0 p1 hs hc
  go_enter Tryz.func96, Tryz.ntmps96
  go_wp2_with fail
  try rw [hw]
  clear hw
  refine HC.out.mono ?_
  rintro e w1 ⟨rfl, hb1⟩
  go_wp2_with fail
  go_ret
  exact ⟨rfl, hb0.trans (hb1.mono hb0.size)⟩
end Go.Proofs.YtgibbhipjpbdfaaGreat

/- closeRhythms: the program. -/
namespace Go.Proofs.YtgibbhipjpbdfaaGreat
open Go.RowKit
theorem drop_flat {α : Type} (enc : α → List Value) (sz : Nat) (hsz : ∀ x, (enc x).length = sz) (xs : List α) (k : Nat) : (xs.drop k).flatMap enc = (xs.flatMap enc).drop (k * sz) := by
  induction xs generalizing k with
  | nil => simp
  | cons y ys ih =>
    cases k with
    | zero => simp
    | succ k =>
      rw [List.flatMap_cons, List.drop_succ_cons, ih, List.drop_append, show (enc y).drop ((k + 1) * sz) = [] from List.drop_eq_nil_of_le (by rw [hsz, Nat.add_mul]; omega), hsz, List.nil_append, show (k + 1) * sz - sz = k * sz by rw [Nat.add_mul]; omega]
theorem Sl.sufR {w : World} {Bk n : Nat} {b off : Nat} {D : List (Int × Int)} (h : Sl w Bk 2 (some ⟨b, off, none⟩) n (runC D)) (j : Nat) (hj : j ≤ n) : Sl w Bk 2 (some ⟨b, off + j * 2, none⟩) (n - j) (runC (D.drop j)) := by
  have hl : D.length * 2 = n * 2 := by have := h.1; rwa [runC_len] at this
  refine ⟨by rw [runC_len, List.length_drop]; omega, fun hpos => ?_⟩
  obtain ⟨b', off', e, hlt, hc⟩ := h.2 (by omega)
  injection e with e
  injection e with e1 e2 _
  subst e1 e2
  refine ⟨b, off + j * 2, rfl, hlt, fun q u hu => ?_⟩
  rw [runC, List.map_drop, drop_flat Ph.cells 2 Ph.cells_len, List.getElem?_drop] at hu
  have := hc (j * 2 + q) u hu
  rwa [← Nat.add_assoc] at this
theorem Sl.preR {w : World} {Bk n : Nat} {A : Option Addr} {D : List (Int × Int)} (h : Sl w Bk 2 A n (runC D)) (j : Nat) (hj : j ≤ n) : Sl w Bk 2 A j (runC (D.take j)) := by
  have := Sl.pre Ph.cells 2 Ph.cells_len (xs := D.map toPh) h j hj
  rwa [← List.map_take] at this
def rotD (b : List (Int × Int)) (f : Nat) : List (Int × Int) := b.drop f ++ b.take f
theorem rotD_at {B : List (Int × Int)} {t i : Nat} (ht : t < B.length) (hi : i < B.length) : (rotD B t)[i]? = B[(t + i) % B.length]? := by
  rw [rotD, List.getElem?_append, List.length_drop]
  by_cases h : i < B.length - t
  · rw [if_pos h, List.getElem?_drop, Nat.mod_eq_of_lt (by omega)]
  · rw [if_neg h, List.getElem?_take, if_pos (by omega)]
    congr 1
    rw [Nat.mod_eq_sub_mod (by omega), Nat.mod_eq_of_lt (by omega)]; omega
theorem rotD_len (B : List (Int × Int)) (t : Nat) : (rotD B t).length = B.length := by simp [rotD]; omega
theorem rotD_mem {B : List (Int × Int)} {t : Nat} {x : Int × Int} (h : x ∈ rotD B t) : x ∈ B := by
  rw [rotD, List.mem_append] at h
  rcases h with h | h
  · exact List.mem_of_mem_drop h
  · exact List.mem_of_mem_take h
theorem turn_rot {a b : List (Int × Int)} {f n : Nat} (tol : Int) (ha : a.length = n) (hb : b.length = n) (hf : f < n) : allB n (fun i => close1 a (rotD b f) i i tol) = turnB a b tol f := by
  rw [turnB, ha, Bool.eq_iff_iff, allB_iff, allB_iff]
  have e : ∀ i, i < n → close1 a (rotD b f) i i tol = close1 a b i ((f + i) % b.length) tol := fun i hi => by
    rw [close1, close1, rotD_at (by omega) (by omega)]
  exact ⟨fun h i hi => by rw [← e i hi]; exact h i hi, fun h i hi => by rw [e i hi]; exact h i hi⟩
def PhBd (D : List (Int × Int)) : Prop := ∀ d ∈ D, (0 ≤ d.1 ∧ d.1 ≤ 255) ∧ 1 ≤ d.2 ∧ d.2 ≤ 1000000
set_option maxRecDepth 100000 in
set_option maxHeartbeats 2000000 in
theorem equalFunc_c (A1 : Option Addr) (n c1 : Nat) (X : List (Int × Int)) (A2 : Option Addr) (c2 : Nat) (Y : List (Int × Int)) (h : Nat) (tol : Int) (w : World) (s1 : Sl w w.heap.size 2 A1 n (runC X)) (s2 : Sl w w.heap.size 2 A2 n (runC Y)) (hX : PhBd X) (hY : PhBd Y)
    (hc : w.cell? ⟨h, 0, none⟩ = some (.int .i64 tol)) (hh : h < w.heap.size) (hm : n ≤ 200000) :
    Calls Tryz.prog 95 #[.slice A1 n c1, .slice A2 n c2, clF h] w fun e w' => e = .returned (.bool (allB n fun i => close1 X Y i i tol)) ∧ Below w.heap.size w w' := by
  obtain ⟨R, hR⟩ : ∃ R, (allB n fun i => close1 X Y i i tol) = R := ⟨_, rfl⟩
  rw [hR]
  have HR := Lib.hid hR; clear hR
  have HX := Lib.hid hX; clear hX
  have HY := Lib.hid hY; clear hY
  go_enter Tryz.func95, Tryz.ntmps95
  go_wp2_with fail
  go_loopw [17] (fun i wr => ∃ k : Nat, k ≤ n ∧ i = .int .i64 k ∧ Hid (∀ r, r < k → close1 X Y r r tol = true) ∧ Below w.heap.size w wr) (fun i _ => n - (intOf i).toNat)
  case atStart => exact ⟨0, Nat.zero_le _, rfl, Lib.hid (fun r hr => absurd hr (by omega)), Below.refl _ _⟩
  case round =>
    obtain ⟨k, hk, rfl, Hs, hbw⟩ := hrel
    have k0 : (0 : Int) ≤ (k : Int) := by omega
    by_cases hlt : k < n
    · have k1 : (k : Int) < (n : Int) := by omega
      obtain ⟨b1, off1, ⟨p1, p2⟩, rfl, hb1, hp, d0, d1⟩ := s1.run k hlt
      obtain ⟨b2, off2, ⟨q1, q2⟩, rfl, hb2, hq, d2, d3⟩ := s2.run k hlt
      dsimp only at d0 d1 d2 d3
      have hcl := close1_at tol hp hq
      have pb := HX.out _ (List.mem_of_getElem? hp)
      have qb := HY.out _ (List.mem_of_getElem? hq)
      dsimp only at hcl pb qb
      have hbA : Below wr.heap.size wr (wr.alloc (.cells #[.string (nameC p1), .int .i64 p2] 118)) := (Below.refl _ _).alloc (Nat.le_refl _) _
      have hal := heap_alloc_new wr (.cells #[.string (nameC p1), .int .i64 p2] 118)
      have q0 := (keepC hbw b1 hb1 _).trans d0
      have q1' := (keepC hbw b1 hb1 _).trans d1
      have hbA' := hbw.trans (hbA.mono hbw.size)
      have q2' := (keepC hbA' b2 hb2 _).trans d2
      have q3 := (keepC hbA' b2 hb2 _).trans d3
      have hsA : (wr.alloc (.cells #[.string (nameC p1), .int .i64 p2] 118)).heap.size = wr.heap.size + 1 := by simp
      obtain ⟨wA, hwA⟩ : ∃ wA, wr.alloc (.cells #[.string (nameC p1), .int .i64 p2] 118) = wA := ⟨_, rfl⟩
      rw [hwA] at hbA hal q2' q3 hbA' hsA
      have hbB : Below wA.heap.size wA (wA.alloc (.cells #[.string (nameC q1), .int .i64 q2] 118)) := (Below.refl _ _).alloc (Nat.le_refl _) _
      have hbl := heap_alloc_new wA (.cells #[.string (nameC q1), .int .i64 q2] 118)
      obtain ⟨wB, hwB⟩ : ∃ wB, wA.alloc (.cells #[.string (nameC q1), .int .i64 q2] 118) = wB := ⟨_, rfl⟩
      rw [hwB] at hbB hbl
      have hal2 := (hbB.block wr.heap.size (by omega)).trans hal
      obtain ⟨g1, hg1⟩ : ∃ g, wr.heap.size = g := ⟨_, rfl⟩
      obtain ⟨g2, hg2⟩ : ∃ g, wA.heap.size = g := ⟨_, rfl⟩
      rw [hg1] at hal2
      rw [hg2] at hbl
      have x0 := (cell_of_row wB g1 0 _ _ _ hal2).trans rfl
      have x1 := (cell_of_row wB g1 1 _ _ _ hal2).trans rfl
      have y0 := (cell_of_row wB g2 0 _ _ _ hbl).trans rfl
      have y1 := (cell_of_row wB g2 1 _ _ _ hbl).trans rfl
      have hbf := hbA'.trans (hbB.mono hbA'.size)
      have hC := closeF_c h p1 p2 q1 q2 tol wB ((keepC hbf h hh 0).trans hc) (Nat.lt_of_lt_of_le hh hbf.size) pb.1 qb.1 pb.2 qb.2
      obtain ⟨I, hI⟩ : ∃ I, clI p1 p2 q1 q2 tol = I := ⟨_, rfl⟩
      rw [hI] at hC
      rw [show close1 X Y k k tol = I from hcl.trans hI] at hcl
      have hcI : close1 X Y k k tol = I := (close1_at tol hp hq).trans hI
      clear hcl
      have HC := Lib.hid hC; clear hC
      have HI := Lib.hid hI; clear hI
      have HcI := Lib.hid hcI; clear hcI
      have Hp := Lib.hid hp; clear hp
      have Hq := Lib.hid hq; clear hq
      have HsA := Lib.hid hsA; clear hsA
      clear d0 d1 d2 d3 hal hal2 hbl hbA hbB hbA' pb qb
      go_wp2_with fail
      try rw [hwA]
      try rw [hwB]
      try rw [hg1]
      try rw [hg2]
      clear hwA hwB hg1 hg2 x0 x1 y0 y1
      refine HC.out.mono ?_
      rintro e w5 ⟨rfl, hb5⟩
      have hb5f := hbf.trans (hb5.mono hbf.size)
      cases I
      · obtain rfl : R = false := by rw [← HR.out]; exact allB_no hlt HcI.out
        go_wp2_with fail
        go_ret
        exact ⟨rfl, hb5f⟩
      · go_wp2_with fail
        go_roundw
        case rel => exact ⟨k + 1, by omega, by go_num, Lib.hid (fun r hr => by
          rcases Nat.lt_or_ge r k with h2 | h2
          · exact Hs.out r h2
          · obtain rfl : r = k := by omega
            exact HcI.out), hb5f⟩
        case measure => simp [intOf]; omega
    · obtain rfl : k = n := by omega
      obtain rfl : R = true := by rw [← HR.out]; exact allB_iff.2 Hs.out
      go_wp2_with fail
      go_ret
      exact ⟨rfl, hbw⟩
theorem runC_rot (b : List (Int × Int)) (f : Nat) : runC (b.drop f) ++ runC (b.take f) = runC (rotD b f) := by
  unfold runC rotD
  rw [List.map_append, List.flatMap_append]
theorem runC_ones (D : List (Int × Int)) : ∀ u ∈ runC D, u.oneCell' = true := fun u hu => by
  obtain ⟨p, _, hp⟩ := List.mem_flatMap.1 hu
  exact phC_one' p u hp
set_option maxRecDepth 100000 in
set_option maxHeartbeats 4000000 in
theorem closeRhythms_c (A1 : Option Addr) (n1 c1 : Nat) (ps : List Ph) (A2 : Option Addr) (n2 c2 : Nat) (qs : List Ph) (tol : Int) (w : World) (h1 : Sl w w.heap.size 2 A1 n1 (ps.flatMap Ph.cells)) (h2 : Sl w w.heap.size 2 A2 n2 (qs.flatMap Ph.cells))
    (m1 : n1 ≤ 200) (m2 : n2 ≤ 200) (hb1 : ∀ p ∈ ps, 0 ≤ p.len ∧ p.len ≤ 600) (hb2 : ∀ p ∈ qs, 0 ≤ p.len ∧ p.len ≤ 600) (l1 : 1 ≤ (tenC ps).length) (l2 : 1 ≤ (tenC qs).length) (o1 : ∀ p ∈ ps, okS p.c) (o2 : ∀ p ∈ qs, okS p.c) :
    Calls Tryz.prog 64 #[.slice A1 n1 c1, .slice A2 n2 c2, .int .i64 tol] w fun e w' => e = .returned (.bool (closeB (normP (tenC ps)) (normP (tenC qs)) tol)) ∧ Below w.heap.size w w' := by
  have k1 := tenC_len hb1
  have k2 := tenC_len hb2
  rw [h1.len Ph.cells 2 Ph.cells_len (by omega)] at k1
  rw [h2.len Ph.cells 2 Ph.cells_len (by omega)] at k2
  have g1 := norm_bd (B := tenC ps)
  have g2 := norm_bd (B := tenC qs)
  have u1 := normP_len (tenC ps) l1
  have u2 := normP_len (tenC qs) l2
  have ba : PhBd (normP (tenC ps)) := fun d hd => ⟨tenC_bd ps _ (g1 d hd).1, (g1 d hd).2.1, by have := (g1 d hd).2.2; omega⟩
  have bb : PhBd (normP (tenC qs)) := fun d hd => ⟨tenC_bd qs _ (g2 d hd).1, (g2 d hd).2.1, by have := (g2 d hd).2.2; omega⟩
  have e1 : 1 ≤ (normP (tenC ps)).length ∧ (normP (tenC ps)).length ≤ 200000 := by omega
  have e2 : 1 ≤ (normP (tenC qs)).length ∧ (normP (tenC qs)).length ≤ 200000 := by omega
  have oc1 := once_len l1
  have oc2 := once_len l2
  have p1 : (onceB (tenC ps)).length ≤ 200000 := by omega
  have p2 : (onceB (tenC qs)).length ≤ 200000 := by omega
  clear g1 g2 u1 u2 k1 k2 oc1 oc2
  have jp1 : joinB (normB (onceB (tenC ps))) = normP (tenC ps) := rfl
  have jp2 : joinB (normB (onceB (tenC qs))) = normP (tenC qs) := rfl
  have in1 : inN (normB (onceB (tenC ps))) := inN_rot (inN_take (inN_ten ps) _) _
  have in2 : inN (normB (onceB (tenC qs))) := inN_rot (inN_take (inN_ten qs) _) _
  obtain ⟨a, ha⟩ : ∃ a, normP (tenC ps) = a := ⟨_, rfl⟩
  obtain ⟨b, hb⟩ : ∃ b, normP (tenC qs) = b := ⟨_, rfl⟩
  rw [ha] at ba e1 jp1
  rw [hb] at bb e2 jp2
  rw [ha, hb]
  obtain ⟨na, hna⟩ : ∃ n, a.length = n := ⟨_, rfl⟩
  obtain ⟨nb, hnb⟩ : ∃ n, b.length = n := ⟨_, rfl⟩
  rw [hna] at e1
  rw [hnb] at e2
  obtain ⟨e3, e4⟩ := e1
  obtain ⟨e5, e6⟩ := e2
  have HN1 : Hid (∀ w1, Below w.heap.size w w1 → Calls Tryz.prog 93 #[.slice A1 n1 c1] w1 fun e w' => ∃ A' m c', e = .returned (.slice A' m c') ∧ m = (onceB (tenC ps)).length ∧ Sl w' w'.heap.size 1 A' m ((normB (onceB (tenC ps))).flatMap nC) ∧ Below w1.heap.size w1 w') := Lib.hid fun w1 hw => normal_c A1 n1 c1 ps w1 (h1.next hw) m1 hb1 o1 l1
  have HN2 : Hid (∀ w1, Below w.heap.size w w1 → Calls Tryz.prog 93 #[.slice A2 n2 c2] w1 fun e w' => ∃ A' m c', e = .returned (.slice A' m c') ∧ m = (onceB (tenC qs)).length ∧ Sl w' w'.heap.size 1 A' m ((normB (onceB (tenC qs))).flatMap nC) ∧ Below w1.heap.size w1 w') := Lib.hid fun w1 hw => normal_c A2 n2 c2 qs w1 (h2.next hw) m2 hb2 o2 l2
  have Hb1 := Lib.hid hb1; clear hb1
  have Hb2 := Lib.hid hb2; clear hb2
  have L1 := Lib.hid l1; clear l1
  have L2 := Lib.hid l2; clear l2
  have O1 := Lib.hid o1; clear o1
  have O2 := Lib.hid o2; clear o2
  have Ba := Lib.hid ba; clear ba
  have Bb := Lib.hid bb; clear bb
  have Ha := Lib.hid ha; clear ha
  have Hb := Lib.hid hb; clear hb
  have Hna := Lib.hid hna; clear hna
  have Hnb := Lib.hid hnb; clear hnb
  have Jp1 := Lib.hid jp1; clear jp1
  have Jp2 := Lib.hid jp2; clear jp2
  have In1 := Lib.hid in1; clear in1
  have In2 := Lib.hid in2; clear in2
  have P1 := Lib.hid p1; clear p1
  have P2 := Lib.hid p2; clear p2
  clear h1 h2
  have hb0 : Below w.heap.size w (w.alloc (.cells #[.int .i64 tol] 2)) := (Below.refl _ _).alloc (Nat.le_refl _) _
  have ht0 := (cell_of_row _ w.heap.size 0 _ _ _ (heap_alloc_new w (.cells #[.int .i64 tol] 2))).trans rfl
  have hh0 : w.heap.size < (w.alloc (.cells #[.int .i64 tol] 2)).heap.size := by simp
  obtain ⟨w0, hw⟩ : ∃ w0, w.alloc (.cells #[.int .i64 tol] 2) = w0 := ⟨_, rfl⟩
  rw [hw] at hb0 ht0 hh0
  obtain ⟨R, hR⟩ : ∃ R, closeB a b tol = R := ⟨_, rfl⟩
  rw [hR]
  have HR := Lib.hid hR; clear hR
  go_enter Tryz.func64, Tryz.ntmps64
  go_wp2_with fail
  try rw [hw]
  clear hw
  refine (HN1.out w0 hb0).mono ?_
  rintro e w1 ⟨A3, m3, c3, rfl, hm3, s3, hw1⟩
  have hJ1 := join_c A3 m3 c3 _ w1 s3 (by rw [hm3]; exact P1.out) In1.out
  rw [Jp1.out, Hna.out] at hJ1
  have H1 := hb0.trans (hw1.mono hb0.size)
  have HJ1 := Lib.hid hJ1; clear hJ1
  have S3 := Lib.hid s3; clear s3
  have Hm3 := Lib.hid hm3; clear hm3
  go_wp2_with fail
  refine HJ1.out.mono ?_
  rintro e w2 ⟨va, rfl, hoa, hw2⟩
  obtain ⟨Aa, ca, rfl⟩ := own_slice hoa
  have H2 := H1.trans (hw2.mono H1.size)
  go_wp2_with fail
  refine (HN2.out w2 H2).mono ?_
  rintro e w3 ⟨A4, m4, c4, rfl, hm4, s4, hw3⟩
  have hJ2 := join_c A4 m4 c4 _ w3 s4 (by rw [hm4]; exact P2.out) In2.out
  rw [Jp2.out, Hnb.out] at hJ2
  have H3 := H2.trans (hw3.mono H2.size)
  have HJ2 := Lib.hid hJ2; clear hJ2
  have S4 := Lib.hid s4; clear s4
  have Hm4 := Lib.hid hm4; clear hm4
  go_wp2_with fail
  refine HJ2.out.mono ?_
  rintro e w4 ⟨vb, rfl, hob, hw4⟩
  obtain ⟨gb, rcb, rfl, -, -⟩ := hob.form (by omega)
  have hcapb := (own_cap hob).1
  have H4 := H3.trans (hw4.mono H3.size)
  have sa := (((Sl.of_own hoa).next hw3).next hw4)
  have sb := Sl.of_own hob
  have ht4 : w4.cell? ⟨w.heap.size, 0, none⟩ = some (.int .i64 tol) := (keepC (((hw1.trans (hw2.mono hw1.size)).trans (hw3.mono (Nat.le_trans hw1.size hw2.size))).trans (hw4.mono (Nat.le_trans hw1.size (Nat.le_trans hw2.size hw3.size)))) w.heap.size hh0 0).trans ht0
  have hh4 : w.heap.size < w4.heap.size := Nat.lt_of_lt_of_le hh0 (Nat.le_trans hw1.size (Nat.le_trans hw2.size (Nat.le_trans hw3.size hw4.size)))
  have Sa := Lib.hid sa; clear sa
  have Sb := Lib.hid sb; clear sb
  clear hoa hob hw1 hw2 hw3 hw4 H1 H2 H3 hb0 ht0 hh0
  by_cases hlen : na = nb
  · subst hlen
    have hcl : R = (List.range na).any (turnB a b tol) := by rw [← HR.out, closeB, Hna.out, Hnb.out, decide_eq_true rfl]; rfl
    have Hcl := Lib.hid hcl; clear hcl
    go_wp2_with fail
    go_loopw [24] (fun i wr => ∃ f : Nat, f ≤ na ∧ i = .int .i64 f ∧ Hid (∀ r, r < f → turnB a b tol r = false) ∧ Below w4.heap.size w4 wr) (fun i _ => na - (intOf i).toNat)
    case atStart => exact ⟨0, Nat.zero_le _, rfl, Lib.hid (fun r hr => absurd hr (by omega)), Below.refl _ _⟩
    case round =>
      obtain ⟨f, hf, rfl, Hno, hbw⟩ := hrel
      have f0 : (0 : Int) ≤ (f : Int) := by omega
      by_cases hfn : f < na
      · have f1 : (f : Int) < (na : Int) := by omega
        have f2 : (f : Int) ≤ (na : Int) := by omega
        have f3 : (f : Int) ≤ (rcb : Int) := by omega
        have f4 : ¬ rcb = f := by omega
        have f5 : f ≤ na := by omega
        have f6 : f ≤ rcb := by omega
        have hnn : na - f + f = na := by omega
        have hbA : Below wr.heap.size wr (wr.drew.alloc (.cells #[.slice (some ⟨gb, f * 2, none⟩) (na - f) (rcb - f), .slice (some ⟨gb, 0, none⟩) f rcb] 92)) := (Below.refl _ _).drew.alloc (Nat.le_refl _) _
        have hal := heap_alloc_new wr.drew (.cells #[.slice (some ⟨gb, f * 2, none⟩) (na - f) (rcb - f), .slice (some ⟨gb, 0, none⟩) f rcb] 92)
        have sbw := Sb.out.next hbw
        have sf := sbw.sufR f f5
        rw [Nat.zero_add] at sf
        have hC := concatP_c wr.heap.size (some ⟨gb, f * 2, none⟩) (na - f) (rcb - f) (some ⟨gb, 0, none⟩) f rcb _ _ _ (sf.next hbA) ((sbw.preR f f5).next hbA) ((cell_of_row _ wr.heap.size 0 _ _ _ hal).trans rfl) ((cell_of_row _ wr.heap.size 1 _ _ _ hal).trans rfl) (by simp) (by omega) (by omega) (runC_ones _) (runC_ones _)
        rw [hnn, runC_rot] at hC
        have HC := Lib.hid hC; clear hC
        clear hal sf sbw hnn
        go_wp2_with fail
        refine wp_region_held_drew (S := fun w' => Below wr.heap.size wr w') (by kernel_rfl) ((Below.refl wr.heap.size wr).drew) (fun hHeld => ?_)
        (first
          | (refine wpAnyH_take (i := 0) (v := ?_) rfl (by kernel_rfl) (by kernel_rfl) (by kernel_rfl) (fun _ _ _ h => h) (Or.inl ⟨by rfl, ?_⟩) (by assumption) ?_
             rotate_left
             focus (intro wq hSq; (try dsimp only at hSq); go_simp; (try (with_reducible rfl)); done))
          | (refine wpAnyH_take (i := 0) (v := undef) rfl (by kernel_rfl) (by kernel_rfl) (by kernel_rfl) (fun _ _ _ h => h) (Or.inr ⟨by rfl, rfl⟩) (by assumption) ?_)
          | fail "take 0")
        try simp only [Act.put, List.setIfInBounds_toArray, List.set_cons_zero, List.set_cons_succ, List.getElem_toArray, List.getElem_cons_zero]
        (first
          | (refine wpAnyH_take (i := 1) (v := ?_) rfl (by kernel_rfl) (by kernel_rfl) (by kernel_rfl) (fun _ _ _ h => h) (Or.inl ⟨by rfl, ?_⟩) (by assumption) ?_
             rotate_left
             focus (intro wq hSq; (try dsimp only at hSq); go_simp; (try (with_reducible rfl)); done))
          | (refine wpAnyH_take (i := 1) (v := undef) rfl (by kernel_rfl) (by kernel_rfl) (by kernel_rfl) (fun _ _ _ h => h) (Or.inr ⟨by rfl, rfl⟩) (by assumption) ?_)
          | fail "take 1")
        try simp only [Act.put, List.setIfInBounds_toArray, List.set_cons_zero, List.set_cons_succ, List.getElem_toArray, List.getElem_cons_zero, List.getElem_cons_succ]
        (first
          | (refine wpAnyH_take (i := 2) (v := ?_) rfl (by kernel_rfl) (by kernel_rfl) (by kernel_rfl) (fun _ _ _ h => h) (Or.inl ⟨by rfl, ?_⟩) (by assumption) ?_
             rotate_left
             focus (intro wq hSq; (try dsimp only at hSq); go_simp; (try (with_reducible rfl)); done))
          | (refine wpAnyH_take (i := 2) (v := undef) rfl (by kernel_rfl) (by kernel_rfl) (by kernel_rfl) (fun _ _ _ h => h) (Or.inr ⟨by rfl, rfl⟩) (by assumption) ?_)
          | fail "take 2")
        try simp only [Act.put, List.setIfInBounds_toArray, List.set_cons_zero, List.set_cons_succ, List.getElem_toArray, List.getElem_cons_zero, List.getElem_cons_succ]
        (first
          | (refine wpAnyH_take (i := 3) (v := ?_) rfl (by kernel_rfl) (by kernel_rfl) (by kernel_rfl) (fun _ _ _ h => h) (Or.inl ⟨by rfl, ?_⟩) (by assumption) ?_
             rotate_left
             focus (intro wq hSq; (try dsimp only at hSq); go_simp; (try (with_reducible rfl)); done))
          | (refine wpAnyH_take (i := 3) (v := undef) rfl (by kernel_rfl) (by kernel_rfl) (by kernel_rfl) (fun _ _ _ h => h) (Or.inr ⟨by rfl, rfl⟩) (by assumption) ?_)
          | fail "take 3")
        try simp only [Act.put, List.setIfInBounds_toArray, List.set_cons_zero, List.set_cons_succ, List.getElem_toArray, List.getElem_cons_zero, List.getElem_cons_succ]
        (first
          | (refine wpAnyH_take (i := 4) (v := ?_) rfl (by kernel_rfl) (by kernel_rfl) (by kernel_rfl) (fun _ _ _ h => h) (Or.inl ⟨by rfl, ?_⟩) (by assumption) ?_
             rotate_left
             focus (intro wq hSq; (try dsimp only at hSq); go_simp; (try (with_reducible rfl)); done))
          | (refine wpAnyH_take (i := 4) (v := undef) rfl (by kernel_rfl) (by kernel_rfl) (by kernel_rfl) (fun _ _ _ h => h) (Or.inr ⟨by rfl, rfl⟩) (by assumption) ?_)
          | fail "take 4")
        try simp only [Act.put, List.setIfInBounds_toArray, List.set_cons_zero, List.set_cons_succ, List.getElem_toArray, List.getElem_cons_zero, List.getElem_cons_succ]
        (first
          | (refine wpAnyH_take (i := 5) (v := ?_) rfl (by kernel_rfl) (by kernel_rfl) (by kernel_rfl) (fun _ _ _ h => h) (Or.inl ⟨by rfl, ?_⟩) (by assumption) ?_
             rotate_left
             focus (intro wq hSq; (try dsimp only at hSq); go_simp; (try (with_reducible rfl)); done))
          | (refine wpAnyH_take (i := 5) (v := undef) rfl (by kernel_rfl) (by kernel_rfl) (by kernel_rfl) (fun _ _ _ h => h) (Or.inr ⟨by rfl, rfl⟩) (by assumption) ?_)
          | fail "take 5")
        try simp only [Act.put, List.setIfInBounds_toArray, List.set_cons_zero, List.set_cons_succ, List.getElem_toArray, List.getElem_cons_zero, List.getElem_cons_succ]
        refine wpAnyH_ready (rs := [6]) (by kernel_rfl) (by simp) ?_
        refine AllReadyH.cons (o := _) rfl (fun K hK => ?_) AllReadyH.nil
        go_simp
        skip
        refine hK.out _ _ ?_ (fun hHeld => ?_)
        · exact hbA
        clear hK K
        try simp only [Act.put, List.setIfInBounds_toArray, List.set_cons_zero, List.set_cons_succ, List.getElem_toArray, List.getElem_cons_zero, List.getElem_cons_succ]
        refine wpAnyH_ready (rs := [7]) (by kernel_rfl) (by simp) ?_
        refine AllReadyH.cons (o := _) rfl (fun K hK => ?_) AllReadyH.nil
        go_simp
        refine HC.out.mono ?_; rintro e w6 ⟨A6, c6, rfl, ho6, hb6⟩; have hb16 : Below wr.heap.size wr w6 := hbA.trans (hb6.mono hbA.size)
        refine hK.out _ _ ?_ (fun hHeld => ?_)
        · exact hb16
        clear hK K
        try simp only [Act.put, List.setIfInBounds_toArray, List.set_cons_zero, List.set_cons_succ, List.getElem_toArray, List.getElem_cons_zero, List.getElem_cons_succ]
        (first
          | (refine wpAnyH_take (i := 8) (v := ?_) rfl (by kernel_rfl) (by kernel_rfl) (by kernel_rfl) (fun _ _ _ h => h) (Or.inl ⟨by rfl, ?_⟩) (by assumption) ?_
             rotate_left
             focus (intro wq hSq; (try dsimp only at hSq); go_simp; (try (with_reducible rfl)); done))
          | (refine wpAnyH_take (i := 8) (v := undef) rfl (by kernel_rfl) (by kernel_rfl) (by kernel_rfl) (fun _ _ _ h => h) (Or.inr ⟨by rfl, rfl⟩) (by assumption) ?_)
          | fail "take 8")
        try simp only [Act.put, List.setIfInBounds_toArray, List.set_cons_zero, List.set_cons_succ, List.getElem_toArray, List.getElem_cons_zero, List.getElem_cons_succ]
        refine wpAnyH_done (by kernel_rfl) ?_ _
        have s6 := Sl.of_own ho6
        have hbw6 := hbw.trans (hb16.mono hbw.size)
        have hE := equalFunc_c Aa na ca a A6 c6 (rotD b f) w.heap.size tol w6 (Sa.out.next hbw6) s6 Ba.out (fun d hd => Bb.out d (rotD_mem hd)) ((keepC hbw6 w.heap.size hh4 0).trans ht4) (Nat.lt_of_lt_of_le hh4 hbw6.size) (by omega)
        rw [turn_rot tol Hna.out Hnb.out hfn] at hE
        obtain ⟨Z, hZ⟩ : ∃ Z, turnB a b tol f = Z := ⟨_, rfl⟩
        rw [hZ] at hE
        have HE := Lib.hid hE; clear hE
        have HZ := Lib.hid hZ; clear hZ
        clear ho6 hb6 hb16 s6 hHeld hbA HC
        go_wp2_with fail
        refine HE.out.mono ?_
        rintro e w7 ⟨rfl, hb7⟩
        have hbw7 := hbw6.trans (hb7.mono hbw6.size)
        cases Z
        · go_wp2_with fail
          go_roundw
          case rel => exact ⟨f + 1, by omega, by go_num, Lib.hid (fun r hr => by
            rcases Nat.lt_or_ge r f with h2 | h2
            · exact Hno.out r h2
            · obtain rfl : r = f := by omega
              exact HZ.out), hbw7⟩
          case measure => simp [intOf]; omega
        · obtain rfl : R = true := by rw [Hcl.out]; exact List.any_eq_true.2 ⟨f, List.mem_range.2 hfn, HZ.out⟩
          go_wp2_with fail
          go_ret
          exact ⟨rfl, H4.trans (hbw7.mono H4.size)⟩
      · obtain rfl : f = na := by omega
        obtain rfl : R = false := by
          rw [Hcl.out, List.any_eq_false]
          intro r hr
          rw [Hno.out r (List.mem_range.1 hr)]; simp
        go_wp2_with fail
        go_ret
        exact ⟨rfl, H4.trans (hbw.mono H4.size)⟩
  · have hne : ((na : Int) != (nb : Int)) = true := by simp; omega
    obtain rfl : R = false := by rw [← HR.out, closeB, Hna.out, Hnb.out, decide_eq_false hlen]; rfl
    go_wp2_with fail
    go_ret
    exact ⟨rfl, H4⟩
end Go.Proofs.YtgibbhipjpbdfaaGreat
