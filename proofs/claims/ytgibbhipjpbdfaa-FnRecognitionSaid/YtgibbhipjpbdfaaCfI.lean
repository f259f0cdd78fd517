/- CfI: several of my texts in one. -/
import Derived.Test.YtgibbhipjpbdfaaApp
import Derived.Test.YtgibbhipjpbdfaaSrcG
import Derived.Lib.AppendZerosOnto
import Derived.Test.YtgibbhipjpbdfaaCfS

/- The library's Grow and Concat, at strings and at phases. -/

namespace Go.Proofs.Ytgibbhipjpbdfaa
open Go.RowKit
theorem strInfoC : (Try.prog.info? 9).map (fun i => (i.zero, i.size, i.bytes)) = some (some (.string ByteArray.empty), 1, 16) := by kernel_rfl
theorem phInfoC : (Try.prog.info? 58).map (fun i => (i.zero, i.size, i.bytes)) = some (some (.agg #[.string ByteArray.empty, .int .i64 0]), 2, 24) := by kernel_rfl
set_option maxRecDepth 100000 in
set_option maxHeartbeats 2000000 in
theorem growS_c (n : Nat) (w : World) (h1 : 1 ≤ n) (hn : n ≤ 1048576) :
    Calls Try.prog 109 #[.slice none 0 0, .int .i64 n] w fun e w' => ∃ g cap, e = .returned (.slice (some ⟨g, 0, none⟩) 0 cap) ∧ w'.ownsRow w.heap.size 9 1 (.slice (some ⟨g, 0, none⟩) 0 cap) 0 [] ∧ Below w.heap.size w w' := by
  obtain ⟨i0, hi, hz0, hz1, hz2⟩ := info_parts strInfoC
  have e63 : n ≤ maxLen := by unfold maxLen; omega
  obtain ⟨G, hG⟩ : ∃ G, grownCap w n 0 9 = G := ⟨_, rfl⟩
  obtain ⟨ROW, hROW⟩ : ∃ ROW, Builtin.zeroCells (Value.string ByteArray.empty).cells n ++ Builtin.zeroCells (Value.string ByteArray.empty).cells (G - n) = ROW := ⟨_, rfl⟩
  have hr : ∀ ty, (Builtin.append_ #[62, 3] ty #[.slice none 0 0, .int .i64 (n : Int)]).run Try.prog w = .ok (.slice (some ⟨w.heap.size, 0, none⟩) n G) (w.drew.alloc (.cells ROW 9)) := fun ty => by
    have := Lib.run_append_nil_zeros (P := Try.prog) w 62 3 ty 9 i0 _ .i64 .i64 Try.underlying62 Try.underlying3 hi hz0 n (by omega) (by omega) (by omega) (by rw [hz2]; omega)
    rw [hG, hROW] at this
    exact this
  have hGn : n ≤ G := by rw [← hG]; exact grownCap_ge w _ _ _
  have hGm : G ≤ maxLen := by
    have := grownCap_le_maxLen w n 0 9 e63
    rwa [hG] at this
  have hRl : ROW.size = G * 1 := by
    rw [← hROW]
    simp [Builtin.zeroCells, Value.cells]
    omega
  have hW : ∀ W, W = w.drew.alloc (.cells ROW 9) → W.ownsRow w.heap.size 9 1 (.slice (some ⟨w.heap.size, 0, none⟩) 0 G) 0 [] ∧ Below w.heap.size w W := fun W e => by
    subst e
    exact ⟨⟨rfl, .inr ⟨w.heap.size, G, ROW, rfl, Nat.le_refl _, heap_alloc_new w.drew _, Nat.zero_le _, hGm, hRl, by simp⟩⟩, (Below.refl _ _).drew.alloc (Nat.le_refl _) _⟩
  have i1 : (0 : Int) < (n : Int) := by omega
  have Hr := Lib.hid hr; clear hr
  have HW := Lib.hid hW; clear hW
  have HG := Lib.hid hG; clear hG
  have HROW := Lib.hid hROW; clear hROW
  have HRl := Lib.hid hRl; clear hRl
  clear hz0 hz1 hz2 hi
  go_enter Try.func109, Try.ntmps109
  go_wp2_with (at_builtin; refine Lib.wpList_append_run _ rfl _ _ _ _ rfl _ _ rfl rfl _ _ (Hr.out _) ?_)
  go_ret
  obtain ⟨a, b⟩ := HW.out _ rfl
  exact ⟨_, _, rfl, a, b⟩
set_option maxRecDepth 100000 in
set_option maxHeartbeats 2000000 in
theorem concatS_c (b : Nat) (A1 : Option Addr) (n1 c1 : Nat) (A2 : Option Addr) (n2 c2 : Nat) (xs1 xs2 : List Value) (w : World) (h1 : Sl w w.heap.size 1 A1 n1 xs1) (h2 : Sl w w.heap.size 1 A2 n2 xs2) (d0 : w.cell? ⟨b, 0, none⟩ = some (.slice A1 n1 c1)) (d1 : w.cell? ⟨b, 1, none⟩ = some (.slice A2 n2 c2)) (hb : b < w.heap.size)
    (hn : 1 ≤ n1 + n2) (hm : n1 + n2 ≤ 1048576) (o1 : ∀ u ∈ xs1, u.oneCell' = true) (o2 : ∀ u ∈ xs2, u.oneCell' = true) :
    Calls Try.prog 87 #[.slice (some ⟨b, 0, none⟩) 2 2] w fun e w' => ∃ A c, e = .returned (.slice A (n1 + n2) c) ∧ w'.ownsRow w.heap.size 9 1 (.slice A (n1 + n2) c) (n1 + n2) (xs1 ++ xs2) ∧ Below w.heap.size w w' := by
  obtain ⟨i0, hi, hz0, hz1, hz2⟩ := info_parts strInfoC
  have e1 : 0 + n1 ≤ maxLen := by unfold maxLen; omega
  have e2 : (0 + n1) * 16 ≤ 140737488355328 := by omega
  have e3 : n1 + n2 ≤ maxLen := by unfold maxLen; omega
  have e4 : (n1 + n2) * 16 ≤ 140737488355328 := by omega
  have hG : Calls Try.prog 109 #[.slice none 0 0, .int .i64 ((n1 : Int) + (n2 : Int))] w fun e w' => ∃ g cap, e = .returned (.slice (some ⟨g, 0, none⟩) 0 cap) ∧ w'.ownsRow w.heap.size 9 1 (.slice (some ⟨g, 0, none⟩) 0 cap) 0 [] ∧ Below w.heap.size w w' := by
    have := growS_c (n1 + n2) w hn hm
    rwa [Int.natCast_add] at this
  have HG := Lib.hid hG; clear hG
  have E1 := Lib.hid e1; clear e1
  have E2 := Lib.hid e2; clear e2
  have E3 := Lib.hid e3; clear e3
  have E4 := Lib.hid e4; clear e4
  have O1 := Lib.hid o1; clear o1
  have O2 := Lib.hid o2; clear o2
  have H1 := Lib.hid h1; clear h1
  have H2 := Lib.hid h2; clear h2
  go_enter Try.func87, Try.ntmps87
  go_wp2_with fail
  go_loop [3, 11] (fun sz i => (i = .int .i64 0 ∧ sz = .int .i64 0) ∨ (i = .int .i64 1 ∧ sz = .int .i64 (n1 : Int)) ∨ (i = .int .i64 2 ∧ sz = .int .i64 ((n1 : Int) + (n2 : Int)))) (fun _ i => 2 - (intOf i).toNat)
  case atStart => exact .inl ⟨rfl, rfl⟩
  case round =>
    have i1 : (0 : Int) ≤ (n1 : Int) := by omega
    have i2 : (0 : Int) ≤ (n2 : Int) := by omega
    rcases hrel with ⟨rfl, rfl⟩ | ⟨rfl, rfl⟩ | ⟨rfl, rfl⟩
    · go_wp2_with fail
      go_round
      case rel => exact .inr (.inl ⟨rfl, by go_num⟩)
      case measure => simp [intOf]
    · go_wp2_with fail
      go_round
      case rel => exact .inr (.inr ⟨rfl, by go_num⟩)
      case measure => simp [intOf]
    · go_wp2_with fail
      refine HG.out.mono ?_
      rintro e w1 ⟨g, cap, rfl, ho1, hb1⟩
      have q0 := (keepC hb1 b hb 0).trans d0
      have q1 := (keepC hb1 b hb 1).trans d1
      go_wp2_with fail
      go_loopw [6, 27] (fun v i wr => ((i = .int .i64 0 ∧ wr.ownsRow w.heap.size 9 1 v 0 []) ∨ (i = .int .i64 1 ∧ wr.ownsRow w.heap.size 9 1 v n1 xs1) ∨ (i = .int .i64 2 ∧ wr.ownsRow w.heap.size 9 1 v (n1 + n2) (xs1 ++ xs2))) ∧ Below w.heap.size w wr) (fun _ i _ => 2 - (intOf i).toNat)
      case atStart => exact ⟨.inl ⟨rfl, ho1⟩, hb1⟩
      case round =>
        clear ho1 hb1 q0 q1
        obtain ⟨hrel, hbw⟩ := hrel
        have q0 := (keepC hbw b hb 0).trans d0
        have q1 := (keepC hbw b hb 1).trans d1
        rcases hrel with ⟨rfl, ho⟩ | ⟨rfl, ho⟩ | ⟨rfl, ho⟩
        · obtain ⟨A3, c3, rfl⟩ := own_slice ho
          go_wp2_with (at_builtin; refine wpl_append _ rfl (.tmp 31) (.tmp 32) _ rfl w.heap.size 9 i0 _ 1 16 Try.underlying62 hi hz0 hz1 hz2 rfl (by omega) _ 0 _ rfl ho w.heap.size A1 n1 c1 xs1 rfl (H1.out.below hbw) O1.out E1.out E2.out hbw.size ?_; intro v4 w4 ho4 hg4 hat4)
          go_roundw
          case rel =>
            rw [Nat.zero_add, List.nil_append] at ho4
            exact ⟨.inr (.inl ⟨rfl, ho4⟩), hbw.grown hg4 hbw.size fun g hg => (ho.lt g hg).1⟩
          case measure => simp [intOf]
        · obtain ⟨A3, c3, rfl⟩ := own_slice ho
          go_wp2_with (at_builtin; refine wpl_append _ rfl (.tmp 31) (.tmp 32) _ rfl w.heap.size 9 i0 _ 1 16 Try.underlying62 hi hz0 hz1 hz2 rfl (by omega) _ n1 _ rfl ho w.heap.size A2 n2 c2 xs2 rfl (H2.out.below hbw) O2.out E3.out E4.out hbw.size ?_; intro v4 w4 ho4 hg4 hat4)
          go_roundw
          case rel => exact ⟨.inr (.inr ⟨rfl, ho4⟩), hbw.grown hg4 hbw.size fun g hg => (ho.lt g hg).1⟩
          case measure => simp [intOf]
        · obtain ⟨A3, c3, rfl⟩ := own_slice ho
          go_wp2_with fail
          go_ret
          exact ⟨A3, c3, rfl, ho, hbw⟩
end Go.Proofs.Ytgibbhipjpbdfaa

/- The pattern of phases on the program's side: repeats, comparisons. -/
namespace Go.Proofs.Ytgibbhipjpbdfaa
open Go.RowKit
set_option maxRecDepth 100000 in
set_option maxHeartbeats 1000000 in
theorem repeats_c (A : Option Addr) (n c k : Nat) (B : List Int) (w : World) (h : Sl w w.heap.size 1 A n (B.flatMap nC)) (hi : inN B) (h1 : 1 ≤ n) (hm : n ≤ 200000) (hk : k ≤ n) :
    Calls Try.prog 69 #[.slice A n c, .int .i64 k] w fun e w' => e = .returned (.bool (cycB B k)) ∧ Below w.heap.size w w' := by
  have hl : B.length = n := h.len nC 1 nC_len (by omega)
  have Hl := Lib.hid hl; clear hl
  have Hi := Lib.hid hi; clear hi
  go_enter Try.func69, Try.ntmps69
  go_wp2_with fail
  go_loopw [8] (fun i wr => ∃ t : Nat, t ≤ n ∧ i = .int .i64 t ∧ Hid (∀ r, r < t → B[r]? = B[(r + k) % n]?) ∧ Below w.heap.size w wr) (fun i _ => n - (intOf i).toNat)
  case atStart => exact ⟨0, Nat.zero_le _, rfl, Lib.hid (fun r hr => absurd hr (by omega)), Below.refl _ _⟩
  case round =>
    obtain ⟨t, ht, rfl, Hs, hbw⟩ := hrel
    have t0 : (0 : Int) ≤ (t : Int) := by omega
    by_cases hlt : t < n
    · have t1 : (t : Int) < (n : Int) := by omega
      have m1 : (t + k) % n < n := Nat.mod_lt _ (by omega)
      have em1 : ((t : Int) + (k : Int)) % (n : Int) = (((t + k) % n : Nat) : Int) := by push_cast; rfl
      obtain ⟨b, off, x, rfl, hb, hx, c0⟩ := h.nm t hlt
      obtain ⟨b2, off2, y, e2, _, hy, c2⟩ := h.nm ((t + k) % n) m1
      injection e2 with e2; injection e2 with e3 e4 _
      subst e3 e4
      have xb := Hi.out x (List.mem_of_getElem? hx)
      have yb := Hi.out y (List.mem_of_getElem? hy)
      obtain ⟨r1, hr1⟩ : ∃ r, (t + k) % n = r := ⟨_, rfl⟩
      rw [hr1] at em1 m1 c2 hy
      have i2 : (0 : Int) ≤ (r1 : Int) := by omega
      have i3 : (r1 : Int) < (n : Int) := by omega
      have q0 := (keepC hbw b hb (off + t)).trans c0
      have q1 := (keepC hbw b hb (off + r1)).trans c2
      have hbq := name_beq xb yb
      have Hr1 := Lib.hid hr1; clear hr1
      have Hx := Lib.hid hx; clear hx
      have Hy := Lib.hid hy; clear hy
      clear c0 c2
      by_cases hxy : x = y
      · subst hxy
        rw [decide_eq_true rfl] at hbq
        go_wp2_with fail
        go_quiet (fail)
        go_wp2_with fail
        go_roundw
        case rel => exact ⟨t + 1, by omega, by go_num, Lib.hid (fun r hr => by
          rcases Nat.lt_or_ge r t with h2 | h2
          · exact Hs.out r h2
          · obtain rfl : r = t := by omega
            rw [Hr1.out, Hx.out, Hy.out]), below_drewN hbw _⟩
        case measure => simp [intOf]; omega
      · rw [decide_eq_false hxy] at hbq
        have hno : cycB B k = false := by
          rw [cycB]
          refine allB_no (k := t) (by rw [Hl.out]; exact hlt) (decide_eq_false fun e => hxy ?_)
          rw [Hl.out, Hr1.out, Hx.out, Hy.out] at e
          exact Option.some.inj e
        have Hno := Lib.hid hno; clear hno
        clear hxy
        go_wp2_with fail
        go_quiet (fail)
        go_wp2_with fail
        go_ret
        exact ⟨ret_eq (bool_eq Hno.out.symm), below_drewN hbw _⟩
    · obtain rfl : t = n := by omega
      have hyes : cycB B k = true := cyc_iff.2 fun i hi => by rw [Hl.out] at hi ⊢; exact Hs.out i hi
      have Hyes := Lib.hid hyes; clear hyes
      go_wp2_with fail
      go_ret
      exact ⟨ret_eq (bool_eq Hyes.out.symm), hbw⟩
theorem isNaNS_c (s : ByteArray) (w : World) : Calls Try.prog 118 #[.string s] w fun e w' => e = .returned (.bool false) ∧ w = w' := by
  have h : (s.toList == s.toList) = true := by simp
  go_enter Try.func118, Try.ntmps118
  go_wp2_with fail
  go_ret
  exact ⟨rfl, rfl⟩
set_option maxHeartbeats 1000000 in
theorem cmpName_c (x y : Int) (hx : 0 ≤ x ∧ x ≤ 255) (hy : 0 ≤ y ∧ y ≤ 255) (w : World) : Calls Try.prog 115 #[.string (nameC x), .string (nameC y)] w fun e w' => e = .returned (.int .i64 (if x < y then -1 else if x = y then 0 else 1)) ∧ w = w' := by
  have hb := name_beq hx hy
  have hl := name_less hx hy
  by_cases h1 : x < y
  · rw [if_pos h1]
    rw [decide_eq_true h1] at hl
    clear h1 hb
    go_enter Try.func115, Try.ntmps115
    go_wp2_with ((go_at_call 118; refine (isNaNS_c _ _).mono ?_; rintro e w1 ⟨rfl, rfl⟩))
    go_ret
    exact ⟨rfl, rfl⟩
  · rw [if_neg h1]
    rw [decide_eq_false h1] at hl
    by_cases h2 : x = y
    · rw [if_pos h2]
      rw [decide_eq_true h2] at hb
      clear h1 h2
      go_enter Try.func115, Try.ntmps115
      go_wp2_with ((go_at_call 118; refine (isNaNS_c _ _).mono ?_; rintro e w1 ⟨rfl, rfl⟩))
      go_ret
      exact ⟨rfl, rfl⟩
    · rw [if_neg h2]
      rw [decide_eq_false h2] at hb
      clear h1 h2
      go_enter Try.func115, Try.ntmps115
      go_wp2_with ((go_at_call 118; refine (isNaNS_c _ _).mono ?_; rintro e w1 ⟨rfl, rfl⟩))
      go_ret
      exact ⟨rfl, rfl⟩
set_option maxRecDepth 100000 in
set_option maxHeartbeats 1000000 in
theorem compareS_c (A1 : Option Addr) (n c1 : Nat) (X : List Int) (A2 : Option Addr) (c2 : Nat) (Y : List Int) (w : World) (h1 : Sl w w.heap.size 1 A1 n (X.flatMap nC)) (h2 : Sl w w.heap.size 1 A2 n (Y.flatMap nC)) (i1 : inN X) (i2 : inN Y) (hm : n ≤ 200000) :
    Calls Try.prog 110 #[.slice A1 n c1, .slice A2 n c2] w fun e w' => ∃ r : Int, e = .returned (.int .i64 r) ∧ decide (r < 0) = ltB X Y ∧ w = w' := by
  have l1 : X.length = n := h1.len nC 1 nC_len (by omega)
  have l2 : Y.length = n := h2.len nC 1 nC_len (by omega)
  have L1 := Lib.hid l1; clear l1
  have L2 := Lib.hid l2; clear l2
  have I1 := Lib.hid i1; clear i1
  have I2 := Lib.hid i2; clear i2
  go_enter Try.func110, Try.ntmps110
  go_wp2_with fail
  go_loop [11] (fun i => ∃ k : Nat, k ≤ n ∧ i = .int .i64 k ∧ Hid (∀ r, r < k → X[r]? = Y[r]?)) (fun i => n - (intOf i).toNat)
  case atStart => exact ⟨0, Nat.zero_le _, rfl, Lib.hid (fun r hr => absurd hr (by omega))⟩
  case round =>
    obtain ⟨k, hk, rfl, Hs⟩ := hrel
    have k0 : (0 : Int) ≤ (k : Int) := by omega
    by_cases hlt : k < n
    · have k1 : (k : Int) < (n : Int) := by omega
      obtain ⟨b, off, x, rfl, hb, hx, q0⟩ := h1.nm k hlt
      obtain ⟨b2, off2, y, rfl, _, hy, q1⟩ := h2.nm k hlt
      have xb := I1.out x (List.mem_of_getElem? hx)
      have yb := I2.out y (List.mem_of_getElem? hy)
      have hC := cmpName_c x y xb yb w
      by_cases hxy : x = y
      · subst hxy
        rw [if_neg (by omega), if_pos rfl] at hC
        have Hx := Lib.hid hx; clear hx
        have Hy := Lib.hid hy; clear hy
        have HC := Lib.hid hC; clear hC
        go_wp2_with fail
        refine HC.out.mono ?_
        rintro e w1 ⟨rfl, rfl⟩
        go_wp2_with fail
        go_round
        case rel => exact ⟨k + 1, by omega, by go_num, Lib.hid (fun r hr => by
          rcases Nat.lt_or_ge r k with h2 | h2
          · exact Hs.out r h2
          · obtain rfl : r = k := by omega
            rw [Hx.out, Hy.out])⟩
        case measure => simp [intOf]; omega
      · have hlb := lt_at Hs.out hx hy hxy
        by_cases hls : x < y
        · rw [if_pos hls] at hC
          rw [decide_eq_true hls] at hlb
          have Hx := Lib.hid hx; clear hx
          have Hy := Lib.hid hy; clear hy
          have HC := Lib.hid hC; clear hC
          have Hlb := Lib.hid hlb; clear hlb
          go_wp2_with fail
          refine HC.out.mono ?_
          rintro e w1 ⟨rfl, rfl⟩
          go_wp2_with fail
          go_ret
          exact ⟨-1, rfl, by rw [Hlb.out]; rfl, rfl⟩
        · rw [if_neg hls, if_neg hxy] at hC
          rw [decide_eq_false hls] at hlb
          have Hx := Lib.hid hx; clear hx
          have Hy := Lib.hid hy; clear hy
          have HC := Lib.hid hC; clear hC
          have Hlb := Lib.hid hlb; clear hlb
          go_wp2_with fail
          refine HC.out.mono ?_
          rintro e w1 ⟨rfl, rfl⟩
          go_wp2_with fail
          go_ret
          exact ⟨1, rfl, by rw [Hlb.out]; rfl, rfl⟩
    · obtain rfl : k = n := by omega
      have hls := lt_same Hs.out L1.out L2.out
      have Hls := Lib.hid hls; clear hls
      go_wp2_with fail
      go_ret
      exact ⟨0, rfl, by rw [Hls.out]; rfl, rfl⟩
end Go.Proofs.Ytgibbhipjpbdfaa

/- The pattern of phases on the program's side: tenths, one period, rotations, the normal pattern. -/
namespace Go.Proofs.Ytgibbhipjpbdfaa
open Go.RowKit
set_option maxRecDepth 100000 in
set_option maxHeartbeats 2000000 in
theorem tenths_c (A : Option Addr) (n c : Nat) (ps : List Ph) (w : World) (h : Sl w w.heap.size 2 A n (ps.flatMap Ph.cells)) (hm : n ≤ 200) (hb : ∀ p ∈ ps, 0 ≤ p.len ∧ p.len ≤ 600) (ho : ∀ p ∈ ps, okS p.c) :
    Calls Try.prog 54 #[.slice A n c] w fun e w' => ∃ v, e = .returned v ∧ w'.ownsRow w.heap.size 9 1 v (tenC ps).length ((tenC ps).flatMap nC) ∧ Below w.heap.size w w' := by
  obtain ⟨p0, hp, hy0, hy1, hy2⟩ := info_parts strInfoC
  have hl := h.len Ph.cells 2 Ph.cells_len (by omega)
  have hov : (w.alloc (.cells #[] 9)).ownsRow w.heap.size 9 1 (.slice (some ⟨w.heap.size, 0, none⟩) 0 0) 0 [] := World.ownsRow_made w #[] 0 (Nat.le_refl _) (by simp [maxLen]) rfl
  have hbv : Below w.heap.size w (w.alloc (.cells #[] 9)) := (Below.refl _ _).alloc (Nat.le_refl _) _
  have Hl := Lib.hid hl; clear hl
  have Hb := Lib.hid hb; clear hb
  have Ho := Lib.hid ho; clear ho
  go_enter Try.func54, Try.ntmps54
  go_wp2_with fail
  go_loopw [3, 9] (fun v i wr => ∃ k : Nat, k ≤ n ∧ i = .int .i64 k ∧ wr.ownsRow w.heap.size 9 1 v (tenC (ps.take k)).length ((tenC (ps.take k)).flatMap nC) ∧ Below w.heap.size w wr) (fun _ i _ => n - (intOf i).toNat)
  case atStart => exact ⟨0, Nat.zero_le _, rfl, hov, hbv⟩
  case round =>
    clear hov hbv
    obtain ⟨k, hk, rfl, hov, hbw⟩ := hrel
    by_cases hlt : k < n
    · obtain ⟨b, off, p, rfl, hb', hx, d0, d1⟩ := h.ph k hlt
      have q0 := (keepC hbw b hb' _).trans d0
      have q1 := (keepC hbw b hb' _).trans d1
      obtain ⟨l0, l1⟩ := Hb.out p (List.mem_of_getElem? hx)
      have hcd : nameC (code p.c) = p.c := name_code (Ho.out p (List.mem_of_getElem? hx))
      have hnx := tenC_next hx
      have hlen : (tenC (ps.take k)).length ≤ 600 * k := by
        have := tenC_len (ps := ps.take k) fun p hp => Hb.out p (List.mem_of_mem_take hp)
        rw [List.length_take] at this
        omega
      obtain ⟨B, hB⟩ : ∃ B, tenC (ps.take k) = B := ⟨_, rfl⟩
      rw [hB] at hov hnx hlen
      obtain ⟨cd, hcde⟩ : ∃ cd, code p.c = cd := ⟨_, rfl⟩
      rw [hcde] at hcd hnx
      rw [← hcd] at q0
      obtain ⟨A3, c3, rfl⟩ := own_slice hov
      obtain ⟨L, hL⟩ : ∃ L : Nat, p.len = L := ⟨p.len.toNat, by omega⟩
      rw [hL, Int.toNat_natCast] at hnx
      rw [hL] at q1 l1
      have hbX : Below wr.heap.size wr (wr.alloc (.cells #[.string (nameC cd), .int .i64 (L : Int)] 58)) := (Below.refl _ _).alloc (Nat.le_refl _) _
      have hoX := lit_own wr w.heap.size 58 #[.string (nameC cd), .int .i64 (L : Int)] 1 2 hbw.size (by decide) rfl
      have hoV := own_next hov hbX
      have hbx := hbw.trans (hbX.mono hbw.size)
      obtain ⟨wx, hwx⟩ : ∃ wx, wr.alloc (.cells #[.string (nameC cd), .int .i64 (L : Int)] 58) = wx := ⟨_, rfl⟩
      obtain ⟨g, hg⟩ : ∃ g, wr.heap.size = g := ⟨_, rfl⟩
      rw [hwx] at hoX hoV hbx
      rw [hg] at hoX
      have x0 := hoX.cellAt 0 (by omega)
      have x1 := hoX.cellAt 1 (by omega)
      simp only [List.getElem?_cons_zero, List.getElem?_cons_succ] at x0 x1
      have j0 : (0 : Int) ≤ (k : Int) := by omega
      have j1 : (k : Int) < (n : Int) := by omega
      have HB := Lib.hid hB; clear hB
      have Hx := Lib.hid hx; clear hx
      have HL := Lib.hid hL; clear hL
      have Hnx := Lib.hid hnx; clear hnx
      have Hcd := Lib.hid hcd; clear hcd
      have Hcde := Lib.hid hcde; clear hcde
      clear hov hbw hbX d0 d1
      go_wp2_with fail
      try rw [hwx]
      try rw [hg]
      clear hwx hg q0 q1 x0 x1
      go_loopw [3, 15] (fun v i wr2 => ∃ j : Nat, j ≤ L ∧ i = .int .i64 j ∧ wr2.ownsRow w.heap.size 9 1 v (B.length + j) ((B ++ List.replicate j cd).flatMap nC) ∧ wr2.ownsRow w.heap.size 58 2 (.slice (some ⟨g, 0, none⟩) 1 1) 1 [.string (nameC cd), .int .i64 (L : Int)] ∧ Below w.heap.size w wr2) (fun _ i _ => L - (intOf i).toNat)
      case atStart => exact ⟨0, Nat.zero_le _, rfl, by simpa using hoV, hoX, hbx⟩
      case round =>
        clear hoV hoX hbx
        obtain ⟨j, hj, rfl, hov, hoX, hbw⟩ := hrel
        obtain ⟨A3, c3, rfl⟩ := own_slice hov
        have x0 := hoX.cellAt 0 (by omega)
        have x1 := hoX.cellAt 1 (by omega)
        simp only [List.getElem?_cons_zero, List.getElem?_cons_succ] at x0 x1
        have i0 : (0 : Int) ≤ (j : Int) := by omega
        by_cases hlj : j < L
        · have i1 : (j : Int) < (L : Int) := by omega
          have e63 : B.length + j + 1 ≤ maxLen := by unfold maxLen; omega
          have e32 : (B.length + j + 1) * 16 ≤ 140737488355328 := by omega
          have E63 := Lib.hid e63; clear e63
          have E32 := Lib.hid e32; clear e32
          go_wp2_with (at_builtin; refine wpl_append _ rfl (.tmp 17) (.tmp 20) _ rfl w.heap.size 9 p0 _ 1 16 Try.underlying62 hp hy0 hy1 hy2 rfl (by omega) _ (B.length + j) _ rfl (hov.alloc _) (wr.heap.size + 1) (some ⟨wr.heap.size, 0, none⟩) 1 1 (nC cd) rfl (Sl.new wr 9 _ 1 1 rfl) (nC_one _) E63.out E32.out (le_alloc hbw.size _) ?_; intro v4 w4 ho4 hg4 hat4)
          go_roundw
          case rel =>
            have hoX2 := own_grown (hoX.alloc (.cells #[.string (nameC cd)] 9)) hg4 (own_ne (hoX.alloc (.cells #[.string (nameC cd)] 9)) (hov.alloc _) (by decide))
            refine ⟨j + 1, by omega, by go_num, ?_, hoX2, (hbw.alloc hbw.size _).grown hg4 (le_alloc hbw.size _) fun g hg => (hov.lt g hg).1⟩
            rw [List.replicate_succ', ← List.append_assoc, List.flatMap_append]
            simpa [Nat.add_assoc] using ho4
          case measure => simp [intOf]; omega
        · obtain rfl : j = L := by omega
          go_wp2_with fail
          go_roundw
          case rel =>
            refine ⟨k + 1, by omega, by go_num, ?_, hbw⟩
            rw [Hnx.out]
            simpa using hov
          case measure => simp [intOf]; omega
    · obtain rfl : k = n := by omega
      rw [List.take_of_length_le (by rw [Hl.out]; omega)] at hov
      obtain ⟨A3, c3, rfl⟩ := own_slice hov
      go_wp2_with fail
      go_ret
      exact ⟨_, rfl, hov, hbw⟩
set_option maxRecDepth 100000 in
set_option maxHeartbeats 2000000 in
theorem onePeriod_c (A : Option Addr) (n c : Nat) (ps : List Ph) (w : World) (h : Sl w w.heap.size 2 A n (ps.flatMap Ph.cells)) (hm : n ≤ 200) (hb : ∀ p ∈ ps, 0 ≤ p.len ∧ p.len ≤ 600) (ho : ∀ p ∈ ps, okS p.c) (h1 : 1 ≤ (tenC ps).length) :
    Calls Try.prog 34 #[.slice A n c] w fun e w' => ∃ A' m c', e = .returned (.slice A' m c') ∧ m = (onceB (tenC ps)).length ∧ m ≤ c' ∧ Sl w' w'.heap.size 1 A' m ((onceB (tenC ps)).flatMap nC) ∧ Below w.heap.size w w' := by
  have hl := h.len Ph.cells 2 Ph.cells_len (by omega)
  have hlen := tenC_len hb
  rw [hl] at hlen
  have hT := tenths_c A n c ps w h hm hb ho
  have hin := inN_ten ps
  obtain ⟨B, hB⟩ : ∃ B, tenC ps = B := ⟨_, rfl⟩
  rw [hB] at hlen h1 hT hin ⊢
  obtain ⟨L, hL⟩ : ∃ L, B.length = L := ⟨_, rfl⟩
  rw [hL] at hlen h1 hT
  have hpi := per_is (B := B) (by omega)
  have hol : (onceB B).length = perN B := by rw [onceB, List.length_take]; have := hpi.hi; omega
  obtain ⟨Q, hQ⟩ : ∃ Q, perN B = Q := ⟨_, rfl⟩
  rw [hQ] at hpi hol
  have hoc : onceB B = B.take Q := by rw [onceB, hQ]
  rw [hoc]
  rw [hoc] at hol
  have pl := hpi.lo
  have ph := hpi.hi
  rw [hL] at ph
  have HB := Lib.hid hB; clear hB
  have HL := Lib.hid hL; clear hL
  have HQ := Lib.hid hQ; clear hQ
  have Hpi := Lib.hid hpi; clear hpi
  have Hol := Lib.hid hol; clear hol
  have Hoc := Lib.hid hoc; clear hoc
  have HT := Lib.hid hT; clear hT
  have Hl := Lib.hid hl; clear hl
  have Hb := Lib.hid hb; clear hb
  have Ho := Lib.hid ho; clear ho
  have Hin := Lib.hid hin; clear hin
  go_enter Try.func34, Try.ntmps34
  go_wp2_with fail
  refine HT.out.mono ?_
  rintro e w1 ⟨v, rfl, ho1, hb1⟩
  obtain ⟨g, c1, rfl, hg, hg'⟩ := ho1.form h1
  have hcap := own_cap ho1
  have s1 := Sl.of_own ho1
  go_wp2_with fail
  go_loopw [4] (fun i wr => ∃ k : Nat, 1 ≤ k ∧ k ≤ Q ∧ i = .int .i64 k ∧ Below w1.heap.size w1 wr) (fun i _ => Q - (intOf i).toNat)
  case atStart => exact ⟨1, Nat.le_refl _, pl, rfl, Below.refl _ _⟩
  case round =>
    obtain ⟨k, hk1, hk, rfl, hbw⟩ := hrel
    have k0 : (1 : Int) ≤ (k : Int) := by omega
    have hR := repeats_c (some ⟨g, 0, none⟩) L c1 k B wr (s1.next hbw) Hin.out h1 (by omega) (by omega)
    by_cases hlt : k < Q
    · rw [Hpi.out.least k hk1 hlt] at hR
      have HR := Lib.hid hR; clear hR
      go_wp2_with fail
      refine HR.out.mono ?_
      rintro e w2 ⟨rfl, hb2⟩
      go_wp2_with fail
      go_roundw
      case rel => exact ⟨k + 1, by omega, by omega, by go_num, hbw.trans (hb2.mono hbw.size)⟩
      case measure => simp [intOf]; omega
    · obtain rfl : k = Q := by omega
      rw [Hpi.out.cyc] at hR
      have p3 : k ≤ c1 := by omega
      have p4 : c1 ≠ 0 := by omega
      have p5 : (0 : Int) ≤ (k : Int) := by omega
      have p6 : (k : Int) ≤ (c1 : Int) := by omega
      have HR := Lib.hid hR; clear hR
      go_wp2_with fail
      refine HR.out.mono ?_
      rintro e w2 ⟨rfl, hb2⟩
      go_wp2_with fail
      go_ret
      have hb3 := hbw.trans (hb2.mono hbw.size)
      have s2 := (s1.next hb3).pre nC 1 nC_len k (by omega)
      exact ⟨_, _, _, rfl, Hol.out.symm, p3, s2, hb1.trans (hb3.mono hb1.size)⟩
theorem drop_nC (B : List Int) (k : Nat) : (B.drop k).flatMap nC = (B.flatMap nC).drop k := by
  induction B generalizing k with
  | nil => simp
  | cons y ys ih =>
    cases k with
    | zero => rfl
    | succ k => rw [List.flatMap_cons, List.drop_succ_cons, ih]; rfl
/-- A slice of names from an index on. -/
theorem Sl.sufN {w : World} {Bk n : Nat} {b off : Nat} {B : List Int} (h : Sl w Bk 1 (some ⟨b, off, none⟩) n (B.flatMap nC)) (j : Nat) (hj : j ≤ n) : Sl w Bk 1 (some ⟨b, off + j, none⟩) (n - j) ((B.drop j).flatMap nC) := by
  have hl : B.length = n := h.len nC 1 nC_len (by omega)
  refine ⟨by rw [flat_len nC 1 nC_len, List.length_drop, hl], fun hpos => ?_⟩
  obtain ⟨b', off', e, hlt, hc⟩ := h.2 (by omega)
  injection e with e
  injection e with e1 e2 _
  subst e1 e2
  refine ⟨b, off + j, rfl, hlt, fun q u hu => ?_⟩
  have hd := drop_nC B j
  rw [hd, List.getElem?_drop] at hu
  have := hc (j + q) u hu
  rwa [← Nat.add_assoc] at this
theorem nC_ones (B : List Int) : ∀ u ∈ B.flatMap nC, u.oneCell' = true := fun u hu => by
  obtain ⟨b, _, hb⟩ := List.mem_flatMap.1 hu
  exact nC_one b u hb
set_option maxRecDepth 100000 in
set_option maxHeartbeats 2000000 in
theorem rotated_c (b off n c t : Nat) (B : List Int) (w : World) (h : Sl w w.heap.size 1 (some ⟨b, off, none⟩) n (B.flatMap nC)) (hc : n ≤ c) (ht : t < n) (hm : n ≤ 200000) :
    Calls Try.prog 56 #[.slice (some ⟨b, off, none⟩) n c, .int .i64 t] w fun e w' => ∃ A c', e = .returned (.slice A n c') ∧ w'.ownsRow w.heap.size 9 1 (.slice A n c') n ((rotB B t).flatMap nC) ∧ Below w.heap.size w w' := by
  have s1 := h.sufN t (by omega)
  have s2 := h.pre nC 1 nC_len t (by omega)
  have hnn : n - t + t = n := by omega
  have t0 : (0 : Int) ≤ (t : Int) := by omega
  have t1 : (t : Int) ≤ (n : Int) := by omega
  have t2 : (t : Int) ≤ (c : Int) := by omega
  have t3 : ¬ c = t := by omega
  have t4 : t ≤ n := by omega
  have t5 : t ≤ c := by omega
  have hrot : (B.drop t).flatMap nC ++ (B.take t).flatMap nC = (rotB B t).flatMap nC := by rw [rotB, List.flatMap_append]
  have S1 := Lib.hid s1; clear s1
  have S2 := Lib.hid s2; clear s2
  have Hnn := Lib.hid hnn; clear hnn
  have Hrot := Lib.hid hrot; clear hrot
  have H := Lib.hid h; clear h
  go_enter Try.func56, Try.ntmps56
  go_wp2_with fail
  have e1 : ∀ {w' : World}, Below w.heap.size w w' → Below w.heap.size w w' := fun h => h
  refine wp_region_held_drew (S := fun w' => Below w.heap.size w w') (by kernel_rfl) (e1 (Below.refl _ _).drew) (fun hHeld => ?_)
  (first
    | (refine wpAnyH_take (i := 0) (v := ?_) rfl (by kernel_rfl) (by kernel_rfl) (by kernel_rfl) (fun _ _ _ h => h) (Or.inl ⟨by rfl, ?_⟩) (by assumption) ?_
       rotate_left
       focus (intro wq hSq; (try dsimp only at hSq); go_simp; (try (with_reducible rfl)); done))
    | (refine wpAnyH_take (i := 0) (v := undef) rfl (by kernel_rfl) (by kernel_rfl) (by kernel_rfl) (fun _ _ _ h => h) (Or.inr ⟨by rfl, rfl⟩) (by assumption) ?_)
    | fail "take 0")
  try simp only [Act.put, List.setIfInBounds_toArray, List.set_cons_zero, List.set_cons_succ, List.getElem_toArray, List.getElem_cons_zero]
  (first
    | (refine wpAnyH_take (i := 1) (v := ?_) rfl (by kernel_rfl) (by kernel_rfl) (by kernel_rfl) (fun _ _ _ h => h) (Or.inl ⟨by rfl, ?_⟩) (by assumption) ?_
       rotate_left
       focus (intro wq hSq; (try dsimp only at hSq); go_simp; (try (with_reducible rfl)); done))
    | (refine wpAnyH_take (i := 1) (v := undef) rfl (by kernel_rfl) (by kernel_rfl) (by kernel_rfl) (fun _ _ _ h => h) (Or.inr ⟨by rfl, rfl⟩) (by assumption) ?_)
    | fail "take 1")
  try simp only [Act.put, List.setIfInBounds_toArray, List.set_cons_zero, List.set_cons_succ, List.getElem_toArray, List.getElem_cons_zero, List.getElem_cons_succ]
  (first
    | (refine wpAnyH_take (i := 2) (v := ?_) rfl (by kernel_rfl) (by kernel_rfl) (by kernel_rfl) (fun _ _ _ h => h) (Or.inl ⟨by rfl, ?_⟩) (by assumption) ?_
       rotate_left
       focus (intro wq hSq; (try dsimp only at hSq); go_simp; (try (with_reducible rfl)); done))
    | (refine wpAnyH_take (i := 2) (v := undef) rfl (by kernel_rfl) (by kernel_rfl) (by kernel_rfl) (fun _ _ _ h => h) (Or.inr ⟨by rfl, rfl⟩) (by assumption) ?_)
    | fail "take 2")
  try simp only [Act.put, List.setIfInBounds_toArray, List.set_cons_zero, List.set_cons_succ, List.getElem_toArray, List.getElem_cons_zero, List.getElem_cons_succ]
  (first
    | (refine wpAnyH_take (i := 3) (v := ?_) rfl (by kernel_rfl) (by kernel_rfl) (by kernel_rfl) (fun _ _ _ h => h) (Or.inl ⟨by rfl, ?_⟩) (by assumption) ?_
       rotate_left
       focus (intro wq hSq; (try dsimp only at hSq); go_simp; (try (with_reducible rfl)); done))
    | (refine wpAnyH_take (i := 3) (v := undef) rfl (by kernel_rfl) (by kernel_rfl) (by kernel_rfl) (fun _ _ _ h => h) (Or.inr ⟨by rfl, rfl⟩) (by assumption) ?_)
    | fail "take 3")
  try simp only [Act.put, List.setIfInBounds_toArray, List.set_cons_zero, List.set_cons_succ, List.getElem_toArray, List.getElem_cons_zero, List.getElem_cons_succ]
  (first
    | (refine wpAnyH_take (i := 4) (v := ?_) rfl (by kernel_rfl) (by kernel_rfl) (by kernel_rfl) (fun _ _ _ h => h) (Or.inl ⟨by rfl, ?_⟩) (by assumption) ?_
       rotate_left
       focus (intro wq hSq; (try dsimp only at hSq); go_simp; (try (with_reducible rfl)); done))
    | (refine wpAnyH_take (i := 4) (v := undef) rfl (by kernel_rfl) (by kernel_rfl) (by kernel_rfl) (fun _ _ _ h => h) (Or.inr ⟨by rfl, rfl⟩) (by assumption) ?_)
    | fail "take 4")
  try simp only [Act.put, List.setIfInBounds_toArray, List.set_cons_zero, List.set_cons_succ, List.getElem_toArray, List.getElem_cons_zero, List.getElem_cons_succ]
  (first
    | (refine wpAnyH_take (i := 5) (v := ?_) rfl (by kernel_rfl) (by kernel_rfl) (by kernel_rfl) (fun _ _ _ h => h) (Or.inl ⟨by rfl, ?_⟩) (by assumption) ?_
       rotate_left
       focus (intro wq hSq; (try dsimp only at hSq); go_simp; (try (with_reducible rfl)); done))
    | (refine wpAnyH_take (i := 5) (v := undef) rfl (by kernel_rfl) (by kernel_rfl) (by kernel_rfl) (fun _ _ _ h => h) (Or.inr ⟨by rfl, rfl⟩) (by assumption) ?_)
    | fail "take 5")
  try simp only [Act.put, List.setIfInBounds_toArray, List.set_cons_zero, List.set_cons_succ, List.getElem_toArray, List.getElem_cons_zero, List.getElem_cons_succ]
  have hbA : Below w.heap.size w (w.drew.alloc (.cells #[.slice (some ⟨b, off + t, none⟩) (n - t) (c - t), .slice (some ⟨b, off, none⟩) t c] 62)) := (Below.refl _ _).drew.alloc (Nat.le_refl _) _
  have hal := heap_alloc_new w.drew (.cells #[.slice (some ⟨b, off + t, none⟩) (n - t) (c - t), .slice (some ⟨b, off, none⟩) t c] 62)
  refine wpAnyH_ready (rs := [6]) (by kernel_rfl) (by simp) ?_
  refine AllReadyH.cons (o := _) rfl (fun K hK => ?_) AllReadyH.nil
  go_simp
  skip
  refine hK.out _ _ ?_ (fun hHeld => ?_)
  · exact e1 (by (repeat (first | (with_reducible assumption) | (with_reducible exact Below.refl _ _) | exact Nat.le_refl _ | exact Below.size (by with_reducible assumption) | (with_reducible refine Below.drew ?_) | (with_reducible refine below_drewN ?_ _) | (with_reducible refine Below.alloc ?_ ?_ _) | (with_reducible refine Below.setCell ?_ ?_ _) | (with_reducible refine le_alloc ?_ _) | (with_reducible refine le_set ?_ _ _) | (with_reducible refine le_drew ?_) | (with_reducible refine le_drewN ?_ _) | omega | (dsimp only; omega))))
  clear hK K
  try simp only [Act.put, List.setIfInBounds_toArray, List.set_cons_zero, List.set_cons_succ, List.getElem_toArray, List.getElem_cons_zero, List.getElem_cons_succ]
  have hC := concatS_c w.heap.size (some ⟨b, off + t, none⟩) (n - t) (c - t) (some ⟨b, off, none⟩) t c _ _ _ (S1.out.next hbA) (S2.out.next hbA) ((cell_of_row _ w.heap.size 0 _ _ _ hal).trans rfl) ((cell_of_row _ w.heap.size 1 _ _ _ hal).trans rfl) (by simp) (by omega) (by omega) (nC_ones _) (nC_ones _)
  rw [Hnn.out, Hrot.out] at hC
  refine wpAnyH_ready (rs := [7]) (by kernel_rfl) (by simp) ?_
  refine AllReadyH.cons (o := _) rfl (fun K hK => ?_) AllReadyH.nil
  go_simp
  refine hC.mono ?_; rintro e w2 ⟨A2, c2, rfl, ho2, hb2⟩; have hb12 : Below w.heap.size w w2 := hbA.trans (hb2.mono hbA.size)
  refine hK.out _ _ ?_ (fun hHeld => ?_)
  · exact e1 hb12
  clear hK K
  try simp only [Act.put, List.setIfInBounds_toArray, List.set_cons_zero, List.set_cons_succ, List.getElem_toArray, List.getElem_cons_zero, List.getElem_cons_succ]
  (first
    | (refine wpAnyH_take (i := 8) (v := ?_) rfl (by kernel_rfl) (by kernel_rfl) (by kernel_rfl) (fun _ _ _ h => h) (Or.inl ⟨by rfl, ?_⟩) (by assumption) ?_
       rotate_left
       focus (intro wq hSq; (try dsimp only at hSq); go_simp; (try (with_reducible rfl)); done))
    | (refine wpAnyH_take (i := 8) (v := undef) rfl (by kernel_rfl) (by kernel_rfl) (by kernel_rfl) (fun _ _ _ h => h) (Or.inr ⟨by rfl, rfl⟩) (by assumption) ?_)
    | fail "take 8")
  try simp only [Act.put, List.setIfInBounds_toArray, List.set_cons_zero, List.set_cons_succ, List.getElem_toArray, List.getElem_cons_zero, List.getElem_cons_succ]
  refine wpAnyH_done (by kernel_rfl) ?_ _
  have ho3 := own_base ho2 hbA.size
  clear hC ho2 hHeld hal
  go_wp2_with fail
  go_ret
  exact ⟨A2, c2, rfl, ho3, hb12⟩
end Go.Proofs.Ytgibbhipjpbdfaa

/- The pattern of phases on the program's side: the normal pattern, runs. -/
namespace Go.Proofs.Ytgibbhipjpbdfaa
open Go.RowKit
set_option maxRecDepth 100000 in
set_option maxHeartbeats 2000000 in
theorem normal_c (A : Option Addr) (n c : Nat) (ps : List Ph) (w : World) (h : Sl w w.heap.size 2 A n (ps.flatMap Ph.cells)) (hm : n ≤ 200) (hb : ∀ p ∈ ps, 0 ≤ p.len ∧ p.len ≤ 600) (ho : ∀ p ∈ ps, okS p.c) (h1 : 1 ≤ (tenC ps).length) :
    Calls Try.prog 89 #[.slice A n c] w fun e w' => ∃ A' m c', e = .returned (.slice A' m c') ∧ m = (onceB (tenC ps)).length ∧ Sl w' w'.heap.size 1 A' m ((normB (onceB (tenC ps))).flatMap nC) ∧ Below w.heap.size w w' := by
  have hl := h.len Ph.cells 2 Ph.cells_len (by omega)
  have hlen := tenC_len hb
  rw [hl] at hlen
  have hP := onePeriod_c A n c ps w h hm hb ho h1
  have hon := once_len h1
  have hin : inN (onceB (tenC ps)) := inN_take (inN_ten ps) _
  obtain ⟨O, hO⟩ : ∃ O, onceB (tenC ps) = O := ⟨_, rfl⟩
  rw [hO] at hP hin hon ⊢
  obtain ⟨m, hmO⟩ : ∃ m, O.length = m := ⟨_, rfl⟩
  rw [hmO] at hP hon ⊢
  have m1 := hon.1
  have m2 : m ≤ 120000 := by omega
  have hbn := best_norm (B := O) (by omega)
  rw [hmO] at hbn
  clear hon hlen
  have HO := Lib.hid hO; clear hO
  have HmO := Lib.hid hmO; clear hmO
  have HP := Lib.hid hP; clear hP
  have Hin := Lib.hid hin; clear hin
  have Hbn := Lib.hid hbn; clear hbn
  have Hl := Lib.hid hl; clear hl
  have Hb := Lib.hid hb; clear hb
  have Ho := Lib.hid ho; clear ho
  have H1 := Lib.hid h1; clear h1
  go_enter Try.func89, Try.ntmps89
  go_wp2_with fail
  refine HP.out.mono ?_
  rintro e w1 ⟨A1, m', c1, rfl, rfl, hmc, s1, hb1⟩
  obtain ⟨b, off, rfl⟩ : ∃ b off, A1 = some ⟨b, off, none⟩ := by
    obtain ⟨b, off, x, e, _⟩ := s1.nm 0 (by omega)
    exact ⟨b, off, e⟩
  go_wp2_with fail
  go_loopw [4, 12] (fun v i wr => ∃ (t : Nat) (A2 : Option Addr) (c2 : Nat), t ≤ m' ∧ i = .int .i64 t ∧ v = .slice A2 m' c2 ∧ Sl wr wr.heap.size 1 A2 m' ((bestN O t).flatMap nC) ∧ Below w1.heap.size w1 wr) (fun _ i _ => m' - (intOf i).toNat)
  case atStart => exact ⟨0, _, _, Nat.zero_le _, rfl, rfl, s1, Below.refl _ _⟩
  case round =>
    obtain ⟨t, A2, c2, ht, rfl, rfl, s2, hbw⟩ := hrel
    have t0 : (0 : Int) ≤ (t : Int) := by omega
    by_cases hlt : t < m'
    · have t1 : (t : Int) < (m' : Int) := by omega
      have k1 : (t + m' - 1) % m' < m' := Nat.mod_lt _ (by omega)
      have em1 : ((t : Int) + (m' : Int) - 1) % (m' : Int) = (((t + m' - 1) % m' : Nat) : Int) := by
        rw [Int.natCast_emod]; congr 1; omega
      obtain ⟨b1, off1, x, e1, hb1', hx, d0⟩ := s1.nm t hlt
      obtain ⟨b2, off2, y, e2, _, hy, d1⟩ := s1.nm ((t + m' - 1) % m') k1
      injection e1 with e1; injection e1 with e3 e4 _
      injection e2 with e2; injection e2 with e5 e6 _
      subst e3 e4 e5 e6
      have xb := Hin.out x (List.mem_of_getElem? hx)
      have yb := Hin.out y (List.mem_of_getElem? hy)
      have hnx := bestN_next O t
      rw [HmO.out, hx, hy] at hnx
      obtain ⟨r1, hr1⟩ : ∃ r, (t + m' - 1) % m' = r := ⟨_, rfl⟩
      rw [hr1] at em1 k1 d1
      have i2 : (0 : Int) ≤ (r1 : Int) := by omega
      have i3 : (r1 : Int) < (m' : Int) := by omega
      have q0 := (keepC hbw b hb1' (off + t)).trans d0
      have q1 := (keepC hbw b hb1' (off + r1)).trans d1
      have hbq := name_beq xb yb
      have Hr1 := Lib.hid hr1; clear hr1
      have Hx := Lib.hid hx; clear hx
      have Hy := Lib.hid hy; clear hy
      clear d0 d1
      by_cases hxy : x = y
      · rw [if_pos (by rw [hxy])] at hnx
        rw [decide_eq_true hxy] at hbq
        have Hnx := Lib.hid hnx; clear hnx
        clear hxy
        go_wp2_with fail
        go_quiet (fail)
        go_wp2_with fail
        go_roundw
        case rel => exact ⟨t + 1, A2, c2, by omega, by go_num, rfl, by rw [Hnx.out]; exact s2.next (below_drewN (Below.refl _ _) _), below_drewN hbw _⟩
        case measure => simp [intOf]; omega
      · rw [if_neg (fun e => hxy (Option.some.inj e))] at hnx
        rw [decide_eq_false hxy] at hbq
        clear hxy
        have hR : ∀ q, Calls Try.prog 56 #[.slice (some ⟨b, off, none⟩) m' c1, .int .i64 t] (wr.drewN q) fun e w' => ∃ A c', e = .returned (.slice A m' c') ∧ w'.ownsRow wr.heap.size 9 1 (.slice A m' c') m' ((rotB O t).flatMap nC) ∧ Below wr.heap.size wr w' := fun q => by
          refine (rotated_c b off m' c1 t O (wr.drewN q) ((s1.next hbw).keep fun _ _ => rfl) hmc hlt (by omega)).mono ?_
          rintro e w' ⟨A, c', h1, h2, h3⟩
          exact ⟨A, c', h1, h2, (below_drewN (Below.refl wr.heap.size wr) q).trans h3⟩
        have hbi := bestN_in Hin.out (by rw [HmO.out]; omega) t (by rw [HmO.out]; omega)
        have hri := inN_rot Hin.out t
        have Hnx := Lib.hid hnx; clear hnx
        have HR := Lib.hid hR; clear hR
        have Hbi := Lib.hid hbi; clear hbi
        have Hri := Lib.hid hri; clear hri
        go_wp2_with fail
        go_quiet (fail)
        go_wp2_with fail
        refine (HR.out _).mono ?_
        rintro e w4 ⟨A4, c4, rfl, ho4, hb4⟩
        have s4 := Sl.of_own ho4
        have hC := compareS_c A4 m' c4 (rotB O t) A2 c2 (bestN O t) w4 s4 (s2.next hb4) Hri.out Hbi.out (by omega)
        have hbw4 := hbw.trans (hb4.mono hbw.size)
        have s24 := s2.next hb4
        have HC := Lib.hid hC; clear hC
        have S4 := Lib.hid s4; clear s4
        have S24 := Lib.hid s24; clear s24
        clear ho4 hb4 s2
        go_wp2_with fail
        refine HC.out.mono ?_
        rintro e w5 ⟨r, rfl, hr, rfl⟩
        by_cases hr0 : r < 0
        · have hL : ltB (rotB O t) (bestN O t) = true := by rw [← hr]; exact decide_eq_true hr0
          have HL := Lib.hid hL; clear hL
          clear hr
          go_wp2_with fail
          go_roundw
          case rel => exact ⟨t + 1, A4, c4, by omega, by go_num, rfl, by rw [Hnx.out, if_pos HL.out]; exact S4.out, hbw4⟩
          case measure => simp [intOf]; omega
        · have hL : ltB (rotB O t) (bestN O t) = false := by rw [← hr]; exact decide_eq_false hr0
          have HL := Lib.hid hL; clear hL
          clear hr
          go_wp2_with fail
          go_roundw
          case rel => exact ⟨t + 1, A2, c2, by omega, by go_num, rfl, by rw [Hnx.out, if_neg (by rw [HL.out]; simp)]; exact S24.out, hbw4⟩
          case measure => simp [intOf]; omega
    · obtain rfl : t = m' := by omega
      rw [Hbn.out] at s2
      go_wp2_with fail
      go_ret
      exact ⟨_, _, _, rfl, rfl, s2, hb1.trans (hbw.mono hb1.size)⟩
set_option maxRecDepth 100000 in
set_option maxHeartbeats 2000000 in
theorem join_c (A : Option Addr) (n c : Nat) (B : List Int) (w : World) (h : Sl w w.heap.size 1 A n (B.flatMap nC)) (hm : n ≤ 200000) (hbb : inN B) :
    Calls Try.prog 55 #[.slice A n c] w fun e w' => ∃ v, e = .returned v ∧ w'.ownsRow w.heap.size 58 2 v (joinB B).length (runC (joinB B)) ∧ Below w.heap.size w w' := by
  obtain ⟨p0, hp, hy0, hy1, hy2⟩ := info_parts phInfo'
  have hl : B.length = n := h.len nC 1 nC_len (by omega)
  have hov : (w.alloc (.cells #[] 58)).ownsRow w.heap.size 58 2 (.slice (some ⟨w.heap.size, 0, none⟩) 0 0) 0 [] := World.ownsRow_made w #[] 0 (Nat.le_refl _) (by simp [maxLen]) rfl
  have hbv : Below w.heap.size w (w.alloc (.cells #[] 58)) := (Below.refl _ _).alloc (Nat.le_refl _) _
  have Hl := Lib.hid hl; clear hl
  have Hbb := Lib.hid hbb; clear hbb
  go_enter Try.func55, Try.ntmps55
  go_wp2_with fail
  go_loopw [3, 10] (fun v i wr => ∃ k : Nat, k ≤ n ∧ i = .int .i64 k ∧ wr.ownsRow w.heap.size 58 2 v (joinB (B.take k)).length (runC (joinB (B.take k))) ∧ Below w.heap.size w wr) (fun _ i _ => n - (intOf i).toNat)
  case atStart => exact ⟨0, Nat.zero_le _, rfl, hov, hbv⟩
  case round =>
    clear hov hbv
    obtain ⟨k, hk, rfl, hov, hbw⟩ := hrel
    have i0 : (0 : Int) ≤ (k : Int) := by omega
    by_cases hlt : k < n
    · have i1 : (k : Int) < (n : Int) := by omega
      obtain ⟨b, off, x, rfl, hb, hx, d0⟩ := h.nm k hlt
      have q0 := (keepC hbw b hb (off + k)).trans d0
      have hxb := Hbb.out x (List.mem_of_getElem? hx)
      have hnx := join_next hx
      have hjl := join_len B k (by rw [Hl.out]; exact hk)
      have hjb := join_bd B k (by rw [Hl.out]; exact hk)
      obtain ⟨D, hD⟩ : ∃ D, joinB (B.take k) = D := ⟨_, rfl⟩
      rw [hD] at hov hnx hjl hjb
      have hjb' : ∀ d ∈ D, (0 ≤ d.1 ∧ d.1 ≤ 255) ∧ 1 ≤ d.2 ∧ d.2 ≤ (k : Int) := fun d hd => ⟨Hbb.out _ (hjb d hd).1, (hjb d hd).2⟩
      clear hjb d0
      have Hx := Lib.hid hx; clear hx
      have HD := Lib.hid hD; clear hD
      rcases D.eq_nil_or_concat with h0 | ⟨D', d, h0⟩
      · have hD2 : joinB (B.take (k + 1)) = D ++ [(x, 1)] := by rw [hnx, h0]; rfl
        have hl0 : D.length = 0 := by rw [h0]; rfl
        obtain ⟨m, hm0⟩ : ∃ m, D.length = m := ⟨_, rfl⟩
        rw [hm0] at hov hl0
        subst hl0
        obtain ⟨A3, c3, rfl⟩ := own_slice hov
        have HD2 := Lib.hid hD2; clear hD2
        have Hm0 := Lib.hid hm0; clear hm0
        clear hnx h0
        have e63 : 0 + 1 ≤ maxLen := by unfold maxLen; omega
        have e32 : (0 + 1) * 24 ≤ 140737488355328 := by omega
        have E63 := Lib.hid e63; clear e63
        have E32 := Lib.hid e32; clear e32
        go_wp2_with (at_builtin; refine wpl_append _ rfl (.tmp 37) (.tmp 40) _ rfl w.heap.size 58 p0 _ 2 24 Try.underlying29 hp hy0 hy1 hy2 rfl (by omega) _ 0 _ rfl (hov.alloc _) (wr.heap.size + 1) (some ⟨wr.heap.size, 0, none⟩) 1 1 [.string (nameC x), .int .i64 1] rfl (Sl.new wr 58 _ 1 2 rfl) (phC_one' (toPh (x, 1))) E63.out E32.out (le_alloc hbw.size _) ?_; intro v2 w2 ho2 hg2 hat2)
        go_roundw
        case rel =>
          refine ⟨k + 1, by omega, by go_num, ?_, (hbw.alloc hbw.size _).grown hg2 (le_alloc hbw.size _) fun g hg => (hov.lt g hg).1⟩
          rw [HD2.out, runC_app, List.length_append, Hm0.out]
          exact ho2
        case measure => simp [intOf]; omega
      · rw [List.concat_eq_append] at h0
        obtain ⟨d1, d2⟩ := d
        have hdb := hjb' (d1, d2) (by rw [h0]; simp)
        obtain ⟨⟨z0, z1⟩, z2, z3⟩ := hdb
        dsimp only at z0 z1 z2 z3
        obtain ⟨l, hl1⟩ : ∃ l, D'.length = l := ⟨_, rfl⟩
        have hml : D.length = l + 1 := by rw [h0, ← hl1]; simp
        obtain ⟨m, hm0⟩ : ∃ m, D.length = m := ⟨_, rfl⟩
        rw [hm0] at hov hml hjl
        have em : (m : Int) - 1 = (l : Int) := by omega
        have em2 : IntKind.i64.wrap ((m : Int) - 1) = (l : Int) := by rw [IntWalk.i64_in _ (by omega)]; omega
        have g0 : (0 : Int) < (m : Int) := by omega
        have g00 : 0 < m := by omega
        have g1 : (0 : Int) ≤ (l : Int) := by omega
        have g2 : (l : Int) < (m : Int) := by omega
        obtain ⟨g, c3, rfl, hg, hg'⟩ := hov.form (by omega)
        have y0 := hov.cellAt (l * 2) (by omega)
        have y1 := hov.cellAt (l * 2 + 1) (by omega)
        have y2 := hov.frozenAt (l * 2 + 1)
        rw [h0, runC_app, List.getElem?_append_right (by rw [runC_len, hl1]; omega), runC_len, hl1, show l * 2 - l * 2 = 0 by omega] at y0
        rw [h0, runC_app, List.getElem?_append_right (by rw [runC_len, hl1]; omega), runC_len, hl1, show l * 2 + 1 - l * 2 = 1 by omega] at y1
        simp only [List.getElem?_cons_zero, List.getElem?_cons_succ] at y0 y1
        have hbq := name_beq ⟨z0, z1⟩ hxb
        have Hml := Lib.hid hml; clear hml
        by_cases hc : d1 = x
        · have hD2 : joinB (B.take (k + 1)) = D' ++ [(x, d2 + 1)] := by rw [hnx, h0, jstep]; simp [hc]
          rw [decide_eq_true hc] at hbq
          subst hc
          have hst := hov.stored (l * 2 + 1) (.int .i64 (d2 + 1))
          rw [h0, ← hl1, runC_set, hl1] at hst
          have HD2 := Lib.hid hD2; clear hD2
          have Hm0 := Lib.hid hm0; clear hm0
          have Hl1 := Lib.hid hl1; clear hl1
          have H0 := Lib.hid h0; clear h0
          have Hst := Lib.hid hst; clear hst
          clear hnx
          go_wp2_with fail
          go_roundw
          case rel =>
            refine ⟨k + 1, by omega, by go_num, ?_, by (repeat (first | (with_reducible assumption) | (with_reducible exact Below.refl _ _) | exact Nat.le_refl _ | exact Below.size (by with_reducible assumption) | (with_reducible refine Below.drew ?_) | (with_reducible refine below_drewN ?_ _) | (with_reducible refine Below.alloc ?_ ?_ _) | (with_reducible refine Below.setCell ?_ ?_ _) | (with_reducible refine le_alloc ?_ _) | (with_reducible refine le_set ?_ _ _) | (with_reducible refine le_drew ?_) | (with_reducible refine le_drewN ?_ _) | omega | (dsimp only; omega)))⟩
            rw [HD2.out, List.length_append, Hl1.out, show l + [(d1, d2 + 1)].length = m by have := Hml.out; simp; omega]
            exact Hst.out.1
          case measure => simp [intOf]; omega
        · have hD2 : joinB (B.take (k + 1)) = D ++ [(x, 1)] := by rw [hnx, h0, jstep]; simp [hc]
          rw [decide_eq_false hc] at hbq
          have HD2 := Lib.hid hD2; clear hD2
          have Hm0 := Lib.hid hm0; clear hm0
          have Hl1 := Lib.hid hl1; clear hl1
          have H0 := Lib.hid h0; clear h0
          clear hnx hc
          have e63 : m + 1 ≤ maxLen := by unfold maxLen; omega
          have e32 : (m + 1) * 24 ≤ 140737488355328 := by omega
          have E63 := Lib.hid e63; clear e63
          have E32 := Lib.hid e32; clear e32
          go_wp2_with (at_builtin; refine wpl_append _ rfl (.tmp 37) (.tmp 40) _ rfl w.heap.size 58 p0 _ 2 24 Try.underlying29 hp hy0 hy1 hy2 rfl (by omega) _ m _ rfl (hov.alloc _) (wr.heap.size + 1) (some ⟨wr.heap.size, 0, none⟩) 1 1 [.string (nameC x), .int .i64 1] rfl (Sl.new wr 58 _ 1 2 rfl) (phC_one' (toPh (x, 1))) E63.out E32.out (le_alloc hbw.size _) ?_; intro v2 w2 ho2 hg2 hat2)
          go_roundw
          case rel =>
            refine ⟨k + 1, by omega, by go_num, ?_, (hbw.alloc hbw.size _).grown hg2 (le_alloc hbw.size _) fun g hg => (hov.lt g hg).1⟩
            rw [HD2.out, runC_app, List.length_append, Hm0.out]
            exact ho2
          case measure => simp [intOf]; omega
    · obtain rfl : k = n := by omega
      rw [List.take_of_length_le (by rw [Hl.out]; omega)] at hov
      obtain ⟨A3, c3, rfl⟩ := own_slice hov
      go_wp2_with fail
      go_ret
      exact ⟨_, rfl, hov, hbw⟩
end Go.Proofs.Ytgibbhipjpbdfaa
