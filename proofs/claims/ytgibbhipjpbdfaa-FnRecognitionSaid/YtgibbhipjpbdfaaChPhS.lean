
/- Phases of characters: the reference's. -/
import Derived.Test.YtgibbhipjpbdfaaChPh
namespace Go.Proofs.Ytgibbhipjpbdfaa
open Go.RowKit
theorem phInfo : (Try.prog.info? 58).map (fun i => (i.zero, i.size, i.bytes)) = some (some (.agg #[.string ByteArray.empty, .int .i64 0]), 2, 24) := by kernel_rfl
theorem l05Total_q (A : Option Addr) (n c : Nat) (gs : List Int) (w : World) (k : Nat) (h : Sl w w.heap.size 1 A n (gs.flatMap intC)) (hm : n ≤ 1048576) (hb : ∀ x ∈ gs, -1000000 ≤ x ∧ x ≤ 1000000) :
    Calls Try.prog 85 #[.slice A n c] (w.drewN k) fun e w' => e = .returned (.int .i64 gs.sum) ∧ w.drewN k = w' :=
  l05Total_c A n c gs (w.drewN k) (h.next (below_drewN (Below.refl _ _) k)) hm hb
set_option maxRecDepth 100000 in
set_option maxHeartbeats 1000000 in
theorem l05Phases_c (b off : Nat) (A : Option Addr) (n c : Nat) (x : Ch) (co : ByteArray) (w : World) (h : ChP w b off A n c x) (hv : validB x = true) :
    Calls Try.prog 53 #[.pointer (some ⟨b, off, none⟩), .string co] w fun e w' => ∃ v, e = .returned v ∧ w'.ownsRow w.heap.size 58 2 v (phasesL x co).length ((phasesL x co).flatMap Ph.cells) ∧ Below w.heap.size w w' := by
  obtain ⟨p0, hp, hy0, hy1, hy2⟩ := info_parts intInfo
  obtain ⟨q0, hi, hz0, hz1, hz2⟩ := info_parts phInfo
  have hsh := valid_shape hv
  have ht := shape_TOk hsh
  obtain ⟨v1, v2⟩ := valid_p hv
  have c0 := h.c0
  have c4 := h.c4
  have hbb := h.hb
  by_cases h1 : x.k = 1
  · have hk1 : (x.k == 1) = true := by simpa using h1
    have hL : phasesL x co = [⟨co, 10⟩] := by rw [phasesL, if_pos h1]
    rw [hL]
    have HL := Lib.hid hL; clear hL
    clear h1
    go_enter Try.func53, Try.ntmps53
    go_wp2
    go_ret
    exact ⟨_, rfl, own_lit w _ _ #[.string co, .int .i64 10] 1 2 (Nat.le_refl _) (by simp [maxLen]) rfl, by (repeat (first | (with_reducible assumption) | (with_reducible exact Below.refl _ _) | exact Nat.le_refl _ | exact Below.size (by with_reducible assumption) | (with_reducible refine Below.drew ?_) | (with_reducible refine below_drewN ?_ _) | (with_reducible refine Below.alloc ?_ ?_ _) | (with_reducible refine Below.setCell ?_ ?_ _) | (with_reducible refine le_alloc ?_ _) | (with_reducible refine le_set ?_ _ _) | (with_reducible refine le_drew ?_) | (with_reducible refine le_drewN ?_ _) | omega | (dsimp only; omega)))⟩
  have hk1 : (x.k == 1) = false := by simpa using h1
  by_cases h3 : x.k = 3
  · have hk3 : (x.k == 3) = true := by simpa using h3
    have hL : phasesL x co = [⟨co, x.p / 2⟩, ⟨⟨#[]⟩, x.p / 2⟩] := by rw [phasesL, if_neg h1, if_pos h3]
    rw [hL]
    have HL := Lib.hid hL; clear hL
    clear h1 h3
    go_enter Try.func53, Try.ntmps53
    go_wp2
    go_region
    all_goals
      go_wp2
      go_ret
      exact ⟨_, rfl, own_lit w _ _ #[.string co, .int .i64 (x.p / 2), .string ⟨#[]⟩, .int .i64 (x.p / 2)] 2 2 (Nat.le_refl _) (by simp [maxLen]) rfl, by (repeat (first | (with_reducible assumption) | (with_reducible exact Below.refl _ _) | exact Nat.le_refl _ | exact Below.size (by with_reducible assumption) | (with_reducible refine Below.drew ?_) | (with_reducible refine below_drewN ?_ _) | (with_reducible refine Below.alloc ?_ ?_ _) | (with_reducible refine Below.setCell ?_ ?_ _) | (with_reducible refine le_alloc ?_ _) | (with_reducible refine le_set ?_ _ _) | (with_reducible refine le_drew ?_) | (with_reducible refine le_drewN ?_ _) | omega | (dsimp only; omega)))⟩
  have hk3 : (x.k == 3) = false := by simpa using h3
  obtain ⟨b1, b2⟩ := times_bd ht
  have hb6 : ∀ y ∈ timesL x, -1000000 ≤ y ∧ y ≤ 1000000 := fun y hy => by have := b2 y hy; omega
  obtain ⟨s1, s2⟩ := sum_abs (gs := timesL x) hb6
  obtain ⟨g1, g2⟩ := gapI_bd x.k
  obtain ⟨R, hR⟩ : ∃ R, (if steadyB x = true then gapI x.k else x.p - (timesL x).sum) = R := ⟨_, rfl⟩
  have hL : phasesL x co = altL co (ocB x) (timesL x ++ [R]) := by rw [phasesL, if_neg h1, if_neg h3, hR]
  have hsub : IntKind.i64.wrap (x.p - (timesL x).sum) = x.p - (timesL x).sum := IntWalk.i64_in _ (by omega)
  have HL := Lib.hid hL; clear hL
  have HR := Lib.hid hR; clear hR
  have B2 := Lib.hid b2; clear b2
  have HB6 := Lib.hid hb6; clear hb6
  clear h1 h3
  cases hst : steadyB x
  all_goals
    rw [hst] at HR
    go_enter Try.func53, Try.ntmps53
    go_wp2_with fail
    refine (l05Times_c b off A n c x w h ht).mono ?_
    rintro e w1 ⟨v, rfl, ho, hb1⟩
    obtain ⟨A1, c1, rfl⟩ := own_slice ho
    have hx1 := h.next hb1
    have c0' := hx1.c0
    have c4' := hx1.c4
    go_wp2_with fail
    go_quiet ((go_at_call 85; exact quiet_c (l05Total_q A1 _ c1 (timesL x) _ _ (Sl.of_own ho) (by omega) HB6.out)))
    clear hsub
    go_wp2_with fail
    refine (l05Steady_c b off A n c x _ (hx1.next (below_drewN (Below.refl _ _) _))).mono ?_
    rintro e w9 ⟨rfl, rfl⟩
  · have hbq : Below w.heap.size w (w1.drewN nq) := below_drewN hb1 nq
    have hoq := own_next ho (below_drewN (Below.refl w1.heap.size w1) nq)
    have e63 : (timesL x).length + 1 ≤ maxLen := by unfold maxLen; omega
    have e32 : ((timesL x).length + 1) * 8 ≤ 140737488355328 := by omega
    have E63 := Lib.hid e63; clear e63
    have E32 := Lib.hid e32; clear e32
    go_wp2_with (at_builtin; refine wpl_append _ rfl (.tmp 53) (.tmp 55) _ rfl (w.heap.size) 2 p0 _ 1 8 Try.underlying24 hp hy0 hy1 hy2 rfl (by omega) _ (_) _ rfl ((hoq).alloc _) (((w1.drewN nq)).heap.size + 1) (some ⟨((w1.drewN nq)).heap.size, 0, none⟩) 1 1 (intC (x.p - (timesL x).sum)) rfl (Sl.new ((w1.drewN nq)) 2 _ 1 1 rfl) (intC_one _) E63.out E32.out (le_alloc (hbq).size _) ?_; intro v2 w2 ho2 hg2 hat2)
    obtain ⟨AT, cT, rfl⟩ := own_slice ho2
    have hb2 : Below w.heap.size w w2 := (hbq.alloc hbq.size _).grown hg2 (le_alloc hbq.size _) fun g hg => (hoq.lt g hg).1
    obtain ⟨T, hT⟩ : ∃ T, timesL x ++ [x.p - (timesL x).sum] = T := ⟨_, rfl⟩
    have sT : Sl w2 w2.heap.size 1 AT ((timesL x).length + 1) (T.flatMap intC) := by have := Sl.of_own ho2; rw [← hT]; simpa [List.flatMap_append] using this
    have hTl : T.length = (timesL x).length + 1 := by rw [← hT]; simp
    have hL2 : phasesL x co = altL co (ocB x) T := by rw [HL.out, ← hT, ← HR.out]; simp
    have HTl := Lib.hid hTl; clear hTl
    have HL2 := Lib.hid hL2; clear hL2
    clear hT ho2 hat2 hg2 hoq hbq E63 E32
    have hbx : Below w2.heap.size w2 (w2.alloc (.cells #[] 58)) := by (repeat (first | (with_reducible assumption) | (with_reducible exact Below.refl _ _) | exact Nat.le_refl _ | exact Below.size (by with_reducible assumption) | (with_reducible refine Below.drew ?_) | (with_reducible refine below_drewN ?_ _) | (with_reducible refine Below.alloc ?_ ?_ _) | (with_reducible refine Below.setCell ?_ ?_ _) | (with_reducible refine le_alloc ?_ _) | (with_reducible refine le_set ?_ _ _) | (with_reducible refine le_drew ?_) | (with_reducible refine le_drewN ?_ _) | omega | (dsimp only; omega)))
    have hov : (w2.alloc (.cells #[] 58)).ownsRow w.heap.size 58 2 (.slice (some ⟨w2.heap.size, 0, none⟩) 0 0) 0 [] := World.ownsRow_made w2 #[] 0 hb2.size (by simp [maxLen]) rfl
    have sT2 := sT.next hbx
    have hne : ∀ b off, AT = some ⟨b, off, none⟩ → (Value.slice (some ⟨w2.heap.size, 0, none⟩) 0 0).ownBlock ≠ some b := by
      intro b1 off1 e
      obtain ⟨b3, off3, e2, hb3, _⟩ := sT.2 (by omega)
      rw [e] at e2; injection e2 with e2; injection e2 with e3 _ _
      subst e3
      simp [Value.ownBlock]; omega
    have hb2' := hb2.trans (hbx.mono hb2.size)
    go_wp2_with fail
    go_loopw [7, 8] (fun v i wr => ∃ k : Nat, k ≤ (timesL x).length + 1 ∧ i = .int .i64 k ∧ wr.ownsRow w.heap.size 58 2 v k ((altL co (ocB x) (T.take k)).flatMap Ph.cells) ∧ Sl wr wr.heap.size 1 AT ((timesL x).length + 1) (T.flatMap intC) ∧ (∀ b off, AT = some ⟨b, off, none⟩ → v.ownBlock ≠ some b) ∧ Below w.heap.size w wr) (fun _ i _ => ((timesL x).length + 1) - (intOf i).toNat)
    case atStart => exact ⟨0, Nat.zero_le _, rfl, by simpa [altL] using hov, sT2, hne, hb2'⟩
    case round =>
      clear hov sT2 hne hb2' sT hbx hb2
      obtain ⟨k, hk, rfl, hov, sT, hne, hbw⟩ := hrel
      obtain ⟨A3, c3, rfl⟩ := own_slice hov
      have q3 := keepC hbw b hbb
      by_cases hlt : k < (timesL x).length + 1
      · obtain ⟨b4, off4, t, rfl, hb4, ht4, c1'⟩ := sT.int k hlt
        have hal := altL_next (co := co) (oc := ocB x) ht4
        have hl2 : (!(((k : Int) % 2 == 1) == (x.k == 2))) = !(litAt (ocB x) k) := by
          rw [litAt, ocB, show ((k : Int) % 2 == 1) = decide (k % 2 = 1) by rw [Bool.eq_iff_iff]; simp; omega]
        have e63 : k + 1 ≤ maxLen := by unfold maxLen; omega
        have e32 : (k + 1) * 24 ≤ 140737488355328 := by omega
        have E63 := Lib.hid e63; clear e63
        have E32 := Lib.hid e32; clear e32
        have Ht4 := Lib.hid ht4; clear ht4
        rw [altP] at hal
        cases hlit : litAt (ocB x) k
        all_goals
          rw [hlit] at hl2 hal
          simp only [Bool.not_true, Bool.not_false, cond_true, cond_false] at hl2 hal
          have Hal := Lib.hid hal; clear hal
          have Hlit := Lib.hid hlit; clear hlit
        · go_wp2_with (at_builtin; refine wpl_append _ rfl (.tmp 74) (.tmp 81) _ rfl w.heap.size 58 q0 _ 2 24 Try.underlying29 hi hz0 hz1 hz2 rfl (by omega) _ k _ rfl (hov.alloc _) (wr.heap.size + 1) (some ⟨wr.heap.size, 0, none⟩) 1 1 (Ph.cells ⟨⟨#[]⟩, t⟩) rfl (Sl.new wr 58 _ 1 2 rfl) (phC_one _) E63.out E32.out (le_alloc hbw.size _) ?_; intro v2 w2' ho2 hg2 hat2)
          go_roundw
          case rel =>
            obtain ⟨sT3, hne3⟩ := sT.beside hg2 hat2 hne (by omega)
            refine ⟨k + 1, by omega, by go_num, ?_, sT3, hne3, (hbw.alloc hbw.size _).grown hg2 (le_alloc hbw.size _) fun g hg => (hov.lt g hg).1⟩
            rw [Hal.out, List.flatMap_append]; simpa using ho2
          case measure => simp [intOf]; omega
        · go_wp2_with (at_builtin; refine wpl_append _ rfl (.tmp 74) (.tmp 81) _ rfl w.heap.size 58 q0 _ 2 24 Try.underlying29 hi hz0 hz1 hz2 rfl (by omega) _ k _ rfl (hov.alloc _) (wr.heap.size + 1) (some ⟨wr.heap.size, 0, none⟩) 1 1 (Ph.cells ⟨co, t⟩) rfl (Sl.new wr 58 _ 1 2 rfl) (phC_one _) E63.out E32.out (le_alloc hbw.size _) ?_; intro v2 w2' ho2 hg2 hat2)
          go_roundw
          case rel =>
            obtain ⟨sT3, hne3⟩ := sT.beside hg2 hat2 hne (by omega)
            refine ⟨k + 1, by omega, by go_num, ?_, sT3, hne3, (hbw.alloc hbw.size _).grown hg2 (le_alloc hbw.size _) fun g hg => (hov.lt g hg).1⟩
            rw [Hal.out, List.flatMap_append]; simpa using ho2
          case measure => simp [intOf]; omega
      · obtain rfl : k = (timesL x).length + 1 := by omega
        go_wp2_with fail
        go_ret
        rw [List.take_of_length_le (by rw [HTl.out]; omega), ← HL2.out] at hov
        refine ⟨_, rfl, ?_, hbw⟩
        rw [show (phasesL x co).length = (timesL x).length + 1 by rw [HL2.out, altL_len, HTl.out]]
        exact hov
  · go_wp2_with fail
    refine (l05Gap_c _ _).mono ?_
    rintro e w9 ⟨rfl, rfl⟩
    have hbq : Below w.heap.size w (w1.drewN nq) := below_drewN hb1 nq
    have hoq := own_next ho (below_drewN (Below.refl w1.heap.size w1) nq)
    have e63 : (timesL x).length + 1 ≤ maxLen := by unfold maxLen; omega
    have e32 : ((timesL x).length + 1) * 8 ≤ 140737488355328 := by omega
    have E63 := Lib.hid e63; clear e63
    have E32 := Lib.hid e32; clear e32
    go_wp2_with (at_builtin; refine wpl_append _ rfl (.tmp 53) (.tmp 55) _ rfl (w.heap.size) 2 p0 _ 1 8 Try.underlying24 hp hy0 hy1 hy2 rfl (by omega) _ (_) _ rfl ((hoq).alloc _) (((w1.drewN nq)).heap.size + 1) (some ⟨((w1.drewN nq)).heap.size, 0, none⟩) 1 1 (intC (gapI x.k)) rfl (Sl.new ((w1.drewN nq)) 2 _ 1 1 rfl) (intC_one _) E63.out E32.out (le_alloc (hbq).size _) ?_; intro v2 w2 ho2 hg2 hat2)
    obtain ⟨AT, cT, rfl⟩ := own_slice ho2
    have hb2 : Below w.heap.size w w2 := (hbq.alloc hbq.size _).grown hg2 (le_alloc hbq.size _) fun g hg => (hoq.lt g hg).1
    obtain ⟨T, hT⟩ : ∃ T, timesL x ++ [gapI x.k] = T := ⟨_, rfl⟩
    have sT : Sl w2 w2.heap.size 1 AT ((timesL x).length + 1) (T.flatMap intC) := by have := Sl.of_own ho2; rw [← hT]; simpa [List.flatMap_append] using this
    have hTl : T.length = (timesL x).length + 1 := by rw [← hT]; simp
    have hL2 : phasesL x co = altL co (ocB x) T := by rw [HL.out, ← hT, ← HR.out]; simp
    have HTl := Lib.hid hTl; clear hTl
    have HL2 := Lib.hid hL2; clear hL2
    clear hT ho2 hat2 hg2 hoq hbq E63 E32
    have hbx : Below w2.heap.size w2 (w2.alloc (.cells #[] 58)) := by (repeat (first | (with_reducible assumption) | (with_reducible exact Below.refl _ _) | exact Nat.le_refl _ | exact Below.size (by with_reducible assumption) | (with_reducible refine Below.drew ?_) | (with_reducible refine below_drewN ?_ _) | (with_reducible refine Below.alloc ?_ ?_ _) | (with_reducible refine Below.setCell ?_ ?_ _) | (with_reducible refine le_alloc ?_ _) | (with_reducible refine le_set ?_ _ _) | (with_reducible refine le_drew ?_) | (with_reducible refine le_drewN ?_ _) | omega | (dsimp only; omega)))
    have hov : (w2.alloc (.cells #[] 58)).ownsRow w.heap.size 58 2 (.slice (some ⟨w2.heap.size, 0, none⟩) 0 0) 0 [] := World.ownsRow_made w2 #[] 0 hb2.size (by simp [maxLen]) rfl
    have sT2 := sT.next hbx
    have hne : ∀ b off, AT = some ⟨b, off, none⟩ → (Value.slice (some ⟨w2.heap.size, 0, none⟩) 0 0).ownBlock ≠ some b := by
      intro b1 off1 e
      obtain ⟨b3, off3, e2, hb3, _⟩ := sT.2 (by omega)
      rw [e] at e2; injection e2 with e2; injection e2 with e3 _ _
      subst e3
      simp [Value.ownBlock]; omega
    have hb2' := hb2.trans (hbx.mono hb2.size)
    go_wp2_with fail
    go_loopw [7, 8] (fun v i wr => ∃ k : Nat, k ≤ (timesL x).length + 1 ∧ i = .int .i64 k ∧ wr.ownsRow w.heap.size 58 2 v k ((altL co (ocB x) (T.take k)).flatMap Ph.cells) ∧ Sl wr wr.heap.size 1 AT ((timesL x).length + 1) (T.flatMap intC) ∧ (∀ b off, AT = some ⟨b, off, none⟩ → v.ownBlock ≠ some b) ∧ Below w.heap.size w wr) (fun _ i _ => ((timesL x).length + 1) - (intOf i).toNat)
    case atStart => exact ⟨0, Nat.zero_le _, rfl, by simpa [altL] using hov, sT2, hne, hb2'⟩
    case round =>
      clear hov sT2 hne hb2' sT hbx hb2
      obtain ⟨k, hk, rfl, hov, sT, hne, hbw⟩ := hrel
      obtain ⟨A3, c3, rfl⟩ := own_slice hov
      have q3 := keepC hbw b hbb
      by_cases hlt : k < (timesL x).length + 1
      · obtain ⟨b4, off4, t, rfl, hb4, ht4, c1'⟩ := sT.int k hlt
        have hal := altL_next (co := co) (oc := ocB x) ht4
        have hl2 : (!(((k : Int) % 2 == 1) == (x.k == 2))) = !(litAt (ocB x) k) := by
          rw [litAt, ocB, show ((k : Int) % 2 == 1) = decide (k % 2 = 1) by rw [Bool.eq_iff_iff]; simp; omega]
        have e63 : k + 1 ≤ maxLen := by unfold maxLen; omega
        have e32 : (k + 1) * 24 ≤ 140737488355328 := by omega
        have E63 := Lib.hid e63; clear e63
        have E32 := Lib.hid e32; clear e32
        have Ht4 := Lib.hid ht4; clear ht4
        rw [altP] at hal
        cases hlit : litAt (ocB x) k
        all_goals
          rw [hlit] at hl2 hal
          simp only [Bool.not_true, Bool.not_false, cond_true, cond_false] at hl2 hal
          have Hal := Lib.hid hal; clear hal
          have Hlit := Lib.hid hlit; clear hlit
        · go_wp2_with (at_builtin; refine wpl_append _ rfl (.tmp 74) (.tmp 81) _ rfl w.heap.size 58 q0 _ 2 24 Try.underlying29 hi hz0 hz1 hz2 rfl (by omega) _ k _ rfl (hov.alloc _) (wr.heap.size + 1) (some ⟨wr.heap.size, 0, none⟩) 1 1 (Ph.cells ⟨⟨#[]⟩, t⟩) rfl (Sl.new wr 58 _ 1 2 rfl) (phC_one _) E63.out E32.out (le_alloc hbw.size _) ?_; intro v2 w2' ho2 hg2 hat2)
          go_roundw
          case rel =>
            obtain ⟨sT3, hne3⟩ := sT.beside hg2 hat2 hne (by omega)
            refine ⟨k + 1, by omega, by go_num, ?_, sT3, hne3, (hbw.alloc hbw.size _).grown hg2 (le_alloc hbw.size _) fun g hg => (hov.lt g hg).1⟩
            rw [Hal.out, List.flatMap_append]; simpa using ho2
          case measure => simp [intOf]; omega
        · go_wp2_with (at_builtin; refine wpl_append _ rfl (.tmp 74) (.tmp 81) _ rfl w.heap.size 58 q0 _ 2 24 Try.underlying29 hi hz0 hz1 hz2 rfl (by omega) _ k _ rfl (hov.alloc _) (wr.heap.size + 1) (some ⟨wr.heap.size, 0, none⟩) 1 1 (Ph.cells ⟨co, t⟩) rfl (Sl.new wr 58 _ 1 2 rfl) (phC_one _) E63.out E32.out (le_alloc hbw.size _) ?_; intro v2 w2' ho2 hg2 hat2)
          go_roundw
          case rel =>
            obtain ⟨sT3, hne3⟩ := sT.beside hg2 hat2 hne (by omega)
            refine ⟨k + 1, by omega, by go_num, ?_, sT3, hne3, (hbw.alloc hbw.size _).grown hg2 (le_alloc hbw.size _) fun g hg => (hov.lt g hg).1⟩
            rw [Hal.out, List.flatMap_append]; simpa using ho2
          case measure => simp [intOf]; omega
      · obtain rfl : k = (timesL x).length + 1 := by omega
        go_wp2_with fail
        go_ret
        rw [List.take_of_length_le (by rw [HTl.out]; omega), ← HL2.out] at hov
        refine ⟨_, rfl, ?_, hbw⟩
        rw [show (phasesL x co).length = (timesL x).length + 1 by rw [HL2.out, altL_len, HTl.out]]
        exact hov
end Go.Proofs.Ytgibbhipjpbdfaa
