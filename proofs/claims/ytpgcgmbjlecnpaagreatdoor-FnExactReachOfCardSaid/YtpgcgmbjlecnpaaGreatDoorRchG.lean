/- RchG: several of my texts in one. -/
import Derived.Test.YtpgcgmbjlecnpaaGreatDoorBigG
import Derived.Test.YtpgcgmbjlecnpaaGreatDoorSmall
import Derived.Test.YtpgcgmbjlecnpaaGreatDoorBase
import Derived.Test.YtpgcgmbjlecnpaaGreatDoorChecked
import Derived.Test.YtpgcgmbjlecnpaaGreatDoorAidHas
/- The logarithm in thousandths, both sides. -/
namespace Go.Proofs.YtpgcgmbjlecnpaaGreatDoor
open Go.RowKit
theorem upI_ge : ∀ (k : Nat) (x : Int), 0 < x → x ≤ upI k x
  | 0, _, _ => Int.le_refl _
  | k + 1, x, h => by
    have := upI_ge k (x * 10) (by omega)
    rw [upI]; omega
def digR : Nat → Int × Int → Int × Int
  | 0, s => s
  | k + 1, s => digR k (digS s)
theorem tlog_R (n : Int) : tlog n = (digR 3 (startL n)).1 := rfl
set_option maxRecDepth 100000 in
set_option maxHeartbeats 1000000 in
theorem l09Log_c (n : Int) (w : World) (h0 : 1 ≤ n) (h1 : n < 1000000000) :
    Calls Tryz.prog 175 #[.int .i64 n] w fun e w' => e = .returned (.int .i64 (tlog n)) ∧ w = w' := by
  obtain ⟨K, hK, hk1, hk2⟩ := dig_ex h0 h1
  have hin := startL_in h0 h1
  have hst : startL n = ((K : Int), upI (8 - K) n) := by rw [startL, digN_eq K 64 n hk1 hk2 (by omega), show ((8 : Int) - (K : Int)).toNat = 8 - K by omega]
  obtain ⟨R, hR⟩ : ∃ R, tlog n = R := ⟨_, rfl⟩
  rw [hR]
  rw [tlog_R, hst] at hR
  rw [hst] at hin
  obtain ⟨X0, hX⟩ : ∃ X0, upI (8 - K) n = X0 := ⟨_, rfl⟩
  rw [hX] at hR hin
  simp only at hin
  obtain ⟨hi1, hi2⟩ := hin
  have HR := Lib.hid hR; clear hR
  have HX := Lib.hid hX; clear hX
  have Hst := Lib.hid hst; clear hst
  have Hk1 := Lib.hid hk1; clear hk1
  have Hk2 := Lib.hid hk2; clear hk2
  go_enter Tryz.func175, Tryz.ntmps175
  go_wp2
  go_loopw [3, 4] (fun r m wr => ∃ (j : Nat) (mm rr : Int), m = .int .i64 mm ∧ r = .int .i64 rr ∧ 0 ≤ mm ∧ mm ≤ n ∧ Hid (10 ^ j ≤ mm ∧ mm < 10 ^ (j + 1)) ∧ rr + (j : Int) = K ∧ 0 ≤ rr ∧ w = wr) (fun _ m _ => (intOf m).toNat)
  case atStart => exact ⟨K, n, 0, rfl, rfl, by omega, by omega, Lib.hid ⟨Hk1.out, Hk2.out⟩, by omega, by omega, rfl⟩
  case round =>
    obtain ⟨j, mm, rr, rfl, rfl, m0, m1, Hm, hr, hr0, rfl⟩ := hrel
    by_cases h10 : 10 ≤ mm
    · obtain ⟨J, rfl⟩ : ∃ J, j = J + 1 := by
        cases j with
        | zero => have := Hm.out.2; simp at this; omega
        | succ J => exact ⟨J, rfl⟩
      have e1 : mm.tdiv 10 = mm / 10 := Int.tdiv_eq_ediv_of_nonneg m0
      have e2 : IntKind.i64.wrap (mm / 10) = mm / 10 := IntWalk.i64_in _ (by omega)
      go_wp2
      go_roundw
      case rel =>
        refine ⟨J, mm / 10, rr + 1, rfl, rfl, by omega, by omega, Lib.hid ?_, by omega, by omega, by trivial⟩
        have := Hm.out
        simp only [Int.pow_succ] at this ⊢
        generalize (10 : Int) ^ J = P at *
        omega
      case measure => simp [intOf]; omega
    · obtain rfl : j = 0 := by
        cases j with
        | zero => rfl
        | succ J =>
          have := Hm.out.1
          have p := pow10_pos J
          rw [Int.pow_succ] at this
          omega
      obtain rfl : rr = K := by omega
      clear Hm hr hr0
      go_wp2
      go_loopw [5, 6] (fun x k wr => ∃ (c : Nat) (xx : Int), x = .int .i64 xx ∧ k = .int .i64 (8 - (c : Int)) ∧ c ≤ 8 ∧ 0 < xx ∧ Hid (upI c xx = X0) ∧ w = wr) (fun _ k _ => (8 - intOf k).toNat)
      case atStart => exact ⟨8 - K, n, rfl, int_eq (by omega), by omega, by omega, Lib.hid HX.out, by trivial⟩
      case round =>
        obtain ⟨c, xx, rfl, rfl, hc, x0, Hx, rfl⟩ := hrel
        by_cases h8 : 8 - (c : Int) < 8
        · obtain ⟨C, rfl⟩ : ∃ C, c = C + 1 := ⟨c - 1, by omega⟩
          have hup : upI C (xx * 10) = X0 := Hx.out
          have hle := upI_ge C (xx * 10) (by omega)
          rw [hup] at hle
          have Hup := Lib.hid hup; clear hup
          go_wp2
          go_roundw
          case rel => exact ⟨C, xx * 10, rfl, int_eq (by omega), by omega, by omega, Lib.hid Hup.out, by trivial⟩
          case measure => simp [intOf]; omega
        · obtain rfl : c = 0 := by omega
          have hxx : xx = X0 := Hx.out
          subst hxx
          clear Hx
          go_wp2
          go_loopw [5, 7] (fun x k wr => x = .int .i64 xx ∧ k = .int .i64 (K : Int) ∧ w = wr) (fun _ _ _ => 0)
          case atStart => exact ⟨rfl, rfl, by trivial⟩
          case round =>
            obtain ⟨rfl, rfl, rfl⟩ := hrel
            go_wp2
            go_loopw [3, 5, 8] (fun r x i wr => ∃ (t : Nat) (s1 s2 : Int), t ≤ 3 ∧ r = .int .i64 s1 ∧ x = .int .i64 s2 ∧ i = .int .i64 t ∧ 100000000 ≤ s2 ∧ s2 < 1000000000 ∧ 0 ≤ s1 ∧ ((t = 0 ∧ s1 ≤ 8) ∨ (t = 1 ∧ s1 ≤ 89) ∨ (t = 2 ∧ s1 ≤ 899) ∨ (t = 3 ∧ s1 ≤ 8999)) ∧ Hid ((digR (3 - t) (s1, s2)).1 = R) ∧ w = wr) (fun _ _ i _ => 3 - (intOf i).toNat)
            case atStart => exact ⟨0, K, xx, by omega, rfl, rfl, rfl, hi1, hi2, by omega, .inl ⟨rfl, by omega⟩, Lib.hid HR.out, by trivial⟩
            case round =>
              clear hi1 hi2 x0 HR
              obtain ⟨t, s1, s2, ht, rfl, rfl, rfl, hi1, hi2, hs0, hsb, HR, rfl⟩ := hrel
              by_cases ht3 : t < 3
              · have ht3' : (t : Int) < 3 := by omega
                go_wp2
                go_loopw [9, 10, 11] (fun y d j wr => ∃ (u : Nat) (yy dd : Int), u ≤ 10 ∧ y = .int .i64 yy ∧ d = .int .i64 dd ∧ j = .int .i64 u ∧ 100000000 ≤ yy ∧ yy < 1000000000 ∧ 0 ≤ dd ∧ dd ≤ u ∧ Hid (mulN s2 (10 - u) (yy, dd) = mulN s2 10 (100000000, 0)) ∧ w = wr) (fun _ _ j _ => 10 - (intOf j).toNat)
                case atStart => exact ⟨0, 100000000, 0, by omega, rfl, rfl, rfl, by omega, by omega, by omega, by omega, Lib.hid rfl, by trivial⟩
                case round =>
                  obtain ⟨u, yy, dd, hu, rfl, rfl, rfl, hy1, hy2, hd1, hd2, HM, rfl⟩ := hrel
                  by_cases hu10 : u < 10
                  · have hu10' : (u : Int) < 10 := by omega
                    have p1 : 100000000 * 100000000 ≤ yy * s2 := Int.mul_le_mul hy1 hi1 (by omega) (by omega)
                    have p2 : yy * s2 ≤ 999999999 * 999999999 := Int.mul_le_mul (by omega) (by omega) (by omega) (by omega)
                    have hmn : mulN s2 (10 - u) (yy, dd) = mulN s2 (10 - (u + 1)) (mulS s2 (yy, dd)) := by
                      rw [show 10 - u = (10 - (u + 1)) + 1 by omega, mulN]
                    rw [mulS] at hmn
                    simp only at hmn
                    have e0 : IntKind.i64.wrap (yy * s2) = yy * s2 := IntWalk.i64_in _ (by omega)
                    have e1 : (yy * s2).tdiv 100000000 = yy * s2 / 100000000 := Int.tdiv_eq_ediv_of_nonneg (by omega)
                    have hq : 100000000 ≤ yy * s2 / 100000000 ∧ yy * s2 / 100000000 < 10000000000 := by omega
                    generalize yy * s2 / 100000000 = q at *
                    have e2 : IntKind.i64.wrap q = q := IntWalk.i64_in _ (by omega)
                    have e3 : q.tdiv 10 = q / 10 := Int.tdiv_eq_ediv_of_nonneg (by omega)
                    have e4 : IntKind.i64.wrap (q / 10) = q / 10 := IntWalk.i64_in _ (by omega)
                    have Hmn := Lib.hid hmn; clear hmn
                    clear p1 p2
                    by_cases hb : 1000000000 ≤ q
                    · go_wp2
                      go_roundw
                      case rel => exact ⟨u + 1, q / 10, dd + 1, by omega, rfl, rfl, int_eq (by omega), by omega, by omega, by omega, by omega, Lib.hid (by rw [← HM.out, Hmn.out, if_pos hb]), by trivial⟩
                      case measure => simp [intOf]; omega
                    · go_wp2
                      go_roundw
                      case rel => exact ⟨u + 1, q, dd, by omega, rfl, rfl, int_eq (by omega), by omega, by omega, by omega, by omega, Lib.hid (by rw [← HM.out, Hmn.out, if_neg (by omega)]), by trivial⟩
                      case measure => simp [intOf]; omega
                  · obtain rfl : u = 10 := by omega
                    have hm : mulN s2 10 (100000000, 0) = (yy, dd) := HM.out.symm
                    have hdg : digS (s1, s2) = (10 * s1 + dd, yy) := by rw [digS, hm]
                    have hdR : (digR (3 - (t + 1)) (10 * s1 + dd, yy)).1 = R := by
                      have := HR.out
                      rw [show 3 - t = (3 - (t + 1)) + 1 by omega, digR, hdg] at this
                      exact this
                    have hdd : dd ≤ 9 := by
                      have := mulN_first (x := s2) ⟨hi1, hi2⟩
                      rw [hm] at this
                      exact this.2
                    have HdR := Lib.hid hdR; clear hdR
                    clear hm hdg HM
                    go_wp2
                    go_roundw
                    case rel => exact ⟨t + 1, 10 * s1 + dd, yy, by omega, rfl, rfl, int_eq (by omega), hy1, hy2, by omega, by omega, Lib.hid HdR.out, by trivial⟩
                    case measure => simp [intOf]; omega
              · obtain rfl : t = 3 := by omega
                have hRR : s1 = R := HR.out
                subst hRR
                go_wp2
                go_ret
                exact ⟨rfl, rfl⟩
set_option maxRecDepth 100000 in
set_option maxHeartbeats 1000000 in
theorem tenLog_c (n : Int) (w : World) (h0 : 1 ≤ n) (h1 : n < 1000000000) :
    Calls Tryz.prog 178 #[.int .i64 n] w fun e w' => e = .returned (.int .i64 (tlog n)) ∧ w = w' := by
  obtain ⟨K, hK, hk1, hk2⟩ := dig_ex h0 h1
  have hin := startL_in h0 h1
  have hst : startL n = ((K : Int), upI (8 - K) n) := by rw [startL, digN_eq K 64 n hk1 hk2 (by omega), show ((8 : Int) - (K : Int)).toNat = 8 - K by omega]
  obtain ⟨R, hR⟩ : ∃ R, tlog n = R := ⟨_, rfl⟩
  rw [hR]
  rw [tlog_R, hst] at hR
  rw [hst] at hin
  obtain ⟨X0, hX⟩ : ∃ X0, upI (8 - K) n = X0 := ⟨_, rfl⟩
  rw [hX] at hR hin
  simp only at hin
  obtain ⟨hi1, hi2⟩ := hin
  have HR := Lib.hid hR; clear hR
  have HX := Lib.hid hX; clear hX
  have Hst := Lib.hid hst; clear hst
  have Hk1 := Lib.hid hk1; clear hk1
  have Hk2 := Lib.hid hk2; clear hk2
  go_enter Tryz.func178, Tryz.ntmps178
  go_wp2
  go_loopw [3, 5] (fun r m wr => ∃ (j : Nat) (mm rr : Int), m = .int .i64 mm ∧ r = .int .i64 rr ∧ 0 ≤ mm ∧ mm ≤ n ∧ Hid (10 ^ j ≤ mm ∧ mm < 10 ^ (j + 1)) ∧ rr + (j : Int) = K ∧ 0 ≤ rr ∧ w = wr) (fun _ m _ => (intOf m).toNat)
  case atStart => exact ⟨K, n, 0, rfl, rfl, by omega, by omega, Lib.hid ⟨Hk1.out, Hk2.out⟩, by omega, by omega, rfl⟩
  case round =>
    obtain ⟨j, mm, rr, rfl, rfl, m0, m1, Hm, hr, hr0, rfl⟩ := hrel
    by_cases h10 : 10 ≤ mm
    · obtain ⟨J, rfl⟩ : ∃ J, j = J + 1 := by
        cases j with
        | zero => have := Hm.out.2; simp at this; omega
        | succ J => exact ⟨J, rfl⟩
      have e1 : mm.tdiv 10 = mm / 10 := Int.tdiv_eq_ediv_of_nonneg m0
      have e2 : IntKind.i64.wrap (mm / 10) = mm / 10 := IntWalk.i64_in _ (by omega)
      go_wp2
      go_roundw
      case rel =>
        refine ⟨J, mm / 10, rr + 1, rfl, rfl, by omega, by omega, Lib.hid ?_, by omega, by omega, by trivial⟩
        have := Hm.out
        simp only [Int.pow_succ] at this ⊢
        generalize (10 : Int) ^ J = P at *
        omega
      case measure => simp [intOf]; omega
    · obtain rfl : j = 0 := by
        cases j with
        | zero => rfl
        | succ J =>
          have := Hm.out.1
          have p := pow10_pos J
          rw [Int.pow_succ] at this
          omega
      obtain rfl : rr = K := by omega
      clear Hm hr hr0
      go_wp2
      go_loopw [4, 6] (fun x k wr => ∃ (c : Nat) (xx : Int), x = .int .i64 xx ∧ k = .int .i64 (8 - (c : Int)) ∧ c ≤ 8 ∧ 0 < xx ∧ Hid (upI c xx = X0) ∧ w = wr) (fun _ k _ => (8 - intOf k).toNat)
      case atStart => exact ⟨8 - K, n, rfl, int_eq (by omega), by omega, by omega, Lib.hid HX.out, by trivial⟩
      case round =>
        obtain ⟨c, xx, rfl, rfl, hc, x0, Hx, rfl⟩ := hrel
        by_cases h8 : 8 - (c : Int) < 8
        · obtain ⟨C, rfl⟩ : ∃ C, c = C + 1 := ⟨c - 1, by omega⟩
          have hup : upI C (xx * 10) = X0 := Hx.out
          have hle := upI_ge C (xx * 10) (by omega)
          rw [hup] at hle
          have Hup := Lib.hid hup; clear hup
          go_wp2
          go_roundw
          case rel => exact ⟨C, xx * 10, rfl, int_eq (by omega), by omega, by omega, Lib.hid Hup.out, by trivial⟩
          case measure => simp [intOf]; omega
        · obtain rfl : c = 0 := by omega
          have hxx : xx = X0 := Hx.out
          subst hxx
          clear Hx
          go_wp2
          go_loopw [4, 7] (fun x k wr => x = .int .i64 xx ∧ k = .int .i64 8 ∧ w = wr) (fun _ _ _ => 0)
          case atStart => exact ⟨rfl, rfl, by trivial⟩
          case round =>
            obtain ⟨rfl, rfl, rfl⟩ := hrel
            go_wp2
            go_loopw [3, 4, 32] (fun r x i wr => ∃ (t : Nat) (s1 s2 : Int), t ≤ 3 ∧ r = .int .i64 s1 ∧ x = .int .i64 s2 ∧ i = .int .i64 t ∧ 100000000 ≤ s2 ∧ s2 < 1000000000 ∧ 0 ≤ s1 ∧ ((t = 0 ∧ s1 ≤ 8) ∨ (t = 1 ∧ s1 ≤ 89) ∨ (t = 2 ∧ s1 ≤ 899) ∨ (t = 3 ∧ s1 ≤ 8999)) ∧ Hid ((digR (3 - t) (s1, s2)).1 = R) ∧ w = wr) (fun _ _ i _ => 3 - (intOf i).toNat)
            case atStart => exact ⟨0, K, xx, by omega, rfl, rfl, rfl, hi1, hi2, by omega, .inl ⟨rfl, by omega⟩, Lib.hid HR.out, by trivial⟩
            case round =>
              clear hi1 hi2 x0 HR
              obtain ⟨t, s1, s2, ht, rfl, rfl, rfl, hi1, hi2, hs0, hsb, HR, rfl⟩ := hrel
              by_cases ht3 : t < 3
              · have ht3' : (t : Int) < 3 := by omega
                go_wp2
                go_loopw [8, 9, 34] (fun y d j wr => ∃ (u : Nat) (yy dd : Int), u ≤ 10 ∧ y = .int .i64 yy ∧ d = .int .i64 dd ∧ j = .int .i64 u ∧ 100000000 ≤ yy ∧ yy < 1000000000 ∧ 0 ≤ dd ∧ dd ≤ u ∧ Hid (mulN s2 (10 - u) (yy, dd) = mulN s2 10 (100000000, 0)) ∧ w = wr) (fun _ _ j _ => 10 - (intOf j).toNat)
                case atStart => exact ⟨0, 100000000, 0, by omega, rfl, rfl, rfl, by omega, by omega, by omega, by omega, Lib.hid rfl, by trivial⟩
                case round =>
                  obtain ⟨u, yy, dd, hu, rfl, rfl, rfl, hy1, hy2, hd1, hd2, HM, rfl⟩ := hrel
                  by_cases hu10 : u < 10
                  · have hu10' : (u : Int) < 10 := by omega
                    have p1 : 100000000 * 100000000 ≤ yy * s2 := Int.mul_le_mul hy1 hi1 (by omega) (by omega)
                    have p2 : yy * s2 ≤ 999999999 * 999999999 := Int.mul_le_mul (by omega) (by omega) (by omega) (by omega)
                    have hmn : mulN s2 (10 - u) (yy, dd) = mulN s2 (10 - (u + 1)) (mulS s2 (yy, dd)) := by
                      rw [show 10 - u = (10 - (u + 1)) + 1 by omega, mulN]
                    rw [mulS] at hmn
                    simp only at hmn
                    have e0 : IntKind.i64.wrap (yy * s2) = yy * s2 := IntWalk.i64_in _ (by omega)
                    have e1 : (yy * s2).tdiv 100000000 = yy * s2 / 100000000 := Int.tdiv_eq_ediv_of_nonneg (by omega)
                    have hq : 100000000 ≤ yy * s2 / 100000000 ∧ yy * s2 / 100000000 < 10000000000 := by omega
                    generalize yy * s2 / 100000000 = q at *
                    have e2 : IntKind.i64.wrap q = q := IntWalk.i64_in _ (by omega)
                    have e3 : q.tdiv 10 = q / 10 := Int.tdiv_eq_ediv_of_nonneg (by omega)
                    have e4 : IntKind.i64.wrap (q / 10) = q / 10 := IntWalk.i64_in _ (by omega)
                    have Hmn := Lib.hid hmn; clear hmn
                    clear p1 p2
                    by_cases hb : 1000000000 ≤ q
                    · go_wp2
                      go_roundw
                      case rel => exact ⟨u + 1, q / 10, dd + 1, by omega, rfl, rfl, int_eq (by omega), by omega, by omega, by omega, by omega, Lib.hid (by rw [← HM.out, Hmn.out, if_pos hb]), by trivial⟩
                      case measure => simp [intOf]; omega
                    · go_wp2
                      go_roundw
                      case rel => exact ⟨u + 1, q, dd, by omega, rfl, rfl, int_eq (by omega), by omega, by omega, by omega, by omega, Lib.hid (by rw [← HM.out, Hmn.out, if_neg (by omega)]), by trivial⟩
                      case measure => simp [intOf]; omega
                  · obtain rfl : u = 10 := by omega
                    have hm : mulN s2 10 (100000000, 0) = (yy, dd) := HM.out.symm
                    have hdg : digS (s1, s2) = (10 * s1 + dd, yy) := by rw [digS, hm]
                    have hdR : (digR (3 - (t + 1)) (10 * s1 + dd, yy)).1 = R := by
                      have := HR.out
                      rw [show 3 - t = (3 - (t + 1)) + 1 by omega, digR, hdg] at this
                      exact this
                    have hdd : dd ≤ 9 := by
                      have := mulN_first (x := s2) ⟨hi1, hi2⟩
                      rw [hm] at this
                      exact this.2
                    have HdR := Lib.hid hdR; clear hdR
                    clear hm hdg HM
                    go_wp2
                    go_roundw
                    case rel => exact ⟨t + 1, 10 * s1 + dd, yy, by omega, rfl, rfl, int_eq (by omega), hy1, hy2, by omega, by omega, Lib.hid HdR.out, by trivial⟩
                    case measure => simp [intOf]; omega
              · obtain rfl : t = 3 := by omega
                have hRR : s1 = R := HR.out
                subst hRR
                go_wp2
                go_ret
                exact ⟨rfl, rfl⟩
end Go.Proofs.YtpgcgmbjlecnpaaGreatDoor
/- The least number that is accepted: plain Lean. -/
namespace Go.Proofs.YtpgcgmbjlecnpaaGreatDoor
open Go.RowKit
/-- The least number of a range that is accepted. -/
def lowI (p : Int → Bool) (lo : Int) : Nat → Int
  | 0 => lo
  | n + 1 => if p lo then lo else lowI p (lo + 1) n
theorem least_eq {p : Int → Bool} {r : Int} : ∀ (n : Nat) (lo : Int), lo ≤ r → r ≤ lo + n → p r = true → (∀ x, lo ≤ x → x < r → p x = false) → lowI p lo n = r
  | 0, lo, h0, h1, _, _ => by simp at h1; rw [lowI]; omega
  | n + 1, lo, h0, h1, hr, hx => by
    rw [lowI]
    by_cases e : lo = r
    · subst e; rw [if_pos hr]
    · rw [hx lo (Int.le_refl _) (by omega), if_neg (by simp)]
      exact least_eq n (lo + 1) (by omega) (by omega) hr fun x h2 h3 => hx x (by omega) h3
theorem low_spec {p : Int → Bool} : ∀ (n : Nat) (lo : Int), p (lo + n) = true → p (lowI p lo n) = true ∧ lo ≤ lowI p lo n ∧ lowI p lo n ≤ lo + n ∧ (lowI p lo n = lo ∨ p (lowI p lo n - 1) = false)
  | 0, lo, h => by simpa [lowI] using h
  | n + 1, lo, h => by
    rw [lowI]
    by_cases e : p lo = true
    · rw [if_pos e]; exact ⟨e, Int.le_refl _, by omega, .inl rfl⟩
    · rw [if_neg e]
      obtain ⟨a, b, c, d⟩ := low_spec n (lo + 1) (by rwa [show lo + 1 + (n : Int) = lo + ((n + 1 : Nat) : Int) by omega])
      refine ⟨a, by omega, by omega, .inr ?_⟩
      rcases d with d | d
      · rw [d, show lo + 1 - 1 = lo by omega]; simpa using e
      · exact d
/-- The value and the code of the search. -/
def leaV (p : Int → Bool) (lo hi : Int) : Int := if p hi then lowI p lo (hi - lo).toNat else 0
def leaK (p : Int → Bool) (hi : Int) : Int := if p hi then 0 else 3
theorem lea_found {p : Int → Bool} {lo hi r : Int} (mono : ∀ a b, lo ≤ a → a ≤ b → b ≤ hi → p a = true → p b = true) (h0 : lo ≤ r) (h1 : r ≤ hi) (hr : p r = true) (hm : r = lo ∨ p (r - 1) = false) : leaV p lo hi = r ∧ leaK p hi = 0 := by
  have hh := mono r hi h0 h1 (Int.le_refl _) hr
  refine ⟨?_, by rw [leaK, if_pos hh]⟩
  rw [leaV, if_pos hh]
  refine least_eq _ lo h0 (by omega) hr fun x h2 h3 => ?_
  rcases hm with hm | hm
  · omega
  · cases hx : p x
    · rfl
    · rw [mono x (r - 1) h2 (by omega) (by omega) hx] at hm
      cases hm
theorem lea_none {p : Int → Bool} {lo hi : Int} (h : p hi = false) : leaV p lo hi = 0 ∧ leaK p hi = 3 := by
  rw [leaV, leaK, if_neg (by simp [h]), if_neg (by simp [h])]; exact ⟨rfl, rfl⟩
theorem lea_spec {p : Int → Bool} {lo hi : Int} (h : lo ≤ hi) : (leaK p hi = 0 ∧ p (leaV p lo hi) = true ∧ lo ≤ leaV p lo hi ∧ leaV p lo hi ≤ hi ∧ (leaV p lo hi = lo ∨ p (leaV p lo hi - 1) = false)) ∨ (leaK p hi = 3 ∧ p hi = false) := by
  cases hp : p hi
  · exact .inr ⟨by rw [leaK, if_neg (by simp [hp])], rfl⟩
  · obtain ⟨a, b, c, d⟩ := low_spec (p := p) (hi - lo).toNat lo (by rwa [show lo + ((hi - lo).toNat : Int) = hi by omega])
    refine .inl ⟨by rw [leaK, if_pos hp], ?_⟩
    rw [leaV, if_pos hp]
    exact ⟨a, b, by omega, d⟩
end Go.Proofs.YtpgcgmbjlecnpaaGreatDoor
/- The reference's least and greatest of two numbers. -/
namespace Go.Proofs.YtpgcgmbjlecnpaaGreatDoor
open Go.RowKit
set_option maxHeartbeats 400000 in
theorem l00Min_c (a b : Int) (w : World) : Calls Tryz.prog 112 #[.int .i64 a, .int .i64 b] w fun e w' => e = .returned (.int .i64 (min a b)) ∧ w = w' := by
  go_enter Tryz.func112, Tryz.ntmps112
  go_wp2
  all_goals
    go_ret
    exact ⟨ret_eq (int_eq (by omega)), rfl⟩
end Go.Proofs.YtpgcgmbjlecnpaaGreatDoor
/- How far a light is seen, both sides. -/
namespace Go.Proofs.YtpgcgmbjlecnpaaGreatDoor
open Go.RowKit
set_option maxRecDepth 100000 in
set_option maxHeartbeats 1000000 in
theorem l09Seen_cT (T : Int → Int) (hT : ∀ n, 1 ≤ n → n < 1000000000 → 0 ≤ T n ∧ T n ≤ 8999) (hL : ∀ (n : Int) (w1 : World), 1 ≤ n → n < 1000000000 → Calls Tryz.prog 175 #[.int .i64 n] w1 fun e w' => e = .returned (.int .i64 (T n)) ∧ w1 = w') (i d v : Int) (w : World) (i1 : 1 ≤ i) (i2 : i ≤ 100000000) (d1 : 1 ≤ d) (d2 : d ≤ 100000) (v1 : 1 ≤ v) (v2 : v ≤ 100000) :
    Calls Tryz.prog 149 #[.int .i64 i, .int .i64 v, .int .i64 d] w fun e w' => e = .returned (.bool (decide (2 * T d ≤ T i + 6699 - 1301 * d / v))) ∧ Below w.heap.size w w' := by
  have hb1 := hT i i1 (by omega)
  have hb2 := hT d d1 (by omega)
  have q0 : 0 ≤ 1301 * d / v := Int.ediv_nonneg (by omega) (by omega)
  have q1 : 1301 * d / v ≤ 1301 * d := Int.ediv_le_self _ (by omega)
  have e1 : (1301 * d).tdiv v = 1301 * d / v := Int.tdiv_eq_ediv_of_nonneg (by omega)
  have hL1 : ∀ (n : Int) (w1 : World) (k : Nat), 1 ≤ n → n < 1000000000 → Calls Tryz.prog 175 #[.int .i64 n] (w1.drewN k) fun e w' => e = .returned (.int .i64 (T n)) ∧ w1.drewN k = w' := fun n w1 k a b => hL n _ a b
  have hv0 : ¬ v = 0 := by omega
  have j1 : i < 1000000000 := by omega
  have j2 : d < 1000000000 := by omega
  generalize 1301 * d / v = Q at *
  have e2 : IntKind.i64.wrap Q = Q := IntWalk.i64_in _ (by omega)
  have HL1 := Lib.hid hL1; clear hL1
  clear hL hT
  go_enter Tryz.func149, Tryz.ntmps149
  go_wp2_with fail
  go_quiet ((go_at_call 175; exact quiet_c (HL1.out _ _ _ (by assumption) (by assumption))))
  go_wp2_with fail
  go_ret
  exact ⟨rfl, below_drewN (Below.refl _ _) _⟩
theorem l09Seen_c (i d v : Int) (w : World) (i1 : 1 ≤ i) (i2 : i ≤ 100000000) (d1 : 1 ≤ d) (d2 : d ≤ 100000) (v1 : 1 ≤ v) (v2 : v ≤ 100000) :
    Calls Tryz.prog 149 #[.int .i64 i, .int .i64 v, .int .i64 d] w fun e w' => e = .returned (.bool (enoughB i d v)) ∧ Below w.heap.size w w' :=
  l09Seen_cT tlog (fun _ a b => tlog_in a b) (fun n w1 a b => l09Log_c n w1 a b) i d v w i1 i2 d1 d2 v1 v2
set_option maxRecDepth 100000 in
set_option maxHeartbeats 1000000 in
theorem enough_cT (T : Int → Int) (hT : ∀ n, 1 ≤ n → n < 1000000000 → 0 ≤ T n ∧ T n ≤ 8999) (hL : ∀ (n : Int) (w1 : World), 1 ≤ n → n < 1000000000 → Calls Tryz.prog 178 #[.int .i64 n] w1 fun e w' => e = .returned (.int .i64 (T n)) ∧ w1 = w') (i d v : Int) (w : World) (i1 : 1 ≤ i) (i2 : i ≤ 100000000) (d1 : 1 ≤ d) (d2 : d ≤ 100000) (v1 : 1 ≤ v) (v2 : v ≤ 100000) :
    Calls Tryz.prog 163 #[.int .i64 i, .int .i64 d, .int .i64 v] w fun e w' => e = .returned (.bool (decide (2 * T d ≤ T i + 6699 - 1301 * d / v))) ∧ Below w.heap.size w w' := by
  have hb1 := hT i i1 (by omega)
  have hb2 := hT d d1 (by omega)
  have q0 : 0 ≤ 1301 * d / v := Int.ediv_nonneg (by omega) (by omega)
  have q1 : 1301 * d / v ≤ 1301 * d := Int.ediv_le_self _ (by omega)
  have e1 : (1301 * d).tdiv v = 1301 * d / v := Int.tdiv_eq_ediv_of_nonneg (by omega)
  have hL1 : ∀ (n : Int) (w1 : World) (k : Nat), 1 ≤ n → n < 1000000000 → Calls Tryz.prog 178 #[.int .i64 n] (w1.drewN k) fun e w' => e = .returned (.int .i64 (T n)) ∧ w1.drewN k = w' := fun n w1 k a b => hL n _ a b
  have hv0 : ¬ v = 0 := by omega
  have j1 : i < 1000000000 := by omega
  have j2 : d < 1000000000 := by omega
  generalize 1301 * d / v = Q at *
  have e2 : IntKind.i64.wrap Q = Q := IntWalk.i64_in _ (by omega)
  have HL1 := Lib.hid hL1; clear hL1
  clear hL hT
  go_enter Tryz.func163, Tryz.ntmps163
  go_wp2_with fail
  go_quiet ((go_at_call 178; exact quiet_c (HL1.out _ _ _ (by assumption) (by assumption))))
  go_wp2_with fail
  go_ret
  exact ⟨rfl, below_drewN (Below.refl _ _) _⟩
theorem enough_c (i d v : Int) (w : World) (i1 : 1 ≤ i) (i2 : i ≤ 100000000) (d1 : 1 ≤ d) (d2 : d ≤ 100000) (v1 : 1 ≤ v) (v2 : v ≤ 100000) :
    Calls Tryz.prog 163 #[.int .i64 i, .int .i64 d, .int .i64 v] w fun e w' => e = .returned (.bool (enoughB i d v)) ∧ Below w.heap.size w w' :=
  enough_cT tlog (fun _ a b => tlog_in a b) (fun n w1 a b => tenLog_c n w1 a b) i d v w i1 i2 d1 d2 v1 v2
theorem l09Horizon_c (h : Int) (w : World) (h0 : 0 ≤ h) (h1 : h ≤ 3000) : Calls Tryz.prog 114 #[.int .i64 h] w fun e w' => e = .returned (.int .i64 (rootI (1483790 * h))) ∧ 0 ≤ rootI (1483790 * h) ∧ rootI (1483790 * h) ≤ 3037000499 ∧ w = w' := by
  have hR : ∀ w1, Calls Tryz.prog 92 #[.int .i64 (1483790 * h)] w1 fun e w' => e = .returned (.int .i64 (rootI (1483790 * h))) ∧ IsRoot (1483790 * h) (rootI (1483790 * h)) ∧ w1 = w' := fun w1 => l01Root_c _ w1 (by omega)
  generalize rootI (1483790 * h) = R at *
  have HR := Lib.hid hR; clear hR
  go_enter Tryz.func114, Tryz.ntmps114
  go_wp2_with (go_at_call 92; refine (HR.out _).mono ?_; rintro e w1 ⟨rfl, hroot, rfl⟩)
  go_ret
  exact ⟨rfl, hroot.lo, hroot.hi, rfl⟩
theorem horizon_c (h : Int) (w : World) (h0 : 0 ≤ h) (h1 : h ≤ 3000) : Calls Tryz.prog 124 #[.int .i64 h] w fun e w' => e = .returned (.int .i64 (rootI (1483790 * h))) ∧ 0 ≤ rootI (1483790 * h) ∧ rootI (1483790 * h) ≤ 3037000499 ∧ w = w' := by
  have hR : ∀ w1, Calls Tryz.prog 105 #[.int .i64 (1483790 * h)] w1 fun e w' => e = .returned (.int .i64 (rootI (1483790 * h))) ∧ IsRoot (1483790 * h) (rootI (1483790 * h)) ∧ w1 = w' := fun w1 => rootOf_c _ w1 (by omega)
  generalize rootI (1483790 * h) = R at *
  have HR := Lib.hid hR; clear hR
  go_enter Tryz.func124, Tryz.ntmps124
  go_wp2_with (go_at_call 105; refine (HR.out _).mono ?_; rintro e w1 ⟨rfl, hroot, rfl⟩)
  go_ret
  exact ⟨rfl, hroot.lo, hroot.hi, rfl⟩
set_option maxRecDepth 100000 in
set_option maxHeartbeats 1000000 in
theorem l09Lum_c (i v : Int) (w : World) (i1 : 1 ≤ i) (i2 : i ≤ 100000000) (v1 : 1 ≤ v) (v2 : v ≤ 100000) : Calls Tryz.prog 113 #[.int .i64 i, .int .i64 v] w fun e w' => e = .returned (.int .i64 (lumI i v)) ∧ Below w.heap.size w w' := by
  obtain ⟨R, hR⟩ : ∃ R, lumI i v = R := ⟨_, rfl⟩
  have hf : ∀ r, IsLum i v r → R = r := fun r h => by rw [← hR]; exact lumI_eq v1 h
  rw [hR]
  have HF := Lib.hid hf; clear hf
  clear hR
  go_enter Tryz.func113, Tryz.ntmps113
  go_wp2
  go_loopw [5, 6] (fun x y wr => ∃ lo hi : Int, x = .int .i64 lo ∧ y = .int .i64 hi ∧ 0 ≤ lo ∧ lo < hi ∧ hi ≤ 100001 ∧ Hid (0 < lo → enoughB i lo v = true) ∧ Hid (hi ≤ 100000 → enoughB i hi v = false) ∧ Below w.heap.size w wr) (fun x y _ => (intOf y - intOf x).toNat)
  case atStart => exact ⟨0, 100001, rfl, rfl, by omega, by omega, by omega, Lib.hid (fun h => absurd h (by omega)), Lib.hid (fun h => absurd h (by omega)), Below.refl _ _⟩
  case round =>
    obtain ⟨lo, hi, rfl, rfl, h0, h1, h2, Hl, Hh, hbw⟩ := hrel
    by_cases hlt : 1 < hi - lo
    · obtain ⟨M, hM⟩ : ∃ M, (lo + hi) / 2 = M := ⟨_, rfl⟩
      have hM1 : lo < M := by omega
      have hM2 : M < hi := by omega
      have e1 : (lo + hi).tdiv 2 = M := by rw [Int.tdiv_eq_ediv_of_nonneg (by omega)]; exact hM
      have e2 : IntKind.i64.wrap M = M := IntWalk.i64_in _ (by omega)
      have hS := l09Seen_c i M v wr i1 i2 (by omega) (by omega) v1 v2
      clear hM
      have HS := Lib.hid hS; clear hS
      cases hb : enoughB i M v
      · go_wp2_with fail
        refine HS.out.mono ?_
        rw [hb]
        rintro e w1 ⟨rfl, hb1⟩
        go_wp2_with fail
        go_roundw
        case rel => exact ⟨lo, M, rfl, rfl, h0, by omega, by omega, Hl, Lib.hid (fun _ => hb), hbw.trans (hb1.mono hbw.size)⟩
        case measure => simp [intOf]; omega
      · go_wp2_with fail
        refine HS.out.mono ?_
        rw [hb]
        rintro e w1 ⟨rfl, hb1⟩
        go_wp2_with fail
        go_roundw
        case rel => exact ⟨M, hi, rfl, rfl, by omega, by omega, h2, Lib.hid (fun _ => hb), Hh, hbw.trans (hb1.mono hbw.size)⟩
        case measure => simp [intOf]; omega
    · obtain rfl : hi = lo + 1 := by omega
      obtain rfl : R = lo := HF.out lo ⟨h0, by omega, Hl.out, fun h => Hh.out (by omega)⟩
      go_wp2_with fail
      go_ret
      exact ⟨rfl, hbw⟩
set_option maxRecDepth 100000 in
set_option maxHeartbeats 1000000 in
/-- The search, of a condition I on the world that the closure keeps. -/
theorem leastLum_c (b1 b2 : Nat) (p : Int → Bool) (lo hi : Int) (I : World → Prop) (w : World) (h0 : 0 ≤ lo) (h1 : lo ≤ hi) (h2 : hi ≤ 1000000000) (mono : ∀ a b, lo ≤ a → a ≤ b → b ≤ hi → p a = true → p b = true)
    (hf : ∀ (n : Int) (w1 : World), lo ≤ n → n ≤ hi → I w1 → Calls Tryz.prog 162 #[.int .i64 n, .pointer (some ⟨b1, 0, none⟩), .pointer (some ⟨b2, 0, none⟩)] w1 fun e w' => e = .returned (.bool (p n)) ∧ I w') (hI : I w) :
    Calls Tryz.prog 161 #[.int .i64 lo, .int .i64 hi, .func (.func 162) #[] #[.pointer (some ⟨b1, 0, none⟩), .pointer (some ⟨b2, 0, none⟩)]] w fun e w' => e = .returned (.tuple #[.int .i64 (leaV p lo hi), .int .i64 (leaK p hi)]) ∧ I w' := by
  obtain ⟨RV, hRV⟩ : ∃ RV, leaV p lo hi = RV := ⟨_, rfl⟩
  obtain ⟨RK, hRK⟩ : ∃ RK, leaK p hi = RK := ⟨_, rfl⟩
  rw [hRV, hRK]
  have hf0 := hf hi w h1 (Int.le_refl _) hI
  have HRV := Lib.hid hRV; clear hRV
  have HRK := Lib.hid hRK; clear hRK
  have HF := Lib.hid hf; clear hf
  have HM := Lib.hid mono; clear mono
  have HF0 := Lib.hid hf0; clear hf0
  cases hph : p hi
  · obtain ⟨v1, v2⟩ := lea_none (lo := lo) hph
    rw [HRV.out] at v1
    rw [HRK.out] at v2
    subst v1 v2
    go_enter Tryz.func161, Tryz.ntmps161
    go_wp2_with fail
    refine HF0.out.mono ?_
    rw [hph]
    rintro e w1 ⟨rfl, hI1⟩
    go_wp2_with fail
    go_ret2
    exact ⟨rfl, hI1⟩
  · go_enter Tryz.func161, Tryz.ntmps161
    go_wp2_with fail
    refine HF0.out.mono ?_
    rw [hph]
    rintro e w1 ⟨rfl, hI1⟩
    clear HF0 hI
    go_wp2_with fail
    go_loopw [0, 1] (fun x y wr => ∃ a b : Int, x = .int .i64 a ∧ y = .int .i64 b ∧ lo ≤ a ∧ a ≤ b ∧ b ≤ hi ∧ p b = true ∧ (a = lo ∨ p (a - 1) = false) ∧ I wr) (fun x y _ => (intOf y - intOf x).toNat)
    case atStart => exact ⟨lo, hi, rfl, rfl, by omega, h1, by omega, hph, .inl rfl, hI1⟩
    case round =>
      clear hph hI1
      obtain ⟨a, b, rfl, rfl, ha, hab, hb, hpb, hpa, hIr⟩ := hrel
      have Hpb := Lib.hid hpb; clear hpb
      have Hpa := Lib.hid hpa; clear hpa
      by_cases hlt : a < b
      · obtain ⟨M, hM⟩ : ∃ M, (a + b).tdiv 2 = M := ⟨_, rfl⟩
        have hMb : a ≤ M ∧ M < b := by
          rw [Int.tdiv_eq_ediv_of_nonneg (by omega)] at hM
          omega
        have e1 : IntKind.i64.wrap M = M := IntWalk.i64_in _ (by omega)
        have hfM := HF.out M wr (by omega) (by omega) hIr
        have HFM := Lib.hid hfM; clear hfM
        cases hpM : p M
        · go_wp2_with fail
          refine HFM.out.mono ?_
          rw [hpM]
          rintro e w2 ⟨rfl, hI2⟩
          go_wp2_with fail
          go_roundw
          case rel => exact ⟨M + 1, b, rfl, rfl, by omega, by omega, hb, Hpb.out, .inr (by rwa [show M + 1 - 1 = M by omega]), hI2⟩
          case measure => simp [intOf]; omega
        · go_wp2_with fail
          refine HFM.out.mono ?_
          rw [hpM]
          rintro e w2 ⟨rfl, hI2⟩
          go_wp2_with fail
          go_roundw
          case rel => exact ⟨a, M, rfl, rfl, ha, by omega, by omega, hpM, Hpa.out, hI2⟩
          case measure => simp [intOf]; omega
      · obtain rfl : a = b := by omega
        obtain ⟨v1, v2⟩ := lea_found HM.out ha hb Hpb.out Hpa.out
        rw [HRV.out] at v1
        rw [HRK.out] at v2
        subst v1 v2
        go_wp2_with fail
        go_ret2
        exact ⟨rfl, hIr⟩
set_option maxRecDepth 100000 in
set_option maxHeartbeats 1000000 in
theorem lumClo_c (b1 b2 : Nat) (i d v : Int) (w : World) (c1 : w.cell? ⟨b1, 0, none⟩ = some (.int .i64 i)) (c2 : w.cell? ⟨b2, 0, none⟩ = some (.int .i64 v)) (i1 : 1 ≤ i) (i2 : i ≤ 100000000) (d1 : 1 ≤ d) (d2 : d ≤ 100000) (v1 : 1 ≤ v) (v2 : v ≤ 100000) :
    Calls Tryz.prog 162 #[.int .i64 d, .pointer (some ⟨b1, 0, none⟩), .pointer (some ⟨b2, 0, none⟩)] w fun e w' => e = .returned (.bool (!enoughB i d v)) ∧ Below w.heap.size w w' := by
  have hS := enough_c i d v w i1 i2 d1 d2 v1 v2
  generalize enoughB i d v = B at *
  have HS := Lib.hid hS; clear hS
  go_enter Tryz.func162, Tryz.ntmps162
  go_wp2_with fail
  refine HS.out.mono ?_
  rintro e w1 ⟨rfl, hb1⟩
  go_wp2_with fail
  go_ret
  exact ⟨rfl, hb1⟩
set_option maxRecDepth 100000 in
set_option maxHeartbeats 1000000 in
theorem luminous_c (i v : Int) (w : World) (i1 : 1 ≤ i) (i2 : i ≤ 100000000) (v1 : 1 ≤ v) (v2 : v ≤ 100000) : Calls Tryz.prog 123 #[.int .i64 i, .int .i64 v] w fun e w' => e = .returned (.int .i64 (lumI i v)) ∧ Below w.heap.size w w' := by
  obtain ⟨R, hR⟩ : ∃ R, lumI i v = R := ⟨_, rfl⟩
  have hf : ∀ r, IsLum i v r → R = r := fun r h => by rw [← hR]; exact lumI_eq v1 h
  rw [hR]
  clear hR
  have hbA : Below w.heap.size w ((w.alloc (.cells #[.int .i64 i] 2)).alloc (.cells #[.int .i64 v] 2)) := by (repeat (first | (with_reducible assumption) | (with_reducible exact Below.refl _ _) | exact Nat.le_refl _ | exact Below.size (by with_reducible assumption) | (with_reducible refine Below.drew ?_) | (with_reducible refine below_drewN ?_ _) | (with_reducible refine Below.alloc ?_ ?_ _) | (with_reducible refine Below.setCell ?_ ?_ _) | (with_reducible refine le_alloc ?_ _) | (with_reducible refine le_set ?_ _ _) | (with_reducible refine le_drew ?_) | (with_reducible refine le_drewN ?_ _) | omega | (dsimp only; omega)))
  have hA2 : ((w.alloc (.cells #[.int .i64 i] 2)).alloc (.cells #[.int .i64 v] 2)).heap[w.heap.size]? = some (.cells #[.int .i64 i] 2 (0, 0)) := heap_alloc2_old w _ _
  have hA3 : ((w.alloc (.cells #[.int .i64 i] 2)).alloc (.cells #[.int .i64 v] 2)).heap[w.heap.size + 1]? = some (.cells #[.int .i64 v] 2 (0, 0)) := heap_alloc2_new w _ _
  have k2 := (cell_of_row _ w.heap.size 0 _ _ _ hA2).trans rfl
  have k3 := (cell_of_row _ (w.heap.size + 1) 0 _ _ _ hA3).trans rfl
  have hzA : w.heap.size + 1 < ((w.alloc (.cells #[.int .i64 i] 2)).alloc (.cells #[.int .i64 v] 2)).heap.size := by simp
  have hmono : ∀ a b, 1 ≤ a → a ≤ b → b ≤ 100000 → (!enoughB i a v) = true → (!enoughB i b v) = true := fun a b h1 h2 h3 h => by
    cases hb : enoughB i b v
    · rfl
    · rw [enough_le h1 h2 h3 v1 hb] at h; cases h
  have hsp := lea_spec (p := fun d => !enoughB i d v) (show (1 : Int) ≤ 100000 by omega)
  clear hA2 hA3
  obtain ⟨V, hV⟩ : ∃ V, leaV (fun d => !enoughB i d v) 1 100000 = V := ⟨_, rfl⟩
  obtain ⟨K, hK⟩ : ∃ K, leaK (fun d => !enoughB i d v) 100000 = K := ⟨_, rfl⟩
  rw [hV, hK] at hsp
  have HF := Lib.hid hf; clear hf
  have HV := Lib.hid hV; clear hV
  have HK := Lib.hid hK; clear hK
  have Hsp := Lib.hid hsp; clear hsp
  have HM := Lib.hid hmono; clear hmono
  go_enter Tryz.func123, Tryz.ntmps123
  go_wp2_with fail
  generalize (w.alloc (.cells #[.int .i64 i] 2)).alloc (.cells #[.int .i64 v] 2) = w0 at *
  refine (leastLum_c w.heap.size (w.heap.size + 1) (fun d => !enoughB i d v) 1 100000 (fun w' => Below w0.heap.size w0 w') w0 (by omega) (by omega) (by omega) HM.out (fun d w1 m1 m2 hw1 => ?_) (Below.refl _ _)).mono ?_
  · refine (lumClo_c w.heap.size (w.heap.size + 1) i d v w1 ((keepC hw1 _ (by omega) 0).trans k2) ((keepC hw1 _ hzA 0).trans k3) i1 i2 m1 m2 v1 v2).mono ?_
    rintro e w2 ⟨rfl, hb2⟩
    exact ⟨rfl, hw1.trans (hb2.mono hw1.size)⟩
  · rw [HV.out, HK.out]
    rintro e w3 ⟨rfl, hb3⟩
    have hbb := hbA.trans (hb3.mono hbA.size)
    clear HM k2 k3 hzA hbA hb3
    rcases Hsp.out with ⟨hk0, hp, hv1, hv2, hv3⟩ | ⟨hk3, hp⟩
    · subst hk0
      obtain rfl : R = V - 1 := by
        refine HF.out (V - 1) ⟨by omega, by omega, fun h => ?_, fun _ => ?_⟩
        · rcases hv3 with h3 | h3
          · omega
          · simpa using h3
        · rw [show V - 1 + 1 = V by omega]; simpa using hp
      clear Hsp hp hv3
      go_wp2_with fail
      go_ret
      exact ⟨rfl, hbb⟩
    · subst hk3
      obtain rfl : R = 100000 := by
        refine HF.out 100000 ⟨by omega, by omega, fun _ => by simpa using hp, fun h => absurd h (by omega)⟩
      clear Hsp hp
      go_wp2_with fail
      go_ret
      exact ⟨rfl, hbb⟩
end Go.Proofs.YtpgcgmbjlecnpaaGreatDoor
/- Observers; how far a light is seen by one. -/
namespace Go.Proofs.YtpgcgmbjlecnpaaGreatDoor
open Go.RowKit
structure Obv where
  x : Int
  y : Int
  e : Int
  v : Int
abbrev obvV (o : Obv) : Value := .agg #[.int .i64 o.x, .int .i64 o.y, .int .i64 o.e, .int .i64 o.v]
abbrev obvO (o : Obv) (E : TypeId) : Obj := .cells #[.int .i64 o.x, .int .i64 o.y, .int .i64 o.e, .int .i64 o.v] E
def obvB (o : Obv) : Bool := (inB o.x 0 200000 && inB o.y 0 200000) && (inB o.e 0 3000 && inB o.v 1 100000)
structure ObvP (w : World) (b : Nat) (o : Obv) : Prop where
  c0 : w.cell? ⟨b, 0, none⟩ = some (.int .i64 o.x)
  c1 : w.cell? ⟨b, 1, none⟩ = some (.int .i64 o.y)
  c2 : w.cell? ⟨b, 2, none⟩ = some (.int .i64 o.e)
  c3 : w.cell? ⟨b, 3, none⟩ = some (.int .i64 o.v)
  hb : b < w.heap.size
theorem ObvP.next {w w' : World} {b : Nat} {o : Obv} (h : ObvP w b o) (hb : Below w.heap.size w w') : ObvP w' b o :=
  have k := keepC hb b h.hb
  ⟨(k _).trans h.c0, (k _).trans h.c1, (k _).trans h.c2, (k _).trans h.c3, Nat.lt_of_lt_of_le h.hb hb.size⟩
theorem ObvP.box (w : World) (o : Obv) (E : TypeId) : ObvP (w.alloc (obvO o E)) w.heap.size o :=
  have hb : (w.alloc (obvO o E)).heap[w.heap.size]? = some (.cells #[.int .i64 o.x, .int .i64 o.y, .int .i64 o.e, .int .i64 o.v] E (0, 0)) := heap_alloc_new w _
  ⟨(cell_of_row _ w.heap.size _ _ E (0, 0) hb).trans rfl, (cell_of_row _ w.heap.size _ _ E (0, 0) hb).trans rfl, (cell_of_row _ w.heap.size _ _ E (0, 0) hb).trans rfl, (cell_of_row _ w.heap.size _ _ E (0, 0) hb).trans rfl, by simp⟩
noncomputable def rngI (i h e v : Int) : Int := min (lumI i v) (rootI (1483790 * h) + rootI (1483790 * e))
noncomputable def reaV (a : AidX) (o : Obv) : Int := bif aidB a && obvB o then (bif litB a then rngI a.it a.h o.e o.v else 0) else 0
def reaK (a : AidX) (o : Obv) : Int := bif aidB a && obvB o then (bif litB a then 0 else 6) else 1
theorem lit_it {a : AidX} (h : litB a = true) : 1 ≤ a.it ∧ a.it ≤ 100000000 := by
  simp only [litB, Bool.and_eq_true, inB_iff] at h
  exact h.2.1
theorem aid_h {a : AidX} (h : aidB a = true) : 0 ≤ a.h ∧ a.h ≤ 3000 := by
  simp only [aidB, aidHeadB, Bool.and_eq_true, inB_iff] at h
  exact h.1.2.2.2.1
theorem obv_bd {o : Obv} (h : obvB o = true) : (0 ≤ o.e ∧ o.e ≤ 3000) ∧ (1 ≤ o.v ∧ o.v ≤ 100000) := by
  simp only [obvB, Bool.and_eq_true, inB_iff] at h
  exact h.2
set_option maxRecDepth 100000 in
set_option maxHeartbeats 1000000 in
theorem rangeOf_c (i h e v : Int) (w : World) (i1 : 1 ≤ i) (i2 : i ≤ 100000000) (h1 : 0 ≤ h) (h2 : h ≤ 3000) (e1 : 0 ≤ e) (e2 : e ≤ 3000) (v1 : 1 ≤ v) (v2 : v ≤ 100000) :
    Calls Tryz.prog 79 #[.int .i64 i, .int .i64 h, .int .i64 e, .int .i64 v] w fun e' w' => e' = .returned (.int .i64 (rngI i h e v)) ∧ Below w.heap.size w w' := by
  have hL : ∀ w1, Calls Tryz.prog 123 #[.int .i64 i, .int .i64 v] w1 fun e w' => e = .returned (.int .i64 (lumI i v)) ∧ Below w1.heap.size w1 w' := fun w1 => luminous_c i v w1 i1 i2 v1 v2
  have hH : ∀ (h : Int) w1, 0 ≤ h → h ≤ 3000 → Calls Tryz.prog 124 #[.int .i64 h] w1 fun e w' => e = .returned (.int .i64 (rootI (1483790 * h))) ∧ 0 ≤ rootI (1483790 * h) ∧ rootI (1483790 * h) ≤ 3037000499 ∧ w1 = w' := fun h w1 a b => horizon_c h w1 a b
  unfold rngI
  generalize lumI i v = L at *
  generalize rootI = R at *
  obtain ⟨X, hX⟩ : ∃ X, min L (R (1483790 * h) + R (1483790 * e)) = X := ⟨_, rfl⟩
  rw [hX]
  have HX := Lib.hid hX; clear hX
  have HL := Lib.hid hL; clear hL
  have HH := Lib.hid hH; clear hH
  go_enter Tryz.func79, Tryz.ntmps79
  go_wp2_with fail
  refine (HL.out _).mono ?_
  rintro e' w1 ⟨rfl, hb1⟩
  go_wp2_with fail
  refine (HH.out h _ h1 h2).mono ?_
  rintro e' w2 ⟨rfl, a1, a2, rfl⟩
  go_wp2_with fail
  refine (HH.out e _ e1 e2).mono ?_
  rintro e' w3 ⟨rfl, b1, b2, rfl⟩
  go_wp2_with fail
  all_goals
    go_ret
    exact ⟨ret_eq (int_eq (by have := HX.out; omega)), hb1⟩
theorem l09Int_c (n : Int) (w : World) : Calls Tryz.prog 109 #[.int .i64 n] w fun e w' => e = .returned (.bool (inB n 1 100000000)) ∧ w = w' := by
  go_enter Tryz.func109, Tryz.ntmps109
  go_wp2_with (go_at_call 26; refine (l00In_c _ _ _ _).mono ?_; rintro e w1 ⟨rfl, rfl⟩)
  go_ret
  exact ⟨rfl, rfl⟩
theorem l09Hgt_c (n : Int) (w : World) : Calls Tryz.prog 110 #[.int .i64 n] w fun e w' => e = .returned (.bool (inB n 0 3000)) ∧ w = w' := by
  go_enter Tryz.func110, Tryz.ntmps110
  go_wp2_with (go_at_call 26; refine (l00In_c _ _ _ _).mono ?_; rintro e w1 ⟨rfl, rfl⟩)
  go_ret
  exact ⟨rfl, rfl⟩
theorem l09Air_c (n : Int) (w : World) : Calls Tryz.prog 111 #[.int .i64 n] w fun e w' => e = .returned (.bool (inB n 1 100000)) ∧ w = w' := by
  go_enter Tryz.func111, Tryz.ntmps111
  go_wp2_with (go_at_call 26; refine (l00In_c _ _ _ _).mono ?_; rintro e w1 ⟨rfl, rfl⟩)
  go_ret
  exact ⟨rfl, rfl⟩
set_option maxRecDepth 100000 in
set_option maxHeartbeats 1000000 in
theorem specRange_c (i h e v : Int) (w : World) (i1 : 1 ≤ i) (i2 : i ≤ 100000000) (h1 : 0 ≤ h) (h2 : h ≤ 3000) (e1 : 0 ≤ e) (e2 : e ≤ 3000) (v1 : 1 ≤ v) (v2 : v ≤ 100000) :
    Calls Tryz.prog 73 #[.int .i64 i, .int .i64 h, .int .i64 e, .int .i64 v] w fun e' w' => e' = .returned (.tuple #[.int .i64 (rngI i h e v), .int .i64 0]) ∧ Below w.heap.size w w' := by
  have hL : ∀ w1, Calls Tryz.prog 113 #[.int .i64 i, .int .i64 v] w1 fun e w' => e = .returned (.int .i64 (lumI i v)) ∧ Below w1.heap.size w1 w' := fun w1 => l09Lum_c i v w1 i1 i2 v1 v2
  have hH : ∀ (h : Int) w1, 0 ≤ h → h ≤ 3000 → Calls Tryz.prog 114 #[.int .i64 h] w1 fun e w' => e = .returned (.int .i64 (rootI (1483790 * h))) ∧ 0 ≤ rootI (1483790 * h) ∧ rootI (1483790 * h) ≤ 3037000499 ∧ w1 = w' := fun h w1 a b => l09Horizon_c h w1 a b
  have j1 : inB i 1 100000000 = true := inB_iff.2 ⟨i1, i2⟩
  have j2 : inB h 0 3000 = true := inB_iff.2 ⟨h1, h2⟩
  have j3 : inB e 0 3000 = true := inB_iff.2 ⟨e1, e2⟩
  have j4 : inB v 1 100000 = true := inB_iff.2 ⟨v1, v2⟩
  have hI : ∀ w1, Calls Tryz.prog 109 #[.int .i64 i] w1 fun e w' => e = .returned (.bool true) ∧ w1 = w' := fun w1 => j1 ▸ l09Int_c i w1
  have hG : ∀ (n : Int) w1, 0 ≤ n → n ≤ 3000 → Calls Tryz.prog 110 #[.int .i64 n] w1 fun e w' => e = .returned (.bool true) ∧ w1 = w' := fun n w1 a b => (inB_iff.2 ⟨a, b⟩ : inB n 0 3000 = true) ▸ l09Hgt_c n w1
  have hA : ∀ w1, Calls Tryz.prog 111 #[.int .i64 v] w1 fun e w' => e = .returned (.bool true) ∧ w1 = w' := fun w1 => j4 ▸ l09Air_c v w1
  unfold rngI
  generalize lumI i v = L at *
  generalize rootI = R at *
  have HL := Lib.hid hL; clear hL
  have HH := Lib.hid hH; clear hH
  have HI := Lib.hid hI; clear hI
  have HG := Lib.hid hG; clear hG
  have HA := Lib.hid hA; clear hA
  clear j1 j2 j3 j4
  go_enter Tryz.func73, Tryz.ntmps73
  go_wp2_with fail
  refine (HI.out _).mono ?_
  rintro e' w1 ⟨rfl, rfl⟩
  go_wp2_with fail
  refine (HG.out _ _ h1 h2).mono ?_
  rintro e' w1 ⟨rfl, rfl⟩
  go_wp2_with fail
  refine (HG.out _ _ e1 e2).mono ?_
  rintro e' w1 ⟨rfl, rfl⟩
  go_wp2_with fail
  refine (HA.out _).mono ?_
  rintro e' w1 ⟨rfl, rfl⟩
  go_wp2_with fail
  refine (HL.out _).mono ?_
  rintro e' w1 ⟨rfl, hb1⟩
  go_wp2_with fail
  refine (HH.out h _ h1 h2).mono ?_
  rintro e' w2 ⟨rfl, a1, a2, rfl⟩
  go_wp2_with fail
  refine (HH.out e _ e1 e2).mono ?_
  rintro e' w3 ⟨rfl, b1, b2, rfl⟩
  go_wp2_with (go_at_call 112; refine (l00Min_c _ _ _).mono ?_; rintro e' w4 ⟨rfl, rfl⟩)
  go_ret2
  exact ⟨rfl, hb1⟩
set_option maxRecDepth 100000 in
set_option maxHeartbeats 1000000 in
theorem l16One_c (b : Nat) (o : Obv) (w : World) (h : ObvP w b o) : Calls Tryz.prog 40 #[.pointer (some ⟨b, 0, none⟩)] w fun e w' => e = .returned (.bool (obvB o)) ∧ Below w.heap.size w w' := by
  have hv : obvB o = ((inB o.x 0 200000 && inB o.y 0 200000) && (inB o.e 0 3000 && inB o.v 1 100000)) := rfl
  rw [hv]
  clear hv
  obtain ⟨a0, a1, a2, a3, hz⟩ := id h
  cases hP : (inB o.x 0 200000 && inB o.y 0 200000)
  · go_enter Tryz.func40, Tryz.ntmps40
    go_wp2_with fail
    refine (l02Ok_c _ _ _).mono ?_
    rw [hP]
    rintro e w1 ⟨rfl, hb1⟩
    obtain ⟨c0, c1, c2, c3, _⟩ := h.next hb1
    go_wp2_with (go_at_call 26; refine (l00In_c _ _ _ _).mono ?_; rintro e w2 ⟨rfl, rfl⟩)
    go_ret
    exact ⟨rfl, hb1⟩
  cases h2 : inB o.e 0 3000
  · go_enter Tryz.func40, Tryz.ntmps40
    go_wp2_with fail
    refine (l02Ok_c _ _ _).mono ?_
    rw [hP]
    rintro e w1 ⟨rfl, hb1⟩
    obtain ⟨c0, c1, c2, c3, _⟩ := h.next hb1
    go_wp2_with (go_at_call 26; refine (l00In_c _ _ _ _).mono ?_; rintro e w2 ⟨rfl, rfl⟩)
    go_ret
    exact ⟨rfl, hb1⟩
  cases h3 : inB o.v 1 100000
  · go_enter Tryz.func40, Tryz.ntmps40
    go_wp2_with fail
    refine (l02Ok_c _ _ _).mono ?_
    rw [hP]
    rintro e w1 ⟨rfl, hb1⟩
    obtain ⟨c0, c1, c2, c3, _⟩ := h.next hb1
    go_wp2_with (go_at_call 26; refine (l00In_c _ _ _ _).mono ?_; rintro e w2 ⟨rfl, rfl⟩)
    go_ret
    exact ⟨rfl, hb1⟩
  · go_enter Tryz.func40, Tryz.ntmps40
    go_wp2_with fail
    refine (l02Ok_c _ _ _).mono ?_
    rw [hP]
    rintro e w1 ⟨rfl, hb1⟩
    obtain ⟨c0, c1, c2, c3, _⟩ := h.next hb1
    go_wp2_with (go_at_call 26; refine (l00In_c _ _ _ _).mono ?_; rintro e w2 ⟨rfl, rfl⟩)
    go_ret
    exact ⟨rfl, hb1⟩
theorem isVis_c (n : Int) (w : World) : Calls Tryz.prog 74 #[.int .i64 n] w fun e w' => e = .returned (.bool (inB n 1 100000)) ∧ w = w' := by
  go_enter Tryz.func74, Tryz.ntmps74
  go_wp2_with (go_at_call 64; refine (within_c _ _ _ _).mono ?_; rintro e w1 ⟨rfl, rfl⟩)
  go_ret
  exact ⟨rfl, rfl⟩
set_option maxRecDepth 100000 in
set_option maxHeartbeats 1000000 in
theorem validObv_c (o : Obv) (w : World) : Calls Tryz.prog 43 #[obvV o] w fun e w' => e = .returned (.bool (obvB o)) ∧ Below w.heap.size w w' := by
  have hv : obvB o = ((inB o.x 0 200000 && inB o.y 0 200000) && (inB o.e 0 3000 && inB o.v 1 100000)) := rfl
  rw [hv]
  clear hv
  have hb0 : Below w.heap.size w (w.alloc (obvO o 54)) := by (repeat (first | (with_reducible assumption) | (with_reducible exact Below.refl _ _) | exact Nat.le_refl _ | exact Below.size (by with_reducible assumption) | (with_reducible refine Below.drew ?_) | (with_reducible refine below_drewN ?_ _) | (with_reducible refine Below.alloc ?_ ?_ _) | (with_reducible refine Below.setCell ?_ ?_ _) | (with_reducible refine le_alloc ?_ _) | (with_reducible refine le_set ?_ _ _) | (with_reducible refine le_drew ?_) | (with_reducible refine le_drewN ?_ _) | omega | (dsimp only; omega)))
  have h := ObvP.box w o 54
  obtain ⟨w0, hw⟩ : ∃ w0, w.alloc (obvO o 54) = w0 := ⟨_, rfl⟩
  rw [hw] at hb0 h
  obtain ⟨a0, a1, a2, a3, hz⟩ := id h
  cases hP : (inB o.x 0 200000 && inB o.y 0 200000)
  · go_enter Tryz.func43, Tryz.ntmps43
    go_wp2_with fail
    try rw [hw]
    clear hw
    refine (validPoint_c _ _ _).mono ?_
    rw [hP]
    rintro e w1 ⟨rfl, hb1⟩
    clear a0 a1 a2 a3 hz
    obtain ⟨a0, a1, a2, a3, hz⟩ := h.next hb1
    go_wp2_with (first | (go_at_call 66; refine (isHeight_c _ _).mono ?_; rintro e w2 ⟨rfl, rfl⟩) | (go_at_call 74; refine (isVis_c _ _).mono ?_; rintro e w2 ⟨rfl, rfl⟩))
    go_ret
    exact ⟨rfl, hb0.trans (hb1.mono hb0.size)⟩
  cases h2 : inB o.e 0 3000
  · go_enter Tryz.func43, Tryz.ntmps43
    go_wp2_with fail
    try rw [hw]
    clear hw
    refine (validPoint_c _ _ _).mono ?_
    rw [hP]
    rintro e w1 ⟨rfl, hb1⟩
    clear a0 a1 a2 a3 hz
    obtain ⟨a0, a1, a2, a3, hz⟩ := h.next hb1
    go_wp2_with (first | (go_at_call 66; refine (isHeight_c _ _).mono ?_; rintro e w2 ⟨rfl, rfl⟩) | (go_at_call 74; refine (isVis_c _ _).mono ?_; rintro e w2 ⟨rfl, rfl⟩))
    go_ret
    exact ⟨rfl, hb0.trans (hb1.mono hb0.size)⟩
  cases h3 : inB o.v 1 100000
  · go_enter Tryz.func43, Tryz.ntmps43
    go_wp2_with fail
    try rw [hw]
    clear hw
    refine (validPoint_c _ _ _).mono ?_
    rw [hP]
    rintro e w1 ⟨rfl, hb1⟩
    clear a0 a1 a2 a3 hz
    obtain ⟨a0, a1, a2, a3, hz⟩ := h.next hb1
    go_wp2_with (first | (go_at_call 66; refine (isHeight_c _ _).mono ?_; rintro e w2 ⟨rfl, rfl⟩) | (go_at_call 74; refine (isVis_c _ _).mono ?_; rintro e w2 ⟨rfl, rfl⟩))
    go_ret
    exact ⟨rfl, hb0.trans (hb1.mono hb0.size)⟩
  · go_enter Tryz.func43, Tryz.ntmps43
    go_wp2_with fail
    try rw [hw]
    clear hw
    refine (validPoint_c _ _ _).mono ?_
    rw [hP]
    rintro e w1 ⟨rfl, hb1⟩
    clear a0 a1 a2 a3 hz
    obtain ⟨a0, a1, a2, a3, hz⟩ := h.next hb1
    go_wp2_with (first | (go_at_call 66; refine (isHeight_c _ _).mono ?_; rintro e w2 ⟨rfl, rfl⟩) | (go_at_call 74; refine (isVis_c _ _).mono ?_; rintro e w2 ⟨rfl, rfl⟩))
    go_ret
    exact ⟨rfl, hb0.trans (hb1.mono hb0.size)⟩
end Go.Proofs.YtpgcgmbjlecnpaaGreatDoor
/- ReachOf, both sides. -/
namespace Go.Proofs.YtpgcgmbjlecnpaaGreatDoor
open Go.RowKit
set_option maxRecDepth 100000 in
set_option maxHeartbeats 2000000 in
theorem l16Reach_c (b c : Nat) (z : AidG) (o : Obv) (w : World) (hp : AidP w b 0 z) (ho : ObvP w c o) (i1 : 1 ≤ z.a.it) (i2 : z.a.it ≤ 100000000) (h1 : 0 ≤ z.a.h) (h2 : z.a.h ≤ 3000) (e1 : 0 ≤ o.e) (e2 : o.e ≤ 3000) (v1 : 1 ≤ o.v) (v2 : o.v ≤ 100000) :
    Calls Tryz.prog 42 #[.pointer (some ⟨b, 0, none⟩), .pointer (some ⟨c, 0, none⟩)] w fun e w' => e = .returned (.int .i64 (rngI z.a.it z.a.h o.e o.v)) ∧ Below w.heap.size w w' := by
  have hR : ∀ w1, Calls Tryz.prog 73 #[.int .i64 z.a.it, .int .i64 z.a.h, .int .i64 o.e, .int .i64 o.v] w1 fun e' w' => e' = .returned (.tuple #[.int .i64 (rngI z.a.it z.a.h o.e o.v), .int .i64 0]) ∧ Below w1.heap.size w1 w' := fun w1 => specRange_c _ _ _ _ w1 i1 i2 h1 h2 e1 e2 v1 v2
  generalize rngI z.a.it z.a.h o.e o.v = R at *
  have k4 := hp.c4
  have k15 := hp.c15
  simp only [Nat.zero_add] at k4 k15
  obtain ⟨a0, a1, a2, a3, hz2⟩ := ho
  have hz1 := hp.hb
  have HR := Lib.hid hR; clear hR
  clear hp i1 i2 h1 h2 e1 e2 v1 v2
  go_enter Tryz.func42, Tryz.ntmps42
  go_wp2_with fail
  have ee : ∀ {w' : World}, Below w.heap.size w w' → (Below w.heap.size w w' ∧ (∀ x, w'.cell? ⟨b, x, none⟩ = w.cell? ⟨b, x, none⟩) ∧ (∀ x, w'.cell? ⟨c, x, none⟩ = w.cell? ⟨c, x, none⟩)) := fun hbb => ⟨hbb, keepC hbb _ hz1, keepC hbb _ hz2⟩
  go_region_held3 (fun w' => Below w.heap.size w w' ∧ (∀ x, w'.cell? ⟨b, x, none⟩ = w.cell? ⟨b, x, none⟩) ∧ (∀ x, w'.cell? ⟨c, x, none⟩ = w.cell? ⟨c, x, none⟩)) (first | exact ee (Below.refl _ _).drew | exact ee ((Below.refl _ _).drew.trans hb1)) (first | (go_at_call 73; refine (HR.out _).mono ?_; rintro e w1 ⟨rfl, hb1⟩))
  have hb2 := (Below.refl w.heap.size w).drew.trans hb1
  go_wp2_with fail
  go_ret
  exact ⟨rfl, hb2⟩
set_option maxRecDepth 100000 in
set_option maxHeartbeats 1000000 in
theorem specReach_c (z : AidG) (o : Obv) (w : World) (h : AidOk w z) :
    Calls Tryz.prog 13 #[z.val, obvV o] w fun e w' => e = .returned (.tuple #[.int .i64 (reaV z.a o), .int .i64 (reaK z.a o)]) ∧ Below w.heap.size w w' := by
  have hb0 : Below w.heap.size w ((w.alloc (aidO z 45)).alloc (obvO o 54)) := by (repeat (first | (with_reducible assumption) | (with_reducible exact Below.refl _ _) | exact Nat.le_refl _ | exact Below.size (by with_reducible assumption) | (with_reducible refine Below.drew ?_) | (with_reducible refine below_drewN ?_ _) | (with_reducible refine Below.alloc ?_ ?_ _) | (with_reducible refine Below.setCell ?_ ?_ _) | (with_reducible refine le_alloc ?_ _) | (with_reducible refine le_set ?_ _ _) | (with_reducible refine le_drew ?_) | (with_reducible refine le_drewN ?_ _) | omega | (dsimp only; omega)))
  have p1 := (aidp_box w z 45).next (w' := (w.alloc (aidO z 45)).alloc (obvO o 54)) (by (repeat (first | (with_reducible assumption) | (with_reducible exact Below.refl _ _) | exact Nat.le_refl _ | exact Below.size (by with_reducible assumption) | (with_reducible refine Below.drew ?_) | (with_reducible refine below_drewN ?_ _) | (with_reducible refine Below.alloc ?_ ?_ _) | (with_reducible refine Below.setCell ?_ ?_ _) | (with_reducible refine le_alloc ?_ _) | (with_reducible refine le_set ?_ _ _) | (with_reducible refine le_drew ?_) | (with_reducible refine le_drewN ?_ _) | omega | (dsimp only; omega))))
  have p2 := ObvP.box (w.alloc (aidO z 45)) o 54
  have hsz : (w.alloc (aidO z 45)).heap.size = w.heap.size + 1 := by simp
  rw [hsz] at p2
  obtain ⟨w0, hw⟩ : ∃ w0, (w.alloc (aidO z 45)).alloc (obvO o 54) = w0 := ⟨_, rfl⟩
  rw [hw] at p1 p2 hb0
  clear hsz
  have s0 := h.next hb0
  obtain ⟨V, hV⟩ : ∃ V, reaV z.a o = V := ⟨_, rfl⟩
  obtain ⟨K, hK⟩ : ∃ K, reaK z.a o = K := ⟨_, rfl⟩
  have hk := has_kind (a := z.a)
  rw [hV, hK]
  cases hA : aidB z.a
  · obtain rfl : V = 0 := by rw [← hV, reaV, hA]; rfl
    obtain rfl : K = 1 := by rw [← hK, reaK, hA]; rfl
    clear hV hK hk
    go_enter Tryz.func13, Tryz.ntmps13
    go_wp2_with fail
    try rw [hw]
    clear hw
    refine (l12One_c _ _ z _ p1 s0).mono ?_
    rw [hA]
    rintro e w1 ⟨rfl, hb1⟩
    go_wp2_with fail
    go_ret2
    exact ⟨rfl, hb0.trans (hb1.mono hb0.size)⟩
  have hkk := hk hA
  clear hk
  cases hO : obvB o
  · obtain rfl : V = 0 := by rw [← hV, reaV, hA, hO]; rfl
    obtain rfl : K = 1 := by rw [← hK, reaK, hA, hO]; rfl
    clear hV hK hkk
    go_enter Tryz.func13, Tryz.ntmps13
    go_wp2_with fail
    try rw [hw]
    clear hw
    refine (l12One_c _ _ z _ p1 s0).mono ?_
    rw [hA]
    rintro e w1 ⟨rfl, hb1⟩
    go_wp2_with fail
    refine (l16One_c _ o _ (p2.next hb1)).mono ?_
    rw [hO]
    rintro e w2 ⟨rfl, hb2⟩
    go_wp2_with fail
    go_ret2
    exact ⟨rfl, hb0.trans ((hb1.trans (hb2.mono hb1.size)).mono hb0.size)⟩
  cases hL : litB z.a
  · obtain rfl : V = 0 := by rw [← hV, reaV, hA, hO, hL]; rfl
    obtain rfl : K = 6 := by rw [← hK, reaK, hA, hO, hL]; rfl
    rw [hL] at hkk
    have Hkk := Lib.hid hkk; clear hkk
    clear hV hK
    go_enter Tryz.func13, Tryz.ntmps13
    go_wp2_with fail
    try rw [hw]
    clear hw
    refine (l12One_c _ _ z _ p1 s0).mono ?_
    rw [hA]
    rintro e w1 ⟨rfl, hb1⟩
    go_wp2_with fail
    refine (l16One_c _ o _ (p2.next hb1)).mono ?_
    rw [hO]
    rintro e w2 ⟨rfl, hb2⟩
    have hb12 := hb1.trans (hb2.mono hb1.size)
    go_wp2_with fail
    refine (l12Lit_c _ _ z _ (p1.next hb12)).mono ?_
    rw [Hkk.out]
    rintro e w3 ⟨rfl, rfl⟩
    go_wp2_with fail
    go_ret2
    exact ⟨rfl, hb0.trans (hb12.mono hb0.size)⟩
  · obtain rfl : V = rngI z.a.it z.a.h o.e o.v := by rw [← hV, reaV, hA, hO, hL]; rfl
    obtain rfl : K = 0 := by rw [← hK, reaK, hA, hO, hL]; rfl
    rw [hL] at hkk
    obtain ⟨i1, i2⟩ := lit_it hL
    obtain ⟨g1, g2⟩ := aid_h hA
    obtain ⟨⟨o1, o2⟩, ⟨o3, o4⟩⟩ := obv_bd hO
    have hRc : ∀ (b c : Nat) w1, AidP w1 b 0 z → ObvP w1 c o → _ := fun b c w1 hp ho => l16Reach_c b c z o w1 hp ho i1 i2 g1 g2 o1 o2 o3 o4
    generalize rngI z.a.it z.a.h o.e o.v = R at *
    have HRc := Lib.hid hRc; clear hRc
    have Hkk := Lib.hid hkk; clear hkk
    clear hV hK i1 i2 g1 g2 o1 o2 o3 o4
    go_enter Tryz.func13, Tryz.ntmps13
    go_wp2_with fail
    try rw [hw]
    clear hw
    refine (l12One_c _ _ z _ p1 s0).mono ?_
    rw [hA]
    rintro e w1 ⟨rfl, hb1⟩
    go_wp2_with fail
    refine (l16One_c _ o _ (p2.next hb1)).mono ?_
    rw [hO]
    rintro e w2 ⟨rfl, hb2⟩
    have hb12 := hb1.trans (hb2.mono hb1.size)
    go_wp2_with fail
    refine (l12Lit_c _ _ z _ (p1.next hb12)).mono ?_
    rw [Hkk.out]
    rintro e w3 ⟨rfl, rfl⟩
    go_wp2_with fail
    refine (HRc.out _ _ _ (p1.next hb12) (p2.next hb12)).mono ?_
    rintro e w4 ⟨rfl, hb4⟩
    go_wp2_with fail
    go_ret2
    exact ⟨rfl, hb0.trans ((hb12.trans (hb4.mono hb12.size)).mono hb0.size)⟩
set_option maxRecDepth 100000 in
set_option maxHeartbeats 1000000 in
theorem reach_c (z : AidG) (o : Obv) (w : World) (i1 : 1 ≤ z.a.it) (i2 : z.a.it ≤ 100000000) (h1 : 0 ≤ z.a.h) (h2 : z.a.h ≤ 3000) (e1 : 0 ≤ o.e) (e2 : o.e ≤ 3000) (v1 : 1 ≤ o.v) (v2 : o.v ≤ 100000) :
    Calls Tryz.prog 45 #[z.val, obvV o] w fun e w' => e = .returned (.int .i64 (rngI z.a.it z.a.h o.e o.v)) ∧ Below w.heap.size w w' := by
  have hb0 : Below w.heap.size w ((w.alloc (aidO z 45)).alloc (obvO o 54)) := by (repeat (first | (with_reducible assumption) | (with_reducible exact Below.refl _ _) | exact Nat.le_refl _ | exact Below.size (by with_reducible assumption) | (with_reducible refine Below.drew ?_) | (with_reducible refine below_drewN ?_ _) | (with_reducible refine Below.alloc ?_ ?_ _) | (with_reducible refine Below.setCell ?_ ?_ _) | (with_reducible refine le_alloc ?_ _) | (with_reducible refine le_set ?_ _ _) | (with_reducible refine le_drew ?_) | (with_reducible refine le_drewN ?_ _) | omega | (dsimp only; omega)))
  have p1 := (aidp_box w z 45).next (w' := (w.alloc (aidO z 45)).alloc (obvO o 54)) (by (repeat (first | (with_reducible assumption) | (with_reducible exact Below.refl _ _) | exact Nat.le_refl _ | exact Below.size (by with_reducible assumption) | (with_reducible refine Below.drew ?_) | (with_reducible refine below_drewN ?_ _) | (with_reducible refine Below.alloc ?_ ?_ _) | (with_reducible refine Below.setCell ?_ ?_ _) | (with_reducible refine le_alloc ?_ _) | (with_reducible refine le_set ?_ _ _) | (with_reducible refine le_drew ?_) | (with_reducible refine le_drewN ?_ _) | omega | (dsimp only; omega))))
  have p2 := ObvP.box (w.alloc (aidO z 45)) o 54
  have hsz : (w.alloc (aidO z 45)).heap.size = w.heap.size + 1 := by simp
  rw [hsz] at p2
  obtain ⟨w0, hw⟩ : ∃ w0, (w.alloc (aidO z 45)).alloc (obvO o 54) = w0 := ⟨_, rfl⟩
  rw [hw] at p1 p2 hb0
  clear hsz
  have hR : ∀ w1, Calls Tryz.prog 79 #[.int .i64 z.a.it, .int .i64 z.a.h, .int .i64 o.e, .int .i64 o.v] w1 fun e' w' => e' = .returned (.int .i64 (rngI z.a.it z.a.h o.e o.v)) ∧ Below w1.heap.size w1 w' := fun w1 => rangeOf_c _ _ _ _ w1 i1 i2 h1 h2 e1 e2 v1 v2
  generalize rngI z.a.it z.a.h o.e o.v = R at *
  have k4 := p1.c4
  have k15 := p1.c15
  simp only [Nat.zero_add] at k4 k15
  obtain ⟨a0, a1, a2, a3, hz2⟩ := p2
  have HR := Lib.hid hR; clear hR
  clear p1 i1 i2 h1 h2 e1 e2 v1 v2
  go_enter Tryz.func45, Tryz.ntmps45
  go_wp2_with fail
  try rw [hw]
  clear hw
  refine (HR.out _).mono ?_
  rintro e w1 ⟨rfl, hb1⟩
  go_wp2_with fail
  go_ret
  exact ⟨rfl, hb0.trans (hb1.mono hb0.size)⟩
set_option maxRecDepth 100000 in
set_option maxHeartbeats 4000000 in
theorem implReach_c (z : AidG) (o : Obv) (w : World) (h : AidOk w z) (ht : Tab w) :
    Calls Tryz.prog 15 #[z.val, obvV o] w fun e w' => e = .returned (.tuple #[.int .i64 (reaV z.a o), .int .i64 (reaK z.a o)]) ∧ Below w.heap.size w w' := by
  have hb0 : Below w.heap.size w ((w.alloc (aidO z 45)).alloc (obvO o 54)) := by (repeat (first | (with_reducible assumption) | (with_reducible exact Below.refl _ _) | exact Nat.le_refl _ | exact Below.size (by with_reducible assumption) | (with_reducible refine Below.drew ?_) | (with_reducible refine below_drewN ?_ _) | (with_reducible refine Below.alloc ?_ ?_ _) | (with_reducible refine Below.setCell ?_ ?_ _) | (with_reducible refine le_alloc ?_ _) | (with_reducible refine le_set ?_ _ _) | (with_reducible refine le_drew ?_) | (with_reducible refine le_drewN ?_ _) | omega | (dsimp only; omega)))
  have p1 := (aidp_box w z 45).next (w' := (w.alloc (aidO z 45)).alloc (obvO o 54)) (by (repeat (first | (with_reducible assumption) | (with_reducible exact Below.refl _ _) | exact Nat.le_refl _ | exact Below.size (by with_reducible assumption) | (with_reducible refine Below.drew ?_) | (with_reducible refine below_drewN ?_ _) | (with_reducible refine Below.alloc ?_ ?_ _) | (with_reducible refine Below.setCell ?_ ?_ _) | (with_reducible refine le_alloc ?_ _) | (with_reducible refine le_set ?_ _ _) | (with_reducible refine le_drew ?_) | (with_reducible refine le_drewN ?_ _) | omega | (dsimp only; omega))))
  have p2 := ObvP.box (w.alloc (aidO z 45)) o 54
  have hsz : (w.alloc (aidO z 45)).heap.size = w.heap.size + 1 := by simp
  rw [hsz] at p2
  obtain ⟨w0, hw⟩ : ∃ w0, (w.alloc (aidO z 45)).alloc (obvO o 54) = w0 := ⟨_, rfl⟩
  rw [hw] at p1 p2 hb0
  clear hsz
  have S0 := Lib.hid (h.next hb0)
  have T0 := Lib.hid (ht.next hb0)
  obtain ⟨V, hV⟩ : ∃ V, reaV z.a o = V := ⟨_, rfl⟩
  obtain ⟨K, hK⟩ : ∃ K, reaK z.a o = K := ⟨_, rfl⟩
  rw [hV, hK]
  clear h ht
  cases hA : aidB z.a
  · as_aux_lemma =>
      obtain rfl : V = 0 := by rw [← hV, reaV, hA]; rfl
      obtain rfl : K = 1 := by rw [← hK, reaK, hA]; rfl
      clear hV hK
      obtain ⟨f0, f1, f2, f3, f4, f5, f6, f7, f8, f9, f10, f11, f12, f13, f14, f15, _⟩ := p1.next (Below.refl _ _)
      obtain ⟨a0, a1, a2, a3, _⟩ := p2.next (Below.refl _ _)
      simp only [Nat.zero_add] at f1 f2 f3 f4 f5 f6 f7 f8 f9 f10 f11 f12 f13 f14 f15
      go_enter Tryz.func15, Tryz.ntmps15
      go_wp2_with fail
      try rw [hw]
      clear hw
      refine (implValidAid_c z _ S0.out T0.out).mono ?_
      rw [hA]
      rintro e w1 ⟨rfl, hb1⟩
      clear f0 f1 f2 f3 f4 f5 f6 f7 f8 f9 f10 f11 f12 f13 f14 f15 a0 a1 a2 a3
      obtain ⟨f0, f1, f2, f3, f4, f5, f6, f7, f8, f9, f10, f11, f12, f13, f14, f15, _⟩ := p1.next hb1
      obtain ⟨a0, a1, a2, a3, _⟩ := p2.next hb1
      simp only [Nat.zero_add] at f1 f2 f3 f4 f5 f6 f7 f8 f9 f10 f11 f12 f13 f14 f15
      go_wp2_with fail
      go_ret2
      exact ⟨rfl, hb0.trans (hb1.mono hb0.size)⟩
  cases hO : obvB o
  · as_aux_lemma =>
      obtain rfl : V = 0 := by rw [← hV, reaV, hA, hO]; rfl
      obtain rfl : K = 1 := by rw [← hK, reaK, hA, hO]; rfl
      clear hV hK
      obtain ⟨f0, f1, f2, f3, f4, f5, f6, f7, f8, f9, f10, f11, f12, f13, f14, f15, _⟩ := p1.next (Below.refl _ _)
      obtain ⟨a0, a1, a2, a3, _⟩ := p2.next (Below.refl _ _)
      simp only [Nat.zero_add] at f1 f2 f3 f4 f5 f6 f7 f8 f9 f10 f11 f12 f13 f14 f15
      go_enter Tryz.func15, Tryz.ntmps15
      go_wp2_with fail
      try rw [hw]
      clear hw
      refine (implValidAid_c z _ S0.out T0.out).mono ?_
      rw [hA]
      rintro e w1 ⟨rfl, hb1⟩
      clear f0 f1 f2 f3 f4 f5 f6 f7 f8 f9 f10 f11 f12 f13 f14 f15 a0 a1 a2 a3
      obtain ⟨f0, f1, f2, f3, f4, f5, f6, f7, f8, f9, f10, f11, f12, f13, f14, f15, _⟩ := p1.next hb1
      obtain ⟨a0, a1, a2, a3, _⟩ := p2.next hb1
      simp only [Nat.zero_add] at f1 f2 f3 f4 f5 f6 f7 f8 f9 f10 f11 f12 f13 f14 f15
      go_wp2_with fail
      refine (validObv_c o _).mono ?_
      rw [hO]
      rintro e w2 ⟨rfl, hb2⟩
      have hb12 := hb1.trans (hb2.mono hb1.size)
      clear f0 f1 f2 f3 f4 f5 f6 f7 f8 f9 f10 f11 f12 f13 f14 f15 a0 a1 a2 a3
      obtain ⟨f0, f1, f2, f3, f4, f5, f6, f7, f8, f9, f10, f11, f12, f13, f14, f15, _⟩ := p1.next hb12
      obtain ⟨a0, a1, a2, a3, _⟩ := p2.next hb12
      simp only [Nat.zero_add] at f1 f2 f3 f4 f5 f6 f7 f8 f9 f10 f11 f12 f13 f14 f15
      go_wp2_with fail
      go_ret2
      exact ⟨rfl, hb0.trans (hb12.mono hb0.size)⟩
  cases hL : litB z.a
  · as_aux_lemma =>
      obtain rfl : V = 0 := by rw [← hV, reaV, hA, hO, hL]; rfl
      obtain rfl : K = 6 := by rw [← hK, reaK, hA, hO, hL]; rfl
      clear hV hK
      obtain ⟨f0, f1, f2, f3, f4, f5, f6, f7, f8, f9, f10, f11, f12, f13, f14, f15, _⟩ := p1.next (Below.refl _ _)
      obtain ⟨a0, a1, a2, a3, _⟩ := p2.next (Below.refl _ _)
      simp only [Nat.zero_add] at f1 f2 f3 f4 f5 f6 f7 f8 f9 f10 f11 f12 f13 f14 f15
      go_enter Tryz.func15, Tryz.ntmps15
      go_wp2_with fail
      try rw [hw]
      clear hw
      refine (implValidAid_c z _ S0.out T0.out).mono ?_
      rw [hA]
      rintro e w1 ⟨rfl, hb1⟩
      clear f0 f1 f2 f3 f4 f5 f6 f7 f8 f9 f10 f11 f12 f13 f14 f15 a0 a1 a2 a3
      obtain ⟨f0, f1, f2, f3, f4, f5, f6, f7, f8, f9, f10, f11, f12, f13, f14, f15, _⟩ := p1.next hb1
      obtain ⟨a0, a1, a2, a3, _⟩ := p2.next hb1
      simp only [Nat.zero_add] at f1 f2 f3 f4 f5 f6 f7 f8 f9 f10 f11 f12 f13 f14 f15
      go_wp2_with fail
      refine (validObv_c o _).mono ?_
      rw [hO]
      rintro e w2 ⟨rfl, hb2⟩
      have hb12 := hb1.trans (hb2.mono hb1.size)
      clear f0 f1 f2 f3 f4 f5 f6 f7 f8 f9 f10 f11 f12 f13 f14 f15 a0 a1 a2 a3
      obtain ⟨f0, f1, f2, f3, f4, f5, f6, f7, f8, f9, f10, f11, f12, f13, f14, f15, _⟩ := p1.next hb12
      obtain ⟨a0, a1, a2, a3, _⟩ := p2.next hb12
      simp only [Nat.zero_add] at f1 f2 f3 f4 f5 f6 f7 f8 f9 f10 f11 f12 f13 f14 f15
      go_wp2_with fail
      refine (lit_c z _ (S0.out.next hb12)).mono ?_
      rw [hL]
      rintro e w3 ⟨rfl, hb3⟩
      replace hb12 := hb12.trans (hb3.mono hb12.size)
      go_wp2_with fail
      go_ret2
      exact ⟨rfl, hb0.trans (hb12.mono hb0.size)⟩
  · as_aux_lemma =>
      obtain rfl : V = rngI z.a.it z.a.h o.e o.v := by rw [← hV, reaV, hA, hO, hL]; rfl
      obtain rfl : K = 0 := by rw [← hK, reaK, hA, hO, hL]; rfl
      obtain ⟨i1, i2⟩ := lit_it hL
      obtain ⟨g1, g2⟩ := aid_h hA
      obtain ⟨⟨o1, o2⟩, ⟨o3, o4⟩⟩ := obv_bd hO
      have hRc : ∀ w1, _ := fun w1 => reach_c z o w1 i1 i2 g1 g2 o1 o2 o3 o4
      generalize rngI z.a.it z.a.h o.e o.v = R at *
      have HRc := Lib.hid hRc; clear hRc
      clear hV hK i1 i2 g1 g2 o1 o2 o3 o4
      obtain ⟨f0, f1, f2, f3, f4, f5, f6, f7, f8, f9, f10, f11, f12, f13, f14, f15, _⟩ := p1.next (Below.refl _ _)
      obtain ⟨a0, a1, a2, a3, _⟩ := p2.next (Below.refl _ _)
      simp only [Nat.zero_add] at f1 f2 f3 f4 f5 f6 f7 f8 f9 f10 f11 f12 f13 f14 f15
      go_enter Tryz.func15, Tryz.ntmps15
      go_wp2_with fail
      try rw [hw]
      clear hw
      refine (implValidAid_c z _ S0.out T0.out).mono ?_
      rw [hA]
      rintro e w1 ⟨rfl, hb1⟩
      clear f0 f1 f2 f3 f4 f5 f6 f7 f8 f9 f10 f11 f12 f13 f14 f15 a0 a1 a2 a3
      obtain ⟨f0, f1, f2, f3, f4, f5, f6, f7, f8, f9, f10, f11, f12, f13, f14, f15, _⟩ := p1.next hb1
      obtain ⟨a0, a1, a2, a3, _⟩ := p2.next hb1
      simp only [Nat.zero_add] at f1 f2 f3 f4 f5 f6 f7 f8 f9 f10 f11 f12 f13 f14 f15
      go_wp2_with fail
      refine (validObv_c o _).mono ?_
      rw [hO]
      rintro e w2 ⟨rfl, hb2⟩
      have hb12 := hb1.trans (hb2.mono hb1.size)
      clear f0 f1 f2 f3 f4 f5 f6 f7 f8 f9 f10 f11 f12 f13 f14 f15 a0 a1 a2 a3
      obtain ⟨f0, f1, f2, f3, f4, f5, f6, f7, f8, f9, f10, f11, f12, f13, f14, f15, _⟩ := p1.next hb12
      obtain ⟨a0, a1, a2, a3, _⟩ := p2.next hb12
      simp only [Nat.zero_add] at f1 f2 f3 f4 f5 f6 f7 f8 f9 f10 f11 f12 f13 f14 f15
      go_wp2_with fail
      refine (lit_c z _ (S0.out.next hb12)).mono ?_
      rw [hL]
      rintro e w3 ⟨rfl, hb3⟩
      replace hb12 := hb12.trans (hb3.mono hb12.size)
      clear f0 f1 f2 f3 f4 f5 f6 f7 f8 f9 f10 f11 f12 f13 f14 f15 a0 a1 a2 a3
      obtain ⟨f0, f1, f2, f3, f4, f5, f6, f7, f8, f9, f10, f11, f12, f13, f14, f15, _⟩ := p1.next hb12
      obtain ⟨a0, a1, a2, a3, _⟩ := p2.next hb12
      simp only [Nat.zero_add] at f1 f2 f3 f4 f5 f6 f7 f8 f9 f10 f11 f12 f13 f14 f15
      go_wp2_with fail
      refine (HRc.out _).mono ?_
      rintro e w4 ⟨rfl, hb4⟩
      go_wp2_with fail
      go_ret2
      exact ⟨rfl, hb0.trans ((hb12.trans (hb4.mono hb12.size)).mono hb0.size)⟩
end Go.Proofs.YtpgcgmbjlecnpaaGreatDoor
