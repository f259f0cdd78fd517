/- The square root by halving, both sides. -/
import Derived.Test.YtgkdjohiclhcoaaLog
import Derived.Test.YtgkdjohiclhcoaaChecked
namespace Go.Proofs.Ytgkdjohiclhcoaa
open Go.RowKit
set_option maxRecDepth 100000 in
set_option maxHeartbeats 1000000 in
theorem rootOf_c (n : Int) (w : World) (h0 : 0 ≤ n) :
    Calls Try.prog 96 #[.int .i64 n] w fun e w' => e = .returned (.int .i64 (rootI n)) ∧ IsRoot n (rootI n) ∧ w = w' := by
  have hf : ∀ r, IsRoot n r → rootI n = r := fun r => rootI_eq
  have HF := Lib.hid hf; clear hf
  go_enter Try.func96, Try.ntmps96
  go_wp2
  go_loopw [3, 4] (fun lo hi wr => ∃ l h : Int, lo = .int .i64 l ∧ hi = .int .i64 h ∧ 0 ≤ l ∧ l ≤ h ∧ h ≤ 3037000499 ∧ Hid (l * l ≤ n ∧ (h < 3037000499 → n < (h + 1) * (h + 1))) ∧ w = wr) (fun lo hi _ => (intOf hi - intOf lo).toNat)
  case atStart => exact ⟨0, 3037000499, rfl, rfl, by omega, by omega, by omega, Lib.hid ⟨by omega, fun h => absurd h (by omega)⟩, rfl⟩
  case round =>
    obtain ⟨l, h, rfl, rfl, hl0, hlh, hh, HI, rfl⟩ := hrel
    by_cases hlt : l < h
    · obtain ⟨m, hm⟩ : ∃ m, (l + h + 1) / 2 = m := ⟨_, rfl⟩
      have hm1 : l < m := by omega
      have hm2 : m ≤ h := by omega
      have e1 : IntKind.i64.wrap (l + h) = l + h := IntWalk.i64_in _ (by omega)
      have e2 : IntKind.i64.wrap (l + h + 1) = l + h + 1 := IntWalk.i64_in _ (by omega)
      have e3 : (l + h + 1).tdiv 2 = m := by rw [Int.tdiv_eq_ediv_of_nonneg (by omega)]; exact hm
      have e4 : IntKind.i64.wrap m = m := IntWalk.i64_in _ (by omega)
      have hmm : 0 ≤ m * m ∧ m * m ≤ 3037000499 * 3037000499 := ⟨Int.mul_nonneg (by omega) (by omega), Int.mul_le_mul (by omega) (by omega) (by omega) (by omega)⟩
      have e5 : IntKind.i64.wrap (m * m) = m * m := IntWalk.i64_in _ (by omega)
      have e6 : IntKind.i64.wrap (m - 1) = m - 1 := IntWalk.i64_in _ (by omega)
      obtain ⟨q, hq⟩ : ∃ q, m * m = q := ⟨_, rfl⟩
      rw [hq] at e5 hmm
      have HQ := Lib.hid hq
      have hmul : m * m = q := hq
      clear hq hm hmm
      by_cases hle : q ≤ n
      · go_wp2
        go_roundw
        case rel => exact ⟨m, h, rfl, rfl, by omega, by omega, hh, Lib.hid ⟨by rw [HQ.out]; exact hle, HI.out.2⟩, by trivial⟩
        case measure => simp [intOf]; omega
      · go_wp2
        go_roundw
        case rel => exact ⟨l, m - 1, rfl, rfl, by omega, by omega, by omega, Lib.hid ⟨HI.out.1, fun _ => by rw [show m - 1 + 1 = m by omega, HQ.out]; omega⟩, by trivial⟩
        case measure => simp [intOf]; omega
    · obtain rfl : l = h := by omega
      have hr : IsRoot n l := ⟨hl0, hh, HI.out.1, HI.out.2⟩
      go_wp2
      go_ret
      have e := HF.out l hr
      exact ⟨ret_eq (int_eq e.symm), by rw [e]; exact hr, rfl⟩
set_option maxRecDepth 100000 in
set_option maxHeartbeats 1000000 in
theorem l01Root_c (n : Int) (w : World) (h0 : 0 ≤ n) :
    Calls Try.prog 98 #[.int .i64 n] w fun e w' => e = .returned (.int .i64 (rootI n)) ∧ IsRoot n (rootI n) ∧ w = w' := by
  have hf : ∀ r, IsRoot n r → rootI n = r := fun r => rootI_eq
  have HF := Lib.hid hf; clear hf
  go_enter Try.func98, Try.ntmps98
  go_wp2
  go_loopw [3, 4] (fun lo hi wr => ∃ l h : Int, lo = .int .i64 l ∧ hi = .int .i64 h ∧ 0 ≤ l ∧ l ≤ h ∧ h ≤ 3037000499 ∧ Hid (l * l ≤ n ∧ (h < 3037000499 → n < (h + 1) * (h + 1))) ∧ w = wr) (fun lo hi _ => (intOf hi - intOf lo).toNat)
  case atStart => exact ⟨0, 3037000499, rfl, rfl, by omega, by omega, by omega, Lib.hid ⟨by omega, fun h => absurd h (by omega)⟩, rfl⟩
  case round =>
    obtain ⟨l, h, rfl, rfl, hl0, hlh, hh, HI, rfl⟩ := hrel
    by_cases hlt : l < h
    · obtain ⟨m, hm⟩ : ∃ m, (l + h + 1) / 2 = m := ⟨_, rfl⟩
      have hm1 : l < m := by omega
      have hm2 : m ≤ h := by omega
      have e1 : IntKind.i64.wrap (l + h) = l + h := IntWalk.i64_in _ (by omega)
      have e2 : IntKind.i64.wrap (l + h + 1) = l + h + 1 := IntWalk.i64_in _ (by omega)
      have e3 : (l + h + 1).tdiv 2 = m := by rw [Int.tdiv_eq_ediv_of_nonneg (by omega)]; exact hm
      have e4 : IntKind.i64.wrap m = m := IntWalk.i64_in _ (by omega)
      have hmm : 0 ≤ m * m ∧ m * m ≤ 3037000499 * 3037000499 := ⟨Int.mul_nonneg (by omega) (by omega), Int.mul_le_mul (by omega) (by omega) (by omega) (by omega)⟩
      have e5 : IntKind.i64.wrap (m * m) = m * m := IntWalk.i64_in _ (by omega)
      have e6 : IntKind.i64.wrap (m - 1) = m - 1 := IntWalk.i64_in _ (by omega)
      obtain ⟨q, hq⟩ : ∃ q, m * m = q := ⟨_, rfl⟩
      rw [hq] at e5 hmm
      have HQ := Lib.hid hq
      have hmul : m * m = q := hq
      clear hq hm hmm
      by_cases hle : q ≤ n
      · go_wp2
        go_roundw
        case rel => exact ⟨m, h, rfl, rfl, by omega, by omega, hh, Lib.hid ⟨by rw [HQ.out]; exact hle, HI.out.2⟩, by trivial⟩
        case measure => simp [intOf]; omega
      · go_wp2
        go_roundw
        case rel => exact ⟨l, m - 1, rfl, rfl, by omega, by omega, by omega, Lib.hid ⟨HI.out.1, fun _ => by rw [show m - 1 + 1 = m by omega, HQ.out]; omega⟩, by trivial⟩
        case measure => simp [intOf]; omega
    · obtain rfl : l = h := by omega
      have hr : IsRoot n l := ⟨hl0, hh, HI.out.1, HI.out.2⟩
      go_wp2
      go_ret
      have e := HF.out l hr
      exact ⟨ret_eq (int_eq e.symm), by rw [e]; exact hr, rfl⟩
end Go.Proofs.Ytgkdjohiclhcoaa
