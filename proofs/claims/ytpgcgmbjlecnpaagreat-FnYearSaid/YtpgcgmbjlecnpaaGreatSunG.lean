/- SunG: several of my texts in one. -/
import Derived.Test.YtpgcgmbjlecnpaaGreatCalG
import Derived.Test.YtpgcgmbjlecnpaaGreatChTen
import Derived.Test.YtpgcgmbjlecnpaaGreatChShare
import Derived.Test.YtpgcgmbjlecnpaaGreatMinMax
import Derived.Test.YtpgcgmbjlecnpaaGreatStaDay
import Derived.Test.YtpgcgmbjlecnpaaGreatApp
/- The height of the sun: plain Lean. -/
namespace Go.Proofs.YtpgcgmbjlecnpaaGreat
open Go.RowKit
theorem mul_bdd {a b A B : Int} (h1 : -A ≤ a) (h2 : a ≤ A) (h3 : -B ≤ b) (h4 : b ≤ B) : -(A * B) ≤ a * b ∧ a * b ≤ A * B := by
  have e : (a * b).natAbs ≤ A.natAbs * B.natAbs := by
    rw [Int.natAbs_mul]
    exact Nat.mul_le_mul (by omega) (by omega)
  have e2 : ((A.natAbs * B.natAbs : Nat) : Int) = A * B := by
    rw [Int.natCast_mul, Int.natAbs_of_nonneg (by omega), Int.natAbs_of_nonneg (by omega)]
  omega
/-- The nearest quotient, of any number. -/
def rdv (a b : Int) : Int := if a < 0 then -rdiv (-a) b else rdiv a b
theorem rdv_le {a a' b : Int} (hb : 0 < b) (h : a ≤ a') : rdv a b ≤ rdv a' b := by
  have nn : ∀ x, 0 ≤ x → 0 ≤ rdiv x b := fun x hx => (rdiv_bd hx hb).1
  have mo : ∀ x y, x ≤ y → rdiv x b ≤ rdiv y b := fun x y h => Int.ediv_le_ediv (by omega) (by omega)
  unfold rdv
  split <;> split <;> rename_i h1 h2
  · have := mo (-a') (-a) (by omega); omega
  · have h3 := nn (-a) (by omega)
    have h4 := nn a' (by omega)
    omega
  · omega
  · exact mo _ _ h
theorem rdv_mil {a c : Int} (_h0 : 0 ≤ c) (h1 : -(c * 1000000) ≤ a) (h2 : a ≤ c * 1000000) : -c ≤ rdv a 1000000 ∧ rdv a 1000000 ≤ c := by
  unfold rdv rdiv; split <;> omega
/-- Sine of tenths of a degree. -/
def tenI (t : Int) : Int := sinI (t / 10) + rdv ((sinI (t / 10 + 1) - sinI (t / 10)) * (t % 10)) 10
def decI (n : Int) : Int := -rdv (234 * sinI (rdv (360 * (n + 10)) 365 + 90)) 1000000
/-- The cosine of the hour angle of m minutes. -/
def hI (m : Int) : Int := sinI (m / 4 + 90) + rdv ((sinI (m / 4 + 1 + 90) - sinI (m / 4 + 90)) * (m % 4)) 4
def stiI (lat n : Int) : Int := rdv (sinI lat * tenI (decI n)) 1000000
def movI (lat n : Int) : Int := rdv (sinI (lat + 90) * tenI (900 - max (decI n) (-decI n))) 1000000
theorem hI_chk : ((List.range 720).all fun m => decide (hI ((m : Int) + 1) ≤ hI m)) = true := by decide +kernel
theorem hI_bdc : ((List.range 721).all fun m => decide (-1000000 ≤ hI m ∧ hI m ≤ 1000000)) = true := by decide +kernel
theorem tenI_hi : ((List.range 235).all fun m => decide (0 ≤ tenI (666 + (m : Int)) ∧ tenI (666 + (m : Int)) ≤ 1000000)) = true := by decide +kernel
theorem tenI_lo : ((List.range 469).all fun m => decide (-1000000 ≤ tenI ((m : Int) - 234) ∧ tenI ((m : Int) - 234) ≤ 1000000)) = true := by decide +kernel
theorem all_range {p : Nat → Bool} {n k : Nat} (h : (List.range n).all p = true) (hk : k < n) : p k = true :=
  List.all_eq_true.1 h k (List.mem_range.2 hk)
theorem hI_step {m : Nat} (h : m < 720) : hI ((m : Int) + 1) ≤ hI m := of_decide_eq_true (all_range hI_chk h)
theorem hI_bd {m : Int} (h0 : 0 ≤ m) (h1 : m ≤ 720) : -1000000 ≤ hI m ∧ hI m ≤ 1000000 := by
  obtain ⟨k, rfl⟩ := Int.eq_ofNat_of_zero_le h0
  exact of_decide_eq_true (all_range hI_bdc (show k < 721 by omega))
theorem ten_hi {t : Int} (h0 : 666 ≤ t) (h1 : t ≤ 900) : 0 ≤ tenI t ∧ tenI t ≤ 1000000 := by
  obtain ⟨k, hk⟩ := Int.eq_ofNat_of_zero_le (show 0 ≤ t - 666 by omega)
  have := of_decide_eq_true (all_range tenI_hi (show k < 235 by omega))
  rwa [show 666 + (k : Int) = t by omega] at this
theorem ten_lo {t : Int} (h0 : -234 ≤ t) (h1 : t ≤ 234) : -1000000 ≤ tenI t ∧ tenI t ≤ 1000000 := by
  obtain ⟨k, hk⟩ := Int.eq_ofNat_of_zero_le (show 0 ≤ t + 234 by omega)
  have := of_decide_eq_true (all_range tenI_lo (show k < 469 by omega))
  rwa [show (k : Int) - 234 = t by omega] at this
theorem dec_bd (n : Int) : -234 ≤ decI n ∧ decI n ≤ 234 := by
  have h1 := sinI_bd (rdv (360 * (n + 10)) 365 + 90)
  have h2 := rdv_mil (a := 234 * sinI (rdv (360 * (n + 10)) 365 + 90)) (c := 234) (by omega) (by omega) (by omega)
  unfold decI
  omega
theorem cos_lat {lat : Int} (h0 : -66 ≤ lat) (h1 : lat ≤ 66) : 0 ≤ sinI (lat + 90) ∧ sinI (lat + 90) ≤ 1000000 := by
  have e : (lat + 90) % 360 = lat + 90 := by omega
  rw [sinI, e, if_neg (by omega)]
  exact sinH_bd _
theorem prod_bd {a b : Int} (h1 : -1000000 ≤ a ∧ a ≤ 1000000) (h2 : -1000000 ≤ b ∧ b ≤ 1000000) : -(1000000 * 1000000) ≤ a * b ∧ a * b ≤ 1000000 * 1000000 :=
  mul_bdd h1.1 h1.2 h2.1 h2.2
theorem sti_bd (lat n : Int) : -1000000 ≤ stiI lat n ∧ stiI lat n ≤ 1000000 := by
  have hd := dec_bd n
  have := prod_bd (sinI_bd lat) (ten_lo hd.1 hd.2)
  exact rdv_mil (by omega) this.1 this.2
theorem mov_bd {lat : Int} (h0 : -66 ≤ lat) (h1 : lat ≤ 66) (n : Int) : 0 ≤ movI lat n ∧ movI lat n ≤ 1000000 := by
  have hd := dec_bd n
  have ht := ten_hi (t := 900 - max (decI n) (-decI n)) (by omega) (by omega)
  have hc := cos_lat h0 h1
  have hp := prod_bd ⟨by omega, hc.2⟩ (show -1000000 ≤ tenI (900 - max (decI n) (-decI n)) ∧ _ from ⟨by omega, ht.2⟩)
  have h3 : 0 ≤ sinI (lat + 90) * tenI (900 - max (decI n) (-decI n)) := Int.mul_nonneg hc.1 ht.1
  refine ⟨?_, (rdv_mil (by omega) hp.1 hp.2).2⟩
  rw [movI, rdv, if_neg (by omega)]
  exact (rdiv_bd h3 (by decide)).1
/-- The height k minutes away from noon. -/
def hgI (st mv k : Int) : Int := st + rdv (mv * hI k) 1000000
theorem hg_step {st mv : Int} (h : 0 ≤ mv) {m : Nat} (hm : m < 720) : hgI st mv ((m : Int) + 1) ≤ hgI st mv m := by
  have := rdv_le (b := 1000000) (by decide) (Int.mul_le_mul_of_nonneg_left (hI_step hm) h)
  unfold hgI; omega
theorem hg_le {st mv : Int} (h : 0 ≤ mv) (m : Nat) : ∀ d, m + d ≤ 720 → hgI st mv ((m + d : Nat) : Int) ≤ hgI st mv m
  | 0, _ => Int.le_refl _
  | d + 1, hd => by
    have h1 := hg_le (st := st) h m d (by omega)
    have h2 := hg_step (st := st) h (show m + d < 720 by omega)
    have e : ((m + (d + 1) : Nat) : Int) = ((m + d : Nat) : Int) + 1 := by omega
    rw [e]; omega
theorem hg_anti {st mv a b : Int} (h : 0 ≤ mv) (h0 : 0 ≤ a) (h1 : a ≤ b) (h2 : b ≤ 720) : hgI st mv b ≤ hgI st mv a := by
  obtain ⟨m, rfl⟩ := Int.eq_ofNat_of_zero_le h0
  obtain ⟨d, hd⟩ := Int.eq_ofNat_of_zero_le (show 0 ≤ b - m by omega)
  have := hg_le (st := st) h m d (by omega)
  rwa [show ((m + d : Nat) : Int) = b by omega] at this
def awI (m : Int) : Int := max (m - 720) (720 - m)
/-- The height at a minute. -/
def atI (st mv m : Int) : Int := hgI st mv (awI m)
theorem at_bd {st mv m : Int} (_h1 : -1000000 ≤ st ∧ st ≤ 1000000) (h2 : 0 ≤ mv ∧ mv ≤ 1000000) (h3 : 0 ≤ m) (h4 : m ≤ 1440) :
    (-1000000000000 ≤ mv * hI (awI m) ∧ mv * hI (awI m) ≤ 1000000000000) ∧ (-1000000 ≤ rdv (mv * hI (awI m)) 1000000 ∧ rdv (mv * hI (awI m)) 1000000 ≤ 1000000) := by
  have h := hI_bd (m := awI m) (by unfold awI; omega) (by unfold awI; omega)
  have hp := prod_bd ⟨by omega, h2.2⟩ h
  exact ⟨⟨by omega, by omega⟩, rdv_mil (by omega) hp.1 hp.2⟩
/-- The minutes among the first k that are not day. -/
def drkN (st mv : Int) : Nat → Int
  | 0 => 0
  | k + 1 => drkN st mv k + if -14000 ≤ atI st mv k then 0 else 1
theorem drk_bd (st mv : Int) : ∀ k, 0 ≤ drkN st mv k ∧ drkN st mv k ≤ k
  | 0 => by simp [drkN]
  | k + 1 => by
    have := drk_bd st mv k
    rw [drkN]
    split <;> omega
theorem drk_none {st mv : Int} : ∀ k : Nat, (∀ m : Nat, m < k → atI st mv m < -14000) → drkN st mv k = k
  | 0, _ => rfl
  | k + 1, h => by
    have := h k (by omega)
    rw [drkN, drk_none k fun m hm => h m (by omega), if_neg (by omega)]
    omega
theorem drk_some {st mv : Int} {r : Nat} (hr : r ≤ 720) (h : ∀ m : Nat, m < 1440 → (-14000 ≤ atI st mv m ↔ r ≤ m ∧ m + r ≤ 1440)) : ∀ k : Nat, k ≤ 1440 →
    drkN st mv k = if k ≤ r then (k : Int) else if k + r ≤ 1441 then (r : Int) else (r : Int) + (k + r - 1441)
  | 0, _ => by simp [drkN]
  | k + 1, hk => by
    have h1 := h k (by omega)
    have h2 := drk_some hr h k (by omega)
    rw [drkN, h2]
    by_cases a : r ≤ k
    · by_cases b : k + r ≤ 1440
      · rw [if_pos (h1.2 ⟨a, b⟩)]
        repeat' split
        all_goals omega
      · rw [if_neg (fun c => b (h1.1 c).2)]
        repeat' split
        all_goals omega
    · rw [if_neg (fun c => a (h1.1 c).1)]
      repeat' split
      all_goals omega
/-- No light at noon: no day. -/
theorem drk_all {st mv : Int} (h : 0 ≤ mv) (h0 : hgI st mv 0 < -14000) : drkN st mv 1440 = 1440 := by
  refine drk_none 1440 fun m hm => ?_
  have := hg_anti (st := st) (a := 0) (b := awI m) h (by omega) (by unfold awI; omega) (by unfold awI; omega)
  unfold atI; omega
/-- The first minute of day. -/
theorem drk_rise {st mv : Int} (h : 0 ≤ mv) {r : Nat} (h1 : r ≤ 720) (h2 : -14000 ≤ hgI st mv (720 - r)) (h3 : r = 0 ∨ hgI st mv (720 - (r - 1)) < -14000) :
    drkN st mv 1440 = if r = 0 then 0 else 2 * (r : Int) - 1 := by
  have key : ∀ m : Nat, m < 1440 → (-14000 ≤ atI st mv m ↔ r ≤ m ∧ m + r ≤ 1440) := fun m hm => by
    constructor
    · intro c
      refine Classical.byContradiction fun hn => ?_
      rcases h3 with rfl | h3
      · omega
      · have := hg_anti (st := st) (a := 720 - (r - 1)) (b := awI m) h (by omega) (by unfold awI; omega) (by unfold awI; omega)
        unfold atI at c; omega
    · rintro ⟨a, b⟩
      have := hg_anti (st := st) (a := awI m) (b := 720 - r) h (by unfold awI; omega) (by unfold awI; omega) (by omega)
      unfold atI; omega
  rw [drk_some h1 key 1440 (by omega)]
  repeat' split
  all_goals omega
/-- The dark minutes of a day. -/
def darkI (lat day : Int) : Int := drkN (stiI lat day) (movI lat day) 1440
theorem dark_bd (lat n : Int) : 0 ≤ darkI lat n ∧ darkI lat n ≤ 1440 := drk_bd _ _ 1440
end Go.Proofs.YtpgcgmbjlecnpaaGreat
/- Sines of any angle, quotients of any number, both sides. -/
namespace Go.Proofs.YtpgcgmbjlecnpaaGreat
open Go.RowKit
theorem tmod_neg {d : Int} (h : d < 0) (b : Int) : d.tmod b = -((-d) % b) := by
  have := Int.neg_tmod (-d) b
  rw [Int.neg_neg] at this
  rw [this, Int.tmod_eq_emod_of_nonneg (by omega)]
theorem tdiv_neg {d : Int} (h : d < 0) (b : Int) : d.tdiv b = -((-d) / b) := by
  have := Int.neg_tdiv (-d) b
  rw [Int.neg_neg] at this
  rw [this, Int.tdiv_eq_ediv_of_nonneg (by omega)]
set_option maxHeartbeats 1000000 in
theorem turnedZ_c (d : Int) (w : World) (_h0 : -1000000 ≤ d) (_h1 : d ≤ 1000000) : Calls Tryz.prog 129 #[.int .i64 d] w fun e w' => e = .returned (.int .i64 (d % 360)) ∧ w = w' := by
  obtain ⟨t, ht⟩ : ∃ t, d.tmod 360 = t := ⟨_, rfl⟩
  have hb : (0 ≤ d ∧ t = d % 360) ∨ (d < 0 ∧ t = -((-d) % 360)) := by
    rcases Int.lt_or_le d 0 with h | h
    · exact .inr ⟨h, by rw [← ht, tmod_neg h]⟩
    · exact .inl ⟨h, by rw [← ht, Int.tmod_eq_emod_of_nonneg h]⟩
  have e2 : IntKind.i64.wrap t = t := IntWalk.i64_in _ (by omega)
  have e3 : IntKind.i64.wrap (t + 360) = t + 360 := IntWalk.i64_in _ (by omega)
  have e4 : (t + 360).tmod 360 = d % 360 := by rw [Int.tmod_eq_emod_of_nonneg (by omega)]; omega
  have e5 : IntKind.i64.wrap (d % 360) = d % 360 := IntWalk.i64_in _ (by omega)
  clear hb
  go_enter Tryz.func129, Tryz.ntmps129
  go_wp2
  go_ret
  exact ⟨rfl, rfl⟩
set_option maxHeartbeats 1000000 in
theorem l02AngleZ_c (d : Int) (w : World) (_h0 : -1000000 ≤ d) (_h1 : d ≤ 1000000) : Calls Tryz.prog 134 #[.int .i64 d] w fun e w' => e = .returned (.int .i64 (d % 360)) ∧ w = w' := by
  obtain ⟨t, ht⟩ : ∃ t, d.tmod 360 = t := ⟨_, rfl⟩
  have hb : (0 ≤ d ∧ t = d % 360) ∨ (d < 0 ∧ t = -((-d) % 360)) := by
    rcases Int.lt_or_le d 0 with h | h
    · exact .inr ⟨h, by rw [← ht, tmod_neg h]⟩
    · exact .inl ⟨h, by rw [← ht, Int.tmod_eq_emod_of_nonneg h]⟩
  have e2 : IntKind.i64.wrap t = t := IntWalk.i64_in _ (by omega)
  have e3 : IntKind.i64.wrap (t + 360) = t + 360 := IntWalk.i64_in _ (by omega)
  have e4 : (t + 360).tmod 360 = d % 360 := by rw [Int.tmod_eq_emod_of_nonneg (by omega)]; omega
  have e5 : IntKind.i64.wrap (d % 360) = d % 360 := IntWalk.i64_in _ (by omega)
  clear hb
  go_enter Tryz.func134, Tryz.ntmps134
  go_wp2
  go_ret
  exact ⟨rfl, rfl⟩
set_option maxHeartbeats 400000 in
theorem sineZ_c (d : Int) (w : World) (h0 : -1000000 ≤ d) (h1 : d ≤ 1000000) : Calls Tryz.prog 117 #[.int .i64 d] w fun e w' => e = .returned (.int .i64 (sinI d)) ∧ w = w' := by
  obtain ⟨r, hr⟩ : ∃ r, d % 360 = r := ⟨_, rfl⟩
  have hrb : 0 ≤ r ∧ r < 360 := by omega
  have hT : ∀ w1, Calls Tryz.prog 129 #[.int .i64 d] w1 fun e w' => e = .returned (.int .i64 r) ∧ w1 = w' := fun w1 => hr ▸ turnedZ_c d w1 h0 h1
  by_cases h2 : 180 ≤ r
  · have e2 : sinI d = -sinH (r - 180) := by rw [sinI, hr, if_pos h2]
    have hQ : ∀ w1, Calls Tryz.prog 117 #[.int .i64 (r - 180)] w1 fun e w' => e = .returned (.int .i64 (sinH (r - 180))) ∧ w1 = w' := fun w1 => sineLow_c _ _ (by omega) (by omega)
    have hb := sinH_bd (r - 180)
    rw [e2]
    generalize sinH (r - 180) = q at hQ hb ⊢
    have HT := Lib.hid hT; clear hT
    have HQ := Lib.hid hQ; clear hQ
    clear hr e2
    go_enter Tryz.func117, Tryz.ntmps117
    go_wp2_with (first | (go_at_call 129; refine (HT.out _).mono ?_; rintro e w1 ⟨rfl, rfl⟩) | (go_at_call 117; refine (HQ.out _).mono ?_; rintro e w1 ⟨rfl, rfl⟩))
    go_ret
    exact ⟨rfl, rfl⟩
  · by_cases h3 : 90 < r
    · have e2 : sinI d = sinQ (180 - r) := by rw [sinI, hr, if_neg h2, sinH, if_pos h3]
      have hQ : ∀ w1, Calls Tryz.prog 130 #[.int .i64 (180 - r)] w1 fun e w' => e = .returned (.int .i64 (sinQ (180 - r))) ∧ w1 = w' := fun w1 => quarter_c _ _ (by omega) (by omega)
      rw [e2]
      generalize sinQ (180 - r) = q at hQ ⊢
      have HT := Lib.hid hT; clear hT
      have HQ := Lib.hid hQ; clear hQ
      clear hr e2
      go_enter Tryz.func117, Tryz.ntmps117
      go_wp2_with (first | (go_at_call 129; refine (HT.out _).mono ?_; rintro e w1 ⟨rfl, rfl⟩) | (go_at_call 130; refine (HQ.out _).mono ?_; rintro e w1 ⟨rfl, rfl⟩))
      go_ret
      exact ⟨rfl, rfl⟩
    · have e2 : sinI d = sinQ r := by rw [sinI, hr, if_neg h2, sinH, if_neg h3]
      have hQ : ∀ w1, Calls Tryz.prog 130 #[.int .i64 r] w1 fun e w' => e = .returned (.int .i64 (sinQ r)) ∧ w1 = w' := fun w1 => quarter_c _ _ (by omega) (by omega)
      rw [e2]
      generalize sinQ r = q at hQ ⊢
      have HT := Lib.hid hT; clear hT
      have HQ := Lib.hid hQ; clear hQ
      clear hr e2
      go_enter Tryz.func117, Tryz.ntmps117
      go_wp2_with (first | (go_at_call 129; refine (HT.out _).mono ?_; rintro e w1 ⟨rfl, rfl⟩) | (go_at_call 130; refine (HQ.out _).mono ?_; rintro e w1 ⟨rfl, rfl⟩))
      go_ret
      exact ⟨rfl, rfl⟩
set_option maxHeartbeats 400000 in
theorem cosineZ_c (d : Int) (w : World) (h0 : -1000000 ≤ d) (h1 : d ≤ 1000000) : Calls Tryz.prog 118 #[.int .i64 d] w fun e w' => e = .returned (.int .i64 (sinI (d + 90))) ∧ w = w' := by
  obtain ⟨r, hr⟩ : ∃ r, d % 360 = r := ⟨_, rfl⟩
  have hrb : 0 ≤ r ∧ r < 360 := by omega
  have hT : ∀ w1, Calls Tryz.prog 129 #[.int .i64 d] w1 fun e w' => e = .returned (.int .i64 r) ∧ w1 = w' := fun w1 => hr ▸ turnedZ_c d w1 h0 h1
  rw [← sin_turn, hr]
  have hQ : ∀ w1, Calls Tryz.prog 117 #[.int .i64 (r + 90)] w1 fun e w' => e = .returned (.int .i64 (sinI (r + 90))) ∧ w1 = w' := fun w1 => sine_c _ _ (by omega) (by omega)
  generalize sinI (r + 90) = q at hQ ⊢
  have HT := Lib.hid hT; clear hT
  have HQ := Lib.hid hQ; clear hQ
  clear hr
  go_enter Tryz.func118, Tryz.ntmps118
  go_wp2_with (first | (go_at_call 129; refine (HT.out _).mono ?_; rintro e w1 ⟨rfl, rfl⟩) | (go_at_call 117; refine (HQ.out _).mono ?_; rintro e w1 ⟨rfl, rfl⟩))
  go_ret
  exact ⟨rfl, rfl⟩
set_option maxRecDepth 100000 in
set_option maxHeartbeats 1000000 in
theorem l02SineInZ_c (A : Option Addr) (c : Nat) (d : Int) (w : World) (h : Sl w w.heap.size 1 A 91 (sinT.flatMap intC)) (h0 : -1000000 ≤ d) (h1 : d ≤ 1000000) : Calls Tryz.prog 132 #[.slice A 91 c, .int .i64 d] w fun e w' => e = .returned (.int .i64 (sinI d)) ∧ w = w' := by
  have hg : ∀ k : Nat, k < 91 → ∃ b off, A = some ⟨b, off, none⟩ ∧ w.cell? ⟨b, off + k, none⟩ = some (.int .i64 (sinQ k)) := fun k hk => by
    obtain ⟨b, off, x, hA, _, hx, hc⟩ := h.int k hk
    refine ⟨b, off, hA, ?_⟩
    rw [hc, sinQ, List.getD_eq_getElem?_getD, Int.toNat_natCast, hx]; rfl
  obtain ⟨r, hr⟩ : ∃ r, d % 360 = r := ⟨_, rfl⟩
  have hrb : 0 ≤ r ∧ r < 360 := by omega
  have hT : ∀ w1, Calls Tryz.prog 134 #[.int .i64 d] w1 fun e w' => e = .returned (.int .i64 r) ∧ w1 = w' := fun w1 => hr ▸ l02AngleZ_c d w1 h0 h1
  obtain ⟨n, hn⟩ : ∃ n : Nat, (n : Int) = (if 180 ≤ r then (if 90 < r - 180 then 180 - (r - 180) else r - 180) else (if 90 < r then 180 - r else r)) := by
    obtain ⟨n, hn⟩ := Int.eq_ofNat_of_zero_le (show 0 ≤ (if 180 ≤ r then (if 90 < r - 180 then 180 - (r - 180) else r - 180) else (if 90 < r then 180 - r else r)) by split <;> split <;> omega)
    exact ⟨n, hn.symm⟩
  have hn1 : n < 91 := by split at hn <;> split at hn <;> omega
  have hv : sinI d = if 180 ≤ r then -sinQ n else sinQ n := by
    rw [sinI, hr, hn]
    split <;> rename_i h2 <;> rw [sinH]
    all_goals split <;> rename_i h3 <;> rfl
  obtain ⟨b, off, rfl, hc⟩ := hg n hn1
  have hb := sinQ_bd n
  rw [hv]
  have j1 : (0 : Int) ≤ (n : Int) := by omega
  have j2 : (n : Int) < 91 := by omega
  generalize sinQ (n : Int) = q at hc hb ⊢
  have HT := Lib.hid hT; clear hT
  have H := Lib.hid h; clear h
  clear hr hv hg
  by_cases h2 : 180 ≤ r
  · rw [if_pos h2] at hn ⊢
    by_cases h3 : 90 < r - 180
    · rw [if_pos h3] at hn
      have e2 : IntKind.i64.wrap (180 - (r - 180)) = (n : Int) := by rw [IntWalk.i64_in _ (by omega)]; omega
      clear hn
      go_enter Tryz.func132, Tryz.ntmps132
      go_wp2_with (go_at_call 134; refine (HT.out _).mono ?_; rintro e w1 ⟨rfl, rfl⟩)
      go_ret
      exact ⟨ret_eq (int_eq (by omega)), rfl⟩
    · rw [if_neg h3] at hn
      have e2 : IntKind.i64.wrap (r - 180) = (n : Int) := by rw [IntWalk.i64_in _ (by omega)]; omega
      have h4 : ¬ 90 < (n : Int) := by omega
      clear hn h3
      go_enter Tryz.func132, Tryz.ntmps132
      go_wp2_with (go_at_call 134; refine (HT.out _).mono ?_; rintro e w1 ⟨rfl, rfl⟩)
      go_ret
      exact ⟨ret_eq (int_eq (by omega)), rfl⟩
  · rw [if_neg h2] at hn ⊢
    by_cases h3 : 90 < r
    · rw [if_pos h3] at hn
      have e2 : IntKind.i64.wrap (180 - r) = (n : Int) := by rw [IntWalk.i64_in _ (by omega)]; omega
      clear hn
      go_enter Tryz.func132, Tryz.ntmps132
      go_wp2_with (go_at_call 134; refine (HT.out _).mono ?_; rintro e w1 ⟨rfl, rfl⟩)
      go_ret
      exact ⟨ret_eq (int_eq (by omega)), rfl⟩
    · rw [if_neg h3] at hn
      subst hn
      go_enter Tryz.func132, Tryz.ntmps132
      go_wp2_with (go_at_call 134; refine (HT.out _).mono ?_; rintro e w1 ⟨rfl, rfl⟩)
      go_ret
      exact ⟨ret_eq (int_eq (by omega)), rfl⟩
set_option maxHeartbeats 400000 in
theorem l02Sine_c (d : Int) (w : World) (h0 : -1000000 ≤ d) (h1 : d ≤ 1000000) : Calls Tryz.prog 122 #[.int .i64 d] w fun e w' => e = .returned (.int .i64 (sinI d)) ∧ Below w.heap.size w w' := by
  go_enter Tryz.func122, Tryz.ntmps122
  go_wp2_with fail
  refine (l02Table_c _).mono ?_
  rintro e w1 ⟨rfl, hs, hb1⟩
  go_wp2_with (go_at_call 132; refine (l02SineInZ_c _ _ d _ hs h0 h1).mono ?_; rintro e w2 ⟨rfl, rfl⟩)
  go_ret
  exact ⟨rfl, hb1⟩
set_option maxHeartbeats 400000 in
theorem l02Cosine_c (d : Int) (w : World) (h0 : -1000000 ≤ d) (h1 : d ≤ 1000000) : Calls Tryz.prog 124 #[.int .i64 d] w fun e w' => e = .returned (.int .i64 (sinI (d + 90))) ∧ Below w.heap.size w w' := by
  obtain ⟨r, hr⟩ : ∃ r, d % 360 = r := ⟨_, rfl⟩
  have hrb : 0 ≤ r ∧ r < 360 := by omega
  have hT : ∀ w1, Calls Tryz.prog 134 #[.int .i64 d] w1 fun e w' => e = .returned (.int .i64 r) ∧ w1 = w' := fun w1 => hr ▸ l02AngleZ_c d w1 h0 h1
  rw [← sin_turn, hr]
  have hQ : ∀ w1, Calls Tryz.prog 122 #[.int .i64 (r + 90)] w1 fun e w' => e = .returned (.int .i64 (sinI (r + 90))) ∧ Below w1.heap.size w1 w' := fun w1 => l02Sine_c _ _ (by omega) (by omega)
  generalize sinI (r + 90) = q at hQ ⊢
  have HT := Lib.hid hT; clear hT
  have HQ := Lib.hid hQ; clear hQ
  clear hr
  go_enter Tryz.func124, Tryz.ntmps124
  go_wp2_with (first | (go_at_call 134; refine (HT.out _).mono ?_; rintro e w1 ⟨rfl, rfl⟩) | (go_at_call 122; refine (HQ.out _).mono ?_; rintro e w1 ⟨rfl, hb1⟩))
  go_ret
  exact ⟨rfl, hb1⟩
set_option maxRecDepth 100000 in
set_option maxHeartbeats 400000 in
theorem l01DivZ_c (a b : Int) (w : World) (ha : -1000000000000000000 ≤ a) (ha1 : a ≤ 1000000000000000000) (hb : 0 < b) (hb1 : b ≤ 1000000000000) :
    Calls Tryz.prog 61 #[.int .i64 a, .int .i64 b] w fun e w' => e = .returned (.int .i64 (rdv a b)) ∧ w = w' := by
  rcases Int.lt_or_le a 0 with h | h
  · have hq := rdiv_bd (a := -a) (b := b) (by omega) hb
    rw [rdv, if_pos h]
    have h1 : ¬ b < 0 := by omega
    have e1 : IntKind.i64.wrap (2 * a) = 2 * a := IntWalk.i64_in _ (by omega)
    have e2 : IntKind.i64.wrap (b - 2 * a) = b - 2 * a := IntWalk.i64_in _ (by omega)
    have e3 : IntKind.i64.wrap (2 * b) = 2 * b := IntWalk.i64_in _ (by omega)
    have e4 : (b - 2 * a).tdiv (2 * b) = rdiv (-a) b := by
      rw [Int.tdiv_eq_ediv_of_nonneg (by omega), rdiv, show 2 * -a + b = b - 2 * a by omega]
    have e5 : 2 * b ≠ 0 := by omega
    generalize rdiv (-a) b = q at *
    have e6 : IntKind.i64.wrap q = q := IntWalk.i64_in _ (by omega)
    have e7 : IntKind.i64.wrap (-q) = -q := IntWalk.i64_in _ (by omega)
    go_enter Tryz.func61, Tryz.ntmps61
    go_wp2
    go_ret
    exact ⟨rfl, rfl⟩
  · rw [rdv, if_neg (by omega)]
    exact l01Div_c a b w h ha1 hb hb1
set_option maxRecDepth 100000 in
set_option maxHeartbeats 400000 in
theorem divRoundZ_c (a b : Int) (w : World) (ha : -1000000000000000000 ≤ a) (ha1 : a ≤ 1000000000000000000) (hb : 0 < b) (hb1 : b ≤ 1000000000000) :
    Calls Tryz.prog 68 #[.int .i64 a, .int .i64 b] w fun e w' => e = .returned (.int .i64 (rdv a b)) ∧ w = w' := by
  rcases Int.lt_or_le a 0 with h | h
  · rw [rdv, if_pos h]
    have h1 : decide (b < 0) = false := by simp; omega
    have h2 : decide (a < 0) = true := by simp; omega
    obtain ⟨x, hx⟩ : ∃ x, -a = x := ⟨_, rfl⟩
    have hx0 : 0 ≤ x ∧ x ≤ 1000000000000000000 := by omega
    rw [hx]
    have hr := rdiv_eq (a := x) hx0.1 hb
    have k1 := Int.emod_nonneg x (show b ≠ 0 by omega)
    have k2 := Int.emod_lt_of_pos x hb
    have k3 : 0 ≤ x / b := Int.ediv_nonneg hx0.1 (by omega)
    have k4 : x / b ≤ x := Int.ediv_le_self _ hx0.1
    have m1 : max a x = x := by omega
    have m2 : max b (-b) = b := by omega
    have e0 : IntKind.i64.wrap x = x := IntWalk.i64_in _ (by omega)
    by_cases hc : b - x % b ≤ x % b
    · rw [if_pos hc] at hr
      rw [hr]
      have Hr := Lib.hid hr; clear hr
      go_enter Tryz.func68, Tryz.ntmps68
      go_wp2
      go_ret
      exact ⟨rfl, rfl⟩
    · rw [if_neg hc, Int.add_zero] at hr
      rw [hr]
      have Hr := Lib.hid hr; clear hr
      go_enter Tryz.func68, Tryz.ntmps68
      go_wp2
      go_ret
      exact ⟨rfl, rfl⟩
  · rw [rdv, if_neg (by omega)]
    exact divRound_c a b w h ha1 hb hb1
end Go.Proofs.YtpgcgmbjlecnpaaGreat
/- The sun: the reference. -/
namespace Go.Proofs.YtpgcgmbjlecnpaaGreat
open Go.RowKit
set_option maxHeartbeats 1000000 in
theorem l04Tenths_c (t : Int) (w : World) (h0 : -900 ≤ t) (h1 : t ≤ 900) : Calls Tryz.prog 123 #[.int .i64 t] w fun e w' => e = .returned (.int .i64 (tenI t)) ∧ Below w.heap.size w w' := by
  obtain ⟨Q, hQ⟩ : ∃ Q, t / 10 = Q := ⟨_, rfl⟩
  obtain ⟨R, hR⟩ : ∃ R, t % 10 = R := ⟨_, rfl⟩
  have hb0 := sinI_bd Q
  have hb1 := sinI_bd (Q + 1)
  have hv : tenI t = sinI Q + rdv ((sinI (Q + 1) - sinI Q) * R) 10 := by rw [tenI, hQ, hR]
  rw [hv]
  have hS : ∀ (d : Int) (w1 : World), -1000000 ≤ d → d ≤ 1000000 → Calls Tryz.prog 122 #[.int .i64 d] w1 fun e w' => e = .returned (.int .i64 (sinI d)) ∧ Below w1.heap.size w1 w' := fun d w1 a b => l02Sine_c d w1 a b
  clear hv
  generalize sinI = F at *
  have hq : t = 10 * Q + R ∧ 0 ≤ R ∧ R < 10 := by omega
  have hm := mul_bdd (a := F (Q + 1) - F Q) (b := R) (A := 2000000) (B := 10) (by omega) (by omega) (by omega) (by omega)
  have e1 : IntKind.i64.wrap (t - 10 * Q) = R := by rw [IntWalk.i64_in _ (by omega)]; omega
  have e1' : t - 10 * Q = R := by omega
  have e2 : IntKind.i64.wrap ((F (Q + 1) - F Q) * R) = (F (Q + 1) - F Q) * R := IntWalk.i64_in _ (by omega)
  have hd : -2000000 ≤ rdv ((F (Q + 1) - F Q) * R) 10 ∧ rdv ((F (Q + 1) - F Q) * R) 10 ≤ 2000000 := by unfold rdv rdiv; split <;> omega
  obtain ⟨q, hq0⟩ : ∃ q, t.tdiv 10 = q := ⟨_, rfl⟩
  obtain ⟨r, hr0⟩ : ∃ r, t.tmod 10 = r := ⟨_, rfl⟩
  have hc : (q = Q ∧ 0 ≤ r ∧ r ≤ 9) ∨ (q = Q + 1 ∧ r < 0 ∧ -9 ≤ r) := by
    rcases Int.lt_or_le t 0 with h | h
    · rw [tdiv_neg h] at hq0
      rw [tmod_neg h] at hr0
      omega
    · rw [Int.tdiv_eq_ediv_of_nonneg h] at hq0
      rw [Int.tmod_eq_emod_of_nonneg h] at hr0
      omega
  have e3 : IntKind.i64.wrap q = q := IntWalk.i64_in _ (by omega)
  have e4 : IntKind.i64.wrap r = r := IntWalk.i64_in _ (by omega)
  have HS := Lib.hid hS; clear hS
  clear hR hQ
  have hqb : -100 ≤ Q ∧ Q ≤ 100 := by omega
  rcases hc with ⟨rfl, hr, _⟩ | ⟨rfl, hr, _⟩
  · have hr' : ¬ r < 0 := by omega
    clear hq
    go_enter Tryz.func123, Tryz.ntmps123
    go_wp2_with fail
    refine (HS.out q _ (by omega) (by omega)).mono ?_
    rintro e w1 ⟨rfl, hb1⟩
    go_wp2_with fail
    refine (HS.out (q + 1) _ (by omega) (by omega)).mono ?_
    rintro e w2 ⟨rfl, hb2⟩
    go_wp2_with fail
    refine (HS.out q _ (by omega) (by omega)).mono ?_
    rintro e w3 ⟨rfl, hb3⟩
    go_wp2_with fail
    refine (l01DivZ_c _ _ _ (by omega) (by omega) (by omega) (by omega)).mono ?_
    rintro e w4 ⟨rfl, rfl⟩
    go_wp2_with fail
    go_ret
    exact ⟨rfl, (hb1.trans (hb2.mono hb1.size)).trans (hb3.mono (Nat.le_trans hb1.size hb2.size))⟩
  · have e5 : IntKind.i64.wrap (Q + 1 - 1) = Q := by rw [IntWalk.i64_in _ (by omega)]; omega
    have e6 : Q + 1 - 1 = Q := by omega
    clear hq
    go_enter Tryz.func123, Tryz.ntmps123
    go_wp2_with fail
    refine (HS.out Q _ (by omega) (by omega)).mono ?_
    rintro e w1 ⟨rfl, hb1⟩
    go_wp2_with fail
    refine (HS.out (Q + 1) _ (by omega) (by omega)).mono ?_
    rintro e w2 ⟨rfl, hb2⟩
    go_wp2_with fail
    refine (HS.out Q _ (by omega) (by omega)).mono ?_
    rintro e w3 ⟨rfl, hb3⟩
    go_wp2_with fail
    refine (l01DivZ_c _ _ _ (by omega) (by omega) (by omega) (by omega)).mono ?_
    rintro e w4 ⟨rfl, rfl⟩
    go_wp2_with fail
    go_ret
    exact ⟨rfl, (hb1.trans (hb2.mono hb1.size)).trans (hb3.mono (Nat.le_trans hb1.size hb2.size))⟩
set_option maxHeartbeats 1000000 in
theorem l04Declination_c (d : Int) (w : World) (h0 : 0 ≤ d) (h1 : d ≤ 99999) : Calls Tryz.prog 121 #[.int .i64 d] w fun e w' => e = .returned (.int .i64 (decI (dyI d))) ∧ Below w.heap.size w w' := by
  have hb := dy_bd h0 h1
  have hD : ∀ w1, Calls Tryz.prog 131 #[.int .i64 d] w1 fun e w' => e = .returned (.tuple #[.int .i64 (dyI d), .int .i64 0]) ∧ w1 = w' := fun w1 => dayOfYear_c d w1 h0 h1
  have hdb := dec_bd (dyI d)
  generalize dyI d = n at *
  have hC : ∀ (d : Int) (w1 : World), -1000000 ≤ d → d ≤ 1000000 → Calls Tryz.prog 124 #[.int .i64 d] w1 fun e w' => e = .returned (.int .i64 (sinI (d + 90))) ∧ Below w1.heap.size w1 w' := fun d w1 a b => l02Cosine_c d w1 a b
  obtain ⟨v, hv⟩ : ∃ v, rdv (360 * (n + 10)) 365 = v := ⟨_, rfl⟩
  have hvb : 0 ≤ v ∧ v ≤ 400 := by rw [← hv]; unfold rdv rdiv; split <;> omega
  have hdec : decI n = -rdv (234 * sinI (v + 90)) 1000000 := by rw [decI, hv]
  have hs := sinI_bd (v + 90)
  rw [hdec] at hdb ⊢
  generalize sinI = F at *
  generalize hG : rdv (234 * F (v + 90)) 1000000 = G at *
  have hL1 : ∀ w1, Calls Tryz.prog 61 #[.int .i64 (360 * (n + 10)), .int .i64 365] w1 fun e w' => e = .returned (.int .i64 v) ∧ w1 = w' := fun w1 => hv ▸ l01DivZ_c _ _ w1 (by omega) (by omega) (by omega) (by omega)
  have hL2 : ∀ w1, Calls Tryz.prog 61 #[.int .i64 (234 * F (v + 90)), .int .i64 1000000] w1 fun e w' => e = .returned (.int .i64 G) ∧ w1 = w' := fun w1 => hG ▸ l01DivZ_c _ _ w1 (by omega) (by omega) (by omega) (by omega)
  have HD := Lib.hid hD; clear hD
  have HC := Lib.hid hC; clear hC
  have HL1 := Lib.hid hL1; clear hL1
  have HL2 := Lib.hid hL2; clear hL2
  clear hG hv hdec
  go_enter Tryz.func121, Tryz.ntmps121
  go_wp2_with (go_at_call 131; refine (HD.out _).mono ?_; rintro e w1 ⟨rfl, rfl⟩)
  refine (HL1.out _).mono ?_
  rintro e w2 ⟨rfl, rfl⟩
  go_wp2_with fail
  refine (HC.out _ _ (by omega) (by omega)).mono ?_
  rintro e w3 ⟨rfl, hb3⟩
  go_wp2_with fail
  refine (HL2.out _).mono ?_
  rintro e w4 ⟨rfl, rfl⟩
  go_wp2_with fail
  go_ret
  exact ⟨rfl, hb3⟩
end Go.Proofs.YtpgcgmbjlecnpaaGreat
/- Levels of a battery in a season: plain Lean. -/
namespace Go.Proofs.YtpgcgmbjlecnpaaGreat
open Go.RowKit
def drkD (lat day : Int) : Int := darkI lat (dyI day)
theorem drkD_bd (lat d : Int) : 0 ≤ drkD lat d ∧ drkD lat d ≤ 1440 := dark_bd _ _
/-- The dark minutes of n days. -/
def drkL (lat fr : Int) (n : Nat) : List Int := (List.range n).map fun (i : Nat) => drkD lat (fr + i)
theorem drkL_len (lat fr : Int) (n : Nat) : (drkL lat fr n).length = n := by simp [drkL]
theorem drkL_next (lat fr : Int) (n : Nat) : drkL lat fr (n + 1) = drkL lat fr n ++ [drkD lat (fr + n)] := by
  simp [drkL, List.range_succ]
theorem drkL_mem {lat fr : Int} {n : Nat} {d : Int} (h : d ∈ drkL lat fr n) : 0 ≤ d ∧ d ≤ 1440 := by
  simp only [drkL, List.mem_map] at h
  obtain ⟨i, _, rfl⟩ := h
  exact drkD_bd _ _
/-- The level after days, never below 0. -/
def levE (s : St) (sh : Int) : List Int → Int → Int
  | [], v => v
  | d :: r, v => levE s sh r (max 0 (nextI s sh v d))
def levL (s : St) (sh : Int) : List Int → Int → List Int
  | [], _ => []
  | d :: r, v => max 0 (nextI s sh v d) :: levL s sh r (max 0 (nextI s sh v d))
theorem levL_len (s : St) (sh : Int) : ∀ (l : List Int) (v : Int), (levL s sh l v).length = l.length
  | [], _ => rfl
  | d :: r, v => by rw [levL, List.length_cons, levL_len s sh r, List.length_cons]
theorem levE_next (s : St) (sh d : Int) : ∀ (l : List Int) (v : Int), levE s sh (l ++ [d]) v = max 0 (nextI s sh (levE s sh l v) d)
  | [], v => rfl
  | e :: r, v => by rw [List.cons_append, levE, levE_next s sh d r, levE]
theorem levL_next (s : St) (sh d : Int) : ∀ (l : List Int) (v : Int), levL s sh (l ++ [d]) v = levL s sh l v ++ [max 0 (nextI s sh (levE s sh l v) d)]
  | [], v => rfl
  | e :: r, v => by rw [List.cons_append, levL, levL_next s sh d r, levL, levE]; rfl
theorem levE_bd {s : St} (sh : Int) (hb : 0 ≤ s.ba) : ∀ (l : List Int) (v : Int), 0 ≤ v → v ≤ s.ba → 0 ≤ levE s sh l v ∧ levE s sh l v ≤ s.ba
  | [], _, h0, h1 => ⟨h0, h1⟩
  | d :: r, v, h0, h1 => by
    rw [levE]
    refine levE_bd sh hb r _ (by omega) ?_
    unfold nextI; omega
/-- The level, if it is never below 0. -/
def runE (s : St) (sh : Int) : List Int → Int → Option Int
  | [], v => some v
  | d :: r, v => if nextI s sh v d < 0 then none else runE s sh r (nextI s sh v d)
def lasB (s : St) (sh : Int) (l : List Int) : Bool := (runE s sh l s.ba).isSome
theorem runE_next (s : St) (sh d : Int) : ∀ (l : List Int) (v : Int), runE s sh (l ++ [d]) v = (runE s sh l v).bind fun u => if nextI s sh u d < 0 then none else some (nextI s sh u d)
  | [], v => by simp [runE]
  | e :: r, v => by
    rw [List.cons_append, runE, runE]
    split
    · rfl
    · exact runE_next s sh d r _
theorem runE_bd {s : St} (sh : Int) : ∀ (l : List Int) (v u : Int), 0 ≤ v → v ≤ s.ba → runE s sh l v = some u → 0 ≤ u ∧ u ≤ s.ba
  | [], v, u, h0, h1, h => by simp only [runE, Option.some.injEq] at h; omega
  | d :: r, v, u, h0, h1, h => by
    rw [runE] at h
    split at h
    · cases h
    · exact runE_bd sh r _ u (by omega) (by unfold nextI; omega) h
theorem runE_take {s : St} {sh : Int} {l : List Int} {v : Int} (h : (runE s sh l v).isSome = true) (k : Nat) : (runE s sh (l.take k) v).isSome = true := by
  induction l generalizing v k with
  | nil => simpa using h
  | cons d r ih =>
    cases k with
    | zero => rfl
    | succ k =>
      rw [List.take_succ_cons, runE]
      rw [runE] at h
      split at h
      · cases h
      · rename_i hc
        rw [if_neg hc]
        exact ih h k
theorem runE_stop {s : St} {sh : Int} {l : List Int} {v u : Int} {k : Nat} {d : Int} (h : runE s sh (l.take k) v = some u) (hd : l[k]? = some d) (hn : nextI s sh u d < 0) : runE s sh l v = none := by
  cases hr : runE s sh l v with
  | none => rfl
  | some x =>
    have := runE_take (k := k + 1) (l := l) (v := v) (s := s) (sh := sh) (by rw [hr]; rfl)
    rw [List.take_add_one, hd, Option.toList_some, runE_next, h, Option.bind_some, if_pos hn] at this
    cases this
/-- A greater battery, or a greater gain, does as well. -/
theorem runE_mono {s t : St} {sh : Int} (hb : s.ba ≤ t.ba) (hn : ∀ v u d, v ≤ u → 0 ≤ d ∧ d ≤ 1440 → nextI s sh v d ≤ nextI t sh u d) : ∀ (l : List Int) (v u : Int), v ≤ u → (∀ d ∈ l, 0 ≤ d ∧ d ≤ 1440) → (runE s sh l v).isSome = true → (runE t sh l u).isSome = true
  | [], _, _, _, _, _ => rfl
  | d :: r, v, u, h, hl, hs => by
    have h1 := hn v u d h (hl d (by simp))
    rw [runE] at hs ⊢
    split at hs
    · cases hs
    · rw [if_neg (by omega)]
      exact runE_mono hb hn r _ _ h1 (fun e he => hl e (by simp [he])) hs
def withBa (s : St) (n : Int) : St := ⟨s.la, s.sb, n, s.pa, s.sh⟩
def withPa (s : St) (n : Int) : St := ⟨s.la, s.sb, s.ba, n, s.sh⟩
theorem las_ba {s : St} {sh : Int} {l : List Int} (hl : ∀ d ∈ l, 0 ≤ d ∧ d ≤ 1440) {a b : Int} (h : a ≤ b) (hs : lasB (withBa s a) sh l = true) : lasB (withBa s b) sh l = true := by
  refine runE_mono (s := withBa s a) (t := withBa s b) h (fun v u d hv _ => ?_) l _ _ h hl hs
  show min a (v + gainI s d - useI s sh d) ≤ min b (u + gainI s d - useI s sh d)
  omega
theorem gain_mono {s : St} {a b d : Int} (h : a ≤ b) (h0 : 0 ≤ s.sh) (h1 : 0 ≤ d ∧ d ≤ 1440) : gainI (withPa s a) d ≤ gainI (withPa s b) d := by
  have h2 : a * s.sh ≤ b * s.sh := Int.mul_le_mul_of_nonneg_right h h0
  have h3 : a * s.sh * (1440 - d) ≤ b * s.sh * (1440 - d) := Int.mul_le_mul_of_nonneg_right h2 (by omega)
  exact Int.ediv_le_ediv (by omega) (by show 2 * (a * s.sh * (1440 - d)) + 60000 ≤ 2 * (b * s.sh * (1440 - d)) + 60000; omega)
theorem las_pa {s : St} {sh : Int} {l : List Int} (h0 : 0 ≤ s.sh) (hl : ∀ d ∈ l, 0 ≤ d ∧ d ≤ 1440) {a b : Int} (h : a ≤ b) (hs : lasB (withPa s a) sh l = true) : lasB (withPa s b) sh l = true := by
  refine runE_mono (s := withPa s a) (t := withPa s b) (Int.le_refl _) (fun v u d hv hd => ?_) l _ _ (Int.le_refl _) hl hs
  have hg := gain_mono (s := s) h h0 hd
  show min s.ba (v + gainI (withPa s a) d - useI s sh d) ≤ min s.ba (u + gainI (withPa s b) d - useI s sh d)
  omega
/-- The least number of a range that is accepted. -/
def lowI (p : Int → Bool) (lo : Int) : Nat → Int
  | 0 => lo
  | n + 1 => if p lo then lo else lowI p (lo + 1) n
theorem least_eq {p : Int → Bool} {r : Int} : ∀ (n : Nat) (lo : Int), lo ≤ r → r ≤ lo + n → p r = true → (∀ x, lo ≤ x → x < r → p x = false) → lowI p lo n = r
  | 0, lo, h0, h1, _, _ => by simp at h1; rw [lowI]; omega
  | n + 1, lo, h0, h1, hr, hx => by
    rw [lowI]
    by_cases e : lo = r
    · subst e; rw [if_pos hr]
    · rw [hx lo (Int.le_refl _) (by omega), if_neg (by simp)]
      exact least_eq n (lo + 1) (by omega) (by omega) hr fun x h2 h3 => hx x (by omega) h3
/-- The value and the code of the search. -/
def leaV (p : Int → Bool) (lo hi : Int) : Int := if p hi then lowI p lo (hi - lo).toNat else 0
def leaK (p : Int → Bool) (hi : Int) : Int := if p hi then 0 else 3
theorem lea_found {p : Int → Bool} {lo hi r : Int} (mono : ∀ a b, lo ≤ a → a ≤ b → b ≤ hi → p a = true → p b = true) (h0 : lo ≤ r) (h1 : r ≤ hi) (hr : p r = true) (hm : r = lo ∨ p (r - 1) = false) : leaV p lo hi = r ∧ leaK p hi = 0 := by
  have hh := mono r hi h0 h1 (Int.le_refl _) hr
  refine ⟨?_, by rw [leaK, if_pos hh]⟩
  rw [leaV, if_pos hh]
  refine least_eq _ lo h0 (by omega) hr fun x h2 h3 => ?_
  rcases hm with hm | hm
  · omega
  · cases hx : p x
    · rfl
    · rw [mono x (r - 1) h2 (by omega) (by omega) hx] at hm
      cases hm
theorem lea_none {p : Int → Bool} {lo hi : Int} (h : p hi = false) : leaV p lo hi = 0 ∧ leaK p hi = 3 := by
  rw [leaV, leaK, if_neg (by simp [h]), if_neg (by simp [h])]; exact ⟨rfl, rfl⟩
def batP (s : St) (x : Ch) (lat fr cnt : Int) : Int → Bool := fun n => lasB (withBa s n) (shareI x) (drkL lat fr cnt.toNat)
def panP (s : St) (x : Ch) (lat fr cnt : Int) : Int → Bool := fun n => lasB (withPa s n) (shareI x) (drkL lat fr cnt.toNat)
def seaB (lat fr cnt : Int) : Bool := inB lat (-66) 66 && (inB cnt 1 400 && (inB fr 0 99999 && inB (fr + cnt - 1) 0 99999))
def powK (s : St) (x : Ch) (lat fr cnt : Int) : Int := bif okSC s x then (bif seaB lat fr cnt then 0 else 2) else 1
def lasV (s : St) (x : Ch) (lat fr cnt : Int) : Bool := okSC s x && (seaB lat fr cnt && lasB s (shareI x) (drkL lat fr cnt.toNat))
def levV (s : St) (x : Ch) (lat fr cnt : Int) : List Int := bif okSC s x then (bif seaB lat fr cnt then levL s (shareI x) (drkL lat fr cnt.toNat) s.ba else []) else []
def batV (s : St) (x : Ch) (lat fr cnt : Int) : Int := bif okSC s x && seaB lat fr cnt then leaV (batP s x lat fr cnt) 1 100000000 else 0
def batK (s : St) (x : Ch) (lat fr cnt : Int) : Int := bif okSC s x && seaB lat fr cnt then leaK (batP s x lat fr cnt) 100000000 else powK s x lat fr cnt
def panV (s : St) (x : Ch) (lat fr cnt : Int) : Int := bif okSC s x && seaB lat fr cnt then leaV (panP s x lat fr cnt) 0 1000000 else 0
def panK (s : St) (x : Ch) (lat fr cnt : Int) : Int := bif okSC s x && seaB lat fr cnt then leaK (panP s x lat fr cnt) 1000000 else powK s x lat fr cnt
end Go.Proofs.YtpgcgmbjlecnpaaGreat
/- The dark minutes of a day: the reference. -/
namespace Go.Proofs.YtpgcgmbjlecnpaaGreat
open Go.RowKit
abbrev sunV (s m : Int) : Value := .agg #[.int .i64 s, .int .i64 m]
structure SunP (w : World) (b : Nat) (s m : Int) : Prop where
  c0 : w.cell? ⟨b, 0, none⟩ = some (.int .i64 s)
  c1 : w.cell? ⟨b, 1, none⟩ = some (.int .i64 m)
  hb : b < w.heap.size
theorem SunP.next {w w' : World} {b : Nat} {s m : Int} (h : SunP w b s m) (hb : Below w.heap.size w w') : SunP w' b s m :=
  ⟨(keepC hb b h.hb _).trans h.c0, (keepC hb b h.hb _).trans h.c1, Nat.lt_of_lt_of_le h.hb hb.size⟩
set_option maxRecDepth 100000 in
set_option maxHeartbeats 1000000 in
theorem l04Of_c (lat d : Int) (w : World) (l0 : -66 ≤ lat) (l1 : lat ≤ 66) (h0 : 0 ≤ d) (h1 : d ≤ 99999) : Calls Tryz.prog 104 #[.int .i64 lat, .int .i64 d] w fun e w' => e = .returned (sunV (stiI lat (dyI d)) (movI lat (dyI d))) ∧ Below w.heap.size w w' := by
  have hD : ∀ w1, Calls Tryz.prog 121 #[.int .i64 d] w1 fun e w' => e = .returned (.int .i64 (decI (dyI d))) ∧ Below w1.heap.size w1 w' := fun w1 => l04Declination_c d w1 h0 h1
  have hdb := dec_bd (dyI d)
  have hsv : stiI lat (dyI d) = rdv (sinI lat * tenI (decI (dyI d))) 1000000 := rfl
  have hmv : movI lat (dyI d) = rdv (sinI (lat + 90) * tenI (900 - max (decI (dyI d)) (-decI (dyI d)))) 1000000 := rfl
  have hsb := sti_bd lat (dyI d)
  have hmb := mov_bd l0 l1 (dyI d)
  have ht1 := ten_lo hdb.1 hdb.2
  have ht2 := ten_hi (t := 900 - max (decI (dyI d)) (-decI (dyI d))) (by omega) (by omega)
  generalize stiI lat (dyI d) = S at *
  generalize movI lat (dyI d) = M at *
  generalize decI (dyI d) = D at *
  have hs1 := sinI_bd lat
  have hs2 := cos_lat l0 l1
  have hp1 := prod_bd hs1 ht1
  have hp2 := prod_bd (show -1000000 ≤ sinI (lat + 90) ∧ _ from ⟨by omega, hs2.2⟩) (show -1000000 ≤ tenI (900 - max D (-D)) ∧ _ from ⟨by omega, ht2.2⟩)
  have hS : ∀ w1, Calls Tryz.prog 122 #[.int .i64 lat] w1 fun e w' => e = .returned (.int .i64 (sinI lat)) ∧ Below w1.heap.size w1 w' := fun w1 => l02Sine_c lat w1 (by omega) (by omega)
  have hC : ∀ w1, Calls Tryz.prog 124 #[.int .i64 lat] w1 fun e w' => e = .returned (.int .i64 (sinI (lat + 90))) ∧ Below w1.heap.size w1 w' := fun w1 => l02Cosine_c lat w1 (by omega) (by omega)
  have hT1 : ∀ w1, Calls Tryz.prog 123 #[.int .i64 D] w1 fun e w' => e = .returned (.int .i64 (tenI D)) ∧ Below w1.heap.size w1 w' := fun w1 => l04Tenths_c D w1 (by omega) (by omega)
  have hT2 : ∀ w1, Calls Tryz.prog 123 #[.int .i64 (900 - max D (-D))] w1 fun e w' => e = .returned (.int .i64 (tenI (900 - max D (-D)))) ∧ Below w1.heap.size w1 w' := fun w1 => l04Tenths_c _ w1 (by omega) (by omega)
  have hX : ∀ w1, Calls Tryz.prog 42 #[.int .i64 D, .int .i64 (-D)] w1 fun e w' => e = .returned (.int .i64 (max D (-D))) ∧ w1 = w' := fun w1 => l00Max_c _ _ w1
  have hxb : 0 ≤ max D (-D) ∧ max D (-D) ≤ 234 := by omega
  generalize max D (-D) = X at *
  have hL1 : ∀ w1, Calls Tryz.prog 61 #[.int .i64 (sinI lat * tenI D), .int .i64 1000000] w1 fun e w' => e = .returned (.int .i64 S) ∧ w1 = w' := fun w1 => hsv ▸ l01DivZ_c _ _ w1 (by omega) (by omega) (by omega) (by omega)
  have hL2 : ∀ w1, Calls Tryz.prog 61 #[.int .i64 (sinI (lat + 90) * tenI (900 - X)), .int .i64 1000000] w1 fun e w' => e = .returned (.int .i64 M) ∧ w1 = w' := fun w1 => hmv ▸ l01DivZ_c _ _ w1 (by omega) (by omega) (by omega) (by omega)
  clear hsv hmv
  generalize tenI D = T1 at *
  generalize tenI (900 - X) = T2 at *
  generalize sinI lat = A1 at *
  generalize sinI (lat + 90) = A2 at *
  have e1 : IntKind.i64.wrap (A1 * T1) = A1 * T1 := IntWalk.i64_in _ (by omega)
  have e2 : IntKind.i64.wrap (A2 * T2) = A2 * T2 := IntWalk.i64_in _ (by omega)
  have HD := Lib.hid hD; clear hD
  have HS := Lib.hid hS; clear hS
  have HC := Lib.hid hC; clear hC
  have HT1 := Lib.hid hT1; clear hT1
  have HT2 := Lib.hid hT2; clear hT2
  have HX := Lib.hid hX; clear hX
  have HL1 := Lib.hid hL1; clear hL1
  have HL2 := Lib.hid hL2; clear hL2
  have hb0 : Below w.heap.size w (w.alloc (.cells #[.int .i64 0, .int .i64 0] 103)) := by (repeat (first | (with_reducible assumption) | (with_reducible exact Below.refl _ _) | exact Nat.le_refl _ | exact Below.size (by with_reducible assumption) | (with_reducible refine Below.drew ?_) | (with_reducible refine below_drewN ?_ _) | (with_reducible refine Below.alloc ?_ ?_ _) | (with_reducible refine Below.setCell ?_ ?_ _) | (with_reducible refine le_alloc ?_ _) | (with_reducible refine le_set ?_ _ _) | (with_reducible refine le_drew ?_) | (with_reducible refine le_drewN ?_ _) | omega | (dsimp only; omega)))
  have hbx : (w.alloc (.cells #[.int .i64 0, .int .i64 0] 103)).heap[w.heap.size]? = some (.cells #[.int .i64 0, .int .i64 0] 103 (0, 0)) := heap_alloc_new w _
  have b0 : SunP (w.alloc (.cells #[.int .i64 0, .int .i64 0] 103)) w.heap.size 0 0 := ⟨(cell_of_row _ w.heap.size _ _ 103 (0, 0) hbx).trans rfl, (cell_of_row _ w.heap.size _ _ 103 (0, 0) hbx).trans rfl, by simp⟩
  have hz0 : w.heap.size < (w.alloc (.cells #[.int .i64 0, .int .i64 0] 103)).heap.size := by simp
  go_enter Tryz.func104, Tryz.ntmps104
  go_wp2_with fail
  refine (HD.out _).mono ?_
  rintro e w1 ⟨rfl, hb1⟩
  go_wp2_with fail
  refine (HS.out _).mono ?_
  rintro e w2 ⟨rfl, hb2⟩
  go_wp2_with fail
  refine (HT1.out _).mono ?_
  rintro e w3 ⟨rfl, hb3⟩
  go_wp2_with fail
  refine (HL1.out _).mono ?_
  rintro e w4 ⟨rfl, rfl⟩
  go_wp2_with fail
  refine (HC.out _).mono ?_
  rintro e w5 ⟨rfl, hb5⟩
  go_wp2_with fail
  refine (HX.out _).mono ?_
  rintro e w6 ⟨rfl, rfl⟩
  go_wp2_with fail
  refine (HT2.out _).mono ?_
  rintro e w7 ⟨rfl, hb7⟩
  go_wp2_with fail
  refine (HL2.out _).mono ?_
  rintro e w8 ⟨rfl, rfl⟩
  have hb := (((hb1.trans (hb2.mono hb1.size)).trans (hb3.mono (Nat.le_trans hb1.size hb2.size))).trans (hb5.mono (Nat.le_trans hb1.size (Nat.le_trans hb2.size hb3.size)))).trans (hb7.mono (Nat.le_trans hb1.size (Nat.le_trans hb2.size (Nat.le_trans hb3.size hb5.size))))
  obtain ⟨q0, q1, hz⟩ := b0.next hb
  have f0 := keepF hb w.heap.size hz0
  have hbb := hb0.trans (hb.mono hb0.size)
  clear hb1 hb2 hb3 hb5 hb7 hb
  go_wp2_with fail
  refine bodyPost_ret (v := sunV S M) (by simp [results, Tryz.results104, go_sem, q0, q1]) rfl ⟨rfl, by (repeat (first | (with_reducible assumption) | (with_reducible exact Below.refl _ _) | exact Nat.le_refl _ | exact Below.size (by with_reducible assumption) | (with_reducible refine Below.drew ?_) | (with_reducible refine below_drewN ?_ _) | (with_reducible refine Below.alloc ?_ ?_ _) | (with_reducible refine Below.setCell ?_ ?_ _) | (with_reducible refine le_alloc ?_ _) | (with_reducible refine le_set ?_ _ _) | (with_reducible refine le_drew ?_) | (with_reducible refine le_drewN ?_ _) | omega | (dsimp only; omega)))⟩
theorem l01DivZ_q (a b : Int) (w : World) (k : Nat) (ha : -1000000000000000000 ≤ a) (ha1 : a ≤ 1000000000000000000) (hb : 0 < b) (hb1 : b ≤ 1000000000000) :
    Calls Tryz.prog 61 #[.int .i64 a, .int .i64 b] (w.drewN k) fun e w' => e = .returned (.int .i64 (rdv a b)) ∧ w.drewN k = w' := l01DivZ_c a b _ ha ha1 hb hb1
set_option maxRecDepth 100000 in
set_option maxHeartbeats 1000000 in
theorem at_c (b : Nat) (s m k : Int) (w : World) (h : SunP w b s m) (hs : -1000000 ≤ s ∧ s ≤ 1000000) (hm : 0 ≤ m ∧ m ≤ 1000000) (k0 : 0 ≤ k) (k1 : k ≤ 1440) : Calls Tryz.prog 105 #[.pointer (some ⟨b, 0, none⟩), .int .i64 k] w fun e w' => e = .returned (.int .i64 (atI s m k)) ∧ Below w.heap.size w w' := by
  have hbd := at_bd hs hm k0 k1
  obtain ⟨a, ha⟩ : ∃ a, awI k = a := ⟨_, rfl⟩
  have hab : 0 ≤ a ∧ a ≤ 720 := by unfold awI at ha; omega
  have hX : ∀ w1, Calls Tryz.prog 42 #[.int .i64 (k - 720), .int .i64 (720 - k)] w1 fun e w' => e = .returned (.int .i64 a) ∧ w1 = w' := fun w1 => by
    have := l00Max_c (k - 720) (720 - k) w1
    rwa [show max (k - 720) (720 - k) = a from ha] at this
  have hv : atI s m k = s + rdv (m * hI a) 1000000 := by rw [atI, ha, hgI]
  rw [ha] at hbd
  rw [hv]
  obtain ⟨q, hq⟩ : ∃ q, a / 4 = q := ⟨_, rfl⟩
  obtain ⟨r, hr⟩ : ∃ r, a % 4 = r := ⟨_, rfl⟩
  have hh : hI a = sinI (q + 90) + rdv ((sinI (q + 1 + 90) - sinI (q + 90)) * r) 4 := by rw [hI, hq, hr]
  have b1 := sinI_bd (q + 90)
  have b2 := sinI_bd (q + 1 + 90)
  have hC : ∀ (d : Int) (w1 : World), -1000000 ≤ d → d ≤ 1000000 → Calls Tryz.prog 124 #[.int .i64 d] w1 fun e w' => e = .returned (.int .i64 (sinI (d + 90))) ∧ Below w1.heap.size w1 w' := fun d w1 a b => l02Cosine_c d w1 a b
  have hhb := hI_bd hab.1 hab.2
  generalize hI a = H at *
  generalize sinI = F at *
  have hm4 := mul_bdd (a := F (q + 1 + 90) - F (q + 90)) (b := r) (A := 2000000) (B := 4) (by omega) (by omega) (by omega) (by omega)
  have e1 : IntKind.i64.wrap ((F (q + 1 + 90) - F (q + 90)) * r) = (F (q + 1 + 90) - F (q + 90)) * r := IntWalk.i64_in _ (by omega)
  have e2 : a.tdiv 4 = q := by rw [Int.tdiv_eq_ediv_of_nonneg hab.1, hq]
  have e3 : a.tmod 4 = r := by rw [Int.tmod_eq_emod_of_nonneg hab.1, hr]
  have e4 : F (q + 90) + rdv ((F (q + 1 + 90) - F (q + 90)) * r) 4 = H := hh.symm
  have e5 : IntKind.i64.wrap (m * H) = m * H := IntWalk.i64_in _ (by omega)
  have e6 : IntKind.i64.wrap (F (q + 90) + rdv ((F (q + 1 + 90) - F (q + 90)) * r) 4) = H := by rw [e4]; exact IntWalk.i64_in _ (by omega)
  have e7 : IntKind.i64.wrap q = q := IntWalk.i64_in _ (by omega)
  have hqb : 0 ≤ q ∧ q ≤ 180 := by omega
  have hgb : -1000000 ≤ rdv (m * H) 1000000 ∧ rdv (m * H) 1000000 ≤ 1000000 := hbd.2
  obtain ⟨G, hG⟩ : ∃ G, rdv (m * H) 1000000 = G := ⟨_, rfl⟩
  have hL1 : ∀ w1, Calls Tryz.prog 61 #[.int .i64 ((F (q + 1 + 90) - F (q + 90)) * r), .int .i64 4] w1 fun e w' => e = .returned (.int .i64 (rdv ((F (q + 1 + 90) - F (q + 90)) * r) 4)) ∧ w1 = w' := fun w1 => l01DivZ_c _ _ w1 (by omega) (by omega) (by omega) (by omega)
  have hL2 : ∀ (w1 : World) (k : Nat), Calls Tryz.prog 61 #[.int .i64 (m * H), .int .i64 1000000] (w1.drewN k) fun e w' => e = .returned (.int .i64 G) ∧ w1.drewN k = w' := fun w1 k => hG ▸ l01DivZ_q _ _ w1 k (by omega) (by omega) (by omega) (by omega)
  rw [hG] at hgb ⊢
  have HC := Lib.hid hC; clear hC
  have HX := Lib.hid hX; clear hX
  have HL1 := Lib.hid hL1; clear hL1
  have HL2 := Lib.hid hL2; clear hL2
  clear hh ha hq hr hv hG hbd
  go_enter Tryz.func105, Tryz.ntmps105
  go_wp2_with fail
  refine (HX.out _).mono ?_
  rintro e w1 ⟨rfl, rfl⟩
  go_wp2_with fail
  refine (HC.out _ _ (by omega) (by omega)).mono ?_
  rintro e w2 ⟨rfl, hb2⟩
  go_wp2_with fail
  refine (HC.out _ _ (by omega) (by omega)).mono ?_
  rintro e w3 ⟨rfl, hb3⟩
  go_wp2_with fail
  refine (HC.out _ _ (by omega) (by omega)).mono ?_
  rintro e w4 ⟨rfl, hb4⟩
  have hb := (hb2.trans (hb3.mono hb2.size)).trans (hb4.mono (Nat.le_trans hb2.size hb3.size))
  obtain ⟨c0, c1, hz⟩ := h.next hb
  clear hb2 hb3 hb4
  go_wp2_with fail
  refine (HL1.out _).mono ?_
  rintro e w5 ⟨rfl, rfl⟩
  go_wp2_with fail
  go_quiet ((go_at_call 61; exact quiet_c (HL2.out _ _)))
  go_wp2_with fail
  go_ret
  exact ⟨rfl, below_drewN hb _⟩
set_option maxRecDepth 100000 in
set_option maxHeartbeats 1000000 in
theorem l04Rise_c (lat d : Int) (w : World) (l0 : -66 ≤ lat) (l1 : lat ≤ 66) (h0 : 0 ≤ d) (h1 : d ≤ 99999) : Calls Tryz.prog 82 #[.int .i64 lat, .int .i64 d] w fun e w' => (∃ r : Int, e = .returned (.int .i64 r) ∧ ((r = -1 ∧ hgI (stiI lat (dyI d)) (movI lat (dyI d)) 0 < -14000) ∨ ∃ n : Nat, r = n ∧ n ≤ 720 ∧ -14000 ≤ hgI (stiI lat (dyI d)) (movI lat (dyI d)) (720 - n) ∧ (n = 0 ∨ hgI (stiI lat (dyI d)) (movI lat (dyI d)) (720 - (n - 1)) < -14000))) ∧ Below w.heap.size w w' := by
  have hO : ∀ w1, Calls Tryz.prog 104 #[.int .i64 lat, .int .i64 d] w1 fun e w' => e = .returned (sunV (stiI lat (dyI d)) (movI lat (dyI d))) ∧ Below w1.heap.size w1 w' := fun w1 => l04Of_c lat d w1 l0 l1 h0 h1
  have hs := sti_bd lat (dyI d)
  have hm := mov_bd l0 l1 (dyI d)
  generalize stiI lat (dyI d) = s at *
  generalize movI lat (dyI d) = m at *
  have hA : ∀ (b : Nat) (n k : Int) (w1 : World), SunP w1 b s m → 0 ≤ k → k ≤ 720 → 720 - k = n → Calls Tryz.prog 105 #[.pointer (some ⟨b, 0, none⟩), .int .i64 k] w1 fun e w' => e = .returned (.int .i64 (hgI s m n)) ∧ Below w1.heap.size w1 w' := fun b n k w1 h k0 k1 e => by
    have := at_c b s m k w1 h hs hm k0 (by omega)
    rwa [atI, show awI k = n by unfold awI; omega] at this
  clear hs hm
  generalize hgI s m = F at *
  have HO := Lib.hid hO; clear hO
  have HA := Lib.hid hA; clear hA
  go_enter Tryz.func82, Tryz.ntmps82
  go_wp2_with fail
  refine (HO.out _).mono ?_
  rintro e w1 ⟨rfl, hb1⟩
  have hbx : (w1.alloc (.cells #[.int .i64 s, .int .i64 m] 103)).heap[w1.heap.size]? = some (.cells #[.int .i64 s, .int .i64 m] 103 (0, 0)) := heap_alloc_new w1 _
  have b0 : SunP (w1.alloc (.cells #[.int .i64 s, .int .i64 m] 103)) w1.heap.size s m := ⟨(cell_of_row _ w1.heap.size _ _ 103 (0, 0) hbx).trans rfl, (cell_of_row _ w1.heap.size _ _ 103 (0, 0) hbx).trans rfl, by simp⟩
  have hb2 : Below w.heap.size w (w1.alloc (.cells #[.int .i64 s, .int .i64 m] 103)) := by (repeat (first | (with_reducible assumption) | (with_reducible exact Below.refl _ _) | exact Nat.le_refl _ | exact Below.size (by with_reducible assumption) | (with_reducible refine Below.drew ?_) | (with_reducible refine below_drewN ?_ _) | (with_reducible refine Below.alloc ?_ ?_ _) | (with_reducible refine Below.setCell ?_ ?_ _) | (with_reducible refine le_alloc ?_ _) | (with_reducible refine le_set ?_ _ _) | (with_reducible refine le_drew ?_) | (with_reducible refine le_drewN ?_ _) | omega | (dsimp only; omega)))
  clear hbx hb1
  go_wp2_with fail
  generalize w1.heap.size = b at *
  generalize w1.alloc (.cells #[.int .i64 s, .int .i64 m] 103) = w2 at *
  refine (HA.out b 0 720 _ b0 (by omega) (by omega) (by omega)).mono ?_
  rintro e w3 ⟨rfl, hb3⟩
  replace b0 := b0.next hb3
  replace hb2 := hb2.trans (hb3.mono hb2.size)
  clear hb3
  by_cases hF : F 0 < -14000
  · go_wp2_with fail
    go_ret
    exact ⟨⟨_, rfl, .inl ⟨rfl, hF⟩⟩, hb2⟩
  go_wp2_with fail
  go_loopw [6, 7] (fun x y wr => ∃ lo hi : Nat, x = .int .i64 lo ∧ y = .int .i64 hi ∧ lo ≤ hi ∧ hi ≤ 720 ∧ -14000 ≤ F (720 - hi) ∧ (lo = 0 ∨ F (720 - (lo - 1)) < -14000) ∧ SunP wr b s m ∧ Below w.heap.size w wr) (fun x y _ => (intOf y - intOf x).toNat)
  case atStart => exact ⟨0, 720, rfl, rfl, by omega, by omega, by simpa using hF, .inl rfl, b0, hb2⟩
  case round =>
    clear hb2 b0
    obtain ⟨lo, hi, rfl, rfl, hlh, hh, hF1, hF2, b0, hb2⟩ := hrel
    by_cases hlt : lo < hi
    · obtain ⟨M, hM⟩ : ∃ M : Nat, (lo + hi) / 2 = M := ⟨_, rfl⟩
      have e1 : ((lo : Int) + hi).tdiv 2 = M := by rw [Int.tdiv_eq_ediv_of_nonneg (by omega)]; omega
      have e2 : IntKind.i64.wrap (M : Int) = M := IntWalk.i64_in _ (by omega)
      have hlt' : (lo : Int) < hi := by omega
      have hA2 : ∀ w1, SunP w1 b s m → Calls Tryz.prog 105 #[.pointer (some ⟨b, 0, none⟩), .int .i64 M] w1 fun e w' => e = .returned (.int .i64 (F (720 - M))) ∧ Below w1.heap.size w1 w' := fun w1 hp => HA.out b _ _ w1 hp (by omega) (by omega) rfl
      generalize hV : F (720 - (M : Int)) = V at hA2
      have HA2 := Lib.hid hA2; clear hA2
      have HV := Lib.hid hV; clear hV
      have HF1 := Lib.hid hF1; clear hF1
      have HF2 := Lib.hid hF2; clear hF2
      by_cases hc : -14000 ≤ V
      · go_wp2_with fail
        refine (HA2.out _ b0).mono ?_
        rintro e w4 ⟨rfl, hb4⟩
        go_wp2_with fail
        go_roundw
        case rel => exact ⟨lo, M, rfl, rfl, by omega, by omega, by rw [HV.out]; exact hc, HF2.out, b0.next hb4, hb2.trans (hb4.mono hb2.size)⟩
        case measure => simp [intOf]; omega
      · go_wp2_with fail
        refine (HA2.out _ b0).mono ?_
        rintro e w4 ⟨rfl, hb4⟩
        go_wp2_with fail
        go_roundw
        case rel => exact ⟨M + 1, hi, by go_num, rfl, by omega, by omega, HF1.out, .inr (by rw [show (720 : Int) - (((M + 1 : Nat) : Int) - 1) = 720 - M by omega, HV.out]; omega), b0.next hb4, hb2.trans (hb4.mono hb2.size)⟩
        case measure => simp [intOf]; omega
    · obtain rfl : lo = hi := by omega
      go_wp2_with fail
      go_ret
      exact ⟨⟨_, rfl, .inr ⟨lo, rfl, hh, hF1, hF2⟩⟩, hb2⟩
end Go.Proofs.YtpgcgmbjlecnpaaGreat
/- Nights and levels: the reference. -/
namespace Go.Proofs.YtpgcgmbjlecnpaaGreat
open Go.RowKit
set_option maxRecDepth 100000 in
set_option maxHeartbeats 1000000 in
theorem l04Set_c (lat d : Int) (n : Nat) (w : World) (l0 : -66 ≤ lat) (l1 : lat ≤ 66) (h0 : 0 ≤ d) (h1 : d ≤ 99999) (hn : n ≤ 720) (hr : n = 0 → -14000 ≤ hgI (stiI lat (dyI d)) (movI lat (dyI d)) 720) :
    Calls Tryz.prog 83 #[.int .i64 lat, .int .i64 d, .int .i64 n] w fun e w' => e = .returned (.int .i64 (if n = 0 then 1440 else 1441 - n)) ∧ Below w.heap.size w w' := by
  have hO : ∀ w1, Calls Tryz.prog 104 #[.int .i64 lat, .int .i64 d] w1 fun e w' => e = .returned (sunV (stiI lat (dyI d)) (movI lat (dyI d))) ∧ Below w1.heap.size w1 w' := fun w1 => l04Of_c lat d w1 l0 l1 h0 h1
  have hs := sti_bd lat (dyI d)
  have hm := mov_bd l0 l1 (dyI d)
  generalize stiI lat (dyI d) = s at *
  generalize movI lat (dyI d) = m at *
  have hA : ∀ (b : Nat) (w1 : World), SunP w1 b s m → Calls Tryz.prog 105 #[.pointer (some ⟨b, 0, none⟩), .int .i64 1439] w1 fun e w' => e = .returned (.int .i64 (hgI s m 719)) ∧ Below w1.heap.size w1 w' := fun b w1 h => by
    have := at_c b s m 1439 w1 h hs hm (by omega) (by omega)
    rwa [atI, show awI 1439 = 719 by decide] at this
  have hant := hg_anti (st := s) (a := 719) (b := 720) hm.1 (by omega) (by omega) (by omega)
  clear hs hm
  by_cases hz : n = 0
  · subst hz
    have hF : -14000 ≤ hgI s m 719 := Int.le_trans (hr rfl) hant
    clear hr hant
    generalize hgI s m 719 = F at *
    rw [if_pos rfl]
    have HO := Lib.hid hO; clear hO
    have HA := Lib.hid hA; clear hA
    go_enter Tryz.func83, Tryz.ntmps83
    go_wp2_with fail
    refine (HO.out _).mono ?_
    rintro e w1 ⟨rfl, hb1⟩
    have hbx : (w1.alloc (.cells #[.int .i64 s, .int .i64 m] 103)).heap[w1.heap.size]? = some (.cells #[.int .i64 s, .int .i64 m] 103 (0, 0)) := heap_alloc_new w1 _
    have b0 : SunP (w1.alloc (.cells #[.int .i64 s, .int .i64 m] 103)) w1.heap.size s m := ⟨(cell_of_row _ w1.heap.size _ _ 103 (0, 0) hbx).trans rfl, (cell_of_row _ w1.heap.size _ _ 103 (0, 0) hbx).trans rfl, by simp⟩
    have hb2 : Below w.heap.size w (w1.alloc (.cells #[.int .i64 s, .int .i64 m] 103)) := by (repeat (first | (with_reducible assumption) | (with_reducible exact Below.refl _ _) | exact Nat.le_refl _ | exact Below.size (by with_reducible assumption) | (with_reducible refine Below.drew ?_) | (with_reducible refine below_drewN ?_ _) | (with_reducible refine Below.alloc ?_ ?_ _) | (with_reducible refine Below.setCell ?_ ?_ _) | (with_reducible refine le_alloc ?_ _) | (with_reducible refine le_set ?_ _ _) | (with_reducible refine le_drew ?_) | (with_reducible refine le_drewN ?_ _) | omega | (dsimp only; omega)))
    clear hbx hb1
    go_wp2_with fail
    refine (HA.out _ _ b0).mono ?_
    rintro e w3 ⟨rfl, hb3⟩
    replace hb2 := hb2.trans (hb3.mono hb2.size)
    go_wp2_with fail
    go_ret
    exact ⟨rfl, hb2⟩
  · rw [if_neg hz]
    have hz' : ¬ ((n : Int) = 0) := by omega
    clear hr hO hA hant
    go_enter Tryz.func83, Tryz.ntmps83
    go_wp2_with fail
    go_ret
    exact ⟨rfl, Below.refl _ _⟩
set_option maxRecDepth 100000 in
set_option maxHeartbeats 1000000 in
theorem l04Dark_c (lat d : Int) (w : World) (l0 : -66 ≤ lat) (l1 : lat ≤ 66) (h0 : 0 ≤ d) (h1 : d ≤ 99999) : Calls Tryz.prog 52 #[.int .i64 lat, .int .i64 d] w fun e w' => e = .returned (.int .i64 (drkD lat d)) ∧ Below w.heap.size w w' := by
  have hR : ∀ w1, _ := fun w1 => l04Rise_c lat d w1 l0 l1 h0 h1
  have hS : ∀ (n : Nat) w1, n ≤ 720 → (n = 0 → -14000 ≤ hgI (stiI lat (dyI d)) (movI lat (dyI d)) 720) → _ := fun n w1 a b => l04Set_c lat d n w1 l0 l1 h0 h1 a b
  have hm := (mov_bd l0 l1 (dyI d)).1
  have hv : drkD lat d = drkN (stiI lat (dyI d)) (movI lat (dyI d)) 1440 := rfl
  rw [hv]
  generalize stiI lat (dyI d) = s at *
  generalize movI lat (dyI d) = m at *
  obtain ⟨X, hX⟩ : ∃ X, drkN s m 1440 = X := ⟨_, rfl⟩
  rw [hX]
  have HR := Lib.hid hR; clear hR
  have HS := Lib.hid hS; clear hS
  have HX := Lib.hid hX; clear hX
  clear hv
  go_enter Tryz.func52, Tryz.ntmps52
  go_wp2_with fail
  refine (HR.out _).mono ?_
  rintro e w1 ⟨⟨r, rfl, hr⟩, hb1⟩
  rcases hr with ⟨rfl, hr⟩ | ⟨n, rfl, hn, hr1, hr2⟩
  · have hd := drk_all hm hr
    rw [HX.out] at hd
    subst hd
    go_wp2_with fail
    go_ret
    exact ⟨rfl, hb1⟩
  · have hd := drk_rise hm hn hr1 hr2
    rw [HX.out] at hd
    have HD := Lib.hid hd; clear hd
    have hr3 : n = 0 → -14000 ≤ hgI s m 720 := fun e => by subst e; simpa using hr1
    have hs2 := HS.out n w1 hn hr3
    have hn0 : ¬ ((n : Int) < 0) := by omega
    clear hr1 hr2 hr3
    obtain ⟨v, hv⟩ : ∃ v : Int, (if n = 0 then (1440 : Int) else 1441 - n) = v := ⟨_, rfl⟩
    have hvb : 0 ≤ v ∧ v ≤ 1440 := by split at hv <;> omega
    rw [hv] at hs2
    have HS2 := Lib.hid hs2; clear hs2
    have HV2 := Lib.hid hv; clear hv
    go_wp2_with fail
    refine HS2.out.mono ?_
    rintro e w2 ⟨rfl, hb2⟩
    go_wp2_with fail
    go_ret
    have := HV2.out
    have h2 := HD.out
    refine ⟨ret_eq (int_eq ?_), hb1.trans (hb2.mono hb1.size)⟩
    split at this <;> split at h2 <;> omega
set_option maxHeartbeats 1000000 in
theorem l03Day_c (d : Int) (w : World) : Calls Tryz.prog 59 #[.int .i64 d] w fun e w' => e = .returned (.bool (inB d 0 99999)) ∧ w = w' := by
  go_enter Tryz.func59, Tryz.ntmps59
  go_wp2_with (go_at_call 58; refine (l00In_c _ _ _ _).mono ?_; rintro e w1 ⟨rfl, rfl⟩)
  go_ret
  exact ⟨rfl, rfl⟩
set_option maxRecDepth 100000 in
set_option maxHeartbeats 1000000 in
theorem l19Nights_c (lat fr cnt : Int) (w : World) (h : seaB lat fr cnt = true) : Calls Tryz.prog 36 #[.int .i64 lat, .int .i64 fr, .int .i64 cnt] w fun e w' => ∃ v, e = .returned v ∧ w'.ownsRow w.heap.size 2 1 v cnt.toNat ((drkL lat fr cnt.toNat).flatMap intC) ∧ Below w.heap.size w w' := by
  obtain ⟨p0, hp, hy0, hy1, hy2⟩ := info_parts intInfo
  simp only [seaB, Bool.and_eq_true, inB_iff] at h
  obtain ⟨⟨l0, l1⟩, ⟨c0, c1⟩, ⟨f0, f1⟩, ⟨g0, g1⟩⟩ := h
  obtain ⟨N, rfl⟩ : ∃ N : Nat, cnt = N := ⟨cnt.toNat, by omega⟩
  rw [Int.toNat_natCast]
  have hov := World.ownsRow_made (base := w.heap.size) (e := 2) (size := 1) w #[] 0 (Nat.le_refl _) (by simp [maxLen]) rfl
  have hb0 : Below w.heap.size w (w.alloc (.cells #[] 2)) := by (repeat (first | (with_reducible assumption) | (with_reducible exact Below.refl _ _) | exact Nat.le_refl _ | exact Below.size (by with_reducible assumption) | (with_reducible refine Below.drew ?_) | (with_reducible refine below_drewN ?_ _) | (with_reducible refine Below.alloc ?_ ?_ _) | (with_reducible refine Below.setCell ?_ ?_ _) | (with_reducible refine le_alloc ?_ _) | (with_reducible refine le_set ?_ _ _) | (with_reducible refine le_drew ?_) | (with_reducible refine le_drewN ?_ _) | omega | (dsimp only; omega)))
  have hD : ∀ (i : Int) w1, 0 ≤ i → i < N → Calls Tryz.prog 52 #[.int .i64 lat, .int .i64 (fr + i)] w1 fun e w' => e = .returned (.int .i64 (drkD lat (fr + i))) ∧ Below w1.heap.size w1 w' := fun i w1 a b => l04Dark_c lat _ w1 l0 l1 (by omega) (by omega)
  have HD := Lib.hid hD; clear hD
  go_enter Tryz.func36, Tryz.ntmps36
  go_wp2
  go_loopw [7, 8] (fun v i wr => ∃ k : Nat, k ≤ N ∧ i = .int .i64 k ∧ wr.ownsRow w.heap.size 2 1 v k ((drkL lat fr k).flatMap intC) ∧ Below w.heap.size w wr) (fun _ i _ => N - (intOf i).toNat)
  case atStart => exact ⟨0, Nat.zero_le _, rfl, hov, hb0⟩
  case round =>
    clear hov hb0
    obtain ⟨k, hk, rfl, hov, hbw⟩ := hrel
    obtain ⟨A1, c1', rfl⟩ := own_slice hov
    by_cases hlt : k < N
    · have hlt' : (k : Int) < N := by omega
      have hnx := drkL_next lat fr k
      have e63 : k + 1 ≤ maxLen := by unfold maxLen; omega
      have e32 : (k + 1) * 8 ≤ 140737488355328 := by omega
      have hd := HD.out k wr (by omega) hlt'
      generalize drkL lat fr k = L at *
      generalize drkD lat (fr + k) = q at *
      have HDk := Lib.hid hd; clear hd
      have Hnx := Lib.hid hnx; clear hnx
      have E63 := Lib.hid e63; clear e63
      have E32 := Lib.hid e32; clear e32
      go_wp2_with fail
      refine HDk.out.mono ?_
      rintro e w4 ⟨rfl, hb4⟩
      replace hov := own_next hov hb4
      replace hbw := hbw.trans (hb4.mono hbw.size)
      go_wp2_with (at_builtin; refine wpl_append _ rfl (.tmp 15) (.tmp 21) _ rfl (w.heap.size) 2 p0 _ 1 8 Tryz.underlying24 hp hy0 hy1 hy2 rfl (by omega) _ (k) _ rfl ((hov).alloc _) ((w4).heap.size + 1) (some ⟨(w4).heap.size, 0, none⟩) 1 1 (intC (q)) rfl (Sl.new (w4) 2 _ 1 1 rfl) (intC_one _) E63.out E32.out (le_alloc (hbw).size _) ?_; intro v2 w2 ho2 hg2 hat2)
      go_roundw
      case rel =>
        refine ⟨k + 1, by omega, by go_num, ?_, ?_⟩
        · rw [Hnx.out, List.flatMap_append]; simpa using ho2
        · exact (hbw.alloc hbw.size _).grown hg2 (le_alloc hbw.size _) fun g hg => (hov.lt g hg).1
      case measure => simp [intOf]; omega
    · obtain rfl : k = N := by omega
      go_wp2
      go_ret
      exact ⟨_, rfl, hov, hbw⟩
set_option maxRecDepth 100000 in
set_option maxHeartbeats 1000000 in
theorem l19Lasts_c (b : Nat) (s : St) (sh : Int) (A : Option Addr) (n c : Nat) (L : List Int) (w : World) (h : StP w b s) (ok : StOk s) (s1 : 0 ≤ sh) (s2 : sh ≤ 1000000) (hl : Sl w w.heap.size 1 A n (L.flatMap intC)) (hn : n ≤ 400) (hd : ∀ d ∈ L, 0 ≤ d ∧ d ≤ 1440) :
    Calls Tryz.prog 34 #[.pointer (some ⟨b, 0, none⟩), .int .i64 sh, .slice A n c] w fun e w' => e = .returned (.bool (lasB s sh L)) ∧ Below w.heap.size w w' := by
  have hlen := hl.len intC 1 intC_len (by omega)
  obtain ⟨c0, c1, c2, c3, c4, hbs⟩ := id h
  have hlas : lasB s sh L = (runE s sh L s.ba).isSome := rfl
  obtain ⟨R, hR⟩ : ∃ R, lasB s sh L = R := ⟨_, rfl⟩
  rw [hR]
  rw [hR] at hlas
  have hba1 := ok.b1
  have hba2 := ok.b2
  have HL := Lib.hid hlas; clear hlas
  have Hlen := Lib.hid hlen; clear hlen
  have Hd := Lib.hid hd; clear hd
  clear hR
  go_enter Tryz.func34, Tryz.ntmps34
  go_wp2
  go_loopw [7, 8] (fun v i wr => ∃ (k : Nat) (u : Int), k ≤ n ∧ i = .int .i64 k ∧ v = .int .i64 u ∧ 0 ≤ u ∧ u ≤ s.ba ∧ Hid (runE s sh (L.take k) s.ba = some u) ∧ Below w.heap.size w wr) (fun _ i _ => n - (intOf i).toNat)
  case atStart => exact ⟨0, s.ba, Nat.zero_le _, rfl, rfl, by omega, by omega, Lib.hid rfl, Below.refl _ _⟩
  case round =>
    obtain ⟨k, u, hk, rfl, rfl, hu0, hu1, Hu, hbw⟩ := hrel
    by_cases hlt : k < n
    · have hlt' : (k : Int) < n := by omega
      obtain ⟨bb, off, x, rfl, hbb, hx, cx⟩ := hl.int k hlt
      have q := keepC hbw bb hbb
      have hxm := Hd.out x (List.mem_of_getElem? hx)
      have hN := l19Next_c b s sh u x wr (h.next hbw) ok s1 s2 (by omega) (by omega) hxm.1 hxm.2
      have hnx : runE s sh (L.take (k + 1)) s.ba = (if nextI s sh u x < 0 then none else some (nextI s sh u x)) := by
        rw [List.take_add_one, hx, Option.toList_some, runE_next, Hu.out]; rfl
      have hst : nextI s sh u x < 0 → runE s sh L s.ba = none := fun hc => runE_stop Hu.out hx hc
      have hub : nextI s sh u x ≤ s.ba := by unfold nextI; omega
      generalize nextI s sh u x = V at *
      have HN := Lib.hid hN; clear hN
      have Hnx := Lib.hid hnx; clear hnx
      have Hst := Lib.hid hst; clear hst
      have Hx := Lib.hid hx; clear hx
      clear c0 c1 c2 c3 c4 hxm
      by_cases hc : V < 0
      · go_wp2_with fail
        refine HN.out.mono ?_
        rintro e w4 ⟨rfl, n4, rfl⟩
        go_wp2_with fail
        go_ret
        exact ⟨ret_eq (bool_eq (by rw [HL.out, Hst.out hc]; rfl)), below_drewN hbw _⟩
      · go_wp2_with fail
        refine HN.out.mono ?_
        rintro e w4 ⟨rfl, n4, rfl⟩
        go_wp2_with fail
        go_roundw
        case rel => exact ⟨k + 1, V, by omega, by go_num, rfl, by omega, hub, Lib.hid (by rw [Hnx.out, if_neg (by omega)]), below_drewN hbw _⟩
        case measure => simp [intOf]; omega
    · obtain rfl : k = n := by omega
      have hrl : R = true := by
        rw [HL.out]
        have := Hu.out
        rw [List.take_of_length_le (by rw [Hlen.out]; omega)] at this
        rw [this]; rfl
      subst hrl
      go_wp2
      go_ret
      exact ⟨rfl, hbw⟩
end Go.Proofs.YtpgcgmbjlecnpaaGreat
/- LastsThrough, LevelsOf, LeastBattery, LeastPanel: the reference. -/
namespace Go.Proofs.YtpgcgmbjlecnpaaGreat
open Go.RowKit
set_option maxRecDepth 100000 in
set_option maxHeartbeats 1000000 in
theorem l19Ask_c (b b2 : Nat) (s : St) (A : Option Addr) (n c : Nat) (x : Ch) (lat fr cnt : Int) (w : World) (h : StP w b s) (hc : ChP w b2 0 A n c x) :
    Calls Tryz.prog 33 #[.pointer (some ⟨b, 0, none⟩), .pointer (some ⟨b2, 0, none⟩), .int .i64 lat, .int .i64 fr, .int .i64 cnt] w fun e w' => e = .returned (.int .i64 (powK s x lat fr cnt)) ∧ Below w.heap.size w w' := by
  have hv : powK s x lat fr cnt = bif stB s && validB x then (bif (inB lat (-66) 66 && (inB cnt 1 400 && (inB fr 0 99999 && inB (fr + cnt - 1) 0 99999))) then 0 else 2) else 1 := rfl
  rw [hv]
  clear hv
  cases h1 : stB s
  · go_enter Tryz.func33, Tryz.ntmps33
    go_wp2_with fail
    refine (l19Ok_c b s _ h).mono ?_
    rintro e w1 ⟨rfl, rfl⟩
    rw [h1]
    go_wp2_with fail
    go_ret
    exact ⟨rfl, Below.refl _ _⟩
  cases h2 : validB x
  · go_enter Tryz.func33, Tryz.ntmps33
    go_wp2_with fail
    refine (l19Ok_c b s _ h).mono ?_
    rintro e w1 ⟨rfl, rfl⟩
    rw [h1]
    go_wp2_with (first | (go_at_call 54; refine (l05Ok_c _ _ _ _ _ x _ hc).mono ?_; rintro e w2 ⟨rfl, hb2⟩) | (go_at_call 58; refine (l00In_c _ _ _ _).mono ?_; rintro e w3 ⟨rfl, rfl⟩) | (go_at_call 59; refine (l03Day_c _ _).mono ?_; rintro e w4 ⟨rfl, rfl⟩))
    go_ret
    exact ⟨rfl, hb2⟩
  cases h3 : inB lat (-66) 66
  · go_enter Tryz.func33, Tryz.ntmps33
    go_wp2_with fail
    refine (l19Ok_c b s _ h).mono ?_
    rintro e w1 ⟨rfl, rfl⟩
    rw [h1]
    go_wp2_with (first | (go_at_call 54; refine (l05Ok_c _ _ _ _ _ x _ hc).mono ?_; rintro e w2 ⟨rfl, hb2⟩) | (go_at_call 58; refine (l00In_c _ _ _ _).mono ?_; rintro e w3 ⟨rfl, rfl⟩) | (go_at_call 59; refine (l03Day_c _ _).mono ?_; rintro e w4 ⟨rfl, rfl⟩))
    go_ret
    exact ⟨rfl, hb2⟩
  cases h4 : inB cnt 1 400
  · go_enter Tryz.func33, Tryz.ntmps33
    go_wp2_with fail
    refine (l19Ok_c b s _ h).mono ?_
    rintro e w1 ⟨rfl, rfl⟩
    rw [h1]
    go_wp2_with (first | (go_at_call 54; refine (l05Ok_c _ _ _ _ _ x _ hc).mono ?_; rintro e w2 ⟨rfl, hb2⟩) | (go_at_call 58; refine (l00In_c _ _ _ _).mono ?_; rintro e w3 ⟨rfl, rfl⟩) | (go_at_call 59; refine (l03Day_c _ _).mono ?_; rintro e w4 ⟨rfl, rfl⟩))
    go_ret
    exact ⟨rfl, hb2⟩
  cases h5 : inB fr 0 99999
  · go_enter Tryz.func33, Tryz.ntmps33
    go_wp2_with fail
    refine (l19Ok_c b s _ h).mono ?_
    rintro e w1 ⟨rfl, rfl⟩
    rw [h1]
    go_wp2_with (first | (go_at_call 54; refine (l05Ok_c _ _ _ _ _ x _ hc).mono ?_; rintro e w2 ⟨rfl, hb2⟩) | (go_at_call 58; refine (l00In_c _ _ _ _).mono ?_; rintro e w3 ⟨rfl, rfl⟩) | (go_at_call 59; refine (l03Day_c _ _).mono ?_; rintro e w4 ⟨rfl, rfl⟩))
    go_ret
    exact ⟨rfl, hb2⟩
  obtain ⟨u1, u2⟩ := inB_iff.1 h4
  obtain ⟨u3, u4⟩ := inB_iff.1 h5
  cases h6 : inB (fr + cnt - 1) 0 99999
  · go_enter Tryz.func33, Tryz.ntmps33
    go_wp2_with fail
    refine (l19Ok_c b s _ h).mono ?_
    rintro e w1 ⟨rfl, rfl⟩
    rw [h1]
    go_wp2_with (first | (go_at_call 54; refine (l05Ok_c _ _ _ _ _ x _ hc).mono ?_; rintro e w2 ⟨rfl, hb2⟩) | (go_at_call 58; refine (l00In_c _ _ _ _).mono ?_; rintro e w3 ⟨rfl, rfl⟩) | (go_at_call 59; refine (l03Day_c _ _).mono ?_; rintro e w4 ⟨rfl, rfl⟩))
    go_ret
    exact ⟨rfl, hb2⟩
  · go_enter Tryz.func33, Tryz.ntmps33
    go_wp2_with fail
    refine (l19Ok_c b s _ h).mono ?_
    rintro e w1 ⟨rfl, rfl⟩
    rw [h1]
    go_wp2_with (first | (go_at_call 54; refine (l05Ok_c _ _ _ _ _ x _ hc).mono ?_; rintro e w2 ⟨rfl, hb2⟩) | (go_at_call 58; refine (l00In_c _ _ _ _).mono ?_; rintro e w3 ⟨rfl, rfl⟩) | (go_at_call 59; refine (l03Day_c _ _).mono ?_; rintro e w4 ⟨rfl, rfl⟩))
    go_ret
    exact ⟨rfl, hb2⟩
theorem pow_ok {s : St} {x : Ch} {lat fr cnt : Int} (h : powK s x lat fr cnt = 0) : stB s = true ∧ validB x = true ∧ seaB lat fr cnt = true := by
  unfold powK okSC at h
  cases h1 : stB s <;> cases h2 : validB x <;> cases h3 : seaB lat fr cnt <;> simp_all
theorem pow_no {s : St} {x : Ch} {lat fr cnt : Int} (h : powK s x lat fr cnt ≠ 0) : (okSC s x && seaB lat fr cnt) = false := by
  unfold powK at h
  cases h1 : okSC s x <;> cases h3 : seaB lat fr cnt <;> simp_all
set_option maxRecDepth 100000 in
set_option maxHeartbeats 1000000 in
theorem specLasts_c (s : St) (A : Option Addr) (n c : Nat) (x : Ch) (w : World) (sl : Sl w w.heap.size 1 A n (x.gs.flatMap intC)) (hn : n ≤ 1048576) (hlz : x.l.size ≤ 1048576) (hs : x.cs.size ≤ 1048576) (lat fr cnt : Int) :
    Calls Tryz.prog 9 #[stV s, chV x.k A n c x.l x.cs x.p, .int .i64 lat, .int .i64 fr, .int .i64 cnt] w fun e w' => e = .returned (.bool (lasV s x lat fr cnt)) ∧ Below w.heap.size w w' := by
  obtain ⟨V, hV⟩ : ∃ V, lasV s x lat fr cnt = V := ⟨_, rfl⟩
  obtain ⟨k, hk⟩ : ∃ k, powK s x lat fr cnt = k := ⟨_, rfl⟩
  rw [hV]
  by_cases hk0 : k = 0
  · obtain ⟨o1, o2, o3⟩ := pow_ok (hk.trans hk0)
    have ok := stB_ok o1
    obtain ⟨sh1, sh2⟩ := share_bd o2
    have hV2 : lasB s (shareI x) (drkL lat fr cnt.toNat) = V := by rw [← hV, lasV, okSC, o1, o2, o3]; rfl
    have hcn : cnt.toNat ≤ 400 := by
      simp only [seaB, Bool.and_eq_true, inB_iff] at o3; omega
    subst hk0
    have HV := Lib.hid hV; clear hV
    have Hk := Lib.hid hk; clear hk
    have HV2 := Lib.hid hV2; clear hV2
    obtain ⟨hSt, hCh, hb0⟩ := two_box (s := s) (c := c) 29 31 sl hn hlz hs
    have hK : ∀ w1, Below ((w.alloc (stO s 29)).alloc (chO x A n c 31)).heap.size ((w.alloc (stO s 29)).alloc (chO x A n c 31)) w1 → _ := fun w1 hb => l19Ask_c w.heap.size (w.heap.size + 1) s A n c x lat fr cnt w1 (hSt.next hb) (hCh.next hb)
    have HK := Lib.hid hK; clear hK
    go_enter Tryz.func9, Tryz.ntmps9
    go_wp2_with fail
    generalize (w.alloc (.cells #[.int .i64 s.la, .int .i64 s.sb, .int .i64 s.ba, .int .i64 s.pa, .int .i64 s.sh] 29)).alloc (.cells #[.int .i64 x.k, .slice A n c, .string x.l, .string x.cs, .int .i64 x.p] 31) = w0 at *
    refine (HK.out _ (Below.refl _ _)).mono ?_
    rintro e w1 ⟨rfl, hb1⟩
    have hSt1 := hSt.next hb1
    have hCh1 := hCh.next hb1
    replace hb0 := hb0.trans (hb1.mono hb0.size)
    clear HK hSt hCh hb1
    rw [Hk.out]
    go_wp2_with fail
    refine (l19Share_c _ _ _ _ _ x _ hCh1 o2).mono ?_
    rintro e w2 ⟨rfl, hb2⟩
    have hSt2 := hSt1.next hb2
    replace hb0 := hb0.trans (hb2.mono hb0.size)
    go_wp2_with fail
    refine (l19Nights_c lat fr cnt _ o3).mono ?_
    rintro e w3 ⟨v, rfl, hov, hb3⟩
    have hSt3 := hSt2.next hb3
    obtain ⟨A3, c3, rfl⟩ := own_slice hov
    replace hb0 := hb0.trans (hb3.mono hb0.size)
    go_wp2_with fail
    have hz := l19Lasts_c _ s (shareI x) A3 cnt.toNat c3 _ _ hSt3 ok sh1 sh2 (Sl.of_own hov) hcn (fun d hd => drkL_mem hd)
    rw [HV2.out] at hz
    refine hz.mono ?_
    rintro e w4 ⟨rfl, hb4⟩
    go_wp2_with fail
    go_ret
    exact ⟨rfl, hb0.trans (hb4.mono hb0.size)⟩
  · have hno := pow_no (s := s) (x := x) (lat := lat) (fr := fr) (cnt := cnt) (by rw [hk]; exact hk0)
    have hVf : V = false := by
      rw [← hV, lasV, ← Bool.and_assoc, hno]; rfl
    subst hVf
    have HV := Lib.hid hV; clear hV
    have Hk := Lib.hid hk; clear hk
    have Hno := Lib.hid hno; clear hno
    obtain ⟨hSt, hCh, hb0⟩ := two_box (s := s) (c := c) 29 31 sl hn hlz hs
    have hK : ∀ w1, Below ((w.alloc (stO s 29)).alloc (chO x A n c 31)).heap.size ((w.alloc (stO s 29)).alloc (chO x A n c 31)) w1 → _ := fun w1 hb => l19Ask_c w.heap.size (w.heap.size + 1) s A n c x lat fr cnt w1 (hSt.next hb) (hCh.next hb)
    have HK := Lib.hid hK; clear hK
    go_enter Tryz.func9, Tryz.ntmps9
    go_wp2_with fail
    generalize (w.alloc (.cells #[.int .i64 s.la, .int .i64 s.sb, .int .i64 s.ba, .int .i64 s.pa, .int .i64 s.sh] 29)).alloc (.cells #[.int .i64 x.k, .slice A n c, .string x.l, .string x.cs, .int .i64 x.p] 31) = w0 at *
    refine (HK.out _ (Below.refl _ _)).mono ?_
    rintro e w1 ⟨rfl, hb1⟩
    have hSt1 := hSt.next hb1
    have hCh1 := hCh.next hb1
    replace hb0 := hb0.trans (hb1.mono hb0.size)
    clear HK hSt hCh hb1
    rw [Hk.out]
    have hkb : (k == 0) = false := by simpa using hk0
    go_wp2_with fail
    go_ret
    exact ⟨rfl, hb0⟩
end Go.Proofs.YtpgcgmbjlecnpaaGreat
/- LevelsOf, LeastBattery, LeastPanel, DarkMinutes: the reference. -/
namespace Go.Proofs.YtpgcgmbjlecnpaaGreat
open Go.RowKit
theorem stp_ba {w : World} {b : Nat} {s : St} (h : StP w b s) (n : Int) : StP (w.setCell ⟨b, 2, none⟩ (.int .i64 n)) b (withBa s n) :=
  ⟨(World.cell?_setCell_other _ _ _ _ (by simp)).trans h.c0, (World.cell?_setCell_other _ _ _ _ (by simp)).trans h.c1, World.cell?_setCell_same _ _ _ h.c2, (World.cell?_setCell_other _ _ _ _ (by simp)).trans h.c3, (World.cell?_setCell_other _ _ _ _ (by simp)).trans h.c4, by simpa using h.hb⟩
theorem stp_pa {w : World} {b : Nat} {s : St} (h : StP w b s) (n : Int) : StP (w.setCell ⟨b, 3, none⟩ (.int .i64 n)) b (withPa s n) :=
  ⟨(World.cell?_setCell_other _ _ _ _ (by simp)).trans h.c0, (World.cell?_setCell_other _ _ _ _ (by simp)).trans h.c1, (World.cell?_setCell_other _ _ _ _ (by simp)).trans h.c2, World.cell?_setCell_same _ _ _ h.c3, (World.cell?_setCell_other _ _ _ _ (by simp)).trans h.c4, by simpa using h.hb⟩
theorem ok_ba {s : St} (h : StOk s) {n : Int} (a : 1 ≤ n) (b : n ≤ 100000000) : StOk (withBa s n) := ⟨h.l1, h.l2, h.s1, h.s2, a, b, h.p1, h.p2, h.h1, h.h2⟩
theorem ok_pa {s : St} (h : StOk s) {n : Int} (a : 0 ≤ n) (b : n ≤ 1000000) : StOk (withPa s n) := ⟨h.l1, h.l2, h.s1, h.s2, h.b1, h.b2, a, b, h.h1, h.h2⟩
theorem fz_two {w : World} (s : St) (c : Array Value) (E1 E2 : TypeId) (i : Nat) : ((w.alloc (stO s E1)).alloc (.cells c E2)).frozen? ⟨w.heap.size, i, none⟩ = false := by simp [go_sem]
set_option maxRecDepth 100000 in
set_option maxHeartbeats 1000000 in
theorem specBat_c (s : St) (A : Option Addr) (n c : Nat) (x : Ch) (w : World) (sl : Sl w w.heap.size 1 A n (x.gs.flatMap intC)) (hn : n ≤ 1048576) (hlz : x.l.size ≤ 1048576) (hs : x.cs.size ≤ 1048576) (lat fr cnt : Int) :
    Calls Tryz.prog 20 #[stV s, chV x.k A n c x.l x.cs x.p, .int .i64 lat, .int .i64 fr, .int .i64 cnt] w fun e w' => e = .returned (.tuple #[.int .i64 (batV s x lat fr cnt), .int .i64 (batK s x lat fr cnt)]) ∧ Below w.heap.size w w' := by
  obtain ⟨k, hk⟩ : ∃ k, powK s x lat fr cnt = k := ⟨_, rfl⟩
  by_cases hk0 : k = 0
  · obtain ⟨o1, o2, o3⟩ := pow_ok (hk.trans hk0)
    have ok := stB_ok o1
    obtain ⟨sh1, sh2⟩ := share_bd o2
    have hV2 : batV s x lat fr cnt = leaV (batP s x lat fr cnt) 1 100000000 := by rw [batV, okSC, o1, o2, o3]; rfl
    have hK2 : batK s x lat fr cnt = leaK (batP s x lat fr cnt) 100000000 := by rw [batK, okSC, o1, o2, o3]; rfl
    rw [hV2, hK2]
    have hcn : cnt.toNat ≤ 400 := by
      simp only [seaB, Bool.and_eq_true, inB_iff] at o3; omega
    have hmono : ∀ a b, 1 ≤ a → a ≤ b → b ≤ 100000000 → batP s x lat fr cnt a = true → batP s x lat fr cnt b = true := fun a b _ h _ hp => las_ba (fun d hd => drkL_mem hd) h hp
    have hPd : ∀ m, lasB (withBa s m) (shareI x) (drkL lat fr cnt.toNat) = batP s x lat fr cnt m := fun _ => rfl
    subst hk0
    clear hV2 hK2
    generalize hPg : batP s x lat fr cnt = p at *
    have Hk := Lib.hid hk; clear hk
    have HPd := Lib.hid hPd; clear hPd
    have HM := Lib.hid hmono; clear hmono
    clear hPg
    obtain ⟨RV, hRV⟩ : ∃ RV, leaV p 1 100000000 = RV := ⟨_, rfl⟩
    obtain ⟨RK, hRK⟩ : ∃ RK, leaK p 100000000 = RK := ⟨_, rfl⟩
    rw [hRV, hRK]
    have HRV := Lib.hid hRV; clear hRV
    have HRK := Lib.hid hRK; clear hRK
    have hfz := fz_two (w := w) s #[.int .i64 x.k, .slice A n c, .string x.l, .string x.cs, .int .i64 x.p] 29 31
    obtain ⟨hSt, hCh, hb0⟩ := two_box (s := s) (c := c) 29 31 sl hn hlz hs
    have hK : ∀ w1, Below ((w.alloc (stO s 29)).alloc (chO x A n c 31)).heap.size ((w.alloc (stO s 29)).alloc (chO x A n c 31)) w1 → _ := fun w1 hb => l19Ask_c w.heap.size (w.heap.size + 1) s A n c x lat fr cnt w1 (hSt.next hb) (hCh.next hb)
    have HK := Lib.hid hK; clear hK
    go_enter Tryz.func20, Tryz.ntmps20
    go_wp2_with fail
    generalize (w.alloc (.cells #[.int .i64 s.la, .int .i64 s.sb, .int .i64 s.ba, .int .i64 s.pa, .int .i64 s.sh] 29)).alloc (.cells #[.int .i64 x.k, .slice A n c, .string x.l, .string x.cs, .int .i64 x.p] 31) = w0 at *
    refine (HK.out _ (Below.refl _ _)).mono ?_
    rintro e w1 ⟨rfl, hb1⟩
    have hfz1 : ∀ i, w1.frozen? ⟨w.heap.size, i, none⟩ = false := fun i => (keepF hb1 _ hSt.hb i).trans (hfz i)
    have hSt1 := hSt.next hb1
    have hCh1 := hCh.next hb1
    replace hb0 := hb0.trans (hb1.mono hb0.size)
    clear HK hSt hCh hb1 hfz
    rw [Hk.out]
    go_wp2_with fail
    refine (l19Share_c _ _ _ _ _ x _ hCh1 o2).mono ?_
    rintro e w2 ⟨rfl, hb2⟩
    have hSt2 := hSt1.next hb2
    have hfz2 : ∀ i, w2.frozen? ⟨w.heap.size, i, none⟩ = false := fun i => (keepF hb2 _ hSt1.hb i).trans (hfz1 i)
    replace hb0 := hb0.trans (hb2.mono hb0.size)
    clear hfz1 hSt1 hCh1
    go_wp2_with fail
    refine (l19Nights_c lat fr cnt _ o3).mono ?_
    rintro e w3 ⟨v, rfl, hov, hb3⟩
    have hSt3 := hSt2.next hb3
    have hfz3 : ∀ i, w3.frozen? ⟨w.heap.size, i, none⟩ = false := fun i => (keepF hb3 _ hSt2.hb i).trans (hfz2 i)
    obtain ⟨A3, c3, rfl⟩ := own_slice hov
    replace hb0 := hb0.trans (hb3.mono hb0.size)
    have hbb := hSt2.hb
    have hLm : ∀ d ∈ drkL lat fr cnt.toNat, 0 ≤ d ∧ d ≤ 1440 := fun d hd => drkL_mem hd
    clear hfz2 hSt2 hb2 hb3
    obtain ⟨g2, hg2⟩ : ∃ g, w2.heap.size = g := ⟨_, rfl⟩
    rw [hg2] at hov hbb
    clear hg2
    generalize drkL lat fr cnt.toNat = L at *
    generalize shareI x = sh at *
    generalize cnt.toNat = N at *
    have hX : ∃ u : Int, 0 ≤ u ∧ StP w3 w.heap.size s := ⟨0, Int.le_refl _, hSt3⟩
    go_wp2_with fail
    go_loopw [15, 16] (fun y z wr => ∃ (lo hi : Int) (s' : St), y = .int .i64 lo ∧ z = .int .i64 hi ∧ 0 ≤ lo ∧ lo < hi ∧ hi ≤ 100000001 ∧ (lo = 0 ∨ p lo = false) ∧ (hi = 100000001 ∨ p hi = true) ∧ StP wr w.heap.size s' ∧ (∀ m, withBa s' m = withBa s m) ∧ (∀ i, wr.frozen? ⟨w.heap.size, i, none⟩ = false) ∧ wr.ownsRow g2 2 1 (.slice A3 N c3) N (L.flatMap intC) ∧ Below w.heap.size w wr) (fun y z _ => (intOf z - intOf y).toNat)
    case atStart => exact ⟨0, 100000001, s, rfl, rfl, by omega, by omega, by omega, .inl rfl, .inl rfl, hSt3, fun _ => rfl, hfz3, hov, hb0⟩
    case round =>
      clear hSt3 hfz3 hov hb0 hX
      obtain ⟨lo, hi, s', rfl, rfl, hl0, hlh, hh0, hlo, hhi, hSt, hsw, hfz, hov, hb0⟩ := hrel
      by_cases hlt : 1 < hi - lo
      · obtain ⟨M, hM⟩ : ∃ M, (lo + hi) / 2 = M := ⟨_, rfl⟩
        have hM1 : lo < M := by omega
        have hM2 : M < hi := by omega
        have e1 : (lo + hi).tdiv 2 = M := by rw [Int.tdiv_eq_ediv_of_nonneg (by omega)]; exact hM
        have e2 : IntKind.i64.wrap M = M := IntWalk.i64_in _ (by omega)
        have hStn := stp_ba hSt M
        rw [hsw M] at hStn
        have hov2 := ownsRow_setCell_below hov (a := ⟨w.heap.size, 2, none⟩) hbb (.int .i64 M)
        have hb2 : Below w.heap.size w (wr.setCell ⟨w.heap.size, 2, none⟩ (.int .i64 M)) := hb0.setCell (p := ⟨w.heap.size, 2, none⟩) (Nat.le_refl _) _
        have hfn : ∀ i, (wr.setCell ⟨w.heap.size, 2, none⟩ (.int .i64 M)).frozen? ⟨w.heap.size, i, none⟩ = false := fun i => by rw [World.frozen?_setCell]; exact hfz i
        obtain ⟨cc0, cc1, cc2, cc3, cc4, hbs⟩ := hSt
        have hfo := hfz 2
        clear hM
        have Hfz := Lib.hid hfz; clear hfz
        have Hfn := Lib.hid hfn; clear hfn
        have Hlo := Lib.hid hlo; clear hlo
        have Hhi := Lib.hid hhi; clear hhi
        have Hsw := Lib.hid hsw; clear hsw
        go_wp2_with fail
        generalize wr.setCell ⟨w.heap.size, 2, none⟩ (.int .i64 M) = w5 at *
        have hz := l19Lasts_c _ (withBa s M) sh A3 N c3 L _ hStn (ok_ba ok (by omega) (by omega)) sh1 sh2 (Sl.of_own hov2) hcn hLm
        rw [HPd.out] at hz
        refine hz.mono ?_
        rintro e w4 ⟨rfl, hb4⟩
        have hStm := hStn.next hb4
        have hovm := own_next hov2 hb4
        have hfm : ∀ i, w4.frozen? ⟨w.heap.size, i, none⟩ = false := fun i => (keepF hb4 _ hStn.hb i).trans (Hfn.out i)
        replace hb2 := hb2.trans (hb4.mono hb2.size)
        have hHm := Lib.hid hfm
        clear hb4 hz hStn hov2 hov cc0 cc1 cc2 cc3 cc4 hbs hfm hb0 hfo
        cases hp : p M
        · go_wp2_with fail
          go_roundw
          case rel => exact ⟨M, hi, withBa s M, rfl, rfl, by omega, by omega, hh0, .inr hp, Hhi.out, hStm, fun _ => rfl, hHm.out, hovm, hb2⟩
          case measure => simp [intOf]; omega
        · go_wp2_with fail
          go_roundw
          case rel => exact ⟨lo, M, withBa s M, rfl, rfl, hl0, by omega, by omega, Hlo.out, .inr hp, hStm, fun _ => rfl, hHm.out, hovm, hb2⟩
          case measure => simp [intOf]; omega
      · obtain rfl : hi = lo + 1 := by omega
        have Hsw := Lib.hid hsw; clear hsw
        have Hfz := Lib.hid hfz; clear hfz
        by_cases hmx : 100000000 < lo + 1
        · have hl : p 100000000 = false := by
            rcases hlo with h | h
            · omega
            · rwa [show lo = 100000000 by omega] at h
          obtain ⟨v1, v2⟩ := lea_none (lo := 1) hl
          rw [HRV.out] at v1
          rw [HRK.out] at v2
          subst v1 v2
          go_wp2_with fail
          go_ret2
          exact ⟨rfl, hb0⟩
        · have hr : p (lo + 1) = true := by
            rcases hhi with h | h
            · omega
            · exact h
          obtain ⟨v1, v2⟩ := lea_found HM.out (by omega) (by omega) hr (by
            rcases hlo with h | h
            · exact .inl (by omega)
            · exact .inr (by rwa [show lo + 1 - 1 = lo by omega]))
          rw [HRV.out] at v1
          rw [HRK.out] at v2
          subst v1 v2
          go_wp2_with fail
          go_ret2
          exact ⟨rfl, hb0⟩
  · have hno := pow_no (s := s) (x := x) (lat := lat) (fr := fr) (cnt := cnt) (by rw [hk]; exact hk0)
    have hV2 : batV s x lat fr cnt = 0 := by rw [batV, hno]; rfl
    have hK2 : batK s x lat fr cnt = k := by rw [batK, hno, ← hk]; rfl
    rw [hV2, hK2]
    have HV2 := Lib.hid hV2; clear hV2
    have HK2 := Lib.hid hK2; clear hK2
    have Hk := Lib.hid hk; clear hk
    have Hno := Lib.hid hno; clear hno
    obtain ⟨hSt, hCh, hb0⟩ := two_box (s := s) (c := c) 29 31 sl hn hlz hs
    have hK : ∀ w1, Below ((w.alloc (stO s 29)).alloc (chO x A n c 31)).heap.size ((w.alloc (stO s 29)).alloc (chO x A n c 31)) w1 → _ := fun w1 hb => l19Ask_c w.heap.size (w.heap.size + 1) s A n c x lat fr cnt w1 (hSt.next hb) (hCh.next hb)
    have HK := Lib.hid hK; clear hK
    go_enter Tryz.func20, Tryz.ntmps20
    go_wp2_with fail
    generalize (w.alloc (.cells #[.int .i64 s.la, .int .i64 s.sb, .int .i64 s.ba, .int .i64 s.pa, .int .i64 s.sh] 29)).alloc (.cells #[.int .i64 x.k, .slice A n c, .string x.l, .string x.cs, .int .i64 x.p] 31) = w0 at *
    refine (HK.out _ (Below.refl _ _)).mono ?_
    rintro e w1 ⟨rfl, hb1⟩
    have hSt1 := hSt.next hb1
    have hCh1 := hCh.next hb1
    replace hb0 := hb0.trans (hb1.mono hb0.size)
    clear HK hSt hCh hb1
    rw [Hk.out]
    have hkb : (k == 0) = false := by simpa using hk0
    go_wp2_with fail
    go_ret2
    exact ⟨rfl, hb0⟩
set_option maxRecDepth 100000 in
set_option maxHeartbeats 1000000 in
theorem specPan_c (s : St) (A : Option Addr) (n c : Nat) (x : Ch) (w : World) (sl : Sl w w.heap.size 1 A n (x.gs.flatMap intC)) (hn : n ≤ 1048576) (hlz : x.l.size ≤ 1048576) (hs : x.cs.size ≤ 1048576) (lat fr cnt : Int) :
    Calls Tryz.prog 22 #[stV s, chV x.k A n c x.l x.cs x.p, .int .i64 lat, .int .i64 fr, .int .i64 cnt] w fun e w' => e = .returned (.tuple #[.int .i64 (panV s x lat fr cnt), .int .i64 (panK s x lat fr cnt)]) ∧ Below w.heap.size w w' := by
  obtain ⟨k, hk⟩ : ∃ k, powK s x lat fr cnt = k := ⟨_, rfl⟩
  by_cases hk0 : k = 0
  · obtain ⟨o1, o2, o3⟩ := pow_ok (hk.trans hk0)
    have ok := stB_ok o1
    obtain ⟨sh1, sh2⟩ := share_bd o2
    have hV2 : panV s x lat fr cnt = leaV (panP s x lat fr cnt) 0 1000000 := by rw [panV, okSC, o1, o2, o3]; rfl
    have hK2 : panK s x lat fr cnt = leaK (panP s x lat fr cnt) 1000000 := by rw [panK, okSC, o1, o2, o3]; rfl
    rw [hV2, hK2]
    have hcn : cnt.toNat ≤ 400 := by
      simp only [seaB, Bool.and_eq_true, inB_iff] at o3; omega
    have hmono : ∀ a b, 0 ≤ a → a ≤ b → b ≤ 1000000 → panP s x lat fr cnt a = true → panP s x lat fr cnt b = true := fun a b _ h _ hp => las_pa ok.h1 (fun d hd => drkL_mem hd) h hp
    have hPd : ∀ m, lasB (withPa s m) (shareI x) (drkL lat fr cnt.toNat) = panP s x lat fr cnt m := fun _ => rfl
    subst hk0
    clear hV2 hK2
    generalize hPg : panP s x lat fr cnt = p at *
    have Hk := Lib.hid hk; clear hk
    have HPd := Lib.hid hPd; clear hPd
    have HM := Lib.hid hmono; clear hmono
    clear hPg
    obtain ⟨RV, hRV⟩ : ∃ RV, leaV p 0 1000000 = RV := ⟨_, rfl⟩
    obtain ⟨RK, hRK⟩ : ∃ RK, leaK p 1000000 = RK := ⟨_, rfl⟩
    rw [hRV, hRK]
    have HRV := Lib.hid hRV; clear hRV
    have HRK := Lib.hid hRK; clear hRK
    have hfz := fz_two (w := w) s #[.int .i64 x.k, .slice A n c, .string x.l, .string x.cs, .int .i64 x.p] 29 31
    obtain ⟨hSt, hCh, hb0⟩ := two_box (s := s) (c := c) 29 31 sl hn hlz hs
    have hK : ∀ w1, Below ((w.alloc (stO s 29)).alloc (chO x A n c 31)).heap.size ((w.alloc (stO s 29)).alloc (chO x A n c 31)) w1 → _ := fun w1 hb => l19Ask_c w.heap.size (w.heap.size + 1) s A n c x lat fr cnt w1 (hSt.next hb) (hCh.next hb)
    have HK := Lib.hid hK; clear hK
    go_enter Tryz.func22, Tryz.ntmps22
    go_wp2_with fail
    generalize (w.alloc (.cells #[.int .i64 s.la, .int .i64 s.sb, .int .i64 s.ba, .int .i64 s.pa, .int .i64 s.sh] 29)).alloc (.cells #[.int .i64 x.k, .slice A n c, .string x.l, .string x.cs, .int .i64 x.p] 31) = w0 at *
    refine (HK.out _ (Below.refl _ _)).mono ?_
    rintro e w1 ⟨rfl, hb1⟩
    have hfz1 : ∀ i, w1.frozen? ⟨w.heap.size, i, none⟩ = false := fun i => (keepF hb1 _ hSt.hb i).trans (hfz i)
    have hSt1 := hSt.next hb1
    have hCh1 := hCh.next hb1
    replace hb0 := hb0.trans (hb1.mono hb0.size)
    clear HK hSt hCh hb1 hfz
    rw [Hk.out]
    go_wp2_with fail
    refine (l19Share_c _ _ _ _ _ x _ hCh1 o2).mono ?_
    rintro e w2 ⟨rfl, hb2⟩
    have hSt2 := hSt1.next hb2
    have hfz2 : ∀ i, w2.frozen? ⟨w.heap.size, i, none⟩ = false := fun i => (keepF hb2 _ hSt1.hb i).trans (hfz1 i)
    replace hb0 := hb0.trans (hb2.mono hb0.size)
    clear hfz1 hSt1 hCh1
    go_wp2_with fail
    refine (l19Nights_c lat fr cnt _ o3).mono ?_
    rintro e w3 ⟨v, rfl, hov, hb3⟩
    have hSt3 := hSt2.next hb3
    have hfz3 : ∀ i, w3.frozen? ⟨w.heap.size, i, none⟩ = false := fun i => (keepF hb3 _ hSt2.hb i).trans (hfz2 i)
    obtain ⟨A3, c3, rfl⟩ := own_slice hov
    replace hb0 := hb0.trans (hb3.mono hb0.size)
    have hbb := hSt2.hb
    have hLm : ∀ d ∈ drkL lat fr cnt.toNat, 0 ≤ d ∧ d ≤ 1440 := fun d hd => drkL_mem hd
    clear hfz2 hSt2 hb2 hb3
    obtain ⟨g2, hg2⟩ : ∃ g, w2.heap.size = g := ⟨_, rfl⟩
    rw [hg2] at hov hbb
    clear hg2
    generalize drkL lat fr cnt.toNat = L at *
    generalize shareI x = sh at *
    generalize cnt.toNat = N at *
    have hX : ∃ u : Int, (-1) ≤ u ∧ StP w3 w.heap.size s := ⟨(-1), Int.le_refl _, hSt3⟩
    go_wp2_with fail
    go_loopw [15, 16] (fun y z wr => ∃ (lo hi : Int) (s' : St), y = .int .i64 lo ∧ z = .int .i64 hi ∧ (-1) ≤ lo ∧ lo < hi ∧ hi ≤ 1000001 ∧ (lo = (-1) ∨ p lo = false) ∧ (hi = 1000001 ∨ p hi = true) ∧ StP wr w.heap.size s' ∧ (∀ m, withPa s' m = withPa s m) ∧ (∀ i, wr.frozen? ⟨w.heap.size, i, none⟩ = false) ∧ wr.ownsRow g2 2 1 (.slice A3 N c3) N (L.flatMap intC) ∧ Below w.heap.size w wr) (fun y z _ => (intOf z - intOf y).toNat)
    case atStart => exact ⟨(-1), 1000001, s, rfl, rfl, by omega, by omega, by omega, .inl rfl, .inl rfl, hSt3, fun _ => rfl, hfz3, hov, hb0⟩
    case round =>
      clear hSt3 hfz3 hov hb0 hX
      obtain ⟨lo, hi, s', rfl, rfl, hl0, hlh, hh0, hlo, hhi, hSt, hsw, hfz, hov, hb0⟩ := hrel
      by_cases hlt : 1 < hi - lo
      · obtain ⟨M, hM⟩ : ∃ M, (lo + hi) / 2 = M := ⟨_, rfl⟩
        have hM1 : lo < M := by omega
        have hM2 : M < hi := by omega
        have e1 : (lo + hi).tdiv 2 = M := by rw [Int.tdiv_eq_ediv_of_nonneg (by omega)]; exact hM
        have e2 : IntKind.i64.wrap M = M := IntWalk.i64_in _ (by omega)
        have hStn := stp_pa hSt M
        rw [hsw M] at hStn
        have hov2 := ownsRow_setCell_below hov (a := ⟨w.heap.size, 3, none⟩) hbb (.int .i64 M)
        have hb2 : Below w.heap.size w (wr.setCell ⟨w.heap.size, 3, none⟩ (.int .i64 M)) := hb0.setCell (p := ⟨w.heap.size, 3, none⟩) (Nat.le_refl _) _
        have hfn : ∀ i, (wr.setCell ⟨w.heap.size, 3, none⟩ (.int .i64 M)).frozen? ⟨w.heap.size, i, none⟩ = false := fun i => by rw [World.frozen?_setCell]; exact hfz i
        obtain ⟨cc0, cc1, cc2, cc3, cc4, hbs⟩ := hSt
        have hfo := hfz 3
        clear hM
        have Hfz := Lib.hid hfz; clear hfz
        have Hfn := Lib.hid hfn; clear hfn
        have Hlo := Lib.hid hlo; clear hlo
        have Hhi := Lib.hid hhi; clear hhi
        have Hsw := Lib.hid hsw; clear hsw
        go_wp2_with fail
        generalize wr.setCell ⟨w.heap.size, 3, none⟩ (.int .i64 M) = w5 at *
        have hz := l19Lasts_c _ (withPa s M) sh A3 N c3 L _ hStn (ok_pa ok (by omega) (by omega)) sh1 sh2 (Sl.of_own hov2) hcn hLm
        rw [HPd.out] at hz
        refine hz.mono ?_
        rintro e w4 ⟨rfl, hb4⟩
        have hStm := hStn.next hb4
        have hovm := own_next hov2 hb4
        have hfm : ∀ i, w4.frozen? ⟨w.heap.size, i, none⟩ = false := fun i => (keepF hb4 _ hStn.hb i).trans (Hfn.out i)
        replace hb2 := hb2.trans (hb4.mono hb2.size)
        have hHm := Lib.hid hfm
        clear hb4 hz hStn hov2 hov cc0 cc1 cc2 cc3 cc4 hbs hfm hb0 hfo
        cases hp : p M
        · go_wp2_with fail
          go_roundw
          case rel => exact ⟨M, hi, withPa s M, rfl, rfl, by omega, by omega, hh0, .inr hp, Hhi.out, hStm, fun _ => rfl, hHm.out, hovm, hb2⟩
          case measure => simp [intOf]; omega
        · go_wp2_with fail
          go_roundw
          case rel => exact ⟨lo, M, withPa s M, rfl, rfl, hl0, by omega, by omega, Hlo.out, .inr hp, hStm, fun _ => rfl, hHm.out, hovm, hb2⟩
          case measure => simp [intOf]; omega
      · obtain rfl : hi = lo + 1 := by omega
        have Hsw := Lib.hid hsw; clear hsw
        have Hfz := Lib.hid hfz; clear hfz
        by_cases hmx : 1000000 < lo + 1
        · have hl : p 1000000 = false := by
            rcases hlo with h | h
            · omega
            · rwa [show lo = 1000000 by omega] at h
          obtain ⟨v1, v2⟩ := lea_none (lo := 0) hl
          rw [HRV.out] at v1
          rw [HRK.out] at v2
          subst v1 v2
          go_wp2_with fail
          go_ret2
          exact ⟨rfl, hb0⟩
        · have hr : p (lo + 1) = true := by
            rcases hhi with h | h
            · omega
            · exact h
          obtain ⟨v1, v2⟩ := lea_found HM.out (by omega) (by omega) hr (by
            rcases hlo with h | h
            · exact .inl (by omega)
            · exact .inr (by rwa [show lo + 1 - 1 = lo by omega]))
          rw [HRV.out] at v1
          rw [HRK.out] at v2
          subst v1 v2
          go_wp2_with fail
          go_ret2
          exact ⟨rfl, hb0⟩
  · have hno := pow_no (s := s) (x := x) (lat := lat) (fr := fr) (cnt := cnt) (by rw [hk]; exact hk0)
    have hV2 : panV s x lat fr cnt = 0 := by rw [panV, hno]; rfl
    have hK2 : panK s x lat fr cnt = k := by rw [panK, hno, ← hk]; rfl
    rw [hV2, hK2]
    have HV2 := Lib.hid hV2; clear hV2
    have HK2 := Lib.hid hK2; clear hK2
    have Hk := Lib.hid hk; clear hk
    have Hno := Lib.hid hno; clear hno
    obtain ⟨hSt, hCh, hb0⟩ := two_box (s := s) (c := c) 29 31 sl hn hlz hs
    have hK : ∀ w1, Below ((w.alloc (stO s 29)).alloc (chO x A n c 31)).heap.size ((w.alloc (stO s 29)).alloc (chO x A n c 31)) w1 → _ := fun w1 hb => l19Ask_c w.heap.size (w.heap.size + 1) s A n c x lat fr cnt w1 (hSt.next hb) (hCh.next hb)
    have HK := Lib.hid hK; clear hK
    go_enter Tryz.func22, Tryz.ntmps22
    go_wp2_with fail
    generalize (w.alloc (.cells #[.int .i64 s.la, .int .i64 s.sb, .int .i64 s.ba, .int .i64 s.pa, .int .i64 s.sh] 29)).alloc (.cells #[.int .i64 x.k, .slice A n c, .string x.l, .string x.cs, .int .i64 x.p] 31) = w0 at *
    refine (HK.out _ (Below.refl _ _)).mono ?_
    rintro e w1 ⟨rfl, hb1⟩
    have hSt1 := hSt.next hb1
    have hCh1 := hCh.next hb1
    replace hb0 := hb0.trans (hb1.mono hb0.size)
    clear HK hSt hCh hb1
    rw [Hk.out]
    have hkb : (k == 0) = false := by simpa using hk0
    go_wp2_with fail
    go_ret2
    exact ⟨rfl, hb0⟩
end Go.Proofs.YtpgcgmbjlecnpaaGreat
