/- BigG: several of my texts in one. -/
import Derived.Test.YtnmkpegdbgebeaaGreatDoorBase
import Derived.Test.YtnmkpegdbgebeaaGreatDoorChecked
import Derived.Test.YtnmkpegdbgebeaaGreatDoorSmall
import Derived.Great.BuildSlice
import Derived.Test.YtnmkpegdbgebeaaGreatDoorApp
import Derived.Test.YtnmkpegdbgebeaaGreatDoorSec
import Derived.Test.YtnmkpegdbgebeaaGreatDoorMarkG
import Derived.Test.YtnmkpegdbgebeaaGreatDoorAidI
import Derived.Test.YtnmkpegdbgebeaaGreatDoorAidsG
/- The logarithm in thousandths, and the greatest distance for which an intensity is enough: plain Lean. -/
namespace Go.Proofs.YtnmkpegdbgebeaaGreatDoor
/-- Digits less one. -/
def digN : Nat → Int → Int
  | 0, _ => 0
  | f + 1, m => if 10 ≤ m then 1 + digN f (m / 10) else 0
def upI : Nat → Int → Int
  | 0, x => x
  | k + 1, x => upI k (x * 10)
/-- One multiplication. -/
def mulS (x : Int) (s : Int × Int) : Int × Int := if 1000000000 ≤ s.1 * x / 100000000 then (s.1 * x / 100000000 / 10, s.2 + 1) else (s.1 * x / 100000000, s.2)
def mulN (x : Int) : Nat → Int × Int → Int × Int
  | 0, s => s
  | k + 1, s => mulN x k (mulS x s)
/-- One digit: (r, x). -/
def digS (s : Int × Int) : Int × Int := (10 * s.1 + (mulN s.2 10 (100000000, 0)).2, (mulN s.2 10 (100000000, 0)).1)
def startL (n : Int) : Int × Int := (digN 64 n, upI (8 - digN 64 n).toNat n)
def tlog (n : Int) : Int := (digS (digS (digS (startL n)))).1
/-- Order of pairs. -/
def lexP (a b : Int × Int) : Prop := a.1 < b.1 ∨ (a.1 = b.1 ∧ a.2 ≤ b.2)
def inX (x : Int) : Prop := 100000000 ≤ x ∧ x < 1000000000
theorem mulS_in {x : Int} (hx : inX x) {s : Int × Int} (hs : inX s.1) : inX (mulS x s).1 := by
  obtain ⟨a, b⟩ := hx
  obtain ⟨c, d⟩ := hs
  have h1 : 100000000 * 100000000 ≤ s.1 * x := Int.mul_le_mul c a (by omega) (by omega)
  have h2 : s.1 * x ≤ 999999999 * 999999999 := Int.mul_le_mul (by omega) (by omega) (by omega) (by omega)
  unfold mulS inX
  split <;> simp only <;> omega
theorem mulN_in {x : Int} (hx : inX x) : ∀ (k : Nat) (s : Int × Int), inX s.1 → inX (mulN x k s).1
  | 0, _, h => h
  | k + 1, _, h => mulN_in hx k _ (mulS_in hx h)
theorem mulS_le {x y : Int} (hx : inX x) (hy : inX y) (hxy : x ≤ y) {s t : Int × Int} (hs : inX s.1) (ht : inX t.1) (h : lexP (s.2, s.1) (t.2, t.1)) :
    lexP ((mulS x s).2, (mulS x s).1) ((mulS y t).2, (mulS y t).1) := by
  obtain ⟨a, b⟩ := hx
  obtain ⟨a', b'⟩ := hy
  obtain ⟨c, d⟩ := hs
  obtain ⟨c', d'⟩ := ht
  have h1 : 100000000 * 100000000 ≤ s.1 * x := Int.mul_le_mul c a (by omega) (by omega)
  have h1' : 100000000 * 100000000 ≤ t.1 * y := Int.mul_le_mul c' a' (by omega) (by omega)
  have h2 : s.1 * x ≤ 999999999 * 999999999 := Int.mul_le_mul (by omega) (by omega) (by omega) (by omega)
  have h2' : t.1 * y ≤ 999999999 * 999999999 := Int.mul_le_mul (by omega) (by omega) (by omega) (by omega)
  have h10 : s.1 * x ≤ (10 * t.1) * y := Int.mul_le_mul (by omega) hxy (by omega) (by omega)
  rw [Int.mul_assoc] at h10
  have hle : s.1 ≤ t.1 → s.1 * x ≤ t.1 * y := fun e => Int.mul_le_mul e hxy (by omega) (by omega)
  unfold lexP at h ⊢
  unfold mulS
  simp only at h
  generalize s.1 * x = p at *
  generalize t.1 * y = q at *
  rcases h with h | ⟨h, h'⟩
  · split <;> split <;> simp only <;> omega
  · have := hle h'
    split <;> split <;> simp only <;> omega
theorem mulN_le {x y : Int} (hx : inX x) (hy : inX y) (hxy : x ≤ y) : ∀ (k : Nat) (s t : Int × Int), inX s.1 → inX t.1 → lexP (s.2, s.1) (t.2, t.1) → lexP ((mulN x k s).2, (mulN x k s).1) ((mulN y k t).2, (mulN y k t).1)
  | 0, _, _, _, _, h => h
  | k + 1, _, _, hs, ht, h => mulN_le hx hy hxy k _ _ (mulS_in hx hs) (mulS_in hy ht) (mulS_le hx hy hxy hs ht h)
/-- The digits: between 0 and 9. -/
theorem mulS_d (x : Int) (s : Int × Int) : s.2 ≤ (mulS x s).2 ∧ (mulS x s).2 ≤ s.2 + 1 := by
  unfold mulS; split <;> simp only <;> omega
theorem mulN_d (x : Int) : ∀ (k : Nat) (s : Int × Int), s.2 ≤ (mulN x k s).2 ∧ (mulN x k s).2 ≤ s.2 + k
  | 0, s => by simp [mulN]
  | k + 1, s => by
    have h1 := mulS_d x s
    have h2 := mulN_d x k (mulS x s)
    rw [mulN]; omega
theorem mulN_first {x : Int} (hx : inX x) : 0 ≤ (mulN x 10 (100000000, 0)).2 ∧ (mulN x 10 (100000000, 0)).2 ≤ 9 := by
  have e : mulS x (100000000, 0) = (x, 0) := by
    obtain ⟨a, b⟩ := hx
    unfold mulS
    have : 100000000 * x / 100000000 = x := by omega
    simp only [this]
    rw [if_neg (by omega)]
  have := mulN_d x 9 (x, 0)
  rw [show (10 : Nat) = 9 + 1 from rfl, mulN, e]
  simpa using this
theorem digS_in {s : Int × Int} (h : inX s.2) : inX (digS s).2 := mulN_in h 10 _ ⟨by decide, by decide⟩
theorem digS_le {s t : Int × Int} (hs : inX s.2) (ht : inX t.2) (h : lexP s t) : lexP (digS s) (digS t) := by
  have d1 := mulN_first hs
  have d2 := mulN_first ht
  rcases h with h | ⟨h, h'⟩
  · left; unfold digS; simp only; omega
  · have := mulN_le hs ht h' 10 (100000000, 0) (100000000, 0) ⟨by decide, by decide⟩ ⟨by decide, by decide⟩ (.inr ⟨rfl, Int.le_refl _⟩)
    unfold lexP at this ⊢
    unfold digS
    simp only at this ⊢
    omega
theorem pow10_pos (k : Nat) : (1 : Int) ≤ 10 ^ k := by
  induction k with
  | zero => simp
  | succ k ih => rw [Int.pow_succ]; omega
theorem digN_eq : ∀ (k f : Nat) (n : Int), 10 ^ k ≤ n → n < 10 ^ (k + 1) → k < f → digN f n = k
  | _, 0, _, _, _, hf => absurd hf (by omega)
  | 0, f + 1, n, _, h2, _ => by
    rw [digN, if_neg (by omega)]; rfl
  | k + 1, f + 1, n, h1, h2, hf => by
    have p := pow10_pos k
    rw [Int.pow_succ] at h1
    rw [Int.pow_succ, Int.pow_succ] at h2
    generalize hq : (10 : Int) ^ k = q at *
    rw [digN, if_pos (by omega), digN_eq k f (n / 10) (by omega) (by rw [Int.pow_succ, hq]; omega) (by omega)]
    omega
theorem upI_eq : ∀ (k : Nat) (x : Int), upI k x = x * 10 ^ k
  | 0, x => by simp [upI]
  | k + 1, x => by rw [upI, upI_eq k, Int.pow_succ, Int.mul_assoc, Int.mul_comm 10 (10 ^ k)]
theorem dig_ex {n : Int} (h : 1 ≤ n) (h8 : n < 1000000000) : ∃ k : Nat, k ≤ 8 ∧ 10 ^ k ≤ n ∧ n < 10 ^ (k + 1) := by
  rcases Int.lt_or_le n 10 with a | a
  · exact ⟨0, by omega, h, a⟩
  rcases Int.lt_or_le n 100 with b | b
  · exact ⟨1, by omega, a, b⟩
  rcases Int.lt_or_le n 1000 with a | a
  · exact ⟨2, by omega, b, a⟩
  rcases Int.lt_or_le n 10000 with b | b
  · exact ⟨3, by omega, a, b⟩
  rcases Int.lt_or_le n 100000 with a | a
  · exact ⟨4, by omega, b, a⟩
  rcases Int.lt_or_le n 1000000 with b | b
  · exact ⟨5, by omega, a, b⟩
  rcases Int.lt_or_le n 10000000 with a | a
  · exact ⟨6, by omega, b, a⟩
  rcases Int.lt_or_le n 100000000 with b | b
  · exact ⟨7, by omega, a, b⟩
  · exact ⟨8, by omega, b, h8⟩
theorem startL_eq {n : Int} {k : Nat} (hk : k ≤ 8) (h1 : 10 ^ k ≤ n) (h2 : n < 10 ^ (k + 1)) : startL n = ((k : Int), n * 10 ^ (8 - k)) := by
  unfold startL
  rw [digN_eq k 64 n h1 h2 (by omega), upI_eq, show ((8 : Int) - (k : Int)).toNat = 8 - k by omega]
theorem pow_split {k : Nat} (hk : k ≤ 8) : (10 : Int) ^ k * 10 ^ (8 - k) = 100000000 := by
  rw [← Int.pow_add, show k + (8 - k) = 8 by omega]; rfl
theorem startL_in {n : Int} (h : 1 ≤ n) (h8 : n < 1000000000) : inX (startL n).2 := by
  obtain ⟨k, hk, h1, h2⟩ := dig_ex h h8
  rw [startL_eq hk h1 h2]
  have p := pow10_pos (8 - k)
  have e := pow_split hk
  have a := Int.mul_le_mul_of_nonneg_right h1 (show (0 : Int) ≤ 10 ^ (8 - k) by omega)
  have b := Int.mul_lt_mul_of_pos_right h2 (show (0 : Int) < 10 ^ (8 - k) by omega)
  rw [e] at a
  rw [Int.pow_succ, Int.mul_assoc, Int.mul_comm 10, ← Int.mul_assoc, e] at b
  exact ⟨a, b⟩
theorem startL_le {n m : Int} (h : 1 ≤ n) (hnm : n ≤ m) (h8 : m < 1000000000) : lexP (startL n) (startL m) := by
  obtain ⟨k, hk, h1, h2⟩ := dig_ex h (show n < 1000000000 by omega)
  obtain ⟨j, hj, g1, g2⟩ := dig_ex (show 1 ≤ m by omega) h8
  rw [startL_eq hk h1 h2, startL_eq hj g1 g2]
  rcases Nat.lt_trichotomy k j with a | a | a
  · left; simp only; omega
  · subst a
    right
    have p := pow10_pos (8 - k)
    exact ⟨rfl, Int.mul_le_mul_of_nonneg_right hnm (by omega)⟩
  · exfalso
    have e : (10 : Int) ^ k = 10 ^ (j + 1) * 10 ^ (k - (j + 1)) := by rw [← Int.pow_add, show j + 1 + (k - (j + 1)) = k by omega]
    have p := pow10_pos (k - (j + 1))
    have q := pow10_pos (j + 1)
    have := Int.mul_le_mul_of_nonneg_left p (show (0 : Int) ≤ 10 ^ (j + 1) by omega)
    omega
theorem tlog_le {n m : Int} (h : 1 ≤ n) (hnm : n ≤ m) (h8 : m < 1000000000) : tlog n ≤ tlog m := by
  have i1 := startL_in h (show n < 1000000000 by omega)
  have i2 := startL_in (show 1 ≤ m by omega) h8
  have := digS_le (digS_in (digS_in i1)) (digS_in (digS_in i2)) (digS_le (digS_in i1) (digS_in i2) (digS_le i1 i2 (startL_le h hnm h8)))
  unfold lexP at this
  unfold tlog
  omega
theorem startL_r {n : Int} (h : 1 ≤ n) (h8 : n < 1000000000) : 0 ≤ (startL n).1 ∧ (startL n).1 ≤ 8 := by
  obtain ⟨k, hk, h1, h2⟩ := dig_ex h h8
  rw [startL_eq hk h1 h2]
  simp only; omega
theorem digS_r {s : Int × Int} (h : inX s.2) : 10 * s.1 ≤ (digS s).1 ∧ (digS s).1 ≤ 10 * s.1 + 9 := by
  have := mulN_first h
  unfold digS; simp only; omega
theorem tlog_in {n : Int} (h : 1 ≤ n) (h8 : n < 1000000000) : 0 ≤ tlog n ∧ tlog n ≤ 8999 := by
  have i1 := startL_in h h8
  have a := startL_r h h8
  have b := digS_r i1
  have c := digS_r (digS_in i1)
  have d := digS_r (digS_in (digS_in i1))
  unfold tlog
  omega
/-! The greatest distance. -/
def enoughB (i d v : Int) : Bool := decide (2 * tlog d ≤ tlog i + 6699 - 1301 * d / v)
theorem enough_le {i d d' v : Int} (h1 : 1 ≤ d) (h2 : d ≤ d') (h3 : d' ≤ 100000) (hv : 1 ≤ v) (h : enoughB i d' v = true) : enoughB i d v = true := by
  unfold enoughB at h ⊢
  simp only [decide_eq_true_eq] at h ⊢
  have t := tlog_le h1 h2 (by omega)
  have q : 1301 * d / v ≤ 1301 * d' / v := Int.ediv_le_ediv (by omega) (by omega)
  omega
structure IsLum (i v r : Int) : Prop where
  lo : 0 ≤ r
  hi : r ≤ 100000
  yes : 0 < r → enoughB i r v = true
  no : r < 100000 → enoughB i (r + 1) v = false
theorem isLum_one {i v r s : Int} (hv : 1 ≤ v) (h : IsLum i v r) (k : IsLum i v s) : r = s := by
  obtain ⟨a1, a2, a3, a4⟩ := h
  obtain ⟨b1, b2, b3, b4⟩ := k
  rcases Int.lt_trichotomy r s with h | h | h
  · have := enough_le (i := i) (show 1 ≤ r + 1 by omega) (show r + 1 ≤ s by omega) b2 hv (b3 (by omega))
    rw [a4 (by omega)] at this; cases this
  · exact h
  · have := enough_le (i := i) (show 1 ≤ s + 1 by omega) (show s + 1 ≤ r by omega) a2 hv (a3 (by omega))
    rw [b4 (by omega)] at this; cases this
open Classical in
noncomputable def lumI (i v : Int) : Int := if h : ∃ r, IsLum i v r then Classical.choose h else 0
theorem lumI_eq {i v r : Int} (hv : 1 ≤ v) (h : IsLum i v r) : lumI i v = r := by
  have hx : ∃ r, IsLum i v r := ⟨r, h⟩
  unfold lumI
  rw [dif_pos hx]
  exact isLum_one hv (Classical.choose_spec hx) h
/-! Square roots. -/
structure IsRoot (n r : Int) : Prop where
  lo : 0 ≤ r
  hi : r ≤ 3037000499
  yes : r * r ≤ n
  no : r < 3037000499 → n < (r + 1) * (r + 1)
theorem isRoot_one {n r s : Int} (h : IsRoot n r) (k : IsRoot n s) : r = s := by
  obtain ⟨a1, a2, a3, a4⟩ := h
  obtain ⟨b1, b2, b3, b4⟩ := k
  rcases Int.lt_trichotomy r s with h | h | h
  · have := Int.mul_le_mul (show r + 1 ≤ s by omega) (show r + 1 ≤ s by omega) (by omega) (by omega)
    have := a4 (by omega)
    omega
  · exact h
  · have := Int.mul_le_mul (show s + 1 ≤ r by omega) (show s + 1 ≤ r by omega) (by omega) (by omega)
    have := b4 (by omega)
    omega
open Classical in
noncomputable def rootI (n : Int) : Int := if h : ∃ r, IsRoot n r then Classical.choose h else 0
theorem rootI_eq {n r : Int} (h : IsRoot n r) : rootI n = r := by
  have hx : ∃ r, IsRoot n r := ⟨r, h⟩
  unfold rootI
  rw [dif_pos hx]
  exact isRoot_one (Classical.choose_spec hx) h
end Go.Proofs.YtnmkpegdbgebeaaGreatDoor
/- The square root by halving, both sides. -/
namespace Go.Proofs.YtnmkpegdbgebeaaGreatDoor
open Go.RowKit
set_option maxRecDepth 100000 in
set_option maxHeartbeats 1000000 in
theorem rootOf_c (n : Int) (w : World) (h0 : 0 ≤ n) :
    Calls Tryz.prog 148 #[.int .i64 n] w fun e w' => e = .returned (.int .i64 (rootI n)) ∧ IsRoot n (rootI n) ∧ w = w' := by
  have hf : ∀ r, IsRoot n r → rootI n = r := fun r => rootI_eq
  have HF := Lib.hid hf; clear hf
  go_enter Tryz.func148, Tryz.ntmps148
  go_wp2
  go_loopw [3, 4] (fun lo hi wr => ∃ l h : Int, lo = .int .i64 l ∧ hi = .int .i64 h ∧ 0 ≤ l ∧ l ≤ h ∧ h ≤ 3037000499 ∧ Hid (l * l ≤ n ∧ (h < 3037000499 → n < (h + 1) * (h + 1))) ∧ w = wr) (fun lo hi _ => (intOf hi - intOf lo).toNat)
  case atStart => exact ⟨0, 3037000499, rfl, rfl, by omega, by omega, by omega, Lib.hid ⟨by omega, fun h => absurd h (by omega)⟩, rfl⟩
  case round =>
    obtain ⟨l, h, rfl, rfl, hl0, hlh, hh, HI, rfl⟩ := hrel
    by_cases hlt : l < h
    · obtain ⟨m, hm⟩ : ∃ m, (l + h + 1) / 2 = m := ⟨_, rfl⟩
      have hm1 : l < m := by omega
      have hm2 : m ≤ h := by omega
      have e1 : IntKind.i64.wrap (l + h) = l + h := IntWalk.i64_in _ (by omega)
      have e2 : IntKind.i64.wrap (l + h + 1) = l + h + 1 := IntWalk.i64_in _ (by omega)
      have e3 : (l + h + 1).tdiv 2 = m := by rw [Int.tdiv_eq_ediv_of_nonneg (by omega)]; exact hm
      have e4 : IntKind.i64.wrap m = m := IntWalk.i64_in _ (by omega)
      have hmm : 0 ≤ m * m ∧ m * m ≤ 3037000499 * 3037000499 := ⟨Int.mul_nonneg (by omega) (by omega), Int.mul_le_mul (by omega) (by omega) (by omega) (by omega)⟩
      have e5 : IntKind.i64.wrap (m * m) = m * m := IntWalk.i64_in _ (by omega)
      have e6 : IntKind.i64.wrap (m - 1) = m - 1 := IntWalk.i64_in _ (by omega)
      obtain ⟨q, hq⟩ : ∃ q, m * m = q := ⟨_, rfl⟩
      rw [hq] at e5 hmm
      have HQ := Lib.hid hq
      have hmul : m * m = q := hq
      clear hq hm hmm
      by_cases hle : q ≤ n
      · go_wp2
        go_roundw
        case rel => exact ⟨m, h, rfl, rfl, by omega, by omega, hh, Lib.hid ⟨by rw [HQ.out]; exact hle, HI.out.2⟩, by trivial⟩
        case measure => simp [intOf]; omega
      · go_wp2
        go_roundw
        case rel => exact ⟨l, m - 1, rfl, rfl, by omega, by omega, by omega, Lib.hid ⟨HI.out.1, fun _ => by rw [show m - 1 + 1 = m by omega, HQ.out]; omega⟩, by trivial⟩
        case measure => simp [intOf]; omega
    · obtain rfl : l = h := by omega
      have hr : IsRoot n l := ⟨hl0, hh, HI.out.1, HI.out.2⟩
      go_wp2
      go_ret
      have e := HF.out l hr
      exact ⟨ret_eq (int_eq e.symm), by rw [e]; exact hr, rfl⟩
set_option maxRecDepth 100000 in
set_option maxHeartbeats 1000000 in
theorem l01Root_c (n : Int) (w : World) (h0 : 0 ≤ n) :
    Calls Tryz.prog 143 #[.int .i64 n] w fun e w' => e = .returned (.int .i64 (rootI n)) ∧ IsRoot n (rootI n) ∧ w = w' := by
  have hf : ∀ r, IsRoot n r → rootI n = r := fun r => rootI_eq
  have HF := Lib.hid hf; clear hf
  go_enter Tryz.func143, Tryz.ntmps143
  go_wp2
  go_loopw [3, 4] (fun lo hi wr => ∃ l h : Int, lo = .int .i64 l ∧ hi = .int .i64 h ∧ 0 ≤ l ∧ l ≤ h ∧ h ≤ 3037000499 ∧ Hid (l * l ≤ n ∧ (h < 3037000499 → n < (h + 1) * (h + 1))) ∧ w = wr) (fun lo hi _ => (intOf hi - intOf lo).toNat)
  case atStart => exact ⟨0, 3037000499, rfl, rfl, by omega, by omega, by omega, Lib.hid ⟨by omega, fun h => absurd h (by omega)⟩, rfl⟩
  case round =>
    obtain ⟨l, h, rfl, rfl, hl0, hlh, hh, HI, rfl⟩ := hrel
    by_cases hlt : l < h
    · obtain ⟨m, hm⟩ : ∃ m, (l + h + 1) / 2 = m := ⟨_, rfl⟩
      have hm1 : l < m := by omega
      have hm2 : m ≤ h := by omega
      have e1 : IntKind.i64.wrap (l + h) = l + h := IntWalk.i64_in _ (by omega)
      have e2 : IntKind.i64.wrap (l + h + 1) = l + h + 1 := IntWalk.i64_in _ (by omega)
      have e3 : (l + h + 1).tdiv 2 = m := by rw [Int.tdiv_eq_ediv_of_nonneg (by omega)]; exact hm
      have e4 : IntKind.i64.wrap m = m := IntWalk.i64_in _ (by omega)
      have hmm : 0 ≤ m * m ∧ m * m ≤ 3037000499 * 3037000499 := ⟨Int.mul_nonneg (by omega) (by omega), Int.mul_le_mul (by omega) (by omega) (by omega) (by omega)⟩
      have e5 : IntKind.i64.wrap (m * m) = m * m := IntWalk.i64_in _ (by omega)
      have e6 : IntKind.i64.wrap (m - 1) = m - 1 := IntWalk.i64_in _ (by omega)
      obtain ⟨q, hq⟩ : ∃ q, m * m = q := ⟨_, rfl⟩
      rw [hq] at e5 hmm
      have HQ := Lib.hid hq
      have hmul : m * m = q := hq
      clear hq hm hmm
      by_cases hle : q ≤ n
      · go_wp2
        go_roundw
        case rel => exact ⟨m, h, rfl, rfl, by omega, by omega, hh, Lib.hid ⟨by rw [HQ.out]; exact hle, HI.out.2⟩, by trivial⟩
        case measure => simp [intOf]; omega
      · go_wp2
        go_roundw
        case rel => exact ⟨l, m - 1, rfl, rfl, by omega, by omega, by omega, Lib.hid ⟨HI.out.1, fun _ => by rw [show m - 1 + 1 = m by omega, HQ.out]; omega⟩, by trivial⟩
        case measure => simp [intOf]; omega
    · obtain rfl : l = h := by omega
      have hr : IsRoot n l := ⟨hl0, hh, HI.out.1, HI.out.2⟩
      go_wp2
      go_ret
      have e := HF.out l hr
      exact ⟨ret_eq (int_eq e.symm), by rw [e]; exact hr, rfl⟩
end Go.Proofs.YtnmkpegdbgebeaaGreatDoor
/- Sines. -/
namespace Go.Proofs.YtnmkpegdbgebeaaGreatDoor
open Go.RowKit
def sinT : List Int := [0, 17452, 34899, 52336, 69756, 87156, 104528, 121869, 139173, 156434, 173648, 190809, 207912, 224951, 241922, 258819, 275637, 292372, 309017, 325568, 342020, 358368, 374607, 390731, 406737, 422618, 438371, 453990, 469472, 484810, 500000, 515038, 529919, 544639, 559193, 573576, 587785, 601815, 615661, 629320, 642788, 656059, 669131, 681998, 694658, 707107, 719340, 731354, 743145, 754710, 766044, 777146, 788011, 798636, 809017, 819152, 829038, 838671, 848048, 857167, 866025, 874620, 882948, 891007, 898794, 906308, 913545, 920505, 927184, 933580, 939693, 945519, 951057, 956305, 961262, 965926, 970296, 974370, 978148, 981627, 984808, 987688, 990268, 992546, 994522, 996195, 997564, 998630, 999391, 999848, 1000000]
def sinQ (d : Int) : Int := sinT.getD d.toNat 0
theorem sin_len : sinT.length = 91 := rfl
theorem sin_at (j : Nat) (hj : j < 91) : (#[.int .i64 0, .int .i64 17452, .int .i64 34899, .int .i64 52336, .int .i64 69756, .int .i64 87156, .int .i64 104528, .int .i64 121869, .int .i64 139173, .int .i64 156434, .int .i64 173648, .int .i64 190809, .int .i64 207912, .int .i64 224951, .int .i64 241922, .int .i64 258819, .int .i64 275637, .int .i64 292372, .int .i64 309017, .int .i64 325568, .int .i64 342020, .int .i64 358368, .int .i64 374607, .int .i64 390731, .int .i64 406737, .int .i64 422618, .int .i64 438371, .int .i64 453990, .int .i64 469472, .int .i64 484810, .int .i64 500000, .int .i64 515038, .int .i64 529919, .int .i64 544639, .int .i64 559193, .int .i64 573576, .int .i64 587785, .int .i64 601815, .int .i64 615661, .int .i64 629320, .int .i64 642788, .int .i64 656059, .int .i64 669131, .int .i64 681998, .int .i64 694658, .int .i64 707107, .int .i64 719340, .int .i64 731354, .int .i64 743145, .int .i64 754710, .int .i64 766044, .int .i64 777146, .int .i64 788011, .int .i64 798636, .int .i64 809017, .int .i64 819152, .int .i64 829038, .int .i64 838671, .int .i64 848048, .int .i64 857167, .int .i64 866025, .int .i64 874620, .int .i64 882948, .int .i64 891007, .int .i64 898794, .int .i64 906308, .int .i64 913545, .int .i64 920505, .int .i64 927184, .int .i64 933580, .int .i64 939693, .int .i64 945519, .int .i64 951057, .int .i64 956305, .int .i64 961262, .int .i64 965926, .int .i64 970296, .int .i64 974370, .int .i64 978148, .int .i64 981627, .int .i64 984808, .int .i64 987688, .int .i64 990268, .int .i64 992546, .int .i64 994522, .int .i64 996195, .int .i64 997564, .int .i64 998630, .int .i64 999391, .int .i64 999848, .int .i64 1000000] : Array Value)[j]? = some (.int .i64 (sinQ j)) := by
  have e : (#[.int .i64 0, .int .i64 17452, .int .i64 34899, .int .i64 52336, .int .i64 69756, .int .i64 87156, .int .i64 104528, .int .i64 121869, .int .i64 139173, .int .i64 156434, .int .i64 173648, .int .i64 190809, .int .i64 207912, .int .i64 224951, .int .i64 241922, .int .i64 258819, .int .i64 275637, .int .i64 292372, .int .i64 309017, .int .i64 325568, .int .i64 342020, .int .i64 358368, .int .i64 374607, .int .i64 390731, .int .i64 406737, .int .i64 422618, .int .i64 438371, .int .i64 453990, .int .i64 469472, .int .i64 484810, .int .i64 500000, .int .i64 515038, .int .i64 529919, .int .i64 544639, .int .i64 559193, .int .i64 573576, .int .i64 587785, .int .i64 601815, .int .i64 615661, .int .i64 629320, .int .i64 642788, .int .i64 656059, .int .i64 669131, .int .i64 681998, .int .i64 694658, .int .i64 707107, .int .i64 719340, .int .i64 731354, .int .i64 743145, .int .i64 754710, .int .i64 766044, .int .i64 777146, .int .i64 788011, .int .i64 798636, .int .i64 809017, .int .i64 819152, .int .i64 829038, .int .i64 838671, .int .i64 848048, .int .i64 857167, .int .i64 866025, .int .i64 874620, .int .i64 882948, .int .i64 891007, .int .i64 898794, .int .i64 906308, .int .i64 913545, .int .i64 920505, .int .i64 927184, .int .i64 933580, .int .i64 939693, .int .i64 945519, .int .i64 951057, .int .i64 956305, .int .i64 961262, .int .i64 965926, .int .i64 970296, .int .i64 974370, .int .i64 978148, .int .i64 981627, .int .i64 984808, .int .i64 987688, .int .i64 990268, .int .i64 992546, .int .i64 994522, .int .i64 996195, .int .i64 997564, .int .i64 998630, .int .i64 999391, .int .i64 999848, .int .i64 1000000] : Array Value) = (sinT.map (Value.int .i64)).toArray := rfl
  rw [e, List.getElem?_toArray, List.getElem?_map, sinQ, List.getD_eq_getElem?_getD, Int.toNat_natCast, List.getElem?_eq_getElem (by rw [sin_len]; exact hj)]
  rfl
theorem sin_get (j : Nat) (h : j < (#[.int .i64 0, .int .i64 17452, .int .i64 34899, .int .i64 52336, .int .i64 69756, .int .i64 87156, .int .i64 104528, .int .i64 121869, .int .i64 139173, .int .i64 156434, .int .i64 173648, .int .i64 190809, .int .i64 207912, .int .i64 224951, .int .i64 241922, .int .i64 258819, .int .i64 275637, .int .i64 292372, .int .i64 309017, .int .i64 325568, .int .i64 342020, .int .i64 358368, .int .i64 374607, .int .i64 390731, .int .i64 406737, .int .i64 422618, .int .i64 438371, .int .i64 453990, .int .i64 469472, .int .i64 484810, .int .i64 500000, .int .i64 515038, .int .i64 529919, .int .i64 544639, .int .i64 559193, .int .i64 573576, .int .i64 587785, .int .i64 601815, .int .i64 615661, .int .i64 629320, .int .i64 642788, .int .i64 656059, .int .i64 669131, .int .i64 681998, .int .i64 694658, .int .i64 707107, .int .i64 719340, .int .i64 731354, .int .i64 743145, .int .i64 754710, .int .i64 766044, .int .i64 777146, .int .i64 788011, .int .i64 798636, .int .i64 809017, .int .i64 819152, .int .i64 829038, .int .i64 838671, .int .i64 848048, .int .i64 857167, .int .i64 866025, .int .i64 874620, .int .i64 882948, .int .i64 891007, .int .i64 898794, .int .i64 906308, .int .i64 913545, .int .i64 920505, .int .i64 927184, .int .i64 933580, .int .i64 939693, .int .i64 945519, .int .i64 951057, .int .i64 956305, .int .i64 961262, .int .i64 965926, .int .i64 970296, .int .i64 974370, .int .i64 978148, .int .i64 981627, .int .i64 984808, .int .i64 987688, .int .i64 990268, .int .i64 992546, .int .i64 994522, .int .i64 996195, .int .i64 997564, .int .i64 998630, .int .i64 999391, .int .i64 999848, .int .i64 1000000] : Array Value).size) : (#[.int .i64 0, .int .i64 17452, .int .i64 34899, .int .i64 52336, .int .i64 69756, .int .i64 87156, .int .i64 104528, .int .i64 121869, .int .i64 139173, .int .i64 156434, .int .i64 173648, .int .i64 190809, .int .i64 207912, .int .i64 224951, .int .i64 241922, .int .i64 258819, .int .i64 275637, .int .i64 292372, .int .i64 309017, .int .i64 325568, .int .i64 342020, .int .i64 358368, .int .i64 374607, .int .i64 390731, .int .i64 406737, .int .i64 422618, .int .i64 438371, .int .i64 453990, .int .i64 469472, .int .i64 484810, .int .i64 500000, .int .i64 515038, .int .i64 529919, .int .i64 544639, .int .i64 559193, .int .i64 573576, .int .i64 587785, .int .i64 601815, .int .i64 615661, .int .i64 629320, .int .i64 642788, .int .i64 656059, .int .i64 669131, .int .i64 681998, .int .i64 694658, .int .i64 707107, .int .i64 719340, .int .i64 731354, .int .i64 743145, .int .i64 754710, .int .i64 766044, .int .i64 777146, .int .i64 788011, .int .i64 798636, .int .i64 809017, .int .i64 819152, .int .i64 829038, .int .i64 838671, .int .i64 848048, .int .i64 857167, .int .i64 866025, .int .i64 874620, .int .i64 882948, .int .i64 891007, .int .i64 898794, .int .i64 906308, .int .i64 913545, .int .i64 920505, .int .i64 927184, .int .i64 933580, .int .i64 939693, .int .i64 945519, .int .i64 951057, .int .i64 956305, .int .i64 961262, .int .i64 965926, .int .i64 970296, .int .i64 974370, .int .i64 978148, .int .i64 981627, .int .i64 984808, .int .i64 987688, .int .i64 990268, .int .i64 992546, .int .i64 994522, .int .i64 996195, .int .i64 997564, .int .i64 998630, .int .i64 999391, .int .i64 999848, .int .i64 1000000] : Array Value)[j] = .int .i64 (sinQ j) := by
  have := sin_at j h
  rw [Array.getElem?_eq_getElem h] at this
  exact Option.some.inj this
theorem sinQ_bd (d : Int) : 0 ≤ sinQ d ∧ sinQ d ≤ 1000000 := by
  have h : ∀ x ∈ sinT, 0 ≤ x ∧ x ≤ 1000000 := by decide
  unfold sinQ
  rw [List.getD_eq_getElem?_getD]
  cases hx : sinT[d.toNat]? with
  | none => simp
  | some x => exact h x (List.mem_of_getElem? hx)
/-- The sine of 0 to 179. -/
def sinH (a : Int) : Int := if 90 < a then sinQ (180 - a) else sinQ a
def sinI (d : Int) : Int := if 180 ≤ d % 360 then -sinH (d % 360 - 180) else sinH (d % 360)
theorem sinH_bd (a : Int) : 0 ≤ sinH a ∧ sinH a ≤ 1000000 := by unfold sinH; split <;> exact sinQ_bd _
theorem sinI_bd (a : Int) : -1000000 ≤ sinI a ∧ sinI a ≤ 1000000 := by
  unfold sinI
  split
  · have := sinH_bd (a % 360 - 180); omega
  · have := sinH_bd (a % 360); omega
set_option maxHeartbeats 1000000 in
theorem turned_c (d : Int) (w : World) (h0 : 0 ≤ d) (_h1 : d ≤ 1000000) : Calls Tryz.prog 182 #[.int .i64 d] w fun e w' => e = .returned (.int .i64 (d % 360)) ∧ w = w' := by
  have e1 : d.tmod 360 = d % 360 := Int.tmod_eq_emod_of_nonneg h0
  have e2 : IntKind.i64.wrap (d % 360) = d % 360 := IntWalk.i64_in _ (by omega)
  have e3 : IntKind.i64.wrap (d % 360 + 360) = d % 360 + 360 := IntWalk.i64_in _ (by omega)
  have e4 : (d % 360 + 360).tmod 360 = d % 360 := by rw [Int.tmod_eq_emod_of_nonneg (by omega)]; omega
  go_enter Tryz.func182, Tryz.ntmps182
  go_wp2
  go_ret
  exact ⟨rfl, rfl⟩
set_option maxHeartbeats 1000000 in
theorem l02Angle_c (d : Int) (w : World) (h0 : 0 ≤ d) (_h1 : d ≤ 1000000) : Calls Tryz.prog 181 #[.int .i64 d] w fun e w' => e = .returned (.int .i64 (d % 360)) ∧ w = w' := by
  have e1 : d.tmod 360 = d % 360 := Int.tmod_eq_emod_of_nonneg h0
  have e2 : IntKind.i64.wrap (d % 360) = d % 360 := IntWalk.i64_in _ (by omega)
  have e3 : IntKind.i64.wrap (d % 360 + 360) = d % 360 + 360 := IntWalk.i64_in _ (by omega)
  have e4 : (d % 360 + 360).tmod 360 = d % 360 := by rw [Int.tmod_eq_emod_of_nonneg (by omega)]; omega
  go_enter Tryz.func181, Tryz.ntmps181
  go_wp2
  go_ret
  exact ⟨rfl, rfl⟩
theorem wpl_built {P : Program} {ops : Array Oper} {rest : List Oper} {o : Oper} {a : Act} {w : World} {Q : Exit → Act → World → Prop} (hg : o.guard = none) (t : TypeId) (parts : Array (Nat × Operand)) (ho : o.op = .build t parts)
    (cells : Array Value) (hf : P.built t (parts.map fun (i, x) => (i, a.eval x)).toList = some cells) (h : wpList P ops Q rest (a.put o.dst (.agg cells)) w) : wpList P ops Q (o :: rest) a w :=
  wpList_build hg t parts ho (by rw [hf]; rfl) (by rw [hf]; exact h)
set_option maxRecDepth 100000 in
set_option maxHeartbeats 1000000 in
theorem quarter_c (d : Int) (w : World) (h0 : 0 ≤ d) (h1 : d ≤ 90) : Calls Tryz.prog 183 #[.int .i64 d] w fun e w' => e = .returned (.int .i64 (sinQ d)) ∧ w = w' := by
  obtain ⟨j, rfl⟩ := Int.eq_ofNat_of_zero_le h0
  have j2 : (j : Int) < 91 := by omega
  obtain ⟨a, ha⟩ : ∃ a : Array Value, (#[.int .i64 0, .int .i64 17452, .int .i64 34899, .int .i64 52336, .int .i64 69756, .int .i64 87156, .int .i64 104528, .int .i64 121869, .int .i64 139173, .int .i64 156434, .int .i64 173648, .int .i64 190809, .int .i64 207912, .int .i64 224951, .int .i64 241922, .int .i64 258819, .int .i64 275637, .int .i64 292372, .int .i64 309017, .int .i64 325568, .int .i64 342020, .int .i64 358368, .int .i64 374607, .int .i64 390731, .int .i64 406737, .int .i64 422618, .int .i64 438371, .int .i64 453990, .int .i64 469472, .int .i64 484810, .int .i64 500000, .int .i64 515038, .int .i64 529919, .int .i64 544639, .int .i64 559193, .int .i64 573576, .int .i64 587785, .int .i64 601815, .int .i64 615661, .int .i64 629320, .int .i64 642788, .int .i64 656059, .int .i64 669131, .int .i64 681998, .int .i64 694658, .int .i64 707107, .int .i64 719340, .int .i64 731354, .int .i64 743145, .int .i64 754710, .int .i64 766044, .int .i64 777146, .int .i64 788011, .int .i64 798636, .int .i64 809017, .int .i64 819152, .int .i64 829038, .int .i64 838671, .int .i64 848048, .int .i64 857167, .int .i64 866025, .int .i64 874620, .int .i64 882948, .int .i64 891007, .int .i64 898794, .int .i64 906308, .int .i64 913545, .int .i64 920505, .int .i64 927184, .int .i64 933580, .int .i64 939693, .int .i64 945519, .int .i64 951057, .int .i64 956305, .int .i64 961262, .int .i64 965926, .int .i64 970296, .int .i64 974370, .int .i64 978148, .int .i64 981627, .int .i64 984808, .int .i64 987688, .int .i64 990268, .int .i64 992546, .int .i64 994522, .int .i64 996195, .int .i64 997564, .int .i64 998630, .int .i64 999391, .int .i64 999848, .int .i64 1000000] : Array Value) = a := ⟨_, rfl⟩
  have has : a.size = 91 := by rw [← ha]; rfl
  have hmb : a[j]? = some (.int .i64 (sinQ j)) := by rw [← ha]; exact sin_at j (by omega)
  have hma : ∀ h : j < a.size, a[j] = .int .i64 (sinQ j) := fun h => by rw [Array.getElem?_eq_getElem h] at hmb; exact Option.some.inj hmb
  clear hmb
  generalize sinQ (j : Int) = q at hma ⊢
  have hix : ∀ w1 : World, (Instr.index 186 (.agg a) (.int .i64 (j : Int))).run Tryz.prog w1 = .ok (.int .i64 q) w1 := fun w1 => by
    have hlt : (0 : Int) ≤ (j : Int) ∧ (j : Int) < ((91 : Nat) : Int) := by omega
    have hl : j < a.size := by omega
    simp [Instr.index, run_underlying Tryz.underlying186, asIntOf, hlt, go_sem, part, hma, hl]
    try (intro h; omega)
  have HA := Lib.hid ha; clear ha
  go_enter Tryz.func183, Tryz.ntmps183
  go_wp2_with (refine wpl_built rfl 186 _ rfl a (Eq.trans (by kernel_rfl) (congrArg some HA.out)) ?_)
  go_ret
  exact ⟨rfl, rfl⟩
set_option maxHeartbeats 400000 in
theorem sineLow_c (d : Int) (w : World) (h0 : 0 ≤ d) (h1 : d < 180) : Calls Tryz.prog 176 #[.int .i64 d] w fun e w' => e = .returned (.int .i64 (sinH d)) ∧ w = w' := by
  have e1 : d % 360 = d := by omega
  have hT : ∀ w1, Calls Tryz.prog 182 #[.int .i64 d] w1 fun e w' => e = .returned (.int .i64 d) ∧ w1 = w' := fun w1 => by
    have := turned_c d w1 h0 (by omega)
    rwa [e1] at this
  by_cases h2 : 90 < d
  · have e2 : sinH d = sinQ (180 - d) := if_pos h2
    have hQ : ∀ w1, Calls Tryz.prog 183 #[.int .i64 (180 - d)] w1 fun e w' => e = .returned (.int .i64 (sinQ (180 - d))) ∧ w1 = w' := fun w1 => quarter_c _ _ (by omega) (by omega)
    rw [e2]
    generalize sinQ (180 - d) = q at hQ ⊢
    have HT := Lib.hid hT; clear hT
    have HQ := Lib.hid hQ; clear hQ
    clear e1 e2
    go_enter Tryz.func176, Tryz.ntmps176
    go_wp2_with (first | (go_at_call 182; refine (HT.out _).mono ?_; rintro e w1 ⟨rfl, rfl⟩) | (go_at_call 183; refine (HQ.out _).mono ?_; rintro e w1 ⟨rfl, rfl⟩))
    go_ret
    exact ⟨rfl, rfl⟩
  · have e2 : sinH d = sinQ d := if_neg h2
    have hQ : ∀ w1, Calls Tryz.prog 183 #[.int .i64 d] w1 fun e w' => e = .returned (.int .i64 (sinQ d)) ∧ w1 = w' := fun w1 => quarter_c _ _ (by omega) (by omega)
    rw [e2]
    generalize sinQ d = q at hQ ⊢
    have HT := Lib.hid hT; clear hT
    have HQ := Lib.hid hQ; clear hQ
    clear e1 e2
    go_enter Tryz.func176, Tryz.ntmps176
    go_wp2_with (first | (go_at_call 182; refine (HT.out _).mono ?_; rintro e w1 ⟨rfl, rfl⟩) | (go_at_call 183; refine (HQ.out _).mono ?_; rintro e w1 ⟨rfl, rfl⟩))
    go_ret
    exact ⟨rfl, rfl⟩
set_option maxHeartbeats 400000 in
theorem sine_c (d : Int) (w : World) (h0 : 0 ≤ d) (h1 : d ≤ 1000000) : Calls Tryz.prog 176 #[.int .i64 d] w fun e w' => e = .returned (.int .i64 (sinI d)) ∧ w = w' := by
  obtain ⟨r, hr⟩ : ∃ r, d % 360 = r := ⟨_, rfl⟩
  have hrb : 0 ≤ r ∧ r < 360 := by omega
  have hT : ∀ w1, Calls Tryz.prog 182 #[.int .i64 d] w1 fun e w' => e = .returned (.int .i64 r) ∧ w1 = w' := fun w1 => hr ▸ turned_c d w1 h0 h1
  by_cases h2 : 180 ≤ r
  · have e2 : sinI d = -sinH (r - 180) := by rw [sinI, hr, if_pos h2]
    have hQ : ∀ w1, Calls Tryz.prog 176 #[.int .i64 (r - 180)] w1 fun e w' => e = .returned (.int .i64 (sinH (r - 180))) ∧ w1 = w' := fun w1 => sineLow_c _ _ (by omega) (by omega)
    have hb := sinH_bd (r - 180)
    rw [e2]
    generalize sinH (r - 180) = q at hQ hb ⊢
    have HT := Lib.hid hT; clear hT
    have HQ := Lib.hid hQ; clear hQ
    clear hr e2
    go_enter Tryz.func176, Tryz.ntmps176
    go_wp2_with (first | (go_at_call 182; refine (HT.out _).mono ?_; rintro e w1 ⟨rfl, rfl⟩) | (go_at_call 176; refine (HQ.out _).mono ?_; rintro e w1 ⟨rfl, rfl⟩))
    go_ret
    exact ⟨rfl, rfl⟩
  · by_cases h3 : 90 < r
    · have e2 : sinI d = sinQ (180 - r) := by rw [sinI, hr, if_neg h2, sinH, if_pos h3]
      have hQ : ∀ w1, Calls Tryz.prog 183 #[.int .i64 (180 - r)] w1 fun e w' => e = .returned (.int .i64 (sinQ (180 - r))) ∧ w1 = w' := fun w1 => quarter_c _ _ (by omega) (by omega)
      rw [e2]
      generalize sinQ (180 - r) = q at hQ ⊢
      have HT := Lib.hid hT; clear hT
      have HQ := Lib.hid hQ; clear hQ
      clear hr e2
      go_enter Tryz.func176, Tryz.ntmps176
      go_wp2_with (first | (go_at_call 182; refine (HT.out _).mono ?_; rintro e w1 ⟨rfl, rfl⟩) | (go_at_call 183; refine (HQ.out _).mono ?_; rintro e w1 ⟨rfl, rfl⟩))
      go_ret
      exact ⟨rfl, rfl⟩
    · have e2 : sinI d = sinQ r := by rw [sinI, hr, if_neg h2, sinH, if_neg h3]
      have hQ : ∀ w1, Calls Tryz.prog 183 #[.int .i64 r] w1 fun e w' => e = .returned (.int .i64 (sinQ r)) ∧ w1 = w' := fun w1 => quarter_c _ _ (by omega) (by omega)
      rw [e2]
      generalize sinQ r = q at hQ ⊢
      have HT := Lib.hid hT; clear hT
      have HQ := Lib.hid hQ; clear hQ
      clear hr e2
      go_enter Tryz.func176, Tryz.ntmps176
      go_wp2_with (first | (go_at_call 182; refine (HT.out _).mono ?_; rintro e w1 ⟨rfl, rfl⟩) | (go_at_call 183; refine (HQ.out _).mono ?_; rintro e w1 ⟨rfl, rfl⟩))
      go_ret
      exact ⟨rfl, rfl⟩
theorem sin_turn (d : Int) : sinI (d % 360 + 90) = sinI (d + 90) := by
  have : (d % 360 + 90) % 360 = (d + 90) % 360 := by omega
  unfold sinI; rw [this]
set_option maxHeartbeats 400000 in
theorem cosine_c (d : Int) (w : World) (h0 : 0 ≤ d) (h1 : d ≤ 1000000) : Calls Tryz.prog 177 #[.int .i64 d] w fun e w' => e = .returned (.int .i64 (sinI (d + 90))) ∧ w = w' := by
  obtain ⟨r, hr⟩ : ∃ r, d % 360 = r := ⟨_, rfl⟩
  have hrb : 0 ≤ r ∧ r < 360 := by omega
  have hT : ∀ w1, Calls Tryz.prog 182 #[.int .i64 d] w1 fun e w' => e = .returned (.int .i64 r) ∧ w1 = w' := fun w1 => hr ▸ turned_c d w1 h0 h1
  rw [← sin_turn, hr]
  have hQ : ∀ w1, Calls Tryz.prog 176 #[.int .i64 (r + 90)] w1 fun e w' => e = .returned (.int .i64 (sinI (r + 90))) ∧ w1 = w' := fun w1 => sine_c _ _ (by omega) (by omega)
  generalize sinI (r + 90) = q at hQ ⊢
  have HT := Lib.hid hT; clear hT
  have HQ := Lib.hid hQ; clear hQ
  clear hr
  go_enter Tryz.func177, Tryz.ntmps177
  go_wp2_with (first | (go_at_call 182; refine (HT.out _).mono ?_; rintro e w1 ⟨rfl, rfl⟩) | (go_at_call 176; refine (HQ.out _).mono ?_; rintro e w1 ⟨rfl, rfl⟩))
  go_ret
  exact ⟨rfl, rfl⟩
end Go.Proofs.YtnmkpegdbgebeaaGreatDoor
/- Sines: the reference. -/
namespace Go.Proofs.YtnmkpegdbgebeaaGreatDoor
open Go.RowKit
theorem map_intC : ∀ L : List Int, L.map (Value.int .i64) = L.flatMap intC
  | [] => rfl
  | x :: r => by rw [List.map_cons, List.flatMap_cons, map_intC r]; rfl
set_option maxRecDepth 100000 in
set_option maxHeartbeats 1000000 in
theorem l02Table_c (w : World) : Calls Tryz.prog 173 #[] w fun e w' => e = .returned (.slice (some ⟨w.heap.size, 0, none⟩) 91 91) ∧ Sl w' w'.heap.size 1 (some ⟨w.heap.size, 0, none⟩) 91 (sinT.flatMap intC) ∧ Below w.heap.size w w' := by
  obtain ⟨L, hL⟩ : ∃ L : List Int, sinT = L := ⟨_, rfl⟩
  have hl : L.length = 91 := by rw [← hL]; rfl
  rw [hL]
  have hp : ∀ parts : Array (Nat × Operand), parts.toList = (([0, 17452, 34899, 52336, 69756, 87156, 104528, 121869, 139173, 156434, 173648, 190809, 207912, 224951, 241922, 258819, 275637, 292372, 309017, 325568, 342020, 358368, 374607, 390731, 406737, 422618, 438371, 453990, 469472, 484810, 500000, 515038, 529919, 544639, 559193, 573576, 587785, 601815, 615661, 629320, 642788, 656059, 669131, 681998, 694658, 707107, 719340, 731354, 743145, 754710, 766044, 777146, 788011, 798636, 809017, 819152, 829038, 838671, 848048, 857167, 866025, 874620, 882948, 891007, 898794, 906308, 913545, 920505, 927184, 933580, 939693, 945519, 951057, 956305, 961262, 965926, 970296, 974370, 978148, 981627, 984808, 987688, 990268, 992546, 994522, 996195, 997564, 998630, 999391, 999848, 1000000] : List Int).zipIdx 0).map (fun x => (x.2, Operand.const (Value.int .i64 x.1))) → parts.toList = (L.zipIdx 0).map (fun x => (x.2, Operand.const (Value.int .i64 x.1))) := fun parts h => hL ▸ h
  have HL := Lib.hid hL; clear hL
  have HP := Lib.hid hp; clear hp
  go_enter Tryz.func173, Tryz.ntmps173
  go_wp2_with (refine Go.wpList_buildFlatAt rfl 28 2 91 _ rfl .i64 L _ rfl _ rfl Tryz.underlying28 (by kernel_rfl) (by kernel_rfl) hl.symm (by omega) (by omega) (HP.out _ (by kernel_rfl)) ?_)
  go_ret
  refine ⟨rfl, ?_, by (repeat (first | (with_reducible assumption) | (with_reducible exact Below.refl _ _) | exact Nat.le_refl _ | exact Below.size (by with_reducible assumption) | (with_reducible refine Below.drew ?_) | (with_reducible refine below_drewN ?_ _) | (with_reducible refine Below.alloc ?_ ?_ _) | (with_reducible refine Below.setCell ?_ ?_ _) | (with_reducible refine le_alloc ?_ _) | (with_reducible refine le_set ?_ _ _) | (with_reducible refine le_drew ?_) | (with_reducible refine le_drewN ?_ _) | omega | (dsimp only; omega)))⟩
  have e : L.map (Value.int .i64) = L.flatMap intC := map_intC L
  have := Sl.new w 2 (L.flatMap intC) 91 1 (by rw [← e]; simp [hl])
  rw [e]
  exact this.more (by simp)
set_option maxRecDepth 100000 in
set_option maxHeartbeats 1000000 in
theorem l02SineIn_c (A : Option Addr) (c : Nat) (d : Int) (w : World) (h : Sl w w.heap.size 1 A 91 (sinT.flatMap intC)) (h0 : 0 ≤ d) (h1 : d ≤ 1000000) : Calls Tryz.prog 174 #[.slice A 91 c, .int .i64 d] w fun e w' => e = .returned (.int .i64 (sinI d)) ∧ w = w' := by
  have hg : ∀ k : Nat, k < 91 → ∃ b off, A = some ⟨b, off, none⟩ ∧ w.cell? ⟨b, off + k, none⟩ = some (.int .i64 (sinQ k)) := fun k hk => by
    obtain ⟨b, off, x, hA, _, hx, hc⟩ := h.int k hk
    refine ⟨b, off, hA, ?_⟩
    rw [hc, sinQ, List.getD_eq_getElem?_getD, Int.toNat_natCast, hx]; rfl
  obtain ⟨r, hr⟩ : ∃ r, d % 360 = r := ⟨_, rfl⟩
  have hrb : 0 ≤ r ∧ r < 360 := by omega
  have hT : ∀ w1, Calls Tryz.prog 181 #[.int .i64 d] w1 fun e w' => e = .returned (.int .i64 r) ∧ w1 = w' := fun w1 => hr ▸ l02Angle_c d w1 h0 h1
  obtain ⟨n, hn⟩ : ∃ n : Nat, (n : Int) = (if 180 ≤ r then (if 90 < r - 180 then 180 - (r - 180) else r - 180) else (if 90 < r then 180 - r else r)) := by
    obtain ⟨n, hn⟩ := Int.eq_ofNat_of_zero_le (show 0 ≤ (if 180 ≤ r then (if 90 < r - 180 then 180 - (r - 180) else r - 180) else (if 90 < r then 180 - r else r)) by split <;> split <;> omega)
    exact ⟨n, hn.symm⟩
  have hn1 : n < 91 := by split at hn <;> split at hn <;> omega
  have hv : sinI d = if 180 ≤ r then -sinQ n else sinQ n := by
    rw [sinI, hr, hn]
    split <;> rename_i h2 <;> rw [sinH]
    all_goals split <;> rename_i h3 <;> rfl
  obtain ⟨b, off, rfl, hc⟩ := hg n hn1
  have hb := sinQ_bd n
  rw [hv]
  have j1 : (0 : Int) ≤ (n : Int) := by omega
  have j2 : (n : Int) < 91 := by omega
  generalize sinQ (n : Int) = q at hc hb ⊢
  have HT := Lib.hid hT; clear hT
  have H := Lib.hid h; clear h
  clear hr hv hg
  by_cases h2 : 180 ≤ r
  · rw [if_pos h2] at hn ⊢
    by_cases h3 : 90 < r - 180
    · rw [if_pos h3] at hn
      have e2 : IntKind.i64.wrap (180 - (r - 180)) = (n : Int) := by rw [IntWalk.i64_in _ (by omega)]; omega
      clear hn
      go_enter Tryz.func174, Tryz.ntmps174
      go_wp2_with (go_at_call 181; refine (HT.out _).mono ?_; rintro e w1 ⟨rfl, rfl⟩)
      go_ret
      exact ⟨ret_eq (int_eq (by omega)), rfl⟩
    · rw [if_neg h3] at hn
      have e2 : IntKind.i64.wrap (r - 180) = (n : Int) := by rw [IntWalk.i64_in _ (by omega)]; omega
      have h4 : ¬ 90 < (n : Int) := by omega
      clear hn h3
      go_enter Tryz.func174, Tryz.ntmps174
      go_wp2_with (go_at_call 181; refine (HT.out _).mono ?_; rintro e w1 ⟨rfl, rfl⟩)
      go_ret
      exact ⟨ret_eq (int_eq (by omega)), rfl⟩
  · rw [if_neg h2] at hn ⊢
    by_cases h3 : 90 < r
    · rw [if_pos h3] at hn
      have e2 : IntKind.i64.wrap (180 - r) = (n : Int) := by rw [IntWalk.i64_in _ (by omega)]; omega
      clear hn
      go_enter Tryz.func174, Tryz.ntmps174
      go_wp2_with (go_at_call 181; refine (HT.out _).mono ?_; rintro e w1 ⟨rfl, rfl⟩)
      go_ret
      exact ⟨ret_eq (int_eq (by omega)), rfl⟩
    · rw [if_neg h3] at hn
      subst hn
      go_enter Tryz.func174, Tryz.ntmps174
      go_wp2_with (go_at_call 181; refine (HT.out _).mono ?_; rintro e w1 ⟨rfl, rfl⟩)
      go_ret
      exact ⟨ret_eq (int_eq (by omega)), rfl⟩
end Go.Proofs.YtnmkpegdbgebeaaGreatDoor
/- The color of a bearing; the greatest of some numbers: plain Lean. -/
namespace Go.Proofs.YtnmkpegdbgebeaaGreatDoor
open Go.RowKit
def hasD (s : Sec) (d : Int) : Bool := decide (distI s.f d < arcI s.f s.t)
/-- The first sector that has a bearing gives its color. -/
def colAt : List Sec → Int → ByteArray
  | [], _ => ⟨#[]⟩
  | s :: r, d => if hasD s d then s.c else colAt r d
/-- The last one of the first i. -/
def cirN (l : List Sec) (d : Int) : Nat → ByteArray
  | 0 => ⟨#[]⟩
  | i + 1 => if hasD (sAt l i) d then (sAt l i).c else cirN l d i
theorem colAt_none {l : List Sec} {d : Int} (h : ∀ i, i < l.length → hasD (sAt l i) d = false) : colAt l d = ⟨#[]⟩ := by
  induction l with
  | nil => rfl
  | cons s r ih =>
    rw [colAt, show hasD s d = false from h 0 (by simp)]
    exact ih fun i hi => h (i + 1) (by simp; omega)
theorem colAt_first {l : List Sec} {d : Int} {k : Nat} (hk : k < l.length) (h : ∀ i, i < k → hasD (sAt l i) d = false) (hd : hasD (sAt l k) d = true) : colAt l d = (sAt l k).c := by
  induction l generalizing k with
  | nil => simp at hk
  | cons s r ih =>
    cases k with
    | zero => rw [colAt, show hasD s d = true from hd]; rfl
    | succ k =>
      rw [colAt, show hasD s d = false from h 0 (by omega)]
      exact ih (by simp at hk; omega) (fun i hi => h (i + 1) (by omega)) hd
theorem cirN_none {l : List Sec} {d : Int} : ∀ n, (∀ i, i < n → hasD (sAt l i) d = false) → cirN l d n = ⟨#[]⟩
  | 0, _ => rfl
  | n + 1, h => by rw [cirN, h n (by omega)]; exact cirN_none n fun i hi => h i (by omega)
theorem cirN_last {l : List Sec} {d : Int} {k : Nat} (hd : hasD (sAt l k) d = true) : ∀ n, k < n → (∀ i, k < i → i < n → hasD (sAt l i) d = false) → cirN l d n = (sAt l k).c
  | n + 1, hk, h => by
    by_cases e : k = n
    · subst e; rw [cirN, hd]; rfl
    · rw [cirN, h n (by omega) (by omega)]; exact cirN_last hd n (by omega) fun i h1 h2 => h i h1 (by omega)
theorem has_one {l : List Sec} (h : secsP l) {d : Int} {i k : Nat} (hi : i < l.length) (hk : k < l.length) (h1 : hasD (sAt l i) d = true) (h2 : hasD (sAt l k) d = true) : i = k := by
  refine Classical.byContradiction fun hik => ?_
  have e1 := h.2.2 i hi k hk hik
  have e2 := h.2.2 k hk i hi (Ne.symm hik)
  simp only [hasD, decide_eq_true_eq] at h1 h2
  have a1 := arc_bd (sAt l i).f (sAt l i).t
  have a2 := arc_bd (sAt l k).f (sAt l k).t
  generalize arcI (sAt l i).f (sAt l i).t = A1 at *
  generalize arcI (sAt l k).f (sAt l k).t = A2 at *
  unfold distI at *
  omega
theorem cir_col {l : List Sec} (h : secsP l) (d : Int) : cirN l d l.length = colAt l d := by
  by_cases hx : ∃ k, k < l.length ∧ hasD (sAt l k) d = true
  · obtain ⟨k, hk, hd⟩ := hx
    have hu : ∀ i, i < l.length → i ≠ k → hasD (sAt l i) d = false := fun i hi hik => by
      cases hc : hasD (sAt l i) d
      · rfl
      · exact absurd (has_one h hi hk hc hd) hik
    rw [cirN_last hd _ hk fun i h1 h2 => hu i h2 (by omega), colAt_first hk (fun i hi => hu i (by omega) (by omega)) hd]
  · have hu : ∀ i, i < l.length → hasD (sAt l i) d = false := fun i hi => by
      cases hc : hasD (sAt l i) d
      · rfl
      · exact absurd ⟨i, hi, hc⟩ hx
    rw [cirN_none _ hu, colAt_none hu]
/-- The place that a step of the inner loop writes. -/
theorem circ_step {f d : Int} {k : Nat} (_hf : 0 ≤ f ∧ f ≤ 359) (hd : 0 ≤ d ∧ d ≤ 359) (hk : k < 360) : (f + k) % 360 = d ↔ distI f d = k := by unfold distI; omega
/-- The first of the greatest among the first k. -/
def topN (f : Nat → Int) : Nat → Nat
  | 0 => 0
  | k + 1 => if f (topN f k) < f k then k else topN f k
theorem topN_le (f : Nat → Int) : ∀ k, topN f k ≤ k
  | 0 => Nat.le_refl _
  | k + 1 => by
    have := topN_le f k
    rw [topN]
    split <;> omega
theorem topN_lt (f : Nat → Int) (n : Nat) (h : 0 < n) : topN f n < n := by
  cases n with
  | zero => omega
  | succ k =>
    have := topN_le f k
    rw [topN]
    split <;> omega
theorem mul_bd {a b A B : Int} (h1 : -A ≤ a) (h2 : a ≤ A) (h3 : -B ≤ b) (h4 : b ≤ B) : -(A * B) ≤ a * b ∧ a * b ≤ A * B := by
  have e : (a * b).natAbs ≤ A.natAbs * B.natAbs := by
    rw [Int.natAbs_mul]
    exact Nat.mul_le_mul (by omega) (by omega)
  have e2 : ((A.natAbs * B.natAbs : Nat) : Int) = A * B := by
    rw [Int.natCast_mul, Int.natAbs_of_nonneg (by omega), Int.natAbs_of_nonneg (by omega)]
  omega
end Go.Proofs.YtnmkpegdbgebeaaGreatDoor
/- Bearings: plain; the reference. -/
namespace Go.Proofs.YtnmkpegdbgebeaaGreatDoor
open Go.RowKit
def ptB (x y : Int) : Bool := inB x 0 200000 && inB y 0 200000
def alongI (x y u v : Int) (d : Nat) : Int := (u - x) * sinI d + (v - y) * sinI (d + 90)
def bearI (x y u v : Int) : Int := (topN (alongI x y u v) 360 : Nat)
theorem bearI_in (x y u v : Int) : 0 ≤ bearI x y u v ∧ bearI x y u v ≤ 359 := by
  have := topN_lt (alongI x y u v) 360 (by omega)
  unfold bearI; omega
/-- The two products stay small. -/
theorem along_bd {x y u v : Int} (hx : 0 ≤ x ∧ x ≤ 200000) (hy : 0 ≤ y ∧ y ≤ 200000) (hu : 0 ≤ u ∧ u ≤ 200000) (hv : 0 ≤ v ∧ v ≤ 200000) (d e : Int) :
    (-200000000000 ≤ (u - x) * sinI d ∧ (u - x) * sinI d ≤ 200000000000) ∧ (-200000000000 ≤ (v - y) * sinI e ∧ (v - y) * sinI e ≤ 200000000000) := by
  have h1 := sinI_bd d
  have h2 := sinI_bd e
  have m1 := mul_bd (A := 200000) (B := 1000000) (show -200000 ≤ u - x by omega) (show u - x ≤ 200000 by omega) h1.1 h1.2
  have m2 := mul_bd (A := 200000) (B := 1000000) (show -200000 ≤ v - y by omega) (show v - y ≤ 200000 by omega) h2.1 h2.2
  exact ⟨⟨by omega, by omega⟩, ⟨by omega, by omega⟩⟩
structure PtP (w : World) (b : Nat) (x y : Int) : Prop where
  c0 : w.cell? ⟨b, 0, none⟩ = some (.int .i64 x)
  c1 : w.cell? ⟨b, 1, none⟩ = some (.int .i64 y)
  hb : b < w.heap.size
theorem PtP.next {w w' : World} {b : Nat} {x y : Int} (h : PtP w b x y) (hb : Below w.heap.size w w') : PtP w' b x y :=
  have k := keepC hb b h.hb
  ⟨(k _).trans h.c0, (k _).trans h.c1, Nat.lt_of_lt_of_le h.hb hb.size⟩
theorem PtP.box (w : World) (x y : Int) : PtP (w.alloc (.cells #[.int .i64 x, .int .i64 y] 25)) w.heap.size x y :=
  have hb : (w.alloc (.cells #[.int .i64 x, .int .i64 y] 25)).heap[w.heap.size]? = some (.cells #[.int .i64 x, .int .i64 y] 25 (0, 0)) := heap_alloc_new w _
  ⟨(cell_of_row _ w.heap.size _ _ 25 (0, 0) hb).trans rfl, (cell_of_row _ w.heap.size _ _ 25 (0, 0) hb).trans rfl, by simp⟩
set_option maxRecDepth 100000 in
set_option maxHeartbeats 1000000 in
theorem along_c (b b' : Nat) (x y u v : Int) (d : Nat) (w : World) (h : PtP w b x y) (h' : PtP w b' u v) (hx : 0 ≤ x ∧ x ≤ 200000) (hy : 0 ≤ y ∧ y ≤ 200000) (hu : 0 ≤ u ∧ u ≤ 200000) (hv : 0 ≤ v ∧ v ≤ 200000) (hd : d ≤ 100000) :
    Calls Tryz.prog 175 #[.int .i64 d, .pointer (some ⟨b', 0, none⟩), .pointer (some ⟨b, 0, none⟩)] w fun e w' => e = .returned (.int .i64 (alongI x y u v d)) ∧ ∃ n, w' = w.drewN n := by
  have hm := along_bd hx hy hu hv d (d + 90)
  have hv : alongI x y u v d = (u - x) * sinI d + (v - y) * sinI (d + 90) := rfl
  rw [hv]
  have hS : ∀ w1, Calls Tryz.prog 176 #[.int .i64 d] w1 fun e w' => e = .returned (.int .i64 (sinI d)) ∧ w1 = w' := fun w1 => sine_c d w1 (by omega) (by omega)
  have hC : ∀ w1, Calls Tryz.prog 177 #[.int .i64 d] w1 fun e w' => e = .returned (.int .i64 (sinI (d + 90))) ∧ w1 = w' := fun w1 => cosine_c d w1 (by omega) (by omega)
  generalize sinI (d : Int) = S at hS hm ⊢
  generalize sinI ((d : Int) + 90) = C at hC hm ⊢
  obtain ⟨⟨m1, m2⟩, m3, m4⟩ := hm
  obtain ⟨p, hp⟩ : ∃ p, (u - x) * S = p := ⟨_, rfl⟩
  obtain ⟨q, hq⟩ : ∃ q, (v - y) * C = q := ⟨_, rfl⟩
  have e1 : IntKind.i64.wrap ((u - x) * S) = p := by rw [IntWalk.i64_in _ (by omega)]; exact hp
  have e2 : IntKind.i64.wrap ((v - y) * C) = q := by rw [IntWalk.i64_in _ (by omega)]; exact hq
  rw [hp] at m1 m2 ⊢
  rw [hq] at m3 m4 ⊢
  obtain ⟨c0, c1, _⟩ := h
  obtain ⟨d0, d1, _⟩ := h'
  have HS := Lib.hid hS; clear hS
  have HC := Lib.hid hC; clear hC
  clear hv hp hq
  go_enter Tryz.func175, Tryz.ntmps175
  go_wp2
  go_quiet (first | (go_at_call 176; exact quiet_c (HS.out _)) | (go_at_call 177; exact quiet_c (HC.out _)))
  go_wp2
  go_ret
  exact ⟨rfl, _, rfl⟩
set_option maxRecDepth 100000 in
set_option maxHeartbeats 1000000 in
theorem l02Bearing_c (x y u v : Int) (w : World) (hx : 0 ≤ x ∧ x ≤ 200000) (hy : 0 ≤ y ∧ y ≤ 200000) (hu : 0 ≤ u ∧ u ≤ 200000) (hv : 0 ≤ v ∧ v ≤ 200000) :
    Calls Tryz.prog 146 #[.agg #[.int .i64 x, .int .i64 y], .agg #[.int .i64 u, .int .i64 v]] w fun e w' => e = .returned (.int .i64 (bearI x y u v)) ∧ Below w.heap.size w w' := by
  obtain ⟨f, hf⟩ : ∃ f, alongI x y u v = f := ⟨_, rfl⟩
  obtain ⟨s, hs⟩ : ∃ s, sinI = s := ⟨_, rfl⟩
  have hF : ∀ d : Nat, f d = (u - x) * s d + (v - y) * s (d + 90) ∧ (-200000000000 ≤ (u - x) * s d ∧ (u - x) * s d ≤ 200000000000) ∧ (-200000000000 ≤ (v - y) * s (d + 90) ∧ (v - y) * s (d + 90) ≤ 200000000000) :=
    fun d => by rw [← hf, ← hs]; exact ⟨rfl, along_bd hx hy hu hv d (d + 90)⟩
  have hSI : ∀ (T : Option Addr) (d : Int) (w1 : World), Sl w1 w1.heap.size 1 T 91 (sinT.flatMap intC) → 0 ≤ d → d ≤ 1000000 → Calls Tryz.prog 174 #[.slice T 91 91, .int .i64 d] w1 fun e w' => e = .returned (.int .i64 (s d)) ∧ w1 = w' := fun T d w1 h h0 h1 => hs ▸ l02SineIn_c T 91 d w1 h h0 h1
  have HSI := Lib.hid hSI; clear hSI
  have Hs := Lib.hid hs; clear hs
  obtain ⟨R, hR⟩ : ∃ R : Nat, topN f 360 = R := ⟨_, rfl⟩
  have hB : bearI x y u v = (R : Nat) := by rw [← hR, ← hf, bearI]
  rw [hB]
  have HR := Lib.hid hR; clear hR
  have hb0 : Below w.heap.size w ((w.alloc (.cells #[.int .i64 x, .int .i64 y] 25)).alloc (.cells #[.int .i64 u, .int .i64 v] 25)) := by (repeat (first | (with_reducible assumption) | (with_reducible exact Below.refl _ _) | exact Nat.le_refl _ | exact Below.size (by with_reducible assumption) | (with_reducible refine Below.drew ?_) | (with_reducible refine below_drewN ?_ _) | (with_reducible refine Below.alloc ?_ ?_ _) | (with_reducible refine Below.setCell ?_ ?_ _) | (with_reducible refine le_alloc ?_ _) | (with_reducible refine le_set ?_ _ _) | (with_reducible refine le_drew ?_) | (with_reducible refine le_drewN ?_ _) | omega | (dsimp only; omega)))
  have p1 := (PtP.box w x y).next (w' := (w.alloc (.cells #[.int .i64 x, .int .i64 y] 25)).alloc (.cells #[.int .i64 u, .int .i64 v] 25)) (by (repeat (first | (with_reducible assumption) | (with_reducible exact Below.refl _ _) | exact Nat.le_refl _ | exact Below.size (by with_reducible assumption) | (with_reducible refine Below.drew ?_) | (with_reducible refine below_drewN ?_ _) | (with_reducible refine Below.alloc ?_ ?_ _) | (with_reducible refine Below.setCell ?_ ?_ _) | (with_reducible refine le_alloc ?_ _) | (with_reducible refine le_set ?_ _ _) | (with_reducible refine le_drew ?_) | (with_reducible refine le_drewN ?_ _) | omega | (dsimp only; omega))))
  have p2 := PtP.box (w.alloc (.cells #[.int .i64 x, .int .i64 y] 25)) u v
  have hsz : (w.alloc (.cells #[.int .i64 x, .int .i64 y] 25)).heap.size = w.heap.size + 1 := by simp
  rw [hsz] at p2
  obtain ⟨w0, hw⟩ : ∃ w0, (w.alloc (.cells #[.int .i64 x, .int .i64 y] 25)).alloc (.cells #[.int .i64 u, .int .i64 v] 25) = w0 := ⟨_, rfl⟩
  rw [hw] at hb0 p1 p2
  have Hf := Lib.hid hf; clear hf
  have HF := Lib.hid hF; clear hF
  have HB := Lib.hid hB; clear hB
  clear hsz
  go_enter Tryz.func146, Tryz.ntmps146
  go_wp2_with fail
  try rw [hw]
  clear hw
  refine (l02Table_c _).mono ?_
  rintro e w1 ⟨rfl, hsl, hb1⟩
  have p1 := p1.next hb1
  have p2 := p2.next hb1
  obtain ⟨T, hT⟩ : ∃ T : Option Addr, some (⟨w0.heap.size, 0, none⟩ : Addr) = T := ⟨_, rfl⟩
  rw [hT] at hsl ⊢
  clear hT
  replace hb1 := hb0.trans (hb1.mono hb0.size)
  have Hsl := Lib.hid hsl; clear hsl
  go_wp2_with fail
  go_loopw [5, 6, 8] (fun b m i wr => ∃ k : Nat, k ≤ 360 ∧ i = .int .i64 k ∧ b = .int .i64 (topN f k : Nat) ∧ m = .int .i64 (if k = 0 then 0 else f (topN f k)) ∧ Below w1.heap.size w1 wr) (fun _ _ i _ => 360 - (intOf i).toNat)
  case atStart => exact ⟨0, by omega, rfl, rfl, rfl, Below.refl _ _⟩
  case round =>
    obtain ⟨k, hk, rfl, rfl, rfl, hbw⟩ := hrel
    by_cases hlt : k < 360
    · obtain ⟨hfk, ⟨m1, m2⟩, m3, m4⟩ := HF.out k
      have q1 := p1.next hbw
      have q2 := p2.next hbw
      have hS : ∀ (d : Int) (n : Nat), 0 ≤ d → d ≤ 1000 → Calls Tryz.prog 174 #[.slice T 91 91, .int .i64 d] (wr.drewN n) fun e w' => e = .returned (.int .i64 (s d)) ∧ wr.drewN n = w' := fun d n h0 h1 =>
        HSI.out T d _ ((Hsl.out.next hbw).next (below_drewN (Below.refl _ _) n)) h0 (by omega)
      obtain ⟨p, hp⟩ : ∃ p, (u - x) * s k = p := ⟨_, rfl⟩
      obtain ⟨q, hq⟩ : ∃ q, (v - y) * s (k + 90) = q := ⟨_, rfl⟩
      have e1 : IntKind.i64.wrap ((u - x) * s k) = p := by rw [IntWalk.i64_in _ (by omega)]; exact hp
      have e2 : IntKind.i64.wrap ((v - y) * s (k + 90)) = q := by rw [IntWalk.i64_in _ (by omega)]; exact hq
      rw [hp] at m1 m2 hfk
      rw [hq] at m3 m4 hfk
      have ht : topN f (k + 1) = if f (topN f k) < f k then k else topN f k := rfl
      have htk := topN_le f k
      have ht0 : k = 0 → topN f k = 0 := fun h => by rw [h]; rfl
      obtain ⟨t, htt⟩ : ∃ t, topN f k = t := ⟨_, rfl⟩
      rw [htt] at ht htk ht0 ⊢
      have hg := HF.out t
      obtain ⟨g, hgg⟩ : ∃ g, f t = g := ⟨_, rfl⟩
      have hgb : -400000000000 ≤ g ∧ g ≤ 400000000000 := by omega
      clear hg
      rw [hgg] at ht ⊢
      obtain ⟨c0, c1, _⟩ := q1
      obtain ⟨d0, d1, _⟩ := q2
      have HS := Lib.hid hS; clear hS
      have Hp := Lib.hid hp; clear hp
      have Hq := Lib.hid hq; clear hq
      have Htt := Lib.hid htt; clear htt
      have Hgg := Lib.hid hgg; clear hgg
      have Ht := Lib.hid ht; clear ht
      have Hfk := Lib.hid hfk; clear hfk
      by_cases hk0 : k = 0
      · have ht0 := ht0 hk0
        subst ht0
        have ke : ((k : Int) == 0) = true := by simpa using hk0
        rw [if_pos hk0]
        have ht1 : topN f (k + 1) = 0 := by rw [Ht.out, hk0]; split <;> rfl
        have Ht1 := Lib.hid ht1; clear ht1
        have Hk0 := Lib.hid hk0; clear hk0
        go_wp2
        go_quiet ((go_at_call 174; exact quiet_c (HS.out _ _ (by omega) (by omega))))
        go_wp2
        go_roundw
        case rel => exact ⟨k + 1, by omega, by go_num, by rw [Ht1.out, Hk0.out], by rw [Ht1.out, if_neg (by omega), ← Hfk.out, Hk0.out], below_drewN hbw _⟩
        case measure => simp [intOf]; omega
      · clear ht0
        rw [if_neg hk0]
        have ke : ((k : Int) == 0) = false := by simpa using hk0
        by_cases hgt : g < p + q
        · go_wp2
          go_quiet ((go_at_call 174; exact quiet_c (HS.out _ _ (by omega) (by omega))))
          go_wp2
          go_roundw
          case rel => exact ⟨k + 1, by omega, by go_num, by rw [Ht.out, Hfk.out, if_pos hgt], by rw [Ht.out, Hfk.out, if_pos hgt, if_neg (by omega), Hfk.out], below_drewN hbw _⟩
          case measure => simp [intOf]; omega
        · go_wp2
          go_quiet ((go_at_call 174; exact quiet_c (HS.out _ _ (by omega) (by omega))))
          go_wp2
          go_roundw
          case rel => exact ⟨k + 1, by omega, by go_num, by rw [Ht.out, Hfk.out, if_neg (by omega)], by rw [Ht.out, Hfk.out, if_neg (by omega), if_neg (by omega), Hgg.out], below_drewN hbw _⟩
          case measure => simp [intOf]; omega
    · have hk3 : Hid (k = 360) := Lib.hid (by omega)
      obtain ⟨t, htt⟩ : ∃ t, topN f k = t := ⟨_, rfl⟩
      rw [htt]
      have Htt := Lib.hid htt; clear htt
      generalize (if k = 0 then (0 : Int) else f t) = g
      go_wp2
      go_ret
      exact ⟨ret_eq (int_eq (by rw [← Htt.out, ← HR.out, hk3.out])), hb1.trans (hbw.mono hb1.size)⟩
end Go.Proofs.YtnmkpegdbgebeaaGreatDoor
/- Two aids compared: the reference's and the program's own comparisons. -/
namespace Go.Proofs.YtnmkpegdbgebeaaGreatDoor
open Go.RowKit
theorem pointHeld : Tryz.prog.stoodInHeld 25 = false := by kernel_rfl
theorem pointGuard : Tryz.prog.eqGuardType Tryz.prog.depth 25 = false := by kernel_rfl
theorem eql_point (x y u v : Int) (w : World) : (binOp .eql 25 (ptV x y) (ptV u v)).run Tryz.prog w = .ok (.bool (x == u && y == v)) w := by
  rw [run_eql_struct]
  have := pointHeld
  go_simp
  by_cases h1 : x = u <;> by_cases h2 : y = v <;> simp [h1, h2]
def mkSame (m n : Mk) : Bool := (m.k == n.k) && ((m.cs.toList == n.cs.toList) && ((m.sh.toList == n.sh.toList) && (m.tp.toList == n.tp.toList)))
theorem eql_mark (m n : Mk) (w : World) : (binOp .eql 27 m.val n.val).run Tryz.prog w = .ok (.bool (mkSame m n)) w := by
  obtain ⟨k, a, b, c⟩ := m
  obtain ⟨k', a', b', c'⟩ := n
  rw [run_eql_struct]
  have := markHeld
  simp only [mkSame]
  go_simp
  by_cases h1 : k = k' <;> by_cases h2 : a.toList = a'.toList <;> by_cases h3 : b.toList = b'.toList <;> by_cases h4 : c.toList = c'.toList <;> simp [h1, h2, h3, h4]
/-- Two aids are equal; what is said of their characters and sectors comes from outside. -/
def aidSame0 (a b : AidX) (C S : Bool) : Bool := (a.num == b.num) && ((a.nm.toList == b.nm.toList) && ((a.x == b.x && a.y == b.y) && ((a.h == b.h) && (mkSame a.mr b.mr && (C && (S && (a.it == b.it)))))))
/-- The zero aid. -/
abbrev aidZ : AidG := ⟨⟨0, ⟨#[]⟩, 0, 0, 0, ⟨0, ⟨#[]⟩, ⟨#[]⟩, ⟨#[]⟩⟩, ⟨0, [], ⟨#[]⟩, ⟨#[]⟩, 0⟩, [], 0⟩, none, 0, none, 0⟩
def aidNil (a : AidX) : Bool := aidSame0 a aidZ.a (sameCh a.ch aidZ.a.ch) ((a.secs.length : Int) == 0)
theorem aidz_ok (w : World) : AidOk w aidZ := ⟨Sl.none_, Sl.none_, ⟨by decide, by decide, by decide, by decide, by decide, by decide, by decide, by decide, by simp⟩⟩
end Go.Proofs.YtnmkpegdbgebeaaGreatDoor
/- The square of a distance. -/
namespace Go.Proofs.YtnmkpegdbgebeaaGreatDoor
open Go.RowKit
def sqI (x y u v : Int) : Int := (x - u) * (x - u) + (y - v) * (y - v)
theorem sq_bound {d : Int} (h1 : -1000000 ≤ d) (h2 : d ≤ 1000000) : 0 ≤ d * d ∧ d * d ≤ 1000000000000 := by
  constructor
  · rcases Int.le_total 0 d with h | h
    · exact Int.mul_nonneg h h
    · have := Int.mul_nonneg (Int.neg_nonneg_of_nonpos h) (Int.neg_nonneg_of_nonpos h)
      simpa only [Int.neg_mul_neg] using this
  · rcases Int.le_total 0 d with h | h
    · exact Int.mul_le_mul h2 h2 h (by omega)
    · have := Int.mul_le_mul (show -d ≤ 1000000 by omega) (show -d ≤ 1000000 by omega) (by omega) (by omega)
      rw [Int.neg_mul_neg] at this
      omega
set_option maxHeartbeats 1000000 in
theorem squared_c (x y u v : Int) (w : World) (h1 : -1000000 ≤ x - u ∧ x - u ≤ 1000000) (h2 : -1000000 ≤ y - v ∧ y - v ≤ 1000000) :
    Calls Tryz.prog 149 #[ptV x y, ptV u v] w fun e w' => e = .returned (.int .i64 (sqI x y u v)) ∧ Below w.heap.size w w' := by
  have s1 := sq_bound h1.1 h1.2
  have s2 := sq_bound h2.1 h2.2
  unfold sqI
  have e1 : IntKind.i64.wrap (x - u) = x - u := IntWalk.i64_in _ (by omega)
  have e2 : IntKind.i64.wrap (y - v) = y - v := IntWalk.i64_in _ (by omega)
  have e3 : IntKind.i64.wrap ((x - u) * (x - u)) = (x - u) * (x - u) := IntWalk.i64_in _ (by omega)
  have e4 : IntKind.i64.wrap ((y - v) * (y - v)) = (y - v) * (y - v) := IntWalk.i64_in _ (by omega)
  have e5 : IntKind.i64.wrap ((x - u) * (x - u) + (y - v) * (y - v)) = (x - u) * (x - u) + (y - v) * (y - v) := IntWalk.i64_in _ (by omega)
  go_enter Tryz.func149, Tryz.ntmps149
  go_wp2
  go_ret
  exact ⟨rfl, by (repeat (first | (with_reducible assumption) | (with_reducible exact Below.refl _ _) | exact Nat.le_refl _ | exact Below.size (by with_reducible assumption) | (with_reducible refine Below.drew ?_) | (with_reducible refine below_drewN ?_ _) | (with_reducible refine Below.alloc ?_ ?_ _) | (with_reducible refine Below.setCell ?_ ?_ _) | (with_reducible refine le_alloc ?_ _) | (with_reducible refine le_set ?_ _ _) | (with_reducible refine le_drew ?_) | (with_reducible refine le_drewN ?_ _) | omega | (dsimp only; omega)))⟩
set_option maxHeartbeats 1000000 in
theorem l02Square_c (x y u v : Int) (w : World) (h1 : -1000000 ≤ x - u ∧ x - u ≤ 1000000) (h2 : -1000000 ≤ y - v ∧ y - v ≤ 1000000) :
    Calls Tryz.prog 144 #[ptV x y, ptV u v] w fun e w' => e = .returned (.int .i64 (sqI x y u v)) ∧ Below w.heap.size w w' := by
  have s1 := sq_bound h1.1 h1.2
  have s2 := sq_bound h2.1 h2.2
  unfold sqI
  have e1 : IntKind.i64.wrap (x - u) = x - u := IntWalk.i64_in _ (by omega)
  have e2 : IntKind.i64.wrap (y - v) = y - v := IntWalk.i64_in _ (by omega)
  have e3 : IntKind.i64.wrap ((x - u) * (x - u)) = (x - u) * (x - u) := IntWalk.i64_in _ (by omega)
  have e4 : IntKind.i64.wrap ((y - v) * (y - v)) = (y - v) * (y - v) := IntWalk.i64_in _ (by omega)
  have e5 : IntKind.i64.wrap ((x - u) * (x - u) + (y - v) * (y - v)) = (x - u) * (x - u) + (y - v) * (y - v) := IntWalk.i64_in _ (by omega)
  go_enter Tryz.func144, Tryz.ntmps144
  go_wp2
  go_ret
  exact ⟨rfl, by (repeat (first | (with_reducible assumption) | (with_reducible exact Below.refl _ _) | exact Nat.le_refl _ | exact Below.size (by with_reducible assumption) | (with_reducible refine Below.drew ?_) | (with_reducible refine below_drewN ?_ _) | (with_reducible refine Below.alloc ?_ ?_ _) | (with_reducible refine Below.setCell ?_ ?_ _) | (with_reducible refine le_alloc ?_ _) | (with_reducible refine le_set ?_ _ _) | (with_reducible refine le_drew ?_) | (with_reducible refine le_drewN ?_ _) | omega | (dsimp only; omega)))⟩
/-- The first of the least among the first k. -/
def bestN (d : Nat → Int) : Nat → Nat
  | 0 => 0
  | k + 1 => if d k < d (bestN d k) then k else bestN d k
theorem bestN_lt (d : Nat → Int) : ∀ k, 0 < k → bestN d k < k
  | 1, _ => by simp [bestN]
  | k + 2, _ => by
    have := bestN_lt d (k + 1) (by omega)
    rw [bestN]
    split <;> omega
theorem bestN_in (d : Nat → Int) (k n : Nat) (hk : k ≤ n) (hn : 0 < n) : bestN d k < n := by
  rcases Nat.eq_zero_or_pos k with rfl | h
  · exact hn
  · exact Nat.lt_of_lt_of_le (bestN_lt d k h) hk
def nearD (l : List AidX) (u v : Int) (i : Nat) : Int := sqI (aAt l i).x (aAt l i).y u v
/-- The number of the nearest aid, and the code. -/
def nearN (l : List AidX) (u v : Int) : Int := bif aidsB l && (inB u 0 200000 && inB v 0 200000) && !l.isEmpty then (aAt l (bestN (nearD l u v) l.length)).num else 0
def nearK (l : List AidX) (u v : Int) : Int := bif aidsB l && (inB u 0 200000 && inB v 0 200000) then bif l.isEmpty then 6 else 0 else 1
end Go.Proofs.YtnmkpegdbgebeaaGreatDoor
/- Bearings and distances: the program. -/
namespace Go.Proofs.YtnmkpegdbgebeaaGreatDoor
open Go.RowKit
abbrev ptC (p : Int × Int) : List Value := [.int .i64 p.1, .int .i64 p.2]
theorem ptC_len (p : Int × Int) : (ptC p).length = 2 := rfl
theorem Sl.pt {w : World} {B n : Nat} {A : Option Addr} {ps : List (Int × Int)} (h : Sl w B 2 A n (ps.flatMap ptC)) (k : Nat) (hk : k < n) :
    ∃ b off p, A = some ⟨b, off, none⟩ ∧ b < B ∧ ps[k]? = some p ∧ w.cell? ⟨b, off + k * 2, none⟩ = some (.int .i64 p.1) ∧ w.cell? ⟨b, off + k * 2 + 1, none⟩ = some (.int .i64 p.2) := by
  obtain ⟨b, off, p, hA, hb, hx, hc⟩ := h.get ptC 2 ptC_len (by omega) k hk
  exact ⟨b, off, p, hA, hb, hx, hc 0 _ rfl, hc 1 _ rfl⟩
theorem ptB_bd {x y : Int} (h : ptB x y = true) : (0 ≤ x ∧ x ≤ 200000) ∧ (0 ≤ y ∧ y ≤ 200000) := by
  simp only [ptB, Bool.and_eq_true, inB_iff] at h
  exact h
theorem sq_nn (a : Int) : 0 ≤ a * a := by
  rcases Int.le_total 0 a with h | h
  · exact Int.mul_nonneg h h
  · have := Int.mul_nonneg (Int.neg_nonneg_of_nonpos h) (Int.neg_nonneg_of_nonpos h)
    simpa only [Int.neg_mul_neg] using this
theorem sq_pos (x y u v : Int) : 0 ≤ sqI x y u v := by
  have h1 := sq_nn (x - u)
  have h2 := sq_nn (y - v)
  unfold sqI; omega
set_option maxRecDepth 100000 in
set_option maxHeartbeats 1000000 in
theorem arePoints_c (A : Option Addr) (n c : Nat) (ps : List (Int × Int)) (w : World) (h : Sl w w.heap.size 2 A n (ps.flatMap ptC)) (hn : n ≤ 1048576) (hv : ∀ p ∈ ps, ptB p.1 p.2 = true) :
    Calls Tryz.prog 147 #[.slice A n c] w fun e w' => e = .returned (.bool true) ∧ Below w.heap.size w w' := by
  have Hv := Lib.hid hv; clear hv
  go_enter Tryz.func147, Tryz.ntmps147
  go_wp2
  go_loopw [7] (fun i wr => ∃ k : Nat, k ≤ n ∧ i = .int .i64 k ∧ Below w.heap.size w wr) (fun i _ => n - (intOf i).toNat)
  case atStart => exact ⟨0, Nat.zero_le _, rfl, Below.refl _ _⟩
  case round =>
    obtain ⟨k, hk, rfl, hbw⟩ := hrel
    by_cases hlt : k < n
    · obtain ⟨b, off, ⟨x, y⟩, rfl, hb, hx, c0, c1⟩ := h.pt k hlt
      have j1 : (0 : Int) ≤ (k : Int) := by omega
      have j2 : (k : Int) < (n : Int) := by omega
      have c0 := (keepC hbw b hb _).trans c0
      have c1 := (keepC hbw b hb _).trans c1
      have hV : ∀ w1, Calls Tryz.prog 81 #[ptV x y] w1 fun e w' => e = .returned (.bool true) ∧ Below w1.heap.size w1 w' := fun w1 => by
        have h1 := validPoint_c x y w1
        have h2 := Hv.out _ (List.mem_of_getElem? hx)
        simp only [ptB] at h2
        rwa [h2] at h1
      have HV := Lib.hid hV; clear hV
      have Hx := Lib.hid hx; clear hx
      go_wp2_with (go_at_call 81; refine (HV.out _).mono ?_; rintro e w1 ⟨rfl, hb1⟩)
      go_roundw
      case rel => exact ⟨k + 1, by omega, by go_num, Below.trans (by (repeat (first | (with_reducible assumption) | (with_reducible exact Below.refl _ _) | exact Nat.le_refl _ | exact Below.size (by with_reducible assumption) | (with_reducible refine Below.drew ?_) | (with_reducible refine below_drewN ?_ _) | (with_reducible refine Below.alloc ?_ ?_ _) | (with_reducible refine Below.setCell ?_ ?_ _) | (with_reducible refine le_alloc ?_ _) | (with_reducible refine le_set ?_ _ _) | (with_reducible refine le_drew ?_) | (with_reducible refine le_drewN ?_ _) | omega | (dsimp only; omega)))) (hb1.mono (by have := hbw.size; simp; omega))⟩
      case measure => simp [intOf]; omega
    · go_wp2
      go_ret
      exact ⟨rfl, hbw⟩
set_option maxRecDepth 100000 in
set_option maxHeartbeats 1000000 in
theorem distance_c (x y u v : Int) (w : World) (hP : ptB x y = true) (hQ : ptB u v = true) :
    Calls Tryz.prog 117 #[ptV x y, ptV u v] w fun e w' => e = .returned (.int .i64 (rootI (sqI x y u v))) ∧ Below w.heap.size w w' := by
  have bx : ((0 ≤ x ∧ x ≤ 200000) ∧ (0 ≤ y ∧ y ≤ 200000)) ∧ ((0 ≤ u ∧ u ≤ 200000) ∧ (0 ≤ v ∧ v ≤ 200000)) := ⟨ptB_bd hP, ptB_bd hQ⟩
  have hb0 : Below w.heap.size w ((w.alloc (.cells #[.int .i64 x, .int .i64 y] 25)).alloc (.cells #[.int .i64 u, .int .i64 v] 25)) := by (repeat (first | (with_reducible assumption) | (with_reducible exact Below.refl _ _) | exact Nat.le_refl _ | exact Below.size (by with_reducible assumption) | (with_reducible refine Below.drew ?_) | (with_reducible refine below_drewN ?_ _) | (with_reducible refine Below.alloc ?_ ?_ _) | (with_reducible refine Below.setCell ?_ ?_ _) | (with_reducible refine le_alloc ?_ _) | (with_reducible refine le_set ?_ _ _) | (with_reducible refine le_drew ?_) | (with_reducible refine le_drewN ?_ _) | omega | (dsimp only; omega)))
  have p1 := (PtP.box w x y).next (w' := (w.alloc (.cells #[.int .i64 x, .int .i64 y] 25)).alloc (.cells #[.int .i64 u, .int .i64 v] 25)) (by (repeat (first | (with_reducible assumption) | (with_reducible exact Below.refl _ _) | exact Nat.le_refl _ | exact Below.size (by with_reducible assumption) | (with_reducible refine Below.drew ?_) | (with_reducible refine below_drewN ?_ _) | (with_reducible refine Below.alloc ?_ ?_ _) | (with_reducible refine Below.setCell ?_ ?_ _) | (with_reducible refine le_alloc ?_ _) | (with_reducible refine le_set ?_ _ _) | (with_reducible refine le_drew ?_) | (with_reducible refine le_drewN ?_ _) | omega | (dsimp only; omega))))
  have p2 := PtP.box (w.alloc (.cells #[.int .i64 x, .int .i64 y] 25)) u v
  have hsz : (w.alloc (.cells #[.int .i64 x, .int .i64 y] 25)).heap.size = w.heap.size + 1 := by simp
  rw [hsz] at p2
  obtain ⟨w0, hw⟩ : ∃ w0, (w.alloc (.cells #[.int .i64 x, .int .i64 y] 25)).alloc (.cells #[.int .i64 u, .int .i64 v] 25) = w0 := ⟨_, rfl⟩
  rw [hw] at hb0 p1 p2
  have hA : ∀ w1, Sl w1 w1.heap.size 2 (some ⟨w0.heap.size, 0, none⟩) 2 ([(x, y), (u, v)].flatMap ptC) → Calls Tryz.prog 147 #[.slice (some ⟨w0.heap.size, 0, none⟩) 2 2] w1 fun e w' => e = .returned (.bool true) ∧ Below w1.heap.size w1 w' := fun w1 h1 => arePoints_c _ 2 2 [(x, y), (u, v)] w1 h1 (by omega) (by
    intro p hp
    simp only [List.mem_cons, List.not_mem_nil, or_false] at hp
    rcases hp with rfl | rfl
    · exact hP
    · exact hQ)
  have hA1 := hA (w0.alloc (.cells #[.int .i64 x, .int .i64 y, .int .i64 u, .int .i64 v] 25)) ((Sl.new w0 25 ([(x, y), (u, v)].flatMap ptC) 2 2 rfl).more (by simp))
  have hb5 : Below w0.heap.size w0 (w0.alloc (.cells #[.int .i64 x, .int .i64 y, .int .i64 u, .int .i64 v] 25)) := by (repeat (first | (with_reducible assumption) | (with_reducible exact Below.refl _ _) | exact Nat.le_refl _ | exact Below.size (by with_reducible assumption) | (with_reducible refine Below.drew ?_) | (with_reducible refine below_drewN ?_ _) | (with_reducible refine Below.alloc ?_ ?_ _) | (with_reducible refine Below.setCell ?_ ?_ _) | (with_reducible refine le_alloc ?_ _) | (with_reducible refine le_set ?_ _ _) | (with_reducible refine le_drew ?_) | (with_reducible refine le_drewN ?_ _) | omega | (dsimp only; omega)))
  have p3 := p1.next hb5
  have p4 := p2.next hb5
  clear hA hsz
  have hS : ∀ w1, Calls Tryz.prog 149 #[ptV x y, ptV u v] w1 fun e w' => e = .returned (.int .i64 (sqI x y u v)) ∧ Below w1.heap.size w1 w' := fun w1 => squared_c x y u v w1 (by omega) (by omega)
  have hR : ∀ w1, Calls Tryz.prog 148 #[.int .i64 (sqI x y u v)] w1 fun e w' => e = .returned (.int .i64 (rootI (sqI x y u v))) ∧ w1 = w' := fun w1 => (rootOf_c (sqI x y u v) w1 (sq_pos x y u v)).mono fun _ _ ⟨h1, _, h2⟩ => ⟨h1, h2⟩
  obtain ⟨c0, c1, _⟩ := p1
  obtain ⟨d0, d1, _⟩ := p2
  have HS := Lib.hid hS; clear hS
  have HR := Lib.hid hR; clear hR
  have Bx := Lib.hid bx; clear bx
  go_enter Tryz.func117, Tryz.ntmps117
  go_wp2_with fail
  try rw [hw]
  clear hw
  refine hA1.mono ?_
  rintro e w1 ⟨rfl, hb1⟩
  obtain ⟨c2, c3, _⟩ := p3.next hb1
  obtain ⟨d2, d3, _⟩ := p4.next hb1
  replace hb1 := hb0.trans ((hb5.trans (hb1.mono hb5.size)).mono hb0.size)
  clear c0 c1 d0 d1 p3 p4 hA1
  go_wp2_with (first | (go_at_call 149; refine (HS.out _).mono ?_; rintro e w2 ⟨rfl, hb2⟩) | (go_at_call 148; refine (HR.out _).mono ?_; rintro e w3 ⟨rfl, rfl⟩))
  go_ret
  exact ⟨rfl, hb1.trans (hb2.mono hb1.size)⟩
set_option maxRecDepth 100000 in
set_option maxHeartbeats 1000000 in
theorem bearing_c (x y u v : Int) (w : World) (hP : ptB x y = true) (hQ : ptB u v = true) (hne : (x == u && y == v) = false) :
    Calls Tryz.prog 151 #[ptV x y, ptV u v] w fun e w' => e = .returned (.int .i64 (bearI x y u v)) ∧ Below w.heap.size w w' := by
  have bx : ((0 ≤ x ∧ x ≤ 200000) ∧ (0 ≤ y ∧ y ≤ 200000)) ∧ ((0 ≤ u ∧ u ≤ 200000) ∧ (0 ≤ v ∧ v ≤ 200000)) := ⟨ptB_bd hP, ptB_bd hQ⟩
  have he := eql_point x y u v
  rw [hne] at he
  have hg := pointGuard
  have hb0 : Below w.heap.size w ((w.alloc (.cells #[.int .i64 x, .int .i64 y] 25)).alloc (.cells #[.int .i64 u, .int .i64 v] 25)) := by (repeat (first | (with_reducible assumption) | (with_reducible exact Below.refl _ _) | exact Nat.le_refl _ | exact Below.size (by with_reducible assumption) | (with_reducible refine Below.drew ?_) | (with_reducible refine below_drewN ?_ _) | (with_reducible refine Below.alloc ?_ ?_ _) | (with_reducible refine Below.setCell ?_ ?_ _) | (with_reducible refine le_alloc ?_ _) | (with_reducible refine le_set ?_ _ _) | (with_reducible refine le_drew ?_) | (with_reducible refine le_drewN ?_ _) | omega | (dsimp only; omega)))
  have p1 := (PtP.box w x y).next (w' := (w.alloc (.cells #[.int .i64 x, .int .i64 y] 25)).alloc (.cells #[.int .i64 u, .int .i64 v] 25)) (by (repeat (first | (with_reducible assumption) | (with_reducible exact Below.refl _ _) | exact Nat.le_refl _ | exact Below.size (by with_reducible assumption) | (with_reducible refine Below.drew ?_) | (with_reducible refine below_drewN ?_ _) | (with_reducible refine Below.alloc ?_ ?_ _) | (with_reducible refine Below.setCell ?_ ?_ _) | (with_reducible refine le_alloc ?_ _) | (with_reducible refine le_set ?_ _ _) | (with_reducible refine le_drew ?_) | (with_reducible refine le_drewN ?_ _) | omega | (dsimp only; omega))))
  have p2 := PtP.box (w.alloc (.cells #[.int .i64 x, .int .i64 y] 25)) u v
  have hsz : (w.alloc (.cells #[.int .i64 x, .int .i64 y] 25)).heap.size = w.heap.size + 1 := by simp
  rw [hsz] at p2
  obtain ⟨w0, hw⟩ : ∃ w0, (w.alloc (.cells #[.int .i64 x, .int .i64 y] 25)).alloc (.cells #[.int .i64 u, .int .i64 v] 25) = w0 := ⟨_, rfl⟩
  rw [hw] at hb0 p1 p2
  have hA : ∀ w1, Sl w1 w1.heap.size 2 (some ⟨w0.heap.size, 0, none⟩) 2 ([(x, y), (u, v)].flatMap ptC) → Calls Tryz.prog 147 #[.slice (some ⟨w0.heap.size, 0, none⟩) 2 2] w1 fun e w' => e = .returned (.bool true) ∧ Below w1.heap.size w1 w' := fun w1 h1 => arePoints_c _ 2 2 [(x, y), (u, v)] w1 h1 (by omega) (by
    intro p hp
    simp only [List.mem_cons, List.not_mem_nil, or_false] at hp
    rcases hp with rfl | rfl
    · exact hP
    · exact hQ)
  have hA1 := hA (w0.alloc (.cells #[.int .i64 x, .int .i64 y, .int .i64 u, .int .i64 v] 25)) ((Sl.new w0 25 ([(x, y), (u, v)].flatMap ptC) 2 2 rfl).more (by simp))
  have hb5 : Below w0.heap.size w0 (w0.alloc (.cells #[.int .i64 x, .int .i64 y, .int .i64 u, .int .i64 v] 25)) := by (repeat (first | (with_reducible assumption) | (with_reducible exact Below.refl _ _) | exact Nat.le_refl _ | exact Below.size (by with_reducible assumption) | (with_reducible refine Below.drew ?_) | (with_reducible refine below_drewN ?_ _) | (with_reducible refine Below.alloc ?_ ?_ _) | (with_reducible refine Below.setCell ?_ ?_ _) | (with_reducible refine le_alloc ?_ _) | (with_reducible refine le_set ?_ _ _) | (with_reducible refine le_drew ?_) | (with_reducible refine le_drewN ?_ _) | omega | (dsimp only; omega)))
  have p3 := p1.next hb5
  have p4 := p2.next hb5
  clear hA hsz
  obtain ⟨f, hf⟩ : ∃ f, alongI x y u v = f := ⟨_, rfl⟩
  obtain ⟨R, hR⟩ : ∃ R : Nat, topN f 360 = R := ⟨_, rfl⟩
  have hB : bearI x y u v = (R : Nat) := by rw [← hR, ← hf, bearI]
  rw [hB]
  have hF : ∀ (d : Nat) (w1 : World), PtP w1 w.heap.size x y → PtP w1 (w.heap.size + 1) u v → d ≤ 100000 → Calls Tryz.prog 175 #[.int .i64 d, .pointer (some ⟨w.heap.size + 1, 0, none⟩), .pointer (some ⟨w.heap.size, 0, none⟩)] w1 fun e w' => e = .returned (.int .i64 (f d)) ∧ ∃ n, w' = w1.drewN n :=
    fun d w1 h1 h2 hd => hf ▸ along_c _ _ x y u v d w1 h1 h2 bx.1.1 bx.1.2 bx.2.1 bx.2.2 hd
  have hFb : ∀ d : Nat, -400000000000 ≤ f d ∧ f d ≤ 400000000000 := fun d => by
    have := along_bd bx.1.1 bx.1.2 bx.2.1 bx.2.2 d (d + 90)
    rw [← hf]
    show -400000000000 ≤ (u - x) * sinI d + (v - y) * sinI (d + 90) ∧ (u - x) * sinI d + (v - y) * sinI (d + 90) ≤ 400000000000
    omega
  obtain ⟨c0, c1, _⟩ := p1
  obtain ⟨d0, d1, _⟩ := p2
  have HR := Lib.hid hR; clear hR
  have Hf := Lib.hid hf; clear hf
  have HB := Lib.hid hB; clear hB
  have HF := Lib.hid hF; clear hF
  have HFb := Lib.hid hFb; clear hFb
  have Bx := Lib.hid bx; clear bx
  go_enter Tryz.func151, Tryz.ntmps151
  go_wp2_with fail
  try rw [hw]
  clear hw
  refine hA1.mono ?_
  rintro e w1 ⟨rfl, hb1⟩
  have p5 := p3.next hb1
  have p6 := p4.next hb1
  obtain ⟨c2, c3, _⟩ := id p5
  obtain ⟨d2, d3, _⟩ := id p6
  replace hb1 := hb0.trans ((hb5.trans (hb1.mono hb5.size)).mono hb0.size)
  clear c0 c1 d0 d1 p3 p4 hA1
  go_wp2_with fail
  refine (HF.out 0 w1 p5 p6 (by omega)).mono ?_
  rintro e w2 ⟨rfl, n2, hw2⟩
  have hb2 : Below w1.heap.size w1 w2 := by rw [hw2]; exact below_drewN (Below.refl _ _) _
  have p7 := p5.next hb2
  have p8 := p6.next hb2
  replace hb2 := hb1.trans (hb2.mono hb1.size)
  clear hw2
  go_wp2_with fail
  go_loopw [6, 7, 23] (fun b m i wr => ∃ k : Nat, k ≤ 360 ∧ i = .int .i64 k ∧ b = .int .i64 (topN f k : Nat) ∧ m = .int .i64 (f (topN f k)) ∧ Below w2.heap.size w2 wr) (fun _ _ i _ => 360 - (intOf i).toNat)
  case atStart => exact ⟨0, by omega, rfl, rfl, rfl, Below.refl _ _⟩
  case round =>
    obtain ⟨k, hk, rfl, rfl, rfl, hbw⟩ := hrel
    by_cases hlt : k < 360
    · have q1 := p7.next hbw
      have q2 := p8.next hbw
      have ht : topN f (k + 1) = if f (topN f k) < f k then k else topN f k := rfl
      have htk := topN_le f k
      obtain ⟨t, htt⟩ : ∃ t, topN f k = t := ⟨_, rfl⟩
      rw [htt] at ht htk ⊢
      have hgb := HFb.out t
      have hkb := HFb.out k
      have hFk := HF.out k wr q1 q2 (by omega)
      obtain ⟨g, hgg⟩ : ∃ g, f t = g := ⟨_, rfl⟩
      obtain ⟨p, hpp⟩ : ∃ p, f k = p := ⟨_, rfl⟩
      rw [hgg] at ht hgb ⊢
      rw [hpp] at ht hkb hFk
      have Htt := Lib.hid htt; clear htt
      have Hgg := Lib.hid hgg; clear hgg
      have Hpp := Lib.hid hpp; clear hpp
      have Ht := Lib.hid ht; clear ht
      have HFk := Lib.hid hFk; clear hFk
      by_cases hgt : g < p
      · go_wp2_with (go_at_call 175; refine (HFk.out).mono ?_; rintro e w3 ⟨rfl, n3, rfl⟩)
        go_roundw
        case rel => exact ⟨k + 1, by omega, by go_num, by rw [Ht.out, if_pos (by omega)], by rw [Ht.out, if_pos (by omega), Hpp.out], below_drewN hbw _⟩
        case measure => simp [intOf]; omega
      · go_wp2_with (go_at_call 175; refine (HFk.out).mono ?_; rintro e w3 ⟨rfl, n3, rfl⟩)
        go_roundw
        case rel => exact ⟨k + 1, by omega, by go_num, by rw [Ht.out, if_neg (by omega)], by rw [Ht.out, if_neg (by omega), Hgg.out], below_drewN hbw _⟩
        case measure => simp [intOf]; omega
    · have hk3 : Hid (k = 360) := Lib.hid (by omega)
      obtain ⟨t, htt⟩ : ∃ t, topN f k = t := ⟨_, rfl⟩
      rw [htt]
      have Htt := Lib.hid htt; clear htt
      generalize f t = g
      go_wp2
      go_ret
      exact ⟨ret_eq (int_eq (by rw [← Htt.out, ← HR.out, hk3.out])), hb2.trans (hbw.mono hb2.size)⟩
end Go.Proofs.YtnmkpegdbgebeaaGreatDoor
