/- The logarithm in thousandths, and the greatest distance for which an intensity is enough: plain Lean. -/
import Derived.Test.YtgkdjohiclhcoaaBase
namespace Go.Proofs.Ytgkdjohiclhcoaa
/-- Digits less one. -/
def digN : Nat → Int → Int
  | 0, _ => 0
  | f + 1, m => if 10 ≤ m then 1 + digN f (m / 10) else 0
def upI : Nat → Int → Int
  | 0, x => x
  | k + 1, x => upI k (x * 10)
/-- One multiplication. -/
def mulS (x : Int) (s : Int × Int) : Int × Int := if 1000000000 ≤ s.1 * x / 100000000 then (s.1 * x / 100000000 / 10, s.2 + 1) else (s.1 * x / 100000000, s.2)
def mulN (x : Int) : Nat → Int × Int → Int × Int
  | 0, s => s
  | k + 1, s => mulN x k (mulS x s)
/-- One digit: (r, x). -/
def digS (s : Int × Int) : Int × Int := (10 * s.1 + (mulN s.2 10 (100000000, 0)).2, (mulN s.2 10 (100000000, 0)).1)
def startL (n : Int) : Int × Int := (digN 64 n, upI (8 - digN 64 n).toNat n)
def tlog (n : Int) : Int := (digS (digS (digS (startL n)))).1
/-- Order of pairs. -/
def lexP (a b : Int × Int) : Prop := a.1 < b.1 ∨ (a.1 = b.1 ∧ a.2 ≤ b.2)
def inX (x : Int) : Prop := 100000000 ≤ x ∧ x < 1000000000
theorem mulS_in {x : Int} (hx : inX x) {s : Int × Int} (hs : inX s.1) : inX (mulS x s).1 := by
  obtain ⟨a, b⟩ := hx
  obtain ⟨c, d⟩ := hs
  have h1 : 100000000 * 100000000 ≤ s.1 * x := Int.mul_le_mul c a (by omega) (by omega)
  have h2 : s.1 * x ≤ 999999999 * 999999999 := Int.mul_le_mul (by omega) (by omega) (by omega) (by omega)
  unfold mulS inX
  split <;> simp only <;> omega
theorem mulN_in {x : Int} (hx : inX x) : ∀ (k : Nat) (s : Int × Int), inX s.1 → inX (mulN x k s).1
  | 0, _, h => h
  | k + 1, _, h => mulN_in hx k _ (mulS_in hx h)
theorem mulS_le {x y : Int} (hx : inX x) (hy : inX y) (hxy : x ≤ y) {s t : Int × Int} (hs : inX s.1) (ht : inX t.1) (h : lexP (s.2, s.1) (t.2, t.1)) :
    lexP ((mulS x s).2, (mulS x s).1) ((mulS y t).2, (mulS y t).1) := by
  obtain ⟨a, b⟩ := hx
  obtain ⟨a', b'⟩ := hy
  obtain ⟨c, d⟩ := hs
  obtain ⟨c', d'⟩ := ht
  have h1 : 100000000 * 100000000 ≤ s.1 * x := Int.mul_le_mul c a (by omega) (by omega)
  have h1' : 100000000 * 100000000 ≤ t.1 * y := Int.mul_le_mul c' a' (by omega) (by omega)
  have h2 : s.1 * x ≤ 999999999 * 999999999 := Int.mul_le_mul (by omega) (by omega) (by omega) (by omega)
  have h2' : t.1 * y ≤ 999999999 * 999999999 := Int.mul_le_mul (by omega) (by omega) (by omega) (by omega)
  have h10 : s.1 * x ≤ (10 * t.1) * y := Int.mul_le_mul (by omega) hxy (by omega) (by omega)
  rw [Int.mul_assoc] at h10
  have hle : s.1 ≤ t.1 → s.1 * x ≤ t.1 * y := fun e => Int.mul_le_mul e hxy (by omega) (by omega)
  unfold lexP at h ⊢
  unfold mulS
  simp only at h
  generalize s.1 * x = p at *
  generalize t.1 * y = q at *
  rcases h with h | ⟨h, h'⟩
  · split <;> split <;> simp only <;> omega
  · have := hle h'
    split <;> split <;> simp only <;> omega
theorem mulN_le {x y : Int} (hx : inX x) (hy : inX y) (hxy : x ≤ y) : ∀ (k : Nat) (s t : Int × Int), inX s.1 → inX t.1 → lexP (s.2, s.1) (t.2, t.1) → lexP ((mulN x k s).2, (mulN x k s).1) ((mulN y k t).2, (mulN y k t).1)
  | 0, _, _, _, _, h => h
  | k + 1, _, _, hs, ht, h => mulN_le hx hy hxy k _ _ (mulS_in hx hs) (mulS_in hy ht) (mulS_le hx hy hxy hs ht h)
/-- The digits: between 0 and 9. -/
theorem mulS_d (x : Int) (s : Int × Int) : s.2 ≤ (mulS x s).2 ∧ (mulS x s).2 ≤ s.2 + 1 := by
  unfold mulS; split <;> simp only <;> omega
theorem mulN_d (x : Int) : ∀ (k : Nat) (s : Int × Int), s.2 ≤ (mulN x k s).2 ∧ (mulN x k s).2 ≤ s.2 + k
  | 0, s => by simp [mulN]
  | k + 1, s => by
    have h1 := mulS_d x s
    have h2 := mulN_d x k (mulS x s)
    rw [mulN]; omega
theorem mulN_first {x : Int} (hx : inX x) : 0 ≤ (mulN x 10 (100000000, 0)).2 ∧ (mulN x 10 (100000000, 0)).2 ≤ 9 := by
  have e : mulS x (100000000, 0) = (x, 0) := by
    obtain ⟨a, b⟩ := hx
    unfold mulS
    have : 100000000 * x / 100000000 = x := by omega
    simp only [this]
    rw [if_neg (by omega)]
  have := mulN_d x 9 (x, 0)
  rw [show (10 : Nat) = 9 + 1 from rfl, mulN, e]
  simpa using this
theorem digS_in {s : Int × Int} (h : inX s.2) : inX (digS s).2 := mulN_in h 10 _ ⟨by decide, by decide⟩
theorem digS_le {s t : Int × Int} (hs : inX s.2) (ht : inX t.2) (h : lexP s t) : lexP (digS s) (digS t) := by
  have d1 := mulN_first hs
  have d2 := mulN_first ht
  rcases h with h | ⟨h, h'⟩
  · left; unfold digS; simp only; omega
  · have := mulN_le hs ht h' 10 (100000000, 0) (100000000, 0) ⟨by decide, by decide⟩ ⟨by decide, by decide⟩ (.inr ⟨rfl, Int.le_refl _⟩)
    unfold lexP at this ⊢
    unfold digS
    simp only at this ⊢
    omega
theorem pow10_pos (k : Nat) : (1 : Int) ≤ 10 ^ k := by
  induction k with
  | zero => simp
  | succ k ih => rw [Int.pow_succ]; omega
theorem digN_eq : ∀ (k f : Nat) (n : Int), 10 ^ k ≤ n → n < 10 ^ (k + 1) → k < f → digN f n = k
  | _, 0, _, _, _, hf => absurd hf (by omega)
  | 0, f + 1, n, _, h2, _ => by
    rw [digN, if_neg (by omega)]; rfl
  | k + 1, f + 1, n, h1, h2, hf => by
    have p := pow10_pos k
    rw [Int.pow_succ] at h1
    rw [Int.pow_succ, Int.pow_succ] at h2
    generalize hq : (10 : Int) ^ k = q at *
    rw [digN, if_pos (by omega), digN_eq k f (n / 10) (by omega) (by rw [Int.pow_succ, hq]; omega) (by omega)]
    omega
theorem upI_eq : ∀ (k : Nat) (x : Int), upI k x = x * 10 ^ k
  | 0, x => by simp [upI]
  | k + 1, x => by rw [upI, upI_eq k, Int.pow_succ, Int.mul_assoc, Int.mul_comm 10 (10 ^ k)]
theorem dig_ex {n : Int} (h : 1 ≤ n) (h8 : n < 1000000000) : ∃ k : Nat, k ≤ 8 ∧ 10 ^ k ≤ n ∧ n < 10 ^ (k + 1) := by
  rcases Int.lt_or_le n 10 with a | a
  · exact ⟨0, by omega, h, a⟩
  rcases Int.lt_or_le n 100 with b | b
  · exact ⟨1, by omega, a, b⟩
  rcases Int.lt_or_le n 1000 with a | a
  · exact ⟨2, by omega, b, a⟩
  rcases Int.lt_or_le n 10000 with b | b
  · exact ⟨3, by omega, a, b⟩
  rcases Int.lt_or_le n 100000 with a | a
  · exact ⟨4, by omega, b, a⟩
  rcases Int.lt_or_le n 1000000 with b | b
  · exact ⟨5, by omega, a, b⟩
  rcases Int.lt_or_le n 10000000 with a | a
  · exact ⟨6, by omega, b, a⟩
  rcases Int.lt_or_le n 100000000 with b | b
  · exact ⟨7, by omega, a, b⟩
  · exact ⟨8, by omega, b, h8⟩
theorem startL_eq {n : Int} {k : Nat} (hk : k ≤ 8) (h1 : 10 ^ k ≤ n) (h2 : n < 10 ^ (k + 1)) : startL n = ((k : Int), n * 10 ^ (8 - k)) := by
  unfold startL
  rw [digN_eq k 64 n h1 h2 (by omega), upI_eq, show ((8 : Int) - (k : Int)).toNat = 8 - k by omega]
theorem pow_split {k : Nat} (hk : k ≤ 8) : (10 : Int) ^ k * 10 ^ (8 - k) = 100000000 := by
  rw [← Int.pow_add, show k + (8 - k) = 8 by omega]; rfl
theorem startL_in {n : Int} (h : 1 ≤ n) (h8 : n < 1000000000) : inX (startL n).2 := by
  obtain ⟨k, hk, h1, h2⟩ := dig_ex h h8
  rw [startL_eq hk h1 h2]
  have p := pow10_pos (8 - k)
  have e := pow_split hk
  have a := Int.mul_le_mul_of_nonneg_right h1 (show (0 : Int) ≤ 10 ^ (8 - k) by omega)
  have b := Int.mul_lt_mul_of_pos_right h2 (show (0 : Int) < 10 ^ (8 - k) by omega)
  rw [e] at a
  rw [Int.pow_succ, Int.mul_assoc, Int.mul_comm 10, ← Int.mul_assoc, e] at b
  exact ⟨a, b⟩
theorem startL_le {n m : Int} (h : 1 ≤ n) (hnm : n ≤ m) (h8 : m < 1000000000) : lexP (startL n) (startL m) := by
  obtain ⟨k, hk, h1, h2⟩ := dig_ex h (show n < 1000000000 by omega)
  obtain ⟨j, hj, g1, g2⟩ := dig_ex (show 1 ≤ m by omega) h8
  rw [startL_eq hk h1 h2, startL_eq hj g1 g2]
  rcases Nat.lt_trichotomy k j with a | a | a
  · left; simp only; omega
  · subst a
    right
    have p := pow10_pos (8 - k)
    exact ⟨rfl, Int.mul_le_mul_of_nonneg_right hnm (by omega)⟩
  · exfalso
    have e : (10 : Int) ^ k = 10 ^ (j + 1) * 10 ^ (k - (j + 1)) := by rw [← Int.pow_add, show j + 1 + (k - (j + 1)) = k by omega]
    have p := pow10_pos (k - (j + 1))
    have q := pow10_pos (j + 1)
    have := Int.mul_le_mul_of_nonneg_left p (show (0 : Int) ≤ 10 ^ (j + 1) by omega)
    omega
theorem tlog_le {n m : Int} (h : 1 ≤ n) (hnm : n ≤ m) (h8 : m < 1000000000) : tlog n ≤ tlog m := by
  have i1 := startL_in h (show n < 1000000000 by omega)
  have i2 := startL_in (show 1 ≤ m by omega) h8
  have := digS_le (digS_in (digS_in i1)) (digS_in (digS_in i2)) (digS_le (digS_in i1) (digS_in i2) (digS_le i1 i2 (startL_le h hnm h8)))
  unfold lexP at this
  unfold tlog
  omega
theorem startL_r {n : Int} (h : 1 ≤ n) (h8 : n < 1000000000) : 0 ≤ (startL n).1 ∧ (startL n).1 ≤ 8 := by
  obtain ⟨k, hk, h1, h2⟩ := dig_ex h h8
  rw [startL_eq hk h1 h2]
  simp only; omega
theorem digS_r {s : Int × Int} (h : inX s.2) : 10 * s.1 ≤ (digS s).1 ∧ (digS s).1 ≤ 10 * s.1 + 9 := by
  have := mulN_first h
  unfold digS; simp only; omega
theorem tlog_in {n : Int} (h : 1 ≤ n) (h8 : n < 1000000000) : 0 ≤ tlog n ∧ tlog n ≤ 8999 := by
  have i1 := startL_in h h8
  have a := startL_r h h8
  have b := digS_r i1
  have c := digS_r (digS_in i1)
  have d := digS_r (digS_in (digS_in i1))
  unfold tlog
  omega
/-! The greatest distance. -/
def enoughB (i d v : Int) : Bool := decide (2 * tlog d ≤ tlog i + 6699 - 1301 * d / v)
theorem enough_le {i d d' v : Int} (h1 : 1 ≤ d) (h2 : d ≤ d') (h3 : d' ≤ 100000) (hv : 1 ≤ v) (h : enoughB i d' v = true) : enoughB i d v = true := by
  unfold enoughB at h ⊢
  simp only [decide_eq_true_eq] at h ⊢
  have t := tlog_le h1 h2 (by omega)
  have q : 1301 * d / v ≤ 1301 * d' / v := Int.ediv_le_ediv (by omega) (by omega)
  omega
structure IsLum (i v r : Int) : Prop where
  lo : 0 ≤ r
  hi : r ≤ 100000
  yes : 0 < r → enoughB i r v = true
  no : r < 100000 → enoughB i (r + 1) v = false
theorem isLum_one {i v r s : Int} (hv : 1 ≤ v) (h : IsLum i v r) (k : IsLum i v s) : r = s := by
  obtain ⟨a1, a2, a3, a4⟩ := h
  obtain ⟨b1, b2, b3, b4⟩ := k
  rcases Int.lt_trichotomy r s with h | h | h
  · have := enough_le (i := i) (show 1 ≤ r + 1 by omega) (show r + 1 ≤ s by omega) b2 hv (b3 (by omega))
    rw [a4 (by omega)] at this; cases this
  · exact h
  · have := enough_le (i := i) (show 1 ≤ s + 1 by omega) (show s + 1 ≤ r by omega) a2 hv (a3 (by omega))
    rw [b4 (by omega)] at this; cases this
open Classical in
noncomputable def lumI (i v : Int) : Int := if h : ∃ r, IsLum i v r then Classical.choose h else 0
theorem lumI_eq {i v r : Int} (hv : 1 ≤ v) (h : IsLum i v r) : lumI i v = r := by
  have hx : ∃ r, IsLum i v r := ⟨r, h⟩
  unfold lumI
  rw [dif_pos hx]
  exact isLum_one hv (Classical.choose_spec hx) h
/-! Square roots. -/
structure IsRoot (n r : Int) : Prop where
  lo : 0 ≤ r
  hi : r ≤ 3037000499
  yes : r * r ≤ n
  no : r < 3037000499 → n < (r + 1) * (r + 1)
theorem isRoot_one {n r s : Int} (h : IsRoot n r) (k : IsRoot n s) : r = s := by
  obtain ⟨a1, a2, a3, a4⟩ := h
  obtain ⟨b1, b2, b3, b4⟩ := k
  rcases Int.lt_trichotomy r s with h | h | h
  · have := Int.mul_le_mul (show r + 1 ≤ s by omega) (show r + 1 ≤ s by omega) (by omega) (by omega)
    have := a4 (by omega)
    omega
  · exact h
  · have := Int.mul_le_mul (show s + 1 ≤ r by omega) (show s + 1 ≤ r by omega) (by omega) (by omega)
    have := b4 (by omega)
    omega
open Classical in
noncomputable def rootI (n : Int) : Int := if h : ∃ r, IsRoot n r then Classical.choose h else 0
theorem rootI_eq {n r : Int} (h : IsRoot n r) : rootI n = r := by
  have hx : ∃ r, IsRoot n r := ⟨r, h⟩
  unfold rootI
  rw [dif_pos hx]
  exact isRoot_one (Classical.choose_spec hx) h
end Go.Proofs.Ytgkdjohiclhcoaa
