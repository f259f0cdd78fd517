/- CalG: several of my texts in one. -/
import Derived.Test.YtpgcgmbjlecnpaaGreatBase
import Derived.Test.YtpgcgmbjlecnpaaGreatChecked
import Derived.Test.YtpgcgmbjlecnpaaGreatSmall
import Derived.Great.BuildSlice
import Derived.Test.YtpgcgmbjlecnpaaGreatApp
import Derived.OwnWalk
/- The logarithm in thousandths, and the greatest distance for which an intensity is enough: plain Lean. -/
namespace Go.Proofs.YtpgcgmbjlecnpaaGreat
/-- Digits less one. -/
def digN : Nat → Int → Int
  | 0, _ => 0
  | f + 1, m => if 10 ≤ m then 1 + digN f (m / 10) else 0
def upI : Nat → Int → Int
  | 0, x => x
  | k + 1, x => upI k (x * 10)
/-- One multiplication. -/
def mulS (x : Int) (s : Int × Int) : Int × Int := if 1000000000 ≤ s.1 * x / 100000000 then (s.1 * x / 100000000 / 10, s.2 + 1) else (s.1 * x / 100000000, s.2)
def mulN (x : Int) : Nat → Int × Int → Int × Int
  | 0, s => s
  | k + 1, s => mulN x k (mulS x s)
/-- One digit: (r, x). -/
def digS (s : Int × Int) : Int × Int := (10 * s.1 + (mulN s.2 10 (100000000, 0)).2, (mulN s.2 10 (100000000, 0)).1)
def startL (n : Int) : Int × Int := (digN 64 n, upI (8 - digN 64 n).toNat n)
def tlog (n : Int) : Int := (digS (digS (digS (startL n)))).1
/-- Order of pairs. -/
def lexP (a b : Int × Int) : Prop := a.1 < b.1 ∨ (a.1 = b.1 ∧ a.2 ≤ b.2)
def inX (x : Int) : Prop := 100000000 ≤ x ∧ x < 1000000000
theorem mulS_in {x : Int} (hx : inX x) {s : Int × Int} (hs : inX s.1) : inX (mulS x s).1 := by
  obtain ⟨a, b⟩ := hx
  obtain ⟨c, d⟩ := hs
  have h1 : 100000000 * 100000000 ≤ s.1 * x := Int.mul_le_mul c a (by omega) (by omega)
  have h2 : s.1 * x ≤ 999999999 * 999999999 := Int.mul_le_mul (by omega) (by omega) (by omega) (by omega)
  unfold mulS inX
  split <;> simp only <;> omega
theorem mulN_in {x : Int} (hx : inX x) : ∀ (k : Nat) (s : Int × Int), inX s.1 → inX (mulN x k s).1
  | 0, _, h => h
  | k + 1, _, h => mulN_in hx k _ (mulS_in hx h)
theorem mulS_le {x y : Int} (hx : inX x) (hy : inX y) (hxy : x ≤ y) {s t : Int × Int} (hs : inX s.1) (ht : inX t.1) (h : lexP (s.2, s.1) (t.2, t.1)) :
    lexP ((mulS x s).2, (mulS x s).1) ((mulS y t).2, (mulS y t).1) := by
  obtain ⟨a, b⟩ := hx
  obtain ⟨a', b'⟩ := hy
  obtain ⟨c, d⟩ := hs
  obtain ⟨c', d'⟩ := ht
  have h1 : 100000000 * 100000000 ≤ s.1 * x := Int.mul_le_mul c a (by omega) (by omega)
  have h1' : 100000000 * 100000000 ≤ t.1 * y := Int.mul_le_mul c' a' (by omega) (by omega)
  have h2 : s.1 * x ≤ 999999999 * 999999999 := Int.mul_le_mul (by omega) (by omega) (by omega) (by omega)
  have h2' : t.1 * y ≤ 999999999 * 999999999 := Int.mul_le_mul (by omega) (by omega) (by omega) (by omega)
  have h10 : s.1 * x ≤ (10 * t.1) * y := Int.mul_le_mul (by omega) hxy (by omega) (by omega)
  rw [Int.mul_assoc] at h10
  have hle : s.1 ≤ t.1 → s.1 * x ≤ t.1 * y := fun e => Int.mul_le_mul e hxy (by omega) (by omega)
  unfold lexP at h ⊢
  unfold mulS
  simp only at h
  generalize s.1 * x = p at *
  generalize t.1 * y = q at *
  rcases h with h | ⟨h, h'⟩
  · split <;> split <;> simp only <;> omega
  · have := hle h'
    split <;> split <;> simp only <;> omega
theorem mulN_le {x y : Int} (hx : inX x) (hy : inX y) (hxy : x ≤ y) : ∀ (k : Nat) (s t : Int × Int), inX s.1 → inX t.1 → lexP (s.2, s.1) (t.2, t.1) → lexP ((mulN x k s).2, (mulN x k s).1) ((mulN y k t).2, (mulN y k t).1)
  | 0, _, _, _, _, h => h
  | k + 1, _, _, hs, ht, h => mulN_le hx hy hxy k _ _ (mulS_in hx hs) (mulS_in hy ht) (mulS_le hx hy hxy hs ht h)
/-- The digits: between 0 and 9. -/
theorem mulS_d (x : Int) (s : Int × Int) : s.2 ≤ (mulS x s).2 ∧ (mulS x s).2 ≤ s.2 + 1 := by
  unfold mulS; split <;> simp only <;> omega
theorem mulN_d (x : Int) : ∀ (k : Nat) (s : Int × Int), s.2 ≤ (mulN x k s).2 ∧ (mulN x k s).2 ≤ s.2 + k
  | 0, s => by simp [mulN]
  | k + 1, s => by
    have h1 := mulS_d x s
    have h2 := mulN_d x k (mulS x s)
    rw [mulN]; omega
theorem mulN_first {x : Int} (hx : inX x) : 0 ≤ (mulN x 10 (100000000, 0)).2 ∧ (mulN x 10 (100000000, 0)).2 ≤ 9 := by
  have e : mulS x (100000000, 0) = (x, 0) := by
    obtain ⟨a, b⟩ := hx
    unfold mulS
    have : 100000000 * x / 100000000 = x := by omega
    simp only [this]
    rw [if_neg (by omega)]
  have := mulN_d x 9 (x, 0)
  rw [show (10 : Nat) = 9 + 1 from rfl, mulN, e]
  simpa using this
theorem digS_in {s : Int × Int} (h : inX s.2) : inX (digS s).2 := mulN_in h 10 _ ⟨by decide, by decide⟩
theorem digS_le {s t : Int × Int} (hs : inX s.2) (ht : inX t.2) (h : lexP s t) : lexP (digS s) (digS t) := by
  have d1 := mulN_first hs
  have d2 := mulN_first ht
  rcases h with h | ⟨h, h'⟩
  · left; unfold digS; simp only; omega
  · have := mulN_le hs ht h' 10 (100000000, 0) (100000000, 0) ⟨by decide, by decide⟩ ⟨by decide, by decide⟩ (.inr ⟨rfl, Int.le_refl _⟩)
    unfold lexP at this ⊢
    unfold digS
    simp only at this ⊢
    omega
theorem pow10_pos (k : Nat) : (1 : Int) ≤ 10 ^ k := by
  induction k with
  | zero => simp
  | succ k ih => rw [Int.pow_succ]; omega
theorem digN_eq : ∀ (k f : Nat) (n : Int), 10 ^ k ≤ n → n < 10 ^ (k + 1) → k < f → digN f n = k
  | _, 0, _, _, _, hf => absurd hf (by omega)
  | 0, f + 1, n, _, h2, _ => by
    rw [digN, if_neg (by omega)]; rfl
  | k + 1, f + 1, n, h1, h2, hf => by
    have p := pow10_pos k
    rw [Int.pow_succ] at h1
    rw [Int.pow_succ, Int.pow_succ] at h2
    generalize hq : (10 : Int) ^ k = q at *
    rw [digN, if_pos (by omega), digN_eq k f (n / 10) (by omega) (by rw [Int.pow_succ, hq]; omega) (by omega)]
    omega
theorem upI_eq : ∀ (k : Nat) (x : Int), upI k x = x * 10 ^ k
  | 0, x => by simp [upI]
  | k + 1, x => by rw [upI, upI_eq k, Int.pow_succ, Int.mul_assoc, Int.mul_comm 10 (10 ^ k)]
theorem dig_ex {n : Int} (h : 1 ≤ n) (h8 : n < 1000000000) : ∃ k : Nat, k ≤ 8 ∧ 10 ^ k ≤ n ∧ n < 10 ^ (k + 1) := by
  rcases Int.lt_or_le n 10 with a | a
  · exact ⟨0, by omega, h, a⟩
  rcases Int.lt_or_le n 100 with b | b
  · exact ⟨1, by omega, a, b⟩
  rcases Int.lt_or_le n 1000 with a | a
  · exact ⟨2, by omega, b, a⟩
  rcases Int.lt_or_le n 10000 with b | b
  · exact ⟨3, by omega, a, b⟩
  rcases Int.lt_or_le n 100000 with a | a
  · exact ⟨4, by omega, b, a⟩
  rcases Int.lt_or_le n 1000000 with b | b
  · exact ⟨5, by omega, a, b⟩
  rcases Int.lt_or_le n 10000000 with a | a
  · exact ⟨6, by omega, b, a⟩
  rcases Int.lt_or_le n 100000000 with b | b
  · exact ⟨7, by omega, a, b⟩
  · exact ⟨8, by omega, b, h8⟩
theorem startL_eq {n : Int} {k : Nat} (hk : k ≤ 8) (h1 : 10 ^ k ≤ n) (h2 : n < 10 ^ (k + 1)) : startL n = ((k : Int), n * 10 ^ (8 - k)) := by
  unfold startL
  rw [digN_eq k 64 n h1 h2 (by omega), upI_eq, show ((8 : Int) - (k : Int)).toNat = 8 - k by omega]
theorem pow_split {k : Nat} (hk : k ≤ 8) : (10 : Int) ^ k * 10 ^ (8 - k) = 100000000 := by
  rw [← Int.pow_add, show k + (8 - k) = 8 by omega]; rfl
theorem startL_in {n : Int} (h : 1 ≤ n) (h8 : n < 1000000000) : inX (startL n).2 := by
  obtain ⟨k, hk, h1, h2⟩ := dig_ex h h8
  rw [startL_eq hk h1 h2]
  have p := pow10_pos (8 - k)
  have e := pow_split hk
  have a := Int.mul_le_mul_of_nonneg_right h1 (show (0 : Int) ≤ 10 ^ (8 - k) by omega)
  have b := Int.mul_lt_mul_of_pos_right h2 (show (0 : Int) < 10 ^ (8 - k) by omega)
  rw [e] at a
  rw [Int.pow_succ, Int.mul_assoc, Int.mul_comm 10, ← Int.mul_assoc, e] at b
  exact ⟨a, b⟩
theorem startL_le {n m : Int} (h : 1 ≤ n) (hnm : n ≤ m) (h8 : m < 1000000000) : lexP (startL n) (startL m) := by
  obtain ⟨k, hk, h1, h2⟩ := dig_ex h (show n < 1000000000 by omega)
  obtain ⟨j, hj, g1, g2⟩ := dig_ex (show 1 ≤ m by omega) h8
  rw [startL_eq hk h1 h2, startL_eq hj g1 g2]
  rcases Nat.lt_trichotomy k j with a | a | a
  · left; simp only; omega
  · subst a
    right
    have p := pow10_pos (8 - k)
    exact ⟨rfl, Int.mul_le_mul_of_nonneg_right hnm (by omega)⟩
  · exfalso
    have e : (10 : Int) ^ k = 10 ^ (j + 1) * 10 ^ (k - (j + 1)) := by rw [← Int.pow_add, show j + 1 + (k - (j + 1)) = k by omega]
    have p := pow10_pos (k - (j + 1))
    have q := pow10_pos (j + 1)
    have := Int.mul_le_mul_of_nonneg_left p (show (0 : Int) ≤ 10 ^ (j + 1) by omega)
    omega
theorem tlog_le {n m : Int} (h : 1 ≤ n) (hnm : n ≤ m) (h8 : m < 1000000000) : tlog n ≤ tlog m := by
  have i1 := startL_in h (show n < 1000000000 by omega)
  have i2 := startL_in (show 1 ≤ m by omega) h8
  have := digS_le (digS_in (digS_in i1)) (digS_in (digS_in i2)) (digS_le (digS_in i1) (digS_in i2) (digS_le i1 i2 (startL_le h hnm h8)))
  unfold lexP at this
  unfold tlog
  omega
theorem startL_r {n : Int} (h : 1 ≤ n) (h8 : n < 1000000000) : 0 ≤ (startL n).1 ∧ (startL n).1 ≤ 8 := by
  obtain ⟨k, hk, h1, h2⟩ := dig_ex h h8
  rw [startL_eq hk h1 h2]
  simp only; omega
theorem digS_r {s : Int × Int} (h : inX s.2) : 10 * s.1 ≤ (digS s).1 ∧ (digS s).1 ≤ 10 * s.1 + 9 := by
  have := mulN_first h
  unfold digS; simp only; omega
theorem tlog_in {n : Int} (h : 1 ≤ n) (h8 : n < 1000000000) : 0 ≤ tlog n ∧ tlog n ≤ 8999 := by
  have i1 := startL_in h h8
  have a := startL_r h h8
  have b := digS_r i1
  have c := digS_r (digS_in i1)
  have d := digS_r (digS_in (digS_in i1))
  unfold tlog
  omega
/-! The greatest distance. -/
def enoughB (i d v : Int) : Bool := decide (2 * tlog d ≤ tlog i + 6699 - 1301 * d / v)
theorem enough_le {i d d' v : Int} (h1 : 1 ≤ d) (h2 : d ≤ d') (h3 : d' ≤ 100000) (hv : 1 ≤ v) (h : enoughB i d' v = true) : enoughB i d v = true := by
  unfold enoughB at h ⊢
  simp only [decide_eq_true_eq] at h ⊢
  have t := tlog_le h1 h2 (by omega)
  have q : 1301 * d / v ≤ 1301 * d' / v := Int.ediv_le_ediv (by omega) (by omega)
  omega
structure IsLum (i v r : Int) : Prop where
  lo : 0 ≤ r
  hi : r ≤ 100000
  yes : 0 < r → enoughB i r v = true
  no : r < 100000 → enoughB i (r + 1) v = false
theorem isLum_one {i v r s : Int} (hv : 1 ≤ v) (h : IsLum i v r) (k : IsLum i v s) : r = s := by
  obtain ⟨a1, a2, a3, a4⟩ := h
  obtain ⟨b1, b2, b3, b4⟩ := k
  rcases Int.lt_trichotomy r s with h | h | h
  · have := enough_le (i := i) (show 1 ≤ r + 1 by omega) (show r + 1 ≤ s by omega) b2 hv (b3 (by omega))
    rw [a4 (by omega)] at this; cases this
  · exact h
  · have := enough_le (i := i) (show 1 ≤ s + 1 by omega) (show s + 1 ≤ r by omega) a2 hv (a3 (by omega))
    rw [b4 (by omega)] at this; cases this
open Classical in
noncomputable def lumI (i v : Int) : Int := if h : ∃ r, IsLum i v r then Classical.choose h else 0
theorem lumI_eq {i v r : Int} (hv : 1 ≤ v) (h : IsLum i v r) : lumI i v = r := by
  have hx : ∃ r, IsLum i v r := ⟨r, h⟩
  unfold lumI
  rw [dif_pos hx]
  exact isLum_one hv (Classical.choose_spec hx) h
/-! Square roots. -/
structure IsRoot (n r : Int) : Prop where
  lo : 0 ≤ r
  hi : r ≤ 3037000499
  yes : r * r ≤ n
  no : r < 3037000499 → n < (r + 1) * (r + 1)
theorem isRoot_one {n r s : Int} (h : IsRoot n r) (k : IsRoot n s) : r = s := by
  obtain ⟨a1, a2, a3, a4⟩ := h
  obtain ⟨b1, b2, b3, b4⟩ := k
  rcases Int.lt_trichotomy r s with h | h | h
  · have := Int.mul_le_mul (show r + 1 ≤ s by omega) (show r + 1 ≤ s by omega) (by omega) (by omega)
    have := a4 (by omega)
    omega
  · exact h
  · have := Int.mul_le_mul (show s + 1 ≤ r by omega) (show s + 1 ≤ r by omega) (by omega) (by omega)
    have := b4 (by omega)
    omega
open Classical in
noncomputable def rootI (n : Int) : Int := if h : ∃ r, IsRoot n r then Classical.choose h else 0
theorem rootI_eq {n r : Int} (h : IsRoot n r) : rootI n = r := by
  have hx : ∃ r, IsRoot n r := ⟨r, h⟩
  unfold rootI
  rw [dif_pos hx]
  exact isRoot_one (Classical.choose_spec hx) h
end Go.Proofs.YtpgcgmbjlecnpaaGreat
/- The square root by halving, both sides. -/
namespace Go.Proofs.YtpgcgmbjlecnpaaGreat
open Go.RowKit
end Go.Proofs.YtpgcgmbjlecnpaaGreat
/- Sines. -/
namespace Go.Proofs.YtpgcgmbjlecnpaaGreat
open Go.RowKit
def sinT : List Int := [0, 17452, 34899, 52336, 69756, 87156, 104528, 121869, 139173, 156434, 173648, 190809, 207912, 224951, 241922, 258819, 275637, 292372, 309017, 325568, 342020, 358368, 374607, 390731, 406737, 422618, 438371, 453990, 469472, 484810, 500000, 515038, 529919, 544639, 559193, 573576, 587785, 601815, 615661, 629320, 642788, 656059, 669131, 681998, 694658, 707107, 719340, 731354, 743145, 754710, 766044, 777146, 788011, 798636, 809017, 819152, 829038, 838671, 848048, 857167, 866025, 874620, 882948, 891007, 898794, 906308, 913545, 920505, 927184, 933580, 939693, 945519, 951057, 956305, 961262, 965926, 970296, 974370, 978148, 981627, 984808, 987688, 990268, 992546, 994522, 996195, 997564, 998630, 999391, 999848, 1000000]
def sinQ (d : Int) : Int := sinT.getD d.toNat 0
theorem sin_len : sinT.length = 91 := rfl
theorem sin_at (j : Nat) (hj : j < 91) : (#[.int .i64 0, .int .i64 17452, .int .i64 34899, .int .i64 52336, .int .i64 69756, .int .i64 87156, .int .i64 104528, .int .i64 121869, .int .i64 139173, .int .i64 156434, .int .i64 173648, .int .i64 190809, .int .i64 207912, .int .i64 224951, .int .i64 241922, .int .i64 258819, .int .i64 275637, .int .i64 292372, .int .i64 309017, .int .i64 325568, .int .i64 342020, .int .i64 358368, .int .i64 374607, .int .i64 390731, .int .i64 406737, .int .i64 422618, .int .i64 438371, .int .i64 453990, .int .i64 469472, .int .i64 484810, .int .i64 500000, .int .i64 515038, .int .i64 529919, .int .i64 544639, .int .i64 559193, .int .i64 573576, .int .i64 587785, .int .i64 601815, .int .i64 615661, .int .i64 629320, .int .i64 642788, .int .i64 656059, .int .i64 669131, .int .i64 681998, .int .i64 694658, .int .i64 707107, .int .i64 719340, .int .i64 731354, .int .i64 743145, .int .i64 754710, .int .i64 766044, .int .i64 777146, .int .i64 788011, .int .i64 798636, .int .i64 809017, .int .i64 819152, .int .i64 829038, .int .i64 838671, .int .i64 848048, .int .i64 857167, .int .i64 866025, .int .i64 874620, .int .i64 882948, .int .i64 891007, .int .i64 898794, .int .i64 906308, .int .i64 913545, .int .i64 920505, .int .i64 927184, .int .i64 933580, .int .i64 939693, .int .i64 945519, .int .i64 951057, .int .i64 956305, .int .i64 961262, .int .i64 965926, .int .i64 970296, .int .i64 974370, .int .i64 978148, .int .i64 981627, .int .i64 984808, .int .i64 987688, .int .i64 990268, .int .i64 992546, .int .i64 994522, .int .i64 996195, .int .i64 997564, .int .i64 998630, .int .i64 999391, .int .i64 999848, .int .i64 1000000] : Array Value)[j]? = some (.int .i64 (sinQ j)) := by
  have e : (#[.int .i64 0, .int .i64 17452, .int .i64 34899, .int .i64 52336, .int .i64 69756, .int .i64 87156, .int .i64 104528, .int .i64 121869, .int .i64 139173, .int .i64 156434, .int .i64 173648, .int .i64 190809, .int .i64 207912, .int .i64 224951, .int .i64 241922, .int .i64 258819, .int .i64 275637, .int .i64 292372, .int .i64 309017, .int .i64 325568, .int .i64 342020, .int .i64 358368, .int .i64 374607, .int .i64 390731, .int .i64 406737, .int .i64 422618, .int .i64 438371, .int .i64 453990, .int .i64 469472, .int .i64 484810, .int .i64 500000, .int .i64 515038, .int .i64 529919, .int .i64 544639, .int .i64 559193, .int .i64 573576, .int .i64 587785, .int .i64 601815, .int .i64 615661, .int .i64 629320, .int .i64 642788, .int .i64 656059, .int .i64 669131, .int .i64 681998, .int .i64 694658, .int .i64 707107, .int .i64 719340, .int .i64 731354, .int .i64 743145, .int .i64 754710, .int .i64 766044, .int .i64 777146, .int .i64 788011, .int .i64 798636, .int .i64 809017, .int .i64 819152, .int .i64 829038, .int .i64 838671, .int .i64 848048, .int .i64 857167, .int .i64 866025, .int .i64 874620, .int .i64 882948, .int .i64 891007, .int .i64 898794, .int .i64 906308, .int .i64 913545, .int .i64 920505, .int .i64 927184, .int .i64 933580, .int .i64 939693, .int .i64 945519, .int .i64 951057, .int .i64 956305, .int .i64 961262, .int .i64 965926, .int .i64 970296, .int .i64 974370, .int .i64 978148, .int .i64 981627, .int .i64 984808, .int .i64 987688, .int .i64 990268, .int .i64 992546, .int .i64 994522, .int .i64 996195, .int .i64 997564, .int .i64 998630, .int .i64 999391, .int .i64 999848, .int .i64 1000000] : Array Value) = (sinT.map (Value.int .i64)).toArray := rfl
  rw [e, List.getElem?_toArray, List.getElem?_map, sinQ, List.getD_eq_getElem?_getD, Int.toNat_natCast, List.getElem?_eq_getElem (by rw [sin_len]; exact hj)]
  rfl
theorem sin_get (j : Nat) (h : j < (#[.int .i64 0, .int .i64 17452, .int .i64 34899, .int .i64 52336, .int .i64 69756, .int .i64 87156, .int .i64 104528, .int .i64 121869, .int .i64 139173, .int .i64 156434, .int .i64 173648, .int .i64 190809, .int .i64 207912, .int .i64 224951, .int .i64 241922, .int .i64 258819, .int .i64 275637, .int .i64 292372, .int .i64 309017, .int .i64 325568, .int .i64 342020, .int .i64 358368, .int .i64 374607, .int .i64 390731, .int .i64 406737, .int .i64 422618, .int .i64 438371, .int .i64 453990, .int .i64 469472, .int .i64 484810, .int .i64 500000, .int .i64 515038, .int .i64 529919, .int .i64 544639, .int .i64 559193, .int .i64 573576, .int .i64 587785, .int .i64 601815, .int .i64 615661, .int .i64 629320, .int .i64 642788, .int .i64 656059, .int .i64 669131, .int .i64 681998, .int .i64 694658, .int .i64 707107, .int .i64 719340, .int .i64 731354, .int .i64 743145, .int .i64 754710, .int .i64 766044, .int .i64 777146, .int .i64 788011, .int .i64 798636, .int .i64 809017, .int .i64 819152, .int .i64 829038, .int .i64 838671, .int .i64 848048, .int .i64 857167, .int .i64 866025, .int .i64 874620, .int .i64 882948, .int .i64 891007, .int .i64 898794, .int .i64 906308, .int .i64 913545, .int .i64 920505, .int .i64 927184, .int .i64 933580, .int .i64 939693, .int .i64 945519, .int .i64 951057, .int .i64 956305, .int .i64 961262, .int .i64 965926, .int .i64 970296, .int .i64 974370, .int .i64 978148, .int .i64 981627, .int .i64 984808, .int .i64 987688, .int .i64 990268, .int .i64 992546, .int .i64 994522, .int .i64 996195, .int .i64 997564, .int .i64 998630, .int .i64 999391, .int .i64 999848, .int .i64 1000000] : Array Value).size) : (#[.int .i64 0, .int .i64 17452, .int .i64 34899, .int .i64 52336, .int .i64 69756, .int .i64 87156, .int .i64 104528, .int .i64 121869, .int .i64 139173, .int .i64 156434, .int .i64 173648, .int .i64 190809, .int .i64 207912, .int .i64 224951, .int .i64 241922, .int .i64 258819, .int .i64 275637, .int .i64 292372, .int .i64 309017, .int .i64 325568, .int .i64 342020, .int .i64 358368, .int .i64 374607, .int .i64 390731, .int .i64 406737, .int .i64 422618, .int .i64 438371, .int .i64 453990, .int .i64 469472, .int .i64 484810, .int .i64 500000, .int .i64 515038, .int .i64 529919, .int .i64 544639, .int .i64 559193, .int .i64 573576, .int .i64 587785, .int .i64 601815, .int .i64 615661, .int .i64 629320, .int .i64 642788, .int .i64 656059, .int .i64 669131, .int .i64 681998, .int .i64 694658, .int .i64 707107, .int .i64 719340, .int .i64 731354, .int .i64 743145, .int .i64 754710, .int .i64 766044, .int .i64 777146, .int .i64 788011, .int .i64 798636, .int .i64 809017, .int .i64 819152, .int .i64 829038, .int .i64 838671, .int .i64 848048, .int .i64 857167, .int .i64 866025, .int .i64 874620, .int .i64 882948, .int .i64 891007, .int .i64 898794, .int .i64 906308, .int .i64 913545, .int .i64 920505, .int .i64 927184, .int .i64 933580, .int .i64 939693, .int .i64 945519, .int .i64 951057, .int .i64 956305, .int .i64 961262, .int .i64 965926, .int .i64 970296, .int .i64 974370, .int .i64 978148, .int .i64 981627, .int .i64 984808, .int .i64 987688, .int .i64 990268, .int .i64 992546, .int .i64 994522, .int .i64 996195, .int .i64 997564, .int .i64 998630, .int .i64 999391, .int .i64 999848, .int .i64 1000000] : Array Value)[j] = .int .i64 (sinQ j) := by
  have := sin_at j h
  rw [Array.getElem?_eq_getElem h] at this
  exact Option.some.inj this
theorem sinQ_bd (d : Int) : 0 ≤ sinQ d ∧ sinQ d ≤ 1000000 := by
  have h : ∀ x ∈ sinT, 0 ≤ x ∧ x ≤ 1000000 := by decide
  unfold sinQ
  rw [List.getD_eq_getElem?_getD]
  cases hx : sinT[d.toNat]? with
  | none => simp
  | some x => exact h x (List.mem_of_getElem? hx)
/-- The sine of 0 to 179. -/
def sinH (a : Int) : Int := if 90 < a then sinQ (180 - a) else sinQ a
def sinI (d : Int) : Int := if 180 ≤ d % 360 then -sinH (d % 360 - 180) else sinH (d % 360)
theorem sinH_bd (a : Int) : 0 ≤ sinH a ∧ sinH a ≤ 1000000 := by unfold sinH; split <;> exact sinQ_bd _
theorem sinI_bd (a : Int) : -1000000 ≤ sinI a ∧ sinI a ≤ 1000000 := by
  unfold sinI
  split
  · have := sinH_bd (a % 360 - 180); omega
  · have := sinH_bd (a % 360); omega
set_option maxHeartbeats 1000000 in
theorem turned_c (d : Int) (w : World) (h0 : 0 ≤ d) (_h1 : d ≤ 1000000) : Calls Tryz.prog 129 #[.int .i64 d] w fun e w' => e = .returned (.int .i64 (d % 360)) ∧ w = w' := by
  have e1 : d.tmod 360 = d % 360 := Int.tmod_eq_emod_of_nonneg h0
  have e2 : IntKind.i64.wrap (d % 360) = d % 360 := IntWalk.i64_in _ (by omega)
  have e3 : IntKind.i64.wrap (d % 360 + 360) = d % 360 + 360 := IntWalk.i64_in _ (by omega)
  have e4 : (d % 360 + 360).tmod 360 = d % 360 := by rw [Int.tmod_eq_emod_of_nonneg (by omega)]; omega
  go_enter Tryz.func129, Tryz.ntmps129
  go_wp2
  go_ret
  exact ⟨rfl, rfl⟩
set_option maxHeartbeats 1000000 in
theorem l02Angle_c (d : Int) (w : World) (h0 : 0 ≤ d) (_h1 : d ≤ 1000000) : Calls Tryz.prog 134 #[.int .i64 d] w fun e w' => e = .returned (.int .i64 (d % 360)) ∧ w = w' := by
  have e1 : d.tmod 360 = d % 360 := Int.tmod_eq_emod_of_nonneg h0
  have e2 : IntKind.i64.wrap (d % 360) = d % 360 := IntWalk.i64_in _ (by omega)
  have e3 : IntKind.i64.wrap (d % 360 + 360) = d % 360 + 360 := IntWalk.i64_in _ (by omega)
  have e4 : (d % 360 + 360).tmod 360 = d % 360 := by rw [Int.tmod_eq_emod_of_nonneg (by omega)]; omega
  go_enter Tryz.func134, Tryz.ntmps134
  go_wp2
  go_ret
  exact ⟨rfl, rfl⟩
theorem wpl_built {P : Program} {ops : Array Oper} {rest : List Oper} {o : Oper} {a : Act} {w : World} {Q : Exit → Act → World → Prop} (hg : o.guard = none) (t : TypeId) (parts : Array (Nat × Operand)) (ho : o.op = .build t parts)
    (cells : Array Value) (hf : P.built t (parts.map fun (i, x) => (i, a.eval x)).toList = some cells) (h : wpList P ops Q rest (a.put o.dst (.agg cells)) w) : wpList P ops Q (o :: rest) a w :=
  wpList_build hg t parts ho (by rw [hf]; rfl) (by rw [hf]; exact h)
set_option maxRecDepth 100000 in
set_option maxHeartbeats 1000000 in
theorem quarter_c (d : Int) (w : World) (h0 : 0 ≤ d) (h1 : d ≤ 90) : Calls Tryz.prog 130 #[.int .i64 d] w fun e w' => e = .returned (.int .i64 (sinQ d)) ∧ w = w' := by
  obtain ⟨j, rfl⟩ := Int.eq_ofNat_of_zero_le h0
  have j2 : (j : Int) < 91 := by omega
  obtain ⟨a, ha⟩ : ∃ a : Array Value, (#[.int .i64 0, .int .i64 17452, .int .i64 34899, .int .i64 52336, .int .i64 69756, .int .i64 87156, .int .i64 104528, .int .i64 121869, .int .i64 139173, .int .i64 156434, .int .i64 173648, .int .i64 190809, .int .i64 207912, .int .i64 224951, .int .i64 241922, .int .i64 258819, .int .i64 275637, .int .i64 292372, .int .i64 309017, .int .i64 325568, .int .i64 342020, .int .i64 358368, .int .i64 374607, .int .i64 390731, .int .i64 406737, .int .i64 422618, .int .i64 438371, .int .i64 453990, .int .i64 469472, .int .i64 484810, .int .i64 500000, .int .i64 515038, .int .i64 529919, .int .i64 544639, .int .i64 559193, .int .i64 573576, .int .i64 587785, .int .i64 601815, .int .i64 615661, .int .i64 629320, .int .i64 642788, .int .i64 656059, .int .i64 669131, .int .i64 681998, .int .i64 694658, .int .i64 707107, .int .i64 719340, .int .i64 731354, .int .i64 743145, .int .i64 754710, .int .i64 766044, .int .i64 777146, .int .i64 788011, .int .i64 798636, .int .i64 809017, .int .i64 819152, .int .i64 829038, .int .i64 838671, .int .i64 848048, .int .i64 857167, .int .i64 866025, .int .i64 874620, .int .i64 882948, .int .i64 891007, .int .i64 898794, .int .i64 906308, .int .i64 913545, .int .i64 920505, .int .i64 927184, .int .i64 933580, .int .i64 939693, .int .i64 945519, .int .i64 951057, .int .i64 956305, .int .i64 961262, .int .i64 965926, .int .i64 970296, .int .i64 974370, .int .i64 978148, .int .i64 981627, .int .i64 984808, .int .i64 987688, .int .i64 990268, .int .i64 992546, .int .i64 994522, .int .i64 996195, .int .i64 997564, .int .i64 998630, .int .i64 999391, .int .i64 999848, .int .i64 1000000] : Array Value) = a := ⟨_, rfl⟩
  have has : a.size = 91 := by rw [← ha]; rfl
  have hmb : a[j]? = some (.int .i64 (sinQ j)) := by rw [← ha]; exact sin_at j (by omega)
  have hma : ∀ h : j < a.size, a[j] = .int .i64 (sinQ j) := fun h => by rw [Array.getElem?_eq_getElem h] at hmb; exact Option.some.inj hmb
  clear hmb
  generalize sinQ (j : Int) = q at hma ⊢
  have hix : ∀ w1 : World, (Instr.index 115 (.agg a) (.int .i64 (j : Int))).run Tryz.prog w1 = .ok (.int .i64 q) w1 := fun w1 => by
    have hlt : (0 : Int) ≤ (j : Int) ∧ (j : Int) < ((91 : Nat) : Int) := by omega
    have hl : j < a.size := by omega
    simp [Instr.index, run_underlying Tryz.underlying115, asIntOf, hlt, go_sem, part, hma, hl]
    try (intro h; omega)
  have HA := Lib.hid ha; clear ha
  go_enter Tryz.func130, Tryz.ntmps130
  go_wp2_with (refine wpl_built rfl 115 _ rfl a (Eq.trans (by kernel_rfl) (congrArg some HA.out)) ?_)
  go_ret
  exact ⟨rfl, rfl⟩
set_option maxHeartbeats 400000 in
theorem sineLow_c (d : Int) (w : World) (h0 : 0 ≤ d) (h1 : d < 180) : Calls Tryz.prog 117 #[.int .i64 d] w fun e w' => e = .returned (.int .i64 (sinH d)) ∧ w = w' := by
  have e1 : d % 360 = d := by omega
  have hT : ∀ w1, Calls Tryz.prog 129 #[.int .i64 d] w1 fun e w' => e = .returned (.int .i64 d) ∧ w1 = w' := fun w1 => by
    have := turned_c d w1 h0 (by omega)
    rwa [e1] at this
  by_cases h2 : 90 < d
  · have e2 : sinH d = sinQ (180 - d) := if_pos h2
    have hQ : ∀ w1, Calls Tryz.prog 130 #[.int .i64 (180 - d)] w1 fun e w' => e = .returned (.int .i64 (sinQ (180 - d))) ∧ w1 = w' := fun w1 => quarter_c _ _ (by omega) (by omega)
    rw [e2]
    generalize sinQ (180 - d) = q at hQ ⊢
    have HT := Lib.hid hT; clear hT
    have HQ := Lib.hid hQ; clear hQ
    clear e1 e2
    go_enter Tryz.func117, Tryz.ntmps117
    go_wp2_with (first | (go_at_call 129; refine (HT.out _).mono ?_; rintro e w1 ⟨rfl, rfl⟩) | (go_at_call 130; refine (HQ.out _).mono ?_; rintro e w1 ⟨rfl, rfl⟩))
    go_ret
    exact ⟨rfl, rfl⟩
  · have e2 : sinH d = sinQ d := if_neg h2
    have hQ : ∀ w1, Calls Tryz.prog 130 #[.int .i64 d] w1 fun e w' => e = .returned (.int .i64 (sinQ d)) ∧ w1 = w' := fun w1 => quarter_c _ _ (by omega) (by omega)
    rw [e2]
    generalize sinQ d = q at hQ ⊢
    have HT := Lib.hid hT; clear hT
    have HQ := Lib.hid hQ; clear hQ
    clear e1 e2
    go_enter Tryz.func117, Tryz.ntmps117
    go_wp2_with (first | (go_at_call 129; refine (HT.out _).mono ?_; rintro e w1 ⟨rfl, rfl⟩) | (go_at_call 130; refine (HQ.out _).mono ?_; rintro e w1 ⟨rfl, rfl⟩))
    go_ret
    exact ⟨rfl, rfl⟩
set_option maxHeartbeats 400000 in
theorem sine_c (d : Int) (w : World) (h0 : 0 ≤ d) (h1 : d ≤ 1000000) : Calls Tryz.prog 117 #[.int .i64 d] w fun e w' => e = .returned (.int .i64 (sinI d)) ∧ w = w' := by
  obtain ⟨r, hr⟩ : ∃ r, d % 360 = r := ⟨_, rfl⟩
  have hrb : 0 ≤ r ∧ r < 360 := by omega
  have hT : ∀ w1, Calls Tryz.prog 129 #[.int .i64 d] w1 fun e w' => e = .returned (.int .i64 r) ∧ w1 = w' := fun w1 => hr ▸ turned_c d w1 h0 h1
  by_cases h2 : 180 ≤ r
  · have e2 : sinI d = -sinH (r - 180) := by rw [sinI, hr, if_pos h2]
    have hQ : ∀ w1, Calls Tryz.prog 117 #[.int .i64 (r - 180)] w1 fun e w' => e = .returned (.int .i64 (sinH (r - 180))) ∧ w1 = w' := fun w1 => sineLow_c _ _ (by omega) (by omega)
    have hb := sinH_bd (r - 180)
    rw [e2]
    generalize sinH (r - 180) = q at hQ hb ⊢
    have HT := Lib.hid hT; clear hT
    have HQ := Lib.hid hQ; clear hQ
    clear hr e2
    go_enter Tryz.func117, Tryz.ntmps117
    go_wp2_with (first | (go_at_call 129; refine (HT.out _).mono ?_; rintro e w1 ⟨rfl, rfl⟩) | (go_at_call 117; refine (HQ.out _).mono ?_; rintro e w1 ⟨rfl, rfl⟩))
    go_ret
    exact ⟨rfl, rfl⟩
  · by_cases h3 : 90 < r
    · have e2 : sinI d = sinQ (180 - r) := by rw [sinI, hr, if_neg h2, sinH, if_pos h3]
      have hQ : ∀ w1, Calls Tryz.prog 130 #[.int .i64 (180 - r)] w1 fun e w' => e = .returned (.int .i64 (sinQ (180 - r))) ∧ w1 = w' := fun w1 => quarter_c _ _ (by omega) (by omega)
      rw [e2]
      generalize sinQ (180 - r) = q at hQ ⊢
      have HT := Lib.hid hT; clear hT
      have HQ := Lib.hid hQ; clear hQ
      clear hr e2
      go_enter Tryz.func117, Tryz.ntmps117
      go_wp2_with (first | (go_at_call 129; refine (HT.out _).mono ?_; rintro e w1 ⟨rfl, rfl⟩) | (go_at_call 130; refine (HQ.out _).mono ?_; rintro e w1 ⟨rfl, rfl⟩))
      go_ret
      exact ⟨rfl, rfl⟩
    · have e2 : sinI d = sinQ r := by rw [sinI, hr, if_neg h2, sinH, if_neg h3]
      have hQ : ∀ w1, Calls Tryz.prog 130 #[.int .i64 r] w1 fun e w' => e = .returned (.int .i64 (sinQ r)) ∧ w1 = w' := fun w1 => quarter_c _ _ (by omega) (by omega)
      rw [e2]
      generalize sinQ r = q at hQ ⊢
      have HT := Lib.hid hT; clear hT
      have HQ := Lib.hid hQ; clear hQ
      clear hr e2
      go_enter Tryz.func117, Tryz.ntmps117
      go_wp2_with (first | (go_at_call 129; refine (HT.out _).mono ?_; rintro e w1 ⟨rfl, rfl⟩) | (go_at_call 130; refine (HQ.out _).mono ?_; rintro e w1 ⟨rfl, rfl⟩))
      go_ret
      exact ⟨rfl, rfl⟩
theorem sin_turn (d : Int) : sinI (d % 360 + 90) = sinI (d + 90) := by
  have : (d % 360 + 90) % 360 = (d + 90) % 360 := by omega
  unfold sinI; rw [this]
set_option maxHeartbeats 400000 in
theorem cosine_c (d : Int) (w : World) (h0 : 0 ≤ d) (h1 : d ≤ 1000000) : Calls Tryz.prog 118 #[.int .i64 d] w fun e w' => e = .returned (.int .i64 (sinI (d + 90))) ∧ w = w' := by
  obtain ⟨r, hr⟩ : ∃ r, d % 360 = r := ⟨_, rfl⟩
  have hrb : 0 ≤ r ∧ r < 360 := by omega
  have hT : ∀ w1, Calls Tryz.prog 129 #[.int .i64 d] w1 fun e w' => e = .returned (.int .i64 r) ∧ w1 = w' := fun w1 => hr ▸ turned_c d w1 h0 h1
  rw [← sin_turn, hr]
  have hQ : ∀ w1, Calls Tryz.prog 117 #[.int .i64 (r + 90)] w1 fun e w' => e = .returned (.int .i64 (sinI (r + 90))) ∧ w1 = w' := fun w1 => sine_c _ _ (by omega) (by omega)
  generalize sinI (r + 90) = q at hQ ⊢
  have HT := Lib.hid hT; clear hT
  have HQ := Lib.hid hQ; clear hQ
  clear hr
  go_enter Tryz.func118, Tryz.ntmps118
  go_wp2_with (first | (go_at_call 129; refine (HT.out _).mono ?_; rintro e w1 ⟨rfl, rfl⟩) | (go_at_call 117; refine (HQ.out _).mono ?_; rintro e w1 ⟨rfl, rfl⟩))
  go_ret
  exact ⟨rfl, rfl⟩
end Go.Proofs.YtpgcgmbjlecnpaaGreat
/- Sines: the reference. -/
namespace Go.Proofs.YtpgcgmbjlecnpaaGreat
open Go.RowKit
theorem map_intC : ∀ L : List Int, L.map (Value.int .i64) = L.flatMap intC
  | [] => rfl
  | x :: r => by rw [List.map_cons, List.flatMap_cons, map_intC r]; rfl
set_option maxRecDepth 100000 in
set_option maxHeartbeats 1000000 in
theorem l02Table_c (w : World) : Calls Tryz.prog 133 #[] w fun e w' => e = .returned (.slice (some ⟨w.heap.size, 0, none⟩) 91 91) ∧ Sl w' w'.heap.size 1 (some ⟨w.heap.size, 0, none⟩) 91 (sinT.flatMap intC) ∧ Below w.heap.size w w' := by
  obtain ⟨L, hL⟩ : ∃ L : List Int, sinT = L := ⟨_, rfl⟩
  have hl : L.length = 91 := by rw [← hL]; rfl
  rw [hL]
  have hp : ∀ parts : Array (Nat × Operand), parts.toList = (([0, 17452, 34899, 52336, 69756, 87156, 104528, 121869, 139173, 156434, 173648, 190809, 207912, 224951, 241922, 258819, 275637, 292372, 309017, 325568, 342020, 358368, 374607, 390731, 406737, 422618, 438371, 453990, 469472, 484810, 500000, 515038, 529919, 544639, 559193, 573576, 587785, 601815, 615661, 629320, 642788, 656059, 669131, 681998, 694658, 707107, 719340, 731354, 743145, 754710, 766044, 777146, 788011, 798636, 809017, 819152, 829038, 838671, 848048, 857167, 866025, 874620, 882948, 891007, 898794, 906308, 913545, 920505, 927184, 933580, 939693, 945519, 951057, 956305, 961262, 965926, 970296, 974370, 978148, 981627, 984808, 987688, 990268, 992546, 994522, 996195, 997564, 998630, 999391, 999848, 1000000] : List Int).zipIdx 0).map (fun x => (x.2, Operand.const (Value.int .i64 x.1))) → parts.toList = (L.zipIdx 0).map (fun x => (x.2, Operand.const (Value.int .i64 x.1))) := fun parts h => hL ▸ h
  have HL := Lib.hid hL; clear hL
  have HP := Lib.hid hp; clear hp
  go_enter Tryz.func133, Tryz.ntmps133
  go_wp2_with (refine Go.wpList_buildFlatAt rfl 24 2 91 _ rfl .i64 L _ rfl _ rfl Tryz.underlying24 (by kernel_rfl) (by kernel_rfl) hl.symm (by omega) (by omega) (HP.out _ (by kernel_rfl)) ?_)
  go_ret
  refine ⟨rfl, ?_, by (repeat (first | (with_reducible assumption) | (with_reducible exact Below.refl _ _) | exact Nat.le_refl _ | exact Below.size (by with_reducible assumption) | (with_reducible refine Below.drew ?_) | (with_reducible refine below_drewN ?_ _) | (with_reducible refine Below.alloc ?_ ?_ _) | (with_reducible refine Below.setCell ?_ ?_ _) | (with_reducible refine le_alloc ?_ _) | (with_reducible refine le_set ?_ _ _) | (with_reducible refine le_drew ?_) | (with_reducible refine le_drewN ?_ _) | omega | (dsimp only; omega)))⟩
  have e : L.map (Value.int .i64) = L.flatMap intC := map_intC L
  have := Sl.new w 2 (L.flatMap intC) 91 1 (by rw [← e]; simp [hl])
  rw [e]
  exact this.more (by simp)
set_option maxRecDepth 100000 in
set_option maxHeartbeats 1000000 in
theorem l02SineIn_c (A : Option Addr) (c : Nat) (d : Int) (w : World) (h : Sl w w.heap.size 1 A 91 (sinT.flatMap intC)) (h0 : 0 ≤ d) (h1 : d ≤ 1000000) : Calls Tryz.prog 132 #[.slice A 91 c, .int .i64 d] w fun e w' => e = .returned (.int .i64 (sinI d)) ∧ w = w' := by
  have hg : ∀ k : Nat, k < 91 → ∃ b off, A = some ⟨b, off, none⟩ ∧ w.cell? ⟨b, off + k, none⟩ = some (.int .i64 (sinQ k)) := fun k hk => by
    obtain ⟨b, off, x, hA, _, hx, hc⟩ := h.int k hk
    refine ⟨b, off, hA, ?_⟩
    rw [hc, sinQ, List.getD_eq_getElem?_getD, Int.toNat_natCast, hx]; rfl
  obtain ⟨r, hr⟩ : ∃ r, d % 360 = r := ⟨_, rfl⟩
  have hrb : 0 ≤ r ∧ r < 360 := by omega
  have hT : ∀ w1, Calls Tryz.prog 134 #[.int .i64 d] w1 fun e w' => e = .returned (.int .i64 r) ∧ w1 = w' := fun w1 => hr ▸ l02Angle_c d w1 h0 h1
  obtain ⟨n, hn⟩ : ∃ n : Nat, (n : Int) = (if 180 ≤ r then (if 90 < r - 180 then 180 - (r - 180) else r - 180) else (if 90 < r then 180 - r else r)) := by
    obtain ⟨n, hn⟩ := Int.eq_ofNat_of_zero_le (show 0 ≤ (if 180 ≤ r then (if 90 < r - 180 then 180 - (r - 180) else r - 180) else (if 90 < r then 180 - r else r)) by split <;> split <;> omega)
    exact ⟨n, hn.symm⟩
  have hn1 : n < 91 := by split at hn <;> split at hn <;> omega
  have hv : sinI d = if 180 ≤ r then -sinQ n else sinQ n := by
    rw [sinI, hr, hn]
    split <;> rename_i h2 <;> rw [sinH]
    all_goals split <;> rename_i h3 <;> rfl
  obtain ⟨b, off, rfl, hc⟩ := hg n hn1
  have hb := sinQ_bd n
  rw [hv]
  have j1 : (0 : Int) ≤ (n : Int) := by omega
  have j2 : (n : Int) < 91 := by omega
  generalize sinQ (n : Int) = q at hc hb ⊢
  have HT := Lib.hid hT; clear hT
  have H := Lib.hid h; clear h
  clear hr hv hg
  by_cases h2 : 180 ≤ r
  · rw [if_pos h2] at hn ⊢
    by_cases h3 : 90 < r - 180
    · rw [if_pos h3] at hn
      have e2 : IntKind.i64.wrap (180 - (r - 180)) = (n : Int) := by rw [IntWalk.i64_in _ (by omega)]; omega
      clear hn
      go_enter Tryz.func132, Tryz.ntmps132
      go_wp2_with (go_at_call 134; refine (HT.out _).mono ?_; rintro e w1 ⟨rfl, rfl⟩)
      go_ret
      exact ⟨ret_eq (int_eq (by omega)), rfl⟩
    · rw [if_neg h3] at hn
      have e2 : IntKind.i64.wrap (r - 180) = (n : Int) := by rw [IntWalk.i64_in _ (by omega)]; omega
      have h4 : ¬ 90 < (n : Int) := by omega
      clear hn h3
      go_enter Tryz.func132, Tryz.ntmps132
      go_wp2_with (go_at_call 134; refine (HT.out _).mono ?_; rintro e w1 ⟨rfl, rfl⟩)
      go_ret
      exact ⟨ret_eq (int_eq (by omega)), rfl⟩
  · rw [if_neg h2] at hn ⊢
    by_cases h3 : 90 < r
    · rw [if_pos h3] at hn
      have e2 : IntKind.i64.wrap (180 - r) = (n : Int) := by rw [IntWalk.i64_in _ (by omega)]; omega
      clear hn
      go_enter Tryz.func132, Tryz.ntmps132
      go_wp2_with (go_at_call 134; refine (HT.out _).mono ?_; rintro e w1 ⟨rfl, rfl⟩)
      go_ret
      exact ⟨ret_eq (int_eq (by omega)), rfl⟩
    · rw [if_neg h3] at hn
      subst hn
      go_enter Tryz.func132, Tryz.ntmps132
      go_wp2_with (go_at_call 134; refine (HT.out _).mono ?_; rintro e w1 ⟨rfl, rfl⟩)
      go_ret
      exact ⟨ret_eq (int_eq (by omega)), rfl⟩
end Go.Proofs.YtpgcgmbjlecnpaaGreat
/- The calendar: plain Lean. -/
namespace Go.Proofs.YtpgcgmbjlecnpaaGreat
open Go.RowKit
def leapB (y : Int) : Bool := (y % 4 == 0 && !(y % 100 == 0)) || y % 400 == 0
/-- Days of month number m + 1. -/
def mdI (l : Bool) (m : Nat) : Int := if m = 1 then (if l then 29 else 28) else if m = 3 ∨ m = 5 ∨ m = 8 ∨ m = 10 then 30 else 31
def cumI (l : Bool) : Nat → Int
  | 0 => 0
  | m + 1 => cumI l m + mdI l m
def ydI (y : Int) : Int := if leapB y then 366 else 365
/-- The first day of year number k. -/
def fdI : Nat → Int
  | 0 => 0
  | k + 1 => fdI k + ydI (2000 + k)
theorem yd_bd (y : Int) : 365 ≤ ydI y ∧ ydI y ≤ 366 := by unfold ydI; split <;> omega
theorem cum_yd (y : Int) : cumI (leapB y) 12 = ydI y := by unfold ydI; cases leapB y <;> rfl
theorem md_bd (l : Bool) (m : Nat) : 28 ≤ mdI l m ∧ mdI l m ≤ 31 := by
  unfold mdI; cases l <;> simp only [Bool.false_eq_true, if_true, if_false] <;> repeat' split
  all_goals omega
theorem cum_mono (l : Bool) (m : Nat) : ∀ d, cumI l m ≤ cumI l (m + d)
  | 0 => Int.le_refl _
  | d + 1 => by
    have := cum_mono l m d
    have := md_bd l (m + d)
    rw [show m + (d + 1) = m + d + 1 from rfl, cumI]; omega
theorem cum_le {l : Bool} {m n : Nat} (h : m ≤ n) : cumI l m ≤ cumI l n := by
  have := cum_mono l m (n - m)
  rwa [Nat.add_sub_cancel' h] at this
theorem cum_nn (l : Bool) (m : Nat) : 0 ≤ cumI l m := cum_le (m := 0) (Nat.zero_le m)
theorem fd_mono (k : Nat) : ∀ d, fdI k ≤ fdI (k + d)
  | 0 => Int.le_refl _
  | d + 1 => by
    have := fd_mono k d
    have := yd_bd (2000 + ((k + d : Nat) : Int))
    rw [show k + (d + 1) = k + d + 1 from rfl, fdI]; omega
theorem fd_le {m n : Nat} (h : m ≤ n) : fdI m ≤ fdI n := by
  have := fd_mono m (n - m)
  rwa [Nat.add_sub_cancel' h] at this
theorem fd_nn (m : Nat) : 0 ≤ fdI m := fd_le (m := 0) (Nat.zero_le m)
theorem fd_last : fdI 274 = 100077 := by decide +kernel
theorem fd_in {k : Nat} {d : Int} (h : fdI k ≤ d) (h1 : d ≤ 99999) : k ≤ 273 := by
  refine Classical.byContradiction fun hk => ?_
  have := fd_le (show 274 ≤ k by omega)
  rw [fd_last] at this
  omega
/-- The greatest of the first years that begins by day d. -/
def kfI : Nat → Int → Nat
  | 0, _ => 0
  | k + 1, d => if fdI (k + 1) ≤ d then k + 1 else kfI k d
theorem kf_eq {k : Nat} {d : Int} (h : fdI k ≤ d) (h1 : d < fdI (k + 1)) : ∀ n, k ≤ n → kfI n d = k
  | 0, hn => by have : k = 0 := by omega
                subst this; rfl
  | n + 1, hn => by
    rw [kfI]
    by_cases hk : k = n + 1
    · subst hk; rw [if_pos h]
    · have := fd_le (show k + 1 ≤ n + 1 by omega)
      rw [if_neg (by omega)]
      exact kf_eq h h1 n (by omega)
/-- The number of a day within its year. -/
def dyI (d : Int) : Int := d - fdI (kfI 273 d) + 1
theorem dy_eq {k : Nat} {d : Int} (h : fdI k ≤ d) (h1 : d < fdI (k + 1)) (h2 : d ≤ 99999) : dyI d = d - fdI k + 1 := by
  rw [dyI, kf_eq h h1 273 (fd_in h h2)]
theorem kf_at {d : Int} (h0 : 0 ≤ d) : ∀ n, d < fdI (n + 1) → fdI (kfI n d) ≤ d ∧ d < fdI (kfI n d + 1)
  | 0, h => ⟨h0, h⟩
  | n + 1, h => by
    rw [kfI]
    by_cases hc : fdI (n + 1) ≤ d
    · rw [if_pos hc]; exact ⟨hc, h⟩
    · rw [if_neg hc]; exact kf_at h0 n (by omega)
theorem dy_bd {d : Int} (h0 : 0 ≤ d) (h1 : d ≤ 99999) : 1 ≤ dyI d ∧ dyI d ≤ 366 := by
  have h := kf_at h0 273 (by rw [fd_last]; omega)
  have := yd_bd (2000 + ((kfI 273 d : Nat) : Int))
  rw [fdI] at h
  unfold dyI
  omega
end Go.Proofs.YtpgcgmbjlecnpaaGreat
/- The calendar: both sides. -/
namespace Go.Proofs.YtpgcgmbjlecnpaaGreat
open Go.RowKit
set_option maxHeartbeats 1000000 in
theorem l03Leap_c (y : Int) (w : World) (h0 : 2000 ≤ y) : Calls Tryz.prog 143 #[.int .i64 y] w fun e w' => e = .returned (.bool (leapB y)) ∧ w = w' := by
  have t4 : y.tmod 4 = y % 4 := Int.tmod_eq_emod_of_nonneg (by omega)
  have t100 : y.tmod 100 = y % 100 := Int.tmod_eq_emod_of_nonneg (by omega)
  have t400 : y.tmod 400 = y % 400 := Int.tmod_eq_emod_of_nonneg (by omega)
  obtain ⟨B, hB⟩ : ∃ B, leapB y = B := ⟨_, rfl⟩
  have hB2 := hB
  rw [hB]
  unfold leapB at hB2
  generalize y % 4 = a at *
  generalize y % 100 = b at *
  generalize y % 400 = c at *
  clear hB
  by_cases ha : a = 0
  · by_cases hb : b = 0
    · by_cases hc : c = 0
      · obtain rfl : B = true := by rw [← hB2]; simp [ha, hb, hc]
        clear hB2
        go_enter Tryz.func143, Tryz.ntmps143
        go_wp2_with fail
        go_ret
        first | exact ⟨rfl, rfl⟩ | exact ⟨ret_eq (bool_eq (by simp [hc])), rfl⟩
      · obtain rfl : B = false := by rw [← hB2]; simp [ha, hb, hc]
        clear hB2
        go_enter Tryz.func143, Tryz.ntmps143
        go_wp2_with fail
        go_ret
        first | exact ⟨rfl, rfl⟩ | exact ⟨ret_eq (bool_eq (by simp [hc])), rfl⟩
    · obtain rfl : B = true := by rw [← hB2]; simp [ha, hb]
      clear hB2
      go_enter Tryz.func143, Tryz.ntmps143
      go_wp2_with fail
      go_ret
      first | exact ⟨rfl, rfl⟩ | exact ⟨ret_eq (bool_eq (by simp [hc])), rfl⟩
  · by_cases hc : c = 0
    · obtain rfl : B = true := by rw [← hB2]; simp [hc]
      clear hB2
      go_enter Tryz.func143, Tryz.ntmps143
      go_wp2_with fail
      go_ret
      first | exact ⟨rfl, rfl⟩ | exact ⟨ret_eq (bool_eq (by simp [hc])), rfl⟩
    · obtain rfl : B = false := by rw [← hB2]; simp [ha, hc]
      clear hB2
      go_enter Tryz.func143, Tryz.ntmps143
      go_wp2_with fail
      go_ret
      first | exact ⟨rfl, rfl⟩ | exact ⟨ret_eq (bool_eq (by simp [hc])), rfl⟩
set_option maxHeartbeats 1000000 in
theorem l03Days_c (y : Int) (m : Nat) (w : World) (h0 : 2000 ≤ y) (hm : m ≤ 11) : Calls Tryz.prog 142 #[.int .i64 y, .int .i64 ((m : Int) + 1)] w fun e w' => e = .returned (.int .i64 (mdI (leapB y) m)) ∧ w = w' := by
  have hL : ∀ w1, Calls Tryz.prog 143 #[.int .i64 y] w1 fun e w' => e = .returned (.bool (leapB y)) ∧ w1 = w' := fun w1 => l03Leap_c y w1 h0
  generalize leapB y = L at hL ⊢
  have HL := Lib.hid hL; clear hL
  have hc : m = 0 ∨ m = 1 ∨ m = 2 ∨ m = 3 ∨ m = 4 ∨ m = 5 ∨ m = 6 ∨ m = 7 ∨ m = 8 ∨ m = 9 ∨ m = 10 ∨ m = 11 := by omega
  rcases hc with rfl | rfl | rfl | rfl | rfl | rfl | rfl | rfl | rfl | rfl | rfl | rfl
  all_goals
    cases L
    all_goals
      go_enter Tryz.func142, Tryz.ntmps142
      go_wp2_with (go_at_call 143; refine (HL.out _).mono ?_; rintro e w1 ⟨rfl, rfl⟩)
      go_ret
      exact ⟨rfl, rfl⟩
set_option maxHeartbeats 1000000 in
theorem l03Number_c (k : Nat) (w : World) (hk : k ≤ 273) : Calls Tryz.prog 139 #[.int .i64 (2000 + (k : Int)), .int .i64 1, .int .i64 1] w fun e w' => e = .returned (.int .i64 (fdI k)) ∧ w = w' := by
  go_enter Tryz.func139, Tryz.ntmps139
  go_wp2
  go_loopw [7, 8] (fun s y wr => ∃ i : Nat, i ≤ k ∧ s = .int .i64 (fdI i) ∧ y = .int .i64 (2000 + (i : Int)) ∧ w = wr) (fun _ y _ => (2000 + (k : Int) - intOf y).toNat)
  case atStart => exact ⟨0, Nat.zero_le _, rfl, rfl, rfl⟩
  case round =>
    obtain ⟨i, hi, rfl, rfl, rfl⟩ := hrel
    by_cases hlt : i < k
    · have e1 : 2000 + (i : Int) < 2000 + (k : Int) := by omega
      have hn : fdI (i + 1) = fdI i + ydI (2000 + i) := rfl
      have b1 := fd_nn i
      have b2 := fd_le (show i ≤ 274 by omega)
      rw [fd_last] at b2
      have hL : ∀ w1, Calls Tryz.prog 143 #[.int .i64 (2000 + (i : Int))] w1 fun e w' => e = .returned (.bool (leapB (2000 + (i : Int)))) ∧ w1 = w' := fun w1 => l03Leap_c _ w1 (by omega)
      unfold ydI at hn
      generalize fdI i = F at *
      have HL := Lib.hid hL; clear hL
      have Hn := Lib.hid hn; clear hn
      cases hl : leapB (2000 + (i : Int))
      all_goals
        go_wp2_with (go_at_call 143; refine (HL.out _).mono ?_; rw [hl]; rintro e w1 ⟨rfl, rfl⟩)
        go_roundw
        case rel => exact ⟨i + 1, by omega, int_eq (by rw [Hn.out, hl]; simp; try omega), int_eq (by omega), by trivial⟩
        case measure => simp [intOf]; omega
    · obtain rfl : i = k := by omega
      have e1 : ¬ (2000 + (i : Int) < 2000 + (i : Int)) := by omega
      go_wp2
      go_loopw [7, 9] (fun s m wr => s = .int .i64 (fdI i) ∧ m = .int .i64 1 ∧ w = wr) (fun _ _ _ => 0)
      case atStart => exact ⟨rfl, rfl, by trivial⟩
      case round =>
        obtain ⟨rfl, rfl, rfl⟩ := hrel
        go_wp2
        go_ret
        exact ⟨rfl, rfl⟩
set_option maxHeartbeats 1000000 in
theorem l03Date_c (d : Int) (w : World) (h0 : 0 ≤ d) (h1 : d ≤ 99999) : Calls Tryz.prog 138 #[.int .i64 d] w fun e w' => (∃ m x : Int, e = .returned (.tuple #[.int .i64 (2000 + (kfI 273 d : Int)), .int .i64 m, .int .i64 x])) ∧ w = w' := by
  obtain ⟨K, hK⟩ : ∃ K, kfI 273 d = K := ⟨_, rfl⟩
  rw [hK]
  have HK := Lib.hid hK; clear hK
  go_enter Tryz.func138, Tryz.ntmps138
  go_wp2
  go_loopw [0, 5, 6] (fun x y z wr => ∃ (i m : Nat), i ≤ 273 ∧ m ≤ 11 ∧ fdI i + cumI (leapB (2000 + (i : Int))) m ≤ d ∧ x = .int .i64 (d - (fdI i + cumI (leapB (2000 + (i : Int))) m)) ∧ y = .int .i64 (2000 + (i : Int)) ∧ z = .int .i64 ((m : Int) + 1) ∧ w = wr) (fun x _ _ _ => (intOf x).toNat)
  case atStart => exact ⟨0, 0, by omega, by omega, by simpa [fdI, cumI] using h0, int_eq (by simp [fdI, cumI]), rfl, rfl, rfl⟩
  case round =>
    obtain ⟨i, m, hi, hm, hle, rfl, rfl, rfl, rfl⟩ := hrel
    have hD : ∀ w1, Calls Tryz.prog 142 #[.int .i64 (2000 + (i : Int)), .int .i64 ((m : Int) + 1)] w1 fun e w' => e = .returned (.int .i64 (mdI (leapB (2000 + (i : Int))) m)) ∧ w1 = w' := fun w1 => l03Days_c _ m w1 (by omega) hm
    have hb := md_bd (leapB (2000 + (i : Int))) m
    have hcn : cumI (leapB (2000 + (i : Int))) (m + 1) = cumI (leapB (2000 + (i : Int))) m + mdI (leapB (2000 + (i : Int))) m := rfl
    have b1 := fd_nn i
    have b2 := cum_nn (leapB (2000 + (i : Int))) m
    have hfn : fdI (i + 1) = fdI i + cumI (leapB (2000 + (i : Int))) 12 := by rw [cum_yd]; rfl
    have hc12 := cum_le (l := leapB (2000 + (i : Int))) (show m + 1 ≤ 12 by omega)
    generalize hM : mdI (leapB (2000 + (i : Int))) m = M at *
    generalize hC : fdI i + cumI (leapB (2000 + (i : Int))) m = C at *
    have hC0 : 0 ≤ C := by omega
    have HD := Lib.hid hD; clear hD
    have Hcn := Lib.hid hcn; clear hcn
    have Hfn := Lib.hid hfn; clear hfn
    have Hc12 := Lib.hid hc12; clear hc12
    have HC := Lib.hid hC; clear hC
    clear b1 b2 hM
    by_cases hge : M ≤ d - C
    · by_cases h11 : m = 11
      · subst h11
        have hfi : fdI (i + 1) = C + M := by rw [Hfn.out, Hcn.out]; have := HC.out; omega
        have hi2 := fd_in (k := i + 1) (d := d) (by omega) h1
        have Hfi := Lib.hid hfi; clear hfi
        go_wp2_with (go_at_call 142; refine (HD.out _).mono ?_; rintro e w1 ⟨rfl, rfl⟩)
        go_roundw
        case rel => exact ⟨i + 1, 0, hi2, by omega, by rw [cumI, Hfi.out]; omega, int_eq (by rw [cumI, Hfi.out]; omega), int_eq (by omega), rfl, by trivial⟩
        case measure => simp [intOf]; omega
      · have h11' : ¬ (12 : Int) < (m : Int) + 1 + 1 := by omega
        go_wp2_with (go_at_call 142; refine (HD.out _).mono ?_; rintro e w1 ⟨rfl, rfl⟩)
        go_roundw
        case rel => exact ⟨i, m + 1, hi, by omega, by rw [Hcn.out]; have := HC.out; omega, int_eq (by rw [Hcn.out]; have := HC.out; omega), rfl, int_eq (by omega), by trivial⟩
        case measure => simp [intOf]; omega
    · have hk : kfI 273 d = i := by
        have e1 := Hfn.out
        have e2 := Hcn.out
        have e3 := Hc12.out
        have e4 := HC.out
        have e5 := cum_nn (leapB (2000 + (i : Int))) m
        exact kf_eq (by omega) (by omega) 273 hi
      obtain rfl : K = i := by rw [← HK.out, hk]
      clear hk
      go_wp2_with (go_at_call 142; refine (HD.out _).mono ?_; rintro e w1 ⟨rfl, rfl⟩)
      go_ret3
      exact ⟨⟨_, _, rfl⟩, rfl⟩
set_option maxHeartbeats 1000000 in
theorem dayOfYear_c (d : Int) (w : World) (h0 : 0 ≤ d) (h1 : d ≤ 99999) : Calls Tryz.prog 131 #[.int .i64 d] w fun e w' => e = .returned (.tuple #[.int .i64 (dyI d), .int .i64 0]) ∧ w = w' := by
  have hb := dy_bd h0 h1
  have hk := kf_at h0 273 (by rw [fd_last]; omega)
  have hk2 := fd_in hk.1 h1
  have hn := fd_nn (kfI 273 d)
  have hI : inB d 0 99999 = true := inB_iff.2 ⟨h0, h1⟩
  have hV : ∀ w1, Calls Tryz.prog 59 #[.int .i64 d] w1 fun e w' => e = .returned (.bool true) ∧ w1 = w' := fun w1 => by
    go_enter Tryz.func59, Tryz.ntmps59
    go_wp2_with (go_at_call 58; refine (l00In_c _ _ _ _).mono ?_; rintro e w1 ⟨rfl, rfl⟩)
    go_ret
    exact ⟨rfl, rfl⟩
  have hD : ∀ w1, Calls Tryz.prog 138 #[.int .i64 d] w1 fun e w' => (∃ m x : Int, e = .returned (.tuple #[.int .i64 (2000 + (kfI 273 d : Int)), .int .i64 m, .int .i64 x])) ∧ w1 = w' := fun w1 => l03Date_c d w1 h0 h1
  have hN : ∀ w1, Calls Tryz.prog 139 #[.int .i64 (2000 + (kfI 273 d : Int)), .int .i64 1, .int .i64 1] w1 fun e w' => e = .returned (.int .i64 (fdI (kfI 273 d))) ∧ w1 = w' := fun w1 => l03Number_c _ w1 hk2
  have hdy : dyI d = d - fdI (kfI 273 d) + 1 := rfl
  rw [hdy] at hb ⊢
  generalize fdI (kfI 273 d) = F at *
  have hF := hk.1
  clear hk hdy hI
  generalize kfI 273 d = K at *
  have HV := Lib.hid hV; clear hV
  have HD := Lib.hid hD; clear hD
  have HN := Lib.hid hN; clear hN
  go_enter Tryz.func131, Tryz.ntmps131
  go_wp2_with (first | (go_at_call 59; refine (HV.out _).mono ?_; rintro e w1 ⟨rfl, rfl⟩) | (go_at_call 138; refine (HD.out _).mono ?_; rintro e w1 ⟨⟨m, x, rfl⟩, rfl⟩) | (go_at_call 139; refine (HN.out _).mono ?_; rintro e w1 ⟨rfl, rfl⟩))
  go_ret2
  exact ⟨rfl, rfl⟩
set_option maxHeartbeats 1000000 in
theorem isLeap_c (y : Int) (w : World) (h0 : 2000 ≤ y) (h1 : y ≤ 2273) : Calls Tryz.prog 144 #[.int .i64 y] w fun e w' => e = .returned (.bool (leapB y)) ∧ w = w' := by
  have hI : inB y 2000 2273 = true := inB_iff.2 ⟨h0, h1⟩
  have hY : ∀ w1, Calls Tryz.prog 145 #[.int .i64 y] w1 fun e w' => e = .returned (.bool true) ∧ w1 = w' := fun w1 => by
    go_enter Tryz.func145, Tryz.ntmps145
    go_wp2_with (go_at_call 88; refine (within_c _ _ _ _).mono ?_; rintro e w1 ⟨rfl, rfl⟩)
    go_ret
    exact ⟨rfl, rfl⟩
  clear hI
  have HY := Lib.hid hY; clear hY
  have t4 : y.tmod 4 = y % 4 := Int.tmod_eq_emod_of_nonneg (by omega)
  have t100 : y.tmod 100 = y % 100 := Int.tmod_eq_emod_of_nonneg (by omega)
  have t400 : y.tmod 400 = y % 400 := Int.tmod_eq_emod_of_nonneg (by omega)
  obtain ⟨B, hB⟩ : ∃ B, leapB y = B := ⟨_, rfl⟩
  have hB2 := hB
  rw [hB]
  unfold leapB at hB2
  generalize y % 4 = a at *
  generalize y % 100 = b at *
  generalize y % 400 = c at *
  clear hB
  by_cases ha : a = 0
  · by_cases hb : b = 0
    · by_cases hc : c = 0
      · obtain rfl : B = true := by rw [← hB2]; simp [ha, hb, hc]
        clear hB2
        go_enter Tryz.func144, Tryz.ntmps144
        go_wp2_with (go_at_call 145; refine (HY.out _).mono ?_; rintro e w1 ⟨rfl, rfl⟩)
        go_ret
        first | exact ⟨rfl, rfl⟩ | exact ⟨ret_eq (bool_eq (by simp [hc])), rfl⟩
      · obtain rfl : B = false := by rw [← hB2]; simp [ha, hb, hc]
        clear hB2
        go_enter Tryz.func144, Tryz.ntmps144
        go_wp2_with (go_at_call 145; refine (HY.out _).mono ?_; rintro e w1 ⟨rfl, rfl⟩)
        go_ret
        first | exact ⟨rfl, rfl⟩ | exact ⟨ret_eq (bool_eq (by simp [hc])), rfl⟩
    · obtain rfl : B = true := by rw [← hB2]; simp [ha, hb]
      clear hB2
      go_enter Tryz.func144, Tryz.ntmps144
      go_wp2_with (go_at_call 145; refine (HY.out _).mono ?_; rintro e w1 ⟨rfl, rfl⟩)
      go_ret
      first | exact ⟨rfl, rfl⟩ | exact ⟨ret_eq (bool_eq (by simp [hc])), rfl⟩
  · by_cases hc : c = 0
    · obtain rfl : B = true := by rw [← hB2]; simp [hc]
      clear hB2
      go_enter Tryz.func144, Tryz.ntmps144
      go_wp2_with (go_at_call 145; refine (HY.out _).mono ?_; rintro e w1 ⟨rfl, rfl⟩)
      go_ret
      first | exact ⟨rfl, rfl⟩ | exact ⟨ret_eq (bool_eq (by simp [hc])), rfl⟩
    · obtain rfl : B = false := by rw [← hB2]; simp [ha, hc]
      clear hB2
      go_enter Tryz.func144, Tryz.ntmps144
      go_wp2_with (go_at_call 145; refine (HY.out _).mono ?_; rintro e w1 ⟨rfl, rfl⟩)
      go_ret
      first | exact ⟨rfl, rfl⟩ | exact ⟨ret_eq (bool_eq (by simp [hc])), rfl⟩
set_option maxHeartbeats 1000000 in
theorem yearDays_c (y : Int) (w : World) (h0 : 2000 ≤ y) (h1 : y ≤ 2273) : Calls Tryz.prog 140 #[.int .i64 y] w fun e w' => e = .returned (.int .i64 (ydI y)) ∧ w = w' := by
  have hL : ∀ w1, Calls Tryz.prog 144 #[.int .i64 y] w1 fun e w' => e = .returned (.bool (leapB y)) ∧ w1 = w' := fun w1 => isLeap_c y w1 h0 h1
  unfold ydI
  generalize leapB y = L at *
  have HL := Lib.hid hL; clear hL
  cases L
  all_goals
    go_enter Tryz.func140, Tryz.ntmps140
    go_wp2_with (go_at_call 144; refine (HL.out _).mono ?_; rintro e w1 ⟨rfl, rfl⟩)
    go_ret
    exact ⟨rfl, rfl⟩
def monA : Array Value := #[.int .i64 31, .int .i64 28, .int .i64 31, .int .i64 30, .int .i64 31, .int .i64 30, .int .i64 31, .int .i64 31, .int .i64 30, .int .i64 31, .int .i64 30, .int .i64 31]
theorem monA_at (m : Nat) (hm : m ≤ 11) : monA[m]? = some (.int .i64 (mdI false m)) := by
  have hc : m = 0 ∨ m = 1 ∨ m = 2 ∨ m = 3 ∨ m = 4 ∨ m = 5 ∨ m = 6 ∨ m = 7 ∨ m = 8 ∨ m = 9 ∨ m = 10 ∨ m = 11 := by omega
  rcases hc with rfl | rfl | rfl | rfl | rfl | rfl | rfl | rfl | rfl | rfl | rfl | rfl <;> rfl
theorem mdI_not (l : Bool) {m : Nat} (h : m ≠ 1) : mdI l m = mdI false m := by unfold mdI; rw [if_neg h, if_neg h]
set_option maxRecDepth 100000 in
set_option maxHeartbeats 1000000 in
theorem monthDays_c (y : Int) (m : Nat) (w : World) (h0 : 2000 ≤ y) (h1 : y ≤ 2273) (hm : m ≤ 11) : Calls Tryz.prog 141 #[.int .i64 y, .int .i64 ((m : Int) + 1)] w fun e w' => e = .returned (.int .i64 (mdI (leapB y) m)) ∧ w = w' := by
  have hL : ∀ w1, Calls Tryz.prog 144 #[.int .i64 y] w1 fun e w' => e = .returned (.bool (leapB y)) ∧ w1 = w' := fun w1 => isLeap_c y w1 h0 h1
  obtain ⟨a, ha⟩ : ∃ a : Array Value, (#[.int .i64 31, .int .i64 28, .int .i64 31, .int .i64 30, .int .i64 31, .int .i64 30, .int .i64 31, .int .i64 31, .int .i64 30, .int .i64 31, .int .i64 30, .int .i64 31] : Array Value) = a := ⟨_, rfl⟩
  have has : a.size = 12 := by rw [← ha]; rfl
  have hmb : a[m]? = some (.int .i64 (mdI false m)) := by rw [← ha]; exact monA_at m hm
  have hma : ∀ h : m < a.size, a[m] = .int .i64 (mdI false m) := fun h => by rw [Array.getElem?_eq_getElem h] at hmb; exact Option.some.inj hmb
  have hix : ∀ w1 : World, (Instr.index 116 (.agg a) (.int .i64 (m : Int))).run Tryz.prog w1 = .ok (.int .i64 (mdI false m)) w1 := fun w1 => by
    have hlt : (0 : Int) ≤ (m : Int) ∧ (m : Int) < ((12 : Nat) : Int) := by omega
    have hl : m < a.size := by omega
    simp [Instr.index, run_underlying Tryz.underlying116, asIntOf, hlt, go_sem, part, hma, hl]
    try (intro h; omega)
  clear hmb hma has
  generalize leapB y = L at hL ⊢
  have e2 : IntKind.i64.wrap ((m : Int) + 1 - 1) = (m : Int) := by rw [IntWalk.i64_in _ (by omega)]; omega
  have e3 : (m : Int) + 1 - 1 = (m : Int) := by omega
  have HL := Lib.hid hL; clear hL
  have HA := Lib.hid ha; clear ha
  by_cases h1m : m = 1
  · subst h1m
    cases L
    · have hv : mdI false 1 = 28 := rfl
      rw [hv] at hix ⊢
      replace hix : ∀ w1 : World, (Instr.index 116 (.agg a) (.int .i64 1)).run Tryz.prog w1 = .ok (.int .i64 28) w1 := hix
      clear e2 e3
      go_enter Tryz.func141, Tryz.ntmps141
      go_wp2_with (first | (go_at_call 144; refine (HL.out _).mono ?_; rintro e w1 ⟨rfl, rfl⟩) | (refine wpl_built rfl 116 _ rfl a (Eq.trans (by kernel_rfl) (congrArg some HA.out)) ?_))
      go_ret
      exact ⟨rfl, rfl⟩
    · go_enter Tryz.func141, Tryz.ntmps141
      go_wp2_with (first | (go_at_call 144; refine (HL.out _).mono ?_; rintro e w1 ⟨rfl, rfl⟩) | (refine wpl_built rfl 116 _ rfl a (Eq.trans (by kernel_rfl) (congrArg some HA.out)) ?_))
      go_ret
      exact ⟨rfl, rfl⟩
  · rw [mdI_not L h1m]
    generalize mdI false m = q at hix ⊢
    have h2 : ¬ ((m : Int) + 1 = 2) := by omega
    go_enter Tryz.func141, Tryz.ntmps141
    go_wp2_with (first | (go_at_call 144; refine (HL.out _).mono ?_; rintro e w1 ⟨rfl, rfl⟩) | (refine wpl_built rfl 116 _ rfl a (Eq.trans (by kernel_rfl) (congrArg some HA.out)) ?_))
    go_ret
    exact ⟨rfl, rfl⟩
set_option maxHeartbeats 1000000 in
theorem firstDay_c (k : Nat) (w : World) (hk : k ≤ 273) : Calls Tryz.prog 137 #[.int .i64 (2000 + (k : Int))] w fun e w' => e = .returned (.int .i64 (fdI k)) ∧ w = w' := by
  go_enter Tryz.func137, Tryz.ntmps137
  go_wp2
  go_loopw [3, 4] (fun s y wr => ∃ i : Nat, i ≤ k ∧ s = .int .i64 (fdI i) ∧ y = .int .i64 (2000 + (i : Int)) ∧ w = wr) (fun _ y _ => (2000 + (k : Int) - intOf y).toNat)
  case atStart => exact ⟨0, Nat.zero_le _, rfl, rfl, rfl⟩
  case round =>
    obtain ⟨i, hi, rfl, rfl, rfl⟩ := hrel
    by_cases hlt : i < k
    · have e1 : 2000 + (i : Int) < 2000 + (k : Int) := by omega
      have hn : fdI (i + 1) = fdI i + ydI (2000 + i) := rfl
      have b1 := fd_nn i
      have b2 := fd_le (show i ≤ 274 by omega)
      have b3 := yd_bd (2000 + (i : Int))
      rw [fd_last] at b2
      have hL : ∀ w1, Calls Tryz.prog 140 #[.int .i64 (2000 + (i : Int))] w1 fun e w' => e = .returned (.int .i64 (ydI (2000 + (i : Int)))) ∧ w1 = w' := fun w1 => yearDays_c _ w1 (by omega) (by omega)
      generalize ydI (2000 + (i : Int)) = Y at *
      generalize fdI i = F at *
      have HL := Lib.hid hL; clear hL
      have Hn := Lib.hid hn; clear hn
      go_wp2_with (go_at_call 140; refine (HL.out _).mono ?_; rintro e w1 ⟨rfl, rfl⟩)
      go_roundw
      case rel => exact ⟨i + 1, by omega, int_eq (by rw [Hn.out]), int_eq (by omega), by trivial⟩
      case measure => simp [intOf]; omega
    · obtain rfl : i = k := by omega
      have e1 : ¬ (2000 + (i : Int) < 2000 + (i : Int)) := by omega
      go_wp2
      go_ret
      exact ⟨rfl, rfl⟩
set_option maxRecDepth 100000 in
set_option maxHeartbeats 1000000 in
theorem dateOf_c (d : Int) (w : World) (h0 : 0 ≤ d) (h1 : d ≤ 99999) : Calls Tryz.prog 136 #[.int .i64 d] w fun e w' => (∃ m x : Int, e = .returned (.tuple #[.int .i64 (2000 + (kfI 273 d : Int)), .int .i64 m, .int .i64 x])) ∧ w = w' := by
  obtain ⟨K, hK⟩ : ∃ K, kfI 273 d = K := ⟨_, rfl⟩
  rw [hK]
  have HK := Lib.hid hK; clear hK
  go_enter Tryz.func136, Tryz.ntmps136
  go_wp2
  go_loopw [0, 5] (fun x y wr => ∃ (i : Nat), i ≤ 273 ∧ fdI i ≤ d ∧ x = .int .i64 (d - fdI i) ∧ y = .int .i64 (2000 + (i : Int)) ∧ w = wr) (fun x _ _ => (intOf x).toNat)
  case atStart => exact ⟨0, by omega, by simpa [fdI] using h0, int_eq (by simp [fdI]), rfl, rfl⟩
  case round =>
    obtain ⟨i, hi, hle, rfl, rfl, rfl⟩ := hrel
    have hL : ∀ w1, Calls Tryz.prog 140 #[.int .i64 (2000 + (i : Int))] w1 fun e w' => e = .returned (.int .i64 (ydI (2000 + (i : Int)))) ∧ w1 = w' := fun w1 => yearDays_c _ w1 (by omega) (by omega)
    have hn : fdI (i + 1) = fdI i + ydI (2000 + i) := rfl
    have b1 := fd_nn i
    have b3 := yd_bd (2000 + (i : Int))
    have hc := cum_yd (2000 + (i : Int))
    generalize ydI (2000 + (i : Int)) = Y at *
    generalize hF : fdI i = F at *
    have HL := Lib.hid hL; clear hL
    have Hn := Lib.hid hn; clear hn
    have Hc := Lib.hid hc; clear hc
    by_cases hge : Y ≤ d - F
    · have hi2 := fd_in (k := i + 1) (d := d) (by rw [Hn.out]; omega) h1
      go_wp2_with (go_at_call 140; refine (HL.out _).mono ?_; rintro e w1 ⟨rfl, rfl⟩)
      go_roundw
      case rel => exact ⟨i + 1, hi2, by rw [Hn.out]; omega, int_eq (by rw [Hn.out]; omega), int_eq (by omega), by trivial⟩
      case measure => simp [intOf]; omega
    · obtain rfl : K = i := by rw [← HK.out]; exact kf_eq (by omega) (by rw [Hn.out]; omega) 273 hi
      clear hF
      go_wp2_with (go_at_call 140; refine (HL.out _).mono ?_; rintro e w1 ⟨rfl, rfl⟩)
      go_loopw [0, 6] (fun x z wr => ∃ m : Nat, m ≤ 11 ∧ cumI (leapB (2000 + (K : Int))) m ≤ d - F ∧ x = .int .i64 (d - F - cumI (leapB (2000 + (K : Int))) m) ∧ z = .int .i64 ((m : Int) + 1) ∧ w = wr) (fun x _ _ => (intOf x).toNat)
      case atStart => exact ⟨0, by omega, by simp [cumI]; omega, int_eq (by simp [cumI]), rfl, by trivial⟩
      case round =>
        obtain ⟨m, hm, hcl, rfl, rfl, rfl⟩ := hrel
        have hD : ∀ w1, Calls Tryz.prog 141 #[.int .i64 (2000 + (K : Int)), .int .i64 ((m : Int) + 1)] w1 fun e w' => e = .returned (.int .i64 (mdI (leapB (2000 + (K : Int))) m)) ∧ w1 = w' := fun w1 => monthDays_c _ m w1 (by omega) (by omega) hm
        have hb := md_bd (leapB (2000 + (K : Int))) m
        have hcn : cumI (leapB (2000 + (K : Int))) (m + 1) = cumI (leapB (2000 + (K : Int))) m + mdI (leapB (2000 + (K : Int))) m := rfl
        have hc12 : m + 1 = 12 → cumI (leapB (2000 + (K : Int))) (m + 1) = Y := fun h => by rw [h]; exact Hc.out
        have c0 := cum_nn (leapB (2000 + (K : Int))) m
        generalize hM : mdI (leapB (2000 + (K : Int))) m = M at *
        generalize hC : cumI (leapB (2000 + (K : Int))) m = C at *
        have HD := Lib.hid hD; clear hD
        have Hcn := Lib.hid hcn; clear hcn
        have Hc12 := Lib.hid hc12; clear hc12
        clear hM hC
        by_cases hge2 : M ≤ d - F - C
        · have hm2 : m + 1 ≤ 11 := by
            have a1 := Hcn.out
            have a2 := Hc12.out
            omega
          go_wp2_with (go_at_call 141; refine (HD.out _).mono ?_; rintro e w1 ⟨rfl, rfl⟩)
          go_roundw
          case rel => exact ⟨m + 1, hm2, by rw [Hcn.out]; omega, int_eq (by rw [Hcn.out]; omega), int_eq (by omega), by trivial⟩
          case measure => simp [intOf]; omega
        · go_wp2_with (go_at_call 141; refine (HD.out _).mono ?_; rintro e w1 ⟨rfl, rfl⟩)
          go_ret3
          exact ⟨⟨_, _, rfl⟩, rfl⟩
set_option maxHeartbeats 1000000 in
theorem implDay_yc (d : Int) (w : World) (h0 : 0 ≤ d) (h1 : d ≤ 99999) : Calls Tryz.prog 128 #[.int .i64 d] w fun e w' => e = .returned (.int .i64 (dyI d)) ∧ w = w' := by
  have hb := dy_bd h0 h1
  have hk := kf_at h0 273 (by rw [fd_last]; omega)
  have hk2 := fd_in hk.1 h1
  have hn := fd_nn (kfI 273 d)
  have hD : ∀ w1, Calls Tryz.prog 136 #[.int .i64 d] w1 fun e w' => (∃ m x : Int, e = .returned (.tuple #[.int .i64 (2000 + (kfI 273 d : Int)), .int .i64 m, .int .i64 x])) ∧ w1 = w' := fun w1 => dateOf_c d w1 h0 h1
  have hN : ∀ w1, Calls Tryz.prog 137 #[.int .i64 (2000 + (kfI 273 d : Int))] w1 fun e w' => e = .returned (.int .i64 (fdI (kfI 273 d))) ∧ w1 = w' := fun w1 => firstDay_c _ w1 hk2
  have hdy : dyI d = d - fdI (kfI 273 d) + 1 := rfl
  rw [hdy] at hb ⊢
  generalize fdI (kfI 273 d) = F at *
  have hF := hk.1
  clear hk hdy
  generalize kfI 273 d = K at *
  have HD := Lib.hid hD; clear hD
  have HN := Lib.hid hN; clear hN
  go_enter Tryz.func128, Tryz.ntmps128
  go_wp2_with (first | (go_at_call 136; refine (HD.out _).mono ?_; rintro e w1 ⟨⟨m, x, rfl⟩, rfl⟩) | (go_at_call 137; refine (HN.out _).mono ?_; rintro e w1 ⟨rfl, rfl⟩))
  go_ret
  exact ⟨rfl, rfl⟩
end Go.Proofs.YtpgcgmbjlecnpaaGreat
