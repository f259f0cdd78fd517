
/- The number with a decimal form: plain. -/
import Derived.Lib.ItoaNum
import Derived.Lib.ParseIntB
namespace Go.Proofs.YtjkjmpmefapnoaaGreatDoor
def isDg (c : UInt8) : Bool := decide (48 ≤ c.toNat) && decide (c.toNat ≤ 57)
theorem isDg_iff {c : UInt8} : isDg c = true ↔ 48 ≤ c.toNat ∧ c.toNat ≤ 57 := by simp [isDg]
def valD (acc : Nat) (l : List UInt8) : Nat := l.foldl (fun a c => 10 * a + (c.toNat - 48)) acc
theorem valD_cons (acc : Nat) (c : UInt8) (l : List UInt8) : valD acc (c :: l) = valD (10 * acc + (c.toNat - 48)) l := by simp only [valD, List.foldl_cons]
theorem valD_app (acc : Nat) (l m : List UInt8) : valD acc (l ++ m) = valD (valD acc l) m := by simp [valD]
/-- The digits behind a sign. -/
def digL (l : List UInt8) : List UInt8 := if l.head? = some 45 then l.tail else l
def numOk (l : List UInt8) : Bool := decide (digL l ≠ []) && (decide ((digL l).length ≤ 18) && (!(decide ((digL l).head? = some 48) && decide (1 < l.length)) && (digL l).all isDg))
def numV (l : List UInt8) : Int := if l.head? = some 45 then -(valD 0 (digL l) : Int) else valD 0 (digL l)
/-- The number with a decimal form, if it has one of at most 18 digits. -/
def numR (l : List UInt8) : Option Int := if numOk l then some (numV l) else none
theorem dec_next {a k : Nat} (ha : 1 ≤ a) (hk : k < 10) : Lib.decDigits (10 * a + k) = Lib.decDigits a ++ [UInt8.ofNat (48 + k)] := by
  rw [Lib.decDigits, dif_neg (by omega), show (10 * a + k) / 10 = a by omega, show (10 * a + k) % 10 = k by omega]
theorem dg_back {c : UInt8} (h : isDg c = true) : UInt8.ofNat (48 + (c.toNat - 48)) = c := by
  obtain ⟨h1, h2⟩ := isDg_iff.1 h
  rw [show 48 + (c.toNat - 48) = c.toNat by omega]
  simp
theorem dec_val : ∀ (l : List UInt8) (acc : Nat), 1 ≤ acc → l.all isDg = true → Lib.decDigits (valD acc l) = Lib.decDigits acc ++ l
  | [], acc, _, _ => by simp [valD]
  | c :: r, acc, ha, h => by
    rw [List.all_cons, Bool.and_eq_true] at h
    obtain ⟨h1, h2⟩ := isDg_iff.1 h.1
    rw [valD_cons, dec_val r _ (by omega) h.2, dec_next ha (by omega), dg_back h.1, List.append_assoc]
    rfl
theorem dec_all : ∀ u, (Lib.decDigits u).all isDg = true := fun u => by
  induction u using Nat.strongRecOn with
  | _ u ih =>
    have h48 : ∀ k, k < 10 → isDg (UInt8.ofNat (48 + k)) = true := fun k hk => isDg_iff.2 (by rw [UInt8.toNat_ofNat']; omega)
    by_cases h : u < 10
    · rw [Lib.decDigits, dif_pos h]; simpa using h48 u h
    · rw [Lib.decDigits, dif_neg h, List.all_append, ih (u / 10) (by omega)]
      simpa using h48 (u % 10) (by omega)
theorem dec_back : ∀ u, valD 0 (Lib.decDigits u) = u := fun u => by
  induction u using Nat.strongRecOn with
  | _ u ih =>
    have h48 : ∀ k, k < 10 → (UInt8.ofNat (48 + k)).toNat = 48 + k := fun k hk => by rw [UInt8.toNat_ofNat']; omega
    by_cases h : u < 10
    · rw [Lib.decDigits, dif_pos h, valD_cons, h48 u h]; simp [valD]
    · rw [Lib.decDigits, dif_neg h, valD_app, ih (u / 10) (by omega), valD_cons, h48 _ (by omega)]
      simp only [valD, List.foldl_nil]; omega
theorem dec_head : ∀ u, 1 ≤ u → ∃ c r, Lib.decDigits u = c :: r ∧ isDg c = true ∧ c ≠ 48 := fun u => by
  induction u using Nat.strongRecOn with
  | _ u ih =>
    intro hu
    by_cases h : u < 10
    · refine ⟨UInt8.ofNat (48 + u), [], by rw [Lib.decDigits, dif_pos h], isDg_iff.2 (by rw [UInt8.toNat_ofNat']; omega), fun e => ?_⟩
      have := congrArg UInt8.toNat e
      rw [UInt8.toNat_ofNat'] at this
      simp at this
      omega
    · obtain ⟨c, r, e, h1, h2⟩ := ih (u / 10) (by omega) (by omega)
      exact ⟨c, r ++ [UInt8.ofNat (48 + u % 10)], by rw [Lib.decDigits, dif_neg h, e]; rfl, h1, h2⟩
theorem dg_ne45 {c : UInt8} (h : isDg c = true) : c ≠ 45 := fun e => by subst e; simp [isDg] at h
theorem numOk_iff {l : List UInt8} : numOk l = true ↔ digL l ≠ [] ∧ (digL l).length ≤ 18 ∧ ¬ ((digL l).head? = some 48 ∧ 1 < l.length) ∧ (digL l).all isDg = true := by
  rw [numOk]
  simp only [Bool.and_eq_true, decide_eq_true_eq, Bool.not_eq_true', Bool.and_eq_false_iff, decide_eq_false_iff_not]
  constructor
  · rintro ⟨a, b, c, d⟩
    exact ⟨a, b, fun h => by rcases c with c | c; exact c h.1; exact c h.2, d⟩
  · rintro ⟨a, b, c, d⟩
    refine ⟨a, b, ?_, d⟩
    by_cases h : (digL l).head? = some 48
    · exact .inr fun h2 => c ⟨h, h2⟩
    · exact .inl h
theorem digL_pos {l : List UInt8} (h : ¬ l.head? = some 45) : digL l = l := if_neg h
theorem digL_neg {l : List UInt8} (h : l.head? = some 45) : l = 45 :: digL l := by
  cases l with
  | nil => simp at h
  | cons c r => simp at h; subst h; simp [digL]
theorem val_dec {d : List UInt8} (h0 : d ≠ []) (ha : d.all isDg = true) (hh : ¬ d.head? = some 48) : Lib.decDigits (valD 0 d) = d ∧ 1 ≤ valD 0 d := by
  cases d with
  | nil => exact absurd rfl h0
  | cons c r =>
    rw [List.all_cons, Bool.and_eq_true] at ha
    obtain ⟨h1, h2⟩ := isDg_iff.1 ha.1
    have hc : 1 ≤ c.toNat - 48 := by
      rcases Nat.lt_or_ge 48 c.toNat with h | h
      · omega
      · exact absurd (congrArg some (show c = 48 from UInt8.toNat.inj (by simp; omega))) hh
    have e : 10 * 0 + (c.toNat - 48) = c.toNat - 48 := by omega
    have hd : Lib.decDigits (c.toNat - 48) = [c] := by rw [Lib.decDigits, dif_pos (by omega), dg_back ha.1]
    have hv := dec_val r _ hc ha.2
    rw [valD_cons, e]
    refine ⟨by rw [hv, hd]; rfl, ?_⟩
    rcases Nat.eq_zero_or_pos (valD (c.toNat - 48) r) with h3 | h3
    · rw [h3, hd, Lib.decDigits, dif_pos (by omega)] at hv
      have := List.cons.inj hv
      rw [← this.1] at hc
      simp at hc
    · exact h3
/-- What is read is what is written. -/
theorem num_itoa {l : List UInt8} (h : numOk l = true) : Lib.itoa (numV l) = l := by
  obtain ⟨h0, _, h2, h3⟩ := numOk_iff.1 h
  by_cases hs : l.head? = some 45
  · have e := digL_neg hs
    have hl : 1 < l.length := by
      have := List.length_pos_iff.2 h0
      have e2 := congrArg List.length e
      rw [List.length_cons] at e2
      omega
    obtain ⟨h4, h5⟩ := val_dec h0 h3 fun h => h2 ⟨h, hl⟩
    rw [numV, if_pos hs, Lib.itoa, if_pos (by omega), Int.natAbs_neg, Int.natAbs_natCast, h4]
    exact e.symm
  · rw [numV, if_neg hs, Lib.itoa, if_neg (by omega), Int.toNat_natCast]
    by_cases h48 : (digL l).head? = some 48
    · have hl : ¬ 1 < l.length := fun h => h2 ⟨h48, h⟩
      rw [digL_pos hs] at h48 h0 ⊢
      match l, hl, h48 with
      | [c], _, hc =>
        simp at hc
        subst hc
        rw [show valD 0 [48] = 0 by rfl, Lib.decDigits, dif_pos (by omega)]
        rfl
      | c :: d :: r, hl, _ => exact absurd (by simp) hl
    · obtain ⟨h4, _⟩ := val_dec h0 h3 h48
      rw [h4, digL_pos hs]
theorem val_lt : ∀ (l : List UInt8) (acc : Nat), l.all isDg = true → valD acc l + 1 ≤ (acc + 1) * 10 ^ l.length
  | [], acc, _ => by simp [valD]
  | c :: r, acc, h => by
    rw [List.all_cons, Bool.and_eq_true] at h
    obtain ⟨h1, h2⟩ := isDg_iff.1 h.1
    have := val_lt r (10 * acc + (c.toNat - 48)) h.2
    rw [valD_cons, List.length_cons, Nat.pow_succ]
    have h3 : (10 * acc + (c.toNat - 48) + 1) * 10 ^ r.length ≤ ((acc + 1) * 10) * 10 ^ r.length := Nat.mul_le_mul_right _ (by omega)
    calc _ ≤ _ := this
      _ ≤ _ := h3
      _ = _ := by rw [Nat.mul_assoc, Nat.mul_comm 10]
theorem num_bd {l : List UInt8} (h : numOk l = true) : -999999999999999999 ≤ numV l ∧ numV l ≤ 999999999999999999 := by
  obtain ⟨_, h1, _, h3⟩ := numOk_iff.1 h
  have hv := val_lt (digL l) 0 h3
  have hp : 10 ^ (digL l).length ≤ 10 ^ 18 := Nat.pow_le_pow_right (by omega) h1
  rw [numV]
  split <;> omega
theorem parse_val (M : Nat) (hM : 1000000000000000000 ≤ M) : ∀ (l : List UInt8) (acc : Nat), l.all isDg = true → (acc + 1) * 10 ^ l.length ≤ 10 ^ 18 → Lib.parseUintM M acc l = .ok (valD acc l)
  | [], acc, _, _ => rfl
  | c :: r, acc, h, hb => by
    rw [List.all_cons, Bool.and_eq_true] at h
    obtain ⟨h1, h2⟩ := isDg_iff.1 h.1
    rw [List.length_cons, Nat.pow_succ] at hb
    have hp : 1 ≤ 10 ^ r.length := Nat.one_le_pow _ _ (by decide)
    have h5 : (acc + 1) * 10 ≤ ((acc + 1) * 10) * 10 ^ r.length := Nat.le_mul_of_pos_right _ hp
    have h6 : ((acc + 1) * 10) * 10 ^ r.length = (acc + 1) * (10 ^ r.length * 10) := by rw [Nat.mul_assoc, Nat.mul_comm 10]
    have h7 : (acc + 1) * 10 ≤ 10 ^ 18 := by omega
    rw [Lib.parseUintM, if_pos ⟨h1, h2⟩, if_neg (by omega), if_neg (by omega), valD_cons, show 10 * acc + (c.toNat - 48) = acc * 10 + (c.toNat - 48) by omega]
    refine parse_val M hM r _ h.2 ?_
    have h8 : (acc * 10 + (c.toNat - 48) + 1) * 10 ^ r.length ≤ ((acc + 1) * 10) * 10 ^ r.length := Nat.mul_le_mul_right _ (by omega)
    omega
/-- What is read, strconv's parser reads. -/
theorem num_parse {l : List UInt8} (h : numOk l = true) : Lib.parseIntB 64 l = .ok (numV l) := by
  obtain ⟨h0, h1, h2, h3⟩ := numOk_iff.1 h
  have hv := val_lt (digL l) 0 h3
  have hp : 10 ^ (digL l).length ≤ 10 ^ 18 := Nat.pow_le_pow_right (by omega) h1
  have hu : Lib.parseUintB 64 (digL l) = .ok (valD 0 (digL l)) := by
    rw [Lib.parseUintB, if_neg h0]
    exact parse_val _ (by decide) _ 0 h3 (by omega)
  cases l with
  | nil => simp [digL] at h0
  | cons c r =>
    by_cases hs : (c :: r).head? = some 45
    · have hc : c = 45 := by simpa using hs
      have hr : digL (c :: r) = r := by rw [digL, if_pos hs]; rfl
      rw [hr] at hu hv hp
      subst hc
      rw [numV, if_pos hs, hr, Lib.parseIntB]
      simp [hu]
      omega
    · have hr : digL (c :: r) = c :: r := digL_pos hs
      rw [hr] at hu hv hp h3
      rw [List.all_cons, Bool.and_eq_true] at h3
      obtain ⟨h4, h5⟩ := isDg_iff.1 h3.1
      have hn : ¬ (c.toNat = 43 ∨ c.toNat = 45) := by omega
      have hn2 : ¬ c.toNat = 45 := by omega
      rw [numV, if_neg hs, hr, Lib.parseIntB]
      simp only [if_neg hn, hu, if_neg hn2]
      simp [hn2]
      omega
/-- A decimal form of at most 18 digits is read. -/
theorem itoa_num {l : List UInt8} {v : Int} (h : Lib.itoa v = l) (hl : (digL l).length ≤ 18) : numOk l = true ∧ numV l = v := by
  by_cases hv : v < 0
  · obtain ⟨c, r, e, h1, h2⟩ := dec_head v.natAbs (by omega)
    have hl2 : l = 45 :: Lib.decDigits v.natAbs := by rw [← h, Lib.itoa, if_pos hv]
    have hs : l.head? = some 45 := by rw [hl2]; rfl
    have hd : digL l = Lib.decDigits v.natAbs := by rw [digL, if_pos hs, hl2]; rfl
    refine ⟨numOk_iff.2 ⟨by rw [hd, e]; simp, hl, fun h3 => ?_, by rw [hd]; exact dec_all _⟩, ?_⟩
    · rw [hd, e] at h3
      exact h2 (by simpa using h3.1)
    · rw [numV, if_pos hs, hd, dec_back]; omega
  · have hl2 : l = Lib.decDigits v.toNat := by rw [← h, Lib.itoa, if_neg hv]
    by_cases h0 : v = 0
    · subst h0
      have : l = [48] := by rw [hl2, show (0 : Int).toNat = 0 from rfl, Lib.decDigits, dif_pos (by omega)]; rfl
      subst this
      exact ⟨by decide, by decide⟩
    · obtain ⟨c, r, e, h1, h2⟩ := dec_head v.toNat (by omega)
      have hs : ¬ l.head? = some 45 := by
        rw [hl2, e]; simpa using dg_ne45 h1
      have hd : digL l = Lib.decDigits v.toNat := by rw [digL_pos hs, hl2]
      refine ⟨numOk_iff.2 ⟨by rw [hd, e]; simp, hl, fun h3 => ?_, by rw [hd]; exact dec_all _⟩, ?_⟩
      · rw [hd, e] at h3
        exact h2 (by simpa using h3.1)
      · rw [numV, if_neg hs, hd, dec_back]; omega
end Go.Proofs.YtjkjmpmefapnoaaGreatDoor
