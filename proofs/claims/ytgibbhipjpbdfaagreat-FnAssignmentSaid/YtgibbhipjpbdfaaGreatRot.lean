
/- Lists of numbers: the least period, the least rotation, runs. Plain facts, no program. -/
import Derived.Test.YtgibbhipjpbdfaaGreatBase
namespace Go.Proofs.YtgibbhipjpbdfaaGreat
/- The list is the same when it is turned by n. -/
def cycB (B : List Int) (n : Nat) : Bool := allB B.length fun i => decide (B[i]? = B[(i + n) % B.length]?)
theorem cyc_iff {B : List Int} {n : Nat} : cycB B n = true ↔ ∀ i, i < B.length → B[i]? = B[(i + n) % B.length]? := by
  rw [cycB, allB_iff]
  exact ⟨fun h i hi => by simpa using h i hi, fun h i hi => by simpa using h i hi⟩
theorem cyc_len (B : List Int) : cycB B B.length = true := cyc_iff.2 fun i hi => by rw [Nat.add_mod_right, Nat.mod_eq_of_lt hi]
/-- n is the least number by which the list may be turned. -/
structure PerIs (B : List Int) (n : Nat) : Prop where
  lo : 1 ≤ n
  hi : n ≤ B.length
  cyc : cycB B n = true
  least : ∀ m, 1 ≤ m → m < n → cycB B m = false
theorem per_uniq {B : List Int} {n m : Nat} (h : PerIs B n) (h' : PerIs B m) : n = m := by
  rcases Nat.lt_trichotomy n m with h1 | h1 | h1
  · have := h'.least n h.lo h1; rw [h.cyc] at this; cases this
  · exact h1
  · have := h.least m h'.lo h1; rw [h'.cyc] at this; cases this
def perN (B : List Int) : Nat := match (List.range B.length).find? (fun m => cycB B (m + 1)) with | some m => m + 1 | none => 0
theorem per_is {B : List Int} (h : 1 ≤ B.length) : PerIs B (perN B) := by
  unfold perN
  cases hf : (List.range B.length).find? (fun m => cycB B (m + 1)) with
  | none =>
    rw [List.find?_eq_none] at hf
    have := hf (B.length - 1) (List.mem_range.2 (by omega))
    rw [show B.length - 1 + 1 = B.length by omega, cyc_len] at this
    exact absurd rfl this
  | some m =>
    rw [List.find?_range_eq_some] at hf
    obtain ⟨h1, h2, h3⟩ := hf
    have h4 := List.mem_range.1 h2
    show PerIs B (m + 1)
    refine ⟨by omega, by omega, h1, fun j hj1 hj2 => ?_⟩
    have := h3 (j - 1) (by omega)
    rw [show j - 1 + 1 = j by omega] at this
    simpa using this
theorem cyc_mul {B : List Int} {n : Nat} (h : cycB B n = true) (q : Nat) : ∀ i, i < B.length → B[i]? = B[(i + q * n) % B.length]? := by
  induction q with
  | zero => intro i hi; rw [Nat.zero_mul, Nat.add_zero, Nat.mod_eq_of_lt hi]
  | succ q ih =>
    intro i hi
    have hp : 0 < B.length := by omega
    rw [ih i hi, cyc_iff.1 h _ (Nat.mod_lt _ hp)]
    congr 1
    rw [Nat.mod_add_mod, Nat.add_mul]
    congr 1; omega
theorem per_dvd {B : List Int} {n : Nat} (h : PerIs B n) : B.length % n = 0 := by
  have hn := h.lo
  have hp : 0 < B.length := Nat.lt_of_lt_of_le hn h.hi
  rcases Nat.eq_zero_or_pos (B.length % n) with h0 | h0
  · exact h0
  · have hr : B.length % n < n := Nat.mod_lt _ hn
    have hl := h.least _ h0 hr
    have hc : cycB B (B.length % n) = true := cyc_iff.2 fun i hi => by
      rw [cyc_mul h.cyc (B.length / n) _ (Nat.mod_lt _ hp)]
      rw [Nat.mod_add_mod]
      have e : i + B.length % n + B.length / n * n = i + B.length := by
        have := Nat.mod_add_div B.length n
        rw [Nat.mul_comm n] at this
        omega
      rw [e, Nat.add_mod_right, Nat.mod_eq_of_lt hi]
    rw [hl] at hc; cases hc
/-- The list repeats its first n numbers. -/
def preB (B : List Int) (n : Nat) : Bool := allB (B.length - n) fun i => decide (B[i]? = B[i + n]?)
theorem pre_iff {B : List Int} {n : Nat} : preB B n = true ↔ ∀ i, i < B.length - n → B[i]? = B[i + n]? := by
  rw [preB, allB_iff]
  exact ⟨fun h i hi => by simpa using h i hi, fun h i hi => by simpa using h i hi⟩
theorem pre_mul {B : List Int} {n : Nat} (h : preB B n = true) (q : Nat) : ∀ i, i + q * n < B.length → B[i]? = B[i + q * n]? := by
  induction q with
  | zero => intro i _; simp
  | succ q ih =>
    intro i hi
    rw [Nat.add_mul, Nat.one_mul] at hi
    rw [ih i (by omega), pre_iff.1 h (i + q * n) (by omega)]
    congr 1
    rw [Nat.add_mul]; omega
theorem cyc_pre {B : List Int} {n : Nat} (h1 : 1 ≤ n) (hn : n ≤ B.length) (hd : B.length % n = 0) : cycB B n = preB B n := by
  rw [Bool.eq_iff_iff, cyc_iff, pre_iff]
  constructor
  · intro h i hi
    rw [h i (by omega), Nat.mod_eq_of_lt (by omega)]
  · intro h i hi
    by_cases hlt : i + n < B.length
    · rw [Nat.mod_eq_of_lt hlt]; exact h i (by omega)
    · have hj : (i + n) % B.length = i + n - B.length := by
        rw [Nat.mod_eq_sub_mod (by omega), Nat.mod_eq_of_lt (by omega)]
      rw [hj]
      obtain ⟨q, hq⟩ : ∃ q, B.length = (q + 1) * n := by
        have hdv := Nat.dvd_of_mod_eq_zero hd
        obtain ⟨q, hq⟩ := hdv
        cases q with
        | zero => rw [Nat.mul_zero] at hq; omega
        | succ q => exact ⟨q, by rw [hq, Nat.mul_comm]⟩
      have e : (q + 1) * n = q * n + n := by rw [Nat.add_mul, Nat.one_mul]
      have h2 := pre_mul (pre_iff.2 h) q (i + n - B.length) (by omega)
      rw [h2]
      congr 1; omega
/-- Where all smaller numbers do not fit, one that does not divide the length does not either. -/
theorem cyc_not {B : List Int} {n : Nat} (h1 : 1 ≤ n) (hn : n ≤ B.length) (hl : ∀ m, 1 ≤ m → m < n → cycB B m = false) (hd : B.length % n ≠ 0) : cycB B n = false := by
  cases hc : cycB B n
  · rfl
  · exact absurd (per_dvd ⟨h1, hn, hc, hl⟩) hd
def onceB (B : List Int) : List Int := B.take (perN B)
theorem once_len {B : List Int} (h : 1 ≤ B.length) : 1 ≤ (onceB B).length ∧ (onceB B).length ≤ B.length := by
  have hp := per_is h
  rw [onceB, List.length_take]
  have := hp.lo
  have := hp.hi
  omega
/- Rotations, and the order of lists of one length. -/
def rotB (B : List Int) (t : Nat) : List Int := B.drop t ++ B.take t
theorem rot_len (B : List Int) (t : Nat) : (rotB B t).length = B.length := by simp [rotB]; omega
theorem rot_zero (B : List Int) : rotB B 0 = B := by simp [rotB]
theorem rot_at {B : List Int} {t i : Nat} (ht : t < B.length) (hi : i < B.length) : (rotB B t)[i]? = B[(t + i) % B.length]? := by
  rw [rotB, List.getElem?_append, List.length_drop]
  by_cases h : i < B.length - t
  · rw [if_pos h, List.getElem?_drop, Nat.mod_eq_of_lt (by omega)]
  · rw [if_neg h, List.getElem?_take, if_pos (by omega)]
    congr 1
    rw [Nat.mod_eq_sub_mod (by omega), Nat.mod_eq_of_lt (by omega)]; omega
def ltB : List Int → List Int → Bool
  | a :: as, b :: bs => if a < b then true else if b < a then false else ltB as bs
  | _, _ => false
theorem lt_irrefl : ∀ a : List Int, ltB a a = false
  | [] => rfl
  | x :: xs => by unfold ltB; rw [if_neg (by omega), if_neg (by omega)]; exact lt_irrefl xs
theorem lt_trans : ∀ {a b c : List Int}, ltB a b = true → ltB b c = true → ltB a c = true
  | [], b, c, h, _ => by cases b <;> simp [ltB] at h
  | x :: xs, [], c, h, _ => by simp [ltB] at h
  | x :: xs, y :: ys, [], _, h => by simp [ltB] at h
  | x :: xs, y :: ys, z :: zs, h1, h2 => by
    unfold ltB at h1 h2 ⊢
    by_cases a1 : x < y
    · by_cases b1 : y < z
      · rw [if_pos (by omega)]
      · rw [if_neg b1] at h2
        by_cases b2 : z < y
        · rw [if_pos b2] at h2; cases h2
        · rw [if_pos (by omega)]
    · rw [if_neg a1] at h1
      by_cases a2 : y < x
      · rw [if_pos a2] at h1; cases h1
      · rw [if_neg a2] at h1
        by_cases b1 : y < z
        · rw [if_pos (by omega)]
        · rw [if_neg b1] at h2
          by_cases b2 : z < y
          · rw [if_pos b2] at h2; cases h2
          · rw [if_neg b2] at h2
            rw [if_neg (by omega), if_neg (by omega)]
            exact lt_trans h1 h2
theorem lt_tri : ∀ {a b : List Int}, a.length = b.length → ltB a b = false → ltB b a = false → a = b
  | [], [], _, _, _ => rfl
  | [], y :: ys, h, _, _ => by simp at h
  | x :: xs, [], h, _, _ => by simp at h
  | x :: xs, y :: ys, h, h1, h2 => by
    unfold ltB at h1 h2
    by_cases a1 : x < y
    · rw [if_pos a1] at h1; cases h1
    · by_cases a2 : y < x
      · rw [if_pos a2] at h2; cases h2
      · rw [if_neg a1, if_neg a2] at h1
        rw [if_neg a2, if_neg a1] at h2
        rw [lt_tri (by simpa using h) h1 h2, show x = y by omega]
theorem le_trans' {a b c : List Int} (hab : a.length = b.length) (h1 : ltB b a = false) (h2 : ltB c b = false) : ltB c a = false := by
  cases h : ltB c a
  · rfl
  · cases h3 : ltB a b
    · rw [lt_tri hab h3 h1] at h; rw [h] at h2; cases h2
    · rw [lt_trans h h3] at h2; cases h2
theorem lt_first : ∀ {r : Nat} {a b : List Int} {x y : Int}, (∀ i, i < r → a[i]? = b[i]?) → a[r]? = some x → b[r]? = some y → x < y → r < a.length → r < b.length → ltB a b = true
  | 0, a :: as, b :: bs, x, y, _, ha, hb, hxy, _, _ => by
    simp at ha hb; subst ha hb
    unfold ltB; rw [if_pos hxy]
  | r + 1, a :: as, b :: bs, x, y, h, ha, hb, hxy, h1, h2 => by
    have h0 := h 0 (by omega)
    simp at h0; subst h0
    unfold ltB
    rw [if_neg (by omega), if_neg (by omega)]
    refine lt_first (r := r) (fun i hi => ?_) (by simpa using ha) (by simpa using hb) hxy (by simpa using h1) (by simpa using h2)
    have := h (i + 1) (by omega)
    simpa using this
  | 0, [], _, _, _, _, _, _, _, h1, _ => by simp at h1
  | r + 1, [], _, _, _, _, _, _, _, h1, _ => by simp at h1
  | 0, a :: as, [], _, _, _, _, _, _, _, h2 => by simp at h2
  | r + 1, a :: as, [], _, _, _, _, _, _, _, h2 => by simp at h2
/-- X is the least rotation of B. -/
structure IsLeast (B X : List Int) : Prop where
  rot : ∃ t, t < B.length ∧ X = rotB B t
  le : ∀ j, j < B.length → ltB (rotB B j) X = false
theorem least_uniq {B X Y : List Int} (h : IsLeast B X) (h' : IsLeast B Y) : X = Y := by
  obtain ⟨t, ht, rfl⟩ := h.rot
  obtain ⟨s, hs, rfl⟩ := h'.rot
  exact lt_tri (by rw [rot_len, rot_len]) (h'.le t ht) (h.le s hs)
/-- The first of the least rotations among the first m. -/
def leastN (B : List Int) (m : Nat) : Nat := (List.range m).foldl (fun b i => if ltB (rotB B i) (rotB B b) = true then i else b) 0
theorem leastN_next (B : List Int) (m : Nat) : leastN B (m + 1) = if ltB (rotB B m) (rotB B (leastN B m)) = true then m else leastN B m := by rw [leastN, List.range_succ, List.foldl_append]; rfl
theorem leastN_lt (B : List Int) : ∀ m, leastN B m < m ∨ leastN B m = 0
  | 0 => .inr rfl
  | m + 1 => by
    have ih := leastN_lt B m
    rw [leastN_next]
    split <;> omega
theorem leastN_le (B : List Int) : ∀ m, ∀ j, j < m → ltB (rotB B j) (rotB B (leastN B m)) = false
  | 0, j, h => absurd h (by omega)
  | m + 1, j, h => by
    have ih := leastN_le B m
    rw [leastN_next]
    split
    · rename_i hl
      by_cases hj : j = m
      · subst hj; exact lt_irrefl _
      · have h1 := ih j (by omega)
        have h2 : ltB (rotB B (leastN B m)) (rotB B m) = false := by
          cases h3 : ltB (rotB B (leastN B m)) (rotB B m)
          · rfl
          · have := lt_trans hl h3; rw [lt_irrefl] at this; cases this
        exact le_trans' (by rw [rot_len, rot_len]) h2 h1
    · rename_i hl
      by_cases hj : j = m
      · subst hj; simpa using hl
      · exact ih j (by omega)
def normB (B : List Int) : List Int := rotB B (leastN B B.length)
theorem norm_least {B : List Int} (h : 1 ≤ B.length) : IsLeast B (normB B) :=
  ⟨⟨_, by have := leastN_lt B B.length; omega, rfl⟩, leastN_le B B.length⟩
theorem norm_len (B : List Int) : (normB B).length = B.length := rot_len _ _
/-- A least rotation that begins inside a run: all numbers are the same. -/
theorem least_const {B : List Int} {t : Nat} (ht : t < B.length) (hl : IsLeast B (rotB B t)) (hs : B[t]? = B[(t + B.length - 1) % B.length]?) : rotB B t = B := by
  have hp : 0 < B.length := by omega
  obtain ⟨x0, hx0⟩ : ∃ x, B[t]? = some x := ⟨_, List.getElem?_eq_getElem ht⟩
  have hX : ∀ i, i < B.length → (rotB B t)[i]? = B[(t + i) % B.length]? := fun i hi => rot_at ht hi
  have hX0 : (rotB B t)[0]? = some x0 := by rw [hX 0 hp, Nat.add_zero, Nat.mod_eq_of_lt ht, hx0]
  -- the rotation before
  have hy : (t + B.length - 1) % B.length < B.length := Nat.mod_lt _ hp
  have hY : ∀ i, i < B.length → (rotB B ((t + B.length - 1) % B.length))[i]? = B[(t + B.length - 1 + i) % B.length]? := fun i hi => by rw [rot_at hy hi, Nat.mod_add_mod]
  have hmin : ∀ (j : Nat) (y : Int), B[j]? = some y → x0 ≤ y := fun j y hj => by
    rcases Int.lt_or_le y x0 with h1 | h1
    · have hjl := (List.getElem?_eq_some_iff.1 hj).1
      have h2 := hl.le j hjl
      rw [lt_first (r := 0) (fun i hi => absurd hi (by omega)) (by rw [rot_at hjl hp, Nat.add_zero, Nat.mod_eq_of_lt hjl]; exact hj) hX0 h1 (by rw [rot_len]; exact hp) (by rw [rot_len]; exact hp)] at h2
      cases h2
    · exact h1
  have hall : ∀ r, r < B.length → (rotB B t)[r]? = some x0 := by
    intro r
    induction r using Nat.strongRecOn with
    | ind r ih =>
      intro hr
      by_cases hr0 : r = 0
      · subst hr0; exact hX0
      · obtain ⟨y, hyr⟩ : ∃ y, (rotB B t)[r]? = some y := ⟨_, List.getElem?_eq_getElem (by rw [rot_len]; exact hr)⟩
        have hge : x0 ≤ y := hmin _ y (by rw [← hX r hr]; exact hyr)
        rcases Int.lt_or_le x0 y with h1 | h1
        · exfalso
          have hYX : ∀ i, 0 < i → i < B.length → (rotB B ((t + B.length - 1) % B.length))[i]? = (rotB B t)[i - 1]? := fun i h0 hi => by
            rw [hY i hi, hX (i - 1) (by omega)]
            rw [show t + B.length - 1 + i = (t + (i - 1)) + B.length by omega, Nat.add_mod_right]
          have hY0 : (rotB B ((t + B.length - 1) % B.length))[0]? = some x0 := by
            rw [hY 0 hp, Nat.add_zero, ← hs, hx0]
          have h2 := hl.le _ hy
          have h3 : ltB (rotB B ((t + B.length - 1) % B.length)) (rotB B t) = true := by
            refine lt_first (r := r) (x := x0) (y := y) (fun i hi => ?_) ?_ hyr h1 (by rw [rot_len]; exact hr) (by rw [rot_len]; exact hr)
            · by_cases hi0 : i = 0
              · subst hi0; rw [hY0, hX0]
              · rw [hYX i (by omega) (by omega), ih (i - 1) (by omega) (by omega), ih i hi (by omega)]
            · rw [hYX r (by omega) hr, ih (r - 1) (by omega) (by omega)]
          rw [h3] at h2; cases h2
        · rw [hyr, show y = x0 by omega]
  have hB : ∀ i, i < B.length → B[i]? = some x0 := fun i hi => by
    have h1 := hall ((i + B.length - t) % B.length) (Nat.mod_lt _ hp)
    rw [hX _ (Nat.mod_lt _ hp), Nat.add_mod_mod, show t + (i + B.length - t) = i + B.length by omega, Nat.add_mod_right, Nat.mod_eq_of_lt hi] at h1
    exact h1
  apply List.ext_getElem?
  intro i
  by_cases hi : i < B.length
  · rw [hall i hi, hB i hi]
  · rw [List.getElem?_eq_none (by rw [rot_len]; omega), List.getElem?_eq_none (by omega)]
/-- The other way: the list itself, and only rotations that begin where a run begins. -/
def bestN (B : List Int) (m : Nat) : List Int := (List.range m).foldl (fun X t => if B[t]? = B[(t + B.length - 1) % B.length]? then X else if ltB (rotB B t) X = true then rotB B t else X) B
theorem bestN_next (B : List Int) (m : Nat) : bestN B (m + 1) = if B[m]? = B[(m + B.length - 1) % B.length]? then bestN B m else if ltB (rotB B m) (bestN B m) = true then rotB B m else bestN B m := by rw [bestN, List.range_succ, List.foldl_append]; rfl
theorem bestN_rot {B : List Int} (h : 1 ≤ B.length) : ∀ m, m ≤ B.length → ∃ t, t < B.length ∧ bestN B m = rotB B t
  | 0, _ => ⟨0, by omega, by rw [rot_zero]; rfl⟩
  | m + 1, hm => by
    have ih := bestN_rot h m (by omega)
    rw [bestN_next]
    split
    · exact ih
    · split
      · exact ⟨m, by omega, rfl⟩
      · exact ih
theorem bestN_le {B : List Int} (h : 1 ≤ B.length) : ∀ m, m ≤ B.length → ltB B (bestN B m) = false ∧ ∀ j, j < m → B[j]? ≠ B[(j + B.length - 1) % B.length]? → ltB (rotB B j) (bestN B m) = false
  | 0, _ => ⟨by rw [show bestN B 0 = B from rfl]; exact lt_irrefl _, fun j hj => absurd hj (by omega)⟩
  | m + 1, hm => by
    obtain ⟨i1, i2⟩ := bestN_le h m (by omega)
    obtain ⟨t, ht, he⟩ := bestN_rot h m (by omega)
    rw [bestN_next]
    split
    · rename_i hsame
      refine ⟨i1, fun j hj hne => ?_⟩
      by_cases hjm : j = m
      · subst hjm; exact absurd hsame hne
      · exact i2 j (by omega) hne
    · split
      · rename_i hl
        have h2 : ltB (bestN B m) (rotB B m) = false := by
          cases h3 : ltB (bestN B m) (rotB B m)
          · rfl
          · have := lt_trans hl h3; rw [lt_irrefl] at this; cases this
        have hlen : (rotB B m).length = (bestN B m).length := by rw [he, rot_len, rot_len]
        refine ⟨le_trans' hlen h2 i1, fun j hj hne => ?_⟩
        by_cases hjm : j = m
        · subst hjm; exact lt_irrefl _
        · exact le_trans' hlen h2 (i2 j (by omega) hne)
      · rename_i hl
        refine ⟨i1, fun j hj hne => ?_⟩
        by_cases hjm : j = m
        · subst hjm; simpa using hl
        · exact i2 j (by omega) hne
theorem best_norm {B : List Int} (h : 1 ≤ B.length) : bestN B B.length = normB B := by
  obtain ⟨t, ht, he⟩ := bestN_rot h B.length (Nat.le_refl _)
  obtain ⟨i1, i2⟩ := bestN_le h B.length (Nat.le_refl _)
  have hn := norm_least h
  obtain ⟨s, hs, hse⟩ := hn.rot
  refine lt_tri (by rw [he, rot_len, norm_len]) ?_ ?_
  · rw [he]; exact hn.le t ht
  · by_cases hrun : B[s]? = B[(s + B.length - 1) % B.length]?
    · have := least_const hs (by rw [← hse]; exact hn) hrun
      rw [hse, this]; exact i1
    · rw [hse]; exact i2 s hs hrun
/- Runs. -/
def jstep (out : List (Int × Int)) (c : Int) : List (Int × Int) := match out.getLast? with
  | some d => if d.1 = c then out.dropLast ++ [(c, d.2 + 1)] else out ++ [(c, 1)]
  | none => [(c, 1)]
def joinB (B : List Int) : List (Int × Int) := B.foldl jstep []
theorem join_next {B : List Int} {k : Nat} {c : Int} (h : B[k]? = some c) : joinB (B.take (k + 1)) = jstep (joinB (B.take k)) c := by
  rw [joinB, List.take_add_one, h, List.foldl_append]; rfl
theorem jstep_len (out : List (Int × Int)) (c : Int) : (jstep out c).length ≤ out.length + 1 ∧ 1 ≤ (jstep out c).length := by
  unfold jstep
  split
  · rename_i d hd
    have h1 : out ≠ [] := fun e => by rw [e] at hd; cases hd
    have h2 := List.length_pos_iff.2 h1
    split <;> simp <;> omega
  · simp
theorem join_len (B : List Int) : ∀ k, k ≤ B.length → (joinB (B.take k)).length ≤ k ∧ (0 < k → 1 ≤ (joinB (B.take k)).length)
  | 0, _ => by simp [joinB]
  | k + 1, h => by
    have ih := join_len B k (by omega)
    rw [join_next (List.getElem?_eq_getElem (show k < B.length by omega))]
    have := jstep_len (joinB (B.take k)) (B[k]'(by omega))
    omega
def normP (B : List Int) : List (Int × Int) := joinB (normB (onceB B))
def close1 (a b : List (Int × Int)) (i j : Nat) (tol : Int) : Bool := match a[i]?, b[j]? with
  | some x, some y => decide (x.1 = y.1) && (decide (-tol ≤ x.2 - y.2) && decide (x.2 - y.2 ≤ tol))
  | _, _ => false
def turnB (a b : List (Int × Int)) (tol : Int) (f : Nat) : Bool := allB a.length fun i => close1 a b i ((f + i) % b.length) tol
def closeB (a b : List (Int × Int)) (tol : Int) : Bool := decide (a.length = b.length) && (List.range b.length).any (turnB a b tol)
theorem lt_asym {a b : List Int} (h : ltB a b = true) : ltB b a = false := by
  cases h2 : ltB b a
  · rfl
  · have := lt_trans h h2; rw [lt_irrefl] at this; cases this
theorem lt_at {a b : List Int} {r : Nat} {x y : Int} (h : ∀ i, i < r → a[i]? = b[i]?) (ha : a[r]? = some x) (hb : b[r]? = some y) (hne : x ≠ y) : ltB a b = decide (x < y) := by
  have h1 := (List.getElem?_eq_some_iff.1 ha).1
  have h2 := (List.getElem?_eq_some_iff.1 hb).1
  by_cases hl : x < y
  · rw [decide_eq_true hl]; exact lt_first h ha hb hl h1 h2
  · rw [decide_eq_false hl]; exact lt_asym (lt_first (fun i hi => (h i hi).symm) hb ha (by omega) h2 h1)
theorem lt_same {a b : List Int} {n : Nat} (h : ∀ i, i < n → a[i]? = b[i]?) (ha : a.length = n) (hb : b.length = n) : ltB a b = false := by
  have : a = b := by
    apply List.ext_getElem?
    intro i
    by_cases hi : i < n
    · exact h i hi
    · rw [List.getElem?_eq_none (by omega), List.getElem?_eq_none (by omega)]
  rw [this]; exact lt_irrefl b
theorem least_one (B : List Int) : leastN B 1 = 0 := by
  rw [leastN_next]
  split <;> rfl
theorem join_bd (B : List Int) : ∀ k, k ≤ B.length → ∀ d ∈ joinB (B.take k), d.1 ∈ B ∧ 1 ≤ d.2 ∧ d.2 ≤ (k : Int)
  | 0, _, d, hd => by simp [joinB] at hd
  | k + 1, hk, d, hd => by
    have ih := join_bd B k (by omega)
    have hx : B[k]? = some (B[k]'(by omega)) := List.getElem?_eq_getElem (by omega)
    have hm : B[k]'(by omega) ∈ B := List.getElem_mem _
    rw [join_next hx] at hd
    unfold jstep at hd
    split at hd
    · rename_i d0 h0
      have h1 := ih d0 (List.mem_of_getLast? h0)
      split at hd
      · rw [List.mem_append] at hd
        rcases hd with hd | hd
        · have := ih d (List.dropLast_subset _ hd)
          exact ⟨this.1, this.2.1, by omega⟩
        · simp at hd; subst hd
          exact ⟨hm, by simp only; omega, by simp only; omega⟩
      · rw [List.mem_append] at hd
        rcases hd with hd | hd
        · have := ih d hd
          exact ⟨this.1, this.2.1, by omega⟩
        · simp at hd; subst hd
          exact ⟨hm, by simp, by simp only; omega⟩
    · simp at hd; subst hd
      exact ⟨hm, by simp, by simp only; omega⟩
theorem rot_mem {B : List Int} {t : Nat} {x : Int} (h : x ∈ rotB B t) : x ∈ B := by
  rw [rotB, List.mem_append] at h
  rcases h with h | h
  · exact List.mem_of_mem_drop h
  · exact List.mem_of_mem_take h
theorem norm_bd {B : List Int} : ∀ d ∈ normP B, d.1 ∈ B ∧ 1 ≤ d.2 ∧ d.2 ≤ (B.length : Int) := fun d hd => by
  have h1 := join_bd (normB (onceB B)) _ (Nat.le_refl _)
  rw [List.take_length] at h1
  obtain ⟨a, b, c⟩ := h1 d hd
  refine ⟨?_, b, ?_⟩
  · exact List.mem_of_mem_take (rot_mem a)
  · rw [norm_len, onceB, List.length_take] at c; omega
theorem normP_len (B : List Int) (h : 1 ≤ B.length) : 1 ≤ (normP B).length ∧ (normP B).length ≤ B.length := by
  have h1 := once_len h
  have h2 := join_len (normB (onceB B)) _ (Nat.le_refl _)
  rw [List.take_length, norm_len] at h2
  rw [normP]
  omega
end Go.Proofs.YtgibbhipjpbdfaaGreat
