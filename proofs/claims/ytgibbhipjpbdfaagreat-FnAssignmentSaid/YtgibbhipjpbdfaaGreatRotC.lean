
/- Tenths of a second as numbers: colours by their byte. Plain facts, no program. -/
import Derived.Test.YtgibbhipjpbdfaaGreatRot
import Derived.Test.YtgibbhipjpbdfaaGreatChTen
import Derived.Test.YtgibbhipjpbdfaaGreatMatG
namespace Go.Proofs.YtgibbhipjpbdfaaGreat
open Go.RowKit
def code (s : ByteArray) : Int := if s.size = 0 then 0 else bt s 0
def nameC (b : Int) : ByteArray := if b = 0 then ⟨#[]⟩ else strOfNums [b]
theorem code_bd (s : ByteArray) : 0 ≤ code s ∧ code s ≤ 255 := by
  unfold code bt
  split
  · omega
  · have := (s.data.toList[0]?.getD 0).toNat_lt
    omega
/-- The colours that occur: none, or one byte that is not 0. -/
def okS (s : ByteArray) : Prop := s.size = 0 ∨ (s.size = 1 ∧ bt s 0 ≠ 0)
theorem name_code {s : ByteArray} (h : okS s) : nameC (code s) = s := by
  rcases h with h | ⟨h, hb⟩
  · rw [code, if_pos h, nameC, if_pos rfl]
    have : s.data.toList.length = 0 := h
    cases s with
    | mk d => simp at this; simp [this]
  · have hc : code s = bt s 0 := by rw [code, if_neg (by omega)]
    rw [hc, nameC, if_neg hb, bt_eq _ _ (by omega)]
    have h1 := one_of h
    rw [toL] at h1
    cases s with
    | mk d =>
      rw [ByteArray.mk.injEq]
      rw [← Array.toList_inj]
      rw [strOfNums_data]
      refine Eq.trans ?_ h1.symm
      simp [List.map_cons, List.map_nil]
theorem code_name {b : Int} (h0 : 0 ≤ b) (h1 : b ≤ 255) : code (nameC b) = b := by
  unfold nameC
  split
  · rename_i h; subst h; rfl
  · rename_i h
    have hs := strOfNums_size [b]
    rw [code, if_neg (by rw [hs]; simp), bt]
    rw [strOfNums_data]
    simp
    omega
theorem okS_col {s : ByteArray} (h : colB s = true) : okS s := by
  have h1 := colB_size h
  refine .inr ⟨h1, ?_⟩
  rw [bt_eq _ _ (by omega)]
  have h2 := one_of h1
  simp only [colB, Bool.or_eq_true, beq_iff_eq, h2, List.cons.injEq, and_true] at h
  rcases h with h | h | h | h <;> rw [h] <;> decide
theorem okS_emp : okS ⟨#[]⟩ := .inl rfl
def tenC (ps : List Ph) : List Int := (tenL ps).map code
theorem tenC_bd (ps : List Ph) : ∀ b ∈ tenC ps, 0 ≤ b ∧ b ≤ 255 := fun b hb => by
  obtain ⟨s, _, rfl⟩ := List.mem_map.1 hb
  exact code_bd s
theorem tenC_names {ps : List Ph} (h : ∀ p ∈ ps, okS p.c) : (tenC ps).map nameC = tenL ps := by
  rw [tenC, List.map_map]
  conv => rhs; rw [← List.map_id (tenL ps)]
  refine List.map_congr_left fun s hs => ?_
  simp only [tenL, List.mem_flatMap] at hs
  obtain ⟨p, hp, hs⟩ := hs
  rw [List.eq_of_mem_replicate hs]
  exact name_code (h p hp)
/- All numbers times a positive one. -/
def mulB (c : Int) (B : List Int) : List Int := B.map (· * c)
theorem mul_inj {c a b : Int} (hc : 0 < c) : (a * c = b * c) ↔ a = b := ⟨fun h => Int.eq_of_mul_eq_mul_right (by omega) h, fun h => by rw [h]⟩
theorem mul_lt {c a b : Int} (hc : 0 < c) : (a * c < b * c) ↔ a < b := ⟨fun h => Int.lt_of_mul_lt_mul_right h (Int.le_of_lt hc), fun h => Int.mul_lt_mul_of_pos_right h hc⟩
theorem mul_len (c : Int) (B : List Int) : (mulB c B).length = B.length := List.length_map _
theorem mul_at (c : Int) (B : List Int) (i j : Nat) (hc : 0 < c) : ((mulB c B)[i]? = (mulB c B)[j]?) ↔ B[i]? = B[j]? := by
  simp only [mulB, List.getElem?_map]
  cases B[i]? <;> cases B[j]? <;> simp [mul_inj hc]
theorem mul_cyc {c : Int} (hc : 0 < c) (B : List Int) (n : Nat) : cycB (mulB c B) n = cycB B n := by
  rw [Bool.eq_iff_iff, cyc_iff, cyc_iff, mul_len]
  exact ⟨fun h i hi => (mul_at c B _ _ hc).1 (h i hi), fun h i hi => (mul_at c B _ _ hc).2 (h i hi)⟩
theorem mul_per {c : Int} (hc : 0 < c) (B : List Int) : perN (mulB c B) = perN B := by
  unfold perN
  rw [mul_len, show (fun m => cycB (mulB c B) (m + 1)) = fun m => cycB B (m + 1) from funext fun m => mul_cyc hc B _]
theorem mul_once {c : Int} (hc : 0 < c) (B : List Int) : onceB (mulB c B) = mulB c (onceB B) := by rw [onceB, mul_per hc, onceB, mulB, mulB, List.map_take]
theorem mul_rot (c : Int) (B : List Int) (t : Nat) : rotB (mulB c B) t = mulB c (rotB B t) := by simp [rotB, mulB, List.map_append, List.map_take, List.map_drop]
theorem mul_ltB {c : Int} (hc : 0 < c) : ∀ a b : List Int, ltB (mulB c a) (mulB c b) = ltB a b
  | [], b => by cases b <;> rfl
  | x :: xs, [] => rfl
  | x :: xs, y :: ys => by
    have ih := mul_ltB hc xs ys
    simp only [mulB, List.map_cons] at ih ⊢
    unfold ltB
    by_cases h1 : x < y
    · rw [if_pos h1, if_pos ((mul_lt hc).2 h1)]
    · rw [if_neg h1, if_neg (fun h => h1 ((mul_lt hc).1 h))]
      by_cases h2 : y < x
      · rw [if_pos h2, if_pos ((mul_lt hc).2 h2)]
      · rw [if_neg h2, if_neg (fun h => h2 ((mul_lt hc).1 h))]
        exact ih
theorem mul_least {c : Int} (hc : 0 < c) (B : List Int) : ∀ m, leastN (mulB c B) m = leastN B m
  | 0 => rfl
  | m + 1 => by rw [leastN_next, leastN_next, mul_least hc B m, mul_rot, mul_rot, mul_ltB hc]
theorem mul_norm {c : Int} (hc : 0 < c) (B : List Int) : normB (mulB c B) = mulB c (normB B) := by rw [normB, mul_len, mul_least hc, mul_rot, normB]
def mulD (c : Int) (l : List (Int × Int)) : List (Int × Int) := l.map fun d => (d.1 * c, d.2)
theorem mul_jstep {c : Int} (hc : 0 < c) (out : List (Int × Int)) (a : Int) : jstep (mulD c out) (a * c) = mulD c (jstep out a) := by
  unfold jstep mulD
  rw [List.getLast?_map]
  cases h : out.getLast? with
  | none => simp
  | some d =>
    simp only [Option.map_some, mul_inj hc]
    split
    · simp [List.map_dropLast]
    · simp
theorem mul_join {c : Int} (hc : 0 < c) (B : List Int) : joinB (mulB c B) = mulD c (joinB B) := by
  have h : ∀ (l : List Int) (out : List (Int × Int)), (mulB c l).foldl jstep (mulD c out) = mulD c (l.foldl jstep out) := by
    intro l
    induction l with
    | nil => intro out; rfl
    | cons a l ih => intro out; simp only [mulB, List.map_cons, List.foldl_cons]; rw [mul_jstep hc]; exact ih _
  exact h B []
theorem mul_normP {c : Int} (hc : 0 < c) (B : List Int) : normP (mulB c B) = mulD c (normP B) := by rw [normP, mul_once hc, mul_norm hc, mul_join hc, normP]
theorem mul_close1 {c : Int} (hc : 0 < c) (a b : List (Int × Int)) (i j : Nat) (tol : Int) : close1 (mulD c a) (mulD c b) i j tol = close1 a b i j tol := by
  simp only [close1, mulD, List.getElem?_map]
  cases a[i]? <;> cases b[j]? <;> simp [mul_inj hc]
theorem mul_close {c : Int} (hc : 0 < c) (a b : List (Int × Int)) (tol : Int) : closeB (mulD c a) (mulD c b) tol = closeB a b tol := by
  have hl : ∀ l : List (Int × Int), (mulD c l).length = l.length := fun l => List.length_map _
  have ht : turnB (mulD c a) (mulD c b) tol = turnB a b tol := by
    funext f
    rw [turnB, turnB, hl, hl]
    congr 1
    funext i
    exact mul_close1 hc a b _ _ tol
  rw [closeB, closeB, hl, hl, ht]
theorem ten_mul {k : Int} : ∀ {ps qs : List Ph}, ps.length = qs.length → (∀ (i : Nat) (p q : Ph), ps[i]? = some p → qs[i]? = some q → p.len = q.len ∧ code p.c = code q.c * k) → tenC ps = mulB k (tenC qs)
  | [], [], _, _ => rfl
  | [], q :: qs, h, _ => by simp at h
  | p :: ps, [], h, _ => by simp at h
  | p :: ps, q :: qs, h, hh => by
    have h0 := hh 0 p q rfl rfl
    have ih := ten_mul (ps := ps) (qs := qs) (by simpa using h) (fun i a b ha hb => hh (i + 1) a b (by simpa using ha) (by simpa using hb))
    simp only [tenC, tenL, mulB, List.flatMap_cons, List.map_append, List.map_replicate] at ih ⊢
    rw [ih, h0.1, h0.2]
def oneC' : ByteArray := ⟨#[1]⟩
theorem code_one : code oneC' = 1 := rfl
theorem code_emp : code ⟨#[]⟩ = 0 := rfl
theorem code_col {co : ByteArray} (h : colB co = true) : 0 < code co := by
  have h1 := okS_col h
  rcases h1 with h1 | ⟨h1, h2⟩
  · rw [colB_size h] at h1; cases h1
  · have := code_bd co
    rw [code, if_neg (by omega)] at this ⊢
    omega
/-- The tenths of a character in a colour: those in the colour 1, times the colour. -/
theorem ten_char {x : Ch} {co : ByteArray} : tenC (phasesL x co) = mulB (code co) (tenC (phasesL x oneC')) := by
  have hl := phases_len_co x co oneC'
  refine ten_mul hl fun i p q hp hq => ?_
  have h1 := phases_col hp
  have h2 := phases_col hq
  refine ⟨?_, ?_⟩
  · unfold phasesL at hp hq
    split at hp
    · rename_i hk
      rw [if_pos hk] at hq
      cases i <;> simp at hp hq
      rw [← hp, ← hq]
    split at hp
    · rename_i hk1 hk
      rw [if_neg hk1, if_pos hk] at hq
      match i with
      | 0 => simp at hp hq; rw [← hp, ← hq]
      | 1 => simp at hp hq; rw [← hp, ← hq]
      | i + 2 => simp at hp
    · rename_i hk1 hk
      rw [if_neg hk1, if_neg hk] at hq
      simp only [altL, List.getElem?_mapIdx, Option.map_eq_some_iff] at hp hq
      obtain ⟨t, ht, rfl⟩ := hp
      obtain ⟨t', ht', rfl⟩ := hq
      rw [ht] at ht'
      cases ht'
      rfl
  · rw [h1, h2]
    cases litAt (ocB x) i
    · simp [code_emp]
    · simp [code_one]
def confB (x y : Ch) (tol : Int) : Bool := closeB (normP (tenC (phasesL x oneC'))) (normP (tenC (phasesL y oneC'))) tol
theorem conf_col {x y : Ch} {co : ByteArray} (h : colB co = true) (tol : Int) : closeB (normP (tenC (phasesL x co))) (normP (tenC (phasesL y co))) tol = confB x y tol := by
  have hc := code_col h
  rw [ten_char (x := x), ten_char (x := y), mul_normP hc, mul_normP hc, mul_close hc, confB]
def toPh (d : Int × Int) : Ph := ⟨nameC d.1, d.2⟩
end Go.Proofs.YtgibbhipjpbdfaaGreat
