/- RcFG: several of my texts in one. -/
import Derived.Test.YtgibbhipjpbdfaaRot
import Derived.Test.YtgibbhipjpbdfaaChTen
import Derived.Test.YtgibbhipjpbdfaaMatG
import Derived.Test.YtgibbhipjpbdfaaChPh
import Derived.Test.YtgibbhipjpbdfaaRecR

/- Tenths of a second as numbers: colours by their byte. Plain facts, no program. -/
namespace Go.Proofs.Ytgibbhipjpbdfaa
open Go.RowKit
def code (s : ByteArray) : Int := if s.size = 0 then 0 else bt s 0
def nameC (b : Int) : ByteArray := if b = 0 then ⟨#[]⟩ else strOfNums [b]
theorem code_bd (s : ByteArray) : 0 ≤ code s ∧ code s ≤ 255 := by
  unfold code bt
  split
  · omega
  · have := (s.data.toList[0]?.getD 0).toNat_lt
    omega
/-- The colours that occur: none, or one byte that is not 0. -/
def okS (s : ByteArray) : Prop := s.size = 0 ∨ (s.size = 1 ∧ bt s 0 ≠ 0)
theorem name_code {s : ByteArray} (h : okS s) : nameC (code s) = s := by
  rcases h with h | ⟨h, hb⟩
  · rw [code, if_pos h, nameC, if_pos rfl]
    have : s.data.toList.length = 0 := h
    cases s with
    | mk d => simp at this; simp [this]
  · have hc : code s = bt s 0 := by rw [code, if_neg (by omega)]
    rw [hc, nameC, if_neg hb, bt_eq _ _ (by omega)]
    have h1 := one_of h
    rw [toL] at h1
    cases s with
    | mk d =>
      rw [ByteArray.mk.injEq]
      rw [← Array.toList_inj]
      rw [strOfNums_data]
      refine Eq.trans ?_ h1.symm
      simp [List.map_cons, List.map_nil]
theorem code_name {b : Int} (h0 : 0 ≤ b) (h1 : b ≤ 255) : code (nameC b) = b := by
  unfold nameC
  split
  · rename_i h; subst h; rfl
  · rename_i h
    have hs := strOfNums_size [b]
    rw [code, if_neg (by rw [hs]; simp), bt]
    rw [strOfNums_data]
    simp
    omega
theorem okS_col {s : ByteArray} (h : colB s = true) : okS s := by
  have h1 := colB_size h
  refine .inr ⟨h1, ?_⟩
  rw [bt_eq _ _ (by omega)]
  have h2 := one_of h1
  simp only [colB, Bool.or_eq_true, beq_iff_eq, h2, List.cons.injEq, and_true] at h
  rcases h with h | h | h | h <;> rw [h] <;> decide
theorem okS_emp : okS ⟨#[]⟩ := .inl rfl
def tenC (ps : List Ph) : List Int := (tenL ps).map code
theorem tenC_bd (ps : List Ph) : ∀ b ∈ tenC ps, 0 ≤ b ∧ b ≤ 255 := fun b hb => by
  obtain ⟨s, _, rfl⟩ := List.mem_map.1 hb
  exact code_bd s
theorem tenC_names {ps : List Ph} (h : ∀ p ∈ ps, okS p.c) : (tenC ps).map nameC = tenL ps := by
  rw [tenC, List.map_map]
  conv => rhs; rw [← List.map_id (tenL ps)]
  refine List.map_congr_left fun s hs => ?_
  simp only [tenL, List.mem_flatMap] at hs
  obtain ⟨p, hp, hs⟩ := hs
  rw [List.eq_of_mem_replicate hs]
  exact name_code (h p hp)
/- All numbers times a positive one. -/
def mulB (c : Int) (B : List Int) : List Int := B.map (· * c)
theorem mul_inj {c a b : Int} (hc : 0 < c) : (a * c = b * c) ↔ a = b := ⟨fun h => Int.eq_of_mul_eq_mul_right (by omega) h, fun h => by rw [h]⟩
theorem mul_lt {c a b : Int} (hc : 0 < c) : (a * c < b * c) ↔ a < b := ⟨fun h => Int.lt_of_mul_lt_mul_right h (Int.le_of_lt hc), fun h => Int.mul_lt_mul_of_pos_right h hc⟩
theorem mul_len (c : Int) (B : List Int) : (mulB c B).length = B.length := List.length_map _
theorem mul_at (c : Int) (B : List Int) (i j : Nat) (hc : 0 < c) : ((mulB c B)[i]? = (mulB c B)[j]?) ↔ B[i]? = B[j]? := by
  simp only [mulB, List.getElem?_map]
  cases B[i]? <;> cases B[j]? <;> simp [mul_inj hc]
theorem mul_cyc {c : Int} (hc : 0 < c) (B : List Int) (n : Nat) : cycB (mulB c B) n = cycB B n := by
  rw [Bool.eq_iff_iff, cyc_iff, cyc_iff, mul_len]
  exact ⟨fun h i hi => (mul_at c B _ _ hc).1 (h i hi), fun h i hi => (mul_at c B _ _ hc).2 (h i hi)⟩
theorem mul_per {c : Int} (hc : 0 < c) (B : List Int) : perN (mulB c B) = perN B := by
  unfold perN
  rw [mul_len, show (fun m => cycB (mulB c B) (m + 1)) = fun m => cycB B (m + 1) from funext fun m => mul_cyc hc B _]
theorem mul_once {c : Int} (hc : 0 < c) (B : List Int) : onceB (mulB c B) = mulB c (onceB B) := by rw [onceB, mul_per hc, onceB, mulB, mulB, List.map_take]
theorem mul_rot (c : Int) (B : List Int) (t : Nat) : rotB (mulB c B) t = mulB c (rotB B t) := by simp [rotB, mulB, List.map_append, List.map_take, List.map_drop]
theorem mul_ltB {c : Int} (hc : 0 < c) : ∀ a b : List Int, ltB (mulB c a) (mulB c b) = ltB a b
  | [], b => by cases b <;> rfl
  | x :: xs, [] => rfl
  | x :: xs, y :: ys => by
    have ih := mul_ltB hc xs ys
    simp only [mulB, List.map_cons] at ih ⊢
    unfold ltB
    by_cases h1 : x < y
    · rw [if_pos h1, if_pos ((mul_lt hc).2 h1)]
    · rw [if_neg h1, if_neg (fun h => h1 ((mul_lt hc).1 h))]
      by_cases h2 : y < x
      · rw [if_pos h2, if_pos ((mul_lt hc).2 h2)]
      · rw [if_neg h2, if_neg (fun h => h2 ((mul_lt hc).1 h))]
        exact ih
theorem mul_least {c : Int} (hc : 0 < c) (B : List Int) : ∀ m, leastN (mulB c B) m = leastN B m
  | 0 => rfl
  | m + 1 => by rw [leastN_next, leastN_next, mul_least hc B m, mul_rot, mul_rot, mul_ltB hc]
theorem mul_norm {c : Int} (hc : 0 < c) (B : List Int) : normB (mulB c B) = mulB c (normB B) := by rw [normB, mul_len, mul_least hc, mul_rot, normB]
def mulD (c : Int) (l : List (Int × Int)) : List (Int × Int) := l.map fun d => (d.1 * c, d.2)
theorem mul_jstep {c : Int} (hc : 0 < c) (out : List (Int × Int)) (a : Int) : jstep (mulD c out) (a * c) = mulD c (jstep out a) := by
  unfold jstep mulD
  rw [List.getLast?_map]
  cases h : out.getLast? with
  | none => simp
  | some d =>
    simp only [Option.map_some, mul_inj hc]
    split
    · simp [List.map_dropLast]
    · simp
theorem mul_join {c : Int} (hc : 0 < c) (B : List Int) : joinB (mulB c B) = mulD c (joinB B) := by
  have h : ∀ (l : List Int) (out : List (Int × Int)), (mulB c l).foldl jstep (mulD c out) = mulD c (l.foldl jstep out) := by
    intro l
    induction l with
    | nil => intro out; rfl
    | cons a l ih => intro out; simp only [mulB, List.map_cons, List.foldl_cons]; rw [mul_jstep hc]; exact ih _
  exact h B []
theorem mul_normP {c : Int} (hc : 0 < c) (B : List Int) : normP (mulB c B) = mulD c (normP B) := by rw [normP, mul_once hc, mul_norm hc, mul_join hc, normP]
theorem mul_close1 {c : Int} (hc : 0 < c) (a b : List (Int × Int)) (i j : Nat) (tol : Int) : close1 (mulD c a) (mulD c b) i j tol = close1 a b i j tol := by
  simp only [close1, mulD, List.getElem?_map]
  cases a[i]? <;> cases b[j]? <;> simp [mul_inj hc]
theorem mul_close {c : Int} (hc : 0 < c) (a b : List (Int × Int)) (tol : Int) : closeB (mulD c a) (mulD c b) tol = closeB a b tol := by
  have hl : ∀ l : List (Int × Int), (mulD c l).length = l.length := fun l => List.length_map _
  have ht : turnB (mulD c a) (mulD c b) tol = turnB a b tol := by
    funext f
    rw [turnB, turnB, hl, hl]
    congr 1
    funext i
    exact mul_close1 hc a b _ _ tol
  rw [closeB, closeB, hl, hl, ht]
theorem ten_mul {k : Int} : ∀ {ps qs : List Ph}, ps.length = qs.length → (∀ (i : Nat) (p q : Ph), ps[i]? = some p → qs[i]? = some q → p.len = q.len ∧ code p.c = code q.c * k) → tenC ps = mulB k (tenC qs)
  | [], [], _, _ => rfl
  | [], q :: qs, h, _ => by simp at h
  | p :: ps, [], h, _ => by simp at h
  | p :: ps, q :: qs, h, hh => by
    have h0 := hh 0 p q rfl rfl
    have ih := ten_mul (ps := ps) (qs := qs) (by simpa using h) (fun i a b ha hb => hh (i + 1) a b (by simpa using ha) (by simpa using hb))
    simp only [tenC, tenL, mulB, List.flatMap_cons, List.map_append, List.map_replicate] at ih ⊢
    rw [ih, h0.1, h0.2]
def oneC' : ByteArray := ⟨#[1]⟩
theorem code_one : code oneC' = 1 := rfl
theorem code_emp : code ⟨#[]⟩ = 0 := rfl
theorem code_col {co : ByteArray} (h : colB co = true) : 0 < code co := by
  have h1 := okS_col h
  rcases h1 with h1 | ⟨h1, h2⟩
  · rw [colB_size h] at h1; cases h1
  · have := code_bd co
    rw [code, if_neg (by omega)] at this ⊢
    omega
/-- The tenths of a character in a colour: those in the colour 1, times the colour. -/
theorem ten_char {x : Ch} {co : ByteArray} : tenC (phasesL x co) = mulB (code co) (tenC (phasesL x oneC')) := by
  have hl := phases_len_co x co oneC'
  refine ten_mul hl fun i p q hp hq => ?_
  have h1 := phases_col hp
  have h2 := phases_col hq
  refine ⟨?_, ?_⟩
  · unfold phasesL at hp hq
    split at hp
    · rename_i hk
      rw [if_pos hk] at hq
      cases i <;> simp at hp hq
      rw [← hp, ← hq]
    split at hp
    · rename_i hk1 hk
      rw [if_neg hk1, if_pos hk] at hq
      match i with
      | 0 => simp at hp hq; rw [← hp, ← hq]
      | 1 => simp at hp hq; rw [← hp, ← hq]
      | i + 2 => simp at hp
    · rename_i hk1 hk
      rw [if_neg hk1, if_neg hk] at hq
      simp only [altL, List.getElem?_mapIdx, Option.map_eq_some_iff] at hp hq
      obtain ⟨t, ht, rfl⟩ := hp
      obtain ⟨t', ht', rfl⟩ := hq
      rw [ht] at ht'
      cases ht'
      rfl
  · rw [h1, h2]
    cases litAt (ocB x) i
    · simp [code_emp]
    · simp [code_one]
def confB (x y : Ch) (tol : Int) : Bool := closeB (normP (tenC (phasesL x oneC'))) (normP (tenC (phasesL y oneC'))) tol
theorem conf_col {x y : Ch} {co : ByteArray} (h : colB co = true) (tol : Int) : closeB (normP (tenC (phasesL x co))) (normP (tenC (phasesL y co))) tol = confB x y tol := by
  have hc := code_col h
  rw [ten_char (x := x), ten_char (x := y), mul_normP hc, mul_normP hc, mul_close hc, confB]
def toPh (d : Int × Int) : Ph := ⟨nameC d.1, d.2⟩
end Go.Proofs.Ytgibbhipjpbdfaa

/- Characters: how many flashes. -/
namespace Go.Proofs.Ytgibbhipjpbdfaa
open Go.RowKit
def cntI (x : Ch) : Int := if x.k = 1 then 0 else if x.k = 3 then 1 else ((timesL x).length + 1) / 2
end Go.Proofs.Ytgibbhipjpbdfaa

/- How often the light of a character goes on; what fits a pattern goes on as often. Plain. -/
namespace Go.Proofs.Ytgibbhipjpbdfaa
open Go.RowKit
/-- Tenths of phases that alternate. -/
def tenA (c : Int) : Bool → List Int → List Int
  | _, [] => []
  | l, t :: r => List.replicate t.toNat (bif l then c else 0) ++ tenA c (!l) r
theorem tenA_mapIdx (co : ByteArray) (oc : Bool) : ∀ (ts : List Int) (a : Nat), tenC (ts.mapIdx fun i t => altP co oc (i + a) t) = tenA (code co) (litAt oc a) ts
  | [], _ => rfl
  | t :: r, a => by
    have ih := tenA_mapIdx co oc r (a + 1)
    have e : (fun i t => altP co oc (i + 1 + a) t) = (fun i t => altP co oc (i + (a + 1)) t) := by
      funext i t; rw [show i + 1 + a = i + (a + 1) by omega]
    have hl : litAt oc (a + 1) = !litAt oc a := by
      unfold litAt
      have h1 : decide ((a + 1) % 2 = 1) = !decide (a % 2 = 1) := by
        by_cases h : a % 2 = 1
        · rw [decide_eq_true h, decide_eq_false (by omega)]; rfl
        · rw [decide_eq_false h, decide_eq_true (by omega)]; rfl
      rw [h1]
      cases decide (a % 2 = 1) <;> cases oc <;> rfl
    rw [List.mapIdx_cons, e, tenA, ← hl, ← ih]
    have hc : code (altP co oc (0 + a) t).c = bif litAt oc a then code co else 0 := by
      rw [Nat.zero_add, altP]
      cases litAt oc a <;> rfl
    simp only [tenC, tenL, List.flatMap_cons, List.map_append, List.map_replicate, hc]
    rfl
theorem ten_alt (co : ByteArray) (oc : Bool) (ts : List Int) : tenC (altL co oc ts) = tenA (code co) (!oc) ts := by
  have := tenA_mapIdx co oc ts 0
  rw [show litAt oc 0 = !oc by cases oc <;> rfl] at this
  exact this
theorem ris_tenA {c : Int} (hc : c ≠ 0) : ∀ (ts : List Int), (∀ t ∈ ts, 1 ≤ t) → ∀ l p, (l = true → p = 0) → risF p (tenA c l ts) = (ts.length + (if l then 1 else 0)) / 2
  | [], _, l, p, _ => by cases l <;> rfl
  | t :: r, h, l, p, hp => by
    have ht := h t (by simp)
    have ih := ris_tenA hc r fun x hx => h x (by simp [hx])
    have hn : 1 ≤ t.toNat := by omega
    rw [tenA, ris_app, ris_rep _ _ _ hn, last_rep _ _ hn, List.length_cons]
    cases l
    · simp only [cond_false, Bool.not_false]
      rw [ih true 0 (fun _ => rfl)]; simp
    · simp only [cond_true, Bool.not_true]
      rw [hp rfl, ih false _ (fun h => by cases h)]
      simp [hc]; omega
theorem last_tenA {c : Int} : ∀ (ts : List Int), (∀ t ∈ ts, 1 ≤ t) → ts ≠ [] → ∀ l d, lastD d (tenA c l ts) = if (ts.length % 2 = 1) = (l = true) then c else 0
  | [], _, h, _, _ => absurd rfl h
  | [t], h, _, l, d => by
    have ht := h t (by simp)
    rw [tenA, tenA, List.append_nil, last_rep _ _ (show 1 ≤ t.toNat by omega)]
    cases l <;> simp
  | t :: u :: r, h, _, l, d => by
    have ih := last_tenA (c := c) (u :: r) (fun x hx => h x (by simp only [List.mem_cons] at hx ⊢; exact .inr hx)) (by simp) (!l) d
    have hu := h u (by simp)
    have hne : tenA c (!l) (u :: r) ≠ [] := by
      rw [tenA]
      intro e
      have := congrArg List.length e
      rw [List.length_append, List.length_replicate] at this
      simp at this
      omega
    rw [tenA, last_app _ _ hne, ih]
    simp only [List.length_cons]
    by_cases h1 : (r.length + 1) % 2 = 1
    · have h2 : ¬ (r.length + 1 + 1) % 2 = 1 := by omega
      cases l <;> simp [h1, h2]
    · have h2 : (r.length + 1 + 1) % 2 = 1 := by omega
      cases l <;> simp [h1, h2]
/-- Of an even number of phases, half are lit. -/
theorem flash_tenA {c : Int} (hc : c ≠ 0) {ts : List Int} (h : ∀ t ∈ ts, 1 ≤ t) (he : ts.length % 2 = 0) (hne : ts ≠ []) (l : Bool) : flashB (tenA c l ts) = ts.length / 2 := by
  have h1 := last_tenA (c := c) ts h hne l 0
  rw [flashB, h1]
  have h2 : ¬ ts.length % 2 = 1 := by omega
  cases l
  · rw [if_pos (by simp [h2]), ris_tenA hc ts h false _ (fun h => by cases h)]; simp
  · rw [if_neg (by simp [h2]), ris_tenA hc ts h true 0 (fun _ => rfl)]; simp; omega
/-- The times of a valid character that is not steady, and not of equal phases. -/
def allT (x : Ch) : List Int := timesL x ++ [x.p - (timesL x).sum]
theorem allT_pos {x : Ch} (hv : validB x = true) (hs : steadyB x = false) (h3 : x.k ≠ 3) : (∀ t ∈ allT x, 1 ≤ t) ∧ (allT x).length % 2 = 0 ∧ allT x ≠ [] ∧ (allT x).length = (timesL x).length + 1 := by
  have hsm := valid_sum hv hs h3
  have ho := times_odd (shape_TOk (valid_shape hv))
  refine ⟨fun t ht => ?_, by simp [allT]; omega, by simp [allT], by simp [allT]⟩
  rcases List.mem_append.1 ht with h | h
  · exact times_pos t h
  · simp only [List.mem_singleton] at h; omega
theorem st_ne1 {x : Ch} (hs : steadyB x = false) : x.k ≠ 1 := by
  intro e; simp [steadyB, e] at hs
theorem ph_alt {x : Ch} (co : ByteArray) (hs : steadyB x = false) (h3 : x.k ≠ 3) : phasesL x co = altL co (ocB x) (allT x) := by
  rw [phasesL, if_neg (st_ne1 hs), if_neg h3, if_neg (by rw [hs]; simp)]; rfl
theorem flash_own {x : Ch} {co : ByteArray} (hv : validB x = true) (hc : code co ≠ 0) (hs : steadyB x = false) (h3 : x.k ≠ 3) : flashB (tenC (phasesL x co)) = ((timesL x).length + 1) / 2 := by
  obtain ⟨h1, h2, hn, h4⟩ := allT_pos hv hs h3
  rw [ph_alt co hs h3, ten_alt, flash_tenA hc h1 h2 hn, h4]
theorem len_own {x : Ch} {co : ByteArray} (hv : validB x = true) (hs : steadyB x = false) : ((tenC (phasesL x co)).length : Int) = x.p := by
  have hb := phases_bd (co := co) hv
  have hl := tenL_len hb
  rw [tenC, List.length_map, hl]
  by_cases h3 : x.k = 3
  · rw [phasesL, if_neg (st_ne1 hs), if_pos h3]
    simp only [validB, Bool.and_eq_true] at hv
    have h2 := hv.2
    rw [if_neg (by rw [hs]; simp)] at h2
    simp only [Bool.and_eq_true] at h2
    have h4 := h2.2
    have h5 := inB_iff.1 h2.1
    have hl : leastI x = 20 := by rw [leastI, if_neg (by rw [hs]; simp), if_pos h3]
    simp only [h3, beq_self_eq_true, Bool.not_true, Bool.false_or, evenB, beq_iff_eq] at h4
    rw [Int.tmod_eq_emod_of_nonneg (by omega)] at h4
    simp [totI]; omega
  · rw [ph_alt co hs h3, tot_alt, allT, List.sum_append]
    simp; omega
theorem times_sum {x : Ch} (hv : validB x = true) (h8 : x.k ≠ 8) (hg : x.gs ≠ []) : (((timesL x).length + 1) / 2 : Nat) = (x.gs.sum + (if isL x.l = true then 1 else 0) : Int) := by
  have ht := shape_TOk (valid_shape hv)
  obtain ⟨g1, g4, g9⟩ := grp_ok h8 ht
  have e : grp x = x.gs := by rw [grp, if_neg hg]
  have ho := outer_len_eq x.k g9 (grp x).length (by omega) (Nat.le_refl _)
  rw [List.take_of_length_le (Nat.le_refl _)] at ho
  rw [timesL, if_neg h8, List.length_append]
  rw [e] at ho ⊢
  split <;> simp <;> omega
/-- What is the same pattern as a list that is its own period goes on as often, and is lit as long. -/
structure FitsL (x : Ch) (L : List Int) : Prop where
  v : validB x = true
  n : normB (onceB (tenC (phasesL x x.cs))) = normB L
def fitC (L : List Int) (x : Ch) : Bool := validB x && decide (normB (onceB (tenC (phasesL x x.cs))) = normB L)
theorem fitC_iff {L : List Int} {x : Ch} : fitC L x = true ↔ FitsL x L := by
  rw [fitC, Bool.and_eq_true, decide_eq_true_eq]
  exact ⟨fun h => ⟨h.1, h.2⟩, fun h => ⟨h.v, h.n⟩⟩
theorem own_pos {x : Ch} (hv : validB x = true) (co : ByteArray) : 1 ≤ (tenC (phasesL x co)).length := by
  have hb := phases_bd (co := co) hv
  have hl := tenL_len hb
  have ht := tot_pos hv co
  rw [tenC, List.length_map]
  omega
theorem FitsL.rep {x : Ch} {L : List Int} (h : FitsL x L) (hL : 1 ≤ L.length) (hp : primB L) : ∃ s, s < L.length ∧ Rep (tenC (phasesL x x.cs)) L s := (rep_norm (own_pos h.v _) hL hp).2 h.n
theorem FitsL.rot {x : Ch} {L : List Int} (h : FitsL x L) (hL : 1 ≤ L.length) (hp : primB L) (hs : steadyB x = false) (hx : x.p = L.length) : ∃ s, tenC (phasesL x x.cs) = rotB L s := by
  obtain ⟨s, _, hr⟩ := h.rep hL hp
  exact ⟨_, rep_rot hr (by have := len_own (co := x.cs) h.v hs; omega)⟩
theorem FitsL.flash {x : Ch} {L : List Int} (h : FitsL x L) (hL : 1 ≤ L.length) (hp : primB L) (hs : steadyB x = false) (h3 : x.k ≠ 3) (hx : x.p = L.length) (hc : code x.cs ≠ 0) : flashB L = ((timesL x).length + 1) / 2 := by
  obtain ⟨s, e⟩ := h.rot hL hp hs hx
  rw [← flash_own h.v hc hs h3, e, flash_rot]
theorem FitsL.lit {x : Ch} {L : List Int} (h : FitsL x L) (hL : 1 ≤ L.length) (hp : primB L) (hs : steadyB x = false) (hx : x.p = L.length) : litN L = litN (tenC (phasesL x x.cs)) := by
  obtain ⟨s, e⟩ := h.rot hL hp hs hx
  rw [e, lit_rot]
theorem litN_tenA {c : Int} (hc : c ≠ 0) : ∀ (ts : List Int) (l : Bool), litN (tenA c l ts) = ((ts.mapIdx fun i t => bif (decide (i % 2 = 1) == l) then 0 else t.toNat).sum)
  | [], _ => rfl
  | t :: r, l => by
    have ih := litN_tenA hc r (!l)
    rw [tenA, litN, List.countP_append, ← litN, ← litN, ih, List.mapIdx_cons, List.sum_cons]
    have e : (fun (i : Nat) (t : Int) => bif (decide (i % 2 = 1) == !l) then 0 else t.toNat) = (fun (i : Nat) (t : Int) => bif (decide ((i + 1) % 2 = 1) == l) then 0 else t.toNat) := by
      funext i t
      by_cases h : i % 2 = 1
      · rw [decide_eq_true h, decide_eq_false (show ¬ (i + 1) % 2 = 1 by omega)]; cases l <;> rfl
      · rw [decide_eq_false h, decide_eq_true (show (i + 1) % 2 = 1 by omega)]; cases l <;> rfl
    rw [e]
    congr 1
    cases l <;> simp [litN, List.countP_replicate, hc]
end Go.Proofs.Ytgibbhipjpbdfaa

/- The rhythms that are tried: two ways through them find the same first one. Plain. -/
namespace Go.Proofs.Ytgibbhipjpbdfaa
open Go.RowKit
abbrev eB : ByteArray := ⟨#[]⟩
abbrev lB : ByteArray := ⟨#[76]⟩
theorem isE_e : isE eB = true := by rw [isE, ByteArray.toList_eq]; rfl
theorem isE_l : isE lB = false := by rw [isE, ByteArray.toList_eq]; rfl
theorem isL_e : isL eB = false := by rw [isL, ByteArray.toList_eq]; rfl
theorem isL_l : isL lB = true := by rw [isL, ByteArray.toList_eq]; rfl
def extL : Nat → Nat → List Int → List (List Int)
  | 0, s, h => if s = 0 then [h] else []
  | n + 1, s, h => (List.range (min 9 s)).flatMap fun i => extL n (s - (i + 1)) (h ++ [(i : Int) + 1])
def groupsS (s : Nat) : List (List Int) := (List.range 4).flatMap fun i => extL (i + 1) s []
def ext1 (g : List Int) : List (List Int) := (List.range (min 9 (12 - g.sum).toNat)).map fun i : Nat => g ++ [(i : Int) + 1]
def grpI : Nat → List (List Int)
  | 0 => [[]]
  | e + 1 => (grpI e).flatMap ext1
def genF : Nat → List Int → List (List Int)
  | 0, h => [h]
  | n + 1, h => (List.range (min 9 (12 - h.sum).toNat)).flatMap fun i : Nat => genF n (h ++ [(i : Int) + 1])
theorem gen_next : ∀ (n : Nat) (h : List Int), genF (n + 1) h = (genF n h).flatMap ext1
  | 0, h => by simp [genF, ext1, List.map_eq_flatMap]
  | n + 1, h => by
    rw [genF, genF, List.flatMap_assoc]
    congr 1
    funext i
    exact gen_next n _
theorem grp_gen : ∀ n, grpI n = genF n []
  | 0 => rfl
  | n + 1 => by rw [grpI, grp_gen n, gen_next]
theorem gen_mem : ∀ (n : Nat) (h g : List Int), g ∈ genF n h → g.length = h.length + n ∧ h.sum ≤ g.sum ∧ (h.sum ≤ 12 → g.sum ≤ 12)
  | 0, h, g, hg => by
    obtain rfl : g = h := by simpa [genF] using hg
    exact ⟨rfl, Int.le_refl _, id⟩
  | n + 1, h, g, hg => by
    simp only [genF, List.mem_flatMap, List.mem_range] at hg
    obtain ⟨i, hi, hg⟩ := hg
    obtain ⟨a, b, c⟩ := gen_mem n _ g hg
    simp only [List.length_append, List.length_cons, List.length_nil, List.sum_append, List.sum_cons, List.sum_nil] at a b c
    refine ⟨by omega, by omega, fun _ => c (by omega)⟩
theorem range_cut {α : Type} (F : Nat → List α) (a : Nat) : ∀ m, a ≤ m → (∀ i, a ≤ i → i < m → F i = []) → (List.range m).flatMap F = (List.range a).flatMap F
  | 0, h, _ => by rw [Nat.le_zero.1 h]
  | m + 1, h, hF => by
    by_cases hm : a = m + 1
    · rw [hm]
    · rw [List.range_succ, List.flatMap_append, range_cut F a m (by omega) fun i h1 h2 => hF i h1 (by omega)]
      simp [hF m (by omega) (by omega)]
theorem range_congr {α : Type} {F G : Nat → List α} : ∀ m, (∀ i, i < m → F i = G i) → (List.range m).flatMap F = (List.range m).flatMap G
  | 0, _ => rfl
  | m + 1, h => by
    rw [List.range_succ, List.flatMap_append, List.flatMap_append, range_congr m fun i hi => h i (by omega)]
    simp [h m (by omega)]
theorem ext_gen : ∀ (n s : Nat) (h : List Int), h.sum + s ≤ 12 → extL n s h = (genF n h).filter fun g => decide (g.sum = h.sum + s)
  | 0, s, h, _ => by
    rw [extL, genF]
    by_cases hs : s = 0
    · rw [if_pos hs, hs]; simp
    · rw [if_neg hs, List.filter_cons, if_neg (by simp; omega)]; rfl
  | n + 1, s, h, hb => by
    rw [extL, genF, List.filter_flatMap]
    rw [range_cut _ (min 9 s) (min 9 (12 - h.sum).toNat) (by omega) fun i h1 h2 => ?_]
    · refine range_congr _ fun i hi => ?_
      have e : (h ++ [(i : Int) + 1]).sum = h.sum + (i + 1) := by simp
      rw [ext_gen n (s - (i + 1)) (h ++ [(i : Int) + 1]) (by rw [e]; omega), e]
      congr 1
      funext g
      congr 1
      rw [show h.sum + ((i : Int) + 1) + ((s - (i + 1) : Nat) : Int) = h.sum + s by omega]
    · rw [List.filter_eq_nil_iff]
      intro g hg
      have h3 := (gen_mem n _ g hg).2.1
      simp only [List.sum_append, List.sum_cons, List.sum_nil] at h3
      simp only [decide_eq_true_eq]
      omega
theorem ext_sum : ∀ (n s : Nat) (h g : List Int), g ∈ extL n s h → g.sum = h.sum + s ∧ g.length = h.length + n
  | 0, s, h, g, hg => by
    rw [extL] at hg
    split at hg
    · obtain rfl : g = h := by simpa using hg
      rename_i hs; subst hs; simp
    · cases hg
  | n + 1, s, h, g, hg => by
    simp only [extL, List.mem_flatMap, List.mem_range] at hg
    obtain ⟨i, hi, hg⟩ := hg
    obtain ⟨a, b⟩ := ext_sum n _ _ g hg
    simp only [List.length_append, List.length_cons, List.length_nil, List.sum_append, List.sum_cons, List.sum_nil] at a b
    omega
def cand (co : ByteArray) (n k : Int) (g : List Int) (l : ByteArray) : Ch := ⟨k, g, l, co, if k = 1 ∨ ((k = 6 ∨ k = 7) ∧ g = []) then 0 else n⟩
def ltrB (i : Nat) : ByteArray := ⟨#[UInt8.ofNat (65 + i)]⟩
def lettersC (co : ByteArray) (n : Int) : List Ch := (List.range 26).map fun i => cand co n 8 [] (ltrB i)
def candS (co : ByteArray) (n : Int) (F : Nat) (k : Int) : List Ch :=
  if k = 8 then lettersC co n else
  cand co n k [] eB :: (if k = 1 ∨ k = 3 then [] else (groupsS F).map (fun g => cand co n k g eB) ++ [cand co n k [6] lB])
def candG (co : ByteArray) (n k : Int) (g : List Int) : List Ch := ([eB, lB].filter fun l => fitsB ⟨k, g, l, co, 0⟩).map fun l => cand co n k g l
def candI (co : ByteArray) (n : Int) (k : Int) : List Ch :=
  if k = 8 then lettersC co n else (List.range 5).flatMap fun e => (grpI e).flatMap (candG co n k)
def kinds : List Int := [1, 2, 3, 4, 5, 6, 7, 8]
def recS (co : ByteArray) (n : Int) (F : Nat) (L : List Int) : Option Ch := (kinds.flatMap (candS co n F)).find? (fitC L)
def recI (co : ByteArray) (n : Int) (L : List Int) : Option Ch := (kinds.flatMap (candI co n)).find? (fitC L)
theorem cand_steady (co : ByteArray) (n k : Int) (g : List Int) (l : ByteArray) : steadyB (cand co n k g l) = decide (k = 1 ∨ ((k = 6 ∨ k = 7) ∧ g = [])) := by
  simp only [steadyB, cand]
  by_cases h1 : k = 1 <;> by_cases h6 : k = 6 <;> by_cases h7 : k = 7 <;> by_cases hg : g = [] <;> simp_all
theorem fit_fits {L : List Int} {x : Ch} (h : fitC L x = true) : fitsB x = true := by
  have := valid_shape (fitC_iff.1 h).v
  simp only [shapeB, Bool.and_eq_true] at this
  exact this.2
theorem fits_p (k : Int) (g : List Int) (l co : ByteArray) (p q : Int) : fitsB ⟨k, g, l, co, p⟩ = fitsB ⟨k, g, l, co, q⟩ := rfl
theorem fit_flash {co : ByteArray} {L : List Int} (hc : code co ≠ 0) (hL : 1 ≤ L.length) (hp : primB L) {k : Int} {g : List Int} {l : ByteArray} (hk : k = 2 ∨ k = 4 ∨ k = 5 ∨ k = 6 ∨ k = 7) (hg : g ≠ []) (h : fitC L (cand co L.length k g l) = true) :
    (flashB L : Int) = g.sum + (if isL l = true then 1 else 0) := by
  have hf := fitC_iff.1 h
  have hs : steadyB (cand co L.length k g l) = false := by
    rw [cand_steady, decide_eq_false_iff_not]
    rintro (h1 | ⟨_, h1⟩)
    · omega
    · exact hg h1
  have hx : (cand co L.length k g l).p = L.length := by
    rw [cand, if_neg]
    rintro (h1 | ⟨_, h1⟩)
    · omega
    · exact hg h1
  rw [hf.flash hL hp hs (show k ≠ 3 by omega) hx hc]
  exact times_sum hf.v (show k ≠ 8 by omega) hg
theorem filter_map_congr {α β : Type} {c : α → β} {p : β → Bool} {q : α → Bool} (h : ∀ a, p (c a) = true → q a = true) (l : List α) : (l.map c).filter p = ((l.filter q).map c).filter p := by
  induction l with
  | nil => rfl
  | cons a l ih =>
    rw [List.map_cons, List.filter_cons, List.filter_cons]
    cases hp : p (c a)
    · rw [if_neg (by simp), ih]
      split
      · rw [List.map_cons, List.filter_cons, hp]; simp
      · rfl
    · rw [if_pos rfl, if_pos (h a hp), List.map_cons, List.filter_cons, hp, if_pos rfl, ih]
theorem fit_group {co : ByteArray} {L : List Int} {k : Int} {g : List Int} (hk : k = 2 ∨ k = 4 ∨ k = 5 ∨ k = 6 ∨ k = 7) (h : fitC L (cand co L.length k g eB) = true) : groupB g = true ∧ (k = 6 ∨ k = 7 → g.length ≤ 1) := by
  have hf0 := fit_fits h
  have hf : fitsB ⟨k, g, eB, co, 0⟩ = true := hf0
  simp only [fitsB] at hf
  rw [if_neg (by omega)] at hf
  by_cases h2 : k = 2 ∨ k = 4 ∨ k = 5
  · rw [if_pos h2, Bool.and_eq_true] at hf
    exact ⟨hf.2, fun h => by omega⟩
  · rw [if_neg h2, if_pos (by omega), isL_e, if_neg (by simp)] at hf
    simp only [Bool.and_eq_true, decide_eq_true_eq] at hf
    exact ⟨hf.2.2, fun _ => hf.2.1⟩
theorem groups_same {co : ByteArray} {L : List Int} (hc : code co ≠ 0) (hL : 1 ≤ L.length) (hp : primB L) {k : Int} (hk : k = 2 ∨ k = 4 ∨ k = 5 ∨ k = 6 ∨ k = 7) (e : Nat) :
    ((grpI (e + 1)).map fun g => cand co L.length k g eB).filter (fitC L) = ((extL (e + 1) (flashB L) []).map fun g => cand co L.length k g eB).filter (fitC L) := by
  have hsum : ∀ g : List Int, g ≠ [] → fitC L (cand co L.length k g eB) = true → g.sum = (flashB L : Int) := fun g hg h => by
    have := fit_flash hc hL hp hk hg h
    rw [isL_e] at this; simp at this; omega
  have hne : ∀ g, g ∈ grpI (e + 1) → g ≠ [] := fun g hg e0 => by
    rw [grp_gen] at hg
    have := (gen_mem _ _ g hg).1
    rw [e0] at this; simp at this
  by_cases hF : flashB L ≤ 12
  · rw [ext_gen (e + 1) (flashB L) [] (by simp; omega), ← grp_gen]
    have key : ∀ l : List (List Int), (∀ g ∈ l, g ≠ []) → (l.map fun g => cand co L.length k g eB).filter (fitC L) = ((l.filter fun g => decide (g.sum = ([] : List Int).sum + (flashB L : Int))).map fun g => cand co L.length k g eB).filter (fitC L) := by
      intro l
      induction l with
      | nil => intro _; rfl
      | cons a l ih =>
        intro hl
        have ih' := ih fun g hg => hl g (List.mem_cons_of_mem _ hg)
        rw [List.map_cons, List.filter_cons, List.filter_cons]
        cases hpa : fitC L (cand co L.length k a eB)
        · rw [if_neg (by simp), ih']
          split
          · rw [List.map_cons, List.filter_cons, hpa]; simp
          · rfl
        · have hs := hsum a (hl a List.mem_cons_self) hpa
          rw [if_pos rfl, if_pos (by simp; omega), List.map_cons, List.filter_cons, hpa, if_pos rfl, ih']
    exact key _ hne
  · have e1 : ((grpI (e + 1)).map fun g => cand co L.length k g eB).filter (fitC L) = [] := by
      rw [List.filter_eq_nil_iff]
      intro x hx h
      obtain ⟨g, hg, rfl⟩ := List.mem_map.1 hx
      have h1 := hsum g (hne g hg) h
      rw [grp_gen] at hg
      have := (gen_mem _ _ g hg).2.2 (by simp)
      omega
    have e2 : ((extL (e + 1) (flashB L) []).map fun g => cand co L.length k g eB).filter (fitC L) = [] := by
      rw [List.filter_eq_nil_iff]
      intro x hx h
      obtain ⟨g, hg, rfl⟩ := List.mem_map.1 hx
      have h1 := (ext_sum _ _ _ g hg).1
      have h2 := (fit_group hk h).1
      simp only [groupB, Bool.and_eq_true, decide_eq_true_eq] at h2
      simp at h1
      omega
    rw [e1, e2]
theorem flat_filter {α β : Type} (l : List α) (c : α → β) (q : α → Bool) (p : β → Bool) (h : ∀ a, p (c a) = true → q a = true) : (l.flatMap fun a => if q a = true then [c a] else []).filter p = (l.map c).filter p := by
  induction l with
  | nil => rfl
  | cons a l ih =>
    rw [List.flatMap_cons, List.filter_append, ih, List.map_cons, List.filter_cons]
    cases hq : q a
    · have : p (c a) = false := by
        cases hp : p (c a)
        · rfl
        · rw [h a hp] at hq; cases hq
      simp [this]
    · simp only [if_true]
      rw [List.filter_cons]
      split <;> simp
theorem flat_app_nil {α β : Type} {A B : α → List β} {p : β → Bool} : ∀ {l : List α}, (∀ a ∈ l, (B a).filter p = []) → (l.flatMap fun a => A a ++ B a).filter p = (l.flatMap A).filter p
  | [], _ => rfl
  | a :: l, h => by
    rw [List.flatMap_cons, List.flatMap_cons, List.filter_append, List.filter_append, List.filter_append, h a (by simp), List.append_nil, flat_app_nil fun b hb => h b (List.mem_cons_of_mem _ hb)]
theorem candG_ocs {co : ByteArray} {n k : Int} (hk : k = 2 ∨ k = 4 ∨ k = 5) (g : List Int) : candG co n k g = if groupB g = true then [cand co n k g eB] else [] := by
  have h1 : fitsB ⟨k, g, eB, co, 0⟩ = groupB g := by
    simp only [fitsB]
    rw [if_neg (by omega), if_pos hk, isE_e, Bool.true_and]
  have h2 : fitsB ⟨k, g, lB, co, 0⟩ = false := by
    simp only [fitsB]
    rw [if_neg (by omega), if_pos hk, isE_l, Bool.false_and]
  rw [candG, List.filter_cons, List.filter_cons, h1, h2]
  cases groupB g <;> simp
theorem candG_13 {co : ByteArray} {n k : Int} (hk : k = 1 ∨ k = 3) (g : List Int) : candG co n k g = if g = [] then [cand co n k [] eB] else [] := by
  have h1 : fitsB ⟨k, g, eB, co, 0⟩ = decide (g = []) := by
    simp only [fitsB]
    rw [if_pos hk, isE_e, Bool.and_true]
  have h2 : fitsB ⟨k, g, lB, co, 0⟩ = false := by
    simp only [fitsB]
    rw [if_pos hk, isE_l, Bool.and_false]
  rw [candG, List.filter_cons, List.filter_cons, h1, h2]
  by_cases hg : g = []
  · subst hg; simp
  · simp [hg]
theorem candG_67 {co : ByteArray} {n k : Int} (hk : k = 6 ∨ k = 7) (g : List Int) : candG co n k g = (if (decide (g.length ≤ 1) && groupB g) = true then [cand co n k g eB] else []) ++ (if g = [6] then [cand co n k g lB] else []) := by
  have h1 : fitsB ⟨k, g, eB, co, 0⟩ = (decide (g.length ≤ 1) && groupB g) := by
    simp only [fitsB]
    rw [if_neg (by omega), if_neg (by omega), if_pos hk, isL_e, if_neg (by simp), isE_e, Bool.true_and]
  have h2 : fitsB ⟨k, g, lB, co, 0⟩ = decide (g = [6]) := by
    simp only [fitsB]
    rw [if_neg (by omega), if_neg (by omega), if_pos hk, isL_l, if_pos rfl]
  rw [candG, List.filter_cons, List.filter_cons, h1, h2]
  by_cases hg : g = [6]
  · subst hg; cases hq : (decide (([6] : List Int).length ≤ 1) && groupB [6]) <;> simp
  · cases hq : (decide (g.length ≤ 1) && groupB g) <;> simp [hg]
theorem range5 {α : Type} (F : Nat → List α) : (List.range 5).flatMap F = F 0 ++ (List.range 4).flatMap fun e => F (e + 1) := by
  simp [List.range_succ]
theorem grp_ne {e : Nat} {g : List Int} (hg : g ∈ grpI (e + 1)) : g ≠ [] := fun e0 => by
  rw [grp_gen] at hg
  have := (gen_mem _ _ g hg).1
  rw [e0] at this; simp at this
theorem flat_nil {α β : Type} {l : List α} {F : α → List β} (h : ∀ a ∈ l, F a = []) : l.flatMap F = [] := by
  rw [List.flatMap_eq_nil_iff]; exact h
/-- Six quick flashes and a long one are another pattern than seven quick ones. -/
theorem six_seven {co : ByteArray} {L : List Int} (hc : code co ≠ 0) (hL : 1 ≤ L.length) (hp : primB L) {k : Int} (hk : k = 6 ∨ k = 7) (h1 : fitC L (cand co L.length k [7] eB) = true) (h2 : fitC L (cand co L.length k [6] lB) = true) : False := by
  have f1 := fitC_iff.1 h1
  have f2 := fitC_iff.1 h2
  have s1 : steadyB (cand co L.length k [7] eB) = false := by rw [cand_steady]; rcases hk with rfl | rfl <;> decide
  have s2 : steadyB (cand co L.length k [6] lB) = false := by rw [cand_steady]; rcases hk with rfl | rfl <;> decide
  have p1 : (cand co L.length k [7] eB).p = L.length := by rw [cand, if_neg (by rintro (h | ⟨_, h⟩); omega; cases h)]
  have p2 : (cand co L.length k [6] lB).p = L.length := by rw [cand, if_neg (by rintro (h | ⟨_, h⟩); omega; cases h)]
  have l1 := f1.lit hL hp s1 p1
  have l2 := f2.lit hL hp s2 p2
  rw [ph_alt _ s1 (show k ≠ 3 by omega), ten_alt, litN_tenA (show code (cand co L.length k [7] eB).cs ≠ 0 from hc)] at l1
  rw [ph_alt _ s2 (show k ≠ 3 by omega), ten_alt, litN_tenA (show code (cand co L.length k [6] lB).cs ≠ 0 from hc)] at l2
  rw [l2] at l1
  have o1 : ocB (cand co L.length k [7] eB) = false := by rcases hk with rfl | rfl <;> rfl
  have o2 : ocB (cand co L.length k [6] lB) = false := by rcases hk with rfl | rfl <;> rfl
  rw [o1, o2] at l1
  have t1 : timesL (cand co L.length k [7] eB) = outerT k [7] 1 := by
    rw [timesL, if_neg (show ¬ (cand co L.length k [7] eB).k = 8 from show ¬ k = 8 by omega), show isL (cand co L.length k [7] eB).l = false from isL_e, if_neg (by simp), List.append_nil]; rfl
  have t2 : timesL (cand co L.length k [6] lB) = outerT k [6] 1 ++ [gapI k, 20] := by
    rw [timesL, if_neg (show ¬ (cand co L.length k [6] lB).k = 8 from show ¬ k = 8 by omega), show isL (cand co L.length k [6] lB).l = true from isL_l, if_pos rfl]; rfl
  rw [allT, allT, t1, t2] at l1
  rcases hk with rfl | rfl
  · revert l1
    generalize (cand co L.length 6 [6] lB).p - (outerT 6 [6] 1 ++ [gapI 6, 20]).sum = a
    generalize (cand co L.length 6 [7] eB).p - (outerT 6 [7] 1).sum = b
    rw [show outerT 6 [7] 1 = [5, 5, 5, 5, 5, 5, 5, 5, 5, 5, 5, 5, 5] by decide, show outerT 6 [6] 1 ++ [gapI 6, 20] = [5, 5, 5, 5, 5, 5, 5, 5, 5, 5, 5, 5, 20] by decide]
    simp [List.mapIdx_cons]
  · revert l1
    generalize (cand co L.length 7 [6] lB).p - (outerT 7 [6] 1 ++ [gapI 7, 20]).sum = a
    generalize (cand co L.length 7 [7] eB).p - (outerT 7 [7] 1).sum = b
    rw [show outerT 7 [7] 1 = [2, 3, 2, 3, 2, 3, 2, 3, 2, 3, 2, 3, 2] by decide, show outerT 7 [6] 1 ++ [gapI 7, 20] = [2, 3, 2, 3, 2, 3, 2, 3, 2, 3, 2, 3, 20] by decide]
    simp [List.mapIdx_cons]
theorem kind_same {co : ByteArray} {L : List Int} (hc : code co ≠ 0) (hL : 1 ≤ L.length) (hp : primB L) {k : Int} (hk : k ∈ kinds) :
    (candS co L.length (flashB L) k).filter (fitC L) = (candI co L.length k).filter (fitC L) := by
  by_cases h8 : k = 8
  · rw [candS, if_pos h8, candI, if_pos h8]
  rw [candS, if_neg h8, candI, if_neg h8, range5]
  by_cases h13 : k = 1 ∨ k = 3
  · rw [if_pos h13]
    have e0 : (grpI 0).flatMap (candG co L.length k) = [cand co L.length k [] eB] := by
      rw [grpI, List.flatMap_cons, List.flatMap_nil, candG_13 h13, if_pos rfl]; rfl
    have e1 : (List.range 4).flatMap (fun e => (grpI (e + 1)).flatMap (candG co L.length k)) = [] :=
      flat_nil fun e _ => flat_nil fun g hg => by rw [candG_13 h13, if_neg (grp_ne hg)]
    rw [e0, e1]; rfl
  have lhs : ∀ (a b : Ch) (c : List Int → Ch) (p : Ch → Bool), (a :: ((groupsS (flashB L)).map c ++ [b])).filter p = [a].filter p ++ ((List.range 4).flatMap (fun e => ((extL (e + 1) (flashB L) []).map c).filter p) ++ [b].filter p) := fun a b c p => by
    rw [← List.singleton_append, List.filter_append, List.filter_append, groupsS, List.map_flatMap, List.filter_flatMap]
  have rhs : ∀ (a : Ch) (H : Nat → List Ch) (p : Ch → Bool), ([a] ++ (List.range 4).flatMap H).filter p = [a].filter p ++ (List.range 4).flatMap fun e => (H e).filter p := fun a H p => by
    rw [List.filter_append, List.filter_flatMap]
  rw [if_neg h13, lhs]
  by_cases h2 : k = 2 ∨ k = 4 ∨ k = 5
  · have hk' : k = 2 ∨ k = 4 ∨ k = 5 ∨ k = 6 ∨ k = 7 := by omega
    have hl : fitC L (cand co L.length k [6] lB) = false := by
      cases hq : fitC L (cand co L.length k [6] lB)
      · rfl
      · have h30 := fit_fits hq
        have h3 : fitsB ⟨k, [6], lB, co, 0⟩ = true := h30
        simp only [fitsB] at h3
        rw [if_neg (by omega), if_pos h2, isE_l, Bool.false_and] at h3
        cases h3
    have e0 : (grpI 0).flatMap (candG co L.length k) = [cand co L.length k [] eB] := by
      rw [grpI, List.flatMap_cons, List.flatMap_nil, candG_ocs h2, if_pos (by decide)]; rfl
    have e1 : ∀ e, ((grpI (e + 1)).flatMap (candG co L.length k)).filter (fitC L) = ((extL (e + 1) (flashB L) []).map fun g => cand co L.length k g eB).filter (fitC L) := fun e => by
      rw [← groups_same hc hL hp hk' e, show (candG co (L.length : Int) k) = (fun g => if groupB g = true then [cand co L.length k g eB] else []) from funext (candG_ocs h2)]
      exact flat_filter _ _ _ _ fun g hg => (fit_group hk' hg).1
    rw [e0, rhs, show [cand co L.length k [6] lB].filter (fitC L) = [] by rw [List.filter_cons, hl]; rfl, List.append_nil]
    congr 1
    exact range_congr 4 fun e _ => (e1 e).symm
  · have h67 : k = 6 ∨ k = 7 := by
      simp only [kinds, List.mem_cons, List.not_mem_nil, or_false] at hk
      omega
    have hk' : k = 2 ∨ k = 4 ∨ k = 5 ∨ k = 6 ∨ k = 7 := by omega
    have e0 : (grpI 0).flatMap (candG co L.length k) = [cand co L.length k [] eB] := by
      rw [grpI, List.flatMap_cons, List.flatMap_nil, candG_67 h67, if_pos (by decide), if_neg (by simp)]; rfl
    have e2 : ∀ e, ((grpI (e + 2)).flatMap (candG co L.length k)) = [] := fun e => flat_nil fun g hg => by
      rw [grp_gen] at hg
      have hl := (gen_mem _ _ g hg).1
      simp only [List.length_nil, Nat.zero_add] at hl
      rw [candG_67 h67, decide_eq_false (by omega), if_neg (by simp), if_neg (by intro e0; rw [e0] at hl; simp at hl)]; rfl
    have f2 : ∀ e, ((extL (e + 2) (flashB L) []).map fun g => cand co L.length k g eB).filter (fitC L) = [] := fun e => by
      rw [List.filter_eq_nil_iff]
      intro x hx h
      obtain ⟨g, hg, rfl⟩ := List.mem_map.1 hx
      have h1 := (ext_sum _ _ _ g hg).2
      have h2 := (fit_group hk' h).2 h67
      simp at h1
      omega
    have e1 : ((grpI 1).flatMap (candG co L.length k)).filter (fitC L) = ((extL 1 (flashB L) []).map fun g => cand co L.length k g eB).filter (fitC L) ++ [cand co L.length k [6] lB].filter (fitC L) := by
      rw [← groups_same hc hL hp hk' 0]
      cases h6 : fitC L (cand co L.length k [6] lB)
      · rw [show (candG co (L.length : Int) k) = (fun g => (if (decide (g.length ≤ 1) && groupB g) = true then [cand co L.length k g eB] else []) ++ (if g = [6] then [cand co L.length k g lB] else [])) from funext (candG_67 h67)]
        rw [flat_app_nil (fun g _ => by
          split
          · rename_i hg6
            rw [hg6, List.filter_cons, h6]; rfl
          · rfl), flat_filter _ _ _ _ (fun g hg => by
          have h1 := fit_group hk' hg
          rw [h1.1, decide_eq_true (h1.2 h67)]; rfl), List.filter_cons, h6]
        simp
      · have hg1 : grpI 1 = [[1], [2], [3], [4], [5], [6], [7], [8], [9]] := by decide
        have hG : ∀ v : Int, (decide (([v] : List Int).length ≤ 1) && groupB [v]) = (inB v 1 9 && !decide (v = 1)) := fun v => by
          by_cases h1 : v = 1
          · subst h1; decide
          · have : groupB [v] = inB v 1 9 := by
              rw [Bool.eq_iff_iff]
              simp only [groupB, Bool.and_eq_true, decide_eq_true_eq, allB_iff]
              constructor
              · rintro ⟨a, _⟩
                have := a 0 (by simp)
                simpa [goodG] using this
              · intro h
                refine ⟨fun i hi => ?_, by simp, ?_, ?_⟩
                · obtain rfl : i = 0 := by simpa using hi
                  simpa [goodG] using h
                · have := inB_iff.1 h; simp; omega
                · simpa using h1
            rw [this]; simp [h1]
        have h1f : fitC L (cand co L.length k [1] eB) = false := by
          cases hq : fitC L (cand co L.length k [1] eB)
          · rfl
          · exact absurd (fit_group hk' hq).1 (by decide)
        rw [hg1]
        simp only [List.flatMap_cons, List.flatMap_nil, candG_67 h67, hG, List.map_cons, List.map_nil, List.filter_append, List.filter_cons, h1f]
        have hF := fit_flash hc hL hp hk' (g := [6]) (l := lB) (by simp) h6
        rw [isL_l] at hF
        simp at hF
        have hno : ∀ v : Int, v ≠ 7 → fitC L (cand co L.length k [v] eB) = false := fun v hv => by
          cases hq : fitC L (cand co L.length k [v] eB)
          · rfl
          · have h3 := fit_flash hc hL hp hk' (g := [v]) (l := eB) (by simp) hq
            rw [isL_e] at h3
            simp at h3
            omega
        have h7 : fitC L (cand co L.length k [7] eB) = false := by
          cases hq : fitC L (cand co L.length k [7] eB)
          · rfl
          · exact (six_seven hc hL hp h67 hq h6).elim
        simp [inB, h6, h7, hno 2 (by decide), hno 3 (by decide), hno 4 (by decide), hno 5 (by decide), hno 6 (by decide), hno 8 (by decide), hno 9 (by decide)]
    have eR : ∀ {α : Type} (F : Nat → List α), (List.range 4).flatMap F = F 0 ++ (List.range 3).flatMap fun e => F (e + 1) := fun F => by simp [List.range_succ]
    rw [e0, rhs, eR, eR]
    congr 1
    rw [show (List.range 3).flatMap (fun e => ((extL (e + 1 + 1) (flashB L) []).map fun g => cand co L.length k g eB).filter (fitC L)) = [] from flat_nil fun e _ => f2 e, show (List.range 3).flatMap (fun e => ((grpI (e + 1 + 1)).flatMap (candG co L.length k)).filter (fitC L)) = [] from flat_nil fun e _ => by rw [e2 e]; rfl, List.append_nil, List.append_nil]
    exact e1.symm
theorem rec_same {co : ByteArray} {L : List Int} (hc : code co ≠ 0) (hL : 1 ≤ L.length) (hp : primB L) : recS co L.length (flashB L) L = recI co L.length L := by
  rw [recS, recI, ← List.head?_filter, ← List.head?_filter, List.filter_flatMap, List.filter_flatMap]
  congr 1
  have key : ∀ ks : List Int, (∀ k ∈ ks, k ∈ kinds) → (ks.flatMap fun k => (candS co L.length (flashB L) k).filter (fitC L)) = ks.flatMap fun k => (candI co L.length k).filter (fitC L) := by
    intro ks
    induction ks with
    | nil => intro _; rfl
    | cons k ks ih =>
      intro h
      rw [List.flatMap_cons, List.flatMap_cons, kind_same hc hL hp (h k List.mem_cons_self), ih fun j hj => h j (List.mem_cons_of_mem _ hj)]
  exact key kinds fun k hk => hk
end Go.Proofs.Ytgibbhipjpbdfaa

/- Recognition of a turned pattern: plain facts. -/
namespace Go.Proofs.Ytgibbhipjpbdfaa
theorem once_rot {B : List Int} (h : 1 ≤ B.length) {t : Nat} (ht : t < B.length) : normB (onceB (rotB B t)) = normB (onceB B) := by
  have hol := once_len h
  have hr := once_rep h
  refine (rep_norm (by rw [rot_len]; exact h) hol.1 (once_prim h)).1 ⟨t % (onceB B).length, Nat.mod_lt _ hol.1, hol.1, ?_, fun i hi => ?_⟩
  · rw [rot_len]; exact hr.dvd
  · rw [rot_len] at hi
    rw [rot_at ht hi, hr.at' _ (Nat.mod_lt _ h), Nat.add_zero, mod_dvd hr.dvd, Nat.add_mod_mod, Nat.add_comm]
theorem once_rot_len {B : List Int} (h : 1 ≤ B.length) {t : Nat} (ht : t < B.length) : (onceB (rotB B t)).length = (onceB B).length := by
  rw [← norm_len (onceB (rotB B t)), once_rot h ht, norm_len]
theorem fitC_congr {L L' : List Int} (h : normB L = normB L') (x : Ch) : fitC L x = fitC L' x := by rw [fitC, fitC, h]
theorem recI_congr {L L' : List Int} (h : normB L = normB L') (co : ByteArray) (n : Int) : recI co n L = recI co n L' := by
  rw [recI, recI, show fitC L = fitC L' from funext (fitC_congr h)]
/-- A list that ends with a run of e longer than any other run of e, and does not begin with e, is its own period. -/
theorem cyc_no {B : List Int} {n R : Nat} {e : Int} (hc : cycB B n = true) (h1 : 1 ≤ n) (hn : n < B.length) (hR : R ≤ B.length) (hl : ∀ j, j < R → B[B.length - R + j]? = some e) (h0 : B[0]? ≠ some e) (hw : ∀ i, i + R < B.length → ∃ j, j < R ∧ B[i + j]? ≠ some e) : False := by
  have hcy := cyc_iff.1 hc
  by_cases hk : R ≤ B.length - n
  · obtain ⟨j, hj, hne⟩ := hw (B.length - n - R) (by omega)
    apply hne
    have h2 := hcy (B.length - n - R + j) (by omega)
    rw [h2, show B.length - n - R + j + n = B.length - R + j by omega, Nat.mod_eq_of_lt (by omega)]
    exact hl j hj
  · apply h0
    have h2 := hcy 0 (by omega)
    rw [h2, Nat.zero_add, Nat.mod_eq_of_lt hn, show n = B.length - R + (n - (B.length - R)) by omega]
    exact hl _ (by omega)
theorem prim_run {B : List Int} {R : Nat} {e : Int} (h : 1 ≤ B.length) (hR : R ≤ B.length) (hl : ∀ j, j < R → B[B.length - R + j]? = some e) (h0 : B[0]? ≠ some e) (hw : ∀ i, i + R < B.length → ∃ j, j < R ∧ B[i + j]? ≠ some e) : primB B := by
  have hp := per_is h
  rcases Nat.lt_or_ge (perN B) B.length with h1 | h1
  · exact (cyc_no hp.cyc hp.lo h1 hR hl h0 hw).elim
  · exact Nat.le_antisymm hp.hi h1
end Go.Proofs.Ytgibbhipjpbdfaa

/- Recognition: where a long run can lie among tenths that alternate. Plain. -/
namespace Go.Proofs.Ytgibbhipjpbdfaa
/-- Pairs of phases; the second of the last pair is R, and longer than the other seconds. -/
def pairsOk (R : Nat) : List Int → Prop
  | [] => False
  | [_] => False
  | a :: b :: [] => 1 ≤ a ∧ b = (R : Int)
  | a :: b :: r => 1 ≤ a ∧ b < (R : Int) ∧ pairsOk R r
theorem rep_get {n i : Nat} {x : Int} (h : i < n) (B : List Int) : (List.replicate n x ++ B)[i]? = some x := by
  rw [List.getElem?_append_left (by rw [List.length_replicate]; exact h), List.getElem?_replicate, if_pos h]
theorem rep_skip {n i : Nat} {x : Int} (h : n ≤ i) (B : List Int) : (List.replicate n x ++ B)[i]? = B[i - n]? := by
  rw [List.getElem?_append_right (by rw [List.length_replicate]; exact h), List.length_replicate]
theorem pairs_head {c : Int} {l : Bool} {R : Nat} : ∀ {T : List Int}, pairsOk R T → (tenA c l T)[0]? = some (bif l then c else 0)
  | [], h => h.elim
  | [_], h => h.elim
  | [a, b], h => by rw [tenA]; exact rep_get (by have := h.1; omega) _
  | a :: b :: d :: r, h => by rw [tenA]; exact rep_get (by have := h.1; omega) _
theorem win {c : Int} (hc : c ≠ 0) {l : Bool} {R : Nat} (hR : 1 ≤ R) : ∀ {T : List Int}, pairsOk R T → ∀ i, i + R < (tenA c l T).length → ∃ j, j < R ∧ (tenA c l T)[i + j]? ≠ some (bif l then 0 else c)
  | [], h, _, _ => h.elim
  | [_], h, _, _ => h.elim
  | [a, b], h, i, hi => by
    obtain ⟨h1, rfl⟩ := h
    have hd : (bif l then c else 0) ≠ (bif l then 0 else c) := by cases l <;> simp [hc, Ne.symm hc]
    simp only [tenA, List.length_append, List.length_replicate, List.length_nil, Int.toNat_natCast] at hi
    refine ⟨0, hR, ?_⟩
    rw [Nat.add_zero, tenA, rep_get (by omega)]
    intro e; exact hd (Option.some.inj e)
  | a :: b :: d :: r, h, i, hi => by
    obtain ⟨h1, h2, h3⟩ := h
    have hd : (bif l then c else 0) ≠ (bif l then 0 else c) := by cases l <;> simp [hc, Ne.symm hc]
    rw [tenA, tenA, Bool.not_not] at hi ⊢
    rw [List.length_append, List.length_append, List.length_replicate, List.length_replicate] at hi
    by_cases ha : i < a.toNat
    · refine ⟨0, hR, ?_⟩
      rw [Nat.add_zero, rep_get ha]
      intro e; exact hd (Option.some.inj e)
    by_cases hb : i < a.toNat + b.toNat
    · refine ⟨a.toNat + b.toNat - i, by omega, ?_⟩
      rw [rep_skip (by omega), rep_skip (by omega), show i + (a.toNat + b.toNat - i) - a.toNat - b.toNat = 0 by omega, pairs_head h3]
      intro e; exact hd (Option.some.inj e)
    · obtain ⟨j, hj, hne⟩ := win (l := l) hc hR h3 (i - a.toNat - b.toNat) (by omega)
      refine ⟨j, hj, ?_⟩
      rw [rep_skip (by omega), rep_skip (by omega), show i + j - a.toNat - b.toNat = i - a.toNat - b.toNat + j by omega]
      exact hne
end Go.Proofs.Ytgibbhipjpbdfaa
