
/- Phases as tenths of seconds, in plain Lean, and rounded quotients. -/
import Derived.Test.YtgibbhipjpbdfaaGreatChLit
namespace Go.Proofs.YtgibbhipjpbdfaaGreat
open Go.RowKit
def tenL (ps : List Ph) : List ByteArray := ps.flatMap fun p => List.replicate p.len.toNat p.c
def totI (ps : List Ph) : Int := (ps.map fun p => p.len).sum
def litC (xs : List ByteArray) : Int := (xs.map fun s => bif s.toList.isEmpty then 0 else 1).sum
theorem tenL_next {ps : List Ph} {k : Nat} {p : Ph} (h : ps[k]? = some p) : tenL (ps.take (k + 1)) = tenL (ps.take k) ++ List.replicate p.len.toNat p.c := by
  simp [tenL, List.take_add_one, h]
theorem totI_next {ps : List Ph} {k : Nat} {p : Ph} (h : ps[k]? = some p) : totI (ps.take (k + 1)) = totI (ps.take k) + p.len := by
  simp [totI, List.take_add_one, h]
theorem tenL_len : ∀ {ps : List Ph}, (∀ p ∈ ps, 0 ≤ p.len ∧ p.len ≤ 600) → ((tenL ps).length : Int) = totI ps
  | [], _ => by simp [tenL, totI]
  | p :: ps, h => by
    have h1 := tenL_len (ps := ps) fun q hq => h q (List.mem_cons_of_mem _ hq)
    have h2 := h p List.mem_cons_self
    simp only [tenL, totI, List.flatMap_cons, List.length_append, List.length_replicate, List.map_cons, List.sum_cons] at h1 ⊢
    omega
theorem tot_bd : ∀ {ps : List Ph}, (∀ p ∈ ps, 0 ≤ p.len ∧ p.len ≤ 600) → 0 ≤ totI ps ∧ totI ps ≤ 600 * ps.length
  | [], _ => by simp [totI]
  | p :: ps, h => by
    have h1 := tot_bd (ps := ps) fun q hq => h q (List.mem_cons_of_mem _ hq)
    have h2 := h p List.mem_cons_self
    simp only [totI, List.map_cons, List.sum_cons, List.length_cons] at h1 ⊢
    omega
theorem litC_rep (s : ByteArray) (m : Nat) : litC (List.replicate m s) = bif s.toList.isEmpty then 0 else (m : Int) := by
  induction m with
  | zero => simp [litC]
  | succ m ih =>
    have : litC (List.replicate (m + 1) s) = (bif s.toList.isEmpty then 0 else 1) + litC (List.replicate m s) := by simp [litC, List.replicate_succ]
    rw [this, ih]
    cases s.toList.isEmpty <;> simp <;> omega
theorem litC_app (a b : List ByteArray) : litC (a ++ b) = litC a + litC b := by simp [litC]
theorem litC_ten : ∀ {ps : List Ph}, (∀ p ∈ ps, 0 ≤ p.len ∧ p.len ≤ 600) → litC (tenL ps) = litI ps
  | [], _ => by simp [litC, tenL, litI]
  | p :: ps, h => by
    have h1 := litC_ten (ps := ps) fun q hq => h q (List.mem_cons_of_mem _ hq)
    have h2 := h p List.mem_cons_self
    have e : tenL (p :: ps) = List.replicate p.len.toNat p.c ++ tenL ps := by simp [tenL]
    have e2 : litI (p :: ps) = (bif p.c.toList.isEmpty then 0 else p.len) + litI ps := by simp [litI]
    rw [e, litC_app, litC_rep, h1, e2]
    cases p.c.toList.isEmpty <;> simp <;> omega
theorem litC_next {xs : List ByteArray} {k : Nat} {s : ByteArray} (h : xs[k]? = some s) : litC (xs.take (k + 1)) = litC (xs.take k) + bif s.toList.isEmpty then 0 else 1 := by
  simp [litC, List.take_add_one, h]
theorem litC_bd (xs : List ByteArray) : 0 ≤ litC xs ∧ litC xs ≤ xs.length := by
  induction xs with
  | nil => simp [litC]
  | cons s xs ih =>
    have e : litC (s :: xs) = (bif s.toList.isEmpty then 0 else 1) + litC xs := by simp [litC]
    rw [e, List.length_cons]
    cases s.toList.isEmpty <;> simp <;> omega
theorem totI_co (x : Ch) (co co' : ByteArray) : totI (phasesL x co) = totI (phasesL x co') := by
  simp only [totI]
  congr 1
  unfold phasesL
  split
  · rfl
  split
  · rfl
  · apply List.ext_getElem?
    intro i
    simp only [altL, List.getElem?_map, List.getElem?_mapIdx]
    cases (timesL x ++ [if steadyB x = true then gapI x.k else x.p - (timesL x).sum])[i]? <;> simp [altP]
theorem tot_alt (co : ByteArray) (oc : Bool) (ts : List Int) : totI (altL co oc ts) = ts.sum := by
  have : (altL co oc ts).map (fun p => p.len) = ts := by
    apply List.ext_getElem?
    intro i
    simp only [altL, List.getElem?_map, List.getElem?_mapIdx]
    cases ts[i]? <;> simp [altP]
  rw [totI, this]
theorem sum_nn : ∀ {l : List Int}, (∀ y ∈ l, 0 ≤ y ∧ y ≤ 40) → 0 ≤ l.sum
  | [], _ => by simp
  | a :: l, h => by
    have h1 := h a (by simp)
    have h2 := sum_nn (l := l) fun y hy => h y (by simp [hy])
    rw [List.sum_cons]; omega
theorem tot_pos {x : Ch} (h : validB x = true) (co : ByteArray) : 10 ≤ totI (phasesL x co) ∨ steadyB x = true ∧ 0 < totI (phasesL x co) := by
  by_cases h1 : x.k = 1
  · left; rw [phasesL, if_pos h1]; simp [totI]
  cases hst : steadyB x
  · left
    by_cases h3 : x.k = 3
    · rw [phasesL, if_neg h1, if_pos h3]
      have hl : leastI x = 20 := by rw [leastI, if_neg (by rw [hst]; simp), if_pos h3]
      simp only [validB, Bool.and_eq_true] at h
      have h2 := h.2
      rw [if_neg (by rw [hst]; simp)] at h2
      simp only [Bool.and_eq_true] at h2
      have := inB_iff.1 h2.1
      simp [totI]; omega
    · have hs := valid_sum h hst h3
      have hn := sum_nn (times_bd (shape_TOk (valid_shape h))).2
      rw [phasesL, if_neg h1, if_neg h3, tot_alt, List.sum_append, if_neg (by rw [hst]; simp)]
      simp; omega
  · right
    refine ⟨rfl, ?_⟩
    rw [phases_steady h hst h1]
    have := flashI_bd x.k
    have := gapI_bd x.k
    simp [totI]; omega
/-- The nearest quotient, of numbers from 0 on. -/
def rdiv (a b : Int) : Int := (2 * a + b) / (2 * b)
theorem rdiv_eq {a b : Int} (_ha : 0 ≤ a) (hb : 0 < b) : rdiv a b = a / b + if b - a % b ≤ a % b then 1 else 0 := by
  have h1 := Int.emod_nonneg a (show b ≠ 0 by omega)
  have h2 := Int.emod_lt_of_pos a hb
  have h3 := Int.mul_ediv_add_emod a b
  unfold rdiv
  generalize a / b = q at *
  generalize a % b = r at *
  have e : 2 * a + b = (2 * r + b) + 2 * b * q := by rw [← h3]; grind
  rw [e, Int.add_mul_ediv_left _ _ (by omega)]
  split
  · have : (2 * r + b) / (2 * b) = 1 := by
      apply Int.le_antisymm
      · exact Int.lt_add_one_iff.1 (Int.ediv_lt_of_lt_mul (by omega) (by omega))
      · exact (Int.le_ediv_iff_mul_le (by omega)).2 (by omega)
    omega
  · have : (2 * r + b) / (2 * b) = 0 := Int.ediv_eq_zero_of_lt (by omega) (by omega)
    omega
theorem rdiv_bd {a b : Int} (ha : 0 ≤ a) (hb : 0 < b) : 0 ≤ rdiv a b ∧ rdiv a b ≤ a := by
  have h0 : 0 ≤ rdiv a b := Int.ediv_nonneg (by omega) (by omega)
  refine ⟨h0, ?_⟩
  unfold rdiv
  apply Int.lt_add_one_iff.1
  apply Int.ediv_lt_of_lt_mul (by omega)
  have : a * 1 ≤ a * b := Int.mul_le_mul_of_nonneg_left (by omega) ha
  have e : (a + 1) * (2 * b) = 2 * (a * b) + 2 * b := by grind
  rw [e]; omega
def shareI (x : Ch) : Int := rdiv (1000000 * litI (phasesL x ⟨#[87]⟩)) (totI (phasesL x ⟨#[87]⟩))
end Go.Proofs.YtgibbhipjpbdfaaGreat
