/- What is seen of a valid character from a lit phase on is an observation. Plain facts, no program. -/
import Derived.Test.YtejndpoebohhaaaGreatChStart
namespace Go.Proofs.YtejndpoebohhaaaGreat
open Go.RowKit
theorem gapI_pos (k : Int) : 3 ≤ gapI k := by unfold gapI; (repeat' split) <;> omega
theorem flashI_pos (k : Int) : 2 ≤ flashI k := by unfold flashI; (repeat' split) <;> omega
theorem times_pos {c : Ch} : ∀ y ∈ timesL c, 1 ≤ y := by
  have hg := gapI_pos c.k
  have hf := flashI_pos c.k
  unfold timesL
  split
  · rename_i h8
    intro y hy
    simp only [mT, List.mem_flatMap, List.mem_range] at hy
    obtain ⟨i, _, hy⟩ := hy
    rcases List.mem_append.1 hy with h | h
    · split at h <;> simp at h; omega
    · simp only [List.mem_singleton] at h; subst h; unfold signI; split <;> omega
  · intro y hy
    rcases List.mem_append.1 hy with h | h
    · simp only [outerT, innerT, List.mem_flatMap] at h
      obtain ⟨i, _, j, _, h⟩ := h
      unfold stepT at h
      rcases List.mem_append.1 h with h | h
      · split at h
        · simp at h; omega
        · split at h <;> simp at h; omega
      · simp at h; omega
    · split at h <;> simp at h
      rcases h with h | h <;> omega
theorem valid_iso {x : Ch} (h : validB x = true) (h3 : x.k = 3) : 20 ≤ x.p := by
  have hs : steadyB x = false := by simp [steadyB, h3]
  simp only [validB, Bool.and_eq_true] at h
  have h2 := h.2
  rw [if_neg (by rw [hs]; simp)] at h2
  simp only [Bool.and_eq_true] at h2
  have h4 := inB_iff.1 h2.1
  rw [leastI, if_neg (by rw [hs]; simp), if_pos h3] at h4
  omega
theorem phases_pos {x : Ch} {co : ByteArray} (h : validB x = true) : ∀ p ∈ phasesL x co, 1 ≤ p.len ∧ p.len ≤ 600 := by
  intro p hp
  have hb := phases_bd h p hp
  have hg := gapI_pos x.k
  refine ⟨?_, hb.2⟩
  unfold phasesL at hp
  split at hp
  · simp at hp; subst hp; simp
  split at hp
  · have := valid_iso h (by assumption)
    simp at hp; rcases hp with rfl | rfl <;> simp <;> omega
  · simp only [altL, List.mem_mapIdx] at hp
    obtain ⟨i, hi, rfl⟩ := hp
    simp only [altP]
    have hmem : (timesL x ++ [if steadyB x = true then gapI x.k else x.p - (timesL x).sum])[i] ∈ timesL x ++ [if steadyB x = true then gapI x.k else x.p - (timesL x).sum] := List.getElem_mem _
    generalize (timesL x ++ [if steadyB x = true then gapI x.k else x.p - (timesL x).sum])[i] = t at *
    rcases List.mem_append.1 hmem with h1 | h1
    · exact times_pos t h1
    · simp only [List.mem_singleton] at h1
      subst h1
      cases hst : steadyB x
      · have := valid_sum h hst (by assumption)
        simp; omega
      · simp; omega
theorem phases_col {x : Ch} {co : ByteArray} {j : Nat} {p : Ph} (h : (phasesL x co)[j]? = some p) : p.c = bif litAt (ocB x) j then co else ⟨#[]⟩ := by
  unfold phasesL at h
  split at h
  · rename_i h1
    have : ocB x = false := by simp [ocB, h1]
    rcases j with _ | j
    · simp at h; subst h; simp [litAt, this]
    · simp at h
  split at h
  · rename_i h1 h3
    have : ocB x = false := by simp [ocB, h3]
    rcases j with _ | _ | j
    · simp at h; subst h; simp [litAt, this]
    · simp at h; subst h; simp [litAt, this]
    · simp at h
  · simp only [altL, List.getElem?_mapIdx, Option.map_eq_some_iff] at h
    obtain ⟨t, _, rfl⟩ := h
    rfl
theorem phases_even {x : Ch} {co : ByteArray} (h : validB x = true) (h1 : x.k ≠ 1) : (phasesL x co).length % 2 = 0 := by
  have ht := times_odd (shape_TOk (valid_shape h))
  unfold phasesL
  rw [if_neg h1]
  split
  · simp
  · rw [altL_len, List.length_append]; simp; omega
theorem emp_E : (⟨#[]⟩ : ByteArray).toList = [] := (toList_nil ⟨#[]⟩).2 rfl
theorem start_at {x : Ch} {co : ByteArray} {start : Int} (hco : co.toList.isEmpty = false) : startB (phasesL x co) start = (decide (0 ≤ start) && (decide (start.toNat < (phasesL x co).length) && litAt (ocB x) start.toNat)) := by
  unfold startB
  cases hp : (phasesL x co)[start.toNat]? with
  | none =>
    rw [List.getElem?_eq_none_iff] at hp
    rw [decide_eq_false (show ¬ start.toNat < (phasesL x co).length by omega)]; simp
  | some p =>
    have h1 := phases_col hp
    have h2 := (List.getElem?_eq_some_iff.1 hp).1
    dsimp only
    rw [decide_eq_true h2, h1]
    cases litAt (ocB x) start.toNat
    · simp
    · simp [hco]
/-- The colour of what is seen, phase by phase. -/
theorem see_col {x : Ch} {co : ByteArray} {start : Int} (hv : validB x = true) (hco : co.toList.isEmpty = false) (hs : startB (phasesL x co) start = true) {n i : Nat} {p : Ph} (hn : x.k = 1 → n = 1) (h : (seeL (phasesL x co) start n)[i]? = some p) :
    p.c = bif decide (i % 2 = 1) then ⟨#[]⟩ else co := by
  have hN := phases_len (co := co) (valid_shape hv)
  rw [start_at hco] at hs
  simp only [Bool.and_eq_true, decide_eq_true_eq] at hs
  obtain ⟨h0, h1, h2⟩ := hs
  have hin : i < n := by have := (List.getElem?_eq_some_iff.1 h).1; rw [seeL_len] at this; exact this
  simp only [seeL, List.getElem?_map, Option.map_eq_some_iff, List.getElem?_range hin] at h
  obtain ⟨j, hj, rfl⟩ := h
  injection hj with hj
  subst hj
  rw [seeAt, List.getD_eq_getElem?_getD]
  have hlt : ((start + (i : Int)) % ((phasesL x co).length : Int)).toNat < (phasesL x co).length := by
    have := Int.emod_lt_of_pos (start + (i : Int)) (show (0 : Int) < ((phasesL x co).length : Int) by omega)
    have := Int.emod_nonneg (start + (i : Int)) (show ((phasesL x co).length : Int) ≠ 0 by omega)
    omega
  have hg := List.getElem?_eq_getElem hlt
  rw [hg, Option.getD_some, phases_col hg]
  by_cases hk : x.k = 1
  · obtain rfl : i = 0 := by have := hn hk; omega
    have : (phasesL x co).length = 1 := by rw [phasesL, if_pos hk]; rfl
    rw [this]
    have : ocB x = false := by simp [ocB, hk]
    simp [litAt, this]
  · have he := phases_even (co := co) hv hk
    obtain ⟨N, hNN⟩ : ∃ N, (phasesL x co).length = N := ⟨_, rfl⟩
    rw [hNN] at he h1 hlt ⊢
    obtain ⟨s, rfl⟩ : ∃ s : Nat, start = s := ⟨start.toNat, by omega⟩
    simp only [Int.toNat_natCast] at h1 h2
    have e1 : (((s : Int) + (i : Int)) % (N : Int)).toNat = (s + i) % N := by
      rw [← Int.natCast_add, ← Int.natCast_emod, Int.toNat_natCast]
    rw [e1]
    have e2 : (s + i) % N % 2 = (s + i) % 2 := Nat.mod_mod_of_dvd _ (by omega)
    unfold litAt at h2 ⊢
    rw [e2]
    cases hoc : ocB x <;> rw [hoc] at h2 <;> simp at h2 ⊢
    all_goals
      by_cases hi : i % 2 = 1
      · rw [decide_eq_true hi]
        first
        | (rw [decide_eq_false (by omega)]; done)
        | (rw [decide_eq_false (by omega)]; rfl)
        | (rw [decide_eq_true (by omega)]; done)
        | (rw [decide_eq_true (by omega)]; rfl)
      · rw [decide_eq_false hi]
        first
        | (rw [decide_eq_true (by omega)]; done)
        | (rw [decide_eq_true (by omega)]; rfl)
        | (rw [decide_eq_false (by omega)]; done)
        | (rw [decide_eq_false (by omega)]; rfl)
theorem see_len {x : Ch} {co : ByteArray} {start : Int} (hv : validB x = true) {n i : Nat} {p : Ph} (h : (seeL (phasesL x co) start n)[i]? = some p) : 1 ≤ p.len ∧ p.len ≤ 600 := by
  have hN := phases_len (co := co) (valid_shape hv)
  have hin : i < n := by have := (List.getElem?_eq_some_iff.1 h).1; rw [seeL_len] at this; exact this
  simp only [seeL, List.getElem?_map, Option.map_eq_some_iff, List.getElem?_range hin] at h
  obtain ⟨j, hj, rfl⟩ := h
  rw [seeAt, List.getD_eq_getElem?_getD]
  have hlt : ((start + (j : Int)) % ((phasesL x co).length : Int)).toNat < (phasesL x co).length := by
    have := Int.emod_lt_of_pos (start + (j : Int)) (show (0 : Int) < ((phasesL x co).length : Int) by omega)
    have := Int.emod_nonneg (start + (j : Int)) (show ((phasesL x co).length : Int) ≠ 0 by omega)
    omega
  have hg := List.getElem?_eq_getElem hlt
  rw [hg, Option.getD_some]
  exact phases_pos hv _ (List.getElem_mem _)
theorem see_hc {x : Ch} {co : ByteArray} {start : Int} (hv : validB x = true) (hco : co.toList.isEmpty = false) (hs : startB (phasesL x co) start = true) {n : Nat} (hn : x.k = 1 → n = 1) (h1 : 1 ≤ n) : hcO (seeL (phasesL x co) start n) = co := by
  have hl := seeL_len (phasesL x co) start n
  have hg : (seeL (phasesL x co) start n)[0]? = some ((seeL (phasesL x co) start n)[0]'(by omega)) := List.getElem?_eq_getElem _
  rw [hcO_at hg, see_col hv hco hs hn hg]
  rfl
theorem see_obs {x : Ch} {co : ByteArray} {start : Int} (hv : validB x = true) (hco : colB co = true) (hs : startB (phasesL x co) start = true) {n : Nat} (hn : x.k = 1 → n = 1) (h1 : 1 ≤ n) (h2 : n ≤ 24) : obsB (seeL (phasesL x co) start n) = true := by
  have hE := colB_E2 hco
  have hc := see_hc hv hE hs hn h1
  rw [obsB_i, hc, hco, seeL_len]
  have h3 : inB n 1 24 = true := inB_iff.2 ⟨by omega, by omega⟩
  rw [h3]
  simp only [Bool.and_true, allB_iff]
  intro i hi
  have hg : (seeL (phasesL x co) start n)[i]? = some ((seeL (phasesL x co) start n)[i]'(by rw [seeL_len]; exact hi)) := List.getElem?_eq_getElem _
  have h4 := see_len hv hg
  rw [iOk_at hg, see_col hv hE hs hn hg, hc, inB_iff.2 ⟨h4.1, by omega⟩]
  by_cases ho : i % 2 = 1
  · rw [decide_eq_true ho]; simp
  · rw [decide_eq_false ho]; simp
end Go.Proofs.YtejndpoebohhaaaGreat
