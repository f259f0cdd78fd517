/- LtG: several of my texts in one. -/
import Derived.Test.YtgfplmfdgbklkaaChStart
import Derived.Test.YtgfplmfdgbklkaaLtCert
/- What is seen of a valid character from a lit phase on is an observation. Plain facts, no program. -/
namespace Go.Proofs.Ytgfplmfdgbklkaa
open Go.RowKit
theorem gapI_pos (k : Int) : 3 ≤ gapI k := by unfold gapI; (repeat' split) <;> omega
theorem flashI_pos (k : Int) : 2 ≤ flashI k := by unfold flashI; (repeat' split) <;> omega
theorem times_pos {c : Ch} : ∀ y ∈ timesL c, 1 ≤ y := by
  have hg := gapI_pos c.k
  have hf := flashI_pos c.k
  unfold timesL
  split
  · rename_i h8
    intro y hy
    simp only [mT, List.mem_flatMap, List.mem_range] at hy
    obtain ⟨i, _, hy⟩ := hy
    rcases List.mem_append.1 hy with h | h
    · split at h <;> simp at h; omega
    · simp only [List.mem_singleton] at h; subst h; unfold signI; split <;> omega
  · intro y hy
    rcases List.mem_append.1 hy with h | h
    · simp only [outerT, innerT, List.mem_flatMap] at h
      obtain ⟨i, _, j, _, h⟩ := h
      unfold stepT at h
      rcases List.mem_append.1 h with h | h
      · split at h
        · simp at h; omega
        · split at h <;> simp at h; omega
      · simp at h; omega
    · split at h <;> simp at h
      rcases h with h | h <;> omega
theorem valid_iso {x : Ch} (h : validB x = true) (h3 : x.k = 3) : 20 ≤ x.p := by
  have hs : steadyB x = false := by simp [steadyB, h3]
  simp only [validB, Bool.and_eq_true] at h
  have h2 := h.2
  rw [if_neg (by rw [hs]; simp)] at h2
  simp only [Bool.and_eq_true] at h2
  have h4 := inB_iff.1 h2.1
  rw [leastI, if_neg (by rw [hs]; simp), if_pos h3] at h4
  omega
theorem phases_pos {x : Ch} {co : ByteArray} (h : validB x = true) : ∀ p ∈ phasesL x co, 1 ≤ p.len ∧ p.len ≤ 600 := by
  intro p hp
  have hb := phases_bd h p hp
  have hg := gapI_pos x.k
  refine ⟨?_, hb.2⟩
  unfold phasesL at hp
  split at hp
  · simp at hp; subst hp; simp
  split at hp
  · have := valid_iso h (by assumption)
    simp at hp; rcases hp with rfl | rfl <;> simp <;> omega
  · simp only [altL, List.mem_mapIdx] at hp
    obtain ⟨i, hi, rfl⟩ := hp
    simp only [altP]
    have hmem : (timesL x ++ [if steadyB x = true then gapI x.k else x.p - (timesL x).sum])[i] ∈ timesL x ++ [if steadyB x = true then gapI x.k else x.p - (timesL x).sum] := List.getElem_mem _
    generalize (timesL x ++ [if steadyB x = true then gapI x.k else x.p - (timesL x).sum])[i] = t at *
    rcases List.mem_append.1 hmem with h1 | h1
    · exact times_pos t h1
    · simp only [List.mem_singleton] at h1
      subst h1
      cases hst : steadyB x
      · have := valid_sum h hst (by assumption)
        simp; omega
      · simp; omega
theorem phases_col {x : Ch} {co : ByteArray} {j : Nat} {p : Ph} (h : (phasesL x co)[j]? = some p) : p.c = bif litAt (ocB x) j then co else ⟨#[]⟩ := by
  unfold phasesL at h
  split at h
  · rename_i h1
    have : ocB x = false := by simp [ocB, h1]
    rcases j with _ | j
    · simp at h; subst h; simp [litAt, this]
    · simp at h
  split at h
  · rename_i h1 h3
    have : ocB x = false := by simp [ocB, h3]
    rcases j with _ | _ | j
    · simp at h; subst h; simp [litAt, this]
    · simp at h; subst h; simp [litAt, this]
    · simp at h
  · simp only [altL, List.getElem?_mapIdx, Option.map_eq_some_iff] at h
    obtain ⟨t, _, rfl⟩ := h
    rfl
theorem phases_even {x : Ch} {co : ByteArray} (h : validB x = true) (h1 : x.k ≠ 1) : (phasesL x co).length % 2 = 0 := by
  have ht := times_odd (shape_TOk (valid_shape h))
  unfold phasesL
  rw [if_neg h1]
  split
  · simp
  · rw [altL_len, List.length_append]; simp; omega
theorem emp_E : (⟨#[]⟩ : ByteArray).toList = [] := (toList_nil ⟨#[]⟩).2 rfl
theorem start_at {x : Ch} {co : ByteArray} {start : Int} (hco : co.toList.isEmpty = false) : startB (phasesL x co) start = (decide (0 ≤ start) && (decide (start.toNat < (phasesL x co).length) && litAt (ocB x) start.toNat)) := by
  unfold startB
  cases hp : (phasesL x co)[start.toNat]? with
  | none =>
    rw [List.getElem?_eq_none_iff] at hp
    rw [decide_eq_false (show ¬ start.toNat < (phasesL x co).length by omega)]; simp
  | some p =>
    have h1 := phases_col hp
    have h2 := (List.getElem?_eq_some_iff.1 hp).1
    dsimp only
    rw [decide_eq_true h2, h1]
    cases litAt (ocB x) start.toNat
    · simp
    · simp [hco]
/-- The colour of what is seen, phase by phase. -/
theorem see_col {x : Ch} {co : ByteArray} {start : Int} (hv : validB x = true) (hco : co.toList.isEmpty = false) (hs : startB (phasesL x co) start = true) {n i : Nat} {p : Ph} (hn : x.k = 1 → n = 1) (h : (seeL (phasesL x co) start n)[i]? = some p) :
    p.c = bif decide (i % 2 = 1) then ⟨#[]⟩ else co := by
  have hN := phases_len (co := co) (valid_shape hv)
  rw [start_at hco] at hs
  simp only [Bool.and_eq_true, decide_eq_true_eq] at hs
  obtain ⟨h0, h1, h2⟩ := hs
  have hin : i < n := by have := (List.getElem?_eq_some_iff.1 h).1; rw [seeL_len] at this; exact this
  simp only [seeL, List.getElem?_map, Option.map_eq_some_iff, List.getElem?_range hin] at h
  obtain ⟨j, hj, rfl⟩ := h
  injection hj with hj
  subst hj
  rw [seeAt, List.getD_eq_getElem?_getD]
  have hlt : ((start + (i : Int)) % ((phasesL x co).length : Int)).toNat < (phasesL x co).length := by
    have := Int.emod_lt_of_pos (start + (i : Int)) (show (0 : Int) < ((phasesL x co).length : Int) by omega)
    have := Int.emod_nonneg (start + (i : Int)) (show ((phasesL x co).length : Int) ≠ 0 by omega)
    omega
  have hg := List.getElem?_eq_getElem hlt
  rw [hg, Option.getD_some, phases_col hg]
  by_cases hk : x.k = 1
  · obtain rfl : i = 0 := by have := hn hk; omega
    have : (phasesL x co).length = 1 := by rw [phasesL, if_pos hk]; rfl
    rw [this]
    have : ocB x = false := by simp [ocB, hk]
    simp [litAt, this]
  · have he := phases_even (co := co) hv hk
    obtain ⟨N, hNN⟩ : ∃ N, (phasesL x co).length = N := ⟨_, rfl⟩
    rw [hNN] at he h1 hlt ⊢
    obtain ⟨s, rfl⟩ : ∃ s : Nat, start = s := ⟨start.toNat, by omega⟩
    simp only [Int.toNat_natCast] at h1 h2
    have e1 : (((s : Int) + (i : Int)) % (N : Int)).toNat = (s + i) % N := by
      rw [← Int.natCast_add, ← Int.natCast_emod, Int.toNat_natCast]
    rw [e1]
    have e2 : (s + i) % N % 2 = (s + i) % 2 := Nat.mod_mod_of_dvd _ (by omega)
    unfold litAt at h2 ⊢
    rw [e2]
    cases hoc : ocB x <;> rw [hoc] at h2 <;> simp at h2 ⊢
    all_goals
      by_cases hi : i % 2 = 1
      · rw [decide_eq_true hi]
        first
        | (rw [decide_eq_false (by omega)]; done)
        | (rw [decide_eq_false (by omega)]; rfl)
        | (rw [decide_eq_true (by omega)]; done)
        | (rw [decide_eq_true (by omega)]; rfl)
      · rw [decide_eq_false hi]
        first
        | (rw [decide_eq_true (by omega)]; done)
        | (rw [decide_eq_true (by omega)]; rfl)
        | (rw [decide_eq_false (by omega)]; done)
        | (rw [decide_eq_false (by omega)]; rfl)
theorem see_len {x : Ch} {co : ByteArray} {start : Int} (hv : validB x = true) {n i : Nat} {p : Ph} (h : (seeL (phasesL x co) start n)[i]? = some p) : 1 ≤ p.len ∧ p.len ≤ 600 := by
  have hN := phases_len (co := co) (valid_shape hv)
  have hin : i < n := by have := (List.getElem?_eq_some_iff.1 h).1; rw [seeL_len] at this; exact this
  simp only [seeL, List.getElem?_map, Option.map_eq_some_iff, List.getElem?_range hin] at h
  obtain ⟨j, hj, rfl⟩ := h
  rw [seeAt, List.getD_eq_getElem?_getD]
  have hlt : ((start + (j : Int)) % ((phasesL x co).length : Int)).toNat < (phasesL x co).length := by
    have := Int.emod_lt_of_pos (start + (j : Int)) (show (0 : Int) < ((phasesL x co).length : Int) by omega)
    have := Int.emod_nonneg (start + (j : Int)) (show ((phasesL x co).length : Int) ≠ 0 by omega)
    omega
  have hg := List.getElem?_eq_getElem hlt
  rw [hg, Option.getD_some]
  exact phases_pos hv _ (List.getElem_mem _)
theorem see_hc {x : Ch} {co : ByteArray} {start : Int} (hv : validB x = true) (hco : co.toList.isEmpty = false) (hs : startB (phasesL x co) start = true) {n : Nat} (hn : x.k = 1 → n = 1) (h1 : 1 ≤ n) : hcO (seeL (phasesL x co) start n) = co := by
  have hl := seeL_len (phasesL x co) start n
  have hg : (seeL (phasesL x co) start n)[0]? = some ((seeL (phasesL x co) start n)[0]'(by omega)) := List.getElem?_eq_getElem _
  rw [hcO_at hg, see_col hv hco hs hn hg]
  rfl
theorem see_obs {x : Ch} {co : ByteArray} {start : Int} (hv : validB x = true) (hco : colB co = true) (hs : startB (phasesL x co) start = true) {n : Nat} (hn : x.k = 1 → n = 1) (h1 : 1 ≤ n) (h2 : n ≤ 24) : obsB (seeL (phasesL x co) start n) = true := by
  have hE := colB_E2 hco
  have hc := see_hc hv hE hs hn h1
  rw [obsB_i, hc, hco, seeL_len]
  have h3 : inB n 1 24 = true := inB_iff.2 ⟨by omega, by omega⟩
  rw [h3]
  simp only [Bool.and_true, allB_iff]
  intro i hi
  have hg : (seeL (phasesL x co) start n)[i]? = some ((seeL (phasesL x co) start n)[i]'(by rw [seeL_len]; exact hi)) := List.getElem?_eq_getElem _
  have h4 := see_len hv hg
  rw [iOk_at hg, see_col hv hE hs hn hg, hc, inB_iff.2 ⟨h4.1, by omega⟩]
  by_cases ho : i % 2 = 1
  · rw [decide_eq_true ho]; simp
  · rw [decide_eq_false ho]; simp
end Go.Proofs.Ytgfplmfdgbklkaa
/- PhasesNeeded: what both sides compute. Plain facts, no program. -/
namespace Go.Proofs.Ytgfplmfdgbklkaa
open Go.RowKit
theorem colB_ext {x : Ch} (h : validB x = true) {i : Nat} (hi : i < x.cs.size) : colB (x.cs.extract i (i + 1)) = true := by
  have hsh := valid_shape h
  simp only [shapeB, colorsB, Bool.and_eq_true, allB_iff] at hsh
  have h1 := hsh.1.1 i hi
  simp only [colOk, Bool.and_eq_true, decide_eq_true_eq] at h1
  have h2 := h1.1
  rw [bt_eq _ _ hi] at h2
  have h3 : (x.cs[i].toNat : Int) = 87 ∨ (x.cs[i].toNat : Int) = 82 ∨ (x.cs[i].toNat : Int) = 71 ∨ (x.cs[i].toNat : Int) = 89 := by
    unfold rankI at h2
    (repeat' split at h2) <;> omega
  have e : ∀ {c : UInt8} {n : Nat}, (c.toNat : Int) = (n : Int) → n < 256 → c = n.toUInt8 := by
    intro c n h hn
    have : c.toNat = n := by omega
    rw [← this]; simp
  rw [colB, ext_one _ _ hi]
  rcases h3 with h3 | h3 | h3 | h3
  · rw [e (n := 87) h3 (by decide)]; decide
  · rw [e (n := 82) h3 (by decide)]; decide
  · rw [e (n := 71) h3 (by decide)]; decide
  · rw [e (n := 89) h3 (by decide)]; decide
theorem hasC_ext (s : ByteArray) {i : Nat} (hi : i < s.size) : hasC s (s.extract i (i + 1)) = true := by
  rw [hasC, ext_one _ _ hi]
  simp only [decide_eq_true_eq]
  rw [toL]
  have : s.data.toList[i]? = some s[i] := by rw [List.getElem?_eq_getElem (by simpa using hi)]; rfl
  exact List.mem_of_getElem? this
abbrev oneC (s : ByteArray) : ByteArray := s.extract 0 1
def firstLit (x : Ch) : Int := bif ocB x then 1 else 0
theorem firstLit_bd (x : Ch) : 0 ≤ firstLit x ∧ firstLit x ≤ 1 := by unfold firstLit; cases ocB x <;> simp
theorem oneC_col {x : Ch} (h : validB x = true) : colB (oneC x.cs) = true := colB_ext h (i := 0) (by have := colors_one h; omega)
theorem start_first {x : Ch} (hv : validB x = true) : startB (phasesL x (oneC x.cs)) (firstLit x) = true := by
  have hE := colB_E2 (oneC_col hv)
  have hN := phases_len (co := oneC x.cs) (valid_shape hv)
  rw [start_at hE]
  unfold firstLit
  cases hoc : ocB x
  · simp [litAt]; omega
  · have hk : x.k = 2 := by simpa [ocB] using hoc
    have := phases_even (co := oneC x.cs) hv (by omega)
    simp [litAt]; omega
theorem start_zero {x : Ch} (hv : validB x = true) : startB (phasesL x (oneC x.cs)) 0 = !ocB x := by
  have hE := colB_E2 (oneC_col hv)
  have hN := phases_len (co := oneC x.cs) (valid_shape hv)
  rw [start_at hE]
  cases hoc : ocB x
  · simp [litAt]; omega
  · simp [litAt]
def needB (zs : List ChG) (x : Ch) (tol : Int) (j : Nat) : Bool := (!(x.k == 1) || decide (j = 0)) && decide ((hitsL zs (seeL (phasesL x (oneC x.cs)) (firstLit x) (j + 1)) tol).length = 1)
def needI (zs : List ChG) (x : Ch) (tol : Int) : Int := firstI ((List.range 24).filter (needB zs x tol))
theorem need_first {zs : List ChG} {x : Ch} {tol : Int} {k : Nat} (hk : k < 24) (h0 : ∀ j, j < k → needB zs x tol j = false) (h1 : needB zs x tol k = true) : needI zs x tol = k := by
  obtain ⟨r, hr⟩ := filter_head hk h0 h1
  rw [needI, hr]; rfl
theorem need_none {zs : List ChG} {x : Ch} {tol : Int} (h0 : ∀ j, j < 24 → needB zs x tol j = false) : needI zs x tol = -1 := by
  have : (List.range 24).filter (needB zs x tol) = [] := by
    rw [List.filter_eq_nil_iff]
    intro i hi h
    rw [h0 i (List.mem_range.1 hi)] at h
    cases h
  rw [needI, this]; rfl
theorem need_fixed {zs : List ChG} {x : Ch} {tol : Int} (hk : x.k = 1) (h0 : needB zs x tol 0 = false) : needI zs x tol = -1 := by
  apply need_none
  intro j _
  rcases j with _ | j
  · exact h0
  · simp [needB, hk]
/-- The questions: list valid, the index in it, the tolerance. -/
def pnC (zs : List ChG) (k tol : Int) : Int := bif lightsB zs then (bif (decide (0 ≤ k) && decide (k < zs.length)) && inB tol 0 100 then 0 else 2) else 1
def pnI (zs : List ChG) (k tol : Int) : Int := match zs[k.toNat]? with | none => -1 | some z => needI zs z.x tol
def pnV (zs : List ChG) (k tol : Int) : Int := bif (pnC zs k tol == 0) && decide (0 ≤ pnI zs k tol) then pnI zs k tol + 1 else 0
def pnK (zs : List ChG) (k tol : Int) : Int := bif pnC zs k tol == 0 then (bif decide (0 ≤ pnI zs k tol) then 0 else 3) else pnC zs k tol
theorem pnI_at {zs : List ChG} {k : Nat} {z : ChG} (h : zs[k]? = some z) (tol : Int) : pnI zs (k : Int) tol = needI zs z.x tol := by rw [pnI, Int.toNat_natCast, h]
end Go.Proofs.Ytgfplmfdgbklkaa
/- A light is found by what is seen of it. Plain facts, no program. -/
namespace Go.Proofs.Ytgfplmfdgbklkaa
open Go.RowKit
theorem see_get2 {ps : List Ph} {start : Int} {n i : Nat} (hi : i < n) : (seeL ps start n)[i]? = some (seeAt ps start i) := by
  rw [seeL, List.getElem?_map, List.getElem?_range hi]; rfl
theorem lenO_see {ps : List Ph} {start : Int} {n i : Nat} (hi : i < n) : lenO (seeL ps start n) i = (seeAt ps start i).len := lenO_at (see_get2 hi)
theorem from_near {x : Ch} {o : List Ph} {start tol : Int} {co : ByteArray} (hco : co.toList.isEmpty = false) (hh : hcO o = co) (hc : hasC x.cs co = true) (hs : startB (phasesL x co) start = true) (hn : x.k = 1 → o.length = 1)
    (hd : x.k ≠ 1 → ∀ i : Nat, i < o.length → -tol ≤ lenO o i - lenO (seeL (phasesL x co) start o.length) i ∧ lenO o i - lenO (seeL (phasesL x co) start o.length) i ≤ tol) : fromB x o start tol = true := by
  rw [fromB, hh, hc, Bool.true_and]
  cases hk : (x.k == 1)
  · have hk1 : x.k ≠ 1 := by simpa using hk
    rw [cond_false, hs, Bool.true_and, allB_iff]
    intro i hi
    have := hd hk1 i hi
    rw [okAtB, failB, decide_eq_false (by omega), decide_eq_false (by omega)]; rfl
  · have hk1 : x.k = 1 := by simpa using hk
    rw [start_fixed hk hco] at hs
    rw [cond_true, hs, decide_eq_true (hn hk1)]; rfl
theorem from_self {x : Ch} {co : ByteArray} {start tol : Int} {n : Nat} (hv : validB x = true) (hco : colB co = true) (hc : hasC x.cs co = true) (hs : startB (phasesL x co) start = true) (hn : x.k = 1 → n = 1) (h1 : 1 ≤ n) (ht : 0 ≤ tol) : fromB x (seeL (phasesL x co) start n) start tol = true := by
  have hE := colB_E2 hco
  refine from_near hE (see_hc hv hE hs hn h1) hc hs (fun h => by rw [seeL_len]; exact hn h) fun _ i hi => ?_
  rw [seeL_len] at hi ⊢
  omega
theorem starts_mem {x : Ch} {o : List Ph} {tol : Int} {i : Nat} (hco : (hcO o).toList.isEmpty = false) (hv : validB x = true) (h : fromB x o (i : Int) tol = true) : i ∈ startsL x o tol := by
  have h1 := from_lt hco h (⟨#[87]⟩ : ByteArray)
  have h2 := phases_len40 (co := ⟨#[87]⟩) (valid_shape hv)
  rw [startsL, List.mem_filter]
  exact ⟨List.mem_range.2 (by omega), h⟩
theorem first_le {L : List Nat} {i : Nat} (hp : L.Pairwise (· < ·)) (h : i ∈ L) : 0 ≤ firstI L ∧ firstI L ≤ i := by
  cases L with
  | nil => cases h
  | cons a t =>
    rw [firstI]
    rcases List.mem_cons.1 h with rfl | h2
    · omega
    · have := (List.pairwise_cons.1 hp).1 i h2; omega
theorem starts_sorted (x : Ch) (o : List Ph) (tol : Int) : (startsL x o tol).Pairwise (· < ·) := List.Pairwise.filter _ List.pairwise_lt_range
theorem hit_of {zs : List ChG} {k : Nat} {z : ChG} {o : List Ph} {tol : Int} {i : Nat} (hx : zs[k]? = some z) (hco : (hcO o).toList.isEmpty = false) (hv : validB z.x = true) (h : fromB z.x o (i : Int) tol = true) : k ∈ hitsL zs o tol := by
  rw [hitsL, hitsN, List.mem_filter]
  refine ⟨List.mem_range.2 (List.getElem?_eq_some_iff.1 hx).1, ?_⟩
  rw [hit_eq hx, decide_eq_true_eq]
  exact (first_le (starts_sorted _ _ _) (starts_mem hco hv h)).1
/-- What fits a longer observation fits its beginning. -/
theorem from_less {x : Ch} {ps : List Ph} {start0 : Int} {m : Nat} (hm : 1 ≤ m) (hh : hcO (seeL ps start0 (m + 1)) = hcO (seeL ps start0 m)) {start tol : Int} (h : fromB x (seeL ps start0 (m + 1)) start tol = true) : fromB x (seeL ps start0 m) start tol = true := by
  unfold fromB at h ⊢
  rw [hh] at h
  simp only [Bool.and_eq_true] at h ⊢
  refine ⟨h.1, ?_⟩
  have h2 := h.2
  cases hk : (x.k == 1)
  · rw [hk] at h2
    simp only [cond_false, Bool.and_eq_true, allB_iff] at h2 ⊢
    refine ⟨h2.1, fun i hi => ?_⟩
    rw [seeL_len] at hi
    have h3 := h2.2 i (by rw [seeL_len]; omega)
    rw [okAtB, failB, seeL_len, lenO_see (by omega), lenO_see (by omega)] at h3 ⊢
    rw [decide_eq_false (show ¬ i + 1 = m + 1 by omega)] at h3
    simp only [Bool.not_false, Bool.and_true, Bool.not_eq_true', Bool.or_eq_false_iff, decide_eq_false_iff_not] at h3 ⊢
    refine ⟨h3.1, ?_⟩
    rw [decide_eq_false h3.2]; rfl
  · rw [hk] at h2
    simp only [cond_true, Bool.and_eq_true, decide_eq_true_eq, seeL_len] at h2
    omega
theorem hits_less {zs : List ChG} {ps : List Ph} {start0 : Int} {m : Nat} {tol : Int} (hm : 1 ≤ m) (hh : hcO (seeL ps start0 (m + 1)) = hcO (seeL ps start0 m)) : (hitsL zs (seeL ps start0 (m + 1)) tol).length ≤ (hitsL zs (seeL ps start0 m) tol).length := by
  rw [hitsL, hitsL, hitsN, hitsN, ← List.countP_eq_length_filter, ← List.countP_eq_length_filter]
  refine List.countP_mono_left fun i _ h => ?_
  unfold hitB at h ⊢
  cases hz : zs[i]? with
  | none => rw [hz] at h; cases h
  | some z =>
    rw [hz] at h
    simp only [decide_eq_true_eq] at h ⊢
    cases hL : startsL z.x (seeL ps start0 (m + 1)) tol with
    | nil => rw [hL] at h; simp [firstI] at h
    | cons a t =>
      have ha : a ∈ startsL z.x (seeL ps start0 (m + 1)) tol := by rw [hL]; simp
      rw [startsL, List.mem_filter] at ha
      have hb : a ∈ startsL z.x (seeL ps start0 m) tol := by
        rw [startsL, List.mem_filter]
        exact ⟨ha.1, from_less hm hh ha.2⟩
      exact (first_le (starts_sorted _ _ _) hb).1
theorem need_base {zs : List ChG} {x : Ch} {tol : Int} {j : Nat} (hn : needI zs x tol = j) : j < 24 ∧ needB zs x tol j = true ∧ ∀ u, u < j → needB zs x tol u = false := by
  have hsort : ((List.range 24).filter (needB zs x tol)).Pairwise (· < ·) := List.Pairwise.filter _ List.pairwise_lt_range
  rw [needI] at hn
  cases hL : (List.range 24).filter (needB zs x tol) with
  | nil => rw [hL] at hn; exact absurd hn (by simp [firstI])
  | cons a t =>
    rw [hL] at hn hsort
    have haj : a = j := by simp [firstI] at hn; omega
    subst haj
    have hm : a ∈ (List.range 24).filter (needB zs x tol) := by rw [hL]; simp
    have h1 := List.mem_filter.1 hm
    refine ⟨List.mem_range.1 h1.1, h1.2, fun u hu => ?_⟩
    rw [Bool.eq_false_iff]
    intro hu2
    have h3 : u ∈ (List.range 24).filter (needB zs x tol) := List.mem_filter.2 ⟨List.mem_range.2 (by have := List.mem_range.1 h1.1; omega), hu2⟩
    rw [hL] at h3
    rcases List.mem_cons.1 h3 with rfl | h4
    · omega
    · have := (List.pairwise_cons.1 hsort).1 u h4; omega
/-- With the number of phases that is needed, and with more, one light is found; with one less more are found. -/
theorem need_more {zs : List ChG} {x : Ch} {k : Nat} {z : ChG} {tol : Int} {j : Nat} (hx : zs[k]? = some z) (hz : z.x = x) (hv : validB x = true) (ht : 0 ≤ tol) (hn : needI zs x tol = j) (hk : x.k ≠ 1) : ∀ d, j + d + 1 ≤ 24 → (hitsL zs (seeL (phasesL x (oneC x.cs)) (firstLit x) (j + 1 + d)) tol).length = 1
  | 0, _ => by
    have h2 := (need_base hn).2.1
    simp only [needB, Bool.and_eq_true, decide_eq_true_eq] at h2
    exact h2.2
  | d + 1, h => by
    have ih := need_more hx hz hv ht hn hk d (by omega)
    have hE := colB_E2 (oneC_col hv)
    have hs := start_first hv
    have e1 : j + 1 + (d + 1) = (j + 1 + d) + 1 := by omega
    have hh : hcO (seeL (phasesL x (oneC x.cs)) (firstLit x) (j + 1 + d + 1)) = hcO (seeL (phasesL x (oneC x.cs)) (firstLit x) (j + 1 + d)) := by
      rw [see_hc hv hE hs (fun h => absurd h hk) (by omega), see_hc hv hE hs (fun h => absurd h hk) (by omega)]
    have hle := hits_less (zs := zs) (tol := tol) (show 1 ≤ j + 1 + d by omega) hh
    have hfb := firstLit_bd x
    obtain ⟨s, hs2⟩ : ∃ s : Nat, firstLit x = s := ⟨(firstLit x).toNat, by omega⟩
    have hmem : k ∈ hitsL zs (seeL (phasesL x (oneC x.cs)) (firstLit x) (j + 1 + d + 1)) tol := by
      have hf : fromB x (seeL (phasesL x (oneC x.cs)) (firstLit x) (j + 1 + d + 1)) (s : Int) tol = true := by
        have := from_self (n := j + 1 + d + 1) (tol := tol) hv (oneC_col hv) (hasC_ext x.cs (i := 0) (by have := colors_one hv; omega)) hs (fun h => absurd h hk) (by omega) ht
        rw [hs2] at this ⊢
        exact this
      subst hz
      refine hit_of hx ?_ hv hf
      rw [see_hc hv hE hs (fun h => absurd h hk) (by omega)]; exact hE
    rw [e1]
    have := List.length_pos_of_mem hmem
    omega
/-- How many lights are found with m phases. -/
theorem need_iff {zs : List ChG} {k : Nat} {z : ChG} {tol : Int} {j m : Nat} (hx : zs[k]? = some z) (hv : validB z.x = true) (ht : 0 ≤ tol) (hn : needI zs z.x tol = j) (h1 : 1 ≤ m) (h24 : m ≤ 24) (hk : z.x.k = 1 → m = 1) :
    decide ((hitsL zs (seeL (phasesL z.x (oneC z.x.cs)) (firstLit z.x) m) tol).length = 1) = decide (j + 1 ≤ m) ∨ m < j := by
  obtain ⟨b1, b2, b3⟩ := need_base hn
  by_cases hlt : m < j
  · exact .inr hlt
  left
  by_cases hmj : j + 1 ≤ m
  · rw [decide_eq_true hmj, decide_eq_true_eq]
    by_cases hk1 : z.x.k = 1
    · have := hk hk1
      obtain rfl : j = 0 := by omega
      subst this
      simp only [needB, Bool.and_eq_true, decide_eq_true_eq] at b2
      exact b2.2
    · have := need_more hx rfl hv ht hn hk1 (m - (j + 1)) (by omega)
      rw [show j + 1 + (m - (j + 1)) = m by omega] at this
      exact this
  · obtain rfl : m = j := by omega
    have b4 := b3 (m - 1) (by omega)
    rw [decide_eq_false hmj]
    rw [needB, show m - 1 + 1 = m by omega] at b4
    by_cases hk1 : z.x.k = 1
    · have := hk hk1
      subst this
      simpa using b4
    · have : (z.x.k == 1) = false := by simpa using hk1
      rw [this] at b4
      simpa using b4
theorem see_mem {zs : List ChG} {k : Nat} {z : ChG} {tol : Int} {m : Nat} (hx : zs[k]? = some z) (hv : validB z.x = true) (ht : 0 ≤ tol) (h1 : 1 ≤ m) (hk : z.x.k = 1 → m = 1) : k ∈ hitsL zs (seeL (phasesL z.x (oneC z.x.cs)) (firstLit z.x) m) tol := by
  have hE := colB_E2 (oneC_col hv)
  have hs := start_first hv
  have hfb := firstLit_bd z.x
  obtain ⟨s, hs2⟩ : ∃ s : Nat, firstLit z.x = s := ⟨(firstLit z.x).toNat, by omega⟩
  have hf : fromB z.x (seeL (phasesL z.x (oneC z.x.cs)) (firstLit z.x) m) (s : Int) tol = true := by
    have := from_self (n := m) (tol := tol) hv (oneC_col hv) (hasC_ext z.x.cs (i := 0) (by have := colors_one hv; omega)) hs hk h1 ht
    rw [hs2] at this ⊢
    exact this
  refine hit_of hx ?_ hv hf
  rw [see_hc hv hE hs hk h1]; exact hE
end Go.Proofs.Ytgfplmfdgbklkaa
