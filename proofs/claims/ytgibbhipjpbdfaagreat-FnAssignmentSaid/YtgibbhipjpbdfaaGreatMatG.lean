/- MatG: several of my texts in one. -/
import Derived.Test.YtgibbhipjpbdfaaGreatObsOk
import Derived.Test.YtgibbhipjpbdfaaGreatChObs

/- Whether an observation can begin at a phase, both sides. -/
namespace Go.Proofs.YtgibbhipjpbdfaaGreat
open Go.RowKit
def lenO (o : List Ph) (i : Nat) : Int := (o.getD i ⟨⟨#[]⟩, 0⟩).len
theorem lenO_at {o : List Ph} {i : Nat} {p : Ph} (h : o[i]? = some p) : lenO o i = p.len := by rw [lenO, List.getD_eq_getElem?_getD, h]; rfl
def failB (o see : List Ph) (tol : Int) (i : Nat) : Bool := decide (tol < lenO o i - lenO see i) || (decide (lenO o i - lenO see i < -tol) && !decide (i + 1 = o.length))
def okAtB (o see : List Ph) (tol : Int) (i : Nat) : Bool := !failB o see tol i
def fromB (x : Ch) (o : List Ph) (start tol : Int) : Bool :=
  hasC x.cs (hcO o) && (bif x.k == 1 then decide (start = 0) && decide (o.length = 1)
    else startB (phasesL x (hcO o)) start && allB o.length (okAtB o (seeL (phasesL x (hcO o)) start o.length) tol))
/-- What is known of an observation. -/
structure ObsOK (o : List Ph) (n : Nat) : Prop where
  n1 : 1 ≤ n
  n24 : n ≤ 24
  col : colB (hcO o) = true
  lens : ∀ p ∈ o, 1 ≤ p.len ∧ p.len ≤ 1200
theorem obsB_ok {o : List Ph} {n : Nat} (h : obsB o = true) (hl : o.length = n) : ObsOK o n := by
  rw [obsB_i] at h
  simp only [Bool.and_eq_true, allB_iff] at h
  obtain ⟨h1, h2, h3⟩ := h
  have := inB_iff.1 h2
  refine ⟨by omega, by omega, h3, fun p hp => ?_⟩
  obtain ⟨i, hi⟩ := List.mem_iff_getElem?.1 hp
  have h4 := h1 i (List.getElem?_eq_some_iff.1 hi).1
  rw [iOk_at hi] at h4
  simp only [Bool.and_eq_true] at h4
  exact inB_iff.1 h4.1
theorem see_bd {x : Ch} {co : ByteArray} (h : validB x = true) (start : Int) (m : Nat) : ∀ p ∈ seeL (phasesL x co) start m, 0 ≤ p.len ∧ p.len ≤ 600 := by
  intro p hp
  simp only [seeL, List.mem_map] at hp
  obtain ⟨i, _, rfl⟩ := hp
  rw [seeAt, List.getD_eq_getElem?_getD]
  cases hq : (phasesL x co)[((start + (i : Int)) % ((phasesL x co).length : Int)).toNat]? with
  | none => simp
  | some q => exact phases_bd h q (List.mem_of_getElem? hq)
theorem start_fixed {x : Ch} {co : ByteArray} (hk : (x.k == 1) = true) (hco : co.toList.isEmpty = false) (start : Int) : startB (phasesL x co) start = decide (start = 0) := by
  have h1 : x.k = 1 := by simpa using hk
  rw [startB, phasesL, if_pos h1]
  by_cases h0 : start = 0
  · subst h0; simp [hco]
  · rw [decide_eq_false h0]
    by_cases hs : 0 ≤ start
    · have : start.toNat ≠ 0 := by omega
      cases hn : start.toNat with
      | zero => exact absurd hn this
      | succ m => simp
    · rw [decide_eq_false hs]; rfl
end Go.Proofs.YtgibbhipjpbdfaaGreat

/- How many phases there are at most; the phases at which an observation can begin. -/
namespace Go.Proofs.YtgibbhipjpbdfaaGreat
open Go.RowKit
theorem inner_len_eq (k : Int) (i : Nat) {m : Nat} (h : 0 < m) : (innerT k i m).length + (if i = 0 then 1 else 0) = 2 * m := by
  have := inner_odd k i m h
  split at this <;> split <;> omega
theorem outer_len_eq (k : Int) {g : List Int} (hg : ∀ x ∈ g, 1 ≤ x ∧ x ≤ 9) : ∀ r, 0 < r → r ≤ g.length → ((outerT k g r).length : Int) + 1 = 2 * (g.take r).sum
  | 0, h, _ => by omega
  | r + 1, _, hr => by
    have hx : g[r]? = some (g[r]'(by omega)) := List.getElem?_eq_getElem (by omega)
    have h9 := hg _ (List.mem_of_getElem? hx)
    rw [outerT_next k hx, List.length_append, sum_next hx]
    have hi := inner_len_eq k r (m := (g[r]'(by omega)).toNat) (by omega)
    rcases Nat.eq_zero_or_pos r with h0 | h0
    · subst h0
      simp [outerT] at hi ⊢
      omega
    · have := outer_len_eq k hg r h0 (by omega)
      rw [if_neg (by omega)] at hi
      omega
theorem times_len {x : Ch} (h : shapeB x = true) : (timesL x).length ≤ 25 := by
  have ht := shape_TOk h
  have hf : fitsB x = true := by simp [shapeB] at h; exact h.2
  unfold timesL
  split
  · rename_i h8
    obtain ⟨h1, h2, h3⟩ := ht.mo h8
    have hms := morse_size (letN x) (by unfold letN; omega)
    have := mT_len (morse (letN x)) (morse (letN x)).size
    omega
  · rename_i h8
    obtain ⟨g1, g4, g9⟩ := grp_ok h8 ht
    have hs : (grp x).sum ≤ 12 := by
      have hgb : ∀ {gs : List Int}, groupB gs = true → gs.sum ≤ 12 := fun {gs} hg => by
        simp only [groupB, Bool.and_eq_true, decide_eq_true_eq] at hg
        exact hg.2.2.1
      unfold grp
      split
      · simp
      · rename_i hne
        unfold fitsB at hf
        split at hf
        · simp only [Bool.and_eq_true, decide_eq_true_eq] at hf
          exact absurd hf.1 hne
        split at hf
        · simp only [Bool.and_eq_true] at hf
          exact hgb hf.2
        split at hf
        · split at hf
          · simp only [decide_eq_true_eq] at hf
            rw [hf]; simp
          · simp only [Bool.and_eq_true] at hf
            exact hgb hf.2.2
        simp at hf
    have ho := outer_len_eq x.k g9 (grp x).length (by omega) (Nat.le_refl _)
    rw [List.take_of_length_le (Nat.le_refl _)] at ho
    rw [List.length_append]
    split <;> simp <;> omega
theorem phases_len40 {x : Ch} {co : ByteArray} (h : shapeB x = true) : (phasesL x co).length ≤ 40 := by
  have := times_len h
  unfold phasesL
  (repeat' split) <;> (try rw [altL_len]) <;> simp <;> omega
theorem phases_len_co (x : Ch) (co co' : ByteArray) : (phasesL x co).length = (phasesL x co').length := by
  unfold phasesL
  (repeat' split) <;> (try rw [altL_len, altL_len]) <;> simp
def startsL (x : Ch) (o : List Ph) (tol : Int) : List Nat := (List.range 40).filter fun (i : Nat) => fromB x o (i : Int) tol
def firstI (xs : List Nat) : Int := match xs with | [] => -1 | i :: _ => (i : Int)
theorem from_lt {x : Ch} {o : List Ph} {i : Nat} {tol : Int} (hco : (hcO o).toList.isEmpty = false) (h : fromB x o (i : Int) tol = true) (co : ByteArray) : i < (phasesL x co).length := by
  have hs : startB (phasesL x (hcO o)) (i : Int) = true := by
    unfold fromB at h
    simp only [Bool.and_eq_true] at h
    cases hk : (x.k == 1)
    · rw [hk] at h
      simp only [cond_false, Bool.and_eq_true] at h
      exact h.2.1
    · rw [hk] at h
      rw [start_fixed hk hco]
      simp only [cond_true, Bool.and_eq_true] at h
      exact h.2.1
  have := (startB_lt hs).2
  rw [phases_len_co x co (hcO o)]
  omega
theorem filter_head {p : Nat → Bool} : ∀ {n k : Nat}, k < n → (∀ j, j < k → p j = false) → p k = true → ∃ r, (List.range n).filter p = k :: r := by
  intro n k hk h0 h1
  obtain ⟨m, rfl⟩ : ∃ m, n = k + (m + 1) := ⟨n - k - 1, by omega⟩
  rw [List.range_add, List.filter_append]
  have : (List.range k).filter p = [] := by
    rw [List.filter_eq_nil_iff]
    intro a ha
    rw [h0 a (by simpa using ha)]; simp
  rw [this, List.nil_append, List.range_succ_eq_map, List.map_cons, List.filter_cons]
  simp [h1]
theorem starts_first {x : Ch} {o : List Ph} {tol : Int} {k : Nat} (hk : k < 40) (h0 : ∀ j, j < k → fromB x o (j : Int) tol = false) (h1 : fromB x o (k : Int) tol = true) : firstI (startsL x o tol) = k := by
  obtain ⟨r, hr⟩ := filter_head (p := fun (i : Nat) => fromB x o (i : Int) tol) hk h0 h1
  rw [startsL, hr, firstI]
theorem starts_none {x : Ch} {o : List Ph} {tol : Int} {k : Nat} (hco : (hcO o).toList.isEmpty = false) (co : ByteArray) (hk : (phasesL x co).length ≤ k) (h0 : ∀ j, j < k → fromB x o (j : Int) tol = false) : startsL x o tol = [] := by
  rw [startsL, List.filter_eq_nil_iff]
  intro a _ h
  have := from_lt hco h co
  rw [h0 a (by omega)] at h
  cases h
theorem starts_next (x : Ch) (o : List Ph) (tol : Int) (k : Nat) : (List.range (k + 1)).filter (fun (i : Nat) => fromB x o (i : Int) tol) = (List.range k).filter (fun (i : Nat) => fromB x o (i : Int) tol) ++ (if fromB x o (k : Int) tol = true then [k] else []) := by
  rw [List.range_succ, List.filter_append]
  simp [List.filter_cons]
/-- How far an observation differs at place i. -/
def errAt (o see : List Ph) (i : Nat) : Int := if i + 1 = o.length ∧ lenO o i - lenO see i < 0 then 0 else max (lenO o i - lenO see i) (lenO see i - lenO o i)
def errS (o see : List Ph) (m : Nat) : Int := ((List.range m).map (errAt o see)).sum
theorem errS_next (o see : List Ph) (m : Nat) : errS o see (m + 1) = errS o see m + errAt o see m := by simp [errS, List.range_succ]
def errI (x : Ch) (o : List Ph) (start : Int) : Int := bif x.k == 1 then 0 else errS o (seeL (phasesL x (hcO o)) start o.length) o.length
end Go.Proofs.YtgibbhipjpbdfaaGreat

/- Whether an observation can begin at a phase: the program's; MatchFrom, both sides. -/
namespace Go.Proofs.YtgibbhipjpbdfaaGreat
open Go.RowKit
set_option maxHeartbeats 400000 in
theorem distance_c (a b : Int) (w : World) (h1 : -1000000000000 ≤ a) (h2 : a ≤ 1000000000000) (h3 : -1000000000000 ≤ b) (h4 : b ≤ 1000000000000) :
    Calls Tryz.prog 109 #[.int .i64 a, .int .i64 b] w fun e w' => e = .returned (.int .i64 (max (a - b) (b - a))) ∧ w = w' := by
  go_enter Tryz.func109, Tryz.ntmps109
  go_wp2
  all_goals
    go_ret
    exact ⟨ret_eq (int_eq (by omega)), rfl⟩
theorem allB_congr {n : Nat} {p q : Nat → Bool} (h : ∀ i, i < n → p i = q i) : allB n p = allB n q := by
  rw [Bool.eq_iff_iff, allB_iff, allB_iff]
  exact ⟨fun h1 i hi => by rw [← h i hi]; exact h1 i hi, fun h1 i hi => by rw [h i hi]; exact h1 i hi⟩
end Go.Proofs.YtgibbhipjpbdfaaGreat

/- MatchFrom, both sides. -/
namespace Go.Proofs.YtgibbhipjpbdfaaGreat
open Go.RowKit
def matchV (x : Ch) (o : List Ph) (start tol : Int) : Bool := validB x && (obsB o && (inB tol 0 100 && fromB x o start tol))
end Go.Proofs.YtgibbhipjpbdfaaGreat

/- MatchStart and ErrorFrom, both sides. -/
namespace Go.Proofs.YtgibbhipjpbdfaaGreat
open Go.RowKit
def okCO (x : Ch) (o : List Ph) : Bool := validB x && obsB o
def startV (x : Ch) (o : List Ph) (tol : Int) : Int := bif okCO x o && (inB tol 0 100 && decide (0 ≤ firstI (startsL x o tol))) then firstI (startsL x o tol) else 0
def startK (x : Ch) (o : List Ph) (tol : Int) : Int := bif okCO x o then (bif inB tol 0 100 then (bif decide (0 ≤ firstI (startsL x o tol)) then 0 else 3) else 2) else 1
def errV (x : Ch) (o : List Ph) (start : Int) : Int := bif okCO x o && fromB x o start 2400 then errI x o start else 0
def errK (x : Ch) (o : List Ph) (start : Int) : Int := bif okCO x o then (bif fromB x o start 2400 then 0 else 3) else 1
theorem firstI_bd (xs : List Nat) : -1 ≤ firstI xs := by unfold firstI; split <;> omega
end Go.Proofs.YtgibbhipjpbdfaaGreat

/- What is seen of a valid character from a lit phase on is an observation. Plain facts, no program. -/
namespace Go.Proofs.YtgibbhipjpbdfaaGreat
open Go.RowKit
theorem gapI_pos (k : Int) : 3 ≤ gapI k := by unfold gapI; (repeat' split) <;> omega
theorem flashI_pos (k : Int) : 2 ≤ flashI k := by unfold flashI; (repeat' split) <;> omega
theorem times_pos {c : Ch} : ∀ y ∈ timesL c, 1 ≤ y := by
  have hg := gapI_pos c.k
  have hf := flashI_pos c.k
  unfold timesL
  split
  · rename_i h8
    intro y hy
    simp only [mT, List.mem_flatMap, List.mem_range] at hy
    obtain ⟨i, _, hy⟩ := hy
    rcases List.mem_append.1 hy with h | h
    · split at h <;> simp at h; omega
    · simp only [List.mem_singleton] at h; subst h; unfold signI; split <;> omega
  · intro y hy
    rcases List.mem_append.1 hy with h | h
    · simp only [outerT, innerT, List.mem_flatMap] at h
      obtain ⟨i, _, j, _, h⟩ := h
      unfold stepT at h
      rcases List.mem_append.1 h with h | h
      · split at h
        · simp at h; omega
        · split at h <;> simp at h; omega
      · simp at h; omega
    · split at h <;> simp at h
      rcases h with h | h <;> omega
theorem valid_iso {x : Ch} (h : validB x = true) (h3 : x.k = 3) : 20 ≤ x.p := by
  have hs : steadyB x = false := by simp [steadyB, h3]
  simp only [validB, Bool.and_eq_true] at h
  have h2 := h.2
  rw [if_neg (by rw [hs]; simp)] at h2
  simp only [Bool.and_eq_true] at h2
  have h4 := inB_iff.1 h2.1
  rw [leastI, if_neg (by rw [hs]; simp), if_pos h3] at h4
  omega
theorem phases_pos {x : Ch} {co : ByteArray} (h : validB x = true) : ∀ p ∈ phasesL x co, 1 ≤ p.len ∧ p.len ≤ 600 := by
  intro p hp
  have hb := phases_bd h p hp
  have hg := gapI_pos x.k
  refine ⟨?_, hb.2⟩
  unfold phasesL at hp
  split at hp
  · simp at hp; subst hp; simp
  split at hp
  · have := valid_iso h (by assumption)
    simp at hp; rcases hp with rfl | rfl <;> simp <;> omega
  · simp only [altL, List.mem_mapIdx] at hp
    obtain ⟨i, hi, rfl⟩ := hp
    simp only [altP]
    have hmem : (timesL x ++ [if steadyB x = true then gapI x.k else x.p - (timesL x).sum])[i] ∈ timesL x ++ [if steadyB x = true then gapI x.k else x.p - (timesL x).sum] := List.getElem_mem _
    generalize (timesL x ++ [if steadyB x = true then gapI x.k else x.p - (timesL x).sum])[i] = t at *
    rcases List.mem_append.1 hmem with h1 | h1
    · exact times_pos t h1
    · simp only [List.mem_singleton] at h1
      subst h1
      cases hst : steadyB x
      · have := valid_sum h hst (by assumption)
        simp; omega
      · simp; omega
theorem phases_col {x : Ch} {co : ByteArray} {j : Nat} {p : Ph} (h : (phasesL x co)[j]? = some p) : p.c = bif litAt (ocB x) j then co else ⟨#[]⟩ := by
  unfold phasesL at h
  split at h
  · rename_i h1
    have : ocB x = false := by simp [ocB, h1]
    rcases j with _ | j
    · simp at h; subst h; simp [litAt, this]
    · simp at h
  split at h
  · rename_i h1 h3
    have : ocB x = false := by simp [ocB, h3]
    rcases j with _ | _ | j
    · simp at h; subst h; simp [litAt, this]
    · simp at h; subst h; simp [litAt, this]
    · simp at h
  · simp only [altL, List.getElem?_mapIdx, Option.map_eq_some_iff] at h
    obtain ⟨t, _, rfl⟩ := h
    rfl
theorem phases_even {x : Ch} {co : ByteArray} (h : validB x = true) (h1 : x.k ≠ 1) : (phasesL x co).length % 2 = 0 := by
  have ht := times_odd (shape_TOk (valid_shape h))
  unfold phasesL
  rw [if_neg h1]
  split
  · simp
  · rw [altL_len, List.length_append]; simp; omega
theorem emp_E : (⟨#[]⟩ : ByteArray).toList = [] := (toList_nil ⟨#[]⟩).2 rfl
theorem start_at {x : Ch} {co : ByteArray} {start : Int} (hco : co.toList.isEmpty = false) : startB (phasesL x co) start = (decide (0 ≤ start) && (decide (start.toNat < (phasesL x co).length) && litAt (ocB x) start.toNat)) := by
  unfold startB
  cases hp : (phasesL x co)[start.toNat]? with
  | none =>
    rw [List.getElem?_eq_none_iff] at hp
    rw [decide_eq_false (show ¬ start.toNat < (phasesL x co).length by omega)]; simp
  | some p =>
    have h1 := phases_col hp
    have h2 := (List.getElem?_eq_some_iff.1 hp).1
    dsimp only
    rw [decide_eq_true h2, h1]
    cases litAt (ocB x) start.toNat
    · simp
    · simp [hco]
/-- The colour of what is seen, phase by phase. -/
theorem see_col {x : Ch} {co : ByteArray} {start : Int} (hv : validB x = true) (hco : co.toList.isEmpty = false) (hs : startB (phasesL x co) start = true) {n i : Nat} {p : Ph} (hn : x.k = 1 → n = 1) (h : (seeL (phasesL x co) start n)[i]? = some p) :
    p.c = bif decide (i % 2 = 1) then ⟨#[]⟩ else co := by
  have hN := phases_len (co := co) (valid_shape hv)
  rw [start_at hco] at hs
  simp only [Bool.and_eq_true, decide_eq_true_eq] at hs
  obtain ⟨h0, h1, h2⟩ := hs
  have hin : i < n := by have := (List.getElem?_eq_some_iff.1 h).1; rw [seeL_len] at this; exact this
  simp only [seeL, List.getElem?_map, Option.map_eq_some_iff, List.getElem?_range hin] at h
  obtain ⟨j, hj, rfl⟩ := h
  injection hj with hj
  subst hj
  rw [seeAt, List.getD_eq_getElem?_getD]
  have hlt : ((start + (i : Int)) % ((phasesL x co).length : Int)).toNat < (phasesL x co).length := by
    have := Int.emod_lt_of_pos (start + (i : Int)) (show (0 : Int) < ((phasesL x co).length : Int) by omega)
    have := Int.emod_nonneg (start + (i : Int)) (show ((phasesL x co).length : Int) ≠ 0 by omega)
    omega
  have hg := List.getElem?_eq_getElem hlt
  rw [hg, Option.getD_some, phases_col hg]
  by_cases hk : x.k = 1
  · obtain rfl : i = 0 := by have := hn hk; omega
    have : (phasesL x co).length = 1 := by rw [phasesL, if_pos hk]; rfl
    rw [this]
    have : ocB x = false := by simp [ocB, hk]
    simp [litAt, this]
  · have he := phases_even (co := co) hv hk
    obtain ⟨N, hNN⟩ : ∃ N, (phasesL x co).length = N := ⟨_, rfl⟩
    rw [hNN] at he h1 hlt ⊢
    obtain ⟨s, rfl⟩ : ∃ s : Nat, start = s := ⟨start.toNat, by omega⟩
    simp only [Int.toNat_natCast] at h1 h2
    have e1 : (((s : Int) + (i : Int)) % (N : Int)).toNat = (s + i) % N := by
      rw [← Int.natCast_add, ← Int.natCast_emod, Int.toNat_natCast]
    rw [e1]
    have e2 : (s + i) % N % 2 = (s + i) % 2 := Nat.mod_mod_of_dvd _ (by omega)
    unfold litAt at h2 ⊢
    rw [e2]
    cases hoc : ocB x <;> rw [hoc] at h2 <;> simp at h2 ⊢
    all_goals
      by_cases hi : i % 2 = 1
      · rw [decide_eq_true hi]
        first
        | (rw [decide_eq_false (by omega)]; done)
        | (rw [decide_eq_false (by omega)]; rfl)
        | (rw [decide_eq_true (by omega)]; done)
        | (rw [decide_eq_true (by omega)]; rfl)
      · rw [decide_eq_false hi]
        first
        | (rw [decide_eq_true (by omega)]; done)
        | (rw [decide_eq_true (by omega)]; rfl)
        | (rw [decide_eq_false (by omega)]; done)
        | (rw [decide_eq_false (by omega)]; rfl)
theorem see_len {x : Ch} {co : ByteArray} {start : Int} (hv : validB x = true) {n i : Nat} {p : Ph} (h : (seeL (phasesL x co) start n)[i]? = some p) : 1 ≤ p.len ∧ p.len ≤ 600 := by
  have hN := phases_len (co := co) (valid_shape hv)
  have hin : i < n := by have := (List.getElem?_eq_some_iff.1 h).1; rw [seeL_len] at this; exact this
  simp only [seeL, List.getElem?_map, Option.map_eq_some_iff, List.getElem?_range hin] at h
  obtain ⟨j, hj, rfl⟩ := h
  rw [seeAt, List.getD_eq_getElem?_getD]
  have hlt : ((start + (j : Int)) % ((phasesL x co).length : Int)).toNat < (phasesL x co).length := by
    have := Int.emod_lt_of_pos (start + (j : Int)) (show (0 : Int) < ((phasesL x co).length : Int) by omega)
    have := Int.emod_nonneg (start + (j : Int)) (show ((phasesL x co).length : Int) ≠ 0 by omega)
    omega
  have hg := List.getElem?_eq_getElem hlt
  rw [hg, Option.getD_some]
  exact phases_pos hv _ (List.getElem_mem _)
theorem see_hc {x : Ch} {co : ByteArray} {start : Int} (hv : validB x = true) (hco : co.toList.isEmpty = false) (hs : startB (phasesL x co) start = true) {n : Nat} (hn : x.k = 1 → n = 1) (h1 : 1 ≤ n) : hcO (seeL (phasesL x co) start n) = co := by
  have hl := seeL_len (phasesL x co) start n
  have hg : (seeL (phasesL x co) start n)[0]? = some ((seeL (phasesL x co) start n)[0]'(by omega)) := List.getElem?_eq_getElem _
  rw [hcO_at hg, see_col hv hco hs hn hg]
  rfl
theorem see_obs {x : Ch} {co : ByteArray} {start : Int} (hv : validB x = true) (hco : colB co = true) (hs : startB (phasesL x co) start = true) {n : Nat} (hn : x.k = 1 → n = 1) (h1 : 1 ≤ n) (h2 : n ≤ 24) : obsB (seeL (phasesL x co) start n) = true := by
  have hE := colB_E2 hco
  have hc := see_hc hv hE hs hn h1
  rw [obsB_i, hc, hco, seeL_len]
  have h3 : inB n 1 24 = true := inB_iff.2 ⟨by omega, by omega⟩
  rw [h3]
  simp only [Bool.and_true, allB_iff]
  intro i hi
  have hg : (seeL (phasesL x co) start n)[i]? = some ((seeL (phasesL x co) start n)[i]'(by rw [seeL_len]; exact hi)) := List.getElem?_eq_getElem _
  have h4 := see_len hv hg
  rw [iOk_at hg, see_col hv hE hs hn hg, hc, inB_iff.2 ⟨h4.1, by omega⟩]
  by_cases ho : i % 2 = 1
  · rw [decide_eq_true ho]; simp
  · rw [decide_eq_false ho]; simp
end Go.Proofs.YtgibbhipjpbdfaaGreat
