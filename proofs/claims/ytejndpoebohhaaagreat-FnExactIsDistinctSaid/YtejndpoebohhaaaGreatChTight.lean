/- How many phases there are at most; the phases at which an observation can begin. -/
import Derived.Test.YtejndpoebohhaaaGreatChMat
namespace Go.Proofs.YtejndpoebohhaaaGreat
open Go.RowKit
theorem inner_len_eq (k : Int) (i : Nat) {m : Nat} (h : 0 < m) : (innerT k i m).length + (if i = 0 then 1 else 0) = 2 * m := by
  have := inner_odd k i m h
  split at this <;> split <;> omega
theorem outer_len_eq (k : Int) {g : List Int} (hg : ∀ x ∈ g, 1 ≤ x ∧ x ≤ 9) : ∀ r, 0 < r → r ≤ g.length → ((outerT k g r).length : Int) + 1 = 2 * (g.take r).sum
  | 0, h, _ => by omega
  | r + 1, _, hr => by
    have hx : g[r]? = some (g[r]'(by omega)) := List.getElem?_eq_getElem (by omega)
    have h9 := hg _ (List.mem_of_getElem? hx)
    rw [outerT_next k hx, List.length_append, sum_next hx]
    have hi := inner_len_eq k r (m := (g[r]'(by omega)).toNat) (by omega)
    rcases Nat.eq_zero_or_pos r with h0 | h0
    · subst h0
      simp [outerT] at hi ⊢
      omega
    · have := outer_len_eq k hg r h0 (by omega)
      rw [if_neg (by omega)] at hi
      omega
theorem times_len {x : Ch} (h : shapeB x = true) : (timesL x).length ≤ 25 := by
  have ht := shape_TOk h
  have hf : fitsB x = true := by simp [shapeB] at h; exact h.2
  unfold timesL
  split
  · rename_i h8
    obtain ⟨h1, h2, h3⟩ := ht.mo h8
    have hms := morse_size (letN x) (by unfold letN; omega)
    have := mT_len (morse (letN x)) (morse (letN x)).size
    omega
  · rename_i h8
    obtain ⟨g1, g4, g9⟩ := grp_ok h8 ht
    have hs : (grp x).sum ≤ 12 := by
      have hgb : ∀ {gs : List Int}, groupB gs = true → gs.sum ≤ 12 := fun {gs} hg => by
        simp only [groupB, Bool.and_eq_true, decide_eq_true_eq] at hg
        exact hg.2.2.1
      unfold grp
      split
      · simp
      · rename_i hne
        unfold fitsB at hf
        split at hf
        · simp only [Bool.and_eq_true, decide_eq_true_eq] at hf
          exact absurd hf.1 hne
        split at hf
        · simp only [Bool.and_eq_true] at hf
          exact hgb hf.2
        split at hf
        · split at hf
          · simp only [decide_eq_true_eq] at hf
            rw [hf]; simp
          · simp only [Bool.and_eq_true] at hf
            exact hgb hf.2.2
        simp at hf
    have ho := outer_len_eq x.k g9 (grp x).length (by omega) (Nat.le_refl _)
    rw [List.take_of_length_le (Nat.le_refl _)] at ho
    rw [List.length_append]
    split <;> simp <;> omega
theorem phases_len40 {x : Ch} {co : ByteArray} (h : shapeB x = true) : (phasesL x co).length ≤ 40 := by
  have := times_len h
  unfold phasesL
  (repeat' split) <;> (try rw [altL_len]) <;> simp <;> omega
theorem phases_len_co (x : Ch) (co co' : ByteArray) : (phasesL x co).length = (phasesL x co').length := by
  unfold phasesL
  (repeat' split) <;> (try rw [altL_len, altL_len]) <;> simp
def startsL (x : Ch) (o : List Ph) (tol : Int) : List Nat := (List.range 40).filter fun (i : Nat) => fromB x o (i : Int) tol
def firstI (xs : List Nat) : Int := match xs with | [] => -1 | i :: _ => (i : Int)
theorem from_lt {x : Ch} {o : List Ph} {i : Nat} {tol : Int} (hco : (hcO o).toList.isEmpty = false) (h : fromB x o (i : Int) tol = true) (co : ByteArray) : i < (phasesL x co).length := by
  have hs : startB (phasesL x (hcO o)) (i : Int) = true := by
    unfold fromB at h
    simp only [Bool.and_eq_true] at h
    cases hk : (x.k == 1)
    · rw [hk] at h
      simp only [cond_false, Bool.and_eq_true] at h
      exact h.2.1
    · rw [hk] at h
      rw [start_fixed hk hco]
      simp only [cond_true, Bool.and_eq_true] at h
      exact h.2.1
  have := (startB_lt hs).2
  rw [phases_len_co x co (hcO o)]
  omega
theorem filter_head {p : Nat → Bool} : ∀ {n k : Nat}, k < n → (∀ j, j < k → p j = false) → p k = true → ∃ r, (List.range n).filter p = k :: r := by
  intro n k hk h0 h1
  obtain ⟨m, rfl⟩ : ∃ m, n = k + (m + 1) := ⟨n - k - 1, by omega⟩
  rw [List.range_add, List.filter_append]
  have : (List.range k).filter p = [] := by
    rw [List.filter_eq_nil_iff]
    intro a ha
    rw [h0 a (by simpa using ha)]; simp
  rw [this, List.nil_append, List.range_succ_eq_map, List.map_cons, List.filter_cons]
  simp [h1]
theorem starts_first {x : Ch} {o : List Ph} {tol : Int} {k : Nat} (hk : k < 40) (h0 : ∀ j, j < k → fromB x o (j : Int) tol = false) (h1 : fromB x o (k : Int) tol = true) : firstI (startsL x o tol) = k := by
  obtain ⟨r, hr⟩ := filter_head (p := fun (i : Nat) => fromB x o (i : Int) tol) hk h0 h1
  rw [startsL, hr, firstI]
theorem starts_none {x : Ch} {o : List Ph} {tol : Int} {k : Nat} (hco : (hcO o).toList.isEmpty = false) (co : ByteArray) (hk : (phasesL x co).length ≤ k) (h0 : ∀ j, j < k → fromB x o (j : Int) tol = false) : startsL x o tol = [] := by
  rw [startsL, List.filter_eq_nil_iff]
  intro a _ h
  have := from_lt hco h co
  rw [h0 a (by omega)] at h
  cases h
theorem starts_next (x : Ch) (o : List Ph) (tol : Int) (k : Nat) : (List.range (k + 1)).filter (fun (i : Nat) => fromB x o (i : Int) tol) = (List.range k).filter (fun (i : Nat) => fromB x o (i : Int) tol) ++ (if fromB x o (k : Int) tol = true then [k] else []) := by
  rw [List.range_succ, List.filter_append]
  simp [List.filter_cons]
/-- How far an observation differs at place i. -/
def errAt (o see : List Ph) (i : Nat) : Int := if i + 1 = o.length ∧ lenO o i - lenO see i < 0 then 0 else max (lenO o i - lenO see i) (lenO see i - lenO o i)
def errS (o see : List Ph) (m : Nat) : Int := ((List.range m).map (errAt o see)).sum
theorem errS_next (o see : List Ph) (m : Nat) : errS o see (m + 1) = errS o see m + errAt o see m := by simp [errS, List.range_succ]
def errI (x : Ch) (o : List Ph) (start : Int) : Int := bif x.k == 1 then 0 else errS o (seeL (phasesL x (hcO o)) start o.length) o.length
end Go.Proofs.YtejndpoebohhaaaGreat
