/- PhasesNeeded: what both sides compute. Plain facts, no program. -/
import Derived.Test.YtgfplmfdgbklkaaLtPos
namespace Go.Proofs.Ytgfplmfdgbklkaa
open Go.RowKit
theorem colB_ext {x : Ch} (h : validB x = true) {i : Nat} (hi : i < x.cs.size) : colB (x.cs.extract i (i + 1)) = true := by
  have hsh := valid_shape h
  simp only [shapeB, colorsB, Bool.and_eq_true, allB_iff] at hsh
  have h1 := hsh.1.1 i hi
  simp only [colOk, Bool.and_eq_true, decide_eq_true_eq] at h1
  have h2 := h1.1
  rw [bt_eq _ _ hi] at h2
  have h3 : (x.cs[i].toNat : Int) = 87 ∨ (x.cs[i].toNat : Int) = 82 ∨ (x.cs[i].toNat : Int) = 71 ∨ (x.cs[i].toNat : Int) = 89 := by
    unfold rankI at h2
    (repeat' split at h2) <;> omega
  have e : ∀ {c : UInt8} {n : Nat}, (c.toNat : Int) = (n : Int) → n < 256 → c = n.toUInt8 := by
    intro c n h hn
    have : c.toNat = n := by omega
    rw [← this]; simp
  rw [colB, ext_one _ _ hi]
  rcases h3 with h3 | h3 | h3 | h3
  · rw [e (n := 87) h3 (by decide)]; decide
  · rw [e (n := 82) h3 (by decide)]; decide
  · rw [e (n := 71) h3 (by decide)]; decide
  · rw [e (n := 89) h3 (by decide)]; decide
theorem hasC_ext (s : ByteArray) {i : Nat} (hi : i < s.size) : hasC s (s.extract i (i + 1)) = true := by
  rw [hasC, ext_one _ _ hi]
  simp only [decide_eq_true_eq]
  rw [toL]
  have : s.data.toList[i]? = some s[i] := by rw [List.getElem?_eq_getElem (by simpa using hi)]; rfl
  exact List.mem_of_getElem? this
abbrev oneC (s : ByteArray) : ByteArray := s.extract 0 1
def firstLit (x : Ch) : Int := bif ocB x then 1 else 0
theorem firstLit_bd (x : Ch) : 0 ≤ firstLit x ∧ firstLit x ≤ 1 := by unfold firstLit; cases ocB x <;> simp
theorem oneC_col {x : Ch} (h : validB x = true) : colB (oneC x.cs) = true := colB_ext h (i := 0) (by have := colors_one h; omega)
theorem start_first {x : Ch} (hv : validB x = true) : startB (phasesL x (oneC x.cs)) (firstLit x) = true := by
  have hE := colB_E2 (oneC_col hv)
  have hN := phases_len (co := oneC x.cs) (valid_shape hv)
  rw [start_at hE]
  unfold firstLit
  cases hoc : ocB x
  · simp [litAt]; omega
  · have hk : x.k = 2 := by simpa [ocB] using hoc
    have := phases_even (co := oneC x.cs) hv (by omega)
    simp [litAt]; omega
theorem start_zero {x : Ch} (hv : validB x = true) : startB (phasesL x (oneC x.cs)) 0 = !ocB x := by
  have hE := colB_E2 (oneC_col hv)
  have hN := phases_len (co := oneC x.cs) (valid_shape hv)
  rw [start_at hE]
  cases hoc : ocB x
  · simp [litAt]; omega
  · simp [litAt]
def needB (zs : List ChG) (x : Ch) (tol : Int) (j : Nat) : Bool := (!(x.k == 1) || decide (j = 0)) && decide ((hitsL zs (seeL (phasesL x (oneC x.cs)) (firstLit x) (j + 1)) tol).length = 1)
def needI (zs : List ChG) (x : Ch) (tol : Int) : Int := firstI ((List.range 24).filter (needB zs x tol))
theorem need_first {zs : List ChG} {x : Ch} {tol : Int} {k : Nat} (hk : k < 24) (h0 : ∀ j, j < k → needB zs x tol j = false) (h1 : needB zs x tol k = true) : needI zs x tol = k := by
  obtain ⟨r, hr⟩ := filter_head hk h0 h1
  rw [needI, hr]; rfl
theorem need_none {zs : List ChG} {x : Ch} {tol : Int} (h0 : ∀ j, j < 24 → needB zs x tol j = false) : needI zs x tol = -1 := by
  have : (List.range 24).filter (needB zs x tol) = [] := by
    rw [List.filter_eq_nil_iff]
    intro i hi h
    rw [h0 i (List.mem_range.1 hi)] at h
    cases h
  rw [needI, this]; rfl
theorem need_fixed {zs : List ChG} {x : Ch} {tol : Int} (hk : x.k = 1) (h0 : needB zs x tol 0 = false) : needI zs x tol = -1 := by
  apply need_none
  intro j _
  rcases j with _ | j
  · exact h0
  · simp [needB, hk]
/-- The questions: list valid, the index in it, the tolerance. -/
def pnC (zs : List ChG) (k tol : Int) : Int := bif lightsB zs then (bif (decide (0 ≤ k) && decide (k < zs.length)) && inB tol 0 100 then 0 else 2) else 1
def pnI (zs : List ChG) (k tol : Int) : Int := match zs[k.toNat]? with | none => -1 | some z => needI zs z.x tol
def pnV (zs : List ChG) (k tol : Int) : Int := bif (pnC zs k tol == 0) && decide (0 ≤ pnI zs k tol) then pnI zs k tol + 1 else 0
def pnK (zs : List ChG) (k tol : Int) : Int := bif pnC zs k tol == 0 then (bif decide (0 ≤ pnI zs k tol) then 0 else 3) else pnC zs k tol
theorem pnI_at {zs : List ChG} {k : Nat} {z : ChG} (h : zs[k]? = some z) (tol : Int) : pnI zs (k : Int) tol = needI zs z.x tol := by rw [pnI, Int.toNat_natCast, h]
end Go.Proofs.Ytgfplmfdgbklkaa
