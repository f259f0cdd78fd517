
/- IsDistinct: two characters clash in both orders; what a distinct choice is. Plain facts, no program. -/
import Derived.Test.YtgibbhipjpbdfaaGreatChC
import Derived.Test.YtgibbhipjpbdfaaGreatDdA
namespace Go.Proofs.YtgibbhipjpbdfaaGreat
open Go.RowKit
theorem close1_symm (a b : List (Int × Int)) (i j : Nat) (tol : Int) : close1 a b i j tol = close1 b a j i tol := by
  unfold close1
  cases a[i]? <;> cases b[j]? <;> simp only []
  rename_i x y
  rw [Bool.eq_iff_iff]
  simp only [Bool.and_eq_true, decide_eq_true_eq]
  constructor <;> intro h <;> exact ⟨h.1.symm, by omega, by omega⟩
theorem close_half {a b : List (Int × Int)} {tol : Int} (h : closeB a b tol = true) : closeB b a tol = true := by
  simp only [closeB, Bool.and_eq_true, decide_eq_true_eq, List.any_eq_true, List.mem_range] at h ⊢
  obtain ⟨hl, f, hf, ht⟩ := h
  obtain ⟨n, hn⟩ : ∃ n, a.length = n := ⟨_, rfl⟩
  have hb : b.length = n := by omega
  rw [hb] at hf
  refine ⟨hl.symm, (n - f) % n, by rw [hn]; exact Nat.mod_lt _ (by omega), ?_⟩
  rw [turnB, allB_iff] at ht ⊢
  intro j hj
  rw [hb] at hj
  rw [hn]
  have hi : ((n - f) % n + j) % n < n := Nat.mod_lt _ (by omega)
  have h1 := ht _ (by rw [hn]; exact hi)
  have e : (f + ((n - f) % n + j) % n) % n = j := by
    rw [Nat.add_mod_mod, Nat.add_left_comm, Nat.mod_add_mod, ← Nat.add_assoc, Nat.sub_add_cancel (by omega), Nat.add_mod_left, Nat.mod_eq_of_lt hj]
  rw [hb, e] at h1
  rw [close1_symm]
  exact h1
theorem close_symm (a b : List (Int × Int)) (tol : Int) : closeB a b tol = closeB b a tol := by
  rw [Bool.eq_iff_iff]; exact ⟨close_half, close_half⟩
theorem com_half {x y : Ch} (h : comB x y = true) : comB y x = true := by
  obtain ⟨i, hi, h1⟩ := List.any_eq_true.1 h
  have hi := List.mem_range.1 hi
  rw [colAtB, hasC, ext_one _ _ hi] at h1
  simp only [decide_eq_true_eq] at h1
  obtain ⟨j, hj⟩ := List.getElem?_of_mem h1
  have hj1 := (List.getElem?_eq_some_iff.1 hj).1
  rw [toL_len] at hj1
  refine List.any_eq_true.2 ⟨j, List.mem_range.2 hj1, ?_⟩
  rw [colAtB, hasC, ext_one _ _ hj1]
  simp only [decide_eq_true_eq]
  rw [toL] at hj ⊢
  have e : y.cs.data.toList[j]? = some y.cs[j] := by rw [List.getElem?_eq_getElem (by simpa using hj1)]; rfl
  rw [e] at hj
  rw [Option.some.inj hj]
  have e2 : x.cs.data.toList[i]? = some x.cs[i] := by rw [List.getElem?_eq_getElem (by simpa using hi)]; rfl
  exact List.mem_of_getElem? e2
theorem conf_symm (x y : Ch) (tol : Int) : confV x y tol = confV y x tol := by
  have h1 : comB x y = comB y x := by rw [Bool.eq_iff_iff]; exact ⟨com_half, com_half⟩
  rw [confV, confV, h1, confB, confB, close_symm]
theorem clP_symm (xs : List Ch) (tol : Int) (i j : Nat) : clP xs tol i j = clP xs tol j i := conf_symm _ _ _
def tabB (p : Nat → Nat → Bool) (i j : Nat) : Bool := decide (i = j) || p i j
theorem tab_symm {p : Nat → Nat → Bool} (h : ∀ i j, p i j = p j i) (i j : Nat) : tabB p i j = tabB p j i := by
  rw [tabB, tabB, h i j]
  congr 1
  rw [decide_eq_decide]
  exact eq_comm
def atI (ch : List Int) (a : Int) : Nat := (ch[a.toNat]?.getD 0).toNat
def disK (p : Nat → Nat → Bool) (ch : List Int) (pss : List (List Int)) (k : Nat) : Bool := match pss[k]? with
  | some [a, b] => !(tabB p (atI ch a) (atI ch b))
  | _ => true
def inCh (ch : List Int) (m : Nat) : Bool := ch.all fun x => inB x 0 ((m : Int) - 1)
def disB (pss : List (List Int)) (ch : List Int) (xs : List Ch) (tol : Int) : Bool :=
  pairsB pss ch.length && (xs.all validB && (decide (xs.length ≤ 12) && (inB tol 0 20 && (inCh ch xs.length && allB pss.length (disK (clP xs tol) ch pss)))))
theorem disK_at {p : Nat → Nat → Bool} {ch : List Int} {pss : List (List Int)} {k : Nat} {a b x y : Int} (h : pss[k]? = some [a, b]) (hx : ch[a.toNat]? = some x) (hy : ch[b.toNat]? = some y) : disK p ch pss k = !(tabB p x.toNat y.toNat) := by
  simp only [disK, h, atI, hx, hy, Option.getD_some]
theorem inCh_iff {ch : List Int} {m : Nat} : inCh ch m = true ↔ ∀ x ∈ ch, 0 ≤ x ∧ x ≤ (m : Int) - 1 := by
  rw [inCh, List.all_eq_true]
  exact ⟨fun h x hx => inB_iff.1 (h x hx), fun h x hx => inB_iff.2 (h x hx)⟩
end Go.Proofs.YtgibbhipjpbdfaaGreat
