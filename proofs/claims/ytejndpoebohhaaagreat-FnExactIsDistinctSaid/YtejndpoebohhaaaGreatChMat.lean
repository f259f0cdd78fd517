/- Whether an observation can begin at a phase, both sides. -/
import Derived.Test.YtejndpoebohhaaaGreatObsOk
import Derived.Test.YtejndpoebohhaaaGreatChObs
namespace Go.Proofs.YtejndpoebohhaaaGreat
open Go.RowKit
def lenO (o : List Ph) (i : Nat) : Int := (o.getD i ⟨⟨#[]⟩, 0⟩).len
theorem lenO_at {o : List Ph} {i : Nat} {p : Ph} (h : o[i]? = some p) : lenO o i = p.len := by rw [lenO, List.getD_eq_getElem?_getD, h]; rfl
def failB (o see : List Ph) (tol : Int) (i : Nat) : Bool := decide (tol < lenO o i - lenO see i) || (decide (lenO o i - lenO see i < -tol) && !decide (i + 1 = o.length))
def okAtB (o see : List Ph) (tol : Int) (i : Nat) : Bool := !failB o see tol i
def fromB (x : Ch) (o : List Ph) (start tol : Int) : Bool :=
  hasC x.cs (hcO o) && (bif x.k == 1 then decide (start = 0) && decide (o.length = 1)
    else startB (phasesL x (hcO o)) start && allB o.length (okAtB o (seeL (phasesL x (hcO o)) start o.length) tol))
/-- What is known of an observation. -/
structure ObsOK (o : List Ph) (n : Nat) : Prop where
  n1 : 1 ≤ n
  n24 : n ≤ 24
  col : colB (hcO o) = true
  lens : ∀ p ∈ o, 1 ≤ p.len ∧ p.len ≤ 1200
theorem obsB_ok {o : List Ph} {n : Nat} (h : obsB o = true) (hl : o.length = n) : ObsOK o n := by
  rw [obsB_i] at h
  simp only [Bool.and_eq_true, allB_iff] at h
  obtain ⟨h1, h2, h3⟩ := h
  have := inB_iff.1 h2
  refine ⟨by omega, by omega, h3, fun p hp => ?_⟩
  obtain ⟨i, hi⟩ := List.mem_iff_getElem?.1 hp
  have h4 := h1 i (List.getElem?_eq_some_iff.1 hi).1
  rw [iOk_at hi] at h4
  simp only [Bool.and_eq_true] at h4
  exact inB_iff.1 h4.1
theorem see_bd {x : Ch} {co : ByteArray} (h : validB x = true) (start : Int) (m : Nat) : ∀ p ∈ seeL (phasesL x co) start m, 0 ≤ p.len ∧ p.len ≤ 600 := by
  intro p hp
  simp only [seeL, List.mem_map] at hp
  obtain ⟨i, _, rfl⟩ := hp
  rw [seeAt, List.getD_eq_getElem?_getD]
  cases hq : (phasesL x co)[((start + (i : Int)) % ((phasesL x co).length : Int)).toNat]? with
  | none => simp
  | some q => exact phases_bd h q (List.mem_of_getElem? hq)
theorem start_fixed {x : Ch} {co : ByteArray} (hk : (x.k == 1) = true) (hco : co.toList.isEmpty = false) (start : Int) : startB (phasesL x co) start = decide (start = 0) := by
  have h1 : x.k = 1 := by simpa using hk
  rw [startB, phasesL, if_pos h1]
  by_cases h0 : start = 0
  · subst h0; simp [hco]
  · rw [decide_eq_false h0]
    by_cases hs : 0 ≤ start
    · have : start.toNat ≠ 0 := by omega
      cases hn : start.toNat with
      | zero => exact absurd hn this
      | succ m => simp
    · rw [decide_eq_false hs]; rfl
end Go.Proofs.YtejndpoebohhaaaGreat
