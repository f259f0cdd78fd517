/- IsMarked: the sides of a danger that are marked. Plain facts, no program. -/
import Derived.Test.YtnmkpegdbgebeaaGreatDoorDanG
import Derived.Test.YtnmkpegdbgebeaaGreatDoorAidsG
import Derived.Test.YtnmkpegdbgebeaaGreatDoorPut
namespace Go.Proofs.YtnmkpegdbgebeaaGreatDoor
open Go.RowKit
noncomputable def sideB (d : Dang) (l : List AidX) (y : Int) (k : Int) : Bool := l.any fun a => marksB d a y && (a.mr.k == k)
noncomputable def sidesL (d : Dang) (l : List AidX) (y : Int) : List Int := ([3, 4, 5, 6] : List Int).filter (sideB d l y)
noncomputable def isMkB (d : Dang) (l : List AidX) (y : Int) : Bool := danB d && (aidsB l && (inB y 0 20000 && decide ((sidesL d l y).length = 4)))
theorem put_filter (q : Int → Bool) (k : Int) (h : 3 ≤ k ∧ k ≤ 6) : putL (([3, 4, 5, 6] : List Int).filter q) k = ([3, 4, 5, 6] : List Int).filter fun x => q x || (k == x) := by
  have h4 : k = 3 ∨ k = 4 ∨ k = 5 ∨ k = 6 := by omega
  rcases h4 with rfl | rfl | rfl | rfl <;> cases h3 : q 3 <;> cases h4 : q 4 <;> cases h5 : q 5 <;> cases h6 : q 6 <;> simp [List.filter, putL, h3, h4, h5, h6]
theorem side_next {d : Dang} {l : List AidX} {y : Int} {i : Nat} {a : AidX} (h : l[i]? = some a) (k : Int) : sideB d (l.take (i + 1)) y k = (sideB d (l.take i) y k || (marksB d a y && (a.mr.k == k))) := by
  rw [sideB, List.take_add_one, h, List.any_append]
  simp [sideB]
theorem sides_yes {d : Dang} {l : List AidX} {y : Int} {i : Nat} {a : AidX} (h : l[i]? = some a) (hm : marksB d a y = true) : sidesL d (l.take (i + 1)) y = putL (sidesL d (l.take i) y) a.mr.k := by
  have hk : 3 ≤ a.mr.k ∧ a.mr.k ≤ 6 := by
    simp only [marksB, Bool.and_eq_true] at hm
    exact inB_iff.1 hm.1
  rw [sidesL, sidesL, put_filter _ _ hk]
  congr 1
  funext x
  rw [side_next h, hm, Bool.true_and]
theorem sides_no {d : Dang} {l : List AidX} {y : Int} {i : Nat} {a : AidX} (h : l[i]? = some a) (hm : marksB d a y = false) : sidesL d (l.take (i + 1)) y = sidesL d (l.take i) y := by
  rw [sidesL, sidesL]
  congr 1
  funext x
  rw [side_next h, hm, Bool.false_and, Bool.or_false]
theorem sides_len (d : Dang) (l : List AidX) (y : Int) : (sidesL d l y).length ≤ 4 := List.length_filter_le _ _
theorem sides_nil (d : Dang) (y : Int) : sidesL d [] y = [] := by
  rw [sidesL, List.filter_eq_nil_iff]; intro x _; simp [sideB]
theorem aids_all {l : List AidX} (h : aidsB l = true) : ∀ a ∈ l, aidB a = true := fun a ha => by
  simp only [aidsB, decide_eq_true_eq] at h
  obtain ⟨i, hi⟩ := List.getElem?_of_mem ha
  have := h.2.1 i (List.getElem?_eq_some_iff.1 hi).1
  rw [aAt, List.getD_eq_getElem?_getD, hi] at this
  exact this
end Go.Proofs.YtnmkpegdbgebeaaGreatDoor
