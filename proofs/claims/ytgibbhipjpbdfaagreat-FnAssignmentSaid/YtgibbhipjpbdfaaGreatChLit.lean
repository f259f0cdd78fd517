
/- Characters: how long lit. -/
import Derived.Test.YtgibbhipjpbdfaaGreatChPhI
namespace Go.Proofs.YtgibbhipjpbdfaaGreat
open Go.RowKit
theorem eS_E : (⟨#[]⟩ : ByteArray).toList.isEmpty = true := by rw [(toList_nil _).2 rfl]; rfl
theorem wS_E : (⟨#[87]⟩ : ByteArray).toList.isEmpty = false := isE_no (by decide)
theorem litI_co (x : Ch) (co co' : ByteArray) (h : co.toList.isEmpty = co'.toList.isEmpty) : litI (phasesL x co) = litI (phasesL x co') := by
  have e0 : ∀ c : ByteArray, ∀ b : Bool, (bif b then c else (⟨#[]⟩ : ByteArray)).toList.isEmpty = (bif b then c.toList.isEmpty else true) := fun c b => by cases b <;> simp
  simp only [litI]
  congr 1
  unfold phasesL
  split
  · simp [h]
  split
  · simp [h]
  · apply List.ext_getElem?
    intro i
    simp only [altL, List.getElem?_map, List.getElem?_mapIdx]
    cases (timesL x ++ [if steadyB x = true then gapI x.k else x.p - (timesL x).sum])[i]? with
    | none => rfl
    | some t => simp only [Option.map_some, altP, e0, h]
theorem lit_bd : ∀ {ps : List Ph}, (∀ p ∈ ps, 0 ≤ p.len ∧ p.len ≤ 600) → 0 ≤ litI ps ∧ litI ps ≤ 600 * ps.length
  | [], _ => by simp [litI]
  | p :: ps, h => by
    have h1 := lit_bd (ps := ps) fun q hq => h q (List.mem_cons_of_mem _ hq)
    have h2 := h p List.mem_cons_self
    have e : litI (p :: ps) = (bif p.c.toList.isEmpty then 0 else p.len) + litI ps := by simp [litI]
    rw [e, List.length_cons]
    cases p.c.toList.isEmpty <;> simp <;> omega
theorem Sl.ph {w : World} {B n : Nat} {A : Option Addr} {xs : List Ph} (h : Sl w B 2 A n (xs.flatMap Ph.cells)) (k : Nat) (hk : k < n) :
    ∃ b off x, A = some ⟨b, off, none⟩ ∧ b < B ∧ xs[k]? = some x ∧ w.cell? ⟨b, off + k * 2, none⟩ = some (.string x.c) ∧ w.cell? ⟨b, off + k * 2 + 1, none⟩ = some (.int .i64 x.len) := by
  obtain ⟨b, off, s, hA, hb, hx, hc⟩ := h.get Ph.cells 2 Ph.cells_len (by omega) k hk
  exact ⟨b, off, s, hA, hb, hx, hc 0 _ rfl, hc 1 _ rfl⟩
theorem colors_one {x : Ch} (h : validB x = true) : 1 ≤ x.cs.size ∧ x.cs.size ≤ 3 := by
  have hsh := valid_shape h
  simp only [shapeB, colorsB, Bool.and_eq_true, decide_eq_true_eq] at hsh
  exact hsh.1.2
theorem one_ne {s : ByteArray} (h : 1 ≤ s.size) : (s.extract 0 1).toList.isEmpty = false := by
  apply isE_no
  rw [ByteArray.size_extract]; omega
end Go.Proofs.YtgibbhipjpbdfaaGreat
