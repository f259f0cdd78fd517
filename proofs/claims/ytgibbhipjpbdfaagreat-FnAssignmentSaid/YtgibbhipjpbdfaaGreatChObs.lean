
/- What is observed of a light, both sides. -/
import Derived.Test.YtgibbhipjpbdfaaGreatChOf
import Derived.Test.YtgibbhipjpbdfaaGreatChLit
namespace Go.Proofs.YtgibbhipjpbdfaaGreat
open Go.RowKit
def startB (ps : List Ph) (start : Int) : Bool := decide (0 ≤ start) && match ps[start.toNat]? with | some p => !p.c.toList.isEmpty | none => false
def seeAt (ps : List Ph) (start : Int) (i : Nat) : Ph := ps.getD ((start + i) % ps.length).toNat ⟨⟨#[]⟩, 0⟩
def seeL (ps : List Ph) (start : Int) (m : Nat) : List Ph := (List.range m).map (seeAt ps start)
theorem seeL_next (ps : List Ph) (start : Int) (m : Nat) : seeL ps start (m + 1) = seeL ps start m ++ [seeAt ps start m] := by simp [seeL, List.range_succ]
theorem seeL_len (ps : List Ph) (start : Int) (m : Nat) : (seeL ps start m).length = m := by simp [seeL]
theorem startB_lt {ps : List Ph} {start : Int} (h : startB ps start = true) : 0 ≤ start ∧ start < ps.length := by
  simp only [startB, Bool.and_eq_true, decide_eq_true_eq] at h
  refine ⟨h.1, ?_⟩
  have h2 := h.2
  cases hp : ps[start.toNat]? with
  | none => rw [hp] at h2; simp at h2
  | some p => have := (List.getElem?_eq_some_iff.1 hp).1; omega
theorem startB_co (x : Ch) (co co' : ByteArray) (h : co.toList.isEmpty = co'.toList.isEmpty) (start : Int) : startB (phasesL x co) start = startB (phasesL x co') start := by
  have e0 : ∀ c : ByteArray, ∀ b : Bool, (bif b then c else (⟨#[]⟩ : ByteArray)).toList.isEmpty = (bif b then c.toList.isEmpty else true) := fun c b => by cases b <;> simp
  simp only [startB]
  congr 1
  have key : ∀ i : Nat, ((phasesL x co)[i]?).map (fun p => p.c.toList.isEmpty) = ((phasesL x co')[i]?).map (fun p => p.c.toList.isEmpty) := by
    intro i
    unfold phasesL
    split
    · cases i <;> simp [h]
    split
    · rcases i with _ | _ | i <;> simp [h]
    · simp only [altL, List.getElem?_mapIdx]
      cases (timesL x ++ [if steadyB x = true then gapI x.k else x.p - (timesL x).sum])[i]? with
      | none => rfl
      | some t => simp only [Option.map_some, altP, e0, h]
  have := key start.toNat
  cases h1 : (phasesL x co)[start.toNat]? <;> cases h2 : (phasesL x co')[start.toNat]? <;> rw [h1, h2] at this <;> simp at this
  · simp [this]
theorem see_get {w : World} {B n : Nat} {A : Option Addr} {ps : List Ph} (h : Sl w B 2 A n (ps.flatMap Ph.cells)) (hn : 0 < n) (start : Int) (_ : 0 ≤ start) (k : Nat) :
    ∃ b off, A = some ⟨b, off, none⟩ ∧ b < B ∧ w.cell? ⟨b, off + ((start + (k : Int)) % (n : Int)).toNat * 2, none⟩ = some (.string (seeAt ps start k).c) ∧ w.cell? ⟨b, off + ((start + (k : Int)) % (n : Int)).toNat * 2 + 1, none⟩ = some (.int .i64 (seeAt ps start k).len) := by
  have hl := h.len Ph.cells 2 Ph.cells_len (by omega)
  have h1 := Int.emod_nonneg (start + (k : Int)) (show (n : Int) ≠ 0 by omega)
  have h2 := Int.emod_lt_of_pos (start + (k : Int)) (show (0 : Int) < n by omega)
  obtain ⟨b, off, p, hA, hb, hp, c1, c2⟩ := h.ph ((start + (k : Int)) % (n : Int)).toNat (by omega)
  have he : seeAt ps start k = p := by rw [seeAt, hl, List.getD_eq_getElem?_getD, hp]; rfl
  exact ⟨b, off, hA, hb, by rw [he]; exact c1, by rw [he]; exact c2⟩
set_option maxHeartbeats 400000 in
theorem at_c (i n : Int) (w : World) : Calls Tryz.prog 19 #[.int .i64 i, .int .i64 n] w fun e w' => e = .returned (.bool (decide (0 ≤ i) && decide (i < n))) ∧ w = w' := by
  by_cases h : 0 ≤ i
  all_goals
    go_enter Tryz.func19, Tryz.ntmps19
    go_wp2
    go_ret
    exact ⟨ret_eq (bool_eq (by first | (simp [h]; done) | (simp; omega))), rfl⟩
end Go.Proofs.YtgibbhipjpbdfaaGreat
