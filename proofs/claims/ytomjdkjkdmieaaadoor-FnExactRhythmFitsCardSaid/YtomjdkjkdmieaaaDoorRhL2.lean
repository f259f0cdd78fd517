/- Rhythms that fit a mark: both sides ask the same. Plain. -/
import Derived.Test.YtomjdkjkdmieaaaDoorRhL
namespace Go.Proofs.YtomjdkjkdmieaaaDoor
open Go.RowKit
theorem charX_list {x : Ch} (hv : validB x = true) (h8 : x.k ≠ 8) : (charX x).toList = (kindT x.k).toList ++ ((grpX x.gs).toList ++ ((ltrX x.l).toList ++ (32 :: (x.cs.toList ++ (perT x.p).toList)))) := by
  rw [charX, if_pos hv, charT, headT, if_neg h8]
  simp only [bl_app, List.append_assoc]
  rw [show (⟨#[32]⟩ : ByteArray).toList = [32] from bl_mk _]
  rfl
theorem charX_8 {x : Ch} (hv : validB x = true) (h8 : x.k = 8) : ∃ t, (charX x).toList = 77 :: t := by
  rw [charX, if_pos hv, charT, headT, if_pos h8]
  simp only [bl_app]
  rw [show (kindT 8).toList = [77, 111] from bl_mk _]
  exact ⟨_, rfl⟩
theorem kind_list (k : Int) : (kindT k).toList = kindL.getD k.toNat [] := by
  rw [kindT, List.getD_eq_getElem?_getD, List.getElem?_map, List.getD_eq_getElem?_getD]
  cases kindL[k.toNat]? with
  | none => exact bl_mk _
  | some v => exact bl_mk _
/-- A text that begins with the kind K. -/
theorem is_text {x : Ch} (hv : validB x = true) (kd : Int) (K R : List UInt8) (hK : ∀ k, 1 ≤ k → k ≤ 7 → ∀ Q : List UInt8, (∃ h t, Q = h :: t ∧ (h = 40 ∨ h = 43 ∨ h = 32)) → ((kindL.getD k.toNat [] ++ Q = K ++ R) ↔ (k = kd ∧ Q = R))) (hM : ∀ t, (77 : UInt8) :: t ≠ K ++ R) (hk8 : kd ≠ 8) :
    ((charX x).toList = K ++ R) ↔ (x.k = kd ∧ (grpX x.gs).toList ++ ((ltrX x.l).toList ++ (32 :: (x.cs.toList ++ (perT x.p).toList))) = R) := by
  obtain ⟨hk, h4, hgs, h8', hn8⟩ := fits_cases hv
  by_cases h8 : x.k = 8
  · obtain ⟨t, ht⟩ := charX_8 hv h8
    rw [ht]
    exact ⟨fun h => absurd h (hM t), fun h => absurd (h.1.symm.trans h8) hk8⟩
  · rw [charX_list hv h8, kind_list]
    refine hK x.k hk.1 (by omega) _ ?_
    cases hg : x.gs with
    | nil =>
      rw [grp_nil, ltr_list]
      cases isL x.l
      · exact ⟨32, _, rfl, .inr (.inr rfl)⟩
      · exact ⟨43, _, rfl, .inr (.inl rfl)⟩
    | cons g r =>
      obtain ⟨R', e, -, -⟩ := grp_list (r := r) (hgs g (by rw [hg]; simp))
      rw [e]
      exact ⟨40, _, rfl, .inl rfl⟩
def seven (P : Int → Prop) : Prop := P 1 ∧ P 2 ∧ P 3 ∧ P 4 ∧ P 5 ∧ P 6 ∧ P 7
theorem is_Q {x : Ch} (hv : validB x = true) (d : UInt8) (hd : d = 40 ∨ d = 32) (R : List UInt8) : ((charX x).toList = 81 :: d :: R) ↔ (x.k = 6 ∧ (grpX x.gs).toList ++ ((ltrX x.l).toList ++ (32 :: (x.cs.toList ++ (perT x.p).toList))) = d :: R) := by
  refine is_text hv 6 [81] (d :: R) ?_ (by simp) (by decide)
  rcases hd with rfl | rfl
  all_goals
    intro k h1 h7 Q hQ
    obtain ⟨h, t, rfl, hh⟩ := hQ
    have hc : k = 1 ∨ k = 2 ∨ k = 3 ∨ k = 4 ∨ k = 5 ∨ k = 6 ∨ k = 7 := by omega
    rcases hc with rfl | rfl | rfl | rfl | rfl | rfl | rfl <;> rcases hh with rfl | rfl | rfl <;> simp [kindL]
theorem is_VQ {x : Ch} (hv : validB x = true) (d : UInt8) (hd : d = 40 ∨ d = 32) (R : List UInt8) : ((charX x).toList = 86 :: 81 :: d :: R) ↔ (x.k = 7 ∧ (grpX x.gs).toList ++ ((ltrX x.l).toList ++ (32 :: (x.cs.toList ++ (perT x.p).toList))) = d :: R) := by
  refine is_text hv 7 [86, 81] (d :: R) ?_ (by simp) (by decide)
  rcases hd with rfl | rfl
  all_goals
    intro k h1 h7 Q hQ
    obtain ⟨h, t, rfl, hh⟩ := hQ
    have hc : k = 1 ∨ k = 2 ∨ k = 3 ∨ k = 4 ∨ k = 5 ∨ k = 6 ∨ k = 7 := by omega
    rcases hc with rfl | rfl | rfl | rfl | rfl | rfl | rfl <;> rcases hh with rfl | rfl | rfl <;> simp [kindL]
theorem is_LFl {x : Ch} (hv : validB x = true) (R : List UInt8) : ((charX x).toList = 76 :: 70 :: 108 :: 32 :: R) ↔ (x.k = 5 ∧ (grpX x.gs).toList ++ ((ltrX x.l).toList ++ (32 :: (x.cs.toList ++ (perT x.p).toList))) = 32 :: R) := by
  refine is_text hv 5 [76, 70, 108] (32 :: R) ?_ (by simp) (by decide)
  intro k h1 h7 Q hQ
  obtain ⟨h, t, rfl, hh⟩ := hQ
  have hc : k = 1 ∨ k = 2 ∨ k = 3 ∨ k = 4 ∨ k = 5 ∨ k = 6 ∨ k = 7 := by omega
  rcases hc with rfl | rfl | rfl | rfl | rfl | rfl | rfl <;> rcases hh with rfl | rfl | rfl <;> simp [kindL]
theorem notL {x : Ch} (hv : validB x = true) (h8 : x.k ≠ 8) : isL x.l = false ↔ x.l.toList = [] := by
  obtain ⟨hk, h4, hgs, h8', hn8⟩ := fits_cases hv
  rcases hn8 h8 with h | h
  · have : x.l.toList = [76] := by simpa [isL] using h.1
    rw [h.1, this]; simp
  · have : x.l.toList = [] := by simpa [isE] using h.2
    rw [h.1, this]; simp
end Go.Proofs.YtomjdkjkdmieaaaDoor
