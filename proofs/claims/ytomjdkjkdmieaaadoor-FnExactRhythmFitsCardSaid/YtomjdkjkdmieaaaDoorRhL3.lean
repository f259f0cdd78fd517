/- Rhythms that fit a mark: both sides ask the same. Plain: the end. -/
import Derived.Test.YtomjdkjkdmieaaaDoorRhL2
namespace Go.Proofs.YtomjdkjkdmieaaaDoor
open Go.RowKit
theorem dec5 : (decB 5).toList = [53] := dig_list (by decide)
theorem dec10 : (decB 10).toList = [49, 48] := by
  rw [decB, bl_mk, Lib.itoa, if_neg (by decide), Lib.decDigits, dif_neg (by decide), Lib.decDigits, dif_pos (by decide)]; rfl
theorem dec15 : (decB 15).toList = [49, 53] := by
  rw [decB, bl_mk, Lib.itoa, if_neg (by decide), Lib.decDigits, dif_neg (by decide), Lib.decDigits, dif_pos (by decide)]; rfl
abbrev restL (x : Ch) : List UInt8 := (grpX x.gs).toList ++ ((ltrX x.l).toList ++ (32 :: (x.cs.toList ++ (perT x.p).toList)))
theorem sec_p {x : Ch} (hv : validB x = true) (S : List UInt8) (q : Int) (hq : 1 ≤ q ∧ q ≤ 60) (hl : S.length ≤ 2) (hS : (decB q).toList = S) : x.p ≠ 0 → ((secT x.p).toList = S ↔ x.p = 10 * q) := fun hp => sec_eq S q hq hl hS (valid_p hv).1 (valid_p hv).2 hp
theorem fin_none {x : Ch} (hv : validB x = true) : restL x = [32, 87] ↔ (x.gs = [] ∧ isL x.l = false ∧ x.cs.toList = [87] ∧ x.p = 0) := by
  obtain ⟨hk, h4, hgs, -, -⟩ := fits_cases hv
  rw [restL, show ([32, 87] : List UInt8) = 32 :: [87] from rfl, grp_none hgs, ltr_no, tail0 hv]
theorem fin_s {x : Ch} (hv : validB x = true) (S : List UInt8) (q : Int) (hq : 1 ≤ q ∧ q ≤ 60) (hl : S.length ≤ 2) (hl1 : 1 ≤ S.length) (hS : (decB q).toList = S) : restL x = 32 :: 87 :: 32 :: (S ++ [115]) ↔ (x.gs = [] ∧ isL x.l = false ∧ x.cs.toList = [87] ∧ x.p = 10 * q) := by
  obtain ⟨hk, h4, hgs, -, -⟩ := fits_cases hv
  rw [restL, grp_none hgs, ltr_no, tailS hv S (10 * q) (sec_p hv S q hq hl hS) (by omega) hl1]
theorem fin_dig {x : Ch} (hv : validB x = true) (d : Int) (hd : 1 ≤ d ∧ d ≤ 9) (S : List UInt8) (q : Int) (hq : 1 ≤ q ∧ q ≤ 60) (hl : S.length ≤ 2) (hl1 : 1 ≤ S.length) (hS : (decB q).toList = S) : restL x = 40 :: UInt8.ofNat (48 + d.toNat) :: 41 :: 32 :: 87 :: 32 :: (S ++ [115]) ↔ (x.gs = [d] ∧ isL x.l = false ∧ x.cs.toList = [87] ∧ x.p = 10 * q) := by
  obtain ⟨hk, h4, hgs, -, -⟩ := fits_cases hv
  rw [restL, grp_eq hgs _ _ _ d hd, ltr_no, tailS hv S (10 * q) (sec_p hv S q hq hl hS) (by omega) hl1]
theorem fin_long {x : Ch} (hv : validB x = true) (d : Int) (hd : 1 ≤ d ∧ d ≤ 9) (S : List UInt8) (q : Int) (hq : 1 ≤ q ∧ q ≤ 60) (hl : S.length ≤ 2) (hl1 : 1 ≤ S.length) (hS : (decB q).toList = S) : restL x = 40 :: UInt8.ofNat (48 + d.toNat) :: 41 :: 43 :: 76 :: 70 :: 108 :: 32 :: 87 :: 32 :: (S ++ [115]) ↔ (x.gs = [d] ∧ isL x.l = true ∧ x.cs.toList = [87] ∧ x.p = 10 * q) := by
  obtain ⟨hk, h4, hgs, -, -⟩ := fits_cases hv
  rw [restL, grp_eq hgs _ _ _ d hd, ltr_yes, tailS hv S (10 * q) (sec_p hv S q hq hl hS) (by omega) hl1]
theorem one2 (a b : List UInt8) (x : Ch) : oneT [a, b] x = true ↔ ((charX x).toList = a ∨ (charX x).toList = b) := by
  have e : ∀ l, (kbs l).toList = l := fun l => bl_mk _
  simp only [oneT, hasT, List.map_cons, List.map_nil, List.any_cons, List.any_nil, Bool.or_false, Bool.or_eq_true, beq_iff_eq, e]
  constructor
  · rintro (h | h)
    · exact .inl h.symm
    · exact .inr h.symm
  · rintro (h | h)
    · exact .inl h.symm
    · exact .inr h.symm
theorem one1 (a : List UInt8) (x : Ch) : oneT [a] x = true ↔ (charX x).toList = a := by
  have e : ∀ l, (kbs l).toList = l := fun l => bl_mk _
  simp only [oneT, hasT, List.map_cons, List.map_nil, List.any_cons, List.any_nil, Bool.or_false, beq_iff_eq, e]
  exact eq_comm
theorem quick_iff (x : Ch) (L : List UInt8) (gs : List Int) (p q : Int) : quickB x L gs p q = true ↔ (x.l.toList = L ∧ ((x.k = 6 ∧ x.gs = gs ∧ x.p = p) ∨ (x.k = 7 ∧ x.gs = gs ∧ x.p = q))) := by
  simp only [quickB, Bool.and_eq_true, Bool.or_eq_true, beq_iff_eq, decide_eq_true_eq]
theorem isL_iff (l : ByteArray) : isL l = true ↔ l.toList = [76] := by rw [isL, beq_iff_eq]
theorem fit3 {x : Ch} (hv : validB x = true) : oneT tx3 x = ((x.cs.toList == [87]) && quickB x [] [] 0 0) := by
  have e6 : (charX x).toList = [81, 32, 87] ↔ _ := (is_Q hv 32 (by simp) [87]).trans (and_congr_right fun _ => fin_none hv)
  have e7 : (charX x).toList = [86, 81, 32, 87] ↔ _ := (is_VQ hv 32 (by simp) [87]).trans (and_congr_right fun _ => fin_none hv)
  rw [Bool.eq_iff_iff, Bool.and_eq_true, beq_iff_eq, quick_iff]
  rw [show oneT tx3 x = true ↔ _ from one2 _ _ x, e6, e7]
  constructor
  · rintro (⟨h1, h2, h3, h4, h5⟩ | ⟨h1, h2, h3, h4, h5⟩)
    · exact ⟨h4, (notL hv (by omega)).1 h3, .inl ⟨h1, h2, h5⟩⟩
    · exact ⟨h4, (notL hv (by omega)).1 h3, .inr ⟨h1, h2, h5⟩⟩
  · rintro ⟨h4, h3, ⟨h1, h2, h5⟩ | ⟨h1, h2, h5⟩⟩
    · exact .inl ⟨h1, h2, (notL hv (by omega)).2 h3, h4, h5⟩
    · exact .inr ⟨h1, h2, (notL hv (by omega)).2 h3, h4, h5⟩
theorem fit4 {x : Ch} (hv : validB x = true) : oneT tx4 x = ((x.cs.toList == [87]) && quickB x [] [3] 100 50) := by
  have e6 : (charX x).toList = [81, 40, 51, 41, 32, 87, 32, 49, 48, 115] ↔ _ := (is_Q hv 40 (by simp) [51, 41, 32, 87, 32, 49, 48, 115]).trans (and_congr_right fun _ => fin_dig hv 3 (by decide) [49, 48] 10 (by decide) (by decide) (by decide) dec10)
  have e7 : (charX x).toList = [86, 81, 40, 51, 41, 32, 87, 32, 53, 115] ↔ _ := (is_VQ hv 40 (by simp) [51, 41, 32, 87, 32, 53, 115]).trans (and_congr_right fun _ => fin_dig hv 3 (by decide) [53] 5 (by decide) (by decide) (by decide) dec5)
  rw [Bool.eq_iff_iff, Bool.and_eq_true, beq_iff_eq, quick_iff]
  rw [show oneT tx4 x = true ↔ _ from one2 _ _ x, e6, e7]
  constructor
  · rintro (⟨h1, h2, h3, h4, h5⟩ | ⟨h1, h2, h3, h4, h5⟩)
    · exact ⟨h4, (notL hv (by omega)).1 h3, .inl ⟨h1, h2, h5⟩⟩
    · exact ⟨h4, (notL hv (by omega)).1 h3, .inr ⟨h1, h2, h5⟩⟩
  · rintro ⟨h4, h3, ⟨h1, h2, h5⟩ | ⟨h1, h2, h5⟩⟩
    · exact .inl ⟨h1, h2, (notL hv (by omega)).2 h3, h4, h5⟩
    · exact .inr ⟨h1, h2, (notL hv (by omega)).2 h3, h4, h5⟩
theorem fit5 {x : Ch} (hv : validB x = true) : oneT tx5 x = ((x.cs.toList == [87]) && quickB x [76] [6] 150 100) := by
  have e6 : (charX x).toList = [81, 40, 54, 41, 43, 76, 70, 108, 32, 87, 32, 49, 53, 115] ↔ _ := (is_Q hv 40 (by simp) [54, 41, 43, 76, 70, 108, 32, 87, 32, 49, 53, 115]).trans (and_congr_right fun _ => fin_long hv 6 (by decide) [49, 53] 15 (by decide) (by decide) (by decide) dec15)
  have e7 : (charX x).toList = [86, 81, 40, 54, 41, 43, 76, 70, 108, 32, 87, 32, 49, 48, 115] ↔ _ := (is_VQ hv 40 (by simp) [54, 41, 43, 76, 70, 108, 32, 87, 32, 49, 48, 115]).trans (and_congr_right fun _ => fin_long hv 6 (by decide) [49, 48] 10 (by decide) (by decide) (by decide) dec10)
  rw [Bool.eq_iff_iff, Bool.and_eq_true, beq_iff_eq, quick_iff]
  rw [show oneT tx5 x = true ↔ _ from one2 _ _ x, e6, e7]
  constructor
  · rintro (⟨h1, h2, h3, h4, h5⟩ | ⟨h1, h2, h3, h4, h5⟩)
    · exact ⟨h4, (isL_iff _).1 h3, .inl ⟨h1, h2, h5⟩⟩
    · exact ⟨h4, (isL_iff _).1 h3, .inr ⟨h1, h2, h5⟩⟩
  · rintro ⟨h4, h3, ⟨h1, h2, h5⟩ | ⟨h1, h2, h5⟩⟩
    · exact .inl ⟨h1, h2, (isL_iff _).2 h3, h4, h5⟩
    · exact .inr ⟨h1, h2, (isL_iff _).2 h3, h4, h5⟩
theorem fit6 {x : Ch} (hv : validB x = true) : oneT tx6 x = ((x.cs.toList == [87]) && quickB x [] [9] 150 100) := by
  have e6 : (charX x).toList = [81, 40, 57, 41, 32, 87, 32, 49, 53, 115] ↔ _ := (is_Q hv 40 (by simp) [57, 41, 32, 87, 32, 49, 53, 115]).trans (and_congr_right fun _ => fin_dig hv 9 (by decide) [49, 53] 15 (by decide) (by decide) (by decide) dec15)
  have e7 : (charX x).toList = [86, 81, 40, 57, 41, 32, 87, 32, 49, 48, 115] ↔ _ := (is_VQ hv 40 (by simp) [57, 41, 32, 87, 32, 49, 48, 115]).trans (and_congr_right fun _ => fin_dig hv 9 (by decide) [49, 48] 10 (by decide) (by decide) (by decide) dec10)
  rw [Bool.eq_iff_iff, Bool.and_eq_true, beq_iff_eq, quick_iff]
  rw [show oneT tx6 x = true ↔ _ from one2 _ _ x, e6, e7]
  constructor
  · rintro (⟨h1, h2, h3, h4, h5⟩ | ⟨h1, h2, h3, h4, h5⟩)
    · exact ⟨h4, (notL hv (by omega)).1 h3, .inl ⟨h1, h2, h5⟩⟩
    · exact ⟨h4, (notL hv (by omega)).1 h3, .inr ⟨h1, h2, h5⟩⟩
  · rintro ⟨h4, h3, ⟨h1, h2, h5⟩ | ⟨h1, h2, h5⟩⟩
    · exact .inl ⟨h1, h2, (notL hv (by omega)).2 h3, h4, h5⟩
    · exact .inr ⟨h1, h2, (notL hv (by omega)).2 h3, h4, h5⟩
theorem fit8 {x : Ch} (hv : validB x = true) (hW : x.cs.toList = [87]) : oneT tx8 x = (x.k == 5 && (decide (x.gs = []) && x.p == 100)) := by
  have e5 : (charX x).toList = [76, 70, 108, 32, 87, 32, 49, 48, 115] ↔ _ := (is_LFl hv [87, 32, 49, 48, 115]).trans (and_congr_right fun _ => fin_s hv [49, 48] 10 (by decide) (by decide) (by decide) dec10)
  rw [Bool.eq_iff_iff, show oneT tx8 x = true ↔ _ from one1 _ x, e5]
  simp only [Bool.and_eq_true, beq_iff_eq, decide_eq_true_eq]
  constructor
  · rintro ⟨h1, h2, h3, h4, h5⟩
    exact ⟨h1, h2, h5⟩
  · rintro ⟨h1, h2, h5⟩
    refine ⟨h1, h2, ?_, hW, h5⟩
    rw [notL hv (by omega)]
    obtain ⟨hk, h4, hgs, h8', hn8⟩ := fits_cases hv
    rcases hn8 (by omega) with h | h
    · exact absurd h2 h.2
    · exact (notL hv (by omega)).1 h.1
theorem rhy_eq (k : Int) (x : Ch) : (validB x && fitI k x) = rhyB k x := by
  cases hv : validB x
  · rw [rhyB, hv]; simp
  rw [Bool.true_and, rhyB, hv, Bool.true_and]
  by_cases hk : inB k 0 9 = true
  · rw [hk, Bool.true_and]
    have hh := inB_iff.1 hk
    have hcases : k = 0 ∨ k = 1 ∨ k = 2 ∨ k = 3 ∨ k = 4 ∨ k = 5 ∨ k = 6 ∨ k = 7 ∨ k = 8 ∨ k = 9 := by omega
    rcases hcases with rfl | rfl | rfl | rfl | rfl | rfl | rfl | rfl | rfl | rfl
    · rfl
    · rfl
    · rfl
    · exact fit3 hv
    · exact fit4 hv
    · exact fit5 hv
    · exact fit6 hv
    · rfl
    · show ((x.cs.toList == [87]) && (x.k == 3 || (x.k == 2 || (oneT tx8 x || (x.k == 8 && x.l.toList == [65]))))) = ((x.cs.toList == [87]) && safeB x)
      cases hW : (x.cs.toList == [87])
      · rfl
      · rw [fit8 hv (by simpa using hW), safeB]
    · rfl
  · have hkf : inB k 0 9 = false := by simpa using hk
    have hn : ¬ (0 ≤ k ∧ k ≤ 9) := fun h => hk (inB_iff.2 h)
    rw [hkf, Bool.false_and, fitI, if_neg (by omega), if_neg (by omega), if_neg (by omega), if_neg (by omega), if_neg (by omega), if_neg (by omega), if_neg (by omega), if_neg (by omega), if_neg (by omega), if_neg (by omega)]
end Go.Proofs.YtomjdkjkdmieaaaDoor
