
/- Colors: one color, and whether colors have one. -/
import Derived.Test.YtgibbhipjpbdfaaGreatStr
import Derived.Test.YtgibbhipjpbdfaaGreatCh
namespace Go.Proofs.YtgibbhipjpbdfaaGreat
open Go.RowKit
/-- One byte of s is the only byte of t. -/
def hasC (s t : ByteArray) : Bool := match t.toList with | [c] => decide (c ∈ s.toList) | _ => false
def colB (t : ByteArray) : Bool := t.toList == [87] || (t.toList == [82] || (t.toList == [71] || t.toList == [89]))
theorem toL (s : ByteArray) : s.toList = s.data.toList := ByteArray.toList_eq s
theorem toL_len (s : ByteArray) : s.toList.length = s.size := by rw [toL]; rfl
theorem colB_size {t : ByteArray} (h : colB t = true) : t.size = 1 := by
  rw [← toL_len]
  simp only [colB, Bool.or_eq_true, beq_iff_eq] at h
  rcases h with h | h | h | h <;> rw [h] <;> rfl
theorem idx_mem (l : List UInt8) (c : UInt8) : decide (0 ≤ Lib.indexByte l c) = decide (c ∈ l) := by
  rw [Bool.eq_iff_iff, decide_eq_true_eq, decide_eq_true_eq]
  induction l with
  | nil => simp [Lib.indexByte]
  | cons b l ih =>
    have hge := Lib.indexByte_ge l c
    unfold Lib.indexByte
    by_cases h : b = c
    · subst h; simp
    · rw [if_neg (by simpa using h)]
      by_cases h1 : Lib.indexByte l c = -1
      · rw [if_pos (by simpa using h1)]
        have : ¬ c ∈ l := fun e => by have := ih.2 e; omega
        simp [this, Ne.symm h]
      · rw [if_neg (by simpa using h1)]
        have : c ∈ l := ih.1 (by omega)
        simp [this]; omega
theorem one_of {t : ByteArray} (h : t.size = 1) : t.toList = [t[0]'(by omega)] := by
  have hl : t.data.toList.length = 1 := h
  rw [toL]
  match ht : t.data.toList, hl with
  | [c], _ =>
    have h0 : t.data.toList[0]'(by rw [hl]; decide) = c := by simp [ht]
    have : t[0]'(by omega) = c := by rw [← h0]; rfl
    rw [this]
theorem ext_one (s : ByteArray) (k : Nat) (h : k < s.size) : (s.extract k (k + 1)).toList = [s[k]] := by
  rw [toL, ByteArray.data_extract, Array.toList_extract]
  have : s.data.toList[k]? = some s[k] := by
    rw [List.getElem?_eq_getElem (by simpa using h)]; rfl
  rw [List.extract_eq_take_drop, show k + 1 - k = 1 by omega]
  rw [List.drop_eq_getElem_cons (by simpa using h)]
  rfl
set_option maxRecDepth 100000 in
set_option maxHeartbeats 1000000 in
theorem sliteIdx1_c (s t : ByteArray) (w : World) (h1 : t.size = 1) : Calls Tryz.prog 104 #[.string s, .string t] w fun e w' => ∃ r : Int, e = .returned (.int .i64 r) ∧ decide (0 ≤ r) = hasC s t ∧ w = w' := by
  have hb00 : 0 < t.size := by omega
  have ho : t.toList = [t[0]'hb00] := one_of h1
  have hz : ((t.size : Int) == 0) = false := by rw [h1]; rfl
  have hz1 : ((t.size : Int) == 1) = true := by rw [h1]; rfl
  have hb1 : (0 : Int) < (t.size : Int) := by omega
  cases hc : (t.toList == s.toList)
  · have hC : hasC s t = decide (t[0]'hb00 ∈ s.toList) := by rw [hasC, ho]
    have Ho := Lib.hid ho; clear ho
    have HC := Lib.hid hC; clear hC
    have H1 := Lib.hid h1; clear h1
    go_enter Tryz.func104, Tryz.ntmps104
    go_wp2_with (go_at_call 103; refine (sliteIndex_c _ _ _).mono ?_; rintro e w1 ⟨rfl, rfl⟩)
    go_ret
    refine ⟨_, rfl, ?_, rfl⟩
    rw [HC.out, idx_mem, toL]
    first | done | simp
  · have hC : hasC s t = true := by
      rw [hasC, ← (by simpa using hc : t.toList = s.toList), ho]; simp
    have Ho := Lib.hid ho; clear ho
    have HC := Lib.hid hC; clear hC
    have H1 := Lib.hid h1; clear h1
    go_enter Tryz.func104, Tryz.ntmps104
    go_wp2
    go_ret
    exact ⟨0, rfl, by rw [HC.out]; rfl, rfl⟩
set_option maxRecDepth 100000 in
set_option maxHeartbeats 400000 in
theorem contains1_c (s t : ByteArray) (w : World) (h1 : t.size = 1) : Calls Tryz.prog 63 #[.string s, .string t] w fun e w' => e = .returned (.bool (hasC s t)) ∧ w = w' := by
  have hI : ∀ w1, Calls Tryz.prog 91 #[.string s, .string t] w1 fun e w' => ∃ r : Int, e = .returned (.int .i64 r) ∧ decide (0 ≤ r) = hasC s t ∧ w1 = w' := by
    intro w1
    go_enter Tryz.func91, Tryz.ntmps91
    go_wp2_with (go_at_call 104; refine (sliteIdx1_c s t _ h1).mono ?_; rintro e w2 ⟨r, rfl, hr, rfl⟩)
    go_ret
    exact ⟨r, rfl, hr, rfl⟩
  have HI := Lib.hid hI; clear hI
  go_enter Tryz.func63, Tryz.ntmps63
  go_wp2_with (go_at_call 91; refine (HI.out _).mono ?_; rintro e w2 ⟨r, rfl, hr, rfl⟩)
  go_ret
  exact ⟨ret_eq (bool_eq (by first | exact hr | simp)), rfl⟩
end Go.Proofs.YtgibbhipjpbdfaaGreat
