/- Colors: one color, and whether colors have one. -/
import Derived.Test.YtpgcgmbjlecnpaaGreatStr
import Derived.Test.YtpgcgmbjlecnpaaGreatCh
namespace Go.Proofs.YtpgcgmbjlecnpaaGreat
open Go.RowKit
/-- One byte of s is the only byte of t. -/
def hasC (s t : ByteArray) : Bool := match t.toList with | [c] => decide (c ∈ s.toList) | _ => false
def colB (t : ByteArray) : Bool := t.toList == [87] || (t.toList == [82] || (t.toList == [71] || t.toList == [89]))
theorem toL (s : ByteArray) : s.toList = s.data.toList := ByteArray.toList_eq s
theorem toL_len (s : ByteArray) : s.toList.length = s.size := by rw [toL]; rfl
theorem colB_size {t : ByteArray} (h : colB t = true) : t.size = 1 := by
  rw [← toL_len]
  simp only [colB, Bool.or_eq_true, beq_iff_eq] at h
  rcases h with h | h | h | h <;> rw [h] <;> rfl
theorem idx_mem (l : List UInt8) (c : UInt8) : decide (0 ≤ Lib.indexByte l c) = decide (c ∈ l) := by
  rw [Bool.eq_iff_iff, decide_eq_true_eq, decide_eq_true_eq]
  induction l with
  | nil => simp [Lib.indexByte]
  | cons b l ih =>
    have hge := Lib.indexByte_ge l c
    unfold Lib.indexByte
    by_cases h : b = c
    · subst h; simp
    · rw [if_neg (by simpa using h)]
      by_cases h1 : Lib.indexByte l c = -1
      · rw [if_pos (by simpa using h1)]
        have : ¬ c ∈ l := fun e => by have := ih.2 e; omega
        simp [this, Ne.symm h]
      · rw [if_neg (by simpa using h1)]
        have : c ∈ l := ih.1 (by omega)
        simp [this]; omega
theorem one_of {t : ByteArray} (h : t.size = 1) : t.toList = [t[0]'(by omega)] := by
  have hl : t.data.toList.length = 1 := h
  rw [toL]
  match ht : t.data.toList, hl with
  | [c], _ =>
    have h0 : t.data.toList[0]'(by rw [hl]; decide) = c := by simp [ht]
    have : t[0]'(by omega) = c := by rw [← h0]; rfl
    rw [this]
theorem ext_one (s : ByteArray) (k : Nat) (h : k < s.size) : (s.extract k (k + 1)).toList = [s[k]] := by
  rw [toL, ByteArray.data_extract, Array.toList_extract]
  have : s.data.toList[k]? = some s[k] := by
    rw [List.getElem?_eq_getElem (by simpa using h)]; rfl
  rw [List.extract_eq_take_drop, show k + 1 - k = 1 by omega]
  rw [List.drop_eq_getElem_cons (by simpa using h)]
  rfl
end Go.Proofs.YtpgcgmbjlecnpaaGreat
