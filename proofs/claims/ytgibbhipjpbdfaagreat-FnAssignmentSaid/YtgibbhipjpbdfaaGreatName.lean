
/- Names: both sides. -/
import Derived.Test.YtgibbhipjpbdfaaGreatSmall
namespace Go.Proofs.YtgibbhipjpbdfaaGreat
open Go.RowKit
/-- The byte at place k, 0 behind the end. -/
def bt (s : ByteArray) (k : Nat) : Int := ((s.data.toList[k]?.getD 0).toNat : Int)
theorem bt_eq (s : ByteArray) (k : Nat) (h : k < s.size) : bt s k = (s[k].toNat : Int) := by
  unfold bt
  rw [List.getElem?_eq_getElem (by simpa using h)]
  rfl
theorem toList_nil (s : ByteArray) : s.toList = [] ↔ s.size = 0 := by
  rw [ByteArray.toList_eq]
  cases s; simp [ByteArray.size]
theorem size_zero {s : ByteArray} (h : s.size = 0) : s = ByteArray.empty := by
  cases s with | mk d => cases d with | mk l => cases l with
    | nil => rfl
    | cons a l => simp [ByteArray.size] at h
theorem size_pos {s : ByteArray} (h : 0 < s.size) : s ≠ ByteArray.empty := fun e => by subst e; simp at h
theorem isE_no {s : ByteArray} (h : 0 < s.size) : s.toList.isEmpty = false := by
  rw [List.isEmpty_eq_false_iff]; exact fun e => by have := (toList_nil s).1 e; omega
theorem notNil {s : ByteArray} (h : 0 < s.size) : ¬ s.toList = [] := fun e => by have := (toList_nil s).1 e; omega
def okAt (s : ByteArray) (k : Nat) : Prop := (97 ≤ bt s k ∧ bt s k ≤ 122) ∨ (0 < k ∧ 48 ≤ bt s k ∧ bt s k ≤ 57)
instance (s : ByteArray) (k : Nat) : Decidable (okAt s k) := by unfold okAt; infer_instance
def nameB (s : ByteArray) : Bool := decide (1 ≤ s.size ∧ s.size ≤ 10 ∧ ∀ k, k < s.size → okAt s k)
theorem nameB_iff {s : ByteArray} : nameB s = true ↔ 1 ≤ s.size ∧ s.size ≤ 10 ∧ ∀ k, k < s.size → okAt s k := by simp [nameB]
theorem nameB_no {s : ByteArray} {k : Nat} (hk : k < s.size) (h : ¬ okAt s k) : nameB s = false := by
  rw [Bool.eq_false_iff]
  intro hn
  exact h ((nameB_iff.1 hn).2.2 k hk)
theorem nameB_end {s : ByteArray} {k : Nat} (h : ∀ i, i < k → okAt s i) (hk : ¬ k < s.size) : nameB s = decide (1 ≤ s.size ∧ s.size ≤ 10) := by
  rw [Bool.eq_iff_iff, nameB_iff]
  simp only [decide_eq_true_eq]
  exact ⟨fun ⟨a, b, _⟩ => ⟨a, b⟩, fun ⟨a, b⟩ => ⟨a, b, fun i hi => h i (by omega)⟩⟩
theorem ok_next {s : ByteArray} {k : Nat} (h : ∀ i, i < k → okAt s i) (hk : okAt s k) : ∀ i, i < k + 1 → okAt s i := fun i hi => by
  rcases Nat.lt_or_ge i k with h1 | h1
  · exact h i h1
  · obtain rfl : i = k := by omega
    exact hk
end Go.Proofs.YtgibbhipjpbdfaaGreat
