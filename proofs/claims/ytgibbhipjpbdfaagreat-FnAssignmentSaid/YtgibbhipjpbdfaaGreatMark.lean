
/- The laws' marks: markText. -/
import Derived.Test.YtgibbhipjpbdfaaGreatChecked
import Derived.Test.YtgibbhipjpbdfaaGreatBase
namespace Go.Proofs.YtgibbhipjpbdfaaGreat
open Go.RowKit
def mtGo : Nat → Nat → ByteArray → ByteArray
  | 0, _, t => t
  | f + 1, j, t => if j = 0 then t else mtGo f (j / 10) (strOfNums [48 + (j : Int) % 10] ++ t)
def markT (k : Nat) : ByteArray := ⟨#[109]⟩ ++ mtGo 19 k ⟨#[]⟩
theorem mtGo_zero (m : Nat) (t : ByteArray) : mtGo m 0 t = t := by cases m <;> simp [mtGo]
theorem mtGo_size : ∀ (m j : Nat) (t : ByteArray), (mtGo m j t).size ≤ m + t.size
  | 0, j, t => by simp [mtGo]
  | m + 1, j, t => by
    unfold mtGo
    split
    · omega
    · have := mtGo_size m (j / 10) (strOfNums [48 + (j : Int) % 10] ++ t)
      rw [ByteArray.size_append, strOfNums_size] at this
      simp at this; omega
theorem markT_size (k : Nat) : (markT k).size ≤ 20 := by
  have := mtGo_size 19 k ⟨#[]⟩
  unfold markT
  rw [ByteArray.size_append]
  have e : (⟨#[]⟩ : ByteArray).size = 0 := rfl
  have e2 : (⟨#[109]⟩ : ByteArray).size = 1 := rfl
  omega
end Go.Proofs.YtgibbhipjpbdfaaGreat
