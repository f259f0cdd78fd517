
/- Rows of bytes. -/
import Derived.Test.YtgibbhipjpbdfaaChecked
import Derived.Test.YtgibbhipjpbdfaaBase
namespace Go.Proofs.Ytgibbhipjpbdfaa
open Go.RowKit
def u8C (x : Int) : List Value := [.int .u8 x]
theorem u8C_len (x : Int) : (u8C x).length = 1 := rfl
theorem u8Info : (Try.prog.info? 5).map (fun i => (i.zero, i.size, i.bytes)) = some (some (.int .u8 0), 1, 1) := by kernel_rfl
theorem u8C_one (x : Int) : ∀ u ∈ u8C x, u.oneCell' = true := by simp [u8C, Value.oneCell']
theorem Sl.u8 {w : World} {B n : Nat} {A : Option Addr} {xs : List Int} (h : Sl w B 1 A n (xs.flatMap u8C)) (k : Nat) (hk : k < n) :
    ∃ b off x, A = some ⟨b, off, none⟩ ∧ b < B ∧ xs[k]? = some x ∧ w.cell? ⟨b, off + k, none⟩ = some (.int .u8 x) := by
  obtain ⟨b, off, s, hA, hb, hx, hc⟩ := h.get u8C 1 u8C_len (by omega) k hk
  have := hc 0 _ rfl
  rw [Nat.mul_one, Nat.add_zero] at this
  exact ⟨b, off, s, hA, hb, hx, this⟩
end Go.Proofs.Ytgibbhipjpbdfaa
