
/- R8Lights: some valid characters. -/
import Derived.Test.YtgibbhipjpbdfaaLtDraw
import Derived.Test.YtgibbhipjpbdfaaChars
namespace Go.Proofs.Ytgibbhipjpbdfaa
open Go.RowKit
theorem own_by_src {wx wy : World} {base lo b a : Nat} {e : TypeId} {sz n : Nat} {v : Value} {xs : List Value} (h : wx.ownsRow base e sz v n xs) (hs : Src wx lo b a) (hg : wx.grownBy wy (some b)) (hne : e ≠ 97) : wy.ownsRow base e sz v n xs := by
  obtain ⟨A, n', c, a', seed, bs, q1, q2, q3, q4, q5, q6⟩ := hs
  exact own_grown h hg (own_ne h q2 hne)
end Go.Proofs.Ytgibbhipjpbdfaa
