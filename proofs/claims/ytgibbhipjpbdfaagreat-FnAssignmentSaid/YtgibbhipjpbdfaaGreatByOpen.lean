
/- What the reader gives of a []byte argument. -/
import Derived.Test.YtgibbhipjpbdfaaGreatSrcG
import Derived.Test.YtgibbhipjpbdfaaGreatPhO
namespace Go.Proofs.YtgibbhipjpbdfaaGreat
open Go.ChangeShapes Go.WideShapes Go.ChangeAt Go.RowKit Go.Deep
theorem byte_trod {H : Type} {en : TypeId × Value → H} {w : World} {base : Nat} {spare : Nat → Bool} {held : Bool} (m : Nat) (cs : List Value) (y : DataW H × List MemPlace) (h : DataW.trod en Tryz.prog w base spare held m 5 cs = some y) :
    ∃ s : Int, cs = u8C s ∧ 0 ≤ s ∧ s ≤ 255 := by
  obtain ⟨x, e0, _, h2⟩ := DataW.trod_int Tryz.underlying5 h
  refine ⟨x, e0, ?_⟩
  simpa [Lit.wf, IntKind.min, IntKind.max, IntKind.signed, IntKind.bits] using h2
end Go.Proofs.YtgibbhipjpbdfaaGreat
