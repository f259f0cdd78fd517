
/- Phases of characters: the reference's. -/
import Derived.Test.YtgibbhipjpbdfaaGreatChPh
namespace Go.Proofs.YtgibbhipjpbdfaaGreat
open Go.RowKit
theorem phInfo : (Tryz.prog.info? 118).map (fun i => (i.zero, i.size, i.bytes)) = some (some (.agg #[.string ByteArray.empty, .int .i64 0]), 2, 24) := by kernel_rfl
theorem l05Total_q (A : Option Addr) (n c : Nat) (gs : List Int) (w : World) (k : Nat) (h : Sl w w.heap.size 1 A n (gs.flatMap intC)) (hm : n ≤ 1048576) (hb : ∀ x ∈ gs, -1000000 ≤ x ∧ x ≤ 1000000) :
    Calls Tryz.prog 54 #[.slice A n c] (w.drewN k) fun e w' => e = .returned (.int .i64 gs.sum) ∧ w.drewN k = w' :=
  l05Total_c A n c gs (w.drewN k) (h.next (below_drewN (Below.refl _ _) k)) hm hb
end Go.Proofs.YtgibbhipjpbdfaaGreat
