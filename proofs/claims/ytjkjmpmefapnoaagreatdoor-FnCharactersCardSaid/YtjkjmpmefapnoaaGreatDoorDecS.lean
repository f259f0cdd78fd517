
/- Numbers in decimal: the reference. -/
import Derived.Test.YtjkjmpmefapnoaaGreatDoorApp
import Derived.Test.YtjkjmpmefapnoaaGreatDoorU8
import Derived.Test.YtjkjmpmefapnoaaGreatDoorDec
import Derived.Laws.IdiomStrings
namespace Go.Proofs.YtjkjmpmefapnoaaGreatDoor
open Go.RowKit
def numL (l : List UInt8) : List Int := l.map fun b => (b.toNat : Int)
theorem numL_len (l : List UInt8) : (numL l).length = l.length := by simp [numL]
/-- string(b) of a row of the call's own that holds the bytes l. -/
theorem str_own {w : World} {base : Nat} {v : Value} {n : Nat} {l : List UInt8} (h : w.ownsRow base 5 1 v n ((numL l).flatMap u8C)) (hl : n = l.length) (hp : 0 < l.length) :
    (convert 22 9 v).run Tryz.prog w = .ok (.string ⟨l.toArray⟩) w := by
  subst hl
  have e : (numL l).flatMap u8C = l.map fun b => Value.int .u8 (b.toNat : Int) := by simp [numL, u8C, List.flatMap_map, ← List.map_eq_flatMap]
  rw [e] at h
  rcases id h.2 with ⟨-, h0⟩ | ⟨g, cap, cur, rfl, -, -, -, -, -, -⟩
  · omega
  · exact run_convert_bytes_back (P := Tryz.prog) w 22 9 5 ⟨g, 0, none⟩ cap l Tryz.underlying22 Tryz.underlying5 Tryz.underlying9 (fun j hj => h.cells (g := g) rfl j _ (by simp [hj]))
end Go.Proofs.YtjkjmpmefapnoaaGreatDoor
