/- Numbers in decimal: the reference. -/
import Derived.Test.YtgcfmmcdecabpaaDoorApp
import Derived.Test.YtgcfmmcdecabpaaDoorU8
import Derived.Test.YtgcfmmcdecabpaaDoorDec
import Derived.Laws.IdiomStrings
namespace Go.Proofs.YtgcfmmcdecabpaaDoor
open Go.RowKit
def numL (l : List UInt8) : List Int := l.map fun b => (b.toNat : Int)
theorem numL_len (l : List UInt8) : (numL l).length = l.length := by simp [numL]
/-- string(b) of a row of the call's own that holds the bytes l. -/
theorem str_own {w : World} {base : Nat} {v : Value} {n : Nat} {l : List UInt8} (h : w.ownsRow base 5 1 v n ((numL l).flatMap u8C)) (hl : n = l.length) (hp : 0 < l.length) :
    (convert 67 9 v).run Tryd.prog w = .ok (.string ⟨l.toArray⟩) w := by
  subst hl
  have e : (numL l).flatMap u8C = l.map fun b => Value.int .u8 (b.toNat : Int) := by simp [numL, u8C, List.flatMap_map, ← List.map_eq_flatMap]
  rw [e] at h
  rcases id h.2 with ⟨-, h0⟩ | ⟨g, cap, cur, rfl, -, -, -, -, -, -⟩
  · omega
  · exact run_convert_bytes_back (P := Tryd.prog) w 67 9 5 ⟨g, 0, none⟩ cap l Tryd.underlying67 Tryd.underlying5 Tryd.underlying9 (fun j hj => h.cells (g := g) rfl j _ (by simp [hj]))
end Go.Proofs.YtgcfmmcdecabpaaDoor
