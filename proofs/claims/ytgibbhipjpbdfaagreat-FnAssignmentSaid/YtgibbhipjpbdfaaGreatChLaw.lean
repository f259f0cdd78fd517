
/- The laws' own functions over a Character. -/
import Derived.Test.YtgibbhipjpbdfaaGreatIntS
namespace Go.Proofs.YtgibbhipjpbdfaaGreat
open Go.RowKit
/-- A Character's value; its group is the slice .slice A n c. -/
abbrev chV (k : Int) (A : Option Addr) (n c : Nat) (l cs : ByteArray) (p : Int) : Value := .agg #[.int .i64 k, .slice A n c, .string l, .string cs, .int .i64 p]

end Go.Proofs.YtgibbhipjpbdfaaGreat
