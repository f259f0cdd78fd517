/- Rhythms that fit a mark: plain. -/
import Derived.Test.YtomjdkjkdmieaaaDoorChTx
namespace Go.Proofs.YtomjdkjkdmieaaaDoor
open Go.RowKit
def quickB (x : Ch) (l : List UInt8) (gs : List Int) (p6 p7 : Int) : Bool := (x.l.toList == l) && ((x.k == 6 && (decide (x.gs = gs) && x.p == p6)) || (x.k == 7 && (decide (x.gs = gs) && x.p == p7)))
def safeB (x : Ch) : Bool := x.k == 3 || (x.k == 2 || ((x.k == 5 && (decide (x.gs = []) && x.p == 100)) || (x.k == 8 && x.l.toList == [65])))
def fitR (k : Int) (x : Ch) : Bool :=
  if k = 1 then x.cs.toList == [82] else if k = 2 then x.cs.toList == [71] else if k = 9 then x.cs.toList == [89] else if k = 0 then true
  else (x.cs.toList == [87]) && (if k = 3 then quickB x [] [] 0 0 else if k = 4 then quickB x [] [3] 100 50 else if k = 5 then quickB x [76] [6] 150 100 else if k = 6 then quickB x [] [9] 150 100
    else if k = 7 then x.k == 4 && decide (x.gs = [2]) else safeB x)
def rhyB (k : Int) (x : Ch) : Bool := inB k 0 9 && (validB x && fitR k x)
end Go.Proofs.YtomjdkjkdmieaaaDoor
