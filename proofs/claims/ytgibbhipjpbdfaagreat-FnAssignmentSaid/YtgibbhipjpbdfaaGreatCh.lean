
/- Characters of lights, in plain Lean. -/
import Derived.Test.YtgibbhipjpbdfaaGreatName
namespace Go.Proofs.YtgibbhipjpbdfaaGreat
open Go.RowKit
def rankI (c : Int) : Int := if c = 87 then 1 else if c = 82 then 2 else if c = 71 then 3 else if c = 89 then 4 else 0
theorem rankI_bd (c : Int) : 0 ≤ rankI c ∧ rankI c ≤ 4 := by unfold rankI; (repeat' split) <;> omega
def colOk (s : ByteArray) (i : Nat) : Bool := decide (0 < rankI (bt s i)) && (decide (i = 0) || decide (rankI (bt s (i - 1)) < rankI (bt s i)))
def colorsB (s : ByteArray) : Bool := allB s.size (colOk s) && (decide (1 ≤ s.size) && decide (s.size ≤ 3))
def goodG (gs : List Int) (i : Nat) : Bool := match gs[i]? with | none => true | some x => inB x 1 9
theorem goodG_at {gs : List Int} {i : Nat} {x : Int} (h : gs[i]? = some x) : goodG gs i = inB x 1 9 := by simp [goodG, h]
def groupB (gs : List Int) : Bool := allB gs.length (goodG gs) && (decide (gs.length ≤ 4) && (decide (gs.sum ≤ 12) && !decide (gs = [1])))
def letterB (l : ByteArray) : Bool := decide (l.size = 1) && (decide (65 ≤ bt l 0) && decide (bt l 0 ≤ 90))
def isL (l : ByteArray) : Bool := l.toList == [76]
def isE (l : ByteArray) : Bool := l.toList.isEmpty
structure Ch where
  k : Int
  gs : List Int
  l : ByteArray
  cs : ByteArray
  p : Int
def fitsB (c : Ch) : Bool :=
  if c.k = 1 ∨ c.k = 3 then decide (c.gs = []) && isE c.l
  else if c.k = 2 ∨ c.k = 4 ∨ c.k = 5 then isE c.l && groupB c.gs
  else if c.k = 6 ∨ c.k = 7 then (if isL c.l = true then decide (c.gs = [6]) else isE c.l && (decide (c.gs.length ≤ 1) && groupB c.gs))
  else if c.k = 8 then decide (c.gs = []) && letterB c.l
  else false
def shapeB (c : Ch) : Bool := colorsB c.cs && fitsB c
def flashI (k : Int) : Int := if k = 2 then 10 else if k = 5 then 20 else if k = 7 then 2 else 5
def gapI (k : Int) : Int := if k = 2 then 10 else if k = 4 then 15 else if k = 5 then 20 else if k = 7 then 3 else 5
def steadyB (c : Ch) : Bool := decide (c.k = 1) || ((decide (c.k = 6) || decide (c.k = 7)) && decide (c.gs = []))
theorem sum_next {gs : List Int} {i : Nat} {x : Int} (h : gs[i]? = some x) : (gs.take (i + 1)).sum = (gs.take i).sum + x := by
  rw [List.take_add_one, h]; simp
theorem sum_bd : ∀ {gs : List Int}, (∀ i, i < gs.length → goodG gs i = true) → gs.length ≤ gs.sum ∧ gs.sum ≤ 9 * gs.length
  | [], _ => by simp
  | x :: gs, h => by
    have h0 := h 0 (by simp)
    have ht := sum_bd (gs := gs) fun i hi => by have := h (i + 1) (by simp; omega); simpa [goodG] using this
    have := inB_iff.1 (by simpa [goodG] using h0)
    simp only [List.length_cons, List.sum_cons]
    omega
theorem good_take {gs : List Int} {k : Nat} (h : ∀ i, i < k → goodG gs i = true) : ∀ i, i < (gs.take k).length → goodG (gs.take k) i = true := fun i hi => by
  rw [List.length_take] at hi
  have := h i (by omega)
  simp only [goodG] at *
  rw [List.getElem?_take, if_pos (by omega)]
  exact this
def stepT (k : Int) (i j : Nat) : List Int := (if 0 < j then [gapI k] else if 0 < i then [gapI k + 20] else []) ++ [flashI k]
def innerT (k : Int) (i m : Nat) : List Int := (List.range m).flatMap (stepT k i)
def outerT (k : Int) (g : List Int) (r : Nat) : List Int := (List.range r).flatMap fun i => innerT k i (g.getD i 0).toNat
theorem innerT_next (k : Int) (i m : Nat) : innerT k i (m + 1) = innerT k i m ++ stepT k i m := by simp [innerT, List.range_succ]
theorem outerT_next (k : Int) {g : List Int} {r : Nat} {x : Int} (h : g[r]? = some x) : outerT k g (r + 1) = outerT k g r ++ innerT k r x.toNat := by
  simp [outerT, List.range_succ, h]
theorem stepT_len (k : Int) (i j : Nat) : (stepT k i j).length ≤ 2 := by unfold stepT; (repeat' split) <;> simp
theorem innerT_len (k : Int) (i m : Nat) : (innerT k i m).length ≤ 2 * m := by
  induction m with
  | zero => simp [innerT]
  | succ m ih => rw [innerT_next, List.length_append]; have := stepT_len k i m; omega
theorem outerT_len (k : Int) {g : List Int} (hg : ∀ x ∈ g, 1 ≤ x ∧ x ≤ 9) (r : Nat) (hr : r ≤ g.length) : (outerT k g r).length ≤ 18 * r := by
  induction r with
  | zero => simp [outerT]
  | succ r ih =>
    have hx : g[r]? = some (g[r]'(by omega)) := List.getElem?_eq_getElem (by omega)
    have h9 := hg _ (List.mem_of_getElem? hx)
    rw [outerT_next k hx, List.length_append]
    have h1 := ih (by omega)
    have h2 := innerT_len k r (g[r]'(by omega)).toNat
    omega
end Go.Proofs.YtgibbhipjpbdfaaGreat
