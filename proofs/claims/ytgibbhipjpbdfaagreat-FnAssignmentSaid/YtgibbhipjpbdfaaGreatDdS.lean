
/- IsDistinct: the reference: l18Pairs. -/
import Derived.Test.YtgibbhipjpbdfaaGreatDdA
namespace Go.Proofs.YtgibbhipjpbdfaaGreat
open Go.RowKit
theorem two_cells {w : World} {B n : Nat} {A : Option Addr} {a b : Int} (h : Sl w B 1 A n ([a, b].flatMap intC)) (hn : n = 2) : ∃ g o, A = some ⟨g, o, none⟩ ∧ g < B ∧ w.cell? ⟨g, o, none⟩ = some (.int .i64 a) ∧ w.cell? ⟨g, o + 1, none⟩ = some (.int .i64 b) := by
  subst hn
  obtain ⟨g, o, x, hA, hg, hx, c0⟩ := h.int 0 (by decide)
  obtain ⟨g', o', y, hA', hg', hy, c1⟩ := h.int 1 (by decide)
  rw [hA] at hA'
  injection hA' with e
  injection e with e1 e2 _
  subst e1 e2
  simp only [List.getElem?_cons_zero, List.getElem?_cons_succ, Option.some.injEq] at hx hy
  subst hx hy
  exact ⟨g, o, hA, hg, c0, c1⟩
theorem row_v1 {prev : Option (List Int)} {a d n : Int} (h : inB a 0 (n - 1) = false) : rowOk prev [a, d] n = false := by unfold rowOk; simp only [h, Bool.false_and]
theorem row_v2 {prev : Option (List Int)} {a d n : Int} (h : inB d (a + 1) (n - 1) = false) : rowOk prev [a, d] n = false := by unfold rowOk; simp only [h, Bool.false_and, Bool.and_false]
theorem row_v0 {a d n : Int} (h1 : inB a 0 (n - 1) = true) (h2 : inB d (a + 1) (n - 1) = true) : rowOk none [a, d] n = true := by unfold rowOk; simp only [h1, h2, Bool.true_and]
theorem row_v3 {a d c e n : Int} (h1 : inB a 0 (n - 1) = true) (h2 : inB d (a + 1) (n - 1) = true) : rowOk (some [c, e]) [a, d] n = !(decide (a < c) || (c == a && decide (d ≤ e))) := by unfold rowOk; simp only [h1, h2, Bool.true_and]
end Go.Proofs.YtgibbhipjpbdfaaGreat
