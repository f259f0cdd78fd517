/- The search for the best voyage: plain Lean. -/
import Derived.Test.YtgkdjohiclhcoaaVoyN
namespace Go.Proofs.Ytgkdjohiclhcoaa
open Go.RowKit
abbrev BSt := Option (Int × List Int)
/-- Is an end less than the least so far. -/
def lessE : BSt → Int → Bool
  | none, _ => true
  | some (l, _), e => decide (e < l)
noncomputable def updB (s : Sh) (zs : List Wk) (p : VSt) (ks : List Int) (b : BSt) : BSt := bif decide (ks.length = zs.length) && lessE b (endV s zs p ks) then some (endV s zs p ks, ks) else b
noncomputable def okK (s : Sh) (zs : List Wk) (p : VSt) (ks : List Int) (k : Nat) : Bool := !decide ((k : Int) ∈ ks) && decide (voyK s zs p (ks ++ [(k : Int)]) = 0)
def goD (step : List Int → Nat × BSt → Option (Nat × BSt)) (ok : Nat → Bool) (ks : List Int) (st : Nat × BSt) : Nat → Option (Nat × BSt)
  | 0 => some st
  | k + 1 => match goD step ok ks st k with
    | none => none
    | some st' => bif ok k then step (ks ++ [(k : Int)]) st' else some st'
noncomputable def dfs (s : Sh) (zs : List Wk) (p : VSt) : Nat → List Int → Nat × BSt → Option (Nat × BSt)
  | 0, _, _ => none
  | f + 1, ks, st => bif decide (st.1 = 0) then none else goD (dfs s zs p f) (okK s zs p ks) ks (st.1 - 1, updB s zs p ks st.2) zs.length
theorem goD_skip {step ok ks st k st'} (h : goD step ok ks st k = some st') (hk : ok k = false) : goD step ok ks st (k + 1) = some st' := by rw [goD, h]; simp [hk]
theorem goD_step {step ok ks st k st'} (h : goD step ok ks st k = some st') (hk : ok k = true) : goD step ok ks st (k + 1) = step (ks ++ [(k : Int)]) st' := by rw [goD, h]; simp [hk]
theorem goD_none {step ok ks st k} (h : goD step ok ks st k = none) : ∀ m, goD step ok ks st (k + m) = none
  | 0 => h
  | m + 1 => by rw [← Nat.add_assoc, goD, goD_none h m]
theorem goD_end {step ok ks st k n} (h : goD step ok ks st k = none) (hk : k ≤ n) : goD step ok ks st n = none := by
  have := goD_none h (n - k)
  rwa [show k + (n - k) = n by omega] at this
theorem dfs_zero (s : Sh) (zs : List Wk) (p : VSt) (f : Nat) (ks : List Int) (b : BSt) : dfs s zs p f ks (0, b) = none := by
  cases f
  · rfl
  · rw [dfs]; rfl
theorem dfs_next {s : Sh} {zs : List Wk} {p : VSt} {f : Nat} {ks : List Int} {l : Nat} {b : BSt} (h : 0 < l) : dfs s zs p (f + 1) ks (l, b) = goD (dfs s zs p f) (okK s zs p ks) ks (l - 1, updB s zs p ks b) zs.length := by
  rw [dfs, decide_eq_false (show ¬ l = 0 by omega)]; rfl
/-- What the best so far must be. -/
def BOk (n : Nat) (b : BSt) : Prop := ∀ e bs, b = some (e, bs) → 0 ≤ e ∧ bs.length = n
theorem BOk.none (n : Nat) : BOk n none := fun _ _ h => nomatch h
theorem BOk.upd {s : Sh} {zs : List Wk} {p : VSt} {ks : List Int} {b : BSt} (h : BOk zs.length b) (hv : VOk s zs p ks) (hok : okV s zs p ks = true) : BOk zs.length (updB s zs p ks b) := by
  unfold updB
  by_cases hc : ks.length = zs.length
  · rw [decide_eq_true hc, Bool.true_and]
    cases hl : lessE b (endV s zs p ks)
    · exact h
    · intro e bs he
      simp only [cond_true, Option.some.injEq, Prod.mk.injEq] at he
      rw [← he.1, ← he.2]
      exact ⟨(hv.end_ hok).1, hc⟩
  · rw [decide_eq_false hc, Bool.false_and]
    exact h
theorem voyK_zero {s : Sh} {zs : List Wk} {p : VSt} {ks : List Int} : voyK s zs p ks = 0 ↔ loadV zs ks ≤ s.ld ∧ okV s zs p ks = true := by
  unfold voyK
  by_cases h : s.ld < loadV zs ks
  · rw [decide_eq_true h]
    simp only [cond_true]
    exact ⟨fun h => absurd h (by decide), fun h2 => by omega⟩
  · rw [decide_eq_false h]
    cases okV s zs p ks
    · simp
    · simp only [cond_false, cond_true, and_true, true_iff]; omega
theorem voyK_nil {s : Sh} {zs : List Wk} {p : VSt} (h : 0 ≤ s.ld) : voyK s zs p [] = 0 := voyK_zero.2 ⟨h, rfl⟩
/-- The code, and the order, of the best voyage. -/
noncomputable def bestK (s : Sh) (zs : List Wk) (p : VSt) (bu : Int) : Int :=
  bif !decide (askK s zs p [] = 0) then askK s zs p [] else bif !inB bu 1 20000 then 2 else match dfs s zs p bu.toNat [] (bu.toNat, none) with
    | none => 5
    | some (_, none) => 3
    | some (_, some _) => 0
noncomputable def bestL (s : Sh) (zs : List Wk) (p : VSt) (bu : Int) : List Int :=
  bif !decide (askK s zs p [] = 0) then [] else bif !inB bu 1 20000 then [] else match dfs s zs p bu.toNat [] (bu.toNat, none) with
    | some (_, some (_, bs)) => bs
    | _ => []
end Go.Proofs.Ytgkdjohiclhcoaa
