
/- What is written lies in a range of blocks. No program is named here. -/
import Derived.Test.YtgibbhipjpbdfaaApp
namespace Go.Proofs.Ytgibbhipjpbdfaa
open Go.RowKit
/-- A step of a region that draws its order; the way back into the region is shut. -/
theorem allReadyS_cons {P : Program} {md : Region.Mode} {ops : Array Oper} {Q : Exit → Act → World → Prop} {fuel : Nat} {listed : Array Bool} {a : Act} {w : World} {i : Nat} {o : Oper} {rs : List Nat} (ho : ops[i]? = some o)
    (h : ∀ K' : Act → World → Prop, Shut (∀ a w, wpAny P md ops Q fuel (listed.setIfInBounds i true) a w → K' a w) → if Region.wanted o (yielded ops a.tmps) = true then Oper.wp P o a w K' Q else K' (a.put o.dst undef) w)
    (hs : AllReady P md ops Q fuel listed a w rs) : AllReady P md ops Q fuel listed a w (i :: rs) := AllReady.cons ho (fun K hK => h K hK) hs
structure Rng (lo hi : Nat) (w w' : World) : Prop where
  os : w'.os = w.os
  tape : w'.tape = w.tape
  output : w'.output = w.output
  size : w.heap.size ≤ w'.heap.size
  block : ∀ b, b < w.heap.size → (b < lo ∨ hi ≤ b) → w'.heap[b]? = w.heap[b]?
theorem Rng.refl (lo hi : Nat) (w : World) : Rng lo hi w w := ⟨rfl, rfl, rfl, Nat.le_refl _, fun _ _ _ => rfl⟩
theorem Rng.trans {lo hi : Nat} {a b c : World} (h : Rng lo hi a b) (k : Rng lo hi b c) : Rng lo hi a c :=
  ⟨k.os.trans h.os, k.tape.trans h.tape, k.output.trans h.output, Nat.le_trans h.size k.size, fun i hi' hne => (k.block i (Nat.lt_of_lt_of_le hi' h.size) hne).trans (h.block i hi' hne)⟩
theorem Rng.wider {lo hi lo' hi' : Nat} {a b : World} (h : Rng lo hi a b) (h1 : lo' ≤ lo) (h2 : hi ≤ hi') : Rng lo' hi' a b :=
  ⟨h.os, h.tape, h.output, h.size, fun i hi' hne => h.block i hi' (by omega)⟩
theorem rng_below {lo hi : Nat} {w w' : World} (h : Below w.heap.size w w') : Rng lo hi w w' := ⟨h.os, h.tape, h.output, h.size, fun b hb _ => h.block b hb⟩
theorem rng_grown {lo hi : Nat} {w w' : World} {row : Option Nat} (h : w.grownBy w' row) (hr : ∀ k, row = some k → lo ≤ k ∧ k < hi) : Rng lo hi w w' :=
  ⟨h.os, h.tape, h.output, h.size, fun b hb hne => h.block b hb fun e => by have := hr b e.symm; omega⟩
theorem below_rng {B lo hi : Nat} {a w w' : World} (hb : Below B a w) (h : Rng lo hi w w') (h1 : B ≤ lo) (h2 : B ≤ w.heap.size) : Below B a w' :=
  ⟨h.os.trans hb.os, h.tape.trans hb.tape, h.output.trans hb.output, Nat.le_trans hb.size h.size, fun b hlt => (h.block b (by omega) (.inl (by omega))).trans (hb.block b hlt)⟩
theorem own_rng {w w' : World} {base lo hi : Nat} {e : TypeId} {sz n : Nat} {v : Value} {xs : List Value} (h : w.ownsRow base e sz v n xs) (hr : Rng lo hi w w') (hne : ∀ k, v.ownBlock = some k → k < lo ∨ hi ≤ k) : w'.ownsRow base e sz v n xs := by
  obtain ⟨h1, h2⟩ := h
  refine ⟨h1, ?_⟩
  rcases h2 with h2 | ⟨g, cap, cur, hv, hb, hg, r⟩
  · exact .inl h2
  · refine .inr ⟨g, cap, cur, hv, hb, ?_, r⟩
    rw [hr.block g (Array.getElem?_eq_some_iff.1 hg).1 (hne g (by rw [hv]; rfl))]
    exact hg
theorem Sl.rng {w w' : World} {B lo hi sz n : Nat} {A : Option Addr} {xs : List Value} (h : Sl w B sz A n xs) (hr : Rng lo hi w w') (hB : B ≤ lo) (h2 : B ≤ w.heap.size) : Sl w' B sz A n xs :=
  h.keep fun b hb => hr.block b (by omega) (.inl (by omega))
theorem keepR {lo hi : Nat} {w w' : World} (h : Rng lo hi w w') (b : Nat) (hb : b < w.heap.size) (hr : b < lo ∨ hi ≤ b) : ∀ i, w'.cell? ⟨b, i, none⟩ = w.cell? ⟨b, i, none⟩ := fun _ => World.cell?_of_block (w := w) (h.block b hb hr)
/-- A row of integers of the call's own, whatever it holds. -/
def OwnAny (w : World) (base : Nat) (e : TypeId) (sz n : Nat) (v : Value) : Prop := ∃ ys, w.ownsRow base e sz v n ys
theorem OwnAny.grown {w w' : World} {base base' : Nat} {e e' : TypeId} {sz sz' n m : Nat} {v u : Value} {us : List Value} (h : OwnAny w base e sz n v) (hu : w.ownsRow base' e' sz' u m us) (hg : w.grownBy w' u.ownBlock) (hne : e ≠ e') : OwnAny w' base e sz n v := by
  obtain ⟨ys, hy⟩ := h
  exact ⟨ys, own_grown hy hg (own_ne hy hu hne)⟩
theorem OwnAny.next {w w' : World} {base : Nat} {e : TypeId} {sz n : Nat} {v : Value} (h : OwnAny w base e sz n v) (hb : Below w.heap.size w w') : OwnAny w' base e sz n v := by
  obtain ⟨ys, hy⟩ := h
  exact ⟨ys, own_next hy hb⟩
/-- One row is written; another one (perhaps of the same block) is still a row. -/
theorem ownAny_mark {w w' : World} {base base' : Nat} {e e' : TypeId} {sz sz' n m : Nat} {v u : Value} {us us' : List Value} (h : OwnAny w base e sz n v) (hu : w.ownsRow base' e' sz' u m us) (hu' : w'.ownsRow base' e' sz' u m us') (hg : w.grownBy w' u.ownBlock) : OwnAny w' base e sz n v := by
  obtain ⟨ys, hy⟩ := h
  by_cases hne : v.ownBlock = none ∨ v.ownBlock ≠ u.ownBlock
  · exact ⟨ys, own_grown hy hg hne⟩
  · obtain ⟨h1, h2⟩ := hy
    rcases h2 with h2 | ⟨g, cap, cur, hv, hb, hgg, q1, q2, q3, q4⟩
    · exact ⟨ys, h1, .inl h2⟩
    · rcases hu.2 with h3 | ⟨g3, cap3, cur3, hv3, hb3, hg3, r1, r2, r3, r4⟩
      · exact absurd (.inr (by rw [hv, h3.1]; simp [Value.ownBlock])) hne
      · rcases hu'.2 with h4 | ⟨g4, cap4, cur4, hv4, hb4, hg4, s1, s2, s3, s4⟩
        · rw [h4.1] at hv3; cases hv3
        · rw [hv3] at hv4
          injection hv4 with e1 e2 e3
          injection e1 with e1
          injection e1 with e1
          subst e1 e3
          have hgg3 : g = g3 := by
            rcases Classical.em (v.ownBlock = u.ownBlock) with e0 | e0
            · rw [hv, hv3] at e0
              simpa [Value.ownBlock] using e0
            · exact absurd (.inr e0) hne
          subst hgg3
          rw [hgg] at hg3
          injection hg3 with hg3
          injection hg3 with e5 e6
          subst e5 e6
          refine ⟨_, ?_, .inr ⟨g, cap, cur4, hv, hb, hg4, q1, q2, ?_, rfl⟩⟩
          · have := q3
            have := r3
            have hz : n * sz ≤ cur4.size := by
              rw [s3, ← r3, q3]; exact Nat.mul_le_mul_right _ q1
            rw [List.length_take, Array.length_toList]
            exact Nat.min_eq_left hz
          · rw [s3, ← r3, q3]
end Go.Proofs.Ytgibbhipjpbdfaa
