/- AsG: several of my texts in one. -/
import Derived.Test.YtgibbhipjpbdfaaGreatDdK2
import Derived.Test.YtgibbhipjpbdfaaGreatBase
import Derived.Deep.QuietTactic
import Derived.BigQuiet
import Derived.Test.YtgibbhipjpbdfaaGreatApp
import Derived.Test.YtgibbhipjpbdfaaGreatDdA
import Derived.Test.YtgibbhipjpbdfaaGreatShelf
import Derived.Sort.OwnSortedInts
import Derived.Lib.SlicesCompact
import Derived.Lib.RowBridge
import Derived.Deep.LoopGhost

/- Choices of characters: what a search for a choice answers, in plain words. -/
namespace Go.Proofs.YtgibbhipjpbdfaaGreat
open Go.RowKit
/-- The different numbers of a list, each where it stands first. -/
def usedF (a : List Int) (x : Int) : List Int := if x ∈ a then a else a ++ [x]
def usedL (P : List Int) : List Int := P.foldl usedF []
theorem used_snoc (P : List Int) (x : Int) : usedL (P ++ [x]) = usedF (usedL P) x := by rw [usedL, List.foldl_append]; rfl
theorem usedF_mem (a : List Int) (x y : Int) : y ∈ usedF a x ↔ y ∈ a ∨ y = x := by
  unfold usedF
  split
  · constructor
    · exact .inl
    · rintro (h | rfl)
      · exact h
      · assumption
  · simp
theorem fold_mem : ∀ (P a : List Int) (y : Int), y ∈ P.foldl usedF a ↔ y ∈ a ∨ y ∈ P
  | [], a, y => by simp
  | x :: r, a, y => by rw [List.foldl_cons, fold_mem r, usedF_mem, List.mem_cons, or_assoc]
theorem used_mem (P : List Int) (y : Int) : y ∈ usedL P ↔ y ∈ P := by rw [usedL, fold_mem]; simp
theorem fold_nodup : ∀ (P a : List Int), a.Nodup → (P.foldl usedF a).Nodup
  | [], _, h => h
  | x :: r, a, h => by
    rw [List.foldl_cons]
    refine fold_nodup r _ ?_
    unfold usedF
    split
    · exact h
    · rename_i hx
      rw [List.nodup_append]
      exact ⟨h, by simp, fun y hy z hz => by simp only [List.mem_singleton] at hz; subst hz; exact fun e => hx (e ▸ hy)⟩
theorem used_nodup (P : List Int) : (usedL P).Nodup := fold_nodup P [] List.nodup_nil
theorem fold_len : ∀ (P a : List Int), a.length ≤ (P.foldl usedF a).length
  | [], _ => Nat.le_refl _
  | x :: r, a => by
    rw [List.foldl_cons]
    refine Nat.le_trans ?_ (fold_len r _)
    unfold usedF
    split <;> simp
theorem used_app (P R : List Int) : (usedL P).length ≤ (usedL (P ++ R)).length := by
  rw [usedL, usedL, List.foldl_append]
  exact fold_len R _
theorem used_pre {P Q : List Int} (h : Q.take P.length = P) : (usedL P).length ≤ (usedL Q).length := by
  have e : Q = P ++ Q.drop P.length := by
    conv => lhs; rw [← List.take_append_drop P.length Q, h]
  rw [e]
  exact used_app _ _
theorem used_new {P : List Int} {x : Int} (h : x ∉ P) : (usedL (P ++ [x])).length = (usedL P).length + 1 := by
  rw [used_snoc, usedF, if_neg (by rw [used_mem]; exact h)]; simp
theorem used_old {P : List Int} {x : Int} (h : x ∈ P) : usedL (P ++ [x]) = usedL P := by
  rw [used_snoc, usedF, if_pos (by rw [used_mem]; exact h)]
theorem nodup_bd : ∀ (n : Nat) (L : List Int), L.Nodup → (∀ x ∈ L, 0 ≤ x ∧ x < (n : Int)) → L.length ≤ n
  | 0, [], _, _ => Nat.le_refl _
  | 0, x :: r, _, h => by have := h x List.mem_cons_self; omega
  | n + 1, L, hn, h => by
    have h1 := nodup_bd n (L.erase (n : Int)) (hn.erase _) fun x hx => by
      have hm := (hn.mem_erase_iff).1 hx
      have := h x hm.2
      omega
    by_cases hm : (n : Int) ∈ L
    · rw [List.length_erase_of_mem hm] at h1; omega
    · rw [List.erase_of_not_mem hm] at h1; omega
theorem used_bd {P : List Int} {n : Nat} (h : ∀ x ∈ P, 0 ≤ x ∧ x < (n : Int)) : (usedL P).length ≤ n := nodup_bd n _ (used_nodup P) fun x hx => h x ((used_mem P x).1 hx)
/-- Two lists without repetition that have the same members are equally long. -/
theorem nodup_len {X Y : List Int} (hx : X.Nodup) (hy : Y.Nodup) (h : ∀ z, z ∈ X ↔ z ∈ Y) : X.length = Y.length := by
  have key : ∀ (X Y : List Int), X.Nodup → (∀ z ∈ X, z ∈ Y) → X.length ≤ Y.length := by
    intro X
    induction X with
    | nil => intro Y _ _; exact Nat.zero_le _
    | cons x r ih =>
      intro Y hx h
      have hxr := List.nodup_cons.1 hx
      have hm := h x List.mem_cons_self
      have h1 := ih (Y.erase x) hxr.2 fun z hz => by
        have hz' := h z (List.mem_cons_of_mem _ hz)
        exact (List.mem_erase_of_ne (fun (e : z = x) => hxr.1 (by rw [← e]; exact hz))).2 hz'
      rw [List.length_erase_of_mem hm] at h1
      have := List.length_pos_of_mem hm
      rw [List.length_cons]; omega
  exact Nat.le_antisymm (key X Y hx fun z hz => (h z).1 hz) (key Y X hy fun z hz => (h z).2 hz)
/-- Q is a choice for all N lights that goes on from P. -/
structure Good (N I : Nat) (B : Nat → List Int) (T : Nat → Nat → Bool) (most : Nat) (P Q : List Int) : Prop where
  pre : Q.take P.length = P
  len : Q.length = N
  inI : ∀ (k : Nat) (x : Int), P.length ≤ k → Q[k]? = some x → 0 ≤ x ∧ x < (I : Int)
  okk : ∀ (k : Nat) (x j y : Int), P.length ≤ k → Q[k]? = some x → j ∈ B k → Q[j.toNat]? = some y → T x.toNat y.toNat = false
  few : (usedL Q).length ≤ most
/-- An index clashes with no light before the next one. -/
def alB (B : Nat → List Int) (T : Nat → Nat → Bool) (P : List Int) (x : Nat) : Bool := (B P.length).all fun j => !(T x (P[j.toNat]?.getD 0).toNat)
theorem Good.le {N I most : Nat} {B : Nat → List Int} {T : Nat → Nat → Bool} {P Q : List Int} (h : Good N I B T most P Q) : P.length ≤ N := by
  have := congrArg List.length h.pre
  rw [List.length_take, h.len] at this
  omega
theorem Good.at' {N I most : Nat} {B : Nat → List Int} {T : Nat → Nat → Bool} {P Q : List Int} (h : Good N I B T most P Q) {k : Nat} (hk : k < P.length) : Q[k]? = P[k]? := by
  have e : (Q.take P.length)[k]? = Q[k]? := by rw [List.getElem?_take, if_pos hk]
  rw [h.pre] at e
  exact e.symm
theorem Good.end' {N I most : Nat} {B : Nat → List Int} {T : Nat → Nat → Bool} {P : List Int} (hl : P.length = N) (hf : (usedL P).length ≤ most) : Good N I B T most P P :=
  ⟨List.take_length, hl, fun k x hk hx => (by rw [List.getElem?_eq_none (by omega)] at hx; cases hx), fun k x j y hk hx => (by rw [List.getElem?_eq_none (by omega)] at hx; cases hx), hf⟩
theorem Good.step {N I most : Nat} {B : Nat → List Int} {T : Nat → Nat → Bool} {P Q : List Int} (hB : ∀ k j, j ∈ B k → 0 ≤ j ∧ j < (k : Int)) (h : Good N I B T most P Q) (hl : P.length < N) :
    ∃ x : Nat, x < I ∧ Q[P.length]? = some (x : Int) ∧ alB B T P x = true ∧ Good N I B T most (P ++ [(x : Int)]) Q := by
  obtain ⟨x, hx⟩ : ∃ x, Q[P.length]? = some x := ⟨_, List.getElem?_eq_getElem (by rw [h.len]; exact hl)⟩
  obtain ⟨h0, h1⟩ := h.inI _ x (Nat.le_refl _) hx
  obtain ⟨n, rfl⟩ := Int.eq_ofNat_of_zero_le h0
  refine ⟨n, by omega, hx, ?_, ?_, h.len, fun k x hk => h.inI k x (by simp at hk; omega), fun k x j y hk => h.okk k x j y (by simp at hk; omega), h.few⟩
  · rw [alB, List.all_eq_true]
    intro j hj
    obtain ⟨j0, j1⟩ := hB _ j hj
    obtain ⟨y, hy⟩ : ∃ y, P[j.toNat]? = some y := ⟨_, List.getElem?_eq_getElem (by omega)⟩
    have := h.okk _ _ j y (Nat.le_refl _) hx hj (by rw [h.at' (by omega)]; exact hy)
    rw [hy, Option.getD_some]
    rw [Int.toNat_natCast] at this
    rw [this]; rfl
  · rw [List.length_append, List.length_singleton, List.take_add_one, h.pre, hx]; rfl
theorem Good.back {N I most x : Nat} {B : Nat → List Int} {T : Nat → Nat → Bool} {P Q : List Int} (hB : ∀ k j, j ∈ B k → 0 ≤ j ∧ j < (k : Int)) (h : Good N I B T most (P ++ [(x : Int)]) Q) (hx : x < I) (ha : alB B T P x = true) : Good N I B T most P Q := by
  have hl : (P ++ [(x : Int)]).length = P.length + 1 := by simp
  have hq : Q[P.length]? = some (x : Int) := by rw [h.at' (by omega)]; simp
  refine ⟨?_, h.len, fun k y hk hy => ?_, fun k y j z hk hy hj hz => ?_, h.few⟩
  · have := congrArg (List.take P.length) h.pre
    rw [hl, List.take_take, Nat.min_eq_left (by omega), List.take_left] at this
    exact this
  · rcases Nat.lt_or_ge P.length k with h1 | h1
    · exact h.inI k y (by omega) hy
    · obtain rfl : k = P.length := by omega
      rw [hq] at hy
      injection hy with hy
      subst hy
      omega
  · rcases Nat.lt_or_ge P.length k with h1 | h1
    · exact h.okk k y j z (by omega) hy hj hz
    · obtain rfl : k = P.length := by omega
      rw [hq] at hy
      injection hy with hy
      subst hy
      obtain ⟨j0, j1⟩ := hB _ j hj
      rw [alB, List.all_eq_true] at ha
      have h2 := ha j hj
      have h3 : P[j.toNat]? = some z := by
        rw [h.at' (by omega), List.getElem?_append_left (by omega)] at hz
        exact hz
      rw [h3, Option.getD_some] at h2
      rw [Int.toNat_natCast]
      simpa using h2
theorem Good.wide {N I most most' : Nat} {B : Nat → List Int} {T : Nat → Nat → Bool} {P Q : List Int} (h : Good N I B T most P Q) (hm : (usedL Q).length ≤ most') : Good N I B T most' P Q := ⟨h.pre, h.len, h.inI, h.okk, hm⟩
/-- No choice that goes on from P goes on with an index below k. -/
def Miss (N I : Nat) (B : Nat → List Int) (T : Nat → Nat → Bool) (most : Nat) (P : List Int) (k : Nat) : Prop := ∀ Q, Good N I B T most P Q → ∀ x : Int, Q[P.length]? = some x → (k : Int) ≤ x
theorem Miss.zero {N I most : Nat} {B : Nat → List Int} {T : Nat → Nat → Bool} {P : List Int} : Miss N I B T most P 0 := fun Q h x hx => by
  have := (h.inI _ x (Nat.le_refl _) hx).1
  omega
theorem Miss.all {N I most : Nat} {B : Nat → List Int} {T : Nat → Nat → Bool} {P : List Int} (h : Miss N I B T most P I) (hl : P.length < N) (Q : List Int) : ¬ Good N I B T most P Q := fun hg => by
  obtain ⟨x, hx⟩ : ∃ x, Q[P.length]? = some x := ⟨_, List.getElem?_eq_getElem (by rw [hg.len]; exact hl)⟩
  have h1 := h Q hg x hx
  have h2 := hg.inI _ x (Nat.le_refl _) hx
  omega
theorem Miss.next {N I most k : Nat} {B : Nat → List Int} {T : Nat → Nat → Bool} {P : List Int} (h : Miss N I B T most P k) (hk : ∀ Q, Good N I B T most P Q → Q[P.length]? ≠ some (k : Int)) : Miss N I B T most P (k + 1) := fun Q hg x hx => by
  have h1 := h Q hg x hx
  have h2 : x ≠ (k : Int) := fun e => hk Q hg (e ▸ hx)
  omega
/-- An index that is not allowed. -/
theorem no_clash {N I most k : Nat} {B : Nat → List Int} {T : Nat → Nat → Bool} {P : List Int} (hB : ∀ k j, j ∈ B k → 0 ≤ j ∧ j < (k : Int)) (hl : P.length < N) (ha : alB B T P k = false) : ∀ Q, Good N I B T most P Q → Q[P.length]? ≠ some (k : Int) := fun Q hg e => by
  obtain ⟨x, _, h2, h3, _⟩ := hg.step hB hl
  rw [e] at h2
  have : k = x := by injection h2 with h2; omega
  subst this
  rw [ha] at h3; cases h3
/-- A new index where there are as many as may be. -/
theorem no_more {N I most k : Nat} {B : Nat → List Int} {T : Nat → Nat → Bool} {P : List Int} (hB : ∀ k j, j ∈ B k → 0 ≤ j ∧ j < (k : Int)) (hl : P.length < N) (hn : (k : Int) ∉ P) (hm : most ≤ (usedL P).length) : ∀ Q, Good N I B T most P Q → Q[P.length]? ≠ some (k : Int) := fun Q hg e => by
  obtain ⟨x, _, h2, _, h4⟩ := hg.step hB hl
  rw [e] at h2
  have : k = x := by injection h2 with h2; omega
  subst this
  have h5 := used_pre h4.pre
  rw [used_new hn] at h5
  have := hg.few
  omega
/-- A search below that found nothing. -/
theorem no_below {N I most k : Nat} {B : Nat → List Int} {T : Nat → Nat → Bool} {P : List Int} (hB : ∀ k j, j ∈ B k → 0 ≤ j ∧ j < (k : Int)) (hl : P.length < N) (hno : ∀ Q, ¬ Good N I B T most (P ++ [(k : Int)]) Q) : ∀ Q, Good N I B T most P Q → Q[P.length]? ≠ some (k : Int) := fun Q hg e => by
  obtain ⟨x, _, h2, _, h4⟩ := hg.step hB hl
  rw [e] at h2
  have : k = x := by injection h2 with h2; omega
  subst this
  exact hno Q h4
/-- What a search answers. -/
def SeaAns (N I : Nat) (B : Nat → List Int) (T : Nat → Nat → Bool) (most : Nat) (P : List Int) (r : Int) (P' : List Int) : Prop := (r = 0 ∧ Good N I B T most P P') ∨ (r = 3 ∧ P' = P ∧ ∀ Q, ¬ Good N I B T most P Q) ∨ r = 5
end Go.Proofs.YtgibbhipjpbdfaaGreat

/- A region that draws its order and only reads, walked once in the order of the text; what is still to come is shut. No program is named here. -/
namespace Go.Proofs.YtgibbhipjpbdfaaGreat
open Go.RowKit
structure WQ (P : Program) (ops : Array Oper) (C : World → Prop) (Q : Act → Prop) (l : List Oper) (a : Act) : Prop where
  out : wpQuiet P ops C Q l a
section
variable {P : Program} {ops : Array Oper} {C : World → Prop} {Q : Act → Prop}
theorem WQ.step {a : Act} {o : Oper} {rest : List Oper} (h : ∀ K : Act → Prop, (∀ a, WQ P ops C Q rest a → K a) → if Region.wanted o (yielded ops a.tmps) then o.quiet P a C K else K (a.put o.dst undef)) : WQ P ops C Q (o :: rest) a :=
  ⟨wpQuiet_step fun K hK => h K fun a h => hK a h.out⟩
theorem WQ.nil {a : Act} (h : Q a) : WQ P ops C Q [] a := ⟨h⟩
theorem wp_region_wq {id : Nat} {Q : Exit → Act → World → Prop} {a : Act} {w : World} {l : List Oper} (hm : P.follows .mixedOrders = true) (hB : Region.lexB .any l.toArray = true)
    (h : WQ P l.toArray (fun w' => ∃ n, w' = w.drewN n) (fun a' => ∀ w', (∃ n, w' = w.drewN n) → Q .normal a' w') l a) : (Code.region id l.toArray true).wp P Q a w :=
  wp_region_quiet_lit hm hB h.out
end
end Go.Proofs.YtgibbhipjpbdfaaGreat

/- A region that draws its order and whose calls make memory, walked once in the order of the text. No program is named here. -/
namespace Go.Proofs.YtgibbhipjpbdfaaGreat
open Go.RowKit
section
variable {P : Program} {ops : Array Oper} {C : World → Prop} {Q : Act → Prop}
theorem wp_region_wqC {id : Nat} {Q : Exit → Act → World → Prop} {a : Act} {w : World} {l : List Oper} (hm : P.follows .mixedOrders = true) (hB : Region.lexB .any l.toArray = true) (hC : C w.drew)
    (h : WQ P l.toArray C (fun a' => ∀ w', C w' → Q .normal a' w') l a) : (Code.region id l.toArray true).wp P Q a w :=
  wp_region_quiet hm hB hC (by simpa using h.out)
theorem WQ.take {a : Act} {o : Oper} {rest : List Oper} {v : Value} (hw : Region.wanted o (yielded ops a.tmps) = true) (hv : ∀ w', C w' → o.quietAt P a C w' v) (h : WQ P ops C Q rest (a.put o.dst v)) : WQ P ops C Q (o :: rest) a :=
  WQ.step fun K hK => by rw [if_pos hw]; exact ⟨v, hv, hK _ h⟩
theorem WQ.skip {a : Act} {o : Oper} {rest : List Oper} (hw : Region.wanted o (yielded ops a.tmps) = false) (h : WQ P ops C Q rest (a.put o.dst undef)) : WQ P ops C Q (o :: rest) a :=
  WQ.step fun K hK => by rw [if_neg (by rw [hw]; decide)]; exact hK _ h
end
end Go.Proofs.YtgibbhipjpbdfaaGreat

/- Choices of characters: the search's memory, and its test of an index. -/
namespace Go.Proofs.YtgibbhipjpbdfaaGreat
open Go.RowKit
/-- Below hi only the struct's block g may change. -/
structure AsFr (hi g : Nat) (w w' : World) : Prop where
  os : w'.os = w.os
  tape : w'.tape = w.tape
  output : w'.output = w.output
  size : w.heap.size ≤ w'.heap.size
  block : ∀ b, b < hi → b ≠ g → w'.heap[b]? = w.heap[b]?
theorem AsFr.refl (hi g : Nat) (w : World) : AsFr hi g w w := ⟨rfl, rfl, rfl, Nat.le_refl _, fun _ _ _ => rfl⟩
theorem AsFr.trans {hi g : Nat} {a b c : World} (h : AsFr hi g a b) (k : AsFr hi g b c) : AsFr hi g a c := ⟨k.os.trans h.os, k.tape.trans h.tape, k.output.trans h.output, Nat.le_trans h.size k.size, fun i h1 h2 => (k.block i h1 h2).trans (h.block i h1 h2)⟩
theorem AsFr.below {hi g : Nat} {w w' : World} (h : Below w.heap.size w w') (hl : hi ≤ w.heap.size) : AsFr hi g w w' := ⟨h.os, h.tape, h.output, h.size, fun b hb _ => h.block b (Nat.lt_of_lt_of_le hb hl)⟩
theorem AsFr.grown {hi g : Nat} {w w' : World} {row : Option Nat} (h : w.grownBy w' row) (hl : hi ≤ w.heap.size) (hr : ∀ k, row = some k → hi ≤ k ∨ k = g) : AsFr hi g w w' :=
  ⟨h.os, h.tape, h.output, h.size, fun b hb hne => h.block b (Nat.lt_of_lt_of_le hb hl) fun e => by have := hr b e.symm; omega⟩
theorem own_blk {w w' : World} {base : Nat} {e : TypeId} {sz n : Nat} {v : Value} {xs : List Value} (h : w.ownsRow base e sz v n xs) (hb : ∀ k, v.ownBlock = some k → w'.heap[k]? = w.heap[k]?) : w'.ownsRow base e sz v n xs := by
  obtain ⟨h1, h2⟩ := h
  refine ⟨h1, ?_⟩
  rcases h2 with h2 | ⟨g, cap, cur, hv, hb', hg, r⟩
  · exact .inl h2
  · refine .inr ⟨g, cap, cur, hv, hb', ?_, r⟩
    rw [hb g (by rw [hv]; rfl)]
    exact hg
theorem own_max {w : World} {base : Nat} {e : TypeId} {sz n c : Nat} {A : Option Addr} {xs : List Value} (h : w.ownsRow base e sz (.slice A n c) n xs) : n ≤ maxLen := by
  rcases h.2 with ⟨_, h0⟩ | ⟨g, cap, cur, hv, _, _, h1, h2, _⟩
  · omega
  · omega
/-- The rows of lights before each light: old blocks, none of them the struct's. -/
structure BefR (w : World) (hi g g2 N : Nat) (rs : List RowG) : Prop where
  out : w.ownsRow 0 28 1 (.slice (some ⟨g2, 0, none⟩) N N) N (rs.flatMap RowG.cells)
  inn : ∀ (i : Nat) (r : RowG), rs[i]? = some r → w.ownsRow 0 2 1 r.val r.xs.length (r.xs.flatMap intC)
  lt1 : g2 < hi ∧ g2 ≠ g
  lt2 : ∀ (i : Nat) (r : RowG) (k : Nat), rs[i]? = some r → r.val.ownBlock = some k → k < hi ∧ k ≠ g
theorem BefR.fr {w w' : World} {hi g g2 N : Nat} {rs : List RowG} (h : BefR w hi g g2 N rs) (f : AsFr hi g w w') : BefR w' hi g g2 N rs :=
  ⟨own_blk h.out fun k hk => by
    have : g2 = k := by simpa [Value.ownBlock] using hk
    subst this
    exact f.block _ h.lt1.1 h.lt1.2, fun i r hr => own_blk (h.inn i r hr) fun k hk => f.block k (h.lt2 i r k hr hk).1 (h.lt2 i r k hr hk).2, h.lt1, h.lt2⟩
theorem BefR.of {w : World} {base g g2 N : Nat} {rs : List RowG} {ys : List Value} (h : Bef w base g2 N rs) (hc : Chz w base g ys) : BefR w w.heap.size g g2 N rs := by
  have hne : ∀ {e : TypeId} {sz n : Nat} {v : Value} {xs : List Value}, w.ownsRow base e sz v n xs → e ≠ 47 → ∀ k, v.ownBlock = some k → k ≠ g := fun h1 h2 k hk e => by
    have := own_ne h1 hc h2
    rw [hk, e] at this
    rcases this with h3 | h3
    · cases h3
    · exact h3 rfl
  exact ⟨own_base h.out (Nat.zero_le _), fun i r hr => own_base (h.inn i r hr) (Nat.zero_le _), ⟨(h.out.lt g2 rfl).2, hne h.out (by decide) g2 rfl⟩, fun i r k hr hk => ⟨((h.inn i r hr).lt k hk).2, hne (h.inn i r hr) (by decide) k hk⟩⟩
/-- The state of a search: the struct in block g, the choice P in a row above hi. -/
structure AsS (w : World) (hi g N I : Nat) (T : Nat → Nat → Bool) (most g2 : Nat) (rs : List RowG) (P : List Int) (ys : List Value) (b : Int) (A : Option Addr) (c : Nat) : Prop where
  cz : Chz w 0 g ys
  gl : g < hi
  hl : hi ≤ w.heap.size
  tab : TabIs ys T
  y0 : ys[0]? = some (.int .i64 (N : Int))
  y1 : ys[1]? = some (.int .i64 (I : Int))
  y2 : ys[2]? = some (.slice (some ⟨g2, 0, none⟩) N N)
  yb : ys[147]? = some (.int .i64 b)
  ym : ys[148]? = some (.int .i64 (most : Int))
  yc : ys[149]? = some (.slice A P.length c)
  ch : w.ownsRow hi 2 1 (.slice A P.length c) P.length (P.flatMap intC)
  bef : BefR w hi g g2 N rs
section
variable {w w' : World} {hi g N I : Nat} {T : Nat → Nat → Bool} {most g2 : Nat} {rs : List RowG} {P : List Int} {ys : List Value} {b : Int} {A : Option Addr} {c : Nat}
theorem AsS.next (h : AsS w hi g N I T most g2 rs P ys b A c) (hb : Below w.heap.size w w') : AsS w' hi g N I T most g2 rs P ys b A c :=
  ⟨own_next h.cz hb, h.gl, Nat.le_trans h.hl hb.size, h.tab, h.y0, h.y1, h.y2, h.yb, h.ym, h.yc, own_next h.ch hb, h.bef.fr (.below hb h.hl)⟩
theorem AsS.cells (h : AsS w hi g N I T most g2 rs P ys b A c) : w.cell? ⟨g, 0, none⟩ = some (.int .i64 (N : Int)) ∧ w.cell? ⟨g, 1, none⟩ = some (.int .i64 (I : Int)) ∧ w.cell? ⟨g, 2, none⟩ = some (.slice (some ⟨g2, 0, none⟩) N N) ∧ w.cell? ⟨g, 147, none⟩ = some (.int .i64 b) ∧ w.cell? ⟨g, 148, none⟩ = some (.int .i64 (most : Int)) ∧ w.cell? ⟨g, 149, none⟩ = some (.slice A P.length c) :=
  ⟨(h.cz.cellAt 0 (by omega)).trans h.y0, (h.cz.cellAt 1 (by omega)).trans h.y1, (h.cz.cellAt 2 (by omega)).trans h.y2, (h.cz.cellAt 147 (by omega)).trans h.yb, (h.cz.cellAt 148 (by omega)).trans h.ym, (h.cz.cellAt 149 (by omega)).trans h.yc⟩
theorem AsS.lt (h : AsS w hi g N I T most g2 rs P ys b A c) : g < w.heap.size := Nat.lt_of_lt_of_le h.gl h.hl
theorem tab_keep {ys : List Value} (h : TabIs ys T) {j : Nat} (hj : j < 3 ∨ 147 ≤ j) (v : Value) : TabIs (ys.set j v) T := fun i k hi hk => by
  rw [List.getElem?_set_ne (by omega)]; exact h i k hi hk
theorem AsS.setBudget (h : AsS w hi g N I T most g2 rs P ys b A c) (b' : Int) : AsS (w.setCell ⟨g, 147, none⟩ (.int .i64 b')) hi g N I T most g2 rs P (ys.set 147 (.int .i64 b')) b' A c ∧ AsFr hi g w (w.setCell ⟨g, 147, none⟩ (.int .i64 b')) := by
  have s := h.cz.stored 147 (.int .i64 b')
  have f : AsFr hi g w (w.setCell ⟨g, 147, none⟩ (.int .i64 b')) := .grown s.2 h.hl fun k hk => .inr (by simpa [Value.ownBlock] using hk.symm)
  have hlen : 150 = ys.length := by have := h.cz.1; simpa using this.symm
  refine ⟨⟨s.1, h.gl, Nat.le_trans h.hl f.size, tab_keep h.tab (by omega) _, ?_, ?_, ?_, List.getElem?_set_self (by omega), ?_, ?_, ownsRow_setCell_below h.ch h.gl _, h.bef.fr f⟩, f⟩
  · rw [List.getElem?_set_ne (by omega)]; exact h.y0
  · rw [List.getElem?_set_ne (by omega)]; exact h.y1
  · rw [List.getElem?_set_ne (by omega)]; exact h.y2
  · rw [List.getElem?_set_ne (by omega)]; exact h.ym
  · rw [List.getElem?_set_ne (by omega)]; exact h.yc
theorem AsS.setMost (h : AsS w hi g N I T most g2 rs P ys b A c) (m' : Nat) : AsS (w.setCell ⟨g, 148, none⟩ (.int .i64 (m' : Int))) hi g N I T m' g2 rs P (ys.set 148 (.int .i64 (m' : Int))) b A c ∧ AsFr hi g w (w.setCell ⟨g, 148, none⟩ (.int .i64 (m' : Int))) := by
  have s := h.cz.stored 148 (.int .i64 (m' : Int))
  have f : AsFr hi g w (w.setCell ⟨g, 148, none⟩ (.int .i64 (m' : Int))) := .grown s.2 h.hl fun k hk => .inr (by simpa [Value.ownBlock] using hk.symm)
  have hlen : 150 = ys.length := by have := h.cz.1; simpa using this.symm
  refine ⟨⟨s.1, h.gl, Nat.le_trans h.hl f.size, tab_keep h.tab (by omega) _, ?_, ?_, ?_, ?_, List.getElem?_set_self (by omega), ?_, ownsRow_setCell_below h.ch h.gl _, h.bef.fr f⟩, f⟩
  · rw [List.getElem?_set_ne (by omega)]; exact h.y0
  · rw [List.getElem?_set_ne (by omega)]; exact h.y1
  · rw [List.getElem?_set_ne (by omega)]; exact h.y2
  · rw [List.getElem?_set_ne (by omega)]; exact h.yb
  · rw [List.getElem?_set_ne (by omega)]; exact h.yc
/-- Another choice is stored, whose row lies above hi. -/
theorem AsS.setChoice (h : AsS w hi g N I T most g2 rs P ys b A c) {P' : List Int} {A' : Option Addr} {c' : Nat} (ho : w.ownsRow hi 2 1 (.slice A' P'.length c') P'.length (P'.flatMap intC)) : AsS (w.setCell ⟨g, 149, none⟩ (.slice A' P'.length c')) hi g N I T most g2 rs P' (ys.set 149 (.slice A' P'.length c')) b A' c' ∧ AsFr hi g w (w.setCell ⟨g, 149, none⟩ (.slice A' P'.length c')) := by
  have s := h.cz.stored 149 (.slice A' P'.length c')
  have f : AsFr hi g w (w.setCell ⟨g, 149, none⟩ (.slice A' P'.length c')) := .grown s.2 h.hl fun k hk => .inr (by simpa [Value.ownBlock] using hk.symm)
  have hlen : 150 = ys.length := by have := h.cz.1; simpa using this.symm
  refine ⟨⟨s.1, h.gl, Nat.le_trans h.hl f.size, tab_keep h.tab (by omega) _, ?_, ?_, ?_, ?_, ?_, List.getElem?_set_self (by omega), ownsRow_setCell_below ho h.gl _, h.bef.fr f⟩, f⟩
  · rw [List.getElem?_set_ne (by omega)]; exact h.y0
  · rw [List.getElem?_set_ne (by omega)]; exact h.y1
  · rw [List.getElem?_set_ne (by omega)]; exact h.y2
  · rw [List.getElem?_set_ne (by omega)]; exact h.yb
  · rw [List.getElem?_set_ne (by omega)]; exact h.ym
theorem AsS.czG (h : AsS w hi g N I T most g2 rs P ys b A c) {o : Obj} (hg : (w.alloc o).grownBy w' (Value.slice A P.length c).ownBlock) : Chz w' 0 g ys := by
  have hb1 : Below w.heap.size w (w.alloc o) := (Below.refl _ _).alloc (Nat.le_refl _) _
  have h1 := h.next hb1
  have hk : ∀ k, (Value.slice A P.length c).ownBlock = some k → hi ≤ k := fun k hk => (h.ch.lt k hk).1
  exact own_blk h1.cz fun k e => by
    have : g = k := by simpa [Value.ownBlock] using e
    subst this
    exact hg.block g h1.lt fun e => by have := hk g e.symm; have := h.gl; omega
/-- The choice's row has grown. -/
theorem AsS.push (h : AsS w hi g N I T most g2 rs P ys b A c) {o : Obj} (hg : (w.alloc o).grownBy w' (Value.slice A P.length c).ownBlock) {A' : Option Addr} {c' : Nat} {x : Int} (ho : w'.ownsRow hi 2 1 (.slice A' (P.length + 1) c') (P.length + 1) (P.flatMap intC ++ intC x)) :
    AsS (w'.setCell ⟨g, 149, none⟩ (.slice A' (P.length + 1) c')) hi g N I T most g2 rs (P ++ [x]) (ys.set 149 (.slice A' (P.length + 1) c')) b A' c' ∧ AsFr hi g w (w'.setCell ⟨g, 149, none⟩ (.slice A' (P.length + 1) c')) := by
  have hb1 : Below w.heap.size w (w.alloc o) := (Below.refl _ _).alloc (Nat.le_refl _) _
  have h1 := h.next hb1
  have hk : ∀ k, (Value.slice A P.length c).ownBlock = some k → hi ≤ k := fun k hk => (h.ch.lt k hk).1
  have f2 : AsFr hi g (w.alloc o) w' := .grown hg h1.hl fun k e => .inl (hk k e)
  have hcz := h.czG hg
  have s := hcz.stored 149 (.slice A' (P.length + 1) c')
  have f3 : AsFr hi g w' (w'.setCell ⟨g, 149, none⟩ (.slice A' (P.length + 1) c')) := .grown s.2 (Nat.le_trans h1.hl f2.size) fun k hk => .inr (by simpa [Value.ownBlock] using hk.symm)
  have hlen : 150 = ys.length := by have := h.cz.1; simpa using this.symm
  have f := (AsFr.below hb1 h.hl).trans (f2.trans f3)
  have hpl : (P ++ [x]).length = P.length + 1 := by simp
  have hfl : (P ++ [x]).flatMap intC = P.flatMap intC ++ intC x := by simp
  refine ⟨⟨s.1, h.gl, Nat.le_trans h.hl f.size, tab_keep h.tab (by omega) _, ?_, ?_, ?_, ?_, ?_, ?_, ?_, h.bef.fr f⟩, f⟩
  · rw [List.getElem?_set_ne (by omega)]; exact h.y0
  · rw [List.getElem?_set_ne (by omega)]; exact h.y1
  · rw [List.getElem?_set_ne (by omega)]; exact h.y2
  · rw [List.getElem?_set_ne (by omega)]; exact h.yb
  · rw [List.getElem?_set_ne (by omega)]; exact h.ym
  · rw [hpl, List.getElem?_set_self (by omega)]
  · rw [hpl, hfl]; exact ownsRow_setCell_below ho h.gl _
end
set_option maxRecDepth 100000 in
set_option maxHeartbeats 4000000 in
theorem allowed_c {w : World} {hi g N I : Nat} {T : Nat → Nat → Bool} {most g2 : Nat} {rs : List RowG} {P : List Int} {ys : List Value} {b : Int} {A : Option Addr} {c : Nat} {B : Nat → List Int} (hS : AsS w hi g N I T most g2 rs P ys b A c)
    (hI : I ≤ 12) (_ : N ≤ 24) (hP : ∀ x ∈ P, 0 ≤ x ∧ x < (I : Int)) (hB : ∀ t r, rs[t]? = some r → r.xs = B t) (hBl : ∀ k j, j ∈ B k → 0 ≤ j ∧ j < (k : Int)) (hl : P.length < N) (x : Nat) (hx : x < I) :
    Calls Tryz.prog 32 #[.pointer (some ⟨g, 0, none⟩), .int .i64 (x : Int)] w fun e w' => e = .returned (.bool (alB B T P x)) ∧ Below w.heap.size w w' := by
  obtain ⟨c0, c1, c2, cb, cm, cc⟩ := hS.cells
  have hrl : rs.length = N := (Sl.of_own hS.bef.out).len RowG.cells 1 RowG.cells_len (by omega)
  obtain ⟨⟨Ar, cR, xs⟩, hr⟩ : ∃ r, rs[P.length]? = some r := ⟨_, List.getElem?_eq_getElem (by omega)⟩
  have hrx : xs = B P.length := hB _ _ hr
  have cr : w.cell? ⟨g2, P.length, none⟩ = some (.slice Ar xs.length cR) := by
    rw [hS.bef.out.cellAt _ (by omega)]
    have e := flat_at RowG.cells 1 RowG.cells_len rs P.length 0 _ hr (by decide)
    simpa using e
  have hmx : xs.length ≤ maxLen := own_max (hS.bef.inn _ _ hr)
  unfold maxLen at hmx
  have hri : Sl w w.heap.size 1 Ar xs.length (xs.flatMap intC) := Sl.of_own (hS.bef.inn _ _ hr)
  have hpi := Sl.of_own hS.ch
  obtain ⟨n, hn⟩ : ∃ n, P.length = n := ⟨_, rfl⟩
  obtain ⟨m, hm⟩ : ∃ m, xs.length = m := ⟨_, rfl⟩
  rw [hn] at cc cr hpi hrx hl
  rw [hm] at cr hri hmx
  have hml : ∀ (k : Nat) (j : Int), xs[k]? = some j → 0 ≤ j ∧ j < (n : Int) := fun k j hj => by
    rw [hrx] at hj
    exact hBl n j (List.mem_of_getElem? hj)
  have hpl : ∀ (j : Int), 0 ≤ j → j < (n : Int) → ∃ y : Nat, P[j.toNat]? = some (y : Int) ∧ y < I := fun j h0 h1 => by
    obtain ⟨y, hy⟩ : ∃ y, P[j.toNat]? = some y := ⟨_, List.getElem?_eq_getElem (by omega)⟩
    obtain ⟨y0, y1⟩ := hP y (List.mem_of_getElem? hy)
    exact ⟨y.toNat, by rw [hy]; congr 1; omega, by omega⟩
  have hal : alB B T P x = xs.all fun j => !(T x (P[j.toNat]?.getD 0).toNat) := by rw [alB, hn, ← hrx]
  have htc : ∀ y : Nat, y < 12 → w.cell? ⟨g, 3 + x * 12 + y, none⟩ = some (.bool (T x y)) := fun y hy => (hS.cz.cellAt _ (by omega)).trans (hS.tab x y (by omega) hy)
  rw [hal]
  have q0 : (0 : Int) ≤ (n : Int) := by omega
  have q1 : (n : Int) < (N : Int) := by omega
  have x0 : (0 : Int) ≤ (x : Int) := by omega
  have x1 : (x : Int) < 12 := by omega
  obtain ⟨f, hf⟩ : ∃ f : Int → Bool, f = fun j => !(T x (P[j.toNat]?.getD 0).toNat) := ⟨_, rfl⟩
  rw [← hf]
  have HS := Lib.hid hS; clear hS
  have Hr := Lib.hid hr; clear hr
  have Hrx := Lib.hid hrx; clear hrx
  have Hm := Lib.hid hm; clear hm
  have Hn := Lib.hid hn; clear hn
  have Hml := Lib.hid hml; clear hml
  have Hpl := Lib.hid hpl; clear hpl
  have Htc := Lib.hid htc; clear htc
  have Hal := Lib.hid hal; clear hal
  have Hf := Lib.hid hf; clear hf
  clear hP hB hBl hrl
  go_enter Tryz.func32, Tryz.ntmps32
  go_wp2_with fail
  go_quiet (fail)
  clear c0 c1 c2 cb cm cc cr q0 q1
  go_wp2_with fail
  go_loopw [19] (fun i wr => ∃ k : Nat, k ≤ m ∧ i = .int .i64 k ∧ Hid (∀ (j : Nat) (v : Int), j < k → xs[j]? = some v → f v = true) ∧ Below w.heap.size w wr) (fun i _ => m - (intOf i).toNat)
  case atStart => exact ⟨0, Nat.zero_le _, rfl, Lib.hid (fun j v hj => absurd hj (by omega)), by (repeat (first | (with_reducible assumption) | (with_reducible exact Below.refl _ _) | exact Nat.le_refl _ | exact Below.size (by with_reducible assumption) | (with_reducible refine Below.drew ?_) | (with_reducible refine below_drewN ?_ _) | (with_reducible refine Below.alloc ?_ ?_ _) | (with_reducible refine Below.setCell ?_ ?_ _) | (with_reducible refine le_alloc ?_ _) | (with_reducible refine le_set ?_ _ _) | (with_reducible refine le_drew ?_) | (with_reducible refine le_drewN ?_ _) | omega | (dsimp only; omega)))⟩
  case round =>
    obtain ⟨k, hk, rfl, Hs, hbw⟩ := hrel
    by_cases hlt : k < m
    · obtain ⟨bb, off, v, rfl, hbb, hv, d1⟩ := (hri.next hbw).int k hlt
      obtain ⟨v0, v1⟩ := Hml.out k v hv
      obtain ⟨v, rfl⟩ := Int.eq_ofNat_of_zero_le v0
      obtain ⟨y, hy, hyI⟩ := Hpl.out _ v0 v1
      obtain ⟨b2, o2, y', rfl, hb2, hy', d2⟩ := (hpi.next hbw).int v (by omega)
      rw [Int.toNat_natCast] at hy
      rw [hy] at hy'
      injection hy' with hy'
      subst hy'
      have hy12 : y < 12 := by omega
      have d3 := (keepC hbw g HS.out.lt (3 + x * 12 + y)).trans (Htc.out y hy12)
      have c149 := (keepC hbw g HS.out.lt 149).trans HS.out.cells.2.2.2.2.2
      rw [Hn.out] at c149
      have k0 : (0 : Int) ≤ (k : Int) := by omega
      have k1 : (k : Int) < (m : Int) := by omega
      have y0 : (0 : Int) ≤ (y : Int) := by omega
      have y1 : (y : Int) < 12 := by omega
      have hfv : f (v : Int) = !(T x y) := by rw [Hf.out]; simp only [Int.toNat_natCast, hy, Option.getD_some]
      have Hv := Lib.hid hv; clear hv
      have Hy := Lib.hid hy; clear hy
      have Hfv := Lib.hid hfv; clear hfv
      cases hT : T x y
      · rw [hT] at d3
        have hfv := Hfv.out
        rw [hT] at hfv
        have HT := Lib.hid hT; clear hT
        have Hfv2 := Lib.hid hfv; clear hfv
        go_wp2_with fail
        go_quiet (fail)
        go_wp2_with fail
        go_roundw
        case rel =>
          refine ⟨k + 1, by omega, by go_num, Lib.hid (fun j u hj hu => ?_), by (repeat (first | (with_reducible assumption) | (with_reducible exact Below.refl _ _) | exact Nat.le_refl _ | exact Below.size (by with_reducible assumption) | (with_reducible refine Below.drew ?_) | (with_reducible refine below_drewN ?_ _) | (with_reducible refine Below.alloc ?_ ?_ _) | (with_reducible refine Below.setCell ?_ ?_ _) | (with_reducible refine le_alloc ?_ _) | (with_reducible refine le_set ?_ _ _) | (with_reducible refine le_drew ?_) | (with_reducible refine le_drewN ?_ _) | omega | (dsimp only; omega)))⟩
          rcases Nat.lt_or_ge j k with h1 | h1
          · exact Hs.out j u h1 hu
          · obtain rfl : j = k := by omega
            rw [Hv.out] at hu
            injection hu with hu
            subst hu
            exact Hfv2.out
        case measure => simp [intOf]; omega
      · rw [hT] at d3
        have hfv := Hfv.out
        rw [hT] at hfv
        have HT := Lib.hid hT; clear hT
        have Hfv2 := Lib.hid hfv; clear hfv
        go_wp2_with fail
        go_quiet (fail)
        go_wp2_with fail
        go_ret
        refine ⟨ret_eq (bool_eq ?_), by (repeat (first | (with_reducible assumption) | (with_reducible exact Below.refl _ _) | exact Nat.le_refl _ | exact Below.size (by with_reducible assumption) | (with_reducible refine Below.drew ?_) | (with_reducible refine below_drewN ?_ _) | (with_reducible refine Below.alloc ?_ ?_ _) | (with_reducible refine Below.setCell ?_ ?_ _) | (with_reducible refine le_alloc ?_ _) | (with_reducible refine le_set ?_ _ _) | (with_reducible refine le_drew ?_) | (with_reducible refine le_drewN ?_ _) | omega | (dsimp only; omega)))⟩
        rw [eq_comm, List.all_eq_false]
        exact ⟨_, List.mem_of_getElem? Hv.out, by rw [Hfv2.out]; simp⟩
    · obtain rfl : k = m := by omega
      go_wp2_with fail
      go_ret
      refine ⟨ret_eq (bool_eq ?_), by (repeat (first | (with_reducible assumption) | (with_reducible exact Below.refl _ _) | exact Nat.le_refl _ | exact Below.size (by with_reducible assumption) | (with_reducible refine Below.drew ?_) | (with_reducible refine below_drewN ?_ _) | (with_reducible refine Below.alloc ?_ ?_ _) | (with_reducible refine Below.setCell ?_ ?_ _) | (with_reducible refine le_alloc ?_ _) | (with_reducible refine le_set ?_ _ _) | (with_reducible refine le_drew ?_) | (with_reducible refine le_drewN ?_ _) | omega | (dsimp only; omega)))⟩
      rw [eq_comm, List.all_eq_true]
      intro v hv
      obtain ⟨j, hj⟩ := List.getElem?_of_mem hv
      exact Hs.out j v (by have := (List.getElem?_eq_some_iff.1 hj).1; rw [Hm.out] at this; exact this) hj
end Go.Proofs.YtgibbhipjpbdfaaGreat

/- Choices of characters: is an index in a list; the search. -/
namespace Go.Proofs.YtgibbhipjpbdfaaGreat
open Go.RowKit
set_option maxRecDepth 100000 in
set_option maxHeartbeats 1000000 in
theorem iIndex_c (A : Option Addr) (n c : Nat) (xs : List Int) (s : Int) (w : World) (h : Sl w w.heap.size 1 A n (xs.flatMap intC)) (hm : n ≤ maxLen) :
    Calls Tryz.prog 47 #[.slice A n c, .int .i64 s] w fun e w' => ∃ r : Int, e = .returned (.int .i64 r) ∧ (0 ≤ r ↔ s ∈ xs) ∧ w = w' := by
  unfold maxLen at hm
  have hl := h.len intC 1 intC_len (by omega)
  have Hl := Lib.hid hl; clear hl
  go_enter Tryz.func47, Tryz.ntmps47
  go_wp2
  go_loop [5, 8] (fun _ i => ∃ k : Nat, k ≤ n ∧ i = .int .i64 k ∧ ¬ s ∈ xs.take k) (fun _ i => n - (intOf i).toNat)
  case atStart => exact ⟨0, Nat.zero_le _, rfl, by simp⟩
  case round =>
    obtain ⟨k, hk, rfl, hno⟩ := hrel
    have Hno := Lib.hid hno; clear hno
    by_cases hlt : k < n
    · obtain ⟨b, off, d, rfl, hb, hd, c1⟩ := h.int k hlt
      have j1 : (0 : Int) ≤ (k : Int) := by omega
      have j2 : (k : Int) < (n : Int) := by omega
      have Hd := Lib.hid hd; clear hd
      by_cases hds : s = d
      · subst hds
        go_wp2
        go_ret
        exact ⟨k, rfl, ⟨fun _ => List.mem_of_getElem? Hd.out, fun _ => by omega⟩, rfl⟩
      · have hds' : (s == d) = false := by simpa using hds
        have Hds := Lib.hid hds; clear hds
        go_wp2
        go_round
        case rel =>
          refine ⟨k + 1, by omega, by go_num, ?_⟩
          rw [mem_take_next Hd.out]
          exact fun h => h.elim Hno.out Hds.out
        case measure => simp [intOf]; omega
    · go_wp2
      go_ret
      have hno := Hno.out
      rw [List.take_of_length_le (by rw [Hl.out]; omega)] at hno
      exact ⟨-1, rfl, ⟨fun h => by omega, fun h => absurd h hno⟩, rfl⟩
set_option maxHeartbeats 400000 in
theorem iContains_c (A : Option Addr) (n c : Nat) (xs : List Int) (s : Int) (w : World) (h : Sl w w.heap.size 1 A n (xs.flatMap intC)) (hm : n ≤ maxLen) :
    Calls Tryz.prog 33 #[.slice A n c, .int .i64 s] w fun e w' => e = .returned (.bool (decide (s ∈ xs))) ∧ w = w' := by
  go_enter Tryz.func33, Tryz.ntmps33
  go_wp2_with (go_at_call 47; refine (iIndex_c A n c xs s _ h hm).mono ?_; rintro e w1 ⟨r, rfl, hr, rfl⟩)
  go_ret
  exact ⟨rfl, rfl⟩
theorem own_pre {w : World} {base : Nat} {e : TypeId} {sz n c g : Nat} {xs : List Value} (h : w.ownsRow base e sz (.slice (some ⟨g, 0, none⟩) n c) n xs) (k : Nat) (hk : k ≤ n) : w.ownsRow base e sz (.slice (some ⟨g, 0, none⟩) k c) k (xs.take (k * sz)) := by
  have e1 : k * sz ≤ n * sz := Nat.mul_le_mul_right _ hk
  rcases h.2 with ⟨h', _⟩ | ⟨g', cap, cur, hv, hb, hg, h1, h2, h3, h4⟩
  · cases h'
  · injection hv with a1 _ a3
    injection a1 with a1
    injection a1 with a1
    subst a1 a3
    exact ⟨by rw [List.length_take, h.1]; exact Nat.min_eq_left e1, .inr ⟨g, c, cur, rfl, hb, hg, by omega, h2, h3, by rw [← h4, List.take_take, Nat.min_eq_left e1]⟩⟩
theorem len_int : ∀ P : List Int, (P.flatMap intC).length = P.length
  | [] => rfl
  | _ :: r => by rw [List.flatMap_cons, List.length_append, len_int r, List.length_cons]; simp [intC]; omega
/-- What is known of a search for choices. -/
structure AsK (I N most : Nat) (B : Nat → List Int) (rs : List RowG) : Prop where
  I12 : I ≤ 12
  N24 : N ≤ 24
  m12 : most ≤ 12
  rows : ∀ t r, rs[t]? = some r → r.xs = B t
  lt : ∀ k j, j ∈ B k → 0 ≤ j ∧ j < (k : Int)
/-- The contract of different: how many indices of the choice differ. -/
def DifK (hi g N I : Nat) (T : Nat → Nat → Bool) (g2 : Nat) (rs : List RowG) : Prop := ∀ (most : Nat) (P : List Int) (ys : List Value) (b : Int) (A : Option Addr) (c : Nat) (w : World), AsS w hi g N I T most g2 rs P ys b A c → P.length ≤ 24 → Calls Tryz.prog 18 #[.pointer (some ⟨g, 0, none⟩)] w fun e w' => e = .returned (.int .i64 ((usedL P).length : Nat)) ∧ Below w.heap.size w w'
def SeaPost (hi g N I : Nat) (B : Nat → List Int) (T : Nat → Nat → Bool) (most g2 : Nat) (rs : List RowG) (P : List Int) (b : Int) (w : World) (e : Ending) (w' : World) : Prop :=
  ∃ (r : Int) (P' : List Int) (ys' : List Value) (b' : Int) (A' : Option Addr) (c' : Nat), e = .returned (.int .i64 r) ∧ SeaAns N I B T most P r P' ∧ AsS w' hi g N I T most g2 rs P' ys' b' A' c' ∧ (0 ≤ b' ∧ b' ≤ b) ∧ AsFr hi g w w'
set_option maxRecDepth 100000 in
set_option maxHeartbeats 8000000 in
theorem search_c {hi g N I : Nat} {T : Nat → Nat → Bool} {most g2 : Nat} {rs : List RowG} {B : Nat → List Int} (hK : AsK I N most B rs) (hD : DifK hi g N I T g2 rs) : ∀ (f : Nat) (P : List Int) (ys : List Value) (b : Int) (A : Option Addr) (c : Nat) (w : World), AsS w hi g N I T most g2 rs P ys b A c → 0 ≤ b → b ≤ 20000 → (∀ x ∈ P, 0 ≤ x ∧ x < (I : Int)) → P.length ≤ N → N ≤ P.length + f → (usedL P).length ≤ most →
    Calls Tryz.prog 17 #[.pointer (some ⟨g, 0, none⟩)] w (SeaPost hi g N I B T most g2 rs P b w) := by
  intro f
  induction f with
  | zero =>
    intro P ys b A c w hS h0 h2 hP hl hf hu
    obtain ⟨c0, c1, c2, cb, cm, cc⟩ := hS.cells
    have hn : P.length = N := by omega
    rw [hn] at cc
    have HS := Lib.hid hS; clear hS
    have HP := Lib.hid hP; clear hP
    have Hn := Lib.hid hn; clear hn
    go_enter Tryz.func17, Tryz.ntmps17
    go_wp2_with fail
    go_ret
    exact ⟨0, P, ys, b, A, c, rfl, .inl ⟨rfl, Good.end' Hn.out hu⟩, HS.out, ⟨h0, Int.le_refl _⟩, .refl _ _ _⟩
  | succ f ih =>
    intro P ys b A c w hS h0 h2 hP hl hf hu
    by_cases hne : P.length = N
    · obtain ⟨c0, c1, c2, cb, cm, cc⟩ := hS.cells
      rw [hne] at cc
      have HS := Lib.hid hS; clear hS
      have HP := Lib.hid hP; clear hP
      have Hn := Lib.hid hne; clear hne
      go_enter Tryz.func17, Tryz.ntmps17
      go_wp2_with fail
      go_ret
      exact ⟨0, P, ys, b, A, c, rfl, .inl ⟨rfl, Good.end' Hn.out hu⟩, HS.out, ⟨h0, Int.le_refl _⟩, .refl _ _ _⟩
    · obtain ⟨p0, hp, hy0, hy1, hy2⟩ := info_parts intInfo
      obtain ⟨n, hn⟩ : ∃ n, P.length = n := ⟨_, rfl⟩
      have hlN : P.length < N := by omega
      have hnN : n < N := by omega
      have hI12 := hK.I12
      have hN24 := hK.N24
      have hgl := hS.gl
      have hnn : ((n : Int) == (N : Int)) = false := by simpa using (show ¬ (n : Int) = (N : Int) by omega)
      have e63 : n + 1 ≤ maxLen := by unfold maxLen; omega
      have e32 : (n + 1) * 8 ≤ 140737488355328 := by omega
      have hm0 : Miss N I B T most P 0 := Miss.zero
      have HS := Lib.hid hS; clear hS
      have HP := Lib.hid hP; clear hP
      rw [hn] at hf
      have Hn := Lib.hid hn; clear hn
      have HK := Lib.hid hK; clear hK
      have HD := Lib.hid hD; clear hD
      have HU := Lib.hid hu; clear hu
      have E63 := Lib.hid e63; clear e63
      have E32 := Lib.hid e32; clear e32
      have HM0 := Lib.hid hm0; clear hm0
      have HLN := Lib.hid hlN; clear hlN
      obtain ⟨c0, c1, c2, cb, cm, cc⟩ := HS.out.cells
      rw [Hn.out] at cc
      clear hl hne
      go_enter Tryz.func17, Tryz.ntmps17
      go_wp2_with fail
      clear c0 c1 c2 cb cm cc
      go_loopw [21] (fun i wr => ∃ (k : Nat) (ys1 : List Value) (b1 : Int) (A1 : Option Addr) (c1' : Nat), i = .int .i64 k ∧ k ≤ I ∧ Hid (Miss N I B T most P k) ∧ Hid (AsS wr hi g N I T most g2 rs P ys1 b1 A1 c1') ∧ (0 ≤ b1 ∧ b1 ≤ b) ∧ AsFr hi g w wr) (fun i _ => I - (intOf i).toNat)
      case atStart => exact ⟨0, ys, b, A, c, rfl, Nat.zero_le _, HM0, HS, ⟨h0, Int.le_refl _⟩, .refl _ _ _⟩
      case round =>
        clear HS HM0 h0
        obtain ⟨k, ys1, b1, A1, c1', rfl, hkI, HM, HS, hb1, hfr⟩ := hrel
        by_cases hk : k < I
        · have hk1 : (k : Int) < (I : Int) := by omega
          obtain ⟨c0, c1, c2, cb, cm, cc⟩ := HS.out.cells
          rw [Hn.out] at cc
          have hgw : g < wr.heap.size := HS.out.lt
          have e1 : ∀ {w' : World}, Below wr.heap.size wr w' → (Below wr.heap.size wr w' ∧ (∀ x, w'.cell? ⟨g, x, none⟩ = wr.cell? ⟨g, x, none⟩)) := fun hbb => ⟨hbb, keepC hbb _ hgw⟩
          have hAl : ∀ wq, Below wr.heap.size wr wq → Calls Tryz.prog 32 #[.pointer (some ⟨g, 0, none⟩), .int .i64 (k : Int)] wq fun e w' => e = .returned (.bool (alB B T P k)) ∧ Below wq.heap.size wq w' := fun wq hbb => allowed_c (HS.out.next hbb) HK.out.I12 HK.out.N24 HP.out HK.out.rows HK.out.lt HLN.out k hk
          have hCo : ∀ wq, Below wr.heap.size wr wq → Calls Tryz.prog 33 #[.slice A1 n c1', .int .i64 (k : Int)] wq fun e w' => e = .returned (.bool (decide ((k : Int) ∈ P))) ∧ wq = w' := fun wq hbb => iContains_c A1 n c1' P (k : Int) wq (Hn.out ▸ Sl.of_own (HS.out.next hbb).ch) (by unfold maxLen; omega)
          have hDi : ∀ wq, Below wr.heap.size wr wq → Calls Tryz.prog 18 #[.pointer (some ⟨g, 0, none⟩)] wq fun e w' => e = .returned (.int .i64 ((usedL P).length : Nat)) ∧ Below wq.heap.size wq w' := fun wq hbb => HD.out most P ys1 b1 A1 c1' wq (HS.out.next hbb) (by rw [Hn.out]; omega)
          obtain ⟨al, hal⟩ : ∃ al, alB B T P k = al := ⟨_, rfl⟩
          obtain ⟨co, hco⟩ : ∃ co, decide ((k : Int) ∈ P) = co := ⟨_, rfl⟩
          obtain ⟨u, hu⟩ : ∃ u, (usedL P).length = u := ⟨_, rfl⟩
          rw [hal] at hAl
          rw [hco] at hCo
          rw [hu] at hDi
          have hu2 : u ≤ most := by rw [← hu]; exact HU.out
          have HAl := Lib.hid hAl; clear hAl
          have HCo := Lib.hid hCo; clear hCo
          have HDi := Lib.hid hDi; clear hDi
          have Hal := Lib.hid hal; clear hal
          have Hco := Lib.hid hco; clear hco
          have Hu := Lib.hid hu; clear hu
          cases al
          · have HMn := Lib.hid (HM.out.next (no_clash HK.out.lt HLN.out Hal.out))
            go_wp2_with fail
            refine wp_region_wqC (C := fun w' => Below wr.heap.size wr w' ∧ (∀ x, w'.cell? ⟨g, x, none⟩ = wr.cell? ⟨g, x, none⟩)) (by kernel_rfl) (by kernel_rfl) (e1 (Below.refl _ _).drew) ?_
            (first
              | (refine WQ.take (v := ?_) (by rfl) ?_ ?_
                 rotate_left
                 focus (intro wq hq; (try dsimp only at hq); go_simp; (try (with_reducible rfl)); done))
              | (refine WQ.skip (by rfl) ?_))
            try simp only [Act.put, List.setIfInBounds_toArray, List.set_cons_zero, List.set_cons_succ]
            (first
              | (refine WQ.take (v := ?_) (by rfl) ?_ ?_
                 rotate_left
                 focus (intro wq hq; (try dsimp only at hq); go_simp; (try (with_reducible rfl)); done))
              | (refine WQ.skip (by rfl) ?_))
            try simp only [Act.put, List.setIfInBounds_toArray, List.set_cons_zero, List.set_cons_succ]
            refine WQ.take (v := .bool false) (by rfl) (fun wq hq => ?_) ?_
            focus (go_simp; (refine (HAl.out wq hq.1).mono ?_; rintro e w2 ⟨rfl, hb2⟩; exact ⟨rfl, e1 (hq.1.trans (hb2.mono hq.1.size))⟩))
            try simp only [Act.put, List.setIfInBounds_toArray, List.set_cons_zero, List.set_cons_succ]
            (first
              | (refine WQ.take (v := ?_) (by rfl) ?_ ?_
                 rotate_left
                 focus (intro wq hq; (try dsimp only at hq); go_simp; (try (with_reducible rfl)); done))
              | (refine WQ.skip (by rfl) ?_))
            try simp only [Act.put, List.setIfInBounds_toArray, List.set_cons_zero, List.set_cons_succ]
            (first
              | (refine WQ.take (v := ?_) (by rfl) ?_ ?_
                 rotate_left
                 focus (intro wq hq; (try dsimp only at hq); go_simp; (try (with_reducible rfl)); done))
              | (refine WQ.skip (by rfl) ?_))
            try simp only [Act.put, List.setIfInBounds_toArray, List.set_cons_zero, List.set_cons_succ]
            (first
              | (refine WQ.take (v := ?_) (by rfl) ?_ ?_
                 rotate_left
                 focus (intro wq hq; (try dsimp only at hq); go_simp; (try (with_reducible rfl)); done))
              | (refine WQ.skip (by rfl) ?_))
            try simp only [Act.put, List.setIfInBounds_toArray, List.set_cons_zero, List.set_cons_succ]
            (first
              | (refine WQ.take (v := ?_) (by rfl) ?_ ?_
                 rotate_left
                 focus (intro wq hq; (try dsimp only at hq); go_simp; (try (with_reducible rfl)); done))
              | (refine WQ.skip (by rfl) ?_))
            try simp only [Act.put, List.setIfInBounds_toArray, List.set_cons_zero, List.set_cons_succ]
            (first
              | (refine WQ.take (v := ?_) (by rfl) ?_ ?_
                 rotate_left
                 focus (intro wq hq; (try dsimp only at hq); go_simp; (try (with_reducible rfl)); done))
              | (refine WQ.skip (by rfl) ?_))
            try simp only [Act.put, List.setIfInBounds_toArray, List.set_cons_zero, List.set_cons_succ]
            (first
              | (refine WQ.take (v := ?_) (by rfl) ?_ ?_
                 rotate_left
                 focus (intro wq hq; (try dsimp only at hq); go_simp; (try (with_reducible rfl)); done))
              | (refine WQ.skip (by rfl) ?_))
            try simp only [Act.put, List.setIfInBounds_toArray, List.set_cons_zero, List.set_cons_succ]
            (first
              | (refine WQ.take (v := ?_) (by rfl) ?_ ?_
                 rotate_left
                 focus (intro wq hq; (try dsimp only at hq); go_simp; (try (with_reducible rfl)); done))
              | (refine WQ.skip (by rfl) ?_))
            try simp only [Act.put, List.setIfInBounds_toArray, List.set_cons_zero, List.set_cons_succ]
            (first
              | (refine WQ.take (v := ?_) (by rfl) ?_ ?_
                 rotate_left
                 focus (intro wq hq; (try dsimp only at hq); go_simp; (try (with_reducible rfl)); done))
              | (refine WQ.skip (by rfl) ?_))
            try simp only [Act.put, List.setIfInBounds_toArray, List.set_cons_zero, List.set_cons_succ]
            (first
              | (refine WQ.take (v := ?_) (by rfl) ?_ ?_
                 rotate_left
                 focus (intro wq hq; (try dsimp only at hq); go_simp; (try (with_reducible rfl)); done))
              | (refine WQ.skip (by rfl) ?_))
            try simp only [Act.put, List.setIfInBounds_toArray, List.set_cons_zero, List.set_cons_succ]
            (first
              | (refine WQ.take (v := ?_) (by rfl) ?_ ?_
                 rotate_left
                 focus (intro wq hq; (try dsimp only at hq); go_simp; (try (with_reducible rfl)); done))
              | (refine WQ.skip (by rfl) ?_))
            try simp only [Act.put, List.setIfInBounds_toArray, List.set_cons_zero, List.set_cons_succ]
            (first
              | (refine WQ.take (v := ?_) (by rfl) ?_ ?_
                 rotate_left
                 focus (intro wq hq; (try dsimp only at hq); go_simp; (try (with_reducible rfl)); done))
              | (refine WQ.skip (by rfl) ?_))
            try simp only [Act.put, List.setIfInBounds_toArray, List.set_cons_zero, List.set_cons_succ]
            (first
              | (refine WQ.take (v := ?_) (by rfl) ?_ ?_
                 rotate_left
                 focus (intro wq hq; (try dsimp only at hq); go_simp; (try (with_reducible rfl)); done))
              | (refine WQ.skip (by rfl) ?_))
            try simp only [Act.put, List.setIfInBounds_toArray, List.set_cons_zero, List.set_cons_succ]
            (first
              | (refine WQ.take (v := ?_) (by rfl) ?_ ?_
                 rotate_left
                 focus (intro wq hq; (try dsimp only at hq); go_simp; (try (with_reducible rfl)); done))
              | (refine WQ.skip (by rfl) ?_))
            try simp only [Act.put, List.setIfInBounds_toArray, List.set_cons_zero, List.set_cons_succ]
            (first
              | (refine WQ.take (v := ?_) (by rfl) ?_ ?_
                 rotate_left
                 focus (intro wq hq; (try dsimp only at hq); go_simp; (try (with_reducible rfl)); done))
              | (refine WQ.skip (by rfl) ?_))
            try simp only [Act.put, List.setIfInBounds_toArray, List.set_cons_zero, List.set_cons_succ]
            (first
              | (refine WQ.take (v := ?_) (by rfl) ?_ ?_
                 rotate_left
                 focus (intro wq hq; (try dsimp only at hq); go_simp; (try (with_reducible rfl)); done))
              | (refine WQ.skip (by rfl) ?_))
            try simp only [Act.put, List.setIfInBounds_toArray, List.set_cons_zero, List.set_cons_succ]
            (first
              | (refine WQ.take (v := ?_) (by rfl) ?_ ?_
                 rotate_left
                 focus (intro wq hq; (try dsimp only at hq); go_simp; (try (with_reducible rfl)); done))
              | (refine WQ.skip (by rfl) ?_))
            try simp only [Act.put, List.setIfInBounds_toArray, List.set_cons_zero, List.set_cons_succ]
            (first
              | (refine WQ.take (v := ?_) (by rfl) ?_ ?_
                 rotate_left
                 focus (intro wq hq; (try dsimp only at hq); go_simp; (try (with_reducible rfl)); done))
              | (refine WQ.skip (by rfl) ?_))
            try simp only [Act.put, List.setIfInBounds_toArray, List.set_cons_zero, List.set_cons_succ]
            (first
              | (refine WQ.take (v := ?_) (by rfl) ?_ ?_
                 rotate_left
                 focus (intro wq hq; (try dsimp only at hq); go_simp; (try (with_reducible rfl)); done))
              | (refine WQ.skip (by rfl) ?_))
            try simp only [Act.put, List.setIfInBounds_toArray, List.set_cons_zero, List.set_cons_succ]
            (first
              | (refine WQ.take (v := ?_) (by rfl) ?_ ?_
                 rotate_left
                 focus (intro wq hq; (try dsimp only at hq); go_simp; (try (with_reducible rfl)); done))
              | (refine WQ.skip (by rfl) ?_))
            try simp only [Act.put, List.setIfInBounds_toArray, List.set_cons_zero, List.set_cons_succ]
            refine WQ.nil ?_
            rintro w9 ⟨hb9, _⟩
            go_wp2_with fail
            go_roundw
            case rel => exact ⟨k + 1, ys1, b1, A1, c1', by go_num, by omega, HMn, Lib.hid (HS.out.next hb9), hb1, hfr.trans (.below hb9 HS.out.hl)⟩
            case measure => simp [intOf]; omega
          · cases co
            · by_cases hmo : most ≤ u
              · have HMn := Lib.hid (HM.out.next (no_more HK.out.lt HLN.out (of_decide_eq_false Hco.out) (by rw [Hu.out]; exact hmo)))
                have hge : decide ((most : Int) ≤ (u : Int)) = true := decide_eq_true (by omega)
                have hge2 : (most : Int) ≤ (u : Int) := by omega
                go_wp2_with fail
                refine wp_region_wqC (C := fun w' => Below wr.heap.size wr w' ∧ (∀ x, w'.cell? ⟨g, x, none⟩ = wr.cell? ⟨g, x, none⟩)) (by kernel_rfl) (by kernel_rfl) (e1 (Below.refl _ _).drew) ?_
                (first
                  | (refine WQ.take (v := ?_) (by rfl) ?_ ?_
                     rotate_left
                     focus (intro wq hq; (try dsimp only at hq); go_simp; (try (with_reducible rfl)); done))
                  | (refine WQ.skip (by rfl) ?_))
                try simp only [Act.put, List.setIfInBounds_toArray, List.set_cons_zero, List.set_cons_succ]
                (first
                  | (refine WQ.take (v := ?_) (by rfl) ?_ ?_
                     rotate_left
                     focus (intro wq hq; (try dsimp only at hq); go_simp; (try (with_reducible rfl)); done))
                  | (refine WQ.skip (by rfl) ?_))
                try simp only [Act.put, List.setIfInBounds_toArray, List.set_cons_zero, List.set_cons_succ]
                refine WQ.take (v := .bool true) (by rfl) (fun wq hq => ?_) ?_
                focus (go_simp; (refine (HAl.out wq hq.1).mono ?_; rintro e w2 ⟨rfl, hb2⟩; exact ⟨rfl, e1 (hq.1.trans (hb2.mono hq.1.size))⟩))
                try simp only [Act.put, List.setIfInBounds_toArray, List.set_cons_zero, List.set_cons_succ]
                (first
                  | (refine WQ.take (v := ?_) (by rfl) ?_ ?_
                     rotate_left
                     focus (intro wq hq; (try dsimp only at hq); go_simp; (try (with_reducible rfl)); done))
                  | (refine WQ.skip (by rfl) ?_))
                try simp only [Act.put, List.setIfInBounds_toArray, List.set_cons_zero, List.set_cons_succ]
                (first
                  | (refine WQ.take (v := ?_) (by rfl) ?_ ?_
                     rotate_left
                     focus (intro wq hq; (try dsimp only at hq); go_simp; (try (with_reducible rfl)); done))
                  | (refine WQ.skip (by rfl) ?_))
                try simp only [Act.put, List.setIfInBounds_toArray, List.set_cons_zero, List.set_cons_succ]
                (first
                  | (refine WQ.take (v := ?_) (by rfl) ?_ ?_
                     rotate_left
                     focus (intro wq hq; (try dsimp only at hq); go_simp; (try (with_reducible rfl)); done))
                  | (refine WQ.skip (by rfl) ?_))
                try simp only [Act.put, List.setIfInBounds_toArray, List.set_cons_zero, List.set_cons_succ]
                (first
                  | (refine WQ.take (v := ?_) (by rfl) ?_ ?_
                     rotate_left
                     focus (intro wq hq; (try dsimp only at hq); go_simp; (try (with_reducible rfl)); done))
                  | (refine WQ.skip (by rfl) ?_))
                try simp only [Act.put, List.setIfInBounds_toArray, List.set_cons_zero, List.set_cons_succ]
                (first
                  | (refine WQ.take (v := ?_) (by rfl) ?_ ?_
                     rotate_left
                     focus (intro wq hq; (try dsimp only at hq); go_simp; (try (with_reducible rfl)); done))
                  | (refine WQ.skip (by rfl) ?_))
                try simp only [Act.put, List.setIfInBounds_toArray, List.set_cons_zero, List.set_cons_succ]
                (first
                  | (refine WQ.take (v := ?_) (by rfl) ?_ ?_
                     rotate_left
                     focus (intro wq hq; (try dsimp only at hq); go_simp; (try (with_reducible rfl)); done))
                  | (refine WQ.skip (by rfl) ?_))
                try simp only [Act.put, List.setIfInBounds_toArray, List.set_cons_zero, List.set_cons_succ]
                (first
                  | (refine WQ.take (v := ?_) (by rfl) ?_ ?_
                     rotate_left
                     focus (intro wq hq; (try dsimp only at hq); go_simp; (try (with_reducible rfl)); done))
                  | (refine WQ.skip (by rfl) ?_))
                try simp only [Act.put, List.setIfInBounds_toArray, List.set_cons_zero, List.set_cons_succ]
                refine WQ.take (v := .bool false) (by rfl) (fun wq hq => ?_) ?_
                focus (go_simp; (refine (HCo.out wq hq.1).mono ?_; rintro e w2 ⟨rfl, rfl⟩; exact ⟨rfl, hq⟩))
                try simp only [Act.put, List.setIfInBounds_toArray, List.set_cons_zero, List.set_cons_succ]
                (first
                  | (refine WQ.take (v := ?_) (by rfl) ?_ ?_
                     rotate_left
                     focus (intro wq hq; (try dsimp only at hq); go_simp; (try (with_reducible rfl)); done))
                  | (refine WQ.skip (by rfl) ?_))
                try simp only [Act.put, List.setIfInBounds_toArray, List.set_cons_zero, List.set_cons_succ]
                (first
                  | (refine WQ.take (v := ?_) (by rfl) ?_ ?_
                     rotate_left
                     focus (intro wq hq; (try dsimp only at hq); go_simp; (try (with_reducible rfl)); done))
                  | (refine WQ.skip (by rfl) ?_))
                try simp only [Act.put, List.setIfInBounds_toArray, List.set_cons_zero, List.set_cons_succ]
                (first
                  | (refine WQ.take (v := ?_) (by rfl) ?_ ?_
                     rotate_left
                     focus (intro wq hq; (try dsimp only at hq); go_simp; (try (with_reducible rfl)); done))
                  | (refine WQ.skip (by rfl) ?_))
                try simp only [Act.put, List.setIfInBounds_toArray, List.set_cons_zero, List.set_cons_succ]
                refine WQ.take (v := .int .i64 (u : Int)) (by rfl) (fun wq hq => ?_) ?_
                focus (go_simp; (refine (HDi.out wq hq.1).mono ?_; rintro e w2 ⟨rfl, hb2⟩; exact ⟨rfl, e1 (hq.1.trans (hb2.mono hq.1.size))⟩))
                try simp only [Act.put, List.setIfInBounds_toArray, List.set_cons_zero, List.set_cons_succ]
                (first
                  | (refine WQ.take (v := ?_) (by rfl) ?_ ?_
                     rotate_left
                     focus (intro wq hq; (try dsimp only at hq); go_simp; (try (with_reducible rfl)); done))
                  | (refine WQ.skip (by rfl) ?_))
                try simp only [Act.put, List.setIfInBounds_toArray, List.set_cons_zero, List.set_cons_succ]
                (first
                  | (refine WQ.take (v := ?_) (by rfl) ?_ ?_
                     rotate_left
                     focus (intro wq hq; (try dsimp only at hq); go_simp; (try (with_reducible rfl)); done))
                  | (refine WQ.skip (by rfl) ?_))
                try simp only [Act.put, List.setIfInBounds_toArray, List.set_cons_zero, List.set_cons_succ]
                (first
                  | (refine WQ.take (v := ?_) (by rfl) ?_ ?_
                     rotate_left
                     focus (intro wq hq; (try dsimp only at hq); go_simp; (try (with_reducible rfl)); done))
                  | (refine WQ.skip (by rfl) ?_))
                try simp only [Act.put, List.setIfInBounds_toArray, List.set_cons_zero, List.set_cons_succ]
                (first
                  | (refine WQ.take (v := ?_) (by rfl) ?_ ?_
                     rotate_left
                     focus (intro wq hq; (try dsimp only at hq); go_simp; (try (with_reducible rfl)); done))
                  | (refine WQ.skip (by rfl) ?_))
                try simp only [Act.put, List.setIfInBounds_toArray, List.set_cons_zero, List.set_cons_succ]
                (first
                  | (refine WQ.take (v := ?_) (by rfl) ?_ ?_
                     rotate_left
                     focus (intro wq hq; (try dsimp only at hq); go_simp; (try (with_reducible rfl)); done))
                  | (refine WQ.skip (by rfl) ?_))
                try simp only [Act.put, List.setIfInBounds_toArray, List.set_cons_zero, List.set_cons_succ]
                (first
                  | (refine WQ.take (v := ?_) (by rfl) ?_ ?_
                     rotate_left
                     focus (intro wq hq; (try dsimp only at hq); go_simp; (try (with_reducible rfl)); done))
                  | (refine WQ.skip (by rfl) ?_))
                try simp only [Act.put, List.setIfInBounds_toArray, List.set_cons_zero, List.set_cons_succ]
                (first
                  | (refine WQ.take (v := ?_) (by rfl) ?_ ?_
                     rotate_left
                     focus (intro wq hq; (try dsimp only at hq); go_simp; (try (with_reducible rfl)); done))
                  | (refine WQ.skip (by rfl) ?_))
                try simp only [Act.put, List.setIfInBounds_toArray, List.set_cons_zero, List.set_cons_succ]
                refine WQ.nil ?_
                rintro w9 ⟨hb9, _⟩
                go_wp2_with fail
                go_roundw
                case rel => exact ⟨k + 1, ys1, b1, A1, c1', by go_num, by omega, HMn, Lib.hid (HS.out.next hb9), hb1, hfr.trans (.below hb9 HS.out.hl)⟩
                case measure => simp [intOf]; omega
              · have hge : decide ((most : Int) ≤ (u : Int)) = false := decide_eq_false (by omega)
                have hge2 : ¬ (most : Int) ≤ (u : Int) := by omega
                have hge3 : (u : Int) < (most : Int) := by omega
                have HU2 : Hid ((usedL (P ++ [(k : Int)])).length ≤ most) := Lib.hid (by rw [used_new (of_decide_eq_false Hco.out), Hu.out]; omega)
                go_wp2_with fail
                refine wp_region_wqC (C := fun w' => Below wr.heap.size wr w' ∧ (∀ x, w'.cell? ⟨g, x, none⟩ = wr.cell? ⟨g, x, none⟩)) (by kernel_rfl) (by kernel_rfl) (e1 (Below.refl _ _).drew) ?_
                (first
                  | (refine WQ.take (v := ?_) (by rfl) ?_ ?_
                     rotate_left
                     focus (intro wq hq; (try dsimp only at hq); go_simp; (try (with_reducible rfl)); done))
                  | (refine WQ.skip (by rfl) ?_))
                try simp only [Act.put, List.setIfInBounds_toArray, List.set_cons_zero, List.set_cons_succ]
                (first
                  | (refine WQ.take (v := ?_) (by rfl) ?_ ?_
                     rotate_left
                     focus (intro wq hq; (try dsimp only at hq); go_simp; (try (with_reducible rfl)); done))
                  | (refine WQ.skip (by rfl) ?_))
                try simp only [Act.put, List.setIfInBounds_toArray, List.set_cons_zero, List.set_cons_succ]
                refine WQ.take (v := .bool true) (by rfl) (fun wq hq => ?_) ?_
                focus (go_simp; (refine (HAl.out wq hq.1).mono ?_; rintro e w2 ⟨rfl, hb2⟩; exact ⟨rfl, e1 (hq.1.trans (hb2.mono hq.1.size))⟩))
                try simp only [Act.put, List.setIfInBounds_toArray, List.set_cons_zero, List.set_cons_succ]
                (first
                  | (refine WQ.take (v := ?_) (by rfl) ?_ ?_
                     rotate_left
                     focus (intro wq hq; (try dsimp only at hq); go_simp; (try (with_reducible rfl)); done))
                  | (refine WQ.skip (by rfl) ?_))
                try simp only [Act.put, List.setIfInBounds_toArray, List.set_cons_zero, List.set_cons_succ]
                (first
                  | (refine WQ.take (v := ?_) (by rfl) ?_ ?_
                     rotate_left
                     focus (intro wq hq; (try dsimp only at hq); go_simp; (try (with_reducible rfl)); done))
                  | (refine WQ.skip (by rfl) ?_))
                try simp only [Act.put, List.setIfInBounds_toArray, List.set_cons_zero, List.set_cons_succ]
                (first
                  | (refine WQ.take (v := ?_) (by rfl) ?_ ?_
                     rotate_left
                     focus (intro wq hq; (try dsimp only at hq); go_simp; (try (with_reducible rfl)); done))
                  | (refine WQ.skip (by rfl) ?_))
                try simp only [Act.put, List.setIfInBounds_toArray, List.set_cons_zero, List.set_cons_succ]
                (first
                  | (refine WQ.take (v := ?_) (by rfl) ?_ ?_
                     rotate_left
                     focus (intro wq hq; (try dsimp only at hq); go_simp; (try (with_reducible rfl)); done))
                  | (refine WQ.skip (by rfl) ?_))
                try simp only [Act.put, List.setIfInBounds_toArray, List.set_cons_zero, List.set_cons_succ]
                (first
                  | (refine WQ.take (v := ?_) (by rfl) ?_ ?_
                     rotate_left
                     focus (intro wq hq; (try dsimp only at hq); go_simp; (try (with_reducible rfl)); done))
                  | (refine WQ.skip (by rfl) ?_))
                try simp only [Act.put, List.setIfInBounds_toArray, List.set_cons_zero, List.set_cons_succ]
                (first
                  | (refine WQ.take (v := ?_) (by rfl) ?_ ?_
                     rotate_left
                     focus (intro wq hq; (try dsimp only at hq); go_simp; (try (with_reducible rfl)); done))
                  | (refine WQ.skip (by rfl) ?_))
                try simp only [Act.put, List.setIfInBounds_toArray, List.set_cons_zero, List.set_cons_succ]
                (first
                  | (refine WQ.take (v := ?_) (by rfl) ?_ ?_
                     rotate_left
                     focus (intro wq hq; (try dsimp only at hq); go_simp; (try (with_reducible rfl)); done))
                  | (refine WQ.skip (by rfl) ?_))
                try simp only [Act.put, List.setIfInBounds_toArray, List.set_cons_zero, List.set_cons_succ]
                refine WQ.take (v := .bool false) (by rfl) (fun wq hq => ?_) ?_
                focus (go_simp; (refine (HCo.out wq hq.1).mono ?_; rintro e w2 ⟨rfl, rfl⟩; exact ⟨rfl, hq⟩))
                try simp only [Act.put, List.setIfInBounds_toArray, List.set_cons_zero, List.set_cons_succ]
                (first
                  | (refine WQ.take (v := ?_) (by rfl) ?_ ?_
                     rotate_left
                     focus (intro wq hq; (try dsimp only at hq); go_simp; (try (with_reducible rfl)); done))
                  | (refine WQ.skip (by rfl) ?_))
                try simp only [Act.put, List.setIfInBounds_toArray, List.set_cons_zero, List.set_cons_succ]
                (first
                  | (refine WQ.take (v := ?_) (by rfl) ?_ ?_
                     rotate_left
                     focus (intro wq hq; (try dsimp only at hq); go_simp; (try (with_reducible rfl)); done))
                  | (refine WQ.skip (by rfl) ?_))
                try simp only [Act.put, List.setIfInBounds_toArray, List.set_cons_zero, List.set_cons_succ]
                (first
                  | (refine WQ.take (v := ?_) (by rfl) ?_ ?_
                     rotate_left
                     focus (intro wq hq; (try dsimp only at hq); go_simp; (try (with_reducible rfl)); done))
                  | (refine WQ.skip (by rfl) ?_))
                try simp only [Act.put, List.setIfInBounds_toArray, List.set_cons_zero, List.set_cons_succ]
                refine WQ.take (v := .int .i64 (u : Int)) (by rfl) (fun wq hq => ?_) ?_
                focus (go_simp; (refine (HDi.out wq hq.1).mono ?_; rintro e w2 ⟨rfl, hb2⟩; exact ⟨rfl, e1 (hq.1.trans (hb2.mono hq.1.size))⟩))
                try simp only [Act.put, List.setIfInBounds_toArray, List.set_cons_zero, List.set_cons_succ]
                (first
                  | (refine WQ.take (v := ?_) (by rfl) ?_ ?_
                     rotate_left
                     focus (intro wq hq; (try dsimp only at hq); go_simp; (try (with_reducible rfl)); done))
                  | (refine WQ.skip (by rfl) ?_))
                try simp only [Act.put, List.setIfInBounds_toArray, List.set_cons_zero, List.set_cons_succ]
                (first
                  | (refine WQ.take (v := ?_) (by rfl) ?_ ?_
                     rotate_left
                     focus (intro wq hq; (try dsimp only at hq); go_simp; (try (with_reducible rfl)); done))
                  | (refine WQ.skip (by rfl) ?_))
                try simp only [Act.put, List.setIfInBounds_toArray, List.set_cons_zero, List.set_cons_succ]
                (first
                  | (refine WQ.take (v := ?_) (by rfl) ?_ ?_
                     rotate_left
                     focus (intro wq hq; (try dsimp only at hq); go_simp; (try (with_reducible rfl)); done))
                  | (refine WQ.skip (by rfl) ?_))
                try simp only [Act.put, List.setIfInBounds_toArray, List.set_cons_zero, List.set_cons_succ]
                (first
                  | (refine WQ.take (v := ?_) (by rfl) ?_ ?_
                     rotate_left
                     focus (intro wq hq; (try dsimp only at hq); go_simp; (try (with_reducible rfl)); done))
                  | (refine WQ.skip (by rfl) ?_))
                try simp only [Act.put, List.setIfInBounds_toArray, List.set_cons_zero, List.set_cons_succ]
                (first
                  | (refine WQ.take (v := ?_) (by rfl) ?_ ?_
                     rotate_left
                     focus (intro wq hq; (try dsimp only at hq); go_simp; (try (with_reducible rfl)); done))
                  | (refine WQ.skip (by rfl) ?_))
                try simp only [Act.put, List.setIfInBounds_toArray, List.set_cons_zero, List.set_cons_succ]
                (first
                  | (refine WQ.take (v := ?_) (by rfl) ?_ ?_
                     rotate_left
                     focus (intro wq hq; (try dsimp only at hq); go_simp; (try (with_reducible rfl)); done))
                  | (refine WQ.skip (by rfl) ?_))
                try simp only [Act.put, List.setIfInBounds_toArray, List.set_cons_zero, List.set_cons_succ]
                (first
                  | (refine WQ.take (v := ?_) (by rfl) ?_ ?_
                     rotate_left
                     focus (intro wq hq; (try dsimp only at hq); go_simp; (try (with_reducible rfl)); done))
                  | (refine WQ.skip (by rfl) ?_))
                try simp only [Act.put, List.setIfInBounds_toArray, List.set_cons_zero, List.set_cons_succ]
                refine WQ.nil ?_
                rintro w9 ⟨hb9, hx9⟩
                clear hx9
                have hS9 := HS.out.next hb9
                have hf9 := hfr.trans (.below hb9 HS.out.hl)
                obtain ⟨d0, d1, d2, db, dm, dc⟩ := hS9.cells
                rw [Hn.out] at dc
                have zf9 := hS9.cz.frozenAt
                clear c0 c1 c2 cb cm cc e1 HAl HCo HDi
                have HS9 := Lib.hid hS9; clear hS9
                by_cases hbz : b1 = 0
                · subst hbz
                  go_wp2_with fail
                  go_ret
                  exact ⟨5, P, ys1, 0, A1, c1', rfl, .inr (.inr rfl), HS9.out, hb1, hf9⟩
                · have hbz' : (b1 == 0) = false := by simpa using hbz
                  have hwb : IntKind.i64.wrap (b1 - 1) = b1 - 1 := IntWalk.i64_in _ (by omega)
                  have hS10 := HS9.out.setBudget (b1 - 1)
                  have hf10 := hf9.trans hS10.2
                  have hc10 : (w9.setCell ⟨g, 147, none⟩ (.int .i64 (b1 - 1))).ownsRow hi 2 1 (.slice A1 n c1') n (P.flatMap intC) := by
                    have := hS10.1.ch
                    rw [Hn.out] at this
                    exact this
                  replace hS10 := hS10.1
                  obtain ⟨_, _, _, _, _, t149⟩ := hS10.cells
                  rw [Hn.out] at t149
                  have hnw : Sl ((w9.setCell ⟨g, 147, none⟩ (.int .i64 (b1 - 1))).alloc (.cells #[.int .i64 (k : Int)] 2)) (w9.heap.size + 1) 1 (some ⟨w9.heap.size, 0, none⟩) 1 (intC (k : Int)) := by
                    have h := Sl.new (w9.setCell ⟨g, 147, none⟩ (.int .i64 (b1 - 1))) 2 (intC (k : Int)) 1 1 rfl
                    rw [World.size_setCell] at h
                    exact h
                  have HNW := Lib.hid hnw; clear hnw
                  have HS10 := Lib.hid hS10; clear hS10
                  have HC10 := Lib.hid hc10; clear hc10
                  have HF10 := Lib.hid hf10; clear hf10
                  clear HS9 hf9 hb9
                  go_wp2_with (first | (at_builtin; refine wpl_append _ rfl (.tmp 62) (.tmp 64) _ rfl hi 2 p0 _ 1 8 Tryz.underlying28 hp hy0 hy1 hy2 rfl (by omega) _ n _ rfl (HC10.out.alloc _) (w9.heap.size + 1) (some ⟨w9.heap.size, 0, none⟩) 1 1 (intC (k : Int)) rfl HNW.out (intC_one _) E63.out E32.out (le_alloc HS10.out.hl _) ?_; intro v2 w2 ho2 hg2 hat2; obtain ⟨A2, c2, rfl⟩ := own_slice ho2; have hcz2 := HS10.out.czG (by rw [Hn.out]; exact hg2); obtain ⟨y2, f2⟩ := own_cell hcz2 149 (by omega); have z2 := hcz2.frozenAt) | fail)
                  have hS11 := HS10.out.push (x := (k : Int)) (by rw [Hn.out]; exact hg2) (by rw [Hn.out]; exact ho2)
                  rw [Hn.out] at hS11
                  have hf11 := HF10.out.trans hS11.2
                  replace hS11 := hS11.1
                  generalize w2.setCell ⟨g, 149, none⟩ (.slice A2 (n + 1) c2) = w11 at *
                  have hpl : (P ++ [(k : Int)]).length = n + 1 := by rw [List.length_append, Hn.out]; rfl
                  clear hg2 hat2 ho2 hcz2 f2 z2 d0 d1 d2 db dm dc zf9 HS10 HC10 HF10 hwb t149
                  refine (ih _ _ _ A2 c2 w11 hS11 (by omega) (by omega) (fun x hx => by
                    rcases List.mem_append.1 hx with h | h
                    · exact HP.out x h
                    · simp only [List.mem_singleton] at h; subst h; omega) (by rw [hpl]; omega) (by rw [hpl]; omega) HU2.out).mono ?_
                  rintro e w12 ⟨r, P', ys', b', A', c', rfl, hAns, hS12, hb12, hf12⟩
                  have hf13 := hf11.trans hf12
                  clear hS11 hf11 hf12
                  rcases hAns with ⟨rfl, hG⟩ | ⟨rfl, rfl, hno⟩ | rfl
                  · have HS12 := Lib.hid hS12; clear hS12
                    have HG := Lib.hid hG; clear hG
                    go_wp2_with fail
                    go_ret
                    exact ⟨0, P', ys', b', A', c', rfl, .inl ⟨rfl, HG.out.back HK.out.lt hk Hal.out⟩, HS12.out, by omega, hf13⟩
                  · obtain ⟨g', hA', _, _⟩ := own_form hS12.ch (by rw [hpl]; omega)
                    subst hA'
                    obtain ⟨q1, q2⟩ := own_cap hS12.ch
                    rw [hpl] at q1
                    have hpre := own_pre hS12.ch n (by rw [hpl]; omega)
                    have hfl : ((P ++ [(k : Int)]).flatMap intC).take (n * 1) = P.flatMap intC := by
                      rw [Nat.mul_one, List.flatMap_append]
                      refine List.take_left' ?_
                      rw [len_int, Hn.out]
                    rw [hfl, ← Hn.out] at hpre
                    have hS13 := hS12.setChoice hpre
                    rw [Hn.out] at hS13
                    have hf14 := hf13.trans hS13.2
                    replace hS13 := hS13.1
                    obtain ⟨d0, d1, d2, db, dm, dc⟩ := hS12.cells
                    rw [hpl] at dc
                    have zf := hS12.cz.frozenAt
                    have HMn := Lib.hid (HM.out.next (no_below HK.out.lt HLN.out hno))
                    unfold maxLen at q2
                    have s0 : (0 : Int) ≤ (n : Int) := by omega
                    have s1 : (n : Int) ≤ (c' : Int) := by omega
                    have HS13 := Lib.hid hS13; clear hS13
                    have HF14 := Lib.hid hf14; clear hf14
                    have Hno := Lib.hid hno; clear hno
                    clear hS12 hfl hpre hf13
                    go_wp2_with fail
                    go_roundw
                    case rel => exact ⟨k + 1, _, b', _, c', by go_num, by omega, HMn, HS13, by omega, HF14.out⟩
                    case measure => simp [intOf]; omega
                  · have HS12 := Lib.hid hS12; clear hS12
                    go_wp2_with fail
                    go_ret
                    exact ⟨5, P', ys', b', A', c', rfl, .inr (.inr rfl), HS12.out, by omega, hf13⟩
            · have HU2 : Hid ((usedL (P ++ [(k : Int)])).length ≤ most) := Lib.hid (by rw [used_old (of_decide_eq_true Hco.out)]; exact HU.out)
              go_wp2_with fail
              refine wp_region_wqC (C := fun w' => Below wr.heap.size wr w' ∧ (∀ x, w'.cell? ⟨g, x, none⟩ = wr.cell? ⟨g, x, none⟩)) (by kernel_rfl) (by kernel_rfl) (e1 (Below.refl _ _).drew) ?_
              (first
                | (refine WQ.take (v := ?_) (by rfl) ?_ ?_
                   rotate_left
                   focus (intro wq hq; (try dsimp only at hq); go_simp; (try (with_reducible rfl)); done))
                | (refine WQ.skip (by rfl) ?_))
              try simp only [Act.put, List.setIfInBounds_toArray, List.set_cons_zero, List.set_cons_succ]
              (first
                | (refine WQ.take (v := ?_) (by rfl) ?_ ?_
                   rotate_left
                   focus (intro wq hq; (try dsimp only at hq); go_simp; (try (with_reducible rfl)); done))
                | (refine WQ.skip (by rfl) ?_))
              try simp only [Act.put, List.setIfInBounds_toArray, List.set_cons_zero, List.set_cons_succ]
              refine WQ.take (v := .bool true) (by rfl) (fun wq hq => ?_) ?_
              focus (go_simp; (refine (HAl.out wq hq.1).mono ?_; rintro e w2 ⟨rfl, hb2⟩; exact ⟨rfl, e1 (hq.1.trans (hb2.mono hq.1.size))⟩))
              try simp only [Act.put, List.setIfInBounds_toArray, List.set_cons_zero, List.set_cons_succ]
              (first
                | (refine WQ.take (v := ?_) (by rfl) ?_ ?_
                   rotate_left
                   focus (intro wq hq; (try dsimp only at hq); go_simp; (try (with_reducible rfl)); done))
                | (refine WQ.skip (by rfl) ?_))
              try simp only [Act.put, List.setIfInBounds_toArray, List.set_cons_zero, List.set_cons_succ]
              (first
                | (refine WQ.take (v := ?_) (by rfl) ?_ ?_
                   rotate_left
                   focus (intro wq hq; (try dsimp only at hq); go_simp; (try (with_reducible rfl)); done))
                | (refine WQ.skip (by rfl) ?_))
              try simp only [Act.put, List.setIfInBounds_toArray, List.set_cons_zero, List.set_cons_succ]
              (first
                | (refine WQ.take (v := ?_) (by rfl) ?_ ?_
                   rotate_left
                   focus (intro wq hq; (try dsimp only at hq); go_simp; (try (with_reducible rfl)); done))
                | (refine WQ.skip (by rfl) ?_))
              try simp only [Act.put, List.setIfInBounds_toArray, List.set_cons_zero, List.set_cons_succ]
              (first
                | (refine WQ.take (v := ?_) (by rfl) ?_ ?_
                   rotate_left
                   focus (intro wq hq; (try dsimp only at hq); go_simp; (try (with_reducible rfl)); done))
                | (refine WQ.skip (by rfl) ?_))
              try simp only [Act.put, List.setIfInBounds_toArray, List.set_cons_zero, List.set_cons_succ]
              (first
                | (refine WQ.take (v := ?_) (by rfl) ?_ ?_
                   rotate_left
                   focus (intro wq hq; (try dsimp only at hq); go_simp; (try (with_reducible rfl)); done))
                | (refine WQ.skip (by rfl) ?_))
              try simp only [Act.put, List.setIfInBounds_toArray, List.set_cons_zero, List.set_cons_succ]
              (first
                | (refine WQ.take (v := ?_) (by rfl) ?_ ?_
                   rotate_left
                   focus (intro wq hq; (try dsimp only at hq); go_simp; (try (with_reducible rfl)); done))
                | (refine WQ.skip (by rfl) ?_))
              try simp only [Act.put, List.setIfInBounds_toArray, List.set_cons_zero, List.set_cons_succ]
              (first
                | (refine WQ.take (v := ?_) (by rfl) ?_ ?_
                   rotate_left
                   focus (intro wq hq; (try dsimp only at hq); go_simp; (try (with_reducible rfl)); done))
                | (refine WQ.skip (by rfl) ?_))
              try simp only [Act.put, List.setIfInBounds_toArray, List.set_cons_zero, List.set_cons_succ]
              refine WQ.take (v := .bool true) (by rfl) (fun wq hq => ?_) ?_
              focus (go_simp; (refine (HCo.out wq hq.1).mono ?_; rintro e w2 ⟨rfl, rfl⟩; exact ⟨rfl, hq⟩))
              try simp only [Act.put, List.setIfInBounds_toArray, List.set_cons_zero, List.set_cons_succ]
              (first
                | (refine WQ.take (v := ?_) (by rfl) ?_ ?_
                   rotate_left
                   focus (intro wq hq; (try dsimp only at hq); go_simp; (try (with_reducible rfl)); done))
                | (refine WQ.skip (by rfl) ?_))
              try simp only [Act.put, List.setIfInBounds_toArray, List.set_cons_zero, List.set_cons_succ]
              (first
                | (refine WQ.take (v := ?_) (by rfl) ?_ ?_
                   rotate_left
                   focus (intro wq hq; (try dsimp only at hq); go_simp; (try (with_reducible rfl)); done))
                | (refine WQ.skip (by rfl) ?_))
              try simp only [Act.put, List.setIfInBounds_toArray, List.set_cons_zero, List.set_cons_succ]
              (first
                | (refine WQ.take (v := ?_) (by rfl) ?_ ?_
                   rotate_left
                   focus (intro wq hq; (try dsimp only at hq); go_simp; (try (with_reducible rfl)); done))
                | (refine WQ.skip (by rfl) ?_))
              try simp only [Act.put, List.setIfInBounds_toArray, List.set_cons_zero, List.set_cons_succ]
              (first
                | (refine WQ.take (v := ?_) (by rfl) ?_ ?_
                   rotate_left
                   focus (intro wq hq; (try dsimp only at hq); go_simp; (try (with_reducible rfl)); done))
                | (refine WQ.skip (by rfl) ?_))
              try simp only [Act.put, List.setIfInBounds_toArray, List.set_cons_zero, List.set_cons_succ]
              (first
                | (refine WQ.take (v := ?_) (by rfl) ?_ ?_
                   rotate_left
                   focus (intro wq hq; (try dsimp only at hq); go_simp; (try (with_reducible rfl)); done))
                | (refine WQ.skip (by rfl) ?_))
              try simp only [Act.put, List.setIfInBounds_toArray, List.set_cons_zero, List.set_cons_succ]
              (first
                | (refine WQ.take (v := ?_) (by rfl) ?_ ?_
                   rotate_left
                   focus (intro wq hq; (try dsimp only at hq); go_simp; (try (with_reducible rfl)); done))
                | (refine WQ.skip (by rfl) ?_))
              try simp only [Act.put, List.setIfInBounds_toArray, List.set_cons_zero, List.set_cons_succ]
              (first
                | (refine WQ.take (v := ?_) (by rfl) ?_ ?_
                   rotate_left
                   focus (intro wq hq; (try dsimp only at hq); go_simp; (try (with_reducible rfl)); done))
                | (refine WQ.skip (by rfl) ?_))
              try simp only [Act.put, List.setIfInBounds_toArray, List.set_cons_zero, List.set_cons_succ]
              (first
                | (refine WQ.take (v := ?_) (by rfl) ?_ ?_
                   rotate_left
                   focus (intro wq hq; (try dsimp only at hq); go_simp; (try (with_reducible rfl)); done))
                | (refine WQ.skip (by rfl) ?_))
              try simp only [Act.put, List.setIfInBounds_toArray, List.set_cons_zero, List.set_cons_succ]
              (first
                | (refine WQ.take (v := ?_) (by rfl) ?_ ?_
                   rotate_left
                   focus (intro wq hq; (try dsimp only at hq); go_simp; (try (with_reducible rfl)); done))
                | (refine WQ.skip (by rfl) ?_))
              try simp only [Act.put, List.setIfInBounds_toArray, List.set_cons_zero, List.set_cons_succ]
              (first
                | (refine WQ.take (v := ?_) (by rfl) ?_ ?_
                   rotate_left
                   focus (intro wq hq; (try dsimp only at hq); go_simp; (try (with_reducible rfl)); done))
                | (refine WQ.skip (by rfl) ?_))
              try simp only [Act.put, List.setIfInBounds_toArray, List.set_cons_zero, List.set_cons_succ]
              (first
                | (refine WQ.take (v := ?_) (by rfl) ?_ ?_
                   rotate_left
                   focus (intro wq hq; (try dsimp only at hq); go_simp; (try (with_reducible rfl)); done))
                | (refine WQ.skip (by rfl) ?_))
              try simp only [Act.put, List.setIfInBounds_toArray, List.set_cons_zero, List.set_cons_succ]
              refine WQ.nil ?_
              rintro w9 ⟨hb9, hx9⟩
              clear hx9
              have hS9 := HS.out.next hb9
              have hf9 := hfr.trans (.below hb9 HS.out.hl)
              obtain ⟨d0, d1, d2, db, dm, dc⟩ := hS9.cells
              rw [Hn.out] at dc
              have zf9 := hS9.cz.frozenAt
              clear c0 c1 c2 cb cm cc e1 HAl HCo HDi
              have HS9 := Lib.hid hS9; clear hS9
              by_cases hbz : b1 = 0
              · subst hbz
                go_wp2_with fail
                go_ret
                exact ⟨5, P, ys1, 0, A1, c1', rfl, .inr (.inr rfl), HS9.out, hb1, hf9⟩
              · have hbz' : (b1 == 0) = false := by simpa using hbz
                have hwb : IntKind.i64.wrap (b1 - 1) = b1 - 1 := IntWalk.i64_in _ (by omega)
                have hS10 := HS9.out.setBudget (b1 - 1)
                have hf10 := hf9.trans hS10.2
                have hc10 : (w9.setCell ⟨g, 147, none⟩ (.int .i64 (b1 - 1))).ownsRow hi 2 1 (.slice A1 n c1') n (P.flatMap intC) := by
                  have := hS10.1.ch
                  rw [Hn.out] at this
                  exact this
                replace hS10 := hS10.1
                obtain ⟨_, _, _, _, _, t149⟩ := hS10.cells
                rw [Hn.out] at t149
                have hnw : Sl ((w9.setCell ⟨g, 147, none⟩ (.int .i64 (b1 - 1))).alloc (.cells #[.int .i64 (k : Int)] 2)) (w9.heap.size + 1) 1 (some ⟨w9.heap.size, 0, none⟩) 1 (intC (k : Int)) := by
                  have h := Sl.new (w9.setCell ⟨g, 147, none⟩ (.int .i64 (b1 - 1))) 2 (intC (k : Int)) 1 1 rfl
                  rw [World.size_setCell] at h
                  exact h
                have HNW := Lib.hid hnw; clear hnw
                have HS10 := Lib.hid hS10; clear hS10
                have HC10 := Lib.hid hc10; clear hc10
                have HF10 := Lib.hid hf10; clear hf10
                clear HS9 hf9 hb9
                go_wp2_with (first | (at_builtin; refine wpl_append _ rfl (.tmp 62) (.tmp 64) _ rfl hi 2 p0 _ 1 8 Tryz.underlying28 hp hy0 hy1 hy2 rfl (by omega) _ n _ rfl (HC10.out.alloc _) (w9.heap.size + 1) (some ⟨w9.heap.size, 0, none⟩) 1 1 (intC (k : Int)) rfl HNW.out (intC_one _) E63.out E32.out (le_alloc HS10.out.hl _) ?_; intro v2 w2 ho2 hg2 hat2; obtain ⟨A2, c2, rfl⟩ := own_slice ho2; have hcz2 := HS10.out.czG (by rw [Hn.out]; exact hg2); obtain ⟨y2, f2⟩ := own_cell hcz2 149 (by omega); have z2 := hcz2.frozenAt) | fail)
                have hS11 := HS10.out.push (x := (k : Int)) (by rw [Hn.out]; exact hg2) (by rw [Hn.out]; exact ho2)
                rw [Hn.out] at hS11
                have hf11 := HF10.out.trans hS11.2
                replace hS11 := hS11.1
                generalize w2.setCell ⟨g, 149, none⟩ (.slice A2 (n + 1) c2) = w11 at *
                have hpl : (P ++ [(k : Int)]).length = n + 1 := by rw [List.length_append, Hn.out]; rfl
                clear hg2 hat2 ho2 hcz2 f2 z2 d0 d1 d2 db dm dc zf9 HS10 HC10 HF10 hwb t149
                refine (ih _ _ _ A2 c2 w11 hS11 (by omega) (by omega) (fun x hx => by
                  rcases List.mem_append.1 hx with h | h
                  · exact HP.out x h
                  · simp only [List.mem_singleton] at h; subst h; omega) (by rw [hpl]; omega) (by rw [hpl]; omega) HU2.out).mono ?_
                rintro e w12 ⟨r, P', ys', b', A', c', rfl, hAns, hS12, hb12, hf12⟩
                have hf13 := hf11.trans hf12
                clear hS11 hf11 hf12
                rcases hAns with ⟨rfl, hG⟩ | ⟨rfl, rfl, hno⟩ | rfl
                · have HS12 := Lib.hid hS12; clear hS12
                  have HG := Lib.hid hG; clear hG
                  go_wp2_with fail
                  go_ret
                  exact ⟨0, P', ys', b', A', c', rfl, .inl ⟨rfl, HG.out.back HK.out.lt hk Hal.out⟩, HS12.out, by omega, hf13⟩
                · obtain ⟨g', hA', _, _⟩ := own_form hS12.ch (by rw [hpl]; omega)
                  subst hA'
                  obtain ⟨q1, q2⟩ := own_cap hS12.ch
                  rw [hpl] at q1
                  have hpre := own_pre hS12.ch n (by rw [hpl]; omega)
                  have hfl : ((P ++ [(k : Int)]).flatMap intC).take (n * 1) = P.flatMap intC := by
                    rw [Nat.mul_one, List.flatMap_append]
                    refine List.take_left' ?_
                    rw [len_int, Hn.out]
                  rw [hfl, ← Hn.out] at hpre
                  have hS13 := hS12.setChoice hpre
                  rw [Hn.out] at hS13
                  have hf14 := hf13.trans hS13.2
                  replace hS13 := hS13.1
                  obtain ⟨d0, d1, d2, db, dm, dc⟩ := hS12.cells
                  rw [hpl] at dc
                  have zf := hS12.cz.frozenAt
                  have HMn := Lib.hid (HM.out.next (no_below HK.out.lt HLN.out hno))
                  unfold maxLen at q2
                  have s0 : (0 : Int) ≤ (n : Int) := by omega
                  have s1 : (n : Int) ≤ (c' : Int) := by omega
                  have HS13 := Lib.hid hS13; clear hS13
                  have HF14 := Lib.hid hf14; clear hf14
                  have Hno := Lib.hid hno; clear hno
                  clear hS12 hfl hpre hf13
                  go_wp2_with fail
                  go_roundw
                  case rel => exact ⟨k + 1, _, b', _, c', by go_num, by omega, HMn, HS13, by omega, HF14.out⟩
                  case measure => simp [intOf]; omega
                · have HS12 := Lib.hid hS12; clear hS12
                  go_wp2_with fail
                  go_ret
                  exact ⟨5, P', ys', b', A', c', rfl, .inr (.inr rfl), HS12.out, by omega, hf13⟩
        · obtain rfl : k = I := by omega
          go_wp2_with fail
          go_ret
          exact ⟨3, P, ys1, b1, A1, c1', rfl, .inr (.inl ⟨rfl, rfl, HM.out.all HLN.out⟩), HS.out, hb1, hfr⟩
end Go.Proofs.YtgibbhipjpbdfaaGreat

/- A row of integers cloned. -/
namespace Go.Proofs.YtgibbhipjpbdfaaGreat
open Go.RowKit
set_option maxHeartbeats 1000000 in
theorem cloneInt_c (A : Option Addr) (n c : Nat) (xs : List Int) (w : World) (h : Sl w w.heap.size 1 A n (xs.flatMap intC)) (hm : n ≤ 1048576) :
    Calls Tryz.prog 34 #[.slice A n c] w fun e w' => ∃ A' c', e = .returned (.slice A' n c') ∧ w'.ownsRow w.heap.size 2 1 (.slice A' n c') n (xs.flatMap intC) ∧ Below w.heap.size w w' := by
  obtain ⟨i0, hi, hz0, hz1, hz2⟩ := info_parts intInfo
  have hB : i0.bytes * n ≤ 281474976710656 := by rw [hz2]; omega
  have hM : n ≤ maxLen := by unfold maxLen; omega
  have e63 : 0 + n ≤ maxLen := by unfold maxLen; omega
  have e32 : (0 + n) * 8 ≤ 140737488355328 := by omega
  have HB := Lib.hid hB; clear hB
  have HM := Lib.hid hM; clear hM
  have E63 := Lib.hid e63; clear e63
  have E32 := Lib.hid e32; clear e32
  have H := Lib.hid h; clear h
  go_enter Tryz.func34, Tryz.ntmps34
  go_wp2_with (first
    | (at_make; refine wpList_make_own _ rfl _ _ _ rfl w.heap.size 2 i0 _ 1 Tryz.underlying28 hi hz0 hz1 _ _ _ n rfl rfl rfl HB.out HM.out (Nat.le_refl _) ?_; intro w1 hown hgr; have hb0 : Below w.heap.size w w1 := (Below.refl _ _).grown hgr (Nat.le_refl _) (by simp))
    | (at_builtin; refine wpl_append _ rfl (.tmp 5) (.tmp 6) _ rfl w.heap.size 2 i0 _ 1 8 Tryz.underlying28 hi hz0 hz1 hz2 rfl (by omega) _ 0 _ rfl hown _ A n c (xs.flatMap intC) rfl (H.out.next hb0) (flat_one _ intC_one xs) E63.out E32.out hb0.size ?_; intro v2 w2 ho2 hg2 hat2))
  go_ret
  rw [Nat.zero_add] at ho2
  obtain ⟨A', c', rfl⟩ := own_slice ho2
  exact ⟨A', c', rfl, by simpa using ho2, hb0.grown hg2 hb0.size fun g hg => (hown.lt g hg).1⟩
end Go.Proofs.YtgibbhipjpbdfaaGreat

/- Choices of characters: how many indices of a choice differ. -/
namespace Go.Proofs.YtgibbhipjpbdfaaGreat
open Go.RowKit Go.Sort
theorem cmp_inv {d : Array Int} (hs : ∀ i j, i ≤ j → j < d.size → d[i]! ≤ d[j]!) : ∀ m, m ≤ d.size → (Lib.compactUpTo d m).Nodup ∧ ∀ x, x ∈ Lib.compactUpTo d m ↔ ∃ j, j < m ∧ d[j]! = x
  | 0, _ => by
    have e : Lib.compactUpTo d 0 = [] := rfl
    rw [e]
    exact ⟨List.nodup_nil, fun x => by simp⟩
  | m + 1, h => by
    obtain ⟨h1, h2⟩ := cmp_inv hs m (by omega)
    rw [Lib.compactUpTo_succ]
    by_cases hk : Lib.keeps d m = true
    · rw [if_pos hk]
      have hn : d[m]! ∉ Lib.compactUpTo d m := fun hm => by
        obtain ⟨j, hj, e⟩ := (h2 _).1 hm
        have h3 := hs j (m - 1) (by omega) (by omega)
        have h4 := hs (m - 1) m (by omega) (by omega)
        have h5 : d[m]! = d[m - 1]! := by omega
        rw [Lib.keeps_neg (by omega) h5] at hk
        cases hk
      refine ⟨?_, fun x => ?_⟩
      · rw [List.nodup_append]
        exact ⟨h1, by simp, fun a ha b hb => by simp only [List.mem_singleton] at hb; subst hb; exact fun e => hn (e ▸ ha)⟩
      · rw [List.mem_append, h2, List.mem_singleton]
        constructor
        · rintro (⟨j, hj, e⟩ | e)
          · exact ⟨j, by omega, e⟩
          · exact ⟨m, by omega, e.symm⟩
        · rintro ⟨j, hj, e⟩
          rcases Nat.lt_or_ge j m with h6 | h6
          · exact .inl ⟨j, h6, e⟩
          · obtain rfl : j = m := by omega
            exact .inr e.symm
    · rw [if_neg hk, List.append_nil]
      refine ⟨h1, fun x => ?_⟩
      rw [h2]
      constructor
      · rintro ⟨j, hj, e⟩
        exact ⟨j, by omega, e⟩
      · rintro ⟨j, hj, e⟩
        rcases Nat.lt_or_ge j m with h6 | h6
        · exact ⟨j, h6, e⟩
        · obtain rfl : j = m := by omega
          have h7 : ¬ (j = 0 ∨ d[j]! ≠ d[j - 1]!) := by simpa [Lib.keeps] using hk
          have h8 : j ≠ 0 := fun e => h7 (.inl e)
          have h9 : d[j]! = d[j - 1]! := Decidable.byContradiction fun e => h7 (.inr e)
          exact ⟨j - 1, by omega, by rw [← h9]; exact e⟩
def sortI (P : List Int) : List Int := P.mergeSort fun x y => decide (x ≤ y)
theorem sort_len (P : List Int) : (sortI P).length = P.length := List.length_mergeSort P
theorem sort_mem (P : List Int) (x : Int) : x ∈ sortI P ↔ x ∈ P := List.mem_mergeSort
theorem sort_up (P : List Int) : ∀ i j, i ≤ j → j < (sortI P).toArray.size → (sortI P).toArray[i]! ≤ (sortI P).toArray[j]! := fun i j hij hj => by
  have hp := List.pairwise_mergeSort (le := fun x y : Int => decide (x ≤ y)) (fun a b c h1 h2 => by simp only [decide_eq_true_eq] at h1 h2 ⊢; omega) (fun a b => by simp only [Bool.or_eq_true, decide_eq_true_eq]; omega) P
  have hj' : j < (sortI P).length := by simpa using hj
  have h1 : (sortI P).toArray[i]! = (sortI P)[i]'(by omega) := by simp [getElem!_pos, show i < (sortI P).length by omega]
  have h2 : (sortI P).toArray[j]! = (sortI P)[j]'hj' := by simp [getElem!_pos, hj']
  rw [h1, h2]
  rcases Nat.lt_or_ge i j with h | h
  · have := (List.pairwise_iff_getElem.1 hp) i j (by have := List.length_mergeSort (le := fun x y : Int => decide (x ≤ y)) P; simp only [sortI] at hj'; omega) hj' h
    exact of_decide_eq_true this
  · obtain rfl : i = j := by omega
    exact Int.le_refl _
theorem compact_len (P : List Int) : (Lib.compact (sortI P)).length = (usedL P).length := by
  obtain ⟨h1, h2⟩ := cmp_inv (sort_up P) (sortI P).length (by simp)
  refine nodup_len h1 (used_nodup P) fun x => ?_
  rw [used_mem, ← sort_mem P]
  refine (h2 x).trans ⟨fun ⟨j, hj, e⟩ => ?_, fun hx => ?_⟩
  · rw [← e]
    have : (sortI P).toArray[j]! = (sortI P)[j]'hj := by simp [getElem!_pos, hj]
    rw [this]
    exact List.getElem_mem hj
  · obtain ⟨j, hj, e⟩ := List.getElem_of_mem hx
    exact ⟨j, hj, by rw [← e]; simp [getElem!_pos, hj]⟩
theorem flat_map (P : List Int) : P.flatMap intC = P.map (Value.int .i64) := by
  induction P with
  | nil => rfl
  | cons a r ih => rw [List.flatMap_cons, ih, List.map_cons]; rfl
theorem own_holds {w : World} {base g cap n : Nat} {e : TypeId} {zs : List Int} (h : w.ownsRow base e 1 (.slice (some ⟨g, 0, none⟩) n cap) n (zs.flatMap intC)) (hn : zs.length = n) : Holds (Value.int .i64) w g 0 zs.toArray := by
  rcases h.2 with ⟨h0, _⟩ | ⟨g', cap', cur, hv, _, hg, _, _, _, ht⟩
  · cases h0
  · injection hv with a1 _ a3
    injection a1 with a1
    injection a1 with a1
    subst a1
    refine holds_of_blockI hg ?_
    rw [hn, ← flat_map, ← ht, Nat.mul_one]
theorem own_sorted {w : World} {base g cap n q : Nat} {e : TypeId} {zs ts : List Int} {os : Array Obj} (h : w.ownsRow base e 1 (.slice (some ⟨g, 0, none⟩) n cap) n (zs.flatMap intC)) (hn : zs.length = n) (hl : ts.length = zs.length) :
    (grow (putRow (Value.int .i64) (Sort.ahead w q) g 0 ts.toArray) os).ownsRow base e 1 (.slice (some ⟨g, 0, none⟩) n cap) n (ts.flatMap intC) := by
  rcases h.2 with ⟨h0, _⟩ | ⟨g', cap', cur, hv, hb, hg, h1, h2, h3, _⟩
  · cases h0
  · injection hv with a1 _ a3
    injection a1 with a1
    injection a1 with a1
    subst a1 a3
    subst hn
    rw [flat_map]
    exact ownsRow_sortedI hl hb hg h1 h2 h3
set_option maxRecDepth 100000 in
set_option maxHeartbeats 4000000 in
theorem different_c (hi g N I : Nat) (T : Nat → Nat → Bool) (g2 : Nat) (rs : List RowG) : DifK hi g N I T g2 rs := by
  intro most P ys b A c w hS hl
  obtain ⟨c0, c1, c2, cb, cm, cc⟩ := hS.cells
  have hC := cloneInt_c A P.length c P w (Sl.of_own hS.ch) (by omega)
  have hcl := compact_len P
  have hcl2 := Lib.compact_length_le (sortI P)
  have hsl := sort_len P
  obtain ⟨n, hn⟩ : ∃ n, P.length = n := ⟨_, rfl⟩
  obtain ⟨u, hu⟩ : ∃ u, (usedL P).length = u := ⟨_, rfl⟩
  rw [hn] at cc hC hl hsl
  rw [hu] at hcl ⊢
  have HC := Lib.hid hC; clear hC
  have HS := Lib.hid hS; clear hS
  have Hn := Lib.hid hn; clear hn
  have Hu := Lib.hid hu; clear hu
  have Hcl := Lib.hid hcl; clear hcl
  have Hsl := Lib.hid hsl; clear hsl
  have Hcl2 := Lib.hid hcl2; clear hcl2
  by_cases h0 : n = 0
  · subst h0
    have hu0 : u = 0 := by
      have : P = [] := List.length_eq_zero_iff.1 Hn.out
      rw [← Hu.out, this]; rfl
    subst hu0
    go_enter Tryz.func18, Tryz.ntmps18
    go_wp2_with fail
    refine HC.out.mono ?_
    rintro e w1 ⟨A1, c1', rfl, ho1, hb1⟩
    go_wp2_with fail
    refine (Tryz.slices_Sort_int_none A1 c1' w1).mono ?_
    rintro e w2 ⟨rfl, rfl⟩
    go_wp2_with fail
    refine (Tryz.slices_Compact_int_empty A1 c1' _).mono ?_
    rintro e w3 ⟨rfl, rfl⟩
    go_wp2_with fail
    go_ret
    exact ⟨rfl, hb1⟩
  · go_enter Tryz.func18, Tryz.ntmps18
    go_wp2_with fail
    refine HC.out.mono ?_
    rintro e w1 ⟨A1, c1', rfl, ho1, hb1⟩
    obtain ⟨g1, rfl, hg1, hg1'⟩ := own_form ho1 (by omega)
    have hcap := own_cap ho1
    have hS1 := Tryz.slices_Sort_int g1 0 c1' P w1 (own_holds ho1 Hn.out) hg1' (by rw [Hn.out]; omega)
    rw [Hn.out] at hS1
    go_wp2_with fail
    refine hS1.mono ?_
    rintro e w2 ⟨rfl, q, os, rfl⟩
    have ho2 := own_sorted (q := q) (os := os) ho1 Hn.out (sort_len P)
    have hgr2 := grownBy_sortedI (w := w1) (g := g1) (n := q) (os := os) (sortI P).toArray
    have hb2 := hb1.grown hgr2 hb1.size fun k hk => by injection hk with hk; omega
    have hdef : grow (putRow (Value.int .i64) (Sort.ahead w1 q) g1 0 (P.mergeSort fun x y => decide (x ≤ y)).toArray) os = grow (putRow (Value.int .i64) (Sort.ahead w1 q) g1 0 (sortI P).toArray) os := rfl
    rw [hdef]
    generalize grow (putRow (Value.int .i64) (Sort.ahead w1 q) g1 0 (sortI P).toArray) os = w2 at *
    have hS2 := Tryz.slices_Compact_int g1 0 c1' (sortI P) w2 (own_holds ho2 Hsl.out) (by rw [Hsl.out]; omega) (by rw [Hsl.out]; exact hcap.1)
    rw [Hsl.out, Hcl.out] at hS2
    have hu3 : u ≤ n := by have := Hcl2.out; rw [Hcl.out, Hsl.out] at this; exact this
    clear hdef hgr2 hS1
    have HS2 := Lib.hid hS2; clear hS2
    go_wp2_with fail
    refine HS2.out.mono ?_
    rintro e w3 ⟨rfl, q2, rfl⟩
    have hgr3 := grownBy_sortedI (w := w2) (g := g1) (n := q2) (os := #[]) (Lib.compact (sortI P) ++ List.replicate (n - u) 0).toArray
    rw [grow_empty] at hgr3
    have hb3 := hb2.grown hgr3 hb2.size fun k hk => by injection hk with hk; omega
    generalize putRow (Value.int .i64) (Sort.ahead w2 q2) g1 0 (Lib.compact (sortI P) ++ List.replicate (n - u) 0).toArray = w3 at *
    go_wp2_with fail
    go_ret
    exact ⟨rfl, hb3⟩
end Go.Proofs.YtgibbhipjpbdfaaGreat

/- IsDistinct: the program: choiceCode, the closure, the search for a clash. -/
namespace Go.Proofs.YtgibbhipjpbdfaaGreat
open Go.RowKit
def codeK (pss : List (List Int)) (m : Int) (xs : List Ch) (tol b : Int) : Int := bif !(pairsB pss m && xs.all validB) then 1 else bif !(inB tol 0 20 && inB b 1 20000) then 2 else bif !decide (xs.length ≤ 12) then 5 else 0
set_option maxRecDepth 100000 in
set_option maxHeartbeats 2000000 in
theorem chcCode_c (A0 : Option Addr) (n0 c0 : Nat) (rs : List RowG) (m : Int) (A : Option Addr) (n c : Nat) (zs : List ChG) (tol b : Int) (w : World) (h0 : RS w A0 n0 rs) (m0 : n0 ≤ 1048576) (h : ChS w A n zs) (hm : n ≤ 1048576) :
    Calls Tryz.prog 15 #[.slice A0 n0 c0, .int .i64 m, .slice A n c, .int .i64 tol, .int .i64 b] w fun e w' => e = .returned (.int .i64 (codeK (rs.map RowG.xs) m (zs.map ChG.x) tol b)) ∧ Below w.heap.size w w' := by
  have hlx : (zs.map ChG.x).length = n := by rw [List.length_map]; exact h.len
  obtain ⟨P, hP⟩ : ∃ P, pairsB (rs.map RowG.xs) m = P := ⟨_, rfl⟩
  obtain ⟨V, hV⟩ : ∃ V, (zs.map ChG.x).all validB = V := ⟨_, rfl⟩
  obtain ⟨T, hT⟩ : ∃ T, inB tol 0 20 = T := ⟨_, rfl⟩
  obtain ⟨B, hB⟩ : ∃ B, inB b 1 20000 = B := ⟨_, rfl⟩
  have cP : Calls Tryz.prog 26 #[.slice A0 n0 c0, .int .i64 m] w fun e w' => e = .returned (.bool P) ∧ Below w.heap.size w w' := hP ▸ implPairs_c A0 n0 c0 rs m w h0 m0
  have cV : ∀ w1, Below w.heap.size w w1 → Calls Tryz.prog 27 #[.slice A n c] w1 fun e w' => e = .returned (.bool V) ∧ Below w1.heap.size w1 w' := fun w1 hb => hV ▸ areAllValid_c A n c zs w1 (h.next hb) hm
  have cT : ∀ w1, Calls Tryz.prog 28 #[.int .i64 tol] w1 fun e w' => e = .returned (.bool T) ∧ w1 = w' := fun w1 => hT ▸ isTolerance_c _ _
  have cB : ∀ w1, Calls Tryz.prog 29 #[.int .i64 b, .int .i64 1, .int .i64 20000] w1 fun e w' => e = .returned (.bool B) ∧ w1 = w' := fun w1 => hB ▸ within_c _ _ _ _
  have cF : ∀ w1, Calls Tryz.prog 30 #[.int .i64 (n : Int), .int .i64 12] w1 fun e w' => e = .returned (.bool (decide (n ≤ 12))) ∧ w1 = w' := fun w1 => by
    have := few_c (n : Int) 12 w1
    rwa [show decide ((n : Int) ≤ 12) = decide (n ≤ 12) by simp; omega] at this
  have hK : codeK (rs.map RowG.xs) m (zs.map ChG.x) tol b = bif !(P && V) then 1 else bif !(T && B) then 2 else bif !decide (n ≤ 12) then 5 else 0 := by rw [codeK, hP, hV, hT, hB, hlx]
  rw [hK]
  obtain ⟨F, hF⟩ : ∃ F, decide (n ≤ 12) = F := ⟨_, rfl⟩
  rw [hF] at cF ⊢
  clear hP hV hT hB hK hlx h0 h hF
  have HP := Lib.hid cP; clear cP
  have HV := Lib.hid cV; clear cV
  have HT := Lib.hid cT; clear cT
  have HB := Lib.hid cB; clear cB
  have HF := Lib.hid cF; clear cF
  go_enter Tryz.func15, Tryz.ntmps15
  go_wp2_with fail
  refine HP.out.mono ?_
  rintro e w1 ⟨rfl, hb1⟩
  cases P
  · go_wp2_with fail
    go_ret
    exact ⟨rfl, hb1⟩
  go_wp2_with fail
  refine (HV.out _ hb1).mono ?_
  rintro e w2 ⟨rfl, hb2⟩
  replace hb2 := hb1.trans (hb2.mono hb1.size)
  cases V
  · go_wp2_with fail
    go_ret
    exact ⟨rfl, hb2⟩
  go_wp2_with fail
  refine (HT.out _).mono ?_
  rintro e w3 ⟨rfl, rfl⟩
  cases T
  · go_wp2_with fail
    go_ret
    exact ⟨rfl, hb2⟩
  go_wp2_with fail
  refine (HB.out _).mono ?_
  rintro e w3 ⟨rfl, rfl⟩
  cases B
  · go_wp2_with fail
    go_ret
    exact ⟨rfl, hb2⟩
  go_wp2_with fail
  refine (HF.out _).mono ?_
  rintro e w3 ⟨rfl, rfl⟩
  cases F
  all_goals
    go_wp2_with fail
    go_ret
    exact ⟨rfl, hb2⟩
abbrev clD (x1 x2 : Nat) : Value := .func (.func 21) #[] #[.pointer (some ⟨x1, 0, none⟩), .pointer (some ⟨x2, 0, none⟩)]
set_option maxRecDepth 100000 in
set_option maxHeartbeats 2000000 in
theorem ddClos_c (gp o cc x1 x2 g b1 o1 n1 c1 i j u v : Nat) (R : Bool) (w : World) (hx1 : w.cell? ⟨x1, 0, none⟩ = some (.pointer (some ⟨g, 0, none⟩))) (hx2 : w.cell? ⟨x2, 0, none⟩ = some (.slice (some ⟨b1, o1, none⟩) n1 c1))
    (ca : w.cell? ⟨gp, o, none⟩ = some (.int .i64 (i : Int))) (cd : w.cell? ⟨gp, o + 1, none⟩ = some (.int .i64 (j : Int))) (hi : i < n1) (hj : j < n1)
    (cu : w.cell? ⟨b1, o1 + i, none⟩ = some (.int .i64 (u : Int))) (cv : w.cell? ⟨b1, o1 + j, none⟩ = some (.int .i64 (v : Int))) (hu : u < 12) (hv : v < 12)
    (ct : w.cell? ⟨g, 3 + u * 12 + v, none⟩ = some (.bool R)) :
    Calls Tryz.prog 21 #[.slice (some ⟨gp, o, none⟩) 2 cc, .pointer (some ⟨x1, 0, none⟩), .pointer (some ⟨x2, 0, none⟩)] w fun e w' => e = .returned (.bool R) ∧ Below w.heap.size w w' := by
  have i0 : (0 : Int) ≤ (i : Int) := by omega
  have i1 : (i : Int) < (n1 : Int) := by omega
  have j0 : (0 : Int) ≤ (j : Int) := by omega
  have j1 : (j : Int) < (n1 : Int) := by omega
  have u0 : (0 : Int) ≤ (u : Int) := by omega
  have u1 : (u : Int) < 12 := by omega
  have v0 : (0 : Int) ≤ (v : Int) := by omega
  have v1 : (v : Int) < 12 := by omega
  go_enter Tryz.func21, Tryz.ntmps21
  go_wp2_with fail
  go_quiet (fail)
  go_wp2_with fail
  go_ret
  exact ⟨rfl, by (repeat (first | (with_reducible assumption) | (with_reducible exact Below.refl _ _) | exact Nat.le_refl _ | exact Below.size (by with_reducible assumption) | (with_reducible refine Below.drew ?_) | (with_reducible refine below_drewN ?_ _) | (with_reducible refine Below.alloc ?_ ?_ _) | (with_reducible refine Below.setCell ?_ ?_ _) | (with_reducible refine le_alloc ?_ _) | (with_reducible refine le_set ?_ _ _) | (with_reducible refine le_drew ?_) | (with_reducible refine le_drewN ?_ _) | omega | (dsimp only; omega)))⟩
set_option maxRecDepth 100000 in
set_option maxHeartbeats 2000000 in
theorem ddIndex_c (A : Option Addr) (n c : Nat) (rs : List RowG) (x1 x2 : Nat) (q : Nat → Bool) (w : World) (h : RS w A n rs) (hm : n ≤ 1048576)
    (hC : ∀ k r, rs[k]? = some r → ∀ w', Below w.heap.size w w' → Calls Tryz.prog 21 #[.slice r.A r.xs.length r.c, .pointer (some ⟨x1, 0, none⟩), .pointer (some ⟨x2, 0, none⟩)] w' fun e w'' => e = .returned (.bool (!q k)) ∧ Below w'.heap.size w' w'') :
    Calls Tryz.prog 37 #[.slice A n c, clD x1 x2] w fun e w' => (∃ r : Int, e = .returned (.int .i64 r) ∧ decide (0 ≤ r) = !(allB n q)) ∧ Below w.heap.size w w' := by
  have HC := Lib.hid hC; clear hC
  go_enter Tryz.func37, Tryz.ntmps37
  go_wp2
  go_loopw [5, 8] (fun _ i wr => ∃ k : Nat, k ≤ n ∧ i = .int .i64 k ∧ Hid (∀ j, j < k → q j = true) ∧ Below w.heap.size w wr) (fun _ i _ => n - (intOf i).toNat)
  case atStart => exact ⟨0, Nat.zero_le _, rfl, Lib.hid (fun j hj => absurd hj (by omega)), Below.refl _ _⟩
  case round =>
    obtain ⟨k, hk, rfl, Hq, hbw⟩ := hrel
    have k0 : (0 : Int) ≤ (k : Int) := by omega
    by_cases hlt : k < n
    · have k1 : (k : Int) < (n : Int) := by omega
      obtain ⟨b, off, r, rfl, hb, hr, _, _, q0⟩ := (h.next hbw).get k hlt
      have hc := HC.out k r hr wr hbw
      have Hr := Lib.hid hr; clear hr
      cases hv : q k
      all_goals
        rw [hv] at hc
        have HCk := Lib.hid hc; clear hc
        have Hv := Lib.hid hv; clear hv
        go_wp2_with fail
        refine HCk.out.mono ?_
        rintro e w2 ⟨rfl, hb2⟩
        go_wp2_with fail
      · go_ret
        exact ⟨⟨_, rfl, by rw [allB_no hlt Hv.out]; simp⟩, hbw.trans (hb2.mono hbw.size)⟩
      · go_roundw
        case rel =>
          refine ⟨k + 1, by omega, by go_num, Lib.hid (fun j hj => ?_), hbw.trans (hb2.mono hbw.size)⟩
          rcases Nat.lt_or_ge j k with h2 | h2
          · exact Hq.out j h2
          · obtain rfl : j = k := by omega
            exact Hv.out
        case measure => simp [intOf]; omega
    · obtain rfl : k = n := by omega
      go_wp2_with fail
      go_ret
      exact ⟨⟨_, rfl, by rw [allB_iff.2 Hq.out]; rfl⟩, hbw⟩
set_option maxRecDepth 100000 in
set_option maxHeartbeats 1000000 in
theorem ddHas_c (A : Option Addr) (n c : Nat) (rs : List RowG) (x1 x2 : Nat) (q : Nat → Bool) (w : World) (h : RS w A n rs) (hm : n ≤ 1048576)
    (hC : ∀ k r, rs[k]? = some r → ∀ w', Below w.heap.size w w' → Calls Tryz.prog 21 #[.slice r.A r.xs.length r.c, .pointer (some ⟨x1, 0, none⟩), .pointer (some ⟨x2, 0, none⟩)] w' fun e w'' => e = .returned (.bool (!q k)) ∧ Below w'.heap.size w' w'') :
    Calls Tryz.prog 20 #[.slice A n c, clD x1 x2] w fun e w' => e = .returned (.bool (!(allB n q))) ∧ Below w.heap.size w w' := by
  have hI := ddIndex_c A n c rs x1 x2 q w h hm hC
  clear hC
  have HI := Lib.hid hI; clear hI
  go_enter Tryz.func20, Tryz.ntmps20
  go_wp2_with fail
  refine HI.out.mono ?_
  rintro e w1 ⟨⟨r, rfl, hr⟩, hb1⟩
  have Hr := Lib.hid hr; clear hr
  by_cases h0 : 0 ≤ r
  all_goals
    go_wp2_with fail
    go_ret
    exact ⟨ret_eq (bool_eq (by first | (rw [← Hr.out]; done) | (rw [← Hr.out]; simp [h0]))), hb1⟩
end Go.Proofs.YtgibbhipjpbdfaaGreat

/- Choices of characters: FirstChoice and FewestChoices. -/
namespace Go.Proofs.YtgibbhipjpbdfaaGreat
open Go.RowKit
theorem below_asfr {B hi g : Nat} {a w w' : World} (hb : Below B a w) (f : AsFr hi g w w') (hg : B ≤ g) (hh : B ≤ hi) : Below B a w' :=
  ⟨f.os.trans hb.os, f.tape.trans hb.tape, f.output.trans hb.output, Nat.le_trans hb.size f.size, fun b hlt => (f.block b (by omega) (by omega)).trans (hb.block b hlt)⟩
theorem befL_lt {pss : List (List Int)} {N : Int} (hp : pairsB pss N = true) : ∀ k j, j ∈ befL pss k → 0 ≤ j ∧ j < (k : Int) := fun k j hj => by
  rw [befL, List.mem_flatMap] at hj
  obtain ⟨p, hpm, hj⟩ := hj
  obtain ⟨i, hi⟩ := List.getElem?_of_mem hpm
  obtain ⟨a, d, rfl, ha, had, _⟩ := pairs_two hp hi
  simp only at hj
  split at hj
  · simp only [List.mem_singleton] at hj; omega
  · cases hj
theorem Good.tab {N I most : Nat} {B : Nat → List Int} {T T' : Nat → Nat → Bool} {Q : List Int} (h : Good N I B T most [] Q) (ht : ∀ i j, i < I → j < I → T i j = T' i j) : Good N I B T' most [] Q :=
  ⟨h.pre, h.len, h.inI, fun k x j y hk hx hj hy => by
    have h1 := h.inI k x hk hx
    have h2 := h.inI j.toNat y (Nat.zero_le _) hy
    rw [← ht _ _ (by omega) (by omega)]
    exact h.okk k x j y hk hx hj hy, h.few⟩
/-- A distinct choice for N lights, with at most so many different indices. -/
def Dis (pss : List (List Int)) (N : Nat) (xs : List Ch) (tol : Int) (most : Nat) (Q : List Int) : Prop := Good N xs.length (befL pss) (tabB (clP xs tol)) most [] Q
def FstOk (pss : List (List Int)) (m : Int) (xs : List Ch) (tol b r : Int) (Q : List Int) : Prop :=
  (codeK pss m xs tol b ≠ 0 ∧ r = codeK pss m xs tol b ∧ Q = []) ∨ (codeK pss m xs tol b = 0 ∧ ((r = 0 ∧ Dis pss m.toNat xs tol 12 Q) ∨ (r = 3 ∧ ∀ Q', ¬ Dis pss m.toNat xs tol 12 Q') ∨ r = 5))
def FewOk (pss : List (List Int)) (m : Int) (xs : List Ch) (tol b r k : Int) (Q : List Int) : Prop :=
  (codeK pss m xs tol b ≠ 0 ∧ r = codeK pss m xs tol b ∧ Q = []) ∨ (codeK pss m xs tol b = 0 ∧ ((r = 0 ∧ k = ((usedL Q).length : Nat) ∧ ∃ mo, mo ≤ xs.length ∧ Dis pss m.toNat xs tol mo Q ∧ ∀ m', m' < mo → ∀ Q', ¬ Dis pss m.toNat xs tol m' Q') ∨ (r = 3 ∧ ∀ m', m' ≤ xs.length → ∀ Q', ¬ Dis pss m.toNat xs tol m' Q') ∨ r = 5))
theorem codeK_0 {pss : List (List Int)} {m : Int} {xs : List Ch} {tol b : Int} (h : codeK pss m xs tol b = 0) : pairsB pss m = true ∧ xs.all validB = true ∧ inB tol 0 20 = true ∧ (1 ≤ b ∧ b ≤ 20000) ∧ xs.length ≤ 12 := by
  rw [codeK] at h
  cases hp : pairsB pss m <;> rw [hp] at h
  · simp at h
  cases hv : xs.all validB <;> rw [hv] at h
  · simp at h
  cases ht : inB tol 0 20 <;> rw [ht] at h
  · simp at h
  cases hb : inB b 1 20000 <;> rw [hb] at h
  · simp at h
  by_cases hl : xs.length ≤ 12
  · exact ⟨rfl, rfl, rfl, inB_iff.1 hb, hl⟩
  · rw [decide_eq_false hl] at h; simp at h
/-- The state behind newChoosing. -/
theorem as_start {w : World} {base g g2 N I : Nat} {ys : List Value} {T : Nat → Nat → Bool} {rs : List RowG} (hc : Chz w base g ys) (ht : TabIs ys T) (hf : FixY ys N I g2) (hb : Bef w base g2 N rs) : AsS w w.heap.size g N I T 0 g2 rs [] ys 0 none 0 := by
  obtain ⟨f0, f1, f2, f3, f4, f5⟩ := hf
  exact ⟨own_base hc (Nat.zero_le _), (hc.lt g rfl).2, Nat.le_refl _, ht, f0, f1, f2, f3, f4, f5, World.ownsRow_nil _ _ _ _, BefR.of hb hc⟩
set_option maxRecDepth 100000 in
set_option maxHeartbeats 4000000 in
theorem firstChoice_c (A0 : Option Addr) (n0 c0 : Nat) (rs : List RowG) (m : Int) (A : Option Addr) (n c : Nat) (zs : List ChG) (tol b : Int) (w : World) (h0 : RS w A0 n0 rs) (m0 : n0 ≤ 1048576) (h : ChS w A n zs) (hm : n ≤ 1048576) :
    Calls Tryz.prog 6 #[.slice A0 n0 c0, .int .i64 m, .slice A n c, .int .i64 tol, .int .i64 b] w fun e w' => ∃ (r : Int) (Q : List Int) (A' : Option Addr) (c' : Nat), e = .returned (.tuple #[.slice A' Q.length c', .int .i64 r]) ∧ w'.ownsRow w.heap.size 2 1 (.slice A' Q.length c') Q.length (Q.flatMap intC) ∧ Below w.heap.size w w' ∧ FstOk (rs.map RowG.xs) m (zs.map ChG.x) tol b r Q := by
  have hlx : (zs.map ChG.x).length = n := by rw [List.length_map]; exact h.len
  have hK := chcCode_c A0 n0 c0 rs m A n c zs tol b w h0 m0 h hm
  by_cases hk0 : codeK (rs.map RowG.xs) m (zs.map ChG.x) tol b = 0
  · obtain ⟨hp, hv, _, ⟨hb0, hb1⟩, hl⟩ := codeK_0 hk0
    obtain ⟨hm0, hm24⟩ := pairs_n hp
    obtain ⟨N, rfl⟩ := Int.eq_ofNat_of_zero_le hm0
    rw [hlx] at hl
    rw [hk0] at hK
    have hN := fun w1 (hbb : Below w.heap.size w w1) => newChoosing2_c A0 n0 c0 rs N A n c zs tol w1 (h0.next hbb) m0 hp (h.next hbb) hv hl
    have hlt := befL_lt hp
    have fin : ∀ (r : Int) (Q : List Int), (r = 0 ∧ Dis (rs.map RowG.xs) N (zs.map ChG.x) tol 12 Q) ∨ (r = 3 ∧ ∀ Q', ¬ Dis (rs.map RowG.xs) N (zs.map ChG.x) tol 12 Q') ∨ r = 5 → FstOk (rs.map RowG.xs) N (zs.map ChG.x) tol b r Q := fun r Q h => .inr ⟨hk0, h⟩
    have HK := Lib.hid hK; clear hK
    have HN := Lib.hid hN; clear hN
    have Hlt := Lib.hid hlt; clear hlt
    have Hfin := Lib.hid fin; clear fin
    have Hlx := Lib.hid hlx; clear hlx
    clear hp hv hk0 h0 h hm0
    go_enter Tryz.func6, Tryz.ntmps6
    go_wp2_with fail
    refine HK.out.mono ?_
    rintro e w1 ⟨rfl, hb1'⟩
    go_wp2_with fail
    refine (HN.out _ hb1').mono ?_
    rintro e w2 ⟨g, ys, T, g2, rsb, rfl, hcz, htab, hT, hb2, hfx, hbf, hrows⟩
    have H2 := hb1'.trans (hb2.mono hb1'.size)
    have hgw : w.heap.size ≤ g := Nat.le_trans hb1'.size (hcz.lt g rfl).1
    have hS := as_start hcz htab hfx hbf
    have hhi : w.heap.size ≤ w2.heap.size := H2.size
    obtain ⟨hi, hhe⟩ : ∃ hi, w2.heap.size = hi := ⟨_, rfl⟩
    rw [hhe] at hS hhi
    obtain ⟨d0, d1, d2, db, dm, dc⟩ := hS.cells
    have zf := hS.cz.frozenAt
    have hS3 := hS.setBudget b
    have hf3 := hS3.2
    replace hS3 := hS3.1
    obtain ⟨e0, e1, e2, eb, em, ec⟩ := hS3.cells
    have zf3 := hS3.cz.frozenAt
    have hS4 := hS3.setMost 12
    rw [show ((12 : Nat) : Int) = 12 from rfl] at hS4
    have hf4 := hf3.trans hS4.2
    replace hS4 := hS4.1
    have HS4 := Lib.hid hS4; clear hS4
    have HT := Lib.hid hT; clear hT
    have Hrw := Lib.hid hrows; clear hrows
    have HF4 := Lib.hid hf4; clear hf4
    clear hS hS3 hcz htab hfx hbf hb1' hb2 hhe hf3
    go_wp2_with fail
    have hAK : AsK n N 12 (befL (rs.map RowG.xs)) rsb := ⟨hl, by omega, Nat.le_refl _, Hrw.out, Hlt.out⟩
    refine (search_c hAK (different_c hi g N n T g2 rsb) N [] _ b none 0 _ HS4.out (by omega) hb1 (fun x hx => by cases hx) (Nat.zero_le _) (by simp) (by decide)).mono ?_
    rintro e w5 ⟨r, P', ys', b', A', c', rfl, hAns, hS5, hb5, hf5⟩
    have hF := HF4.out.trans hf5
    have H5 := below_asfr H2 hF hgw hhi
    have hrow := own_base hS5.ch hhi
    obtain ⟨s0, s1, s2, sb, sm, sc⟩ := hS5.cells
    clear hS5 hF hf5
    have HT' : ∀ i j, i < n → j < n → T i j = tabB (clP (zs.map ChG.x) tol) i j := HT.out
    have HT2 : ∀ i j, i < n → j < n → tabB (clP (zs.map ChG.x) tol) i j = T i j := fun i j h1 h2 => (HT' i j h1 h2).symm
    rcases hAns with ⟨rfl, hG⟩ | ⟨rfl, _, hno⟩ | rfl
    · have hD : Dis (rs.map RowG.xs) N (zs.map ChG.x) tol 12 P' := by
        have := hG.tab HT'
        rw [← Hlx.out] at this
        exact this
      have HD := Lib.hid hD; clear hD
      clear hG
      go_wp2_with fail
      exact bodyPost_ret (v := .tuple #[.slice A' P'.length c', .int .i64 0]) (by simp [results, Tryz.results6, go_sem]) rfl ⟨0, P', A', c', rfl, hrow, H5, Hfin.out _ _ (.inl ⟨rfl, HD.out⟩)⟩
    · have hD : ∀ Q', ¬ Dis (rs.map RowG.xs) N (zs.map ChG.x) tol 12 Q' := fun Q' hq => hno Q' (by
        have hq' : Good N (zs.map ChG.x).length (befL (rs.map RowG.xs)) (tabB (clP (zs.map ChG.x) tol)) 12 [] Q' := hq
        rw [Hlx.out] at hq'
        exact hq'.tab HT2)
      have HD := Lib.hid hD; clear hD
      clear hno
      go_wp2_with fail
      exact bodyPost_ret (v := .tuple #[.slice none 0 0, .int .i64 3]) (by simp [results, Tryz.results6, go_sem]) rfl ⟨3, [], none, 0, rfl, World.ownsRow_nil _ _ _ _, H5, Hfin.out _ _ (.inr (.inl ⟨rfl, HD.out⟩))⟩
    · go_wp2_with fail
      exact bodyPost_ret (v := .tuple #[.slice none 0 0, .int .i64 5]) (by simp [results, Tryz.results6, go_sem]) rfl ⟨5, [], none, 0, rfl, World.ownsRow_nil _ _ _ _, H5, Hfin.out _ _ (.inr (.inr rfl))⟩
  · have fin : FstOk (rs.map RowG.xs) m (zs.map ChG.x) tol b (codeK (rs.map RowG.xs) m (zs.map ChG.x) tol b) [] := .inl ⟨hk0, rfl, rfl⟩
    obtain ⟨K, hKe⟩ : ∃ K, codeK (rs.map RowG.xs) m (zs.map ChG.x) tol b = K := ⟨_, rfl⟩
    rw [hKe] at hK fin hk0
    have hkk : (K == 0) = false := by simpa using hk0
    have HK := Lib.hid hK; clear hK
    have Hfin := Lib.hid fin; clear fin
    clear hKe h0 h hlx
    go_enter Tryz.func6, Tryz.ntmps6
    go_wp2_with fail
    refine HK.out.mono ?_
    rintro e w1 ⟨rfl, hb1'⟩
    go_wp2_with fail
    exact bodyPost_ret (v := .tuple #[.slice none 0 0, .int .i64 K]) (by simp [results, Tryz.results6, go_sem]) rfl ⟨K, [], none, 0, rfl, World.ownsRow_nil _ _ _ _, hb1', Hfin.out⟩
set_option maxRecDepth 100000 in
set_option maxHeartbeats 4000000 in
theorem fewestChoices_c (A0 : Option Addr) (n0 c0 : Nat) (rs : List RowG) (m : Int) (A : Option Addr) (n c : Nat) (zs : List ChG) (tol b : Int) (w : World) (h0 : RS w A0 n0 rs) (m0 : n0 ≤ 1048576) (h : ChS w A n zs) (hm : n ≤ 1048576) :
    Calls Tryz.prog 7 #[.slice A0 n0 c0, .int .i64 m, .slice A n c, .int .i64 tol, .int .i64 b] w fun e w' => ∃ (r k : Int) (Q : List Int) (A' : Option Addr) (c' : Nat), e = .returned (.tuple #[.slice A' Q.length c', .int .i64 k, .int .i64 r]) ∧ w'.ownsRow w.heap.size 2 1 (.slice A' Q.length c') Q.length (Q.flatMap intC) ∧ Below w.heap.size w w' ∧ FewOk (rs.map RowG.xs) m (zs.map ChG.x) tol b r k Q := by
  have hlx : (zs.map ChG.x).length = n := by rw [List.length_map]; exact h.len
  have hK := chcCode_c A0 n0 c0 rs m A n c zs tol b w h0 m0 h hm
  by_cases hk0 : codeK (rs.map RowG.xs) m (zs.map ChG.x) tol b = 0
  · obtain ⟨hp, hv, _, ⟨hb0, hb1⟩, hl⟩ := codeK_0 hk0
    obtain ⟨hm0, hm24⟩ := pairs_n hp
    obtain ⟨N, rfl⟩ := Int.eq_ofNat_of_zero_le hm0
    rw [hlx] at hl
    rw [hk0] at hK
    have hN := fun w1 (hbb : Below w.heap.size w w1) => newChoosing2_c A0 n0 c0 rs N A n c zs tol w1 (h0.next hbb) m0 hp (h.next hbb) hv hl
    have hlt := befL_lt hp
    have fin : ∀ (r k : Int) (Q : List Int), (r = 0 ∧ k = ((usedL Q).length : Nat) ∧ ∃ mo, mo ≤ (zs.map ChG.x).length ∧ Dis (rs.map RowG.xs) N (zs.map ChG.x) tol mo Q ∧ ∀ m', m' < mo → ∀ Q', ¬ Dis (rs.map RowG.xs) N (zs.map ChG.x) tol m' Q') ∨ (r = 3 ∧ ∀ m', m' ≤ (zs.map ChG.x).length → ∀ Q', ¬ Dis (rs.map RowG.xs) N (zs.map ChG.x) tol m' Q') ∨ r = 5 → FewOk (rs.map RowG.xs) N (zs.map ChG.x) tol b r k Q := fun r k Q h => .inr ⟨hk0, h⟩
    rw [hlx] at fin
    have HK := Lib.hid hK; clear hK
    have HN := Lib.hid hN; clear hN
    have Hlt := Lib.hid hlt; clear hlt
    have Hfin := Lib.hid fin; clear fin
    have Hlx := Lib.hid hlx; clear hlx
    clear hp hv hk0 h0 h hm0
    go_enter Tryz.func7, Tryz.ntmps7
    go_wp2_with fail
    refine HK.out.mono ?_
    rintro e w1 ⟨rfl, hb1'⟩
    go_wp2_with fail
    refine (HN.out _ hb1').mono ?_
    rintro e w2 ⟨g, ys, T, g2, rsb, rfl, hcz, htab, hT, hb2, hfx, hbf, hrows⟩
    have H2 := hb1'.trans (hb2.mono hb1'.size)
    have hgw : w.heap.size ≤ g := Nat.le_trans hb1'.size (hcz.lt g rfl).1
    have hS := as_start hcz htab hfx hbf
    have hhi : w.heap.size ≤ w2.heap.size := H2.size
    obtain ⟨hi, hhe⟩ : ∃ hi, w2.heap.size = hi := ⟨_, rfl⟩
    rw [hhe] at hS hhi
    obtain ⟨d0, d1, d2, db, dm, dc⟩ := hS.cells
    have zf := hS.cz.frozenAt
    have hS3 := hS.setBudget b
    have hf3 := hS3.2
    replace hS3 := hS3.1
    obtain ⟨e0, e1, e2, eb, em, ec⟩ := hS3.cells
    have zf3 := hS3.cz.frozenAt
    have hS4 := hS3.setMost 0
    rw [show ((0 : Nat) : Int) = 0 from rfl] at hS4
    have hf4 := hf3.trans hS4.2
    replace hS4 := hS4.1
    have hDis : ∀ mo Q, Good N n (befL (rs.map RowG.xs)) T mo [] Q ↔ Dis (rs.map RowG.xs) N (zs.map ChG.x) tol mo Q := fun mo Q => by
      rw [Dis, Hlx.out]
      exact ⟨fun h => h.tab hT, fun h => h.tab fun i j h1 h2 => (hT i j h1 h2).symm⟩
    have HS4 : Hid (∃ ys b' A' c', (0 ≤ b' ∧ b' ≤ b) ∧ AsS ((w2.setCell ⟨g, 147, none⟩ (.int .i64 b)).setCell ⟨g, 148, none⟩ (.int .i64 0)) hi g N n T 0 g2 rsb [] ys b' A' c') := Lib.hid ⟨_, b, none, 0, ⟨by omega, Int.le_refl _⟩, hS4⟩
    have hno0 : ∀ m', m' < 0 → ∀ Q', ¬ Dis (rs.map RowG.xs) N (zs.map ChG.x) tol m' Q' := fun m' h => absurd h (by omega)
    have HNO := Lib.hid hno0; clear hno0
    have HDis := Lib.hid hDis; clear hDis
    have HT := Lib.hid hT; clear hT
    have Hrw := Lib.hid hrows; clear hrows
    have HF4 := Lib.hid hf4; clear hf4
    clear hS hS3 hS4 hcz htab hfx hbf hb1' hb2 hhe hf3
    go_wp2_with fail
    go_loopg [] (n + 1) (fun q wr => ∃ (mo : Nat), q + mo = n + 1 ∧ Hid (∃ ys b' A' c', (0 ≤ b' ∧ b' ≤ b) ∧ AsS wr hi g N n T mo g2 rsb [] ys b' A' c') ∧ Hid (∀ m', m' < mo → ∀ Q', ¬ Dis (rs.map RowG.xs) N (zs.map ChG.x) tol m' Q') ∧ Hid (AsFr hi g w2 wr))
    case atStart => exact ⟨0, by omega, HS4, HNO, HF4⟩
    case round =>
      clear HS4 HNO HF4 d0 d1 d2 db dm dc zf e0 e1 e2 eb em ec zf3
      obtain ⟨mo, hq, HS, HNO, HF⟩ := hrel
      obtain ⟨ysr, b1, A1, c1, hbb, hS⟩ := HS.out
      clear HS
      obtain ⟨d0, d1, d2, db, dm, dc⟩ := hS.cells
      have zf := hS.cz.frozenAt
      by_cases hle : mo ≤ n
      · have hle1 : (mo : Int) ≤ (n : Int) := by omega
        have hAK : AsK n N mo (befL (rs.map RowG.xs)) rsb := ⟨hl, by omega, by omega, Hrw.out, Hlt.out⟩
        have hSe := search_c hAK (different_c hi g N n T g2 rsb) N [] ysr b1 A1 c1 wr hS hbb.1 (by omega) (fun x hx => by cases hx) (Nat.zero_le _) (by simp) (Nat.zero_le _)
        have HSe := Lib.hid hSe; clear hSe
        clear hS hAK
        go_wp2_with fail
        refine HSe.out.mono ?_
        rintro e w5 ⟨r, P', ys', b', A', c', rfl, hAns, hS5, hb5, hf5⟩
        have hF := HF.out.trans hf5
        clear d0 d1 d2 db dm dc zf HSe hf5
        rcases hAns with ⟨rfl, hG⟩ | ⟨rfl, rfl, hno⟩ | rfl
        · have hD := (HDis.out mo P').1 hG
          have hDf := different_c hi g N n T g2 rsb mo P' ys' b' A' c'
          have hPN : P'.length ≤ 24 := by rw [hG.len]; omega
          have hgl := hS5.lt
          obtain ⟨s0, s1, s2, sb, sm, sc⟩ := hS5.cells
          have e1 : ∀ {w' : World}, Below w5.heap.size w5 w' → (Below w5.heap.size w5 w' ∧ (∀ x, w'.cell? ⟨g, x, none⟩ = w5.cell? ⟨g, x, none⟩)) := fun hbb => ⟨hbb, keepC hbb _ hgl⟩
          have hDi : ∀ wq, Below w5.heap.size w5 wq → Calls Tryz.prog 18 #[.pointer (some ⟨g, 0, none⟩)] wq fun e w' => e = .returned (.int .i64 ((usedL P').length : Nat)) ∧ Below wq.heap.size wq w' := fun wq hbb => hDf wq (hS5.next hbb) hPN
          obtain ⟨u, hu⟩ : ∃ u, (usedL P').length = u := ⟨_, rfl⟩
          rw [hu] at hDi
          have H5 := below_asfr H2 hF hgw hhi
          have hrow := own_base hS5.ch hhi
          have HDi := Lib.hid hDi; clear hDi
          have HD := Lib.hid hD; clear hD
          have HU := Lib.hid hu; clear hu
          have Hrow := Lib.hid hrow; clear hrow
          clear hG hDf hS5 hF
          go_wp2_with fail
          refine wp_region_held_drew (S := fun w' => Below w5.heap.size w5 w' ∧ (∀ x, w'.cell? ⟨g, x, none⟩ = w5.cell? ⟨g, x, none⟩)) (by kernel_rfl) (e1 (Below.refl _ _).drew) (fun hHeld => ?_)
          (first
            | (refine wpAnyH_take (i := 0) (v := ?_) rfl (by kernel_rfl) (by kernel_rfl) (by kernel_rfl) (fun _ _ _ h => h) (Or.inl ⟨by rfl, ?_⟩) (by assumption) ?_
               rotate_left
               focus (intro wq hSq; (try dsimp only at hSq); go_simp; (try (with_reducible rfl)); done))
            | (refine wpAnyH_take (i := 0) (v := undef) rfl (by kernel_rfl) (by kernel_rfl) (by kernel_rfl) (fun _ _ _ h => h) (Or.inr ⟨by rfl, rfl⟩) (by assumption) ?_)
            | fail "take 0")
          try simp only [Act.put, List.setIfInBounds_toArray, List.set_cons_zero, List.set_cons_succ, List.getElem_toArray, List.getElem_cons_zero]
          (first
            | (refine wpAnyH_take (i := 1) (v := ?_) rfl (by kernel_rfl) (by kernel_rfl) (by kernel_rfl) (fun _ _ _ h => h) (Or.inl ⟨by rfl, ?_⟩) (by assumption) ?_
               rotate_left
               focus (intro wq hSq; (try dsimp only at hSq); go_simp; (try (with_reducible rfl)); done))
            | (refine wpAnyH_take (i := 1) (v := undef) rfl (by kernel_rfl) (by kernel_rfl) (by kernel_rfl) (fun _ _ _ h => h) (Or.inr ⟨by rfl, rfl⟩) (by assumption) ?_)
            | fail "take 1")
          try simp only [Act.put, List.setIfInBounds_toArray, List.set_cons_zero, List.set_cons_succ, List.getElem_toArray, List.getElem_cons_zero, List.getElem_cons_succ]
          (first
            | (refine wpAnyH_take (i := 2) (v := ?_) rfl (by kernel_rfl) (by kernel_rfl) (by kernel_rfl) (fun _ _ _ h => h) (Or.inl ⟨by rfl, ?_⟩) (by assumption) ?_
               rotate_left
               focus (intro wq hSq; (try dsimp only at hSq); go_simp; (try (with_reducible rfl)); done))
            | (refine wpAnyH_take (i := 2) (v := undef) rfl (by kernel_rfl) (by kernel_rfl) (by kernel_rfl) (fun _ _ _ h => h) (Or.inr ⟨by rfl, rfl⟩) (by assumption) ?_)
            | fail "take 2")
          try simp only [Act.put, List.setIfInBounds_toArray, List.set_cons_zero, List.set_cons_succ, List.getElem_toArray, List.getElem_cons_zero, List.getElem_cons_succ]
          (first
            | (refine wpAnyH_take (i := 3) (v := ?_) rfl (by kernel_rfl) (by kernel_rfl) (by kernel_rfl) (fun _ _ _ h => h) (Or.inl ⟨by rfl, ?_⟩) (by assumption) ?_
               rotate_left
               focus (intro wq hSq; (try dsimp only at hSq); go_simp; (try (with_reducible rfl)); done))
            | (refine wpAnyH_take (i := 3) (v := undef) rfl (by kernel_rfl) (by kernel_rfl) (by kernel_rfl) (fun _ _ _ h => h) (Or.inr ⟨by rfl, rfl⟩) (by assumption) ?_)
            | fail "take 3")
          try simp only [Act.put, List.setIfInBounds_toArray, List.set_cons_zero, List.set_cons_succ, List.getElem_toArray, List.getElem_cons_zero, List.getElem_cons_succ]
          (first
            | (refine wpAnyH_take (i := 4) (v := ?_) rfl (by kernel_rfl) (by kernel_rfl) (by kernel_rfl) (fun _ _ _ h => h) (Or.inl ⟨by rfl, ?_⟩) (by assumption) ?_
               rotate_left
               focus (intro wq hSq; (try dsimp only at hSq); go_simp; (try (with_reducible rfl)); done))
            | (refine wpAnyH_take (i := 4) (v := undef) rfl (by kernel_rfl) (by kernel_rfl) (by kernel_rfl) (fun _ _ _ h => h) (Or.inr ⟨by rfl, rfl⟩) (by assumption) ?_)
            | fail "take 4")
          try simp only [Act.put, List.setIfInBounds_toArray, List.set_cons_zero, List.set_cons_succ, List.getElem_toArray, List.getElem_cons_zero, List.getElem_cons_succ]
          refine wpAnyH_ready (rs := [5]) (by kernel_rfl) (by simp) ?_
          refine AllReadyH.cons (o := _) rfl (fun K hK => ?_) AllReadyH.nil
          go_simp
          refine (HDi.out _ (Below.refl _ _).drew).mono ?_; rintro e w6 ⟨rfl, hb6⟩; have hb56 := (Below.refl w5.heap.size w5).drew.trans hb6
          refine hK.out _ _ ?_ (fun hHeld => ?_)
          · exact e1 hb56
          clear hK K
          try simp only [Act.put, List.setIfInBounds_toArray, List.set_cons_zero, List.set_cons_succ, List.getElem_toArray, List.getElem_cons_zero, List.getElem_cons_succ]
          (first
            | (refine wpAnyH_take (i := 6) (v := ?_) rfl (by kernel_rfl) (by kernel_rfl) (by kernel_rfl) (fun _ _ _ h => h) (Or.inl ⟨by rfl, ?_⟩) (by assumption) ?_
               rotate_left
               focus (intro wq hSq; (try dsimp only at hSq); go_simp; (try (with_reducible rfl)); done))
            | (refine wpAnyH_take (i := 6) (v := undef) rfl (by kernel_rfl) (by kernel_rfl) (by kernel_rfl) (fun _ _ _ h => h) (Or.inr ⟨by rfl, rfl⟩) (by assumption) ?_)
            | fail "take 6")
          try simp only [Act.put, List.setIfInBounds_toArray, List.set_cons_zero, List.set_cons_succ, List.getElem_toArray, List.getElem_cons_zero, List.getElem_cons_succ]
          (first
            | (refine wpAnyH_take (i := 7) (v := ?_) rfl (by kernel_rfl) (by kernel_rfl) (by kernel_rfl) (fun _ _ _ h => h) (Or.inl ⟨by rfl, ?_⟩) (by assumption) ?_
               rotate_left
               focus (intro wq hSq; (try dsimp only at hSq); go_simp; (try (with_reducible rfl)); done))
            | (refine wpAnyH_take (i := 7) (v := undef) rfl (by kernel_rfl) (by kernel_rfl) (by kernel_rfl) (fun _ _ _ h => h) (Or.inr ⟨by rfl, rfl⟩) (by assumption) ?_)
            | fail "take 7")
          try simp only [Act.put, List.setIfInBounds_toArray, List.set_cons_zero, List.set_cons_succ, List.getElem_toArray, List.getElem_cons_zero, List.getElem_cons_succ]
          (first
            | (refine wpAnyH_take (i := 8) (v := ?_) rfl (by kernel_rfl) (by kernel_rfl) (by kernel_rfl) (fun _ _ _ h => h) (Or.inl ⟨by rfl, ?_⟩) (by assumption) ?_
               rotate_left
               focus (intro wq hSq; (try dsimp only at hSq); go_simp; (try (with_reducible rfl)); done))
            | (refine wpAnyH_take (i := 8) (v := undef) rfl (by kernel_rfl) (by kernel_rfl) (by kernel_rfl) (fun _ _ _ h => h) (Or.inr ⟨by rfl, rfl⟩) (by assumption) ?_)
            | fail "take 8")
          try simp only [Act.put, List.setIfInBounds_toArray, List.set_cons_zero, List.set_cons_succ, List.getElem_toArray, List.getElem_cons_zero, List.getElem_cons_succ]
          refine wpAnyH_done (by kernel_rfl) ?_ _
          have hb56' := hb56
          clear hHeld e1 hb6
          have H6 := H5.trans (hb56'.mono H5.size)
          have hrow6 := own_next Hrow.out hb56'
          go_wp2_with fail
          exact bodyPost_ret (v := .tuple #[.slice A' P'.length c', .int .i64 (u : Int), .int .i64 0]) (by simp [results, Tryz.results7, go_sem]) rfl ⟨0, (u : Int), P', A', c', rfl, hrow6, H6, Hfin.out _ _ _ (.inl ⟨rfl, by rw [HU.out], mo, hle, HD.out, HNO.out⟩)⟩
        · have hD : ∀ m', m' < mo + 1 → ∀ Q', ¬ Dis (rs.map RowG.xs) N (zs.map ChG.x) tol m' Q' := fun m' hm' Q' hq' => by
            rcases Nat.lt_or_ge m' mo with h1 | h1
            · exact HNO.out m' h1 Q' hq'
            · obtain rfl : m' = mo := by omega
              exact hno Q' ((HDis.out m' Q').2 hq')
          obtain ⟨s0, s1, s2, sb, sm, sc⟩ := hS5.cells
          have zf5 := hS5.cz.frozenAt
          have hwm : IntKind.i64.wrap ((mo : Int) + 1) = (mo : Int) + 1 := IntWalk.i64_in _ (by omega)
          have hS6 := hS5.setMost (mo + 1)
          rw [show ((mo + 1 : Nat) : Int) = (mo : Int) + 1 by omega] at hS6
          have HF6 := Lib.hid (hF.trans hS6.2)
          have HS6 : Hid (∃ ys b' A' c', (0 ≤ b' ∧ b' ≤ b) ∧ AsS (w5.setCell ⟨g, 148, none⟩ (.int .i64 ((mo : Int) + 1))) hi g N n T (mo + 1) g2 rsb [] ys b' A' c') := Lib.hid ⟨_, b', A', c', ⟨hb5.1, by omega⟩, hS6.1⟩
          have HD := Lib.hid hD; clear hD
          clear hS6 hS5 hno hF
          go_wp2_with fail
          go_roundg (n - mo)
          case rel => exact ⟨mo + 1, by omega, HS6, HD, HF6⟩
          case measure => omega
        · have H5 := below_asfr H2 hF hgw hhi
          clear hS5 hF
          go_wp2_with fail
          exact bodyPost_ret (v := .tuple #[.slice none 0 0, .int .i64 0, .int .i64 5]) (by simp [results, Tryz.results7, go_sem]) rfl ⟨5, 0, [], none, 0, rfl, World.ownsRow_nil _ _ _ _, H5, Hfin.out _ _ _ (.inr (.inr rfl))⟩
      · have hle1 : ¬ (mo : Int) ≤ (n : Int) := by omega
        have H5 := below_asfr H2 HF.out hgw hhi
        have hD : ∀ m', m' ≤ n → ∀ Q', ¬ Dis (rs.map RowG.xs) N (zs.map ChG.x) tol m' Q' := fun m' hm' => HNO.out m' (by omega)
        have HD := Lib.hid hD; clear hD
        clear hS
        go_wp2_with fail
        exact bodyPost_ret (v := .tuple #[.slice none 0 0, .int .i64 0, .int .i64 3]) (by simp [results, Tryz.results7, go_sem]) rfl ⟨3, 0, [], none, 0, rfl, World.ownsRow_nil _ _ _ _, H5, Hfin.out _ _ _ (.inr (.inl ⟨rfl, HD.out⟩))⟩
  · have fin : FewOk (rs.map RowG.xs) m (zs.map ChG.x) tol b (codeK (rs.map RowG.xs) m (zs.map ChG.x) tol b) 0 [] := .inl ⟨hk0, rfl, rfl⟩
    obtain ⟨K, hKe⟩ : ∃ K, codeK (rs.map RowG.xs) m (zs.map ChG.x) tol b = K := ⟨_, rfl⟩
    rw [hKe] at hK fin hk0
    have hkk : (K == 0) = false := by simpa using hk0
    have HK := Lib.hid hK; clear hK
    have Hfin := Lib.hid fin; clear fin
    clear hKe h0 h hlx
    go_enter Tryz.func7, Tryz.ntmps7
    go_wp2_with fail
    refine HK.out.mono ?_
    rintro e w1 ⟨rfl, hb1'⟩
    go_wp2_with fail
    exact bodyPost_ret (v := .tuple #[.slice none 0 0, .int .i64 0, .int .i64 K]) (by simp [results, Tryz.results7, go_sem]) rfl ⟨K, 0, [], none, 0, rfl, World.ownsRow_nil _ _ _ _, hb1', Hfin.out⟩
end Go.Proofs.YtgibbhipjpbdfaaGreat
