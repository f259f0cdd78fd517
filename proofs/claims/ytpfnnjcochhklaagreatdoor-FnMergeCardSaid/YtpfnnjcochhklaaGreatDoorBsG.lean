/- BsG: several of my texts in one. -/
import Derived.WalkKit
import Derived.WalkSpells
import Derived.WalkLawsBesides
import Derived.Deep.RegionHeld3
import Derived.Deep.AppendLies
import Derived.Lib.Hide
import Derived.Deep.QuietTactic
import Derived.BigQuiet
import Derived.Test.YtpfnnjcochhklaaGreatDoorChecked
import Derived.Lib.Bytealg

/- Words for memory and small lemmas that all walks of this seat use. No program is named here. -/
namespace Go.Proofs.YtpfnnjcochhklaaGreatDoor
open Go.RowKit

theorem ret_eq {a b : Value} (h : a = b) : Ending.returned a = .returned b := by rw [h]
theorem bool_eq {a b : Bool} (h : a = b) : Value.bool a = .bool b := by rw [h]
theorem int_eq {k : IntKind} {a b : Int} (h : a = b) : Value.int k a = .int k b := by rw [h]
theorem ba_beq (s t : ByteArray) : (s.toList == t.toList) = decide (s = t) := by
  have e : ∀ u : ByteArray, u.toList = u.data.toList := ByteArray.toList_eq
  rw [Bool.eq_iff_iff]
  simp only [beq_iff_eq, decide_eq_true_eq]
  refine ⟨fun h => ?_, fun h => by rw [h]⟩
  rw [e, e] at h
  cases s; cases t; simp_all [Array.toList_inj]

/-- Behind a call: all old blocks are as they were. -/
theorem keepC {w w' : World} (h : Below w.heap.size w w') (b : Nat) (hb : b < w.heap.size) : ∀ i, w'.cell? ⟨b, i, none⟩ = w.cell? ⟨b, i, none⟩ := fun i => h.cell (p := ⟨b, i, none⟩) hb
theorem keepF {w w' : World} (h : Below w.heap.size w w') (b : Nat) (hb : b < w.heap.size) : ∀ i, w'.frozen? ⟨b, i, none⟩ = w.frozen? ⟨b, i, none⟩ := fun i => h.frozen (p := ⟨b, i, none⟩) hb

theorem below_drewN {B : Nat} {a w : World} (h : Below B a w) : ∀ k, Below B a (w.drewN k) := fun _ => ⟨h.os, h.tape, h.output, h.size, h.block⟩
theorem le_alloc {B : Nat} {w : World} (h : B ≤ w.heap.size) (o : Obj) : B ≤ (w.alloc o).heap.size := by simp; omega
theorem le_set {B : Nat} {w : World} (h : B ≤ w.heap.size) (p : Addr) (u : Value) : B ≤ (w.setCell p u).heap.size := by simpa using h
theorem le_drew {B : Nat} {w : World} (h : B ≤ w.heap.size) : B ≤ w.drew.heap.size := h
theorem le_drewN {B : Nat} {w : World} (h : B ≤ w.heap.size) (n : Nat) : B ≤ (w.drewN n).heap.size := h
/-- 'The slice .slice A n _ reads, cell by cell, as xs', all of it in blocks below B. -/
def Sl (w : World) (B sz : Nat) (A : Option Addr) (n : Nat) (xs : List Value) : Prop :=
  xs.length = n * sz ∧ (0 < n → ∃ b off, A = some ⟨b, off, none⟩ ∧ b < B ∧ ∀ j u, xs[j]? = some u → w.cell? ⟨b, off + j, none⟩ = some u)

section
variable {w w' : World} {B B' sz n : Nat} {A : Option Addr} {xs : List Value}
theorem Sl.keep (h : Sl w B sz A n xs) (hk : ∀ b, b < B → w'.heap[b]? = w.heap[b]?) : Sl w' B sz A n xs :=
  ⟨h.1, fun hn => by
    obtain ⟨b, off, e, hb, hc⟩ := h.2 hn
    exact ⟨b, off, e, hb, fun j u hu => (World.cell?_of_block (w := w) (hk b hb)).trans (hc j u hu)⟩⟩
theorem Sl.more (h : Sl w B sz A n xs) (hB : B ≤ B') : Sl w B' sz A n xs :=
  ⟨h.1, fun hn => by obtain ⟨b, off, e, hb, hc⟩ := h.2 hn; exact ⟨b, off, e, by omega, hc⟩⟩
theorem Sl.below (h : Sl w B sz A n xs) (hb : Below B w w') : Sl w' B sz A n xs := h.keep fun b hb' => hb.block b hb'
/-- Behind a call (or whatever keeps all old blocks), read again from the new world. -/
theorem Sl.next (h : Sl w w.heap.size sz A n xs) (hb : Below w.heap.size w w') : Sl w' w'.heap.size sz A n xs := (h.below hb).more hb.size
theorem Sl.none_ : Sl w B sz A 0 [] := ⟨by simp, fun h => absurd h (by omega)⟩
theorem Sl.of_own {base : Nat} {e : TypeId} {c : Nat} (h : w.ownsRow base e sz (.slice A n c) n xs) : Sl w w.heap.size sz A n xs := by
  refine ⟨h.1, fun hn => ?_⟩
  obtain ⟨g, cap, hv, _, hlt⟩ := h.form hn
  have hA : A = some ⟨g, 0, none⟩ := by injection hv
  subst hA
  refine ⟨g, 0, rfl, hlt, fun j u hu => ?_⟩
  have := h.cells (g := g) rfl j u hu
  by_cases hj : j = 0
  · subst hj; simpa [Addr.add] using this
  · simpa [Addr.add, hj] using this
theorem own_slice {base : Nat} {e : TypeId} {v : Value} (h : w.ownsRow base e sz v n xs) : ∃ A c, v = .slice A n c := by
  rcases h.2 with ⟨rfl, rfl⟩ | ⟨g, cap, cur, rfl, _⟩
  · exact ⟨_, _, rfl⟩
  · exact ⟨_, _, rfl⟩
end

/-- A struct's cells, element after element: the k-th element's j-th cell. -/
theorem flat_at {α : Type} (enc : α → List Value) (sz : Nat) (hsz : ∀ x, (enc x).length = sz) : ∀ (xs : List α) (k j : Nat) (x : α), xs[k]? = some x → j < sz →
    (xs.flatMap enc)[k * sz + j]? = (enc x)[j]?
  | [], k, j, x, h, _ => by simp at h
  | y :: ys, 0, j, x, h, hj => by
    simp only [List.getElem?_cons_zero, Option.some.injEq] at h; subst h
    rw [List.flatMap_cons, Nat.zero_mul, Nat.zero_add, List.getElem?_append_left (by rw [hsz]; exact hj)]
  | y :: ys, k + 1, j, x, h, hj => by
    rw [List.getElem?_cons_succ] at h
    rw [List.flatMap_cons, List.getElem?_append_right (by rw [hsz, Nat.add_mul]; omega), hsz, show (k + 1) * sz + j - sz = k * sz + j by rw [Nat.add_mul]; omega]
    exact flat_at enc sz hsz ys k j x h hj
theorem flat_len {α : Type} (enc : α → List Value) (sz : Nat) (hsz : ∀ x, (enc x).length = sz) (xs : List α) : (xs.flatMap enc).length = xs.length * sz := by
  induction xs with
  | nil => simp
  | cons y ys ih => rw [List.flatMap_cons, List.length_append, ih, hsz, List.length_cons, Nat.add_mul]; omega

/-- Element k of a slice of structs: where it lies and what its cells hold. -/
theorem Sl.get {α : Type} {w : World} {B n : Nat} {A : Option Addr} {xs : List α} (enc : α → List Value) (sz : Nat) (hsz : ∀ x, (enc x).length = sz) (hs : 0 < sz)
    (h : Sl w B sz A n (xs.flatMap enc)) (k : Nat) (hk : k < n) :
    ∃ b off x, A = some ⟨b, off, none⟩ ∧ b < B ∧ xs[k]? = some x ∧ ∀ j u, (enc x)[j]? = some u → w.cell? ⟨b, off + k * sz + j, none⟩ = some u := by
  obtain ⟨hl, hc⟩ := h
  obtain ⟨b, off, e, hb, hc⟩ := hc (by omega)
  rw [flat_len enc sz hsz] at hl
  have hn : xs.length = n := Nat.eq_of_mul_eq_mul_right hs hl
  have hx : xs[k]? = some (xs[k]'(by omega)) := List.getElem?_eq_getElem (by omega)
  refine ⟨b, off, _, e, hb, hx, fun j u hu => ?_⟩
  have hj : j < sz := by
    have := (List.getElem?_eq_some_iff.1 hu).1
    rw [hsz] at this; exact this
  rw [Nat.add_assoc]
  exact hc _ _ (by rw [flat_at enc sz hsz xs k j _ hx hj]; exact hu)
theorem Sl.len {α : Type} {w : World} {B n : Nat} {A : Option Addr} {xs : List α} (enc : α → List Value) (sz : Nat) (hsz : ∀ x, (enc x).length = sz) (hs : 0 < sz)
    (h : Sl w B sz A n (xs.flatMap enc)) : xs.length = n := by
  have hl := h.1
  rw [flat_len enc sz hsz] at hl
  exact Nat.eq_of_mul_eq_mul_right hs hl
/-- A row of the call's own, behind a call that keeps all old blocks. -/
theorem own_next {w w' : World} {base : Nat} {e : TypeId} {sz n : Nat} {v : Value} {xs : List Value} (h : w.ownsRow base e sz v n xs) (hb : Below w.heap.size w w') : w'.ownsRow base e sz v n xs :=
  h.kept (row := none) ⟨hb.os, hb.tape, hb.output, hb.size, fun k hk _ => hb.block k hk⟩ (by cases v.ownBlock <;> simp)
theorem own_cell {w : World} {base : Nat} {e : TypeId} {sz n cap g : Nat} {xs : List Value} (h : w.ownsRow base e sz (.slice (some ⟨g, 0, none⟩) n cap) n xs) (j : Nat) (hj : j < n * sz) :
    ∃ u, w.cell? ⟨g, j, none⟩ = some u := by
  refine ⟨xs[j]'(by rw [h.1]; exact hj), ?_⟩
  rw [h.cellAt j hj]
  exact List.getElem?_eq_getElem _
/-- Cells laid one behind the other, from place p on. -/
def setAll : List Value → Nat → List Value → List Value
  | ys, _, [] => ys
  | ys, p, u :: us => setAll (ys.set p u) (p + 1) us
theorem setAll_at : ∀ (us ys : List Value) (p j : Nat), (setAll ys p us)[j]? = if p ≤ j ∧ j < p + us.length ∧ j < ys.length then us[j - p]? else ys[j]?
  | [], ys, p, j => by unfold setAll; rw [if_neg (by simp; omega)]
  | u :: us, ys, p, j => by
    unfold setAll
    rw [setAll_at us]
    simp only [List.length_set, List.length_cons, List.getElem?_set]
    by_cases h1 : p + 1 ≤ j ∧ j < p + 1 + us.length ∧ j < ys.length
    · rw [if_pos h1, if_pos (by omega), show j - p = (j - (p + 1)) + 1 by omega]
      simp
    · rw [if_neg h1]
      by_cases h2 : p = j
      · subst h2
        by_cases h3 : p < ys.length
        · rw [if_pos rfl, if_pos h3, if_pos (by omega)]; simp
        · rw [if_pos rfl, if_neg h3, if_neg (by omega), List.getElem?_eq_none (by omega)]
      · rw [if_neg h2, if_neg (by omega)]
/-- Row of the call's own: its value is known where it is not empty. -/
theorem own_form {w : World} {base : Nat} {e : TypeId} {sz n c : Nat} {A : Option Addr} {xs : List Value} (h : w.ownsRow base e sz (.slice A n c) n xs) (hn : 0 < n) :
    ∃ g, A = some ⟨g, 0, none⟩ ∧ base ≤ g ∧ g < w.heap.size := by
  rcases h.2 with ⟨_, h0⟩ | ⟨g, cap, cur, hv, hb, hg, _⟩
  · omega
  · injection hv with hA _ hc
    exact ⟨g, hA, hb, (Array.getElem?_eq_some_iff.1 hg).1⟩
theorem grown_of_below {w w' : World} {row : Option Nat} (hb : Below w.heap.size w w') : w.grownBy w' row := ⟨hb.os, hb.tape, hb.output, hb.size, fun k hk _ => hb.block k hk⟩
theorem grown_trans {a b c : World} {row : Option Nat} (h : a.grownBy b row) (k : b.grownBy c row) : a.grownBy c row :=
  ⟨k.os.trans h.os, k.tape.trans h.tape, k.output.trans h.output, Nat.le_trans h.size k.size, fun i hi hne => (k.block i (Nat.lt_of_lt_of_le hi h.size) hne).trans (h.block i hi hne)⟩
theorem grown_refl (w : World) (row : Option Nat) : w.grownBy w row := ⟨rfl, rfl, rfl, Nat.le_refl _, fun _ _ _ => rfl⟩
/-- What is written is one row: what lies below it reads as before. -/
theorem Sl.grown {w w' : World} {B sz n : Nat} {A : Option Addr} {xs : List Value} {row : Option Nat} (h : Sl w B sz A n xs) (hg : w.grownBy w' row) (hB : B ≤ w.heap.size) (hr : ∀ g, row = some g → B ≤ g) : Sl w' B sz A n xs :=
  h.keep fun b hb => hg.block b (by omega) (fun e => by have := hr b e.symm; omega)
theorem own_grown {w w' : World} {base : Nat} {e : TypeId} {sz n : Nat} {v : Value} {xs : List Value} {row : Option Nat} (h : w.ownsRow base e sz v n xs) (hg : w.grownBy w' row) (hne : v.ownBlock = none ∨ v.ownBlock ≠ row) : w'.ownsRow base e sz v n xs := h.kept hg hne
def strC (s : ByteArray) : List Value := [.string s]
theorem strC_len (s : ByteArray) : (strC s).length = 1 := rfl
def intC (n : Int) : List Value := [.int .i64 n]
theorem intC_len (n : Int) : (intC n).length = 1 := rfl
theorem Sl.str {w : World} {B n : Nat} {A : Option Addr} {xs : List ByteArray} (h : Sl w B 1 A n (xs.flatMap strC)) (k : Nat) (hk : k < n) :
    ∃ b off s, A = some ⟨b, off, none⟩ ∧ b < B ∧ xs[k]? = some s ∧ w.cell? ⟨b, off + k, none⟩ = some (.string s) := by
  obtain ⟨b, off, s, hA, hb, hx, hc⟩ := h.get strC 1 strC_len (by omega) k hk
  have := hc 0 _ rfl
  rw [Nat.mul_one, Nat.add_zero] at this
  exact ⟨b, off, s, hA, hb, hx, this⟩
theorem Sl.int {w : World} {B n : Nat} {A : Option Addr} {xs : List Int} (h : Sl w B 1 A n (xs.flatMap intC)) (k : Nat) (hk : k < n) :
    ∃ b off x, A = some ⟨b, off, none⟩ ∧ b < B ∧ xs[k]? = some x ∧ w.cell? ⟨b, off + k, none⟩ = some (.int .i64 x) := by
  obtain ⟨b, off, s, hA, hb, hx, hc⟩ := h.get intC 1 intC_len (by omega) k hk
  have := hc 0 _ rfl
  rw [Nat.mul_one, Nat.add_zero] at this
  exact ⟨b, off, s, hA, hb, hx, this⟩
/-- 'All places below n are good.' -/
def allB (n : Nat) (p : Nat → Bool) : Bool := (List.range n).all p
theorem allB_iff {n : Nat} {p : Nat → Bool} : allB n p = true ↔ ∀ i, i < n → p i = true := by simp [allB]
theorem allB_no {n k : Nat} {p : Nat → Bool} (hk : k < n) (h : p k = false) : allB n p = false := by
  rw [Bool.eq_false_iff]; intro e; rw [allB_iff.1 e k hk] at h; cases h
theorem allB_end {n k : Nat} {p : Nat → Bool} (h : ∀ i, i < k → p i = true) (hk : ¬ k < n) : allB n p = true := allB_iff.2 fun i hi => h i (by omega)
theorem all_next {k : Nat} {p : Nat → Bool} (h : ∀ i, i < k → p i = true) (hk : p k = true) : ∀ i, i < k + 1 → p i = true := fun i hi => by
  rcases Nat.lt_or_ge i k with h1 | h1
  · exact h i h1
  · obtain rfl : i = k := by omega
    exact hk
theorem flat_take {α : Type} (enc : α → List Value) (sz : Nat) (hsz : ∀ x, (enc x).length = sz) (k : Nat) (xs : List α) : (xs.flatMap enc).take (k * sz) = (xs.take k).flatMap enc := by
  induction xs generalizing k with
  | nil => simp
  | cons y ys ih =>
    cases k with
    | zero => simp
    | succ k =>
      rw [List.flatMap_cons, List.take_succ_cons, List.flatMap_cons, List.take_append, hsz, List.take_of_length_le (by rw [hsz, Nat.add_mul]; omega), show (k + 1) * sz - sz = k * sz by rw [Nat.add_mul]; omega, ih]
/-- A slice's beginning. -/
theorem Sl.pre {α : Type} {w : World} {B n : Nat} {A : Option Addr} {xs : List α} (enc : α → List Value) (sz : Nat) (hsz : ∀ x, (enc x).length = sz)
    (h : Sl w B sz A n (xs.flatMap enc)) (k : Nat) (hk : k ≤ n) : Sl w B sz A k ((xs.take k).flatMap enc) := by
  rw [← flat_take enc sz hsz]
  refine ⟨?_, fun hn => ?_⟩
  · rw [List.length_take, h.1]; exact Nat.min_eq_left (Nat.mul_le_mul_right _ hk)
  · obtain ⟨b, off, e, hb, hc⟩ := h.2 (by omega)
    refine ⟨b, off, e, hb, fun j u hu => hc j u ?_⟩
    rw [List.getElem?_take] at hu
    split at hu
    · exact hu
    · cases hu
theorem mem_take_next {α : Type} {xs : List α} {k : Nat} {a : α} (h : xs[k]? = some a) (x : α) : x ∈ xs.take (k + 1) ↔ x ∈ xs.take k ∨ x = a := by
  rw [List.take_add_one, h]; simp
/-- Rows of different element types are different blocks. -/
theorem own_ne {w : World} {base base' : Nat} {e e' : TypeId} {sz sz' n n' : Nat} {v v' : Value} {xs xs' : List Value} (h : w.ownsRow base e sz v n xs) (h' : w.ownsRow base' e' sz' v' n' xs') (hne : e ≠ e') : v.ownBlock = none ∨ v.ownBlock ≠ v'.ownBlock := by
  rcases h.2 with ⟨rfl, _⟩ | ⟨g, cap, cur, rfl, _, hg, _⟩
  · exact .inl rfl
  · right
    rcases h'.2 with ⟨rfl, _⟩ | ⟨g', cap', cur', rfl, _, hg', _⟩
    · simp [Value.ownBlock]
    · intro e0
      have e1 : g = g' := by simpa [Value.ownBlock] using e0
      subst e1
      rw [hg] at hg'
      injection hg' with hg'
      injection hg' with _ ht
      exact hne ht
theorem own_int {w : World} {base : Nat} {e : TypeId} {n c g : Nat} {xs : List Int} (h : w.ownsRow base e 1 (.slice (some ⟨g, 0, none⟩) n c) n (xs.flatMap intC)) (k : Nat) (hk : k < n) :
    ∃ x, xs[k]? = some x ∧ w.cell? ⟨g, k, none⟩ = some (.int .i64 x) := by
  obtain ⟨b, off, x, e0, _, hx, hc⟩ := (Sl.of_own h).int k hk
  injection e0 with e0
  injection e0 with e1 e2 _
  subst e1 e2
  rw [Nat.zero_add] at hc
  exact ⟨x, hx, hc⟩
theorem own_base {w : World} {base base' : Nat} {e : TypeId} {sz n : Nat} {v : Value} {xs : List Value} (h : w.ownsRow base e sz v n xs) (hb : base' ≤ base) : w.ownsRow base' e sz v n xs := by
  obtain ⟨h1, h2⟩ := h
  refine ⟨h1, ?_⟩
  rcases h2 with h2 | ⟨g, cap, cur, hv, hg, r⟩
  · exact .inl h2
  · exact .inr ⟨g, cap, cur, hv, by omega, r⟩
theorem quiet_c {P : Program} {f : FuncId} {args : Array Value} {w : World} {n : Nat} {v : Value}
    (h : Calls P f args (w.drewN n) fun e w' => e = .returned v ∧ w.drewN n = w') : Calls P f args (w.drewN n) fun e w'' => e = .returned v ∧ ∃ m, w'' = w.drewN m :=
  h.mono fun _ _ ⟨he, hm⟩ => ⟨he, n, hm.symm⟩
/-- What is written is one row, and this slice lies in another block. -/
theorem Sl.apart {w w' : World} {B sz n : Nat} {A : Option Addr} {xs : List Value} {row : Option Nat} (h : Sl w B sz A n xs) (hg : w.grownBy w' row) (hB : B ≤ w.heap.size) (hr : ∀ b off, A = some ⟨b, off, none⟩ → row ≠ some b) : Sl w' B sz A n xs :=
  ⟨h.1, fun hn => by
    obtain ⟨b, off, e, hb, hc⟩ := h.2 hn
    exact ⟨b, off, e, hb, fun j u hu => (World.cell?_of_block (w := w) (hg.block b (by omega) (fun e0 => hr b off e e0.symm))).trans (hc j u hu)⟩⟩
end Go.Proofs.YtpfnnjcochhklaaGreatDoor

/- Small functions that only compute. -/
namespace Go.Proofs.YtpfnnjcochhklaaGreatDoor
open Go.RowKit
def inB (n lo hi : Int) : Bool := decide (lo ≤ n) && decide (n ≤ hi)
theorem inB_iff {n lo hi : Int} : inB n lo hi = true ↔ lo ≤ n ∧ n ≤ hi := by simp [inB]
theorem inB_no {n lo hi : Int} : inB n lo hi = false ↔ ¬(lo ≤ n ∧ n ≤ hi) := by rw [← inB_iff]; simp
set_option maxHeartbeats 400000 in
theorem l00In_c (n lo hi : Int) (w : World) : Calls Tryz.prog 82 #[.int .i64 n, .int .i64 lo, .int .i64 hi] w fun e w' => e = .returned (.bool (inB n lo hi)) ∧ w = w' := by
  go_enter Tryz.func82, Tryz.ntmps82
  go_wp2
  all_goals
    go_ret
    exact ⟨ret_eq (bool_eq (by simp_all [inB] <;> omega)), rfl⟩
set_option maxHeartbeats 400000 in
theorem within_c (n lo hi : Int) (w : World) : Calls Tryz.prog 124 #[.int .i64 n, .int .i64 lo, .int .i64 hi] w fun e w' => e = .returned (.bool (inB n lo hi)) ∧ w = w' := by
  go_enter Tryz.func124, Tryz.ntmps124
  go_wp2
  all_goals
    go_ret
    exact ⟨ret_eq (bool_eq (by simp_all [inB] <;> omega)), rfl⟩
set_option maxHeartbeats 400000 in
theorem few_c (n m : Int) (w : World) : Calls Tryz.prog 30 #[.int .i64 n, .int .i64 m] w fun e w' => e = .returned (.bool (decide (n ≤ m))) ∧ w = w' := by
  go_enter Tryz.func30, Tryz.ntmps30
  go_wp2
  go_ret
  exact ⟨rfl, rfl⟩
set_option maxHeartbeats 400000 in
theorem l01Small_c (n : Int) (w : World) : Calls Tryz.prog 113 #[.int .u8 n] w fun e w' => e = .returned (.bool (inB n 97 122)) ∧ w = w' := by
  go_enter Tryz.func113, Tryz.ntmps113
  go_wp2
  all_goals
    go_ret
    exact ⟨ret_eq (bool_eq (by simp_all [inB] <;> omega)), rfl⟩
set_option maxHeartbeats 400000 in
theorem l01Digit_c (n : Int) (w : World) : Calls Tryz.prog 114 #[.int .u8 n] w fun e w' => e = .returned (.bool (inB n 48 57)) ∧ w = w' := by
  go_enter Tryz.func114, Tryz.ntmps114
  go_wp2
  all_goals
    go_ret
    exact ⟨ret_eq (bool_eq (by simp_all [inB] <;> omega)), rfl⟩
set_option maxHeartbeats 400000 in
theorem isDigit_c (n : Int) (w : World) : Calls Tryz.prog 125 #[.int .u8 n] w fun e w' => e = .returned (.bool (inB n 48 57)) ∧ w = w' := by
  go_enter Tryz.func125, Tryz.ntmps125
  go_wp2
  all_goals
    go_ret
    exact ⟨ret_eq (bool_eq (by simp_all [inB] <;> omega)), rfl⟩
end Go.Proofs.YtpfnnjcochhklaaGreatDoor

/- Names: both sides. -/
namespace Go.Proofs.YtpfnnjcochhklaaGreatDoor
open Go.RowKit
/-- The byte at place k, 0 behind the end. -/
def bt (s : ByteArray) (k : Nat) : Int := ((s.data.toList[k]?.getD 0).toNat : Int)
theorem bt_eq (s : ByteArray) (k : Nat) (h : k < s.size) : bt s k = (s[k].toNat : Int) := by
  unfold bt
  rw [List.getElem?_eq_getElem (by simpa using h)]
  rfl
theorem toList_nil (s : ByteArray) : s.toList = [] ↔ s.size = 0 := by
  rw [ByteArray.toList_eq]
  cases s; simp [ByteArray.size]
theorem size_zero {s : ByteArray} (h : s.size = 0) : s = ByteArray.empty := by
  cases s with | mk d => cases d with | mk l => cases l with
    | nil => rfl
    | cons a l => simp [ByteArray.size] at h
theorem size_pos {s : ByteArray} (h : 0 < s.size) : s ≠ ByteArray.empty := fun e => by subst e; simp at h
theorem isE_no {s : ByteArray} (h : 0 < s.size) : s.toList.isEmpty = false := by
  rw [List.isEmpty_eq_false_iff]; exact fun e => by have := (toList_nil s).1 e; omega
theorem notNil {s : ByteArray} (h : 0 < s.size) : ¬ s.toList = [] := fun e => by have := (toList_nil s).1 e; omega
def okAt (s : ByteArray) (k : Nat) : Prop := (97 ≤ bt s k ∧ bt s k ≤ 122) ∨ (0 < k ∧ 48 ≤ bt s k ∧ bt s k ≤ 57)
instance (s : ByteArray) (k : Nat) : Decidable (okAt s k) := by unfold okAt; infer_instance
def nameB (s : ByteArray) : Bool := decide (1 ≤ s.size ∧ s.size ≤ 10 ∧ ∀ k, k < s.size → okAt s k)
theorem nameB_iff {s : ByteArray} : nameB s = true ↔ 1 ≤ s.size ∧ s.size ≤ 10 ∧ ∀ k, k < s.size → okAt s k := by simp [nameB]
theorem nameB_no {s : ByteArray} {k : Nat} (hk : k < s.size) (h : ¬ okAt s k) : nameB s = false := by
  rw [Bool.eq_false_iff]
  intro hn
  exact h ((nameB_iff.1 hn).2.2 k hk)
theorem nameB_end {s : ByteArray} {k : Nat} (h : ∀ i, i < k → okAt s i) (hk : ¬ k < s.size) : nameB s = decide (1 ≤ s.size ∧ s.size ≤ 10) := by
  rw [Bool.eq_iff_iff, nameB_iff]
  simp only [decide_eq_true_eq]
  exact ⟨fun ⟨a, b, _⟩ => ⟨a, b⟩, fun ⟨a, b⟩ => ⟨a, b, fun i hi => h i (by omega)⟩⟩
theorem ok_next {s : ByteArray} {k : Nat} (h : ∀ i, i < k → okAt s i) (hk : okAt s k) : ∀ i, i < k + 1 → okAt s i := fun i hi => by
  rcases Nat.lt_or_ge i k with h1 | h1
  · exact h i h1
  · obtain rfl : i = k := by omega
    exact hk
set_option maxRecDepth 100000 in
set_option maxHeartbeats 1000000 in
theorem isName_c (s : ByteArray) (w : World) (hs : s.size ≤ maxLen) : Calls Tryz.prog 106 #[.string s] w fun e w' => e = .returned (.bool (nameB s)) ∧ w = w' := by
  unfold maxLen at hs
  go_enter Tryz.func106, Tryz.ntmps106
  go_wp2
  go_loop [3] (fun i => ∃ k : Nat, k ≤ s.size ∧ i = .int .i64 k ∧ ∀ j, j < k → okAt s j) (fun i => s.size - (intOf i).toNat)
  case atStart => exact ⟨0, Nat.zero_le _, rfl, fun j hj => absurd hj (by omega)⟩
  case round =>
    obtain ⟨k, hk, rfl, hok⟩ := hrel
    have Hok := Lib.hid hok; clear hok
    by_cases hlt : k < s.size
    · have hb := bt_eq s k hlt
      have Hb := Lib.hid hb; clear hb
      have hkk : k = 0 ∨ 0 < k := by omega
      go_wp2_with (first | (go_at_call 125; refine (isDigit_c _ _).mono ?_; rintro e w1 ⟨rfl, rfl⟩))
      all_goals
        have hb := Hb.out
        first
        | (go_ret
           refine ⟨ret_eq (bool_eq (nameB_no hlt ?_).symm), rfl⟩
           simp_all [okAt, inB] <;> omega)
        | (go_round
           case rel => exact ⟨k + 1, by omega, by first | go_num | simp_all, ok_next Hok.out (by simp_all [okAt, inB] <;> omega)⟩
           case measure => simp_all [intOf] <;> omega)
    · have hend := nameB_end Hok.out hlt
      have hnil := toList_nil s
      have Hend := Lib.hid hend; clear hend
      have Hnil := Lib.hid hnil; clear hnil
      go_wp2_with (first | (go_at_call 30; refine (few_c _ _ _).mono ?_; rintro e w1 ⟨rfl, rfl⟩))
      all_goals
        go_ret
        rw [Hend.out]
        have hnil := Hnil.out
        refine ⟨ret_eq (bool_eq ?_), rfl⟩
        rw [Bool.eq_iff_iff]
        rcases Nat.eq_zero_or_pos s.size with h0 | h0
        · have he := size_zero h0
          simp_all
        · have he := fun h => size_pos h0 h
          simp_all
          try omega
set_option maxRecDepth 100000 in
set_option maxHeartbeats 1000000 in
theorem l01Name_c (s : ByteArray) (w : World) (hs : s.size ≤ maxLen) : Calls Tryz.prog 83 #[.string s] w fun e w' => e = .returned (.bool (nameB s)) ∧ w = w' := by
  unfold maxLen at hs
  rcases Nat.eq_zero_or_pos s.size with h0 | h0
  · obtain rfl := size_zero h0
    go_enter Tryz.func83, Tryz.ntmps83
    go_wp2
    go_ret
    exact ⟨ret_eq (bool_eq (by simp [nameB])), rfl⟩
  · have he := isE_no h0
    have he2 := notNil h0
    by_cases h10 : s.size ≤ 10
    · have hb0 := bt_eq s 0 h0
      have h01 : (0 : Int) < (s.size : Int) := by omega
      have h101 : ¬ (10 < (s.size : Int)) := by omega
      have Hb0 := Lib.hid hb0; clear hb0
      by_cases hsm : inB (s[0].toNat : Int) 97 122 = true
      · go_enter Tryz.func83, Tryz.ntmps83
        go_wp2_with (first | (go_at_call 113; refine (l01Small_c _ _).mono ?_; rintro e w1 ⟨rfl, rfl⟩))
        clear Hb0
        go_loop [3] (fun i => ∃ k : Nat, k ≤ s.size ∧ i = .int .i64 k ∧ ∀ j, j < k → okAt s j) (fun i => s.size - (intOf i).toNat)
        case atStart => exact ⟨0, Nat.zero_le _, rfl, fun j hj => absurd hj (by omega)⟩
        case round =>
          obtain ⟨k, hk, rfl, hok⟩ := hrel
          have Hok := Lib.hid hok; clear hok
          by_cases hlt : k < s.size
          · have hb := bt_eq s k hlt
            have hs0 : k = 0 → inB (s[k].toNat : Int) 97 122 = true := fun e => by subst e; exact hsm
            have Hb := Lib.hid hb; clear hb
            have Hs0 := Lib.hid hs0; clear hs0
            clear hsm
            cases hsm2 : inB (s[k].toNat : Int) 97 122 <;> cases hdg : inB (s[k].toNat : Int) 48 57
            all_goals
              go_wp2_with (first | (go_at_call 113; refine (l01Small_c _ _).mono ?_; rintro e w1 ⟨rfl, rfl⟩) | (go_at_call 114; refine (l01Digit_c _ _).mono ?_; rintro e w1 ⟨rfl, rfl⟩))
              have hb := Hb.out
              have hs0 := Hs0.out
              have hkk : k = 0 ∨ 0 < k := by omega
              first
              | (go_ret
                 refine ⟨ret_eq (bool_eq (nameB_no hlt ?_).symm), rfl⟩
                 rw [hsm2] at hs0
                 simp only [okAt, hb]
                 simp only [inB, Bool.and_eq_false_iff, decide_eq_false_iff_not] at hsm2 hdg
                 omega)
              | (go_round
                 case rel =>
                   refine ⟨k + 1, by omega, by go_num, ok_next Hok.out ?_⟩
                   rw [hsm2] at hs0
                   simp only [okAt, hb]
                   simp only [inB, Bool.and_eq_true, Bool.and_eq_false_iff, decide_eq_true_eq, decide_eq_false_iff_not] at hsm2 hdg
                   simp only [reduceCtorEq, imp_false] at hs0
                   omega
                 case measure => simp [intOf]; omega)
          · have hend := nameB_end Hok.out hlt
            have Hend := Lib.hid hend; clear hend
            go_wp2
            go_ret
            rw [Hend.out]
            exact ⟨ret_eq (bool_eq (by simp; omega)), rfl⟩
      · simp only [Bool.not_eq_true] at hsm
        go_enter Tryz.func83, Tryz.ntmps83
        go_wp2_with (first | (go_at_call 113; refine (l01Small_c _ _).mono ?_; rintro e w1 ⟨rfl, rfl⟩))
        go_ret
        refine ⟨ret_eq (bool_eq (nameB_no h0 ?_).symm), rfl⟩
        have hb0 := Hb0.out
        simp_all [okAt, inB]
        try omega
    · have h101 : 10 < (s.size : Int) := by omega
      go_enter Tryz.func83, Tryz.ntmps83
      go_wp2
      go_ret
      exact ⟨ret_eq (bool_eq (by simp [nameB]; omega)), rfl⟩
end Go.Proofs.YtpfnnjcochhklaaGreatDoor

/- strings.IndexByte. -/
namespace Go.Proofs.YtpfnnjcochhklaaGreatDoor
open Go.RowKit
set_option maxRecDepth 100000 in
set_option maxHeartbeats 400000 in
theorem sliteIndex_c (s : ByteArray) (c : Int) (w : World) : Calls Tryz.prog 170 #[.string s, .int .u8 c] w fun e w' => e = .returned (.int .i64 (Lib.indexByte s.data.toList c.toNat.toUInt8)) ∧ w = w' := by
  go_enter Tryz.func170, Tryz.ntmps170
  go_wp2
  rw [run_callFunc_extern (f := 174) (P := Tryz.prog) (fn := Tryz.f174) (by kernel_rfl) (by kernel_rfl) (by kernel_rfl) (by kernel_rfl) (e := Extern.BytealgIndexByte.indexByte) (by kernel_rfl), Lib.run_indexByteString]
  simp only [Result.andThen]
  rw [Oper.upon_value]
  go_wp2
  go_ret
  exact ⟨rfl, rfl⟩
set_option maxHeartbeats 400000 in
theorem indexByte_c (s : ByteArray) (c : Int) (w : World) : Calls Tryz.prog 157 #[.string s, .int .u8 c] w fun e w' => e = .returned (.int .i64 (Lib.indexByte s.data.toList c.toNat.toUInt8)) ∧ w = w' := by
  go_enter Tryz.func157, Tryz.ntmps157
  go_wp2_with (go_at_call 170; refine (sliteIndex_c _ _ _).mono ?_; rintro e w1 ⟨rfl, rfl⟩)
  go_ret
  exact ⟨rfl, rfl⟩
end Go.Proofs.YtpfnnjcochhklaaGreatDoor
