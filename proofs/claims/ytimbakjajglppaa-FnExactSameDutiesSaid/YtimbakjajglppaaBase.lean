/- Words for memory and small lemmas that all walks of this seat use. No program is named here. -/
import Derived.WalkKit
import Derived.WalkSpells
import Derived.WalkLawsBesides
import Derived.Deep.RegionHeld3
import Derived.Deep.AppendLies
import Derived.Lib.Hide
namespace Go.Proofs.Ytimbakjajglppaa
open Go.RowKit

theorem ret_eq {a b : Value} (h : a = b) : Ending.returned a = .returned b := by rw [h]
theorem bool_eq {a b : Bool} (h : a = b) : Value.bool a = .bool b := by rw [h]
theorem int_eq {k : IntKind} {a b : Int} (h : a = b) : Value.int k a = .int k b := by rw [h]
theorem ba_beq (s t : ByteArray) : (s.toList == t.toList) = decide (s = t) := by
  have e : ∀ u : ByteArray, u.toList = u.data.toList := ByteArray.toList_eq
  rw [Bool.eq_iff_iff]
  simp only [beq_iff_eq, decide_eq_true_eq]
  refine ⟨fun h => ?_, fun h => by rw [h]⟩
  rw [e, e] at h
  cases s; cases t; simp_all [Array.toList_inj]

/-- Behind a call: all old blocks are as they were. -/
theorem keepC {w w' : World} (h : Below w.heap.size w w') (b : Nat) (hb : b < w.heap.size) : ∀ i, w'.cell? ⟨b, i, none⟩ = w.cell? ⟨b, i, none⟩ := fun i => h.cell (p := ⟨b, i, none⟩) hb
theorem keepF {w w' : World} (h : Below w.heap.size w w') (b : Nat) (hb : b < w.heap.size) : ∀ i, w'.frozen? ⟨b, i, none⟩ = w.frozen? ⟨b, i, none⟩ := fun i => h.frozen (p := ⟨b, i, none⟩) hb

theorem below_drewN {B : Nat} {a w : World} (h : Below B a w) : ∀ k, Below B a (w.drewN k) := fun _ => ⟨h.os, h.tape, h.output, h.size, h.block⟩
/-- 'The slice .slice A n _ reads, cell by cell, as xs', all of it in blocks below B. -/
def Sl (w : World) (B sz : Nat) (A : Option Addr) (n : Nat) (xs : List Value) : Prop :=
  xs.length = n * sz ∧ (0 < n → ∃ b off, A = some ⟨b, off, none⟩ ∧ b < B ∧ ∀ j u, xs[j]? = some u → w.cell? ⟨b, off + j, none⟩ = some u)

section
variable {w w' : World} {B B' sz n : Nat} {A : Option Addr} {xs : List Value}
theorem Sl.keep (h : Sl w B sz A n xs) (hk : ∀ b, b < B → w'.heap[b]? = w.heap[b]?) : Sl w' B sz A n xs :=
  ⟨h.1, fun hn => by
    obtain ⟨b, off, e, hb, hc⟩ := h.2 hn
    exact ⟨b, off, e, hb, fun j u hu => (World.cell?_of_block (w := w) (hk b hb)).trans (hc j u hu)⟩⟩
theorem Sl.more (h : Sl w B sz A n xs) (hB : B ≤ B') : Sl w B' sz A n xs :=
  ⟨h.1, fun hn => by obtain ⟨b, off, e, hb, hc⟩ := h.2 hn; exact ⟨b, off, e, by omega, hc⟩⟩
theorem Sl.below (h : Sl w B sz A n xs) (hb : Below B w w') : Sl w' B sz A n xs := h.keep fun b hb' => hb.block b hb'
/-- Behind a call (or whatever keeps all old blocks), read again from the new world. -/
theorem Sl.next (h : Sl w w.heap.size sz A n xs) (hb : Below w.heap.size w w') : Sl w' w'.heap.size sz A n xs := (h.below hb).more hb.size
theorem Sl.none_ : Sl w B sz A 0 [] := ⟨by simp, fun h => absurd h (by omega)⟩
theorem Sl.of_own {base : Nat} {e : TypeId} {c : Nat} (h : w.ownsRow base e sz (.slice A n c) n xs) : Sl w w.heap.size sz A n xs := by
  refine ⟨h.1, fun hn => ?_⟩
  obtain ⟨g, cap, hv, _, hlt⟩ := h.form hn
  have hA : A = some ⟨g, 0, none⟩ := by injection hv
  subst hA
  refine ⟨g, 0, rfl, hlt, fun j u hu => ?_⟩
  have := h.cells (g := g) rfl j u hu
  by_cases hj : j = 0
  · subst hj; simpa [Addr.add] using this
  · simpa [Addr.add, hj] using this
theorem own_slice {base : Nat} {e : TypeId} {v : Value} (h : w.ownsRow base e sz v n xs) : ∃ A c, v = .slice A n c := by
  rcases h.2 with ⟨rfl, rfl⟩ | ⟨g, cap, cur, rfl, _⟩
  · exact ⟨_, _, rfl⟩
  · exact ⟨_, _, rfl⟩
end

/-- A struct's cells, element after element: the k-th element's j-th cell. -/
theorem flat_at {α : Type} (enc : α → List Value) (sz : Nat) (hsz : ∀ x, (enc x).length = sz) : ∀ (xs : List α) (k j : Nat) (x : α), xs[k]? = some x → j < sz →
    (xs.flatMap enc)[k * sz + j]? = (enc x)[j]?
  | [], k, j, x, h, _ => by simp at h
  | y :: ys, 0, j, x, h, hj => by
    simp only [List.getElem?_cons_zero, Option.some.injEq] at h; subst h
    rw [List.flatMap_cons, Nat.zero_mul, Nat.zero_add, List.getElem?_append_left (by rw [hsz]; exact hj)]
  | y :: ys, k + 1, j, x, h, hj => by
    rw [List.getElem?_cons_succ] at h
    rw [List.flatMap_cons, List.getElem?_append_right (by rw [hsz, Nat.add_mul]; omega), hsz, show (k + 1) * sz + j - sz = k * sz + j by rw [Nat.add_mul]; omega]
    exact flat_at enc sz hsz ys k j x h hj
theorem flat_len {α : Type} (enc : α → List Value) (sz : Nat) (hsz : ∀ x, (enc x).length = sz) (xs : List α) : (xs.flatMap enc).length = xs.length * sz := by
  induction xs with
  | nil => simp
  | cons y ys ih => rw [List.flatMap_cons, List.length_append, ih, hsz, List.length_cons, Nat.add_mul]; omega

/-- Element k of a slice of structs: where it lies and what its cells hold. -/
theorem Sl.get {α : Type} {w : World} {B n : Nat} {A : Option Addr} {xs : List α} (enc : α → List Value) (sz : Nat) (hsz : ∀ x, (enc x).length = sz) (hs : 0 < sz)
    (h : Sl w B sz A n (xs.flatMap enc)) (k : Nat) (hk : k < n) :
    ∃ b off x, A = some ⟨b, off, none⟩ ∧ b < B ∧ xs[k]? = some x ∧ ∀ j u, (enc x)[j]? = some u → w.cell? ⟨b, off + k * sz + j, none⟩ = some u := by
  obtain ⟨hl, hc⟩ := h
  obtain ⟨b, off, e, hb, hc⟩ := hc (by omega)
  rw [flat_len enc sz hsz] at hl
  have hn : xs.length = n := Nat.eq_of_mul_eq_mul_right hs hl
  have hx : xs[k]? = some (xs[k]'(by omega)) := List.getElem?_eq_getElem (by omega)
  refine ⟨b, off, _, e, hb, hx, fun j u hu => ?_⟩
  have hj : j < sz := by
    have := (List.getElem?_eq_some_iff.1 hu).1
    rw [hsz] at this; exact this
  rw [Nat.add_assoc]
  exact hc _ _ (by rw [flat_at enc sz hsz xs k j _ hx hj]; exact hu)
theorem Sl.len {α : Type} {w : World} {B n : Nat} {A : Option Addr} {xs : List α} (enc : α → List Value) (sz : Nat) (hsz : ∀ x, (enc x).length = sz) (hs : 0 < sz)
    (h : Sl w B sz A n (xs.flatMap enc)) : xs.length = n := by
  have hl := h.1
  rw [flat_len enc sz hsz] at hl
  exact Nat.eq_of_mul_eq_mul_right hs hl
/-- A row of the call's own, behind a call that keeps all old blocks. -/
theorem own_next {w w' : World} {base : Nat} {e : TypeId} {sz n : Nat} {v : Value} {xs : List Value} (h : w.ownsRow base e sz v n xs) (hb : Below w.heap.size w w') : w'.ownsRow base e sz v n xs :=
  h.kept (row := none) ⟨hb.os, hb.tape, hb.output, hb.size, fun k hk _ => hb.block k hk⟩ (by cases v.ownBlock <;> simp)
theorem own_cell {w : World} {base : Nat} {e : TypeId} {sz n cap g : Nat} {xs : List Value} (h : w.ownsRow base e sz (.slice (some ⟨g, 0, none⟩) n cap) n xs) (j : Nat) (hj : j < n * sz) :
    ∃ u, w.cell? ⟨g, j, none⟩ = some u := by
  refine ⟨xs[j]'(by rw [h.1]; exact hj), ?_⟩
  rw [h.cellAt j hj]
  exact List.getElem?_eq_getElem _
end Go.Proofs.Ytimbakjajglppaa
