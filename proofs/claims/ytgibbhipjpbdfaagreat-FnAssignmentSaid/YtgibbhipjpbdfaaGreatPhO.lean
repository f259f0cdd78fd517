/- PhO: several of my texts in one. -/
import Derived.Test.YtgibbhipjpbdfaaGreatChLaw
import Derived.Test.YtgibbhipjpbdfaaGreatMark
import Derived.Test.YtgibbhipjpbdfaaGreatChPhS
import Derived.Test.YtgibbhipjpbdfaaGreatBase
import Derived.ProofKit
import Derived.OpenShut
import Derived.ShutString
import Derived.ChangeOld
import Derived.Deep.Slices
import Derived.Deep.Fields
import Derived.Lib.SmallJoins

/- The laws' eqCharacter, at equal values. -/
namespace Go.Proofs.YtgibbhipjpbdfaaGreat
open Go.RowKit
end Go.Proofs.YtgibbhipjpbdfaaGreat

/- The laws' own functions over []Phase, and marks on a Character. -/
namespace Go.Proofs.YtgibbhipjpbdfaaGreat
open Go.RowKit
abbrev Ph.val (p : Ph) : Value := .agg #[.string p.c, .int .i64 p.len]
theorem Sl.ph2 {w : World} {B n : Nat} {A : Option Addr} {xs : List Ph} (h : Sl w B 2 A n (xs.flatMap Ph.cells)) (k : Nat) (hk : k < n) :
    ∃ b off x, A = some ⟨b, off, none⟩ ∧ b < B ∧ xs[k]? = some x ∧ w.cell? ⟨b, off + k * 2, none⟩ = some (.string x.c) ∧ w.cell? ⟨b, off + k * 2 + 1, none⟩ = some (.int .i64 x.len) := by
  obtain ⟨b, off, s, hA, hb, hx, hc⟩ := h.get Ph.cells 2 Ph.cells_len (by omega) k hk
  exact ⟨b, off, s, hA, hb, hx, hc 0 _ rfl, hc 1 _ rfl⟩
theorem ch_box {A : Option Addr} {n c : Nat} (w : World) (x : Ch) (E : TypeId) :
    let W := w.alloc (.cells #[.int .i64 x.k, .slice A n c, .string x.l, .string x.cs, .int .i64 x.p] E)
    W.cell? ⟨w.heap.size, 0, none⟩ = some (.int .i64 x.k) ∧ W.cell? ⟨w.heap.size, 1, none⟩ = some (.slice A n c) ∧ W.cell? ⟨w.heap.size, 2, none⟩ = some (.string x.l) ∧ W.cell? ⟨w.heap.size, 3, none⟩ = some (.string x.cs) ∧ W.cell? ⟨w.heap.size, 4, none⟩ = some (.int .i64 x.p) := by
  intro W
  have hb : W.heap[w.heap.size]? = some (.cells #[.int .i64 x.k, .slice A n c, .string x.l, .string x.cs, .int .i64 x.p] E (0, 0)) := heap_alloc_new w _
  refine ⟨?_, ?_, ?_, ?_, ?_⟩
  all_goals
    rw [cell_of_row _ w.heap.size _ _ E (0, 0) hb]
    rfl
end Go.Proofs.YtgibbhipjpbdfaaGreat

/- From what the row's reader gives of an argument to the words of Base. No program is named here. -/
namespace Go.Proofs.YtgibbhipjpbdfaaGreat
open Go.RowKit Go.ChangeShapes Go.WideShapes Go.Deep

theorem choose_list {α : Type} (R : Nat → α → Prop) : ∀ n, (∀ i, i < n → ∃ x, R i x) → ∃ xs : List α, xs.length = n ∧ ∀ i x, xs[i]? = some x → R i x
  | 0, _ => ⟨[], rfl, fun i x h => by simp at h⟩
  | n + 1, h => by
    obtain ⟨xs, hl, hx⟩ := choose_list R n (fun i hi => h i (by omega))
    obtain ⟨y, hy⟩ := h n (by omega)
    refine ⟨xs ++ [y], by simp [hl], fun i x hi => ?_⟩
    by_cases hlt : i < n
    · rw [List.getElem?_append_left (by omega)] at hi; exact hx i x hi
    · have hil : i < (xs ++ [y]).length := (List.getElem?_eq_some_iff.1 hi).1
      simp [hl] at hil
      obtain rfl : i = n := by omega
      rw [List.getElem?_append_right (by omega)] at hi
      simp [hl] at hi
      subst hi; exact hy

section
variable {H : Type} {en : TypeId × Value → H} {P : Program} {w : World} {base : Nat} {spare : Nat → Bool} {held : Bool}
/-- Field i of a struct that the reader read, at its own cells. -/
theorem struct_field {t : TypeId} {fs : Array Field} {fuel : Nat} {cs : List Value} {x : DataW H × List MemPlace} (ht : P.underlying t = some (.struct fs)) (h : DataW.trod en P w base spare held fuel t cs = some x)
    (i : Nat) (f : Field) (hf : fs[i]? = some f) (k : Nat) (hk : P.cellsOf f.type = k) (cs' : List Value) (hcs : (cs.drop f.offset).take k = cs') : ∃ n y, DataW.trod en P w base spare held n f.type cs' = some y := by
  obtain ⟨xs, n, _, _, _, hl, hg⟩ := DataW.trod_struct ht h
  have h1 := hg i f hf
  rw [hk, hcs] at h1
  have hi : i < xs.length := by rw [hl]; exact (Array.getElem?_eq_some_iff.1 hf).1
  exact ⟨n, _, h1.trans (List.getElem?_eq_getElem hi)⟩
theorem struct_len {t : TypeId} {fs : Array Field} {fuel : Nat} {cs : List Value} {x : DataW H × List MemPlace} (ht : P.underlying t = some (.struct fs)) (h : DataW.trod en P w base spare held fuel t cs = some x) (k : Nat) (hk : P.cellsOf t = k) : cs.length = k := by
  obtain ⟨xs, n, _, _, hl, _⟩ := DataW.trod_struct ht h
  rw [hl, hk]
theorem open_Sl {α : Type} (enc : α → List Value) (sz : Nat) (hsz : ∀ x, (enc x).length = sz) (hs : 0 < sz) (ok : α → Prop) {t e : TypeId} {fuel : Nat} {A : Option Addr} {n c : Nat} {x : DataW H × List MemPlace}
    (ht : P.underlying t = some (.slice e)) (hC : P.cellsOf e = sz) (hE : ∀ m cs y, DataW.trod en P w base spare held m e cs = some y → ∃ a, cs = enc a ∧ ok a)
    (h : DataW.trod en P w base spare held fuel t [.slice A n c] = some x) : n ≤ maxLen ∧ ∃ xs : List α, Sl w w.heap.size sz A n (xs.flatMap enc) ∧ ∀ x ∈ xs, ok x := by
  rcases open_slice ht h with ⟨hcs, _⟩ | ⟨a, len, cap, m, fu, D, Pl, hcs, hb, hl, hm, hmm, hx, hi⟩
  · simp at hcs; obtain ⟨rfl, rfl, rfl⟩ := hcs
    exact ⟨by simp [maxLen], [], Sl.none_, by simp⟩
  · simp at hcs; obtain ⟨rfl, rfl, rfl⟩ := hcs
    have hnm : n ≤ m := by rw [hmm]; split <;> omega
    obtain ⟨xs, hxl, hxs⟩ := choose_list (fun i a' => w.cells? base (a.add (i * sz)) sz = some (enc a') ∧ ok a') n (fun i hin => by
      obtain ⟨cs, hc, htr⟩ := hi i (by omega)
      obtain ⟨a', rfl, hok⟩ := hE _ _ _ htr
      rw [hC] at hc
      exact ⟨a', hc, hok⟩)
    refine ⟨by omega, xs, ⟨by rw [flat_len enc sz hsz, hxl], fun hn => ?_⟩, fun x hx => ?_⟩
    · have h0 := (hxs 0 _ (List.getElem?_eq_getElem (by omega))).1
      obtain ⟨_, hcl, hat⟩ := World.cells?_some h0
      have hc0 := hat 0 hs
      rw [List.getElem?_eq_getElem (by rw [hcl]; exact hs)] at hc0
      have hblk := World.block_lt_of_cell? w _ hc0
      have hspot := World.cell?_spot hc0
      have hadd : ∀ j, a.add j = ⟨a.block, a.off + j, none⟩ := by
        have hs0 : a.spot = none := by simpa [Addr.add] using hspot
        intro j; unfold Addr.add
        by_cases hj : j = 0
        · subst hj; cases a; simp_all
        · simp [hj]
      refine ⟨a.block, a.off, ?_, by simpa [hadd, Addr.add] using hblk, fun j u hu => ?_⟩
      · have := hadd 0; simp [Addr.add] at this; rw [← this]
      · have hjl : j < n * sz := by
          have := (List.getElem?_eq_some_iff.1 hu).1
          rw [flat_len enc sz hsz, hxl] at this; exact this
        have hk : j / sz < n := (Nat.div_lt_iff_lt_mul hs).2 hjl
        have hx := List.getElem?_eq_getElem (l := xs) (i := j / sz) (by omega)
        obtain ⟨_, _, hat⟩ := World.cells?_some (hxs (j / sz) _ hx).1
        have hmod := Nat.mod_lt j hs
        have hj' := hat (j % sz) hmod
        have e1 : j / sz * sz + j % sz = j := Nat.div_add_mod' j sz
        have e2 := flat_at enc sz hsz xs (j / sz) (j % sz) _ hx hmod
        rw [e1] at e2
        have e3 : (⟨a.block, a.off + j / sz * sz, none⟩ : Addr).add (j % sz) = ⟨a.block, a.off + j, none⟩ := by
          unfold Addr.add
          by_cases h0 : j % sz = 0
          · rw [if_pos h0]; rw [h0, Nat.add_zero] at e1; simp
          · rw [if_neg h0]; simp; omega
        rw [hadd, e3] at hj'
        rw [hj', ← e2, hu]
    · obtain ⟨i, hi'⟩ := List.mem_iff_getElem?.1 hx
      exact (hxs i x hi').2
end
end Go.Proofs.YtgibbhipjpbdfaaGreat

/- What the reader gives of a Character argument. -/
namespace Go.Proofs.YtgibbhipjpbdfaaGreat
open Go.ChangeShapes Go.WideShapes Go.ChangeAt Go.RowKit Go.Deep
theorem int_trod {H : Type} {en : TypeId × Value → H} {w : World} {base : Nat} {spare : Nat → Bool} {held : Bool} (m : Nat) (cs : List Value) (y : DataW H × List MemPlace) (h : DataW.trod en Tryz.prog w base spare held m 2 cs = some y) :
    ∃ s : Int, cs = intC s ∧ True := by
  obtain ⟨x, e0, _, _⟩ := DataW.trod_int Tryz.underlying2 h
  exact ⟨x, e0, trivial⟩
end Go.Proofs.YtgibbhipjpbdfaaGreat

/- What the reader gives of a []Phase argument. -/
namespace Go.Proofs.YtgibbhipjpbdfaaGreat
open Go.ChangeShapes Go.WideShapes Go.ChangeAt Go.RowKit Go.Deep
end Go.Proofs.YtgibbhipjpbdfaaGreat
