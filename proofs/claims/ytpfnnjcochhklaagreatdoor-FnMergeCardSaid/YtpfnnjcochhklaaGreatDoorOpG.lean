/- OpG: several of my texts in one. -/
import Derived.Test.YtpfnnjcochhklaaGreatDoorBsG
import Derived.ProofKit
import Derived.OpenShut
import Derived.ShutString
import Derived.ChangeOld
import Derived.Deep.Slices
import Derived.Deep.Fields
import Derived.Lib.SmallJoins
import Derived.Test.YtpfnnjcochhklaaGreatDoorSrcG

/- From what the row's reader gives of an argument to the words of Base. No program is named here. -/
namespace Go.Proofs.YtpfnnjcochhklaaGreatDoor
open Go.RowKit Go.ChangeShapes Go.WideShapes Go.Deep

theorem choose_list {α : Type} (R : Nat → α → Prop) : ∀ n, (∀ i, i < n → ∃ x, R i x) → ∃ xs : List α, xs.length = n ∧ ∀ i x, xs[i]? = some x → R i x
  | 0, _ => ⟨[], rfl, fun i x h => by simp at h⟩
  | n + 1, h => by
    obtain ⟨xs, hl, hx⟩ := choose_list R n (fun i hi => h i (by omega))
    obtain ⟨y, hy⟩ := h n (by omega)
    refine ⟨xs ++ [y], by simp [hl], fun i x hi => ?_⟩
    by_cases hlt : i < n
    · rw [List.getElem?_append_left (by omega)] at hi; exact hx i x hi
    · have hil : i < (xs ++ [y]).length := (List.getElem?_eq_some_iff.1 hi).1
      simp [hl] at hil
      obtain rfl : i = n := by omega
      rw [List.getElem?_append_right (by omega)] at hi
      simp [hl] at hi
      subst hi; exact hy

section
variable {H : Type} {en : TypeId × Value → H} {P : Program} {w : World} {base : Nat} {spare : Nat → Bool} {held : Bool}
theorem open_Sl {α : Type} (enc : α → List Value) (sz : Nat) (hsz : ∀ x, (enc x).length = sz) (hs : 0 < sz) (ok : α → Prop) {t e : TypeId} {fuel : Nat} {A : Option Addr} {n c : Nat} {x : DataW H × List MemPlace}
    (ht : P.underlying t = some (.slice e)) (hC : P.cellsOf e = sz) (hE : ∀ m cs y, DataW.trod en P w base spare held m e cs = some y → ∃ a, cs = enc a ∧ ok a)
    (h : DataW.trod en P w base spare held fuel t [.slice A n c] = some x) : n ≤ maxLen ∧ ∃ xs : List α, Sl w w.heap.size sz A n (xs.flatMap enc) ∧ ∀ x ∈ xs, ok x := by
  rcases open_slice ht h with ⟨hcs, _⟩ | ⟨a, len, cap, m, fu, D, Pl, hcs, hb, hl, hm, hmm, hx, hi⟩
  · simp at hcs; obtain ⟨rfl, rfl, rfl⟩ := hcs
    exact ⟨by simp [maxLen], [], Sl.none_, by simp⟩
  · simp at hcs; obtain ⟨rfl, rfl, rfl⟩ := hcs
    have hnm : n ≤ m := by rw [hmm]; split <;> omega
    obtain ⟨xs, hxl, hxs⟩ := choose_list (fun i a' => w.cells? base (a.add (i * sz)) sz = some (enc a') ∧ ok a') n (fun i hin => by
      obtain ⟨cs, hc, htr⟩ := hi i (by omega)
      obtain ⟨a', rfl, hok⟩ := hE _ _ _ htr
      rw [hC] at hc
      exact ⟨a', hc, hok⟩)
    refine ⟨by omega, xs, ⟨by rw [flat_len enc sz hsz, hxl], fun hn => ?_⟩, fun x hx => ?_⟩
    · have h0 := (hxs 0 _ (List.getElem?_eq_getElem (by omega))).1
      obtain ⟨_, hcl, hat⟩ := World.cells?_some h0
      have hc0 := hat 0 hs
      rw [List.getElem?_eq_getElem (by rw [hcl]; exact hs)] at hc0
      have hblk := World.block_lt_of_cell? w _ hc0
      have hspot := World.cell?_spot hc0
      have hadd : ∀ j, a.add j = ⟨a.block, a.off + j, none⟩ := by
        have hs0 : a.spot = none := by simpa [Addr.add] using hspot
        intro j; unfold Addr.add
        by_cases hj : j = 0
        · subst hj; cases a; simp_all
        · simp [hj]
      refine ⟨a.block, a.off, ?_, by simpa [hadd, Addr.add] using hblk, fun j u hu => ?_⟩
      · have := hadd 0; simp [Addr.add] at this; rw [← this]
      · have hjl : j < n * sz := by
          have := (List.getElem?_eq_some_iff.1 hu).1
          rw [flat_len enc sz hsz, hxl] at this; exact this
        have hk : j / sz < n := (Nat.div_lt_iff_lt_mul hs).2 hjl
        have hx := List.getElem?_eq_getElem (l := xs) (i := j / sz) (by omega)
        obtain ⟨_, _, hat⟩ := World.cells?_some (hxs (j / sz) _ hx).1
        have hmod := Nat.mod_lt j hs
        have hj' := hat (j % sz) hmod
        have e1 : j / sz * sz + j % sz = j := Nat.div_add_mod' j sz
        have e2 := flat_at enc sz hsz xs (j / sz) (j % sz) _ hx hmod
        rw [e1] at e2
        have e3 : (⟨a.block, a.off + j / sz * sz, none⟩ : Addr).add (j % sz) = ⟨a.block, a.off + j, none⟩ := by
          unfold Addr.add
          by_cases h0 : j % sz = 0
          · rw [if_pos h0]; rw [h0, Nat.add_zero] at e1; simp
          · rw [if_neg h0]; simp; omega
        rw [hadd, e3] at hj'
        rw [hj', ← e2, hu]
    · obtain ⟨i, hi'⟩ := List.mem_iff_getElem?.1 hx
      exact (hxs i x hi').2
end
end Go.Proofs.YtpfnnjcochhklaaGreatDoor

/- What the reader gives of a []byte argument. -/
namespace Go.Proofs.YtpfnnjcochhklaaGreatDoor
open Go.ChangeShapes Go.WideShapes Go.ChangeAt Go.RowKit Go.Deep
theorem byte_trod {H : Type} {en : TypeId × Value → H} {w : World} {base : Nat} {spare : Nat → Bool} {held : Bool} (m : Nat) (cs : List Value) (y : DataW H × List MemPlace) (h : DataW.trod en Tryz.prog w base spare held m 5 cs = some y) :
    ∃ s : Int, cs = u8C s ∧ 0 ≤ s ∧ s ≤ 255 := by
  obtain ⟨x, e0, _, h2⟩ := DataW.trod_int Tryz.underlying5 h
  refine ⟨x, e0, ?_⟩
  simpa [Lit.wf, IntKind.min, IntKind.max, IntKind.signed, IntKind.bits] using h2
end Go.Proofs.YtpfnnjcochhklaaGreatDoor
