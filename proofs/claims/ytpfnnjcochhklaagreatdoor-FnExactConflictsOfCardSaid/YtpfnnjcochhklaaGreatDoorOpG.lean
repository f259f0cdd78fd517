/- OpG: several of my texts in one. -/
import Derived.Test.YtpfnnjcochhklaaGreatDoorBase
import Derived.ProofKit
import Derived.OpenShut
import Derived.ShutString
import Derived.ChangeOld
import Derived.Deep.Slices
import Derived.Deep.Fields
import Derived.Lib.SmallJoins
import Derived.Test.YtpfnnjcochhklaaGreatDoorChLaw
import Derived.Test.YtpfnnjcochhklaaGreatDoorAidLaw
import Derived.Test.YtpfnnjcochhklaaGreatDoorMarkG
import Derived.Test.YtpfnnjcochhklaaGreatDoorRows
import Derived.LaidMore
import Derived.Stop.LaidErr
import Derived.Stop.Joined
import Derived.Lib.LaidTab

/- From what the row's reader gives of an argument to the words of Base. No program is named here. -/
namespace Go.Proofs.YtpfnnjcochhklaaGreatDoor
open Go.RowKit Go.ChangeShapes Go.WideShapes Go.Deep

theorem choose_list {α : Type} (R : Nat → α → Prop) : ∀ n, (∀ i, i < n → ∃ x, R i x) → ∃ xs : List α, xs.length = n ∧ ∀ i x, xs[i]? = some x → R i x
  | 0, _ => ⟨[], rfl, fun i x h => by simp at h⟩
  | n + 1, h => by
    obtain ⟨xs, hl, hx⟩ := choose_list R n (fun i hi => h i (by omega))
    obtain ⟨y, hy⟩ := h n (by omega)
    refine ⟨xs ++ [y], by simp [hl], fun i x hi => ?_⟩
    by_cases hlt : i < n
    · rw [List.getElem?_append_left (by omega)] at hi; exact hx i x hi
    · have hil : i < (xs ++ [y]).length := (List.getElem?_eq_some_iff.1 hi).1
      simp [hl] at hil
      obtain rfl : i = n := by omega
      rw [List.getElem?_append_right (by omega)] at hi
      simp [hl] at hi
      subst hi; exact hy

section
variable {H : Type} {en : TypeId × Value → H} {P : Program} {w : World} {base : Nat} {spare : Nat → Bool} {held : Bool}
/-- Field i of a struct that the reader read, at its own cells. -/
theorem struct_field {t : TypeId} {fs : Array Field} {fuel : Nat} {cs : List Value} {x : DataW H × List MemPlace} (ht : P.underlying t = some (.struct fs)) (h : DataW.trod en P w base spare held fuel t cs = some x)
    (i : Nat) (f : Field) (hf : fs[i]? = some f) (k : Nat) (hk : P.cellsOf f.type = k) (cs' : List Value) (hcs : (cs.drop f.offset).take k = cs') : ∃ n y, DataW.trod en P w base spare held n f.type cs' = some y := by
  obtain ⟨xs, n, _, _, _, hl, hg⟩ := DataW.trod_struct ht h
  have h1 := hg i f hf
  rw [hk, hcs] at h1
  have hi : i < xs.length := by rw [hl]; exact (Array.getElem?_eq_some_iff.1 hf).1
  exact ⟨n, _, h1.trans (List.getElem?_eq_getElem hi)⟩
theorem struct_len {t : TypeId} {fs : Array Field} {fuel : Nat} {cs : List Value} {x : DataW H × List MemPlace} (ht : P.underlying t = some (.struct fs)) (h : DataW.trod en P w base spare held fuel t cs = some x) (k : Nat) (hk : P.cellsOf t = k) : cs.length = k := by
  obtain ⟨xs, n, _, _, hl, _⟩ := DataW.trod_struct ht h
  rw [hl, hk]
theorem open_Sl {α : Type} (enc : α → List Value) (sz : Nat) (hsz : ∀ x, (enc x).length = sz) (hs : 0 < sz) (ok : α → Prop) {t e : TypeId} {fuel : Nat} {A : Option Addr} {n c : Nat} {x : DataW H × List MemPlace}
    (ht : P.underlying t = some (.slice e)) (hC : P.cellsOf e = sz) (hE : ∀ m cs y, DataW.trod en P w base spare held m e cs = some y → ∃ a, cs = enc a ∧ ok a)
    (h : DataW.trod en P w base spare held fuel t [.slice A n c] = some x) : n ≤ maxLen ∧ ∃ xs : List α, Sl w w.heap.size sz A n (xs.flatMap enc) ∧ ∀ x ∈ xs, ok x := by
  rcases open_slice ht h with ⟨hcs, _⟩ | ⟨a, len, cap, m, fu, D, Pl, hcs, hb, hl, hm, hmm, hx, hi⟩
  · simp at hcs; obtain ⟨rfl, rfl, rfl⟩ := hcs
    exact ⟨by simp [maxLen], [], Sl.none_, by simp⟩
  · simp at hcs; obtain ⟨rfl, rfl, rfl⟩ := hcs
    have hnm : n ≤ m := by rw [hmm]; split <;> omega
    obtain ⟨xs, hxl, hxs⟩ := choose_list (fun i a' => w.cells? base (a.add (i * sz)) sz = some (enc a') ∧ ok a') n (fun i hin => by
      obtain ⟨cs, hc, htr⟩ := hi i (by omega)
      obtain ⟨a', rfl, hok⟩ := hE _ _ _ htr
      rw [hC] at hc
      exact ⟨a', hc, hok⟩)
    refine ⟨by omega, xs, ⟨by rw [flat_len enc sz hsz, hxl], fun hn => ?_⟩, fun x hx => ?_⟩
    · have h0 := (hxs 0 _ (List.getElem?_eq_getElem (by omega))).1
      obtain ⟨_, hcl, hat⟩ := World.cells?_some h0
      have hc0 := hat 0 hs
      rw [List.getElem?_eq_getElem (by rw [hcl]; exact hs)] at hc0
      have hblk := World.block_lt_of_cell? w _ hc0
      have hspot := World.cell?_spot hc0
      have hadd : ∀ j, a.add j = ⟨a.block, a.off + j, none⟩ := by
        have hs0 : a.spot = none := by simpa [Addr.add] using hspot
        intro j; unfold Addr.add
        by_cases hj : j = 0
        · subst hj; cases a; simp_all
        · simp [hj]
      refine ⟨a.block, a.off, ?_, by simpa [hadd, Addr.add] using hblk, fun j u hu => ?_⟩
      · have := hadd 0; simp [Addr.add] at this; rw [← this]
      · have hjl : j < n * sz := by
          have := (List.getElem?_eq_some_iff.1 hu).1
          rw [flat_len enc sz hsz, hxl] at this; exact this
        have hk : j / sz < n := (Nat.div_lt_iff_lt_mul hs).2 hjl
        have hx := List.getElem?_eq_getElem (l := xs) (i := j / sz) (by omega)
        obtain ⟨_, _, hat⟩ := World.cells?_some (hxs (j / sz) _ hx).1
        have hmod := Nat.mod_lt j hs
        have hj' := hat (j % sz) hmod
        have e1 : j / sz * sz + j % sz = j := Nat.div_add_mod' j sz
        have e2 := flat_at enc sz hsz xs (j / sz) (j % sz) _ hx hmod
        rw [e1] at e2
        have e3 : (⟨a.block, a.off + j / sz * sz, none⟩ : Addr).add (j % sz) = ⟨a.block, a.off + j, none⟩ := by
          unfold Addr.add
          by_cases h0 : j % sz = 0
          · rw [if_pos h0]; rw [h0, Nat.add_zero] at e1; simp
          · rw [if_neg h0]; simp; omega
        rw [hadd, e3] at hj'
        rw [hj', ← e2, hu]
    · obtain ⟨i, hi'⟩ := List.mem_iff_getElem?.1 hx
      exact (hxs i x hi').2
end
end Go.Proofs.YtpfnnjcochhklaaGreatDoor

/- What the reader gives of a Character argument. -/
namespace Go.Proofs.YtpfnnjcochhklaaGreatDoor
open Go.ChangeShapes Go.WideShapes Go.ChangeAt Go.RowKit Go.Deep
theorem int_trod {H : Type} {en : TypeId × Value → H} {w : World} {base : Nat} {spare : Nat → Bool} {held : Bool} (m : Nat) (cs : List Value) (y : DataW H × List MemPlace) (h : DataW.trod en Tryz.prog w base spare held m 2 cs = some y) :
    ∃ s : Int, cs = intC s ∧ True := by
  obtain ⟨x, e0, _, _⟩ := DataW.trod_int Tryz.underlying2 h
  exact ⟨x, e0, trivial⟩
theorem character_trod {H : Type} {en : TypeId × Value → H} {w : World} {base : Nat} {spare : Nat → Bool} {held : Bool} (m : Nat) (cs : List Value) (y : DataW H × List MemPlace) (h : DataW.trod en Tryz.prog w base spare held m 68 cs = some y) :
    ∃ k A n c l s p, ∃ gs : List Int, cs = [.int .i64 k, .slice A n c, .string l, .string s, .int .i64 p] ∧ Sl w w.heap.size 1 A n (gs.flatMap intC) ∧ n ≤ maxLen ∧ l.size ≤ maxLen ∧ s.size ≤ maxLen := by
  have hl := struct_len Tryz.underlying68 h 5 (by kernel_rfl)
  match cs, hl with
  | [a, b, c, d, f], _ =>
    obtain ⟨_, _, g0⟩ := struct_field Tryz.underlying68 h 0 _ rfl 1 (by kernel_rfl) [a] rfl
    obtain ⟨_, _, g1⟩ := struct_field Tryz.underlying68 h 1 _ rfl 1 (by kernel_rfl) [b] rfl
    obtain ⟨_, _, g2⟩ := struct_field Tryz.underlying68 h 2 _ rfl 1 (by kernel_rfl) [c] rfl
    obtain ⟨_, _, g3⟩ := struct_field Tryz.underlying68 h 3 _ rfl 1 (by kernel_rfl) [d] rfl
    obtain ⟨_, _, g4⟩ := struct_field Tryz.underlying68 h 4 _ rfl 1 (by kernel_rfl) [f] rfl
    obtain ⟨x0, e0, _, _⟩ := DataW.trod_int Tryz.underlying2 g0
    obtain ⟨x2, e2, _, hx2⟩ := DataW.trod_string Tryz.underlying9 g2
    obtain ⟨x3, e3, _, hx3⟩ := DataW.trod_string Tryz.underlying9 g3
    obtain ⟨x4, e4, _, _⟩ := DataW.trod_int Tryz.underlying2 g4
    simp only [List.cons.injEq, and_true] at e0 e2 e3 e4
    subst e0 e2 e3 e4
    obtain ⟨A, n, cc, rfl⟩ : ∃ A n cc, b = .slice A n cc := by
      rcases open_slice Tryz.underlying30 g1 with ⟨hcs, _⟩ | ⟨a, len, cap, m, fu, D, Pl, hcs, _⟩
      · simp at hcs; exact ⟨_, _, _, hcs⟩
      · simp at hcs; exact ⟨_, _, _, hcs⟩
    obtain ⟨m0, xs, s0, _⟩ := open_Sl intC 1 intC_len (by omega) (fun _ => True) Tryz.underlying30 (by kernel_rfl) int_trod g1
    exact ⟨x0, A, n, cc, x2, x3, x4, xs, rfl, s0, m0, hx2, hx3⟩
end Go.Proofs.YtpfnnjcochhklaaGreatDoor

/- What the reader gives of an Aid argument; what the listed table gives. -/
namespace Go.Proofs.YtpfnnjcochhklaaGreatDoor
open Go.ChangeShapes Go.WideShapes Go.ChangeAt Go.RowKit Go.Deep
section
variable {H : Type} {en : TypeId × Value → H} {w : World} {base : Nat} {spare : Nat → Bool} {held : Bool}
theorem point_trod (m : Nat) (cs : List Value) (y : DataW H × List MemPlace) (h : DataW.trod en Tryz.prog w base spare held m 66 cs = some y) : ∃ a b : Int, cs = [.int .i64 a, .int .i64 b] := by
  have hl := struct_len Tryz.underlying66 h 2 (by kernel_rfl)
  match cs, hl with
  | [a, b], _ =>
    obtain ⟨_, _, g0⟩ := struct_field Tryz.underlying66 h 0 _ rfl 1 (by kernel_rfl) [a] rfl
    obtain ⟨_, _, g1⟩ := struct_field Tryz.underlying66 h 1 _ rfl 1 (by kernel_rfl) [b] rfl
    obtain ⟨x0, e0, _, _⟩ := DataW.trod_int Tryz.underlying2 g0
    obtain ⟨x1, e1, _, _⟩ := DataW.trod_int Tryz.underlying2 g1
    simp only [List.cons.injEq, and_true] at e0 e1
    subst e0 e1
    exact ⟨_, _, rfl⟩
theorem mark_trod (m : Nat) (cs : List Value) (y : DataW H × List MemPlace) (h : DataW.trod en Tryz.prog w base spare held m 67 cs = some y) : ∃ k : Mk, cs = k.cells ∧ k.cs.size ≤ maxLen ∧ k.sh.size ≤ maxLen ∧ k.tp.size ≤ maxLen := by
  have hl := struct_len Tryz.underlying67 h 4 (by kernel_rfl)
  match cs, hl with
  | [a, b, c, d], _ =>
    obtain ⟨_, _, g0⟩ := struct_field Tryz.underlying67 h 0 _ rfl 1 (by kernel_rfl) [a] rfl
    obtain ⟨_, _, g1⟩ := struct_field Tryz.underlying67 h 1 _ rfl 1 (by kernel_rfl) [b] rfl
    obtain ⟨_, _, g2⟩ := struct_field Tryz.underlying67 h 2 _ rfl 1 (by kernel_rfl) [c] rfl
    obtain ⟨_, _, g3⟩ := struct_field Tryz.underlying67 h 3 _ rfl 1 (by kernel_rfl) [d] rfl
    obtain ⟨x0, e0, _, _⟩ := DataW.trod_int Tryz.underlying2 g0
    obtain ⟨x1, e1, _, h1⟩ := DataW.trod_string Tryz.underlying9 g1
    obtain ⟨x2, e2, _, h2⟩ := DataW.trod_string Tryz.underlying9 g2
    obtain ⟨x3, e3, _, h3⟩ := DataW.trod_string Tryz.underlying9 g3
    simp only [List.cons.injEq, and_true] at e0 e1 e2 e3
    subst e0 e1 e2 e3
    exact ⟨⟨_, _, _, _⟩, rfl, h1, h2, h3⟩
theorem sector_trod (m : Nat) (cs : List Value) (y : DataW H × List MemPlace) (h : DataW.trod en Tryz.prog w base spare held m 131 cs = some y) : ∃ k : Sec, cs = k.cells ∧ k.c.size ≤ maxLen := by
  have hl := struct_len Tryz.underlying131 h 3 (by kernel_rfl)
  match cs, hl with
  | [a, b, c], _ =>
    obtain ⟨_, _, g0⟩ := struct_field Tryz.underlying131 h 0 _ rfl 1 (by kernel_rfl) [a] rfl
    obtain ⟨_, _, g1⟩ := struct_field Tryz.underlying131 h 1 _ rfl 1 (by kernel_rfl) [b] rfl
    obtain ⟨_, _, g2⟩ := struct_field Tryz.underlying131 h 2 _ rfl 1 (by kernel_rfl) [c] rfl
    obtain ⟨x0, e0, _, _⟩ := DataW.trod_int Tryz.underlying2 g0
    obtain ⟨x1, e1, _, _⟩ := DataW.trod_int Tryz.underlying2 g1
    obtain ⟨x2, e2, _, h2⟩ := DataW.trod_string Tryz.underlying9 g2
    simp only [List.cons.injEq, and_true] at e0 e1 e2
    subst e0 e1 e2
    exact ⟨⟨_, _, _⟩, rfl, h2⟩
theorem aid_trod (m : Nat) (cs : List Value) (y : DataW H × List MemPlace) (h : DataW.trod en Tryz.prog w base spare held m 71 cs = some y) : ∃ z : AidG, cs = z.cells ∧ AidRd w z := by
  have hl := struct_len Tryz.underlying71 h 16 (by kernel_rfl)
  match cs, hl with
  | [a0, a1, a2, a3, a4, a5, a6, a7, a8, a9, a10, a11, a12, a13, a14, a15], _ =>
    obtain ⟨_, _, g0⟩ := struct_field Tryz.underlying71 h 0 _ rfl 1 (by kernel_rfl) [a0] rfl
    obtain ⟨_, _, g1⟩ := struct_field Tryz.underlying71 h 1 _ rfl 1 (by kernel_rfl) [a1] rfl
    obtain ⟨n2, _, g2⟩ := struct_field Tryz.underlying71 h 2 _ rfl 2 (by kernel_rfl) [a2, a3] rfl
    obtain ⟨_, _, g3⟩ := struct_field Tryz.underlying71 h 3 _ rfl 1 (by kernel_rfl) [a4] rfl
    obtain ⟨n4, _, g4⟩ := struct_field Tryz.underlying71 h 4 _ rfl 4 (by kernel_rfl) [a5, a6, a7, a8] rfl
    obtain ⟨n5, _, g5⟩ := struct_field Tryz.underlying71 h 5 _ rfl 5 (by kernel_rfl) [a9, a10, a11, a12, a13] rfl
    obtain ⟨_, _, g6⟩ := struct_field Tryz.underlying71 h 6 _ rfl 1 (by kernel_rfl) [a14] rfl
    obtain ⟨_, _, g7⟩ := struct_field Tryz.underlying71 h 7 _ rfl 1 (by kernel_rfl) [a15] rfl
    obtain ⟨num, e0, _, _⟩ := DataW.trod_int Tryz.underlying2 g0
    obtain ⟨nm, e1, _, hnm⟩ := DataW.trod_string Tryz.underlying9 g1
    obtain ⟨px, py, e2⟩ := point_trod _ _ _ g2
    obtain ⟨hh, e3, _, _⟩ := DataW.trod_int Tryz.underlying2 g3
    obtain ⟨⟨mk, mcs, msh, mtp⟩, e4, m1, m2, m3⟩ := mark_trod _ _ _ g4
    obtain ⟨ck, A, n, c, l, s, p, gs, e5, sl, hn, hls, hss⟩ := character_trod _ _ _ g5
    obtain ⟨it, e7, _, _⟩ := DataW.trod_int Tryz.underlying2 g7
    obtain ⟨B, q, d, e6⟩ : ∃ B q d, a14 = .slice B q d := by
      rcases open_slice Tryz.underlying69 g6 with ⟨hcs, _⟩ | ⟨a, len, cap, m, fu, D, Pl, hcs, _⟩
      · simp at hcs; exact ⟨_, _, _, hcs⟩
      · simp at hcs; exact ⟨_, _, _, hcs⟩
    subst e6
    obtain ⟨mq, ss, sl2, hsc⟩ := open_Sl Sec.cells 3 Sec.cells_len (by omega) (fun s => s.c.size ≤ maxLen) Tryz.underlying69 (by kernel_rfl) sector_trod g6
    have hgl : gs.length = n := sl.len intC 1 intC_len (by omega)
    have hql : ss.length = q := sl2.len Sec.cells 3 Sec.cells_len (by omega)
    subst hgl hql
    simp only [List.cons.injEq, and_true, Mk.cells] at e0 e1 e2 e3 e4 e5 e7
    obtain ⟨rfl, rfl⟩ := e2
    obtain ⟨rfl, rfl, rfl, rfl⟩ := e4
    obtain ⟨rfl, rfl, rfl, rfl, rfl⟩ := e5
    subst e0 e1 e3 e7
    exact ⟨⟨⟨num, nm, px, py, hh, ⟨mk, mcs, msh, mtp⟩, ⟨ck, gs, l, s, p⟩, ss, it⟩, A, c, B, d⟩, rfl, ⟨sl, sl2, hnm, m1, m2, m3, hn, hls, hss, mq, hsc⟩⟩
end
theorem spaceData : (Rows.laid_strings_asciiSpace : DataW Unit) = Lib.tabData .u8 Lib.asciiSpaceTab := by kernel_rfl
theorem of_laid {W : World} (h : laidMetH Tryz.prog [("unicode.White_Space", Rows.laid_unicode_White_Space), ("strings.asciiSpace", Rows.laid_strings_asciiSpace)] W) : Tab W := by
  rw [MakeChecks.laidMetH_plain _ _ _ (by kernel_rfl), spaceData] at h
  exact Lib.tabIs_of_head (show Tryz.prog.globalNamed "strings.asciiSpace" = some 0 by kernel_rfl) (t := 161) (by kernel_rfl) Tryz.underlying161 Tryz.underlying5 (by kernel_rfl) (by kernel_rfl) (laidMet.tail h)
theorem andT {a b : Bool} (h1 : a = true) (h2 : b = true) : (a && b) = true := by rw [h1, h2]; rfl
end Go.Proofs.YtpfnnjcochhklaaGreatDoor
