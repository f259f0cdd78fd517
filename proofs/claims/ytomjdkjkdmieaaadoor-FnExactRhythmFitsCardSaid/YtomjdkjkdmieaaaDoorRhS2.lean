/- Rhythms that fit a mark: the reference: quick lights. -/
import Derived.Test.YtomjdkjkdmieaaaDoorRhS
namespace Go.Proofs.YtomjdkjkdmieaaaDoor
open Go.RowKit
set_option maxRecDepth 100000 in
set_option maxHeartbeats 2000000 in
theorem l11Quick_c (b off : Nat) (A : Option Addr) (n c : Nat) (x : Ch) (nn slow fast : Int) (L : List UInt8) (gx : List Int) (w : World) (h : ChP w b off A n c x) (h0 : 0 ≤ slow) (h1 : 0 ≤ fast)
    (hL : L = if nn = 6 then [76] else []) (hgx : gx = if nn = 0 then [] else [nn]) :
    Calls Tryd.prog 38 #[.pointer (some ⟨b, off, none⟩), .int .i64 nn, .int .i64 slow, .int .i64 fast] w fun e w' => e = .returned (.bool (quickB x L gx slow fast)) ∧ Below w.heap.size w w' := by
  have hR : ∀ (kd q : Int) (w1 : World) {GA : Option Addr} {gm gc : Nat}, Below w.heap.size w w1 → Sl w1 w1.heap.size 1 GA gm (gx.flatMap intC) → 0 ≤ q → Calls Tryd.prog 39 #[.pointer (some ⟨b, off, none⟩), .int .i64 kd, .slice GA gm gc, .int .i64 q] w1 fun e w' => e = .returned (.bool (x.k == kd && (decide (x.gs = gx) && x.p == q))) ∧ Below w1.heap.size w1 w' := fun kd q w1 GA gm gc hb hs hq => by
    have hgm : gx.length = gm := hs.len intC 1 intC_len (by omega)
    have hgl : gx.length ≤ 1 := by rw [hgx]; split <;> simp
    have := l11Rhythm_c b off A n c x kd q GA gm gc gx w1 (h.next hb) hs (by omega)
    rwa [decide_eq_false (show ¬ q < 0 by omega), Bool.false_or] at this
  obtain ⟨c0, c1, c2, c3, c4, hb, -, -, -, -⟩ := h
  have hv : quickB x L gx slow fast = ((x.l.toList == L) && ((x.k == 6 && (decide (x.gs = gx) && x.p == slow)) || (x.k == 7 && (decide (x.gs = gx) && x.p == fast)))) := rfl
  rw [hv]
  have HR := Lib.hid hR; clear hR
  have HV := Lib.hid hv; clear hv
  by_cases hz : nn = 0
  · subst hz
    rw [if_neg (by decide)] at hL
    rw [if_pos rfl] at hgx
    subst hL
    have hbA : Below w.heap.size w ((w.alloc (.cells #[.int .i64 0] 2)).alloc (.cells #[] 2)) := by (repeat (first | (with_reducible assumption) | (with_reducible exact Below.refl _ _) | exact Nat.le_refl _ | exact Below.size (by with_reducible assumption) | (with_reducible refine Below.drew ?_) | (with_reducible refine below_drewN ?_ _) | (with_reducible refine Below.alloc ?_ ?_ _) | (with_reducible refine Below.setCell ?_ ?_ _) | (with_reducible refine le_alloc ?_ _) | (with_reducible refine le_set ?_ _ _) | (with_reducible refine le_drew ?_) | (with_reducible refine le_drewN ?_ _) | omega | (dsimp only; omega)))
    have hsA : Sl ((w.alloc (.cells #[.int .i64 0] 2)).alloc (.cells #[] 2)) ((w.alloc (.cells #[.int .i64 0] 2)).alloc (.cells #[] 2)).heap.size 1 (some ⟨w.heap.size + 1, 0, none⟩) 0 (gx.flatMap intC) := by
      subst hgx
      have := Sl.new (w.alloc (.cells #[.int .i64 0] 2)) 2 [] 0 1 rfl
      simpa using this
    have HGX := Lib.hid hgx; clear hgx
    cases hl : (x.l.toList == ([] : List UInt8))
    · go_enter Tryd.func38, Tryd.ntmps38
      go_wp2_with fail
      go_ret
      exact ⟨rfl, by (repeat (first | (with_reducible assumption) | (with_reducible exact Below.refl _ _) | exact Nat.le_refl _ | exact Below.size (by with_reducible assumption) | (with_reducible refine Below.drew ?_) | (with_reducible refine below_drewN ?_ _) | (with_reducible refine Below.alloc ?_ ?_ _) | (with_reducible refine Below.setCell ?_ ?_ _) | (with_reducible refine le_alloc ?_ _) | (with_reducible refine le_set ?_ _ _) | (with_reducible refine le_drew ?_) | (with_reducible refine le_drewN ?_ _) | omega | (dsimp only; omega)))⟩
    · go_enter Tryd.func38, Tryd.ntmps38
      go_wp2_with fail
      refine (HR.out 6 slow _ hbA hsA h0).mono ?_
      rintro e w1 ⟨rfl, hb1⟩
      have hb11 := hbA.trans (hb1.mono hbA.size)
      cases hR6 : (x.k == 6 && (decide (x.gs = gx) && x.p == slow))
      · go_wp2_with fail
        refine (HR.out 7 fast _ hb11 (hsA.next hb1) h1).mono ?_
        rintro e w2 ⟨rfl, hb2⟩
        go_wp2_with fail
        go_ret
        exact ⟨ret_eq (bool_eq (by rw [hR6]; simp)), hb11.trans (hb2.mono hb11.size)⟩
      · go_wp2_with fail
        go_ret
        exact ⟨ret_eq (bool_eq (by rw [hR6]; simp)), hb11⟩
  · by_cases h6 : nn = 6
    · subst h6
      rw [if_pos rfl] at hL
      rw [if_neg (by decide)] at hgx
      subst hL
      have hbA : Below w.heap.size w (w.alloc (.cells #[.int .i64 6] 2)) := by (repeat (first | (with_reducible assumption) | (with_reducible exact Below.refl _ _) | exact Nat.le_refl _ | exact Below.size (by with_reducible assumption) | (with_reducible refine Below.drew ?_) | (with_reducible refine below_drewN ?_ _) | (with_reducible refine Below.alloc ?_ ?_ _) | (with_reducible refine Below.setCell ?_ ?_ _) | (with_reducible refine le_alloc ?_ _) | (with_reducible refine le_set ?_ _ _) | (with_reducible refine le_drew ?_) | (with_reducible refine le_drewN ?_ _) | omega | (dsimp only; omega)))
      have hsA : Sl (w.alloc (.cells #[.int .i64 6] 2)) (w.alloc (.cells #[.int .i64 6] 2)).heap.size 1 (some ⟨w.heap.size, 0, none⟩) 1 (gx.flatMap intC) := by
        subst hgx
        rw [show (w.alloc (.cells #[.int .i64 6] 2)).heap.size = w.heap.size + 1 by simp]
        exact Sl.new w 2 (intC 6) 1 1 rfl
      have HGX := Lib.hid hgx; clear hgx
      cases hl : (x.l.toList == ([76] : List UInt8))
      · go_enter Tryd.func38, Tryd.ntmps38
        go_wp2_with fail
        go_ret
        exact ⟨rfl, by (repeat (first | (with_reducible assumption) | (with_reducible exact Below.refl _ _) | exact Nat.le_refl _ | exact Below.size (by with_reducible assumption) | (with_reducible refine Below.drew ?_) | (with_reducible refine below_drewN ?_ _) | (with_reducible refine Below.alloc ?_ ?_ _) | (with_reducible refine Below.setCell ?_ ?_ _) | (with_reducible refine le_alloc ?_ _) | (with_reducible refine le_set ?_ _ _) | (with_reducible refine le_drew ?_) | (with_reducible refine le_drewN ?_ _) | omega | (dsimp only; omega)))⟩
      · go_enter Tryd.func38, Tryd.ntmps38
        go_wp2_with fail
        refine (HR.out 6 slow _ hbA hsA h0).mono ?_
        rintro e w1 ⟨rfl, hb1⟩
        have hb11 := hbA.trans (hb1.mono hbA.size)
        cases hR6 : (x.k == 6 && (decide (x.gs = gx) && x.p == slow))
        · go_wp2_with fail
          refine (HR.out 7 fast _ hb11 (hsA.next hb1) h1).mono ?_
          rintro e w2 ⟨rfl, hb2⟩
          go_wp2_with fail
          go_ret
          exact ⟨ret_eq (bool_eq (by rw [hR6]; simp)), hb11.trans (hb2.mono hb11.size)⟩
        · go_wp2_with fail
          go_ret
          exact ⟨ret_eq (bool_eq (by rw [hR6]; simp)), hb11⟩
    · rw [if_neg h6] at hL
      rw [if_neg hz] at hgx
      subst hL
      have hz' : (nn == 0) = false := by simpa using hz
      have h6' : (nn == 6) = false := by simpa using h6
      have hbA : Below w.heap.size w (w.alloc (.cells #[.int .i64 nn] 2)) := by (repeat (first | (with_reducible assumption) | (with_reducible exact Below.refl _ _) | exact Nat.le_refl _ | exact Below.size (by with_reducible assumption) | (with_reducible refine Below.drew ?_) | (with_reducible refine below_drewN ?_ _) | (with_reducible refine Below.alloc ?_ ?_ _) | (with_reducible refine Below.setCell ?_ ?_ _) | (with_reducible refine le_alloc ?_ _) | (with_reducible refine le_set ?_ _ _) | (with_reducible refine le_drew ?_) | (with_reducible refine le_drewN ?_ _) | omega | (dsimp only; omega)))
      have hsA : Sl (w.alloc (.cells #[.int .i64 nn] 2)) (w.alloc (.cells #[.int .i64 nn] 2)).heap.size 1 (some ⟨w.heap.size, 0, none⟩) 1 (gx.flatMap intC) := by
        subst hgx
        rw [show (w.alloc (.cells #[.int .i64 nn] 2)).heap.size = w.heap.size + 1 by simp]
        exact Sl.new w 2 (intC nn) 1 1 rfl
      have HGX := Lib.hid hgx; clear hgx
      cases hl : (x.l.toList == ([] : List UInt8))
      · go_enter Tryd.func38, Tryd.ntmps38
        go_wp2_with fail
        go_ret
        exact ⟨rfl, by (repeat (first | (with_reducible assumption) | (with_reducible exact Below.refl _ _) | exact Nat.le_refl _ | exact Below.size (by with_reducible assumption) | (with_reducible refine Below.drew ?_) | (with_reducible refine below_drewN ?_ _) | (with_reducible refine Below.alloc ?_ ?_ _) | (with_reducible refine Below.setCell ?_ ?_ _) | (with_reducible refine le_alloc ?_ _) | (with_reducible refine le_set ?_ _ _) | (with_reducible refine le_drew ?_) | (with_reducible refine le_drewN ?_ _) | omega | (dsimp only; omega)))⟩
      · go_enter Tryd.func38, Tryd.ntmps38
        go_wp2_with fail
        refine (HR.out 6 slow _ hbA hsA h0).mono ?_
        rintro e w1 ⟨rfl, hb1⟩
        have hb11 := hbA.trans (hb1.mono hbA.size)
        cases hR6 : (x.k == 6 && (decide (x.gs = gx) && x.p == slow))
        · go_wp2_with fail
          refine (HR.out 7 fast _ hb11 (hsA.next hb1) h1).mono ?_
          rintro e w2 ⟨rfl, hb2⟩
          go_wp2_with fail
          go_ret
          exact ⟨ret_eq (bool_eq (by rw [hR6]; simp)), hb11.trans (hb2.mono hb11.size)⟩
        · go_wp2_with fail
          go_ret
          exact ⟨ret_eq (bool_eq (by rw [hR6]; simp)), hb11⟩
end Go.Proofs.YtomjdkjkdmieaaaDoor
