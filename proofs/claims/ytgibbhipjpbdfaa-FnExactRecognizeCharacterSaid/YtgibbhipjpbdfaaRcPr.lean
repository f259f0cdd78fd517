/- RcPr: several of my texts in one. -/
import Derived.Test.YtgibbhipjpbdfaaPhO
import Derived.Test.YtgibbhipjpbdfaaRcTG
import Derived.Test.YtgibbhipjpbdfaaRows

/- The marks of a character's own row. -/
namespace Go.Proofs.Ytgibbhipjpbdfaa
open Go.RowKit
set_option maxHeartbeats 1000000 in
theorem markChr_c (k : Int) (A : Option Addr) (n c : Nat) (l cs : ByteArray) (p : Int) (gs : List Int) (k0 base : Nat) (w : World) (h : w.ownsRow base 2 1 (.slice A n c) n (gs.flatMap intC)) (hm : n ≤ 1048576) (hk : k0 ≤ 10000000) :
    Calls Try.prog 12 #[chV k A n c l cs p, .int .i64 k0] w fun e w' => e = .returned (.int .i64 (k0 + n : Nat)) ∧ w'.ownsRow base 2 1 (.slice A n c) n ((markInts k0 n).flatMap intC) ∧ w.grownBy w' (Value.slice A n c).ownBlock := by
  have hb0 : Below w.heap.size w (w.alloc (.cells #[.int .i64 k, .slice A n c, .string l, .string cs, .int .i64 p] 26)) := by (repeat (first | (with_reducible assumption) | (with_reducible exact Below.refl _ _) | exact Nat.le_refl _ | exact Below.size (by with_reducible assumption) | (with_reducible refine Below.drew ?_) | (with_reducible refine below_drewN ?_ _) | (with_reducible refine Below.alloc ?_ ?_ _) | (with_reducible refine Below.setCell ?_ ?_ _) | (with_reducible refine le_alloc ?_ _) | (with_reducible refine le_set ?_ _ _) | (with_reducible refine le_drew ?_) | (with_reducible refine le_drewN ?_ _) | omega | (dsimp only; omega)))
  have h0 := own_next h hb0
  have H0 := Lib.hid h0; clear h0
  go_enter Try.func12, Try.ntmps12
  go_wp2_with fail
  refine (markInt64S_c A n c k0 base _ _ H0.out hm hk).mono ?_
  rintro e w1 ⟨rfl, ho, hg⟩
  go_wp2_with fail
  go_ret
  exact ⟨rfl, ho, grown_trans (grown_of_below hb0) hg⟩
set_option maxHeartbeats 1000000 in
theorem heldChr_c (k : Int) (A : Option Addr) (n c : Nat) (l cs : ByteArray) (p : Int) (k0 : Nat) (w : World) (h : Sl w w.heap.size 1 A n ((markInts k0 n).flatMap intC)) (hm : n ≤ 1048576) (hk : k0 ≤ 10000000) :
    Calls Try.prog 13 #[chV k A n c l cs p, .int .i64 k0] w fun e w' => e = .returned (.int .i64 (k0 + n : Nat)) ∧ Below w.heap.size w w' := by
  have hb0 : Below w.heap.size w (w.alloc (.cells #[.int .i64 k, .slice A n c, .string l, .string cs, .int .i64 p] 26)) := by (repeat (first | (with_reducible assumption) | (with_reducible exact Below.refl _ _) | exact Nat.le_refl _ | exact Below.size (by with_reducible assumption) | (with_reducible refine Below.drew ?_) | (with_reducible refine below_drewN ?_ _) | (with_reducible refine Below.alloc ?_ ?_ _) | (with_reducible refine Below.setCell ?_ ?_ _) | (with_reducible refine le_alloc ?_ _) | (with_reducible refine le_set ?_ _ _) | (with_reducible refine le_drew ?_) | (with_reducible refine le_drewN ?_ _) | omega | (dsimp only; omega)))
  have h0 := h.next hb0
  have hneg : ¬ ((k0 + n : Nat) : Int) < 0 := by omega
  have H0 := Lib.hid h0; clear h0
  go_enter Try.func13, Try.ntmps13
  go_wp2_with fail
  refine (heldInt64S_c A n c k0 _ H0.out hm hk).mono ?_
  rintro e w1 ⟨rfl, rfl⟩
  go_wp2_with fail
  go_ret
  exact ⟨rfl, hb0⟩
end Go.Proofs.Ytgibbhipjpbdfaa

/- The walk of the law FnExactRecognizeCharacter. -/
namespace Go.Proofs.Ytgibbhipjpbdfaa
open Go.RowKit
theorem recO_len (ps : List Ph) : (recO ps).2.gs.length ≤ 1048576 := by
  rw [recO]
  cases vPh ps
  · show 0 ≤ 1048576; omega
  cases hueOk (onceB (tenC ps))
  · show 0 ≤ 1048576; omega
  show (recA _).2.gs.length ≤ 1048576
  cases hf : recI (nameC (hueO (onceB (tenC ps)))) (onceB (tenC ps)).length (onceB (tenC ps)) with
  | none => show 0 ≤ 1048576; omega
  | some x =>
    rw [recI] at hf
    have hx := List.mem_of_find?_eq_some hf
    rw [List.mem_flatMap] at hx
    obtain ⟨K, _, hx⟩ := hx
    rw [candI_rhy, List.mem_map] at hx
    obtain ⟨r, hr, rfl⟩ := hx
    exact (rhy_p0 hr).2.1
/-- A row that was there before another one was made is another one. -/
theorem own_apart {w w' : World} {base base' : Nat} {e e' : TypeId} {sz sz' n n' : Nat} {v v' : Value} {xs xs' : List Value} (h : w.ownsRow base e sz v n xs) (h' : w'.ownsRow base' e' sz' v' n' xs') (hle : w.heap.size ≤ base') : v.ownBlock = none ∨ v.ownBlock ≠ v'.ownBlock := by
  cases hv : v.ownBlock with
  | none => exact .inl rfl
  | some g =>
    refine .inr fun e => ?_
    have h1 := (h.lt g hv).2
    have h2 := (h'.lt g e.symm).1
    omega
set_option maxRecDepth 100000 in
set_option maxHeartbeats 4000000 in
theorem lawRecognize_c (A : Option Addr) (n c : Nat) (ps : List Ph) (w : World) (h : Sl w w.heap.size 2 A n (ps.flatMap Ph.cells)) (hm : n ≤ maxLen) (hz : ∀ p ∈ ps, p.c.size ≤ maxLen) :
    Calls Try.prog 3 #[.slice A n c] w fun e w' => e = .returned (.bool true) ∧ Below w.heap.size w w' := by
  have hSz := szPhaseS_c A n c ps 1048576 w h hm hz (by omega) (by omega)
  have hSp0 := fun (A1 : Option Addr) (c1 : Nat) (w1 : World) (h1 : Sl w1 w1.heap.size 2 A1 n (ps.flatMap Ph.cells)) (hn : n ≤ 1048576) => recSpec_c A1 n c1 ps w1 h1 hn hz
  have hIm0 := fun (A1 : Option Addr) (c1 : Nat) (w1 : World) (h1 : Sl w1 w1.heap.size 2 A1 n (ps.flatMap Ph.cells)) (hn : n ≤ 1048576) => recImpl_c A1 n c1 ps w1 h1 hn hz
  have hN0 := recO_len ps
  obtain ⟨r, hr⟩ : ∃ r, recO ps = r := ⟨_, rfl⟩
  rw [hr] at hSp0 hIm0 hN0
  obtain ⟨q, X⟩ := r
  clear hr
  obtain ⟨N, hN⟩ : ∃ N, X.gs.length = N := ⟨_, rfl⟩
  have hNb : N ≤ 1048576 := by rw [← hN]; exact hN0
  have hSp : ∀ (A1 : Option Addr) (c1 : Nat) (w1 : World), Sl w1 w1.heap.size 2 A1 n (ps.flatMap Ph.cells) → n ≤ 1048576 → Calls Try.prog 6 #[.slice A1 n c1] w1 fun e w' => ∃ A' c', e = .returned (.tuple #[chV X.k A' N c' X.l X.cs X.p, .int .i64 q]) ∧ w'.ownsRow w1.heap.size 2 1 (.slice A' N c') N (X.gs.flatMap intC) ∧ Below w1.heap.size w1 w' := fun A1 c1 w1 h1 hn => hN ▸ hSp0 A1 c1 w1 h1 hn
  have hIm : ∀ (A1 : Option Addr) (c1 : Nat) (w1 : World), Sl w1 w1.heap.size 2 A1 n (ps.flatMap Ph.cells) → n ≤ 1048576 → Calls Try.prog 8 #[.slice A1 n c1] w1 fun e w' => ∃ A' c', e = .returned (.tuple #[chV X.k A' N c' X.l X.cs X.p, .int .i64 q]) ∧ w'.ownsRow w1.heap.size 2 1 (.slice A' N c') N (X.gs.flatMap intC) ∧ Below w1.heap.size w1 w' := fun A1 c1 w1 h1 hn => hN ▸ hIm0 A1 c1 w1 h1 hn
  have hTo : ∀ w1, Below w.heap.size w w1 → n ≤ 1048576 → Calls Try.prog 7 #[.slice A n c] w1 fun e w' => ∃ A' c', e = .returned (.slice A' n c') ∧ w'.ownsRow w1.heap.size 58 2 (.slice A' n c') n (ps.flatMap Ph.cells) ∧ Below w1.heap.size w1 w' := fun w1 hb hn => by
    refine (toPhaseS_c A n c ps w1 (h.next hb) hn).mono ?_
    rintro e w' ⟨v, rfl, ho, hb⟩
    obtain ⟨A', c', rfl⟩ := own_slice ho
    exact ⟨A', c', rfl, ho, hb⟩
  have hEq : ∀ (A1 A2 : Option Addr) (c1 c2 : Nat) (w1 : World), Sl w1 w1.heap.size 1 A1 N (X.gs.flatMap intC) → Sl w1 w1.heap.size 1 A2 N (X.gs.flatMap intC) → Calls Try.prog 9 #[chV X.k A1 N c1 X.l X.cs X.p, chV X.k A2 N c2 X.l X.cs X.p] w1 fun e w' => e = .returned (.bool true) ∧ Below w1.heap.size w1 w' := fun A1 A2 c1 c2 w1 s1 s2 => eqCharacter_c X.k A1 A2 N c1 c2 X.l X.cs X.p X.gs w1 s1 s2 hNb
  have HSz := Lib.hid hSz; clear hSz
  have HSp := Lib.hid hSp; clear hSp
  have HIm := Lib.hid hIm; clear hIm
  have HTo := Lib.hid hTo; clear hTo
  have HEq := Lib.hid hEq; clear hEq
  have HN := Lib.hid hN; clear hN
  clear hSp0 hIm0 hN0 h hz
  go_enter Try.func3, Try.ntmps3
  go_wp2_with fail
  refine HSz.out.mono ?_
  rintro e w1 ⟨r, rfl, hr, hb1⟩
  go_wp2_with fail
  · go_ret
    exact ⟨rfl, hb1⟩
  have hn : n ≤ 1048576 := by
    rcases hr with hr | hr
    · omega
    · omega
  clear hr
  refine (HTo.out _ hb1 hn).mono ?_
  rintro e w2 ⟨A2, c2, rfl, o2, hb2⟩
  have H2 := hb1.trans (hb2.mono hb1.size)
  go_wp2_with fail
  refine (HSp.out A2 c2 _ (Sl.of_own o2) hn).mono ?_
  rintro e w3 ⟨A3, c3, rfl, o3, hb3⟩
  have H3 := H2.trans (hb3.mono H2.size)
  clear o2 hb2 hb3
  have hb4 : Below w3.heap.size w3 (w3.alloc (.cells #[.int .i64 X.k, .slice A3 N c3, .string X.l, .string X.cs, .int .i64 X.p] 26)) := (Below.refl _ _).alloc (Nat.le_refl _) _
  have r4 := rowC.new w3 X.k (.slice A3 N c3) X.l X.cs X.p
  have o4 := own_next o3 hb4
  have H4 := H3.trans (hb4.mono H3.size)
  obtain ⟨b4, hb4e⟩ : ∃ b, w3.heap.size = b := ⟨_, rfl⟩
  rw [hb4e] at r4
  clear hb4 o3
  go_wp2_with fail
  try rw [hb4e]
  generalize w3.alloc (.cells #[.int .i64 X.k, .slice A3 N c3, .string X.l, .string X.cs, .int .i64 X.p] 26) = w4 at *
  clear hb4e
  refine (HTo.out _ H4 hn).mono ?_
  rintro e w5 ⟨A5, c5, rfl, o5, hb5⟩
  have H5 := H4.trans (hb5.mono H4.size)
  have r5 := r4.next hb5
  have p5 := own_next o4 hb5
  have hb4w : b4 < w4.heap.size := r4.lt
  go_wp2_with fail
  refine (HIm.out A5 c5 _ (Sl.of_own o5) hn).mono ?_
  rintro e w6 ⟨A6, c6, rfl, o6, hb6⟩
  have H6 := H5.trans (hb6.mono H5.size)
  have r6 := r5.next hb6
  have p6 := own_next p5 hb6
  have x6 := own_next o5 hb6
  have hb5' := hb5
  have hap := own_apart p5 o6 (Nat.le_refl _)
  clear hb5 hb6 o5 r4 r5 o4 p5
  have hb7 : Below w6.heap.size w6 (w6.alloc (.cells #[.int .i64 X.k, .slice A6 N c6, .string X.l, .string X.cs, .int .i64 X.p] 26)) := (Below.refl _ _).alloc (Nat.le_refl _) _
  have t7 := rowC.new w6 X.k (.slice A6 N c6) X.l X.cs X.p
  have r7 := r6.next hb7
  have p7 := own_next p6 hb7
  have x7 := own_next x6 hb7
  have g7 := own_next o6 hb7
  have H7 := H6.trans (hb7.mono H6.size)
  obtain ⟨b7, hb7e⟩ : ∃ b, w6.heap.size = b := ⟨_, rfl⟩
  rw [hb7e] at t7
  have hx7 : ∀ g, (Value.slice A5 n c5).ownBlock = some g → w4.heap.size ≤ g ∧ g < b7 := fun g hg => by
    have := x6.lt g hg
    omega
  have hg7 : ∀ g, (Value.slice A6 N c6).ownBlock = some g → w5.heap.size ≤ g ∧ g < b7 := fun g hg => by
    have := o6.lt g hg
    omega
  have hw45 : w4.heap.size ≤ w5.heap.size := hb5'.size
  have Hg7 := Lib.hid hg7; clear hg7
  have Hx7 := Lib.hid hx7; clear hx7
  have Hap := Lib.hid hap; clear hap
  clear hb7 o6 p6 x6 r6 hb5'
  obtain ⟨a0, a1, a2, a3, a4, a5⟩ := r7.facts
  have hqq : (q != q) = false := by simp
  go_wp2_with fail
  try rw [hb7e]
  generalize w6.alloc (.cells #[.int .i64 X.k, .slice A6 N c6, .string X.l, .string X.cs, .int .i64 X.p] 26) = w7 at *
  clear hb7e a0 a1 a2 a3 a4 a5
  refine (HEq.out A6 A3 c6 c3 _ (Sl.of_own g7) (Sl.of_own p7)).mono ?_
  rintro e w8 ⟨rfl, hb8⟩
  have r8 := r7.next hb8
  have t8 := t7.next hb8
  have p8 := own_next p7 hb8
  have x8 := own_next x7 hb8
  have g8 := own_next g7 hb8
  have H8 := H7.trans (hb8.mono H7.size)
  clear r7 t7 p7 x7 g7 hb8
  go_wp2_with fail
  refine (HTo.out _ H8 hn).mono ?_
  rintro e w9 ⟨A9, c9, rfl, o9, hb9⟩
  have x9 := own_next x8 hb9
  have H9 := H8.trans (hb9.mono H8.size)
  go_wp2_with fail
  refine (eqPhaseS_c A5 A9 n c5 c9 ps _ (Sl.of_own x9) (Sl.of_own o9) (by unfold maxLen; omega)).mono ?_
  rintro e w10 ⟨rfl, hb10⟩
  have r10 := (r8.next hb9).next hb10
  have t10 := (t8.next hb9).next hb10
  have p10 := own_next (own_next p8 hb9) hb10
  have x10 := own_next x9 hb10
  have g10 := own_next (own_next g8 hb9) hb10
  have H10 := H9.trans (hb10.mono H9.size)
  clear r8 t8 p8 x8 g8 hb9 hb10 x9 o9
  have hMk : Calls Try.prog 11 #[.slice A5 n c5, .int .i64 1] w10 fun e w' => e = .returned (.int .i64 (1 + 2 * n : Nat)) ∧ w'.ownsRow w4.heap.size 58 2 (.slice A5 n c5) n ((markPhs 1 n).flatMap Ph.cells) ∧ w10.grownBy w' (Value.slice A5 n c5).ownBlock := markPhaseS_c A5 n c5 1 w4.heap.size _ w10 x10 hn (by omega) (by omega)
  have HMk := Lib.hid hMk; clear hMk
  go_wp2_with fail
  refine HMk.out.mono ?_
  rintro e w11 ⟨rfl, x11, hg11⟩
  have hr4n : (Value.slice A5 n c5).ownBlock ≠ some b4 := fun e => by have := (Hx7.out b4 e).1; omega
  have hr7n : (Value.slice A5 n c5).ownBlock ≠ some b7 := fun e => by have := (Hx7.out b7 e).2; omega
  have r11 := r10.grown hg11 hr4n
  have t11 := t10.grown hg11 hr7n
  have p11 := own_grown p10 hg11 (own_ne p10 x10 (by decide))
  have g11 := own_grown g10 hg11 (own_ne g10 x10 (by decide))
  have H11 : Below w.heap.size w w11 := H10.grown hg11 H10.size fun g hg => Nat.le_trans H4.size (Hx7.out g hg).1
  clear r10 t10 p10 g10 x10 hg11 hr4n hr7n
  have hM0 : ¬ ((1 + 2 * n : Nat) : Int) < 0 := by omega
  obtain ⟨M, hM⟩ : ∃ M : Int, ((1 + 2 * n : Nat) : Int) = M := ⟨_, rfl⟩
  rw [hM] at hM0 ⊢
  have HM := Lib.hid hM; clear hM
  obtain ⟨a0, a1, a2, a3, a4, a5⟩ := r11.facts
  obtain ⟨d0, d1, d2, d3, d4, d5⟩ := t11.facts
  go_wp2_with fail
  refine (HEq.out A6 A3 c6 c3 _ (Sl.of_own g11) (Sl.of_own p11)).mono ?_
  rintro e w12 ⟨rfl, hb12⟩
  have r12 := r11.next hb12
  have t12 := t11.next hb12
  have p12 := own_next p11 hb12
  have g12 := own_next g11 hb12
  have H12 := H11.trans (hb12.mono H11.size)
  clear r11 t11 p11 g11 hb12 a0 a1 a2 a3 a4 a5 d0 d1 d2 d3 d4 d5
  obtain ⟨d0, d1, d2, d3, d4, d5⟩ := t12.facts
  have hMc : Calls Try.prog 12 #[chV X.k A6 N c6 X.l X.cs X.p, .int .i64 1] w12 fun e w' => e = .returned (.int .i64 (1 + N : Nat)) ∧ w'.ownsRow w5.heap.size 2 1 (.slice A6 N c6) N ((markInts 1 N).flatMap intC) ∧ w12.grownBy w' (Value.slice A6 N c6).ownBlock := markChr_c X.k A6 N c6 X.l X.cs X.p X.gs 1 w5.heap.size w12 g12 hNb (by omega)
  have HMc := Lib.hid hMc; clear hMc
  go_wp2_with fail
  refine HMc.out.mono ?_
  rintro e w13 ⟨rfl, g13, hg13⟩
  have hr4n : (Value.slice A6 N c6).ownBlock ≠ some b4 := fun e => by have := (Hg7.out b4 e).1; omega
  have hr7n : (Value.slice A6 N c6).ownBlock ≠ some b7 := fun e => by have := (Hg7.out b7 e).2; omega
  have r13 := r12.grown hg13 hr4n
  have t13 := t12.grown hg13 hr7n
  have p13 := own_grown p12 hg13 Hap.out
  have H13 : Below w.heap.size w w13 := H12.grown hg13 H12.size fun g hg => Nat.le_trans H5.size (Hg7.out g hg).1
  clear r12 t12 p12 g12 hg13 hr4n hr7n d0 d1 d2 d3 d4 d5
  have hHe : ∀ w1, Sl w1 w1.heap.size 1 A6 N ((markInts 1 N).flatMap intC) → Calls Try.prog 13 #[chV X.k A6 N c6 X.l X.cs X.p, .int .i64 1] w1 fun e w' => e = .returned (.int .i64 (1 + N : Nat)) ∧ Below w1.heap.size w1 w' := fun w1 s1 => heldChr_c X.k A6 N c6 X.l X.cs X.p 1 w1 s1 hNb (by omega)
  have hK0 : ¬ ((1 + N : Nat) : Int) < 0 := by omega
  obtain ⟨K, hKe⟩ : ∃ K : Int, ((1 + N : Nat) : Int) = K := ⟨_, rfl⟩
  rw [hKe] at hHe hK0 ⊢
  have hKK : (K != K) = false := by simp
  have HKe := Lib.hid hKe; clear hKe
  have HHe := Lib.hid hHe; clear hHe
  obtain ⟨d0, d1, d2, d3, d4, d5⟩ := t13.facts
  go_wp2_with fail
  refine (HHe.out _ (Sl.of_own g13)).mono ?_
  rintro e w14 ⟨rfl, hb14⟩
  have r14 := r13.next hb14
  have t14 := t13.next hb14
  have p14 := own_next p13 hb14
  have g14 := own_next g13 hb14
  have H14 := H13.trans (hb14.mono H13.size)
  clear r13 t13 p13 g13 hb14 d0 d1 d2 d3 d4 d5
  go_wp2_with fail
  refine (HTo.out _ H14 hn).mono ?_
  rintro e w15 ⟨A15, c15, rfl, o15, hb15⟩
  have H15 := H14.trans (hb15.mono H14.size)
  go_wp2_with fail
  refine (HIm.out A15 c15 _ (Sl.of_own o15) hn).mono ?_
  rintro e w16 ⟨A16, c16, rfl, o16, hb16⟩
  have r16 := (r14.next hb15).next hb16
  have t16 := (t14.next hb15).next hb16
  have p16 := own_next (own_next p14 hb15) hb16
  have g16 := own_next (own_next g14 hb15) hb16
  have H16 := H15.trans (hb16.mono H15.size)
  clear r14 t14 p14 g14 hb15 hb16 o15
  have hb17 : Below w16.heap.size w16 (w16.alloc (.cells #[.int .i64 X.k, .slice A16 N c16, .string X.l, .string X.cs, .int .i64 X.p] 26)) := (Below.refl _ _).alloc (Nat.le_refl _) _
  have r17 := r16.next hb17
  have t17 := t16.next hb17
  have p17 := own_next p16 hb17
  have g17 := own_next g16 hb17
  have o17 := own_next o16 hb17
  have H17 := H16.trans (hb17.mono H16.size)
  obtain ⟨a0, a1, a2, a3, a4, a5⟩ := r17.facts
  have hb4w2 : b4 < w16.heap.size := r16.lt
  clear hb17 r16 t16 p16 g16 o16
  go_wp2_with fail
  generalize w16.alloc (.cells #[.int .i64 X.k, .slice A16 N c16, .string X.l, .string X.cs, .int .i64 X.p] 26) = w17 at *
  clear a0 a1 a2 a3 a4 a5
  refine (HEq.out A16 A3 c16 c3 _ (Sl.of_own o17) (Sl.of_own p17)).mono ?_
  rintro e w18 ⟨rfl, hb18⟩
  have t18 := t17.next hb18
  have g18 := own_next g17 hb18
  have H18 := H17.trans (hb18.mono H17.size)
  clear r17 t17 p17 g17 o17 hb18
  obtain ⟨d0, d1, d2, d3, d4, d5⟩ := t18.facts
  go_wp2_with fail
  refine (HHe.out _ (Sl.of_own g18)).mono ?_
  rintro e w19 ⟨rfl, hb19⟩
  have H19 := H18.trans (hb19.mono H18.size)
  go_wp2_with fail
  go_ret
  exact ⟨rfl, H19⟩
end Go.Proofs.Ytgibbhipjpbdfaa

/- FnExactRecognizeCharacter returns true for every input, and leaves its arguments as they were. No condition. -/
namespace Go.Proofs.Ytgibbhipjpbdfaa.prRecognizeCharacter
open Go.ChangeShapes Go.WideShapes Go.ChangeAt Go.RowKit
theorem own : ownKnob Try.prog.godebug = none := by kernel_rfl
theorem laidOut : laidOutB Try.prog = true := by kernel_rfl
set_option maxRecDepth 100000 in
theorem lifted (os : Os) (started : os.Started) (H : Type) (enc : TypeId × Value → H) :
    ReturnsInHanded {} Try.checked os 3 .any (Rows.fnExactRecognizeCharacterSpec.pre6 enc Try.prog Try.f3 Rows.fnExactRecognizeCharacterRow.domain false) (Rows.fnExactRecognizeCharacterSpec.post enc Try.prog Try.f3 false true false false) := by
  refine returnsInHanded_of_change (C := Try.checked) own started (by kernel_rfl) Try.func3
    (ChangeSpec.witness6 (enc := enc) (C := Try.checked) false ⟨#[], #[.slice none 0 0], []⟩ 8 (by kernel_rfl) (by kernel_rfl) (by kernel_rfl) (by kernel_rfl)) ?_
  intro W base args ds gs before hval0 hW hcnd _
  have hval : ∀ (j : Nat) t v, Try.f3.params[j]? = some t → args[j]? = some v → Value.okWide Try.prog W .any base t v := hval0
  have hW' := hW
  obtain ⟨p, q, hA0, hV, rfl, hfz, hnd⟩ := hW
  have hA : DataW.TrodAll enc Try.prog W 0 (fun _ => true) true Try.f3.params.toList args.toList ds p := hA0
  rw [Try.params3] at hA hval
  obtain ⟨v0, vs0, d0, ds0, p0, q0, hargs, rfl, rfl, h0, r0⟩ := trodAll_cons hA
  obtain ⟨rfl, rfl, rfl⟩ := trodAll_nil r0
  obtain rfl : args = #[v0] := by cases args; simp_all
  obtain ⟨rfl, rfl⟩ := trodVars_none hV
  obtain ⟨a0, n0, c0, rfl⟩ := okWide_slice Try.underlying22 (hval 0 22 v0 rfl rfl)
  have k0 := h0
  have lt0 : ∀ x ∈ p0, x.block < W.heap.size := by obtain ⟨m, hm⟩ := k0; exact DataW.trod_lt m _ _ _ hm
  obtain ⟨m0, ps, s0, ok0⟩ : n0 ≤ maxLen ∧ ∃ ps : List Ph, Sl W W.heap.size 2 a0 n0 (ps.flatMap Ph.cells) ∧ ∀ q ∈ ps, q.c.size ≤ maxLen := by
    obtain ⟨fuel, hf⟩ := h0
    exact open_Sl Ph.cells 2 Ph.cells_len (by omega) (fun q => q.c.size ≤ maxLen) Try.underlying22 (by kernel_rfl) phase_trod (by simpa [Value.cells] using hf)
  refine (lawRecognize_c a0 n0 c0 ps W s0 m0 ok0).mono fun e W' ⟨he, bel⟩ => ?_
  subst he
  exact ⟨_, rfl, _, _, _, [], _, [], hW', trodAll_mk1 (shut_bool Try.underlying4 _), (trodAll_cons_mk (Below.trod laidOut (by kernel_rfl) (of_decide_eq_true (by kernel_rfl)) k0 bel lt0) trodAll_mk0), rfl, bel.frame _, fun h => by cases h⟩
theorem holds : Rows.FnExactRecognizeCharacterSaid :=
  OpenClaim.holds_of_wide 3 Try.f3 rfl rfl rfl rfl rfl rfl rfl ⟨rfl, rfl, rfl, rfl, rfl⟩ rfl rfl rfl rfl rfl (by kernel_rfl) Try.func3 (by kernel_rfl)
    (of_decide_eq_true (by kernel_rfl)) (by unfold Func.isWrapper; first | (rw [if_pos (by decide +kernel)]; kernel_rfl) | (rw [if_neg (by decide +kernel)]; exact ⟨rfl, rfl⟩))
    (fun os started H enc _ => lifted os started H enc)
#print axioms holds
end Go.Proofs.Ytgibbhipjpbdfaa.prRecognizeCharacter
