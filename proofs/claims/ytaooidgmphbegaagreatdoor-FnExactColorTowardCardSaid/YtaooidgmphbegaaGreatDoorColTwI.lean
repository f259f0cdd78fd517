/- ColorToward: the program. -/
import Derived.Test.YtaooidgmphbegaaGreatDoorColG
namespace Go.Proofs.YtaooidgmphbegaaGreatDoor
open Go.RowKit
set_option maxRecDepth 100000 in
set_option maxHeartbeats 2000000 in
theorem implColor_c (z : AidG) (u v : Int) (w : World) (h : AidOk w z) (ht : Tab w) :
    Calls Tryz.prog 46 #[z.val, ptV u v] w fun e w' => e = .returned (.tuple #[.string (colS z.a u v), .int .i64 (colK z.a u v)]) ∧ Below w.heap.size w w' := by
  have hb0 : Below w.heap.size w ((w.alloc (aidO z 39)).alloc (.cells #[.int .i64 u, .int .i64 v] 34)) := by (repeat (first | (with_reducible assumption) | (with_reducible exact Below.refl _ _) | exact Nat.le_refl _ | exact Below.size (by with_reducible assumption) | (with_reducible refine Below.drew ?_) | (with_reducible refine below_drewN ?_ _) | (with_reducible refine Below.alloc ?_ ?_ _) | (with_reducible refine Below.setCell ?_ ?_ _) | (with_reducible refine le_alloc ?_ _) | (with_reducible refine le_set ?_ _ _) | (with_reducible refine le_drew ?_) | (with_reducible refine le_drewN ?_ _) | omega | (dsimp only; omega)))
  have p1 := (aidp_box w z 39).next (w' := (w.alloc (aidO z 39)).alloc (.cells #[.int .i64 u, .int .i64 v] 34)) (by (repeat (first | (with_reducible assumption) | (with_reducible exact Below.refl _ _) | exact Nat.le_refl _ | exact Below.size (by with_reducible assumption) | (with_reducible refine Below.drew ?_) | (with_reducible refine below_drewN ?_ _) | (with_reducible refine Below.alloc ?_ ?_ _) | (with_reducible refine Below.setCell ?_ ?_ _) | (with_reducible refine le_alloc ?_ _) | (with_reducible refine le_set ?_ _ _) | (with_reducible refine le_drew ?_) | (with_reducible refine le_drewN ?_ _) | omega | (dsimp only; omega))))
  have p2 := PtP.box (w.alloc (aidO z 39)) u v
  have hsz : (w.alloc (aidO z 39)).heap.size = w.heap.size + 1 := by simp
  rw [hsz] at p2
  have s1 := h.next hb0
  obtain ⟨w0, hw⟩ : ∃ w0, (w.alloc (aidO z 39)).alloc (.cells #[.int .i64 u, .int .i64 v] 34) = w0 := ⟨_, rfl⟩
  rw [hw] at p1 p2 hb0 s1
  clear hsz
  obtain ⟨T, hT⟩ : ∃ T, colTow z.a u v = T := ⟨_, rfl⟩
  obtain ⟨A, hA⟩ : ∃ A, aidB z.a = A := ⟨_, rfl⟩
  obtain ⟨Q, hQ⟩ : ∃ Q, ptB u v = Q := ⟨_, rfl⟩
  obtain ⟨L, hL⟩ : ∃ L, litB z.a = L := ⟨_, rfl⟩
  obtain ⟨E, hE⟩ : ∃ E, (z.a.x == u && z.a.y == v) = E := ⟨_, rfl⟩
  have he := eql_point z.a.x z.a.y u v
  have hg := pointGuard
  rw [hE] at he
  have hS : colS z.a u v = bif A && Q && (L && !E) then T else ⟨#[]⟩ := by rw [colS, hA, hQ, hL, hE, hT]
  have hK : colK z.a u v = bif A && Q then bif L && !E then 0 else 6 else 1 := by rw [colK, hA, hQ, hL, hE]
  rw [hS, hK]
  clear hS hK
  have ht0 := ht.next hb0
  have hO : Calls Tryz.prog 18 #[z.val] w0 fun e w' => e = .returned (.bool A) ∧ Below w0.heap.size w0 w' := hA ▸ implValidAid_c z w0 s1 ht0
  have hP : ∀ w1, Calls Tryz.prog 70 #[ptV u v] w1 fun e w' => e = .returned (.bool Q) ∧ Below w1.heap.size w1 w' := fun w1 => hQ ▸ validPoint_c u v w1
  have hI : ∀ w1, A = true → Below w0.heap.size w0 w1 → Calls Tryz.prog 73 #[z.val] w1 fun e w' => e = .returned (.bool L) ∧ Below w1.heap.size w1 w' := fun w1 _ hb => hL ▸ lit_c z w1 (s1.next hb)
  have hC : ∀ w1, A = true → Q = true → L = true → E = false → Below w0.heap.size w0 w1 → Calls Tryz.prog 94 #[z.val, ptV u v] w1 fun e w' => e = .returned (.string T) ∧ Below w1.heap.size w1 w' := fun w1 h1 h2 h3 h4 hb => hT ▸ colorToward_c z u v w1 (s1.next hb) (hA.trans h1) (hL.trans h3) (hQ.trans h2) (hE.trans h4)
  obtain ⟨c0, c1, c2, c3, c4, c5, c6, c7, c8, c9, c10, c11, c12, c13, c14, c15, _⟩ := id p1
  simp only [Nat.zero_add] at c1 c2 c3 c4 c5 c6 c7 c8 c9 c10 c11 c12 c13 c14 c15
  have hz := p1.hb
  have HO := Lib.hid hO; clear hO
  have HP := Lib.hid hP; clear hP
  have HI := Lib.hid hI; clear hI
  have HC := Lib.hid hC; clear hC
  clear hT hA hQ hL hE s1 h ht ht0
  cases A
  · as_aux_lemma =>
    go_enter Tryz.func46, Tryz.ntmps46
    go_wp2_with fail
    try rw [hw]
    clear hw
    as_aux_lemma =>
      refine HO.out.mono ?_
      rintro e w1 ⟨rfl, hb1⟩
      clear c0 c1 c2 c3 c4 c5 c6 c7 c8 c9 c10 c11 c12 c13 c14 c15
      go_wp2_with fail
      go_ret2
      exact ⟨rfl, hb0.trans (hb1.mono hb0.size)⟩
  cases Q
  · as_aux_lemma =>
    go_enter Tryz.func46, Tryz.ntmps46
    go_wp2_with fail
    try rw [hw]
    clear hw
    as_aux_lemma =>
      refine HO.out.mono ?_
      rintro e w1 ⟨rfl, hb1⟩
      clear c0 c1 c2 c3 c4 c5 c6 c7 c8 c9 c10 c11 c12 c13 c14 c15
      obtain ⟨d0, d1, _⟩ := p2.next hb1
      obtain ⟨c0, c1, c2, c3, c4, c5, c6, c7, c8, c9, c10, c11, c12, c13, c14, c15, _⟩ := p1.next hb1
      simp only [Nat.zero_add] at c1 c2 c3 c4 c5 c6 c7 c8 c9 c10 c11 c12 c13 c14 c15
      go_wp2_with fail
      as_aux_lemma =>
        refine (HP.out _).mono ?_
        rintro e w2 ⟨rfl, hb2⟩
        replace hb2 := hb1.trans (hb2.mono hb1.size)
        go_wp2_with fail
        go_ret2
        exact ⟨rfl, hb0.trans (hb2.mono hb0.size)⟩
  cases L
  · as_aux_lemma =>
    go_enter Tryz.func46, Tryz.ntmps46
    go_wp2_with fail
    try rw [hw]
    clear hw
    as_aux_lemma =>
      refine HO.out.mono ?_
      rintro e w1 ⟨rfl, hb1⟩
      clear c0 c1 c2 c3 c4 c5 c6 c7 c8 c9 c10 c11 c12 c13 c14 c15
      obtain ⟨d0, d1, _⟩ := p2.next hb1
      obtain ⟨c0, c1, c2, c3, c4, c5, c6, c7, c8, c9, c10, c11, c12, c13, c14, c15, _⟩ := p1.next hb1
      simp only [Nat.zero_add] at c1 c2 c3 c4 c5 c6 c7 c8 c9 c10 c11 c12 c13 c14 c15
      go_wp2_with fail
      as_aux_lemma =>
        refine (HP.out _).mono ?_
        rintro e w2 ⟨rfl, hb2⟩
        replace hb2 := hb1.trans (hb2.mono hb1.size)
        clear c0 c1 c2 c3 c4 c5 c6 c7 c8 c9 c10 c11 c12 c13 c14 c15 d0 d1
        obtain ⟨d0, d1, _⟩ := p2.next hb2
        obtain ⟨c0, c1, c2, c3, c4, c5, c6, c7, c8, c9, c10, c11, c12, c13, c14, c15, _⟩ := p1.next hb2
        simp only [Nat.zero_add] at c1 c2 c3 c4 c5 c6 c7 c8 c9 c10 c11 c12 c13 c14 c15
        go_wp2_with fail
        as_aux_lemma =>
          refine (HI.out _ (by simp) hb2).mono ?_
          rintro e w3 ⟨rfl, hb3⟩
          replace hb3 := hb2.trans (hb3.mono hb2.size)
          go_wp2_with fail
          go_ret2
          exact ⟨rfl, hb0.trans (hb3.mono hb0.size)⟩
  cases E
  · as_aux_lemma =>
    go_enter Tryz.func46, Tryz.ntmps46
    go_wp2_with fail
    try rw [hw]
    clear hw
    as_aux_lemma =>
      refine HO.out.mono ?_
      rintro e w1 ⟨rfl, hb1⟩
      clear c0 c1 c2 c3 c4 c5 c6 c7 c8 c9 c10 c11 c12 c13 c14 c15
      obtain ⟨d0, d1, _⟩ := p2.next hb1
      obtain ⟨c0, c1, c2, c3, c4, c5, c6, c7, c8, c9, c10, c11, c12, c13, c14, c15, _⟩ := p1.next hb1
      simp only [Nat.zero_add] at c1 c2 c3 c4 c5 c6 c7 c8 c9 c10 c11 c12 c13 c14 c15
      go_wp2_with fail
      as_aux_lemma =>
        refine (HP.out _).mono ?_
        rintro e w2 ⟨rfl, hb2⟩
        replace hb2 := hb1.trans (hb2.mono hb1.size)
        clear c0 c1 c2 c3 c4 c5 c6 c7 c8 c9 c10 c11 c12 c13 c14 c15 d0 d1
        obtain ⟨d0, d1, _⟩ := p2.next hb2
        obtain ⟨c0, c1, c2, c3, c4, c5, c6, c7, c8, c9, c10, c11, c12, c13, c14, c15, _⟩ := p1.next hb2
        simp only [Nat.zero_add] at c1 c2 c3 c4 c5 c6 c7 c8 c9 c10 c11 c12 c13 c14 c15
        go_wp2_with fail
        as_aux_lemma =>
          refine (HI.out _ (by simp) hb2).mono ?_
          rintro e w3 ⟨rfl, hb3⟩
          replace hb3 := hb2.trans (hb3.mono hb2.size)
          clear c0 c1 c2 c3 c4 c5 c6 c7 c8 c9 c10 c11 c12 c13 c14 c15 d0 d1
          obtain ⟨d0, d1, _⟩ := p2.next hb3
          obtain ⟨c0, c1, c2, c3, c4, c5, c6, c7, c8, c9, c10, c11, c12, c13, c14, c15, _⟩ := p1.next hb3
          simp only [Nat.zero_add] at c1 c2 c3 c4 c5 c6 c7 c8 c9 c10 c11 c12 c13 c14 c15
          go_wp2_with fail
          as_aux_lemma =>
            refine (HC.out _ (by simp) (by simp) (by simp) (by simp) hb3).mono ?_
            rintro e w4 ⟨rfl, hb4⟩
            go_wp2_with fail
            go_ret2
            exact ⟨rfl, hb0.trans ((hb3.trans (hb4.mono hb3.size)).mono hb0.size)⟩
  · as_aux_lemma =>
    go_enter Tryz.func46, Tryz.ntmps46
    go_wp2_with fail
    try rw [hw]
    clear hw
    as_aux_lemma =>
      refine HO.out.mono ?_
      rintro e w1 ⟨rfl, hb1⟩
      clear c0 c1 c2 c3 c4 c5 c6 c7 c8 c9 c10 c11 c12 c13 c14 c15
      obtain ⟨d0, d1, _⟩ := p2.next hb1
      obtain ⟨c0, c1, c2, c3, c4, c5, c6, c7, c8, c9, c10, c11, c12, c13, c14, c15, _⟩ := p1.next hb1
      simp only [Nat.zero_add] at c1 c2 c3 c4 c5 c6 c7 c8 c9 c10 c11 c12 c13 c14 c15
      go_wp2_with fail
      as_aux_lemma =>
        refine (HP.out _).mono ?_
        rintro e w2 ⟨rfl, hb2⟩
        replace hb2 := hb1.trans (hb2.mono hb1.size)
        clear c0 c1 c2 c3 c4 c5 c6 c7 c8 c9 c10 c11 c12 c13 c14 c15 d0 d1
        obtain ⟨d0, d1, _⟩ := p2.next hb2
        obtain ⟨c0, c1, c2, c3, c4, c5, c6, c7, c8, c9, c10, c11, c12, c13, c14, c15, _⟩ := p1.next hb2
        simp only [Nat.zero_add] at c1 c2 c3 c4 c5 c6 c7 c8 c9 c10 c11 c12 c13 c14 c15
        go_wp2_with fail
        as_aux_lemma =>
          refine (HI.out _ (by simp) hb2).mono ?_
          rintro e w3 ⟨rfl, hb3⟩
          replace hb3 := hb2.trans (hb3.mono hb2.size)
          clear c0 c1 c2 c3 c4 c5 c6 c7 c8 c9 c10 c11 c12 c13 c14 c15 d0 d1
          obtain ⟨d0, d1, _⟩ := p2.next hb3
          obtain ⟨c0, c1, c2, c3, c4, c5, c6, c7, c8, c9, c10, c11, c12, c13, c14, c15, _⟩ := p1.next hb3
          simp only [Nat.zero_add] at c1 c2 c3 c4 c5 c6 c7 c8 c9 c10 c11 c12 c13 c14 c15
          go_wp2_with fail
          go_ret2
          exact ⟨rfl, hb0.trans (hb3.mono hb0.size)⟩
end Go.Proofs.YtaooidgmphbegaaGreatDoor
