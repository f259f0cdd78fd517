/- MarksDanger: both sides; the laws' own functions over dangers. -/
import Derived.Test.YtpgcgmbjlecnpaaGreatDoorDanG
import Derived.Test.YtpgcgmbjlecnpaaGreatDoorAidEq
namespace Go.Proofs.YtpgcgmbjlecnpaaGreatDoor
open Go.RowKit
set_option maxHeartbeats 1000000 in
theorem szDanger_c (d : Dang) (left : Int) (w : World) (hn : d.nm.size ≤ maxLen) (h0 : 0 ≤ left) (hl : left ≤ 1048576) :
    Calls Tryz.prog 6 #[danV d, .int .i64 left] w fun e w' => ∃ r : Int, e = .returned (.int .i64 r) ∧ (r = -1 ∨ 0 ≤ r ∧ r ≤ left ∧ d.nm.size ≤ 1048576) ∧ Below w.heap.size w w' := by
  unfold maxLen at hn
  have hb0 : Below w.heap.size w (w.alloc (danO d 25)) := by (repeat (first | (with_reducible assumption) | (with_reducible exact Below.refl _ _) | exact Nat.le_refl _ | exact Below.size (by with_reducible assumption) | (with_reducible refine Below.drew ?_) | (with_reducible refine below_drewN ?_ _) | (with_reducible refine Below.alloc ?_ ?_ _) | (with_reducible refine Below.setCell ?_ ?_ _) | (with_reducible refine le_alloc ?_ _) | (with_reducible refine le_set ?_ _ _) | (with_reducible refine le_drew ?_) | (with_reducible refine le_drewN ?_ _) | omega | (dsimp only; omega)))
  go_enter Tryz.func6, Tryz.ntmps6
  go_wp2
  · go_ret
    exact ⟨-1, rfl, .inl rfl, hb0⟩
  · go_ret
    exact ⟨_, rfl, .inr ⟨by omega, by omega, by omega⟩, hb0⟩
set_option maxRecDepth 100000 in
set_option maxHeartbeats 1000000 in
theorem toDanger_c (d : Dang) (w : World) :
    Calls Tryz.prog 9 #[danV d] w fun e w' => e = .returned (danV d) ∧ Below w.heap.size w w' := by
  go_enter Tryz.func9, Tryz.ntmps9
  go_wp2_with fail
  refine (toPoint_c _ _ _).mono ?_
  rintro e w1 ⟨rfl, hb1⟩
  have q0 := keepC hb1 w.heap.size (by simp; omega)
  have q1 := keepC hb1 (w.heap.size + 1) (by simp)
  have q2 := keepC hb1 (w.heap.size + 1 + 1) (by simp)
  have f0 := keepF hb1 w.heap.size (by simp; omega)
  have f1 := keepF hb1 (w.heap.size + 1) (by simp)
  have f2 := keepF hb1 (w.heap.size + 1 + 1) (by simp)
  have bw1 : Below w.heap.size w w1 := Below.trans (by (repeat (first | (with_reducible assumption) | (with_reducible exact Below.refl _ _) | exact Nat.le_refl _ | exact Below.size (by with_reducible assumption) | (with_reducible refine Below.drew ?_) | (with_reducible refine below_drewN ?_ _) | (with_reducible refine Below.alloc ?_ ?_ _) | (with_reducible refine Below.setCell ?_ ?_ _) | (with_reducible refine le_alloc ?_ _) | (with_reducible refine le_set ?_ _ _) | (with_reducible refine le_drew ?_) | (with_reducible refine le_drewN ?_ _) | omega | (dsimp only; omega)))) (hb1.mono (by simp; omega))
  clear hb1
  go_wp2_with fail
  exact bodyPost_ret (v := danV d) (by simp [results, Tryz.results9, go_sem, q1]) rfl ⟨rfl, by (repeat (first | (with_reducible assumption) | (with_reducible exact Below.refl _ _) | exact Nat.le_refl _ | exact Below.size (by with_reducible assumption) | (with_reducible refine Below.drew ?_) | (with_reducible refine below_drewN ?_ _) | (with_reducible refine Below.alloc ?_ ?_ _) | (with_reducible refine Below.setCell ?_ ?_ _) | (with_reducible refine le_alloc ?_ _) | (with_reducible refine le_set ?_ _ _) | (with_reducible refine le_drew ?_) | (with_reducible refine le_drewN ?_ _) | omega | (dsimp only; omega)))⟩
set_option maxRecDepth 100000 in
set_option maxHeartbeats 2000000 in
theorem specMarks_c (d : Dang) (z : AidG) (y : Int) (w : World) (h : AidOk w z) (hn : d.nm.size ≤ maxLen) :
    Calls Tryz.prog 8 #[danV d, z.val, .int .i64 y] w fun e w' => e = .returned (.bool (marksDB d z.a y)) ∧ Below w.heap.size w w' := by
  have hv : marksDB d z.a y = (danB d && (aidB z.a && (inB y 0 20000 && marksB d z.a y))) := rfl
  rw [hv]
  have hb0 : Below w.heap.size w ((w.alloc (danO d 39)).alloc (aidO z 45)) := by (repeat (first | (with_reducible assumption) | (with_reducible exact Below.refl _ _) | exact Nat.le_refl _ | exact Below.size (by with_reducible assumption) | (with_reducible refine Below.drew ?_) | (with_reducible refine below_drewN ?_ _) | (with_reducible refine Below.alloc ?_ ?_ _) | (with_reducible refine Below.setCell ?_ ?_ _) | (with_reducible refine le_alloc ?_ _) | (with_reducible refine le_set ?_ _ _) | (with_reducible refine le_drew ?_) | (with_reducible refine le_drewN ?_ _) | omega | (dsimp only; omega)))
  have p1 := (DanP.box w d 39).next (w' := (w.alloc (danO d 39)).alloc (aidO z 45)) (by (repeat (first | (with_reducible assumption) | (with_reducible exact Below.refl _ _) | exact Nat.le_refl _ | exact Below.size (by with_reducible assumption) | (with_reducible refine Below.drew ?_) | (with_reducible refine below_drewN ?_ _) | (with_reducible refine Below.alloc ?_ ?_ _) | (with_reducible refine Below.setCell ?_ ?_ _) | (with_reducible refine le_alloc ?_ _) | (with_reducible refine le_set ?_ _ _) | (with_reducible refine le_drew ?_) | (with_reducible refine le_drewN ?_ _) | omega | (dsimp only; omega))))
  have p2 := aidp_box (w.alloc (danO d 39)) z 45
  have hsz : (w.alloc (danO d 39)).heap.size = w.heap.size + 1 := by simp
  rw [hsz] at p2
  obtain ⟨w0, hw⟩ : ∃ w0, (w.alloc (danO d 39)).alloc (aidO z 45) = w0 := ⟨_, rfl⟩
  rw [hw] at p1 p2 hb0
  clear hsz
  obtain ⟨c0, c1, c2, c3, hz⟩ := id p1
  have f2 := p2.c2
  have f3 := p2.c3
  have f5 := p2.c5
  have hz' := p2.hb
  simp only [Nat.zero_add] at f2 f3 f5
  have e1 : ∀ {w' : World}, Below w0.heap.size w0 w' → (Below w0.heap.size w0 w' ∧ (∀ x, w'.cell? ⟨w.heap.size, x, none⟩ = w0.cell? ⟨w.heap.size, x, none⟩) ∧ (∀ x, w'.cell? ⟨w.heap.size + 1, x, none⟩ = w0.cell? ⟨w.heap.size + 1, x, none⟩)) := fun hbb => ⟨hbb, keepC hbb _ hz, keepC hbb _ hz'⟩
  have s0 := h.next hb0
  obtain ⟨A, hA⟩ : ∃ A, danB d = A := ⟨_, rfl⟩
  obtain ⟨B, hB⟩ : ∃ B, aidB z.a = B := ⟨_, rfl⟩
  obtain ⟨C, hC⟩ : ∃ C, inB y 0 20000 = C := ⟨_, rfl⟩
  obtain ⟨M, hM⟩ : ∃ M, marksB d z.a y = M := ⟨_, rfl⟩
  rw [hA, hB, hC, hM]
  have h1 : Calls Tryz.prog 24 #[.pointer (some ⟨w.heap.size, 0, none⟩)] w0 fun e w' => e = .returned (.bool A) ∧ Below w0.heap.size w0 w' := hA ▸ l14One_c _ d w0 p1 hn
  have h2 : ∀ w1, Below w0.heap.size w0 w1 → Calls Tryz.prog 25 #[.pointer (some ⟨w.heap.size + 1, 0, none⟩)] w1 fun e w' => e = .returned (.bool B) ∧ Below w1.heap.size w1 w' := fun w1 hb => hB ▸ l12One_c _ 0 z w1 (p2.next hb) (s0.next hb)
  have h3 : ∀ w1, Calls Tryz.prog 26 #[.int .i64 y, .int .i64 0, .int .i64 20000] w1 fun e w' => e = .returned (.bool C) ∧ w1 = w' := fun w1 => hC ▸ l00In_c _ _ _ _
  have h4 : ∀ w1, A = true → B = true → C = true → Below w0.heap.size w0 w1 → Calls Tryz.prog 27 #[.pointer (some ⟨w.heap.size, 0, none⟩), .pointer (some ⟨w.heap.size + 1, 0, none⟩), .int .i64 y] w1 fun e w' => e = .returned (.bool M) ∧ Below w1.heap.size w1 w' := fun w1 ha hb hc hb1 => hM ▸ l14Marks_c _ _ d z y w1 (p1.next hb1) (p2.next hb1) (hA.trans ha) (hB.trans hb) (inB_iff.1 (hC.trans hc))
  have H1 := Lib.hid h1; clear h1
  have H2 := Lib.hid h2; clear h2
  have H3 := Lib.hid h3; clear h3
  have H4 := Lib.hid h4; clear h4
  clear hv hA hB hC hM e1
  cases A
  · go_enter Tryz.func8, Tryz.ntmps8
    go_wp2_with fail
    try rw [hw]
    clear hw
    refine H1.out.mono ?_
    rintro e w1 ⟨rfl, hb1⟩
    go_wp2_with fail
    go_ret
    exact ⟨rfl, hb0.trans (hb1.mono hb0.size)⟩
  cases B
  · go_enter Tryz.func8, Tryz.ntmps8
    go_wp2_with fail
    try rw [hw]
    clear hw
    refine H1.out.mono ?_
    rintro e w1 ⟨rfl, hb1⟩
    go_wp2_with fail
    refine (H2.out _ hb1).mono ?_
    rintro e w2 ⟨rfl, hb2⟩
    replace hb2 := hb1.trans (hb2.mono hb1.size)
    go_wp2_with fail
    go_ret
    exact ⟨rfl, hb0.trans (hb2.mono hb0.size)⟩
  cases C
  · go_enter Tryz.func8, Tryz.ntmps8
    go_wp2_with fail
    try rw [hw]
    clear hw
    refine H1.out.mono ?_
    rintro e w1 ⟨rfl, hb1⟩
    go_wp2_with fail
    refine (H2.out _ hb1).mono ?_
    rintro e w2 ⟨rfl, hb2⟩
    replace hb2 := hb1.trans (hb2.mono hb1.size)
    go_wp2_with fail
    refine (H3.out _).mono ?_
    rintro e w3 ⟨rfl, rfl⟩
    go_wp2_with fail
    go_ret
    exact ⟨rfl, hb0.trans (hb2.mono hb0.size)⟩
  · go_enter Tryz.func8, Tryz.ntmps8
    go_wp2_with fail
    try rw [hw]
    clear hw
    refine H1.out.mono ?_
    rintro e w1 ⟨rfl, hb1⟩
    go_wp2_with fail
    refine (H2.out _ hb1).mono ?_
    rintro e w2 ⟨rfl, hb2⟩
    replace hb2 := hb1.trans (hb2.mono hb1.size)
    go_wp2_with fail
    refine (H3.out _).mono ?_
    rintro e w3 ⟨rfl, rfl⟩
    go_wp2_with fail
    refine (H4.out _ (by simp) (by simp) (by simp) hb2).mono ?_
    rintro e w4 ⟨rfl, hb4⟩
    go_wp2_with fail
    go_ret
    exact ⟨ret_eq (bool_eq (by simp)), hb0.trans ((hb2.trans (hb4.mono hb2.size)).mono hb0.size)⟩
theorem isAway_c (n : Int) (w : World) : Calls Tryz.prog 34 #[.int .i64 n] w fun e w' => e = .returned (.bool (inB n 0 20000)) ∧ w = w' := by
  go_enter Tryz.func34, Tryz.ntmps34
  go_wp2_with (go_at_call 64; refine (within_c _ _ _ _).mono ?_; rintro e w1 ⟨rfl, rfl⟩)
  go_ret
  exact ⟨rfl, rfl⟩
set_option maxRecDepth 100000 in
set_option maxHeartbeats 4000000 in
theorem implMarks_c (d : Dang) (z : AidG) (y : Int) (w : World) (h : AidOk w z) (ht : Tab w) (hn : d.nm.size ≤ maxLen) :
    Calls Tryz.prog 11 #[danV d, z.val, .int .i64 y] w fun e w' => e = .returned (.bool (marksDB d z.a y)) ∧ Below w.heap.size w w' := by
  have hv : marksDB d z.a y = (danB d && (aidB z.a && (inB y 0 20000 && marksB d z.a y))) := rfl
  rw [hv]
  have hb0 : Below w.heap.size w ((w.alloc (danO d 39)).alloc (aidO z 45)) := by (repeat (first | (with_reducible assumption) | (with_reducible exact Below.refl _ _) | exact Nat.le_refl _ | exact Below.size (by with_reducible assumption) | (with_reducible refine Below.drew ?_) | (with_reducible refine below_drewN ?_ _) | (with_reducible refine Below.alloc ?_ ?_ _) | (with_reducible refine Below.setCell ?_ ?_ _) | (with_reducible refine le_alloc ?_ _) | (with_reducible refine le_set ?_ _ _) | (with_reducible refine le_drew ?_) | (with_reducible refine le_drewN ?_ _) | omega | (dsimp only; omega)))
  have p1 := (DanP.box w d 39).next (w' := (w.alloc (danO d 39)).alloc (aidO z 45)) (by (repeat (first | (with_reducible assumption) | (with_reducible exact Below.refl _ _) | exact Nat.le_refl _ | exact Below.size (by with_reducible assumption) | (with_reducible refine Below.drew ?_) | (with_reducible refine below_drewN ?_ _) | (with_reducible refine Below.alloc ?_ ?_ _) | (with_reducible refine Below.setCell ?_ ?_ _) | (with_reducible refine le_alloc ?_ _) | (with_reducible refine le_set ?_ _ _) | (with_reducible refine le_drew ?_) | (with_reducible refine le_drewN ?_ _) | omega | (dsimp only; omega))))
  have p2 := aidp_box (w.alloc (danO d 39)) z 45
  have hsz : (w.alloc (danO d 39)).heap.size = w.heap.size + 1 := by simp
  rw [hsz] at p2
  obtain ⟨w0, hw⟩ : ∃ w0, (w.alloc (danO d 39)).alloc (aidO z 45) = w0 := ⟨_, rfl⟩
  rw [hw] at p1 p2 hb0
  clear hsz
  obtain ⟨c0, c1, c2, c3, hz⟩ := id p1
  have f2 := p2.c2
  have f3 := p2.c3
  have f5 := p2.c5
  have hz' := p2.hb
  simp only [Nat.zero_add] at f2 f3 f5
  have e1 : ∀ {w' : World}, Below w0.heap.size w0 w' → (Below w0.heap.size w0 w' ∧ (∀ x, w'.cell? ⟨w.heap.size, x, none⟩ = w0.cell? ⟨w.heap.size, x, none⟩) ∧ (∀ x, w'.cell? ⟨w.heap.size + 1, x, none⟩ = w0.cell? ⟨w.heap.size + 1, x, none⟩)) := fun hbb => ⟨hbb, keepC hbb _ hz, keepC hbb _ hz'⟩
  have s0 := h.next hb0
  obtain ⟨A, hA⟩ : ∃ A, danB d = A := ⟨_, rfl⟩
  obtain ⟨B, hB⟩ : ∃ B, aidB z.a = B := ⟨_, rfl⟩
  obtain ⟨C, hC⟩ : ∃ C, inB y 0 20000 = C := ⟨_, rfl⟩
  obtain ⟨M, hM⟩ : ∃ M, marksB d z.a y = M := ⟨_, rfl⟩
  rw [hA, hB, hC, hM]
  have h1 : Calls Tryz.prog 32 #[danV d] w0 fun e w' => e = .returned (.bool A) ∧ Below w0.heap.size w0 w' := hA ▸ validDanger_c d w0 hn
  have h2 : ∀ w1, Below w0.heap.size w0 w1 → Calls Tryz.prog 33 #[z.val] w1 fun e w' => e = .returned (.bool B) ∧ Below w1.heap.size w1 w' := fun w1 hb => hB ▸ implValidAid_c z w1 (s0.next hb) ((ht.next hb0).next hb)
  have h3 : ∀ w1, Calls Tryz.prog 34 #[.int .i64 y] w1 fun e w' => e = .returned (.bool C) ∧ w1 = w' := fun w1 => hC ▸ isAway_c _ _
  have h4 : ∀ w1, A = true → B = true → C = true → Calls Tryz.prog 35 #[danV d, z.val, .int .i64 y] w1 fun e w' => e = .returned (.bool M) ∧ Below w1.heap.size w1 w' := fun w1 ha hb hc => hM ▸ marks_c d z y w1 (hA.trans ha) (hB.trans hb) (inB_iff.1 (hC.trans hc))
  clear f2 f3 f5 c0 c1 c2 c3
  obtain ⟨c0, c1, c2, c3, _⟩ := p1.next (Below.refl _ _)
  obtain ⟨f0, f1, f2, f3, f4, f5, f6, f7, f8, f9, f10, f11, f12, f13, f14, f15, _⟩ := p2.next (Below.refl _ _)
  simp only [Nat.zero_add] at f1 f2 f3 f4 f5 f6 f7 f8 f9 f10 f11 f12 f13 f14 f15
  have H1 := Lib.hid h1; clear h1
  have H2 := Lib.hid h2; clear h2
  have H3 := Lib.hid h3; clear h3
  have H4 := Lib.hid h4; clear h4
  clear hv hA hB hC hM e1 ht h s0
  cases A
  · as_aux_lemma =>
      go_enter Tryz.func11, Tryz.ntmps11
      go_wp2_with fail
      try rw [hw]
      clear hw
      refine H1.out.mono ?_
      rintro e w1 ⟨rfl, hb1⟩
      clear c0 c1 c2 c3 f0 f1 f2 f3 f4 f5 f6 f7 f8 f9 f10 f11 f12 f13 f14 f15
      obtain ⟨c0, c1, c2, c3, _⟩ := p1.next hb1
      obtain ⟨f0, f1, f2, f3, f4, f5, f6, f7, f8, f9, f10, f11, f12, f13, f14, f15, _⟩ := p2.next hb1
      simp only [Nat.zero_add] at f1 f2 f3 f4 f5 f6 f7 f8 f9 f10 f11 f12 f13 f14 f15
      go_wp2_with fail
      go_ret
      exact ⟨rfl, hb0.trans (hb1.mono hb0.size)⟩
  cases B
  · as_aux_lemma =>
      go_enter Tryz.func11, Tryz.ntmps11
      go_wp2_with fail
      try rw [hw]
      clear hw
      refine H1.out.mono ?_
      rintro e w1 ⟨rfl, hb1⟩
      clear c0 c1 c2 c3 f0 f1 f2 f3 f4 f5 f6 f7 f8 f9 f10 f11 f12 f13 f14 f15
      obtain ⟨c0, c1, c2, c3, _⟩ := p1.next hb1
      obtain ⟨f0, f1, f2, f3, f4, f5, f6, f7, f8, f9, f10, f11, f12, f13, f14, f15, _⟩ := p2.next hb1
      simp only [Nat.zero_add] at f1 f2 f3 f4 f5 f6 f7 f8 f9 f10 f11 f12 f13 f14 f15
      go_wp2_with fail
      refine (H2.out _ hb1).mono ?_
      rintro e w2 ⟨rfl, hb2⟩
      replace hb2 := hb1.trans (hb2.mono hb1.size)
      clear c0 c1 c2 c3 f0 f1 f2 f3 f4 f5 f6 f7 f8 f9 f10 f11 f12 f13 f14 f15
      obtain ⟨c0, c1, c2, c3, _⟩ := p1.next hb2
      obtain ⟨f0, f1, f2, f3, f4, f5, f6, f7, f8, f9, f10, f11, f12, f13, f14, f15, _⟩ := p2.next hb2
      simp only [Nat.zero_add] at f1 f2 f3 f4 f5 f6 f7 f8 f9 f10 f11 f12 f13 f14 f15
      go_wp2_with fail
      go_ret
      exact ⟨rfl, hb0.trans (hb2.mono hb0.size)⟩
  cases C
  · as_aux_lemma =>
      go_enter Tryz.func11, Tryz.ntmps11
      go_wp2_with fail
      try rw [hw]
      clear hw
      refine H1.out.mono ?_
      rintro e w1 ⟨rfl, hb1⟩
      clear c0 c1 c2 c3 f0 f1 f2 f3 f4 f5 f6 f7 f8 f9 f10 f11 f12 f13 f14 f15
      obtain ⟨c0, c1, c2, c3, _⟩ := p1.next hb1
      obtain ⟨f0, f1, f2, f3, f4, f5, f6, f7, f8, f9, f10, f11, f12, f13, f14, f15, _⟩ := p2.next hb1
      simp only [Nat.zero_add] at f1 f2 f3 f4 f5 f6 f7 f8 f9 f10 f11 f12 f13 f14 f15
      go_wp2_with fail
      refine (H2.out _ hb1).mono ?_
      rintro e w2 ⟨rfl, hb2⟩
      replace hb2 := hb1.trans (hb2.mono hb1.size)
      clear c0 c1 c2 c3 f0 f1 f2 f3 f4 f5 f6 f7 f8 f9 f10 f11 f12 f13 f14 f15
      obtain ⟨c0, c1, c2, c3, _⟩ := p1.next hb2
      obtain ⟨f0, f1, f2, f3, f4, f5, f6, f7, f8, f9, f10, f11, f12, f13, f14, f15, _⟩ := p2.next hb2
      simp only [Nat.zero_add] at f1 f2 f3 f4 f5 f6 f7 f8 f9 f10 f11 f12 f13 f14 f15
      go_wp2_with fail
      refine (H3.out _).mono ?_
      rintro e w3 ⟨rfl, rfl⟩
      go_wp2_with fail
      go_ret
      exact ⟨rfl, hb0.trans (hb2.mono hb0.size)⟩
  · as_aux_lemma =>
      go_enter Tryz.func11, Tryz.ntmps11
      go_wp2_with fail
      try rw [hw]
      clear hw
      refine H1.out.mono ?_
      rintro e w1 ⟨rfl, hb1⟩
      clear c0 c1 c2 c3 f0 f1 f2 f3 f4 f5 f6 f7 f8 f9 f10 f11 f12 f13 f14 f15
      obtain ⟨c0, c1, c2, c3, _⟩ := p1.next hb1
      obtain ⟨f0, f1, f2, f3, f4, f5, f6, f7, f8, f9, f10, f11, f12, f13, f14, f15, _⟩ := p2.next hb1
      simp only [Nat.zero_add] at f1 f2 f3 f4 f5 f6 f7 f8 f9 f10 f11 f12 f13 f14 f15
      go_wp2_with fail
      refine (H2.out _ hb1).mono ?_
      rintro e w2 ⟨rfl, hb2⟩
      replace hb2 := hb1.trans (hb2.mono hb1.size)
      clear c0 c1 c2 c3 f0 f1 f2 f3 f4 f5 f6 f7 f8 f9 f10 f11 f12 f13 f14 f15
      obtain ⟨c0, c1, c2, c3, _⟩ := p1.next hb2
      obtain ⟨f0, f1, f2, f3, f4, f5, f6, f7, f8, f9, f10, f11, f12, f13, f14, f15, _⟩ := p2.next hb2
      simp only [Nat.zero_add] at f1 f2 f3 f4 f5 f6 f7 f8 f9 f10 f11 f12 f13 f14 f15
      go_wp2_with fail
      refine (H3.out _).mono ?_
      rintro e w3 ⟨rfl, rfl⟩
      go_wp2_with fail
      refine (H4.out _ (by simp) (by simp) (by simp)).mono ?_
      rintro e w4 ⟨rfl, hb4⟩
      go_wp2_with fail
      go_ret
      exact ⟨ret_eq (bool_eq (by simp)), hb0.trans ((hb2.trans (hb4.mono hb2.size)).mono hb0.size)⟩
end Go.Proofs.YtpgcgmbjlecnpaaGreatDoor
