/- A work that is drawn. -/
import Derived.Test.YtgkdjohiclhcoaaVoyG
namespace Go.Proofs.Ytgkdjohiclhcoaa
open Go.RowKit
abbrev wkCs (z : Wk) : Array Value := #[.string z.name, .int .i64 z.x, .int .i64 z.y, .int .i64 z.ld, .int .i64 z.mi, .int .i64 z.fr, .int .i64 z.un]
/-- Two boxes of works: the result's at w.heap.size, and another at g. -/
structure DrW (w wx : World) (lo b a g : Nat) (z : Wk) : Prop where
  dr : Dr w wx lo b a
  res : wx.heap[w.heap.size]? = some (.cells (wkCs ⟨⟨#[]⟩, 0, 0, 0, 0, 0, 0⟩) 60 (0, 0))
  box : wx.heap[g]? = some (.cells (wkCs z) 60 (0, 0))
  ne : w.heap.size < g
theorem DrW.below {w wx wy : World} {lo b a g : Nat} {z : Wk} (h : DrW w wx lo b a g z) (hb : Below wx.heap.size wx wy) : DrW w wy lo b a g z := ⟨h.dr.below hb, row_below h.res hb, row_below h.box hb, h.ne⟩
theorem DrW.call {w wx wy : World} {lo b a a' g : Nat} {z : Wk} (h : DrW w wx lo b a g z) (hs : Src wy lo b a') (hg : wx.grownBy wy (some b)) : DrW w wy lo b a' g z :=
  ⟨h.dr.call hs hg, h.dr.row h.res hg (Nat.le_refl _), h.dr.row h.box hg (Nat.le_of_lt h.ne), h.ne⟩
theorem DrW.store {w wx : World} {lo b a g : Nat} {z : Wk} (h : DrW w wx lo b a g z) (j : Nat) (v : Value) (z' : Wk) (hz : (wkCs z).setIfInBounds j v = wkCs z') : DrW w (wx.setCell ⟨g, j, none⟩ v) lo b a g z' :=
  ⟨h.dr.store ⟨g, j, none⟩ (Nat.le_of_lt h.ne) v, row_grown h.res (set_grown wx ⟨g, j, none⟩ v) (by intro e; injection e with e; have := h.ne; simp only at e; omega), (heap_setCell_same wx g j _ _ v h.box).trans (by rw [hz]), h.ne⟩
theorem DrW.cells {w wx : World} {lo b a g : Nat} {z : Wk} (h : DrW w wx lo b a g z) : (wx.cell? ⟨g, 0, none⟩ = some (.string z.name) ∧ wx.cell? ⟨g, 1, none⟩ = some (.int .i64 z.x) ∧ wx.cell? ⟨g, 2, none⟩ = some (.int .i64 z.y) ∧ wx.cell? ⟨g, 3, none⟩ = some (.int .i64 z.ld) ∧ wx.cell? ⟨g, 4, none⟩ = some (.int .i64 z.mi) ∧ wx.cell? ⟨g, 5, none⟩ = some (.int .i64 z.fr) ∧ wx.cell? ⟨g, 6, none⟩ = some (.int .i64 z.un)) ∧ ∀ i, wx.frozen? ⟨g, i, none⟩ = false :=
  ⟨⟨(cell_of_row wx g 0 _ _ _ h.box).trans rfl, (cell_of_row wx g 1 _ _ _ h.box).trans rfl, (cell_of_row wx g 2 _ _ _ h.box).trans rfl, (cell_of_row wx g 3 _ _ _ h.box).trans rfl, (cell_of_row wx g 4 _ _ _ h.box).trans rfl, (cell_of_row wx g 5 _ _ _ h.box).trans rfl, (cell_of_row wx g 6 _ _ _ h.box).trans rfl⟩, fun i => frozen_of_row wx g i _ _ h.box⟩
theorem DrW.hold {w wx : World} {lo b a g : Nat} {z : Wk} (h : DrW w wx lo b a g z) : wx.cell? ⟨g, 5, none⟩ = some (.int .i64 z.fr) ∧ wx.cell? ⟨g, 4, none⟩ = some (.int .i64 z.mi) := ⟨h.cells.1.2.2.2.2.2.1, h.cells.1.2.2.2.2.1⟩
set_option maxRecDepth 100000 in
set_option maxHeartbeats 2000000 in
theorem l25DrawWork_c (nm : ByteArray) (lo b a : Nat) (w : World) (h : Src w lo b a) (ha : a ≤ 800000000) (hnm : nameB nm = true) :
    Calls Try.prog 63 #[.pointer (some ⟨b, 0, none⟩), .string nm] w fun e w' => ∃ z : Wk, e = .returned z.val ∧ wkB z = true ∧ z.name = nm ∧ Dr w w' lo b (a + 12) := by
  have hr0 : (w.alloc (.cells (wkCs ⟨⟨#[]⟩, 0, 0, 0, 0, 0, 0⟩) 60)).heap[w.heap.size]? = some (.cells (wkCs ⟨⟨#[]⟩, 0, 0, 0, 0, 0, 0⟩) 60 (0, 0)) := heap_alloc_new w _
  have hd0 := (Dr.start h).alloc (.cells (wkCs ⟨⟨#[]⟩, 0, 0, 0, 0, 0, 0⟩) 60)
  have hz0 : w.heap.size < (w.alloc (.cells (wkCs ⟨⟨#[]⟩, 0, 0, 0, 0, 0, 0⟩) 60)).heap.size := by simp
  have Hr0 := Lib.hid hr0; clear hr0
  have Hnm := Lib.hid hnm; clear hnm
  go_enter Try.func63, Try.ntmps63
  go_wp2_with fail
  have e0 : w.alloc (.cells (wkCs ⟨⟨#[]⟩, 0, 0, 0, 0, 0, 0⟩) 60) = w.alloc (.cells #[.string ⟨#[]⟩, .int .i64 0, .int .i64 0, .int .i64 0, .int .i64 0, .int .i64 0, .int .i64 0] 60) := rfl
  rw [e0] at hd0 hz0
  rw [e0] at Hr0
  clear e0
  generalize w.alloc (.cells #[.string ⟨#[]⟩, .int .i64 0, .int .i64 0, .int .i64 0, .int .i64 0, .int .i64 0, .int .i64 0] 60) = w0 at *
  refine (l25Place_c lo b a _ hd0.src (by omega)).mono ?_
  rintro e w1 ⟨x, y, rfl, hpt, hd⟩
  have hd1 := hd0.call hd.src hd.gr
  have hr1 := hd0.row Hr0.out hd.gr (Nat.le_refl _)
  have hz1 := Nat.lt_of_lt_of_le hz0 hd.gr.size
  have hb2 : Below w1.heap.size w1 (w1.alloc (.cells (wkCs ⟨nm, x, y, 0, 0, 0, 0⟩) 60)) := by (repeat (first | (with_reducible assumption) | (with_reducible exact Below.refl _ _) | exact Nat.le_refl _ | exact Below.size (by with_reducible assumption) | (with_reducible refine Below.drew ?_) | (with_reducible refine below_drewN ?_ _) | (with_reducible refine Below.alloc ?_ ?_ _) | (with_reducible refine Below.setCell ?_ ?_ _) | (with_reducible refine le_alloc ?_ _) | (with_reducible refine le_set ?_ _ _) | (with_reducible refine le_drew ?_) | (with_reducible refine le_drewN ?_ _) | omega | (dsimp only; omega)))
  have hD : DrW w (w1.alloc (.cells (wkCs ⟨nm, x, y, 0, 0, 0, 0⟩) 60)) lo b (a + 4) w1.heap.size ⟨nm, x, y, 0, 0, 0, 0⟩ := ⟨hd1.below hb2, row_below hr1 hb2, heap_alloc_new w1 _, hz1⟩
  obtain ⟨g, hg⟩ : ∃ g, w1.heap.size = g := ⟨_, rfl⟩
  clear hd hd1 hr1 hz1 hb2 hd0 Hr0 hz0 h
  have Hpt := Lib.hid hpt; clear hpt
  go_wp2_with fail
  rw [hg] at hD
  clear hg
  have e0 : w1.alloc (.cells (wkCs ⟨nm, x, y, 0, 0, 0, 0⟩) 60) = w1.alloc (.cells #[.string nm, .int .i64 x, .int .i64 y, .int .i64 0, .int .i64 0, .int .i64 0, .int .i64 0] 60) := rfl
  rw [e0] at hD
  clear e0
  generalize w1.alloc (.cells #[.string nm, .int .i64 x, .int .i64 y, .int .i64 0, .int .i64 0, .int .i64 0, .int .i64 0] 60) = w2 at *
  refine (pick_c 12 lo b _ _ hD.dr.src (by omega) (by omega)).mono ?_
  rintro e w3 ⟨ld, rfl, ld0, ld1, hs3, hg3⟩
  have hD3 := hD.call hs3 hg3
  have b1 : ld ≤ 11 := by omega
  have hD4 := hD3.store 3 (.int .i64 ld) ⟨nm, x, y, ld, 0, 0, 0⟩ rfl
  obtain ⟨⟨c0, c1, c2, c3, c4, c5, c6⟩, fz⟩ := DrW.cells hD3
  clear hD hs3 hg3 ld1
  have HD4 := Lib.hid hD4; clear hD4
  clear hD3
  go_wp2_with fail
  clear c0 c1 c2 c3 c4 c5 c6 fz
  generalize w3.setCell ⟨g, 3, none⟩ (.int .i64 ld) = w4 at *
  have hD4 := HD4.out
  clear HD4
  refine (pick_c 100 lo b _ _ hD4.dr.src (by omega) (by omega)).mono ?_
  rintro e w5 ⟨mi, rfl, mi0, mi1, hs5, hg5⟩
  have hD5 := hD4.call hs5 hg5
  have b2 : mi ≤ 99 := by omega
  have hD6 := hD5.store 4 (.int .i64 (10 + mi)) ⟨nm, x, y, ld, 10 + mi, 0, 0⟩ rfl
  obtain ⟨⟨c0, c1, c2, c3, c4, c5, c6⟩, fz⟩ := DrW.cells hD5
  clear hD4 hs5 hg5 mi1 hD5
  have hsz6 : (w5.setCell ⟨g, 4, none⟩ (.int .i64 (10 + mi))).heap.size = w5.heap.size := by simp
  have Hsz6 := Lib.hid hsz6; clear hsz6
  have HD6 := Lib.hid hD6; clear hD6
  go_wp2_with fail
  rw [← Hsz6.out]
  clear c0 c1 c2 c3 c4 c5 c6 fz Hsz6
  generalize w5.setCell ⟨g, 4, none⟩ (.int .i64 (10 + mi)) = w6 at *
  obtain ⟨MI, hMI⟩ : ∃ MI, 10 + mi = MI := ⟨_, rfl⟩
  have hD6 := HD6.out
  rw [hMI] at hD6
  have b3 : 10 ≤ MI ∧ MI ≤ 109 := by omega
  clear HD6 hMI b2 mi0
  have hba : Below w6.heap.size w6 (w6.alloc (.cells #[.int .i64 0, .int .i64 0, .int .i64 60, .int .i64 200, .int .i64 400] 2)) := by (repeat (first | (with_reducible assumption) | (with_reducible exact Below.refl _ _) | exact Nat.le_refl _ | exact Below.size (by with_reducible assumption) | (with_reducible refine Below.drew ?_) | (with_reducible refine below_drewN ?_ _) | (with_reducible refine Below.alloc ?_ ?_ _) | (with_reducible refine Below.setCell ?_ ?_ _) | (with_reducible refine le_alloc ?_ _) | (with_reducible refine le_set ?_ _ _) | (with_reducible refine le_drew ?_) | (with_reducible refine le_drewN ?_ _) | omega | (dsimp only; omega)))
  have hsl : Sl _ _ 1 _ 5 (([0, 0, 60, 200, 400] : List Int).flatMap intC) := Sl.of_own (lit_own w6 w6.heap.size 2 #[.int .i64 0, .int .i64 0, .int .i64 60, .int .i64 200, .int .i64 400] 5 1 (Nat.le_refl _) (by decide) rfl)
  have hlt := hD6.dr.lt
  have hle := hD6.dr.gr.size
  have hDa := hD6.below hba
  refine (among_c _ 5 5 _ [0, 0, 60, 200, 400] lo b _ _ hDa.dr.src (by omega) hsl (Nat.le_refl _) (fun b' off e => by injection e with e; injection e with e; omega) (by omega) (by omega)).mono ?_
  rintro e w7 ⟨fr, rfl, hfr, hs7, hg7⟩
  have b4 : 0 ≤ fr ∧ fr ≤ 400 := by simp at hfr; omega
  have hD7 := hDa.call hs7 hg7
  have hD8 := hD7.store 5 (.int .i64 fr) ⟨nm, x, y, ld, MI, fr, 0⟩ rfl
  obtain ⟨⟨c0, c1, c2, c3, c4, c5, c6⟩, fz⟩ := DrW.cells hD7
  clear hDa hs7 hg7 hfr hsl hba hlt hle hD6 hD7
  have HD8 := Lib.hid hD8; clear hD8
  go_wp2_with fail
  clear c0 c1 c2 c3 c4 c5 c6 fz
  generalize w7.setCell ⟨g, 5, none⟩ (.int .i64 fr) = w8 at *
  have hD8 := HD8.out
  clear HD8
  obtain ⟨⟨c0, c1, c2, c3, c4, c5, c6⟩, fz⟩ := DrW.cells hD8
  have hF0 : IntKind.i64.wrap (fr + MI) = fr + MI := IntWalk.i64_in _ (by omega)
  obtain ⟨F, hF1⟩ : ∃ F, fr + MI = F := ⟨_, rfl⟩
  have hF : IntKind.i64.wrap (fr + MI) = F := hF0.trans hF1
  have b5 : 0 ≤ F ∧ F ≤ 1000 := by omega
  clear hF0
  have HF1 := Lib.hid hF1; clear hF1
  refine wp_region_held_drew (S := fun w' => w'.cell? ⟨g, 5, none⟩ = some (.int .i64 fr) ∧ w'.cell? ⟨g, 4, none⟩ = some (.int .i64 MI)) (by kernel_rfl) ⟨c5, c4⟩ (fun hHeld => ?_)
  (first
    | (refine wpAnyH_take (i := 0) (v := ?_) rfl (by kernel_rfl) (by kernel_rfl) (by kernel_rfl) (fun _ _ _ h => h) (Or.inl ⟨by rfl, ?_⟩) (by assumption) ?_
       rotate_left
       focus (intro wq hSq; (try dsimp only at hSq); go_simp; (try (with_reducible rfl)); done))
    | (refine wpAnyH_take (i := 0) (v := undef) rfl (by kernel_rfl) (by kernel_rfl) (by kernel_rfl) (fun _ _ _ h => h) (Or.inr ⟨by rfl, rfl⟩) (by assumption) ?_)
    | fail "take 0")
  try simp only [Act.put, List.setIfInBounds_toArray, List.set_cons_zero, List.set_cons_succ, List.getElem_toArray, List.getElem_cons_zero]
  (first
    | (refine wpAnyH_take (i := 1) (v := ?_) rfl (by kernel_rfl) (by kernel_rfl) (by kernel_rfl) (fun _ _ _ h => h) (Or.inl ⟨by rfl, ?_⟩) (by assumption) ?_
       rotate_left
       focus (intro wq hSq; (try dsimp only at hSq); go_simp; (try (with_reducible rfl)); done))
    | (refine wpAnyH_take (i := 1) (v := undef) rfl (by kernel_rfl) (by kernel_rfl) (by kernel_rfl) (fun _ _ _ h => h) (Or.inr ⟨by rfl, rfl⟩) (by assumption) ?_)
    | fail "take 1")
  try simp only [Act.put, List.setIfInBounds_toArray, List.set_cons_zero, List.set_cons_succ, List.getElem_toArray, List.getElem_cons_zero, List.getElem_cons_succ]
  (first
    | (refine wpAnyH_take (i := 2) (v := ?_) rfl (by kernel_rfl) (by kernel_rfl) (by kernel_rfl) (fun _ _ _ h => h) (Or.inl ⟨by rfl, ?_⟩) (by assumption) ?_
       rotate_left
       focus (intro wq hSq; (try dsimp only at hSq); go_simp; (try (with_reducible rfl)); done))
    | (refine wpAnyH_take (i := 2) (v := undef) rfl (by kernel_rfl) (by kernel_rfl) (by kernel_rfl) (fun _ _ _ h => h) (Or.inr ⟨by rfl, rfl⟩) (by assumption) ?_)
    | fail "take 2")
  try simp only [Act.put, List.setIfInBounds_toArray, List.set_cons_zero, List.set_cons_succ, List.getElem_toArray, List.getElem_cons_zero, List.getElem_cons_succ]
  (first
    | (refine wpAnyH_take (i := 3) (v := ?_) rfl (by kernel_rfl) (by kernel_rfl) (by kernel_rfl) (fun _ _ _ h => h) (Or.inl ⟨by rfl, ?_⟩) (by assumption) ?_
       rotate_left
       focus (intro wq hSq; (try dsimp only at hSq); go_simp; (try (with_reducible rfl)); done))
    | (refine wpAnyH_take (i := 3) (v := undef) rfl (by kernel_rfl) (by kernel_rfl) (by kernel_rfl) (fun _ _ _ h => h) (Or.inr ⟨by rfl, rfl⟩) (by assumption) ?_)
    | fail "take 3")
  try simp only [Act.put, List.setIfInBounds_toArray, List.set_cons_zero, List.set_cons_succ, List.getElem_toArray, List.getElem_cons_zero, List.getElem_cons_succ]
  (first
    | (refine wpAnyH_take (i := 4) (v := ?_) rfl (by kernel_rfl) (by kernel_rfl) (by kernel_rfl) (fun _ _ _ h => h) (Or.inl ⟨by rfl, ?_⟩) (by assumption) ?_
       rotate_left
       focus (intro wq hSq; (try dsimp only at hSq); go_simp; (try (with_reducible rfl)); done))
    | (refine wpAnyH_take (i := 4) (v := undef) rfl (by kernel_rfl) (by kernel_rfl) (by kernel_rfl) (fun _ _ _ h => h) (Or.inr ⟨by rfl, rfl⟩) (by assumption) ?_)
    | fail "take 4")
  try simp only [Act.put, List.setIfInBounds_toArray, List.set_cons_zero, List.set_cons_succ, List.getElem_toArray, List.getElem_cons_zero, List.getElem_cons_succ]
  (first
    | (refine wpAnyH_take (i := 5) (v := ?_) rfl (by kernel_rfl) (by kernel_rfl) (by kernel_rfl) (fun _ _ _ h => h) (Or.inl ⟨by rfl, ?_⟩) (by assumption) ?_
       rotate_left
       focus (intro wq hSq; (try dsimp only at hSq); go_simp; (try (with_reducible rfl)); done))
    | (refine wpAnyH_take (i := 5) (v := undef) rfl (by kernel_rfl) (by kernel_rfl) (by kernel_rfl) (fun _ _ _ h => h) (Or.inr ⟨by rfl, rfl⟩) (by assumption) ?_)
    | fail "take 5")
  try simp only [Act.put, List.setIfInBounds_toArray, List.set_cons_zero, List.set_cons_succ, List.getElem_toArray, List.getElem_cons_zero, List.getElem_cons_succ]
  have hba : Below w8.heap.size w8 (w8.drew.alloc (.cells #[.int .i64 100, .int .i64 300, .int .i64 600, .int .i64 2000] 2)) := by (repeat (first | (with_reducible assumption) | (with_reducible exact Below.refl _ _) | exact Nat.le_refl _ | exact Below.size (by with_reducible assumption) | (with_reducible refine Below.drew ?_) | (with_reducible refine below_drewN ?_ _) | (with_reducible refine Below.alloc ?_ ?_ _) | (with_reducible refine Below.setCell ?_ ?_ _) | (with_reducible refine le_alloc ?_ _) | (with_reducible refine le_set ?_ _ _) | (with_reducible refine le_drew ?_) | (with_reducible refine le_drewN ?_ _) | omega | (dsimp only; omega)))
  have hDa := hD8.below hba
  refine wpAnyH_ready (rs := [6]) (by kernel_rfl) (by simp) ?_
  refine AllReadyH.cons (o := _) rfl (fun K hK => ?_) AllReadyH.nil
  go_simp
  skip
  refine hK.out _ _ ?_ (fun hHeld => ?_)
  · exact hDa.hold
  clear hK K
  try simp only [Act.put, List.setIfInBounds_toArray, List.set_cons_zero, List.set_cons_succ, List.getElem_toArray, List.getElem_cons_zero, List.getElem_cons_succ]
  have hsl : Sl _ _ 1 _ 4 (([100, 300, 600, 2000] : List Int).flatMap intC) := Sl.of_own (lit_own w8.drew w8.drew.heap.size 2 #[.int .i64 100, .int .i64 300, .int .i64 600, .int .i64 2000] 4 1 (Nat.le_refl _) (by decide) rfl)
  have hlt := hD8.dr.lt
  have hle := hD8.dr.gr.size
  have hAm := among_c _ 4 4 _ [100, 300, 600, 2000] lo b _ _ hDa.dr.src (by omega) hsl (Nat.le_refl _) (fun b' off e => by injection e with e; injection e with e; have : w8.drew.heap.size = w8.heap.size := rfl; omega) (by omega) (by omega)
  refine wpAnyH_ready (rs := [7]) (by kernel_rfl) (by simp) ?_
  refine AllReadyH.cons (o := _) rfl (fun K hK => ?_) AllReadyH.nil
  go_simp
  refine hAm.mono ?_; rintro e w9 ⟨mo, rfl, hmo, hs9, hg9⟩
  refine hK.out _ _ ?_ (fun hHeld => ?_)
  · exact (hDa.call hs9 hg9).hold
  clear hK K
  try simp only [Act.put, List.setIfInBounds_toArray, List.set_cons_zero, List.set_cons_succ, List.getElem_toArray, List.getElem_cons_zero, List.getElem_cons_succ]
  have hD9 := hDa.call hs9 hg9
  have b6 : 100 ≤ mo ∧ mo ≤ 2000 := by simp at hmo; omega
  have hU0 : IntKind.i64.wrap (F + mo) = F + mo := IntWalk.i64_in _ (by omega)
  obtain ⟨U, hU1⟩ : ∃ U, F + mo = U := ⟨_, rfl⟩
  have hU : IntKind.i64.wrap (F + mo) = U := hU0.trans hU1
  clear hU0 hs9 hg9 hmo hAm hsl hDa hba
  have HU1 := Lib.hid hU1; clear hU1
  have hDb := hD9.below (Below.refl _ _).drew
  obtain ⟨⟨c0, c1, c2, c3, c4, c5, c6⟩, fz⟩ := DrW.cells hD9
  (first
    | (refine wpAnyH_take (i := 8) (v := ?_) rfl (by kernel_rfl) (by kernel_rfl) (by kernel_rfl) (fun _ _ _ h => h) (Or.inl ⟨by rfl, ?_⟩) (by assumption) ?_
       rotate_left
       focus (intro wq hSq; (try dsimp only at hSq); go_simp; (try (with_reducible rfl)); done))
    | (refine wpAnyH_take (i := 8) (v := undef) rfl (by kernel_rfl) (by kernel_rfl) (by kernel_rfl) (fun _ _ _ h => h) (Or.inr ⟨by rfl, rfl⟩) (by assumption) ?_)
    | fail "take 8")
  try simp only [Act.put, List.setIfInBounds_toArray, List.set_cons_zero, List.set_cons_succ, List.getElem_toArray, List.getElem_cons_zero, List.getElem_cons_succ]
  (first
    | (refine wpAnyH_take (i := 9) (v := ?_) rfl (by kernel_rfl) (by kernel_rfl) (by kernel_rfl) (fun _ _ _ h => h) (Or.inl ⟨by rfl, ?_⟩) (by assumption) ?_
       rotate_left
       focus (intro wq hSq; (try dsimp only at hSq); go_simp; (try (with_reducible rfl)); done))
    | (refine wpAnyH_take (i := 9) (v := undef) rfl (by kernel_rfl) (by kernel_rfl) (by kernel_rfl) (fun _ _ _ h => h) (Or.inr ⟨by rfl, rfl⟩) (by assumption) ?_)
    | fail "take 9")
  try simp only [Act.put, List.setIfInBounds_toArray, List.set_cons_zero, List.set_cons_succ, List.getElem_toArray, List.getElem_cons_zero, List.getElem_cons_succ]
  have hDc := hDb.store 6 (.int .i64 U) ⟨nm, x, y, ld, MI, fr, U⟩ rfl
  have hDd := hD9.store 6 (.int .i64 U) ⟨nm, x, y, ld, MI, fr, U⟩ rfl
  refine wpAnyH_ready (rs := [10]) (by kernel_rfl) (by simp) ?_
  refine AllReadyH.cons (o := _) rfl (fun K hK => ?_) AllReadyH.nil
  go_simp
  skip
  refine hK.out _ _ ?_ (fun hHeld => ?_)
  · exact hDc.hold
  clear hK K
  try simp only [Act.put, List.setIfInBounds_toArray, List.set_cons_zero, List.set_cons_succ, List.getElem_toArray, List.getElem_cons_zero, List.getElem_cons_succ]
  refine wpAnyH_done (by kernel_rfl) ?_ _
  refine then_world (F := fun w2 => DrW w w2 lo b (a + 12) g ⟨nm, x, y, ld, MI, fr, U⟩) ⟨hDd.dr, hDd.res, hDd.box, hDd.ne⟩ ?_
  clear c0 c1 c2 c3 c4 c5 c6 fz hDc hDd hDb hD9 hHeld hD8
  rintro w2 hE
  obtain ⟨⟨c0, c1, c2, c3, c4, c5, c6⟩, fz⟩ := DrW.cells hE
  have k0 := (cell_of_row w2 w.heap.size 0 _ _ _ hE.res).trans rfl
  have k1 := (cell_of_row w2 w.heap.size 1 _ _ _ hE.res).trans rfl
  have k2 := (cell_of_row w2 w.heap.size 2 _ _ _ hE.res).trans rfl
  have k3 := (cell_of_row w2 w.heap.size 3 _ _ _ hE.res).trans rfl
  have k4 := (cell_of_row w2 w.heap.size 4 _ _ _ hE.res).trans rfl
  have k5 := (cell_of_row w2 w.heap.size 5 _ _ _ hE.res).trans rfl
  have k6 := (cell_of_row w2 w.heap.size 6 _ _ _ hE.res).trans rfl
  have fzb := fun j => frozen_of_row w2 w.heap.size j _ _ hE.res
  have hE2 := fun v0 v1 v2 v3 v4 v5 v6 => ((((((hE.dr.store ⟨w.heap.size, 0, none⟩ (Nat.le_refl _) v0).store ⟨w.heap.size, 1, none⟩ (Nat.le_refl _) v1).store ⟨w.heap.size, 2, none⟩ (Nat.le_refl _) v2).store ⟨w.heap.size, 3, none⟩ (Nat.le_refl _) v3).store ⟨w.heap.size, 4, none⟩ (Nat.le_refl _) v4).store ⟨w.heap.size, 5, none⟩ (Nat.le_refl _) v5).store ⟨w.heap.size, 6, none⟩ (Nat.le_refl _) v6
  have HE2 := Lib.hid hE2; clear hE2
  clear hE
  go_wp2_with fail
  refine bodyPost_ret (v := Wk.val ⟨nm, x, y, ld, MI, fr, U⟩) (by simp [results, Try.results63, go_sem, k0, k1, k2, k3, k4, k5, k6]) rfl ⟨⟨nm, x, y, ld, MI, fr, U⟩, rfl, ?_, rfl, HE2.out _ _ _ _ _ _ _⟩
  have e1 := HF1.out
  have e2 := HU1.out
  simp only [wkB, Bool.and_eq_true, inB_iff]
  exact ⟨Hnm.out, Hpt.out, by omega, by omega, by omega, by omega⟩
end Go.Proofs.Ytgkdjohiclhcoaa
