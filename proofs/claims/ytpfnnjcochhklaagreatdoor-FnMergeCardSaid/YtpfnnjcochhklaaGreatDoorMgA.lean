
/- The standard mark of a kind. (The branches over the order of its calls are printed by mkstd.py.) -/
import Derived.Test.YtpfnnjcochhklaaGreatDoorMarkG
import Derived.Test.YtpfnnjcochhklaaGreatDoorMgEG
import Derived.Test.YtpfnnjcochhklaaGreatDoorSrcG
namespace Go.Proofs.YtpfnnjcochhklaaGreatDoor
open Go.RowKit
theorem shape1_c (k : Int) (sh : ByteArray) (w : World) (h : inB k 1 9 = true) (hsh : (mkShp k).headD ⟨#[]⟩ = sh) : Calls Tryz.prog 97 #[.int .i64 k] w fun e w' => ∃ (g o n c : Nat), e = .returned (.slice (some ⟨g, o, none⟩) n c) ∧ 0 < n ∧ w'.cell? ⟨g, o, none⟩ = some (.string sh) ∧ g < w'.heap.size ∧ Below w.heap.size w w' := by
  refine (l11Shapes_c k w h).mono ?_
  rintro e w' ⟨A, n, c, rfl, hn, hs, hb⟩
  have h0 : 0 < (mkShp k).length := by rcases kind9 h with rfl | rfl | rfl | rfl | rfl | rfl | rfl | rfl | rfl <;> simp [mkShp, mkShapes]
  obtain ⟨b1, off1, x, rfl, hb1, hm, d1⟩ := hs.str 0 (by omega)
  have hx : sh = x := by
    rw [← hsh]
    cases hl : mkShp k with
    | nil => rw [hl] at hm; simp at hm
    | cons y r => rw [hl] at hm; simpa using hm
  exact ⟨b1, off1, n, c, rfl, by omega, by rw [hx]; exact d1, hb1, hb⟩
set_option maxRecDepth 100000 in
set_option maxHeartbeats 4000000 in
theorem stdMark_c (k : Int) (w : World) (h : 1 ≤ k ∧ k ≤ 9) :
    Calls Tryz.prog 69 #[.int .i64 k] w fun e w' => e = .returned (.tuple #[.agg #[.int .i64 k, .string (mkCol k), .string ((mkShp k).headD ⟨#[]⟩), .string (mkTop k)], .int .i64 0]) ∧ Below w.heap.size w w' := by
  have hk : inB k 1 9 = true := inB_iff.2 h
  obtain ⟨sh, hsh⟩ : ∃ sh, (mkShp k).headD ⟨#[]⟩ = sh := ⟨_, rfl⟩
  have hbA : Below w.heap.size w (w.alloc (.cells #[.int .i64 0, .string ⟨#[]⟩, .string ⟨#[]⟩, .string ⟨#[]⟩] 51)) := by (repeat (first | (with_reducible assumption) | (with_reducible exact Below.refl _ _) | exact Nat.le_refl _ | exact Below.size (by with_reducible assumption) | (with_reducible refine Below.drew ?_) | (with_reducible refine below_drewN ?_ _) | (with_reducible refine Below.alloc ?_ ?_ _) | (with_reducible refine Below.setCell ?_ ?_ _) | (with_reducible refine le_alloc ?_ _) | (with_reducible refine le_set ?_ _ _) | (with_reducible refine le_drew ?_) | (with_reducible refine le_drewN ?_ _) | omega | (dsimp only; omega)))
  have hr0 : (w.alloc (.cells #[.int .i64 0, .string ⟨#[]⟩, .string ⟨#[]⟩, .string ⟨#[]⟩] 51)).heap[w.heap.size]? = some (.cells #[.int .i64 0, .string ⟨#[]⟩, .string ⟨#[]⟩, .string ⟨#[]⟩] 51 (0, 0)) := heap_alloc_new w _
  have hoR := lit_own w w.heap.size 51 #[.int .i64 0, .string ⟨#[]⟩, .string ⟨#[]⟩, .string ⟨#[]⟩] 1 4 (Nat.le_refl _) (by decide) rfl
  have hz0 : w.heap.size < (w.alloc (.cells #[.int .i64 0, .string ⟨#[]⟩, .string ⟨#[]⟩, .string ⟨#[]⟩] 51)).heap.size := by simp
  have Hr0 := Lib.hid hr0; clear hr0
  have HoR := Lib.hid hoR; clear hoR
  go_enter Tryz.func69, Tryz.ntmps69
  go_wp2_with fail
  generalize w.alloc (.cells #[.int .i64 0, .string ⟨#[]⟩, .string ⟨#[]⟩, .string ⟨#[]⟩] 51) = w0 at *
  refine (l11Kind_c k _).mono ?_
  rintro e w1 ⟨rfl, hw⟩
  subst hw
  rw [hk]
  have c0 : w0.cell? ⟨w.heap.size, 0, none⟩ = some (.int .i64 0) := (cell_of_row w0 w.heap.size 0 _ _ _ Hr0.out).trans rfl
  have c1 : w0.cell? ⟨w.heap.size, 1, none⟩ = some (.string ⟨#[]⟩) := (cell_of_row w0 w.heap.size 1 _ _ _ Hr0.out).trans rfl
  have c2 : w0.cell? ⟨w.heap.size, 2, none⟩ = some (.string ⟨#[]⟩) := (cell_of_row w0 w.heap.size 2 _ _ _ Hr0.out).trans rfl
  have c3 : w0.cell? ⟨w.heap.size, 3, none⟩ = some (.string ⟨#[]⟩) := (cell_of_row w0 w.heap.size 3 _ _ _ Hr0.out).trans rfl
  have fz := fun j => frozen_of_row w0 w.heap.size j _ _ Hr0.out
  have hoR := HoR.out
  have hb : Below w0.heap.size w0 w0.drew := (Below.refl _ _).drew
  go_wp2_with fail
  refine wp_region_held_drew (S := fun _ => True) (by kernel_rfl) trivial (fun hHeld => ?_)
  (first
    | (refine wpAnyH_take (i := 0) (v := ?_) rfl (by kernel_rfl) (by kernel_rfl) (by kernel_rfl) (fun _ _ _ h => h) (Or.inl ⟨by rfl, ?_⟩) (by assumption) ?_
       rotate_left
       focus (intro wq hSq; (try dsimp only at hSq); go_simp; (try (with_reducible rfl)); done))
    | (refine wpAnyH_take (i := 0) (v := undef) rfl (by kernel_rfl) (by kernel_rfl) (by kernel_rfl) (fun _ _ _ h => h) (Or.inr ⟨by rfl, rfl⟩) (by assumption) ?_)
    | fail "take 0")
  try simp only [Act.put, List.setIfInBounds_toArray, List.set_cons_zero, List.set_cons_succ, List.getElem_toArray, List.getElem_cons_zero]
  (first
    | (refine wpAnyH_take (i := 1) (v := ?_) rfl (by kernel_rfl) (by kernel_rfl) (by kernel_rfl) (fun _ _ _ h => h) (Or.inl ⟨by rfl, ?_⟩) (by assumption) ?_
       rotate_left
       focus (intro wq hSq; (try dsimp only at hSq); go_simp; (try (with_reducible rfl)); done))
    | (refine wpAnyH_take (i := 1) (v := undef) rfl (by kernel_rfl) (by kernel_rfl) (by kernel_rfl) (fun _ _ _ h => h) (Or.inr ⟨by rfl, rfl⟩) (by assumption) ?_)
    | fail "take 1")
  try simp only [Act.put, List.setIfInBounds_toArray, List.set_cons_zero, List.set_cons_succ, List.getElem_toArray, List.getElem_cons_zero, List.getElem_cons_succ]
  (first
    | (refine wpAnyH_take (i := 3) (v := ?_) rfl (by kernel_rfl) (by kernel_rfl) (by kernel_rfl) (fun _ _ _ h => h) (Or.inl ⟨by rfl, ?_⟩) (by assumption) ?_
       rotate_left
       focus (intro wq hSq; (try dsimp only at hSq); go_simp; (try (with_reducible rfl)); done))
    | (refine wpAnyH_take (i := 3) (v := undef) rfl (by kernel_rfl) (by kernel_rfl) (by kernel_rfl) (fun _ _ _ h => h) (Or.inr ⟨by rfl, rfl⟩) (by assumption) ?_)
    | fail "take 3")
  try simp only [Act.put, List.setIfInBounds_toArray, List.set_cons_zero, List.set_cons_succ, List.getElem_toArray, List.getElem_cons_zero, List.getElem_cons_succ]
  (first
    | (refine wpAnyH_take (i := 7) (v := ?_) rfl (by kernel_rfl) (by kernel_rfl) (by kernel_rfl) (fun _ _ _ h => h) (Or.inl ⟨by rfl, ?_⟩) (by assumption) ?_
       rotate_left
       focus (intro wq hSq; (try dsimp only at hSq); go_simp; (try (with_reducible rfl)); done))
    | (refine wpAnyH_take (i := 7) (v := undef) rfl (by kernel_rfl) (by kernel_rfl) (by kernel_rfl) (fun _ _ _ h => h) (Or.inr ⟨by rfl, rfl⟩) (by assumption) ?_)
    | fail "take 7")
  try simp only [Act.put, List.setIfInBounds_toArray, List.set_cons_zero, List.set_cons_succ, List.getElem_toArray, List.getElem_cons_zero, List.getElem_cons_succ]
  refine wpAnyH_ready (rs := [2]) (by kernel_rfl) (by simp) ?_
  refine AllReadyH.cons (o := _) rfl (fun K hK => ?_) AllReadyH.nil
  go_simp
  refine (l11Colors_c k _ hk).mono ?_; rintro e w1 ⟨rfl, hz1⟩
  refine hK.out _ _ ?_ (fun hHeld => ?_)
  · exact trivial
  clear hK K
  try simp only [Act.put, List.setIfInBounds_toArray, List.set_cons_zero, List.set_cons_succ, List.getElem_toArray, List.getElem_cons_zero, List.getElem_cons_succ]
  have hb1 := hb.trans (hz1.mono hb.size)
  refine wpAnyH_ready (rs := [4]) (by kernel_rfl) (by simp) ?_
  refine AllReadyH.cons (o := _) rfl (fun K hK => ?_) AllReadyH.nil
  go_simp
  refine (shape1_c k sh _ hk hsh).mono ?_; rintro e w2 ⟨g2, o2, n2, cp2, rfl, hn2, hc2, hg2, hz2⟩
  refine hK.out _ _ ?_ (fun hHeld => ?_)
  · exact trivial
  clear hK K
  try simp only [Act.put, List.setIfInBounds_toArray, List.set_cons_zero, List.set_cons_succ, List.getElem_toArray, List.getElem_cons_zero, List.getElem_cons_succ]
  have hb2 := hb1.trans (hz2.mono hb1.size)
  (first
    | (refine wpAnyH_take (i := 5) (v := ?_) rfl (by kernel_rfl) (by kernel_rfl) (by kernel_rfl) (fun _ _ _ h => h) (Or.inl ⟨by rfl, ?_⟩) (by assumption) ?_
       rotate_left
       focus (intro wq hSq; (try dsimp only at hSq); go_simp; (try (with_reducible rfl)); done))
    | (refine wpAnyH_take (i := 5) (v := undef) rfl (by kernel_rfl) (by kernel_rfl) (by kernel_rfl) (fun _ _ _ h => h) (Or.inr ⟨by rfl, rfl⟩) (by assumption) ?_)
    | fail "take 5")
  try simp only [Act.put, List.setIfInBounds_toArray, List.set_cons_zero, List.set_cons_succ, List.getElem_toArray, List.getElem_cons_zero, List.getElem_cons_succ]
  refine wpAnyH_ready (rs := [6, 8]) (by kernel_rfl) (by simp) ?_
  refine AllReadyH.cons (o := _) rfl (fun K hK => ?_) (AllReadyH.cons (o := _) rfl (fun K hK => ?_) AllReadyH.nil)
  · have hL := hc2
    go_simp
    skip
    refine hK.out _ _ ?_ (fun hHeld => ?_)
    · exact trivial
    clear hK K
    try simp only [Act.put, List.setIfInBounds_toArray, List.set_cons_zero, List.set_cons_succ, List.getElem_toArray, List.getElem_cons_zero, List.getElem_cons_succ]
    refine wpAnyH_ready (rs := [8]) (by kernel_rfl) (by simp) ?_
    refine AllReadyH.cons (o := _) rfl (fun K hK => ?_) AllReadyH.nil
    go_simp
    refine (l11Topmark_c k _ hk).mono ?_; rintro e w4 ⟨rfl, hz4⟩
    refine hK.out _ _ ?_ (fun hHeld => ?_)
    · exact trivial
    clear hK K
    try simp only [Act.put, List.setIfInBounds_toArray, List.set_cons_zero, List.set_cons_succ, List.getElem_toArray, List.getElem_cons_zero, List.getElem_cons_succ]
    have hb4 := hb2.trans (hz4.mono hb2.size)
    have q0 := keepC hb4 w.heap.size hz0
    have d0 := (q0 0).trans c0
    have d1 := (q0 1).trans c1
    have d2 := (q0 2).trans c2
    have d3 := (q0 3).trans c3
    have dz := fun i => (keepF hb4 w.heap.size hz0 i).trans (fz i)
    have s0 := (own_next hoR hb4).stored 0 (.int .i64 k)
    have s1 := s0.1.stored 1 (.string (mkCol k))
    have s2 := s1.1.stored 2 (.string sh)
    have s3 := s2.1.stored 3 (.string (mkTop k))
    have e0 := s3.1.cellAt 0 (by omega)
    have e1 := s3.1.cellAt 1 (by omega)
    have e2 := s3.1.cellAt 2 (by omega)
    have e3 := s3.1.cellAt 3 (by omega)
    simp only [List.set_cons_zero, List.set_cons_succ, List.getElem?_cons_zero, List.getElem?_cons_succ] at e0 e1 e2 e3
    have hbE := ((((hbA.trans ((hb4).mono hbA.size)).setCell (p := ⟨w.heap.size, 0, none⟩) (Nat.le_refl _) (.int .i64 k)).setCell (p := ⟨w.heap.size, 1, none⟩) (Nat.le_refl _) (.string (mkCol k))).setCell (p := ⟨w.heap.size, 2, none⟩) (Nat.le_refl _) (.string sh)).setCell (p := ⟨w.heap.size, 3, none⟩) (Nat.le_refl _) (.string (mkTop k))
    clear s0 s1 s2 s3 q0
    (first
      | (refine wpAnyH_take (i := 9) (v := ?_) rfl (by kernel_rfl) (by kernel_rfl) (by kernel_rfl) (fun _ _ _ h => h) (Or.inl ⟨by rfl, ?_⟩) (by assumption) ?_
         rotate_left
         focus (intro wq hSq; (try dsimp only at hSq); go_simp; (try (with_reducible rfl)); done))
      | (refine wpAnyH_take (i := 9) (v := undef) rfl (by kernel_rfl) (by kernel_rfl) (by kernel_rfl) (fun _ _ _ h => h) (Or.inr ⟨by rfl, rfl⟩) (by assumption) ?_)
      | fail "take 9")
    try simp only [Act.put, List.setIfInBounds_toArray, List.set_cons_zero, List.set_cons_succ, List.getElem_toArray, List.getElem_cons_zero, List.getElem_cons_succ]
    refine wpAnyH_ready (rs := [10]) (by kernel_rfl) (by simp) ?_
    refine AllReadyH.cons (o := _) rfl (fun K hK => ?_) AllReadyH.nil
    go_simp
    skip
    refine hK.out _ _ ?_ (fun hHeld => ?_)
    · exact trivial
    clear hK K
    try simp only [Act.put, List.setIfInBounds_toArray, List.set_cons_zero, List.set_cons_succ, List.getElem_toArray, List.getElem_cons_zero, List.getElem_cons_succ]
    (first
      | (refine wpAnyH_take (i := 11) (v := ?_) rfl (by kernel_rfl) (by kernel_rfl) (by kernel_rfl) (fun _ _ _ h => h) (Or.inl ⟨by rfl, ?_⟩) (by assumption) ?_
         rotate_left
         focus (intro wq hSq; (try dsimp only at hSq); go_simp; (try (with_reducible rfl)); done))
      | (refine wpAnyH_take (i := 11) (v := undef) rfl (by kernel_rfl) (by kernel_rfl) (by kernel_rfl) (fun _ _ _ h => h) (Or.inr ⟨by rfl, rfl⟩) (by assumption) ?_)
      | fail "take 11")
    try simp only [Act.put, List.setIfInBounds_toArray, List.set_cons_zero, List.set_cons_succ, List.getElem_toArray, List.getElem_cons_zero, List.getElem_cons_succ]
    refine wpAnyH_done (by kernel_rfl) ?_ _
    clear hHeld
    go_wp2_with fail
    exact bodyPost_ret (v := .tuple #[.agg #[.int .i64 k, .string (mkCol k), .string sh, .string (mkTop k)], .int .i64 0]) (by simp [results, Tryz.results69, go_sem, e0, e1, e2, e3]) rfl ⟨by rw [hsh], hbE⟩
  · go_simp
    refine (l11Topmark_c k _ hk).mono ?_; rintro e w5 ⟨rfl, hz5⟩
    refine hK.out _ _ ?_ (fun hHeld => ?_)
    · exact trivial
    clear hK K
    try simp only [Act.put, List.setIfInBounds_toArray, List.set_cons_zero, List.set_cons_succ, List.getElem_toArray, List.getElem_cons_zero, List.getElem_cons_succ]
    have hb5 := hb2.trans (hz5.mono hb2.size)
    have hc5 := (keepC hz5 _ hg2 _).trans hc2
    have hg5 := Nat.lt_of_lt_of_le hg2 hz5.size
    refine wpAnyH_ready (rs := [6]) (by kernel_rfl) (by simp) ?_
    refine AllReadyH.cons (o := _) rfl (fun K hK => ?_) AllReadyH.nil
    have hL := hc5
    go_simp
    skip
    refine hK.out _ _ ?_ (fun hHeld => ?_)
    · exact trivial
    clear hK K
    try simp only [Act.put, List.setIfInBounds_toArray, List.set_cons_zero, List.set_cons_succ, List.getElem_toArray, List.getElem_cons_zero, List.getElem_cons_succ]
    have q0 := keepC hb5 w.heap.size hz0
    have d0 := (q0 0).trans c0
    have d1 := (q0 1).trans c1
    have d2 := (q0 2).trans c2
    have d3 := (q0 3).trans c3
    have dz := fun i => (keepF hb5 w.heap.size hz0 i).trans (fz i)
    have s0 := (own_next hoR hb5).stored 0 (.int .i64 k)
    have s1 := s0.1.stored 1 (.string (mkCol k))
    have s2 := s1.1.stored 2 (.string sh)
    have s3 := s2.1.stored 3 (.string (mkTop k))
    have e0 := s3.1.cellAt 0 (by omega)
    have e1 := s3.1.cellAt 1 (by omega)
    have e2 := s3.1.cellAt 2 (by omega)
    have e3 := s3.1.cellAt 3 (by omega)
    simp only [List.set_cons_zero, List.set_cons_succ, List.getElem?_cons_zero, List.getElem?_cons_succ] at e0 e1 e2 e3
    have hbE := ((((hbA.trans ((hb5).mono hbA.size)).setCell (p := ⟨w.heap.size, 0, none⟩) (Nat.le_refl _) (.int .i64 k)).setCell (p := ⟨w.heap.size, 1, none⟩) (Nat.le_refl _) (.string (mkCol k))).setCell (p := ⟨w.heap.size, 2, none⟩) (Nat.le_refl _) (.string sh)).setCell (p := ⟨w.heap.size, 3, none⟩) (Nat.le_refl _) (.string (mkTop k))
    clear s0 s1 s2 s3 q0
    (first
      | (refine wpAnyH_take (i := 9) (v := ?_) rfl (by kernel_rfl) (by kernel_rfl) (by kernel_rfl) (fun _ _ _ h => h) (Or.inl ⟨by rfl, ?_⟩) (by assumption) ?_
         rotate_left
         focus (intro wq hSq; (try dsimp only at hSq); go_simp; (try (with_reducible rfl)); done))
      | (refine wpAnyH_take (i := 9) (v := undef) rfl (by kernel_rfl) (by kernel_rfl) (by kernel_rfl) (fun _ _ _ h => h) (Or.inr ⟨by rfl, rfl⟩) (by assumption) ?_)
      | fail "take 9")
    try simp only [Act.put, List.setIfInBounds_toArray, List.set_cons_zero, List.set_cons_succ, List.getElem_toArray, List.getElem_cons_zero, List.getElem_cons_succ]
    refine wpAnyH_ready (rs := [10]) (by kernel_rfl) (by simp) ?_
    refine AllReadyH.cons (o := _) rfl (fun K hK => ?_) AllReadyH.nil
    go_simp
    skip
    refine hK.out _ _ ?_ (fun hHeld => ?_)
    · exact trivial
    clear hK K
    try simp only [Act.put, List.setIfInBounds_toArray, List.set_cons_zero, List.set_cons_succ, List.getElem_toArray, List.getElem_cons_zero, List.getElem_cons_succ]
    (first
      | (refine wpAnyH_take (i := 11) (v := ?_) rfl (by kernel_rfl) (by kernel_rfl) (by kernel_rfl) (fun _ _ _ h => h) (Or.inl ⟨by rfl, ?_⟩) (by assumption) ?_
         rotate_left
         focus (intro wq hSq; (try dsimp only at hSq); go_simp; (try (with_reducible rfl)); done))
      | (refine wpAnyH_take (i := 11) (v := undef) rfl (by kernel_rfl) (by kernel_rfl) (by kernel_rfl) (fun _ _ _ h => h) (Or.inr ⟨by rfl, rfl⟩) (by assumption) ?_)
      | fail "take 11")
    try simp only [Act.put, List.setIfInBounds_toArray, List.set_cons_zero, List.set_cons_succ, List.getElem_toArray, List.getElem_cons_zero, List.getElem_cons_succ]
    refine wpAnyH_done (by kernel_rfl) ?_ _
    clear hHeld
    go_wp2_with fail
    exact bodyPost_ret (v := .tuple #[.agg #[.int .i64 k, .string (mkCol k), .string sh, .string (mkTop k)], .int .i64 0]) (by simp [results, Tryz.results69, go_sem, e0, e1, e2, e3]) rfl ⟨by rw [hsh], hbE⟩
end Go.Proofs.YtpfnnjcochhklaaGreatDoor
