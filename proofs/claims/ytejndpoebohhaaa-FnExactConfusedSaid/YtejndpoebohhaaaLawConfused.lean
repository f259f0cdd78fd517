/- The walk of the law FnExactConfused. -/
import Derived.Test.YtejndpoebohhaaaCfT
import Derived.Test.YtejndpoebohhaaaChEq
namespace Go.Proofs.Ytejndpoebohhaaa
open Go.RowKit
set_option maxRecDepth 100000 in
set_option maxHeartbeats 4000000 in
theorem lawConfused_c (A1 : Option Addr) (n1 c1 : Nat) (x : Ch) (A2 : Option Addr) (n2 c2 : Nat) (y : Ch) (tol : Int) (w : World) (s1 : Sl w w.heap.size 1 A1 n1 (x.gs.flatMap intC)) (hm1 : n1 ≤ maxLen) (hl1 : x.l.size ≤ maxLen) (hs1 : x.cs.size ≤ maxLen) (s2 : Sl w w.heap.size 1 A2 n2 (y.gs.flatMap intC)) (hm2 : n2 ≤ maxLen) (hl2 : y.l.size ≤ maxLen) (hs2 : y.cs.size ≤ maxLen) :
    Calls Try.prog 3 #[chV x.k A1 n1 c1 x.l x.cs x.p, chV y.k A2 n2 c2 y.l y.cs y.p, .int .i64 tol] w fun e w' => e = .returned (.bool true) ∧ Below w.heap.size w w' := by
  have hb0 : Below w.heap.size w ((w.alloc (chO A1 n1 c1 x 24)).alloc (chO A2 n2 c2 y 24)) := by (repeat (first | (with_reducible assumption) | (with_reducible exact Below.refl _ _) | exact Nat.le_refl _ | exact Below.size (by with_reducible assumption) | (with_reducible refine Below.drew ?_) | (with_reducible refine below_drewN ?_ _) | (with_reducible refine Below.alloc ?_ ?_ _) | (with_reducible refine Below.setCell ?_ ?_ _) | (with_reducible refine le_alloc ?_ _) | (with_reducible refine le_set ?_ _ _) | (with_reducible refine le_drew ?_) | (with_reducible refine le_drewN ?_ _) | omega | (dsimp only; omega)))
  have p1 := alloc_at2 (w := w) (cs := #[.int .i64 x.k, .slice A1 n1 c1, .string x.l, .string x.cs, .int .i64 x.p]) (e := 24) (w' := (w.alloc (chO A1 n1 c1 x 24)).alloc (chO A2 n2 c2 y 24)) (by (repeat (first | (with_reducible assumption) | (with_reducible exact Below.refl _ _) | exact Nat.le_refl _ | exact Below.size (by with_reducible assumption) | (with_reducible refine Below.drew ?_) | (with_reducible refine below_drewN ?_ _) | (with_reducible refine Below.alloc ?_ ?_ _) | (with_reducible refine Below.setCell ?_ ?_ _) | (with_reducible refine le_alloc ?_ _) | (with_reducible refine le_set ?_ _ _) | (with_reducible refine le_drew ?_) | (with_reducible refine le_drewN ?_ _) | omega | (dsimp only; omega))))
  have p2 := heap_alloc_new (w.alloc (chO A1 n1 c1 x 24)) (chO A2 n2 c2 y 24)
  have hsz : (w.alloc (chO A1 n1 c1 x 24)).heap.size = w.heap.size + 1 := by simp
  have hz0 : w.heap.size + 1 < ((w.alloc (chO A1 n1 c1 x 24)).alloc (chO A2 n2 c2 y 24)).heap.size := by simp
  rw [hsz] at p2
  obtain ⟨w0, hw⟩ : ∃ w0, (w.alloc (chO A1 n1 c1 x 24)).alloc (chO A2 n2 c2 y 24) = w0 := ⟨_, rfl⟩
  rw [hw] at hb0 p1 p2 hz0
  have a0 := (cell_of_row w0 w.heap.size 0 _ _ _ p1).trans rfl
  have a1 := (cell_of_row w0 w.heap.size 1 _ _ _ p1).trans rfl
  have a2 := (cell_of_row w0 w.heap.size 2 _ _ _ p1).trans rfl
  have a3 := (cell_of_row w0 w.heap.size 3 _ _ _ p1).trans rfl
  have a4 := (cell_of_row w0 w.heap.size 4 _ _ _ p1).trans rfl
  have b0 := (cell_of_row w0 (w.heap.size + 1) 0 _ _ _ p2).trans rfl
  have b1 := (cell_of_row w0 (w.heap.size + 1) 1 _ _ _ p2).trans rfl
  have b2 := (cell_of_row w0 (w.heap.size + 1) 2 _ _ _ p2).trans rfl
  have b3 := (cell_of_row w0 (w.heap.size + 1) 3 _ _ _ p2).trans rfl
  have b4 := (cell_of_row w0 (w.heap.size + 1) 4 _ _ _ p2).trans rfl
  have S1 := Lib.hid (s1.next hb0)
  have S2 := Lib.hid (s2.next hb0)
  clear hsz p1 p2 s1 s2
  go_enter Try.func3, Try.ntmps3
  go_wp2_with fail
  try rw [hw]
  clear hw
  refine (szCharacter_c x.k A1 n1 c1 x.l x.cs x.p _ _ hm1 hl1 hs1 (by omega) (by omega)).mono ?_
  rintro e w1 ⟨r, rfl, hr, hb1⟩
  have q0 := keepC hb1 w.heap.size (by omega)
  have q1 := keepC hb1 (w.heap.size + 1) hz0
  have z1 : w.heap.size + 1 < w1.heap.size := Nat.lt_of_lt_of_le hz0 hb1.size
  have H1 := hb1
  clear hb1
  go_wp2_with fail
  · go_ret
    exact ⟨rfl, hb0.trans (H1.mono hb0.size)⟩
  have hr0 : 0 ≤ r ∧ r ≤ 1048576 := by omega
  have h3 : n1 ≤ 1048576 ∧ x.l.size ≤ 1048576 ∧ x.cs.size ≤ 1048576 := by omega
  obtain ⟨hn1, hl1', hs1'⟩ := h3
  clear hr hm1 hl1 hs1
  refine (szCharacter_c y.k A2 n2 c2 y.l y.cs y.p _ _ hm2 hl2 hs2 hr0.1 hr0.2).mono ?_
  rintro e w2 ⟨r2, rfl, hr2, hb2⟩
  have q2 := keepC hb2 w.heap.size (by omega)
  have q3 := keepC hb2 (w.heap.size + 1) z1
  have z2 : w.heap.size + 1 < w2.heap.size := Nat.lt_of_lt_of_le z1 hb2.size
  have H2 := H1.trans (hb2.mono H1.size)
  clear hb2 H1
  go_wp2_with fail
  · go_ret
    exact ⟨rfl, hb0.trans (H2.mono hb0.size)⟩
  have h3 : n2 ≤ 1048576 ∧ y.l.size ≤ 1048576 ∧ y.cs.size ≤ 1048576 := by omega
  obtain ⟨hn2, hl2', hs2'⟩ := h3
  clear hr2 hr0 hm2 hl2 hs2
  obtain ⟨V, hV⟩ : ∃ V, confW x y tol = V := ⟨_, rfl⟩
  obtain ⟨K, hK⟩ : ∃ K, confK x y tol = K := ⟨_, rfl⟩
  have hS : ∀ w1 B1 d1 B2 d2, Sl w1 w1.heap.size 1 B1 n1 (x.gs.flatMap intC) → Sl w1 w1.heap.size 1 B2 n2 (y.gs.flatMap intC) → Calls Try.prog 8 #[chV x.k B1 n1 d1 x.l x.cs x.p, chV y.k B2 n2 d2 y.l y.cs y.p, .int .i64 tol] w1 fun e w' => e = .returned (.tuple #[.bool V, .int .i64 K]) ∧ Below w1.heap.size w1 w' := fun w1 B1 d1 B2 d2 u1 u2 => by
    have := specConfused_c B1 n1 d1 x B2 n2 d2 y tol w1 u1 hn1 hl1' hs1' u2 hn2 hl2' hs2'
    rwa [hV, hK] at this
  have hI : ∀ w1 B1 d1 B2 d2, Sl w1 w1.heap.size 1 B1 n1 (x.gs.flatMap intC) → Sl w1 w1.heap.size 1 B2 n2 (y.gs.flatMap intC) → Calls Try.prog 10 #[chV x.k B1 n1 d1 x.l x.cs x.p, chV y.k B2 n2 d2 y.l y.cs y.p, .int .i64 tol] w1 fun e w' => e = .returned (.tuple #[.bool V, .int .i64 K]) ∧ Below w1.heap.size w1 w' := fun w1 B1 d1 B2 d2 u1 u2 => by
    have := implConfused_c B1 n1 d1 x B2 n2 d2 y tol w1 u1 hn1 hl1' hs1' u2 hn2 hl2' hs2'
    rwa [hV, hK] at this
  have HT1 : Hid (∀ w1, Below w0.heap.size w0 w1 → Calls Try.prog 9 #[chV x.k A1 n1 c1 x.l x.cs x.p] w1 fun e w' => ∃ A' c', e = .returned (chV x.k A' n1 c' x.l x.cs x.p) ∧ w'.ownsRow w1.heap.size 2 1 (.slice A' n1 c') n1 (x.gs.flatMap intC) ∧ Below w1.heap.size w1 w') := Lib.hid fun w1 hb => toCharacter_c x.k A1 n1 c1 x.l x.cs x.p x.gs w1 (S1.out.next hb) hn1
  have HT2 : Hid (∀ w1, Below w0.heap.size w0 w1 → Calls Try.prog 9 #[chV y.k A2 n2 c2 y.l y.cs y.p] w1 fun e w' => ∃ A' c', e = .returned (chV y.k A' n2 c' y.l y.cs y.p) ∧ w'.ownsRow w1.heap.size 2 1 (.slice A' n2 c') n2 (y.gs.flatMap intC) ∧ Below w1.heap.size w1 w') := Lib.hid fun w1 hb => toCharacter_c y.k A2 n2 c2 y.l y.cs y.p y.gs w1 (S2.out.next hb) hn2
  have HS := Lib.hid hS; clear hS
  have HI := Lib.hid hI; clear hI
  clear hV hK
  have e2 : ∀ {w' : World}, Below w2.heap.size w2 w' → (Below w2.heap.size w2 w' ∧ (∀ i, w'.cell? ⟨w.heap.size, i, none⟩ = w2.cell? ⟨w.heap.size, i, none⟩) ∧ (∀ i, w'.cell? ⟨w.heap.size + 1, i, none⟩ = w2.cell? ⟨w.heap.size + 1, i, none⟩)) := fun hb => ⟨hb, keepC hb _ (by omega), keepC hb _ z2⟩
  refine wp_region_held_drew (S := fun w' => Below w2.heap.size w2 w' ∧ (∀ i, w'.cell? ⟨w.heap.size, i, none⟩ = w2.cell? ⟨w.heap.size, i, none⟩) ∧ (∀ i, w'.cell? ⟨w.heap.size + 1, i, none⟩ = w2.cell? ⟨w.heap.size + 1, i, none⟩)) (by kernel_rfl) (e2 (Below.refl _ _).drew) (fun hHeld => ?_)
  (first
    | (refine wpAnyH_take (i := 0) (v := ?_) rfl (by kernel_rfl) (by kernel_rfl) (by kernel_rfl) (fun _ _ _ h => h) (Or.inl ⟨by rfl, ?_⟩) (by assumption) ?_
       rotate_left
       focus (intro wq hSq; (try dsimp only at hSq); go_simp; (try (with_reducible rfl)); done))
    | (refine wpAnyH_take (i := 0) (v := undef) rfl (by kernel_rfl) (by kernel_rfl) (by kernel_rfl) (fun _ _ _ h => h) (Or.inr ⟨by rfl, rfl⟩) (by assumption) ?_)
    | fail "take 0")
  try simp only [Act.put, List.setIfInBounds_toArray, List.set_cons_zero, List.set_cons_succ, List.getElem_toArray, List.getElem_cons_zero]
  (first
    | (refine wpAnyH_take (i := 2) (v := ?_) rfl (by kernel_rfl) (by kernel_rfl) (by kernel_rfl) (fun _ _ _ h => h) (Or.inl ⟨by rfl, ?_⟩) (by assumption) ?_
       rotate_left
       focus (intro wq hSq; (try dsimp only at hSq); go_simp; (try (with_reducible rfl)); done))
    | (refine wpAnyH_take (i := 2) (v := undef) rfl (by kernel_rfl) (by kernel_rfl) (by kernel_rfl) (fun _ _ _ h => h) (Or.inr ⟨by rfl, rfl⟩) (by assumption) ?_)
    | fail "take 2")
  try simp only [Act.put, List.setIfInBounds_toArray, List.set_cons_zero, List.set_cons_succ, List.getElem_toArray, List.getElem_cons_zero, List.getElem_cons_succ]
  (first
    | (refine wpAnyH_take (i := 4) (v := ?_) rfl (by kernel_rfl) (by kernel_rfl) (by kernel_rfl) (fun _ _ _ h => h) (Or.inl ⟨by rfl, ?_⟩) (by assumption) ?_
       rotate_left
       focus (intro wq hSq; (try dsimp only at hSq); go_simp; (try (with_reducible rfl)); done))
    | (refine wpAnyH_take (i := 4) (v := undef) rfl (by kernel_rfl) (by kernel_rfl) (by kernel_rfl) (fun _ _ _ h => h) (Or.inr ⟨by rfl, rfl⟩) (by assumption) ?_)
    | fail "take 4")
  try simp only [Act.put, List.setIfInBounds_toArray, List.set_cons_zero, List.set_cons_succ, List.getElem_toArray, List.getElem_cons_zero, List.getElem_cons_succ]
  refine wpAnyH_ready (rs := [1]) (by kernel_rfl) (by simp) ?_
  refine AllReadyH.cons (o := _) rfl (fun K hK => ?_) AllReadyH.nil
  go_simp
  refine (HT1.out _ (H2.trans ((Below.refl w2.heap.size w2).drew.mono H2.size))).mono ?_; rintro e w3 ⟨A3, c3, rfl, ho3, hb3⟩; have hb13 := (Below.refl w2.heap.size w2).drew.trans hb3
  refine hK.out _ _ ?_ (fun hHeld => ?_)
  · exact e2 hb13
  clear hK K
  try simp only [Act.put, List.setIfInBounds_toArray, List.set_cons_zero, List.set_cons_succ, List.getElem_toArray, List.getElem_cons_zero, List.getElem_cons_succ]
  refine wpAnyH_ready (rs := [3]) (by kernel_rfl) (by simp) ?_
  refine AllReadyH.cons (o := _) rfl (fun K hK => ?_) AllReadyH.nil
  go_simp
  refine (HT2.out _ (H2.trans (hb13.mono H2.size))).mono ?_; rintro e w4 ⟨A4, c4, rfl, ho4, hb4⟩; have hb14 := hb13.trans (hb4.mono hb13.size)
  refine hK.out _ _ ?_ (fun hHeld => ?_)
  · exact e2 hb14
  clear hK K
  try simp only [Act.put, List.setIfInBounds_toArray, List.set_cons_zero, List.set_cons_succ, List.getElem_toArray, List.getElem_cons_zero, List.getElem_cons_succ]
  refine wpAnyH_ready (rs := [5]) (by kernel_rfl) (by simp) ?_
  refine AllReadyH.cons (o := _) rfl (fun K hK => ?_) AllReadyH.nil
  go_simp
  refine (HS.out _ A3 c3 A4 c4 ((Sl.of_own ho3).next hb4) (Sl.of_own ho4)).mono ?_; rintro e w5 ⟨rfl, hb5⟩; have hb15 := hb14.trans (hb5.mono hb14.size)
  refine hK.out _ _ ?_ (fun hHeld => ?_)
  · exact e2 hb15
  clear hK K
  try simp only [Act.put, List.setIfInBounds_toArray, List.set_cons_zero, List.set_cons_succ, List.getElem_toArray, List.getElem_cons_zero, List.getElem_cons_succ]
  (first
    | (refine wpAnyH_take (i := 6) (v := ?_) rfl (by kernel_rfl) (by kernel_rfl) (by kernel_rfl) (fun _ _ _ h => h) (Or.inl ⟨by rfl, ?_⟩) (by assumption) ?_
       rotate_left
       focus (intro wq hSq; (try dsimp only at hSq); go_simp; (try (with_reducible rfl)); done))
    | (refine wpAnyH_take (i := 6) (v := undef) rfl (by kernel_rfl) (by kernel_rfl) (by kernel_rfl) (fun _ _ _ h => h) (Or.inr ⟨by rfl, rfl⟩) (by assumption) ?_)
    | fail "take 6")
  try simp only [Act.put, List.setIfInBounds_toArray, List.set_cons_zero, List.set_cons_succ, List.getElem_toArray, List.getElem_cons_zero, List.getElem_cons_succ]
  (first
    | (refine wpAnyH_take (i := 7) (v := ?_) rfl (by kernel_rfl) (by kernel_rfl) (by kernel_rfl) (fun _ _ _ h => h) (Or.inl ⟨by rfl, ?_⟩) (by assumption) ?_
       rotate_left
       focus (intro wq hSq; (try dsimp only at hSq); go_simp; (try (with_reducible rfl)); done))
    | (refine wpAnyH_take (i := 7) (v := undef) rfl (by kernel_rfl) (by kernel_rfl) (by kernel_rfl) (fun _ _ _ h => h) (Or.inr ⟨by rfl, rfl⟩) (by assumption) ?_)
    | fail "take 7")
  try simp only [Act.put, List.setIfInBounds_toArray, List.set_cons_zero, List.set_cons_succ, List.getElem_toArray, List.getElem_cons_zero, List.getElem_cons_succ]
  (first
    | (refine wpAnyH_take (i := 8) (v := ?_) rfl (by kernel_rfl) (by kernel_rfl) (by kernel_rfl) (fun _ _ _ h => h) (Or.inl ⟨by rfl, ?_⟩) (by assumption) ?_
       rotate_left
       focus (intro wq hSq; (try dsimp only at hSq); go_simp; (try (with_reducible rfl)); done))
    | (refine wpAnyH_take (i := 8) (v := undef) rfl (by kernel_rfl) (by kernel_rfl) (by kernel_rfl) (fun _ _ _ h => h) (Or.inr ⟨by rfl, rfl⟩) (by assumption) ?_)
    | fail "take 8")
  try simp only [Act.put, List.setIfInBounds_toArray, List.set_cons_zero, List.set_cons_succ, List.getElem_toArray, List.getElem_cons_zero, List.getElem_cons_succ]
  (first
    | (refine wpAnyH_take (i := 9) (v := ?_) rfl (by kernel_rfl) (by kernel_rfl) (by kernel_rfl) (fun _ _ _ h => h) (Or.inl ⟨by rfl, ?_⟩) (by assumption) ?_
       rotate_left
       focus (intro wq hSq; (try dsimp only at hSq); go_simp; (try (with_reducible rfl)); done))
    | (refine wpAnyH_take (i := 9) (v := undef) rfl (by kernel_rfl) (by kernel_rfl) (by kernel_rfl) (fun _ _ _ h => h) (Or.inr ⟨by rfl, rfl⟩) (by assumption) ?_)
    | fail "take 9")
  try simp only [Act.put, List.setIfInBounds_toArray, List.set_cons_zero, List.set_cons_succ, List.getElem_toArray, List.getElem_cons_zero, List.getElem_cons_succ]
  (first
    | (refine wpAnyH_take (i := 10) (v := ?_) rfl (by kernel_rfl) (by kernel_rfl) (by kernel_rfl) (fun _ _ _ h => h) (Or.inl ⟨by rfl, ?_⟩) (by assumption) ?_
       rotate_left
       focus (intro wq hSq; (try dsimp only at hSq); go_simp; (try (with_reducible rfl)); done))
    | (refine wpAnyH_take (i := 10) (v := undef) rfl (by kernel_rfl) (by kernel_rfl) (by kernel_rfl) (fun _ _ _ h => h) (Or.inr ⟨by rfl, rfl⟩) (by assumption) ?_)
    | fail "take 10")
  try simp only [Act.put, List.setIfInBounds_toArray, List.set_cons_zero, List.set_cons_succ, List.getElem_toArray, List.getElem_cons_zero, List.getElem_cons_succ]
  refine wpAnyH_done (by kernel_rfl) ?_ _
  have H5 := H2.trans (hb15.mono H2.size)
  have q4 := keepC hb15 w.heap.size (by omega)
  have q5 := keepC hb15 (w.heap.size + 1) z2
  have z5 : w.heap.size + 1 < w5.heap.size := Nat.lt_of_lt_of_le z2 hb15.size
  clear ho3 ho4 hb3 hb4 hb5 hb13 hb14 hb15 hHeld e2 H2
  as_aux_lemma =>
    go_wp2_with fail
    refine (HT1.out _ H5).mono ?_
    rintro e w6 ⟨A6, c6, rfl, ho6, hb6⟩
    have q6 := keepC hb6 w.heap.size (by omega)
    have q7 := keepC hb6 (w.heap.size + 1) z5
    have z6 : w.heap.size + 1 < w6.heap.size := Nat.lt_of_lt_of_le z5 hb6.size
    have H6 := H5.trans (hb6.mono H5.size)
    have hbX : Below w6.heap.size w6 (w6.alloc (chO A6 n1 c6 x 28)) := (Below.refl _ _).alloc (Nat.le_refl _) _
    have pX := heap_alloc_new w6 (chO A6 n1 c6 x 28)
    have so6 := (Sl.of_own ho6).next hbX
    have q8 := keepC hbX w.heap.size (by omega)
    have q9 := keepC hbX (w.heap.size + 1) z6
    have z7 : w.heap.size + 1 < (w6.alloc (chO A6 n1 c6 x 28)).heap.size := Nat.lt_of_lt_of_le z6 hbX.size
    have zX : w6.heap.size < (w6.alloc (chO A6 n1 c6 x 28)).heap.size := by simp
    have H7 := H6.trans (hbX.mono H6.size)
    obtain ⟨X1, hX1⟩ : ∃ X, w6.heap.size = X := ⟨_, rfl⟩
    obtain ⟨w7, hw7⟩ : ∃ w7, w6.alloc (chO A6 n1 c6 x 28) = w7 := ⟨_, rfl⟩
    rw [hw7] at pX so6 q8 q9 z7 zX H7
    rw [hX1] at pX zX
    have x0 := (cell_of_row w7 X1 0 _ _ _ pX).trans rfl
    have x1 := (cell_of_row w7 X1 1 _ _ _ pX).trans rfl
    have x2 := (cell_of_row w7 X1 2 _ _ _ pX).trans rfl
    have x3 := (cell_of_row w7 X1 3 _ _ _ pX).trans rfl
    have x4 := (cell_of_row w7 X1 4 _ _ _ pX).trans rfl
    clear pX ho6 hb6 hbX H5 H6
    have So6 := Lib.hid so6; clear so6
    go_wp2_with fail
    try rw [hw7]
    try rw [hX1]
    clear hw7 hX1
    refine (HT2.out _ H7).mono ?_
    rintro e w8 ⟨A8, c8, rfl, ho8, hb8⟩
    have qa := keepC hb8 w.heap.size (by omega)
    have qb := keepC hb8 (w.heap.size + 1) z7
    have qx := keepC hb8 X1 zX
    have z8 : w.heap.size + 1 < w8.heap.size := Nat.lt_of_lt_of_le z7 hb8.size
    have zX8 : X1 < w8.heap.size := Nat.lt_of_lt_of_le zX hb8.size
    have H8 := H7.trans (hb8.mono H7.size)
    have s68 := So6.out.next hb8
    have hbX : Below w8.heap.size w8 (w8.alloc (chO A8 n2 c8 y 28)) := (Below.refl _ _).alloc (Nat.le_refl _) _
    have pX := heap_alloc_new w8 (chO A8 n2 c8 y 28)
    have so8 := (Sl.of_own ho8).next hbX
    have so68 := s68.next hbX
    have qc := keepC hbX w.heap.size (by omega)
    have qd := keepC hbX (w.heap.size + 1) z8
    have qy := keepC hbX X1 zX8
    have z9 : w.heap.size + 1 < (w8.alloc (chO A8 n2 c8 y 28)).heap.size := Nat.lt_of_lt_of_le z8 hbX.size
    have zX9 : X1 < (w8.alloc (chO A8 n2 c8 y 28)).heap.size := Nat.lt_of_lt_of_le zX8 hbX.size
    have zY9 : w8.heap.size < (w8.alloc (chO A8 n2 c8 y 28)).heap.size := by simp
    have H9 := H8.trans (hbX.mono H8.size)
    obtain ⟨X2, hX2⟩ : ∃ X, w8.heap.size = X := ⟨_, rfl⟩
    obtain ⟨w9, hw9⟩ : ∃ w9, w8.alloc (chO A8 n2 c8 y 28) = w9 := ⟨_, rfl⟩
    rw [hw9] at pX so8 so68 qc qd qy z9 zX9 zY9 H9
    rw [hX2] at pX zY9
    have y0 := (cell_of_row w9 X2 0 _ _ _ pX).trans rfl
    have y1 := (cell_of_row w9 X2 1 _ _ _ pX).trans rfl
    have y2 := (cell_of_row w9 X2 2 _ _ _ pX).trans rfl
    have y3 := (cell_of_row w9 X2 3 _ _ _ pX).trans rfl
    have y4 := (cell_of_row w9 X2 4 _ _ _ pX).trans rfl
    clear pX ho8 hb8 hbX H7 H8 s68 So6
    have So8 := Lib.hid so8; clear so8
    have So6 := Lib.hid so68; clear so68
    go_wp2_with fail
    try rw [hw9]
    try rw [hX2]
    clear hw9 hX2
    refine (HI.out _ A6 c6 A8 c8 So6.out So8.out).mono ?_
    rintro e w10 ⟨rfl, hb10⟩
    have H10 := H9.trans (hb10.mono H9.size)
    have qe := keepC hb10 w.heap.size (by omega)
    have qf := keepC hb10 (w.heap.size + 1) z9
    have qg := keepC hb10 X1 zX9
    have qh := keepC hb10 X2 zY9
    have zA : w.heap.size + 1 < w10.heap.size := Nat.lt_of_lt_of_le z9 hb10.size
    have zX10 : X1 < w10.heap.size := Nat.lt_of_lt_of_le zX9 hb10.size
    have zY10 : X2 < w10.heap.size := Nat.lt_of_lt_of_le zY9 hb10.size
    have s6a := So6.out.next hb10
    have s8a := So8.out.next hb10
    clear So6 So8 hb10 H9
    have So6 := Lib.hid s6a; clear s6a
    have So8 := Lib.hid s8a; clear s8a
    as_aux_lemma =>
      go_wp2_with fail
      have e9 : ∀ {w' : World}, Below w10.heap.size w10 w' → (Below w10.heap.size w10 w' ∧ (∀ i, w'.cell? ⟨w.heap.size, i, none⟩ = w10.cell? ⟨w.heap.size, i, none⟩) ∧ (∀ i, w'.cell? ⟨w.heap.size + 1, i, none⟩ = w10.cell? ⟨w.heap.size + 1, i, none⟩) ∧ (∀ i, w'.cell? ⟨X1, i, none⟩ = w10.cell? ⟨X1, i, none⟩) ∧ (∀ i, w'.cell? ⟨X2, i, none⟩ = w10.cell? ⟨X2, i, none⟩)) := fun hb => ⟨hb, keepC hb _ (by omega), keepC hb _ zA, keepC hb _ zX10, keepC hb _ zY10⟩
      refine wp_region_held_drew (S := fun w' => Below w10.heap.size w10 w' ∧ (∀ i, w'.cell? ⟨w.heap.size, i, none⟩ = w10.cell? ⟨w.heap.size, i, none⟩) ∧ (∀ i, w'.cell? ⟨w.heap.size + 1, i, none⟩ = w10.cell? ⟨w.heap.size + 1, i, none⟩) ∧ (∀ i, w'.cell? ⟨X1, i, none⟩ = w10.cell? ⟨X1, i, none⟩) ∧ (∀ i, w'.cell? ⟨X2, i, none⟩ = w10.cell? ⟨X2, i, none⟩)) (by kernel_rfl) (e9 (Below.refl _ _).drew) (fun hHeld => ?_)
      (first
        | (refine wpAnyH_take (i := 0) (v := ?_) rfl (by kernel_rfl) (by kernel_rfl) (by kernel_rfl) (fun _ _ _ h => h) (Or.inl ⟨by rfl, ?_⟩) (by assumption) ?_
           rotate_left
           focus (intro wq hSq; (try dsimp only at hSq); go_simp; (try (with_reducible rfl)); done))
        | (refine wpAnyH_take (i := 0) (v := undef) rfl (by kernel_rfl) (by kernel_rfl) (by kernel_rfl) (fun _ _ _ h => h) (Or.inr ⟨by rfl, rfl⟩) (by assumption) ?_)
        | fail "take 0")
      try simp only [Act.put, List.setIfInBounds_toArray, List.set_cons_zero, List.set_cons_succ, List.getElem_toArray, List.getElem_cons_zero]
      (first
        | (refine wpAnyH_take (i := 1) (v := ?_) rfl (by kernel_rfl) (by kernel_rfl) (by kernel_rfl) (fun _ _ _ h => h) (Or.inl ⟨by rfl, ?_⟩) (by assumption) ?_
           rotate_left
           focus (intro wq hSq; (try dsimp only at hSq); go_simp; (try (with_reducible rfl)); done))
        | (refine wpAnyH_take (i := 1) (v := undef) rfl (by kernel_rfl) (by kernel_rfl) (by kernel_rfl) (fun _ _ _ h => h) (Or.inr ⟨by rfl, rfl⟩) (by assumption) ?_)
        | fail "take 1")
      try simp only [Act.put, List.setIfInBounds_toArray, List.set_cons_zero, List.set_cons_succ, List.getElem_toArray, List.getElem_cons_zero, List.getElem_cons_succ]
      refine wpAnyH_ready (rs := [2]) (by kernel_rfl) (by simp) ?_
      refine AllReadyH.cons (o := _) rfl (fun K hK => ?_) AllReadyH.nil
      go_simp
      refine (HT1.out _ (H10.trans ((Below.refl w10.heap.size w10).drew.mono H10.size))).mono ?_; rintro e w11 ⟨A11, c11, rfl, ho11, hb11⟩; have hb1B := (Below.refl w10.heap.size w10).drew.trans hb11
      refine hK.out _ _ ?_ (fun hHeld => ?_)
      · exact e9 hb1B
      clear hK K
      try simp only [Act.put, List.setIfInBounds_toArray, List.set_cons_zero, List.set_cons_succ, List.getElem_toArray, List.getElem_cons_zero, List.getElem_cons_succ]
      refine wpAnyH_ready (rs := [3]) (by kernel_rfl) (by simp) ?_
      refine AllReadyH.cons (o := _) rfl (fun K hK => ?_) AllReadyH.nil
      go_simp
      refine (eqCharacter_c x.k A6 A11 n1 c6 c11 x.l x.cs x.p x.gs _ (So6.out.next hb1B) (Sl.of_own ho11) hn1).mono ?_; rintro e w12 ⟨rfl, hb12⟩; have hb1C := hb1B.trans (hb12.mono hb1B.size)
      refine hK.out _ _ ?_ (fun hHeld => ?_)
      · exact e9 hb1C
      clear hK K
      try simp only [Act.put, List.setIfInBounds_toArray, List.set_cons_zero, List.set_cons_succ, List.getElem_toArray, List.getElem_cons_zero, List.getElem_cons_succ]
      (first
        | (refine wpAnyH_take (i := 4) (v := ?_) rfl (by kernel_rfl) (by kernel_rfl) (by kernel_rfl) (fun _ _ _ h => h) (Or.inl ⟨by rfl, ?_⟩) (by assumption) ?_
           rotate_left
           focus (intro wq hSq; (try dsimp only at hSq); go_simp; (try (with_reducible rfl)); done))
        | (refine wpAnyH_take (i := 4) (v := undef) rfl (by kernel_rfl) (by kernel_rfl) (by kernel_rfl) (fun _ _ _ h => h) (Or.inr ⟨by rfl, rfl⟩) (by assumption) ?_)
        | fail "take 4")
      try simp only [Act.put, List.setIfInBounds_toArray, List.set_cons_zero, List.set_cons_succ, List.getElem_toArray, List.getElem_cons_zero, List.getElem_cons_succ]
      refine wpAnyH_done (by kernel_rfl) ?_ _
      have H12 := H10.trans (hb1C.mono H10.size)
      have qi := keepC hb1C w.heap.size (by omega)
      have qj := keepC hb1C (w.heap.size + 1) zA
      have qk := keepC hb1C X2 zY10
      have zB : w.heap.size + 1 < w12.heap.size := Nat.lt_of_lt_of_le zA hb1C.size
      have zY12 : X2 < w12.heap.size := Nat.lt_of_lt_of_le zY10 hb1C.size
      have zX12 : X1 < w12.heap.size := Nat.lt_of_lt_of_le zX10 hb1C.size
      have s8b := So8.out.next hb1C
      clear ho11 hb11 hb12 hb1B hb1C hHeld e9 H10 So6 So8
      have So8 := Lib.hid s8b; clear s8b
      go_wp2_with fail
      have eB : ∀ {w' : World}, Below w12.heap.size w12 w' → (Below w12.heap.size w12 w' ∧ (∀ i, w'.cell? ⟨w.heap.size, i, none⟩ = w12.cell? ⟨w.heap.size, i, none⟩) ∧ (∀ i, w'.cell? ⟨w.heap.size + 1, i, none⟩ = w12.cell? ⟨w.heap.size + 1, i, none⟩) ∧ (∀ i, w'.cell? ⟨X1, i, none⟩ = w12.cell? ⟨X1, i, none⟩) ∧ (∀ i, w'.cell? ⟨X2, i, none⟩ = w12.cell? ⟨X2, i, none⟩)) := fun hb => ⟨hb, keepC hb _ (by omega), keepC hb _ zB, keepC hb _ zX12, keepC hb _ zY12⟩
      refine wp_region_held_drew (S := fun w' => Below w12.heap.size w12 w' ∧ (∀ i, w'.cell? ⟨w.heap.size, i, none⟩ = w12.cell? ⟨w.heap.size, i, none⟩) ∧ (∀ i, w'.cell? ⟨w.heap.size + 1, i, none⟩ = w12.cell? ⟨w.heap.size + 1, i, none⟩) ∧ (∀ i, w'.cell? ⟨X1, i, none⟩ = w12.cell? ⟨X1, i, none⟩) ∧ (∀ i, w'.cell? ⟨X2, i, none⟩ = w12.cell? ⟨X2, i, none⟩)) (by kernel_rfl) (eB (Below.refl _ _).drew) (fun hHeld => ?_)
      (first
        | (refine wpAnyH_take (i := 0) (v := ?_) rfl (by kernel_rfl) (by kernel_rfl) (by kernel_rfl) (fun _ _ _ h => h) (Or.inl ⟨by rfl, ?_⟩) (by assumption) ?_
           rotate_left
           focus (intro wq hSq; (try dsimp only at hSq); go_simp; (try (with_reducible rfl)); done))
        | (refine wpAnyH_take (i := 0) (v := undef) rfl (by kernel_rfl) (by kernel_rfl) (by kernel_rfl) (fun _ _ _ h => h) (Or.inr ⟨by rfl, rfl⟩) (by assumption) ?_)
        | fail "take 0")
      try simp only [Act.put, List.setIfInBounds_toArray, List.set_cons_zero, List.set_cons_succ, List.getElem_toArray, List.getElem_cons_zero]
      (first
        | (refine wpAnyH_take (i := 1) (v := ?_) rfl (by kernel_rfl) (by kernel_rfl) (by kernel_rfl) (fun _ _ _ h => h) (Or.inl ⟨by rfl, ?_⟩) (by assumption) ?_
           rotate_left
           focus (intro wq hSq; (try dsimp only at hSq); go_simp; (try (with_reducible rfl)); done))
        | (refine wpAnyH_take (i := 1) (v := undef) rfl (by kernel_rfl) (by kernel_rfl) (by kernel_rfl) (fun _ _ _ h => h) (Or.inr ⟨by rfl, rfl⟩) (by assumption) ?_)
        | fail "take 1")
      try simp only [Act.put, List.setIfInBounds_toArray, List.set_cons_zero, List.set_cons_succ, List.getElem_toArray, List.getElem_cons_zero, List.getElem_cons_succ]
      refine wpAnyH_ready (rs := [2]) (by kernel_rfl) (by simp) ?_
      refine AllReadyH.cons (o := _) rfl (fun K hK => ?_) AllReadyH.nil
      go_simp
      refine (HT2.out _ (H12.trans ((Below.refl w12.heap.size w12).drew.mono H12.size))).mono ?_; rintro e w13 ⟨A13, c13, rfl, ho13, hb13⟩; have hb1D := (Below.refl w12.heap.size w12).drew.trans hb13
      refine hK.out _ _ ?_ (fun hHeld => ?_)
      · exact eB hb1D
      clear hK K
      try simp only [Act.put, List.setIfInBounds_toArray, List.set_cons_zero, List.set_cons_succ, List.getElem_toArray, List.getElem_cons_zero, List.getElem_cons_succ]
      refine wpAnyH_ready (rs := [3]) (by kernel_rfl) (by simp) ?_
      refine AllReadyH.cons (o := _) rfl (fun K hK => ?_) AllReadyH.nil
      go_simp
      refine (eqCharacter_c y.k A8 A13 n2 c8 c13 y.l y.cs y.p y.gs _ (So8.out.next hb1D) (Sl.of_own ho13) hn2).mono ?_; rintro e w14 ⟨rfl, hb14⟩; have hb1E := hb1D.trans (hb14.mono hb1D.size)
      refine hK.out _ _ ?_ (fun hHeld => ?_)
      · exact eB hb1E
      clear hK K
      try simp only [Act.put, List.setIfInBounds_toArray, List.set_cons_zero, List.set_cons_succ, List.getElem_toArray, List.getElem_cons_zero, List.getElem_cons_succ]
      (first
        | (refine wpAnyH_take (i := 4) (v := ?_) rfl (by kernel_rfl) (by kernel_rfl) (by kernel_rfl) (fun _ _ _ h => h) (Or.inl ⟨by rfl, ?_⟩) (by assumption) ?_
           rotate_left
           focus (intro wq hSq; (try dsimp only at hSq); go_simp; (try (with_reducible rfl)); done))
        | (refine wpAnyH_take (i := 4) (v := undef) rfl (by kernel_rfl) (by kernel_rfl) (by kernel_rfl) (fun _ _ _ h => h) (Or.inr ⟨by rfl, rfl⟩) (by assumption) ?_)
        | fail "take 4")
      try simp only [Act.put, List.setIfInBounds_toArray, List.set_cons_zero, List.set_cons_succ, List.getElem_toArray, List.getElem_cons_zero, List.getElem_cons_succ]
      refine wpAnyH_done (by kernel_rfl) ?_ _
      have H14 := H12.trans (hb1E.mono H12.size)
      clear ho13 hb13 hb14 hb1D hb1E hHeld eB
      go_wp2_with fail
      go_ret
      exact ⟨rfl, hb0.trans (H14.mono hb0.size)⟩
end Go.Proofs.Ytejndpoebohhaaa
