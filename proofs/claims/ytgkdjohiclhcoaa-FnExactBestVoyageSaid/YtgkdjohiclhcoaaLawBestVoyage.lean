/- The walk of the law FnExactBestVoyage. -/
import Derived.Test.YtgkdjohiclhcoaaVoyF3
import Derived.Test.YtgkdjohiclhcoaaVoyL
namespace Go.Proofs.Ytgkdjohiclhcoaa
open Go.RowKit
theorem own_newer {X Y : Option Nat} (h : X = none ∨ X ≠ Y) : Y = none ∨ Y ≠ X := by
  rcases h with rfl | h
  · cases Y
    · exact .inl rfl
    · exact .inr (by simp)
  · exact .inr (Ne.symm h)
theorem own_cc {w : World} {base : Nat} {e : TypeId} {sz n c : Nat} {A : Option Addr} {xs : List Value} (h : w.ownsRow base e sz (.slice A n c) n xs) : n ≤ c ∧ (A = none → c = 0) := by
  rcases h.2 with ⟨hv, hn⟩ | ⟨g, cap, cur, hv, _, _, h1, _⟩
  · injection hv with _ _ e3
    exact ⟨by omega, fun _ => e3⟩
  · injection hv with e1 _ e3
    exact ⟨by omega, fun e => by rw [e] at e1; cases e1⟩
theorem bestL_len (s : Sh) (zs : List Wk) (p : VSt) (bu : Int) : (bestL s zs p bu).length ≤ zs.length := by
  by_cases h : routK s zs p bu = 0
  · cases hd : dfs s zs p bu.toNat [] (bu.toNat, none) with
    | none =>
      unfold bestL
      rw [hd]
      cases decide (askK s zs p [] = 0) <;> cases inB bu 1 20000 <;> simp
    | some r =>
      obtain ⟨l, b⟩ := r
      have hl := dfs_len _ _ _ _ hd (fun _ _ h => nomatch h)
      rw [(best_ok h hd).2]
      cases b with
      | none => simp [listB]
      | some q => obtain ⟨e, bs⟩ := q; exact Nat.le_of_eq (hl e bs rfl)
  · rw [(best_no h).2]; simp
set_option maxRecDepth 100000 in
set_option maxHeartbeats 4000000 in
theorem lawBestVoyage_c (s : Sh) (x y t bu : Int) (AZ : Option Addr) (N cZ : Nat) (zs : List Wk) (w : World) (hs : s.name.size ≤ maxLen) (hz : Sl w w.heap.size 7 AZ N (zs.flatMap Wk.cells)) (hN : N ≤ maxLen) (hns : ∀ z ∈ zs, z.name.size ≤ maxLen) :
    Calls Try.prog 3 #[s.val, ptV x y, .slice AZ N cZ, .int .i64 t, .int .i64 bu] w fun e w' => e = .returned (.bool true) ∧ Below w.heap.size w w' := by
  have hb0 : Below w.heap.size w ((w.alloc (shO s 23)).alloc (ptO x y 25)) := by (repeat (first | (with_reducible assumption) | (with_reducible exact Below.refl _ _) | exact Nat.le_refl _ | exact Below.size (by with_reducible assumption) | (with_reducible refine Below.drew ?_) | (with_reducible refine below_drewN ?_ _) | (with_reducible refine Below.alloc ?_ ?_ _) | (with_reducible refine Below.setCell ?_ ?_ _) | (with_reducible refine le_alloc ?_ _) | (with_reducible refine le_set ?_ _ _) | (with_reducible refine le_drew ?_) | (with_reducible refine le_drewN ?_ _) | omega | (dsimp only; omega)))
  have g1 := (ShP.box w s 23).next (w' := (w.alloc (shO s 23)).alloc (ptO x y 25)) (by (repeat (first | (with_reducible assumption) | (with_reducible exact Below.refl _ _) | exact Nat.le_refl _ | exact Below.size (by with_reducible assumption) | (with_reducible refine Below.drew ?_) | (with_reducible refine below_drewN ?_ _) | (with_reducible refine Below.alloc ?_ ?_ _) | (with_reducible refine Below.setCell ?_ ?_ _) | (with_reducible refine le_alloc ?_ _) | (with_reducible refine le_set ?_ _ _) | (with_reducible refine le_drew ?_) | (with_reducible refine le_drewN ?_ _) | omega | (dsimp only; omega))))
  have hsz : (w.alloc (shO s 23)).heap.size = w.heap.size + 1 := by simp
  have p1 : PtP ((w.alloc (shO s 23)).alloc (ptO x y 25)) (w.heap.size + 1) x y := by
    have hb : ((w.alloc (shO s 23)).alloc (ptO x y 25)).heap[(w.alloc (shO s 23)).heap.size]? = some (.cells #[.int .i64 x, .int .i64 y] 25 (0, 0)) := heap_alloc_new _ _
    rw [hsz] at hb
    exact ⟨(cell_of_row _ (w.heap.size + 1) _ _ 25 (0, 0) hb).trans rfl, (cell_of_row _ (w.heap.size + 1) _ _ 25 (0, 0) hb).trans rfl, by simp⟩
  obtain ⟨w0, hw⟩ : ∃ w0, (w.alloc (shO s 23)).alloc (ptO x y 25) = w0 := ⟨_, rfl⟩
  rw [hw] at hb0 g1 p1
  obtain ⟨c0, c1, c2, c3, hg⟩ := g1
  obtain ⟨d0, d1, hp1⟩ := p1
  have hz0 := hz.next hb0
  have hln := hz.len Wk.cells 7 Wk.cells_len (by omega)
  have HZ := Lib.hid hz0; clear hz0
  have Hln := Lib.hid hln; clear hln
  clear hsz hz
  go_enter Try.func3, Try.ntmps3
  go_wp2_with fail
  try rw [hw]
  clear hw
  refine (szShip_c s _ _ hs (by omega) (by omega)).mono ?_
  rintro e w1 ⟨r, rfl, hr, hb1⟩
  have q0 := keepC hb1 w.heap.size hg
  have q1 := keepC hb1 (w.heap.size + 1) hp1
  have z1 : w.heap.size + 1 < w1.heap.size := Nat.lt_of_lt_of_le hp1 hb1.size
  have H1 := hb1
  clear hb1
  go_wp2_with fail
  · go_ret
    exact ⟨rfl, hb0.trans (H1.mono hb0.size)⟩
  have hr0 : 0 ≤ r ∧ r ≤ 1048576 := by omega
  clear hr
  refine (szWorkS_c AZ N cZ zs r _ (HZ.out.next H1) hN hns hr0.1 (by omega)).mono ?_
  rintro e w2 ⟨r2, rfl, hr2, hb2⟩
  have q2 := keepC hb2 w.heap.size (by omega)
  have q3 := keepC hb2 (w.heap.size + 1) (by omega)
  have z2 : w.heap.size + 1 < w2.heap.size := Nat.lt_of_lt_of_le z1 hb2.size
  have H2 := H1.trans (hb2.mono H1.size)
  clear hb2 H1
  have HR2 := Lib.hid hr2; clear hr2
  go_wp2_with fail
  · go_ret
    exact ⟨rfl, hb0.trans (H2.mono hb0.size)⟩
  have hNN : N ≤ 1048576 := by have := HR2.out; omega
  clear HR2 hr0
  obtain ⟨FL, hFL⟩ : ∃ FL, bestL s zs ⟨t, x, y⟩ bu = FL := ⟨_, rfl⟩
  obtain ⟨K, hK⟩ : ∃ K, bestK s zs ⟨t, x, y⟩ bu = K := ⟨_, rfl⟩
  have hml : FL.length ≤ N := by rw [← hFL, ← Hln.out]; exact bestL_len _ _ _ _
  have hS : ∀ w1 A1 c1, Sl w1 w1.heap.size 7 A1 N (zs.flatMap Wk.cells) → Calls Try.prog 8 #[s.val, ptV x y, .slice A1 N c1, .int .i64 t, .int .i64 bu] w1 fun e w' => ∃ v, e = .returned (.tuple #[v, .int .i64 K]) ∧ w'.ownsRow w1.heap.size 2 1 v FL.length (FL.flatMap intC) ∧ Below w1.heap.size w1 w' := fun w1 A1 c1 h1 => by
    refine (specBestVoyage_c s x y t bu A1 N c1 zs w1 hs h1 hNN hns).mono ?_
    rintro e w' ⟨v, n, h1, rfl, h2, h3⟩
    rw [hFL] at h2
    rw [hK] at h1
    exact ⟨v, h1, h2, h3⟩
  have hI : ∀ w1 A1 c1, Sl w1 w1.heap.size 7 A1 N (zs.flatMap Wk.cells) → Calls Try.prog 12 #[s.val, ptV x y, .slice A1 N c1, .int .i64 t, .int .i64 bu] w1 fun e w' => ∃ v, e = .returned (.tuple #[v, .int .i64 K]) ∧ w'.ownsRow w1.heap.size 2 1 v FL.length (FL.flatMap intC) ∧ Below w1.heap.size w1 w' := fun w1 A1 c1 h1 => by
    refine (implBestVoyage_c s x y t bu A1 N c1 zs w1 hs h1 hNN hns).mono ?_
    rintro e w' ⟨v, n, h1, rfl, h2, h3⟩
    rw [hFL] at h2
    rw [hK] at h1
    exact ⟨v, h1, h2, h3⟩
  generalize FL.length = m at *
  have hmm : m ≤ maxLen := by unfold maxLen; omega
  have Hmm := Lib.hid hmm; clear hmm
  have HS := Lib.hid hS; clear hS
  have HI := Lib.hid hI; clear hI
  clear hFL hK
  have e1 : ∀ {w' : World}, Below w2.heap.size w2 w' → (Below w2.heap.size w2 w' ∧ (∀ x, w'.cell? ⟨w.heap.size, x, none⟩ = w2.cell? ⟨w.heap.size, x, none⟩) ∧ (∀ x, w'.cell? ⟨w.heap.size + 1, x, none⟩ = w2.cell? ⟨w.heap.size + 1, x, none⟩)) := fun hb => ⟨hb, keepC hb _ (by omega), keepC hb _ (by omega)⟩
  refine wp_region_held_drew (S := fun w' => Below w2.heap.size w2 w' ∧ (∀ x, w'.cell? ⟨w.heap.size, x, none⟩ = w2.cell? ⟨w.heap.size, x, none⟩) ∧ (∀ x, w'.cell? ⟨w.heap.size + 1, x, none⟩ = w2.cell? ⟨w.heap.size + 1, x, none⟩)) (by kernel_rfl) (e1 (Below.refl _ _).drew) (fun hHeld => ?_)
  (first
    | (refine wpAnyH_take (i := 0) (v := ?_) rfl (by kernel_rfl) (by kernel_rfl) (by kernel_rfl) (fun _ _ _ h => h) (Or.inl ⟨by rfl, ?_⟩) (by assumption) ?_
       rotate_left
       focus (intro wq hSq; (try dsimp only at hSq); go_simp; (try (with_reducible rfl)); done))
    | (refine wpAnyH_take (i := 0) (v := undef) rfl (by kernel_rfl) (by kernel_rfl) (by kernel_rfl) (fun _ _ _ h => h) (Or.inr ⟨by rfl, rfl⟩) (by assumption) ?_)
    | fail "take 0")
  try simp only [Act.put, List.setIfInBounds_toArray, List.set_cons_zero, List.set_cons_succ, List.getElem_toArray, List.getElem_cons_zero]
  (first
    | (refine wpAnyH_take (i := 2) (v := ?_) rfl (by kernel_rfl) (by kernel_rfl) (by kernel_rfl) (fun _ _ _ h => h) (Or.inl ⟨by rfl, ?_⟩) (by assumption) ?_
       rotate_left
       focus (intro wq hSq; (try dsimp only at hSq); go_simp; (try (with_reducible rfl)); done))
    | (refine wpAnyH_take (i := 2) (v := undef) rfl (by kernel_rfl) (by kernel_rfl) (by kernel_rfl) (fun _ _ _ h => h) (Or.inr ⟨by rfl, rfl⟩) (by assumption) ?_)
    | fail "take 2")
  try simp only [Act.put, List.setIfInBounds_toArray, List.set_cons_zero, List.set_cons_succ, List.getElem_toArray, List.getElem_cons_zero, List.getElem_cons_succ]
  (first
    | (refine wpAnyH_take (i := 4) (v := ?_) rfl (by kernel_rfl) (by kernel_rfl) (by kernel_rfl) (fun _ _ _ h => h) (Or.inl ⟨by rfl, ?_⟩) (by assumption) ?_
       rotate_left
       focus (intro wq hSq; (try dsimp only at hSq); go_simp; (try (with_reducible rfl)); done))
    | (refine wpAnyH_take (i := 4) (v := undef) rfl (by kernel_rfl) (by kernel_rfl) (by kernel_rfl) (fun _ _ _ h => h) (Or.inr ⟨by rfl, rfl⟩) (by assumption) ?_)
    | fail "take 4")
  try simp only [Act.put, List.setIfInBounds_toArray, List.set_cons_zero, List.set_cons_succ, List.getElem_toArray, List.getElem_cons_zero, List.getElem_cons_succ]
  (first
    | (refine wpAnyH_take (i := 6) (v := ?_) rfl (by kernel_rfl) (by kernel_rfl) (by kernel_rfl) (fun _ _ _ h => h) (Or.inl ⟨by rfl, ?_⟩) (by assumption) ?_
       rotate_left
       focus (intro wq hSq; (try dsimp only at hSq); go_simp; (try (with_reducible rfl)); done))
    | (refine wpAnyH_take (i := 6) (v := undef) rfl (by kernel_rfl) (by kernel_rfl) (by kernel_rfl) (fun _ _ _ h => h) (Or.inr ⟨by rfl, rfl⟩) (by assumption) ?_)
    | fail "take 6")
  try simp only [Act.put, List.setIfInBounds_toArray, List.set_cons_zero, List.set_cons_succ, List.getElem_toArray, List.getElem_cons_zero, List.getElem_cons_succ]
  (first
    | (refine wpAnyH_take (i := 7) (v := ?_) rfl (by kernel_rfl) (by kernel_rfl) (by kernel_rfl) (fun _ _ _ h => h) (Or.inl ⟨by rfl, ?_⟩) (by assumption) ?_
       rotate_left
       focus (intro wq hSq; (try dsimp only at hSq); go_simp; (try (with_reducible rfl)); done))
    | (refine wpAnyH_take (i := 7) (v := undef) rfl (by kernel_rfl) (by kernel_rfl) (by kernel_rfl) (fun _ _ _ h => h) (Or.inr ⟨by rfl, rfl⟩) (by assumption) ?_)
    | fail "take 7")
  try simp only [Act.put, List.setIfInBounds_toArray, List.set_cons_zero, List.set_cons_succ, List.getElem_toArray, List.getElem_cons_zero, List.getElem_cons_succ]
  refine wpAnyH_ready (rs := [1]) (by kernel_rfl) (by simp) ?_
  refine AllReadyH.cons (o := _) rfl (fun K hK => ?_) AllReadyH.nil
  go_simp
  refine (toShip_c s _).mono ?_; rintro e w3 ⟨rfl, hb3⟩; have hb13 := (Below.refl w2.heap.size w2).drew.trans hb3
  refine hK.out _ _ ?_ (fun hHeld => ?_)
  · exact e1 hb13
  clear hK K
  try simp only [Act.put, List.setIfInBounds_toArray, List.set_cons_zero, List.set_cons_succ, List.getElem_toArray, List.getElem_cons_zero, List.getElem_cons_succ]
  refine wpAnyH_ready (rs := [3]) (by kernel_rfl) (by simp) ?_
  refine AllReadyH.cons (o := _) rfl (fun K hK => ?_) AllReadyH.nil
  go_simp
  refine (toPoint_c x y _).mono ?_; rintro e w4 ⟨rfl, hb4⟩; have hb14 := hb13.trans (hb4.mono hb13.size)
  refine hK.out _ _ ?_ (fun hHeld => ?_)
  · exact e1 hb14
  clear hK K
  try simp only [Act.put, List.setIfInBounds_toArray, List.set_cons_zero, List.set_cons_succ, List.getElem_toArray, List.getElem_cons_zero, List.getElem_cons_succ]
  refine wpAnyH_ready (rs := [5]) (by kernel_rfl) (by simp) ?_
  refine AllReadyH.cons (o := _) rfl (fun K hK => ?_) AllReadyH.nil
  go_simp
  refine (toWorkS_c AZ N cZ zs _ ((HZ.out.next H2).next hb14) hNN).mono ?_; rintro e w5 ⟨v5, rfl, ho5, hb5⟩; obtain ⟨A5, c5, rfl⟩ := own_slice ho5; have s5 := Sl.of_own ho5; have hb15 := hb14.trans (hb5.mono hb14.size)
  refine hK.out _ _ ?_ (fun hHeld => ?_)
  · exact e1 hb15
  clear hK K
  try simp only [Act.put, List.setIfInBounds_toArray, List.set_cons_zero, List.set_cons_succ, List.getElem_toArray, List.getElem_cons_zero, List.getElem_cons_succ]
  refine wpAnyH_ready (rs := [8]) (by kernel_rfl) (by simp) ?_
  refine AllReadyH.cons (o := _) rfl (fun K hK => ?_) AllReadyH.nil
  go_simp
  refine (HS.out _ A5 c5 s5).mono ?_; rintro e w7 ⟨vW, rfl, hoW, hb7⟩; obtain ⟨AW, cW, rfl⟩ := own_slice hoW; have hb17 := hb15.trans (hb7.mono hb15.size)
  refine hK.out _ _ ?_ (fun hHeld => ?_)
  · exact e1 hb17
  clear hK K
  try simp only [Act.put, List.setIfInBounds_toArray, List.set_cons_zero, List.set_cons_succ, List.getElem_toArray, List.getElem_cons_zero, List.getElem_cons_succ]
  (first
    | (refine wpAnyH_take (i := 9) (v := ?_) rfl (by kernel_rfl) (by kernel_rfl) (by kernel_rfl) (fun _ _ _ h => h) (Or.inl ⟨by rfl, ?_⟩) (by assumption) ?_
       rotate_left
       focus (intro wq hSq; (try dsimp only at hSq); go_simp; (try (with_reducible rfl)); done))
    | (refine wpAnyH_take (i := 9) (v := undef) rfl (by kernel_rfl) (by kernel_rfl) (by kernel_rfl) (fun _ _ _ h => h) (Or.inr ⟨by rfl, rfl⟩) (by assumption) ?_)
    | fail "take 9")
  try simp only [Act.put, List.setIfInBounds_toArray, List.set_cons_zero, List.set_cons_succ, List.getElem_toArray, List.getElem_cons_zero, List.getElem_cons_succ]
  (first
    | (refine wpAnyH_take (i := 10) (v := ?_) rfl (by kernel_rfl) (by kernel_rfl) (by kernel_rfl) (fun _ _ _ h => h) (Or.inl ⟨by rfl, ?_⟩) (by assumption) ?_
       rotate_left
       focus (intro wq hSq; (try dsimp only at hSq); go_simp; (try (with_reducible rfl)); done))
    | (refine wpAnyH_take (i := 10) (v := undef) rfl (by kernel_rfl) (by kernel_rfl) (by kernel_rfl) (fun _ _ _ h => h) (Or.inr ⟨by rfl, rfl⟩) (by assumption) ?_)
    | fail "take 10")
  try simp only [Act.put, List.setIfInBounds_toArray, List.set_cons_zero, List.set_cons_succ, List.getElem_toArray, List.getElem_cons_zero, List.getElem_cons_succ]
  (first
    | (refine wpAnyH_take (i := 11) (v := ?_) rfl (by kernel_rfl) (by kernel_rfl) (by kernel_rfl) (fun _ _ _ h => h) (Or.inl ⟨by rfl, ?_⟩) (by assumption) ?_
       rotate_left
       focus (intro wq hSq; (try dsimp only at hSq); go_simp; (try (with_reducible rfl)); done))
    | (refine wpAnyH_take (i := 11) (v := undef) rfl (by kernel_rfl) (by kernel_rfl) (by kernel_rfl) (fun _ _ _ h => h) (Or.inr ⟨by rfl, rfl⟩) (by assumption) ?_)
    | fail "take 11")
  try simp only [Act.put, List.setIfInBounds_toArray, List.set_cons_zero, List.set_cons_succ, List.getElem_toArray, List.getElem_cons_zero, List.getElem_cons_succ]
  (first
    | (refine wpAnyH_take (i := 12) (v := ?_) rfl (by kernel_rfl) (by kernel_rfl) (by kernel_rfl) (fun _ _ _ h => h) (Or.inl ⟨by rfl, ?_⟩) (by assumption) ?_
       rotate_left
       focus (intro wq hSq; (try dsimp only at hSq); go_simp; (try (with_reducible rfl)); done))
    | (refine wpAnyH_take (i := 12) (v := undef) rfl (by kernel_rfl) (by kernel_rfl) (by kernel_rfl) (fun _ _ _ h => h) (Or.inr ⟨by rfl, rfl⟩) (by assumption) ?_)
    | fail "take 12")
  try simp only [Act.put, List.setIfInBounds_toArray, List.set_cons_zero, List.set_cons_succ, List.getElem_toArray, List.getElem_cons_zero, List.getElem_cons_succ]
  (first
    | (refine wpAnyH_take (i := 13) (v := ?_) rfl (by kernel_rfl) (by kernel_rfl) (by kernel_rfl) (fun _ _ _ h => h) (Or.inl ⟨by rfl, ?_⟩) (by assumption) ?_
       rotate_left
       focus (intro wq hSq; (try dsimp only at hSq); go_simp; (try (with_reducible rfl)); done))
    | (refine wpAnyH_take (i := 13) (v := undef) rfl (by kernel_rfl) (by kernel_rfl) (by kernel_rfl) (fun _ _ _ h => h) (Or.inr ⟨by rfl, rfl⟩) (by assumption) ?_)
    | fail "take 13")
  try simp only [Act.put, List.setIfInBounds_toArray, List.set_cons_zero, List.set_cons_succ, List.getElem_toArray, List.getElem_cons_zero, List.getElem_cons_succ]
  refine wpAnyH_done (by kernel_rfl) ?_ _
  have hWlt : ∀ k, (Value.slice AW m cW).ownBlock = some k → k < w7.heap.size := fun k hk => (hoW.lt k hk).2
  have H7 := H2.trans (hb17.mono H2.size)
  have q4 := keepC hb17 w.heap.size (by omega)
  have q5 := keepC hb17 (w.heap.size + 1) (by omega)
  have z7 : w.heap.size + 1 < w7.heap.size := Nat.lt_of_lt_of_le z2 hb17.size
  clear hb3 hb4 hb5 hb7 hb13 hb14 hb15 ho5 s5 hHeld e1 HS H2 hb17
  as_aux_lemma =>
    go_wp2_with fail
    refine (toWorkS_c AZ N cZ zs _ (HZ.out.next H7) hNN).mono ?_
    rintro e w8 ⟨v8, rfl, hoX, hb8⟩
    obtain ⟨AX, cX, rfl⟩ := own_slice hoX
    replace hoW := own_next hoW hb8
    have q6 := keepC hb8 w.heap.size (by omega)
    have q7 := keepC hb8 (w.heap.size + 1) (by omega)
    have z8 : w.heap.size + 1 < w8.heap.size := Nat.lt_of_lt_of_le z7 hb8.size
    have hz78 := hb8.size
    have H8 := H7.trans (hb8.mono H7.size)
    have hXb : w0.heap.size ≤ w7.heap.size := H7.size
    clear hb8 H7
    go_wp2_with fail
    have e9 : ∀ {w' : World}, Below w8.heap.size w8 w' → (Below w8.heap.size w8 w' ∧ (∀ x, w'.cell? ⟨w.heap.size, x, none⟩ = w8.cell? ⟨w.heap.size, x, none⟩) ∧ (∀ x, w'.cell? ⟨w.heap.size + 1, x, none⟩ = w8.cell? ⟨w.heap.size + 1, x, none⟩)) := fun hb => ⟨hb, keepC hb _ (by omega), keepC hb _ (by omega)⟩
    refine wp_region_held_drew (S := fun w' => Below w8.heap.size w8 w' ∧ (∀ x, w'.cell? ⟨w.heap.size, x, none⟩ = w8.cell? ⟨w.heap.size, x, none⟩) ∧ (∀ x, w'.cell? ⟨w.heap.size + 1, x, none⟩ = w8.cell? ⟨w.heap.size + 1, x, none⟩)) (by kernel_rfl) (e9 (Below.refl _ _).drew) (fun hHeld => ?_)
    (first
      | (refine wpAnyH_take (i := 0) (v := ?_) rfl (by kernel_rfl) (by kernel_rfl) (by kernel_rfl) (fun _ _ _ h => h) (Or.inl ⟨by rfl, ?_⟩) (by assumption) ?_
         rotate_left
         focus (intro wq hSq; (try dsimp only at hSq); go_simp; (try (with_reducible rfl)); done))
      | (refine wpAnyH_take (i := 0) (v := undef) rfl (by kernel_rfl) (by kernel_rfl) (by kernel_rfl) (fun _ _ _ h => h) (Or.inr ⟨by rfl, rfl⟩) (by assumption) ?_)
      | fail "take 0")
    try simp only [Act.put, List.setIfInBounds_toArray, List.set_cons_zero, List.set_cons_succ, List.getElem_toArray, List.getElem_cons_zero]
    (first
      | (refine wpAnyH_take (i := 2) (v := ?_) rfl (by kernel_rfl) (by kernel_rfl) (by kernel_rfl) (fun _ _ _ h => h) (Or.inl ⟨by rfl, ?_⟩) (by assumption) ?_
         rotate_left
         focus (intro wq hSq; (try dsimp only at hSq); go_simp; (try (with_reducible rfl)); done))
      | (refine wpAnyH_take (i := 2) (v := undef) rfl (by kernel_rfl) (by kernel_rfl) (by kernel_rfl) (fun _ _ _ h => h) (Or.inr ⟨by rfl, rfl⟩) (by assumption) ?_)
      | fail "take 2")
    try simp only [Act.put, List.setIfInBounds_toArray, List.set_cons_zero, List.set_cons_succ, List.getElem_toArray, List.getElem_cons_zero, List.getElem_cons_succ]
    (first
      | (refine wpAnyH_take (i := 4) (v := ?_) rfl (by kernel_rfl) (by kernel_rfl) (by kernel_rfl) (fun _ _ _ h => h) (Or.inl ⟨by rfl, ?_⟩) (by assumption) ?_
         rotate_left
         focus (intro wq hSq; (try dsimp only at hSq); go_simp; (try (with_reducible rfl)); done))
      | (refine wpAnyH_take (i := 4) (v := undef) rfl (by kernel_rfl) (by kernel_rfl) (by kernel_rfl) (fun _ _ _ h => h) (Or.inr ⟨by rfl, rfl⟩) (by assumption) ?_)
      | fail "take 4")
    try simp only [Act.put, List.setIfInBounds_toArray, List.set_cons_zero, List.set_cons_succ, List.getElem_toArray, List.getElem_cons_zero, List.getElem_cons_succ]
    (first
      | (refine wpAnyH_take (i := 5) (v := ?_) rfl (by kernel_rfl) (by kernel_rfl) (by kernel_rfl) (fun _ _ _ h => h) (Or.inl ⟨by rfl, ?_⟩) (by assumption) ?_
         rotate_left
         focus (intro wq hSq; (try dsimp only at hSq); go_simp; (try (with_reducible rfl)); done))
      | (refine wpAnyH_take (i := 5) (v := undef) rfl (by kernel_rfl) (by kernel_rfl) (by kernel_rfl) (fun _ _ _ h => h) (Or.inr ⟨by rfl, rfl⟩) (by assumption) ?_)
      | fail "take 5")
    try simp only [Act.put, List.setIfInBounds_toArray, List.set_cons_zero, List.set_cons_succ, List.getElem_toArray, List.getElem_cons_zero, List.getElem_cons_succ]
    (first
      | (refine wpAnyH_take (i := 6) (v := ?_) rfl (by kernel_rfl) (by kernel_rfl) (by kernel_rfl) (fun _ _ _ h => h) (Or.inl ⟨by rfl, ?_⟩) (by assumption) ?_
         rotate_left
         focus (intro wq hSq; (try dsimp only at hSq); go_simp; (try (with_reducible rfl)); done))
      | (refine wpAnyH_take (i := 6) (v := undef) rfl (by kernel_rfl) (by kernel_rfl) (by kernel_rfl) (fun _ _ _ h => h) (Or.inr ⟨by rfl, rfl⟩) (by assumption) ?_)
      | fail "take 6")
    try simp only [Act.put, List.setIfInBounds_toArray, List.set_cons_zero, List.set_cons_succ, List.getElem_toArray, List.getElem_cons_zero, List.getElem_cons_succ]
    refine wpAnyH_ready (rs := [1]) (by kernel_rfl) (by simp) ?_
    refine AllReadyH.cons (o := _) rfl (fun K hK => ?_) AllReadyH.nil
    go_simp
    refine (toShip_c s _).mono ?_; rintro e w3 ⟨rfl, hb3⟩; have hb13 := (Below.refl w8.heap.size w8).drew.trans hb3
    refine hK.out _ _ ?_ (fun hHeld => ?_)
    · exact e9 hb13
    clear hK K
    try simp only [Act.put, List.setIfInBounds_toArray, List.set_cons_zero, List.set_cons_succ, List.getElem_toArray, List.getElem_cons_zero, List.getElem_cons_succ]
    refine wpAnyH_ready (rs := [3]) (by kernel_rfl) (by simp) ?_
    refine AllReadyH.cons (o := _) rfl (fun K hK => ?_) AllReadyH.nil
    go_simp
    refine (toPoint_c x y _).mono ?_; rintro e w4 ⟨rfl, hb4⟩; have hb14 := hb13.trans (hb4.mono hb13.size)
    refine hK.out _ _ ?_ (fun hHeld => ?_)
    · exact e9 hb14
    clear hK K
    try simp only [Act.put, List.setIfInBounds_toArray, List.set_cons_zero, List.set_cons_succ, List.getElem_toArray, List.getElem_cons_zero, List.getElem_cons_succ]
    refine wpAnyH_ready (rs := [7]) (by kernel_rfl) (by simp) ?_
    refine AllReadyH.cons (o := _) rfl (fun K hK => ?_) AllReadyH.nil
    go_simp
    refine (HI.out _ AX cX ((Sl.of_own hoX).next hb14)).mono ?_; rintro e w10 ⟨vG, rfl, hoG, hb10⟩; obtain ⟨AG, cG, rfl⟩ := own_slice hoG; have hb1A := hb14.trans (hb10.mono hb14.size)
    refine hK.out _ _ ?_ (fun hHeld => ?_)
    · exact e9 hb1A
    clear hK K
    try simp only [Act.put, List.setIfInBounds_toArray, List.set_cons_zero, List.set_cons_succ, List.getElem_toArray, List.getElem_cons_zero, List.getElem_cons_succ]
    (first
      | (refine wpAnyH_take (i := 8) (v := ?_) rfl (by kernel_rfl) (by kernel_rfl) (by kernel_rfl) (fun _ _ _ h => h) (Or.inl ⟨by rfl, ?_⟩) (by assumption) ?_
         rotate_left
         focus (intro wq hSq; (try dsimp only at hSq); go_simp; (try (with_reducible rfl)); done))
      | (refine wpAnyH_take (i := 8) (v := undef) rfl (by kernel_rfl) (by kernel_rfl) (by kernel_rfl) (fun _ _ _ h => h) (Or.inr ⟨by rfl, rfl⟩) (by assumption) ?_)
      | fail "take 8")
    try simp only [Act.put, List.setIfInBounds_toArray, List.set_cons_zero, List.set_cons_succ, List.getElem_toArray, List.getElem_cons_zero, List.getElem_cons_succ]
    (first
      | (refine wpAnyH_take (i := 9) (v := ?_) rfl (by kernel_rfl) (by kernel_rfl) (by kernel_rfl) (fun _ _ _ h => h) (Or.inl ⟨by rfl, ?_⟩) (by assumption) ?_
         rotate_left
         focus (intro wq hSq; (try dsimp only at hSq); go_simp; (try (with_reducible rfl)); done))
      | (refine wpAnyH_take (i := 9) (v := undef) rfl (by kernel_rfl) (by kernel_rfl) (by kernel_rfl) (fun _ _ _ h => h) (Or.inr ⟨by rfl, rfl⟩) (by assumption) ?_)
      | fail "take 9")
    try simp only [Act.put, List.setIfInBounds_toArray, List.set_cons_zero, List.set_cons_succ, List.getElem_toArray, List.getElem_cons_zero, List.getElem_cons_succ]
    (first
      | (refine wpAnyH_take (i := 10) (v := ?_) rfl (by kernel_rfl) (by kernel_rfl) (by kernel_rfl) (fun _ _ _ h => h) (Or.inl ⟨by rfl, ?_⟩) (by assumption) ?_
         rotate_left
         focus (intro wq hSq; (try dsimp only at hSq); go_simp; (try (with_reducible rfl)); done))
      | (refine wpAnyH_take (i := 10) (v := undef) rfl (by kernel_rfl) (by kernel_rfl) (by kernel_rfl) (fun _ _ _ h => h) (Or.inr ⟨by rfl, rfl⟩) (by assumption) ?_)
      | fail "take 10")
    try simp only [Act.put, List.setIfInBounds_toArray, List.set_cons_zero, List.set_cons_succ, List.getElem_toArray, List.getElem_cons_zero, List.getElem_cons_succ]
    (first
      | (refine wpAnyH_take (i := 11) (v := ?_) rfl (by kernel_rfl) (by kernel_rfl) (by kernel_rfl) (fun _ _ _ h => h) (Or.inl ⟨by rfl, ?_⟩) (by assumption) ?_
         rotate_left
         focus (intro wq hSq; (try dsimp only at hSq); go_simp; (try (with_reducible rfl)); done))
      | (refine wpAnyH_take (i := 11) (v := undef) rfl (by kernel_rfl) (by kernel_rfl) (by kernel_rfl) (fun _ _ _ h => h) (Or.inr ⟨by rfl, rfl⟩) (by assumption) ?_)
      | fail "take 11")
    try simp only [Act.put, List.setIfInBounds_toArray, List.set_cons_zero, List.set_cons_succ, List.getElem_toArray, List.getElem_cons_zero, List.getElem_cons_succ]
    (first
      | (refine wpAnyH_take (i := 12) (v := ?_) rfl (by kernel_rfl) (by kernel_rfl) (by kernel_rfl) (fun _ _ _ h => h) (Or.inl ⟨by rfl, ?_⟩) (by assumption) ?_
         rotate_left
         focus (intro wq hSq; (try dsimp only at hSq); go_simp; (try (with_reducible rfl)); done))
      | (refine wpAnyH_take (i := 12) (v := undef) rfl (by kernel_rfl) (by kernel_rfl) (by kernel_rfl) (fun _ _ _ h => h) (Or.inr ⟨by rfl, rfl⟩) (by assumption) ?_)
      | fail "take 12")
    try simp only [Act.put, List.setIfInBounds_toArray, List.set_cons_zero, List.set_cons_succ, List.getElem_toArray, List.getElem_cons_zero, List.getElem_cons_succ]
    refine wpAnyH_done (by kernel_rfl) ?_ _
    have hz814 := hb14.size
    replace hoW := own_next hoW hb1A
    replace hoX := own_next hoX hb1A
    have H10 := H8.trans (hb1A.mono H8.size)
    have q10 := keepC hb1A w.heap.size (by omega)
    have q11 := keepC hb1A (w.heap.size + 1) (by omega)
    have z10 : w.heap.size + 1 < w10.heap.size := Nat.lt_of_lt_of_le z8 hb1A.size
    clear hb3 hb4 hb13 hb10 hb1A hHeld e9 H8 hb14
    as_aux_lemma =>
      go_wp2_with fail
      refine (eqInt64S_c AG AW m cG cW FL _ (Sl.of_own hoG) (Sl.of_own hoW) Hmm.out).mono ?_
      rintro e w11 ⟨rfl, hb11⟩
      replace hoW := own_next hoW hb11
      replace hoX := own_next hoX hb11
      replace hoG := own_next hoG hb11
      have H11 := H10.trans (hb11.mono H10.size)
      go_wp2_with fail
      refine (toWorkS_c AZ N cZ zs _ (HZ.out.next H11) hNN).mono ?_
      rintro e w12 ⟨v12, rfl, ho12, hb12⟩
      obtain ⟨A12, c12, rfl⟩ := own_slice ho12
      replace hoW := own_next hoW hb12
      replace hoX := own_next hoX hb12
      replace hoG := own_next hoG hb12
      have H12 := H11.trans (hb12.mono H11.size)
      go_wp2_with fail
      refine (eqWorkS_c AX A12 N cX c12 zs _ (Sl.of_own hoX) (Sl.of_own ho12) hN).mono ?_
      rintro e w13 ⟨rfl, hb13⟩
      replace hoW := own_next hoW hb13
      replace hoX := own_next hoX hb13
      replace hoG := own_next hoG hb13
      have H13 := H12.trans (hb13.mono H12.size)
      clear ho12 H10 H11 H12 hb11 hb12 hb13
      as_aux_lemma =>
        go_wp2_with fail
        refine (markWorkS_c AX N cX 1 _ _ _ hoX hNN (by omega) (by omega)).mono ?_
        rintro e w16 ⟨rfl, hg16⟩
        replace hoG := own_grown hoG hg16 (own_ne hoG hoX (by decide))
        replace hoW := own_grown hoW hg16 (own_ne hoW hoX (by decide))
        have H16 : Below w0.heap.size w0 w16 := H13.grown hg16 H13.size fun k hk => Nat.le_trans hXb (hoX.lt k hk).1
        clear hoX hg16 H13
        have hneg : ¬ (((1 + 7 * N : Nat) : Int) < 0) := by omega
        go_wp2_with fail
        refine (eqInt64S_c AG AW m cG cW FL _ (Sl.of_own hoG) (Sl.of_own hoW) Hmm.out).mono ?_
        rintro e w18 ⟨rfl, hb18⟩
        replace hoW := own_next hoW hb18
        replace hoG := own_next hoG hb18
        have H18 := H16.trans (hb18.mono H16.size)
        clear hb18 H16
        go_wp2_with fail
        refine (markInt64S_c AG m cG 1 _ _ _ hoG (by omega) (by omega)).mono ?_
        rintro e w19 ⟨rfl, hoG2, hg19⟩
        replace hoW := own_grown hoW hg19 (own_older hoW (fun k hk => Nat.lt_of_lt_of_le (hWlt k hk) (Nat.le_trans hz78 hz814)) hoG)
        have H19 : Below w0.heap.size w0 w19 := H18.grown hg19 H18.size fun k hk => Nat.le_trans hXb (Nat.le_trans (Nat.le_trans hz78 hz814) (hoG.lt k hk).1)
        clear hoG hg19 H18
        as_aux_lemma =>
          go_wp2_with fail
          refine (heldInt64S_c AG m cG 1 _ (Sl.of_own hoG2) (by omega) (by omega)).mono ?_
          rintro e w20 ⟨rfl, rfl⟩
          have q12 := (keepC H19 w.heap.size hg)
          have q13 := (keepC H19 (w.heap.size + 1) hp1)
          have z19 : w.heap.size + 1 < w19.heap.size := Nat.lt_of_lt_of_le hp1 H19.size
          have hneg2 : ¬ (((1 + m : Nat) : Int) < 0) := by omega
          go_wp2_with fail
          have e19 : ∀ {w' : World}, Below w19.heap.size w19 w' → (Below w19.heap.size w19 w' ∧ (∀ x, w'.cell? ⟨w.heap.size, x, none⟩ = w19.cell? ⟨w.heap.size, x, none⟩) ∧ (∀ x, w'.cell? ⟨w.heap.size + 1, x, none⟩ = w19.cell? ⟨w.heap.size + 1, x, none⟩)) := fun hb => ⟨hb, keepC hb _ (by omega), keepC hb _ (by omega)⟩
          refine wp_region_held_drew (S := fun w' => Below w19.heap.size w19 w' ∧ (∀ x, w'.cell? ⟨w.heap.size, x, none⟩ = w19.cell? ⟨w.heap.size, x, none⟩) ∧ (∀ x, w'.cell? ⟨w.heap.size + 1, x, none⟩ = w19.cell? ⟨w.heap.size + 1, x, none⟩)) (by kernel_rfl) (e19 (Below.refl _ _).drew) (fun hHeld => ?_)
          (first
            | (refine wpAnyH_take (i := 0) (v := ?_) rfl (by kernel_rfl) (by kernel_rfl) (by kernel_rfl) (fun _ _ _ h => h) (Or.inl ⟨by rfl, ?_⟩) (by assumption) ?_
               rotate_left
               focus (intro wq hSq; (try dsimp only at hSq); go_simp; (try (with_reducible rfl)); done))
            | (refine wpAnyH_take (i := 0) (v := undef) rfl (by kernel_rfl) (by kernel_rfl) (by kernel_rfl) (fun _ _ _ h => h) (Or.inr ⟨by rfl, rfl⟩) (by assumption) ?_)
            | fail "take 0")
          try simp only [Act.put, List.setIfInBounds_toArray, List.set_cons_zero, List.set_cons_succ, List.getElem_toArray, List.getElem_cons_zero]
          (first
            | (refine wpAnyH_take (i := 2) (v := ?_) rfl (by kernel_rfl) (by kernel_rfl) (by kernel_rfl) (fun _ _ _ h => h) (Or.inl ⟨by rfl, ?_⟩) (by assumption) ?_
               rotate_left
               focus (intro wq hSq; (try dsimp only at hSq); go_simp; (try (with_reducible rfl)); done))
            | (refine wpAnyH_take (i := 2) (v := undef) rfl (by kernel_rfl) (by kernel_rfl) (by kernel_rfl) (fun _ _ _ h => h) (Or.inr ⟨by rfl, rfl⟩) (by assumption) ?_)
            | fail "take 2")
          try simp only [Act.put, List.setIfInBounds_toArray, List.set_cons_zero, List.set_cons_succ, List.getElem_toArray, List.getElem_cons_zero, List.getElem_cons_succ]
          (first
            | (refine wpAnyH_take (i := 4) (v := ?_) rfl (by kernel_rfl) (by kernel_rfl) (by kernel_rfl) (fun _ _ _ h => h) (Or.inl ⟨by rfl, ?_⟩) (by assumption) ?_
               rotate_left
               focus (intro wq hSq; (try dsimp only at hSq); go_simp; (try (with_reducible rfl)); done))
            | (refine wpAnyH_take (i := 4) (v := undef) rfl (by kernel_rfl) (by kernel_rfl) (by kernel_rfl) (fun _ _ _ h => h) (Or.inr ⟨by rfl, rfl⟩) (by assumption) ?_)
            | fail "take 4")
          try simp only [Act.put, List.setIfInBounds_toArray, List.set_cons_zero, List.set_cons_succ, List.getElem_toArray, List.getElem_cons_zero, List.getElem_cons_succ]
          (first
            | (refine wpAnyH_take (i := 6) (v := ?_) rfl (by kernel_rfl) (by kernel_rfl) (by kernel_rfl) (fun _ _ _ h => h) (Or.inl ⟨by rfl, ?_⟩) (by assumption) ?_
               rotate_left
               focus (intro wq hSq; (try dsimp only at hSq); go_simp; (try (with_reducible rfl)); done))
            | (refine wpAnyH_take (i := 6) (v := undef) rfl (by kernel_rfl) (by kernel_rfl) (by kernel_rfl) (fun _ _ _ h => h) (Or.inr ⟨by rfl, rfl⟩) (by assumption) ?_)
            | fail "take 6")
          try simp only [Act.put, List.setIfInBounds_toArray, List.set_cons_zero, List.set_cons_succ, List.getElem_toArray, List.getElem_cons_zero, List.getElem_cons_succ]
          (first
            | (refine wpAnyH_take (i := 7) (v := ?_) rfl (by kernel_rfl) (by kernel_rfl) (by kernel_rfl) (fun _ _ _ h => h) (Or.inl ⟨by rfl, ?_⟩) (by assumption) ?_
               rotate_left
               focus (intro wq hSq; (try dsimp only at hSq); go_simp; (try (with_reducible rfl)); done))
            | (refine wpAnyH_take (i := 7) (v := undef) rfl (by kernel_rfl) (by kernel_rfl) (by kernel_rfl) (fun _ _ _ h => h) (Or.inr ⟨by rfl, rfl⟩) (by assumption) ?_)
            | fail "take 7")
          try simp only [Act.put, List.setIfInBounds_toArray, List.set_cons_zero, List.set_cons_succ, List.getElem_toArray, List.getElem_cons_zero, List.getElem_cons_succ]
          refine wpAnyH_ready (rs := [1]) (by kernel_rfl) (by simp) ?_
          refine AllReadyH.cons (o := _) rfl (fun K hK => ?_) AllReadyH.nil
          go_simp
          refine (toShip_c s _).mono ?_; rintro e w3 ⟨rfl, hb3⟩; have hb13 := (Below.refl w19.heap.size w19).drew.trans hb3
          refine hK.out _ _ ?_ (fun hHeld => ?_)
          · exact e19 hb13
          clear hK K
          try simp only [Act.put, List.setIfInBounds_toArray, List.set_cons_zero, List.set_cons_succ, List.getElem_toArray, List.getElem_cons_zero, List.getElem_cons_succ]
          refine wpAnyH_ready (rs := [3]) (by kernel_rfl) (by simp) ?_
          refine AllReadyH.cons (o := _) rfl (fun K hK => ?_) AllReadyH.nil
          go_simp
          refine (toPoint_c x y _).mono ?_; rintro e w4 ⟨rfl, hb4⟩; have hb14 := hb13.trans (hb4.mono hb13.size)
          refine hK.out _ _ ?_ (fun hHeld => ?_)
          · exact e19 hb14
          clear hK K
          try simp only [Act.put, List.setIfInBounds_toArray, List.set_cons_zero, List.set_cons_succ, List.getElem_toArray, List.getElem_cons_zero, List.getElem_cons_succ]
          refine wpAnyH_ready (rs := [5]) (by kernel_rfl) (by simp) ?_
          refine AllReadyH.cons (o := _) rfl (fun K hK => ?_) AllReadyH.nil
          go_simp
          refine (toWorkS_c AZ N cZ zs _ ((HZ.out.next H19).next hb14) hNN).mono ?_; rintro e w5 ⟨v5, rfl, ho5, hb5⟩; obtain ⟨A5, c5, rfl⟩ := own_slice ho5; have s5 := Sl.of_own ho5; have hb15 := hb14.trans (hb5.mono hb14.size)
          refine hK.out _ _ ?_ (fun hHeld => ?_)
          · exact e19 hb15
          clear hK K
          try simp only [Act.put, List.setIfInBounds_toArray, List.set_cons_zero, List.set_cons_succ, List.getElem_toArray, List.getElem_cons_zero, List.getElem_cons_succ]
          refine wpAnyH_ready (rs := [8]) (by kernel_rfl) (by simp) ?_
          refine AllReadyH.cons (o := _) rfl (fun K hK => ?_) AllReadyH.nil
          go_simp
          refine (HI.out _ A5 c5 s5).mono ?_; rintro e w7 ⟨vH, rfl, hoH, hb7⟩; obtain ⟨AH, cH, rfl⟩ := own_slice hoH; have hb17 := hb15.trans (hb7.mono hb15.size)
          refine hK.out _ _ ?_ (fun hHeld => ?_)
          · exact e19 hb17
          clear hK K
          try simp only [Act.put, List.setIfInBounds_toArray, List.set_cons_zero, List.set_cons_succ, List.getElem_toArray, List.getElem_cons_zero, List.getElem_cons_succ]
          (first
            | (refine wpAnyH_take (i := 9) (v := ?_) rfl (by kernel_rfl) (by kernel_rfl) (by kernel_rfl) (fun _ _ _ h => h) (Or.inl ⟨by rfl, ?_⟩) (by assumption) ?_
               rotate_left
               focus (intro wq hSq; (try dsimp only at hSq); go_simp; (try (with_reducible rfl)); done))
            | (refine wpAnyH_take (i := 9) (v := undef) rfl (by kernel_rfl) (by kernel_rfl) (by kernel_rfl) (fun _ _ _ h => h) (Or.inr ⟨by rfl, rfl⟩) (by assumption) ?_)
            | fail "take 9")
          try simp only [Act.put, List.setIfInBounds_toArray, List.set_cons_zero, List.set_cons_succ, List.getElem_toArray, List.getElem_cons_zero, List.getElem_cons_succ]
          (first
            | (refine wpAnyH_take (i := 10) (v := ?_) rfl (by kernel_rfl) (by kernel_rfl) (by kernel_rfl) (fun _ _ _ h => h) (Or.inl ⟨by rfl, ?_⟩) (by assumption) ?_
               rotate_left
               focus (intro wq hSq; (try dsimp only at hSq); go_simp; (try (with_reducible rfl)); done))
            | (refine wpAnyH_take (i := 10) (v := undef) rfl (by kernel_rfl) (by kernel_rfl) (by kernel_rfl) (fun _ _ _ h => h) (Or.inr ⟨by rfl, rfl⟩) (by assumption) ?_)
            | fail "take 10")
          try simp only [Act.put, List.setIfInBounds_toArray, List.set_cons_zero, List.set_cons_succ, List.getElem_toArray, List.getElem_cons_zero, List.getElem_cons_succ]
          (first
            | (refine wpAnyH_take (i := 11) (v := ?_) rfl (by kernel_rfl) (by kernel_rfl) (by kernel_rfl) (fun _ _ _ h => h) (Or.inl ⟨by rfl, ?_⟩) (by assumption) ?_
               rotate_left
               focus (intro wq hSq; (try dsimp only at hSq); go_simp; (try (with_reducible rfl)); done))
            | (refine wpAnyH_take (i := 11) (v := undef) rfl (by kernel_rfl) (by kernel_rfl) (by kernel_rfl) (fun _ _ _ h => h) (Or.inr ⟨by rfl, rfl⟩) (by assumption) ?_)
            | fail "take 11")
          try simp only [Act.put, List.setIfInBounds_toArray, List.set_cons_zero, List.set_cons_succ, List.getElem_toArray, List.getElem_cons_zero, List.getElem_cons_succ]
          (first
            | (refine wpAnyH_take (i := 12) (v := ?_) rfl (by kernel_rfl) (by kernel_rfl) (by kernel_rfl) (fun _ _ _ h => h) (Or.inl ⟨by rfl, ?_⟩) (by assumption) ?_
               rotate_left
               focus (intro wq hSq; (try dsimp only at hSq); go_simp; (try (with_reducible rfl)); done))
            | (refine wpAnyH_take (i := 12) (v := undef) rfl (by kernel_rfl) (by kernel_rfl) (by kernel_rfl) (fun _ _ _ h => h) (Or.inr ⟨by rfl, rfl⟩) (by assumption) ?_)
            | fail "take 12")
          try simp only [Act.put, List.setIfInBounds_toArray, List.set_cons_zero, List.set_cons_succ, List.getElem_toArray, List.getElem_cons_zero, List.getElem_cons_succ]
          (first
            | (refine wpAnyH_take (i := 13) (v := ?_) rfl (by kernel_rfl) (by kernel_rfl) (by kernel_rfl) (fun _ _ _ h => h) (Or.inl ⟨by rfl, ?_⟩) (by assumption) ?_
               rotate_left
               focus (intro wq hSq; (try dsimp only at hSq); go_simp; (try (with_reducible rfl)); done))
            | (refine wpAnyH_take (i := 13) (v := undef) rfl (by kernel_rfl) (by kernel_rfl) (by kernel_rfl) (fun _ _ _ h => h) (Or.inr ⟨by rfl, rfl⟩) (by assumption) ?_)
            | fail "take 13")
          try simp only [Act.put, List.setIfInBounds_toArray, List.set_cons_zero, List.set_cons_succ, List.getElem_toArray, List.getElem_cons_zero, List.getElem_cons_succ]
          refine wpAnyH_done (by kernel_rfl) ?_ _
          replace hoW := own_next hoW hb17
          replace hoG2 := own_next hoG2 hb17
          have H20 := H19.trans (hb17.mono H19.size)
          clear hb3 hb4 hb5 hb7 hb13 hb14 hb15 ho5 s5 hHeld e19 hb17
          go_wp2_with fail
          refine (eqInt64S_c AH AW m cH cW FL _ (Sl.of_own hoH) (Sl.of_own hoW) Hmm.out).mono ?_
          rintro e w21 ⟨rfl, hb21⟩
          replace hoG2 := own_next hoG2 hb21
          have H21 := H20.trans (hb21.mono H20.size)
          go_wp2_with fail
          refine (heldInt64S_c AG m cG 1 _ (Sl.of_own hoG2) (by omega) (by omega)).mono ?_
          rintro e w22 ⟨rfl, rfl⟩
          go_wp2_with fail
          go_ret
          exact ⟨rfl, hb0.trans (H21.mono hb0.size)⟩
end Go.Proofs.Ytgkdjohiclhcoaa
