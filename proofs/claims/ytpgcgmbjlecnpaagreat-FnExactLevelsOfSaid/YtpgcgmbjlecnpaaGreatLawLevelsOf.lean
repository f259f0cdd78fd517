/- The walk of the law FnExactLevelsOf. -/
import Derived.Test.YtpgcgmbjlecnpaaGreatPhLaw
import Derived.Test.YtpgcgmbjlecnpaaGreatStaLaw
import Derived.Test.YtpgcgmbjlecnpaaGreatSuvG
namespace Go.Proofs.YtpgcgmbjlecnpaaGreat
open Go.RowKit
theorem own_newer {X Y : Option Nat} (h : X = none ∨ X ≠ Y) : Y = none ∨ Y ≠ X := by
  rcases h with rfl | h
  · cases Y
    · exact .inl rfl
    · exact .inr (by simp)
  · exact .inr (Ne.symm h)
set_option maxRecDepth 100000 in
set_option maxHeartbeats 4000000 in
theorem lawLevelsOf_c (s : St) (x : Ch) (A : Option Addr) (n c : Nat) (lat fr cnt : Int) (w : World) (h : Sl w w.heap.size 1 A n (x.gs.flatMap intC)) (hm : n ≤ maxLen) (hl : x.l.size ≤ maxLen) (hc : x.cs.size ≤ maxLen) :
    Calls Tryz.prog 4 #[stV s, chV x.k A n c x.l x.cs x.p, .int .i64 lat, .int .i64 fr, .int .i64 cnt] w fun e w' => e = .returned (.bool true) ∧ Below w.heap.size w w' := by
  have hb0 : Below w.heap.size w ((w.alloc (.cells #[.int .i64 s.la, .int .i64 s.sb, .int .i64 s.ba, .int .i64 s.pa, .int .i64 s.sh] 23)).alloc (.cells #[.int .i64 x.k, .slice A n c, .string x.l, .string x.cs, .int .i64 x.p] 26)) := by (repeat (first | (with_reducible assumption) | (with_reducible exact Below.refl _ _) | exact Nat.le_refl _ | exact Below.size (by with_reducible assumption) | (with_reducible refine Below.drew ?_) | (with_reducible refine below_drewN ?_ _) | (with_reducible refine Below.alloc ?_ ?_ _) | (with_reducible refine Below.setCell ?_ ?_ _) | (with_reducible refine le_alloc ?_ _) | (with_reducible refine le_set ?_ _ _) | (with_reducible refine le_drew ?_) | (with_reducible refine le_drewN ?_ _) | omega | (dsimp only; omega)))
  have hz0 : w.heap.size + 1 < ((w.alloc (.cells #[.int .i64 s.la, .int .i64 s.sb, .int .i64 s.ba, .int .i64 s.pa, .int .i64 s.sh] 23)).alloc (.cells #[.int .i64 x.k, .slice A n c, .string x.l, .string x.cs, .int .i64 x.p] 26)).heap.size := by simp
  obtain ⟨a0, a1, a2, a3, a4, c0, c1, c2, c3, c4⟩ := law_box (A := A) (n := n) (c := c) w s x 23 26
  have hml : (levV s x lat fr cnt).length ≤ 400 := levV_len
  have hS : ∀ (A : Option Addr) (c : Nat) (w' : World), Sl w' w'.heap.size 1 A n (x.gs.flatMap intC) → n ≤ 1048576 → x.l.size ≤ 1048576 → x.cs.size ≤ 1048576 → _ := fun A c w' sl a b d => specLev_c s A n c x w' sl a b d lat fr cnt
  have hI : ∀ (A : Option Addr) (c : Nat) (w' : World), Sl w' w'.heap.size 1 A n (x.gs.flatMap intC) → n ≤ 1048576 → x.l.size ≤ 1048576 → x.cs.size ≤ 1048576 → _ := fun A c w' sl a b d => implLev_c s A n c x w' sl a b d lat fr cnt
  generalize levV s x lat fr cnt = ds at *
  generalize powK s x lat fr cnt = K at *
  generalize ds.length = m at *
  have hmm : m ≤ maxLen := by unfold maxLen; omega
  have Hmm := Lib.hid hmm; clear hmm
  have HS := Lib.hid hS; clear hS
  have HI := Lib.hid hI; clear hI
  go_enter Tryz.func4, Tryz.ntmps4
  go_wp2_with fail
  generalize (w.alloc (.cells #[.int .i64 s.la, .int .i64 s.sb, .int .i64 s.ba, .int .i64 s.pa, .int .i64 s.sh] 23)).alloc (.cells #[.int .i64 x.k, .slice A n c, .string x.l, .string x.cs, .int .i64 x.p] 26) = w0 at *
  have h00 := h.next hb0
  refine (szCharacter_c x.k A n c x.l x.cs x.p _ _ hm hl hc (by omega) (by omega)).mono ?_
  rintro e w1 ⟨r, rfl, hr, hb1⟩
  have q1 := keepC hb1 w.heap.size (by omega)
  have r1 := keepC hb1 (w.heap.size + 1) (by omega)
  have z1 : w.heap.size + 1 < w1.heap.size := Nat.lt_of_lt_of_le hz0 hb1.size
  have H1 := hb1
  go_wp2_with fail
  · go_ret
    exact ⟨rfl, hb0.trans (hb1.mono hb0.size)⟩
  have h0 : (n : Int) ≤ 1048576 ∧ (x.l.size : Int) ≤ 1048576 ∧ (x.cs.size : Int) ≤ 1048576 := by omega
  obtain ⟨h1, h2, h3⟩ := h0
  clear hr hb1
  have e1 : ∀ {w' : World}, Below w1.heap.size w1 w' → (Below w1.heap.size w1 w' ∧ (∀ x, w'.cell? ⟨w.heap.size, x, none⟩ = w1.cell? ⟨w.heap.size, x, none⟩) ∧ (∀ x, w'.cell? ⟨w.heap.size + 1, x, none⟩ = w1.cell? ⟨w.heap.size + 1, x, none⟩)) := fun hb => ⟨hb, keepC hb _ (by omega), keepC hb _ (by omega)⟩
  refine wp_region_held_drew (S := fun w' => Below w1.heap.size w1 w' ∧ (∀ x, w'.cell? ⟨w.heap.size, x, none⟩ = w1.cell? ⟨w.heap.size, x, none⟩) ∧ (∀ x, w'.cell? ⟨w.heap.size + 1, x, none⟩ = w1.cell? ⟨w.heap.size + 1, x, none⟩)) (by kernel_rfl) (e1 (Below.refl _ _).drew) (fun hHeld => ?_)
  (first
    | (refine wpAnyH_take (i := 0) (v := ?_) rfl (by kernel_rfl) (by kernel_rfl) (by kernel_rfl) (fun _ _ _ h => h) (Or.inl ⟨by rfl, ?_⟩) (by assumption) ?_
       rotate_left
       focus (intro wq hSq; (try dsimp only at hSq); go_simp; (try (with_reducible rfl)); done))
    | (refine wpAnyH_take (i := 0) (v := undef) rfl (by kernel_rfl) (by kernel_rfl) (by kernel_rfl) (fun _ _ _ h => h) (Or.inr ⟨by rfl, rfl⟩) (by assumption) ?_)
    | fail "take 0")
  try simp only [Act.put, List.setIfInBounds_toArray, List.set_cons_zero, List.set_cons_succ, List.getElem_toArray, List.getElem_cons_zero]
  (first
    | (refine wpAnyH_take (i := 2) (v := ?_) rfl (by kernel_rfl) (by kernel_rfl) (by kernel_rfl) (fun _ _ _ h => h) (Or.inl ⟨by rfl, ?_⟩) (by assumption) ?_
       rotate_left
       focus (intro wq hSq; (try dsimp only at hSq); go_simp; (try (with_reducible rfl)); done))
    | (refine wpAnyH_take (i := 2) (v := undef) rfl (by kernel_rfl) (by kernel_rfl) (by kernel_rfl) (fun _ _ _ h => h) (Or.inr ⟨by rfl, rfl⟩) (by assumption) ?_)
    | fail "take 2")
  try simp only [Act.put, List.setIfInBounds_toArray, List.set_cons_zero, List.set_cons_succ, List.getElem_toArray, List.getElem_cons_zero, List.getElem_cons_succ]
  (first
    | (refine wpAnyH_take (i := 4) (v := ?_) rfl (by kernel_rfl) (by kernel_rfl) (by kernel_rfl) (fun _ _ _ h => h) (Or.inl ⟨by rfl, ?_⟩) (by assumption) ?_
       rotate_left
       focus (intro wq hSq; (try dsimp only at hSq); go_simp; (try (with_reducible rfl)); done))
    | (refine wpAnyH_take (i := 4) (v := undef) rfl (by kernel_rfl) (by kernel_rfl) (by kernel_rfl) (fun _ _ _ h => h) (Or.inr ⟨by rfl, rfl⟩) (by assumption) ?_)
    | fail "take 4")
  try simp only [Act.put, List.setIfInBounds_toArray, List.set_cons_zero, List.set_cons_succ, List.getElem_toArray, List.getElem_cons_zero, List.getElem_cons_succ]
  (first
    | (refine wpAnyH_take (i := 5) (v := ?_) rfl (by kernel_rfl) (by kernel_rfl) (by kernel_rfl) (fun _ _ _ h => h) (Or.inl ⟨by rfl, ?_⟩) (by assumption) ?_
       rotate_left
       focus (intro wq hSq; (try dsimp only at hSq); go_simp; (try (with_reducible rfl)); done))
    | (refine wpAnyH_take (i := 5) (v := undef) rfl (by kernel_rfl) (by kernel_rfl) (by kernel_rfl) (fun _ _ _ h => h) (Or.inr ⟨by rfl, rfl⟩) (by assumption) ?_)
    | fail "take 5")
  try simp only [Act.put, List.setIfInBounds_toArray, List.set_cons_zero, List.set_cons_succ, List.getElem_toArray, List.getElem_cons_zero, List.getElem_cons_succ]
  (first
    | (refine wpAnyH_take (i := 6) (v := ?_) rfl (by kernel_rfl) (by kernel_rfl) (by kernel_rfl) (fun _ _ _ h => h) (Or.inl ⟨by rfl, ?_⟩) (by assumption) ?_
       rotate_left
       focus (intro wq hSq; (try dsimp only at hSq); go_simp; (try (with_reducible rfl)); done))
    | (refine wpAnyH_take (i := 6) (v := undef) rfl (by kernel_rfl) (by kernel_rfl) (by kernel_rfl) (fun _ _ _ h => h) (Or.inr ⟨by rfl, rfl⟩) (by assumption) ?_)
    | fail "take 6")
  try simp only [Act.put, List.setIfInBounds_toArray, List.set_cons_zero, List.set_cons_succ, List.getElem_toArray, List.getElem_cons_zero, List.getElem_cons_succ]
  refine wpAnyH_ready (rs := [1]) (by kernel_rfl) (by simp) ?_
  refine AllReadyH.cons (o := _) rfl (fun K hK => ?_) AllReadyH.nil
  go_simp
  refine (toStation_c s _).mono ?_; rintro e w2 ⟨rfl, hb2⟩; have hb12 := (Below.refl w1.heap.size w1).drew.trans hb2
  refine hK.out _ _ ?_ (fun hHeld => ?_)
  · exact e1 hb12
  clear hK K
  try simp only [Act.put, List.setIfInBounds_toArray, List.set_cons_zero, List.set_cons_succ, List.getElem_toArray, List.getElem_cons_zero, List.getElem_cons_succ]
  refine wpAnyH_ready (rs := [3]) (by kernel_rfl) (by simp) ?_
  refine AllReadyH.cons (o := _) rfl (fun K hK => ?_) AllReadyH.nil
  go_simp
  refine (toCharacter_c x.k A n c x.l x.cs x.p x.gs _ ((h00.next H1).next hb12) (by omega)).mono ?_; rintro e w3 ⟨A3, c3', rfl, ho3, hb3⟩; have s3 := Sl.of_own ho3; have hb13 := hb12.trans (hb3.mono hb12.size)
  refine hK.out _ _ ?_ (fun hHeld => ?_)
  · exact e1 hb13
  clear hK K
  try simp only [Act.put, List.setIfInBounds_toArray, List.set_cons_zero, List.set_cons_succ, List.getElem_toArray, List.getElem_cons_zero, List.getElem_cons_succ]
  refine wpAnyH_ready (rs := [7]) (by kernel_rfl) (by simp) ?_
  refine AllReadyH.cons (o := _) rfl (fun K hK => ?_) AllReadyH.nil
  go_simp
  refine (HS.out A3 c3' _ s3 (by omega) (by omega) (by omega)).mono ?_; rintro e w4 ⟨vW, rfl, hoW, hb4⟩; obtain ⟨AW, cW, rfl⟩ := own_slice hoW; have hb14 := hb13.trans (hb4.mono hb13.size)
  refine hK.out _ _ ?_ (fun hHeld => ?_)
  · exact e1 hb14
  clear hK K
  try simp only [Act.put, List.setIfInBounds_toArray, List.set_cons_zero, List.set_cons_succ, List.getElem_toArray, List.getElem_cons_zero, List.getElem_cons_succ]
  (first
    | (refine wpAnyH_take (i := 8) (v := ?_) rfl (by kernel_rfl) (by kernel_rfl) (by kernel_rfl) (fun _ _ _ h => h) (Or.inl ⟨by rfl, ?_⟩) (by assumption) ?_
       rotate_left
       focus (intro wq hSq; (try dsimp only at hSq); go_simp; (try (with_reducible rfl)); done))
    | (refine wpAnyH_take (i := 8) (v := undef) rfl (by kernel_rfl) (by kernel_rfl) (by kernel_rfl) (fun _ _ _ h => h) (Or.inr ⟨by rfl, rfl⟩) (by assumption) ?_)
    | fail "take 8")
  try simp only [Act.put, List.setIfInBounds_toArray, List.set_cons_zero, List.set_cons_succ, List.getElem_toArray, List.getElem_cons_zero, List.getElem_cons_succ]
  (first
    | (refine wpAnyH_take (i := 9) (v := ?_) rfl (by kernel_rfl) (by kernel_rfl) (by kernel_rfl) (fun _ _ _ h => h) (Or.inl ⟨by rfl, ?_⟩) (by assumption) ?_
       rotate_left
       focus (intro wq hSq; (try dsimp only at hSq); go_simp; (try (with_reducible rfl)); done))
    | (refine wpAnyH_take (i := 9) (v := undef) rfl (by kernel_rfl) (by kernel_rfl) (by kernel_rfl) (fun _ _ _ h => h) (Or.inr ⟨by rfl, rfl⟩) (by assumption) ?_)
    | fail "take 9")
  try simp only [Act.put, List.setIfInBounds_toArray, List.set_cons_zero, List.set_cons_succ, List.getElem_toArray, List.getElem_cons_zero, List.getElem_cons_succ]
  (first
    | (refine wpAnyH_take (i := 10) (v := ?_) rfl (by kernel_rfl) (by kernel_rfl) (by kernel_rfl) (fun _ _ _ h => h) (Or.inl ⟨by rfl, ?_⟩) (by assumption) ?_
       rotate_left
       focus (intro wq hSq; (try dsimp only at hSq); go_simp; (try (with_reducible rfl)); done))
    | (refine wpAnyH_take (i := 10) (v := undef) rfl (by kernel_rfl) (by kernel_rfl) (by kernel_rfl) (fun _ _ _ h => h) (Or.inr ⟨by rfl, rfl⟩) (by assumption) ?_)
    | fail "take 10")
  try simp only [Act.put, List.setIfInBounds_toArray, List.set_cons_zero, List.set_cons_succ, List.getElem_toArray, List.getElem_cons_zero, List.getElem_cons_succ]
  (first
    | (refine wpAnyH_take (i := 11) (v := ?_) rfl (by kernel_rfl) (by kernel_rfl) (by kernel_rfl) (fun _ _ _ h => h) (Or.inl ⟨by rfl, ?_⟩) (by assumption) ?_
       rotate_left
       focus (intro wq hSq; (try dsimp only at hSq); go_simp; (try (with_reducible rfl)); done))
    | (refine wpAnyH_take (i := 11) (v := undef) rfl (by kernel_rfl) (by kernel_rfl) (by kernel_rfl) (fun _ _ _ h => h) (Or.inr ⟨by rfl, rfl⟩) (by assumption) ?_)
    | fail "take 11")
  try simp only [Act.put, List.setIfInBounds_toArray, List.set_cons_zero, List.set_cons_succ, List.getElem_toArray, List.getElem_cons_zero, List.getElem_cons_succ]
  (first
    | (refine wpAnyH_take (i := 12) (v := ?_) rfl (by kernel_rfl) (by kernel_rfl) (by kernel_rfl) (fun _ _ _ h => h) (Or.inl ⟨by rfl, ?_⟩) (by assumption) ?_
       rotate_left
       focus (intro wq hSq; (try dsimp only at hSq); go_simp; (try (with_reducible rfl)); done))
    | (refine wpAnyH_take (i := 12) (v := undef) rfl (by kernel_rfl) (by kernel_rfl) (by kernel_rfl) (fun _ _ _ h => h) (Or.inr ⟨by rfl, rfl⟩) (by assumption) ?_)
    | fail "take 12")
  try simp only [Act.put, List.setIfInBounds_toArray, List.set_cons_zero, List.set_cons_succ, List.getElem_toArray, List.getElem_cons_zero, List.getElem_cons_succ]
  refine wpAnyH_done (by kernel_rfl) ?_ _
  have hWlt : ∀ k, (Value.slice AW m cW).ownBlock = some k → k < w4.heap.size := fun k hk => (hoW.lt k hk).2
  have H4 := H1.trans (hb14.mono H1.size)
  have q4 := keepC hb14 w.heap.size (by omega)
  have r4 := keepC hb14 (w.heap.size + 1) (by omega)
  have z4 : w.heap.size + 1 < w4.heap.size := Nat.lt_of_lt_of_le z1 hb14.size
  clear hb2 hb3 hb4 hb12 hb13 ho3 s3 hHeld e1 HS H1
  as_aux_lemma =>
    go_wp2_with fail
    refine (toCharacter_c x.k A n c x.l x.cs x.p x.gs _ (h00.next H4) (by omega)).mono ?_
    rintro e w5 ⟨A5, c5, rfl, hoX, hb5⟩
    replace hoW := own_next hoW hb5
    have q5 := keepC hb5 w.heap.size (by omega)
    have r5 := keepC hb5 (w.heap.size + 1) (by omega)
    have z5 : w.heap.size + 1 < w5.heap.size := Nat.lt_of_lt_of_le z4 hb5.size
    have hz45 := hb5.size
    have H5 := H4.trans (hb5.mono H4.size)
    have hXb : w0.heap.size ≤ w4.heap.size := H4.size
    clear hb14 H4
    go_wp2_with fail
    have hbx : Below w5.heap.size w5 (w5.alloc (.cells #[.int .i64 x.k, .slice A5 n c5, .string x.l, .string x.cs, .int .i64 x.p] 31)) := by (repeat (first | (with_reducible assumption) | (with_reducible exact Below.refl _ _) | exact Nat.le_refl _ | exact Below.size (by with_reducible assumption) | (with_reducible refine Below.drew ?_) | (with_reducible refine below_drewN ?_ _) | (with_reducible refine Below.alloc ?_ ?_ _) | (with_reducible refine Below.setCell ?_ ?_ _) | (with_reducible refine le_alloc ?_ _) | (with_reducible refine le_set ?_ _ _) | (with_reducible refine le_drew ?_) | (with_reducible refine le_drewN ?_ _) | omega | (dsimp only; omega)))
    obtain ⟨d0, d1, d2, d3, d4, hbd, s6, _, _, _⟩ := chp_box (c := c5) 31 (Sl.of_own hoX) (by omega) (by omega) (by omega)
    simp only [Nat.zero_add] at d0 d1 d2 d3 d4
    replace hoW := own_next hoW hbx
    replace hoX := own_next hoX hbx
    have q6 := keepC hbx w.heap.size (by omega)
    have r6 := keepC hbx (w.heap.size + 1) (by omega)
    have H6 := H5.trans (hbx.mono H5.size)
    have hz56 := hbx.size
    generalize w5.alloc (.cells #[.int .i64 x.k, .slice A5 n c5, .string x.l, .string x.cs, .int .i64 x.p] 31) = w6 at *
    have z6 : w.heap.size + 1 < w6.heap.size := by omega
    have hXlt : ∀ k, (Value.slice A5 n c5).ownBlock = some k → k < w6.heap.size := fun k hk => (hoX.lt k hk).2
    have e6 : ∀ {w' : World}, Below w6.heap.size w6 w' → (Below w6.heap.size w6 w' ∧ (∀ x, w'.cell? ⟨w.heap.size, x, none⟩ = w6.cell? ⟨w.heap.size, x, none⟩) ∧ (∀ x, w'.cell? ⟨w.heap.size + 1, x, none⟩ = w6.cell? ⟨w.heap.size + 1, x, none⟩) ∧ (∀ x, w'.cell? ⟨w5.heap.size, x, none⟩ = w6.cell? ⟨w5.heap.size, x, none⟩)) := fun hb => ⟨hb, keepC hb _ (by omega), keepC hb _ (by omega), keepC hb _ hbd⟩
    refine wp_region_held_drew (S := fun w' => Below w6.heap.size w6 w' ∧ (∀ x, w'.cell? ⟨w.heap.size, x, none⟩ = w6.cell? ⟨w.heap.size, x, none⟩) ∧ (∀ x, w'.cell? ⟨w.heap.size + 1, x, none⟩ = w6.cell? ⟨w.heap.size + 1, x, none⟩) ∧ (∀ x, w'.cell? ⟨w5.heap.size, x, none⟩ = w6.cell? ⟨w5.heap.size, x, none⟩)) (by kernel_rfl) (e6 (Below.refl _ _).drew) (fun hHeld => ?_)
    (first
      | (refine wpAnyH_take (i := 0) (v := ?_) rfl (by kernel_rfl) (by kernel_rfl) (by kernel_rfl) (fun _ _ _ h => h) (Or.inl ⟨by rfl, ?_⟩) (by assumption) ?_
         rotate_left
         focus (intro wq hSq; (try dsimp only at hSq); go_simp; (try (with_reducible rfl)); done))
      | (refine wpAnyH_take (i := 0) (v := undef) rfl (by kernel_rfl) (by kernel_rfl) (by kernel_rfl) (fun _ _ _ h => h) (Or.inr ⟨by rfl, rfl⟩) (by assumption) ?_)
      | fail "take 0")
    try simp only [Act.put, List.setIfInBounds_toArray, List.set_cons_zero, List.set_cons_succ, List.getElem_toArray, List.getElem_cons_zero]
    (first
      | (refine wpAnyH_take (i := 2) (v := ?_) rfl (by kernel_rfl) (by kernel_rfl) (by kernel_rfl) (fun _ _ _ h => h) (Or.inl ⟨by rfl, ?_⟩) (by assumption) ?_
         rotate_left
         focus (intro wq hSq; (try dsimp only at hSq); go_simp; (try (with_reducible rfl)); done))
      | (refine wpAnyH_take (i := 2) (v := undef) rfl (by kernel_rfl) (by kernel_rfl) (by kernel_rfl) (fun _ _ _ h => h) (Or.inr ⟨by rfl, rfl⟩) (by assumption) ?_)
      | fail "take 2")
    try simp only [Act.put, List.setIfInBounds_toArray, List.set_cons_zero, List.set_cons_succ, List.getElem_toArray, List.getElem_cons_zero, List.getElem_cons_succ]
    (first
      | (refine wpAnyH_take (i := 3) (v := ?_) rfl (by kernel_rfl) (by kernel_rfl) (by kernel_rfl) (fun _ _ _ h => h) (Or.inl ⟨by rfl, ?_⟩) (by assumption) ?_
         rotate_left
         focus (intro wq hSq; (try dsimp only at hSq); go_simp; (try (with_reducible rfl)); done))
      | (refine wpAnyH_take (i := 3) (v := undef) rfl (by kernel_rfl) (by kernel_rfl) (by kernel_rfl) (fun _ _ _ h => h) (Or.inr ⟨by rfl, rfl⟩) (by assumption) ?_)
      | fail "take 3")
    try simp only [Act.put, List.setIfInBounds_toArray, List.set_cons_zero, List.set_cons_succ, List.getElem_toArray, List.getElem_cons_zero, List.getElem_cons_succ]
    (first
      | (refine wpAnyH_take (i := 4) (v := ?_) rfl (by kernel_rfl) (by kernel_rfl) (by kernel_rfl) (fun _ _ _ h => h) (Or.inl ⟨by rfl, ?_⟩) (by assumption) ?_
         rotate_left
         focus (intro wq hSq; (try dsimp only at hSq); go_simp; (try (with_reducible rfl)); done))
      | (refine wpAnyH_take (i := 4) (v := undef) rfl (by kernel_rfl) (by kernel_rfl) (by kernel_rfl) (fun _ _ _ h => h) (Or.inr ⟨by rfl, rfl⟩) (by assumption) ?_)
      | fail "take 4")
    try simp only [Act.put, List.setIfInBounds_toArray, List.set_cons_zero, List.set_cons_succ, List.getElem_toArray, List.getElem_cons_zero, List.getElem_cons_succ]
    (first
      | (refine wpAnyH_take (i := 5) (v := ?_) rfl (by kernel_rfl) (by kernel_rfl) (by kernel_rfl) (fun _ _ _ h => h) (Or.inl ⟨by rfl, ?_⟩) (by assumption) ?_
         rotate_left
         focus (intro wq hSq; (try dsimp only at hSq); go_simp; (try (with_reducible rfl)); done))
      | (refine wpAnyH_take (i := 5) (v := undef) rfl (by kernel_rfl) (by kernel_rfl) (by kernel_rfl) (fun _ _ _ h => h) (Or.inr ⟨by rfl, rfl⟩) (by assumption) ?_)
      | fail "take 5")
    try simp only [Act.put, List.setIfInBounds_toArray, List.set_cons_zero, List.set_cons_succ, List.getElem_toArray, List.getElem_cons_zero, List.getElem_cons_succ]
    refine wpAnyH_ready (rs := [1]) (by kernel_rfl) (by simp) ?_
    refine AllReadyH.cons (o := _) rfl (fun K hK => ?_) AllReadyH.nil
    go_simp
    refine (toStation_c s _).mono ?_; rintro e w7 ⟨rfl, hb7⟩; have hb67 := (Below.refl w6.heap.size w6).drew.trans hb7
    refine hK.out _ _ ?_ (fun hHeld => ?_)
    · exact e6 hb67
    clear hK K
    try simp only [Act.put, List.setIfInBounds_toArray, List.set_cons_zero, List.set_cons_succ, List.getElem_toArray, List.getElem_cons_zero, List.getElem_cons_succ]
    refine wpAnyH_ready (rs := [6]) (by kernel_rfl) (by simp) ?_
    refine AllReadyH.cons (o := _) rfl (fun K hK => ?_) AllReadyH.nil
    go_simp
    refine (HI.out A5 c5 _ (s6.next hb67) (by omega) (by omega) (by omega)).mono ?_; rintro e w8 ⟨vG, rfl, hoG, hb8⟩; obtain ⟨AG, cG, rfl⟩ := own_slice hoG; have hb68 := hb67.trans (hb8.mono hb67.size)
    refine hK.out _ _ ?_ (fun hHeld => ?_)
    · exact e6 hb68
    clear hK K
    try simp only [Act.put, List.setIfInBounds_toArray, List.set_cons_zero, List.set_cons_succ, List.getElem_toArray, List.getElem_cons_zero, List.getElem_cons_succ]
    (first
      | (refine wpAnyH_take (i := 7) (v := ?_) rfl (by kernel_rfl) (by kernel_rfl) (by kernel_rfl) (fun _ _ _ h => h) (Or.inl ⟨by rfl, ?_⟩) (by assumption) ?_
         rotate_left
         focus (intro wq hSq; (try dsimp only at hSq); go_simp; (try (with_reducible rfl)); done))
      | (refine wpAnyH_take (i := 7) (v := undef) rfl (by kernel_rfl) (by kernel_rfl) (by kernel_rfl) (fun _ _ _ h => h) (Or.inr ⟨by rfl, rfl⟩) (by assumption) ?_)
      | fail "take 7")
    try simp only [Act.put, List.setIfInBounds_toArray, List.set_cons_zero, List.set_cons_succ, List.getElem_toArray, List.getElem_cons_zero, List.getElem_cons_succ]
    (first
      | (refine wpAnyH_take (i := 8) (v := ?_) rfl (by kernel_rfl) (by kernel_rfl) (by kernel_rfl) (fun _ _ _ h => h) (Or.inl ⟨by rfl, ?_⟩) (by assumption) ?_
         rotate_left
         focus (intro wq hSq; (try dsimp only at hSq); go_simp; (try (with_reducible rfl)); done))
      | (refine wpAnyH_take (i := 8) (v := undef) rfl (by kernel_rfl) (by kernel_rfl) (by kernel_rfl) (fun _ _ _ h => h) (Or.inr ⟨by rfl, rfl⟩) (by assumption) ?_)
      | fail "take 8")
    try simp only [Act.put, List.setIfInBounds_toArray, List.set_cons_zero, List.set_cons_succ, List.getElem_toArray, List.getElem_cons_zero, List.getElem_cons_succ]
    (first
      | (refine wpAnyH_take (i := 9) (v := ?_) rfl (by kernel_rfl) (by kernel_rfl) (by kernel_rfl) (fun _ _ _ h => h) (Or.inl ⟨by rfl, ?_⟩) (by assumption) ?_
         rotate_left
         focus (intro wq hSq; (try dsimp only at hSq); go_simp; (try (with_reducible rfl)); done))
      | (refine wpAnyH_take (i := 9) (v := undef) rfl (by kernel_rfl) (by kernel_rfl) (by kernel_rfl) (fun _ _ _ h => h) (Or.inr ⟨by rfl, rfl⟩) (by assumption) ?_)
      | fail "take 9")
    try simp only [Act.put, List.setIfInBounds_toArray, List.set_cons_zero, List.set_cons_succ, List.getElem_toArray, List.getElem_cons_zero, List.getElem_cons_succ]
    (first
      | (refine wpAnyH_take (i := 10) (v := ?_) rfl (by kernel_rfl) (by kernel_rfl) (by kernel_rfl) (fun _ _ _ h => h) (Or.inl ⟨by rfl, ?_⟩) (by assumption) ?_
         rotate_left
         focus (intro wq hSq; (try dsimp only at hSq); go_simp; (try (with_reducible rfl)); done))
      | (refine wpAnyH_take (i := 10) (v := undef) rfl (by kernel_rfl) (by kernel_rfl) (by kernel_rfl) (fun _ _ _ h => h) (Or.inr ⟨by rfl, rfl⟩) (by assumption) ?_)
      | fail "take 10")
    try simp only [Act.put, List.setIfInBounds_toArray, List.set_cons_zero, List.set_cons_succ, List.getElem_toArray, List.getElem_cons_zero, List.getElem_cons_succ]
    (first
      | (refine wpAnyH_take (i := 11) (v := ?_) rfl (by kernel_rfl) (by kernel_rfl) (by kernel_rfl) (fun _ _ _ h => h) (Or.inl ⟨by rfl, ?_⟩) (by assumption) ?_
         rotate_left
         focus (intro wq hSq; (try dsimp only at hSq); go_simp; (try (with_reducible rfl)); done))
      | (refine wpAnyH_take (i := 11) (v := undef) rfl (by kernel_rfl) (by kernel_rfl) (by kernel_rfl) (fun _ _ _ h => h) (Or.inr ⟨by rfl, rfl⟩) (by assumption) ?_)
      | fail "take 11")
    try simp only [Act.put, List.setIfInBounds_toArray, List.set_cons_zero, List.set_cons_succ, List.getElem_toArray, List.getElem_cons_zero, List.getElem_cons_succ]
    refine wpAnyH_done (by kernel_rfl) ?_ _
    have hz67 := hb67.size
    replace hoW := own_next hoW hb68
    replace hoX := own_next hoX hb68
    have H8 := H6.trans (hb68.mono H6.size)
    have q8 := keepC hb68 w.heap.size (by omega)
    have r8 := keepC hb68 (w.heap.size + 1) (by omega)
    have v8 := keepC hb68 w5.heap.size hbd
    have z8 : w.heap.size + 1 < w8.heap.size := Nat.lt_of_lt_of_le z6 hb68.size
    have y8 : w5.heap.size < w8.heap.size := Nat.lt_of_lt_of_le hbd hb68.size
    clear hb7 hb8 hb67 hHeld e6 s6
    as_aux_lemma =>
      go_wp2_with fail
      refine (eqInt64S_c AG AW m cG cW ds _ (Sl.of_own hoG) (Sl.of_own hoW) Hmm.out).mono ?_
      rintro e w9 ⟨rfl, hb9⟩
      replace hoW := own_next hoW hb9
      replace hoX := own_next hoX hb9
      replace hoG := own_next hoG hb9
      have H9 := H8.trans (hb9.mono H8.size)
      have q9 := keepC hb9 w.heap.size (by omega)
      have r9 := keepC hb9 (w.heap.size + 1) (by omega)
      have v9 := keepC hb9 w5.heap.size y8
      have z9 : w.heap.size + 1 < w9.heap.size := Nat.lt_of_lt_of_le z8 hb9.size
      have y9 : w5.heap.size < w9.heap.size := Nat.lt_of_lt_of_le y8 hb9.size
      go_wp2_with fail
      have e9 : ∀ {w' : World}, Below w9.heap.size w9 w' → (Below w9.heap.size w9 w' ∧ (∀ x, w'.cell? ⟨w.heap.size, x, none⟩ = w9.cell? ⟨w.heap.size, x, none⟩) ∧ (∀ x, w'.cell? ⟨w.heap.size + 1, x, none⟩ = w9.cell? ⟨w.heap.size + 1, x, none⟩) ∧ (∀ x, w'.cell? ⟨w5.heap.size, x, none⟩ = w9.cell? ⟨w5.heap.size, x, none⟩)) := fun hb => ⟨hb, keepC hb _ (by omega), keepC hb _ (by omega), keepC hb _ y9⟩
      refine wp_region_held_drew (S := fun w' => Below w9.heap.size w9 w' ∧ (∀ x, w'.cell? ⟨w.heap.size, x, none⟩ = w9.cell? ⟨w.heap.size, x, none⟩) ∧ (∀ x, w'.cell? ⟨w.heap.size + 1, x, none⟩ = w9.cell? ⟨w.heap.size + 1, x, none⟩) ∧ (∀ x, w'.cell? ⟨w5.heap.size, x, none⟩ = w9.cell? ⟨w5.heap.size, x, none⟩)) (by kernel_rfl) (e9 (Below.refl _ _).drew) (fun hHeld => ?_)
      (first
        | (refine wpAnyH_take (i := 0) (v := ?_) rfl (by kernel_rfl) (by kernel_rfl) (by kernel_rfl) (fun _ _ _ h => h) (Or.inl ⟨by rfl, ?_⟩) (by assumption) ?_
           rotate_left
           focus (intro wq hSq; (try dsimp only at hSq); go_simp; (try (with_reducible rfl)); done))
        | (refine wpAnyH_take (i := 0) (v := undef) rfl (by kernel_rfl) (by kernel_rfl) (by kernel_rfl) (fun _ _ _ h => h) (Or.inr ⟨by rfl, rfl⟩) (by assumption) ?_)
        | fail "take 0")
      try simp only [Act.put, List.setIfInBounds_toArray, List.set_cons_zero, List.set_cons_succ, List.getElem_toArray, List.getElem_cons_zero]
      (first
        | (refine wpAnyH_take (i := 1) (v := ?_) rfl (by kernel_rfl) (by kernel_rfl) (by kernel_rfl) (fun _ _ _ h => h) (Or.inl ⟨by rfl, ?_⟩) (by assumption) ?_
           rotate_left
           focus (intro wq hSq; (try dsimp only at hSq); go_simp; (try (with_reducible rfl)); done))
        | (refine wpAnyH_take (i := 1) (v := undef) rfl (by kernel_rfl) (by kernel_rfl) (by kernel_rfl) (fun _ _ _ h => h) (Or.inr ⟨by rfl, rfl⟩) (by assumption) ?_)
        | fail "take 1")
      try simp only [Act.put, List.setIfInBounds_toArray, List.set_cons_zero, List.set_cons_succ, List.getElem_toArray, List.getElem_cons_zero, List.getElem_cons_succ]
      refine wpAnyH_ready (rs := [2]) (by kernel_rfl) (by simp) ?_
      refine AllReadyH.cons (o := _) rfl (fun K hK => ?_) AllReadyH.nil
      go_simp
      refine (toCharacter_c x.k A n c x.l x.cs x.p x.gs _ ((h00.next H9).next (Below.refl _ _).drew) (by omega)).mono ?_; rintro e w10 ⟨A10, c10, rfl, ho10, hb10⟩; have hb910 := (Below.refl w9.heap.size w9).drew.trans hb10
      refine hK.out _ _ ?_ (fun hHeld => ?_)
      · exact e9 hb910
      clear hK K
      try simp only [Act.put, List.setIfInBounds_toArray, List.set_cons_zero, List.set_cons_succ, List.getElem_toArray, List.getElem_cons_zero, List.getElem_cons_succ]
      refine wpAnyH_ready (rs := [3]) (by kernel_rfl) (by simp) ?_
      refine AllReadyH.cons (o := _) rfl (fun K hK => ?_) AllReadyH.nil
      go_simp
      refine (eqCharacter_c x.k A5 A10 n c5 c10 x.l x.cs x.p x.gs _ (Sl.of_own (own_next hoX hb910)) (Sl.of_own ho10) (by omega)).mono ?_; rintro e w11 ⟨rfl, hb11⟩; have hb911 := hb910.trans (hb11.mono hb910.size)
      refine hK.out _ _ ?_ (fun hHeld => ?_)
      · exact e9 hb911
      clear hK K
      try simp only [Act.put, List.setIfInBounds_toArray, List.set_cons_zero, List.set_cons_succ, List.getElem_toArray, List.getElem_cons_zero, List.getElem_cons_succ]
      (first
        | (refine wpAnyH_take (i := 4) (v := ?_) rfl (by kernel_rfl) (by kernel_rfl) (by kernel_rfl) (fun _ _ _ h => h) (Or.inl ⟨by rfl, ?_⟩) (by assumption) ?_
           rotate_left
           focus (intro wq hSq; (try dsimp only at hSq); go_simp; (try (with_reducible rfl)); done))
        | (refine wpAnyH_take (i := 4) (v := undef) rfl (by kernel_rfl) (by kernel_rfl) (by kernel_rfl) (fun _ _ _ h => h) (Or.inr ⟨by rfl, rfl⟩) (by assumption) ?_)
        | fail "take 4")
      try simp only [Act.put, List.setIfInBounds_toArray, List.set_cons_zero, List.set_cons_succ, List.getElem_toArray, List.getElem_cons_zero, List.getElem_cons_succ]
      refine wpAnyH_done (by kernel_rfl) ?_ _
      replace hoW := own_next hoW hb911
      replace hoX := own_next hoX hb911
      replace hoG := own_next hoG hb911
      have H11 := H9.trans (hb911.mono H9.size)
      have q11 := keepC hb911 w.heap.size (by omega)
      have r11 := keepC hb911 (w.heap.size + 1) (by omega)
      have v11 := keepC hb911 w5.heap.size y9
      clear e9 hHeld ho10 hb10 hb910 hb11 hb9 hb68
      as_aux_lemma =>
        go_wp2_with fail
        refine (markCharacter_c x.k A5 n c5 x.l x.cs x.p 1 _ _ _ hoX (by omega) (by omega)).mono ?_
        rintro e w12 ⟨rfl, hg12⟩
        replace hoG := own_grown hoG hg12 (own_newer (own_older hoX (fun k hk => Nat.lt_of_lt_of_le (hXlt k hk) hz67) hoG))
        replace hoW := own_grown hoW hg12 (own_older hoW hWlt hoX)
        have H12 : Below w0.heap.size w0 w12 := H11.grown hg12 H11.size fun k hk => Nat.le_trans hXb (hoX.lt k hk).1
        have q12 := keepC H12 w.heap.size (by omega)
        have r12 := keepC H12 (w.heap.size + 1) (by omega)
        clear hoX hg12 q11 r11 v11 q9 r9 v9 q8 r8 v8 q6 r6 q5 r5 q4 r4 q1 r1 d0 d1 d2 d3 d4
        have hneg : ¬ (((1 + n : Nat) : Int) < 0) := by omega
        go_wp2_with fail
        refine (eqInt64S_c AG AW m cG cW ds _ (Sl.of_own hoG) (Sl.of_own hoW) Hmm.out).mono ?_
        rintro e w13 ⟨rfl, hb13⟩
        replace hoW := own_next hoW hb13
        replace hoG := own_next hoG hb13
        have H13 := H12.trans (hb13.mono H12.size)
        go_wp2_with fail
        refine (markInt64S_c AG m cG 1 _ _ _ hoG (by omega) (by omega)).mono ?_
        rintro e w14 ⟨rfl, hoG2, hg14⟩
        replace hoW := own_grown hoW hg14 (own_older hoW (fun k hk => Nat.lt_of_lt_of_le (hWlt k hk) (Nat.le_trans hz45 (Nat.le_trans hz56 hz67))) hoG)
        have H14 : Below w0.heap.size w0 w14 := H13.grown hg14 H13.size fun k hk => Nat.le_trans (Nat.le_trans H5.size (Nat.le_trans hz56 hz67)) (hoG.lt k hk).1
        clear hoG hg14 q12 r12 hb13
        as_aux_lemma =>
          go_wp2_with fail
          refine (heldInt64S_c AG m cG 1 _ (Sl.of_own hoG2) (by omega) (by omega)).mono ?_
          rintro e w15 ⟨rfl, rfl⟩
          have q14 := keepC H14 w.heap.size (by omega)
          have r14 := keepC H14 (w.heap.size + 1) (by omega)
          have z14 : w.heap.size + 1 < w14.heap.size := Nat.lt_of_lt_of_le hz0 H14.size
          have hneg2 : ¬ (((1 + m : Nat) : Int) < 0) := by omega
          go_wp2_with fail
          have e14 : ∀ {w' : World}, Below w14.heap.size w14 w' → (Below w14.heap.size w14 w' ∧ (∀ x, w'.cell? ⟨w.heap.size, x, none⟩ = w14.cell? ⟨w.heap.size, x, none⟩) ∧ (∀ x, w'.cell? ⟨w.heap.size + 1, x, none⟩ = w14.cell? ⟨w.heap.size + 1, x, none⟩)) := fun hb => ⟨hb, keepC hb _ (by omega), keepC hb _ (by omega)⟩
          refine wp_region_held_drew (S := fun w' => Below w14.heap.size w14 w' ∧ (∀ x, w'.cell? ⟨w.heap.size, x, none⟩ = w14.cell? ⟨w.heap.size, x, none⟩) ∧ (∀ x, w'.cell? ⟨w.heap.size + 1, x, none⟩ = w14.cell? ⟨w.heap.size + 1, x, none⟩)) (by kernel_rfl) (e14 (Below.refl _ _).drew) (fun hHeld => ?_)
          (first
            | (refine wpAnyH_take (i := 0) (v := ?_) rfl (by kernel_rfl) (by kernel_rfl) (by kernel_rfl) (fun _ _ _ h => h) (Or.inl ⟨by rfl, ?_⟩) (by assumption) ?_
               rotate_left
               focus (intro wq hSq; (try dsimp only at hSq); go_simp; (try (with_reducible rfl)); done))
            | (refine wpAnyH_take (i := 0) (v := undef) rfl (by kernel_rfl) (by kernel_rfl) (by kernel_rfl) (fun _ _ _ h => h) (Or.inr ⟨by rfl, rfl⟩) (by assumption) ?_)
            | fail "take 0")
          try simp only [Act.put, List.setIfInBounds_toArray, List.set_cons_zero, List.set_cons_succ, List.getElem_toArray, List.getElem_cons_zero]
          (first
            | (refine wpAnyH_take (i := 2) (v := ?_) rfl (by kernel_rfl) (by kernel_rfl) (by kernel_rfl) (fun _ _ _ h => h) (Or.inl ⟨by rfl, ?_⟩) (by assumption) ?_
               rotate_left
               focus (intro wq hSq; (try dsimp only at hSq); go_simp; (try (with_reducible rfl)); done))
            | (refine wpAnyH_take (i := 2) (v := undef) rfl (by kernel_rfl) (by kernel_rfl) (by kernel_rfl) (fun _ _ _ h => h) (Or.inr ⟨by rfl, rfl⟩) (by assumption) ?_)
            | fail "take 2")
          try simp only [Act.put, List.setIfInBounds_toArray, List.set_cons_zero, List.set_cons_succ, List.getElem_toArray, List.getElem_cons_zero, List.getElem_cons_succ]
          (first
            | (refine wpAnyH_take (i := 4) (v := ?_) rfl (by kernel_rfl) (by kernel_rfl) (by kernel_rfl) (fun _ _ _ h => h) (Or.inl ⟨by rfl, ?_⟩) (by assumption) ?_
               rotate_left
               focus (intro wq hSq; (try dsimp only at hSq); go_simp; (try (with_reducible rfl)); done))
            | (refine wpAnyH_take (i := 4) (v := undef) rfl (by kernel_rfl) (by kernel_rfl) (by kernel_rfl) (fun _ _ _ h => h) (Or.inr ⟨by rfl, rfl⟩) (by assumption) ?_)
            | fail "take 4")
          try simp only [Act.put, List.setIfInBounds_toArray, List.set_cons_zero, List.set_cons_succ, List.getElem_toArray, List.getElem_cons_zero, List.getElem_cons_succ]
          (first
            | (refine wpAnyH_take (i := 5) (v := ?_) rfl (by kernel_rfl) (by kernel_rfl) (by kernel_rfl) (fun _ _ _ h => h) (Or.inl ⟨by rfl, ?_⟩) (by assumption) ?_
               rotate_left
               focus (intro wq hSq; (try dsimp only at hSq); go_simp; (try (with_reducible rfl)); done))
            | (refine wpAnyH_take (i := 5) (v := undef) rfl (by kernel_rfl) (by kernel_rfl) (by kernel_rfl) (fun _ _ _ h => h) (Or.inr ⟨by rfl, rfl⟩) (by assumption) ?_)
            | fail "take 5")
          try simp only [Act.put, List.setIfInBounds_toArray, List.set_cons_zero, List.set_cons_succ, List.getElem_toArray, List.getElem_cons_zero, List.getElem_cons_succ]
          (first
            | (refine wpAnyH_take (i := 6) (v := ?_) rfl (by kernel_rfl) (by kernel_rfl) (by kernel_rfl) (fun _ _ _ h => h) (Or.inl ⟨by rfl, ?_⟩) (by assumption) ?_
               rotate_left
               focus (intro wq hSq; (try dsimp only at hSq); go_simp; (try (with_reducible rfl)); done))
            | (refine wpAnyH_take (i := 6) (v := undef) rfl (by kernel_rfl) (by kernel_rfl) (by kernel_rfl) (fun _ _ _ h => h) (Or.inr ⟨by rfl, rfl⟩) (by assumption) ?_)
            | fail "take 6")
          try simp only [Act.put, List.setIfInBounds_toArray, List.set_cons_zero, List.set_cons_succ, List.getElem_toArray, List.getElem_cons_zero, List.getElem_cons_succ]
          refine wpAnyH_ready (rs := [1]) (by kernel_rfl) (by simp) ?_
          refine AllReadyH.cons (o := _) rfl (fun K hK => ?_) AllReadyH.nil
          go_simp
          refine (toStation_c s _).mono ?_; rintro e w16 ⟨rfl, hb16⟩; have hbP := (Below.refl w14.heap.size w14).drew.trans hb16
          refine hK.out _ _ ?_ (fun hHeld => ?_)
          · exact e14 hbP
          clear hK K
          try simp only [Act.put, List.setIfInBounds_toArray, List.set_cons_zero, List.set_cons_succ, List.getElem_toArray, List.getElem_cons_zero, List.getElem_cons_succ]
          refine wpAnyH_ready (rs := [3]) (by kernel_rfl) (by simp) ?_
          refine AllReadyH.cons (o := _) rfl (fun K hK => ?_) AllReadyH.nil
          go_simp
          refine (toCharacter_c x.k A n c x.l x.cs x.p x.gs _ ((h00.next H14).next hbP) (by omega)).mono ?_; rintro e w17 ⟨A17, c17, rfl, ho17, hb17⟩; have hbQ := hbP.trans (hb17.mono hbP.size)
          refine hK.out _ _ ?_ (fun hHeld => ?_)
          · exact e14 hbQ
          clear hK K
          try simp only [Act.put, List.setIfInBounds_toArray, List.set_cons_zero, List.set_cons_succ, List.getElem_toArray, List.getElem_cons_zero, List.getElem_cons_succ]
          refine wpAnyH_ready (rs := [7]) (by kernel_rfl) (by simp) ?_
          refine AllReadyH.cons (o := _) rfl (fun K hK => ?_) AllReadyH.nil
          go_simp
          refine (HI.out A17 c17 _ (Sl.of_own ho17) (by omega) (by omega) (by omega)).mono ?_; rintro e w18 ⟨vH, rfl, hoH, hb18⟩; obtain ⟨AH, cH, rfl⟩ := own_slice hoH; have hbR := hbQ.trans (hb18.mono hbQ.size)
          refine hK.out _ _ ?_ (fun hHeld => ?_)
          · exact e14 hbR
          clear hK K
          try simp only [Act.put, List.setIfInBounds_toArray, List.set_cons_zero, List.set_cons_succ, List.getElem_toArray, List.getElem_cons_zero, List.getElem_cons_succ]
          (first
            | (refine wpAnyH_take (i := 8) (v := ?_) rfl (by kernel_rfl) (by kernel_rfl) (by kernel_rfl) (fun _ _ _ h => h) (Or.inl ⟨by rfl, ?_⟩) (by assumption) ?_
               rotate_left
               focus (intro wq hSq; (try dsimp only at hSq); go_simp; (try (with_reducible rfl)); done))
            | (refine wpAnyH_take (i := 8) (v := undef) rfl (by kernel_rfl) (by kernel_rfl) (by kernel_rfl) (fun _ _ _ h => h) (Or.inr ⟨by rfl, rfl⟩) (by assumption) ?_)
            | fail "take 8")
          try simp only [Act.put, List.setIfInBounds_toArray, List.set_cons_zero, List.set_cons_succ, List.getElem_toArray, List.getElem_cons_zero, List.getElem_cons_succ]
          (first
            | (refine wpAnyH_take (i := 9) (v := ?_) rfl (by kernel_rfl) (by kernel_rfl) (by kernel_rfl) (fun _ _ _ h => h) (Or.inl ⟨by rfl, ?_⟩) (by assumption) ?_
               rotate_left
               focus (intro wq hSq; (try dsimp only at hSq); go_simp; (try (with_reducible rfl)); done))
            | (refine wpAnyH_take (i := 9) (v := undef) rfl (by kernel_rfl) (by kernel_rfl) (by kernel_rfl) (fun _ _ _ h => h) (Or.inr ⟨by rfl, rfl⟩) (by assumption) ?_)
            | fail "take 9")
          try simp only [Act.put, List.setIfInBounds_toArray, List.set_cons_zero, List.set_cons_succ, List.getElem_toArray, List.getElem_cons_zero, List.getElem_cons_succ]
          (first
            | (refine wpAnyH_take (i := 10) (v := ?_) rfl (by kernel_rfl) (by kernel_rfl) (by kernel_rfl) (fun _ _ _ h => h) (Or.inl ⟨by rfl, ?_⟩) (by assumption) ?_
               rotate_left
               focus (intro wq hSq; (try dsimp only at hSq); go_simp; (try (with_reducible rfl)); done))
            | (refine wpAnyH_take (i := 10) (v := undef) rfl (by kernel_rfl) (by kernel_rfl) (by kernel_rfl) (fun _ _ _ h => h) (Or.inr ⟨by rfl, rfl⟩) (by assumption) ?_)
            | fail "take 10")
          try simp only [Act.put, List.setIfInBounds_toArray, List.set_cons_zero, List.set_cons_succ, List.getElem_toArray, List.getElem_cons_zero, List.getElem_cons_succ]
          (first
            | (refine wpAnyH_take (i := 11) (v := ?_) rfl (by kernel_rfl) (by kernel_rfl) (by kernel_rfl) (fun _ _ _ h => h) (Or.inl ⟨by rfl, ?_⟩) (by assumption) ?_
               rotate_left
               focus (intro wq hSq; (try dsimp only at hSq); go_simp; (try (with_reducible rfl)); done))
            | (refine wpAnyH_take (i := 11) (v := undef) rfl (by kernel_rfl) (by kernel_rfl) (by kernel_rfl) (fun _ _ _ h => h) (Or.inr ⟨by rfl, rfl⟩) (by assumption) ?_)
            | fail "take 11")
          try simp only [Act.put, List.setIfInBounds_toArray, List.set_cons_zero, List.set_cons_succ, List.getElem_toArray, List.getElem_cons_zero, List.getElem_cons_succ]
          (first
            | (refine wpAnyH_take (i := 12) (v := ?_) rfl (by kernel_rfl) (by kernel_rfl) (by kernel_rfl) (fun _ _ _ h => h) (Or.inl ⟨by rfl, ?_⟩) (by assumption) ?_
               rotate_left
               focus (intro wq hSq; (try dsimp only at hSq); go_simp; (try (with_reducible rfl)); done))
            | (refine wpAnyH_take (i := 12) (v := undef) rfl (by kernel_rfl) (by kernel_rfl) (by kernel_rfl) (fun _ _ _ h => h) (Or.inr ⟨by rfl, rfl⟩) (by assumption) ?_)
            | fail "take 12")
          try simp only [Act.put, List.setIfInBounds_toArray, List.set_cons_zero, List.set_cons_succ, List.getElem_toArray, List.getElem_cons_zero, List.getElem_cons_succ]
          refine wpAnyH_done (by kernel_rfl) ?_ _
          replace hoW := own_next hoW hbR
          replace hoG2 := own_next hoG2 hbR
          have H18 := H14.trans (hbR.mono H14.size)
          clear hHeld e14 hb16 hb17 hb18 hbP hbQ hbR ho17
          go_wp2_with fail
          refine (eqInt64S_c AH AW m cH cW ds _ (Sl.of_own hoH) (Sl.of_own hoW) Hmm.out).mono ?_
          rintro e w19 ⟨rfl, hb19⟩
          replace hoG2 := own_next hoG2 hb19
          have H19 := H18.trans (hb19.mono H18.size)
          go_wp2_with fail
          refine (heldInt64S_c AG m cG 1 _ (Sl.of_own hoG2) (by omega) (by omega)).mono ?_
          rintro e w20 ⟨rfl, rfl⟩
          go_wp2_with fail
          go_ret
          exact ⟨rfl, hb0.trans (H19.mono hb0.size)⟩
end Go.Proofs.YtpgcgmbjlecnpaaGreat
