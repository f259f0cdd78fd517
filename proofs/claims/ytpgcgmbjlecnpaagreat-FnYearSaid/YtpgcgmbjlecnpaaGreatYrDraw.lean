/- What FnYear draws: a station, a character, numbers. -/
import Derived.Test.YtpgcgmbjlecnpaaGreatLtDraw
import Derived.Test.YtpgcgmbjlecnpaaGreatR8S
import Derived.Test.YtpgcgmbjlecnpaaGreatSta
namespace Go.Proofs.YtpgcgmbjlecnpaaGreat
open Go.RowKit
theorem row_grown {w w' : World} {k : Nat} {row : Option Nat} {o : Obj} (h : w.heap[k]? = some o) (hg : w.grownBy w' row) (hne : some k ≠ row) : w'.heap[k]? = some o :=
  (hg.block k (by
    by_cases hk : k < w.heap.size
    · exact hk
    · rw [Array.getElem?_eq_none (by omega)] at h; cases h) hne).trans h
theorem row_below {w w' : World} {k : Nat} {o : Obj} (h : w.heap[k]? = some o) (hb : Below w.heap.size w w') : w'.heap[k]? = some o :=
  (hb.block k (by
    by_cases hk : k < w.heap.size
    · exact hk
    · rw [Array.getElem?_eq_none (by omega)] at h; cases h)).trans h
set_option maxRecDepth 100000 in
set_option maxHeartbeats 1000000 in
theorem r8Wide_c (A : Option Addr) (n c B : Nat) (bs : List Int) (k : Nat) (m : Int) (w : World) (hx : Sl w B 1 A n (bs.flatMap u8C)) (hb : ∀ x ∈ bs, 0 ≤ x ∧ x ≤ 255) (hn : n ≤ 1048576) (hm : 0 < m) (hm2 : m ≤ 1000000) (hk : k ≤ 1000) :
    Calls Tryz.prog 28 #[.slice A n c, .int .i64 k, .int .i64 m] w fun e w' => ∃ r : Int, e = .returned (.int .i64 r) ∧ 0 ≤ r ∧ r < m ∧ w = w' := by
  have hA : ∀ (j : Nat) w1, w = w1 → Calls Tryz.prog 27 #[.slice A n c, .int .i64 j, .int .i64 256] w1 (AtAns 256 w1) := fun j w1 e => e ▸ r8At_c A n c B bs j 256 w hx hb hn (by omega)
  have h1 := hA k w rfl
  have h2 := hA (k + 1) w rfl
  have e1 : ((k + 1 : Nat) : Int) = (k : Int) + 1 := by omega
  rw [e1] at h2
  have H1 := Lib.hid h1; clear h1
  have H2 := Lib.hid h2; clear h2
  clear hA e1 hx hb
  go_enter Tryz.func28, Tryz.ntmps28
  go_wp2_with fail
  refine H1.out.mono ?_
  rintro e w1 ⟨a, rfl, a0, _, a1, rfl⟩
  go_wp2_with fail
  refine H2.out.mono ?_
  rintro e w1 ⟨b, rfl, b0, _, b1, rfl⟩
  have hq : 0 ≤ (256 * a + b) % m ∧ (256 * a + b) % m < m := ⟨Int.emod_nonneg _ (by omega), Int.emod_lt_of_pos _ hm⟩
  have e2 : (256 * a + b).tmod m = (256 * a + b) % m := Int.tmod_eq_emod_of_nonneg (by omega)
  have hm0 : ¬ m = 0 := by omega
  generalize (256 * a + b) % m = q at *
  go_wp2_with fail
  go_ret
  exact ⟨_, rfl, hq.1, hq.2, rfl⟩
set_option maxRecDepth 100000 in
set_option maxHeartbeats 1000000 in
theorem r8Char_c (A : Option Addr) (n c : Nat) (bs : List Int) (w : World) (hx : Sl w w.heap.size 1 A n (bs.flatMap u8C)) (hb : ∀ x ∈ bs, 0 ≤ x ∧ x ≤ 255) (hn : n ≤ maxLen) :
    Calls Tryz.prog 26 #[.slice A n c] w fun e w' => ∃ z : ChG, e = .returned (chV z.x.k z.A z.n z.c z.x.l z.x.cs z.x.p) ∧ validB z.x = true ∧ w'.ownsRow w.heap.size 2 1 (.slice z.A z.n z.c) z.n (z.x.gs.flatMap intC) ∧ Below w.heap.size w w' := by
  have hbA : Below w.heap.size w (w.alloc (.cells #[.int .i64 0, .slice none 0 0, .string ⟨#[]⟩, .string ⟨#[]⟩, .int .i64 0] 31)) := by (repeat (first | (with_reducible assumption) | (with_reducible exact Below.refl _ _) | exact Nat.le_refl _ | exact Below.size (by with_reducible assumption) | (with_reducible refine Below.drew ?_) | (with_reducible refine below_drewN ?_ _) | (with_reducible refine Below.alloc ?_ ?_ _) | (with_reducible refine Below.setCell ?_ ?_ _) | (with_reducible refine le_alloc ?_ _) | (with_reducible refine le_set ?_ _ _) | (with_reducible refine le_drew ?_) | (with_reducible refine le_drewN ?_ _) | omega | (dsimp only; omega)))
  have hr0 : (w.alloc (.cells #[.int .i64 0, .slice none 0 0, .string ⟨#[]⟩, .string ⟨#[]⟩, .int .i64 0] 31)).heap[w.heap.size]? = some (.cells #[.int .i64 0, .slice none 0 0, .string ⟨#[]⟩, .string ⟨#[]⟩, .int .i64 0] 31 (0, 0)) := heap_alloc_new w _
  have hx2 := hx.next hbA
  have hz0 : w.heap.size < (w.alloc (.cells #[.int .i64 0, .slice none 0 0, .string ⟨#[]⟩, .string ⟨#[]⟩, .int .i64 0] 31)).heap.size := by simp
  have Hb := Lib.hid hb; clear hb
  have Hr0 := Lib.hid hr0; clear hr0
  have Hx2 := Lib.hid hx2; clear hx2
  go_enter Tryz.func26, Tryz.ntmps26
  go_wp2_with fail
  generalize w.alloc (.cells #[.int .i64 0, .slice none 0 0, .string ⟨#[]⟩, .string ⟨#[]⟩, .int .i64 0] 31) = w0 at *
  refine (from_c A n c bs _ Hx2.out Hb.out hn).mono ?_
  rintro e w1 ⟨b, rfl, hs1, hb1⟩
  have hr1 := row_below Hr0.out hb1
  have H1 := hbA.trans (hb1.mono hbA.size)
  have hlo := hs1.lt
  have Hr1 := Lib.hid hr1; clear hr1
  go_wp2_with fail
  refine (l05Draw_c w0.heap.size b 0 _ hs1 (by omega)).mono ?_
  rintro e w2 ⟨z, rfl, hv, ho, hs2, hg2⟩
  have hr2 := row_grown Hr1.out hg2 (by intro e; injection e with e; omega)
  have H2 := H1.grown hg2 H1.size fun g hg => by injection hg with hg; omega
  have a0 := (cell_of_row w2 w.heap.size 0 _ _ _ hr2).trans rfl
  have a1 := (cell_of_row w2 w.heap.size 1 _ _ _ hr2).trans rfl
  have a2 := (cell_of_row w2 w.heap.size 2 _ _ _ hr2).trans rfl
  have a3 := (cell_of_row w2 w.heap.size 3 _ _ _ hr2).trans rfl
  have a4 := (cell_of_row w2 w.heap.size 4 _ _ _ hr2).trans rfl
  have fz := fun j => frozen_of_row w2 w.heap.size j _ _ hr2
  have hlt : w.heap.size < w1.heap.size := Nat.lt_of_lt_of_le hz0 hb1.size
  have Hv := Lib.hid hv; clear hv
  have Hr2 := Lib.hid hr2; clear hr2
  clear hs1 hb1 hs2 hg2 H1
  have hoF := own_base (ownsRow_setCell_below (ownsRow_setCell_below (ownsRow_setCell_below (ownsRow_setCell_below (ownsRow_setCell_below ho (a := ⟨w.heap.size, 0, none⟩) hlt (.int .i64 z.x.k)) (a := ⟨w.heap.size, 1, none⟩) hlt (.slice z.A z.n z.c)) (a := ⟨w.heap.size, 2, none⟩) hlt (.string z.x.l)) (a := ⟨w.heap.size, 3, none⟩) hlt (.string z.x.cs)) (a := ⟨w.heap.size, 4, none⟩) hlt (.int .i64 z.x.p)) (Nat.le_of_lt hlt)
  have HoF := Lib.hid hoF; clear hoF
  go_wp2_with fail
  refine bodyPost_ret (v := chV z.x.k z.A z.n z.c z.x.l z.x.cs z.x.p) (by simp [results, Tryz.results26, go_sem, a0, a1, a2, a3, a4]) rfl ⟨z, rfl, Hv.out, HoF.out, by (repeat (first | (with_reducible assumption) | (with_reducible exact Below.refl _ _) | exact Nat.le_refl _ | exact Below.size (by with_reducible assumption) | (with_reducible refine Below.drew ?_) | (with_reducible refine below_drewN ?_ _) | (with_reducible refine Below.alloc ?_ ?_ _) | (with_reducible refine Below.setCell ?_ ?_ _) | (with_reducible refine le_alloc ?_ _) | (with_reducible refine le_set ?_ _ _) | (with_reducible refine le_drew ?_) | (with_reducible refine le_drewN ?_ _) | omega | (dsimp only; omega)))⟩
theorem set_grown (w : World) (a : Addr) (v : Value) : w.grownBy (w.setCell a v) (some a.block) :=
  ⟨rfl, rfl, rfl, by simp, fun k _ hne => heap_setCell_other w a k v (fun e => hne (by rw [e]))⟩
theorem src_grown {w w' : World} {lo b a : Nat} {row : Option Nat} (h : Src w lo b a) (hg : w.grownBy w' row) (hne : row ≠ some b) (hr : ∀ g, row = some g → lo ≤ g) : Src w' lo b a := by
  obtain ⟨A, n, c, a', seed, bs, ha, ho, hs, hbs, hn, hl⟩ := h
  exact ⟨A, n, c, a', seed, bs, ha, own_grown ho hg (.inr (Ne.symm hne)), hs.grown hg hl hr, hbs, hn, Nat.le_trans hl hg.size⟩
set_option maxRecDepth 100000 in
set_option maxHeartbeats 1000000 in
theorem l19Draw_c (lo b a B : Nat) (W w : World) (hW : Below B W w) (hB : B ≤ lo) (h : Src w lo b a) (ha : a ≤ 800000000) :
    Calls Tryz.prog 49 #[.pointer (some ⟨b, 0, none⟩)] w fun e w' => ∃ s : St, e = .returned (stV s) ∧ stB s = true ∧ Below B W w' ∧ ∀ k, k < w.heap.size → k ≠ b → w'.heap[k]? = w.heap[k]? := by
  have hbA : Below w.heap.size w (w.alloc (.cells #[.int .i64 0, .int .i64 0, .int .i64 0, .int .i64 0, .int .i64 0] 29)) := by (repeat (first | (with_reducible assumption) | (with_reducible exact Below.refl _ _) | exact Nat.le_refl _ | exact Below.size (by with_reducible assumption) | (with_reducible refine Below.drew ?_) | (with_reducible refine below_drewN ?_ _) | (with_reducible refine Below.alloc ?_ ?_ _) | (with_reducible refine Below.setCell ?_ ?_ _) | (with_reducible refine le_alloc ?_ _) | (with_reducible refine le_set ?_ _ _) | (with_reducible refine le_drew ?_) | (with_reducible refine le_drewN ?_ _) | omega | (dsimp only; omega)))
  have hr0 : (w.alloc (.cells #[.int .i64 0, .int .i64 0, .int .i64 0, .int .i64 0, .int .i64 0] 29)).heap[w.heap.size]? = some (.cells #[.int .i64 0, .int .i64 0, .int .i64 0, .int .i64 0, .int .i64 0] 29 (0, 0)) := heap_alloc_new w _
  have hlt := h.lt
  have hs0 := h.next hbA
  have hBw : B ≤ w.heap.size := by omega
  have hW0 := hW.trans (hbA.mono hBw)
  have hkeep : ∀ k, k < w.heap.size → k ≠ b → (w.alloc (.cells #[.int .i64 0, .int .i64 0, .int .i64 0, .int .i64 0, .int .i64 0] 29)).heap[k]? = w.heap[k]? := fun k hk _ => hbA.block k hk
  have hz0 : w.heap.size < (w.alloc (.cells #[.int .i64 0, .int .i64 0, .int .i64 0, .int .i64 0, .int .i64 0] 29)).heap.size := by simp
  have Hr0 := Lib.hid hr0; clear hr0
  have Hkeep := Lib.hid hkeep; clear hkeep
  go_enter Tryz.func49, Tryz.ntmps49
  go_wp2_with fail
  generalize w.alloc (.cells #[.int .i64 0, .int .i64 0, .int .i64 0, .int .i64 0, .int .i64 0] 29) = w0 at *
  refine (pick_c 60000 lo b a _ hs0 (by omega) (by omega)).mono ?_
  rintro e w1 ⟨r1, rfl, r10, r11, hs1, hg1⟩
  go_wp2_with fail
  refine (pick_c 300 lo b (a + 2) _ hs1 (by omega) (by omega)).mono ?_
  rintro e w2 ⟨r2, rfl, r20, r21, hs2, hg2⟩
  go_wp2_with fail
  refine (pick_c 20000 lo b (a + 2 + 2) _ hs2 (by omega) (by omega)).mono ?_
  rintro e w3 ⟨r3, rfl, r30, r31, hs3, hg3⟩
  have hg := grown_trans (grown_trans hg1 hg2) hg3
  have hr3 := row_grown Hr0.out hg (by intro e; injection e with e; omega)
  have hW3 := hW0.grown hg (by omega) fun g hg => by injection hg with hg; omega
  have hk3 : ∀ k, k < w.heap.size → k ≠ b → w3.heap[k]? = w.heap[k]? := fun k hk hne => (hg.block k (by omega) (by intro e; injection e with e; exact hne e)).trans (Hkeep.out k hk hne)
  have hz3 := Nat.lt_of_lt_of_le hz0 hg.size
  have b1 : 1 ≤ 1000 + r1 ∧ 1000 + r1 ≤ 1000000 := by omega
  have b2 : 1 ≤ 1 + r2 ∧ 1 + r2 ≤ 10000 := by omega
  have b3 : 1 ≤ 100 * (1 + r3) ∧ 100 * (1 + r3) ≤ 100000000 := by omega
  have b1' : r1 ≤ 60000 := by omega
  have b2' : r2 ≤ 300 := by omega
  have b3' : r3 ≤ 20000 := by omega
  clear hg1 hg2 hg3 hg hs1 hs2 hs0 hbA Hkeep Hr0 r11 r21 r31
  have Hr3 := Lib.hid hr3; clear hr3
  have Hk3 := Lib.hid hk3; clear hk3
  have hr4 : (w3.alloc (.cells #[.int .i64 (1000 + r1), .int .i64 (1 + r2), .int .i64 (100 * (1 + r3)), .int .i64 0, .int .i64 0] 29)).heap[w3.heap.size]? = some (.cells #[.int .i64 (1000 + r1), .int .i64 (1 + r2), .int .i64 (100 * (1 + r3)), .int .i64 0, .int .i64 0] 29 (0, 0)) := heap_alloc_new w3 _
  have hbB : Below w3.heap.size w3 (w3.alloc (.cells #[.int .i64 (1000 + r1), .int .i64 (1 + r2), .int .i64 (100 * (1 + r3)), .int .i64 0, .int .i64 0] 29)) := by (repeat (first | (with_reducible assumption) | (with_reducible exact Below.refl _ _) | exact Nat.le_refl _ | exact Below.size (by with_reducible assumption) | (with_reducible refine Below.drew ?_) | (with_reducible refine below_drewN ?_ _) | (with_reducible refine Below.alloc ?_ ?_ _) | (with_reducible refine Below.setCell ?_ ?_ _) | (with_reducible refine le_alloc ?_ _) | (with_reducible refine le_set ?_ _ _) | (with_reducible refine le_drew ?_) | (with_reducible refine le_drewN ?_ _) | omega | (dsimp only; omega)))
  have hz4 : w3.heap.size < (w3.alloc (.cells #[.int .i64 (1000 + r1), .int .i64 (1 + r2), .int .i64 (100 * (1 + r3)), .int .i64 0, .int .i64 0] 29)).heap.size := by simp
  have hs4 := hs3.next hbB
  have hr3b := row_below Hr3.out hbB
  have hW4 := hW3.trans (hbB.mono (by omega))
  have hk4 : ∀ k, k < w.heap.size → k ≠ b → (w3.alloc (.cells #[.int .i64 (1000 + r1), .int .i64 (1 + r2), .int .i64 (100 * (1 + r3)), .int .i64 0, .int .i64 0] 29)).heap[k]? = w.heap[k]? := fun k hk hne => (hbB.block k (by omega)).trans (Hk3.out k hk hne)
  clear hbB Hk3 Hr3
  have Hr4 := Lib.hid hr4; clear hr4
  have Hr3b := Lib.hid hr3b; clear hr3b
  have Hk4 := Lib.hid hk4; clear hk4
  go_wp2_with fail
  generalize w3.alloc (.cells #[.int .i64 (1000 + r1), .int .i64 (1 + r2), .int .i64 (100 * (1 + r3)), .int .i64 0, .int .i64 0] 29) = w4 at *
  refine (pick_c 1000 lo b _ _ hs4 (by omega) (by omega)).mono ?_
  rintro e w5 ⟨r4, rfl, r40, r41, hs5, hg5⟩
  have b4 : 0 ≤ 100 * r4 ∧ 100 * r4 ≤ 1000000 := by omega
  have b4' : r4 ≤ 1000 := by omega
  have hr5 := row_grown Hr4.out hg5 (by intro e; injection e with e; omega)
  have hr5b := row_grown Hr3b.out hg5 (by intro e; injection e with e; omega)
  have hW5 := hW4.grown hg5 (by omega) fun g hg => by injection hg with hg; omega
  have hk5 : ∀ k, k < w.heap.size → k ≠ b → w5.heap[k]? = w.heap[k]? := fun k hk hne => (hg5.block k (by omega) (by intro e; injection e with e; exact hne e)).trans (Hk4.out k hk hne)
  have hz5 : w3.heap.size < w5.heap.size := Nat.lt_of_lt_of_le hz4 hg5.size
  have c3 := (cell_of_row w5 w3.heap.size 3 _ _ _ hr5).trans rfl
  have fz5 := fun j => frozen_of_row w5 w3.heap.size j _ _ hr5
  have hg6 := set_grown w5 ⟨w3.heap.size, 3, none⟩ (.int .i64 (100 * r4))
  have hs6 := src_grown hs5 hg6 (by simp; omega) (fun g hg => by injection hg with hg; simp only at hg; omega)
  have hr6 := heap_setCell_same w5 w3.heap.size 3 _ _ (.int .i64 (100 * r4)) hr5
  have hr6b := row_grown hr5b hg6 (by simp; omega)
  have hW6 : Below B W (w5.setCell ⟨w3.heap.size, 3, none⟩ (.int .i64 (100 * r4))) := hW5.setCell (p := ⟨w3.heap.size, 3, none⟩) (by show B ≤ w3.heap.size; omega) _
  have hk6 : ∀ k, k < w.heap.size → k ≠ b → (w5.setCell ⟨w3.heap.size, 3, none⟩ (.int .i64 (100 * r4))).heap[k]? = w.heap[k]? := fun k hk hne => (hg6.block k (by omega) (by simp; omega)).trans (hk5 k hk hne)
  have hz6 : w3.heap.size < (w5.setCell ⟨w3.heap.size, 3, none⟩ (.int .i64 (100 * r4))).heap.size := by simpa using hz5
  clear hg5 hg6 hs5 hr5b hk5 hW5 hs4 Hr4 Hr3b Hk4 hW4 r41
  have Hr5 := Lib.hid hr5; clear hr5
  have Hr6 := Lib.hid hr6; clear hr6
  have Hr6b := Lib.hid hr6b; clear hr6b
  have Hk6 := Lib.hid hk6; clear hk6
  go_wp2_with fail
  clear c3 fz5 Hr5
  generalize w5.setCell ⟨w3.heap.size, 3, none⟩ (.int .i64 (100 * r4)) = w6 at *
  refine (pick_c 1001 lo b _ _ hs6 (by omega) (by omega)).mono ?_
  rintro e w7 ⟨r5, rfl, r50, r51, hs7, hg7⟩
  have b5 : 0 ≤ r5 ∧ r5 ≤ 1000 := by omega
  have hr7 := row_grown Hr6.out hg7 (by intro e; injection e with e; omega)
  have hr7b := row_grown Hr6b.out hg7 (by intro e; injection e with e; omega)
  have hW7 := hW6.grown hg7 (by omega) fun g hg => by injection hg with hg; omega
  have hk7 : ∀ k, k < w.heap.size → k ≠ b → w7.heap[k]? = w.heap[k]? := fun k hk hne => (hg7.block k (by omega) (by intro e; injection e with e; exact hne e)).trans (Hk6.out k hk hne)
  have c0 := (cell_of_row w7 w3.heap.size 0 _ _ _ hr7).trans rfl
  have c1 := (cell_of_row w7 w3.heap.size 1 _ _ _ hr7).trans rfl
  have c2 := (cell_of_row w7 w3.heap.size 2 _ _ _ hr7).trans rfl
  have c3 := (cell_of_row w7 w3.heap.size 3 _ _ _ hr7).trans rfl
  have c4 := (cell_of_row w7 w3.heap.size 4 _ _ _ hr7).trans rfl
  have d0 := (cell_of_row w7 w.heap.size 0 _ _ _ hr7b).trans rfl
  have d1 := (cell_of_row w7 w.heap.size 1 _ _ _ hr7b).trans rfl
  have d2 := (cell_of_row w7 w.heap.size 2 _ _ _ hr7b).trans rfl
  have d3 := (cell_of_row w7 w.heap.size 3 _ _ _ hr7b).trans rfl
  have d4 := (cell_of_row w7 w.heap.size 4 _ _ _ hr7b).trans rfl
  have fz7 := fun j => frozen_of_row w7 w3.heap.size j _ _ hr7
  have fz7b := fun j => frozen_of_row w7 w.heap.size j _ _ hr7b
  have hX : ¬ w3.heap.size = w.heap.size := by omega
  clear hg7 hs7 hs6 Hr6 Hr6b Hk6 hW6 r51 h hW hW0 hW3
  have Hr7 := Lib.hid hr7; clear hr7
  have Hr7b := Lib.hid hr7b; clear hr7b
  have Hk7 := Lib.hid hk7; clear hk7
  go_wp2_with fail
  refine bodyPost_ret (v := stV ⟨1000 + r1, 1 + r2, 100 * (1 + r3), 100 * r4, r5⟩) (by simp [results, Tryz.results49, go_sem, d0, d1, d2, d3, d4]) rfl ⟨⟨1000 + r1, 1 + r2, 100 * (1 + r3), 100 * r4, r5⟩, rfl, ?_, by (repeat (first | (with_reducible assumption) | (with_reducible exact Below.refl _ _) | exact Nat.le_refl _ | exact Below.size (by with_reducible assumption) | (with_reducible refine Below.drew ?_) | (with_reducible refine below_drewN ?_ _) | (with_reducible refine Below.alloc ?_ ?_ _) | (with_reducible refine Below.setCell ?_ ?_ _) | (with_reducible refine le_alloc ?_ _) | (with_reducible refine le_set ?_ _ _) | (with_reducible refine le_drew ?_) | (with_reducible refine le_drewN ?_ _) | omega | (dsimp only; omega))), fun k hk hne => ?_⟩
  · simp only [stB, Bool.and_eq_true, inB_iff]
    omega
  · have e : k ≠ w.heap.size := by omega
    have e' : k ≠ w3.heap.size := by omega
    simp only [heap_setCell_other _ _ k _ (show k ≠ (⟨w.heap.size, 0, none⟩ : Addr).block from e), heap_setCell_other _ _ k _ (show k ≠ (⟨w.heap.size, 1, none⟩ : Addr).block from e), heap_setCell_other _ _ k _ (show k ≠ (⟨w.heap.size, 2, none⟩ : Addr).block from e), heap_setCell_other _ _ k _ (show k ≠ (⟨w.heap.size, 3, none⟩ : Addr).block from e), heap_setCell_other _ _ k _ (show k ≠ (⟨w.heap.size, 4, none⟩ : Addr).block from e), heap_setCell_other _ _ k _ (show k ≠ (⟨w3.heap.size, 4, none⟩ : Addr).block from e')]
    exact Hk7.out k hk hne
set_option maxRecDepth 100000 in
set_option maxHeartbeats 1000000 in
theorem r8Sta_c (A : Option Addr) (n c : Nat) (bs : List Int) (w : World) (hx : Sl w w.heap.size 1 A n (bs.flatMap u8C)) (hb : ∀ x ∈ bs, 0 ≤ x ∧ x ≤ 255) (hn : n ≤ maxLen) :
    Calls Tryz.prog 25 #[.slice A n c] w fun e w' => ∃ s : St, e = .returned (stV s) ∧ stB s = true ∧ Below w.heap.size w w' := by
  have hbA : Below w.heap.size w (w.alloc (.cells #[.int .i64 0, .int .i64 0, .int .i64 0, .int .i64 0, .int .i64 0] 29)) := by (repeat (first | (with_reducible assumption) | (with_reducible exact Below.refl _ _) | exact Nat.le_refl _ | exact Below.size (by with_reducible assumption) | (with_reducible refine Below.drew ?_) | (with_reducible refine below_drewN ?_ _) | (with_reducible refine Below.alloc ?_ ?_ _) | (with_reducible refine Below.setCell ?_ ?_ _) | (with_reducible refine le_alloc ?_ _) | (with_reducible refine le_set ?_ _ _) | (with_reducible refine le_drew ?_) | (with_reducible refine le_drewN ?_ _) | omega | (dsimp only; omega)))
  have hr0 : (w.alloc (.cells #[.int .i64 0, .int .i64 0, .int .i64 0, .int .i64 0, .int .i64 0] 29)).heap[w.heap.size]? = some (.cells #[.int .i64 0, .int .i64 0, .int .i64 0, .int .i64 0, .int .i64 0] 29 (0, 0)) := heap_alloc_new w _
  have hx2 := hx.next hbA
  have hz0 : w.heap.size < (w.alloc (.cells #[.int .i64 0, .int .i64 0, .int .i64 0, .int .i64 0, .int .i64 0] 29)).heap.size := by simp
  have Hb := Lib.hid hb; clear hb
  have Hr0 := Lib.hid hr0; clear hr0
  have Hx2 := Lib.hid hx2; clear hx2
  go_enter Tryz.func25, Tryz.ntmps25
  go_wp2_with fail
  generalize w.alloc (.cells #[.int .i64 0, .int .i64 0, .int .i64 0, .int .i64 0, .int .i64 0] 29) = w0 at *
  refine (from_c A n c bs _ Hx2.out Hb.out hn).mono ?_
  rintro e w1 ⟨b, rfl, hs1, hb1⟩
  have hr1 := row_below Hr0.out hb1
  have H1 := hbA.trans (hb1.mono hbA.size)
  have hlo := hs1.lt
  have hz1 := Nat.lt_of_lt_of_le hz0 hb1.size
  have Hr1 := Lib.hid hr1; clear hr1
  go_wp2_with fail
  refine (l19Draw_c w0.heap.size b 0 w.heap.size w w1 H1 (by omega) hs1 (by omega)).mono ?_
  rintro e w2 ⟨s, rfl, hv, H2, hk2⟩
  have hr2 := (hk2 w.heap.size hz1 (by omega)).trans Hr1.out
  have a0 := (cell_of_row w2 w.heap.size 0 _ _ _ hr2).trans rfl
  have a1 := (cell_of_row w2 w.heap.size 1 _ _ _ hr2).trans rfl
  have a2 := (cell_of_row w2 w.heap.size 2 _ _ _ hr2).trans rfl
  have a3 := (cell_of_row w2 w.heap.size 3 _ _ _ hr2).trans rfl
  have a4 := (cell_of_row w2 w.heap.size 4 _ _ _ hr2).trans rfl
  have fz := fun j => frozen_of_row w2 w.heap.size j _ _ hr2
  have Hv := Lib.hid hv; clear hv
  have Hr2 := Lib.hid hr2; clear hr2
  clear hs1 hb1 H1 hk2
  go_wp2_with fail
  refine bodyPost_ret (v := stV s) (by simp [results, Tryz.results25, go_sem, a0, a1, a2, a3, a4]) rfl ⟨s, rfl, Hv.out, by (repeat (first | (with_reducible assumption) | (with_reducible exact Below.refl _ _) | exact Nat.le_refl _ | exact Below.size (by with_reducible assumption) | (with_reducible refine Below.drew ?_) | (with_reducible refine below_drewN ?_ _) | (with_reducible refine Below.alloc ?_ ?_ _) | (with_reducible refine Below.setCell ?_ ?_ _) | (with_reducible refine le_alloc ?_ _) | (with_reducible refine le_set ?_ _ _) | (with_reducible refine le_drew ?_) | (with_reducible refine le_drewN ?_ _) | omega | (dsimp only; omega)))⟩
end Go.Proofs.YtpgcgmbjlecnpaaGreat
