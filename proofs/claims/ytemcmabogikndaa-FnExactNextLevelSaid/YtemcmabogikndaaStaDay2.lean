/- Stations: NextLevel of the reference; DayUse, AutonomyOf, NextLevel of the program. -/
import Derived.Test.YtemcmabogikndaaStaDay
namespace Go.Proofs.Ytemcmabogikndaa
open Go.RowKit
set_option maxRecDepth 100000 in
set_option maxHeartbeats 1000000 in
theorem specNext_c (s : St) (A : Option Addr) (n c : Nat) (x : Ch) (w : World) (sl : Sl w w.heap.size 1 A n (x.gs.flatMap intC)) (hn : n ≤ 1048576) (hlz : x.l.size ≤ 1048576) (hs : x.cs.size ≤ 1048576) (level dark : Int) :
    Calls Try.prog 20 #[stV s, chV x.k A n c x.l x.cs x.p, .int .i64 level, .int .i64 dark] w fun e w' => e = .returned (.tuple #[.int .i64 (nexV s x level dark), .int .i64 (nexK s x level dark)]) ∧ Below w.heap.size w w' := by
  obtain ⟨hSt, hCh, hb0⟩ := two_box (s := s) (c := c) 35 28 sl hn hlz hs
  cases hst : stB s
  · have ho : okSC s x = false := by rw [okSC, hst]; rfl
    have Ho := Lib.hid ho; clear ho
    go_enter Try.func20, Try.ntmps20
    go_wp2_with fail
    generalize (w.alloc (.cells #[.int .i64 s.la, .int .i64 s.sb, .int .i64 s.ba, .int .i64 s.pa, .int .i64 s.sh] 35)).alloc (.cells #[.int .i64 x.k, .slice A n c, .string x.l, .string x.cs, .int .i64 x.p] 28) = w0 at *
    obtain ⟨a0, a1, a2, a3, a4, hbs⟩ := hSt
    have hSt : StP w0 w.heap.size s := ⟨a0, a1, a2, a3, a4, hbs⟩
    refine (l19Ok_c _ s _ hSt).mono ?_
    rintro e w9 ⟨rfl, rfl⟩
    go_wp2_with (first | (go_at_call 41; refine (l19Ok_c _ s _ hSt).mono ?_; rintro e w9 ⟨rfl, rfl⟩) | (go_at_call 35; refine (l05Ok_c _ _ _ _ _ x _ hCh).mono ?_; rintro e w1 ⟨rfl, hb1⟩; have hSt1 := hSt.next hb1; have hCh1 := hCh.next hb1; have q1 := keepC hb1 w.heap.size hSt.hb) | (go_at_call 42; refine (l19Dark_c _ _).mono ?_; rintro e w9 ⟨rfl, rfl⟩) | (go_at_call 47; refine (l00In_c _ _ _ _).mono ?_; rintro e w9 ⟨rfl, rfl⟩))
    go_ret2
    exact ⟨by simp [nexV, nexK, Ho.out], hb0⟩
  cases hv : validB x
  · have ho : okSC s x = false := by rw [okSC, hst, hv]; rfl
    have Ho := Lib.hid ho; clear ho
    go_enter Try.func20, Try.ntmps20
    go_wp2_with fail
    generalize (w.alloc (.cells #[.int .i64 s.la, .int .i64 s.sb, .int .i64 s.ba, .int .i64 s.pa, .int .i64 s.sh] 35)).alloc (.cells #[.int .i64 x.k, .slice A n c, .string x.l, .string x.cs, .int .i64 x.p] 28) = w0 at *
    obtain ⟨a0, a1, a2, a3, a4, hbs⟩ := hSt
    have hSt : StP w0 w.heap.size s := ⟨a0, a1, a2, a3, a4, hbs⟩
    refine (l19Ok_c _ s _ hSt).mono ?_
    rintro e w9 ⟨rfl, rfl⟩
    go_wp2_with (first | (go_at_call 41; refine (l19Ok_c _ s _ hSt).mono ?_; rintro e w9 ⟨rfl, rfl⟩) | (go_at_call 35; refine (l05Ok_c _ _ _ _ _ x _ hCh).mono ?_; rintro e w1 ⟨rfl, hb1⟩; have hSt1 := hSt.next hb1; have hCh1 := hCh.next hb1; have q1 := keepC hb1 w.heap.size hSt.hb) | (go_at_call 42; refine (l19Dark_c _ _).mono ?_; rintro e w9 ⟨rfl, rfl⟩) | (go_at_call 47; refine (l00In_c _ _ _ _).mono ?_; rintro e w9 ⟨rfl, rfl⟩))
    go_ret2
    exact ⟨by simp [nexV, nexK, Ho.out], hb0.trans (hb1.mono hb0.size)⟩
  have ho : okSC s x = true := by rw [okSC, hst, hv]; rfl
  have Ho := Lib.hid ho; clear ho
  have hok := stB_ok hst
  obtain ⟨sh1, sh2⟩ := share_bd hv
  cases hdk : inB dark 0 1440
  · go_enter Try.func20, Try.ntmps20
    go_wp2_with fail
    generalize (w.alloc (.cells #[.int .i64 s.la, .int .i64 s.sb, .int .i64 s.ba, .int .i64 s.pa, .int .i64 s.sh] 35)).alloc (.cells #[.int .i64 x.k, .slice A n c, .string x.l, .string x.cs, .int .i64 x.p] 28) = w0 at *
    obtain ⟨a0, a1, a2, a3, a4, hbs⟩ := hSt
    have hSt : StP w0 w.heap.size s := ⟨a0, a1, a2, a3, a4, hbs⟩
    refine (l19Ok_c _ s _ hSt).mono ?_
    rintro e w9 ⟨rfl, rfl⟩
    go_wp2_with (first | (go_at_call 41; refine (l19Ok_c _ s _ hSt).mono ?_; rintro e w9 ⟨rfl, rfl⟩) | (go_at_call 35; refine (l05Ok_c _ _ _ _ _ x _ hCh).mono ?_; rintro e w1 ⟨rfl, hb1⟩; have hSt1 := hSt.next hb1; have hCh1 := hCh.next hb1; have q1 := keepC hb1 w.heap.size hSt.hb) | (go_at_call 42; refine (l19Dark_c _ _).mono ?_; rintro e w9 ⟨rfl, rfl⟩) | (go_at_call 47; refine (l00In_c _ _ _ _).mono ?_; rintro e w9 ⟨rfl, rfl⟩))
    go_ret2
    exact ⟨by simp [nexV, nexK, Ho.out, hdk], hb0.trans (hb1.mono hb0.size)⟩
  obtain ⟨d1, d2⟩ := inB_iff.1 hdk
  cases hlv : inB level 0 s.ba
  · go_enter Try.func20, Try.ntmps20
    go_wp2_with fail
    generalize (w.alloc (.cells #[.int .i64 s.la, .int .i64 s.sb, .int .i64 s.ba, .int .i64 s.pa, .int .i64 s.sh] 35)).alloc (.cells #[.int .i64 x.k, .slice A n c, .string x.l, .string x.cs, .int .i64 x.p] 28) = w0 at *
    obtain ⟨a0, a1, a2, a3, a4, hbs⟩ := hSt
    have hSt : StP w0 w.heap.size s := ⟨a0, a1, a2, a3, a4, hbs⟩
    refine (l19Ok_c _ s _ hSt).mono ?_
    rintro e w9 ⟨rfl, rfl⟩
    go_wp2_with (first | (go_at_call 41; refine (l19Ok_c _ s _ hSt).mono ?_; rintro e w9 ⟨rfl, rfl⟩) | (go_at_call 35; refine (l05Ok_c _ _ _ _ _ x _ hCh).mono ?_; rintro e w1 ⟨rfl, hb1⟩; have hSt1 := hSt.next hb1; have hCh1 := hCh.next hb1; have q1 := keepC hb1 w.heap.size hSt.hb) | (go_at_call 42; refine (l19Dark_c _ _).mono ?_; rintro e w9 ⟨rfl, rfl⟩) | (go_at_call 47; refine (l00In_c _ _ _ _).mono ?_; rintro e w9 ⟨rfl, rfl⟩))
    go_ret2
    exact ⟨by simp [nexV, nexK, Ho.out, hdk, hlv], hb0.trans (hb1.mono hb0.size)⟩
  obtain ⟨l1, l2⟩ := inB_iff.1 hlv
  have hba2 := hok.b2
  go_enter Try.func20, Try.ntmps20
  go_wp2_with fail
  generalize (w.alloc (.cells #[.int .i64 s.la, .int .i64 s.sb, .int .i64 s.ba, .int .i64 s.pa, .int .i64 s.sh] 35)).alloc (.cells #[.int .i64 x.k, .slice A n c, .string x.l, .string x.cs, .int .i64 x.p] 28) = w0 at *
  obtain ⟨a0, a1, a2, a3, a4, hbs⟩ := hSt
  have hSt : StP w0 w.heap.size s := ⟨a0, a1, a2, a3, a4, hbs⟩
  refine (l19Ok_c _ s _ hSt).mono ?_
  rintro e w9 ⟨rfl, rfl⟩
  go_wp2_with (first | (go_at_call 41; refine (l19Ok_c _ s _ hSt).mono ?_; rintro e w9 ⟨rfl, rfl⟩) | (go_at_call 35; refine (l05Ok_c _ _ _ _ _ x _ hCh).mono ?_; rintro e w1 ⟨rfl, hb1⟩; have hSt1 := hSt.next hb1; have hCh1 := hCh.next hb1; have q1 := keepC hb1 w.heap.size hSt.hb) | (go_at_call 42; refine (l19Dark_c _ _).mono ?_; rintro e w9 ⟨rfl, rfl⟩) | (go_at_call 47; refine (l00In_c _ _ _ _).mono ?_; rintro e w9 ⟨rfl, rfl⟩))
  refine (l19Share_c _ _ _ _ _ x _ hCh1 hv).mono ?_
  rintro e w2 ⟨rfl, hb2⟩
  go_wp2_with fail
  refine (l19Next_c _ s _ level dark _ (hSt1.next hb2) hok sh1 sh2 (by omega) (by omega) d1 d2).mono ?_
  rintro e w3 ⟨rfl, n3, rfl⟩
  go_wp2_with fail
  refine (l00Max_c _ _ _).mono ?_
  rintro e w9 ⟨rfl, rfl⟩
  go_wp2_with fail
  go_ret2
  exact ⟨by simp [nexV, nexK, Ho.out, hdk, hlv], below_drewN (hb0.trans ((hb1.trans (hb2.mono hb1.size)).mono hb0.size)) _⟩
set_option maxRecDepth 100000 in
set_option maxHeartbeats 1000000 in
theorem implDay_c (s : St) (A : Option Addr) (n c : Nat) (x : Ch) (w : World) (sl : Sl w w.heap.size 1 A n (x.gs.flatMap intC)) (hn : n ≤ 1048576) (hlz : x.l.size ≤ 1048576) (hs : x.cs.size ≤ 1048576) (dark : Int) :
    Calls Try.prog 17 #[stV s, chV x.k A n c x.l x.cs x.p, .int .i64 dark] w fun e w' => e = .returned (.tuple #[.int .i64 (dayV s x dark), .int .i64 (dayK s x dark)]) ∧ Below w.heap.size w w' := by
  cases hst : stB s
  · have ho : okSC s x = false := by rw [okSC, hst]; rfl
    have Ho := Lib.hid ho; clear ho
    obtain ⟨hSt, hCh, hb0⟩ := two_box (s := s) (c := c) 35 28 sl hn hlz hs
    go_enter Try.func17, Try.ntmps17
    go_wp2_with fail
    generalize (w.alloc (.cells #[.int .i64 s.la, .int .i64 s.sb, .int .i64 s.ba, .int .i64 s.pa, .int .i64 s.sh] 35)).alloc (.cells #[.int .i64 x.k, .slice A n c, .string x.l, .string x.cs, .int .i64 x.p] 28) = w0 at *
    obtain ⟨a0, a1, a2, a3, a4, hbs⟩ := hSt
    obtain ⟨c0, c1, c2, c3, c4, hbc, sl0, _, _, _⟩ := hCh
    simp only [Nat.zero_add] at c0 c1 c2 c3 c4
    refine (validStation_c s _).mono ?_
    rintro e w1 ⟨rfl, hb1⟩
    have q1 := keepC hb1 w.heap.size hbs
    have r1 := keepC hb1 (w.heap.size + 1) hbc
    have sl1 := sl0.next hb1
    go_wp2_with fail
    go_ret2
    exact ⟨by simp [dayV, dayK, Ho.out], hb0.trans (hb1.mono hb0.size)⟩
  cases hv : validB x
  · have ho : okSC s x = false := by rw [okSC, hst, hv]; rfl
    have Ho := Lib.hid ho; clear ho
    obtain ⟨hSt, hCh, hb0⟩ := two_box (s := s) (c := c) 35 28 sl hn hlz hs
    go_enter Try.func17, Try.ntmps17
    go_wp2_with fail
    generalize (w.alloc (.cells #[.int .i64 s.la, .int .i64 s.sb, .int .i64 s.ba, .int .i64 s.pa, .int .i64 s.sh] 35)).alloc (.cells #[.int .i64 x.k, .slice A n c, .string x.l, .string x.cs, .int .i64 x.p] 28) = w0 at *
    obtain ⟨a0, a1, a2, a3, a4, hbs⟩ := hSt
    obtain ⟨c0, c1, c2, c3, c4, hbc, sl0, _, _, _⟩ := hCh
    simp only [Nat.zero_add] at c0 c1 c2 c3 c4
    refine (validStation_c s _).mono ?_
    rintro e w1 ⟨rfl, hb1⟩
    have q1 := keepC hb1 w.heap.size hbs
    have r1 := keepC hb1 (w.heap.size + 1) hbc
    have sl1 := sl0.next hb1
    go_wp2_with fail
    refine (implValid_c A n c x _ sl1 hn hlz hs).mono ?_
    rintro e w2 ⟨rfl, hb2⟩
    have q2 := keepC hb2 w.heap.size (Nat.lt_of_lt_of_le hbs hb1.size)
    have r2 := keepC hb2 (w.heap.size + 1) (Nat.lt_of_lt_of_le hbc hb1.size)
    have sl2 := sl1.next hb2
    have hb02 := hb1.trans (hb2.mono hb1.size)
    go_wp2_with fail
    go_ret2
    exact ⟨by simp [dayV, dayK, Ho.out], hb0.trans (hb02.mono hb0.size)⟩
  have ho : okSC s x = true := by rw [okSC, hst, hv]; rfl
  have Ho := Lib.hid ho; clear ho
  have hok := stB_ok hst
  obtain ⟨sh1, sh2⟩ := share_bd hv
  cases hdk : inB dark 0 1440
  · obtain ⟨hSt, hCh, hb0⟩ := two_box (s := s) (c := c) 35 28 sl hn hlz hs
    go_enter Try.func17, Try.ntmps17
    go_wp2_with fail
    generalize (w.alloc (.cells #[.int .i64 s.la, .int .i64 s.sb, .int .i64 s.ba, .int .i64 s.pa, .int .i64 s.sh] 35)).alloc (.cells #[.int .i64 x.k, .slice A n c, .string x.l, .string x.cs, .int .i64 x.p] 28) = w0 at *
    obtain ⟨a0, a1, a2, a3, a4, hbs⟩ := hSt
    obtain ⟨c0, c1, c2, c3, c4, hbc, sl0, _, _, _⟩ := hCh
    simp only [Nat.zero_add] at c0 c1 c2 c3 c4
    refine (validStation_c s _).mono ?_
    rintro e w1 ⟨rfl, hb1⟩
    have q1 := keepC hb1 w.heap.size hbs
    have r1 := keepC hb1 (w.heap.size + 1) hbc
    have sl1 := sl0.next hb1
    go_wp2_with fail
    refine (implValid_c A n c x _ sl1 hn hlz hs).mono ?_
    rintro e w2 ⟨rfl, hb2⟩
    have q2 := keepC hb2 w.heap.size (Nat.lt_of_lt_of_le hbs hb1.size)
    have r2 := keepC hb2 (w.heap.size + 1) (Nat.lt_of_lt_of_le hbc hb1.size)
    have sl2 := sl1.next hb2
    have hb02 := hb1.trans (hb2.mono hb1.size)
    go_wp2_with (go_at_call 45; refine (isDark_c _ _).mono ?_; rintro e w9 ⟨rfl, rfl⟩)
    go_ret2
    exact ⟨by simp [dayV, dayK, Ho.out, hdk], hb0.trans (hb02.mono hb0.size)⟩
  obtain ⟨d1, d2⟩ := inB_iff.1 hdk
  obtain ⟨hSt, hCh, hb0⟩ := two_box (s := s) (c := c) 35 28 sl hn hlz hs
  go_enter Try.func17, Try.ntmps17
  go_wp2_with fail
  generalize (w.alloc (.cells #[.int .i64 s.la, .int .i64 s.sb, .int .i64 s.ba, .int .i64 s.pa, .int .i64 s.sh] 35)).alloc (.cells #[.int .i64 x.k, .slice A n c, .string x.l, .string x.cs, .int .i64 x.p] 28) = w0 at *
  obtain ⟨a0, a1, a2, a3, a4, hbs⟩ := hSt
  obtain ⟨c0, c1, c2, c3, c4, hbc, sl0, _, _, _⟩ := hCh
  simp only [Nat.zero_add] at c0 c1 c2 c3 c4
  refine (validStation_c s _).mono ?_
  rintro e w1 ⟨rfl, hb1⟩
  have q1 := keepC hb1 w.heap.size hbs
  have r1 := keepC hb1 (w.heap.size + 1) hbc
  have sl1 := sl0.next hb1
  go_wp2_with fail
  refine (implValid_c A n c x _ sl1 hn hlz hs).mono ?_
  rintro e w2 ⟨rfl, hb2⟩
  have q2 := keepC hb2 w.heap.size (Nat.lt_of_lt_of_le hbs hb1.size)
  have r2 := keepC hb2 (w.heap.size + 1) (Nat.lt_of_lt_of_le hbc hb1.size)
  have sl2 := sl1.next hb2
  have hb02 := hb1.trans (hb2.mono hb1.size)
  go_wp2_with (go_at_call 45; refine (isDark_c _ _).mono ?_; rintro e w9 ⟨rfl, rfl⟩)
  have hbs2 := Nat.lt_of_lt_of_le hbs hb02.size
  have hbc2 := Nat.lt_of_lt_of_le hbc hb02.size
  have e1 : ∀ {w' : World}, Below w2.heap.size w2 w' → (Below w2.heap.size w2 w' ∧ (∀ x, w'.cell? ⟨w.heap.size, x, none⟩ = w2.cell? ⟨w.heap.size, x, none⟩) ∧ (∀ x, w'.cell? ⟨w.heap.size + 1, x, none⟩ = w2.cell? ⟨w.heap.size + 1, x, none⟩)) := fun hbb => ⟨hbb, keepC hbb _ hbs2, keepC hbb _ hbc2⟩
  refine wp_region_held_drew (S := fun w' => Below w2.heap.size w2 w' ∧ (∀ x, w'.cell? ⟨w.heap.size, x, none⟩ = w2.cell? ⟨w.heap.size, x, none⟩) ∧ (∀ x, w'.cell? ⟨w.heap.size + 1, x, none⟩ = w2.cell? ⟨w.heap.size + 1, x, none⟩)) (by kernel_rfl) (e1 (Below.refl _ _).drew) (fun hHeld => ?_)
  (first
    | (refine wpAnyH_take (i := 0) (v := ?_) rfl (by kernel_rfl) (by kernel_rfl) (by kernel_rfl) (fun _ _ _ h => h) (Or.inl ⟨by rfl, ?_⟩) (by assumption) ?_
       rotate_left
       focus (intro wq hSq; (try dsimp only at hSq); go_simp; (try (with_reducible rfl)); done))
    | (refine wpAnyH_take (i := 0) (v := undef) rfl (by kernel_rfl) (by kernel_rfl) (by kernel_rfl) (fun _ _ _ h => h) (Or.inr ⟨by rfl, rfl⟩) (by assumption) ?_)
    | fail "take 0")
  try simp only [Act.put, List.setIfInBounds_toArray, List.set_cons_zero, List.set_cons_succ, List.getElem_toArray, List.getElem_cons_zero]
  (first
    | (refine wpAnyH_take (i := 1) (v := ?_) rfl (by kernel_rfl) (by kernel_rfl) (by kernel_rfl) (fun _ _ _ h => h) (Or.inl ⟨by rfl, ?_⟩) (by assumption) ?_
       rotate_left
       focus (intro wq hSq; (try dsimp only at hSq); go_simp; (try (with_reducible rfl)); done))
    | (refine wpAnyH_take (i := 1) (v := undef) rfl (by kernel_rfl) (by kernel_rfl) (by kernel_rfl) (fun _ _ _ h => h) (Or.inr ⟨by rfl, rfl⟩) (by assumption) ?_)
    | fail "take 1")
  try simp only [Act.put, List.setIfInBounds_toArray, List.set_cons_zero, List.set_cons_succ, List.getElem_toArray, List.getElem_cons_zero, List.getElem_cons_succ]
  (first
    | (refine wpAnyH_take (i := 3) (v := ?_) rfl (by kernel_rfl) (by kernel_rfl) (by kernel_rfl) (fun _ _ _ h => h) (Or.inl ⟨by rfl, ?_⟩) (by assumption) ?_
       rotate_left
       focus (intro wq hSq; (try dsimp only at hSq); go_simp; (try (with_reducible rfl)); done))
    | (refine wpAnyH_take (i := 3) (v := undef) rfl (by kernel_rfl) (by kernel_rfl) (by kernel_rfl) (fun _ _ _ h => h) (Or.inr ⟨by rfl, rfl⟩) (by assumption) ?_)
    | fail "take 3")
  try simp only [Act.put, List.setIfInBounds_toArray, List.set_cons_zero, List.set_cons_succ, List.getElem_toArray, List.getElem_cons_zero, List.getElem_cons_succ]
  refine wpAnyH_ready (rs := [2]) (by kernel_rfl) (by simp) ?_
  refine AllReadyH.cons (o := _) rfl (fun K hK => ?_) AllReadyH.nil
  go_simp
  refine (litShare_c A n c x _ (sl2.next (Below.refl _ _).drew) hn hlz hs hv).mono ?_; rintro e w3 ⟨rfl, hb3⟩; have hb23 := (Below.refl w2.heap.size w2).drew.trans hb3
  refine hK.out _ _ ?_ (fun hHeld => ?_)
  · exact e1 hb23
  clear hK K
  try simp only [Act.put, List.setIfInBounds_toArray, List.set_cons_zero, List.set_cons_succ, List.getElem_toArray, List.getElem_cons_zero, List.getElem_cons_succ]
  refine wpAnyH_ready (rs := [4]) (by kernel_rfl) (by simp) ?_
  refine AllReadyH.cons (o := _) rfl (fun K hK => ?_) AllReadyH.nil
  go_simp
  refine (use_c s _ dark _ hok sh1 sh2 d1 d2).mono ?_; rintro e w4 ⟨rfl, hb4⟩; have hb24 := hb23.trans (hb4.mono hb23.size)
  refine hK.out _ _ ?_ (fun hHeld => ?_)
  · exact e1 hb24
  clear hK K
  try simp only [Act.put, List.setIfInBounds_toArray, List.set_cons_zero, List.set_cons_succ, List.getElem_toArray, List.getElem_cons_zero, List.getElem_cons_succ]
  (first
    | (refine wpAnyH_take (i := 5) (v := ?_) rfl (by kernel_rfl) (by kernel_rfl) (by kernel_rfl) (fun _ _ _ h => h) (Or.inl ⟨by rfl, ?_⟩) (by assumption) ?_
       rotate_left
       focus (intro wq hSq; (try dsimp only at hSq); go_simp; (try (with_reducible rfl)); done))
    | (refine wpAnyH_take (i := 5) (v := undef) rfl (by kernel_rfl) (by kernel_rfl) (by kernel_rfl) (fun _ _ _ h => h) (Or.inr ⟨by rfl, rfl⟩) (by assumption) ?_)
    | fail "take 5")
  try simp only [Act.put, List.setIfInBounds_toArray, List.set_cons_zero, List.set_cons_succ, List.getElem_toArray, List.getElem_cons_zero, List.getElem_cons_succ]
  (first
    | (refine wpAnyH_take (i := 6) (v := ?_) rfl (by kernel_rfl) (by kernel_rfl) (by kernel_rfl) (fun _ _ _ h => h) (Or.inl ⟨by rfl, ?_⟩) (by assumption) ?_
       rotate_left
       focus (intro wq hSq; (try dsimp only at hSq); go_simp; (try (with_reducible rfl)); done))
    | (refine wpAnyH_take (i := 6) (v := undef) rfl (by kernel_rfl) (by kernel_rfl) (by kernel_rfl) (fun _ _ _ h => h) (Or.inr ⟨by rfl, rfl⟩) (by assumption) ?_)
    | fail "take 6")
  try simp only [Act.put, List.setIfInBounds_toArray, List.set_cons_zero, List.set_cons_succ, List.getElem_toArray, List.getElem_cons_zero, List.getElem_cons_succ]
  refine wpAnyH_done (by kernel_rfl) ?_ _
  go_wp2_with fail
  go_ret2
  exact ⟨by simp [dayV, dayK, Ho.out, hdk], hb0.trans ((hb02.trans (hb24.mono hb02.size)).mono hb0.size)⟩
set_option maxRecDepth 100000 in
set_option maxHeartbeats 1000000 in
theorem implAut_c (s : St) (A : Option Addr) (n c : Nat) (x : Ch) (w : World) (sl : Sl w w.heap.size 1 A n (x.gs.flatMap intC)) (hn : n ≤ 1048576) (hlz : x.l.size ≤ 1048576) (hs : x.cs.size ≤ 1048576) (dark : Int) :
    Calls Try.prog 19 #[stV s, chV x.k A n c x.l x.cs x.p, .int .i64 dark] w fun e w' => e = .returned (.tuple #[.int .i64 (autV s x dark), .int .i64 (dayK s x dark)]) ∧ Below w.heap.size w w' := by
  cases ho : okSC s x
  · have hK : dayK s x dark = 1 := by simp [dayK, ho]
    have hA : autV s x dark = 0 := by simp [autV, ho]
    rw [hK, hA]
    have HA := Lib.hid hA; clear hA
    obtain ⟨hSt, hCh, hb0⟩ := two_box (s := s) (c := c) 35 28 sl hn hlz hs
    go_enter Try.func19, Try.ntmps19
    go_wp2_with fail
    generalize (w.alloc (.cells #[.int .i64 s.la, .int .i64 s.sb, .int .i64 s.ba, .int .i64 s.pa, .int .i64 s.sh] 35)).alloc (.cells #[.int .i64 x.k, .slice A n c, .string x.l, .string x.cs, .int .i64 x.p] 28) = w0 at *
    obtain ⟨a0, a1, a2, a3, a4, hbs⟩ := hSt
    obtain ⟨c0, c1, c2, c3, c4, hbc, sl0, _, _, _⟩ := hCh
    simp only [Nat.zero_add] at c0 c1 c2 c3 c4
    refine (implDay_c s A n c x _ sl0 hn hlz hs dark).mono ?_
    rintro e w1 ⟨rfl, hb1⟩
    go_wp2_with fail
    go_ret2
    exact ⟨rfl, hb0.trans (hb1.mono hb0.size)⟩
  cases hdk : inB dark 0 1440
  · have hK : dayK s x dark = 2 := by simp [dayK, ho, hdk]
    have hA : autV s x dark = 0 := by simp [autV, ho, hdk]
    rw [hK, hA]
    have HA := Lib.hid hA; clear hA
    obtain ⟨hSt, hCh, hb0⟩ := two_box (s := s) (c := c) 35 28 sl hn hlz hs
    go_enter Try.func19, Try.ntmps19
    go_wp2_with fail
    generalize (w.alloc (.cells #[.int .i64 s.la, .int .i64 s.sb, .int .i64 s.ba, .int .i64 s.pa, .int .i64 s.sh] 35)).alloc (.cells #[.int .i64 x.k, .slice A n c, .string x.l, .string x.cs, .int .i64 x.p] 28) = w0 at *
    obtain ⟨a0, a1, a2, a3, a4, hbs⟩ := hSt
    obtain ⟨c0, c1, c2, c3, c4, hbc, sl0, _, _, _⟩ := hCh
    simp only [Nat.zero_add] at c0 c1 c2 c3 c4
    refine (implDay_c s A n c x _ sl0 hn hlz hs dark).mono ?_
    rintro e w1 ⟨rfl, hb1⟩
    go_wp2_with fail
    go_ret2
    exact ⟨rfl, hb0.trans (hb1.mono hb0.size)⟩
  have hK : dayK s x dark = 0 := by simp [dayK, ho, hdk]
  have hA : autV s x dark = s.ba / useI s (shareI x) dark := by simp [autV, ho, hdk]
  have hD : dayV s x dark = useI s (shareI x) dark := by simp [dayV, ho, hdk]
  have ho2 := ho
  simp only [okSC, Bool.and_eq_true] at ho2
  have hok := stB_ok ho2.1
  obtain ⟨sh1, sh2⟩ := share_bd ho2.2
  obtain ⟨d1, d2⟩ := inB_iff.1 hdk
  obtain ⟨u1, u2⟩ := (use_bd hok sh1 sh2 d1 d2).2.2
  have hb1' := hok.b1
  have hb2' := hok.b2
  rw [hK, hA]
  have HA := Lib.hid hA; clear hA
  obtain ⟨hSt, hCh, hb0⟩ := two_box (s := s) (c := c) 35 28 sl hn hlz hs
  go_enter Try.func19, Try.ntmps19
  go_wp2_with fail
  generalize (w.alloc (.cells #[.int .i64 s.la, .int .i64 s.sb, .int .i64 s.ba, .int .i64 s.pa, .int .i64 s.sh] 35)).alloc (.cells #[.int .i64 x.k, .slice A n c, .string x.l, .string x.cs, .int .i64 x.p] 28) = w0 at *
  obtain ⟨a0, a1, a2, a3, a4, hbs⟩ := hSt
  obtain ⟨c0, c1, c2, c3, c4, hbc, sl0, _, _, _⟩ := hCh
  simp only [Nat.zero_add] at c0 c1 c2 c3 c4
  refine (implDay_c s A n c x _ sl0 hn hlz hs dark).mono ?_
  rintro e w1 ⟨rfl, hb1⟩
  have q1 := keepC hb1 w.heap.size hbs
  go_wp2_with fail
  go_ret2
  exact ⟨rfl, hb0.trans (hb1.mono hb0.size)⟩
set_option maxRecDepth 100000 in
set_option maxHeartbeats 1000000 in
theorem implNext_c (s : St) (A : Option Addr) (n c : Nat) (x : Ch) (w : World) (sl : Sl w w.heap.size 1 A n (x.gs.flatMap intC)) (hn : n ≤ 1048576) (hlz : x.l.size ≤ 1048576) (hs : x.cs.size ≤ 1048576) (level dark : Int) :
    Calls Try.prog 21 #[stV s, chV x.k A n c x.l x.cs x.p, .int .i64 level, .int .i64 dark] w fun e w' => e = .returned (.tuple #[.int .i64 (nexV s x level dark), .int .i64 (nexK s x level dark)]) ∧ Below w.heap.size w w' := by
  cases hst : stB s
  · have ho : okSC s x = false := by rw [okSC, hst]; rfl
    have Ho := Lib.hid ho; clear ho
    obtain ⟨hSt, hCh, hb0⟩ := two_box (s := s) (c := c) 35 28 sl hn hlz hs
    go_enter Try.func21, Try.ntmps21
    go_wp2_with fail
    generalize (w.alloc (.cells #[.int .i64 s.la, .int .i64 s.sb, .int .i64 s.ba, .int .i64 s.pa, .int .i64 s.sh] 35)).alloc (.cells #[.int .i64 x.k, .slice A n c, .string x.l, .string x.cs, .int .i64 x.p] 28) = w0 at *
    obtain ⟨a0, a1, a2, a3, a4, hbs⟩ := hSt
    obtain ⟨c0, c1, c2, c3, c4, hbc, sl0, _, _, _⟩ := hCh
    simp only [Nat.zero_add] at c0 c1 c2 c3 c4
    refine (validStation_c s _).mono ?_
    rintro e w1 ⟨rfl, hb1⟩
    have q1 := keepC hb1 w.heap.size hbs
    have r1 := keepC hb1 (w.heap.size + 1) hbc
    have sl1 := sl0.next hb1
    go_wp2_with fail
    go_ret2
    exact ⟨by simp [nexV, nexK, Ho.out], hb0.trans (hb1.mono hb0.size)⟩
  cases hv : validB x
  · have ho : okSC s x = false := by rw [okSC, hst, hv]; rfl
    have Ho := Lib.hid ho; clear ho
    obtain ⟨hSt, hCh, hb0⟩ := two_box (s := s) (c := c) 35 28 sl hn hlz hs
    go_enter Try.func21, Try.ntmps21
    go_wp2_with fail
    generalize (w.alloc (.cells #[.int .i64 s.la, .int .i64 s.sb, .int .i64 s.ba, .int .i64 s.pa, .int .i64 s.sh] 35)).alloc (.cells #[.int .i64 x.k, .slice A n c, .string x.l, .string x.cs, .int .i64 x.p] 28) = w0 at *
    obtain ⟨a0, a1, a2, a3, a4, hbs⟩ := hSt
    obtain ⟨c0, c1, c2, c3, c4, hbc, sl0, _, _, _⟩ := hCh
    simp only [Nat.zero_add] at c0 c1 c2 c3 c4
    refine (validStation_c s _).mono ?_
    rintro e w1 ⟨rfl, hb1⟩
    have q1 := keepC hb1 w.heap.size hbs
    have r1 := keepC hb1 (w.heap.size + 1) hbc
    have sl1 := sl0.next hb1
    go_wp2_with fail
    refine (implValid_c A n c x _ sl1 hn hlz hs).mono ?_
    rintro e w2 ⟨rfl, hb2⟩
    have q2 := keepC hb2 w.heap.size (Nat.lt_of_lt_of_le hbs hb1.size)
    have r2 := keepC hb2 (w.heap.size + 1) (Nat.lt_of_lt_of_le hbc hb1.size)
    have sl2 := sl1.next hb2
    have hb02 := hb1.trans (hb2.mono hb1.size)
    go_wp2_with fail
    go_ret2
    exact ⟨by simp [nexV, nexK, Ho.out], hb0.trans (hb02.mono hb0.size)⟩
  have ho : okSC s x = true := by rw [okSC, hst, hv]; rfl
  have Ho := Lib.hid ho; clear ho
  have hok := stB_ok hst
  obtain ⟨sh1, sh2⟩ := share_bd hv
  cases hdk : inB dark 0 1440
  · obtain ⟨hSt, hCh, hb0⟩ := two_box (s := s) (c := c) 35 28 sl hn hlz hs
    go_enter Try.func21, Try.ntmps21
    go_wp2_with fail
    generalize (w.alloc (.cells #[.int .i64 s.la, .int .i64 s.sb, .int .i64 s.ba, .int .i64 s.pa, .int .i64 s.sh] 35)).alloc (.cells #[.int .i64 x.k, .slice A n c, .string x.l, .string x.cs, .int .i64 x.p] 28) = w0 at *
    obtain ⟨a0, a1, a2, a3, a4, hbs⟩ := hSt
    obtain ⟨c0, c1, c2, c3, c4, hbc, sl0, _, _, _⟩ := hCh
    simp only [Nat.zero_add] at c0 c1 c2 c3 c4
    refine (validStation_c s _).mono ?_
    rintro e w1 ⟨rfl, hb1⟩
    have q1 := keepC hb1 w.heap.size hbs
    have r1 := keepC hb1 (w.heap.size + 1) hbc
    have sl1 := sl0.next hb1
    go_wp2_with fail
    refine (implValid_c A n c x _ sl1 hn hlz hs).mono ?_
    rintro e w2 ⟨rfl, hb2⟩
    have q2 := keepC hb2 w.heap.size (Nat.lt_of_lt_of_le hbs hb1.size)
    have r2 := keepC hb2 (w.heap.size + 1) (Nat.lt_of_lt_of_le hbc hb1.size)
    have sl2 := sl1.next hb2
    have hb02 := hb1.trans (hb2.mono hb1.size)
    go_wp2_with (go_at_call 45; refine (isDark_c _ _).mono ?_; rintro e w9 ⟨rfl, rfl⟩)
    go_ret2
    exact ⟨by simp [nexV, nexK, Ho.out, hdk], hb0.trans (hb02.mono hb0.size)⟩
  obtain ⟨d1, d2⟩ := inB_iff.1 hdk
  cases hlv : inB level 0 s.ba
  · obtain ⟨hSt, hCh, hb0⟩ := two_box (s := s) (c := c) 35 28 sl hn hlz hs
    go_enter Try.func21, Try.ntmps21
    go_wp2_with fail
    generalize (w.alloc (.cells #[.int .i64 s.la, .int .i64 s.sb, .int .i64 s.ba, .int .i64 s.pa, .int .i64 s.sh] 35)).alloc (.cells #[.int .i64 x.k, .slice A n c, .string x.l, .string x.cs, .int .i64 x.p] 28) = w0 at *
    obtain ⟨a0, a1, a2, a3, a4, hbs⟩ := hSt
    obtain ⟨c0, c1, c2, c3, c4, hbc, sl0, _, _, _⟩ := hCh
    simp only [Nat.zero_add] at c0 c1 c2 c3 c4
    refine (validStation_c s _).mono ?_
    rintro e w1 ⟨rfl, hb1⟩
    have q1 := keepC hb1 w.heap.size hbs
    have r1 := keepC hb1 (w.heap.size + 1) hbc
    have sl1 := sl0.next hb1
    go_wp2_with fail
    refine (implValid_c A n c x _ sl1 hn hlz hs).mono ?_
    rintro e w2 ⟨rfl, hb2⟩
    have q2 := keepC hb2 w.heap.size (Nat.lt_of_lt_of_le hbs hb1.size)
    have r2 := keepC hb2 (w.heap.size + 1) (Nat.lt_of_lt_of_le hbc hb1.size)
    have sl2 := sl1.next hb2
    have hb02 := hb1.trans (hb2.mono hb1.size)
    go_wp2_with (first | (go_at_call 45; refine (isDark_c _ _).mono ?_; rintro e w9 ⟨rfl, rfl⟩) | (go_at_call 50; refine (within_c _ _ _ _).mono ?_; rintro e w9 ⟨rfl, rfl⟩))
    go_ret2
    exact ⟨by simp [nexV, nexK, Ho.out, hdk, hlv], hb0.trans (hb02.mono hb0.size)⟩
  obtain ⟨l1, l2⟩ := inB_iff.1 hlv
  have hba2 := hok.b2
  obtain ⟨hSt, hCh, hb0⟩ := two_box (s := s) (c := c) 35 28 sl hn hlz hs
  go_enter Try.func21, Try.ntmps21
  go_wp2_with fail
  generalize (w.alloc (.cells #[.int .i64 s.la, .int .i64 s.sb, .int .i64 s.ba, .int .i64 s.pa, .int .i64 s.sh] 35)).alloc (.cells #[.int .i64 x.k, .slice A n c, .string x.l, .string x.cs, .int .i64 x.p] 28) = w0 at *
  obtain ⟨a0, a1, a2, a3, a4, hbs⟩ := hSt
  obtain ⟨c0, c1, c2, c3, c4, hbc, sl0, _, _, _⟩ := hCh
  simp only [Nat.zero_add] at c0 c1 c2 c3 c4
  refine (validStation_c s _).mono ?_
  rintro e w1 ⟨rfl, hb1⟩
  have q1 := keepC hb1 w.heap.size hbs
  have r1 := keepC hb1 (w.heap.size + 1) hbc
  have sl1 := sl0.next hb1
  go_wp2_with fail
  refine (implValid_c A n c x _ sl1 hn hlz hs).mono ?_
  rintro e w2 ⟨rfl, hb2⟩
  have q2 := keepC hb2 w.heap.size (Nat.lt_of_lt_of_le hbs hb1.size)
  have r2 := keepC hb2 (w.heap.size + 1) (Nat.lt_of_lt_of_le hbc hb1.size)
  have sl2 := sl1.next hb2
  have hb02 := hb1.trans (hb2.mono hb1.size)
  go_wp2_with (first | (go_at_call 45; refine (isDark_c _ _).mono ?_; rintro e w9 ⟨rfl, rfl⟩) | (go_at_call 50; refine (within_c _ _ _ _).mono ?_; rintro e w9 ⟨rfl, rfl⟩))
  have hbs2 := Nat.lt_of_lt_of_le hbs hb02.size
  have hbc2 := Nat.lt_of_lt_of_le hbc hb02.size
  have e1 : ∀ {w' : World}, Below w2.heap.size w2 w' → (Below w2.heap.size w2 w' ∧ (∀ x, w'.cell? ⟨w.heap.size, x, none⟩ = w2.cell? ⟨w.heap.size, x, none⟩) ∧ (∀ x, w'.cell? ⟨w.heap.size + 1, x, none⟩ = w2.cell? ⟨w.heap.size + 1, x, none⟩)) := fun hbb => ⟨hbb, keepC hbb _ hbs2, keepC hbb _ hbc2⟩
  refine wp_region_held_drew (S := fun w' => Below w2.heap.size w2 w' ∧ (∀ x, w'.cell? ⟨w.heap.size, x, none⟩ = w2.cell? ⟨w.heap.size, x, none⟩) ∧ (∀ x, w'.cell? ⟨w.heap.size + 1, x, none⟩ = w2.cell? ⟨w.heap.size + 1, x, none⟩)) (by kernel_rfl) (e1 (Below.refl _ _).drew) (fun hHeld => ?_)
  (first
    | (refine wpAnyH_take (i := 0) (v := ?_) rfl (by kernel_rfl) (by kernel_rfl) (by kernel_rfl) (fun _ _ _ h => h) (Or.inl ⟨by rfl, ?_⟩) (by assumption) ?_
       rotate_left
       focus (intro wq hSq; (try dsimp only at hSq); go_simp; (try (with_reducible rfl)); done))
    | (refine wpAnyH_take (i := 0) (v := undef) rfl (by kernel_rfl) (by kernel_rfl) (by kernel_rfl) (fun _ _ _ h => h) (Or.inr ⟨by rfl, rfl⟩) (by assumption) ?_)
    | fail "take 0")
  try simp only [Act.put, List.setIfInBounds_toArray, List.set_cons_zero, List.set_cons_succ, List.getElem_toArray, List.getElem_cons_zero]
  (first
    | (refine wpAnyH_take (i := 1) (v := ?_) rfl (by kernel_rfl) (by kernel_rfl) (by kernel_rfl) (fun _ _ _ h => h) (Or.inl ⟨by rfl, ?_⟩) (by assumption) ?_
       rotate_left
       focus (intro wq hSq; (try dsimp only at hSq); go_simp; (try (with_reducible rfl)); done))
    | (refine wpAnyH_take (i := 1) (v := undef) rfl (by kernel_rfl) (by kernel_rfl) (by kernel_rfl) (fun _ _ _ h => h) (Or.inr ⟨by rfl, rfl⟩) (by assumption) ?_)
    | fail "take 1")
  try simp only [Act.put, List.setIfInBounds_toArray, List.set_cons_zero, List.set_cons_succ, List.getElem_toArray, List.getElem_cons_zero, List.getElem_cons_succ]
  (first
    | (refine wpAnyH_take (i := 3) (v := ?_) rfl (by kernel_rfl) (by kernel_rfl) (by kernel_rfl) (fun _ _ _ h => h) (Or.inl ⟨by rfl, ?_⟩) (by assumption) ?_
       rotate_left
       focus (intro wq hSq; (try dsimp only at hSq); go_simp; (try (with_reducible rfl)); done))
    | (refine wpAnyH_take (i := 3) (v := undef) rfl (by kernel_rfl) (by kernel_rfl) (by kernel_rfl) (fun _ _ _ h => h) (Or.inr ⟨by rfl, rfl⟩) (by assumption) ?_)
    | fail "take 3")
  try simp only [Act.put, List.setIfInBounds_toArray, List.set_cons_zero, List.set_cons_succ, List.getElem_toArray, List.getElem_cons_zero, List.getElem_cons_succ]
  (first
    | (refine wpAnyH_take (i := 4) (v := ?_) rfl (by kernel_rfl) (by kernel_rfl) (by kernel_rfl) (fun _ _ _ h => h) (Or.inl ⟨by rfl, ?_⟩) (by assumption) ?_
       rotate_left
       focus (intro wq hSq; (try dsimp only at hSq); go_simp; (try (with_reducible rfl)); done))
    | (refine wpAnyH_take (i := 4) (v := undef) rfl (by kernel_rfl) (by kernel_rfl) (by kernel_rfl) (fun _ _ _ h => h) (Or.inr ⟨by rfl, rfl⟩) (by assumption) ?_)
    | fail "take 4")
  try simp only [Act.put, List.setIfInBounds_toArray, List.set_cons_zero, List.set_cons_succ, List.getElem_toArray, List.getElem_cons_zero, List.getElem_cons_succ]
  refine wpAnyH_ready (rs := [2]) (by kernel_rfl) (by simp) ?_
  refine AllReadyH.cons (o := _) rfl (fun K hK => ?_) AllReadyH.nil
  go_simp
  refine (litShare_c A n c x _ (sl2.next (Below.refl _ _).drew) hn hlz hs hv).mono ?_; rintro e w3 ⟨rfl, hb3⟩; have hb23 := (Below.refl w2.heap.size w2).drew.trans hb3
  refine hK.out _ _ ?_ (fun hHeld => ?_)
  · exact e1 hb23
  clear hK K
  try simp only [Act.put, List.setIfInBounds_toArray, List.set_cons_zero, List.set_cons_succ, List.getElem_toArray, List.getElem_cons_zero, List.getElem_cons_succ]
  refine wpAnyH_ready (rs := [5]) (by kernel_rfl) (by simp) ?_
  refine AllReadyH.cons (o := _) rfl (fun K hK => ?_) AllReadyH.nil
  go_simp
  refine (next_c s _ level dark _ hok sh1 sh2 (by omega) (by omega) d1 d2).mono ?_; rintro e w4 ⟨rfl, hb4⟩; have hb24 := hb23.trans (hb4.mono hb23.size)
  refine hK.out _ _ ?_ (fun hHeld => ?_)
  · exact e1 hb24
  clear hK K
  try simp only [Act.put, List.setIfInBounds_toArray, List.set_cons_zero, List.set_cons_succ, List.getElem_toArray, List.getElem_cons_zero, List.getElem_cons_succ]
  (first
    | (refine wpAnyH_take (i := 6) (v := ?_) rfl (by kernel_rfl) (by kernel_rfl) (by kernel_rfl) (fun _ _ _ h => h) (Or.inl ⟨by rfl, ?_⟩) (by assumption) ?_
       rotate_left
       focus (intro wq hSq; (try dsimp only at hSq); go_simp; (try (with_reducible rfl)); done))
    | (refine wpAnyH_take (i := 6) (v := undef) rfl (by kernel_rfl) (by kernel_rfl) (by kernel_rfl) (fun _ _ _ h => h) (Or.inr ⟨by rfl, rfl⟩) (by assumption) ?_)
    | fail "take 6")
  try simp only [Act.put, List.setIfInBounds_toArray, List.set_cons_zero, List.set_cons_succ, List.getElem_toArray, List.getElem_cons_zero, List.getElem_cons_succ]
  (first
    | (refine wpAnyH_take (i := 7) (v := ?_) rfl (by kernel_rfl) (by kernel_rfl) (by kernel_rfl) (fun _ _ _ h => h) (Or.inl ⟨by rfl, ?_⟩) (by assumption) ?_
       rotate_left
       focus (intro wq hSq; (try dsimp only at hSq); go_simp; (try (with_reducible rfl)); done))
    | (refine wpAnyH_take (i := 7) (v := undef) rfl (by kernel_rfl) (by kernel_rfl) (by kernel_rfl) (fun _ _ _ h => h) (Or.inr ⟨by rfl, rfl⟩) (by assumption) ?_)
    | fail "take 7")
  try simp only [Act.put, List.setIfInBounds_toArray, List.set_cons_zero, List.set_cons_succ, List.getElem_toArray, List.getElem_cons_zero, List.getElem_cons_succ]
  (first
    | (refine wpAnyH_take (i := 8) (v := ?_) rfl (by kernel_rfl) (by kernel_rfl) (by kernel_rfl) (fun _ _ _ h => h) (Or.inl ⟨by rfl, ?_⟩) (by assumption) ?_
       rotate_left
       focus (intro wq hSq; (try dsimp only at hSq); go_simp; (try (with_reducible rfl)); done))
    | (refine wpAnyH_take (i := 8) (v := undef) rfl (by kernel_rfl) (by kernel_rfl) (by kernel_rfl) (fun _ _ _ h => h) (Or.inr ⟨by rfl, rfl⟩) (by assumption) ?_)
    | fail "take 8")
  try simp only [Act.put, List.setIfInBounds_toArray, List.set_cons_zero, List.set_cons_succ, List.getElem_toArray, List.getElem_cons_zero, List.getElem_cons_succ]
  refine wpAnyH_done (by kernel_rfl) ?_ _
  go_wp2_with fail
  all_goals
    go_ret2
    refine ⟨?_, hb0.trans ((hb02.trans (hb24.mono hb02.size)).mono hb0.size)⟩
    simp only [nexV, nexK, Ho.out, hdk, hlv, Bool.true_and, cond_true]
    first | rfl | (rw [show max 0 (nextI s (shareI x) level dark) = nextI s (shareI x) level dark by omega]; rfl) | (rw [show max 0 (nextI s (shareI x) level dark) = 0 by omega]; rfl)
end Go.Proofs.Ytemcmabogikndaa
