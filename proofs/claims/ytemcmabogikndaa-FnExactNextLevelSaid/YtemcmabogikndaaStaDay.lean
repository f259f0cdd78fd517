/- Stations: DayUse, AutonomyOf, NextLevel. -/
import Derived.Test.YtemcmabogikndaaStaUse
namespace Go.Proofs.Ytemcmabogikndaa
open Go.RowKit
def okSC (s : St) (x : Ch) : Bool := stB s && validB x
def dayK (s : St) (x : Ch) (dark : Int) : Int := bif okSC s x then (bif inB dark 0 1440 then 0 else 2) else 1
def dayV (s : St) (x : Ch) (dark : Int) : Int := bif okSC s x then (bif inB dark 0 1440 then useI s (shareI x) dark else 0) else 0
def autV (s : St) (x : Ch) (dark : Int) : Int := bif okSC s x then (bif inB dark 0 1440 then s.ba / useI s (shareI x) dark else 0) else 0
def nexK (s : St) (x : Ch) (level dark : Int) : Int := bif okSC s x then (bif inB dark 0 1440 && inB level 0 s.ba then 0 else 2) else 1
def nexV (s : St) (x : Ch) (level dark : Int) : Int := bif okSC s x then (bif inB dark 0 1440 && inB level 0 s.ba then max 0 (nextI s (shareI x) level dark) else 0) else 0
abbrev chO (x : Ch) (A : Option Addr) (n c : Nat) (E : TypeId) : Obj := .cells #[.int .i64 x.k, .slice A n c, .string x.l, .string x.cs, .int .i64 x.p] E
theorem two_box {w : World} {s : St} {x : Ch} {A : Option Addr} {n c : Nat} (E1 E2 : TypeId) (sl : Sl w w.heap.size 1 A n (x.gs.flatMap intC)) (hn : n ≤ 1048576) (hlz : x.l.size ≤ 1048576) (hs : x.cs.size ≤ 1048576) :
    StP ((w.alloc (stO s E1)).alloc (chO x A n c E2)) w.heap.size s ∧ ChP ((w.alloc (stO s E1)).alloc (chO x A n c E2)) (w.heap.size + 1) 0 A n c x ∧ Below w.heap.size w ((w.alloc (stO s E1)).alloc (chO x A n c E2)) := by
  have hb1 : Below w.heap.size w (w.alloc (stO s E1)) := by (repeat (first | (with_reducible assumption) | (with_reducible exact Below.refl _ _) | exact Nat.le_refl _ | exact Below.size (by with_reducible assumption) | (with_reducible refine Below.drew ?_) | (with_reducible refine below_drewN ?_ _) | (with_reducible refine Below.alloc ?_ ?_ _) | (with_reducible refine Below.setCell ?_ ?_ _) | (with_reducible refine le_alloc ?_ _) | (with_reducible refine le_set ?_ _ _) | (with_reducible refine le_drew ?_) | (with_reducible refine le_drewN ?_ _) | omega | (dsimp only; omega)))
  have hb2 : Below (w.alloc (stO s E1)).heap.size (w.alloc (stO s E1)) ((w.alloc (stO s E1)).alloc (chO x A n c E2)) := by (repeat (first | (with_reducible assumption) | (with_reducible exact Below.refl _ _) | exact Nat.le_refl _ | exact Below.size (by with_reducible assumption) | (with_reducible refine Below.drew ?_) | (with_reducible refine below_drewN ?_ _) | (with_reducible refine Below.alloc ?_ ?_ _) | (with_reducible refine Below.setCell ?_ ?_ _) | (with_reducible refine le_alloc ?_ _) | (with_reducible refine le_set ?_ _ _) | (with_reducible refine le_drew ?_) | (with_reducible refine le_drewN ?_ _) | omega | (dsimp only; omega)))
  refine ⟨(stp_box w s E1).next hb2, ?_, hb1.trans (hb2.mono hb1.size)⟩
  have := chp_box (c := c) E2 (sl.next hb1) hn hlz hs
  simpa using this
set_option maxRecDepth 100000 in
set_option maxHeartbeats 1000000 in
theorem specDay_c (s : St) (A : Option Addr) (n c : Nat) (x : Ch) (w : World) (sl : Sl w w.heap.size 1 A n (x.gs.flatMap intC)) (hn : n ≤ 1048576) (hlz : x.l.size ≤ 1048576) (hs : x.cs.size ≤ 1048576) (dark : Int) :
    Calls Try.prog 15 #[stV s, chV x.k A n c x.l x.cs x.p, .int .i64 dark] w fun e w' => e = .returned (.tuple #[.int .i64 (dayV s x dark), .int .i64 (dayK s x dark)]) ∧ Below w.heap.size w w' := by
  obtain ⟨hSt, hCh, hb0⟩ := two_box (s := s) (c := c) 35 28 sl hn hlz hs
  cases hst : stB s
  · have ho : okSC s x = false := by rw [okSC, hst]; rfl
    have Ho := Lib.hid ho; clear ho
    go_enter Try.func15, Try.ntmps15
    go_wp2_with fail
    generalize (w.alloc (.cells #[.int .i64 s.la, .int .i64 s.sb, .int .i64 s.ba, .int .i64 s.pa, .int .i64 s.sh] 35)).alloc (.cells #[.int .i64 x.k, .slice A n c, .string x.l, .string x.cs, .int .i64 x.p] 28) = w0 at *
    obtain ⟨a0, a1, a2, a3, a4, hbs⟩ := hSt
    have hSt : StP w0 w.heap.size s := ⟨a0, a1, a2, a3, a4, hbs⟩
    refine (l19Ok_c _ s _ hSt).mono ?_
    rintro e w9 ⟨rfl, rfl⟩
    go_wp2_with (first | (go_at_call 41; refine (l19Ok_c _ s _ hSt).mono ?_; rintro e w9 ⟨rfl, rfl⟩) | (go_at_call 35; refine (l05Ok_c _ _ _ _ _ x _ hCh).mono ?_; rintro e w1 ⟨rfl, hb1⟩; have hSt1 := hSt.next hb1; have hCh1 := hCh.next hb1; have q1 := keepC hb1 w.heap.size hSt.hb) | (go_at_call 42; refine (l19Dark_c _ _).mono ?_; rintro e w9 ⟨rfl, rfl⟩) | (go_at_call 47; refine (l00In_c _ _ _ _).mono ?_; rintro e w9 ⟨rfl, rfl⟩))
    go_ret2
    exact ⟨by simp [dayV, dayK, Ho.out], hb0⟩
  cases hv : validB x
  · have ho : okSC s x = false := by rw [okSC, hst, hv]; rfl
    have Ho := Lib.hid ho; clear ho
    go_enter Try.func15, Try.ntmps15
    go_wp2_with fail
    generalize (w.alloc (.cells #[.int .i64 s.la, .int .i64 s.sb, .int .i64 s.ba, .int .i64 s.pa, .int .i64 s.sh] 35)).alloc (.cells #[.int .i64 x.k, .slice A n c, .string x.l, .string x.cs, .int .i64 x.p] 28) = w0 at *
    obtain ⟨a0, a1, a2, a3, a4, hbs⟩ := hSt
    have hSt : StP w0 w.heap.size s := ⟨a0, a1, a2, a3, a4, hbs⟩
    refine (l19Ok_c _ s _ hSt).mono ?_
    rintro e w9 ⟨rfl, rfl⟩
    go_wp2_with (first | (go_at_call 41; refine (l19Ok_c _ s _ hSt).mono ?_; rintro e w9 ⟨rfl, rfl⟩) | (go_at_call 35; refine (l05Ok_c _ _ _ _ _ x _ hCh).mono ?_; rintro e w1 ⟨rfl, hb1⟩; have hSt1 := hSt.next hb1; have hCh1 := hCh.next hb1; have q1 := keepC hb1 w.heap.size hSt.hb) | (go_at_call 42; refine (l19Dark_c _ _).mono ?_; rintro e w9 ⟨rfl, rfl⟩) | (go_at_call 47; refine (l00In_c _ _ _ _).mono ?_; rintro e w9 ⟨rfl, rfl⟩))
    go_ret2
    exact ⟨by simp [dayV, dayK, Ho.out], hb0.trans (hb1.mono hb0.size)⟩
  have ho : okSC s x = true := by rw [okSC, hst, hv]; rfl
  have Ho := Lib.hid ho; clear ho
  have hok := stB_ok hst
  obtain ⟨sh1, sh2⟩ := share_bd hv
  cases hdk : inB dark 0 1440
  · go_enter Try.func15, Try.ntmps15
    go_wp2_with fail
    generalize (w.alloc (.cells #[.int .i64 s.la, .int .i64 s.sb, .int .i64 s.ba, .int .i64 s.pa, .int .i64 s.sh] 35)).alloc (.cells #[.int .i64 x.k, .slice A n c, .string x.l, .string x.cs, .int .i64 x.p] 28) = w0 at *
    obtain ⟨a0, a1, a2, a3, a4, hbs⟩ := hSt
    have hSt : StP w0 w.heap.size s := ⟨a0, a1, a2, a3, a4, hbs⟩
    refine (l19Ok_c _ s _ hSt).mono ?_
    rintro e w9 ⟨rfl, rfl⟩
    go_wp2_with (first | (go_at_call 41; refine (l19Ok_c _ s _ hSt).mono ?_; rintro e w9 ⟨rfl, rfl⟩) | (go_at_call 35; refine (l05Ok_c _ _ _ _ _ x _ hCh).mono ?_; rintro e w1 ⟨rfl, hb1⟩; have hSt1 := hSt.next hb1; have hCh1 := hCh.next hb1; have q1 := keepC hb1 w.heap.size hSt.hb) | (go_at_call 42; refine (l19Dark_c _ _).mono ?_; rintro e w9 ⟨rfl, rfl⟩) | (go_at_call 47; refine (l00In_c _ _ _ _).mono ?_; rintro e w9 ⟨rfl, rfl⟩))
    go_ret2
    exact ⟨by simp [dayV, dayK, Ho.out, hdk], hb0.trans (hb1.mono hb0.size)⟩
  obtain ⟨d1, d2⟩ := inB_iff.1 hdk
  go_enter Try.func15, Try.ntmps15
  go_wp2_with fail
  generalize (w.alloc (.cells #[.int .i64 s.la, .int .i64 s.sb, .int .i64 s.ba, .int .i64 s.pa, .int .i64 s.sh] 35)).alloc (.cells #[.int .i64 x.k, .slice A n c, .string x.l, .string x.cs, .int .i64 x.p] 28) = w0 at *
  obtain ⟨a0, a1, a2, a3, a4, hbs⟩ := hSt
  have hSt : StP w0 w.heap.size s := ⟨a0, a1, a2, a3, a4, hbs⟩
  refine (l19Ok_c _ s _ hSt).mono ?_
  rintro e w9 ⟨rfl, rfl⟩
  go_wp2_with (first | (go_at_call 41; refine (l19Ok_c _ s _ hSt).mono ?_; rintro e w9 ⟨rfl, rfl⟩) | (go_at_call 35; refine (l05Ok_c _ _ _ _ _ x _ hCh).mono ?_; rintro e w1 ⟨rfl, hb1⟩; have hSt1 := hSt.next hb1; have hCh1 := hCh.next hb1; have q1 := keepC hb1 w.heap.size hSt.hb) | (go_at_call 42; refine (l19Dark_c _ _).mono ?_; rintro e w9 ⟨rfl, rfl⟩) | (go_at_call 47; refine (l00In_c _ _ _ _).mono ?_; rintro e w9 ⟨rfl, rfl⟩))
  refine (l19Share_c _ _ _ _ _ x _ hCh1 hv).mono ?_
  rintro e w2 ⟨rfl, hb2⟩
  go_wp2_with fail
  refine (l19Use_c _ s _ dark _ (hSt1.next hb2) hok sh1 sh2 d1 d2).mono ?_
  rintro e w3 ⟨rfl, n3, rfl⟩
  go_wp2_with fail
  go_ret2
  exact ⟨by simp [dayV, dayK, Ho.out, hdk], below_drewN (hb0.trans ((hb1.trans (hb2.mono hb1.size)).mono hb0.size)) _⟩
set_option maxRecDepth 100000 in
set_option maxHeartbeats 1000000 in
theorem specAut_c (s : St) (A : Option Addr) (n c : Nat) (x : Ch) (w : World) (sl : Sl w w.heap.size 1 A n (x.gs.flatMap intC)) (hn : n ≤ 1048576) (hlz : x.l.size ≤ 1048576) (hs : x.cs.size ≤ 1048576) (dark : Int) :
    Calls Try.prog 18 #[stV s, chV x.k A n c x.l x.cs x.p, .int .i64 dark] w fun e w' => e = .returned (.tuple #[.int .i64 (autV s x dark), .int .i64 (dayK s x dark)]) ∧ Below w.heap.size w w' := by
  obtain ⟨hSt, hCh, hb0⟩ := two_box (s := s) (c := c) 35 28 sl hn hlz hs
  cases hst : stB s
  · have ho : okSC s x = false := by rw [okSC, hst]; rfl
    have Ho := Lib.hid ho; clear ho
    go_enter Try.func18, Try.ntmps18
    go_wp2_with fail
    generalize (w.alloc (.cells #[.int .i64 s.la, .int .i64 s.sb, .int .i64 s.ba, .int .i64 s.pa, .int .i64 s.sh] 35)).alloc (.cells #[.int .i64 x.k, .slice A n c, .string x.l, .string x.cs, .int .i64 x.p] 28) = w0 at *
    obtain ⟨a0, a1, a2, a3, a4, hbs⟩ := hSt
    have hSt : StP w0 w.heap.size s := ⟨a0, a1, a2, a3, a4, hbs⟩
    refine (l19Ok_c _ s _ hSt).mono ?_
    rintro e w9 ⟨rfl, rfl⟩
    go_wp2_with (first | (go_at_call 41; refine (l19Ok_c _ s _ hSt).mono ?_; rintro e w9 ⟨rfl, rfl⟩) | (go_at_call 35; refine (l05Ok_c _ _ _ _ _ x _ hCh).mono ?_; rintro e w1 ⟨rfl, hb1⟩; have hSt1 := hSt.next hb1; have hCh1 := hCh.next hb1; have q1 := keepC hb1 w.heap.size hSt.hb) | (go_at_call 42; refine (l19Dark_c _ _).mono ?_; rintro e w9 ⟨rfl, rfl⟩) | (go_at_call 47; refine (l00In_c _ _ _ _).mono ?_; rintro e w9 ⟨rfl, rfl⟩))
    go_ret2
    exact ⟨by simp [autV, dayK, Ho.out], hb0⟩
  cases hv : validB x
  · have ho : okSC s x = false := by rw [okSC, hst, hv]; rfl
    have Ho := Lib.hid ho; clear ho
    go_enter Try.func18, Try.ntmps18
    go_wp2_with fail
    generalize (w.alloc (.cells #[.int .i64 s.la, .int .i64 s.sb, .int .i64 s.ba, .int .i64 s.pa, .int .i64 s.sh] 35)).alloc (.cells #[.int .i64 x.k, .slice A n c, .string x.l, .string x.cs, .int .i64 x.p] 28) = w0 at *
    obtain ⟨a0, a1, a2, a3, a4, hbs⟩ := hSt
    have hSt : StP w0 w.heap.size s := ⟨a0, a1, a2, a3, a4, hbs⟩
    refine (l19Ok_c _ s _ hSt).mono ?_
    rintro e w9 ⟨rfl, rfl⟩
    go_wp2_with (first | (go_at_call 41; refine (l19Ok_c _ s _ hSt).mono ?_; rintro e w9 ⟨rfl, rfl⟩) | (go_at_call 35; refine (l05Ok_c _ _ _ _ _ x _ hCh).mono ?_; rintro e w1 ⟨rfl, hb1⟩; have hSt1 := hSt.next hb1; have hCh1 := hCh.next hb1; have q1 := keepC hb1 w.heap.size hSt.hb) | (go_at_call 42; refine (l19Dark_c _ _).mono ?_; rintro e w9 ⟨rfl, rfl⟩) | (go_at_call 47; refine (l00In_c _ _ _ _).mono ?_; rintro e w9 ⟨rfl, rfl⟩))
    go_ret2
    exact ⟨by simp [autV, dayK, Ho.out], hb0.trans (hb1.mono hb0.size)⟩
  have ho : okSC s x = true := by rw [okSC, hst, hv]; rfl
  have Ho := Lib.hid ho; clear ho
  have hok := stB_ok hst
  obtain ⟨sh1, sh2⟩ := share_bd hv
  cases hdk : inB dark 0 1440
  · go_enter Try.func18, Try.ntmps18
    go_wp2_with fail
    generalize (w.alloc (.cells #[.int .i64 s.la, .int .i64 s.sb, .int .i64 s.ba, .int .i64 s.pa, .int .i64 s.sh] 35)).alloc (.cells #[.int .i64 x.k, .slice A n c, .string x.l, .string x.cs, .int .i64 x.p] 28) = w0 at *
    obtain ⟨a0, a1, a2, a3, a4, hbs⟩ := hSt
    have hSt : StP w0 w.heap.size s := ⟨a0, a1, a2, a3, a4, hbs⟩
    refine (l19Ok_c _ s _ hSt).mono ?_
    rintro e w9 ⟨rfl, rfl⟩
    go_wp2_with (first | (go_at_call 41; refine (l19Ok_c _ s _ hSt).mono ?_; rintro e w9 ⟨rfl, rfl⟩) | (go_at_call 35; refine (l05Ok_c _ _ _ _ _ x _ hCh).mono ?_; rintro e w1 ⟨rfl, hb1⟩; have hSt1 := hSt.next hb1; have hCh1 := hCh.next hb1; have q1 := keepC hb1 w.heap.size hSt.hb) | (go_at_call 42; refine (l19Dark_c _ _).mono ?_; rintro e w9 ⟨rfl, rfl⟩) | (go_at_call 47; refine (l00In_c _ _ _ _).mono ?_; rintro e w9 ⟨rfl, rfl⟩))
    go_ret2
    exact ⟨by simp [autV, dayK, Ho.out, hdk], hb0.trans (hb1.mono hb0.size)⟩
  obtain ⟨d1, d2⟩ := inB_iff.1 hdk
  have hub := (use_bd hok sh1 sh2 d1 d2).2.2
  obtain ⟨u1, u2⟩ := hub
  have hb11 := hok.b1
  go_enter Try.func18, Try.ntmps18
  go_wp2_with fail
  generalize (w.alloc (.cells #[.int .i64 s.la, .int .i64 s.sb, .int .i64 s.ba, .int .i64 s.pa, .int .i64 s.sh] 35)).alloc (.cells #[.int .i64 x.k, .slice A n c, .string x.l, .string x.cs, .int .i64 x.p] 28) = w0 at *
  obtain ⟨a0, a1, a2, a3, a4, hbs⟩ := hSt
  have hSt : StP w0 w.heap.size s := ⟨a0, a1, a2, a3, a4, hbs⟩
  refine (l19Ok_c _ s _ hSt).mono ?_
  rintro e w9 ⟨rfl, rfl⟩
  go_wp2_with (first | (go_at_call 41; refine (l19Ok_c _ s _ hSt).mono ?_; rintro e w9 ⟨rfl, rfl⟩) | (go_at_call 35; refine (l05Ok_c _ _ _ _ _ x _ hCh).mono ?_; rintro e w1 ⟨rfl, hb1⟩; have hSt1 := hSt.next hb1; have hCh1 := hCh.next hb1; have q1 := keepC hb1 w.heap.size hSt.hb) | (go_at_call 42; refine (l19Dark_c _ _).mono ?_; rintro e w9 ⟨rfl, rfl⟩) | (go_at_call 47; refine (l00In_c _ _ _ _).mono ?_; rintro e w9 ⟨rfl, rfl⟩))
  have hbs1 := hSt1.hb
  have e1 : ∀ {w' : World}, Below w1.heap.size w1 w' → (Below w1.heap.size w1 w' ∧ (∀ x, w'.cell? ⟨w.heap.size, x, none⟩ = w1.cell? ⟨w.heap.size, x, none⟩)) := fun hbb => ⟨hbb, keepC hbb _ hbs1⟩
  refine wp_region_held_drew (S := fun w' => Below w1.heap.size w1 w' ∧ (∀ x, w'.cell? ⟨w.heap.size, x, none⟩ = w1.cell? ⟨w.heap.size, x, none⟩)) (by kernel_rfl) (e1 (Below.refl _ _).drew) (fun hHeld => ?_)
  (first
    | (refine wpAnyH_take (i := 0) (v := ?_) rfl (by kernel_rfl) (by kernel_rfl) (by kernel_rfl) (fun _ _ _ h => h) (Or.inl ⟨by rfl, ?_⟩) (by assumption) ?_
       rotate_left
       focus (intro wq hSq; (try dsimp only at hSq); go_simp; (try (with_reducible rfl)); done))
    | (refine wpAnyH_take (i := 0) (v := undef) rfl (by kernel_rfl) (by kernel_rfl) (by kernel_rfl) (fun _ _ _ h => h) (Or.inr ⟨by rfl, rfl⟩) (by assumption) ?_)
    | fail "take 0")
  try simp only [Act.put, List.setIfInBounds_toArray, List.set_cons_zero, List.set_cons_succ, List.getElem_toArray, List.getElem_cons_zero]
  (first
    | (refine wpAnyH_take (i := 1) (v := ?_) rfl (by kernel_rfl) (by kernel_rfl) (by kernel_rfl) (fun _ _ _ h => h) (Or.inl ⟨by rfl, ?_⟩) (by assumption) ?_
       rotate_left
       focus (intro wq hSq; (try dsimp only at hSq); go_simp; (try (with_reducible rfl)); done))
    | (refine wpAnyH_take (i := 1) (v := undef) rfl (by kernel_rfl) (by kernel_rfl) (by kernel_rfl) (fun _ _ _ h => h) (Or.inr ⟨by rfl, rfl⟩) (by assumption) ?_)
    | fail "take 1")
  try simp only [Act.put, List.setIfInBounds_toArray, List.set_cons_zero, List.set_cons_succ, List.getElem_toArray, List.getElem_cons_zero, List.getElem_cons_succ]
  (first
    | (refine wpAnyH_take (i := 3) (v := ?_) rfl (by kernel_rfl) (by kernel_rfl) (by kernel_rfl) (fun _ _ _ h => h) (Or.inl ⟨by rfl, ?_⟩) (by assumption) ?_
       rotate_left
       focus (intro wq hSq; (try dsimp only at hSq); go_simp; (try (with_reducible rfl)); done))
    | (refine wpAnyH_take (i := 3) (v := undef) rfl (by kernel_rfl) (by kernel_rfl) (by kernel_rfl) (fun _ _ _ h => h) (Or.inr ⟨by rfl, rfl⟩) (by assumption) ?_)
    | fail "take 3")
  try simp only [Act.put, List.setIfInBounds_toArray, List.set_cons_zero, List.set_cons_succ, List.getElem_toArray, List.getElem_cons_zero, List.getElem_cons_succ]
  refine wpAnyH_ready (rs := [2]) (by kernel_rfl) (by simp) ?_
  refine AllReadyH.cons (o := _) rfl (fun K hK => ?_) AllReadyH.nil
  go_simp
  refine (l19Share_c _ _ _ _ _ x _ (hCh1.next (Below.refl _ _).drew) hv).mono ?_; rintro e w2 ⟨rfl, hb2⟩; have hb12 := (Below.refl w1.heap.size w1).drew.trans hb2
  refine hK.out _ _ ?_ (fun hHeld => ?_)
  · exact e1 hb12
  clear hK K
  try simp only [Act.put, List.setIfInBounds_toArray, List.set_cons_zero, List.set_cons_succ, List.getElem_toArray, List.getElem_cons_zero, List.getElem_cons_succ]
  refine wpAnyH_ready (rs := [4]) (by kernel_rfl) (by simp) ?_
  refine AllReadyH.cons (o := _) rfl (fun K hK => ?_) AllReadyH.nil
  go_simp
  refine (l19Use_c _ s _ dark _ (hSt1.next hb12) hok sh1 sh2 d1 d2).mono ?_; rintro e w3 ⟨rfl, n3, rfl⟩
  refine hK.out _ _ ?_ (fun hHeld => ?_)
  · exact e1 (below_drewN hb12 _)
  clear hK K
  try simp only [Act.put, List.setIfInBounds_toArray, List.set_cons_zero, List.set_cons_succ, List.getElem_toArray, List.getElem_cons_zero, List.getElem_cons_succ]
  have hu0 : ¬ useI s (shareI x) dark = 0 := by omega
  have hq0 : 0 ≤ s.ba / useI s (shareI x) dark := Int.ediv_nonneg (by omega) (by omega)
  have hq1 : s.ba / useI s (shareI x) dark ≤ s.ba := Int.ediv_le_self _ (by omega)
  have hba2 := hok.b2
  have hq : IntKind.i64.wrap (s.ba.tdiv (useI s (shareI x) dark)) = s.ba / useI s (shareI x) dark := by
    rw [Int.tdiv_eq_ediv_of_nonneg (by omega)]; exact IntWalk.i64_in _ (by omega)
  (first
    | (refine wpAnyH_take (i := 5) (v := ?_) rfl (by kernel_rfl) (by kernel_rfl) (by kernel_rfl) (fun _ _ _ h => h) (Or.inl ⟨by rfl, ?_⟩) (by assumption) ?_
       rotate_left
       focus (intro wq hSq; (try dsimp only at hSq); go_simp; (try (with_reducible rfl)); done))
    | (refine wpAnyH_take (i := 5) (v := undef) rfl (by kernel_rfl) (by kernel_rfl) (by kernel_rfl) (fun _ _ _ h => h) (Or.inr ⟨by rfl, rfl⟩) (by assumption) ?_)
    | fail "take 5")
  try simp only [Act.put, List.setIfInBounds_toArray, List.set_cons_zero, List.set_cons_succ, List.getElem_toArray, List.getElem_cons_zero, List.getElem_cons_succ]
  clear hq
  (first
    | (refine wpAnyH_take (i := 6) (v := ?_) rfl (by kernel_rfl) (by kernel_rfl) (by kernel_rfl) (fun _ _ _ h => h) (Or.inl ⟨by rfl, ?_⟩) (by assumption) ?_
       rotate_left
       focus (intro wq hSq; (try dsimp only at hSq); go_simp; (try (with_reducible rfl)); done))
    | (refine wpAnyH_take (i := 6) (v := undef) rfl (by kernel_rfl) (by kernel_rfl) (by kernel_rfl) (fun _ _ _ h => h) (Or.inr ⟨by rfl, rfl⟩) (by assumption) ?_)
    | fail "take 6")
  try simp only [Act.put, List.setIfInBounds_toArray, List.set_cons_zero, List.set_cons_succ, List.getElem_toArray, List.getElem_cons_zero, List.getElem_cons_succ]
  (first
    | (refine wpAnyH_take (i := 7) (v := ?_) rfl (by kernel_rfl) (by kernel_rfl) (by kernel_rfl) (fun _ _ _ h => h) (Or.inl ⟨by rfl, ?_⟩) (by assumption) ?_
       rotate_left
       focus (intro wq hSq; (try dsimp only at hSq); go_simp; (try (with_reducible rfl)); done))
    | (refine wpAnyH_take (i := 7) (v := undef) rfl (by kernel_rfl) (by kernel_rfl) (by kernel_rfl) (fun _ _ _ h => h) (Or.inr ⟨by rfl, rfl⟩) (by assumption) ?_)
    | fail "take 7")
  try simp only [Act.put, List.setIfInBounds_toArray, List.set_cons_zero, List.set_cons_succ, List.getElem_toArray, List.getElem_cons_zero, List.getElem_cons_succ]
  refine wpAnyH_done (by kernel_rfl) ?_ _
  go_wp2_with fail
  go_ret2
  refine ⟨?_, below_drewN (hb0.trans ((hb1.trans (hb12.mono hb1.size)).mono hb0.size)) _⟩
  simp [autV, dayK, Ho.out, hdk]
end Go.Proofs.Ytemcmabogikndaa
