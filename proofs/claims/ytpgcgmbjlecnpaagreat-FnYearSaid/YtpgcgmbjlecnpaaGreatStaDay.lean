/- Stations: DayUse, AutonomyOf, NextLevel. -/
import Derived.Test.YtpgcgmbjlecnpaaGreatStaUse
namespace Go.Proofs.YtpgcgmbjlecnpaaGreat
open Go.RowKit
def okSC (s : St) (x : Ch) : Bool := stB s && validB x
def dayK (s : St) (x : Ch) (dark : Int) : Int := bif okSC s x then (bif inB dark 0 1440 then 0 else 2) else 1
def dayV (s : St) (x : Ch) (dark : Int) : Int := bif okSC s x then (bif inB dark 0 1440 then useI s (shareI x) dark else 0) else 0
def autV (s : St) (x : Ch) (dark : Int) : Int := bif okSC s x then (bif inB dark 0 1440 then s.ba / useI s (shareI x) dark else 0) else 0
def nexK (s : St) (x : Ch) (level dark : Int) : Int := bif okSC s x then (bif inB dark 0 1440 && inB level 0 s.ba then 0 else 2) else 1
def nexV (s : St) (x : Ch) (level dark : Int) : Int := bif okSC s x then (bif inB dark 0 1440 && inB level 0 s.ba then max 0 (nextI s (shareI x) level dark) else 0) else 0
abbrev chO (x : Ch) (A : Option Addr) (n c : Nat) (E : TypeId) : Obj := .cells #[.int .i64 x.k, .slice A n c, .string x.l, .string x.cs, .int .i64 x.p] E
theorem two_box {w : World} {s : St} {x : Ch} {A : Option Addr} {n c : Nat} (E1 E2 : TypeId) (sl : Sl w w.heap.size 1 A n (x.gs.flatMap intC)) (hn : n ≤ 1048576) (hlz : x.l.size ≤ 1048576) (hs : x.cs.size ≤ 1048576) :
    StP ((w.alloc (stO s E1)).alloc (chO x A n c E2)) w.heap.size s ∧ ChP ((w.alloc (stO s E1)).alloc (chO x A n c E2)) (w.heap.size + 1) 0 A n c x ∧ Below w.heap.size w ((w.alloc (stO s E1)).alloc (chO x A n c E2)) := by
  have hb1 : Below w.heap.size w (w.alloc (stO s E1)) := by (repeat (first | (with_reducible assumption) | (with_reducible exact Below.refl _ _) | exact Nat.le_refl _ | exact Below.size (by with_reducible assumption) | (with_reducible refine Below.drew ?_) | (with_reducible refine below_drewN ?_ _) | (with_reducible refine Below.alloc ?_ ?_ _) | (with_reducible refine Below.setCell ?_ ?_ _) | (with_reducible refine le_alloc ?_ _) | (with_reducible refine le_set ?_ _ _) | (with_reducible refine le_drew ?_) | (with_reducible refine le_drewN ?_ _) | omega | (dsimp only; omega)))
  have hb2 : Below (w.alloc (stO s E1)).heap.size (w.alloc (stO s E1)) ((w.alloc (stO s E1)).alloc (chO x A n c E2)) := by (repeat (first | (with_reducible assumption) | (with_reducible exact Below.refl _ _) | exact Nat.le_refl _ | exact Below.size (by with_reducible assumption) | (with_reducible refine Below.drew ?_) | (with_reducible refine below_drewN ?_ _) | (with_reducible refine Below.alloc ?_ ?_ _) | (with_reducible refine Below.setCell ?_ ?_ _) | (with_reducible refine le_alloc ?_ _) | (with_reducible refine le_set ?_ _ _) | (with_reducible refine le_drew ?_) | (with_reducible refine le_drewN ?_ _) | omega | (dsimp only; omega)))
  refine ⟨(stp_box w s E1).next hb2, ?_, hb1.trans (hb2.mono hb1.size)⟩
  have := chp_box (c := c) E2 (sl.next hb1) hn hlz hs
  simpa using this
set_option maxRecDepth 100000 in
set_option maxHeartbeats 1000000 in
theorem specDay_c (s : St) (A : Option Addr) (n c : Nat) (x : Ch) (w : World) (sl : Sl w w.heap.size 1 A n (x.gs.flatMap intC)) (hn : n ≤ 1048576) (hlz : x.l.size ≤ 1048576) (hs : x.cs.size ≤ 1048576) (dark : Int) :
    Calls Tryz.prog 30 #[stV s, chV x.k A n c x.l x.cs x.p, .int .i64 dark] w fun e w' => e = .returned (.tuple #[.int .i64 (dayV s x dark), .int .i64 (dayK s x dark)]) ∧ Below w.heap.size w w' := by
  obtain ⟨hSt, hCh, hb0⟩ := two_box (s := s) (c := c) 29 31 sl hn hlz hs
  cases hst : stB s
  · have ho : okSC s x = false := by rw [okSC, hst]; rfl
    have Ho := Lib.hid ho; clear ho
    go_enter Tryz.func30, Tryz.ntmps30
    go_wp2_with fail
    generalize (w.alloc (.cells #[.int .i64 s.la, .int .i64 s.sb, .int .i64 s.ba, .int .i64 s.pa, .int .i64 s.sh] 29)).alloc (.cells #[.int .i64 x.k, .slice A n c, .string x.l, .string x.cs, .int .i64 x.p] 31) = w0 at *
    obtain ⟨a0, a1, a2, a3, a4, hbs⟩ := hSt
    have hSt : StP w0 w.heap.size s := ⟨a0, a1, a2, a3, a4, hbs⟩
    refine (l19Ok_c _ s _ hSt).mono ?_
    rintro e w9 ⟨rfl, rfl⟩
    go_wp2_with (first | (go_at_call 53; refine (l19Ok_c _ s _ hSt).mono ?_; rintro e w9 ⟨rfl, rfl⟩) | (go_at_call 54; refine (l05Ok_c _ _ _ _ _ x _ hCh).mono ?_; rintro e w1 ⟨rfl, hb1⟩; have hSt1 := hSt.next hb1; have hCh1 := hCh.next hb1; have q1 := keepC hb1 w.heap.size hSt.hb) | (go_at_call 55; refine (l19Dark_c _ _).mono ?_; rintro e w9 ⟨rfl, rfl⟩) | (go_at_call 58; refine (l00In_c _ _ _ _).mono ?_; rintro e w9 ⟨rfl, rfl⟩))
    go_ret2
    exact ⟨by simp [dayV, dayK, Ho.out], hb0⟩
  cases hv : validB x
  · have ho : okSC s x = false := by rw [okSC, hst, hv]; rfl
    have Ho := Lib.hid ho; clear ho
    go_enter Tryz.func30, Tryz.ntmps30
    go_wp2_with fail
    generalize (w.alloc (.cells #[.int .i64 s.la, .int .i64 s.sb, .int .i64 s.ba, .int .i64 s.pa, .int .i64 s.sh] 29)).alloc (.cells #[.int .i64 x.k, .slice A n c, .string x.l, .string x.cs, .int .i64 x.p] 31) = w0 at *
    obtain ⟨a0, a1, a2, a3, a4, hbs⟩ := hSt
    have hSt : StP w0 w.heap.size s := ⟨a0, a1, a2, a3, a4, hbs⟩
    refine (l19Ok_c _ s _ hSt).mono ?_
    rintro e w9 ⟨rfl, rfl⟩
    go_wp2_with (first | (go_at_call 53; refine (l19Ok_c _ s _ hSt).mono ?_; rintro e w9 ⟨rfl, rfl⟩) | (go_at_call 54; refine (l05Ok_c _ _ _ _ _ x _ hCh).mono ?_; rintro e w1 ⟨rfl, hb1⟩; have hSt1 := hSt.next hb1; have hCh1 := hCh.next hb1; have q1 := keepC hb1 w.heap.size hSt.hb) | (go_at_call 55; refine (l19Dark_c _ _).mono ?_; rintro e w9 ⟨rfl, rfl⟩) | (go_at_call 58; refine (l00In_c _ _ _ _).mono ?_; rintro e w9 ⟨rfl, rfl⟩))
    go_ret2
    exact ⟨by simp [dayV, dayK, Ho.out], hb0.trans (hb1.mono hb0.size)⟩
  have ho : okSC s x = true := by rw [okSC, hst, hv]; rfl
  have Ho := Lib.hid ho; clear ho
  have hok := stB_ok hst
  obtain ⟨sh1, sh2⟩ := share_bd hv
  cases hdk : inB dark 0 1440
  · go_enter Tryz.func30, Tryz.ntmps30
    go_wp2_with fail
    generalize (w.alloc (.cells #[.int .i64 s.la, .int .i64 s.sb, .int .i64 s.ba, .int .i64 s.pa, .int .i64 s.sh] 29)).alloc (.cells #[.int .i64 x.k, .slice A n c, .string x.l, .string x.cs, .int .i64 x.p] 31) = w0 at *
    obtain ⟨a0, a1, a2, a3, a4, hbs⟩ := hSt
    have hSt : StP w0 w.heap.size s := ⟨a0, a1, a2, a3, a4, hbs⟩
    refine (l19Ok_c _ s _ hSt).mono ?_
    rintro e w9 ⟨rfl, rfl⟩
    go_wp2_with (first | (go_at_call 53; refine (l19Ok_c _ s _ hSt).mono ?_; rintro e w9 ⟨rfl, rfl⟩) | (go_at_call 54; refine (l05Ok_c _ _ _ _ _ x _ hCh).mono ?_; rintro e w1 ⟨rfl, hb1⟩; have hSt1 := hSt.next hb1; have hCh1 := hCh.next hb1; have q1 := keepC hb1 w.heap.size hSt.hb) | (go_at_call 55; refine (l19Dark_c _ _).mono ?_; rintro e w9 ⟨rfl, rfl⟩) | (go_at_call 58; refine (l00In_c _ _ _ _).mono ?_; rintro e w9 ⟨rfl, rfl⟩))
    go_ret2
    exact ⟨by simp [dayV, dayK, Ho.out, hdk], hb0.trans (hb1.mono hb0.size)⟩
  obtain ⟨d1, d2⟩ := inB_iff.1 hdk
  go_enter Tryz.func30, Tryz.ntmps30
  go_wp2_with fail
  generalize (w.alloc (.cells #[.int .i64 s.la, .int .i64 s.sb, .int .i64 s.ba, .int .i64 s.pa, .int .i64 s.sh] 29)).alloc (.cells #[.int .i64 x.k, .slice A n c, .string x.l, .string x.cs, .int .i64 x.p] 31) = w0 at *
  obtain ⟨a0, a1, a2, a3, a4, hbs⟩ := hSt
  have hSt : StP w0 w.heap.size s := ⟨a0, a1, a2, a3, a4, hbs⟩
  refine (l19Ok_c _ s _ hSt).mono ?_
  rintro e w9 ⟨rfl, rfl⟩
  go_wp2_with (first | (go_at_call 53; refine (l19Ok_c _ s _ hSt).mono ?_; rintro e w9 ⟨rfl, rfl⟩) | (go_at_call 54; refine (l05Ok_c _ _ _ _ _ x _ hCh).mono ?_; rintro e w1 ⟨rfl, hb1⟩; have hSt1 := hSt.next hb1; have hCh1 := hCh.next hb1; have q1 := keepC hb1 w.heap.size hSt.hb) | (go_at_call 55; refine (l19Dark_c _ _).mono ?_; rintro e w9 ⟨rfl, rfl⟩) | (go_at_call 58; refine (l00In_c _ _ _ _).mono ?_; rintro e w9 ⟨rfl, rfl⟩))
  refine (l19Share_c _ _ _ _ _ x _ hCh1 hv).mono ?_
  rintro e w2 ⟨rfl, hb2⟩
  go_wp2_with fail
  refine (l19Use_c _ s _ dark _ (hSt1.next hb2) hok sh1 sh2 d1 d2).mono ?_
  rintro e w3 ⟨rfl, n3, rfl⟩
  go_wp2_with fail
  go_ret2
  exact ⟨by simp [dayV, dayK, Ho.out, hdk], below_drewN (hb0.trans ((hb1.trans (hb2.mono hb1.size)).mono hb0.size)) _⟩
end Go.Proofs.YtpgcgmbjlecnpaaGreat
