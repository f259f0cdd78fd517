/- Stations: what a light uses and gains. -/
import Derived.Test.YtpgcgmbjlecnpaaGreatChShare
namespace Go.Proofs.YtpgcgmbjlecnpaaGreat
open Go.RowKit
structure St where
  la : Int
  sb : Int
  ba : Int
  pa : Int
  sh : Int
abbrev stV (s : St) : Value := .agg #[.int .i64 s.la, .int .i64 s.sb, .int .i64 s.ba, .int .i64 s.pa, .int .i64 s.sh]
abbrev stO (s : St) (E : TypeId) : Obj := .cells #[.int .i64 s.la, .int .i64 s.sb, .int .i64 s.ba, .int .i64 s.pa, .int .i64 s.sh] E
def stB (s : St) : Bool := inB s.la 1 1000000 && (inB s.sb 1 10000 && (inB s.ba 1 100000000 && (inB s.pa 0 1000000 && inB s.sh 0 1000)))
structure StP (w : World) (b : Nat) (s : St) : Prop where
  c0 : w.cell? ⟨b, 0, none⟩ = some (.int .i64 s.la)
  c1 : w.cell? ⟨b, 1, none⟩ = some (.int .i64 s.sb)
  c2 : w.cell? ⟨b, 2, none⟩ = some (.int .i64 s.ba)
  c3 : w.cell? ⟨b, 3, none⟩ = some (.int .i64 s.pa)
  c4 : w.cell? ⟨b, 4, none⟩ = some (.int .i64 s.sh)
  hb : b < w.heap.size
theorem StP.next {w w' : World} {b : Nat} {s : St} (h : StP w b s) (hb : Below w.heap.size w w') : StP w' b s :=
  ⟨(keepC hb b h.hb _).trans h.c0, (keepC hb b h.hb _).trans h.c1, (keepC hb b h.hb _).trans h.c2, (keepC hb b h.hb _).trans h.c3, (keepC hb b h.hb _).trans h.c4, Nat.lt_of_lt_of_le h.hb hb.size⟩
theorem stp_box (w : World) (s : St) (E : TypeId) : StP (w.alloc (stO s E)) w.heap.size s := by
  have hb : (w.alloc (stO s E)).heap[w.heap.size]? = some (.cells #[.int .i64 s.la, .int .i64 s.sb, .int .i64 s.ba, .int .i64 s.pa, .int .i64 s.sh] E (0, 0)) := heap_alloc_new w _
  refine ⟨?_, ?_, ?_, ?_, ?_, by simp⟩
  all_goals
    rw [cell_of_row _ w.heap.size _ _ E (0, 0) hb]
    rfl
def useI (s : St) (share dark : Int) : Int := rdiv (rdiv (s.la * share) 1000 * dark) 60000 + 24 * s.sb
def gainI (s : St) (dark : Int) : Int := rdiv (s.pa * s.sh * (1440 - dark)) 60000
def nextI (s : St) (share level dark : Int) : Int := min s.ba (level + gainI s dark - useI s share dark)
theorem mul_le2 {a b A B : Int} (h0 : 0 ≤ a) (h1 : a ≤ A) (h2 : 0 ≤ b) (h3 : b ≤ B) : 0 ≤ a * b ∧ a * b ≤ A * B :=
  ⟨Int.mul_nonneg h0 h2, Int.mul_le_mul h1 h3 h2 (by omega)⟩
structure StOk (s : St) : Prop where
  l1 : 1 ≤ s.la
  l2 : s.la ≤ 1000000
  s1 : 1 ≤ s.sb
  s2 : s.sb ≤ 10000
  b1 : 1 ≤ s.ba
  b2 : s.ba ≤ 100000000
  p1 : 0 ≤ s.pa
  p2 : s.pa ≤ 1000000
  h1 : 0 ≤ s.sh
  h2 : s.sh ≤ 1000
theorem stB_ok {s : St} (h : stB s = true) : StOk s := by
  simp only [stB, Bool.and_eq_true, inB_iff] at h
  obtain ⟨⟨a, b⟩, ⟨c, d⟩, ⟨e, f⟩, ⟨g, i⟩, ⟨j, k⟩⟩ := h
  exact ⟨a, b, c, d, e, f, g, i, j, k⟩
theorem use_bd {s : St} (h : StOk s) {share dark : Int} (s1 : 0 ≤ share) (s2 : share ≤ 1000000) (d1 : 0 ≤ dark) (d2 : dark ≤ 1440) :
    (0 ≤ s.la * share ∧ s.la * share ≤ 1000000000000) ∧ (0 ≤ rdiv (s.la * share) 1000 * dark ∧ rdiv (s.la * share) 1000 * dark ≤ 1440000000000000) ∧ (24 ≤ useI s share dark ∧ useI s share dark ≤ 2000000000000000) := by
  have a1 := mul_le2 (by have := h.l1; omega) h.l2 s1 s2
  have a2 := rdiv_bd a1.1 (show (0 : Int) < 1000 by decide)
  have a3 := mul_le2 a2.1 (show _ ≤ (1000000000000 : Int) by omega) d1 d2
  have a4 := rdiv_bd a3.1 (show (0 : Int) < 60000 by decide)
  have b1 := h.s1
  have b2 := h.s2
  refine ⟨by omega, by omega, ?_⟩
  unfold useI; omega
theorem gain_bd {s : St} (h : StOk s) {dark : Int} (d1 : 0 ≤ dark) (d2 : dark ≤ 1440) :
    (0 ≤ s.pa * s.sh ∧ s.pa * s.sh ≤ 1000000000) ∧ (0 ≤ s.pa * s.sh * (1440 - dark) ∧ s.pa * s.sh * (1440 - dark) ≤ 1440000000000) ∧ (0 ≤ gainI s dark ∧ gainI s dark ≤ 1440000000000) := by
  have a1 := mul_le2 h.p1 h.p2 h.h1 h.h2
  have a3 := mul_le2 a1.1 (show _ ≤ (1000000000 : Int) by omega) (show 0 ≤ 1440 - dark by omega) (show 1440 - dark ≤ 1440 by omega)
  have a4 := rdiv_bd a3.1 (show (0 : Int) < 60000 by decide)
  refine ⟨by omega, by omega, ?_⟩
  unfold gainI; omega
set_option maxRecDepth 100000 in
set_option maxHeartbeats 1000000 in
theorem l19Ok_c (b : Nat) (s : St) (w : World) (h : StP w b s) :
    Calls Tryz.prog 53 #[.pointer (some ⟨b, 0, none⟩)] w fun e w' => e = .returned (.bool (stB s)) ∧ w = w' := by
  obtain ⟨c0, c1, c2, c3, c4, hb⟩ := h
  cases h1 : inB s.la 1 1000000
  · go_enter Tryz.func53, Tryz.ntmps53
    go_wp2_with (go_at_call 58; refine (l00In_c _ _ _ _).mono ?_; rintro e w1 ⟨rfl, rfl⟩)
    go_ret
    exact ⟨ret_eq (bool_eq (by simp [stB, *])), rfl⟩
  cases h2 : inB s.sb 1 10000
  · go_enter Tryz.func53, Tryz.ntmps53
    go_wp2_with (go_at_call 58; refine (l00In_c _ _ _ _).mono ?_; rintro e w1 ⟨rfl, rfl⟩)
    go_ret
    exact ⟨ret_eq (bool_eq (by simp [stB, *])), rfl⟩
  cases h3 : inB s.ba 1 100000000
  · go_enter Tryz.func53, Tryz.ntmps53
    go_wp2_with (go_at_call 58; refine (l00In_c _ _ _ _).mono ?_; rintro e w1 ⟨rfl, rfl⟩)
    go_ret
    exact ⟨ret_eq (bool_eq (by simp [stB, *])), rfl⟩
  cases h4 : inB s.pa 0 1000000
  · go_enter Tryz.func53, Tryz.ntmps53
    go_wp2_with (go_at_call 58; refine (l00In_c _ _ _ _).mono ?_; rintro e w1 ⟨rfl, rfl⟩)
    go_ret
    exact ⟨ret_eq (bool_eq (by simp [stB, *])), rfl⟩
  go_enter Tryz.func53, Tryz.ntmps53
  go_wp2_with (go_at_call 58; refine (l00In_c _ _ _ _).mono ?_; rintro e w1 ⟨rfl, rfl⟩)
  go_ret
  exact ⟨ret_eq (bool_eq (by simp [stB, *])), rfl⟩
set_option maxRecDepth 100000 in
set_option maxHeartbeats 1000000 in
theorem validStation_c (s : St) (w : World) :
    Calls Tryz.prog 63 #[stV s] w fun e w' => e = .returned (.bool (stB s)) ∧ Below w.heap.size w w' := by
  cases h1 : inB s.la 1 1000000
  · go_enter Tryz.func63, Tryz.ntmps63
    go_wp2_with (go_at_call 88; refine (within_c _ _ _ _).mono ?_; rintro e w1 ⟨rfl, rfl⟩)
    go_ret
    exact ⟨ret_eq (bool_eq (by simp [stB, *])), by (repeat (first | (with_reducible assumption) | (with_reducible exact Below.refl _ _) | exact Nat.le_refl _ | exact Below.size (by with_reducible assumption) | (with_reducible refine Below.drew ?_) | (with_reducible refine below_drewN ?_ _) | (with_reducible refine Below.alloc ?_ ?_ _) | (with_reducible refine Below.setCell ?_ ?_ _) | (with_reducible refine le_alloc ?_ _) | (with_reducible refine le_set ?_ _ _) | (with_reducible refine le_drew ?_) | (with_reducible refine le_drewN ?_ _) | omega | (dsimp only; omega)))⟩
  cases h2 : inB s.sb 1 10000
  · go_enter Tryz.func63, Tryz.ntmps63
    go_wp2_with (go_at_call 88; refine (within_c _ _ _ _).mono ?_; rintro e w1 ⟨rfl, rfl⟩)
    go_ret
    exact ⟨ret_eq (bool_eq (by simp [stB, *])), by (repeat (first | (with_reducible assumption) | (with_reducible exact Below.refl _ _) | exact Nat.le_refl _ | exact Below.size (by with_reducible assumption) | (with_reducible refine Below.drew ?_) | (with_reducible refine below_drewN ?_ _) | (with_reducible refine Below.alloc ?_ ?_ _) | (with_reducible refine Below.setCell ?_ ?_ _) | (with_reducible refine le_alloc ?_ _) | (with_reducible refine le_set ?_ _ _) | (with_reducible refine le_drew ?_) | (with_reducible refine le_drewN ?_ _) | omega | (dsimp only; omega)))⟩
  cases h3 : inB s.ba 1 100000000
  · go_enter Tryz.func63, Tryz.ntmps63
    go_wp2_with (go_at_call 88; refine (within_c _ _ _ _).mono ?_; rintro e w1 ⟨rfl, rfl⟩)
    go_ret
    exact ⟨ret_eq (bool_eq (by simp [stB, *])), by (repeat (first | (with_reducible assumption) | (with_reducible exact Below.refl _ _) | exact Nat.le_refl _ | exact Below.size (by with_reducible assumption) | (with_reducible refine Below.drew ?_) | (with_reducible refine below_drewN ?_ _) | (with_reducible refine Below.alloc ?_ ?_ _) | (with_reducible refine Below.setCell ?_ ?_ _) | (with_reducible refine le_alloc ?_ _) | (with_reducible refine le_set ?_ _ _) | (with_reducible refine le_drew ?_) | (with_reducible refine le_drewN ?_ _) | omega | (dsimp only; omega)))⟩
  cases h4 : inB s.pa 0 1000000
  · go_enter Tryz.func63, Tryz.ntmps63
    go_wp2_with (go_at_call 88; refine (within_c _ _ _ _).mono ?_; rintro e w1 ⟨rfl, rfl⟩)
    go_ret
    exact ⟨ret_eq (bool_eq (by simp [stB, *])), by (repeat (first | (with_reducible assumption) | (with_reducible exact Below.refl _ _) | exact Nat.le_refl _ | exact Below.size (by with_reducible assumption) | (with_reducible refine Below.drew ?_) | (with_reducible refine below_drewN ?_ _) | (with_reducible refine Below.alloc ?_ ?_ _) | (with_reducible refine Below.setCell ?_ ?_ _) | (with_reducible refine le_alloc ?_ _) | (with_reducible refine le_set ?_ _ _) | (with_reducible refine le_drew ?_) | (with_reducible refine le_drewN ?_ _) | omega | (dsimp only; omega)))⟩
  go_enter Tryz.func63, Tryz.ntmps63
  go_wp2_with (go_at_call 88; refine (within_c _ _ _ _).mono ?_; rintro e w1 ⟨rfl, rfl⟩)
  go_ret
  exact ⟨ret_eq (bool_eq (by simp [stB, *])), by (repeat (first | (with_reducible assumption) | (with_reducible exact Below.refl _ _) | exact Nat.le_refl _ | exact Below.size (by with_reducible assumption) | (with_reducible refine Below.drew ?_) | (with_reducible refine below_drewN ?_ _) | (with_reducible refine Below.alloc ?_ ?_ _) | (with_reducible refine Below.setCell ?_ ?_ _) | (with_reducible refine le_alloc ?_ _) | (with_reducible refine le_set ?_ _ _) | (with_reducible refine le_drew ?_) | (with_reducible refine le_drewN ?_ _) | omega | (dsimp only; omega)))⟩
set_option maxHeartbeats 400000 in
theorem l19Dark_c (n : Int) (w : World) : Calls Tryz.prog 55 #[.int .i64 n] w fun e w' => e = .returned (.bool (inB n 0 1440)) ∧ w = w' := by
  go_enter Tryz.func55, Tryz.ntmps55
  go_wp2_with (go_at_call 58; refine (l00In_c _ _ _ _).mono ?_; rintro e w1 ⟨rfl, rfl⟩)
  go_ret
  exact ⟨rfl, rfl⟩
theorem l01Div_q (a b : Int) (w : World) (k : Nat) (ha : 0 ≤ a) (ha1 : a ≤ 1000000000000000000) (hb : 0 < b) (hb1 : b ≤ 1000000000000) :
    Calls Tryz.prog 61 #[.int .i64 a, .int .i64 b] (w.drewN k) fun e w' => e = .returned (.int .i64 (rdiv a b)) ∧ w.drewN k = w' := l01Div_c a b _ ha ha1 hb hb1
theorem divRound_q (a b : Int) (w : World) (k : Nat) (ha : 0 ≤ a) (ha1 : a ≤ 1000000000000000000) (hb : 0 < b) (hb1 : b ≤ 1000000000000) :
    Calls Tryz.prog 68 #[.int .i64 a, .int .i64 b] (w.drewN k) fun e w' => e = .returned (.int .i64 (rdiv a b)) ∧ w.drewN k = w' := divRound_c a b _ ha ha1 hb hb1
set_option maxRecDepth 100000 in
set_option maxHeartbeats 1000000 in
theorem l19Use_c (b : Nat) (s : St) (share dark : Int) (w : World) (h : StP w b s) (ok : StOk s) (s1 : 0 ≤ share) (s2 : share ≤ 1000000) (d1 : 0 ≤ dark) (d2 : dark ≤ 1440) :
    Calls Tryz.prog 56 #[.pointer (some ⟨b, 0, none⟩), .int .i64 share, .int .i64 dark] w fun e w' => e = .returned (.int .i64 (useI s share dark)) ∧ ∃ n, w' = w.drewN n := by
  obtain ⟨⟨u1, u2⟩, ⟨u3, u4⟩, ⟨u5, u6⟩⟩ := use_bd ok s1 s2 d1 d2
  obtain ⟨c0, c1, c2, c3, c4, hb⟩ := h
  have b1 := ok.s1
  have b2 := ok.s2
  unfold useI at u5 u6
  have w1 : IntKind.i64.wrap (s.la * share) = s.la * share := IntWalk.i64_in _ (by omega)
  have w2 : IntKind.i64.wrap (rdiv (s.la * share) 1000 * dark) = rdiv (s.la * share) 1000 * dark := IntWalk.i64_in _ (by omega)
  have w3 : IntKind.i64.wrap (24 * s.sb) = 24 * s.sb := IntWalk.i64_in _ (by omega)
  have w4 : IntKind.i64.wrap (rdiv (rdiv (s.la * share) 1000 * dark) 60000 + 24 * s.sb) = rdiv (rdiv (s.la * share) 1000 * dark) 60000 + 24 * s.sb := IntWalk.i64_in _ (by omega)
  go_enter Tryz.func56, Tryz.ntmps56
  go_wp2
  go_quiet ((go_at_call 61; exact quiet_c (l01Div_q _ _ _ _ (by assumption) (by omega) (by omega) (by omega))))
  go_wp2
  go_ret
  exact ⟨rfl, _, rfl⟩
set_option maxRecDepth 100000 in
set_option maxHeartbeats 1000000 in
theorem use_c (s : St) (share dark : Int) (w : World) (ok : StOk s) (s1 : 0 ≤ share) (s2 : share ≤ 1000000) (d1 : 0 ≤ dark) (d2 : dark ≤ 1440) :
    Calls Tryz.prog 73 #[stV s, .int .i64 share, .int .i64 dark] w fun e w' => e = .returned (.int .i64 (useI s share dark)) ∧ Below w.heap.size w w' := by
  obtain ⟨⟨u1, u2⟩, ⟨u3, u4⟩, ⟨u5, u6⟩⟩ := use_bd ok s1 s2 d1 d2
  have b1 := ok.s1
  have b2 := ok.s2
  unfold useI at u5 u6
  have w1 : IntKind.i64.wrap (s.la * share) = s.la * share := IntWalk.i64_in _ (by omega)
  have w2 : IntKind.i64.wrap (rdiv (s.la * share) 1000 * dark) = rdiv (s.la * share) 1000 * dark := IntWalk.i64_in _ (by omega)
  have w3 : IntKind.i64.wrap (24 * s.sb) = 24 * s.sb := IntWalk.i64_in _ (by omega)
  have w4 : IntKind.i64.wrap (rdiv (rdiv (s.la * share) 1000 * dark) 60000 + 24 * s.sb) = rdiv (rdiv (s.la * share) 1000 * dark) 60000 + 24 * s.sb := IntWalk.i64_in _ (by omega)
  go_enter Tryz.func73, Tryz.ntmps73
  go_wp2
  go_quiet ((go_at_call 68; exact quiet_c (divRound_q _ _ _ _ (by assumption) (by omega) (by omega) (by omega))))
  go_wp2
  go_ret
  exact ⟨rfl, by (repeat (first | (with_reducible assumption) | (with_reducible exact Below.refl _ _) | exact Nat.le_refl _ | exact Below.size (by with_reducible assumption) | (with_reducible refine Below.drew ?_) | (with_reducible refine below_drewN ?_ _) | (with_reducible refine Below.alloc ?_ ?_ _) | (with_reducible refine Below.setCell ?_ ?_ _) | (with_reducible refine le_alloc ?_ _) | (with_reducible refine le_set ?_ _ _) | (with_reducible refine le_drew ?_) | (with_reducible refine le_drewN ?_ _) | omega | (dsimp only; omega)))⟩
end Go.Proofs.YtpgcgmbjlecnpaaGreat
