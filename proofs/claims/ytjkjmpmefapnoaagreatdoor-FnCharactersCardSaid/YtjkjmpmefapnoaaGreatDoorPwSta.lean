/- PwSta: several of my texts in one. -/
import Derived.Test.YtjkjmpmefapnoaaGreatDoorChShare
import Derived.Test.YtjkjmpmefapnoaaGreatDoorChecked
import Derived.Test.YtjkjmpmefapnoaaGreatDoorBase
import Derived.Test.YtjkjmpmefapnoaaGreatDoorPwNum
import Derived.Test.YtjkjmpmefapnoaaGreatDoorBase2

/- Stations: what a light uses and gains. -/
namespace Go.Proofs.YtjkjmpmefapnoaaGreatDoor
open Go.RowKit
structure St where
  la : Int
  sb : Int
  ba : Int
  pa : Int
  sh : Int
abbrev stV (s : St) : Value := .agg #[.int .i64 s.la, .int .i64 s.sb, .int .i64 s.ba, .int .i64 s.pa, .int .i64 s.sh]
abbrev stO (s : St) (E : TypeId) : Obj := .cells #[.int .i64 s.la, .int .i64 s.sb, .int .i64 s.ba, .int .i64 s.pa, .int .i64 s.sh] E
def stB (s : St) : Bool := inB s.la 1 1000000 && (inB s.sb 1 10000 && (inB s.ba 1 100000000 && (inB s.pa 0 1000000 && inB s.sh 0 1000)))
structure StP (w : World) (b : Nat) (s : St) : Prop where
  c0 : w.cell? ⟨b, 0, none⟩ = some (.int .i64 s.la)
  c1 : w.cell? ⟨b, 1, none⟩ = some (.int .i64 s.sb)
  c2 : w.cell? ⟨b, 2, none⟩ = some (.int .i64 s.ba)
  c3 : w.cell? ⟨b, 3, none⟩ = some (.int .i64 s.pa)
  c4 : w.cell? ⟨b, 4, none⟩ = some (.int .i64 s.sh)
  hb : b < w.heap.size
theorem StP.next {w w' : World} {b : Nat} {s : St} (h : StP w b s) (hb : Below w.heap.size w w') : StP w' b s :=
  ⟨(keepC hb b h.hb _).trans h.c0, (keepC hb b h.hb _).trans h.c1, (keepC hb b h.hb _).trans h.c2, (keepC hb b h.hb _).trans h.c3, (keepC hb b h.hb _).trans h.c4, Nat.lt_of_lt_of_le h.hb hb.size⟩
theorem stp_box (w : World) (s : St) (E : TypeId) : StP (w.alloc (stO s E)) w.heap.size s := by
  have hb : (w.alloc (stO s E)).heap[w.heap.size]? = some (.cells #[.int .i64 s.la, .int .i64 s.sb, .int .i64 s.ba, .int .i64 s.pa, .int .i64 s.sh] E (0, 0)) := heap_alloc_new w _
  refine ⟨?_, ?_, ?_, ?_, ?_, by simp⟩
  all_goals
    rw [cell_of_row _ w.heap.size _ _ E (0, 0) hb]
    rfl
def useI (s : St) (share dark : Int) : Int := rdiv (rdiv (s.la * share) 1000 * dark) 60000 + 24 * s.sb
def gainI (s : St) (dark : Int) : Int := rdiv (s.pa * s.sh * (1440 - dark)) 60000
def nextI (s : St) (share level dark : Int) : Int := min s.ba (level + gainI s dark - useI s share dark)
theorem mul_le2 {a b A B : Int} (h0 : 0 ≤ a) (h1 : a ≤ A) (h2 : 0 ≤ b) (h3 : b ≤ B) : 0 ≤ a * b ∧ a * b ≤ A * B :=
  ⟨Int.mul_nonneg h0 h2, Int.mul_le_mul h1 h3 h2 (by omega)⟩
structure StOk (s : St) : Prop where
  l1 : 1 ≤ s.la
  l2 : s.la ≤ 1000000
  s1 : 1 ≤ s.sb
  s2 : s.sb ≤ 10000
  b1 : 1 ≤ s.ba
  b2 : s.ba ≤ 100000000
  p1 : 0 ≤ s.pa
  p2 : s.pa ≤ 1000000
  h1 : 0 ≤ s.sh
  h2 : s.sh ≤ 1000
theorem stB_ok {s : St} (h : stB s = true) : StOk s := by
  simp only [stB, Bool.and_eq_true, inB_iff] at h
  obtain ⟨⟨a, b⟩, ⟨c, d⟩, ⟨e, f⟩, ⟨g, i⟩, ⟨j, k⟩⟩ := h
  exact ⟨a, b, c, d, e, f, g, i, j, k⟩
theorem use_bd {s : St} (h : StOk s) {share dark : Int} (s1 : 0 ≤ share) (s2 : share ≤ 1000000) (d1 : 0 ≤ dark) (d2 : dark ≤ 1440) :
    (0 ≤ s.la * share ∧ s.la * share ≤ 1000000000000) ∧ (0 ≤ rdiv (s.la * share) 1000 * dark ∧ rdiv (s.la * share) 1000 * dark ≤ 1440000000000000) ∧ (24 ≤ useI s share dark ∧ useI s share dark ≤ 2000000000000000) := by
  have a1 := mul_le2 (by have := h.l1; omega) h.l2 s1 s2
  have a2 := rdiv_bd a1.1 (show (0 : Int) < 1000 by decide)
  have a3 := mul_le2 a2.1 (show _ ≤ (1000000000000 : Int) by omega) d1 d2
  have a4 := rdiv_bd a3.1 (show (0 : Int) < 60000 by decide)
  have b1 := h.s1
  have b2 := h.s2
  refine ⟨by omega, by omega, ?_⟩
  unfold useI; omega
theorem gain_bd {s : St} (h : StOk s) {dark : Int} (d1 : 0 ≤ dark) (d2 : dark ≤ 1440) :
    (0 ≤ s.pa * s.sh ∧ s.pa * s.sh ≤ 1000000000) ∧ (0 ≤ s.pa * s.sh * (1440 - dark) ∧ s.pa * s.sh * (1440 - dark) ≤ 1440000000000) ∧ (0 ≤ gainI s dark ∧ gainI s dark ≤ 1440000000000) := by
  have a1 := mul_le2 h.p1 h.p2 h.h1 h.h2
  have a3 := mul_le2 a1.1 (show _ ≤ (1000000000 : Int) by omega) (show 0 ≤ 1440 - dark by omega) (show 1440 - dark ≤ 1440 by omega)
  have a4 := rdiv_bd a3.1 (show (0 : Int) < 60000 by decide)
  refine ⟨by omega, by omega, ?_⟩
  unfold gainI; omega
set_option maxRecDepth 100000 in
set_option maxHeartbeats 1000000 in
theorem validStation_c (s : St) (w : World) :
    Calls Tryz.prog 27 #[stV s] w fun e w' => e = .returned (.bool (stB s)) ∧ Below w.heap.size w w' := by
  cases h1 : inB s.la 1 1000000
  · go_enter Tryz.func27, Tryz.ntmps27
    go_wp2_with (go_at_call 33; refine (within_c _ _ _ _).mono ?_; rintro e w1 ⟨rfl, rfl⟩)
    go_ret
    exact ⟨ret_eq (bool_eq (by simp [stB, *])), by (repeat (first | (with_reducible assumption) | (with_reducible exact Below.refl _ _) | exact Nat.le_refl _ | exact Below.size (by with_reducible assumption) | (with_reducible refine Below.drew ?_) | (with_reducible refine below_drewN ?_ _) | (with_reducible refine Below.alloc ?_ ?_ _) | (with_reducible refine Below.setCell ?_ ?_ _) | (with_reducible refine le_alloc ?_ _) | (with_reducible refine le_set ?_ _ _) | (with_reducible refine le_drew ?_) | (with_reducible refine le_drewN ?_ _) | omega | (dsimp only; omega)))⟩
  cases h2 : inB s.sb 1 10000
  · go_enter Tryz.func27, Tryz.ntmps27
    go_wp2_with (go_at_call 33; refine (within_c _ _ _ _).mono ?_; rintro e w1 ⟨rfl, rfl⟩)
    go_ret
    exact ⟨ret_eq (bool_eq (by simp [stB, *])), by (repeat (first | (with_reducible assumption) | (with_reducible exact Below.refl _ _) | exact Nat.le_refl _ | exact Below.size (by with_reducible assumption) | (with_reducible refine Below.drew ?_) | (with_reducible refine below_drewN ?_ _) | (with_reducible refine Below.alloc ?_ ?_ _) | (with_reducible refine Below.setCell ?_ ?_ _) | (with_reducible refine le_alloc ?_ _) | (with_reducible refine le_set ?_ _ _) | (with_reducible refine le_drew ?_) | (with_reducible refine le_drewN ?_ _) | omega | (dsimp only; omega)))⟩
  cases h3 : inB s.ba 1 100000000
  · go_enter Tryz.func27, Tryz.ntmps27
    go_wp2_with (go_at_call 33; refine (within_c _ _ _ _).mono ?_; rintro e w1 ⟨rfl, rfl⟩)
    go_ret
    exact ⟨ret_eq (bool_eq (by simp [stB, *])), by (repeat (first | (with_reducible assumption) | (with_reducible exact Below.refl _ _) | exact Nat.le_refl _ | exact Below.size (by with_reducible assumption) | (with_reducible refine Below.drew ?_) | (with_reducible refine below_drewN ?_ _) | (with_reducible refine Below.alloc ?_ ?_ _) | (with_reducible refine Below.setCell ?_ ?_ _) | (with_reducible refine le_alloc ?_ _) | (with_reducible refine le_set ?_ _ _) | (with_reducible refine le_drew ?_) | (with_reducible refine le_drewN ?_ _) | omega | (dsimp only; omega)))⟩
  cases h4 : inB s.pa 0 1000000
  · go_enter Tryz.func27, Tryz.ntmps27
    go_wp2_with (go_at_call 33; refine (within_c _ _ _ _).mono ?_; rintro e w1 ⟨rfl, rfl⟩)
    go_ret
    exact ⟨ret_eq (bool_eq (by simp [stB, *])), by (repeat (first | (with_reducible assumption) | (with_reducible exact Below.refl _ _) | exact Nat.le_refl _ | exact Below.size (by with_reducible assumption) | (with_reducible refine Below.drew ?_) | (with_reducible refine below_drewN ?_ _) | (with_reducible refine Below.alloc ?_ ?_ _) | (with_reducible refine Below.setCell ?_ ?_ _) | (with_reducible refine le_alloc ?_ _) | (with_reducible refine le_set ?_ _ _) | (with_reducible refine le_drew ?_) | (with_reducible refine le_drewN ?_ _) | omega | (dsimp only; omega)))⟩
  go_enter Tryz.func27, Tryz.ntmps27
  go_wp2_with (go_at_call 33; refine (within_c _ _ _ _).mono ?_; rintro e w1 ⟨rfl, rfl⟩)
  go_ret
  exact ⟨ret_eq (bool_eq (by simp [stB, *])), by (repeat (first | (with_reducible assumption) | (with_reducible exact Below.refl _ _) | exact Nat.le_refl _ | exact Below.size (by with_reducible assumption) | (with_reducible refine Below.drew ?_) | (with_reducible refine below_drewN ?_ _) | (with_reducible refine Below.alloc ?_ ?_ _) | (with_reducible refine Below.setCell ?_ ?_ _) | (with_reducible refine le_alloc ?_ _) | (with_reducible refine le_set ?_ _ _) | (with_reducible refine le_drew ?_) | (with_reducible refine le_drewN ?_ _) | omega | (dsimp only; omega)))⟩
set_option maxHeartbeats 400000 in
theorem isDark_c (n : Int) (w : World) : Calls Tryz.prog 29 #[.int .i64 n] w fun e w' => e = .returned (.bool (inB n 0 1440)) ∧ w = w' := by
  go_enter Tryz.func29, Tryz.ntmps29
  go_wp2_with (go_at_call 33; refine (within_c _ _ _ _).mono ?_; rintro e w1 ⟨rfl, rfl⟩)
  go_ret
  exact ⟨rfl, rfl⟩
theorem divRound_q (a b : Int) (w : World) (k : Nat) (ha : 0 ≤ a) (ha1 : a ≤ 1000000000000000000) (hb : 0 < b) (hb1 : b ≤ 1000000000000) :
    Calls Tryz.prog 60 #[.int .i64 a, .int .i64 b] (w.drewN k) fun e w' => e = .returned (.int .i64 (rdiv a b)) ∧ w.drewN k = w' := divRound_c a b _ ha ha1 hb hb1
set_option maxRecDepth 100000 in
set_option maxHeartbeats 1000000 in
theorem use_c (s : St) (share dark : Int) (w : World) (ok : StOk s) (s1 : 0 ≤ share) (s2 : share ≤ 1000000) (d1 : 0 ≤ dark) (d2 : dark ≤ 1440) :
    Calls Tryz.prog 30 #[stV s, .int .i64 share, .int .i64 dark] w fun e w' => e = .returned (.int .i64 (useI s share dark)) ∧ Below w.heap.size w w' := by
  obtain ⟨⟨u1, u2⟩, ⟨u3, u4⟩, ⟨u5, u6⟩⟩ := use_bd ok s1 s2 d1 d2
  have b1 := ok.s1
  have b2 := ok.s2
  unfold useI at u5 u6
  have w1 : IntKind.i64.wrap (s.la * share) = s.la * share := IntWalk.i64_in _ (by omega)
  have w2 : IntKind.i64.wrap (rdiv (s.la * share) 1000 * dark) = rdiv (s.la * share) 1000 * dark := IntWalk.i64_in _ (by omega)
  have w3 : IntKind.i64.wrap (24 * s.sb) = 24 * s.sb := IntWalk.i64_in _ (by omega)
  have w4 : IntKind.i64.wrap (rdiv (rdiv (s.la * share) 1000 * dark) 60000 + 24 * s.sb) = rdiv (rdiv (s.la * share) 1000 * dark) 60000 + 24 * s.sb := IntWalk.i64_in _ (by omega)
  go_enter Tryz.func30, Tryz.ntmps30
  go_wp2
  go_quiet ((go_at_call 60; exact quiet_c (divRound_q _ _ _ _ (by assumption) (by omega) (by omega) (by omega))))
  go_wp2
  go_ret
  exact ⟨rfl, by (repeat (first | (with_reducible assumption) | (with_reducible exact Below.refl _ _) | exact Nat.le_refl _ | exact Below.size (by with_reducible assumption) | (with_reducible refine Below.drew ?_) | (with_reducible refine below_drewN ?_ _) | (with_reducible refine Below.alloc ?_ ?_ _) | (with_reducible refine Below.setCell ?_ ?_ _) | (with_reducible refine le_alloc ?_ _) | (with_reducible refine le_set ?_ _ _) | (with_reducible refine le_drew ?_) | (with_reducible refine le_drewN ?_ _) | omega | (dsimp only; omega)))⟩
end Go.Proofs.YtjkjmpmefapnoaaGreatDoor

/- The reference's least and greatest of two numbers. -/
namespace Go.Proofs.YtjkjmpmefapnoaaGreatDoor
open Go.RowKit
set_option maxHeartbeats 400000 in
theorem l00Min_c (a b : Int) (w : World) : Calls Tryz.prog 58 #[.int .i64 a, .int .i64 b] w fun e w' => e = .returned (.int .i64 (min a b)) ∧ w = w' := by
  go_enter Tryz.func58, Tryz.ntmps58
  go_wp2
  all_goals
    go_ret
    exact ⟨ret_eq (int_eq (by omega)), rfl⟩
end Go.Proofs.YtjkjmpmefapnoaaGreatDoor

/- Stations: a day's use and gain, the next level, for how many days. -/
namespace Go.Proofs.YtjkjmpmefapnoaaGreatDoor
open Go.RowKit
theorem quiet_d {P : Program} {f : FuncId} {args : Array Value} {w : World} {n : Nat} {v : Value}
    (h : Calls P f args (w.drewN n) fun e w' => e = .returned v ∧ ∃ m, w' = (w.drewN n).drewN m) : Calls P f args (w.drewN n) fun e w'' => e = .returned v ∧ ∃ m, w'' = w.drewN m :=
  h.mono fun _ _ ⟨he, m, hm⟩ => ⟨he, n + m, by rw [hm]; simp [World.drewN, Nat.add_assoc]⟩
theorem stp_q {w : World} {b : Nat} {s : St} (h : StP w b s) (k : Nat) : StP (w.drewN k) b s := h.next (below_drewN (Below.refl _ _) k)
set_option maxRecDepth 100000 in
set_option maxHeartbeats 1000000 in
theorem gain_c (s : St) (dark : Int) (w : World) (ok : StOk s) (d1 : 0 ≤ dark) (d2 : dark ≤ 1440) :
    Calls Tryz.prog 32 #[stV s, .int .i64 dark] w fun e w' => e = .returned (.int .i64 (gainI s dark)) ∧ Below w.heap.size w w' := by
  obtain ⟨⟨u1, u2⟩, ⟨u3, u4⟩, ⟨u5, u6⟩⟩ := gain_bd ok d1 d2
  have w1 : IntKind.i64.wrap (s.pa * s.sh) = s.pa * s.sh := IntWalk.i64_in _ (by omega)
  have w2 : IntKind.i64.wrap (s.pa * s.sh * (1440 - dark)) = s.pa * s.sh * (1440 - dark) := IntWalk.i64_in _ (by omega)
  go_enter Tryz.func32, Tryz.ntmps32
  go_wp2_with (go_at_call 60; refine (divRound_c _ _ _ (by assumption) (by omega) (by omega) (by omega)).mono ?_; rintro e w1 ⟨rfl, rfl⟩)
  go_ret
  exact ⟨rfl, by (repeat (first | (with_reducible assumption) | (with_reducible exact Below.refl _ _) | exact Nat.le_refl _ | exact Below.size (by with_reducible assumption) | (with_reducible refine Below.drew ?_) | (with_reducible refine below_drewN ?_ _) | (with_reducible refine Below.alloc ?_ ?_ _) | (with_reducible refine Below.setCell ?_ ?_ _) | (with_reducible refine le_alloc ?_ _) | (with_reducible refine le_set ?_ _ _) | (with_reducible refine le_drew ?_) | (with_reducible refine le_drewN ?_ _) | omega | (dsimp only; omega)))⟩
theorem l00Min_q (a b : Int) (w : World) (k : Nat) : Calls Tryz.prog 58 #[.int .i64 a, .int .i64 b] (w.drewN k) fun e w' => e = .returned (.int .i64 (min a b)) ∧ w.drewN k = w' := l00Min_c a b _
set_option maxRecDepth 100000 in
set_option maxHeartbeats 1000000 in
theorem next_c (s : St) (share level dark : Int) (w : World) (ok : StOk s) (s1 : 0 ≤ share) (s2 : share ≤ 1000000) (l1 : -3000000000000000 ≤ level) (l2 : level ≤ 100000000) (d1 : 0 ≤ dark) (d2 : dark ≤ 1440) :
    Calls Tryz.prog 34 #[stV s, .int .i64 share, .int .i64 level, .int .i64 dark] w fun e w' => e = .returned (.int .i64 (nextI s share level dark)) ∧ Below w.heap.size w w' := by
  obtain ⟨_, _, ⟨u5, u6⟩⟩ := use_bd ok s1 s2 d1 d2
  obtain ⟨_, _, ⟨u7, u8⟩⟩ := gain_bd ok d1 d2
  have x1 : IntKind.i64.wrap (level + gainI s dark) = level + gainI s dark := IntWalk.i64_in _ (by omega)
  have x2 : IntKind.i64.wrap (level + gainI s dark - useI s share dark) = level + gainI s dark - useI s share dark := IntWalk.i64_in _ (by omega)
  have hb0 : Below w.heap.size w (w.alloc (stO s 25)) := by (repeat (first | (with_reducible assumption) | (with_reducible exact Below.refl _ _) | exact Nat.le_refl _ | exact Below.size (by with_reducible assumption) | (with_reducible refine Below.drew ?_) | (with_reducible refine below_drewN ?_ _) | (with_reducible refine Below.alloc ?_ ?_ _) | (with_reducible refine Below.setCell ?_ ?_ _) | (with_reducible refine le_alloc ?_ _) | (with_reducible refine le_set ?_ _ _) | (with_reducible refine le_drew ?_) | (with_reducible refine le_drewN ?_ _) | omega | (dsimp only; omega)))
  have hst := stp_box w s 25
  go_enter Tryz.func34, Tryz.ntmps34
  go_wp2
  generalize w.alloc (.cells #[.int .i64 s.la, .int .i64 s.sb, .int .i64 s.ba, .int .i64 s.pa, .int .i64 s.sh] 25) = w0 at *
  obtain ⟨c0, c1, c2, c3, c4, hb⟩ := hst
  have e1 : ∀ {w' : World}, Below w0.heap.size w0 w' → (Below w0.heap.size w0 w' ∧ (∀ x, w'.cell? ⟨w.heap.size, x, none⟩ = w0.cell? ⟨w.heap.size, x, none⟩)) := fun hbb => ⟨hbb, keepC hbb _ hb⟩
  refine wp_region_held_drew (S := fun w' => Below w0.heap.size w0 w' ∧ (∀ x, w'.cell? ⟨w.heap.size, x, none⟩ = w0.cell? ⟨w.heap.size, x, none⟩)) (by kernel_rfl) (e1 (Below.refl _ _).drew) (fun hHeld => ?_)
  (first
    | (refine wpAnyH_take (i := 0) (v := ?_) rfl (by kernel_rfl) (by kernel_rfl) (by kernel_rfl) (fun _ _ _ h => h) (Or.inl ⟨by rfl, ?_⟩) (by assumption) ?_
       rotate_left
       focus (intro wq hSq; (try dsimp only at hSq); go_simp; (try (with_reducible rfl)); done))
    | (refine wpAnyH_take (i := 0) (v := undef) rfl (by kernel_rfl) (by kernel_rfl) (by kernel_rfl) (fun _ _ _ h => h) (Or.inr ⟨by rfl, rfl⟩) (by assumption) ?_)
    | fail "take 0")
  try simp only [Act.put, List.setIfInBounds_toArray, List.set_cons_zero, List.set_cons_succ, List.getElem_toArray, List.getElem_cons_zero]
  (first
    | (refine wpAnyH_take (i := 1) (v := ?_) rfl (by kernel_rfl) (by kernel_rfl) (by kernel_rfl) (fun _ _ _ h => h) (Or.inl ⟨by rfl, ?_⟩) (by assumption) ?_
       rotate_left
       focus (intro wq hSq; (try dsimp only at hSq); go_simp; (try (with_reducible rfl)); done))
    | (refine wpAnyH_take (i := 1) (v := undef) rfl (by kernel_rfl) (by kernel_rfl) (by kernel_rfl) (fun _ _ _ h => h) (Or.inr ⟨by rfl, rfl⟩) (by assumption) ?_)
    | fail "take 1")
  try simp only [Act.put, List.setIfInBounds_toArray, List.set_cons_zero, List.set_cons_succ, List.getElem_toArray, List.getElem_cons_zero, List.getElem_cons_succ]
  (first
    | (refine wpAnyH_take (i := 2) (v := ?_) rfl (by kernel_rfl) (by kernel_rfl) (by kernel_rfl) (fun _ _ _ h => h) (Or.inl ⟨by rfl, ?_⟩) (by assumption) ?_
       rotate_left
       focus (intro wq hSq; (try dsimp only at hSq); go_simp; (try (with_reducible rfl)); done))
    | (refine wpAnyH_take (i := 2) (v := undef) rfl (by kernel_rfl) (by kernel_rfl) (by kernel_rfl) (fun _ _ _ h => h) (Or.inr ⟨by rfl, rfl⟩) (by assumption) ?_)
    | fail "take 2")
  try simp only [Act.put, List.setIfInBounds_toArray, List.set_cons_zero, List.set_cons_succ, List.getElem_toArray, List.getElem_cons_zero, List.getElem_cons_succ]
  (first
    | (refine wpAnyH_take (i := 3) (v := ?_) rfl (by kernel_rfl) (by kernel_rfl) (by kernel_rfl) (fun _ _ _ h => h) (Or.inl ⟨by rfl, ?_⟩) (by assumption) ?_
       rotate_left
       focus (intro wq hSq; (try dsimp only at hSq); go_simp; (try (with_reducible rfl)); done))
    | (refine wpAnyH_take (i := 3) (v := undef) rfl (by kernel_rfl) (by kernel_rfl) (by kernel_rfl) (fun _ _ _ h => h) (Or.inr ⟨by rfl, rfl⟩) (by assumption) ?_)
    | fail "take 3")
  try simp only [Act.put, List.setIfInBounds_toArray, List.set_cons_zero, List.set_cons_succ, List.getElem_toArray, List.getElem_cons_zero, List.getElem_cons_succ]
  (first
    | (refine wpAnyH_take (i := 4) (v := ?_) rfl (by kernel_rfl) (by kernel_rfl) (by kernel_rfl) (fun _ _ _ h => h) (Or.inl ⟨by rfl, ?_⟩) (by assumption) ?_
       rotate_left
       focus (intro wq hSq; (try dsimp only at hSq); go_simp; (try (with_reducible rfl)); done))
    | (refine wpAnyH_take (i := 4) (v := undef) rfl (by kernel_rfl) (by kernel_rfl) (by kernel_rfl) (fun _ _ _ h => h) (Or.inr ⟨by rfl, rfl⟩) (by assumption) ?_)
    | fail "take 4")
  try simp only [Act.put, List.setIfInBounds_toArray, List.set_cons_zero, List.set_cons_succ, List.getElem_toArray, List.getElem_cons_zero, List.getElem_cons_succ]
  (first
    | (refine wpAnyH_take (i := 7) (v := ?_) rfl (by kernel_rfl) (by kernel_rfl) (by kernel_rfl) (fun _ _ _ h => h) (Or.inl ⟨by rfl, ?_⟩) (by assumption) ?_
       rotate_left
       focus (intro wq hSq; (try dsimp only at hSq); go_simp; (try (with_reducible rfl)); done))
    | (refine wpAnyH_take (i := 7) (v := undef) rfl (by kernel_rfl) (by kernel_rfl) (by kernel_rfl) (fun _ _ _ h => h) (Or.inr ⟨by rfl, rfl⟩) (by assumption) ?_)
    | fail "take 7")
  try simp only [Act.put, List.setIfInBounds_toArray, List.set_cons_zero, List.set_cons_succ, List.getElem_toArray, List.getElem_cons_zero, List.getElem_cons_succ]
  (first
    | (refine wpAnyH_take (i := 8) (v := ?_) rfl (by kernel_rfl) (by kernel_rfl) (by kernel_rfl) (fun _ _ _ h => h) (Or.inl ⟨by rfl, ?_⟩) (by assumption) ?_
       rotate_left
       focus (intro wq hSq; (try dsimp only at hSq); go_simp; (try (with_reducible rfl)); done))
    | (refine wpAnyH_take (i := 8) (v := undef) rfl (by kernel_rfl) (by kernel_rfl) (by kernel_rfl) (fun _ _ _ h => h) (Or.inr ⟨by rfl, rfl⟩) (by assumption) ?_)
    | fail "take 8")
  try simp only [Act.put, List.setIfInBounds_toArray, List.set_cons_zero, List.set_cons_succ, List.getElem_toArray, List.getElem_cons_zero, List.getElem_cons_succ]
  (first
    | (refine wpAnyH_take (i := 9) (v := ?_) rfl (by kernel_rfl) (by kernel_rfl) (by kernel_rfl) (fun _ _ _ h => h) (Or.inl ⟨by rfl, ?_⟩) (by assumption) ?_
       rotate_left
       focus (intro wq hSq; (try dsimp only at hSq); go_simp; (try (with_reducible rfl)); done))
    | (refine wpAnyH_take (i := 9) (v := undef) rfl (by kernel_rfl) (by kernel_rfl) (by kernel_rfl) (fun _ _ _ h => h) (Or.inr ⟨by rfl, rfl⟩) (by assumption) ?_)
    | fail "take 9")
  try simp only [Act.put, List.setIfInBounds_toArray, List.set_cons_zero, List.set_cons_succ, List.getElem_toArray, List.getElem_cons_zero, List.getElem_cons_succ]
  refine wpAnyH_ready (rs := [5]) (by kernel_rfl) (by simp) ?_
  refine AllReadyH.cons (o := _) rfl (fun K hK => ?_) AllReadyH.nil
  go_simp
  refine (gain_c s dark _ ok d1 d2).mono ?_; rintro e w1 ⟨rfl, hb1⟩; have hb01 := (Below.refl w0.heap.size w0).drew.trans hb1
  refine hK.out _ _ ?_ (fun hHeld => ?_)
  · exact e1 hb01
  clear hK K
  try simp only [Act.put, List.setIfInBounds_toArray, List.set_cons_zero, List.set_cons_succ, List.getElem_toArray, List.getElem_cons_zero, List.getElem_cons_succ]
  (first
    | (refine wpAnyH_take (i := 6) (v := ?_) rfl (by kernel_rfl) (by kernel_rfl) (by kernel_rfl) (fun _ _ _ h => h) (Or.inl ⟨by rfl, ?_⟩) (by assumption) ?_
       rotate_left
       focus (intro wq hSq; (try dsimp only at hSq); go_simp; (try (with_reducible rfl)); done))
    | (refine wpAnyH_take (i := 6) (v := undef) rfl (by kernel_rfl) (by kernel_rfl) (by kernel_rfl) (fun _ _ _ h => h) (Or.inr ⟨by rfl, rfl⟩) (by assumption) ?_)
    | fail "take 6")
  try simp only [Act.put, List.setIfInBounds_toArray, List.set_cons_zero, List.set_cons_succ, List.getElem_toArray, List.getElem_cons_zero, List.getElem_cons_succ]
  refine wpAnyH_ready (rs := [10]) (by kernel_rfl) (by simp) ?_
  refine AllReadyH.cons (o := _) rfl (fun K hK => ?_) AllReadyH.nil
  go_simp
  refine (use_c s share dark _ ok s1 s2 d1 d2).mono ?_; rintro e w2 ⟨rfl, hb2⟩; have hb02 := hb01.trans (hb2.mono hb01.size)
  refine hK.out _ _ ?_ (fun hHeld => ?_)
  · exact e1 hb02
  clear hK K
  try simp only [Act.put, List.setIfInBounds_toArray, List.set_cons_zero, List.set_cons_succ, List.getElem_toArray, List.getElem_cons_zero, List.getElem_cons_succ]
  (first
    | (refine wpAnyH_take (i := 11) (v := ?_) rfl (by kernel_rfl) (by kernel_rfl) (by kernel_rfl) (fun _ _ _ h => h) (Or.inl ⟨by rfl, ?_⟩) (by assumption) ?_
       rotate_left
       focus (intro wq hSq; (try dsimp only at hSq); go_simp; (try (with_reducible rfl)); done))
    | (refine wpAnyH_take (i := 11) (v := undef) rfl (by kernel_rfl) (by kernel_rfl) (by kernel_rfl) (fun _ _ _ h => h) (Or.inr ⟨by rfl, rfl⟩) (by assumption) ?_)
    | fail "take 11")
  try simp only [Act.put, List.setIfInBounds_toArray, List.set_cons_zero, List.set_cons_succ, List.getElem_toArray, List.getElem_cons_zero, List.getElem_cons_succ]
  (first
    | (refine wpAnyH_take (i := 12) (v := ?_) rfl (by kernel_rfl) (by kernel_rfl) (by kernel_rfl) (fun _ _ _ h => h) (Or.inl ⟨by rfl, ?_⟩) (by assumption) ?_
       rotate_left
       focus (intro wq hSq; (try dsimp only at hSq); go_simp; (try (with_reducible rfl)); done))
    | (refine wpAnyH_take (i := 12) (v := undef) rfl (by kernel_rfl) (by kernel_rfl) (by kernel_rfl) (fun _ _ _ h => h) (Or.inr ⟨by rfl, rfl⟩) (by assumption) ?_)
    | fail "take 12")
  try simp only [Act.put, List.setIfInBounds_toArray, List.set_cons_zero, List.set_cons_succ, List.getElem_toArray, List.getElem_cons_zero, List.getElem_cons_succ]
  (first
    | (refine wpAnyH_take (i := 13) (v := ?_) rfl (by kernel_rfl) (by kernel_rfl) (by kernel_rfl) (fun _ _ _ h => h) (Or.inl ⟨by rfl, ?_⟩) (by assumption) ?_
       rotate_left
       focus (intro wq hSq; (try dsimp only at hSq); go_simp; (try (with_reducible rfl)); done))
    | (refine wpAnyH_take (i := 13) (v := undef) rfl (by kernel_rfl) (by kernel_rfl) (by kernel_rfl) (fun _ _ _ h => h) (Or.inr ⟨by rfl, rfl⟩) (by assumption) ?_)
    | fail "take 13")
  try simp only [Act.put, List.setIfInBounds_toArray, List.set_cons_zero, List.set_cons_succ, List.getElem_toArray, List.getElem_cons_zero, List.getElem_cons_succ]
  refine wpAnyH_done (by kernel_rfl) ?_ _
  go_wp2_with fail
  all_goals
    go_ret
    exact ⟨ret_eq (int_eq (by unfold nextI; omega)), hb0.trans (hb02.mono hb0.size)⟩
end Go.Proofs.YtjkjmpmefapnoaaGreatDoor

/- Stations: DayUse, AutonomyOf, NextLevel. -/
namespace Go.Proofs.YtjkjmpmefapnoaaGreatDoor
open Go.RowKit
def okSC (s : St) (x : Ch) : Bool := stB s && validB x
def dayK (s : St) (x : Ch) (dark : Int) : Int := bif okSC s x then (bif inB dark 0 1440 then 0 else 2) else 1
def dayV (s : St) (x : Ch) (dark : Int) : Int := bif okSC s x then (bif inB dark 0 1440 then useI s (shareI x) dark else 0) else 0
def autV (s : St) (x : Ch) (dark : Int) : Int := bif okSC s x then (bif inB dark 0 1440 then s.ba / useI s (shareI x) dark else 0) else 0
def nexK (s : St) (x : Ch) (level dark : Int) : Int := bif okSC s x then (bif inB dark 0 1440 && inB level 0 s.ba then 0 else 2) else 1
def nexV (s : St) (x : Ch) (level dark : Int) : Int := bif okSC s x then (bif inB dark 0 1440 && inB level 0 s.ba then max 0 (nextI s (shareI x) level dark) else 0) else 0
abbrev chO (x : Ch) (A : Option Addr) (n c : Nat) (E : TypeId) : Obj := .cells #[.int .i64 x.k, .slice A n c, .string x.l, .string x.cs, .int .i64 x.p] E
theorem two_box {w : World} {s : St} {x : Ch} {A : Option Addr} {n c : Nat} (E1 E2 : TypeId) (sl : Sl w w.heap.size 1 A n (x.gs.flatMap intC)) (hn : n ≤ 1048576) (hlz : x.l.size ≤ 1048576) (hs : x.cs.size ≤ 1048576) :
    StP ((w.alloc (stO s E1)).alloc (chO x A n c E2)) w.heap.size s ∧ ChP ((w.alloc (stO s E1)).alloc (chO x A n c E2)) (w.heap.size + 1) 0 A n c x ∧ Below w.heap.size w ((w.alloc (stO s E1)).alloc (chO x A n c E2)) := by
  have hb1 : Below w.heap.size w (w.alloc (stO s E1)) := by (repeat (first | (with_reducible assumption) | (with_reducible exact Below.refl _ _) | exact Nat.le_refl _ | exact Below.size (by with_reducible assumption) | (with_reducible refine Below.drew ?_) | (with_reducible refine below_drewN ?_ _) | (with_reducible refine Below.alloc ?_ ?_ _) | (with_reducible refine Below.setCell ?_ ?_ _) | (with_reducible refine le_alloc ?_ _) | (with_reducible refine le_set ?_ _ _) | (with_reducible refine le_drew ?_) | (with_reducible refine le_drewN ?_ _) | omega | (dsimp only; omega)))
  have hb2 : Below (w.alloc (stO s E1)).heap.size (w.alloc (stO s E1)) ((w.alloc (stO s E1)).alloc (chO x A n c E2)) := by (repeat (first | (with_reducible assumption) | (with_reducible exact Below.refl _ _) | exact Nat.le_refl _ | exact Below.size (by with_reducible assumption) | (with_reducible refine Below.drew ?_) | (with_reducible refine below_drewN ?_ _) | (with_reducible refine Below.alloc ?_ ?_ _) | (with_reducible refine Below.setCell ?_ ?_ _) | (with_reducible refine le_alloc ?_ _) | (with_reducible refine le_set ?_ _ _) | (with_reducible refine le_drew ?_) | (with_reducible refine le_drewN ?_ _) | omega | (dsimp only; omega)))
  refine ⟨(stp_box w s E1).next hb2, ?_, hb1.trans (hb2.mono hb1.size)⟩
  have := chp_box (c := c) E2 (sl.next hb1) hn hlz hs
  simpa using this
end Go.Proofs.YtjkjmpmefapnoaaGreatDoor

/- Stations: NextLevel of the reference; DayUse, AutonomyOf, NextLevel of the program. -/
namespace Go.Proofs.YtjkjmpmefapnoaaGreatDoor
open Go.RowKit
set_option maxRecDepth 100000 in
set_option maxHeartbeats 1000000 in
theorem implDay_c (s : St) (A : Option Addr) (n c : Nat) (x : Ch) (w : World) (sl : Sl w w.heap.size 1 A n (x.gs.flatMap intC)) (hn : n ≤ 1048576) (hlz : x.l.size ≤ 1048576) (hs : x.cs.size ≤ 1048576) (dark : Int) :
    Calls Tryz.prog 9 #[stV s, chV x.k A n c x.l x.cs x.p, .int .i64 dark] w fun e w' => e = .returned (.tuple #[.int .i64 (dayV s x dark), .int .i64 (dayK s x dark)]) ∧ Below w.heap.size w w' := by
  cases hst : stB s
  · have ho : okSC s x = false := by rw [okSC, hst]; rfl
    have Ho := Lib.hid ho; clear ho
    obtain ⟨hSt, hCh, hb0⟩ := two_box (s := s) (c := c) 25 29 sl hn hlz hs
    go_enter Tryz.func9, Tryz.ntmps9
    go_wp2_with fail
    generalize (w.alloc (.cells #[.int .i64 s.la, .int .i64 s.sb, .int .i64 s.ba, .int .i64 s.pa, .int .i64 s.sh] 25)).alloc (.cells #[.int .i64 x.k, .slice A n c, .string x.l, .string x.cs, .int .i64 x.p] 29) = w0 at *
    obtain ⟨a0, a1, a2, a3, a4, hbs⟩ := hSt
    obtain ⟨c0, c1, c2, c3, c4, hbc, sl0, _, _, _⟩ := hCh
    simp only [Nat.zero_add] at c0 c1 c2 c3 c4
    refine (validStation_c s _).mono ?_
    rintro e w1 ⟨rfl, hb1⟩
    have q1 := keepC hb1 w.heap.size hbs
    have r1 := keepC hb1 (w.heap.size + 1) hbc
    have sl1 := sl0.next hb1
    go_wp2_with fail
    go_ret2
    exact ⟨by simp [dayV, dayK, Ho.out], hb0.trans (hb1.mono hb0.size)⟩
  cases hv : validB x
  · have ho : okSC s x = false := by rw [okSC, hst, hv]; rfl
    have Ho := Lib.hid ho; clear ho
    obtain ⟨hSt, hCh, hb0⟩ := two_box (s := s) (c := c) 25 29 sl hn hlz hs
    go_enter Tryz.func9, Tryz.ntmps9
    go_wp2_with fail
    generalize (w.alloc (.cells #[.int .i64 s.la, .int .i64 s.sb, .int .i64 s.ba, .int .i64 s.pa, .int .i64 s.sh] 25)).alloc (.cells #[.int .i64 x.k, .slice A n c, .string x.l, .string x.cs, .int .i64 x.p] 29) = w0 at *
    obtain ⟨a0, a1, a2, a3, a4, hbs⟩ := hSt
    obtain ⟨c0, c1, c2, c3, c4, hbc, sl0, _, _, _⟩ := hCh
    simp only [Nat.zero_add] at c0 c1 c2 c3 c4
    refine (validStation_c s _).mono ?_
    rintro e w1 ⟨rfl, hb1⟩
    have q1 := keepC hb1 w.heap.size hbs
    have r1 := keepC hb1 (w.heap.size + 1) hbc
    have sl1 := sl0.next hb1
    go_wp2_with fail
    refine (implValid_c A n c x _ sl1 hn hlz hs).mono ?_
    rintro e w2 ⟨rfl, hb2⟩
    have q2 := keepC hb2 w.heap.size (Nat.lt_of_lt_of_le hbs hb1.size)
    have r2 := keepC hb2 (w.heap.size + 1) (Nat.lt_of_lt_of_le hbc hb1.size)
    have sl2 := sl1.next hb2
    have hb02 := hb1.trans (hb2.mono hb1.size)
    go_wp2_with fail
    go_ret2
    exact ⟨by simp [dayV, dayK, Ho.out], hb0.trans (hb02.mono hb0.size)⟩
  have ho : okSC s x = true := by rw [okSC, hst, hv]; rfl
  have Ho := Lib.hid ho; clear ho
  have hok := stB_ok hst
  obtain ⟨sh1, sh2⟩ := share_bd hv
  cases hdk : inB dark 0 1440
  · obtain ⟨hSt, hCh, hb0⟩ := two_box (s := s) (c := c) 25 29 sl hn hlz hs
    go_enter Tryz.func9, Tryz.ntmps9
    go_wp2_with fail
    generalize (w.alloc (.cells #[.int .i64 s.la, .int .i64 s.sb, .int .i64 s.ba, .int .i64 s.pa, .int .i64 s.sh] 25)).alloc (.cells #[.int .i64 x.k, .slice A n c, .string x.l, .string x.cs, .int .i64 x.p] 29) = w0 at *
    obtain ⟨a0, a1, a2, a3, a4, hbs⟩ := hSt
    obtain ⟨c0, c1, c2, c3, c4, hbc, sl0, _, _, _⟩ := hCh
    simp only [Nat.zero_add] at c0 c1 c2 c3 c4
    refine (validStation_c s _).mono ?_
    rintro e w1 ⟨rfl, hb1⟩
    have q1 := keepC hb1 w.heap.size hbs
    have r1 := keepC hb1 (w.heap.size + 1) hbc
    have sl1 := sl0.next hb1
    go_wp2_with fail
    refine (implValid_c A n c x _ sl1 hn hlz hs).mono ?_
    rintro e w2 ⟨rfl, hb2⟩
    have q2 := keepC hb2 w.heap.size (Nat.lt_of_lt_of_le hbs hb1.size)
    have r2 := keepC hb2 (w.heap.size + 1) (Nat.lt_of_lt_of_le hbc hb1.size)
    have sl2 := sl1.next hb2
    have hb02 := hb1.trans (hb2.mono hb1.size)
    go_wp2_with (go_at_call 29; refine (isDark_c _ _).mono ?_; rintro e w9 ⟨rfl, rfl⟩)
    go_ret2
    exact ⟨by simp [dayV, dayK, Ho.out, hdk], hb0.trans (hb02.mono hb0.size)⟩
  obtain ⟨d1, d2⟩ := inB_iff.1 hdk
  obtain ⟨hSt, hCh, hb0⟩ := two_box (s := s) (c := c) 25 29 sl hn hlz hs
  go_enter Tryz.func9, Tryz.ntmps9
  go_wp2_with fail
  generalize (w.alloc (.cells #[.int .i64 s.la, .int .i64 s.sb, .int .i64 s.ba, .int .i64 s.pa, .int .i64 s.sh] 25)).alloc (.cells #[.int .i64 x.k, .slice A n c, .string x.l, .string x.cs, .int .i64 x.p] 29) = w0 at *
  obtain ⟨a0, a1, a2, a3, a4, hbs⟩ := hSt
  obtain ⟨c0, c1, c2, c3, c4, hbc, sl0, _, _, _⟩ := hCh
  simp only [Nat.zero_add] at c0 c1 c2 c3 c4
  refine (validStation_c s _).mono ?_
  rintro e w1 ⟨rfl, hb1⟩
  have q1 := keepC hb1 w.heap.size hbs
  have r1 := keepC hb1 (w.heap.size + 1) hbc
  have sl1 := sl0.next hb1
  go_wp2_with fail
  refine (implValid_c A n c x _ sl1 hn hlz hs).mono ?_
  rintro e w2 ⟨rfl, hb2⟩
  have q2 := keepC hb2 w.heap.size (Nat.lt_of_lt_of_le hbs hb1.size)
  have r2 := keepC hb2 (w.heap.size + 1) (Nat.lt_of_lt_of_le hbc hb1.size)
  have sl2 := sl1.next hb2
  have hb02 := hb1.trans (hb2.mono hb1.size)
  go_wp2_with (go_at_call 29; refine (isDark_c _ _).mono ?_; rintro e w9 ⟨rfl, rfl⟩)
  have hbs2 := Nat.lt_of_lt_of_le hbs hb02.size
  have hbc2 := Nat.lt_of_lt_of_le hbc hb02.size
  have e1 : ∀ {w' : World}, Below w2.heap.size w2 w' → (Below w2.heap.size w2 w' ∧ (∀ x, w'.cell? ⟨w.heap.size, x, none⟩ = w2.cell? ⟨w.heap.size, x, none⟩) ∧ (∀ x, w'.cell? ⟨w.heap.size + 1, x, none⟩ = w2.cell? ⟨w.heap.size + 1, x, none⟩)) := fun hbb => ⟨hbb, keepC hbb _ hbs2, keepC hbb _ hbc2⟩
  refine wp_region_held_drew (S := fun w' => Below w2.heap.size w2 w' ∧ (∀ x, w'.cell? ⟨w.heap.size, x, none⟩ = w2.cell? ⟨w.heap.size, x, none⟩) ∧ (∀ x, w'.cell? ⟨w.heap.size + 1, x, none⟩ = w2.cell? ⟨w.heap.size + 1, x, none⟩)) (by kernel_rfl) (e1 (Below.refl _ _).drew) (fun hHeld => ?_)
  (first
    | (refine wpAnyH_take (i := 0) (v := ?_) rfl (by kernel_rfl) (by kernel_rfl) (by kernel_rfl) (fun _ _ _ h => h) (Or.inl ⟨by rfl, ?_⟩) (by assumption) ?_
       rotate_left
       focus (intro wq hSq; (try dsimp only at hSq); go_simp; (try (with_reducible rfl)); done))
    | (refine wpAnyH_take (i := 0) (v := undef) rfl (by kernel_rfl) (by kernel_rfl) (by kernel_rfl) (fun _ _ _ h => h) (Or.inr ⟨by rfl, rfl⟩) (by assumption) ?_)
    | fail "take 0")
  try simp only [Act.put, List.setIfInBounds_toArray, List.set_cons_zero, List.set_cons_succ, List.getElem_toArray, List.getElem_cons_zero]
  (first
    | (refine wpAnyH_take (i := 1) (v := ?_) rfl (by kernel_rfl) (by kernel_rfl) (by kernel_rfl) (fun _ _ _ h => h) (Or.inl ⟨by rfl, ?_⟩) (by assumption) ?_
       rotate_left
       focus (intro wq hSq; (try dsimp only at hSq); go_simp; (try (with_reducible rfl)); done))
    | (refine wpAnyH_take (i := 1) (v := undef) rfl (by kernel_rfl) (by kernel_rfl) (by kernel_rfl) (fun _ _ _ h => h) (Or.inr ⟨by rfl, rfl⟩) (by assumption) ?_)
    | fail "take 1")
  try simp only [Act.put, List.setIfInBounds_toArray, List.set_cons_zero, List.set_cons_succ, List.getElem_toArray, List.getElem_cons_zero, List.getElem_cons_succ]
  (first
    | (refine wpAnyH_take (i := 3) (v := ?_) rfl (by kernel_rfl) (by kernel_rfl) (by kernel_rfl) (fun _ _ _ h => h) (Or.inl ⟨by rfl, ?_⟩) (by assumption) ?_
       rotate_left
       focus (intro wq hSq; (try dsimp only at hSq); go_simp; (try (with_reducible rfl)); done))
    | (refine wpAnyH_take (i := 3) (v := undef) rfl (by kernel_rfl) (by kernel_rfl) (by kernel_rfl) (fun _ _ _ h => h) (Or.inr ⟨by rfl, rfl⟩) (by assumption) ?_)
    | fail "take 3")
  try simp only [Act.put, List.setIfInBounds_toArray, List.set_cons_zero, List.set_cons_succ, List.getElem_toArray, List.getElem_cons_zero, List.getElem_cons_succ]
  refine wpAnyH_ready (rs := [2]) (by kernel_rfl) (by simp) ?_
  refine AllReadyH.cons (o := _) rfl (fun K hK => ?_) AllReadyH.nil
  go_simp
  refine (litShare_c A n c x _ (sl2.next (Below.refl _ _).drew) hn hlz hs hv).mono ?_; rintro e w3 ⟨rfl, hb3⟩; have hb23 := (Below.refl w2.heap.size w2).drew.trans hb3
  refine hK.out _ _ ?_ (fun hHeld => ?_)
  · exact e1 hb23
  clear hK K
  try simp only [Act.put, List.setIfInBounds_toArray, List.set_cons_zero, List.set_cons_succ, List.getElem_toArray, List.getElem_cons_zero, List.getElem_cons_succ]
  refine wpAnyH_ready (rs := [4]) (by kernel_rfl) (by simp) ?_
  refine AllReadyH.cons (o := _) rfl (fun K hK => ?_) AllReadyH.nil
  go_simp
  refine (use_c s _ dark _ hok sh1 sh2 d1 d2).mono ?_; rintro e w4 ⟨rfl, hb4⟩; have hb24 := hb23.trans (hb4.mono hb23.size)
  refine hK.out _ _ ?_ (fun hHeld => ?_)
  · exact e1 hb24
  clear hK K
  try simp only [Act.put, List.setIfInBounds_toArray, List.set_cons_zero, List.set_cons_succ, List.getElem_toArray, List.getElem_cons_zero, List.getElem_cons_succ]
  (first
    | (refine wpAnyH_take (i := 5) (v := ?_) rfl (by kernel_rfl) (by kernel_rfl) (by kernel_rfl) (fun _ _ _ h => h) (Or.inl ⟨by rfl, ?_⟩) (by assumption) ?_
       rotate_left
       focus (intro wq hSq; (try dsimp only at hSq); go_simp; (try (with_reducible rfl)); done))
    | (refine wpAnyH_take (i := 5) (v := undef) rfl (by kernel_rfl) (by kernel_rfl) (by kernel_rfl) (fun _ _ _ h => h) (Or.inr ⟨by rfl, rfl⟩) (by assumption) ?_)
    | fail "take 5")
  try simp only [Act.put, List.setIfInBounds_toArray, List.set_cons_zero, List.set_cons_succ, List.getElem_toArray, List.getElem_cons_zero, List.getElem_cons_succ]
  (first
    | (refine wpAnyH_take (i := 6) (v := ?_) rfl (by kernel_rfl) (by kernel_rfl) (by kernel_rfl) (fun _ _ _ h => h) (Or.inl ⟨by rfl, ?_⟩) (by assumption) ?_
       rotate_left
       focus (intro wq hSq; (try dsimp only at hSq); go_simp; (try (with_reducible rfl)); done))
    | (refine wpAnyH_take (i := 6) (v := undef) rfl (by kernel_rfl) (by kernel_rfl) (by kernel_rfl) (fun _ _ _ h => h) (Or.inr ⟨by rfl, rfl⟩) (by assumption) ?_)
    | fail "take 6")
  try simp only [Act.put, List.setIfInBounds_toArray, List.set_cons_zero, List.set_cons_succ, List.getElem_toArray, List.getElem_cons_zero, List.getElem_cons_succ]
  refine wpAnyH_done (by kernel_rfl) ?_ _
  go_wp2_with fail
  go_ret2
  exact ⟨by simp [dayV, dayK, Ho.out, hdk], hb0.trans ((hb02.trans (hb24.mono hb02.size)).mono hb0.size)⟩
set_option maxRecDepth 100000 in
set_option maxHeartbeats 1000000 in
theorem implAut_c (s : St) (A : Option Addr) (n c : Nat) (x : Ch) (w : World) (sl : Sl w w.heap.size 1 A n (x.gs.flatMap intC)) (hn : n ≤ 1048576) (hlz : x.l.size ≤ 1048576) (hs : x.cs.size ≤ 1048576) (dark : Int) :
    Calls Tryz.prog 13 #[stV s, chV x.k A n c x.l x.cs x.p, .int .i64 dark] w fun e w' => e = .returned (.tuple #[.int .i64 (autV s x dark), .int .i64 (dayK s x dark)]) ∧ Below w.heap.size w w' := by
  cases ho : okSC s x
  · have hK : dayK s x dark = 1 := by simp [dayK, ho]
    have hA : autV s x dark = 0 := by simp [autV, ho]
    rw [hK, hA]
    have HA := Lib.hid hA; clear hA
    obtain ⟨hSt, hCh, hb0⟩ := two_box (s := s) (c := c) 25 29 sl hn hlz hs
    go_enter Tryz.func13, Tryz.ntmps13
    go_wp2_with fail
    generalize (w.alloc (.cells #[.int .i64 s.la, .int .i64 s.sb, .int .i64 s.ba, .int .i64 s.pa, .int .i64 s.sh] 25)).alloc (.cells #[.int .i64 x.k, .slice A n c, .string x.l, .string x.cs, .int .i64 x.p] 29) = w0 at *
    obtain ⟨a0, a1, a2, a3, a4, hbs⟩ := hSt
    obtain ⟨c0, c1, c2, c3, c4, hbc, sl0, _, _, _⟩ := hCh
    simp only [Nat.zero_add] at c0 c1 c2 c3 c4
    refine (implDay_c s A n c x _ sl0 hn hlz hs dark).mono ?_
    rintro e w1 ⟨rfl, hb1⟩
    go_wp2_with fail
    go_ret2
    exact ⟨rfl, hb0.trans (hb1.mono hb0.size)⟩
  cases hdk : inB dark 0 1440
  · have hK : dayK s x dark = 2 := by simp [dayK, ho, hdk]
    have hA : autV s x dark = 0 := by simp [autV, ho, hdk]
    rw [hK, hA]
    have HA := Lib.hid hA; clear hA
    obtain ⟨hSt, hCh, hb0⟩ := two_box (s := s) (c := c) 25 29 sl hn hlz hs
    go_enter Tryz.func13, Tryz.ntmps13
    go_wp2_with fail
    generalize (w.alloc (.cells #[.int .i64 s.la, .int .i64 s.sb, .int .i64 s.ba, .int .i64 s.pa, .int .i64 s.sh] 25)).alloc (.cells #[.int .i64 x.k, .slice A n c, .string x.l, .string x.cs, .int .i64 x.p] 29) = w0 at *
    obtain ⟨a0, a1, a2, a3, a4, hbs⟩ := hSt
    obtain ⟨c0, c1, c2, c3, c4, hbc, sl0, _, _, _⟩ := hCh
    simp only [Nat.zero_add] at c0 c1 c2 c3 c4
    refine (implDay_c s A n c x _ sl0 hn hlz hs dark).mono ?_
    rintro e w1 ⟨rfl, hb1⟩
    go_wp2_with fail
    go_ret2
    exact ⟨rfl, hb0.trans (hb1.mono hb0.size)⟩
  have hK : dayK s x dark = 0 := by simp [dayK, ho, hdk]
  have hA : autV s x dark = s.ba / useI s (shareI x) dark := by simp [autV, ho, hdk]
  have hD : dayV s x dark = useI s (shareI x) dark := by simp [dayV, ho, hdk]
  have ho2 := ho
  simp only [okSC, Bool.and_eq_true] at ho2
  have hok := stB_ok ho2.1
  obtain ⟨sh1, sh2⟩ := share_bd ho2.2
  obtain ⟨d1, d2⟩ := inB_iff.1 hdk
  obtain ⟨u1, u2⟩ := (use_bd hok sh1 sh2 d1 d2).2.2
  have hb1' := hok.b1
  have hb2' := hok.b2
  rw [hK, hA]
  have HA := Lib.hid hA; clear hA
  obtain ⟨hSt, hCh, hb0⟩ := two_box (s := s) (c := c) 25 29 sl hn hlz hs
  go_enter Tryz.func13, Tryz.ntmps13
  go_wp2_with fail
  generalize (w.alloc (.cells #[.int .i64 s.la, .int .i64 s.sb, .int .i64 s.ba, .int .i64 s.pa, .int .i64 s.sh] 25)).alloc (.cells #[.int .i64 x.k, .slice A n c, .string x.l, .string x.cs, .int .i64 x.p] 29) = w0 at *
  obtain ⟨a0, a1, a2, a3, a4, hbs⟩ := hSt
  obtain ⟨c0, c1, c2, c3, c4, hbc, sl0, _, _, _⟩ := hCh
  simp only [Nat.zero_add] at c0 c1 c2 c3 c4
  refine (implDay_c s A n c x _ sl0 hn hlz hs dark).mono ?_
  rintro e w1 ⟨rfl, hb1⟩
  have q1 := keepC hb1 w.heap.size hbs
  go_wp2_with fail
  go_ret2
  exact ⟨rfl, hb0.trans (hb1.mono hb0.size)⟩
set_option maxRecDepth 100000 in
set_option maxHeartbeats 1000000 in
theorem implNext_c (s : St) (A : Option Addr) (n c : Nat) (x : Ch) (w : World) (sl : Sl w w.heap.size 1 A n (x.gs.flatMap intC)) (hn : n ≤ 1048576) (hlz : x.l.size ≤ 1048576) (hs : x.cs.size ≤ 1048576) (level dark : Int) :
    Calls Tryz.prog 12 #[stV s, chV x.k A n c x.l x.cs x.p, .int .i64 level, .int .i64 dark] w fun e w' => e = .returned (.tuple #[.int .i64 (nexV s x level dark), .int .i64 (nexK s x level dark)]) ∧ Below w.heap.size w w' := by
  cases hst : stB s
  · have ho : okSC s x = false := by rw [okSC, hst]; rfl
    have Ho := Lib.hid ho; clear ho
    obtain ⟨hSt, hCh, hb0⟩ := two_box (s := s) (c := c) 25 29 sl hn hlz hs
    go_enter Tryz.func12, Tryz.ntmps12
    go_wp2_with fail
    generalize (w.alloc (.cells #[.int .i64 s.la, .int .i64 s.sb, .int .i64 s.ba, .int .i64 s.pa, .int .i64 s.sh] 25)).alloc (.cells #[.int .i64 x.k, .slice A n c, .string x.l, .string x.cs, .int .i64 x.p] 29) = w0 at *
    obtain ⟨a0, a1, a2, a3, a4, hbs⟩ := hSt
    obtain ⟨c0, c1, c2, c3, c4, hbc, sl0, _, _, _⟩ := hCh
    simp only [Nat.zero_add] at c0 c1 c2 c3 c4
    refine (validStation_c s _).mono ?_
    rintro e w1 ⟨rfl, hb1⟩
    have q1 := keepC hb1 w.heap.size hbs
    have r1 := keepC hb1 (w.heap.size + 1) hbc
    have sl1 := sl0.next hb1
    go_wp2_with fail
    go_ret2
    exact ⟨by simp [nexV, nexK, Ho.out], hb0.trans (hb1.mono hb0.size)⟩
  cases hv : validB x
  · have ho : okSC s x = false := by rw [okSC, hst, hv]; rfl
    have Ho := Lib.hid ho; clear ho
    obtain ⟨hSt, hCh, hb0⟩ := two_box (s := s) (c := c) 25 29 sl hn hlz hs
    go_enter Tryz.func12, Tryz.ntmps12
    go_wp2_with fail
    generalize (w.alloc (.cells #[.int .i64 s.la, .int .i64 s.sb, .int .i64 s.ba, .int .i64 s.pa, .int .i64 s.sh] 25)).alloc (.cells #[.int .i64 x.k, .slice A n c, .string x.l, .string x.cs, .int .i64 x.p] 29) = w0 at *
    obtain ⟨a0, a1, a2, a3, a4, hbs⟩ := hSt
    obtain ⟨c0, c1, c2, c3, c4, hbc, sl0, _, _, _⟩ := hCh
    simp only [Nat.zero_add] at c0 c1 c2 c3 c4
    refine (validStation_c s _).mono ?_
    rintro e w1 ⟨rfl, hb1⟩
    have q1 := keepC hb1 w.heap.size hbs
    have r1 := keepC hb1 (w.heap.size + 1) hbc
    have sl1 := sl0.next hb1
    go_wp2_with fail
    refine (implValid_c A n c x _ sl1 hn hlz hs).mono ?_
    rintro e w2 ⟨rfl, hb2⟩
    have q2 := keepC hb2 w.heap.size (Nat.lt_of_lt_of_le hbs hb1.size)
    have r2 := keepC hb2 (w.heap.size + 1) (Nat.lt_of_lt_of_le hbc hb1.size)
    have sl2 := sl1.next hb2
    have hb02 := hb1.trans (hb2.mono hb1.size)
    go_wp2_with fail
    go_ret2
    exact ⟨by simp [nexV, nexK, Ho.out], hb0.trans (hb02.mono hb0.size)⟩
  have ho : okSC s x = true := by rw [okSC, hst, hv]; rfl
  have Ho := Lib.hid ho; clear ho
  have hok := stB_ok hst
  obtain ⟨sh1, sh2⟩ := share_bd hv
  cases hdk : inB dark 0 1440
  · obtain ⟨hSt, hCh, hb0⟩ := two_box (s := s) (c := c) 25 29 sl hn hlz hs
    go_enter Tryz.func12, Tryz.ntmps12
    go_wp2_with fail
    generalize (w.alloc (.cells #[.int .i64 s.la, .int .i64 s.sb, .int .i64 s.ba, .int .i64 s.pa, .int .i64 s.sh] 25)).alloc (.cells #[.int .i64 x.k, .slice A n c, .string x.l, .string x.cs, .int .i64 x.p] 29) = w0 at *
    obtain ⟨a0, a1, a2, a3, a4, hbs⟩ := hSt
    obtain ⟨c0, c1, c2, c3, c4, hbc, sl0, _, _, _⟩ := hCh
    simp only [Nat.zero_add] at c0 c1 c2 c3 c4
    refine (validStation_c s _).mono ?_
    rintro e w1 ⟨rfl, hb1⟩
    have q1 := keepC hb1 w.heap.size hbs
    have r1 := keepC hb1 (w.heap.size + 1) hbc
    have sl1 := sl0.next hb1
    go_wp2_with fail
    refine (implValid_c A n c x _ sl1 hn hlz hs).mono ?_
    rintro e w2 ⟨rfl, hb2⟩
    have q2 := keepC hb2 w.heap.size (Nat.lt_of_lt_of_le hbs hb1.size)
    have r2 := keepC hb2 (w.heap.size + 1) (Nat.lt_of_lt_of_le hbc hb1.size)
    have sl2 := sl1.next hb2
    have hb02 := hb1.trans (hb2.mono hb1.size)
    go_wp2_with (go_at_call 29; refine (isDark_c _ _).mono ?_; rintro e w9 ⟨rfl, rfl⟩)
    go_ret2
    exact ⟨by simp [nexV, nexK, Ho.out, hdk], hb0.trans (hb02.mono hb0.size)⟩
  obtain ⟨d1, d2⟩ := inB_iff.1 hdk
  cases hlv : inB level 0 s.ba
  · obtain ⟨hSt, hCh, hb0⟩ := two_box (s := s) (c := c) 25 29 sl hn hlz hs
    go_enter Tryz.func12, Tryz.ntmps12
    go_wp2_with fail
    generalize (w.alloc (.cells #[.int .i64 s.la, .int .i64 s.sb, .int .i64 s.ba, .int .i64 s.pa, .int .i64 s.sh] 25)).alloc (.cells #[.int .i64 x.k, .slice A n c, .string x.l, .string x.cs, .int .i64 x.p] 29) = w0 at *
    obtain ⟨a0, a1, a2, a3, a4, hbs⟩ := hSt
    obtain ⟨c0, c1, c2, c3, c4, hbc, sl0, _, _, _⟩ := hCh
    simp only [Nat.zero_add] at c0 c1 c2 c3 c4
    refine (validStation_c s _).mono ?_
    rintro e w1 ⟨rfl, hb1⟩
    have q1 := keepC hb1 w.heap.size hbs
    have r1 := keepC hb1 (w.heap.size + 1) hbc
    have sl1 := sl0.next hb1
    go_wp2_with fail
    refine (implValid_c A n c x _ sl1 hn hlz hs).mono ?_
    rintro e w2 ⟨rfl, hb2⟩
    have q2 := keepC hb2 w.heap.size (Nat.lt_of_lt_of_le hbs hb1.size)
    have r2 := keepC hb2 (w.heap.size + 1) (Nat.lt_of_lt_of_le hbc hb1.size)
    have sl2 := sl1.next hb2
    have hb02 := hb1.trans (hb2.mono hb1.size)
    go_wp2_with (first | (go_at_call 29; refine (isDark_c _ _).mono ?_; rintro e w9 ⟨rfl, rfl⟩) | (go_at_call 33; refine (within_c _ _ _ _).mono ?_; rintro e w9 ⟨rfl, rfl⟩))
    go_ret2
    exact ⟨by simp [nexV, nexK, Ho.out, hdk, hlv], hb0.trans (hb02.mono hb0.size)⟩
  obtain ⟨l1, l2⟩ := inB_iff.1 hlv
  have hba2 := hok.b2
  obtain ⟨hSt, hCh, hb0⟩ := two_box (s := s) (c := c) 25 29 sl hn hlz hs
  go_enter Tryz.func12, Tryz.ntmps12
  go_wp2_with fail
  generalize (w.alloc (.cells #[.int .i64 s.la, .int .i64 s.sb, .int .i64 s.ba, .int .i64 s.pa, .int .i64 s.sh] 25)).alloc (.cells #[.int .i64 x.k, .slice A n c, .string x.l, .string x.cs, .int .i64 x.p] 29) = w0 at *
  obtain ⟨a0, a1, a2, a3, a4, hbs⟩ := hSt
  obtain ⟨c0, c1, c2, c3, c4, hbc, sl0, _, _, _⟩ := hCh
  simp only [Nat.zero_add] at c0 c1 c2 c3 c4
  refine (validStation_c s _).mono ?_
  rintro e w1 ⟨rfl, hb1⟩
  have q1 := keepC hb1 w.heap.size hbs
  have r1 := keepC hb1 (w.heap.size + 1) hbc
  have sl1 := sl0.next hb1
  go_wp2_with fail
  refine (implValid_c A n c x _ sl1 hn hlz hs).mono ?_
  rintro e w2 ⟨rfl, hb2⟩
  have q2 := keepC hb2 w.heap.size (Nat.lt_of_lt_of_le hbs hb1.size)
  have r2 := keepC hb2 (w.heap.size + 1) (Nat.lt_of_lt_of_le hbc hb1.size)
  have sl2 := sl1.next hb2
  have hb02 := hb1.trans (hb2.mono hb1.size)
  go_wp2_with (first | (go_at_call 29; refine (isDark_c _ _).mono ?_; rintro e w9 ⟨rfl, rfl⟩) | (go_at_call 33; refine (within_c _ _ _ _).mono ?_; rintro e w9 ⟨rfl, rfl⟩))
  have hbs2 := Nat.lt_of_lt_of_le hbs hb02.size
  have hbc2 := Nat.lt_of_lt_of_le hbc hb02.size
  have e1 : ∀ {w' : World}, Below w2.heap.size w2 w' → (Below w2.heap.size w2 w' ∧ (∀ x, w'.cell? ⟨w.heap.size, x, none⟩ = w2.cell? ⟨w.heap.size, x, none⟩) ∧ (∀ x, w'.cell? ⟨w.heap.size + 1, x, none⟩ = w2.cell? ⟨w.heap.size + 1, x, none⟩)) := fun hbb => ⟨hbb, keepC hbb _ hbs2, keepC hbb _ hbc2⟩
  refine wp_region_held_drew (S := fun w' => Below w2.heap.size w2 w' ∧ (∀ x, w'.cell? ⟨w.heap.size, x, none⟩ = w2.cell? ⟨w.heap.size, x, none⟩) ∧ (∀ x, w'.cell? ⟨w.heap.size + 1, x, none⟩ = w2.cell? ⟨w.heap.size + 1, x, none⟩)) (by kernel_rfl) (e1 (Below.refl _ _).drew) (fun hHeld => ?_)
  (first
    | (refine wpAnyH_take (i := 0) (v := ?_) rfl (by kernel_rfl) (by kernel_rfl) (by kernel_rfl) (fun _ _ _ h => h) (Or.inl ⟨by rfl, ?_⟩) (by assumption) ?_
       rotate_left
       focus (intro wq hSq; (try dsimp only at hSq); go_simp; (try (with_reducible rfl)); done))
    | (refine wpAnyH_take (i := 0) (v := undef) rfl (by kernel_rfl) (by kernel_rfl) (by kernel_rfl) (fun _ _ _ h => h) (Or.inr ⟨by rfl, rfl⟩) (by assumption) ?_)
    | fail "take 0")
  try simp only [Act.put, List.setIfInBounds_toArray, List.set_cons_zero, List.set_cons_succ, List.getElem_toArray, List.getElem_cons_zero]
  (first
    | (refine wpAnyH_take (i := 1) (v := ?_) rfl (by kernel_rfl) (by kernel_rfl) (by kernel_rfl) (fun _ _ _ h => h) (Or.inl ⟨by rfl, ?_⟩) (by assumption) ?_
       rotate_left
       focus (intro wq hSq; (try dsimp only at hSq); go_simp; (try (with_reducible rfl)); done))
    | (refine wpAnyH_take (i := 1) (v := undef) rfl (by kernel_rfl) (by kernel_rfl) (by kernel_rfl) (fun _ _ _ h => h) (Or.inr ⟨by rfl, rfl⟩) (by assumption) ?_)
    | fail "take 1")
  try simp only [Act.put, List.setIfInBounds_toArray, List.set_cons_zero, List.set_cons_succ, List.getElem_toArray, List.getElem_cons_zero, List.getElem_cons_succ]
  (first
    | (refine wpAnyH_take (i := 3) (v := ?_) rfl (by kernel_rfl) (by kernel_rfl) (by kernel_rfl) (fun _ _ _ h => h) (Or.inl ⟨by rfl, ?_⟩) (by assumption) ?_
       rotate_left
       focus (intro wq hSq; (try dsimp only at hSq); go_simp; (try (with_reducible rfl)); done))
    | (refine wpAnyH_take (i := 3) (v := undef) rfl (by kernel_rfl) (by kernel_rfl) (by kernel_rfl) (fun _ _ _ h => h) (Or.inr ⟨by rfl, rfl⟩) (by assumption) ?_)
    | fail "take 3")
  try simp only [Act.put, List.setIfInBounds_toArray, List.set_cons_zero, List.set_cons_succ, List.getElem_toArray, List.getElem_cons_zero, List.getElem_cons_succ]
  (first
    | (refine wpAnyH_take (i := 4) (v := ?_) rfl (by kernel_rfl) (by kernel_rfl) (by kernel_rfl) (fun _ _ _ h => h) (Or.inl ⟨by rfl, ?_⟩) (by assumption) ?_
       rotate_left
       focus (intro wq hSq; (try dsimp only at hSq); go_simp; (try (with_reducible rfl)); done))
    | (refine wpAnyH_take (i := 4) (v := undef) rfl (by kernel_rfl) (by kernel_rfl) (by kernel_rfl) (fun _ _ _ h => h) (Or.inr ⟨by rfl, rfl⟩) (by assumption) ?_)
    | fail "take 4")
  try simp only [Act.put, List.setIfInBounds_toArray, List.set_cons_zero, List.set_cons_succ, List.getElem_toArray, List.getElem_cons_zero, List.getElem_cons_succ]
  refine wpAnyH_ready (rs := [2]) (by kernel_rfl) (by simp) ?_
  refine AllReadyH.cons (o := _) rfl (fun K hK => ?_) AllReadyH.nil
  go_simp
  refine (litShare_c A n c x _ (sl2.next (Below.refl _ _).drew) hn hlz hs hv).mono ?_; rintro e w3 ⟨rfl, hb3⟩; have hb23 := (Below.refl w2.heap.size w2).drew.trans hb3
  refine hK.out _ _ ?_ (fun hHeld => ?_)
  · exact e1 hb23
  clear hK K
  try simp only [Act.put, List.setIfInBounds_toArray, List.set_cons_zero, List.set_cons_succ, List.getElem_toArray, List.getElem_cons_zero, List.getElem_cons_succ]
  refine wpAnyH_ready (rs := [5]) (by kernel_rfl) (by simp) ?_
  refine AllReadyH.cons (o := _) rfl (fun K hK => ?_) AllReadyH.nil
  go_simp
  refine (next_c s _ level dark _ hok sh1 sh2 (by omega) (by omega) d1 d2).mono ?_; rintro e w4 ⟨rfl, hb4⟩; have hb24 := hb23.trans (hb4.mono hb23.size)
  refine hK.out _ _ ?_ (fun hHeld => ?_)
  · exact e1 hb24
  clear hK K
  try simp only [Act.put, List.setIfInBounds_toArray, List.set_cons_zero, List.set_cons_succ, List.getElem_toArray, List.getElem_cons_zero, List.getElem_cons_succ]
  (first
    | (refine wpAnyH_take (i := 6) (v := ?_) rfl (by kernel_rfl) (by kernel_rfl) (by kernel_rfl) (fun _ _ _ h => h) (Or.inl ⟨by rfl, ?_⟩) (by assumption) ?_
       rotate_left
       focus (intro wq hSq; (try dsimp only at hSq); go_simp; (try (with_reducible rfl)); done))
    | (refine wpAnyH_take (i := 6) (v := undef) rfl (by kernel_rfl) (by kernel_rfl) (by kernel_rfl) (fun _ _ _ h => h) (Or.inr ⟨by rfl, rfl⟩) (by assumption) ?_)
    | fail "take 6")
  try simp only [Act.put, List.setIfInBounds_toArray, List.set_cons_zero, List.set_cons_succ, List.getElem_toArray, List.getElem_cons_zero, List.getElem_cons_succ]
  (first
    | (refine wpAnyH_take (i := 7) (v := ?_) rfl (by kernel_rfl) (by kernel_rfl) (by kernel_rfl) (fun _ _ _ h => h) (Or.inl ⟨by rfl, ?_⟩) (by assumption) ?_
       rotate_left
       focus (intro wq hSq; (try dsimp only at hSq); go_simp; (try (with_reducible rfl)); done))
    | (refine wpAnyH_take (i := 7) (v := undef) rfl (by kernel_rfl) (by kernel_rfl) (by kernel_rfl) (fun _ _ _ h => h) (Or.inr ⟨by rfl, rfl⟩) (by assumption) ?_)
    | fail "take 7")
  try simp only [Act.put, List.setIfInBounds_toArray, List.set_cons_zero, List.set_cons_succ, List.getElem_toArray, List.getElem_cons_zero, List.getElem_cons_succ]
  (first
    | (refine wpAnyH_take (i := 8) (v := ?_) rfl (by kernel_rfl) (by kernel_rfl) (by kernel_rfl) (fun _ _ _ h => h) (Or.inl ⟨by rfl, ?_⟩) (by assumption) ?_
       rotate_left
       focus (intro wq hSq; (try dsimp only at hSq); go_simp; (try (with_reducible rfl)); done))
    | (refine wpAnyH_take (i := 8) (v := undef) rfl (by kernel_rfl) (by kernel_rfl) (by kernel_rfl) (fun _ _ _ h => h) (Or.inr ⟨by rfl, rfl⟩) (by assumption) ?_)
    | fail "take 8")
  try simp only [Act.put, List.setIfInBounds_toArray, List.set_cons_zero, List.set_cons_succ, List.getElem_toArray, List.getElem_cons_zero, List.getElem_cons_succ]
  refine wpAnyH_done (by kernel_rfl) ?_ _
  go_wp2_with fail
  all_goals
    go_ret2
    refine ⟨?_, hb0.trans ((hb02.trans (hb24.mono hb02.size)).mono hb0.size)⟩
    simp only [nexV, nexK, Ho.out, hdk, hlv, Bool.true_and, cond_true]
    first | rfl | (rw [show max 0 (nextI s (shareI x) level dark) = nextI s (shareI x) level dark by omega]; rfl) | (rw [show max 0 (nextI s (shareI x) level dark) = 0 by omega]; rfl)
end Go.Proofs.YtjkjmpmefapnoaaGreatDoor

/- Stations: what a panel gains, and a station as text and back: the program. -/
namespace Go.Proofs.YtjkjmpmefapnoaaGreatDoor
open Go.RowKit
theorem row_belowP {w w' : World} {k : Nat} {o : Obj} (h : w.heap[k]? = some o) (hb : Below w.heap.size w w') : w'.heap[k]? = some o :=
  (hb.block k (by
    by_cases hk : k < w.heap.size
    · exact hk
    · rw [Array.getElem?_eq_none (by omega)] at h; cases h)).trans h
set_option maxRecDepth 100000 in
set_option maxHeartbeats 1000000 in
theorem implGain_c (s : St) (dark : Int) (w : World) (hs : stB s = true) (d1 : 0 ≤ dark) (d2 : dark ≤ 1440) : Calls Tryz.prog 10 #[stV s, .int .i64 dark] w fun e w' => e = .returned (.tuple #[.int .i64 (gainI s dark), .int .i64 0]) ∧ Below w.heap.size w w' := by
  have h := stp_box w s 25
  have hb0 : Below w.heap.size w (w.alloc (stO s 25)) := by (repeat (first | (with_reducible assumption) | (with_reducible exact Below.refl _ _) | exact Nat.le_refl _ | exact Below.size (by with_reducible assumption) | (with_reducible refine Below.drew ?_) | (with_reducible refine below_drewN ?_ _) | (with_reducible refine Below.alloc ?_ ?_ _) | (with_reducible refine Below.setCell ?_ ?_ _) | (with_reducible refine le_alloc ?_ _) | (with_reducible refine le_set ?_ _ _) | (with_reducible refine le_drew ?_) | (with_reducible refine le_drewN ?_ _) | omega | (dsimp only; omega)))
  have ok := stB_ok hs
  have hV : ∀ w1, Calls Tryz.prog 27 #[stV s] w1 fun e w' => e = .returned (.bool true) ∧ Below w1.heap.size w1 w' := fun w1 => hs ▸ validStation_c s w1
  have hD : ∀ w1, Calls Tryz.prog 29 #[.int .i64 dark] w1 fun e w' => e = .returned (.bool true) ∧ w1 = w' := fun w1 => by
    have := isDark_c dark w1
    rwa [inB_iff.2 ⟨d1, d2⟩] at this
  have hG : ∀ w1, Calls Tryz.prog 32 #[stV s, .int .i64 dark] w1 fun e w' => e = .returned (.int .i64 (gainI s dark)) ∧ Below w1.heap.size w1 w' := fun w1 => gain_c s dark w1 ok d1 d2
  obtain ⟨a0, a1, a2, a3, a4, hbs⟩ := h
  clear ok hs
  have HV := Lib.hid hV; clear hV
  have HD := Lib.hid hD; clear hD
  have HG := Lib.hid hG; clear hG
  go_enter Tryz.func10, Tryz.ntmps10
  go_wp2_with fail
  generalize w.alloc (.cells #[.int .i64 s.la, .int .i64 s.sb, .int .i64 s.ba, .int .i64 s.pa, .int .i64 s.sh] 25) = w0 at *
  refine (HV.out _).mono ?_
  rintro e w1 ⟨rfl, hb1⟩
  have q1 := keepC hb1 w.heap.size hbs
  go_wp2_with fail
  refine (HD.out _).mono ?_
  rintro e w9 ⟨rfl, rfl⟩
  go_wp2_with fail
  refine (HG.out _).mono ?_
  rintro e w2 ⟨rfl, hb2⟩
  go_wp2_with fail
  go_ret2
  exact ⟨rfl, hb0.trans ((hb1.trans (hb2.mono hb1.size)).mono hb0.size)⟩
def stXs (s : St) : List Int := [s.la, s.sb, s.ba, s.pa, s.sh]
theorem stXs_bd {s : St} (h : stB s = true) : ∀ v ∈ stXs s, 0 ≤ v ∧ v ≤ 143999999 := by
  have ok := stB_ok h
  have := ok.l1; have := ok.l2; have := ok.s1; have := ok.s2; have := ok.b1; have := ok.b2; have := ok.p1; have := ok.p2; have := ok.h1; have := ok.h2
  intro v hv
  simp only [stXs, List.mem_cons, List.not_mem_nil, or_false] at hv
  rcases hv with rfl | rfl | rfl | rfl | rfl <;> omega
set_option maxRecDepth 100000 in
set_option maxHeartbeats 1000000 in
theorem stationText_c (s : St) (w : World) (hs : stB s = true) (ht : Tab10 w) : Calls Tryz.prog 15 #[stV s] w fun e w' => e = .returned (.string (listT (stXs s))) ∧ Below w.heap.size w w' := by
  have h := stp_box w s 25
  have hb0 : Below w.heap.size w (w.alloc (stO s 25)) := by (repeat (first | (with_reducible assumption) | (with_reducible exact Below.refl _ _) | exact Nat.le_refl _ | exact Below.size (by with_reducible assumption) | (with_reducible refine Below.drew ?_) | (with_reducible refine below_drewN ?_ _) | (with_reducible refine Below.alloc ?_ ?_ _) | (with_reducible refine Below.setCell ?_ ?_ _) | (with_reducible refine le_alloc ?_ _) | (with_reducible refine le_set ?_ _ _) | (with_reducible refine le_drew ?_) | (with_reducible refine le_drewN ?_ _) | omega | (dsimp only; omega)))
  have hV : ∀ w1, Calls Tryz.prog 27 #[stV s] w1 fun e w' => e = .returned (.bool true) ∧ Below w1.heap.size w1 w' := fun w1 => hs ▸ validStation_c s w1
  have hbd := stXs_bd hs
  have hL : ∀ w1, Below w.heap.size w w1 → Calls Tryz.prog 36 #[.slice (some ⟨w1.heap.size, 0, none⟩) 5 5] (w1.alloc (.cells #[.int .i64 s.la, .int .i64 s.sb, .int .i64 s.ba, .int .i64 s.pa, .int .i64 s.sh] 2)) fun e w' => e = .returned (.string (listT (stXs s))) ∧ Below w1.heap.size w1 w' := fun w1 hb => by
    have hba : Below w1.heap.size w1 (w1.alloc (.cells #[.int .i64 s.la, .int .i64 s.sb, .int .i64 s.ba, .int .i64 s.pa, .int .i64 s.sh] 2)) := by (repeat (first | (with_reducible assumption) | (with_reducible exact Below.refl _ _) | exact Nat.le_refl _ | exact Below.size (by with_reducible assumption) | (with_reducible refine Below.drew ?_) | (with_reducible refine below_drewN ?_ _) | (with_reducible refine Below.alloc ?_ ?_ _) | (with_reducible refine Below.setCell ?_ ?_ _) | (with_reducible refine le_alloc ?_ _) | (with_reducible refine le_set ?_ _ _) | (with_reducible refine le_drew ?_) | (with_reducible refine le_drewN ?_ _) | omega | (dsimp only; omega)))
    have hsl : Sl (w1.alloc (.cells #[.int .i64 s.la, .int .i64 s.sb, .int .i64 s.ba, .int .i64 s.pa, .int .i64 s.sh] 2)) (w1.alloc (.cells #[.int .i64 s.la, .int .i64 s.sb, .int .i64 s.ba, .int .i64 s.pa, .int .i64 s.sh] 2)).heap.size 1 (some ⟨w1.heap.size, 0, none⟩) 5 ((stXs s).flatMap intC) := (Sl.new w1 2 ((stXs s).flatMap intC) 5 1 rfl).more (by simp)
    refine (listText_c _ 5 5 (stXs s) _ hsl (by omega) (by omega) hbd (ht.next (hb.trans (hba.mono hb.size)))).mono ?_
    rintro e w2 ⟨rfl, hb2⟩
    exact ⟨rfl, hba.trans (hb2.mono hba.size)⟩
  obtain ⟨T, hT⟩ : ∃ T, listT (stXs s) = T := ⟨_, rfl⟩
  rw [hT] at hL ⊢
  obtain ⟨a0, a1, a2, a3, a4, hbs⟩ := h
  clear hs ht hT hbd
  have HV := Lib.hid hV; clear hV
  have HL := Lib.hid hL; clear hL
  go_enter Tryz.func15, Tryz.ntmps15
  go_wp2_with fail
  generalize w.alloc (.cells #[.int .i64 s.la, .int .i64 s.sb, .int .i64 s.ba, .int .i64 s.pa, .int .i64 s.sh] 25) = w0 at *
  refine (HV.out _).mono ?_
  rintro e w1 ⟨rfl, hb1⟩
  have q1 := keepC hb1 w.heap.size hbs
  have hb01 := hb0.trans (hb1.mono hb0.size)
  go_wp2_with fail
  refine (HL.out _ hb01).mono ?_
  rintro e w2 ⟨rfl, hb2⟩
  go_wp2_with fail
  go_ret
  exact ⟨rfl, hb01.trans (hb2.mono hb01.size)⟩
set_option maxRecDepth 100000 in
set_option maxHeartbeats 1000000 in
theorem readStation_c (s : St) (w : World) (hs : stB s = true) (hE : Env w) : Calls Tryz.prog 14 #[.string (listT (stXs s))] w fun e w' => e = .returned (.tuple #[stV s, .bool true]) ∧ Below w.heap.size w w' := by
  have hba : Below w.heap.size w (w.alloc (.cells #[.int .i64 0, .int .i64 0, .int .i64 0, .int .i64 0, .int .i64 0] 25)) := by (repeat (first | (with_reducible assumption) | (with_reducible exact Below.refl _ _) | exact Nat.le_refl _ | exact Below.size (by with_reducible assumption) | (with_reducible refine Below.drew ?_) | (with_reducible refine below_drewN ?_ _) | (with_reducible refine Below.alloc ?_ ?_ _) | (with_reducible refine Below.setCell ?_ ?_ _) | (with_reducible refine le_alloc ?_ _) | (with_reducible refine le_set ?_ _ _) | (with_reducible refine le_drew ?_) | (with_reducible refine le_drewN ?_ _) | omega | (dsimp only; omega)))
  have hzl : w.heap.size < (w.alloc (.cells #[.int .i64 0, .int .i64 0, .int .i64 0, .int .i64 0, .int .i64 0] 25)).heap.size := by simp
  have hr0 : (w.alloc (.cells #[.int .i64 0, .int .i64 0, .int .i64 0, .int .i64 0, .int .i64 0] 25)).heap[w.heap.size]? = some (.cells #[.int .i64 0, .int .i64 0, .int .i64 0, .int .i64 0, .int .i64 0] 25 (0, 0)) := heap_alloc_new w _
  have hV : ∀ w1, Calls Tryz.prog 27 #[stV s] w1 fun e w' => e = .returned (.bool true) ∧ Below w1.heap.size w1 w' := fun w1 => hs ▸ validStation_c s w1
  have hR := fun w1 hb => readList_c (stXs s) 5 w1 rfl (by omega) (by omega) (stXs_bd hs) (hE.next (w' := w1) hb)
  obtain ⟨T, hT⟩ : ∃ T, listT (stXs s) = T := ⟨_, rfl⟩
  rw [hT] at hR ⊢
  clear hs hE hT
  have HV := Lib.hid hV; clear hV
  have HR := Lib.hid hR; clear hR
  have Hr0 := Lib.hid hr0; clear hr0
  go_enter Tryz.func14, Tryz.ntmps14
  go_wp2_with fail
  generalize w.alloc (.cells #[.int .i64 0, .int .i64 0, .int .i64 0, .int .i64 0, .int .i64 0] 25) = w0 at *
  refine (HR.out _ hba).mono ?_
  rintro e w1 ⟨v, rfl, ho, hb1⟩
  obtain ⟨A, c, rfl⟩ := own_slice ho
  obtain ⟨g, rfl, hg1, hg2⟩ := own_form ho (by omega)
  have hr1 := row_belowP Hr0.out hb1
  have hb01 := hba.trans (hb1.mono hba.size)
  have f1 := fun j => frozen_of_row w1 w.heap.size j _ _ hr1
  have x0 : w1.cell? ⟨g, 0, none⟩ = some (.int .i64 s.la) := by rw [ho.cellAt 0 (by omega)]; rfl
  have x1 : w1.cell? ⟨g, 1, none⟩ = some (.int .i64 s.sb) := by rw [ho.cellAt 1 (by omega)]; rfl
  have x2 : w1.cell? ⟨g, 2, none⟩ = some (.int .i64 s.ba) := by rw [ho.cellAt 2 (by omega)]; rfl
  have x3 : w1.cell? ⟨g, 3, none⟩ = some (.int .i64 s.pa) := by rw [ho.cellAt 3 (by omega)]; rfl
  have x4 : w1.cell? ⟨g, 4, none⟩ = some (.int .i64 s.sh) := by rw [ho.cellAt 4 (by omega)]; rfl
  have hwz : w.heap.size < w1.heap.size := Nat.lt_of_lt_of_le hzl hb1.size
  clear ho hb1 hba
  have Hr1 := Lib.hid hr1; clear hr1
  go_wp2_with fail
  have hpx : StP ((w1.alloc (stO s 25)).drew) w1.heap.size s := (stp_box w1 s 25).next (Below.refl _ _).drew
  have hbx : Below w1.heap.size w1 ((w1.alloc (stO s 25)).drew) := by (repeat (first | (with_reducible assumption) | (with_reducible exact Below.refl _ _) | exact Nat.le_refl _ | exact Below.size (by with_reducible assumption) | (with_reducible refine Below.drew ?_) | (with_reducible refine below_drewN ?_ _) | (with_reducible refine Below.alloc ?_ ?_ _) | (with_reducible refine Below.setCell ?_ ?_ _) | (with_reducible refine le_alloc ?_ _) | (with_reducible refine le_set ?_ _ _) | (with_reducible refine le_drew ?_) | (with_reducible refine le_drewN ?_ _) | omega | (dsimp only; omega)))
  have hrx := row_belowP Hr1.out hbx
  have Hrx := Lib.hid hrx; clear hrx
  go_region
  go_wp2_with fail
  clear f1 Hr1 Hr0
  refine (HV.out _).mono ?_
  rintro e w2 ⟨rfl, hb2⟩
  have hr2 := row_belowP Hrx.out hb2
  have hb02 := hb01.trans ((hbx.trans (hb2.mono hbx.size)).mono hb01.size)
  obtain ⟨y0, y1, y2, y3, y4, hy⟩ := hpx.next hb2
  have d0 := (cell_of_row w2 w.heap.size 0 _ _ _ hr2).trans rfl
  have d1 := (cell_of_row w2 w.heap.size 1 _ _ _ hr2).trans rfl
  have d2 := (cell_of_row w2 w.heap.size 2 _ _ _ hr2).trans rfl
  have d3 := (cell_of_row w2 w.heap.size 3 _ _ _ hr2).trans rfl
  have d4 := (cell_of_row w2 w.heap.size 4 _ _ _ hr2).trans rfl
  have f2 := fun j => frozen_of_row w2 w.heap.size j _ _ hr2
  have hX : ¬ w1.heap.size = w.heap.size := by omega
  clear hbx hpx Hrx hb2 x0 x1 x2 x3 x4
  have Hr2 := Lib.hid hr2; clear hr2
  go_wp2_with fail
  exact bodyPost_ret (v := .tuple #[stV s, .bool true]) (by simp [results, Tryz.results14, go_sem, d0, d1, d2, d3, d4]) rfl ⟨rfl, by (repeat (first | (with_reducible assumption) | (with_reducible exact Below.refl _ _) | exact Nat.le_refl _ | exact Below.size (by with_reducible assumption) | (with_reducible refine Below.drew ?_) | (with_reducible refine below_drewN ?_ _) | (with_reducible refine Below.alloc ?_ ?_ _) | (with_reducible refine Below.setCell ?_ ?_ _) | (with_reducible refine le_alloc ?_ _) | (with_reducible refine le_set ?_ _ _) | (with_reducible refine le_drew ?_) | (with_reducible refine le_drewN ?_ _) | omega | (dsimp only; omega)))⟩
end Go.Proofs.YtjkjmpmefapnoaaGreatDoor
