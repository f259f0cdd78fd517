/- What is observed of a light, both sides. -/
import Derived.Test.YtgfplmfdgbklkaaChOf
import Derived.Test.YtgfplmfdgbklkaaChLit
namespace Go.Proofs.Ytgfplmfdgbklkaa
open Go.RowKit
def startB (ps : List Ph) (start : Int) : Bool := decide (0 ≤ start) && match ps[start.toNat]? with | some p => !p.c.toList.isEmpty | none => false
def seeAt (ps : List Ph) (start : Int) (i : Nat) : Ph := ps.getD ((start + i) % ps.length).toNat ⟨⟨#[]⟩, 0⟩
def seeL (ps : List Ph) (start : Int) (m : Nat) : List Ph := (List.range m).map (seeAt ps start)
theorem seeL_next (ps : List Ph) (start : Int) (m : Nat) : seeL ps start (m + 1) = seeL ps start m ++ [seeAt ps start m] := by simp [seeL, List.range_succ]
theorem seeL_len (ps : List Ph) (start : Int) (m : Nat) : (seeL ps start m).length = m := by simp [seeL]
theorem startB_lt {ps : List Ph} {start : Int} (h : startB ps start = true) : 0 ≤ start ∧ start < ps.length := by
  simp only [startB, Bool.and_eq_true, decide_eq_true_eq] at h
  refine ⟨h.1, ?_⟩
  have h2 := h.2
  cases hp : ps[start.toNat]? with
  | none => rw [hp] at h2; simp at h2
  | some p => have := (List.getElem?_eq_some_iff.1 hp).1; omega
theorem startB_co (x : Ch) (co co' : ByteArray) (h : co.toList.isEmpty = co'.toList.isEmpty) (start : Int) : startB (phasesL x co) start = startB (phasesL x co') start := by
  have e0 : ∀ c : ByteArray, ∀ b : Bool, (bif b then c else (⟨#[]⟩ : ByteArray)).toList.isEmpty = (bif b then c.toList.isEmpty else true) := fun c b => by cases b <;> simp
  simp only [startB]
  congr 1
  have key : ∀ i : Nat, ((phasesL x co)[i]?).map (fun p => p.c.toList.isEmpty) = ((phasesL x co')[i]?).map (fun p => p.c.toList.isEmpty) := by
    intro i
    unfold phasesL
    split
    · cases i <;> simp [h]
    split
    · rcases i with _ | _ | i <;> simp [h]
    · simp only [altL, List.getElem?_mapIdx]
      cases (timesL x ++ [if steadyB x = true then gapI x.k else x.p - (timesL x).sum])[i]? with
      | none => rfl
      | some t => simp only [Option.map_some, altP, e0, h]
  have := key start.toNat
  cases h1 : (phasesL x co)[start.toNat]? <;> cases h2 : (phasesL x co')[start.toNat]? <;> rw [h1, h2] at this <;> simp at this
  · simp [this]
theorem see_get {w : World} {B n : Nat} {A : Option Addr} {ps : List Ph} (h : Sl w B 2 A n (ps.flatMap Ph.cells)) (hn : 0 < n) (start : Int) (_ : 0 ≤ start) (k : Nat) :
    ∃ b off, A = some ⟨b, off, none⟩ ∧ b < B ∧ w.cell? ⟨b, off + ((start + (k : Int)) % (n : Int)).toNat * 2, none⟩ = some (.string (seeAt ps start k).c) ∧ w.cell? ⟨b, off + ((start + (k : Int)) % (n : Int)).toNat * 2 + 1, none⟩ = some (.int .i64 (seeAt ps start k).len) := by
  have hl := h.len Ph.cells 2 Ph.cells_len (by omega)
  have h1 := Int.emod_nonneg (start + (k : Int)) (show (n : Int) ≠ 0 by omega)
  have h2 := Int.emod_lt_of_pos (start + (k : Int)) (show (0 : Int) < n by omega)
  obtain ⟨b, off, p, hA, hb, hp, c1, c2⟩ := h.ph ((start + (k : Int)) % (n : Int)).toNat (by omega)
  have he : seeAt ps start k = p := by rw [seeAt, hl, List.getD_eq_getElem?_getD, hp]; rfl
  exact ⟨b, off, hA, hb, by rw [he]; exact c1, by rw [he]; exact c2⟩
set_option maxRecDepth 100000 in
set_option maxHeartbeats 400000 in
theorem l17Start_c (A : Option Addr) (n c : Nat) (ps : List Ph) (start : Int) (w : World) (h : Sl w w.heap.size 2 A n (ps.flatMap Ph.cells)) (hm : n ≤ 1000) :
    Calls Try.prog 98 #[.slice A n c, .int .i64 start] w fun e w' => e = .returned (.bool (startB ps start)) ∧ w = w' := by
  have hl := h.len Ph.cells 2 Ph.cells_len (by omega)
  cases hin : inB start 0 ((n : Int) - 1)
  · have hb : startB ps start = false := by
      cases hb : startB ps start
      · rfl
      · have := startB_lt hb
        have := inB_no.1 hin
        omega
    rw [hb]
    have Hb := Lib.hid hb; clear hb
    have Hl := Lib.hid hl; clear hl
    go_enter Try.func98, Try.ntmps98
    go_wp2_with (go_at_call 72; refine (l00In_c _ _ _ _).mono ?_; rintro e w1 ⟨rfl, rfl⟩)
    go_ret
    exact ⟨rfl, rfl⟩
  · obtain ⟨i1, i2⟩ := inB_iff.1 hin
    obtain ⟨k, rfl⟩ := Int.eq_ofNat_of_zero_le i1
    obtain ⟨b, off, p, rfl, hb, hp, c1, c2⟩ := h.ph k (by omega)
    have hb : startB ps (k : Int) = !p.c.toList.isEmpty := by
      rw [startB, Int.toNat_natCast, hp]; simp
    rw [hb]
    have Hb := Lib.hid hb; clear hb
    have Hl := Lib.hid hl; clear hl
    have Hp := Lib.hid hp; clear hp
    cases hE : p.c.toList.isEmpty
    all_goals
      go_enter Try.func98, Try.ntmps98
      go_wp2_with (go_at_call 72; refine (l00In_c _ _ _ _).mono ?_; rintro e w1 ⟨rfl, rfl⟩)
      go_ret
      exact ⟨rfl, rfl⟩
set_option maxRecDepth 100000 in
set_option maxHeartbeats 1000000 in
theorem l17See_c (A : Option Addr) (n c : Nat) (ps : List Ph) (start : Int) (M : Nat) (w : World) (hs : Sl w w.heap.size 2 A n (ps.flatMap Ph.cells)) (hn0 : 0 < n) (hm : n ≤ 1000) (hs0 : 0 ≤ start) (hs1 : start ≤ 1000000) (hM : M ≤ 1000) :
    Calls Try.prog 75 #[.slice A n c, .int .i64 start, .int .i64 M] w fun e w' => ∃ v, e = .returned v ∧ w'.ownsRow w.heap.size 71 2 v M ((seeL ps start M).flatMap Ph.cells) ∧ Below w.heap.size w w' := by
  obtain ⟨q0, hi, hz0, hz1, hz2⟩ := info_parts phInfo
  have hov := World.ownsRow_made (base := w.heap.size) (e := 71) (size := 2) w #[] 0 (Nat.le_refl _) (by simp [maxLen]) rfl
  have hb0 : Below w.heap.size w (w.alloc (.cells #[] 71)) := by (repeat (first | (with_reducible assumption) | (with_reducible exact Below.refl _ _) | exact Nat.le_refl _ | exact Below.size (by with_reducible assumption) | (with_reducible refine Below.drew ?_) | (with_reducible refine below_drewN ?_ _) | (with_reducible refine Below.alloc ?_ ?_ _) | (with_reducible refine Below.setCell ?_ ?_ _) | (with_reducible refine le_alloc ?_ _) | (with_reducible refine le_set ?_ _ _) | (with_reducible refine le_drew ?_) | (with_reducible refine le_drewN ?_ _) | omega | (dsimp only; omega)))
  go_enter Try.func75, Try.ntmps75
  go_wp2
  go_loopw [7, 8] (fun v i wr => ∃ k : Nat, k ≤ M ∧ i = .int .i64 k ∧ wr.ownsRow w.heap.size 71 2 v k ((seeL ps start k).flatMap Ph.cells) ∧ Below w.heap.size w wr) (fun _ i _ => M - (intOf i).toNat)
  case atStart => exact ⟨0, Nat.zero_le _, rfl, by simpa [seeL] using hov, hb0⟩
  case round =>
    clear hov hb0
    obtain ⟨k, hk, rfl, hov, hbw⟩ := hrel
    obtain ⟨A3, c3, rfl⟩ := own_slice hov
    have hgo : ∀ g, (Value.slice A3 k c3).ownBlock = some g → w.heap.size ≤ g := fun g hg => (hov.lt g hg).1
    have hbw0 := hbw
    by_cases hlt : k < M
    · have e63 : k + 1 ≤ maxLen := by unfold maxLen; omega
      have e32 : (k + 1) * 24 ≤ 140737488355328 := by omega
      have hnx := seeL_next ps start k
      obtain ⟨b4, off4, rfl, hb4, x1, x2⟩ := see_get hs hn0 start hs0 k
      have q4 := keepC hbw b4 hb4
      have j1 := Int.emod_nonneg (start + (k : Int)) (show (n : Int) ≠ 0 by omega)
      have j2 := Int.emod_lt_of_pos (start + (k : Int)) (show (0 : Int) < n by omega)
      have E63 := Lib.hid e63; clear e63
      have E32 := Lib.hid e32; clear e32
      have Hnx := Lib.hid hnx; clear hnx
      go_wp2_with (at_builtin; refine wpl_append _ rfl (.tmp 15) (.tmp 25) _ rfl w.heap.size 71 q0 _ 2 24 Try.underlying32 hi hz0 hz1 hz2 rfl (by omega) _ k _ rfl (hov.alloc _) (wr.heap.size + 1) (some ⟨wr.heap.size, 0, none⟩) 1 1 (Ph.cells (seeAt ps start k)) rfl (Sl.new wr 71 _ 1 2 rfl) (phC_one _) E63.out E32.out (le_alloc hbw.size _) ?_; intro v2 w2' ho2 hg2 hat2)
      go_roundw
      case rel =>
        refine ⟨k + 1, by omega, by go_num, ?_, (hbw.alloc hbw.size _).grown hg2 (le_alloc hbw.size _) hgo⟩
        rw [Hnx.out, List.flatMap_append]; simpa using ho2
      case measure => simp [intOf]; omega
    · go_wp2
      go_ret
      obtain rfl : k = M := by omega
      exact ⟨_, rfl, hov, hbw⟩
set_option maxRecDepth 100000 in
set_option maxHeartbeats 1000000 in
theorem observed_c (A : Option Addr) (n c : Nat) (x : Ch) (w : World) (sl : Sl w w.heap.size 1 A n (x.gs.flatMap intC)) (hn : n ≤ 1048576) (hlz : x.l.size ≤ 1048576) (hs : x.cs.size ≤ 1048576) (co : ByteArray) (start : Int) (M : Nat) (hv : validB x = true) (hs0 : 0 ≤ start) (hs1 : start ≤ 1000000) (hM : M ≤ 1000) :
    Calls Try.prog 80 #[chV x.k A n c x.l x.cs x.p, .string co, .int .i64 start, .int .i64 M] w fun e w' => ∃ v, e = .returned v ∧ w'.ownsRow w.heap.size 71 2 v M ((seeL (phasesL x co) start M).flatMap Ph.cells) ∧ Below w.heap.size w w' := by
  obtain ⟨q0, hi, hz0, hz1, hz2⟩ := info_parts phInfo
  have hb0 : Below w.heap.size w (w.alloc (.cells #[.int .i64 x.k, .slice A n c, .string x.l, .string x.cs, .int .i64 x.p] 30)) := by (repeat (first | (with_reducible assumption) | (with_reducible exact Below.refl _ _) | exact Nat.le_refl _ | exact Below.size (by with_reducible assumption) | (with_reducible refine Below.drew ?_) | (with_reducible refine below_drewN ?_ _) | (with_reducible refine Below.alloc ?_ ?_ _) | (with_reducible refine Below.setCell ?_ ?_ _) | (with_reducible refine le_alloc ?_ _) | (with_reducible refine le_set ?_ _ _) | (with_reducible refine le_drew ?_) | (with_reducible refine le_drewN ?_ _) | omega | (dsimp only; omega)))
  have sl0 := sl.next hb0
  have hlen := phases_len (co := co) (valid_shape hv)
  obtain ⟨ps, hps⟩ : ∃ ps, phasesL x co = ps := ⟨_, rfl⟩
  have hP : ∀ w1, Sl w1 w1.heap.size 1 A n (x.gs.flatMap intC) → Calls Try.prog 116 #[chV x.k A n c x.l x.cs x.p, .string co] w1 fun e w' => ∃ v, e = .returned v ∧ w'.ownsRow w1.heap.size 71 2 v ps.length (ps.flatMap Ph.cells) ∧ Below w1.heap.size w1 w' := by
    rw [← hps]; exact fun w1 h => phases_c A n c x w1 h hn hlz hs co hv
  rw [hps] at hlen ⊢
  have Hps := Lib.hid hps; clear hps
  have HP := Lib.hid hP; clear hP
  obtain ⟨l1, l2⟩ := hlen
  go_enter Try.func80, Try.ntmps80
  go_wp2_with fail
  refine (HP.out _ sl0).mono ?_
  rintro e w1 ⟨v1, rfl, ho1, hb1⟩
  obtain ⟨AT, cT, rfl⟩ := own_slice ho1
  have sT := Sl.of_own ho1
  have hbw1 := hb0.trans (hb1.mono hb0.size)
  have hov := World.ownsRow_made (base := w1.heap.size) (e := 71) (size := 2) w1 #[] 0 (Nat.le_refl _) (by simp [maxLen]) rfl
  have hbv : Below w1.heap.size w1 (w1.alloc (.cells #[] 71)) := by (repeat (first | (with_reducible assumption) | (with_reducible exact Below.refl _ _) | exact Nat.le_refl _ | exact Below.size (by with_reducible assumption) | (with_reducible refine Below.drew ?_) | (with_reducible refine below_drewN ?_ _) | (with_reducible refine Below.alloc ?_ ?_ _) | (with_reducible refine Below.setCell ?_ ?_ _) | (with_reducible refine le_alloc ?_ _) | (with_reducible refine le_set ?_ _ _) | (with_reducible refine le_drew ?_) | (with_reducible refine le_drewN ?_ _) | omega | (dsimp only; omega)))
  generalize ps.length = nn at *
  clear ho1
  go_wp2_with fail
  go_loopw [10, 17] (fun v i wr => ∃ k : Nat, k ≤ M ∧ i = .int .i64 k ∧ wr.ownsRow w1.heap.size 71 2 v k ((seeL ps start k).flatMap Ph.cells) ∧ Below w1.heap.size w1 wr) (fun _ i _ => M - (intOf i).toNat)
  case atStart => exact ⟨0, Nat.zero_le _, rfl, by simpa [seeL] using hov, hbv⟩
  case round =>
    clear hov hbv
    obtain ⟨k, hk, rfl, hov, hbw⟩ := hrel
    obtain ⟨A3, c3, rfl⟩ := own_slice hov
    have hgo : ∀ g, (Value.slice A3 k c3).ownBlock = some g → w1.heap.size ≤ g := fun g hg => (hov.lt g hg).1
    by_cases hlt : k < M
    · have e63 : k + 1 ≤ maxLen := by unfold maxLen; omega
      have e32 : (k + 1) * 24 ≤ 140737488355328 := by omega
      have hnx := seeL_next ps start k
      obtain ⟨b4, off4, rfl, hb4, x1, x2⟩ := see_get sT (by omega) start hs0 k
      have q4 := keepC hbw b4 hb4
      have j1 := Int.emod_nonneg (start + (k : Int)) (show (nn : Int) ≠ 0 by omega)
      have j2 := Int.emod_lt_of_pos (start + (k : Int)) (show (0 : Int) < nn by omega)
      have E63 := Lib.hid e63; clear e63
      have E32 := Lib.hid e32; clear e32
      have Hnx := Lib.hid hnx; clear hnx
      go_wp2_with (at_builtin; refine wpl_append _ rfl (.tmp 20) (.tmp 30) _ rfl w1.heap.size 71 q0 _ 2 24 Try.underlying32 hi hz0 hz1 hz2 rfl (by omega) _ k _ rfl (hov.alloc _) (wr.heap.size + 1) (some ⟨wr.heap.size, 0, none⟩) 1 1 (Ph.cells (seeAt ps start k)) rfl (Sl.new wr 71 _ 1 2 rfl) (phC_one _) E63.out E32.out (le_alloc hbw.size _) ?_; intro v2 w2' ho2 hg2 hat2)
      go_roundw
      case rel =>
        refine ⟨k + 1, by omega, by go_num, ?_, (hbw.alloc hbw.size _).grown hg2 (le_alloc hbw.size _) hgo⟩
        rw [Hnx.out, List.flatMap_append]; simpa using ho2
      case measure => simp [intOf]; omega
    · go_wp2_with fail
      go_ret
      obtain rfl : k = M := by omega
      exact ⟨_, rfl, own_base hov hbw1.size, hbw1.trans (hbw.mono hbw1.size)⟩
set_option maxHeartbeats 400000 in
theorem at_c (i n : Int) (w : World) : Calls Try.prog 77 #[.int .i64 i, .int .i64 n] w fun e w' => e = .returned (.bool (decide (0 ≤ i) && decide (i < n))) ∧ w = w' := by
  by_cases h : 0 ≤ i
  all_goals
    go_enter Try.func77, Try.ntmps77
    go_wp2
    go_ret
    exact ⟨ret_eq (bool_eq (by first | (simp [h]; done) | (simp; omega))), rfl⟩
set_option maxRecDepth 100000 in
set_option maxHeartbeats 1000000 in
theorem isLitAt_c (A : Option Addr) (n c : Nat) (x : Ch) (w : World) (sl : Sl w w.heap.size 1 A n (x.gs.flatMap intC)) (hn : n ≤ 1048576) (hlz : x.l.size ≤ 1048576) (hs : x.cs.size ≤ 1048576) (start : Int) (hv : validB x = true) :
    Calls Try.prog 78 #[chV x.k A n c x.l x.cs x.p, .int .i64 start] w fun e w' => e = .returned (.bool (startB (phasesL x (x.cs.extract 0 1)) start)) ∧ Below w.heap.size w w' := by
  have hb0 : Below w.heap.size w (w.alloc (.cells #[.int .i64 x.k, .slice A n c, .string x.l, .string x.cs, .int .i64 x.p] 30)) := by (repeat (first | (with_reducible assumption) | (with_reducible exact Below.refl _ _) | exact Nat.le_refl _ | exact Below.size (by with_reducible assumption) | (with_reducible refine Below.drew ?_) | (with_reducible refine below_drewN ?_ _) | (with_reducible refine Below.alloc ?_ ?_ _) | (with_reducible refine Below.setCell ?_ ?_ _) | (with_reducible refine le_alloc ?_ _) | (with_reducible refine le_set ?_ _ _) | (with_reducible refine le_drew ?_) | (with_reducible refine le_drewN ?_ _) | omega | (dsimp only; omega)))
  have sl0 := sl.next hb0
  obtain ⟨hc1, hc3⟩ := colors_one hv
  have hc1' : (1 : Int) ≤ (x.cs.size : Int) := by omega
  have hlen := phases_len (co := x.cs.extract 0 1) (valid_shape hv)
  obtain ⟨ps, hps⟩ : ∃ ps, phasesL x (x.cs.extract 0 1) = ps := ⟨_, rfl⟩
  have hP : ∀ w1, Sl w1 w1.heap.size 1 A n (x.gs.flatMap intC) → Calls Try.prog 116 #[chV x.k A n c x.l x.cs x.p, .string (x.cs.extract 0 1)] w1 fun e w' => ∃ v, e = .returned v ∧ w'.ownsRow w1.heap.size 71 2 v ps.length (ps.flatMap Ph.cells) ∧ Below w1.heap.size w1 w' := by
    rw [← hps]; exact fun w1 h => phases_c A n c x w1 h hn hlz hs _ hv
  rw [hps] at hlen ⊢
  have Hps := Lib.hid hps; clear hps
  have HP := Lib.hid hP; clear hP
  obtain ⟨l1, l2⟩ := hlen
  go_enter Try.func78, Try.ntmps78
  go_wp2_with fail
  have z1 : w.heap.size < (w.alloc (.cells #[.int .i64 x.k, .slice A n c, .string x.l, .string x.cs, .int .i64 x.p] 30)).heap.size := by simp
  obtain ⟨c0, c1, c2, c3, c4, _, _, _, _, _⟩ := chp_box (c := c) 30 sl hn hlz hs
  simp only [Nat.zero_add] at c0 c1 c2 c3 c4
  generalize w.alloc (.cells #[.int .i64 x.k, .slice A n c, .string x.l, .string x.cs, .int .i64 x.p] 30) = w1 at *
  have e1 : ∀ {w' : World}, Below w1.heap.size w1 w' → (Below w1.heap.size w1 w' ∧ (∀ x, w'.cell? ⟨w.heap.size, x, none⟩ = w1.cell? ⟨w.heap.size, x, none⟩)) := fun hb => ⟨hb, keepC hb _ z1⟩
  refine wp_region_held_drew (S := fun w' => Below w1.heap.size w1 w' ∧ (∀ x, w'.cell? ⟨w.heap.size, x, none⟩ = w1.cell? ⟨w.heap.size, x, none⟩)) (by kernel_rfl) (e1 (Below.refl _ _).drew) (fun hHeld => ?_)
  (first
    | (refine wpAnyH_take (i := 0) (v := ?_) rfl (by kernel_rfl) (by kernel_rfl) (by kernel_rfl) (fun _ _ _ h => h) (Or.inl ⟨by rfl, ?_⟩) (by assumption) ?_
       rotate_left
       focus (intro wq hSq; (try dsimp only at hSq); go_simp; (try (with_reducible rfl)); done))
    | (refine wpAnyH_take (i := 0) (v := undef) rfl (by kernel_rfl) (by kernel_rfl) (by kernel_rfl) (fun _ _ _ h => h) (Or.inr ⟨by rfl, rfl⟩) (by assumption) ?_)
    | fail "take 0")
  try simp only [Act.put, List.setIfInBounds_toArray, List.set_cons_zero, List.set_cons_succ, List.getElem_toArray, List.getElem_cons_zero]
  (first
    | (refine wpAnyH_take (i := 1) (v := ?_) rfl (by kernel_rfl) (by kernel_rfl) (by kernel_rfl) (fun _ _ _ h => h) (Or.inl ⟨by rfl, ?_⟩) (by assumption) ?_
       rotate_left
       focus (intro wq hSq; (try dsimp only at hSq); go_simp; (try (with_reducible rfl)); done))
    | (refine wpAnyH_take (i := 1) (v := undef) rfl (by kernel_rfl) (by kernel_rfl) (by kernel_rfl) (fun _ _ _ h => h) (Or.inr ⟨by rfl, rfl⟩) (by assumption) ?_)
    | fail "take 1")
  try simp only [Act.put, List.setIfInBounds_toArray, List.set_cons_zero, List.set_cons_succ, List.getElem_toArray, List.getElem_cons_zero, List.getElem_cons_succ]
  (first
    | (refine wpAnyH_take (i := 2) (v := ?_) rfl (by kernel_rfl) (by kernel_rfl) (by kernel_rfl) (fun _ _ _ h => h) (Or.inl ⟨by rfl, ?_⟩) (by assumption) ?_
       rotate_left
       focus (intro wq hSq; (try dsimp only at hSq); go_simp; (try (with_reducible rfl)); done))
    | (refine wpAnyH_take (i := 2) (v := undef) rfl (by kernel_rfl) (by kernel_rfl) (by kernel_rfl) (fun _ _ _ h => h) (Or.inr ⟨by rfl, rfl⟩) (by assumption) ?_)
    | fail "take 2")
  try simp only [Act.put, List.setIfInBounds_toArray, List.set_cons_zero, List.set_cons_succ, List.getElem_toArray, List.getElem_cons_zero, List.getElem_cons_succ]
  (first
    | (refine wpAnyH_take (i := 3) (v := ?_) rfl (by kernel_rfl) (by kernel_rfl) (by kernel_rfl) (fun _ _ _ h => h) (Or.inl ⟨by rfl, ?_⟩) (by assumption) ?_
       rotate_left
       focus (intro wq hSq; (try dsimp only at hSq); go_simp; (try (with_reducible rfl)); done))
    | (refine wpAnyH_take (i := 3) (v := undef) rfl (by kernel_rfl) (by kernel_rfl) (by kernel_rfl) (fun _ _ _ h => h) (Or.inr ⟨by rfl, rfl⟩) (by assumption) ?_)
    | fail "take 3")
  try simp only [Act.put, List.setIfInBounds_toArray, List.set_cons_zero, List.set_cons_succ, List.getElem_toArray, List.getElem_cons_zero, List.getElem_cons_succ]
  refine wpAnyH_ready (rs := [4]) (by kernel_rfl) (by simp) ?_
  refine AllReadyH.cons (o := _) rfl (fun K hK => ?_) AllReadyH.nil
  go_simp
  refine (HP.out _ (sl0.next (Below.refl _ _).drew)).mono ?_; rintro e w2 ⟨v, rfl, ho, hb2⟩; obtain ⟨AT, cT, rfl⟩ := own_slice ho; have hb12 := (Below.refl w1.heap.size w1).drew.trans hb2; have sT := Sl.of_own ho
  refine hK.out _ _ ?_ (fun hHeld => ?_)
  · exact e1 hb12
  clear hK K
  try simp only [Act.put, List.setIfInBounds_toArray, List.set_cons_zero, List.set_cons_succ, List.getElem_toArray, List.getElem_cons_zero, List.getElem_cons_succ]
  (first
    | (refine wpAnyH_take (i := 5) (v := ?_) rfl (by kernel_rfl) (by kernel_rfl) (by kernel_rfl) (fun _ _ _ h => h) (Or.inl ⟨by rfl, ?_⟩) (by assumption) ?_
       rotate_left
       focus (intro wq hSq; (try dsimp only at hSq); go_simp; (try (with_reducible rfl)); done))
    | (refine wpAnyH_take (i := 5) (v := undef) rfl (by kernel_rfl) (by kernel_rfl) (by kernel_rfl) (fun _ _ _ h => h) (Or.inr ⟨by rfl, rfl⟩) (by assumption) ?_)
    | fail "take 5")
  try simp only [Act.put, List.setIfInBounds_toArray, List.set_cons_zero, List.set_cons_succ, List.getElem_toArray, List.getElem_cons_zero, List.getElem_cons_succ]
  refine wpAnyH_done (by kernel_rfl) ?_ _
  generalize hnn : ps.length = nn at *
  have Hnn := Lib.hid hnn; clear hnn
  clear ho hHeld e1
  have hbb := hb0.trans (hb12.mono hb0.size)
  by_cases hin : 0 ≤ start ∧ start < nn
  · obtain ⟨i1, i2⟩ := hin
    obtain ⟨k, rfl⟩ := Int.eq_ofNat_of_zero_le i1
    obtain ⟨b, off, p, rfl, hb, hp, x1, x2⟩ := sT.ph k (by omega)
    have hb' : startB ps (k : Int) = !p.c.toList.isEmpty := by
      rw [startB, Int.toNat_natCast, hp]; simp
    have hk1 : (decide ((0 : Int) ≤ (k : Int)) && decide ((k : Int) < (nn : Int))) = true := by simp; omega
    have Hb' := Lib.hid hb'; clear hb'
    have Hp := Lib.hid hp; clear hp
    cases hE : p.c.toList.isEmpty
    all_goals
      go_wp2_with (go_at_call 77; refine (at_c _ _ _).mono ?_; rintro e w3 ⟨rfl, rfl⟩)
      go_ret
      exact ⟨ret_eq (bool_eq (by rw [Hb'.out, hE]; rfl)), hbb⟩
  · have hb' : startB ps start = false := by
      cases hb : startB ps start
      · rfl
      · have := startB_lt hb; have := Hnn.out; omega
    have hk1 : (decide ((0 : Int) ≤ start) && decide (start < (nn : Int))) = false := by
      rw [Bool.and_eq_false_iff]; simp; omega
    have Hb' := Lib.hid hb'; clear hb'
    clear hin
    go_wp2_with (go_at_call 77; refine (at_c _ _ _).mono ?_; rintro e w3 ⟨rfl, rfl⟩)
    go_ret
    exact ⟨ret_eq (bool_eq Hb'.out.symm), hbb⟩
end Go.Proofs.Ytgfplmfdgbklkaa
