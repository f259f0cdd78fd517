/- PlanDuties of the program. -/
import Derived.Test.YtimbakjajglppaaNextK
namespace Go.Proofs.Ytimbakjajglppaa
open Go.RowKit
def planGo (ks : List ByteArray) (fr long : Int) : Nat → Option (List Duty)
  | 0 => some []
  | k + 1 => match planGo ks fr long k with
    | none => none
    | some out => if (nextK out ks (fr + (k : Int) * long)).2 = true then some (out ++ [⟨(nextK out ks (fr + (k : Int) * long)).1, fr + (k : Int) * long, fr + (k : Int) * long + long⟩]) else none
def planBad (fr count long : Int) : Bool := !inB long 1 720 || (!inB count 0 60 || (decide (0 < count) && (!inB fr 0 143999999 || !inB (fr + count * long) 0 143999999)))
def planT (ks : List ByteArray) (fr count long : Int) : List Duty × Int := match planGo ks fr long count.toNat with | none => ([], 3) | some out => (out, 0)
def planR (ks : List ByteArray) (fr count long : Int) : List Duty × Int :=
  if keepersB ks = false then ([], 1) else if planBad fr count long = true then ([], 2) else planT ks fr count long
theorem planGo_none {ks : List ByteArray} {fr long : Int} {k : Nat} (h : planGo ks fr long k = none) : ∀ m, k ≤ m → planGo ks fr long m = none := by
  intro m hm
  induction m with
  | zero => obtain rfl : k = 0 := by omega
            exact h
  | succ m ih =>
    by_cases e : k = m + 1
    · subst e; exact h
    · rw [planGo, ih (by omega)]
def PlanPost (w : World) (r : List Duty × Int) (e : Ending) (w' : World) : Prop := ∃ v, e = .returned (.tuple #[v, .int .i64 r.2]) ∧ w'.ownsRow w.heap.size 50 3 v r.1.length (r.1.flatMap Duty.cells) ∧ Below w.heap.size w w'
theorem mul_bd {k : Nat} {c long : Int} (h1 : 0 ≤ long) (h2 : (k : Int) + 1 ≤ c) : 0 ≤ (k : Int) * long ∧ (k : Int) * long + long ≤ c * long := by
  have a := Int.mul_nonneg (show (0 : Int) ≤ k by omega) h1
  have b := Int.mul_le_mul_of_nonneg_right h2 h1
  rw [Int.add_mul] at b
  omega
theorem mul_bd2 {c long : Int} (h1 : 0 ≤ c) (h2 : c ≤ 60) (h3 : 1 ≤ long) (h4 : long ≤ 720) : 0 ≤ c * long ∧ c * long ≤ 43200 := by
  refine ⟨Int.mul_nonneg h1 (by omega), ?_⟩
  have a := Int.mul_le_mul_of_nonneg_right h2 (show 0 ≤ long by omega)
  omega
set_option maxRecDepth 100000 in
set_option maxHeartbeats 1000000 in
theorem implPlan_c (A : Option Addr) (n c : Nat) (ks : List ByteArray) (fr count long : Int) (w : World) (h : Sl w w.heap.size 1 A n (ks.flatMap strC)) (hm : n ≤ 1048576) (hnc : n ≤ c) (hs : ∀ s ∈ ks, s.size ≤ maxLen) :
    Calls Try.prog 17 #[.slice A n c, .int .i64 fr, .int .i64 count, .int .i64 long] w (PlanPost w (planR ks fr count long)) := by
  have hM : n ≤ maxLen := by unfold maxLen; omega
  cases hk : keepersB ks
  · go_enter Try.func17, Try.ntmps17
    go_wp2_with (go_at_call 40; refine (areKeepers_c A n c ks _ h hM hnc hs).mono ?_; rintro e w1 ⟨rfl, rfl⟩)
    go_ret2
    rw [show planR ks fr count long = ([], 1) by rw [planR, if_pos hk]]
    exact ⟨_, rfl, World.ownsRow_nil _ _ _ _, Below.refl _ _⟩
  have hR : planR ks fr count long = if planBad fr count long = true then ([], 2) else planT ks fr count long := by rw [planR, if_neg (by rw [hk]; simp)]
  have hbad : planBad fr count long = true → PlanPost w (planR ks fr count long) (.returned (.tuple #[.slice none 0 0, .int .i64 2])) w := fun e => by
    rw [hR, if_pos e]
    exact ⟨_, rfl, World.ownsRow_nil _ _ _ _, Below.refl _ _⟩
  have Hbad := Lib.hid hbad; clear hbad
  have HR := Lib.hid hR; clear hR
  cases h1 : inB long 1 720
  · go_enter Try.func17, Try.ntmps17
    go_wp2_with (first | (go_at_call 40; refine (areKeepers_c A n c ks _ h hM hnc hs).mono ?_; rintro e w1 ⟨rfl, rfl⟩) | (go_at_call 41; refine (within_c _ _ _ _).mono ?_; rintro e w1 ⟨rfl, rfl⟩))
    go_ret2
    exact Hbad.out (by simp [planBad, h1])
  cases h2 : inB count 0 60
  · go_enter Try.func17, Try.ntmps17
    go_wp2_with (first | (go_at_call 40; refine (areKeepers_c A n c ks _ h hM hnc hs).mono ?_; rintro e w1 ⟨rfl, rfl⟩) | (go_at_call 41; refine (within_c _ _ _ _).mono ?_; rintro e w1 ⟨rfl, rfl⟩))
    go_ret2
    exact Hbad.out (by simp [planBad, h2])
  obtain ⟨i1, i2⟩ := inB_iff.1 h1
  obtain ⟨i3, i4⟩ := inB_iff.1 h2
  obtain ⟨j1, j2⟩ := mul_bd2 i3 i4 i1 i2
  by_cases h0 : 0 < count
  · cases h3 : inB fr 0 143999999
    · go_enter Try.func17, Try.ntmps17
      go_wp2_with (first | (go_at_call 40; refine (areKeepers_c A n c ks _ h hM hnc hs).mono ?_; rintro e w1 ⟨rfl, rfl⟩) | (go_at_call 41; refine (within_c _ _ _ _).mono ?_; rintro e w1 ⟨rfl, rfl⟩) | (go_at_call 42; refine (isTime_c _ _).mono ?_; rintro e w1 ⟨rfl, rfl⟩))
      go_ret2
      exact Hbad.out (by simp [planBad, h3, h0])
    obtain ⟨i5, i6⟩ := inB_iff.1 h3
    cases h4 : inB (fr + count * long) 0 143999999
    · go_enter Try.func17, Try.ntmps17
      go_wp2_with (first | (go_at_call 40; refine (areKeepers_c A n c ks _ h hM hnc hs).mono ?_; rintro e w1 ⟨rfl, rfl⟩) | (go_at_call 41; refine (within_c _ _ _ _).mono ?_; rintro e w1 ⟨rfl, rfl⟩) | (go_at_call 42; refine (isTime_c _ _).mono ?_; rintro e w1 ⟨rfl, rfl⟩))
      go_ret2
      exact Hbad.out (by simp [planBad, h4, h0])
    · go_enter Try.func17, Try.ntmps17
      go_wp2_with (first | (go_at_call 40; refine (areKeepers_c A n c ks _ h hM hnc hs).mono ?_; rintro e w1 ⟨rfl, rfl⟩) | (go_at_call 41; refine (within_c _ _ _ _).mono ?_; rintro e w1 ⟨rfl, rfl⟩) | (go_at_call 42; refine (isTime_c _ _).mono ?_; rintro e w1 ⟨rfl, rfl⟩))
      have hgood : planR ks fr count long = planT ks fr count long := by rw [HR.out, if_neg (by simp [planBad, h1, h2, h3, h4])]
      obtain ⟨k1, k2⟩ := inB_iff.1 h4
      have hn10 : n ≤ 10 := by
        have hl := h.len strC 1 strC_len (by omega)
        simp only [keepersB, Bool.and_eq_true, decide_eq_true_eq] at hk
        omega
      have Hgood := Lib.hid hgood; clear hgood
      clear HR Hbad h1 h2 h3 h4 hk
      obtain ⟨N, rfl⟩ := Int.eq_ofNat_of_zero_le i3
      obtain ⟨q0, hi, hz0, hz1, hz2⟩ := info_parts dutyInfo
      go_loopw [10, 46] (fun v i wr => ∃ (k : Nat) (out : List Duty), k ≤ N ∧ i = .int .i64 k ∧ wr.ownsRow w.heap.size 50 3 v k (out.flatMap Duty.cells) ∧ planGo ks fr long k = some out ∧ (∀ d ∈ out, okD d) ∧ Below w.heap.size w wr) (fun _ i _ => N - (intOf i).toNat)
      case atStart => exact ⟨0, [], Nat.zero_le _, rfl, World.ownsRow_made w #[] 0 (Nat.le_refl _) (by simp [maxLen]) rfl, rfl, by simp, by (repeat (first | assumption | exact Below.refl _ _ | exact Nat.le_refl _ | exact Below.size (by assumption) | refine Below.drew ?_ | refine below_drewN ?_ _ | refine Below.alloc ?_ ?_ _ | refine Below.setCell ?_ ?_ _ | refine le_alloc ?_ _ | refine le_set ?_ _ _ | refine le_drew ?_ | refine le_drewN ?_ _ | omega))⟩
      case round =>
        obtain ⟨k, out, hkN, rfl, hown, hgo, hok, hbw⟩ := hrel
        have Hgo := Lib.hid hgo; clear hgo
        obtain ⟨A1, c1, rfl⟩ := own_slice hown
        by_cases hlt : k < N
        · obtain ⟨l1, l2⟩ := mul_bd (k := k) (c := (N : Int)) (long := long) (by omega) (by omega)
          have s1 := Sl.of_own hown
          go_wp2_with fail
          refine (nextKeeper_c A1 A k c1 n c out ks _ _ s1 (h.next hbw) (by omega) (by omega) hok).mono ?_
          rintro e w1 ⟨rfl, hb1⟩
          have ho1 := own_next hown hb1
          replace hb1 := hbw.trans (hb1.mono hbw.size)
          have hgo2 : planGo ks fr long (k + 1) = if (nextK out ks (fr + (k : Int) * long)).2 = true then some (out ++ [⟨(nextK out ks (fr + (k : Int) * long)).1, fr + (k : Int) * long, fr + (k : Int) * long + long⟩]) else none := by rw [planGo, Hgo.out]
          generalize nextK out ks (fr + (k : Int) * long) = sb at *
          obtain ⟨sk, fnd⟩ := sb
          have Hgo2 := Lib.hid hgo2; clear hgo2
          clear hown hbw s1
          cases fnd
          · go_wp2
            go_ret2
            rw [Hgood.out, planT, show ((N : Int)).toNat = N from rfl, planGo_none (k := k + 1) (by rw [Hgo2.out]; simp) N (by omega)]
            exact ⟨_, rfl, World.ownsRow_nil _ _ _ _, hb1⟩
          · have e63 : k + 1 ≤ maxLen := by unfold maxLen; omega
            have e32 : (k + 1) * 32 ≤ 140737488355328 := by omega
            have E63 := Lib.hid e63; clear e63
            have E32 := Lib.hid e32; clear e32
            go_wp2_with (at_builtin; refine wpl_append _ rfl (.tmp 63) (.tmp 70) _ rfl w.heap.size 50 q0 _ 3 32 Try.underlying25 hi hz0 hz1 hz2 rfl (by omega) _ k _ rfl (ho1.alloc _) (w1.heap.size + 1) (some ⟨w1.heap.size, 0, none⟩) 1 1 (Duty.cells ⟨sk, fr + ↑k * long, fr + ↑k * long + long⟩) rfl (Sl.new w1 50 _ 1 3 rfl) (dutyC_one _) E63.out E32.out (by simp; exact Nat.le_succ_of_le hb1.size) ?_; intro v2 w2 ho2 hg2 hat2)
            go_roundw
            case rel =>
              refine ⟨k + 1, out ++ [⟨sk, fr + ↑k * long, fr + ↑k * long + long⟩], by omega, by go_num, ?_, by rw [Hgo2.out]; simp, ?_, ?_⟩
              · rw [List.flatMap_append]; simpa using ho2
              · intro d hd
                rcases List.mem_append.1 hd with h1 | h1
                · exact hok d h1
                · simp at h1; subst h1; simp only [okD]; omega
              · refine (hb1.alloc hb1.size _).grown hg2 (by simp; exact Nat.le_succ_of_le hb1.size) fun g hg => (ho1.lt g hg).1
            case measure => simp [intOf]; omega
        · go_wp2
          go_ret2
          obtain rfl : k = N := by omega
          have hol := Sl.len Duty.cells 3 Duty.cells_len (by omega) (Sl.of_own hown)
          rw [Hgood.out, planT, show ((k : Int)).toNat = k from rfl, Hgo.out]
          exact ⟨_, rfl, by rw [hol]; exact hown, hbw⟩
  · obtain rfl : count = 0 := by omega
    have hgood : planR ks fr 0 long = ([], 0) := by rw [HR.out, if_neg (by simp [planBad, h1, h2])]; rfl
    have Hgood := Lib.hid hgood; clear hgood
    go_enter Try.func17, Try.ntmps17
    go_wp2_with (first | (go_at_call 40; refine (areKeepers_c A n c ks _ h hM hnc hs).mono ?_; rintro e w1 ⟨rfl, rfl⟩) | (go_at_call 41; refine (within_c _ _ _ _).mono ?_; rintro e w1 ⟨rfl, rfl⟩) | (go_at_call 42; refine (isTime_c _ _).mono ?_; rintro e w1 ⟨rfl, rfl⟩))
    refine wp_loop_once ?_
    go_wp2
    go_ret2
    rw [Hgood.out]
    exact ⟨_, rfl, World.ownsRow_made w #[] 0 (Nat.le_refl _) (by simp [maxLen]) rfl, by (repeat (first | assumption | exact Below.refl _ _ | exact Nat.le_refl _ | exact Below.size (by assumption) | refine Below.drew ?_ | refine below_drewN ?_ _ | refine Below.alloc ?_ ?_ _ | refine Below.setCell ?_ ?_ _ | refine le_alloc ?_ _ | refine le_set ?_ _ _ | refine le_drew ?_ | refine le_drewN ?_ _ | omega))⟩
end Go.Proofs.Ytimbakjajglppaa
