/- ObserveLight, both sides. -/
import Derived.Test.YtgfplmfdgbklkaaChObs
namespace Go.Proofs.Ytgfplmfdgbklkaa
open Go.RowKit
def obsR (x : Ch) (co : ByteArray) (start count : Int) : List Ph × Int :=
  if validB x = false then ([], 1) else if inB count 1 24 = false then ([], 2) else if (colB co && hasC x.cs co) = false then ([], 3)
  else if (!startB (phasesL x co) start || (x.k == 1 && decide (1 < count))) = true then ([], 6) else (seeL (phasesL x co) start count.toNat, 0)
theorem ObserveLight_len (x : Ch) (co : ByteArray) (start count : Int) : (obsR x co start count).1.length ≤ 101 := by
  unfold obsR
  split
  · simp
  split
  · simp
  · rename_i _ hc
    have := inB_iff.1 (by simpa using hc)
    split
    · simp
    split
    · simp
    · simp only [seeL_len]; omega
theorem colB_E {t : ByteArray} (h : colB t = true) : t.toList.isEmpty = false := isE_no (by rw [colB_size h]; decide)
set_option maxRecDepth 100000 in
set_option maxHeartbeats 2000000 in
theorem specObserve_c (A : Option Addr) (n c : Nat) (x : Ch) (w : World) (sl : Sl w w.heap.size 1 A n (x.gs.flatMap intC)) (hn : n ≤ 1048576) (hlz : x.l.size ≤ 1048576) (hs : x.cs.size ≤ 1048576) (co : ByteArray) (start count : Int) :
    Calls Try.prog 49 #[chV x.k A n c x.l x.cs x.p, .string co, .int .i64 start, .int .i64 count] w (PhPost w (obsR x co start count)) := by
  have hp := chp_box (c := c) 30 sl hn hlz hs
  have hb0 : Below w.heap.size w (w.alloc (.cells #[.int .i64 x.k, .slice A n c, .string x.l, .string x.cs, .int .i64 x.p] 30)) := by (repeat (first | (with_reducible assumption) | (with_reducible exact Below.refl _ _) | exact Nat.le_refl _ | exact Below.size (by with_reducible assumption) | (with_reducible refine Below.drew ?_) | (with_reducible refine below_drewN ?_ _) | (with_reducible refine Below.alloc ?_ ?_ _) | (with_reducible refine Below.setCell ?_ ?_ _) | (with_reducible refine le_alloc ?_ _) | (with_reducible refine le_set ?_ _ _) | (with_reducible refine le_drew ?_) | (with_reducible refine le_drewN ?_ _) | omega | (dsimp only; omega)))
  cases hv : validB x
  · go_enter Try.func49, Try.ntmps49
    go_wp2_with fail
    refine (l05Ok_c _ _ _ _ _ x _ hp).mono ?_
    rintro e w1 ⟨rfl, hb1⟩
    go_wp2_with fail
    go_ret2
    exact phPost_nil (by simp [obsR, hv]) (hb0.trans (hb1.mono hb0.size))
  cases hin : inB count 1 24
  · go_enter Try.func49, Try.ntmps49
    go_wp2_with fail
    refine (l05Ok_c _ _ _ _ _ x _ hp).mono ?_
    rintro e w1 ⟨rfl, hb1⟩
    have hp1 := hp.next hb1
    have hbb := hb0.trans (hb1.mono hb0.size)
    have c3 := hp1.c3
    go_wp2_with (first | (go_at_call 72; refine (l00In_c _ _ _ _).mono ?_; rintro e w9 ⟨rfl, rfl⟩) | (go_at_call 96; refine (l05Color_c _ _).mono ?_; rintro e w9 ⟨rfl, rfl⟩) | (go_at_call 97; refine (l05Contains_c x.cs co _ (by unfold maxLen; omega)).mono ?_; rintro e w9 ⟨rfl, rfl⟩))
    go_ret2
    exact phPost_nil (by simp [obsR, hv, hin]) hbb
  cases hcb : colB co
  · go_enter Try.func49, Try.ntmps49
    go_wp2_with fail
    refine (l05Ok_c _ _ _ _ _ x _ hp).mono ?_
    rintro e w1 ⟨rfl, hb1⟩
    have hp1 := hp.next hb1
    have hbb := hb0.trans (hb1.mono hb0.size)
    have c3 := hp1.c3
    go_wp2_with (first | (go_at_call 72; refine (l00In_c _ _ _ _).mono ?_; rintro e w9 ⟨rfl, rfl⟩) | (go_at_call 96; refine (l05Color_c _ _).mono ?_; rintro e w9 ⟨rfl, rfl⟩) | (go_at_call 97; refine (l05Contains_c x.cs co _ (by unfold maxLen; omega)).mono ?_; rintro e w9 ⟨rfl, rfl⟩))
    go_ret2
    exact phPost_nil (by simp [obsR, hv, hin, hcb]) hbb
  cases hcc : hasC x.cs co
  · go_enter Try.func49, Try.ntmps49
    go_wp2_with fail
    refine (l05Ok_c _ _ _ _ _ x _ hp).mono ?_
    rintro e w1 ⟨rfl, hb1⟩
    have hp1 := hp.next hb1
    have hbb := hb0.trans (hb1.mono hb0.size)
    have c3 := hp1.c3
    go_wp2_with (first | (go_at_call 72; refine (l00In_c _ _ _ _).mono ?_; rintro e w9 ⟨rfl, rfl⟩) | (go_at_call 96; refine (l05Color_c _ _).mono ?_; rintro e w9 ⟨rfl, rfl⟩) | (go_at_call 97; refine (l05Contains_c x.cs co _ (by unfold maxLen; omega)).mono ?_; rintro e w9 ⟨rfl, rfl⟩))
    go_ret2
    exact phPost_nil (by simp [obsR, hv, hin, hcb, hcc]) hbb
  cases hst : startB (phasesL x co) start
  · go_enter Try.func49, Try.ntmps49
    go_wp2_with fail
    refine (l05Ok_c _ _ _ _ _ x _ hp).mono ?_
    rintro e w1 ⟨rfl, hb1⟩
    have hp1 := hp.next hb1
    have hbb := hb0.trans (hb1.mono hb0.size)
    have c3 := hp1.c3
    go_wp2_with (first | (go_at_call 72; refine (l00In_c _ _ _ _).mono ?_; rintro e w9 ⟨rfl, rfl⟩) | (go_at_call 96; refine (l05Color_c _ _).mono ?_; rintro e w9 ⟨rfl, rfl⟩) | (go_at_call 97; refine (l05Contains_c x.cs co _ (by unfold maxLen; omega)).mono ?_; rintro e w9 ⟨rfl, rfl⟩))
    refine (l05Phases_c _ _ _ _ _ x co _ hp1 hv).mono ?_
    rintro e w2 ⟨v, rfl, ho, hb2⟩
    obtain ⟨AT, cT, rfl⟩ := own_slice ho
    have sT := Sl.of_own ho
    have hp2 := hp1.next hb2
    have k0 := hp2.c0
    have hbb2 := hbb.trans (hb2.mono hbb.size)
    obtain ⟨l1, l2⟩ := phases_len (co := co) (valid_shape hv)
    go_wp2_with (go_at_call 98; refine (l17Start_c AT _ cT _ start _ sT (by omega)).mono ?_; rintro e w9 ⟨rfl, rfl⟩)
    go_ret2
    exact phPost_nil (by simp [obsR, hv, hin, hcb, hcc, hst]) hbb2
  obtain ⟨i1, i2⟩ := inB_iff.1 hin
  obtain ⟨M, rfl⟩ := Int.eq_ofNat_of_zero_le (show 0 ≤ count by omega)
  have hsl := startB_lt hst
  by_cases hbad : x.k = 1 ∧ 1 < (M : Int)
  · obtain ⟨e1, e2⟩ := hbad
    have hk1 : (x.k == 1) = true := by simpa using e1
    have hR : obsR x co start (M : Int) = ([], 6) := by
      have : decide (1 < (M : Int)) = true := by simpa using e2
      rw [obsR, hv, hin, hcb, hcc, hst, hk1, this]; rfl
    rw [hR]
    have HR := Lib.hid hR; clear hR
    clear e1
    go_enter Try.func49, Try.ntmps49
    go_wp2_with fail
    refine (l05Ok_c _ _ _ _ _ x _ hp).mono ?_
    rintro e w1 ⟨rfl, hb1⟩
    have hp1 := hp.next hb1
    have hbb := hb0.trans (hb1.mono hb0.size)
    have c3 := hp1.c3
    go_wp2_with (first | (go_at_call 72; refine (l00In_c _ _ _ _).mono ?_; rintro e w9 ⟨rfl, rfl⟩) | (go_at_call 96; refine (l05Color_c _ _).mono ?_; rintro e w9 ⟨rfl, rfl⟩) | (go_at_call 97; refine (l05Contains_c x.cs co _ (by unfold maxLen; omega)).mono ?_; rintro e w9 ⟨rfl, rfl⟩))
    refine (l05Phases_c _ _ _ _ _ x co _ hp1 hv).mono ?_
    rintro e w2 ⟨v, rfl, ho, hb2⟩
    obtain ⟨AT, cT, rfl⟩ := own_slice ho
    have sT := Sl.of_own ho
    have hp2 := hp1.next hb2
    have k0 := hp2.c0
    have hbb2 := hbb.trans (hb2.mono hbb.size)
    obtain ⟨l1, l2⟩ := phases_len (co := co) (valid_shape hv)
    go_wp2_with (go_at_call 98; refine (l17Start_c AT _ cT _ start _ sT (by omega)).mono ?_; rintro e w9 ⟨rfl, rfl⟩)
    go_ret2
    exact phPost_nil rfl hbb2
  · have hR : obsR x co start (M : Int) = (seeL (phasesL x co) start M, 0) := by
      have : (x.k == 1 && decide (1 < (M : Int))) = false := by
        rw [Bool.and_eq_false_iff]; simp; omega
      rw [obsR, hv, hin, hcb, hcc, hst, this]; rfl
    rw [hR]
    have HR := Lib.hid hR; clear hR
    have hM : M ≤ 1000 := by omega
    by_cases hk : x.k = 1
    · have hk1 : (x.k == 1) = true := by simpa using hk
      have hm1 : ¬ 1 < (M : Int) := by omega
      clear hbad hk
      go_enter Try.func49, Try.ntmps49
      go_wp2_with fail
      refine (l05Ok_c _ _ _ _ _ x _ hp).mono ?_
      rintro e w1 ⟨rfl, hb1⟩
      have hp1 := hp.next hb1
      have hbb := hb0.trans (hb1.mono hb0.size)
      have c3 := hp1.c3
      go_wp2_with (first | (go_at_call 72; refine (l00In_c _ _ _ _).mono ?_; rintro e w9 ⟨rfl, rfl⟩) | (go_at_call 96; refine (l05Color_c _ _).mono ?_; rintro e w9 ⟨rfl, rfl⟩) | (go_at_call 97; refine (l05Contains_c x.cs co _ (by unfold maxLen; omega)).mono ?_; rintro e w9 ⟨rfl, rfl⟩))
      refine (l05Phases_c _ _ _ _ _ x co _ hp1 hv).mono ?_
      rintro e w2 ⟨v, rfl, ho, hb2⟩
      obtain ⟨AT, cT, rfl⟩ := own_slice ho
      have sT := Sl.of_own ho
      have hp2 := hp1.next hb2
      have k0 := hp2.c0
      have hbb2 := hbb.trans (hb2.mono hbb.size)
      obtain ⟨l1, l2⟩ := phases_len (co := co) (valid_shape hv)
      go_wp2_with (go_at_call 98; refine (l17Start_c AT _ cT _ start _ sT (by omega)).mono ?_; rintro e w9 ⟨rfl, rfl⟩)
      refine (l17See_c AT _ cT _ start M _ sT (by omega) (by omega) hsl.1 (by omega) hM).mono ?_
      rintro e w3 ⟨v3, rfl, ho3, hb3⟩
      go_wp2_with fail
      go_ret2
      exact ⟨v3, rfl, by rw [seeL_len]; exact own_base ho3 hbb2.size, hbb2.trans (hb3.mono hbb2.size)⟩
    · have hk1 : (x.k == 1) = false := by simpa using hk
      clear hbad hk
      go_enter Try.func49, Try.ntmps49
      go_wp2_with fail
      refine (l05Ok_c _ _ _ _ _ x _ hp).mono ?_
      rintro e w1 ⟨rfl, hb1⟩
      have hp1 := hp.next hb1
      have hbb := hb0.trans (hb1.mono hb0.size)
      have c3 := hp1.c3
      go_wp2_with (first | (go_at_call 72; refine (l00In_c _ _ _ _).mono ?_; rintro e w9 ⟨rfl, rfl⟩) | (go_at_call 96; refine (l05Color_c _ _).mono ?_; rintro e w9 ⟨rfl, rfl⟩) | (go_at_call 97; refine (l05Contains_c x.cs co _ (by unfold maxLen; omega)).mono ?_; rintro e w9 ⟨rfl, rfl⟩))
      refine (l05Phases_c _ _ _ _ _ x co _ hp1 hv).mono ?_
      rintro e w2 ⟨v, rfl, ho, hb2⟩
      obtain ⟨AT, cT, rfl⟩ := own_slice ho
      have sT := Sl.of_own ho
      have hp2 := hp1.next hb2
      have k0 := hp2.c0
      have hbb2 := hbb.trans (hb2.mono hbb.size)
      obtain ⟨l1, l2⟩ := phases_len (co := co) (valid_shape hv)
      go_wp2_with (go_at_call 98; refine (l17Start_c AT _ cT _ start _ sT (by omega)).mono ?_; rintro e w9 ⟨rfl, rfl⟩)
      refine (l17See_c AT _ cT _ start M _ sT (by omega) (by omega) hsl.1 (by omega) hM).mono ?_
      rintro e w3 ⟨v3, rfl, ho3, hb3⟩
      go_wp2_with fail
      go_ret2
      exact ⟨v3, rfl, by rw [seeL_len]; exact own_base ho3 hbb2.size, hbb2.trans (hb3.mono hbb2.size)⟩
set_option maxRecDepth 100000 in
set_option maxHeartbeats 2000000 in
theorem implObserve_c (A : Option Addr) (n c : Nat) (x : Ch) (w : World) (sl : Sl w w.heap.size 1 A n (x.gs.flatMap intC)) (hn : n ≤ 1048576) (hlz : x.l.size ≤ 1048576) (hs : x.cs.size ≤ 1048576) (co : ByteArray) (start count : Int) (hco : co.size ≤ maxLen) :
    Calls Try.prog 52 #[chV x.k A n c x.l x.cs x.p, .string co, .int .i64 start, .int .i64 count] w (PhPost w (obsR x co start count)) := by
  have hb0 : Below w.heap.size w (w.alloc (.cells #[.int .i64 x.k, .slice A n c, .string x.l, .string x.cs, .int .i64 x.p] 30)) := by (repeat (first | (with_reducible assumption) | (with_reducible exact Below.refl _ _) | exact Nat.le_refl _ | exact Below.size (by with_reducible assumption) | (with_reducible refine Below.drew ?_) | (with_reducible refine below_drewN ?_ _) | (with_reducible refine Below.alloc ?_ ?_ _) | (with_reducible refine Below.setCell ?_ ?_ _) | (with_reducible refine le_alloc ?_ _) | (with_reducible refine le_set ?_ _ _) | (with_reducible refine le_drew ?_) | (with_reducible refine le_drewN ?_ _) | omega | (dsimp only; omega)))
  have sl0 := sl.next hb0
  cases hv : validB x
  · go_enter Try.func52, Try.ntmps52
    go_wp2_with fail
    refine (implValid_c A n c x _ sl0 hn hlz hs).mono ?_
    rintro e w1 ⟨rfl, hb1⟩
    go_wp2_with fail
    go_ret2
    exact phPost_nil (by simp [obsR, hv]) (hb0.trans (hb1.mono hb0.size))
  cases hin : inB count 1 24
  · go_enter Try.func52, Try.ntmps52
    go_wp2_with fail
    refine (implValid_c A n c x _ sl0 hn hlz hs).mono ?_
    rintro e w1 ⟨rfl, hb1⟩
    have q1 := keepC hb1 w.heap.size (by simp)
    have z1 : w.heap.size < w1.heap.size := Nat.lt_of_lt_of_le (by simp) hb1.size
    have sl1 := sl0.next hb1
    have hbb := hb0.trans (hb1.mono hb0.size)
    go_wp2_with (first | (go_at_call 99; refine (within_c _ _ _ _).mono ?_; rintro e w9 ⟨rfl, rfl⟩) | (go_at_call 100; refine (isColor_c _ _ hco).mono ?_; rintro e w9 ⟨rfl, rfl⟩) | (go_at_call 101; refine (contains1_c x.cs co _ H1.out).mono ?_; rintro e w9 ⟨rfl, rfl⟩))
    go_ret2
    exact phPost_nil (by simp [obsR, hv, hin]) hbb
  cases hcb : colB co
  · go_enter Try.func52, Try.ntmps52
    go_wp2_with fail
    refine (implValid_c A n c x _ sl0 hn hlz hs).mono ?_
    rintro e w1 ⟨rfl, hb1⟩
    have q1 := keepC hb1 w.heap.size (by simp)
    have z1 : w.heap.size < w1.heap.size := Nat.lt_of_lt_of_le (by simp) hb1.size
    have sl1 := sl0.next hb1
    have hbb := hb0.trans (hb1.mono hb0.size)
    go_wp2_with (first | (go_at_call 99; refine (within_c _ _ _ _).mono ?_; rintro e w9 ⟨rfl, rfl⟩) | (go_at_call 100; refine (isColor_c _ _ hco).mono ?_; rintro e w9 ⟨rfl, rfl⟩) | (go_at_call 101; refine (contains1_c x.cs co _ H1.out).mono ?_; rintro e w9 ⟨rfl, rfl⟩))
    go_ret2
    exact phPost_nil (by simp [obsR, hv, hin, hcb]) hbb
  have h1 := colB_size hcb
  have hst' := startB_co x co (x.cs.extract 0 1) (by rw [colB_E hcb, one_ne (colors_one hv).1]) start
  have H1 := Lib.hid h1; clear h1
  cases hcc : hasC x.cs co
  · have Hst' := Lib.hid hst'; clear hst'
    go_enter Try.func52, Try.ntmps52
    go_wp2_with fail
    refine (implValid_c A n c x _ sl0 hn hlz hs).mono ?_
    rintro e w1 ⟨rfl, hb1⟩
    have q1 := keepC hb1 w.heap.size (by simp)
    have z1 : w.heap.size < w1.heap.size := Nat.lt_of_lt_of_le (by simp) hb1.size
    have sl1 := sl0.next hb1
    have hbb := hb0.trans (hb1.mono hb0.size)
    go_wp2_with (first | (go_at_call 99; refine (within_c _ _ _ _).mono ?_; rintro e w9 ⟨rfl, rfl⟩) | (go_at_call 100; refine (isColor_c _ _ hco).mono ?_; rintro e w9 ⟨rfl, rfl⟩) | (go_at_call 101; refine (contains1_c x.cs co _ H1.out).mono ?_; rintro e w9 ⟨rfl, rfl⟩))
    go_ret2
    exact phPost_nil (by simp [obsR, hv, hin, hcb, hcc]) hbb
  cases hst : startB (phasesL x co) start
  · rw [hst] at hst'
    replace hst' := hst'.symm
    have hR : obsR x co start count = ([], 6) := by rw [obsR, hv, hin, hcb, hcc, hst]; rfl
    rw [hR]
    have HR := Lib.hid hR; clear hR
    go_enter Try.func52, Try.ntmps52
    go_wp2_with fail
    refine (implValid_c A n c x _ sl0 hn hlz hs).mono ?_
    rintro e w1 ⟨rfl, hb1⟩
    have q1 := keepC hb1 w.heap.size (by simp)
    have z1 : w.heap.size < w1.heap.size := Nat.lt_of_lt_of_le (by simp) hb1.size
    have sl1 := sl0.next hb1
    have hbb := hb0.trans (hb1.mono hb0.size)
    go_wp2_with (first | (go_at_call 99; refine (within_c _ _ _ _).mono ?_; rintro e w9 ⟨rfl, rfl⟩) | (go_at_call 100; refine (isColor_c _ _ hco).mono ?_; rintro e w9 ⟨rfl, rfl⟩) | (go_at_call 101; refine (contains1_c x.cs co _ H1.out).mono ?_; rintro e w9 ⟨rfl, rfl⟩))
    refine (isLitAt_c A n c x _ sl1 hn hlz hs start hv).mono ?_
    rintro e w2 ⟨rfl, hb2⟩
    have q2 := keepC hb2 w.heap.size z1
    have sl2 := sl1.next hb2
    have hbb2 := hbb.trans (hb2.mono hbb.size)
    go_wp2_with fail
    go_ret2
    exact phPost_nil rfl hbb2
  obtain ⟨i1, i2⟩ := inB_iff.1 hin
  obtain ⟨M, rfl⟩ := Int.eq_ofNat_of_zero_le (show 0 ≤ count by omega)
  have hsl := startB_lt hst
  have hpl := (phases_len (co := co) (valid_shape hv)).2
  rw [hst] at hst'
  replace hst' := hst'.symm
  by_cases hbad : x.k = 1 ∧ 1 < (M : Int)
  · obtain ⟨e1, e2⟩ := hbad
    have hk1 : (x.k == 1) = true := by simpa using e1
    have hR : obsR x co start (M : Int) = ([], 6) := by
      have : decide (1 < (M : Int)) = true := by simpa using e2
      rw [obsR, hv, hin, hcb, hcc, hst, hk1, this]; rfl
    rw [hR]
    have HR := Lib.hid hR; clear hR
    clear e1
    go_enter Try.func52, Try.ntmps52
    go_wp2_with fail
    refine (implValid_c A n c x _ sl0 hn hlz hs).mono ?_
    rintro e w1 ⟨rfl, hb1⟩
    have q1 := keepC hb1 w.heap.size (by simp)
    have z1 : w.heap.size < w1.heap.size := Nat.lt_of_lt_of_le (by simp) hb1.size
    have sl1 := sl0.next hb1
    have hbb := hb0.trans (hb1.mono hb0.size)
    go_wp2_with (first | (go_at_call 99; refine (within_c _ _ _ _).mono ?_; rintro e w9 ⟨rfl, rfl⟩) | (go_at_call 100; refine (isColor_c _ _ hco).mono ?_; rintro e w9 ⟨rfl, rfl⟩) | (go_at_call 101; refine (contains1_c x.cs co _ H1.out).mono ?_; rintro e w9 ⟨rfl, rfl⟩))
    refine (isLitAt_c A n c x _ sl1 hn hlz hs start hv).mono ?_
    rintro e w2 ⟨rfl, hb2⟩
    have q2 := keepC hb2 w.heap.size z1
    have sl2 := sl1.next hb2
    have hbb2 := hbb.trans (hb2.mono hbb.size)
    go_wp2_with fail
    go_ret2
    exact phPost_nil rfl hbb2
  · have hR : obsR x co start (M : Int) = (seeL (phasesL x co) start M, 0) := by
      have : (x.k == 1 && decide (1 < (M : Int))) = false := by
        rw [Bool.and_eq_false_iff]; simp; omega
      rw [obsR, hv, hin, hcb, hcc, hst, this]; rfl
    rw [hR]
    have HR := Lib.hid hR; clear hR
    have hM : M ≤ 1000 := by omega
    have hs0 := hsl.1
    have hs1 : start ≤ 1000000 := by omega
    clear hsl hpl
    by_cases hk : x.k = 1
    · have hk1 : (x.k == 1) = true := by simpa using hk
      have hm1 : ¬ 1 < (M : Int) := by omega
      clear hbad hk
      go_enter Try.func52, Try.ntmps52
      go_wp2_with fail
      refine (implValid_c A n c x _ sl0 hn hlz hs).mono ?_
      rintro e w1 ⟨rfl, hb1⟩
      have q1 := keepC hb1 w.heap.size (by simp)
      have z1 : w.heap.size < w1.heap.size := Nat.lt_of_lt_of_le (by simp) hb1.size
      have sl1 := sl0.next hb1
      have hbb := hb0.trans (hb1.mono hb0.size)
      go_wp2_with (first | (go_at_call 99; refine (within_c _ _ _ _).mono ?_; rintro e w9 ⟨rfl, rfl⟩) | (go_at_call 100; refine (isColor_c _ _ hco).mono ?_; rintro e w9 ⟨rfl, rfl⟩) | (go_at_call 101; refine (contains1_c x.cs co _ H1.out).mono ?_; rintro e w9 ⟨rfl, rfl⟩))
      refine (isLitAt_c A n c x _ sl1 hn hlz hs start hv).mono ?_
      rintro e w2 ⟨rfl, hb2⟩
      have q2 := keepC hb2 w.heap.size z1
      have sl2 := sl1.next hb2
      have hbb2 := hbb.trans (hb2.mono hbb.size)
      go_wp2_with fail
      refine (observed_c A n c x _ sl2 hn hlz hs co start M hv hs0 hs1 hM).mono ?_
      rintro e w3 ⟨v3, rfl, ho3, hb3⟩
      go_wp2_with fail
      go_ret2
      exact ⟨v3, rfl, by rw [seeL_len]; exact own_base ho3 hbb2.size, hbb2.trans (hb3.mono hbb2.size)⟩
    · have hk1 : (x.k == 1) = false := by simpa using hk
      clear hbad hk
      go_enter Try.func52, Try.ntmps52
      go_wp2_with fail
      refine (implValid_c A n c x _ sl0 hn hlz hs).mono ?_
      rintro e w1 ⟨rfl, hb1⟩
      have q1 := keepC hb1 w.heap.size (by simp)
      have z1 : w.heap.size < w1.heap.size := Nat.lt_of_lt_of_le (by simp) hb1.size
      have sl1 := sl0.next hb1
      have hbb := hb0.trans (hb1.mono hb0.size)
      go_wp2_with (first | (go_at_call 99; refine (within_c _ _ _ _).mono ?_; rintro e w9 ⟨rfl, rfl⟩) | (go_at_call 100; refine (isColor_c _ _ hco).mono ?_; rintro e w9 ⟨rfl, rfl⟩) | (go_at_call 101; refine (contains1_c x.cs co _ H1.out).mono ?_; rintro e w9 ⟨rfl, rfl⟩))
      refine (isLitAt_c A n c x _ sl1 hn hlz hs start hv).mono ?_
      rintro e w2 ⟨rfl, hb2⟩
      have q2 := keepC hb2 w.heap.size z1
      have sl2 := sl1.next hb2
      have hbb2 := hbb.trans (hb2.mono hbb.size)
      go_wp2_with fail
      refine (observed_c A n c x _ sl2 hn hlz hs co start M hv hs0 hs1 hM).mono ?_
      rintro e w3 ⟨v3, rfl, ho3, hb3⟩
      go_wp2_with fail
      go_ret2
      exact ⟨v3, rfl, by rw [seeL_len]; exact own_base ho3 hbb2.size, hbb2.trans (hb3.mono hbb2.size)⟩
end Go.Proofs.Ytgfplmfdgbklkaa
