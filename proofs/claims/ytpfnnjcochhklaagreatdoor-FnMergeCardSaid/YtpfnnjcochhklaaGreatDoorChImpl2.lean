
/- Characters: the program's group, signs and fitness. -/
import Derived.ChangeKeysEq
import Derived.Test.YtpfnnjcochhklaaGreatDoorChImpl1
import Derived.Test.YtpfnnjcochhklaaGreatDoorMkG
namespace Go.Proofs.YtpfnnjcochhklaaGreatDoor
open Go.RowKit
set_option maxRecDepth 100000 in
set_option maxHeartbeats 1000000 in
theorem isGroup_c (A : Option Addr) (n c : Nat) (gs : List Int) (w : World) (h : Sl w w.heap.size 1 A n (gs.flatMap intC)) (hm : n ≤ 1048576) :
    Calls Tryz.prog 158 #[.slice A n c] w fun e w' => e = .returned (.bool (groupB gs)) ∧ Below w.heap.size w w' := by
  have hl := h.len intC 1 intC_len (by omega)
  have Hl := Lib.hid hl; clear hl
  go_enter Tryz.func158, Tryz.ntmps158
  go_wp2
  go_loop [3, 8] (fun t i => ∃ k : Nat, k ≤ n ∧ i = .int .i64 k ∧ t = .int .i64 (gs.take k).sum ∧ ∀ j, j < k → goodG gs j = true) (fun _ i => n - (intOf i).toNat)
  case atStart => exact ⟨0, Nat.zero_le _, rfl, rfl, fun j hj => absurd hj (by omega)⟩
  case round =>
    obtain ⟨k, hk, rfl, rfl, hok⟩ := hrel
    have hsb := sum_bd (good_take hok)
    rw [List.length_take_of_le (by rw [Hl.out]; omega)] at hsb
    obtain ⟨u1, u2⟩ := hsb
    by_cases hlt : k < n
    · obtain ⟨b, off, x, rfl, hbb, hx, c1⟩ := h.int k hlt
      have hga := goodG_at hx
      have Hok := Lib.hid hok; clear hok
      cases hin : inB x 1 9
      · have Hx := Lib.hid hx; clear hx
        have Hga := Lib.hid hga; clear hga
        go_wp2_with (first | (go_at_call 124; refine (within_c _ _ _ _).mono ?_; rintro e w1 ⟨rfl, rfl⟩))
        go_ret
        exact ⟨ret_eq (bool_eq (by rw [groupB, allB_no (k := k) (by rw [Hl.out]; exact hlt) (by rw [Hga.out, hin])]; rfl)), Below.refl _ _⟩
      · obtain ⟨u3, u4⟩ := inB_iff.1 hin
        have Hx := Lib.hid hx; clear hx
        have Hga := Lib.hid hga; clear hga
        go_wp2_with (first | (go_at_call 124; refine (within_c _ _ _ _).mono ?_; rintro e w1 ⟨rfl, rfl⟩))
        go_round
        case rel => exact ⟨k + 1, by omega, by go_num, int_eq (by rw [sum_next Hx.out]), all_next Hok.out (by rw [Hga.out, hin])⟩
        case measure => simp [intOf]; omega
    · obtain rfl : k = n := by omega
      have hall : ∀ j, j < gs.length → goodG gs j = true := by rw [Hl.out]; exact hok
      have htk : gs.take k = gs := List.take_of_length_le (by rw [Hl.out]; omega)
      have hgb : groupB gs = (decide (gs.length ≤ 4) && (decide (gs.sum ≤ 12) && !decide (gs = [1]))) := by rw [groupB, allB_iff.2 hall, Bool.true_and]
      rw [htk] at u1 u2 ⊢
      rw [Hl.out] at hgb
      clear hall htk hok
      generalize gs.sum = sm at *
      have Hgb := Lib.hid hgb; clear hgb
      cases h4 : decide ((k : Int) ≤ 4)
      · go_wp2_with (first | (go_at_call 30; refine (few_c _ _ _).mono ?_; rintro e w1 ⟨rfl, rfl⟩) | fail)
        go_ret
        refine ⟨ret_eq (bool_eq ?_), Below.refl _ _⟩
        have : ¬ k ≤ 4 := by have := of_decide_eq_false h4; omega
        rw [Hgb.out, decide_eq_false this]; rfl
      · have h4' : k ≤ 4 := by have := of_decide_eq_true h4; omega
        cases h12 : decide (sm ≤ 12)
        · go_wp2_with (first | (go_at_call 30; refine (few_c _ _ _).mono ?_; rintro e w1 ⟨rfl, rfl⟩) | fail)
          go_ret
          refine ⟨ret_eq (bool_eq ?_), Below.refl _ _⟩
          rw [Hgb.out, h12]; simp
        · go_wp2_with (first | (go_at_call 30; refine (few_c _ _ _).mono ?_; rintro e w1 ⟨rfl, rfl⟩) | fail)
          refine (equalInt_c _ _ _ _ _ _ gs [1] _ (h.next (by (repeat (first | (with_reducible assumption) | (with_reducible exact Below.refl _ _) | exact Nat.le_refl _ | exact Below.size (by with_reducible assumption) | (with_reducible refine Below.drew ?_) | (with_reducible refine below_drewN ?_ _) | (with_reducible refine Below.alloc ?_ ?_ _) | (with_reducible refine Below.setCell ?_ ?_ _) | (with_reducible refine le_alloc ?_ _) | (with_reducible refine le_set ?_ _ _) | (with_reducible refine le_drew ?_) | (with_reducible refine le_drewN ?_ _) | omega | (dsimp only; omega))))) (by simpa [intC] using Sl.new _ _ [.int .i64 1] 1 1 rfl) (by unfold maxLen; omega) (by simp [maxLen])).mono ?_
          rintro e w2 ⟨rfl, hb2⟩
          go_wp2_with fail
          go_ret
          refine ⟨ret_eq (bool_eq ?_), Below.trans (by (repeat (first | (with_reducible assumption) | (with_reducible exact Below.refl _ _) | exact Nat.le_refl _ | exact Below.size (by with_reducible assumption) | (with_reducible refine Below.drew ?_) | (with_reducible refine below_drewN ?_ _) | (with_reducible refine Below.alloc ?_ ?_ _) | (with_reducible refine Below.setCell ?_ ?_ _) | (with_reducible refine le_alloc ?_ _) | (with_reducible refine le_set ?_ _ _) | (with_reducible refine le_drew ?_) | (with_reducible refine le_drewN ?_ _) | omega | (dsimp only; omega)))) (hb2.mono (by simp))⟩
          rw [Hgb.out, h12, decide_eq_true h4']; simp
def signsV (l : ByteArray) : ByteArray := bif letterB l then morse (bt l 0 - 65).toNat else ByteArray.empty
theorem one_list {l : ByteArray} (h : l.size = 1) : l.toList = [l[0]] := by
  have e : l.toList = l.data.toList := ByteArray.toList_eq l
  rw [e]
  have h1 : l.data.toList.length = 1 := h
  obtain ⟨x, hx⟩ := List.length_eq_one_iff.1 h1
  rw [hx]
  have : l[0] = l.data.toList[0]'(by omega) := rfl
  rw [this]
  simp [hx]
theorem run_index_strs (j : Nat) (s : ByteArray) (k : IntKind) (w : World) (cs : Array Value) (hj : (j : Int) < 26) (h : cs[j]? = some (.string s)) :
    (Instr.index 176 (.agg cs) (.int k j)).run Tryz.prog w = .ok (.string s) w := by
  have hu : Tryz.prog.underlying 176 = some (.array 26 9) := by kernel_rfl
  have hi : (0 : Int) ≤ (j : Int) ∧ (j : Int) < ((26 : Nat) : Int) := by omega
  obtain ⟨i0, h0, h1, h2, h3⟩ := info_parts strInfo
  have hs : Tryz.prog.cellsOf 9 = 1 := by kernel_rfl
  simp [Instr.index, run_underlying hu, asIntOf, hi, run_sizeOf (w := w) h0, hs, go_sem, h, show j < 26 by omega]
set_option maxRecDepth 100000 in
set_option maxHeartbeats 1000000 in
theorem signsOf_c (l : ByteArray) (w : World) (_ : l.size ≤ maxLen) :
    Calls Tryz.prog 160 #[.string l] w fun e w' => e = .returned (.string (signsV l)) ∧ w = w' := by
  by_cases h1 : l.size = 1
  · have h0 : 0 < l.size := by omega
    have hol : l.toList = [l[0]'h0] := one_list h1
    have hb0 := bt_eq l 0 h0
    have hle : letterB l = (decide (65 ≤ ((l[0]'h0).toNat : Int)) && decide (((l[0]'h0).toNat : Int) ≤ 90)) := by simp [letterB, h1, hb0]
    have k1 : Op.bytesLess l.toList [65] = decide (((l[0]'h0).toNat : Int) < 65) := by rw [hol, Bool.eq_iff_iff]; simp [Op.bytesLess, UInt8.lt_iff_toNat_lt]; omega
    have k2 : (!Op.bytesLess l.toList [90] && !l.toList == [90]) = decide (90 < ((l[0]'h0).toNat : Int)) := by
      rw [hol, Bool.eq_iff_iff]
      simp [Op.bytesLess, UInt8.lt_iff_toNat_lt, ← UInt8.toNat_inj]
      omega
    clear hol
    have hz : (0 : Int) < (l.size : Int) := by omega
    have hz1 : ((l.size : Int) != 1) = false := by simp [h1]
    clear h1
    cases d1 : decide (((l[0]'h0).toNat : Int) < 65)
    · cases d2 : decide (90 < ((l[0]'h0).toNat : Int))
      · have e1 : ¬ ((l[0]'h0).toNat : Int) < 65 := of_decide_eq_false d1
        have e2 : ¬ 90 < ((l[0]'h0).toNat : Int) := of_decide_eq_false d2
        obtain ⟨j, hj⟩ : ∃ j : Nat, ((l[0]'h0).toNat : Int) = 65 + (j : Int) := ⟨(l[0]'h0).toNat - 65, by omega⟩
        have hv : signsV l = morse j := by
          rw [signsV, hle, hb0, hj]
          rw [decide_eq_true (by omega), decide_eq_true (by omega)]
          simp only [Bool.and_true, cond_true]
          congr 1
          omega
        have hma := morse_at j (by omega)
        rw [hv]
        generalize morse j = s at *
        have j1 : (0 : Int) ≤ (j : Int) := by omega
        have j2 : (j : Int) < 26 := by omega
        have j3 : (65 : Int) + (j : Int) - 65 = (j : Int) := by omega
        rw [d1] at k1
        rw [d2] at k2
        clear d1 d2 e1 e2
        have Hv := Lib.hid hv; clear hv
        have Hle := Lib.hid hle; clear hle
        have Hb0 := Lib.hid hb0; clear hb0
        have Hma := Lib.hid hma; clear hma
        go_enter Tryz.func160, Tryz.ntmps160
        go_wp2
        rw [run_index_strs j s _ _ _ j2 Hma.out]
        simp only [Result.andThen]
        rw [Oper.upon_value]
        go_wp2
        go_ret
        exact ⟨rfl, rfl⟩
      · rw [d1] at k1
        rw [d2] at k2
        have hv : signsV l = ByteArray.empty := by
          have := of_decide_eq_true d2
          rw [signsV, hle, decide_eq_false (by omega : ¬ ((l[0]'h0).toNat : Int) ≤ 90)]; simp
        rw [hv]
        have Hv := Lib.hid hv; clear hv
        have Hle := Lib.hid hle; clear hle
        have Hb0 := Lib.hid hb0; clear hb0
        go_enter Tryz.func160, Tryz.ntmps160
        go_wp2
        go_ret
        exact ⟨rfl, rfl⟩
    · rw [d1] at k1
      have hv : signsV l = ByteArray.empty := by
        have := of_decide_eq_true d1
        rw [signsV, hle, decide_eq_false (by omega : ¬ 65 ≤ ((l[0]'h0).toNat : Int))]; simp
      rw [hv]
      have Hv := Lib.hid hv; clear hv
      have Hle := Lib.hid hle; clear hle
      have Hb0 := Lib.hid hb0; clear hb0
      go_enter Tryz.func160, Tryz.ntmps160
      go_wp2
      go_ret
      exact ⟨rfl, rfl⟩
  · have hle : letterB l = false := by simp [letterB, h1]
    have hz1 : ((l.size : Int) != 1) = true := by simp; omega
    have Hle := Lib.hid hle; clear hle
    go_enter Tryz.func160, Tryz.ntmps160
    go_wp2
    go_ret
    exact ⟨ret_eq (by rw [signsV, Hle.out]; rfl), rfl⟩
end Go.Proofs.YtpfnnjcochhklaaGreatDoor
