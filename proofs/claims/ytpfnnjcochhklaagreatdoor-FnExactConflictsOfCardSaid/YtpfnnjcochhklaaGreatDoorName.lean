
/- Names: both sides. -/
import Derived.Test.YtpfnnjcochhklaaGreatDoorSmall
namespace Go.Proofs.YtpfnnjcochhklaaGreatDoor
open Go.RowKit
/-- The byte at place k, 0 behind the end. -/
def bt (s : ByteArray) (k : Nat) : Int := ((s.data.toList[k]?.getD 0).toNat : Int)
theorem bt_eq (s : ByteArray) (k : Nat) (h : k < s.size) : bt s k = (s[k].toNat : Int) := by
  unfold bt
  rw [List.getElem?_eq_getElem (by simpa using h)]
  rfl
theorem toList_nil (s : ByteArray) : s.toList = [] ↔ s.size = 0 := by
  rw [ByteArray.toList_eq]
  cases s; simp [ByteArray.size]
theorem size_zero {s : ByteArray} (h : s.size = 0) : s = ByteArray.empty := by
  cases s with | mk d => cases d with | mk l => cases l with
    | nil => rfl
    | cons a l => simp [ByteArray.size] at h
theorem size_pos {s : ByteArray} (h : 0 < s.size) : s ≠ ByteArray.empty := fun e => by subst e; simp at h
theorem isE_no {s : ByteArray} (h : 0 < s.size) : s.toList.isEmpty = false := by
  rw [List.isEmpty_eq_false_iff]; exact fun e => by have := (toList_nil s).1 e; omega
theorem notNil {s : ByteArray} (h : 0 < s.size) : ¬ s.toList = [] := fun e => by have := (toList_nil s).1 e; omega
def okAt (s : ByteArray) (k : Nat) : Prop := (97 ≤ bt s k ∧ bt s k ≤ 122) ∨ (0 < k ∧ 48 ≤ bt s k ∧ bt s k ≤ 57)
instance (s : ByteArray) (k : Nat) : Decidable (okAt s k) := by unfold okAt; infer_instance
def nameB (s : ByteArray) : Bool := decide (1 ≤ s.size ∧ s.size ≤ 10 ∧ ∀ k, k < s.size → okAt s k)
theorem nameB_iff {s : ByteArray} : nameB s = true ↔ 1 ≤ s.size ∧ s.size ≤ 10 ∧ ∀ k, k < s.size → okAt s k := by simp [nameB]
theorem nameB_no {s : ByteArray} {k : Nat} (hk : k < s.size) (h : ¬ okAt s k) : nameB s = false := by
  rw [Bool.eq_false_iff]
  intro hn
  exact h ((nameB_iff.1 hn).2.2 k hk)
theorem nameB_end {s : ByteArray} {k : Nat} (h : ∀ i, i < k → okAt s i) (hk : ¬ k < s.size) : nameB s = decide (1 ≤ s.size ∧ s.size ≤ 10) := by
  rw [Bool.eq_iff_iff, nameB_iff]
  simp only [decide_eq_true_eq]
  exact ⟨fun ⟨a, b, _⟩ => ⟨a, b⟩, fun ⟨a, b⟩ => ⟨a, b, fun i hi => h i (by omega)⟩⟩
theorem ok_next {s : ByteArray} {k : Nat} (h : ∀ i, i < k → okAt s i) (hk : okAt s k) : ∀ i, i < k + 1 → okAt s i := fun i hi => by
  rcases Nat.lt_or_ge i k with h1 | h1
  · exact h i h1
  · obtain rfl : i = k := by omega
    exact hk
set_option maxRecDepth 100000 in
set_option maxHeartbeats 1000000 in
theorem isName_c (s : ByteArray) (w : World) (hs : s.size ≤ maxLen) : Calls Tryz.prog 106 #[.string s] w fun e w' => e = .returned (.bool (nameB s)) ∧ w = w' := by
  unfold maxLen at hs
  go_enter Tryz.func106, Tryz.ntmps106
  go_wp2
  go_loop [3] (fun i => ∃ k : Nat, k ≤ s.size ∧ i = .int .i64 k ∧ ∀ j, j < k → okAt s j) (fun i => s.size - (intOf i).toNat)
  case atStart => exact ⟨0, Nat.zero_le _, rfl, fun j hj => absurd hj (by omega)⟩
  case round =>
    obtain ⟨k, hk, rfl, hok⟩ := hrel
    have Hok := Lib.hid hok; clear hok
    by_cases hlt : k < s.size
    · have hb := bt_eq s k hlt
      have Hb := Lib.hid hb; clear hb
      have hkk : k = 0 ∨ 0 < k := by omega
      go_wp2_with (first | (go_at_call 125; refine (isDigit_c _ _).mono ?_; rintro e w1 ⟨rfl, rfl⟩))
      all_goals
        have hb := Hb.out
        first
        | (go_ret
           refine ⟨ret_eq (bool_eq (nameB_no hlt ?_).symm), rfl⟩
           simp_all [okAt, inB] <;> omega)
        | (go_round
           case rel => exact ⟨k + 1, by omega, by first | go_num | simp_all, ok_next Hok.out (by simp_all [okAt, inB] <;> omega)⟩
           case measure => simp_all [intOf] <;> omega)
    · have hend := nameB_end Hok.out hlt
      have hnil := toList_nil s
      have Hend := Lib.hid hend; clear hend
      have Hnil := Lib.hid hnil; clear hnil
      go_wp2_with (first | (go_at_call 30; refine (few_c _ _ _).mono ?_; rintro e w1 ⟨rfl, rfl⟩))
      all_goals
        go_ret
        rw [Hend.out]
        have hnil := Hnil.out
        refine ⟨ret_eq (bool_eq ?_), rfl⟩
        rw [Bool.eq_iff_iff]
        rcases Nat.eq_zero_or_pos s.size with h0 | h0
        · have he := size_zero h0
          simp_all
        · have he := fun h => size_pos h0 h
          simp_all
          try omega
set_option maxRecDepth 100000 in
set_option maxHeartbeats 1000000 in
theorem l01Name_c (s : ByteArray) (w : World) (hs : s.size ≤ maxLen) : Calls Tryz.prog 83 #[.string s] w fun e w' => e = .returned (.bool (nameB s)) ∧ w = w' := by
  unfold maxLen at hs
  rcases Nat.eq_zero_or_pos s.size with h0 | h0
  · obtain rfl := size_zero h0
    go_enter Tryz.func83, Tryz.ntmps83
    go_wp2
    go_ret
    exact ⟨ret_eq (bool_eq (by simp [nameB])), rfl⟩
  · have he := isE_no h0
    have he2 := notNil h0
    by_cases h10 : s.size ≤ 10
    · have hb0 := bt_eq s 0 h0
      have h01 : (0 : Int) < (s.size : Int) := by omega
      have h101 : ¬ (10 < (s.size : Int)) := by omega
      have Hb0 := Lib.hid hb0; clear hb0
      by_cases hsm : inB (s[0].toNat : Int) 97 122 = true
      · go_enter Tryz.func83, Tryz.ntmps83
        go_wp2_with (first | (go_at_call 113; refine (l01Small_c _ _).mono ?_; rintro e w1 ⟨rfl, rfl⟩))
        clear Hb0
        go_loop [3] (fun i => ∃ k : Nat, k ≤ s.size ∧ i = .int .i64 k ∧ ∀ j, j < k → okAt s j) (fun i => s.size - (intOf i).toNat)
        case atStart => exact ⟨0, Nat.zero_le _, rfl, fun j hj => absurd hj (by omega)⟩
        case round =>
          obtain ⟨k, hk, rfl, hok⟩ := hrel
          have Hok := Lib.hid hok; clear hok
          by_cases hlt : k < s.size
          · have hb := bt_eq s k hlt
            have hs0 : k = 0 → inB (s[k].toNat : Int) 97 122 = true := fun e => by subst e; exact hsm
            have Hb := Lib.hid hb; clear hb
            have Hs0 := Lib.hid hs0; clear hs0
            clear hsm
            cases hsm2 : inB (s[k].toNat : Int) 97 122 <;> cases hdg : inB (s[k].toNat : Int) 48 57
            all_goals
              go_wp2_with (first | (go_at_call 113; refine (l01Small_c _ _).mono ?_; rintro e w1 ⟨rfl, rfl⟩) | (go_at_call 114; refine (l01Digit_c _ _).mono ?_; rintro e w1 ⟨rfl, rfl⟩))
              have hb := Hb.out
              have hs0 := Hs0.out
              have hkk : k = 0 ∨ 0 < k := by omega
              first
              | (go_ret
                 refine ⟨ret_eq (bool_eq (nameB_no hlt ?_).symm), rfl⟩
                 rw [hsm2] at hs0
                 simp only [okAt, hb]
                 simp only [inB, Bool.and_eq_false_iff, decide_eq_false_iff_not] at hsm2 hdg
                 omega)
              | (go_round
                 case rel =>
                   refine ⟨k + 1, by omega, by go_num, ok_next Hok.out ?_⟩
                   rw [hsm2] at hs0
                   simp only [okAt, hb]
                   simp only [inB, Bool.and_eq_true, Bool.and_eq_false_iff, decide_eq_true_eq, decide_eq_false_iff_not] at hsm2 hdg
                   simp only [reduceCtorEq, imp_false] at hs0
                   omega
                 case measure => simp [intOf]; omega)
          · have hend := nameB_end Hok.out hlt
            have Hend := Lib.hid hend; clear hend
            go_wp2
            go_ret
            rw [Hend.out]
            exact ⟨ret_eq (bool_eq (by simp; omega)), rfl⟩
      · simp only [Bool.not_eq_true] at hsm
        go_enter Tryz.func83, Tryz.ntmps83
        go_wp2_with (first | (go_at_call 113; refine (l01Small_c _ _).mono ?_; rintro e w1 ⟨rfl, rfl⟩))
        go_ret
        refine ⟨ret_eq (bool_eq (nameB_no h0 ?_).symm), rfl⟩
        have hb0 := Hb0.out
        simp_all [okAt, inB]
        try omega
    · have h101 : 10 < (s.size : Int) := by omega
      go_enter Tryz.func83, Tryz.ntmps83
      go_wp2
      go_ret
      exact ⟨ret_eq (bool_eq (by simp [nameB]; omega)), rfl⟩
end Go.Proofs.YtpfnnjcochhklaaGreatDoor
