
/- Characters: the program's small functions. -/
import Derived.OwnWalk
import Derived.Test.YtpfnnjcochhklaaGreatDoorBsG
import Derived.Test.YtpfnnjcochhklaaGreatDoorChTG
namespace Go.Proofs.YtpfnnjcochhklaaGreatDoor
open Go.RowKit
theorem place_eq (b : UInt8) : Lib.indexByte [87, 82, 71, 89] (((b.toNat : Int)).toNat.toUInt8) = rankI (b.toNat : Int) - 1 := by
  rw [Int.toNat_natCast, show b.toNat.toUInt8 = b from UInt8.ofNat_toNat]
  by_cases h1 : b = 87
  · subst h1; rfl
  · by_cases h2 : b = 82
    · subst h2; rfl
    · by_cases h3 : b = 71
      · subst h3; rfl
      · by_cases h4 : b = 89
        · subst h4; rfl
        · have k1 : ¬ (b.toNat : Int) = 87 := fun e => h1 (UInt8.toNat_inj.1 (by simpa using (by omega : b.toNat = 87)))
          have k2 : ¬ (b.toNat : Int) = 82 := fun e => h2 (UInt8.toNat_inj.1 (by simpa using (by omega : b.toNat = 82)))
          have k3 : ¬ (b.toNat : Int) = 71 := fun e => h3 (UInt8.toNat_inj.1 (by simpa using (by omega : b.toNat = 71)))
          have k4 : ¬ (b.toNat : Int) = 89 := fun e => h4 (UInt8.toNat_inj.1 (by simpa using (by omega : b.toNat = 89)))
          rw [rankI, if_neg k1, if_neg k2, if_neg k3, if_neg k4]
          simp [Lib.indexByte, Ne.symm h1, Ne.symm h2, Ne.symm h3, Ne.symm h4]
set_option maxHeartbeats 400000 in
theorem isQuick_c (n : Int) (w : World) : Calls Tryz.prog 161 #[.int .i64 n] w fun e w' => e = .returned (.bool (decide (n = 6) || decide (n = 7))) ∧ w = w' := by
  go_enter Tryz.func161, Tryz.ntmps161
  go_wp2
  all_goals
    go_ret
    exact ⟨ret_eq (bool_eq (by rw [Bool.eq_iff_iff]; simp_all)), rfl⟩
def flashR (k : Int) : Int := if k = 2 then 10 else if k = 4 then 5 else if k = 5 then 20 else if k = 6 then 5 else if k = 7 then 2 else if k = 8 then 5 else 0
def gapR (k : Int) : Int := if k = 2 then 10 else if k = 4 then 15 else if k = 5 then 20 else if k = 6 then 5 else if k = 7 then 3 else if k = 8 then 5 else 0
def restR (k : Int) : Int := if k = 2 then 15 else if k = 4 then 20 else if k = 5 then 25 else if k = 6 then 20 else if k = 7 then 10 else if k = 8 then 30 else 0
set_option maxHeartbeats 400000 in
theorem rhythm_c (n : Int) (w : World) : Calls Tryz.prog 162 #[.int .i64 n] w fun e w' => e = .returned (.tuple #[.int .i64 (flashR n), .int .i64 (gapR n), .int .i64 (restR n)]) ∧ w = w' := by
  go_enter Tryz.func162, Tryz.ntmps162
  go_wp2
  all_goals
    go_ret3
    refine ⟨?_, rfl⟩
    simp_all [flashR, gapR, restR]
set_option maxRecDepth 100000 in
set_option maxHeartbeats 400000 in
theorem sumOf_c (A : Option Addr) (n c : Nat) (gs : List Int) (w : World) (h : Sl w w.heap.size 1 A n (gs.flatMap intC)) (hm : n ≤ 1048576) (hb : ∀ x ∈ gs, -1000000 ≤ x ∧ x ≤ 1000000) :
    Calls Tryz.prog 163 #[.slice A n c] w fun e w' => e = .returned (.int .i64 gs.sum) ∧ w = w' := by
  have hl := h.len intC 1 intC_len (by omega)
  have Hl := Lib.hid hl; clear hl
  go_enter Tryz.func163, Tryz.ntmps163
  go_wp2
  go_loop [3, 8] (fun t i => ∃ k : Nat, k ≤ n ∧ i = .int .i64 k ∧ t = .int .i64 (gs.take k).sum) (fun _ i => n - (intOf i).toNat)
  case atStart => exact ⟨0, Nat.zero_le _, rfl, rfl⟩
  case round =>
    obtain ⟨k, hk, rfl, rfl⟩ := hrel
    by_cases hlt : k < n
    · obtain ⟨b, off, x, rfl, hbb, hx, c1⟩ := h.int k hlt
      have hsa := sum_abs (gs := gs.take k) fun y hy => hb y (List.mem_of_mem_take hy)
      rw [List.length_take_of_le (by rw [Hl.out]; omega)] at hsa
      have hxb := hb x (List.mem_of_getElem? hx)
      obtain ⟨u1, u2⟩ := hsa
      obtain ⟨u3, u4⟩ := hxb
      have Hx := Lib.hid hx; clear hx
      go_wp2
      go_round
      case rel => exact ⟨k + 1, by omega, by go_num, int_eq (by rw [sum_next Hx.out])⟩
      case measure => simp [intOf]; omega
    · go_wp2
      go_ret
      exact ⟨ret_eq (int_eq (by rw [List.take_of_length_le (by rw [Hl.out]; omega)])), rfl⟩
set_option maxRecDepth 100000 in
set_option maxHeartbeats 1000000 in
theorem areCharacterColors_c (s : ByteArray) (w : World) (hs : s.size ≤ maxLen) :
    Calls Tryz.prog 145 #[.string s] w fun e w' => e = .returned (.bool (colorsB s)) ∧ w = w' := by
  unfold maxLen at hs
  go_enter Tryz.func145, Tryz.ntmps145
  go_wp2
  go_loop [3, 4] (fun p i => ∃ k : Nat, k ≤ s.size ∧ i = .int .i64 k ∧ p = .int .i64 (if k = 0 then -1 else rankI (bt s (k - 1)) - 1) ∧ ∀ j, j < k → colOk s j = true) (fun _ i => s.size - (intOf i).toNat)
  case atStart => exact ⟨0, Nat.zero_le _, rfl, rfl, fun j hj => absurd hj (by omega)⟩
  case round =>
    obtain ⟨k, hk, rfl, rfl, hok⟩ := hrel
    obtain ⟨q, hq⟩ : ∃ q, (if k = 0 then (-1 : Int) else rankI (bt s (k - 1)) - 1) = q := ⟨_, rfl⟩
    rw [hq]
    by_cases hlt : k < s.size
    · have hb := bt_eq s k hlt
      have hpl := place_eq s[k]
      have hco : colOk s k = !decide (rankI (s[k].toNat : Int) - 1 ≤ q) := by
        rw [← hq, ← hb]
        by_cases h0 : k = 0
        · subst h0
          simp [colOk]; rw [Bool.eq_iff_iff]; simp; omega
        · have hp := hok (k - 1) (by omega)
          have hp0 : 0 < rankI (bt s (k - 1)) := by simp [colOk] at hp; exact hp.1
          rw [if_neg h0, Bool.eq_iff_iff]
          simp [colOk, h0]; omega
      have h01 : (0 : Int) ≤ (k : Int) := by omega
      have h02 : (k : Int) < (s.size : Int) := by omega
      have Hok := Lib.hid hok; clear hok
      have Hq := Lib.hid hq; clear hq
      have Hb := Lib.hid hb; clear hb
      cases hdc : decide (rankI (s[k].toNat : Int) - 1 ≤ q)
      · rw [hdc] at hco
        have Hco := Lib.hid hco; clear hco
        go_wp2_with (go_at_call 157; refine (indexByte_c _ _ _).mono ?_; rintro e w1 ⟨rfl, rfl⟩; rw [hpl])
        go_round
        case rel =>
          refine ⟨k + 1, by omega, by go_num, ?_, all_next Hok.out Hco.out⟩
          rw [if_neg (by omega), Nat.add_sub_cancel, Hb.out]
        case measure => simp [intOf]; omega
      · rw [hdc] at hco
        have Hco := Lib.hid hco; clear hco
        go_wp2_with (go_at_call 157; refine (indexByte_c _ _ _).mono ?_; rintro e w1 ⟨rfl, rfl⟩; rw [hpl])
        go_ret
        exact ⟨ret_eq (bool_eq (by rw [colorsB, allB_no hlt Hco.out]; rfl)), rfl⟩
    · have hall : allB s.size (colOk s) = true := allB_end hok hlt
      have Hall := Lib.hid hall; clear hall
      have Hok := Lib.hid hok; clear hok
      have Hq := Lib.hid hq; clear hq
      go_wp2_with (go_at_call 124; refine (within_c _ _ _ _).mono ?_; rintro e w1 ⟨rfl, rfl⟩)
      go_ret
      exact ⟨ret_eq (bool_eq (by rw [colorsB, Hall.out, inB]; rw [Bool.eq_iff_iff]; simp; omega)), rfl⟩
set_option maxRecDepth 100000 in
set_option maxHeartbeats 1000000 in
theorem equalInt_c (A A' : Option Addr) (n n' c c' : Nat) (xs ys : List Int) (w : World) (h : Sl w w.heap.size 1 A n (xs.flatMap intC)) (h' : Sl w w.heap.size 1 A' n' (ys.flatMap intC)) (hm : n ≤ maxLen) (hm' : n' ≤ maxLen) :
    Calls Tryz.prog 159 #[.slice A n c, .slice A' n' c'] w fun e w' => e = .returned (.bool (decide (xs = ys))) ∧ Below w.heap.size w w' := by
  unfold maxLen at hm hm'
  have hl := h.len intC 1 intC_len (by omega)
  have hl' := h'.len intC 1 intC_len (by omega)
  by_cases hnn : n = n'
  · subst hnn
    have Hl := Lib.hid hl; clear hl
    have Hl' := Lib.hid hl'; clear hl'
    go_enter Tryz.func159, Tryz.ntmps159
    go_wp2
    go_loopw [13] (fun i wr => ∃ k : Nat, k ≤ n ∧ i = .int .i64 k ∧ (∀ j, j < k → xs[j]? = ys[j]?) ∧ Below w.heap.size w wr) (fun i _ => n - (intOf i).toNat)
    case atStart => exact ⟨0, Nat.zero_le _, rfl, fun j hj => absurd hj (by omega), Below.refl _ _⟩
    case round =>
      obtain ⟨k, hk, rfl, hok, hbw⟩ := hrel
      by_cases hlt : k < n
      · obtain ⟨b, off, d, rfl, hb, hd, c1⟩ := h.int k hlt
        obtain ⟨b', off', d', rfl, hb', hd', c1'⟩ := h'.int k hlt
        have Hok := Lib.hid hok; clear hok
        have Hd := Lib.hid hd; clear hd
        have Hd' := Lib.hid hd'; clear hd'
        have j1 : (0 : Int) ≤ (k : Int) := by omega
        have j2 : (k : Int) < (n : Int) := by omega
        have q1 := keepC hbw b hb
        have q2 := keepC hbw b' hb'
        cases hdd : (d == d')
        · have hne : d ≠ d' := by simpa using hdd
          go_wp2
          go_quiet (fail)
          go_wp2
          go_ret
          refine ⟨ret_eq (bool_eq ?_), by (repeat (first | (with_reducible assumption) | (with_reducible exact Below.refl _ _) | exact Nat.le_refl _ | exact Below.size (by with_reducible assumption) | (with_reducible refine Below.drew ?_) | (with_reducible refine below_drewN ?_ _) | (with_reducible refine Below.alloc ?_ ?_ _) | (with_reducible refine Below.setCell ?_ ?_ _) | (with_reducible refine le_alloc ?_ _) | (with_reducible refine le_set ?_ _ _) | (with_reducible refine le_drew ?_) | (with_reducible refine le_drewN ?_ _) | omega | (dsimp only; omega)))⟩
          symm
          apply decide_eq_false
          intro e
          have := Hd.out
          rw [e, Hd'.out] at this
          exact hne (Option.some.inj this).symm
        · obtain rfl : d = d' := by simpa using hdd
          clear hdd
          go_wp2
          go_quiet (fail)
          go_wp2
          go_roundw
          case rel =>
            refine ⟨k + 1, by omega, by go_num, ?_, by (repeat (first | (with_reducible assumption) | (with_reducible exact Below.refl _ _) | exact Nat.le_refl _ | exact Below.size (by with_reducible assumption) | (with_reducible refine Below.drew ?_) | (with_reducible refine below_drewN ?_ _) | (with_reducible refine Below.alloc ?_ ?_ _) | (with_reducible refine Below.setCell ?_ ?_ _) | (with_reducible refine le_alloc ?_ _) | (with_reducible refine le_set ?_ _ _) | (with_reducible refine le_drew ?_) | (with_reducible refine le_drewN ?_ _) | omega | (dsimp only; omega)))⟩
            intro j hj
            by_cases hjk : j < k
            · exact Hok.out j hjk
            · obtain rfl : j = k := by omega
              rw [Hd.out, Hd'.out]
          case measure => simp [intOf]; omega
      · obtain rfl : k = n := by omega
        have hxy : xs = ys := by
          apply List.ext_getElem?
          intro j
          by_cases hj : j < k
          · exact hok j hj
          · rw [List.getElem?_eq_none (by rw [Hl.out]; omega), List.getElem?_eq_none (by rw [Hl'.out]; omega)]
        have Hok := Lib.hid hok; clear hok
        have Hxy := Lib.hid hxy; clear hxy
        go_wp2
        go_ret
        exact ⟨ret_eq (bool_eq (by rw [Hxy.out]; simp)), hbw⟩
  · have hne : ((n : Int) == (n' : Int)) = false := by simp; omega
    have hxy : ¬ xs = ys := fun e => hnn (by rw [← hl, e, hl'])
    have Hl := Lib.hid hl; clear hl
    have Hl' := Lib.hid hl'; clear hl'
    have Hxy := Lib.hid hxy; clear hxy
    go_enter Tryz.func159, Tryz.ntmps159
    go_wp2
    go_ret
    exact ⟨ret_eq (bool_eq (decide_eq_false Hxy.out).symm), Below.refl _ _⟩
end Go.Proofs.YtpfnnjcochhklaaGreatDoor
