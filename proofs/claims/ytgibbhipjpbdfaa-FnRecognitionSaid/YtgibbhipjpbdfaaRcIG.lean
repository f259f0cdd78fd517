/- RcIG: several of my texts in one. -/
import Derived.Test.YtgibbhipjpbdfaaRcFG
import Derived.Test.YtgibbhipjpbdfaaCfI
import Derived.Test.YtgibbhipjpbdfaaCfS
import Derived.Test.YtgibbhipjpbdfaaRcSG
import Derived.Test.YtgibbhipjpbdfaaBase2
import Derived.Test.YtgibbhipjpbdfaaChSpec2
import Derived.Test.YtgibbhipjpbdfaaChValid
import Derived.Test.YtgibbhipjpbdfaaChPhI

/- Recognition: are phases valid: both sides. -/
namespace Go.Proofs.Ytgibbhipjpbdfaa
open Go.RowKit
def okPh (p : Ph) : Bool := inB p.len 1 600 && (p.c.toList.isEmpty || colB p.c)
def vPh (ps : List Ph) : Bool := ps.all okPh && (inB ps.length 1 40 && inB (totI ps) 0 600)
theorem totI_nx {ps : List Ph} {k : Nat} {p : Ph} (h : ps[k]? = some p) : totI (ps.take (k + 1)) = totI (ps.take k) + p.len := by
  simp [totI, List.take_add_one, h]
theorem all_nx {ps : List Ph} {k : Nat} {p : Ph} (h : ps[k]? = some p) : (ps.take (k + 1)).all okPh = ((ps.take k).all okPh && okPh p) := by
  simp [List.take_add_one, h]
theorem all_no {ps : List Ph} {k : Nat} {p : Ph} (h : ps[k]? = some p) (hn : okPh p = false) : vPh ps = false := by
  have : ps.all okPh = false := by
    rw [List.all_eq_false]
    exact ⟨p, List.mem_of_getElem? h, by simp [hn]⟩
  rw [vPh, this, Bool.false_and]
set_option maxRecDepth 100000 in
set_option maxHeartbeats 2000000 in
theorem validPhases_c (A : Option Addr) (n c : Nat) (ps : List Ph) (w : World) (h : Sl w w.heap.size 2 A n (ps.flatMap Ph.cells)) (hm : n ≤ 1048576) (hz : ∀ p ∈ ps, p.c.size ≤ maxLen) :
    Calls Try.prog 32 #[.slice A n c] w fun e w' => e = .returned (.bool (vPh ps)) ∧ Below w.heap.size w w' := by
  have hl := h.len Ph.cells 2 Ph.cells_len (by omega)
  have Hl := Lib.hid hl; clear hl
  go_enter Try.func32, Try.ntmps32
  go_wp2_with fail
  go_loopw [3, 8] (fun y i wr => ∃ k : Nat, k ≤ n ∧ i = .int .i64 k ∧ y = .int .i64 (totI (ps.take k)) ∧ Hid ((ps.take k).all okPh = true) ∧ (0 ≤ totI (ps.take k) ∧ totI (ps.take k) ≤ 600 * k) ∧ Below w.heap.size w wr) (fun _ i _ => n - (intOf i).toNat)
  case atStart => exact ⟨0, Nat.zero_le _, rfl, rfl, Lib.hid rfl, by simp [totI], Below.refl _ _⟩
  case round =>
    obtain ⟨k, hk, rfl, rfl, Ha, hTb, hbw⟩ := hrel
    by_cases hlt : k < n
    · obtain ⟨b, off, p, rfl, hb', hx, d0, d1⟩ := (h.next hbw).ph k hlt
      have i0 : (0 : Int) ≤ (k : Int) := by omega
      have i1 : (k : Int) < (n : Int) := by omega
      have hTn := totI_nx hx
      have hAn := all_nx hx
      have hno := fun h => all_no hx h
      have hpz := hz p (List.mem_of_getElem? hx)
      obtain ⟨T, hT⟩ : ∃ T, totI (ps.take k) = T := ⟨_, rfl⟩
      rw [hT] at hTn hTb ⊢
      obtain ⟨W, hW⟩ : ∃ W, inB p.len 1 600 = W := ⟨_, rfl⟩
      obtain ⟨E, hE⟩ : ∃ E, p.c.toList.isEmpty = E := ⟨_, rfl⟩
      obtain ⟨C, hC⟩ : ∃ C, colB p.c = C := ⟨_, rfl⟩
      have hok : okPh p = (W && (E || C)) := by rw [okPh, hW, hE, hC]
      rw [hok] at hno hAn
      have Hx := Lib.hid hx; clear hx
      have HTn := Lib.hid hTn; clear hTn
      have HAn := Lib.hid hAn; clear hAn
      have HNo := Lib.hid hno; clear hno
      have HT := Lib.hid hT; clear hT
      have Hok := Lib.hid hok; clear hok
      have hWc : ∀ w1, Calls Try.prog 67 #[.int .i64 p.len, .int .i64 1, .int .i64 600] w1 fun e w' => e = .returned (.bool W) ∧ w1 = w' := fun w1 => hW ▸ within_c _ _ _ _
      have hCc : ∀ w1, Calls Try.prog 68 #[.string p.c] w1 fun e w' => e = .returned (.bool C) ∧ w1 = w' := fun w1 => hC ▸ isColor_c _ _ hpz
      have hbX : Below wr.heap.size wr (wr.alloc (.cells #[.string p.c, .int .i64 p.len] 58)) := (Below.refl _ _).alloc (Nat.le_refl _) _
      have hbx := hbw.trans (hbX.mono hbw.size)
      clear hbX hC
      have HW := Lib.hid hWc; clear hWc
      have HC := Lib.hid hCc; clear hCc
      cases W
      · clear hW
        go_wp2_with fail
        refine (HW.out _).mono ?_
        rintro e w1 ⟨rfl, rfl⟩
        go_wp2_with fail
        go_ret
        exact ⟨ret_eq (bool_eq (HNo.out rfl).symm), hbx⟩
      · have hlb : 1 ≤ p.len ∧ p.len ≤ 600 := inB_iff.1 hW
        clear hW
        cases E
        · cases C
          · go_wp2_with fail
            refine (HW.out _).mono ?_
            rintro e w1 ⟨rfl, rfl⟩
            go_wp2_with fail
            refine (HC.out _).mono ?_
            rintro e w1 ⟨rfl, rfl⟩
            go_wp2_with fail
            go_ret
            exact ⟨ret_eq (bool_eq (HNo.out rfl).symm), hbx⟩
          · go_wp2_with fail
            refine (HW.out _).mono ?_
            rintro e w1 ⟨rfl, rfl⟩
            go_wp2_with fail
            refine (HC.out _).mono ?_
            rintro e w1 ⟨rfl, rfl⟩
            go_wp2_with fail
            go_roundw
            case rel => exact ⟨k + 1, by omega, by go_num, int_eq HTn.out.symm, Lib.hid (by rw [HAn.out, Ha.out]; rfl), by rw [HTn.out]; omega, hbx⟩
            case measure => simp [intOf]; omega
        · go_wp2_with fail
          refine (HW.out _).mono ?_
          rintro e w1 ⟨rfl, rfl⟩
          go_wp2_with fail
          go_roundw
          case rel => exact ⟨k + 1, by omega, by go_num, int_eq HTn.out.symm, Lib.hid (by rw [HAn.out, Ha.out]; rfl), by rw [HTn.out]; omega, hbx⟩
          case measure => simp [intOf]; omega
    · obtain rfl : k = n := by omega
      have i1 : ¬ (k : Int) < (k : Int) := by omega
      have htk : ps.take k = ps := List.take_of_length_le (by rw [Hl.out]; omega)
      rw [htk] at hTb Ha ⊢
      have hv : vPh ps = (inB k 1 40 && inB (totI ps) 0 600) := by rw [vPh, Ha.out, Hl.out, Bool.true_and]
      obtain ⟨T, hT⟩ : ∃ T, totI ps = T := ⟨_, rfl⟩
      rw [hT] at hTb hv ⊢
      obtain ⟨N, hN⟩ : ∃ N, inB k 1 40 = N := ⟨_, rfl⟩
      rw [hN] at hv
      have hNc : ∀ w1, Calls Try.prog 67 #[.int .i64 (k : Int), .int .i64 1, .int .i64 40] w1 fun e w' => e = .returned (.bool N) ∧ w1 = w' := fun w1 => hN ▸ within_c _ _ _ _
      have hTd : inB T 0 600 = decide (T ≤ 600) := by
        rw [Bool.eq_iff_iff, inB_iff, decide_eq_true_eq]; omega
      rw [hTd] at hv
      clear hTd hN htk Ha
      have HN := Lib.hid hNc; clear hNc
      have HT := Lib.hid hT; clear hT
      have Hv := Lib.hid hv; clear hv
      cases N
      · go_wp2_with fail
        refine (HN.out _).mono ?_
        rintro e w1 ⟨rfl, rfl⟩
        go_wp2_with fail
        go_ret
        exact ⟨ret_eq (bool_eq (by rw [Hv.out]; simp)), hbw⟩
      · go_wp2_with fail
        refine (HN.out _).mono ?_
        rintro e w1 ⟨rfl, rfl⟩
        go_wp2_with fail
        go_ret
        exact ⟨ret_eq (bool_eq (by rw [Hv.out]; simp)), hbw⟩
set_option maxRecDepth 100000 in
set_option maxHeartbeats 2000000 in
theorem l06Ok_c (A : Option Addr) (n c : Nat) (ps : List Ph) (w : World) (h : Sl w w.heap.size 2 A n (ps.flatMap Ph.cells)) (hm : n ≤ 1048576) (hz : ∀ p ∈ ps, p.c.size ≤ maxLen) :
    Calls Try.prog 24 #[.slice A n c] w fun e w' => e = .returned (.bool (vPh ps)) ∧ Below w.heap.size w w' := by
  have hl := h.len Ph.cells 2 Ph.cells_len (by omega)
  by_cases hlo : n < 1
  · have hv : vPh ps = false := by
      have : inB (ps.length : Int) 1 40 = false := by rw [Bool.eq_false_iff, ne_eq, inB_iff]; omega
      rw [vPh, this, Bool.false_and, Bool.and_false]
    have i1 : (n : Int) < 1 := by omega
    clear hl hlo
    have Hv := Lib.hid hv; clear hv
    go_enter Try.func24, Try.ntmps24
    go_wp2_with fail
    go_ret
    exact ⟨ret_eq (bool_eq Hv.out.symm), Below.refl _ _⟩
  by_cases hhi : 40 < n
  · have hv : vPh ps = false := by
      have : inB (ps.length : Int) 1 40 = false := by rw [Bool.eq_false_iff, ne_eq, inB_iff]; omega
      rw [vPh, this, Bool.false_and, Bool.and_false]
    have i1 : ¬ (n : Int) < 1 := by omega
    have i2 : (n : Int) > 40 := by omega
    clear hl hlo hhi
    have Hv := Lib.hid hv; clear hv
    go_enter Try.func24, Try.ntmps24
    go_wp2_with fail
    go_ret
    exact ⟨ret_eq (bool_eq Hv.out.symm), Below.refl _ _⟩
  have hin : inB (ps.length : Int) 1 40 = true := inB_iff.2 (by omega)
  have l1 : ¬ (n : Int) < 1 := by omega
  have l2 : ¬ (n : Int) > 40 := by omega
  clear hlo hhi
  have Hl := Lib.hid hl; clear hl
  have Hin := Lib.hid hin; clear hin
  go_enter Try.func24, Try.ntmps24
  go_wp2_with fail
  clear l1 l2
  go_loopw [3, 4] (fun y i wr => ∃ k : Nat, k ≤ n ∧ i = .int .i64 k ∧ y = .int .i64 (totI (ps.take k)) ∧ Hid ((ps.take k).all okPh = true) ∧ (0 ≤ totI (ps.take k) ∧ totI (ps.take k) ≤ 600 * k) ∧ Below w.heap.size w wr) (fun _ i _ => n - (intOf i).toNat)
  case atStart => exact ⟨0, Nat.zero_le _, rfl, rfl, Lib.hid rfl, by simp [totI], Below.refl _ _⟩
  case round =>
    obtain ⟨k, hk, rfl, rfl, Ha, hTb, hbw⟩ := hrel
    by_cases hlt : k < n
    · obtain ⟨b, off, p, rfl, hb', hx, d0, d1⟩ := (h.next hbw).ph k hlt
      have i0 : (0 : Int) ≤ (k : Int) := by omega
      have i1 : (k : Int) < (n : Int) := by omega
      have hTn := totI_nx hx
      have hAn := all_nx hx
      have hno := fun h => all_no hx h
      have hpz := hz p (List.mem_of_getElem? hx)
      obtain ⟨T, hT⟩ : ∃ T, totI (ps.take k) = T := ⟨_, rfl⟩
      rw [hT] at hTn hTb ⊢
      obtain ⟨W, hW⟩ : ∃ W, inB p.len 1 600 = W := ⟨_, rfl⟩
      obtain ⟨E, hE⟩ : ∃ E, p.c.toList.isEmpty = E := ⟨_, rfl⟩
      obtain ⟨C, hC⟩ : ∃ C, colB p.c = C := ⟨_, rfl⟩
      have hok : okPh p = (W && (E || C)) := by rw [okPh, hW, hE, hC]
      rw [hok] at hno hAn
      have Hx := Lib.hid hx; clear hx
      have HTn := Lib.hid hTn; clear hTn
      have HAn := Lib.hid hAn; clear hAn
      have HNo := Lib.hid hno; clear hno
      have HT := Lib.hid hT; clear hT
      have Hok := Lib.hid hok; clear hok
      have hWc : ∀ w1, Calls Try.prog 61 #[.int .i64 p.len, .int .i64 1, .int .i64 600] w1 fun e w' => e = .returned (.bool W) ∧ w1 = w' := fun w1 => hW ▸ l00In_c _ _ _ _
      have hCc : ∀ w1, Calls Try.prog 51 #[.string p.c] w1 fun e w' => e = .returned (.bool C) ∧ w1 = w' := fun w1 => hC ▸ l05Color_c _ _
      clear hC
      have HW := Lib.hid hWc; clear hWc
      have HC := Lib.hid hCc; clear hCc
      cases W
      · clear hW
        go_wp2_with fail
        refine (HW.out _).mono ?_
        rintro e w1 ⟨rfl, rfl⟩
        go_wp2_with fail
        go_ret
        exact ⟨ret_eq (bool_eq (HNo.out rfl).symm), hbw⟩
      · have hlb : 1 ≤ p.len ∧ p.len ≤ 600 := inB_iff.1 hW
        clear hW
        cases E
        · cases C
          · go_wp2_with fail
            refine (HW.out _).mono ?_
            rintro e w1 ⟨rfl, rfl⟩
            go_wp2_with fail
            refine (HC.out _).mono ?_
            rintro e w1 ⟨rfl, rfl⟩
            go_wp2_with fail
            go_ret
            exact ⟨ret_eq (bool_eq (HNo.out rfl).symm), hbw⟩
          · go_wp2_with fail
            refine (HW.out _).mono ?_
            rintro e w1 ⟨rfl, rfl⟩
            go_wp2_with fail
            refine (HC.out _).mono ?_
            rintro e w1 ⟨rfl, rfl⟩
            go_wp2_with fail
            go_roundw
            case rel => exact ⟨k + 1, by omega, by go_num, int_eq HTn.out.symm, Lib.hid (by rw [HAn.out, Ha.out]; rfl), by rw [HTn.out]; omega, hbw⟩
            case measure => simp [intOf]; omega
        · go_wp2_with fail
          refine (HW.out _).mono ?_
          rintro e w1 ⟨rfl, rfl⟩
          go_wp2_with fail
          go_roundw
          case rel => exact ⟨k + 1, by omega, by go_num, int_eq HTn.out.symm, Lib.hid (by rw [HAn.out, Ha.out]; rfl), by rw [HTn.out]; omega, hbw⟩
          case measure => simp [intOf]; omega
    · obtain rfl : k = n := by omega
      have i1 : ¬ (k : Int) < (k : Int) := by omega
      have htk : ps.take k = ps := List.take_of_length_le (by rw [Hl.out]; omega)
      rw [htk] at hTb Ha ⊢
      have hv : vPh ps = inB (totI ps) 0 600 := by rw [vPh, Ha.out, Hin.out, Bool.true_and, Bool.true_and]
      obtain ⟨T, hT⟩ : ∃ T, totI ps = T := ⟨_, rfl⟩
      rw [hT] at hTb hv ⊢
      have hTd : inB T 0 600 = decide (T ≤ 600) := by
        rw [Bool.eq_iff_iff, inB_iff, decide_eq_true_eq]; omega
      rw [hTd] at hv
      clear hTd htk Ha
      have HT := Lib.hid hT; clear hT
      have Hv := Lib.hid hv; clear hv
      go_wp2_with fail
      go_ret
      exact ⟨ret_eq (bool_eq Hv.out.symm), hbw⟩
end Go.Proofs.Ytgibbhipjpbdfaa

/- Recognition: the program: lit tenths, flashes, lists compared, patterns compared. -/
namespace Go.Proofs.Ytgibbhipjpbdfaa
open Go.RowKit
theorem name_emp (x : Int) : (nameC x).toList.isEmpty = decide (x = 0) := by
  rw [name_list]
  by_cases h : x = 0
  · rw [if_pos h, decide_eq_true h]; rfl
  · rw [if_neg h, decide_eq_false h]; rfl
set_option maxRecDepth 100000 in
set_option maxHeartbeats 1000000 in
theorem litTenthsN_c (A : Option Addr) (n c : Nat) (B : List Int) (w : World) (h : Sl w w.heap.size 1 A n (B.flatMap nC)) (hm : n ≤ 200000) :
    Calls Try.prog 74 #[.slice A n c] w fun e w' => e = .returned (.int .i64 (litN B : Nat)) ∧ w = w' := by
  have hl := h.len nC 1 nC_len (by omega)
  have Hl := Lib.hid hl; clear hl
  go_enter Try.func74, Try.ntmps74
  go_wp2
  go_loop [3, 8] (fun y i => ∃ (k m : Nat), k ≤ n ∧ i = .int .i64 k ∧ y = .int .i64 m ∧ m ≤ k ∧ Hid (litN (B.take k) = m)) (fun _ i => n - (intOf i).toNat)
  case atStart => exact ⟨0, 0, Nat.zero_le _, rfl, rfl, Nat.le_refl _, Lib.hid rfl⟩
  case round =>
    obtain ⟨k, m, hk, rfl, rfl, hmk, Hm⟩ := hrel
    by_cases hlt : k < n
    · obtain ⟨b, off, x, rfl, hb, hx, cx⟩ := h.nm k hlt
      have hnx := litN_next hx
      have hem := name_emp x
      have i0 : (0 : Int) ≤ (k : Int) := by omega
      have i1 : (k : Int) < (n : Int) := by omega
      have Hx := Lib.hid hx; clear hx
      obtain ⟨X, hX⟩ : ∃ X, nameC x = X := ⟨_, rfl⟩
      rw [hX] at cx hem
      by_cases h0 : x = 0
      · subst h0
        simp only [decide_true] at hem
        have Hnx := Lib.hid hnx; clear hnx
        clear hX
        go_wp2
        go_round
        case rel => exact ⟨k + 1, m, by omega, by go_num, rfl, by omega, Lib.hid (by rw [Hnx.out, Hm.out]; simp)⟩
        case measure => simp [intOf]; omega
      · rw [decide_eq_false h0] at hem
        have Hnx := Lib.hid hnx; clear hnx
        have H0 := Lib.hid h0; clear h0
        clear hX
        go_wp2
        go_round
        case rel => exact ⟨k + 1, m + 1, by omega, by go_num, by go_num, by omega, Lib.hid (by rw [Hnx.out, Hm.out, if_pos H0.out])⟩
        case measure => simp [intOf]; omega
    · obtain rfl : k = n := by omega
      have hm2 := Hm.out
      rw [List.take_of_length_le (by rw [Hl.out]; omega)] at hm2
      have Hm2 := Lib.hid hm2; clear hm2
      go_wp2
      go_ret
      exact ⟨ret_eq (int_eq (by rw [Hm2.out])), rfl⟩
set_option maxRecDepth 100000 in
set_option maxHeartbeats 1000000 in
theorem flashes_c (A : Option Addr) (n c : Nat) (B : List Int) (w : World) (h : Sl w w.heap.size 1 A n (B.flatMap nC)) (hm : n ≤ 200000) :
    Calls Try.prog 75 #[.slice A n c] w fun e w' => e = .returned (.int .i64 (flashB B : Nat)) ∧ w = w' := by
  have hl := h.len nC 1 nC_len (by omega)
  rw [flash_count, hl]
  have Hl := Lib.hid hl; clear hl
  go_enter Try.func75, Try.ntmps75
  go_wp2
  go_loop [3, 8] (fun y i => ∃ (k m : Nat), k ≤ n ∧ i = .int .i64 k ∧ y = .int .i64 m ∧ m ≤ k ∧ Hid ((List.range k).countP (riseAt B) = m)) (fun _ i => n - (intOf i).toNat)
  case atStart => exact ⟨0, 0, Nat.zero_le _, rfl, rfl, Nat.le_refl _, Lib.hid rfl⟩
  case round =>
    obtain ⟨k, m, hk, rfl, rfl, hmk, Hm⟩ := hrel
    by_cases hlt : k < n
    · obtain ⟨j, hj⟩ : ∃ j, (k + n - 1) % n = j := ⟨_, rfl⟩
      have hjn : j < n := by rw [← hj]; exact Nat.mod_lt _ (by omega)
      obtain ⟨b, off, x, rfl, hb, hx, cx⟩ := h.nm k hlt
      obtain ⟨b2, off2, y, e2, _, hy, cy⟩ := h.nm j hjn
      injection e2 with e2
      injection e2 with e3 e4 _
      subst e3 e4
      have hjt : ((k : Int) + (n : Int) - 1).tmod (n : Int) = (j : Int) := by
        rw [Int.tmod_eq_emod_of_nonneg (by omega), ← hj]
        have : ((k : Int) + (n : Int) - 1) = ((k + n - 1 : Nat) : Int) := by omega
        rw [this]; exact (Int.natCast_emod _ _).symm
      have hjt2 : ((k : Int) + (n : Int) - 1) % (n : Int) = (j : Int) := by
        rw [← hjt, Int.tmod_eq_emod_of_nonneg (by omega)]
      have hn0 : ¬ (n : Int) = 0 := by omega
      have hra : riseAt B k = (decide (x ≠ 0) && decide (y = 0)) := by
        rw [riseAt, Hl.out, hj, List.getD_eq_getElem?_getD, hx, List.getD_eq_getElem?_getD, hy]; rfl
      have hnx := rise_next B k
      rw [hra] at hnx
      have hex := name_emp x
      have hey := name_emp y
      have i0 : (0 : Int) ≤ (k : Int) := by omega
      have i1 : (k : Int) < (n : Int) := by omega
      have i2 : (0 : Int) ≤ (j : Int) := by omega
      have i3 : (j : Int) < (n : Int) := by omega
      have Hx := Lib.hid hx; clear hx
      have Hy := Lib.hid hy; clear hy
      have Hj := Lib.hid hj; clear hj
      have Hra := Lib.hid hra; clear hra
      obtain ⟨X, hX⟩ : ∃ X, nameC x = X := ⟨_, rfl⟩
      obtain ⟨Y, hY⟩ : ∃ Y, nameC y = Y := ⟨_, rfl⟩
      rw [hX] at cx hex
      rw [hY] at cy hey
      by_cases h0 : x = 0
      · subst h0
        simp only [decide_true] at hex
        have Hnx := Lib.hid hnx; clear hnx
        clear hX hY hey
        go_wp2
        go_round
        case rel => exact ⟨k + 1, m, by omega, by go_num, rfl, by omega, Lib.hid (by rw [Hnx.out, Hm.out]; simp)⟩
        case measure => simp [intOf]; omega
      · rw [decide_eq_false h0] at hex
        have H0 := Lib.hid h0; clear h0
        by_cases h1 : y = 0
        · subst h1
          simp only [decide_true] at hey
          have Hnx := Lib.hid hnx; clear hnx
          clear hX hY
          go_wp2
          go_round
          case rel => exact ⟨k + 1, m + 1, by omega, by go_num, by go_num, by omega, Lib.hid (by rw [Hnx.out, Hm.out, decide_eq_true H0.out]; simp)⟩
          case measure => simp [intOf]; omega
        · rw [decide_eq_false h1] at hey
          have H1 := Lib.hid h1; clear h1
          have Hnx := Lib.hid hnx; clear hnx
          clear hX hY
          go_wp2
          go_round
          case rel => exact ⟨k + 1, m, by omega, by go_num, rfl, by omega, Lib.hid (by rw [Hnx.out, Hm.out, decide_eq_false H1.out]; simp)⟩
          case measure => simp [intOf]; omega
    · obtain rfl : k = n := by omega
      go_wp2
      go_ret
      exact ⟨ret_eq (int_eq (by rw [Hm.out])), rfl⟩
theorem eq_pre {X Y : List Int} (hl : X.length = Y.length) (h : ∀ i, i < X.length → X[i]? = Y[i]?) : X = Y := by
  apply List.ext_getElem?
  intro i
  by_cases hi : i < X.length
  · exact h i hi
  · rw [List.getElem?_eq_none (by omega), List.getElem?_eq_none (by omega)]
theorem inN_nrm {B : List Int} (h : 1 ≤ B.length) (hi : inN B) : inN (normB B) := by
  obtain ⟨t, _, e⟩ := (norm_least h).rot
  rw [e]; exact inN_rot hi t
set_option maxRecDepth 100000 in
set_option maxHeartbeats 2000000 in
theorem equalS_c (A1 : Option Addr) (n1 c1 : Nat) (X : List Int) (A2 : Option Addr) (n2 c2 : Nat) (Y : List Int) (w : World) (h1 : Sl w w.heap.size 1 A1 n1 (X.flatMap nC)) (h2 : Sl w w.heap.size 1 A2 n2 (Y.flatMap nC)) (m1 : n1 ≤ 200000) (m2 : n2 ≤ 200000) (b1 : ∀ x ∈ X, 0 ≤ x ∧ x ≤ 255) (b2 : ∀ x ∈ Y, 0 ≤ x ∧ x ≤ 255) :
    Calls Try.prog 88 #[.slice A1 n1 c1, .slice A2 n2 c2] w fun e w' => e = .returned (.bool (decide (X = Y))) ∧ Below w.heap.size w w' := by
  have l1 := h1.len nC 1 nC_len (by omega)
  have l2 := h2.len nC 1 nC_len (by omega)
  by_cases hne : n1 = n2
  rotate_left
  · have hF : decide (X = Y) = false := decide_eq_false fun e => hne (by rw [← l1, ← l2, e])
    have d1 : ((n1 : Int) != (n2 : Int)) = true := by simpa using (by omega : ¬ (n1 : Int) = (n2 : Int))
    have HF := Lib.hid hF; clear hF
    clear l1 l2 b1 b2
    go_enter Try.func88, Try.ntmps88
    go_wp2_with fail
    go_ret
    exact ⟨ret_eq (bool_eq HF.out.symm), Below.refl _ _⟩
  subst hne
  have L1 := Lib.hid l1; clear l1
  have L2 := Lib.hid l2; clear l2
  have B1 := Lib.hid b1; clear b1
  have B2 := Lib.hid b2; clear b2
  go_enter Try.func88, Try.ntmps88
  go_wp2_with fail
  go_loopw [13] (fun i wr => ∃ k : Nat, k ≤ n1 ∧ i = .int .i64 k ∧ Hid (∀ i, i < k → X[i]? = Y[i]?) ∧ Below w.heap.size w wr) (fun i _ => n1 - (intOf i).toNat)
  case atStart => exact ⟨0, Nat.zero_le _, rfl, Lib.hid fun i hi => absurd hi (by omega), Below.refl _ _⟩
  case round =>
    obtain ⟨k, hk, rfl, Ha, hbw⟩ := hrel
    by_cases hlt : k < n1
    · obtain ⟨b, off, x, rfl, hb, hx, cx⟩ := (h1.next hbw).nm k hlt
      obtain ⟨b2, off2, y, rfl, hb2, hy, cy⟩ := (h2.next hbw).nm k hlt
      have hxy := name_beq (B1.out x (List.mem_of_getElem? hx)) (B2.out y (List.mem_of_getElem? hy))
      obtain ⟨P, hP⟩ : ∃ P, nameC x = P := ⟨_, rfl⟩
      obtain ⟨Q, hQ⟩ : ∃ Q, nameC y = Q := ⟨_, rfl⟩
      rw [hP] at cx hxy
      rw [hQ] at cy hxy
      have i0 : (0 : Int) ≤ (k : Int) := by omega
      have i1 : (k : Int) < (n1 : Int) := by omega
      clear hP hQ
      have Hx := Lib.hid hx; clear hx
      have Hy := Lib.hid hy; clear hy
      by_cases he : x = y
      · rw [decide_eq_true he] at hxy
        have He := Lib.hid he; clear he
        go_wp2_with fail
        go_quiet (fail)
        go_wp2_with fail
        go_roundw
        case rel => exact ⟨k + 1, by omega, by go_num, Lib.hid (fun i hi => by
          rcases Nat.lt_or_ge i k with h9 | h9
          · exact Ha.out i h9
          · obtain rfl : i = k := by omega
            rw [Hx.out, Hy.out, He.out]), by (repeat (first | (with_reducible assumption) | (with_reducible exact Below.refl _ _) | exact Nat.le_refl _ | exact Below.size (by with_reducible assumption) | (with_reducible refine Below.drew ?_) | (with_reducible refine below_drewN ?_ _) | (with_reducible refine Below.alloc ?_ ?_ _) | (with_reducible refine Below.setCell ?_ ?_ _) | (with_reducible refine le_alloc ?_ _) | (with_reducible refine le_set ?_ _ _) | (with_reducible refine le_drew ?_) | (with_reducible refine le_drewN ?_ _) | omega | (dsimp only; omega)))⟩
        case measure => simp [intOf]; omega
      · rw [decide_eq_false he] at hxy
        have He := Lib.hid he; clear he
        have hF : decide (X = Y) = false := decide_eq_false fun e => He.out (by
          have h9 := Hx.out
          rw [e, Hy.out] at h9
          injection h9 with h9; exact h9.symm)
        have HF := Lib.hid hF; clear hF
        go_wp2_with fail
        go_quiet (fail)
        go_wp2_with fail
        go_ret
        exact ⟨ret_eq (bool_eq HF.out.symm), by (repeat (first | (with_reducible assumption) | (with_reducible exact Below.refl _ _) | exact Nat.le_refl _ | exact Below.size (by with_reducible assumption) | (with_reducible refine Below.drew ?_) | (with_reducible refine below_drewN ?_ _) | (with_reducible refine Below.alloc ?_ ?_ _) | (with_reducible refine Below.setCell ?_ ?_ _) | (with_reducible refine le_alloc ?_ _) | (with_reducible refine le_set ?_ _ _) | (with_reducible refine le_drew ?_) | (with_reducible refine le_drewN ?_ _) | omega | (dsimp only; omega)))⟩
    · obtain rfl : k = n1 := by omega
      have i1 : ¬ (k : Int) < (k : Int) := by omega
      have hT : decide (X = Y) = true := decide_eq_true (eq_pre (by rw [L1.out, L2.out]) (by rw [L1.out]; exact Ha.out))
      have HT := Lib.hid hT; clear hT
      go_wp2_with fail
      go_ret
      exact ⟨ret_eq (bool_eq HT.out.symm), hbw⟩
set_option maxRecDepth 100000 in
set_option maxHeartbeats 1000000 in
theorem samePattern_c (A1 : Option Addr) (n1 c1 : Nat) (ps : List Ph) (A2 : Option Addr) (n2 c2 : Nat) (qs : List Ph) (w : World) (h1 : Sl w w.heap.size 2 A1 n1 (ps.flatMap Ph.cells)) (h2 : Sl w w.heap.size 2 A2 n2 (qs.flatMap Ph.cells))
    (m1 : n1 ≤ 200) (m2 : n2 ≤ 200) (hb1 : ∀ p ∈ ps, 0 ≤ p.len ∧ p.len ≤ 600) (hb2 : ∀ p ∈ qs, 0 ≤ p.len ∧ p.len ≤ 600) (ho1 : ∀ p ∈ ps, okS p.c) (ho2 : ∀ p ∈ qs, okS p.c) (l1 : 1 ≤ (tenC ps).length) (l2 : 1 ≤ (tenC qs).length) :
    Calls Try.prog 59 #[.slice A1 n1 c1, .slice A2 n2 c2] w fun e w' => e = .returned (.bool (decide (normB (onceB (tenC ps)) = normB (onceB (tenC qs))))) ∧ Below w.heap.size w w' := by
  have o1 := once_len l1
  have o2 := once_len l2
  have t1 := tenC_len hb1
  have t2 := tenC_len hb2
  rw [h1.len Ph.cells 2 Ph.cells_len (by omega)] at t1
  rw [h2.len Ph.cells 2 Ph.cells_len (by omega)] at t2
  have i1 : ∀ x ∈ normB (onceB (tenC ps)), 0 ≤ x ∧ x ≤ 255 := inN_nrm o1.1 (inN_take (inN_ten ps) _)
  have i2 : ∀ x ∈ normB (onceB (tenC qs)), 0 ≤ x ∧ x ≤ 255 := inN_nrm o2.1 (inN_take (inN_ten qs) _)
  have hN1 : ∀ w1, Below w.heap.size w w1 → Calls Try.prog 89 #[.slice A1 n1 c1] w1 fun e w' => ∃ A' m c', e = .returned (.slice A' m c') ∧ m ≤ 200000 ∧ Sl w' w'.heap.size 1 A' m ((normB (onceB (tenC ps))).flatMap nC) ∧ Below w1.heap.size w1 w' := fun w1 hb => by
    refine (normal_c A1 n1 c1 ps w1 (h1.next hb) m1 hb1 ho1 l1).mono ?_
    rintro e w' ⟨A', m, c', rfl, rfl, hs, hb⟩
    exact ⟨A', _, c', rfl, by omega, hs, hb⟩
  have hN2 : ∀ w1, Below w.heap.size w w1 → Calls Try.prog 89 #[.slice A2 n2 c2] w1 fun e w' => ∃ A' m c', e = .returned (.slice A' m c') ∧ m ≤ 200000 ∧ Sl w' w'.heap.size 1 A' m ((normB (onceB (tenC qs))).flatMap nC) ∧ Below w1.heap.size w1 w' := fun w1 hb => by
    refine (normal_c A2 n2 c2 qs w1 (h2.next hb) m2 hb2 ho2 l2).mono ?_
    rintro e w' ⟨A', m, c', rfl, rfl, hs, hb⟩
    exact ⟨A', _, c', rfl, by omega, hs, hb⟩
  obtain ⟨X, hX⟩ : ∃ X, normB (onceB (tenC ps)) = X := ⟨_, rfl⟩
  obtain ⟨Y, hY⟩ : ∃ Y, normB (onceB (tenC qs)) = Y := ⟨_, rfl⟩
  rw [hX] at hN1 i1 ⊢
  rw [hY] at hN2 i2 ⊢
  have hE : ∀ (A1 : Option Addr) (n1 c1 : Nat) (A2 : Option Addr) (n2 c2 : Nat) (w : World), Sl w w.heap.size 1 A1 n1 (X.flatMap nC) → Sl w w.heap.size 1 A2 n2 (Y.flatMap nC) → n1 ≤ 200000 → n2 ≤ 200000 → Calls Try.prog 88 #[.slice A1 n1 c1, .slice A2 n2 c2] w fun e w' => e = .returned (.bool (decide (X = Y))) ∧ Below w.heap.size w w' := fun A1 n1 c1 A2 n2 c2 w s1 s2 m1 m2 => equalS_c A1 n1 c1 X A2 n2 c2 Y w s1 s2 m1 m2 i1 i2
  clear o1 o2 t1 t2 i1 i2 hX hY l1 l2 hb1 hb2 ho1 ho2 h1 h2 m1 m2
  have HN1 := Lib.hid hN1; clear hN1
  have HN2 := Lib.hid hN2; clear hN2
  have HE := Lib.hid hE; clear hE
  go_enter Try.func59, Try.ntmps59
  go_wp2_with fail
  refine (HN1.out _ (Below.refl _ _)).mono ?_
  rintro e w1 ⟨A3, n3, c3, rfl, hm3, s3, hb1⟩
  go_wp2_with fail
  refine (HN2.out _ hb1).mono ?_
  rintro e w2 ⟨A4, n4, c4, rfl, hm4, s4, hb2⟩
  have s5 := s3.next hb2
  go_wp2_with fail
  refine (HE.out _ _ _ _ _ _ _ s5 s4 hm3 hm4).mono ?_
  rintro e w3 ⟨rfl, hb3⟩
  have hbz := (hb1.trans (hb2.mono hb1.size)).trans (hb3.mono (hb1.trans (hb2.mono hb1.size)).size)
  go_wp2_with fail
  go_ret
  exact ⟨rfl, hbz⟩
end Go.Proofs.Ytgibbhipjpbdfaa

/- Recognition: the only color of a pattern: the plain facts, and the program. -/
namespace Go.Proofs.Ytgibbhipjpbdfaa
open Go.RowKit
/-- The first color of a list, 0 if there is none. -/
def hueO : List Int → Int
  | [] => 0
  | x :: r => if x = 0 then hueO r else x
def hueOk (B : List Int) : Bool := decide (hueO B ≠ 0) && B.all fun x => decide (x = 0) || decide (x = hueO B)
theorem hueO_app : ∀ (A B : List Int), hueO (A ++ B) = if hueO A = 0 then hueO B else hueO A
  | [], B => by simp [hueO]
  | x :: r, B => by
    rw [List.cons_append, hueO, hueO, hueO_app r B]
    by_cases h : x = 0
    · rw [if_pos h, if_pos h]
    · rw [if_neg h, if_neg h, if_neg h]
theorem hueO_nx {B : List Int} {k : Nat} {x : Int} (h : B[k]? = some x) : hueO (B.take (k + 1)) = if hueO (B.take k) = 0 then x else hueO (B.take k) := by
  rw [List.take_add_one, h, Option.toList_some, hueO_app]
  congr 1
  rw [hueO]
  split
  · rename_i h0; rw [h0]; rfl
  · rfl
theorem hueO_mem : ∀ {B : List Int}, hueO B ≠ 0 → hueO B ∈ B
  | [], h => absurd rfl h
  | x :: r, h => by
    rw [hueO] at h ⊢
    split at h
    · rename_i h0; rw [if_pos h0]; exact List.mem_cons_of_mem _ (hueO_mem h)
    · rename_i h0; rw [if_neg h0]; exact List.mem_cons_self
theorem hueO_zero : ∀ {B : List Int}, hueO B = 0 → ∀ x ∈ B, x = 0
  | [], _, x, hx => by cases hx
  | y :: r, h, x, hx => by
    rw [hueO] at h
    split at h
    · rename_i h0
      rcases List.mem_cons.1 hx with rfl | hx
      · exact h0
      · exact hueO_zero h x hx
    · rename_i h0; exact absurd h h0
theorem hueOk_iff {B : List Int} : hueOk B = true ↔ hueO B ≠ 0 ∧ ∀ x ∈ B, x = 0 ∨ x = hueO B := by
  rw [hueOk, Bool.and_eq_true, decide_eq_true_eq, List.all_eq_true]
  simp
theorem hueOk_of {B : List Int} {c : Int} (hc : c ≠ 0) (hm : c ∈ B) (h : ∀ x ∈ B, x = 0 ∨ x = c) : hueOk B = true ∧ hueO B = c := by
  have h0 : hueO B ≠ 0 := fun e => hc (hueO_zero e c hm)
  have h1 : hueO B = c := (h _ (hueO_mem h0)).resolve_left h0
  exact ⟨hueOk_iff.2 ⟨h0, fun x hx => by rw [h1]; exact h x hx⟩, h1⟩
/-- Lists with the same members have the same only color. -/
theorem hueOk_mem {A B : List Int} (h : ∀ x, x ∈ A ↔ x ∈ B) : hueOk A = hueOk B ∧ (hueOk A = true → hueO A = hueO B) := by
  have key : ∀ {A B : List Int}, (∀ x, x ∈ A ↔ x ∈ B) → hueOk A = true → hueOk B = true ∧ hueO B = hueO A := fun h ha => by
    obtain ⟨h0, h1⟩ := hueOk_iff.1 ha
    exact hueOk_of h0 ((h _).1 (hueO_mem h0)) fun x hx => h1 x ((h x).2 hx)
  refine ⟨?_, fun ha => (key h ha).2.symm⟩
  rw [Bool.eq_iff_iff]
  exact ⟨fun ha => (key h ha).1, fun hb => (key (fun x => (h x).symm) hb).1⟩
/-- The first two colors differ. -/
theorem hueOk_two {B : List Int} {k : Nat} {x : Int} (h : B[k]? = some x) (hx : x ≠ 0) (hc : hueO (B.take k) ≠ 0) (hne : x ≠ hueO (B.take k)) : hueOk B = false := by
  rw [Bool.eq_false_iff]
  intro ha
  obtain ⟨h0, h1⟩ := hueOk_iff.1 ha
  have e : hueO B = hueO (B.take k) := by
    conv => lhs; rw [← List.take_append_drop k B]
    rw [hueO_app, if_neg hc]
  rcases h1 x (List.mem_of_getElem? h) with h2 | h2
  · exact hx h2
  · exact hne (h2.trans e)
def hueOne (B : List Int) : Prop := ∀ x ∈ B, x = 0 ∨ x = hueO B
theorem hueOne_nx {B : List Int} {k : Nat} {x : Int} (h : B[k]? = some x) (ho : hueOne (B.take k)) (hx : x = 0 ∨ hueO (B.take k) = 0 ∨ x = hueO (B.take k)) : hueOne (B.take (k + 1)) := by
  intro y hy
  rw [hueO_nx h]
  rw [List.take_add_one, h, Option.toList_some, List.mem_append, List.mem_singleton] at hy
  by_cases hc : hueO (B.take k) = 0
  · rw [if_pos hc]
    rcases hy with hy | rfl
    · exact .inl (hueO_zero hc y hy)
    · exact .inr rfl
  · rw [if_neg hc]
    rcases hy with hy | rfl
    · exact ho y hy
    · rcases hx with h0 | h0 | h0
      · exact .inl h0
      · exact absurd h0 hc
      · exact .inr h0
theorem hueOk_one {B : List Int} (h : hueOne B) : hueOk B = decide (hueO B ≠ 0) := by
  rw [Bool.eq_iff_iff, hueOk_iff, decide_eq_true_eq]
  exact ⟨fun a => a.1, fun a => ⟨a, h⟩⟩
/-- The codes of phases and of their tenths have the same members. -/
theorem mem_ten {ps : List Ph} (h : ∀ p ∈ ps, 1 ≤ p.len) (x : Int) : x ∈ ps.map (fun p => code p.c) ↔ x ∈ tenC ps := by
  simp only [tenC, tenL, List.map_flatMap, List.mem_map, List.mem_flatMap, List.map_replicate, List.mem_replicate]
  constructor
  · rintro ⟨p, hp, rfl⟩
    have := h p hp
    exact ⟨p, hp, by omega, rfl⟩
  · rintro ⟨p, hp, _, rfl⟩
    exact ⟨p, hp, rfl⟩
theorem mem_once {B : List Int} (h : 1 ≤ B.length) (x : Int) : x ∈ B ↔ x ∈ onceB B := by
  constructor
  · intro hx
    obtain ⟨i, hi⟩ := List.getElem?_of_mem hx
    have hr := once_rep h
    rw [hr.at' i (get_lt hi)] at hi
    exact List.mem_of_getElem? hi
  · intro hx
    exact List.mem_of_mem_take hx
set_option maxRecDepth 100000 in
set_option maxHeartbeats 2000000 in
theorem onlyColor_c (A : Option Addr) (n c : Nat) (ps : List Ph) (w : World) (h : Sl w w.heap.size 2 A n (ps.flatMap Ph.cells)) (hm : n ≤ 1048576) (ho : ∀ p ∈ ps, okS p.c) :
    Calls Try.prog 33 #[.slice A n c] w fun e w' => (∃ s, e = .returned (.tuple #[.string s, .bool (hueOk (ps.map fun p => code p.c))]) ∧ (hueOk (ps.map fun p => code p.c) = true → s = nameC (hueO (ps.map fun p => code p.c)))) ∧ Below w.heap.size w w' := by
  have hl := h.len Ph.cells 2 Ph.cells_len (by omega)
  obtain ⟨B, hB⟩ : ∃ B, ps.map (fun p => code p.c) = B := ⟨_, rfl⟩
  have hBl : B.length = n := by rw [← hB, List.length_map, hl]
  have hBi : inN B := fun x hx => by
    rw [← hB] at hx
    obtain ⟨p, _, rfl⟩ := List.mem_map.1 hx
    exact code_bd _
  have hat : ∀ (k : Nat) (p : Ph), ps[k]? = some p → B[k]? = some (code p.c) ∧ nameC (code p.c) = p.c := fun k p hp => ⟨by rw [← hB, List.getElem?_map, hp]; rfl, name_code (ho p (List.mem_of_getElem? hp))⟩
  rw [hB]
  have Hat := Lib.hid hat; clear hat
  have HBl := Lib.hid hBl; clear hBl
  have HBi := Lib.hid hBi; clear hBi
  clear hl hB ho
  go_enter Try.func33, Try.ntmps33
  go_wp2_with fail
  go_loopw [4, 9] (fun y i wr => ∃ (k : Nat) (c : Int), k ≤ n ∧ i = .int .i64 k ∧ y = .string (nameC c) ∧ Hid (hueO (B.take k) = c) ∧ Hid (hueOne (B.take k)) ∧ (0 ≤ c ∧ c ≤ 255) ∧ Below w.heap.size w wr) (fun _ i _ => n - (intOf i).toNat)
  case atStart => exact ⟨0, 0, Nat.zero_le _, rfl, rfl, Lib.hid rfl, Lib.hid (fun x hx => by cases hx), by omega, Below.refl _ _⟩
  case round =>
    obtain ⟨k, cc, hk, rfl, rfl, Hc, Ho, hcc, hbw⟩ := hrel
    by_cases hlt : k < n
    · obtain ⟨b, off, p, rfl, hb', hx, d0, d1⟩ := (h.next hbw).ph k hlt
      obtain ⟨hBx, hnm⟩ := Hat.out k p hx
      obtain ⟨x, hxe⟩ : ∃ x, code p.c = x := ⟨_, rfl⟩
      rw [hxe] at hBx hnm
      rw [← hnm] at d0
      have hxi := HBi.out x (List.mem_of_getElem? hBx)
      have hcn := hueO_nx hBx
      rw [Hc.out] at hcn
      have ex := name_emp x
      have ec := name_emp cc
      have exc := name_beq hxi hcc
      have i0 : (0 : Int) ≤ (k : Int) := by omega
      have i1 : (k : Int) < (n : Int) := by omega
      have hbX : Below wr.heap.size wr (wr.alloc (.cells #[.string (nameC x), .int .i64 p.len] 58)) := (Below.refl _ _).alloc (Nat.le_refl _) _
      have hbx := hbw.trans (hbX.mono hbw.size)
      have hon := fun hh => hueOne_nx hBx Ho.out hh
      have htwo := fun h1 h2 h3 => hueOk_two hBx h1 h2 h3
      rw [Hc.out] at hon htwo
      obtain ⟨X, hX⟩ : ∃ X, nameC x = X := ⟨_, rfl⟩
      obtain ⟨C, hC⟩ : ∃ C, nameC cc = C := ⟨_, rfl⟩
      rw [hX] at d0 ex exc hbx
      rw [hC] at ec exc
      rw [hC]
      clear hbX hxe hnm
      have Hx := Lib.hid hx; clear hx
      have HBx := Lib.hid hBx; clear hBx
      have Hcn := Lib.hid hcn; clear hcn
      have Hon := Lib.hid hon; clear hon
      have Htwo := Lib.hid htwo; clear htwo
      have HX := Lib.hid hX; clear hX
      have HC := Lib.hid hC; clear hC
      by_cases x0 : x = 0
      · rw [decide_eq_true x0] at ex
        have hR : cc = if cc = 0 then x else cc := by split <;> omega
        have H0 := Lib.hid x0; clear x0
        have HR := Lib.hid hR; clear hR
        clear exc
        go_wp2_with fail
        go_roundw
        case rel => exact ⟨k + 1, cc, by omega, by go_num, by rw [HC.out], Lib.hid (by rw [Hcn.out, ← HR.out]), Lib.hid (Hon.out (.inl H0.out)), hcc, hbx⟩
        case measure => simp [intOf]; omega
      · rw [decide_eq_false x0] at ex
        by_cases c0 : cc = 0
        · rw [decide_eq_true c0] at ec
          have hR : x = if cc = 0 then x else cc := by rw [if_pos c0]
          have H0 := Lib.hid x0; clear x0
          have HR := Lib.hid hR; clear hR
          have H1 := Lib.hid c0; clear c0
          clear exc
          go_wp2_with fail
          go_roundw
          case rel => exact ⟨k + 1, x, by omega, by go_num, by rw [HX.out], Lib.hid (by rw [Hcn.out, ← HR.out]), Lib.hid (Hon.out (.inr (.inl H1.out))), hxi, hbx⟩
          case measure => simp [intOf]; omega
        · rw [decide_eq_false c0] at ec
          by_cases hxc : x = cc
          · rw [decide_eq_true hxc] at exc
            have hR : x = if cc = 0 then x else cc := by rw [if_neg c0, hxc]
            have H0 := Lib.hid x0; clear x0
            have HR := Lib.hid hR; clear hR
            have H1 := Lib.hid c0; clear c0
            have H2 := Lib.hid hxc; clear hxc
            go_wp2_with fail
            go_roundw
            case rel => exact ⟨k + 1, x, by omega, by go_num, by rw [HX.out], Lib.hid (by rw [Hcn.out, ← HR.out]), Lib.hid (Hon.out (.inr (.inr H2.out))), hxi, hbx⟩
            case measure => simp [intOf]; omega
          · rw [decide_eq_false hxc] at exc
            have hF := Htwo.out x0 c0 hxc
            have HF := Lib.hid hF; clear hF
            have H0 := Lib.hid x0; clear x0
            have H1 := Lib.hid c0; clear c0
            have H2 := Lib.hid hxc; clear hxc
            go_wp2_with fail
            exact bodyPost_ret (v := .tuple #[.string ⟨#[]⟩, .bool false]) (by simp [results, Try.results33, go_sem]) rfl ⟨⟨_, by rw [HF.out], fun h => absurd (HF.out.symm.trans h) (by simp)⟩, hbx⟩
    · obtain rfl : k = n := by omega
      have i1 : ¬ (k : Int) < (k : Int) := by omega
      have htk : B.take k = B := List.take_of_length_le (by rw [HBl.out]; omega)
      have hok := Ho.out
      rw [htk] at hok
      have hc2 := Hc.out
      rw [htk] at hc2
      have hk2 := hueOk_one hok
      rw [hc2] at hk2
      have ec := name_emp cc
      have Hok := Lib.hid hok; clear hok
      have Hc2 := Lib.hid hc2; clear hc2
      obtain ⟨C, hC⟩ : ∃ C, nameC cc = C := ⟨_, rfl⟩
      rw [hC] at ec ⊢
      clear htk
      by_cases c0 : cc = 0
      · rw [decide_eq_true c0] at ec
        rw [decide_eq_false (by omega)] at hk2
        have H1 := Lib.hid c0; clear c0
        have HC := Lib.hid hC; clear hC
        have Hk2 := Lib.hid hk2; clear hk2
        go_wp2_with fail
        exact bodyPost_ret (v := .tuple #[.string C, .bool false]) (by simp [results, Try.results33, go_sem]) rfl ⟨⟨_, by rw [Hk2.out], fun h => absurd (Hk2.out.symm.trans h) (by simp)⟩, hbw⟩
      · rw [decide_eq_false c0] at ec
        rw [decide_eq_true c0] at hk2
        have H1 := Lib.hid c0; clear c0
        have HC := Lib.hid hC; clear hC
        have Hk2 := Lib.hid hk2; clear hk2
        go_wp2_with fail
        exact bodyPost_ret (v := .tuple #[.string C, .bool true]) (by simp [results, Try.results33, go_sem]) rfl ⟨⟨C, by rw [Hk2.out], fun _ => by rw [Hc2.out, HC.out]⟩, hbw⟩
end Go.Proofs.Ytgibbhipjpbdfaa

/- The phases of a valid character: what recognition asks of them. Plain. -/
namespace Go.Proofs.Ytgibbhipjpbdfaa
open Go.RowKit
theorem ten_pos {x : Ch} (h : validB x = true) (co : ByteArray) : 1 ≤ (tenC (phasesL x co)).length := by
  have h1 := tenL_len (ps := phasesL x co) fun p hp => by have := phases_pos h p hp; omega
  have h2 := tot_pos h co
  rw [tenC, List.length_map]
  omega
theorem okS_ph {x : Ch} {co : ByteArray} (h : colB co = true) : ∀ p ∈ phasesL x co, okS p.c := fun p hp => by
  obtain ⟨j, hj⟩ := List.getElem?_of_mem hp
  rw [phases_col hj]
  cases litAt (ocB x) j
  · exact okS_emp
  · exact okS_col h
theorem len_ph {x : Ch} (h : validB x = true) (co : ByteArray) : ∀ p ∈ phasesL x co, 0 ≤ p.len ∧ p.len ≤ 600 := fun p hp => by
  have := phases_pos h p hp; omega
theorem num_ph {x : Ch} (h : validB x = true) (co : ByteArray) : (phasesL x co).length ≤ 200 := by
  have := phases_len (co := co) (valid_shape h); omega
end Go.Proofs.Ytgibbhipjpbdfaa

/- A character in a block of its own, written cell by cell. No program is named here. -/
namespace Go.Proofs.Ytgibbhipjpbdfaa
open Go.RowKit
/-- A character in a block of its own, at place b. -/
def rowC (w : World) (b : Nat) (k : Int) (v : Value) (l cs : ByteArray) (p : Int) : Prop :=
  w.heap[b]? = some (.cells #[.int .i64 k, v, .string l, .string cs, .int .i64 p] 26 (0, 0))
theorem rowC.next {w w' : World} {b : Nat} {k : Int} {v : Value} {l cs : ByteArray} {p : Int} (h : rowC w b k v l cs p) (hb : Below w.heap.size w w') : rowC w' b k v l cs p :=
  (hb.block b (by
    by_cases hk : b < w.heap.size
    · exact hk
    · rw [rowC, Array.getElem?_eq_none (by omega)] at h; cases h)).trans h
theorem rowC.lt {w : World} {b : Nat} {k : Int} {v : Value} {l cs : ByteArray} {p : Int} (h : rowC w b k v l cs p) : b < w.heap.size := (Array.getElem?_eq_some_iff.1 h).1
theorem rowC.facts {w : World} {b : Nat} {k : Int} {v : Value} {l cs : ByteArray} {p : Int} (h : rowC w b k v l cs p) :
    w.cell? ⟨b, 0, none⟩ = some (.int .i64 k) ∧ w.cell? ⟨b, 1, none⟩ = some v ∧ w.cell? ⟨b, 2, none⟩ = some (.string l) ∧ w.cell? ⟨b, 3, none⟩ = some (.string cs) ∧ w.cell? ⟨b, 4, none⟩ = some (.int .i64 p) ∧ (∀ j, w.frozen? ⟨b, j, none⟩ = false) :=
  ⟨(cell_of_row w b 0 _ _ _ h).trans rfl, (cell_of_row w b 1 _ _ _ h).trans rfl, (cell_of_row w b 2 _ _ _ h).trans rfl, (cell_of_row w b 3 _ _ _ h).trans rfl, (cell_of_row w b 4 _ _ _ h).trans rfl, fun j => frozen_of_row w b j _ _ h⟩
theorem rowC.other {w : World} {b : Nat} {k : Int} {v : Value} {l cs : ByteArray} {p : Int} (h : rowC w b k v l cs p) {a : Addr} (u : Value) (hne : b ≠ a.block) : rowC (w.setCell a u) b k v l cs p :=
  (heap_setCell_other w a b u hne).trans h
theorem rowC.set0 {w : World} {b : Nat} {k : Int} {v : Value} {l cs : ByteArray} {p : Int} (h : rowC w b k v l cs p) (k' : Int) : rowC (w.setCell ⟨b, 0, none⟩ (.int .i64 k')) b k' v l cs p := heap_setCell_same w b 0 _ _ _ h
theorem rowC.set1 {w : World} {b : Nat} {k : Int} {v : Value} {l cs : ByteArray} {p : Int} (h : rowC w b k v l cs p) (v' : Value) : rowC (w.setCell ⟨b, 1, none⟩ v') b k v' l cs p := heap_setCell_same w b 1 _ _ _ h
theorem rowC.set2 {w : World} {b : Nat} {k : Int} {v : Value} {l cs : ByteArray} {p : Int} (h : rowC w b k v l cs p) (l' : ByteArray) : rowC (w.setCell ⟨b, 2, none⟩ (.string l')) b k v l' cs p := heap_setCell_same w b 2 _ _ _ h
theorem rowC.set3 {w : World} {b : Nat} {k : Int} {v : Value} {l cs : ByteArray} {p : Int} (h : rowC w b k v l cs p) (c' : ByteArray) : rowC (w.setCell ⟨b, 3, none⟩ (.string c')) b k v l c' p := heap_setCell_same w b 3 _ _ _ h
theorem rowC.set4 {w : World} {b : Nat} {k : Int} {v : Value} {l cs : ByteArray} {p : Int} (h : rowC w b k v l cs p) (p' : Int) : rowC (w.setCell ⟨b, 4, none⟩ (.int .i64 p')) b k v l cs p' := heap_setCell_same w b 4 _ _ _ h
theorem rowC.grown {w w' : World} {b : Nat} {k : Int} {v : Value} {l cs : ByteArray} {p : Int} {row : Option Nat} (h : rowC w b k v l cs p) (hg : w.grownBy w' row) (hne : row ≠ some b) : rowC w' b k v l cs p :=
  (hg.block b h.lt (fun e => hne e.symm)).trans h
theorem rowC.new (w : World) (k : Int) (v : Value) (l cs : ByteArray) (p : Int) : rowC (w.alloc (.cells #[.int .i64 k, v, .string l, .string cs, .int .i64 p] 26)) w.heap.size k v l cs p := heap_alloc_new w _
theorem rowC.chP {w : World} {b : Nat} {A : Option Addr} {n c : Nat} {x : Ch} (h : rowC w b x.k (.slice A n c) x.l x.cs x.p) (sl : Sl w w.heap.size 1 A n (x.gs.flatMap intC)) (hn : n ≤ 1048576) (hl : x.l.size ≤ 1048576) (hs : x.cs.size ≤ 1048576) : ChP w b 0 A n c x := by
  obtain ⟨g0, g1, g2, g3, g4, _⟩ := h.facts
  exact ⟨g0, by simpa using g1, by simpa using g2, by simpa using g3, by simpa using g4, h.lt, sl, hn, hl, hs⟩
/-- A character written whole. -/
abbrev W5 (w : World) (b : Nat) (k : Int) (v : Value) (l cs : ByteArray) (p : Int) : World := ((((w.setCell ⟨b, 0, none⟩ (.int .i64 k)).setCell ⟨b, 1, none⟩ v).setCell ⟨b, 2, none⟩ (.string l)).setCell ⟨b, 3, none⟩ (.string cs)).setCell ⟨b, 4, none⟩ (.int .i64 p)
theorem rowC.setAll {w : World} {b : Nat} {k : Int} {v : Value} {l cs : ByteArray} {p : Int} (h : rowC w b k v l cs p) (k' : Int) (v' : Value) (l' cs' : ByteArray) (p' : Int) : rowC (W5 w b k' v' l' cs' p') b k' v' l' cs' p' := ((((h.set0 k').set1 v').set2 l').set3 cs').set4 p'
theorem below_w5 {base b : Nat} {w0 w : World} (h : Below base w0 w) (hb : base ≤ b) (k : Int) (v : Value) (l cs : ByteArray) (p : Int) : Below base w0 (W5 w b k v l cs p) := by
  have h1 : Below base w0 (w.setCell ⟨b, 0, none⟩ (.int .i64 k)) := h.setCell hb _
  have h2 : Below base w0 ((w.setCell ⟨b, 0, none⟩ (.int .i64 k)).setCell ⟨b, 1, none⟩ v) := h1.setCell hb _
  have h3 : Below base w0 (((w.setCell ⟨b, 0, none⟩ (.int .i64 k)).setCell ⟨b, 1, none⟩ v).setCell ⟨b, 2, none⟩ (.string l)) := h2.setCell hb _
  have h4 : Below base w0 ((((w.setCell ⟨b, 0, none⟩ (.int .i64 k)).setCell ⟨b, 1, none⟩ v).setCell ⟨b, 2, none⟩ (.string l)).setCell ⟨b, 3, none⟩ (.string cs)) := h3.setCell hb _
  exact h4.setCell hb _
theorem own_w5 {w : World} {base sz n : Nat} {e : TypeId} {u : Value} {xs : List Value} (h : w.ownsRow base e sz u n xs) {b : Nat} (hb : b < base) (k : Int) (v : Value) (l cs : ByteArray) (p : Int) : (W5 w b k v l cs p).ownsRow base e sz u n xs :=
  ownsRow_setCell_below (ownsRow_setCell_below (ownsRow_setCell_below (ownsRow_setCell_below (ownsRow_setCell_below h (a := ⟨b, 0, none⟩) hb _) (a := ⟨b, 1, none⟩) hb _) (a := ⟨b, 2, none⟩) hb _) (a := ⟨b, 3, none⟩) hb _) (a := ⟨b, 4, none⟩) hb _
end Go.Proofs.Ytgibbhipjpbdfaa

/- Recognition: the program: has a character a pattern. -/
namespace Go.Proofs.Ytgibbhipjpbdfaa
open Go.RowKit
theorem phs_one {ps : List Ph} (hv : vPh ps = true) : ps.length ≤ 40 ∧ (∀ p ∈ ps, 1 ≤ p.len ∧ p.len ≤ 600) ∧ (∀ p ∈ ps, okS p.c) ∧ 1 ≤ (tenC ps).length ∧ (tenC ps).length ≤ 600 := by
  rw [vPh, Bool.and_eq_true, Bool.and_eq_true, List.all_eq_true] at hv
  obtain ⟨h1, h2, h3⟩ := hv
  rw [inB_iff] at h2 h3
  have hp : ∀ p ∈ ps, 1 ≤ p.len ∧ p.len ≤ 600 := fun p hp => by
    have := h1 p hp
    rw [okPh, Bool.and_eq_true, inB_iff] at this
    exact this.1
  have ho : ∀ p ∈ ps, okS p.c := fun p hp => by
    have := h1 p hp
    rw [okPh, Bool.and_eq_true, Bool.or_eq_true] at this
    rcases this.2 with h | h
    · exact .inl ((toList_nil _).1 (List.isEmpty_iff.1 h))
    · exact okS_col h
  have hl : ((tenL ps).length : Int) = totI ps := tenL_len fun p h => ⟨by have := hp p h; omega, (hp p h).2⟩
  have hl2 : (tenC ps).length = (tenL ps).length := by rw [tenC, List.length_map]
  refine ⟨by omega, hp, ho, ?_, by omega⟩
  cases ps with
  | nil => simp at h2
  | cons p r =>
    have := hp p List.mem_cons_self
    rw [tenC, tenL, List.flatMap_cons, List.length_map, List.length_append, List.length_replicate]
    omega
/-- The character that is tried: with the period of the pattern, unless it is steady. -/
def setP (x : Ch) (m : Int) : Ch := ⟨x.k, x.gs, x.l, x.cs, if steadyB x = true then x.p else m⟩
theorem steady_setP (x : Ch) (m : Int) : steadyB (setP x m) = steadyB x := rfl
theorem fit_lits {x : Ch} {L : List Int} (h : fitC L x = true) (hL : 1 ≤ L.length) (hp : primB L) (hs : steadyB x = false) (hx : x.p = L.length) : litN (tenC (phasesL x x.cs)) = litN L ∧ flashB (tenC (phasesL x x.cs)) = flashB L := by
  obtain ⟨s, hr⟩ := (fitC_iff.1 h).rot hL hp hs hx
  rw [hr, lit_rot, flash_rot]
  exact ⟨rfl, rfl⟩
set_option maxRecDepth 100000 in
set_option maxHeartbeats 4000000 in
theorem matches_c (A : Option Addr) (n c : Nat) (x : Ch) (Ap : Option Addr) (np cp : Nat) (ps : List Ph) (AL : Option Addr) (m cL : Nat) (w : World) (sl : Sl w w.heap.size 1 A n (x.gs.flatMap intC)) (hn : n ≤ 1048576) (hlz : x.l.size ≤ 1048576) (hs : x.cs.size ≤ 1048576)
    (hp : Sl w w.heap.size 2 Ap np (ps.flatMap Ph.cells)) (hv : vPh ps = true) (hL : Sl w w.heap.size 1 AL m ((onceB (tenC ps)).flatMap nC)) (hco : colB x.cs = true) :
    Calls Try.prog 36 #[chV x.k A n c x.l x.cs x.p, .slice Ap np cp, .slice AL m cL] w fun e w' => e = .returned (.bool (fitC (onceB (tenC ps)) (setP x m))) ∧ Below w.heap.size w w' := by
  obtain ⟨v1, v2, v3, v4, v5⟩ := phs_one hv
  have hol := once_len v4
  have hpr := once_prim v4
  have hLm := hL.len nC 1 nC_len (by omega)
  have hpn := hp.len Ph.cells 2 Ph.cells_len (by omega)
  have hm1 : 1 ≤ m := by omega
  have hm6 : m ≤ 600 := by omega
  have hSt : ∀ (p : Int) w1, Below w.heap.size w w1 → Calls Try.prog 37 #[chV x.k A n c x.l x.cs p] w1 fun e w' => e = .returned (.bool (steadyB x)) ∧ Below w1.heap.size w1 w' := fun p w1 hb => isSteady_c A n c ⟨x.k, x.gs, x.l, x.cs, p⟩ w1 (sl.next hb) hn hlz hs
  have hLi : ∀ w1, Below w.heap.size w w1 → Calls Try.prog 74 #[.slice AL m cL] w1 fun e w' => e = .returned (.int .i64 (litN (onceB (tenC ps)) : Nat)) ∧ w1 = w' := fun w1 hb => litTenthsN_c AL m cL _ w1 (hL.next hb) (by omega)
  have hFl : ∀ w1, Below w.heap.size w w1 → Calls Try.prog 75 #[.slice AL m cL] w1 fun e w' => e = .returned (.int .i64 (flashB (onceB (tenC ps)) : Nat)) ∧ w1 = w' := fun w1 hb => flashes_c AL m cL _ w1 (hL.next hb) (by omega)
  obtain ⟨y, hy⟩ : ∃ y, setP x m = y := ⟨_, rfl⟩
  obtain ⟨P, hP⟩ : ∃ P, (if steadyB x = true then x.p else (m : Int)) = P := ⟨_, rfl⟩
  have hye : y = ⟨x.k, x.gs, x.l, x.cs, P⟩ := by rw [← hy, setP, hP]
  have hVa : ∀ w1, Below w.heap.size w w1 → Calls Try.prog 72 #[chV x.k A n c x.l x.cs P] w1 fun e w' => e = .returned (.bool (validB y)) ∧ Below w1.heap.size w1 w' := fun w1 hb => by
    rw [hye]
    exact implValid_c A n c ⟨x.k, x.gs, x.l, x.cs, P⟩ w1 (sl.next hb) hn hlz hs
  have hbx : Below w.heap.size w (w.alloc (.cells #[.int .i64 x.k, .slice A n c, .string x.l, .string x.cs, .int .i64 x.p] 26)) := by (repeat (first | (with_reducible assumption) | (with_reducible exact Below.refl _ _) | exact Nat.le_refl _ | exact Below.size (by with_reducible assumption) | (with_reducible refine Below.drew ?_) | (with_reducible refine below_drewN ?_ _) | (with_reducible refine Below.alloc ?_ ?_ _) | (with_reducible refine Below.setCell ?_ ?_ _) | (with_reducible refine le_alloc ?_ _) | (with_reducible refine le_set ?_ _ _) | (with_reducible refine le_drew ?_) | (with_reducible refine le_drewN ?_ _) | omega | (dsimp only; omega)))
  have hr0 := rowC.new w x.k (.slice A n c) x.l x.cs x.p
  obtain ⟨L, hLe⟩ : ∃ L, onceB (tenC ps) = L := ⟨_, rfl⟩
  rw [hLe] at hol hpr hLi hFl hLm ⊢
  rw [hy]
  have hfl : flashB L ≤ 600 := by
    rw [flash_count]
    exact Nat.le_trans List.countP_le_length (by rw [List.length_range]; omega)
  have hli : litN L ≤ 600 := Nat.le_trans (litN_le L) (by omega)
  have hSp0 : ∀ (A8 : Option Addr) (n8 c8 : Nat) (qs : List Ph) w1, Below w.heap.size w w1 → Sl w1 w1.heap.size 2 A8 n8 (qs.flatMap Ph.cells) → n8 ≤ 200 → (∀ p ∈ qs, 0 ≤ p.len ∧ p.len ≤ 600) → (∀ p ∈ qs, okS p.c) → 1 ≤ (tenC qs).length → Calls Try.prog 59 #[.slice A8 n8 c8, .slice Ap np cp] w1 fun e w' => e = .returned (.bool (decide (normB (onceB (tenC qs)) = normB L))) ∧ Below w1.heap.size w1 w' := fun A8 n8 c8 qs w1 hb s8 h8 hb8 ho8 hl8 => by
    have := samePattern_c A8 n8 c8 qs Ap np cp ps w1 s8 (hp.next hb) h8 (by omega) hb8 (fun p hp => by have := v2 p hp; omega) ho8 v3 hl8 v4
    rwa [hLe] at this
  cases hva : validB y
  · have hFt : fitC L y = false := by rw [fitC, hva]; rfl
    rw [hFt]
    rw [hva] at hVa
    have HSt := Lib.hid hSt; clear hSt
    have HVa := Lib.hid hVa; clear hVa
    clear hSp0 hLi hFl hFt hy hye hva hpr hLe hLm hpn hol v1 v2 v3 v4 v5 hv
    cases hst : steadyB x
    · rw [hst] at hP HSt
      obtain rfl : (m : Int) = P := by rw [← hP]; rfl
      clear hP
      have Hst := Lib.hid hst; clear hst
      go_enter Try.func36, Try.ntmps36
      go_wp2_with fail
      refine (HSt.out _ _ hbx).mono ?_
      rintro e w1 ⟨rfl, hb1⟩
      have hr1 := hr0.next hb1
      have hbw := hbx.trans (hb1.mono hbx.size)
      obtain ⟨a0, a1, a2, a3, a4, a5⟩ := hr1.facts
      have hr2 := hr1.set4 (m : Int)
      have hbw2 : Below w.heap.size w (w1.setCell ⟨w.heap.size, 4, none⟩ (.int .i64 (m : Int))) := hbw.setCell (Nat.le_refl _) _
      go_wp2_with fail
      generalize w1.setCell ⟨w.heap.size, 4, none⟩ (.int .i64 (m : Int)) = w2 at *
      refine (HVa.out _ hbw2).mono ?_
      rintro e w3 ⟨rfl, hb3⟩
      have hbw3 := hbw2.trans (hb3.mono hbw2.size)
      go_wp2_with fail
      go_ret
      exact ⟨rfl, hbw3⟩
    · rw [hst] at hP HSt
      obtain rfl : x.p = P := by rw [← hP]; rfl
      clear hP
      have Hst := Lib.hid hst; clear hst
      go_enter Try.func36, Try.ntmps36
      go_wp2_with fail
      refine (HSt.out _ _ hbx).mono ?_
      rintro e w1 ⟨rfl, hb1⟩
      have hr1 := hr0.next hb1
      have hbw := hbx.trans (hb1.mono hbx.size)
      obtain ⟨a0, a1, a2, a3, a4, a5⟩ := hr1.facts
      go_wp2_with fail
      refine (HVa.out _ hbw).mono ?_
      rintro e w3 ⟨rfl, hb3⟩
      have hbw3 := hbw.trans (hb3.mono hbw.size)
      go_wp2_with fail
      go_ret
      exact ⟨rfl, hbw3⟩
  have hcs : y.cs = x.cs := by rw [hye]
  have hcy : colB y.cs = true := by rw [hcs]; exact hco
  have hq1 := num_ph hva y.cs
  have hq2 := len_ph hva y.cs
  have hq3 := okS_ph (x := y) hcy
  have hq4 := ten_pos hva y.cs
  have hFt : fitC L y = decide (normB (onceB (tenC (phasesL y y.cs))) = normB L) := by rw [fitC, hva, Bool.true_and]
  have hlits := fun h h1 h2 => fit_lits (x := y) (L := L) h hol.1 hpr h1 h2
  have hPh : ∀ w1, Below w.heap.size w w1 → Calls Try.prog 73 #[chV x.k A n c x.l x.cs P, .string x.cs] w1 fun e w' => ∃ A8 c8, e = .returned (.slice A8 (phasesL y y.cs).length c8) ∧ Sl w' w'.heap.size 2 A8 (phasesL y y.cs).length ((phasesL y y.cs).flatMap Ph.cells) ∧ Below w1.heap.size w1 w' := fun w1 hb => by
    have hva2 := hva
    rw [hye] at hva2 ⊢
    refine (phases_c A n c ⟨x.k, x.gs, x.l, x.cs, P⟩ w1 (sl.next hb) hn hlz hs x.cs hva2).mono ?_
    rintro e w' ⟨v, rfl, ho, hb⟩
    obtain ⟨A8, c8, rfl⟩ := own_slice ho
    exact ⟨A8, c8, rfl, Sl.of_own ho, hb⟩
  obtain ⟨qs, hqs⟩ : ∃ qs, phasesL y y.cs = qs := ⟨_, rfl⟩
  rw [hqs] at hq1 hq2 hq3 hq4 hFt hlits hPh
  obtain ⟨N8, hN8⟩ : ∃ N, qs.length = N := ⟨_, rfl⟩
  rw [hN8] at hq1 hPh
  have hTe : ∀ (A8 : Option Addr) (c8 : Nat) w1, Sl w1 w1.heap.size 2 A8 N8 (qs.flatMap Ph.cells) → Calls Try.prog 54 #[.slice A8 N8 c8] w1 fun e w' => ∃ A9 c9, e = .returned (.slice A9 (tenC qs).length c9) ∧ Sl w' w'.heap.size 1 A9 (tenC qs).length ((tenC qs).flatMap nC) ∧ Below w1.heap.size w1 w' := fun A8 c8 w1 s8 => by
    refine (tenths_c A8 N8 c8 qs w1 s8 hq1 hq2 hq3).mono ?_
    rintro e w' ⟨v, rfl, ho, hb⟩
    obtain ⟨A9, c9, rfl⟩ := own_slice ho
    exact ⟨A9, c9, rfl, Sl.of_own ho, hb⟩
  have hSp : ∀ (A8 : Option Addr) (c8 : Nat) w1, Below w.heap.size w w1 → Sl w1 w1.heap.size 2 A8 N8 (qs.flatMap Ph.cells) → Calls Try.prog 59 #[.slice A8 N8 c8, .slice Ap np cp] w1 fun e w' => e = .returned (.bool (decide (normB (onceB (tenC qs)) = normB L))) ∧ Below w1.heap.size w1 w' := fun A8 c8 w1 hb s8 => hSp0 A8 N8 c8 qs w1 hb s8 hq1 hq2 hq3 hq4
  have hTl : (tenC qs).length ≤ 200000 := by
    have := tenC_len hq2
    omega
  obtain ⟨O, hO⟩ : ∃ O, tenC qs = O := ⟨_, rfl⟩
  rw [hO] at hTe hSp hFt hlits hTl
  obtain ⟨NO, hNO⟩ : ∃ N, O.length = N := ⟨_, rfl⟩
  rw [hNO] at hTe hTl
  have hLo : ∀ (A9 : Option Addr) (c9 : Nat) w1, Sl w1 w1.heap.size 1 A9 NO (O.flatMap nC) → Calls Try.prog 74 #[.slice A9 NO c9] w1 fun e w' => e = .returned (.int .i64 (litN O : Nat)) ∧ w1 = w' := fun A9 c9 w1 s9 => litTenthsN_c A9 NO c9 O w1 s9 hTl
  have hFo : ∀ (A9 : Option Addr) (c9 : Nat) w1, Sl w1 w1.heap.size 1 A9 NO (O.flatMap nC) → Calls Try.prog 75 #[.slice A9 NO c9] w1 fun e w' => e = .returned (.int .i64 (flashB O : Nat)) ∧ w1 = w' := fun A9 c9 w1 s9 => flashes_c A9 NO c9 O w1 s9 hTl
  have hyp : y.p = P := by rw [hye]
  have hys : steadyB y = steadyB x := by rw [← hy]; exact steady_setP x m
  obtain ⟨FT, hFTe⟩ : ∃ FT, fitC L y = FT := ⟨_, rfl⟩
  obtain ⟨D, hD⟩ : ∃ D, decide (normB (onceB O) = normB L) = D := ⟨_, rfl⟩
  rw [hFTe, hD] at hFt
  rw [hFTe] at hlits ⊢
  rw [hD] at hSp
  rw [hys, hyp] at hlits
  rw [hva] at hVa
  have hFt := hFt.symm
  obtain ⟨LO, hLO⟩ : ∃ a, litN O = a := ⟨_, rfl⟩
  obtain ⟨LL, hLL⟩ : ∃ a, litN L = a := ⟨_, rfl⟩
  obtain ⟨FO, hFO⟩ : ∃ a, flashB O = a := ⟨_, rfl⟩
  obtain ⟨FL, hFL⟩ : ∃ a, flashB L = a := ⟨_, rfl⟩
  rw [hLO] at hLo hlits
  rw [hFO] at hFo hlits
  rw [hLL] at hLi hlits
  rw [hFL] at hFl hlits
  have HSt := Lib.hid hSt; clear hSt
  have HVa := Lib.hid hVa; clear hVa
  have HPh := Lib.hid hPh; clear hPh
  have HTe := Lib.hid hTe; clear hTe
  have HSp := Lib.hid hSp; clear hSp
  have HLi := Lib.hid hLi; clear hLi
  have HFl := Lib.hid hFl; clear hFl
  have HLo := Lib.hid hLo; clear hLo
  have HFo := Lib.hid hFo; clear hFo
  have HFt := Lib.hid hFt; clear hFt
  clear hLO hLL hFO hFL hSp0 hye hva hpr hpn hol v1 v2 v3 v4 v5 hv hcs hcy hq1 hq2 hq3 hq4 hO hNO hqs hN8 hFTe hD hfl hli hTl hyp hys hy
  cases hst : steadyB x
  · rw [hst] at hP HSt hlits
    obtain rfl : (m : Int) = P := by rw [← hP]; rfl
    have hlit2 : FT = true → LO = LL ∧ FO = FL := fun h => hlits h rfl (by rw [hLm])
    clear hP hLm hlits
    have Hst := Lib.hid hst; clear hst
    go_enter Try.func36, Try.ntmps36
    go_wp2_with fail
    refine (HSt.out _ _ hbx).mono ?_
    rintro e w1 ⟨rfl, hb1⟩
    have hr1 := hr0.next hb1
    have hbw := hbx.trans (hb1.mono hbx.size)
    obtain ⟨a0, a1, a2, a3, a4, a5⟩ := hr1.facts
    have hr2 := hr1.set4 (m : Int)
    have hbw2 : Below w.heap.size w (w1.setCell ⟨w.heap.size, 4, none⟩ (.int .i64 (m : Int))) := hbw.setCell (Nat.le_refl _) _
    have HLits := Lib.hid hlit2; clear hlit2
    go_wp2_with fail
    generalize w1.setCell ⟨w.heap.size, 4, none⟩ (.int .i64 (m : Int)) = w2 at *
    clear a0 a1 a2 a3 a4 a5 hr1 hbw hb1 hr0 hbx
    refine (HVa.out _ hbw2).mono ?_
    rintro e w3 ⟨rfl, hb3⟩
    have hr3 := hr2.next hb3
    have hbw3 := hbw2.trans (hb3.mono hbw2.size)
    clear hr2 hbw2 hb3
    obtain ⟨a0, a1, a2, a3, a4, a5⟩ := hr3.facts
    go_wp2_with fail
    refine (HPh.out _ hbw3).mono ?_
    rintro e w4 ⟨A8, c8, rfl, s8, hb4⟩
    have hbw4 := hbw3.trans (hb4.mono hbw3.size)
    go_wp2_with fail
    refine (HTe.out _ _ _ s8).mono ?_
    rintro e w5 ⟨A9, c9, rfl, s9, hb5⟩
    have hbw5 := hbw4.trans (hb5.mono hbw4.size)
    have hr5 := (hr3.next hb4).next hb5
    clear a0 a1 a2 a3 a4 a5 hr3 hbw3 hbw4 hb4 hb5 s8
    obtain ⟨a0, a1, a2, a3, a4, a5⟩ := hr5.facts
    go_wp2_with fail
    refine (HSt.out _ _ hbw5).mono ?_
    rintro e w6 ⟨rfl, hb6⟩
    have hbw6 := hbw5.trans (hb6.mono hbw5.size)
    have hr6 := hr5.next hb6
    have s96 := s9.next hb6
    clear a0 a1 a2 a3 a4 a5 hr5 hbw5 hb6 s9
    obtain ⟨a0, a1, a2, a3, a4, a5⟩ := hr6.facts
    have hLno : ¬ LO = LL → FT = false := fun h => by
      cases hf : FT
      · rfl
      · exact absurd (HLits.out hf).1 h
    have hFno : ¬ FO = FL → FT = false := fun h => by
      cases hf : FT
      · rfl
      · exact absurd (HLits.out hf).2 h
    have HLno := Lib.hid hLno; clear hLno
    have HFno := Lib.hid hFno; clear hFno
    go_wp2_with fail
    refine (HLo.out _ _ _ s96).mono ?_
    rintro e w7 ⟨rfl, rfl⟩
    go_wp2_with fail
    refine (HLi.out _ hbw6).mono ?_
    rintro e w7 ⟨rfl, rfl⟩
    by_cases h1 : LO = LL
    rotate_left
    · have e1 : ((LO : Int) != (LL : Int)) = true := by simpa using (by omega : ¬ (LO : Int) = (LL : Int))
      have hF := HLno.out h1
      have H1 := Lib.hid h1; clear h1
      have HF := Lib.hid hF; clear hF
      go_wp2_with fail
      go_ret
      exact ⟨ret_eq (bool_eq HF.out.symm), hbw6⟩
    have e1 : ((LO : Int) != (LL : Int)) = false := by simp [h1]
    have H1 := Lib.hid h1; clear h1
    go_wp2_with fail
    refine (HFo.out _ _ _ s96).mono ?_
    rintro e w7 ⟨rfl, rfl⟩
    go_wp2_with fail
    refine (HFl.out _ hbw6).mono ?_
    rintro e w7 ⟨rfl, rfl⟩
    by_cases h2 : FO = FL
    rotate_left
    · have e2 : ((FO : Int) != (FL : Int)) = true := by simpa using (by omega : ¬ (FO : Int) = (FL : Int))
      have hF := HFno.out h2
      have H2 := Lib.hid h2; clear h2
      have HF := Lib.hid hF; clear hF
      go_wp2_with fail
      go_ret
      exact ⟨ret_eq (bool_eq HF.out.symm), hbw6⟩
    have e2 : ((FO : Int) != (FL : Int)) = false := by simp [h2]
    have H2 := Lib.hid h2; clear h2
    go_wp2_with fail
    refine (HPh.out _ hbw6).mono ?_
    rintro e w8 ⟨A8, c8, rfl, sl8, hb8⟩
    have hbz := (hbw6).trans (hb8.mono (hbw6).size)
    go_wp2_with fail
    refine (HSp.out _ _ _ hbz sl8).mono ?_
    rintro e w9 ⟨rfl, hb9⟩
    have hby := hbz.trans (hb9.mono hbz.size)
    go_wp2_with fail
    go_ret
    exact ⟨ret_eq (bool_eq HFt.out), hby⟩
  · rw [hst] at hP HSt
    obtain rfl : x.p = P := by rw [← hP]; rfl
    clear hP hLm hlits
    have Hst := Lib.hid hst; clear hst
    go_enter Try.func36, Try.ntmps36
    go_wp2_with fail
    refine (HSt.out _ _ hbx).mono ?_
    rintro e w1 ⟨rfl, hb1⟩
    have hr2 := hr0.next hb1
    have hbw2 := hbx.trans (hb1.mono hbx.size)
    clear hb1 hr0 hbx
    obtain ⟨a0, a1, a2, a3, a4, a5⟩ := hr2.facts
    go_wp2_with fail
    refine (HVa.out _ hbw2).mono ?_
    rintro e w3 ⟨rfl, hb3⟩
    have hr3 := hr2.next hb3
    have hbw3 := hbw2.trans (hb3.mono hbw2.size)
    clear a0 a1 a2 a3 a4 a5 hr2 hbw2 hb3
    obtain ⟨a0, a1, a2, a3, a4, a5⟩ := hr3.facts
    go_wp2_with fail
    refine (HPh.out _ hbw3).mono ?_
    rintro e w4 ⟨A8, c8, rfl, s8, hb4⟩
    have hbw4 := hbw3.trans (hb4.mono hbw3.size)
    go_wp2_with fail
    refine (HTe.out _ _ _ s8).mono ?_
    rintro e w5 ⟨A9, c9, rfl, s9, hb5⟩
    have hbw5 := hbw4.trans (hb5.mono hbw4.size)
    have hr5 := (hr3.next hb4).next hb5
    clear a0 a1 a2 a3 a4 a5 hr3 hbw3 hbw4 hb4 hb5 s8
    obtain ⟨a0, a1, a2, a3, a4, a5⟩ := hr5.facts
    go_wp2_with fail
    refine (HSt.out _ _ hbw5).mono ?_
    rintro e w6 ⟨rfl, hb6⟩
    have hbw6 := hbw5.trans (hb6.mono hbw5.size)
    have hr6 := hr5.next hb6
    clear a0 a1 a2 a3 a4 a5 hr5 hbw5 hb6 s9
    obtain ⟨a0, a1, a2, a3, a4, a5⟩ := hr6.facts
    go_wp2_with fail
    refine (HPh.out _ hbw6).mono ?_
    rintro e w8 ⟨A8, c8, rfl, sl8, hb8⟩
    have hbz := (hbw6).trans (hb8.mono (hbw6).size)
    go_wp2_with fail
    refine (HSp.out _ _ _ hbz sl8).mono ?_
    rintro e w9 ⟨rfl, hb9⟩
    have hby := hbz.trans (hb9.mono hbz.size)
    go_wp2_with fail
    go_ret
    exact ⟨ret_eq (bool_eq HFt.out), hby⟩
end Go.Proofs.Ytgibbhipjpbdfaa
