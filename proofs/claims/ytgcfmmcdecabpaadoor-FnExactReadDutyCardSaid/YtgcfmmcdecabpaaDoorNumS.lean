/- The number with a decimal form: the reference's l01Number. -/
import Derived.Test.YtgcfmmcdecabpaaDoorSplS
import Derived.Test.YtgcfmmcdecabpaaDoorNum
namespace Go.Proofs.YtgcfmmcdecabpaaDoor
open Go.RowKit
def numX (s : ByteArray) : Int := if numOk (lst s) then numV (lst s) else 0
theorem numX_no {s : ByteArray} (h : numOk (lst s) = false) : numX s = 0 := by rw [numX, h]; rfl
theorem lst_head {s : ByteArray} (h : 0 < s.size) : (lst s).head? = some s[0] := by
  rw [List.head?_eq_getElem?, lst_at h]
theorem dig_get {s : ByteArray} {a k : Nat} (h : k < s.size) (ha : a ≤ k) : ((lst s).drop a)[k - a]? = some s[k] := by
  rw [List.getElem?_drop, show a + (k - a) = k by omega, lst_at h]
set_option maxRecDepth 100000 in
set_option maxHeartbeats 2000000 in
theorem l01Number_c (s : ByteArray) (w : World) (hs : s.size ≤ 1048576) :
    Calls Tryd.prog 12 #[.string s] w fun e w' => e = .returned (.tuple #[.int .i64 (numX s), .bool (numOk (lst s))]) ∧ w = w' := by
  rcases Nat.eq_zero_or_pos s.size with h0 | h0
  · obtain rfl := size_zero h0
    have hno : numOk (lst ByteArray.empty) = false := by decide
    have hX := numX_no hno
    have Hno := Lib.hid hno; clear hno
    have HX := Lib.hid hX; clear hX
    go_enter Tryd.func12, Tryd.ntmps12
    go_wp2_with fail
    go_ret2
    exact ⟨by rw [HX.out, Hno.out]; rfl, rfl⟩
  have hi0 : (0 : Int) < (s.size : Int) := by omega
  have hse : ¬ s = ByteArray.empty := size_pos h0
  have hhd := lst_head h0
  by_cases h45 : s[0] = 45
  · have hq0 : (s[0].toNat : Int) = 45 := by rw [h45]; rfl
    have hneg : (lst s).head? = some 45 := by rw [hhd, h45]
    have hD0 : digL (lst s) = (lst s).drop 1 := by rw [digL, if_pos hneg, List.drop_one]
    have hSg : ∀ V : Nat, (if (lst s).head? = some 45 then -(V : Int) else (V : Int)) = -(V : Int) := fun V => by rw [if_pos hneg]
    have hDl : ((lst s).drop 1).length = s.size - 1 := by rw [List.length_drop, lst_len]
    obtain ⟨D, hD⟩ : ∃ D, (lst s).drop 1 = D := ⟨_, rfl⟩
    rw [hD] at hD0 hDl
    replace hD := hD.symm
    clear h45 hhd hneg
    by_cases h1 : s.size = 1
    · have hno : numOk (lst s) = false := by
        rw [Bool.eq_false_iff]
        intro h
        have := List.length_pos_iff.2 (numOk_iff.1 h).1
        rw [hD0, hDl] at this
        omega
      have h1' : (s.size : Int) = 1 := by omega
      clear hD0 hDl hD hSg
      have hX := numX_no hno
      have Hno := Lib.hid hno; clear hno
      have HX := Lib.hid hX; clear hX
      go_enter Tryd.func12, Tryd.ntmps12
      go_wp2_with fail
      go_ret2
      exact ⟨by rw [HX.out, Hno.out]; rfl, rfl⟩
    have h1' : ¬ (s.size : Int) = 1 := by omega
    by_cases h18 : 19 < s.size
    · have hno : numOk (lst s) = false := by
        rw [Bool.eq_false_iff]
        intro h
        have := (numOk_iff.1 h).2.1
        rw [hD0, hDl] at this
        omega
      have h18' : 18 < (s.size : Int) - 1 := by omega
      clear hD0 hDl hD hSg
      have hX := numX_no hno
      have Hno := Lib.hid hno; clear hno
      have HX := Lib.hid hX; clear hX
      go_enter Tryd.func12, Tryd.ntmps12
      go_wp2_with fail
      go_ret2
      exact ⟨by rw [HX.out, Hno.out]; rfl, rfl⟩
    have h18' : ¬ 18 < (s.size : Int) - 1 := by omega
    have hl1 : 1 < s.size := by omega
    have hl1' : 1 < (s.size : Int) := by omega
    have hd1 : D.head? = some s[1] := by
      rw [List.head?_eq_getElem?, hD]
      exact dig_get (a := 1) hl1 (Nat.le_refl _)
    by_cases h48 : s[1] = 48
    · have hno : numOk (lst s) = false := by
        rw [Bool.eq_false_iff]
        intro h
        have := (numOk_iff.1 h).2.2.1
        rw [hD0] at this
        exact this ⟨by rw [hd1, h48], by rw [lst_len]; omega⟩
      have hq1 : (s[1].toNat : Int) = 48 := by rw [h48]; rfl
      clear hD0 hDl hD hSg hd1 h48
      have hX := numX_no hno
      have Hno := Lib.hid hno; clear hno
      have HX := Lib.hid hX; clear hX
      go_enter Tryd.func12, Tryd.ntmps12
      go_wp2_with fail
      go_ret2
      exact ⟨by rw [HX.out, Hno.out]; rfl, rfl⟩
    have hq1 : ¬ (s[1].toNat : Int) = 48 := fun e => h48 (UInt8.toNat.inj (by simp; omega))
    have hD48 : ¬ (D.head? = some 48 ∧ 1 < (lst s).length) := fun h => h48 (by rw [hd1] at h; exact Option.some.inj h.1)
    have hDn : D ≠ [] := fun e => by rw [e] at hd1; cases hd1
    clear hd1 h48
    have HD0 := Lib.hid hD0; clear hD0
    have HDl := Lib.hid hDl; clear hDl
    have HD := Lib.hid hD; clear hD
    have HSg := Lib.hid hSg; clear hSg
    have HD48 := Lib.hid hD48; clear hD48
    have HDn := Lib.hid hDn; clear hDn
    go_enter Tryd.func12, Tryd.ntmps12
    go_wp2_with fail
    go_loop [5, 6] (fun y i => ∃ k : Nat, 1 ≤ k ∧ k ≤ s.size ∧ i = .int .i64 k ∧ Hid (y = .int .i64 (valD 0 (D.take (k - 1)))) ∧ Hid ((D.take (k - 1)).all isDg = true)) (fun _ i => s.size - (intOf i).toNat)
    case atStart => exact ⟨1, Nat.le_refl _, by omega, rfl, Lib.hid (by simp [valD]), Lib.hid (by simp)⟩
    case round =>
      obtain ⟨k, hak, hk, rfl, Hy, Ha⟩ := hrel
      have hy := Hy.out
      have hvb := val_lt (D.take (k - 1)) 0 Ha.out
      have hpw : 10 ^ (D.take (k - 1)).length ≤ 10 ^ 18 := Nat.pow_le_pow_right (by omega) (by rw [List.length_take, HDl.out]; omega)
      obtain ⟨V, hV⟩ : ∃ V, valD 0 (D.take (k - 1)) = V := ⟨_, rfl⟩
      rw [hV] at hy hvb
      subst hy
      have hVb : V < 1000000000000000000 := by omega
      have hVb2 : k < s.size → V < 100000000000000000 := fun hlt => by
        have hp2 : 10 ^ (D.take (k - 1)).length ≤ 10 ^ 17 := Nat.pow_le_pow_right (by omega) (by rw [List.length_take, HDl.out]; omega)
        omega
      clear hvb hpw
      have HVb2 := Lib.hid hVb2; clear hVb2
      have HV := Lib.hid hV; clear hV
      by_cases hlt : k < s.size
      · have hVb3 := HVb2.out hlt
        have hget := dig_get hlt hak
        rw [← HD.out] at hget
        have htk : D.take (k + 1 - 1) = D.take (k - 1) ++ [s[k]] := by
          rw [show k + 1 - 1 = (k - 1) + 1 by omega, List.take_add_one, hget, Option.toList_some]
        have Hget := Lib.hid hget; clear hget
        have Htk := Lib.hid htk; clear htk
        cases hdg : inB (s[k].toNat : Int) 48 57
        · have hno : numOk (lst s) = false := by
            rw [Bool.eq_false_iff]
            intro h
            have h4 := (numOk_iff.1 h).2.2.2
            rw [HD0.out] at h4
            have h5 := List.all_eq_true.1 h4 s[k] (List.mem_of_getElem? Hget.out)
            have h6 := isDg_iff.1 h5
            rw [inB_no] at hdg
            omega
          have hX := numX_no hno
          have Hno := Lib.hid hno; clear hno
          have HX := Lib.hid hX; clear hX
          go_wp2_with (first | (go_at_call 19; refine (l01Digit_c _ _).mono ?_; rw [hdg]; rintro e w1 ⟨rfl, rfl⟩))
          go_ret2
          exact ⟨by rw [HX.out, Hno.out]; rfl, rfl⟩
        · obtain ⟨g0, g1⟩ := inB_iff.1 hdg
          have hnv : valD 0 (D.take (k + 1 - 1)) = 10 * V + (s[k].toNat - 48) := by
            rw [Htk.out, valD_app, HV.out]; rfl
          have hna : (D.take (k + 1 - 1)).all isDg = true := by
            rw [Htk.out, List.all_append, Ha.out]
            simp only [List.all_cons, List.all_nil, Bool.and_true, Bool.true_and]
            exact isDg_iff.2 ⟨by omega, by omega⟩
          have Hnv := Lib.hid hnv; clear hnv
          have Hna := Lib.hid hna; clear hna
          go_wp2_with (first | (go_at_call 19; refine (l01Digit_c _ _).mono ?_; rw [hdg]; rintro e w1 ⟨rfl, rfl⟩))
          go_round
          case rel => exact ⟨k + 1, by omega, by omega, by go_num, Lib.hid (by rw [Hnv.out]; exact int_eq (by omega)), Lib.hid Hna.out⟩
          case measure => simp [intOf]; omega
      · obtain rfl : k = s.size := by omega
        have hfull : D.take (s.size - 1) = D := List.take_of_length_le (by rw [HDl.out]; omega)
        have hok : numOk (lst s) = true := numOk_iff.2 ⟨by rw [HD0.out]; exact HDn.out, by rw [HD0.out, HDl.out]; omega, by rw [HD0.out]; exact HD48.out, by rw [HD0.out]; have := Ha.out; rwa [hfull] at this⟩
        have hXv : numX s = -(V : Int) := by
          rw [numX, hok, if_pos rfl, numV, HD0.out]
          have h9 := HV.out
          rw [hfull] at h9
          rw [h9]
          exact HSg.out V
        have Hfull := Lib.hid hfull; clear hfull
        have Hok := Lib.hid hok; clear hok
        have HXv := Lib.hid hXv; clear hXv
        go_wp2_with fail
        go_ret2
        exact ⟨by rw [HXv.out, Hok.out]; rfl, rfl⟩
  · have hq0 : ¬ (s[0].toNat : Int) = 45 := fun e => h45 (UInt8.toNat.inj (by simp; omega))
    have hneg : ¬ (lst s).head? = some 45 := by rw [hhd]; exact fun h => h45 (Option.some.inj h)
    have hD0 : digL (lst s) = (lst s).drop 0 := digL_pos hneg
    have hSg : ∀ V : Nat, (if (lst s).head? = some 45 then -(V : Int) else (V : Int)) = (V : Int) := fun V => by rw [if_neg hneg]
    have hDl : ((lst s).drop 0).length = s.size - 0 := by rw [List.length_drop, lst_len]
    obtain ⟨D, hD⟩ : ∃ D, (lst s).drop 0 = D := ⟨_, rfl⟩
    rw [hD] at hD0 hDl
    replace hD := hD.symm
    clear h45 hneg
    by_cases h18 : 18 < s.size
    · have hno : numOk (lst s) = false := by
        rw [Bool.eq_false_iff]
        intro h
        have := (numOk_iff.1 h).2.1
        rw [hD0, hDl] at this
        omega
      have h18' : 18 < (s.size : Int) := by omega
      have hsz : ¬ (s.size : Int) = 0 := by omega
      clear hD0 hDl hD hSg hhd
      have hX := numX_no hno
      have Hno := Lib.hid hno; clear hno
      have HX := Lib.hid hX; clear hX
      go_enter Tryd.func12, Tryd.ntmps12
      go_wp2_with fail
      go_ret2
      exact ⟨by rw [HX.out, Hno.out]; rfl, rfl⟩
    have h18' : ¬ 18 < (s.size : Int) := by omega
    have hsz : ¬ (s.size : Int) = 0 := by omega
    have hd1 : D.head? = some s[0] := by
      rw [hD, List.drop_zero, hhd]
    have hDn : D ≠ [] := fun e => by rw [e] at hd1; cases hd1
    by_cases h48 : s[0] = 48
    · have hq1 : (s[0].toNat : Int) = 48 := by rw [h48]; rfl
      by_cases hl1 : 1 < s.size
      · have hno : numOk (lst s) = false := by
          rw [Bool.eq_false_iff]
          intro h
          have := (numOk_iff.1 h).2.2.1
          rw [hD0] at this
          exact this ⟨by rw [hd1, h48], by rw [lst_len]; omega⟩
        have hl1' : 1 < (s.size : Int) := by omega
        clear hD0 hDl hD hSg hd1 h48 hhd
        have hX := numX_no hno
        have Hno := Lib.hid hno; clear hno
        have HX := Lib.hid hX; clear hX
        go_enter Tryd.func12, Tryd.ntmps12
        go_wp2_with fail
        go_ret2
        exact ⟨by rw [HX.out, Hno.out]; rfl, rfl⟩
      have hl1' : ¬ 1 < (s.size : Int) := by omega
      have hD48 : ¬ (D.head? = some 48 ∧ 1 < (lst s).length) := fun h => hl1 (by rw [lst_len] at h; exact h.2)
      clear hd1 h48 hhd
      have HD0 := Lib.hid hD0; clear hD0
      have HDl := Lib.hid hDl; clear hDl
      have HD := Lib.hid hD; clear hD
      have HSg := Lib.hid hSg; clear hSg
      have HD48 := Lib.hid hD48; clear hD48
      have HDn := Lib.hid hDn; clear hDn
      go_enter Tryd.func12, Tryd.ntmps12
      go_wp2_with fail
      go_loop [5, 6] (fun y i => ∃ k : Nat, 0 ≤ k ∧ k ≤ s.size ∧ i = .int .i64 k ∧ Hid (y = .int .i64 (valD 0 (D.take (k - 0)))) ∧ Hid ((D.take (k - 0)).all isDg = true)) (fun _ i => s.size - (intOf i).toNat)
      case atStart => exact ⟨0, Nat.le_refl _, by omega, rfl, Lib.hid (by simp [valD]), Lib.hid (by simp)⟩
      case round =>
        obtain ⟨k, hak, hk, rfl, Hy, Ha⟩ := hrel
        have hy := Hy.out
        have hvb := val_lt (D.take (k - 0)) 0 Ha.out
        have hpw : 10 ^ (D.take (k - 0)).length ≤ 10 ^ 18 := Nat.pow_le_pow_right (by omega) (by rw [List.length_take, HDl.out]; omega)
        obtain ⟨V, hV⟩ : ∃ V, valD 0 (D.take (k - 0)) = V := ⟨_, rfl⟩
        rw [hV] at hy hvb
        subst hy
        have hVb : V < 1000000000000000000 := by omega
        have hVb2 : k < s.size → V < 100000000000000000 := fun hlt => by
          have hp2 : 10 ^ (D.take (k - 0)).length ≤ 10 ^ 17 := Nat.pow_le_pow_right (by omega) (by rw [List.length_take, HDl.out]; omega)
          omega
        clear hvb hpw
        have HVb2 := Lib.hid hVb2; clear hVb2
        have HV := Lib.hid hV; clear hV
        by_cases hlt : k < s.size
        · have hVb3 := HVb2.out hlt
          have hget := dig_get hlt hak
          rw [← HD.out] at hget
          have htk : D.take (k + 1 - 0) = D.take (k - 0) ++ [s[k]] := by
            rw [show k + 1 - 0 = (k - 0) + 1 by omega, List.take_add_one, hget, Option.toList_some]
          have Hget := Lib.hid hget; clear hget
          have Htk := Lib.hid htk; clear htk
          cases hdg : inB (s[k].toNat : Int) 48 57
          · have hno : numOk (lst s) = false := by
              rw [Bool.eq_false_iff]
              intro h
              have h4 := (numOk_iff.1 h).2.2.2
              rw [HD0.out] at h4
              have h5 := List.all_eq_true.1 h4 s[k] (List.mem_of_getElem? Hget.out)
              have h6 := isDg_iff.1 h5
              rw [inB_no] at hdg
              omega
            have hX := numX_no hno
            have Hno := Lib.hid hno; clear hno
            have HX := Lib.hid hX; clear hX
            go_wp2_with (first | (go_at_call 19; refine (l01Digit_c _ _).mono ?_; rw [hdg]; rintro e w1 ⟨rfl, rfl⟩))
            go_ret2
            exact ⟨by rw [HX.out, Hno.out]; rfl, rfl⟩
          · obtain ⟨g0, g1⟩ := inB_iff.1 hdg
            have hnv : valD 0 (D.take (k + 1 - 0)) = 10 * V + (s[k].toNat - 48) := by
              rw [Htk.out, valD_app, HV.out]; rfl
            have hna : (D.take (k + 1 - 0)).all isDg = true := by
              rw [Htk.out, List.all_append, Ha.out]
              simp only [List.all_cons, List.all_nil, Bool.and_true, Bool.true_and]
              exact isDg_iff.2 ⟨by omega, by omega⟩
            have Hnv := Lib.hid hnv; clear hnv
            have Hna := Lib.hid hna; clear hna
            go_wp2_with (first | (go_at_call 19; refine (l01Digit_c _ _).mono ?_; rw [hdg]; rintro e w1 ⟨rfl, rfl⟩))
            go_round
            case rel => exact ⟨k + 1, by omega, by omega, by go_num, Lib.hid (by rw [Hnv.out]; exact int_eq (by omega)), Lib.hid Hna.out⟩
            case measure => simp [intOf]; omega
        · obtain rfl : k = s.size := by omega
          have hfull : D.take (s.size - 0) = D := List.take_of_length_le (by rw [HDl.out]; omega)
          have hok : numOk (lst s) = true := numOk_iff.2 ⟨by rw [HD0.out]; exact HDn.out, by rw [HD0.out, HDl.out]; omega, by rw [HD0.out]; exact HD48.out, by rw [HD0.out]; have := Ha.out; rwa [hfull] at this⟩
          have hXv : numX s = (V : Int) := by
            rw [numX, hok, if_pos rfl, numV, HD0.out]
            have h9 := HV.out
            rw [hfull] at h9
            rw [h9]
            exact HSg.out V
          have Hfull := Lib.hid hfull; clear hfull
          have Hok := Lib.hid hok; clear hok
          have HXv := Lib.hid hXv; clear hXv
          go_wp2_with fail
          go_ret2
          exact ⟨by rw [HXv.out, Hok.out]; rfl, rfl⟩
    · have hq1 : ¬ (s[0].toNat : Int) = 48 := fun e => h48 (UInt8.toNat.inj (by simp; omega))
      have hD48 : ¬ (D.head? = some 48 ∧ 1 < (lst s).length) := fun h => h48 (by rw [hd1] at h; exact Option.some.inj h.1)
      clear hd1 h48 hhd
      have HD0 := Lib.hid hD0; clear hD0
      have HDl := Lib.hid hDl; clear hDl
      have HD := Lib.hid hD; clear hD
      have HSg := Lib.hid hSg; clear hSg
      have HD48 := Lib.hid hD48; clear hD48
      have HDn := Lib.hid hDn; clear hDn
      go_enter Tryd.func12, Tryd.ntmps12
      go_wp2_with fail
      go_loop [5, 6] (fun y i => ∃ k : Nat, 0 ≤ k ∧ k ≤ s.size ∧ i = .int .i64 k ∧ Hid (y = .int .i64 (valD 0 (D.take (k - 0)))) ∧ Hid ((D.take (k - 0)).all isDg = true)) (fun _ i => s.size - (intOf i).toNat)
      case atStart => exact ⟨0, Nat.le_refl _, by omega, rfl, Lib.hid (by simp [valD]), Lib.hid (by simp)⟩
      case round =>
        obtain ⟨k, hak, hk, rfl, Hy, Ha⟩ := hrel
        have hy := Hy.out
        have hvb := val_lt (D.take (k - 0)) 0 Ha.out
        have hpw : 10 ^ (D.take (k - 0)).length ≤ 10 ^ 18 := Nat.pow_le_pow_right (by omega) (by rw [List.length_take, HDl.out]; omega)
        obtain ⟨V, hV⟩ : ∃ V, valD 0 (D.take (k - 0)) = V := ⟨_, rfl⟩
        rw [hV] at hy hvb
        subst hy
        have hVb : V < 1000000000000000000 := by omega
        have hVb2 : k < s.size → V < 100000000000000000 := fun hlt => by
          have hp2 : 10 ^ (D.take (k - 0)).length ≤ 10 ^ 17 := Nat.pow_le_pow_right (by omega) (by rw [List.length_take, HDl.out]; omega)
          omega
        clear hvb hpw
        have HVb2 := Lib.hid hVb2; clear hVb2
        have HV := Lib.hid hV; clear hV
        by_cases hlt : k < s.size
        · have hVb3 := HVb2.out hlt
          have hget := dig_get hlt hak
          rw [← HD.out] at hget
          have htk : D.take (k + 1 - 0) = D.take (k - 0) ++ [s[k]] := by
            rw [show k + 1 - 0 = (k - 0) + 1 by omega, List.take_add_one, hget, Option.toList_some]
          have Hget := Lib.hid hget; clear hget
          have Htk := Lib.hid htk; clear htk
          cases hdg : inB (s[k].toNat : Int) 48 57
          · have hno : numOk (lst s) = false := by
              rw [Bool.eq_false_iff]
              intro h
              have h4 := (numOk_iff.1 h).2.2.2
              rw [HD0.out] at h4
              have h5 := List.all_eq_true.1 h4 s[k] (List.mem_of_getElem? Hget.out)
              have h6 := isDg_iff.1 h5
              rw [inB_no] at hdg
              omega
            have hX := numX_no hno
            have Hno := Lib.hid hno; clear hno
            have HX := Lib.hid hX; clear hX
            go_wp2_with (first | (go_at_call 19; refine (l01Digit_c _ _).mono ?_; rw [hdg]; rintro e w1 ⟨rfl, rfl⟩))
            go_ret2
            exact ⟨by rw [HX.out, Hno.out]; rfl, rfl⟩
          · obtain ⟨g0, g1⟩ := inB_iff.1 hdg
            have hnv : valD 0 (D.take (k + 1 - 0)) = 10 * V + (s[k].toNat - 48) := by
              rw [Htk.out, valD_app, HV.out]; rfl
            have hna : (D.take (k + 1 - 0)).all isDg = true := by
              rw [Htk.out, List.all_append, Ha.out]
              simp only [List.all_cons, List.all_nil, Bool.and_true, Bool.true_and]
              exact isDg_iff.2 ⟨by omega, by omega⟩
            have Hnv := Lib.hid hnv; clear hnv
            have Hna := Lib.hid hna; clear hna
            go_wp2_with (first | (go_at_call 19; refine (l01Digit_c _ _).mono ?_; rw [hdg]; rintro e w1 ⟨rfl, rfl⟩))
            go_round
            case rel => exact ⟨k + 1, by omega, by omega, by go_num, Lib.hid (by rw [Hnv.out]; exact int_eq (by omega)), Lib.hid Hna.out⟩
            case measure => simp [intOf]; omega
        · obtain rfl : k = s.size := by omega
          have hfull : D.take (s.size - 0) = D := List.take_of_length_le (by rw [HDl.out]; omega)
          have hok : numOk (lst s) = true := numOk_iff.2 ⟨by rw [HD0.out]; exact HDn.out, by rw [HD0.out, HDl.out]; omega, by rw [HD0.out]; exact HD48.out, by rw [HD0.out]; have := Ha.out; rwa [hfull] at this⟩
          have hXv : numX s = (V : Int) := by
            rw [numX, hok, if_pos rfl, numV, HD0.out]
            have h9 := HV.out
            rw [hfull] at h9
            rw [h9]
            exact HSg.out V
          have Hfull := Lib.hid hfull; clear hfull
          have Hok := Lib.hid hok; clear hok
          have HXv := Lib.hid hXv; clear hXv
          go_wp2_with fail
          go_ret2
          exact ⟨by rw [HXv.out, Hok.out]; rfl, rfl⟩
end Go.Proofs.YtgcfmmcdecabpaaDoor
