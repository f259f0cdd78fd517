/- SuiG: several of my texts in one. -/
import Derived.Test.YtpgcgmbjlecnpaaGreatSunG
import Derived.Test.YtpgcgmbjlecnpaaGreatCalG
import Derived.Deep.MidRow
import Derived.Deep.WholeRow
import Derived.Laws.CopyOwn
/- The sun: the program. -/
namespace Go.Proofs.YtpgcgmbjlecnpaaGreat
open Go.RowKit
set_option maxRecDepth 100000 in
set_option maxHeartbeats 1000000 in
theorem floorTen_c (a : Int) (w : World) (h0 : -1000000 ≤ a) (h1 : a ≤ 1000000) : Calls Tryz.prog 119 #[.int .i64 a, .int .i64 10] w fun e w' => e = .returned (.tuple #[.int .i64 (a / 10), .int .i64 (a % 10)]) ∧ w = w' := by
  obtain ⟨Q, hQ⟩ : ∃ Q, a / 10 = Q := ⟨_, rfl⟩
  obtain ⟨R, hR⟩ : ∃ R, a % 10 = R := ⟨_, rfl⟩
  obtain ⟨t, ht⟩ : ∃ t, a.tmod 10 = t := ⟨_, rfl⟩
  have hb : (0 ≤ a ∧ t = a % 10) ∨ (a < 0 ∧ t = -((-a) % 10)) := by
    rcases Int.lt_or_le a 0 with h | h
    · exact .inr ⟨h, by rw [← ht, tmod_neg h]⟩
    · exact .inl ⟨h, by rw [← ht, Int.tmod_eq_emod_of_nonneg h]⟩
  rw [hQ, hR]
  have e2 : IntKind.i64.wrap t = t := IntWalk.i64_in _ (by omega)
  have e3 : IntKind.i64.wrap (t + 10) = t + 10 := IntWalk.i64_in _ (by omega)
  have e4 : (t + 10).tmod 10 = R := by rw [Int.tmod_eq_emod_of_nonneg (by omega)]; omega
  have e5 : IntKind.i64.wrap R = R := IntWalk.i64_in _ (by omega)
  have hq : a - R = 10 * Q := by omega
  have e6 : IntKind.i64.wrap (a - R) = a - R := IntWalk.i64_in _ (by omega)
  have e7 : (a - R).tdiv 10 = Q := by
    rw [hq]
    rcases Int.lt_or_le Q 0 with h | h
    · rw [tdiv_neg (by omega)]; omega
    · rw [Int.tdiv_eq_ediv_of_nonneg (by omega)]; omega
  have e8 : IntKind.i64.wrap Q = Q := IntWalk.i64_in _ (by omega)
  clear hb hq hQ hR
  go_enter Tryz.func119, Tryz.ntmps119
  go_wp2
  go_ret2
  exact ⟨rfl, rfl⟩
set_option maxRecDepth 100000 in
set_option maxHeartbeats 1000000 in
theorem floorFour_c (a : Int) (w : World) (h0 : -1000000 ≤ a) (h1 : a ≤ 1000000) : Calls Tryz.prog 119 #[.int .i64 a, .int .i64 4] w fun e w' => e = .returned (.tuple #[.int .i64 (a / 4), .int .i64 (a % 4)]) ∧ w = w' := by
  obtain ⟨Q, hQ⟩ : ∃ Q, a / 4 = Q := ⟨_, rfl⟩
  obtain ⟨R, hR⟩ : ∃ R, a % 4 = R := ⟨_, rfl⟩
  obtain ⟨t, ht⟩ : ∃ t, a.tmod 4 = t := ⟨_, rfl⟩
  have hb : (0 ≤ a ∧ t = a % 4) ∨ (a < 0 ∧ t = -((-a) % 4)) := by
    rcases Int.lt_or_le a 0 with h | h
    · exact .inr ⟨h, by rw [← ht, tmod_neg h]⟩
    · exact .inl ⟨h, by rw [← ht, Int.tmod_eq_emod_of_nonneg h]⟩
  rw [hQ, hR]
  have e2 : IntKind.i64.wrap t = t := IntWalk.i64_in _ (by omega)
  have e3 : IntKind.i64.wrap (t + 4) = t + 4 := IntWalk.i64_in _ (by omega)
  have e4 : (t + 4).tmod 4 = R := by rw [Int.tmod_eq_emod_of_nonneg (by omega)]; omega
  have e5 : IntKind.i64.wrap R = R := IntWalk.i64_in _ (by omega)
  have hq : a - R = 4 * Q := by omega
  have e6 : IntKind.i64.wrap (a - R) = a - R := IntWalk.i64_in _ (by omega)
  have e7 : (a - R).tdiv 4 = Q := by
    rw [hq]
    rcases Int.lt_or_le Q 0 with h | h
    · rw [tdiv_neg (by omega)]; omega
    · rw [Int.tdiv_eq_ediv_of_nonneg (by omega)]; omega
  have e8 : IntKind.i64.wrap Q = Q := IntWalk.i64_in _ (by omega)
  clear hb hq hQ hR
  go_enter Tryz.func119, Tryz.ntmps119
  go_wp2
  go_ret2
  exact ⟨rfl, rfl⟩
set_option maxHeartbeats 400000 in
theorem distI_c (a b : Int) (w : World) (h0 : -1000000 ≤ a) (h1 : a ≤ 1000000) (h2 : -1000000 ≤ b) (h3 : b ≤ 1000000) : Calls Tryz.prog 120 #[.int .i64 a, .int .i64 b] w fun e w' => e = .returned (.int .i64 (max (a - b) (b - a))) ∧ w = w' := by
  go_enter Tryz.func120, Tryz.ntmps120
  go_wp2
  all_goals
    go_ret
    exact ⟨ret_eq (int_eq (by omega)), rfl⟩
set_option maxRecDepth 100000 in
set_option maxHeartbeats 1000000 in
theorem sineTenths_c (t : Int) (w : World) (h0 : -900 ≤ t) (h1 : t ≤ 900) : Calls Tryz.prog 116 #[.int .i64 t] w fun e w' => e = .returned (.int .i64 (tenI t)) ∧ w = w' := by
  have hF : ∀ w1, Calls Tryz.prog 119 #[.int .i64 t, .int .i64 10] w1 fun e w' => e = .returned (.tuple #[.int .i64 (t / 10), .int .i64 (t % 10)]) ∧ w1 = w' := fun w1 => floorTen_c t w1 (by omega) (by omega)
  have hI : inB t (-36000) 36000 = true := inB_iff.2 ⟨by omega, by omega⟩
  have hW : ∀ w1, Calls Tryz.prog 88 #[.int .i64 t, .int .i64 (-36000), .int .i64 36000] w1 fun e w' => e = .returned (.bool true) ∧ w1 = w' := fun w1 => hI ▸ within_c _ _ _ w1
  obtain ⟨Q, hQ⟩ : ∃ Q, t / 10 = Q := ⟨_, rfl⟩
  obtain ⟨R, hR⟩ : ∃ R, t % 10 = R := ⟨_, rfl⟩
  rw [hQ, hR] at hF
  have hv : tenI t = sinI Q + rdv ((sinI (Q + 1) - sinI Q) * R) 10 := by rw [tenI, hQ, hR]
  rw [hv]
  have hb0 := sinI_bd Q
  have hb1 := sinI_bd (Q + 1)
  have hS : ∀ (d : Int) (w1 : World), -1000000 ≤ d → d ≤ 1000000 → Calls Tryz.prog 117 #[.int .i64 d] w1 fun e w' => e = .returned (.int .i64 (sinI d)) ∧ w1 = w' := fun d w1 a b => sineZ_c d w1 a b
  clear hv
  generalize sinI = F at *
  have hq : t = 10 * Q + R ∧ 0 ≤ R ∧ R < 10 := by omega
  have hm := mul_bdd (a := F (Q + 1) - F Q) (b := R) (A := 2000000) (B := 10) (by omega) (by omega) (by omega) (by omega)
  have e2 : IntKind.i64.wrap ((F (Q + 1) - F Q) * R) = (F (Q + 1) - F Q) * R := IntWalk.i64_in _ (by omega)
  have hd : -2000000 ≤ rdv ((F (Q + 1) - F Q) * R) 10 ∧ rdv ((F (Q + 1) - F Q) * R) 10 ≤ 2000000 := by unfold rdv rdiv; split <;> omega
  have hqb : -100 ≤ Q ∧ Q ≤ 100 := by omega
  have HS := Lib.hid hS; clear hS
  have HF := Lib.hid hF; clear hF
  have HW := Lib.hid hW; clear hW
  clear hR hQ hq hI
  go_enter Tryz.func116, Tryz.ntmps116
  go_wp2_with fail
  refine (HW.out _).mono ?_
  rintro e w1 ⟨rfl, rfl⟩
  go_wp2_with fail
  refine (HF.out _).mono ?_
  rintro e w1 ⟨rfl, rfl⟩
  go_wp2_with (first | (go_at_call 117; refine (HS.out _ _ (by omega) (by omega)).mono ?_; rintro e w1 ⟨rfl, rfl⟩) | (go_at_call 68; refine (divRoundZ_c _ _ _ (by omega) (by omega) (by omega) (by omega)).mono ?_; rintro e w4 ⟨rfl, rfl⟩))
  go_ret
  exact ⟨rfl, rfl⟩
set_option maxHeartbeats 1000000 in
theorem declination_c (d : Int) (w : World) (h0 : 0 ≤ d) (h1 : d ≤ 99999) : Calls Tryz.prog 115 #[.int .i64 d] w fun e w' => e = .returned (.int .i64 (decI (dyI d))) ∧ w = w' := by
  have hb := dy_bd h0 h1
  have hD : ∀ w1, Calls Tryz.prog 128 #[.int .i64 d] w1 fun e w' => e = .returned (.int .i64 (dyI d)) ∧ w1 = w' := fun w1 => implDay_yc d w1 h0 h1
  have hdb := dec_bd (dyI d)
  generalize dyI d = n at *
  have hC : ∀ (d : Int) (w1 : World), -1000000 ≤ d → d ≤ 1000000 → Calls Tryz.prog 118 #[.int .i64 d] w1 fun e w' => e = .returned (.int .i64 (sinI (d + 90))) ∧ w1 = w' := fun d w1 a b => cosineZ_c d w1 a b
  obtain ⟨v, hv⟩ : ∃ v, rdv (360 * (n + 10)) 365 = v := ⟨_, rfl⟩
  have hvb : 0 ≤ v ∧ v ≤ 400 := by rw [← hv]; unfold rdv rdiv; split <;> omega
  have hdec : decI n = -rdv (234 * sinI (v + 90)) 1000000 := by rw [decI, hv]
  have hs := sinI_bd (v + 90)
  rw [hdec] at hdb ⊢
  generalize sinI = F at *
  generalize hG : rdv (234 * F (v + 90)) 1000000 = G at *
  have hL1 : ∀ w1, Calls Tryz.prog 68 #[.int .i64 (360 * (n + 10)), .int .i64 365] w1 fun e w' => e = .returned (.int .i64 v) ∧ w1 = w' := fun w1 => hv ▸ divRoundZ_c _ _ w1 (by omega) (by omega) (by omega) (by omega)
  have hL2 : ∀ w1, Calls Tryz.prog 68 #[.int .i64 (234 * F (v + 90)), .int .i64 1000000] w1 fun e w' => e = .returned (.int .i64 G) ∧ w1 = w' := fun w1 => hG ▸ divRoundZ_c _ _ w1 (by omega) (by omega) (by omega) (by omega)
  have HD := Lib.hid hD; clear hD
  have HC := Lib.hid hC; clear hC
  have HL1 := Lib.hid hL1; clear hL1
  have HL2 := Lib.hid hL2; clear hL2
  clear hG hv hdec
  go_enter Tryz.func115, Tryz.ntmps115
  go_wp2_with fail
  refine (HD.out _).mono ?_
  rintro e w1 ⟨rfl, rfl⟩
  go_wp2_with fail
  refine (HL1.out _).mono ?_
  rintro e w2 ⟨rfl, rfl⟩
  go_wp2_with fail
  refine (HC.out _ _ (by omega) (by omega)).mono ?_
  rintro e w3 ⟨rfl, rfl⟩
  go_wp2_with fail
  refine (HL2.out _).mono ?_
  rintro e w4 ⟨rfl, rfl⟩
  go_wp2_with fail
  go_ret
  exact ⟨rfl, rfl⟩
theorem any_some {α : Type} {o : Option α} {p : α → Bool} (h : o.any p = true) : ∃ v, o = some v ∧ p v = true := by
  cases o with
  | none => cases h
  | some v => exact ⟨v, rfl, h⟩
/-- What the walk asks of the zero value of a day's row. -/
theorem dayZero : ∃ Z : Array Value, Z.size = 1440 ∧ Z.all (·.oneCell') = true ∧ (Tryz.prog.info? 99).map (fun i => (i.zero, i.size)) = some (some (.agg Z), 1440) ∧ Tryz.prog.built 99 [] = some Z := by
  have t3 : ((Tryz.prog.info? 99).bind (·.zero)).any (fun v => v.cells.toList.all (·.oneCell') && (v.cells.toList.length == 1440 && (match v with | .agg _ => true | _ => false))) = true := by kernel_rfl
  have t1 : (Tryz.prog.info? 99).map (·.size) = some 1440 := by kernel_rfl
  have t2 : (Tryz.prog.info? 2).isSome = true := by kernel_rfl
  obtain ⟨v, hv, hp⟩ := any_some t3
  simp only [Bool.and_eq_true, List.all_eq_true, beq_iff_eq] at hp
  obtain ⟨h1, h2, h3⟩ := hp
  obtain ⟨Z, rfl⟩ : ∃ Z, v = .agg Z := by
    cases v <;> first | exact ⟨_, rfl⟩ | cases h3
  obtain ⟨i, hi⟩ : ∃ i, Tryz.prog.info? 99 = some i := by
    cases hi : Tryz.prog.info? 99 with
    | none => rw [hi] at t1; cases t1
    | some i => exact ⟨i, rfl⟩
  obtain ⟨e, he⟩ := Option.isSome_iff_exists.1 t2
  have hz : i.zero = some (.agg Z) := by rw [hi] at hv; exact hv
  have hs : i.size = 1440 := by rw [hi] at t1; exact Option.some.inj t1
  refine ⟨Z, by simpa [Value.cells] using h2, by have := all_oneCell_toArray h1; simpa [Value.cells] using this, by rw [hi]; simp [hz, hs], ?_⟩
  rw [Program.built, hi, Tryz.underlying99]
  simp only [hz, he]
  rfl
end Go.Proofs.YtpgcgmbjlecnpaaGreat
/- The heights of the sun on a day: the program. -/
namespace Go.Proofs.YtpgcgmbjlecnpaaGreat
open Go.RowKit
/-- The heights of a day. -/
def hgtL (st mv : Int) : List Value := (List.range 1440).map fun (m : Nat) => .int .i64 (atI st mv m)
set_option maxRecDepth 100000 in
set_option maxHeartbeats 1000000 in
theorem heights_c (lat d : Int) (w : World) (l0 : -66 ≤ lat) (l1 : lat ≤ 66) (h0 : 0 ≤ d) (h1 : d ≤ 99999) : Calls Tryz.prog 98 #[.int .i64 lat, .int .i64 d] w fun e w' => e = .returned (.agg (hgtL (stiI lat (dyI d)) (movI lat (dyI d))).toArray) ∧ Below w.heap.size w w' := by
  obtain ⟨Z, hZs, hZo, hZi, hZb⟩ := dayZero
  obtain ⟨hzv, hzs⟩ := zero_of_info hZi
  have hD : ∀ w1, Calls Tryz.prog 115 #[.int .i64 d] w1 fun e w' => e = .returned (.int .i64 (decI (dyI d))) ∧ w1 = w' := fun w1 => declination_c d w1 h0 h1
  have hdb := dec_bd (dyI d)
  have hsv : stiI lat (dyI d) = rdv (sinI lat * tenI (decI (dyI d))) 1000000 := rfl
  have hmv : movI lat (dyI d) = rdv (sinI (lat + 90) * tenI (900 - max (decI (dyI d)) (-decI (dyI d)))) 1000000 := rfl
  have hsb := sti_bd lat (dyI d)
  have hmb := mov_bd l0 l1 (dyI d)
  have ht1 := ten_lo hdb.1 hdb.2
  have ht2 := ten_hi (t := 900 - max (decI (dyI d)) (-decI (dyI d))) (by omega) (by omega)
  generalize stiI lat (dyI d) = S at *
  generalize movI lat (dyI d) = M at *
  generalize decI (dyI d) = D at *
  have hs1 := sinI_bd lat
  have hs2 := cos_lat l0 l1
  have hp1 := prod_bd hs1 ht1
  have hp2 := prod_bd (show -1000000 ≤ sinI (lat + 90) ∧ _ from ⟨by omega, hs2.2⟩) (show -1000000 ≤ tenI (900 - max D (-D)) ∧ _ from ⟨by omega, ht2.2⟩)
  have hS : ∀ w1, Calls Tryz.prog 117 #[.int .i64 lat] w1 fun e w' => e = .returned (.int .i64 (sinI lat)) ∧ w1 = w' := fun w1 => sineZ_c lat w1 (by omega) (by omega)
  have hC : ∀ w1, Calls Tryz.prog 118 #[.int .i64 lat] w1 fun e w' => e = .returned (.int .i64 (sinI (lat + 90))) ∧ w1 = w' := fun w1 => cosineZ_c lat w1 (by omega) (by omega)
  have hT1 : ∀ w1, Calls Tryz.prog 116 #[.int .i64 D] w1 fun e w' => e = .returned (.int .i64 (tenI D)) ∧ w1 = w' := fun w1 => sineTenths_c D w1 (by omega) (by omega)
  have hT2 : ∀ v w1, v = 900 - max D (-D) → Calls Tryz.prog 116 #[.int .i64 v] w1 fun e w' => e = .returned (.int .i64 (tenI (900 - max D (-D)))) ∧ w1 = w' := fun v w1 hv => hv ▸ sineTenths_c _ w1 (by omega) (by omega)
  have hxb : 0 ≤ max D (-D) ∧ max D (-D) ≤ 234 := by omega
  obtain ⟨X, hX⟩ : ∃ X, max D (-D) = X := ⟨_, rfl⟩
  rw [hX] at hp2 hT2 hxb hmv ht2
  have hL1 : ∀ w1, Calls Tryz.prog 68 #[.int .i64 (sinI lat * tenI D), .int .i64 1000000] w1 fun e w' => e = .returned (.int .i64 S) ∧ w1 = w' := fun w1 => hsv ▸ divRoundZ_c _ _ w1 (by omega) (by omega) (by omega) (by omega)
  have hL2 : ∀ w1, Calls Tryz.prog 68 #[.int .i64 (sinI (lat + 90) * tenI (900 - X)), .int .i64 1000000] w1 fun e w' => e = .returned (.int .i64 M) ∧ w1 = w' := fun w1 => hmv ▸ divRoundZ_c _ _ w1 (by omega) (by omega) (by omega) (by omega)
  clear hsv hmv
  generalize tenI D = T1 at *
  generalize tenI (900 - X) = T2 at *
  generalize sinI lat = A1 at *
  generalize sinI (lat + 90) = A2 at *
  have e1 : IntKind.i64.wrap (A1 * T1) = A1 * T1 := IntWalk.i64_in _ (by omega)
  have e2 : IntKind.i64.wrap (A2 * T2) = A2 * T2 := IntWalk.i64_in _ (by omega)
  have HD := Lib.hid hD; clear hD
  have HS := Lib.hid hS; clear hS
  have HC := Lib.hid hC; clear hC
  have HT1 := Lib.hid hT1; clear hT1
  have HT2 := Lib.hid hT2; clear hT2
  have HL1 := Lib.hid hL1; clear hL1
  have HL2 := Lib.hid hL2; clear hL2
  have HZb := Lib.hid hZb; clear hZb
  clear hZi
  have hhp : ∀ k : Nat, k < 1440 → _ := fun k hk => at_bd hsb hmb (show (0 : Int) ≤ (k : Int) by omega) (show (k : Int) ≤ 1440 by omega)
  obtain ⟨g, hg⟩ : ∃ g, (w.alloc (.cells Z 99)).heap.size = g := ⟨_, rfl⟩
  have hgs : g = w.heap.size + 1 := by rw [← hg]; simp
  have hb0 : Below w.heap.size w ((w.alloc (.cells Z 99)).alloc (.cells Z 99)) := by (repeat (first | (with_reducible assumption) | (with_reducible exact Below.refl _ _) | exact Nat.le_refl _ | exact Below.size (by with_reducible assumption) | (with_reducible refine Below.drew ?_) | (with_reducible refine below_drewN ?_ _) | (with_reducible refine Below.alloc ?_ ?_ _) | (with_reducible refine Below.setCell ?_ ?_ _) | (with_reducible refine le_alloc ?_ _) | (with_reducible refine le_set ?_ _ _) | (with_reducible refine le_drew ?_) | (with_reducible refine le_drewN ?_ _) | omega | (dsimp only; omega)))
  have hr4 : ((w.alloc (.cells Z 99)).alloc (.cells Z 99)).heap[w.heap.size]? = some (.cells Z 99 (0, 0)) := heap_alloc2_old w _ _
  have hr10 : ((w.alloc (.cells Z 99)).alloc (.cells Z 99)).heap[g]? = some (.cells Z 99 (0, 0)) := by rw [hgs]; exact heap_alloc2_new w _ _
  have hsc : (storeCells ⟨w.heap.size + 1, 0, none⟩ Z.toList).run Tryz.prog ((w.alloc (.cells Z 99)).alloc (.cells Z 99)) = .ok () ((w.alloc (.cells Z 99)).alloc (.cells Z 99)) := by
    have := run_storeCells_new (P := Tryz.prog) (w.alloc (.cells Z 99)) 99 Z Z (by rw [hZs]; exact hzs) rfl hZo
    rwa [hg, hgs] at this
  have Hhp := Lib.hid hhp; clear hhp
  subst hgs
  have Hzs := Lib.hid hzs; clear hzs
  have HZo := Lib.hid hZo; clear hZo
  have Hr4 := Lib.hid hr4; clear hr4
  have Hr10 := Lib.hid hr10; clear hr10
  have hmx : (D < -D ∧ X = -D) ∨ (¬ D < -D ∧ X = D) := by omega
  clear hX
  rcases hmx with ⟨hlt, hXD⟩ | ⟨hlt, hXD⟩
  all_goals
    go_enter Tryz.func98, Tryz.ntmps98
    go_wp2_with fail
    refine (HD.out _).mono ?_
    rintro e w1 ⟨rfl, rfl⟩
    go_wp2_with fail
    refine (HT1.out _).mono ?_
    rintro e w1 ⟨rfl, rfl⟩
    go_wp2_with fail
    refine (HT2.out _ _ (by omega)).mono ?_
    rintro e w1 ⟨rfl, rfl⟩
    go_wp2_with fail
    refine (HS.out _).mono ?_
    rintro e w1 ⟨rfl, rfl⟩
    go_wp2_with fail
    refine (HL1.out _).mono ?_
    rintro e w1 ⟨rfl, rfl⟩
    go_wp2_with fail
    refine (HC.out _).mono ?_
    rintro e w1 ⟨rfl, rfl⟩
    go_wp2_with fail
    refine (HL2.out _).mono ?_
    rintro e w1 ⟨rfl, rfl⟩
    clear HD HT1 HT2 HS HL1 HC HL2 hlt hXD hxb
    go_wp2_with (refine wpl_built rfl 99 _ rfl Z HZb.out ?_)
    generalize (w.alloc (.cells Z 99)).alloc (.cells Z 99) = w0 at *
    go_loopw [36] (fun i wr => ∃ (k : Nat) (C : Array Value), k ≤ 1440 ∧ i = (.int .i64 k) ∧ C.size = 1440 ∧ (∀ m : Nat, m < k → C[m]? = some (.int .i64 (atI S M m))) ∧ wr.heap[w.heap.size + 1]? = some (.cells C 99 (0, 0)) ∧ wr.heap[w.heap.size]? = some (.cells Z 99 (0, 0)) ∧ Below w.heap.size w wr) (fun i _ => 1440 - (intOf i).toNat)
    case atStart => exact ⟨0, Z, Nat.zero_le _, rfl, hZs, fun m hm => absurd hm (by omega), Hr10.out, Hr4.out, hb0⟩
    case round =>
      clear hb0 Hr10 Hr4 HZb hsc
      obtain ⟨k, C, hk, rfl, hCs, hCv, hrg, hr4, hbw⟩ := hrel
      by_cases hlt : k < 1440
      · have hlt' : (k : Int) < 1440 := by omega
        obtain ⟨⟨p1, p2⟩, ⟨p3, p4⟩⟩ := Hhp.out k hlt
        have hav : atI S M k = S + rdv (M * hI (awI k)) 1000000 := rfl
        have haw : awI (k : Int) = max ((k : Int) - 720) (720 - (k : Int)) := rfl
        obtain ⟨a, ha⟩ : ∃ a, awI (k : Int) = a := ⟨_, rfl⟩
        have hab : 0 ≤ a ∧ a ≤ 720 := by unfold awI at ha; omega
        have hDi : ∀ w1, Calls Tryz.prog 120 #[.int .i64 k, .int .i64 720] w1 fun e w' => e = .returned (.int .i64 a) ∧ w1 = w' := fun w1 => by
          have := distI_c k 720 w1 (by omega) (by omega) (by omega) (by omega)
          rwa [← haw, ha] at this
        rw [ha] at hav p1 p2 p3 p4
        obtain ⟨q, hq⟩ : ∃ q, a / 4 = q := ⟨_, rfl⟩
        obtain ⟨r, hr⟩ : ∃ r, a % 4 = r := ⟨_, rfl⟩
        have hFl : ∀ w1, Calls Tryz.prog 119 #[.int .i64 a, .int .i64 4] w1 fun e w' => e = .returned (.tuple #[.int .i64 q, .int .i64 r]) ∧ w1 = w' := fun w1 => by
          have := floorFour_c a w1 (by omega) (by omega)
          rwa [hq, hr] at this
        have hh : hI a = sinI (q + 90) + rdv ((sinI (q + 1 + 90) - sinI (q + 90)) * r) 4 := by rw [hI, hq, hr]
        have b1 := sinI_bd (q + 90)
        have b2 := sinI_bd (q + 1 + 90)
        have hCo : ∀ (d : Int) (w1 : World), -1000000 ≤ d → d ≤ 1000000 → Calls Tryz.prog 118 #[.int .i64 d] w1 fun e w' => e = .returned (.int .i64 (sinI (d + 90))) ∧ w1 = w' := fun d w1 a b => cosineZ_c d w1 a b
        have hhb := hI_bd hab.1 hab.2
        generalize hI a = H at *
        generalize sinI = F at *
        have hm4 := mul_bdd (a := F (q + 1 + 90) - F (q + 90)) (b := r) (A := 2000000) (B := 4) (by omega) (by omega) (by omega) (by omega)
        have e1 : IntKind.i64.wrap ((F (q + 1 + 90) - F (q + 90)) * r) = (F (q + 1 + 90) - F (q + 90)) * r := IntWalk.i64_in _ (by omega)
        have e4 : F (q + 90) + rdv ((F (q + 1 + 90) - F (q + 90)) * r) 4 = H := hh.symm
        have e5 : IntKind.i64.wrap (M * H) = M * H := IntWalk.i64_in _ (by omega)
        have e6 : IntKind.i64.wrap (F (q + 90) + rdv ((F (q + 1 + 90) - F (q + 90)) * r) 4) = H := by rw [e4]; exact IntWalk.i64_in _ (by omega)
        have hqb : 0 ≤ q ∧ q ≤ 180 := by omega
        obtain ⟨G, hG⟩ : ∃ G, rdv (M * H) 1000000 = G := ⟨_, rfl⟩
        have hL1 : ∀ w1, Calls Tryz.prog 68 #[.int .i64 ((F (q + 1 + 90) - F (q + 90)) * r), .int .i64 4] w1 fun e w' => e = .returned (.int .i64 (rdv ((F (q + 1 + 90) - F (q + 90)) * r) 4)) ∧ w1 = w' := fun w1 => divRoundZ_c _ _ w1 (by omega) (by omega) (by omega) (by omega)
        have hL2 : ∀ w1, Calls Tryz.prog 68 #[.int .i64 (M * H), .int .i64 1000000] w1 fun e w' => e = .returned (.int .i64 G) ∧ w1 = w' := fun w1 => hG ▸ divRoundZ_c _ _ w1 (by omega) (by omega) (by omega) (by omega)
        rw [hG] at p3 p4 hav
        obtain ⟨u, hu⟩ : ∃ u, C[k]? = some u := ⟨C[k]'(by omega), Array.getElem?_eq_getElem (by omega)⟩
        have hcell : wr.cell? ⟨w.heap.size + 1, k, none⟩ = some u := (cell_of_row wr (w.heap.size + 1) k C _ _ hrg).trans hu
        have hfz : wr.frozen? ⟨w.heap.size + 1, k, none⟩ = false := frozen_of_row wr (w.heap.size + 1) k C _ hrg
        have HCo := Lib.hid hCo; clear hCo
        have HDi := Lib.hid hDi; clear hDi
        have HFl := Lib.hid hFl; clear hFl
        have HL1 := Lib.hid hL1; clear hL1
        have HL2 := Lib.hid hL2; clear hL2
        have Hrg := Lib.hid hrg; clear hrg
        have Hr4 := Lib.hid hr4; clear hr4
        have Hav := Lib.hid hav; clear hav
        have HCv := Lib.hid hCv; clear hCv
        clear hh ha hq hr hG p1 p2 hu haw
        go_wp2_with fail
        refine (HDi.out _).mono ?_
        rintro e w1 ⟨rfl, rfl⟩
        go_wp2_with fail
        refine (HFl.out _).mono ?_
        rintro e w1 ⟨rfl, rfl⟩
        go_wp2_with fail
        refine (HCo.out _ _ (by omega) (by omega)).mono ?_
        rintro e w1 ⟨rfl, rfl⟩
        go_wp2_with fail
        refine (HCo.out _ _ (by omega) (by omega)).mono ?_
        rintro e w1 ⟨rfl, rfl⟩
        go_wp2_with fail
        refine (HCo.out _ _ (by omega) (by omega)).mono ?_
        rintro e w1 ⟨rfl, rfl⟩
        go_wp2_with fail
        refine (HL1.out _).mono ?_
        rintro e w1 ⟨rfl, rfl⟩
        go_wp2_with fail
        refine (HL2.out _).mono ?_
        rintro e w1 ⟨rfl, rfl⟩
        go_wp2_with fail
        go_roundw
        case rel =>
          refine ⟨k + 1, C.setIfInBounds k (.int .i64 (S + G)), by omega, by go_num, by simpa using hCs, fun m hm => ?_, heap_setCell_same wr (w.heap.size + 1) k C _ _ Hrg.out, (heap_setCell_other wr _ _ _ (by simp only; omega)).trans Hr4.out, hbw.setCell (p := ⟨w.heap.size + 1, k, none⟩) (by simp only; omega) _⟩
          rw [Array.getElem?_setIfInBounds]
          by_cases hmk : k = m
          · subst hmk
            rw [if_pos rfl, if_pos (by omega), ← Hav.out]
          · rw [if_neg hmk]
            exact HCv.out m (by omega)
        case measure => simp [intOf]; omega
      · obtain rfl : k = 1440 := by omega
        have hCe : C = (hgtL S M).toArray := by
          apply Array.ext_getElem?
          intro m
          have e : (hgtL S M).toArray[m]? = (hgtL S M)[m]? := by simp
          rw [e, hgtL, List.getElem?_map]
          by_cases hm : m < 1440
          · rw [hCv m hm, List.getElem?_eq_getElem (by simpa using hm)]
            simp
          · rw [Array.getElem?_eq_none (by omega), List.getElem?_eq_none (by simp; omega)]
            rfl
        have hCo : C.all (·.oneCell') = true := by
          rw [hCe]
          exact all_oneCell_toArray (by simp [hgtL, Value.oneCell'])
        have hbe : Below w.heap.size w (wr.setRow w.heap.size C) := below_setRow hbw (Nat.le_refl _) _
        have HCv := Lib.hid hCv; clear hCv
        have Hrg := Lib.hid hrg; clear hrg
        have Hr4 := Lib.hid hr4; clear hr4
        have HCo := Lib.hid hCo; clear hCo
        have HCe := Lib.hid hCe; clear hCe
        go_wp2_with (first | (refine wpList_load_row rfl _ _ rfl (w.heap.size + 1) rfl 99 C (0, 0) _ Hrg.out Tryz.underlying99 rfl (by rw [hCs]; exact Hzs.out) ?_) | (refine wpList_store_row rfl _ _ _ rfl w.heap.size C rfl rfl 99 Z Hr4.out (by rw [hCs]; exact Hzs.out) (by rw [hZs, hCs]) HCo.out ?_))
        refine bodyPost_ret (results_cell_row (g := w.heap.size) (t := 99) (cs := C) (fr := (0, 0)) rfl _ _ _ rfl (setRow_heap wr w.heap.size Z C _ _ Hr4.out) Tryz.underlying99 rfl (by rw [hCs]; exact Hzs.out)) rfl ⟨by rw [HCe.out], hbe⟩
end Go.Proofs.YtpgcgmbjlecnpaaGreat
/- The dark minutes, season's code, what lasts: the program. -/
namespace Go.Proofs.YtpgcgmbjlecnpaaGreat
open Go.RowKit
theorem kindOf_c (h : Int) (w : World) : Calls Tryz.prog 99 #[.int .i64 h] w fun e w' => e = .returned (.int .i64 (if -14000 ≤ h then 1 else if -104528 ≤ h then 2 else 3)) ∧ w = w' := by
  by_cases h1 : -14000 ≤ h
  · rw [if_pos h1]
    go_enter Tryz.func99, Tryz.ntmps99
    go_wp2
    go_ret
    exact ⟨rfl, rfl⟩
  rw [if_neg h1]
  by_cases h2 : -104528 ≤ h
  · rw [if_pos h2]
    go_enter Tryz.func99, Tryz.ntmps99
    go_wp2
    go_ret
    exact ⟨rfl, rfl⟩
  · rw [if_neg h2]
    go_enter Tryz.func99, Tryz.ntmps99
    go_wp2
    go_ret
    exact ⟨rfl, rfl⟩
theorem hgtL_at (S M : Int) (k : Nat) (hk : k < 1440) : (hgtL S M).toArray[k]? = some (.int .i64 (atI S M k)) := by
  have e : (hgtL S M).toArray[k]? = (hgtL S M)[k]? := by simp
  rw [e, hgtL, List.getElem?_map, List.getElem?_eq_getElem (by simpa using hk)]
  simp
set_option maxRecDepth 100000 in
set_option maxHeartbeats 1000000 in
theorem dayTimes_c (lat d : Int) (w : World) (l0 : -66 ≤ lat) (l1 : lat ≤ 66) (h0 : 0 ≤ d) (h1 : d ≤ 99999) : Calls Tryz.prog 70 #[.int .i64 lat, .int .i64 d] w fun e w' => (∃ r s : Int, e = .returned (.tuple #[.int .i64 r, .int .i64 s, .int .i64 (drkD lat d)])) ∧ Below w.heap.size w w' := by
  have hH : ∀ w1, Calls Tryz.prog 98 #[.int .i64 lat, .int .i64 d] w1 fun e w' => e = .returned (.agg (hgtL (stiI lat (dyI d)) (movI lat (dyI d))).toArray) ∧ Below w1.heap.size w1 w' := fun w1 => heights_c lat d w1 l0 l1 h0 h1
  have hv : drkD lat d = drkN (stiI lat (dyI d)) (movI lat (dyI d)) 1440 := rfl
  rw [hv]
  generalize stiI lat (dyI d) = S at *
  generalize movI lat (dyI d) = M at *
  have hat : ∀ k : Nat, k < 1440 → (hgtL S M).toArray[k]? = some (.int .i64 (atI S M k)) := fun k hk => hgtL_at S M k hk
  have hsz : (hgtL S M).toArray.size = 1440 := by simp [hgtL]
  generalize (hgtL S M).toArray = H at *
  have hix : ∀ (k : Nat) (q : Int), k < 1440 → atI S M k = q → ∀ w1 : World, (Instr.index 99 (.agg H) (.int .i64 (k : Int))).run Tryz.prog w1 = .ok (.int .i64 q) w1 := fun k q hk hq w1 => by
    have hlt : (0 : Int) ≤ (k : Int) ∧ (k : Int) < ((1440 : Nat) : Int) := by omega
    have hl : k < H.size := by omega
    have hma : H[k] = .int .i64 q := by
      have := hat k hk
      rw [Array.getElem?_eq_getElem hl, hq] at this
      exact Option.some.inj this
    simp [Instr.index, run_underlying Tryz.underlying99, asIntOf, hlt, go_sem, part, hma, hl]
    try (intro h; omega)
  obtain ⟨T, hT⟩ : ∃ T, drkN S M 1440 = T := ⟨_, rfl⟩
  rw [hT]
  have HH := Lib.hid hH; clear hH
  have HIx := Lib.hid hix; clear hix
  have HT := Lib.hid hT; clear hT
  clear hat hsz hv
  go_enter Tryz.func70, Tryz.ntmps70
  go_wp2_with fail
  refine (HH.out _).mono ?_
  rintro e w1 ⟨rfl, hb1⟩
  go_wp2_with fail
  go_loopw [7, 8, 9, 15] (fun x y z i wr => ∃ (k : Nat) (r s n : Int), k ≤ 1440 ∧ i = .int .i64 k ∧ x = .int .i64 r ∧ y = .int .i64 s ∧ z = .int .i64 n ∧ drkN S M k = n ∧ w1 = wr) (fun _ _ _ i _ => 1440 - (intOf i).toNat)
  case atStart => exact ⟨0, -1, -1, 0, Nat.zero_le _, rfl, rfl, rfl, rfl, rfl, rfl⟩
  case round =>
    obtain ⟨k, r, s, n, hk, rfl, rfl, rfl, rfl, hn, rfl⟩ := hrel
    by_cases hlt : k < 1440
    · have hlt' : (k : Int) < 1440 := by omega
      obtain ⟨q, hq⟩ : ∃ q, atI S M k = q := ⟨_, rfl⟩
      have hi := HIx.out k q hlt hq
      have hnb := drk_bd S M k
      rw [hn] at hnb
      have hnx : drkN S M (k + 1) = n + if -14000 ≤ q then 0 else 1 := by rw [drkN, hn, hq]
      have hK := fun w1 => kindOf_c q w1
      have Hn := Lib.hid hn; clear hn
      by_cases hday : -14000 ≤ q
      · rw [if_pos hday] at hnx hK
        have Hnx := Lib.hid hnx; clear hnx
        have HK := Lib.hid hK; clear hK
        by_cases hr : r < 0
        · go_wp2_with (go_at_call 99; refine (HK.out _).mono ?_; rintro e w2 ⟨rfl, rfl⟩)
          go_roundw
          case rel => exact ⟨k + 1, _, _, _, by omega, by go_num, rfl, rfl, rfl, by rw [Hnx.out]; omega, by trivial⟩
          case measure => simp [intOf]; omega
        · go_wp2_with (go_at_call 99; refine (HK.out _).mono ?_; rintro e w2 ⟨rfl, rfl⟩)
          go_roundw
          case rel => exact ⟨k + 1, _, _, _, by omega, by go_num, rfl, rfl, rfl, by rw [Hnx.out]; omega, by trivial⟩
          case measure => simp [intOf]; omega
      · rw [if_neg hday] at hnx hK
        obtain ⟨κ, hκ⟩ : ∃ κ : Int, (if -104528 ≤ q then (2 : Int) else 3) = κ := ⟨_, rfl⟩
        have hκ1 : ¬ κ = 1 := by split at hκ <;> omega
        rw [hκ] at hK
        have Hnx := Lib.hid hnx; clear hnx
        have HK := Lib.hid hK; clear hK
        by_cases hr : 0 ≤ r
        · by_cases hs : s < 0
          · go_wp2_with (go_at_call 99; refine (HK.out _).mono ?_; rintro e w2 ⟨rfl, rfl⟩)
            go_roundw
            case rel => exact ⟨k + 1, _, _, _, by omega, by go_num, rfl, rfl, rfl, by rw [Hnx.out], by trivial⟩
            case measure => simp [intOf]; omega
          · go_wp2_with (go_at_call 99; refine (HK.out _).mono ?_; rintro e w2 ⟨rfl, rfl⟩)
            go_roundw
            case rel => exact ⟨k + 1, _, _, _, by omega, by go_num, rfl, rfl, rfl, by rw [Hnx.out], by trivial⟩
            case measure => simp [intOf]; omega
        · go_wp2_with (go_at_call 99; refine (HK.out _).mono ?_; rintro e w2 ⟨rfl, rfl⟩)
          go_roundw
          case rel => exact ⟨k + 1, _, _, _, by omega, by go_num, rfl, rfl, rfl, by rw [Hnx.out], by trivial⟩
          case measure => simp [intOf]; omega
    · obtain rfl : k = 1440 := by omega
      obtain rfl : T = n := by rw [← HT.out, hn]
      have Hn := Lib.hid hn; clear hn
      by_cases hs : s < 0
      · go_wp2_with fail
        go_ret3
        exact ⟨⟨_, _, rfl⟩, hb1⟩
      · go_wp2_with fail
        go_ret3
        exact ⟨⟨_, _, rfl⟩, hb1⟩
set_option maxRecDepth 100000 in
set_option maxHeartbeats 1000000 in
theorem darks_c (lat fr cnt : Int) (w : World) (h : seaB lat fr cnt = true) : Calls Tryz.prog 41 #[.int .i64 lat, .int .i64 fr, .int .i64 cnt] w fun e w' => ∃ v, e = .returned v ∧ w'.ownsRow w.heap.size 2 1 v cnt.toNat ((drkL lat fr cnt.toNat).flatMap intC) ∧ Below w.heap.size w w' := by
  obtain ⟨p0, hp, hy0, hy1, hy2⟩ := info_parts intInfo
  simp only [seaB, Bool.and_eq_true, inB_iff] at h
  obtain ⟨⟨l0, l1⟩, ⟨c0, c1⟩, ⟨f0, f1⟩, ⟨g0, g1⟩⟩ := h
  obtain ⟨N, rfl⟩ : ∃ N : Nat, cnt = N := ⟨cnt.toNat, by omega⟩
  rw [Int.toNat_natCast]
  have hov := World.ownsRow_made (base := w.heap.size) (e := 2) (size := 1) w #[] 0 (Nat.le_refl _) (by simp [maxLen]) rfl
  have hb0 : Below w.heap.size w (w.alloc (.cells #[] 2)) := by (repeat (first | (with_reducible assumption) | (with_reducible exact Below.refl _ _) | exact Nat.le_refl _ | exact Below.size (by with_reducible assumption) | (with_reducible refine Below.drew ?_) | (with_reducible refine below_drewN ?_ _) | (with_reducible refine Below.alloc ?_ ?_ _) | (with_reducible refine Below.setCell ?_ ?_ _) | (with_reducible refine le_alloc ?_ _) | (with_reducible refine le_set ?_ _ _) | (with_reducible refine le_drew ?_) | (with_reducible refine le_drewN ?_ _) | omega | (dsimp only; omega)))
  have hD : ∀ (i : Int) w1, 0 ≤ i → i < N → Calls Tryz.prog 70 #[.int .i64 lat, .int .i64 (fr + i)] w1 fun e w' => (∃ r s : Int, e = .returned (.tuple #[.int .i64 r, .int .i64 s, .int .i64 (drkD lat (fr + i))])) ∧ Below w1.heap.size w1 w' := fun i w1 a b => dayTimes_c lat _ w1 l0 l1 (by omega) (by omega)
  have HD := Lib.hid hD; clear hD
  go_enter Tryz.func41, Tryz.ntmps41
  go_wp2
  go_loopw [7, 8] (fun v i wr => ∃ k : Nat, k ≤ N ∧ i = .int .i64 (fr + k) ∧ wr.ownsRow w.heap.size 2 1 v k ((drkL lat fr k).flatMap intC) ∧ Below w.heap.size w wr) (fun _ i _ => (fr + N - intOf i).toNat)
  case atStart => exact ⟨0, Nat.zero_le _, int_eq (by omega), hov, hb0⟩
  case round =>
    clear hov hb0
    obtain ⟨k, hk, rfl, hov, hbw⟩ := hrel
    obtain ⟨A1, c1', rfl⟩ := own_slice hov
    by_cases hlt : k < N
    · have hlt' : fr + (k : Int) < fr + N := by omega
      have hnx := drkL_next lat fr k
      have e63 : k + 1 ≤ maxLen := by unfold maxLen; omega
      have e32 : (k + 1) * 8 ≤ 140737488355328 := by omega
      have hd := HD.out k wr (by omega) (by omega)
      generalize drkL lat fr k = L at *
      generalize drkD lat (fr + k) = q at *
      have HDk := Lib.hid hd; clear hd
      have Hnx := Lib.hid hnx; clear hnx
      have E63 := Lib.hid e63; clear e63
      have E32 := Lib.hid e32; clear e32
      go_wp2_with fail
      refine HDk.out.mono ?_
      rintro e w4 ⟨⟨rr, ss, rfl⟩, hb4⟩
      replace hov := own_next hov hb4
      replace hbw := hbw.trans (hb4.mono hbw.size)
      go_wp2_with (at_builtin; refine wpl_append _ rfl (.tmp 28) (.tmp 30) _ rfl (w.heap.size) 2 p0 _ 1 8 Tryz.underlying24 hp hy0 hy1 hy2 rfl (by omega) _ (k) _ rfl ((hov).alloc _) ((w4).heap.size + 1) (some ⟨(w4).heap.size, 0, none⟩) 1 1 (intC (q)) rfl (Sl.new (w4) 2 _ 1 1 rfl) (intC_one _) E63.out E32.out (le_alloc (hbw).size _) ?_; intro v2 w2 ho2 hg2 hat2)
      go_roundw
      case rel =>
        refine ⟨k + 1, by omega, int_eq (by omega), ?_, ?_⟩
        · rw [Hnx.out, List.flatMap_append]; simpa using ho2
        · exact (hbw.alloc hbw.size _).grown hg2 (le_alloc hbw.size _) fun g hg => (hov.lt g hg).1
      case measure => simp [intOf]; omega
    · obtain rfl : k = N := by omega
      have hlt' : ¬ (fr + (k : Int) < fr + k) := by omega
      go_wp2
      go_ret
      exact ⟨_, rfl, hov, hbw⟩
end Go.Proofs.YtpgcgmbjlecnpaaGreat
/- Season's code, what lasts, LastsThrough: the program. -/
namespace Go.Proofs.YtpgcgmbjlecnpaaGreat
open Go.RowKit
theorem isLatitude_c (n : Int) (w : World) : Calls Tryz.prog 93 #[.int .i64 n] w fun e w' => e = .returned (.bool (inB n (-66) 66)) ∧ w = w' := by
  go_enter Tryz.func93, Tryz.ntmps93
  go_wp2_with (go_at_call 88; refine (within_c _ _ _ _).mono ?_; rintro e w1 ⟨rfl, rfl⟩)
  go_ret
  exact ⟨rfl, rfl⟩
theorem isDay_c (n : Int) (w : World) : Calls Tryz.prog 94 #[.int .i64 n] w fun e w' => e = .returned (.bool (inB n 0 99999)) ∧ w = w' := by
  go_enter Tryz.func94, Tryz.ntmps94
  go_wp2_with (go_at_call 88; refine (within_c _ _ _ _).mono ?_; rintro e w1 ⟨rfl, rfl⟩)
  go_ret
  exact ⟨rfl, rfl⟩
set_option maxRecDepth 100000 in
set_option maxHeartbeats 1000000 in
theorem seasonCode_c (lat fr cnt : Int) (w : World) : Calls Tryz.prog 65 #[.int .i64 lat, .int .i64 fr, .int .i64 cnt] w fun e w' => e = .returned (.int .i64 (bif seaB lat fr cnt then 0 else 2)) ∧ w = w' := by
  have hv : (bif seaB lat fr cnt then (0 : Int) else 2) = bif (inB lat (-66) 66 && (inB cnt 1 400 && (inB fr 0 99999 && inB (fr + cnt - 1) 0 99999))) then 0 else 2 := rfl
  rw [hv]
  clear hv
  cases h3 : inB lat (-66) 66
  · go_enter Tryz.func65, Tryz.ntmps65
    go_wp2_with (first | (go_at_call 93; refine (isLatitude_c _ _).mono ?_; rintro e w1 ⟨rfl, rfl⟩) | (go_at_call 94; refine (isDay_c _ _).mono ?_; rintro e w1 ⟨rfl, rfl⟩) | (go_at_call 88; refine (within_c _ _ _ _).mono ?_; rintro e w1 ⟨rfl, rfl⟩))
    go_ret
    exact ⟨rfl, rfl⟩
  cases h4 : inB cnt 1 400
  · go_enter Tryz.func65, Tryz.ntmps65
    go_wp2_with (first | (go_at_call 93; refine (isLatitude_c _ _).mono ?_; rintro e w1 ⟨rfl, rfl⟩) | (go_at_call 94; refine (isDay_c _ _).mono ?_; rintro e w1 ⟨rfl, rfl⟩) | (go_at_call 88; refine (within_c _ _ _ _).mono ?_; rintro e w1 ⟨rfl, rfl⟩))
    go_ret
    exact ⟨rfl, rfl⟩
  cases h5 : inB fr 0 99999
  · go_enter Tryz.func65, Tryz.ntmps65
    go_wp2_with (first | (go_at_call 93; refine (isLatitude_c _ _).mono ?_; rintro e w1 ⟨rfl, rfl⟩) | (go_at_call 94; refine (isDay_c _ _).mono ?_; rintro e w1 ⟨rfl, rfl⟩) | (go_at_call 88; refine (within_c _ _ _ _).mono ?_; rintro e w1 ⟨rfl, rfl⟩))
    go_ret
    exact ⟨rfl, rfl⟩
  obtain ⟨u1, u2⟩ := inB_iff.1 h4
  obtain ⟨u3, u4⟩ := inB_iff.1 h5
  cases h6 : inB (fr + cnt - 1) 0 99999
  · go_enter Tryz.func65, Tryz.ntmps65
    go_wp2_with (first | (go_at_call 93; refine (isLatitude_c _ _).mono ?_; rintro e w1 ⟨rfl, rfl⟩) | (go_at_call 94; refine (isDay_c _ _).mono ?_; rintro e w1 ⟨rfl, rfl⟩) | (go_at_call 88; refine (within_c _ _ _ _).mono ?_; rintro e w1 ⟨rfl, rfl⟩))
    go_ret
    exact ⟨rfl, rfl⟩
  · go_enter Tryz.func65, Tryz.ntmps65
    go_wp2_with (first | (go_at_call 93; refine (isLatitude_c _ _).mono ?_; rintro e w1 ⟨rfl, rfl⟩) | (go_at_call 94; refine (isDay_c _ _).mono ?_; rintro e w1 ⟨rfl, rfl⟩) | (go_at_call 88; refine (within_c _ _ _ _).mono ?_; rintro e w1 ⟨rfl, rfl⟩))
    go_ret
    exact ⟨rfl, rfl⟩
set_option maxRecDepth 100000 in
set_option maxHeartbeats 1000000 in
theorem powerCode_c (s : St) (A : Option Addr) (n c : Nat) (x : Ch) (w : World) (sl : Sl w w.heap.size 1 A n (x.gs.flatMap intC)) (hn : n ≤ 1048576) (hlz : x.l.size ≤ 1048576) (hs : x.cs.size ≤ 1048576) (lat fr cnt : Int) :
    Calls Tryz.prog 38 #[stV s, chV x.k A n c x.l x.cs x.p, .int .i64 lat, .int .i64 fr, .int .i64 cnt] w fun e w' => e = .returned (.int .i64 (powK s x lat fr cnt)) ∧ Below w.heap.size w w' := by
  have hv : powK s x lat fr cnt = bif stB s && validB x then (bif seaB lat fr cnt then 0 else 2) else 1 := rfl
  rw [hv]
  clear hv
  have hS : ∀ w1, Calls Tryz.prog 65 #[.int .i64 lat, .int .i64 fr, .int .i64 cnt] w1 fun e w' => e = .returned (.int .i64 (bif seaB lat fr cnt then 0 else 2)) ∧ w1 = w' := fun w1 => seasonCode_c lat fr cnt w1
  generalize (bif seaB lat fr cnt then (0 : Int) else 2) = K at *
  have HS := Lib.hid hS; clear hS
  cases h1 : stB s
  · obtain ⟨hSt, hCh, hb0⟩ := two_box (s := s) (c := c) 29 31 sl hn hlz hs
    go_enter Tryz.func38, Tryz.ntmps38
    go_wp2_with fail
    generalize (w.alloc (.cells #[.int .i64 s.la, .int .i64 s.sb, .int .i64 s.ba, .int .i64 s.pa, .int .i64 s.sh] 29)).alloc (.cells #[.int .i64 x.k, .slice A n c, .string x.l, .string x.cs, .int .i64 x.p] 31) = w0 at *
    obtain ⟨a0, a1, a2, a3, a4, hbs⟩ := hSt
    obtain ⟨c0, c1, c2, c3, c4, hbc, sl0, _, _, _⟩ := hCh
    simp only [Nat.zero_add] at c0 c1 c2 c3 c4
    refine (validStation_c s _).mono ?_
    rintro e w1 ⟨rfl, hb1⟩
    have q1 := keepC hb1 w.heap.size hbs
    have r1 := keepC hb1 (w.heap.size + 1) hbc
    have sl1 := sl0.next hb1
    rw [h1]
    go_wp2_with fail
    go_ret
    exact ⟨rfl, hb0.trans (hb1.mono hb0.size)⟩
  cases h2 : validB x
  · obtain ⟨hSt, hCh, hb0⟩ := two_box (s := s) (c := c) 29 31 sl hn hlz hs
    go_enter Tryz.func38, Tryz.ntmps38
    go_wp2_with fail
    generalize (w.alloc (.cells #[.int .i64 s.la, .int .i64 s.sb, .int .i64 s.ba, .int .i64 s.pa, .int .i64 s.sh] 29)).alloc (.cells #[.int .i64 x.k, .slice A n c, .string x.l, .string x.cs, .int .i64 x.p] 31) = w0 at *
    obtain ⟨a0, a1, a2, a3, a4, hbs⟩ := hSt
    obtain ⟨c0, c1, c2, c3, c4, hbc, sl0, _, _, _⟩ := hCh
    simp only [Nat.zero_add] at c0 c1 c2 c3 c4
    refine (validStation_c s _).mono ?_
    rintro e w1 ⟨rfl, hb1⟩
    have q1 := keepC hb1 w.heap.size hbs
    have r1 := keepC hb1 (w.heap.size + 1) hbc
    have sl1 := sl0.next hb1
    rw [h1]
    go_wp2_with fail
    refine (implValid_c A n c x _ sl1 hn hlz hs).mono ?_
    rintro e w2 ⟨rfl, hb2⟩
    have q2 := keepC hb2 w.heap.size (Nat.lt_of_lt_of_le hbs hb1.size)
    have r2 := keepC hb2 (w.heap.size + 1) (Nat.lt_of_lt_of_le hbc hb1.size)
    have sl2 := sl1.next hb2
    have hb02 := hb1.trans (hb2.mono hb1.size)
    rw [h2]
    go_wp2_with fail
    go_ret
    exact ⟨rfl, hb0.trans (hb02.mono hb0.size)⟩
  · obtain ⟨hSt, hCh, hb0⟩ := two_box (s := s) (c := c) 29 31 sl hn hlz hs
    go_enter Tryz.func38, Tryz.ntmps38
    go_wp2_with fail
    generalize (w.alloc (.cells #[.int .i64 s.la, .int .i64 s.sb, .int .i64 s.ba, .int .i64 s.pa, .int .i64 s.sh] 29)).alloc (.cells #[.int .i64 x.k, .slice A n c, .string x.l, .string x.cs, .int .i64 x.p] 31) = w0 at *
    obtain ⟨a0, a1, a2, a3, a4, hbs⟩ := hSt
    obtain ⟨c0, c1, c2, c3, c4, hbc, sl0, _, _, _⟩ := hCh
    simp only [Nat.zero_add] at c0 c1 c2 c3 c4
    refine (validStation_c s _).mono ?_
    rintro e w1 ⟨rfl, hb1⟩
    have q1 := keepC hb1 w.heap.size hbs
    have r1 := keepC hb1 (w.heap.size + 1) hbc
    have sl1 := sl0.next hb1
    rw [h1]
    go_wp2_with fail
    refine (implValid_c A n c x _ sl1 hn hlz hs).mono ?_
    rintro e w2 ⟨rfl, hb2⟩
    have q2 := keepC hb2 w.heap.size (Nat.lt_of_lt_of_le hbs hb1.size)
    have r2 := keepC hb2 (w.heap.size + 1) (Nat.lt_of_lt_of_le hbc hb1.size)
    have sl2 := sl1.next hb2
    have hb02 := hb1.trans (hb2.mono hb1.size)
    rw [h2]
    go_wp2_with fail
    refine (HS.out _).mono ?_
    rintro e w3 ⟨rfl, rfl⟩
    go_wp2_with fail
    go_ret
    exact ⟨rfl, hb0.trans (hb02.mono hb0.size)⟩
set_option maxRecDepth 100000 in
set_option maxHeartbeats 1000000 in
theorem lasts_c (s : St) (sh : Int) (A : Option Addr) (n c : Nat) (L : List Int) (w : World) (ok : StOk s) (s1 : 0 ≤ sh) (s2 : sh ≤ 1000000) (hl : Sl w w.heap.size 1 A n (L.flatMap intC)) (hn : n ≤ 400) (hd : ∀ d ∈ L, 0 ≤ d ∧ d ≤ 1440) :
    Calls Tryz.prog 39 #[stV s, .int .i64 sh, .slice A n c] w fun e w' => e = .returned (.bool (lasB s sh L)) ∧ Below w.heap.size w w' := by
  have hlen := hl.len intC 1 intC_len (by omega)
  have h := stp_box w s 29
  have hb0 : Below w.heap.size w (w.alloc (stO s 29)) := by (repeat (first | (with_reducible assumption) | (with_reducible exact Below.refl _ _) | exact Nat.le_refl _ | exact Below.size (by with_reducible assumption) | (with_reducible refine Below.drew ?_) | (with_reducible refine below_drewN ?_ _) | (with_reducible refine Below.alloc ?_ ?_ _) | (with_reducible refine Below.setCell ?_ ?_ _) | (with_reducible refine le_alloc ?_ _) | (with_reducible refine le_set ?_ _ _) | (with_reducible refine le_drew ?_) | (with_reducible refine le_drewN ?_ _) | omega | (dsimp only; omega)))
  have hlas : lasB s sh L = (runE s sh L s.ba).isSome := rfl
  obtain ⟨R, hR⟩ : ∃ R, lasB s sh L = R := ⟨_, rfl⟩
  rw [hR]
  rw [hR] at hlas
  have hba1 := ok.b1
  have hba2 := ok.b2
  have HL := Lib.hid hlas; clear hlas
  have Hlen := Lib.hid hlen; clear hlen
  have Hd := Lib.hid hd; clear hd
  clear hR
  go_enter Tryz.func39, Tryz.ntmps39
  go_wp2
  generalize w.alloc (.cells #[.int .i64 s.la, .int .i64 s.sb, .int .i64 s.ba, .int .i64 s.pa, .int .i64 s.sh] 29) = w0 at *
  go_loopw [7, 14] (fun v i wr => ∃ (k : Nat) (u : Int), k ≤ n ∧ i = .int .i64 k ∧ v = .int .i64 u ∧ 0 ≤ u ∧ u ≤ s.ba ∧ Hid (runE s sh (L.take k) s.ba = some u) ∧ StP wr w.heap.size s ∧ Below w.heap.size w wr) (fun _ i _ => n - (intOf i).toNat)
  case atStart => exact ⟨0, s.ba, Nat.zero_le _, rfl, rfl, by omega, by omega, Lib.hid rfl, h, hb0⟩
  case round =>
    clear h hb0
    obtain ⟨k, u, hk, rfl, rfl, hu0, hu1, Hu, h, hbw⟩ := hrel
    by_cases hlt : k < n
    · have hlt' : (k : Int) < n := by omega
      obtain ⟨bb, off, x, rfl, hbb, hx, cx⟩ := hl.int k hlt
      have q := keepC hbw bb hbb
      have hxm := Hd.out x (List.mem_of_getElem? hx)
      have hN := next_c s sh u x wr ok s1 s2 (by omega) (by omega) hxm.1 hxm.2
      have hnx : runE s sh (L.take (k + 1)) s.ba = (if nextI s sh u x < 0 then none else some (nextI s sh u x)) := by
        rw [List.take_add_one, hx, Option.toList_some, runE_next, Hu.out]; rfl
      have hst : nextI s sh u x < 0 → runE s sh L s.ba = none := fun hc => runE_stop Hu.out hx hc
      have hub : nextI s sh u x ≤ s.ba := by unfold nextI; omega
      generalize nextI s sh u x = V at *
      have HN := Lib.hid hN; clear hN
      have Hnx := Lib.hid hnx; clear hnx
      have Hst := Lib.hid hst; clear hst
      have Hx := Lib.hid hx; clear hx
      have hh := h
      obtain ⟨c0, c1, c2, c3, c4, hbs⟩ := h
      clear hxm
      by_cases hc : V < 0
      · go_wp2_with fail
        refine HN.out.mono ?_
        rintro e w4 ⟨rfl, hb4⟩
        go_wp2_with fail
        go_ret
        exact ⟨ret_eq (bool_eq (by rw [HL.out, Hst.out hc]; rfl)), hbw.trans (hb4.mono hbw.size)⟩
      · go_wp2_with fail
        refine HN.out.mono ?_
        rintro e w4 ⟨rfl, hb4⟩
        go_wp2_with fail
        go_roundw
        case rel => exact ⟨k + 1, V, by omega, by go_num, rfl, by omega, hub, Lib.hid (by rw [Hnx.out, if_neg (by omega)]), hh.next hb4, hbw.trans (hb4.mono hbw.size)⟩
        case measure => simp [intOf]; omega
    · obtain rfl : k = n := by omega
      have hrl : R = true := by
        rw [HL.out]
        have := Hu.out
        rw [List.take_of_length_le (by rw [Hlen.out]; omega)] at this
        rw [this]; rfl
      subst hrl
      go_wp2
      go_ret
      exact ⟨rfl, hbw⟩
set_option maxRecDepth 100000 in
set_option maxHeartbeats 2000000 in
theorem implLasts_c (s : St) (A : Option Addr) (n c : Nat) (x : Ch) (w : World) (sl : Sl w w.heap.size 1 A n (x.gs.flatMap intC)) (hn : n ≤ 1048576) (hlz : x.l.size ≤ 1048576) (hs : x.cs.size ≤ 1048576) (lat fr cnt : Int) :
    Calls Tryz.prog 12 #[stV s, chV x.k A n c x.l x.cs x.p, .int .i64 lat, .int .i64 fr, .int .i64 cnt] w fun e w' => e = .returned (.bool (lasV s x lat fr cnt)) ∧ Below w.heap.size w w' := by
  obtain ⟨V, hV⟩ : ∃ V, lasV s x lat fr cnt = V := ⟨_, rfl⟩
  obtain ⟨k, hk⟩ : ∃ k, powK s x lat fr cnt = k := ⟨_, rfl⟩
  rw [hV]
  by_cases hk0 : k = 0
  · obtain ⟨o1, o2, o3⟩ := pow_ok (hk.trans hk0)
    have ok := stB_ok o1
    obtain ⟨sh1, sh2⟩ := share_bd o2
    have hV2 : lasB s (shareI x) (drkL lat fr cnt.toNat) = V := by rw [← hV, lasV, okSC, o1, o2, o3]; rfl
    have hcn : cnt.toNat ≤ 400 := by
      simp only [seaB, Bool.and_eq_true, inB_iff] at o3; omega
    subst hk0
    have HV := Lib.hid hV; clear hV
    have HV2 := Lib.hid hV2; clear hV2
    obtain ⟨hSt, hCh, hb0⟩ := two_box (s := s) (c := c) 29 31 sl hn hlz hs
    have hPc : ∀ w1, Below ((w.alloc (stO s 29)).alloc (chO x A n c 31)).heap.size ((w.alloc (stO s 29)).alloc (chO x A n c 31)) w1 → _ := fun w1 hb => powerCode_c s A n c x w1 ((hCh.next hb).sl) hn hlz hs lat fr cnt
    have HP := Lib.hid hPc; clear hPc
    go_enter Tryz.func12, Tryz.ntmps12
    go_wp2_with fail
    generalize (w.alloc (.cells #[.int .i64 s.la, .int .i64 s.sb, .int .i64 s.ba, .int .i64 s.pa, .int .i64 s.sh] 29)).alloc (.cells #[.int .i64 x.k, .slice A n c, .string x.l, .string x.cs, .int .i64 x.p] 31) = w0 at *
    obtain ⟨a0, a1, a2, a3, a4, hbs⟩ := hSt
    obtain ⟨c0, c1, c2, c3, c4, hbc, sl0, _, _, _⟩ := hCh
    simp only [Nat.zero_add] at c0 c1 c2 c3 c4
    have e1 : ∀ {w' : World}, Below w0.heap.size w0 w' → (Below w0.heap.size w0 w' ∧ (∀ x, w'.cell? ⟨w.heap.size, x, none⟩ = w0.cell? ⟨w.heap.size, x, none⟩) ∧ (∀ x, w'.cell? ⟨w.heap.size + 1, x, none⟩ = w0.cell? ⟨w.heap.size + 1, x, none⟩)) := fun hbb => ⟨hbb, keepC hbb _ hbs, keepC hbb _ hbc⟩
    refine wp_region_held_drew (S := fun w' => Below w0.heap.size w0 w' ∧ (∀ x, w'.cell? ⟨w.heap.size, x, none⟩ = w0.cell? ⟨w.heap.size, x, none⟩) ∧ (∀ x, w'.cell? ⟨w.heap.size + 1, x, none⟩ = w0.cell? ⟨w.heap.size + 1, x, none⟩)) (by kernel_rfl) (e1 (Below.refl _ _).drew) (fun hHeld => ?_)
    (first
      | (refine wpAnyH_take (i := 0) (v := ?_) rfl (by kernel_rfl) (by kernel_rfl) (by kernel_rfl) (fun _ _ _ h => h) (Or.inl ⟨by rfl, ?_⟩) (by assumption) ?_
         rotate_left
         focus (intro wq hSq; (try dsimp only at hSq); go_simp; (try (with_reducible rfl)); done))
      | (refine wpAnyH_take (i := 0) (v := undef) rfl (by kernel_rfl) (by kernel_rfl) (by kernel_rfl) (fun _ _ _ h => h) (Or.inr ⟨by rfl, rfl⟩) (by assumption) ?_)
      | fail "take 0")
    try simp only [Act.put, List.setIfInBounds_toArray, List.set_cons_zero, List.set_cons_succ, List.getElem_toArray, List.getElem_cons_zero]
    (first
      | (refine wpAnyH_take (i := 1) (v := ?_) rfl (by kernel_rfl) (by kernel_rfl) (by kernel_rfl) (fun _ _ _ h => h) (Or.inl ⟨by rfl, ?_⟩) (by assumption) ?_
         rotate_left
         focus (intro wq hSq; (try dsimp only at hSq); go_simp; (try (with_reducible rfl)); done))
      | (refine wpAnyH_take (i := 1) (v := undef) rfl (by kernel_rfl) (by kernel_rfl) (by kernel_rfl) (fun _ _ _ h => h) (Or.inr ⟨by rfl, rfl⟩) (by assumption) ?_)
      | fail "take 1")
    try simp only [Act.put, List.setIfInBounds_toArray, List.set_cons_zero, List.set_cons_succ, List.getElem_toArray, List.getElem_cons_zero, List.getElem_cons_succ]
    (first
      | (refine wpAnyH_take (i := 2) (v := ?_) rfl (by kernel_rfl) (by kernel_rfl) (by kernel_rfl) (fun _ _ _ h => h) (Or.inl ⟨by rfl, ?_⟩) (by assumption) ?_
         rotate_left
         focus (intro wq hSq; (try dsimp only at hSq); go_simp; (try (with_reducible rfl)); done))
      | (refine wpAnyH_take (i := 2) (v := undef) rfl (by kernel_rfl) (by kernel_rfl) (by kernel_rfl) (fun _ _ _ h => h) (Or.inr ⟨by rfl, rfl⟩) (by assumption) ?_)
      | fail "take 2")
    try simp only [Act.put, List.setIfInBounds_toArray, List.set_cons_zero, List.set_cons_succ, List.getElem_toArray, List.getElem_cons_zero, List.getElem_cons_succ]
    (first
      | (refine wpAnyH_take (i := 3) (v := ?_) rfl (by kernel_rfl) (by kernel_rfl) (by kernel_rfl) (fun _ _ _ h => h) (Or.inl ⟨by rfl, ?_⟩) (by assumption) ?_
         rotate_left
         focus (intro wq hSq; (try dsimp only at hSq); go_simp; (try (with_reducible rfl)); done))
      | (refine wpAnyH_take (i := 3) (v := undef) rfl (by kernel_rfl) (by kernel_rfl) (by kernel_rfl) (fun _ _ _ h => h) (Or.inr ⟨by rfl, rfl⟩) (by assumption) ?_)
      | fail "take 3")
    try simp only [Act.put, List.setIfInBounds_toArray, List.set_cons_zero, List.set_cons_succ, List.getElem_toArray, List.getElem_cons_zero, List.getElem_cons_succ]
    (first
      | (refine wpAnyH_take (i := 4) (v := ?_) rfl (by kernel_rfl) (by kernel_rfl) (by kernel_rfl) (fun _ _ _ h => h) (Or.inl ⟨by rfl, ?_⟩) (by assumption) ?_
         rotate_left
         focus (intro wq hSq; (try dsimp only at hSq); go_simp; (try (with_reducible rfl)); done))
      | (refine wpAnyH_take (i := 4) (v := undef) rfl (by kernel_rfl) (by kernel_rfl) (by kernel_rfl) (fun _ _ _ h => h) (Or.inr ⟨by rfl, rfl⟩) (by assumption) ?_)
      | fail "take 4")
    try simp only [Act.put, List.setIfInBounds_toArray, List.set_cons_zero, List.set_cons_succ, List.getElem_toArray, List.getElem_cons_zero, List.getElem_cons_succ]
    refine wpAnyH_ready (rs := [5]) (by kernel_rfl) (by simp) ?_
    refine AllReadyH.cons (o := _) rfl (fun K hK => ?_) AllReadyH.nil
    go_simp
    refine (HP.out _ (Below.refl _ _).drew).mono ?_; rw [hk]; rintro e w1 ⟨rfl, hb1⟩; have hb01 := (Below.refl w0.heap.size w0).drew.trans hb1
    refine hK.out _ _ ?_ (fun hHeld => ?_)
    · exact e1 hb01
    clear hK K
    try simp only [Act.put, List.setIfInBounds_toArray, List.set_cons_zero, List.set_cons_succ, List.getElem_toArray, List.getElem_cons_zero, List.getElem_cons_succ]
    (first
      | (refine wpAnyH_take (i := 6) (v := ?_) rfl (by kernel_rfl) (by kernel_rfl) (by kernel_rfl) (fun _ _ _ h => h) (Or.inl ⟨by rfl, ?_⟩) (by assumption) ?_
         rotate_left
         focus (intro wq hSq; (try dsimp only at hSq); go_simp; (try (with_reducible rfl)); done))
      | (refine wpAnyH_take (i := 6) (v := undef) rfl (by kernel_rfl) (by kernel_rfl) (by kernel_rfl) (fun _ _ _ h => h) (Or.inr ⟨by rfl, rfl⟩) (by assumption) ?_)
      | fail "take 6")
    try simp only [Act.put, List.setIfInBounds_toArray, List.set_cons_zero, List.set_cons_succ, List.getElem_toArray, List.getElem_cons_zero, List.getElem_cons_succ]
    (first
      | (refine wpAnyH_take (i := 7) (v := ?_) rfl (by kernel_rfl) (by kernel_rfl) (by kernel_rfl) (fun _ _ _ h => h) (Or.inl ⟨by rfl, ?_⟩) (by assumption) ?_
         rotate_left
         focus (intro wq hSq; (try dsimp only at hSq); go_simp; (try (with_reducible rfl)); done))
      | (refine wpAnyH_take (i := 7) (v := undef) rfl (by kernel_rfl) (by kernel_rfl) (by kernel_rfl) (fun _ _ _ h => h) (Or.inr ⟨by rfl, rfl⟩) (by assumption) ?_)
      | fail "take 7")
    try simp only [Act.put, List.setIfInBounds_toArray, List.set_cons_zero, List.set_cons_succ, List.getElem_toArray, List.getElem_cons_zero, List.getElem_cons_succ]
    (first
      | (refine wpAnyH_take (i := 8) (v := ?_) rfl (by kernel_rfl) (by kernel_rfl) (by kernel_rfl) (fun _ _ _ h => h) (Or.inl ⟨by rfl, ?_⟩) (by assumption) ?_
         rotate_left
         focus (intro wq hSq; (try dsimp only at hSq); go_simp; (try (with_reducible rfl)); done))
      | (refine wpAnyH_take (i := 8) (v := undef) rfl (by kernel_rfl) (by kernel_rfl) (by kernel_rfl) (fun _ _ _ h => h) (Or.inr ⟨by rfl, rfl⟩) (by assumption) ?_)
      | fail "take 8")
    try simp only [Act.put, List.setIfInBounds_toArray, List.set_cons_zero, List.set_cons_succ, List.getElem_toArray, List.getElem_cons_zero, List.getElem_cons_succ]
    (first
      | (refine wpAnyH_take (i := 9) (v := ?_) rfl (by kernel_rfl) (by kernel_rfl) (by kernel_rfl) (fun _ _ _ h => h) (Or.inl ⟨by rfl, ?_⟩) (by assumption) ?_
         rotate_left
         focus (intro wq hSq; (try dsimp only at hSq); go_simp; (try (with_reducible rfl)); done))
      | (refine wpAnyH_take (i := 9) (v := undef) rfl (by kernel_rfl) (by kernel_rfl) (by kernel_rfl) (fun _ _ _ h => h) (Or.inr ⟨by rfl, rfl⟩) (by assumption) ?_)
      | fail "take 9")
    try simp only [Act.put, List.setIfInBounds_toArray, List.set_cons_zero, List.set_cons_succ, List.getElem_toArray, List.getElem_cons_zero, List.getElem_cons_succ]
    (first
      | (refine wpAnyH_take (i := 11) (v := ?_) rfl (by kernel_rfl) (by kernel_rfl) (by kernel_rfl) (fun _ _ _ h => h) (Or.inl ⟨by rfl, ?_⟩) (by assumption) ?_
         rotate_left
         focus (intro wq hSq; (try dsimp only at hSq); go_simp; (try (with_reducible rfl)); done))
      | (refine wpAnyH_take (i := 11) (v := undef) rfl (by kernel_rfl) (by kernel_rfl) (by kernel_rfl) (fun _ _ _ h => h) (Or.inr ⟨by rfl, rfl⟩) (by assumption) ?_)
      | fail "take 11")
    try simp only [Act.put, List.setIfInBounds_toArray, List.set_cons_zero, List.set_cons_succ, List.getElem_toArray, List.getElem_cons_zero, List.getElem_cons_succ]
    (first
      | (refine wpAnyH_take (i := 12) (v := ?_) rfl (by kernel_rfl) (by kernel_rfl) (by kernel_rfl) (fun _ _ _ h => h) (Or.inl ⟨by rfl, ?_⟩) (by assumption) ?_
         rotate_left
         focus (intro wq hSq; (try dsimp only at hSq); go_simp; (try (with_reducible rfl)); done))
      | (refine wpAnyH_take (i := 12) (v := undef) rfl (by kernel_rfl) (by kernel_rfl) (by kernel_rfl) (fun _ _ _ h => h) (Or.inr ⟨by rfl, rfl⟩) (by assumption) ?_)
      | fail "take 12")
    try simp only [Act.put, List.setIfInBounds_toArray, List.set_cons_zero, List.set_cons_succ, List.getElem_toArray, List.getElem_cons_zero, List.getElem_cons_succ]
    (first
      | (refine wpAnyH_take (i := 13) (v := ?_) rfl (by kernel_rfl) (by kernel_rfl) (by kernel_rfl) (fun _ _ _ h => h) (Or.inl ⟨by rfl, ?_⟩) (by assumption) ?_
         rotate_left
         focus (intro wq hSq; (try dsimp only at hSq); go_simp; (try (with_reducible rfl)); done))
      | (refine wpAnyH_take (i := 13) (v := undef) rfl (by kernel_rfl) (by kernel_rfl) (by kernel_rfl) (fun _ _ _ h => h) (Or.inr ⟨by rfl, rfl⟩) (by assumption) ?_)
      | fail "take 13")
    try simp only [Act.put, List.setIfInBounds_toArray, List.set_cons_zero, List.set_cons_succ, List.getElem_toArray, List.getElem_cons_zero, List.getElem_cons_succ]
    refine wpAnyH_ready (rs := [10]) (by kernel_rfl) (by simp) ?_
    refine AllReadyH.cons (o := _) rfl (fun K hK => ?_) AllReadyH.nil
    go_simp
    refine (litShare_c A n c x _ (sl0.next hb01) hn hlz hs o2).mono ?_; rintro e w2 ⟨rfl, hb2⟩; have hb02 := hb01.trans (hb2.mono hb01.size)
    refine hK.out _ _ ?_ (fun hHeld => ?_)
    · exact e1 hb02
    clear hK K
    try simp only [Act.put, List.setIfInBounds_toArray, List.set_cons_zero, List.set_cons_succ, List.getElem_toArray, List.getElem_cons_zero, List.getElem_cons_succ]
    refine wpAnyH_ready (rs := [14]) (by kernel_rfl) (by simp) ?_
    refine AllReadyH.cons (o := _) rfl (fun K hK => ?_) AllReadyH.nil
    go_simp
    refine (darks_c lat fr cnt _ o3).mono ?_; rintro e w3 ⟨v3, rfl, hov, hb3⟩; obtain ⟨A3, c3', rfl⟩ := own_slice hov; have hb03 := hb02.trans (hb3.mono hb02.size)
    refine hK.out _ _ ?_ (fun hHeld => ?_)
    · exact e1 hb03
    clear hK K
    try simp only [Act.put, List.setIfInBounds_toArray, List.set_cons_zero, List.set_cons_succ, List.getElem_toArray, List.getElem_cons_zero, List.getElem_cons_succ]
    refine wpAnyH_ready (rs := [15]) (by kernel_rfl) (by simp) ?_
    refine AllReadyH.cons (o := _) rfl (fun K hK => ?_) AllReadyH.nil
    go_simp
    refine (lasts_c s (shareI x) A3 cnt.toNat c3' _ _ ok sh1 sh2 (Sl.of_own hov) hcn (fun d hd => drkL_mem hd)).mono ?_; rw [HV2.out]; rintro e w4 ⟨rfl, hb4⟩; have hb04 := hb03.trans (hb4.mono hb03.size)
    refine hK.out _ _ ?_ (fun hHeld => ?_)
    · exact e1 hb04
    clear hK K
    try simp only [Act.put, List.setIfInBounds_toArray, List.set_cons_zero, List.set_cons_succ, List.getElem_toArray, List.getElem_cons_zero, List.getElem_cons_succ]
    (first
      | (refine wpAnyH_take (i := 16) (v := ?_) rfl (by kernel_rfl) (by kernel_rfl) (by kernel_rfl) (fun _ _ _ h => h) (Or.inl ⟨by rfl, ?_⟩) (by assumption) ?_
         rotate_left
         focus (intro wq hSq; (try dsimp only at hSq); go_simp; (try (with_reducible rfl)); done))
      | (refine wpAnyH_take (i := 16) (v := undef) rfl (by kernel_rfl) (by kernel_rfl) (by kernel_rfl) (fun _ _ _ h => h) (Or.inr ⟨by rfl, rfl⟩) (by assumption) ?_)
      | fail "take 16")
    try simp only [Act.put, List.setIfInBounds_toArray, List.set_cons_zero, List.set_cons_succ, List.getElem_toArray, List.getElem_cons_zero, List.getElem_cons_succ]
    (first
      | (refine wpAnyH_take (i := 17) (v := ?_) rfl (by kernel_rfl) (by kernel_rfl) (by kernel_rfl) (fun _ _ _ h => h) (Or.inl ⟨by rfl, ?_⟩) (by assumption) ?_
         rotate_left
         focus (intro wq hSq; (try dsimp only at hSq); go_simp; (try (with_reducible rfl)); done))
      | (refine wpAnyH_take (i := 17) (v := undef) rfl (by kernel_rfl) (by kernel_rfl) (by kernel_rfl) (fun _ _ _ h => h) (Or.inr ⟨by rfl, rfl⟩) (by assumption) ?_)
      | fail "take 17")
    try simp only [Act.put, List.setIfInBounds_toArray, List.set_cons_zero, List.set_cons_succ, List.getElem_toArray, List.getElem_cons_zero, List.getElem_cons_succ]
    refine wpAnyH_done (by kernel_rfl) ?_ _
    go_wp2_with fail
    go_ret
    exact ⟨rfl, hb0.trans (hb04.mono hb0.size)⟩
  · have hno := pow_no (s := s) (x := x) (lat := lat) (fr := fr) (cnt := cnt) (by rw [hk]; exact hk0)
    have hVf : V = false := by
      rw [← hV, lasV, ← Bool.and_assoc, hno]; rfl
    subst hVf
    have hkb : (k == 0) = false := by simpa using hk0
    have HV := Lib.hid hV; clear hV
    have Hno := Lib.hid hno; clear hno
    obtain ⟨hSt, hCh, hb0⟩ := two_box (s := s) (c := c) 29 31 sl hn hlz hs
    have hPc : ∀ w1, Below ((w.alloc (stO s 29)).alloc (chO x A n c 31)).heap.size ((w.alloc (stO s 29)).alloc (chO x A n c 31)) w1 → _ := fun w1 hb => powerCode_c s A n c x w1 ((hCh.next hb).sl) hn hlz hs lat fr cnt
    have HP := Lib.hid hPc; clear hPc
    go_enter Tryz.func12, Tryz.ntmps12
    go_wp2_with fail
    generalize (w.alloc (.cells #[.int .i64 s.la, .int .i64 s.sb, .int .i64 s.ba, .int .i64 s.pa, .int .i64 s.sh] 29)).alloc (.cells #[.int .i64 x.k, .slice A n c, .string x.l, .string x.cs, .int .i64 x.p] 31) = w0 at *
    obtain ⟨a0, a1, a2, a3, a4, hbs⟩ := hSt
    obtain ⟨c0, c1, c2, c3, c4, hbc, sl0, _, _, _⟩ := hCh
    simp only [Nat.zero_add] at c0 c1 c2 c3 c4
    have e1 : ∀ {w' : World}, Below w0.heap.size w0 w' → (Below w0.heap.size w0 w' ∧ (∀ x, w'.cell? ⟨w.heap.size, x, none⟩ = w0.cell? ⟨w.heap.size, x, none⟩) ∧ (∀ x, w'.cell? ⟨w.heap.size + 1, x, none⟩ = w0.cell? ⟨w.heap.size + 1, x, none⟩)) := fun hbb => ⟨hbb, keepC hbb _ hbs, keepC hbb _ hbc⟩
    refine wp_region_held_drew (S := fun w' => Below w0.heap.size w0 w' ∧ (∀ x, w'.cell? ⟨w.heap.size, x, none⟩ = w0.cell? ⟨w.heap.size, x, none⟩) ∧ (∀ x, w'.cell? ⟨w.heap.size + 1, x, none⟩ = w0.cell? ⟨w.heap.size + 1, x, none⟩)) (by kernel_rfl) (e1 (Below.refl _ _).drew) (fun hHeld => ?_)
    (first
      | (refine wpAnyH_take (i := 0) (v := ?_) rfl (by kernel_rfl) (by kernel_rfl) (by kernel_rfl) (fun _ _ _ h => h) (Or.inl ⟨by rfl, ?_⟩) (by assumption) ?_
         rotate_left
         focus (intro wq hSq; (try dsimp only at hSq); go_simp; (try (with_reducible rfl)); done))
      | (refine wpAnyH_take (i := 0) (v := undef) rfl (by kernel_rfl) (by kernel_rfl) (by kernel_rfl) (fun _ _ _ h => h) (Or.inr ⟨by rfl, rfl⟩) (by assumption) ?_)
      | fail "take 0")
    try simp only [Act.put, List.setIfInBounds_toArray, List.set_cons_zero, List.set_cons_succ, List.getElem_toArray, List.getElem_cons_zero]
    (first
      | (refine wpAnyH_take (i := 1) (v := ?_) rfl (by kernel_rfl) (by kernel_rfl) (by kernel_rfl) (fun _ _ _ h => h) (Or.inl ⟨by rfl, ?_⟩) (by assumption) ?_
         rotate_left
         focus (intro wq hSq; (try dsimp only at hSq); go_simp; (try (with_reducible rfl)); done))
      | (refine wpAnyH_take (i := 1) (v := undef) rfl (by kernel_rfl) (by kernel_rfl) (by kernel_rfl) (fun _ _ _ h => h) (Or.inr ⟨by rfl, rfl⟩) (by assumption) ?_)
      | fail "take 1")
    try simp only [Act.put, List.setIfInBounds_toArray, List.set_cons_zero, List.set_cons_succ, List.getElem_toArray, List.getElem_cons_zero, List.getElem_cons_succ]
    (first
      | (refine wpAnyH_take (i := 2) (v := ?_) rfl (by kernel_rfl) (by kernel_rfl) (by kernel_rfl) (fun _ _ _ h => h) (Or.inl ⟨by rfl, ?_⟩) (by assumption) ?_
         rotate_left
         focus (intro wq hSq; (try dsimp only at hSq); go_simp; (try (with_reducible rfl)); done))
      | (refine wpAnyH_take (i := 2) (v := undef) rfl (by kernel_rfl) (by kernel_rfl) (by kernel_rfl) (fun _ _ _ h => h) (Or.inr ⟨by rfl, rfl⟩) (by assumption) ?_)
      | fail "take 2")
    try simp only [Act.put, List.setIfInBounds_toArray, List.set_cons_zero, List.set_cons_succ, List.getElem_toArray, List.getElem_cons_zero, List.getElem_cons_succ]
    (first
      | (refine wpAnyH_take (i := 3) (v := ?_) rfl (by kernel_rfl) (by kernel_rfl) (by kernel_rfl) (fun _ _ _ h => h) (Or.inl ⟨by rfl, ?_⟩) (by assumption) ?_
         rotate_left
         focus (intro wq hSq; (try dsimp only at hSq); go_simp; (try (with_reducible rfl)); done))
      | (refine wpAnyH_take (i := 3) (v := undef) rfl (by kernel_rfl) (by kernel_rfl) (by kernel_rfl) (fun _ _ _ h => h) (Or.inr ⟨by rfl, rfl⟩) (by assumption) ?_)
      | fail "take 3")
    try simp only [Act.put, List.setIfInBounds_toArray, List.set_cons_zero, List.set_cons_succ, List.getElem_toArray, List.getElem_cons_zero, List.getElem_cons_succ]
    (first
      | (refine wpAnyH_take (i := 4) (v := ?_) rfl (by kernel_rfl) (by kernel_rfl) (by kernel_rfl) (fun _ _ _ h => h) (Or.inl ⟨by rfl, ?_⟩) (by assumption) ?_
         rotate_left
         focus (intro wq hSq; (try dsimp only at hSq); go_simp; (try (with_reducible rfl)); done))
      | (refine wpAnyH_take (i := 4) (v := undef) rfl (by kernel_rfl) (by kernel_rfl) (by kernel_rfl) (fun _ _ _ h => h) (Or.inr ⟨by rfl, rfl⟩) (by assumption) ?_)
      | fail "take 4")
    try simp only [Act.put, List.setIfInBounds_toArray, List.set_cons_zero, List.set_cons_succ, List.getElem_toArray, List.getElem_cons_zero, List.getElem_cons_succ]
    refine wpAnyH_ready (rs := [5]) (by kernel_rfl) (by simp) ?_
    refine AllReadyH.cons (o := _) rfl (fun K hK => ?_) AllReadyH.nil
    go_simp
    refine (HP.out _ (Below.refl _ _).drew).mono ?_; rw [hk]; rintro e w1 ⟨rfl, hb1⟩; have hb01 := (Below.refl w0.heap.size w0).drew.trans hb1
    refine hK.out _ _ ?_ (fun hHeld => ?_)
    · exact e1 hb01
    clear hK K
    try simp only [Act.put, List.setIfInBounds_toArray, List.set_cons_zero, List.set_cons_succ, List.getElem_toArray, List.getElem_cons_zero, List.getElem_cons_succ]
    (first
      | (refine wpAnyH_take (i := 6) (v := ?_) rfl (by kernel_rfl) (by kernel_rfl) (by kernel_rfl) (fun _ _ _ h => h) (Or.inl ⟨by rfl, ?_⟩) (by assumption) ?_
         rotate_left
         focus (intro wq hSq; (try dsimp only at hSq); go_simp; (try (with_reducible rfl)); done))
      | (refine wpAnyH_take (i := 6) (v := undef) rfl (by kernel_rfl) (by kernel_rfl) (by kernel_rfl) (fun _ _ _ h => h) (Or.inr ⟨by rfl, rfl⟩) (by assumption) ?_)
      | fail "take 6")
    try simp only [Act.put, List.setIfInBounds_toArray, List.set_cons_zero, List.set_cons_succ, List.getElem_toArray, List.getElem_cons_zero, List.getElem_cons_succ]
    (first
      | (refine wpAnyH_take (i := 7) (v := ?_) rfl (by kernel_rfl) (by kernel_rfl) (by kernel_rfl) (fun _ _ _ h => h) (Or.inl ⟨by rfl, ?_⟩) (by assumption) ?_
         rotate_left
         focus (intro wq hSq; (try dsimp only at hSq); go_simp; (try (with_reducible rfl)); done))
      | (refine wpAnyH_take (i := 7) (v := undef) rfl (by kernel_rfl) (by kernel_rfl) (by kernel_rfl) (fun _ _ _ h => h) (Or.inr ⟨by rfl, rfl⟩) (by assumption) ?_)
      | fail "take 7")
    try simp only [Act.put, List.setIfInBounds_toArray, List.set_cons_zero, List.set_cons_succ, List.getElem_toArray, List.getElem_cons_zero, List.getElem_cons_succ]
    (first
      | (refine wpAnyH_take (i := 8) (v := ?_) rfl (by kernel_rfl) (by kernel_rfl) (by kernel_rfl) (fun _ _ _ h => h) (Or.inl ⟨by rfl, ?_⟩) (by assumption) ?_
         rotate_left
         focus (intro wq hSq; (try dsimp only at hSq); go_simp; (try (with_reducible rfl)); done))
      | (refine wpAnyH_take (i := 8) (v := undef) rfl (by kernel_rfl) (by kernel_rfl) (by kernel_rfl) (fun _ _ _ h => h) (Or.inr ⟨by rfl, rfl⟩) (by assumption) ?_)
      | fail "take 8")
    try simp only [Act.put, List.setIfInBounds_toArray, List.set_cons_zero, List.set_cons_succ, List.getElem_toArray, List.getElem_cons_zero, List.getElem_cons_succ]
    (first
      | (refine wpAnyH_take (i := 9) (v := ?_) rfl (by kernel_rfl) (by kernel_rfl) (by kernel_rfl) (fun _ _ _ h => h) (Or.inl ⟨by rfl, ?_⟩) (by assumption) ?_
         rotate_left
         focus (intro wq hSq; (try dsimp only at hSq); go_simp; (try (with_reducible rfl)); done))
      | (refine wpAnyH_take (i := 9) (v := undef) rfl (by kernel_rfl) (by kernel_rfl) (by kernel_rfl) (fun _ _ _ h => h) (Or.inr ⟨by rfl, rfl⟩) (by assumption) ?_)
      | fail "take 9")
    try simp only [Act.put, List.setIfInBounds_toArray, List.set_cons_zero, List.set_cons_succ, List.getElem_toArray, List.getElem_cons_zero, List.getElem_cons_succ]
    (first
      | (refine wpAnyH_take (i := 10) (v := ?_) rfl (by kernel_rfl) (by kernel_rfl) (by kernel_rfl) (fun _ _ _ h => h) (Or.inl ⟨by rfl, ?_⟩) (by assumption) ?_
         rotate_left
         focus (intro wq hSq; (try dsimp only at hSq); go_simp; (try (with_reducible rfl)); done))
      | (refine wpAnyH_take (i := 10) (v := undef) rfl (by kernel_rfl) (by kernel_rfl) (by kernel_rfl) (fun _ _ _ h => h) (Or.inr ⟨by rfl, rfl⟩) (by assumption) ?_)
      | fail "take 10")
    try simp only [Act.put, List.setIfInBounds_toArray, List.set_cons_zero, List.set_cons_succ, List.getElem_toArray, List.getElem_cons_zero, List.getElem_cons_succ]
    (first
      | (refine wpAnyH_take (i := 11) (v := ?_) rfl (by kernel_rfl) (by kernel_rfl) (by kernel_rfl) (fun _ _ _ h => h) (Or.inl ⟨by rfl, ?_⟩) (by assumption) ?_
         rotate_left
         focus (intro wq hSq; (try dsimp only at hSq); go_simp; (try (with_reducible rfl)); done))
      | (refine wpAnyH_take (i := 11) (v := undef) rfl (by kernel_rfl) (by kernel_rfl) (by kernel_rfl) (fun _ _ _ h => h) (Or.inr ⟨by rfl, rfl⟩) (by assumption) ?_)
      | fail "take 11")
    try simp only [Act.put, List.setIfInBounds_toArray, List.set_cons_zero, List.set_cons_succ, List.getElem_toArray, List.getElem_cons_zero, List.getElem_cons_succ]
    (first
      | (refine wpAnyH_take (i := 12) (v := ?_) rfl (by kernel_rfl) (by kernel_rfl) (by kernel_rfl) (fun _ _ _ h => h) (Or.inl ⟨by rfl, ?_⟩) (by assumption) ?_
         rotate_left
         focus (intro wq hSq; (try dsimp only at hSq); go_simp; (try (with_reducible rfl)); done))
      | (refine wpAnyH_take (i := 12) (v := undef) rfl (by kernel_rfl) (by kernel_rfl) (by kernel_rfl) (fun _ _ _ h => h) (Or.inr ⟨by rfl, rfl⟩) (by assumption) ?_)
      | fail "take 12")
    try simp only [Act.put, List.setIfInBounds_toArray, List.set_cons_zero, List.set_cons_succ, List.getElem_toArray, List.getElem_cons_zero, List.getElem_cons_succ]
    (first
      | (refine wpAnyH_take (i := 13) (v := ?_) rfl (by kernel_rfl) (by kernel_rfl) (by kernel_rfl) (fun _ _ _ h => h) (Or.inl ⟨by rfl, ?_⟩) (by assumption) ?_
         rotate_left
         focus (intro wq hSq; (try dsimp only at hSq); go_simp; (try (with_reducible rfl)); done))
      | (refine wpAnyH_take (i := 13) (v := undef) rfl (by kernel_rfl) (by kernel_rfl) (by kernel_rfl) (fun _ _ _ h => h) (Or.inr ⟨by rfl, rfl⟩) (by assumption) ?_)
      | fail "take 13")
    try simp only [Act.put, List.setIfInBounds_toArray, List.set_cons_zero, List.set_cons_succ, List.getElem_toArray, List.getElem_cons_zero, List.getElem_cons_succ]
    (first
      | (refine wpAnyH_take (i := 14) (v := ?_) rfl (by kernel_rfl) (by kernel_rfl) (by kernel_rfl) (fun _ _ _ h => h) (Or.inl ⟨by rfl, ?_⟩) (by assumption) ?_
         rotate_left
         focus (intro wq hSq; (try dsimp only at hSq); go_simp; (try (with_reducible rfl)); done))
      | (refine wpAnyH_take (i := 14) (v := undef) rfl (by kernel_rfl) (by kernel_rfl) (by kernel_rfl) (fun _ _ _ h => h) (Or.inr ⟨by rfl, rfl⟩) (by assumption) ?_)
      | fail "take 14")
    try simp only [Act.put, List.setIfInBounds_toArray, List.set_cons_zero, List.set_cons_succ, List.getElem_toArray, List.getElem_cons_zero, List.getElem_cons_succ]
    (first
      | (refine wpAnyH_take (i := 15) (v := ?_) rfl (by kernel_rfl) (by kernel_rfl) (by kernel_rfl) (fun _ _ _ h => h) (Or.inl ⟨by rfl, ?_⟩) (by assumption) ?_
         rotate_left
         focus (intro wq hSq; (try dsimp only at hSq); go_simp; (try (with_reducible rfl)); done))
      | (refine wpAnyH_take (i := 15) (v := undef) rfl (by kernel_rfl) (by kernel_rfl) (by kernel_rfl) (fun _ _ _ h => h) (Or.inr ⟨by rfl, rfl⟩) (by assumption) ?_)
      | fail "take 15")
    try simp only [Act.put, List.setIfInBounds_toArray, List.set_cons_zero, List.set_cons_succ, List.getElem_toArray, List.getElem_cons_zero, List.getElem_cons_succ]
    (first
      | (refine wpAnyH_take (i := 16) (v := ?_) rfl (by kernel_rfl) (by kernel_rfl) (by kernel_rfl) (fun _ _ _ h => h) (Or.inl ⟨by rfl, ?_⟩) (by assumption) ?_
         rotate_left
         focus (intro wq hSq; (try dsimp only at hSq); go_simp; (try (with_reducible rfl)); done))
      | (refine wpAnyH_take (i := 16) (v := undef) rfl (by kernel_rfl) (by kernel_rfl) (by kernel_rfl) (fun _ _ _ h => h) (Or.inr ⟨by rfl, rfl⟩) (by assumption) ?_)
      | fail "take 16")
    try simp only [Act.put, List.setIfInBounds_toArray, List.set_cons_zero, List.set_cons_succ, List.getElem_toArray, List.getElem_cons_zero, List.getElem_cons_succ]
    (first
      | (refine wpAnyH_take (i := 17) (v := ?_) rfl (by kernel_rfl) (by kernel_rfl) (by kernel_rfl) (fun _ _ _ h => h) (Or.inl ⟨by rfl, ?_⟩) (by assumption) ?_
         rotate_left
         focus (intro wq hSq; (try dsimp only at hSq); go_simp; (try (with_reducible rfl)); done))
      | (refine wpAnyH_take (i := 17) (v := undef) rfl (by kernel_rfl) (by kernel_rfl) (by kernel_rfl) (fun _ _ _ h => h) (Or.inr ⟨by rfl, rfl⟩) (by assumption) ?_)
      | fail "take 17")
    try simp only [Act.put, List.setIfInBounds_toArray, List.set_cons_zero, List.set_cons_succ, List.getElem_toArray, List.getElem_cons_zero, List.getElem_cons_succ]
    refine wpAnyH_done (by kernel_rfl) ?_ _
    go_wp2_with fail
    go_ret
    exact ⟨rfl, hb0.trans (hb01.mono hb0.size)⟩
end Go.Proofs.YtpgcgmbjlecnpaaGreat
