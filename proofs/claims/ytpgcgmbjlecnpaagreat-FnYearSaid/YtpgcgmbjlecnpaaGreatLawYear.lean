/- The walk of the law FnYear. -/
import Derived.Test.YtpgcgmbjlecnpaaGreatYrP
namespace Go.Proofs.YtpgcgmbjlecnpaaGreat
open Go.RowKit
set_option maxRecDepth 100000 in
set_option maxHeartbeats 4000000 in
theorem lawYear_c (A : Option Addr) (n c : Nat) (bs : List Int) (A' : Option Addr) (n' c' : Nat) (bs' : List Int) (w : World) (hx : Sl w w.heap.size 1 A n (bs.flatMap u8C)) (hb : ∀ x ∈ bs, 0 ≤ x ∧ x ≤ 255) (hn : n ≤ maxLen) (hx' : Sl w w.heap.size 1 A' n' (bs'.flatMap u8C)) (hb' : ∀ x ∈ bs', 0 ≤ x ∧ x ≤ 255) (hn' : n' ≤ maxLen) :
    Calls Tryz.prog 7 #[.slice A n c, .slice A' n' c'] w fun e w' => e = .returned (.bool true) ∧ Below w.heap.size w w' := by
  have hlong := r8Long_c A A' n c n' c' w
  cases hq : (decide (1048576 < n) || decide (1048576 < n'))
  case true =>
    rw [hq] at hlong
    have HLong := Lib.hid hlong; clear hlong
    go_enter Tryz.func7, Tryz.ntmps7
    go_wp2_with fail
    refine HLong.out.mono ?_
    rintro e w1 ⟨rfl, rfl⟩
    go_wp2_with fail
    go_ret
    exact ⟨rfl, Below.refl _ _⟩
  rw [hq] at hlong
  have hsz : n ≤ 1048576 ∧ n' ≤ 1048576 := by
    simp only [Bool.or_eq_false_iff, decide_eq_false_iff_not] at hq; omega
  obtain ⟨_, hsz'⟩ := hsz
  clear hq
  have hS1 : ∀ w1, w = w1 → _ := fun w1 e => e ▸ r8Sta_c A n c bs w hx hb hn
  have hC1 : ∀ w1, Below w.heap.size w w1 → _ := fun w1 hbb => r8Char_c A' n' c' bs' w1 (hx'.next hbb) hb' hn'
  have hA0 : ∀ w1, Below w.heap.size w w1 → Calls Tryz.prog 27 #[.slice A' n' c', .int .i64 0, .int .i64 133] w1 (AtAns 133 w1) := fun w1 hbb => r8At_c A' n' c' w1.heap.size bs' 0 133 w1 (hx'.next hbb) hb' hsz' (by omega)
  have hA1 : ∀ w1, Below w.heap.size w w1 → Calls Tryz.prog 28 #[.slice A' n' c', .int .i64 1, .int .i64 9000] w1 _ := fun w1 hbb => r8Wide_c A' n' c' w1.heap.size bs' 1 9000 w1 (hx'.next hbb) hb' hsz' (by omega) (by omega) (by omega)
  have hA3 : ∀ w1, Below w.heap.size w w1 → Calls Tryz.prog 27 #[.slice A' n' c', .int .i64 3, .int .i64 12] w1 (AtAns 12 w1) := fun w1 hbb => r8At_c A' n' c' w1.heap.size bs' 3 12 w1 (hx'.next hbb) hb' hsz' (by omega)
  have HLong := Lib.hid hlong; clear hlong
  have HS1 := Lib.hid hS1; clear hS1
  have HC1 := Lib.hid hC1; clear hC1
  have HA0 := Lib.hid hA0; clear hA0
  have HA1 := Lib.hid hA1; clear hA1
  have HA3 := Lib.hid hA3; clear hA3
  clear hx hb hn hx' hb' hn' hsz'
  go_enter Tryz.func7, Tryz.ntmps7
  go_wp2_with fail
  refine HLong.out.mono ?_
  rintro e w1 ⟨rfl, rfl⟩
  go_wp2_with fail
  refine (HS1.out _ rfl).mono ?_
  rintro e w1 ⟨s, rfl, hsv, hb1⟩
  have hp1 := stp_box w1 s 29
  have hb2 : Below w.heap.size w (w1.alloc (stO s 29)) := by (repeat (first | (with_reducible assumption) | (with_reducible exact Below.refl _ _) | exact Nat.le_refl _ | exact Below.size (by with_reducible assumption) | (with_reducible refine Below.drew ?_) | (with_reducible refine below_drewN ?_ _) | (with_reducible refine Below.alloc ?_ ?_ _) | (with_reducible refine Below.setCell ?_ ?_ _) | (with_reducible refine le_alloc ?_ _) | (with_reducible refine le_set ?_ _ _) | (with_reducible refine le_drew ?_) | (with_reducible refine le_drewN ?_ _) | omega | (dsimp only; omega)))
  have hz1 : w.heap.size ≤ w1.heap.size := hb1.size
  obtain ⟨b5, hb5⟩ : ∃ b, w1.heap.size = b := ⟨_, rfl⟩
  clear hb1
  go_wp2_with fail
  rw [hb5] at hp1
  try rw [hb5]
  generalize w1.alloc (.cells #[.int .i64 s.la, .int .i64 s.sb, .int .i64 s.ba, .int .i64 s.pa, .int .i64 s.sh] 29) = w2 at *
  refine (HC1.out _ hb2).mono ?_
  rintro e w3 ⟨z, rfl, hzv, hzo, hb3⟩
  have hsh := shape_sizes (valid_shape hzv)
  have zn : z.n ≤ 1048576 := by show z.x.gs.length ≤ 1048576; omega
  have zl : z.x.l.size ≤ 1048576 := by omega
  have zc : z.x.cs.size ≤ 1048576 := by omega
  have hcb := chp_box (c := z.c) 31 (Sl.of_own hzo) zn zl zc
  have hb3x : Below w3.heap.size w3 (w3.alloc (.cells #[.int .i64 z.x.k, .slice z.A z.n z.c, .string z.x.l, .string z.x.cs, .int .i64 z.x.p] 31)) := by (repeat (first | (with_reducible assumption) | (with_reducible exact Below.refl _ _) | exact Nat.le_refl _ | exact Below.size (by with_reducible assumption) | (with_reducible refine Below.drew ?_) | (with_reducible refine below_drewN ?_ _) | (with_reducible refine Below.alloc ?_ ?_ _) | (with_reducible refine Below.setCell ?_ ?_ _) | (with_reducible refine le_alloc ?_ _) | (with_reducible refine le_set ?_ _ _) | (with_reducible refine le_drew ?_) | (with_reducible refine le_drewN ?_ _) | omega | (dsimp only; omega)))
  have hp2 := (hp1.next hb3).next hb3x
  have hb4 := (hb2.trans (hb3.mono hb2.size)).trans (hb3x.mono (hb2.trans (hb3.mono hb2.size)).size)
  obtain ⟨b6, hb6⟩ : ∃ b, w3.heap.size = b := ⟨_, rfl⟩
  clear hsh hzo hb3 hb3x hp1 hb2
  go_wp2_with fail
  rw [hb6] at hcb
  try rw [hb6]
  generalize w3.alloc (.cells #[.int .i64 z.x.k, .slice z.A z.n z.c, .string z.x.l, .string z.x.cs, .int .i64 z.x.p] 31) = w4 at *
  clear hb5 hb6 hz1 HS1 HC1 HLong
  as_aux_lemma =>
    refine (HA0.out _ hb4).mono ?_
    rintro e w5 ⟨r, rfl, r0, r1, _, rfl⟩
    obtain ⟨lat, hlat⟩ : ∃ lat, r - 66 = lat := ⟨_, rfl⟩
    have ew : IntKind.i64.wrap (r - 66) = lat := by rw [IntWalk.i64_in _ (by omega)]; exact hlat
    have hl1 : -66 ≤ lat ∧ lat ≤ 66 := by omega
    go_wp2_with fail
    clear ew hlat r0 r1
    refine (HA1.out _ hb4).mono ?_
    rintro e w5 ⟨fr, rfl, f0, f1, rfl⟩
    go_wp2_with fail
    refine (HA3.out _ hb4).mono ?_
    rintro e w5 ⟨r', rfl, r0, r1, _, rfl⟩
    obtain ⟨N, hN⟩ : ∃ N : Nat, 1 + r' = N := ⟨(1 + r').toNat, by omega⟩
    have ew : IntKind.i64.wrap (1 + r') = N := by rw [IntWalk.i64_in _ (by omega)]; exact hN
    have hN1 : 1 ≤ N ∧ N ≤ 12 := by omega
    have hc := seaB_of hl1 ⟨f0, f1⟩ hN1
    obtain ⟨a0, a1, a2, a3, a4, hz5⟩ := id hp2
    obtain ⟨c0, c1, c2, c3, c4, hz6, slz, _, _, _⟩ := id hcb
    simp only [Nat.zero_add] at c0 c1 c2 c3 c4
    have hLv : ∀ w1, Below w4.heap.size w4 w1 → _ := fun w1 hbb => implLev_c s z.A z.n z.c z.x w1 (slz.next hbb) zn zl zc lat fr N
    have hKz : powK s z.x lat fr N = 0 := by rw [powK, okSC, hsv, hzv, hc]; rfl
    have hVz : levV s z.x lat fr N = levL s (shareI z.x) (drkL lat fr N) s.ba := by rw [levV, okSC, hsv, hzv, hc]; rfl
    rw [hKz, hVz] at hLv
    have hLl : (levL s (shareI z.x) (drkL lat fr N) s.ba).length = N := by rw [levL_len, drkL_len]
    rw [hLl] at hLv
    clear hKz hVz hLl
    have HLv := Lib.hid hLv; clear hLv
    go_wp2_with fail
    clear ew hN r0 r1 HA0 HA1 HA3
    refine (HLv.out _ (Below.refl _ _)).mono ?_
    rintro e w8 ⟨v8, rfl, ho8, hb8⟩
    obtain ⟨A8, c8, rfl⟩ := own_slice ho8
    have hp8 := hp2.next hb8
    have hc8 := hcb.next hb8
    replace hb4 := hb4.trans (hb8.mono hb4.size)
    have hneq : ¬ ((N : Int) ≠ (N : Int)) := by simp
    clear a0 a1 a2 a3 a4 c0 c1 c2 c3 c4 hp2 hcb hz5 hz6 slz hb8 HLv
    obtain ⟨a0, a1, a2, a3, a4, hz5⟩ := id hp8
    as_aux_lemma =>
      have ok := stB_ok hsv
      obtain ⟨sh1, sh2⟩ := share_bd hzv
      have hba1 := ok.b1
      have hba2 := ok.b2
      have hsl8 := Sl.of_own ho8
      have hDy : ∀ (d : Int) w1, Below w8.heap.size w8 w1 → 0 ≤ d → d ≤ 1440 → Calls Tryz.prog 30 #[stV s, chV z.x.k z.A z.n z.c z.x.l z.x.cs z.x.p, .int .i64 d] w1 fun e w' => e = .returned (.tuple #[.int .i64 (useI s (shareI z.x) d), .int .i64 0]) ∧ Below w1.heap.size w1 w' := fun d w1 hbb d1 d2 => by
        have := specDay_c s z.A z.n z.c z.x w1 (hc8.next hbb).sl zn zl zc d
        have hi : inB d 0 1440 = true := inB_iff.2 ⟨d1, d2⟩
        rwa [show dayV s z.x d = useI s (shareI z.x) d by rw [dayV, okSC, hsv, hzv, hi]; rfl, show dayK s z.x d = 0 by rw [dayK, okSC, hsv, hzv, hi]; rfl] at this
      have hDg : ∀ (d : Int) w1, 0 ≤ d → d ≤ 1440 → _ := fun d w1 d1 d2 => dayGain_c s d w1 hsv d1 d2
      have hDm : ∀ (k : Nat) w1, k < N → _ := fun k w1 hk => darkMin_c lat (fr + k) w1 (inB_iff.2 hl1) (inB_iff.2 (show 0 ≤ fr + (k : Int) ∧ fr + (k : Int) ≤ 99999 by omega))
      have hub : ∀ d : Int, 0 ≤ d → d ≤ 1440 → 24 ≤ useI s (shareI z.x) d ∧ useI s (shareI z.x) d ≤ 2000000000000000 := fun d d1 d2 => (use_bd ok sh1 sh2 d1 d2).2.2
      have hgb : ∀ d : Int, 0 ≤ d → d ≤ 1440 → 0 ≤ gainI s d ∧ gainI s d ≤ 1440000000000 := fun d d1 d2 => (gain_bd ok d1 d2).2.2
      have hLn := drkL_len lat fr N
      have hLm : ∀ k, k < N → (drkL lat fr N)[k]? = some (drkD lat (fr + k)) := fun k hk => by simp [drkL, hk]
      have hLg := fun i (hi : i < (drkL lat fr N).length) => levL_get (s := s) (sh := shareI z.x) (drkL lat fr N) s.ba i hi
      have hN0 : Hid (lasB s (shareI z.x) (drkL lat fr N) = (runE s (shareI z.x) (drkL lat fr N) s.ba).isSome) := Lib.hid rfl
      have hLs : ∀ (s' : St) w1, Below w8.heap.size w8 w1 → Calls Tryz.prog 12 #[stV s', chV z.x.k z.A z.n z.c z.x.l z.x.cs z.x.p, .int .i64 lat, .int .i64 fr, .int .i64 N] w1 fun e w' => e = .returned (.bool (lasV s' z.x lat fr N)) ∧ Below w1.heap.size w1 w' := fun s' w1 hbb => implLasts_c s' z.A z.n z.c z.x w1 (hc8.next hbb).sl zn zl zc lat fr N
      have hBt : ∀ w1, Below w8.heap.size w8 w1 → _ := fun w1 hbb => implBat_c s z.A z.n z.c z.x w1 (hc8.next hbb).sl zn zl zc lat fr N
      have hPn : ∀ w1, Below w8.heap.size w8 w1 → _ := fun w1 hbb => implPan_c s z.A z.n z.c z.x w1 (hc8.next hbb).sl zn zl zc lat fr N
      have HDy := Lib.hid hDy; clear hDy
      have HDg := Lib.hid hDg; clear hDg
      have HDm := Lib.hid hDm; clear hDm
      have Hub := Lib.hid hub; clear hub
      have Hgb := Lib.hid hgb; clear hgb
      have HLs := Lib.hid hLs; clear hLs
      have HBt := Lib.hid hBt; clear hBt
      have HPn := Lib.hid hPn; clear hPn
      have HLn := Lib.hid hLn; clear hLn
      have HLm := Lib.hid hLm; clear hLm
      have HLg := Lib.hid hLg; clear hLg
      have hz6 := hc8.hb
      go_wp2_with fail
      go_loopw [12, 13, 14] (fun y q i wr => ∃ (k : Nat) (v : Int) (R : Bool), k ≤ N ∧ i = .int .i64 k ∧ y = .int .i64 v ∧ q = .bool R ∧ Hid (levE s (shareI z.x) ((drkL lat fr N).take k) s.ba = v) ∧ Hid ((runE s (shareI z.x) ((drkL lat fr N).take k) s.ba).isSome = R) ∧ Below w8.heap.size w8 wr) (fun _ _ i _ => N - (intOf i).toNat)
      case atStart => exact ⟨0, s.ba, true, Nat.zero_le _, rfl, rfl, rfl, Lib.hid rfl, Lib.hid rfl, Below.refl _ _⟩
      case round =>
        obtain ⟨k, v, R, hk, rfl, rfl, rfl, Hv, HR, hbw⟩ := hrel
        clear a0 a1 a2 a3 a4
        by_cases hlt : k < N
        · as_aux_lemma =>
            have hlt' : (k : Int) < N := by omega
            have hxk := HLm.out k hlt
            have hdb := drkD_bd lat (fr + k)
            have hvb := levE_bd (s := s) (shareI z.x) (show 0 ≤ s.ba by omega) ((drkL lat fr N).take k) s.ba (by omega) (Int.le_refl _)
            rw [Hv.out] at hvb
            have htk : (drkL lat fr N).take (k + 1) = (drkL lat fr N).take k ++ [drkD lat (fr + k)] := by rw [List.take_add_one, hxk, Option.toList_some]
            have hnv : levE s (shareI z.x) ((drkL lat fr N).take (k + 1)) s.ba = max 0 (min s.ba (v + gainI s (drkD lat (fr + k)) - useI s (shareI z.x) (drkD lat (fr + k)))) := by rw [htk, levE_next, Hv.out]; rfl
            have hnr := las_next (s := s) (sh := shareI z.x) (show 0 ≤ s.ba by omega) hxk
            rw [HR.out, Hv.out] at hnr
            obtain ⟨bb, off, el, hA8, hbb, hel, hce⟩ := hsl8.int k hlt
            have helv := HLg.out k (by rw [HLn.out]; exact hlt)
            rw [hel] at helv
            have hel2 := Option.some.inj helv
            rw [hnv] at hel2
            subst hA8
            have qe := keepC hbw bb hbb
            have hm1 := HDm.out k wr hlt
            have hu1 := Hub.out _ hdb.1 hdb.2
            have hg1 := Hgb.out _ hdb.1 hdb.2
            have hDy1 : ∀ w1, Below w8.heap.size w8 w1 → _ := fun w1 hbb => HDy.out (drkD lat (fr + k)) w1 hbb hdb.1 hdb.2
            have hDg1 : ∀ w1, _ := fun w1 => HDg.out (drkD lat (fr + k)) w1 hdb.1 hdb.2
            generalize hG : gainI s (drkD lat (fr + k)) = G at *
            generalize hU : useI s (shareI z.x) (drkD lat (fr + k)) = U at *
            generalize drkD lat (fr + k) = D at *
            clear hG hU
            have Hm1 := Lib.hid hm1; clear hm1
            have HDy1 := Lib.hid hDy1; clear hDy1
            have HDg1 := Lib.hid hDg1; clear hDg1
            have Hxk := Lib.hid hxk; clear hxk
            have Htk := Lib.hid htk; clear htk
            have Hnv := Lib.hid hnv; clear hnv
            have Hnr := Lib.hid hnr; clear hnr
            have Hel := Lib.hid hel; clear hel
            have Helv := Lib.hid helv; clear helv
            obtain ⟨a0, a1, a2, a3, a4, _⟩ := hp8.next hbw
            obtain ⟨c0, c1, c2, c3, c4, _, _, _, _, _⟩ := hc8.next hbw
            simp only [Nat.zero_add] at c0 c1 c2 c3 c4
            clear hsl8 Hv HR HDy HDg HDm HLs HBt HPn HLg hN0
            have hcase : (v + G - U < 0) ∨ (0 ≤ v + G - U ∧ v + G - U < s.ba) ∨ (¬ v + G - U < s.ba ∧ 0 ≤ v + G - U) := by omega
            rcases hcase with h1 | ⟨h1, h2⟩ | ⟨h1, h2⟩
            · obtain rfl : el = 0 := by omega
              clear hel2
              cases R
              · go_wp2_with fail
                refine Hm1.out.mono ?_
                rintro e w10 ⟨rfl, hb10⟩
                have hbw10 := hbw.trans (hb10.mono hbw.size)
                have q10 := keepC hb10 b5 (Nat.lt_of_lt_of_le hz5 hbw.size)
                have r10 := keepC hb10 b6 (Nat.lt_of_lt_of_le hz6 hbw.size)
                have u10 := keepC hb10 bb (Nat.lt_of_lt_of_le hbb hbw.size)
                go_wp2_with fail
                refine (HDy1.out _ hbw10).mono ?_
                rintro e w11 ⟨rfl, hb11⟩
                have hbw11 := hbw10.trans (hb11.mono hbw10.size)
                have q11 := keepC hb11 b5 (Nat.lt_of_lt_of_le hz5 hbw10.size)
                have u11 := keepC hb11 bb (Nat.lt_of_lt_of_le hbb hbw10.size)
                go_wp2_with fail
                refine (HDg1.out _).mono ?_
                rintro e w12 ⟨rfl, hb12⟩
                have hbw12 := hbw11.trans (hb12.mono hbw11.size)
                have q12 := keepC hb12 b5 (Nat.lt_of_lt_of_le hz5 hbw11.size)
                have u12 := keepC hb12 bb (Nat.lt_of_lt_of_le hbb hbw11.size)
                go_wp2_with fail
                go_roundw
                case rel => exact ⟨k + 1, 0, false, by omega, by go_num, by first | rfl | exact int_eq (by first | omega | (split <;> omega)), by first | rfl | exact bool_eq (decide_eq_false (by omega)) | exact bool_eq (decide_eq_true (by omega)), Lib.hid (by rw [Hnv.out]; omega), Lib.hid (by rw [Hnr.out]; first | rfl | (rw [decide_eq_true (by omega)]; rfl) | (rw [decide_eq_false (by omega)]; rfl)), hbw12⟩
                case measure => simp [intOf]; omega
              · go_wp2_with fail
                refine Hm1.out.mono ?_
                rintro e w10 ⟨rfl, hb10⟩
                have hbw10 := hbw.trans (hb10.mono hbw.size)
                have q10 := keepC hb10 b5 (Nat.lt_of_lt_of_le hz5 hbw.size)
                have r10 := keepC hb10 b6 (Nat.lt_of_lt_of_le hz6 hbw.size)
                have u10 := keepC hb10 bb (Nat.lt_of_lt_of_le hbb hbw.size)
                go_wp2_with fail
                refine (HDy1.out _ hbw10).mono ?_
                rintro e w11 ⟨rfl, hb11⟩
                have hbw11 := hbw10.trans (hb11.mono hbw10.size)
                have q11 := keepC hb11 b5 (Nat.lt_of_lt_of_le hz5 hbw10.size)
                have u11 := keepC hb11 bb (Nat.lt_of_lt_of_le hbb hbw10.size)
                go_wp2_with fail
                refine (HDg1.out _).mono ?_
                rintro e w12 ⟨rfl, hb12⟩
                have hbw12 := hbw11.trans (hb12.mono hbw11.size)
                have q12 := keepC hb12 b5 (Nat.lt_of_lt_of_le hz5 hbw11.size)
                have u12 := keepC hb12 bb (Nat.lt_of_lt_of_le hbb hbw11.size)
                go_wp2_with fail
                go_roundw
                case rel => exact ⟨k + 1, 0, false, by omega, by go_num, by first | rfl | exact int_eq (by first | omega | (split <;> omega)), by first | rfl | exact bool_eq (decide_eq_false (by omega)) | exact bool_eq (decide_eq_true (by omega)), Lib.hid (by rw [Hnv.out]; omega), Lib.hid (by rw [Hnr.out]; first | rfl | (rw [decide_eq_true (by omega)]; rfl) | (rw [decide_eq_false (by omega)]; rfl)), hbw12⟩
                case measure => simp [intOf]; omega
            · obtain rfl : el = v + G - U := by omega
              clear hel2
              cases R
              · go_wp2_with fail
                refine Hm1.out.mono ?_
                rintro e w10 ⟨rfl, hb10⟩
                have hbw10 := hbw.trans (hb10.mono hbw.size)
                have q10 := keepC hb10 b5 (Nat.lt_of_lt_of_le hz5 hbw.size)
                have r10 := keepC hb10 b6 (Nat.lt_of_lt_of_le hz6 hbw.size)
                have u10 := keepC hb10 bb (Nat.lt_of_lt_of_le hbb hbw.size)
                go_wp2_with fail
                refine (HDy1.out _ hbw10).mono ?_
                rintro e w11 ⟨rfl, hb11⟩
                have hbw11 := hbw10.trans (hb11.mono hbw10.size)
                have q11 := keepC hb11 b5 (Nat.lt_of_lt_of_le hz5 hbw10.size)
                have u11 := keepC hb11 bb (Nat.lt_of_lt_of_le hbb hbw10.size)
                go_wp2_with fail
                refine (HDg1.out _).mono ?_
                rintro e w12 ⟨rfl, hb12⟩
                have hbw12 := hbw11.trans (hb12.mono hbw11.size)
                have q12 := keepC hb12 b5 (Nat.lt_of_lt_of_le hz5 hbw11.size)
                have u12 := keepC hb12 bb (Nat.lt_of_lt_of_le hbb hbw11.size)
                go_wp2_with fail
                go_roundw
                case rel => exact ⟨k + 1, (v + G - U), false, by omega, by go_num, by first | rfl | exact int_eq (by first | omega | (split <;> omega)), by first | rfl | exact bool_eq (decide_eq_false (by omega)) | exact bool_eq (decide_eq_true (by omega)), Lib.hid (by rw [Hnv.out]; omega), Lib.hid (by rw [Hnr.out]; first | rfl | (rw [decide_eq_true (by omega)]; rfl) | (rw [decide_eq_false (by omega)]; rfl)), hbw12⟩
                case measure => simp [intOf]; omega
              · go_wp2_with fail
                refine Hm1.out.mono ?_
                rintro e w10 ⟨rfl, hb10⟩
                have hbw10 := hbw.trans (hb10.mono hbw.size)
                have q10 := keepC hb10 b5 (Nat.lt_of_lt_of_le hz5 hbw.size)
                have r10 := keepC hb10 b6 (Nat.lt_of_lt_of_le hz6 hbw.size)
                have u10 := keepC hb10 bb (Nat.lt_of_lt_of_le hbb hbw.size)
                go_wp2_with fail
                refine (HDy1.out _ hbw10).mono ?_
                rintro e w11 ⟨rfl, hb11⟩
                have hbw11 := hbw10.trans (hb11.mono hbw10.size)
                have q11 := keepC hb11 b5 (Nat.lt_of_lt_of_le hz5 hbw10.size)
                have u11 := keepC hb11 bb (Nat.lt_of_lt_of_le hbb hbw10.size)
                go_wp2_with fail
                refine (HDg1.out _).mono ?_
                rintro e w12 ⟨rfl, hb12⟩
                have hbw12 := hbw11.trans (hb12.mono hbw11.size)
                have q12 := keepC hb12 b5 (Nat.lt_of_lt_of_le hz5 hbw11.size)
                have u12 := keepC hb12 bb (Nat.lt_of_lt_of_le hbb hbw11.size)
                go_wp2_with fail
                go_roundw
                case rel => exact ⟨k + 1, (v + G - U), true, by omega, by go_num, by first | rfl | exact int_eq (by first | omega | (split <;> omega)), by first | rfl | exact bool_eq (decide_eq_false (by omega)) | exact bool_eq (decide_eq_true (by omega)), Lib.hid (by rw [Hnv.out]; omega), Lib.hid (by rw [Hnr.out]; first | rfl | (rw [decide_eq_true (by omega)]; rfl) | (rw [decide_eq_false (by omega)]; rfl)), hbw12⟩
                case measure => simp [intOf]; omega
            · obtain rfl : el = s.ba := by omega
              clear hel2
              cases R
              · go_wp2_with fail
                refine Hm1.out.mono ?_
                rintro e w10 ⟨rfl, hb10⟩
                have hbw10 := hbw.trans (hb10.mono hbw.size)
                have q10 := keepC hb10 b5 (Nat.lt_of_lt_of_le hz5 hbw.size)
                have r10 := keepC hb10 b6 (Nat.lt_of_lt_of_le hz6 hbw.size)
                have u10 := keepC hb10 bb (Nat.lt_of_lt_of_le hbb hbw.size)
                go_wp2_with fail
                refine (HDy1.out _ hbw10).mono ?_
                rintro e w11 ⟨rfl, hb11⟩
                have hbw11 := hbw10.trans (hb11.mono hbw10.size)
                have q11 := keepC hb11 b5 (Nat.lt_of_lt_of_le hz5 hbw10.size)
                have u11 := keepC hb11 bb (Nat.lt_of_lt_of_le hbb hbw10.size)
                go_wp2_with fail
                refine (HDg1.out _).mono ?_
                rintro e w12 ⟨rfl, hb12⟩
                have hbw12 := hbw11.trans (hb12.mono hbw11.size)
                have q12 := keepC hb12 b5 (Nat.lt_of_lt_of_le hz5 hbw11.size)
                have u12 := keepC hb12 bb (Nat.lt_of_lt_of_le hbb hbw11.size)
                go_wp2_with fail
                go_roundw
                case rel => exact ⟨k + 1, s.ba, false, by omega, by go_num, by first | rfl | exact int_eq (by first | omega | (split <;> omega)), by first | rfl | exact bool_eq (decide_eq_false (by omega)) | exact bool_eq (decide_eq_true (by omega)), Lib.hid (by rw [Hnv.out]; omega), Lib.hid (by rw [Hnr.out]; first | rfl | (rw [decide_eq_true (by omega)]; rfl) | (rw [decide_eq_false (by omega)]; rfl)), hbw12⟩
                case measure => simp [intOf]; omega
              · go_wp2_with fail
                refine Hm1.out.mono ?_
                rintro e w10 ⟨rfl, hb10⟩
                have hbw10 := hbw.trans (hb10.mono hbw.size)
                have q10 := keepC hb10 b5 (Nat.lt_of_lt_of_le hz5 hbw.size)
                have r10 := keepC hb10 b6 (Nat.lt_of_lt_of_le hz6 hbw.size)
                have u10 := keepC hb10 bb (Nat.lt_of_lt_of_le hbb hbw.size)
                go_wp2_with fail
                refine (HDy1.out _ hbw10).mono ?_
                rintro e w11 ⟨rfl, hb11⟩
                have hbw11 := hbw10.trans (hb11.mono hbw10.size)
                have q11 := keepC hb11 b5 (Nat.lt_of_lt_of_le hz5 hbw10.size)
                have u11 := keepC hb11 bb (Nat.lt_of_lt_of_le hbb hbw10.size)
                go_wp2_with fail
                refine (HDg1.out _).mono ?_
                rintro e w12 ⟨rfl, hb12⟩
                have hbw12 := hbw11.trans (hb12.mono hbw11.size)
                have q12 := keepC hb12 b5 (Nat.lt_of_lt_of_le hz5 hbw11.size)
                have u12 := keepC hb12 bb (Nat.lt_of_lt_of_le hbb hbw11.size)
                go_wp2_with fail
                go_roundw
                case rel => exact ⟨k + 1, s.ba, true, by omega, by go_num, by first | rfl | exact int_eq (by first | omega | (split <;> omega)), by first | rfl | exact bool_eq (decide_eq_false (by omega)) | exact bool_eq (decide_eq_true (by omega)), Lib.hid (by rw [Hnv.out]; omega), Lib.hid (by rw [Hnr.out]; first | rfl | (rw [decide_eq_true (by omega)]; rfl) | (rw [decide_eq_false (by omega)]; rfl)), hbw12⟩
                case measure => simp [intOf]; omega
        · obtain rfl : k = N := by omega
          have hRR : lasB s (shareI z.x) (drkL lat fr k) = R := by
            rw [hN0.out]
            have := HR.out
            rwa [List.take_of_length_le (by rw [HLn.out]; omega)] at this
          have hlasV : ∀ m, 1 ≤ m → m ≤ 100000000 → lasV (withBa s m) z.x lat fr k = batP s z.x lat fr k m := fun m a b => las_with hsv hzv hc a b
          have hlasS : lasV s z.x lat fr k = R := by rw [← hRR, lasV, okSC, hsv, hzv, hc]; rfl
          have hbR : batP s z.x lat fr k s.ba = R := hRR
          have hpR : panP s z.x lat fr k s.pa = R := hRR
          have hdm : ∀ d ∈ drkL lat fr (k : Int).toNat, 0 ≤ d ∧ d ≤ 1440 := fun d hd => drkL_mem hd
          have hbm : ∀ a b, 1 ≤ a → a ≤ b → b ≤ 100000000 → batP s z.x lat fr k a = true → batP s z.x lat fr k b = true := fun a b _ h _ hp => las_ba hdm h hp
          have hpm : ∀ a b, 0 ≤ a → a ≤ b → b ≤ 1000000 → panP s z.x lat fr k a = true → panP s z.x lat fr k b = true := fun a b _ h _ hp => las_pa ok.h1 hdm h hp
          have hbV : batV s z.x lat fr k = leaV (batP s z.x lat fr k) 1 100000000 := by rw [batV, okSC, hsv, hzv, hc]; rfl
          have hbK : batK s z.x lat fr k = leaK (batP s z.x lat fr k) 100000000 := by rw [batK, okSC, hsv, hzv, hc]; rfl
          have hpV : panV s z.x lat fr k = leaV (panP s z.x lat fr k) 0 1000000 := by rw [panV, okSC, hsv, hzv, hc]; rfl
          have hpK : panK s z.x lat fr k = leaK (panP s z.x lat fr k) 1000000 := by rw [panK, okSC, hsv, hzv, hc]; rfl
          have hbs := lea_spec (p := batP s z.x lat fr k) (show (1 : Int) ≤ 100000000 by omega)
          have hps := lea_spec (p := panP s z.x lat fr k) (show (0 : Int) ≤ 1000000 by omega)
          have hbi := fun h => lea_iff (n := s.ba) hbm (by omega) (by omega) h
          have hpi := fun h => lea_iff (n := s.pa) hpm ok.p1 ok.p2 h
          rw [hbR] at hbi
          rw [hpR] at hpi
          have hBt2 := HBt.out
          have hPn2 := HPn.out
          rw [hbV, hbK] at hBt2
          rw [hpV, hpK] at hPn2
          have hL1 := fun w1 hbb => HLs.out s w1 hbb
          rw [hlasS] at hL1
          have hL2 : ∀ m w1, 1 ≤ m → m ≤ 100000000 → Below w8.heap.size w8 w1 → Calls Tryz.prog 12 #[stV (withBa s m), chV z.x.k z.A z.n z.c z.x.l z.x.cs z.x.p, .int .i64 lat, .int .i64 fr, .int .i64 (k : Int)] w1 fun e w' => e = .returned (.bool (batP s z.x lat fr k m)) ∧ Below w1.heap.size w1 w' := fun m w1 a b hbb => by
            have := HLs.out (withBa s m) w1 hbb
            rwa [hlasV m a b] at this
          clear hbR hpR hbm hpm hbV hbK hpV hpK hlasV hlasS hRR HLs HBt HPn HLg HLm HLn HDy HDg HDm Hub Hgb Hv HR hN0 hdm
          generalize batP s z.x lat fr k = p at *
          generalize panP s z.x lat fr k = pp at *
          generalize leaV p 1 100000000 = V at *
          generalize leaK p 100000000 = K at *
          generalize leaV pp 0 1000000 = PV at *
          generalize leaK pp 1000000 = PK at *
          have HBt := Lib.hid hBt2; clear hBt2
          have HPn := Lib.hid hPn2; clear hPn2
          have HL1 := Lib.hid hL1; clear hL1
          have HL2 := Lib.hid hL2; clear hL2
          have Hbi := Lib.hid hbi; clear hbi
          have Hpi := Lib.hid hpi; clear hpi
          have Hps := Lib.hid hps; clear hps
          obtain ⟨a0, a1, a2, a3, a4, _⟩ := hp8.next hbw
          obtain ⟨c0, c1, c2, c3, c4, _, _, _, _, _⟩ := hc8.next hbw
          simp only [Nat.zero_add] at c0 c1 c2 c3 c4
          go_wp2_with fail
          refine (HL1.out _ hbw).mono ?_
          rintro e w10 ⟨rfl, hb10⟩
          have hbw10 := hbw.trans (hb10.mono hbw.size)
          clear a0 a1 a2 a3 a4 c0 c1 c2 c3 c4 hb10
          obtain ⟨a0, a1, a2, a3, a4, _⟩ := hp8.next hbw10
          obtain ⟨c0, c1, c2, c3, c4, _, _, _, _, _⟩ := hc8.next hbw10
          simp only [Nat.zero_add] at c0 c1 c2 c3 c4
          have hRn : (R != R) = false := by cases R <;> rfl
          as_aux_lemma =>
            go_wp2_with fail
            refine (HBt.out _ hbw10).mono ?_
            rintro e w11 ⟨rfl, hb11⟩
            have hbw11 := hbw10.trans (hb11.mono hbw10.size)
            clear a0 a1 a2 a3 a4 c0 c1 c2 c3 c4 hb11
            obtain ⟨a0, a1, a2, a3, a4, hz11⟩ := hp8.next hbw11
            obtain ⟨c0, c1, c2, c3, c4, hy11, _, _, _, _⟩ := hc8.next hbw11
            simp only [Nat.zero_add] at c0 c1 c2 c3 c4
            rcases hbs with ⟨hK0, hpv, hv1, hv2, hv3⟩ | ⟨hK3, _⟩
            case inr =>
              subst hK3
              go_wp2_with fail
              go_ret
              exact ⟨rfl, hb4.trans (hbw11.mono hb4.size)⟩
            have hbi := Hbi.out hK0
            subst hK0
            have hbx : Below w11.heap.size w11 (w11.alloc (stO (withBa s V) 29)) := by (repeat (first | (with_reducible assumption) | (with_reducible exact Below.refl _ _) | exact Nat.le_refl _ | exact Below.size (by with_reducible assumption) | (with_reducible refine Below.drew ?_) | (with_reducible refine below_drewN ?_ _) | (with_reducible refine Below.alloc ?_ ?_ _) | (with_reducible refine Below.setCell ?_ ?_ _) | (with_reducible refine le_alloc ?_ _) | (with_reducible refine le_set ?_ _ _) | (with_reducible refine le_drew ?_) | (with_reducible refine le_drewN ?_ _) | omega | (dsimp only; omega)))
            have hpx := stp_box w11 (withBa s V) 29
            have hfx : ∀ i, (w11.alloc (stO (withBa s V) 29)).frozen? ⟨w11.heap.size, i, none⟩ = false := fun i => by simp [stO]
            have hbw12 := hbw11.trans (hbx.mono hbw11.size)
            have Hbi2 := Lib.hid hbi; clear hbi
            have Hv3 := Lib.hid hv3; clear hv3
            have Hfx := Lib.hid hfx; clear hfx
            have hL3 := HL2.out V _ hv1 hv2 hbw12
            rw [hpv] at hL3
            have HL3 := Lib.hid hL3; clear hL3
            go_wp2_with fail
            refine HL3.out.mono ?_
            generalize w11.alloc (stO (withBa s V) 29) = w12 at *
            rintro e w13 ⟨rfl, hb13⟩
            obtain ⟨b23, hb23⟩ : ∃ b, w11.heap.size = b := ⟨_, rfl⟩
            rw [hb23] at hpx Hfx ⊢
            have hfz13 : ∀ i, w13.frozen? ⟨b23, i, none⟩ = false := fun i => (keepF hb13 b23 hpx.hb i).trans (Hfx.out i)
            have hpx13 := hpx.next hb13
            have hbw13 := hbw12.trans (hb13.mono hbw12.size)
            have Hfz13 := Lib.hid hfz13; clear hfz13
            have hb23le : w8.heap.size ≤ b23 := by rw [← hb23]; exact hbw11.size
            have hzx : b5 < b23 ∧ b6 < b23 := by omega
            clear a0 a1 a2 a3 a4 c0 c1 c2 c3 c4 hb13 hbx hpx Hfx HL3 hz11 hy11 hb23 hbw11 hbw10 hbw12
            obtain ⟨a0, a1, a2, a3, a4, hz11⟩ := hp8.next hbw13
            obtain ⟨c0, c1, c2, c3, c4, hy11, _, _, _, _⟩ := hc8.next hbw13
            simp only [Nat.zero_add] at c0 c1 c2 c3 c4
            cases R
            · as_aux_lemma =>
                have hVb : ¬ V ≤ s.ba := of_decide_eq_false Hbi2.out.symm
                go_wp2_with fail
                refine (HPn.out _ hbw13).mono ?_
                rintro e w14 ⟨rfl, hb14⟩
                have hfz14 : ∀ i, w14.frozen? ⟨b23, i, none⟩ = false := fun i => (keepF hb14 b23 hpx13.hb i).trans (Hfz13.out i)
                have hpx14 := hpx13.next hb14
                have hbw14 := hbw13.trans (hb14.mono hbw13.size)
                have Hfz14 := Lib.hid hfz14; clear hfz14
                clear a0 a1 a2 a3 a4 c0 c1 c2 c3 c4 hb14 hpx13 Hfz13 hz11 hy11
                obtain ⟨a0, a1, a2, a3, a4, hz11⟩ := hp8.next hbw14
                obtain ⟨c0, c1, c2, c3, c4, hy11, _, _, _, _⟩ := hc8.next hbw14
                simp only [Nat.zero_add] at c0 c1 c2 c3 c4
                have hwr : w8.heap.size ≤ b23 := hb23le
                have hfo := Hfz14.out 2
                obtain ⟨x0, x1, x2, x3, x4, hx14⟩ := id hpx14
                have hd5 : ¬ b5 = b23 := by omega
                have hd6 : ¬ b6 = b23 := by omega
                have hd5' : ¬ b23 = b5 := by omega
                have hd6' : ¬ b23 = b6 := by omega
                have hpy := stp_ba hpx14 (V - 1)
                have hbwS : Below w8.heap.size w8 (w14.setCell ⟨b23, 2, none⟩ (.int .i64 (V - 1))) := hbw14.setCell (p := ⟨b23, 2, none⟩) hwr _
                rcases Hps.out with ⟨hP0, hppv, hpp1, hpp2, _⟩ | ⟨hP3, _⟩
                · have hpi := Hpi.out hP0
                  subst hP0
                  have hPb : ¬ PV ≤ s.pa := of_decide_eq_false hpi.symm
                  clear hpi
                  by_cases hV1 : V = 1
                  · subst hV1
                    first
                      | (exfalso; omega)
                      | (go_wp2_with fail
                         go_ret
                         exact ⟨rfl, hb4.trans (hbwS.mono hb4.size)⟩)
                  · have hpf : p (V - 1) = false := by
                      rcases Hv3.out with h | h
                      · exact absurd h hV1
                      · exact h
                    have hL4 := HL2.out (V - 1) _ (by omega) (by omega) hbwS
                    rw [hpf] at hL4
                    have HL4 := Lib.hid hL4; clear hL4
                    go_wp2_with fail
                    refine HL4.out.mono ?_
                    rintro e w15 ⟨rfl, hb15⟩
                    go_wp2_with fail
                    go_ret
                    exact ⟨rfl, hb4.trans ((hbwS.trans (hb15.mono hbwS.size)).mono hb4.size)⟩
                · subst hP3
                  by_cases hV1 : V = 1
                  · subst hV1
                    first
                      | (exfalso; omega)
                      | (go_wp2_with fail
                         go_ret
                         exact ⟨rfl, hb4.trans (hbwS.mono hb4.size)⟩)
                  · have hpf : p (V - 1) = false := by
                      rcases Hv3.out with h | h
                      · exact absurd h hV1
                      · exact h
                    have hL4 := HL2.out (V - 1) _ (by omega) (by omega) hbwS
                    rw [hpf] at hL4
                    have HL4 := Lib.hid hL4; clear hL4
                    go_wp2_with fail
                    refine HL4.out.mono ?_
                    rintro e w15 ⟨rfl, hb15⟩
                    go_wp2_with fail
                    go_ret
                    exact ⟨rfl, hb4.trans ((hbwS.trans (hb15.mono hbwS.size)).mono hb4.size)⟩
            · as_aux_lemma =>
                have hVb : V ≤ s.ba := of_decide_eq_true Hbi2.out.symm
                go_wp2_with fail
                refine (HPn.out _ hbw13).mono ?_
                rintro e w14 ⟨rfl, hb14⟩
                have hfz14 : ∀ i, w14.frozen? ⟨b23, i, none⟩ = false := fun i => (keepF hb14 b23 hpx13.hb i).trans (Hfz13.out i)
                have hpx14 := hpx13.next hb14
                have hbw14 := hbw13.trans (hb14.mono hbw13.size)
                have Hfz14 := Lib.hid hfz14; clear hfz14
                clear a0 a1 a2 a3 a4 c0 c1 c2 c3 c4 hb14 hpx13 Hfz13 hz11 hy11
                obtain ⟨a0, a1, a2, a3, a4, hz11⟩ := hp8.next hbw14
                obtain ⟨c0, c1, c2, c3, c4, hy11, _, _, _, _⟩ := hc8.next hbw14
                simp only [Nat.zero_add] at c0 c1 c2 c3 c4
                have hwr : w8.heap.size ≤ b23 := hb23le
                have hfo := Hfz14.out 2
                obtain ⟨x0, x1, x2, x3, x4, hx14⟩ := id hpx14
                have hd5 : ¬ b5 = b23 := by omega
                have hd6 : ¬ b6 = b23 := by omega
                have hd5' : ¬ b23 = b5 := by omega
                have hd6' : ¬ b23 = b6 := by omega
                have hpy := stp_ba hpx14 (V - 1)
                have hbwS : Below w8.heap.size w8 (w14.setCell ⟨b23, 2, none⟩ (.int .i64 (V - 1))) := hbw14.setCell (p := ⟨b23, 2, none⟩) hwr _
                rcases Hps.out with ⟨hP0, hppv, hpp1, hpp2, _⟩ | ⟨hP3, _⟩
                · have hpi := Hpi.out hP0
                  subst hP0
                  have hPb : PV ≤ s.pa := of_decide_eq_true hpi.symm
                  clear hpi
                  by_cases hV1 : V = 1
                  · subst hV1
                    first
                      | (exfalso; omega)
                      | (go_wp2_with fail
                         go_ret
                         exact ⟨rfl, hb4.trans (hbwS.mono hb4.size)⟩)
                  · have hpf : p (V - 1) = false := by
                      rcases Hv3.out with h | h
                      · exact absurd h hV1
                      · exact h
                    have hL4 := HL2.out (V - 1) _ (by omega) (by omega) hbwS
                    rw [hpf] at hL4
                    have HL4 := Lib.hid hL4; clear hL4
                    go_wp2_with fail
                    refine HL4.out.mono ?_
                    rintro e w15 ⟨rfl, hb15⟩
                    go_wp2_with fail
                    go_ret
                    exact ⟨rfl, hb4.trans ((hbwS.trans (hb15.mono hbwS.size)).mono hb4.size)⟩
                · subst hP3
                  by_cases hV1 : V = 1
                  · subst hV1
                    first
                      | (exfalso; omega)
                      | (go_wp2_with fail
                         go_ret
                         exact ⟨rfl, hb4.trans (hbwS.mono hb4.size)⟩)
                  · have hpf : p (V - 1) = false := by
                      rcases Hv3.out with h | h
                      · exact absurd h hV1
                      · exact h
                    have hL4 := HL2.out (V - 1) _ (by omega) (by omega) hbwS
                    rw [hpf] at hL4
                    have HL4 := Lib.hid hL4; clear hL4
                    go_wp2_with fail
                    refine HL4.out.mono ?_
                    rintro e w15 ⟨rfl, hb15⟩
                    go_wp2_with fail
                    go_ret
                    exact ⟨rfl, hb4.trans ((hbwS.trans (hb15.mono hbwS.size)).mono hb4.size)⟩
end Go.Proofs.YtpgcgmbjlecnpaaGreat
