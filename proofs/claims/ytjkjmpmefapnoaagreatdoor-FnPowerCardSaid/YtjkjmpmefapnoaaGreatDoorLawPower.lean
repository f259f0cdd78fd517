
/- The walk of the law FnPower. -/
import Derived.Test.YtjkjmpmefapnoaaGreatDoorPwSta
import Derived.Test.YtjkjmpmefapnoaaGreatDoorMatG
import Derived.Test.YtjkjmpmefapnoaaGreatDoorDrG
import Derived.IntWalk
namespace Go.Proofs.YtjkjmpmefapnoaaGreatDoor
open Go.RowKit
set_option maxRecDepth 100000 in
set_option maxHeartbeats 4000000 in
theorem lawPower_c (A : Option Addr) (n c : Nat) (bs : List Int) (A' : Option Addr) (n' c' : Nat) (bs' : List Int) (w : World) (hx : Sl w w.heap.size 1 A n (bs.flatMap u8C)) (hb : ∀ x ∈ bs, 0 ≤ x ∧ x ≤ 255) (hn : n ≤ maxLen) (hx' : Sl w w.heap.size 1 A' n' (bs'.flatMap u8C)) (hb' : ∀ x ∈ bs', 0 ≤ x ∧ x ≤ 255) (hn' : n' ≤ maxLen) (hE : Env w) :
    Calls Tryz.prog 3 #[.slice A n c, .slice A' n' c'] w fun e w' => e = .returned (.bool true) ∧ Below w.heap.size w w' := by
  have hlong := r8Long_c A A' n c n' c' w
  cases hq : (decide (1048576 < n) || decide (1048576 < n'))
  case true =>
    rw [hq] at hlong
    have HLong := Lib.hid hlong; clear hlong
    go_enter Tryz.func3, Tryz.ntmps3
    go_wp2_with fail
    refine HLong.out.mono ?_
    rintro e w1 ⟨rfl, rfl⟩
    go_wp2_with fail
    go_ret
    exact ⟨rfl, Below.refl _ _⟩
  rw [hq] at hlong
  have hsz : n ≤ 1048576 ∧ n' ≤ 1048576 := by
    simp only [Bool.or_eq_false_iff, decide_eq_false_iff_not] at hq; omega
  obtain ⟨_, hsz'⟩ := hsz
  clear hq
  have hS1 : ∀ w1, w = w1 → _ := fun w1 e => e ▸ r8Sta_c A n c bs w hx hb hn
  have hC1 : ∀ w1, Below w.heap.size w w1 → _ := fun w1 hbb => r8Char_c A' n' c' bs' w1 (hx'.next hbb) hb' hn'
  have hA0 : ∀ w1, Below w.heap.size w w1 → Calls Tryz.prog 8 #[.slice A' n' c', .int .i64 0, .int .i64 1440] w1 _ := fun w1 hbb => r8Wide_c A' n' c' w1.heap.size bs' 0 1440 w1 (hx'.next hbb) hb' hsz' (by omega) (by omega) (by omega)
  have hA2 : ∀ w1, Below w.heap.size w w1 → Calls Tryz.prog 8 #[.slice A' n' c', .int .i64 2, .int .i64 65536] w1 _ := fun w1 hbb => r8Wide_c A' n' c' w1.heap.size bs' 2 65536 w1 (hx'.next hbb) hb' hsz' (by omega) (by omega) (by omega)
  have HLong := Lib.hid hlong; clear hlong
  have HS1 := Lib.hid hS1; clear hS1
  have HC1 := Lib.hid hC1; clear hC1
  have HA0 := Lib.hid hA0; clear hA0
  have HA2 := Lib.hid hA2; clear hA2
  have HE := Lib.hid hE; clear hE
  clear hx hb hn hx' hb' hn' hsz'
  go_enter Tryz.func3, Tryz.ntmps3
  go_wp2_with fail
  refine HLong.out.mono ?_
  rintro e w1 ⟨rfl, rfl⟩
  go_wp2_with fail
  refine (HS1.out _ rfl).mono ?_
  rintro e w1 ⟨s, rfl, hsv, hb1⟩
  have hp1 := stp_box w1 s 25
  have hb2 : Below w.heap.size w (w1.alloc (stO s 25)) := by (repeat (first | (with_reducible assumption) | (with_reducible exact Below.refl _ _) | exact Nat.le_refl _ | exact Below.size (by with_reducible assumption) | (with_reducible refine Below.drew ?_) | (with_reducible refine below_drewN ?_ _) | (with_reducible refine Below.alloc ?_ ?_ _) | (with_reducible refine Below.setCell ?_ ?_ _) | (with_reducible refine le_alloc ?_ _) | (with_reducible refine le_set ?_ _ _) | (with_reducible refine le_drew ?_) | (with_reducible refine le_drewN ?_ _) | omega | (dsimp only; omega)))
  have hz1 : w.heap.size ≤ w1.heap.size := hb1.size
  obtain ⟨b5, hb5⟩ : ∃ b, w1.heap.size = b := ⟨_, rfl⟩
  clear hb1
  go_wp2_with fail
  rw [hb5] at hp1
  try rw [hb5]
  generalize w1.alloc (.cells #[.int .i64 s.la, .int .i64 s.sb, .int .i64 s.ba, .int .i64 s.pa, .int .i64 s.sh] 25) = w2 at *
  refine (HC1.out _ hb2).mono ?_
  rintro e w3 ⟨z, rfl, hzv, hzo, hb3⟩
  have hsh := shape_sizes (valid_shape hzv)
  have zn : z.n ≤ 1048576 := by show z.x.gs.length ≤ 1048576; omega
  have zl : z.x.l.size ≤ 1048576 := by omega
  have zc : z.x.cs.size ≤ 1048576 := by omega
  have hcb := chp_box (c := z.c) 29 (Sl.of_own hzo) zn zl zc
  have hb3x : Below w3.heap.size w3 (w3.alloc (.cells #[.int .i64 z.x.k, .slice z.A z.n z.c, .string z.x.l, .string z.x.cs, .int .i64 z.x.p] 29)) := by (repeat (first | (with_reducible assumption) | (with_reducible exact Below.refl _ _) | exact Nat.le_refl _ | exact Below.size (by with_reducible assumption) | (with_reducible refine Below.drew ?_) | (with_reducible refine below_drewN ?_ _) | (with_reducible refine Below.alloc ?_ ?_ _) | (with_reducible refine Below.setCell ?_ ?_ _) | (with_reducible refine le_alloc ?_ _) | (with_reducible refine le_set ?_ _ _) | (with_reducible refine le_drew ?_) | (with_reducible refine le_drewN ?_ _) | omega | (dsimp only; omega)))
  have hp4 := (hp1.next hb3).next hb3x
  have hb4 := (hb2.trans (hb3.mono hb2.size)).trans (hb3x.mono (hb2.trans (hb3.mono hb2.size)).size)
  obtain ⟨b6, hb6⟩ : ∃ b, w3.heap.size = b := ⟨_, rfl⟩
  clear hsh hzo hb3 hb3x hp1 hb2
  go_wp2_with fail
  rw [hb6] at hcb
  try rw [hb6]
  generalize w3.alloc (.cells #[.int .i64 z.x.k, .slice z.A z.n z.c, .string z.x.l, .string z.x.cs, .int .i64 z.x.p] 29) = w4 at *
  clear hb5 hb6 hz1 HS1 HC1 HLong
  as_aux_lemma =>
    refine (HA0.out _ hb4).mono ?_
    rintro e w5 ⟨d, rfl, d0, d1, rfl⟩
    have ok := stB_ok hsv
    obtain ⟨sh1, sh2⟩ := share_bd hzv
    have sh0 := share_one hzv
    have slz := hcb.sl
    have hDy : ∀ (d : Int) w1, 0 ≤ d ∧ d ≤ 1440 → Below w4.heap.size w4 w1 → Calls Tryz.prog 9 #[stV s, chV z.x.k z.A z.n z.c z.x.l z.x.cs z.x.p, .int .i64 d] w1 fun e w' => e = .returned (.tuple #[.int .i64 (useI s (shareI z.x) d), .int .i64 0]) ∧ Below w1.heap.size w1 w' := fun d w1 hd hbb => by
      have := implDay_c s z.A z.n z.c z.x w1 (slz.next hbb) zn zl zc d
      have hi : inB d 0 1440 = true := inB_iff.2 hd
      rwa [show dayV s z.x d = useI s (shareI z.x) d by rw [dayV, okSC, hsv, hzv, hi]; rfl, show dayK s z.x d = 0 by rw [dayK, okSC, hsv, hzv, hi]; rfl] at this
    have hDg : ∀ (d : Int) w1, 0 ≤ d ∧ d ≤ 1440 → Below w4.heap.size w4 w1 → Calls Tryz.prog 10 #[stV s, .int .i64 d] w1 fun e w' => e = .returned (.tuple #[.int .i64 (gainI s d), .int .i64 0]) ∧ Below w1.heap.size w1 w' := fun d w1 hd _ => implGain_c s d w1 hsv hd.1 hd.2
    have hSh : ∀ w1, Below w4.heap.size w4 w1 → Calls Tryz.prog 11 #[chV z.x.k z.A z.n z.c z.x.l z.x.cs z.x.p] w1 fun e w' => e = .returned (.tuple #[.int .i64 (shareI z.x), .int .i64 0]) ∧ Below w1.heap.size w1 w' := fun w1 hbb => by
      have := implShare_c z.A z.n z.c z.x w1 (slz.next hbb) zn zl zc
      rwa [hzv] at this
    have hNx : ∀ (l : Int) w1, 0 ≤ l ∧ l ≤ s.ba → Below w4.heap.size w4 w1 → Calls Tryz.prog 12 #[stV s, chV z.x.k z.A z.n z.c z.x.l z.x.cs z.x.p, .int .i64 l, .int .i64 d] w1 fun e w' => e = .returned (.tuple #[.int .i64 (max 0 (min s.ba (l + gainI s d - useI s (shareI z.x) d))), .int .i64 0]) ∧ Below w1.heap.size w1 w' := fun l w1 hl hbb => by
      have := implNext_c s z.A z.n z.c z.x w1 (slz.next hbb) zn zl zc l d
      have hi : inB d 0 1440 = true := inB_iff.2 ⟨d0, by omega⟩
      have hi2 : inB l 0 s.ba = true := inB_iff.2 hl
      rwa [show nexV s z.x l d = max 0 (min s.ba (l + gainI s d - useI s (shareI z.x) d)) by rw [nexV, okSC, hsv, hzv, hi, hi2]; rfl, show nexK s z.x l d = 0 by rw [nexK, okSC, hsv, hzv, hi, hi2]; rfl] at this
    have hAu : ∀ w1, Below w4.heap.size w4 w1 → Calls Tryz.prog 13 #[stV s, chV z.x.k z.A z.n z.c z.x.l z.x.cs z.x.p, .int .i64 d] w1 fun e w' => e = .returned (.tuple #[.int .i64 (s.ba / useI s (shareI z.x) d), .int .i64 0]) ∧ Below w1.heap.size w1 w' := fun w1 hbb => by
      have := implAut_c s z.A z.n z.c z.x w1 (slz.next hbb) zn zl zc d
      have hi : inB d 0 1440 = true := inB_iff.2 ⟨d0, by omega⟩
      rwa [show autV s z.x d = s.ba / useI s (shareI z.x) d by rw [autV, okSC, hsv, hzv, hi]; rfl, show dayK s z.x d = 0 by rw [dayK, okSC, hsv, hzv, hi]; rfl] at this
    have hTx : ∀ w1, Below w4.heap.size w4 w1 → Calls Tryz.prog 15 #[stV s] w1 fun e w' => e = .returned (.string (listT (stXs s))) ∧ Below w1.heap.size w1 w' := fun w1 hbb => stationText_c s w1 hsv ((HE.out.next (hb4.trans (hbb.mono hb4.size))).tab)
    have hRd : ∀ w1, Below w4.heap.size w4 w1 → Calls Tryz.prog 14 #[.string (listT (stXs s))] w1 fun e w' => e = .returned (.tuple #[stV s, .bool true]) ∧ Below w1.heap.size w1 w' := fun w1 hbb => readStation_c s w1 hsv (HE.out.next (hb4.trans (hbb.mono hb4.size)))
    have hU0 := use_mono (d := d) ok sh1
    have hG0 := gain_anti (d := d) ok
    have hU1 := (use_bd ok sh1 sh2 (dark := d) d0 (by omega)).2.2
    have hG1 := (gain_bd ok (dark := d) d0 (by omega)).2.2
    have hb1 := ok.b1
    have hb2 := ok.b2
    have hau := auto_bd (ba := s.ba) (a := useI s (shareI z.x) d) (by omega) hU1.1
    have hD0 := fun w1 => hDy d w1 ⟨d0, by omega⟩
    have hD1 := fun w1 => hDy (d + 1) w1 ⟨by omega, by omega⟩
    have hg0 := fun w1 => hDg d w1 ⟨d0, by omega⟩
    have hg1 := fun w1 => hDg (d + 1) w1 ⟨by omega, by omega⟩
    obtain ⟨U, hU⟩ : ∃ U, useI s (shareI z.x) d = U := ⟨_, rfl⟩
    obtain ⟨U', hU'⟩ : ∃ U, useI s (shareI z.x) (d + 1) = U := ⟨_, rfl⟩
    obtain ⟨G, hG⟩ : ∃ G, gainI s d = G := ⟨_, rfl⟩
    obtain ⟨G', hG'⟩ : ∃ G, gainI s (d + 1) = G := ⟨_, rfl⟩
    obtain ⟨Q, hQ⟩ : ∃ Q, s.ba / U = Q := ⟨_, rfl⟩
    obtain ⟨SH, hSH⟩ : ∃ SH, shareI z.x = SH := ⟨_, rfl⟩
    obtain ⟨T, hT⟩ : ∃ T, listT (stXs s) = T := ⟨_, rfl⟩
    rw [hU] at hU0 hU1 hau hD0 hAu
    simp only [hU] at hNx
    rw [hU'] at hU0 hD1
    rw [hG] at hG0 hG1 hg0
    simp only [hG] at hNx
    rw [hG'] at hG0 hg1
    rw [hQ] at hau hAu
    rw [hSH] at hSh sh0 sh1 sh2
    rw [hT] at hTx hRd
    clear hU hU' hG hG' hQ hSH hT hDy hDg ok hsv hzv
    have HD0 := Lib.hid hD0; clear hD0
    have HD1 := Lib.hid hD1; clear hD1
    have HG0 := Lib.hid hg0; clear hg0
    have HG1 := Lib.hid hg1; clear hg1
    have HSh := Lib.hid hSh; clear hSh
    have HNx := Lib.hid hNx; clear hNx
    have HAu := Lib.hid hAu; clear hAu
    have HTx := Lib.hid hTx; clear hTx
    have HRd := Lib.hid hRd; clear hRd
    have hbw4 := Below.refl w4.heap.size w4
    obtain ⟨a0, a1, a2, a3, a4, hy4⟩ := id hp4
    obtain ⟨c0, c1, c2, c3, c4, hz4, _, _, _, _⟩ := id hcb
    simp only [Nat.zero_add] at c0 c1 c2 c3 c4
    clear slz
    go_wp2_with fail
    refine (HD0.out _ hbw4).mono ?_
    rintro e w5 ⟨rfl, hb5⟩
    have hbw5 := hbw4.trans (hb5.mono hbw4.size)
    clear a0 a1 a2 a3 a4 c0 c1 c2 c3 c4
    obtain ⟨a0, a1, a2, a3, a4, hy5⟩ := hp4.next hbw5
    obtain ⟨c0, c1, c2, c3, c4, hz5, _, _, _, _⟩ := hcb.next hbw5
    simp only [Nat.zero_add] at c0 c1 c2 c3 c4
    go_wp2_with fail
    refine (HD1.out _ hbw5).mono ?_
    rintro e w6 ⟨rfl, hb6⟩
    have hbw6 := hbw5.trans (hb6.mono hbw5.size)
    clear a0 a1 a2 a3 a4 c0 c1 c2 c3 c4
    obtain ⟨a0, a1, a2, a3, a4, hy6⟩ := hp4.next hbw6
    obtain ⟨c0, c1, c2, c3, c4, hz6, _, _, _, _⟩ := hcb.next hbw6
    simp only [Nat.zero_add] at c0 c1 c2 c3 c4
    go_wp2_with fail
    refine (HG0.out _ hbw6).mono ?_
    rintro e w7 ⟨rfl, hb7⟩
    have hbw7 := hbw6.trans (hb7.mono hbw6.size)
    clear a0 a1 a2 a3 a4 c0 c1 c2 c3 c4
    obtain ⟨a0, a1, a2, a3, a4, hy7⟩ := hp4.next hbw7
    obtain ⟨c0, c1, c2, c3, c4, hz7, _, _, _, _⟩ := hcb.next hbw7
    simp only [Nat.zero_add] at c0 c1 c2 c3 c4
    go_wp2_with fail
    refine (HG1.out _ hbw7).mono ?_
    rintro e w8 ⟨rfl, hb8⟩
    have hbw8 := hbw7.trans (hb8.mono hbw7.size)
    clear a0 a1 a2 a3 a4 c0 c1 c2 c3 c4
    obtain ⟨a0, a1, a2, a3, a4, hy8⟩ := hp4.next hbw8
    obtain ⟨c0, c1, c2, c3, c4, hz8, _, _, _, _⟩ := hcb.next hbw8
    simp only [Nat.zero_add] at c0 c1 c2 c3 c4
    go_wp2_with fail
    refine (HSh.out _ hbw8).mono ?_
    rintro e w9 ⟨rfl, hb9⟩
    have hbw9 := hbw8.trans (hb9.mono hbw8.size)
    clear a0 a1 a2 a3 a4 c0 c1 c2 c3 c4
    obtain ⟨a0, a1, a2, a3, a4, hy9⟩ := hp4.next hbw9
    obtain ⟨c0, c1, c2, c3, c4, hz9, _, _, _, _⟩ := hcb.next hbw9
    simp only [Nat.zero_add] at c0 c1 c2 c3 c4
    have q1 : ¬ U' < U := by omega
    have q2 : ¬ G' > G := by omega
    have q3 : ¬ SH < 1 := by omega
    have q4 : ¬ SH > 1000000 := by omega
    have q5 : ¬ U < 24 := by omega
    have hba1 : ¬ s.ba + 1 = 0 := by omega
    have hwb : IntKind.i64.wrap (s.ba + 1) = s.ba + 1 := IntWalk.i64_in _ (by omega)
    have e9 : ∀ {w' : World}, Below w9.heap.size w9 w' → (Below w9.heap.size w9 w' ∧ ∀ i, w'.cell? ⟨b5, i, none⟩ = w9.cell? ⟨b5, i, none⟩) := fun hbb => ⟨hbb, keepC hbb _ hy9⟩
    have hb9 : ∀ {w' : World}, Below w9.heap.size w9 w' → Below w.heap.size w w' := fun hbb => hb4.trans ((hbw9.trans (hbb.mono hbw9.size)).mono hb4.size)
    have hbw10 : Below w4.heap.size w4 w9.drew := hbw9.drew
    go_wp2_with fail
    refine wp_region_held_drew (S := fun w' => Below w9.heap.size w9 w' ∧ ∀ i, w'.cell? ⟨b5, i, none⟩ = w9.cell? ⟨b5, i, none⟩) (by kernel_rfl) (e9 (Below.refl _ _).drew) (fun hHeld => ?_)
    (first
      | (refine wpAnyH_take (i := 0) (v := ?_) rfl (by kernel_rfl) (by kernel_rfl) (by kernel_rfl) (fun _ _ _ h => h) (Or.inl ⟨by rfl, ?_⟩) (by assumption) ?_
         rotate_left
         focus (intro wq hSq; (try dsimp only at hSq); go_simp; (try (with_reducible rfl)); done))
      | (refine wpAnyH_take (i := 0) (v := undef) rfl (by kernel_rfl) (by kernel_rfl) (by kernel_rfl) (fun _ _ _ h => h) (Or.inr ⟨by rfl, rfl⟩) (by assumption) ?_)
      | fail "take 0")
    try simp only [Act.put, List.setIfInBounds_toArray, List.set_cons_zero, List.set_cons_succ, List.getElem_toArray, List.getElem_cons_zero]
    (first
      | (refine wpAnyH_take (i := 2) (v := ?_) rfl (by kernel_rfl) (by kernel_rfl) (by kernel_rfl) (fun _ _ _ h => h) (Or.inl ⟨by rfl, ?_⟩) (by assumption) ?_
         rotate_left
         focus (intro wq hSq; (try dsimp only at hSq); go_simp; (try (with_reducible rfl)); done))
      | (refine wpAnyH_take (i := 2) (v := undef) rfl (by kernel_rfl) (by kernel_rfl) (by kernel_rfl) (fun _ _ _ h => h) (Or.inr ⟨by rfl, rfl⟩) (by assumption) ?_)
      | fail "take 2")
    try simp only [Act.put, List.setIfInBounds_toArray, List.set_cons_zero, List.set_cons_succ, List.getElem_toArray, List.getElem_cons_zero, List.getElem_cons_succ]
    (first
      | (refine wpAnyH_take (i := 3) (v := ?_) rfl (by kernel_rfl) (by kernel_rfl) (by kernel_rfl) (fun _ _ _ h => h) (Or.inl ⟨by rfl, ?_⟩) (by assumption) ?_
         rotate_left
         focus (intro wq hSq; (try dsimp only at hSq); go_simp; (try (with_reducible rfl)); done))
      | (refine wpAnyH_take (i := 3) (v := undef) rfl (by kernel_rfl) (by kernel_rfl) (by kernel_rfl) (fun _ _ _ h => h) (Or.inr ⟨by rfl, rfl⟩) (by assumption) ?_)
      | fail "take 3")
    try simp only [Act.put, List.setIfInBounds_toArray, List.set_cons_zero, List.set_cons_succ, List.getElem_toArray, List.getElem_cons_zero, List.getElem_cons_succ]
    (first
      | (refine wpAnyH_take (i := 4) (v := ?_) rfl (by kernel_rfl) (by kernel_rfl) (by kernel_rfl) (fun _ _ _ h => h) (Or.inl ⟨by rfl, ?_⟩) (by assumption) ?_
         rotate_left
         focus (intro wq hSq; (try dsimp only at hSq); go_simp; (try (with_reducible rfl)); done))
      | (refine wpAnyH_take (i := 4) (v := undef) rfl (by kernel_rfl) (by kernel_rfl) (by kernel_rfl) (fun _ _ _ h => h) (Or.inr ⟨by rfl, rfl⟩) (by assumption) ?_)
      | fail "take 4")
    try simp only [Act.put, List.setIfInBounds_toArray, List.set_cons_zero, List.set_cons_succ, List.getElem_toArray, List.getElem_cons_zero, List.getElem_cons_succ]
    refine wpAnyH_ready (rs := [1]) (by kernel_rfl) (by simp) ?_
    refine AllReadyH.cons (o := _) rfl (fun K hK => ?_) AllReadyH.nil
    go_simp
    refine (HA2.out _ (hb9 (Below.refl _ _).drew)).mono ?_; rintro e w11 ⟨r, rfl, r0, r1, rfl⟩
    refine hK.out _ _ ?_ (fun hHeld => ?_)
    · exact e9 (Below.refl _ _).drew
    clear hK K
    try simp only [Act.put, List.setIfInBounds_toArray, List.set_cons_zero, List.set_cons_succ, List.getElem_toArray, List.getElem_cons_zero, List.getElem_cons_succ]
    have hL : 0 ≤ r.tmod (s.ba + 1) ∧ r.tmod (s.ba + 1) ≤ s.ba := by
      rw [Int.tmod_eq_emod_of_nonneg r0]
      have h1 := Int.emod_nonneg r hba1
      have h2 := Int.emod_lt_of_pos r (show 0 < s.ba + 1 by omega)
      omega
    obtain ⟨L, hLe⟩ : ∃ L, r.tmod (s.ba + 1) = L := ⟨_, rfl⟩
    rw [hLe] at hL
    (first
      | (refine wpAnyH_take (i := 5) (v := ?_) rfl (by kernel_rfl) (by kernel_rfl) (by kernel_rfl) (fun _ _ _ h => h) (Or.inl ⟨by rfl, ?_⟩) (by assumption) ?_
         rotate_left
         focus (intro wq hSq; (try dsimp only at hSq); go_simp; (try (with_reducible rfl)); done))
      | (refine wpAnyH_take (i := 5) (v := undef) rfl (by kernel_rfl) (by kernel_rfl) (by kernel_rfl) (fun _ _ _ h => h) (Or.inr ⟨by rfl, rfl⟩) (by assumption) ?_)
      | fail "take 5")
    try simp only [Act.put, List.setIfInBounds_toArray, List.set_cons_zero, List.set_cons_succ, List.getElem_toArray, List.getElem_cons_zero, List.getElem_cons_succ]
    (first
      | (refine wpAnyH_take (i := 6) (v := ?_) rfl (by kernel_rfl) (by kernel_rfl) (by kernel_rfl) (fun _ _ _ h => h) (Or.inl ⟨by rfl, ?_⟩) (by assumption) ?_
         rotate_left
         focus (intro wq hSq; (try dsimp only at hSq); go_simp; (try (with_reducible rfl)); done))
      | (refine wpAnyH_take (i := 6) (v := undef) rfl (by kernel_rfl) (by kernel_rfl) (by kernel_rfl) (fun _ _ _ h => h) (Or.inr ⟨by rfl, rfl⟩) (by assumption) ?_)
      | fail "take 6")
    try simp only [Act.put, List.setIfInBounds_toArray, List.set_cons_zero, List.set_cons_succ, List.getElem_toArray, List.getElem_cons_zero, List.getElem_cons_succ]
    refine wpAnyH_done (by kernel_rfl) ?_ _
    clear hHeld hwb e9 hb9 HA2 q1 q2 q3 q4 q5 r0 r1 hba1 hLe
    generalize w9.drew = w10 at *
    try clear hHeld
    clear a0 a1 a2 a3 a4 c0 c1 c2 c3 c4
    obtain ⟨a0, a1, a2, a3, a4, hy10⟩ := hp4.next hbw10
    obtain ⟨c0, c1, c2, c3, c4, hz10, _, _, _, _⟩ := hcb.next hbw10
    simp only [Nat.zero_add] at c0 c1 c2 c3 c4
    have hNy := fun w1 hbb => HNx.out L w1 hL hbb
    obtain ⟨M, hM⟩ : ∃ M, max 0 (min s.ba (L + G - U)) = M := ⟨_, rfl⟩
    rw [hM] at hNy
    have HM := Lib.hid hM; clear hM
    have HNy := Lib.hid hNy; clear hNy
    clear HNx
    go_wp2_with fail
    refine (HNy.out _ hbw10).mono ?_
    rintro e w11 ⟨rfl, hb11⟩
    have hbw11 := hbw10.trans (hb11.mono hbw10.size)
    clear a0 a1 a2 a3 a4 c0 c1 c2 c3 c4
    obtain ⟨a0, a1, a2, a3, a4, hy11⟩ := hp4.next hbw11
    obtain ⟨c0, c1, c2, c3, c4, hz11, _, _, _, _⟩ := hcb.next hbw11
    simp only [Nat.zero_add] at c0 c1 c2 c3 c4
    go_wp2_with fail
    refine (HAu.out _ hbw11).mono ?_
    rintro e w12 ⟨rfl, hb12⟩
    have hbw12 := hbw11.trans (hb12.mono hbw11.size)
    clear a0 a1 a2 a3 a4 c0 c1 c2 c3 c4
    obtain ⟨a0, a1, a2, a3, a4, hy12⟩ := hp4.next hbw12
    obtain ⟨c0, c1, c2, c3, c4, hz12, _, _, _, _⟩ := hcb.next hbw12
    simp only [Nat.zero_add] at c0 c1 c2 c3 c4
    go_wp2_with fail
    refine (HTx.out _ hbw12).mono ?_
    rintro e w13 ⟨rfl, hb13⟩
    have hbw13 := hbw12.trans (hb13.mono hbw12.size)
    clear a0 a1 a2 a3 a4 c0 c1 c2 c3 c4
    obtain ⟨a0, a1, a2, a3, a4, hy13⟩ := hp4.next hbw13
    obtain ⟨c0, c1, c2, c3, c4, hz13, _, _, _, _⟩ := hcb.next hbw13
    simp only [Nat.zero_add] at c0 c1 c2 c3 c4
    go_wp2_with fail
    refine (HRd.out _ hbw13).mono ?_
    rintro e w14 ⟨rfl, hb14⟩
    have hbw14 := hbw13.trans (hb14.mono hbw13.size)
    clear a0 a1 a2 a3 a4 c0 c1 c2 c3 c4
    obtain ⟨a0, a1, a2, a3, a4, hy14⟩ := hp4.next hbw14
    obtain ⟨c0, c1, c2, c3, c4, hz14, _, _, _, _⟩ := hcb.next hbw14
    simp only [Nat.zero_add] at c0 c1 c2 c3 c4
    have p1 : ¬ Q < 0 := by omega
    have p2 : ¬ Q > 100000000 := by omega
    have p3 : ¬ Q * U > s.ba := by omega
    have p4 : ¬ (Q + 1) * U ≤ s.ba := by omega
    have hz14 := hbw14.size
    have hxy : ¬ w14.heap.size = b5 := by omega
    have hxz : ¬ w14.heap.size = b6 := by omega
    have hqu : 0 ≤ Q * U := Int.mul_nonneg hau.1 (by omega)
    have hqv : (Q + 1) * U = Q * U + U := by rw [Int.add_mul, Int.one_mul]
    have hw1 : wrap64 (Q * U) = Q * U := IntWalk.wrap64_in _ (by omega)
    have hw2 : wrap64 ((Q + 1) * U) = (Q + 1) * U := IntWalk.wrap64_in _ (by omega)
    have hbf : Below w.heap.size w (w14.alloc (.cells #[.int .i64 s.la, .int .i64 s.sb, .int .i64 s.ba, .int .i64 s.pa, .int .i64 s.sh] 25)) := hb4.trans ((hbw14.alloc hbw14.size _).mono hb4.size)
    clear hqv hau
    have hMM : (M == max 0 (min s.ba (L + G - U))) = true := by rw [HM.out]; simp
    clear HM
    go_wp2_with fail
    go_ret
    exact ⟨rfl, hbf⟩
end Go.Proofs.YtjkjmpmefapnoaaGreatDoor
