/- The search for the best voyage: the reference's l27Run, l27Order, BestVoyage. -/
import Derived.Test.YtgkdjohiclhcoaaVoyF2
import Derived.Test.YtgkdjohiclhcoaaVoyB
namespace Go.Proofs.Ytgkdjohiclhcoaa
open Go.RowKit
theorem rout_eq (s : Sh) (zs : List Wk) (t x y bu : Int) : routK s zs ⟨t, x, y⟩ bu = bif !(shB s && (ptB x y && worksB zs)) then 1 else bif !inB t 0 4320 then 2 else bif !inB bu 1 20000 then 2 else match dfs s zs ⟨t, x, y⟩ bu.toNat [] (bu.toNat, none) with | none => 5 | some _ => 0 := by
  rw [routK, askK, ordB_nil]
  cases shB s && (ptB x y && worksB zs)
  · rfl
  · cases inB t 0 4320
    · rfl
    · rfl
def RunAns (bs : Nat) (s : Sh) (x y t : Int) (AZ : Option Addr) (N cZ : Nat) (zs : List Wk) (bu : Int) (K : Int) (w : World) (e : Ending) (w' : World) : Prop :=
  ∃ p, e = .returned (.tuple #[.pointer p, .int .i64 K]) ∧ Below w.heap.size w w' ∧ (K = 0 → ∃ X l' b' D Ao co Ac cc, p = some ⟨X, 0, none⟩ ∧ w.heap.size ≤ X ∧ dfs s zs ⟨t, x, y⟩ bu.toNat [] (bu.toNat, none) = some (l', b') ∧ SX w' X bs s x y t AZ N cZ zs bu [] 0 D b' Ao co Ac cc)
/-- The best so far holds all works. -/
def BL (n : Nat) (b : BSt) : Prop := ∀ e bs, b = some (e, bs) → bs.length = n
theorem BL.upd {s : Sh} {zs : List Wk} {p : VSt} {ks : List Int} {b : BSt} (h : BL zs.length b) : BL zs.length (updB s zs p ks b) := by
  unfold updB
  cases hc : decide (ks.length = zs.length) && lessE b (endV s zs p ks)
  · exact h
  · intro e bs he
    simp only [cond_true, Option.some.injEq, Prod.mk.injEq] at he
    rw [← he.2]
    exact of_decide_eq_true (Bool.and_eq_true_iff.1 hc).1
theorem goD_len {n : Nat} {step : List Int → Nat × BSt → Option (Nat × BSt)} {ok : Nat → Bool} {ks : List Int} {st : Nat × BSt} (hs : ∀ ks st st', step ks st = some st' → BL n st.2 → BL n st'.2) (h0 : BL n st.2) : ∀ k st', goD step ok ks st k = some st' → BL n st'.2
  | 0, st', h => by rw [goD] at h; injection h with h; rw [← h]; exact h0
  | k + 1, st', h => by
    rw [goD] at h
    cases hg : goD step ok ks st k with
    | none => rw [hg] at h; cases h
    | some r =>
      rw [hg] at h
      have h1 := goD_len hs h0 k r hg
      simp only at h
      cases hok : ok k
      · rw [hok] at h; injection h with h; rw [← h]; exact h1
      · rw [hok] at h; exact hs _ _ _ h h1
theorem dfs_len {s : Sh} {zs : List Wk} {p : VSt} : ∀ (f : Nat) (ks : List Int) (st st' : Nat × BSt), dfs s zs p f ks st = some st' → BL zs.length st.2 → BL zs.length st'.2
  | 0, _, _, _, h, _ => by cases h
  | f + 1, ks, st, st', h, hb => by
    rw [dfs] at h
    cases hd : decide (st.1 = 0)
    · rw [hd] at h
      exact goD_len (fun ks st st' => dfs_len f ks st st') (BL.upd hb) _ _ h
    · rw [hd] at h; cases h
theorem fr_below {X : Nat} {vc' vo' : Value} {w w1 w2 : World} (hb : Below w.heap.size w w1) (hf : Fr X (.slice none 0 0) (.slice none 0 0) vo' vc' w1 w2) (hX : w.heap.size ≤ X) : Below w.heap.size w w2 :=
  ⟨hf.os.trans hb.os, hf.tape.trans hb.tape, hf.output.trans hb.output, Nat.le_trans hb.size hf.size, fun b hlt => (hf.block b (Nat.lt_of_lt_of_le hlt hb.size) (by omega) (fun h => nomatch h) (fun h => nomatch h)).trans (hb.block b hlt)⟩
set_option maxRecDepth 100000 in
set_option maxHeartbeats 4000000 in
theorem l27Run_c (bs : Nat) (s : Sh) (x y t bu : Int) (AZ : Option Addr) (N cZ : Nat) (zs : List Wk) (w : World) (hsh : ShP w bs s) (hs : s.name.size ≤ maxLen) (hz : Sl w w.heap.size 7 AZ N (zs.flatMap Wk.cells)) (hN : N ≤ 1048576) (hns : ∀ z ∈ zs, z.name.size ≤ maxLen) :
    Calls Try.prog 53 #[.pointer (some ⟨bs, 0, none⟩), ptV x y, .slice AZ N cZ, .int .i64 t, .int .i64 bu, .int .i64 3] w (RunAns bs s x y t AZ N cZ zs bu (routK s zs ⟨t, x, y⟩ bu) w) := by
  have hbs := hsh.hb
  obtain ⟨S, hS0⟩ : ∃ S, shB s = S := ⟨_, rfl⟩
  obtain ⟨P, hP0⟩ : ∃ P, ptB x y = P := ⟨_, rfl⟩
  obtain ⟨W, hW0⟩ : ∃ W, worksB zs = W := ⟨_, rfl⟩
  obtain ⟨T, hT0⟩ : ∃ T, inB t 0 4320 = T := ⟨_, rfl⟩
  obtain ⟨B, hB0⟩ : ∃ B, inB bu 1 20000 = B := ⟨_, rfl⟩
  have hK := rout_eq s zs t x y bu
  rw [hS0, hP0, hW0, hT0, hB0] at hK
  obtain ⟨K, hKe⟩ : ∃ K, routK s zs ⟨t, x, y⟩ bu = K := ⟨_, rfl⟩
  rw [hKe] at hK ⊢
  have hb0 : Below w.heap.size w (w.alloc (ptO x y 34)) := by (repeat (first | (with_reducible assumption) | (with_reducible exact Below.refl _ _) | exact Nat.le_refl _ | exact Below.size (by with_reducible assumption) | (with_reducible refine Below.drew ?_) | (with_reducible refine below_drewN ?_ _) | (with_reducible refine Below.alloc ?_ ?_ _) | (with_reducible refine Below.setCell ?_ ?_ _) | (with_reducible refine le_alloc ?_ _) | (with_reducible refine le_set ?_ _ _) | (with_reducible refine le_drew ?_) | (with_reducible refine le_drewN ?_ _) | omega | (dsimp only; omega)))
  have p1 := PtP.box w x y
  obtain ⟨w0, hw⟩ : ∃ w0, w.alloc (ptO x y 34) = w0 := ⟨_, rfl⟩
  rw [hw] at hb0 p1
  obtain ⟨d0, d1, hp1⟩ := p1
  have hS : ∀ w1, Below w0.heap.size w0 w1 → Calls Try.prog 39 #[.pointer (some ⟨bs, 0, none⟩)] w1 fun e w' => e = .returned (.bool S) ∧ w1 = w' := fun w1 hb => hS0 ▸ l25Ship_c bs s w1 (hsh.next (hb0.trans (hb.mono hb0.size))) hs
  have hP : ∀ w1, Calls Try.prog 40 #[ptV x y] w1 fun e w' => e = .returned (.bool P) ∧ Below w1.heap.size w1 w' := fun w1 => hP0 ▸ l02Ok_c x y w1
  have hW : ∀ w1, Below w0.heap.size w0 w1 → Calls Try.prog 41 #[.slice AZ N cZ] w1 fun e w' => e = .returned (.bool W) ∧ Below w1.heap.size w1 w' := fun w1 hb => hW0 ▸ l25List_c AZ N cZ zs w1 (hz.next (hb0.trans (hb.mono hb0.size))) hN hns
  have hT : ∀ w1, Calls Try.prog 42 #[.int .i64 t, .int .i64 0, .int .i64 4320] w1 fun e w' => e = .returned (.bool T) ∧ w1 = w' := fun w1 => hT0 ▸ l00In_c _ _ _ w1
  have hB : ∀ w1, Calls Try.prog 42 #[.int .i64 bu, .int .i64 1, .int .i64 20000] w1 fun e w' => e = .returned (.bool B) ∧ w1 = w' := fun w1 => hB0 ▸ l00In_c _ _ _ w1
  have HS := Lib.hid hS; clear hS
  have HP := Lib.hid hP; clear hP
  have HW := Lib.hid hW; clear hW
  have HT := Lib.hid hT; clear hT
  have HB := Lib.hid hB; clear hB
  have HS0 := Lib.hid hS0; clear hS0
  have HP0 := Lib.hid hP0; clear hP0
  have HW0 := Lib.hid hW0; clear hW0
  have HT0 := Lib.hid hT0; clear hT0
  have HB0 := Lib.hid hB0; clear hB0
  have HK := Lib.hid hK; clear hK
  have HKe := Lib.hid hKe; clear hKe
  have Hsh := Lib.hid hsh; clear hsh
  have Hz := Lib.hid hz; clear hz
  cases S
  · go_enter Try.func53, Try.ntmps53
    go_wp2_with fail
    try rw [hw]
    clear hw
    refine (HS.out _ (Below.refl _ _)).mono ?_
    rintro e w1 ⟨rfl, rfl⟩
    obtain rfl : K = 1 := HK.out
    go_wp2_with fail
    go_ret2
    exact ⟨none, rfl, hb0, fun h => absurd h (by decide)⟩
  cases P
  · go_enter Try.func53, Try.ntmps53
    go_wp2_with fail
    try rw [hw]
    clear hw
    refine (HS.out _ (Below.refl _ _)).mono ?_
    rintro e w1 ⟨rfl, rfl⟩
    go_wp2_with fail
    refine (HP.out _).mono ?_
    rintro e w2 ⟨rfl, hb2⟩
    have hf2 := hb0.trans (hb2.mono hb0.size)
    obtain rfl : K = 1 := HK.out
    go_wp2_with fail
    go_ret2
    exact ⟨none, rfl, hf2, fun h => absurd h (by decide)⟩
  cases W
  · go_enter Try.func53, Try.ntmps53
    go_wp2_with fail
    try rw [hw]
    clear hw
    refine (HS.out _ (Below.refl _ _)).mono ?_
    rintro e w1 ⟨rfl, rfl⟩
    go_wp2_with fail
    refine (HP.out _).mono ?_
    rintro e w2 ⟨rfl, hb2⟩
    have hf2 := hb0.trans (hb2.mono hb0.size)
    go_wp2_with fail
    refine (HW.out _ hb2).mono ?_
    rintro e w3 ⟨rfl, hb3⟩
    have hf3 := hf2.trans (hb3.mono hf2.size)
    obtain rfl : K = 1 := HK.out
    go_wp2_with fail
    go_ret2
    exact ⟨none, rfl, hf3, fun h => absurd h (by decide)⟩
  cases B
  · go_enter Try.func53, Try.ntmps53
    go_wp2_with fail
    try rw [hw]
    clear hw
    refine (HS.out _ (Below.refl _ _)).mono ?_
    rintro e w1 ⟨rfl, rfl⟩
    go_wp2_with fail
    refine (HP.out _).mono ?_
    rintro e w2 ⟨rfl, hb2⟩
    have hf2 := hb0.trans (hb2.mono hb0.size)
    go_wp2_with fail
    refine (HW.out _ hb2).mono ?_
    rintro e w3 ⟨rfl, hb3⟩
    have hf3 := hf2.trans (hb3.mono hf2.size)
    go_wp2_with fail
    refine (HB.out _).mono ?_
    rintro e w4 ⟨rfl, rfl⟩
    obtain rfl : K = 2 := by have := HK.out; cases T <;> exact this
    go_wp2_with fail
    go_ret2
    exact ⟨none, rfl, hf3, fun h => absurd h (by decide)⟩
  cases T
  · go_enter Try.func53, Try.ntmps53
    go_wp2_with fail
    try rw [hw]
    clear hw
    refine (HS.out _ (Below.refl _ _)).mono ?_
    rintro e w1 ⟨rfl, rfl⟩
    go_wp2_with fail
    refine (HP.out _).mono ?_
    rintro e w2 ⟨rfl, hb2⟩
    have hf2 := hb0.trans (hb2.mono hb0.size)
    go_wp2_with fail
    refine (HW.out _ hb2).mono ?_
    rintro e w3 ⟨rfl, hb3⟩
    have hf3 := hf2.trans (hb3.mono hf2.size)
    go_wp2_with fail
    refine (HB.out _).mono ?_
    rintro e w4 ⟨rfl, rfl⟩
    go_wp2_with fail
    refine (HT.out _).mono ?_
    rintro e w5 ⟨rfl, rfl⟩
    obtain rfl : K = 2 := HK.out
    go_wp2_with fail
    go_ret2
    exact ⟨none, rfl, hf3, fun h => absurd h (by decide)⟩
  · obtain ⟨hq1, hq2⟩ := inB_iff.1 HB0.out
    obtain ⟨q, rfl⟩ : ∃ q : Nat, bu = q := ⟨bu.toNat, by omega⟩
    have hv : VOk s zs ⟨t, x, y⟩ [] := VOk.of_ask (by rw [askK, HS0.out, HP0.out, HW0.out, HT0.out, ordB_nil]; rfl)
    have h0 := voyK_nil (s := s) (zs := zs) (p := ⟨t, x, y⟩) hv.ld.1
    have Hv := Lib.hid hv; clear hv
    have H0 := Lib.hid h0; clear h0
    go_enter Try.func53, Try.ntmps53
    go_wp2_with fail
    try rw [hw]
    clear hw
    refine (HS.out _ (Below.refl _ _)).mono ?_
    rintro e w1 ⟨rfl, rfl⟩
    go_wp2_with fail
    refine (HP.out _).mono ?_
    rintro e w2 ⟨rfl, hb2⟩
    have hf2 := hb0.trans (hb2.mono hb0.size)
    go_wp2_with fail
    refine (HW.out _ hb2).mono ?_
    rintro e w3 ⟨rfl, hb3⟩
    have hf3 := hf2.trans (hb3.mono hf2.size)
    go_wp2_with fail
    refine (HB.out _).mono ?_
    rintro e w4 ⟨rfl, rfl⟩
    go_wp2_with fail
    refine (HT.out _).mono ?_
    rintro e w5 ⟨rfl, rfl⟩
    have t0 := (keepC (hb2.trans (hb3.mono hb2.size)) w.heap.size hp1 0).trans d0
    have t1 := (keepC (hb2.trans (hb3.mono hb2.size)) w.heap.size hp1 1).trans d1
    clear d0 d1 hp1
    have hrb := heap_alloc_new w3 (.cells (srB bs x y AZ N cZ t none 0 0 none 0 0 false 0 (.slice none 0 0) 0 0 q) 92)
    have hbR : Below w.heap.size w (w3.alloc (.cells (srB bs x y AZ N cZ t none 0 0 none 0 0 false 0 (.slice none 0 0) 0 0 q) 92)) := hf3.alloc hf3.size _
    go_wp2_with fail
    obtain ⟨wX, hwX⟩ : ∃ wX, w3.alloc (.cells (srB bs x y AZ N cZ t none 0 0 none 0 0 false 0 (.slice none 0 0) 0 0 q) 92) = wX := ⟨_, rfl⟩
    have hlX : w3.heap.size < wX.heap.size := by rw [← hwX]; simp
    rw [hwX] at hrb hbR
    try rw [hwX]
    clear hwX
    obtain ⟨X, hX⟩ : ∃ X, w3.heap.size = X := ⟨_, rfl⟩
    have hle := hf3.size
    rw [hX] at hrb hlX hle
    try rw [hX]
    clear hX t0 t1
    have hV : SV wX X bs s x y t AZ N cZ zs q [] 0 0 none 0 none 0 0 (.slice none 0 0) 0 false := ⟨Hsh.out.next hbR, by omega, Hz.out.keep (fun b hb => hbR.block b hb) |>.more hle, hrb, own_nil _ _ _ _, own_nil _ _ _ _⟩
    have hx : SX wX X bs s x y t AZ N cZ zs q [] 0 ((q : Int) - q) none none 0 none 0 := by
      rw [Int.sub_self]
      exact ⟨_, _, _, _, hV, rfl⟩
    have hVis := visit_c X bs s x y t AZ N cZ zs q (by omega) q [] 0 q none none 0 none 0 wX hx Hv.out H0.out (Nat.le_refl _) (by omega)
    obtain ⟨R, hR⟩ : ∃ R, dfs s zs ⟨t, x, y⟩ q [] (q, none) = R := ⟨_, rfl⟩
    rw [hR] at hVis
    have hqq : ((q : Nat) : Int).toNat = q := Int.toNat_natCast q
    have Hqq := Lib.hid hqq; clear hqq
    have HVis := Lib.hid hVis; clear hVis
    have HR := Lib.hid hR; clear hR
    clear hV hx hrb
    refine HVis.out.mono ?_
    rintro e w6 ⟨r, D', b', Ao, co, Ac, cc, rfl, hx6, hF6, hR6⟩
    have hbf := fr_below hbR hF6 hle
    have hx6' := hx6
    obtain ⟨C6, vb6, E6, F6, hV6, hB6⟩ := hx6'
    have hXl := hV6.hX
    have hr := hV6.row
    have r0 := (cell_of_row w6 X 0 _ _ _ hr).trans rfl
    have r1 := (cell_of_row w6 X 1 _ _ _ hr).trans rfl
    have r2 := (cell_of_row w6 X 2 _ _ _ hr).trans rfl
    have r3 := (cell_of_row w6 X 3 _ _ _ hr).trans rfl
    have r4 := (cell_of_row w6 X 4 _ _ _ hr).trans rfl
    have r5 := (cell_of_row w6 X 5 _ _ _ hr).trans rfl
    have r6 := (cell_of_row w6 X 6 _ _ _ hr).trans rfl
    have r7 := (cell_of_row w6 X 7 _ _ _ hr).trans rfl
    have r8 := (cell_of_row w6 X 8 _ _ _ hr).trans rfl
    have r9 := (cell_of_row w6 X 9 _ _ _ hr).trans rfl
    have r10 := (cell_of_row w6 X 10 _ _ _ hr).trans rfl
    have r11 := (cell_of_row w6 X 11 _ _ _ hr).trans rfl
    have r12 := (cell_of_row w6 X 12 _ _ _ hr).trans rfl
    have r13 := (cell_of_row w6 X 13 _ _ _ hr).trans rfl
    have r14 := (cell_of_row w6 X 14 _ _ _ hr).trans rfl
    have rf := fun j => frozen_of_row w6 X j _ _ hr
    have Hr := Lib.hid hr; clear hr
    have HV6 := Lib.hid hV6; clear hV6
    have HB6 := Lib.hid hB6; clear hB6
    have HX6 := Lib.hid hx6; clear hx6
    clear hF6
    cases R with
    | none =>
      obtain ⟨rfl, rfl⟩ := hR6
      obtain rfl : K = 5 := by rw [HK.out, Hqq.out, HR.out]; rfl
      go_wp2_with fail
      go_ret2
      exact ⟨none, rfl, hbf, fun h => absurd h (by decide)⟩
    | some p =>
      obtain ⟨l2, b2⟩ := p
      obtain ⟨rfl, hl2, rfl, rfl⟩ := hR6
      obtain rfl : K = 0 := by rw [HK.out, Hqq.out, HR.out]; rfl
      have hng : ¬ (q : Int) < (q : Int) - l2 := by omega
      go_wp2_with fail
      go_ret2
      exact ⟨_, rfl, hbf, fun _ => ⟨X, l2, b', _, _, _, _, _, rfl, hle, by rw [Hqq.out]; exact HR.out, HX6.out⟩⟩
set_option maxRecDepth 100000 in
set_option maxHeartbeats 4000000 in
theorem l27Order_c (bs : Nat) (s : Sh) (x y t bu : Int) (AZ : Option Addr) (N cZ : Nat) (zs : List Wk) (w : World) (hsh : ShP w bs s) (hs : s.name.size ≤ maxLen) (hz : Sl w w.heap.size 7 AZ N (zs.flatMap Wk.cells)) (hN : N ≤ 1048576) (hns : ∀ z ∈ zs, z.name.size ≤ maxLen) :
    Calls Try.prog 29 #[.pointer (some ⟨bs, 0, none⟩), ptV x y, .slice AZ N cZ, .int .i64 t, .int .i64 bu, .int .i64 3] w (BestAns s zs ⟨t, x, y⟩ bu w) := by
  have hb0 : Below w.heap.size w (w.alloc (ptO x y 34)) := by (repeat (first | (with_reducible assumption) | (with_reducible exact Below.refl _ _) | exact Nat.le_refl _ | exact Below.size (by with_reducible assumption) | (with_reducible refine Below.drew ?_) | (with_reducible refine below_drewN ?_ _) | (with_reducible refine Below.alloc ?_ ?_ _) | (with_reducible refine Below.setCell ?_ ?_ _) | (with_reducible refine le_alloc ?_ _) | (with_reducible refine le_set ?_ _ _) | (with_reducible refine le_drew ?_) | (with_reducible refine le_drewN ?_ _) | omega | (dsimp only; omega)))
  have p1 := PtP.box w x y
  obtain ⟨w0, hw⟩ : ∃ w0, w.alloc (ptO x y 34) = w0 := ⟨_, rfl⟩
  rw [hw] at hb0 p1
  obtain ⟨d0, d1, hp1⟩ := p1
  obtain ⟨K, hK⟩ : ∃ K, routK s zs ⟨t, x, y⟩ bu = K := ⟨_, rfl⟩
  have hln := hz.len Wk.cells 7 Wk.cells_len (by omega)
  have hlN : zs.length ≤ 1048576 := by omega
  clear hln
  have hRun := l27Run_c bs s x y t bu AZ N cZ zs w0 (hsh.next hb0) hs (hz.next hb0) hN hns
  rw [hK] at hRun
  have HRun := Lib.hid hRun; clear hRun
  have HK := Lib.hid hK; clear hK
  clear hsh hz
  go_enter Try.func29, Try.ntmps29
  go_wp2_with fail
  try rw [hw]
  clear hw
  refine HRun.out.mono ?_
  rintro e w1 ⟨p, rfl, hb1, hm⟩
  have hbf := hb0.trans (hb1.mono hb0.size)
  by_cases hK0 : K = 0
  · obtain ⟨X, l', b', D, Ao, co, Ac, cc, rfl, hX, hd, hx⟩ := hm hK0
    subst hK0
    obtain ⟨e1, e2⟩ := best_ok HK.out hd
    obtain ⟨C, vb, E, F, hV, hB⟩ := hx
    have hXl := hV.hX
    have hr := hV.row
    have r0 := (cell_of_row w1 X 0 _ _ _ hr).trans rfl
    have r1 := (cell_of_row w1 X 1 _ _ _ hr).trans rfl
    have r2 := (cell_of_row w1 X 2 _ _ _ hr).trans rfl
    have r3 := (cell_of_row w1 X 3 _ _ _ hr).trans rfl
    have r4 := (cell_of_row w1 X 4 _ _ _ hr).trans rfl
    have r5 := (cell_of_row w1 X 5 _ _ _ hr).trans rfl
    have r6 := (cell_of_row w1 X 6 _ _ _ hr).trans rfl
    have r7 := (cell_of_row w1 X 7 _ _ _ hr).trans rfl
    have r8 := (cell_of_row w1 X 8 _ _ _ hr).trans rfl
    have r9 := (cell_of_row w1 X 9 _ _ _ hr).trans rfl
    have r10 := (cell_of_row w1 X 10 _ _ _ hr).trans rfl
    have r11 := (cell_of_row w1 X 11 _ _ _ hr).trans rfl
    have r12 := (cell_of_row w1 X 12 _ _ _ hr).trans rfl
    have r13 := (cell_of_row w1 X 13 _ _ _ hr).trans rfl
    have r14 := (cell_of_row w1 X 14 _ _ _ hr).trans rfl
    have rf := fun j => frozen_of_row w1 X j _ _ hr
    have Hr := Lib.hid hr; clear hr
    have HV := Lib.hid hV; clear hV
    have E1 := Lib.hid e1; clear e1
    have E2 := Lib.hid e2; clear e2
    have hle := hb0.size
    have hBL := dfs_len _ _ _ _ hd (fun _ _ h => nomatch h)
    have HBl := Lib.hid hBL; clear hBL
    clear hm hd
    cases b' with
    | none =>
      obtain rfl : F = false := hB
      go_wp2_with fail
      go_ret2
      exact ⟨_, _, by rw [E1.out]; rfl, rfl, by rw [E2.out]; exact own_nil _ _ _ _, hbf⟩
    | some r =>
      obtain ⟨el, bs'⟩ := r
      obtain ⟨rfl, hE, hrow, -⟩ := hB
      clear hE
      obtain ⟨A, c, rfl⟩ := own_slice hrow
      have hbl := HBl.out el bs' rfl
      have hO := l00Own_c A bs'.length c bs' w1 (Sl.of_own hrow) (by rw [hbl]; omega)
      have HO := Lib.hid hO; clear hO
      have Hbl := Lib.hid hbl; clear hbl
      clear hrow
      go_wp2_with fail
      refine HO.out.mono ?_
      rintro e w2 ⟨g, c2, rfl, ho2, hb2⟩
      have hb3 := hbf.trans (hb2.mono hbf.size)
      have ho3 := own_base ho2 hbf.size
      have Ho3 := Lib.hid ho3; clear ho3
      clear ho2
      go_wp2_with fail
      go_ret2
      exact ⟨_, _, by rw [E1.out]; rfl, by rw [E2.out], by rw [E2.out]; exact Ho3.out, hb3⟩
  · have hKn : (K != 0) = true := by simpa using hK0
    obtain ⟨e1, e2⟩ := best_no (by rw [HK.out]; exact hK0)
    have E1 := Lib.hid e1; clear e1
    have E2 := Lib.hid e2; clear e2
    clear hm
    go_wp2_with fail
    go_ret2
    exact ⟨_, _, by rw [E1.out, HK.out]; rfl, rfl, by rw [E2.out]; exact own_nil _ _ _ _, hbf⟩
set_option maxRecDepth 100000 in
set_option maxHeartbeats 4000000 in
theorem specBestVoyage_c (s : Sh) (x y t bu : Int) (AZ : Option Addr) (N cZ : Nat) (zs : List Wk) (w : World) (hs : s.name.size ≤ maxLen) (hz : Sl w w.heap.size 7 AZ N (zs.flatMap Wk.cells)) (hN : N ≤ 1048576) (hns : ∀ z ∈ zs, z.name.size ≤ maxLen) :
    Calls Try.prog 8 #[s.val, ptV x y, .slice AZ N cZ, .int .i64 t, .int .i64 bu] w (BestAns s zs ⟨t, x, y⟩ bu w) := by
  have hb0 : Below w.heap.size w ((w.alloc (shO s 32)).alloc (ptO x y 34)) := by (repeat (first | (with_reducible assumption) | (with_reducible exact Below.refl _ _) | exact Nat.le_refl _ | exact Below.size (by with_reducible assumption) | (with_reducible refine Below.drew ?_) | (with_reducible refine below_drewN ?_ _) | (with_reducible refine Below.alloc ?_ ?_ _) | (with_reducible refine Below.setCell ?_ ?_ _) | (with_reducible refine le_alloc ?_ _) | (with_reducible refine le_set ?_ _ _) | (with_reducible refine le_drew ?_) | (with_reducible refine le_drewN ?_ _) | omega | (dsimp only; omega)))
  have g1 := (ShP.box w s 32).next (w' := (w.alloc (shO s 32)).alloc (ptO x y 34)) (by (repeat (first | (with_reducible assumption) | (with_reducible exact Below.refl _ _) | exact Nat.le_refl _ | exact Below.size (by with_reducible assumption) | (with_reducible refine Below.drew ?_) | (with_reducible refine below_drewN ?_ _) | (with_reducible refine Below.alloc ?_ ?_ _) | (with_reducible refine Below.setCell ?_ ?_ _) | (with_reducible refine le_alloc ?_ _) | (with_reducible refine le_set ?_ _ _) | (with_reducible refine le_drew ?_) | (with_reducible refine le_drewN ?_ _) | omega | (dsimp only; omega))))
  have hsz : (w.alloc (shO s 32)).heap.size = w.heap.size + 1 := by simp
  have p1 := PtP.box (w.alloc (shO s 32)) x y
  rw [hsz] at p1
  obtain ⟨w0, hw⟩ : ∃ w0, (w.alloc (shO s 32)).alloc (ptO x y 34) = w0 := ⟨_, rfl⟩
  rw [hw] at hb0 g1 p1
  have hO := l27Order_c w.heap.size s x y t bu AZ N cZ zs w0 g1 hs (hz.next hb0) hN hns
  obtain ⟨d0, d1, hp1⟩ := p1
  clear hsz g1 hz
  have HO := Lib.hid hO; clear hO
  go_enter Try.func8, Try.ntmps8
  go_wp2_with fail
  try rw [hw]
  clear hw
  refine HO.out.mono ?_
  rintro e w1 ⟨v, n, rfl, hn, ho, hb1⟩
  have hbf := hb0.trans (hb1.mono hb0.size)
  have hof := own_base ho hb0.size
  have Hn := Lib.hid hn; clear hn
  have Hof := Lib.hid hof; clear hof
  clear ho
  go_wp2_with fail
  go_ret2
  exact ⟨v, n, rfl, Hn.out, Hof.out, hbf⟩
end Go.Proofs.Ytgkdjohiclhcoaa
