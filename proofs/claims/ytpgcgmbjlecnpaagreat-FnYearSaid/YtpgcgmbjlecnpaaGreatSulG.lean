/- SulG: several of my texts in one. -/
import Derived.Test.YtpgcgmbjlecnpaaGreatSuiG
import Derived.Test.YtpgcgmbjlecnpaaGreatSunG
/- The least number that is accepted; LeastBattery, LeastPanel: the program. -/
namespace Go.Proofs.YtpgcgmbjlecnpaaGreat
open Go.RowKit
set_option maxRecDepth 100000 in
set_option maxHeartbeats 1000000 in
/-- The search, of a condition I on the world that the closure keeps. -/
theorem leastBat_c (b1 b2 b3 : Nat) (p : Int → Bool) (lo hi : Int) (I : World → Prop) (w : World) (h0 : 0 ≤ lo) (h1 : lo ≤ hi) (h2 : hi ≤ 1000000000) (mono : ∀ a b, lo ≤ a → a ≤ b → b ≤ hi → p a = true → p b = true)
    (hf : ∀ (n : Int) (w1 : World), lo ≤ n → n ≤ hi → I w1 → Calls Tryz.prog 46 #[.int .i64 n, .pointer (some ⟨b1, 0, none⟩), .pointer (some ⟨b2, 0, none⟩), .pointer (some ⟨b3, 0, none⟩)] w1 fun e w' => e = .returned (.bool (p n)) ∧ I w') (hI : I w) :
    Calls Tryz.prog 45 #[.int .i64 lo, .int .i64 hi, .func (.func 46) #[] #[.pointer (some ⟨b1, 0, none⟩), .pointer (some ⟨b2, 0, none⟩), .pointer (some ⟨b3, 0, none⟩)]] w fun e w' => e = .returned (.tuple #[.int .i64 (leaV p lo hi), .int .i64 (leaK p hi)]) ∧ I w' := by
  obtain ⟨RV, hRV⟩ : ∃ RV, leaV p lo hi = RV := ⟨_, rfl⟩
  obtain ⟨RK, hRK⟩ : ∃ RK, leaK p hi = RK := ⟨_, rfl⟩
  rw [hRV, hRK]
  have hf0 := hf hi w h1 (Int.le_refl _) hI
  have HRV := Lib.hid hRV; clear hRV
  have HRK := Lib.hid hRK; clear hRK
  have HF := Lib.hid hf; clear hf
  have HM := Lib.hid mono; clear mono
  have HF0 := Lib.hid hf0; clear hf0
  cases hph : p hi
  · obtain ⟨v1, v2⟩ := lea_none (lo := lo) hph
    rw [HRV.out] at v1
    rw [HRK.out] at v2
    subst v1 v2
    go_enter Tryz.func45, Tryz.ntmps45
    go_wp2_with fail
    refine HF0.out.mono ?_
    rw [hph]
    rintro e w1 ⟨rfl, hI1⟩
    go_wp2_with fail
    go_ret2
    exact ⟨rfl, hI1⟩
  · go_enter Tryz.func45, Tryz.ntmps45
    go_wp2_with fail
    refine HF0.out.mono ?_
    rw [hph]
    rintro e w1 ⟨rfl, hI1⟩
    clear HF0 hI
    go_wp2_with fail
    go_loopw [0, 1] (fun x y wr => ∃ a b : Int, x = .int .i64 a ∧ y = .int .i64 b ∧ lo ≤ a ∧ a ≤ b ∧ b ≤ hi ∧ p b = true ∧ (a = lo ∨ p (a - 1) = false) ∧ I wr) (fun x y _ => (intOf y - intOf x).toNat)
    case atStart => exact ⟨lo, hi, rfl, rfl, by omega, h1, by omega, hph, .inl rfl, hI1⟩
    case round =>
      clear hph hI1
      obtain ⟨a, b, rfl, rfl, ha, hab, hb, hpb, hpa, hIr⟩ := hrel
      have Hpb := Lib.hid hpb; clear hpb
      have Hpa := Lib.hid hpa; clear hpa
      by_cases hlt : a < b
      · obtain ⟨M, hM⟩ : ∃ M, (a + b).tdiv 2 = M := ⟨_, rfl⟩
        have hMb : a ≤ M ∧ M < b := by
          rw [Int.tdiv_eq_ediv_of_nonneg (by omega)] at hM
          omega
        have e1 : IntKind.i64.wrap M = M := IntWalk.i64_in _ (by omega)
        have hfM := HF.out M wr (by omega) (by omega) hIr
        have HFM := Lib.hid hfM; clear hfM
        cases hpM : p M
        · go_wp2_with fail
          refine HFM.out.mono ?_
          rw [hpM]
          rintro e w2 ⟨rfl, hI2⟩
          go_wp2_with fail
          go_roundw
          case rel => exact ⟨M + 1, b, rfl, rfl, by omega, by omega, hb, Hpb.out, .inr (by rwa [show M + 1 - 1 = M by omega]), hI2⟩
          case measure => simp [intOf]; omega
        · go_wp2_with fail
          refine HFM.out.mono ?_
          rw [hpM]
          rintro e w2 ⟨rfl, hI2⟩
          go_wp2_with fail
          go_roundw
          case rel => exact ⟨a, M, rfl, rfl, ha, by omega, by omega, hpM, Hpa.out, hI2⟩
          case measure => simp [intOf]; omega
      · obtain rfl : a = b := by omega
        obtain ⟨v1, v2⟩ := lea_found HM.out ha hb Hpb.out Hpa.out
        rw [HRV.out] at v1
        rw [HRK.out] at v2
        subst v1 v2
        go_wp2_with fail
        go_ret2
        exact ⟨rfl, hIr⟩
set_option maxRecDepth 100000 in
set_option maxHeartbeats 1000000 in
/-- The search, of a condition I on the world that the closure keeps. -/
theorem leastPan_c (b1 b2 b3 : Nat) (p : Int → Bool) (lo hi : Int) (I : World → Prop) (w : World) (h0 : 0 ≤ lo) (h1 : lo ≤ hi) (h2 : hi ≤ 1000000000) (mono : ∀ a b, lo ≤ a → a ≤ b → b ≤ hi → p a = true → p b = true)
    (hf : ∀ (n : Int) (w1 : World), lo ≤ n → n ≤ hi → I w1 → Calls Tryz.prog 47 #[.int .i64 n, .pointer (some ⟨b1, 0, none⟩), .pointer (some ⟨b2, 0, none⟩), .pointer (some ⟨b3, 0, none⟩)] w1 fun e w' => e = .returned (.bool (p n)) ∧ I w') (hI : I w) :
    Calls Tryz.prog 45 #[.int .i64 lo, .int .i64 hi, .func (.func 47) #[] #[.pointer (some ⟨b1, 0, none⟩), .pointer (some ⟨b2, 0, none⟩), .pointer (some ⟨b3, 0, none⟩)]] w fun e w' => e = .returned (.tuple #[.int .i64 (leaV p lo hi), .int .i64 (leaK p hi)]) ∧ I w' := by
  obtain ⟨RV, hRV⟩ : ∃ RV, leaV p lo hi = RV := ⟨_, rfl⟩
  obtain ⟨RK, hRK⟩ : ∃ RK, leaK p hi = RK := ⟨_, rfl⟩
  rw [hRV, hRK]
  have hf0 := hf hi w h1 (Int.le_refl _) hI
  have HRV := Lib.hid hRV; clear hRV
  have HRK := Lib.hid hRK; clear hRK
  have HF := Lib.hid hf; clear hf
  have HM := Lib.hid mono; clear mono
  have HF0 := Lib.hid hf0; clear hf0
  cases hph : p hi
  · obtain ⟨v1, v2⟩ := lea_none (lo := lo) hph
    rw [HRV.out] at v1
    rw [HRK.out] at v2
    subst v1 v2
    go_enter Tryz.func45, Tryz.ntmps45
    go_wp2_with fail
    refine HF0.out.mono ?_
    rw [hph]
    rintro e w1 ⟨rfl, hI1⟩
    go_wp2_with fail
    go_ret2
    exact ⟨rfl, hI1⟩
  · go_enter Tryz.func45, Tryz.ntmps45
    go_wp2_with fail
    refine HF0.out.mono ?_
    rw [hph]
    rintro e w1 ⟨rfl, hI1⟩
    clear HF0 hI
    go_wp2_with fail
    go_loopw [0, 1] (fun x y wr => ∃ a b : Int, x = .int .i64 a ∧ y = .int .i64 b ∧ lo ≤ a ∧ a ≤ b ∧ b ≤ hi ∧ p b = true ∧ (a = lo ∨ p (a - 1) = false) ∧ I wr) (fun x y _ => (intOf y - intOf x).toNat)
    case atStart => exact ⟨lo, hi, rfl, rfl, by omega, h1, by omega, hph, .inl rfl, hI1⟩
    case round =>
      clear hph hI1
      obtain ⟨a, b, rfl, rfl, ha, hab, hb, hpb, hpa, hIr⟩ := hrel
      have Hpb := Lib.hid hpb; clear hpb
      have Hpa := Lib.hid hpa; clear hpa
      by_cases hlt : a < b
      · obtain ⟨M, hM⟩ : ∃ M, (a + b).tdiv 2 = M := ⟨_, rfl⟩
        have hMb : a ≤ M ∧ M < b := by
          rw [Int.tdiv_eq_ediv_of_nonneg (by omega)] at hM
          omega
        have e1 : IntKind.i64.wrap M = M := IntWalk.i64_in _ (by omega)
        have hfM := HF.out M wr (by omega) (by omega) hIr
        have HFM := Lib.hid hfM; clear hfM
        cases hpM : p M
        · go_wp2_with fail
          refine HFM.out.mono ?_
          rw [hpM]
          rintro e w2 ⟨rfl, hI2⟩
          go_wp2_with fail
          go_roundw
          case rel => exact ⟨M + 1, b, rfl, rfl, by omega, by omega, hb, Hpb.out, .inr (by rwa [show M + 1 - 1 = M by omega]), hI2⟩
          case measure => simp [intOf]; omega
        · go_wp2_with fail
          refine HFM.out.mono ?_
          rw [hpM]
          rintro e w2 ⟨rfl, hI2⟩
          go_wp2_with fail
          go_roundw
          case rel => exact ⟨a, M, rfl, rfl, ha, by omega, by omega, hpM, Hpa.out, hI2⟩
          case measure => simp [intOf]; omega
      · obtain rfl : a = b := by omega
        obtain ⟨v1, v2⟩ := lea_found HM.out ha hb Hpb.out Hpa.out
        rw [HRV.out] at v1
        rw [HRK.out] at v2
        subst v1 v2
        go_wp2_with fail
        go_ret2
        exact ⟨rfl, hIr⟩
end Go.Proofs.YtpgcgmbjlecnpaaGreat
/- LeastBattery, LeastPanel: the program. -/
namespace Go.Proofs.YtpgcgmbjlecnpaaGreat
open Go.RowKit
/-- What the closure keeps. -/
structure CloI (wx : St → Int → St) (W : World) (b b2 b3 : Nat) (s : St) (sh : Int) (A3 : Option Addr) (N c9 : Nat) (L : List Int) (g2 : Nat) (wr : World) : Prop where
  st : ∃ s', StP wr b s' ∧ ∀ m, wx s' m = wx s m
  fz : ∀ i, wr.frozen? ⟨b, i, none⟩ = false
  c2 : wr.cell? ⟨b2, 0, none⟩ = some (.int .i64 sh)
  c3 : wr.cell? ⟨b3, 0, none⟩ = some (.slice A3 N c9)
  l2 : b2 < wr.heap.size
  l3 : b3 < wr.heap.size
  ov : wr.ownsRow g2 2 1 (.slice A3 N c9) N (L.flatMap intC)
  bw : Below W.heap.size W wr
set_option maxRecDepth 100000 in
set_option maxHeartbeats 1000000 in
theorem cloBat_c (W : World) (b b2 b3 : Nat) (s : St) (sh : Int) (A3 : Option Addr) (N c3 : Nat) (L : List Int) (g2 : Nat) (m : Int) (w : World) (h : CloI withBa W b b2 b3 s sh A3 N c3 L g2 w) (ok : StOk s) (s1 : 0 ≤ sh) (s2 : sh ≤ 1000000) (hN : N ≤ 400) (hL : ∀ d ∈ L, 0 ≤ d ∧ d ≤ 1440) (m1 : 1 ≤ m) (m2 : m ≤ 100000000) (_n2 : b2 ≠ b) (_n3 : b3 ≠ b) (hg : b < g2) (hW : W.heap.size ≤ b) :
    Calls Tryz.prog 46 #[.int .i64 m, .pointer (some ⟨b, 0, none⟩), .pointer (some ⟨b2, 0, none⟩), .pointer (some ⟨b3, 0, none⟩)] w fun e w' => e = .returned (.bool (lasB (withBa s m) sh L)) ∧ CloI withBa W b b2 b3 s sh A3 N c3 L g2 w' := by
  obtain ⟨⟨s', hSt, hsw⟩, hfz, k2, k3, l2, l3, hov, hbw⟩ := h
  have hStn := stp_ba hSt m
  rw [hsw m] at hStn
  have hov2 := ownsRow_setCell_below hov (a := ⟨b, 2, none⟩) hg (.int .i64 m)
  have hb2 : Below W.heap.size W (w.setCell ⟨b, 2, none⟩ (.int .i64 m)) := hbw.setCell (p := ⟨b, 2, none⟩) hW _
  have hfn : ∀ i, (w.setCell ⟨b, 2, none⟩ (.int .i64 m)).frozen? ⟨b, i, none⟩ = false := fun i => by rw [World.frozen?_setCell]; exact hfz i
  have j2 : (w.setCell ⟨b, 2, none⟩ (.int .i64 m)).cell? ⟨b2, 0, none⟩ = some (.int .i64 sh) := (World.cell?_setCell_other _ _ _ _ (by simp)).trans k2
  have j3 : (w.setCell ⟨b, 2, none⟩ (.int .i64 m)).cell? ⟨b3, 0, none⟩ = some (.slice A3 N c3) := (World.cell?_setCell_other _ _ _ _ (by simp)).trans k3
  have l2' : b2 < (w.setCell ⟨b, 2, none⟩ (.int .i64 m)).heap.size := by simpa using l2
  have l3' : b3 < (w.setCell ⟨b, 2, none⟩ (.int .i64 m)).heap.size := by simpa using l3
  obtain ⟨w5, hw5⟩ : ∃ w5, w.setCell ⟨b, 2, none⟩ (.int .i64 m) = w5 := ⟨_, rfl⟩
  rw [hw5] at hStn hov2 hb2 hfn j2 j3 l2' l3'
  obtain ⟨cc0, cc1, cc2, cc3, cc4, hbs⟩ := id hSt
  obtain ⟨dd0, dd1, dd2, dd3, dd4, hbs'⟩ := id hStn
  have hfo := hfz 2
  have hz := lasts_c (withBa s m) sh A3 N c3 L w5 (ok_ba ok m1 m2) s1 s2 (Sl.of_own hov2) hN hL
  have HZ := Lib.hid hz; clear hz
  have Hfz := Lib.hid hfz; clear hfz
  have Hfn := Lib.hid hfn; clear hfn
  have Hsw := Lib.hid hsw; clear hsw
  go_enter Tryz.func46, Tryz.ntmps46
  go_wp2_with fail
  clear hw5 cc0 cc1 cc2 cc3 cc4 hfo k2 k3
  refine HZ.out.mono ?_
  rintro e w6 ⟨rfl, hb6⟩
  go_wp2_with fail
  go_ret
  exact ⟨rfl, ⟨⟨withBa s m, hStn.next hb6, fun _ => rfl⟩, fun i => (keepF hb6 _ hStn.hb i).trans (Hfn.out i), (keepC hb6 _ l2' _).trans j2, (keepC hb6 _ l3' _).trans j3, Nat.lt_of_lt_of_le l2' hb6.size, Nat.lt_of_lt_of_le l3' hb6.size, own_next hov2 hb6, hb2.trans (hb6.mono hb2.size)⟩⟩
set_option maxRecDepth 100000 in
set_option maxHeartbeats 2000000 in
theorem implBat_c (s : St) (A : Option Addr) (n c : Nat) (x : Ch) (w : World) (sl : Sl w w.heap.size 1 A n (x.gs.flatMap intC)) (hn : n ≤ 1048576) (hlz : x.l.size ≤ 1048576) (hs : x.cs.size ≤ 1048576) (lat fr cnt : Int) :
    Calls Tryz.prog 21 #[stV s, chV x.k A n c x.l x.cs x.p, .int .i64 lat, .int .i64 fr, .int .i64 cnt] w fun e w' => e = .returned (.tuple #[.int .i64 (batV s x lat fr cnt), .int .i64 (batK s x lat fr cnt)]) ∧ Below w.heap.size w w' := by
  obtain ⟨k, hk⟩ : ∃ k, powK s x lat fr cnt = k := ⟨_, rfl⟩
  by_cases hk0 : k = 0
  · obtain ⟨o1, o2, o3⟩ := pow_ok (hk.trans hk0)
    have ok := stB_ok o1
    obtain ⟨sh1, sh2⟩ := share_bd o2
    have hV2 : batV s x lat fr cnt = leaV (batP s x lat fr cnt) 1 100000000 := by rw [batV, okSC, o1, o2, o3]; rfl
    have hK2 : batK s x lat fr cnt = leaK (batP s x lat fr cnt) 100000000 := by rw [batK, okSC, o1, o2, o3]; rfl
    rw [hV2, hK2]
    have hcn : cnt.toNat ≤ 400 := by
      simp only [seaB, Bool.and_eq_true, inB_iff] at o3; omega
    have hmono : ∀ a b, 1 ≤ a → a ≤ b → b ≤ 100000000 → batP s x lat fr cnt a = true → batP s x lat fr cnt b = true := fun a b _ h _ hp => las_ba (fun d hd => drkL_mem hd) h hp
    have hPd : ∀ m, lasB (withBa s m) (shareI x) (drkL lat fr cnt.toNat) = batP s x lat fr cnt m := fun _ => rfl
    subst hk0
    clear hV2 hK2
    generalize hPg : batP s x lat fr cnt = p at *
    have HPd := Lib.hid hPd; clear hPd
    have HM := Lib.hid hmono; clear hmono
    clear hPg
    obtain ⟨RV, hRV⟩ : ∃ RV, leaV p 1 100000000 = RV := ⟨_, rfl⟩
    obtain ⟨RK, hRK⟩ : ∃ RK, leaK p 100000000 = RK := ⟨_, rfl⟩
    rw [hRV, hRK]
    have HRV := Lib.hid hRV; clear hRV
    have HRK := Lib.hid hRK; clear hRK
    have hfz := fz_two (w := w) s #[.int .i64 x.k, .slice A n c, .string x.l, .string x.cs, .int .i64 x.p] 29 31
    have Hfz := Lib.hid hfz; clear hfz
    obtain ⟨hSt, hCh, hb0⟩ := two_box (s := s) (c := c) 29 31 sl hn hlz hs
    have hPc : ∀ w1, Below ((w.alloc (stO s 29)).alloc (chO x A n c 31)).heap.size ((w.alloc (stO s 29)).alloc (chO x A n c 31)) w1 → _ := fun w1 hb => powerCode_c s A n c x w1 ((hCh.next hb).sl) hn hlz hs lat fr cnt
    have HP := Lib.hid hPc; clear hPc
    go_enter Tryz.func21, Tryz.ntmps21
    go_wp2_with fail
    generalize (w.alloc (.cells #[.int .i64 s.la, .int .i64 s.sb, .int .i64 s.ba, .int .i64 s.pa, .int .i64 s.sh] 29)).alloc (.cells #[.int .i64 x.k, .slice A n c, .string x.l, .string x.cs, .int .i64 x.p] 31) = w0 at *
    obtain ⟨a0, a1, a2, a3, a4, hbs⟩ := hSt
    obtain ⟨c0, c1, c2, c3, c4, hbc, sl0, _, _, _⟩ := hCh
    simp only [Nat.zero_add] at c0 c1 c2 c3 c4
    refine (HP.out _ (Below.refl _ _)).mono ?_
    rw [hk]
    rintro e w1 ⟨rfl, hb1⟩
    have hSt0 : StP w0 w.heap.size s := ⟨a0, a1, a2, a3, a4, hbs⟩
    have r1 := keepC hb1 (w.heap.size + 1) hbc
    have hfz1 : ∀ i, w1.frozen? ⟨w.heap.size, i, none⟩ = false := fun i => (keepF hb1 _ hbs i).trans (Hfz.out i)
    have hSt1 := hSt0.next hb1
    have sl1 := sl0.next hb1
    have hb01 := hb0.trans (hb1.mono hb0.size)
    clear hSt0 hb1 HP a0 a1 a2 a3 a4 Hfz
    have Hfz1 := Lib.hid hfz1; clear hfz1
    go_wp2_with fail
    refine (litShare_c A n c x _ sl1 hn hlz hs o2).mono ?_
    rintro e w2 ⟨rfl, hb2⟩
    have hSt2 := hSt1.next hb2
    have hfz2 : ∀ i, w2.frozen? ⟨w.heap.size, i, none⟩ = false := fun i => (keepF hb2 _ hSt1.hb i).trans (Hfz1.out i)
    have hb02 := hb01.trans (hb2.mono hb01.size)
    have Hfz2 := Lib.hid hfz2; clear hfz2
    go_wp2_with fail
    refine (darks_c lat fr cnt _ o3).mono ?_
    rintro e w3 ⟨v3, rfl, hov, hb3⟩
    obtain ⟨A3, c3', rfl⟩ := own_slice hov
    have hSt3 := hSt2.next hb3
    have hfz3 : ∀ i, w3.frozen? ⟨w.heap.size, i, none⟩ = false := fun i => (keepF hb3 _ hSt2.hb i).trans (Hfz2.out i)
    have hb03 := hb02.trans (hb3.mono hb02.size)
    have hbb := hSt2.hb
    have hLm : ∀ d ∈ drkL lat fr cnt.toNat, 0 ≤ d ∧ d ≤ 1440 := fun d hd => drkL_mem hd
    obtain ⟨g2, hg2⟩ : ∃ g, w2.heap.size = g := ⟨_, rfl⟩
    rw [hg2] at hov hbb
    clear hg2 hSt2 hSt1 hb2 hb3 Hfz1 Hfz2 hb01 hb02 sl1 sl0 r1 c0 c1 c2 c3 c4
    generalize drkL lat fr cnt.toNat = L at *
    generalize shareI x = sh at *
    generalize cnt.toNat = N at *
    have Hfz3 := Lib.hid hfz3; clear hfz3
    have hbA : Below w3.heap.size w3 ((w3.alloc (.cells #[.int .i64 sh] 2)).alloc (.cells #[.slice A3 N c3'] 24)) := by (repeat (first | (with_reducible assumption) | (with_reducible exact Below.refl _ _) | exact Nat.le_refl _ | exact Below.size (by with_reducible assumption) | (with_reducible refine Below.drew ?_) | (with_reducible refine below_drewN ?_ _) | (with_reducible refine Below.alloc ?_ ?_ _) | (with_reducible refine Below.setCell ?_ ?_ _) | (with_reducible refine le_alloc ?_ _) | (with_reducible refine le_set ?_ _ _) | (with_reducible refine le_drew ?_) | (with_reducible refine le_drewN ?_ _) | omega | (dsimp only; omega)))
    have hA2 : ((w3.alloc (.cells #[.int .i64 sh] 2)).alloc (.cells #[.slice A3 N c3'] 24)).heap[w3.heap.size]? = some (.cells #[.int .i64 sh] 2 (0, 0)) := heap_alloc2_old w3 _ _
    have hA3 : ((w3.alloc (.cells #[.int .i64 sh] 2)).alloc (.cells #[.slice A3 N c3'] 24)).heap[w3.heap.size + 1]? = some (.cells #[.slice A3 N c3'] 24 (0, 0)) := heap_alloc2_new w3 _ _
    have hI : CloI withBa w w.heap.size w3.heap.size (w3.heap.size + 1) s sh A3 N c3' L g2 ((w3.alloc (.cells #[.int .i64 sh] 2)).alloc (.cells #[.slice A3 N c3'] 24)) :=
      ⟨⟨s, hSt3.next hbA, fun _ => rfl⟩, fun i => (keepF hbA _ hSt3.hb i).trans (Hfz3.out i), (cell_of_row _ _ _ _ _ _ hA2).trans rfl, (cell_of_row _ _ _ _ _ _ hA3).trans rfl, by simp; omega, by simp, own_next hov hbA, hb03.trans (hbA.mono hb03.size)⟩
    have hz3 := hSt3.hb
    clear hbA hA2 hA3 hSt3 hov hb03 Hfz3
    have HI := Lib.hid hI; clear hI
    go_wp2_with fail
    generalize (w3.alloc (.cells #[.int .i64 sh] 2)).alloc (.cells #[.slice A3 N c3'] 24) = w4 at *
    refine (leastBat_c w.heap.size w3.heap.size (w3.heap.size + 1) p 1 100000000 (CloI withBa w w.heap.size w3.heap.size (w3.heap.size + 1) s sh A3 N c3' L g2) w4 (by omega) (by omega) (by omega) HM.out (fun m w1 m1 m2 hw1 => ?_) HI.out).mono ?_
    · have := cloBat_c w w.heap.size w3.heap.size (w3.heap.size + 1) s sh A3 N c3' L g2 m w1 hw1 ok sh1 sh2 hcn hLm m1 m2 (by omega) (by omega) hbb (Nat.le_refl _)
      rwa [HPd.out] at this
    · rw [HRV.out, HRK.out]
      rintro e w5 ⟨rfl, hI5⟩
      have hb5 := hI5.bw
      go_wp2_with fail
      go_ret2
      exact ⟨rfl, hb5⟩
  · have hno := pow_no (s := s) (x := x) (lat := lat) (fr := fr) (cnt := cnt) (by rw [hk]; exact hk0)
    have hV2 : batV s x lat fr cnt = 0 := by rw [batV, hno]; rfl
    have hK2 : batK s x lat fr cnt = k := by rw [batK, hno, ← hk]; rfl
    rw [hV2, hK2]
    have hkb : (k == 0) = false := by simpa using hk0
    have HV2 := Lib.hid hV2; clear hV2
    have HK2 := Lib.hid hK2; clear hK2
    have Hno := Lib.hid hno; clear hno
    obtain ⟨hSt, hCh, hb0⟩ := two_box (s := s) (c := c) 29 31 sl hn hlz hs
    have hPc : ∀ w1, Below ((w.alloc (stO s 29)).alloc (chO x A n c 31)).heap.size ((w.alloc (stO s 29)).alloc (chO x A n c 31)) w1 → _ := fun w1 hb => powerCode_c s A n c x w1 ((hCh.next hb).sl) hn hlz hs lat fr cnt
    have HP := Lib.hid hPc; clear hPc
    go_enter Tryz.func21, Tryz.ntmps21
    go_wp2_with fail
    generalize (w.alloc (.cells #[.int .i64 s.la, .int .i64 s.sb, .int .i64 s.ba, .int .i64 s.pa, .int .i64 s.sh] 29)).alloc (.cells #[.int .i64 x.k, .slice A n c, .string x.l, .string x.cs, .int .i64 x.p] 31) = w0 at *
    obtain ⟨a0, a1, a2, a3, a4, hbs⟩ := hSt
    obtain ⟨c0, c1, c2, c3, c4, hbc, sl0, _, _, _⟩ := hCh
    simp only [Nat.zero_add] at c0 c1 c2 c3 c4
    refine (HP.out _ (Below.refl _ _)).mono ?_
    rw [hk]
    rintro e w1 ⟨rfl, hb1⟩
    have hb01 := hb0.trans (hb1.mono hb0.size)
    go_wp2_with fail
    go_ret2
    exact ⟨rfl, hb01⟩
set_option maxRecDepth 100000 in
set_option maxHeartbeats 1000000 in
theorem cloPan_c (W : World) (b b2 b3 : Nat) (s : St) (sh : Int) (A3 : Option Addr) (N c3 : Nat) (L : List Int) (g2 : Nat) (m : Int) (w : World) (h : CloI withPa W b b2 b3 s sh A3 N c3 L g2 w) (ok : StOk s) (s1 : 0 ≤ sh) (s2 : sh ≤ 1000000) (hN : N ≤ 400) (hL : ∀ d ∈ L, 0 ≤ d ∧ d ≤ 1440) (m1 : 0 ≤ m) (m2 : m ≤ 1000000) (_n2 : b2 ≠ b) (_n3 : b3 ≠ b) (hg : b < g2) (hW : W.heap.size ≤ b) :
    Calls Tryz.prog 47 #[.int .i64 m, .pointer (some ⟨b, 0, none⟩), .pointer (some ⟨b2, 0, none⟩), .pointer (some ⟨b3, 0, none⟩)] w fun e w' => e = .returned (.bool (lasB (withPa s m) sh L)) ∧ CloI withPa W b b2 b3 s sh A3 N c3 L g2 w' := by
  obtain ⟨⟨s', hSt, hsw⟩, hfz, k2, k3, l2, l3, hov, hbw⟩ := h
  have hStn := stp_pa hSt m
  rw [hsw m] at hStn
  have hov2 := ownsRow_setCell_below hov (a := ⟨b, 3, none⟩) hg (.int .i64 m)
  have hb2 : Below W.heap.size W (w.setCell ⟨b, 3, none⟩ (.int .i64 m)) := hbw.setCell (p := ⟨b, 3, none⟩) hW _
  have hfn : ∀ i, (w.setCell ⟨b, 3, none⟩ (.int .i64 m)).frozen? ⟨b, i, none⟩ = false := fun i => by rw [World.frozen?_setCell]; exact hfz i
  have j2 : (w.setCell ⟨b, 3, none⟩ (.int .i64 m)).cell? ⟨b2, 0, none⟩ = some (.int .i64 sh) := (World.cell?_setCell_other _ _ _ _ (by simp)).trans k2
  have j3 : (w.setCell ⟨b, 3, none⟩ (.int .i64 m)).cell? ⟨b3, 0, none⟩ = some (.slice A3 N c3) := (World.cell?_setCell_other _ _ _ _ (by simp)).trans k3
  have l2' : b2 < (w.setCell ⟨b, 3, none⟩ (.int .i64 m)).heap.size := by simpa using l2
  have l3' : b3 < (w.setCell ⟨b, 3, none⟩ (.int .i64 m)).heap.size := by simpa using l3
  obtain ⟨w5, hw5⟩ : ∃ w5, w.setCell ⟨b, 3, none⟩ (.int .i64 m) = w5 := ⟨_, rfl⟩
  rw [hw5] at hStn hov2 hb2 hfn j2 j3 l2' l3'
  obtain ⟨cc0, cc1, cc2, cc3, cc4, hbs⟩ := id hSt
  obtain ⟨dd0, dd1, dd2, dd3, dd4, hbs'⟩ := id hStn
  have hfo := hfz 3
  have hz := lasts_c (withPa s m) sh A3 N c3 L w5 (ok_pa ok m1 m2) s1 s2 (Sl.of_own hov2) hN hL
  have HZ := Lib.hid hz; clear hz
  have Hfz := Lib.hid hfz; clear hfz
  have Hfn := Lib.hid hfn; clear hfn
  have Hsw := Lib.hid hsw; clear hsw
  go_enter Tryz.func47, Tryz.ntmps47
  go_wp2_with fail
  clear hw5 cc0 cc1 cc2 cc3 cc4 hfo k2 k3
  refine HZ.out.mono ?_
  rintro e w6 ⟨rfl, hb6⟩
  go_wp2_with fail
  go_ret
  exact ⟨rfl, ⟨⟨withPa s m, hStn.next hb6, fun _ => rfl⟩, fun i => (keepF hb6 _ hStn.hb i).trans (Hfn.out i), (keepC hb6 _ l2' _).trans j2, (keepC hb6 _ l3' _).trans j3, Nat.lt_of_lt_of_le l2' hb6.size, Nat.lt_of_lt_of_le l3' hb6.size, own_next hov2 hb6, hb2.trans (hb6.mono hb2.size)⟩⟩
set_option maxRecDepth 100000 in
set_option maxHeartbeats 2000000 in
theorem implPan_c (s : St) (A : Option Addr) (n c : Nat) (x : Ch) (w : World) (sl : Sl w w.heap.size 1 A n (x.gs.flatMap intC)) (hn : n ≤ 1048576) (hlz : x.l.size ≤ 1048576) (hs : x.cs.size ≤ 1048576) (lat fr cnt : Int) :
    Calls Tryz.prog 23 #[stV s, chV x.k A n c x.l x.cs x.p, .int .i64 lat, .int .i64 fr, .int .i64 cnt] w fun e w' => e = .returned (.tuple #[.int .i64 (panV s x lat fr cnt), .int .i64 (panK s x lat fr cnt)]) ∧ Below w.heap.size w w' := by
  obtain ⟨k, hk⟩ : ∃ k, powK s x lat fr cnt = k := ⟨_, rfl⟩
  by_cases hk0 : k = 0
  · obtain ⟨o1, o2, o3⟩ := pow_ok (hk.trans hk0)
    have ok := stB_ok o1
    obtain ⟨sh1, sh2⟩ := share_bd o2
    have hV2 : panV s x lat fr cnt = leaV (panP s x lat fr cnt) 0 1000000 := by rw [panV, okSC, o1, o2, o3]; rfl
    have hK2 : panK s x lat fr cnt = leaK (panP s x lat fr cnt) 1000000 := by rw [panK, okSC, o1, o2, o3]; rfl
    rw [hV2, hK2]
    have hcn : cnt.toNat ≤ 400 := by
      simp only [seaB, Bool.and_eq_true, inB_iff] at o3; omega
    have hmono : ∀ a b, 0 ≤ a → a ≤ b → b ≤ 1000000 → panP s x lat fr cnt a = true → panP s x lat fr cnt b = true := fun a b _ h _ hp => las_pa ok.h1 (fun d hd => drkL_mem hd) h hp
    have hPd : ∀ m, lasB (withPa s m) (shareI x) (drkL lat fr cnt.toNat) = panP s x lat fr cnt m := fun _ => rfl
    subst hk0
    clear hV2 hK2
    generalize hPg : panP s x lat fr cnt = p at *
    have HPd := Lib.hid hPd; clear hPd
    have HM := Lib.hid hmono; clear hmono
    clear hPg
    obtain ⟨RV, hRV⟩ : ∃ RV, leaV p 0 1000000 = RV := ⟨_, rfl⟩
    obtain ⟨RK, hRK⟩ : ∃ RK, leaK p 1000000 = RK := ⟨_, rfl⟩
    rw [hRV, hRK]
    have HRV := Lib.hid hRV; clear hRV
    have HRK := Lib.hid hRK; clear hRK
    have hfz := fz_two (w := w) s #[.int .i64 x.k, .slice A n c, .string x.l, .string x.cs, .int .i64 x.p] 29 31
    have Hfz := Lib.hid hfz; clear hfz
    obtain ⟨hSt, hCh, hb0⟩ := two_box (s := s) (c := c) 29 31 sl hn hlz hs
    have hPc : ∀ w1, Below ((w.alloc (stO s 29)).alloc (chO x A n c 31)).heap.size ((w.alloc (stO s 29)).alloc (chO x A n c 31)) w1 → _ := fun w1 hb => powerCode_c s A n c x w1 ((hCh.next hb).sl) hn hlz hs lat fr cnt
    have HP := Lib.hid hPc; clear hPc
    go_enter Tryz.func23, Tryz.ntmps23
    go_wp2_with fail
    generalize (w.alloc (.cells #[.int .i64 s.la, .int .i64 s.sb, .int .i64 s.ba, .int .i64 s.pa, .int .i64 s.sh] 29)).alloc (.cells #[.int .i64 x.k, .slice A n c, .string x.l, .string x.cs, .int .i64 x.p] 31) = w0 at *
    obtain ⟨a0, a1, a2, a3, a4, hbs⟩ := hSt
    obtain ⟨c0, c1, c2, c3, c4, hbc, sl0, _, _, _⟩ := hCh
    simp only [Nat.zero_add] at c0 c1 c2 c3 c4
    refine (HP.out _ (Below.refl _ _)).mono ?_
    rw [hk]
    rintro e w1 ⟨rfl, hb1⟩
    have hSt0 : StP w0 w.heap.size s := ⟨a0, a1, a2, a3, a4, hbs⟩
    have r1 := keepC hb1 (w.heap.size + 1) hbc
    have hfz1 : ∀ i, w1.frozen? ⟨w.heap.size, i, none⟩ = false := fun i => (keepF hb1 _ hbs i).trans (Hfz.out i)
    have hSt1 := hSt0.next hb1
    have sl1 := sl0.next hb1
    have hb01 := hb0.trans (hb1.mono hb0.size)
    clear hSt0 hb1 HP a0 a1 a2 a3 a4 Hfz
    have Hfz1 := Lib.hid hfz1; clear hfz1
    go_wp2_with fail
    refine (litShare_c A n c x _ sl1 hn hlz hs o2).mono ?_
    rintro e w2 ⟨rfl, hb2⟩
    have hSt2 := hSt1.next hb2
    have hfz2 : ∀ i, w2.frozen? ⟨w.heap.size, i, none⟩ = false := fun i => (keepF hb2 _ hSt1.hb i).trans (Hfz1.out i)
    have hb02 := hb01.trans (hb2.mono hb01.size)
    have Hfz2 := Lib.hid hfz2; clear hfz2
    go_wp2_with fail
    refine (darks_c lat fr cnt _ o3).mono ?_
    rintro e w3 ⟨v3, rfl, hov, hb3⟩
    obtain ⟨A3, c3', rfl⟩ := own_slice hov
    have hSt3 := hSt2.next hb3
    have hfz3 : ∀ i, w3.frozen? ⟨w.heap.size, i, none⟩ = false := fun i => (keepF hb3 _ hSt2.hb i).trans (Hfz2.out i)
    have hb03 := hb02.trans (hb3.mono hb02.size)
    have hbb := hSt2.hb
    have hLm : ∀ d ∈ drkL lat fr cnt.toNat, 0 ≤ d ∧ d ≤ 1440 := fun d hd => drkL_mem hd
    obtain ⟨g2, hg2⟩ : ∃ g, w2.heap.size = g := ⟨_, rfl⟩
    rw [hg2] at hov hbb
    clear hg2 hSt2 hSt1 hb2 hb3 Hfz1 Hfz2 hb01 hb02 sl1 sl0 r1 c0 c1 c2 c3 c4
    generalize drkL lat fr cnt.toNat = L at *
    generalize shareI x = sh at *
    generalize cnt.toNat = N at *
    have Hfz3 := Lib.hid hfz3; clear hfz3
    have hbA : Below w3.heap.size w3 ((w3.alloc (.cells #[.int .i64 sh] 2)).alloc (.cells #[.slice A3 N c3'] 24)) := by (repeat (first | (with_reducible assumption) | (with_reducible exact Below.refl _ _) | exact Nat.le_refl _ | exact Below.size (by with_reducible assumption) | (with_reducible refine Below.drew ?_) | (with_reducible refine below_drewN ?_ _) | (with_reducible refine Below.alloc ?_ ?_ _) | (with_reducible refine Below.setCell ?_ ?_ _) | (with_reducible refine le_alloc ?_ _) | (with_reducible refine le_set ?_ _ _) | (with_reducible refine le_drew ?_) | (with_reducible refine le_drewN ?_ _) | omega | (dsimp only; omega)))
    have hA2 : ((w3.alloc (.cells #[.int .i64 sh] 2)).alloc (.cells #[.slice A3 N c3'] 24)).heap[w3.heap.size]? = some (.cells #[.int .i64 sh] 2 (0, 0)) := heap_alloc2_old w3 _ _
    have hA3 : ((w3.alloc (.cells #[.int .i64 sh] 2)).alloc (.cells #[.slice A3 N c3'] 24)).heap[w3.heap.size + 1]? = some (.cells #[.slice A3 N c3'] 24 (0, 0)) := heap_alloc2_new w3 _ _
    have hI : CloI withPa w w.heap.size w3.heap.size (w3.heap.size + 1) s sh A3 N c3' L g2 ((w3.alloc (.cells #[.int .i64 sh] 2)).alloc (.cells #[.slice A3 N c3'] 24)) :=
      ⟨⟨s, hSt3.next hbA, fun _ => rfl⟩, fun i => (keepF hbA _ hSt3.hb i).trans (Hfz3.out i), (cell_of_row _ _ _ _ _ _ hA2).trans rfl, (cell_of_row _ _ _ _ _ _ hA3).trans rfl, by simp; omega, by simp, own_next hov hbA, hb03.trans (hbA.mono hb03.size)⟩
    have hz3 := hSt3.hb
    clear hbA hA2 hA3 hSt3 hov hb03 Hfz3
    have HI := Lib.hid hI; clear hI
    go_wp2_with fail
    generalize (w3.alloc (.cells #[.int .i64 sh] 2)).alloc (.cells #[.slice A3 N c3'] 24) = w4 at *
    refine (leastPan_c w.heap.size w3.heap.size (w3.heap.size + 1) p 0 1000000 (CloI withPa w w.heap.size w3.heap.size (w3.heap.size + 1) s sh A3 N c3' L g2) w4 (by omega) (by omega) (by omega) HM.out (fun m w1 m1 m2 hw1 => ?_) HI.out).mono ?_
    · have := cloPan_c w w.heap.size w3.heap.size (w3.heap.size + 1) s sh A3 N c3' L g2 m w1 hw1 ok sh1 sh2 hcn hLm m1 m2 (by omega) (by omega) hbb (Nat.le_refl _)
      rwa [HPd.out] at this
    · rw [HRV.out, HRK.out]
      rintro e w5 ⟨rfl, hI5⟩
      have hb5 := hI5.bw
      go_wp2_with fail
      go_ret2
      exact ⟨rfl, hb5⟩
  · have hno := pow_no (s := s) (x := x) (lat := lat) (fr := fr) (cnt := cnt) (by rw [hk]; exact hk0)
    have hV2 : panV s x lat fr cnt = 0 := by rw [panV, hno]; rfl
    have hK2 : panK s x lat fr cnt = k := by rw [panK, hno, ← hk]; rfl
    rw [hV2, hK2]
    have hkb : (k == 0) = false := by simpa using hk0
    have HV2 := Lib.hid hV2; clear hV2
    have HK2 := Lib.hid hK2; clear hK2
    have Hno := Lib.hid hno; clear hno
    obtain ⟨hSt, hCh, hb0⟩ := two_box (s := s) (c := c) 29 31 sl hn hlz hs
    have hPc : ∀ w1, Below ((w.alloc (stO s 29)).alloc (chO x A n c 31)).heap.size ((w.alloc (stO s 29)).alloc (chO x A n c 31)) w1 → _ := fun w1 hb => powerCode_c s A n c x w1 ((hCh.next hb).sl) hn hlz hs lat fr cnt
    have HP := Lib.hid hPc; clear hPc
    go_enter Tryz.func23, Tryz.ntmps23
    go_wp2_with fail
    generalize (w.alloc (.cells #[.int .i64 s.la, .int .i64 s.sb, .int .i64 s.ba, .int .i64 s.pa, .int .i64 s.sh] 29)).alloc (.cells #[.int .i64 x.k, .slice A n c, .string x.l, .string x.cs, .int .i64 x.p] 31) = w0 at *
    obtain ⟨a0, a1, a2, a3, a4, hbs⟩ := hSt
    obtain ⟨c0, c1, c2, c3, c4, hbc, sl0, _, _, _⟩ := hCh
    simp only [Nat.zero_add] at c0 c1 c2 c3 c4
    refine (HP.out _ (Below.refl _ _)).mono ?_
    rw [hk]
    rintro e w1 ⟨rfl, hb1⟩
    have hb01 := hb0.trans (hb1.mono hb0.size)
    go_wp2_with fail
    go_ret2
    exact ⟨rfl, hb01⟩
end Go.Proofs.YtpgcgmbjlecnpaaGreat
