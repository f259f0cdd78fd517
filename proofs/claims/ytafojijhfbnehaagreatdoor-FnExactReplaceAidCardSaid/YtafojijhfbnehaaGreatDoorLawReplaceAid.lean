/- The walk of the law FnExactReplaceAid. -/
import Derived.Test.YtafojijhfbnehaaGreatDoorRpG
import Derived.Test.YtafojijhfbnehaaGreatDoorLsG
namespace Go.Proofs.YtafojijhfbnehaaGreatDoor
open Go.RowKit
theorem rp_mem {l : List AidX} {b a : AidX} (h : a ∈ raL l b) : a ∈ l ∨ a = b := by
  unfold raL at h
  cases hB : (aidsB l && aidB b) <;> rw [hB] at h
  · simp at h
  · simp only [cond_true] at h
    unfold rpL at h
    cases hF : fdN l b.num with
    | none => rw [hF] at h; simp at h
    | some k =>
      rw [hF] at h
      simp only [Option.elim_some] at h
      exact List.mem_or_eq_of_mem_set h
theorem rp_len (l : List AidX) (b : AidX) : (raL l b).length ≤ l.length := by
  unfold raL
  cases (aidsB l && aidB b)
  · simp
  · simp only [cond_true]
    unfold rpL
    cases fdN l b.num with
    | none => simp
    | some k => simp
set_option maxRecDepth 100000 in
set_option maxHeartbeats 8000000 in
theorem lawReplaceAid_c (A : Option Addr) (n c : Nat) (zs : List AidG) (z : AidG) (w : World) (h : Sl w w.heap.size 16 A n (zs.flatMap AidG.cells) ∧ ∀ z ∈ zs, AidRd w z) (hm : n ≤ maxLen) (hr : AidRd w z) (ht : Tab w) :
    Calls Tryz.prog 10 #[.slice A n c, z.val] w fun e w' => e = .returned (.bool true) ∧ Below w.heap.size w w' := by
  have hb0 : Below w.heap.size w (w.alloc (aidO z 43)) := by (repeat (first | (with_reducible assumption) | (with_reducible exact Below.refl _ _) | exact Nat.le_refl _ | exact Below.size (by with_reducible assumption) | (with_reducible refine Below.drew ?_) | (with_reducible refine below_drewN ?_ _) | (with_reducible refine Below.alloc ?_ ?_ _) | (with_reducible refine Below.setCell ?_ ?_ _) | (with_reducible refine le_alloc ?_ _) | (with_reducible refine le_set ?_ _ _) | (with_reducible refine le_drew ?_) | (with_reducible refine le_drewN ?_ _) | omega | (dsimp only; omega)))
  have p1 := aidp_box w z 43
  obtain ⟨w0, hw⟩ : ∃ w0, w.alloc (aidO z 43) = w0 := ⟨_, rfl⟩
  rw [hw] at p1 hb0
  have h0 := h.1.next hb0
  have h0z := fun (z : AidG) (hz : z ∈ zs) => (h.2 z hz).next hb0
  have hr0 := hr.next hb0
  have H0 := Lib.hid h0; clear h0
  have H0z := Lib.hid h0z; clear h0z
  have HR0 := Lib.hid hr0; clear hr0
  go_enter Tryz.func10, Tryz.ntmps10
  go_wp2_with fail
  try rw [hw]
  clear hw
  refine (szAidS_c A n c zs _ _ H0.out hm H0z.out (by omega) (by omega)).mono ?_
  rintro e w1 ⟨r, rfl, hr1, hb1⟩
  have p1 := p1.next hb1
  have HR1 := Lib.hid (HR0.out.next hb1)
  replace hb1 := hb0.trans (hb1.mono hb0.size)
  have Hr := Lib.hid hr1; clear hr1
  clear H0 H0z HR0 hb0
  obtain ⟨c0, c1, c2, c3, c4, c5, c6, c7, c8, c9, c10, c11, c12, c13, c14, c15, _⟩ := id p1
  simp only [Nat.zero_add] at c1 c2 c3 c4 c5 c6 c7 c8 c9 c10 c11 c12 c13 c14 c15
  go_wp2_with fail
  · go_ret
    exact ⟨rfl, hb1⟩
  have hbd : (∀ z ∈ zs, AidBd z.a) ∧ n ≤ 1048576 ∧ 0 ≤ r ∧ r ≤ 1048576 := by
    rcases Hr.out with h3 | ⟨h3, h4, h5⟩
    · omega
    · exact ⟨h5, by omega, by omega, by omega⟩
  obtain ⟨bd, hn, hr2, hr3⟩ := hbd
  clear Hr
  have HBd := Lib.hid bd; clear bd
  refine (szAid_c z r _ HR1.out hr2 hr3).mono ?_
  rintro e w2 ⟨q, rfl, hq, hb2⟩
  clear c0 c1 c2 c3 c4 c5 c6 c7 c8 c9 c10 c11 c12 c13 c14 c15
  have p2 := p1.next hb2
  replace hb1 := hb1.trans (hb2.mono hb1.size)
  have Hq := Lib.hid hq; clear hq
  clear HR1 hb2 p1
  go_wp2_with fail
  · go_ret
    exact ⟨rfl, hb1⟩
  have bda : AidBd z.a := by
    rcases Hq.out with h3 | ⟨_, _, h3⟩
    · omega
    · exact h3
  have bd := HBd.out
  clear Hq HBd hr2 hr3
  have s0 : AidSl w A n zs := ⟨h.1, fun z hz => (h.2 z hz).ok (bd z hz)⟩
  have z0 : AidOk w z := hr.ok bda
  obtain ⟨L, hL⟩ : ∃ L, raL (zs.map AidG.a) z.a = L := ⟨_, rfl⟩
  obtain ⟨K0, hK0⟩ : ∃ K, raK (zs.map AidG.a) z.a = K := ⟨_, rfl⟩
  obtain ⟨R, hRL⟩ : ∃ R, L.length = R := ⟨_, rfl⟩
  have bdL : ∀ a ∈ L, AidBd a := fun a ha => by
    rw [← hL] at ha
    rcases rp_mem ha with h3 | h3
    · obtain ⟨z, hz, rfl⟩ := List.mem_map.1 h3
      exact bd z hz
    · subst h3; exact bda
  have hR : R ≤ 1048576 := by
    have h1 := rp_len (zs.map AidG.a) z.a
    rw [hL, hRL, List.length_map, s0.len] at h1
    omega
  have hT : ∀ w', Below w2.heap.size w2 w' → Calls Tryz.prog 33 #[.slice A n c] w' fun e w'' => ∃ A' c' zs', e = .returned (.slice A' n c') ∧ Hid (zs'.map AidG.a = zs.map AidG.a) ∧ Hid (AidOwn w'' w'.heap.size (.slice A' n c') n zs') ∧ AidSl w'' A' n zs' ∧ Below w'.heap.size w' w'' := fun w' hb => by
    refine (toAidS_c A n c zs w' (s0.next (hb1.trans (hb.mono hb1.size))) hn).mono ?_
    rintro e w'' ⟨v', zs', he, hx, ho, hb'⟩
    obtain ⟨A', c', rfl⟩ := own_slice ho.own
    exact ⟨A', c', zs', he, Lib.hid hx, Lib.hid ho, ho.sl (bd_of hx bd), hb'⟩
  have hTa : ∀ w', Below w2.heap.size w2 w' → Calls Tryz.prog 47 #[z.val] w' fun e w'' => ∃ A1 c1 B1 d1, e = .returned (AidG.val ⟨z.a, A1, c1, B1, d1⟩) ∧ Hid (AidNew w'' w'.heap.size ⟨z.a, A1, c1, B1, d1⟩) ∧ Below w'.heap.size w' w'' := fun w' hb => by
    refine (toAid_c z w' (z0.next (hb1.trans (hb.mono hb1.size)))).mono ?_
    rintro e w'' ⟨⟨a1, A1, c1, B1, d1⟩, he, ha, hN, hb'⟩
    simp only at ha
    subst ha
    exact ⟨A1, c1, B1, d1, he, Lib.hid hN, hb'⟩
  have hS : ∀ w' A' c' zs' A1 c1 B1 d1, AidSl w' A' n zs' → zs'.map AidG.a = zs.map AidG.a → AidOk w' ⟨z.a, A1, c1, B1, d1⟩ → Calls Tryz.prog 46 #[.slice A' n c', AidG.val ⟨z.a, A1, c1, B1, d1⟩] w' fun e w'' => ∃ A1 c1 zs1, e = .returned (.tuple #[.slice A1 R c1, .int .i64 K0]) ∧ Hid (zs1.map AidG.a = L) ∧ Hid (AidOwn w'' w'.heap.size (.slice A1 R c1) R zs1) ∧ Below w'.heap.size w' w'' := fun w' A' c' zs' A1 c1 B1 d1 hs hx hz => by
    refine (specReplaceAid_c A' n c' zs' ⟨z.a, A1, c1, B1, d1⟩ w' hs hn hz).mono ?_
    rintro e w'' ⟨A1, n1, c1, zs1, he, ha, hO, hb⟩
    rw [hx, hL] at ha
    have hn1 : n1 = R := by rw [← hRL, ← ha, List.length_map, hO.len']
    subst hn1
    rw [hx, hK0] at he
    exact ⟨A1, c1, zs1, he, Lib.hid ha, Lib.hid hO, hb⟩
  have hI : ∀ w' A' c' zs' A1 c1 B1 d1, AidSl w' A' n zs' → zs'.map AidG.a = zs.map AidG.a → AidOk w' ⟨z.a, A1, c1, B1, d1⟩ → Below w2.heap.size w2 w' → Calls Tryz.prog 48 #[.slice A' n c', AidG.val ⟨z.a, A1, c1, B1, d1⟩] w' fun e w'' => ∃ A1 c1 zs1, e = .returned (.tuple #[.slice A1 R c1, .int .i64 K0]) ∧ Hid (zs1.map AidG.a = L) ∧ Hid (AidOwn w'' w'.heap.size (.slice A1 R c1) R zs1) ∧ Hid (AidDif zs1) ∧ Below w'.heap.size w' w'' := fun w' A' c' zs' A1 c1 B1 d1 hs hx hz hbb => by
    refine (implReplaceAid_c A' n c' zs' ⟨z.a, A1, c1, B1, d1⟩ w' hs hn hz (ht.next (hb1.trans (hbb.mono hb1.size)))).mono ?_
    rintro e w'' ⟨A1, n1, c1, zs1, he, ha, hO, hd, hb⟩
    rw [hx, hL] at ha
    have hn1 : n1 = R := by rw [← hRL, ← ha, List.length_map, hO.len']
    subst hn1
    rw [hx, hK0] at he
    exact ⟨A1, c1, zs1, he, Lib.hid ha, Lib.hid hO, Lib.hid hd, hb⟩
  have hbz : ∀ zs' : List AidG, zs'.map AidG.a = zs.map AidG.a → ∀ z ∈ zs', z.n ≤ 1048576 ∧ z.m ≤ 1048576 := fun zs' hx => gmOf (bd_of hx bd)
  have hgs : z.a.ch.gs.length ≤ 1048576 := bda.gs
  have hss : z.a.secs.length ≤ 1048576 := bda.ss
  clear hL hK0 hRL bd ht s0 z0 h hr
  have HT := Lib.hid hT; clear hT
  have HTa := Lib.hid hTa; clear hTa
  have HS := Lib.hid hS; clear hS
  have HI := Lib.hid hI; clear hI
  have HBz := Lib.hid hbz; clear hbz
  have HBL := Lib.hid bdL; clear bdL
  have HBda := Lib.hid bda; clear bda
  as_aux_lemma =>
    obtain ⟨c0, c1, c2, c3, c4, c5, c6, c7, c8, c9, c10, c11, c12, c13, c14, c15, z1⟩ := id p2
    simp only [Nat.zero_add] at c1 c2 c3 c4 c5 c6 c7 c8 c9 c10 c11 c12 c13 c14 c15
    have e1 : ∀ {w' : World}, Below w2.heap.size w2 w' → (Below w2.heap.size w2 w' ∧ (∀ x, w'.cell? ⟨w.heap.size, x, none⟩ = w2.cell? ⟨w.heap.size, x, none⟩)) := fun hbb => ⟨hbb, keepC hbb _ z1⟩
    go_region_held3 (fun w' => Below w2.heap.size w2 w' ∧ (∀ x, w'.cell? ⟨w.heap.size, x, none⟩ = w2.cell? ⟨w.heap.size, x, none⟩)) (first | exact e1 (Below.refl _ _).drew | exact e1 ((Below.refl _ _).drew.trans hb3) | exact e1 (((Below.refl _ _).drew.trans hb3).trans (hb4.mono hb3.size)) | exact e1 ((((Below.refl _ _).drew.trans hb3).trans (hb4.mono hb3.size)).trans (hb5.mono (Nat.le_trans hb3.size hb4.size)))) (first | (go_at_call 33; refine (HT.out _ (Below.refl _ _).drew).mono ?_; rintro e w3 ⟨A2, g2, zs2, rfl, E2, O2, s2, hb3⟩) | (go_at_call 47; refine (HTa.out _ ((Below.refl _ _).drew.trans hb3)).mono ?_; rintro e w4 ⟨A3, g3, B3, d3, rfl, HN3, hb4⟩) | (go_at_call 46; refine (HS.out _ A2 g2 zs2 A3 g3 B3 d3 (s2.next hb4) E2.out (HN3.out.ok HBda.out)).mono ?_; rintro e w5 ⟨AW, cW, zsW, rfl, EW, HW, hb5⟩))
    have b5 := (((Below.refl w2.heap.size w2).drew.trans hb3).trans (hb4.mono hb3.size)).trans (hb5.mono (Nat.le_trans hb3.size hb4.size))
    have HWl := Lib.hid HW.out.lt
    clear hb3 hb4 hb5 s2 E2 O2 HN3 e1
    as_aux_lemma =>
      go_wp2_with fail
      refine (HT.out _ b5).mono ?_
      rintro e w6 ⟨A6, c6', zs6, rfl, E6, HO6, s6, hb6⟩
      have HW6 := Lib.hid (HW.out.next hb6)
      have HOl := Lib.hid HO6.out.lt
      have hz56 := hb6.size
      have b6 := b5.trans (hb6.mono b5.size)
      have p6 := p2.next b6
      clear HW hb6 c0 c1 c2 c3 c4 c5 c6 c7 c8 c9 c10 c11 c12 c13 c14 c15
      obtain ⟨c0, c1, c2, c3, c4, c5, c6, c7, c8, c9, c10, c11, c12, c13, c14, c15, _⟩ := id p6
      simp only [Nat.zero_add] at c1 c2 c3 c4 c5 c6 c7 c8 c9 c10 c11 c12 c13 c14 c15
      go_wp2_with fail
      refine (HTa.out _ b6).mono ?_
      rintro e w7 ⟨AX, cX, BX, dX, rfl, HX, hb7⟩
      have HW7 := Lib.hid (HW6.out.next hb7)
      have HO7 := Lib.hid (HO6.out.next hb7)
      have s7 := s6.next hb7
      have b7 := b6.trans (hb7.mono b6.size)
      have hz67 := hb7.size
      have hXl : (∀ k, (Value.slice AX z.a.ch.gs.length cX).ownBlock = some k → w6.heap.size ≤ k ∧ k < w7.heap.size) ∧ ∀ k, (Value.slice BX z.a.secs.length dX).ownBlock = some k → w6.heap.size ≤ k ∧ k < w7.heap.size := ⟨fun k hk => HX.out.g.lt k hk, fun k hk => HX.out.s.lt k hk⟩
      have HXl := Lib.hid hXl; clear hXl
      clear HW6 HO6 s6 hb7 b6 p6
      clear c0 c1 c2 c3 c4 c5 c6 c7 c8 c9 c10 c11 c12 c13 c14 c15
      have FX := (AidF.zero w7 53).set (⟨z.a, AX, cX, BX, dX⟩)
      have hbx := belowW (w7).heap.size (Nat.le_refl _) (AidG.cells (⟨z.a, AX, cX, BX, dX⟩)) 0 _ ((Below.refl (w7).heap.size w7).alloc (Nat.le_refl _) (aidZO 53))
      have TT := (AidF.zero w7 53).there 0 16 (by omega)
      have SZ : (w7).heap.size < (((w7).alloc (aidZO 53)).setCells (w7).heap.size 0 (AidG.cells (⟨z.a, AX, cX, BX, dX⟩))).heap.size := by rw [sizeW]; simp
      obtain ⟨w8, hWW⟩ : ∃ x, ((w7).alloc (aidZO 53)).setCells (w7).heap.size 0 (AidG.cells (⟨z.a, AX, cX, BX, dX⟩)) = x := ⟨_, rfl⟩
      rw [hWW] at FX hbx SZ
      have OO : (List.toArray (AidG.cells (⟨z.a, AX, cX, BX, dX⟩))).all (·.oneCell') = true := all_oneCell_toArray (aidg_one _)
      have HTT := Lib.hid TT; clear TT
      have HWW := Lib.hid hWW; clear hWW
      have HOO := Lib.hid OO; clear OO
      have HX8 := Lib.hid (HX.out.next hbx)
      have HW8 := Lib.hid (HW7.out.next hbx)
      have HO8 := Lib.hid (HO7.out.next hbx)
      have s8 := s7.next hbx
      have b8 := b7.trans (hbx.mono b7.size)
      have hz78 := SZ
      clear HX HW7 HO7 s7 hbx SZ b7
      have HFX := Lib.hid FX; clear FX
      as_aux_lemma =>
        have okX := HX8.out.ok HBda.out
        obtain ⟨f0, f1, f2, f3, f4, f5, f6, f7, f8, f9, f10, f11, f12, f13, f14, f15, _⟩ := (HFX.out).p
        simp only [Nat.zero_add] at f1 f2 f3 f4 f5 f6 f7 f8 f9 f10 f11 f12 f13 f14 f15
        go_wp2_with (first | (refine wpList_store_mid rfl _ _ _ rfl (w7).heap.size 0 (List.toArray (AidG.cells (⟨z.a, AX, cX, BX, dX⟩))) rfl rfl HTT.out (by kernel_rfl) HOO.out ?_; rw [show ((w7).alloc (aidZO 53)).setCells (w7).heap.size 0 (List.toArray (AidG.cells (⟨z.a, AX, cX, BX, dX⟩))).toList = w8 from HWW.out]))
        clear HTT HWW HOO
        refine (HI.out _ A6 c6' zs6 AX cX BX dX s8 E6.out okX b8).mono ?_
        rintro e w9 ⟨AG, cG, zsG, rfl, EG, HG, HD, hb9⟩
        clear f0 f1 f2 f3 f4 f5 f6 f7 f8 f9 f10 f11 f12 f13 f14 f15
        have HX9 := Lib.hid (HX8.out.next hb9)
        have HW9 := Lib.hid (HW8.out.next hb9)
        have HO9 := Lib.hid (HO8.out.next hb9)
        have HF9 := Lib.hid (HFX.out.next hb9)
        have s9 := s8.next hb9
        have b9 := b8.trans (hb9.mono b8.size)
        have hz89 := hb9.size
        clear HX8 HW8 HO8 HFX s8 b8 hb9 okX
        as_aux_lemma =>
          go_wp2_with fail
          refine (eqAidS_c AG AW R cG cW zsG zsW _ (HG.out.sl (bdOf HBL.out EG.out)) (HW9.out.sl (bdOf HBL.out EW.out)) (EG.out.trans EW.out.symm) hR).mono ?_
          rintro e w10 ⟨rfl, hb10⟩
          have HX10 := Lib.hid (HX9.out.next hb10)
          have HW10 := Lib.hid (HW9.out.next hb10)
          have HO10 := Lib.hid (HO9.out.next hb10)
          have HF10 := Lib.hid (HF9.out.next hb10)
          have HG10 := Lib.hid (HG.out.next hb10)
          have s10 := s9.next hb10
          have b10 := b9.trans (hb10.mono b9.size)
          have hz810 := Nat.le_trans hz89 hb10.size
          clear HX9 HW9 HO9 HF9 HG s9 b9 hb10 hz89
          go_wp2_with fail
          refine (HT.out _ b10).mono ?_
          rintro e w11 ⟨A11, c11', zs11, rfl, E11, _, s11, hb11⟩
          have HX11 := Lib.hid (HX10.out.next hb11)
          have HW11 := Lib.hid (HW10.out.next hb11)
          have HO11 := Lib.hid (HO10.out.next hb11)
          have HF11 := Lib.hid (HF10.out.next hb11)
          have HG11 := Lib.hid (HG10.out.next hb11)
          replace s10 := s10.next hb11
          have b11 := b10.trans (hb11.mono b10.size)
          have hz811 := Nat.le_trans hz810 hb11.size
          clear HX10 HW10 HO10 HF10 HG10 b10 hb11 hz810
          go_wp2_with fail
          refine (eqAidS_c A6 A11 n c6' c11' zs6 zs11 _ s10 s11 (E6.out.trans E11.out.symm) hn).mono ?_
          rintro e w12 ⟨rfl, hb12⟩
          have HX12 := Lib.hid (HX11.out.next hb12)
          have HW12 := Lib.hid (HW11.out.next hb12)
          have HO12 := Lib.hid (HO11.out.next hb12)
          have HF12 := Lib.hid (HF11.out.next hb12)
          have HG12 := Lib.hid (HG11.out.next hb12)
          have b12 := b11.trans (hb12.mono b11.size)
          have hz812 := Nat.le_trans hz811 hb12.size
          clear HX11 HW11 HO11 HF11 HG11 b11 hb12 hz811 s10 s11 E11
          as_aux_lemma =>
            obtain ⟨c0, c1, c2, c3, c4, c5, c6, c7, c8, c9, c10, c11, c12, c13, c14, c15, z12⟩ := p2.next b12
            simp only [Nat.zero_add] at c1 c2 c3 c4 c5 c6 c7 c8 c9 c10 c11 c12 c13 c14 c15
            obtain ⟨f0, f1, f2, f3, f4, f5, f6, f7, f8, f9, f10, f11, f12, f13, f14, f15, y12⟩ := HF12.out.p
            simp only [Nat.zero_add] at f1 f2 f3 f4 f5 f6 f7 f8 f9 f10 f11 f12 f13 f14 f15
            go_wp2_with fail
            have e3 : ∀ {w' : World}, Below w12.heap.size w12 w' → (Below w12.heap.size w12 w' ∧ (∀ x, w'.cell? ⟨w7.heap.size, x, none⟩ = w12.cell? ⟨w7.heap.size, x, none⟩) ∧ (∀ x, w'.cell? ⟨w.heap.size, x, none⟩ = w12.cell? ⟨w.heap.size, x, none⟩)) := fun hbb => ⟨hbb, keepC hbb _ y12, keepC hbb _ z12⟩
            go_region_held3 (fun w' => Below w12.heap.size w12 w' ∧ (∀ x, w'.cell? ⟨w7.heap.size, x, none⟩ = w12.cell? ⟨w7.heap.size, x, none⟩) ∧ (∀ x, w'.cell? ⟨w.heap.size, x, none⟩ = w12.cell? ⟨w.heap.size, x, none⟩)) (first | exact e3 (Below.refl _ _).drew | exact e3 ((Below.refl _ _).drew.trans hb13) | exact e3 (((Below.refl _ _).drew.trans hb13).trans (hb14.mono hb13.size))) (first | (go_at_call 47; refine (HTa.out _ b12.drew).mono ?_; rintro e w13 ⟨A13, c13', B13, d13, rfl, HN13, hb13⟩) | (go_at_call 49; refine (eqAid_c z.a AX A13 BX B13 cX c13' dX d13 _ (((HX12.out.next (Below.refl _ _).drew).next hb13).ok HBda.out) (HN13.out.ok HBda.out)).mono ?_; rintro e w14 ⟨rfl, hb14⟩))
            have hb14' := ((Below.refl w12.heap.size w12).drew.trans hb13).trans (hb14.mono hb13.size)
            have HX14 := Lib.hid (HX12.out.next hb14')
            have HW14 := Lib.hid (HW12.out.next hb14')
            have HO14 := Lib.hid (HO12.out.next hb14')
            have HF14 := Lib.hid (HF12.out.next hb14')
            have HG14 := Lib.hid (HG12.out.next hb14')
            have b14 := b12.trans (hb14'.mono b12.size)
            have hz814 := Nat.le_trans hz812 hb14'.size
            clear HX12 HW12 HO12 HF12 HG12 b12 hb13 hb14 hb14' hz812 HN13 e3 y12 z12 c0 c1 c2 c3 c4 c5 c6 c7 c8 c9 c10 c11 c12 c13 c14 c15
            clear f0 f1 f2 f3 f4 f5 f6 f7 f8 f9 f10 f11 f12 f13 f14 f15
            as_aux_lemma =>
              go_wp2_with fail
              refine (markAidS_c A6 n c6' zs6 w5.heap.size w6.heap.size _ HO14.out hn (HBz.out zs6 E6.out) HOl.out.v HOl.out.z).mono ?_
              rintro e w15 ⟨K1, rfl, hr, hK1, hK2⟩
              have HW15 := Lib.hid (HW14.out.rngLo hr HWl.out)
              have HX15 := Lib.hid (HX14.out.rng hr (Nat.le_refl _))
              have HF15 := Lib.hid (HF14.out.rng hr (.inr hz67))
              have HG15 := Lib.hid (HG14.out.rngHi hr (by omega))
              have b15 := below_rng b14 hr b5.size b14.size
              have hz815 := Nat.le_trans hz814 hr.size
              clear HX14 HW14 HO14 HF14 HG14 b14 hr HOl E6 hz814
              obtain ⟨f0, f1, f2, f3, f4, f5, f6, f7, f8, f9, f10, f11, f12, f13, f14, f15, _⟩ := (HF15.out).p
              simp only [Nat.zero_add] at f1 f2 f3 f4 f5 f6 f7 f8 f9 f10 f11 f12 f13 f14 f15
              go_wp2_with fail
              refine (markAid_c ⟨z.a, AX, cX, BX, dX⟩ K1 w6.heap.size _ HX15.out hgs hss (by omega) hK1 (by omega)).mono ?_
              rintro e w16 ⟨rfl, _, hb16, wm, hm1, hm2⟩
              clear f0 f1 f2 f3 f4 f5 f6 f7 f8 f9 f10 f11 f12 f13 f14 f15
              have hrX := (rng_grown hm1 HXl.out.1).trans (rng_grown hm2 HXl.out.2)
              have HW16 := Lib.hid (HW15.out.belowB hb16 (HWl.out.more hz56))
              have HG16 := Lib.hid (HG15.out.rngHi hrX (by omega))
              have b16 := b15.trans (hb16.mono (Nat.le_trans b5.size hz56))
              have hz816 := Nat.le_trans hz815 hb16.size
              have hneg : ¬ (((K1 + z.a.ch.gs.length + 3 * z.a.secs.length : Nat) : Int) < 0) := by omega
              clear HX15 HW15 HF15 HG15 b15 hb16 hm1 hm2 hrX hz815 HXl
              go_wp2_with fail
              refine (eqAidS_c AG AW R cG cW zsG zsW _ (HG16.out.sl (bdOf HBL.out EG.out)) (HW16.out.sl (bdOf HBL.out EW.out)) (EG.out.trans EW.out.symm) hR).mono ?_
              rintro e w17 ⟨rfl, hb17⟩
              have HW17 := Lib.hid (HW16.out.next hb17)
              have HG17 := Lib.hid (HG16.out.next hb17)
              have b17 := b16.trans (hb17.mono b16.size)
              have hz817 := Nat.le_trans hz816 hb17.size
              clear HW16 HG16 b16 hb17 hz816 hneg hK1 hK2
              as_aux_lemma =>
                go_wp2_with fail
                refine (markAidSW_c AG R cG zsG w8.heap.size _ HG17.out HD.out hR (gmOf (bdOf HBL.out EG.out)) hz817).mono ?_
                rintro e w18 ⟨rfl, hG18, hb18⟩
                obtain ⟨M, hM⟩ : ∃ M, mkK zsG 1 = M := ⟨_, rfl⟩
                have hH : ∀ w', AidOwn w' w8.heap.size (.slice AG R cG) R (mkL zsG 1) → Calls Tryz.prog 44 #[.slice AG R cG, .int .i64 1] w' fun e w'' => e = .returned (.int .i64 (M : Nat)) ∧ Below w'.heap.size w' w'' := fun w' h => by
                  have := heldAidS_c AG R cG zsG w8.heap.size w' h hR (gmOf (bdOf HBL.out EG.out))
                  rwa [hM] at this
                rw [hM]
                clear hM
                have HW18 := Lib.hid (HW17.out.belowB hb18 (HWl.out.more (by omega)))
                have b18 := b17.trans (hb18.mono (by have := b5.size; omega))
                have hneg : ¬ ((M : Int) < 0) := by omega
                have HG18 := Lib.hid hG18; clear hG18
                have HH := Lib.hid hH; clear hH
                clear HW17 HG17 b17 hb18 hz817 HWl
                go_wp2_with fail
                refine (HH.out _ HG18.out).mono ?_
                rintro e w19 ⟨rfl, hb19⟩
                have HW19 := Lib.hid (HW18.out.next hb19)
                have HG19 := Lib.hid (HG18.out.next hb19)
                have b19 := b18.trans (hb19.mono b18.size)
                clear HW18 HG18 b18 hb19
                as_aux_lemma =>
                  go_wp2_with fail
                  obtain ⟨c0, c1, c2, c3, c4, c5, c6, c7, c8, c9, c10, c11, c12, c13, c14, c15, z19⟩ := p2.next b19
                  simp only [Nat.zero_add] at c1 c2 c3 c4 c5 c6 c7 c8 c9 c10 c11 c12 c13 c14 c15
                  have e4 : ∀ {w' : World}, Below w19.heap.size w19 w' → (Below w19.heap.size w19 w' ∧ (∀ x, w'.cell? ⟨w.heap.size, x, none⟩ = w19.cell? ⟨w.heap.size, x, none⟩)) := fun hbb => ⟨hbb, keepC hbb _ z19⟩
                  go_region_held3 (fun w' => Below w19.heap.size w19 w' ∧ (∀ x, w'.cell? ⟨w.heap.size, x, none⟩ = w19.cell? ⟨w.heap.size, x, none⟩)) (first | exact e4 (Below.refl _ _).drew | exact e4 ((Below.refl _ _).drew.trans hb20) | exact e4 (((Below.refl _ _).drew.trans hb20).trans (hb21.mono hb20.size)) | exact e4 ((((Below.refl _ _).drew.trans hb20).trans (hb21.mono hb20.size)).trans (hb22.mono (Nat.le_trans hb20.size hb21.size)))) (first | (go_at_call 33; refine (HT.out _ b19.drew).mono ?_; rintro e w20 ⟨A20, c20, zs20, rfl, E20, O20, s20, hb20⟩) | (go_at_call 47; refine (HTa.out _ (b19.drew.trans (hb20.mono b19.size))).mono ?_; rintro e w21 ⟨A21, c21, B21, d21, rfl, HN21, hb21⟩) | (go_at_call 48; refine (HI.out _ A20 c20 zs20 A21 c21 B21 d21 (s20.next hb21) E20.out (HN21.out.ok HBda.out) ((b19.drew.trans (hb20.mono b19.size)).trans (hb21.mono (Nat.le_trans b19.size hb20.size)))).mono ?_; rintro e w22 ⟨AH, cH, zsH, rfl, EH, HH', _, hb22⟩))
                  have hb22' := (((Below.refl w19.heap.size w19).drew.trans hb20).trans (hb21.mono hb20.size)).trans (hb22.mono (Nat.le_trans hb20.size hb21.size))
                  have HW22 := Lib.hid (HW19.out.next hb22')
                  have HG22 := Lib.hid (HG19.out.next hb22')
                  have b22 := b19.trans (hb22'.mono b19.size)
                  clear HW19 HG19 b19 hb20 hb21 hb22 hb22' s20 E20 O20 HN21 e4 z19 c0 c1 c2 c3 c4 c5 c6 c7 c8 c9 c10 c11 c12 c13 c14 c15
                  as_aux_lemma =>
                    go_wp2_with fail
                    refine (eqAidS_c AH AW R cH cW zsH zsW _ (HH'.out.sl (bdOf HBL.out EH.out)) (HW22.out.sl (bdOf HBL.out EW.out)) (EH.out.trans EW.out.symm) hR).mono ?_
                    rintro e w23 ⟨rfl, hb23⟩
                    have HG23 := Lib.hid (HG22.out.next hb23)
                    have b23 := b22.trans (hb23.mono b22.size)
                    clear HW22 HG22 b22 hb23 HH' EH
                    go_wp2_with fail
                    refine (HH.out _ HG23.out).mono ?_
                    rintro e w24 ⟨rfl, hb24⟩
                    have b24 := b23.trans (hb24.mono b23.size)
                    go_wp2_with fail
                    go_ret
                    exact ⟨rfl, hb1.trans (b24.mono hb1.size)⟩
end Go.Proofs.YtafojijhfbnehaaGreatDoor
