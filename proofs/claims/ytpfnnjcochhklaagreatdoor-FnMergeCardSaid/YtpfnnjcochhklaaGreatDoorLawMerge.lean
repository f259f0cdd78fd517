
/- The walk of the law FnMerge. -/
import Derived.Test.YtpfnnjcochhklaaGreatDoorMgQ
import Derived.Test.YtpfnnjcochhklaaGreatDoorMgL
import Derived.Test.YtpfnnjcochhklaaGreatDoorMgK
import Derived.Test.YtpfnnjcochhklaaGreatDoorSrcG
namespace Go.Proofs.YtpfnnjcochhklaaGreatDoor
open Go.RowKit
set_option maxRecDepth 100000 in
set_option maxHeartbeats 8000000 in
theorem lawMerge_c (hD : DrawC) (A : Option Addr) (n c : Nat) (bs : List Int) (A' : Option Addr) (n' c' : Nat) (bs' : List Int) (w : World) (hx : Sl w w.heap.size 1 A n (bs.flatMap u8C)) (hb : ∀ x ∈ bs, 0 ≤ x ∧ x ≤ 255) (hn : n ≤ maxLen) (hx' : Sl w w.heap.size 1 A' n' (bs'.flatMap u8C)) (hb' : ∀ x ∈ bs', 0 ≤ x ∧ x ≤ 255) (hn' : n' ≤ maxLen) (ht : Tab w) :
    Calls Tryz.prog 3 #[.slice A n c, .slice A' n' c'] w fun e w' => e = .returned (.bool true) ∧ Below w.heap.size w w' := by
  have Hb := Lib.hid hb; clear hb
  have Hb2 := Lib.hid hb'; clear hb'
  have HX := Lib.hid hx; clear hx
  have HX2 := Lib.hid hx'; clear hx'
  have HDraw := Lib.hid hD; clear hD
  have HT := Lib.hid ht; clear ht
  go_enter Tryz.func3, Tryz.ntmps3
  go_wp2_with fail
  refine (r8Long_c A A' n c n' c' w).mono ?_
  rintro e w1 ⟨rfl, rfl⟩
  obtain ⟨LG, hLG⟩ : ∃ LG, (decide (1048576 < n) || decide (1048576 < n')) = LG := ⟨_, rfl⟩
  rw [hLG]
  cases LG
  case true =>
    go_wp2_with fail
    go_ret
    exact ⟨rfl, Below.refl _ _⟩
  clear hLG
  go_wp2_with fail
  refine (r8Aids_c HDraw.out A n c bs _ HX.out Hb.out hn).mono ?_
  rintro e w1 ⟨AB, nB, cB, zB, rfl, hOB, hVB, hb1⟩
  have bdB : ∀ z ∈ zB, AidBd z.a := fun z hz => valid_bd (aids_mem hVB (List.mem_map_of_mem hz))
  have hSB := hOB.sl bdB
  have hX2 := HX2.out.next hb1
  clear hOB bdB
  go_wp2_with fail
  refine (r8Changed_c HDraw.out A' n' c' bs' AB nB cB zB _ hX2 Hb2.out hn' hSB hVB).mono ?_
  rintro e w2 ⟨AX, nX, cX, zX, rfl, hOX, hVX, hb2⟩
  have bdX : ∀ z ∈ zX, AidBd z.a := fun z hz => valid_bd (aids_mem hVX (List.mem_map_of_mem hz))
  have hSX := hOX.sl bdX
  replace hSB := hSB.next hb2
  clear hX2 hOX bdX
  have hb3 := hb1.trans ((hb2).mono hb1.size)
  clear hb1 hb2
  have hX3 := HX.out.next hb3
  go_wp2_with fail
  refine (r8Changed_c HDraw.out A n c bs AB nB cB zB _ hX3 Hb.out hn hSB hVB).mono ?_
  rintro e w3 ⟨AY, nY, cY, zY, rfl, hOY, hVY, hb4⟩
  have bdY : ∀ z ∈ zY, AidBd z.a := fun z hz => valid_bd (aids_mem hVY (List.mem_map_of_mem hz))
  have hSY := hOY.sl bdY
  replace hSB := hSB.next hb4
  replace hSX := hSX.next hb4
  clear hX3 hOY bdY
  have hb5 := hb3.trans ((hb4).mono hb3.size)
  clear hb3 hb4
  have hT5 : ∀ w', Below w3.heap.size w3 w' → Tab w' := fun w' hbb => HT.out.next (hb5.trans (hbb.mono hb5.size))
  have hLX : (zX.map AidG.a).length = nX := by rw [List.length_map]; exact hSX.len
  have nB24 : nB ≤ 1048576 := by have := aids_24 hVB; rw [List.length_map, hSB.len] at this; omega
  have nX24 : nX ≤ 1048576 := by have := aids_24 hVX; rw [List.length_map, hSX.len] at this; omega
  have nY24 : nY ≤ 1048576 := by have := aids_24 hVY; rw [List.length_map, hSY.len] at this; omega
  have hM1 : ∀ w', Below w3.heap.size w3 w' → _ := fun w' hbb => mrgZ_h (c1 := cB) (c2 := cX) (c3 := cB) (hSB.next hbb) (hSX.next hbb) (hSB.next hbb) hVB hVX hVB (hT5 w' hbb) (mgK_left hVB hVX) (mg_left hVB hVX) hVX hLX
  have hM2 : ∀ w', Below w3.heap.size w3 w' → _ := fun w' hbb => mrgZ_h (c1 := cB) (c2 := cB) (c3 := cX) (hSB.next hbb) (hSB.next hbb) (hSX.next hbb) hVB hVB hVX (hT5 w' hbb) (mgK_right hVB hVX) (mg_right hVB hVX) hVX hLX
  have hM3 : ∀ w', Below w3.heap.size w3 w' → _ := fun w' hbb => mrgZ_h (c1 := cB) (c2 := cX) (c3 := cX) (hSB.next hbb) (hSX.next hbb) (hSX.next hbb) hVB hVX hVX (hT5 w' hbb) (mgK_both hVX) (mg_both hVX) hVX hLX
  obtain ⟨C, hC⟩ : ∃ C, cfP (zB.map AidG.a) (zX.map AidG.a) (zY.map AidG.a) = C := ⟨_, rfl⟩
  obtain ⟨R, hR⟩ : ∃ R, C.length = R := ⟨_, rfl⟩
  obtain ⟨K, hK⟩ : ∃ K, mgK (zB.map AidG.a) (zX.map AidG.a) (zY.map AidG.a) = K := ⟨_, rfl⟩
  have hC2 : cfP (zB.map AidG.a) (zY.map AidG.a) (zX.map AidG.a) = C := by rw [cf_comm]; exact hC
  have hK2 : mgK (zB.map AidG.a) (zY.map AidG.a) (zX.map AidG.a) = K := by rw [mgK_comm hVX hVY]; exact hK
  have hR9 : R ≤ maxLen := by
    have := mgCf_len (zB.map AidG.a) (zX.map AidG.a) (zY.map AidG.a)
    rw [hC, hR] at this
    unfold maxLen; omega
  have h6 : (K == 6) = decide (0 < R) := by
    have := mgK_six (zB.map AidG.a) (zX.map AidG.a) (zY.map AidG.a)
    rwa [hK, hC, hR] at this
  have hF1 : ∀ w', Below w3.heap.size w3 w' → _ := fun w' hbb => cfl_h (c1 := cB) (c2 := cX) (c3 := cY) (hSB.next hbb) (hSX.next hbb) (hSY.next hbb) hVB hVX hVY (hT5 w' hbb) nB24 nX24 nY24 hC hR
  have hF2 : ∀ w', Below w3.heap.size w3 w' → _ := fun w' hbb => cfl_h (c1 := cB) (c2 := cY) (c3 := cX) (hSB.next hbb) (hSY.next hbb) (hSX.next hbb) hVB hVY hVX (hT5 w' hbb) nB24 nY24 nX24 hC2 hR
  have hU1 : ∀ w', Below w3.heap.size w3 w' → _ := fun w' hbb => mrgN_h (c1 := cB) (c2 := cX) (c3 := cY) (hSB.next hbb) (hSX.next hbb) (hSY.next hbb) hVB hVX hVY (hT5 w' hbb) hK
  have hU2 : ∀ w', Below w3.heap.size w3 w' → _ := fun w' hbb => mrgN_h (c1 := cB) (c2 := cY) (c3 := cX) (hSB.next hbb) (hSY.next hbb) (hSX.next hbb) hVB hVY hVX (hT5 w' hbb) hK2
  have hZ1 : K = 0 → ∀ w', Below w3.heap.size w3 w' → _ := fun hK0 w' hbb => mrgZ_h (c1 := cB) (c2 := cX) (c3 := cY) (hSB.next hbb) (hSX.next hbb) (hSY.next hbb) hVB hVX hVY (hT5 w' hbb) (hK.trans hK0) rfl (mg_valid hVX hVY (mgK_zero (hK.trans hK0)).2) rfl
  have hZ2 : K = 0 → ∀ w', Below w3.heap.size w3 w' → _ := fun hK0 w' hbb => mrgZ_h (c1 := cB) (c2 := cY) (c3 := cX) (hSB.next hbb) (hSY.next hbb) (hSX.next hbb) hVB hVY hVX (hT5 w' hbb) (hK2.trans hK0) (mg_comm hVX hVY (mgK_zero (hK.trans hK0)).1).symm (mg_valid hVX hVY (mgK_zero (hK.trans hK0)).2) rfl
  have hVM : K = 0 → aidsB (mgL (zB.map AidG.a) (zX.map AidG.a) (zY.map AidG.a)) = true := fun hK0 => mg_valid hVX hVY (mgK_zero (hK.trans hK0)).2
  have hLM : K = 0 → (mgL (zB.map AidG.a) (zX.map AidG.a) (zY.map AidG.a)).length ≤ 24 := fun hK0 => (mgK_zero (hK.trans hK0)).2
  obtain ⟨M, hMM⟩ : ∃ M, mgL (zB.map AidG.a) (zX.map AidG.a) (zY.map AidG.a) = M := ⟨_, rfl⟩
  rw [hMM] at hZ1 hZ2 hVM hLM
  obtain ⟨m, hm⟩ : ∃ m, M.length = m := ⟨_, rfl⟩
  rw [hm] at hZ1 hZ2 hLM
  obtain ⟨LX, hLXE⟩ : ∃ L, zX.map AidG.a = L := ⟨_, rfl⟩
  rw [hLXE] at hM1 hM2 hM3
  clear hC hC2 hK hK2 hMM hm hVB hVX hVY hT5 hSB hSY hLX nB24 nY24 hR
  have HSX := Lib.hid hSX; clear hSX
  have HLXE := Lib.hid hLXE; clear hLXE
  have HM1 := Lib.hid hM1; clear hM1
  have HM2 := Lib.hid hM2; clear hM2
  have HM3 := Lib.hid hM3; clear hM3
  have HF1 := Lib.hid hF1; clear hF1
  have HF2 := Lib.hid hF2; clear hF2
  have HU1 := Lib.hid hU1; clear hU1
  have HU2 := Lib.hid hU2; clear hU2
  have HZ1 := Lib.hid hZ1; clear hZ1
  have HZ2 := Lib.hid hZ2; clear hZ2
  have HVM := Lib.hid hVM; clear hVM
  have HLM := Lib.hid hLM; clear hLM
  have H6 := Lib.hid h6; clear h6
  have b5 := Below.refl w3.heap.size w3
  go_wp2_with fail
  refine (HM1.out _ b5).mono ?_
  rintro e w6 ⟨A6, c6, z6, rfl, E6, S6, k6⟩
  have b6 := b5.trans (k6.mono b5.size)
  clear b5 k6
  go_wp2_with fail
  refine (HM2.out _ b6).mono ?_
  rintro e w7 ⟨A7, c7, z7, rfl, E7, S7, k7⟩
  have b7 := b6.trans (k7.mono b6.size)
  have S6 := Lib.hid (S6.out.next k7)
  clear b6 k7
  go_wp2_with fail
  refine (HM3.out _ b7).mono ?_
  rintro e w8 ⟨A8, c8, z8, rfl, E8, S8, k8⟩
  have b8 := b7.trans (k8.mono b7.size)
  have S6 := Lib.hid (S6.out.next k8)
  have S7 := Lib.hid (S7.out.next k8)
  have SX := Lib.hid (HSX.out.next b8)
  clear b7 k8
  go_wp2_with fail
  refine (sameAids_c A6 AX nX c6 cX z6 zX _ S6.out SX.out (E6.out.trans HLXE.out.symm) nX24).mono ?_
  rintro e w9 ⟨rfl, k9⟩
  have b9 := b8.trans (k9.mono b8.size)
  have S7 := Lib.hid (S7.out.next k9)
  have S8 := Lib.hid (S8.out.next k9)
  have SX := Lib.hid (SX.out.next k9)
  clear b8 k9 S6 E6
  go_wp2_with fail
  refine (sameAids_c A7 AX nX c7 cX z7 zX _ S7.out SX.out (E7.out.trans HLXE.out.symm) nX24).mono ?_
  rintro e w10 ⟨rfl, k10⟩
  have b10 := b9.trans (k10.mono b9.size)
  have S8 := Lib.hid (S8.out.next k10)
  have SX := Lib.hid (SX.out.next k10)
  clear b9 k10 S7 E7
  go_wp2_with fail
  refine (sameAids_c A8 AX nX c8 cX z8 zX _ S8.out SX.out (E8.out.trans HLXE.out.symm) nX24).mono ?_
  rintro e w11 ⟨rfl, k11⟩
  have b11 := b10.trans (k11.mono b10.size)
  clear b10 k11 S8 E8 SX HSX HM1 HM2 HM3 HLXE
  go_wp2_with fail
  refine (HF1.out _ b11).mono ?_
  rintro e w12 ⟨A12, c12, rfl, S12, k12⟩
  have b12 := b11.trans (k12.mono b11.size)
  clear b11 k12
  go_wp2_with fail
  refine (HF2.out _ b12).mono ?_
  rintro e w13 ⟨A13, c13, rfl, S13, k13⟩
  have b13 := b12.trans (k13.mono b12.size)
  have S12 := Lib.hid (S12.out.next k13)
  clear b12 k13 HF1 HF2
  by_cases hK0 : K = 0
  · have hZ1 := HZ1.out hK0
    have hZ2 := HZ2.out hK0
    have hVM := HVM.out hK0
    have hLM := HLM.out hK0
    subst hK0
    have h6 := H6.out
    have hR0 : R = 0 := by
      have : decide (0 < R) = false := h6.symm.trans rfl
      simpa using this
    subst hR0
    clear H6 h6 HZ1 HZ2 HVM HLM HU1 HU2
    have HZ1 := Lib.hid hZ1; clear hZ1
    have HZ2 := Lib.hid hZ2; clear hZ2
    have HVM := Lib.hid hVM; clear hVM
    go_wp2_with fail
    refine (HZ1.out _ b13).mono ?_
    rintro e w14 ⟨A14, c14, z14, rfl, E14, S14, k14⟩
    have b14 := b13.trans (k14.mono b13.size)
    have S12 := Lib.hid (S12.out.next k14)
    have S13 := Lib.hid (S13.out.next k14)
    clear b13 k14
    go_wp2_with fail
    refine (HZ2.out _ b14).mono ?_
    rintro e w15 ⟨A15, c15, z15, rfl, E15, S15, k15⟩
    have b15 := b14.trans (k15.mono b14.size)
    have S12 := Lib.hid (S12.out.next k15)
    have S13 := Lib.hid (S13.out.next k15)
    have S14 := Lib.hid (S14.out.next k15)
    clear b14 k15
    go_wp2_with fail
    refine (r8Same_c A12 A13 0 c12 c13 C _ S12.out S13.out hR9).mono ?_
    rintro e w16 ⟨rfl, k16⟩
    have b16 := b15.trans (k16.mono b15.size)
    have S14 := Lib.hid (S14.out.next k16)
    have S15 := Lib.hid (S15.out.next k16)
    clear b15 k16 S12 S13
    go_wp2_with fail
    refine (sameAids_c A14 A15 m c14 c15 z14 z15 _ S14.out S15.out (E14.out.trans E15.out.symm) (by omega)).mono ?_
    rintro e w17 ⟨rfl, k17⟩
    have b17 := b16.trans (k17.mono b16.size)
    have S14 := Lib.hid (S14.out.next k17)
    clear b16 k17 S15 E15
    go_wp2_with fail
    have hV := specValidAids_c A14 m c14 z14 _ S14.out (by omega)
    rw [E14.out, HVM.out] at hV
    have HV := Lib.hid hV; clear hV
    refine HV.out.mono ?_
    rintro e w18 ⟨rfl, k18⟩
    have b18 := b17.trans (k18.mono b17.size)
    go_wp2_with fail
    go_ret
    exact ⟨rfl, hb5.trans (b18.mono hb5.size)⟩
  · have hKn : (K == 0) = false := by simpa using hK0
    go_wp2_with fail
    refine (HU1.out _ b13).mono ?_
    rintro e w14 ⟨A14, n14, c14, rfl, k14⟩
    have b14 := b13.trans (k14.mono b13.size)
    have S12 := Lib.hid (S12.out.next k14)
    have S13 := Lib.hid (S13.out.next k14)
    clear b13 k14
    go_wp2_with fail
    refine (HU2.out _ b14).mono ?_
    rintro e w15 ⟨A15, n15, c15, rfl, k15⟩
    have b15 := b14.trans (k15.mono b14.size)
    have S12 := Lib.hid (S12.out.next k15)
    have S13 := Lib.hid (S13.out.next k15)
    clear b14 k15
    go_wp2_with fail
    refine (r8Same_c A12 A13 R c12 c13 C _ S12.out S13.out hR9).mono ?_
    rintro e w16 ⟨rfl, k16⟩
    have b16 := b15.trans (k16.mono b15.size)
    clear b15 k16 S12 S13
    have h6 := H6.out
    cases hd : decide (0 < R)
    · rw [hd] at h6
      have hR0 : ¬ (0 : Int) < (R : Int) := by simp at hd; omega
      go_wp2_with fail
      go_ret
      exact ⟨rfl, hb5.trans (b16.mono hb5.size)⟩
    · rw [hd] at h6
      have hR0 : (0 : Int) < (R : Int) := by simp at hd; omega
      go_wp2_with fail
      go_ret
      exact ⟨rfl, hb5.trans (b16.mono hb5.size)⟩
end Go.Proofs.YtpfnnjcochhklaaGreatDoor
