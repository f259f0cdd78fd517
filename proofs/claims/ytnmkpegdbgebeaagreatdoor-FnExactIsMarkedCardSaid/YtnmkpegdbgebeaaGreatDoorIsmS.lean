/- IsMarked: the reference. -/
import Derived.Test.YtnmkpegdbgebeaaGreatDoorIsmP
import Derived.Test.YtnmkpegdbgebeaaGreatDoorDanG
import Derived.Test.YtnmkpegdbgebeaaGreatDoorAidsS
namespace Go.Proofs.YtnmkpegdbgebeaaGreatDoor
open Go.RowKit
set_option maxRecDepth 100000 in
set_option maxHeartbeats 2000000 in
theorem l14Sides_c (b : Nat) (d : Dang) (A : Option Addr) (n c : Nat) (zs : List AidG) (y : Int) (w : World) (hp : DanP w b d) (h : AidSl w A n zs) (hm : n ≤ 1048576) (hv : ∀ z ∈ zs, aidB z.a = true) (hd : danB d = true) (hy : 0 ≤ y ∧ y ≤ 20000) :
    Calls Tryz.prog 59 #[.pointer (some ⟨b, 0, none⟩), .slice A n c, .int .i64 y] w fun e w' => ∃ v, e = .returned v ∧ w'.ownsRow w.heap.size 2 1 v (sidesL d (zs.map AidG.a) y).length ((sidesL d (zs.map AidG.a) y).flatMap intC) ∧ Below w.heap.size w w' := by
  have hl : zs.length = n := h.len
  obtain ⟨L, hL⟩ : ∃ L : Nat → List Int, (fun k => sidesL d ((zs.map AidG.a).take k) y) = L := ⟨_, rfl⟩
  have L0 : L 0 = [] := by rw [← hL]; exact sides_nil d y
  have Ln : sidesL d (zs.map AidG.a) y = L n := by rw [← hL]; simp only; rw [List.take_of_length_le (by rw [List.length_map]; omega)]
  have Ll : ∀ k, (L k).length ≤ 4 := fun k => by rw [← hL]; exact sides_len _ _ _
  have Ly : ∀ k z, zs[k]? = some z → marksB d z.a y = true → L (k + 1) = putL (L k) z.a.mr.k := fun k z hz hk => by
    rw [← hL]; exact sides_yes (by rw [List.getElem?_map, hz]; rfl) hk
  have Lo : ∀ k z, zs[k]? = some z → marksB d z.a y = false → L (k + 1) = L k := fun k z hz hk => by
    rw [← hL]; exact sides_no (by rw [List.getElem?_map, hz]; rfl) hk
  rw [Ln]
  clear hL Ln
  have hov := World.ownsRow_made (base := w.heap.size) (e := 2) (size := 1) w #[] 0 (Nat.le_refl _) (by simp [maxLen]) rfl
  have hbv : Below w.heap.size w (w.alloc (.cells #[] 2)) := (Below.refl _ _).alloc (Nat.le_refl _) _
  have Hl := Lib.hid hl; clear hl
  have HLl := Lib.hid Ll; clear Ll
  have HLy := Lib.hid Ly; clear Ly
  have HLo := Lib.hid Lo; clear Lo
  have Hv := Lib.hid hv; clear hv
  have HL0 := Lib.hid L0; clear L0
  have HP := Lib.hid hp; clear hp
  have H := Lib.hid h; clear h
  go_enter Tryz.func59, Tryz.ntmps59
  go_wp2_with fail
  go_loopw [7, 8] (fun o i wr => ∃ k : Nat, k ≤ n ∧ i = .int .i64 k ∧ wr.ownsRow w.heap.size 2 1 o (L k).length ((L k).flatMap intC) ∧ Below w.heap.size w wr) (fun _ i _ => n - (intOf i).toNat)
  case atStart => exact ⟨0, Nat.zero_le _, rfl, by rw [HL0.out]; exact hov, hbv⟩
  case round =>
    clear hov hbv
    obtain ⟨k, hk, rfl, hov, hbw⟩ := hrel
    obtain ⟨A3, c3, rfl⟩ := own_slice hov
    have k0 : (0 : Int) ≤ (k : Int) := by omega
    by_cases hlt : k < n
    · have k1 : (k : Int) < (n : Int) := by omega
      obtain ⟨b', off, z, rfl, hx, hzo, hq⟩ := (H.out.next hbw).get k hlt
      have hM := l14Marks_c b b' (off + k * 16) d z y wr (HP.out.next hbw) hq hd (Hv.out z (List.mem_of_getElem? hx)) hy
      have c5 := hq.c5
      have hb' := hq.hb
      clear hq hzo
      cases hmk : marksB d z.a y
      · rw [hmk] at hM
        have hLn := HLo.out k z hx hmk
        have HM := Lib.hid hM; clear hM
        have Hx := Lib.hid hx; clear hx
        have Hmk := Lib.hid hmk; clear hmk
        have HLn := Lib.hid hLn; clear hLn
        go_wp2_with fail
        refine HM.out.mono ?_
        rintro e w2 ⟨rfl, hb2⟩
        go_wp2_with fail
        go_roundw
        case rel => exact ⟨k + 1, by omega, by go_num, by rw [HLn.out]; exact own_next hov hb2, hbw.trans (hb2.mono hbw.size)⟩
        case measure => simp [intOf]; omega
      · rw [hmk] at hM
        have hLn := HLy.out k z hx hmk
        have hPut := fun w2 (hb2 : Below wr.heap.size wr w2) => l00Put_c A3 (L k).length c3 (L k) z.a.mr.k w2 (Sl.of_own (own_next hov hb2)) (by have := HLl.out k; omega)
        have HM := Lib.hid hM; clear hM
        have Hx := Lib.hid hx; clear hx
        have Hmk := Lib.hid hmk; clear hmk
        have HLn := Lib.hid hLn; clear hLn
        have HPut := Lib.hid hPut; clear hPut
        have Hov := Lib.hid hov; clear hov
        go_wp2_with fail
        refine HM.out.mono ?_
        rintro e w2 ⟨rfl, hb2⟩
        have q5 := (keepC hb2 b' hb' _).trans c5
        go_wp2_with fail
        refine (HPut.out w2 hb2).mono ?_
        rintro e w3 ⟨r, rfl, ho3, hb3⟩
        replace hb2 := hbw.trans (hb2.mono hbw.size)
        go_wp2_with fail
        go_roundw
        case rel => exact ⟨k + 1, by omega, by go_num, by rw [HLn.out]; exact own_base ho3 hb2.size, hb2.trans (hb3.mono hb2.size)⟩
        case measure => simp [intOf]; omega
    · obtain rfl : k = n := by omega
      go_wp2_with fail
      go_ret
      exact ⟨_, rfl, hov, hbw⟩
theorem isMk_def (d : Dang) (l : List AidX) (y : Int) : isMkB d l y = (danB d && (aidsB l && (inB y 0 20000 && decide ((sidesL d l y).length = 4)))) := rfl
set_option maxRecDepth 100000 in
set_option maxHeartbeats 2000000 in
theorem specIsMarked_c (d : Dang) (A : Option Addr) (n c : Nat) (zs : List AidG) (y : Int) (w : World) (h : AidSl w A n zs) (hm : n ≤ 1048576) (hn : d.nm.size ≤ maxLen) :
    Calls Tryz.prog 24 #[danV d, .slice A n c, .int .i64 y] w fun e w' => e = .returned (.bool (isMkB d (zs.map AidG.a) y)) ∧ Below w.heap.size w w' := by
  rw [isMk_def]
  have hb0 : Below w.heap.size w (w.alloc (danO d 60)) := by (repeat (first | (with_reducible assumption) | (with_reducible exact Below.refl _ _) | exact Nat.le_refl _ | exact Below.size (by with_reducible assumption) | (with_reducible refine Below.drew ?_) | (with_reducible refine below_drewN ?_ _) | (with_reducible refine Below.alloc ?_ ?_ _) | (with_reducible refine Below.setCell ?_ ?_ _) | (with_reducible refine le_alloc ?_ _) | (with_reducible refine le_set ?_ _ _) | (with_reducible refine le_drew ?_) | (with_reducible refine le_drewN ?_ _) | omega | (dsimp only; omega)))
  have p1 := DanP.box w d 60
  obtain ⟨w0, hw⟩ : ∃ w0, w.alloc (danO d 60) = w0 := ⟨_, rfl⟩
  rw [hw] at p1 hb0
  have s0 := h.next hb0
  obtain ⟨A1, hA⟩ : ∃ A, danB d = A := ⟨_, rfl⟩
  obtain ⟨B, hB⟩ : ∃ B, aidsB (zs.map AidG.a) = B := ⟨_, rfl⟩
  obtain ⟨C, hC⟩ : ∃ C, inB y 0 20000 = C := ⟨_, rfl⟩
  have h1 : Calls Tryz.prog 57 #[.pointer (some ⟨w.heap.size, 0, none⟩)] w0 fun e w' => e = .returned (.bool A1) ∧ Below w0.heap.size w0 w' := hA ▸ l14One_c _ d w0 p1 hn
  have h2 : ∀ w1, Below w0.heap.size w0 w1 → Calls Tryz.prog 27 #[.slice A n c] w1 fun e w' => e = .returned (.bool B) ∧ Below w1.heap.size w1 w' := fun w1 hb => hB ▸ l12Ok_c A n c zs w1 (s0.next hb) hm
  have h3 : ∀ w1, Calls Tryz.prog 58 #[.int .i64 y, .int .i64 0, .int .i64 20000] w1 fun e w' => e = .returned (.bool C) ∧ w1 = w' := fun w1 => hC ▸ l00In_c _ _ _ _
  have h4 : ∀ w1, A1 = true → B = true → C = true → Below w0.heap.size w0 w1 → Calls Tryz.prog 59 #[.pointer (some ⟨w.heap.size, 0, none⟩), .slice A n c, .int .i64 y] w1 fun e w' => ∃ A' c', e = .returned (.slice A' (sidesL d (zs.map AidG.a) y).length c') ∧ Below w1.heap.size w1 w' := fun w1 ha hb hc hb1 => by
    refine (l14Sides_c _ d A n c zs y w1 (p1.next hb1) (s0.next hb1) hm (fun z hz => aids_all (hB.trans hb) z.a (List.mem_map_of_mem hz)) (hA.trans ha) (inB_iff.1 (hC.trans hc))).mono ?_
    rintro e w' ⟨v, he, ho, hbb⟩
    obtain ⟨A', c', rfl⟩ := own_slice ho
    exact ⟨A', c', he, hbb⟩
  obtain ⟨S, hS⟩ : ∃ S, (sidesL d (zs.map AidG.a) y).length = S := ⟨_, rfl⟩
  rw [hA, hB, hC, hS]
  rw [hS] at h4
  clear hA hB hC hS h s0 p1
  have H1 := Lib.hid h1; clear h1
  have H2 := Lib.hid h2; clear h2
  have H3 := Lib.hid h3; clear h3
  have H4 := Lib.hid h4; clear h4
  cases A1
  · go_enter Tryz.func24, Tryz.ntmps24
    go_wp2_with fail
    try rw [hw]
    clear hw
    refine H1.out.mono ?_
    rintro e w1 ⟨rfl, hb1⟩
    go_wp2_with fail
    go_ret
    exact ⟨rfl, hb0.trans (hb1.mono hb0.size)⟩
  cases B
  · go_enter Tryz.func24, Tryz.ntmps24
    go_wp2_with fail
    try rw [hw]
    clear hw
    refine H1.out.mono ?_
    rintro e w1 ⟨rfl, hb1⟩
    go_wp2_with fail
    refine (H2.out _ hb1).mono ?_
    rintro e w2 ⟨rfl, hb2⟩
    replace hb2 := hb1.trans (hb2.mono hb1.size)
    go_wp2_with fail
    go_ret
    exact ⟨rfl, hb0.trans (hb2.mono hb0.size)⟩
  cases C
  · go_enter Tryz.func24, Tryz.ntmps24
    go_wp2_with fail
    try rw [hw]
    clear hw
    refine H1.out.mono ?_
    rintro e w1 ⟨rfl, hb1⟩
    go_wp2_with fail
    refine (H2.out _ hb1).mono ?_
    rintro e w2 ⟨rfl, hb2⟩
    replace hb2 := hb1.trans (hb2.mono hb1.size)
    go_wp2_with fail
    refine (H3.out _).mono ?_
    rintro e w3 ⟨rfl, rfl⟩
    go_wp2_with fail
    go_ret
    exact ⟨rfl, hb0.trans (hb2.mono hb0.size)⟩
  · have e4 : ((S : Int) == 4) = decide (S = 4) := by rw [Bool.eq_iff_iff]; simp; omega
    go_enter Tryz.func24, Tryz.ntmps24
    go_wp2_with fail
    try rw [hw]
    clear hw
    refine H1.out.mono ?_
    rintro e w1 ⟨rfl, hb1⟩
    go_wp2_with fail
    refine (H2.out _ hb1).mono ?_
    rintro e w2 ⟨rfl, hb2⟩
    replace hb2 := hb1.trans (hb2.mono hb1.size)
    go_wp2_with fail
    refine (H3.out _).mono ?_
    rintro e w3 ⟨rfl, rfl⟩
    go_wp2_with fail
    refine (H4.out _ (by simp) (by simp) (by simp) hb2).mono ?_
    rintro e w4 ⟨A', c', rfl, hb4⟩
    go_wp2_with fail
    go_ret
    exact ⟨ret_eq (bool_eq (by simp)), hb0.trans ((hb2.trans (hb4.mono hb2.size)).mono hb0.size)⟩
end Go.Proofs.YtnmkpegdbgebeaaGreatDoor
