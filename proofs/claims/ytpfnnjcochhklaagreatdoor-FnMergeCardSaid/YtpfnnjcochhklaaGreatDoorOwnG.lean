/- OwnG: several of my texts in one. -/
import Derived.Test.YtpfnnjcochhklaaGreatDoorAidS
import Derived.Test.YtpfnnjcochhklaaGreatDoorAidsG
import Derived.Test.YtpfnnjcochhklaaGreatDoorApG
import Derived.Test.YtpfnnjcochhklaaGreatDoorOwnP

/- An aid of its own: the reference. -/
namespace Go.Proofs.YtpfnnjcochhklaaGreatDoor
open Go.RowKit
set_option maxHeartbeats 1000000 in
theorem l00Own_c (A : Option Addr) (n c : Nat) (xs : List Int) (w : World) (h : Sl w w.heap.size 1 A n (xs.flatMap intC)) (hm : n ≤ 1048576) :
    Calls Tryz.prog 123 #[.slice A n c] w fun e w' => ∃ A' c', e = .returned (.slice A' n c') ∧ w'.ownsRow w.heap.size 2 1 (.slice A' n c') n (xs.flatMap intC) ∧ Below w.heap.size w w' := by
  obtain ⟨i0, hi, hz0, hz1, hz2⟩ := info_parts intInfo
  have hov := World.ownsRow_made (base := w.heap.size) (e := 2) (size := 1) w #[] 0 (Nat.le_refl _) (by simp [maxLen]) rfl
  have hbv : Below w.heap.size w (w.alloc (.cells #[] 2)) := (Below.refl _ _).alloc (Nat.le_refl _) _
  have e63 : 0 + n ≤ maxLen := by unfold maxLen; omega
  have e32 : (0 + n) * 8 ≤ 140737488355328 := by omega
  have hS := h.next hbv
  have hle := hbv.size
  have HOV := Lib.hid hov; clear hov
  have E63 := Lib.hid e63; clear e63
  have E32 := Lib.hid e32; clear e32
  have HS := Lib.hid hS; clear hS
  have HLE := Lib.hid hle; clear hle
  go_enter Tryz.func123, Tryz.ntmps123
  go_wp2_with (at_builtin; refine wpl_append _ rfl (.tmp 3) (.tmp 4) _ rfl w.heap.size 2 i0 _ 1 8 Tryz.underlying30 hi hz0 hz1 hz2 rfl (by omega) _ 0 _ rfl HOV.out _ A n c (xs.flatMap intC) rfl HS.out (flat_one _ intC_one xs) E63.out E32.out HLE.out ?_; intro v2 w2 ho2 hg2 hat2)
  go_ret
  rw [Nat.zero_add] at ho2
  obtain ⟨A', c', rfl⟩ := own_slice ho2
  exact ⟨A', c', rfl, by simpa using ho2, hbv.grown hg2 HLE.out fun g hg => (HOV.out.lt g hg).1⟩
set_option maxRecDepth 100000 in
set_option maxHeartbeats 1000000 in
theorem l05Own_c (b o : Nat) (A : Option Addr) (n c : Nat) (x : Ch) (w : World) (h : ChP w b o A n c x) :
    Calls Tryz.prog 104 #[.pointer (some ⟨b, o, none⟩)] w fun e w' => ∃ A' c', e = .returned (chV x.k A' n c' x.l x.cs x.p) ∧ w'.ownsRow w.heap.size 2 1 (.slice A' n c') n (x.gs.flatMap intC) ∧ Below w.heap.size w w' := by
  obtain ⟨k, gs, l, cs, p⟩ := x
  obtain ⟨c0, c1, c2, c3, c4, hb, sl, hn, hl, hs⟩ := h
  simp only at c0 c1 c2 c3 c4 sl hl hs
  go_enter Tryz.func104, Tryz.ntmps104
  go_wp2_with fail
  refine (l00Own_c A n c gs _ (sl.next (by (repeat (first | (with_reducible assumption) | (with_reducible exact Below.refl _ _) | exact Nat.le_refl _ | exact Below.size (by with_reducible assumption) | (with_reducible refine Below.drew ?_) | (with_reducible refine below_drewN ?_ _) | (with_reducible refine Below.alloc ?_ ?_ _) | (with_reducible refine Below.setCell ?_ ?_ _) | (with_reducible refine le_alloc ?_ _) | (with_reducible refine le_set ?_ _ _) | (with_reducible refine le_drew ?_) | (with_reducible refine le_drewN ?_ _) | omega | (dsimp only; omega))))) hn).mono ?_
  rintro e w1 ⟨A1, c1', rfl, ho, hb1⟩
  have q0 := keepC hb1 w.heap.size (by simp only [World.size_alloc]; omega)
  have q1 := keepC hb1 (w.heap.size + 1) (by simp only [World.size_alloc]; omega)
  have f0 := keepF hb1 w.heap.size (by simp only [World.size_alloc]; omega)
  have f1 := keepF hb1 (w.heap.size + 1) (by simp only [World.size_alloc]; omega)
  have hbw : Below w.heap.size w w1 := Below.trans (by (repeat (first | (with_reducible assumption) | (with_reducible exact Below.refl _ _) | exact Nat.le_refl _ | exact Below.size (by with_reducible assumption) | (with_reducible refine Below.drew ?_) | (with_reducible refine below_drewN ?_ _) | (with_reducible refine Below.alloc ?_ ?_ _) | (with_reducible refine Below.setCell ?_ ?_ _) | (with_reducible refine le_alloc ?_ _) | (with_reducible refine le_set ?_ _ _) | (with_reducible refine le_drew ?_) | (with_reducible refine le_drewN ?_ _) | omega | (dsimp only; omega)))) (hb1.mono (by simp only [World.size_alloc]; omega))
  clear c0 c1 c2 c3 c4
  go_wp2_with fail
  refine bodyPost_ret (v := chV k A1 n c1' l cs p) (by simp [results, Tryz.results104, go_sem, q0]) rfl ⟨A1, c1', rfl, ?_, ?_⟩
  · refine own_base (base := ((w.heap.size + 1) + 1)) ?_ (by omega)
    simp only [World.size_alloc] at ho
    repeat (refine ownsRow_setCell_below ?_ (by dsimp only; omega) _)
    exact ho
  · (repeat (first | (with_reducible assumption) | (with_reducible exact Below.refl _ _) | exact Nat.le_refl _ | exact Below.size (by with_reducible assumption) | (with_reducible refine Below.drew ?_) | (with_reducible refine below_drewN ?_ _) | (with_reducible refine Below.alloc ?_ ?_ _) | (with_reducible refine Below.setCell ?_ ?_ _) | (with_reducible refine le_alloc ?_ _) | (with_reducible refine le_set ?_ _ _) | (with_reducible refine le_drew ?_) | (with_reducible refine le_drewN ?_ _) | omega | (dsimp only; omega)))
end Go.Proofs.YtpfnnjcochhklaaGreatDoor

/- An aid of its own: the reference: l12Own. -/
namespace Go.Proofs.YtpfnnjcochhklaaGreatDoor
open Go.RowKit
set_option maxRecDepth 100000 in
set_option maxHeartbeats 2000000 in
theorem l12Own_c (b off : Nat) (z : AidG) (w : World) (h : AidOk w z) (hp : AidP w b off z) :
    Calls Tryz.prog 74 #[.pointer (some ⟨b, off, none⟩)] w fun e w' => ∃ z' : AidG, e = .returned z'.val ∧ z'.a = z.a ∧ AidNew w' w.heap.size z' ∧ Below w.heap.size w w' := by
  obtain ⟨i0, hi, hz0, hz1, hz2⟩ := info_parts secInfo
  have hss : z.m ≤ 1048576 := h.bd.ss
  have hbd := h.bd
  have e63 : 0 + z.m ≤ maxLen := by unfold maxLen; omega
  have e32 : (0 + z.m) * 32 ≤ 140737488355328 := by omega
  have hb0 : Below w.heap.size w ((w.alloc (aidO aidZ 56)).alloc (aidO z 56)) := by (repeat (first | (with_reducible assumption) | (with_reducible exact Below.refl _ _) | exact Nat.le_refl _ | exact Below.size (by with_reducible assumption) | (with_reducible refine Below.drew ?_) | (with_reducible refine below_drewN ?_ _) | (with_reducible refine Below.alloc ?_ ?_ _) | (with_reducible refine Below.setCell ?_ ?_ _) | (with_reducible refine le_alloc ?_ _) | (with_reducible refine le_set ?_ _ _) | (with_reducible refine le_drew ?_) | (with_reducible refine le_drewN ?_ _) | omega | (dsimp only; omega)))
  have hs0 : (w.alloc (aidO aidZ 56)).heap.size = w.heap.size + 1 := by simp
  have FR0 := (AidF.box w aidZ 56).next (w' := (w.alloc (aidO aidZ 56)).alloc (aidO z 56)) (by (repeat (first | (with_reducible assumption) | (with_reducible exact Below.refl _ _) | exact Nat.le_refl _ | exact Below.size (by with_reducible assumption) | (with_reducible refine Below.drew ?_) | (with_reducible refine below_drewN ?_ _) | (with_reducible refine Below.alloc ?_ ?_ _) | (with_reducible refine Below.setCell ?_ ?_ _) | (with_reducible refine le_alloc ?_ _) | (with_reducible refine le_set ?_ _ _) | (with_reducible refine le_drew ?_) | (with_reducible refine le_drewN ?_ _) | omega | (dsimp only; omega))))
  have FX0 := AidF.box (w.alloc (aidO aidZ 56)) z 56
  have hz9 : ((w.alloc (aidO aidZ 56)).alloc (aidO z 56)).heap.size = w.heap.size + 2 := by simp
  rw [hs0] at FX0
  obtain ⟨w0, hw⟩ : ∃ w0, (w.alloc (aidO aidZ 56)).alloc (aidO z 56) = w0 := ⟨_, rfl⟩
  rw [hw] at hb0 FR0 FX0 hz9
  have hO := l05Own_c b (off + 9) z.A z.n z.c z.a.ch w0 ((hp.ch h).next hb0)
  have hss0 := h.ss
  obtain ⟨c0, c1, c2, c3, c4, c5, c6, c7, c8, c9, c10, c11, c12, c13, c14, c15, hb⟩ := id hp
  clear hs0
  have HO := Lib.hid hO; clear hO
  have E63 := Lib.hid e63; clear e63
  have E32 := Lib.hid e32; clear e32
  have Hbd := Lib.hid hbd; clear hbd
  have HR0 := Lib.hid FR0; clear FR0
  have HX0 := Lib.hid FX0; clear FX0
  have HSS := Lib.hid hss0; clear hss0
  clear h hp
  go_enter Tryz.func74, Tryz.ntmps74
  go_wp2_with fail
  change Calls _ _ _ ((w.alloc (aidO aidZ 56)).alloc (aidO z 56)) _
  rw [hw]
  clear hw
  as_aux_lemma =>
    refine HO.out.mono ?_
    rintro e w1 ⟨A1, k1, rfl, ho1, hb1⟩
    have FR1 := HR0.out.next hb1
    have FX1 := HX0.out.next hb1
    have bw1 := hb0.trans (hb1.mono hb0.size)
    have z1 := hb1.size
    have T1 := FX1.there 9 5 (by omega)
    have FX2 := FX1.char A1 k1
    have FR2 := FR1.other (w.heap.size + 1) 9 (chCells z A1 k1) (by omega)
    have B2 := belowW (w.heap.size + 1) (by omega) (chCells z A1 k1) 9 w1 bw1
    have G2 := ownW (w.heap.size + 1) (by omega) (chCells z A1 k1) 9 w1 ho1
    have S2 := sizeW (w.heap.size + 1) (chCells z A1 k1) 9 w1
    obtain ⟨w2, hw2⟩ : ∃ w2, w1.setCells (w.heap.size + 1) 9 (chCells z A1 k1) = w2 := ⟨_, rfl⟩
    rw [hw2] at FX2 FR2 B2 G2 S2
    have x14 := (keepC B2 b hb (off + 14)).trans c14
    have hbv : Below w2.heap.size w2 (w2.alloc (.cells #[] 94)) := (Below.refl _ _).alloc (Nat.le_refl _) _
    have y14 := (keepC hbv b (Nat.lt_of_lt_of_le hb B2.size) (off + 14)).trans x14
    have hov := World.ownsRow_made (base := w2.heap.size) (e := 94) (size := 3) w2 #[] 0 (Nat.le_refl _) (by simp [maxLen]) rfl
    have hS := (HSS.out.next B2).next hbv
    have hle := hbv.size
    have ONE : (List.toArray (chCells z A1 k1)).all (·.oneCell') = true := all_oneCell_toArray (by simp [chCells, Value.oneCell'])
    clear c0 c1 c2 c3 c4 c5 c6 c7 c8 c9 c10 c11 c12 c13 c14 c15 FR1 FX1 ho1 hb1 bw1 HR0 HX0 HO
    have S2' := S2
    have HS2 := Lib.hid S2; clear S2
    clear S2'
    have HT1 := Lib.hid T1; clear T1
    have HW2 := Lib.hid hw2; clear hw2
    have HONE := Lib.hid ONE; clear ONE
    have HX2 := Lib.hid FX2; clear FX2
    have HR2 := Lib.hid FR2; clear FR2
    have HG2 := Lib.hid G2; clear G2
    have HB2 := Lib.hid B2; clear B2
    have HOV := Lib.hid hov; clear hov
    have HS := Lib.hid hS; clear hS
    have HLE := Lib.hid hle; clear hle
    as_aux_lemma =>
      go_wp2_with (first | (refine wpList_store_mid rfl _ _ _ rfl (w.heap.size + 1) 9 (List.toArray (chCells z A1 k1)) rfl rfl HT1.out (by kernel_rfl) HONE.out ?_; rw [show w1.setCells (w.heap.size + 1) 9 (List.toArray (chCells z A1 k1)).toList = w2 from HW2.out]) | (at_builtin; refine wpl_append _ rfl (.tmp 12) (.tmp 16) _ rfl w2.heap.size 94 i0 _ 3 32 Tryz.underlying54 hi hz0 hz1 hz2 rfl (by omega) _ 0 _ rfl HOV.out _ z.B z.m z.d (z.a.secs.flatMap Sec.cells) rfl HS.out (flat_one _ sec_one z.a.secs) E63.out E32.out HLE.out ?_; intro v3 w3 ho3 hg3 hat3; refine Hid.out ?_))
      as_aux_lemma =>
        refine Lib.hid ?_
        rw [Nat.zero_add] at ho3
        have S2 := HS2.out
        obtain ⟨B3, d3, rfl⟩ := own_slice ho3
        have hr3 : ∀ k, (Value.slice (some ⟨w2.heap.size, 0, none⟩) 0 0).ownBlock = some k → w2.heap.size = k := fun k hk => by simpa [Value.ownBlock] using hk
        have FX3 := (HX2.out.next hbv).grown hg3 (fun k hk => by have := hr3 k hk; omega)
        have FR3 := (HR2.out.next hbv).grown hg3 (fun k hk => by have := hr3 k hk; omega)
        have B3' : Below w.heap.size w w3 := (HB2.out.alloc HB2.out.size _).grown hg3 (le_alloc HB2.out.size _) fun k hk => by have := hr3 k hk; have := HB2.out.size; omega
        have G3 := own_grown (own_next HG2.out hbv) hg3 (own_ne (own_next HG2.out hbv) HOV.out (by decide))
        have FX4 := FX3.secs B3 d3
        have FR4 := FR3.other (w.heap.size + 1) 14 [.slice B3 z.m d3] (by omega)
        have B4 := belowW (w.heap.size + 1) (by omega) [.slice B3 z.m d3] 14 w3 B3'
        have G4 := ownW (w.heap.size + 1) (by omega) [.slice B3 z.m d3] 14 w3 G3
        have E4 := ownW (w.heap.size + 1) (by omega) [.slice B3 z.m d3] 14 w3 ho3
        have T4 := FR4.there 0 16 (by omega)
        have FR5 := FR4.set ⟨z.a, A1, k1, B3, d3⟩
        have B5 := belowW w.heap.size (by omega) (AidG.cells ⟨z.a, A1, k1, B3, d3⟩) 0 _ B4
        have G5 := ownW w.heap.size (by omega) (AidG.cells ⟨z.a, A1, k1, B3, d3⟩) 0 _ G4
        have E5 := ownW w.heap.size (by omega) (AidG.cells ⟨z.a, A1, k1, B3, d3⟩) 0 _ E4
        obtain ⟨w5, hw5⟩ : ∃ w5, (w3.setCells (w.heap.size + 1) 14 [.slice B3 z.m d3]).setCells w.heap.size 0 (AidG.cells ⟨z.a, A1, k1, B3, d3⟩) = w5 := ⟨_, rfl⟩
        rw [hw5] at FR5 B5 G5 E5
        obtain ⟨c0, c1, c2, c3, c4, c5, c6, c7, c8, c9, c10, c11, c12, c13, c14, c15, _⟩ := FX3.p
        simp only [Nat.zero_add] at c1 c2 c3 c4 c5 c6 c7 c8 c9 c10 c11 c12 c13 c14 c15
        have fx := FX3.f
        obtain ⟨r0, r1, r2, r3, r4, r5, r6, r7, r8, r9, r10, r11, r12, r13, r14, r15, _⟩ := FR5.p
        simp only [Nat.zero_add] at r1 r2 r3 r4 r5 r6 r7 r8 r9 r10 r11 r12 r13 r14 r15
        have ONE' : (List.toArray (AidG.cells ⟨z.a, A1, k1, B3, d3⟩)).all (·.oneCell') = true := all_oneCell_toArray (aidg_one _)
        have HT4 := Lib.hid T4; clear T4
        have HW5 := Lib.hid hw5; clear hw5
        have HONE' := Lib.hid ONE'; clear ONE'
        have HB5 := Lib.hid B5; clear B5
        have HG5 := Lib.hid G5; clear G5
        have HE5 := Lib.hid E5; clear E5
        clear S2 FX3 FR3 B3' G3 FX4 FR4 B4 G4 E4 FR5 ho3 hg3 hat3 x14 y14 hbv
        as_aux_lemma =>
          go_wp2_with (first | (refine wpList_store_mid rfl _ _ _ rfl w.heap.size 0 (List.toArray (AidG.cells ⟨z.a, A1, k1, B3, d3⟩)) rfl rfl HT4.out (by kernel_rfl) HONE'.out ?_; rw [show (World.setCell w3 ⟨w.heap.size + 1, 14, none⟩ (.slice B3 z.m d3)).setCells w.heap.size 0 (List.toArray (AidG.cells ⟨z.a, A1, k1, B3, d3⟩)).toList = w5 from HW5.out]))
          refine bodyPost_ret (v := AidG.val ⟨z.a, A1, k1, B3, d3⟩) (by simp [results, Tryz.results74, go_sem, r0, r1, r2, r3, r4, r5, r6, r7, r8, r9, r10, r11, r12, r13, r14, r15]) rfl ⟨_, rfl, rfl, ⟨?_, ?_⟩, HB5.out⟩
          · exact own_base HG5.out (by omega)
          · exact own_base HE5.out (by have := HS2.out; omega)
end Go.Proofs.YtpfnnjcochhklaaGreatDoor
