/- RnPr: several of my texts in one. -/
import Derived.Test.YtgibbhipjpbdfaaRcXG
import Derived.Test.YtgibbhipjpbdfaaDrG
import Derived.Test.YtgibbhipjpbdfaaSeG
import Derived.Test.YtgibbhipjpbdfaaChOf
import Derived.Test.YtgibbhipjpbdfaaRows
import Derived.Test.YtgibbhipjpbdfaaPhO
import Derived.Test.YtgibbhipjpbdfaaByOpen

/- The walk of the law FnRecognition. -/
namespace Go.Proofs.Ytgibbhipjpbdfaa
open Go.RowKit
theorem hasC_self {co : ByteArray} (h : colB co = true) : hasC co co = true := by
  have h1 := colB_size h
  have h2 := hasC_ext co (i := 0) (by omega)
  rwa [show co.extract 0 (0 + 1) = co by rw [Nat.zero_add, ← h1]; simp] at h2
/-- What the calls of the law answer, for a valid character and one of its colors. -/
structure RnAns (x y : Ch) (co : ByteArray) (N M Q : Nat) (pc qc gc : List Value) : Prop where
  ph : ∀ (A : Option Addr) (c : Nat) (w : World), Sl w w.heap.size 1 A x.gs.length (x.gs.flatMap intC) → Calls Try.prog 18 #[chV x.k A x.gs.length c x.l x.cs x.p, .string co] w fun e w' => ∃ A' c', e = .returned (.tuple #[.slice A' N c', .int .i64 0]) ∧ Sl w' w'.heap.size 2 A' N pc ∧ Below w.heap.size w w'
  rc : ∀ (A : Option Addr) (c : Nat) (w : World), Sl w w.heap.size 2 A N pc → Calls Try.prog 8 #[.slice A N c] w fun e w' => ∃ A' c', e = .returned (.tuple #[chV y.k A' M c' y.l co y.p, .int .i64 0]) ∧ Sl w' w'.heap.size 1 A' M gc ∧ Below w.heap.size w w'
  vy : ∀ (A : Option Addr) (c : Nat) (w : World), Sl w w.heap.size 1 A M gc → Calls Try.prog 16 #[chV y.k A M c y.l co y.p] w fun e w' => e = .returned (.bool true) ∧ Below w.heap.size w w'
  qy : ∀ (A : Option Addr) (c : Nat) (w : World), Sl w w.heap.size 1 A M gc → Calls Try.prog 18 #[chV y.k A M c y.l co y.p, .string co] w fun e w' => ∃ A' c', e = .returned (.tuple #[.slice A' Q c', .int .i64 0]) ∧ Sl w' w'.heap.size 2 A' Q qc ∧ Below w.heap.size w w'
  sh : ∀ (A : Option Addr) (c : Nat) (t : Int) (w : World), Sl w w.heap.size 2 A N pc → 0 ≤ t → t < 600 → Calls Try.prog 19 #[.slice A N c, .int .i64 t] w fun e w' => ∃ A' m c', e = .returned (.tuple #[.slice A' m c', .int .i64 0]) ∧ Below w.heap.size w w' ∧ ∀ w1, Below w'.heap.size w' w1 → Calls Try.prog 8 #[.slice A' m c'] w1 fun e w2 => ∃ A2 c2, e = .returned (.tuple #[chV y.k A2 M c2 y.l co y.p, .int .i64 0]) ∧ Sl w2 w2.heap.size 1 A2 M gc ∧ Below w1.heap.size w1 w2
  sp : ∀ (A : Option Addr) (c : Nat) (A2 : Option Addr) (c2 : Nat) (w : World), Sl w w.heap.size 2 A N pc → Sl w w.heap.size 2 A2 Q qc → Calls Try.prog 21 #[.slice A N c, .slice A2 Q c2] w fun e w' => e = .returned (.bool true) ∧ Below w.heap.size w w'
  sc : ∀ (A : Option Addr) (c : Nat) (A2 : Option Addr) (c2 : Nat) (w : World), Sl w w.heap.size 1 A M gc → Sl w w.heap.size 1 A2 M gc → Calls Try.prog 22 #[chV y.k A M c y.l co y.p, chV y.k A2 M c2 y.l co y.p] w fun e w' => e = .returned (.bool true) ∧ Below w.heap.size w w'
theorem ph_sizes {x : Ch} {co : ByteArray} (hc : colB co = true) : ∀ p ∈ phasesL x co, p.c.size ≤ maxLen := fun p hp => by
  rcases okS_ph hc p hp with h | h <;> unfold maxLen <;> omega
theorem join_sizes (B : List Int) : ∀ p ∈ joinP B, p.c.size ≤ maxLen := fun p hp => by
  obtain ⟨d, _, rfl⟩ := List.mem_map.1 hp
  show (nameC d.1).size ≤ maxLen
  rw [nameC]
  split
  · exact Nat.zero_le _
  · rw [strOfNums_size]
    show 1 ≤ maxLen
    decide
theorem rnAns {x : Ch} {co : ByteArray} (hv : validB x = true) (hc : colB co = true) (hh : hasC x.cs co = true) : ∃ y N M Q pc qc gc, RnAns x y co N M Q pc qc gc := by
  obtain ⟨y, h0, hyv, hyc, hyn, _⟩ := rec_own hv hc
  have hs := shape_sizes (valid_shape hv)
  have hs2 := shape_sizes (valid_shape hyv)
  have hpv := vPh_own hv hc
  have hqv := vPh_own hyv hc
  have hn1 := num27 hv co
  have hn2 := num27 hyv co
  have e1 : phOf x co = (phasesL x co, 0) := by rw [phOf, if_neg (by rw [hv]; simp), if_neg (by rw [hc, hh]; simp)]
  have e2 : phOf y co = (phasesL y co, 0) := by rw [phOf, if_neg (by rw [hyv]; simp), if_neg (by rw [hc, hyc, hasC_self hc]; simp)]
  refine ⟨y, (phasesL x co).length, y.gs.length, (phasesL y co).length, (phasesL x co).flatMap Ph.cells, (phasesL y co).flatMap Ph.cells, y.gs.flatMap intC, ?_, ?_, ?_, ?_, ?_, ?_, ?_⟩
  · intro A c w sl
    refine (specPhasesOf_c A x.gs.length c x w sl (by omega) (by omega) (by omega) co).mono ?_
    rw [e1]
    rintro e w' ⟨v, rfl, ho, hb⟩
    obtain ⟨A', c', rfl⟩ := own_slice ho
    exact ⟨A', c', rfl, Sl.of_own ho, hb⟩
  · intro A c w sl
    refine (recImpl_c A _ c _ w sl (by omega) (ph_sizes hc)).mono ?_
    rw [h0]
    rintro e w' ⟨A', c', rfl, ho, hb⟩
    exact ⟨A', c', by rw [hyc], Sl.of_own ho, hb⟩
  · intro A c w sl
    refine (show Calls Try.prog 16 #[chV y.k A y.gs.length c y.l co y.p] w _ from hyc ▸ specValid_c A y.gs.length c y w sl (by omega) (by omega) (by omega)).mono ?_
    rintro e w' ⟨rfl, hb⟩
    exact ⟨by rw [hyv], hb⟩
  · intro A c w sl
    refine (show Calls Try.prog 18 #[chV y.k A y.gs.length c y.l co y.p, .string co] w (PhPost w (phOf y co)) by have := specPhasesOf_c A y.gs.length c y w sl (by omega) (by omega) (by omega) co; rwa [hyc] at this).mono ?_
    rw [e2]
    rintro e w' ⟨v, rfl, ho, hb⟩
    obtain ⟨A', c', rfl⟩ := own_slice ho
    exact ⟨A', c', rfl, Sl.of_own ho, hb⟩
  · intro A c t w sl ht0 ht1
    refine (shift_c A _ c (phasesL x co) t w sl (by omega) (ph_sizes hc) hpv ht0 (by omega) (fun s => by have := shift_len hv co s; omega)).mono ?_
    rintro e w' ⟨A', m, c', s, hs', hm, rfl, hsl, hb⟩
    refine ⟨A', m, c', rfl, hb, fun w1 hb1 => ?_⟩
    subst hm
    refine (recImpl_c A' _ c' _ w1 (hsl.next hb1) ?_ (join_sizes _)).mono ?_
    · have := shift_len hv co s
      rw [joinP, List.length_map]; omega
    rw [rec_shift hv hc hs', h0]
    rintro e w' ⟨A', c', rfl, ho, hb⟩
    exact ⟨A', c', by rw [hyc], Sl.of_own ho, hb⟩
  · intro A c A2 c2 w s1 s2
    exact sameP_c A _ c _ A2 _ c2 _ w s1 s2 (by omega) (by omega) (ph_sizes hc) (ph_sizes hc) hpv hqv hyn.symm
  · intro A c A2 c2 w s1 s2
    have := specAlike_c A A2 c c2 y.gs.length y w s1 s2 (by omega) (by omega) (by omega)
    rwa [hyc] at this
set_option maxRecDepth 100000 in
set_option maxHeartbeats 8000000 in
theorem lawRecognition_c (A : Option Addr) (n c : Nat) (bs : List Int) (A' : Option Addr) (n' c' : Nat) (bs' : List Int) (w : World) (hx : Sl w w.heap.size 1 A n (bs.flatMap u8C)) (hb : ∀ x ∈ bs, 0 ≤ x ∧ x ≤ 255)
    (hx' : Sl w w.heap.size 1 A' n' (bs'.flatMap u8C)) (hb' : ∀ x ∈ bs', 0 ≤ x ∧ x ≤ 255) :
    Calls Try.prog 4 #[.slice A n c, .slice A' n' c'] w fun e w' => e = .returned (.bool true) ∧ Below w.heap.size w w' := by
  have hL1 := b10Long_c A n c w
  have hL2 := b10Long_c A' n' c' w
  by_cases hn : 1048576 < n
  · rw [decide_eq_true hn] at hL1
    have HL1 := Lib.hid hL1; clear hL1
    clear hL2 hx hb hx' hb' hn
    go_enter Try.func4, Try.ntmps4
    go_wp2_with fail
    refine HL1.out.mono ?_
    rintro e w1 ⟨rfl, rfl⟩
    go_wp2_with fail
    go_ret
    exact ⟨rfl, Below.refl _ _⟩
  rw [decide_eq_false hn] at hL1
  by_cases hn' : 1048576 < n'
  · rw [decide_eq_true hn'] at hL2
    have HL1 := Lib.hid hL1; clear hL1
    have HL2 := Lib.hid hL2; clear hL2
    clear hx hb hx' hb' hn hn'
    go_enter Try.func4, Try.ntmps4
    go_wp2_with fail
    refine HL1.out.mono ?_
    rintro e w1 ⟨rfl, rfl⟩
    go_wp2_with fail
    refine HL2.out.mono ?_
    rintro e w1 ⟨rfl, rfl⟩
    go_wp2_with fail
    go_ret
    exact ⟨rfl, Below.refl _ _⟩
  rw [decide_eq_false hn'] at hL2
  have hD := drawConf_c A n c bs w hx hb (by unfold maxLen; omega)
  have hAt := fun (m : Int) (w1 : World) (hbb : Below w.heap.size w w1) (hm : m ≤ 1000000) => b10At_c A' n' c' w1.heap.size bs' 0 m w1 (hx'.next hbb) hb' (by omega) (by omega) hm
  have hWd := fun (w1 : World) (hbb : Below w.heap.size w w1) => b10Wide_c A' n' c' w1.heap.size bs' 1 600 w1 (hx'.next hbb) hb' (by omega) (by omega) (by omega) (by omega)
  have HL1 := Lib.hid hL1; clear hL1
  have HL2 := Lib.hid hL2; clear hL2
  have HD := Lib.hid hD; clear hD
  have HAt := Lib.hid hAt; clear hAt
  have HWd := Lib.hid hWd; clear hWd
  clear hx hb hx' hb' hn hn'
  go_enter Try.func4, Try.ntmps4
  go_wp2_with fail
  refine HL1.out.mono ?_
  rintro e w1 ⟨rfl, rfl⟩
  go_wp2_with fail
  refine HL2.out.mono ?_
  rintro e w1 ⟨rfl, rfl⟩
  go_wp2_with fail
  refine HD.out.mono ?_
  rintro e w1 ⟨⟨x, Ag, cg⟩, k2, A2, n2, c2, l2, cs2, p2, t, rfl, hsm, hgz, hb1⟩
  have sz := hsm
  dsimp only [ChG.n] at hgz sz ⊢
  have zg := sz.g
  have zl := sz.l
  have zc := sz.c
  have hbA : Below w1.heap.size w1 (w1.alloc (.cells #[.int .i64 x.k, .slice Ag x.gs.length cg, .string x.l, .string x.cs, .int .i64 x.p] 26)) := (Below.refl _ _).alloc (Nat.le_refl _) _
  have hbB : Below (w1.alloc (.cells #[.int .i64 x.k, .slice Ag x.gs.length cg, .string x.l, .string x.cs, .int .i64 x.p] 26)).heap.size (w1.alloc (.cells #[.int .i64 x.k, .slice Ag x.gs.length cg, .string x.l, .string x.cs, .int .i64 x.p] 26)) ((w1.alloc (.cells #[.int .i64 x.k, .slice Ag x.gs.length cg, .string x.l, .string x.cs, .int .i64 x.p] 26)).alloc (.cells #[.int .i64 k2, .slice A2 n2 c2, .string l2, .string cs2, .int .i64 p2] 26)) := (Below.refl _ _).alloc (Nat.le_refl _) _
  have hrow := (rowC.new w1 x.k (.slice Ag x.gs.length cg) x.l x.cs x.p).next hbB
  have hbl := hbA.trans (hbB.mono hbA.size)
  have hg2 := (Sl.of_own hgz).next hbl
  have H2 := hb1.trans (hbl.mono hb1.size)
  have Hrow := Lib.hid hrow; clear hrow
  have Hg2 := Lib.hid hg2; clear hg2
  clear hgz hsm hbA hbB hbl sz HL1 HL2 HD
  go_wp2_with fail
  replace hrow := Hrow.out
  replace hg2 := Hg2.out
  clear Hrow Hg2
  generalize (w1.alloc (.cells #[.int .i64 x.k, .slice Ag x.gs.length cg, .string x.l, .string x.cs, .int .i64 x.p] 26)).alloc (.cells #[.int .i64 k2, .slice A2 n2 c2, .string l2, .string cs2, .int .i64 p2] 26) = w2 at *
  obtain ⟨a5, ha5⟩ : ∃ a, w1.heap.size = a := ⟨_, rfl⟩
  rw [ha5] at hrow ⊢
  clear ha5
  refine (specValid_c Ag x.gs.length cg x _ hg2 (by omega) (by omega) (by omega)).mono ?_
  rintro e w3 ⟨rfl, hb3⟩
  have H3 := H2.trans (hb3.mono H2.size)
  have hrow3 := hrow.next hb3
  have hg3 := hg2.next hb3
  obtain ⟨c0, c1, c2', c3, c4, cf⟩ := hrow3.facts
  clear hrow hg2 hb3
  cases hv : validB x
  · go_wp2_with fail
    go_ret
    exact ⟨rfl, H3⟩
  have hcol := colors_one hv
  have hcs0 : ¬ x.cs.size = 0 := by omega
  have hcs1 : (1 : Int) ≤ (x.cs.size : Int) := by omega
  go_wp2_with fail
  refine (HAt.out _ _ H3 (by omega)).mono ?_
  rintro e w4 ⟨k, rfl, k0, k1, _, rfl⟩
  obtain ⟨j, rfl⟩ := Int.eq_ofNat_of_zero_le k0
  have hj : j < x.cs.size := by omega
  have hco := colB_ext hv hj
  have hhc := hasC_ext x.cs hj
  obtain ⟨y, N, M, Q, pc, qc, gc, ha⟩ := rnAns hv hco hhc
  have hwj : IntKind.i64.wrap ((j : Int) + 1) = (j : Int) + 1 := IntWalk.i64_in _ (by omega)
  have j1 : (0 : Int) ≤ (j : Int) + 1 := by omega
  have j2 : (j : Int) + 1 ≤ (x.cs.size : Int) := by omega
  have j3 : (j : Int) ≤ (j : Int) + 1 := by omega
  obtain ⟨co, hE⟩ : ∃ co, x.cs.extract j (j + 1) = co := ⟨_, rfl⟩
  rw [hE] at ha
  have HA := Lib.hid ha; clear ha
  have HE := Lib.hid hE; clear hE
  clear hco hhc hv k1 k0
  go_wp2_with fail
  rw [HE.out]
  refine (HA.out.ph Ag cg _ hg3).mono ?_
  rintro e w4 ⟨A4, c4', rfl, s4, hb4⟩
  have H4 := H3.trans (hb4.mono H3.size)
  clear c0 c1 c2' c3 c4 cf hrow3 hg3 hwj j1 j2 j3 hcs0 hcs1 hb4 H3 zg zl zc
  go_wp2_with fail
  refine (HA.out.rc A4 c4' _ s4).mono ?_
  rintro e w5 ⟨A5, c5, rfl, s5, hb5⟩
  have H5 := H4.trans (hb5.mono H4.size)
  have s45 := s4.next hb5
  have hbX : Below w5.heap.size w5 (w5.alloc (.cells #[.int .i64 y.k, .slice A5 M c5, .string y.l, .string co, .int .i64 y.p] 26)) := (Below.refl _ _).alloc (Nat.le_refl _) _
  have hrow := rowC.new w5 y.k (.slice A5 M c5) y.l co y.p
  have s46 := s45.next hbX
  have s56 := s5.next hbX
  have H6 := H5.trans (hbX.mono H5.size)
  have Hrow := Lib.hid hrow; clear hrow
  clear s4 s45 s5 hb5 hbX H4 H5
  go_wp2_with fail
  replace hrow := Hrow.out
  clear Hrow
  generalize w5.alloc (.cells #[.int .i64 y.k, .slice A5 M c5, .string y.l, .string co, .int .i64 y.p] 26) = w6 at *
  obtain ⟨a6, ha6⟩ : ∃ a, w5.heap.size = a := ⟨_, rfl⟩
  rw [ha6] at hrow ⊢
  clear ha6
  obtain ⟨c0, c1, c2', c3, c4, cf⟩ := hrow.facts
  refine (HA.out.vy A5 c5 _ s56).mono ?_
  rintro e w7 ⟨rfl, hb7⟩
  have H7 := H6.trans (hb7.mono H6.size)
  replace hrow := hrow.next hb7
  replace s46 := s46.next hb7
  replace s56 := s56.next hb7
  clear c0 c1 c2' c3 c4 cf hb7 H6
  obtain ⟨c0, c1, c2', c3, c4, cf⟩ := hrow.facts
  go_wp2_with fail
  refine (HA.out.qy A5 c5 _ s56).mono ?_
  rintro e w8 ⟨A8, c8, rfl, s8, hb8⟩
  have H8 := H7.trans (hb8.mono H7.size)
  replace hrow := hrow.next hb8
  replace s46 := s46.next hb8
  replace s56 := s56.next hb8
  clear c0 c1 c2' c3 c4 cf hb8 H7
  go_wp2_with fail
  refine (HWd.out _ H8).mono ?_
  rintro e w9 ⟨t, rfl, t0, t1, rfl⟩
  go_wp2_with fail
  refine (HA.out.sh A4 c4' t _ s46 t0 t1).mono ?_
  rintro e w10 ⟨A10, m, c10, rfl, hb10, hrc⟩
  have H10 := H8.trans (hb10.mono H8.size)
  replace hrow := hrow.next hb10
  replace s46 := s46.next hb10
  replace s56 := s56.next hb10
  replace s8 := s8.next hb10
  have Hrc := Lib.hid hrc; clear hrc
  clear hb10 H8
  go_wp2_with fail
  refine (Hrc.out _ (Below.refl _ _)).mono ?_
  rintro e w11 ⟨A11, c11, rfl, s11, hb11⟩
  have H11 := H10.trans (hb11.mono H10.size)
  have hbY : Below w11.heap.size w11 (w11.alloc (.cells #[.int .i64 y.k, .slice A11 M c11, .string y.l, .string co, .int .i64 y.p] 26)) := (Below.refl _ _).alloc (Nat.le_refl _) _
  have hrow2 := rowC.new w11 y.k (.slice A11 M c11) y.l co y.p
  replace hrow := (hrow.next hb11).next hbY
  replace s46 := (s46.next hb11).next hbY
  replace s56 := (s56.next hb11).next hbY
  replace s8 := (s8.next hb11).next hbY
  replace s11 := s11.next hbY
  have H12 := H11.trans (hbY.mono H11.size)
  have Hrow := Lib.hid hrow; clear hrow
  have Hrow2 := Lib.hid hrow2; clear hrow2
  clear hb11 H10 H11 hbY Hrc
  go_wp2_with fail
  generalize w11.alloc (.cells #[.int .i64 y.k, .slice A11 M c11, .string y.l, .string co, .int .i64 y.p] 26) = w12 at *
  refine (HA.out.sp A4 c4' A8 c8 _ s46 s8).mono ?_
  rintro e w13 ⟨rfl, hb13⟩
  have H13 := H12.trans (hb13.mono H12.size)
  obtain ⟨c0, c1, c2', c3, c4, cf⟩ := (Hrow.out.next hb13).facts
  obtain ⟨d0, d1, d2, d3, d4, df⟩ := (Hrow2.out.next hb13).facts
  replace s56 := s56.next hb13
  replace s11 := s11.next hb13
  clear hb13 H12 s46 s8
  go_wp2_with fail
  refine (HA.out.sc A5 c5 A11 c11 _ s56 s11).mono ?_
  rintro e w14 ⟨rfl, hb14⟩
  have H14 := H13.trans (hb14.mono H13.size)
  clear c0 c1 c2' c3 c4 cf d0 d1 d2 d3 d4 df
  go_wp2_with fail
  go_ret
  exact ⟨rfl, H14⟩
end Go.Proofs.Ytgibbhipjpbdfaa

/- FnRecognition returns true for every input, and leaves its arguments as they were. No condition. -/
namespace Go.Proofs.Ytgibbhipjpbdfaa.prRecognition
open Go.ChangeShapes Go.WideShapes Go.ChangeAt Go.RowKit
theorem own : ownKnob Try.prog.godebug = none := by kernel_rfl
theorem laidOut : laidOutB Try.prog = true := by kernel_rfl
set_option maxRecDepth 100000 in
theorem lifted (os : Os) (started : os.Started) (H : Type) (enc : TypeId × Value → H) :
    ReturnsInHanded {} Try.checked os 4 .any (Rows.fnRecognitionSpec.pre6 enc Try.prog Try.f4 Rows.fnRecognitionRow.domain false) (Rows.fnRecognitionSpec.post enc Try.prog Try.f4 false true false false) := by
  refine returnsInHanded_of_change (C := Try.checked) own started (by kernel_rfl) Try.func4
    (ChangeSpec.witness6 (enc := enc) (C := Try.checked) false ⟨#[], #[.slice none 0 0, .slice none 0 0], []⟩ 8 (by kernel_rfl) (by kernel_rfl) (by kernel_rfl) (by kernel_rfl)) ?_
  intro W base args ds gs before hval0 hW hcnd _
  have hval : ∀ (j : Nat) t v, Try.f4.params[j]? = some t → args[j]? = some v → Value.okWide Try.prog W .any base t v := hval0
  have hW' := hW
  obtain ⟨p, q, hA0, hV, rfl, hfz, hnd⟩ := hW
  have hA : DataW.TrodAll enc Try.prog W 0 (fun _ => true) true Try.f4.params.toList args.toList ds p := hA0
  rw [Try.params4] at hA hval
  obtain ⟨v0, vs0, d0, ds0, p0, q0, hargs, rfl, rfl, h0, r0⟩ := trodAll_cons hA
  obtain ⟨v1, vs1, d1, ds1, p1, q1, rfl, rfl, rfl, h1, r1⟩ := trodAll_cons r0
  obtain ⟨rfl, rfl, rfl⟩ := trodAll_nil r1
  obtain rfl : args = #[v0, v1] := by cases args; simp_all
  obtain ⟨rfl, rfl⟩ := trodVars_none hV
  obtain ⟨a0, n0, c0, rfl⟩ := okWide_slice Try.underlying36 (hval 0 36 v0 rfl rfl)
  obtain ⟨a1, n1, c1, rfl⟩ := okWide_slice Try.underlying36 (hval 1 36 v1 rfl rfl)
  have k0 := h0
  have lt0 : ∀ x ∈ p0, x.block < W.heap.size := by obtain ⟨m, hm⟩ := k0; exact DataW.trod_lt m _ _ _ hm
  have k1 := h1
  have lt1 : ∀ x ∈ p1, x.block < W.heap.size := by obtain ⟨m, hm⟩ := k1; exact DataW.trod_lt m _ _ _ hm
  obtain ⟨m0, bs, s0, ok0⟩ : n0 ≤ maxLen ∧ ∃ bs : List Int, Sl W W.heap.size 1 a0 n0 (bs.flatMap u8C) ∧ ∀ x ∈ bs, 0 ≤ x ∧ x ≤ 255 := by
    obtain ⟨fuel, hf⟩ := h0
    exact open_Sl u8C 1 u8C_len (by omega) (fun x => 0 ≤ x ∧ x ≤ 255) Try.underlying36 (by kernel_rfl) byte_trod (by simpa [Value.cells] using hf)
  obtain ⟨_, bs1, s1, ok1⟩ : n1 ≤ maxLen ∧ ∃ bs : List Int, Sl W W.heap.size 1 a1 n1 (bs.flatMap u8C) ∧ ∀ x ∈ bs, 0 ≤ x ∧ x ≤ 255 := by
    obtain ⟨fuel, hf⟩ := h1
    exact open_Sl u8C 1 u8C_len (by omega) (fun x => 0 ≤ x ∧ x ≤ 255) Try.underlying36 (by kernel_rfl) byte_trod (by simpa [Value.cells] using hf)
  refine (lawRecognition_c a0 n0 c0 bs a1 n1 c1 bs1 W s0 ok0 s1 ok1).mono fun e W' ⟨he, bel⟩ => ?_
  subst he
  exact ⟨_, rfl, _, _, _, [], _, [], hW', trodAll_mk1 (shut_bool Try.underlying4 _), (trodAll_cons_mk (Below.trod laidOut (by kernel_rfl) (of_decide_eq_true (by kernel_rfl)) k0 bel lt0) (trodAll_cons_mk (Below.trod laidOut (by kernel_rfl) (of_decide_eq_true (by kernel_rfl)) k1 bel lt1) trodAll_mk0)), rfl, bel.frame _, fun h => by cases h⟩
theorem holds : Rows.FnRecognitionSaid :=
  OpenClaim.holds_of_wide 4 Try.f4 rfl rfl rfl rfl rfl rfl rfl ⟨rfl, rfl, rfl, rfl, rfl⟩ rfl rfl rfl rfl rfl (by kernel_rfl) Try.func4 (by kernel_rfl)
    (of_decide_eq_true (by kernel_rfl)) (by unfold Func.isWrapper; first | (rw [if_pos (by decide +kernel)]; kernel_rfl) | (rw [if_neg (by decide +kernel)]; exact ⟨rfl, rfl⟩))
    (fun os started H enc _ => lifted os started H enc)
#print axioms holds
end Go.Proofs.Ytgibbhipjpbdfaa.prRecognition
