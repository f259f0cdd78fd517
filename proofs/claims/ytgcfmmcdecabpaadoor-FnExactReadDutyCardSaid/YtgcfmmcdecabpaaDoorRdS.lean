/- A duty read from its text: the reference. -/
import Derived.Test.YtgcfmmcdecabpaaDoorNumI
import Derived.Test.YtgcfmmcdecabpaaDoorDutX
namespace Go.Proofs.YtgcfmmcdecabpaaDoor
open Go.RowKit
theorem three_sizes {s a b c : ByteArray} (h : Pcs 32 ([a, b, c].map lst) (lst s)) (hs : s.size ≤ 1048576) : a.size ≤ 1048576 ∧ b.size ≤ 1048576 ∧ c.size ≤ 1048576 := by
  have := congrArg List.length (Pcs.of3 h)
  simp only [List.length_append, List.length_cons, lst_len] at this
  omega
theorem three_of {ws : List ByteArray} (h : ws.length = 3) : ∃ a b c, ws = [a, b, c] := by
  match ws, h with
  | [a, b, c], _ => exact ⟨a, b, c, rfl⟩
abbrev setDuty (w : World) (b : Nat) (d : Duty) : World := ((w.setCell ⟨b, 0, none⟩ (.string d.keeper)).setCell ⟨b, 1, none⟩ (.int .i64 d.fr)).setCell ⟨b, 2, none⟩ (.int .i64 d.un)
theorem dutyp_set {w : World} {b : Nat} {d0 : Duty} (h : DutyP w b d0) (d : Duty) : DutyP (setDuty w b d) b d := by
  have a0 := World.cell?_setCell_same _ _ (.string d.keeper) h.c0
  have a1 : (w.setCell ⟨b, 0, none⟩ (.string d.keeper)).cell? ⟨b, 1, none⟩ = _ := (World.cell?_setCell_other _ _ _ _ (by simp)).trans h.c1
  have a2 : ((w.setCell ⟨b, 0, none⟩ (.string d.keeper)).setCell ⟨b, 1, none⟩ (.int .i64 d.fr)).cell? ⟨b, 2, none⟩ = _ := (World.cell?_setCell_other _ _ _ _ (by simp)).trans ((World.cell?_setCell_other _ _ _ _ (by simp)).trans h.c2)
  exact ⟨(World.cell?_setCell_other _ _ _ _ (by simp)).trans ((World.cell?_setCell_other _ _ _ _ (by simp)).trans a0), (World.cell?_setCell_other _ _ _ _ (by simp)).trans (World.cell?_setCell_same _ _ _ a1), World.cell?_setCell_same _ _ _ a2, by simpa using h.hb⟩
theorem below_set {w w2 : World} {b : Nat} (h : Below w.heap.size w w2) (hb : w.heap.size ≤ b) (d : Duty) : Below w.heap.size w (setDuty w2 b d) :=
  ((h.setCell (p := ⟨b, 0, none⟩) hb _).setCell (p := ⟨b, 1, none⟩) hb _).setCell (p := ⟨b, 2, none⟩) hb _
set_option maxRecDepth 100000 in
set_option maxHeartbeats 4000000 in
theorem l28Read_c (s : ByteArray) (w : World) (hs : s.size ≤ 1048576) :
    Calls Tryd.prog 7 #[.string s] w fun e w' => RdAns s e ∧ Below w.heap.size w w' := by
  have hS : ∀ w1, Calls Tryd.prog 11 #[.string s, .int .u8 32] w1 fun e w' => ∃ (v : Value) (ws : List ByteArray), e = .returned v ∧ w'.ownsRow w1.heap.size 9 1 v ws.length (ws.flatMap strC) ∧ ws.length ≤ s.size + 1 ∧ Pcs 32 (ws.map lst) (lst s) ∧ Below w1.heap.size w1 w' := fun w1 => l01Split_c 32 s w1 hs
  have p1 := DutyP.box w ⟨⟨#[]⟩, 0, 0⟩ 23
  have hb1 : Below w.heap.size w (w.alloc (dutyO ⟨⟨#[]⟩, 0, 0⟩ 23)) := by (repeat (first | (with_reducible assumption) | (with_reducible exact Below.refl _ _) | exact Nat.le_refl _ | exact Below.size (by with_reducible assumption) | (with_reducible refine Below.drew ?_) | (with_reducible refine below_drewN ?_ _) | (with_reducible refine Below.alloc ?_ ?_ _) | (with_reducible refine Below.setCell ?_ ?_ _) | (with_reducible refine le_alloc ?_ _) | (with_reducible refine le_set ?_ _ _) | (with_reducible refine le_drew ?_) | (with_reducible refine le_drewN ?_ _) | omega | (dsimp only; omega)))
  have hf1 : ∀ i, (w.alloc (dutyO ⟨⟨#[]⟩, 0, 0⟩ 23)).frozen? ⟨w.heap.size, i, none⟩ = false := fun i => by simp
  obtain ⟨w1, hw1⟩ : ∃ w1, w.alloc (dutyO ⟨⟨#[]⟩, 0, 0⟩ 23) = w1 := ⟨_, rfl⟩
  rw [hw1] at p1 hb1 hf1
  have HS := Lib.hid hS; clear hS
  have HF1 := Lib.hid hf1; clear hf1
  go_enter Tryd.func7, Tryd.ntmps7
  go_wp2_with fail
  try rw [hw1]
  clear hw1
  refine (HS.out _).mono ?_
  rintro e w2 ⟨v, ws, rfl, ho, hl, hpc, hb⟩
  obtain ⟨n, hn⟩ : ∃ n, ws.length = n := ⟨_, rfl⟩
  rw [hn] at ho
  obtain ⟨A, c, rfl⟩ := own_slice ho
  have p2 := p1.next hb
  have hf2 : ∀ i, w2.frozen? ⟨w.heap.size, i, none⟩ = false := fun i => (keepF hb _ p1.hb i).trans (HF1.out i)
  replace hb1 := hb1.trans (hb.mono hb1.size)
  have hsl := Sl.of_own ho
  clear HS HF1 p1 ho hb
  by_cases h3 : n = 3
  rotate_left
  · have hno : ∀ d, dutyB d = true → dutyT d ≠ s := fun d hd he => by
      have := congrArg List.length (duty_pcs hpc he hd)
      simp at this
      omega
    clear hn
    have h3' : ¬ (n : Int) = 3 := by omega
    obtain ⟨c0, c1, c2, hz⟩ := id p2
    have f0 := hf2 0
    have f1 := hf2 1
    have f2 := hf2 2
    have Hno := Lib.hid hno; clear hno
    clear hpc hsl hf2
    go_wp2_with fail
    have pw := dutyp_set p2 (⟨⟨#[]⟩, 0, 0⟩ : Duty)
    have bw := below_set hb1 (Nat.le_refl _) (⟨⟨#[]⟩, 0, 0⟩ : Duty)
    obtain ⟨wf, hwf⟩ : ∃ wf, setDuty w2 w.heap.size (⟨⟨#[]⟩, 0, 0⟩ : Duty) = wf := ⟨_, rfl⟩
    rw [hwf] at pw bw
    obtain ⟨k0, k1, k2, _⟩ := pw
    try dsimp only [setDuty] at hwf
    rw [hwf]
    exact bodyPost_ret (v := .tuple #[.agg #[.string ((⟨⟨#[]⟩, 0, 0⟩ : Duty)).keeper, .int .i64 ((⟨⟨#[]⟩, 0, 0⟩ : Duty)).fr, .int .i64 ((⟨⟨#[]⟩, 0, 0⟩ : Duty)).un], .bool false]) (by simp [results, Tryd.results7, go_sem, k0, k1, k2]) rfl ⟨.inr ⟨Hno.out, rfl⟩, bw⟩
  · subst h3
    obtain ⟨x, y, z, rfl⟩ := three_of hn
    obtain ⟨sx, sy, sz⟩ := three_sizes hpc hs
    obtain ⟨bb, off, x', rfl, hbb, hx', d0⟩ := hsl.str 0 (by decide)
    obtain ⟨bb1, off1, y', e1, _, hy', d1⟩ := hsl.str 1 (by decide)
    obtain ⟨bb2, off2, z', e2, _, hz', d2⟩ := hsl.str 2 (by decide)
    injection e1 with e1
    injection e1 with e11 e12
    injection e2 with e2
    injection e2 with e21 e22
    subst e11 e12 e21 e22
    rw [Nat.add_zero] at d0
    obtain rfl : x = x' := by simpa using hx'
    obtain rfl : y = y' := by simpa using hy'
    obtain rfl : z = z' := by simpa using hz'
    have hdu : ∀ d, dutyB d = true → dutyT d = s → d = ⟨x, numX y, numX z⟩ ∧ numOk (lst y) = true ∧ numOk (lst z) = true := fun d hd he => by
      have h5 := duty_pcs hpc he hd
      simp only [List.map_cons, List.map_nil, List.cons.injEq, and_true] at h5
      obtain ⟨h6, h7, h8⟩ := h5
      obtain ⟨_, g1, g2, g3, g4⟩ := dutyB_bd hd
      have n1 := num_of g1 g2
      have n2 := num_of g3 g4
      refine ⟨?_, by rw [h7]; exact n1.1, by rw [h8]; exact n2.1⟩
      cases d
      simp only [Duty.mk.injEq]
      exact ⟨(ba_ext h6).symm, by rw [numX, h7, n1.1, if_pos rfl, n1.2], by rw [numX, h8, n2.1, if_pos rfl, n2.2]⟩
    have hof : numOk (lst y) = true → numOk (lst z) = true → dutyT ⟨x, numX y, numX z⟩ = s := fun h5 h6 => by
      rw [numX, h5, if_pos rfl, numX, h6, if_pos rfl]
      exact duty_of hpc h5 h6
    have hN : ∀ (t : ByteArray) w1, t.size ≤ 1048576 → Calls Tryd.prog 12 #[.string t] w1 fun e w' => e = .returned (.tuple #[.int .i64 (numX t), .bool (numOk (lst t))]) ∧ w1 = w' := fun t w1 h => l01Number_c t w1 h
    have hNy := fun w1 => hN y w1 sy
    have hNz := fun w1 => hN z w1 sz
    clear hN hpc hsl hx' hy' hz' hn
    generalize numOk (lst y) = B1 at *
    generalize numOk (lst z) = B2 at *
    generalize numX y = X at *
    generalize numX z = Z at *
    have hb3 : Below w2.heap.size w2 (w2.alloc (dutyO ⟨x, X, Z⟩ 23)) := by (repeat (first | (with_reducible assumption) | (with_reducible exact Below.refl _ _) | exact Nat.le_refl _ | exact Below.size (by with_reducible assumption) | (with_reducible refine Below.drew ?_) | (with_reducible refine below_drewN ?_ _) | (with_reducible refine Below.alloc ?_ ?_ _) | (with_reducible refine Below.setCell ?_ ?_ _) | (with_reducible refine le_alloc ?_ _) | (with_reducible refine le_set ?_ _ _) | (with_reducible refine le_drew ?_) | (with_reducible refine le_drewN ?_ _) | omega | (dsimp only; omega)))
    have p4 := DutyP.box w2 ⟨x, X, Z⟩ 23
    have p3 := p2.next hb3
    obtain ⟨c0, c1, c2, hz2⟩ := id p2
    have f0 := hf2 0
    have f1 := hf2 1
    have f2 := hf2 2
    have hf3 : ∀ i, (w2.alloc (dutyO ⟨x, X, Z⟩ 23)).frozen? ⟨w.heap.size, i, none⟩ = false := fun i => (keepF hb3 _ hz2 i).trans (hf2 i)
    replace hb1 := hb1.trans (hb3.mono hb1.size)
    obtain ⟨w3, hw3⟩ : ∃ w3, w2.alloc (dutyO ⟨x, X, Z⟩ 23) = w3 := ⟨_, rfl⟩
    rw [hw3] at p4 p3 hb1 hf3
    have m0 := hf3 0
    have m1 := hf3 1
    have m2 := hf3 2
    obtain ⟨n0, n1, n2, hz4⟩ := id p3
    have Hdu := Lib.hid hdu; clear hdu
    have Hof := Lib.hid hof; clear hof
    have HNy := Lib.hid hNy; clear hNy
    have HNz := Lib.hid hNz; clear hNz
    have HF3 := Lib.hid hf3; clear hf3
    clear hf2 hb3
    go_wp2_with fail
    refine (HNy.out _).mono ?_
    rintro e w4 ⟨rfl, rfl⟩
    go_wp2_with fail
    refine (HNz.out _).mono ?_
    rintro e w4 ⟨rfl, rfl⟩
    cases B1
    · have hno : ∀ d, dutyB d = true → dutyT d ≠ s := fun d hd he => by cases (Hdu.out d hd he).2.1
      have Hno := Lib.hid hno; clear hno
      go_wp2_with fail
      try rw [hw3]
      have pw := dutyp_set p3 (⟨⟨#[]⟩, 0, 0⟩ : Duty)
      have bw := below_set hb1 (Nat.le_refl _) (⟨⟨#[]⟩, 0, 0⟩ : Duty)
      obtain ⟨wf, hwf⟩ : ∃ wf, setDuty w3 w.heap.size (⟨⟨#[]⟩, 0, 0⟩ : Duty) = wf := ⟨_, rfl⟩
      rw [hwf] at pw bw
      obtain ⟨k0, k1, k2, _⟩ := pw
      try dsimp only [setDuty] at hwf
      rw [hwf]
      exact bodyPost_ret (v := .tuple #[.agg #[.string ((⟨⟨#[]⟩, 0, 0⟩ : Duty)).keeper, .int .i64 ((⟨⟨#[]⟩, 0, 0⟩ : Duty)).fr, .int .i64 ((⟨⟨#[]⟩, 0, 0⟩ : Duty)).un], .bool false]) (by simp [results, Tryd.results7, go_sem, k0, k1, k2]) rfl ⟨.inr ⟨Hno.out, rfl⟩, bw⟩
    cases B2
    · have hno : ∀ d, dutyB d = true → dutyT d ≠ s := fun d hd he => by cases (Hdu.out d hd he).2.2
      have Hno := Lib.hid hno; clear hno
      go_wp2_with fail
      try rw [hw3]
      have pw := dutyp_set p3 (⟨⟨#[]⟩, 0, 0⟩ : Duty)
      have bw := below_set hb1 (Nat.le_refl _) (⟨⟨#[]⟩, 0, 0⟩ : Duty)
      obtain ⟨wf, hwf⟩ : ∃ wf, setDuty w3 w.heap.size (⟨⟨#[]⟩, 0, 0⟩ : Duty) = wf := ⟨_, rfl⟩
      rw [hwf] at pw bw
      obtain ⟨k0, k1, k2, _⟩ := pw
      try dsimp only [setDuty] at hwf
      rw [hwf]
      exact bodyPost_ret (v := .tuple #[.agg #[.string ((⟨⟨#[]⟩, 0, 0⟩ : Duty)).keeper, .int .i64 ((⟨⟨#[]⟩, 0, 0⟩ : Duty)).fr, .int .i64 ((⟨⟨#[]⟩, 0, 0⟩ : Duty)).un], .bool false]) (by simp [results, Tryd.results7, go_sem, k0, k1, k2]) rfl ⟨.inr ⟨Hno.out, rfl⟩, bw⟩
    · have hT := Hof.out rfl rfl
      have HT := Lib.hid hT; clear hT
      obtain ⟨gb, hgb⟩ : ∃ gb, w2.heap.size = gb := ⟨_, rfl⟩
      rw [hgb] at p4
      have hO := fun w1 hbb => l28One_c gb ⟨x, X, Z⟩ w1 (p4.next (w' := w1) hbb) (show x.size ≤ maxLen by unfold maxLen; omega)
      have HO := Lib.hid hO; clear hO
      go_wp2_with fail
      try rw [hw3]
      try rw [hgb]
      clear hw3 hgb
      refine (HO.out _ (Below.refl _ _)).mono ?_
      rintro e w5 ⟨rfl, hb5⟩
      have p5 := p3.next hb5
      have p6 := p4.next hb5
      have hf5 : ∀ i, w5.frozen? ⟨w.heap.size, i, none⟩ = false := fun i => (keepF hb5 _ p3.hb i).trans (HF3.out i)
      replace hb1 := hb1.trans (hb5.mono hb1.size)
      clear c0 c1 c2 f0 f1 f2 hz2 hb5 m0 m1 m2 n0 n1 n2 hz4
      obtain ⟨c0, c1, c2, hz2⟩ := id p5
      obtain ⟨g0, g1, g2, hz3⟩ := id p6
      have f0 := hf5 0
      have f1 := hf5 1
      have f2 := hf5 2
      clear hf5 HF3 p3 p4 d0 d1 d2
      cases hB : dutyB ⟨x, X, Z⟩
      · have hno : ∀ d, dutyB d = true → dutyT d ≠ s := fun d hd he => by
          rw [(Hdu.out d hd he).1, hB] at hd
          cases hd
        have Hno := Lib.hid hno; clear hno
        go_wp2_with fail
        have pw := dutyp_set p5 (⟨⟨#[]⟩, 0, 0⟩ : Duty)
        have bw := below_set hb1 (Nat.le_refl _) (⟨⟨#[]⟩, 0, 0⟩ : Duty)
        obtain ⟨wf, hwf⟩ : ∃ wf, setDuty w5 w.heap.size (⟨⟨#[]⟩, 0, 0⟩ : Duty) = wf := ⟨_, rfl⟩
        rw [hwf] at pw bw
        obtain ⟨k0, k1, k2, _⟩ := pw
        try dsimp only [setDuty] at hwf
        rw [hwf]
        exact bodyPost_ret (v := .tuple #[.agg #[.string ((⟨⟨#[]⟩, 0, 0⟩ : Duty)).keeper, .int .i64 ((⟨⟨#[]⟩, 0, 0⟩ : Duty)).fr, .int .i64 ((⟨⟨#[]⟩, 0, 0⟩ : Duty)).un], .bool false]) (by simp [results, Tryd.results7, go_sem, k0, k1, k2]) rfl ⟨.inr ⟨Hno.out, rfl⟩, bw⟩
      · go_wp2_with fail
        have pw := dutyp_set p5 (⟨x, X, Z⟩ : Duty)
        have bw := below_set hb1 (Nat.le_refl _) (⟨x, X, Z⟩ : Duty)
        obtain ⟨wf, hwf⟩ : ∃ wf, setDuty w5 w.heap.size (⟨x, X, Z⟩ : Duty) = wf := ⟨_, rfl⟩
        rw [hwf] at pw bw
        obtain ⟨k0, k1, k2, _⟩ := pw
        try dsimp only [setDuty] at hwf
        rw [hwf]
        exact bodyPost_ret (v := .tuple #[.agg #[.string ((⟨x, X, Z⟩ : Duty)).keeper, .int .i64 ((⟨x, X, Z⟩ : Duty)).fr, .int .i64 ((⟨x, X, Z⟩ : Duty)).un], .bool true]) (by simp [results, Tryd.results7, go_sem, k0, k1, k2]) rfl ⟨.inl ⟨_, hB, HT.out, rfl⟩, bw⟩
set_option maxRecDepth 100000 in
set_option maxHeartbeats 1000000 in
theorem specReadDuty_c (s : ByteArray) (w : World) (hs : s.size ≤ 1048576) :
    Calls Tryd.prog 4 #[.string s] w fun e w' => RdAns s e ∧ Below w.heap.size w w' := by
  have p1 := DutyP.box w ⟨⟨#[]⟩, 0, 0⟩ 23
  have hb1 : Below w.heap.size w (w.alloc (dutyO ⟨⟨#[]⟩, 0, 0⟩ 23)) := by (repeat (first | (with_reducible assumption) | (with_reducible exact Below.refl _ _) | exact Nat.le_refl _ | exact Below.size (by with_reducible assumption) | (with_reducible refine Below.drew ?_) | (with_reducible refine below_drewN ?_ _) | (with_reducible refine Below.alloc ?_ ?_ _) | (with_reducible refine Below.setCell ?_ ?_ _) | (with_reducible refine le_alloc ?_ _) | (with_reducible refine le_set ?_ _ _) | (with_reducible refine le_drew ?_) | (with_reducible refine le_drewN ?_ _) | omega | (dsimp only; omega)))
  have hf1 : ∀ i, (w.alloc (dutyO ⟨⟨#[]⟩, 0, 0⟩ 23)).frozen? ⟨w.heap.size, i, none⟩ = false := fun i => by simp
  obtain ⟨w1, hw1⟩ : ∃ w1, w.alloc (dutyO ⟨⟨#[]⟩, 0, 0⟩ 23) = w1 := ⟨_, rfl⟩
  rw [hw1] at p1 hb1 hf1
  have hR := l28Read_c s w1 hs
  have HR := Lib.hid hR; clear hR
  have HF1 := Lib.hid hf1; clear hf1
  go_enter Tryd.func4, Tryd.ntmps4
  go_wp2_with fail
  try rw [hw1]
  clear hw1
  refine HR.out.mono ?_
  rintro e w2 ⟨hans, hb⟩
  have p2 := p1.next hb
  have hf2 : ∀ i, w2.frozen? ⟨w.heap.size, i, none⟩ = false := fun i => (keepF hb _ p1.hb i).trans (HF1.out i)
  replace hb1 := hb1.trans (hb.mono hb1.size)
  clear HF1 p1 hb HR
  obtain ⟨c0, c1, c2, hz⟩ := id p2
  have f0 := hf2 0
  have f1 := hf2 1
  have f2 := hf2 2
  clear hf2
  rcases hans with ⟨d, hd, hds, rfl⟩ | ⟨hno, rfl⟩
  · have HT := Lib.hid hds; clear hds
    go_wp2_with fail
    have pw := dutyp_set p2 d
    have bw := below_set hb1 (Nat.le_refl _) d
    obtain ⟨wf, hwf⟩ : ∃ wf, setDuty w2 w.heap.size d = wf := ⟨_, rfl⟩
    rw [hwf] at pw bw
    obtain ⟨k0, k1, k2, _⟩ := pw
    try dsimp only [setDuty] at hwf
    rw [hwf]
    exact bodyPost_ret (v := .tuple #[.agg #[.string (d).keeper, .int .i64 (d).fr, .int .i64 (d).un], .bool true]) (by simp [results, Tryd.results4, go_sem, k0, k1, k2]) rfl ⟨.inl ⟨_, hd, HT.out, rfl⟩, bw⟩
  · have Hno := Lib.hid hno; clear hno
    go_wp2_with fail
    have pw := dutyp_set p2 (⟨ByteArray.empty, 0, 0⟩ : Duty)
    have bw := below_set hb1 (Nat.le_refl _) (⟨ByteArray.empty, 0, 0⟩ : Duty)
    obtain ⟨wf, hwf⟩ : ∃ wf, setDuty w2 w.heap.size (⟨ByteArray.empty, 0, 0⟩ : Duty) = wf := ⟨_, rfl⟩
    rw [hwf] at pw bw
    obtain ⟨k0, k1, k2, _⟩ := pw
    try dsimp only [setDuty] at hwf
    rw [hwf]
    exact bodyPost_ret (v := .tuple #[.agg #[.string ((⟨ByteArray.empty, 0, 0⟩ : Duty)).keeper, .int .i64 ((⟨ByteArray.empty, 0, 0⟩ : Duty)).fr, .int .i64 ((⟨ByteArray.empty, 0, 0⟩ : Duty)).un], .bool false]) (by simp [results, Tryd.results4, go_sem, k0, k1, k2]) rfl ⟨.inr ⟨Hno.out, rfl⟩, bw⟩
end Go.Proofs.YtgcfmmcdecabpaaDoor
