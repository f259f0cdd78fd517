/- A duty read from its text: the program. -/
import Derived.Test.YtgcfmmcdecabpaaDoorRdS
namespace Go.Proofs.YtgcfmmcdecabpaaDoor
open Go.RowKit
theorem jn_mem {sp : UInt8} : ∀ {P : List (List UInt8)} {p : List UInt8}, p ∈ P → p.length ≤ (jn sp P).length
  | [], _, h => absurd h (by simp)
  | [q], p, h => by
    obtain rfl : p = q := by simpa using h
    exact Nat.le_refl _
  | q :: r :: P, p, h => by
    rw [jn_cons q (by simp), List.length_append, List.length_cons]
    rcases List.mem_cons.1 h with rfl | h
    · omega
    · have := jn_mem (sp := sp) h
      omega
theorem dec_ne (u : Nat) : Lib.decDigits u ≠ [] := by
  rw [Lib.decDigits]; split <;> simp
theorem itoa_ne (n : Int) : Lib.itoa n ≠ [] := by
  rw [Lib.itoa]; split
  · simp
  · exact dec_ne _
theorem neB_of {p : ByteArray} {l : List UInt8} (h : lst p = l) (hl : l ≠ []) : neB p = true := by
  have := List.length_pos_iff.2 hl
  rw [← h, lst_len] at this
  simpa [neB] using this
theorem words_three {s : ByteArray} {P : List ByteArray} {d : Duty} (h : Pcs 32 (P.map lst) (lst s)) (hd : dutyB d = true) (he : dutyT d = s) :
    ∃ a b c, P.filter neB = [a, b, c] ∧ lst a = lst d.keeper ∧ lst b = Lib.itoa d.fr ∧ lst c = Lib.itoa d.un := by
  have h5 := duty_pcs h he hd
  match P, h5 with
  | [a, b, c], h5 =>
    simp only [List.map_cons, List.map_nil, List.cons.injEq, and_true] at h5
    obtain ⟨h6, h7, h8⟩ := h5
    have hk : d.keeper.data.toList ≠ [] := fun e => by
      have h9 := (nameB_iff.1 (dutyB_name hd)).1
      have := lst_len d.keeper
      rw [lst, e] at this
      simp at this
      omega
    exact ⟨a, b, c, by simp [neB_of h6 hk, neB_of h7 (itoa_ne _), neB_of h8 (itoa_ne _)], h6, h7, h8⟩
  | [], h5 => simp at h5
  | [a], h5 => simp at h5
  | [a, b], h5 => simp at h5
  | a :: b :: c :: e :: r, h5 => simp at h5
theorem word_size {s x : ByteArray} {P : List ByteArray} (h : Pcs 32 (P.map lst) (lst s)) (hx : x ∈ P.filter neB) : 0 < x.size ∧ x.size ≤ s.size := by
  obtain ⟨h1, h2⟩ := List.mem_filter.1 hx
  have h3 := jn_mem (sp := 32) (List.mem_map_of_mem (f := lst) h1)
  rw [h.eq, lst_len, lst_len] at h3
  exact ⟨by simpa [neB] using h2, h3⟩
set_option maxRecDepth 100000 in
set_option maxHeartbeats 4000000 in
theorem implReadDuty_c (s : ByteArray) (w : World) (hs : s.size ≤ 1048576) (hE : Env w) :
    Calls Tryd.prog 5 #[.string s] w fun e w' => RdAns s e ∧ Below w.heap.size w w' := by
  have p1 := DutyP.box w ⟨⟨#[]⟩, 0, 0⟩ 23
  have hb1 : Below w.heap.size w (w.alloc (dutyO ⟨⟨#[]⟩, 0, 0⟩ 23)) := by (repeat (first | (with_reducible assumption) | (with_reducible exact Below.refl _ _) | exact Nat.le_refl _ | exact Below.size (by with_reducible assumption) | (with_reducible refine Below.drew ?_) | (with_reducible refine below_drewN ?_ _) | (with_reducible refine Below.alloc ?_ ?_ _) | (with_reducible refine Below.setCell ?_ ?_ _) | (with_reducible refine le_alloc ?_ _) | (with_reducible refine le_set ?_ _ _) | (with_reducible refine le_drew ?_) | (with_reducible refine le_drewN ?_ _) | omega | (dsimp only; omega)))
  have hf1 : ∀ i, (w.alloc (dutyO ⟨⟨#[]⟩, 0, 0⟩ 23)).frozen? ⟨w.heap.size, i, none⟩ = false := fun i => by simp
  obtain ⟨w1, hw1⟩ : ∃ w1, w.alloc (dutyO ⟨⟨#[]⟩, 0, 0⟩ 23) = w1 := ⟨_, rfl⟩
  rw [hw1] at p1 hb1 hf1
  have hS := splitWords_c s w1 hs (hE.next hb1)
  have HS := Lib.hid hS; clear hS
  have HF1 := Lib.hid hf1; clear hf1
  have HE := Lib.hid hE; clear hE
  go_enter Tryd.func5, Tryd.ntmps5
  go_wp2_with fail
  try rw [hw1]
  clear hw1
  refine HS.out.mono ?_
  rintro e w2 ⟨v, P, rfl, ho, hpc, hb⟩
  obtain ⟨ws, hws⟩ : ∃ ws, P.filter neB = ws := ⟨_, rfl⟩
  rw [hws] at ho
  obtain ⟨n, hn⟩ : ∃ n, ws.length = n := ⟨_, rfl⟩
  rw [hn] at ho
  obtain ⟨A, c, rfl⟩ := own_slice ho
  have p2 := p1.next hb
  have hf2 : ∀ i, w2.frozen? ⟨w.heap.size, i, none⟩ = false := fun i => (keepF hb _ p1.hb i).trans (HF1.out i)
  replace hb1 := hb1.trans (hb.mono hb1.size)
  have hsl := Sl.of_own ho
  clear HS HF1 p1 ho hb
  by_cases h3 : n = 3
  rotate_left
  · have hno : ∀ d, dutyB d = true → dutyT d ≠ s := fun d hd he => by
      obtain ⟨a, b, c, h5, _⟩ := words_three hpc hd he
      rw [hws] at h5
      rw [h5] at hn
      simp at hn
      omega
    clear hn hws
    have h3' : ¬ (n : Int) = 3 := by omega
    obtain ⟨c0, c1, c2, hz⟩ := id p2
    have f0 := hf2 0
    have f1 := hf2 1
    have f2 := hf2 2
    have Hno := Lib.hid hno; clear hno
    clear hpc hsl hf2
    go_wp2_with fail
    have pw := dutyp_set p2 (⟨⟨#[]⟩, 0, 0⟩ : Duty)
    have bw := below_set hb1 (Nat.le_refl _) (⟨⟨#[]⟩, 0, 0⟩ : Duty)
    obtain ⟨wf, hwf⟩ : ∃ wf, setDuty w2 w.heap.size (⟨⟨#[]⟩, 0, 0⟩ : Duty) = wf := ⟨_, rfl⟩
    rw [hwf] at pw bw
    obtain ⟨k0, k1, k2, _⟩ := pw
    try dsimp only [setDuty] at hwf
    rw [hwf]
    exact bodyPost_ret (v := .tuple #[.agg #[.string ((⟨⟨#[]⟩, 0, 0⟩ : Duty)).keeper, .int .i64 ((⟨⟨#[]⟩, 0, 0⟩ : Duty)).fr, .int .i64 ((⟨⟨#[]⟩, 0, 0⟩ : Duty)).un], .bool false]) (by simp [results, Tryd.results5, go_sem, k0, k1, k2]) rfl ⟨.inr ⟨Hno.out, rfl⟩, bw⟩
  · subst h3
    obtain ⟨x, y, z, rfl⟩ := three_of hn
    have zx := word_size hpc (x := x) (by rw [hws]; simp)
    have zy := word_size hpc (x := y) (by rw [hws]; simp)
    have zz := word_size hpc (x := z) (by rw [hws]; simp)
    obtain ⟨bb, off, x', rfl, hbb, hx', d0⟩ := hsl.str 0 (by decide)
    obtain ⟨bb1, off1, y', e1, _, hy', d1⟩ := hsl.str 1 (by decide)
    obtain ⟨bb2, off2, z', e2, _, hz', d2⟩ := hsl.str 2 (by decide)
    injection e1 with e1
    injection e1 with e11 e12
    injection e2 with e2
    injection e2 with e21 e22
    subst e11 e12 e21 e22
    rw [Nat.add_zero] at d0
    obtain rfl : x = x' := by simpa using hx'
    obtain rfl : y = y' := by simpa using hy'
    obtain rfl : z = z' := by simpa using hz'
    have hdu : ∀ d, dutyB d = true → dutyT d = s → d = ⟨x, numX y, numX z⟩ ∧ numOk (lst y) = true ∧ numOk (lst z) = true := fun d hd he => by
      obtain ⟨a, b, c, h5, h6, h7, h8⟩ := words_three hpc hd he
      rw [hws] at h5
      simp only [List.cons.injEq, and_true] at h5
      obtain ⟨rfl, rfl, rfl⟩ := h5
      obtain ⟨_, g1, g2, g3, g4⟩ := dutyB_bd hd
      have n1 := num_of g1 g2
      have n2 := num_of g3 g4
      refine ⟨?_, by rw [h7]; exact n1.1, by rw [h8]; exact n2.1⟩
      cases d
      simp only [Duty.mk.injEq]
      exact ⟨(ba_ext h6).symm, by rw [numX, h7, n1.1, if_pos rfl, n1.2], by rw [numX, h8, n2.1, if_pos rfl, n2.2]⟩
    have hRd : ∀ (t : ByteArray) w1, t.size ≤ 1048576 → Below w.heap.size w w1 → Calls Tryd.prog 9 #[.string t] w1 fun e w' => e = .returned (.tuple #[.int .i64 (numX t), .bool (numOk (lst t))]) ∧ Below w1.heap.size w1 w' := fun t w1 h hbb => readDecimal_c t w1 h (HE.out.next hbb)
    have hNy := fun w1 => hRd y w1 (by omega)
    have hNz := fun w1 => hRd z w1 (by omega)
    clear hRd hpc hsl hx' hy' hz' hn hws
    generalize numOk (lst y) = B1 at *
    generalize numOk (lst z) = B2 at *
    generalize numX y = X at *
    generalize numX z = Z at *
    have hI := fun w1 hbb => implDutyText_c ⟨x, X, Z⟩ w1 (show x.size ≤ maxLen by unfold maxLen; omega) (HE.out.next (w' := w1) hbb).tab
    have Hdu := Lib.hid hdu; clear hdu
    have HNy := Lib.hid hNy; clear hNy
    have HNz := Lib.hid hNz; clear hNz
    have HI := Lib.hid hI; clear hI
    go_wp2_with fail
    refine (HNy.out _ hb1).mono ?_
    rintro e w3 ⟨rfl, hb3⟩
    have hbb3 := Nat.lt_of_lt_of_le hbb hb3.size
    have q0 := keepC hb3 bb hbb
    have p3 := p2.next hb3
    have hf3 : ∀ i, w3.frozen? ⟨w.heap.size, i, none⟩ = false := fun i => (keepF hb3 _ p2.hb i).trans (hf2 i)
    replace hb1 := hb1.trans (hb3.mono hb1.size)
    have d0 := (q0 _).trans d0
    have d1 := (q0 _).trans d1
    have d2 := (q0 _).trans d2
    clear q0 hb3 p2 hf2
    go_wp2_with fail
    refine (HNz.out _ hb1).mono ?_
    rintro e w4 ⟨rfl, hb4⟩
    have q0 := keepC hb4 bb hbb3
    have p4 := p3.next hb4
    have hf4 : ∀ i, w4.frozen? ⟨w.heap.size, i, none⟩ = false := fun i => (keepF hb4 _ p3.hb i).trans (hf3 i)
    replace hb1 := hb1.trans (hb4.mono hb1.size)
    have d0 := (q0 _).trans d0
    clear q0 hb4 p3 hf3 hbb hbb3
    have hb5 : Below w4.heap.size w4 (w4.alloc (dutyO ⟨x, X, Z⟩ 23)) := by (repeat (first | (with_reducible assumption) | (with_reducible exact Below.refl _ _) | exact Nat.le_refl _ | exact Below.size (by with_reducible assumption) | (with_reducible refine Below.drew ?_) | (with_reducible refine below_drewN ?_ _) | (with_reducible refine Below.alloc ?_ ?_ _) | (with_reducible refine Below.setCell ?_ ?_ _) | (with_reducible refine le_alloc ?_ _) | (with_reducible refine le_set ?_ _ _) | (with_reducible refine le_drew ?_) | (with_reducible refine le_drewN ?_ _) | omega | (dsimp only; omega)))
    have p6 := DutyP.box w4 ⟨x, X, Z⟩ 23
    have p5 := p4.next hb5
    have hf5 : ∀ i, (w4.alloc (dutyO ⟨x, X, Z⟩ 23)).frozen? ⟨w.heap.size, i, none⟩ = false := fun i => (keepF hb5 _ p4.hb i).trans (hf4 i)
    replace hb1 := hb1.trans (hb5.mono hb1.size)
    obtain ⟨w5, hw5⟩ : ∃ w5, w4.alloc (dutyO ⟨x, X, Z⟩ 23) = w5 := ⟨_, rfl⟩
    rw [hw5] at p6 p5 hb1 hf5
    have m0 := hf5 0
    have m1 := hf5 1
    have m2 := hf5 2
    obtain ⟨n0, n1, n2, hz4⟩ := id p5
    have HF5 := Lib.hid hf5; clear hf5
    clear hf4 hb5 p4
    cases B1
    · have hno : ∀ d, dutyB d = true → dutyT d ≠ s := fun d hd he => by cases (Hdu.out d hd he).2.1
      have Hno := Lib.hid hno; clear hno
      go_wp2_with fail
      try rw [hw5]
      have pw := dutyp_set p5 (⟨⟨#[]⟩, 0, 0⟩ : Duty)
      have bw := below_set hb1 (Nat.le_refl _) (⟨⟨#[]⟩, 0, 0⟩ : Duty)
      obtain ⟨wf, hwf⟩ : ∃ wf, setDuty w5 w.heap.size (⟨⟨#[]⟩, 0, 0⟩ : Duty) = wf := ⟨_, rfl⟩
      rw [hwf] at pw bw
      obtain ⟨k0, k1, k2, _⟩ := pw
      try dsimp only [setDuty] at hwf
      rw [hwf]
      exact bodyPost_ret (v := .tuple #[.agg #[.string ((⟨⟨#[]⟩, 0, 0⟩ : Duty)).keeper, .int .i64 ((⟨⟨#[]⟩, 0, 0⟩ : Duty)).fr, .int .i64 ((⟨⟨#[]⟩, 0, 0⟩ : Duty)).un], .bool false]) (by simp [results, Tryd.results5, go_sem, k0, k1, k2]) rfl ⟨.inr ⟨Hno.out, rfl⟩, bw⟩
    cases B2
    · have hno : ∀ d, dutyB d = true → dutyT d ≠ s := fun d hd he => by cases (Hdu.out d hd he).2.2
      have Hno := Lib.hid hno; clear hno
      go_wp2_with fail
      try rw [hw5]
      have pw := dutyp_set p5 (⟨⟨#[]⟩, 0, 0⟩ : Duty)
      have bw := below_set hb1 (Nat.le_refl _) (⟨⟨#[]⟩, 0, 0⟩ : Duty)
      obtain ⟨wf, hwf⟩ : ∃ wf, setDuty w5 w.heap.size (⟨⟨#[]⟩, 0, 0⟩ : Duty) = wf := ⟨_, rfl⟩
      rw [hwf] at pw bw
      obtain ⟨k0, k1, k2, _⟩ := pw
      try dsimp only [setDuty] at hwf
      rw [hwf]
      exact bodyPost_ret (v := .tuple #[.agg #[.string ((⟨⟨#[]⟩, 0, 0⟩ : Duty)).keeper, .int .i64 ((⟨⟨#[]⟩, 0, 0⟩ : Duty)).fr, .int .i64 ((⟨⟨#[]⟩, 0, 0⟩ : Duty)).un], .bool false]) (by simp [results, Tryd.results5, go_sem, k0, k1, k2]) rfl ⟨.inr ⟨Hno.out, rfl⟩, bw⟩
    · obtain ⟨gb, hgb⟩ : ∃ gb, w4.heap.size = gb := ⟨_, rfl⟩
      rw [hgb] at p6
      obtain ⟨g0, g1, g2, hz5⟩ := id p6
      obtain ⟨T, hT⟩ : ∃ T, dutyX ⟨x, X, Z⟩ = T := ⟨_, rfl⟩
      have hI := HI.out
      rw [hT] at hI
      have hyes : T = s → dutyB ⟨x, X, Z⟩ = true ∧ dutyT ⟨x, X, Z⟩ = s := fun h => by
        cases hB : dutyB ⟨x, X, Z⟩
        · rw [dutyX, hB] at hT
          exfalso
          have : s.size = 0 := by rw [← h, ← hT]; rfl
          omega
        · rw [dutyX, hB, if_pos rfl] at hT
          exact ⟨rfl, hT.trans h⟩
      have hnos : T ≠ s → ∀ d, dutyB d = true → dutyT d ≠ s := fun h d hd he => by
        obtain ⟨rfl, _⟩ := Hdu.out d hd he
        rw [dutyX, hd, if_pos rfl] at hT
        exact h (hT.symm.trans he)
      have HI2 := Lib.hid hI; clear hI
      have HT0 := Lib.hid hT; clear hT
      have Hyes := Lib.hid hyes; clear hyes
      have Hnos := Lib.hid hnos; clear hnos
      clear HI
      go_wp2_with fail
      try rw [hw5]
      try rw [hgb]
      clear hw5 hgb
      refine (HI2.out _ hb1).mono ?_
      rintro e w6 ⟨rfl, hb6⟩
      have p7 := p5.next hb6
      have p8 := p6.next hb6
      have hf6 : ∀ i, w6.frozen? ⟨w.heap.size, i, none⟩ = false := fun i => (keepF hb6 _ p5.hb i).trans (HF5.out i)
      replace hb1 := hb1.trans (hb6.mono hb1.size)
      clear hb6 m0 m1 m2 n0 n1 n2 hz4 HF5 p5 p6 d0 d1 d2 g0 g1 g2 hz5
      obtain ⟨c0, c1, c2, hz2⟩ := id p7
      obtain ⟨g0, g1, g2, hz3⟩ := id p8
      have f0 := hf6 0
      have f1 := hf6 1
      have f2 := hf6 2
      clear hf6
      by_cases hq : T = s
      · obtain ⟨hB, hTT⟩ := Hyes.out hq
        subst hq
        have hqq : (T.toList == T.toList) = true := by simp
        have HTT := Lib.hid hTT; clear hTT
        have HBB := Lib.hid hB; clear hB
        go_wp2_with fail
        have pw := dutyp_set p7 (⟨x, X, Z⟩ : Duty)
        have bw := below_set hb1 (Nat.le_refl _) (⟨x, X, Z⟩ : Duty)
        obtain ⟨wf, hwf⟩ : ∃ wf, setDuty w6 w.heap.size (⟨x, X, Z⟩ : Duty) = wf := ⟨_, rfl⟩
        rw [hwf] at pw bw
        obtain ⟨k0, k1, k2, _⟩ := pw
        try dsimp only [setDuty] at hwf
        rw [hwf]
        exact bodyPost_ret (v := .tuple #[.agg #[.string ((⟨x, X, Z⟩ : Duty)).keeper, .int .i64 ((⟨x, X, Z⟩ : Duty)).fr, .int .i64 ((⟨x, X, Z⟩ : Duty)).un], .bool true]) (by simp [results, Tryd.results5, go_sem, k0, k1, k2]) rfl ⟨.inl ⟨_, HBB.out, HTT.out, rfl⟩, bw⟩
      · have hno := Hnos.out hq
        have hqq : (T.toList == s.toList) = false := by rw [ba_beq]; simpa using hq
        have Hno := Lib.hid hno; clear hno
        clear hq
        go_wp2_with fail
        have pw := dutyp_set p7 (⟨⟨#[]⟩, 0, 0⟩ : Duty)
        have bw := below_set hb1 (Nat.le_refl _) (⟨⟨#[]⟩, 0, 0⟩ : Duty)
        obtain ⟨wf, hwf⟩ : ∃ wf, setDuty w6 w.heap.size (⟨⟨#[]⟩, 0, 0⟩ : Duty) = wf := ⟨_, rfl⟩
        rw [hwf] at pw bw
        obtain ⟨k0, k1, k2, _⟩ := pw
        try dsimp only [setDuty] at hwf
        rw [hwf]
        exact bodyPost_ret (v := .tuple #[.agg #[.string ((⟨⟨#[]⟩, 0, 0⟩ : Duty)).keeper, .int .i64 ((⟨⟨#[]⟩, 0, 0⟩ : Duty)).fr, .int .i64 ((⟨⟨#[]⟩, 0, 0⟩ : Duty)).un], .bool false]) (by simp [results, Tryd.results5, go_sem, k0, k1, k2]) rfl ⟨.inr ⟨Hno.out, rfl⟩, bw⟩
end Go.Proofs.YtgcfmmcdecabpaaDoor
