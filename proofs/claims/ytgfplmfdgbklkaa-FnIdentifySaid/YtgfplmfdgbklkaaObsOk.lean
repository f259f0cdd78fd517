/- Observations, both sides. -/
import Derived.Test.YtgfplmfdgbklkaaCol
import Derived.Test.YtgfplmfdgbklkaaChLit
namespace Go.Proofs.Ytgfplmfdgbklkaa
open Go.RowKit
/-- The color of the first phase. -/
def hcO (o : List Ph) : ByteArray := (o.getD 0 ⟨⟨#[]⟩, 0⟩).c
theorem hcO_at {o : List Ph} {p : Ph} (h : o[0]? = some p) : hcO o = p.c := by rw [hcO, List.getD_eq_getElem?_getD, h]; rfl
def sOk (o : List Ph) (i : Nat) : Bool := match o[i]? with
  | none => true
  | some p => (p.c.toList.isEmpty || colB p.c) && (inB p.len 1 1200 && ((p.c.toList.isEmpty == decide (i % 2 = 1)) && !(decide (1 < i) && (decide (i % 2 = 0) && !decide (p.c = hcO o)))))
def iOk (o : List Ph) (i : Nat) : Bool := match o[i]? with
  | none => true
  | some p => inB p.len 1 1200 && (bif decide (i % 2 = 1) then p.c.toList.isEmpty else decide (p.c = hcO o))
theorem sOk_at {o : List Ph} {i : Nat} {p : Ph} (h : o[i]? = some p) : sOk o i = ((p.c.toList.isEmpty || colB p.c) && (inB p.len 1 1200 && ((p.c.toList.isEmpty == decide (i % 2 = 1)) && !(decide (1 < i) && (decide (i % 2 = 0) && !decide (p.c = hcO o)))))) := by simp only [sOk, h]
theorem iOk_at {o : List Ph} {i : Nat} {p : Ph} (h : o[i]? = some p) : iOk o i = (inB p.len 1 1200 && (bif decide (i % 2 = 1) then p.c.toList.isEmpty else decide (p.c = hcO o))) := by simp only [iOk, h]
def obsB (o : List Ph) : Bool := allB o.length (sOk o) && inB o.length 1 24
theorem colB_E2 {t : ByteArray} (h : colB t = true) : t.toList.isEmpty = false := isE_no (by rw [colB_size h]; decide)
theorem obsB_i (o : List Ph) : obsB o = (allB o.length (iOk o) && (inB o.length 1 24 && colB (hcO o))) := by
  rw [Bool.eq_iff_iff]
  simp only [obsB, Bool.and_eq_true, allB_iff]
  constructor
  · rintro ⟨hs, hl⟩
    have h0 : 0 < o.length := by have := inB_iff.1 hl; omega
    have hp0 : o[0]? = some o[0] := List.getElem?_eq_getElem h0
    have hc0 := hcO_at hp0
    have s0 := hs 0 h0
    rw [sOk_at hp0] at s0
    have hcol : colB (hcO o) = true := by
      rw [hc0]
      simp only [Bool.and_eq_true] at s0
      obtain ⟨a, _, b, _⟩ := s0
      have hE : o[0].c.toList.isEmpty = false := by simpa using b
      rw [hE] at a; simpa using a
    refine ⟨fun i hi => ?_, hl, hcol⟩
    have hpi : o[i]? = some o[i] := List.getElem?_eq_getElem hi
    have si := hs i hi
    rw [sOk_at hpi] at si
    rw [iOk_at hpi]
    simp only [Bool.and_eq_true] at si
    obtain ⟨_, b, c, d⟩ := si
    rw [b, Bool.true_and]
    by_cases hodd : i % 2 = 1
    · rw [decide_eq_true hodd] at c ⊢
      simpa using c
    · rw [decide_eq_false hodd]
      have he : i % 2 = 0 := by omega
      by_cases h1 : 1 < i
      · rw [decide_eq_true h1, decide_eq_true he] at d
        simpa using d
      · obtain rfl : i = 0 := by omega
        rw [hc0]; simp
  · rintro ⟨hs, hl, hcol⟩
    refine ⟨fun i hi => ?_, hl⟩
    have hpi : o[i]? = some o[i] := List.getElem?_eq_getElem hi
    have si := hs i hi
    rw [iOk_at hpi] at si
    rw [sOk_at hpi]
    simp only [Bool.and_eq_true] at si
    obtain ⟨a, b⟩ := si
    rw [a]
    by_cases hodd : i % 2 = 1
    · rw [decide_eq_true hodd] at b ⊢
      have he : ¬ i % 2 = 0 := by omega
      rw [decide_eq_false he]
      simp only [cond_true] at b
      rw [b]; simp
    · rw [decide_eq_false hodd] at b ⊢
      simp only [cond_false, decide_eq_true_eq] at b
      rw [b, hcol, colB_E2 hcol]
      simp
theorem tm1 (k : Nat) : ((k : Int).tmod 2 == 1) = decide (k % 2 = 1) := by rw [Int.tmod_eq_emod_of_nonneg (by omega), Bool.eq_iff_iff]; simp; omega
theorem tm0 (k : Nat) : ((k : Int).tmod 2 == 0) = !decide (k % 2 = 1) := by rw [Int.tmod_eq_emod_of_nonneg (by omega), Bool.eq_iff_iff]; simp; omega
theorem em1 (k : Nat) : ((k : Int) % 2 == 1) = decide (k % 2 = 1) := by rw [Bool.eq_iff_iff]; simp; omega
theorem em0 (k : Nat) : ((k : Int) % 2 == 0) = !decide (k % 2 = 1) := by rw [Bool.eq_iff_iff]; simp; omega
theorem bneq (s t : ByteArray) : (s.toList != t.toList) = !decide (s = t) := by rw [bne, ba_beq]
set_option maxRecDepth 100000 in
set_option maxHeartbeats 2000000 in
theorem l17Ok_c (A : Option Addr) (n c : Nat) (o : List Ph) (w : World) (h : Sl w w.heap.size 2 A n (o.flatMap Ph.cells)) (hm : n ≤ 1048576) :
    Calls Try.prog 57 #[.slice A n c] w fun e w' => e = .returned (.bool (obsB o)) ∧ Below w.heap.size w w' := by
  have hl := h.len Ph.cells 2 Ph.cells_len (by omega)
  have Hl := Lib.hid hl; clear hl
  go_enter Try.func57, Try.ntmps57
  go_wp2
  go_loopw [3] (fun i wr => ∃ k : Nat, k ≤ n ∧ i = .int .i64 k ∧ (∀ j, j < k → sOk o j = true) ∧ Below w.heap.size w wr) (fun i _ => n - (intOf i).toNat)
  case atStart => exact ⟨0, Nat.zero_le _, rfl, fun j hj => absurd hj (by omega), Below.refl _ _⟩
  case round =>
    obtain ⟨k, hk, rfl, hok, hbw⟩ := hrel
    have Hok := Lib.hid hok; clear hok
    by_cases hlt : k < n
    · obtain ⟨b, off, p, rfl, hb, hp, c1, c2⟩ := h.ph k hlt
      obtain ⟨b0, off0, p0, e0, _, hp0, d1, d2⟩ := h.ph 0 (by omega)
      injection e0 with e0; injection e0 with e1 e2 _
      subst e1 e2
      have q1 := keepC hbw b hb
      have hsa := sOk_at hp
      rw [hcO_at hp0] at hsa
      have f1 := tm1 k
      have f0 := tm0 k
      have g1 := em1 k
      have g0 := em0 k
      have hne := ba_beq p.c p0.c
      have j0 : (0 : Int) ≤ (k : Int) := by omega
      have j1 : (k : Int) < (n : Int) := by omega
      have j2 : (0 : Int) < (n : Int) := by omega
      rw [Nat.zero_mul, Nat.add_zero] at d1 d2
      have Hp := Lib.hid hp; clear hp
      have Hp0 := Lib.hid hp0; clear hp0
      cases hE : p.c.toList.isEmpty
      · cases hC : colB p.c
        · rw [hE, hC] at hsa
          have Hsa := Lib.hid hsa; clear hsa
          go_wp2_with (first | (go_at_call 96; refine (l05Color_c _ _).mono ?_; rintro e w9 ⟨rfl, rfl⟩) | (go_at_call 72; refine (l00In_c _ _ _ _).mono ?_; rintro e w9 ⟨rfl, rfl⟩))
          go_ret
          exact ⟨ret_eq (bool_eq (by rw [obsB, allB_no (k := k) (by rw [Hl.out]; exact hlt) (by rw [Hsa.out]; rfl)]; rfl)), hbw⟩
        cases hI : inB p.len 1 1200
        · rw [hE, hC, hI] at hsa
          have Hsa := Lib.hid hsa; clear hsa
          go_wp2_with (first | (go_at_call 96; refine (l05Color_c _ _).mono ?_; rintro e w9 ⟨rfl, rfl⟩) | (go_at_call 72; refine (l00In_c _ _ _ _).mono ?_; rintro e w9 ⟨rfl, rfl⟩))
          go_ret
          exact ⟨ret_eq (bool_eq (by rw [obsB, allB_no (k := k) (by rw [Hl.out]; exact hlt) (by rw [Hsa.out]; rfl)]; rfl)), hbw⟩
        cases hpar : decide (k % 2 = 1)
        · rw [hpar] at f1 f0 g1 g0
          simp only [Bool.not_false] at f0 g0
          by_cases h1 : 1 < k
          · have hk1 : decide ((1 : Int) < (k : Int)) = true := by simp; omega
            cases hc : decide (p.c = p0.c)
            · rw [hE, hC, hI, hpar, decide_eq_true h1, show decide (k % 2 = 0) = true by simp at hpar ⊢; omega, hc] at hsa
              rw [hc] at hne
              have Hsa := Lib.hid hsa; clear hsa
              have Hpar := Lib.hid hpar; clear hpar
              have Hc := Lib.hid hc; clear hc
              go_wp2_with (first | (go_at_call 96; refine (l05Color_c _ _).mono ?_; rintro e w9 ⟨rfl, rfl⟩) | (go_at_call 72; refine (l00In_c _ _ _ _).mono ?_; rintro e w9 ⟨rfl, rfl⟩))
              go_quiet (fail)
              go_wp2
              go_ret
              exact ⟨ret_eq (bool_eq (by rw [obsB, allB_no (k := k) (by rw [Hl.out]; exact hlt) (by rw [Hsa.out]; rfl)]; rfl)), (by (repeat (first | (with_reducible assumption) | (with_reducible exact Below.refl _ _) | exact Nat.le_refl _ | exact Below.size (by with_reducible assumption) | (with_reducible refine Below.drew ?_) | (with_reducible refine below_drewN ?_ _) | (with_reducible refine Below.alloc ?_ ?_ _) | (with_reducible refine Below.setCell ?_ ?_ _) | (with_reducible refine le_alloc ?_ _) | (with_reducible refine le_set ?_ _ _) | (with_reducible refine le_drew ?_) | (with_reducible refine le_drewN ?_ _) | omega | (dsimp only; omega))))⟩
            · rw [hE, hC, hI, hpar, decide_eq_true h1, hc] at hsa
              rw [hc] at hne
              have Hsa := Lib.hid hsa; clear hsa
              have Hpar := Lib.hid hpar; clear hpar
              have Hc := Lib.hid hc; clear hc
              go_wp2_with (first | (go_at_call 96; refine (l05Color_c _ _).mono ?_; rintro e w9 ⟨rfl, rfl⟩) | (go_at_call 72; refine (l00In_c _ _ _ _).mono ?_; rintro e w9 ⟨rfl, rfl⟩))
              go_quiet (fail)
              go_wp2
              go_roundw
              case rel => exact ⟨k + 1, by omega, by go_num, all_next Hok.out (by rw [Hsa.out]; simp), by (repeat (first | (with_reducible assumption) | (with_reducible exact Below.refl _ _) | exact Nat.le_refl _ | exact Below.size (by with_reducible assumption) | (with_reducible refine Below.drew ?_) | (with_reducible refine below_drewN ?_ _) | (with_reducible refine Below.alloc ?_ ?_ _) | (with_reducible refine Below.setCell ?_ ?_ _) | (with_reducible refine le_alloc ?_ _) | (with_reducible refine le_set ?_ _ _) | (with_reducible refine le_drew ?_) | (with_reducible refine le_drewN ?_ _) | omega | (dsimp only; omega)))⟩
              case measure => simp [intOf]; omega
          · have hk1 : decide ((1 : Int) < (k : Int)) = false := by simp; omega
            rw [hE, hC, hI, hpar, decide_eq_false h1] at hsa
            clear hne
            have Hsa := Lib.hid hsa; clear hsa
            have Hpar := Lib.hid hpar; clear hpar
            go_wp2_with (first | (go_at_call 96; refine (l05Color_c _ _).mono ?_; rintro e w9 ⟨rfl, rfl⟩) | (go_at_call 72; refine (l00In_c _ _ _ _).mono ?_; rintro e w9 ⟨rfl, rfl⟩))
            go_quiet (fail)
            go_wp2
            go_roundw
            case rel => exact ⟨k + 1, by omega, by go_num, all_next Hok.out (by rw [Hsa.out]; simp), by (repeat (first | (with_reducible assumption) | (with_reducible exact Below.refl _ _) | exact Nat.le_refl _ | exact Below.size (by with_reducible assumption) | (with_reducible refine Below.drew ?_) | (with_reducible refine below_drewN ?_ _) | (with_reducible refine Below.alloc ?_ ?_ _) | (with_reducible refine Below.setCell ?_ ?_ _) | (with_reducible refine le_alloc ?_ _) | (with_reducible refine le_set ?_ _ _) | (with_reducible refine le_drew ?_) | (with_reducible refine le_drewN ?_ _) | omega | (dsimp only; omega)))⟩
            case measure => simp [intOf]; omega
        · rw [hE, hC, hI, hpar] at hsa
          rw [hpar] at f1 f0 g1 g0
          simp only [Bool.not_true] at f0 g0
          have Hsa := Lib.hid hsa; clear hsa
          have Hpar := Lib.hid hpar; clear hpar
          go_wp2_with (first | (go_at_call 96; refine (l05Color_c _ _).mono ?_; rintro e w9 ⟨rfl, rfl⟩) | (go_at_call 72; refine (l00In_c _ _ _ _).mono ?_; rintro e w9 ⟨rfl, rfl⟩))
          go_quiet (fail)
          go_wp2
          go_ret
          exact ⟨ret_eq (bool_eq (by rw [obsB, allB_no (k := k) (by rw [Hl.out]; exact hlt) (by rw [Hsa.out]; rfl)]; rfl)), (by (repeat (first | (with_reducible assumption) | (with_reducible exact Below.refl _ _) | exact Nat.le_refl _ | exact Below.size (by with_reducible assumption) | (with_reducible refine Below.drew ?_) | (with_reducible refine below_drewN ?_ _) | (with_reducible refine Below.alloc ?_ ?_ _) | (with_reducible refine Below.setCell ?_ ?_ _) | (with_reducible refine le_alloc ?_ _) | (with_reducible refine le_set ?_ _ _) | (with_reducible refine le_drew ?_) | (with_reducible refine le_drewN ?_ _) | omega | (dsimp only; omega))))⟩
      · cases hI : inB p.len 1 1200
        · rw [hE, hI] at hsa
          have Hsa := Lib.hid hsa; clear hsa
          go_wp2_with (first | (go_at_call 96; refine (l05Color_c _ _).mono ?_; rintro e w9 ⟨rfl, rfl⟩) | (go_at_call 72; refine (l00In_c _ _ _ _).mono ?_; rintro e w9 ⟨rfl, rfl⟩))
          go_ret
          exact ⟨ret_eq (bool_eq (by rw [obsB, allB_no (k := k) (by rw [Hl.out]; exact hlt) (by rw [Hsa.out]; simp)]; rfl)), hbw⟩
        cases hpar : decide (k % 2 = 1)
        · rw [hE, hI, hpar] at hsa
          rw [hpar] at f1 f0 g1 g0
          simp only [Bool.not_false] at f0 g0
          have Hsa := Lib.hid hsa; clear hsa
          have Hpar := Lib.hid hpar; clear hpar
          go_wp2_with (first | (go_at_call 96; refine (l05Color_c _ _).mono ?_; rintro e w9 ⟨rfl, rfl⟩) | (go_at_call 72; refine (l00In_c _ _ _ _).mono ?_; rintro e w9 ⟨rfl, rfl⟩))
          go_quiet (fail)
          go_wp2
          go_ret
          exact ⟨ret_eq (bool_eq (by rw [obsB, allB_no (k := k) (by rw [Hl.out]; exact hlt) (by rw [Hsa.out]; simp)]; rfl)), (by (repeat (first | (with_reducible assumption) | (with_reducible exact Below.refl _ _) | exact Nat.le_refl _ | exact Below.size (by with_reducible assumption) | (with_reducible refine Below.drew ?_) | (with_reducible refine below_drewN ?_ _) | (with_reducible refine Below.alloc ?_ ?_ _) | (with_reducible refine Below.setCell ?_ ?_ _) | (with_reducible refine le_alloc ?_ _) | (with_reducible refine le_set ?_ _ _) | (with_reducible refine le_drew ?_) | (with_reducible refine le_drewN ?_ _) | omega | (dsimp only; omega))))⟩
        · rw [hE, hI, hpar, show decide (k % 2 = 0) = false by simp at hpar ⊢; omega] at hsa
          rw [hpar] at f1 f0 g1 g0
          simp only [Bool.not_true] at f0 g0
          have Hsa := Lib.hid hsa; clear hsa
          have Hpar := Lib.hid hpar; clear hpar
          by_cases h1 : 1 < k
          · have hk1 : decide ((1 : Int) < (k : Int)) = true := by simp; omega
            go_wp2_with (first | (go_at_call 96; refine (l05Color_c _ _).mono ?_; rintro e w9 ⟨rfl, rfl⟩) | (go_at_call 72; refine (l00In_c _ _ _ _).mono ?_; rintro e w9 ⟨rfl, rfl⟩))
            go_quiet (fail)
            go_wp2
            go_roundw
            case rel => exact ⟨k + 1, by omega, by go_num, all_next Hok.out (by rw [Hsa.out]; simp), by (repeat (first | (with_reducible assumption) | (with_reducible exact Below.refl _ _) | exact Nat.le_refl _ | exact Below.size (by with_reducible assumption) | (with_reducible refine Below.drew ?_) | (with_reducible refine below_drewN ?_ _) | (with_reducible refine Below.alloc ?_ ?_ _) | (with_reducible refine Below.setCell ?_ ?_ _) | (with_reducible refine le_alloc ?_ _) | (with_reducible refine le_set ?_ _ _) | (with_reducible refine le_drew ?_) | (with_reducible refine le_drewN ?_ _) | omega | (dsimp only; omega)))⟩
            case measure => simp [intOf]; omega
          · have hk1 : decide ((1 : Int) < (k : Int)) = false := by simp; omega
            go_wp2_with (first | (go_at_call 96; refine (l05Color_c _ _).mono ?_; rintro e w9 ⟨rfl, rfl⟩) | (go_at_call 72; refine (l00In_c _ _ _ _).mono ?_; rintro e w9 ⟨rfl, rfl⟩))
            go_quiet (fail)
            go_wp2
            go_roundw
            case rel => exact ⟨k + 1, by omega, by go_num, all_next Hok.out (by rw [Hsa.out]; simp), by (repeat (first | (with_reducible assumption) | (with_reducible exact Below.refl _ _) | exact Nat.le_refl _ | exact Below.size (by with_reducible assumption) | (with_reducible refine Below.drew ?_) | (with_reducible refine below_drewN ?_ _) | (with_reducible refine Below.alloc ?_ ?_ _) | (with_reducible refine Below.setCell ?_ ?_ _) | (with_reducible refine le_alloc ?_ _) | (with_reducible refine le_set ?_ _ _) | (with_reducible refine le_drew ?_) | (with_reducible refine le_drewN ?_ _) | omega | (dsimp only; omega)))⟩
            case measure => simp [intOf]; omega
    · go_wp2
      all_goals
        go_ret
        refine ⟨ret_eq (bool_eq ?_), hbw⟩
        rw [obsB, allB_end Hok.out (by rw [Hl.out]; exact hlt), Bool.true_and, Hl.out, Bool.eq_iff_iff, inB_iff]
        simp
        try omega
set_option maxRecDepth 100000 in
set_option maxHeartbeats 2000000 in
theorem validObs_c (A : Option Addr) (n c : Nat) (o : List Ph) (w : World) (h : Sl w w.heap.size 2 A n (o.flatMap Ph.cells)) (hm : n ≤ 1048576) (hsz : ∀ p ∈ o, p.c.size ≤ maxLen) :
    Calls Try.prog 63 #[.slice A n c] w fun e w' => e = .returned (.bool (obsB o)) ∧ Below w.heap.size w w' := by
  have hl := h.len Ph.cells 2 Ph.cells_len (by omega)
  have Hl := Lib.hid hl; clear hl
  have Hsz := Lib.hid hsz; clear hsz
  go_enter Try.func63, Try.ntmps63
  go_wp2
  go_loopw [7] (fun i wr => ∃ k : Nat, k ≤ n ∧ i = .int .i64 k ∧ (∀ j, j < k → iOk o j = true) ∧ Below w.heap.size w wr) (fun i _ => n - (intOf i).toNat)
  case atStart => exact ⟨0, Nat.zero_le _, rfl, fun j hj => absurd hj (by omega), Below.refl _ _⟩
  case round =>
    obtain ⟨k, hk, rfl, hok, hbw⟩ := hrel
    have Hok := Lib.hid hok; clear hok
    by_cases hlt : k < n
    · obtain ⟨b, off, p, rfl, hb, hp, c1, c2⟩ := h.ph k hlt
      obtain ⟨b0, off0, p0, e0, _, hp0, d1, d2⟩ := h.ph 0 (by omega)
      injection e0 with e0; injection e0 with e1 e2 _
      subst e1 e2
      have q1 := keepC hbw b hb
      have hbn : b < wr.heap.size := Nat.lt_of_lt_of_le hb hbw.size
      have qa := keepC (hbw.alloc hbw.size (.cells #[.string p.c, .int .i64 p.len] 71)) b hb
      have hsa := iOk_at hp
      rw [hcO_at hp0] at hsa
      have f1 := tm1 k
      have f0 := tm0 k
      have g1 := em1 k
      have g0 := em0 k
      have hne := ba_beq p.c p0.c
      have j0 : (0 : Int) ≤ (k : Int) := by omega
      have j1 : (k : Int) < (n : Int) := by omega
      have j2 : (0 : Int) < (n : Int) := by omega
      rw [Nat.zero_mul, Nat.add_zero] at d1 d2
      have Hp := Lib.hid hp; clear hp
      have Hp0 := Lib.hid hp0; clear hp0
      cases hI : inB p.len 1 1200
      · rw [hI] at hsa
        have Hsa := Lib.hid hsa; clear hsa
        go_wp2
        go_quiet ((go_at_call 99; exact quiet_c (within_c _ _ _ _)))
        go_wp2
        go_ret
        exact ⟨ret_eq (bool_eq (by rw [obsB_i, allB_no (k := k) (by rw [Hl.out]; exact hlt) (by rw [Hsa.out]; rfl)]; rfl)), by (repeat (first | (with_reducible assumption) | (with_reducible exact Below.refl _ _) | exact Nat.le_refl _ | exact Below.size (by with_reducible assumption) | (with_reducible refine Below.drew ?_) | (with_reducible refine below_drewN ?_ _) | (with_reducible refine Below.alloc ?_ ?_ _) | (with_reducible refine Below.setCell ?_ ?_ _) | (with_reducible refine le_alloc ?_ _) | (with_reducible refine le_set ?_ _ _) | (with_reducible refine le_drew ?_) | (with_reducible refine le_drewN ?_ _) | omega | (dsimp only; omega)))⟩
      cases hpar : decide (k % 2 = 1)
      · rw [hpar] at f1 f0 g1 g0
        simp only [Bool.not_false] at f0 g0
        cases hc : decide (p.c = p0.c)
        all_goals
          rw [hI, hpar, hc] at hsa
          rw [hc] at hne
          have Hsa := Lib.hid hsa; clear hsa
          have Hpar := Lib.hid hpar; clear hpar
          have Hc := Lib.hid hc; clear hc
        · go_wp2
          go_quiet ((go_at_call 99; exact quiet_c (within_c _ _ _ _)))
          go_wp2
          go_ret
          exact ⟨ret_eq (bool_eq (by rw [obsB_i, allB_no (k := k) (by rw [Hl.out]; exact hlt) (by rw [Hsa.out]; rfl)]; rfl)), by (repeat (first | (with_reducible assumption) | (with_reducible exact Below.refl _ _) | exact Nat.le_refl _ | exact Below.size (by with_reducible assumption) | (with_reducible refine Below.drew ?_) | (with_reducible refine below_drewN ?_ _) | (with_reducible refine Below.alloc ?_ ?_ _) | (with_reducible refine Below.setCell ?_ ?_ _) | (with_reducible refine le_alloc ?_ _) | (with_reducible refine le_set ?_ _ _) | (with_reducible refine le_drew ?_) | (with_reducible refine le_drewN ?_ _) | omega | (dsimp only; omega)))⟩
        · go_wp2
          go_quiet ((go_at_call 99; exact quiet_c (within_c _ _ _ _)))
          go_wp2
          go_roundw
          case rel => exact ⟨k + 1, by omega, by go_num, all_next Hok.out (by rw [Hsa.out]; rfl), by (repeat (first | (with_reducible assumption) | (with_reducible exact Below.refl _ _) | exact Nat.le_refl _ | exact Below.size (by with_reducible assumption) | (with_reducible refine Below.drew ?_) | (with_reducible refine below_drewN ?_ _) | (with_reducible refine Below.alloc ?_ ?_ _) | (with_reducible refine Below.setCell ?_ ?_ _) | (with_reducible refine le_alloc ?_ _) | (with_reducible refine le_set ?_ _ _) | (with_reducible refine le_drew ?_) | (with_reducible refine le_drewN ?_ _) | omega | (dsimp only; omega)))⟩
          case measure => simp [intOf]; omega
      · rw [hpar] at f1 f0 g1 g0
        simp only [Bool.not_true] at f0 g0
        cases hE : p.c.toList.isEmpty
        all_goals
          rw [hI, hpar, hE] at hsa
          have Hsa := Lib.hid hsa; clear hsa
          have Hpar := Lib.hid hpar; clear hpar
        · go_wp2
          go_quiet ((go_at_call 99; exact quiet_c (within_c _ _ _ _)))
          go_wp2
          go_ret
          exact ⟨ret_eq (bool_eq (by rw [obsB_i, allB_no (k := k) (by rw [Hl.out]; exact hlt) (by rw [Hsa.out]; rfl)]; rfl)), by (repeat (first | (with_reducible assumption) | (with_reducible exact Below.refl _ _) | exact Nat.le_refl _ | exact Below.size (by with_reducible assumption) | (with_reducible refine Below.drew ?_) | (with_reducible refine below_drewN ?_ _) | (with_reducible refine Below.alloc ?_ ?_ _) | (with_reducible refine Below.setCell ?_ ?_ _) | (with_reducible refine le_alloc ?_ _) | (with_reducible refine le_set ?_ _ _) | (with_reducible refine le_drew ?_) | (with_reducible refine le_drewN ?_ _) | omega | (dsimp only; omega)))⟩
        · go_wp2
          go_quiet ((go_at_call 99; exact quiet_c (within_c _ _ _ _)))
          go_wp2
          go_roundw
          case rel => exact ⟨k + 1, by omega, by go_num, all_next Hok.out (by rw [Hsa.out]; rfl), by (repeat (first | (with_reducible assumption) | (with_reducible exact Below.refl _ _) | exact Nat.le_refl _ | exact Below.size (by with_reducible assumption) | (with_reducible refine Below.drew ?_) | (with_reducible refine below_drewN ?_ _) | (with_reducible refine Below.alloc ?_ ?_ _) | (with_reducible refine Below.setCell ?_ ?_ _) | (with_reducible refine le_alloc ?_ _) | (with_reducible refine le_set ?_ _ _) | (with_reducible refine le_drew ?_) | (with_reducible refine le_drewN ?_ _) | omega | (dsimp only; omega)))⟩
          case measure => simp [intOf]; omega
    · have hk2 : k = n := by omega
      have hall : allB o.length (iOk o) = true := allB_end Hok.out (by rw [Hl.out]; exact hlt)
      have hob : obsB o = (inB n 1 24 && colB (hcO o)) := by rw [obsB_i, hall, Bool.true_and, Hl.out]
      have Hall := Lib.hid hall; clear hall
      have Hob := Lib.hid hob; clear hob
      cases hI : inB (n : Int) 1 24
      · go_wp2_with (go_at_call 99; refine (within_c _ _ _ _).mono ?_; rintro e w9 ⟨rfl, rfl⟩)
        go_ret
        exact ⟨ret_eq (bool_eq (by rw [Hob.out, hI]; rfl)), hbw⟩
      · have hi := inB_iff.1 hI
        obtain ⟨b0, off0, p0, rfl, hb0, hp0, d1, d2⟩ := h.ph 0 (by omega)
        rw [Nat.zero_mul, Nat.add_zero] at d1 d2
        have q1 := keepC hbw b0 hb0
        have j2 : (0 : Int) < (n : Int) := by omega
        have hcs := Hsz.out p0 (List.mem_of_getElem? hp0)
        have hh := hcO_at hp0
        have Hh := Lib.hid hh; clear hh
        have Hp0 := Lib.hid hp0; clear hp0
        clear hk2
        go_wp2_with (first | (go_at_call 99; refine (within_c _ _ _ _).mono ?_; rintro e w9 ⟨rfl, rfl⟩) | (go_at_call 100; refine (isColor_c _ _ hcs).mono ?_; rintro e w9 ⟨rfl, rfl⟩))
        go_ret
        exact ⟨ret_eq (bool_eq (by rw [Hob.out, hI, Hh.out]; rfl)), hbw⟩
end Go.Proofs.Ytgfplmfdgbklkaa
