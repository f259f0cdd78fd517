/- Whether an observation can begin at a phase, both sides. -/
import Derived.Test.YtgfplmfdgbklkaaObsOk
import Derived.Test.YtgfplmfdgbklkaaChObs
namespace Go.Proofs.Ytgfplmfdgbklkaa
open Go.RowKit
def lenO (o : List Ph) (i : Nat) : Int := (o.getD i ⟨⟨#[]⟩, 0⟩).len
theorem lenO_at {o : List Ph} {i : Nat} {p : Ph} (h : o[i]? = some p) : lenO o i = p.len := by rw [lenO, List.getD_eq_getElem?_getD, h]; rfl
def failB (o see : List Ph) (tol : Int) (i : Nat) : Bool := decide (tol < lenO o i - lenO see i) || (decide (lenO o i - lenO see i < -tol) && !decide (i + 1 = o.length))
def okAtB (o see : List Ph) (tol : Int) (i : Nat) : Bool := !failB o see tol i
def fromB (x : Ch) (o : List Ph) (start tol : Int) : Bool :=
  hasC x.cs (hcO o) && (bif x.k == 1 then decide (start = 0) && decide (o.length = 1)
    else startB (phasesL x (hcO o)) start && allB o.length (okAtB o (seeL (phasesL x (hcO o)) start o.length) tol))
/-- What is known of an observation. -/
structure ObsOK (o : List Ph) (n : Nat) : Prop where
  n1 : 1 ≤ n
  n24 : n ≤ 24
  col : colB (hcO o) = true
  lens : ∀ p ∈ o, 1 ≤ p.len ∧ p.len ≤ 1200
theorem obsB_ok {o : List Ph} {n : Nat} (h : obsB o = true) (hl : o.length = n) : ObsOK o n := by
  rw [obsB_i] at h
  simp only [Bool.and_eq_true, allB_iff] at h
  obtain ⟨h1, h2, h3⟩ := h
  have := inB_iff.1 h2
  refine ⟨by omega, by omega, h3, fun p hp => ?_⟩
  obtain ⟨i, hi⟩ := List.mem_iff_getElem?.1 hp
  have h4 := h1 i (List.getElem?_eq_some_iff.1 hi).1
  rw [iOk_at hi] at h4
  simp only [Bool.and_eq_true] at h4
  exact inB_iff.1 h4.1
theorem see_bd {x : Ch} {co : ByteArray} (h : validB x = true) (start : Int) (m : Nat) : ∀ p ∈ seeL (phasesL x co) start m, 0 ≤ p.len ∧ p.len ≤ 600 := by
  intro p hp
  simp only [seeL, List.mem_map] at hp
  obtain ⟨i, _, rfl⟩ := hp
  rw [seeAt, List.getD_eq_getElem?_getD]
  cases hq : (phasesL x co)[((start + (i : Int)) % ((phasesL x co).length : Int)).toNat]? with
  | none => simp
  | some q => exact phases_bd h q (List.mem_of_getElem? hq)
theorem start_fixed {x : Ch} {co : ByteArray} (hk : (x.k == 1) = true) (hco : co.toList.isEmpty = false) (start : Int) : startB (phasesL x co) start = decide (start = 0) := by
  have h1 : x.k = 1 := by simpa using hk
  rw [startB, phasesL, if_pos h1]
  by_cases h0 : start = 0
  · subst h0; simp [hco]
  · rw [decide_eq_false h0]
    by_cases hs : 0 ≤ start
    · have : start.toNat ≠ 0 := by omega
      cases hn : start.toNat with
      | zero => exact absurd hn this
      | succ m => simp
    · rw [decide_eq_false hs]; rfl
set_option maxRecDepth 100000 in
set_option maxHeartbeats 2000000 in
theorem l17From_c (b off : Nat) (A : Option Addr) (n c : Nat) (x : Ch) (Ao : Option Addr) (no co : Nat) (o : List Ph) (start tol : Int) (w : World) (h : ChP w b off A n c x) (hv : validB x = true)
    (ho : Sl w w.heap.size 2 Ao no (o.flatMap Ph.cells)) (ok : ObsOK o no) (t0 : 0 ≤ tol) (t1 : tol ≤ 1000000) :
    Calls Try.prog 67 #[.pointer (some ⟨b, off, none⟩), .slice Ao no co, .int .i64 start, .int .i64 tol] w fun e w' => e = .returned (.bool (fromB x o start tol)) ∧ Below w.heap.size w w' := by
  have hs := h.hs
  have hch := h
  obtain ⟨c0, _, _, c3, _, hb, _, _, _, _⟩ := h
  have hN := ok.n1
  have hN24 := ok.n24
  have hcol := ok.col
  have hcE := colB_E2 hcol
  have hlens := ok.lens
  obtain ⟨bo, offo, p0, rfl, hbo, hp0, o1, o2⟩ := ho.ph 0 (by omega)
  rw [Nat.zero_mul, Nat.add_zero] at o1 o2
  have hh := hcO_at hp0
  rw [← hh] at o1
  have hl := ho.len Ph.cells 2 Ph.cells_len (by omega)
  have j2 : (0 : Int) < (no : Int) := by omega
  have j3 : 0 < no := by omega
  have Hlens := Lib.hid hlens; clear hlens
  have Hl := Lib.hid hl; clear hl
  have Hh := Lib.hid hh; clear hh
  have Hp0 := Lib.hid hp0; clear hp0
  cases hC : hasC x.cs (hcO o)
  · have hF : fromB x o start tol = false := by rw [fromB, hC]; rfl
    rw [hF]
    have HF := Lib.hid hF; clear hF
    go_enter Try.func67, Try.ntmps67
    go_wp2
    go_quiet ((go_at_call 97; exact quiet_c (l05Contains_c x.cs (hcO o) _ (by unfold maxLen; omega))))
    go_wp2
    go_ret
    exact ⟨rfl, by (repeat (first | (with_reducible assumption) | (with_reducible exact Below.refl _ _) | exact Nat.le_refl _ | exact Below.size (by with_reducible assumption) | (with_reducible refine Below.drew ?_) | (with_reducible refine below_drewN ?_ _) | (with_reducible refine Below.alloc ?_ ?_ _) | (with_reducible refine Below.setCell ?_ ?_ _) | (with_reducible refine le_alloc ?_ _) | (with_reducible refine le_set ?_ _ _) | (with_reducible refine le_drew ?_) | (with_reducible refine le_drewN ?_ _) | omega | (dsimp only; omega)))⟩
  cases hk : (x.k == 1)
  · cases hst : startB (phasesL x (hcO o)) start
    · have hF : fromB x o start tol = false := by rw [fromB, hC, hk, hst]; rfl
      rw [hF]
      have HF := Lib.hid hF; clear hF
      go_enter Try.func67, Try.ntmps67
      go_wp2
      go_quiet ((go_at_call 97; exact quiet_c (l05Contains_c x.cs (hcO o) _ (by unfold maxLen; omega))))
      have hbq := below_drewN (Below.refl w.heap.size w) nq
      go_wp2_with fail
      refine (l05Phases_c b off A n c x (hcO o) _ (hch.next hbq) hv).mono ?_
      rintro e w2 ⟨v, rfl, hoT, hb2⟩
      obtain ⟨AT, cT, rfl⟩ := own_slice hoT
      have sT := Sl.of_own hoT
      have hlT := phases_len (co := hcO o) (valid_shape hv)
      obtain ⟨l1, l2⟩ := hlT
      go_wp2_with (go_at_call 98; refine (l17Start_c AT _ cT _ start _ sT (by omega)).mono ?_; rintro e w9 ⟨rfl, rfl⟩)
      go_ret
      exact ⟨rfl, hbq.trans (hb2.mono hbq.size)⟩
    · have hF : fromB x o start tol = allB o.length (okAtB o (seeL (phasesL x (hcO o)) start o.length) tol) := by rw [fromB, hC, hk, hst]; rfl
      rw [hF]
      have HF := Lib.hid hF; clear hF
      have hsl := startB_lt hst
      have hsb := see_bd (co := hcO o) hv start no
      obtain ⟨l1, l2⟩ := phases_len (co := hcO o) (valid_shape hv)
      have hsl1 := hsl.1
      have hsl2 : start ≤ 1000000 := by omega
      clear hsl
      have hml : no ≤ 1000 := by omega
      have Hsb := Lib.hid hsb; clear hsb
      have Hml := Lib.hid hml; clear hml
      go_enter Try.func67, Try.ntmps67
      go_wp2
      go_quiet ((go_at_call 97; exact quiet_c (l05Contains_c x.cs (hcO o) _ (by unfold maxLen; omega))))
      have hbq := below_drewN (Below.refl w.heap.size w) nq
      go_wp2_with fail
      refine (l05Phases_c b off A n c x (hcO o) _ (hch.next hbq) hv).mono ?_
      rintro e w2 ⟨v, rfl, hoT, hb2⟩
      obtain ⟨AT, cT, rfl⟩ := own_slice hoT
      have sT := Sl.of_own hoT
      have H2 := hbq.trans (hb2.mono hbq.size)
      go_wp2_with (go_at_call 98; refine (l17Start_c AT _ cT _ start _ sT (by omega)).mono ?_; rintro e w9 ⟨rfl, rfl⟩)
      refine (l17See_c AT _ cT _ start no _ sT (by omega) (by omega) hsl1 hsl2 Hml.out).mono ?_
      rintro e w3 ⟨v3, rfl, hoS, hb3⟩
      obtain ⟨AS, cS, rfl⟩ := own_slice hoS
      have sS := Sl.of_own hoS
      have H3 := H2.trans (hb3.mono H2.size)
      have hoo := ho.next H3
      obtain ⟨see, hsee⟩ : ∃ see, seeL (phasesL x (hcO o)) start no = see := ⟨_, rfl⟩
      rw [hsee] at sS Hsb
      have Hsee := Lib.hid hsee; clear hsee
      clear hoT hoS hb2 hb3 sT
      go_wp2_with fail
      go_loopw [11] (fun i wr => ∃ k : Nat, k ≤ no ∧ i = .int .i64 k ∧ (∀ j, j < k → okAtB o see tol j = true) ∧ Below w3.heap.size w3 wr) (fun i _ => no - (intOf i).toNat)
      case atStart => exact ⟨0, Nat.zero_le _, rfl, fun j hj => absurd hj (by omega), Below.refl _ _⟩
      case round =>
        obtain ⟨k, hk', rfl, hok, hbw⟩ := hrel
        have Hok := Lib.hid hok; clear hok
        by_cases hlt : k < no
        · obtain ⟨b4, off4, p, rfl, hb4, hp, x1, x2⟩ := sS.ph k hlt
          obtain ⟨b5, off5, q, e5, hb5, hq, y1, y2⟩ := hoo.ph k hlt
          injection e5 with e5; injection e5 with e6 e7 _
          subst e6 e7
          have r4 := keepC hbw b4 hb4
          have r5 := keepC hbw bo hb5
          have m1 := Hlens.out q (List.mem_of_getElem? hq)
          have m2 := Hsb.out p (List.mem_of_getElem? hp)
          have hfl : okAtB o see tol k = !(decide (tol < q.len - p.len) || (decide (q.len - p.len < -tol) && !decide (k + 1 = no))) := by
            rw [okAtB, failB, lenO_at hp, lenO_at hq, Hl.out]
          obtain ⟨m3, m4⟩ := m1
          obtain ⟨m5, m6⟩ := m2
          have hwr : IntKind.i64.wrap (q.len - p.len) = q.len - p.len := IntWalk.i64_in _ (by omega)
          have j0 : (0 : Int) ≤ (k : Int) := by omega
          have j1 : (k : Int) < (no : Int) := by omega
          have hL : ((k : Int) != (no : Int) - 1) = !decide (k + 1 = no) := by rw [Bool.eq_iff_iff]; simp; omega
          have Hp := Lib.hid hp; clear hp
          have Hq := Lib.hid hq; clear hq
          cases hla : decide (k + 1 = no)
          all_goals
            rw [hla] at hL hfl
            simp only [Bool.not_true, Bool.not_false] at hL
            have Hla := Lib.hid hla; clear hla
            have Hfl := Lib.hid hfl; clear hfl
            go_wp2
            go_quiet (fail)
            clear hwr
            go_wp2
          all_goals first
            | (go_ret
               refine ⟨ret_eq (bool_eq ?_), H3.trans (Below.mono (by (repeat (first | (with_reducible assumption) | (with_reducible exact Below.refl _ _) | exact Nat.le_refl _ | exact Below.size (by with_reducible assumption) | (with_reducible refine Below.drew ?_) | (with_reducible refine below_drewN ?_ _) | (with_reducible refine Below.alloc ?_ ?_ _) | (with_reducible refine Below.setCell ?_ ?_ _) | (with_reducible refine le_alloc ?_ _) | (with_reducible refine le_set ?_ _ _) | (with_reducible refine le_drew ?_) | (with_reducible refine le_drewN ?_ _) | omega | (dsimp only; omega)))) H3.size)⟩
               rw [Hl.out, Hsee.out, allB_no (k := k) hlt (by rw [Hfl.out]; simp; omega)])
            | (go_roundw
               case rel =>
                 refine ⟨k + 1, by omega, by go_num, all_next Hok.out ?_, by (repeat (first | (with_reducible assumption) | (with_reducible exact Below.refl _ _) | exact Nat.le_refl _ | exact Below.size (by with_reducible assumption) | (with_reducible refine Below.drew ?_) | (with_reducible refine below_drewN ?_ _) | (with_reducible refine Below.alloc ?_ ?_ _) | (with_reducible refine Below.setCell ?_ ?_ _) | (with_reducible refine le_alloc ?_ _) | (with_reducible refine le_set ?_ _ _) | (with_reducible refine le_drew ?_) | (with_reducible refine le_drewN ?_ _) | omega | (dsimp only; omega)))⟩
                 rw [Hfl.out]
                 simp
                 omega
               case measure => simp [intOf]; omega)
        · go_wp2_with fail
          go_ret
          refine ⟨ret_eq (bool_eq ?_), H3.trans (hbw.mono H3.size)⟩
          rw [Hl.out, Hsee.out, allB_end Hok.out hlt]
  · have hF : fromB x o start tol = (decide (start = 0) && decide (o.length = 1)) := by rw [fromB, hC, hk]; rfl
    rw [hF, Hl.out]
    have HF := Lib.hid hF; clear hF
    by_cases hs0 : start = 0
    · subst hs0
      go_enter Try.func67, Try.ntmps67
      go_wp2
      go_quiet ((go_at_call 97; exact quiet_c (l05Contains_c x.cs (hcO o) _ (by unfold maxLen; omega))))
      go_wp2
      go_ret
      exact ⟨ret_eq (bool_eq (by rw [Bool.eq_iff_iff]; simp; omega)), by (repeat (first | (with_reducible assumption) | (with_reducible exact Below.refl _ _) | exact Nat.le_refl _ | exact Below.size (by with_reducible assumption) | (with_reducible refine Below.drew ?_) | (with_reducible refine below_drewN ?_ _) | (with_reducible refine Below.alloc ?_ ?_ _) | (with_reducible refine Below.setCell ?_ ?_ _) | (with_reducible refine le_alloc ?_ _) | (with_reducible refine le_set ?_ _ _) | (with_reducible refine le_drew ?_) | (with_reducible refine le_drewN ?_ _) | omega | (dsimp only; omega)))⟩
    · have hs1 : (start == 0) = false := by simpa using hs0
      go_enter Try.func67, Try.ntmps67
      go_wp2
      go_quiet ((go_at_call 97; exact quiet_c (l05Contains_c x.cs (hcO o) _ (by unfold maxLen; omega))))
      go_wp2
      go_ret
      exact ⟨ret_eq (bool_eq (by simp [hs0])), by (repeat (first | (with_reducible assumption) | (with_reducible exact Below.refl _ _) | exact Nat.le_refl _ | exact Below.size (by with_reducible assumption) | (with_reducible refine Below.drew ?_) | (with_reducible refine below_drewN ?_ _) | (with_reducible refine Below.alloc ?_ ?_ _) | (with_reducible refine Below.setCell ?_ ?_ _) | (with_reducible refine le_alloc ?_ _) | (with_reducible refine le_set ?_ _ _) | (with_reducible refine le_drew ?_) | (with_reducible refine le_drewN ?_ _) | omega | (dsimp only; omega)))⟩
end Go.Proofs.Ytgfplmfdgbklkaa
