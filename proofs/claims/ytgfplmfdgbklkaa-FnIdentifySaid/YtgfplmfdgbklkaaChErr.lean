/- ErrorFrom, both sides. -/
import Derived.Test.YtgfplmfdgbklkaaChStart
import Derived.Test.YtgfplmfdgbklkaaMinMax
namespace Go.Proofs.Ytgfplmfdgbklkaa
open Go.RowKit
theorem lenO_bd {o : List Ph} {M : Int} (hM : 0 ≤ M) (h : ∀ p ∈ o, 0 ≤ p.len ∧ p.len ≤ M) (i : Nat) : 0 ≤ lenO o i ∧ lenO o i ≤ M := by
  rw [lenO, List.getD_eq_getElem?_getD]
  cases hp : o[i]? with
  | none => simp; omega
  | some p => exact h p (List.mem_of_getElem? hp)
theorem errS_bd {o see : List Ph} (h1 : ∀ p ∈ o, 0 ≤ p.len ∧ p.len ≤ 1200) (h2 : ∀ p ∈ see, 0 ≤ p.len ∧ p.len ≤ 600) : ∀ m : Nat, 0 ≤ errS o see m ∧ errS o see m ≤ 1200 * m
  | 0 => by simp [errS]
  | m + 1 => by
    have ih := errS_bd h1 h2 m
    have a := lenO_bd (by decide) h1 m
    have b := lenO_bd (by decide) h2 m
    have : 0 ≤ errAt o see m ∧ errAt o see m ≤ 1200 := by unfold errAt; split <;> omega
    rw [errS_next]; omega
set_option maxRecDepth 100000 in
set_option maxHeartbeats 2000000 in
theorem l17Error_c (b off : Nat) (A : Option Addr) (n c : Nat) (x : Ch) (Ao : Option Addr) (no co : Nat) (o : List Ph) (start : Int) (w : World) (h : ChP w b off A n c x) (hv : validB x = true)
    (ho : Sl w w.heap.size 2 Ao no (o.flatMap Ph.cells)) (ok : ObsOK o no) (s0 : 0 ≤ start) (s1 : start ≤ 1000000) :
    Calls Try.prog 68 #[.pointer (some ⟨b, off, none⟩), .slice Ao no co, .int .i64 start] w fun e w' => e = .returned (.int .i64 (errI x o start)) ∧ Below w.heap.size w w' := by
  have hch := h
  obtain ⟨c0, _, _, c3, _, hb, _, _, _, _⟩ := h
  have hN := ok.n1
  have hN24 := ok.n24
  have hcol := ok.col
  have hcE := colB_E2 hcol
  have hlens := ok.lens
  obtain ⟨bo, offo, p0, rfl, hbo, hp0, o1, o2⟩ := ho.ph 0 (by omega)
  rw [Nat.zero_mul, Nat.add_zero] at o1 o2
  have hh := hcO_at hp0
  rw [← hh] at o1
  have hl := ho.len Ph.cells 2 Ph.cells_len (by omega)
  have j2 : (0 : Int) < (no : Int) := by omega
  have j3 : 0 < no := by omega
  have Hlens := Lib.hid hlens; clear hlens
  have Hl := Lib.hid hl; clear hl
  have Hh := Lib.hid hh; clear hh
  have Hp0 := Lib.hid hp0; clear hp0
  cases hk : (x.k == 1)
  · have hF : errI x o start = errS o (seeL (phasesL x (hcO o)) start o.length) o.length := by rw [errI, hk]; rfl
    rw [hF]
    have HF := Lib.hid hF; clear hF
    have hsb := see_bd (co := hcO o) hv start no
    obtain ⟨l1, l2⟩ := phases_len (co := hcO o) (valid_shape hv)
    have hml : no ≤ 1000 := by omega
    have heb := fun see (h2 : ∀ p ∈ see, 0 ≤ p.len ∧ p.len ≤ 600) => errS_bd (o := o) (see := see) (fun p hp => by have := Hlens.out p hp; omega) h2
    have Heb := Lib.hid heb; clear heb
    have Hsb := Lib.hid hsb; clear hsb
    have Hml := Lib.hid hml; clear hml
    go_enter Try.func68, Try.ntmps68
    go_wp2_with fail
    refine (l05Phases_c b off A n c x (hcO o) _ hch hv).mono ?_
    rintro e w2 ⟨v, rfl, hoT, hb2⟩
    obtain ⟨AT, cT, rfl⟩ := own_slice hoT
    have sT := Sl.of_own hoT
    go_wp2_with fail
    refine (l17See_c AT _ cT _ start no _ sT (by omega) (by omega) s0 s1 Hml.out).mono ?_
    rintro e w3 ⟨v3, rfl, hoS, hb3⟩
    obtain ⟨AS, cS, rfl⟩ := own_slice hoS
    have sS := Sl.of_own hoS
    have H3 := hb2.trans (hb3.mono hb2.size)
    have hoo := ho.next H3
    obtain ⟨see, hsee⟩ : ∃ see, seeL (phasesL x (hcO o)) start no = see := ⟨_, rfl⟩
    rw [hsee] at sS Hsb
    have Hsee := Lib.hid hsee; clear hsee
    clear hoT hoS hb2 hb3 sT
    go_wp2_with fail
    go_loopw [8, 9] (fun t i wr => ∃ k : Nat, k ≤ no ∧ i = .int .i64 k ∧ t = .int .i64 (errS o see k) ∧ Below w3.heap.size w3 wr) (fun _ i _ => no - (intOf i).toNat)
    case atStart => exact ⟨0, Nat.zero_le _, rfl, rfl, Below.refl _ _⟩
    case round =>
      obtain ⟨k, hk', rfl, rfl, hbw⟩ := hrel
      obtain ⟨e1, e2⟩ := Heb.out see Hsb.out k
      by_cases hlt : k < no
      · obtain ⟨b4, off4, p, rfl, hb4, hp, x1, x2⟩ := sS.ph k hlt
        obtain ⟨b5, off5, q, e5, hb5, hq, y1, y2⟩ := hoo.ph k hlt
        injection e5 with e5; injection e5 with e6 e7 _
        subst e6 e7
        have r4 := keepC hbw b4 hb4
        have r5 := keepC hbw bo hb5
        obtain ⟨m3, m4⟩ := Hlens.out q (List.mem_of_getElem? hq)
        obtain ⟨m5, m6⟩ := Hsb.out p (List.mem_of_getElem? hp)
        have hes : errS o see (k + 1) = errS o see k + if k + 1 = no ∧ q.len - p.len < 0 then 0 else max (q.len - p.len) (p.len - q.len) := by
          rw [errS_next, errAt, lenO_at hp, lenO_at hq, Hl.out]
        have hwr : IntKind.i64.wrap (q.len - p.len) = q.len - p.len := IntWalk.i64_in _ (by omega)
        have j0 : (0 : Int) ≤ (k : Int) := by omega
        have j1 : (k : Int) < (no : Int) := by omega
        have hL : ((k : Int) == (no : Int) - 1) = decide (k + 1 = no) := by rw [Bool.eq_iff_iff]; simp; omega
        have Hp := Lib.hid hp; clear hp
        have Hq := Lib.hid hq; clear hq
        by_cases hla : k + 1 = no
        all_goals
          first
          | (rw [decide_eq_true hla] at hL)
          | (rw [decide_eq_false hla] at hL)
          by_cases hd : q.len - p.len < 0
        · rw [if_pos ⟨hla, hd⟩, Int.add_zero] at hes
          have hd' : decide (q.len - p.len < 0) = true := by simpa using hd
          have Hla := Lib.hid hla; clear hla
          have Hes := Lib.hid hes; clear hes
          go_wp2
          go_quiet (fail)
          clear hwr
          go_wp2_with (go_at_call 109; refine (l00Max_c _ _ _).mono ?_; rintro e w9 ⟨rfl, rfl⟩)
          go_roundw
          case rel => exact ⟨k + 1, by omega, by go_num, int_eq (by have := Hes.out; omega), by (repeat (first | (with_reducible assumption) | (with_reducible exact Below.refl _ _) | exact Nat.le_refl _ | exact Below.size (by with_reducible assumption) | (with_reducible refine Below.drew ?_) | (with_reducible refine below_drewN ?_ _) | (with_reducible refine Below.alloc ?_ ?_ _) | (with_reducible refine Below.setCell ?_ ?_ _) | (with_reducible refine le_alloc ?_ _) | (with_reducible refine le_set ?_ _ _) | (with_reducible refine le_drew ?_) | (with_reducible refine le_drewN ?_ _) | omega | (dsimp only; omega)))⟩
          case measure => simp [intOf]; omega
        all_goals
          rw [if_neg (by omega)] at hes
          have hd' : ¬ q.len - p.len < 0 ∨ q.len - p.len < 0 := by omega
          clear hd'
          have Hes := Lib.hid hes; clear hes
          go_wp2
          go_quiet (fail)
          clear hwr
          go_wp2_with (go_at_call 109; refine (l00Max_c _ _ _).mono ?_; rintro e w9 ⟨rfl, rfl⟩)
          go_roundw
          case rel => exact ⟨k + 1, by omega, by go_num, int_eq (by have := Hes.out; omega), by (repeat (first | (with_reducible assumption) | (with_reducible exact Below.refl _ _) | exact Nat.le_refl _ | exact Below.size (by with_reducible assumption) | (with_reducible refine Below.drew ?_) | (with_reducible refine below_drewN ?_ _) | (with_reducible refine Below.alloc ?_ ?_ _) | (with_reducible refine Below.setCell ?_ ?_ _) | (with_reducible refine le_alloc ?_ _) | (with_reducible refine le_set ?_ _ _) | (with_reducible refine le_drew ?_) | (with_reducible refine le_drewN ?_ _) | omega | (dsimp only; omega)))⟩
          case measure => simp [intOf]; omega
      · obtain rfl : k = no := by omega
        go_wp2_with fail
        go_ret
        refine ⟨ret_eq (int_eq ?_), H3.trans (hbw.mono H3.size)⟩
        rw [Hl.out, Hsee.out]
  · have hF : errI x o start = 0 := by rw [errI, hk]; rfl
    rw [hF]
    have HF := Lib.hid hF; clear hF
    go_enter Try.func68, Try.ntmps68
    go_wp2
    go_ret
    exact ⟨rfl, Below.refl _ _⟩
set_option maxRecDepth 100000 in
set_option maxHeartbeats 2000000 in
theorem errorFrom_c (A : Option Addr) (n c : Nat) (x : Ch) (w : World) (sl : Sl w w.heap.size 1 A n (x.gs.flatMap intC)) (hn : n ≤ 1048576) (hlz : x.l.size ≤ 1048576) (hs : x.cs.size ≤ 1048576) (Ao : Option Addr) (no co : Nat) (o : List Ph) (start : Int) (hv : validB x = true)
    (ho : Sl w w.heap.size 2 Ao no (o.flatMap Ph.cells)) (ok : ObsOK o no) (s0 : 0 ≤ start) (s1 : start ≤ 1000000) :
    Calls Try.prog 70 #[chV x.k A n c x.l x.cs x.p, .slice Ao no co, .int .i64 start] w fun e w' => e = .returned (.int .i64 (errI x o start)) ∧ Below w.heap.size w w' := by
  have hb0 : Below w.heap.size w (w.alloc (.cells #[.int .i64 x.k, .slice A n c, .string x.l, .string x.cs, .int .i64 x.p] 30)) := by (repeat (first | (with_reducible assumption) | (with_reducible exact Below.refl _ _) | exact Nat.le_refl _ | exact Below.size (by with_reducible assumption) | (with_reducible refine Below.drew ?_) | (with_reducible refine below_drewN ?_ _) | (with_reducible refine Below.alloc ?_ ?_ _) | (with_reducible refine Below.setCell ?_ ?_ _) | (with_reducible refine le_alloc ?_ _) | (with_reducible refine le_set ?_ _ _) | (with_reducible refine le_drew ?_) | (with_reducible refine le_drewN ?_ _) | omega | (dsimp only; omega)))
  have sl0 := sl.next hb0
  have hz0 : w.heap.size < (w.alloc (.cells #[.int .i64 x.k, .slice A n c, .string x.l, .string x.cs, .int .i64 x.p] 30)).heap.size := by simp
  obtain ⟨c0, c1, c2, c3, c4, _, _, _, _, _⟩ := chp_box (c := c) 30 sl hn hlz hs
  simp only [Nat.zero_add] at c0 c1 c2 c3 c4
  have hN := ok.n1
  have hN24 := ok.n24
  have hcol := ok.col
  have hcE := colB_E2 hcol
  have hlens := ok.lens
  obtain ⟨bo, offo, p0, rfl, hbo, hp0, o1, o2⟩ := ho.ph 0 (by omega)
  rw [Nat.zero_mul, Nat.add_zero] at o1 o2
  have hh := hcO_at hp0
  rw [← hh] at o1
  have hl := ho.len Ph.cells 2 Ph.cells_len (by omega)
  have j2 : (0 : Int) < (no : Int) := by omega
  have j3 : 0 < no := by omega
  have qo := keepC hb0 bo hbo
  have Hlens := Lib.hid hlens; clear hlens
  have Hl := Lib.hid hl; clear hl
  have Hh := Lib.hid hh; clear hh
  have Hp0 := Lib.hid hp0; clear hp0
  cases hk : (x.k == 1)
  · have hF : errI x o start = errS o (seeL (phasesL x (hcO o)) start o.length) o.length := by rw [errI, hk]; rfl
    rw [hF]
    have HF := Lib.hid hF; clear hF
    have hsb := see_bd (co := hcO o) hv start no
    have hml : no ≤ 1000 := by omega
    have heb := fun see (h2 : ∀ p ∈ see, 0 ≤ p.len ∧ p.len ≤ 600) => errS_bd (o := o) (see := see) (fun p hp => by have := Hlens.out p hp; omega) h2
    have Heb := Lib.hid heb; clear heb
    have Hsb := Lib.hid hsb; clear hsb
    have Hml := Lib.hid hml; clear hml
    go_enter Try.func70, Try.ntmps70
    go_wp2_with fail
    generalize w.alloc (.cells #[.int .i64 x.k, .slice A n c, .string x.l, .string x.cs, .int .i64 x.p] 30) = w1 at *
    have hbo1 : bo < w1.heap.size := Nat.lt_of_lt_of_le hbo hb0.size
    have e1 : ∀ {w' : World}, Below w1.heap.size w1 w' → (Below w1.heap.size w1 w' ∧ (∀ x, w'.cell? ⟨w.heap.size, x, none⟩ = w1.cell? ⟨w.heap.size, x, none⟩) ∧ (∀ x, w'.cell? ⟨bo, x, none⟩ = w1.cell? ⟨bo, x, none⟩)) := fun hb => ⟨hb, keepC hb _ hz0, keepC hb _ hbo1⟩
    refine wp_region_held_drew (S := fun w' => Below w1.heap.size w1 w' ∧ (∀ x, w'.cell? ⟨w.heap.size, x, none⟩ = w1.cell? ⟨w.heap.size, x, none⟩) ∧ (∀ x, w'.cell? ⟨bo, x, none⟩ = w1.cell? ⟨bo, x, none⟩)) (by kernel_rfl) (e1 (Below.refl _ _).drew) (fun hHeld => ?_)
    (first
      | (refine wpAnyH_take (i := 0) (v := ?_) rfl (by kernel_rfl) (by kernel_rfl) (by kernel_rfl) (fun _ _ _ h => h) (Or.inl ⟨by rfl, ?_⟩) (by assumption) ?_
         rotate_left
         focus (intro wq hSq; (try dsimp only at hSq); go_simp; (try (with_reducible rfl)); done))
      | (refine wpAnyH_take (i := 0) (v := undef) rfl (by kernel_rfl) (by kernel_rfl) (by kernel_rfl) (fun _ _ _ h => h) (Or.inr ⟨by rfl, rfl⟩) (by assumption) ?_)
      | fail "take 0")
    try simp only [Act.put, List.setIfInBounds_toArray, List.set_cons_zero, List.set_cons_succ, List.getElem_toArray, List.getElem_cons_zero]
    (first
      | (refine wpAnyH_take (i := 1) (v := ?_) rfl (by kernel_rfl) (by kernel_rfl) (by kernel_rfl) (fun _ _ _ h => h) (Or.inl ⟨by rfl, ?_⟩) (by assumption) ?_
         rotate_left
         focus (intro wq hSq; (try dsimp only at hSq); go_simp; (try (with_reducible rfl)); done))
      | (refine wpAnyH_take (i := 1) (v := undef) rfl (by kernel_rfl) (by kernel_rfl) (by kernel_rfl) (fun _ _ _ h => h) (Or.inr ⟨by rfl, rfl⟩) (by assumption) ?_)
      | fail "take 1")
    try simp only [Act.put, List.setIfInBounds_toArray, List.set_cons_zero, List.set_cons_succ, List.getElem_toArray, List.getElem_cons_zero, List.getElem_cons_succ]
    (first
      | (refine wpAnyH_take (i := 2) (v := ?_) rfl (by kernel_rfl) (by kernel_rfl) (by kernel_rfl) (fun _ _ _ h => h) (Or.inl ⟨by rfl, ?_⟩) (by assumption) ?_
         rotate_left
         focus (intro wq hSq; (try dsimp only at hSq); go_simp; (try (with_reducible rfl)); done))
      | (refine wpAnyH_take (i := 2) (v := undef) rfl (by kernel_rfl) (by kernel_rfl) (by kernel_rfl) (fun _ _ _ h => h) (Or.inr ⟨by rfl, rfl⟩) (by assumption) ?_)
      | fail "take 2")
    try simp only [Act.put, List.setIfInBounds_toArray, List.set_cons_zero, List.set_cons_succ, List.getElem_toArray, List.getElem_cons_zero, List.getElem_cons_succ]
    (first
      | (refine wpAnyH_take (i := 3) (v := ?_) rfl (by kernel_rfl) (by kernel_rfl) (by kernel_rfl) (fun _ _ _ h => h) (Or.inl ⟨by rfl, ?_⟩) (by assumption) ?_
         rotate_left
         focus (intro wq hSq; (try dsimp only at hSq); go_simp; (try (with_reducible rfl)); done))
      | (refine wpAnyH_take (i := 3) (v := undef) rfl (by kernel_rfl) (by kernel_rfl) (by kernel_rfl) (fun _ _ _ h => h) (Or.inr ⟨by rfl, rfl⟩) (by assumption) ?_)
      | fail "take 3")
    try simp only [Act.put, List.setIfInBounds_toArray, List.set_cons_zero, List.set_cons_succ, List.getElem_toArray, List.getElem_cons_zero, List.getElem_cons_succ]
    (first
      | (refine wpAnyH_take (i := 4) (v := ?_) rfl (by kernel_rfl) (by kernel_rfl) (by kernel_rfl) (fun _ _ _ h => h) (Or.inl ⟨by rfl, ?_⟩) (by assumption) ?_
         rotate_left
         focus (intro wq hSq; (try dsimp only at hSq); go_simp; (try (with_reducible rfl)); done))
      | (refine wpAnyH_take (i := 4) (v := undef) rfl (by kernel_rfl) (by kernel_rfl) (by kernel_rfl) (fun _ _ _ h => h) (Or.inr ⟨by rfl, rfl⟩) (by assumption) ?_)
      | fail "take 4")
    try simp only [Act.put, List.setIfInBounds_toArray, List.set_cons_zero, List.set_cons_succ, List.getElem_toArray, List.getElem_cons_zero, List.getElem_cons_succ]
    (first
      | (refine wpAnyH_take (i := 5) (v := ?_) rfl (by kernel_rfl) (by kernel_rfl) (by kernel_rfl) (fun _ _ _ h => h) (Or.inl ⟨by rfl, ?_⟩) (by assumption) ?_
         rotate_left
         focus (intro wq hSq; (try dsimp only at hSq); go_simp; (try (with_reducible rfl)); done))
      | (refine wpAnyH_take (i := 5) (v := undef) rfl (by kernel_rfl) (by kernel_rfl) (by kernel_rfl) (fun _ _ _ h => h) (Or.inr ⟨by rfl, rfl⟩) (by assumption) ?_)
      | fail "take 5")
    try simp only [Act.put, List.setIfInBounds_toArray, List.set_cons_zero, List.set_cons_succ, List.getElem_toArray, List.getElem_cons_zero, List.getElem_cons_succ]
    (first
      | (refine wpAnyH_take (i := 6) (v := ?_) rfl (by kernel_rfl) (by kernel_rfl) (by kernel_rfl) (fun _ _ _ h => h) (Or.inl ⟨by rfl, ?_⟩) (by assumption) ?_
         rotate_left
         focus (intro wq hSq; (try dsimp only at hSq); go_simp; (try (with_reducible rfl)); done))
      | (refine wpAnyH_take (i := 6) (v := undef) rfl (by kernel_rfl) (by kernel_rfl) (by kernel_rfl) (fun _ _ _ h => h) (Or.inr ⟨by rfl, rfl⟩) (by assumption) ?_)
      | fail "take 6")
    try simp only [Act.put, List.setIfInBounds_toArray, List.set_cons_zero, List.set_cons_succ, List.getElem_toArray, List.getElem_cons_zero, List.getElem_cons_succ]
    (first
      | (refine wpAnyH_take (i := 7) (v := ?_) rfl (by kernel_rfl) (by kernel_rfl) (by kernel_rfl) (fun _ _ _ h => h) (Or.inl ⟨by rfl, ?_⟩) (by assumption) ?_
         rotate_left
         focus (intro wq hSq; (try dsimp only at hSq); go_simp; (try (with_reducible rfl)); done))
      | (refine wpAnyH_take (i := 7) (v := undef) rfl (by kernel_rfl) (by kernel_rfl) (by kernel_rfl) (fun _ _ _ h => h) (Or.inr ⟨by rfl, rfl⟩) (by assumption) ?_)
      | fail "take 7")
    try simp only [Act.put, List.setIfInBounds_toArray, List.set_cons_zero, List.set_cons_succ, List.getElem_toArray, List.getElem_cons_zero, List.getElem_cons_succ]
    (first
      | (refine wpAnyH_take (i := 10) (v := ?_) rfl (by kernel_rfl) (by kernel_rfl) (by kernel_rfl) (fun _ _ _ h => h) (Or.inl ⟨by rfl, ?_⟩) (by assumption) ?_
         rotate_left
         focus (intro wq hSq; (try dsimp only at hSq); go_simp; (try (with_reducible rfl)); done))
      | (refine wpAnyH_take (i := 10) (v := undef) rfl (by kernel_rfl) (by kernel_rfl) (by kernel_rfl) (fun _ _ _ h => h) (Or.inr ⟨by rfl, rfl⟩) (by assumption) ?_)
      | fail "take 10")
    try simp only [Act.put, List.setIfInBounds_toArray, List.set_cons_zero, List.set_cons_succ, List.getElem_toArray, List.getElem_cons_zero, List.getElem_cons_succ]
    refine wpAnyH_ready (rs := [8]) (by kernel_rfl) (by simp) ?_
    refine AllReadyH.cons (o := _) rfl (fun K hK => ?_) AllReadyH.nil
    go_simp
    refine (observed_c A n c x _ (sl0.next (Below.refl _ _).drew) hn hlz hs (hcO o) start no hv s0 s1 Hml.out).mono ?_; rintro e w3 ⟨v3, rfl, hoS, hb3⟩; obtain ⟨AS, cS, rfl⟩ := own_slice hoS; have hb13 := (Below.refl w1.heap.size w1).drew.trans hb3; have sS := Sl.of_own hoS
    refine hK.out _ _ ?_ (fun hHeld => ?_)
    · exact e1 hb13
    clear hK K
    try simp only [Act.put, List.setIfInBounds_toArray, List.set_cons_zero, List.set_cons_succ, List.getElem_toArray, List.getElem_cons_zero, List.getElem_cons_succ]
    (first
      | (refine wpAnyH_take (i := 9) (v := ?_) rfl (by kernel_rfl) (by kernel_rfl) (by kernel_rfl) (fun _ _ _ h => h) (Or.inl ⟨by rfl, ?_⟩) (by assumption) ?_
         rotate_left
         focus (intro wq hSq; (try dsimp only at hSq); go_simp; (try (with_reducible rfl)); done))
      | (refine wpAnyH_take (i := 9) (v := undef) rfl (by kernel_rfl) (by kernel_rfl) (by kernel_rfl) (fun _ _ _ h => h) (Or.inr ⟨by rfl, rfl⟩) (by assumption) ?_)
      | fail "take 9")
    try simp only [Act.put, List.setIfInBounds_toArray, List.set_cons_zero, List.set_cons_succ, List.getElem_toArray, List.getElem_cons_zero, List.getElem_cons_succ]
    refine wpAnyH_done (by kernel_rfl) ?_ _
    have H3 := hb0.trans (hb13.mono hb0.size)
    have hoo := ho.next H3
    obtain ⟨see, hsee⟩ : ∃ see, seeL (phasesL x (hcO o)) start no = see := ⟨_, rfl⟩
    rw [hsee] at sS Hsb
    have Hsee := Lib.hid hsee; clear hsee
    clear hoS hb3 hHeld e1
    go_wp2_with fail
    go_loopw [7, 23] (fun t i wr => ∃ k : Nat, k ≤ no ∧ i = .int .i64 k ∧ t = .int .i64 (errS o see k) ∧ Below w3.heap.size w3 wr) (fun _ i _ => no - (intOf i).toNat)
    case atStart => exact ⟨0, Nat.zero_le _, rfl, rfl, Below.refl _ _⟩
    case round =>
      obtain ⟨k, hk', rfl, rfl, hbw⟩ := hrel
      obtain ⟨e1, e2⟩ := Heb.out see Hsb.out k
      by_cases hlt : k < no
      · obtain ⟨b4, off4, p, rfl, hb4, hp, x1, x2⟩ := sS.ph k hlt
        obtain ⟨b5, off5, q, e5, hb5, hq, y1, y2⟩ := hoo.ph k hlt
        injection e5 with e5; injection e5 with e6 e7 _
        subst e6 e7
        have r4 := keepC hbw b4 hb4
        have hbn : bo < wr.heap.size := Nat.lt_of_lt_of_le hb5 hbw.size
        have ra := keepC (hbw.alloc hbw.size (.cells #[.string p.c, .int .i64 p.len] 71)) bo hb5
        obtain ⟨m3, m4⟩ := Hlens.out q (List.mem_of_getElem? hq)
        obtain ⟨m5, m6⟩ := Hsb.out p (List.mem_of_getElem? hp)
        have hes : errS o see (k + 1) = errS o see k + if k + 1 = no ∧ q.len - p.len < 0 then 0 else max (q.len - p.len) (p.len - q.len) := by
          rw [errS_next, errAt, lenO_at hp, lenO_at hq, Hl.out]
        have j0 : (0 : Int) ≤ (k : Int) := by omega
        have j1 : (k : Int) < (no : Int) := by omega
        have hwn : IntKind.i64.wrap ((no : Int) - 1) = (no : Int) - 1 := IntWalk.i64_in _ (by omega)
        have hL : decide ((k : Int) < (no : Int) - 1) = !decide (k + 1 = no) := by rw [Bool.eq_iff_iff]; simp; omega
        have hG : decide (p.len ≤ q.len) = !decide (q.len - p.len < 0) := by rw [Bool.eq_iff_iff]; simp
        have hbz : ∀ nq, Below w3.heap.size w3 ((wr.alloc (.cells #[.string p.c, .int .i64 p.len] 71)).drewN nq) := fun nq => below_drewN (hbw.alloc hbw.size _) nq
        have hwt : IntKind.i64.wrap (errS o see k + max (p.len - q.len) (q.len - p.len)) = errS o see k + max (p.len - q.len) (q.len - p.len) := IntWalk.i64_in _ (by omega)
        have Hp := Lib.hid hp; clear hp
        have Hq := Lib.hid hq; clear hq
        have Hwt := Lib.hid hwt; clear hwt
        have Hbz := Lib.hid hbz; clear hbz
        by_cases hla : k + 1 = no
        all_goals
          first
          | (rw [decide_eq_true hla] at hL)
          | (rw [decide_eq_false hla] at hL)
          by_cases hd : q.len - p.len < 0
        all_goals
          first
          | (rw [decide_eq_true hd] at hG)
          | (rw [decide_eq_false hd] at hG)
          simp only [Bool.not_true, Bool.not_false] at hL hG
        · rw [if_pos ⟨hla, hd⟩, Int.add_zero] at hes
          have Hla := Lib.hid hla; clear hla
          have Hes := Lib.hid hes; clear hes
          go_wp2
          go_quiet (fail)
          clear hwn
          go_wp2
          go_roundw
          case rel => exact ⟨k + 1, by omega, by go_num, int_eq (by rw [Hes.out]), by (repeat (first | (with_reducible assumption) | (with_reducible exact Below.refl _ _) | exact Nat.le_refl _ | exact Below.size (by with_reducible assumption) | (with_reducible refine Below.drew ?_) | (with_reducible refine below_drewN ?_ _) | (with_reducible refine Below.alloc ?_ ?_ _) | (with_reducible refine Below.setCell ?_ ?_ _) | (with_reducible refine le_alloc ?_ _) | (with_reducible refine le_set ?_ _ _) | (with_reducible refine le_drew ?_) | (with_reducible refine le_drewN ?_ _) | omega | (dsimp only; omega)))⟩
          case measure => simp [intOf]; omega
        all_goals
          rw [if_neg (by omega)] at hes
          have Hes := Lib.hid hes; clear hes
          go_wp2
          go_quiet (fail)
          have hbz := Hbz.out nq
          have rz := keepC hbz bo hb5
          have gz : ((wr.alloc (.cells #[.string p.c, .int .i64 p.len] 71)).drewN nq).cell? ⟨wr.heap.size, 1, none⟩ = some (.int .i64 p.len) := by
            show (wr.alloc (.cells #[.string p.c, .int .i64 p.len] 71)).cell? ⟨wr.heap.size, 1, none⟩ = some (.int .i64 p.len)
            rw [cell_of_row _ wr.heap.size _ #[.string p.c, .int .i64 p.len] 71 (0, 0) (heap_alloc_new wr _)]
            rfl
          generalize (wr.alloc (.cells #[.string p.c, .int .i64 p.len] 71)).drewN nq = wz at *
          have hwt := Hwt.out
          clear hwn r4 ra
          go_wp2
          go_quiet ((go_at_call 110; exact quiet_c (distance_c _ _ _ (by omega) (by omega) (by omega) (by omega))))
          clear hwt
          go_wp2
          go_roundw
          case rel => exact ⟨k + 1, by omega, by go_num, int_eq (by have := Hes.out; omega), by (repeat (first | (with_reducible assumption) | (with_reducible exact Below.refl _ _) | exact Nat.le_refl _ | exact Below.size (by with_reducible assumption) | (with_reducible refine Below.drew ?_) | (with_reducible refine below_drewN ?_ _) | (with_reducible refine Below.alloc ?_ ?_ _) | (with_reducible refine Below.setCell ?_ ?_ _) | (with_reducible refine le_alloc ?_ _) | (with_reducible refine le_set ?_ _ _) | (with_reducible refine le_drew ?_) | (with_reducible refine le_drewN ?_ _) | omega | (dsimp only; omega)))⟩
          case measure => simp [intOf]; omega
      · obtain rfl : k = no := by omega
        go_wp2_with fail
        go_ret
        refine ⟨ret_eq (int_eq ?_), H3.trans (hbw.mono H3.size)⟩
        rw [Hl.out, Hsee.out]
  · have hF : errI x o start = 0 := by rw [errI, hk]; rfl
    rw [hF]
    have HF := Lib.hid hF; clear hF
    go_enter Try.func70, Try.ntmps70
    go_wp2
    go_ret
    exact ⟨rfl, hb0⟩
end Go.Proofs.Ytgfplmfdgbklkaa
