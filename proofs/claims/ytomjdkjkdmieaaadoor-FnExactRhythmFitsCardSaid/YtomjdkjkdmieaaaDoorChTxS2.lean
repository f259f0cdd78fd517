/- The text of a character: the reference: the whole. -/
import Derived.Test.YtomjdkjkdmieaaaDoorChTxS
namespace Go.Proofs.YtomjdkjkdmieaaaDoor
open Go.RowKit
theorem slT_lit2 (w : World) (L : List (List UInt8)) (m : Nat) (hm : L.length = m) : Sl (w.alloc (.cells ((L.map kbs).flatMap strC).toArray 9)) (w.heap.size + 1) 1 (some ⟨w.heap.size, 0, none⟩) m ((L.map kbs).flatMap strC) :=
  Sl.new w 9 _ m 1 (by rw [flat_len strC 1 strC_len, List.length_map, hm])
theorem kindT_len2 {k : Int} (h0 : 0 ≤ k) (h1 : k ≤ 8) : (kindT k).size ≤ 3 := by
  obtain ⟨n, rfl⟩ : ∃ n : Nat, k = n := ⟨k.toNat, by omega⟩
  have : n ≤ 8 := by omega
  have key : ∀ m : Nat, m ≤ 8 → (kindT (m : Int)).size ≤ 3 := by decide
  exact key n this
theorem bempty' (a : ByteArray) : (⟨#[]⟩ : ByteArray) ++ a = a := by
  apply ByteArray.ext
  rw [ByteArray.data_append]
  exact Array.empty_append
theorem secT_len {p : Int} (h0 : 0 ≤ p) (h1 : p ≤ 600) : (secT p).size ≤ 50 := by
  obtain ⟨q, hq⟩ : ∃ q, p.tdiv 10 = q := ⟨_, rfl⟩
  obtain ⟨r, hr⟩ : ∃ r, p.tmod 10 = r := ⟨_, rfl⟩
  have hqb : 0 ≤ q ∧ q ≤ 60 := by rw [← hq, Int.tdiv_eq_ediv_of_nonneg h0]; omega
  have hrb : 0 ≤ r ∧ r ≤ 9 := by rw [← hr, Int.tmod_eq_emod_of_nonneg h0]; omega
  have lq := decB_lenC q (by omega) (by omega)
  have lr := decB_lenC r (by omega) (by omega)
  rw [secT, hq, hr]
  split
  · omega
  · rw [ByteArray.size_append, ByteArray.size_append]
    have : (⟨#[46]⟩ : ByteArray).size = 1 := rfl
    omega
set_option maxRecDepth 100000 in
set_option maxHeartbeats 1000000 in
theorem l05Kinds_c (kn : Nat) (hkn : kn ≤ 8) (w : World) : Calls Tryd.prog 27 #[] w fun e w' => (∃ b, e = .returned (.slice (some ⟨b, 0, none⟩) 9 9) ∧ b < w'.heap.size ∧ w'.cell? ⟨b, kn, none⟩ = some (.string (kindT kn))) ∧ Below w.heap.size w w' := by
  have hs := slT_lit2 w kindL 9 rfl
  have hb0 : Below w.heap.size w (w.alloc (.cells ((kindL.map kbs).flatMap strC).toArray 9)) := by (repeat (first | (with_reducible assumption) | (with_reducible exact Below.refl _ _) | exact Nat.le_refl _ | exact Below.size (by with_reducible assumption) | (with_reducible refine Below.drew ?_) | (with_reducible refine below_drewN ?_ _) | (with_reducible refine Below.alloc ?_ ?_ _) | (with_reducible refine Below.setCell ?_ ?_ _) | (with_reducible refine le_alloc ?_ _) | (with_reducible refine le_set ?_ _ _) | (with_reducible refine le_drew ?_) | (with_reducible refine le_drewN ?_ _) | omega | (dsimp only; omega)))
  have hc : (w.alloc (.cells ((kindL.map kbs).flatMap strC).toArray 9)).cell? ⟨w.heap.size, kn, none⟩ = some (.string (kindT kn)) := by
    obtain ⟨b, off, s, hA, hb, hx, hcell⟩ := hs.str kn (by omega)
    injection hA with hA
    injection hA with e1 e2 _
    subst e1 e2
    rw [Nat.zero_add] at hcell
    rw [hcell]
    have : kindT kn = s := by rw [kindT, Int.toNat_natCast, List.getD_eq_getElem?_getD, hx]; rfl
    rw [this]
  have Hc := Lib.hid hc; clear hc
  go_enter Tryd.func27, Tryd.ntmps27
  go_wp2_with fail
  go_ret
  exact ⟨⟨_, rfl, by simp, Hc.out⟩, hb0⟩
set_option maxRecDepth 100000 in
set_option maxHeartbeats 4000000 in
theorem l05Text_c (b off : Nat) (A : Option Addr) (n c : Nat) (x : Ch) (w : World) (h : ChP w b off A n c x) (hv : validB x = true) :
    Calls Tryd.prog 14 #[.pointer (some ⟨b, off, none⟩)] w fun e w' => e = .returned (.string (charT x)) ∧ Below w.heap.size w w' := by
  obtain ⟨hk, h4, hgs, h8, hn8⟩ := fits_cases hv
  obtain ⟨hp0, hp6⟩ := valid_p hv
  have hcl : x.cs.size ≤ 3 := by
    have h1 := valid_shape hv
    simp only [shapeB, colorsB, Bool.and_eq_true, decide_eq_true_eq] at h1
    omega
  obtain ⟨c0, c1, c2, c3, c4, hb, sl, -, -, -⟩ := id h
  have hl : x.gs.length = n := sl.len intC 1 intC_len (by omega)
  obtain ⟨kn, hkn⟩ : ∃ kn : Nat, x.k = kn := ⟨x.k.toNat, by omega⟩
  obtain ⟨T, hT⟩ : ∃ T, kindT x.k = T := ⟨_, rfl⟩
  have hkn8 : kn ≤ 8 := by omega
  have k0 : (0 : Int) ≤ (kn : Int) := by omega
  have k9 : (kn : Int) < 9 := by omega
  have hKi : ∀ w1, Calls Tryd.prog 27 #[] w1 fun e w' => (∃ b, e = .returned (.slice (some ⟨b, 0, none⟩) 9 9) ∧ b < w'.heap.size ∧ w'.cell? ⟨b, kn, none⟩ = some (.string T)) ∧ Below w1.heap.size w1 w' := fun w1 => by
    have := l05Kinds_c kn hkn8 w1
    rwa [← hkn, hT] at this
  have hSe : ∀ w1, Calls Tryd.prog 29 #[.int .i64 x.p] w1 fun e w' => e = .returned (.string (secT x.p ++ ⟨#[115]⟩)) ∧ Below w1.heap.size w1 w' := fun w1 => l05Seconds_c x.p w1 hp0 hp6
  have hTl : T.size ≤ 3 := hT ▸ kindT_len2 (by omega) (by omega)
  have hZl : (secT x.p).size ≤ 50 := secT_len hp0 hp6
  have e1 : ∀ {w' : World}, Below w.heap.size w w' → Below w.heap.size w w' ∧ (∀ i, w'.cell? ⟨b, i, none⟩ = w.cell? ⟨b, i, none⟩) := fun hbb => ⟨hbb, keepC hbb b hb⟩
  rw [hkn] at c0
  have HKi := Lib.hid hKi; clear hKi
  have HSe := Lib.hid hSe; clear hSe
  have Hkn := Lib.hid hkn; clear hkn
  have Hv := Lib.hid hv; clear hv
  have HP := Lib.hid h; clear h
  have Hgs := Lib.hid hgs; clear hgs
  have H8 := Lib.hid h8; clear h8
  have Hn8 := Lib.hid hn8; clear hn8
  have HT := Lib.hid hT; clear hT
  by_cases hk8 : kn = 8
  · have hk8b : ((kn : Int) == 8) = true := by simp; omega
    obtain ⟨hg0, hl1⟩ := H8.out (by rw [Hkn.out]; omega)
    have hn0 : n = 0 := by rw [← hl, hg0]; rfl
    subst hn0
    have hl1' : x.l.size ≤ 1 := by omega
    have u1 : ¬ 9223372036854775807 < 1 + x.l.size := by omega
    have u2 : ¬ 9223372036854775807 < 1 + x.l.size + 1 := by omega
    have u3 : ¬ 9223372036854775807 < T.size + (1 + x.l.size + 1) := by omega
    have hT1 : (T ++ (⟨#[40]⟩ ++ x.l ++ ⟨#[41]⟩)).size ≤ 6 := by
      rw [ByteArray.size_append, ByteArray.size_append, ByteArray.size_append]
      have : (⟨#[40]⟩ : ByteArray).size = 1 := rfl
      have : (⟨#[41]⟩ : ByteArray).size = 1 := rfl
      omega
    have hC : charT x = T ++ (⟨#[40]⟩ ++ x.l ++ ⟨#[41]⟩) ++ grpT x.gs 0 ++ (⟨#[32]⟩ ++ (x.cs ++ perT x.p)) := by
      have hk : x.k = 8 := by rw [Hkn.out]; omega
      have hT' := HT.out
      rw [hk] at hT'
      rw [charT, headT, if_pos hk, hT', grpT]
      simp only [bassoc, bempty]
    have HC := Lib.hid hC; clear hC
    have Hg0 := Lib.hid hg0; clear hg0
    have Hl1 := Lib.hid hl1; clear hl1
    have Hk8 := Lib.hid hk8; clear hk8
    cases hLb : (x.l.toList == [76])
    · go_enter Tryd.func14, Tryd.ntmps14
      go_wp2_with fail
      refine wp_region_held_drew (S := fun w' => Below w.heap.size w w' ∧ (∀ i, w'.cell? ⟨b, i, none⟩ = w.cell? ⟨b, i, none⟩)) (by kernel_rfl) (e1 (Below.refl _ _).drew) (fun hHeld => ?_)
      (first
        | (refine wpAnyH_take (i := 1) (v := ?_) rfl (by kernel_rfl) (by kernel_rfl) (by kernel_rfl) (fun _ _ _ h => h) (Or.inl ⟨by rfl, ?_⟩) (by assumption) ?_
           rotate_left
           focus (intro wq hSq; (try dsimp only at hSq); go_simp; (try (with_reducible rfl)); done))
        | (refine wpAnyH_take (i := 1) (v := undef) rfl (by kernel_rfl) (by kernel_rfl) (by kernel_rfl) (fun _ _ _ h => h) (Or.inr ⟨by rfl, rfl⟩) (by assumption) ?_)
        | fail "take 1")
      try simp only [Act.put, List.setIfInBounds_toArray, List.set_cons_zero, List.set_cons_succ, List.getElem_toArray, List.getElem_cons_zero, List.getElem_cons_succ]
      (first
        | (refine wpAnyH_take (i := 2) (v := ?_) rfl (by kernel_rfl) (by kernel_rfl) (by kernel_rfl) (fun _ _ _ h => h) (Or.inl ⟨by rfl, ?_⟩) (by assumption) ?_
           rotate_left
           focus (intro wq hSq; (try dsimp only at hSq); go_simp; (try (with_reducible rfl)); done))
        | (refine wpAnyH_take (i := 2) (v := undef) rfl (by kernel_rfl) (by kernel_rfl) (by kernel_rfl) (fun _ _ _ h => h) (Or.inr ⟨by rfl, rfl⟩) (by assumption) ?_)
        | fail "take 2")
      try simp only [Act.put, List.setIfInBounds_toArray, List.set_cons_zero, List.set_cons_succ, List.getElem_toArray, List.getElem_cons_zero, List.getElem_cons_succ]
      (first
        | (refine wpAnyH_take (i := 3) (v := ?_) rfl (by kernel_rfl) (by kernel_rfl) (by kernel_rfl) (fun _ _ _ h => h) (Or.inl ⟨by rfl, ?_⟩) (by assumption) ?_
           rotate_left
           focus (intro wq hSq; (try dsimp only at hSq); go_simp; (try (with_reducible rfl)); done))
        | (refine wpAnyH_take (i := 3) (v := undef) rfl (by kernel_rfl) (by kernel_rfl) (by kernel_rfl) (fun _ _ _ h => h) (Or.inr ⟨by rfl, rfl⟩) (by assumption) ?_)
        | fail "take 3")
      try simp only [Act.put, List.setIfInBounds_toArray, List.set_cons_zero, List.set_cons_succ, List.getElem_toArray, List.getElem_cons_zero, List.getElem_cons_succ]
      (first
        | (refine wpAnyH_take (i := 4) (v := ?_) rfl (by kernel_rfl) (by kernel_rfl) (by kernel_rfl) (fun _ _ _ h => h) (Or.inl ⟨by rfl, ?_⟩) (by assumption) ?_
           rotate_left
           focus (intro wq hSq; (try dsimp only at hSq); go_simp; (try (with_reducible rfl)); done))
        | (refine wpAnyH_take (i := 4) (v := undef) rfl (by kernel_rfl) (by kernel_rfl) (by kernel_rfl) (fun _ _ _ h => h) (Or.inr ⟨by rfl, rfl⟩) (by assumption) ?_)
        | fail "take 4")
      try simp only [Act.put, List.setIfInBounds_toArray, List.set_cons_zero, List.set_cons_succ, List.getElem_toArray, List.getElem_cons_zero, List.getElem_cons_succ]
      refine wpAnyH_ready (rs := [0]) (by kernel_rfl) (by simp) ?_
      refine AllReadyH.cons (o := _) rfl (fun K hK => ?_) AllReadyH.nil
      go_simp
      refine (HKi.out _).mono ?_; rintro e w1 ⟨⟨b1, rfl, hb1l, hcell⟩, hb1'⟩; have hb1 : Below w.heap.size w w1 := (Below.refl _ _).drew.trans hb1'
      refine hK.out _ _ ?_ (fun hHeld => ?_)
      · exact e1 hb1
      clear hK K
      try simp only [Act.put, List.setIfInBounds_toArray, List.set_cons_zero, List.set_cons_succ, List.getElem_toArray, List.getElem_cons_zero, List.getElem_cons_succ]
      (first
        | (refine wpAnyH_take (i := 5) (v := ?_) rfl (by kernel_rfl) (by kernel_rfl) (by kernel_rfl) (fun _ _ _ h => h) (Or.inl ⟨by rfl, ?_⟩) (by assumption) ?_
           rotate_left
           focus (intro wq hSq; (try dsimp only at hSq); go_simp; (try (with_reducible rfl)); done))
        | (refine wpAnyH_take (i := 5) (v := undef) rfl (by kernel_rfl) (by kernel_rfl) (by kernel_rfl) (fun _ _ _ h => h) (Or.inr ⟨by rfl, rfl⟩) (by assumption) ?_)
        | fail "take 5")
      try simp only [Act.put, List.setIfInBounds_toArray, List.set_cons_zero, List.set_cons_succ, List.getElem_toArray, List.getElem_cons_zero, List.getElem_cons_succ]
      refine wpAnyH_ready (rs := [6]) (by kernel_rfl) (by simp) ?_
      refine AllReadyH.cons (o := _) rfl (fun K hK => ?_) AllReadyH.nil
      go_simp
      skip
      refine hK.out _ _ ?_ (fun hHeld => ?_)
      · exact e1 hb1
      clear hK K
      try simp only [Act.put, List.setIfInBounds_toArray, List.set_cons_zero, List.set_cons_succ, List.getElem_toArray, List.getElem_cons_zero, List.getElem_cons_succ]
      (first
        | (refine wpAnyH_take (i := 7) (v := ?_) rfl (by kernel_rfl) (by kernel_rfl) (by kernel_rfl) (fun _ _ _ h => h) (Or.inl ⟨by rfl, ?_⟩) (by assumption) ?_
           rotate_left
           focus (intro wq hSq; (try dsimp only at hSq); go_simp; (try (with_reducible rfl)); done))
        | (refine wpAnyH_take (i := 7) (v := undef) rfl (by kernel_rfl) (by kernel_rfl) (by kernel_rfl) (fun _ _ _ h => h) (Or.inr ⟨by rfl, rfl⟩) (by assumption) ?_)
        | fail "take 7")
      try simp only [Act.put, List.setIfInBounds_toArray, List.set_cons_zero, List.set_cons_succ, List.getElem_toArray, List.getElem_cons_zero, List.getElem_cons_succ]
      refine wpAnyH_done (by kernel_rfl) ?_ _
      clear hHeld hb1' hcell e1
      go_wp2_with fail
      go_loopw [3, 4] (fun y i wr => ∃ k : Nat, k ≤ 0 ∧ i = .int .i64 k ∧ y = .string (T ++ (⟨#[40]⟩ ++ x.l ++ ⟨#[41]⟩) ++ grpT x.gs k) ∧ Below w.heap.size w wr) (fun _ i _ => 0 - (intOf i).toNat)
      case atStart => exact ⟨0, Nat.zero_le _, rfl, congrArg Value.string (bempty _).symm, hb1⟩
      case round =>
        clear hb1
        obtain ⟨k, hk', rfl, rfl, hbw⟩ := hrel
        have hgl := grpT_len Hgs.out k
        obtain ⟨d0, d1, d2, d3, d4, hb', sl1, -, -, -⟩ := (HP.out).next hbw
        rw [Hkn.out] at d0
        clear c0 c1 c2 c3 c4
        have kk0 : (0 : Int) ≤ (k : Int) := by omega
        by_cases hlt : k < 0
        · exact absurd hlt (by omega)
        · obtain rfl : k = 0 := by omega
          have hSl : (T ++ (⟨#[40]⟩ ++ x.l ++ ⟨#[41]⟩) ++ grpT x.gs 0).size ≤ 100 := by rw [ByteArray.size_append]; omega
          obtain ⟨S, hS⟩ : ∃ S, T ++ (⟨#[40]⟩ ++ x.l ++ ⟨#[41]⟩) ++ grpT x.gs 0 = S := ⟨_, rfl⟩
          rw [hS] at hSl ⊢
          have HS := Lib.hid hS; clear hS
          obtain ⟨Z, hZ⟩ : ∃ Z, secT x.p ++ (⟨#[115]⟩ : ByteArray) = Z := ⟨_, rfl⟩
          have hSe := HSe.out
          rw [hZ] at hSe
          have HSe2 := Lib.hid hSe; clear hSe
          have HZ := Lib.hid hZ; clear hZ
          have hZs : Z.size ≤ 60 := by
            rw [← HZ.out, ByteArray.size_append]
            have : (⟨#[115]⟩ : ByteArray).size = 1 := rfl
            omega
          have v1 : ¬ 9223372036854775807 < 1 + x.cs.size := by omega
          have v2 : ¬ 9223372036854775807 < 1 + Z.size := by omega
          have v3 : ¬ 9223372036854775807 < S.size + 1 := by omega
          have v4 : ¬ 9223372036854775807 < S.size + 1 + 4 := by omega
          have v5 : ¬ 9223372036854775807 < S.size + (1 + x.cs.size) := by omega
          have v6 : ¬ 9223372036854775807 < S.size + 1 + (1 + x.cs.size) := by omega
          have v7 : ¬ 9223372036854775807 < S.size + 1 + 4 + (1 + x.cs.size) := by omega
          have v8 : ¬ 9223372036854775807 < S.size + (1 + x.cs.size) + (1 + Z.size) := by omega
          have v9 : ¬ 9223372036854775807 < S.size + 1 + (1 + x.cs.size) + (1 + Z.size) := by omega
          have v10 : ¬ 9223372036854775807 < S.size + 1 + 4 + (1 + x.cs.size) + (1 + Z.size) := by omega
          by_cases hp : x.p = 0
          · have hF : charT x = S ++ (⟨#[32]⟩ ++ x.cs) := by rw [HC.out, HS.out, hp, perT, if_pos rfl, bempty]
            have hpn : ¬ 0 < x.p := by omega
            have HF := Lib.hid hF; clear hF
            have Hp := Lib.hid hp; clear hp
            go_wp2_with fail
            go_ret
            exact ⟨ret_eq (congrArg Value.string HF.out.symm), hbw⟩
          · have hF : charT x = S ++ (⟨#[32]⟩ ++ x.cs) ++ (⟨#[32]⟩ ++ Z) := by
              rw [HC.out, HS.out, perT, if_neg hp, HZ.out]
              simp only [bassoc]
            have hpp : 0 < x.p := by omega
            have HF := Lib.hid hF; clear hF
            have Hp := Lib.hid hp; clear hp
            go_wp2_with fail
            refine (HSe2.out _).mono ?_
            rintro e w6 ⟨rfl, hb6⟩
            go_wp2_with fail
            go_ret
            exact ⟨ret_eq (congrArg Value.string HF.out.symm), hbw.trans (hb6.mono hbw.size)⟩
    · go_enter Tryd.func14, Tryd.ntmps14
      go_wp2_with fail
      refine wp_region_held_drew (S := fun w' => Below w.heap.size w w' ∧ (∀ i, w'.cell? ⟨b, i, none⟩ = w.cell? ⟨b, i, none⟩)) (by kernel_rfl) (e1 (Below.refl _ _).drew) (fun hHeld => ?_)
      (first
        | (refine wpAnyH_take (i := 1) (v := ?_) rfl (by kernel_rfl) (by kernel_rfl) (by kernel_rfl) (fun _ _ _ h => h) (Or.inl ⟨by rfl, ?_⟩) (by assumption) ?_
           rotate_left
           focus (intro wq hSq; (try dsimp only at hSq); go_simp; (try (with_reducible rfl)); done))
        | (refine wpAnyH_take (i := 1) (v := undef) rfl (by kernel_rfl) (by kernel_rfl) (by kernel_rfl) (fun _ _ _ h => h) (Or.inr ⟨by rfl, rfl⟩) (by assumption) ?_)
        | fail "take 1")
      try simp only [Act.put, List.setIfInBounds_toArray, List.set_cons_zero, List.set_cons_succ, List.getElem_toArray, List.getElem_cons_zero, List.getElem_cons_succ]
      (first
        | (refine wpAnyH_take (i := 2) (v := ?_) rfl (by kernel_rfl) (by kernel_rfl) (by kernel_rfl) (fun _ _ _ h => h) (Or.inl ⟨by rfl, ?_⟩) (by assumption) ?_
           rotate_left
           focus (intro wq hSq; (try dsimp only at hSq); go_simp; (try (with_reducible rfl)); done))
        | (refine wpAnyH_take (i := 2) (v := undef) rfl (by kernel_rfl) (by kernel_rfl) (by kernel_rfl) (fun _ _ _ h => h) (Or.inr ⟨by rfl, rfl⟩) (by assumption) ?_)
        | fail "take 2")
      try simp only [Act.put, List.setIfInBounds_toArray, List.set_cons_zero, List.set_cons_succ, List.getElem_toArray, List.getElem_cons_zero, List.getElem_cons_succ]
      (first
        | (refine wpAnyH_take (i := 3) (v := ?_) rfl (by kernel_rfl) (by kernel_rfl) (by kernel_rfl) (fun _ _ _ h => h) (Or.inl ⟨by rfl, ?_⟩) (by assumption) ?_
           rotate_left
           focus (intro wq hSq; (try dsimp only at hSq); go_simp; (try (with_reducible rfl)); done))
        | (refine wpAnyH_take (i := 3) (v := undef) rfl (by kernel_rfl) (by kernel_rfl) (by kernel_rfl) (fun _ _ _ h => h) (Or.inr ⟨by rfl, rfl⟩) (by assumption) ?_)
        | fail "take 3")
      try simp only [Act.put, List.setIfInBounds_toArray, List.set_cons_zero, List.set_cons_succ, List.getElem_toArray, List.getElem_cons_zero, List.getElem_cons_succ]
      (first
        | (refine wpAnyH_take (i := 4) (v := ?_) rfl (by kernel_rfl) (by kernel_rfl) (by kernel_rfl) (fun _ _ _ h => h) (Or.inl ⟨by rfl, ?_⟩) (by assumption) ?_
           rotate_left
           focus (intro wq hSq; (try dsimp only at hSq); go_simp; (try (with_reducible rfl)); done))
        | (refine wpAnyH_take (i := 4) (v := undef) rfl (by kernel_rfl) (by kernel_rfl) (by kernel_rfl) (fun _ _ _ h => h) (Or.inr ⟨by rfl, rfl⟩) (by assumption) ?_)
        | fail "take 4")
      try simp only [Act.put, List.setIfInBounds_toArray, List.set_cons_zero, List.set_cons_succ, List.getElem_toArray, List.getElem_cons_zero, List.getElem_cons_succ]
      refine wpAnyH_ready (rs := [0]) (by kernel_rfl) (by simp) ?_
      refine AllReadyH.cons (o := _) rfl (fun K hK => ?_) AllReadyH.nil
      go_simp
      refine (HKi.out _).mono ?_; rintro e w1 ⟨⟨b1, rfl, hb1l, hcell⟩, hb1'⟩; have hb1 : Below w.heap.size w w1 := (Below.refl _ _).drew.trans hb1'
      refine hK.out _ _ ?_ (fun hHeld => ?_)
      · exact e1 hb1
      clear hK K
      try simp only [Act.put, List.setIfInBounds_toArray, List.set_cons_zero, List.set_cons_succ, List.getElem_toArray, List.getElem_cons_zero, List.getElem_cons_succ]
      (first
        | (refine wpAnyH_take (i := 5) (v := ?_) rfl (by kernel_rfl) (by kernel_rfl) (by kernel_rfl) (fun _ _ _ h => h) (Or.inl ⟨by rfl, ?_⟩) (by assumption) ?_
           rotate_left
           focus (intro wq hSq; (try dsimp only at hSq); go_simp; (try (with_reducible rfl)); done))
        | (refine wpAnyH_take (i := 5) (v := undef) rfl (by kernel_rfl) (by kernel_rfl) (by kernel_rfl) (fun _ _ _ h => h) (Or.inr ⟨by rfl, rfl⟩) (by assumption) ?_)
        | fail "take 5")
      try simp only [Act.put, List.setIfInBounds_toArray, List.set_cons_zero, List.set_cons_succ, List.getElem_toArray, List.getElem_cons_zero, List.getElem_cons_succ]
      refine wpAnyH_ready (rs := [6]) (by kernel_rfl) (by simp) ?_
      refine AllReadyH.cons (o := _) rfl (fun K hK => ?_) AllReadyH.nil
      go_simp
      skip
      refine hK.out _ _ ?_ (fun hHeld => ?_)
      · exact e1 hb1
      clear hK K
      try simp only [Act.put, List.setIfInBounds_toArray, List.set_cons_zero, List.set_cons_succ, List.getElem_toArray, List.getElem_cons_zero, List.getElem_cons_succ]
      (first
        | (refine wpAnyH_take (i := 7) (v := ?_) rfl (by kernel_rfl) (by kernel_rfl) (by kernel_rfl) (fun _ _ _ h => h) (Or.inl ⟨by rfl, ?_⟩) (by assumption) ?_
           rotate_left
           focus (intro wq hSq; (try dsimp only at hSq); go_simp; (try (with_reducible rfl)); done))
        | (refine wpAnyH_take (i := 7) (v := undef) rfl (by kernel_rfl) (by kernel_rfl) (by kernel_rfl) (fun _ _ _ h => h) (Or.inr ⟨by rfl, rfl⟩) (by assumption) ?_)
        | fail "take 7")
      try simp only [Act.put, List.setIfInBounds_toArray, List.set_cons_zero, List.set_cons_succ, List.getElem_toArray, List.getElem_cons_zero, List.getElem_cons_succ]
      refine wpAnyH_done (by kernel_rfl) ?_ _
      clear hHeld hb1' hcell e1
      go_wp2_with fail
      go_loopw [3, 4] (fun y i wr => ∃ k : Nat, k ≤ 0 ∧ i = .int .i64 k ∧ y = .string (T ++ (⟨#[40]⟩ ++ x.l ++ ⟨#[41]⟩) ++ grpT x.gs k) ∧ Below w.heap.size w wr) (fun _ i _ => 0 - (intOf i).toNat)
      case atStart => exact ⟨0, Nat.zero_le _, rfl, congrArg Value.string (bempty _).symm, hb1⟩
      case round =>
        clear hb1
        obtain ⟨k, hk', rfl, rfl, hbw⟩ := hrel
        have hgl := grpT_len Hgs.out k
        obtain ⟨d0, d1, d2, d3, d4, hb', sl1, -, -, -⟩ := (HP.out).next hbw
        rw [Hkn.out] at d0
        clear c0 c1 c2 c3 c4
        have kk0 : (0 : Int) ≤ (k : Int) := by omega
        by_cases hlt : k < 0
        · exact absurd hlt (by omega)
        · obtain rfl : k = 0 := by omega
          have hSl : (T ++ (⟨#[40]⟩ ++ x.l ++ ⟨#[41]⟩) ++ grpT x.gs 0).size ≤ 100 := by rw [ByteArray.size_append]; omega
          obtain ⟨S, hS⟩ : ∃ S, T ++ (⟨#[40]⟩ ++ x.l ++ ⟨#[41]⟩) ++ grpT x.gs 0 = S := ⟨_, rfl⟩
          rw [hS] at hSl ⊢
          have HS := Lib.hid hS; clear hS
          obtain ⟨Z, hZ⟩ : ∃ Z, secT x.p ++ (⟨#[115]⟩ : ByteArray) = Z := ⟨_, rfl⟩
          have hSe := HSe.out
          rw [hZ] at hSe
          have HSe2 := Lib.hid hSe; clear hSe
          have HZ := Lib.hid hZ; clear hZ
          have hZs : Z.size ≤ 60 := by
            rw [← HZ.out, ByteArray.size_append]
            have : (⟨#[115]⟩ : ByteArray).size = 1 := rfl
            omega
          have v1 : ¬ 9223372036854775807 < 1 + x.cs.size := by omega
          have v2 : ¬ 9223372036854775807 < 1 + Z.size := by omega
          have v3 : ¬ 9223372036854775807 < S.size + 1 := by omega
          have v4 : ¬ 9223372036854775807 < S.size + 1 + 4 := by omega
          have v5 : ¬ 9223372036854775807 < S.size + (1 + x.cs.size) := by omega
          have v6 : ¬ 9223372036854775807 < S.size + 1 + (1 + x.cs.size) := by omega
          have v7 : ¬ 9223372036854775807 < S.size + 1 + 4 + (1 + x.cs.size) := by omega
          have v8 : ¬ 9223372036854775807 < S.size + (1 + x.cs.size) + (1 + Z.size) := by omega
          have v9 : ¬ 9223372036854775807 < S.size + 1 + (1 + x.cs.size) + (1 + Z.size) := by omega
          have v10 : ¬ 9223372036854775807 < S.size + 1 + 4 + (1 + x.cs.size) + (1 + Z.size) := by omega
          by_cases hp : x.p = 0
          · have hF : charT x = S ++ (⟨#[32]⟩ ++ x.cs) := by rw [HC.out, HS.out, hp, perT, if_pos rfl, bempty]
            have hpn : ¬ 0 < x.p := by omega
            have HF := Lib.hid hF; clear hF
            have Hp := Lib.hid hp; clear hp
            go_wp2_with fail
            go_ret
            exact ⟨ret_eq (congrArg Value.string HF.out.symm), hbw⟩
          · have hF : charT x = S ++ (⟨#[32]⟩ ++ x.cs) ++ (⟨#[32]⟩ ++ Z) := by
              rw [HC.out, HS.out, perT, if_neg hp, HZ.out]
              simp only [bassoc]
            have hpp : 0 < x.p := by omega
            have HF := Lib.hid hF; clear hF
            have Hp := Lib.hid hp; clear hp
            go_wp2_with fail
            refine (HSe2.out _).mono ?_
            rintro e w6 ⟨rfl, hb6⟩
            go_wp2_with fail
            go_ret
            exact ⟨ret_eq (congrArg Value.string HF.out.symm), hbw.trans (hb6.mono hbw.size)⟩
  · have hk8b : ((kn : Int) == 8) = false := by simp; omega
    have hk8' : x.k ≠ 8 := by rw [Hkn.out]; omega
    have Hk8n := Lib.hid hk8'; clear hk8'
    have hT1 : T.size ≤ 6 := by omega
    by_cases hn0 : n = 0
    · subst hn0
      have hg0 : x.gs = [] := List.eq_nil_of_length_eq_zero hl
      obtain ⟨hLb, hE⟩ : isL x.l = false ∧ isE x.l = true := by
        rcases Hn8.out Hk8n.out with h | h
        · exact absurd hg0 h.2
        · exact h
      have hC : charT x = T ++ grpT x.gs 0 ++ (⟨#[32]⟩ ++ (x.cs ++ perT x.p)) := by
        rw [charT, headT, if_neg Hk8n.out, HT.out, grpX, if_pos hg0, ltrX, hLb, grpT]
        simp only [bempty, Bool.false_eq_true, if_false]
      have hLb' : (x.l.toList == [76]) = false := hLb
      have HC := Lib.hid hC; clear hC
      have Hg0 := Lib.hid hg0; clear hg0
      have HLb := Lib.hid hLb; clear hLb
      have HE := Lib.hid hE; clear hE
      go_enter Tryd.func14, Tryd.ntmps14
      go_wp2_with fail
      refine wp_region_held_drew (S := fun w' => Below w.heap.size w w' ∧ (∀ i, w'.cell? ⟨b, i, none⟩ = w.cell? ⟨b, i, none⟩)) (by kernel_rfl) (e1 (Below.refl _ _).drew) (fun hHeld => ?_)
      (first
        | (refine wpAnyH_take (i := 1) (v := ?_) rfl (by kernel_rfl) (by kernel_rfl) (by kernel_rfl) (fun _ _ _ h => h) (Or.inl ⟨by rfl, ?_⟩) (by assumption) ?_
           rotate_left
           focus (intro wq hSq; (try dsimp only at hSq); go_simp; (try (with_reducible rfl)); done))
        | (refine wpAnyH_take (i := 1) (v := undef) rfl (by kernel_rfl) (by kernel_rfl) (by kernel_rfl) (fun _ _ _ h => h) (Or.inr ⟨by rfl, rfl⟩) (by assumption) ?_)
        | fail "take 1")
      try simp only [Act.put, List.setIfInBounds_toArray, List.set_cons_zero, List.set_cons_succ, List.getElem_toArray, List.getElem_cons_zero, List.getElem_cons_succ]
      (first
        | (refine wpAnyH_take (i := 2) (v := ?_) rfl (by kernel_rfl) (by kernel_rfl) (by kernel_rfl) (fun _ _ _ h => h) (Or.inl ⟨by rfl, ?_⟩) (by assumption) ?_
           rotate_left
           focus (intro wq hSq; (try dsimp only at hSq); go_simp; (try (with_reducible rfl)); done))
        | (refine wpAnyH_take (i := 2) (v := undef) rfl (by kernel_rfl) (by kernel_rfl) (by kernel_rfl) (fun _ _ _ h => h) (Or.inr ⟨by rfl, rfl⟩) (by assumption) ?_)
        | fail "take 2")
      try simp only [Act.put, List.setIfInBounds_toArray, List.set_cons_zero, List.set_cons_succ, List.getElem_toArray, List.getElem_cons_zero, List.getElem_cons_succ]
      (first
        | (refine wpAnyH_take (i := 3) (v := ?_) rfl (by kernel_rfl) (by kernel_rfl) (by kernel_rfl) (fun _ _ _ h => h) (Or.inl ⟨by rfl, ?_⟩) (by assumption) ?_
           rotate_left
           focus (intro wq hSq; (try dsimp only at hSq); go_simp; (try (with_reducible rfl)); done))
        | (refine wpAnyH_take (i := 3) (v := undef) rfl (by kernel_rfl) (by kernel_rfl) (by kernel_rfl) (fun _ _ _ h => h) (Or.inr ⟨by rfl, rfl⟩) (by assumption) ?_)
        | fail "take 3")
      try simp only [Act.put, List.setIfInBounds_toArray, List.set_cons_zero, List.set_cons_succ, List.getElem_toArray, List.getElem_cons_zero, List.getElem_cons_succ]
      (first
        | (refine wpAnyH_take (i := 4) (v := ?_) rfl (by kernel_rfl) (by kernel_rfl) (by kernel_rfl) (fun _ _ _ h => h) (Or.inl ⟨by rfl, ?_⟩) (by assumption) ?_
           rotate_left
           focus (intro wq hSq; (try dsimp only at hSq); go_simp; (try (with_reducible rfl)); done))
        | (refine wpAnyH_take (i := 4) (v := undef) rfl (by kernel_rfl) (by kernel_rfl) (by kernel_rfl) (fun _ _ _ h => h) (Or.inr ⟨by rfl, rfl⟩) (by assumption) ?_)
        | fail "take 4")
      try simp only [Act.put, List.setIfInBounds_toArray, List.set_cons_zero, List.set_cons_succ, List.getElem_toArray, List.getElem_cons_zero, List.getElem_cons_succ]
      refine wpAnyH_ready (rs := [0]) (by kernel_rfl) (by simp) ?_
      refine AllReadyH.cons (o := _) rfl (fun K hK => ?_) AllReadyH.nil
      go_simp
      refine (HKi.out _).mono ?_; rintro e w1 ⟨⟨b1, rfl, hb1l, hcell⟩, hb1'⟩; have hb1 : Below w.heap.size w w1 := (Below.refl _ _).drew.trans hb1'
      refine hK.out _ _ ?_ (fun hHeld => ?_)
      · exact e1 hb1
      clear hK K
      try simp only [Act.put, List.setIfInBounds_toArray, List.set_cons_zero, List.set_cons_succ, List.getElem_toArray, List.getElem_cons_zero, List.getElem_cons_succ]
      (first
        | (refine wpAnyH_take (i := 5) (v := ?_) rfl (by kernel_rfl) (by kernel_rfl) (by kernel_rfl) (fun _ _ _ h => h) (Or.inl ⟨by rfl, ?_⟩) (by assumption) ?_
           rotate_left
           focus (intro wq hSq; (try dsimp only at hSq); go_simp; (try (with_reducible rfl)); done))
        | (refine wpAnyH_take (i := 5) (v := undef) rfl (by kernel_rfl) (by kernel_rfl) (by kernel_rfl) (fun _ _ _ h => h) (Or.inr ⟨by rfl, rfl⟩) (by assumption) ?_)
        | fail "take 5")
      try simp only [Act.put, List.setIfInBounds_toArray, List.set_cons_zero, List.set_cons_succ, List.getElem_toArray, List.getElem_cons_zero, List.getElem_cons_succ]
      refine wpAnyH_ready (rs := [6]) (by kernel_rfl) (by simp) ?_
      refine AllReadyH.cons (o := _) rfl (fun K hK => ?_) AllReadyH.nil
      go_simp
      skip
      refine hK.out _ _ ?_ (fun hHeld => ?_)
      · exact e1 hb1
      clear hK K
      try simp only [Act.put, List.setIfInBounds_toArray, List.set_cons_zero, List.set_cons_succ, List.getElem_toArray, List.getElem_cons_zero, List.getElem_cons_succ]
      (first
        | (refine wpAnyH_take (i := 7) (v := ?_) rfl (by kernel_rfl) (by kernel_rfl) (by kernel_rfl) (fun _ _ _ h => h) (Or.inl ⟨by rfl, ?_⟩) (by assumption) ?_
           rotate_left
           focus (intro wq hSq; (try dsimp only at hSq); go_simp; (try (with_reducible rfl)); done))
        | (refine wpAnyH_take (i := 7) (v := undef) rfl (by kernel_rfl) (by kernel_rfl) (by kernel_rfl) (fun _ _ _ h => h) (Or.inr ⟨by rfl, rfl⟩) (by assumption) ?_)
        | fail "take 7")
      try simp only [Act.put, List.setIfInBounds_toArray, List.set_cons_zero, List.set_cons_succ, List.getElem_toArray, List.getElem_cons_zero, List.getElem_cons_succ]
      refine wpAnyH_done (by kernel_rfl) ?_ _
      clear hHeld hb1' hcell e1
      go_wp2_with fail
      go_loopw [3, 4] (fun y i wr => ∃ k : Nat, k ≤ 0 ∧ i = .int .i64 k ∧ y = .string (T ++ grpT x.gs k) ∧ Below w.heap.size w wr) (fun _ i _ => 0 - (intOf i).toNat)
      case atStart => exact ⟨0, Nat.zero_le _, rfl, congrArg Value.string (bempty _).symm, hb1⟩
      case round =>
        clear hb1
        obtain ⟨k, hk', rfl, rfl, hbw⟩ := hrel
        have hgl := grpT_len Hgs.out k
        obtain ⟨d0, d1, d2, d3, d4, hb', sl1, -, -, -⟩ := (HP.out).next hbw
        rw [Hkn.out] at d0
        clear c0 c1 c2 c3 c4
        have kk0 : (0 : Int) ≤ (k : Int) := by omega
        by_cases hlt : k < 0
        · exact absurd hlt (by omega)
        · obtain rfl : k = 0 := by omega
          have hSl : (T ++ grpT x.gs 0).size ≤ 100 := by rw [ByteArray.size_append]; omega
          obtain ⟨S, hS⟩ : ∃ S, T ++ grpT x.gs 0 = S := ⟨_, rfl⟩
          rw [hS] at hSl ⊢
          have HS := Lib.hid hS; clear hS
          obtain ⟨Z, hZ⟩ : ∃ Z, secT x.p ++ (⟨#[115]⟩ : ByteArray) = Z := ⟨_, rfl⟩
          have hSe := HSe.out
          rw [hZ] at hSe
          have HSe2 := Lib.hid hSe; clear hSe
          have HZ := Lib.hid hZ; clear hZ
          have hZs : Z.size ≤ 60 := by
            rw [← HZ.out, ByteArray.size_append]
            have : (⟨#[115]⟩ : ByteArray).size = 1 := rfl
            omega
          have v1 : ¬ 9223372036854775807 < 1 + x.cs.size := by omega
          have v2 : ¬ 9223372036854775807 < 1 + Z.size := by omega
          have v3 : ¬ 9223372036854775807 < S.size + 1 := by omega
          have v4 : ¬ 9223372036854775807 < S.size + 1 + 4 := by omega
          have v5 : ¬ 9223372036854775807 < S.size + (1 + x.cs.size) := by omega
          have v6 : ¬ 9223372036854775807 < S.size + 1 + (1 + x.cs.size) := by omega
          have v7 : ¬ 9223372036854775807 < S.size + 1 + 4 + (1 + x.cs.size) := by omega
          have v8 : ¬ 9223372036854775807 < S.size + (1 + x.cs.size) + (1 + Z.size) := by omega
          have v9 : ¬ 9223372036854775807 < S.size + 1 + (1 + x.cs.size) + (1 + Z.size) := by omega
          have v10 : ¬ 9223372036854775807 < S.size + 1 + 4 + (1 + x.cs.size) + (1 + Z.size) := by omega
          by_cases hp : x.p = 0
          · have hF : charT x = S ++ (⟨#[32]⟩ ++ x.cs) := by rw [HC.out, HS.out, hp, perT, if_pos rfl, bempty]
            have hpn : ¬ 0 < x.p := by omega
            have HF := Lib.hid hF; clear hF
            have Hp := Lib.hid hp; clear hp
            go_wp2_with fail
            go_ret
            exact ⟨ret_eq (congrArg Value.string HF.out.symm), hbw⟩
          · have hF : charT x = S ++ (⟨#[32]⟩ ++ x.cs) ++ (⟨#[32]⟩ ++ Z) := by
              rw [HC.out, HS.out, perT, if_neg hp, HZ.out]
              simp only [bassoc]
            have hpp : 0 < x.p := by omega
            have HF := Lib.hid hF; clear hF
            have Hp := Lib.hid hp; clear hp
            go_wp2_with fail
            refine (HSe2.out _).mono ?_
            rintro e w6 ⟨rfl, hb6⟩
            go_wp2_with fail
            go_ret
            exact ⟨ret_eq (congrArg Value.string HF.out.symm), hbw.trans (hb6.mono hbw.size)⟩
    · have hng : x.gs ≠ [] := fun e => hn0 (by rw [← hl, e]; rfl)
      have hnn : 0 < n := by omega
      have hnp : (0 : Int) < (n : Int) := by omega
      have hn4 : n ≤ 4 := by omega
      rcases Hn8.out Hk8n.out with ⟨hLb, -⟩ | ⟨hLb, hE⟩
      · have hC : charT x = T ++ grpT x.gs n ++ ⟨#[41]⟩ ++ ⟨#[43, 76, 70, 108]⟩ ++ (⟨#[32]⟩ ++ (x.cs ++ perT x.p)) := by
          rw [charT, headT, if_neg Hk8n.out, HT.out, grpX, if_neg hng, ltrX, if_pos hLb, hl]
          simp only [bassoc]
        have hLb' : (x.l.toList == [76]) = true := hLb
        have HC := Lib.hid hC; clear hC
        have Hng := Lib.hid hng; clear hng
        have HLb := Lib.hid hLb; clear hLb
        have Hl := Lib.hid hl; clear hl
        have Hn0 := Lib.hid hn0; clear hn0
        go_enter Tryd.func14, Tryd.ntmps14
        go_wp2_with fail
        refine wp_region_held_drew (S := fun w' => Below w.heap.size w w' ∧ (∀ i, w'.cell? ⟨b, i, none⟩ = w.cell? ⟨b, i, none⟩)) (by kernel_rfl) (e1 (Below.refl _ _).drew) (fun hHeld => ?_)
        (first
          | (refine wpAnyH_take (i := 1) (v := ?_) rfl (by kernel_rfl) (by kernel_rfl) (by kernel_rfl) (fun _ _ _ h => h) (Or.inl ⟨by rfl, ?_⟩) (by assumption) ?_
             rotate_left
             focus (intro wq hSq; (try dsimp only at hSq); go_simp; (try (with_reducible rfl)); done))
          | (refine wpAnyH_take (i := 1) (v := undef) rfl (by kernel_rfl) (by kernel_rfl) (by kernel_rfl) (fun _ _ _ h => h) (Or.inr ⟨by rfl, rfl⟩) (by assumption) ?_)
          | fail "take 1")
        try simp only [Act.put, List.setIfInBounds_toArray, List.set_cons_zero, List.set_cons_succ, List.getElem_toArray, List.getElem_cons_zero, List.getElem_cons_succ]
        (first
          | (refine wpAnyH_take (i := 2) (v := ?_) rfl (by kernel_rfl) (by kernel_rfl) (by kernel_rfl) (fun _ _ _ h => h) (Or.inl ⟨by rfl, ?_⟩) (by assumption) ?_
             rotate_left
             focus (intro wq hSq; (try dsimp only at hSq); go_simp; (try (with_reducible rfl)); done))
          | (refine wpAnyH_take (i := 2) (v := undef) rfl (by kernel_rfl) (by kernel_rfl) (by kernel_rfl) (fun _ _ _ h => h) (Or.inr ⟨by rfl, rfl⟩) (by assumption) ?_)
          | fail "take 2")
        try simp only [Act.put, List.setIfInBounds_toArray, List.set_cons_zero, List.set_cons_succ, List.getElem_toArray, List.getElem_cons_zero, List.getElem_cons_succ]
        (first
          | (refine wpAnyH_take (i := 3) (v := ?_) rfl (by kernel_rfl) (by kernel_rfl) (by kernel_rfl) (fun _ _ _ h => h) (Or.inl ⟨by rfl, ?_⟩) (by assumption) ?_
             rotate_left
             focus (intro wq hSq; (try dsimp only at hSq); go_simp; (try (with_reducible rfl)); done))
          | (refine wpAnyH_take (i := 3) (v := undef) rfl (by kernel_rfl) (by kernel_rfl) (by kernel_rfl) (fun _ _ _ h => h) (Or.inr ⟨by rfl, rfl⟩) (by assumption) ?_)
          | fail "take 3")
        try simp only [Act.put, List.setIfInBounds_toArray, List.set_cons_zero, List.set_cons_succ, List.getElem_toArray, List.getElem_cons_zero, List.getElem_cons_succ]
        (first
          | (refine wpAnyH_take (i := 4) (v := ?_) rfl (by kernel_rfl) (by kernel_rfl) (by kernel_rfl) (fun _ _ _ h => h) (Or.inl ⟨by rfl, ?_⟩) (by assumption) ?_
             rotate_left
             focus (intro wq hSq; (try dsimp only at hSq); go_simp; (try (with_reducible rfl)); done))
          | (refine wpAnyH_take (i := 4) (v := undef) rfl (by kernel_rfl) (by kernel_rfl) (by kernel_rfl) (fun _ _ _ h => h) (Or.inr ⟨by rfl, rfl⟩) (by assumption) ?_)
          | fail "take 4")
        try simp only [Act.put, List.setIfInBounds_toArray, List.set_cons_zero, List.set_cons_succ, List.getElem_toArray, List.getElem_cons_zero, List.getElem_cons_succ]
        refine wpAnyH_ready (rs := [0]) (by kernel_rfl) (by simp) ?_
        refine AllReadyH.cons (o := _) rfl (fun K hK => ?_) AllReadyH.nil
        go_simp
        refine (HKi.out _).mono ?_; rintro e w1 ⟨⟨b1, rfl, hb1l, hcell⟩, hb1'⟩; have hb1 : Below w.heap.size w w1 := (Below.refl _ _).drew.trans hb1'
        refine hK.out _ _ ?_ (fun hHeld => ?_)
        · exact e1 hb1
        clear hK K
        try simp only [Act.put, List.setIfInBounds_toArray, List.set_cons_zero, List.set_cons_succ, List.getElem_toArray, List.getElem_cons_zero, List.getElem_cons_succ]
        (first
          | (refine wpAnyH_take (i := 5) (v := ?_) rfl (by kernel_rfl) (by kernel_rfl) (by kernel_rfl) (fun _ _ _ h => h) (Or.inl ⟨by rfl, ?_⟩) (by assumption) ?_
             rotate_left
             focus (intro wq hSq; (try dsimp only at hSq); go_simp; (try (with_reducible rfl)); done))
          | (refine wpAnyH_take (i := 5) (v := undef) rfl (by kernel_rfl) (by kernel_rfl) (by kernel_rfl) (fun _ _ _ h => h) (Or.inr ⟨by rfl, rfl⟩) (by assumption) ?_)
          | fail "take 5")
        try simp only [Act.put, List.setIfInBounds_toArray, List.set_cons_zero, List.set_cons_succ, List.getElem_toArray, List.getElem_cons_zero, List.getElem_cons_succ]
        refine wpAnyH_ready (rs := [6]) (by kernel_rfl) (by simp) ?_
        refine AllReadyH.cons (o := _) rfl (fun K hK => ?_) AllReadyH.nil
        go_simp
        skip
        refine hK.out _ _ ?_ (fun hHeld => ?_)
        · exact e1 hb1
        clear hK K
        try simp only [Act.put, List.setIfInBounds_toArray, List.set_cons_zero, List.set_cons_succ, List.getElem_toArray, List.getElem_cons_zero, List.getElem_cons_succ]
        (first
          | (refine wpAnyH_take (i := 7) (v := ?_) rfl (by kernel_rfl) (by kernel_rfl) (by kernel_rfl) (fun _ _ _ h => h) (Or.inl ⟨by rfl, ?_⟩) (by assumption) ?_
             rotate_left
             focus (intro wq hSq; (try dsimp only at hSq); go_simp; (try (with_reducible rfl)); done))
          | (refine wpAnyH_take (i := 7) (v := undef) rfl (by kernel_rfl) (by kernel_rfl) (by kernel_rfl) (fun _ _ _ h => h) (Or.inr ⟨by rfl, rfl⟩) (by assumption) ?_)
          | fail "take 7")
        try simp only [Act.put, List.setIfInBounds_toArray, List.set_cons_zero, List.set_cons_succ, List.getElem_toArray, List.getElem_cons_zero, List.getElem_cons_succ]
        refine wpAnyH_done (by kernel_rfl) ?_ _
        clear hHeld hb1' hcell e1
        go_wp2_with fail
        go_loopw [3, 4] (fun y i wr => ∃ k : Nat, k ≤ n ∧ i = .int .i64 k ∧ y = .string (T ++ grpT x.gs k) ∧ Below w.heap.size w wr) (fun _ i _ => n - (intOf i).toNat)
        case atStart => exact ⟨0, Nat.zero_le _, rfl, congrArg Value.string (bempty _).symm, hb1⟩
        case round =>
          clear hb1
          obtain ⟨k, hk', rfl, rfl, hbw⟩ := hrel
          have hgl := grpT_len Hgs.out k
          obtain ⟨d0, d1, d2, d3, d4, hb', sl1, -, -, -⟩ := (HP.out).next hbw
          rw [Hkn.out] at d0
          clear c0 c1 c2 c3 c4
          have kk0 : (0 : Int) ≤ (k : Int) := by omega
          by_cases hlt : k < n
          · have kk1 : (k : Int) < ((n : Nat) : Int) := by omega
            obtain ⟨b2, off2, v, hA, hbb, hxv, cv⟩ := sl1.int k hlt
            have hvb := Hgs.out v (List.mem_of_getElem? hxv)
            have hdl := decB_lenC v (by omega) (by omega)
            have hSl : (T ++ grpT x.gs k).size ≤ 100 := by rw [ByteArray.size_append]; omega
            have hD : ∀ w1, Calls Tryd.prog 28 #[.int .i64 v] w1 fun e w' => e = .returned (.string (decB v)) ∧ Below w1.heap.size w1 w' := fun w1 => l01Dec_c v w1 (by omega) (by omega)
            have hgd : x.gs.getD k 0 = v := by rw [List.getD_eq_getElem?_getD, hxv]; rfl
            have hnx : T ++ grpT x.gs (k + 1) = (T ++ grpT x.gs k) ++ ((if k = 0 then ⟨#[40]⟩ else ⟨#[43]⟩) ++ decB v) := by rw [grpT, hgd, ← bassoc]
            obtain ⟨S, hS⟩ : ∃ S, T ++ grpT x.gs k = S := ⟨_, rfl⟩
            rw [hS] at hSl hnx ⊢
            have q1 : ¬ 9223372036854775807 < 1 + (decB v).size := by omega
            have q2 : ¬ 9223372036854775807 < S.size + (1 + (decB v).size) := by omega
            have HD := Lib.hid hD; clear hD
            have Hnx := Lib.hid hnx; clear hnx
            have HS := Lib.hid hS; clear hS
            have Hxv := Lib.hid hxv; clear hxv
            have Hgd := Lib.hid hgd; clear hgd
            subst hA
            by_cases hkz : k = 0
            · have hke : ((k : Int) == 0) = true := by simp; omega
              have hnx := Hnx.out
              rw [if_pos hkz] at hnx
              have HN2 := Lib.hid hnx; clear hnx
              have Hkz := Lib.hid hkz; clear hkz
              go_wp2_with fail
              refine (HD.out _).mono ?_
              rintro e w5 ⟨rfl, hb5⟩
              go_wp2_with fail
              go_roundw
              case rel => exact ⟨k + 1, by omega, by go_num, congrArg Value.string HN2.out.symm, hbw.trans (hb5.mono hbw.size)⟩
              case measure => simp [intOf]; omega
            · have hke : ((k : Int) == 0) = false := by simp; omega
              have hnx := Hnx.out
              rw [if_neg hkz] at hnx
              have HN2 := Lib.hid hnx; clear hnx
              have Hkz := Lib.hid hkz; clear hkz
              go_wp2_with fail
              refine (HD.out _).mono ?_
              rintro e w5 ⟨rfl, hb5⟩
              go_wp2_with fail
              go_roundw
              case rel => exact ⟨k + 1, by omega, by go_num, congrArg Value.string HN2.out.symm, hbw.trans (hb5.mono hbw.size)⟩
              case measure => simp [intOf]; omega
          · obtain rfl : k = n := by omega
            have hSl : (T ++ grpT x.gs k).size ≤ 100 := by rw [ByteArray.size_append]; omega
            obtain ⟨S, hS⟩ : ∃ S, T ++ grpT x.gs k = S := ⟨_, rfl⟩
            rw [hS] at hSl ⊢
            have HS := Lib.hid hS; clear hS
            obtain ⟨Z, hZ⟩ : ∃ Z, secT x.p ++ (⟨#[115]⟩ : ByteArray) = Z := ⟨_, rfl⟩
            have hSe := HSe.out
            rw [hZ] at hSe
            have HSe2 := Lib.hid hSe; clear hSe
            have HZ := Lib.hid hZ; clear hZ
            have hZs : Z.size ≤ 60 := by
              rw [← HZ.out, ByteArray.size_append]
              have : (⟨#[115]⟩ : ByteArray).size = 1 := rfl
              omega
            have v1 : ¬ 9223372036854775807 < 1 + x.cs.size := by omega
            have v2 : ¬ 9223372036854775807 < 1 + Z.size := by omega
            have v3 : ¬ 9223372036854775807 < S.size + 1 := by omega
            have v4 : ¬ 9223372036854775807 < S.size + 1 + 4 := by omega
            have v5 : ¬ 9223372036854775807 < S.size + (1 + x.cs.size) := by omega
            have v6 : ¬ 9223372036854775807 < S.size + 1 + (1 + x.cs.size) := by omega
            have v7 : ¬ 9223372036854775807 < S.size + 1 + 4 + (1 + x.cs.size) := by omega
            have v8 : ¬ 9223372036854775807 < S.size + (1 + x.cs.size) + (1 + Z.size) := by omega
            have v9 : ¬ 9223372036854775807 < S.size + 1 + (1 + x.cs.size) + (1 + Z.size) := by omega
            have v10 : ¬ 9223372036854775807 < S.size + 1 + 4 + (1 + x.cs.size) + (1 + Z.size) := by omega
            by_cases hp : x.p = 0
            · have hF : charT x = S ++ ⟨#[41]⟩ ++ ⟨#[43, 76, 70, 108]⟩ ++ (⟨#[32]⟩ ++ x.cs) := by rw [HC.out, HS.out, hp, perT, if_pos rfl, bempty]
              have hpn : ¬ 0 < x.p := by omega
              have HF := Lib.hid hF; clear hF
              have Hp := Lib.hid hp; clear hp
              go_wp2_with fail
              go_ret
              exact ⟨ret_eq (congrArg Value.string HF.out.symm), hbw⟩
            · have hF : charT x = S ++ ⟨#[41]⟩ ++ ⟨#[43, 76, 70, 108]⟩ ++ (⟨#[32]⟩ ++ x.cs) ++ (⟨#[32]⟩ ++ Z) := by
                rw [HC.out, HS.out, perT, if_neg hp, HZ.out]
                simp only [bassoc]
              have hpp : 0 < x.p := by omega
              have HF := Lib.hid hF; clear hF
              have Hp := Lib.hid hp; clear hp
              go_wp2_with fail
              refine (HSe2.out _).mono ?_
              rintro e w6 ⟨rfl, hb6⟩
              go_wp2_with fail
              go_ret
              exact ⟨ret_eq (congrArg Value.string HF.out.symm), hbw.trans (hb6.mono hbw.size)⟩
      · have hC : charT x = T ++ grpT x.gs n ++ ⟨#[41]⟩ ++ (⟨#[32]⟩ ++ (x.cs ++ perT x.p)) := by
          rw [charT, headT, if_neg Hk8n.out, HT.out, grpX, if_neg hng, ltrX, if_neg (by rw [hLb]; simp), hl]
          simp only [bassoc, bempty]
        have hLb' : (x.l.toList == [76]) = false := hLb
        have HC := Lib.hid hC; clear hC
        have Hng := Lib.hid hng; clear hng
        have HLb := Lib.hid hLb; clear hLb
        have HE := Lib.hid hE; clear hE
        have Hl := Lib.hid hl; clear hl
        have Hn0 := Lib.hid hn0; clear hn0
        go_enter Tryd.func14, Tryd.ntmps14
        go_wp2_with fail
        refine wp_region_held_drew (S := fun w' => Below w.heap.size w w' ∧ (∀ i, w'.cell? ⟨b, i, none⟩ = w.cell? ⟨b, i, none⟩)) (by kernel_rfl) (e1 (Below.refl _ _).drew) (fun hHeld => ?_)
        (first
          | (refine wpAnyH_take (i := 1) (v := ?_) rfl (by kernel_rfl) (by kernel_rfl) (by kernel_rfl) (fun _ _ _ h => h) (Or.inl ⟨by rfl, ?_⟩) (by assumption) ?_
             rotate_left
             focus (intro wq hSq; (try dsimp only at hSq); go_simp; (try (with_reducible rfl)); done))
          | (refine wpAnyH_take (i := 1) (v := undef) rfl (by kernel_rfl) (by kernel_rfl) (by kernel_rfl) (fun _ _ _ h => h) (Or.inr ⟨by rfl, rfl⟩) (by assumption) ?_)
          | fail "take 1")
        try simp only [Act.put, List.setIfInBounds_toArray, List.set_cons_zero, List.set_cons_succ, List.getElem_toArray, List.getElem_cons_zero, List.getElem_cons_succ]
        (first
          | (refine wpAnyH_take (i := 2) (v := ?_) rfl (by kernel_rfl) (by kernel_rfl) (by kernel_rfl) (fun _ _ _ h => h) (Or.inl ⟨by rfl, ?_⟩) (by assumption) ?_
             rotate_left
             focus (intro wq hSq; (try dsimp only at hSq); go_simp; (try (with_reducible rfl)); done))
          | (refine wpAnyH_take (i := 2) (v := undef) rfl (by kernel_rfl) (by kernel_rfl) (by kernel_rfl) (fun _ _ _ h => h) (Or.inr ⟨by rfl, rfl⟩) (by assumption) ?_)
          | fail "take 2")
        try simp only [Act.put, List.setIfInBounds_toArray, List.set_cons_zero, List.set_cons_succ, List.getElem_toArray, List.getElem_cons_zero, List.getElem_cons_succ]
        (first
          | (refine wpAnyH_take (i := 3) (v := ?_) rfl (by kernel_rfl) (by kernel_rfl) (by kernel_rfl) (fun _ _ _ h => h) (Or.inl ⟨by rfl, ?_⟩) (by assumption) ?_
             rotate_left
             focus (intro wq hSq; (try dsimp only at hSq); go_simp; (try (with_reducible rfl)); done))
          | (refine wpAnyH_take (i := 3) (v := undef) rfl (by kernel_rfl) (by kernel_rfl) (by kernel_rfl) (fun _ _ _ h => h) (Or.inr ⟨by rfl, rfl⟩) (by assumption) ?_)
          | fail "take 3")
        try simp only [Act.put, List.setIfInBounds_toArray, List.set_cons_zero, List.set_cons_succ, List.getElem_toArray, List.getElem_cons_zero, List.getElem_cons_succ]
        (first
          | (refine wpAnyH_take (i := 4) (v := ?_) rfl (by kernel_rfl) (by kernel_rfl) (by kernel_rfl) (fun _ _ _ h => h) (Or.inl ⟨by rfl, ?_⟩) (by assumption) ?_
             rotate_left
             focus (intro wq hSq; (try dsimp only at hSq); go_simp; (try (with_reducible rfl)); done))
          | (refine wpAnyH_take (i := 4) (v := undef) rfl (by kernel_rfl) (by kernel_rfl) (by kernel_rfl) (fun _ _ _ h => h) (Or.inr ⟨by rfl, rfl⟩) (by assumption) ?_)
          | fail "take 4")
        try simp only [Act.put, List.setIfInBounds_toArray, List.set_cons_zero, List.set_cons_succ, List.getElem_toArray, List.getElem_cons_zero, List.getElem_cons_succ]
        refine wpAnyH_ready (rs := [0]) (by kernel_rfl) (by simp) ?_
        refine AllReadyH.cons (o := _) rfl (fun K hK => ?_) AllReadyH.nil
        go_simp
        refine (HKi.out _).mono ?_; rintro e w1 ⟨⟨b1, rfl, hb1l, hcell⟩, hb1'⟩; have hb1 : Below w.heap.size w w1 := (Below.refl _ _).drew.trans hb1'
        refine hK.out _ _ ?_ (fun hHeld => ?_)
        · exact e1 hb1
        clear hK K
        try simp only [Act.put, List.setIfInBounds_toArray, List.set_cons_zero, List.set_cons_succ, List.getElem_toArray, List.getElem_cons_zero, List.getElem_cons_succ]
        (first
          | (refine wpAnyH_take (i := 5) (v := ?_) rfl (by kernel_rfl) (by kernel_rfl) (by kernel_rfl) (fun _ _ _ h => h) (Or.inl ⟨by rfl, ?_⟩) (by assumption) ?_
             rotate_left
             focus (intro wq hSq; (try dsimp only at hSq); go_simp; (try (with_reducible rfl)); done))
          | (refine wpAnyH_take (i := 5) (v := undef) rfl (by kernel_rfl) (by kernel_rfl) (by kernel_rfl) (fun _ _ _ h => h) (Or.inr ⟨by rfl, rfl⟩) (by assumption) ?_)
          | fail "take 5")
        try simp only [Act.put, List.setIfInBounds_toArray, List.set_cons_zero, List.set_cons_succ, List.getElem_toArray, List.getElem_cons_zero, List.getElem_cons_succ]
        refine wpAnyH_ready (rs := [6]) (by kernel_rfl) (by simp) ?_
        refine AllReadyH.cons (o := _) rfl (fun K hK => ?_) AllReadyH.nil
        go_simp
        skip
        refine hK.out _ _ ?_ (fun hHeld => ?_)
        · exact e1 hb1
        clear hK K
        try simp only [Act.put, List.setIfInBounds_toArray, List.set_cons_zero, List.set_cons_succ, List.getElem_toArray, List.getElem_cons_zero, List.getElem_cons_succ]
        (first
          | (refine wpAnyH_take (i := 7) (v := ?_) rfl (by kernel_rfl) (by kernel_rfl) (by kernel_rfl) (fun _ _ _ h => h) (Or.inl ⟨by rfl, ?_⟩) (by assumption) ?_
             rotate_left
             focus (intro wq hSq; (try dsimp only at hSq); go_simp; (try (with_reducible rfl)); done))
          | (refine wpAnyH_take (i := 7) (v := undef) rfl (by kernel_rfl) (by kernel_rfl) (by kernel_rfl) (fun _ _ _ h => h) (Or.inr ⟨by rfl, rfl⟩) (by assumption) ?_)
          | fail "take 7")
        try simp only [Act.put, List.setIfInBounds_toArray, List.set_cons_zero, List.set_cons_succ, List.getElem_toArray, List.getElem_cons_zero, List.getElem_cons_succ]
        refine wpAnyH_done (by kernel_rfl) ?_ _
        clear hHeld hb1' hcell e1
        go_wp2_with fail
        go_loopw [3, 4] (fun y i wr => ∃ k : Nat, k ≤ n ∧ i = .int .i64 k ∧ y = .string (T ++ grpT x.gs k) ∧ Below w.heap.size w wr) (fun _ i _ => n - (intOf i).toNat)
        case atStart => exact ⟨0, Nat.zero_le _, rfl, congrArg Value.string (bempty _).symm, hb1⟩
        case round =>
          clear hb1
          obtain ⟨k, hk', rfl, rfl, hbw⟩ := hrel
          have hgl := grpT_len Hgs.out k
          obtain ⟨d0, d1, d2, d3, d4, hb', sl1, -, -, -⟩ := (HP.out).next hbw
          rw [Hkn.out] at d0
          clear c0 c1 c2 c3 c4
          have kk0 : (0 : Int) ≤ (k : Int) := by omega
          by_cases hlt : k < n
          · have kk1 : (k : Int) < ((n : Nat) : Int) := by omega
            obtain ⟨b2, off2, v, hA, hbb, hxv, cv⟩ := sl1.int k hlt
            have hvb := Hgs.out v (List.mem_of_getElem? hxv)
            have hdl := decB_lenC v (by omega) (by omega)
            have hSl : (T ++ grpT x.gs k).size ≤ 100 := by rw [ByteArray.size_append]; omega
            have hD : ∀ w1, Calls Tryd.prog 28 #[.int .i64 v] w1 fun e w' => e = .returned (.string (decB v)) ∧ Below w1.heap.size w1 w' := fun w1 => l01Dec_c v w1 (by omega) (by omega)
            have hgd : x.gs.getD k 0 = v := by rw [List.getD_eq_getElem?_getD, hxv]; rfl
            have hnx : T ++ grpT x.gs (k + 1) = (T ++ grpT x.gs k) ++ ((if k = 0 then ⟨#[40]⟩ else ⟨#[43]⟩) ++ decB v) := by rw [grpT, hgd, ← bassoc]
            obtain ⟨S, hS⟩ : ∃ S, T ++ grpT x.gs k = S := ⟨_, rfl⟩
            rw [hS] at hSl hnx ⊢
            have q1 : ¬ 9223372036854775807 < 1 + (decB v).size := by omega
            have q2 : ¬ 9223372036854775807 < S.size + (1 + (decB v).size) := by omega
            have HD := Lib.hid hD; clear hD
            have Hnx := Lib.hid hnx; clear hnx
            have HS := Lib.hid hS; clear hS
            have Hxv := Lib.hid hxv; clear hxv
            have Hgd := Lib.hid hgd; clear hgd
            subst hA
            by_cases hkz : k = 0
            · have hke : ((k : Int) == 0) = true := by simp; omega
              have hnx := Hnx.out
              rw [if_pos hkz] at hnx
              have HN2 := Lib.hid hnx; clear hnx
              have Hkz := Lib.hid hkz; clear hkz
              go_wp2_with fail
              refine (HD.out _).mono ?_
              rintro e w5 ⟨rfl, hb5⟩
              go_wp2_with fail
              go_roundw
              case rel => exact ⟨k + 1, by omega, by go_num, congrArg Value.string HN2.out.symm, hbw.trans (hb5.mono hbw.size)⟩
              case measure => simp [intOf]; omega
            · have hke : ((k : Int) == 0) = false := by simp; omega
              have hnx := Hnx.out
              rw [if_neg hkz] at hnx
              have HN2 := Lib.hid hnx; clear hnx
              have Hkz := Lib.hid hkz; clear hkz
              go_wp2_with fail
              refine (HD.out _).mono ?_
              rintro e w5 ⟨rfl, hb5⟩
              go_wp2_with fail
              go_roundw
              case rel => exact ⟨k + 1, by omega, by go_num, congrArg Value.string HN2.out.symm, hbw.trans (hb5.mono hbw.size)⟩
              case measure => simp [intOf]; omega
          · obtain rfl : k = n := by omega
            have hSl : (T ++ grpT x.gs k).size ≤ 100 := by rw [ByteArray.size_append]; omega
            obtain ⟨S, hS⟩ : ∃ S, T ++ grpT x.gs k = S := ⟨_, rfl⟩
            rw [hS] at hSl ⊢
            have HS := Lib.hid hS; clear hS
            obtain ⟨Z, hZ⟩ : ∃ Z, secT x.p ++ (⟨#[115]⟩ : ByteArray) = Z := ⟨_, rfl⟩
            have hSe := HSe.out
            rw [hZ] at hSe
            have HSe2 := Lib.hid hSe; clear hSe
            have HZ := Lib.hid hZ; clear hZ
            have hZs : Z.size ≤ 60 := by
              rw [← HZ.out, ByteArray.size_append]
              have : (⟨#[115]⟩ : ByteArray).size = 1 := rfl
              omega
            have v1 : ¬ 9223372036854775807 < 1 + x.cs.size := by omega
            have v2 : ¬ 9223372036854775807 < 1 + Z.size := by omega
            have v3 : ¬ 9223372036854775807 < S.size + 1 := by omega
            have v4 : ¬ 9223372036854775807 < S.size + 1 + 4 := by omega
            have v5 : ¬ 9223372036854775807 < S.size + (1 + x.cs.size) := by omega
            have v6 : ¬ 9223372036854775807 < S.size + 1 + (1 + x.cs.size) := by omega
            have v7 : ¬ 9223372036854775807 < S.size + 1 + 4 + (1 + x.cs.size) := by omega
            have v8 : ¬ 9223372036854775807 < S.size + (1 + x.cs.size) + (1 + Z.size) := by omega
            have v9 : ¬ 9223372036854775807 < S.size + 1 + (1 + x.cs.size) + (1 + Z.size) := by omega
            have v10 : ¬ 9223372036854775807 < S.size + 1 + 4 + (1 + x.cs.size) + (1 + Z.size) := by omega
            by_cases hp : x.p = 0
            · have hF : charT x = S ++ ⟨#[41]⟩ ++ (⟨#[32]⟩ ++ x.cs) := by rw [HC.out, HS.out, hp, perT, if_pos rfl, bempty]
              have hpn : ¬ 0 < x.p := by omega
              have HF := Lib.hid hF; clear hF
              have Hp := Lib.hid hp; clear hp
              go_wp2_with fail
              go_ret
              exact ⟨ret_eq (congrArg Value.string HF.out.symm), hbw⟩
            · have hF : charT x = S ++ ⟨#[41]⟩ ++ (⟨#[32]⟩ ++ x.cs) ++ (⟨#[32]⟩ ++ Z) := by
                rw [HC.out, HS.out, perT, if_neg hp, HZ.out]
                simp only [bassoc]
              have hpp : 0 < x.p := by omega
              have HF := Lib.hid hF; clear hF
              have Hp := Lib.hid hp; clear hp
              go_wp2_with fail
              refine (HSe2.out _).mono ?_
              rintro e w6 ⟨rfl, hb6⟩
              go_wp2_with fail
              go_ret
              exact ⟨ret_eq (congrArg Value.string HF.out.symm), hbw.trans (hb6.mono hbw.size)⟩
end Go.Proofs.YtomjdkjkdmieaaaDoor
