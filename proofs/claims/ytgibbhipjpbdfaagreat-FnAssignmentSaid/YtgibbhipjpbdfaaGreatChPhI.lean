
/- Phases of characters: the program's. -/
import Derived.Test.YtgibbhipjpbdfaaGreatChPhS
namespace Go.Proofs.YtgibbhipjpbdfaaGreat
open Go.RowKit
theorem steady_times {x : Ch} (h : validB x = true) (hs : steadyB x = true) (h1 : x.k ≠ 1) : (x.k = 6 ∨ x.k = 7) ∧ timesL x = [flashI x.k] ∧ flashR x.k = flashI x.k ∧ gapR x.k = gapI x.k := by
  have hsh := valid_shape h
  have hf : fitsB x = true := by simp [shapeB] at hsh; exact hsh.2
  have hk : (x.k = 6 ∨ x.k = 7) ∧ x.gs = [] := by simpa [steadyB, h1] using hs
  have hL : isL x.l = false := by
    unfold fitsB at hf
    rw [if_neg (by omega), if_neg (by omega), if_pos hk.1] at hf
    cases e : isL x.l
    · rfl
    · rw [if_pos e, hk.2] at hf; simp at hf
  refine ⟨hk.1, ?_, ?_, ?_⟩
  · rw [timesL, if_neg (by omega), hL, grp, if_pos hk.2]
    simp [outerT, innerT, stepT]
  · rcases hk.1 with e | e <;> rw [e] <;> rfl
  · rcases hk.1 with e | e <;> rw [e] <;> rfl
theorem phases_steady {x : Ch} (h : validB x = true) (hs : steadyB x = true) (h1 : x.k ≠ 1) (co : ByteArray) : phasesL x co = [⟨co, flashI x.k⟩, ⟨⟨#[]⟩, gapI x.k⟩] := by
  obtain ⟨hk, ht, _⟩ := steady_times h hs h1
  have hoc : ocB x = false := by simp [ocB]; omega
  rw [phasesL, if_neg h1, if_neg (by omega), if_pos hs, ht, hoc]
  rfl
theorem inner_odd (k : Int) (i : Nat) : ∀ m, 0 < m → (innerT k i m).length = 2 * m - (if i = 0 then 1 else 0)
  | 0, h => by omega
  | 1, _ => by
    rcases Nat.eq_zero_or_pos i with hi | hi
    · subst hi; simp [innerT, stepT]
    · rw [if_neg (by omega)]; simp [innerT, stepT, hi]
  | m + 2, _ => by
    rw [innerT_next, List.length_append, inner_odd k i (m + 1) (by omega)]
    simp [stepT]
    split <;> omega
theorem outer_odd (k : Int) {g : List Int} (hg : ∀ x ∈ g, 1 ≤ x ∧ x ≤ 9) : ∀ r, 0 < r → r ≤ g.length → (outerT k g r).length % 2 = 1
  | 0, h, _ => by omega
  | r + 1, _, hr => by
    have hx : g[r]? = some (g[r]'(by omega)) := List.getElem?_eq_getElem (by omega)
    have h9 := hg _ (List.mem_of_getElem? hx)
    rw [outerT_next k hx, List.length_append, inner_odd k r _ (by omega)]
    rcases Nat.eq_zero_or_pos r with h0 | h0
    · subst h0; simp [outerT]; omega
    · have := outer_odd k hg r h0 (by omega)
      rw [if_neg (by omega)]; omega
theorem mT_odd (s : ByteArray) : ∀ m, 0 < m → (mT s m).length % 2 = 1
  | 0, h => by omega
  | 1, _ => by simp [mT]
  | m + 2, _ => by
    have := mT_odd s (m + 1) (by omega)
    rw [mT_next, List.length_append]; simp; omega
theorem times_odd {x : Ch} (ht : TOk x) : (timesL x).length % 2 = 1 := by
  unfold timesL
  split
  · rename_i h8
    obtain ⟨h1, h2, h3⟩ := ht.mo h8
    have := morse_size (letN x) (by unfold letN; omega)
    exact mT_odd _ _ (by omega)
  · rename_i h8
    obtain ⟨g1, g4, g9⟩ := grp_ok h8 ht
    have := outer_odd x.k g9 (grp x).length (by omega) (Nat.le_refl _)
    rw [List.length_append]
    split <;> simp <;> omega
set_option maxRecDepth 100000 in
set_option maxHeartbeats 1000000 in
theorem phases_c (A : Option Addr) (n c : Nat) (x : Ch) (w : World) (sl : Sl w w.heap.size 1 A n (x.gs.flatMap intC)) (hn : n ≤ 1048576) (hlz : x.l.size ≤ 1048576) (hs : x.cs.size ≤ 1048576) (co : ByteArray) (hv : validB x = true) :
    Calls Tryz.prog 65 #[chV x.k A n c x.l x.cs x.p, .string co] w fun e w' => ∃ v, e = .returned v ∧ w'.ownsRow w.heap.size 118 2 v (phasesL x co).length ((phasesL x co).flatMap Ph.cells) ∧ Below w.heap.size w w' := by
  obtain ⟨q0, hi, hz0, hz1, hz2⟩ := info_parts phInfo
  have hsh := valid_shape hv
  have ht := shape_TOk hsh
  obtain ⟨v1, v2⟩ := valid_p hv
  have hb0 : Below w.heap.size w (w.alloc (.cells #[.int .i64 x.k, .slice A n c, .string x.l, .string x.cs, .int .i64 x.p] 60)) := by (repeat (first | (with_reducible assumption) | (with_reducible exact Below.refl _ _) | exact Nat.le_refl _ | exact Below.size (by with_reducible assumption) | (with_reducible refine Below.drew ?_) | (with_reducible refine below_drewN ?_ _) | (with_reducible refine Below.alloc ?_ ?_ _) | (with_reducible refine Below.setCell ?_ ?_ _) | (with_reducible refine le_alloc ?_ _) | (with_reducible refine le_set ?_ _ _) | (with_reducible refine le_drew ?_) | (with_reducible refine le_drewN ?_ _) | omega | (dsimp only; omega)))
  have sl0 := sl.next hb0
  by_cases h1 : x.k = 1
  · have hk1 : (x.k == 1) = true := by simpa using h1
    have hk2 : (x.k == 2) = false := by simp; omega
    have hL : phasesL x co = [⟨co, 10⟩] := by rw [phasesL, if_pos h1]
    rw [hL]
    have HL := Lib.hid hL; clear hL
    clear h1
    go_enter Tryz.func65, Tryz.ntmps65
    go_wp2_with (first | (go_at_call 88; refine (rhythm_c _ _).mono ?_; rintro e w9 ⟨rfl, rfl⟩) | (go_at_call 61; refine (isSteady_c A n c x _ sl0 hn hlz hs).mono ?_; rintro e w1 ⟨rfl, hb1⟩; have q1 := keepC hb1 w.heap.size (by simp); have sl1 := sl0.next hb1; have hbw1 := hb0.trans (hb1.mono (by simp))))
    go_ret
    exact ⟨_, rfl, own_litA _ _ _ #[.string co, .int .i64 10] 1 2 _ (by simp) hb0.size (by simp [maxLen]) rfl, by (repeat (first | (with_reducible assumption) | (with_reducible exact Below.refl _ _) | exact Nat.le_refl _ | exact Below.size (by with_reducible assumption) | (with_reducible refine Below.drew ?_) | (with_reducible refine below_drewN ?_ _) | (with_reducible refine Below.alloc ?_ ?_ _) | (with_reducible refine Below.setCell ?_ ?_ _) | (with_reducible refine le_alloc ?_ _) | (with_reducible refine le_set ?_ _ _) | (with_reducible refine le_drew ?_) | (with_reducible refine le_drewN ?_ _) | omega | (dsimp only; omega)))⟩
  have hk1 : (x.k == 1) = false := by simpa using h1
  by_cases h3 : x.k = 3
  · have hk3 : (x.k == 3) = true := by simpa using h3
    have hk2 : (x.k == 2) = false := by simp; omega
    have hL : phasesL x co = [⟨co, x.p / 2⟩, ⟨⟨#[]⟩, x.p / 2⟩] := by rw [phasesL, if_neg h1, if_pos h3]
    rw [hL]
    have HL := Lib.hid hL; clear hL
    clear h1 h3
    go_enter Tryz.func65, Tryz.ntmps65
    go_wp2_with (first | (go_at_call 88; refine (rhythm_c _ _).mono ?_; rintro e w9 ⟨rfl, rfl⟩) | (go_at_call 61; refine (isSteady_c A n c x _ sl0 hn hlz hs).mono ?_; rintro e w1 ⟨rfl, hb1⟩; have q1 := keepC hb1 w.heap.size (by simp); have sl1 := sl0.next hb1; have hbw1 := hb0.trans (hb1.mono (by simp))))
    go_ret
    exact ⟨_, rfl, own_litA _ _ _ #[.string co, .int .i64 (x.p / 2), .string ⟨#[]⟩, .int .i64 (x.p / 2)] 2 2 _ (by simp) hb0.size (by simp [maxLen]) rfl, by (repeat (first | (with_reducible assumption) | (with_reducible exact Below.refl _ _) | exact Nat.le_refl _ | exact Below.size (by with_reducible assumption) | (with_reducible refine Below.drew ?_) | (with_reducible refine below_drewN ?_ _) | (with_reducible refine Below.alloc ?_ ?_ _) | (with_reducible refine Below.setCell ?_ ?_ _) | (with_reducible refine le_alloc ?_ _) | (with_reducible refine le_set ?_ _ _) | (with_reducible refine le_drew ?_) | (with_reducible refine le_drewN ?_ _) | omega | (dsimp only; omega)))⟩
  have hk3 : (x.k == 3) = false := by simpa using h3
  cases hst : steadyB x
  · obtain ⟨b1, b2⟩ := times_bd ht
    have hodd := times_odd ht
    have hgk := valid_GK hv h1 h3
    have hb6 : ∀ y ∈ timesL x, -1000000 ≤ y ∧ y ≤ 1000000 := fun y hy => by have := b2 y hy; omega
    obtain ⟨s1, s2⟩ := sum_abs (gs := timesL x) hb6
    have hL : phasesL x co = altL co (ocB x) (timesL x) ++ [altP co (ocB x) (timesL x).length (x.p - (timesL x).sum)] := by
      rw [phasesL, if_neg h1, if_neg h3, if_neg (by rw [hst]; simp), altL_snoc]
    have hsub : IntKind.i64.wrap (x.p - (timesL x).sum) = x.p - (timesL x).sum := IntWalk.i64_in _ (by omega)
    have hlast : altP co (ocB x) (timesL x).length (x.p - (timesL x).sum) = ⟨bif ocB x then co else ⟨#[]⟩, x.p - (timesL x).sum⟩ := by
      rw [altP, litAt, decide_eq_true hodd]; cases ocB x <;> rfl
    rw [hlast] at hL
    have Hlast := Lib.hid hlast; clear hlast
    have HL := Lib.hid hL; clear hL
    have Hodd := Lib.hid hodd; clear hodd
    have Hgk := Lib.hid hgk; clear hgk
    have B2 := Lib.hid b2; clear b2
    have HB6 := Lib.hid hb6; clear hb6
    have Hsub := Lib.hid hsub; clear hsub
    clear h1 h3
    have hp0 := chp_box (c := c) 60 sl hn hlz hs
    cases hk2 : (x.k == 2)
    all_goals
      have hoc : ocB x = _ := hk2
      have Hoc := Lib.hid hoc; clear hoc
      go_enter Tryz.func65, Tryz.ntmps65
      go_wp2_with (go_at_call 88; refine (rhythm_c _ _).mono ?_; rintro e w9 ⟨rfl, rfl⟩)
      generalize w.alloc (.cells #[.int .i64 x.k, .slice A n c, .string x.l, .string x.cs, .int .i64 x.p] 60) = w0 at *
      obtain ⟨c0, c1, c2, c3, c4, hbs, _, _, _, _⟩ := hp0
      simp only [Nat.zero_add] at c0 c1 c2 c3 c4
      refine (isSteady_c A n c x _ sl0 hn hlz hs).mono ?_
      rintro e w1 ⟨rfl, hb1⟩
      have q1 := keepC hb1 w.heap.size hbs
      have z1 := Nat.lt_of_lt_of_le hbs hb1.size
      have sl1 := sl0.next hb1
      go_wp2_with fail
      have hbv : Below w1.heap.size w1 (w1.alloc (.cells #[] 118)) := by (repeat (first | (with_reducible assumption) | (with_reducible exact Below.refl _ _) | exact Nat.le_refl _ | exact Below.size (by with_reducible assumption) | (with_reducible refine Below.drew ?_) | (with_reducible refine below_drewN ?_ _) | (with_reducible refine Below.alloc ?_ ?_ _) | (with_reducible refine Below.setCell ?_ ?_ _) | (with_reducible refine le_alloc ?_ _) | (with_reducible refine le_set ?_ _ _) | (with_reducible refine le_drew ?_) | (with_reducible refine le_drewN ?_ _) | omega | (dsimp only; omega)))
      have hov := World.ownsRow_made (base := w0.heap.size) (e := 118) (size := 2) w1 #[] 0 hb1.size (by simp [maxLen]) rfl
      have sl2 := sl1.next hbv
      have hbw1 := hb1.trans (hbv.mono hb1.size)
      have hzv : w1.heap.size < (w1.alloc (.cells #[] 118)).heap.size := by simp
      refine (times_c A n c x _ sl2 hn hlz hs Hgk.out ht).mono ?_
      rintro e w2 ⟨v, rfl, ho, hb2⟩
      obtain ⟨AT, cT, rfl⟩ := own_slice ho
      replace hov := own_next hov hb2
      have hbw2 := hbw1.trans (hb2.mono hbw1.size)
      have sT := Sl.of_own ho
      have hne : ∀ b off, AT = some ⟨b, off, none⟩ → (Value.slice (some ⟨w1.heap.size, 0, none⟩) 0 0).ownBlock ≠ some b := by
        intro b1 off1 e
        subst e
        have := (ho.lt b1 (by simp [Value.ownBlock])).1
        simp [Value.ownBlock]; omega
      clear ho hbv q1 hzv sl1 sl2
      go_wp2_with fail
      go_loopw [13, 69] (fun v i wr => ∃ k : Nat, k ≤ (timesL x).length ∧ i = .int .i64 k ∧ wr.ownsRow w0.heap.size 118 2 v k ((altL co (ocB x) ((timesL x).take k)).flatMap Ph.cells) ∧ Sl wr wr.heap.size 1 AT (timesL x).length ((timesL x).flatMap intC) ∧ (∀ b off, AT = some ⟨b, off, none⟩ → v.ownBlock ≠ some b) ∧ Below w0.heap.size w0 wr) (fun _ i _ => (timesL x).length - (intOf i).toNat)
      case atStart => exact ⟨0, Nat.zero_le _, rfl, by simpa [altL] using hov, sT, hne, hbw2⟩
      case round =>
        clear hov sT hne hbw2 hb2 hbw1 hb1
        obtain ⟨k, hk, rfl, hov, sT, hne, hbw⟩ := hrel
        obtain ⟨A3, c3, rfl⟩ := own_slice hov
        have hbs3 := hbw.size
        by_cases hlt : k < (timesL x).length
        · obtain ⟨b4, off4, t, rfl, hb4, ht4, c1'⟩ := sT.int k hlt
          have hal := altL_next (co := co) (oc := ocB x) ht4
          rw [altP, litAt, Hoc.out] at hal
          have hev : ((k : Int) % 2 == 0) = !decide (k % 2 = 1) := by rw [Bool.eq_iff_iff]; simp; omega
          have e63 : k + 1 ≤ maxLen := by unfold maxLen; omega
          have e32 : (k + 1) * 24 ≤ 140737488355328 := by omega
          have E63 := Lib.hid e63; clear e63
          have E32 := Lib.hid e32; clear e32
          have Ht4 := Lib.hid ht4; clear ht4
          cases hpar : decide (k % 2 = 1)
          all_goals
            rw [hpar] at hev hal
            simp only [Bool.not_true, Bool.not_false] at hev
            have Hpar := Lib.hid hpar; clear hpar
            have Hal := Lib.hid hal; clear hal
          all_goals
            go_wp2_with (first | (at_builtin; refine wpl_append _ rfl (.tmp 77) (.tmp 81) _ rfl w0.heap.size 118 q0 _ 2 24 Tryz.underlying92 hi hz0 hz1 hz2 rfl (by omega) _ k _ rfl (hov.alloc _) (wr.heap.size + 1) (some ⟨wr.heap.size, 0, none⟩) 1 1 _ rfl (Sl.new wr 118 _ 1 2 rfl) (by simp [Value.oneCell']) E63.out E32.out (le_alloc hbs3 _) ?_; intro v3 w3 ho3 hg3 hat3) | (at_builtin; refine wpl_append _ rfl (.tmp 83) (.tmp 87) _ rfl w0.heap.size 118 q0 _ 2 24 Tryz.underlying92 hi hz0 hz1 hz2 rfl (by omega) _ k _ rfl (hov.alloc _) (wr.heap.size + 1) (some ⟨wr.heap.size, 0, none⟩) 1 1 _ rfl (Sl.new wr 118 _ 1 2 rfl) (by simp [Value.oneCell']) E63.out E32.out (le_alloc hbs3 _) ?_; intro v3 w3 ho3 hg3 hat3))
            go_roundw
            case rel =>
              obtain ⟨sT3, hne3⟩ := sT.beside hg3 hat3 hne (by omega)
              refine ⟨k + 1, by omega, by go_num, ?_, sT3, hne3, (hbw.alloc hbw.size _).grown hg3 (le_alloc hbw.size _) fun g hg => (hov.lt g hg).1⟩
              rw [Hoc.out] at ho3 ⊢
              rw [Hal.out, List.flatMap_append]; simpa using ho3
            case measure => simp [intOf]; omega
        · obtain rfl : k = (timesL x).length := by omega
          go_wp2_with fail
          have e63 : (timesL x).length + 1 ≤ maxLen := by unfold maxLen; omega
          have e32 : ((timesL x).length + 1) * 24 ≤ 140737488355328 := by omega
          have E63 := Lib.hid e63; clear e63
          have E32 := Lib.hid e32; clear e32
          have hbd : Below w0.heap.size w0 wr.drew := hbw.drew
          have e1 : ∀ {w' : World}, Below w0.heap.size w0 w' → (Below w0.heap.size w0 w' ∧ (∀ i, w'.cell? ⟨w.heap.size, i, none⟩ = w0.cell? ⟨w.heap.size, i, none⟩)) := fun hb => ⟨hb, keepC hb _ hbs⟩
          refine wp_region_held_drew (S := fun w' => Below w0.heap.size w0 w' ∧ (∀ i, w'.cell? ⟨w.heap.size, i, none⟩ = w0.cell? ⟨w.heap.size, i, none⟩)) (by kernel_rfl) (e1 hbd) (fun hHeld => ?_)
          (first
            | (refine wpAnyH_take (i := 0) (v := ?_) rfl (by kernel_rfl) (by kernel_rfl) (by kernel_rfl) (fun _ _ _ h => h) (Or.inl ⟨by rfl, ?_⟩) (by assumption) ?_
               rotate_left
               focus (intro wq hSq; (try dsimp only at hSq); go_simp; (try (with_reducible rfl)); done))
            | (refine wpAnyH_take (i := 0) (v := undef) rfl (by kernel_rfl) (by kernel_rfl) (by kernel_rfl) (fun _ _ _ h => h) (Or.inr ⟨by rfl, rfl⟩) (by assumption) ?_)
            | fail "take 0")
          try simp only [Act.put, List.setIfInBounds_toArray, List.set_cons_zero, List.set_cons_succ, List.getElem_toArray, List.getElem_cons_zero]
          (first
            | (refine wpAnyH_take (i := 1) (v := ?_) rfl (by kernel_rfl) (by kernel_rfl) (by kernel_rfl) (fun _ _ _ h => h) (Or.inl ⟨by rfl, ?_⟩) (by assumption) ?_
               rotate_left
               focus (intro wq hSq; (try dsimp only at hSq); go_simp; (try (with_reducible rfl)); done))
            | (refine wpAnyH_take (i := 1) (v := undef) rfl (by kernel_rfl) (by kernel_rfl) (by kernel_rfl) (fun _ _ _ h => h) (Or.inr ⟨by rfl, rfl⟩) (by assumption) ?_)
            | fail "take 1")
          try simp only [Act.put, List.setIfInBounds_toArray, List.set_cons_zero, List.set_cons_succ, List.getElem_toArray, List.getElem_cons_zero, List.getElem_cons_succ]
          (first
            | (refine wpAnyH_take (i := 2) (v := ?_) rfl (by kernel_rfl) (by kernel_rfl) (by kernel_rfl) (fun _ _ _ h => h) (Or.inl ⟨by rfl, ?_⟩) (by assumption) ?_
               rotate_left
               focus (intro wq hSq; (try dsimp only at hSq); go_simp; (try (with_reducible rfl)); done))
            | (refine wpAnyH_take (i := 2) (v := undef) rfl (by kernel_rfl) (by kernel_rfl) (by kernel_rfl) (fun _ _ _ h => h) (Or.inr ⟨by rfl, rfl⟩) (by assumption) ?_)
            | fail "take 2")
          try simp only [Act.put, List.setIfInBounds_toArray, List.set_cons_zero, List.set_cons_succ, List.getElem_toArray, List.getElem_cons_zero, List.getElem_cons_succ]
          (first
            | (refine wpAnyH_take (i := 3) (v := ?_) rfl (by kernel_rfl) (by kernel_rfl) (by kernel_rfl) (fun _ _ _ h => h) (Or.inl ⟨by rfl, ?_⟩) (by assumption) ?_
               rotate_left
               focus (intro wq hSq; (try dsimp only at hSq); go_simp; (try (with_reducible rfl)); done))
            | (refine wpAnyH_take (i := 3) (v := undef) rfl (by kernel_rfl) (by kernel_rfl) (by kernel_rfl) (fun _ _ _ h => h) (Or.inr ⟨by rfl, rfl⟩) (by assumption) ?_)
            | fail "take 3")
          try simp only [Act.put, List.setIfInBounds_toArray, List.set_cons_zero, List.set_cons_succ, List.getElem_toArray, List.getElem_cons_zero, List.getElem_cons_succ]
          (first
            | (refine wpAnyH_take (i := 4) (v := ?_) rfl (by kernel_rfl) (by kernel_rfl) (by kernel_rfl) (fun _ _ _ h => h) (Or.inl ⟨by rfl, ?_⟩) (by assumption) ?_
               rotate_left
               focus (intro wq hSq; (try dsimp only at hSq); go_simp; (try (with_reducible rfl)); done))
            | (refine wpAnyH_take (i := 4) (v := undef) rfl (by kernel_rfl) (by kernel_rfl) (by kernel_rfl) (fun _ _ _ h => h) (Or.inr ⟨by rfl, rfl⟩) (by assumption) ?_)
            | fail "take 4")
          try simp only [Act.put, List.setIfInBounds_toArray, List.set_cons_zero, List.set_cons_succ, List.getElem_toArray, List.getElem_cons_zero, List.getElem_cons_succ]
          refine wpAnyH_ready (rs := [5]) (by kernel_rfl) (by simp) ?_
          refine AllReadyH.cons (o := _) rfl (fun K hK => ?_) AllReadyH.nil
          go_simp
          refine (times_c A n c x _ (sl0.next hbd) hn hlz hs Hgk.out ht).mono ?_; rintro e w5 ⟨v5, rfl, ho5, hb5⟩; obtain ⟨A5, c5, rfl⟩ := own_slice ho5; have hb59 := hbd.trans (hb5.mono hbd.size)
          refine hK.out _ _ ?_ (fun hHeld => ?_)
          · exact e1 hb59
          clear hK K
          try simp only [Act.put, List.setIfInBounds_toArray, List.set_cons_zero, List.set_cons_succ, List.getElem_toArray, List.getElem_cons_zero, List.getElem_cons_succ]
          refine wpAnyH_ready (rs := [6]) (by kernel_rfl) (by simp) ?_
          refine AllReadyH.cons (o := _) rfl (fun K hK => ?_) AllReadyH.nil
          go_simp
          refine (sumOf_c A5 _ c5 (timesL x) _ (Sl.of_own ho5) (by omega) HB6.out).mono ?_; rintro e w6 ⟨rfl, rfl⟩
          refine hK.out _ _ ?_ (fun hHeld => ?_)
          · exact e1 hb59
          clear hK K
          try simp only [Act.put, List.setIfInBounds_toArray, List.set_cons_zero, List.set_cons_succ, List.getElem_toArray, List.getElem_cons_zero, List.getElem_cons_succ]
          have hsub := Hsub.out
          (first
            | (refine wpAnyH_take (i := 7) (v := ?_) rfl (by kernel_rfl) (by kernel_rfl) (by kernel_rfl) (fun _ _ _ h => h) (Or.inl ⟨by rfl, ?_⟩) (by assumption) ?_
               rotate_left
               focus (intro wq hSq; (try dsimp only at hSq); go_simp; (try (with_reducible rfl)); done))
            | (refine wpAnyH_take (i := 7) (v := undef) rfl (by kernel_rfl) (by kernel_rfl) (by kernel_rfl) (fun _ _ _ h => h) (Or.inr ⟨by rfl, rfl⟩) (by assumption) ?_)
            | fail "take 7")
          try simp only [Act.put, List.setIfInBounds_toArray, List.set_cons_zero, List.set_cons_succ, List.getElem_toArray, List.getElem_cons_zero, List.getElem_cons_succ]
          clear hsub
          (first
            | (refine wpAnyH_take (i := 8) (v := ?_) rfl (by kernel_rfl) (by kernel_rfl) (by kernel_rfl) (fun _ _ _ h => h) (Or.inl ⟨by rfl, ?_⟩) (by assumption) ?_
               rotate_left
               focus (intro wq hSq; (try dsimp only at hSq); go_simp; (try (with_reducible rfl)); done))
            | (refine wpAnyH_take (i := 8) (v := undef) rfl (by kernel_rfl) (by kernel_rfl) (by kernel_rfl) (fun _ _ _ h => h) (Or.inr ⟨by rfl, rfl⟩) (by assumption) ?_)
            | fail "take 8")
          try simp only [Act.put, List.setIfInBounds_toArray, List.set_cons_zero, List.set_cons_succ, List.getElem_toArray, List.getElem_cons_zero, List.getElem_cons_succ]
          refine wpAnyH_ready (rs := [9]) (by kernel_rfl) (by simp) ?_
          refine AllReadyH.cons (o := _) rfl (fun K hK => ?_) AllReadyH.nil
          go_simp
          skip
          refine hK.out _ _ ?_ (fun hHeld => ?_)
          · exact e1 (hb59.alloc hb59.size _)
          clear hK K
          try simp only [Act.put, List.setIfInBounds_toArray, List.set_cons_zero, List.set_cons_succ, List.getElem_toArray, List.getElem_cons_zero, List.getElem_cons_succ]
          have hov9 := own_next hov ((Below.refl wr.heap.size wr).drew.trans hb5)
          refine wpAnyH_ready (rs := [10]) (by kernel_rfl) (by simp) ?_
          refine AllReadyH.cons (o := _) rfl (fun K hK => ?_) AllReadyH.nil
          refine step_append _ rfl (.tmp 90) (.tmp 99) _ rfl w0.heap.size 118 q0 _ 2 24 Tryz.underlying92 hi hz0 hz1 hz2 rfl (by omega) _ (timesL x).length _ rfl (hov9.alloc _) (w5.heap.size + 1) (some ⟨w5.heap.size, 0, none⟩) 1 1 _ rfl (Sl.new w5 118 _ 1 2 rfl) (by simp [Value.oneCell']) E63.out E32.out (le_alloc hb59.size _) ?_
          intro v7 w7 ho7 hg7 hat7
          have hb7 := (hb59.alloc hb59.size _).grown hg7 (le_alloc hb59.size _) fun g hg => (hov9.lt g hg).1
          refine hK.out _ _ (e1 hb7) (fun hHeld => ?_)
          clear hK K
          try simp only [Act.put, List.setIfInBounds_toArray, List.set_cons_zero, List.set_cons_succ, List.getElem_toArray, List.getElem_cons_zero, List.getElem_cons_succ]
          (first
            | (refine wpAnyH_take (i := 11) (v := ?_) rfl (by kernel_rfl) (by kernel_rfl) (by kernel_rfl) (fun _ _ _ h => h) (Or.inl ⟨by rfl, ?_⟩) (by assumption) ?_
               rotate_left
               focus (intro wq hSq; (try dsimp only at hSq); go_simp; (try (with_reducible rfl)); done))
            | (refine wpAnyH_take (i := 11) (v := undef) rfl (by kernel_rfl) (by kernel_rfl) (by kernel_rfl) (fun _ _ _ h => h) (Or.inr ⟨by rfl, rfl⟩) (by assumption) ?_)
            | fail "take 11")
          try simp only [Act.put, List.setIfInBounds_toArray, List.set_cons_zero, List.set_cons_succ, List.getElem_toArray, List.getElem_cons_zero, List.getElem_cons_succ]
          refine wpAnyH_done (by kernel_rfl) ?_ _
          go_wp2_with fail
          go_ret
          refine ⟨_, rfl, own_base (base := w0.heap.size) ?_ hb0.size, hb0.trans (hb7.mono hb0.size)⟩
          have hl2 : (phasesL x co).length = (timesL x).length + 1 := by rw [HL.out, List.length_append, altL_len]; rfl
          rw [hl2, HL.out, Hoc.out, List.flatMap_append]
          rw [List.take_of_length_le (Nat.le_refl _), Hoc.out] at ho7
          simpa using ho7
  · obtain ⟨hk67, _, hfr, hgr⟩ := steady_times hv hst h1
    have hL := phases_steady hv hst h1 co
    have hk2 : (x.k == 2) = false := by simp; omega
    rw [hL]
    rw [← hfr, ← hgr]
    have HL := Lib.hid hL; clear hL
    have Hfr := Lib.hid hfr; clear hfr
    have Hgr := Lib.hid hgr; clear hgr
    clear h1 h3 hk67
    go_enter Tryz.func65, Tryz.ntmps65
    go_wp2_with (first | (go_at_call 88; refine (rhythm_c _ _).mono ?_; rintro e w9 ⟨rfl, rfl⟩) | (go_at_call 61; refine (isSteady_c A n c x _ sl0 hn hlz hs).mono ?_; rintro e w1 ⟨rfl, hb1⟩; have q1 := keepC hb1 w.heap.size (by simp); have sl1 := sl0.next hb1; have hbw1 := hb0.trans (hb1.mono (by simp))))
    go_ret
    exact ⟨_, rfl, own_litA _ _ _ #[.string co, .int .i64 (flashR x.k), .string ⟨#[]⟩, .int .i64 (gapR x.k)] 2 2 _ (by simp) hbw1.size (by simp [maxLen]) rfl, by (repeat (first | (with_reducible assumption) | (with_reducible exact Below.refl _ _) | exact Nat.le_refl _ | exact Below.size (by with_reducible assumption) | (with_reducible refine Below.drew ?_) | (with_reducible refine below_drewN ?_ _) | (with_reducible refine Below.alloc ?_ ?_ _) | (with_reducible refine Below.setCell ?_ ?_ _) | (with_reducible refine le_alloc ?_ _) | (with_reducible refine le_set ?_ _ _) | (with_reducible refine le_drew ?_) | (with_reducible refine le_drewN ?_ _) | omega | (dsimp only; omega)))⟩
end Go.Proofs.YtgibbhipjpbdfaaGreat
