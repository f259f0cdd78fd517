
/- The share of the time in which a light is lit. -/
import Derived.Test.YtjkjmpmefapnoaaGreatDoorChTen
namespace Go.Proofs.YtjkjmpmefapnoaaGreatDoor
open Go.RowKit
set_option maxRecDepth 100000 in
set_option maxHeartbeats 400000 in
theorem divRound_c (a b : Int) (w : World) (ha : 0 ≤ a) (ha1 : a ≤ 1000000000000000000) (hb : 0 < b) (hb1 : b ≤ 1000000000000) :
    Calls Tryz.prog 60 #[.int .i64 a, .int .i64 b] w fun e w' => e = .returned (.int .i64 (rdiv a b)) ∧ w = w' := by
  have h1 : decide (b < 0) = false := by simp; omega
  have h2 : decide (a < 0) = false := by simp; omega
  have hr := rdiv_eq ha hb
  have k1 := Int.emod_nonneg a (show b ≠ 0 by omega)
  have k2 := Int.emod_lt_of_pos a hb
  have k3 : 0 ≤ a / b := Int.ediv_nonneg ha (by omega)
  have k4 : a / b ≤ a := Int.ediv_le_self _ ha
  have m1 : max a (-a) = a := by omega
  have m2 : max b (-b) = b := by omega
  by_cases hc : b - a % b ≤ a % b
  · rw [if_pos hc] at hr
    rw [hr]
    have Hr := Lib.hid hr; clear hr
    go_enter Tryz.func60, Tryz.ntmps60
    go_wp2
    go_ret
    exact ⟨rfl, rfl⟩
  · rw [if_neg hc, Int.add_zero] at hr
    rw [hr]
    have Hr := Lib.hid hr; clear hr
    go_enter Tryz.func60, Tryz.ntmps60
    go_wp2
    go_ret
    exact ⟨rfl, rfl⟩
set_option maxRecDepth 100000 in
set_option maxHeartbeats 400000 in
theorem litTenths_c (A : Option Addr) (n c : Nat) (xs : List ByteArray) (w : World) (h : Sl w w.heap.size 1 A n (xs.flatMap strC)) (hm : n ≤ 1048576) :
    Calls Tryz.prog 62 #[.slice A n c] w fun e w' => e = .returned (.int .i64 (litC xs)) ∧ w = w' := by
  have hl := h.len strC 1 strC_len (by omega)
  have Hl := Lib.hid hl; clear hl
  go_enter Tryz.func62, Tryz.ntmps62
  go_wp2
  go_loop [3, 8] (fun t i => ∃ k : Nat, k ≤ n ∧ i = .int .i64 k ∧ t = .int .i64 (litC (xs.take k))) (fun _ i => n - (intOf i).toNat)
  case atStart => exact ⟨0, Nat.zero_le _, rfl, rfl⟩
  case round =>
    obtain ⟨k, hk, rfl, rfl⟩ := hrel
    by_cases hlt : k < n
    · obtain ⟨b, off, s, rfl, hbb, hx, c1⟩ := h.str k hlt
      have hnx := litC_next hx
      have hbd := litC_bd (xs.take k)
      rw [List.length_take_of_le (by rw [Hl.out]; omega)] at hbd
      obtain ⟨u1, u2⟩ := hbd
      have Hx := Lib.hid hx; clear hx
      cases hE : s.toList.isEmpty
      all_goals
        rw [hE] at hnx
        simp only [cond_true, cond_false] at hnx
        have Hnx := Lib.hid hnx; clear hnx
        go_wp2
        go_round
        case rel => exact ⟨k + 1, by omega, by go_num, int_eq (by rw [Hnx.out]; try omega)⟩
        case measure => simp [intOf]; omega
    · go_wp2
      go_ret
      exact ⟨ret_eq (int_eq (by rw [List.take_of_length_le (by rw [Hl.out]; omega)])), rfl⟩
theorem strInfo2 : (Tryz.prog.info? 9).map (fun i => (i.zero, i.size, i.bytes)) = some (some (.string ByteArray.empty), 1, 16) := by kernel_rfl
set_option maxRecDepth 100000 in
set_option maxHeartbeats 1000000 in
theorem tenths_c (A : Option Addr) (n c : Nat) (ps : List Ph) (w : World) (h : Sl w w.heap.size 2 A n (ps.flatMap Ph.cells)) (hm : n ≤ 200) (hb : ∀ p ∈ ps, 0 ≤ p.len ∧ p.len ≤ 600) :
    Calls Tryz.prog 61 #[.slice A n c] w fun e w' => ∃ v, e = .returned v ∧ w'.ownsRow w.heap.size 9 1 v (tenL ps).length ((tenL ps).flatMap strC) ∧ Below w.heap.size w w' := by
  obtain ⟨p0, hp, hy0, hy1, hy2⟩ := info_parts strInfo2
  have hl := h.len Ph.cells 2 Ph.cells_len (by omega)
  have Hl := Lib.hid hl; clear hl
  have Hb := Lib.hid hb; clear hb
  have hov := World.ownsRow_made (base := w.heap.size) (e := 9) (size := 1) w #[] 0 (Nat.le_refl _) (by simp [maxLen]) rfl
  have hb0 : Below w.heap.size w (w.alloc (.cells #[] 9)) := by (repeat (first | (with_reducible assumption) | (with_reducible exact Below.refl _ _) | exact Nat.le_refl _ | exact Below.size (by with_reducible assumption) | (with_reducible refine Below.drew ?_) | (with_reducible refine below_drewN ?_ _) | (with_reducible refine Below.alloc ?_ ?_ _) | (with_reducible refine Below.setCell ?_ ?_ _) | (with_reducible refine le_alloc ?_ _) | (with_reducible refine le_set ?_ _ _) | (with_reducible refine le_drew ?_) | (with_reducible refine le_drewN ?_ _) | omega | (dsimp only; omega)))
  go_enter Tryz.func61, Tryz.ntmps61
  go_wp2
  go_loopw [3, 9] (fun v i wr => ∃ (k : Nat) (L : List ByteArray), k ≤ n ∧ i = .int .i64 k ∧ L = tenL (ps.take k) ∧ wr.ownsRow w.heap.size 9 1 v L.length (L.flatMap strC) ∧ Below w.heap.size w wr) (fun _ i _ => n - (intOf i).toNat)
  case atStart => exact ⟨0, [], Nat.zero_le _, rfl, rfl, hov, hb0⟩
  case round =>
    clear hov hb0
    obtain ⟨k, L, hk, rfl, hL, hov, hbw⟩ := hrel
    obtain ⟨A1, c1, rfl⟩ := own_slice hov
    by_cases hlt : k < n
    · obtain ⟨b4, off4, p, rfl, hb4, hp4, d1, d2⟩ := h.ph k hlt
      have q4 := keepC hbw b4 hb4
      have hnx := tenL_next hp4
      have hpb := Hb.out p (List.mem_of_getElem? hp4)
      have hLt := tenL_len (ps := ps.take k) fun q hq => Hb.out q (List.mem_of_mem_take hq)
      have hLb := tot_bd (ps := ps.take k) fun q hq => Hb.out q (List.mem_of_mem_take hq)
      rw [List.length_take_of_le (by rw [Hl.out]; omega)] at hLb
      rw [← hL] at hLt hnx
      have hLl : L.length ≤ 120000 := by omega
      clear hLt hLb
      obtain ⟨pc, pl⟩ := p
      obtain ⟨M, rfl⟩ : ∃ M : Nat, pl = M := ⟨pl.toNat, by simp only at hpb; omega⟩
      simp only at hpb d1 d2 hnx
      have hM : M ≤ 600 := by omega
      have Hp4 := Lib.hid hp4; clear hp4
      have Hnx := Lib.hid hnx; clear hnx
      have HL := Lib.hid hL; clear hL
      have hbx := hbw.alloc hbw.size (.cells #[.string pc, .int .i64 M] 48)
      have hsx := Sl.new wr 48 (Ph.cells ⟨pc, M⟩) 1 2 rfl
      have hov2 := hov.alloc (.cells #[.string pc, .int .i64 M] 48)
      have hgz : wr.heap.size < (wr.alloc (.cells #[.string pc, .int .i64 M] 48)).heap.size := by simp
      have hne : ∀ b off, (some (⟨wr.heap.size, 0, none⟩ : Addr)) = some ⟨b, off, none⟩ → (Value.slice A1 L.length c1).ownBlock ≠ some b := by
        intro b1 off1 e e2
        injection e with e; injection e with e3 _ _
        have := (hov.lt b1 e2).2
        omega
      replace hsx : Sl (wr.alloc (.cells #[.string pc, .int .i64 M] 48)) (wr.alloc (.cells #[.string pc, .int .i64 M] 48)).heap.size 2 (some ⟨wr.heap.size, 0, none⟩) 1 (Ph.cells ⟨pc, M⟩) := hsx.more (by simp)
      go_wp2
      obtain ⟨g, hg⟩ : ∃ g, wr.heap.size = g := ⟨_, rfl⟩
      rw [hg] at hsx hne
      rw [hg]
      have Hg := Lib.hid hg; clear hg
      generalize wr.alloc (.cells #[.string pc, .int .i64 M] 48) = wo at *
      go_loopw [3, 15] (fun v i wr => ∃ (m : Nat) (L2 : List ByteArray), m ≤ M ∧ i = .int .i64 m ∧ L2 = L ++ List.replicate m pc ∧ wr.ownsRow w.heap.size 9 1 v L2.length (L2.flatMap strC) ∧ Sl wr wr.heap.size 2 (some ⟨g, 0, none⟩) 1 (Ph.cells ⟨pc, M⟩) ∧ (∀ b off, (some (⟨g, 0, none⟩ : Addr)) = some ⟨b, off, none⟩ → v.ownBlock ≠ some b) ∧ Below w.heap.size w wr) (fun _ i _ => M - (intOf i).toNat)
      case atStart => exact ⟨0, L, Nat.zero_le _, rfl, by simp, hov2, hsx, hne, hbx⟩
      case round =>
        clear hov2 hsx hne hbx hov hbw q4
        obtain ⟨m, L2, hmM, rfl, hL2, hov, hsx, hne, hbw⟩ := hrel
        obtain ⟨A2, c2, rfl⟩ := own_slice hov
        obtain ⟨gb, goff, ge, ghb, gc⟩ := hsx.2 (by omega)
        injection ge with ge; injection ge with g1 g2 _
        subst g1 g2
        have x0 := gc 0 _ rfl
        have x1 := gc 1 _ rfl
        simp only [Nat.zero_add] at x0 x1
        by_cases hlt2 : m < M
        · have hl2 : L2.length ≤ 130000 := by rw [hL2]; simp; omega
          have e63 : L2.length + 1 ≤ maxLen := by unfold maxLen; omega
          have e32 : (L2.length + 1) * 16 ≤ 140737488355328 := by omega
          have E63 := Lib.hid e63; clear e63
          have E32 := Lib.hid e32; clear e32
          have HL2 := Lib.hid hL2; clear hL2
          go_wp2_with (at_builtin; refine wpl_append _ rfl (.tmp 17) (.tmp 20) _ rfl w.heap.size 9 p0 _ 1 16 Tryz.underlying87 hp hy0 hy1 hy2 rfl (by omega) _ L2.length _ rfl (hov.alloc _) (wr.heap.size + 1) (some ⟨wr.heap.size, 0, none⟩) 1 1 (strC pc) rfl (Sl.new wr 9 _ 1 1 rfl) (strC_one _) E63.out E32.out (le_alloc hbw.size _) ?_; intro v2 w2 ho2 hg2 hat2)
          go_roundw
          case rel =>
            obtain ⟨hsx2, hne2⟩ := hsx.beside hg2 hat2 hne (by omega)
            refine ⟨m + 1, L2 ++ [pc], by omega, by go_num, ?_, ?_, hsx2, hne2, (hbw.alloc hbw.size _).grown hg2 (le_alloc hbw.size _) fun g hg => (hov.lt g hg).1⟩
            · rw [HL2.out, List.append_assoc]; simp [List.replicate_succ']
            · simpa [List.flatMap_append, strC] using ho2
          case measure => simp [intOf]; omega
        · obtain rfl : m = M := by omega
          have HL2 := Lib.hid hL2; clear hL2
          go_wp2
          go_roundw
          case rel =>
            refine ⟨k + 1, L2, by omega, by go_num, ?_, hov, hbw⟩
            rw [HL2.out, Hnx.out]; simp
          case measure => simp [intOf]; omega
    · go_wp2
      go_ret
      obtain rfl : k = n := by omega
      rw [List.take_of_length_le (by rw [Hl.out]; omega)] at hL
      subst hL
      exact ⟨_, rfl, hov, hbw⟩
theorem lit_tot {ps : List Ph} (h : ∀ p ∈ ps, 0 ≤ p.len ∧ p.len ≤ 600) : 0 ≤ litI ps ∧ litI ps ≤ totI ps := by
  refine ⟨(lit_bd h).1, ?_⟩
  induction ps with
  | nil => simp [litI, totI]
  | cons p ps ih =>
    have h1 := ih fun q hq => h q (List.mem_cons_of_mem _ hq)
    have h2 := h p List.mem_cons_self
    have e : litI (p :: ps) = (bif p.c.toList.isEmpty then 0 else p.len) + litI ps := by simp [litI]
    have e2 : totI (p :: ps) = p.len + totI ps := by simp [totI]
    rw [e, e2]
    cases p.c.toList.isEmpty <;> simp <;> omega
theorem share_bd {x : Ch} (h : validB x = true) : 0 ≤ shareI x ∧ shareI x ≤ 1000000 := by
  have hb := phases_bd (co := ⟨#[87]⟩) h
  obtain ⟨l1, l2⟩ := lit_tot hb
  have ht : 0 < totI (phasesL x ⟨#[87]⟩) := by have := tot_pos h ⟨#[87]⟩; omega
  unfold shareI rdiv
  generalize litI (phasesL x ⟨#[87]⟩) = l at *
  generalize totI (phasesL x ⟨#[87]⟩) = t at *
  refine ⟨Int.ediv_nonneg (by omega) (by omega), ?_⟩
  apply Int.lt_add_one_iff.1
  apply Int.ediv_lt_of_lt_mul (by omega)
  omega
set_option maxRecDepth 100000 in
set_option maxHeartbeats 1000000 in
theorem litShare_c (A : Option Addr) (n c : Nat) (x : Ch) (w : World) (sl : Sl w w.heap.size 1 A n (x.gs.flatMap intC)) (hn : n ≤ 1048576) (hlz : x.l.size ≤ 1048576) (hs : x.cs.size ≤ 1048576) (hv : validB x = true) :
    Calls Tryz.prog 31 #[chV x.k A n c x.l x.cs x.p] w fun e w' => e = .returned (.int .i64 (shareI x)) ∧ Below w.heap.size w w' := by
  have hb0 : Below w.heap.size w (w.alloc (.cells #[.int .i64 x.k, .slice A n c, .string x.l, .string x.cs, .int .i64 x.p] 29)) := by (repeat (first | (with_reducible assumption) | (with_reducible exact Below.refl _ _) | exact Nat.le_refl _ | exact Below.size (by with_reducible assumption) | (with_reducible refine Below.drew ?_) | (with_reducible refine below_drewN ?_ _) | (with_reducible refine Below.alloc ?_ ?_ _) | (with_reducible refine Below.setCell ?_ ?_ _) | (with_reducible refine le_alloc ?_ _) | (with_reducible refine le_set ?_ _ _) | (with_reducible refine le_drew ?_) | (with_reducible refine le_drewN ?_ _) | omega | (dsimp only; omega)))
  have sl0 := sl.next hb0
  obtain ⟨hc1, hc3⟩ := colors_one hv
  have hc1' : (1 : Int) ≤ (x.cs.size : Int) := by omega
  have hbd := phases_bd (co := x.cs.extract 0 1) hv
  have hlen := phases_len (co := x.cs.extract 0 1) (valid_shape hv)
  obtain ⟨l1, l2⟩ := lit_tot hbd
  have htp : 0 < totI (phasesL x (x.cs.extract 0 1)) := by have := tot_pos hv (x.cs.extract 0 1); omega
  have htb := (tot_bd hbd).2
  have htl := tenL_len hbd
  have hlc := litC_ten hbd
  have hsh : shareI x = rdiv (1000000 * litI (phasesL x (x.cs.extract 0 1))) (totI (phasesL x (x.cs.extract 0 1))) := by
    rw [shareI, litI_co x _ (x.cs.extract 0 1) (by rw [one_ne hc1, wS_E]), totI_co x _ (x.cs.extract 0 1)]
  rw [hsh]
  have Hsh := Lib.hid hsh; clear hsh
  obtain ⟨ps, hps⟩ : ∃ ps, phasesL x (x.cs.extract 0 1) = ps := ⟨_, rfl⟩
  have hP : ∀ w1, Sl w1 w1.heap.size 1 A n (x.gs.flatMap intC) → Calls Tryz.prog 46 #[chV x.k A n c x.l x.cs x.p, .string (x.cs.extract 0 1)] w1 fun e w' => ∃ v, e = .returned v ∧ w'.ownsRow w1.heap.size 48 2 v ps.length (ps.flatMap Ph.cells) ∧ Below w1.heap.size w1 w' := by
    rw [← hps]; exact fun w1 h => phases_c A n c x w1 h hn hlz hs _ hv
  rw [hps] at hbd hlen l1 l2 htp htb htl hlc ⊢
  have Hps := Lib.hid hps; clear hps
  have Hbd := Lib.hid hbd; clear hbd
  have HP := Lib.hid hP; clear hP
  have Hlc := Lib.hid hlc; clear hlc
  have Htl := Lib.hid htl; clear htl
  go_enter Tryz.func31, Tryz.ntmps31
  go_wp2_with fail
  have z1 : w.heap.size < (w.alloc (.cells #[.int .i64 x.k, .slice A n c, .string x.l, .string x.cs, .int .i64 x.p] 29)).heap.size := by simp
  obtain ⟨c0, c1, c2, c3, c4, _, _, _, _, _⟩ := chp_box (c := c) 29 sl hn hlz hs
  simp only [Nat.zero_add] at c0 c1 c2 c3 c4
  generalize w.alloc (.cells #[.int .i64 x.k, .slice A n c, .string x.l, .string x.cs, .int .i64 x.p] 29) = w1 at *
  have e1 : ∀ {w' : World}, Below w1.heap.size w1 w' → (Below w1.heap.size w1 w' ∧ (∀ x, w'.cell? ⟨w.heap.size, x, none⟩ = w1.cell? ⟨w.heap.size, x, none⟩)) := fun hb => ⟨hb, keepC hb _ z1⟩
  refine wp_region_held_drew (S := fun w' => Below w1.heap.size w1 w' ∧ (∀ x, w'.cell? ⟨w.heap.size, x, none⟩ = w1.cell? ⟨w.heap.size, x, none⟩)) (by kernel_rfl) (e1 (Below.refl _ _).drew) (fun hHeld => ?_)
  (first
    | (refine wpAnyH_take (i := 0) (v := ?_) rfl (by kernel_rfl) (by kernel_rfl) (by kernel_rfl) (fun _ _ _ h => h) (Or.inl ⟨by rfl, ?_⟩) (by assumption) ?_
       rotate_left
       focus (intro wq hSq; (try dsimp only at hSq); go_simp; (try (with_reducible rfl)); done))
    | (refine wpAnyH_take (i := 0) (v := undef) rfl (by kernel_rfl) (by kernel_rfl) (by kernel_rfl) (fun _ _ _ h => h) (Or.inr ⟨by rfl, rfl⟩) (by assumption) ?_)
    | fail "take 0")
  try simp only [Act.put, List.setIfInBounds_toArray, List.set_cons_zero, List.set_cons_succ, List.getElem_toArray, List.getElem_cons_zero]
  (first
    | (refine wpAnyH_take (i := 1) (v := ?_) rfl (by kernel_rfl) (by kernel_rfl) (by kernel_rfl) (fun _ _ _ h => h) (Or.inl ⟨by rfl, ?_⟩) (by assumption) ?_
       rotate_left
       focus (intro wq hSq; (try dsimp only at hSq); go_simp; (try (with_reducible rfl)); done))
    | (refine wpAnyH_take (i := 1) (v := undef) rfl (by kernel_rfl) (by kernel_rfl) (by kernel_rfl) (fun _ _ _ h => h) (Or.inr ⟨by rfl, rfl⟩) (by assumption) ?_)
    | fail "take 1")
  try simp only [Act.put, List.setIfInBounds_toArray, List.set_cons_zero, List.set_cons_succ, List.getElem_toArray, List.getElem_cons_zero, List.getElem_cons_succ]
  (first
    | (refine wpAnyH_take (i := 2) (v := ?_) rfl (by kernel_rfl) (by kernel_rfl) (by kernel_rfl) (fun _ _ _ h => h) (Or.inl ⟨by rfl, ?_⟩) (by assumption) ?_
       rotate_left
       focus (intro wq hSq; (try dsimp only at hSq); go_simp; (try (with_reducible rfl)); done))
    | (refine wpAnyH_take (i := 2) (v := undef) rfl (by kernel_rfl) (by kernel_rfl) (by kernel_rfl) (fun _ _ _ h => h) (Or.inr ⟨by rfl, rfl⟩) (by assumption) ?_)
    | fail "take 2")
  try simp only [Act.put, List.setIfInBounds_toArray, List.set_cons_zero, List.set_cons_succ, List.getElem_toArray, List.getElem_cons_zero, List.getElem_cons_succ]
  (first
    | (refine wpAnyH_take (i := 3) (v := ?_) rfl (by kernel_rfl) (by kernel_rfl) (by kernel_rfl) (fun _ _ _ h => h) (Or.inl ⟨by rfl, ?_⟩) (by assumption) ?_
       rotate_left
       focus (intro wq hSq; (try dsimp only at hSq); go_simp; (try (with_reducible rfl)); done))
    | (refine wpAnyH_take (i := 3) (v := undef) rfl (by kernel_rfl) (by kernel_rfl) (by kernel_rfl) (fun _ _ _ h => h) (Or.inr ⟨by rfl, rfl⟩) (by assumption) ?_)
    | fail "take 3")
  try simp only [Act.put, List.setIfInBounds_toArray, List.set_cons_zero, List.set_cons_succ, List.getElem_toArray, List.getElem_cons_zero, List.getElem_cons_succ]
  refine wpAnyH_ready (rs := [4]) (by kernel_rfl) (by simp) ?_
  refine AllReadyH.cons (o := _) rfl (fun K hK => ?_) AllReadyH.nil
  go_simp
  refine (HP.out _ (sl0.next (Below.refl _ _).drew)).mono ?_; rintro e w2 ⟨v, rfl, ho, hb2⟩; obtain ⟨AT, cT, rfl⟩ := own_slice ho; have hb12 := (Below.refl w1.heap.size w1).drew.trans hb2; have sT := Sl.of_own ho
  refine hK.out _ _ ?_ (fun hHeld => ?_)
  · exact e1 hb12
  clear hK K
  try simp only [Act.put, List.setIfInBounds_toArray, List.set_cons_zero, List.set_cons_succ, List.getElem_toArray, List.getElem_cons_zero, List.getElem_cons_succ]
  refine wpAnyH_ready (rs := [5]) (by kernel_rfl) (by simp) ?_
  refine AllReadyH.cons (o := _) rfl (fun K hK => ?_) AllReadyH.nil
  go_simp
  refine (tenths_c AT _ cT ps _ sT (by omega) Hbd.out).mono ?_; rintro e w3 ⟨v3, rfl, ho3, hb3⟩; obtain ⟨A3, c3', rfl⟩ := own_slice ho3; have hb13 := hb12.trans (hb3.mono hb12.size); have s3 := Sl.of_own ho3
  refine hK.out _ _ ?_ (fun hHeld => ?_)
  · exact e1 hb13
  clear hK K
  try simp only [Act.put, List.setIfInBounds_toArray, List.set_cons_zero, List.set_cons_succ, List.getElem_toArray, List.getElem_cons_zero, List.getElem_cons_succ]
  (first
    | (refine wpAnyH_take (i := 6) (v := ?_) rfl (by kernel_rfl) (by kernel_rfl) (by kernel_rfl) (fun _ _ _ h => h) (Or.inl ⟨by rfl, ?_⟩) (by assumption) ?_
       rotate_left
       focus (intro wq hSq; (try dsimp only at hSq); go_simp; (try (with_reducible rfl)); done))
    | (refine wpAnyH_take (i := 6) (v := undef) rfl (by kernel_rfl) (by kernel_rfl) (by kernel_rfl) (fun _ _ _ h => h) (Or.inr ⟨by rfl, rfl⟩) (by assumption) ?_)
    | fail "take 6")
  try simp only [Act.put, List.setIfInBounds_toArray, List.set_cons_zero, List.set_cons_succ, List.getElem_toArray, List.getElem_cons_zero, List.getElem_cons_succ]
  refine wpAnyH_done (by kernel_rfl) ?_ _
  have hl1 : (tenL ps).length ≤ 1048576 := by have := Htl.out; omega
  have hlt : ((tenL ps).length : Int) = totI ps := Htl.out
  have hlit : litC (tenL ps) = litI ps := Hlc.out
  have Hlt := Lib.hid hlt; clear hlt
  have Hlit := Lib.hid hlit; clear hlit
  go_wp2_with fail
  refine (litTenths_c A3 _ c3' (tenL ps) _ s3 hl1).mono ?_
  rintro e w4 ⟨rfl, rfl⟩
  rw [Hlit.out]
  go_wp2_with fail
  rw [Hlt.out]
  refine (divRound_c _ _ _ (by omega) (by omega) (by omega) (by omega)).mono ?_
  rintro e w4 ⟨rfl, rfl⟩
  go_wp2_with fail
  go_ret
  exact ⟨rfl, hb0.trans (hb13.mono hb0.size)⟩
set_option maxRecDepth 100000 in
set_option maxHeartbeats 400000 in
theorem implShare_c (A : Option Addr) (n c : Nat) (x : Ch) (w : World) (sl : Sl w w.heap.size 1 A n (x.gs.flatMap intC)) (hn : n ≤ 1048576) (hlz : x.l.size ≤ 1048576) (hs : x.cs.size ≤ 1048576) :
    Calls Tryz.prog 11 #[chV x.k A n c x.l x.cs x.p] w fun e w' => e = .returned (.tuple #[.int .i64 (bif validB x then shareI x else 0), .int .i64 (bif validB x then 0 else 1)]) ∧ Below w.heap.size w w' := by
  have hb0 : Below w.heap.size w (w.alloc (.cells #[.int .i64 x.k, .slice A n c, .string x.l, .string x.cs, .int .i64 x.p] 29)) := by (repeat (first | (with_reducible assumption) | (with_reducible exact Below.refl _ _) | exact Nat.le_refl _ | exact Below.size (by with_reducible assumption) | (with_reducible refine Below.drew ?_) | (with_reducible refine below_drewN ?_ _) | (with_reducible refine Below.alloc ?_ ?_ _) | (with_reducible refine Below.setCell ?_ ?_ _) | (with_reducible refine le_alloc ?_ _) | (with_reducible refine le_set ?_ _ _) | (with_reducible refine le_drew ?_) | (with_reducible refine le_drewN ?_ _) | omega | (dsimp only; omega)))
  have sl0 := sl.next hb0
  cases hv : validB x
  · go_enter Tryz.func11, Tryz.ntmps11
    go_wp2_with fail
    refine (implValid_c A n c x _ sl0 hn hlz hs).mono ?_
    rintro e w1 ⟨rfl, hb1⟩
    go_wp2_with fail
    go_ret2
    exact ⟨rfl, hb0.trans (hb1.mono (by simp))⟩
  · go_enter Tryz.func11, Tryz.ntmps11
    go_wp2_with fail
    refine (implValid_c A n c x _ sl0 hn hlz hs).mono ?_
    rintro e w1 ⟨rfl, hb1⟩
    have q1 := keepC hb1 w.heap.size (by simp)
    go_wp2_with fail
    refine (litShare_c A n c x _ (sl0.next hb1) hn hlz hs hv).mono ?_
    rintro e w2 ⟨rfl, hb2⟩
    go_wp2_with fail
    go_ret2
    exact ⟨rfl, (hb0.trans (hb1.mono (by simp))).trans (hb2.mono (Nat.le_trans (by simp) hb1.size))⟩
end Go.Proofs.YtjkjmpmefapnoaaGreatDoor
