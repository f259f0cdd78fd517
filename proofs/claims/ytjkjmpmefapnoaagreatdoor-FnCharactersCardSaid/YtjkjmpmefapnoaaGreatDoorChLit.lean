
/- Characters: how long lit. -/
import Derived.Test.YtjkjmpmefapnoaaGreatDoorChPhI
namespace Go.Proofs.YtjkjmpmefapnoaaGreatDoor
open Go.RowKit
theorem eS_E : (⟨#[]⟩ : ByteArray).toList.isEmpty = true := by rw [(toList_nil _).2 rfl]; rfl
theorem wS_E : (⟨#[87]⟩ : ByteArray).toList.isEmpty = false := isE_no (by decide)
theorem litI_co (x : Ch) (co co' : ByteArray) (h : co.toList.isEmpty = co'.toList.isEmpty) : litI (phasesL x co) = litI (phasesL x co') := by
  have e0 : ∀ c : ByteArray, ∀ b : Bool, (bif b then c else (⟨#[]⟩ : ByteArray)).toList.isEmpty = (bif b then c.toList.isEmpty else true) := fun c b => by cases b <;> simp
  simp only [litI]
  congr 1
  unfold phasesL
  split
  · simp [h]
  split
  · simp [h]
  · apply List.ext_getElem?
    intro i
    simp only [altL, List.getElem?_map, List.getElem?_mapIdx]
    cases (timesL x ++ [if steadyB x = true then gapI x.k else x.p - (timesL x).sum])[i]? with
    | none => rfl
    | some t => simp only [Option.map_some, altP, e0, h]
theorem lit_bd : ∀ {ps : List Ph}, (∀ p ∈ ps, 0 ≤ p.len ∧ p.len ≤ 600) → 0 ≤ litI ps ∧ litI ps ≤ 600 * ps.length
  | [], _ => by simp [litI]
  | p :: ps, h => by
    have h1 := lit_bd (ps := ps) fun q hq => h q (List.mem_cons_of_mem _ hq)
    have h2 := h p List.mem_cons_self
    have e : litI (p :: ps) = (bif p.c.toList.isEmpty then 0 else p.len) + litI ps := by simp [litI]
    rw [e, List.length_cons]
    cases p.c.toList.isEmpty <;> simp <;> omega
theorem Sl.ph {w : World} {B n : Nat} {A : Option Addr} {xs : List Ph} (h : Sl w B 2 A n (xs.flatMap Ph.cells)) (k : Nat) (hk : k < n) :
    ∃ b off x, A = some ⟨b, off, none⟩ ∧ b < B ∧ xs[k]? = some x ∧ w.cell? ⟨b, off + k * 2, none⟩ = some (.string x.c) ∧ w.cell? ⟨b, off + k * 2 + 1, none⟩ = some (.int .i64 x.len) := by
  obtain ⟨b, off, s, hA, hb, hx, hc⟩ := h.get Ph.cells 2 Ph.cells_len (by omega) k hk
  exact ⟨b, off, s, hA, hb, hx, hc 0 _ rfl, hc 1 _ rfl⟩
theorem colors_one {x : Ch} (h : validB x = true) : 1 ≤ x.cs.size ∧ x.cs.size ≤ 3 := by
  have hsh := valid_shape h
  simp only [shapeB, colorsB, Bool.and_eq_true, decide_eq_true_eq] at hsh
  exact hsh.1.2
theorem one_ne {s : ByteArray} (h : 1 ≤ s.size) : (s.extract 0 1).toList.isEmpty = false := by
  apply isE_no
  rw [ByteArray.size_extract]; omega
set_option maxRecDepth 100000 in
set_option maxHeartbeats 1000000 in
theorem implLit_c (A : Option Addr) (n c : Nat) (x : Ch) (w : World) (sl : Sl w w.heap.size 1 A n (x.gs.flatMap intC)) (hn : n ≤ 1048576) (hlz : x.l.size ≤ 1048576) (hs : x.cs.size ≤ 1048576) :
    Calls Tryz.prog 20 #[chV x.k A n c x.l x.cs x.p] w fun e w' => e = .returned (.tuple #[.int .i64 (bif validB x then litI (phasesL x ⟨#[87]⟩) else 0), .int .i64 (bif validB x then 0 else 1)]) ∧ Below w.heap.size w w' := by
  have hb0 : Below w.heap.size w (w.alloc (.cells #[.int .i64 x.k, .slice A n c, .string x.l, .string x.cs, .int .i64 x.p] 29)) := by (repeat (first | (with_reducible assumption) | (with_reducible exact Below.refl _ _) | exact Nat.le_refl _ | exact Below.size (by with_reducible assumption) | (with_reducible refine Below.drew ?_) | (with_reducible refine below_drewN ?_ _) | (with_reducible refine Below.alloc ?_ ?_ _) | (with_reducible refine Below.setCell ?_ ?_ _) | (with_reducible refine le_alloc ?_ _) | (with_reducible refine le_set ?_ _ _) | (with_reducible refine le_drew ?_) | (with_reducible refine le_drewN ?_ _) | omega | (dsimp only; omega)))
  have sl0 := sl.next hb0
  cases hv : validB x
  · go_enter Tryz.func20, Tryz.ntmps20
    go_wp2_with fail
    refine (implValid_c A n c x _ sl0 hn hlz hs).mono ?_
    rintro e w1 ⟨rfl, hb1⟩
    go_wp2_with fail
    go_ret2
    exact ⟨rfl, hb0.trans (hb1.mono (by simp))⟩
  · obtain ⟨hc1, hc3⟩ := colors_one hv
    have hco := litI_co x ⟨#[87]⟩ (x.cs.extract 0 1) (by rw [one_ne hc1, wS_E])
    have hbd := phases_bd (co := x.cs.extract 0 1) hv
    have hlen := phases_len (co := x.cs.extract 0 1) (valid_shape hv)
    have hc1' : (1 : Int) ≤ (x.cs.size : Int) := by omega
    rw [hco]
    have Hco := Lib.hid hco; clear hco
    have Hbd := Lib.hid hbd; clear hbd
    go_enter Tryz.func20, Tryz.ntmps20
    go_wp2_with fail
    refine (implValid_c A n c x _ sl0 hn hlz hs).mono ?_
    rintro e w1 ⟨rfl, hb1⟩
    have q1 := keepC hb1 w.heap.size (by simp)
    have z1 : w.heap.size < w1.heap.size := Nat.lt_of_lt_of_le (by simp) hb1.size
    have sl1 := sl0.next hb1
    have hbw1 := hb0.trans (hb1.mono hb0.size)
    go_wp2_with fail
    have e1 : ∀ {w' : World}, Below w1.heap.size w1 w' → (Below w1.heap.size w1 w' ∧ (∀ x, w'.cell? ⟨w.heap.size, x, none⟩ = w1.cell? ⟨w.heap.size, x, none⟩)) := fun hb => ⟨hb, keepC hb _ z1⟩
    refine wp_region_held_drew (S := fun w' => Below w1.heap.size w1 w' ∧ (∀ x, w'.cell? ⟨w.heap.size, x, none⟩ = w1.cell? ⟨w.heap.size, x, none⟩)) (by kernel_rfl) (e1 (Below.refl _ _).drew) (fun hHeld => ?_)
    (first
      | (refine wpAnyH_take (i := 0) (v := ?_) rfl (by kernel_rfl) (by kernel_rfl) (by kernel_rfl) (fun _ _ _ h => h) (Or.inl ⟨by rfl, ?_⟩) (by assumption) ?_
         rotate_left
         focus (intro wq hSq; (try dsimp only at hSq); go_simp; (try (with_reducible rfl)); done))
      | (refine wpAnyH_take (i := 0) (v := undef) rfl (by kernel_rfl) (by kernel_rfl) (by kernel_rfl) (fun _ _ _ h => h) (Or.inr ⟨by rfl, rfl⟩) (by assumption) ?_)
      | fail "take 0")
    try simp only [Act.put, List.setIfInBounds_toArray, List.set_cons_zero, List.set_cons_succ, List.getElem_toArray, List.getElem_cons_zero]
    (first
      | (refine wpAnyH_take (i := 1) (v := ?_) rfl (by kernel_rfl) (by kernel_rfl) (by kernel_rfl) (fun _ _ _ h => h) (Or.inl ⟨by rfl, ?_⟩) (by assumption) ?_
         rotate_left
         focus (intro wq hSq; (try dsimp only at hSq); go_simp; (try (with_reducible rfl)); done))
      | (refine wpAnyH_take (i := 1) (v := undef) rfl (by kernel_rfl) (by kernel_rfl) (by kernel_rfl) (fun _ _ _ h => h) (Or.inr ⟨by rfl, rfl⟩) (by assumption) ?_)
      | fail "take 1")
    try simp only [Act.put, List.setIfInBounds_toArray, List.set_cons_zero, List.set_cons_succ, List.getElem_toArray, List.getElem_cons_zero, List.getElem_cons_succ]
    (first
      | (refine wpAnyH_take (i := 2) (v := ?_) rfl (by kernel_rfl) (by kernel_rfl) (by kernel_rfl) (fun _ _ _ h => h) (Or.inl ⟨by rfl, ?_⟩) (by assumption) ?_
         rotate_left
         focus (intro wq hSq; (try dsimp only at hSq); go_simp; (try (with_reducible rfl)); done))
      | (refine wpAnyH_take (i := 2) (v := undef) rfl (by kernel_rfl) (by kernel_rfl) (by kernel_rfl) (fun _ _ _ h => h) (Or.inr ⟨by rfl, rfl⟩) (by assumption) ?_)
      | fail "take 2")
    try simp only [Act.put, List.setIfInBounds_toArray, List.set_cons_zero, List.set_cons_succ, List.getElem_toArray, List.getElem_cons_zero, List.getElem_cons_succ]
    (first
      | (refine wpAnyH_take (i := 3) (v := ?_) rfl (by kernel_rfl) (by kernel_rfl) (by kernel_rfl) (fun _ _ _ h => h) (Or.inl ⟨by rfl, ?_⟩) (by assumption) ?_
         rotate_left
         focus (intro wq hSq; (try dsimp only at hSq); go_simp; (try (with_reducible rfl)); done))
      | (refine wpAnyH_take (i := 3) (v := undef) rfl (by kernel_rfl) (by kernel_rfl) (by kernel_rfl) (fun _ _ _ h => h) (Or.inr ⟨by rfl, rfl⟩) (by assumption) ?_)
      | fail "take 3")
    try simp only [Act.put, List.setIfInBounds_toArray, List.set_cons_zero, List.set_cons_succ, List.getElem_toArray, List.getElem_cons_zero, List.getElem_cons_succ]
    (first
      | (refine wpAnyH_take (i := 6) (v := ?_) rfl (by kernel_rfl) (by kernel_rfl) (by kernel_rfl) (fun _ _ _ h => h) (Or.inl ⟨by rfl, ?_⟩) (by assumption) ?_
         rotate_left
         focus (intro wq hSq; (try dsimp only at hSq); go_simp; (try (with_reducible rfl)); done))
      | (refine wpAnyH_take (i := 6) (v := undef) rfl (by kernel_rfl) (by kernel_rfl) (by kernel_rfl) (fun _ _ _ h => h) (Or.inr ⟨by rfl, rfl⟩) (by assumption) ?_)
      | fail "take 6")
    try simp only [Act.put, List.setIfInBounds_toArray, List.set_cons_zero, List.set_cons_succ, List.getElem_toArray, List.getElem_cons_zero, List.getElem_cons_succ]
    refine wpAnyH_ready (rs := [4]) (by kernel_rfl) (by simp) ?_
    refine AllReadyH.cons (o := _) rfl (fun K hK => ?_) AllReadyH.nil
    go_simp
    refine (phases_c A n c x _ (sl1.next (Below.refl _ _).drew) hn hlz hs _ hv).mono ?_; rintro e w2 ⟨v, rfl, ho, hb2⟩; obtain ⟨AT, cT, rfl⟩ := own_slice ho; have hb12 := (Below.refl w1.heap.size w1).drew.trans hb2
    refine hK.out _ _ ?_ (fun hHeld => ?_)
    · exact e1 hb12
    clear hK K
    try simp only [Act.put, List.setIfInBounds_toArray, List.set_cons_zero, List.set_cons_succ, List.getElem_toArray, List.getElem_cons_zero, List.getElem_cons_succ]
    (first
      | (refine wpAnyH_take (i := 5) (v := ?_) rfl (by kernel_rfl) (by kernel_rfl) (by kernel_rfl) (fun _ _ _ h => h) (Or.inl ⟨by rfl, ?_⟩) (by assumption) ?_
         rotate_left
         focus (intro wq hSq; (try dsimp only at hSq); go_simp; (try (with_reducible rfl)); done))
      | (refine wpAnyH_take (i := 5) (v := undef) rfl (by kernel_rfl) (by kernel_rfl) (by kernel_rfl) (fun _ _ _ h => h) (Or.inr ⟨by rfl, rfl⟩) (by assumption) ?_)
      | fail "take 5")
    try simp only [Act.put, List.setIfInBounds_toArray, List.set_cons_zero, List.set_cons_succ, List.getElem_toArray, List.getElem_cons_zero, List.getElem_cons_succ]
    refine wpAnyH_done (by kernel_rfl) ?_ _
    have sT := Sl.of_own ho
    obtain ⟨ps, hps⟩ : ∃ ps, phasesL x (x.cs.extract 0 1) = ps := ⟨_, rfl⟩
    rw [hps] at sT hlen Hbd ⊢
    have Hps := Lib.hid hps; clear hps
    have hbw2 := hbw1.trans (hb12.mono hbw1.size)
    clear ho e1 hHeld hb2 q1
    go_wp2_with fail
    go_loopw [4, 16] (fun t i wr => ∃ k : Nat, k ≤ ps.length ∧ i = .int .i64 k ∧ t = .int .i64 (litI (ps.take k)) ∧ Below w2.heap.size w2 wr) (fun _ i _ => ps.length - (intOf i).toNat)
    case atStart => exact ⟨0, Nat.zero_le _, rfl, rfl, Below.refl _ _⟩
    case round =>
      obtain ⟨k, hk, rfl, rfl, hbw⟩ := hrel
      by_cases hlt : k < ps.length
      · obtain ⟨b4, off4, p, rfl, hb4, hp4, c1, c2⟩ := sT.ph k hlt
        have q4 := keepC hbw b4 hb4
        have hpb := Hbd.out p (List.mem_of_getElem? hp4)
        have hlb := lit_bd (ps := ps.take k) fun q hq => Hbd.out q (List.mem_of_mem_take hq)
        rw [List.length_take_of_le (by omega)] at hlb
        have hnx := litI_next hp4
        obtain ⟨u1, u2⟩ := hlb
        obtain ⟨u3, u4⟩ := hpb
        have Hp4 := Lib.hid hp4; clear hp4
        cases hE : p.c.toList.isEmpty
        all_goals
          rw [hE] at hnx
          simp only [cond_true, cond_false] at hnx
          have Hnx := Lib.hid hnx; clear hnx
          go_wp2_with fail
          go_roundw
          case rel => exact ⟨k + 1, by omega, by go_num, int_eq (by rw [Hnx.out]; try omega), hbw.alloc hbw.size _⟩
          case measure => simp [intOf]; omega
      · go_wp2_with fail
        go_ret2
        refine ⟨?_, hbw2.trans (hbw.mono hbw2.size)⟩
        rw [List.take_of_length_le (by omega), Hps.out]
        rfl
end Go.Proofs.YtjkjmpmefapnoaaGreatDoor
