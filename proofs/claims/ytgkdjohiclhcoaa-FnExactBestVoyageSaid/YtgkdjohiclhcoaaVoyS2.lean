/- When a ship is back; the codes; VoyageEnd: the reference. -/
import Derived.Test.YtgkdjohiclhcoaaVoyS
import Derived.Test.YtgkdjohiclhcoaaVoyN
namespace Go.Proofs.Ytgkdjohiclhcoaa
open Go.RowKit
set_option maxRecDepth 100000 in
set_option maxHeartbeats 4000000 in
theorem l25End_c (bs : Nat) (s : Sh) (x y t : Int) (AZ : Option Addr) (N cZ : Nat) (zs : List Wk) (A : Option Addr) (n c : Nat) (xs : List Int) (w : World) (hsh : ShP w bs s) (hz : Sl w w.heap.size 7 AZ N (zs.flatMap Wk.cells)) (h : Sl w w.heap.size 4 A n ((callsV s zs ⟨t, x, y⟩ xs).flatMap Cl.cells)) (hm : n ≤ 1048576)
    (hv : VOk s zs ⟨t, x, y⟩ xs) (hok : okV s zs ⟨t, x, y⟩ xs = true) :
    Calls Try.prog 50 #[.pointer (some ⟨bs, 0, none⟩), ptV x y, .slice AZ N cZ, .slice A n c, .int .i64 t] w fun e w' => e = .returned (.int .i64 (endV s zs ⟨t, x, y⟩ xs)) ∧ Below w.heap.size w w' := by
  have hl : xs.length = n := by
    have := h.len Cl.cells 4 Cl.cells_len (by omega)
    rwa [callsV_len] at this
  have hln := hz.len Wk.cells 7 Wk.cells_len (by omega)
  have hb0 : Below w.heap.size w (w.alloc (ptO x y 34)) := by (repeat (first | (with_reducible assumption) | (with_reducible exact Below.refl _ _) | exact Nat.le_refl _ | exact Below.size (by with_reducible assumption) | (with_reducible refine Below.drew ?_) | (with_reducible refine below_drewN ?_ _) | (with_reducible refine Below.alloc ?_ ?_ _) | (with_reducible refine Below.setCell ?_ ?_ _) | (with_reducible refine le_alloc ?_ _) | (with_reducible refine le_set ?_ _ _) | (with_reducible refine le_drew ?_) | (with_reducible refine le_drewN ?_ _) | omega | (dsimp only; omega)))
  have p1 := PtP.box w x y
  obtain ⟨w0, hw⟩ : ∃ w0, w.alloc (ptO x y 34) = w0 := ⟨_, rfl⟩
  rw [hw] at hb0 p1
  obtain ⟨d0, d1, hp1⟩ := p1
  obtain ⟨E, hE⟩ : ∃ E, endV s zs ⟨t, x, y⟩ xs = E := ⟨_, rfl⟩
  obtain ⟨cs, hcs⟩ : ∃ cs, callsV s zs ⟨t, x, y⟩ xs = cs := ⟨_, rfl⟩
  have hpos : n = 0 → E = t := fun h0 => by
    have : xs = [] := List.eq_nil_of_length_eq_zero (by omega)
    rw [← hE, this]; rfl
  have hE2 : 0 < n → E = (posV s zs ⟨t, x, y⟩ xs).t + travI s (posV s zs ⟨t, x, y⟩ xs).x (posV s zs ⟨t, x, y⟩ xs).y x y := fun h0 => by
    rw [← hE, endV]
    cases xs with
    | nil => simp at hl; omega
    | cons _ _ => rfl
  rw [hE]
  rw [hcs] at h
  have Hl := Lib.hid hl; clear hl
  have Hln := Lib.hid hln; clear hln
  have HE := Lib.hid hE; clear hE
  have Hcs := Lib.hid hcs; clear hcs
  have Hz := Lib.hid hz; clear hz
  have H := Lib.hid h; clear h
  have Hv := Lib.hid hv; clear hv
  have Hsh := Lib.hid hsh; clear hsh
  have Hpos := Lib.hid hpos; clear hpos
  have HE2 := Lib.hid hE2; clear hE2
  have Hok := Lib.hid hok; clear hok
  rcases Nat.eq_zero_or_pos n with hn | hn
  · subst hn
    have hEt := Hpos.out rfl
    subst hEt
    go_enter Try.func50, Try.ntmps50
    go_wp2_with fail
    go_ret
    exact ⟨rfl, hb0⟩
  · have hEe := HE2.out hn
    have hPt := Hv.out.posT Hok.out
    have hPp := Hv.out.posP
    have hsp := Hv.out.sp
    obtain ⟨m, hnm⟩ : ∃ m, n = m + 1 := ⟨n - 1, by omega⟩
    have hlast : ∀ z, cs[m]? = some z → z.k ∈ xs ∧ z.en = (posV s zs ⟨t, x, y⟩ xs).t ∧ (wkI zs z.k).x = (posV s zs ⟨t, x, y⟩ xs).x ∧ (wkI zs z.k).y = (posV s zs ⟨t, x, y⟩ xs).y := fun z hz => calls_last (by rw [Hl.out, hnm]) (by rw [Hcs.out]; exact hz)
    obtain ⟨P, hP⟩ : ∃ P, posV s zs ⟨t, x, y⟩ xs = P := ⟨_, rfl⟩
    rw [hP] at hEe hPt hPp hlast
    have hT : ∀ w1, Below w.heap.size w w1 → Calls Try.prog 66 #[.pointer (some ⟨bs, 0, none⟩), ptV P.x P.y, ptV x y] w1 fun e w' => e = .returned (.int .i64 (travI s P.x P.y x y)) ∧ Below w1.heap.size w1 w' := fun w1 hb => l25Travel_c bs s P.x P.y x y w1 (Hsh.out.next hb) hsp hPp Hv.out.pt
    have hTb := trav_bd hsp (root_bd (sqI P.x P.y x y))
    obtain ⟨T, hTe⟩ : ∃ T, travI s P.x P.y x y = T := ⟨_, rfl⟩
    rw [hTe] at hT hTb hEe
    have hAr : IntKind.i64.wrap (P.t + T) = P.t + T := IntWalk.i64_in _ (by omega)
    have hE3 : IntKind.i64.wrap (P.t + T) = E := hAr.trans hEe.symm
    have hn0 : ((n : Int) == 0) = false := by simp; omega
    have j1 : (0 : Int) ≤ (m : Int) := by omega
    have j2 : (m : Int) < (n : Int) := by omega
    have j3 : IntKind.i64.wrap ((n : Int) - 1) = (m : Int) := by rw [IntWalk.i64_in _ (by omega)]; omega
    have j5 : m < n := by omega
    have hrng := Hv.out.ks
    obtain ⟨bc, offc, z, rfl, hbc, hcz, hcp⟩ := H.out.cl (Nat.le_refl _) m j5
    obtain ⟨z1, z2, z3, z4⟩ := hlast z hcz
    have zr := hrng z.k z1
    obtain ⟨q, hq⟩ : ∃ q : Nat, z.k = q := ⟨z.k.toNat, by omega⟩
    obtain ⟨bz, offz, u, rfl, hbz, hzx, hzp⟩ := Hz.out.wk (Nat.le_refl _) q (by rw [← Hln.out]; omega)
    have hzk := wkI_eq hzx
    rw [hq, hzk] at z3 z4
    obtain ⟨k0, k1, k2, k3, hcb⟩ := hcp.next hb0
    rw [hq] at k0
    rw [z2] at k3
    have hu := hzp.next hb0
    have u1 := hu.c1
    have u2 := hu.c2
    have hzb := hu.hb
    rw [z3] at u1
    rw [z4] at u2
    have j6 : (0 : Int) ≤ (q : Int) := by omega
    have j7 : (q : Int) < (N : Int) := by rw [← Hln.out]; omega
    clear hAr hTe hPp hsp hn hlast z1 z2 z3 z4 zr hcp hzp hu hbc hbz hrng k1 k2
    have HEe := Lib.hid hEe; clear hEe
    have HT := Lib.hid hT; clear hT
    have HP := Lib.hid hP; clear hP
    have Hnm := Lib.hid hnm; clear hnm
    have Hcz := Lib.hid hcz; clear hcz
    have Hzx := Lib.hid hzx; clear hzx
    have Hzk := Lib.hid hzk; clear hzk
    have Hq := Lib.hid hq; clear hq
    go_enter Try.func50, Try.ntmps50
    go_wp2_with fail
    try rw [hw]
    clear hw
    have e1 : ∀ {w' : World}, Below w0.heap.size w0 w' → (Below w0.heap.size w0 w' ∧ (∀ i, w'.cell? ⟨bc, i, none⟩ = w0.cell? ⟨bc, i, none⟩) ∧ (∀ i, w'.cell? ⟨w.heap.size, i, none⟩ = w0.cell? ⟨w.heap.size, i, none⟩) ∧ (∀ i, w'.cell? ⟨bz, i, none⟩ = w0.cell? ⟨bz, i, none⟩)) := fun hbb => ⟨hbb, keepC hbb _ hcb, keepC hbb _ hp1, keepC hbb _ hzb⟩
    refine wp_region_held_drew (S := fun w' => Below w0.heap.size w0 w' ∧ (∀ i, w'.cell? ⟨bc, i, none⟩ = w0.cell? ⟨bc, i, none⟩) ∧ (∀ i, w'.cell? ⟨w.heap.size, i, none⟩ = w0.cell? ⟨w.heap.size, i, none⟩) ∧ (∀ i, w'.cell? ⟨bz, i, none⟩ = w0.cell? ⟨bz, i, none⟩)) (by kernel_rfl) (e1 (Below.refl _ _).drew) (fun hHeld => ?_)
    (first
      | (refine wpAnyH_take (i := 0) (v := ?_) rfl (by kernel_rfl) (by kernel_rfl) (by kernel_rfl) (fun _ _ _ h => h) (Or.inl ⟨by rfl, ?_⟩) (by assumption) ?_
         rotate_left
         focus (intro wq hSq; (try dsimp only at hSq); go_simp; (try (with_reducible rfl)); done))
      | (refine wpAnyH_take (i := 0) (v := undef) rfl (by kernel_rfl) (by kernel_rfl) (by kernel_rfl) (fun _ _ _ h => h) (Or.inr ⟨by rfl, rfl⟩) (by assumption) ?_)
      | fail "take 0")
    try simp only [Act.put, List.setIfInBounds_toArray, List.set_cons_zero, List.set_cons_succ, List.getElem_toArray, List.getElem_cons_zero]
    (first
      | (refine wpAnyH_take (i := 1) (v := ?_) rfl (by kernel_rfl) (by kernel_rfl) (by kernel_rfl) (fun _ _ _ h => h) (Or.inl ⟨by rfl, ?_⟩) (by assumption) ?_
         rotate_left
         focus (intro wq hSq; (try dsimp only at hSq); go_simp; (try (with_reducible rfl)); done))
      | (refine wpAnyH_take (i := 1) (v := undef) rfl (by kernel_rfl) (by kernel_rfl) (by kernel_rfl) (fun _ _ _ h => h) (Or.inr ⟨by rfl, rfl⟩) (by assumption) ?_)
      | fail "take 1")
    try simp only [Act.put, List.setIfInBounds_toArray, List.set_cons_zero, List.set_cons_succ, List.getElem_toArray, List.getElem_cons_zero, List.getElem_cons_succ]
    (first
      | (refine wpAnyH_take (i := 2) (v := ?_) rfl (by kernel_rfl) (by kernel_rfl) (by kernel_rfl) (fun _ _ _ h => h) (Or.inl ⟨by rfl, ?_⟩) (by assumption) ?_
         rotate_left
         focus (intro wq hSq; (try dsimp only at hSq); go_simp; (try (with_reducible rfl)); done))
      | (refine wpAnyH_take (i := 2) (v := undef) rfl (by kernel_rfl) (by kernel_rfl) (by kernel_rfl) (fun _ _ _ h => h) (Or.inr ⟨by rfl, rfl⟩) (by assumption) ?_)
      | fail "take 2")
    try simp only [Act.put, List.setIfInBounds_toArray, List.set_cons_zero, List.set_cons_succ, List.getElem_toArray, List.getElem_cons_zero, List.getElem_cons_succ]
    (first
      | (refine wpAnyH_take (i := 3) (v := ?_) rfl (by kernel_rfl) (by kernel_rfl) (by kernel_rfl) (fun _ _ _ h => h) (Or.inl ⟨by rfl, ?_⟩) (by assumption) ?_
         rotate_left
         focus (intro wq hSq; (try dsimp only at hSq); go_simp; (try (with_reducible rfl)); done))
      | (refine wpAnyH_take (i := 3) (v := undef) rfl (by kernel_rfl) (by kernel_rfl) (by kernel_rfl) (fun _ _ _ h => h) (Or.inr ⟨by rfl, rfl⟩) (by assumption) ?_)
      | fail "take 3")
    try simp only [Act.put, List.setIfInBounds_toArray, List.set_cons_zero, List.set_cons_succ, List.getElem_toArray, List.getElem_cons_zero, List.getElem_cons_succ]
    (first
      | (refine wpAnyH_take (i := 4) (v := ?_) rfl (by kernel_rfl) (by kernel_rfl) (by kernel_rfl) (fun _ _ _ h => h) (Or.inl ⟨by rfl, ?_⟩) (by assumption) ?_
         rotate_left
         focus (intro wq hSq; (try dsimp only at hSq); go_simp; (try (with_reducible rfl)); done))
      | (refine wpAnyH_take (i := 4) (v := undef) rfl (by kernel_rfl) (by kernel_rfl) (by kernel_rfl) (fun _ _ _ h => h) (Or.inr ⟨by rfl, rfl⟩) (by assumption) ?_)
      | fail "take 4")
    try simp only [Act.put, List.setIfInBounds_toArray, List.set_cons_zero, List.set_cons_succ, List.getElem_toArray, List.getElem_cons_zero, List.getElem_cons_succ]
    (first
      | (refine wpAnyH_take (i := 5) (v := ?_) rfl (by kernel_rfl) (by kernel_rfl) (by kernel_rfl) (fun _ _ _ h => h) (Or.inl ⟨by rfl, ?_⟩) (by assumption) ?_
         rotate_left
         focus (intro wq hSq; (try dsimp only at hSq); go_simp; (try (with_reducible rfl)); done))
      | (refine wpAnyH_take (i := 5) (v := undef) rfl (by kernel_rfl) (by kernel_rfl) (by kernel_rfl) (fun _ _ _ h => h) (Or.inr ⟨by rfl, rfl⟩) (by assumption) ?_)
      | fail "take 5")
    try simp only [Act.put, List.setIfInBounds_toArray, List.set_cons_zero, List.set_cons_succ, List.getElem_toArray, List.getElem_cons_zero, List.getElem_cons_succ]
    (first
      | (refine wpAnyH_take (i := 6) (v := ?_) rfl (by kernel_rfl) (by kernel_rfl) (by kernel_rfl) (fun _ _ _ h => h) (Or.inl ⟨by rfl, ?_⟩) (by assumption) ?_
         rotate_left
         focus (intro wq hSq; (try dsimp only at hSq); go_simp; (try (with_reducible rfl)); done))
      | (refine wpAnyH_take (i := 6) (v := undef) rfl (by kernel_rfl) (by kernel_rfl) (by kernel_rfl) (fun _ _ _ h => h) (Or.inr ⟨by rfl, rfl⟩) (by assumption) ?_)
      | fail "take 6")
    try simp only [Act.put, List.setIfInBounds_toArray, List.set_cons_zero, List.set_cons_succ, List.getElem_toArray, List.getElem_cons_zero, List.getElem_cons_succ]
    (first
      | (refine wpAnyH_take (i := 7) (v := ?_) rfl (by kernel_rfl) (by kernel_rfl) (by kernel_rfl) (fun _ _ _ h => h) (Or.inl ⟨by rfl, ?_⟩) (by assumption) ?_
         rotate_left
         focus (intro wq hSq; (try dsimp only at hSq); go_simp; (try (with_reducible rfl)); done))
      | (refine wpAnyH_take (i := 7) (v := undef) rfl (by kernel_rfl) (by kernel_rfl) (by kernel_rfl) (fun _ _ _ h => h) (Or.inr ⟨by rfl, rfl⟩) (by assumption) ?_)
      | fail "take 7")
    try simp only [Act.put, List.setIfInBounds_toArray, List.set_cons_zero, List.set_cons_succ, List.getElem_toArray, List.getElem_cons_zero, List.getElem_cons_succ]
    (first
      | (refine wpAnyH_take (i := 8) (v := ?_) rfl (by kernel_rfl) (by kernel_rfl) (by kernel_rfl) (fun _ _ _ h => h) (Or.inl ⟨by rfl, ?_⟩) (by assumption) ?_
         rotate_left
         focus (intro wq hSq; (try dsimp only at hSq); go_simp; (try (with_reducible rfl)); done))
      | (refine wpAnyH_take (i := 8) (v := undef) rfl (by kernel_rfl) (by kernel_rfl) (by kernel_rfl) (fun _ _ _ h => h) (Or.inr ⟨by rfl, rfl⟩) (by assumption) ?_)
      | fail "take 8")
    try simp only [Act.put, List.setIfInBounds_toArray, List.set_cons_zero, List.set_cons_succ, List.getElem_toArray, List.getElem_cons_zero, List.getElem_cons_succ]
    (first
      | (refine wpAnyH_take (i := 9) (v := ?_) rfl (by kernel_rfl) (by kernel_rfl) (by kernel_rfl) (fun _ _ _ h => h) (Or.inl ⟨by rfl, ?_⟩) (by assumption) ?_
         rotate_left
         focus (intro wq hSq; (try dsimp only at hSq); go_simp; (try (with_reducible rfl)); done))
      | (refine wpAnyH_take (i := 9) (v := undef) rfl (by kernel_rfl) (by kernel_rfl) (by kernel_rfl) (fun _ _ _ h => h) (Or.inr ⟨by rfl, rfl⟩) (by assumption) ?_)
      | fail "take 9")
    try simp only [Act.put, List.setIfInBounds_toArray, List.set_cons_zero, List.set_cons_succ, List.getElem_toArray, List.getElem_cons_zero, List.getElem_cons_succ]
    (first
      | (refine wpAnyH_take (i := 10) (v := ?_) rfl (by kernel_rfl) (by kernel_rfl) (by kernel_rfl) (fun _ _ _ h => h) (Or.inl ⟨by rfl, ?_⟩) (by assumption) ?_
         rotate_left
         focus (intro wq hSq; (try dsimp only at hSq); go_simp; (try (with_reducible rfl)); done))
      | (refine wpAnyH_take (i := 10) (v := undef) rfl (by kernel_rfl) (by kernel_rfl) (by kernel_rfl) (fun _ _ _ h => h) (Or.inr ⟨by rfl, rfl⟩) (by assumption) ?_)
      | fail "take 10")
    try simp only [Act.put, List.setIfInBounds_toArray, List.set_cons_zero, List.set_cons_succ, List.getElem_toArray, List.getElem_cons_zero, List.getElem_cons_succ]
    (first
      | (refine wpAnyH_take (i := 11) (v := ?_) rfl (by kernel_rfl) (by kernel_rfl) (by kernel_rfl) (fun _ _ _ h => h) (Or.inl ⟨by rfl, ?_⟩) (by assumption) ?_
         rotate_left
         focus (intro wq hSq; (try dsimp only at hSq); go_simp; (try (with_reducible rfl)); done))
      | (refine wpAnyH_take (i := 11) (v := undef) rfl (by kernel_rfl) (by kernel_rfl) (by kernel_rfl) (fun _ _ _ h => h) (Or.inr ⟨by rfl, rfl⟩) (by assumption) ?_)
      | fail "take 11")
    try simp only [Act.put, List.setIfInBounds_toArray, List.set_cons_zero, List.set_cons_succ, List.getElem_toArray, List.getElem_cons_zero, List.getElem_cons_succ]
    (first
      | (refine wpAnyH_take (i := 12) (v := ?_) rfl (by kernel_rfl) (by kernel_rfl) (by kernel_rfl) (fun _ _ _ h => h) (Or.inl ⟨by rfl, ?_⟩) (by assumption) ?_
         rotate_left
         focus (intro wq hSq; (try dsimp only at hSq); go_simp; (try (with_reducible rfl)); done))
      | (refine wpAnyH_take (i := 12) (v := undef) rfl (by kernel_rfl) (by kernel_rfl) (by kernel_rfl) (fun _ _ _ h => h) (Or.inr ⟨by rfl, rfl⟩) (by assumption) ?_)
      | fail "take 12")
    try simp only [Act.put, List.setIfInBounds_toArray, List.set_cons_zero, List.set_cons_succ, List.getElem_toArray, List.getElem_cons_zero, List.getElem_cons_succ]
    (first
      | (refine wpAnyH_take (i := 13) (v := ?_) rfl (by kernel_rfl) (by kernel_rfl) (by kernel_rfl) (fun _ _ _ h => h) (Or.inl ⟨by rfl, ?_⟩) (by assumption) ?_
         rotate_left
         focus (intro wq hSq; (try dsimp only at hSq); go_simp; (try (with_reducible rfl)); done))
      | (refine wpAnyH_take (i := 13) (v := undef) rfl (by kernel_rfl) (by kernel_rfl) (by kernel_rfl) (fun _ _ _ h => h) (Or.inr ⟨by rfl, rfl⟩) (by assumption) ?_)
      | fail "take 13")
    try simp only [Act.put, List.setIfInBounds_toArray, List.set_cons_zero, List.set_cons_succ, List.getElem_toArray, List.getElem_cons_zero, List.getElem_cons_succ]
    (first
      | (refine wpAnyH_take (i := 14) (v := ?_) rfl (by kernel_rfl) (by kernel_rfl) (by kernel_rfl) (fun _ _ _ h => h) (Or.inl ⟨by rfl, ?_⟩) (by assumption) ?_
         rotate_left
         focus (intro wq hSq; (try dsimp only at hSq); go_simp; (try (with_reducible rfl)); done))
      | (refine wpAnyH_take (i := 14) (v := undef) rfl (by kernel_rfl) (by kernel_rfl) (by kernel_rfl) (fun _ _ _ h => h) (Or.inr ⟨by rfl, rfl⟩) (by assumption) ?_)
      | fail "take 14")
    try simp only [Act.put, List.setIfInBounds_toArray, List.set_cons_zero, List.set_cons_succ, List.getElem_toArray, List.getElem_cons_zero, List.getElem_cons_succ]
    (first
      | (refine wpAnyH_take (i := 15) (v := ?_) rfl (by kernel_rfl) (by kernel_rfl) (by kernel_rfl) (fun _ _ _ h => h) (Or.inl ⟨by rfl, ?_⟩) (by assumption) ?_
         rotate_left
         focus (intro wq hSq; (try dsimp only at hSq); go_simp; (try (with_reducible rfl)); done))
      | (refine wpAnyH_take (i := 15) (v := undef) rfl (by kernel_rfl) (by kernel_rfl) (by kernel_rfl) (fun _ _ _ h => h) (Or.inr ⟨by rfl, rfl⟩) (by assumption) ?_)
      | fail "take 15")
    try simp only [Act.put, List.setIfInBounds_toArray, List.set_cons_zero, List.set_cons_succ, List.getElem_toArray, List.getElem_cons_zero, List.getElem_cons_succ]
    (first
      | (refine wpAnyH_take (i := 16) (v := ?_) rfl (by kernel_rfl) (by kernel_rfl) (by kernel_rfl) (fun _ _ _ h => h) (Or.inl ⟨by rfl, ?_⟩) (by assumption) ?_
         rotate_left
         focus (intro wq hSq; (try dsimp only at hSq); go_simp; (try (with_reducible rfl)); done))
      | (refine wpAnyH_take (i := 16) (v := undef) rfl (by kernel_rfl) (by kernel_rfl) (by kernel_rfl) (fun _ _ _ h => h) (Or.inr ⟨by rfl, rfl⟩) (by assumption) ?_)
      | fail "take 16")
    try simp only [Act.put, List.setIfInBounds_toArray, List.set_cons_zero, List.set_cons_succ, List.getElem_toArray, List.getElem_cons_zero, List.getElem_cons_succ]
    (first
      | (refine wpAnyH_take (i := 17) (v := ?_) rfl (by kernel_rfl) (by kernel_rfl) (by kernel_rfl) (fun _ _ _ h => h) (Or.inl ⟨by rfl, ?_⟩) (by assumption) ?_
         rotate_left
         focus (intro wq hSq; (try dsimp only at hSq); go_simp; (try (with_reducible rfl)); done))
      | (refine wpAnyH_take (i := 17) (v := undef) rfl (by kernel_rfl) (by kernel_rfl) (by kernel_rfl) (fun _ _ _ h => h) (Or.inr ⟨by rfl, rfl⟩) (by assumption) ?_)
      | fail "take 17")
    try simp only [Act.put, List.setIfInBounds_toArray, List.set_cons_zero, List.set_cons_succ, List.getElem_toArray, List.getElem_cons_zero, List.getElem_cons_succ]
    refine wpAnyH_ready (rs := [18]) (by kernel_rfl) (by simp) ?_
    refine AllReadyH.cons (o := _) rfl (fun K hK => ?_) AllReadyH.nil
    go_simp
    refine (HT.out _ hb0.drew).mono ?_; rintro e w7 ⟨rfl, hb7⟩
    refine hK.out _ _ ?_ (fun hHeld => ?_)
    · exact e1 ((Below.refl _ _).drew.trans hb7)
    clear hK K
    try simp only [Act.put, List.setIfInBounds_toArray, List.set_cons_zero, List.set_cons_succ, List.getElem_toArray, List.getElem_cons_zero, List.getElem_cons_succ]
    (first
      | (refine wpAnyH_take (i := 19) (v := ?_) rfl (by kernel_rfl) (by kernel_rfl) (by kernel_rfl) (fun _ _ _ h => h) (Or.inl ⟨by rfl, ?_⟩) (by assumption) ?_
         rotate_left
         focus (intro wq hSq; (try dsimp only at hSq); go_simp; (try (with_reducible rfl)); done))
      | (refine wpAnyH_take (i := 19) (v := undef) rfl (by kernel_rfl) (by kernel_rfl) (by kernel_rfl) (fun _ _ _ h => h) (Or.inr ⟨by rfl, rfl⟩) (by assumption) ?_)
      | fail "take 19")
    try simp only [Act.put, List.setIfInBounds_toArray, List.set_cons_zero, List.set_cons_succ, List.getElem_toArray, List.getElem_cons_zero, List.getElem_cons_succ]
    (first
      | (refine wpAnyH_take (i := 20) (v := ?_) rfl (by kernel_rfl) (by kernel_rfl) (by kernel_rfl) (fun _ _ _ h => h) (Or.inl ⟨by rfl, ?_⟩) (by assumption) ?_
         rotate_left
         focus (intro wq hSq; (try dsimp only at hSq); go_simp; (try (with_reducible rfl)); done))
      | (refine wpAnyH_take (i := 20) (v := undef) rfl (by kernel_rfl) (by kernel_rfl) (by kernel_rfl) (fun _ _ _ h => h) (Or.inr ⟨by rfl, rfl⟩) (by assumption) ?_)
      | fail "take 20")
    try simp only [Act.put, List.setIfInBounds_toArray, List.set_cons_zero, List.set_cons_succ, List.getElem_toArray, List.getElem_cons_zero, List.getElem_cons_succ]
    refine wpAnyH_done (by kernel_rfl) ?_ _
    clear hHeld
    go_wp2_with fail
    go_ret
    exact ⟨rfl, hb0.trans (((Below.refl w0.heap.size w0).drew.trans hb7).mono hb0.size)⟩
/-- The code that the reference gives an order ahead of its calls. -/
noncomputable def saskK (s : Sh) (zs : List Wk) (p : VSt) (ks : List Int) : Int := bif decide (askK s zs p ks = 0) then (bif decide (s.ld < loadV zs ks) then 5 else 0) else askK s zs p ks
set_option maxRecDepth 100000 in
set_option maxHeartbeats 2000000 in
theorem l25Ask_c (bs : Nat) (s : Sh) (x y t : Int) (AZ : Option Addr) (N cZ : Nat) (zs : List Wk) (A : Option Addr) (n c : Nat) (xs : List Int) (w : World) (hsh : ShP w bs s) (hs : s.name.size ≤ maxLen) (hz : Sl w w.heap.size 7 AZ N (zs.flatMap Wk.cells)) (hN : N ≤ 1048576) (hns : ∀ z ∈ zs, z.name.size ≤ maxLen)
    (h : Sl w w.heap.size 1 A n (xs.flatMap intC)) (hm : n ≤ 1048576) (hnc : n ≤ c) :
    Calls Try.prog 48 #[.pointer (some ⟨bs, 0, none⟩), ptV x y, .slice AZ N cZ, .slice A n c, .int .i64 t] w fun e w' => e = .returned (.int .i64 (saskK s zs ⟨t, x, y⟩ xs)) ∧ Below w.heap.size w w' := by
  have hln := hz.len Wk.cells 7 Wk.cells_len (by omega)
  obtain ⟨S, hS0⟩ : ∃ S, shB s = S := ⟨_, rfl⟩
  obtain ⟨P, hP0⟩ : ∃ P, ptB x y = P := ⟨_, rfl⟩
  obtain ⟨W, hW0⟩ : ∃ W, worksB zs = W := ⟨_, rfl⟩
  obtain ⟨T, hT0⟩ : ∃ T, inB t 0 4320 = T := ⟨_, rfl⟩
  obtain ⟨O, hO0⟩ : ∃ O, ordB N xs = O := ⟨_, rfl⟩
  obtain ⟨LD, hLD⟩ : ∃ LD, loadV zs xs = LD := ⟨_, rfl⟩
  have hv0 : askK s zs ⟨t, x, y⟩ xs = bif !(S && (P && W)) then 1 else bif !T then 2 else bif !O then 7 else 0 := by rw [askK, hln, hS0, hP0, hW0, hT0, hO0]
  have hv : saskK s zs ⟨t, x, y⟩ xs = bif !(S && (P && W)) then 1 else bif !T then 2 else bif !O then 7 else bif decide (s.ld < LD) then 5 else 0 := by
    rw [saskK, hv0, hLD]
    cases S <;> cases P <;> cases W <;> cases T <;> cases O <;> rfl
  rw [hv]
  have hS : ∀ w1, Below w.heap.size w w1 → Calls Try.prog 39 #[.pointer (some ⟨bs, 0, none⟩)] w1 fun e w' => e = .returned (.bool S) ∧ w1 = w' := fun w1 hb => hS0 ▸ l25Ship_c bs s w1 (hsh.next hb) hs
  have hP : ∀ w1, Calls Try.prog 40 #[ptV x y] w1 fun e w' => e = .returned (.bool P) ∧ Below w1.heap.size w1 w' := fun w1 => hP0 ▸ l02Ok_c x y w1
  have hW : ∀ w1, Below w.heap.size w w1 → Calls Try.prog 41 #[.slice AZ N cZ] w1 fun e w' => e = .returned (.bool W) ∧ Below w1.heap.size w1 w' := fun w1 hb => hW0 ▸ l25List_c AZ N cZ zs w1 (hz.next hb) hN hns
  have hT : ∀ w1, Calls Try.prog 42 #[.int .i64 t, .int .i64 0, .int .i64 4320] w1 fun e w' => e = .returned (.bool T) ∧ w1 = w' := fun w1 => hT0 ▸ l00In_c _ _ _ w1
  have hO : ∀ w1, Below w.heap.size w w1 → Calls Try.prog 70 #[.slice AZ N cZ, .slice A n c] w1 fun e w' => e = .returned (.bool O) ∧ ∃ q, w' = w1.drewN q := fun w1 hb => hO0 ▸ l25Order_c AZ N cZ A n c xs w1 (h.next hb) hm hN hnc
  have hL : W = true → O = true → ∀ w1, Below w.heap.size w w1 → ∀ q, Calls Try.prog 71 #[.slice AZ N cZ, .slice A n c] (w1.drewN q) fun e w' => e = .returned (.int .i64 LD) ∧ w1.drewN q = w' := fun h1 h2 w1 hb q => by
    rw [← hLD]
    have hk : ∀ k ∈ xs, 0 ≤ k ∧ k < (N : Int) := fun k hk => ordB_mem (hO0.trans h2) k hk
    exact l25Load_c AZ N cZ zs A n c xs _ (hz.next (below_drewN hb q)) (h.next (below_drewN hb q)) hm hk (fun k hk' => (works_bd (hW0.trans h1) k.toNat (by have := hk k hk'; omega)).ld)
  have hb0 : Below w.heap.size w (w.alloc (ptO x y 34)) := by (repeat (first | (with_reducible assumption) | (with_reducible exact Below.refl _ _) | exact Nat.le_refl _ | exact Below.size (by with_reducible assumption) | (with_reducible refine Below.drew ?_) | (with_reducible refine below_drewN ?_ _) | (with_reducible refine Below.alloc ?_ ?_ _) | (with_reducible refine Below.setCell ?_ ?_ _) | (with_reducible refine le_alloc ?_ _) | (with_reducible refine le_set ?_ _ _) | (with_reducible refine le_drew ?_) | (with_reducible refine le_drewN ?_ _) | omega | (dsimp only; omega)))
  have p1 := PtP.box w x y
  obtain ⟨w0, hw⟩ : ∃ w0, w.alloc (ptO x y 34) = w0 := ⟨_, rfl⟩
  rw [hw] at hb0 p1
  obtain ⟨d0, d1, hp1⟩ := p1
  have Hc2 : Hid (∀ w1, Below w.heap.size w w1 → w1.cell? ⟨bs, 2, none⟩ = some (.int .i64 s.ld)) := Lib.hid fun w1 hb => (hsh.next hb).c2
  clear hv hv0 hS0 hP0 hW0 hT0 hO0 hz h hln hLD hsh
  have HS := Lib.hid hS; clear hS
  have HP := Lib.hid hP; clear hP
  have HW := Lib.hid hW; clear hW
  have HT := Lib.hid hT; clear hT
  have HO := Lib.hid hO; clear hO
  have HL := Lib.hid hL; clear hL
  cases S
  · go_enter Try.func48, Try.ntmps48
    go_wp2_with fail
    try rw [hw]
    clear hw
    go_wp2_with (first | (go_at_call 39; refine (HS.out _ hb0).mono ?_; rintro e w1 ⟨rfl, rfl⟩) | (go_at_call 40; refine (HP.out _).mono ?_; rintro e w2 ⟨rfl, hb2⟩) | (go_at_call 41; refine (HW.out _ (hb0.trans (hb2.mono hb0.size))).mono ?_; rintro e w3 ⟨rfl, hb3⟩) | (go_at_call 42; refine (HT.out _).mono ?_; rintro e w4 ⟨rfl, rfl⟩) | (go_at_call 70; refine (HO.out _ (hb0.trans ((hb2.trans (hb3.mono hb2.size)).mono hb0.size))).mono ?_; rintro e w5 ⟨rfl, q5, rfl⟩))
    go_ret
    exact ⟨rfl, hb0⟩
  cases P
  · go_enter Try.func48, Try.ntmps48
    go_wp2_with fail
    try rw [hw]
    clear hw
    go_wp2_with (first | (go_at_call 39; refine (HS.out _ hb0).mono ?_; rintro e w1 ⟨rfl, rfl⟩) | (go_at_call 40; refine (HP.out _).mono ?_; rintro e w2 ⟨rfl, hb2⟩) | (go_at_call 41; refine (HW.out _ (hb0.trans (hb2.mono hb0.size))).mono ?_; rintro e w3 ⟨rfl, hb3⟩) | (go_at_call 42; refine (HT.out _).mono ?_; rintro e w4 ⟨rfl, rfl⟩) | (go_at_call 70; refine (HO.out _ (hb0.trans ((hb2.trans (hb3.mono hb2.size)).mono hb0.size))).mono ?_; rintro e w5 ⟨rfl, q5, rfl⟩))
    go_ret
    exact ⟨rfl, hb0.trans (hb2.mono hb0.size)⟩
  cases W
  · go_enter Try.func48, Try.ntmps48
    go_wp2_with fail
    try rw [hw]
    clear hw
    go_wp2_with (first | (go_at_call 39; refine (HS.out _ hb0).mono ?_; rintro e w1 ⟨rfl, rfl⟩) | (go_at_call 40; refine (HP.out _).mono ?_; rintro e w2 ⟨rfl, hb2⟩) | (go_at_call 41; refine (HW.out _ (hb0.trans (hb2.mono hb0.size))).mono ?_; rintro e w3 ⟨rfl, hb3⟩) | (go_at_call 42; refine (HT.out _).mono ?_; rintro e w4 ⟨rfl, rfl⟩) | (go_at_call 70; refine (HO.out _ (hb0.trans ((hb2.trans (hb3.mono hb2.size)).mono hb0.size))).mono ?_; rintro e w5 ⟨rfl, q5, rfl⟩))
    go_ret
    exact ⟨rfl, hb0.trans ((hb2.trans (hb3.mono hb2.size)).mono hb0.size)⟩
  cases T
  · go_enter Try.func48, Try.ntmps48
    go_wp2_with fail
    try rw [hw]
    clear hw
    go_wp2_with (first | (go_at_call 39; refine (HS.out _ hb0).mono ?_; rintro e w1 ⟨rfl, rfl⟩) | (go_at_call 40; refine (HP.out _).mono ?_; rintro e w2 ⟨rfl, hb2⟩) | (go_at_call 41; refine (HW.out _ (hb0.trans (hb2.mono hb0.size))).mono ?_; rintro e w3 ⟨rfl, hb3⟩) | (go_at_call 42; refine (HT.out _).mono ?_; rintro e w4 ⟨rfl, rfl⟩) | (go_at_call 70; refine (HO.out _ (hb0.trans ((hb2.trans (hb3.mono hb2.size)).mono hb0.size))).mono ?_; rintro e w5 ⟨rfl, q5, rfl⟩))
    go_ret
    exact ⟨rfl, hb0.trans ((hb2.trans (hb3.mono hb2.size)).mono hb0.size)⟩
  cases O
  · go_enter Try.func48, Try.ntmps48
    go_wp2_with fail
    try rw [hw]
    clear hw
    go_wp2_with (first | (go_at_call 39; refine (HS.out _ hb0).mono ?_; rintro e w1 ⟨rfl, rfl⟩) | (go_at_call 40; refine (HP.out _).mono ?_; rintro e w2 ⟨rfl, hb2⟩) | (go_at_call 41; refine (HW.out _ (hb0.trans (hb2.mono hb0.size))).mono ?_; rintro e w3 ⟨rfl, hb3⟩) | (go_at_call 42; refine (HT.out _).mono ?_; rintro e w4 ⟨rfl, rfl⟩) | (go_at_call 70; refine (HO.out _ (hb0.trans ((hb2.trans (hb3.mono hb2.size)).mono hb0.size))).mono ?_; rintro e w5 ⟨rfl, q5, rfl⟩))
    go_ret
    exact ⟨rfl, below_drewN (hb0.trans ((hb2.trans (hb3.mono hb2.size)).mono hb0.size)) _⟩
  · by_cases hld : s.ld < LD
    · have hd : decide (s.ld < LD) = true := decide_eq_true hld
      rw [hd]
      clear hd
      go_enter Try.func48, Try.ntmps48
      go_wp2_with fail
      try rw [hw]
      clear hw
      go_wp2_with (first | (go_at_call 39; refine (HS.out _ hb0).mono ?_; rintro e w1 ⟨rfl, rfl⟩) | (go_at_call 40; refine (HP.out _).mono ?_; rintro e w2 ⟨rfl, hb2⟩) | (go_at_call 41; refine (HW.out _ (hb0.trans (hb2.mono hb0.size))).mono ?_; rintro e w3 ⟨rfl, hb3⟩) | (go_at_call 42; refine (HT.out _).mono ?_; rintro e w4 ⟨rfl, rfl⟩) | (go_at_call 70; refine (HO.out _ (hb0.trans ((hb2.trans (hb3.mono hb2.size)).mono hb0.size))).mono ?_; rintro e w5 ⟨rfl, q5, rfl⟩))
      generalize hw6 : w3.drewN q5 = w6
      have hb6 : Below w.heap.size w w6 := by rw [← hw6]; exact below_drewN (hb0.trans ((hb2.trans (hb3.mono hb2.size)).mono hb0.size)) _
      have k2 := Hc2.out _ hb6
      have hLL := HL.out (by trivial) (by trivial) w6 hb6
      have HLL := Lib.hid hLL; clear hLL
      clear hw6 d0 d1
      go_quiet ((go_at_call 71; exact quiet_c (HLL.out _)))
      go_wp2_with fail
      go_ret
      exact ⟨rfl, below_drewN hb6 _⟩
    · have hd : decide (s.ld < LD) = false := decide_eq_false hld
      rw [hd]
      clear hd
      go_enter Try.func48, Try.ntmps48
      go_wp2_with fail
      try rw [hw]
      clear hw
      go_wp2_with (first | (go_at_call 39; refine (HS.out _ hb0).mono ?_; rintro e w1 ⟨rfl, rfl⟩) | (go_at_call 40; refine (HP.out _).mono ?_; rintro e w2 ⟨rfl, hb2⟩) | (go_at_call 41; refine (HW.out _ (hb0.trans (hb2.mono hb0.size))).mono ?_; rintro e w3 ⟨rfl, hb3⟩) | (go_at_call 42; refine (HT.out _).mono ?_; rintro e w4 ⟨rfl, rfl⟩) | (go_at_call 70; refine (HO.out _ (hb0.trans ((hb2.trans (hb3.mono hb2.size)).mono hb0.size))).mono ?_; rintro e w5 ⟨rfl, q5, rfl⟩))
      generalize hw6 : w3.drewN q5 = w6
      have hb6 : Below w.heap.size w w6 := by rw [← hw6]; exact below_drewN (hb0.trans ((hb2.trans (hb3.mono hb2.size)).mono hb0.size)) _
      have k2 := Hc2.out _ hb6
      have hLL := HL.out (by trivial) (by trivial) w6 hb6
      have HLL := Lib.hid hLL; clear hLL
      clear hw6 d0 d1
      go_quiet ((go_at_call 71; exact quiet_c (HLL.out _)))
      go_wp2_with fail
      go_ret
      exact ⟨rfl, below_drewN hb6 _⟩
end Go.Proofs.Ytgkdjohiclhcoaa
