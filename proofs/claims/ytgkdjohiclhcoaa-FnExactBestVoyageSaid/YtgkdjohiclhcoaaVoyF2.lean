/- The search for the best voyage: visit. -/
import Derived.Test.YtgkdjohiclhcoaaVoyF1
import Derived.RegionTactic
import Derived.BigRegion
import Derived.Deep.DeepCutAuto
import Derived.Deep.LoopGhost
import Derived.Deep.RegionLaw
namespace Go.Proofs.Ytgkdjohiclhcoaa
open Go.RowKit
set_option maxRecDepth 100000 in
set_option maxHeartbeats 4000000 in
theorem visit_c (X bs : Nat) (s : Sh) (x y t : Int) (AZ : Option Addr) (N cZ : Nat) (zs : List Wk) (bu : Nat) (hbu : bu ≤ 20000) (f : Nat) : ∀ (ks : List Int) (n l : Nat) (b : BSt) (Ao : Option Addr) (co : Nat) (Ac : Option Addr) (cc : Nat) (w : World), SX w X bs s x y t AZ N cZ zs bu ks n ((bu : Int) - l) b Ao co Ac cc →
    VOk s zs ⟨t, x, y⟩ ks → voyK s zs ⟨t, x, y⟩ ks = 0 → l ≤ f → n + l ≤ bu →
    Calls Try.prog 73 #[.pointer (some ⟨X, 0, none⟩)] w (VisAns X bs s x y t AZ N cZ zs bu ks n Ao co Ac cc (dfs s zs ⟨t, x, y⟩ f ks (l, b)) l w) := by
  induction f with
  | zero =>
    intro ks n l b Ao co Ac cc w hx hv h0 hl hnl
    obtain rfl : l = 0 := by omega
    rw [dfs_zero]
    obtain ⟨C, vb, E, F, hV, hbb⟩ := hx
    obtain ⟨D, hD⟩ : ∃ D : Int, D = bu - ((0 : Nat) : Int) := ⟨_, rfl⟩
    rw [← hD] at hV
    have hDb : D = bu := by omega
    have hg : (bu : Int) < D + 1 := by omega
    have hD0 : 0 ≤ D ∧ D ≤ 20000 := by omega
    have hr := hV.row
    have r0 := (cell_of_row w X 0 _ _ _ hr).trans rfl
    have r1 := (cell_of_row w X 1 _ _ _ hr).trans rfl
    have r2 := (cell_of_row w X 2 _ _ _ hr).trans rfl
    have r3 := (cell_of_row w X 3 _ _ _ hr).trans rfl
    have r4 := (cell_of_row w X 4 _ _ _ hr).trans rfl
    have r5 := (cell_of_row w X 5 _ _ _ hr).trans rfl
    have r6 := (cell_of_row w X 6 _ _ _ hr).trans rfl
    have r7 := (cell_of_row w X 7 _ _ _ hr).trans rfl
    have r8 := (cell_of_row w X 8 _ _ _ hr).trans rfl
    have r9 := (cell_of_row w X 9 _ _ _ hr).trans rfl
    have r10 := (cell_of_row w X 10 _ _ _ hr).trans rfl
    have r11 := (cell_of_row w X 11 _ _ _ hr).trans rfl
    have r12 := (cell_of_row w X 12 _ _ _ hr).trans rfl
    have r13 := (cell_of_row w X 13 _ _ _ hr).trans rfl
    have r14 := (cell_of_row w X 14 _ _ _ hr).trans rfl
    have rf := fun j => frozen_of_row w X j _ _ hr
    obtain ⟨hV1, hb1⟩ := hV.setX (i := 13) (u := .int .i64 (D + 1)) (D' := D + 1) rfl
    have hB1 := hbb.setX (i := 13) (u := .int .i64 (D + 1))
    have HV1 := Lib.hid hV1; clear hV1
    have HB1 := Lib.hid hB1; clear hB1
    have Hb1 := Lib.hid hb1; clear hb1
    have HD := Lib.hid hD; clear hD
    have HDb := Lib.hid hDb; clear hDb
    have Hr := Lib.hid hr; clear hr
    clear hV hbb
    go_enter Try.func73, Try.ntmps73
    go_wp2_with fail
    obtain ⟨w1, hw1⟩ : ∃ w1, w.setCell ⟨X, 13, none⟩ (.int .i64 (D + 1)) = w1 := ⟨_, rfl⟩
    rw [hw1] at HV1 HB1 Hb1 ⊢
    have hr := HV1.out.row
    clear r0 r1 r2 r3 r4 r5 r6 r7 r8 r9 r10 r11 r12 r13 r14 rf
    clear hw1 Hr
    have r0 := (cell_of_row w1 X 0 _ _ _ hr).trans rfl
    have r1 := (cell_of_row w1 X 1 _ _ _ hr).trans rfl
    have r2 := (cell_of_row w1 X 2 _ _ _ hr).trans rfl
    have r3 := (cell_of_row w1 X 3 _ _ _ hr).trans rfl
    have r4 := (cell_of_row w1 X 4 _ _ _ hr).trans rfl
    have r5 := (cell_of_row w1 X 5 _ _ _ hr).trans rfl
    have r6 := (cell_of_row w1 X 6 _ _ _ hr).trans rfl
    have r7 := (cell_of_row w1 X 7 _ _ _ hr).trans rfl
    have r8 := (cell_of_row w1 X 8 _ _ _ hr).trans rfl
    have r9 := (cell_of_row w1 X 9 _ _ _ hr).trans rfl
    have r10 := (cell_of_row w1 X 10 _ _ _ hr).trans rfl
    have r11 := (cell_of_row w1 X 11 _ _ _ hr).trans rfl
    have r12 := (cell_of_row w1 X 12 _ _ _ hr).trans rfl
    have r13 := (cell_of_row w1 X 13 _ _ _ hr).trans rfl
    have r14 := (cell_of_row w1 X 14 _ _ _ hr).trans rfl
    have rf := fun j => frozen_of_row w1 X j _ _ hr
    have Hr := Lib.hid hr; clear hr
    go_quiet (fail)
    go_wp2_with fail
    go_ret
    have hd := fun k => below_drewN (Below.refl w1.heap.size w1) k
    exact ⟨false, D + 1, b, Ao, co, Ac, cc, rfl, ⟨_, _, _, _, HV1.out.next (hd _), HB1.out.next (hd _)⟩, (Fr.rng Hb1.out).trans (Fr.below (hd _)), rfl, by rw [HDb.out]⟩
  | succ f ih =>
    intro ks n l b Ao co Ac cc w hx hv h0 hl hnl
    by_cases hl0 : l = 0
    · subst hl0
      rw [dfs_zero]
      obtain ⟨C, vb, E, F, hV, hbb⟩ := hx
      obtain ⟨D, hD⟩ : ∃ D : Int, D = bu - ((0 : Nat) : Int) := ⟨_, rfl⟩
      rw [← hD] at hV
      have hDb : D = bu := by omega
      have hg : (bu : Int) < D + 1 := by omega
      have hD0 : 0 ≤ D ∧ D ≤ 20000 := by omega
      have hr := hV.row
      have r0 := (cell_of_row w X 0 _ _ _ hr).trans rfl
      have r1 := (cell_of_row w X 1 _ _ _ hr).trans rfl
      have r2 := (cell_of_row w X 2 _ _ _ hr).trans rfl
      have r3 := (cell_of_row w X 3 _ _ _ hr).trans rfl
      have r4 := (cell_of_row w X 4 _ _ _ hr).trans rfl
      have r5 := (cell_of_row w X 5 _ _ _ hr).trans rfl
      have r6 := (cell_of_row w X 6 _ _ _ hr).trans rfl
      have r7 := (cell_of_row w X 7 _ _ _ hr).trans rfl
      have r8 := (cell_of_row w X 8 _ _ _ hr).trans rfl
      have r9 := (cell_of_row w X 9 _ _ _ hr).trans rfl
      have r10 := (cell_of_row w X 10 _ _ _ hr).trans rfl
      have r11 := (cell_of_row w X 11 _ _ _ hr).trans rfl
      have r12 := (cell_of_row w X 12 _ _ _ hr).trans rfl
      have r13 := (cell_of_row w X 13 _ _ _ hr).trans rfl
      have r14 := (cell_of_row w X 14 _ _ _ hr).trans rfl
      have rf := fun j => frozen_of_row w X j _ _ hr
      obtain ⟨hV1, hb1⟩ := hV.setX (i := 13) (u := .int .i64 (D + 1)) (D' := D + 1) rfl
      have hB1 := hbb.setX (i := 13) (u := .int .i64 (D + 1))
      have HV1 := Lib.hid hV1; clear hV1
      have HB1 := Lib.hid hB1; clear hB1
      have Hb1 := Lib.hid hb1; clear hb1
      have HD := Lib.hid hD; clear hD
      have HDb := Lib.hid hDb; clear hDb
      have Hr := Lib.hid hr; clear hr
      clear hV hbb
      go_enter Try.func73, Try.ntmps73
      go_wp2_with fail
      obtain ⟨w1, hw1⟩ : ∃ w1, w.setCell ⟨X, 13, none⟩ (.int .i64 (D + 1)) = w1 := ⟨_, rfl⟩
      rw [hw1] at HV1 HB1 Hb1 ⊢
      have hr := HV1.out.row
      clear r0 r1 r2 r3 r4 r5 r6 r7 r8 r9 r10 r11 r12 r13 r14 rf
      clear hw1 Hr
      have r0 := (cell_of_row w1 X 0 _ _ _ hr).trans rfl
      have r1 := (cell_of_row w1 X 1 _ _ _ hr).trans rfl
      have r2 := (cell_of_row w1 X 2 _ _ _ hr).trans rfl
      have r3 := (cell_of_row w1 X 3 _ _ _ hr).trans rfl
      have r4 := (cell_of_row w1 X 4 _ _ _ hr).trans rfl
      have r5 := (cell_of_row w1 X 5 _ _ _ hr).trans rfl
      have r6 := (cell_of_row w1 X 6 _ _ _ hr).trans rfl
      have r7 := (cell_of_row w1 X 7 _ _ _ hr).trans rfl
      have r8 := (cell_of_row w1 X 8 _ _ _ hr).trans rfl
      have r9 := (cell_of_row w1 X 9 _ _ _ hr).trans rfl
      have r10 := (cell_of_row w1 X 10 _ _ _ hr).trans rfl
      have r11 := (cell_of_row w1 X 11 _ _ _ hr).trans rfl
      have r12 := (cell_of_row w1 X 12 _ _ _ hr).trans rfl
      have r13 := (cell_of_row w1 X 13 _ _ _ hr).trans rfl
      have r14 := (cell_of_row w1 X 14 _ _ _ hr).trans rfl
      have rf := fun j => frozen_of_row w1 X j _ _ hr
      have Hr := Lib.hid hr; clear hr
      go_quiet (fail)
      go_wp2_with fail
      go_ret
      have hd := fun k => below_drewN (Below.refl w1.heap.size w1) k
      exact ⟨false, D + 1, b, Ao, co, Ac, cc, rfl, ⟨_, _, _, _, HV1.out.next (hd _), HB1.out.next (hd _)⟩, (Fr.rng Hb1.out).trans (Fr.below (hd _)), rfl, by rw [HDb.out]⟩
    · have hlt : 0 < l := by omega
      obtain ⟨i0, hi, hz0, hz1, hz2⟩ := info_parts intInfo
      obtain ⟨q0, hq, hy0, hy1, hy2⟩ := info_parts clInfo
      rw [dfs_next hlt]
      obtain ⟨DD, hDD⟩ : ∃ DD, goD (dfs s zs ⟨t, x, y⟩ f) (okK s zs ⟨t, x, y⟩ ks) ks (l - 1, updB s zs ⟨t, x, y⟩ ks b) zs.length = DD := ⟨_, rfl⟩
      rw [hDD]
      obtain ⟨C, vb, E, F, hV, hbb⟩ := hx
      obtain ⟨D, hD⟩ : ∃ D : Int, D = bu - l := ⟨_, rfl⟩
      rw [← hD] at hV
      have hD0 : 0 ≤ D ∧ D ≤ 20000 := by omega
      have hg : ¬ (bu : Int) < D + 1 := by omega
      have hgd : decide ((bu : Int) < D + 1) = false := decide_eq_false hg
      have hXl := hV.hX
      have hln := hV.hz.len Wk.cells 7 Wk.cells_len (by omega)
      have hN12 : N ≤ 12 := by have := hv.n; omega
      have hnk : ks.length = n := (Sl.of_own hV.oo).len intC 1 intC_len (by omega)
      have hr := hV.row
      have r0 := (cell_of_row w X 0 _ _ _ hr).trans rfl
      have r1 := (cell_of_row w X 1 _ _ _ hr).trans rfl
      have r2 := (cell_of_row w X 2 _ _ _ hr).trans rfl
      have r3 := (cell_of_row w X 3 _ _ _ hr).trans rfl
      have r4 := (cell_of_row w X 4 _ _ _ hr).trans rfl
      have r5 := (cell_of_row w X 5 _ _ _ hr).trans rfl
      have r6 := (cell_of_row w X 6 _ _ _ hr).trans rfl
      have r7 := (cell_of_row w X 7 _ _ _ hr).trans rfl
      have r8 := (cell_of_row w X 8 _ _ _ hr).trans rfl
      have r9 := (cell_of_row w X 9 _ _ _ hr).trans rfl
      have r10 := (cell_of_row w X 10 _ _ _ hr).trans rfl
      have r11 := (cell_of_row w X 11 _ _ _ hr).trans rfl
      have r12 := (cell_of_row w X 12 _ _ _ hr).trans rfl
      have r13 := (cell_of_row w X 13 _ _ _ hr).trans rfl
      have r14 := (cell_of_row w X 14 _ _ _ hr).trans rfl
      have rf := fun j => frozen_of_row w X j _ _ hr
      obtain ⟨hV1, hb1⟩ := hV.setX (i := 13) (u := .int .i64 (D + 1)) (D' := D + 1) rfl
      have hB1 := hbb.setX (i := 13) (u := .int .i64 (D + 1))
      have HV1 := Lib.hid hV1; clear hV1
      have HB1 := Lib.hid hB1; clear hB1
      have Hb1 := Lib.hid hb1; clear hb1
      have HD := Lib.hid hD; clear hD
      have HDD := Lib.hid hDD; clear hDD
      have Hr := Lib.hid hr; clear hr
      have Hv := Lib.hid hv; clear hv
      have H0 := Lib.hid h0; clear h0
      have Hln := Lib.hid hln; clear hln
      have Hnk := Lib.hid hnk; clear hnk
      clear hV hbb
      go_enter Try.func73, Try.ntmps73
      go_wp2_with fail
      obtain ⟨w1, hw1⟩ : ∃ w1, w.setCell ⟨X, 13, none⟩ (.int .i64 (D + 1)) = w1 := ⟨_, rfl⟩
      rw [hw1] at HV1 HB1 Hb1 ⊢
      have hXl1 := HV1.out.hX
      have hr := HV1.out.row
      clear r0 r1 r2 r3 r4 r5 r6 r7 r8 r9 r10 r11 r12 r13 r14 rf
      clear hw1 Hr
      have r0 := (cell_of_row w1 X 0 _ _ _ hr).trans rfl
      have r1 := (cell_of_row w1 X 1 _ _ _ hr).trans rfl
      have r2 := (cell_of_row w1 X 2 _ _ _ hr).trans rfl
      have r3 := (cell_of_row w1 X 3 _ _ _ hr).trans rfl
      have r4 := (cell_of_row w1 X 4 _ _ _ hr).trans rfl
      have r5 := (cell_of_row w1 X 5 _ _ _ hr).trans rfl
      have r6 := (cell_of_row w1 X 6 _ _ _ hr).trans rfl
      have r7 := (cell_of_row w1 X 7 _ _ _ hr).trans rfl
      have r8 := (cell_of_row w1 X 8 _ _ _ hr).trans rfl
      have r9 := (cell_of_row w1 X 9 _ _ _ hr).trans rfl
      have r10 := (cell_of_row w1 X 10 _ _ _ hr).trans rfl
      have r11 := (cell_of_row w1 X 11 _ _ _ hr).trans rfl
      have r12 := (cell_of_row w1 X 12 _ _ _ hr).trans rfl
      have r13 := (cell_of_row w1 X 13 _ _ _ hr).trans rfl
      have r14 := (cell_of_row w1 X 14 _ _ _ hr).trans rfl
      have rf := fun j => frozen_of_row w1 X j _ _ hr
      have Hr := Lib.hid hr; clear hr
      refine wp_region_held_drew (S := fun w' => w'.cell? ⟨X, 13, none⟩ = some (.int .i64 (D + 1)) ∧ w'.cell? ⟨X, 14, none⟩ = some (.int .i64 bu)) (by kernel_rfl) ⟨r13, r14⟩ (fun hHeld => ?_)
      (first
        | (refine wpAnyH_take (i := 0) (v := ?_) rfl (by kernel_rfl) (by kernel_rfl) (by kernel_rfl) (fun _ _ _ h => h) (Or.inl ⟨by rfl, ?_⟩) (by assumption) ?_
           rotate_left
           focus (intro wq hSq; (try dsimp only at hSq); go_simp; (try (with_reducible rfl)); done))
        | (refine wpAnyH_take (i := 0) (v := undef) rfl (by kernel_rfl) (by kernel_rfl) (by kernel_rfl) (fun _ _ _ h => h) (Or.inr ⟨by rfl, rfl⟩) (by assumption) ?_)
        | fail "take 0")
      try simp only [Act.put, List.setIfInBounds_toArray, List.set_cons_zero, List.set_cons_succ, List.getElem_toArray, List.getElem_cons_zero]
      (first
        | (refine wpAnyH_take (i := 1) (v := ?_) rfl (by kernel_rfl) (by kernel_rfl) (by kernel_rfl) (fun _ _ _ h => h) (Or.inl ⟨by rfl, ?_⟩) (by assumption) ?_
           rotate_left
           focus (intro wq hSq; (try dsimp only at hSq); go_simp; (try (with_reducible rfl)); done))
        | (refine wpAnyH_take (i := 1) (v := undef) rfl (by kernel_rfl) (by kernel_rfl) (by kernel_rfl) (fun _ _ _ h => h) (Or.inr ⟨by rfl, rfl⟩) (by assumption) ?_)
        | fail "take 1")
      try simp only [Act.put, List.setIfInBounds_toArray, List.set_cons_zero, List.set_cons_succ, List.getElem_toArray, List.getElem_cons_zero, List.getElem_cons_succ]
      (first
        | (refine wpAnyH_take (i := 2) (v := ?_) rfl (by kernel_rfl) (by kernel_rfl) (by kernel_rfl) (fun _ _ _ h => h) (Or.inl ⟨by rfl, ?_⟩) (by assumption) ?_
           rotate_left
           focus (intro wq hSq; (try dsimp only at hSq); go_simp; (try (with_reducible rfl)); done))
        | (refine wpAnyH_take (i := 2) (v := undef) rfl (by kernel_rfl) (by kernel_rfl) (by kernel_rfl) (fun _ _ _ h => h) (Or.inr ⟨by rfl, rfl⟩) (by assumption) ?_)
        | fail "take 2")
      try simp only [Act.put, List.setIfInBounds_toArray, List.set_cons_zero, List.set_cons_succ, List.getElem_toArray, List.getElem_cons_zero, List.getElem_cons_succ]
      (first
        | (refine wpAnyH_take (i := 3) (v := ?_) rfl (by kernel_rfl) (by kernel_rfl) (by kernel_rfl) (fun _ _ _ h => h) (Or.inl ⟨by rfl, ?_⟩) (by assumption) ?_
           rotate_left
           focus (intro wq hSq; (try dsimp only at hSq); go_simp; (try (with_reducible rfl)); done))
        | (refine wpAnyH_take (i := 3) (v := undef) rfl (by kernel_rfl) (by kernel_rfl) (by kernel_rfl) (fun _ _ _ h => h) (Or.inr ⟨by rfl, rfl⟩) (by assumption) ?_)
        | fail "take 3")
      try simp only [Act.put, List.setIfInBounds_toArray, List.set_cons_zero, List.set_cons_succ, List.getElem_toArray, List.getElem_cons_zero, List.getElem_cons_succ]
      (first
        | (refine wpAnyH_take (i := 4) (v := ?_) rfl (by kernel_rfl) (by kernel_rfl) (by kernel_rfl) (fun _ _ _ h => h) (Or.inl ⟨by rfl, ?_⟩) (by assumption) ?_
           rotate_left
           focus (intro wq hSq; (try dsimp only at hSq); go_simp; (try (with_reducible rfl)); done))
        | (refine wpAnyH_take (i := 4) (v := undef) rfl (by kernel_rfl) (by kernel_rfl) (by kernel_rfl) (fun _ _ _ h => h) (Or.inr ⟨by rfl, rfl⟩) (by assumption) ?_)
        | fail "take 4")
      try simp only [Act.put, List.setIfInBounds_toArray, List.set_cons_zero, List.set_cons_succ, List.getElem_toArray, List.getElem_cons_zero, List.getElem_cons_succ]
      (first
        | (refine wpAnyH_take (i := 5) (v := ?_) rfl (by kernel_rfl) (by kernel_rfl) (by kernel_rfl) (fun _ _ _ h => h) (Or.inl ⟨by rfl, ?_⟩) (by assumption) ?_
           rotate_left
           focus (intro wq hSq; (try dsimp only at hSq); go_simp; (try (with_reducible rfl)); done))
        | (refine wpAnyH_take (i := 5) (v := undef) rfl (by kernel_rfl) (by kernel_rfl) (by kernel_rfl) (fun _ _ _ h => h) (Or.inr ⟨by rfl, rfl⟩) (by assumption) ?_)
        | fail "take 5")
      try simp only [Act.put, List.setIfInBounds_toArray, List.set_cons_zero, List.set_cons_succ, List.getElem_toArray, List.getElem_cons_zero, List.getElem_cons_succ]
      (first
        | (refine wpAnyH_take (i := 6) (v := ?_) rfl (by kernel_rfl) (by kernel_rfl) (by kernel_rfl) (fun _ _ _ h => h) (Or.inl ⟨by rfl, ?_⟩) (by assumption) ?_
           rotate_left
           focus (intro wq hSq; (try dsimp only at hSq); go_simp; (try (with_reducible rfl)); done))
        | (refine wpAnyH_take (i := 6) (v := undef) rfl (by kernel_rfl) (by kernel_rfl) (by kernel_rfl) (fun _ _ _ h => h) (Or.inr ⟨by rfl, rfl⟩) (by assumption) ?_)
        | fail "take 6")
      try simp only [Act.put, List.setIfInBounds_toArray, List.set_cons_zero, List.set_cons_succ, List.getElem_toArray, List.getElem_cons_zero, List.getElem_cons_succ]
      (first
        | (refine wpAnyH_take (i := 7) (v := ?_) rfl (by kernel_rfl) (by kernel_rfl) (by kernel_rfl) (fun _ _ _ h => h) (Or.inl ⟨by rfl, ?_⟩) (by assumption) ?_
           rotate_left
           focus (intro wq hSq; (try dsimp only at hSq); go_simp; (try (with_reducible rfl)); done))
        | (refine wpAnyH_take (i := 7) (v := undef) rfl (by kernel_rfl) (by kernel_rfl) (by kernel_rfl) (fun _ _ _ h => h) (Or.inr ⟨by rfl, rfl⟩) (by assumption) ?_)
        | fail "take 7")
      try simp only [Act.put, List.setIfInBounds_toArray, List.set_cons_zero, List.set_cons_succ, List.getElem_toArray, List.getElem_cons_zero, List.getElem_cons_succ]
      (first
        | (refine wpAnyH_take (i := 8) (v := ?_) rfl (by kernel_rfl) (by kernel_rfl) (by kernel_rfl) (fun _ _ _ h => h) (Or.inl ⟨by rfl, ?_⟩) (by assumption) ?_
           rotate_left
           focus (intro wq hSq; (try dsimp only at hSq); go_simp; (try (with_reducible rfl)); done))
        | (refine wpAnyH_take (i := 8) (v := undef) rfl (by kernel_rfl) (by kernel_rfl) (by kernel_rfl) (fun _ _ _ h => h) (Or.inr ⟨by rfl, rfl⟩) (by assumption) ?_)
        | fail "take 8")
      try simp only [Act.put, List.setIfInBounds_toArray, List.set_cons_zero, List.set_cons_succ, List.getElem_toArray, List.getElem_cons_zero, List.getElem_cons_succ]
      (first
        | (refine wpAnyH_take (i := 9) (v := ?_) rfl (by kernel_rfl) (by kernel_rfl) (by kernel_rfl) (fun _ _ _ h => h) (Or.inl ⟨by rfl, ?_⟩) (by assumption) ?_
           rotate_left
           focus (intro wq hSq; (try dsimp only at hSq); go_simp; (try (with_reducible rfl)); done))
        | (refine wpAnyH_take (i := 9) (v := undef) rfl (by kernel_rfl) (by kernel_rfl) (by kernel_rfl) (fun _ _ _ h => h) (Or.inr ⟨by rfl, rfl⟩) (by assumption) ?_)
        | fail "take 9")
      try simp only [Act.put, List.setIfInBounds_toArray, List.set_cons_zero, List.set_cons_succ, List.getElem_toArray, List.getElem_cons_zero, List.getElem_cons_succ]
      (first
        | (refine wpAnyH_take (i := 10) (v := ?_) rfl (by kernel_rfl) (by kernel_rfl) (by kernel_rfl) (fun _ _ _ h => h) (Or.inl ⟨by rfl, ?_⟩) (by assumption) ?_
           rotate_left
           focus (intro wq hSq; (try dsimp only at hSq); go_simp; (try (with_reducible rfl)); done))
        | (refine wpAnyH_take (i := 10) (v := undef) rfl (by kernel_rfl) (by kernel_rfl) (by kernel_rfl) (fun _ _ _ h => h) (Or.inr ⟨by rfl, rfl⟩) (by assumption) ?_)
        | fail "take 10")
      try simp only [Act.put, List.setIfInBounds_toArray, List.set_cons_zero, List.set_cons_succ, List.getElem_toArray, List.getElem_cons_zero, List.getElem_cons_succ]
      refine wpAnyH_ready (rs := [11]) (by kernel_rfl) (by simp) ?_
      refine AllReadyH.cons (o := _) rfl (fun K hK => ?_) AllReadyH.nil
      go_simp
      refine (take_c X bs s x y t AZ N cZ zs bu ks n (D + 1) b Ao co Ac cc w1.drew ⟨C, vb, E, F, HV1.out.next (Below.refl _ _).drew, HB1.out.next (Below.refl _ _).drew⟩ Hv.out H0.out (by omega)).mono ?_; rintro e w2 ⟨rfl, hx2, hg2⟩; obtain ⟨C2, vb2, E2, F2, hV2, hB2⟩ := hx2
      refine hK.out _ _ ?_ (fun hHeld => ?_)
      · exact ⟨(cell_of_row w2 X 13 _ _ _ hV2.row).trans rfl, (cell_of_row w2 X 14 _ _ _ hV2.row).trans rfl⟩
      clear hK K
      try simp only [Act.put, List.setIfInBounds_toArray, List.set_cons_zero, List.set_cons_succ, List.getElem_toArray, List.getElem_cons_zero, List.getElem_cons_succ]
      (first
        | (refine wpAnyH_take (i := 12) (v := ?_) rfl (by kernel_rfl) (by kernel_rfl) (by kernel_rfl) (fun _ _ _ h => h) (Or.inl ⟨by rfl, ?_⟩) (by assumption) ?_
           rotate_left
           focus (intro wq hSq; (try dsimp only at hSq); go_simp; (try (with_reducible rfl)); done))
        | (refine wpAnyH_take (i := 12) (v := undef) rfl (by kernel_rfl) (by kernel_rfl) (by kernel_rfl) (fun _ _ _ h => h) (Or.inr ⟨by rfl, rfl⟩) (by assumption) ?_)
        | fail "take 12")
      try simp only [Act.put, List.setIfInBounds_toArray, List.set_cons_zero, List.set_cons_succ, List.getElem_toArray, List.getElem_cons_zero, List.getElem_cons_succ]
      (first
        | (refine wpAnyH_take (i := 13) (v := ?_) rfl (by kernel_rfl) (by kernel_rfl) (by kernel_rfl) (fun _ _ _ h => h) (Or.inl ⟨by rfl, ?_⟩) (by assumption) ?_
           rotate_left
           focus (intro wq hSq; (try dsimp only at hSq); go_simp; (try (with_reducible rfl)); done))
        | (refine wpAnyH_take (i := 13) (v := undef) rfl (by kernel_rfl) (by kernel_rfl) (by kernel_rfl) (fun _ _ _ h => h) (Or.inr ⟨by rfl, rfl⟩) (by assumption) ?_)
        | fail "take 13")
      try simp only [Act.put, List.setIfInBounds_toArray, List.set_cons_zero, List.set_cons_succ, List.getElem_toArray, List.getElem_cons_zero, List.getElem_cons_succ]
      refine wpAnyH_done (by kernel_rfl) ?_ _
      have hF2 : Fr X (.slice Ao n co) (.slice Ac n cc) (.slice Ao n co) (.slice Ac n cc) w w2 := (Fr.rng Hb1.out).trans ((Fr.below (Below.refl _ _).drew).trans (Fr.rng hg2))
      clear r0 r1 r2 r3 r4 r5 r6 r7 r8 r9 r10 r11 r12 r13 r14 rf
      clear hHeld Hr hg2 HV1 HB1 Hb1 hXl hXl1
      generalize updB s zs ⟨t, x, y⟩ ks b = b2 at *
      have hX2 := hV2.hX
      have hbA : Below w2.heap.size w2 (w2.alloc (ptO x y 34)) := by (repeat (first | (with_reducible assumption) | (with_reducible exact Below.refl _ _) | exact Nat.le_refl _ | exact Below.size (by with_reducible assumption) | (with_reducible refine Below.drew ?_) | (with_reducible refine below_drewN ?_ _) | (with_reducible refine Below.alloc ?_ ?_ _) | (with_reducible refine Below.setCell ?_ ?_ _) | (with_reducible refine le_alloc ?_ _) | (with_reducible refine le_set ?_ _ _) | (with_reducible refine le_drew ?_) | (with_reducible refine le_drewN ?_ _) | omega | (dsimp only; omega)))
      have hoP := lit_own w2 (X + 1) 34 #[.int .i64 x, .int .i64 y] 1 2 hX2 (by decide) rfl
      have hV3 := hV2.next hbA
      have hB3 := hB2.next hbA
      have hF3 := hF2.trans (Fr.below hbA)
      have hGw := hF2.size
      have r33 := (cell_of_row w2 X 1 _ _ _ hV2.row).trans rfl
      have r34 := (cell_of_row w2 X 2 _ _ _ hV2.row).trans rfl
      obtain ⟨w3, hw3⟩ : ∃ w3, w2.alloc (ptO x y 34) = w3 := ⟨_, rfl⟩
      obtain ⟨G, hG⟩ : ∃ G, w2.heap.size = G := ⟨_, rfl⟩
      rw [hw3] at hV3 hB3 hF3 hoP
      rw [hG] at hoP hGw
      have hr := hV3.row
      have r0 := (cell_of_row w3 X 0 _ _ _ hr).trans rfl
      have r1 := (cell_of_row w3 X 1 _ _ _ hr).trans rfl
      have r2 := (cell_of_row w3 X 2 _ _ _ hr).trans rfl
      have r3 := (cell_of_row w3 X 3 _ _ _ hr).trans rfl
      have r4 := (cell_of_row w3 X 4 _ _ _ hr).trans rfl
      have r5 := (cell_of_row w3 X 5 _ _ _ hr).trans rfl
      have r6 := (cell_of_row w3 X 6 _ _ _ hr).trans rfl
      have r7 := (cell_of_row w3 X 7 _ _ _ hr).trans rfl
      have r8 := (cell_of_row w3 X 8 _ _ _ hr).trans rfl
      have r9 := (cell_of_row w3 X 9 _ _ _ hr).trans rfl
      have r10 := (cell_of_row w3 X 10 _ _ _ hr).trans rfl
      have r11 := (cell_of_row w3 X 11 _ _ _ hr).trans rfl
      have r12 := (cell_of_row w3 X 12 _ _ _ hr).trans rfl
      have r13 := (cell_of_row w3 X 13 _ _ _ hr).trans rfl
      have r14 := (cell_of_row w3 X 14 _ _ _ hr).trans rfl
      have rf := fun j => frozen_of_row w3 X j _ _ hr
      have Hr := Lib.hid hr; clear hr
      have HV3 := Lib.hid hV3; clear hV3
      have HB3 := Lib.hid hB3; clear hB3
      have HF3 := Lib.hid hF3; clear hF3
      have HoP := Lib.hid hoP; clear hoP
      clear hV2 hB2 hF2 hbA hX2
      obtain ⟨P, hP⟩ : ∃ P, posV s zs ⟨t, x, y⟩ ks = P := ⟨_, rfl⟩
      have HP := Lib.hid hP; clear hP
      go_upto_if 45 with fail
      clear hw3 hG r33 r34
      go_cut [4] (fun at_ wx => at_ = .int .i64 P.t ∧ SX wx X bs s x y t AZ N cZ zs bu ks n (D + 1) b2 Ao co Ac cc ∧ wx.ownsRow (X + 1) 34 2 (.slice (some ⟨G, 0, none⟩) 1 1) 1 [.int .i64 P.x, .int .i64 P.y] ∧ Fr X (.slice Ao n co) (.slice Ac n cc) (.slice Ao n co) (.slice Ac n cc) w wx)
      case first =>
        by_cases hn0 : n = 0
        · have hk0 : ks = [] := List.eq_nil_of_length_eq_zero (by rw [Hnk.out, hn0])
          obtain rfl : P = ⟨t, x, y⟩ := by rw [← HP.out, hk0]; rfl
          have hn1 : ¬ 0 < n := by omega
          clear hk0 hn0
          go_wp2_with fail
          go_meet
          exact ⟨rfl, ⟨_, _, _, _, HV3.out, HB3.out⟩, HoP.out, HF3.out⟩
        · have hn1 : 0 < n := by omega
          obtain ⟨m, hm⟩ : ∃ m, n = m + 1 := ⟨n - 1, by omega⟩
          obtain ⟨bo, offo, q, rfl, hbo, hq, ho0⟩ := (Sl.of_own HV3.out.oo).int m (by omega)
          obtain ⟨bc, offc, z, rfl, hbc, hcz, hcp⟩ := (Sl.of_own HV3.out.cl).cl (Nat.le_refl _) m (by omega)
          have hqm : q ∈ ks := List.mem_of_getElem? hq
          have hqr := Hv.out.ks q hqm
          obtain ⟨qn, rfl⟩ : ∃ qn : Nat, q = qn := ⟨q.toNat, by omega⟩
          have hqN : qn < N := by rw [← Hln.out]; omega
          obtain ⟨bz, offz, u, rfl, hbz, hzx, hzp⟩ := HV3.out.hz.wk (Nat.le_of_lt HV3.out.hX) qn hqN
          have hpl := pos_last (s := s) (zs := zs) (p := ⟨t, x, y⟩) (by rw [Hnk.out, hm]) hq
          have hzk := wkI_eq hzx
          rw [HP.out, hzk] at hpl
          have hce := (calls_last (by rw [Hnk.out, hm]) hcz).2.1
          rw [HP.out] at hce
          have k3 := hcp.c3
          rw [hce] at k3
          have u1 := hzp.c1
          have u2 := hzp.c2
          rw [← hpl.1] at u1
          rw [← hpl.2] at u2
          have p0 := HoP.out.cellAt 0 (by omega)
          have p1 := HoP.out.cellAt 1 (by omega)
          have pf := HoP.out.frozenAt
          have hst := ((HoP.out.stored 0 (.int .i64 P.x)).1.stored 1 (.int .i64 P.y))
          have hgr := grown_trans (HoP.out.stored 0 (.int .i64 P.x)).2 ((HoP.out.stored 0 (.int .i64 P.x)).1.stored 1 (.int .i64 P.y)).2
          simp only [List.getElem?_cons_zero, List.getElem?_cons_succ] at p0 p1
          have j1 : (0 : Int) ≤ (m : Int) := by omega
          have j2 : (m : Int) < (n : Int) := by omega
          have j3 : IntKind.i64.wrap ((n : Int) - 1) = (m : Int) := by rw [IntWalk.i64_in _ (by omega)]; omega
          have j4 : (n : Int) - 1 = (m : Int) := by omega
          have j6 : (0 : Int) ≤ (qn : Int) := by omega
          have j7 : (qn : Int) < (N : Int) := by omega
          have Hm := Lib.hid hm; clear hm
          have Hq := Lib.hid hq; clear hq
          have Hst := Lib.hid hst; clear hst
          have Hgr := Lib.hid hgr; clear hgr
          have hbc' := hbc
          have hcG : (some bc : Option Nat) ≠ some G := fun e => by
            rcases own_ne HV3.out.cl HoP.out (by decide) with e1 | e1
            · cases e1
            · exact e1 e
          clear hcz hcp hqm hqr hzx hzp hpl hzk hce hn0 hbo hbc hbz hqN
          go_wp2_with fail
          go_region
          have hV4 := HV3.out.side HoP.out Hgr.out
          have hB4 := HB3.out.side HoP.out Hgr.out
          have hF4 := HF3.out.side Hgr.out hGw
          have ho4 := Hst.out.1
          have k4 := (World.cell?_of_block (w := w3) (w' := (w3.setCell ⟨G, 0, none⟩ (.int .i64 P.x)).setCell ⟨G, 1, none⟩ (.int .i64 P.y)) (a := ⟨bc, offc + m * 4 + 3, none⟩) (Hgr.out.block bc hbc' hcG)).trans k3
          generalize (w3.setCell ⟨G, 0, none⟩ (.int .i64 P.x)).setCell ⟨G, 1, none⟩ (.int .i64 P.y) = w4 at *
          have hr := hV4.row
          clear r0 r1 r2 r3 r4 r5 r6 r7 r8 r9 r10 r11 r12 r13 r14 rf
          have r0 := (cell_of_row w4 X 0 _ _ _ hr).trans rfl
          have r1 := (cell_of_row w4 X 1 _ _ _ hr).trans rfl
          have r2 := (cell_of_row w4 X 2 _ _ _ hr).trans rfl
          have r3 := (cell_of_row w4 X 3 _ _ _ hr).trans rfl
          have r4 := (cell_of_row w4 X 4 _ _ _ hr).trans rfl
          have r5 := (cell_of_row w4 X 5 _ _ _ hr).trans rfl
          have r6 := (cell_of_row w4 X 6 _ _ _ hr).trans rfl
          have r7 := (cell_of_row w4 X 7 _ _ _ hr).trans rfl
          have r8 := (cell_of_row w4 X 8 _ _ _ hr).trans rfl
          have r9 := (cell_of_row w4 X 9 _ _ _ hr).trans rfl
          have r10 := (cell_of_row w4 X 10 _ _ _ hr).trans rfl
          have r11 := (cell_of_row w4 X 11 _ _ _ hr).trans rfl
          have r12 := (cell_of_row w4 X 12 _ _ _ hr).trans rfl
          have r13 := (cell_of_row w4 X 13 _ _ _ hr).trans rfl
          have r14 := (cell_of_row w4 X 14 _ _ _ hr).trans rfl
          have rf := fun j => frozen_of_row w4 X j _ _ hr
          have Hr4 := Lib.hid hr; clear hr
          have HV4 := Lib.hid hV4; clear hV4
          have HB4 := Lib.hid hB4; clear hB4
          have HF4 := Lib.hid hF4; clear hF4
          have Ho4 := Lib.hid ho4; clear ho4
          clear Hst Hgr HV3 HB3 HF3 HoP pf p0 p1 k3 u1 u2
          go_wp2_with fail
          have hd : Below w4.heap.size w4 w4.drew := (Below.refl _ _).drew
          go_meet
          exact ⟨rfl, ⟨_, _, _, _, HV4.out.next hd, HB4.out.next hd⟩, own_next Ho4.out hd, HF4.out.trans (Fr.below hd)⟩
      case rest =>
        obtain ⟨rfl, hx, hoP, hF⟩ := hcut
        have hD1 : D + 1 = (bu : Int) - ((l - 1 : Nat) : Int) := by have := HD.out; omega
        rw [hD1] at hx
        have hnN : n ≤ 20000 := by omega
        have hPp := Hv.out.posP
        have hPt := Hv.out.posT (voyK_zero.1 H0.out).2
        have hload := Hv.out.load
        have hlfit := (voyK_zero.1 H0.out).1
        rw [HP.out] at hPp hPt
        obtain ⟨L, hL⟩ : ∃ L, loadV zs ks = L := ⟨_, rfl⟩
        rw [hL] at hload hlfit
        have hLb : 0 ≤ L ∧ L ≤ 1000 := by have := Hv.out.ld; omega
        have hspb := Hv.out.sp
        have HL := Lib.hid hL; clear hL
        have HPp := Lib.hid hPp; clear hPp
        have Hspb := Lib.hid hspb; clear hspb
        have HX := Lib.hid hx; clear hx
        have HF := Lib.hid hF; clear hF
        have HoPr := Lib.hid hoP; clear hoP
        clear HV3 HB3 HF3 HoP hload hD1 hg hgd r0 r1 r2 r3 r4 r5 r6 r7 r8 r9 r10 r11 r12 r13 r14 rf Hr
        go_wp2_with fail
        go_loopg [6] N (fun q kv wr => ∃ (k l' : Nat) (b' : BSt) (Ao' : Option Addr) (co' : Nat) (Ac' : Option Addr) (cc' : Nat), q + k = N ∧ kv = .int .i64 k ∧ l' ≤ l - 1 ∧ Hid (goD (dfs s zs ⟨t, x, y⟩ f) (okK s zs ⟨t, x, y⟩ ks) ks (l - 1, b2) k = some (l', b')) ∧ Hid (SX wr X bs s x y t AZ N cZ zs bu ks n ((bu : Int) - l') b' Ao' co' Ac' cc') ∧ Hid (wr.ownsRow (X + 1) 34 2 (.slice (some ⟨G, 0, none⟩) 1 1) 1 [.int .i64 P.x, .int .i64 P.y]) ∧ Hid (Fr X (.slice Ao n co) (.slice Ac n cc) (.slice Ao' n co') (.slice Ac' n cc') w wr))
        case atStart => exact ⟨0, l - 1, b2, Ao, co, Ac, cc, rfl, rfl, Nat.le_refl _, Lib.hid rfl, HX, HoPr, HF⟩
        case round =>
          clear HX HoPr HF
          obtain ⟨k, l', b', Ao', co', Ac', cc', hqk, rfl, hl', Hgo, HX, HoPr, HF⟩ := hrel
          obtain ⟨C', vb', E', F', hV, hB⟩ := HX.out
          have hXl := hV.hX
          have hr := hV.row
          have p0 := HoPr.out.cellAt 0 (by omega)
          have p1 := HoPr.out.cellAt 1 (by omega)
          simp only [List.getElem?_cons_zero, List.getElem?_cons_succ] at p0 p1
          rw [HL.out] at hr
          have r0 := (cell_of_row wr X 0 _ _ _ hr).trans rfl
          have r1 := (cell_of_row wr X 1 _ _ _ hr).trans rfl
          have r2 := (cell_of_row wr X 2 _ _ _ hr).trans rfl
          have r3 := (cell_of_row wr X 3 _ _ _ hr).trans rfl
          have r4 := (cell_of_row wr X 4 _ _ _ hr).trans rfl
          have r5 := (cell_of_row wr X 5 _ _ _ hr).trans rfl
          have r6 := (cell_of_row wr X 6 _ _ _ hr).trans rfl
          have r7 := (cell_of_row wr X 7 _ _ _ hr).trans rfl
          have r8 := (cell_of_row wr X 8 _ _ _ hr).trans rfl
          have r9 := (cell_of_row wr X 9 _ _ _ hr).trans rfl
          have r10 := (cell_of_row wr X 10 _ _ _ hr).trans rfl
          have r11 := (cell_of_row wr X 11 _ _ _ hr).trans rfl
          have r12 := (cell_of_row wr X 12 _ _ _ hr).trans rfl
          have r13 := (cell_of_row wr X 13 _ _ _ hr).trans rfl
          have r14 := (cell_of_row wr X 14 _ _ _ hr).trans rfl
          have rf := fun j => frozen_of_row wr X j _ _ hr
          by_cases hlk : k < N
          · obtain ⟨bz, offz, z, rfl, hbz, hzx, hzp⟩ := hV.hz.wk (Nat.le_of_lt hXl) k hlk
            have hzk := wkI_eq hzx
            have hzb : WkBd z := by have := Hv.out.bd k (by rw [Hln.out]; exact hlk); rwa [wkAt_eq hzx] at this
            have hzl := hzb.ld
            have c3 := hzp.c3
            obtain ⟨s0, s1, s2, s3, hsl⟩ := hV.sh
            obtain ⟨Y, hY⟩ : ∃ Y, decide ((k : Int) ∈ ks) = Y := ⟨_, rfl⟩
            have hC : ∀ m, Calls Try.prog 43 #[.slice Ao' n co', .int .i64 k] (wr.drewN m) fun e w' => e = .returned (.bool Y) ∧ wr.drewN m = w' := fun m => by
              rw [← hY]
              exact l00Has_c Ao' n co' ks k _ ((Sl.of_own hV.oo).keep fun _ _ => rfl) (by unfold maxLen; omega)
            have j1 : (0 : Int) ≤ (k : Int) := by omega
            have j2 : (k : Int) < (N : Int) := by omega
            have e1 : IntKind.i64.wrap (L + z.ld) = L + z.ld := IntWalk.i64_in _ (by omega)
            have HY := Lib.hid hY; clear hY
            have HCh := Lib.hid hC; clear hC
            have Hzx := Lib.hid hzx; clear hzx
            have Hzk := Lib.hid hzk; clear hzk
            have Hzb := Lib.hid hzb; clear hzb
            have Hzp := Lib.hid hzp; clear hzp
            have Hr := Lib.hid hr; clear hr
            have HV := Lib.hid hV; clear hV
            have HB := Lib.hid hB; clear hB
            clear s0 s1 s3
            cases Y
            · by_cases hlz : s.ld < L + z.ld
              · have hl2 : decide (L + z.ld > s.ld) = true := decide_eq_true hlz
                have hok : okK s zs ⟨t, x, y⟩ ks k = false := by
                  rw [okK, HY.out, voyK, loadV_snoc, HL.out, Hzk.out, decide_eq_true hlz]; rfl
                have hgo := goD_skip Hgo.out hok
                have HgoN := Lib.hid hgo; clear hgo
                have Hok := Lib.hid hok; clear hok
                go_wp2_with fail
                go_quiet ((go_at_call 43; exact quiet_c (HCh.out _)))
                go_wp2_with fail
                go_roundg (N - (k + 1))
                case measure => omega
                case rel => exact ⟨k + 1, l', b', Ao', co', Ac', cc', by omega, by go_num, hl', HgoN, Lib.hid (HX.out.next (below_drewN (Below.refl _ _) _)), Lib.hid (own_next HoPr.out (below_drewN (Below.refl _ _) _)), Lib.hid (HF.out.trans (Fr.below (below_drewN (Below.refl _ _) _)))⟩
              · have hl2 : decide (L + z.ld > s.ld) = false := decide_eq_false hlz
                go_wp2_with fail
                go_quiet ((go_at_call 43; exact quiet_c (HCh.out _)))
                have hd4 : Below wr.heap.size wr (wr.drewN nq) := below_drewN (Below.refl _ _) _
                have hV4 := HV.out.next hd4
                have hB4 := HB.out.next hd4
                have hX4 := HX.out.next hd4
                have ho4 := own_next HoPr.out hd4
                have hF4 := HF.out.trans (Fr.below hd4)
                have hzp4 := Hzp.out.next hd4
                clear r0 r1 r2 r3 r4 r5 r6 r7 r8 r9 r10 r11 r12 r13 r14 rf
                clear c3 s2 p0 p1 hsl hbz hXl Hr HV HB HX HoPr HF Hzp hd4 HCh e1
                go_upto_region 14 with fail
                generalize wr.drewN nq = w4 at *
                have hXl := hV4.hX
                have hGl := (ho4.lt G rfl).2
                have hr := hV4.row
                rw [HL.out] at hr
                have r0 := (cell_of_row w4 X 0 _ _ _ hr).trans rfl
                have r1 := (cell_of_row w4 X 1 _ _ _ hr).trans rfl
                have r2 := (cell_of_row w4 X 2 _ _ _ hr).trans rfl
                have r3 := (cell_of_row w4 X 3 _ _ _ hr).trans rfl
                have r4 := (cell_of_row w4 X 4 _ _ _ hr).trans rfl
                have r5 := (cell_of_row w4 X 5 _ _ _ hr).trans rfl
                have r6 := (cell_of_row w4 X 6 _ _ _ hr).trans rfl
                have r7 := (cell_of_row w4 X 7 _ _ _ hr).trans rfl
                have r8 := (cell_of_row w4 X 8 _ _ _ hr).trans rfl
                have r9 := (cell_of_row w4 X 9 _ _ _ hr).trans rfl
                have r10 := (cell_of_row w4 X 10 _ _ _ hr).trans rfl
                have r11 := (cell_of_row w4 X 11 _ _ _ hr).trans rfl
                have r12 := (cell_of_row w4 X 12 _ _ _ hr).trans rfl
                have r13 := (cell_of_row w4 X 13 _ _ _ hr).trans rfl
                have r14 := (cell_of_row w4 X 14 _ _ _ hr).trans rfl
                have rf := fun j => frozen_of_row w4 X j _ _ hr
                have p0 := ho4.cellAt 0 (by omega)
                have p1 := ho4.cellAt 1 (by omega)
                simp only [List.getElem?_cons_zero, List.getElem?_cons_succ] at p0 p1
                obtain ⟨CC, hCC⟩ : ∃ CC, callV s zs k ⟨P.t, P.x, P.y⟩ = CC := ⟨_, rfl⟩
                obtain ⟨OK, hOK⟩ : ∃ OK, okC s zs k ⟨P.t, P.x, P.y⟩ = OK := ⟨_, rfl⟩
                have hT : ∀ w', Below w4.heap.size w4 w' → Calls Try.prog 44 #[.pointer (some ⟨bs, 0, none⟩), .slice (some ⟨bz, offz, none⟩) N cZ, .int .i64 k, ptV P.x P.y, .int .i64 P.t] w' fun e w'' => e = .returned (.tuple #[CC.val, .bool OK]) ∧ Below w'.heap.size w' w'' := fun w' hb => by
                  have := l25Call_c bs s (some ⟨bz, offz, none⟩) N cZ zs k P.x P.y P.t w' (hV4.next hb).sh ((hV4.next hb).hz.more (Nat.le_of_lt (hV4.next hb).hX)) hlk (by rw [Hzk.out]; exact Hzb.out) Hspb.out HPp.out hPt
                  rwa [hCC, hOK] at this
                have e1 : ∀ {w' : World}, Below w4.heap.size w4 w' → (Below w4.heap.size w4 w' ∧ (∀ i, w'.cell? ⟨X, i, none⟩ = w4.cell? ⟨X, i, none⟩) ∧ (∀ i, w'.cell? ⟨G, i, none⟩ = w4.cell? ⟨G, i, none⟩)) := fun hbb => ⟨hbb, keepC hbb _ hXl, keepC hbb _ hGl⟩
                have HCC := Lib.hid hCC; clear hCC
                have HOK := Lib.hid hOK; clear hOK
                have HT := Lib.hid hT; clear hT
                have Hr := Lib.hid hr; clear hr
                have HV4 := Lib.hid hV4; clear hV4
                have HB4 := Lib.hid hB4; clear hB4
                have HX4 := Lib.hid hX4; clear hX4
                have Ho4 := Lib.hid ho4; clear ho4
                have HF4 := Lib.hid hF4; clear hF4
                have Hzp4 := Lib.hid hzp4; clear hzp4
                go_cut [7, 8] (fun c7 c8 wx => ∃ g, c7 = .pointer (some ⟨g, 0, none⟩) ∧ c8 = .bool OK ∧ ClP wx g 0 CC ∧ w4.heap.size ≤ g ∧ Below w4.heap.size w4 wx)
                case first =>
                  refine wp_region_held_drew (S := fun w' => Below w4.heap.size w4 w' ∧ (∀ i, w'.cell? ⟨X, i, none⟩ = w4.cell? ⟨X, i, none⟩) ∧ (∀ i, w'.cell? ⟨G, i, none⟩ = w4.cell? ⟨G, i, none⟩)) (by kernel_rfl) (e1 (Below.refl _ _).drew) (fun hHeld => ?_)
                  (first
                    | (refine wpAnyH_take (i := 0) (v := ?_) rfl (by kernel_rfl) (by kernel_rfl) (by kernel_rfl) (fun _ _ _ h => h) (Or.inl ⟨by rfl, ?_⟩) (by assumption) ?_
                       rotate_left
                       focus (intro wq hSq; (try dsimp only at hSq); go_simp; (try (with_reducible rfl)); done))
                    | (refine wpAnyH_take (i := 0) (v := undef) rfl (by kernel_rfl) (by kernel_rfl) (by kernel_rfl) (fun _ _ _ h => h) (Or.inr ⟨by rfl, rfl⟩) (by assumption) ?_)
                    | fail "take 0")
                  try simp only [Act.put, List.setIfInBounds_toArray, List.set_cons_zero, List.set_cons_succ, List.getElem_toArray, List.getElem_cons_zero]
                  (first
                    | (refine wpAnyH_take (i := 1) (v := ?_) rfl (by kernel_rfl) (by kernel_rfl) (by kernel_rfl) (fun _ _ _ h => h) (Or.inl ⟨by rfl, ?_⟩) (by assumption) ?_
                       rotate_left
                       focus (intro wq hSq; (try dsimp only at hSq); go_simp; (try (with_reducible rfl)); done))
                    | (refine wpAnyH_take (i := 1) (v := undef) rfl (by kernel_rfl) (by kernel_rfl) (by kernel_rfl) (fun _ _ _ h => h) (Or.inr ⟨by rfl, rfl⟩) (by assumption) ?_)
                    | fail "take 1")
                  try simp only [Act.put, List.setIfInBounds_toArray, List.set_cons_zero, List.set_cons_succ, List.getElem_toArray, List.getElem_cons_zero, List.getElem_cons_succ]
                  (first
                    | (refine wpAnyH_take (i := 2) (v := ?_) rfl (by kernel_rfl) (by kernel_rfl) (by kernel_rfl) (fun _ _ _ h => h) (Or.inl ⟨by rfl, ?_⟩) (by assumption) ?_
                       rotate_left
                       focus (intro wq hSq; (try dsimp only at hSq); go_simp; (try (with_reducible rfl)); done))
                    | (refine wpAnyH_take (i := 2) (v := undef) rfl (by kernel_rfl) (by kernel_rfl) (by kernel_rfl) (fun _ _ _ h => h) (Or.inr ⟨by rfl, rfl⟩) (by assumption) ?_)
                    | fail "take 2")
                  try simp only [Act.put, List.setIfInBounds_toArray, List.set_cons_zero, List.set_cons_succ, List.getElem_toArray, List.getElem_cons_zero, List.getElem_cons_succ]
                  (first
                    | (refine wpAnyH_take (i := 3) (v := ?_) rfl (by kernel_rfl) (by kernel_rfl) (by kernel_rfl) (fun _ _ _ h => h) (Or.inl ⟨by rfl, ?_⟩) (by assumption) ?_
                       rotate_left
                       focus (intro wq hSq; (try dsimp only at hSq); go_simp; (try (with_reducible rfl)); done))
                    | (refine wpAnyH_take (i := 3) (v := undef) rfl (by kernel_rfl) (by kernel_rfl) (by kernel_rfl) (fun _ _ _ h => h) (Or.inr ⟨by rfl, rfl⟩) (by assumption) ?_)
                    | fail "take 3")
                  try simp only [Act.put, List.setIfInBounds_toArray, List.set_cons_zero, List.set_cons_succ, List.getElem_toArray, List.getElem_cons_zero, List.getElem_cons_succ]
                  (first
                    | (refine wpAnyH_take (i := 4) (v := ?_) rfl (by kernel_rfl) (by kernel_rfl) (by kernel_rfl) (fun _ _ _ h => h) (Or.inl ⟨by rfl, ?_⟩) (by assumption) ?_
                       rotate_left
                       focus (intro wq hSq; (try dsimp only at hSq); go_simp; (try (with_reducible rfl)); done))
                    | (refine wpAnyH_take (i := 4) (v := undef) rfl (by kernel_rfl) (by kernel_rfl) (by kernel_rfl) (fun _ _ _ h => h) (Or.inr ⟨by rfl, rfl⟩) (by assumption) ?_)
                    | fail "take 4")
                  try simp only [Act.put, List.setIfInBounds_toArray, List.set_cons_zero, List.set_cons_succ, List.getElem_toArray, List.getElem_cons_zero, List.getElem_cons_succ]
                  (first
                    | (refine wpAnyH_take (i := 5) (v := ?_) rfl (by kernel_rfl) (by kernel_rfl) (by kernel_rfl) (fun _ _ _ h => h) (Or.inl ⟨by rfl, ?_⟩) (by assumption) ?_
                       rotate_left
                       focus (intro wq hSq; (try dsimp only at hSq); go_simp; (try (with_reducible rfl)); done))
                    | (refine wpAnyH_take (i := 5) (v := undef) rfl (by kernel_rfl) (by kernel_rfl) (by kernel_rfl) (fun _ _ _ h => h) (Or.inr ⟨by rfl, rfl⟩) (by assumption) ?_)
                    | fail "take 5")
                  try simp only [Act.put, List.setIfInBounds_toArray, List.set_cons_zero, List.set_cons_succ, List.getElem_toArray, List.getElem_cons_zero, List.getElem_cons_succ]
                  (first
                    | (refine wpAnyH_take (i := 6) (v := ?_) rfl (by kernel_rfl) (by kernel_rfl) (by kernel_rfl) (fun _ _ _ h => h) (Or.inl ⟨by rfl, ?_⟩) (by assumption) ?_
                       rotate_left
                       focus (intro wq hSq; (try dsimp only at hSq); go_simp; (try (with_reducible rfl)); done))
                    | (refine wpAnyH_take (i := 6) (v := undef) rfl (by kernel_rfl) (by kernel_rfl) (by kernel_rfl) (fun _ _ _ h => h) (Or.inr ⟨by rfl, rfl⟩) (by assumption) ?_)
                    | fail "take 6")
                  try simp only [Act.put, List.setIfInBounds_toArray, List.set_cons_zero, List.set_cons_succ, List.getElem_toArray, List.getElem_cons_zero, List.getElem_cons_succ]
                  (first
                    | (refine wpAnyH_take (i := 7) (v := ?_) rfl (by kernel_rfl) (by kernel_rfl) (by kernel_rfl) (fun _ _ _ h => h) (Or.inl ⟨by rfl, ?_⟩) (by assumption) ?_
                       rotate_left
                       focus (intro wq hSq; (try dsimp only at hSq); go_simp; (try (with_reducible rfl)); done))
                    | (refine wpAnyH_take (i := 7) (v := undef) rfl (by kernel_rfl) (by kernel_rfl) (by kernel_rfl) (fun _ _ _ h => h) (Or.inr ⟨by rfl, rfl⟩) (by assumption) ?_)
                    | fail "take 7")
                  try simp only [Act.put, List.setIfInBounds_toArray, List.set_cons_zero, List.set_cons_succ, List.getElem_toArray, List.getElem_cons_zero, List.getElem_cons_succ]
                  (first
                    | (refine wpAnyH_take (i := 8) (v := ?_) rfl (by kernel_rfl) (by kernel_rfl) (by kernel_rfl) (fun _ _ _ h => h) (Or.inl ⟨by rfl, ?_⟩) (by assumption) ?_
                       rotate_left
                       focus (intro wq hSq; (try dsimp only at hSq); go_simp; (try (with_reducible rfl)); done))
                    | (refine wpAnyH_take (i := 8) (v := undef) rfl (by kernel_rfl) (by kernel_rfl) (by kernel_rfl) (fun _ _ _ h => h) (Or.inr ⟨by rfl, rfl⟩) (by assumption) ?_)
                    | fail "take 8")
                  try simp only [Act.put, List.setIfInBounds_toArray, List.set_cons_zero, List.set_cons_succ, List.getElem_toArray, List.getElem_cons_zero, List.getElem_cons_succ]
                  (first
                    | (refine wpAnyH_take (i := 9) (v := ?_) rfl (by kernel_rfl) (by kernel_rfl) (by kernel_rfl) (fun _ _ _ h => h) (Or.inl ⟨by rfl, ?_⟩) (by assumption) ?_
                       rotate_left
                       focus (intro wq hSq; (try dsimp only at hSq); go_simp; (try (with_reducible rfl)); done))
                    | (refine wpAnyH_take (i := 9) (v := undef) rfl (by kernel_rfl) (by kernel_rfl) (by kernel_rfl) (fun _ _ _ h => h) (Or.inr ⟨by rfl, rfl⟩) (by assumption) ?_)
                    | fail "take 9")
                  try simp only [Act.put, List.setIfInBounds_toArray, List.set_cons_zero, List.set_cons_succ, List.getElem_toArray, List.getElem_cons_zero, List.getElem_cons_succ]
                  (first
                    | (refine wpAnyH_take (i := 10) (v := ?_) rfl (by kernel_rfl) (by kernel_rfl) (by kernel_rfl) (fun _ _ _ h => h) (Or.inl ⟨by rfl, ?_⟩) (by assumption) ?_
                       rotate_left
                       focus (intro wq hSq; (try dsimp only at hSq); go_simp; (try (with_reducible rfl)); done))
                    | (refine wpAnyH_take (i := 10) (v := undef) rfl (by kernel_rfl) (by kernel_rfl) (by kernel_rfl) (fun _ _ _ h => h) (Or.inr ⟨by rfl, rfl⟩) (by assumption) ?_)
                    | fail "take 10")
                  try simp only [Act.put, List.setIfInBounds_toArray, List.set_cons_zero, List.set_cons_succ, List.getElem_toArray, List.getElem_cons_zero, List.getElem_cons_succ]
                  refine wpAnyH_ready (rs := [11, 15]) (by kernel_rfl) (by simp) ?_
                  refine AllReadyH.cons (o := _) rfl (fun K hK => ?_) (AllReadyH.cons (o := _) rfl (fun K hK => ?_) AllReadyH.nil)
                  · go_simp
                    refine (HT.out _ (Below.refl _ _).drew).mono ?_; rintro e w6 ⟨rfl, hb6⟩; have hb6w : Below w4.heap.size w4 w6 := (Below.refl _ _).drew.trans hb6; have hz6 := hb6w.size
                    refine hK.out _ _ ?_ (fun hHeld => ?_)
                    · exact e1 hb6w
                    clear hK K
                    try simp only [Act.put, List.setIfInBounds_toArray, List.set_cons_zero, List.set_cons_succ, List.getElem_toArray, List.getElem_cons_zero, List.getElem_cons_succ]
                    (first
                      | (refine wpAnyH_take (i := 12) (v := ?_) rfl (by kernel_rfl) (by kernel_rfl) (by kernel_rfl) (fun _ _ _ h => h) (Or.inl ⟨by rfl, ?_⟩) (by assumption) ?_
                         rotate_left
                         focus (intro wq hSq; (try dsimp only at hSq); go_simp; (try (with_reducible rfl)); done))
                      | (refine wpAnyH_take (i := 12) (v := undef) rfl (by kernel_rfl) (by kernel_rfl) (by kernel_rfl) (fun _ _ _ h => h) (Or.inr ⟨by rfl, rfl⟩) (by assumption) ?_)
                      | fail "take 12")
                    try simp only [Act.put, List.setIfInBounds_toArray, List.set_cons_zero, List.set_cons_succ, List.getElem_toArray, List.getElem_cons_zero, List.getElem_cons_succ]
                    (first
                      | (refine wpAnyH_take (i := 13) (v := ?_) rfl (by kernel_rfl) (by kernel_rfl) (by kernel_rfl) (fun _ _ _ h => h) (Or.inl ⟨by rfl, ?_⟩) (by assumption) ?_
                         rotate_left
                         focus (intro wq hSq; (try dsimp only at hSq); go_simp; (try (with_reducible rfl)); done))
                      | (refine wpAnyH_take (i := 13) (v := undef) rfl (by kernel_rfl) (by kernel_rfl) (by kernel_rfl) (fun _ _ _ h => h) (Or.inr ⟨by rfl, rfl⟩) (by assumption) ?_)
                      | fail "take 13")
                    try simp only [Act.put, List.setIfInBounds_toArray, List.set_cons_zero, List.set_cons_succ, List.getElem_toArray, List.getElem_cons_zero, List.getElem_cons_succ]
                    (first
                      | (refine wpAnyH_take (i := 14) (v := ?_) rfl (by kernel_rfl) (by kernel_rfl) (by kernel_rfl) (fun _ _ _ h => h) (Or.inl ⟨by rfl, ?_⟩) (by assumption) ?_
                         rotate_left
                         focus (intro wq hSq; (try dsimp only at hSq); go_simp; (try (with_reducible rfl)); done))
                      | (refine wpAnyH_take (i := 14) (v := undef) rfl (by kernel_rfl) (by kernel_rfl) (by kernel_rfl) (fun _ _ _ h => h) (Or.inr ⟨by rfl, rfl⟩) (by assumption) ?_)
                      | fail "take 14")
                    try simp only [Act.put, List.setIfInBounds_toArray, List.set_cons_zero, List.set_cons_succ, List.getElem_toArray, List.getElem_cons_zero, List.getElem_cons_succ]
                    refine wpAnyH_ready (rs := [15]) (by kernel_rfl) (by simp) ?_
                    refine AllReadyH.cons (o := _) rfl (fun K hK => ?_) AllReadyH.nil
                    go_simp
                    skip
                    refine hK.out _ _ ?_ (fun hHeld => ?_)
                    · exact e1 (by (repeat (first | (with_reducible assumption) | (with_reducible exact Below.refl _ _) | exact Nat.le_refl _ | exact Below.size (by with_reducible assumption) | (with_reducible refine Below.drew ?_) | (with_reducible refine below_drewN ?_ _) | (with_reducible refine Below.alloc ?_ ?_ _) | (with_reducible refine Below.setCell ?_ ?_ _) | (with_reducible refine le_alloc ?_ _) | (with_reducible refine le_set ?_ _ _) | (with_reducible refine le_drew ?_) | (with_reducible refine le_drewN ?_ _) | omega | (dsimp only; omega))))
                    clear hK K
                    try simp only [Act.put, List.setIfInBounds_toArray, List.set_cons_zero, List.set_cons_succ, List.getElem_toArray, List.getElem_cons_zero, List.getElem_cons_succ]
                    refine wpAnyH_ready (rs := [16]) (by kernel_rfl) (by simp) ?_
                    refine AllReadyH.cons (o := _) rfl (fun K hK => ?_) AllReadyH.nil
                    go_simp
                    skip
                    refine hK.out _ _ ?_ (fun hHeld => ?_)
                    · exact e1 (by (repeat (first | (with_reducible assumption) | (with_reducible exact Below.refl _ _) | exact Nat.le_refl _ | exact Below.size (by with_reducible assumption) | (with_reducible refine Below.drew ?_) | (with_reducible refine below_drewN ?_ _) | (with_reducible refine Below.alloc ?_ ?_ _) | (with_reducible refine Below.setCell ?_ ?_ _) | (with_reducible refine le_alloc ?_ _) | (with_reducible refine le_set ?_ _ _) | (with_reducible refine le_drew ?_) | (with_reducible refine le_drewN ?_ _) | omega | (dsimp only; omega))))
                    clear hK K
                    try simp only [Act.put, List.setIfInBounds_toArray, List.set_cons_zero, List.set_cons_succ, List.getElem_toArray, List.getElem_cons_zero, List.getElem_cons_succ]
                    (first
                      | (refine wpAnyH_take (i := 17) (v := ?_) rfl (by kernel_rfl) (by kernel_rfl) (by kernel_rfl) (fun _ _ _ h => h) (Or.inl ⟨by rfl, ?_⟩) (by assumption) ?_
                         rotate_left
                         focus (intro wq hSq; (try dsimp only at hSq); go_simp; (try (with_reducible rfl)); done))
                      | (refine wpAnyH_take (i := 17) (v := undef) rfl (by kernel_rfl) (by kernel_rfl) (by kernel_rfl) (fun _ _ _ h => h) (Or.inr ⟨by rfl, rfl⟩) (by assumption) ?_)
                      | fail "take 17")
                    try simp only [Act.put, List.setIfInBounds_toArray, List.set_cons_zero, List.set_cons_succ, List.getElem_toArray, List.getElem_cons_zero, List.getElem_cons_succ]
                    refine wpAnyH_done (by kernel_rfl) ?_ _
                    go_wp2_with fail
                    go_meet
                    exact ⟨_, rfl, rfl, ClP.box w6 CC 77, hz6, hb6w.alloc hz6 _⟩
                  · go_simp
                    skip
                    refine hK.out _ _ ?_ (fun hHeld => ?_)
                    · exact e1 (by (repeat (first | (with_reducible assumption) | (with_reducible exact Below.refl _ _) | exact Nat.le_refl _ | exact Below.size (by with_reducible assumption) | (with_reducible refine Below.drew ?_) | (with_reducible refine below_drewN ?_ _) | (with_reducible refine Below.alloc ?_ ?_ _) | (with_reducible refine Below.setCell ?_ ?_ _) | (with_reducible refine le_alloc ?_ _) | (with_reducible refine le_set ?_ _ _) | (with_reducible refine le_drew ?_) | (with_reducible refine le_drewN ?_ _) | omega | (dsimp only; omega))))
                    clear hK K
                    try simp only [Act.put, List.setIfInBounds_toArray, List.set_cons_zero, List.set_cons_succ, List.getElem_toArray, List.getElem_cons_zero, List.getElem_cons_succ]
                    have hbA : Below w4.heap.size w4 (w4.alloc (clO ⟨0, 0, 0, 0⟩ 77)) := (Below.refl _ _).alloc (Nat.le_refl _) _
                    refine wpAnyH_ready (rs := [11]) (by kernel_rfl) (by simp) ?_
                    refine AllReadyH.cons (o := _) rfl (fun K hK => ?_) AllReadyH.nil
                    go_simp
                    refine (HT.out _ hbA.drew).mono ?_; rintro e w6 ⟨rfl, hb6⟩; have hb6A : Below (w4.alloc (clO ⟨0, 0, 0, 0⟩ 77)).heap.size (w4.alloc (clO ⟨0, 0, 0, 0⟩ 77)) w6 := (Below.refl _ _).drew.trans hb6; have hb6w : Below w4.heap.size w4 w6 := hbA.trans (hb6A.mono hbA.size); have hz6 := hb6w.size
                    refine hK.out _ _ ?_ (fun hHeld => ?_)
                    · exact e1 hb6w
                    clear hK K
                    try simp only [Act.put, List.setIfInBounds_toArray, List.set_cons_zero, List.set_cons_succ, List.getElem_toArray, List.getElem_cons_zero, List.getElem_cons_succ]
                    (first
                      | (refine wpAnyH_take (i := 12) (v := ?_) rfl (by kernel_rfl) (by kernel_rfl) (by kernel_rfl) (fun _ _ _ h => h) (Or.inl ⟨by rfl, ?_⟩) (by assumption) ?_
                         rotate_left
                         focus (intro wq hSq; (try dsimp only at hSq); go_simp; (try (with_reducible rfl)); done))
                      | (refine wpAnyH_take (i := 12) (v := undef) rfl (by kernel_rfl) (by kernel_rfl) (by kernel_rfl) (fun _ _ _ h => h) (Or.inr ⟨by rfl, rfl⟩) (by assumption) ?_)
                      | fail "take 12")
                    try simp only [Act.put, List.setIfInBounds_toArray, List.set_cons_zero, List.set_cons_succ, List.getElem_toArray, List.getElem_cons_zero, List.getElem_cons_succ]
                    (first
                      | (refine wpAnyH_take (i := 13) (v := ?_) rfl (by kernel_rfl) (by kernel_rfl) (by kernel_rfl) (fun _ _ _ h => h) (Or.inl ⟨by rfl, ?_⟩) (by assumption) ?_
                         rotate_left
                         focus (intro wq hSq; (try dsimp only at hSq); go_simp; (try (with_reducible rfl)); done))
                      | (refine wpAnyH_take (i := 13) (v := undef) rfl (by kernel_rfl) (by kernel_rfl) (by kernel_rfl) (fun _ _ _ h => h) (Or.inr ⟨by rfl, rfl⟩) (by assumption) ?_)
                      | fail "take 13")
                    try simp only [Act.put, List.setIfInBounds_toArray, List.set_cons_zero, List.set_cons_succ, List.getElem_toArray, List.getElem_cons_zero, List.getElem_cons_succ]
                    (first
                      | (refine wpAnyH_take (i := 14) (v := ?_) rfl (by kernel_rfl) (by kernel_rfl) (by kernel_rfl) (fun _ _ _ h => h) (Or.inl ⟨by rfl, ?_⟩) (by assumption) ?_
                         rotate_left
                         focus (intro wq hSq; (try dsimp only at hSq); go_simp; (try (with_reducible rfl)); done))
                      | (refine wpAnyH_take (i := 14) (v := undef) rfl (by kernel_rfl) (by kernel_rfl) (by kernel_rfl) (fun _ _ _ h => h) (Or.inr ⟨by rfl, rfl⟩) (by assumption) ?_)
                      | fail "take 14")
                    try simp only [Act.put, List.setIfInBounds_toArray, List.set_cons_zero, List.set_cons_succ, List.getElem_toArray, List.getElem_cons_zero, List.getElem_cons_succ]
                    have hoC6 := own_next (lit_own w4 w4.heap.size 77 #[.int .i64 0, .int .i64 0, .int .i64 0, .int .i64 0] 1 4 (Nat.le_refl _) (by decide) rfl) hb6A
                    have cg0 := hoC6.cellAt 0 (by omega)
                    have cg1 := hoC6.cellAt 1 (by omega)
                    have cg2 := hoC6.cellAt 2 (by omega)
                    have cg3 := hoC6.cellAt 3 (by omega)
                    have cgf := hoC6.frozenAt
                    simp only [List.getElem?_cons_zero, List.getElem?_cons_succ] at cg0 cg1 cg2 cg3
                    refine wpAnyH_ready (rs := [16]) (by kernel_rfl) (by simp) ?_
                    refine AllReadyH.cons (o := _) rfl (fun K hK => ?_) AllReadyH.nil
                    go_simp
                    skip
                    refine hK.out _ _ ?_ (fun hHeld => ?_)
                    · exact e1 (by (repeat (first | (with_reducible assumption) | (with_reducible exact Below.refl _ _) | exact Nat.le_refl _ | exact Below.size (by with_reducible assumption) | (with_reducible refine Below.drew ?_) | (with_reducible refine below_drewN ?_ _) | (with_reducible refine Below.alloc ?_ ?_ _) | (with_reducible refine Below.setCell ?_ ?_ _) | (with_reducible refine le_alloc ?_ _) | (with_reducible refine le_set ?_ _ _) | (with_reducible refine le_drew ?_) | (with_reducible refine le_drewN ?_ _) | omega | (dsimp only; omega))))
                    clear hK K
                    try simp only [Act.put, List.setIfInBounds_toArray, List.set_cons_zero, List.set_cons_succ, List.getElem_toArray, List.getElem_cons_zero, List.getElem_cons_succ]
                    (first
                      | (refine wpAnyH_take (i := 17) (v := ?_) rfl (by kernel_rfl) (by kernel_rfl) (by kernel_rfl) (fun _ _ _ h => h) (Or.inl ⟨by rfl, ?_⟩) (by assumption) ?_
                         rotate_left
                         focus (intro wq hSq; (try dsimp only at hSq); go_simp; (try (with_reducible rfl)); done))
                      | (refine wpAnyH_take (i := 17) (v := undef) rfl (by kernel_rfl) (by kernel_rfl) (by kernel_rfl) (fun _ _ _ h => h) (Or.inr ⟨by rfl, rfl⟩) (by assumption) ?_)
                      | fail "take 17")
                    try simp only [Act.put, List.setIfInBounds_toArray, List.set_cons_zero, List.set_cons_succ, List.getElem_toArray, List.getElem_cons_zero, List.getElem_cons_succ]
                    refine wpAnyH_done (by kernel_rfl) ?_ _
                    have hs0 := hoC6.stored 0 (.int .i64 CC.k)
                    have hs1 := hs0.1.stored 1 (.int .i64 CC.ar)
                    have hs2 := hs1.1.stored 2 (.int .i64 CC.be)
                    have hs3 := hs2.1.stored 3 (.int .i64 CC.en)
                    have hC7 : ClP ((((w6.setCell ⟨w4.heap.size, 0, none⟩ (.int .i64 CC.k)).setCell ⟨w4.heap.size, 1, none⟩ (.int .i64 CC.ar)).setCell ⟨w4.heap.size, 2, none⟩ (.int .i64 CC.be)).setCell ⟨w4.heap.size, 3, none⟩ (.int .i64 CC.en)) w4.heap.size 0 CC := ⟨hs3.1.cellAt 0 (by omega), hs3.1.cellAt 1 (by omega), hs3.1.cellAt 2 (by omega), hs3.1.cellAt 3 (by omega), (hs3.1.lt _ rfl).2⟩
                    have hb7 : Below w4.heap.size w4 ((((w6.setCell ⟨w4.heap.size, 0, none⟩ (.int .i64 CC.k)).setCell ⟨w4.heap.size, 1, none⟩ (.int .i64 CC.ar)).setCell ⟨w4.heap.size, 2, none⟩ (.int .i64 CC.be)).setCell ⟨w4.heap.size, 3, none⟩ (.int .i64 CC.en)) := by (repeat (first | (with_reducible assumption) | (with_reducible exact Below.refl _ _) | exact Nat.le_refl _ | exact Below.size (by with_reducible assumption) | (with_reducible refine Below.drew ?_) | (with_reducible refine below_drewN ?_ _) | (with_reducible refine Below.alloc ?_ ?_ _) | (with_reducible refine Below.setCell ?_ ?_ _) | (with_reducible refine le_alloc ?_ _) | (with_reducible refine le_set ?_ _ _) | (with_reducible refine le_drew ?_) | (with_reducible refine le_drewN ?_ _) | omega | (dsimp only; omega)))
                    clear hs0 hs1 hs2 hs3
                    have HC7 := Lib.hid hC7; clear hC7
                    go_wp2_with fail
                    go_meet
                    exact ⟨_, rfl, rfl, HC7.out, Nat.le_refl _, hb7⟩
                case rest =>
                  obtain ⟨g, rfl, rfl, hCl, hgl, hb5⟩ := hcut
                  have hSP := (HV4.out.next hb5).sp
                  rw [HL.out] at hSP
                  have hBc := HB4.out.next hb5
                  have hXc := HX4.out.next hb5
                  have hoc := own_next Ho4.out hb5
                  have hFc := HF4.out.trans (Fr.below hb5)
                  have hzc := Hzp4.out.next hb5
                  have hgA : some g ≠ (Value.slice Ao' n co').ownBlock := fun e => by have := (HV4.out.oo.lt g e.symm).2; omega
                  have hgC : some g ≠ (Value.slice Ac' n cc').ownBlock := fun e => by have := (HV4.out.cl.lt g e.symm).2; omega
                  have hgX : g ≠ X := by omega
                  clear r0 r1 r2 r3 r4 r5 r6 r7 r8 r9 r10 r11 r12 r13 r14 rf
                  clear p0 p1 Hr HT e1 HV4 HB4 HX4 Ho4 HF4 Hzp4 hXl hGl hb5 hgl
                  have HB := Lib.hid hBc; clear hBc
                  have HX := Lib.hid hXc; clear hXc
                  have HoP := Lib.hid hoc; clear hoc
                  have HF := Lib.hid hFc; clear hFc
                  have Hzp := Lib.hid hzc; clear hzc
                  have HgA := Lib.hid hgA; clear hgA
                  have HgC := Lib.hid hgC; clear hgC
                  cases OK
                  · have hok : okK s zs ⟨t, x, y⟩ ks k = false := by
                      rw [okK, HY.out, voyK, loadV_snoc, HL.out, Hzk.out, decide_eq_false (show ¬ s.ld < L + z.ld by omega), okV_snoc, (voyK_zero.1 H0.out).2, HP.out, show okC s zs k P = false from HOK.out]; rfl
                    have hgo := goD_skip Hgo.out hok
                    have HgoN := Lib.hid hgo; clear hgo
                    have Hok := Lib.hid hok; clear hok
                    have HSP := Lib.hid hSP; clear hSP
                    have HCl := Lib.hid hCl; clear hCl
                    go_wp2_with fail
                    go_roundg (N - (k + 1))
                    case measure => omega
                    case rel => exact ⟨k + 1, l', b', Ao', co', Ac', cc', by omega, by go_num, hl', HgoN, HX, HoP, HF⟩
                  · have hvK : voyK s zs ⟨t, x, y⟩ (ks ++ [(k : Int)]) = 0 := voyK_zero.2 ⟨by rw [loadV_snoc, HL.out, Hzk.out]; omega, by rw [okV_snoc, (voyK_zero.1 H0.out).2, HP.out]; exact HOK.out⟩
                    have hok : okK s zs ⟨t, x, y⟩ ks k = true := by rw [okK, HY.out, hvK]; rfl
                    have hgo := goD_step Hgo.out hok
                    have hvO : VOk s zs ⟨t, x, y⟩ (ks ++ [(k : Int)]) := by
                      obtain ⟨q1, q2, q3, q4, q5, q6, q7⟩ := Hv.out
                      refine ⟨q1, q2, q3, q4, fun a ha => ?_, q6, q7⟩
                      rcases List.mem_append.1 ha with h1 | h1
                      · exact q5 a h1
                      · simp only [List.mem_singleton] at h1
                        have := Hln.out
                        omega
                    have hXl := hSP.hX
                    have hr := hSP.row
                    have r0 := (cell_of_row wc X 0 _ _ _ hr).trans rfl
                    have r1 := (cell_of_row wc X 1 _ _ _ hr).trans rfl
                    have r2 := (cell_of_row wc X 2 _ _ _ hr).trans rfl
                    have r3 := (cell_of_row wc X 3 _ _ _ hr).trans rfl
                    have r4 := (cell_of_row wc X 4 _ _ _ hr).trans rfl
                    have r5 := (cell_of_row wc X 5 _ _ _ hr).trans rfl
                    have r6 := (cell_of_row wc X 6 _ _ _ hr).trans rfl
                    have r7 := (cell_of_row wc X 7 _ _ _ hr).trans rfl
                    have r8 := (cell_of_row wc X 8 _ _ _ hr).trans rfl
                    have r9 := (cell_of_row wc X 9 _ _ _ hr).trans rfl
                    have r10 := (cell_of_row wc X 10 _ _ _ hr).trans rfl
                    have r11 := (cell_of_row wc X 11 _ _ _ hr).trans rfl
                    have r12 := (cell_of_row wc X 12 _ _ _ hr).trans rfl
                    have r13 := (cell_of_row wc X 13 _ _ _ hr).trans rfl
                    have r14 := (cell_of_row wc X 14 _ _ _ hr).trans rfl
                    have rf := fun j => frozen_of_row wc X j _ _ hr
                    have e63 : n + 1 ≤ maxLen := by unfold maxLen; omega
                    have e32 : (n + 1) * 8 ≤ 140737488355328 := by omega
                    have e33 : (n + 1) * 32 ≤ 140737488355328 := by omega
                    have E63 := Lib.hid e63; clear e63
                    have E32 := Lib.hid e32; clear e32
                    have E33 := Lib.hid e33; clear e33
                    have HvK := Lib.hid hvK; clear hvK
                    have HvO := Lib.hid hvO; clear hvO
                    have HgoN := Lib.hid hgo; clear hgo
                    have Hok := Lib.hid hok; clear hok
                    have HSP := Lib.hid hSP; clear hSP
                    have HCl := Lib.hid hCl; clear hCl
                    have Hr := Lib.hid hr; clear hr
                    go_wp2_with (at_builtin; refine wpl_append _ rfl (.tmp 129) (.tmp 131) _ rfl (X + 1) 2 i0 _ 1 8 Try.underlying29 hi hz0 hz1 hz2 rfl (by omega) _ n _ rfl (HSP.out.oo.alloc _) (wc.heap.size + 1) (some ⟨wc.heap.size, 0, none⟩) 1 1 (intC (k : Int)) rfl (Sl.new wc 2 _ 1 1 rfl) (intC_one _) E63.out E32.out (le_alloc hXl _) ?_; intro v5 w5 ho5 hg5 hat5; obtain ⟨A5, c5, rfl⟩ := own_slice ho5; have hP5 := (HSP.out.next ((Below.refl _ _).alloc (Nat.le_refl _) _)).pushO hg5 (xs' := ks ++ [(k : Int)]) (by rw [List.flatMap_append]; simpa using ho5); have hr5 := hP5.2; have c6 := (cell_of_row w5 X 6 _ _ _ hr5).trans rfl; have cf := fun j => frozen_of_row w5 X j _ _ hr5; clear hr5)
                    have hbA : Below wc.heap.size wc (wc.alloc (.cells #[.int .i64 (k : Int)] 2)) := (Below.refl _ _).alloc (Nat.le_refl _) _
                    have hat' : (Value.slice A5 (n + 1) c5).ownBlock = (Value.slice Ao' n co').ownBlock ∨ ∃ q, (Value.slice A5 (n + 1) c5).ownBlock = some q ∧ (wc.alloc (.cells #[.int .i64 (k : Int)] 2)).heap.size ≤ q := hat5.imp id fun h => ⟨_, h, Nat.le_refl _⟩
                    have hB6 := (HB.out.next hbA).pushO (i := 6) (u := .slice A5 (n + 1) c5) hg5 hat'
                    have hFr := Fr.pushO (X := X) (vc := .slice Ac' n cc') (.slice A5 (n + 1) c5) 6 hg5 hat'
                    have hF6 := HF.out.trans ((Fr.below hbA).trans hFr)
                    have hoA := own_next HoP.out hbA
                    have hPA := HSP.out.next hbA
                    have ho6 := own_fr hoA hFr (Nat.lt_succ_self X) (own_ne hoA hPA.oo (by decide)) (own_ne hoA hPA.cl (by decide))
                    have hCA := HCl.out.next hbA
                    have hC6 := hCA.keep (hFr.block g hCA.hb hgX (fun e => HgA.out e.symm) (fun e => HgC.out e.symm))
                    have hP6 := hP5.1
                    obtain ⟨w6, hw6⟩ : ∃ w6, w5.setCell ⟨X, 6, none⟩ (.slice A5 (n + 1) c5) = w6 := ⟨_, rfl⟩
                    rw [hw6] at hB6 hF6 ho6 hC6 hP6 ⊢
                    clear r0 r1 r2 r3 r4 r5 r6 r7 r8 r9 r10 r11 r12 r13 r14 rf
                    clear hw6 hFr hoA hPA hCA hat' hat5 hg5 ho5 hP5 c6 cf HB HF HoP HSP HCl HX HgA HgC hbA Hr
                    have hXl := hP6.hX
                    have hr := hP6.row
                    have r0 := (cell_of_row w6 X 0 _ _ _ hr).trans rfl
                    have r1 := (cell_of_row w6 X 1 _ _ _ hr).trans rfl
                    have r2 := (cell_of_row w6 X 2 _ _ _ hr).trans rfl
                    have r3 := (cell_of_row w6 X 3 _ _ _ hr).trans rfl
                    have r4 := (cell_of_row w6 X 4 _ _ _ hr).trans rfl
                    have r5 := (cell_of_row w6 X 5 _ _ _ hr).trans rfl
                    have r6 := (cell_of_row w6 X 6 _ _ _ hr).trans rfl
                    have r7 := (cell_of_row w6 X 7 _ _ _ hr).trans rfl
                    have r8 := (cell_of_row w6 X 8 _ _ _ hr).trans rfl
                    have r9 := (cell_of_row w6 X 9 _ _ _ hr).trans rfl
                    have r10 := (cell_of_row w6 X 10 _ _ _ hr).trans rfl
                    have r11 := (cell_of_row w6 X 11 _ _ _ hr).trans rfl
                    have r12 := (cell_of_row w6 X 12 _ _ _ hr).trans rfl
                    have r13 := (cell_of_row w6 X 13 _ _ _ hr).trans rfl
                    have r14 := (cell_of_row w6 X 14 _ _ _ hr).trans rfl
                    have rf := fun j => frozen_of_row w6 X j _ _ hr
                    have g0 := hC6.c0
                    have g1 := hC6.c1
                    have g2 := hC6.c2
                    have g3 := hC6.c3
                    have hgl := hC6.hb
                    simp only [Nat.zero_add] at g1 g2 g3
                    have Hr := Lib.hid hr; clear hr
                    have HC6 := Lib.hid hC6; clear hC6
                    have HP6 := Lib.hid hP6; clear hP6
                    have HB6 := Lib.hid hB6; clear hB6
                    have Ho6 := Lib.hid ho6; clear ho6
                    have HF6 := Lib.hid hF6; clear hF6
                    go_cut [] (fun wx => ∃ A7 c7, SP wx X bs s x y t (some ⟨bz, offz, none⟩) N cZ zs bu (ks ++ [(k : Int)]) (n + 1) (callsV s zs ⟨t, x, y⟩ ks ++ [CC]) (n + 1) L ((bu : Int) - l') A5 c5 A7 c7 C' vb' E' F' ∧ BB wx X (.slice A5 (n + 1) c5) vb' E' F' b' ∧ wx.ownsRow (X + 1) 34 2 (.slice (some ⟨G, 0, none⟩) 1 1) 1 [.int .i64 P.x, .int .i64 P.y] ∧ Fr X (.slice Ao n co) (.slice Ac n cc) (.slice A5 (n + 1) c5) (.slice A7 (n + 1) c7) w wx)
                    case first =>
                      go_region_law (refine step_append _ rfl (.tmp 139) (.tmp 141) _ rfl (X + 1) 77 q0 _ 4 32 Try.underlying83 hq hy0 hy1 hy2 rfl (by omega) _ n _ rfl ((own_next HP6.out.cl (Below.refl _ _).drew).alloc _) (w6.heap.size + 1) (some ⟨w6.heap.size, 0, none⟩) 1 1 (Cl.cells CC) rfl (Sl.new w6.drew 77 _ 1 4 rfl) (Cl.cells_one _) E63.out E33.out (le_alloc hXl _) ?_; intro v7 w7 ho7 hg7 hat7; obtain ⟨A7, c7, rfl⟩ := own_slice ho7; have hP7 := (HP6.out.next (w' := w6.drew.alloc (clO CC 77)) ((Below.refl w6.heap.size w6).drew.alloc (Nat.le_refl _) _)).pushC hg7 (cs' := callsV s zs ⟨t, x, y⟩ ks ++ [CC]) (by rw [List.flatMap_append]; simpa using ho7); have hr7 := hP7.2; have c7' := (cell_of_row w7 X 7 _ _ _ hr7).trans rfl; have cf7 := fun j => frozen_of_row w7 X j _ _ hr7; clear hr7)
                      all_goals
                        go_wp2_with fail
                        go_meet
                        have hbB : Below w6.heap.size w6 (w6.drew.alloc (clO CC 77)) := (Below.refl w6.heap.size w6).drew.alloc (Nat.le_refl _) _
                        have hFB := Fr.pushC (X := X) (vo := .slice A5 (n + 1) c5) (v5 := .slice A7 (n + 1) c7) (.slice A7 (n + 1) c7) 7 hg7 (hat7.imp id fun h => ⟨_, h, Nat.le_refl _⟩)
                        have hPB := HP6.out.next hbB
                        have hoB := own_next Ho6.out hbB
                        exact ⟨A7, c7, hP7.1, (HB6.out.next hbB).pushC hPB.cl hg7, own_fr hoB hFB (Nat.lt_succ_self X) (own_ne hoB hPB.oo (by decide)) (own_ne hoB hPB.cl (by decide)), HF6.out.trans ((Fr.below hbB).trans hFB)⟩
                    case rest =>
                      obtain ⟨A7, c7, hP7, hB7, ho7, hF7⟩ := hcut
                      have hXl := hP7.hX
                      have hr := hP7.row
                      clear r0 r1 r2 r3 r4 r5 r6 r7 r8 r9 r10 r11 r12 r13 r14 rf
                      clear g0 g1 g2 g3 hgl HC6 HP6 HB6 Ho6 HF6 Hr
                      have r0 := (cell_of_row wc X 0 _ _ _ hr).trans rfl
                      have r1 := (cell_of_row wc X 1 _ _ _ hr).trans rfl
                      have r2 := (cell_of_row wc X 2 _ _ _ hr).trans rfl
                      have r3 := (cell_of_row wc X 3 _ _ _ hr).trans rfl
                      have r4 := (cell_of_row wc X 4 _ _ _ hr).trans rfl
                      have r5 := (cell_of_row wc X 5 _ _ _ hr).trans rfl
                      have r6 := (cell_of_row wc X 6 _ _ _ hr).trans rfl
                      have r7 := (cell_of_row wc X 7 _ _ _ hr).trans rfl
                      have r8 := (cell_of_row wc X 8 _ _ _ hr).trans rfl
                      have r9 := (cell_of_row wc X 9 _ _ _ hr).trans rfl
                      have r10 := (cell_of_row wc X 10 _ _ _ hr).trans rfl
                      have r11 := (cell_of_row wc X 11 _ _ _ hr).trans rfl
                      have r12 := (cell_of_row wc X 12 _ _ _ hr).trans rfl
                      have r13 := (cell_of_row wc X 13 _ _ _ hr).trans rfl
                      have r14 := (cell_of_row wc X 14 _ _ _ hr).trans rfl
                      have rf := fun j => frozen_of_row wc X j _ _ hr
                      obtain ⟨bz2, offz2, z2, hA2, -, hzx2, hzp2⟩ := hP7.hz.wk (Nat.le_of_lt hXl) k hlk
                      obtain rfl : z2 = z := Option.some.inj (hzx2.symm.trans Hzx.out)
                      cases hA2
                      have c3 := hzp2.c3
                      have Hr := Lib.hid hr; clear hr
                      have HP7 := Lib.hid hP7; clear hP7
                      have HB7 := Lib.hid hB7; clear hB7
                      have Ho7 := Lib.hid ho7; clear ho7
                      have HF7 := Lib.hid hF7; clear hF7
                      clear hzx2 hzp2
                      go_wp2_with fail
                      go_region
                      have hP8 := HP7.out.setX (i := 8) (u := .int .i64 (L + z2.ld)) (L' := L + z2.ld) (D' := (bu : Int) - l') rfl HP7.out.oo HP7.out.cl
                      have hB8 := HB7.out.setX (i := 8) (u := .int .i64 (L + z2.ld))
                      have hS8 := setX_rng wc X 8 (.int .i64 (L + z2.ld))
                      have ho8 := own_rng Ho7.out hS8 fun q hq => .inr (Ho7.out.lt q hq).1
                      have hF8 := HF7.out.trans (Fr.rng hS8)
                      generalize wc.setCell ⟨X, 8, none⟩ (.int .i64 (L + z2.ld)) = w8 at *
                      have hd8 : Below w8.heap.size w8 w8.drew := (Below.refl _ _).drew
                      have eL : loadV zs (ks ++ [(k : Int)]) = L + z2.ld := by rw [loadV_snoc, HL.out, Hzk.out]
                      have eC : callsV s zs ⟨t, x, y⟩ (ks ++ [(k : Int)]) = callsV s zs ⟨t, x, y⟩ ks ++ [CC] := by rw [callsV_snoc, HP.out, ← HCC.out]
                      have hX9 : SX w8.drew X bs s x y t (some ⟨bz, offz, none⟩) N cZ zs bu (ks ++ [(k : Int)]) (n + 1) ((bu : Int) - l') b' A5 c5 A7 c7 := by
                        refine ⟨C', vb', E', F', SP.sv ?_, hB8.next hd8⟩
                        rw [eL, eC]
                        exact hP8.next hd8
                      have hP8d := hP8.next hd8
                      have hIH := ih (ks ++ [(k : Int)]) (n + 1) l' b' A5 c5 A7 c7 w8.drew hX9 HvO.out HvK.out (by omega) (by omega)
                      obtain ⟨Y, hYd⟩ : ∃ Y, dfs s zs ⟨t, x, y⟩ f (ks ++ [(k : Int)]) (l', b') = Y := ⟨_, rfl⟩
                      rw [hYd] at hIH
                      have hgo := HgoN.out
                      rw [hYd] at hgo
                      clear r0 r1 r2 r3 r4 r5 r6 r7 r8 r9 r10 r11 r12 r13 r14 rf
                      clear c3 HgoN hP8 hB8 hX9 HP7 HB7 Ho7 HF7 Hr hS8
                      have HYd := Lib.hid hYd; clear hYd
                      have HgoN := Lib.hid hgo; clear hgo
                      have EL := Lib.hid eL; clear eL
                      have EC := Lib.hid eC; clear eC
                      have HIH := Lib.hid hIH; clear hIH
                      have Ho8 := Lib.hid ho8; clear ho8
                      have HF8 := Lib.hid hF8; clear hF8
                      go_wp2_with fail
                      refine HIH.out.mono ?_
                      rintro e w9 ⟨r, D9, b9, A9, c9, B9, d9, rfl, hx9, hF9, hR9⟩
                      have ho9 := own_fr (own_next Ho8.out hd8) hF9 (Nat.lt_succ_self X) (own_ne (own_next Ho8.out hd8) hP8d.oo (by decide)) (own_ne (own_next Ho8.out hd8) hP8d.cl (by decide))
                      have hFn := (HF8.out.trans (Fr.below hd8)).trans hF9
                      obtain ⟨C9, vb9, E9, F9, hV9, hB9⟩ := hx9
                      have hP9 := hV9.sp
                      rw [EL.out, EC.out] at hP9
                      obtain ⟨go, rfl, -, -⟩ := own_form hP9.oo (by omega)
                      obtain ⟨gc, rfl, -, -⟩ := own_form hP9.cl (by omega)
                      have hXl := hP9.hX
                      have hr := hP9.row
                      have r0 := (cell_of_row w9 X 0 _ _ _ hr).trans rfl
                      have r1 := (cell_of_row w9 X 1 _ _ _ hr).trans rfl
                      have r2 := (cell_of_row w9 X 2 _ _ _ hr).trans rfl
                      have r3 := (cell_of_row w9 X 3 _ _ _ hr).trans rfl
                      have r4 := (cell_of_row w9 X 4 _ _ _ hr).trans rfl
                      have r5 := (cell_of_row w9 X 5 _ _ _ hr).trans rfl
                      have r6 := (cell_of_row w9 X 6 _ _ _ hr).trans rfl
                      have r7 := (cell_of_row w9 X 7 _ _ _ hr).trans rfl
                      have r8 := (cell_of_row w9 X 8 _ _ _ hr).trans rfl
                      have r9 := (cell_of_row w9 X 9 _ _ _ hr).trans rfl
                      have r10 := (cell_of_row w9 X 10 _ _ _ hr).trans rfl
                      have r11 := (cell_of_row w9 X 11 _ _ _ hr).trans rfl
                      have r12 := (cell_of_row w9 X 12 _ _ _ hr).trans rfl
                      have r13 := (cell_of_row w9 X 13 _ _ _ hr).trans rfl
                      have r14 := (cell_of_row w9 X 14 _ _ _ hr).trans rfl
                      have rf := fun j => frozen_of_row w9 X j _ _ hr
                      obtain ⟨bz2, offz2, z3, hA2, -, hzx2, hzp2⟩ := hP9.hz.wk (Nat.le_of_lt hXl) k hlk
                      obtain rfl : z3 = z2 := Option.some.inj (hzx2.symm.trans Hzx.out)
                      cases hA2
                      have c3 := hzp2.c3
                      have Hr := Lib.hid hr; clear hr
                      have HP9 := Lib.hid hP9; clear hP9
                      have HB9 := Lib.hid hB9; clear hB9
                      have Ho9 := Lib.hid ho9; clear ho9
                      have HFn := Lib.hid hFn; clear hFn
                      have HR9 := Lib.hid hR9; clear hR9
                      clear hzx2 hzp2 hV9 hF9 HF8 Ho8 hP8d
                      go_wp2_with fail
                      go_region
                      have hP10 := HP9.out.setX (i := 8) (u := .int .i64 L) (L' := L) (D' := D9) rfl HP9.out.oo HP9.out.cl
                      have hB10 := HB9.out.setX (i := 8) (u := .int .i64 L)
                      have hS10 := setX_rng w9 X 8 (.int .i64 L)
                      have ho10 := own_rng Ho9.out hS10 fun q hq => .inr (Ho9.out.lt q hq).1
                      have hF10 := HFn.out.trans (Fr.rng hS10)
                      have hd10 : Below (w9.setCell ⟨X, 8, none⟩ (.int .i64 L)).heap.size (w9.setCell ⟨X, 8, none⟩ (.int .i64 L)) (w9.setCell ⟨X, 8, none⟩ (.int .i64 L)).drew := (Below.refl _ _).drew
                      have hP10 := hP10.next hd10
                      have hB10 := hB10.next hd10
                      have ho10 := own_next ho10 hd10
                      have hF10 := hF10.trans (Fr.below hd10)
                      clear hS10 hd10
                      generalize (w9.setCell ⟨X, 8, none⟩ (.int .i64 L)).drew = w10 at *
                      have hcap := own_cap hP10.cl
                      have hcao := own_cap hP10.oo
                      have hoo := own_pre hP10.oo n (Nat.le_succ n)
                      have hcl := own_pre hP10.cl n (Nat.le_succ n)
                      have hkt : (ks ++ [(k : Int)]).take n = ks := by rw [← Hnk.out]; simp
                      have hct : (callsV s zs ⟨t, x, y⟩ ks ++ [CC]).take n = callsV s zs ⟨t, x, y⟩ ks := by rw [← Hnk.out, ← callsV_len s zs ⟨t, x, y⟩ ks]; simp
                      rw [flat_take intC 1 intC_len, hkt] at hoo
                      rw [flat_take Cl.cells 4 Cl.cells_len, hct] at hcl
                      have hXl := hP10.hX
                      have hr := hP10.row
                      clear r0 r1 r2 r3 r4 r5 r6 r7 r8 r9 r10 r11 r12 r13 r14 rf
                      clear hkt hct c3 HP9 HB9 Ho9 HFn Hr
                      have r0 := (cell_of_row w10 X 0 _ _ _ hr).trans rfl
                      have r1 := (cell_of_row w10 X 1 _ _ _ hr).trans rfl
                      have r2 := (cell_of_row w10 X 2 _ _ _ hr).trans rfl
                      have r3 := (cell_of_row w10 X 3 _ _ _ hr).trans rfl
                      have r4 := (cell_of_row w10 X 4 _ _ _ hr).trans rfl
                      have r5 := (cell_of_row w10 X 5 _ _ _ hr).trans rfl
                      have r6 := (cell_of_row w10 X 6 _ _ _ hr).trans rfl
                      have r7 := (cell_of_row w10 X 7 _ _ _ hr).trans rfl
                      have r8 := (cell_of_row w10 X 8 _ _ _ hr).trans rfl
                      have r9 := (cell_of_row w10 X 9 _ _ _ hr).trans rfl
                      have r10 := (cell_of_row w10 X 10 _ _ _ hr).trans rfl
                      have r11 := (cell_of_row w10 X 11 _ _ _ hr).trans rfl
                      have r12 := (cell_of_row w10 X 12 _ _ _ hr).trans rfl
                      have r13 := (cell_of_row w10 X 13 _ _ _ hr).trans rfl
                      have r14 := (cell_of_row w10 X 14 _ _ _ hr).trans rfl
                      have rf := fun j => frozen_of_row w10 X j _ _ hr
                      have j5 : IntKind.i64.wrap (((n + 1 : Nat) : Int) - 1) = (n : Int) := by rw [IntWalk.i64_in _ (by omega)]; omega
                      have j6 : ((n + 1 : Nat) : Int) - 1 = (n : Int) := by omega
                      have j7 : (n : Int) + 1 - 1 = (n : Int) := by omega
                      have j8 : n ≤ d9 := by omega
                      have j9 : n ≤ c9 := by omega
                      have j10 : (n : Int) ≤ (d9 : Int) := by omega
                      have j11 : (n : Int) ≤ (c9 : Int) := by omega
                      have Hr := Lib.hid hr; clear hr
                      have HP10 := Lib.hid hP10; clear hP10
                      have HB10 := Lib.hid hB10; clear hB10
                      have Ho10 := Lib.hid ho10; clear ho10
                      have HF10 := Lib.hid hF10; clear hF10
                      have Hoo := Lib.hid hoo; clear hoo
                      have Hcl := Lib.hid hcl; clear hcl
                      go_wp2_with fail
                      go_region
                      have hP11 := HP10.out.setX (i := 7) (u := .slice (some ⟨gc, 0, none⟩) n d9) (D' := D9) (Ac' := some ⟨gc, 0, none⟩) (nc' := n) (cc' := d9) rfl HP10.out.oo Hcl.out
                      have hB11 := HB10.out.setX (i := 7) (u := .slice (some ⟨gc, 0, none⟩) n d9)
                      have hS11 := setX_rng w10 X 7 (.slice (some ⟨gc, 0, none⟩) n d9)
                      have ho11 := own_rng Ho10.out hS11 fun q hq => .inr (Ho10.out.lt q hq).1
                      have hoo11 := own_rng Hoo.out hS11 fun q hq => .inr (Hoo.out.lt q hq).1
                      have hF11 := HF10.out.trans (Fr.rng hS11)
                      have hd11 : Below (w10.setCell ⟨X, 7, none⟩ (.slice (some ⟨gc, 0, none⟩) n d9)).heap.size (w10.setCell ⟨X, 7, none⟩ (.slice (some ⟨gc, 0, none⟩) n d9)) (w10.setCell ⟨X, 7, none⟩ (.slice (some ⟨gc, 0, none⟩) n d9)).drew := (Below.refl _ _).drew
                      have hP11 := hP11.next hd11
                      have hB11 := hB11.next hd11
                      have ho11 := own_next ho11 hd11
                      have hoo11 := own_next hoo11 hd11
                      have hF11 := hF11.trans (Fr.below hd11)
                      clear hS11 hd11
                      generalize (w10.setCell ⟨X, 7, none⟩ (.slice (some ⟨gc, 0, none⟩) n d9)).drew = w11 at *
                      have hr := hP11.row
                      clear r0 r1 r2 r3 r4 r5 r6 r7 r8 r9 r10 r11 r12 r13 r14 rf
                      clear HP10 HB10 Ho10 HF10 Hoo Hcl Hr hXl
                      have hXl := hP11.hX
                      have r0 := (cell_of_row w11 X 0 _ _ _ hr).trans rfl
                      have r1 := (cell_of_row w11 X 1 _ _ _ hr).trans rfl
                      have r2 := (cell_of_row w11 X 2 _ _ _ hr).trans rfl
                      have r3 := (cell_of_row w11 X 3 _ _ _ hr).trans rfl
                      have r4 := (cell_of_row w11 X 4 _ _ _ hr).trans rfl
                      have r5 := (cell_of_row w11 X 5 _ _ _ hr).trans rfl
                      have r6 := (cell_of_row w11 X 6 _ _ _ hr).trans rfl
                      have r7 := (cell_of_row w11 X 7 _ _ _ hr).trans rfl
                      have r8 := (cell_of_row w11 X 8 _ _ _ hr).trans rfl
                      have r9 := (cell_of_row w11 X 9 _ _ _ hr).trans rfl
                      have r10 := (cell_of_row w11 X 10 _ _ _ hr).trans rfl
                      have r11 := (cell_of_row w11 X 11 _ _ _ hr).trans rfl
                      have r12 := (cell_of_row w11 X 12 _ _ _ hr).trans rfl
                      have r13 := (cell_of_row w11 X 13 _ _ _ hr).trans rfl
                      have r14 := (cell_of_row w11 X 14 _ _ _ hr).trans rfl
                      have rf := fun j => frozen_of_row w11 X j _ _ hr
                      have Hr := Lib.hid hr; clear hr
                      have HP11 := Lib.hid hP11; clear hP11
                      have HB11 := Lib.hid hB11; clear hB11
                      have Ho11 := Lib.hid ho11; clear ho11
                      have HF11 := Lib.hid hF11; clear hF11
                      have Hoo11 := Lib.hid hoo11; clear hoo11
                      go_wp2_with fail
                      go_region
                      have hP12 := HP11.out.setX (i := 6) (u := .slice (some ⟨go, 0, none⟩) n c9) (D' := D9) (Ao' := some ⟨go, 0, none⟩) (no' := n) (co' := c9) rfl Hoo11.out HP11.out.cl
                      have hB12 := (HB11.out.setX (i := 6) (u := .slice (some ⟨go, 0, none⟩) n c9)).same (vo2 := .slice (some ⟨go, 0, none⟩) n c9) rfl
                      have hS12 := setX_rng w11 X 6 (.slice (some ⟨go, 0, none⟩) n c9)
                      have ho12 := own_rng Ho11.out hS12 fun q hq => .inr (Ho11.out.lt q hq).1
                      have hF12 := (HF11.out.trans (Fr.rng hS12)).same (vo2 := .slice (some ⟨go, 0, none⟩) n c9) (vc2 := .slice (some ⟨gc, 0, none⟩) n d9) rfl rfl
                      have hd12 : Below (w11.setCell ⟨X, 6, none⟩ (.slice (some ⟨go, 0, none⟩) n c9)).heap.size (w11.setCell ⟨X, 6, none⟩ (.slice (some ⟨go, 0, none⟩) n c9)) (w11.setCell ⟨X, 6, none⟩ (.slice (some ⟨go, 0, none⟩) n c9)).drew := (Below.refl _ _).drew
                      have hP12 := hP12.next hd12
                      rw [← HL.out] at hP12
                      have hX12 : SX (w11.setCell ⟨X, 6, none⟩ (.slice (some ⟨go, 0, none⟩) n c9)).drew X bs s x y t (some ⟨bz, offz, none⟩) N cZ zs bu ks n D9 b9 (some ⟨go, 0, none⟩) c9 (some ⟨gc, 0, none⟩) d9 := ⟨C9, vb9, E9, F9, hP12.sv, hB12.next hd12⟩
                      have ho12 := own_next ho12 hd12
                      have hF12 := hF12.trans (Fr.below hd12)
                      clear hS12 hd12 hP12 hB12
                      generalize (w11.setCell ⟨X, 6, none⟩ (.slice (some ⟨go, 0, none⟩) n c9)).drew = w12 at *
                      clear r0 r1 r2 r3 r4 r5 r6 r7 r8 r9 r10 r11 r12 r13 r14 rf
                      clear HP11 HB11 Ho11 HF11 Hoo11 Hr hXl
                      have HX12 := Lib.hid hX12; clear hX12
                      have Ho12 := Lib.hid ho12; clear ho12
                      have HF12 := Lib.hid hF12; clear hF12
                      cases Y with
                      | none =>
                        obtain ⟨rfl, hD9⟩ := HR9.out
                        have hDn : DD = none := by rw [← HDD.out]; exact goD_end HgoN.out (by rw [Hln.out]; omega)
                        subst hDn
                        have HD9 := Lib.hid hD9; clear hD9
                        go_wp2_with fail
                        go_ret
                        exact ⟨false, D9, b9, _, _, _, _, rfl, HX12.out, HF12.out, rfl, HD9.out⟩
                      | some p =>
                        obtain ⟨l2, b3⟩ := p
                        obtain ⟨rfl, hl2, rfl, rfl⟩ := HR9.out
                        go_wp2_with fail
                        go_roundg (N - (k + 1))
                        case measure => omega
                        case rel => exact ⟨k + 1, l2, b9, _, _, _, _, by omega, by go_num, by omega, HgoN, HX12, Ho12, HF12⟩
            · have hok : okK s zs ⟨t, x, y⟩ ks k = false := by rw [okK, HY.out]; rfl
              have hgo := goD_skip Hgo.out hok
              have HgoN := Lib.hid hgo; clear hgo
              have Hok := Lib.hid hok; clear hok
              go_wp2_with fail
              go_quiet ((go_at_call 43; exact quiet_c (HCh.out _)))
              go_wp2_with fail
              go_roundg (N - (k + 1))
              case measure => omega
              case rel => exact ⟨k + 1, l', b', Ao', co', Ac', cc', by omega, by go_num, hl', HgoN, Lib.hid (HX.out.next (below_drewN (Below.refl _ _) _)), Lib.hid (own_next HoPr.out (below_drewN (Below.refl _ _) _)), Lib.hid (HF.out.trans (Fr.below (below_drewN (Below.refl _ _) _)))⟩
          · obtain rfl : k = N := by omega
            have hDf : DD = some (l', b') := by rw [← HDD.out, Hln.out]; exact Hgo.out
            subst hDf
            have HV := Lib.hid hV; clear hV
            have HB := Lib.hid hB; clear hB
            have Hr := Lib.hid hr; clear hr
            go_wp2_with fail
            go_ret
            exact ⟨true, _, b', Ao', co', Ac', cc', rfl, HX.out, HF.out, rfl, by omega, rfl, rfl⟩
end Go.Proofs.Ytgkdjohiclhcoaa
