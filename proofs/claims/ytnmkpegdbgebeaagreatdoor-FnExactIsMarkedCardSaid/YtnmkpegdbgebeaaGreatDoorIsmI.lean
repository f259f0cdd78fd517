/- IsMarked: the program: the closure, the sides that are marked. -/
import Derived.Test.YtnmkpegdbgebeaaGreatDoorIsmP
import Derived.Test.YtnmkpegdbgebeaaGreatDoorDanG
import Derived.Test.YtnmkpegdbgebeaaGreatDoorAidsI
namespace Go.Proofs.YtnmkpegdbgebeaaGreatDoor
open Go.RowKit
abbrev clM (x9 x3 x5 : Nat) : Value := .func (.func 91) #[] #[.pointer (some ⟨x9, 0, none⟩), .pointer (some ⟨x3, 0, none⟩), .pointer (some ⟨x5, 0, none⟩)]
set_option maxRecDepth 100000 in
set_option maxHeartbeats 2000000 in
theorem mkClos_c (z : AidG) (x9 x3 x5 : Nat) (kd : Int) (d : Dang) (y : Int) (w : World) (h9 : w.cell? ⟨x9, 0, none⟩ = some (.int .i64 kd)) (z9 : x9 < w.heap.size) (h3 : DanP w x3 d) (h5 : w.cell? ⟨x5, 0, none⟩ = some (.int .i64 y)) (z5 : x5 < w.heap.size)
    (hd : danB d = true) (hok : aidB z.a = true) (hy : 0 ≤ y ∧ y ≤ 20000) :
    Calls Tryz.prog 91 #[z.val, .pointer (some ⟨x9, 0, none⟩), .pointer (some ⟨x3, 0, none⟩), .pointer (some ⟨x5, 0, none⟩)] w fun e w' => e = .returned (.bool (marksB d z.a y && (z.a.mr.k == kd))) ∧ Below w.heap.size w w' := by
  have hb0 : Below w.heap.size w (w.alloc (aidO z 33)) := by (repeat (first | (with_reducible assumption) | (with_reducible exact Below.refl _ _) | exact Nat.le_refl _ | exact Below.size (by with_reducible assumption) | (with_reducible refine Below.drew ?_) | (with_reducible refine below_drewN ?_ _) | (with_reducible refine Below.alloc ?_ ?_ _) | (with_reducible refine Below.setCell ?_ ?_ _) | (with_reducible refine le_alloc ?_ _) | (with_reducible refine le_set ?_ _ _) | (with_reducible refine le_drew ?_) | (with_reducible refine le_drewN ?_ _) | omega | (dsimp only; omega)))
  have p2 := aidp_box w z 33
  obtain ⟨w0, hw⟩ : ∃ w0, w.alloc (aidO z 33) = w0 := ⟨_, rfl⟩
  rw [hw] at p2 hb0
  have k9 := (keepC hb0 x9 z9 0).trans h9
  have k5 := (keepC hb0 x5 z5 0).trans h5
  obtain ⟨d0, d1, d2, d3, _⟩ := h3.next hb0
  obtain ⟨f0, f1, f2, f3, f4, f5, f6, f7, f8, f9, f10, f11, f12, f13, f14, f15, zf⟩ := p2
  simp only [Nat.zero_add] at f1 f2 f3 f4 f5 f6 f7 f8 f9 f10 f11 f12 f13 f14 f15
  obtain ⟨M, hM⟩ : ∃ M, marksB d z.a y = M := ⟨_, rfl⟩
  have hMk : ∀ w1, Calls Tryz.prog 92 #[danV d, z.val, .int .i64 y] w1 fun e w' => e = .returned (.bool M) ∧ Below w1.heap.size w1 w' := fun w1 => hM ▸ marks_c d z y w1 hd hok hy
  rw [hM]
  clear hM h3 h5 h9
  have HMk := Lib.hid hMk; clear hMk
  obtain ⟨g, hg⟩ : ∃ g, w.heap.size = g := ⟨_, rfl⟩
  rw [hg] at f0 f1 f2 f3 f4 f5 f6 f7 f8 f9 f10 f11 f12 f13 f14 f15 zf
  have hb0' := hb0
  rw [hg] at hb0'
  cases hk : (z.a.mr.k == kd)
  · rw [Bool.and_false]
    clear f0 f1 f2 f3 f4 f6 f7 f8 f9 f10 f11 f12 f13 f14 f15 d0 d1 d2 d3
    go_enter Tryz.func91, Tryz.ntmps91
    go_wp2_with fail
    try rw [hw]
    try rw [hg]
    clear hw hg
    go_wp2_with fail
    go_ret
    exact ⟨rfl, by first | exact hb0 | exact hb0'⟩
  · rw [Bool.and_true]
    go_enter Tryz.func91, Tryz.ntmps91
    go_wp2_with fail
    try rw [hw]
    try rw [hg]
    clear hw hg
    go_wp2_with fail
    refine (HMk.out _).mono ?_
    rintro e w2 ⟨rfl, hb2⟩
    go_wp2_with fail
    go_ret
    exact ⟨rfl, by first | exact hb0.trans (hb2.mono hb0.size) | exact hb0'.trans (hb2.mono hb0'.size)⟩
set_option maxRecDepth 100000 in
set_option maxHeartbeats 2000000 in
theorem mkIndex_c (A : Option Addr) (n c : Nat) (zs : List AidG) (x9 x3 x5 : Nat) (kd : Int) (d : Dang) (y : Int) (w : World) (h : AidSl w A n zs) (hm : n ≤ 1048576) (h9 : w.cell? ⟨x9, 0, none⟩ = some (.int .i64 kd)) (z9 : x9 < w.heap.size) (h3 : DanP w x3 d) (h5 : w.cell? ⟨x5, 0, none⟩ = some (.int .i64 y)) (z5 : x5 < w.heap.size)
    (hd : danB d = true) (hok : ∀ z ∈ zs, aidB z.a = true) (hy : 0 ≤ y ∧ y ≤ 20000) :
    Calls Tryz.prog 116 #[.slice A n c, clM x9 x3 x5] w fun e w' => (∃ r : Int, e = .returned (.int .i64 r) ∧ decide (0 ≤ r) = sideB d (zs.map AidG.a) y kd) ∧ Below w.heap.size w w' := by
  have hl := h.len
  have hC : ∀ z ∈ zs, ∀ w', Below w.heap.size w w' → Calls Tryz.prog 91 #[z.val, .pointer (some ⟨x9, 0, none⟩), .pointer (some ⟨x3, 0, none⟩), .pointer (some ⟨x5, 0, none⟩)] w' fun e w'' => e = .returned (.bool (marksB d z.a y && (z.a.mr.k == kd))) ∧ Below w'.heap.size w' w'' := fun z hz w' hb =>
    mkClos_c z x9 x3 x5 kd d y w' ((keepC hb x9 z9 0).trans h9) (Nat.lt_of_lt_of_le z9 hb.size) (h3.next hb) ((keepC hb x5 z5 0).trans h5) (Nat.lt_of_lt_of_le z5 hb.size) hd (hok z hz) hy
  obtain ⟨R, hR⟩ : ∃ R, sideB d (zs.map AidG.a) y kd = R := ⟨_, rfl⟩
  rw [hR]
  clear h3 h5 h9 hok hd
  have HR := Lib.hid hR; clear hR
  have Hl := Lib.hid hl; clear hl
  have HC := Lib.hid hC; clear hC
  go_enter Tryz.func116, Tryz.ntmps116
  go_wp2
  go_loopw [5, 8] (fun _ i wr => ∃ k : Nat, k ≤ n ∧ i = .int .i64 k ∧ Hid (∀ z ∈ zs.take k, (marksB d z.a y && (z.a.mr.k == kd)) = false) ∧ Below w.heap.size w wr) (fun _ i _ => n - (intOf i).toNat)
  case atStart => exact ⟨0, Nat.zero_le _, rfl, Lib.hid (by simp), Below.refl _ _⟩
  case round =>
    obtain ⟨k, hk, rfl, Hq, hbw⟩ := hrel
    have k0 : (0 : Int) ≤ (k : Int) := by omega
    by_cases hlt : k < n
    · have k1 : (k : Int) < (n : Int) := by omega
      obtain ⟨b, off, z, rfl, hx, _, hp⟩ := (h.next hbw).get k hlt
      obtain ⟨c0, c1, c2, c3, c4, c5, c6, c7, c8, c9, c10, c11, c12, c13, c14, c15, _⟩ := hp
      have hc := HC.out z (List.mem_of_getElem? hx) wr hbw
      have Hx := Lib.hid hx; clear hx
      cases hv : (marksB d z.a y && (z.a.mr.k == kd))
      all_goals
        rw [hv] at hc
        have HCk := Lib.hid hc; clear hc
        have Hv := Lib.hid hv; clear hv
        go_wp2_with fail
        refine HCk.out.mono ?_
        rintro e w2 ⟨rfl, hb2⟩
        clear c0 c1 c2 c3 c4 c5 c6 c7 c8 c9 c10 c11 c12 c13 c14 c15
        go_wp2_with fail
      · go_roundw
        case rel =>
          refine ⟨k + 1, by omega, by go_num, Lib.hid (fun z' hz' => ?_), hbw.trans (hb2.mono hbw.size)⟩
          rcases (mem_take_next Hx.out z').1 hz' with h2 | h2
          · exact Hq.out z' h2
          · subst h2; exact Hv.out
        case measure => simp [intOf]; omega
      · go_ret
        have hRt : R = true := by
          rw [← HR.out, sideB, List.any_eq_true]
          exact ⟨z.a, List.mem_map_of_mem (List.mem_of_getElem? Hx.out), Hv.out⟩
        exact ⟨⟨_, rfl, by rw [hRt]; simp⟩, hbw.trans (hb2.mono hbw.size)⟩
    · go_wp2_with fail
      go_ret
      have hRf : R = false := by
        rw [← HR.out, sideB, List.any_eq_false]
        intro a ha
        obtain ⟨z, hz, rfl⟩ := List.mem_map.1 ha
        have := Hq.out z (by rw [List.take_of_length_le (by rw [Hl.out]; omega)]; exact hz)
        rw [this]; simp
      exact ⟨⟨_, rfl, by rw [hRf]; rfl⟩, hbw⟩
set_option maxRecDepth 100000 in
set_option maxHeartbeats 1000000 in
theorem mkHas_c (A : Option Addr) (n c : Nat) (zs : List AidG) (x9 x3 x5 : Nat) (kd : Int) (d : Dang) (y : Int) (w : World) (h : AidSl w A n zs) (hm : n ≤ 1048576) (h9 : w.cell? ⟨x9, 0, none⟩ = some (.int .i64 kd)) (z9 : x9 < w.heap.size) (h3 : DanP w x3 d) (h5 : w.cell? ⟨x5, 0, none⟩ = some (.int .i64 y)) (z5 : x5 < w.heap.size)
    (hd : danB d = true) (hok : ∀ z ∈ zs, aidB z.a = true) (hy : 0 ≤ y ∧ y ≤ 20000) :
    Calls Tryz.prog 90 #[.slice A n c, clM x9 x3 x5] w fun e w' => e = .returned (.bool (sideB d (zs.map AidG.a) y kd)) ∧ Below w.heap.size w w' := by
  have hI := mkIndex_c A n c zs x9 x3 x5 kd d y w h hm h9 z9 h3 h5 z5 hd hok hy
  obtain ⟨R, hR⟩ : ∃ R, sideB d (zs.map AidG.a) y kd = R := ⟨_, rfl⟩
  rw [hR] at hI ⊢
  clear hR h3 h5 h9 hok hd
  have HI := Lib.hid hI; clear hI
  go_enter Tryz.func90, Tryz.ntmps90
  go_wp2_with fail
  refine HI.out.mono ?_
  rintro e w1 ⟨⟨r, rfl, hr⟩, hb1⟩
  have Hr := Lib.hid hr; clear hr
  by_cases h0 : 0 ≤ r
  all_goals
    go_wp2_with fail
    go_ret
    exact ⟨ret_eq (bool_eq (by first | (rw [← Hr.out]; done) | (rw [← Hr.out]; simp [h0]))), hb1⟩
theorem isMk_def' (d : Dang) (l : List AidX) (y : Int) : isMkB d l y = (danB d && (aidsB l && (inB y 0 20000 && decide ((sidesL d l y).length = 4)))) := rfl
/-- The first of the sides. -/
noncomputable def sidesN (d : Dang) (l : List AidX) (y : Int) (j : Nat) : List Int := (([3, 4, 5, 6] : List Int).take j).filter (sideB d l y)
theorem sidesN_yes {d : Dang} {l : List AidX} {y : Int} {j : Nat} (hj : j < 4) (h : sideB d l y (3 + (j : Int)) = true) : sidesN d l y (j + 1) = sidesN d l y j ++ [3 + (j : Int)] := by
  match j, hj with
  | 0, _ => simp at h; simp [sidesN, List.filter, h]
  | 1, _ => simp at h; simp [sidesN, List.filter_cons, h]; split <;> simp
  | 2, _ => simp at h; simp [sidesN, List.filter_cons, h]; split <;> split <;> simp
  | 3, _ => simp at h; simp [sidesN, List.filter_cons, h]; split <;> split <;> split <;> simp
theorem sidesN_no {d : Dang} {l : List AidX} {y : Int} {j : Nat} (hj : j < 4) (h : sideB d l y (3 + (j : Int)) = false) : sidesN d l y (j + 1) = sidesN d l y j := by
  match j, hj with
  | 0, _ => simp at h; simp [sidesN, List.filter, h]
  | 1, _ => simp at h; simp [sidesN, List.filter_cons, h]
  | 2, _ => simp at h; simp [sidesN, List.filter_cons, h]
  | 3, _ => simp at h; simp [sidesN, List.filter_cons, h]
theorem sidesN_len (d : Dang) (l : List AidX) (y : Int) (j : Nat) : (sidesN d l y j).length ≤ 4 := Nat.le_trans (List.length_filter_le _ _) (by simp; omega)
theorem sidesN_zero (d : Dang) (l : List AidX) (y : Int) : sidesN d l y 0 = [] := rfl
theorem sidesN_all (d : Dang) (l : List AidX) (y : Int) : sidesN d l y 4 = sidesL d l y := rfl
theorem isAwayM_c (n : Int) (w : World) : Calls Tryz.prog 89 #[.int .i64 n] w fun e w' => e = .returned (.bool (inB n 0 20000)) ∧ w = w' := by
  go_enter Tryz.func89, Tryz.ntmps89
  go_wp2_with (go_at_call 102; refine (within_c _ _ _ _).mono ?_; rintro e w1 ⟨rfl, rfl⟩)
  go_ret
  exact ⟨rfl, rfl⟩
set_option maxRecDepth 100000 in
set_option maxHeartbeats 4000000 in
theorem markedSides_c (d : Dang) (A : Option Addr) (n c : Nat) (zs : List AidG) (y : Int) (w : World) (h : AidSl w A n zs) (hm : n ≤ 1048576) (ht : Tab w) (hn : d.nm.size ≤ maxLen) :
    Calls Tryz.prog 60 #[danV d, .slice A n c, .int .i64 y] w fun e w' => ∃ (A' : Option Addr) (n' c' : Nat) (K : Int), e = .returned (.tuple #[.slice A' n' c', .int .i64 K]) ∧ decide (n' = 4) = isMkB d (zs.map AidG.a) y ∧ Below w.heap.size w w' := by
  rw [isMk_def']
  obtain ⟨p0, hp, hy0, hy1, hy2⟩ := info_parts intInfo
  have hb0 : Below w.heap.size w ((w.alloc (danO d 60)).alloc (.cells #[.int .i64 y] 2)) := by (repeat (first | (with_reducible assumption) | (with_reducible exact Below.refl _ _) | exact Nat.le_refl _ | exact Below.size (by with_reducible assumption) | (with_reducible refine Below.drew ?_) | (with_reducible refine below_drewN ?_ _) | (with_reducible refine Below.alloc ?_ ?_ _) | (with_reducible refine Below.setCell ?_ ?_ _) | (with_reducible refine le_alloc ?_ _) | (with_reducible refine le_set ?_ _ _) | (with_reducible refine le_drew ?_) | (with_reducible refine le_drewN ?_ _) | omega | (dsimp only; omega)))
  have p1 := (DanP.box w d 60).next (w' := (w.alloc (danO d 60)).alloc (.cells #[.int .i64 y] 2)) (by (repeat (first | (with_reducible assumption) | (with_reducible exact Below.refl _ _) | exact Nat.le_refl _ | exact Below.size (by with_reducible assumption) | (with_reducible refine Below.drew ?_) | (with_reducible refine below_drewN ?_ _) | (with_reducible refine Below.alloc ?_ ?_ _) | (with_reducible refine Below.setCell ?_ ?_ _) | (with_reducible refine le_alloc ?_ _) | (with_reducible refine le_set ?_ _ _) | (with_reducible refine le_drew ?_) | (with_reducible refine le_drewN ?_ _) | omega | (dsimp only; omega))))
  have p2 := (cell_of_row _ (w.alloc (danO d 60)).heap.size 0 _ _ _ (heap_alloc_new (w.alloc (danO d 60)) (.cells #[.int .i64 y] 2))).trans (rfl : _ = some (Value.int .i64 y))
  have hsz : (w.alloc (danO d 60)).heap.size = w.heap.size + 1 := by simp
  have z5 : w.heap.size + 1 < ((w.alloc (danO d 60)).alloc (.cells #[.int .i64 y] 2)).heap.size := by simp
  rw [hsz] at p2
  obtain ⟨w0, hw⟩ : ∃ w0, (w.alloc (danO d 60)).alloc (.cells #[.int .i64 y] 2) = w0 := ⟨_, rfl⟩
  rw [hw] at p1 p2 hb0 z5
  clear hsz
  obtain ⟨d0, d1, d2, d3, _⟩ := id p1
  have s0 := h.next hb0
  have t0 := ht.next hb0
  obtain ⟨A1, hA⟩ : ∃ A, danB d = A := ⟨_, rfl⟩
  obtain ⟨B, hB⟩ : ∃ B, aidsB (zs.map AidG.a) = B := ⟨_, rfl⟩
  obtain ⟨C, hC⟩ : ∃ C, inB y 0 20000 = C := ⟨_, rfl⟩
  have h1 : Calls Tryz.prog 88 #[danV d] w0 fun e w' => e = .returned (.bool A1) ∧ Below w0.heap.size w0 w' := hA ▸ validDanger_c d w0 hn
  have h2 : ∀ w1, Below w0.heap.size w0 w1 → Calls Tryz.prog 30 #[.slice A n c] w1 fun e w' => e = .returned (.bool B) ∧ Below w1.heap.size w1 w' := fun w1 hb => hB ▸ implValidAids_c A n c zs w1 (s0.next hb) hm (t0.next hb)
  have h3 : ∀ w1, Calls Tryz.prog 89 #[.int .i64 y] w1 fun e w' => e = .returned (.bool C) ∧ w1 = w' := fun w1 => hC ▸ isAwayM_c _ _
  have h4 : A1 = true → B = true → C = true → ∀ (x : Nat) (kd : Int) w1, Below w0.heap.size w0 w1 → w1.cell? ⟨x, 0, none⟩ = some (.int .i64 kd) → x < w1.heap.size → Calls Tryz.prog 90 #[.slice A n c, clM x w.heap.size (w.heap.size + 1)] w1 fun e w' => e = .returned (.bool (sideB d (zs.map AidG.a) y kd)) ∧ Below w1.heap.size w1 w' := fun ha hb hc x kd w1 hb1 hx hxz =>
    mkHas_c A n c zs x w.heap.size (w.heap.size + 1) kd d y w1 (s0.next hb1) hm hx hxz (p1.next hb1) ((keepC hb1 (w.heap.size + 1) z5 0).trans p2) (Nat.lt_of_lt_of_le z5 hb1.size) (hA.trans ha) (fun z hz => aids_all (hB.trans hb) z.a (List.mem_map_of_mem hz)) (inB_iff.1 (hC.trans hc))
  obtain ⟨N, hN⟩ : ∃ N, sidesN d (zs.map AidG.a) y = N := ⟨_, rfl⟩
  obtain ⟨sd, hsd⟩ : ∃ sd, sideB d (zs.map AidG.a) y = sd := ⟨_, rfl⟩
  have N0 : N 0 = [] := by rw [← hN]; rfl
  have Nl : ∀ j : Nat, (N j).length ≤ 4 := fun j => by rw [← hN]; exact sidesN_len _ _ _ _
  have Ny : ∀ j : Nat, j < 4 → sd (3 + (j : Int)) = true → N (j + 1) = N j ++ [3 + (j : Int)] := fun j hj hs => by rw [← hN]; exact sidesN_yes hj (by rw [hsd]; exact hs)
  have No : ∀ j : Nat, j < 4 → sd (3 + (j : Int)) = false → N (j + 1) = N j := fun j hj hs => by rw [← hN]; exact sidesN_no hj (by rw [hsd]; exact hs)
  have Na : sidesL d (zs.map AidG.a) y = N 4 := by rw [← hN]; exact (sidesN_all _ _ _).symm
  rw [hA, hB, hC, Na]
  rw [hsd] at h4
  clear hA hB hC hN hsd Na h s0 p1 t0 ht
  have H1 := Lib.hid h1; clear h1
  have H2 := Lib.hid h2; clear h2
  have H3 := Lib.hid h3; clear h3
  have H4 := Lib.hid h4; clear h4
  have HN0 := Lib.hid N0; clear N0
  have HNl := Lib.hid Nl; clear Nl
  have HNy := Lib.hid Ny; clear Ny
  have HNo := Lib.hid No; clear No
  cases A1
  · go_enter Tryz.func60, Tryz.ntmps60
    go_wp2_with fail
    try rw [hw]
    clear hw
    refine H1.out.mono ?_
    rintro e w1 ⟨rfl, hb1⟩
    go_wp2_with fail
    go_ret2
    exact ⟨none, 0, 0, 1, rfl, rfl, hb0.trans (hb1.mono hb0.size)⟩
  cases B
  · go_enter Tryz.func60, Tryz.ntmps60
    go_wp2_with fail
    try rw [hw]
    clear hw
    refine H1.out.mono ?_
    rintro e w1 ⟨rfl, hb1⟩
    go_wp2_with fail
    refine (H2.out _ hb1).mono ?_
    rintro e w2 ⟨rfl, hb2⟩
    replace hb2 := hb1.trans (hb2.mono hb1.size)
    have k5 := (keepC hb2 (w.heap.size + 1) z5 0).trans p2
    go_wp2_with fail
    go_ret2
    exact ⟨none, 0, 0, 1, rfl, rfl, hb0.trans (hb2.mono hb0.size)⟩
  cases C
  · go_enter Tryz.func60, Tryz.ntmps60
    go_wp2_with fail
    try rw [hw]
    clear hw
    refine H1.out.mono ?_
    rintro e w1 ⟨rfl, hb1⟩
    go_wp2_with fail
    refine (H2.out _ hb1).mono ?_
    rintro e w2 ⟨rfl, hb2⟩
    replace hb2 := hb1.trans (hb2.mono hb1.size)
    have k5 := (keepC hb2 (w.heap.size + 1) z5 0).trans p2
    go_wp2_with fail
    refine (H3.out _).mono ?_
    rintro e w3 ⟨rfl, rfl⟩
    go_wp2_with fail
    go_ret2
    exact ⟨none, 0, 0, 2, rfl, rfl, hb0.trans (hb2.mono hb0.size)⟩
  have HC := Lib.hid (H4.out rfl rfl rfl)
  clear H4
  go_enter Tryz.func60, Tryz.ntmps60
  go_wp2_with fail
  try rw [hw]
  clear hw
  refine H1.out.mono ?_
  rintro e w1 ⟨rfl, hb1⟩
  go_wp2_with fail
  refine (H2.out _ hb1).mono ?_
  rintro e w2 ⟨rfl, hb2⟩
  replace hb2 := hb1.trans (hb2.mono hb1.size)
  have k5 := (keepC hb2 (w.heap.size + 1) z5 0).trans p2
  go_wp2_with fail
  refine (H3.out _).mono ?_
  rintro e w3 ⟨rfl, rfl⟩
  clear hb1 d0 d1 d2 d3
  have hz2 := hb2.size
  have hov := World.ownsRow_made (base := w0.heap.size) (e := 2) (size := 1) w2 #[] 0 hz2 (by simp [maxLen]) rfl
  go_wp2_with fail
  go_loopg [8, 9] 5 (fun q o p wr => ∃ (j x : Nat), q + j = 5 ∧ j ≤ 4 ∧ p = .pointer (some ⟨x, 0, none⟩) ∧ wr.cell? ⟨x, 0, none⟩ = some (.int .i64 (3 + (j : Int))) ∧ wr.frozen? ⟨x, 0, none⟩ = false ∧ x < wr.heap.size ∧ wr.ownsRow w0.heap.size 2 1 o (N j).length ((N j).flatMap intC) ∧ (∀ k, o.ownBlock = some k → k < x) ∧ Below w0.heap.size w0 wr)
  case atStart =>
    have hA := heap_alloc_new (w2.alloc (.cells #[] 2)) (.cells #[.int .i64 3] 2)
    rw [show (w2.alloc (.cells #[] 2)).heap.size = w2.heap.size + 1 by simp] at hA
    have hbA : Below w2.heap.size w2 ((w2.alloc (.cells #[] 2)).alloc (.cells #[.int .i64 3] 2)) := by (repeat (first | (with_reducible assumption) | (with_reducible exact Below.refl _ _) | exact Nat.le_refl _ | exact Below.size (by with_reducible assumption) | (with_reducible refine Below.drew ?_) | (with_reducible refine below_drewN ?_ _) | (with_reducible refine Below.alloc ?_ ?_ _) | (with_reducible refine Below.setCell ?_ ?_ _) | (with_reducible refine le_alloc ?_ _) | (with_reducible refine le_set ?_ _ _) | (with_reducible refine le_drew ?_) | (with_reducible refine le_drewN ?_ _) | omega | (dsimp only; omega)))
    refine ⟨0, w2.heap.size + 1, rfl, by omega, rfl, (cell_of_row _ (w2.heap.size + 1) 0 _ _ _ hA).trans rfl, frozen_of_row _ _ 0 _ _ hA, by simp, ?_, fun k hk => ?_, hb2.trans (hbA.mono hz2)⟩
    · rw [HN0.out]
      exact hov.alloc _
    · have : w2.heap.size = k := by simpa [Value.ownBlock] using hk
      omega
  case round =>
    clear hov hz2 k5 hb2
    obtain ⟨j, x, hqj, hj4, rfl, hx, fx, hxz, ho, hox, hbw⟩ := hrel
    obtain ⟨A3, c3, rfl⟩ := own_slice ho
    have j0 : (0 : Int) ≤ (j : Int) := by omega
    have hN4 := HNl.out j
    by_cases hj : j < 4
    · have hj1 : (3 + (j : Int)) ≤ 6 := by omega
      have hHas := HC.out x (3 + (j : Int)) wr hbw hx hxz
      have hwz := hbw.size
      cases hs : sd (3 + (j : Int))
      · rw [hs] at hHas
        have hNn := HNo.out j hj hs
        have HHas := Lib.hid hHas; clear hHas
        have Hs := Lib.hid hs; clear hs
        have HNn := Lib.hid hNn; clear hNn
        go_wp2_with fail
        refine HHas.out.mono ?_
        rintro e w3 ⟨rfl, hb3⟩
        have x3 := (keepC hb3 x hxz 0).trans hx
        have o3 := own_next ho hb3
        have hb3w := hbw.trans (hb3.mono hwz)
        have hA := heap_alloc_new w3 (.cells #[.int .i64 (3 + (j : Int) + 1)] 2)
        have hbA : Below w3.heap.size w3 (w3.alloc (.cells #[.int .i64 (3 + (j : Int) + 1)] 2)) := by (repeat (first | (with_reducible assumption) | (with_reducible exact Below.refl _ _) | exact Nat.le_refl _ | exact Below.size (by with_reducible assumption) | (with_reducible refine Below.drew ?_) | (with_reducible refine below_drewN ?_ _) | (with_reducible refine Below.alloc ?_ ?_ _) | (with_reducible refine Below.setCell ?_ ?_ _) | (with_reducible refine le_alloc ?_ _) | (with_reducible refine le_set ?_ _ _) | (with_reducible refine le_drew ?_) | (with_reducible refine le_drewN ?_ _) | omega | (dsimp only; omega)))
        have hAc := (cell_of_row _ w3.heap.size 0 _ _ _ hA).trans (rfl : _ = some (Value.int .i64 (3 + (j : Int) + 1)))
        have hAf := frozen_of_row _ w3.heap.size 0 _ _ hA
        have hAs : w3.heap.size < (w3.alloc (.cells #[.int .i64 (3 + (j : Int) + 1)] 2)).heap.size := by simp
        have hAo := own_next o3 hbA
        have hAb := hb3w.trans (hbA.mono hb3w.size)
        have hlt3 : ∀ k, (Value.slice A3 (N j).length c3).ownBlock = some k → k < w3.heap.size := fun k hk => (o3.lt k hk).2
        have hcast : 3 + (j : Int) + 1 = 3 + ((j + 1 : Nat) : Int) := by omega
        have HAc := Lib.hid hAc; clear hAc
        have HAf := Lib.hid hAf; clear hAf
        have HAs := Lib.hid hAs; clear hAs
        have HAo := Lib.hid hAo; clear hAo
        have HAb := Lib.hid hAb; clear hAb
        have HLt3 := Lib.hid hlt3; clear hlt3
        have HCast := Lib.hid hcast; clear hcast
        clear hx fx ho hA hbA o3
        go_wp2_with fail
        go_roundg (5 - (j + 1))
        case measure => omega
        case rel => exact ⟨j + 1, w3.heap.size, by omega, by omega, rfl, by rw [← HCast.out]; exact HAc.out, HAf.out, HAs.out, by rw [HNn.out]; exact HAo.out, HLt3.out, HAb.out⟩
      · rw [hs] at hHas
        have hNn := HNy.out j hj hs
        have HHas := Lib.hid hHas; clear hHas
        have Hs := Lib.hid hs; clear hs
        have HNn := Lib.hid hNn; clear hNn
        have e63 : (N j).length + 1 ≤ maxLen := by unfold maxLen; omega
        have e32 : ((N j).length + 1) * 8 ≤ 140737488355328 := by omega
        have E63 := Lib.hid e63; clear e63
        have E32 := Lib.hid e32; clear e32
        go_wp2_with fail
        refine HHas.out.mono ?_
        rintro e w3 ⟨rfl, hb3⟩
        have x3 := (keepC hb3 x hxz 0).trans hx
        have o3 := own_next ho hb3
        have hb3w := hbw.trans (hb3.mono hwz)
        have hz3 := hb3w.size
        have hx3z := Nat.lt_of_lt_of_le hxz hb3.size
        clear hx fx ho
        go_wp2_with ((at_builtin; refine wpl_append _ rfl (.tmp 29) (.tmp 31) _ rfl (w0.heap.size) 2 p0 _ 1 8 Tryz.underlying28 hp hy0 hy1 hy2 rfl (by omega) _ ((N j).length) _ rfl ((o3).alloc _) ((w3).heap.size + 1) (some ⟨(w3).heap.size, 0, none⟩) 1 1 (intC ((3 + (j : Int)))) rfl (Sl.new (w3) 2 _ 1 1 rfl) (intC_one _) E63.out E32.out (le_alloc hz3 _) ?_; intro v4 w4 ho4 hg4 hat4); refine Hid.out ?_)
        refine Lib.hid ?_
        have e1 : (w3.alloc (.cells #[.int .i64 (3 + (j : Int))] 2)).cell? ⟨x, 0, none⟩ = some (.int .i64 (3 + (j : Int))) := (keepC ((Below.refl w3.heap.size w3).alloc (Nat.le_refl _) _) x hx3z 0).trans x3
        have x4 : w4.cell? ⟨x, 0, none⟩ = some (.int .i64 (3 + (j : Int))) := (World.cell?_of_block (hg4.block x (by simp; omega) (fun e => by have := hox x e.symm; omega))).trans e1
        have hb4w : Below w0.heap.size w0 w4 := (hb3w.alloc hz3 _).grown hg4 (le_alloc hz3 _) fun g hg => (o3.lt g hg).1
        obtain ⟨A4, c4, rfl⟩ := own_slice ho4
        have hA := heap_alloc_new w4 (.cells #[.int .i64 (3 + (j : Int) + 1)] 2)
        have hbA : Below w4.heap.size w4 (w4.alloc (.cells #[.int .i64 (3 + (j : Int) + 1)] 2)) := by (repeat (first | (with_reducible assumption) | (with_reducible exact Below.refl _ _) | exact Nat.le_refl _ | exact Below.size (by with_reducible assumption) | (with_reducible refine Below.drew ?_) | (with_reducible refine below_drewN ?_ _) | (with_reducible refine Below.alloc ?_ ?_ _) | (with_reducible refine Below.setCell ?_ ?_ _) | (with_reducible refine le_alloc ?_ _) | (with_reducible refine le_set ?_ _ _) | (with_reducible refine le_drew ?_) | (with_reducible refine le_drewN ?_ _) | omega | (dsimp only; omega)))
        have hAc := (cell_of_row _ w4.heap.size 0 _ _ _ hA).trans (rfl : _ = some (Value.int .i64 (3 + (j : Int) + 1)))
        have hAf := frozen_of_row _ w4.heap.size 0 _ _ hA
        have hAs : w4.heap.size < (w4.alloc (.cells #[.int .i64 (3 + (j : Int) + 1)] 2)).heap.size := by simp
        have hAo := own_next ho4 hbA
        have hAb := hb4w.trans (hbA.mono hb4w.size)
        have hlt4 : ∀ k, (Value.slice A4 ((N j).length + 1) c4).ownBlock = some k → k < w4.heap.size := fun k hk => (ho4.lt k hk).2
        have hcast : 3 + (j : Int) + 1 = 3 + ((j + 1 : Nat) : Int) := by omega
        have hnl : (N (j + 1)).length = (N j).length + 1 := by rw [HNn.out, List.length_append]; rfl
        have hnf : (N (j + 1)).flatMap intC = (N j).flatMap intC ++ intC (3 + (j : Int)) := by rw [HNn.out, List.flatMap_append]; simp
        have HAc := Lib.hid hAc; clear hAc
        have HAf := Lib.hid hAf; clear hAf
        have HAs := Lib.hid hAs; clear hAs
        have HAo := Lib.hid hAo; clear hAo
        have HAb := Lib.hid hAb; clear hAb
        have HLt4 := Lib.hid hlt4; clear hlt4
        have HCast := Lib.hid hcast; clear hcast
        have HNl2 := Lib.hid hnl; clear hnl
        have HNf := Lib.hid hnf; clear hnf
        clear hA hbA o3 ho4 hg4 hat4 e1 x3 hb4w
        go_wp2_with fail
        go_roundg (5 - (j + 1))
        case measure => omega
        case rel => exact ⟨j + 1, w4.heap.size, by omega, by omega, rfl, by rw [← HCast.out]; exact HAc.out, HAf.out, HAs.out, by rw [HNl2.out, HNf.out]; exact HAo.out, HLt4.out, HAb.out⟩
    · obtain rfl : j = 4 := by omega
      have hfin : decide ((N 4).length = 4) = (true && (true && (true && decide ((N 4).length = 4)))) := by simp
      have HFin := Lib.hid hfin; clear hfin
      go_wp2_with fail
      go_ret2
      exact ⟨A3, (N 4).length, c3, 0, rfl, HFin.out, hb0.trans (hbw.mono hb0.size)⟩
set_option maxRecDepth 100000 in
set_option maxHeartbeats 2000000 in
theorem implIsMarked_c (d : Dang) (A : Option Addr) (n c : Nat) (zs : List AidG) (y : Int) (w : World) (h : AidSl w A n zs) (hm : n ≤ 1048576) (ht : Tab w) (hn : d.nm.size ≤ maxLen) :
    Calls Tryz.prog 26 #[danV d, .slice A n c, .int .i64 y] w fun e w' => e = .returned (.bool (isMkB d (zs.map AidG.a) y)) ∧ Below w.heap.size w w' := by
  have hb0 : Below w.heap.size w (w.alloc (danO d 60)) := by (repeat (first | (with_reducible assumption) | (with_reducible exact Below.refl _ _) | exact Nat.le_refl _ | exact Below.size (by with_reducible assumption) | (with_reducible refine Below.drew ?_) | (with_reducible refine below_drewN ?_ _) | (with_reducible refine Below.alloc ?_ ?_ _) | (with_reducible refine Below.setCell ?_ ?_ _) | (with_reducible refine le_alloc ?_ _) | (with_reducible refine le_set ?_ _ _) | (with_reducible refine le_drew ?_) | (with_reducible refine le_drewN ?_ _) | omega | (dsimp only; omega)))
  have p1 := DanP.box w d 60
  obtain ⟨w0, hw⟩ : ∃ w0, w.alloc (danO d 60) = w0 := ⟨_, rfl⟩
  rw [hw] at p1 hb0
  have hC := markedSides_c d A n c zs y w0 (h.next hb0) hm (ht.next hb0) hn
  obtain ⟨R, hR⟩ : ∃ R, isMkB d (zs.map AidG.a) y = R := ⟨_, rfl⟩
  rw [hR] at hC ⊢
  obtain ⟨d0, d1, d2, d3, _⟩ := p1
  clear hR h ht
  have HC := Lib.hid hC; clear hC
  go_enter Tryz.func26, Tryz.ntmps26
  go_wp2_with fail
  try rw [hw]
  clear hw
  refine HC.out.mono ?_
  rintro e w1 ⟨A', n', c', K, rfl, hr, hb1⟩
  have e4 : ((n' : Int) == 4) = R := by rw [← hr, Bool.eq_iff_iff]; simp; omega
  have Hr := Lib.hid hr; clear hr
  go_wp2_with fail
  go_ret
  exact ⟨ret_eq (bool_eq (by simp)), hb0.trans (hb1.mono hb0.size)⟩
end Go.Proofs.YtnmkpegdbgebeaaGreatDoor
