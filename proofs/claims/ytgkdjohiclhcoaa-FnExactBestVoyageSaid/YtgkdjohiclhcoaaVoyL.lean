/- The laws' own functions over ships and works. -/
import Derived.Test.YtgkdjohiclhcoaaVoyH
import Derived.Test.YtgkdjohiclhcoaaVoyB
import Derived.Test.YtgkdjohiclhcoaaIntM
import Derived.Test.YtgkdjohiclhcoaaMark
namespace Go.Proofs.Ytgkdjohiclhcoaa
open Go.RowKit
abbrev wkO' (z : Wk) (e : TypeId) : Obj := .cells #[.string z.name, .int .i64 z.x, .int .i64 z.y, .int .i64 z.ld, .int .i64 z.mi, .int .i64 z.fr, .int .i64 z.un] e
theorem wkInfo : (Try.prog.info? 60).map (fun i => (i.zero, i.size, i.bytes)) = some (some (.agg #[.string ByteArray.empty, .int .i64 0, .int .i64 0, .int .i64 0, .int .i64 0, .int .i64 0, .int .i64 0]), 7, 64) := by kernel_rfl
set_option maxHeartbeats 400000 in
theorem szShip_c (s : Sh) (left : Int) (w : World) (hs : s.name.size ≤ maxLen) (h0 : 0 ≤ left) (h1 : left ≤ 1048576) :
    Calls Try.prog 6 #[s.val, .int .i64 left] w fun e w' => ∃ r : Int, e = .returned (.int .i64 r) ∧ (r = -1 ∨ 0 ≤ r ∧ r ≤ left) ∧ Below w.heap.size w w' := by
  unfold maxLen at hs
  go_enter Try.func6, Try.ntmps6
  go_wp2
  · go_ret
    exact ⟨-1, rfl, .inl rfl, (by (repeat (first | (with_reducible assumption) | (with_reducible exact Below.refl _ _) | exact Nat.le_refl _ | exact Below.size (by with_reducible assumption) | (with_reducible refine Below.drew ?_) | (with_reducible refine below_drewN ?_ _) | (with_reducible refine Below.alloc ?_ ?_ _) | (with_reducible refine Below.setCell ?_ ?_ _) | (with_reducible refine le_alloc ?_ _) | (with_reducible refine le_set ?_ _ _) | (with_reducible refine le_drew ?_) | (with_reducible refine le_drewN ?_ _) | omega | (dsimp only; omega))))⟩
  · go_ret
    exact ⟨_, rfl, .inr ⟨by omega, by omega⟩, (by (repeat (first | (with_reducible assumption) | (with_reducible exact Below.refl _ _) | exact Nat.le_refl _ | exact Below.size (by with_reducible assumption) | (with_reducible refine Below.drew ?_) | (with_reducible refine below_drewN ?_ _) | (with_reducible refine Below.alloc ?_ ?_ _) | (with_reducible refine Below.setCell ?_ ?_ _) | (with_reducible refine le_alloc ?_ _) | (with_reducible refine le_set ?_ _ _) | (with_reducible refine le_drew ?_) | (with_reducible refine le_drewN ?_ _) | omega | (dsimp only; omega))))⟩
set_option maxHeartbeats 400000 in
theorem szWork_c (s : Wk) (left : Int) (w : World) (hs : s.name.size ≤ maxLen) (h0 : 0 ≤ left) (h1 : left ≤ 1048576) :
    Calls Try.prog 28 #[s.val, .int .i64 left] w fun e w' => ∃ r : Int, e = .returned (.int .i64 r) ∧ (r = -1 ∨ 0 ≤ r ∧ r ≤ left) ∧ Below w.heap.size w w' := by
  unfold maxLen at hs
  go_enter Try.func28, Try.ntmps28
  go_wp2
  · go_ret
    exact ⟨-1, rfl, .inl rfl, (by (repeat (first | (with_reducible assumption) | (with_reducible exact Below.refl _ _) | exact Nat.le_refl _ | exact Below.size (by with_reducible assumption) | (with_reducible refine Below.drew ?_) | (with_reducible refine below_drewN ?_ _) | (with_reducible refine Below.alloc ?_ ?_ _) | (with_reducible refine Below.setCell ?_ ?_ _) | (with_reducible refine le_alloc ?_ _) | (with_reducible refine le_set ?_ _ _) | (with_reducible refine le_drew ?_) | (with_reducible refine le_drewN ?_ _) | omega | (dsimp only; omega))))⟩
  · go_ret
    exact ⟨_, rfl, .inr ⟨by omega, by omega⟩, (by (repeat (first | (with_reducible assumption) | (with_reducible exact Below.refl _ _) | exact Nat.le_refl _ | exact Below.size (by with_reducible assumption) | (with_reducible refine Below.drew ?_) | (with_reducible refine below_drewN ?_ _) | (with_reducible refine Below.alloc ?_ ?_ _) | (with_reducible refine Below.setCell ?_ ?_ _) | (with_reducible refine le_alloc ?_ _) | (with_reducible refine le_set ?_ _ _) | (with_reducible refine le_drew ?_) | (with_reducible refine le_drewN ?_ _) | omega | (dsimp only; omega))))⟩
set_option maxHeartbeats 400000 in
theorem toShip_c (s : Sh) (w : World) :
    Calls Try.prog 9 #[s.val] w fun e w' => e = .returned s.val ∧ Below w.heap.size w w' := by
  go_enter Try.func9, Try.ntmps9
  go_wp2
  exact bodyPost_ret (v := s.val) (by simp [results, Try.results9, go_sem]) rfl ⟨rfl, by (repeat (first | (with_reducible assumption) | (with_reducible exact Below.refl _ _) | exact Nat.le_refl _ | exact Below.size (by with_reducible assumption) | (with_reducible refine Below.drew ?_) | (with_reducible refine below_drewN ?_ _) | (with_reducible refine Below.alloc ?_ ?_ _) | (with_reducible refine Below.setCell ?_ ?_ _) | (with_reducible refine le_alloc ?_ _) | (with_reducible refine le_set ?_ _ _) | (with_reducible refine le_drew ?_) | (with_reducible refine le_drewN ?_ _) | omega | (dsimp only; omega)))⟩
set_option maxRecDepth 100000 in
set_option maxHeartbeats 2000000 in
theorem toWork_c (s : Wk) (w : World) :
    Calls Try.prog 30 #[s.val] w fun e w' => e = .returned s.val ∧ Below w.heap.size w w' := by
  have g1 := (WkP.box w s 56).next (w' := ((w.alloc (wkO' s 56)).alloc (.cells #[.string ⟨#[]⟩, .int .i64 0, .int .i64 0, .int .i64 0, .int .i64 0, .int .i64 0, .int .i64 0] 60)).alloc (.cells #[.string s.name, .int .i64 0, .int .i64 0, .int .i64 0, .int .i64 0, .int .i64 0, .int .i64 0] 60)) (by (repeat (first | (with_reducible assumption) | (with_reducible exact Below.refl _ _) | exact Nat.le_refl _ | exact Below.size (by with_reducible assumption) | (with_reducible refine Below.drew ?_) | (with_reducible refine below_drewN ?_ _) | (with_reducible refine Below.alloc ?_ ?_ _) | (with_reducible refine Below.setCell ?_ ?_ _) | (with_reducible refine le_alloc ?_ _) | (with_reducible refine le_set ?_ _ _) | (with_reducible refine le_drew ?_) | (with_reducible refine le_drewN ?_ _) | omega | (dsimp only; omega))))
  have hs1 : (w.alloc (wkO' s 56)).heap.size = w.heap.size + 1 := by simp
  have hs2 : ((w.alloc (wkO' s 56)).alloc (.cells #[.string ⟨#[]⟩, .int .i64 0, .int .i64 0, .int .i64 0, .int .i64 0, .int .i64 0, .int .i64 0] 60)).heap.size = w.heap.size + 1 + 1 := by simp
  have o2 := own_next (lit_own (w.alloc (wkO' s 56)) w.heap.size 60 #[.string ⟨#[]⟩, .int .i64 0, .int .i64 0, .int .i64 0, .int .i64 0, .int .i64 0, .int .i64 0] 1 7 (by simp) (by decide) rfl) ((Below.refl _ _).alloc (Nat.le_refl _) (.cells #[.string s.name, .int .i64 0, .int .i64 0, .int .i64 0, .int .i64 0, .int .i64 0, .int .i64 0] 60))
  have o3 := lit_own ((w.alloc (wkO' s 56)).alloc (.cells #[.string ⟨#[]⟩, .int .i64 0, .int .i64 0, .int .i64 0, .int .i64 0, .int .i64 0, .int .i64 0] 60)) w.heap.size 60 #[.string s.name, .int .i64 0, .int .i64 0, .int .i64 0, .int .i64 0, .int .i64 0, .int .i64 0] 1 7 (by simp; omega) (by decide) rfl
  rw [hs1] at o2
  rw [hs2] at o3
  obtain ⟨w0, hw⟩ : ∃ w0, ((w.alloc (wkO' s 56)).alloc (.cells #[.string ⟨#[]⟩, .int .i64 0, .int .i64 0, .int .i64 0, .int .i64 0, .int .i64 0, .int .i64 0] 60)).alloc (.cells #[.string s.name, .int .i64 0, .int .i64 0, .int .i64 0, .int .i64 0, .int .i64 0, .int .i64 0] 60) = w0 := ⟨_, rfl⟩
  have hb0 : Below w.heap.size w w0 := by rw [← hw]; (repeat (first | (with_reducible assumption) | (with_reducible exact Below.refl _ _) | exact Nat.le_refl _ | exact Below.size (by with_reducible assumption) | (with_reducible refine Below.drew ?_) | (with_reducible refine below_drewN ?_ _) | (with_reducible refine Below.alloc ?_ ?_ _) | (with_reducible refine Below.setCell ?_ ?_ _) | (with_reducible refine le_alloc ?_ _) | (with_reducible refine le_set ?_ _ _) | (with_reducible refine le_drew ?_) | (with_reducible refine le_drewN ?_ _) | omega | (dsimp only; omega)))
  rw [hw] at g1 o2 o3
  clear hs1 hs2
  obtain ⟨c0, c1, c2, c3, c4, c5, c6, hg⟩ := g1
  simp only [Nat.zero_add] at c1 c2 c3 c4 c5 c6
  go_enter Try.func30, Try.ntmps30
  go_wp2_with fail
  try rw [hw]
  clear hw
  refine (toPoint_c _ _ _).mono ?_
  rintro e w1 ⟨rfl, hb1⟩
  have c0 := (keepC hb1 w.heap.size hg 0).trans c0
  have c1 := (keepC hb1 w.heap.size hg 1).trans c1
  have c2 := (keepC hb1 w.heap.size hg 2).trans c2
  have c3 := (keepC hb1 w.heap.size hg 3).trans c3
  have c4 := (keepC hb1 w.heap.size hg 4).trans c4
  have c5 := (keepC hb1 w.heap.size hg 5).trans c5
  have c6 := (keepC hb1 w.heap.size hg 6).trans c6
  have o2 := own_next o2 hb1
  have o3 := own_next o3 hb1
  have p0 := o2.cellAt 0 (by omega)
  have p1 := o2.cellAt 1 (by omega)
  have p2 := o2.cellAt 2 (by omega)
  have p3 := o2.cellAt 3 (by omega)
  have p4 := o2.cellAt 4 (by omega)
  have p5 := o2.cellAt 5 (by omega)
  have p6 := o2.cellAt 6 (by omega)
  have pf := o2.frozenAt
  have q0 := o3.cellAt 0 (by omega)
  have q1 := o3.cellAt 1 (by omega)
  have q2 := o3.cellAt 2 (by omega)
  have q3 := o3.cellAt 3 (by omega)
  have q4 := o3.cellAt 4 (by omega)
  have q5 := o3.cellAt 5 (by omega)
  have q6 := o3.cellAt 6 (by omega)
  have qf := o3.frozenAt
  simp only [List.getElem?_cons_zero, List.getElem?_cons_succ] at p0 p1 p2 p3 p4 p5 p6 q0 q1 q2 q3 q4 q5 q6
  have hbE := hb0.trans (hb1.mono hb0.size)
  have l1 : w.heap.size ≤ w.heap.size + 1 := by omega
  have l2 : w.heap.size ≤ w.heap.size + 1 + 1 := by omega
  clear o2 o3
  go_wp2_with fail
  exact bodyPost_ret (v := s.val) (by simp [results, Try.results30, go_sem, p0, p1, p2, p3, p4, p5, p6]) rfl ⟨rfl, by (repeat (first | (with_reducible assumption) | (with_reducible exact Below.refl _ _) | exact Nat.le_refl _ | exact Below.size (by with_reducible assumption) | (with_reducible refine Below.drew ?_) | (with_reducible refine below_drewN ?_ _) | (with_reducible refine Below.alloc ?_ ?_ _) | (with_reducible refine Below.setCell ?_ ?_ _) | (with_reducible refine le_alloc ?_ _) | (with_reducible refine le_set ?_ _ _) | (with_reducible refine le_drew ?_) | (with_reducible refine le_drewN ?_ _) | omega | (dsimp only; omega)))⟩
set_option maxHeartbeats 400000 in
theorem eqWork_c (s : Wk) (w : World) :
    Calls Try.prog 34 #[s.val, s.val] w fun e w' => e = .returned (.bool true) ∧ Below w.heap.size w w' := by
  have ne : ∀ u : ByteArray, (u.toList != u.toList) = false := fun u => by simp
  go_enter Try.func34, Try.ntmps34
  go_wp2
  go_ret
  exact ⟨rfl, by (repeat (first | (with_reducible assumption) | (with_reducible exact Below.refl _ _) | exact Nat.le_refl _ | exact Below.size (by with_reducible assumption) | (with_reducible refine Below.drew ?_) | (with_reducible refine below_drewN ?_ _) | (with_reducible refine Below.alloc ?_ ?_ _) | (with_reducible refine Below.setCell ?_ ?_ _) | (with_reducible refine le_alloc ?_ _) | (with_reducible refine le_set ?_ _ _) | (with_reducible refine le_drew ?_) | (with_reducible refine le_drewN ?_ _) | omega | (dsimp only; omega)))⟩
set_option maxRecDepth 100000 in
set_option maxHeartbeats 400000 in
theorem szWorkS_c (A : Option Addr) (n c : Nat) (zs : List Wk) (left : Int) (w : World) (h : Sl w w.heap.size 7 A n (zs.flatMap Wk.cells)) (hm : n ≤ maxLen)
    (hs : ∀ z ∈ zs, z.name.size ≤ maxLen) (h0 : 0 ≤ left) (h1 : left ≤ 1048576) :
    Calls Try.prog 7 #[.slice A n c, .int .i64 left] w fun e w' => ∃ r : Int, e = .returned (.int .i64 r) ∧ (r = -1 ∨ 0 ≤ r ∧ r ≤ left ∧ n ≤ left) ∧ Below w.heap.size w w' := by
  unfold maxLen at hm
  have H := Lib.hid h; clear h
  go_enter Try.func7, Try.ntmps7
  go_wp2
  · go_ret
    exact ⟨-1, rfl, .inl rfl, by (repeat (first | (with_reducible assumption) | (with_reducible exact Below.refl _ _) | exact Nat.le_refl _ | exact Below.size (by with_reducible assumption) | (with_reducible refine Below.drew ?_) | (with_reducible refine below_drewN ?_ _) | (with_reducible refine Below.alloc ?_ ?_ _) | (with_reducible refine Below.setCell ?_ ?_ _) | (with_reducible refine le_alloc ?_ _) | (with_reducible refine le_set ?_ _ _) | (with_reducible refine le_drew ?_) | (with_reducible refine le_drewN ?_ _) | omega | (dsimp only; omega)))⟩
  · go_loopw [1, 5] (fun l i wr => ∃ (k : Nat) (r : Int), k ≤ n ∧ i = .int .i64 k ∧ l = .int .i64 r ∧ 0 ≤ r ∧ r ≤ left - n ∧ Below w.heap.size w wr) (fun _ i _ => n - (intOf i).toNat)
    case atStart => exact ⟨0, _, Nat.zero_le _, rfl, rfl, by omega, by omega, Below.refl _ _⟩
    case round =>
      obtain ⟨k, r, hk, rfl, rfl, hr0, hr1, hbw⟩ := hrel
      by_cases hlt : k < n
      · obtain ⟨b, off, z, rfl, hb, hd, hp⟩ := H.out.wk (Nat.le_refl _) k hlt
        have hds := hs z (List.mem_of_getElem? hd)
        obtain ⟨c0, c1, c2, c3, c4, c5, c6, _⟩ := hp.next hbw
        have j1 : (0 : Int) ≤ (k : Int) := by omega
        have j2 : (k : Int) < (n : Int) := by omega
        clear hp
        have Hd := Lib.hid hd; clear hd
        go_wp2_with (go_at_call 28; refine (szWork_c z r _ hds hr0 (by omega)).mono ?_; rintro e w1 ⟨q, rfl, hq, hb1⟩)
        · go_ret
          exact ⟨-1, rfl, .inl rfl, hbw.trans (hb1.mono hbw.size)⟩
        · have hq' : 0 ≤ q ∧ q ≤ r := by omega
          go_roundw
          case rel => exact ⟨k + 1, q, by omega, by go_num, rfl, hq'.1, by omega, hbw.trans (hb1.mono hbw.size)⟩
          case measure => simp [intOf]; omega
      · go_wp2
        go_ret
        exact ⟨r, rfl, .inr ⟨by omega, by omega, by omega⟩, hbw⟩
set_option maxHeartbeats 1000000 in
set_option maxRecDepth 100000 in
theorem toWorkS_c (A : Option Addr) (n c : Nat) (zs : List Wk) (w : World) (h : Sl w w.heap.size 7 A n (zs.flatMap Wk.cells)) (hm : n ≤ 1048576) :
    Calls Try.prog 11 #[.slice A n c] w fun e w' => ∃ v, e = .returned v ∧ w'.ownsRow w.heap.size 60 7 v n (zs.flatMap Wk.cells) ∧ Below w.heap.size w w' := by
  obtain ⟨i0, hi, hz0, hz1, hz2⟩ := info_parts wkInfo
  have hln := h.len Wk.cells 7 Wk.cells_len (by omega)
  have hB : i0.bytes * n ≤ 281474976710656 := by rw [hz2]; omega
  have hM : n ≤ maxLen := by unfold maxLen; omega
  have Hln := Lib.hid hln; clear hln
  have HB := Lib.hid hB; clear hB
  have HM := Lib.hid hM; clear hM
  have H := Lib.hid h; clear h
  go_enter Try.func11, Try.ntmps11
  go_wp2_with (at_make; refine wpList_make_full _ rfl _ _ _ rfl w.heap.size 60 i0 _ 7 Try.underlying36 hi hz0 hz1 _ _ _ _ n rfl rfl rfl rfl HB.out HM.out (Nat.le_refl _) ?_; intro w1 hown hgr)
  have hb0 : Below w.heap.size w w1 := (Below.refl _ _).grown hgr (Nat.le_refl _) (by simp)
  clear hgr
  go_loopw [4] (fun i wr => ∃ (k : Nat) (ys : List Value), k ≤ n ∧ i = .int .i64 k ∧ wr.ownsRow w.heap.size 60 7 (.slice (some ⟨w.heap.size, 0, none⟩) n n) n ys ∧ ys.take (k * 7) = (zs.take k).flatMap Wk.cells ∧ Below w.heap.size w wr) (fun i _ => n - (intOf i).toNat)
  case atStart => exact ⟨0, _, Nat.zero_le _, rfl, hown, by simp, hb0⟩
  case round =>
    clear hown hb0
    obtain ⟨k, ys, hk, rfl, hown, hys, hbw⟩ := hrel
    by_cases hlt : k < n
    · obtain ⟨b, off, z, rfl, hb, hd, hp⟩ := H.out.wk (Nat.le_refl _) k hlt
      have hyl := hown.1
      obtain ⟨c0, c1, c2, c3, c4, c5, c6, _⟩ := hp.next hbw
      have z0 : w.heap.size < wr.heap.size := (hown.lt _ rfl).2
      have j1 : (0 : Int) ≤ (k : Int) := by omega
      have j2 : (k : Int) < (n : Int) := by omega
      clear hp
      have Hd := Lib.hid hd; clear hd
      have Hys := Lib.hid hys; clear hys
      have Hyl := Lib.hid hyl; clear hyl
      go_wp2_with fail
      refine (toWork_c z _).mono ?_
      rintro e w2 ⟨rfl, hb1⟩
      have ho2 := own_next hown hb1
      obtain ⟨y0, f0⟩ := own_cell ho2 (k * 7) (by omega)
      obtain ⟨y1, f1⟩ := own_cell ho2 (k * 7 + 1) (by omega)
      obtain ⟨y2, f2⟩ := own_cell ho2 (k * 7 + 2) (by omega)
      obtain ⟨y3, f3⟩ := own_cell ho2 (k * 7 + 3) (by omega)
      obtain ⟨y4, f4⟩ := own_cell ho2 (k * 7 + 4) (by omega)
      obtain ⟨y5, f5⟩ := own_cell ho2 (k * 7 + 5) (by omega)
      obtain ⟨y6, f6⟩ := own_cell ho2 (k * 7 + 6) (by omega)
      have fz := ho2.frozenAt
      clear c0 c1 c2 c3 c4 c5 c6
      go_wp2_with fail
      go_roundw
      case rel =>
        have s0 := ho2.stored (k * 7) (.string z.name)
        have s1 := s0.1.stored (k * 7 + 1) (.int .i64 z.x)
        have s2 := s1.1.stored (k * 7 + 2) (.int .i64 z.y)
        have s3 := s2.1.stored (k * 7 + 3) (.int .i64 z.ld)
        have s4 := s3.1.stored (k * 7 + 4) (.int .i64 z.mi)
        have s5 := s4.1.stored (k * 7 + 5) (.int .i64 z.fr)
        have s6 := s5.1.stored (k * 7 + 6) (.int .i64 z.un)
        refine ⟨k + 1, setAll ys (k * 7) (Wk.cells z), by omega, by go_num, s6.1, ?_, ?_⟩
        · rw [setAll_take Hyl.out hlt (Wk.cells_len _), Hys.out, List.take_add_one, Hd.out]
          simp
        · exact ((((((((hbw.trans (hb1.mono hbw.size)).setCell (Nat.le_refl _) _).setCell (Nat.le_refl _) _).setCell (Nat.le_refl _) _).setCell (Nat.le_refl _) _).setCell (Nat.le_refl _) _).setCell (Nat.le_refl _) _).setCell (Nat.le_refl _) _)
      case measure => simp [intOf]; omega
    · go_wp2
      go_ret
      obtain rfl : k = n := by omega
      have hyl := hown.1
      rw [List.take_of_length_le (by omega), List.take_of_length_le (by rw [Hln.out]; omega)] at hys
      subst hys
      exact ⟨_, rfl, hown, hbw⟩
set_option maxRecDepth 100000 in
set_option maxHeartbeats 1000000 in
theorem eqWorkS_c (A A' : Option Addr) (n c c' : Nat) (zs : List Wk) (w : World) (h : Sl w w.heap.size 7 A n (zs.flatMap Wk.cells)) (h' : Sl w w.heap.size 7 A' n (zs.flatMap Wk.cells)) (hm : n ≤ maxLen) :
    Calls Try.prog 14 #[.slice A n c, .slice A' n c'] w fun e w' => e = .returned (.bool true) ∧ Below w.heap.size w w' := by
  unfold maxLen at hm
  have H := Lib.hid h; clear h
  have H' := Lib.hid h'; clear h'
  go_enter Try.func14, Try.ntmps14
  go_wp2
  go_loopw [5] (fun i wr => ∃ k : Nat, k ≤ n ∧ i = .int .i64 k ∧ Below w.heap.size w wr) (fun i _ => n - (intOf i).toNat)
  case atStart => exact ⟨0, Nat.zero_le _, rfl, Below.refl _ _⟩
  case round =>
    obtain ⟨k, hk, rfl, hbw⟩ := hrel
    by_cases hlt : k < n
    · obtain ⟨b, off, d, rfl, hb, hd, hp⟩ := H.out.wk (Nat.le_refl _) k hlt
      obtain ⟨b', off', d', rfl, hb', hd', hp'⟩ := H'.out.wk (Nat.le_refl _) k hlt
      obtain rfl : d = d' := by rw [hd] at hd'; exact Option.some.inj hd'
      clear hd'
      have Hd := Lib.hid hd; clear hd
      have j1 : (0 : Int) ≤ (k : Int) := by omega
      have j2 : (k : Int) < (n : Int) := by omega
      obtain ⟨c0, c1, c2, c3, c4, c5, c6, _⟩ := hp
      obtain ⟨d0, d1, d2, d3, d4, d5, d6, _⟩ := hp'
      have e1 := see2 hbw hb hb'
      go_wp2
      go_region_held3 (fun w' => Below w.heap.size w w' ∧ (∀ x, w'.cell? ⟨b, x, none⟩ = w.cell? ⟨b, x, none⟩) ∧ (∀ x, w'.cell? ⟨b', x, none⟩ = w.cell? ⟨b', x, none⟩)) (first | exact see2 hbw.drew hb hb' | exact see2 (hbw.drew.trans (hb1.mono hbw.size)) hb hb') (first | (go_at_call 34; refine (eqWork_c d _).mono ?_; rintro e w' ⟨rfl, hb1⟩))
      have hb2 : Below w.heap.size w w' := hbw.drew.trans (hb1.mono hbw.size)
      go_wp2
      go_roundw
      case rel => exact ⟨k + 1, by omega, by go_num, hb2⟩
      case measure => simp [intOf]; omega
    · go_wp2
      go_ret
      exact ⟨rfl, hbw⟩
set_option maxRecDepth 100000 in
set_option maxHeartbeats 4000000 in
theorem markWorkS_c (A : Option Addr) (n c k0 base : Nat) (ys0 : List Value) (w : World) (hown0 : w.ownsRow base 60 7 (.slice A n c) n ys0) (hm : n ≤ 1048576) (hk0 : 0 < k0) (hk1 : k0 ≤ 10000000) :
    Calls Try.prog 15 #[.slice A n c, .int .i64 k0] w fun e w' => e = .returned (.int .i64 (k0 + 7 * n : Nat)) ∧ w.grownBy w' (Value.slice A n c).ownBlock := by
  go_enter Try.func15, Try.ntmps15
  go_wp2
  go_loopw [1, 5] (fun q i wr => ∃ (k : Nat) (ys : List Value), k ≤ n ∧ i = .int .i64 k ∧ q = .int .i64 (k0 + 7 * k : Nat) ∧ wr.ownsRow base 60 7 (.slice A n c) n ys ∧ w.grownBy wr (Value.slice A n c).ownBlock) (fun _ i _ => n - (intOf i).toNat)
  case atStart => exact ⟨0, _, Nat.zero_le _, rfl, rfl, hown0, grown_refl _ _⟩
  case round =>
    obtain ⟨k, ys, hk, rfl, rfl, hown, hgw⟩ := hrel
    by_cases hlt : k < n
    · obtain ⟨g, rfl, hg1, hg2⟩ := own_form hown (by omega)
      have j1 : (0 : Int) ≤ (k : Int) := by omega
      have j2 : (k : Int) < (n : Int) := by omega
      go_wp2_with fail
      refine (markText_c (k0 + 7 * k) _ (by omega) (by omega)).mono ?_
      rintro e w2 ⟨rfl, hb1⟩
      have ho2 := own_next hown hb1
      obtain ⟨y0, f0⟩ := own_cell ho2 (k * 7) (by omega)
      obtain ⟨y1, f1⟩ := own_cell ho2 (k * 7 + 1) (by omega)
      obtain ⟨y2, f2⟩ := own_cell ho2 (k * 7 + 2) (by omega)
      obtain ⟨y3, f3⟩ := own_cell ho2 (k * 7 + 3) (by omega)
      obtain ⟨y4, f4⟩ := own_cell ho2 (k * 7 + 4) (by omega)
      obtain ⟨y5, f5⟩ := own_cell ho2 (k * 7 + 5) (by omega)
      obtain ⟨y6, f6⟩ := own_cell ho2 (k * 7 + 6) (by omega)
      have fz := ho2.frozenAt
      go_wp2_with fail
      go_roundw
      case rel =>
        have s0 := ho2.stored (k * 7) (.string (markT (k0 + 7 * k)))
        have s1 := s0.1.stored (k * 7 + 1) (.int .i64 (k0 + 7 * k + 1 : Nat))
        have s2 := s1.1.stored (k * 7 + 2) (.int .i64 (k0 + 7 * k + 2 : Nat))
        have s3 := s2.1.stored (k * 7 + 3) (.int .i64 (k0 + 7 * k + 3 : Nat))
        have s4 := s3.1.stored (k * 7 + 4) (.int .i64 (k0 + 7 * k + 4 : Nat))
        have s5 := s4.1.stored (k * 7 + 5) (.int .i64 (k0 + 7 * k + 5 : Nat))
        have s6 := s5.1.stored (k * 7 + 6) (.int .i64 (k0 + 7 * k + 6 : Nat))
        exact ⟨k + 1, _, by omega, by go_num, by go_num, s6.1, grown_trans (grown_trans (grown_trans (grown_trans (grown_trans (grown_trans (grown_trans (grown_trans hgw (grown_of_below hb1)) s0.2) s1.2) s2.2) s3.2) s4.2) s5.2) s6.2⟩
      case measure => simp [intOf]; omega
    · go_wp2
      go_ret
      obtain rfl : k = n := by omega
      exact ⟨rfl, hgw⟩
end Go.Proofs.Ytgkdjohiclhcoaa
