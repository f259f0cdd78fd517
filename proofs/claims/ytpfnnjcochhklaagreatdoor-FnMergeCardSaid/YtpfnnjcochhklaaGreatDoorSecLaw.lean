
/- The laws' own functions over []Sector. -/
import Derived.Test.YtpfnnjcochhklaaGreatDoorAiG
import Derived.Test.YtpfnnjcochhklaaGreatDoorChEq
namespace Go.Proofs.YtpfnnjcochhklaaGreatDoor
open Go.RowKit
abbrev Sec.val (s : Sec) : Value := .agg #[.int .i64 s.f, .int .i64 s.t, .string s.c]
theorem secInfo : (Tryz.prog.info? 94).map (fun i => (i.zero, i.size, i.bytes)) = some (some (.agg #[.int .i64 0, .int .i64 0, .string ByteArray.empty]), 3, 32) := by kernel_rfl
theorem Sl.sec {w : World} {B n : Nat} {A : Option Addr} {xs : List Sec} (h : Sl w B 3 A n (xs.flatMap Sec.cells)) (k : Nat) (hk : k < n) :
    ∃ b off x, A = some ⟨b, off, none⟩ ∧ b < B ∧ xs[k]? = some x ∧ w.cell? ⟨b, off + k * 3, none⟩ = some (.int .i64 x.f) ∧ w.cell? ⟨b, off + k * 3 + 1, none⟩ = some (.int .i64 x.t) ∧ w.cell? ⟨b, off + k * 3 + 2, none⟩ = some (.string x.c) := by
  obtain ⟨b, off, s, hA, hb, hx, hc⟩ := h.get Sec.cells 3 Sec.cells_len (by omega) k hk
  exact ⟨b, off, s, hA, hb, hx, hc 0 _ rfl, hc 1 _ rfl, hc 2 _ rfl⟩
set_option maxHeartbeats 400000 in
theorem szSector_c (p : Sec) (left : Int) (w : World) (hs : p.c.size ≤ maxLen) (h0 : 0 ≤ left) (h1 : left ≤ 1048576) :
    Calls Tryz.prog 90 #[p.val, .int .i64 left] w fun e w' => ∃ r : Int, e = .returned (.int .i64 r) ∧ (r = -1 ∨ 0 ≤ r ∧ r + p.c.size ≤ left) ∧ Below w.heap.size w w' := by
  unfold maxLen at hs
  go_enter Tryz.func90, Tryz.ntmps90
  go_wp2
  · go_ret
    exact ⟨-1, rfl, .inl rfl, (by (repeat (first | (with_reducible assumption) | (with_reducible exact Below.refl _ _) | exact Nat.le_refl _ | exact Below.size (by with_reducible assumption) | (with_reducible refine Below.drew ?_) | (with_reducible refine below_drewN ?_ _) | (with_reducible refine Below.alloc ?_ ?_ _) | (with_reducible refine Below.setCell ?_ ?_ _) | (with_reducible refine le_alloc ?_ _) | (with_reducible refine le_set ?_ _ _) | (with_reducible refine le_drew ?_) | (with_reducible refine le_drewN ?_ _) | omega | (dsimp only; omega))))⟩
  · go_ret
    exact ⟨_, rfl, .inr ⟨by omega, by omega⟩, (by (repeat (first | (with_reducible assumption) | (with_reducible exact Below.refl _ _) | exact Nat.le_refl _ | exact Below.size (by with_reducible assumption) | (with_reducible refine Below.drew ?_) | (with_reducible refine below_drewN ?_ _) | (with_reducible refine Below.alloc ?_ ?_ _) | (with_reducible refine Below.setCell ?_ ?_ _) | (with_reducible refine le_alloc ?_ _) | (with_reducible refine le_set ?_ _ _) | (with_reducible refine le_drew ?_) | (with_reducible refine le_drewN ?_ _) | omega | (dsimp only; omega))))⟩
set_option maxHeartbeats 400000 in
theorem szSectorS_c (A : Option Addr) (n c : Nat) (xs : List Sec) (left : Int) (w : World) (h : Sl w w.heap.size 3 A n (xs.flatMap Sec.cells)) (hm : n ≤ maxLen)
    (hs : ∀ d ∈ xs, d.c.size ≤ maxLen) (h0 : 0 ≤ left) (h1 : left ≤ 1048576) :
    Calls Tryz.prog 55 #[.slice A n c, .int .i64 left] w fun e w' => ∃ r : Int, e = .returned (.int .i64 r) ∧ (r = -1 ∨ 0 ≤ r ∧ r + n ≤ left ∧ ∀ d ∈ xs, d.c.size ≤ 1048576) ∧ Below w.heap.size w w' := by
  have hl := h.len Sec.cells 3 Sec.cells_len (by omega)
  unfold maxLen at hm
  have Hl := Lib.hid hl; clear hl
  have Hs := Lib.hid hs; clear hs
  go_enter Tryz.func55, Tryz.ntmps55
  go_wp2
  · go_ret
    exact ⟨-1, rfl, .inl rfl, by (repeat (first | (with_reducible assumption) | (with_reducible exact Below.refl _ _) | exact Nat.le_refl _ | exact Below.size (by with_reducible assumption) | (with_reducible refine Below.drew ?_) | (with_reducible refine below_drewN ?_ _) | (with_reducible refine Below.alloc ?_ ?_ _) | (with_reducible refine Below.setCell ?_ ?_ _) | (with_reducible refine le_alloc ?_ _) | (with_reducible refine le_set ?_ _ _) | (with_reducible refine le_drew ?_) | (with_reducible refine le_drewN ?_ _) | omega | (dsimp only; omega)))⟩
  · go_loopw [1, 5] (fun l i wr => ∃ (k : Nat) (r : Int), k ≤ n ∧ i = .int .i64 k ∧ l = .int .i64 r ∧ 0 ≤ r ∧ r ≤ left - n ∧ (∀ d ∈ xs.take k, d.c.size ≤ 1048576) ∧ Below w.heap.size w wr) (fun _ i _ => n - (intOf i).toNat)
    case atStart => exact ⟨0, _, Nat.zero_le _, rfl, rfl, by omega, by omega, by simp, Below.refl _ _⟩
    case round =>
      obtain ⟨k, r, hk, rfl, rfl, hr0, hr1, hok, hbw⟩ := hrel
      have Hok := Lib.hid hok; clear hok
      by_cases hlt : k < n
      · obtain ⟨b, off, d, rfl, hb, hd, c1, c2, c3⟩ := h.sec k hlt
        have hds := Hs.out d (List.mem_of_getElem? hd)
        have r1 := keepC hbw b hb
        have Hd := Lib.hid hd; clear hd
        go_wp2_with (go_at_call 90; refine (szSector_c d r _ hds hr0 (by omega)).mono ?_; rintro e w2 ⟨q, rfl, hq, hb1⟩)
        · go_ret
          exact ⟨-1, rfl, .inl rfl, hbw.trans (hb1.mono hbw.size)⟩
        · have hq2 : 0 ≤ q ∧ q + d.c.size ≤ r := by omega
          go_roundw
          case rel =>
            refine ⟨k + 1, q, by omega, by go_num, rfl, by omega, by omega, ?_, hbw.trans (hb1.mono hbw.size)⟩
            intro z' hz'
            rcases (mem_take_next Hd.out z').1 hz' with h2 | h2
            · exact Hok.out z' h2
            · subst h2; omega
          case measure => simp [intOf]; omega
      · go_wp2
        go_ret
        have hok := Hok.out
        rw [List.take_of_length_le (by rw [Hl.out]; omega)] at hok
        exact ⟨r, rfl, .inr ⟨by omega, by omega, hok⟩, hbw⟩
set_option maxHeartbeats 400000 in
theorem toSector_c (p : Sec) (w : World) : Calls Tryz.prog 93 #[p.val] w fun e w' => e = .returned p.val ∧ Below w.heap.size w w' := by
  go_enter Tryz.func93, Tryz.ntmps93
  go_wp2
  exact bodyPost_ret (v := p.val) (by simp [results, Tryz.results93, go_sem]) rfl ⟨rfl, by (repeat (first | (with_reducible assumption) | (with_reducible exact Below.refl _ _) | exact Nat.le_refl _ | exact Below.size (by with_reducible assumption) | (with_reducible refine Below.drew ?_) | (with_reducible refine below_drewN ?_ _) | (with_reducible refine Below.alloc ?_ ?_ _) | (with_reducible refine Below.setCell ?_ ?_ _) | (with_reducible refine le_alloc ?_ _) | (with_reducible refine le_set ?_ _ _) | (with_reducible refine le_drew ?_) | (with_reducible refine le_drewN ?_ _) | omega | (dsimp only; omega)))⟩
set_option maxHeartbeats 400000 in
set_option maxRecDepth 10000 in
theorem toSectorS_c (A : Option Addr) (n c : Nat) (xs : List Sec) (w : World) (h : Sl w w.heap.size 3 A n (xs.flatMap Sec.cells)) (hm : n ≤ 1048576) :
    Calls Tryz.prog 61 #[.slice A n c] w fun e w' => ∃ v, e = .returned v ∧ w'.ownsRow w.heap.size 94 3 v n (xs.flatMap Sec.cells) ∧ Below w.heap.size w w' := by
  obtain ⟨i0, hi, hz0, hz1, hz2⟩ := info_parts secInfo
  have hln := h.len Sec.cells 3 Sec.cells_len (by omega)
  have hB : i0.bytes * n ≤ 281474976710656 := by rw [hz2]; omega
  have hM : n ≤ maxLen := by unfold maxLen; omega
  have Hln := Lib.hid hln; clear hln
  have HB := Lib.hid hB; clear hB
  have HM := Lib.hid hM; clear hM
  go_enter Tryz.func61, Tryz.ntmps61
  go_wp2_with (at_make; refine wpList_make_full _ rfl _ _ _ rfl w.heap.size 94 i0 _ 3 Tryz.underlying54 hi hz0 hz1 _ _ _ _ n rfl rfl rfl rfl HB.out HM.out (Nat.le_refl _) ?_; intro w1 hown hgr)
  have hb0 : Below w.heap.size w w1 := (Below.refl _ _).grown hgr (Nat.le_refl _) (by simp)
  clear hgr
  go_loopw [4] (fun i wr => ∃ (k : Nat) (ys : List Value), k ≤ n ∧ i = .int .i64 k ∧ wr.ownsRow w.heap.size 94 3 (.slice (some ⟨w.heap.size, 0, none⟩) n n) n ys ∧ ys.take (k * 3) = (xs.take k).flatMap Sec.cells ∧ Below w.heap.size w wr) (fun i _ => n - (intOf i).toNat)
  case atStart => exact ⟨0, _, Nat.zero_le _, rfl, hown, by simp, hb0⟩
  case round =>
    clear hown hb0
    obtain ⟨k, ys, hk, rfl, hown, hys, hbw⟩ := hrel
    by_cases hlt : k < n
    · obtain ⟨b, off, d, rfl, hb, hd, c1, c2, c3⟩ := h.sec k hlt
      have hyl := hown.1
      have q1 := keepC hbw b hb
      have z0 : w.heap.size < wr.heap.size := (hown.lt _ rfl).2
      have Hd := Lib.hid hd; clear hd
      have Hys := Lib.hid hys; clear hys
      have Hyl := Lib.hid hyl; clear hyl
      go_wp2_with (go_at_call 93; refine (toSector_c d _).mono ?_; rintro e w2 ⟨rfl, hb1⟩; have ho2 := own_next hown hb1; obtain ⟨y0, f0⟩ := own_cell ho2 (k * 3) (by omega); obtain ⟨y1, f1⟩ := own_cell ho2 (k * 3 + 1) (by omega); obtain ⟨y2, f2⟩ := own_cell ho2 (k * 3 + 2) (by omega); have f3 := ho2.frozenAt)
      go_roundw
      case rel =>
        refine ⟨k + 1, setAll ys (k * 3) (Sec.cells d), by omega, by go_num, (((ho2.stored _ _).1.stored _ _).1.stored _ _).1, ?_, (((hbw.trans (hb1.mono hbw.size)).setCell (Nat.le_refl _) _).setCell (Nat.le_refl _) _).setCell (Nat.le_refl _) _⟩
        rw [setAll_take Hyl.out hlt (Sec.cells_len _), Hys.out, List.take_add_one, Hd.out]
        simp
      case measure => simp [intOf]; omega
    · go_wp2
      go_ret
      obtain rfl : k = n := by omega
      have hyl := hown.1
      rw [List.take_of_length_le (by omega), List.take_of_length_le (by rw [Hln.out]; omega)] at hys
      subst hys
      exact ⟨_, rfl, hown, hbw⟩
set_option maxHeartbeats 400000 in
theorem eqSector_c (p : Sec) (w : World) : Calls Tryz.prog 94 #[p.val, p.val] w fun e w' => e = .returned (.bool true) ∧ Below w.heap.size w w' := by
  have ne : ∀ u : ByteArray, (u.toList != u.toList) = false := fun u => by simp
  go_enter Tryz.func94, Tryz.ntmps94
  go_wp2
  go_ret
  exact ⟨rfl, by (repeat (first | (with_reducible assumption) | (with_reducible exact Below.refl _ _) | exact Nat.le_refl _ | exact Below.size (by with_reducible assumption) | (with_reducible refine Below.drew ?_) | (with_reducible refine below_drewN ?_ _) | (with_reducible refine Below.alloc ?_ ?_ _) | (with_reducible refine Below.setCell ?_ ?_ _) | (with_reducible refine le_alloc ?_ _) | (with_reducible refine le_set ?_ _ _) | (with_reducible refine le_drew ?_) | (with_reducible refine le_drewN ?_ _) | omega | (dsimp only; omega)))⟩
set_option maxRecDepth 100000 in
set_option maxHeartbeats 400000 in
theorem eqSectorS_c (A A' : Option Addr) (n c c' : Nat) (xs : List Sec) (w : World) (h : Sl w w.heap.size 3 A n (xs.flatMap Sec.cells)) (h' : Sl w w.heap.size 3 A' n (xs.flatMap Sec.cells)) (hm : n ≤ maxLen) :
    Calls Tryz.prog 65 #[.slice A n c, .slice A' n c'] w fun e w' => e = .returned (.bool true) ∧ Below w.heap.size w w' := by
  unfold maxLen at hm
  go_enter Tryz.func65, Tryz.ntmps65
  go_wp2
  go_loopw [5] (fun i wr => ∃ k : Nat, k ≤ n ∧ i = .int .i64 k ∧ Below w.heap.size w wr) (fun i _ => n - (intOf i).toNat)
  case atStart => exact ⟨0, Nat.zero_le _, rfl, Below.refl _ _⟩
  case round =>
    obtain ⟨k, hk, rfl, hbw⟩ := hrel
    by_cases hlt : k < n
    · obtain ⟨b, off, d, rfl, hb, hd, c1, c2, c3⟩ := h.sec k hlt
      obtain ⟨b', off', d', rfl, hb', hd', c1', c2', c3'⟩ := h'.sec k hlt
      obtain rfl : d = d' := by rw [hd] at hd'; exact Option.some.inj hd'
      clear hd'
      have Hd := Lib.hid hd; clear hd
      have j1 : (0 : Int) ≤ (k : Int) := by omega
      have j2 : (k : Int) < (n : Int) := by omega
      have e1 := see2 hbw hb hb'
      go_wp2
      go_region_held3 (fun w' => Below w.heap.size w w' ∧ (∀ x, w'.cell? ⟨b, x, none⟩ = w.cell? ⟨b, x, none⟩) ∧ (∀ x, w'.cell? ⟨b', x, none⟩ = w.cell? ⟨b', x, none⟩)) (first | exact see2 hbw.drew hb hb' | exact see2 (hbw.drew.trans (hb1.mono hbw.size)) hb hb') (first | (go_at_call 94; refine (eqSector_c d _).mono ?_; rintro e w' ⟨rfl, hb1⟩))
      have hb2 : Below w.heap.size w w' := hbw.drew.trans (hb1.mono hbw.size)
      go_wp2
      go_roundw
      case rel => exact ⟨k + 1, by omega, by go_num, hb2⟩
      case measure => simp [intOf]; omega
    · go_wp2
      go_ret
      exact ⟨rfl, hbw⟩
end Go.Proofs.YtpfnnjcochhklaaGreatDoor
