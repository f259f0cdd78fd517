/- Slices of Characters: how they lie, and the laws' own functions over them. -/
import Derived.Test.YtejndpoebohhaaaGreatPhLaw
namespace Go.Proofs.YtejndpoebohhaaaGreat
open Go.RowKit
/-- A Character and where its group lies. -/
structure ChG where
  x : Ch
  A : Option Addr
  c : Nat
abbrev ChG.n (z : ChG) : Nat := z.x.gs.length
abbrev ChG.cells (z : ChG) : List Value := [.int .i64 z.x.k, .slice z.A z.n z.c, .string z.x.l, .string z.x.cs, .int .i64 z.x.p]
theorem ChG.cells_len (z : ChG) : z.cells.length = 5 := rfl
theorem chg_one (z : ChG) : ∀ u ∈ z.cells, u.oneCell' = true := by simp [ChG.cells, Value.oneCell']
/-- What is known of one of them. -/
structure ChGOk (w : World) (z : ChG) : Prop where
  sl : Sl w w.heap.size 1 z.A z.n (z.x.gs.flatMap intC)
  hn : z.n ≤ 1048576
  hl : z.x.l.size ≤ 1048576
  hs : z.x.cs.size ≤ 1048576
theorem ChGOk.next {w w' : World} {z : ChG} (h : ChGOk w z) (hb : Below w.heap.size w w') : ChGOk w' z := ⟨h.sl.next hb, h.hn, h.hl, h.hs⟩
/-- The slice .slice A n _ reads as the Characters zs. -/
structure ChS (w : World) (A : Option Addr) (n : Nat) (zs : List ChG) : Prop where
  sl : Sl w w.heap.size 5 A n (zs.flatMap ChG.cells)
  ok : ∀ z ∈ zs, ChGOk w z
theorem ChS.next {w w' : World} {A : Option Addr} {n : Nat} {zs : List ChG} (h : ChS w A n zs) (hb : Below w.heap.size w w') : ChS w' A n zs := ⟨h.sl.next hb, fun z hz => (h.ok z hz).next hb⟩
theorem ChS.len {w : World} {A : Option Addr} {n : Nat} {zs : List ChG} (h : ChS w A n zs) : zs.length = n := h.sl.len ChG.cells 5 ChG.cells_len (by omega)
theorem ChS.get {w : World} {A : Option Addr} {n : Nat} {zs : List ChG} (h : ChS w A n zs) (k : Nat) (hk : k < n) :
    ∃ b off z, A = some ⟨b, off, none⟩ ∧ b < w.heap.size ∧ zs[k]? = some z ∧ ChGOk w z ∧ w.cell? ⟨b, off + k * 5, none⟩ = some (.int .i64 z.x.k) ∧ w.cell? ⟨b, off + k * 5 + 1, none⟩ = some (.slice z.A z.n z.c) ∧
      w.cell? ⟨b, off + k * 5 + 2, none⟩ = some (.string z.x.l) ∧ w.cell? ⟨b, off + k * 5 + 3, none⟩ = some (.string z.x.cs) ∧ w.cell? ⟨b, off + k * 5 + 4, none⟩ = some (.int .i64 z.x.p) := by
  obtain ⟨b, off, z, hA, hb, hx, hc⟩ := h.sl.get ChG.cells 5 ChG.cells_len (by omega) k hk
  exact ⟨b, off, z, hA, hb, hx, h.ok z (List.mem_of_getElem? hx), hc 0 _ rfl, hc 1 _ rfl, hc 2 _ rfl, hc 3 _ rfl, hc 4 _ rfl⟩
def sumN (zs : List ChG) : Nat := (zs.map ChG.n).sum
theorem sumN_next {zs : List ChG} {k : Nat} {z : ChG} (h : zs[k]? = some z) : sumN (zs.take (k + 1)) = sumN (zs.take k) + z.n := by simp [sumN, List.take_add_one, h]
/-- They lie in memory of the call's own. -/
structure ChOwn (w : World) (base : Nat) (v : Value) (n : Nat) (zs : List ChG) : Prop where
  own : w.ownsRow base 56 5 v n (zs.flatMap ChG.cells)
  grp : ∀ z ∈ zs, w.ownsRow base 2 1 (.slice z.A z.n z.c) z.n (z.x.gs.flatMap intC)
theorem ChOwn.next {w w' : World} {base n : Nat} {v : Value} {zs : List ChG} (h : ChOwn w base v n zs) (hb : Below w.heap.size w w') : ChOwn w' base v n zs := ⟨own_next h.own hb, fun z hz => own_next (h.grp z hz) hb⟩
theorem ChOwn.len {w : World} {base n c : Nat} {A : Option Addr} {zs : List ChG} (h : ChOwn w base (.slice A n c) n zs) : zs.length = n := (Sl.of_own h.own).len ChG.cells 5 ChG.cells_len (by omega)
theorem ChOwn.sl {w : World} {base n c : Nat} {A : Option Addr} {zs : List ChG} (h : ChOwn w base (.slice A n c) n zs) (hb : ∀ z ∈ zs, z.n ≤ 1048576 ∧ z.x.l.size ≤ 1048576 ∧ z.x.cs.size ≤ 1048576) : ChS w A n zs :=
  ⟨Sl.of_own h.own, fun z hz => ⟨Sl.of_own (h.grp z hz), (hb z hz).1, (hb z hz).2.1, (hb z hz).2.2⟩⟩
theorem szCharacter2_c (k : Int) (A : Option Addr) (n c : Nat) (l cs : ByteArray) (p : Int) (left : Int) (w : World) (hm : n ≤ maxLen) (hl : l.size ≤ maxLen) (hc : cs.size ≤ maxLen) (h0 : 0 ≤ left) (h1 : left ≤ 1048576) :
    Calls Tryz.prog 21 #[chV k A n c l cs p, .int .i64 left] w fun e w' => ∃ r : Int, e = .returned (.int .i64 r) ∧ (r = -1 ∨ 0 ≤ r ∧ r + n + l.size + cs.size ≤ left) ∧ Below w.heap.size w w' := by
  have hI : ∀ w1, Calls Tryz.prog 20 #[.slice A n c, .int .i64 left] w1 fun e w' => ∃ r : Int, e = .returned (.int .i64 r) ∧ (r = -1 ∨ 0 ≤ r ∧ r + n ≤ left) ∧ w1 = w' := by
    intro w1
    unfold maxLen at hm
    go_enter Tryz.func20, Tryz.ntmps20
    go_wp2
    · go_ret
      exact ⟨-1, rfl, .inl rfl, rfl⟩
    · go_ret
      exact ⟨_, rfl, .inr ⟨by omega, by omega⟩, rfl⟩
  unfold maxLen at hl hc
  have HI := Lib.hid hI; clear hI
  go_enter Tryz.func21, Tryz.ntmps21
  go_wp2_with (go_at_call 20; refine (HI.out _).mono ?_; rintro e w1 ⟨r, rfl, hr, rfl⟩)
  · go_ret
    exact ⟨-1, rfl, .inl rfl, by (repeat (first | (with_reducible assumption) | (with_reducible exact Below.refl _ _) | exact Nat.le_refl _ | exact Below.size (by with_reducible assumption) | (with_reducible refine Below.drew ?_) | (with_reducible refine below_drewN ?_ _) | (with_reducible refine Below.alloc ?_ ?_ _) | (with_reducible refine Below.setCell ?_ ?_ _) | (with_reducible refine le_alloc ?_ _) | (with_reducible refine le_set ?_ _ _) | (with_reducible refine le_drew ?_) | (with_reducible refine le_drewN ?_ _) | omega | (dsimp only; omega)))⟩
  · have hr' : 0 ≤ r ∧ r + n ≤ left := by omega
    go_ret
    exact ⟨-1, rfl, .inl rfl, by (repeat (first | (with_reducible assumption) | (with_reducible exact Below.refl _ _) | exact Nat.le_refl _ | exact Below.size (by with_reducible assumption) | (with_reducible refine Below.drew ?_) | (with_reducible refine below_drewN ?_ _) | (with_reducible refine Below.alloc ?_ ?_ _) | (with_reducible refine Below.setCell ?_ ?_ _) | (with_reducible refine le_alloc ?_ _) | (with_reducible refine le_set ?_ _ _) | (with_reducible refine le_drew ?_) | (with_reducible refine le_drewN ?_ _) | omega | (dsimp only; omega)))⟩
  · have hr' : 0 ≤ r ∧ r + n ≤ left := by omega
    go_ret
    exact ⟨-1, rfl, .inl rfl, by (repeat (first | (with_reducible assumption) | (with_reducible exact Below.refl _ _) | exact Nat.le_refl _ | exact Below.size (by with_reducible assumption) | (with_reducible refine Below.drew ?_) | (with_reducible refine below_drewN ?_ _) | (with_reducible refine Below.alloc ?_ ?_ _) | (with_reducible refine Below.setCell ?_ ?_ _) | (with_reducible refine le_alloc ?_ _) | (with_reducible refine le_set ?_ _ _) | (with_reducible refine le_drew ?_) | (with_reducible refine le_drewN ?_ _) | omega | (dsimp only; omega)))⟩
  · have hr' : 0 ≤ r ∧ r + n ≤ left := by omega
    go_ret
    exact ⟨_, rfl, .inr ⟨by omega, by omega⟩, by (repeat (first | (with_reducible assumption) | (with_reducible exact Below.refl _ _) | exact Nat.le_refl _ | exact Below.size (by with_reducible assumption) | (with_reducible refine Below.drew ?_) | (with_reducible refine below_drewN ?_ _) | (with_reducible refine Below.alloc ?_ ?_ _) | (with_reducible refine Below.setCell ?_ ?_ _) | (with_reducible refine le_alloc ?_ _) | (with_reducible refine le_set ?_ _ _) | (with_reducible refine le_drew ?_) | (with_reducible refine le_drewN ?_ _) | omega | (dsimp only; omega)))⟩
theorem chInfo : (Tryz.prog.info? 56).map (fun i => (i.zero, i.size, i.bytes)) = some (some (.agg #[.int .i64 0, .slice none 0 0, .string ByteArray.empty, .string ByteArray.empty, .int .i64 0]), 5, 72) := by kernel_rfl
set_option maxRecDepth 100000 in
set_option maxHeartbeats 1000000 in
theorem szCharacterS_c (A : Option Addr) (n c : Nat) (zs : List ChG) (left : Int) (w : World) (h : Sl w w.heap.size 5 A n (zs.flatMap ChG.cells)) (hm : n ≤ maxLen)
    (hz : ∀ z ∈ zs, z.n ≤ maxLen ∧ z.x.l.size ≤ maxLen ∧ z.x.cs.size ≤ maxLen) (h0 : 0 ≤ left) (h1 : left ≤ 1048576) :
    Calls Tryz.prog 6 #[.slice A n c, .int .i64 left] w fun e w' => ∃ r : Int, e = .returned (.int .i64 r) ∧ (r = -1 ∨ 0 ≤ r ∧ r + n + (sumN zs : Nat) ≤ left ∧ ∀ z ∈ zs, z.x.l.size ≤ 1048576 ∧ z.x.cs.size ≤ 1048576) ∧ Below w.heap.size w w' := by
  have hl := h.len ChG.cells 5 ChG.cells_len (by omega)
  unfold maxLen at hm
  have Hl := Lib.hid hl; clear hl
  have Hz := Lib.hid hz; clear hz
  go_enter Tryz.func6, Tryz.ntmps6
  go_wp2
  · go_ret
    exact ⟨-1, rfl, .inl rfl, by (repeat (first | (with_reducible assumption) | (with_reducible exact Below.refl _ _) | exact Nat.le_refl _ | exact Below.size (by with_reducible assumption) | (with_reducible refine Below.drew ?_) | (with_reducible refine below_drewN ?_ _) | (with_reducible refine Below.alloc ?_ ?_ _) | (with_reducible refine Below.setCell ?_ ?_ _) | (with_reducible refine le_alloc ?_ _) | (with_reducible refine le_set ?_ _ _) | (with_reducible refine le_drew ?_) | (with_reducible refine le_drewN ?_ _) | omega | (dsimp only; omega)))⟩
  · go_loopw [1, 5] (fun l i wr => ∃ (k : Nat) (r : Int), k ≤ n ∧ i = .int .i64 k ∧ l = .int .i64 r ∧ 0 ≤ r ∧ r + n + (sumN (zs.take k) : Nat) ≤ left ∧ (∀ z ∈ zs.take k, z.x.l.size ≤ 1048576 ∧ z.x.cs.size ≤ 1048576) ∧ Below w.heap.size w wr) (fun _ i _ => n - (intOf i).toNat)
    case atStart => exact ⟨0, _, Nat.zero_le _, rfl, rfl, by omega, by simp [sumN] <;> omega, by simp, Below.refl _ _⟩
    case round =>
      obtain ⟨k, r, hk, rfl, rfl, hr0, hr1, hok, hbw⟩ := hrel
      have Hok := Lib.hid hok; clear hok
      by_cases hlt : k < n
      · obtain ⟨b, off, z, hA, hb, hx, hc⟩ := h.get ChG.cells 5 ChG.cells_len (by omega) k hlt
        subst hA
        have c0 := hc 0 _ rfl
        have c1 := hc 1 _ rfl
        have c2 := hc 2 _ rfl
        have c3 := hc 3 _ rfl
        have c4 := hc 4 _ rfl
        obtain ⟨m1, m2, m3⟩ := Hz.out z (List.mem_of_getElem? hx)
        have hsn := sumN_next hx
        have r1 := keepC hbw b hb
        simp only [Nat.add_zero] at c0
        have Hx := Lib.hid hx; clear hx
        have Hsn := Lib.hid hsn; clear hsn
        clear hc
        go_wp2_with (go_at_call 21; refine (szCharacter2_c z.x.k z.A z.n z.c z.x.l z.x.cs z.x.p r _ m1 m2 m3 hr0 (by omega)).mono ?_; rintro e w2 ⟨q, rfl, hq, hb1⟩)
        · go_ret
          exact ⟨-1, rfl, .inl rfl, hbw.trans (hb1.mono hbw.size)⟩
        · have hq2 : 0 ≤ q ∧ q + z.n + z.x.l.size + z.x.cs.size ≤ r := by omega
          go_roundw
          case rel =>
            refine ⟨k + 1, q, by omega, by go_num, rfl, by omega, by rw [Hsn.out]; omega, ?_, hbw.trans (hb1.mono hbw.size)⟩
            intro z' hz'
            rcases (mem_take_next Hx.out z').1 hz' with h2 | h2
            · exact Hok.out z' h2
            · subst h2; omega
          case measure => simp [intOf]; omega
      · go_wp2
        go_ret
        have htk : zs.take k = zs := List.take_of_length_le (by rw [Hl.out]; omega)
        have hok' := Hok.out
        rw [htk] at hr1 hok'
        exact ⟨r, rfl, .inr ⟨by omega, by omega, hok'⟩, hbw⟩
set_option maxRecDepth 100000 in
set_option maxHeartbeats 1000000 in
theorem toCharacterS_c (A : Option Addr) (n c : Nat) (zs : List ChG) (w : World) (h : ChS w A n zs) (hm : n ≤ 1048576) :
    Calls Tryz.prog 10 #[.slice A n c] w fun e w' => ∃ v zs', e = .returned v ∧ zs'.map ChG.x = zs.map ChG.x ∧ ChOwn w' w.heap.size v n zs' ∧ Below w.heap.size w w' := by
  obtain ⟨i0, hi, hz0, hz1, hz2⟩ := info_parts chInfo
  have hln := h.len
  have hB : i0.bytes * n ≤ 281474976710656 := by rw [hz2]; omega
  have hM : n ≤ maxLen := by unfold maxLen; omega
  have Hln := Lib.hid hln; clear hln
  have HB := Lib.hid hB; clear hB
  have HM := Lib.hid hM; clear hM
  go_enter Tryz.func10, Tryz.ntmps10
  go_wp2_with (at_make; refine wpList_make_full _ rfl _ _ _ rfl w.heap.size 56 i0 _ 5 Tryz.underlying30 hi hz0 hz1 _ _ _ _ n rfl rfl rfl rfl HB.out HM.out (Nat.le_refl _) ?_; intro w1 hown hgr)
  have hb0 : Below w.heap.size w w1 := (Below.refl _ _).grown hgr (Nat.le_refl _) (by simp)
  clear hgr
  go_loopw [4] (fun i wr => ∃ (k : Nat) (ys : List Value) (zs' : List ChG), k ≤ n ∧ i = .int .i64 k ∧ zs'.map ChG.x = (zs.take k).map ChG.x ∧ wr.ownsRow w.heap.size 56 5 (.slice (some ⟨w.heap.size, 0, none⟩) n n) n ys ∧ ys.take (k * 5) = zs'.flatMap ChG.cells ∧ (∀ z ∈ zs', wr.ownsRow w.heap.size 2 1 (.slice z.A z.n z.c) z.n (z.x.gs.flatMap intC)) ∧ Below w.heap.size w wr) (fun i _ => n - (intOf i).toNat)
  case atStart => exact ⟨0, _, [], Nat.zero_le _, rfl, by simp, hown, by simp, by simp, hb0⟩
  case round =>
    clear hown hb0
    obtain ⟨k, ys, zs', hk, rfl, hzx, hown, hys, hgr, hbw⟩ := hrel
    have Hzx := Lib.hid hzx; clear hzx
    have Hys := Lib.hid hys; clear hys
    have Hgr := Lib.hid hgr; clear hgr
    by_cases hlt : k < n
    · obtain ⟨b, off, z, rfl, hb, hx, hzo, c0, c1, c2, c3, c4⟩ := h.get k hlt
      have hyl := hown.1
      have q1 := keepC hbw b hb
      have z0 : w.heap.size < wr.heap.size := (hown.lt _ rfl).2
      have Hx := Lib.hid hx; clear hx
      have Hyl := Lib.hid hyl; clear hyl
      go_wp2_with fail
      refine (toCharacter_c z.x.k z.A z.n z.c z.x.l z.x.cs z.x.p z.x.gs _ ((hzo.next hbw).sl) hzo.hn).mono ?_
      rintro e w2 ⟨A2, c2', rfl, ho2g, hb1⟩
      have ho2 := own_next hown hb1
      obtain ⟨y0, f0⟩ := own_cell ho2 (k * 5) (by omega)
      obtain ⟨y1, f1⟩ := own_cell ho2 (k * 5 + 1) (by omega)
      obtain ⟨y2, f2⟩ := own_cell ho2 (k * 5 + 2) (by omega)
      obtain ⟨y3, f3⟩ := own_cell ho2 (k * 5 + 3) (by omega)
      obtain ⟨y4, f4⟩ := own_cell ho2 (k * 5 + 4) (by omega)
      have fz := ho2.frozenAt
      go_wp2_with fail
      go_roundw
      case rel =>
        have s0 := ho2.stored (k * 5) (.int .i64 z.x.k)
        have s1 := s0.1.stored (k * 5 + 1) (.slice A2 z.n c2')
        have s2 := s1.1.stored (k * 5 + 2) (.string z.x.l)
        have s3 := s2.1.stored (k * 5 + 3) (.string z.x.cs)
        have s4 := s3.1.stored (k * 5 + 4) (.int .i64 z.x.p)
        have sg := grown_trans (grown_trans (grown_trans (grown_trans s0.2 s1.2) s2.2) s3.2) s4.2
        refine ⟨k + 1, setAll ys (k * 5) (ChG.cells ⟨z.x, A2, c2'⟩), zs' ++ [⟨z.x, A2, c2'⟩], by omega, by go_num, ?_, ?_, ?_, ?_, ?_⟩
        · rw [List.map_append, Hzx.out, List.take_add_one, Hx.out]; simp
        · exact s4.1
        · rw [setAll_take Hyl.out hlt (ChG.cells_len _), Hys.out, List.flatMap_append]; simp
        · intro z' hz'
          rcases List.mem_append.1 hz' with h2 | h2
          · have hh := own_next (Hgr.out z' h2) hb1
            exact own_grown hh sg (own_ne hh ho2 (by decide))
          · simp only [List.mem_singleton] at h2
            subst h2
            have hh := own_base ho2g hbw.size
            exact own_grown hh sg (own_ne hh ho2 (by decide))
        · have hb2 := hbw.trans (hb1.mono hbw.size)
          exact ((((hb2.setCell (Nat.le_refl _) _).setCell (Nat.le_refl _) _).setCell (Nat.le_refl _) _).setCell (Nat.le_refl _) _).setCell (Nat.le_refl _) _
      case measure => simp [intOf]; omega
    · go_wp2_with fail
      go_ret
      obtain rfl : k = n := by omega
      have hyl := hown.1
      have hys := Hys.out
      have hzx := Hzx.out
      rw [List.take_of_length_le (by omega)] at hys
      rw [List.take_of_length_le (by rw [Hln.out]; omega)] at hzx
      subst hys
      exact ⟨_, zs', rfl, hzx, ⟨hown, Hgr.out⟩, hbw⟩
set_option maxRecDepth 100000 in
set_option maxHeartbeats 2000000 in
theorem eqCharacterS_c (A A' : Option Addr) (n c c' : Nat) (zs zs' : List ChG) (w : World) (h : ChS w A n zs) (h' : ChS w A' n zs') (hx : zs.map ChG.x = zs'.map ChG.x) (hm : n ≤ 1048576) :
    Calls Tryz.prog 14 #[.slice A n c, .slice A' n c'] w fun e w' => e = .returned (.bool true) ∧ Below w.heap.size w w' := by
  have Hx := Lib.hid hx; clear hx
  go_enter Tryz.func14, Tryz.ntmps14
  go_wp2
  go_loopw [5] (fun i wr => ∃ k : Nat, k ≤ n ∧ i = .int .i64 k ∧ Below w.heap.size w wr) (fun i _ => n - (intOf i).toNat)
  case atStart => exact ⟨0, Nat.zero_le _, rfl, Below.refl _ _⟩
  case round =>
    obtain ⟨k, hk, rfl, hbw⟩ := hrel
    by_cases hlt : k < n
    · obtain ⟨b, off, z, rfl, hb, hz, hzo, c0, c1, c2, c3, c4⟩ := h.get k hlt
      obtain ⟨b', off', z', rfl, hb', hz', hzo', d0, d1, d2, d3, d4⟩ := h'.get k hlt
      have he : z.x = z'.x := by
        have h1 : (zs.map ChG.x)[k]? = some z.x := by rw [List.getElem?_map, hz]; rfl
        have h2 : (zs'.map ChG.x)[k]? = some z'.x := by rw [List.getElem?_map, hz']; rfl
        rw [Hx.out, h2] at h1
        exact (Option.some.inj h1).symm
      obtain ⟨x, Az, cz⟩ := z
      obtain ⟨x', Az', cz'⟩ := z'
      obtain rfl : x = x' := he
      simp only at c0 c1 c2 c3 c4 d0 d1 d2 d3 d4
      have j1 : (0 : Int) ≤ (k : Int) := by omega
      have j2 : (k : Int) < (n : Int) := by omega
      have z1 := Nat.lt_of_lt_of_le hb hbw.size
      have z2 := Nat.lt_of_lt_of_le hb' hbw.size
      have q1 := keepC hbw b hb
      have q2 := keepC hbw b' hb'
      have Hz := Lib.hid hz; clear hz
      have Hz' := Lib.hid hz'; clear hz'
      go_wp2
      have e1 : ∀ {w' : World}, Below wr.heap.size wr w' → (Below wr.heap.size wr w' ∧ (∀ x, w'.cell? ⟨b, x, none⟩ = wr.cell? ⟨b, x, none⟩) ∧ (∀ x, w'.cell? ⟨b', x, none⟩ = wr.cell? ⟨b', x, none⟩)) := fun hbb => ⟨hbb, keepC hbb _ z1, keepC hbb _ z2⟩
      refine wp_region_held_drew (S := fun w' => Below wr.heap.size wr w' ∧ (∀ x, w'.cell? ⟨b, x, none⟩ = wr.cell? ⟨b, x, none⟩) ∧ (∀ x, w'.cell? ⟨b', x, none⟩ = wr.cell? ⟨b', x, none⟩)) (by kernel_rfl) (e1 (Below.refl _ _).drew) (fun hHeld => ?_)
      (first
        | (refine wpAnyH_take (i := 0) (v := ?_) rfl (by kernel_rfl) (by kernel_rfl) (by kernel_rfl) (fun _ _ _ h => h) (Or.inl ⟨by rfl, ?_⟩) (by assumption) ?_
           rotate_left
           focus (intro wq hSq; (try dsimp only at hSq); go_simp; (try (with_reducible rfl)); done))
        | (refine wpAnyH_take (i := 0) (v := undef) rfl (by kernel_rfl) (by kernel_rfl) (by kernel_rfl) (fun _ _ _ h => h) (Or.inr ⟨by rfl, rfl⟩) (by assumption) ?_)
        | fail "take 0")
      try simp only [Act.put, List.setIfInBounds_toArray, List.set_cons_zero, List.set_cons_succ, List.getElem_toArray, List.getElem_cons_zero]
      (first
        | (refine wpAnyH_take (i := 1) (v := ?_) rfl (by kernel_rfl) (by kernel_rfl) (by kernel_rfl) (fun _ _ _ h => h) (Or.inl ⟨by rfl, ?_⟩) (by assumption) ?_
           rotate_left
           focus (intro wq hSq; (try dsimp only at hSq); go_simp; (try (with_reducible rfl)); done))
        | (refine wpAnyH_take (i := 1) (v := undef) rfl (by kernel_rfl) (by kernel_rfl) (by kernel_rfl) (fun _ _ _ h => h) (Or.inr ⟨by rfl, rfl⟩) (by assumption) ?_)
        | fail "take 1")
      try simp only [Act.put, List.setIfInBounds_toArray, List.set_cons_zero, List.set_cons_succ, List.getElem_toArray, List.getElem_cons_zero, List.getElem_cons_succ]
      (first
        | (refine wpAnyH_take (i := 2) (v := ?_) rfl (by kernel_rfl) (by kernel_rfl) (by kernel_rfl) (fun _ _ _ h => h) (Or.inl ⟨by rfl, ?_⟩) (by assumption) ?_
           rotate_left
           focus (intro wq hSq; (try dsimp only at hSq); go_simp; (try (with_reducible rfl)); done))
        | (refine wpAnyH_take (i := 2) (v := undef) rfl (by kernel_rfl) (by kernel_rfl) (by kernel_rfl) (fun _ _ _ h => h) (Or.inr ⟨by rfl, rfl⟩) (by assumption) ?_)
        | fail "take 2")
      try simp only [Act.put, List.setIfInBounds_toArray, List.set_cons_zero, List.set_cons_succ, List.getElem_toArray, List.getElem_cons_zero, List.getElem_cons_succ]
      (first
        | (refine wpAnyH_take (i := 3) (v := ?_) rfl (by kernel_rfl) (by kernel_rfl) (by kernel_rfl) (fun _ _ _ h => h) (Or.inl ⟨by rfl, ?_⟩) (by assumption) ?_
           rotate_left
           focus (intro wq hSq; (try dsimp only at hSq); go_simp; (try (with_reducible rfl)); done))
        | (refine wpAnyH_take (i := 3) (v := undef) rfl (by kernel_rfl) (by kernel_rfl) (by kernel_rfl) (fun _ _ _ h => h) (Or.inr ⟨by rfl, rfl⟩) (by assumption) ?_)
        | fail "take 3")
      try simp only [Act.put, List.setIfInBounds_toArray, List.set_cons_zero, List.set_cons_succ, List.getElem_toArray, List.getElem_cons_zero, List.getElem_cons_succ]
      (first
        | (refine wpAnyH_take (i := 4) (v := ?_) rfl (by kernel_rfl) (by kernel_rfl) (by kernel_rfl) (fun _ _ _ h => h) (Or.inl ⟨by rfl, ?_⟩) (by assumption) ?_
           rotate_left
           focus (intro wq hSq; (try dsimp only at hSq); go_simp; (try (with_reducible rfl)); done))
        | (refine wpAnyH_take (i := 4) (v := undef) rfl (by kernel_rfl) (by kernel_rfl) (by kernel_rfl) (fun _ _ _ h => h) (Or.inr ⟨by rfl, rfl⟩) (by assumption) ?_)
        | fail "take 4")
      try simp only [Act.put, List.setIfInBounds_toArray, List.set_cons_zero, List.set_cons_succ, List.getElem_toArray, List.getElem_cons_zero, List.getElem_cons_succ]
      (first
        | (refine wpAnyH_take (i := 5) (v := ?_) rfl (by kernel_rfl) (by kernel_rfl) (by kernel_rfl) (fun _ _ _ h => h) (Or.inl ⟨by rfl, ?_⟩) (by assumption) ?_
           rotate_left
           focus (intro wq hSq; (try dsimp only at hSq); go_simp; (try (with_reducible rfl)); done))
        | (refine wpAnyH_take (i := 5) (v := undef) rfl (by kernel_rfl) (by kernel_rfl) (by kernel_rfl) (fun _ _ _ h => h) (Or.inr ⟨by rfl, rfl⟩) (by assumption) ?_)
        | fail "take 5")
      try simp only [Act.put, List.setIfInBounds_toArray, List.set_cons_zero, List.set_cons_succ, List.getElem_toArray, List.getElem_cons_zero, List.getElem_cons_succ]
      (first
        | (refine wpAnyH_take (i := 6) (v := ?_) rfl (by kernel_rfl) (by kernel_rfl) (by kernel_rfl) (fun _ _ _ h => h) (Or.inl ⟨by rfl, ?_⟩) (by assumption) ?_
           rotate_left
           focus (intro wq hSq; (try dsimp only at hSq); go_simp; (try (with_reducible rfl)); done))
        | (refine wpAnyH_take (i := 6) (v := undef) rfl (by kernel_rfl) (by kernel_rfl) (by kernel_rfl) (fun _ _ _ h => h) (Or.inr ⟨by rfl, rfl⟩) (by assumption) ?_)
        | fail "take 6")
      try simp only [Act.put, List.setIfInBounds_toArray, List.set_cons_zero, List.set_cons_succ, List.getElem_toArray, List.getElem_cons_zero, List.getElem_cons_succ]
      (first
        | (refine wpAnyH_take (i := 7) (v := ?_) rfl (by kernel_rfl) (by kernel_rfl) (by kernel_rfl) (fun _ _ _ h => h) (Or.inl ⟨by rfl, ?_⟩) (by assumption) ?_
           rotate_left
           focus (intro wq hSq; (try dsimp only at hSq); go_simp; (try (with_reducible rfl)); done))
        | (refine wpAnyH_take (i := 7) (v := undef) rfl (by kernel_rfl) (by kernel_rfl) (by kernel_rfl) (fun _ _ _ h => h) (Or.inr ⟨by rfl, rfl⟩) (by assumption) ?_)
        | fail "take 7")
      try simp only [Act.put, List.setIfInBounds_toArray, List.set_cons_zero, List.set_cons_succ, List.getElem_toArray, List.getElem_cons_zero, List.getElem_cons_succ]
      refine wpAnyH_ready (rs := [8]) (by kernel_rfl) (by simp) ?_
      refine AllReadyH.cons (o := _) rfl (fun K hK => ?_) AllReadyH.nil
      go_simp
      refine (eqCharacter_c x.k Az Az' x.gs.length cz cz' x.l x.cs x.p x.gs _ ((hzo.next hbw).next (Below.refl _ _).drew).sl ((hzo'.next hbw).next (Below.refl _ _).drew).sl hzo.hn).mono ?_; rintro e w2 ⟨rfl, hb2⟩; have hbr2 := (Below.refl wr.heap.size wr).drew.trans hb2
      refine hK.out _ _ ?_ (fun hHeld => ?_)
      · exact e1 hbr2
      clear hK K
      try simp only [Act.put, List.setIfInBounds_toArray, List.set_cons_zero, List.set_cons_succ, List.getElem_toArray, List.getElem_cons_zero, List.getElem_cons_succ]
      (first
        | (refine wpAnyH_take (i := 9) (v := ?_) rfl (by kernel_rfl) (by kernel_rfl) (by kernel_rfl) (fun _ _ _ h => h) (Or.inl ⟨by rfl, ?_⟩) (by assumption) ?_
           rotate_left
           focus (intro wq hSq; (try dsimp only at hSq); go_simp; (try (with_reducible rfl)); done))
        | (refine wpAnyH_take (i := 9) (v := undef) rfl (by kernel_rfl) (by kernel_rfl) (by kernel_rfl) (fun _ _ _ h => h) (Or.inr ⟨by rfl, rfl⟩) (by assumption) ?_)
        | fail "take 9")
      try simp only [Act.put, List.setIfInBounds_toArray, List.set_cons_zero, List.set_cons_succ, List.getElem_toArray, List.getElem_cons_zero, List.getElem_cons_succ]
      refine wpAnyH_done (by kernel_rfl) ?_ _
      go_wp2_with fail
      go_roundw
      case rel => exact ⟨k + 1, by omega, by go_num, hbw.trans (hbr2.mono hbw.size)⟩
      case measure => simp [intOf]; omega
    · go_wp2_with fail
      go_ret
      exact ⟨rfl, hbw⟩
end Go.Proofs.YtejndpoebohhaaaGreat
