/- What FnGreedy draws: a ship, works. -/
import Derived.Test.YtgkdjohiclhcoaaVoyH
import Derived.Test.YtgkdjohiclhcoaaVoyV
namespace Go.Proofs.Ytgkdjohiclhcoaa
open Go.RowKit
theorem row_grown {w w' : World} {k : Nat} {row : Option Nat} {o : Obj} (h : w.heap[k]? = some o) (hg : w.grownBy w' row) (hne : some k ≠ row) : w'.heap[k]? = some o :=
  (hg.block k (by
    by_cases hk : k < w.heap.size
    · exact hk
    · rw [Array.getElem?_eq_none (by omega)] at h; cases h) hne).trans h
theorem row_below {w w' : World} {k : Nat} {o : Obj} (h : w.heap[k]? = some o) (hb : Below w.heap.size w w') : w'.heap[k]? = some o :=
  (hb.block k (by
    by_cases hk : k < w.heap.size
    · exact hk
    · rw [Array.getElem?_eq_none (by omega)] at h; cases h)).trans h
theorem set_grown (w : World) (a : Addr) (v : Value) : w.grownBy (w.setCell a v) (some a.block) :=
  ⟨rfl, rfl, rfl, by simp, fun k _ hne => heap_setCell_other w a k v (fun e => hne (by rw [e]))⟩
theorem src_grown {w w' : World} {lo b a : Nat} {row : Option Nat} (h : Src w lo b a) (hg : w.grownBy w' row) (hne : row ≠ some b) (hr : ∀ g, row = some g → lo ≤ g) : Src w' lo b a := by
  obtain ⟨A, n, c, a', seed, bs, ha, ho, hs, hbs, hn, hl⟩ := h
  exact ⟨A, n, c, a', seed, bs, ha, own_grown ho hg (.inr (Ne.symm hne)), hs.grown hg hl hr, hbs, hn, Nat.le_trans hl hg.size⟩
/-- The source, and what has been written since w: the source's block and new ones. -/
structure Dr (w wx : World) (lo b a : Nat) : Prop where
  src : Src wx lo b a
  gr : w.grownBy wx (some b)
  lt : b < w.heap.size
theorem Dr.lo {w wx : World} {lo b a : Nat} (h : Dr w wx lo b a) : lo ≤ b := h.src.lt.1
theorem Dr.start {w : World} {lo b a : Nat} (h : Src w lo b a) : Dr w w lo b a := ⟨h, grown_refl _ _, h.lt.2⟩
theorem Dr.below {w wx wy : World} {lo b a : Nat} (h : Dr w wx lo b a) (hb : Below wx.heap.size wx wy) : Dr w wy lo b a := ⟨h.src.next hb, grown_trans h.gr (grown_of_below hb), h.lt⟩
theorem Dr.alloc {w wx : World} {lo b a : Nat} (h : Dr w wx lo b a) (o) : Dr w (wx.alloc o) lo b a := h.below ((Below.refl _ _).alloc (Nat.le_refl _) o)
theorem Dr.drew {w wx : World} {lo b a : Nat} (h : Dr w wx lo b a) : Dr w wx.drew lo b a := h.below (Below.refl _ _).drew
theorem Dr.call {w wx wy : World} {lo b a a' : Nat} (h : Dr w wx lo b a) (hs : Src wy lo b a') (hg : wx.grownBy wy (some b)) : Dr w wy lo b a' := ⟨hs, grown_trans h.gr hg, h.lt⟩
theorem Dr.more {w wx : World} {lo b a a' : Nat} (h : Dr w wx lo b a) (ha : a ≤ a') : Dr w wx lo b a' := ⟨h.src.more ha, h.gr, h.lt⟩
theorem Dr.store {w wx : World} {lo b a : Nat} (h : Dr w wx lo b a) (p : Addr) (hp : w.heap.size ≤ p.block) (v : Value) : Dr w (wx.setCell p v) lo b a := by
  have h1 := h.lo
  have h2 := h.lt
  refine ⟨src_grown h.src (set_grown wx p v) (by intro e; injection e with e; omega) (by intro g e; injection e with e; omega), ⟨h.gr.os, h.gr.tape, h.gr.output, by simpa using h.gr.size, fun k hk hne => (heap_setCell_other wx p k v (by omega)).trans (h.gr.block k hk hne)⟩, h.lt⟩
theorem Dr.row {w wx wy : World} {lo b a k : Nat} {o : Obj} (h : Dr w wx lo b a) (hr : wx.heap[k]? = some o) (hg : wx.grownBy wy (some b)) (hk : w.heap.size ≤ k) : wy.heap[k]? = some o :=
  row_grown hr hg (by intro e; injection e with e; have := h.lt; omega)
set_option maxRecDepth 100000 in
set_option maxHeartbeats 1000000 in
theorem l25Place_c (lo b a : Nat) (w : World) (h : Src w lo b a) (ha : a ≤ 800000000) :
    Calls Try.prog 83 #[.pointer (some ⟨b, 0, none⟩)] w fun e w' => ∃ x y, e = .returned (ptV x y) ∧ ptB x y = true ∧ Dr w w' lo b (a + 4) := by
  have hr0 : (w.alloc (ptO 0 0 34)).heap[w.heap.size]? = some (.cells #[.int .i64 0, .int .i64 0] 34 (0, 0)) := heap_alloc_new w _
  have hd0 := (Dr.start h).alloc (ptO 0 0 34)
  have Hr0 := Lib.hid hr0; clear hr0
  go_enter Try.func83, Try.ntmps83
  go_wp2_with fail
  generalize w.alloc (ptO 0 0 34) = w0 at *
  refine (pick_c 200 lo b a _ hd0.src (by omega) (by omega)).mono ?_
  rintro e w1 ⟨r1, rfl, r10, r11, hs1, hg1⟩
  have hd1 := hd0.call hs1 hg1
  have hr1 := hd0.row Hr0.out hg1 (Nat.le_refl _)
  have Hr1 := Lib.hid hr1; clear hr1
  clear hs1 hg1
  go_wp2_with fail
  refine (pick_c 200 lo b _ _ hd1.src (by omega) (by omega)).mono ?_
  rintro e w2 ⟨r2, rfl, r20, r21, hs2, hg2⟩
  have hd2 := hd1.call hs2 hg2
  have hr2 := hd1.row Hr1.out hg2 (Nat.le_refl _)
  have a0 := (cell_of_row w2 w.heap.size 0 _ _ _ hr2).trans rfl
  have a1 := (cell_of_row w2 w.heap.size 1 _ _ _ hr2).trans rfl
  have fz := fun j => frozen_of_row w2 w.heap.size j _ _ hr2
  have b1 : r1 ≤ 199 := by omega
  have b2 : r2 ≤ 199 := by omega
  have hd3 : ∀ v1 v2, Dr w ((w2.setCell ⟨w.heap.size, 0, none⟩ v1).setCell ⟨w.heap.size, 1, none⟩ v2) lo b (a + 4) := fun v1 v2 => (hd2.store ⟨w.heap.size, 0, none⟩ (Nat.le_refl _) v1).store ⟨w.heap.size, 1, none⟩ (Nat.le_refl _) v2
  have Hr2 := Lib.hid hr2; clear hr2
  clear hs2 hg2 r11 r21
  have Hd3 := Lib.hid hd3; clear hd3
  go_wp2_with fail
  refine bodyPost_ret (v := ptV (10000 + 100 * r1) (10000 + 100 * r2)) (by simp [results, Try.results83, go_sem, a0, a1]) rfl ⟨_, _, rfl, ?_, Hd3.out _ _⟩
  simp only [ptB, Bool.and_eq_true, inB_iff]
  omega
def shipNames : List ByteArray := [⟨#[116, 101, 114, 110]⟩, ⟨#[115, 107, 117, 97]⟩, ⟨#[97, 117, 107]⟩]
theorem shipNames_ok : ∀ r ∈ shipNames, nameB r = true := by decide
set_option maxRecDepth 100000 in
set_option maxHeartbeats 2000000 in
theorem l25DrawShip_c (lo b a : Nat) (w : World) (h : Src w lo b a) (ha : a ≤ 800000000) :
    Calls Try.prog 37 #[.pointer (some ⟨b, 0, none⟩)] w fun e w' => ∃ s : Sh, e = .returned s.val ∧ shB s = true ∧ Dr w w' lo b (a + 8) := by
  have hr0 : (w.alloc (.cells #[.string ⟨#[]⟩, .int .i64 (0), .int .i64 (0), .int .i64 (0)] 32)).heap[w.heap.size]? = some (.cells #[.string ⟨#[]⟩, .int .i64 (0), .int .i64 (0), .int .i64 (0)] 32 (0, 0)) := heap_alloc_new w _
  have hd0 := (Dr.start h).alloc (.cells #[.string ⟨#[]⟩, .int .i64 (0), .int .i64 (0), .int .i64 (0)] 32)
  have hz0 : w.heap.size < (w.alloc (.cells #[.string ⟨#[]⟩, .int .i64 (0), .int .i64 (0), .int .i64 (0)] 32)).heap.size := by simp
  have hsz0 : (w.alloc (.cells #[.string ⟨#[]⟩, .int .i64 (0), .int .i64 (0), .int .i64 (0)] 32)).heap.size = w.heap.size + 1 := by simp
  have Hsz0 := Lib.hid hsz0; clear hsz0
  have Hr0 := Lib.hid hr0; clear hr0
  go_enter Try.func37, Try.ntmps37
  go_wp2_with fail
  generalize w.alloc (.cells #[.string ⟨#[]⟩, .int .i64 (0), .int .i64 (0), .int .i64 (0)] 32) = w0 at *
  have hba : Below w0.heap.size w0 (w0.alloc (.cells #[.string ⟨#[116, 101, 114, 110]⟩, .string ⟨#[115, 107, 117, 97]⟩, .string ⟨#[97, 117, 107]⟩] 9)) := by (repeat (first | (with_reducible assumption) | (with_reducible exact Below.refl _ _) | exact Nat.le_refl _ | exact Below.size (by with_reducible assumption) | (with_reducible refine Below.drew ?_) | (with_reducible refine below_drewN ?_ _) | (with_reducible refine Below.alloc ?_ ?_ _) | (with_reducible refine Below.setCell ?_ ?_ _) | (with_reducible refine le_alloc ?_ _) | (with_reducible refine le_set ?_ _ _) | (with_reducible refine le_drew ?_) | (with_reducible refine le_drewN ?_ _) | omega | (dsimp only; omega)))
  have hsl : Sl _ _ 1 _ 3 (shipNames.flatMap strC) := Sl.of_own (lit_own w0 w0.heap.size 9 #[.string ⟨#[116, 101, 114, 110]⟩, .string ⟨#[115, 107, 117, 97]⟩, .string ⟨#[97, 117, 107]⟩] 3 1 (Nat.le_refl _) (by decide) rfl)
  have hlt := h.lt
  have hd0a := hd0.below hba
  have hr0a := row_below Hr0.out hba
  rw [← Hsz0.out]
  refine (text_c _ 3 3 _ shipNames lo b a _ hd0a.src (by omega) hsl (Nat.le_refl _) (fun b' off e => by injection e with e; injection e with e; omega) (by omega) (by omega)).mono ?_
  rintro e w1 ⟨nm, rfl, hnm, hs1, hg1⟩
  have hnb := shipNames_ok nm hnm
  have hd1 := hd0a.call hs1 hg1
  have hr1 := hd0a.row hr0a hg1 (Nat.le_refl _)
  have hz1 : w.heap.size < w1.heap.size := Nat.lt_of_lt_of_le hz0 (Nat.le_trans hba.size hg1.size)
  clear hs1 hg1 hsl hba hd0 hd0a hr0a hnm Hr0 hz0
  have Hr1 := Lib.hid hr1; clear hr1
  have Hnb := Lib.hid hnb; clear hnb
  go_wp2_with fail
  refine (pick_c 300 lo b _ _ hd1.src (by omega) (by omega)).mono ?_
  rintro e w2 ⟨q, rfl, q0, q1, hs2, hg2⟩
  have hd2 := hd1.call hs2 hg2
  have hr2 := hd1.row Hr1.out hg2 (Nat.le_refl _)
  have hz2 : w.heap.size < w2.heap.size := Nat.lt_of_lt_of_le hz1 hg2.size
  have b1 : q ≤ 299 := by omega
  clear hs2 hg2 hd1 Hr1 hz1 q1
  have Hr2 := Lib.hid hr2; clear hr2
  have hr3 : (w2.alloc (.cells #[.string nm, .int .i64 (100 + q), .int .i64 (0), .int .i64 (0)] 32)).heap[w2.heap.size]? = some (.cells #[.string nm, .int .i64 (100 + q), .int .i64 (0), .int .i64 (0)] 32 (0, 0)) := heap_alloc_new w2 _
  have hb3 : Below w2.heap.size w2 (w2.alloc (.cells #[.string nm, .int .i64 (100 + q), .int .i64 (0), .int .i64 (0)] 32)) := by (repeat (first | (with_reducible assumption) | (with_reducible exact Below.refl _ _) | exact Nat.le_refl _ | exact Below.size (by with_reducible assumption) | (with_reducible refine Below.drew ?_) | (with_reducible refine below_drewN ?_ _) | (with_reducible refine Below.alloc ?_ ?_ _) | (with_reducible refine Below.setCell ?_ ?_ _) | (with_reducible refine le_alloc ?_ _) | (with_reducible refine le_set ?_ _ _) | (with_reducible refine le_drew ?_) | (with_reducible refine le_drewN ?_ _) | omega | (dsimp only; omega)))
  have hr3b := row_below Hr2.out hb3
  have hd3 := hd2.below hb3
  have hz3 : w2.heap.size < (w2.alloc (.cells #[.string nm, .int .i64 (100 + q), .int .i64 (0), .int .i64 (0)] 32)).heap.size := by simp
  have hsz3 : (w2.alloc (.cells #[.string nm, .int .i64 (100 + q), .int .i64 (0), .int .i64 (0)] 32)).heap.size = w2.heap.size + 1 := by simp
  have Hsz3 := Lib.hid hsz3; clear hsz3
  clear hb3 hd2 Hr2 Hsz0
  have Hr3 := Lib.hid hr3; clear hr3
  have Hr3b := Lib.hid hr3b; clear hr3b
  go_wp2_with fail
  generalize w2.alloc (.cells #[.string nm, .int .i64 (100 + q), .int .i64 (0), .int .i64 (0)] 32) = w3 at *
  have hba : Below w3.heap.size w3 (w3.alloc (.cells #[.int .i64 5, .int .i64 20, .int .i64 60, .int .i64 1000] 2)) := by (repeat (first | (with_reducible assumption) | (with_reducible exact Below.refl _ _) | exact Nat.le_refl _ | exact Below.size (by with_reducible assumption) | (with_reducible refine Below.drew ?_) | (with_reducible refine below_drewN ?_ _) | (with_reducible refine Below.alloc ?_ ?_ _) | (with_reducible refine Below.setCell ?_ ?_ _) | (with_reducible refine le_alloc ?_ _) | (with_reducible refine le_set ?_ _ _) | (with_reducible refine le_drew ?_) | (with_reducible refine le_drewN ?_ _) | omega | (dsimp only; omega)))
  have hsl : Sl _ _ 1 _ 4 (([5, 20, 60, 1000] : List Int).flatMap intC) := Sl.of_own (lit_own w3 w3.heap.size 2 #[.int .i64 5, .int .i64 20, .int .i64 60, .int .i64 1000] 4 1 (Nat.le_refl _) (by decide) rfl)
  have hd3a := hd3.below hba
  have hr3a := row_below Hr3.out hba
  have hr3c := row_below Hr3b.out hba
  rw [← Hsz3.out]
  refine (among_c _ 4 4 _ [5, 20, 60, 1000] lo b _ _ hd3a.src (by omega) hsl (Nat.le_refl _) (fun b' off e => by injection e with e; injection e with e; omega) (by omega) (by omega)).mono ?_
  rintro e w4 ⟨ld, rfl, hld, hs4, hg4⟩
  have hldb : 0 ≤ ld ∧ ld ≤ 1000 := by simp at hld; omega
  have hd4 := hd3a.call hs4 hg4
  have hr4 := hd3a.row hr3a hg4 (by omega)
  have hr4b := hd3a.row hr3c hg4 (by omega)
  have hz4 : w2.heap.size < w4.heap.size := Nat.lt_of_lt_of_le hz3 (Nat.le_trans hba.size hg4.size)
  clear hs4 hg4 hsl hba hd3 hd3a hr3a hr3c Hr3 Hr3b hld hz3
  have c2 := (cell_of_row w4 w2.heap.size 2 _ _ _ hr4).trans rfl
  have fz4 := fun j => frozen_of_row w4 w2.heap.size j _ _ hr4
  have hd5 := hd4.store ⟨w2.heap.size, 2, none⟩ (Nat.le_of_lt hz2) (.int .i64 ld)
  have hr5 := heap_setCell_same w4 w2.heap.size 2 _ _ (.int .i64 ld) hr4
  have hr5b := row_grown hr4b (set_grown w4 ⟨w2.heap.size, 2, none⟩ (.int .i64 ld)) (by intro e; injection e with e; simp only at e; omega)
  have hz5 : w2.heap.size < (w4.setCell ⟨w2.heap.size, 2, none⟩ (.int .i64 ld)).heap.size := by simpa using hz4
  clear hd4 hr4b hz4
  have Hr4 := Lib.hid hr4; clear hr4
  have Hr5 := Lib.hid hr5; clear hr5
  have Hr5b := Lib.hid hr5b; clear hr5b
  go_wp2_with fail
  clear c2 fz4 Hr4
  generalize w4.setCell ⟨w2.heap.size, 2, none⟩ (.int .i64 ld) = w5 at *
  refine (pick_c 30 lo b _ _ hd5.src (by omega) (by omega)).mono ?_
  rintro e w6 ⟨d, rfl, d0, d1, hs6, hg6⟩
  have hd6 := hd5.call hs6 hg6
  have hr6 := hd5.row Hr5.out hg6 (by omega)
  have hr6b := hd5.row Hr5b.out hg6 (by omega)
  have b2 : d ≤ 29 := by omega
  have c0 := (cell_of_row w6 w2.heap.size 0 _ _ _ hr6).trans rfl
  have c1 := (cell_of_row w6 w2.heap.size 1 _ _ _ hr6).trans rfl
  have c2 := (cell_of_row w6 w2.heap.size 2 _ _ _ hr6).trans rfl
  have c3 := (cell_of_row w6 w2.heap.size 3 _ _ _ hr6).trans rfl
  have k0 := (cell_of_row w6 w.heap.size 0 _ _ _ hr6b).trans rfl
  have k1 := (cell_of_row w6 w.heap.size 1 _ _ _ hr6b).trans rfl
  have k2 := (cell_of_row w6 w.heap.size 2 _ _ _ hr6b).trans rfl
  have k3 := (cell_of_row w6 w.heap.size 3 _ _ _ hr6b).trans rfl
  have fz := fun j => frozen_of_row w6 w2.heap.size j _ _ hr6
  have fzb := fun j => frozen_of_row w6 w.heap.size j _ _ hr6b
  have hX : ¬ w2.heap.size = w.heap.size := by omega
  have hd7 : ∀ v0 v1 v2 v3 v4, Dr w (((((w6.setCell ⟨w2.heap.size, 3, none⟩ v0).setCell ⟨w.heap.size, 0, none⟩ v1).setCell ⟨w.heap.size, 1, none⟩ v2).setCell ⟨w.heap.size, 2, none⟩ v3).setCell ⟨w.heap.size, 3, none⟩ v4) lo b (a + 8) := fun v0 v1 v2 v3 v4 => ((((hd6.store ⟨w2.heap.size, 3, none⟩ (Nat.le_of_lt hz2) v0).store ⟨w.heap.size, 0, none⟩ (Nat.le_refl _) v1).store ⟨w.heap.size, 1, none⟩ (Nat.le_refl _) v2).store ⟨w.heap.size, 2, none⟩ (Nat.le_refl _) v3).store ⟨w.heap.size, 3, none⟩ (Nat.le_refl _) v4
  clear hs6 hg6 hd5 Hr5 Hr5b d1 hd6
  have Hr6 := Lib.hid hr6; clear hr6
  have Hr6b := Lib.hid hr6b; clear hr6b
  have Hd7 := Lib.hid hd7; clear hd7
  go_wp2_with fail
  refine bodyPost_ret (v := Sh.val ⟨nm, 100 + q, ld, 20 + d⟩) (by simp [results, Try.results37, go_sem, k0, k1, k2, k3]) rfl ⟨⟨nm, 100 + q, ld, 20 + d⟩, rfl, ?_, Hd7.out _ _ _ _ _⟩
  simp only [shB, Bool.and_eq_true, inB_iff]
  exact ⟨Hnb.out, by omega, by omega, by omega⟩
end Go.Proofs.Ytgkdjohiclhcoaa
