/- What FnGreedy draws: works; R8Ship, R8Works. -/
import Derived.Test.YtgkdjohiclhcoaaVoyG2
import Derived.Test.YtgkdjohiclhcoaaVoyL
namespace Go.Proofs.Ytgkdjohiclhcoaa
open Go.RowKit
theorem Dr.row2 {w wx wy : World} {lo b a : Nat} {row : Option Nat} (h : Dr w wx lo b a) (hg : wx.grownBy wy row) (hr : ∀ k, row = some k → w.heap.size ≤ k) : Dr w wy lo b a := by
  have h1 := h.lo
  have h2 := h.lt
  refine ⟨src_grown h.src hg (fun e => by have := hr b e; omega) (fun g e => by have := hr g e; omega), ⟨hg.os.trans h.gr.os, hg.tape.trans h.gr.tape, hg.output.trans h.gr.output, Nat.le_trans h.gr.size hg.size, fun k hk hne => (hg.block k (Nat.lt_of_lt_of_le hk h.gr.size) (fun e => by have := hr k e.symm; omega)).trans (h.gr.block k hk hne)⟩, h.lt⟩
theorem Dr.own {w wx wy : World} {lo b a base n sz : Nat} {e : TypeId} {v : Value} {xs : List Value} (h : Dr w wx lo b a) (ho : wx.ownsRow base e sz v n xs) (hg : wx.grownBy wy (some b)) (hb : w.heap.size ≤ base) : wy.ownsRow base e sz v n xs := by
  have h2 := h.lt
  refine own_grown ho hg ?_
  cases hv : v.ownBlock with
  | none => exact .inl rfl
  | some k => right; intro e; injection e with e; have := (ho.lt k hv).1; omega
def nm5 : List ByteArray := [⟨#[97]⟩, ⟨#[98]⟩, ⟨#[99]⟩, ⟨#[100]⟩, ⟨#[101]⟩]
theorem nm5_ok : ∀ r ∈ nm5, nameB r = true := by decide
theorem nm5_less (i : Nat) (h : 0 < i) (h5 : i < 5) (a b : ByteArray) (ha : nm5[i - 1]? = some a) (hb : nm5[i]? = some b) : lessB a b = true := by
  have : i = 1 ∨ i = 2 ∨ i = 3 ∨ i = 4 := by omega
  rcases this with rfl | rfl | rfl | rfl
  all_goals
    simp [nm5] at ha hb
    subst ha hb
    simp [lessB, ByteArray.toList_eq]
    decide
theorem works_draw {zs : List Wk} (hn : zs.length ≤ 5) (h : ∀ (i : Nat) (z : Wk), zs[i]? = some z → wkB z = true ∧ nm5[i]? = some z.name) : worksB zs = true := by
  rw [worksB_iff]
  refine ⟨fun i hi => ?_, by omega⟩
  have e := List.getElem?_eq_getElem hi
  obtain ⟨h1, h2⟩ := h i _ e
  rw [wkOk, wkAt_eq e, h1, Bool.true_and]
  by_cases h0 : i = 0
  · rw [decide_eq_true h0]; rfl
  · have e' := List.getElem?_eq_getElem (show i - 1 < zs.length by omega)
    obtain ⟨_, h4⟩ := h (i - 1) _ e'
    rw [wkAt_eq e', nm5_less i (by omega) (by omega) _ _ h4 h2, Bool.or_true]
set_option maxRecDepth 100000 in
set_option maxHeartbeats 2000000 in
theorem l25Draw_c (lo b a : Nat) (w : World) (h : Src w lo b a) (ha : a ≤ 700000000) :
    Calls Try.prog 38 #[.pointer (some ⟨b, 0, none⟩)] w fun e w' => ∃ v zs, e = .returned v ∧ worksB zs = true ∧ w'.ownsRow w.heap.size 60 7 v zs.length (zs.flatMap Wk.cells) ∧ Dr w w' lo b (a + 100) := by
  obtain ⟨i0, hi, hz0, hz1, hz2⟩ := info_parts wkInfo
  have hd0 := ((Dr.start h).alloc (.cells #[.string ⟨#[97]⟩, .string ⟨#[98]⟩, .string ⟨#[99]⟩, .string ⟨#[100]⟩, .string ⟨#[101]⟩] 9)).alloc (.cells #[] 60)
  have hn0 := own_next (lit_own w w.heap.size 9 #[.string ⟨#[97]⟩, .string ⟨#[98]⟩, .string ⟨#[99]⟩, .string ⟨#[100]⟩, .string ⟨#[101]⟩] 5 1 (Nat.le_refl _) (by decide) rfl) (((Below.refl (w.alloc (.cells #[.string ⟨#[97]⟩, .string ⟨#[98]⟩, .string ⟨#[99]⟩, .string ⟨#[100]⟩, .string ⟨#[101]⟩] 9)).heap.size _).alloc (Nat.le_refl _) (.cells #[] 60)))
  have hov := World.ownsRow_made (base := w.heap.size) (e := 60) (size := 7) (w.alloc (.cells #[.string ⟨#[97]⟩, .string ⟨#[98]⟩, .string ⟨#[99]⟩, .string ⟨#[100]⟩, .string ⟨#[101]⟩] 9)) #[] 0 (by simp) (by simp [maxLen]) rfl
  have hsz : (w.alloc (.cells #[.string ⟨#[97]⟩, .string ⟨#[98]⟩, .string ⟨#[99]⟩, .string ⟨#[100]⟩, .string ⟨#[101]⟩] 9)).heap.size = w.heap.size + 1 := by simp
  rw [hsz] at hov
  have hlt := h.lt
  clear hsz h
  go_enter Try.func38, Try.ntmps38
  go_wp2_with fail
  generalize (w.alloc (.cells #[.string ⟨#[97]⟩, .string ⟨#[98]⟩, .string ⟨#[99]⟩, .string ⟨#[100]⟩, .string ⟨#[101]⟩] 9)).alloc (.cells #[] 60) = w0 at *
  refine (pick_c 6 lo b a _ hd0.src (by omega) (by omega)).mono ?_
  rintro e w1 ⟨q, rfl, q0, q1, hs1, hg1⟩
  have hd1 := hd0.call hs1 hg1
  have hov1 := hd0.own hov hg1 (Nat.le_refl _)
  have hn1 := hd0.own hn0 hg1 (Nat.le_refl _)
  obtain ⟨m0, rfl⟩ := Int.eq_ofNat_of_zero_le q0
  have hm0 : m0 ≤ 5 := by omega
  clear q0 q1 hg1 hs1 hov hn0 hd0
  go_wp2_with fail
  go_loopw [4, 6] (fun v i wr => ∃ (k : Nat) (zs : List Wk), i = .int .i64 k ∧ zs.length = k ∧ k ≤ m0 ∧ wr.ownsRow w.heap.size 60 7 v k (zs.flatMap Wk.cells) ∧ wr.ownsRow w.heap.size 9 1 (.slice (some ⟨w.heap.size, 0, none⟩) 5 5) 5 (nm5.flatMap strC) ∧ Hid (∀ (i : Nat) (z : Wk), zs[i]? = some z → wkB z = true ∧ nm5[i]? = some z.name) ∧ Dr w wr lo b (a + 2 + 12 * k)) (fun _ i _ => m0 - (intOf i).toNat)
  case atStart => exact ⟨0, [], rfl, rfl, by omega, hov1, hn1, Lib.hid (fun i z hz => by simp at hz), hd1⟩
  case round =>
    clear hov1 hn1 hd1
    obtain ⟨k, zs, rfl, hk, hkm, hov, hn, Hz, hd⟩ := hrel
    obtain ⟨A3, c3, rfl⟩ := own_slice hov
    by_cases hlt2 : k < m0
    · have j1 : (k : Int) < (m0 : Int) := by omega
      have j2 : (k : Int) < 5 := by omega
      have e63 : k + 1 ≤ maxLen := by unfold maxLen; omega
      have e32 : (k + 1) * 64 ≤ 140737488355328 := by omega
      have hle : w.heap.size ≤ wr.heap.size := hd.gr.size
      obtain ⟨b1, off1, nm, hA, hb1, hm, d1⟩ := (Sl.of_own hn).str k (by omega)
      injection hA with hA
      injection hA with hA1 hA2 _
      subst hA1 hA2
      try simp only [Nat.zero_add] at hm d1
      have hnb := nm5_ok nm (List.mem_of_getElem? hm)
      have Hm := Lib.hid hm; clear hm
      have Hnb := Lib.hid hnb; clear hnb
      have Hk := Lib.hid hk; clear hk
      have E63 := Lib.hid e63; clear e63
      have E32 := Lib.hid e32; clear e32
      go_wp2_with fail
      refine (l25DrawWork_c nm lo b _ _ hd.src (by omega) Hnb.out).mono ?_
      rintro e w5 ⟨z, rfl, hzb, hzn, hd5⟩
      have hov5 := hd.own hov hd5.gr (Nat.le_refl _)
      have hn5 := hd.own hn hd5.gr (Nat.le_refl _)
      have hD := hd.call hd5.src hd5.gr
      have hle5 : w.heap.size ≤ w5.heap.size := hD.gr.size
      have hba : Below w5.heap.size w5 (w5.alloc (.cells #[.string z.name, .int .i64 z.x, .int .i64 z.y, .int .i64 z.ld, .int .i64 z.mi, .int .i64 z.fr, .int .i64 z.un] 60)) := (Below.refl _ _).alloc (Nat.le_refl _) _
      have Hzb := Lib.hid hzb; clear hzb
      have Hzn := Lib.hid hzn; clear hzn
      clear hov hn hd hd5
      go_wp2_with (at_builtin; refine wpl_append _ rfl (.tmp 16) (.tmp 23) _ rfl w.heap.size 60 i0 _ 7 64 Try.underlying36 hi hz0 hz1 hz2 rfl (by omega) _ k _ rfl (hov5.alloc _) (w5.heap.size + 1) (some ⟨w5.heap.size, 0, none⟩) 1 1 z.cells rfl (Sl.new w5 60 _ 1 7 rfl) (Wk.cells_one z) E63.out E32.out (le_alloc hle5 _) ?_; intro v7 w7 ho7 hg7 hat7)
      go_roundw
      case rel =>
        have hb7 : ∀ k', (Value.slice A3 k c3).ownBlock = some k' → w.heap.size ≤ k' := fun k' hk' => (hov5.lt k' hk').1
        refine ⟨k + 1, zs ++ [z], int_eq (by omega), by rw [List.length_append, Hk.out]; rfl, by omega, ?_, own_grown (own_next hn5 hba) hg7 (own_ne (own_next hn5 hba) (hov5.alloc _) (by decide)), Lib.hid ?_, ?_⟩
        · rw [List.flatMap_append]
          simpa using ho7
        · intro i z' hz'
          rcases Nat.lt_or_ge i zs.length with h1 | h1
          · rw [List.getElem?_append_left h1] at hz'
            exact Hz.out i z' hz'
          · rw [List.getElem?_append_right h1] at hz'
            have h2 : i - zs.length = 0 := by
              by_cases h3 : i - zs.length = 0
              · exact h3
              · rw [List.getElem?_eq_none (by simp; omega)] at hz'; cases hz'
            rw [h2] at hz'
            simp only [List.getElem?_cons_zero, Option.some.injEq] at hz'
            subst hz'
            have hkk := Hk.out
            obtain rfl : i = k := by omega
            exact ⟨Hzb.out, by rw [Hzn.out]; exact Hm.out⟩
        · exact ((hD.below hba).row2 hg7 hb7).more (by omega)
      case measure => simp [intOf]; omega
    · obtain rfl : k = m0 := by omega
      go_wp2_with fail
      go_ret
      have hkk := Hz.out
      subst hk
      exact ⟨_, zs, rfl, works_draw hm0 Hz.out, hov, hd.more (by omega)⟩
set_option maxRecDepth 100000 in
set_option maxHeartbeats 2000000 in
theorem r8Ship_c (A : Option Addr) (n c : Nat) (bs : List Int) (w : World) (hx : Sl w w.heap.size 1 A n (bs.flatMap u8C)) (hb : ∀ x ∈ bs, 0 ≤ x ∧ x ≤ 255) (hn : n ≤ maxLen) :
    Calls Try.prog 19 #[.slice A n c] w fun e w' => ∃ s : Sh, e = .returned s.val ∧ shB s = true ∧ Below w.heap.size w w' := by
  have hbA : Below w.heap.size w (w.alloc (.cells #[.string ⟨#[]⟩, .int .i64 0, .int .i64 0, .int .i64 0] 32)) := by (repeat (first | (with_reducible assumption) | (with_reducible exact Below.refl _ _) | exact Nat.le_refl _ | exact Below.size (by with_reducible assumption) | (with_reducible refine Below.drew ?_) | (with_reducible refine below_drewN ?_ _) | (with_reducible refine Below.alloc ?_ ?_ _) | (with_reducible refine Below.setCell ?_ ?_ _) | (with_reducible refine le_alloc ?_ _) | (with_reducible refine le_set ?_ _ _) | (with_reducible refine le_drew ?_) | (with_reducible refine le_drewN ?_ _) | omega | (dsimp only; omega)))
  have hr0 : (w.alloc (.cells #[.string ⟨#[]⟩, .int .i64 0, .int .i64 0, .int .i64 0] 32)).heap[w.heap.size]? = some (.cells #[.string ⟨#[]⟩, .int .i64 0, .int .i64 0, .int .i64 0] 32 (0, 0)) := heap_alloc_new w _
  have hx2 := hx.next hbA
  have hz0 : w.heap.size < (w.alloc (.cells #[.string ⟨#[]⟩, .int .i64 0, .int .i64 0, .int .i64 0] 32)).heap.size := by simp
  have Hb := Lib.hid hb; clear hb
  have Hr0 := Lib.hid hr0; clear hr0
  have Hx2 := Lib.hid hx2; clear hx2
  go_enter Try.func19, Try.ntmps19
  go_wp2_with fail
  generalize w.alloc (.cells #[.string ⟨#[]⟩, .int .i64 0, .int .i64 0, .int .i64 0] 32) = w0 at *
  refine (from_c A n c bs _ Hx2.out Hb.out hn).mono ?_
  rintro e w1 ⟨b, rfl, hs1, hb1⟩
  have hr1 := row_below Hr0.out hb1
  have H1 := hbA.trans (hb1.mono hbA.size)
  have hlo := hs1.lt
  have hz1 := Nat.lt_of_lt_of_le hz0 hb1.size
  have Hr1 := Lib.hid hr1; clear hr1
  go_wp2_with fail
  refine (l25DrawShip_c _ b 0 _ hs1 (by omega)).mono ?_
  rintro e w2 ⟨s, rfl, hv, hd⟩
  have hr2 := row_grown Hr1.out hd.gr (by intro e; injection e with e; omega)
  have H2 := H1.grown hd.gr H1.size fun g hg => by injection hg with hg; omega
  have a0 := (cell_of_row w2 w.heap.size 0 _ _ _ hr2).trans rfl
  have a1 := (cell_of_row w2 w.heap.size 1 _ _ _ hr2).trans rfl
  have a2 := (cell_of_row w2 w.heap.size 2 _ _ _ hr2).trans rfl
  have a3 := (cell_of_row w2 w.heap.size 3 _ _ _ hr2).trans rfl
  have fz := fun j => frozen_of_row w2 w.heap.size j _ _ hr2
  have Hv := Lib.hid hv; clear hv
  have Hr2 := Lib.hid hr2; clear hr2
  clear hs1 hb1 H1 hd
  go_wp2_with fail
  refine bodyPost_ret (v := s.val) (by simp [results, Try.results19, go_sem, a0, a1, a2, a3]) rfl ⟨s, rfl, Hv.out, by (repeat (first | (with_reducible assumption) | (with_reducible exact Below.refl _ _) | exact Nat.le_refl _ | exact Below.size (by with_reducible assumption) | (with_reducible refine Below.drew ?_) | (with_reducible refine below_drewN ?_ _) | (with_reducible refine Below.alloc ?_ ?_ _) | (with_reducible refine Below.setCell ?_ ?_ _) | (with_reducible refine le_alloc ?_ _) | (with_reducible refine le_set ?_ _ _) | (with_reducible refine le_drew ?_) | (with_reducible refine le_drewN ?_ _) | omega | (dsimp only; omega)))⟩
set_option maxRecDepth 100000 in
set_option maxHeartbeats 2000000 in
theorem r8Works_c (A : Option Addr) (n c : Nat) (bs : List Int) (w : World) (hx : Sl w w.heap.size 1 A n (bs.flatMap u8C)) (hb : ∀ x ∈ bs, 0 ≤ x ∧ x ≤ 255) (hn : n ≤ maxLen) :
    Calls Try.prog 20 #[.slice A n c] w fun e w' => ∃ v zs, e = .returned v ∧ worksB zs = true ∧ w'.ownsRow w.heap.size 60 7 v zs.length (zs.flatMap Wk.cells) ∧ Below w.heap.size w w' := by
  have Hb := Lib.hid hb; clear hb
  go_enter Try.func20, Try.ntmps20
  go_wp2_with fail
  refine (from_c A n c bs _ hx Hb.out hn).mono ?_
  rintro e w1 ⟨b, rfl, hs1, hb1⟩
  have hlo := hs1.lt
  go_wp2_with fail
  refine (l25Draw_c _ b 0 _ hs1 (by omega)).mono ?_
  rintro e w2 ⟨v, zs, rfl, hv, ho, hd⟩
  have H2 := hb1.grown hd.gr hb1.size fun g hg => by injection hg with hg; omega
  have ho2 := own_base ho hb1.size
  have Hv := Lib.hid hv; clear hv
  clear hs1 ho hd
  go_wp2_with fail
  go_ret
  exact ⟨v, zs, rfl, Hv.out, ho2, H2⟩
end Go.Proofs.Ytgkdjohiclhcoaa
