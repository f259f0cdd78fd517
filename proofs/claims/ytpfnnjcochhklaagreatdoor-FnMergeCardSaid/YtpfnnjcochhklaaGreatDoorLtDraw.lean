
/- A character that is drawn is valid. -/
import Derived.Test.YtpfnnjcochhklaaGreatDoorSrcG
import Derived.Test.YtpfnnjcochhklaaGreatDoorPhG
import Derived.Test.YtpfnnjcochhklaaGreatDoorChC
import Derived.Test.YtpfnnjcochhklaaGreatDoorChG
import Derived.Deep.DeepCutAuto
import Derived.Deep.CutBlock
namespace Go.Proofs.YtpfnnjcochhklaaGreatDoor
open Go.RowKit
theorem step_sum (k : Int) (i j : Nat) : (stepT k i j).sum ≤ (if i = 0 ∧ j = 0 then 20 else if j = 0 then 60 else 40) := by
  have hg := gapI_bd k
  have hf := flashI_bd k
  unfold stepT
  by_cases h1 : 0 < j
  · rw [if_pos h1, if_neg (by omega), if_neg (by omega)]; simp; omega
  · rw [if_neg h1]
    by_cases h2 : 0 < i
    · rw [if_pos h2, if_neg (by omega), if_pos (by omega)]; simp; omega
    · rw [if_neg h2, if_pos (by omega)]; simp; omega
theorem inner_sum (k : Int) (i : Nat) : ∀ m : Nat, (innerT k i m).sum ≤ 40 * m + (if m = 0 then 0 else if i = 0 then -20 else 20)
  | 0 => by simp [innerT]
  | m + 1 => by
    have ih := inner_sum k i m
    have hs := step_sum k i m
    rw [innerT_next, List.sum_append, if_neg (by omega)]
    by_cases hm : m = 0
    · subst hm
      rw [if_pos rfl] at ih
      by_cases hi : i = 0
      · rw [if_pos ⟨hi, rfl⟩] at hs
        rw [if_pos hi]; omega
      · rw [if_neg (by omega), if_pos rfl] at hs
        rw [if_neg hi]; omega
    · rw [if_neg hm] at ih
      rw [if_neg (by omega), if_neg hm] at hs
      by_cases hi : i = 0
      · rw [if_pos hi] at ih ⊢; omega
      · rw [if_neg hi] at ih ⊢; omega
theorem outer_sum (k : Int) {g : List Int} (hg : ∀ x ∈ g, 1 ≤ x ∧ x ≤ 9) : ∀ r : Nat, 0 < r → r ≤ g.length → (outerT k g r).sum ≤ 40 * (g.take r).sum + 20 * r - 40
  | 0, h, _ => absurd h (by omega)
  | r + 1, _, hr => by
    have hx : g[r]? = some (g[r]'(by omega)) := List.getElem?_eq_getElem _
    have hx9 := hg _ (List.mem_of_getElem? hx)
    have hn := inner_sum k r (g[r]'(by omega)).toNat
    have hs := sum_next hx
    rw [outerT_next k hx, List.sum_append, hs]
    rw [if_neg (by omega)] at hn
    by_cases h0 : r = 0
    · subst h0
      rw [if_pos rfl] at hn
      simp [outerT]
      omega
    · have ih := outer_sum k hg r (by omega) (by omega)
      rw [if_neg h0] at hn
      omega
theorem sign_sum (s : ByteArray) : ∀ m : Nat, (mT s m).sum ≤ 20 * m
  | 0 => by simp [mT]
  | m + 1 => by
    have ih := sign_sum s m
    have : signI s m ≤ 15 := by unfold signI; split <;> omega
    rw [mT_next, List.sum_append]
    split <;> simp <;> omega
/-- The least period of a character that has a shape is none too long. -/
theorem least_600 {x : Ch} (h : shapeB x = true) : leastI x ≤ 600 := by
  have ht := shape_TOk h
  have hg := gapI_bd x.k
  unfold leastI
  split
  · omega
  split
  · omega
  by_cases h8 : x.k = 8
  · obtain ⟨h1, h2, h3⟩ := ht.mo h8
    have hms := morse_size (letN x) (by unfold letN; omega)
    have := sign_sum (morse (letN x)) (morse (letN x)).size
    have hr := restI_bd x
    rw [timesL, if_pos h8]; omega
  · obtain ⟨g1, g4, g9⟩ := grp_ok h8 ht
    have ho := outer_sum x.k g9 (grp x).length (by omega) (Nat.le_refl _)
    rw [List.take_length] at ho
    have hf : fitsB x = true := by simp only [shapeB, Bool.and_eq_true] at h; exact h.2
    have hsum : (grp x).sum ≤ 12 ∧ (isL x.l = true → (grp x).sum = 6 ∧ (grp x).length = 1) := by
      have hgb : ∀ {gs : List Int}, groupB gs = true → gs.sum ≤ 12 := fun {gs} hg => by
        simp only [groupB, Bool.and_eq_true, decide_eq_true_eq] at hg; exact hg.2.2.1
      unfold fitsB at hf
      unfold grp
      split at hf
      · simp only [Bool.and_eq_true, decide_eq_true_eq] at hf
        rw [if_pos hf.1]
        refine ⟨by decide, fun hl => ?_⟩
        have := hf.2
        simp only [isE, isL, beq_iff_eq] at this hl
        rw [hl] at this; cases this
      split at hf
      · simp only [Bool.and_eq_true] at hf
        refine ⟨?_, fun hl => ?_⟩
        · split
          · decide
          · exact hgb hf.2
        · have := hf.1
          simp only [isE, isL, beq_iff_eq] at this hl
          rw [hl] at this; cases this
      split at hf
      · split at hf
        · simp only [decide_eq_true_eq] at hf
          rw [hf]; exact ⟨by decide, fun _ => ⟨by decide, by decide⟩⟩
        · simp only [Bool.and_eq_true] at hf
          refine ⟨?_, fun hl => ?_⟩
          · split
            · decide
            · exact hgb hf.2.2
          · exact absurd hl (by assumption)
      cases hf
    have hr : restI x ≤ 45 := by
      unfold restI
      rw [if_neg h8]
      (repeat' split) <;> omega
    rw [timesL, if_neg h8, List.sum_append]
    by_cases hl : isL x.l = true
    · rw [if_pos hl]
      have := hsum.2 hl
      simp; omega
    · rw [if_neg hl]
      simp; omega
def drawCols : List ByteArray := [⟨#[87]⟩, ⟨#[87]⟩, ⟨#[82]⟩, ⟨#[71]⟩, ⟨#[89]⟩, ⟨#[87, 82]⟩, ⟨#[82, 71]⟩, ⟨#[87, 82, 71]⟩, ⟨#[87, 71]⟩]
theorem drawCols_ok : ∀ r ∈ drawCols, colorsB r = true := by decide
set_option maxRecDepth 100000 in
set_option maxHeartbeats 1000000 in
theorem drawCol_c (lo b a : Nat) (w : World) (h : Src w lo b a) (ha : a ≤ 900000000) :
    Calls Tryz.prog 99 #[.pointer (some ⟨b, 0, none⟩)] w fun e w' => ∃ r : ByteArray, e = .returned (.string r) ∧ colorsB r = true ∧ Src w' lo b (a + 2) ∧ w.grownBy w' (some b) := by
  go_enter Tryz.func99, Tryz.ntmps99
  go_wp2_with fail
  have hb1 : Below w.heap.size w (w.alloc (.cells #[.string ⟨#[87]⟩, .string ⟨#[87]⟩, .string ⟨#[82]⟩, .string ⟨#[71]⟩, .string ⟨#[89]⟩, .string ⟨#[87, 82]⟩, .string ⟨#[82, 71]⟩, .string ⟨#[87, 82, 71]⟩, .string ⟨#[87, 71]⟩] 9)) := by (repeat (first | (with_reducible assumption) | (with_reducible exact Below.refl _ _) | exact Nat.le_refl _ | exact Below.size (by with_reducible assumption) | (with_reducible refine Below.drew ?_) | (with_reducible refine below_drewN ?_ _) | (with_reducible refine Below.alloc ?_ ?_ _) | (with_reducible refine Below.setCell ?_ ?_ _) | (with_reducible refine le_alloc ?_ _) | (with_reducible refine le_set ?_ _ _) | (with_reducible refine le_drew ?_) | (with_reducible refine le_drewN ?_ _) | omega | (dsimp only; omega)))
  have ho := lit_own w w.heap.size 9 #[.string ⟨#[87]⟩, .string ⟨#[87]⟩, .string ⟨#[82]⟩, .string ⟨#[71]⟩, .string ⟨#[89]⟩, .string ⟨#[87, 82]⟩, .string ⟨#[82, 71]⟩, .string ⟨#[87, 82, 71]⟩, .string ⟨#[87, 71]⟩] 9 1 (Nat.le_refl _) (by decide) rfl
  have hs : Sl _ _ 1 _ 9 ((drawCols).flatMap strC) := Sl.of_own ho
  have hlt := h.lt
  refine (text_c _ 9 9 _ drawCols lo b a _ (h.next hb1) ha hs (Nat.le_refl _) (fun b' off e => by injection e with e; injection e with e; omega) (by omega) (by omega)).mono ?_
  rintro e w1 ⟨r, rfl, hr, hs1, hg1⟩
  have hcb := drawCols_ok r hr
  have Hcb := Lib.hid hcb; clear hcb
  have Hr := Lib.hid hr; clear hr
  go_wp2_with fail
  go_ret
  exact ⟨_, rfl, Hcb.out, hs1, grown_trans (grown_of_below hb1) hg1⟩
/-- The character that is being drawn: its box at block X, the result's cell, and the source. -/
structure DrawSt (w wx : World) (lo b a X : Nat) (z : ChG) : Prop where
  box : wx.ownsRow w.heap.size 53 5 (.slice (some ⟨X, 0, none⟩) 1 1) 1 z.cells
  res : wx.ownsRow w.heap.size 53 5 (.slice (some ⟨w.heap.size, 0, none⟩) 1 1) 1 [.int .i64 0, .slice none 0 0, .string ⟨#[]⟩, .string ⟨#[]⟩, .int .i64 0]
  ne : X ≠ w.heap.size
  src : Src wx lo b a
  gr : w.grownBy wx (some b)
  lt : b < w.heap.size
abbrev GrpOwn (w wx : World) (z : ChG) : Prop := wx.ownsRow w.heap.size 2 1 (.slice z.A z.n z.c) z.n (z.x.gs.flatMap intC)
theorem own_src {wx wy : World} {base b : Nat} {e : TypeId} {sz n : Nat} {v : Value} {xs : List Value} (h : wx.ownsRow base e sz v n xs) (hg : wx.grownBy wy (some b)) (hb : b < base) : wy.ownsRow base e sz v n xs := by
  refine own_grown h hg ?_
  cases hv : v.ownBlock with
  | none => exact .inl rfl
  | some k => right; intro e; injection e with e; have := (h.lt k hv).1; omega
theorem DrawSt.grown {w wx wy : World} {lo b a a' X : Nat} {z : ChG} (h : DrawSt w wx lo b a X z) (hs : Src wy lo b a') (hg : wx.grownBy wy (some b)) : DrawSt w wy lo b a' X z :=
  ⟨own_src h.box hg h.lt, own_src h.res hg h.lt, h.ne, hs, grown_trans h.gr hg, h.lt⟩
theorem DrawSt.next {w wx wy : World} {lo b a X : Nat} {z : ChG} (h : DrawSt w wx lo b a X z) (hb : Below wx.heap.size wx wy) : DrawSt w wy lo b a X z := h.grown (h.src.next hb) (grown_of_below hb)
theorem DrawSt.more {w wx : World} {lo b a a' X : Nat} {z : ChG} (h : DrawSt w wx lo b a X z) (ha : a ≤ a') : DrawSt w wx lo b a' X z := ⟨h.box, h.res, h.ne, h.src.more ha, h.gr, h.lt⟩
theorem DrawSt.cells {w wx : World} {lo b a X : Nat} {z : ChG} (h : DrawSt w wx lo b a X z) : wx.cell? ⟨X, 0, none⟩ = some (.int .i64 z.x.k) ∧ wx.cell? ⟨X, 1, none⟩ = some (.slice z.A z.n z.c) ∧ wx.cell? ⟨X, 2, none⟩ = some (.string z.x.l) ∧ wx.cell? ⟨X, 3, none⟩ = some (.string z.x.cs) ∧ wx.cell? ⟨X, 4, none⟩ = some (.int .i64 z.x.p) := by
  refine ⟨?_, ?_, ?_, ?_, ?_⟩
  all_goals
    rw [h.box.cellAt _ (by omega)]
    rfl
theorem DrawSt.chp {w wx : World} {lo b a X : Nat} {z : ChG} (h : DrawSt w wx lo b a X z) (hg : GrpOwn w wx z) (hn : z.n ≤ 1048576) (hl : z.x.l.size ≤ 1048576) (hs : z.x.cs.size ≤ 1048576) : ChP wx X 0 z.A z.n z.c z.x := by
  obtain ⟨c0, c1, c2, c3, c4⟩ := h.cells
  exact ⟨c0, c1, c2, c3, c4, (h.box.lt X rfl).2, Sl.of_own hg, hn, hl, hs⟩
/-- What is written is a row of the call's own, of another type or another block than the box, the result and the source. -/
theorem DrawSt.apart {w wx wy : World} {lo b a X : Nat} {z : ChG} {row : Option Nat} (h : DrawSt w wx lo b a X z) (hg : wx.grownBy wy row) (hr : ∀ k, row = some k → w.heap.size ≤ k) (h1 : row ≠ some X) (h2 : row ≠ some w.heap.size) : DrawSt w wy lo b a X z := by
  obtain ⟨A, n, c, a', seed, bs, q1, q2, q3, q4, q5, q6⟩ := h.src
  have hlo := (q2.lt b rfl).1
  have hlt := h.lt
  refine ⟨own_grown h.box hg (.inr fun e => h1 (by rw [← e]; rfl)), own_grown h.res hg (.inr fun e => h2 (by rw [← e]; rfl)), h.ne, ⟨A, n, c, a', seed, bs, q1, own_grown q2 hg (.inr fun e => ?_), ?_, q4, q5, Nat.le_trans q6 hg.size⟩, ?_, h.lt⟩
  · have := hr b (by rw [← e]; rfl); omega
  · exact q3.grown hg q6 fun g hgg => by have := hr g hgg; omega
  · exact ⟨hg.os.trans h.gr.os, hg.tape.trans h.gr.tape, hg.output.trans h.gr.output, Nat.le_trans h.gr.size hg.size, fun k hk hne => (hg.block k (Nat.lt_of_lt_of_le hk h.gr.size) (fun e => by have := hr k e.symm; omega)).trans (h.gr.block k hk hne)⟩
theorem DrawSt.app {w wx wy : World} {lo b a X : Nat} {z : ChG} (h : DrawSt w wx lo b a X z) (hg : GrpOwn w wx z) (hw : wx.grownBy wy (Value.slice z.A z.n z.c).ownBlock) : DrawSt w wy lo b a X z := by
  refine h.apart hw (fun k hk => (hg.lt k hk).1) ?_ ?_
  · intro e
    rcases own_ne hg h.box (by decide) with h1 | h1
    · rw [h1] at e; cases e
    · exact h1 (by rw [e]; rfl)
  · intro e
    rcases own_ne hg h.res (by decide) with h1 | h1
    · rw [h1] at e; cases e
    · exact h1 (by rw [e]; rfl)
theorem DrawSt.store {w wx : World} {lo b a X : Nat} {z z' : ChG} (h : DrawSt w wx lo b a X z) (j : Nat) (v : Value) (hz : z'.cells = z.cells.set j v) : DrawSt w (wx.setCell ⟨X, j, none⟩ v) lo b a X z' := by
  have s := h.box.stored j v
  have hX := (h.box.lt X rfl).1
  have hlt := h.lt
  obtain ⟨A, n, c, a', seed, bs, q1, q2, q3, q4, q5, q6⟩ := h.src
  have hlo := (q2.lt b rfl).1
  refine ⟨by rw [hz]; exact s.1, own_grown h.res s.2 (.inr (by simp [Value.ownBlock]; exact fun e => h.ne e.symm)), h.ne, ⟨A, n, c, a', seed, bs, q1, own_grown q2 s.2 (.inr (by simp [Value.ownBlock]; omega)), ?_, q4, q5, by simpa using q6⟩, ?_, h.lt⟩
  · exact q3.grown s.2 q6 fun g hg => by simp at hg; omega
  · refine ⟨s.2.os.trans h.gr.os, s.2.tape.trans h.gr.tape, s.2.output.trans h.gr.output, Nat.le_trans h.gr.size s.2.size, fun k hk hne => (s.2.block k (Nat.lt_of_lt_of_le hk h.gr.size) ?_).trans (h.gr.block k hk hne)⟩
    simp; omega
theorem grp_store {w wx : World} {lo b a X : Nat} {z z' : ChG} (h : DrawSt w wx lo b a X z) (hg : GrpOwn w wx z') (j : Nat) (v : Value) : GrpOwn w (wx.setCell ⟨X, j, none⟩ v) z' :=
  own_grown hg (h.box.stored j v).2 (own_ne hg h.box (by decide))
theorem convD (w : World) (n : Int) : (convert 22 9 (.slice (some ⟨w.heap.size, 0, none⟩) 1 1)).run Tryz.prog (w.alloc (.cells #[.int .u8 n] 5)) = .ok (.string (strOfNums [n])) (w.alloc (.cells #[.int .u8 n] 5)) :=
  run_convert_bytes_arg _ 22 5 Tryz.underlying22 Tryz.underlying5 w.heap.size 0 1 1 [n] rfl (fun i hi => by
    obtain rfl : i = 0 := by omega
    simp) 9 Tryz.underlying9
theorem one_bt {n : Int} (h0 : 0 ≤ n) (h1 : n < 256) : bt (strOfNums [n]) 0 = n := by
  unfold bt
  rw [strOfNums_data]
  simp
  omega
theorem shape_sizes {x : Ch} (h : shapeB x = true) : x.gs.length ≤ 4 ∧ x.l.size ≤ 1 ∧ x.cs.size ≤ 3 := by
  simp only [shapeB, Bool.and_eq_true] at h
  obtain ⟨h1, h2⟩ := h
  simp only [colorsB, Bool.and_eq_true, decide_eq_true_eq] at h1
  have hE : ∀ {l : ByteArray}, isE l = true → l.size ≤ 1 := fun {l} h => by
    have : l.toList = [] := by simpa [isE] using h
    rw [(toList_nil l).1 this]; omega
  have hgb : ∀ {gs : List Int}, groupB gs = true → gs.length ≤ 4 := fun {gs} hg => by
    simp only [groupB, Bool.and_eq_true, decide_eq_true_eq] at hg; exact hg.2.1
  refine ⟨?_, ?_, h1.2.2⟩
  · unfold fitsB at h2
    split at h2
    · simp only [Bool.and_eq_true, decide_eq_true_eq] at h2; rw [h2.1]; simp
    split at h2
    · simp only [Bool.and_eq_true] at h2; exact hgb h2.2
    split at h2
    · split at h2
      · simp only [decide_eq_true_eq] at h2; rw [h2]; simp
      · simp only [Bool.and_eq_true] at h2; exact hgb h2.2.2
    split at h2
    · simp only [Bool.and_eq_true, decide_eq_true_eq] at h2; rw [h2.1]; simp
    · cases h2
  · unfold fitsB at h2
    split at h2
    · simp only [Bool.and_eq_true] at h2; exact hE h2.2
    split at h2
    · simp only [Bool.and_eq_true] at h2; exact hE h2.1
    split at h2
    · split at h2
      · rename_i hl
        rw [isL, beq_iff_eq] at hl
        have := toL_len x.l
        rw [hl] at this; simp at this; omega
      · simp only [Bool.and_eq_true] at h2; exact hE h2.1
    split at h2
    · simp only [Bool.and_eq_true, letterB, decide_eq_true_eq] at h2; omega
    · cases h2
/-- The copy of the character into the result's cell. -/
theorem DrawSt.fin {w wx : World} {lo b a X : Nat} {z : ChG} (h : DrawSt w wx lo b a X z) (hg : GrpOwn w wx z) (v0 v1 v2 v3 v4 : Value) :
    GrpOwn w (((((wx.setCell ⟨w.heap.size, 0, none⟩ v0).setCell ⟨w.heap.size, 1, none⟩ v1).setCell ⟨w.heap.size, 2, none⟩ v2).setCell ⟨w.heap.size, 3, none⟩ v3).setCell ⟨w.heap.size, 4, none⟩ v4) z ∧
    Src (((((wx.setCell ⟨w.heap.size, 0, none⟩ v0).setCell ⟨w.heap.size, 1, none⟩ v1).setCell ⟨w.heap.size, 2, none⟩ v2).setCell ⟨w.heap.size, 3, none⟩ v3).setCell ⟨w.heap.size, 4, none⟩ v4) lo b a ∧
    w.grownBy (((((wx.setCell ⟨w.heap.size, 0, none⟩ v0).setCell ⟨w.heap.size, 1, none⟩ v1).setCell ⟨w.heap.size, 2, none⟩ v2).setCell ⟨w.heap.size, 3, none⟩ v3).setCell ⟨w.heap.size, 4, none⟩ v4) (some b) ∧
    ((((((wx.setCell ⟨w.heap.size, 0, none⟩ v0).setCell ⟨w.heap.size, 1, none⟩ v1).setCell ⟨w.heap.size, 2, none⟩ v2).setCell ⟨w.heap.size, 3, none⟩ v3).setCell ⟨w.heap.size, 4, none⟩ v4).cell? ⟨w.heap.size, 0, none⟩ = some v0 ∧ (((((wx.setCell ⟨w.heap.size, 0, none⟩ v0).setCell ⟨w.heap.size, 1, none⟩ v1).setCell ⟨w.heap.size, 2, none⟩ v2).setCell ⟨w.heap.size, 3, none⟩ v3).setCell ⟨w.heap.size, 4, none⟩ v4).cell? ⟨w.heap.size, 1, none⟩ = some v1 ∧ (((((wx.setCell ⟨w.heap.size, 0, none⟩ v0).setCell ⟨w.heap.size, 1, none⟩ v1).setCell ⟨w.heap.size, 2, none⟩ v2).setCell ⟨w.heap.size, 3, none⟩ v3).setCell ⟨w.heap.size, 4, none⟩ v4).cell? ⟨w.heap.size, 2, none⟩ = some v2 ∧ (((((wx.setCell ⟨w.heap.size, 0, none⟩ v0).setCell ⟨w.heap.size, 1, none⟩ v1).setCell ⟨w.heap.size, 2, none⟩ v2).setCell ⟨w.heap.size, 3, none⟩ v3).setCell ⟨w.heap.size, 4, none⟩ v4).cell? ⟨w.heap.size, 3, none⟩ = some v3 ∧ (((((wx.setCell ⟨w.heap.size, 0, none⟩ v0).setCell ⟨w.heap.size, 1, none⟩ v1).setCell ⟨w.heap.size, 2, none⟩ v2).setCell ⟨w.heap.size, 3, none⟩ v3).setCell ⟨w.heap.size, 4, none⟩ v4).cell? ⟨w.heap.size, 4, none⟩ = some v4) := by
  have s0 := h.res.stored 0 v0
  have s1 := s0.1.stored 1 v1
  have s2 := s1.1.stored 2 v2
  have s3 := s2.1.stored 3 v3
  have s4 := s3.1.stored 4 v4
  have sg := grown_trans (grown_trans (grown_trans (grown_trans s0.2 s1.2) s2.2) s3.2) s4.2
  obtain ⟨A, n, c, a', seed, bs, q1, q2, q3, q4, q5, q6⟩ := h.src
  have hlo := (q2.lt b rfl).1
  have hlt := h.lt
  refine ⟨own_grown hg sg (own_ne hg h.res (by decide)), ⟨A, n, c, a', seed, bs, q1, own_grown q2 sg (own_ne q2 h.res (by decide)), ?_, q4, q5, Nat.le_trans q6 sg.size⟩, ?_, by rw [s4.1.cellAt 0 (by omega)]; rfl, by rw [s4.1.cellAt 1 (by omega)]; rfl, by rw [s4.1.cellAt 2 (by omega)]; rfl, by rw [s4.1.cellAt 3 (by omega)]; rfl, by rw [s4.1.cellAt 4 (by omega)]; rfl⟩
  · exact q3.grown sg q6 fun g hg => by simp at hg; omega
  · refine ⟨sg.os.trans h.gr.os, sg.tape.trans h.gr.tape, sg.output.trans h.gr.output, Nat.le_trans h.gr.size sg.size, fun k hk hne => (sg.block k (Nat.lt_of_lt_of_le hk h.gr.size) ?_).trans (h.gr.block k hk hne)⟩
    simp; omega
theorem shape_of {k : Int} {gs : List Int} {l co : ByteArray} {p : Int} (hco : colorsB co = true) (hf : fitsB ⟨k, gs, l, co, p⟩ = true) : shapeB ⟨k, gs, l, co, p⟩ = true := by rw [shapeB, hco, hf]; rfl
set_option maxRecDepth 100000 in
set_option maxHeartbeats 4000000 in
theorem l05Draw_c (lo b a : Nat) (w : World) (h : Src w lo b a) (ha : a ≤ 800000000) :
    Calls Tryz.prog 70 #[.pointer (some ⟨b, 0, none⟩)] w fun e w' => ∃ z : ChG, e = .returned (chV z.x.k z.A z.n z.c z.x.l z.x.cs z.x.p) ∧ validB z.x = true ∧ w'.ownsRow w.heap.size 2 1 (.slice z.A z.n z.c) z.n (z.x.gs.flatMap intC) ∧ Src w' lo b (a + 40) ∧ w.grownBy w' (some b) := by
  have hbA : Below w.heap.size w (w.alloc (.cells #[.int .i64 0, .slice none 0 0, .string ⟨#[]⟩, .string ⟨#[]⟩, .int .i64 0] 53)) := by (repeat (first | (with_reducible assumption) | (with_reducible exact Below.refl _ _) | exact Nat.le_refl _ | exact Below.size (by with_reducible assumption) | (with_reducible refine Below.drew ?_) | (with_reducible refine below_drewN ?_ _) | (with_reducible refine Below.alloc ?_ ?_ _) | (with_reducible refine Below.setCell ?_ ?_ _) | (with_reducible refine le_alloc ?_ _) | (with_reducible refine le_set ?_ _ _) | (with_reducible refine le_drew ?_) | (with_reducible refine le_drewN ?_ _) | omega | (dsimp only; omega)))
  have hoR := lit_own w w.heap.size 53 #[.int .i64 0, .slice none 0 0, .string ⟨#[]⟩, .string ⟨#[]⟩, .int .i64 0] 1 5 (Nat.le_refl _) (by decide) rfl
  have hlt := h.lt.2
  obtain ⟨p0, hp, hy0, hy1, hy2⟩ := info_parts intInfo
  go_enter Tryz.func70, Tryz.ntmps70
  go_wp2_with fail
  refine (pickN_c 8 lo b a _ (h.next hbA) (by omega) (by omega)).mono ?_
  rintro e w1 ⟨r, rfl, r0, r1, hs1, hg1⟩
  replace hoR := own_src hoR hg1 hlt
  have hG1 : w.grownBy w1 (some b) := grown_trans (grown_of_below hbA) hg1
  go_wp2_with fail
  refine (drawCol_c lo b (a + 2) _ hs1 (by omega)).mono ?_
  rintro e w2 ⟨co, rfl, hco, hs2, hg2⟩
  replace hoR := own_src hoR hg2 hlt
  have hG2 := grown_trans hG1 hg2
  have hcz : co.size ≤ 3 := by simp only [colorsB, Bool.and_eq_true, decide_eq_true_eq] at hco; exact hco.2.2
  have Hco := Lib.hid hco; clear hco
  clear hg1 hg2 hs1 hG1
  have hzz : w.heap.size ≤ w2.heap.size := hG2.size
  have hzR := (hoR.lt w.heap.size rfl).2
  have hbX : Below w2.heap.size w2 (w2.alloc (.cells #[.int .i64 (1 + r), .slice none 0 0, .string ⟨#[]⟩, .string co, .int .i64 0] 53)) := by (repeat (first | (with_reducible assumption) | (with_reducible exact Below.refl _ _) | exact Nat.le_refl _ | exact Below.size (by with_reducible assumption) | (with_reducible refine Below.drew ?_) | (with_reducible refine below_drewN ?_ _) | (with_reducible refine Below.alloc ?_ ?_ _) | (with_reducible refine Below.setCell ?_ ?_ _) | (with_reducible refine le_alloc ?_ _) | (with_reducible refine le_set ?_ _ _) | (with_reducible refine le_drew ?_) | (with_reducible refine le_drewN ?_ _) | omega | (dsimp only; omega)))
  have hst : DrawSt w (w2.alloc (.cells #[.int .i64 (1 + r), .slice none 0 0, .string ⟨#[]⟩, .string co, .int .i64 0] 53)) lo b (a + 4) w2.heap.size ⟨⟨1 + r, [], ⟨#[]⟩, co, 0⟩, none, 0⟩ :=
    ⟨lit_own w2 w.heap.size 53 #[.int .i64 (1 + r), .slice none 0 0, .string ⟨#[]⟩, .string co, .int .i64 0] 1 5 hzz (by decide) rfl, own_next hoR hbX, by omega, hs2.next hbX, grown_trans hG2 (grown_of_below hbX), hlt⟩
  go_upto_block 0 with fail
  go_cut [3] (fun s3 wx => ∃ z : ChG, s3 = .pointer (some ⟨w2.heap.size, 0, none⟩) ∧ shapeB z.x = true ∧ z.x.p = 0 ∧ GrpOwn w wx z ∧ DrawSt w wx lo b (a + 20) w2.heap.size z)
  case first =>
    generalize w2.alloc (.cells #[.int .i64 (1 + r), .slice none 0 0, .string ⟨#[]⟩, .string co, .int .i64 0] 53) = w3 at *
    obtain ⟨c0, c1, c2, c3, c4⟩ := hst.cells
    have fz := hst.box.frozenAt
    have hr8 : r = 0 ∨ r = 1 ∨ r = 2 ∨ r = 3 ∨ r = 4 ∨ r = 5 ∨ r = 6 ∨ r = 7 := by omega
    clear r1 r0 hoR hs2 hbA hbX
    rcases hr8 with rfl | rfl | rfl | rfl | rfl | rfl | rfl | rfl
    · go_wp2_with fail
      go_meet
      exact ⟨⟨⟨1, [], ⟨#[]⟩, co, 0⟩, none, 0⟩, rfl, shape_of Hco.out (by simp [fitsB, isE]), rfl, ⟨rfl, .inl ⟨rfl, rfl⟩⟩, hst.more (by omega)⟩
    · go_wp2_with fail
      refine (pickN_c 4 lo b (a + 4) _ hst.src (by omega) (by omega)).mono ?_
      rintro e w4 ⟨q, rfl, q0, q1, hs4, hg4⟩
      have hst4 := hst.grown hs4 hg4
      have hgr4 : GrpOwn w w4 ⟨⟨2, [], ⟨#[]⟩, co, 0⟩, none, 0⟩ := ⟨rfl, .inl ⟨rfl, rfl⟩⟩
      obtain ⟨kk, rfl⟩ := Int.eq_ofNat_of_zero_le q0
      have hk3 : kk ≤ 3 := by omega
      clear c0 c1 c2 c3 c4 fz q1 q0 hs4 hg4 hst
      go_wp2_with fail
      go_loopw [4] (fun k4 wr => ∃ (m : Nat) (gs : List Int) (A : Option Addr) (c : Nat), k4 = .int .i64 m ∧ (∀ y ∈ gs, 1 ≤ y ∧ y ≤ 3) ∧ gs.length + m ≤ 3 ∧ GrpOwn w wr ⟨⟨2, gs, ⟨#[]⟩, co, 0⟩, A, c⟩ ∧ DrawSt w wr lo b (a + 6 + 2 * gs.length) w2.heap.size ⟨⟨2, gs, ⟨#[]⟩, co, 0⟩, A, c⟩) (fun k4 _ => (intOf k4).toNat)
      case atStart => exact ⟨kk, [], none, 0, rfl, by simp, by simpa using hk3, hgr4, hst4⟩
      case round =>
        clear hgr4 hst4
        obtain ⟨m, gs, A, c, rfl, hgs, hlm, hgr, hst⟩ := hrel
        obtain ⟨c0, c1, c2, c3, c4⟩ := hst.cells
        have fz := hst.box.frozenAt
        dsimp only [ChG.n] at c0 c1 c2 c3 c4
        have Hgs := Lib.hid hgs; clear hgs
        by_cases hlt2 : 1 < m
        · have f63 : gs.length + 1 ≤ maxLen := by unfold maxLen; omega
          have f32 : (gs.length + 1) * 8 ≤ 140737488355328 := by omega
          have F63 := Lib.hid f63; clear f63
          have F32 := Lib.hid f32; clear f32
          have hcc : ∀ wz, DrawSt w wz lo b (a + 6 + 2 * gs.length + 2) w2.heap.size ⟨⟨2, gs, ⟨#[]⟩, co, 0⟩, A, c⟩ → wz.cell? ⟨w2.heap.size, 1, none⟩ = some (.slice A gs.length c) := fun wz h => h.cells.2.1
          have Hcc := Lib.hid hcc; clear hcc
          have hd := hst.next (wy := wr.drew) (Below.refl _ _).drew
          have c1' := Hcc.out _ (hd.more (by omega))
          go_wp2
          refine wp_region_any (by kernel_rfl) (show wpAny _ _ _ _ _ _ _ (World.drew _) from ?_)
          (first
            | (refine wpAny_take (i := 0) (v := ?_) rfl (by kernel_rfl) (by kernel_rfl) (by kernel_rfl) (fun _ _ _ h => h) (Or.inl ⟨by rfl, ?_⟩) ?_
               rotate_left
               focus (intro wq; go_simp; (try (with_reducible rfl)); done))
            | fail "take 0")
          try simp only [Act.put, List.setIfInBounds_toArray, List.set_cons_zero, List.set_cons_succ, List.getElem_toArray, List.getElem_cons_zero]
          (first
            | (refine wpAny_take (i := 2) (v := ?_) rfl (by kernel_rfl) (by kernel_rfl) (by kernel_rfl) (fun _ _ _ h => h) (Or.inl ⟨by rfl, ?_⟩) ?_
               rotate_left
               focus (intro wq; go_simp; (try (with_reducible rfl)); done))
            | fail "take 2")
          try simp only [Act.put, List.setIfInBounds_toArray, List.set_cons_zero, List.set_cons_succ, List.getElem_toArray, List.getElem_cons_zero, List.getElem_cons_succ]
          refine wpAny_ready (rs := [1, 3]) (by kernel_rfl) (by simp) ?_
          refine allReadyS_cons (o := _) rfl (fun K hK => ?_) (allReadyS_cons (o := _) rfl (fun K hK => ?_) AllReady.nil)
          · go_simp
            skip
            refine hK.out _ _ ?_
            clear hK K
            try simp only [Act.put, List.setIfInBounds_toArray, List.set_cons_zero, List.set_cons_succ, List.getElem_toArray, List.getElem_cons_zero, List.getElem_cons_succ]
            refine wpAny_ready (rs := [3]) (by kernel_rfl) (by simp) ?_
            refine allReadyS_cons (o := _) rfl (fun K hK => ?_) AllReady.nil
            go_simp
            refine (pickN_c 3 lo b (a + 6 + 2 * gs.length) _ hd.src (by omega) (by omega)).mono ?_; rintro e w5 ⟨q, rfl, q0, q1, hs5, hg5⟩; have hst5 := hd.grown hs5 hg5; have hgr5 := own_src (own_next hgr (Below.refl _ _).drew) hg5 hlt; have hwq : IntKind.i64.wrap (1 + q) = 1 + q := IntWalk.i64_in _ (by omega)
            refine hK.out _ _ ?_
            clear hK K
            try simp only [Act.put, List.setIfInBounds_toArray, List.set_cons_zero, List.set_cons_succ, List.getElem_toArray, List.getElem_cons_zero, List.getElem_cons_succ]
            (first
              | (refine wpAny_take (i := 4) (v := ?_) rfl (by kernel_rfl) (by kernel_rfl) (by kernel_rfl) (fun _ _ _ h => h) (Or.inl ⟨by rfl, ?_⟩) ?_
                 rotate_left
                 focus (intro wq; go_simp; (try (with_reducible rfl)); done))
              | fail "take 4")
            try simp only [Act.put, List.setIfInBounds_toArray, List.set_cons_zero, List.set_cons_succ, List.getElem_toArray, List.getElem_cons_zero, List.getElem_cons_succ]
            refine wpAny_ready (rs := [5]) (by kernel_rfl) (by simp) ?_
            refine allReadyS_cons (o := _) rfl (fun K hK => ?_) AllReady.nil
            go_simp
            skip
            refine hK.out _ _ ?_
            clear hK K
            try simp only [Act.put, List.setIfInBounds_toArray, List.set_cons_zero, List.set_cons_succ, List.getElem_toArray, List.getElem_cons_zero, List.getElem_cons_succ]
            clear hwq
            have hb5 : Below w5.heap.size w5 (w5.alloc (.cells #[.int .i64 (1 + q)] 2)) := (Below.refl w5.heap.size w5).alloc (Nat.le_refl _) _
            have hz5 : w.heap.size ≤ (w5.alloc (.cells #[.int .i64 (1 + q)] 2)).heap.size := Nat.le_trans hst5.gr.size hb5.size
            refine wpAny_ready (rs := [6]) (by kernel_rfl) (by simp) ?_
            refine allReadyS_cons (o := _) rfl (fun K hK => ?_) AllReady.nil
            refine step_append _ rfl (.tmp 26) (.tmp 30) _ rfl w.heap.size 2 p0 _ 1 8 Tryz.underlying30 hp hy0 hy1 hy2 rfl (by omega) _ gs.length _ rfl (hgr5.alloc _) (w5.heap.size + 1) (some ⟨w5.heap.size, 0, none⟩) 1 1 (intC (1 + q)) rfl (Sl.new w5 2 _ 1 1 rfl) (intC_one _) F63.out F32.out hz5 ?_
            intro v7 w7 ho7 hg7 _
            refine hK.out _ _ ?_
            clear hK K
            try simp only [Act.put, List.setIfInBounds_toArray, List.set_cons_zero, List.set_cons_succ, List.getElem_toArray, List.getElem_cons_zero, List.getElem_cons_succ]
            obtain ⟨A7, c7, rfl⟩ := own_slice ho7
            have hst7 := (hst5.next hb5).app (own_next hgr5 hb5) hg7
            have c7c := hst7.cells.2.1
            have fz7 := hst7.box.frozenAt
            have hst8 := hst7.store (z' := ⟨⟨2, gs ++ [1 + q], ⟨#[]⟩, co, 0⟩, A7, c7⟩) 1 (.slice A7 (gs.length + 1) c7) (by simp [ChG.cells, ChG.n])
            have hgr8 : GrpOwn w (w7.setCell ⟨w2.heap.size, 1, none⟩ (.slice A7 (gs.length + 1) c7)) ⟨⟨2, gs ++ [1 + q], ⟨#[]⟩, co, 0⟩, A7, c7⟩ := grp_store hst7 (by simpa [GrpOwn, ChG.n] using ho7) 1 _
            (first
              | (refine wpAny_take (i := 7) (v := ?_) rfl (by kernel_rfl) (by kernel_rfl) (by kernel_rfl) (fun _ _ _ h => h) (Or.inl ⟨by rfl, ?_⟩) ?_
                 rotate_left
                 focus (intro wq; go_simp; (try (with_reducible rfl)); done))
              | fail "take 7")
            try simp only [Act.put, List.setIfInBounds_toArray, List.set_cons_zero, List.set_cons_succ, List.getElem_toArray, List.getElem_cons_zero, List.getElem_cons_succ]
            refine wpAny_ready (rs := [8]) (by kernel_rfl) (by simp) ?_
            refine allReadyS_cons (o := _) rfl (fun K hK => ?_) AllReady.nil
            go_simp
            skip
            refine hK.out _ _ ?_
            clear hK K
            try simp only [Act.put, List.setIfInBounds_toArray, List.set_cons_zero, List.set_cons_succ, List.getElem_toArray, List.getElem_cons_zero, List.getElem_cons_succ]
            refine wpAny_done (by kernel_rfl) ?_ _
            go_wp2_with fail
            go_roundw
            case rel => exact ⟨m - 1, gs ++ [1 + q], A7, c7, int_eq (by omega), by intro y hy; rcases List.mem_append.1 hy with h1 | h1; exact Hgs.out y h1; simp at h1; omega, by simp; omega, hgr8, hst8.more (by simp; omega)⟩
            case measure => simp [intOf]; omega
          · go_simp
            refine (pickN_c 3 lo b (a + 6 + 2 * gs.length) _ hd.src (by omega) (by omega)).mono ?_; rintro e w5 ⟨q, rfl, q0, q1, hs5, hg5⟩; have hst5 := hd.grown hs5 hg5; have hgr5 := own_src (own_next hgr (Below.refl _ _).drew) hg5 hlt; have hwq : IntKind.i64.wrap (1 + q) = 1 + q := IntWalk.i64_in _ (by omega)
            refine hK.out _ _ ?_
            clear hK K
            try simp only [Act.put, List.setIfInBounds_toArray, List.set_cons_zero, List.set_cons_succ, List.getElem_toArray, List.getElem_cons_zero, List.getElem_cons_succ]
            have c5 := Hcc.out _ hst5
            have c6 := Hcc.out _ (hst5.next (((Below.refl w5.heap.size w5).alloc (Nat.le_refl _) (.cells #[.int .i64 (1 + q)] 2))))
            (first
              | (refine wpAny_take (i := 4) (v := ?_) rfl (by kernel_rfl) (by kernel_rfl) (by kernel_rfl) (fun _ _ _ h => h) (Or.inl ⟨by rfl, ?_⟩) ?_
                 rotate_left
                 focus (intro wq; go_simp; (try (with_reducible rfl)); done))
              | fail "take 4")
            try simp only [Act.put, List.setIfInBounds_toArray, List.set_cons_zero, List.set_cons_succ, List.getElem_toArray, List.getElem_cons_zero, List.getElem_cons_succ]
            refine wpAny_ready (rs := [1, 5]) (by kernel_rfl) (by simp) ?_
            refine allReadyS_cons (o := _) rfl (fun K hK => ?_) (allReadyS_cons (o := _) rfl (fun K hK => ?_) AllReady.nil)
            · go_simp
              skip
              refine hK.out _ _ ?_
              clear hK K
              try simp only [Act.put, List.setIfInBounds_toArray, List.set_cons_zero, List.set_cons_succ, List.getElem_toArray, List.getElem_cons_zero, List.getElem_cons_succ]
              refine wpAny_ready (rs := [5]) (by kernel_rfl) (by simp) ?_
              refine allReadyS_cons (o := _) rfl (fun K hK => ?_) AllReady.nil
              go_simp
              skip
              refine hK.out _ _ ?_
              clear hK K
              try simp only [Act.put, List.setIfInBounds_toArray, List.set_cons_zero, List.set_cons_succ, List.getElem_toArray, List.getElem_cons_zero, List.getElem_cons_succ]
              clear hwq
              have hb5 : Below w5.heap.size w5 (w5.alloc (.cells #[.int .i64 (1 + q)] 2)) := (Below.refl w5.heap.size w5).alloc (Nat.le_refl _) _
              have hz5 : w.heap.size ≤ (w5.alloc (.cells #[.int .i64 (1 + q)] 2)).heap.size := Nat.le_trans hst5.gr.size hb5.size
              refine wpAny_ready (rs := [6]) (by kernel_rfl) (by simp) ?_
              refine allReadyS_cons (o := _) rfl (fun K hK => ?_) AllReady.nil
              refine step_append _ rfl (.tmp 26) (.tmp 30) _ rfl w.heap.size 2 p0 _ 1 8 Tryz.underlying30 hp hy0 hy1 hy2 rfl (by omega) _ gs.length _ rfl (hgr5.alloc _) (w5.heap.size + 1) (some ⟨w5.heap.size, 0, none⟩) 1 1 (intC (1 + q)) rfl (Sl.new w5 2 _ 1 1 rfl) (intC_one _) F63.out F32.out hz5 ?_
              intro v7 w7 ho7 hg7 _
              refine hK.out _ _ ?_
              clear hK K
              try simp only [Act.put, List.setIfInBounds_toArray, List.set_cons_zero, List.set_cons_succ, List.getElem_toArray, List.getElem_cons_zero, List.getElem_cons_succ]
              obtain ⟨A7, c7, rfl⟩ := own_slice ho7
              have hst7 := (hst5.next hb5).app (own_next hgr5 hb5) hg7
              have c7c := hst7.cells.2.1
              have fz7 := hst7.box.frozenAt
              have hst8 := hst7.store (z' := ⟨⟨2, gs ++ [1 + q], ⟨#[]⟩, co, 0⟩, A7, c7⟩) 1 (.slice A7 (gs.length + 1) c7) (by simp [ChG.cells, ChG.n])
              have hgr8 : GrpOwn w (w7.setCell ⟨w2.heap.size, 1, none⟩ (.slice A7 (gs.length + 1) c7)) ⟨⟨2, gs ++ [1 + q], ⟨#[]⟩, co, 0⟩, A7, c7⟩ := grp_store hst7 (by simpa [GrpOwn, ChG.n] using ho7) 1 _
              (first
                | (refine wpAny_take (i := 7) (v := ?_) rfl (by kernel_rfl) (by kernel_rfl) (by kernel_rfl) (fun _ _ _ h => h) (Or.inl ⟨by rfl, ?_⟩) ?_
                   rotate_left
                   focus (intro wq; go_simp; (try (with_reducible rfl)); done))
                | fail "take 7")
              try simp only [Act.put, List.setIfInBounds_toArray, List.set_cons_zero, List.set_cons_succ, List.getElem_toArray, List.getElem_cons_zero, List.getElem_cons_succ]
              refine wpAny_ready (rs := [8]) (by kernel_rfl) (by simp) ?_
              refine allReadyS_cons (o := _) rfl (fun K hK => ?_) AllReady.nil
              go_simp
              skip
              refine hK.out _ _ ?_
              clear hK K
              try simp only [Act.put, List.setIfInBounds_toArray, List.set_cons_zero, List.set_cons_succ, List.getElem_toArray, List.getElem_cons_zero, List.getElem_cons_succ]
              refine wpAny_done (by kernel_rfl) ?_ _
              go_wp2_with fail
              go_roundw
              case rel => exact ⟨m - 1, gs ++ [1 + q], A7, c7, int_eq (by omega), by intro y hy; rcases List.mem_append.1 hy with h1 | h1; exact Hgs.out y h1; simp at h1; omega, by simp; omega, hgr8, hst8.more (by simp; omega)⟩
              case measure => simp [intOf]; omega
            · go_simp
              skip
              refine hK.out _ _ ?_
              clear hK K
              try simp only [Act.put, List.setIfInBounds_toArray, List.set_cons_zero, List.set_cons_succ, List.getElem_toArray, List.getElem_cons_zero, List.getElem_cons_succ]
              refine wpAny_ready (rs := [1]) (by kernel_rfl) (by simp) ?_
              refine allReadyS_cons (o := _) rfl (fun K hK => ?_) AllReady.nil
              go_simp
              skip
              refine hK.out _ _ ?_
              clear hK K
              try simp only [Act.put, List.setIfInBounds_toArray, List.set_cons_zero, List.set_cons_succ, List.getElem_toArray, List.getElem_cons_zero, List.getElem_cons_succ]
              clear hwq
              have hb5 : Below w5.heap.size w5 (w5.alloc (.cells #[.int .i64 (1 + q)] 2)) := (Below.refl w5.heap.size w5).alloc (Nat.le_refl _) _
              have hz5 : w.heap.size ≤ (w5.alloc (.cells #[.int .i64 (1 + q)] 2)).heap.size := Nat.le_trans hst5.gr.size hb5.size
              refine wpAny_ready (rs := [6]) (by kernel_rfl) (by simp) ?_
              refine allReadyS_cons (o := _) rfl (fun K hK => ?_) AllReady.nil
              refine step_append _ rfl (.tmp 26) (.tmp 30) _ rfl w.heap.size 2 p0 _ 1 8 Tryz.underlying30 hp hy0 hy1 hy2 rfl (by omega) _ gs.length _ rfl (hgr5.alloc _) (w5.heap.size + 1) (some ⟨w5.heap.size, 0, none⟩) 1 1 (intC (1 + q)) rfl (Sl.new w5 2 _ 1 1 rfl) (intC_one _) F63.out F32.out hz5 ?_
              intro v7 w7 ho7 hg7 _
              refine hK.out _ _ ?_
              clear hK K
              try simp only [Act.put, List.setIfInBounds_toArray, List.set_cons_zero, List.set_cons_succ, List.getElem_toArray, List.getElem_cons_zero, List.getElem_cons_succ]
              obtain ⟨A7, c7, rfl⟩ := own_slice ho7
              have hst7 := (hst5.next hb5).app (own_next hgr5 hb5) hg7
              have c7c := hst7.cells.2.1
              have fz7 := hst7.box.frozenAt
              have hst8 := hst7.store (z' := ⟨⟨2, gs ++ [1 + q], ⟨#[]⟩, co, 0⟩, A7, c7⟩) 1 (.slice A7 (gs.length + 1) c7) (by simp [ChG.cells, ChG.n])
              have hgr8 : GrpOwn w (w7.setCell ⟨w2.heap.size, 1, none⟩ (.slice A7 (gs.length + 1) c7)) ⟨⟨2, gs ++ [1 + q], ⟨#[]⟩, co, 0⟩, A7, c7⟩ := grp_store hst7 (by simpa [GrpOwn, ChG.n] using ho7) 1 _
              (first
                | (refine wpAny_take (i := 7) (v := ?_) rfl (by kernel_rfl) (by kernel_rfl) (by kernel_rfl) (fun _ _ _ h => h) (Or.inl ⟨by rfl, ?_⟩) ?_
                   rotate_left
                   focus (intro wq; go_simp; (try (with_reducible rfl)); done))
                | fail "take 7")
              try simp only [Act.put, List.setIfInBounds_toArray, List.set_cons_zero, List.set_cons_succ, List.getElem_toArray, List.getElem_cons_zero, List.getElem_cons_succ]
              refine wpAny_ready (rs := [8]) (by kernel_rfl) (by simp) ?_
              refine allReadyS_cons (o := _) rfl (fun K hK => ?_) AllReady.nil
              go_simp
              skip
              refine hK.out _ _ ?_
              clear hK K
              try simp only [Act.put, List.setIfInBounds_toArray, List.set_cons_zero, List.set_cons_succ, List.getElem_toArray, List.getElem_cons_zero, List.getElem_cons_succ]
              refine wpAny_done (by kernel_rfl) ?_ _
              go_wp2_with fail
              go_roundw
              case rel => exact ⟨m - 1, gs ++ [1 + q], A7, c7, int_eq (by omega), by intro y hy; rcases List.mem_append.1 hy with h1 | h1; exact Hgs.out y h1; simp at h1; omega, by simp; omega, hgr8, hst8.more (by simp; omega)⟩
              case measure => simp [intOf]; omega
        · have hg3 : ∀ y ∈ gs, 1 ≤ y ∧ y ≤ 9 := fun y hy => by have := Hgs.out y hy; omega
          cases hgb : groupB gs
          · go_wp2_with fail
            refine (l05Group_c A gs.length c gs _ (Sl.of_own hgr) (by omega)).mono ?_
            rw [hgb]
            rintro e w4 ⟨rfl, rfl⟩
            have hbn : Below wr.heap.size wr (wr.alloc (.cells #[.int .i64 2] 2)) := (Below.refl _ _).alloc (Nat.le_refl _) _
            have hstn := hst.next hbn
            have cn := hstn.cells.2.1
            have fzn := hstn.box.frozenAt
            have hgn : GrpOwn w (wr.alloc (.cells #[.int .i64 2] 2)) ⟨⟨2, [2], ⟨#[]⟩, co, 0⟩, some ⟨wr.heap.size, 0, none⟩, 1⟩ := lit_own wr w.heap.size 2 #[.int .i64 2] 1 1 hst.gr.size (by decide) rfl
            have hsts := hstn.store (z' := ⟨⟨2, [2], ⟨#[]⟩, co, 0⟩, some ⟨wr.heap.size, 0, none⟩, 1⟩) 1 (.slice (some ⟨wr.heap.size, 0, none⟩) 1 1) rfl
            have hgs2 := grp_store hstn hgn 1 (.slice (some ⟨wr.heap.size, 0, none⟩) 1 1)
            have hfit : fitsB ⟨2, [2], ⟨#[]⟩, co, 0⟩ = true := by simp [fitsB, isE]; decide
            have Hfit := Lib.hid hfit; clear hfit
            go_wp2_with fail
            go_meet
            exact ⟨⟨⟨2, [2], ⟨#[]⟩, co, 0⟩, some ⟨wr.heap.size, 0, none⟩, 1⟩, rfl, shape_of Hco.out Hfit.out, rfl, hgs2, hsts.more (by omega)⟩
          · have hfit : fitsB ⟨2, gs, ⟨#[]⟩, co, 0⟩ = true := by simp [fitsB, isE, hgb]
            have Hfit := Lib.hid hfit; clear hfit
            go_wp2_with fail
            refine (l05Group_c A gs.length c gs _ (Sl.of_own hgr) (by omega)).mono ?_
            rw [hgb]
            rintro e w4 ⟨rfl, rfl⟩
            go_wp2_with fail
            go_meet
            exact ⟨⟨⟨2, gs, ⟨#[]⟩, co, 0⟩, A, c⟩, rfl, shape_of Hco.out Hfit.out, rfl, hgr, hst.more (by omega)⟩
    · go_wp2_with fail
      go_meet
      exact ⟨⟨⟨3, [], ⟨#[]⟩, co, 0⟩, none, 0⟩, rfl, shape_of Hco.out (by simp [fitsB, isE]), rfl, ⟨rfl, .inl ⟨rfl, rfl⟩⟩, hst.more (by omega)⟩
    · go_wp2_with fail
      refine (pickN_c 4 lo b (a + 4) _ hst.src (by omega) (by omega)).mono ?_
      rintro e w4 ⟨q, rfl, q0, q1, hs4, hg4⟩
      have hst4 := hst.grown hs4 hg4
      have hgr4 : GrpOwn w w4 ⟨⟨4, [], ⟨#[]⟩, co, 0⟩, none, 0⟩ := ⟨rfl, .inl ⟨rfl, rfl⟩⟩
      obtain ⟨kk, rfl⟩ := Int.eq_ofNat_of_zero_le q0
      have hk3 : kk ≤ 3 := by omega
      clear c0 c1 c2 c3 c4 fz q1 q0 hs4 hg4 hst
      go_wp2_with fail
      go_loopw [4] (fun k4 wr => ∃ (m : Nat) (gs : List Int) (A : Option Addr) (c : Nat), k4 = .int .i64 m ∧ (∀ y ∈ gs, 1 ≤ y ∧ y ≤ 3) ∧ gs.length + m ≤ 3 ∧ GrpOwn w wr ⟨⟨4, gs, ⟨#[]⟩, co, 0⟩, A, c⟩ ∧ DrawSt w wr lo b (a + 6 + 2 * gs.length) w2.heap.size ⟨⟨4, gs, ⟨#[]⟩, co, 0⟩, A, c⟩) (fun k4 _ => (intOf k4).toNat)
      case atStart => exact ⟨kk, [], none, 0, rfl, by simp, by simpa using hk3, hgr4, hst4⟩
      case round =>
        clear hgr4 hst4
        obtain ⟨m, gs, A, c, rfl, hgs, hlm, hgr, hst⟩ := hrel
        obtain ⟨c0, c1, c2, c3, c4⟩ := hst.cells
        have fz := hst.box.frozenAt
        dsimp only [ChG.n] at c0 c1 c2 c3 c4
        have Hgs := Lib.hid hgs; clear hgs
        by_cases hlt2 : 1 < m
        · have f63 : gs.length + 1 ≤ maxLen := by unfold maxLen; omega
          have f32 : (gs.length + 1) * 8 ≤ 140737488355328 := by omega
          have F63 := Lib.hid f63; clear f63
          have F32 := Lib.hid f32; clear f32
          have hcc : ∀ wz, DrawSt w wz lo b (a + 6 + 2 * gs.length + 2) w2.heap.size ⟨⟨4, gs, ⟨#[]⟩, co, 0⟩, A, c⟩ → wz.cell? ⟨w2.heap.size, 1, none⟩ = some (.slice A gs.length c) := fun wz h => h.cells.2.1
          have Hcc := Lib.hid hcc; clear hcc
          have hd := hst.next (wy := wr.drew) (Below.refl _ _).drew
          have c1' := Hcc.out _ (hd.more (by omega))
          go_wp2
          refine wp_region_any (by kernel_rfl) (show wpAny _ _ _ _ _ _ _ (World.drew _) from ?_)
          (first
            | (refine wpAny_take (i := 0) (v := ?_) rfl (by kernel_rfl) (by kernel_rfl) (by kernel_rfl) (fun _ _ _ h => h) (Or.inl ⟨by rfl, ?_⟩) ?_
               rotate_left
               focus (intro wq; go_simp; (try (with_reducible rfl)); done))
            | fail "take 0")
          try simp only [Act.put, List.setIfInBounds_toArray, List.set_cons_zero, List.set_cons_succ, List.getElem_toArray, List.getElem_cons_zero]
          (first
            | (refine wpAny_take (i := 2) (v := ?_) rfl (by kernel_rfl) (by kernel_rfl) (by kernel_rfl) (fun _ _ _ h => h) (Or.inl ⟨by rfl, ?_⟩) ?_
               rotate_left
               focus (intro wq; go_simp; (try (with_reducible rfl)); done))
            | fail "take 2")
          try simp only [Act.put, List.setIfInBounds_toArray, List.set_cons_zero, List.set_cons_succ, List.getElem_toArray, List.getElem_cons_zero, List.getElem_cons_succ]
          refine wpAny_ready (rs := [1, 3]) (by kernel_rfl) (by simp) ?_
          refine allReadyS_cons (o := _) rfl (fun K hK => ?_) (allReadyS_cons (o := _) rfl (fun K hK => ?_) AllReady.nil)
          · go_simp
            skip
            refine hK.out _ _ ?_
            clear hK K
            try simp only [Act.put, List.setIfInBounds_toArray, List.set_cons_zero, List.set_cons_succ, List.getElem_toArray, List.getElem_cons_zero, List.getElem_cons_succ]
            refine wpAny_ready (rs := [3]) (by kernel_rfl) (by simp) ?_
            refine allReadyS_cons (o := _) rfl (fun K hK => ?_) AllReady.nil
            go_simp
            refine (pickN_c 3 lo b (a + 6 + 2 * gs.length) _ hd.src (by omega) (by omega)).mono ?_; rintro e w5 ⟨q, rfl, q0, q1, hs5, hg5⟩; have hst5 := hd.grown hs5 hg5; have hgr5 := own_src (own_next hgr (Below.refl _ _).drew) hg5 hlt; have hwq : IntKind.i64.wrap (1 + q) = 1 + q := IntWalk.i64_in _ (by omega)
            refine hK.out _ _ ?_
            clear hK K
            try simp only [Act.put, List.setIfInBounds_toArray, List.set_cons_zero, List.set_cons_succ, List.getElem_toArray, List.getElem_cons_zero, List.getElem_cons_succ]
            (first
              | (refine wpAny_take (i := 4) (v := ?_) rfl (by kernel_rfl) (by kernel_rfl) (by kernel_rfl) (fun _ _ _ h => h) (Or.inl ⟨by rfl, ?_⟩) ?_
                 rotate_left
                 focus (intro wq; go_simp; (try (with_reducible rfl)); done))
              | fail "take 4")
            try simp only [Act.put, List.setIfInBounds_toArray, List.set_cons_zero, List.set_cons_succ, List.getElem_toArray, List.getElem_cons_zero, List.getElem_cons_succ]
            refine wpAny_ready (rs := [5]) (by kernel_rfl) (by simp) ?_
            refine allReadyS_cons (o := _) rfl (fun K hK => ?_) AllReady.nil
            go_simp
            skip
            refine hK.out _ _ ?_
            clear hK K
            try simp only [Act.put, List.setIfInBounds_toArray, List.set_cons_zero, List.set_cons_succ, List.getElem_toArray, List.getElem_cons_zero, List.getElem_cons_succ]
            clear hwq
            have hb5 : Below w5.heap.size w5 (w5.alloc (.cells #[.int .i64 (1 + q)] 2)) := (Below.refl w5.heap.size w5).alloc (Nat.le_refl _) _
            have hz5 : w.heap.size ≤ (w5.alloc (.cells #[.int .i64 (1 + q)] 2)).heap.size := Nat.le_trans hst5.gr.size hb5.size
            refine wpAny_ready (rs := [6]) (by kernel_rfl) (by simp) ?_
            refine allReadyS_cons (o := _) rfl (fun K hK => ?_) AllReady.nil
            refine step_append _ rfl (.tmp 26) (.tmp 30) _ rfl w.heap.size 2 p0 _ 1 8 Tryz.underlying30 hp hy0 hy1 hy2 rfl (by omega) _ gs.length _ rfl (hgr5.alloc _) (w5.heap.size + 1) (some ⟨w5.heap.size, 0, none⟩) 1 1 (intC (1 + q)) rfl (Sl.new w5 2 _ 1 1 rfl) (intC_one _) F63.out F32.out hz5 ?_
            intro v7 w7 ho7 hg7 _
            refine hK.out _ _ ?_
            clear hK K
            try simp only [Act.put, List.setIfInBounds_toArray, List.set_cons_zero, List.set_cons_succ, List.getElem_toArray, List.getElem_cons_zero, List.getElem_cons_succ]
            obtain ⟨A7, c7, rfl⟩ := own_slice ho7
            have hst7 := (hst5.next hb5).app (own_next hgr5 hb5) hg7
            have c7c := hst7.cells.2.1
            have fz7 := hst7.box.frozenAt
            have hst8 := hst7.store (z' := ⟨⟨4, gs ++ [1 + q], ⟨#[]⟩, co, 0⟩, A7, c7⟩) 1 (.slice A7 (gs.length + 1) c7) (by simp [ChG.cells, ChG.n])
            have hgr8 : GrpOwn w (w7.setCell ⟨w2.heap.size, 1, none⟩ (.slice A7 (gs.length + 1) c7)) ⟨⟨4, gs ++ [1 + q], ⟨#[]⟩, co, 0⟩, A7, c7⟩ := grp_store hst7 (by simpa [GrpOwn, ChG.n] using ho7) 1 _
            (first
              | (refine wpAny_take (i := 7) (v := ?_) rfl (by kernel_rfl) (by kernel_rfl) (by kernel_rfl) (fun _ _ _ h => h) (Or.inl ⟨by rfl, ?_⟩) ?_
                 rotate_left
                 focus (intro wq; go_simp; (try (with_reducible rfl)); done))
              | fail "take 7")
            try simp only [Act.put, List.setIfInBounds_toArray, List.set_cons_zero, List.set_cons_succ, List.getElem_toArray, List.getElem_cons_zero, List.getElem_cons_succ]
            refine wpAny_ready (rs := [8]) (by kernel_rfl) (by simp) ?_
            refine allReadyS_cons (o := _) rfl (fun K hK => ?_) AllReady.nil
            go_simp
            skip
            refine hK.out _ _ ?_
            clear hK K
            try simp only [Act.put, List.setIfInBounds_toArray, List.set_cons_zero, List.set_cons_succ, List.getElem_toArray, List.getElem_cons_zero, List.getElem_cons_succ]
            refine wpAny_done (by kernel_rfl) ?_ _
            go_wp2_with fail
            go_roundw
            case rel => exact ⟨m - 1, gs ++ [1 + q], A7, c7, int_eq (by omega), by intro y hy; rcases List.mem_append.1 hy with h1 | h1; exact Hgs.out y h1; simp at h1; omega, by simp; omega, hgr8, hst8.more (by simp; omega)⟩
            case measure => simp [intOf]; omega
          · go_simp
            refine (pickN_c 3 lo b (a + 6 + 2 * gs.length) _ hd.src (by omega) (by omega)).mono ?_; rintro e w5 ⟨q, rfl, q0, q1, hs5, hg5⟩; have hst5 := hd.grown hs5 hg5; have hgr5 := own_src (own_next hgr (Below.refl _ _).drew) hg5 hlt; have hwq : IntKind.i64.wrap (1 + q) = 1 + q := IntWalk.i64_in _ (by omega)
            refine hK.out _ _ ?_
            clear hK K
            try simp only [Act.put, List.setIfInBounds_toArray, List.set_cons_zero, List.set_cons_succ, List.getElem_toArray, List.getElem_cons_zero, List.getElem_cons_succ]
            have c5 := Hcc.out _ hst5
            have c6 := Hcc.out _ (hst5.next (((Below.refl w5.heap.size w5).alloc (Nat.le_refl _) (.cells #[.int .i64 (1 + q)] 2))))
            (first
              | (refine wpAny_take (i := 4) (v := ?_) rfl (by kernel_rfl) (by kernel_rfl) (by kernel_rfl) (fun _ _ _ h => h) (Or.inl ⟨by rfl, ?_⟩) ?_
                 rotate_left
                 focus (intro wq; go_simp; (try (with_reducible rfl)); done))
              | fail "take 4")
            try simp only [Act.put, List.setIfInBounds_toArray, List.set_cons_zero, List.set_cons_succ, List.getElem_toArray, List.getElem_cons_zero, List.getElem_cons_succ]
            refine wpAny_ready (rs := [1, 5]) (by kernel_rfl) (by simp) ?_
            refine allReadyS_cons (o := _) rfl (fun K hK => ?_) (allReadyS_cons (o := _) rfl (fun K hK => ?_) AllReady.nil)
            · go_simp
              skip
              refine hK.out _ _ ?_
              clear hK K
              try simp only [Act.put, List.setIfInBounds_toArray, List.set_cons_zero, List.set_cons_succ, List.getElem_toArray, List.getElem_cons_zero, List.getElem_cons_succ]
              refine wpAny_ready (rs := [5]) (by kernel_rfl) (by simp) ?_
              refine allReadyS_cons (o := _) rfl (fun K hK => ?_) AllReady.nil
              go_simp
              skip
              refine hK.out _ _ ?_
              clear hK K
              try simp only [Act.put, List.setIfInBounds_toArray, List.set_cons_zero, List.set_cons_succ, List.getElem_toArray, List.getElem_cons_zero, List.getElem_cons_succ]
              clear hwq
              have hb5 : Below w5.heap.size w5 (w5.alloc (.cells #[.int .i64 (1 + q)] 2)) := (Below.refl w5.heap.size w5).alloc (Nat.le_refl _) _
              have hz5 : w.heap.size ≤ (w5.alloc (.cells #[.int .i64 (1 + q)] 2)).heap.size := Nat.le_trans hst5.gr.size hb5.size
              refine wpAny_ready (rs := [6]) (by kernel_rfl) (by simp) ?_
              refine allReadyS_cons (o := _) rfl (fun K hK => ?_) AllReady.nil
              refine step_append _ rfl (.tmp 26) (.tmp 30) _ rfl w.heap.size 2 p0 _ 1 8 Tryz.underlying30 hp hy0 hy1 hy2 rfl (by omega) _ gs.length _ rfl (hgr5.alloc _) (w5.heap.size + 1) (some ⟨w5.heap.size, 0, none⟩) 1 1 (intC (1 + q)) rfl (Sl.new w5 2 _ 1 1 rfl) (intC_one _) F63.out F32.out hz5 ?_
              intro v7 w7 ho7 hg7 _
              refine hK.out _ _ ?_
              clear hK K
              try simp only [Act.put, List.setIfInBounds_toArray, List.set_cons_zero, List.set_cons_succ, List.getElem_toArray, List.getElem_cons_zero, List.getElem_cons_succ]
              obtain ⟨A7, c7, rfl⟩ := own_slice ho7
              have hst7 := (hst5.next hb5).app (own_next hgr5 hb5) hg7
              have c7c := hst7.cells.2.1
              have fz7 := hst7.box.frozenAt
              have hst8 := hst7.store (z' := ⟨⟨4, gs ++ [1 + q], ⟨#[]⟩, co, 0⟩, A7, c7⟩) 1 (.slice A7 (gs.length + 1) c7) (by simp [ChG.cells, ChG.n])
              have hgr8 : GrpOwn w (w7.setCell ⟨w2.heap.size, 1, none⟩ (.slice A7 (gs.length + 1) c7)) ⟨⟨4, gs ++ [1 + q], ⟨#[]⟩, co, 0⟩, A7, c7⟩ := grp_store hst7 (by simpa [GrpOwn, ChG.n] using ho7) 1 _
              (first
                | (refine wpAny_take (i := 7) (v := ?_) rfl (by kernel_rfl) (by kernel_rfl) (by kernel_rfl) (fun _ _ _ h => h) (Or.inl ⟨by rfl, ?_⟩) ?_
                   rotate_left
                   focus (intro wq; go_simp; (try (with_reducible rfl)); done))
                | fail "take 7")
              try simp only [Act.put, List.setIfInBounds_toArray, List.set_cons_zero, List.set_cons_succ, List.getElem_toArray, List.getElem_cons_zero, List.getElem_cons_succ]
              refine wpAny_ready (rs := [8]) (by kernel_rfl) (by simp) ?_
              refine allReadyS_cons (o := _) rfl (fun K hK => ?_) AllReady.nil
              go_simp
              skip
              refine hK.out _ _ ?_
              clear hK K
              try simp only [Act.put, List.setIfInBounds_toArray, List.set_cons_zero, List.set_cons_succ, List.getElem_toArray, List.getElem_cons_zero, List.getElem_cons_succ]
              refine wpAny_done (by kernel_rfl) ?_ _
              go_wp2_with fail
              go_roundw
              case rel => exact ⟨m - 1, gs ++ [1 + q], A7, c7, int_eq (by omega), by intro y hy; rcases List.mem_append.1 hy with h1 | h1; exact Hgs.out y h1; simp at h1; omega, by simp; omega, hgr8, hst8.more (by simp; omega)⟩
              case measure => simp [intOf]; omega
            · go_simp
              skip
              refine hK.out _ _ ?_
              clear hK K
              try simp only [Act.put, List.setIfInBounds_toArray, List.set_cons_zero, List.set_cons_succ, List.getElem_toArray, List.getElem_cons_zero, List.getElem_cons_succ]
              refine wpAny_ready (rs := [1]) (by kernel_rfl) (by simp) ?_
              refine allReadyS_cons (o := _) rfl (fun K hK => ?_) AllReady.nil
              go_simp
              skip
              refine hK.out _ _ ?_
              clear hK K
              try simp only [Act.put, List.setIfInBounds_toArray, List.set_cons_zero, List.set_cons_succ, List.getElem_toArray, List.getElem_cons_zero, List.getElem_cons_succ]
              clear hwq
              have hb5 : Below w5.heap.size w5 (w5.alloc (.cells #[.int .i64 (1 + q)] 2)) := (Below.refl w5.heap.size w5).alloc (Nat.le_refl _) _
              have hz5 : w.heap.size ≤ (w5.alloc (.cells #[.int .i64 (1 + q)] 2)).heap.size := Nat.le_trans hst5.gr.size hb5.size
              refine wpAny_ready (rs := [6]) (by kernel_rfl) (by simp) ?_
              refine allReadyS_cons (o := _) rfl (fun K hK => ?_) AllReady.nil
              refine step_append _ rfl (.tmp 26) (.tmp 30) _ rfl w.heap.size 2 p0 _ 1 8 Tryz.underlying30 hp hy0 hy1 hy2 rfl (by omega) _ gs.length _ rfl (hgr5.alloc _) (w5.heap.size + 1) (some ⟨w5.heap.size, 0, none⟩) 1 1 (intC (1 + q)) rfl (Sl.new w5 2 _ 1 1 rfl) (intC_one _) F63.out F32.out hz5 ?_
              intro v7 w7 ho7 hg7 _
              refine hK.out _ _ ?_
              clear hK K
              try simp only [Act.put, List.setIfInBounds_toArray, List.set_cons_zero, List.set_cons_succ, List.getElem_toArray, List.getElem_cons_zero, List.getElem_cons_succ]
              obtain ⟨A7, c7, rfl⟩ := own_slice ho7
              have hst7 := (hst5.next hb5).app (own_next hgr5 hb5) hg7
              have c7c := hst7.cells.2.1
              have fz7 := hst7.box.frozenAt
              have hst8 := hst7.store (z' := ⟨⟨4, gs ++ [1 + q], ⟨#[]⟩, co, 0⟩, A7, c7⟩) 1 (.slice A7 (gs.length + 1) c7) (by simp [ChG.cells, ChG.n])
              have hgr8 : GrpOwn w (w7.setCell ⟨w2.heap.size, 1, none⟩ (.slice A7 (gs.length + 1) c7)) ⟨⟨4, gs ++ [1 + q], ⟨#[]⟩, co, 0⟩, A7, c7⟩ := grp_store hst7 (by simpa [GrpOwn, ChG.n] using ho7) 1 _
              (first
                | (refine wpAny_take (i := 7) (v := ?_) rfl (by kernel_rfl) (by kernel_rfl) (by kernel_rfl) (fun _ _ _ h => h) (Or.inl ⟨by rfl, ?_⟩) ?_
                   rotate_left
                   focus (intro wq; go_simp; (try (with_reducible rfl)); done))
                | fail "take 7")
              try simp only [Act.put, List.setIfInBounds_toArray, List.set_cons_zero, List.set_cons_succ, List.getElem_toArray, List.getElem_cons_zero, List.getElem_cons_succ]
              refine wpAny_ready (rs := [8]) (by kernel_rfl) (by simp) ?_
              refine allReadyS_cons (o := _) rfl (fun K hK => ?_) AllReady.nil
              go_simp
              skip
              refine hK.out _ _ ?_
              clear hK K
              try simp only [Act.put, List.setIfInBounds_toArray, List.set_cons_zero, List.set_cons_succ, List.getElem_toArray, List.getElem_cons_zero, List.getElem_cons_succ]
              refine wpAny_done (by kernel_rfl) ?_ _
              go_wp2_with fail
              go_roundw
              case rel => exact ⟨m - 1, gs ++ [1 + q], A7, c7, int_eq (by omega), by intro y hy; rcases List.mem_append.1 hy with h1 | h1; exact Hgs.out y h1; simp at h1; omega, by simp; omega, hgr8, hst8.more (by simp; omega)⟩
              case measure => simp [intOf]; omega
        · have hg3 : ∀ y ∈ gs, 1 ≤ y ∧ y ≤ 9 := fun y hy => by have := Hgs.out y hy; omega
          cases hgb : groupB gs
          · go_wp2_with fail
            refine (l05Group_c A gs.length c gs _ (Sl.of_own hgr) (by omega)).mono ?_
            rw [hgb]
            rintro e w4 ⟨rfl, rfl⟩
            have hbn : Below wr.heap.size wr (wr.alloc (.cells #[.int .i64 2] 2)) := (Below.refl _ _).alloc (Nat.le_refl _) _
            have hstn := hst.next hbn
            have cn := hstn.cells.2.1
            have fzn := hstn.box.frozenAt
            have hgn : GrpOwn w (wr.alloc (.cells #[.int .i64 2] 2)) ⟨⟨4, [2], ⟨#[]⟩, co, 0⟩, some ⟨wr.heap.size, 0, none⟩, 1⟩ := lit_own wr w.heap.size 2 #[.int .i64 2] 1 1 hst.gr.size (by decide) rfl
            have hsts := hstn.store (z' := ⟨⟨4, [2], ⟨#[]⟩, co, 0⟩, some ⟨wr.heap.size, 0, none⟩, 1⟩) 1 (.slice (some ⟨wr.heap.size, 0, none⟩) 1 1) rfl
            have hgs2 := grp_store hstn hgn 1 (.slice (some ⟨wr.heap.size, 0, none⟩) 1 1)
            have hfit : fitsB ⟨4, [2], ⟨#[]⟩, co, 0⟩ = true := by simp [fitsB, isE]; decide
            have Hfit := Lib.hid hfit; clear hfit
            go_wp2_with fail
            go_meet
            exact ⟨⟨⟨4, [2], ⟨#[]⟩, co, 0⟩, some ⟨wr.heap.size, 0, none⟩, 1⟩, rfl, shape_of Hco.out Hfit.out, rfl, hgs2, hsts.more (by omega)⟩
          · have hfit : fitsB ⟨4, gs, ⟨#[]⟩, co, 0⟩ = true := by simp [fitsB, isE, hgb]
            have Hfit := Lib.hid hfit; clear hfit
            go_wp2_with fail
            refine (l05Group_c A gs.length c gs _ (Sl.of_own hgr) (by omega)).mono ?_
            rw [hgb]
            rintro e w4 ⟨rfl, rfl⟩
            go_wp2_with fail
            go_meet
            exact ⟨⟨⟨4, gs, ⟨#[]⟩, co, 0⟩, A, c⟩, rfl, shape_of Hco.out Hfit.out, rfl, hgr, hst.more (by omega)⟩
    · go_wp2_with fail
      refine (pickN_c 4 lo b (a + 4) _ hst.src (by omega) (by omega)).mono ?_
      rintro e w4 ⟨q, rfl, q0, q1, hs4, hg4⟩
      have hst4 := hst.grown hs4 hg4
      have hgr4 : GrpOwn w w4 ⟨⟨5, [], ⟨#[]⟩, co, 0⟩, none, 0⟩ := ⟨rfl, .inl ⟨rfl, rfl⟩⟩
      obtain ⟨kk, rfl⟩ := Int.eq_ofNat_of_zero_le q0
      have hk3 : kk ≤ 3 := by omega
      clear c0 c1 c2 c3 c4 fz q1 q0 hs4 hg4 hst
      go_wp2_with fail
      go_loopw [4] (fun k4 wr => ∃ (m : Nat) (gs : List Int) (A : Option Addr) (c : Nat), k4 = .int .i64 m ∧ (∀ y ∈ gs, 1 ≤ y ∧ y ≤ 3) ∧ gs.length + m ≤ 3 ∧ GrpOwn w wr ⟨⟨5, gs, ⟨#[]⟩, co, 0⟩, A, c⟩ ∧ DrawSt w wr lo b (a + 6 + 2 * gs.length) w2.heap.size ⟨⟨5, gs, ⟨#[]⟩, co, 0⟩, A, c⟩) (fun k4 _ => (intOf k4).toNat)
      case atStart => exact ⟨kk, [], none, 0, rfl, by simp, by simpa using hk3, hgr4, hst4⟩
      case round =>
        clear hgr4 hst4
        obtain ⟨m, gs, A, c, rfl, hgs, hlm, hgr, hst⟩ := hrel
        obtain ⟨c0, c1, c2, c3, c4⟩ := hst.cells
        have fz := hst.box.frozenAt
        dsimp only [ChG.n] at c0 c1 c2 c3 c4
        have Hgs := Lib.hid hgs; clear hgs
        by_cases hlt2 : 1 < m
        · have f63 : gs.length + 1 ≤ maxLen := by unfold maxLen; omega
          have f32 : (gs.length + 1) * 8 ≤ 140737488355328 := by omega
          have F63 := Lib.hid f63; clear f63
          have F32 := Lib.hid f32; clear f32
          have hcc : ∀ wz, DrawSt w wz lo b (a + 6 + 2 * gs.length + 2) w2.heap.size ⟨⟨5, gs, ⟨#[]⟩, co, 0⟩, A, c⟩ → wz.cell? ⟨w2.heap.size, 1, none⟩ = some (.slice A gs.length c) := fun wz h => h.cells.2.1
          have Hcc := Lib.hid hcc; clear hcc
          have hd := hst.next (wy := wr.drew) (Below.refl _ _).drew
          have c1' := Hcc.out _ (hd.more (by omega))
          go_wp2
          refine wp_region_any (by kernel_rfl) (show wpAny _ _ _ _ _ _ _ (World.drew _) from ?_)
          (first
            | (refine wpAny_take (i := 0) (v := ?_) rfl (by kernel_rfl) (by kernel_rfl) (by kernel_rfl) (fun _ _ _ h => h) (Or.inl ⟨by rfl, ?_⟩) ?_
               rotate_left
               focus (intro wq; go_simp; (try (with_reducible rfl)); done))
            | fail "take 0")
          try simp only [Act.put, List.setIfInBounds_toArray, List.set_cons_zero, List.set_cons_succ, List.getElem_toArray, List.getElem_cons_zero]
          (first
            | (refine wpAny_take (i := 2) (v := ?_) rfl (by kernel_rfl) (by kernel_rfl) (by kernel_rfl) (fun _ _ _ h => h) (Or.inl ⟨by rfl, ?_⟩) ?_
               rotate_left
               focus (intro wq; go_simp; (try (with_reducible rfl)); done))
            | fail "take 2")
          try simp only [Act.put, List.setIfInBounds_toArray, List.set_cons_zero, List.set_cons_succ, List.getElem_toArray, List.getElem_cons_zero, List.getElem_cons_succ]
          refine wpAny_ready (rs := [1, 3]) (by kernel_rfl) (by simp) ?_
          refine allReadyS_cons (o := _) rfl (fun K hK => ?_) (allReadyS_cons (o := _) rfl (fun K hK => ?_) AllReady.nil)
          · go_simp
            skip
            refine hK.out _ _ ?_
            clear hK K
            try simp only [Act.put, List.setIfInBounds_toArray, List.set_cons_zero, List.set_cons_succ, List.getElem_toArray, List.getElem_cons_zero, List.getElem_cons_succ]
            refine wpAny_ready (rs := [3]) (by kernel_rfl) (by simp) ?_
            refine allReadyS_cons (o := _) rfl (fun K hK => ?_) AllReady.nil
            go_simp
            refine (pickN_c 3 lo b (a + 6 + 2 * gs.length) _ hd.src (by omega) (by omega)).mono ?_; rintro e w5 ⟨q, rfl, q0, q1, hs5, hg5⟩; have hst5 := hd.grown hs5 hg5; have hgr5 := own_src (own_next hgr (Below.refl _ _).drew) hg5 hlt; have hwq : IntKind.i64.wrap (1 + q) = 1 + q := IntWalk.i64_in _ (by omega)
            refine hK.out _ _ ?_
            clear hK K
            try simp only [Act.put, List.setIfInBounds_toArray, List.set_cons_zero, List.set_cons_succ, List.getElem_toArray, List.getElem_cons_zero, List.getElem_cons_succ]
            (first
              | (refine wpAny_take (i := 4) (v := ?_) rfl (by kernel_rfl) (by kernel_rfl) (by kernel_rfl) (fun _ _ _ h => h) (Or.inl ⟨by rfl, ?_⟩) ?_
                 rotate_left
                 focus (intro wq; go_simp; (try (with_reducible rfl)); done))
              | fail "take 4")
            try simp only [Act.put, List.setIfInBounds_toArray, List.set_cons_zero, List.set_cons_succ, List.getElem_toArray, List.getElem_cons_zero, List.getElem_cons_succ]
            refine wpAny_ready (rs := [5]) (by kernel_rfl) (by simp) ?_
            refine allReadyS_cons (o := _) rfl (fun K hK => ?_) AllReady.nil
            go_simp
            skip
            refine hK.out _ _ ?_
            clear hK K
            try simp only [Act.put, List.setIfInBounds_toArray, List.set_cons_zero, List.set_cons_succ, List.getElem_toArray, List.getElem_cons_zero, List.getElem_cons_succ]
            clear hwq
            have hb5 : Below w5.heap.size w5 (w5.alloc (.cells #[.int .i64 (1 + q)] 2)) := (Below.refl w5.heap.size w5).alloc (Nat.le_refl _) _
            have hz5 : w.heap.size ≤ (w5.alloc (.cells #[.int .i64 (1 + q)] 2)).heap.size := Nat.le_trans hst5.gr.size hb5.size
            refine wpAny_ready (rs := [6]) (by kernel_rfl) (by simp) ?_
            refine allReadyS_cons (o := _) rfl (fun K hK => ?_) AllReady.nil
            refine step_append _ rfl (.tmp 26) (.tmp 30) _ rfl w.heap.size 2 p0 _ 1 8 Tryz.underlying30 hp hy0 hy1 hy2 rfl (by omega) _ gs.length _ rfl (hgr5.alloc _) (w5.heap.size + 1) (some ⟨w5.heap.size, 0, none⟩) 1 1 (intC (1 + q)) rfl (Sl.new w5 2 _ 1 1 rfl) (intC_one _) F63.out F32.out hz5 ?_
            intro v7 w7 ho7 hg7 _
            refine hK.out _ _ ?_
            clear hK K
            try simp only [Act.put, List.setIfInBounds_toArray, List.set_cons_zero, List.set_cons_succ, List.getElem_toArray, List.getElem_cons_zero, List.getElem_cons_succ]
            obtain ⟨A7, c7, rfl⟩ := own_slice ho7
            have hst7 := (hst5.next hb5).app (own_next hgr5 hb5) hg7
            have c7c := hst7.cells.2.1
            have fz7 := hst7.box.frozenAt
            have hst8 := hst7.store (z' := ⟨⟨5, gs ++ [1 + q], ⟨#[]⟩, co, 0⟩, A7, c7⟩) 1 (.slice A7 (gs.length + 1) c7) (by simp [ChG.cells, ChG.n])
            have hgr8 : GrpOwn w (w7.setCell ⟨w2.heap.size, 1, none⟩ (.slice A7 (gs.length + 1) c7)) ⟨⟨5, gs ++ [1 + q], ⟨#[]⟩, co, 0⟩, A7, c7⟩ := grp_store hst7 (by simpa [GrpOwn, ChG.n] using ho7) 1 _
            (first
              | (refine wpAny_take (i := 7) (v := ?_) rfl (by kernel_rfl) (by kernel_rfl) (by kernel_rfl) (fun _ _ _ h => h) (Or.inl ⟨by rfl, ?_⟩) ?_
                 rotate_left
                 focus (intro wq; go_simp; (try (with_reducible rfl)); done))
              | fail "take 7")
            try simp only [Act.put, List.setIfInBounds_toArray, List.set_cons_zero, List.set_cons_succ, List.getElem_toArray, List.getElem_cons_zero, List.getElem_cons_succ]
            refine wpAny_ready (rs := [8]) (by kernel_rfl) (by simp) ?_
            refine allReadyS_cons (o := _) rfl (fun K hK => ?_) AllReady.nil
            go_simp
            skip
            refine hK.out _ _ ?_
            clear hK K
            try simp only [Act.put, List.setIfInBounds_toArray, List.set_cons_zero, List.set_cons_succ, List.getElem_toArray, List.getElem_cons_zero, List.getElem_cons_succ]
            refine wpAny_done (by kernel_rfl) ?_ _
            go_wp2_with fail
            go_roundw
            case rel => exact ⟨m - 1, gs ++ [1 + q], A7, c7, int_eq (by omega), by intro y hy; rcases List.mem_append.1 hy with h1 | h1; exact Hgs.out y h1; simp at h1; omega, by simp; omega, hgr8, hst8.more (by simp; omega)⟩
            case measure => simp [intOf]; omega
          · go_simp
            refine (pickN_c 3 lo b (a + 6 + 2 * gs.length) _ hd.src (by omega) (by omega)).mono ?_; rintro e w5 ⟨q, rfl, q0, q1, hs5, hg5⟩; have hst5 := hd.grown hs5 hg5; have hgr5 := own_src (own_next hgr (Below.refl _ _).drew) hg5 hlt; have hwq : IntKind.i64.wrap (1 + q) = 1 + q := IntWalk.i64_in _ (by omega)
            refine hK.out _ _ ?_
            clear hK K
            try simp only [Act.put, List.setIfInBounds_toArray, List.set_cons_zero, List.set_cons_succ, List.getElem_toArray, List.getElem_cons_zero, List.getElem_cons_succ]
            have c5 := Hcc.out _ hst5
            have c6 := Hcc.out _ (hst5.next (((Below.refl w5.heap.size w5).alloc (Nat.le_refl _) (.cells #[.int .i64 (1 + q)] 2))))
            (first
              | (refine wpAny_take (i := 4) (v := ?_) rfl (by kernel_rfl) (by kernel_rfl) (by kernel_rfl) (fun _ _ _ h => h) (Or.inl ⟨by rfl, ?_⟩) ?_
                 rotate_left
                 focus (intro wq; go_simp; (try (with_reducible rfl)); done))
              | fail "take 4")
            try simp only [Act.put, List.setIfInBounds_toArray, List.set_cons_zero, List.set_cons_succ, List.getElem_toArray, List.getElem_cons_zero, List.getElem_cons_succ]
            refine wpAny_ready (rs := [1, 5]) (by kernel_rfl) (by simp) ?_
            refine allReadyS_cons (o := _) rfl (fun K hK => ?_) (allReadyS_cons (o := _) rfl (fun K hK => ?_) AllReady.nil)
            · go_simp
              skip
              refine hK.out _ _ ?_
              clear hK K
              try simp only [Act.put, List.setIfInBounds_toArray, List.set_cons_zero, List.set_cons_succ, List.getElem_toArray, List.getElem_cons_zero, List.getElem_cons_succ]
              refine wpAny_ready (rs := [5]) (by kernel_rfl) (by simp) ?_
              refine allReadyS_cons (o := _) rfl (fun K hK => ?_) AllReady.nil
              go_simp
              skip
              refine hK.out _ _ ?_
              clear hK K
              try simp only [Act.put, List.setIfInBounds_toArray, List.set_cons_zero, List.set_cons_succ, List.getElem_toArray, List.getElem_cons_zero, List.getElem_cons_succ]
              clear hwq
              have hb5 : Below w5.heap.size w5 (w5.alloc (.cells #[.int .i64 (1 + q)] 2)) := (Below.refl w5.heap.size w5).alloc (Nat.le_refl _) _
              have hz5 : w.heap.size ≤ (w5.alloc (.cells #[.int .i64 (1 + q)] 2)).heap.size := Nat.le_trans hst5.gr.size hb5.size
              refine wpAny_ready (rs := [6]) (by kernel_rfl) (by simp) ?_
              refine allReadyS_cons (o := _) rfl (fun K hK => ?_) AllReady.nil
              refine step_append _ rfl (.tmp 26) (.tmp 30) _ rfl w.heap.size 2 p0 _ 1 8 Tryz.underlying30 hp hy0 hy1 hy2 rfl (by omega) _ gs.length _ rfl (hgr5.alloc _) (w5.heap.size + 1) (some ⟨w5.heap.size, 0, none⟩) 1 1 (intC (1 + q)) rfl (Sl.new w5 2 _ 1 1 rfl) (intC_one _) F63.out F32.out hz5 ?_
              intro v7 w7 ho7 hg7 _
              refine hK.out _ _ ?_
              clear hK K
              try simp only [Act.put, List.setIfInBounds_toArray, List.set_cons_zero, List.set_cons_succ, List.getElem_toArray, List.getElem_cons_zero, List.getElem_cons_succ]
              obtain ⟨A7, c7, rfl⟩ := own_slice ho7
              have hst7 := (hst5.next hb5).app (own_next hgr5 hb5) hg7
              have c7c := hst7.cells.2.1
              have fz7 := hst7.box.frozenAt
              have hst8 := hst7.store (z' := ⟨⟨5, gs ++ [1 + q], ⟨#[]⟩, co, 0⟩, A7, c7⟩) 1 (.slice A7 (gs.length + 1) c7) (by simp [ChG.cells, ChG.n])
              have hgr8 : GrpOwn w (w7.setCell ⟨w2.heap.size, 1, none⟩ (.slice A7 (gs.length + 1) c7)) ⟨⟨5, gs ++ [1 + q], ⟨#[]⟩, co, 0⟩, A7, c7⟩ := grp_store hst7 (by simpa [GrpOwn, ChG.n] using ho7) 1 _
              (first
                | (refine wpAny_take (i := 7) (v := ?_) rfl (by kernel_rfl) (by kernel_rfl) (by kernel_rfl) (fun _ _ _ h => h) (Or.inl ⟨by rfl, ?_⟩) ?_
                   rotate_left
                   focus (intro wq; go_simp; (try (with_reducible rfl)); done))
                | fail "take 7")
              try simp only [Act.put, List.setIfInBounds_toArray, List.set_cons_zero, List.set_cons_succ, List.getElem_toArray, List.getElem_cons_zero, List.getElem_cons_succ]
              refine wpAny_ready (rs := [8]) (by kernel_rfl) (by simp) ?_
              refine allReadyS_cons (o := _) rfl (fun K hK => ?_) AllReady.nil
              go_simp
              skip
              refine hK.out _ _ ?_
              clear hK K
              try simp only [Act.put, List.setIfInBounds_toArray, List.set_cons_zero, List.set_cons_succ, List.getElem_toArray, List.getElem_cons_zero, List.getElem_cons_succ]
              refine wpAny_done (by kernel_rfl) ?_ _
              go_wp2_with fail
              go_roundw
              case rel => exact ⟨m - 1, gs ++ [1 + q], A7, c7, int_eq (by omega), by intro y hy; rcases List.mem_append.1 hy with h1 | h1; exact Hgs.out y h1; simp at h1; omega, by simp; omega, hgr8, hst8.more (by simp; omega)⟩
              case measure => simp [intOf]; omega
            · go_simp
              skip
              refine hK.out _ _ ?_
              clear hK K
              try simp only [Act.put, List.setIfInBounds_toArray, List.set_cons_zero, List.set_cons_succ, List.getElem_toArray, List.getElem_cons_zero, List.getElem_cons_succ]
              refine wpAny_ready (rs := [1]) (by kernel_rfl) (by simp) ?_
              refine allReadyS_cons (o := _) rfl (fun K hK => ?_) AllReady.nil
              go_simp
              skip
              refine hK.out _ _ ?_
              clear hK K
              try simp only [Act.put, List.setIfInBounds_toArray, List.set_cons_zero, List.set_cons_succ, List.getElem_toArray, List.getElem_cons_zero, List.getElem_cons_succ]
              clear hwq
              have hb5 : Below w5.heap.size w5 (w5.alloc (.cells #[.int .i64 (1 + q)] 2)) := (Below.refl w5.heap.size w5).alloc (Nat.le_refl _) _
              have hz5 : w.heap.size ≤ (w5.alloc (.cells #[.int .i64 (1 + q)] 2)).heap.size := Nat.le_trans hst5.gr.size hb5.size
              refine wpAny_ready (rs := [6]) (by kernel_rfl) (by simp) ?_
              refine allReadyS_cons (o := _) rfl (fun K hK => ?_) AllReady.nil
              refine step_append _ rfl (.tmp 26) (.tmp 30) _ rfl w.heap.size 2 p0 _ 1 8 Tryz.underlying30 hp hy0 hy1 hy2 rfl (by omega) _ gs.length _ rfl (hgr5.alloc _) (w5.heap.size + 1) (some ⟨w5.heap.size, 0, none⟩) 1 1 (intC (1 + q)) rfl (Sl.new w5 2 _ 1 1 rfl) (intC_one _) F63.out F32.out hz5 ?_
              intro v7 w7 ho7 hg7 _
              refine hK.out _ _ ?_
              clear hK K
              try simp only [Act.put, List.setIfInBounds_toArray, List.set_cons_zero, List.set_cons_succ, List.getElem_toArray, List.getElem_cons_zero, List.getElem_cons_succ]
              obtain ⟨A7, c7, rfl⟩ := own_slice ho7
              have hst7 := (hst5.next hb5).app (own_next hgr5 hb5) hg7
              have c7c := hst7.cells.2.1
              have fz7 := hst7.box.frozenAt
              have hst8 := hst7.store (z' := ⟨⟨5, gs ++ [1 + q], ⟨#[]⟩, co, 0⟩, A7, c7⟩) 1 (.slice A7 (gs.length + 1) c7) (by simp [ChG.cells, ChG.n])
              have hgr8 : GrpOwn w (w7.setCell ⟨w2.heap.size, 1, none⟩ (.slice A7 (gs.length + 1) c7)) ⟨⟨5, gs ++ [1 + q], ⟨#[]⟩, co, 0⟩, A7, c7⟩ := grp_store hst7 (by simpa [GrpOwn, ChG.n] using ho7) 1 _
              (first
                | (refine wpAny_take (i := 7) (v := ?_) rfl (by kernel_rfl) (by kernel_rfl) (by kernel_rfl) (fun _ _ _ h => h) (Or.inl ⟨by rfl, ?_⟩) ?_
                   rotate_left
                   focus (intro wq; go_simp; (try (with_reducible rfl)); done))
                | fail "take 7")
              try simp only [Act.put, List.setIfInBounds_toArray, List.set_cons_zero, List.set_cons_succ, List.getElem_toArray, List.getElem_cons_zero, List.getElem_cons_succ]
              refine wpAny_ready (rs := [8]) (by kernel_rfl) (by simp) ?_
              refine allReadyS_cons (o := _) rfl (fun K hK => ?_) AllReady.nil
              go_simp
              skip
              refine hK.out _ _ ?_
              clear hK K
              try simp only [Act.put, List.setIfInBounds_toArray, List.set_cons_zero, List.set_cons_succ, List.getElem_toArray, List.getElem_cons_zero, List.getElem_cons_succ]
              refine wpAny_done (by kernel_rfl) ?_ _
              go_wp2_with fail
              go_roundw
              case rel => exact ⟨m - 1, gs ++ [1 + q], A7, c7, int_eq (by omega), by intro y hy; rcases List.mem_append.1 hy with h1 | h1; exact Hgs.out y h1; simp at h1; omega, by simp; omega, hgr8, hst8.more (by simp; omega)⟩
              case measure => simp [intOf]; omega
        · have hg3 : ∀ y ∈ gs, 1 ≤ y ∧ y ≤ 9 := fun y hy => by have := Hgs.out y hy; omega
          cases hgb : groupB gs
          · go_wp2_with fail
            refine (l05Group_c A gs.length c gs _ (Sl.of_own hgr) (by omega)).mono ?_
            rw [hgb]
            rintro e w4 ⟨rfl, rfl⟩
            have hbn : Below wr.heap.size wr (wr.alloc (.cells #[.int .i64 2] 2)) := (Below.refl _ _).alloc (Nat.le_refl _) _
            have hstn := hst.next hbn
            have cn := hstn.cells.2.1
            have fzn := hstn.box.frozenAt
            have hgn : GrpOwn w (wr.alloc (.cells #[.int .i64 2] 2)) ⟨⟨5, [2], ⟨#[]⟩, co, 0⟩, some ⟨wr.heap.size, 0, none⟩, 1⟩ := lit_own wr w.heap.size 2 #[.int .i64 2] 1 1 hst.gr.size (by decide) rfl
            have hsts := hstn.store (z' := ⟨⟨5, [2], ⟨#[]⟩, co, 0⟩, some ⟨wr.heap.size, 0, none⟩, 1⟩) 1 (.slice (some ⟨wr.heap.size, 0, none⟩) 1 1) rfl
            have hgs2 := grp_store hstn hgn 1 (.slice (some ⟨wr.heap.size, 0, none⟩) 1 1)
            have hfit : fitsB ⟨5, [2], ⟨#[]⟩, co, 0⟩ = true := by simp [fitsB, isE]; decide
            have Hfit := Lib.hid hfit; clear hfit
            go_wp2_with fail
            go_meet
            exact ⟨⟨⟨5, [2], ⟨#[]⟩, co, 0⟩, some ⟨wr.heap.size, 0, none⟩, 1⟩, rfl, shape_of Hco.out Hfit.out, rfl, hgs2, hsts.more (by omega)⟩
          · have hfit : fitsB ⟨5, gs, ⟨#[]⟩, co, 0⟩ = true := by simp [fitsB, isE, hgb]
            have Hfit := Lib.hid hfit; clear hfit
            go_wp2_with fail
            refine (l05Group_c A gs.length c gs _ (Sl.of_own hgr) (by omega)).mono ?_
            rw [hgb]
            rintro e w4 ⟨rfl, rfl⟩
            go_wp2_with fail
            go_meet
            exact ⟨⟨⟨5, gs, ⟨#[]⟩, co, 0⟩, A, c⟩, rfl, shape_of Hco.out Hfit.out, rfl, hgr, hst.more (by omega)⟩
    · go_wp2_with fail
      have hbl : Below w3.heap.size w3 (w3.alloc (.cells #[.int .i64 0, .int .i64 0, .int .i64 3, .int .i64 6, .int .i64 9] 2)) := (Below.refl _ _).alloc (Nat.le_refl _) _
      have hol := lit_own w3 w3.heap.size 2 #[.int .i64 0, .int .i64 0, .int .i64 3, .int .i64 6, .int .i64 9] 5 1 (Nat.le_refl _) (by decide) rfl
      have hsl : Sl _ _ 1 _ 5 (([0, 0, 3, 6, 9] : List Int).flatMap intC) := Sl.of_own hol
      have hlt3 := hst.src.lt.2
      refine (among_c _ 5 5 _ [0, 0, 3, 6, 9] lo b (a + 4) _ (hst.next hbl).src (by omega) hsl (Nat.le_refl _) (fun b' off e => by injection e with e; injection e with e; omega) (by omega) (by omega)).mono ?_
      rintro e w4 ⟨q, rfl, hq, hs4, hg4⟩
      have hst4 := (hst.next hbl).grown hs4 hg4
      have hq4 : q = 0 ∨ q = 3 ∨ q = 6 ∨ q = 9 := by simp at hq; omega
      clear hq c0 c1 c2 c3 c4 fz
      obtain ⟨c0, c1, c2, c3, c4⟩ := hst4.cells
      have fz := hst4.box.frozenAt
      rcases hq4 with rfl | rfl | rfl | rfl
      · go_wp2_with fail
        go_meet
        exact ⟨⟨⟨6, [], ⟨#[]⟩, co, 0⟩, none, 0⟩, rfl, shape_of Hco.out (by simp [fitsB, isE, isL]; decide), rfl, ⟨rfl, .inl ⟨rfl, rfl⟩⟩, hst4.more (by omega)⟩
      · have hbn : Below w4.heap.size w4 (w4.alloc (.cells #[.int .i64 3] 2)) := (Below.refl _ _).alloc (Nat.le_refl _) _
        have hstn := hst4.next hbn
        have cn := hstn.cells.2.1
        have fzn := hstn.box.frozenAt
        have hgn : GrpOwn w (w4.alloc (.cells #[.int .i64 3] 2)) ⟨⟨6, [3], ⟨#[]⟩, co, 0⟩, some ⟨w4.heap.size, 0, none⟩, 1⟩ := lit_own w4 w.heap.size 2 #[.int .i64 3] 1 1 hst4.gr.size (by decide) rfl
        have hsts := hstn.store (z' := ⟨⟨6, [3], ⟨#[]⟩, co, 0⟩, some ⟨w4.heap.size, 0, none⟩, 1⟩) 1 (.slice (some ⟨w4.heap.size, 0, none⟩) 1 1) rfl
        have hgs2 := grp_store hstn hgn 1 (.slice (some ⟨w4.heap.size, 0, none⟩) 1 1)
        have hfit : fitsB ⟨6, [3], ⟨#[]⟩, co, 0⟩ = true := by simp [fitsB, isE, isL]; decide
        have Hfit := Lib.hid hfit; clear hfit
        go_wp2_with fail
        go_meet
        exact ⟨⟨⟨6, [3], ⟨#[]⟩, co, 0⟩, some ⟨w4.heap.size, 0, none⟩, 1⟩, rfl, shape_of Hco.out Hfit.out, rfl, hgs2, hsts.more (by omega)⟩
      · have hbn : Below w4.heap.size w4 (w4.alloc (.cells #[.int .i64 6] 2)) := (Below.refl _ _).alloc (Nat.le_refl _) _
        have hstn := hst4.next hbn
        have cn := hstn.cells.2.1
        have fzn := hstn.box.frozenAt
        have hgn : GrpOwn w (w4.alloc (.cells #[.int .i64 6] 2)) ⟨⟨6, [6], ⟨#[]⟩, co, 0⟩, some ⟨w4.heap.size, 0, none⟩, 1⟩ := lit_own w4 w.heap.size 2 #[.int .i64 6] 1 1 hst4.gr.size (by decide) rfl
        have hsts := hstn.store (z' := ⟨⟨6, [6], ⟨#[]⟩, co, 0⟩, some ⟨w4.heap.size, 0, none⟩, 1⟩) 1 (.slice (some ⟨w4.heap.size, 0, none⟩) 1 1) rfl
        have hgs2 := grp_store hstn hgn 1 (.slice (some ⟨w4.heap.size, 0, none⟩) 1 1)
        have hfit : fitsB ⟨6, [6], ⟨#[]⟩, co, 0⟩ = true := by simp [fitsB, isE, isL]; decide
        have Hfit := Lib.hid hfit; clear hfit
        have d2 := hsts.cells.2.2.1
        have fz2 := hsts.box.frozenAt
        go_wp2_with fail
        refine (one_c 2 lo b (a + 6) _ hsts.src (by omega) (by omega)).mono ?_
        rintro e w5 ⟨ans, rfl, hs5, hg5⟩
        have hst5 := hsts.grown hs5 hg5
        have hgs5 := own_src hgs2 hg5 hlt
        have d5 := hst5.cells.2.2.1
        have fz5 := hst5.box.frozenAt
        cases ans
        · go_wp2_with fail
          go_meet
          exact ⟨⟨⟨6, [6], ⟨#[]⟩, co, 0⟩, some ⟨w4.heap.size, 0, none⟩, 1⟩, rfl, shape_of Hco.out Hfit.out, rfl, hgs5, hst5.more (by omega)⟩
        · have hfitL : fitsB ⟨6, [6], ⟨#[76]⟩, co, 0⟩ = true := by simp [fitsB, isL, ByteArray.toList_eq]
          have HfitL := Lib.hid hfitL; clear hfitL
          have hst6 := hst5.store (z' := ⟨⟨6, [6], ⟨#[76]⟩, co, 0⟩, some ⟨w4.heap.size, 0, none⟩, 1⟩) 2 (.string ⟨#[76]⟩) rfl
          have hgs6 := grp_store hst5 hgs5 2 (.string ⟨#[76]⟩)
          go_wp2_with fail
          go_meet
          exact ⟨⟨⟨6, [6], ⟨#[76]⟩, co, 0⟩, some ⟨w4.heap.size, 0, none⟩, 1⟩, rfl, shape_of Hco.out HfitL.out, rfl, hgs6, hst6.more (by omega)⟩
      · have hbn : Below w4.heap.size w4 (w4.alloc (.cells #[.int .i64 9] 2)) := (Below.refl _ _).alloc (Nat.le_refl _) _
        have hstn := hst4.next hbn
        have cn := hstn.cells.2.1
        have fzn := hstn.box.frozenAt
        have hgn : GrpOwn w (w4.alloc (.cells #[.int .i64 9] 2)) ⟨⟨6, [9], ⟨#[]⟩, co, 0⟩, some ⟨w4.heap.size, 0, none⟩, 1⟩ := lit_own w4 w.heap.size 2 #[.int .i64 9] 1 1 hst4.gr.size (by decide) rfl
        have hsts := hstn.store (z' := ⟨⟨6, [9], ⟨#[]⟩, co, 0⟩, some ⟨w4.heap.size, 0, none⟩, 1⟩) 1 (.slice (some ⟨w4.heap.size, 0, none⟩) 1 1) rfl
        have hgs2 := grp_store hstn hgn 1 (.slice (some ⟨w4.heap.size, 0, none⟩) 1 1)
        have hfit : fitsB ⟨6, [9], ⟨#[]⟩, co, 0⟩ = true := by simp [fitsB, isE, isL]; decide
        have Hfit := Lib.hid hfit; clear hfit
        go_wp2_with fail
        go_meet
        exact ⟨⟨⟨6, [9], ⟨#[]⟩, co, 0⟩, some ⟨w4.heap.size, 0, none⟩, 1⟩, rfl, shape_of Hco.out Hfit.out, rfl, hgs2, hsts.more (by omega)⟩
    · go_wp2_with fail
      have hbl : Below w3.heap.size w3 (w3.alloc (.cells #[.int .i64 0, .int .i64 0, .int .i64 3, .int .i64 6, .int .i64 9] 2)) := (Below.refl _ _).alloc (Nat.le_refl _) _
      have hol := lit_own w3 w3.heap.size 2 #[.int .i64 0, .int .i64 0, .int .i64 3, .int .i64 6, .int .i64 9] 5 1 (Nat.le_refl _) (by decide) rfl
      have hsl : Sl _ _ 1 _ 5 (([0, 0, 3, 6, 9] : List Int).flatMap intC) := Sl.of_own hol
      have hlt3 := hst.src.lt.2
      refine (among_c _ 5 5 _ [0, 0, 3, 6, 9] lo b (a + 4) _ (hst.next hbl).src (by omega) hsl (Nat.le_refl _) (fun b' off e => by injection e with e; injection e with e; omega) (by omega) (by omega)).mono ?_
      rintro e w4 ⟨q, rfl, hq, hs4, hg4⟩
      have hst4 := (hst.next hbl).grown hs4 hg4
      have hq4 : q = 0 ∨ q = 3 ∨ q = 6 ∨ q = 9 := by simp at hq; omega
      clear hq c0 c1 c2 c3 c4 fz
      obtain ⟨c0, c1, c2, c3, c4⟩ := hst4.cells
      have fz := hst4.box.frozenAt
      rcases hq4 with rfl | rfl | rfl | rfl
      · go_wp2_with fail
        go_meet
        exact ⟨⟨⟨7, [], ⟨#[]⟩, co, 0⟩, none, 0⟩, rfl, shape_of Hco.out (by simp [fitsB, isE, isL]; decide), rfl, ⟨rfl, .inl ⟨rfl, rfl⟩⟩, hst4.more (by omega)⟩
      · have hbn : Below w4.heap.size w4 (w4.alloc (.cells #[.int .i64 3] 2)) := (Below.refl _ _).alloc (Nat.le_refl _) _
        have hstn := hst4.next hbn
        have cn := hstn.cells.2.1
        have fzn := hstn.box.frozenAt
        have hgn : GrpOwn w (w4.alloc (.cells #[.int .i64 3] 2)) ⟨⟨7, [3], ⟨#[]⟩, co, 0⟩, some ⟨w4.heap.size, 0, none⟩, 1⟩ := lit_own w4 w.heap.size 2 #[.int .i64 3] 1 1 hst4.gr.size (by decide) rfl
        have hsts := hstn.store (z' := ⟨⟨7, [3], ⟨#[]⟩, co, 0⟩, some ⟨w4.heap.size, 0, none⟩, 1⟩) 1 (.slice (some ⟨w4.heap.size, 0, none⟩) 1 1) rfl
        have hgs2 := grp_store hstn hgn 1 (.slice (some ⟨w4.heap.size, 0, none⟩) 1 1)
        have hfit : fitsB ⟨7, [3], ⟨#[]⟩, co, 0⟩ = true := by simp [fitsB, isE, isL]; decide
        have Hfit := Lib.hid hfit; clear hfit
        go_wp2_with fail
        go_meet
        exact ⟨⟨⟨7, [3], ⟨#[]⟩, co, 0⟩, some ⟨w4.heap.size, 0, none⟩, 1⟩, rfl, shape_of Hco.out Hfit.out, rfl, hgs2, hsts.more (by omega)⟩
      · have hbn : Below w4.heap.size w4 (w4.alloc (.cells #[.int .i64 6] 2)) := (Below.refl _ _).alloc (Nat.le_refl _) _
        have hstn := hst4.next hbn
        have cn := hstn.cells.2.1
        have fzn := hstn.box.frozenAt
        have hgn : GrpOwn w (w4.alloc (.cells #[.int .i64 6] 2)) ⟨⟨7, [6], ⟨#[]⟩, co, 0⟩, some ⟨w4.heap.size, 0, none⟩, 1⟩ := lit_own w4 w.heap.size 2 #[.int .i64 6] 1 1 hst4.gr.size (by decide) rfl
        have hsts := hstn.store (z' := ⟨⟨7, [6], ⟨#[]⟩, co, 0⟩, some ⟨w4.heap.size, 0, none⟩, 1⟩) 1 (.slice (some ⟨w4.heap.size, 0, none⟩) 1 1) rfl
        have hgs2 := grp_store hstn hgn 1 (.slice (some ⟨w4.heap.size, 0, none⟩) 1 1)
        have hfit : fitsB ⟨7, [6], ⟨#[]⟩, co, 0⟩ = true := by simp [fitsB, isE, isL]; decide
        have Hfit := Lib.hid hfit; clear hfit
        have d2 := hsts.cells.2.2.1
        have fz2 := hsts.box.frozenAt
        go_wp2_with fail
        refine (one_c 2 lo b (a + 6) _ hsts.src (by omega) (by omega)).mono ?_
        rintro e w5 ⟨ans, rfl, hs5, hg5⟩
        have hst5 := hsts.grown hs5 hg5
        have hgs5 := own_src hgs2 hg5 hlt
        have d5 := hst5.cells.2.2.1
        have fz5 := hst5.box.frozenAt
        cases ans
        · go_wp2_with fail
          go_meet
          exact ⟨⟨⟨7, [6], ⟨#[]⟩, co, 0⟩, some ⟨w4.heap.size, 0, none⟩, 1⟩, rfl, shape_of Hco.out Hfit.out, rfl, hgs5, hst5.more (by omega)⟩
        · have hfitL : fitsB ⟨7, [6], ⟨#[76]⟩, co, 0⟩ = true := by simp [fitsB, isL, ByteArray.toList_eq]
          have HfitL := Lib.hid hfitL; clear hfitL
          have hst6 := hst5.store (z' := ⟨⟨7, [6], ⟨#[76]⟩, co, 0⟩, some ⟨w4.heap.size, 0, none⟩, 1⟩) 2 (.string ⟨#[76]⟩) rfl
          have hgs6 := grp_store hst5 hgs5 2 (.string ⟨#[76]⟩)
          go_wp2_with fail
          go_meet
          exact ⟨⟨⟨7, [6], ⟨#[76]⟩, co, 0⟩, some ⟨w4.heap.size, 0, none⟩, 1⟩, rfl, shape_of Hco.out HfitL.out, rfl, hgs6, hst6.more (by omega)⟩
      · have hbn : Below w4.heap.size w4 (w4.alloc (.cells #[.int .i64 9] 2)) := (Below.refl _ _).alloc (Nat.le_refl _) _
        have hstn := hst4.next hbn
        have cn := hstn.cells.2.1
        have fzn := hstn.box.frozenAt
        have hgn : GrpOwn w (w4.alloc (.cells #[.int .i64 9] 2)) ⟨⟨7, [9], ⟨#[]⟩, co, 0⟩, some ⟨w4.heap.size, 0, none⟩, 1⟩ := lit_own w4 w.heap.size 2 #[.int .i64 9] 1 1 hst4.gr.size (by decide) rfl
        have hsts := hstn.store (z' := ⟨⟨7, [9], ⟨#[]⟩, co, 0⟩, some ⟨w4.heap.size, 0, none⟩, 1⟩) 1 (.slice (some ⟨w4.heap.size, 0, none⟩) 1 1) rfl
        have hgs2 := grp_store hstn hgn 1 (.slice (some ⟨w4.heap.size, 0, none⟩) 1 1)
        have hfit : fitsB ⟨7, [9], ⟨#[]⟩, co, 0⟩ = true := by simp [fitsB, isE, isL]; decide
        have Hfit := Lib.hid hfit; clear hfit
        go_wp2_with fail
        go_meet
        exact ⟨⟨⟨7, [9], ⟨#[]⟩, co, 0⟩, some ⟨w4.heap.size, 0, none⟩, 1⟩, rfl, shape_of Hco.out Hfit.out, rfl, hgs2, hsts.more (by omega)⟩
    · go_wp2_with fail
      refine (pickN_c 26 lo b (a + 4) _ hst.src (by omega) (by omega)).mono ?_
      rintro e w4 ⟨q, rfl, q0, q1, hs4, hg4⟩
      have hst4 := hst.grown hs4 hg4
      obtain ⟨c0, c1, c2, c3, c4⟩ := hst4.cells
      have fz := hst4.box.frozenAt
      have hq2 : 0 ≤ 65 + q ∧ 65 + q < 256 := by omega
      have hcv := convD w4 (65 + q)
      have hlb : letterB (strOfNums [65 + q]) = true := by
        have h1 := strOfNums_size [65 + q]
        rw [letterB, one_bt hq2.1 hq2.2, decide_eq_true (show (strOfNums [65 + q]).size = 1 by rw [h1]; rfl), decide_eq_true (show 65 ≤ 65 + q by omega), decide_eq_true (show 65 + q ≤ 90 by omega)]; rfl
      have hfit : fitsB ⟨8, [], strOfNums [65 + q], co, 0⟩ = true := by simp [fitsB, hlb]
      have hbn : Below w4.heap.size w4 (w4.alloc (.cells #[.int .u8 (65 + q)] 5)) := (Below.refl _ _).alloc (Nat.le_refl _) _
      have hstn := hst4.next hbn
      have cn := hstn.cells.2.2.1
      have fzn := hstn.box.frozenAt
      have hsts := hstn.store (z' := ⟨⟨8, [], strOfNums [65 + q], co, 0⟩, none, 0⟩) 2 (.string (strOfNums [65 + q])) rfl
      have Hlb := Lib.hid hlb; clear hlb
      have Hfit := Lib.hid hfit; clear hfit
      go_wp2_with fail
      go_meet
      exact ⟨⟨⟨8, [], strOfNums [65 + q], co, 0⟩, none, 0⟩, rfl, shape_of Hco.out Hfit.out, rfl, ⟨rfl, .inl ⟨rfl, rfl⟩⟩, hsts.more (by omega)⟩
  case rest =>
    obtain ⟨⟨⟨k, gs, l, cs, p⟩, A, c⟩, rfl, hsh, hp, hgr, hst⟩ := hcut
    clear hoR hs2 hbX
    obtain rfl : p = 0 := hp
    obtain ⟨z1, z2, z3⟩ := shape_sizes hsh
    dsimp only at z1 z2 z3
    have hch := hst.chp hgr (show gs.length ≤ 1048576 by omega) (show l.size ≤ 1048576 by omega) (show cs.size ≤ 1048576 by omega)
    have hl6 := least_600 hsh
    have hl0 := (leastI_bd hsh).1
    obtain ⟨L, hL⟩ : ∃ L, leastI ⟨k, gs, l, cs, 0⟩ = L := ⟨_, rfl⟩
    rw [hL] at hl6 hl0
    have HL := Lib.hid hL; clear hL
    go_wp2_with fail
    refine (l05Least_c w2.heap.size 0 A gs.length c ⟨k, gs, l, cs, 0⟩ _ hch hsh).mono ?_
    rintro e w6 ⟨rfl, hb6⟩
    rw [HL.out]
    replace hst := hst.next hb6
    replace hgr := own_next hgr hb6
    replace hch := hch.next hb6
    have Hsh := Lib.hid hsh; clear hsh
    go_wp2_with fail
    refine (l05Steady_c w2.heap.size 0 A gs.length c ⟨k, gs, l, cs, 0⟩ _ hch).mono ?_
    obtain ⟨c0, c1, c2, c3, c4⟩ := hst.cells
    dsimp only [ChG.n] at c0 c1 c2 c3 c4
    have fr := hst.res.frozenAt
    have r0 := hst.res.cellAt 0 (by omega)
    have r1 := hst.res.cellAt 1 (by omega)
    have r2 := hst.res.cellAt 2 (by omega)
    have r3 := hst.res.cellAt 3 (by omega)
    have r4 := hst.res.cellAt 4 (by omega)
    simp only [List.getElem?_cons_zero, List.getElem?_cons_succ] at r0 r1 r2 r3 r4
    cases hsy : steadyB ⟨k, gs, l, cs, 0⟩
    · rintro e w7 ⟨rfl, rfl⟩
      have hbl : Below w6.heap.size w6 (w6.alloc (.cells #[.int .i64 0, .int .i64 5, .int .i64 20, .int .i64 50, .int .i64 100, .int .i64 1, .int .i64 200] 2)) := (Below.refl _ _).alloc (Nat.le_refl _) _
      have hol := lit_own w6 w6.heap.size 2 #[.int .i64 0, .int .i64 5, .int .i64 20, .int .i64 50, .int .i64 100, .int .i64 1, .int .i64 200] 7 1 (Nat.le_refl _) (by decide) rfl
      have hsl : Sl _ _ 1 _ 7 (([0, 5, 20, 50, 100, 1, 200] : List Int).flatMap intC) := Sl.of_own hol
      have hlt6 := hst.src.lt.2
      go_wp2_with fail
      refine (among_c _ 7 7 _ [0, 5, 20, 50, 100, 1, 200] lo b (a + 20) _ (hst.next hbl).src (by omega) hsl (Nat.le_refl _) (fun b' off e => by injection e with e; injection e with e; omega) (by omega) (by omega)).mono ?_
      rintro e w8 ⟨q, rfl, hq, hs8, hg8⟩
      have hst8 := (hst.next hbl).grown hs8 hg8
      have hgr8 := own_src (own_next hgr hbl) hg8 hlt
      have hqb : 0 ≤ q ∧ q ≤ 200 := by simp at hq; omega
      clear hq hch hbl hol hsl c0 c1 c2 c3 c4 fr r0 r1 r2 r3 r4 hs8 hg8
      have d4 := hst8.cells.2.2.2.2
      have fz8 := hst8.box.frozenAt
      go_wp2_with fail
      refine (l00Min_c _ _ _).mono ?_
      rintro e w9 ⟨rfl, rfl⟩
      obtain ⟨p1, hp1⟩ : ∃ p1, min 600 (L + q) = p1 := ⟨_, rfl⟩
      rw [hp1]
      have hp2 : L ≤ p1 ∧ p1 ≤ 600 := by omega
      clear hp1
      have hst9 := hst8.store (z' := ⟨⟨k, gs, l, cs, p1⟩, A, c⟩) 4 (.int .i64 p1) rfl
      have hgr9 : GrpOwn w (w8.setCell ⟨w2.heap.size, 4, none⟩ (.int .i64 p1)) ⟨⟨k, gs, l, cs, p1⟩, A, c⟩ := grp_store (z' := ⟨⟨k, gs, l, cs, p1⟩, A, c⟩) hst8 hgr8 4 (.int .i64 p1)
      obtain ⟨c0, c1, c2, c3, c4⟩ := hst9.cells
      dsimp only [ChG.n] at c0 c1 c2 c3 c4
      have fz9 := hst9.box.frozenAt
      have fr := hst9.res.frozenAt
      have r0 := hst9.res.cellAt 0 (by omega)
      have r1 := hst9.res.cellAt 1 (by omega)
      have r2 := hst9.res.cellAt 2 (by omega)
      have r3 := hst9.res.cellAt 3 (by omega)
      have r4 := hst9.res.cellAt 4 (by omega)
      simp only [List.getElem?_cons_zero, List.getElem?_cons_succ] at r0 r1 r2 r3 r4
      cases hk3 : (k == 3)
      · have hv : validB ⟨k, gs, l, cs, p1⟩ = true := by
          have e1 : shapeB ⟨k, gs, l, cs, p1⟩ = shapeB ⟨k, gs, l, cs, 0⟩ := rfl
          have e2 : steadyB ⟨k, gs, l, cs, p1⟩ = steadyB ⟨k, gs, l, cs, 0⟩ := rfl
          have e3 : leastI ⟨k, gs, l, cs, p1⟩ = leastI ⟨k, gs, l, cs, 0⟩ := rfl
          have e4 : inB p1 L 600 = true := inB_iff.2 hp2
          rw [validB, e1, Hsh.out, e2, hsy, e3, HL.out, if_neg (by simp), e4, hk3]; rfl
        obtain ⟨g1, g2, g3, e0, e1, e2, e3, e4⟩ := hst9.fin hgr9 (.int .i64 k) (.slice A gs.length c) (.string l) (.string cs) (.int .i64 p1)
        have Hv := Lib.hid hv; clear hv
        have Hsy := Lib.hid hsy; clear hsy
        go_wp2_with fail
        refine bodyPost_ret (v := chV k A gs.length c l cs p1) (by simp [results, Tryz.results70, go_sem, e0, e1, e2, e3, e4]) rfl ⟨⟨⟨k, gs, l, cs, p1⟩, A, c⟩, rfl, Hv.out, g1, g2.more (by omega), g3⟩
      · have hp3 : 0 ≤ p1 % 2 ∧ p1 + p1 % 2 ≤ 600 ∧ L ≤ p1 + p1 % 2 := by omega
        have hv : validB ⟨k, gs, l, cs, p1 + p1 % 2⟩ = true := by
          have e1 : shapeB ⟨k, gs, l, cs, p1 + p1 % 2⟩ = shapeB ⟨k, gs, l, cs, 0⟩ := rfl
          have e2 : steadyB ⟨k, gs, l, cs, p1 + p1 % 2⟩ = steadyB ⟨k, gs, l, cs, 0⟩ := rfl
          have e3 : leastI ⟨k, gs, l, cs, p1 + p1 % 2⟩ = leastI ⟨k, gs, l, cs, 0⟩ := rfl
          have e4 : inB (p1 + p1 % 2) L 600 = true := inB_iff.2 ⟨hp3.2.2, hp3.2.1⟩
          have e5 : evenB (p1 + p1 % 2) = true := by
            rw [evenB, Int.tmod_eq_emod_of_nonneg (by omega)]
            simp; omega
          rw [validB, e1, Hsh.out, e2, hsy, e3, HL.out, if_neg (by simp), e4, e5]; simp
        have hst10 := hst9.store (z' := ⟨⟨k, gs, l, cs, p1 + p1 % 2⟩, A, c⟩) 4 (.int .i64 (p1 + p1 % 2)) rfl
        have hgr10 := grp_store (z' := ⟨⟨k, gs, l, cs, p1 + p1 % 2⟩, A, c⟩) hst9 hgr9 4 (.int .i64 (p1 + p1 % 2))
        obtain ⟨d0, d1, d2, d3, d4⟩ := hst10.cells
        dsimp only [ChG.n] at d0 d1 d2 d3 d4
        have fr10 := hst10.res.frozenAt
        have s0 := hst10.res.cellAt 0 (by omega)
        have s1 := hst10.res.cellAt 1 (by omega)
        have s2 := hst10.res.cellAt 2 (by omega)
        have s3 := hst10.res.cellAt 3 (by omega)
        have s4 := hst10.res.cellAt 4 (by omega)
        simp only [List.getElem?_cons_zero, List.getElem?_cons_succ] at s0 s1 s2 s3 s4
        obtain ⟨g1, g2, g3, e0, e1, e2, e3, e4⟩ := hst10.fin hgr10 (.int .i64 k) (.slice A gs.length c) (.string l) (.string cs) (.int .i64 (p1 + p1 % 2))
        have Hv := Lib.hid hv; clear hv
        have Hsy := Lib.hid hsy; clear hsy
        go_wp2_with fail
        refine bodyPost_ret (v := chV k A gs.length c l cs (p1 + p1 % 2)) (by simp [results, Tryz.results70, go_sem, e0, e1, e2, e3, e4]) rfl ⟨⟨⟨k, gs, l, cs, p1 + p1 % 2⟩, A, c⟩, rfl, Hv.out, g1, g2.more (by omega), g3⟩
    · rintro e w7 ⟨rfl, rfl⟩
      have hv : validB ⟨k, gs, l, cs, 0⟩ = true := by rw [validB, Hsh.out, hsy]; rfl
      obtain ⟨g1, g2, g3, e0, e1, e2, e3, e4⟩ := hst.fin hgr (.int .i64 k) (.slice A gs.length c) (.string l) (.string cs) (.int .i64 0)
      have Hv := Lib.hid hv; clear hv
      have Hsy := Lib.hid hsy; clear hsy
      go_wp2_with fail
      refine bodyPost_ret (v := chV k A gs.length c l cs 0) (by simp [results, Tryz.results70, go_sem, e0, e1, e2, e3, e4]) rfl ⟨⟨⟨k, gs, l, cs, 0⟩, A, c⟩, rfl, Hv.out, g1, g2.more (by omega), g3⟩
end Go.Proofs.YtpfnnjcochhklaaGreatDoor
