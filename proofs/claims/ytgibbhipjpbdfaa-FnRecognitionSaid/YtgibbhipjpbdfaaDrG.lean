/- DrG: several of my texts in one. -/
import Derived.Test.YtgibbhipjpbdfaaSrcG
import Derived.Test.YtgibbhipjpbdfaaLtR8
import Derived.Test.YtgibbhipjpbdfaaChSpec3
import Derived.Test.YtgibbhipjpbdfaaChPh
import Derived.Test.YtgibbhipjpbdfaaIntS
import Derived.Test.YtgibbhipjpbdfaaRcIG

/- Small functions of the laws that choose numbers from bytes. -/
namespace Go.Proofs.Ytgibbhipjpbdfaa
open Go.RowKit
theorem mod_le {x m : Int} (hx : 0 ≤ x) (hm : 0 < m) : x % m ≤ x := by
  have h1 := Int.emod_add_mul_ediv x m
  have h2 := Int.ediv_nonneg hx (Int.le_of_lt hm)
  have h3 := Int.mul_nonneg (Int.le_of_lt hm) h2
  omega
def AtAns (m : Int) (w : World) (e : Ending) (w' : World) : Prop := ∃ r : Int, e = .returned (.int .i64 r) ∧ 0 ≤ r ∧ (r < m ∨ r = 0) ∧ r ≤ 255 ∧ w = w'
end Go.Proofs.Ytgibbhipjpbdfaa

/- Small functions of the laws that choose numbers from bytes (those of the second set). -/
namespace Go.Proofs.Ytgibbhipjpbdfaa
open Go.RowKit
set_option maxRecDepth 100000 in
set_option maxHeartbeats 400000 in
theorem b10Long_c (A : Option Addr) (n c : Nat) (w : World) : Calls Try.prog 14 #[.slice A n c] w fun e w' => e = .returned (.bool (decide (1048576 < n))) ∧ w = w' := by
  by_cases h1 : 1048576 < n
  · have h1' : (1048576 : Int) < (n : Int) := by omega
    go_enter Try.func14, Try.ntmps14
    go_wp2
    go_ret
    exact ⟨ret_eq (bool_eq (by first | rfl | exact (decide_eq_true h1).symm)), rfl⟩
  · have h1' : ¬ (1048576 : Int) < (n : Int) := by omega
    go_enter Try.func14, Try.ntmps14
    go_wp2
    go_ret
    exact ⟨ret_eq (bool_eq (by first | rfl | exact (decide_eq_false h1).symm)), rfl⟩
set_option maxRecDepth 100000 in
set_option maxHeartbeats 400000 in
theorem b10At_c (A : Option Addr) (n c B : Nat) (bs : List Int) (k : Nat) (m : Int) (w : World) (hx : Sl w B 1 A n (bs.flatMap u8C)) (hb : ∀ x ∈ bs, 0 ≤ x ∧ x ≤ 255) (_ : n ≤ 1048576) (hk : k ≤ 100000) (hm : m ≤ 1000000) :
    Calls Try.prog 17 #[.slice A n c, .int .i64 k, .int .i64 m] w fun e w' => ∃ r : Int, e = .returned (.int .i64 r) ∧ 0 ≤ r ∧ (r < m ∨ r = 0) ∧ r ≤ 10000000 ∧ w = w' := by
  by_cases h1 : m ≤ 1
  · go_enter Try.func17, Try.ntmps17
    go_wp2
    go_ret
    exact ⟨0, rfl, by omega, .inr rfl, by omega, rfl⟩
  have hm0 : ¬ m = 0 := by omega
  by_cases h2 : k < n
  · obtain ⟨b, off, x, rfl, _, hx', d1⟩ := hx.u8 k h2
    obtain ⟨x0, x1⟩ := hb x (List.mem_of_getElem? hx')
    have h2' : (k : Int) < (n : Int) := by omega
    have j0 : (0 : Int) ≤ (k : Int) := by omega
    have e2 : x.tmod m = x % m := Int.tmod_eq_emod_of_nonneg x0
    have hr : 0 ≤ x % m ∧ x % m < m ∧ x % m ≤ x := ⟨Int.emod_nonneg _ (by omega), Int.emod_lt_of_pos _ (by omega), mod_le x0 (by omega)⟩
    generalize x % m = q at *
    have Hx' := Lib.hid hx'; clear hx'
    have Hr := Lib.hid hr; clear hr
    go_enter Try.func17, Try.ntmps17
    go_wp2
    go_ret
    exact ⟨_, rfl, Hr.out.1, .inl Hr.out.2.1, by have := Hr.out.2.2; omega, rfl⟩
  · have h2' : ¬ (k : Int) < (n : Int) := by omega
    have e2 : ((k : Int) * 37 + 11).tmod m = ((k : Int) * 37 + 11) % m := Int.tmod_eq_emod_of_nonneg (by omega)
    have hr : 0 ≤ ((k : Int) * 37 + 11) % m ∧ ((k : Int) * 37 + 11) % m < m := ⟨Int.emod_nonneg _ (by omega), Int.emod_lt_of_pos _ (by omega)⟩
    have hr2 : ((k : Int) * 37 + 11) % m ≤ ((k : Int) * 37 + 11) := mod_le (by omega) (by omega)
    have hw1 : IntKind.i64.wrap ((k : Int) * 37) = (k : Int) * 37 := IntWalk.i64_in _ (by omega)
    have hw2 : IntKind.i64.wrap ((k : Int) * 37 + 11) = (k : Int) * 37 + 11 := IntWalk.i64_in _ (by omega)
    generalize ((k : Int) * 37 + 11) % m = q at *
    have Hr := Lib.hid hr; clear hr
    have Hr2 := Lib.hid hr2; clear hr2
    go_enter Try.func17, Try.ntmps17
    go_wp2
    go_ret
    exact ⟨_, rfl, Hr.out.1, .inl Hr.out.2, by have := Hr2.out; omega, rfl⟩
set_option maxRecDepth 100000 in
set_option maxHeartbeats 1000000 in
theorem b10Wide_c (A : Option Addr) (n c B : Nat) (bs : List Int) (k : Nat) (m : Int) (w : World) (hx : Sl w B 1 A n (bs.flatMap u8C)) (hb : ∀ x ∈ bs, 0 ≤ x ∧ x ≤ 255) (hn : n ≤ 1048576) (hm : 0 < m) (hm2 : m ≤ 1000000) (hk : k ≤ 1000) :
    Calls Try.prog 20 #[.slice A n c, .int .i64 k, .int .i64 m] w fun e w' => ∃ r : Int, e = .returned (.int .i64 r) ∧ 0 ≤ r ∧ r < m ∧ w = w' := by
  have hA : ∀ (j : Nat) w1, j ≤ 1001 → w = w1 → Calls Try.prog 17 #[.slice A n c, .int .i64 j, .int .i64 256] w1 fun e w' => ∃ r : Int, e = .returned (.int .i64 r) ∧ 0 ≤ r ∧ (r < 256 ∨ r = 0) ∧ r ≤ 10000000 ∧ w1 = w' := fun j w1 hj e => e ▸ b10At_c A n c B bs j 256 w hx hb hn (by omega) (by omega)
  have h1 := hA k w (by omega) rfl
  have h2 := hA (k + 1) w (by omega) rfl
  have e1 : ((k + 1 : Nat) : Int) = (k : Int) + 1 := by omega
  rw [e1] at h2
  have H1 := Lib.hid h1; clear h1
  have H2 := Lib.hid h2; clear h2
  clear hA e1 hx hb
  go_enter Try.func20, Try.ntmps20
  go_wp2_with fail
  refine H1.out.mono ?_
  rintro e w1 ⟨a, rfl, a0, a1, _, rfl⟩
  have a2 : a ≤ 255 := by omega
  clear a1
  go_wp2_with fail
  refine H2.out.mono ?_
  rintro e w1 ⟨b, rfl, b0, b1, _, rfl⟩
  have b2 : b ≤ 255 := by omega
  clear b1
  have hq : 0 ≤ (256 * a + b) % m ∧ (256 * a + b) % m < m := ⟨Int.emod_nonneg _ (by omega), Int.emod_lt_of_pos _ hm⟩
  have e2 : (256 * a + b).tmod m = (256 * a + b) % m := Int.tmod_eq_emod_of_nonneg (by omega)
  have hm0 : ¬ m = 0 := by omega
  generalize (256 * a + b) % m = q at *
  go_wp2_with fail
  go_ret
  exact ⟨_, rfl, hq.1, hq.2, rfl⟩
end Go.Proofs.Ytgibbhipjpbdfaa

/- Draws of characters, simple ones and ones that are seldom not valid: what is drawn, and what is left in memory. -/
namespace Go.Proofs.Ytgibbhipjpbdfaa
open Go.RowKit
theorem row_grownC {w w' : World} {k : Nat} {row : Option Nat} {o : Obj} (h : w.heap[k]? = some o) (hg : w.grownBy w' row) (hne : some k ≠ row) : w'.heap[k]? = some o :=
  (hg.block k (by
    by_cases hk : k < w.heap.size
    · exact hk
    · rw [Array.getElem?_eq_none (by omega)] at h; cases h) hne).trans h
theorem row_belowC {w w' : World} {k : Nat} {o : Obj} (h : w.heap[k]? = some o) (hb : Below w.heap.size w w') : w'.heap[k]? = some o :=
  (hb.block k (by
    by_cases hk : k < w.heap.size
    · exact hk
    · rw [Array.getElem?_eq_none (by omega)] at h; cases h)).trans h
/-- A character that takes little room. -/
structure Smal (x : Ch) : Prop where
  g : x.gs.length ≤ 16
  l : x.l.size ≤ 16
  c : x.cs.size ≤ 16
  p : -100 ≤ x.p ∧ x.p ≤ 100000
theorem smal_shape {x : Ch} (h : shapeB x = true) (hp : -100 ≤ x.p ∧ x.p ≤ 100000) : Smal x := by
  have := shape_sizes h
  exact ⟨by omega, by omega, by omega, hp⟩
theorem smal_valid {x : Ch} (h : validB x = true) : Smal x := smal_shape (valid_shape h) (by have := valid_p h; omega)
set_option maxRecDepth 100000 in
set_option maxHeartbeats 1000000 in
theorem l18Tol_c (lo b a : Nat) (w : World) (h : Src w lo b a) (ha : a ≤ 800000000) :
    Calls Try.prog 49 #[.pointer (some ⟨b, 0, none⟩)] w fun e w' => ∃ t : Int, e = .returned (.int .i64 t) ∧ (-1 ≤ t ∧ t ≤ 21) ∧ Src w' lo b (a + 4) ∧ w.grownBy w' (some b) := by
  go_enter Try.func49, Try.ntmps49
  go_wp2_with fail
  refine (one_c 10 lo b a _ h (by omega) (by omega)).mono ?_
  rintro e w1 ⟨ans, rfl, hs1, hg1⟩
  cases ans
  · go_wp2_with fail
    refine (pick_c 12 lo b (a + 2) _ hs1 (by omega) (by omega)).mono ?_
    rintro e w2 ⟨q, rfl, q0, q1, hs2, hg2⟩
    go_wp2_with fail
    go_ret
    exact ⟨q, rfl, by omega, hs2.more (by omega), grown_trans hg1 hg2⟩
  · have hbl : Below w1.heap.size w1 (w1.alloc (.cells #[.int .i64 (-1), .int .i64 0, .int .i64 20, .int .i64 21] 2)) := (Below.refl _ _).alloc (Nat.le_refl _) _
    have hol := lit_own w1 w1.heap.size 2 #[.int .i64 (-1), .int .i64 0, .int .i64 20, .int .i64 21] 4 1 (Nat.le_refl _) (by decide) rfl
    have hsl : Sl _ _ 1 _ 4 (([-1, 0, 20, 21] : List Int).flatMap intC) := Sl.of_own hol
    have hlt1 := hs1.lt.2
    go_wp2_with fail
    refine (among_c _ 4 4 _ [-1, 0, 20, 21] lo b (a + 2) _ (hs1.next hbl) (by omega) hsl (Nat.le_refl _) (fun b' off e => by injection e with e; injection e with e; omega) (by omega) (by omega)).mono ?_
    rintro e w2 ⟨q, rfl, hq, hs2, hg2⟩
    have hqb : -1 ≤ q ∧ q ≤ 21 := by simp at hq; omega
    clear hq
    go_wp2_with fail
    go_ret
    exact ⟨q, rfl, hqb, hs2.more (by omega), grown_trans hg1 (grown_trans (grown_of_below hbl) hg2)⟩
def cfCols : List ByteArray := [⟨#[87]⟩, ⟨#[87]⟩, ⟨#[82]⟩, ⟨#[87, 82]⟩]
theorem cfCols_ok : ∀ r ∈ cfCols, colorsB r = true := by decide
def CharAns (lo b a : Nat) (w : World) (e : Ending) (w' : World) : Prop := ∃ z : ChG, e = .returned (chV z.x.k z.A z.n z.c z.x.l z.x.cs z.x.p) ∧ shapeB z.x = true ∧ Smal z.x ∧ GrpOwn w w' z ∧ Src w' lo b a ∧ w.grownBy w' (some b)
set_option maxRecDepth 100000 in
set_option maxHeartbeats 4000000 in
theorem l18Char_c (lo b a : Nat) (w : World) (h : Src w lo b a) (ha : a ≤ 700000000) :
    Calls Try.prog 44 #[.pointer (some ⟨b, 0, none⟩)] w (CharAns lo b (a + 60) w) := by
  have hbA : Below w.heap.size w (w.alloc (.cells #[.int .i64 0, .slice none 0 0, .string ⟨#[]⟩, .string ⟨#[]⟩, .int .i64 0] 26)) := by (repeat (first | (with_reducible assumption) | (with_reducible exact Below.refl _ _) | exact Nat.le_refl _ | exact Below.size (by with_reducible assumption) | (with_reducible refine Below.drew ?_) | (with_reducible refine below_drewN ?_ _) | (with_reducible refine Below.alloc ?_ ?_ _) | (with_reducible refine Below.setCell ?_ ?_ _) | (with_reducible refine le_alloc ?_ _) | (with_reducible refine le_set ?_ _ _) | (with_reducible refine le_drew ?_) | (with_reducible refine le_drewN ?_ _) | omega | (dsimp only; omega)))
  have hr0 : (w.alloc (.cells #[.int .i64 0, .slice none 0 0, .string ⟨#[]⟩, .string ⟨#[]⟩, .int .i64 0] 26)).heap[w.heap.size]? = some (.cells #[.int .i64 0, .slice none 0 0, .string ⟨#[]⟩, .string ⟨#[]⟩, .int .i64 0] 26 (0, 0)) := heap_alloc_new w _
  have hoR := lit_own w w.heap.size 26 #[.int .i64 0, .slice none 0 0, .string ⟨#[]⟩, .string ⟨#[]⟩, .int .i64 0] 1 5 (Nat.le_refl _) (by decide) rfl
  have hz0 : w.heap.size < (w.alloc (.cells #[.int .i64 0, .slice none 0 0, .string ⟨#[]⟩, .string ⟨#[]⟩, .int .i64 0] 26)).heap.size := by simp
  have hlt := h.lt.2
  have Hr0 := Lib.hid hr0; clear hr0
  have HoR := Lib.hid hoR; clear hoR
  go_enter Try.func44, Try.ntmps44
  go_wp2_with fail
  generalize w.alloc (.cells #[.int .i64 0, .slice none 0 0, .string ⟨#[]⟩, .string ⟨#[]⟩, .int .i64 0] 26) = w0 at *
  refine (one_c 3 lo b a _ (h.next hbA) (by omega) (by omega)).mono ?_
  rintro e w1 ⟨ans, rfl, hs1, hg1⟩
  have hr1 := row_grownC Hr0.out hg1 (by intro e; injection e with e; omega)
  have hoR1 := own_src HoR.out hg1 hlt
  have hG1 : w.grownBy w1 (some b) := grown_trans (grown_of_below hbA) hg1
  have hlt1 : w.heap.size < w1.heap.size := Nat.lt_of_lt_of_le hz0 hg1.size
  have Hr1 := Lib.hid hr1; clear hr1
  have HoR1 := Lib.hid hoR1; clear hoR1
  clear Hr0 HoR hbA hg1
  cases ans
  · have hbl : Below w1.heap.size w1 (w1.alloc (.cells #[.string ⟨#[87]⟩, .string ⟨#[87]⟩, .string ⟨#[82]⟩, .string ⟨#[87, 82]⟩] 9)) := (Below.refl _ _).alloc (Nat.le_refl _) _
    have hol := lit_own w1 w1.heap.size 9 #[.string ⟨#[87]⟩, .string ⟨#[87]⟩, .string ⟨#[82]⟩, .string ⟨#[87, 82]⟩] 4 1 (Nat.le_refl _) (by decide) rfl
    have hsl : Sl _ _ 1 _ 4 (cfCols.flatMap strC) := Sl.of_own hol
    go_wp2_with fail
    refine (text_c _ 4 4 _ cfCols lo b (a + 2) _ (hs1.next hbl) (by omega) hsl (Nat.le_refl _) (fun b' off e => by injection e with e; injection e with e; omega) (by omega) (by omega)).mono ?_
    rintro e w2 ⟨co, rfl, hcm, hs2, hg2⟩
    have hco := cfCols_ok co hcm
    have hcz : co.size ≤ 3 := by simp only [colorsB, Bool.and_eq_true, decide_eq_true_eq] at hco; exact hco.2.2
    have hoR := own_src (own_next HoR1.out hbl) hg2 hlt
    have hG2 := grown_trans hG1 (grown_trans (grown_of_below hbl) hg2)
    have Hco := Lib.hid hco; clear hco
    clear hcm hol hsl hbl hg2 hs1 hG1 HoR1 Hr1
    have hzz : w.heap.size ≤ w2.heap.size := hG2.size
    have hzR := (hoR.lt w.heap.size rfl).2
    have hbX : Below w2.heap.size w2 (w2.alloc (.cells #[.int .i64 4, .slice none 0 0, .string ⟨#[]⟩, .string co, .int .i64 0] 26)) := by (repeat (first | (with_reducible assumption) | (with_reducible exact Below.refl _ _) | exact Nat.le_refl _ | exact Below.size (by with_reducible assumption) | (with_reducible refine Below.drew ?_) | (with_reducible refine below_drewN ?_ _) | (with_reducible refine Below.alloc ?_ ?_ _) | (with_reducible refine Below.setCell ?_ ?_ _) | (with_reducible refine le_alloc ?_ _) | (with_reducible refine le_set ?_ _ _) | (with_reducible refine le_drew ?_) | (with_reducible refine le_drewN ?_ _) | omega | (dsimp only; omega)))
    have hst : DrawSt w (w2.alloc (.cells #[.int .i64 4, .slice none 0 0, .string ⟨#[]⟩, .string co, .int .i64 0] 26)) lo b (a + 4) w2.heap.size ⟨⟨4, [], ⟨#[]⟩, co, 0⟩, none, 0⟩ :=
      ⟨lit_own w2 w.heap.size 26 #[.int .i64 4, .slice none 0 0, .string ⟨#[]⟩, .string co, .int .i64 0] 1 5 hzz (by decide) rfl, own_next hoR hbX, by omega, hs2.next hbX, grown_trans hG2 (grown_of_below hbX), hlt⟩
    clear hoR hG2 hs2 hbX hzz hzR
    go_wp2_with fail
    refine (pick_c 3 lo b (a + 4) _ hst.src (by omega) (by omega)).mono ?_
    rintro e w5 ⟨q, rfl, q0, q1, hs5, hg5⟩
    have hst5 := hst.grown hs5 hg5
    have hq3 : q = 0 ∨ q = 1 ∨ q = 2 := by omega
    clear q0 q1 hs5 hg5 hst
    go_upto_if 17 with fail
    go_cut [3] (fun s3 wx => ∃ z : ChG, s3 = .pointer (some ⟨w2.heap.size, 0, none⟩) ∧ shapeB z.x = true ∧ z.x.p = 0 ∧ GrpOwn w wx z ∧ DrawSt w wx lo b (a + 10) w2.heap.size z)
    case first =>
      rcases hq3 with rfl | rfl | rfl
      · go_wp2_with fail
        go_meet
        exact ⟨⟨⟨4, [], ⟨#[]⟩, co, 0⟩, none, 0⟩, rfl, shape_of Hco.out (by simp [fitsB, isE]; decide), rfl, ⟨rfl, .inl ⟨rfl, rfl⟩⟩, hst5.more (by omega)⟩
      · have hbn : Below w5.heap.size w5 (w5.alloc (.cells #[.int .i64 2] 2)) := (Below.refl _ _).alloc (Nat.le_refl _) _
        have hstn := hst5.next hbn
        obtain ⟨c0, c1, c2, c3, c4⟩ := hstn.cells
        have fz := hstn.box.frozenAt
        have hgn : GrpOwn w (w5.alloc (.cells #[.int .i64 2] 2)) ⟨⟨4, [2], ⟨#[]⟩, co, 0⟩, some ⟨w5.heap.size, 0, none⟩, 1⟩ := lit_own w5 w.heap.size 2 #[.int .i64 2] 1 1 hst5.gr.size (by decide) rfl
        have hsts := hstn.store (z' := ⟨⟨4, [2], ⟨#[]⟩, co, 0⟩, some ⟨w5.heap.size, 0, none⟩, 1⟩) 1 (.slice (some ⟨w5.heap.size, 0, none⟩) 1 1) rfl
        have hgs2 := grp_store hstn hgn 1 (.slice (some ⟨w5.heap.size, 0, none⟩) 1 1)
        have hfit : fitsB ⟨4, [2], ⟨#[]⟩, co, 0⟩ = true := by simp [fitsB, isE]; decide
        have Hfit := Lib.hid hfit; clear hfit
        go_wp2_with fail
        go_meet
        exact ⟨⟨⟨4, [2], ⟨#[]⟩, co, 0⟩, some ⟨w5.heap.size, 0, none⟩, 1⟩, rfl, shape_of Hco.out Hfit.out, rfl, hgs2, hsts.more (by omega)⟩
      · have hbn : Below w5.heap.size w5 (w5.alloc (.cells #[.int .i64 3] 2)) := (Below.refl _ _).alloc (Nat.le_refl _) _
        have hstn := hst5.next hbn
        obtain ⟨c0, c1, c2, c3, c4⟩ := hstn.cells
        have fz := hstn.box.frozenAt
        have hgn : GrpOwn w (w5.alloc (.cells #[.int .i64 3] 2)) ⟨⟨4, [3], ⟨#[]⟩, co, 0⟩, some ⟨w5.heap.size, 0, none⟩, 1⟩ := lit_own w5 w.heap.size 2 #[.int .i64 3] 1 1 hst5.gr.size (by decide) rfl
        have hsts := hstn.store (z' := ⟨⟨4, [3], ⟨#[]⟩, co, 0⟩, some ⟨w5.heap.size, 0, none⟩, 1⟩) 1 (.slice (some ⟨w5.heap.size, 0, none⟩) 1 1) rfl
        have hgs2 := grp_store hstn hgn 1 (.slice (some ⟨w5.heap.size, 0, none⟩) 1 1)
        have hfit : fitsB ⟨4, [3], ⟨#[]⟩, co, 0⟩ = true := by simp [fitsB, isE]; decide
        have Hfit := Lib.hid hfit; clear hfit
        go_wp2_with fail
        go_meet
        exact ⟨⟨⟨4, [3], ⟨#[]⟩, co, 0⟩, some ⟨w5.heap.size, 0, none⟩, 1⟩, rfl, shape_of Hco.out Hfit.out, rfl, hgs2, hsts.more (by omega)⟩
    case rest =>
      obtain ⟨⟨⟨k, gs, l, cs, p⟩, A, c⟩, rfl, hsh, hp, hgr, hst⟩ := hcut
      clear hst5 hq3
      obtain rfl : p = 0 := hp
      obtain ⟨z1, z2, z3⟩ := shape_sizes hsh
      dsimp only at z1 z2 z3
      have hch := hst.chp hgr (show gs.length ≤ 1048576 by omega) (show l.size ≤ 1048576 by omega) (show cs.size ≤ 1048576 by omega)
      have hl6 := least_600 hsh
      have hl0 := (leastI_bd hsh).1
      obtain ⟨L, hL⟩ : ∃ L, leastI ⟨k, gs, l, cs, 0⟩ = L := ⟨_, rfl⟩
      rw [hL] at hl6 hl0
      have HL := Lib.hid hL; clear hL
      go_wp2_with fail
      refine (l05Least_c w2.heap.size 0 A gs.length c ⟨k, gs, l, cs, 0⟩ _ hch hsh).mono ?_
      rintro e w6 ⟨rfl, hb6⟩
      rw [HL.out]
      replace hst := hst.next hb6
      replace hgr := own_next hgr hb6
      clear hch
      have Hsh := Lib.hid hsh; clear hsh
      have hbl : Below w6.heap.size w6 (w6.alloc (.cells #[.int .i64 0, .int .i64 5, .int .i64 10, .int .i64 30, .int .i64 60] 2)) := (Below.refl _ _).alloc (Nat.le_refl _) _
      have hol := lit_own w6 w6.heap.size 2 #[.int .i64 0, .int .i64 5, .int .i64 10, .int .i64 30, .int .i64 60] 5 1 (Nat.le_refl _) (by decide) rfl
      have hsl : Sl _ _ 1 _ 5 (([0, 5, 10, 30, 60] : List Int).flatMap intC) := Sl.of_own hol
      have hlt6 := hst.src.lt.2
      go_wp2_with fail
      refine (among_c _ 5 5 _ [0, 5, 10, 30, 60] lo b (a + 10) _ (hst.next hbl).src (by omega) hsl (Nat.le_refl _) (fun b' off e => by injection e with e; injection e with e; omega) (by omega) (by omega)).mono ?_
      rintro e w8 ⟨q, rfl, hq, hs8, hg8⟩
      have hst8 := (hst.next hbl).grown hs8 hg8
      have hgr8 := own_src (own_next hgr hbl) hg8 hlt
      have hqb : 0 ≤ q ∧ q ≤ 60 := by simp at hq; omega
      have hwp : IntKind.i64.wrap (L + q) = L + q := IntWalk.i64_in _ (by omega)
      obtain ⟨p1, hp1⟩ : ∃ p1, L + q = p1 := ⟨_, rfl⟩
      have hp2 : 0 ≤ p1 ∧ p1 ≤ 660 := by omega
      rw [hp1] at hwp
      have hst9 := hst8.store (z' := ⟨⟨k, gs, l, cs, p1⟩, A, c⟩) 4 (.int .i64 p1) rfl
      have hgr9 : GrpOwn w (w8.setCell ⟨w2.heap.size, 4, none⟩ (.int .i64 p1)) ⟨⟨k, gs, l, cs, p1⟩, A, c⟩ := grp_store (z' := ⟨⟨k, gs, l, cs, p1⟩, A, c⟩) hst8 hgr8 4 (.int .i64 p1)
      clear hq hol hsl hbl hs8 hg8
      have d4 := hst8.cells.2.2.2.2
      have fz8 := hst8.box.frozenAt
      obtain ⟨c0, c1, c2, c3, c4⟩ := hst9.cells
      dsimp only [ChG.n] at c0 c1 c2 c3 c4
      have fz9 := hst9.box.frozenAt
      have fr := (hst9).res.frozenAt
      have r0 := (hst9).res.cellAt 0 (by omega)
      have r1 := (hst9).res.cellAt 1 (by omega)
      have r2 := (hst9).res.cellAt 2 (by omega)
      have r3 := (hst9).res.cellAt 3 (by omega)
      have r4 := (hst9).res.cellAt 4 (by omega)
      simp only [List.getElem?_cons_zero, List.getElem?_cons_succ] at r0 r1 r2 r3 r4
      obtain ⟨g1, g2, g3, e0, e1, e2, e3, e4⟩ := hst9.fin hgr9 (.int .i64 k) (.slice A gs.length c) (.string l) (.string cs) (.int .i64 p1)
      have hshp : shapeB ⟨k, gs, l, cs, p1⟩ = true := Hsh.out
      have hsm : Smal ⟨k, gs, l, cs, p1⟩ := smal_shape hshp (by dsimp only; omega)
      have Hshp := Lib.hid hshp; clear hshp
      have Hsm := Lib.hid hsm; clear hsm
      go_wp2_with fail
      refine bodyPost_ret (v := chV k A gs.length c l cs p1) (by simp [results, Try.results44, go_sem, e0, e1, e2, e3, e4]) rfl ⟨⟨⟨k, gs, l, cs, p1⟩, A, c⟩, rfl, Hshp.out, Hsm.out, g1, g2.more (by omega), g3⟩
  · go_wp2_with fail
    refine (l05Draw_c lo b (a + 2) _ hs1 (by omega)).mono ?_
    rintro e w2 ⟨z, rfl, hv, ho, hs2, hg2⟩
    have hr2 := row_grownC Hr1.out hg2 (by intro e; injection e with e; omega)
    have H2 := grown_trans hG1 hg2
    have a0 := (cell_of_row w2 w.heap.size 0 _ _ _ hr2).trans rfl
    have a1 := (cell_of_row w2 w.heap.size 1 _ _ _ hr2).trans rfl
    have a2 := (cell_of_row w2 w.heap.size 2 _ _ _ hr2).trans rfl
    have a3 := (cell_of_row w2 w.heap.size 3 _ _ _ hr2).trans rfl
    have a4 := (cell_of_row w2 w.heap.size 4 _ _ _ hr2).trans rfl
    have fz := fun j => frozen_of_row w2 w.heap.size j _ _ hr2
    have hoR2 := own_src HoR1.out hg2 hlt
    have s0 := hoR2.stored 0 (.int .i64 z.x.k)
    have s1 := s0.1.stored 1 (.slice z.A z.n z.c)
    have s2 := s1.1.stored 2 (.string z.x.l)
    have s3 := s2.1.stored 3 (.string z.x.cs)
    have s4 := s3.1.stored 4 (.int .i64 z.x.p)
    have sg := grown_trans (grown_trans (grown_trans (grown_trans s0.2 s1.2) s2.2) s3.2) s4.2
    have hgF := own_base (own_grown ho sg (own_ne ho hoR2 (by decide))) (Nat.le_of_lt hlt1)
    have hsF := hs2
    obtain ⟨A', n', c', a', seed', bs', q1, q2, q3, q4, q5, q6⟩ := hsF
    have hsF : Src _ lo b (a + 42) := ⟨A', n', c', a', seed', bs', q1, own_grown q2 sg (own_ne q2 hoR2 (by decide)), q3.grown sg q6 (fun g hg => by simp at hg; have := hs2.lt; omega), q4, q5, Nat.le_trans q6 sg.size⟩
    have hGF : w.grownBy _ (some b) := ⟨sg.os.trans H2.os, sg.tape.trans H2.tape, sg.output.trans H2.output, Nat.le_trans H2.size sg.size, fun k hk hne => (sg.block k (Nat.lt_of_lt_of_le hk H2.size) (by simp; omega)).trans (H2.block k hk hne)⟩
    have hsm := smal_valid hv
    have hsh := valid_shape hv
    have hsF2 := hsF.more (a2 := a + 60) (by omega)
    clear hsF s0 s1 s2 s3 s4 sg q1 q2 q3 q4 q5 q6
    have Hsm := Lib.hid hsm; clear hsm
    have Hsh := Lib.hid hsh; clear hsh
    have HgF := Lib.hid hgF; clear hgF
    have HsF := Lib.hid hsF2; clear hsF2
    have HGF := Lib.hid hGF; clear hGF
    have Hv := Lib.hid hv; clear hv
    clear hs2 hoR2 ho hg2 H2 hr2 hG1 hs1
    go_wp2_with fail
    refine bodyPost_ret (v := chV z.x.k z.A z.n z.c z.x.l z.x.cs z.x.p) (by simp [results, Try.results44, go_sem, a0, a1, a2, a3, a4]) rfl ⟨z, rfl, Hsh.out, Hsm.out, HgF.out, HsF.out, HGF.out⟩
end Go.Proofs.Ytgibbhipjpbdfaa

/- A character of its own: the reference (as OwnS, without the aids). -/
namespace Go.Proofs.Ytgibbhipjpbdfaa
open Go.RowKit
set_option maxHeartbeats 1000000 in
theorem l00Own_c (A : Option Addr) (n c : Nat) (xs : List Int) (w : World) (h : Sl w w.heap.size 1 A n (xs.flatMap intC)) (hm : n ≤ 1048576) :
    Calls Try.prog 81 #[.slice A n c] w fun e w' => ∃ A' c', e = .returned (.slice A' n c') ∧ w'.ownsRow w.heap.size 2 1 (.slice A' n c') n (xs.flatMap intC) ∧ Below w.heap.size w w' := by
  obtain ⟨i0, hi, hz0, hz1, hz2⟩ := info_parts intInfo
  have hov := World.ownsRow_made (base := w.heap.size) (e := 2) (size := 1) w #[] 0 (Nat.le_refl _) (by simp [maxLen]) rfl
  have hbv : Below w.heap.size w (w.alloc (.cells #[] 2)) := (Below.refl _ _).alloc (Nat.le_refl _) _
  have e63 : 0 + n ≤ maxLen := by unfold maxLen; omega
  have e32 : (0 + n) * 8 ≤ 140737488355328 := by omega
  have hS := h.next hbv
  have hle := hbv.size
  have HOV := Lib.hid hov; clear hov
  have E63 := Lib.hid e63; clear e63
  have E32 := Lib.hid e32; clear e32
  have HS := Lib.hid hS; clear hS
  have HLE := Lib.hid hle; clear hle
  go_enter Try.func81, Try.ntmps81
  go_wp2_with (at_builtin; refine wpl_append _ rfl (.tmp 3) (.tmp 4) _ rfl w.heap.size 2 i0 _ 1 8 Try.underlying24 hi hz0 hz1 hz2 rfl (by omega) _ 0 _ rfl HOV.out _ A n c (xs.flatMap intC) rfl HS.out (flat_one _ intC_one xs) E63.out E32.out HLE.out ?_; intro v2 w2 ho2 hg2 hat2)
  go_ret
  rw [Nat.zero_add] at ho2
  obtain ⟨A', c', rfl⟩ := own_slice ho2
  exact ⟨A', c', rfl, by simpa using ho2, hbv.grown hg2 HLE.out fun g hg => (HOV.out.lt g hg).1⟩
set_option maxRecDepth 100000 in
set_option maxHeartbeats 1000000 in
theorem l05Own_c (b o : Nat) (A : Option Addr) (n c : Nat) (x : Ch) (w : World) (h : ChP w b o A n c x) :
    Calls Try.prog 46 #[.pointer (some ⟨b, o, none⟩)] w fun e w' => ∃ A' c', e = .returned (chV x.k A' n c' x.l x.cs x.p) ∧ w'.ownsRow w.heap.size 2 1 (.slice A' n c') n (x.gs.flatMap intC) ∧ Below w.heap.size w w' := by
  obtain ⟨k, gs, l, cs, p⟩ := x
  obtain ⟨c0, c1, c2, c3, c4, hb, sl, hn, hl, hs⟩ := h
  simp only at c0 c1 c2 c3 c4 sl hl hs
  go_enter Try.func46, Try.ntmps46
  go_wp2_with fail
  refine (l00Own_c A n c gs _ (sl.next (by (repeat (first | (with_reducible assumption) | (with_reducible exact Below.refl _ _) | exact Nat.le_refl _ | exact Below.size (by with_reducible assumption) | (with_reducible refine Below.drew ?_) | (with_reducible refine below_drewN ?_ _) | (with_reducible refine Below.alloc ?_ ?_ _) | (with_reducible refine Below.setCell ?_ ?_ _) | (with_reducible refine le_alloc ?_ _) | (with_reducible refine le_set ?_ _ _) | (with_reducible refine le_drew ?_) | (with_reducible refine le_drewN ?_ _) | omega | (dsimp only; omega))))) hn).mono ?_
  rintro e w1 ⟨A1, c1', rfl, ho, hb1⟩
  have q0 := keepC hb1 w.heap.size (by simp only [World.size_alloc]; omega)
  have q1 := keepC hb1 (w.heap.size + 1) (by simp only [World.size_alloc]; omega)
  have f0 := keepF hb1 w.heap.size (by simp only [World.size_alloc]; omega)
  have f1 := keepF hb1 (w.heap.size + 1) (by simp only [World.size_alloc]; omega)
  have hbw : Below w.heap.size w w1 := Below.trans (by (repeat (first | (with_reducible assumption) | (with_reducible exact Below.refl _ _) | exact Nat.le_refl _ | exact Below.size (by with_reducible assumption) | (with_reducible refine Below.drew ?_) | (with_reducible refine below_drewN ?_ _) | (with_reducible refine Below.alloc ?_ ?_ _) | (with_reducible refine Below.setCell ?_ ?_ _) | (with_reducible refine le_alloc ?_ _) | (with_reducible refine le_set ?_ _ _) | (with_reducible refine le_drew ?_) | (with_reducible refine le_drewN ?_ _) | omega | (dsimp only; omega)))) (hb1.mono (by simp only [World.size_alloc]; omega))
  clear c0 c1 c2 c3 c4
  go_wp2_with fail
  refine bodyPost_ret (v := chV k A1 n c1' l cs p) (by simp [results, Try.results46, go_sem, q0]) rfl ⟨A1, c1', rfl, ?_, ?_⟩
  · refine own_base (base := ((w.heap.size + 1) + 1)) ?_ (by omega)
    simp only [World.size_alloc] at ho
    repeat (refine ownsRow_setCell_below ?_ (by dsimp only; omega) _)
    exact ho
  · (repeat (first | (with_reducible assumption) | (with_reducible exact Below.refl _ _) | exact Nat.le_refl _ | exact Below.size (by with_reducible assumption) | (with_reducible refine Below.drew ?_) | (with_reducible refine below_drewN ?_ _) | (with_reducible refine Below.alloc ?_ ?_ _) | (with_reducible refine Below.setCell ?_ ?_ _) | (with_reducible refine le_alloc ?_ _) | (with_reducible refine le_set ?_ _ _) | (with_reducible refine le_drew ?_) | (with_reducible refine le_drewN ?_ _) | omega | (dsimp only; omega)))
end Go.Proofs.Ytgibbhipjpbdfaa

/- A character that is seldom not valid, and what FnRecognition draws. -/
namespace Go.Proofs.Ytgibbhipjpbdfaa
open Go.RowKit
def bentCols : List ByteArray := [⟨#[]⟩, ⟨#[82, 87]⟩, ⟨#[87, 87]⟩, ⟨#[87, 82, 71, 89]⟩, ⟨#[66]⟩, ⟨#[87, 82, 89]⟩]
theorem bentCols_bd : ∀ r ∈ bentCols, r.size ≤ 16 := by decide
def bentLtrs : List ByteArray := [⟨#[76]⟩, ⟨#[65]⟩, ⟨#[97]⟩, ⟨#[65, 66]⟩, ⟨#[]⟩]
theorem bentLtrs_bd : ∀ r ∈ bentLtrs, r.size ≤ 16 := by decide
def BentAns (lo b a : Nat) (w : World) (e : Ending) (w' : World) : Prop := ∃ z : ChG, e = .returned (chV z.x.k z.A z.n z.c z.x.l z.x.cs z.x.p) ∧ Smal z.x ∧ GrpOwn w w' z ∧ Src w' lo b a ∧ w.grownBy w' (some b)
set_option maxRecDepth 100000 in
set_option maxHeartbeats 8000000 in
theorem l05Bent_c (lo b a : Nat) (w : World) (h : Src w lo b a) (ha : a ≤ 700000000) :
    Calls Try.prog 48 #[.pointer (some ⟨b, 0, none⟩)] w (BentAns lo b (a + 60) w) := by
  have hbA : Below w.heap.size w (w.alloc (.cells #[.int .i64 0, .slice none 0 0, .string ⟨#[]⟩, .string ⟨#[]⟩, .int .i64 0] 26)) := by (repeat (first | (with_reducible assumption) | (with_reducible exact Below.refl _ _) | exact Nat.le_refl _ | exact Below.size (by with_reducible assumption) | (with_reducible refine Below.drew ?_) | (with_reducible refine below_drewN ?_ _) | (with_reducible refine Below.alloc ?_ ?_ _) | (with_reducible refine Below.setCell ?_ ?_ _) | (with_reducible refine le_alloc ?_ _) | (with_reducible refine le_set ?_ _ _) | (with_reducible refine le_drew ?_) | (with_reducible refine le_drewN ?_ _) | omega | (dsimp only; omega)))
  have hoR := lit_own w w.heap.size 26 #[.int .i64 0, .slice none 0 0, .string ⟨#[]⟩, .string ⟨#[]⟩, .int .i64 0] 1 5 (Nat.le_refl _) (by decide) rfl
  have hlt := h.lt.2
  obtain ⟨p0, hp, hy0, hy1, hy2⟩ := info_parts intInfo
  have hz0 : w.heap.size < (w.alloc (.cells #[.int .i64 0, .slice none 0 0, .string ⟨#[]⟩, .string ⟨#[]⟩, .int .i64 0] 26)).heap.size := by simp
  have HoR := Lib.hid hoR; clear hoR
  go_enter Try.func48, Try.ntmps48
  go_wp2_with fail
  generalize w.alloc (.cells #[.int .i64 0, .slice none 0 0, .string ⟨#[]⟩, .string ⟨#[]⟩, .int .i64 0] 26) = w0 at *
  refine (l05Draw_c lo b a _ (h.next hbA) (by omega)).mono ?_
  rintro e w2 ⟨⟨⟨k, gs, l, cs, p⟩, A, c⟩, rfl, hv, hgr, hs2, hg2⟩
  have hsm := smal_valid hv
  have hgl := (shape_sizes (valid_shape hv)).1
  have hpb := valid_p hv
  dsimp only at hgr hgl hpb
  replace hoR := own_src HoR.out hg2 hlt
  have hG2 : w.grownBy w2 (some b) := grown_trans (grown_of_below hbA) hg2
  have hzz : w.heap.size ≤ w2.heap.size := hG2.size
  have hzR := (hoR.lt w.heap.size rfl).2
  have hbX : Below w2.heap.size w2 (w2.alloc (.cells #[.int .i64 k, .slice A gs.length c, .string l, .string cs, .int .i64 p] 26)) := by (repeat (first | (with_reducible assumption) | (with_reducible exact Below.refl _ _) | exact Nat.le_refl _ | exact Below.size (by with_reducible assumption) | (with_reducible refine Below.drew ?_) | (with_reducible refine below_drewN ?_ _) | (with_reducible refine Below.alloc ?_ ?_ _) | (with_reducible refine Below.setCell ?_ ?_ _) | (with_reducible refine le_alloc ?_ _) | (with_reducible refine le_set ?_ _ _) | (with_reducible refine le_drew ?_) | (with_reducible refine le_drewN ?_ _) | omega | (dsimp only; omega)))
  have hst : DrawSt w (w2.alloc (.cells #[.int .i64 k, .slice A gs.length c, .string l, .string cs, .int .i64 p] 26)) lo b (a + 40) w2.heap.size ⟨⟨k, gs, l, cs, p⟩, A, c⟩ :=
    ⟨lit_own w2 w.heap.size 26 #[.int .i64 k, .slice A gs.length c, .string l, .string cs, .int .i64 p] 1 5 hzz (by decide) rfl, own_next hoR hbX, by omega, hs2.next hbX, grown_trans hG2 (grown_of_below hbX), hlt⟩
  have hgr3 : GrpOwn w (w2.alloc (.cells #[.int .i64 k, .slice A gs.length c, .string l, .string cs, .int .i64 p] 26)) ⟨⟨k, gs, l, cs, p⟩, A, c⟩ := own_next (own_base hgr (by omega)) hbX
  clear hoR hG2 hs2 hgr hg2 hbA HoR hv h
  go_wp2_with fail
  generalize w2.alloc (.cells #[.int .i64 k, .slice A gs.length c, .string l, .string cs, .int .i64 p] 26) = w3 at *
  refine (pick_c 24 lo b (a + 40) _ hst.src (by omega) (by omega)).mono ?_
  rintro e w5 ⟨q, rfl, q0, q1, hs5, hg5⟩
  have hst5 := hst.grown hs5 hg5
  have hgr5 : GrpOwn w w5 ⟨⟨k, gs, l, cs, p⟩, A, c⟩ := own_src hgr3 hg5 hlt
  clear hst hgr3 hs5 hg5 hbX hz0
  go_upto_block 0 with fail
  go_cut [3] (fun s3 wx => ∃ z : ChG, s3 = .pointer (some ⟨w2.heap.size, 0, none⟩) ∧ Smal z.x ∧ GrpOwn w wx z ∧ DrawSt w wx lo b (a + 60) w2.heap.size z)
  case first =>
    obtain ⟨c0, c1, c2, c3, c4⟩ := hst5.cells
    dsimp only [ChG.n] at c0 c1 c2 c3 c4
    have fz := hst5.box.frozenAt
    have hlt5 := hst5.src.lt.2
    rcases (show q = 0 ∨ q = 1 ∨ q = 2 ∨ q = 3 ∨ q = 4 ∨ q = 5 ∨ 6 ≤ q by omega) with rfl | rfl | rfl | rfl | rfl | rfl | h6
    · clear c0 c1 c2 c3 c4 fz
      go_wp2_with fail
      refine (pick_c 11 lo b (a + 42) _ hst5.src (by omega) (by omega)).mono ?_
      rintro e w6 ⟨q, rfl, r0, r1, hs6, hg6⟩
      have hst6 := hst5.grown hs6 hg6
      have hgr6 := own_src hgr5 hg6 hlt
      have c0 := hst6.cells.1
      have fz6 := hst6.box.frozenAt
      have hstF := hst6.store (z' := ⟨⟨IntKind.i64.wrap (q - 1), gs, l, cs, p⟩, A, c⟩) 0 (.int .i64 (IntKind.i64.wrap (q - 1))) rfl
      have hgF := grp_store (z' := ⟨⟨IntKind.i64.wrap (q - 1), gs, l, cs, p⟩, A, c⟩) hst6 hgr6 0 (.int .i64 (IntKind.i64.wrap (q - 1)))
      have hwq : IntKind.i64.wrap (q - 1) = q - 1 := IntWalk.i64_in _ (by omega)
      rw [hwq] at hstF hgF
      go_wp2_with fail
      go_meet
      exact ⟨(⟨⟨q - 1, gs, l, cs, p⟩, A, c⟩ : ChG), rfl, ⟨by first | exact hsm.g | (simp; done) | (simp; omega), by first | exact hsm.l | assumption | exact Nat.zero_le _, by first | exact hsm.c | assumption | (simp; done), by first | exact hsm.p | (dsimp only; omega)⟩, hgF, hstF.more (by omega)⟩
    · have hbl : Below w5.heap.size w5 (w5.alloc (.cells #[.string ⟨#[]⟩, .string ⟨#[82, 87]⟩, .string ⟨#[87, 87]⟩, .string ⟨#[87, 82, 71, 89]⟩, .string ⟨#[66]⟩, .string ⟨#[87, 82, 89]⟩] 9)) := (Below.refl _ _).alloc (Nat.le_refl _) _
      have hol := lit_own w5 w5.heap.size 9 #[.string ⟨#[]⟩, .string ⟨#[82, 87]⟩, .string ⟨#[87, 87]⟩, .string ⟨#[87, 82, 71, 89]⟩, .string ⟨#[66]⟩, .string ⟨#[87, 82, 89]⟩] 6 1 (Nat.le_refl _) (by decide) rfl
      have hsl : Sl _ _ 1 _ 6 (bentCols.flatMap strC) := Sl.of_own hol
      clear c0 c1 c2 c3 c4 fz
      go_wp2_with fail
      refine (text_c _ 6 6 _ bentCols lo b (a + 42) _ (hst5.next hbl).src (by omega) hsl (Nat.le_refl _) (fun b' off e => by injection e with e; injection e with e; omega) (by omega) (by omega)).mono ?_
      rintro e w6 ⟨co, rfl, hcm, hs6, hg6⟩
      have hcz := bentCols_bd co hcm
      have hst6 := (hst5.next hbl).grown hs6 hg6
      have hgr6 := own_src (own_next hgr5 hbl) hg6 hlt
      have c3 := hst6.cells.2.2.2.1
      have fz6 := hst6.box.frozenAt
      have hstF := hst6.store (z' := ⟨⟨k, gs, l, co, p⟩, A, c⟩) 3 (.string co) rfl
      have hgF := grp_store (z' := ⟨⟨k, gs, l, co, p⟩, A, c⟩) hst6 hgr6 3 (.string co)
      clear hcm hol hsl hbl
      go_wp2_with fail
      go_meet
      exact ⟨(⟨⟨k, gs, l, co, p⟩, A, c⟩ : ChG), rfl, ⟨by first | exact hsm.g | (simp; done) | (simp; omega), by first | exact hsm.l | assumption | exact Nat.zero_le _, by first | exact hsm.c | assumption | (simp; done), by first | exact hsm.p | (dsimp only; omega)⟩, hgF, hstF.more (by omega)⟩
    · have hwp : IntKind.i64.wrap (p - 1) = p - 1 := IntWalk.i64_in _ (by omega)
      have hbl : Below w5.heap.size w5 (w5.alloc (.cells #[.int .i64 0, .int .i64 (p - 1), .int .i64 600, .int .i64 601, .int .i64 21] 2)) := (Below.refl _ _).alloc (Nat.le_refl _) _
      have hol := lit_own w5 w5.heap.size 2 #[.int .i64 0, .int .i64 (p - 1), .int .i64 600, .int .i64 601, .int .i64 21] 5 1 (Nat.le_refl _) (by decide) rfl
      have hsl : Sl _ _ 1 _ 5 (([0, p - 1, 600, 601, 21] : List Int).flatMap intC) := Sl.of_own hol
      go_wp2_with fail
      refine (among_c _ 5 5 _ [0, p - 1, 600, 601, 21] lo b (a + 42) _ (hst5.next hbl).src (by omega) hsl (Nat.le_refl _) (fun b' off e => by injection e with e; injection e with e; omega) (by omega) (by omega)).mono ?_
      rintro e w6 ⟨q, rfl, hq, hs6, hg6⟩
      have hqb : -1 ≤ q ∧ q ≤ 601 := by simp at hq; omega
      have hst6 := (hst5.next hbl).grown hs6 hg6
      have hgr6 := own_src (own_next hgr5 hbl) hg6 hlt
      clear hq hol hsl hbl c0 c1 c2 c3 c4 fz hwp
      have c4 := hst6.cells.2.2.2.2
      have fz6 := hst6.box.frozenAt
      have hstF := hst6.store (z' := ⟨⟨k, gs, l, cs, q⟩, A, c⟩) 4 (.int .i64 q) rfl
      have hgF := grp_store (z' := ⟨⟨k, gs, l, cs, q⟩, A, c⟩) hst6 hgr6 4 (.int .i64 q)
      go_wp2_with fail
      go_meet
      exact ⟨(⟨⟨k, gs, l, cs, q⟩, A, c⟩ : ChG), rfl, ⟨by first | exact hsm.g | (simp; done) | (simp; omega), by first | exact hsm.l | assumption | exact Nat.zero_le _, by first | exact hsm.c | assumption | (simp; done), by first | exact hsm.p | (dsimp only; omega)⟩, hgF, hstF.more (by omega)⟩
    · have f63 : gs.length + 1 ≤ maxLen := by unfold maxLen; omega
      have f32 : (gs.length + 1) * 8 ≤ 140737488355328 := by omega
      have hbl : Below w5.heap.size w5 (w5.alloc (.cells #[.int .i64 0, .int .i64 1, .int .i64 9, .int .i64 10] 2)) := (Below.refl _ _).alloc (Nat.le_refl _) _
      have hol := lit_own w5 w5.heap.size 2 #[.int .i64 0, .int .i64 1, .int .i64 9, .int .i64 10] 4 1 (Nat.le_refl _) (by decide) rfl
      have hol2 := own_next hol (Below.refl _ _).drew
      have hsl : Sl _ _ 1 _ 4 (([0, 1, 9, 10] : List Int).flatMap intC) := Sl.of_own hol2
      have hd5 := hst5.next (wy := w5.drew) (Below.refl _ _).drew
      have hst5b := hst5.next hbl
      have hst6 := (hst5b.next (Below.refl _ _).drew).more (a' := a + 45) (by omega)
      have hgr6 := own_next (own_next hgr5 hbl) (Below.refl _ _).drew
      have d1 := hst5.cells.2.1
      have d6 := hst5b.cells.2.1
      dsimp only [ChG.n] at d1 d6
      have hltD := hd5.src.lt.2
      have F63 := Lib.hid f63; clear f63
      have F32 := Lib.hid f32; clear f32
      clear hd5 hbl hol hol2 hst5b c0 c1 c2 c3 c4 fz
      go_wp2
      refine wp_region_any (by kernel_rfl) (show wpAny _ _ _ _ _ _ _ (World.drew _) from ?_)
      (first
        | (refine wpAny_take (i := 0) (v := ?_) rfl (by kernel_rfl) (by kernel_rfl) (by kernel_rfl) (fun _ _ _ h => h) (Or.inl ⟨by rfl, ?_⟩) ?_
           rotate_left
           focus (intro wq; go_simp; (try (with_reducible rfl)); done))
        | fail "take 0")
      try simp only [Act.put, List.setIfInBounds_toArray, List.set_cons_zero, List.set_cons_succ, List.getElem_toArray, List.getElem_cons_zero]
      (first
        | (refine wpAny_take (i := 2) (v := ?_) rfl (by kernel_rfl) (by kernel_rfl) (by kernel_rfl) (fun _ _ _ h => h) (Or.inl ⟨by rfl, ?_⟩) ?_
           rotate_left
           focus (intro wq; go_simp; (try (with_reducible rfl)); done))
        | fail "take 2")
      try simp only [Act.put, List.setIfInBounds_toArray, List.set_cons_zero, List.set_cons_succ, List.getElem_toArray, List.getElem_cons_zero, List.getElem_cons_succ]
      refine wpAny_ready (rs := [1, 3]) (by kernel_rfl) (by simp) ?_
      refine allReadyS_cons (o := _) rfl (fun K hK => ?_) (allReadyS_cons (o := _) rfl (fun K hK => ?_) AllReady.nil)
      · go_simp
        skip
        refine hK.out _ _ ?_
        clear hK K
        try simp only [Act.put, List.setIfInBounds_toArray, List.set_cons_zero, List.set_cons_succ, List.getElem_toArray, List.getElem_cons_zero, List.getElem_cons_succ]
        refine wpAny_ready (rs := [3]) (by kernel_rfl) (by simp) ?_
        refine allReadyS_cons (o := _) rfl (fun K hK => ?_) AllReady.nil
        go_simp
        skip
        refine hK.out _ _ ?_
        clear hK K
        try simp only [Act.put, List.setIfInBounds_toArray, List.set_cons_zero, List.set_cons_succ, List.getElem_toArray, List.getElem_cons_zero, List.getElem_cons_succ]
        refine wpAny_ready (rs := [4]) (by kernel_rfl) (by simp) ?_
        refine allReadyS_cons (o := _) rfl (fun K hK => ?_) AllReady.nil
        go_simp
        refine (among_c _ 4 4 _ [0, 1, 9, 10] lo b (a + 45) _ hst6.src (by omega) hsl (Nat.le_refl _) (fun b' off e => by injection e with e; injection e with e; omega) (by omega) (by omega)).mono ?_
        rintro e w7 ⟨q, rfl, hq, hs7, hg7⟩
        have hst7 := hst6.grown hs7 hg7
        have hgr7 := own_src hgr6 hg7 hlt
        have c7c := hst7.cells.2.1
        dsimp only [ChG.n] at c7c
        have c7b := (hst7.next ((Below.refl w7.heap.size w7).alloc (Nat.le_refl _) (.cells #[.int .i64 q] 2))).cells.2.1
        dsimp only [ChG.n] at c7b
        refine hK.out _ _ ?_
        clear hK K
        try simp only [Act.put, List.setIfInBounds_toArray, List.set_cons_zero, List.set_cons_succ, List.getElem_toArray, List.getElem_cons_zero, List.getElem_cons_succ]
        refine wpAny_ready (rs := [5]) (by kernel_rfl) (by simp) ?_
        refine allReadyS_cons (o := _) rfl (fun K hK => ?_) AllReady.nil
        go_simp
        skip
        refine hK.out _ _ ?_
        clear hK K
        try simp only [Act.put, List.setIfInBounds_toArray, List.set_cons_zero, List.set_cons_succ, List.getElem_toArray, List.getElem_cons_zero, List.getElem_cons_succ]
        have hb6 : Below w7.heap.size w7 (w7.alloc (.cells #[.int .i64 q] 2)) := (Below.refl w7.heap.size w7).alloc (Nat.le_refl _) _
        have hz6 : w.heap.size ≤ (w7.alloc (.cells #[.int .i64 q] 2)).heap.size := Nat.le_trans hst7.gr.size hb6.size
        refine wpAny_ready (rs := [6]) (by kernel_rfl) (by simp) ?_
        refine allReadyS_cons (o := _) rfl (fun K hK => ?_) AllReady.nil
        refine step_append _ rfl (.tmp 32) (.tmp 36) _ rfl w.heap.size 2 p0 _ 1 8 Try.underlying24 hp hy0 hy1 hy2 rfl (by omega) _ gs.length _ rfl (hgr7.alloc _) (w7.heap.size + 1) (some ⟨w7.heap.size, 0, none⟩) 1 1 (intC q) rfl (Sl.new w7 2 _ 1 1 rfl) (intC_one _) F63.out F32.out hz6 ?_
        intro v8 w8 ho8 hg8 _
        refine hK.out _ _ ?_
        clear hK K
        try simp only [Act.put, List.setIfInBounds_toArray, List.set_cons_zero, List.set_cons_succ, List.getElem_toArray, List.getElem_cons_zero, List.getElem_cons_succ]
        obtain ⟨A8, c8, rfl⟩ := own_slice ho8
        have hst8 := (hst7.next hb6).app (own_next hgr7 hb6) hg8
        have c8c := hst8.cells.2.1
        have fz8 := hst8.box.frozenAt
        have hstF := hst8.store (z' := ⟨⟨k, gs ++ [q], l, cs, p⟩, A8, c8⟩) 1 (.slice A8 (gs.length + 1) c8) (by simp [ChG.cells, ChG.n])
        have hgF : GrpOwn w (w8.setCell ⟨w2.heap.size, 1, none⟩ (.slice A8 (gs.length + 1) c8)) ⟨⟨k, gs ++ [q], l, cs, p⟩, A8, c8⟩ := grp_store hst8 (by simpa [GrpOwn, ChG.n] using ho8) 1 _
        (first
          | (refine wpAny_take (i := 7) (v := ?_) rfl (by kernel_rfl) (by kernel_rfl) (by kernel_rfl) (fun _ _ _ h => h) (Or.inl ⟨by rfl, ?_⟩) ?_
             rotate_left
             focus (intro wq; go_simp; (try (with_reducible rfl)); done))
          | fail "take 7")
        try simp only [Act.put, List.setIfInBounds_toArray, List.set_cons_zero, List.set_cons_succ, List.getElem_toArray, List.getElem_cons_zero, List.getElem_cons_succ]
        refine wpAny_ready (rs := [8]) (by kernel_rfl) (by simp) ?_
        refine allReadyS_cons (o := _) rfl (fun K hK => ?_) AllReady.nil
        go_simp
        skip
        refine hK.out _ _ ?_
        clear hK K
        try simp only [Act.put, List.setIfInBounds_toArray, List.set_cons_zero, List.set_cons_succ, List.getElem_toArray, List.getElem_cons_zero, List.getElem_cons_succ]
        refine wpAny_done (by kernel_rfl) ?_ _
        clear F63 F32 hst8 hst7
        go_wp2_with fail
        go_meet
        exact ⟨(⟨⟨k, gs ++ [q], l, cs, p⟩, A8, c8⟩ : ChG), rfl, ⟨by first | exact hsm.g | (simp; done) | (simp; omega), by first | exact hsm.l | assumption | exact Nat.zero_le _, by first | exact hsm.c | assumption | (simp; done), by first | exact hsm.p | (dsimp only; omega)⟩, hgF, hstF.more (by omega)⟩
      · go_simp
        skip
        refine hK.out _ _ ?_
        clear hK K
        try simp only [Act.put, List.setIfInBounds_toArray, List.set_cons_zero, List.set_cons_succ, List.getElem_toArray, List.getElem_cons_zero, List.getElem_cons_succ]
        refine wpAny_ready (rs := [1, 4]) (by kernel_rfl) (by simp) ?_
        refine allReadyS_cons (o := _) rfl (fun K hK => ?_) (allReadyS_cons (o := _) rfl (fun K hK => ?_) AllReady.nil)
        · go_simp
          skip
          refine hK.out _ _ ?_
          clear hK K
          try simp only [Act.put, List.setIfInBounds_toArray, List.set_cons_zero, List.set_cons_succ, List.getElem_toArray, List.getElem_cons_zero, List.getElem_cons_succ]
          refine wpAny_ready (rs := [4]) (by kernel_rfl) (by simp) ?_
          refine allReadyS_cons (o := _) rfl (fun K hK => ?_) AllReady.nil
          go_simp
          refine (among_c _ 4 4 _ [0, 1, 9, 10] lo b (a + 45) _ hst6.src (by omega) hsl (Nat.le_refl _) (fun b' off e => by injection e with e; injection e with e; omega) (by omega) (by omega)).mono ?_
          rintro e w7 ⟨q, rfl, hq, hs7, hg7⟩
          have hst7 := hst6.grown hs7 hg7
          have hgr7 := own_src hgr6 hg7 hlt
          have c7c := hst7.cells.2.1
          dsimp only [ChG.n] at c7c
          have c7b := (hst7.next ((Below.refl w7.heap.size w7).alloc (Nat.le_refl _) (.cells #[.int .i64 q] 2))).cells.2.1
          dsimp only [ChG.n] at c7b
          refine hK.out _ _ ?_
          clear hK K
          try simp only [Act.put, List.setIfInBounds_toArray, List.set_cons_zero, List.set_cons_succ, List.getElem_toArray, List.getElem_cons_zero, List.getElem_cons_succ]
          refine wpAny_ready (rs := [5]) (by kernel_rfl) (by simp) ?_
          refine allReadyS_cons (o := _) rfl (fun K hK => ?_) AllReady.nil
          go_simp
          skip
          refine hK.out _ _ ?_
          clear hK K
          try simp only [Act.put, List.setIfInBounds_toArray, List.set_cons_zero, List.set_cons_succ, List.getElem_toArray, List.getElem_cons_zero, List.getElem_cons_succ]
          have hb6 : Below w7.heap.size w7 (w7.alloc (.cells #[.int .i64 q] 2)) := (Below.refl w7.heap.size w7).alloc (Nat.le_refl _) _
          have hz6 : w.heap.size ≤ (w7.alloc (.cells #[.int .i64 q] 2)).heap.size := Nat.le_trans hst7.gr.size hb6.size
          refine wpAny_ready (rs := [6]) (by kernel_rfl) (by simp) ?_
          refine allReadyS_cons (o := _) rfl (fun K hK => ?_) AllReady.nil
          refine step_append _ rfl (.tmp 32) (.tmp 36) _ rfl w.heap.size 2 p0 _ 1 8 Try.underlying24 hp hy0 hy1 hy2 rfl (by omega) _ gs.length _ rfl (hgr7.alloc _) (w7.heap.size + 1) (some ⟨w7.heap.size, 0, none⟩) 1 1 (intC q) rfl (Sl.new w7 2 _ 1 1 rfl) (intC_one _) F63.out F32.out hz6 ?_
          intro v8 w8 ho8 hg8 _
          refine hK.out _ _ ?_
          clear hK K
          try simp only [Act.put, List.setIfInBounds_toArray, List.set_cons_zero, List.set_cons_succ, List.getElem_toArray, List.getElem_cons_zero, List.getElem_cons_succ]
          obtain ⟨A8, c8, rfl⟩ := own_slice ho8
          have hst8 := (hst7.next hb6).app (own_next hgr7 hb6) hg8
          have c8c := hst8.cells.2.1
          have fz8 := hst8.box.frozenAt
          have hstF := hst8.store (z' := ⟨⟨k, gs ++ [q], l, cs, p⟩, A8, c8⟩) 1 (.slice A8 (gs.length + 1) c8) (by simp [ChG.cells, ChG.n])
          have hgF : GrpOwn w (w8.setCell ⟨w2.heap.size, 1, none⟩ (.slice A8 (gs.length + 1) c8)) ⟨⟨k, gs ++ [q], l, cs, p⟩, A8, c8⟩ := grp_store hst8 (by simpa [GrpOwn, ChG.n] using ho8) 1 _
          (first
            | (refine wpAny_take (i := 7) (v := ?_) rfl (by kernel_rfl) (by kernel_rfl) (by kernel_rfl) (fun _ _ _ h => h) (Or.inl ⟨by rfl, ?_⟩) ?_
               rotate_left
               focus (intro wq; go_simp; (try (with_reducible rfl)); done))
            | fail "take 7")
          try simp only [Act.put, List.setIfInBounds_toArray, List.set_cons_zero, List.set_cons_succ, List.getElem_toArray, List.getElem_cons_zero, List.getElem_cons_succ]
          refine wpAny_ready (rs := [8]) (by kernel_rfl) (by simp) ?_
          refine allReadyS_cons (o := _) rfl (fun K hK => ?_) AllReady.nil
          go_simp
          skip
          refine hK.out _ _ ?_
          clear hK K
          try simp only [Act.put, List.setIfInBounds_toArray, List.set_cons_zero, List.set_cons_succ, List.getElem_toArray, List.getElem_cons_zero, List.getElem_cons_succ]
          refine wpAny_done (by kernel_rfl) ?_ _
          clear F63 F32 hst8 hst7
          go_wp2_with fail
          go_meet
          exact ⟨(⟨⟨k, gs ++ [q], l, cs, p⟩, A8, c8⟩ : ChG), rfl, ⟨by first | exact hsm.g | (simp; done) | (simp; omega), by first | exact hsm.l | assumption | exact Nat.zero_le _, by first | exact hsm.c | assumption | (simp; done), by first | exact hsm.p | (dsimp only; omega)⟩, hgF, hstF.more (by omega)⟩
        · go_simp
          refine (among_c _ 4 4 _ [0, 1, 9, 10] lo b (a + 45) _ hst6.src (by omega) hsl (Nat.le_refl _) (fun b' off e => by injection e with e; injection e with e; omega) (by omega) (by omega)).mono ?_
          rintro e w7 ⟨q, rfl, hq, hs7, hg7⟩
          have hst7 := hst6.grown hs7 hg7
          have hgr7 := own_src hgr6 hg7 hlt
          have c7c := hst7.cells.2.1
          dsimp only [ChG.n] at c7c
          have c7b := (hst7.next ((Below.refl w7.heap.size w7).alloc (Nat.le_refl _) (.cells #[.int .i64 q] 2))).cells.2.1
          dsimp only [ChG.n] at c7b
          refine hK.out _ _ ?_
          clear hK K
          try simp only [Act.put, List.setIfInBounds_toArray, List.set_cons_zero, List.set_cons_succ, List.getElem_toArray, List.getElem_cons_zero, List.getElem_cons_succ]
          refine wpAny_ready (rs := [1, 5]) (by kernel_rfl) (by simp) ?_
          refine allReadyS_cons (o := _) rfl (fun K hK => ?_) (allReadyS_cons (o := _) rfl (fun K hK => ?_) AllReady.nil)
          · go_simp
            skip
            refine hK.out _ _ ?_
            clear hK K
            try simp only [Act.put, List.setIfInBounds_toArray, List.set_cons_zero, List.set_cons_succ, List.getElem_toArray, List.getElem_cons_zero, List.getElem_cons_succ]
            refine wpAny_ready (rs := [5]) (by kernel_rfl) (by simp) ?_
            refine allReadyS_cons (o := _) rfl (fun K hK => ?_) AllReady.nil
            go_simp
            skip
            refine hK.out _ _ ?_
            clear hK K
            try simp only [Act.put, List.setIfInBounds_toArray, List.set_cons_zero, List.set_cons_succ, List.getElem_toArray, List.getElem_cons_zero, List.getElem_cons_succ]
            have hb6 : Below w7.heap.size w7 (w7.alloc (.cells #[.int .i64 q] 2)) := (Below.refl w7.heap.size w7).alloc (Nat.le_refl _) _
            have hz6 : w.heap.size ≤ (w7.alloc (.cells #[.int .i64 q] 2)).heap.size := Nat.le_trans hst7.gr.size hb6.size
            refine wpAny_ready (rs := [6]) (by kernel_rfl) (by simp) ?_
            refine allReadyS_cons (o := _) rfl (fun K hK => ?_) AllReady.nil
            refine step_append _ rfl (.tmp 32) (.tmp 36) _ rfl w.heap.size 2 p0 _ 1 8 Try.underlying24 hp hy0 hy1 hy2 rfl (by omega) _ gs.length _ rfl (hgr7.alloc _) (w7.heap.size + 1) (some ⟨w7.heap.size, 0, none⟩) 1 1 (intC q) rfl (Sl.new w7 2 _ 1 1 rfl) (intC_one _) F63.out F32.out hz6 ?_
            intro v8 w8 ho8 hg8 _
            refine hK.out _ _ ?_
            clear hK K
            try simp only [Act.put, List.setIfInBounds_toArray, List.set_cons_zero, List.set_cons_succ, List.getElem_toArray, List.getElem_cons_zero, List.getElem_cons_succ]
            obtain ⟨A8, c8, rfl⟩ := own_slice ho8
            have hst8 := (hst7.next hb6).app (own_next hgr7 hb6) hg8
            have c8c := hst8.cells.2.1
            have fz8 := hst8.box.frozenAt
            have hstF := hst8.store (z' := ⟨⟨k, gs ++ [q], l, cs, p⟩, A8, c8⟩) 1 (.slice A8 (gs.length + 1) c8) (by simp [ChG.cells, ChG.n])
            have hgF : GrpOwn w (w8.setCell ⟨w2.heap.size, 1, none⟩ (.slice A8 (gs.length + 1) c8)) ⟨⟨k, gs ++ [q], l, cs, p⟩, A8, c8⟩ := grp_store hst8 (by simpa [GrpOwn, ChG.n] using ho8) 1 _
            (first
              | (refine wpAny_take (i := 7) (v := ?_) rfl (by kernel_rfl) (by kernel_rfl) (by kernel_rfl) (fun _ _ _ h => h) (Or.inl ⟨by rfl, ?_⟩) ?_
                 rotate_left
                 focus (intro wq; go_simp; (try (with_reducible rfl)); done))
              | fail "take 7")
            try simp only [Act.put, List.setIfInBounds_toArray, List.set_cons_zero, List.set_cons_succ, List.getElem_toArray, List.getElem_cons_zero, List.getElem_cons_succ]
            refine wpAny_ready (rs := [8]) (by kernel_rfl) (by simp) ?_
            refine allReadyS_cons (o := _) rfl (fun K hK => ?_) AllReady.nil
            go_simp
            skip
            refine hK.out _ _ ?_
            clear hK K
            try simp only [Act.put, List.setIfInBounds_toArray, List.set_cons_zero, List.set_cons_succ, List.getElem_toArray, List.getElem_cons_zero, List.getElem_cons_succ]
            refine wpAny_done (by kernel_rfl) ?_ _
            clear F63 F32 hst8 hst7
            go_wp2_with fail
            go_meet
            exact ⟨(⟨⟨k, gs ++ [q], l, cs, p⟩, A8, c8⟩ : ChG), rfl, ⟨by first | exact hsm.g | (simp; done) | (simp; omega), by first | exact hsm.l | assumption | exact Nat.zero_le _, by first | exact hsm.c | assumption | (simp; done), by first | exact hsm.p | (dsimp only; omega)⟩, hgF, hstF.more (by omega)⟩
          · go_simp
            skip
            refine hK.out _ _ ?_
            clear hK K
            try simp only [Act.put, List.setIfInBounds_toArray, List.set_cons_zero, List.set_cons_succ, List.getElem_toArray, List.getElem_cons_zero, List.getElem_cons_succ]
            refine wpAny_ready (rs := [1]) (by kernel_rfl) (by simp) ?_
            refine allReadyS_cons (o := _) rfl (fun K hK => ?_) AllReady.nil
            go_simp
            skip
            refine hK.out _ _ ?_
            clear hK K
            try simp only [Act.put, List.setIfInBounds_toArray, List.set_cons_zero, List.set_cons_succ, List.getElem_toArray, List.getElem_cons_zero, List.getElem_cons_succ]
            have hb6 : Below w7.heap.size w7 (w7.alloc (.cells #[.int .i64 q] 2)) := (Below.refl w7.heap.size w7).alloc (Nat.le_refl _) _
            have hz6 : w.heap.size ≤ (w7.alloc (.cells #[.int .i64 q] 2)).heap.size := Nat.le_trans hst7.gr.size hb6.size
            refine wpAny_ready (rs := [6]) (by kernel_rfl) (by simp) ?_
            refine allReadyS_cons (o := _) rfl (fun K hK => ?_) AllReady.nil
            refine step_append _ rfl (.tmp 32) (.tmp 36) _ rfl w.heap.size 2 p0 _ 1 8 Try.underlying24 hp hy0 hy1 hy2 rfl (by omega) _ gs.length _ rfl (hgr7.alloc _) (w7.heap.size + 1) (some ⟨w7.heap.size, 0, none⟩) 1 1 (intC q) rfl (Sl.new w7 2 _ 1 1 rfl) (intC_one _) F63.out F32.out hz6 ?_
            intro v8 w8 ho8 hg8 _
            refine hK.out _ _ ?_
            clear hK K
            try simp only [Act.put, List.setIfInBounds_toArray, List.set_cons_zero, List.set_cons_succ, List.getElem_toArray, List.getElem_cons_zero, List.getElem_cons_succ]
            obtain ⟨A8, c8, rfl⟩ := own_slice ho8
            have hst8 := (hst7.next hb6).app (own_next hgr7 hb6) hg8
            have c8c := hst8.cells.2.1
            have fz8 := hst8.box.frozenAt
            have hstF := hst8.store (z' := ⟨⟨k, gs ++ [q], l, cs, p⟩, A8, c8⟩) 1 (.slice A8 (gs.length + 1) c8) (by simp [ChG.cells, ChG.n])
            have hgF : GrpOwn w (w8.setCell ⟨w2.heap.size, 1, none⟩ (.slice A8 (gs.length + 1) c8)) ⟨⟨k, gs ++ [q], l, cs, p⟩, A8, c8⟩ := grp_store hst8 (by simpa [GrpOwn, ChG.n] using ho8) 1 _
            (first
              | (refine wpAny_take (i := 7) (v := ?_) rfl (by kernel_rfl) (by kernel_rfl) (by kernel_rfl) (fun _ _ _ h => h) (Or.inl ⟨by rfl, ?_⟩) ?_
                 rotate_left
                 focus (intro wq; go_simp; (try (with_reducible rfl)); done))
              | fail "take 7")
            try simp only [Act.put, List.setIfInBounds_toArray, List.set_cons_zero, List.set_cons_succ, List.getElem_toArray, List.getElem_cons_zero, List.getElem_cons_succ]
            refine wpAny_ready (rs := [8]) (by kernel_rfl) (by simp) ?_
            refine allReadyS_cons (o := _) rfl (fun K hK => ?_) AllReady.nil
            go_simp
            skip
            refine hK.out _ _ ?_
            clear hK K
            try simp only [Act.put, List.setIfInBounds_toArray, List.set_cons_zero, List.set_cons_succ, List.getElem_toArray, List.getElem_cons_zero, List.getElem_cons_succ]
            refine wpAny_done (by kernel_rfl) ?_ _
            clear F63 F32 hst8 hst7
            go_wp2_with fail
            go_meet
            exact ⟨(⟨⟨k, gs ++ [q], l, cs, p⟩, A8, c8⟩ : ChG), rfl, ⟨by first | exact hsm.g | (simp; done) | (simp; omega), by first | exact hsm.l | assumption | exact Nat.zero_le _, by first | exact hsm.c | assumption | (simp; done), by first | exact hsm.p | (dsimp only; omega)⟩, hgF, hstF.more (by omega)⟩
    · have hbl : Below w5.heap.size w5 (w5.alloc (.cells #[.string ⟨#[76]⟩, .string ⟨#[65]⟩, .string ⟨#[97]⟩, .string ⟨#[65, 66]⟩, .string ⟨#[]⟩] 9)) := (Below.refl _ _).alloc (Nat.le_refl _) _
      have hol := lit_own w5 w5.heap.size 9 #[.string ⟨#[76]⟩, .string ⟨#[65]⟩, .string ⟨#[97]⟩, .string ⟨#[65, 66]⟩, .string ⟨#[]⟩] 5 1 (Nat.le_refl _) (by decide) rfl
      have hsl : Sl _ _ 1 _ 5 (bentLtrs.flatMap strC) := Sl.of_own hol
      clear c0 c1 c2 c3 c4 fz
      go_wp2_with fail
      refine (text_c _ 5 5 _ bentLtrs lo b (a + 42) _ (hst5.next hbl).src (by omega) hsl (Nat.le_refl _) (fun b' off e => by injection e with e; injection e with e; omega) (by omega) (by omega)).mono ?_
      rintro e w6 ⟨co, rfl, hcm, hs6, hg6⟩
      have hcz := bentLtrs_bd co hcm
      have hst6 := (hst5.next hbl).grown hs6 hg6
      have hgr6 := own_src (own_next hgr5 hbl) hg6 hlt
      have c3 := hst6.cells.2.2.1
      have fz6 := hst6.box.frozenAt
      have hstF := hst6.store (z' := ⟨⟨k, gs, co, cs, p⟩, A, c⟩) 2 (.string co) rfl
      have hgF := grp_store (z' := ⟨⟨k, gs, co, cs, p⟩, A, c⟩) hst6 hgr6 2 (.string co)
      clear hcm hol hsl hbl
      go_wp2_with fail
      go_meet
      exact ⟨(⟨⟨k, gs, co, cs, p⟩, A, c⟩ : ChG), rfl, ⟨by first | exact hsm.g | (simp; done) | (simp; omega), by first | exact hsm.l | assumption | exact Nat.zero_le _, by first | exact hsm.c | assumption | (simp; done), by first | exact hsm.p | (dsimp only; omega)⟩, hgF, hstF.more (by omega)⟩
    · have hbl : Below w5.heap.size w5 (w5.alloc (.cells #[.int .i64 3, .int .i64 4, .int .i64 2] 2)) := (Below.refl _ _).alloc (Nat.le_refl _) _
      have hol := lit_own w5 w5.heap.size 2 #[.int .i64 3, .int .i64 4, .int .i64 2] 3 1 (Nat.le_refl _) (by decide) rfl
      have hsl : Sl _ _ 1 _ 3 (([3, 4, 2] : List Int).flatMap intC) := Sl.of_own hol
      clear c0 c1 c2 c3 c4 fz
      go_wp2_with fail
      refine (among_c _ 3 3 _ [3, 4, 2] lo b (a + 42) _ (hst5.next hbl).src (by omega) hsl (Nat.le_refl _) (fun b' off e => by injection e with e; injection e with e; omega) (by omega) (by omega)).mono ?_
      rintro e w6 ⟨q, rfl, hq, hs6, hg6⟩
      have hst6 := (hst5.next hbl).grown hs6 hg6
      clear hq hol hsl hbl hs6 hg6
      have hbn : Below w6.heap.size w6 (w6.alloc (.cells #[.int .i64 3, .int .i64 3, .int .i64 3, .int .i64 q] 2)) := (Below.refl _ _).alloc (Nat.le_refl _) _
      have hst7 := hst6.next hbn
      have hgr7 : GrpOwn w (w6.alloc (.cells #[.int .i64 3, .int .i64 3, .int .i64 3, .int .i64 q] 2)) ⟨⟨k, [3, 3, 3, q], l, cs, p⟩, some ⟨w6.heap.size, 0, none⟩, 4⟩ := lit_own w6 w.heap.size 2 #[.int .i64 3, .int .i64 3, .int .i64 3, .int .i64 q] 4 1 hst6.gr.size (by decide) rfl
      have hst8 := hst7.store (z' := ⟨⟨k, [3, 3, 3, q], l, cs, p⟩, some ⟨w6.heap.size, 0, none⟩, 4⟩) 1 (.slice (some ⟨w6.heap.size, 0, none⟩) 4 4) rfl
      have hgr8 := grp_store hst7 hgr7 1 (.slice (some ⟨w6.heap.size, 0, none⟩) 4 4)
      have hst9 := hst8.store (z' := ⟨⟨k, [3, 3, 3, q], ⟨#[]⟩, cs, p⟩, some ⟨w6.heap.size, 0, none⟩, 4⟩) 2 (.string ⟨#[]⟩) rfl
      have hgr9 := grp_store (z' := ⟨⟨k, [3, 3, 3, q], ⟨#[]⟩, cs, p⟩, some ⟨w6.heap.size, 0, none⟩, 4⟩) hst8 hgr8 2 (.string ⟨#[]⟩)
      have hst10 := hst9.store (z' := ⟨⟨4, [3, 3, 3, q], ⟨#[]⟩, cs, p⟩, some ⟨w6.heap.size, 0, none⟩, 4⟩) 0 (.int .i64 4) rfl
      have hgr10 := grp_store (z' := ⟨⟨4, [3, 3, 3, q], ⟨#[]⟩, cs, p⟩, some ⟨w6.heap.size, 0, none⟩, 4⟩) hst9 hgr9 0 (.int .i64 4)
      have hstF := hst10.store (z' := ⟨⟨4, [3, 3, 3, q], ⟨#[]⟩, cs, 600⟩, some ⟨w6.heap.size, 0, none⟩, 4⟩) 4 (.int .i64 600) rfl
      have hgF := grp_store (z' := ⟨⟨4, [3, 3, 3, q], ⟨#[]⟩, cs, 600⟩, some ⟨w6.heap.size, 0, none⟩, 4⟩) hst10 hgr10 4 (.int .i64 600)
      have e1 := hst7.cells.2.1
      have fz7 := hst7.box.frozenAt
      have e2 := hst8.cells.2.2.1
      have fz8 := hst8.box.frozenAt
      have e0 := hst9.cells.1
      have fz9 := hst9.box.frozenAt
      have e4 := hst10.cells.2.2.2.2
      have fz10 := hst10.box.frozenAt
      go_wp2_with fail
      go_meet
      exact ⟨(⟨⟨4, [3, 3, 3, q], ⟨#[]⟩, cs, 600⟩, some ⟨w6.heap.size, 0, none⟩, 4⟩ : ChG), rfl, ⟨by first | exact hsm.g | (simp; done) | (simp; omega), by first | exact hsm.l | assumption | exact Nat.zero_le _, by first | exact hsm.c | assumption | (simp; done), by first | exact hsm.p | (dsimp only; omega)⟩, hgF, hstF.more (by omega)⟩
    · have n0 : (q == 0) = false := by simp; omega
      have n1 : (q == 1) = false := by simp; omega
      have n2 : (q == 2) = false := by simp; omega
      have n3 : (q == 3) = false := by simp; omega
      have n4 : (q == 4) = false := by simp; omega
      have n5 : (q == 5) = false := by simp; omega
      have hstF := hst5
      have hgF := hgr5
      clear c0 c1 c2 c3 c4 fz
      go_wp2_with fail
      go_meet
      exact ⟨(⟨⟨k, gs, l, cs, p⟩, A, c⟩ : ChG), rfl, ⟨by first | exact hsm.g | (simp; done) | (simp; omega), by first | exact hsm.l | assumption | exact Nat.zero_le _, by first | exact hsm.c | assumption | (simp; done), by first | exact hsm.p | (dsimp only; omega)⟩, hgF, hstF.more (by omega)⟩
  case rest =>
    obtain ⟨⟨⟨k, gs, l, cs, p⟩, A, c⟩, rfl, hsm, hgr, hst⟩ := hcut
    clear hst5 hgr5
    obtain ⟨c0, c1, c2, c3, c4⟩ := hst.cells
    dsimp only [ChG.n] at c0 c1 c2 c3 c4
    have fr := (hst).res.frozenAt
    have r0 := (hst).res.cellAt 0 (by omega)
    have r1 := (hst).res.cellAt 1 (by omega)
    have r2 := (hst).res.cellAt 2 (by omega)
    have r3 := (hst).res.cellAt 3 (by omega)
    have r4 := (hst).res.cellAt 4 (by omega)
    simp only [List.getElem?_cons_zero, List.getElem?_cons_succ] at r0 r1 r2 r3 r4
    obtain ⟨g1, g2, g3, e0, e1, e2, e3, e4⟩ := hst.fin hgr (.int .i64 k) (.slice A gs.length c) (.string l) (.string cs) (.int .i64 p)
    have Hsm := Lib.hid hsm; clear hsm
    go_wp2_with fail
    refine bodyPost_ret (v := chV k A gs.length c l cs p) (by simp [results, Try.results48, go_sem, e0, e1, e2, e3, e4]) rfl ⟨⟨⟨k, gs, l, cs, p⟩, A, c⟩, rfl, Hsm.out, g1, g2, g3⟩
end Go.Proofs.Ytgibbhipjpbdfaa

/- What FnRecognition draws: two characters and a number. -/
namespace Go.Proofs.Ytgibbhipjpbdfaa
open Go.RowKit
theorem set_grownC (w : World) (a : Addr) (v : Value) : w.grownBy (w.setCell a v) (some a.block) :=
  ⟨rfl, rfl, rfl, by simp, fun k _ hne => heap_setCell_other w a k v (fun e => hne (by rw [e]))⟩
theorem grown_w5 (w : World) (b : Nat) (k : Int) (v : Value) (l cs : ByteArray) (p : Int) : w.grownBy (W5 w b k v l cs p) (some b) :=
  grown_trans (grown_trans (grown_trans (grown_trans (set_grownC w ⟨b, 0, none⟩ _) (set_grownC _ ⟨b, 1, none⟩ _)) (set_grownC _ ⟨b, 2, none⟩ _)) (set_grownC _ ⟨b, 3, none⟩ _)) (set_grownC _ ⟨b, 4, none⟩ _)
theorem src_grownC {w w' : World} {lo b a : Nat} {row : Option Nat} (h : Src w lo b a) (hg : w.grownBy w' row) (hne : row ≠ some b) (hr : ∀ g, row = some g → lo ≤ g) : Src w' lo b a := by
  obtain ⟨A, n, c, a', seed, bs, ha, ho, hs, hbs, hn, hl⟩ := h
  exact ⟨A, n, c, a', seed, bs, ha, own_grown ho hg (.inr (Ne.symm hne)), hs.grown hg hl hr, hbs, hn, Nat.le_trans hl hg.size⟩
theorem own_old {w : World} {base sz n g : Nat} {e : TypeId} {v : Value} {xs : List Value} (h : w.ownsRow base e sz v n xs) (hg : w.heap.size ≤ g) : v.ownBlock = none ∨ v.ownBlock ≠ some g := by
  cases hv : v.ownBlock with
  | none => exact .inl rfl
  | some k => exact .inr fun e => by injection e with e; have := (h.lt k hv).2; omega
theorem keepG {w w' : World} {row : Option Nat} (hg : w.grownBy w' row) {b : Nat} (hb : b < w.heap.size) (hne : some b ≠ row) : ∀ x, w'.cell? ⟨b, x, none⟩ = w.cell? ⟨b, x, none⟩ := fun _ => World.cell?_of_block (w := w) (hg.block b hb hne)
/-- The state: two results that are still empty, a character in block a1, something in block a2, the source. -/
structure CfSt (w wx : World) (lo b a a1 a2 : Nat) (z : ChG) : Prop where
  r1 : rowC wx w.heap.size 0 (.slice none 0 0) ⟨#[]⟩ ⟨#[]⟩ 0
  r2 : rowC wx (w.heap.size + 1) 0 (.slice none 0 0) ⟨#[]⟩ ⟨#[]⟩ 0
  x1 : rowC wx a1 z.x.k (.slice z.A z.n z.c) z.x.l z.x.cs z.x.p
  x2 : ∃ k A n c l cs p, rowC wx a2 k (.slice A n c) l cs p
  sm : Smal z.x
  gr : wx.ownsRow (w.heap.size + 2) 2 1 (.slice z.A z.n z.c) z.n (z.x.gs.flatMap intC)
  sr : Src wx lo b a
  bl : Below w.heap.size w wx
theorem CfSt.grown {w wx wy : World} {lo b a a' a1 a2 : Nat} {z : ChG} (h : CfSt w wx lo b a a1 a2 z) (hs : Src wy lo b a') (hg : wx.grownBy wy (some b)) (h1 : w.heap.size + 2 ≤ b) (h2 : b ≠ a1) (h3 : b ≠ a2) : CfSt w wy lo b a' a1 a2 z := by
  obtain ⟨k, A, n, c, l, cs, p, hx2⟩ := h.x2
  exact ⟨h.r1.grown hg (by intro e; injection e with e; omega), h.r2.grown hg (by intro e; injection e with e; omega), h.x1.grown hg (by intro e; injection e with e; omega), ⟨k, A, n, c, l, cs, p, hx2.grown hg (by intro e; injection e with e; omega)⟩, h.sm, own_by_src h.gr h.sr hg (by decide), hs, h.bl.grown hg h.bl.size fun g hg => by injection hg with hg; omega⟩
theorem CfSt.next {w wx wy : World} {lo b a a1 a2 : Nat} {z : ChG} (h : CfSt w wx lo b a a1 a2 z) (hb : Below wx.heap.size wx wy) : CfSt w wy lo b a a1 a2 z := by
  obtain ⟨k, A, n, c, l, cs, p, hx2⟩ := h.x2
  exact ⟨h.r1.next hb, h.r2.next hb, h.x1.next hb, ⟨k, A, n, c, l, cs, p, hx2.next hb⟩, h.sm, own_next h.gr hb, h.sr.next hb, h.bl.trans (hb.mono h.bl.size)⟩
theorem CfSt.more {w wx : World} {lo b a a' a1 a2 : Nat} {z : ChG} (h : CfSt w wx lo b a a1 a2 z) (ha : a ≤ a') : CfSt w wx lo b a' a1 a2 z := ⟨h.r1, h.r2, h.x1, h.x2, h.sm, h.gr, h.sr.more ha, h.bl⟩
theorem CfSt.set2 {w wx wy : World} {lo b a a1 a2 : Nat} {z : ChG} (h : CfSt w wx lo b a a1 a2 z) (hg : wx.grownBy wy (some a2)) (hx : ∃ k A n c l cs p, rowC wy a2 k (.slice A n c) l cs p) (h1 : w.heap.size + 2 ≤ a2) (h2 : a2 ≠ a1) (h3 : b ≠ a2) (h4 : lo ≤ a2) (ho : (Value.slice z.A z.n z.c).ownBlock = none ∨ (Value.slice z.A z.n z.c).ownBlock ≠ some a2) : CfSt w wy lo b a a1 a2 z :=
  ⟨h.r1.grown hg (by intro e; injection e with e; omega), h.r2.grown hg (by intro e; injection e with e; omega), h.x1.grown hg (by intro e; injection e with e; omega), hx, h.sm, own_grown h.gr hg ho, src_grownC h.sr hg (by intro e; injection e with e; omega) (fun g hg => by injection hg with hg; omega), h.bl.grown hg h.bl.size fun g hg => by injection hg with hg; omega⟩
def ConfAns (w : World) (e : Ending) (w' : World) : Prop := ∃ (z : ChG) (k2 : Int) (A2 : Option Addr) (n2 c2 : Nat) (l2 cs2 : ByteArray) (p2 t : Int), e = .returned (.tuple #[chV z.x.k z.A z.n z.c z.x.l z.x.cs z.x.p, .agg #[.int .i64 k2, .slice A2 n2 c2, .string l2, .string cs2, .int .i64 p2], .int .i64 t]) ∧ Smal z.x ∧ w'.ownsRow w.heap.size 2 1 (.slice z.A z.n z.c) z.n (z.x.gs.flatMap intC) ∧ Below w.heap.size w w'
set_option maxRecDepth 100000 in
set_option maxHeartbeats 8000000 in
theorem drawConf_c (A : Option Addr) (n c : Nat) (bs : List Int) (w : World) (hx : Sl w w.heap.size 1 A n (bs.flatMap u8C)) (hb : ∀ x ∈ bs, 0 ≤ x ∧ x ≤ 255) (hn : n ≤ maxLen) :
    Calls Try.prog 15 #[.slice A n c] w (ConfAns w) := by
  have hbA : Below w.heap.size w ((w.alloc (.cells #[.int .i64 0, .slice none 0 0, .string ⟨#[]⟩, .string ⟨#[]⟩, .int .i64 0] 26)).alloc (.cells #[.int .i64 0, .slice none 0 0, .string ⟨#[]⟩, .string ⟨#[]⟩, .int .i64 0] 26)) := by (repeat (first | (with_reducible assumption) | (with_reducible exact Below.refl _ _) | exact Nat.le_refl _ | exact Below.size (by with_reducible assumption) | (with_reducible refine Below.drew ?_) | (with_reducible refine below_drewN ?_ _) | (with_reducible refine Below.alloc ?_ ?_ _) | (with_reducible refine Below.setCell ?_ ?_ _) | (with_reducible refine le_alloc ?_ _) | (with_reducible refine le_set ?_ _ _) | (with_reducible refine le_drew ?_) | (with_reducible refine le_drewN ?_ _) | omega | (dsimp only; omega)))
  have hb1 : Below (w.alloc (.cells #[.int .i64 0, .slice none 0 0, .string ⟨#[]⟩, .string ⟨#[]⟩, .int .i64 0] 26)).heap.size (w.alloc (.cells #[.int .i64 0, .slice none 0 0, .string ⟨#[]⟩, .string ⟨#[]⟩, .int .i64 0] 26)) ((w.alloc (.cells #[.int .i64 0, .slice none 0 0, .string ⟨#[]⟩, .string ⟨#[]⟩, .int .i64 0] 26)).alloc (.cells #[.int .i64 0, .slice none 0 0, .string ⟨#[]⟩, .string ⟨#[]⟩, .int .i64 0] 26)) := (Below.refl _ _).alloc (Nat.le_refl _) _
  have hr1 := (rowC.new w 0 (.slice none 0 0) ⟨#[]⟩ ⟨#[]⟩ 0).next hb1
  have hr2 := rowC.new (w.alloc (.cells #[.int .i64 0, .slice none 0 0, .string ⟨#[]⟩, .string ⟨#[]⟩, .int .i64 0] 26)) 0 (.slice none 0 0) ⟨#[]⟩ ⟨#[]⟩ 0
  rw [World.size_alloc] at hr2
  have hz0 : ((w.alloc (.cells #[.int .i64 0, .slice none 0 0, .string ⟨#[]⟩, .string ⟨#[]⟩, .int .i64 0] 26)).alloc (.cells #[.int .i64 0, .slice none 0 0, .string ⟨#[]⟩, .string ⟨#[]⟩, .int .i64 0] 26)).heap.size = w.heap.size + 2 := by simp
  have hx0 := hx.next hbA
  have Hb := Lib.hid hb; clear hb
  have Hr1 := Lib.hid hr1; clear hr1
  have Hr2 := Lib.hid hr2; clear hr2
  have Hx0 := Lib.hid hx0; clear hx0
  clear hb1 hx
  go_enter Try.func15, Try.ntmps15
  go_wp2_with fail
  generalize (w.alloc (.cells #[.int .i64 0, .slice none 0 0, .string ⟨#[]⟩, .string ⟨#[]⟩, .int .i64 0] 26)).alloc (.cells #[.int .i64 0, .slice none 0 0, .string ⟨#[]⟩, .string ⟨#[]⟩, .int .i64 0] 26) = w0 at *
  have hlo : w.heap.size + 2 ≤ w0.heap.size := by omega
  clear hz0
  refine (from_c A n c bs _ Hx0.out Hb.out hn).mono ?_
  rintro e w1 ⟨b, rfl, hs1, hb1⟩
  have hr1 := Hr1.out.next hb1
  have hr2 := Hr2.out.next hb1
  have H1 := hbA.trans (hb1.mono hbA.size)
  have hbb := hs1.lt
  have Hr1b := Lib.hid hr1; clear hr1
  have Hr2b := Lib.hid hr2; clear hr2
  clear Hr1 Hr2 hbA hb1 Hx0
  go_wp2_with fail
  refine (l18Char_c w0.heap.size b 0 _ hs1 (by omega)).mono ?_
  rintro e w2 ⟨z, rfl, hsh, hsm, hgr, hs2, hg2⟩
  have H2 := H1.grown hg2 H1.size fun g hg => by injection hg with hg; omega
  have hr1 := Hr1b.out.grown hg2 (by intro e; injection e with e; omega)
  have hr2 := Hr2b.out.grown hg2 (by intro e; injection e with e; omega)
  have hz2 := hg2.size
  clear hsh Hr1b Hr2b H1 hg2
  have hbX : Below w2.heap.size w2 (w2.alloc (.cells #[.int .i64 z.x.k, .slice z.A z.n z.c, .string z.x.l, .string z.x.cs, .int .i64 z.x.p] 26)) := (Below.refl _ _).alloc (Nat.le_refl _) _
  have hx1 := rowC.new w2 z.x.k (.slice z.A z.n z.c) z.x.l z.x.cs z.x.p
  replace hr1 := hr1.next hbX
  replace hr2 := hr2.next hbX
  have hgr3 := own_next (own_base hgr (show w.heap.size + 2 ≤ w1.heap.size by have := hs1.lo; omega)) hbX
  have hs3 := hs2.next hbX
  have H3 := H2.trans (hbX.mono H2.size)
  have hz3 : (w2.alloc (.cells #[.int .i64 z.x.k, .slice z.A z.n z.c, .string z.x.l, .string z.x.cs, .int .i64 z.x.p] 26)).heap.size = w2.heap.size + 1 := by simp
  have Hr1 := Lib.hid hr1; clear hr1
  have Hr2 := Lib.hid hr2; clear hr2
  have Hx1 := Lib.hid hx1; clear hx1
  have Hsm := Lib.hid hsm; clear hsm
  clear hgr hs2 H2 hbX hs1
  go_wp2_with fail
  generalize w2.alloc (.cells #[.int .i64 z.x.k, .slice z.A z.n z.c, .string z.x.l, .string z.x.cs, .int .i64 z.x.p] 26) = w3 at *
  obtain ⟨a1, ha1⟩ : ∃ a1, w2.heap.size = a1 := ⟨_, rfl⟩
  have hx1 := Hx1.out
  rw [ha1] at hx1 hz2 hz3 ⊢
  clear Hx1
  refine (l18Char_c w0.heap.size b 60 _ hs3 (by omega)).mono ?_
  rintro e w4 ⟨y, rfl, hy1, hy2, hgy, hs4, hg4⟩
  have H4 := H3.grown hg4 H3.size fun g hg => by injection hg with hg; omega
  have hr1 := Hr1.out.grown hg4 (by intro e; injection e with e; omega)
  have hr2 := Hr2.out.grown hg4 (by intro e; injection e with e; omega)
  replace hx1 := hx1.grown hg4 (by intro e; injection e with e; omega)
  have hgr4 := own_by_src hgr3 hs3 hg4 (by decide)
  have hz4 := hg4.size
  have hbY : Below w4.heap.size w4 (w4.alloc (.cells #[.int .i64 y.x.k, .slice y.A y.n y.c, .string y.x.l, .string y.x.cs, .int .i64 y.x.p] 26)) := (Below.refl _ _).alloc (Nat.le_refl _) _
  have hoz := own_old (g := w4.heap.size) hgr4 (Nat.le_refl _)
  have hS : CfSt w (w4.alloc (.cells #[.int .i64 y.x.k, .slice y.A y.n y.c, .string y.x.l, .string y.x.cs, .int .i64 y.x.p] 26)) w0.heap.size b 120 a1 w4.heap.size z :=
    ⟨hr1.next hbY, hr2.next hbY, hx1.next hbY, ⟨_, _, _, _, _, _, _, rowC.new w4 y.x.k (.slice y.A y.n y.c) y.x.l y.x.cs y.x.p⟩, Hsm.out, own_next hgr4 hbY, hs4.next hbY, H4.trans (hbY.mono H4.size)⟩
  clear hr1 hr2 hx1 hgr4 hgr3 Hr1 Hr2 hs3 hs4 H3 H4 hbY hg4 hgy ha1
  go_wp2_with fail
  generalize w4.alloc (.cells #[.int .i64 y.x.k, .slice y.A y.n y.c, .string y.x.l, .string y.x.cs, .int .i64 y.x.p] 26) = w5 at *
  obtain ⟨a2, ha2⟩ : ∃ a2, w4.heap.size = a2 := ⟨_, rfl⟩
  rw [ha2] at hS hoz hz4
  rw [ha2]
  clear ha2 hy1 hy2
  have q1 : w.heap.size + 2 ≤ b := by omega
  have q2 : b ≠ a1 := by omega
  have q3 : b ≠ a2 := by omega
  have q4 : a2 ≠ a1 := by omega
  have q5 : w0.heap.size ≤ a2 := by omega
  have q6 : w.heap.size + 2 ≤ a2 := by omega
  have q7 : w0.heap.size ≤ a1 := by omega
  have q8 : w.heap.size + 2 ≤ a1 := by omega
  clear hz2 hz3 hz4 hbb hlo
  generalize w0.heap.size = lo at *
  refine (one_c 3 lo b 120 _ hS.sr (by omega) (by omega)).mono ?_
  rintro e w6 ⟨ans, rfl, hs6, hg6⟩
  replace hS := hS.grown hs6 hg6 q1 q2 q3
  clear hs6 hg6
  go_upto_if 15 with fail
  go_cut [5, 6, 7] (fun s5 s6 s7 wx => s5 = .pointer (some ⟨b, 0, none⟩) ∧ s6 = .pointer (some ⟨a1, 0, none⟩) ∧ s7 = .pointer (some ⟨a2, 0, none⟩) ∧ CfSt w wx lo b 190 a1 a2 z)
  case first =>
    cases ans
    · go_wp2_with fail
      go_meet
      exact ⟨rfl, rfl, rfl, hS.more (by omega)⟩
    · have hch := hS.x1.chP (Sl.of_own hS.gr) (by have := hS.sm.g; show z.x.gs.length ≤ 1048576; omega) (by have := hS.sm.l; omega) (by have := hS.sm.c; omega)
      go_wp2_with fail
      refine (l05Own_c a1 0 z.A z.n z.c z.x _ hch).mono ?_
      rintro e w7 ⟨A7, c7, rfl, ho7, hb7⟩
      replace hS := hS.next hb7
      clear hch hb7 ho7
      obtain ⟨c10, c11, c12, c13, c14, f1⟩ := hS.x1.facts
      obtain ⟨k2, A2, n2, c2, l2, cs2, p2, hx2⟩ := hS.x2
      obtain ⟨c20, c21, c22, c23, c24, f2⟩ := hx2.facts
      have hrw := hx2.setAll z.x.k (.slice A7 z.n c7) z.x.l z.x.cs z.x.p
      have hS2 := hS.set2 (grown_w5 w7 a2 z.x.k (.slice A7 z.n c7) z.x.l z.x.cs z.x.p) ⟨_, _, _, _, _, _, _, hrw⟩ q6 q4 q3 q5 hoz
      dsimp only [W5] at hrw hS2
      go_wp2
      generalize ((((w7.setCell ⟨a2, 0, none⟩ (.int .i64 z.x.k)).setCell ⟨a2, 1, none⟩ (.slice A7 z.n c7)).setCell ⟨a2, 2, none⟩ (.string z.x.l)).setCell ⟨a2, 3, none⟩ (.string z.x.cs)).setCell ⟨a2, 4, none⟩ (.int .i64 z.x.p) = w8 at *
      clear hx2 c10 c11 c12 c13 c14 f1 c20 c21 c22 c23 c24 f2 hS
      have hd := hS2.next (wy := w8.drew) (Below.refl _ _).drew
      have hrd := hrw.next (w' := w8.drew) (Below.refl _ _).drew
      obtain ⟨_, _, _, _, d4, d5⟩ := hrd.facts
      clear hS2 hrw
      refine wp_region_any (by kernel_rfl) (show wpAny _ _ _ _ _ _ _ (World.drew _) from ?_)
      (first
        | (refine wpAny_take (i := 0) (v := ?_) rfl (by kernel_rfl) (by kernel_rfl) (by kernel_rfl) (fun _ _ _ h => h) (Or.inl ⟨by rfl, ?_⟩) ?_
           rotate_left
           focus (intro wq; go_simp; (try (with_reducible rfl)); done))
        | fail "take 0")
      try simp only [Act.put, List.setIfInBounds_toArray, List.set_cons_zero, List.set_cons_succ, List.getElem_toArray, List.getElem_cons_zero]
      (first
        | (refine wpAny_take (i := 2) (v := ?_) rfl (by kernel_rfl) (by kernel_rfl) (by kernel_rfl) (fun _ _ _ h => h) (Or.inl ⟨by rfl, ?_⟩) ?_
           rotate_left
           focus (intro wq; go_simp; (try (with_reducible rfl)); done))
        | fail "take 2")
      try simp only [Act.put, List.setIfInBounds_toArray, List.set_cons_zero, List.set_cons_succ, List.getElem_toArray, List.getElem_cons_zero, List.getElem_cons_succ]
      refine wpAny_ready (rs := [1, 3]) (by kernel_rfl) (by simp) ?_
      refine allReadyS_cons (o := _) rfl (fun K hK => ?_) (allReadyS_cons (o := _) rfl (fun K hK => ?_) AllReady.nil)
      · go_simp
        skip
        refine hK.out _ _ ?_
        clear hK K
        try simp only [Act.put, List.setIfInBounds_toArray, List.set_cons_zero, List.set_cons_succ, List.getElem_toArray, List.getElem_cons_zero, List.getElem_cons_succ]
        refine wpAny_ready (rs := [3]) (by kernel_rfl) (by simp) ?_
        refine allReadyS_cons (o := _) rfl (fun K hK => ?_) AllReady.nil
        go_simp
        refine (pick_c 30 lo b 126 _ (hd.sr.more (by omega)) (by omega) (by omega)).mono ?_
        rintro e w9 ⟨q, rfl, _, _, hs9, hg9⟩
        have hS9 := hd.grown (hs9.more (a2 := 190) (by omega)) hg9 q1 q2 q3
        have hr9 := hrd.grown hg9 (by intro e; injection e with e; omega)
        obtain ⟨_, _, _, _, d4, d5⟩ := hr9.facts
        refine hK.out _ _ ?_
        clear hK K
        try simp only [Act.put, List.setIfInBounds_toArray, List.set_cons_zero, List.set_cons_succ, List.getElem_toArray, List.getElem_cons_zero, List.getElem_cons_succ]
        (first
          | (refine wpAny_take (i := 4) (v := ?_) rfl (by kernel_rfl) (by kernel_rfl) (by kernel_rfl) (fun _ _ _ h => h) (Or.inl ⟨by rfl, ?_⟩) ?_
             rotate_left
             focus (intro wq; go_simp; (try (with_reducible rfl)); done))
          | fail "take 4")
        try simp only [Act.put, List.setIfInBounds_toArray, List.set_cons_zero, List.set_cons_succ, List.getElem_toArray, List.getElem_cons_zero, List.getElem_cons_succ]
        (first
          | (refine wpAny_take (i := 5) (v := ?_) rfl (by kernel_rfl) (by kernel_rfl) (by kernel_rfl) (fun _ _ _ h => h) (Or.inl ⟨by rfl, ?_⟩) ?_
             rotate_left
             focus (intro wq; go_simp; (try (with_reducible rfl)); done))
          | fail "take 5")
        try simp only [Act.put, List.setIfInBounds_toArray, List.set_cons_zero, List.set_cons_succ, List.getElem_toArray, List.getElem_cons_zero, List.getElem_cons_succ]
        have hSF := hS9.set2 (set_grownC w9 ⟨a2, 4, none⟩ (.int .i64 (IntKind.i64.wrap (z.x.p + q)))) ⟨_, _, _, _, _, _, _, hr9.set4 (IntKind.i64.wrap (z.x.p + q))⟩ q6 q4 q3 q5 hoz
        refine wpAny_ready (rs := [6]) (by kernel_rfl) (by simp) ?_
        refine allReadyS_cons (o := _) rfl (fun K hK => ?_) AllReady.nil
        go_simp
        skip
        refine hK.out _ _ ?_
        clear hK K
        try simp only [Act.put, List.setIfInBounds_toArray, List.set_cons_zero, List.set_cons_succ, List.getElem_toArray, List.getElem_cons_zero, List.getElem_cons_succ]
        refine wpAny_done (by kernel_rfl) ?_ _
        clear hS9 hr9 hd hrd
        go_wp2_with fail
        go_meet
        exact ⟨rfl, rfl, rfl, hSF.more (by omega)⟩
      · go_simp
        refine (pick_c 30 lo b 126 _ (hd.sr.more (by omega)) (by omega) (by omega)).mono ?_
        rintro e w9 ⟨q, rfl, _, _, hs9, hg9⟩
        have hS9 := hd.grown (hs9.more (a2 := 190) (by omega)) hg9 q1 q2 q3
        have hr9 := hrd.grown hg9 (by intro e; injection e with e; omega)
        obtain ⟨_, _, _, _, d4, d5⟩ := hr9.facts
        refine hK.out _ _ ?_
        clear hK K
        try simp only [Act.put, List.setIfInBounds_toArray, List.set_cons_zero, List.set_cons_succ, List.getElem_toArray, List.getElem_cons_zero, List.getElem_cons_succ]
        refine wpAny_ready (rs := [1]) (by kernel_rfl) (by simp) ?_
        refine allReadyS_cons (o := _) rfl (fun K hK => ?_) AllReady.nil
        go_simp
        skip
        refine hK.out _ _ ?_
        clear hK K
        try simp only [Act.put, List.setIfInBounds_toArray, List.set_cons_zero, List.set_cons_succ, List.getElem_toArray, List.getElem_cons_zero, List.getElem_cons_succ]
        (first
          | (refine wpAny_take (i := 4) (v := ?_) rfl (by kernel_rfl) (by kernel_rfl) (by kernel_rfl) (fun _ _ _ h => h) (Or.inl ⟨by rfl, ?_⟩) ?_
             rotate_left
             focus (intro wq; go_simp; (try (with_reducible rfl)); done))
          | fail "take 4")
        try simp only [Act.put, List.setIfInBounds_toArray, List.set_cons_zero, List.set_cons_succ, List.getElem_toArray, List.getElem_cons_zero, List.getElem_cons_succ]
        (first
          | (refine wpAny_take (i := 5) (v := ?_) rfl (by kernel_rfl) (by kernel_rfl) (by kernel_rfl) (fun _ _ _ h => h) (Or.inl ⟨by rfl, ?_⟩) ?_
             rotate_left
             focus (intro wq; go_simp; (try (with_reducible rfl)); done))
          | fail "take 5")
        try simp only [Act.put, List.setIfInBounds_toArray, List.set_cons_zero, List.set_cons_succ, List.getElem_toArray, List.getElem_cons_zero, List.getElem_cons_succ]
        have hSF := hS9.set2 (set_grownC w9 ⟨a2, 4, none⟩ (.int .i64 (IntKind.i64.wrap (z.x.p + q)))) ⟨_, _, _, _, _, _, _, hr9.set4 (IntKind.i64.wrap (z.x.p + q))⟩ q6 q4 q3 q5 hoz
        refine wpAny_ready (rs := [6]) (by kernel_rfl) (by simp) ?_
        refine allReadyS_cons (o := _) rfl (fun K hK => ?_) AllReady.nil
        go_simp
        skip
        refine hK.out _ _ ?_
        clear hK K
        try simp only [Act.put, List.setIfInBounds_toArray, List.set_cons_zero, List.set_cons_succ, List.getElem_toArray, List.getElem_cons_zero, List.getElem_cons_succ]
        refine wpAny_done (by kernel_rfl) ?_ _
        clear hS9 hr9 hd hrd
        go_wp2_with fail
        go_meet
        exact ⟨rfl, rfl, rfl, hSF.more (by omega)⟩
  case rest =>
    obtain ⟨rfl, rfl, rfl, hS2⟩ := hcut
    clear hS hoz
    go_wp2_with fail
    refine (one_c 14 lo b 190 _ hS2.sr (by omega) (by omega)).mono ?_
    rintro e w7 ⟨ans, rfl, hs7, hg7⟩
    have hS := hS2.grown hs7 hg7 q1 q2 q3
    clear hs7 hg7 hS2
    go_upto_if 24 with fail
    go_cut [5, 6, 7] (fun s5 s6 s7 wx => s5 = .pointer (some ⟨b, 0, none⟩) ∧ s6 = .pointer (some ⟨a1, 0, none⟩) ∧ s7 = .pointer (some ⟨a2, 0, none⟩) ∧ ∃ z, CfSt w wx lo b 260 a1 a2 z)
    case first =>
      cases ans
      · go_wp2_with fail
        go_meet
        exact ⟨rfl, rfl, rfl, z, hS.more (by omega)⟩
      · go_wp2_with fail
        refine (l05Bent_c lo b 192 _ hS.sr (by omega)).mono ?_
        rintro e w8 ⟨y, rfl, hsm, hgy, hs8, hg8⟩
        have ha1 := hS.x1.lt
        have hle := hS.bl.size
        have hb2 : w.heap.size + 2 ≤ w7.heap.size := by omega
        replace hS := hS.grown hs8 hg8 q1 q2 q3
        obtain ⟨c10, c11, c12, c13, c14, f1⟩ := hS.x1.facts
        obtain ⟨k2, A2, n2, c2, l2, cs2, p2, hx2⟩ := hS.x2
        obtain ⟨c20, c21, c22, c23, c24, f2⟩ := hx2.facts
        have hrw := hS.x1.setAll y.x.k (.slice y.A y.n y.c) y.x.l y.x.cs y.x.p
        have hG := grown_w5 w8 a1 y.x.k (.slice y.A y.n y.c) y.x.l y.x.cs y.x.p
        have hS2 : CfSt w (W5 w8 a1 y.x.k (.slice y.A y.n y.c) y.x.l y.x.cs y.x.p) lo b 260 a1 a2 y :=
          ⟨hS.r1.grown hG (by intro e; injection e with e; omega), hS.r2.grown hG (by intro e; injection e with e; omega), hrw, ⟨_, _, _, _, _, _, _, hx2.grown hG (by intro e; injection e with e; omega)⟩, hsm, own_base (own_w5 hgy ha1 _ _ _ _ _) hb2, (src_grownC hS.sr hG (by intro e; injection e with e; omega) (fun g hg => by injection hg with hg; omega)).more (by omega), hS.bl.grown hG hS.bl.size fun g hg => by injection hg with hg; omega⟩
        dsimp only [W5] at hS2
        clear hrw hG hS hsm hgy hs8 hg8 hx2
        go_wp2_with fail
        go_meet
        exact ⟨rfl, rfl, rfl, y, hS2⟩
    case rest =>
      obtain ⟨rfl, rfl, rfl, y, hS2⟩ := hcut
      clear hS Hsm
      have hS := hS2
      obtain ⟨c10, c11, c12, c13, c14, f1⟩ := hS.x1.facts
      obtain ⟨k2, A2, n2, c2, l2, cs2, p2, hx2⟩ := hS.x2
      obtain ⟨c20, c21, c22, c23, c24, f2⟩ := hx2.facts
      have z1 := hS.x1.lt
      have z2 := hx2.lt
      have hd := hS2.next (wy := wc.drew) (Below.refl _ _).drew
      have nn1 : w.heap.size ≠ a1 := by omega
      have nn2 : w.heap.size ≠ a2 := by omega
      have nn3 : w.heap.size + 1 ≠ a1 := by omega
      have nn4 : w.heap.size + 1 ≠ a2 := by omega
      have hl1 : w.heap.size < a1 := by omega
      clear hS2 hS
      go_wp2_with fail
      refine wp_region_held_drew (S := fun w' => (∀ x, w'.cell? ⟨a1, x, none⟩ = wc.cell? ⟨a1, x, none⟩) ∧ (∀ x, w'.cell? ⟨a2, x, none⟩ = wc.cell? ⟨a2, x, none⟩)) (by kernel_rfl) ⟨fun _ => rfl, fun _ => rfl⟩ (fun hHeld => ?_)
      (first
        | (refine wpAnyH_take (i := 0) (v := ?_) rfl (by kernel_rfl) (by kernel_rfl) (by kernel_rfl) (fun _ _ _ h => h) (Or.inl ⟨by rfl, ?_⟩) (by assumption) ?_
           rotate_left
           focus (intro wq hSq; (try dsimp only at hSq); go_simp; (try (with_reducible rfl)); done))
        | (refine wpAnyH_take (i := 0) (v := undef) rfl (by kernel_rfl) (by kernel_rfl) (by kernel_rfl) (fun _ _ _ h => h) (Or.inr ⟨by rfl, rfl⟩) (by assumption) ?_)
        | fail "take 0")
      try simp only [Act.put, List.setIfInBounds_toArray, List.set_cons_zero, List.set_cons_succ, List.getElem_toArray, List.getElem_cons_zero]
      (first
        | (refine wpAnyH_take (i := 1) (v := ?_) rfl (by kernel_rfl) (by kernel_rfl) (by kernel_rfl) (fun _ _ _ h => h) (Or.inl ⟨by rfl, ?_⟩) (by assumption) ?_
           rotate_left
           focus (intro wq hSq; (try dsimp only at hSq); go_simp; (try (with_reducible rfl)); done))
        | (refine wpAnyH_take (i := 1) (v := undef) rfl (by kernel_rfl) (by kernel_rfl) (by kernel_rfl) (fun _ _ _ h => h) (Or.inr ⟨by rfl, rfl⟩) (by assumption) ?_)
        | fail "take 1")
      try simp only [Act.put, List.setIfInBounds_toArray, List.set_cons_zero, List.set_cons_succ, List.getElem_toArray, List.getElem_cons_zero, List.getElem_cons_succ]
      (first
        | (refine wpAnyH_take (i := 2) (v := ?_) rfl (by kernel_rfl) (by kernel_rfl) (by kernel_rfl) (fun _ _ _ h => h) (Or.inl ⟨by rfl, ?_⟩) (by assumption) ?_
           rotate_left
           focus (intro wq hSq; (try dsimp only at hSq); go_simp; (try (with_reducible rfl)); done))
        | (refine wpAnyH_take (i := 2) (v := undef) rfl (by kernel_rfl) (by kernel_rfl) (by kernel_rfl) (fun _ _ _ h => h) (Or.inr ⟨by rfl, rfl⟩) (by assumption) ?_)
        | fail "take 2")
      try simp only [Act.put, List.setIfInBounds_toArray, List.set_cons_zero, List.set_cons_succ, List.getElem_toArray, List.getElem_cons_zero, List.getElem_cons_succ]
      refine wpAnyH_ready (rs := [3]) (by kernel_rfl) (by simp) ?_
      refine AllReadyH.cons (o := _) rfl (fun K hK => ?_) AllReadyH.nil
      go_simp
      refine (l18Tol_c lo b 260 _ hd.sr (by omega)).mono ?_; rintro e w9 ⟨t, rfl, _, hs9, hg9⟩; have kk1 : ∀ x, w9.cell? ⟨a1, x, none⟩ = wc.cell? ⟨a1, x, none⟩ := fun x => keepG hg9 z1 (by intro e; injection e with e; omega) x; have kk2 : ∀ x, w9.cell? ⟨a2, x, none⟩ = wc.cell? ⟨a2, x, none⟩ := fun x => keepG hg9 z2 (by intro e; injection e with e; omega) x; have hS9 := hd.grown hs9 hg9 q1 q2 q3; have hr1 := hS9.r1; have hr2 := hS9.r2; have f10 := hr1.facts; have f20 := hr2.facts
      refine hK.out _ _ ?_ (fun hHeld => ?_)
      · exact ⟨kk1, kk2⟩
      clear hK K
      try simp only [Act.put, List.setIfInBounds_toArray, List.set_cons_zero, List.set_cons_succ, List.getElem_toArray, List.getElem_cons_zero, List.getElem_cons_succ]
      obtain ⟨g10, g11, g12, g13, g14, gf1⟩ := hr1.facts
      have y1 := hS9.x1.lt
      have y2 : a2 < w9.heap.size := Nat.lt_of_lt_of_le z2 hg9.size
      have hgz := hS9.gr
      have hsm := hS9.sm
      have hbl := hS9.bl
      have G1 := grown_w5 w9 w.heap.size y.x.k (.slice y.A y.n y.c) y.x.l y.x.cs y.x.p
      have m1 := hr1.setAll y.x.k (.slice y.A y.n y.c) y.x.l y.x.cs y.x.p
      have m2 := hr2.grown G1 (by intro e; injection e with e; omega)
      have K1 : ∀ x, (W5 w9 w.heap.size y.x.k (.slice y.A y.n y.c) y.x.l y.x.cs y.x.p).cell? ⟨a1, x, none⟩ = wc.cell? ⟨a1, x, none⟩ := fun x => (keepG G1 y1 (by intro e; injection e with e; omega) x).trans (kk1 x)
      have K2 : ∀ x, (W5 w9 w.heap.size y.x.k (.slice y.A y.n y.c) y.x.l y.x.cs y.x.p).cell? ⟨a2, x, none⟩ = wc.cell? ⟨a2, x, none⟩ := fun x => (keepG G1 y2 (by intro e; injection e with e; omega) x).trans (kk2 x)
      have hg1 := own_w5 hgz (b := w.heap.size) (by omega) y.x.k (.slice y.A y.n y.c) y.x.l y.x.cs y.x.p
      have hb1 := below_w5 hbl (b := w.heap.size) (Nat.le_refl _) y.x.k (.slice y.A y.n y.c) y.x.l y.x.cs y.x.p
      have Y1 := Nat.lt_of_lt_of_le y1 G1.size
      have Y2 := Nat.lt_of_lt_of_le y2 G1.size
      clear hS9 hr1 hr2 f10 f20 hd hs9 hg9
      have Hsm := Lib.hid hsm; clear hsm
      have Hgz := Lib.hid hgz; clear hgz
      have Hbl := Lib.hid hbl; clear hbl
      have M1 := Lib.hid m1; clear m1
      have Hg1 := Lib.hid hg1; clear hg1
      have Hb1 := Lib.hid hb1; clear hb1
      dsimp only [W5] at K1 K2 G1 Y1 Y2
      refine wpAnyH_ready (rs := [4]) (by kernel_rfl) (by simp) ?_
      refine AllReadyH.cons (o := _) rfl (fun K hK => ?_) AllReadyH.nil
      go_simp
      skip
      refine hK.out _ _ ?_ (fun hHeld => ?_)
      · exact ⟨K1, K2⟩
      clear hK K
      try simp only [Act.put, List.setIfInBounds_toArray, List.set_cons_zero, List.set_cons_succ, List.getElem_toArray, List.getElem_cons_zero, List.getElem_cons_succ]
      replace hg1 := Hg1.out
      replace hb1 := Hb1.out
      replace m1 := M1.out
      dsimp only [W5] at hg1 hb1 m1 m2
      clear Hg1 Hb1 M1 Hgz Hbl g10 g11 g12 g13 g14 gf1
      generalize ((((w9.setCell ⟨w.heap.size, 0, none⟩ (.int .i64 y.x.k)).setCell ⟨w.heap.size, 1, none⟩ (.slice y.A y.n y.c)).setCell ⟨w.heap.size, 2, none⟩ (.string y.x.l)).setCell ⟨w.heap.size, 3, none⟩ (.string y.x.cs)).setCell ⟨w.heap.size, 4, none⟩ (.int .i64 y.x.p) = wd at *
      obtain ⟨g10, g11, g12, g13, g14, gf1⟩ := m2.facts
      have G2 := grown_w5 wd (w.heap.size + 1) k2 (.slice A2 n2 c2) l2 cs2 p2
      have M2 := m2.setAll k2 (.slice A2 n2 c2) l2 cs2 p2
      have M1 := m1.grown G2 (by intro e; injection e with e; omega)
      have L1 : ∀ x, (W5 wd (w.heap.size + 1) k2 (.slice A2 n2 c2) l2 cs2 p2).cell? ⟨a1, x, none⟩ = wc.cell? ⟨a1, x, none⟩ := fun x => (keepG G2 Y1 (by intro e; injection e with e; omega) x).trans (K1 x)
      have L2 : ∀ x, (W5 wd (w.heap.size + 1) k2 (.slice A2 n2 c2) l2 cs2 p2).cell? ⟨a2, x, none⟩ = wc.cell? ⟨a2, x, none⟩ := fun x => (keepG G2 Y2 (by intro e; injection e with e; omega) x).trans (K2 x)
      have hg2 := own_base (base' := w.heap.size) (own_w5 hg1 (b := w.heap.size + 1) (by omega) k2 (.slice A2 n2 c2) l2 cs2 p2) (by omega)
      have hb2 := below_w5 hb1 (b := w.heap.size + 1) (by omega) k2 (.slice A2 n2 c2) l2 cs2 p2
      clear m1 m2 hg1 hb1 G1
      have HM1 := Lib.hid M1; clear M1
      have HM2 := Lib.hid M2; clear M2
      have Hg2 := Lib.hid hg2; clear hg2
      have Hb2 := Lib.hid hb2; clear hb2
      dsimp only [W5] at L1 L2
      clear G2
      refine wpAnyH_ready (rs := [5]) (by kernel_rfl) (by simp) ?_
      refine AllReadyH.cons (o := _) rfl (fun K hK => ?_) AllReadyH.nil
      go_simp
      skip
      refine hK.out _ _ ?_ (fun hHeld => ?_)
      · exact ⟨L1, L2⟩
      clear hK K
      try simp only [Act.put, List.setIfInBounds_toArray, List.set_cons_zero, List.set_cons_succ, List.getElem_toArray, List.getElem_cons_zero, List.getElem_cons_succ]
      replace hg2 := Hg2.out
      replace hb2 := Hb2.out
      replace M1 := HM1.out
      replace M2 := HM2.out
      dsimp only [W5] at hg2 hb2 M1 M2
      clear Hg2 Hb2 HM1 HM2 g10 g11 g12 g13 g14 gf1
      generalize ((((wd.setCell ⟨w.heap.size + 1, 0, none⟩ (.int .i64 k2)).setCell ⟨w.heap.size + 1, 1, none⟩ (.slice A2 n2 c2)).setCell ⟨w.heap.size + 1, 2, none⟩ (.string l2)).setCell ⟨w.heap.size + 1, 3, none⟩ (.string cs2)).setCell ⟨w.heap.size + 1, 4, none⟩ (.int .i64 p2) = we at *
      (first
        | (refine wpAnyH_take (i := 6) (v := ?_) rfl (by kernel_rfl) (by kernel_rfl) (by kernel_rfl) (fun _ _ _ h => h) (Or.inl ⟨by rfl, ?_⟩) (by assumption) ?_
           rotate_left
           focus (intro wq hSq; (try dsimp only at hSq); go_simp; (try (with_reducible rfl)); done))
        | (refine wpAnyH_take (i := 6) (v := undef) rfl (by kernel_rfl) (by kernel_rfl) (by kernel_rfl) (fun _ _ _ h => h) (Or.inr ⟨by rfl, rfl⟩) (by assumption) ?_)
        | fail "take 6")
      try simp only [Act.put, List.setIfInBounds_toArray, List.set_cons_zero, List.set_cons_succ, List.getElem_toArray, List.getElem_cons_zero, List.getElem_cons_succ]
      refine wpAnyH_done (by kernel_rfl) ?_ _
      obtain ⟨e10, e11, e12, e13, e14, _⟩ := M1.facts
      obtain ⟨e20, e21, e22, e23, e24, _⟩ := M2.facts
      go_wp2_with fail
      refine bodyPost_ret (v := .tuple #[chV y.x.k y.A y.n y.c y.x.l y.x.cs y.x.p, .agg #[.int .i64 k2, .slice A2 n2 c2, .string l2, .string cs2, .int .i64 p2], .int .i64 t]) (by simp [results, Try.results15, go_sem, e10, e11, e12, e13, e14, e20, e21, e22, e23, e24]) rfl ⟨y, k2, A2, n2, c2, l2, cs2, p2, t, rfl, Hsm.out, hg2, hb2⟩
end Go.Proofs.Ytgibbhipjpbdfaa
