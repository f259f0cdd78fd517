/- MatchStart and ErrorFrom, both sides. -/
import Derived.Test.YtgfplmfdgbklkaaChTight
import Derived.Test.YtgfplmfdgbklkaaChMat3
namespace Go.Proofs.Ytgfplmfdgbklkaa
open Go.RowKit
def okCO (x : Ch) (o : List Ph) : Bool := validB x && obsB o
def startV (x : Ch) (o : List Ph) (tol : Int) : Int := bif okCO x o && (inB tol 0 100 && decide (0 ≤ firstI (startsL x o tol))) then firstI (startsL x o tol) else 0
def startK (x : Ch) (o : List Ph) (tol : Int) : Int := bif okCO x o then (bif inB tol 0 100 then (bif decide (0 ≤ firstI (startsL x o tol)) then 0 else 3) else 2) else 1
def errV (x : Ch) (o : List Ph) (start : Int) : Int := bif okCO x o && fromB x o start 2400 then errI x o start else 0
def errK (x : Ch) (o : List Ph) (start : Int) : Int := bif okCO x o then (bif fromB x o start 2400 then 0 else 3) else 1
theorem firstI_bd (xs : List Nat) : -1 ≤ firstI xs := by unfold firstI; split <;> omega
set_option maxRecDepth 100000 in
set_option maxHeartbeats 1000000 in
theorem l17Match_c (b off : Nat) (A : Option Addr) (n c : Nat) (x : Ch) (Ao : Option Addr) (no co : Nat) (o : List Ph) (tol : Int) (w : World) (h : ChP w b off A n c x) (hv : validB x = true)
    (ho : Sl w w.heap.size 2 Ao no (o.flatMap Ph.cells)) (ok : ObsOK o no) (t0 : 0 ≤ tol) (t1 : tol ≤ 1000000) :
    Calls Try.prog 59 #[.pointer (some ⟨b, off, none⟩), .slice Ao no co, .int .i64 tol] w fun e w' => e = .returned (.int .i64 (firstI (startsL x o tol))) ∧ Below w.heap.size w w' := by
  have hl40 := phases_len40 (co := ⟨#[87]⟩) (valid_shape hv)
  have hcE := colB_E2 ok.col
  have HcE := Lib.hid hcE; clear hcE
  go_enter Try.func59, Try.ntmps59
  go_wp2_with fail
  refine (l05Phases_c b off A n c x ⟨#[87]⟩ _ h hv).mono ?_
  rintro e w1 ⟨v, rfl, hoT, hb1⟩
  obtain ⟨AT, cT, rfl⟩ := own_slice hoT
  obtain ⟨N, hN⟩ : ∃ N, (phasesL x ⟨#[87]⟩).length = N := ⟨_, rfl⟩
  rw [hN] at hl40 ⊢
  have HN := Lib.hid hN; clear hN
  clear hoT
  go_wp2_with fail
  go_loopw [8] (fun i wr => ∃ k : Nat, k ≤ N ∧ i = .int .i64 k ∧ (∀ j : Nat, j < k → fromB x o (j : Int) tol = false) ∧ Below w.heap.size w wr) (fun i _ => N - (intOf i).toNat)
  case atStart => exact ⟨0, Nat.zero_le _, rfl, fun j hj => absurd hj (by omega), hb1⟩
  case round =>
    obtain ⟨k, hk, rfl, hno, hbw⟩ := hrel
    have Hno := Lib.hid hno; clear hno
    by_cases hlt : k < N
    · cases hf : fromB x o (k : Int) tol
      · go_wp2_with fail
        refine (l17From_c b off A n c x Ao no co o (k : Int) tol _ (h.next hbw) hv (ho.next hbw) ok t0 t1).mono ?_
        rw [hf]
        rintro e w2 ⟨rfl, hb2⟩
        have Hf := Lib.hid hf; clear hf
        go_wp2_with fail
        go_roundw
        case rel =>
          refine ⟨k + 1, by omega, by go_num, fun j hj => ?_, hbw.trans (hb2.mono hbw.size)⟩
          rcases Nat.lt_or_ge j k with h1 | h1
          · exact Hno.out j h1
          · obtain rfl : j = k := by omega
            exact Hf.out
        case measure => simp [intOf]; omega
      · have hs := starts_first (show k < 40 by omega) Hno.out hf
        have Hs := Lib.hid hs; clear hs
        go_wp2_with fail
        refine (l17From_c b off A n c x Ao no co o (k : Int) tol _ (h.next hbw) hv (ho.next hbw) ok t0 t1).mono ?_
        rw [hf]
        rintro e w2 ⟨rfl, hb2⟩
        have Hf := Lib.hid hf; clear hf
        go_wp2_with fail
        go_ret
        exact ⟨ret_eq (int_eq (by first | rfl | exact Hs.out.symm)), hbw.trans (hb2.mono hbw.size)⟩
    · go_wp2_with fail
      go_ret
      refine ⟨ret_eq (int_eq ?_), hbw⟩
      rw [starts_none HcE.out ⟨#[87]⟩ (by rw [HN.out]; omega) Hno.out]; rfl
set_option maxRecDepth 100000 in
set_option maxHeartbeats 2000000 in
theorem starts_c (A : Option Addr) (n c : Nat) (x : Ch) (w : World) (sl : Sl w w.heap.size 1 A n (x.gs.flatMap intC)) (hn : n ≤ 1048576) (hlz : x.l.size ≤ 1048576) (hs : x.cs.size ≤ 1048576) (Ao : Option Addr) (no co : Nat) (o : List Ph) (tol : Int) (hv : validB x = true)
    (ho : Sl w w.heap.size 2 Ao no (o.flatMap Ph.cells)) (ok : ObsOK o no) (t0 : 0 ≤ tol) (t1 : tol ≤ 1000000) :
    Calls Try.prog 65 #[chV x.k A n c x.l x.cs x.p, .slice Ao no co, .int .i64 tol] w fun e w' => ∃ v, e = .returned v ∧ w'.ownsRow w.heap.size 2 1 v (startsL x o tol).length (((startsL x o tol).map fun (i : Nat) => (i : Int)).flatMap intC) ∧ Below w.heap.size w w' := by
  obtain ⟨p0, hp, hy0, hy1, hy2⟩ := info_parts intInfo
  have hb0 : Below w.heap.size w (w.alloc (.cells #[.int .i64 x.k, .slice A n c, .string x.l, .string x.cs, .int .i64 x.p] 30)) := by (repeat (first | (with_reducible assumption) | (with_reducible exact Below.refl _ _) | exact Nat.le_refl _ | exact Below.size (by with_reducible assumption) | (with_reducible refine Below.drew ?_) | (with_reducible refine below_drewN ?_ _) | (with_reducible refine Below.alloc ?_ ?_ _) | (with_reducible refine Below.setCell ?_ ?_ _) | (with_reducible refine le_alloc ?_ _) | (with_reducible refine le_set ?_ _ _) | (with_reducible refine le_drew ?_) | (with_reducible refine le_drewN ?_ _) | omega | (dsimp only; omega)))
  have sl0 := sl.next hb0
  have hz0 : w.heap.size < (w.alloc (.cells #[.int .i64 x.k, .slice A n c, .string x.l, .string x.cs, .int .i64 x.p] 30)).heap.size := by simp
  obtain ⟨c0, c1, c2, c3, c4, _, _, _, _, _⟩ := chp_box (c := c) 30 sl hn hlz hs
  simp only [Nat.zero_add] at c0 c1 c2 c3 c4
  have ho0 := ho.next hb0
  go_enter Try.func65, Try.ntmps65
  go_wp2_with fail
  have hz1 : (w.alloc (.cells #[.int .i64 x.k, .slice A n c, .string x.l, .string x.cs, .int .i64 x.p] 30)).heap.size = w.heap.size + 1 := by simp
  generalize w.alloc (.cells #[.int .i64 x.k, .slice A n c, .string x.l, .string x.cs, .int .i64 x.p] 30) = w0 at *
  have hov := World.ownsRow_made (base := w0.heap.size) (e := 2) (size := 1) w0 #[] 0 (Nat.le_refl _) (by simp [maxLen]) rfl
  have hbv : Below w0.heap.size w0 (w0.alloc (.cells #[] 2)) := by (repeat (first | (with_reducible assumption) | (with_reducible exact Below.refl _ _) | exact Nat.le_refl _ | exact Below.size (by with_reducible assumption) | (with_reducible refine Below.drew ?_) | (with_reducible refine below_drewN ?_ _) | (with_reducible refine Below.alloc ?_ ?_ _) | (with_reducible refine Below.setCell ?_ ?_ _) | (with_reducible refine le_alloc ?_ _) | (with_reducible refine le_set ?_ _ _) | (with_reducible refine le_drew ?_) | (with_reducible refine le_drewN ?_ _) | omega | (dsimp only; omega)))
  go_loopw [7, 10] (fun v i wr => ∃ (k : Nat) (L : List Nat), k ≤ 40 ∧ i = .int .i64 k ∧ L = (List.range k).filter (fun (i : Nat) => fromB x o (i : Int) tol) ∧ wr.ownsRow w0.heap.size 2 1 v L.length ((L.map fun (i : Nat) => (i : Int)).flatMap intC) ∧ Below w0.heap.size w0 wr) (fun _ i _ => 40 - (intOf i).toNat)
  case atStart => exact ⟨0, [], Nat.zero_le _, rfl, by simp, by rw [hz1] at hov ⊢; exact hov, hbv⟩
  case round =>
    clear hov hbv
    obtain ⟨k, L, hk, rfl, hL, hov, hbw⟩ := hrel
    obtain ⟨A3, c3', rfl⟩ := own_slice hov
    have q3 := keepC hbw w.heap.size hz0
    by_cases hlt : k < 40
    · have hll : L.length ≤ 40 := by rw [hL]; exact Nat.le_trans (List.length_filter_le _ _) (by simp; omega)
      have hnx := starts_next x o tol k
      rw [← hL] at hnx
      have HL := Lib.hid hL; clear hL
      go_wp2_with fail
      refine (canBegin_c A n c x _ (sl0.next hbw) hn hlz hs Ao no co o (k : Int) tol hv (ho0.next hbw) ok t0 t1).mono ?_
      rintro e w2 ⟨rfl, hb2⟩
      replace hov := own_next hov hb2
      have hbw2 := hbw.trans (hb2.mono hbw.size)
      cases hf : fromB x o (k : Int) tol
      · rw [if_neg (by rw [hf]; simp), List.append_nil] at hnx
        have Hnx := Lib.hid hnx; clear hnx
        have Hf := Lib.hid hf; clear hf
        go_wp2_with fail
        go_roundw
        case rel => exact ⟨k + 1, L, by omega, by go_num, Hnx.out.symm, hov, hbw2⟩
        case measure => simp [intOf]; omega
      · rw [if_pos hf] at hnx
        have e63 : L.length + 1 ≤ maxLen := by unfold maxLen; omega
        have e32 : (L.length + 1) * 8 ≤ 140737488355328 := by omega
        have E63 := Lib.hid e63; clear e63
        have E32 := Lib.hid e32; clear e32
        have Hnx := Lib.hid hnx; clear hnx
        have Hf := Lib.hid hf; clear hf
        go_wp2_with (at_builtin; refine wpl_append _ rfl (.tmp 18) (.tmp 20) _ rfl w0.heap.size 2 p0 _ 1 8 Try.underlying22 hp hy0 hy1 hy2 rfl (by omega) _ _ _ rfl (hov.alloc _) (w2.heap.size + 1) (some ⟨w2.heap.size, 0, none⟩) 1 1 (intC (k : Int)) rfl (Sl.new w2 2 _ 1 1 rfl) (intC_one _) E63.out E32.out (le_alloc hbw2.size _) ?_; intro v4 w4 ho4 hg4 hat4)
        go_roundw
        case rel =>
          refine ⟨k + 1, L ++ [k], by omega, by go_num, Hnx.out.symm, ?_, (hbw2.alloc hbw2.size _).grown hg4 (le_alloc hbw2.size _) fun g hg => (hov.lt g hg).1⟩
          rw [List.map_append, List.flatMap_append, List.length_append]
          simpa using ho4
        case measure => simp [intOf]; omega
    · go_wp2_with fail
      go_ret
      obtain rfl : k = 40 := by omega
      subst hL
      exact ⟨_, rfl, own_base hov hb0.size, hb0.trans (hbw.mono hb0.size)⟩
set_option maxRecDepth 100000 in
set_option maxHeartbeats 2000000 in
theorem specStart_c (A : Option Addr) (n c : Nat) (x : Ch) (w : World) (sl : Sl w w.heap.size 1 A n (x.gs.flatMap intC)) (hn : n ≤ 1048576) (hlz : x.l.size ≤ 1048576) (hs : x.cs.size ≤ 1048576) (Ao : Option Addr) (no co : Nat) (o : List Ph) (ho : Sl w w.heap.size 2 Ao no (o.flatMap Ph.cells)) (hno : no ≤ 1048576) (tol : Int) :
    Calls Try.prog 15 #[chV x.k A n c x.l x.cs x.p, .slice Ao no co, .int .i64 tol] w fun e w' => e = .returned (.tuple #[.int .i64 (startV x o tol), .int .i64 (startK x o tol)]) ∧ Below w.heap.size w w' := by
  have hp := chp_box (c := c) 30 sl hn hlz hs
  have hb0 : Below w.heap.size w (w.alloc (.cells #[.int .i64 x.k, .slice A n c, .string x.l, .string x.cs, .int .i64 x.p] 30)) := by (repeat (first | (with_reducible assumption) | (with_reducible exact Below.refl _ _) | exact Nat.le_refl _ | exact Below.size (by with_reducible assumption) | (with_reducible refine Below.drew ?_) | (with_reducible refine below_drewN ?_ _) | (with_reducible refine Below.alloc ?_ ?_ _) | (with_reducible refine Below.setCell ?_ ?_ _) | (with_reducible refine le_alloc ?_ _) | (with_reducible refine le_set ?_ _ _) | (with_reducible refine le_drew ?_) | (with_reducible refine le_drewN ?_ _) | omega | (dsimp only; omega)))
  have hl := ho.len Ph.cells 2 Ph.cells_len (by omega)
  have Hl := Lib.hid hl; clear hl
  cases hv : validB x
  · have hO : okCO x o = false := by rw [okCO, hv]; rfl
    have HO := Lib.hid hO; clear hO
    go_enter Try.func15, Try.ntmps15
    go_wp2_with fail
    refine (l05Ok_c _ _ _ _ _ x _ hp).mono ?_
    rintro e w1 ⟨rfl, hb1⟩
    have hp1 := hp.next hb1
    have hbb := hb0.trans (hb1.mono hb0.size)
    have ho1 := ho.next hbb
    go_wp2_with (first | (go_at_call 57; refine (l17Ok_c Ao no co o _ ho1 hno).mono ?_; rintro e w2 ⟨rfl, hb2⟩; have hp2 := hp1.next hb2; have hbb2 := hbb.trans (hb2.mono hbb.size); have ho2 := ho.next hbb2) | (go_at_call 58; refine (l17Tol_c _ _).mono ?_; rintro e w9 ⟨rfl, rfl⟩))
    go_ret2
    exact ⟨by simp [startV, startK, HO.out], hbb⟩
  cases hob : obsB o
  · have hO : okCO x o = false := by rw [okCO, hv, hob]; rfl
    have HO := Lib.hid hO; clear hO
    go_enter Try.func15, Try.ntmps15
    go_wp2_with fail
    refine (l05Ok_c _ _ _ _ _ x _ hp).mono ?_
    rintro e w1 ⟨rfl, hb1⟩
    have hp1 := hp.next hb1
    have hbb := hb0.trans (hb1.mono hb0.size)
    have ho1 := ho.next hbb
    go_wp2_with (first | (go_at_call 57; refine (l17Ok_c Ao no co o _ ho1 hno).mono ?_; rintro e w2 ⟨rfl, hb2⟩; have hp2 := hp1.next hb2; have hbb2 := hbb.trans (hb2.mono hbb.size); have ho2 := ho.next hbb2) | (go_at_call 58; refine (l17Tol_c _ _).mono ?_; rintro e w9 ⟨rfl, rfl⟩))
    go_ret2
    exact ⟨by simp [startV, startK, HO.out], hbb2⟩
  have hO : okCO x o = true := by rw [okCO, hv, hob]; rfl
  have HO := Lib.hid hO; clear hO
  cases hti : inB tol 0 100
  · go_enter Try.func15, Try.ntmps15
    go_wp2_with fail
    refine (l05Ok_c _ _ _ _ _ x _ hp).mono ?_
    rintro e w1 ⟨rfl, hb1⟩
    have hp1 := hp.next hb1
    have hbb := hb0.trans (hb1.mono hb0.size)
    have ho1 := ho.next hbb
    go_wp2_with (first | (go_at_call 57; refine (l17Ok_c Ao no co o _ ho1 hno).mono ?_; rintro e w2 ⟨rfl, hb2⟩; have hp2 := hp1.next hb2; have hbb2 := hbb.trans (hb2.mono hbb.size); have ho2 := ho.next hbb2) | (go_at_call 58; refine (l17Tol_c _ _).mono ?_; rintro e w9 ⟨rfl, rfl⟩))
    go_ret2
    exact ⟨by simp [startV, startK, HO.out, hti], hbb2⟩
  have ok := obsB_ok hob Hl.out
  obtain ⟨t0, t1⟩ := inB_iff.1 hti
  have t2 : tol ≤ 1000000 := by omega
  by_cases hi : 0 ≤ firstI (startsL x o tol)
  · have hi2 : ¬ firstI (startsL x o tol) < 0 := by omega
    go_enter Try.func15, Try.ntmps15
    go_wp2_with fail
    refine (l05Ok_c _ _ _ _ _ x _ hp).mono ?_
    rintro e w1 ⟨rfl, hb1⟩
    have hp1 := hp.next hb1
    have hbb := hb0.trans (hb1.mono hb0.size)
    have ho1 := ho.next hbb
    go_wp2_with (first | (go_at_call 57; refine (l17Ok_c Ao no co o _ ho1 hno).mono ?_; rintro e w2 ⟨rfl, hb2⟩; have hp2 := hp1.next hb2; have hbb2 := hbb.trans (hb2.mono hbb.size); have ho2 := ho.next hbb2) | (go_at_call 58; refine (l17Tol_c _ _).mono ?_; rintro e w9 ⟨rfl, rfl⟩))
    refine (l17Match_c _ _ A n c x Ao no co o tol _ hp2 hv ho2 ok t0 t2).mono ?_
    rintro e w3 ⟨rfl, hb3⟩
    go_wp2_with fail
    go_ret2
    exact ⟨by simp [startV, startK, HO.out, hti, hi], hbb2.trans (hb3.mono hbb2.size)⟩
  · have hi2 : firstI (startsL x o tol) < 0 := by omega
    go_enter Try.func15, Try.ntmps15
    go_wp2_with fail
    refine (l05Ok_c _ _ _ _ _ x _ hp).mono ?_
    rintro e w1 ⟨rfl, hb1⟩
    have hp1 := hp.next hb1
    have hbb := hb0.trans (hb1.mono hb0.size)
    have ho1 := ho.next hbb
    go_wp2_with (first | (go_at_call 57; refine (l17Ok_c Ao no co o _ ho1 hno).mono ?_; rintro e w2 ⟨rfl, hb2⟩; have hp2 := hp1.next hb2; have hbb2 := hbb.trans (hb2.mono hbb.size); have ho2 := ho.next hbb2) | (go_at_call 58; refine (l17Tol_c _ _).mono ?_; rintro e w9 ⟨rfl, rfl⟩))
    refine (l17Match_c _ _ A n c x Ao no co o tol _ hp2 hv ho2 ok t0 t2).mono ?_
    rintro e w3 ⟨rfl, hb3⟩
    go_wp2_with fail
    go_ret2
    exact ⟨by simp [startV, startK, HO.out, hti, decide_eq_false (show ¬ (0 : Int) ≤ firstI (startsL x o tol) by omega)], hbb2.trans (hb3.mono hbb2.size)⟩
set_option maxRecDepth 100000 in
set_option maxHeartbeats 2000000 in
theorem implStart_c (A : Option Addr) (n c : Nat) (x : Ch) (w : World) (sl : Sl w w.heap.size 1 A n (x.gs.flatMap intC)) (hn : n ≤ 1048576) (hlz : x.l.size ≤ 1048576) (hs : x.cs.size ≤ 1048576) (Ao : Option Addr) (no co : Nat) (o : List Ph) (ho : Sl w w.heap.size 2 Ao no (o.flatMap Ph.cells)) (hno : no ≤ 1048576) (tol : Int) (hsz : ∀ p ∈ o, p.c.size ≤ maxLen) :
    Calls Try.prog 18 #[chV x.k A n c x.l x.cs x.p, .slice Ao no co, .int .i64 tol] w fun e w' => e = .returned (.tuple #[.int .i64 (startV x o tol), .int .i64 (startK x o tol)]) ∧ Below w.heap.size w w' := by
  have hb0 : Below w.heap.size w (w.alloc (.cells #[.int .i64 x.k, .slice A n c, .string x.l, .string x.cs, .int .i64 x.p] 30)) := by (repeat (first | (with_reducible assumption) | (with_reducible exact Below.refl _ _) | exact Nat.le_refl _ | exact Below.size (by with_reducible assumption) | (with_reducible refine Below.drew ?_) | (with_reducible refine below_drewN ?_ _) | (with_reducible refine Below.alloc ?_ ?_ _) | (with_reducible refine Below.setCell ?_ ?_ _) | (with_reducible refine le_alloc ?_ _) | (with_reducible refine le_set ?_ _ _) | (with_reducible refine le_drew ?_) | (with_reducible refine le_drewN ?_ _) | omega | (dsimp only; omega)))
  have sl0 := sl.next hb0
  have hl := ho.len Ph.cells 2 Ph.cells_len (by omega)
  have Hl := Lib.hid hl; clear hl
  cases hv : validB x
  · have hO : okCO x o = false := by rw [okCO, hv]; rfl
    have HO := Lib.hid hO; clear hO
    go_enter Try.func18, Try.ntmps18
    go_wp2_with fail
    refine (implValid_c A n c x _ sl0 hn hlz hs).mono ?_
    rintro e w1 ⟨rfl, hb1⟩
    have q1 := keepC hb1 w.heap.size (by simp)
    have z1 : w.heap.size < w1.heap.size := Nat.lt_of_lt_of_le (by simp) hb1.size
    have sl1 := sl0.next hb1
    have hbb := hb0.trans (hb1.mono hb0.size)
    have ho1 := ho.next hbb
    go_wp2_with (first | (go_at_call 63; refine (validObs_c Ao no co o _ ho1 hno hsz).mono ?_; rintro e w2 ⟨rfl, hb2⟩; have sl2 := sl1.next hb2; have q2 := keepC hb2 w.heap.size z1; have z2 := Nat.lt_of_lt_of_le z1 hb2.size; have hbb2 := hbb.trans (hb2.mono hbb.size); have ho2 := ho.next hbb2) | (go_at_call 64; refine (isSlack_c _ _).mono ?_; rintro e w9 ⟨rfl, rfl⟩))
    go_ret2
    exact ⟨by simp [startV, startK, HO.out], hbb⟩
  cases hob : obsB o
  · have hO : okCO x o = false := by rw [okCO, hv, hob]; rfl
    have HO := Lib.hid hO; clear hO
    go_enter Try.func18, Try.ntmps18
    go_wp2_with fail
    refine (implValid_c A n c x _ sl0 hn hlz hs).mono ?_
    rintro e w1 ⟨rfl, hb1⟩
    have q1 := keepC hb1 w.heap.size (by simp)
    have z1 : w.heap.size < w1.heap.size := Nat.lt_of_lt_of_le (by simp) hb1.size
    have sl1 := sl0.next hb1
    have hbb := hb0.trans (hb1.mono hb0.size)
    have ho1 := ho.next hbb
    go_wp2_with (first | (go_at_call 63; refine (validObs_c Ao no co o _ ho1 hno hsz).mono ?_; rintro e w2 ⟨rfl, hb2⟩; have sl2 := sl1.next hb2; have q2 := keepC hb2 w.heap.size z1; have z2 := Nat.lt_of_lt_of_le z1 hb2.size; have hbb2 := hbb.trans (hb2.mono hbb.size); have ho2 := ho.next hbb2) | (go_at_call 64; refine (isSlack_c _ _).mono ?_; rintro e w9 ⟨rfl, rfl⟩))
    go_ret2
    exact ⟨by simp [startV, startK, HO.out], hbb2⟩
  have hO : okCO x o = true := by rw [okCO, hv, hob]; rfl
  have HO := Lib.hid hO; clear hO
  cases hti : inB tol 0 100
  · go_enter Try.func18, Try.ntmps18
    go_wp2_with fail
    refine (implValid_c A n c x _ sl0 hn hlz hs).mono ?_
    rintro e w1 ⟨rfl, hb1⟩
    have q1 := keepC hb1 w.heap.size (by simp)
    have z1 : w.heap.size < w1.heap.size := Nat.lt_of_lt_of_le (by simp) hb1.size
    have sl1 := sl0.next hb1
    have hbb := hb0.trans (hb1.mono hb0.size)
    have ho1 := ho.next hbb
    go_wp2_with (first | (go_at_call 63; refine (validObs_c Ao no co o _ ho1 hno hsz).mono ?_; rintro e w2 ⟨rfl, hb2⟩; have sl2 := sl1.next hb2; have q2 := keepC hb2 w.heap.size z1; have z2 := Nat.lt_of_lt_of_le z1 hb2.size; have hbb2 := hbb.trans (hb2.mono hbb.size); have ho2 := ho.next hbb2) | (go_at_call 64; refine (isSlack_c _ _).mono ?_; rintro e w9 ⟨rfl, rfl⟩))
    go_ret2
    exact ⟨by simp [startV, startK, HO.out, hti], hbb2⟩
  have ok := obsB_ok hob Hl.out
  obtain ⟨t0, t1⟩ := inB_iff.1 hti
  have t2 : tol ≤ 1000000 := by omega
  obtain ⟨L, hL⟩ : ∃ L, startsL x o tol = L := ⟨_, rfl⟩
  have hll : L.length ≤ 40 := by rw [← hL, startsL]; exact Nat.le_trans (List.length_filter_le _ _) (by simp)
  have hC : ∀ w2, Sl w2 w2.heap.size 1 A n (x.gs.flatMap intC) → Sl w2 w2.heap.size 2 Ao no (o.flatMap Ph.cells) → Calls Try.prog 65 #[chV x.k A n c x.l x.cs x.p, .slice Ao no co, .int .i64 tol] w2 fun e w' => ∃ v, e = .returned v ∧ w'.ownsRow w2.heap.size 2 1 v L.length ((L.map fun (i : Nat) => (i : Int)).flatMap intC) ∧ Below w2.heap.size w2 w' := by
    rw [← hL]; exact fun w2 h1 h2 => starts_c A n c x w2 h1 hn hlz hs Ao no co o tol hv h2 ok t0 t2
  have HL := Lib.hid hL; clear hL
  have HC := Lib.hid hC; clear hC
  cases L with
  | nil =>
    go_enter Try.func18, Try.ntmps18
    go_wp2_with fail
    refine (implValid_c A n c x _ sl0 hn hlz hs).mono ?_
    rintro e w1 ⟨rfl, hb1⟩
    have q1 := keepC hb1 w.heap.size (by simp)
    have z1 : w.heap.size < w1.heap.size := Nat.lt_of_lt_of_le (by simp) hb1.size
    have sl1 := sl0.next hb1
    have hbb := hb0.trans (hb1.mono hb0.size)
    have ho1 := ho.next hbb
    go_wp2_with (first | (go_at_call 63; refine (validObs_c Ao no co o _ ho1 hno hsz).mono ?_; rintro e w2 ⟨rfl, hb2⟩; have sl2 := sl1.next hb2; have q2 := keepC hb2 w.heap.size z1; have z2 := Nat.lt_of_lt_of_le z1 hb2.size; have hbb2 := hbb.trans (hb2.mono hbb.size); have ho2 := ho.next hbb2) | (go_at_call 64; refine (isSlack_c _ _).mono ?_; rintro e w9 ⟨rfl, rfl⟩))
    refine (HC.out _ sl2 ho2).mono ?_
    rintro e w3 ⟨v, rfl, hov, hb3⟩
    obtain ⟨A3, c3, rfl⟩ := own_slice hov
    go_wp2_with fail
    go_ret2
    exact ⟨by simp [startV, startK, HO.out, hti, HL.out, firstI], hbb2.trans (hb3.mono hbb2.size)⟩
  | cons i L =>
    go_enter Try.func18, Try.ntmps18
    go_wp2_with fail
    refine (implValid_c A n c x _ sl0 hn hlz hs).mono ?_
    rintro e w1 ⟨rfl, hb1⟩
    have q1 := keepC hb1 w.heap.size (by simp)
    have z1 : w.heap.size < w1.heap.size := Nat.lt_of_lt_of_le (by simp) hb1.size
    have sl1 := sl0.next hb1
    have hbb := hb0.trans (hb1.mono hb0.size)
    have ho1 := ho.next hbb
    go_wp2_with (first | (go_at_call 63; refine (validObs_c Ao no co o _ ho1 hno hsz).mono ?_; rintro e w2 ⟨rfl, hb2⟩; have sl2 := sl1.next hb2; have q2 := keepC hb2 w.heap.size z1; have z2 := Nat.lt_of_lt_of_le z1 hb2.size; have hbb2 := hbb.trans (hb2.mono hbb.size); have ho2 := ho.next hbb2) | (go_at_call 64; refine (isSlack_c _ _).mono ?_; rintro e w9 ⟨rfl, rfl⟩))
    refine (HC.out _ sl2 ho2).mono ?_
    rintro e w3 ⟨v, rfl, hov, hb3⟩
    obtain ⟨A3, c3, rfl⟩ := own_slice hov
    obtain ⟨b4, off4, y, rfl, hb4, hy, d1⟩ := (Sl.of_own hov).int 0 (by simp)
    have hyi : y = (i : Int) := by simpa using hy.symm
    subst hyi
    rw [Nat.add_zero] at d1
    have hz : (((i :: L).length : Int) == 0) = false := by first | (simp; done) | (simp; omega)
    have hz2 : (0 : Int) < ((i :: L).length : Int) := by rw [List.length_cons]; omega
    have hz3 : 0 < (i :: L).length := by simp
    go_wp2_with fail
    go_ret2
    exact ⟨by simp [startV, startK, HO.out, hti, HL.out, firstI], hbb2.trans (hb3.mono hbb2.size)⟩
end Go.Proofs.Ytgfplmfdgbklkaa
