/- RcSG: several of my texts in one. -/
import Derived.Test.YtgibbhipjpbdfaaRcFG
import Derived.Test.YtgibbhipjpbdfaaCfS
import Derived.Test.YtgibbhipjpbdfaaDdRR
import Derived.Test.YtgibbhipjpbdfaaIntS
import Derived.Test.YtgibbhipjpbdfaaApp
import Derived.Test.YtgibbhipjpbdfaaChValid
import Derived.Test.YtgibbhipjpbdfaaChPhS

/- Recognition: the reference: lit tenths, flashes, the groups that are tried. -/
namespace Go.Proofs.Ytgibbhipjpbdfaa
open Go.RowKit
theorem litN_next {B : List Int} {k : Nat} {x : Int} (h : B[k]? = some x) : litN (B.take (k + 1)) = litN (B.take k) + if x ≠ 0 then 1 else 0 := by
  rw [litN, List.take_add_one, h, Option.toList_some, List.countP_append, ← litN]
  by_cases hx : x = 0
  · simp [hx]
  · simp [hx]
theorem litN_le (B : List Int) : litN B ≤ B.length := List.countP_le_length
set_option maxRecDepth 100000 in
set_option maxHeartbeats 1000000 in
theorem l06Lit_c (A : Option Addr) (n c : Nat) (B : List Int) (w : World) (h : Sl w w.heap.size 1 A n (B.flatMap u8C)) (hm : n ≤ 200000) :
    Calls Try.prog 64 #[.slice A n c] w fun e w' => e = .returned (.int .i64 (litN B : Nat)) ∧ w = w' := by
  have hl := h.len u8C 1 u8C_len (by omega)
  have Hl := Lib.hid hl; clear hl
  go_enter Try.func64, Try.ntmps64
  go_wp2
  go_loop [3, 4] (fun y i => ∃ (k m : Nat), k ≤ n ∧ i = .int .i64 k ∧ y = .int .i64 m ∧ m ≤ k ∧ Hid (litN (B.take k) = m)) (fun _ i => n - (intOf i).toNat)
  case atStart => exact ⟨0, 0, Nat.zero_le _, rfl, rfl, Nat.le_refl _, Lib.hid rfl⟩
  case round =>
    obtain ⟨k, m, hk, rfl, rfl, hmk, Hm⟩ := hrel
    by_cases hlt : k < n
    · obtain ⟨b, off, x, rfl, hb, hx, cx⟩ := h.u8 k hlt
      have hnx := litN_next hx
      have i0 : (0 : Int) ≤ (k : Int) := by omega
      have i1 : (k : Int) < (n : Int) := by omega
      have Hx := Lib.hid hx; clear hx
      by_cases h0 : x = 0
      · subst h0
        have Hnx := Lib.hid hnx; clear hnx
        go_wp2
        go_round
        case rel => exact ⟨k + 1, m, by omega, by go_num, rfl, by omega, Lib.hid (by rw [Hnx.out, Hm.out]; simp)⟩
        case measure => simp [intOf]; omega
      · have hx0 : (x != 0) = true := by simpa using h0
        have hx1 : (x == 0) = false := by simpa using h0
        have Hnx := Lib.hid hnx; clear hnx
        have H0 := Lib.hid h0; clear h0
        go_wp2
        go_round
        case rel => exact ⟨k + 1, m + 1, by omega, by go_num, by go_num, by omega, Lib.hid (by rw [Hnx.out, Hm.out, if_pos H0.out])⟩
        case measure => simp [intOf]; omega
    · obtain rfl : k = n := by omega
      have hm2 := Hm.out
      rw [List.take_of_length_le (by rw [Hl.out]; omega)] at hm2
      have Hm2 := Lib.hid hm2; clear hm2
      go_wp2
      go_ret
      exact ⟨ret_eq (int_eq (by rw [Hm2.out])), rfl⟩
theorem rise_next (B : List Int) (k : Nat) : (List.range (k + 1)).countP (riseAt B) = (List.range k).countP (riseAt B) + if riseAt B k = true then 1 else 0 := by
  rw [List.range_succ, List.countP_append]
  cases hr : riseAt B k <;> simp [hr]
set_option maxRecDepth 100000 in
set_option maxHeartbeats 1000000 in
theorem l06Flashes_c (A : Option Addr) (n c : Nat) (B : List Int) (w : World) (h : Sl w w.heap.size 1 A n (B.flatMap u8C)) (hm : n ≤ 200000) :
    Calls Try.prog 66 #[.slice A n c] w fun e w' => e = .returned (.int .i64 (flashB B : Nat)) ∧ w = w' := by
  have hl := h.len u8C 1 u8C_len (by omega)
  rw [flash_count, hl]
  have Hl := Lib.hid hl; clear hl
  go_enter Try.func66, Try.ntmps66
  go_wp2
  go_loop [3, 4] (fun y i => ∃ (k m : Nat), k ≤ n ∧ i = .int .i64 k ∧ y = .int .i64 m ∧ m ≤ k ∧ Hid ((List.range k).countP (riseAt B) = m)) (fun _ i => n - (intOf i).toNat)
  case atStart => exact ⟨0, 0, Nat.zero_le _, rfl, rfl, Nat.le_refl _, Lib.hid rfl⟩
  case round =>
    obtain ⟨k, m, hk, rfl, rfl, hmk, Hm⟩ := hrel
    by_cases hlt : k < n
    · obtain ⟨j, hj⟩ : ∃ j, (k + n - 1) % n = j := ⟨_, rfl⟩
      have hjn : j < n := by rw [← hj]; exact Nat.mod_lt _ (by omega)
      obtain ⟨b, off, x, rfl, hb, hx, cx⟩ := h.u8 k hlt
      obtain ⟨b2, off2, y, e2, _, hy, cy⟩ := h.u8 j hjn
      injection e2 with e2
      injection e2 with e3 e4 _
      subst e3 e4
      have hjt : ((k : Int) + (n : Int) - 1).tmod (n : Int) = (j : Int) := by
        rw [Int.tmod_eq_emod_of_nonneg (by omega), ← hj]
        have : ((k : Int) + (n : Int) - 1) = ((k + n - 1 : Nat) : Int) := by omega
        rw [this]; exact (Int.natCast_emod _ _).symm
      have hjt2 : ((k : Int) + (n : Int) - 1) % (n : Int) = (j : Int) := by
        rw [← hjt, Int.tmod_eq_emod_of_nonneg (by omega)]
      have hn0 : ¬ (n : Int) = 0 := by omega
      have hra : riseAt B k = (decide (x ≠ 0) && decide (y = 0)) := by
        rw [riseAt, Hl.out, hj, List.getD_eq_getElem?_getD, hx, List.getD_eq_getElem?_getD, hy]; rfl
      have hnx := rise_next B k
      rw [hra] at hnx
      have i0 : (0 : Int) ≤ (k : Int) := by omega
      have i1 : (k : Int) < (n : Int) := by omega
      have i2 : (0 : Int) ≤ (j : Int) := by omega
      have i3 : (j : Int) < (n : Int) := by omega
      have Hx := Lib.hid hx; clear hx
      have Hy := Lib.hid hy; clear hy
      have Hj := Lib.hid hj; clear hj
      have Hra := Lib.hid hra; clear hra
      by_cases h0 : x = 0
      · subst h0
        have Hnx := Lib.hid hnx; clear hnx
        go_wp2
        go_round
        case rel => exact ⟨k + 1, m, by omega, by go_num, rfl, by omega, Lib.hid (by rw [Hnx.out, Hm.out]; simp)⟩
        case measure => simp [intOf]; omega
      · have hx0 : (x != 0) = true := by simpa using h0
        have hx1 : (x == 0) = false := by simpa using h0
        have H0 := Lib.hid h0; clear h0
        by_cases h1 : y = 0
        · subst h1
          have Hnx := Lib.hid hnx; clear hnx
          go_wp2
          go_round
          case rel => exact ⟨k + 1, m + 1, by omega, by go_num, by go_num, by omega, Lib.hid (by rw [Hnx.out, Hm.out, decide_eq_true H0.out]; simp)⟩
          case measure => simp [intOf]; omega
        · have hy1 : (y == 0) = false := by simpa using h1
          have H1 := Lib.hid h1; clear h1
          have Hnx := Lib.hid hnx; clear hnx
          go_wp2
          go_round
          case rel => exact ⟨k + 1, m, by omega, by go_num, rfl, by omega, Lib.hid (by rw [Hnx.out, Hm.out, decide_eq_false H1.out]; simp)⟩
          case measure => simp [intOf]; omega
    · obtain rfl : k = n := by omega
      go_wp2
      go_ret
      exact ⟨ret_eq (int_eq (by rw [Hm.out])), rfl⟩
set_option maxHeartbeats 400000 in
theorem l06Dark_c (A : Option Addr) (n c : Nat) (B : List Int) (w : World) (h : Sl w w.heap.size 1 A n (B.flatMap u8C)) (hm : n ≤ 200000) :
    Calls Try.prog 30 #[.slice A n c] w fun e w' => e = .returned (.int .i64 (flashB B : Nat)) ∧ w = w' := by
  go_enter Try.func30, Try.ntmps30
  go_wp2_with (go_at_call 66; refine (l06Flashes_c A n c B _ h hm).mono ?_; rintro e w1 ⟨rfl, rfl⟩)
  go_ret
  exact ⟨rfl, rfl⟩
end Go.Proofs.Ytgibbhipjpbdfaa

/- Lists and characters of the call's own: the reference. -/
namespace Go.Proofs.Ytgibbhipjpbdfaa
open Go.RowKit
set_option maxHeartbeats 1000000 in
theorem l00OwnR_c (A : Option Addr) (n c : Nat) (xs : List Int) (w : World) (h : Sl w w.heap.size 1 A n (xs.flatMap intC)) (hm : n ≤ 1048576) :
    Calls Try.prog 81 #[.slice A n c] w fun e w' => ∃ A' c', e = .returned (.slice A' n c') ∧ w'.ownsRow w.heap.size 2 1 (.slice A' n c') n (xs.flatMap intC) ∧ Below w.heap.size w w' := by
  obtain ⟨i0, hi, hz0, hz1, hz2⟩ := info_parts intInfo
  have hov := World.ownsRow_made (base := w.heap.size) (e := 2) (size := 1) w #[] 0 (Nat.le_refl _) (by simp [maxLen]) rfl
  have hbv : Below w.heap.size w (w.alloc (.cells #[] 2)) := (Below.refl _ _).alloc (Nat.le_refl _) _
  have e63 : 0 + n ≤ maxLen := by unfold maxLen; omega
  have e32 : (0 + n) * 8 ≤ 140737488355328 := by omega
  have hS := h.next hbv
  have hle := hbv.size
  have HOV := Lib.hid hov; clear hov
  have E63 := Lib.hid e63; clear e63
  have E32 := Lib.hid e32; clear e32
  have HS := Lib.hid hS; clear hS
  have HLE := Lib.hid hle; clear hle
  go_enter Try.func81, Try.ntmps81
  go_wp2_with (at_builtin; refine wpl_append _ rfl (.tmp 3) (.tmp 4) _ rfl w.heap.size 2 i0 _ 1 8 Try.underlying24 hi hz0 hz1 hz2 rfl (by omega) _ 0 _ rfl HOV.out _ A n c (xs.flatMap intC) rfl HS.out (flat_one _ intC_one xs) E63.out E32.out HLE.out ?_; intro v2 w2 ho2 hg2 hat2)
  go_ret
  rw [Nat.zero_add] at ho2
  obtain ⟨A', c', rfl⟩ := own_slice ho2
  exact ⟨A', c', rfl, by simpa using ho2, hbv.grown hg2 HLE.out fun g hg => (HOV.out.lt g hg).1⟩
set_option maxRecDepth 100000 in
set_option maxHeartbeats 1000000 in
theorem l05OwnR_c (b o : Nat) (A : Option Addr) (n c : Nat) (x : Ch) (w : World) (h : ChP w b o A n c x) :
    Calls Try.prog 46 #[.pointer (some ⟨b, o, none⟩)] w fun e w' => ∃ A' c', e = .returned (chV x.k A' n c' x.l x.cs x.p) ∧ w'.ownsRow w.heap.size 2 1 (.slice A' n c') n (x.gs.flatMap intC) ∧ Below w.heap.size w w' := by
  obtain ⟨k, gs, l, cs, p⟩ := x
  obtain ⟨c0, c1, c2, c3, c4, hb, sl, hn, hl, hs⟩ := h
  simp only at c0 c1 c2 c3 c4 sl hl hs
  go_enter Try.func46, Try.ntmps46
  go_wp2_with fail
  refine (l00OwnR_c A n c gs _ (sl.next (by (repeat (first | (with_reducible assumption) | (with_reducible exact Below.refl _ _) | exact Nat.le_refl _ | exact Below.size (by with_reducible assumption) | (with_reducible refine Below.drew ?_) | (with_reducible refine below_drewN ?_ _) | (with_reducible refine Below.alloc ?_ ?_ _) | (with_reducible refine Below.setCell ?_ ?_ _) | (with_reducible refine le_alloc ?_ _) | (with_reducible refine le_set ?_ _ _) | (with_reducible refine le_drew ?_) | (with_reducible refine le_drewN ?_ _) | omega | (dsimp only; omega))))) hn).mono ?_
  rintro e w1 ⟨A1, c1', rfl, ho, hb1⟩
  have q0 := keepC hb1 w.heap.size (by simp only [World.size_alloc]; omega)
  have q1 := keepC hb1 (w.heap.size + 1) (by simp only [World.size_alloc]; omega)
  have f0 := keepF hb1 w.heap.size (by simp only [World.size_alloc]; omega)
  have f1 := keepF hb1 (w.heap.size + 1) (by simp only [World.size_alloc]; omega)
  have hbw : Below w.heap.size w w1 := Below.trans (by (repeat (first | (with_reducible assumption) | (with_reducible exact Below.refl _ _) | exact Nat.le_refl _ | exact Below.size (by with_reducible assumption) | (with_reducible refine Below.drew ?_) | (with_reducible refine below_drewN ?_ _) | (with_reducible refine Below.alloc ?_ ?_ _) | (with_reducible refine Below.setCell ?_ ?_ _) | (with_reducible refine le_alloc ?_ _) | (with_reducible refine le_set ?_ _ _) | (with_reducible refine le_drew ?_) | (with_reducible refine le_drewN ?_ _) | omega | (dsimp only; omega)))) (hb1.mono (by simp only [World.size_alloc]; omega))
  clear c0 c1 c2 c3 c4
  go_wp2_with fail
  refine bodyPost_ret (v := chV k A1 n c1' l cs p) (by simp [results, Try.results46, go_sem, q0]) rfl ⟨A1, c1', rfl, ?_, ?_⟩
  · refine own_base (base := ((w.heap.size + 1) + 1)) ?_ (by omega)
    simp only [World.size_alloc] at ho
    repeat (refine ownsRow_setCell_below ?_ (by dsimp only; omega) _)
    exact ho
  · (repeat (first | (with_reducible assumption) | (with_reducible exact Below.refl _ _) | exact Nat.le_refl _ | exact Below.size (by with_reducible assumption) | (with_reducible refine Below.drew ?_) | (with_reducible refine below_drewN ?_ _) | (with_reducible refine Below.alloc ?_ ?_ _) | (with_reducible refine Below.setCell ?_ ?_ _) | (with_reducible refine le_alloc ?_ _) | (with_reducible refine le_set ?_ _ _) | (with_reducible refine le_drew ?_) | (with_reducible refine le_drewN ?_ _) | omega | (dsimp only; omega)))
end Go.Proofs.Ytgibbhipjpbdfaa

/- Recognition: the reference: groups by their sum. -/
namespace Go.Proofs.Ytgibbhipjpbdfaa
open Go.RowKit
theorem ext_len : ∀ (n s : Nat) (h : List Int), (extL n s h).length ≤ 9 ^ n
  | 0, s, h => by rw [extL]; split <;> simp
  | n + 1, s, h => by
    rw [extL]
    have key : ∀ m, ((List.range m).flatMap fun i : Nat => extL n (s - (i + 1)) (h ++ [(i : Int) + 1])).length ≤ m * 9 ^ n := by
      intro m
      induction m with
      | zero => simp
      | succ m ih =>
        rw [List.range_succ, List.flatMap_append, List.length_append]
        have := ext_len n (s - (m + 1)) (h ++ [(m : Int) + 1])
        rw [Nat.add_mul, Nat.one_mul]
        simp only [List.flatMap_cons, List.flatMap_nil, List.append_nil]
        omega
    have h1 := key (min 9 s)
    have h2 : min 9 s * 9 ^ n ≤ 9 * 9 ^ n := Nat.mul_le_mul_right _ (by omega)
    rw [Nat.pow_succ]
    omega
theorem ext_part (n s : Nat) (h : List Int) : ∀ m, m ≤ 9 → ((List.range m).flatMap fun i : Nat => extL n (s - (i + 1)) (h ++ [(i : Int) + 1])).length ≤ m * 9 ^ n := by
  intro m
  induction m with
  | zero => simp
  | succ m ih =>
    intro hm
    have h1 := ih (by omega)
    rw [List.range_succ, List.flatMap_append, List.length_append]
    have := ext_len n (s - (m + 1)) (h ++ [(m : Int) + 1])
    rw [Nat.add_mul, Nat.one_mul]
    simp only [List.flatMap_cons, List.flatMap_nil, List.append_nil]
    omega
theorem grown_two {a b c : World} {r r' : Option Nat} (h : a.grownBy b r) (k : b.grownBy c r') (hr : r' = r ∨ ∃ g, r' = some g ∧ a.heap.size ≤ g) : a.grownBy c r :=
  ⟨k.os.trans h.os, k.tape.trans h.tape, k.output.trans h.output, Nat.le_trans h.size k.size, fun i hi hne => (k.block i (Nat.lt_of_lt_of_le hi h.size) (by
    rcases hr with rfl | ⟨g, rfl, hg⟩
    · exact hne
    · intro e; injection e with e; omega)).trans (h.block i hi hne)⟩
theorem RowsOwn.grown {w w' : World} {base n : Nat} {v : Value} {rs : List RowG} {row : Option Nat} (h : RowsOwn w base v n rs) (hg : w.grownBy w' row) (h1 : v.ownBlock = none ∨ v.ownBlock ≠ row) (h2 : ∀ r ∈ rs, (Value.slice r.A r.xs.length r.c).ownBlock = none ∨ (Value.slice r.A r.xs.length r.c).ownBlock ≠ row) : RowsOwn w' base v n rs :=
  ⟨own_grown h.own hg h1, fun r hr => own_grown (h.inn r hr) hg (h2 r hr)⟩
theorem row_one (r : RowG) : ∀ u ∈ r.cells, u.oneCell' = true := by simp [RowG.cells, Value.oneCell']
/-- One row more. -/
theorem RowsOwn.push {w w' : World} {base n : Nat} {v v' : Value} {rs : List RowG} {r : RowG} (h : RowsOwn w base v n rs) (hr : w.ownsRow base 2 1 (.slice r.A r.xs.length r.c) r.xs.length (r.xs.flatMap intC))
    (hg : (w.alloc (.cells r.cells.toArray 24)).grownBy w' v.ownBlock) (ho : w'.ownsRow base 24 1 v' (n + 1) (rs.flatMap RowG.cells ++ r.cells)) : RowsOwn w' base v' (n + 1) (rs ++ [r]) := by
  have hbA : Below w.heap.size w (w.alloc (.cells r.cells.toArray 24)) := (Below.refl _ _).alloc (Nat.le_refl _) _
  have h2 := h.next hbA
  refine ⟨by rw [List.flatMap_append]; simpa using ho, fun q hq => ?_⟩
  rcases List.mem_append.1 hq with hq | hq
  · have := h2.inn q hq
    exact own_grown this hg (own_ne this h2.own (by decide))
  · obtain rfl := List.mem_singleton.1 hq
    have := own_next hr hbA
    exact own_grown this hg (own_ne this h2.own (by decide))
def ExtAns (w : World) (base : Nat) (v : Value) (rs : List RowG) (L : List (List Int)) (e : Ending) (w' : World) : Prop :=
  ∃ A c rs', e = .returned (.slice A rs'.length c) ∧ RowsOwn w' base (.slice A rs'.length c) rs'.length rs' ∧ rs'.map RowG.xs = rs.map RowG.xs ++ L ∧ w.grownBy w' v.ownBlock ∧ ((Value.slice A rs'.length c).ownBlock = v.ownBlock ∨ ∃ g, (Value.slice A rs'.length c).ownBlock = some g ∧ w.heap.size ≤ g)
theorem infoTi3 : (Try.prog.info? 2).map (fun i => (i.zero, i.size, i.bytes)) = some (some (.int .i64 0), 1, 8) := by kernel_rfl
set_option maxRecDepth 100000 in
set_option maxHeartbeats 4000000 in
theorem l06Extend_c : ∀ (n s base : Nat) (A : Option Addr) (c : Nat) (rs : List RowG) (A1 : Option Addr) (c1 b1 : Nat) (h : List Int) (w : World),
    RowsOwn w base (.slice A rs.length c) rs.length rs → base ≤ w.heap.size → w.ownsRow b1 2 1 (.slice A1 h.length c1) h.length (h.flatMap intC) → h.length + n ≤ 100 → s ≤ 100000 → rs.length + 9 ^ n ≤ 1000000 →
    Calls Try.prog 65 #[.slice A rs.length c, .slice A1 h.length c1, .int .i64 n, .int .i64 s] w (ExtAns w base (.slice A rs.length c) rs (extL n s h))
  | 0, s, base, A, c, rs, A1, c1, b1, h, w, hR, hb, hH, hl, hs, hrl => by
    obtain ⟨q0, hq, hy0, hy1, hy2⟩ := info_parts drowsInfo
    by_cases h0 : s = 0
    · subst h0
      have hO := l00OwnR_c A1 h.length c1 h w (Sl.of_own hH) (by omega)
      have e63 : rs.length + 1 ≤ maxLen := by unfold maxLen; omega
      have e32 : (rs.length + 1) * 24 ≤ 140737488355328 := by omega
      have HO := Lib.hid hO; clear hO
      have E63 := Lib.hid e63; clear e63
      have E32 := Lib.hid e32; clear e32
      have Hrl := Lib.hid hrl; clear hrl
      go_enter Try.func65, Try.ntmps65
      go_wp2_with fail
      refine HO.out.mono ?_
      rintro e w1 ⟨A2, c2, rfl, ho2, hb2⟩
      have hR2 := hR.next hb2
      have hb3 : base ≤ w1.heap.size := Nat.le_trans hb hb2.size
      have ho3 := own_base ho2 hb
      go_wp2_with (at_builtin; refine wpl_append _ rfl (.tmp 15) (.tmp 18) _ rfl base 24 q0 _ 1 24 Try.underlying55 hq hy0 hy1 hy2 rfl (by omega) _ rs.length _ rfl (hR2.own.alloc _) (w1.heap.size + 1) (some ⟨w1.heap.size, 0, none⟩) 1 1 (RowG.cells ⟨A2, c2, h⟩) rfl (Sl.new w1 24 _ 1 1 rfl) (row_one _) E63.out E32.out (le_alloc hb3 _) ?_; intro v5 w5 ho5 hg5 hat5)
      obtain ⟨A5, c5, rfl⟩ := own_slice ho5
      have hP := RowsOwn.push (r := ⟨A2, c2, h⟩) hR2 ho3 hg5 ho5
      go_wp2_with fail
      go_ret
      have hbA : Below w.heap.size w (w1.alloc (.cells (RowG.cells ⟨A2, c2, h⟩).toArray 24)) := hb2.alloc hb2.size _
      have hat6 : (Value.slice A5 (rs.length + 1) c5).ownBlock = (Value.slice A rs.length c).ownBlock ∨ ∃ g, (Value.slice A5 (rs.length + 1) c5).ownBlock = some g ∧ w.heap.size ≤ g := by
        rcases hat5 with h5 | h5
        · exact .inl h5
        · refine .inr ⟨_, h5, ?_⟩
          have := hb2.size
          simp
          omega
      have hl1 : (rs ++ [(⟨A2, c2, h⟩ : RowG)]).length = rs.length + 1 := by simp
      rw [← hl1] at hP hat6
      exact ⟨A5, c5, rs ++ [⟨A2, c2, h⟩], by rw [hl1]; rfl, hP, by simp [extL], grown_trans (grown_of_below hbA) hg5, hat6⟩
    · have h0' : ((s : Int) == 0) = false := by simpa using h0
      have h0'' : ¬ (s : Int) = 0 := by omega
      have H0 := Lib.hid h0; clear h0
      go_enter Try.func65, Try.ntmps65
      go_wp2_with fail
      go_ret
      exact ⟨A, c, rs, rfl, hR, by simp [extL, H0.out], grown_refl _ _, .inl rfl⟩
  | n + 1, s, base, A, c, rs, A1, c1, b1, h, w, hR, hb, hH, hl, hs, hrl => by
    obtain ⟨p0, hp, hy0, hy1, hy2⟩ := info_parts infoTi3
    generalize hM : ((n + 1 : Nat) : Int) = M
    have hn0 : ¬ M = 0 := by omega
    have hn1 : (M == 0) = false := by simpa using hn0
    have j1 : M - 1 = (n : Int) := by omega
    rw [Nat.pow_succ] at hrl
    have HM := Lib.hid hM; clear hM
    have Hrl := Lib.hid hrl; clear hrl
    go_enter Try.func65, Try.ntmps65
    go_wp2_with fail
    go_loopw [0, 9] (fun y i wr => ∃ (k : Nat) (A' : Option Addr) (c' : Nat) (rs' : List RowG), k ≤ min 9 s ∧ i = .int .i64 ((k : Int) + 1) ∧ y = .slice A' rs'.length c' ∧ RowsOwn wr base (.slice A' rs'.length c') rs'.length rs' ∧ Hid (rs'.map RowG.xs = rs.map RowG.xs ++ (List.range k).flatMap fun j : Nat => extL n (s - (j + 1)) (h ++ [(j : Int) + 1])) ∧ w.grownBy wr (Value.slice A rs.length c).ownBlock ∧ ((Value.slice A' rs'.length c').ownBlock = (Value.slice A rs.length c).ownBlock ∨ ∃ g, (Value.slice A' rs'.length c').ownBlock = some g ∧ w.heap.size ≤ g)) (fun _ i _ => 10 - (intOf i).toNat)
    case atStart => exact ⟨0, A, c, rs, Nat.zero_le _, rfl, rfl, hR, Lib.hid (by simp), grown_refl _ _, .inl rfl⟩
    case round =>
      obtain ⟨k, A', c', rs', hk, rfl, rfl, hR', Hm, hgr, hor⟩ := hrel
      by_cases hlt : k < min 9 s
      · have i1 : (k : Int) + 1 ≤ 9 := by omega
        have i2 : (k : Int) + 1 ≤ (s : Int) := by omega
        have hHr := own_grown hH hgr (own_ne hH hR.own (by decide))
        have hO := l00OwnR_c A1 h.length c1 h wr (Sl.of_own hHr) (by omega)
        have hbr : base ≤ wr.heap.size := Nat.le_trans hb hgr.size
        have hlen : rs'.length + 9 ^ n ≤ 1000000 := by
          have h1 := congrArg List.length Hm.out
          rw [List.length_append, List.length_map, List.length_map] at h1
          have h2 := ext_part n s h k (by omega)
          have h3 : (k + 1) * 9 ^ n ≤ 9 * 9 ^ n := Nat.mul_le_mul_right _ (by omega)
          rw [Nat.add_mul, Nat.one_mul] at h3
          have := Hrl.out
          omega
        have e63 : h.length + 1 ≤ maxLen := by unfold maxLen; omega
        have e32 : (h.length + 1) * 8 ≤ 140737488355328 := by omega
        have j2 : (s : Int) - ((k : Int) + 1) = ((s - (k + 1) : Nat) : Int) := by omega
        have hx : (h ++ [(k : Int) + 1]).length = h.length + 1 := by simp
        have HO := Lib.hid hO; clear hO
        have E63 := Lib.hid e63; clear e63
        have E32 := Lib.hid e32; clear e32
        have Hlen := Lib.hid hlen; clear hlen
        have Hx := Lib.hid hx; clear hx
        go_wp2_with fail
        refine HO.out.mono ?_
        rintro e w2 ⟨A2, c2, rfl, ho2, hb2⟩
        go_wp2_with (at_builtin; refine wpl_append _ rfl (.tmp 31) (.tmp 33) _ rfl (wr.heap.size) 2 p0 _ 1 8 Try.underlying24 hp hy0 hy1 hy2 rfl (by omega) _ (h.length) _ rfl ((ho2).alloc _) ((w2).heap.size + 1) (some ⟨(w2).heap.size, 0, none⟩) 1 1 (intC (((k : Int) + 1))) rfl (Sl.new (w2) 2 _ 1 1 rfl) (intC_one _) E63.out E32.out (le_alloc hb2.size _) ?_; intro v4 w4 ho4 hg4 hat4)
        obtain ⟨A4, c4, rfl⟩ := own_slice ho4
        have hb4 : Below wr.heap.size wr w4 := (hb2.alloc hb2.size _).grown hg4 (le_alloc hb2.size _) fun g hg => (ho2.lt g hg).1
        have hR4 := hR'.next hb4
        have hH4 : w4.ownsRow wr.heap.size 2 1 (.slice A4 (h ++ [(k : Int) + 1]).length c4) (h ++ [(k : Int) + 1]).length ((h ++ [(k : Int) + 1]).flatMap intC) := by
          rw [Hx.out, List.flatMap_append]
          simpa using ho4
        have hRc := l06Extend_c n (s - (k + 1)) base A' c' rs' A4 c4 wr.heap.size (h ++ [(k : Int) + 1]) w4 hR4 (Nat.le_trans hbr hb4.size) hH4 (by rw [Hx.out]; omega) (by omega) Hlen.out
        rw [Hx.out] at hRc
        have HRc := Lib.hid hRc; clear hRc
        clear hH4 ho4 ho2 hg4 hat4 hb2 HO
        go_wp2_with fail
        refine HRc.out.mono ?_
        rintro e w5 ⟨A5, c5, rs5, rfl, hR5, hm5, hg5, hor5⟩
        have hgr5 : w.grownBy w5 (Value.slice A rs.length c).ownBlock := grown_two (grown_trans hgr (grown_of_below hb4)) hg5 hor
        have hor6 : (Value.slice A5 rs5.length c5).ownBlock = (Value.slice A rs.length c).ownBlock ∨ ∃ g, (Value.slice A5 rs5.length c5).ownBlock = some g ∧ w.heap.size ≤ g := by
          rcases hor5 with h5 | ⟨g, h5, h6⟩
          · rcases hor with h7 | ⟨g, h7, h8⟩
            · exact .inl (h5.trans h7)
            · exact .inr ⟨g, h5.trans h7, h8⟩
          · exact .inr ⟨g, h5, Nat.le_trans (Nat.le_trans hgr.size hb4.size) h6⟩
        have Hm5 := Lib.hid hm5; clear hm5
        go_wp2_with fail
        go_roundw
        case rel =>
          refine ⟨k + 1, A5, c5, rs5, by omega, by go_num, rfl, hR5, Lib.hid ?_, hgr5, hor6⟩
          rw [Hm5.out, Hm.out, List.range_succ, List.flatMap_append]
          simp
        case measure => simp [intOf]; omega
      · have i1 : ¬ ((k : Int) + 1 ≤ 9 ∧ (k : Int) + 1 ≤ (s : Int)) := by omega
        obtain rfl : k = min 9 s := by omega
        by_cases h9 : 9 ≤ s
        · have i2 : ¬ ((min 9 s : Nat) : Int) + 1 ≤ 9 := by omega
          go_wp2_with fail
          go_ret
          exact ⟨A', c', rs', rfl, hR', by rw [Hm.out, extL], hgr, hor⟩
        · have i2 : ((min 9 s : Nat) : Int) + 1 ≤ 9 := by omega
          have i3 : ¬ ((min 9 s : Nat) : Int) + 1 ≤ (s : Int) := by omega
          go_wp2_with fail
          go_ret
          exact ⟨A', c', rs', rfl, hR', by rw [Hm.out, extL], hgr, hor⟩
end Go.Proofs.Ytgibbhipjpbdfaa

/- Recognition: the reference: all groups; whether a character has a pattern. -/
namespace Go.Proofs.Ytgibbhipjpbdfaa
open Go.RowKit
theorem lit_count : ∀ B : List Int, litN B = (List.range B.length).countP fun i => decide (B.getD i 0 ≠ 0)
  | [] => rfl
  | b :: r => by
    rw [litN, List.countP_cons, ← litN, lit_count r, List.length_cons, List.range_succ_eq_map, List.countP_cons, List.countP_map]
    have e : (fun i => decide (r.getD i 0 ≠ 0)) = ((fun i => decide ((b :: r).getD i 0 ≠ 0)) ∘ Nat.succ) := by
      funext i; simp
    rw [← e]
    simp
theorem rep_count {B L : List Int} {s : Nat} (h : Rep B L s) : ∀ q, q * L.length ≤ B.length → ((List.range (q * L.length)).countP fun i => decide (B.getD i 0 ≠ 0)) = q * ((List.range L.length).countP fun i => decide (L.getD ((i + s) % L.length) 0 ≠ 0))
  | 0, _ => by simp
  | q + 1, hq => by
    have e : (q + 1) * L.length = q * L.length + L.length := by rw [Nat.add_mul, Nat.one_mul]
    rw [e] at hq ⊢
    rw [List.range_add, List.countP_append, rep_count h q (by omega), List.countP_map, Nat.add_mul, Nat.one_mul]
    congr 1
    refine List.countP_congr fun i hi => ?_
    have hi' := List.mem_range.1 hi
    have h1 := h.at' (q * L.length + i) (by omega)
    have h2 : (q * L.length + i + s) % L.length = (i + s) % L.length := by
      rw [show q * L.length + i + s = i + s + L.length * q by rw [Nat.mul_comm]; omega, Nat.add_mul_mod_self_left]
    rw [h2] at h1
    simp only [Function.comp, List.getD_eq_getElem?_getD, h1]
theorem rep_lit {B L : List Int} {s : Nat} (h : Rep B L s) : litN B * L.length = litN L * B.length := by
  obtain ⟨q, hq⟩ : ∃ q, B.length = q * L.length := by
    obtain ⟨q, hq⟩ := Nat.dvd_of_mod_eq_zero h.dvd
    exact ⟨q, by rw [hq, Nat.mul_comm]⟩
  have hC : ((List.range L.length).countP fun i => decide (L.getD ((i + s) % L.length) 0 ≠ 0)) = litN L := by
    have hp := h.pos
    have hr := rot_rep hp (s % L.length) (Nat.mod_lt _ hp)
    have h1 := rep_count hr 1 (by rw [rot_len]; omega)
    rw [Nat.one_mul, Nat.one_mul] at h1
    have h2 := lit_count (rotB L (s % L.length))
    rw [rot_len, h1, lit_rot] at h2
    rw [h2]
    refine List.countP_congr fun i _ => ?_
    rw [Nat.add_mod_mod]
  have h3 := rep_count h q (by omega)
  rw [← hq, ← lit_count, hC] at h3
  rw [h3, hq]
  rw [Nat.mul_comm q, Nat.mul_assoc]
set_option maxRecDepth 100000 in
set_option maxHeartbeats 2000000 in
theorem l06Groups_c (s : Nat) (w : World) (hs : s ≤ 100000) :
    Calls Try.prog 29 #[.int .i64 s] w fun e w' => ∃ A c rs, e = .returned (.slice A rs.length c) ∧ RowsOwn w' w.heap.size (.slice A rs.length c) rs.length rs ∧ rs.map RowG.xs = groupsS s ∧ Below w.heap.size w w' := by
  have hov := World.ownsRow_made (base := w.heap.size) (e := 24) (size := 1) w #[] 0 (Nat.le_refl _) (by simp [maxLen]) rfl
  have hbv : Below w.heap.size w (w.alloc (.cells #[] 24)) := (Below.refl _ _).alloc (Nat.le_refl _) _
  have hR0 : RowsOwn (w.alloc (.cells #[] 24)) w.heap.size (.slice (some ⟨w.heap.size, 0, none⟩) ([] : List RowG).length 0) ([] : List RowG).length [] := ⟨hov, fun r hr => by cases hr⟩
  go_enter Try.func29, Try.ntmps29
  go_wp2_with fail
  go_loopw [3, 4] (fun y i wr => ∃ (k : Nat) (A : Option Addr) (c : Nat) (rs : List RowG), k ≤ 4 ∧ i = .int .i64 ((k : Int) + 1) ∧ y = .slice A rs.length c ∧ RowsOwn wr w.heap.size (.slice A rs.length c) rs.length rs ∧ Hid (rs.map RowG.xs = (List.range k).flatMap fun i => extL (i + 1) s []) ∧ Below w.heap.size w wr) (fun _ i _ => 5 - (intOf i).toNat)
  case atStart => exact ⟨0, _, _, [], by omega, rfl, rfl, hR0, Lib.hid rfl, hbv⟩
  case round =>
    clear hov hbv hR0
    obtain ⟨k, A, c, rs, hk, rfl, rfl, hR, Hm, hbw⟩ := hrel
    by_cases hlt : k < 4
    · have i1 : (k : Int) + 1 ≤ 4 := by omega
      have hal : Below wr.heap.size wr (wr.alloc (.cells #[] 2)) := (Below.refl _ _).alloc (Nat.le_refl _) _
      have hH := World.ownsRow_made (base := wr.heap.size) (e := 2) (size := 1) wr #[] 0 (Nat.le_refl _) (by simp [maxLen]) rfl
      have hlen : rs.length + 9 ^ (k + 1) ≤ 1000000 := by
        have h1 := congrArg List.length Hm.out
        rw [List.length_map] at h1
        have hp : ∀ i, i < 4 → 9 ^ (i + 1) ≤ 6561 := fun i hi => Nat.le_trans (Nat.pow_le_pow_right (by omega) (show i + 1 ≤ 4 by omega)) (by decide)
        have h2 : ∀ j, j ≤ 4 → ((List.range j).flatMap fun i => extL (i + 1) s []).length ≤ j * 6561 := by
          intro j
          induction j with
          | zero => simp
          | succ j ih =>
            intro hj
            rw [List.range_succ, List.flatMap_append, List.length_append]
            have h3 := ih (by omega)
            have h4 := ext_len (j + 1) s []
            have h5 := hp j (by omega)
            simp only [List.flatMap_cons, List.flatMap_nil, List.append_nil]
            omega
        have h6 := h2 k (by omega)
        have h7 := hp k hlt
        omega
      have hX := l06Extend_c (k + 1) s w.heap.size A c rs (some ⟨wr.heap.size, 0, none⟩) 0 wr.heap.size [] (wr.alloc (.cells #[] 2)) (hR.next hal) (Nat.le_trans hbw.size hal.size) hH (by simp; omega) hs hlen
      have e1 : ((k + 1 : Nat) : Int) = (k : Int) + 1 := by omega
      rw [e1] at hX
      have HX := Lib.hid hX; clear hX
      clear hH
      go_wp2_with fail
      refine HX.out.mono ?_
      rintro e w5 ⟨A5, c5, rs5, rfl, hR5, hm5, hg5, hor5⟩
      have hb5 : Below w.heap.size w w5 := (hbw.alloc hbw.size _).grown hg5 (le_alloc hbw.size _) fun g hg => (hR.own.lt g hg).1
      have Hm5 := Lib.hid hm5; clear hm5
      go_wp2_with fail
      go_roundw
      case rel =>
        refine ⟨k + 1, A5, c5, rs5, by omega, by go_num, rfl, hR5, Lib.hid ?_, hb5⟩
        rw [Hm5.out, Hm.out, List.range_succ, List.flatMap_append]
        simp
      case measure => simp [intOf]; omega
    · obtain rfl : k = 4 := by omega
      have i1 : ¬ ((4 : Nat) : Int) + 1 ≤ 4 := by omega
      go_wp2_with fail
      go_ret
      exact ⟨A, c, rs, rfl, hR, by rw [Hm.out, groupsS], hbw⟩
end Go.Proofs.Ytgibbhipjpbdfaa
