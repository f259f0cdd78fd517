
/- Recognition: the reference: groups by their sum. -/
import Derived.Test.YtgibbhipjpbdfaaRecS
import Derived.Test.YtgibbhipjpbdfaaOwnC
namespace Go.Proofs.Ytgibbhipjpbdfaa
open Go.RowKit
theorem ext_len : ∀ (n s : Nat) (h : List Int), (extL n s h).length ≤ 9 ^ n
  | 0, s, h => by rw [extL]; split <;> simp
  | n + 1, s, h => by
    rw [extL]
    have key : ∀ m, ((List.range m).flatMap fun i : Nat => extL n (s - (i + 1)) (h ++ [(i : Int) + 1])).length ≤ m * 9 ^ n := by
      intro m
      induction m with
      | zero => simp
      | succ m ih =>
        rw [List.range_succ, List.flatMap_append, List.length_append]
        have := ext_len n (s - (m + 1)) (h ++ [(m : Int) + 1])
        rw [Nat.add_mul, Nat.one_mul]
        simp only [List.flatMap_cons, List.flatMap_nil, List.append_nil]
        omega
    have h1 := key (min 9 s)
    have h2 : min 9 s * 9 ^ n ≤ 9 * 9 ^ n := Nat.mul_le_mul_right _ (by omega)
    rw [Nat.pow_succ]
    omega
theorem ext_part (n s : Nat) (h : List Int) : ∀ m, m ≤ 9 → ((List.range m).flatMap fun i : Nat => extL n (s - (i + 1)) (h ++ [(i : Int) + 1])).length ≤ m * 9 ^ n := by
  intro m
  induction m with
  | zero => simp
  | succ m ih =>
    intro hm
    have h1 := ih (by omega)
    rw [List.range_succ, List.flatMap_append, List.length_append]
    have := ext_len n (s - (m + 1)) (h ++ [(m : Int) + 1])
    rw [Nat.add_mul, Nat.one_mul]
    simp only [List.flatMap_cons, List.flatMap_nil, List.append_nil]
    omega
theorem grown_two {a b c : World} {r r' : Option Nat} (h : a.grownBy b r) (k : b.grownBy c r') (hr : r' = r ∨ ∃ g, r' = some g ∧ a.heap.size ≤ g) : a.grownBy c r :=
  ⟨k.os.trans h.os, k.tape.trans h.tape, k.output.trans h.output, Nat.le_trans h.size k.size, fun i hi hne => (k.block i (Nat.lt_of_lt_of_le hi h.size) (by
    rcases hr with rfl | ⟨g, rfl, hg⟩
    · exact hne
    · intro e; injection e with e; omega)).trans (h.block i hi hne)⟩
theorem RowsOwn.grown {w w' : World} {base n : Nat} {v : Value} {rs : List RowG} {row : Option Nat} (h : RowsOwn w base v n rs) (hg : w.grownBy w' row) (h1 : v.ownBlock = none ∨ v.ownBlock ≠ row) (h2 : ∀ r ∈ rs, (Value.slice r.A r.xs.length r.c).ownBlock = none ∨ (Value.slice r.A r.xs.length r.c).ownBlock ≠ row) : RowsOwn w' base v n rs :=
  ⟨own_grown h.own hg h1, fun r hr => own_grown (h.inn r hr) hg (h2 r hr)⟩
theorem row_one (r : RowG) : ∀ u ∈ r.cells, u.oneCell' = true := by simp [RowG.cells, Value.oneCell']
/-- One row more. -/
theorem RowsOwn.push {w w' : World} {base n : Nat} {v v' : Value} {rs : List RowG} {r : RowG} (h : RowsOwn w base v n rs) (hr : w.ownsRow base 2 1 (.slice r.A r.xs.length r.c) r.xs.length (r.xs.flatMap intC))
    (hg : (w.alloc (.cells r.cells.toArray 24)).grownBy w' v.ownBlock) (ho : w'.ownsRow base 24 1 v' (n + 1) (rs.flatMap RowG.cells ++ r.cells)) : RowsOwn w' base v' (n + 1) (rs ++ [r]) := by
  have hbA : Below w.heap.size w (w.alloc (.cells r.cells.toArray 24)) := (Below.refl _ _).alloc (Nat.le_refl _) _
  have h2 := h.next hbA
  refine ⟨by rw [List.flatMap_append]; simpa using ho, fun q hq => ?_⟩
  rcases List.mem_append.1 hq with hq | hq
  · have := h2.inn q hq
    exact own_grown this hg (own_ne this h2.own (by decide))
  · obtain rfl := List.mem_singleton.1 hq
    have := own_next hr hbA
    exact own_grown this hg (own_ne this h2.own (by decide))
def ExtAns (w : World) (base : Nat) (v : Value) (rs : List RowG) (L : List (List Int)) (e : Ending) (w' : World) : Prop :=
  ∃ A c rs', e = .returned (.slice A rs'.length c) ∧ RowsOwn w' base (.slice A rs'.length c) rs'.length rs' ∧ rs'.map RowG.xs = rs.map RowG.xs ++ L ∧ w.grownBy w' v.ownBlock ∧ ((Value.slice A rs'.length c).ownBlock = v.ownBlock ∨ ∃ g, (Value.slice A rs'.length c).ownBlock = some g ∧ w.heap.size ≤ g)
theorem infoTi3 : (Try.prog.info? 2).map (fun i => (i.zero, i.size, i.bytes)) = some (some (.int .i64 0), 1, 8) := by kernel_rfl
set_option maxRecDepth 100000 in
set_option maxHeartbeats 4000000 in
theorem l06Extend_c : ∀ (n s base : Nat) (A : Option Addr) (c : Nat) (rs : List RowG) (A1 : Option Addr) (c1 b1 : Nat) (h : List Int) (w : World),
    RowsOwn w base (.slice A rs.length c) rs.length rs → base ≤ w.heap.size → w.ownsRow b1 2 1 (.slice A1 h.length c1) h.length (h.flatMap intC) → h.length + n ≤ 100 → s ≤ 100000 → rs.length + 9 ^ n ≤ 1000000 →
    Calls Try.prog 65 #[.slice A rs.length c, .slice A1 h.length c1, .int .i64 n, .int .i64 s] w (ExtAns w base (.slice A rs.length c) rs (extL n s h))
  | 0, s, base, A, c, rs, A1, c1, b1, h, w, hR, hb, hH, hl, hs, hrl => by
    obtain ⟨q0, hq, hy0, hy1, hy2⟩ := info_parts drowsInfo
    by_cases h0 : s = 0
    · subst h0
      have hO := l00OwnR_c A1 h.length c1 h w (Sl.of_own hH) (by omega)
      have e63 : rs.length + 1 ≤ maxLen := by unfold maxLen; omega
      have e32 : (rs.length + 1) * 24 ≤ 140737488355328 := by omega
      have HO := Lib.hid hO; clear hO
      have E63 := Lib.hid e63; clear e63
      have E32 := Lib.hid e32; clear e32
      have Hrl := Lib.hid hrl; clear hrl
      go_enter Try.func65, Try.ntmps65
      go_wp2_with fail
      refine HO.out.mono ?_
      rintro e w1 ⟨A2, c2, rfl, ho2, hb2⟩
      have hR2 := hR.next hb2
      have hb3 : base ≤ w1.heap.size := Nat.le_trans hb hb2.size
      have ho3 := own_base ho2 hb
      go_wp2_with (at_builtin; refine wpl_append _ rfl (.tmp 15) (.tmp 18) _ rfl base 24 q0 _ 1 24 Try.underlying55 hq hy0 hy1 hy2 rfl (by omega) _ rs.length _ rfl (hR2.own.alloc _) (w1.heap.size + 1) (some ⟨w1.heap.size, 0, none⟩) 1 1 (RowG.cells ⟨A2, c2, h⟩) rfl (Sl.new w1 24 _ 1 1 rfl) (row_one _) E63.out E32.out (le_alloc hb3 _) ?_; intro v5 w5 ho5 hg5 hat5)
      obtain ⟨A5, c5, rfl⟩ := own_slice ho5
      have hP := RowsOwn.push (r := ⟨A2, c2, h⟩) hR2 ho3 hg5 ho5
      go_wp2_with fail
      go_ret
      have hbA : Below w.heap.size w (w1.alloc (.cells (RowG.cells ⟨A2, c2, h⟩).toArray 24)) := hb2.alloc hb2.size _
      have hat6 : (Value.slice A5 (rs.length + 1) c5).ownBlock = (Value.slice A rs.length c).ownBlock ∨ ∃ g, (Value.slice A5 (rs.length + 1) c5).ownBlock = some g ∧ w.heap.size ≤ g := by
        rcases hat5 with h5 | h5
        · exact .inl h5
        · refine .inr ⟨_, h5, ?_⟩
          have := hb2.size
          simp
          omega
      have hl1 : (rs ++ [(⟨A2, c2, h⟩ : RowG)]).length = rs.length + 1 := by simp
      rw [← hl1] at hP hat6
      exact ⟨A5, c5, rs ++ [⟨A2, c2, h⟩], by rw [hl1]; rfl, hP, by simp [extL], grown_trans (grown_of_below hbA) hg5, hat6⟩
    · have h0' : ((s : Int) == 0) = false := by simpa using h0
      have h0'' : ¬ (s : Int) = 0 := by omega
      have H0 := Lib.hid h0; clear h0
      go_enter Try.func65, Try.ntmps65
      go_wp2_with fail
      go_ret
      exact ⟨A, c, rs, rfl, hR, by simp [extL, H0.out], grown_refl _ _, .inl rfl⟩
  | n + 1, s, base, A, c, rs, A1, c1, b1, h, w, hR, hb, hH, hl, hs, hrl => by
    obtain ⟨p0, hp, hy0, hy1, hy2⟩ := info_parts infoTi3
    generalize hM : ((n + 1 : Nat) : Int) = M
    have hn0 : ¬ M = 0 := by omega
    have hn1 : (M == 0) = false := by simpa using hn0
    have j1 : M - 1 = (n : Int) := by omega
    rw [Nat.pow_succ] at hrl
    have HM := Lib.hid hM; clear hM
    have Hrl := Lib.hid hrl; clear hrl
    go_enter Try.func65, Try.ntmps65
    go_wp2_with fail
    go_loopw [0, 9] (fun y i wr => ∃ (k : Nat) (A' : Option Addr) (c' : Nat) (rs' : List RowG), k ≤ min 9 s ∧ i = .int .i64 ((k : Int) + 1) ∧ y = .slice A' rs'.length c' ∧ RowsOwn wr base (.slice A' rs'.length c') rs'.length rs' ∧ Hid (rs'.map RowG.xs = rs.map RowG.xs ++ (List.range k).flatMap fun j : Nat => extL n (s - (j + 1)) (h ++ [(j : Int) + 1])) ∧ w.grownBy wr (Value.slice A rs.length c).ownBlock ∧ ((Value.slice A' rs'.length c').ownBlock = (Value.slice A rs.length c).ownBlock ∨ ∃ g, (Value.slice A' rs'.length c').ownBlock = some g ∧ w.heap.size ≤ g)) (fun _ i _ => 10 - (intOf i).toNat)
    case atStart => exact ⟨0, A, c, rs, Nat.zero_le _, rfl, rfl, hR, Lib.hid (by simp), grown_refl _ _, .inl rfl⟩
    case round =>
      obtain ⟨k, A', c', rs', hk, rfl, rfl, hR', Hm, hgr, hor⟩ := hrel
      by_cases hlt : k < min 9 s
      · have i1 : (k : Int) + 1 ≤ 9 := by omega
        have i2 : (k : Int) + 1 ≤ (s : Int) := by omega
        have hHr := own_grown hH hgr (own_ne hH hR.own (by decide))
        have hO := l00OwnR_c A1 h.length c1 h wr (Sl.of_own hHr) (by omega)
        have hbr : base ≤ wr.heap.size := Nat.le_trans hb hgr.size
        have hlen : rs'.length + 9 ^ n ≤ 1000000 := by
          have h1 := congrArg List.length Hm.out
          rw [List.length_append, List.length_map, List.length_map] at h1
          have h2 := ext_part n s h k (by omega)
          have h3 : (k + 1) * 9 ^ n ≤ 9 * 9 ^ n := Nat.mul_le_mul_right _ (by omega)
          rw [Nat.add_mul, Nat.one_mul] at h3
          have := Hrl.out
          omega
        have e63 : h.length + 1 ≤ maxLen := by unfold maxLen; omega
        have e32 : (h.length + 1) * 8 ≤ 140737488355328 := by omega
        have j2 : (s : Int) - ((k : Int) + 1) = ((s - (k + 1) : Nat) : Int) := by omega
        have hx : (h ++ [(k : Int) + 1]).length = h.length + 1 := by simp
        have HO := Lib.hid hO; clear hO
        have E63 := Lib.hid e63; clear e63
        have E32 := Lib.hid e32; clear e32
        have Hlen := Lib.hid hlen; clear hlen
        have Hx := Lib.hid hx; clear hx
        go_wp2_with fail
        refine HO.out.mono ?_
        rintro e w2 ⟨A2, c2, rfl, ho2, hb2⟩
        go_wp2_with (at_builtin; refine wpl_append _ rfl (.tmp 31) (.tmp 33) _ rfl (wr.heap.size) 2 p0 _ 1 8 Try.underlying24 hp hy0 hy1 hy2 rfl (by omega) _ (h.length) _ rfl ((ho2).alloc _) ((w2).heap.size + 1) (some ⟨(w2).heap.size, 0, none⟩) 1 1 (intC (((k : Int) + 1))) rfl (Sl.new (w2) 2 _ 1 1 rfl) (intC_one _) E63.out E32.out (le_alloc hb2.size _) ?_; intro v4 w4 ho4 hg4 hat4)
        obtain ⟨A4, c4, rfl⟩ := own_slice ho4
        have hb4 : Below wr.heap.size wr w4 := (hb2.alloc hb2.size _).grown hg4 (le_alloc hb2.size _) fun g hg => (ho2.lt g hg).1
        have hR4 := hR'.next hb4
        have hH4 : w4.ownsRow wr.heap.size 2 1 (.slice A4 (h ++ [(k : Int) + 1]).length c4) (h ++ [(k : Int) + 1]).length ((h ++ [(k : Int) + 1]).flatMap intC) := by
          rw [Hx.out, List.flatMap_append]
          simpa using ho4
        have hRc := l06Extend_c n (s - (k + 1)) base A' c' rs' A4 c4 wr.heap.size (h ++ [(k : Int) + 1]) w4 hR4 (Nat.le_trans hbr hb4.size) hH4 (by rw [Hx.out]; omega) (by omega) Hlen.out
        rw [Hx.out] at hRc
        have HRc := Lib.hid hRc; clear hRc
        clear hH4 ho4 ho2 hg4 hat4 hb2 HO
        go_wp2_with fail
        refine HRc.out.mono ?_
        rintro e w5 ⟨A5, c5, rs5, rfl, hR5, hm5, hg5, hor5⟩
        have hgr5 : w.grownBy w5 (Value.slice A rs.length c).ownBlock := grown_two (grown_trans hgr (grown_of_below hb4)) hg5 hor
        have hor6 : (Value.slice A5 rs5.length c5).ownBlock = (Value.slice A rs.length c).ownBlock ∨ ∃ g, (Value.slice A5 rs5.length c5).ownBlock = some g ∧ w.heap.size ≤ g := by
          rcases hor5 with h5 | ⟨g, h5, h6⟩
          · rcases hor with h7 | ⟨g, h7, h8⟩
            · exact .inl (h5.trans h7)
            · exact .inr ⟨g, h5.trans h7, h8⟩
          · exact .inr ⟨g, h5, Nat.le_trans (Nat.le_trans hgr.size hb4.size) h6⟩
        have Hm5 := Lib.hid hm5; clear hm5
        go_wp2_with fail
        go_roundw
        case rel =>
          refine ⟨k + 1, A5, c5, rs5, by omega, by go_num, rfl, hR5, Lib.hid ?_, hgr5, hor6⟩
          rw [Hm5.out, Hm.out, List.range_succ, List.flatMap_append]
          simp
        case measure => simp [intOf]; omega
      · have i1 : ¬ ((k : Int) + 1 ≤ 9 ∧ (k : Int) + 1 ≤ (s : Int)) := by omega
        obtain rfl : k = min 9 s := by omega
        by_cases h9 : 9 ≤ s
        · have i2 : ¬ ((min 9 s : Nat) : Int) + 1 ≤ 9 := by omega
          go_wp2_with fail
          go_ret
          exact ⟨A', c', rs', rfl, hR', by rw [Hm.out, extL], hgr, hor⟩
        · have i2 : ((min 9 s : Nat) : Int) + 1 ≤ 9 := by omega
          have i3 : ¬ ((min 9 s : Nat) : Int) + 1 ≤ (s : Int) := by omega
          go_wp2_with fail
          go_ret
          exact ⟨A', c', rs', rfl, hR', by rw [Hm.out, extL], hgr, hor⟩
end Go.Proofs.Ytgibbhipjpbdfaa
