/- CfGb: several of my texts in one. -/
import Derived.Test.YtpfnnjcochhklaaGreatDoorCfPG
import Derived.Test.YtpfnnjcochhklaaGreatDoorCfZG
import Derived.Test.YtpfnnjcochhklaaGreatDoorCfAn
import Derived.Test.YtpfnnjcochhklaaGreatDoorBase2
import Derived.Test.YtpfnnjcochhklaaGreatDoorAidIG

/- Conflicts of two lists of aids: the program's state. -/
namespace Go.Proofs.YtpfnnjcochhklaaGreatDoor
open Go.RowKit
theorem sameXI_c (z y : AidG) (w : World) (hz : AidOk w z) (hy : AidOk w y) :
    Calls Tryz.prog 47 #[z.val, y.val] w fun e w' => e = .returned (.bool (sameX z.a y.a)) ∧ Below w.heap.size w w' :=
  sameAid_w z y (sameCh z.a.ch y.a.ch) (decide (z.a.secs = y.a.secs)) w hz hy (fun w1 h1 h2 => sameCharacter_c z.A y.A z.n y.n z.c y.c z.a.ch y.a.ch w1 h1.sl h2.sl h1.bd.gs h2.bd.gs)
    (fun w1 h1 h2 => (secsI_c z.B y.B z.m y.m z.d y.d z.a.secs y.a.secs w1 h1.ss h2.ss h1.bd.ss h2.bd.ss).mono fun _ _ ⟨he, m, hw⟩ => ⟨he, hw ▸ below_drewN (Below.refl _ _) m⟩)
abbrev stC (f : Bool) (z : AidG) : List Value := .bool f :: z.cells
abbrev stV (f : Bool) (z : AidG) : Value := .agg (stC f z).toArray
abbrev stO (f : Bool) (z : AidG) (E : TypeId) : Obj := .cells (stC f z).toArray E
theorem stC_one (f : Bool) (z : AidG) : ∀ u ∈ stC f z, u.oneCell' = true := by simp [stC, AidG.cells, Value.oneCell']
theorem st_box (w : World) (f : Bool) (z : AidG) (E : TypeId) : (w.alloc (stO f z E)).rangeAt w.heap.size 0 (stC f z) := fun j v hv => by
  have hb : (w.alloc (stO f z E)).heap[w.heap.size]? = some (stO f z E) := heap_alloc_new w _
  rw [Nat.zero_add, cell_of_row _ _ _ _ _ _ hb]
  simpa using hv
theorem st_aid {w : World} {b : Nat} {f : Bool} {z : AidG} (h : w.rangeAt b 0 (stC f z)) : w.rangeAt b 1 z.cells := fun j v hv => by
  have := h (j + 1) v (by simpa using hv)
  rwa [show 0 + (j + 1) = 1 + j by omega] at this
set_option maxRecDepth 100000 in
set_option maxHeartbeats 2000000 in
theorem equals_c (f f' : Bool) (z y : AidG) (w : World) (hz : AidOk w z) (hy : AidOk w y) :
    Calls Tryz.prog 28 #[stV f z, stV f' y] w fun e w' => e = .returned (.bool ((f == f') && sameX z.a y.a)) ∧ Below w.heap.size w w' := by
  have hb0 : Below w.heap.size w ((w.alloc (stO f z 58)).alloc (stO f' y 58)) := by (repeat (first | (with_reducible assumption) | (with_reducible exact Below.refl _ _) | exact Nat.le_refl _ | exact Below.size (by with_reducible assumption) | (with_reducible refine Below.drew ?_) | (with_reducible refine below_drewN ?_ _) | (with_reducible refine Below.alloc ?_ ?_ _) | (with_reducible refine Below.setCell ?_ ?_ _) | (with_reducible refine le_alloc ?_ _) | (with_reducible refine le_set ?_ _ _) | (with_reducible refine le_drew ?_) | (with_reducible refine le_drewN ?_ _) | omega | (dsimp only; omega)))
  have hsz : (w.alloc (stO f z 58)).heap.size = w.heap.size + 1 := by simp
  have r1 : ((w.alloc (stO f z 58)).alloc (stO f' y 58)).rangeAt w.heap.size 0 (stC f z) := rangeBz (st_box w f z 58) (B := w.heap.size + 1) (by rw [← hsz]; exact (Below.refl _ _).alloc (Nat.le_refl _) _) (by omega)
  have r2 := st_box (w.alloc (stO f z 58)) f' y 58
  rw [hsz] at r2
  have a1 := st_aid r1
  have a2 := st_aid r2
  have hS := sameXI_c z y _ (hz.next hb0) (hy.next hb0)
  clear r1 r2 hsz hz hy
  have HA1 := Lib.hid a1; clear a1
  have HA2 := Lib.hid a2; clear a2
  have HS := Lib.hid hS; clear hS
  cases f <;> cases f'
  all_goals
    go_enter Tryz.func28, Tryz.ntmps28
    go_wp2_with (first | (refine wpList_load_mid rfl _ _ rfl w.heap.size (1) rfl (AidG.cells z) _ (HA1.out) Tryz.underlying56 rfl (by kernel_rfl) ?_) | (refine wpList_load_mid rfl _ _ rfl w.heap.size + 1 (1) rfl (AidG.cells y) _ (HA2.out) Tryz.underlying56 rfl (by kernel_rfl) ?_) | ((with_reducible refine HS.out.mono ?_); rintro e w1 ⟨rfl, hb1⟩))
    go_ret
    first | exact ⟨ret_eq (bool_eq (by simp)), hb0⟩ | exact ⟨ret_eq (bool_eq (by simp)), hb0.trans (hb1.mono hb0.size)⟩
end Go.Proofs.YtpfnnjcochhklaaGreatDoor

/- Conflicts of two lists of aids: the program's stateOf, numbersIn. -/
namespace Go.Proofs.YtpfnnjcochhklaaGreatDoor
open Go.RowKit
theorem st_there (w : World) (E : TypeId) : (w.alloc (stO false aidZn E)).there w.heap.size 0 17 := fun j hj => by
  have hb : (w.alloc (stO false aidZn E)).heap[w.heap.size]? = some (stO false aidZn E) := heap_alloc_new w _
  refine ⟨?_, frozen_of_row _ _ _ _ _ hb⟩
  rw [Nat.zero_add, cell_of_row _ _ _ _ _ _ hb, Array.getElem?_eq_getElem (by simpa using hj)]
  rfl
set_option maxRecDepth 100000 in
set_option maxHeartbeats 2000000 in
theorem stateOf_c (A : Option Addr) (n c : Nat) (zs : List AidG) (v : Int) (w : World) (h : AidSl w A n zs) (hm : n ≤ 1048576) (hV : aidsB (zs.map AidG.a) = true) :
    Calls Tryz.prog 27 #[.slice A n c, .int .i64 v] w fun e w' => ∃ z' : AidG, e = .returned (stV (fdN (zs.map AidG.a) v).isSome z') ∧ z'.a = stA (zs.map AidG.a) v ∧ AidOk w' z' ∧ Below w.heap.size w w' := by
  have hba : Below w.heap.size w (w.alloc (stO false aidZn 58)) := by (repeat (first | (with_reducible assumption) | (with_reducible exact Below.refl _ _) | exact Nat.le_refl _ | exact Below.size (by with_reducible assumption) | (with_reducible refine Below.drew ?_) | (with_reducible refine below_drewN ?_ _) | (with_reducible refine Below.alloc ?_ ?_ _) | (with_reducible refine Below.setCell ?_ ?_ _) | (with_reducible refine le_alloc ?_ _) | (with_reducible refine le_set ?_ _ _) | (with_reducible refine le_drew ?_) | (with_reducible refine le_drewN ?_ _) | omega | (dsimp only; omega)))
  have hA := aidOf_c A n c zs v _ (h.next hba) hm hV
  have hzb : w.heap.size < (w.alloc (stO false aidZn 58)).heap.size := by simp
  have hT0 := st_there w 58
  cases hF : fdN (zs.map AidG.a) v with
  | none =>
    rw [hF] at hA
    have hS : stA (zs.map AidG.a) v = aidZn.a := by rw [stA, hF]; rfl
    have OO : (List.toArray (stC false aidZn)).all (·.oneCell') = true := all_oneCell_toArray (stC_one false aidZn)
    have HA := Lib.hid hA; clear hA
    have HS := Lib.hid hS; clear hS
    have HF := Lib.hid hF; clear hF
    have HOO := Lib.hid OO; clear OO
    have HT0 := Lib.hid hT0; clear hT0
    go_enter Tryz.func27, Tryz.ntmps27
    go_wp2_with fail
    refine HA.out.mono ?_
    rintro e w1 ⟨i, rfl, _, hb1⟩
    have T1 : w1.there w.heap.size 0 17 := fun j hj => by
      rw [show w1.cell? ⟨w.heap.size, 0 + j, none⟩ = _ from keepC hb1 _ hzb _, show w1.frozen? ⟨w.heap.size, 0 + j, none⟩ = _ from keepF hb1 _ hzb _]
      exact HT0.out j hj
    have R2 := World.rangeAt_setCells_same w1 w.heap.size 0 (stC false aidZn) T1
    have b2 := belowW w.heap.size (Nat.le_refl _) (stC false aidZn) 0 w1 (hba.trans (hb1.mono hba.size))
    obtain ⟨w2, hw2⟩ : ∃ x, w1.setCells w.heap.size 0 (stC false aidZn) = x := ⟨_, rfl⟩
    rw [hw2] at R2 b2
    simp only [Option.isSome_none]
    have HT1 := Lib.hid T1; clear T1
    have HW2 := Lib.hid hw2; clear hw2
    have HR2 := Lib.hid R2; clear R2
    clear hb1 hba
    go_wp2_with (refine wpList_store_mid rfl _ _ _ rfl w.heap.size 0 (List.toArray (stC false aidZn)) rfl rfl HT1.out (by kernel_rfl) HOO.out ?_; rw [show w1.setCells w.heap.size 0 (List.toArray (stC false aidZn)).toList = w2 from HW2.out])
    exact bodyPost_ret (v := stV false aidZn) (results_cell_mid Tryz.results27 _ w2 w.heap.size 0 (stC false aidZn) _ rfl HR2.out Tryz.underlying58 rfl (by kernel_rfl)) rfl ⟨aidZn, rfl, HS.out.symm, aidzn_ok _, b2⟩
  | some k =>
    rw [hF] at hA
    have hkn : k < n := by
      obtain ⟨a, _, _, h3⟩ := fdN_at hF
      rw [List.length_map, h.len] at h3; omega
    obtain ⟨b, off, z, rfl, hb, hx, hz, hp⟩ := h.getR k hkn
    have hS : stA (zs.map AidG.a) v = z.a := by
      rw [stA, hF, Option.elim_some, aAt_eq hx]
    have k0 : (0 : Int) ≤ (k : Int) := by omega
    have k1 : (k : Int) < (n : Int) := by omega
    have OO : (List.toArray (stC true z)).all (·.oneCell') = true := all_oneCell_toArray (stC_one true z)
    have HA := Lib.hid hA; clear hA
    have HS := Lib.hid hS; clear hS
    have HF := Lib.hid hF; clear hF
    have HOO := Lib.hid OO; clear OO
    have HT0 := Lib.hid hT0; clear hT0
    have Hx := Lib.hid hx; clear hx
    go_enter Tryz.func27, Tryz.ntmps27
    go_wp2_with fail
    refine HA.out.mono ?_
    rintro e w1 ⟨i, rfl, hik, hb1⟩
    obtain rfl := hik k rfl
    have T1 : w1.there w.heap.size 0 17 := fun j hj => by
      rw [show w1.cell? ⟨w.heap.size, 0 + j, none⟩ = _ from keepC hb1 _ hzb _, show w1.frozen? ⟨w.heap.size, 0 + j, none⟩ = _ from keepF hb1 _ hzb _]
      exact HT0.out j hj
    have bw1 := hba.trans (hb1.mono hba.size)
    have HP := Lib.hid (rangeBz hp bw1 hb)
    have R2 := World.rangeAt_setCells_same w1 w.heap.size 0 (stC true z) T1
    have b2 := belowW w.heap.size (Nat.le_refl _) (stC true z) 0 w1 bw1
    obtain ⟨w2, hw2⟩ : ∃ x, w1.setCells w.heap.size 0 (stC true z) = x := ⟨_, rfl⟩
    rw [hw2] at R2 b2
    simp only [Option.isSome_some]
    have HT1 := Lib.hid T1; clear T1
    have HW2 := Lib.hid hw2; clear hw2
    have HR2 := Lib.hid R2; clear R2
    clear hb1 hba bw1
    go_wp2_with (first | (refine wpList_load_mid rfl _ _ rfl b (off + i * 16) rfl (AidG.cells z) _ (HP.out) Tryz.underlying56 rfl (by kernel_rfl) ?_) | (refine wpList_store_mid rfl _ _ _ rfl w.heap.size 0 (List.toArray (stC true z)) rfl rfl HT1.out (by kernel_rfl) HOO.out ?_; rw [show w1.setCells w.heap.size 0 (List.toArray (stC true z)).toList = w2 from HW2.out]))
    exact bodyPost_ret (v := stV true z) (results_cell_mid Tryz.results27 _ w2 w.heap.size 0 (stC true z) _ rfl HR2.out Tryz.underlying58 rfl (by kernel_rfl)) rfl ⟨z, rfl, HS.out.symm, hz.next b2, b2⟩
end Go.Proofs.YtpfnnjcochhklaaGreatDoor

/- Conflicts of two lists of aids: the program's numbersIn. -/
namespace Go.Proofs.YtpfnnjcochhklaaGreatDoor
open Go.RowKit
theorem upTo_next (k : Nat) (q : Int → Bool) : (upTo (k + 1)).filter q = (upTo k).filter q ++ (bif q ((k : Int) + 1) then [(k : Int) + 1] else []) := by
  have e : upTo (k + 1) = upTo k ++ [(k : Int) + 1] := by simp [upTo, List.range_succ]
  rw [e, List.filter_append]
  cases h : q ((k : Int) + 1) <;> simp [h]
theorem upTo_len (k : Nat) (q : Int → Bool) : ((upTo k).filter q).length ≤ k := Nat.le_trans (List.length_filter_le _ _) (by simp [upTo])
set_option maxRecDepth 100000 in
set_option maxHeartbeats 4000000 in
theorem numbersIn_c (g : Nat) (LV : Nat → Value) (FB : Nat → Int → Bool) (w : World) (hg : g < w.heap.size) (hc : ∀ j, j < 3 → w.cell? ⟨g, j, none⟩ = some (LV j))
    (hA : ∀ w', Below w.heap.size w w' → ∀ j, j < 3 → ∀ v, Calls Tryz.prog 46 #[LV j, .int .i64 v] w' fun e w'' => ∃ i : Nat, e = .returned (.tuple #[.int .i64 i, .bool (FB j v)]) ∧ Below w'.heap.size w' w'') :
    Calls Tryz.prog 26 #[.slice (some ⟨g, 0, none⟩) 3 3] w fun e w' => ∃ A c, e = .returned (.slice A ((upTo 9999).filter fun v => FB 0 v || (FB 1 v || FB 2 v)).length c) ∧ w'.ownsRow w.heap.size 2 1 (.slice A ((upTo 9999).filter fun v => FB 0 v || (FB 1 v || FB 2 v)).length c) ((upTo 9999).filter fun v => FB 0 v || (FB 1 v || FB 2 v)).length (((upTo 9999).filter fun v => FB 0 v || (FB 1 v || FB 2 v)).flatMap intC) ∧ Below w.heap.size w w' := by
  obtain ⟨p0, hp, hy0, hy1, hy2⟩ := info_parts intInfo
  obtain ⟨Q, hQ⟩ : ∃ Q : Int → Bool, (fun v => FB 0 v || (FB 1 v || FB 2 v)) = Q := ⟨_, rfl⟩
  rw [hQ]
  have hov := World.ownsRow_made (base := w.heap.size) (e := 2) (size := 1) w #[] 0 (Nat.le_refl _) (by simp [maxLen]) rfl
  have hbv : Below w.heap.size w (w.alloc (.cells #[] 2)) := (Below.refl _ _).alloc (Nat.le_refl _) _
  have HQ := Lib.hid hQ; clear hQ
  have HC := Lib.hid hc; clear hc
  have HA := Lib.hid hA; clear hA
  go_enter Tryz.func26, Tryz.ntmps26
  go_wp2_with fail
  go_loopw [3, 4] (fun o i wr => ∃ (k : Nat) (ys : List Int), k ≤ 9999 ∧ i = .int .i64 ((k + 1 : Nat) : Int) ∧ Hid (ys = (upTo k).filter Q) ∧ wr.ownsRow w.heap.size 2 1 o ys.length (ys.flatMap intC) ∧ Below w.heap.size w wr) (fun _ i _ => (10000 - intOf i).toNat)
  case atStart => exact ⟨0, [], by omega, rfl, Lib.hid rfl, hov, hbv⟩
  case round =>
    clear hov hbv
    obtain ⟨k, ys, hk, rfl, Hys, hov, hbw⟩ := hrel
    obtain ⟨A3, c3, rfl⟩ := own_slice hov
    by_cases hlt : k < 9999
    · have hyl0 : ys.length ≤ k := by rw [Hys.out]; exact upTo_len _ _
      have hnx := upTo_next k Q
      obtain ⟨yl, hyl⟩ : ∃ q, ys.length = q := ⟨_, rfl⟩
      rw [hyl] at hov hyl0 ⊢
      have e63 : yl + 1 ≤ maxLen := by unfold maxLen; omega
      have e32 : (yl + 1) * 8 ≤ 140737488355328 := by omega
      obtain ⟨x, hx⟩ : ∃ x : Int, ((k + 1 : Nat) : Int) = x := ⟨_, rfl⟩
      have hx1 : (k : Int) + 1 = x := by omega
      rw [hx1] at hnx
      rw [hx]
      have x1 : x ≤ 9999 := by omega
      have x0 : 1 ≤ x := by omega
      have hQx : Q x = (FB 0 x || (FB 1 x || FB 2 x)) := by rw [← HQ.out]
      obtain ⟨wo, rfl⟩ : ∃ wo : World, wo = wr := ⟨_, rfl⟩
      have HOv := Lib.hid (fun w6 (hb6 : Below wo.heap.size wo w6) => own_next hov hb6)
      clear hov hyl0
      have Hyl := Lib.hid hyl; clear hyl
      have Hx := Lib.hid hx; clear hx
      have Hx1 := Lib.hid hx1; clear hx1
      have Hnx := Lib.hid hnx; clear hnx
      have HQx := Lib.hid hQx; clear hQx
      have E63 := Lib.hid e63; clear e63
      have E32 := Lib.hid e32; clear e32
      go_wp2_with fail
      go_loopw [3, 16] (fun o j wr => ∃ q : Nat, q ≤ 3 ∧ o = .slice A3 yl c3 ∧ j = .int .i64 q ∧ Hid (∀ r, r < q → FB r x = false) ∧ Below wo.heap.size wo wr) (fun _ j _ => 3 - (intOf j).toNat)
      case atStart => exact ⟨0, by omega, rfl, rfl, Lib.hid (fun r hr => absurd hr (by omega)), Below.refl _ _⟩
      case round =>
        obtain ⟨q, hq, rfl, rfl, Hr, hbo⟩ := hrel
        have hbq := hbw.trans (hbo.mono hbw.size)
        have q0 : (0 : Int) ≤ (q : Int) := by omega
        by_cases hq3 : q < 3
        · have q1 : (q : Int) < 3 := by omega
          have cq := (keepC hbq g hg q).trans (HC.out q hq3)
          have hAq := HA.out _ hbq q hq3 x
          obtain ⟨V, hV⟩ : ∃ V, LV q = V := ⟨_, rfl⟩
          rw [hV] at cq hAq
          cases hB : FB q x
          · rw [hB] at hAq
            have HAq := Lib.hid hAq; clear hAq
            have HB := Lib.hid hB; clear hB
            have HV := Lib.hid hV; clear hV
            go_wp2_with fail
            refine HAq.out.mono ?_
            rintro e w5 ⟨i, rfl, hb5⟩
            go_wp2_with fail
            go_roundw
            case rel =>
              exact ⟨q + 1, by omega, rfl, by go_num, Lib.hid (fun r hr => by
                rcases Nat.lt_or_ge r q with h2 | h2
                · exact Hr.out r h2
                · obtain rfl : r = q := by omega
                  exact HB.out), hbo.trans (hb5.mono hbo.size)⟩
            case measure => simp [intOf]; omega
          · rw [hB] at hAq
            have HAq := Lib.hid hAq; clear hAq
            have HB := Lib.hid hB; clear hB
            have HV := Lib.hid hV; clear hV
            have hQt : Q x = true := by
              rw [HQx.out]
              have : q = 0 ∨ q = 1 ∨ q = 2 := by omega
              rcases this with rfl | rfl | rfl
              · rw [HB.out]; rfl
              · rw [HB.out]; simp
              · rw [HB.out]; simp
            have HQt := Lib.hid hQt; clear hQt
            go_wp2_with fail
            refine HAq.out.mono ?_
            rintro e w5 ⟨i, rfl, hb5⟩
            have hb5o := hbo.trans (hb5.mono hbo.size)
            have HOw := Lib.hid (HOv.out w5 hb5o)
            have HLE := Lib.hid (Nat.le_trans hbw.size hb5o.size)
            go_wp2_with (at_builtin; refine wpl_append _ rfl (.tmp 27) (.tmp 29) _ rfl (w.heap.size) 2 p0 _ 1 8 Tryz.underlying30 hp hy0 hy1 hy2 rfl (by omega) _ (yl) _ rfl ((HOw.out).alloc _) ((w5).heap.size + 1) (some ⟨(w5).heap.size, 0, none⟩) 1 1 (intC (x)) rfl (Sl.new (w5) 2 _ 1 1 rfl) (intC_one _) E63.out E32.out (le_alloc HLE.out _) ?_; intro v2 w2 ho2 hg2 hat2)
            have hb2 : Below w.heap.size w w2 := ((hbw.trans (hb5o.mono hbw.size)).alloc HLE.out _).grown hg2 (le_alloc HLE.out _) fun q hq => (HOw.out.lt q hq).1
            go_roundw
            case rel => exact ⟨k + 1, ys ++ [x], by omega, by (have := Hx.out; subst this; go_num), Lib.hid (by rw [Hnx.out, HQt.out, ← Hys.out]; rfl), by rw [List.length_append, Hyl.out, List.flatMap_append]; exact ho2, hb2⟩
            case measure => simp [intOf]; omega
        · obtain rfl : q = 3 := by omega
          have hQf : Q x = false := by
            rw [HQx.out, Hr.out 0 (by omega), Hr.out 1 (by omega), Hr.out 2 (by omega)]; rfl
          have HQf := Lib.hid hQf; clear hQf
          go_wp2_with fail
          go_roundw
          case rel => exact ⟨k + 1, ys, by omega, by (have := Hx.out; subst this; go_num), Lib.hid (by rw [Hnx.out, HQf.out, ← Hys.out]; simp), by rw [Hyl.out]; exact HOv.out _ hbo, hbq⟩
          case measure => simp [intOf]; omega
    · obtain rfl : k = 9999 := by omega
      go_wp2_with fail
      go_ret
      rw [← Hys.out]
      exact ⟨A3, c3, rfl, hov, hbw⟩
end Go.Proofs.YtpfnnjcochhklaaGreatDoor

/- Conflicts of two lists of aids: the program's conflicts. -/
namespace Go.Proofs.YtpfnnjcochhklaaGreatDoor
open Go.RowKit
theorem wpList_load_midG {P : Program} {ops : Array Oper} {rest : List Oper} {op : Oper} {a : Act} {w : World} {Q : Exit → Act → World → Prop} (hw : Region.wanted op (yielded ops a.tmps) = true) (ty : TypeId) (x : Operand) (ho : op.op = .load ty x)
    (b o : Nat) (hx : a.eval x = .pointer (some ⟨b, o, none⟩)) (cs : List Value) (d : TypeDesc) (hc : w.rangeAt b o cs)
    (hu : P.underlying ty = some d) (hd : d.isRow = true) (hi : (P.info? ty).map (·.size) = some cs.length)
    (h : wpList P ops Q rest (a.put op.dst (.agg cs.toArray)) w) : wpList P ops Q (op :: rest) a w :=
  wpList_step fun K hK => by rw [if_pos hw]; exact wp_load_mid ty x ho b o hx cs d hc hu hd hi (hK _ _ h)
theorem cfP_next {L : List Int} {k : Nat} {x : Int} (h : L[k]? = some x) (base a b : List AidX) : (L.take (k + 1)).filter (cflB base a b) = (L.take k).filter (cflB base a b) ++ (bif cflB base a b x then [x] else []) := by
  rw [List.take_add_one, h, List.filter_append]
  cases hb : cflB base a b x <;> simp [hb]
abbrev stZ (E : TypeId) : Obj := .cells #[.bool false, .int .i64 0, .string { data := #[] }, .int .i64 0, .int .i64 0, .int .i64 0, .int .i64 0, .string { data := #[] }, .string { data := #[] }, .string { data := #[] }, .int .i64 0, .slice none 0 0, .string { data := #[] }, .string { data := #[] }, .int .i64 0, .slice none 0 0, .int .i64 0] E
theorem thereB {w w' : World} {B b o n : Nat} (h : w.there b o n) (hb : Below B w w') (hlt : b < B) : w'.there b o n := fun j hj => by
  have h1 := h j hj
  rw [show w'.cell? ⟨b, o + j, none⟩ = w.cell? ⟨b, o + j, none⟩ from World.cell?_of_block (w := w) (hb.block b hlt)]
  refine ⟨h1.1, ?_⟩
  have h2 := h1.2
  simp only [World.frozen?] at h2 ⊢
  rw [hb.block b hlt]; exact h2
theorem st_thereZ (w : World) (E : TypeId) : (w.alloc (stZ E)).there w.heap.size 0 17 := st_there w E
/-- Three boxes made, then filled. -/
theorem three_box (w : World) (E : TypeId) (f1 f2 f3 : Bool) (y1 y2 y3 : AidG) :
    ∃ x1 x2 x3 : World, (((w.alloc (stZ E)).alloc (stZ E)).alloc (stZ E)).setCells w.heap.size 0 (stC f1 y1) = x1 ∧ x1.setCells (w.heap.size + 1) 0 (stC f2 y2) = x2 ∧ x2.setCells (w.heap.size + 1 + 1) 0 (stC f3 y3) = x3 ∧
      (((w.alloc (stZ E)).alloc (stZ E)).alloc (stZ E)).there w.heap.size 0 17 ∧ x1.there (w.heap.size + 1) 0 17 ∧ x2.there (w.heap.size + 1 + 1) 0 17 ∧
      x3.rangeAt w.heap.size 0 (stC f1 y1) ∧ x3.rangeAt (w.heap.size + 1) 0 (stC f2 y2) ∧ x3.rangeAt (w.heap.size + 1 + 1) 0 (stC f3 y3) ∧ Below w.heap.size w x3 ∧ w.heap.size + 1 + 1 < x3.heap.size := by
  have s1 : (w.alloc (stZ E)).heap.size = w.heap.size + 1 := by simp
  have s2 : ((w.alloc (stZ E)).alloc (stZ E)).heap.size = w.heap.size + 1 + 1 := by simp
  have a1 := st_thereZ w E
  have a2 := st_thereZ (w.alloc (stZ E)) E
  have a3 := st_thereZ ((w.alloc (stZ E)).alloc (stZ E)) E
  rw [s1] at a2
  rw [s2] at a3
  have b1 : Below (w.heap.size + 1) (w.alloc (stZ E)) ((w.alloc (stZ E)).alloc (stZ E)) := by rw [← s1]; exact (Below.refl _ _).alloc (Nat.le_refl _) _
  have b2 : Below (w.heap.size + 1 + 1) ((w.alloc (stZ E)).alloc (stZ E)) (((w.alloc (stZ E)).alloc (stZ E)).alloc (stZ E)) := by rw [← s2]; exact (Below.refl _ _).alloc (Nat.le_refl _) _
  have T1 := thereB (thereB a1 b1 (by omega)) b2 (by omega)
  have T2 := thereB a2 b2 (by omega)
  have T2' := World.there_setCells T2 w.heap.size 0 (stC f1 y1)
  have T3' := World.there_setCells (World.there_setCells a3 w.heap.size 0 (stC f1 y1)) (w.heap.size + 1) 0 (stC f2 y2)
  have R1 := World.rangeAt_setCells_same _ w.heap.size 0 (stC f1 y1) T1
  have R1' := World.rangeAt_setCells_apart R1 (w.heap.size + 1) 0 (stC f2 y2) (.inl (by omega))
  have R1'' := World.rangeAt_setCells_apart R1' (w.heap.size + 1 + 1) 0 (stC f3 y3) (.inl (by omega))
  have R2 := World.rangeAt_setCells_same _ (w.heap.size + 1) 0 (stC f2 y2) T2'
  have R2' := World.rangeAt_setCells_apart R2 (w.heap.size + 1 + 1) 0 (stC f3 y3) (.inl (by omega))
  have R3 := World.rangeAt_setCells_same _ (w.heap.size + 1 + 1) 0 (stC f3 y3) T3'
  have B0 : Below w.heap.size w (((w.alloc (stZ E)).alloc (stZ E)).alloc (stZ E)) := by (repeat (first | (with_reducible assumption) | (with_reducible exact Below.refl _ _) | exact Nat.le_refl _ | exact Below.size (by with_reducible assumption) | (with_reducible refine Below.drew ?_) | (with_reducible refine below_drewN ?_ _) | (with_reducible refine Below.alloc ?_ ?_ _) | (with_reducible refine Below.setCell ?_ ?_ _) | (with_reducible refine le_alloc ?_ _) | (with_reducible refine le_set ?_ _ _) | (with_reducible refine le_drew ?_) | (with_reducible refine le_drewN ?_ _) | omega | (dsimp only; omega)))
  exact ⟨_, _, _, rfl, rfl, rfl, T1, T2', T3', R1'', R2', R3, belowW _ (by omega) _ _ _ (belowW _ (by omega) _ _ _ (belowW _ (Nat.le_refl _) _ _ _ B0)), by rw [sizeW, sizeW, sizeW]; simp⟩
set_option maxRecDepth 100000 in
set_option maxHeartbeats 8000000 in
theorem conflicts_c (A1 A2 A3 : Option Addr) (n1 n2 n3 c1 c2 c3 : Nat) (z1 z2 z3 : List AidG) (w : World) (h1 : AidSl w A1 n1 z1) (h2 : AidSl w A2 n2 z2) (h3 : AidSl w A3 n3 z3) (m1 : n1 ≤ 1048576) (m2 : n2 ≤ 1048576) (m3 : n3 ≤ 1048576)
    (V1 : aidsB (z1.map AidG.a) = true) (V2 : aidsB (z2.map AidG.a) = true) (V3 : aidsB (z3.map AidG.a) = true) :
    Calls Tryz.prog 25 #[.slice A1 n1 c1, .slice A2 n2 c2, .slice A3 n3 c3] w fun e w' => ∃ A c, e = .returned (.slice A (cfP (z1.map AidG.a) (z2.map AidG.a) (z3.map AidG.a)).length c) ∧ w'.ownsRow w.heap.size 2 1 (.slice A (cfP (z1.map AidG.a) (z2.map AidG.a) (z3.map AidG.a)).length c) (cfP (z1.map AidG.a) (z2.map AidG.a) (z3.map AidG.a)).length ((cfP (z1.map AidG.a) (z2.map AidG.a) (z3.map AidG.a)).flatMap intC) ∧ Below w.heap.size w w' := by
  obtain ⟨p0, hp, hy0, hy1, hy2⟩ := info_parts intInfo
  have hba : Below w.heap.size w ((w.alloc (.cells #[] 2)).alloc (.cells #[.slice A1 n1 c1, .slice A2 n2 c2, .slice A3 n3 c3] 24)) := by (repeat (first | (with_reducible assumption) | (with_reducible exact Below.refl _ _) | exact Nat.le_refl _ | exact Below.size (by with_reducible assumption) | (with_reducible refine Below.drew ?_) | (with_reducible refine below_drewN ?_ _) | (with_reducible refine Below.alloc ?_ ?_ _) | (with_reducible refine Below.setCell ?_ ?_ _) | (with_reducible refine le_alloc ?_ _) | (with_reducible refine le_set ?_ _ _) | (with_reducible refine le_drew ?_) | (with_reducible refine le_drewN ?_ _) | omega | (dsimp only; omega)))
  have hg : w.heap.size + 1 < ((w.alloc (.cells #[] 2)).alloc (.cells #[.slice A1 n1 c1, .slice A2 n2 c2, .slice A3 n3 c3] 24)).heap.size := by simp
  have hblk : ((w.alloc (.cells #[] 2)).alloc (.cells #[.slice A1 n1 c1, .slice A2 n2 c2, .slice A3 n3 c3] 24)).heap[w.heap.size + 1]? = some (.cells #[.slice A1 n1 c1, .slice A2 n2 c2, .slice A3 n3 c3] 24 (0, 0)) := heap_alloc2_new w _ _
  have hN := numbersIn_c (w.heap.size + 1) (fun j => (#[Value.slice A1 n1 c1, .slice A2 n2 c2, .slice A3 n3 c3] : Array Value).getD j undef) (fun j v => (fdN ([z1, z2, z3].getD j []|>.map AidG.a) v).isSome) _ hg
    (fun j hj => by
      have : j = 0 ∨ j = 1 ∨ j = 2 := by omega
      rcases this with rfl | rfl | rfl <;> (rw [cell_of_row _ _ _ _ _ _ hblk]; rfl))
    (fun w' hb j hj v => by
      have hbw := hba.trans (hb.mono hba.size)
      have : j = 0 ∨ j = 1 ∨ j = 2 := by omega
      rcases this with rfl | rfl | rfl
      · exact (aidOf_c A1 n1 c1 z1 v w' (h1.next hbw) m1 V1).mono fun e w'' ⟨i, he, _, hb⟩ => ⟨i, he, hb⟩
      · exact (aidOf_c A2 n2 c2 z2 v w' (h2.next hbw) m2 V2).mono fun e w'' ⟨i, he, _, hb⟩ => ⟨i, he, hb⟩
      · exact (aidOf_c A3 n3 c3 z3 v w' (h3.next hbw) m3 V3).mono fun e w'' ⟨i, he, _, hb⟩ => ⟨i, he, hb⟩)
  have hN' : Calls Tryz.prog 26 #[.slice (some ⟨w.heap.size + 1, 0, none⟩) 3 3] ((w.alloc (.cells #[] 2)).alloc (.cells #[.slice A1 n1 c1, .slice A2 n2 c2, .slice A3 n3 c3] 24)) fun e w' => ∃ A c, e = .returned (.slice A (numI (z1.map AidG.a) (z2.map AidG.a) (z3.map AidG.a)).length c) ∧ w'.ownsRow ((w.alloc (.cells #[] 2)).alloc (.cells #[.slice A1 n1 c1, .slice A2 n2 c2, .slice A3 n3 c3] 24)).heap.size 2 1 (.slice A (numI (z1.map AidG.a) (z2.map AidG.a) (z3.map AidG.a)).length c) (numI (z1.map AidG.a) (z2.map AidG.a) (z3.map AidG.a)).length ((numI (z1.map AidG.a) (z2.map AidG.a) (z3.map AidG.a)).flatMap intC) ∧ Below ((w.alloc (.cells #[] 2)).alloc (.cells #[.slice A1 n1 c1, .slice A2 n2 c2, .slice A3 n3 c3] 24)).heap.size ((w.alloc (.cells #[] 2)).alloc (.cells #[.slice A1 n1 c1, .slice A2 n2 c2, .slice A3 n3 c3] 24)) w' := hN
  clear hN hblk hg
  have hNp : ∀ x ∈ numI (z1.map AidG.a) (z2.map AidG.a) (z3.map AidG.a), x ≠ 0 := fun x hx => by have := num_pos hx; omega
  have hov := World.ownsRow_made (base := w.heap.size) (e := 2) (size := 1) w #[] 0 (Nat.le_refl _) (by simp [maxLen]) rfl
  obtain ⟨Z1, hZ1⟩ : ∃ Z, z1.map AidG.a = Z := ⟨_, rfl⟩
  obtain ⟨Z2, hZ2⟩ : ∃ Z, z2.map AidG.a = Z := ⟨_, rfl⟩
  obtain ⟨Z3, hZ3⟩ : ∃ Z, z3.map AidG.a = Z := ⟨_, rfl⟩
  rw [hZ1, hZ2, hZ3] at hN'
  rw [hZ1, hZ2, hZ3] at hNp
  rw [hZ1, hZ2, hZ3, cfP]
  obtain ⟨L, hL⟩ : ∃ L, numI Z1 Z2 Z3 = L := ⟨_, rfl⟩
  rw [hL] at hN' hNp ⊢
  have hLl0 : L.length ≤ 9999 := by rw [← hL]; exact upTo_len 9999 _
  obtain ⟨l, hll⟩ : ∃ q, L.length = q := ⟨_, rfl⟩
  rw [hll] at hN' hLl0
  have hSt1 : ∀ w', Below w.heap.size w w' → ∀ x, Calls Tryz.prog 27 #[.slice A1 n1 c1, .int .i64 x] w' fun e w'' => ∃ z' : AidG, e = .returned (stV (fdN Z1 x).isSome z') ∧ z'.a = stA Z1 x ∧ AidOk w'' z' ∧ Below w'.heap.size w' w'' := fun w' hb x => hZ1 ▸ stateOf_c A1 n1 c1 z1 x w' (h1.next hb) m1 V1
  have hSt2 : ∀ w', Below w.heap.size w w' → ∀ x, Calls Tryz.prog 27 #[.slice A2 n2 c2, .int .i64 x] w' fun e w'' => ∃ z' : AidG, e = .returned (stV (fdN Z2 x).isSome z') ∧ z'.a = stA Z2 x ∧ AidOk w'' z' ∧ Below w'.heap.size w' w'' := fun w' hb x => hZ2 ▸ stateOf_c A2 n2 c2 z2 x w' (h2.next hb) m2 V2
  have hSt3 : ∀ w', Below w.heap.size w w' → ∀ x, Calls Tryz.prog 27 #[.slice A3 n3 c3, .int .i64 x] w' fun e w'' => ∃ z' : AidG, e = .returned (stV (fdN Z3 x).isSome z') ∧ z'.a = stA Z3 x ∧ AidOk w'' z' ∧ Below w'.heap.size w' w'' := fun w' hb x => hZ3 ▸ stateOf_c A3 n3 c3 z3 x w' (h3.next hb) m3 V3
  have hox : ∀ w', Below ((w.alloc (.cells #[] 2)).alloc (.cells #[.slice A1 n1 c1, .slice A2 n2 c2, .slice A3 n3 c3] 24)).heap.size ((w.alloc (.cells #[] 2)).alloc (.cells #[.slice A1 n1 c1, .slice A2 n2 c2, .slice A3 n3 c3] 24)) w' → w'.ownsRow w.heap.size 2 1 (.slice (some ⟨w.heap.size, 0, none⟩) 0 0) 0 [] := fun w' hb => own_next (own_next hov ((Below.refl _ _).alloc (Nat.le_refl _) _)) hb
  clear hov h1 h2 h3 V1 V2 V3 m1 m2 m3
  have HOx := Lib.hid hox; clear hox
  have HN := Lib.hid hN'; clear hN'
  have HNp := Lib.hid hNp; clear hNp
  have HZ1 := Lib.hid hZ1; clear hZ1
  have HZ2 := Lib.hid hZ2; clear hZ2
  have HZ3 := Lib.hid hZ3; clear hZ3
  have HL := Lib.hid hL; clear hL
  have HLl := Lib.hid hll; clear hll
  have HSt1 := Lib.hid hSt1; clear hSt1
  have HSt2 := Lib.hid hSt2; clear hSt2
  have HSt3 := Lib.hid hSt3; clear hSt3
  go_enter Tryz.func25, Tryz.ntmps25
  go_wp2_with fail
  refine HN.out.mono ?_
  rintro e w1 ⟨AL, cL, rfl, hoL, hb1⟩
  have hL1 := Sl.of_own hoL
  have hne0 : ∀ b off, AL = some ⟨b, off, none⟩ → (Value.slice (some ⟨w.heap.size, 0, none⟩) 0 0).ownBlock ≠ some b := fun b off e h => by
    subst e
    have h1 := (hoL.lt b rfl).1
    have h2 : w.heap.size = b := by simpa [Value.ownBlock] using h
    simp at h1
    omega
  have hov := HOx.out _ hb1
  have hbw1 := hba.trans (hb1.mono hba.size)
  clear hoL HN HOx hb1 hba
  go_wp2_with fail
  go_loopw [7, 20] (fun o i wr => ∃ (k : Nat) (ys : List Int), k ≤ l ∧ i = .int .i64 k ∧ Hid (ys = (L.take k).filter (cflB Z1 Z2 Z3)) ∧ wr.ownsRow w.heap.size 2 1 o ys.length (ys.flatMap intC) ∧ Below w.heap.size w wr ∧ Hid (Sl wr wr.heap.size 1 AL l (L.flatMap intC)) ∧ Hid (∀ b off, AL = some ⟨b, off, none⟩ → o.ownBlock ≠ some b)) (fun _ i _ => l - (intOf i).toNat)
  case atStart => exact ⟨0, [], Nat.zero_le _, rfl, Lib.hid rfl, hov, hbw1, Lib.hid hL1, Lib.hid hne0⟩
  case round =>
    clear hov hbw1 hL1 hne0
    obtain ⟨k, ys, hk, rfl, Hys, hov, hbw, HLs, HNE⟩ := hrel
    obtain ⟨A4, c4, rfl⟩ := own_slice hov
    have k0 : (0 : Int) ≤ (k : Int) := by omega
    by_cases hlt : k < l
    · have k1 : (k : Int) < (l : Int) := by omega
      obtain ⟨b, off, x, rfl, hb, hx, hcx⟩ := HLs.out.int k hlt
      have hnx := cfP_next hx Z1 Z2 Z3
      have hyl0 : ys.length ≤ k := by rw [Hys.out]; exact Nat.le_trans (List.length_filter_le _ _) (List.length_take_le _ _)
      obtain ⟨yl, hyl⟩ : ∃ q, ys.length = q := ⟨_, rfl⟩
      rw [hyl] at hov hyl0
      have hne := HNE.out
      rw [hyl] at hne
      have HNE := Lib.hid hne
      clear hne
      have e63 : yl + 1 ≤ maxLen := by unfold maxLen; omega
      have e32 : (yl + 1) * 8 ≤ 140737488355328 := by omega
      have hO6 : ∀ w6, Below wr.heap.size wr w6 → w6.ownsRow w.heap.size 2 1 (.slice A4 yl c4) yl (ys.flatMap intC) := fun w6 hb6 => own_next hov hb6
      have hxp := HNp.out x (List.mem_of_getElem? hx)
      rw [hyl]
      clear hyl0
      have Hyl := Lib.hid hyl; clear hyl
      have HO6 := Lib.hid hO6; clear hO6
      have E63 := Lib.hid e63; clear e63
      have E32 := Lib.hid e32; clear e32
      have Hx := Lib.hid hx; clear hx
      have Hxp := Lib.hid hxp; clear hxp
      go_wp2_with fail
      refine (HSt1.out wr hbw x).mono ?_
      rintro e wA ⟨y1, rfl, st1, ok1, hbA⟩
      have bA := hbw.trans (hbA.mono hbw.size)
      clear hcx
      go_wp2_with fail
      refine (HSt2.out wA bA x).mono ?_
      rintro e wB ⟨y2, rfl, st2, ok2, hbB⟩
      have hbAB := hbA.trans (hbB.mono hbA.size)
      have bB := hbw.trans (hbAB.mono hbw.size)
      go_wp2_with fail
      refine (HSt3.out wB bB x).mono ?_
      rintro e wC ⟨y3, rfl, st3, ok3, hbC⟩
      have hbAC := hbAB.trans (hbC.mono hbAB.size)
      obtain ⟨F1, hF1⟩ : ∃ F, (fdN Z1 x).isSome = F := ⟨_, rfl⟩
      obtain ⟨F2, hF2⟩ : ∃ F, (fdN Z2 x).isSome = F := ⟨_, rfl⟩
      obtain ⟨F3, hF3⟩ : ∃ F, (fdN Z3 x).isSome = F := ⟨_, rfl⟩
      rw [hF1, hF2, hF3]
      obtain ⟨x1, x2, x3, hx1, hx2, hx3, TA, TB, TC, hR1, hR2, hR3, hb3x, SZ3⟩ := three_box wC 58 F1 F2 F3 y1 y2 y3
      have SZ1 : wC.heap.size < x3.heap.size := by omega
      have SZ2 : wC.heap.size + 1 < x3.heap.size := by omega
      have OA : (List.toArray (stC F1 y1)).all (·.oneCell') = true := all_oneCell_toArray (stC_one F1 y1)
      have OB : (List.toArray (stC F2 y2)).all (·.oneCell') = true := all_oneCell_toArray (stC_one F2 y2)
      have OC : (List.toArray (stC F3 y3)).all (·.oneCell') = true := all_oneCell_toArray (stC_one F3 y3)
      have HK1 := Lib.hid (((ok1.next hbB).next hbC).next hb3x)
      have HK2 := Lib.hid ((ok2.next hbC).next hb3x)
      have HK3 := Lib.hid (ok3.next hb3x)
      have b8 := hbAC.trans (hb3x.mono hbAC.size)
      have hcf : cflB Z1 Z2 Z3 x = (!((F2 == F3) && sameX y2.a y3.a) && (!((F2 == F1) && sameX y2.a y1.a) && !((F3 == F1) && sameX y3.a y1.a))) := by
        rw [← cfl_impl Z1 Z2 Z3 Hxp.out, eqB, eqB, eqB, hF1, hF2, hF3, st1, st2, st3]
      obtain ⟨T1, hT1⟩ : ∃ T, ((F2 == F3) && sameX y2.a y3.a) = T := ⟨_, rfl⟩
      obtain ⟨T2, hT2⟩ : ∃ T, ((F2 == F1) && sameX y2.a y1.a) = T := ⟨_, rfl⟩
      obtain ⟨T3, hT3⟩ : ∃ T, ((F3 == F1) && sameX y3.a y1.a) = T := ⟨_, rfl⟩
      rw [hT1, hT2, hT3] at hcf
      rw [hcf] at hnx
      have HLr := Lib.hid (fun (w' : World) (hb' : Below wr.heap.size wr w') => HLs.out.next hb')
      clear ok1 ok2 ok3 hbA hbB hbC hbAB hbAC hb3x bA bB st1 st2 st3 hF1 hF2 hF3 hov
      have HT1 := Lib.hid hT1; clear hT1
      have HT2 := Lib.hid hT2; clear hT2
      have HT3 := Lib.hid hT3; clear hT3
      have Hcf := Lib.hid hcf; clear hcf
      have HX1 := Lib.hid hx1; clear hx1
      have HX2 := Lib.hid hx2; clear hx2
      have HX3 := Lib.hid hx3; clear hx3
      have HTA := Lib.hid TA; clear TA
      have HTB := Lib.hid TB; clear TB
      have HTC := Lib.hid TC; clear TC
      have HOA := Lib.hid OA; clear OA
      have HOB := Lib.hid OB; clear OB
      have HOC := Lib.hid OC; clear OC
      have HR1 := Lib.hid hR1; clear hR1
      have HR2 := Lib.hid hR2; clear hR2
      have HR3 := Lib.hid hR3; clear hR3
      go_wp2_with (first | (refine wpList_store_mid rfl _ _ _ rfl wC.heap.size 0 (List.toArray (stC F1 y1)) rfl rfl HTA.out (by kernel_rfl) HOA.out ?_; rw [show (((wC.alloc (stZ 58)).alloc (stZ 58)).alloc (stZ 58)).setCells wC.heap.size 0 (List.toArray (stC F1 y1)).toList = x1 from HX1.out]) | (refine wpList_store_mid rfl _ _ _ rfl (wC.heap.size + 1) 0 (List.toArray (stC F2 y2)) rfl rfl HTB.out (by kernel_rfl) HOB.out ?_; rw [show x1.setCells (wC.heap.size + 1) 0 (List.toArray (stC F2 y2)).toList = x2 from HX2.out]) | (refine wpList_store_mid rfl _ _ _ rfl (wC.heap.size + 1 + 1) 0 (List.toArray (stC F3 y3)) rfl rfl HTC.out (by kernel_rfl) HOC.out ?_; rw [show x2.setCells (wC.heap.size + 1 + 1) 0 (List.toArray (stC F3 y3)).toList = x3 from HX3.out]) | (refine wpList_load_midG (by rfl) _ _ rfl (wC.heap.size) 0 rfl (stC F1 y1) _ HR1.out Tryz.underlying58 rfl (by kernel_rfl) ?_) | (refine wpList_load_midG (by rfl) _ _ rfl (wC.heap.size + 1) 0 rfl (stC F2 y2) _ HR2.out Tryz.underlying58 rfl (by kernel_rfl) ?_) | (refine wpList_load_midG (by rfl) _ _ rfl (wC.heap.size + 1 + 1) 0 rfl (stC F3 y3) _ HR3.out Tryz.underlying58 rfl (by kernel_rfl) ?_))
      refine (equals_c F2 F3 y2 y3 x3 HK2.out HK3.out).mono ?_
      rintro e w7 ⟨rfl, hbT⟩
      rw [HT1.out]
      have HR1 := Lib.hid (rangeBz HR1.out hbT SZ1)
      have HR2 := Lib.hid (rangeBz HR2.out hbT SZ2)
      have HR3 := Lib.hid (rangeBz HR3.out hbT SZ3)
      have SZ1 := Nat.lt_of_lt_of_le SZ1 hbT.size
      have SZ2 := Nat.lt_of_lt_of_le SZ2 hbT.size
      have SZ3 := Nat.lt_of_lt_of_le SZ3 hbT.size
      have HK1 := Lib.hid (HK1.out.next hbT)
      have HK2 := Lib.hid (HK2.out.next hbT)
      have HK3 := Lib.hid (HK3.out.next hbT)
      have b9 := b8.trans (hbT.mono b8.size)
      have b8 := b9
      clear b9 hbT
      cases T1
      · go_wp2_with (first | (refine wpList_load_midG (by rfl) _ _ rfl (wC.heap.size) 0 rfl (stC F1 y1) _ HR1.out Tryz.underlying58 rfl (by kernel_rfl) ?_) | (refine wpList_load_midG (by rfl) _ _ rfl (wC.heap.size + 1) 0 rfl (stC F2 y2) _ HR2.out Tryz.underlying58 rfl (by kernel_rfl) ?_) | (refine wpList_load_midG (by rfl) _ _ rfl (wC.heap.size + 1 + 1) 0 rfl (stC F3 y3) _ HR3.out Tryz.underlying58 rfl (by kernel_rfl) ?_))
        refine (equals_c F2 F1 y2 y1 w7 HK2.out HK1.out).mono ?_
        rintro e w7b ⟨rfl, hbT⟩
        rw [HT2.out]
        have HR1 := Lib.hid (rangeBz HR1.out hbT SZ1)
        have HR2 := Lib.hid (rangeBz HR2.out hbT SZ2)
        have HR3 := Lib.hid (rangeBz HR3.out hbT SZ3)
        have SZ1 := Nat.lt_of_lt_of_le SZ1 hbT.size
        have SZ2 := Nat.lt_of_lt_of_le SZ2 hbT.size
        have SZ3 := Nat.lt_of_lt_of_le SZ3 hbT.size
        have HK1 := Lib.hid (HK1.out.next hbT)
        have HK2 := Lib.hid (HK2.out.next hbT)
        have HK3 := Lib.hid (HK3.out.next hbT)
        have b9 := b8.trans (hbT.mono b8.size)
        have b8 := b9
        clear b9 hbT
        cases T2
        · go_wp2_with (first | (refine wpList_load_midG (by rfl) _ _ rfl (wC.heap.size) 0 rfl (stC F1 y1) _ HR1.out Tryz.underlying58 rfl (by kernel_rfl) ?_) | (refine wpList_load_midG (by rfl) _ _ rfl (wC.heap.size + 1) 0 rfl (stC F2 y2) _ HR2.out Tryz.underlying58 rfl (by kernel_rfl) ?_) | (refine wpList_load_midG (by rfl) _ _ rfl (wC.heap.size + 1 + 1) 0 rfl (stC F3 y3) _ HR3.out Tryz.underlying58 rfl (by kernel_rfl) ?_))
          refine (equals_c F3 F1 y3 y1 w7b HK3.out HK1.out).mono ?_
          rintro e w8 ⟨rfl, hbT⟩
          rw [HT3.out]
          have HR1 := Lib.hid (rangeBz HR1.out hbT SZ1)
          have HR2 := Lib.hid (rangeBz HR2.out hbT SZ2)
          have HR3 := Lib.hid (rangeBz HR3.out hbT SZ3)
          have SZ1 := Nat.lt_of_lt_of_le SZ1 hbT.size
          have SZ2 := Nat.lt_of_lt_of_le SZ2 hbT.size
          have SZ3 := Nat.lt_of_lt_of_le SZ3 hbT.size
          have HK1 := Lib.hid (HK1.out.next hbT)
          have HK2 := Lib.hid (HK2.out.next hbT)
          have HK3 := Lib.hid (HK3.out.next hbT)
          have b9 := b8.trans (hbT.mono b8.size)
          have b8 := b9
          clear b9 hbT
          cases T3
          · have Hnx := Lib.hid hnx; clear hnx
            have HOw := Lib.hid (HO6.out _ b8)
            have HLE := Lib.hid (Nat.le_trans hbw.size b8.size)
            go_wp2_with (at_builtin; refine wpl_append _ rfl (.tmp 49) (.tmp 51) _ rfl (w.heap.size) 2 p0 _ 1 8 Tryz.underlying30 hp hy0 hy1 hy2 rfl (by omega) _ (yl) _ rfl ((HOw.out).alloc _) ((w8).heap.size + 1) (some ⟨(w8).heap.size, 0, none⟩) 1 1 (intC (x)) rfl (Sl.new (w8) 2 _ 1 1 rfl) (intC_one _) E63.out E32.out (le_alloc HLE.out _) ?_; intro v2 w2 ho2 hg2 hat2)
            have hb2 : Below w.heap.size w w2 := ((hbw.trans (b8.mono hbw.size)).alloc HLE.out _).grown hg2 (le_alloc HLE.out _) fun q hq => (HOw.out.lt q hq).1
            obtain ⟨hls2, hne2⟩ := (HLr.out _ b8).beside hg2 hat2 HNE.out (by omega)
            go_roundw
            case rel => exact ⟨k + 1, ys ++ [x], by omega, by go_num, Lib.hid (by rw [Hnx.out, ← Hys.out]; rfl), by rw [List.length_append, Hyl.out, List.flatMap_append]; exact ho2, hb2, Lib.hid hls2, Lib.hid hne2⟩
            case measure => simp [intOf]; omega
          · have Hnx := Lib.hid hnx; clear hnx
            go_wp2_with fail
            go_roundw
            case rel => exact ⟨k + 1, ys, by omega, by go_num, Lib.hid (by rw [Hnx.out, ← Hys.out]; simp), by rw [Hyl.out]; exact HO6.out _ b8, hbw.trans (b8.mono hbw.size), Lib.hid (HLs.out.next b8), HNE⟩
            case measure => simp [intOf]; omega
        · have Hnx := Lib.hid hnx; clear hnx
          go_wp2_with fail
          go_roundw
          case rel => exact ⟨k + 1, ys, by omega, by go_num, Lib.hid (by rw [Hnx.out, ← Hys.out]; simp), by rw [Hyl.out]; exact HO6.out _ b8, hbw.trans (b8.mono hbw.size), Lib.hid (HLs.out.next b8), HNE⟩
          case measure => simp [intOf]; omega
      · have Hnx := Lib.hid hnx; clear hnx
        go_wp2_with fail
        go_roundw
        case rel => exact ⟨k + 1, ys, by omega, by go_num, Lib.hid (by rw [Hnx.out, ← Hys.out]; simp), by rw [Hyl.out]; exact HO6.out _ b8, hbw.trans (b8.mono hbw.size), Lib.hid (HLs.out.next b8), HNE⟩
        case measure => simp [intOf]; omega
    · obtain rfl : k = l := by omega
      go_wp2_with fail
      go_ret
      have hys : ys = L.filter (cflB Z1 Z2 Z3) := by rw [Hys.out, List.take_of_length_le (by rw [HLl.out]; omega)]
      rw [← hys]
      exact ⟨A4, c4, rfl, hov, hbw⟩
end Go.Proofs.YtpfnnjcochhklaaGreatDoor

/- ConflictsOf: the program. -/
namespace Go.Proofs.YtpfnnjcochhklaaGreatDoor
open Go.RowKit
set_option maxRecDepth 100000 in
set_option maxHeartbeats 4000000 in
theorem areLists_c (A1 A2 A3 : Option Addr) (n1 n2 n3 c1 c2 c3 : Nat) (z1 z2 z3 : List AidG) (w : World) (h1 : AidSl w A1 n1 z1) (h2 : AidSl w A2 n2 z2) (h3 : AidSl w A3 n3 z3) (m1 : n1 ≤ 1048576) (m2 : n2 ≤ 1048576) (m3 : n3 ≤ 1048576) (ht : Tab w) :
    Calls Tryz.prog 24 #[.slice A1 n1 c1, .slice A2 n2 c2, .slice A3 n3 c3] w fun e w' => e = .returned (.bool (aidsB (z1.map AidG.a) && (aidsB (z2.map AidG.a) && aidsB (z3.map AidG.a)))) ∧ Below w.heap.size w w' := by
  obtain ⟨V1, hV1⟩ : ∃ V, aidsB (z1.map AidG.a) = V := ⟨_, rfl⟩
  obtain ⟨V2, hV2⟩ : ∃ V, aidsB (z2.map AidG.a) = V := ⟨_, rfl⟩
  obtain ⟨V3, hV3⟩ : ∃ V, aidsB (z3.map AidG.a) = V := ⟨_, rfl⟩
  have k1 : Calls Tryz.prog 45 #[.slice A1 n1 c1] w fun e w' => e = .returned (.bool V1) ∧ Below w.heap.size w w' := hV1 ▸ implValidAids_c A1 n1 c1 z1 w h1 m1 ht
  have k2 : ∀ w1, Below w.heap.size w w1 → Calls Tryz.prog 45 #[.slice A2 n2 c2] w1 fun e w' => e = .returned (.bool V2) ∧ Below w1.heap.size w1 w' := fun w1 hb => hV2 ▸ implValidAids_c A2 n2 c2 z2 w1 (h2.next hb) m2 (ht.next hb)
  have k3 : ∀ w1, Below w.heap.size w w1 → Calls Tryz.prog 45 #[.slice A3 n3 c3] w1 fun e w' => e = .returned (.bool V3) ∧ Below w1.heap.size w1 w' := fun w1 hb => hV3 ▸ implValidAids_c A3 n3 c3 z3 w1 (h3.next hb) m3 (ht.next hb)
  rw [hV1, hV2, hV3]
  clear hV1 hV2 hV3 h1 h2 h3 ht
  have K1 := Lib.hid k1; clear k1
  have K2 := Lib.hid k2; clear k2
  have K3 := Lib.hid k3; clear k3
  cases V1
  · go_enter Tryz.func24, Tryz.ntmps24
    go_wp2_with fail
    refine K1.out.mono ?_
    rintro e w1 ⟨rfl, hbb⟩
    go_wp2_with fail
    go_ret
    exact ⟨rfl, hbb⟩
  cases V2
  · go_enter Tryz.func24, Tryz.ntmps24
    go_wp2_with fail
    refine K1.out.mono ?_
    rintro e w1 ⟨rfl, hb1⟩
    go_wp2_with fail
    refine (K2.out _ hb1).mono ?_
    rintro e w2 ⟨rfl, hb2⟩
    have hbb := hb1.trans (hb2.mono hb1.size)
    go_wp2_with fail
    go_ret
    exact ⟨rfl, hbb⟩
  · go_enter Tryz.func24, Tryz.ntmps24
    go_wp2_with fail
    refine K1.out.mono ?_
    rintro e w1 ⟨rfl, hb1⟩
    go_wp2_with fail
    refine (K2.out _ hb1).mono ?_
    rintro e w2 ⟨rfl, hb2⟩
    replace hb2 := hb1.trans (hb2.mono hb1.size)
    go_wp2_with fail
    refine (K3.out _ hb2).mono ?_
    rintro e w3 ⟨rfl, hb3⟩
    have hbb := hb2.trans (hb3.mono hb2.size)
    go_wp2_with fail
    go_ret
    exact ⟨rfl, hbb⟩
set_option maxRecDepth 100000 in
set_option maxHeartbeats 4000000 in
theorem implCf_c (A1 A2 A3 : Option Addr) (n1 n2 n3 c1 c2 c3 : Nat) (z1 z2 z3 : List AidG) (w : World) (h1 : AidSl w A1 n1 z1) (h2 : AidSl w A2 n2 z2) (h3 : AidSl w A3 n3 z3) (m1 : n1 ≤ 1048576) (m2 : n2 ≤ 1048576) (m3 : n3 ≤ 1048576) (ht : Tab w) :
    Calls Tryz.prog 10 #[.slice A1 n1 c1, .slice A2 n2 c2, .slice A3 n3 c3] w fun e w' => ∃ A c, e = .returned (.tuple #[.slice A (cfL (z1.map AidG.a) (z2.map AidG.a) (z3.map AidG.a)).length c, .int .i64 (cfK (z1.map AidG.a) (z2.map AidG.a) (z3.map AidG.a))]) ∧ w'.ownsRow w.heap.size 2 1 (.slice A (cfL (z1.map AidG.a) (z2.map AidG.a) (z3.map AidG.a)).length c) (cfL (z1.map AidG.a) (z2.map AidG.a) (z3.map AidG.a)).length ((cfL (z1.map AidG.a) (z2.map AidG.a) (z3.map AidG.a)).flatMap intC) ∧ Below w.heap.size w w' := by
  have k0 := areLists_c A1 A2 A3 n1 n2 n3 c1 c2 c3 z1 z2 z3 w h1 h2 h3 m1 m2 m3 ht
  have k4 := fun w1 (hb : Below w.heap.size w w1) => conflicts_c A1 A2 A3 n1 n2 n3 c1 c2 c3 z1 z2 z3 w1 (h1.next hb) (h2.next hb) (h3.next hb) m1 m2 m3
  rw [cfL, cfK, cfV]
  obtain ⟨V1, hV1⟩ : ∃ V, aidsB (z1.map AidG.a) = V := ⟨_, rfl⟩
  obtain ⟨V2, hV2⟩ : ∃ V, aidsB (z2.map AidG.a) = V := ⟨_, rfl⟩
  obtain ⟨V3, hV3⟩ : ∃ V, aidsB (z3.map AidG.a) = V := ⟨_, rfl⟩
  rw [hV1, hV2, hV3] at k0 k4 ⊢
  obtain ⟨P, hP⟩ : ∃ P, cfP (z1.map AidG.a) (z2.map AidG.a) (z3.map AidG.a) = P := ⟨_, rfl⟩
  rw [hP] at k4 ⊢
  clear hV1 hV2 hV3 hP h1 h2 h3 ht
  have K0 := Lib.hid k0; clear k0
  have K4 := Lib.hid k4; clear k4
  cases hV : (V1 && (V2 && V3)) <;> rw [hV] at K0
  · clear K4 hV
    go_enter Tryz.func10, Tryz.ntmps10
    go_wp2_with fail
    refine K0.out.mono ?_
    rintro e w1 ⟨rfl, hbb⟩
    go_wp2_with fail
    go_ret2
    exact ⟨none, 0, rfl, World.ownsRow_nil _ _ _ _, hbb⟩
  · have K4b := Lib.hid (K4.out)
    clear K4
    go_enter Tryz.func10, Tryz.ntmps10
    go_wp2_with fail
    refine K0.out.mono ?_
    rintro e w1 ⟨rfl, hb1⟩
    go_wp2_with fail
    refine (K4b.out _ hb1 (by cases V1 <;> simp_all) (by cases V2 <;> simp_all) (by cases V3 <;> simp_all)).mono ?_
    rintro e w4 ⟨A4, c4, rfl, ho4, hb4⟩
    clear hV K4b
    go_wp2_with fail
    go_ret2
    exact ⟨A4, c4, rfl, own_base ho4 hb1.size, hb1.trans (hb4.mono hb1.size)⟩
end Go.Proofs.YtpfnnjcochhklaaGreatDoor
