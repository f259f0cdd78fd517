
/- Merging lists of aids: the program's numbersIn of two lists; what a merged list has at a number. -/
import Derived.Test.YtpfnnjcochhklaaGreatDoorMgPG
import Derived.Test.YtpfnnjcochhklaaGreatDoorCfGb
namespace Go.Proofs.YtpfnnjcochhklaaGreatDoor
open Go.RowKit
theorem getO_st (l : List AidX) (v : Int) : getO l v = bif (fdN l v).isSome then some (stA l v) else none := by
  unfold getO stA
  cases fdN l v <;> rfl
theorem mgO_at (base a b : List AidX) {v : Int} (hv : v ≠ 0) : mgO base a b v = bif eqB a base v then getO b v else getO a v := by
  rw [eqB_get _ _ hv]
  unfold mgO
  by_cases h : getO a v = getO base v <;> simp [h]
theorem fm_next {L : List Int} {k : Nat} {x : Int} (h : L[k]? = some x) (f : Int → Option AidX) : (L.take (k + 1)).filterMap f = (L.take k).filterMap f ++ (f x).toList := by
  rw [List.take_add_one, h, List.filterMap_append]
  cases hf : f x <;> simp [hf]
set_option maxRecDepth 100000 in
set_option maxHeartbeats 4000000 in
theorem numbersIn2_c (g : Nat) (LV : Nat → Value) (FB : Nat → Int → Bool) (w : World) (hg : g < w.heap.size) (hc : ∀ j, j < 2 → w.cell? ⟨g, j, none⟩ = some (LV j))
    (hA : ∀ w', Below w.heap.size w w' → ∀ j, j < 2 → ∀ v, Calls Tryz.prog 46 #[LV j, .int .i64 v] w' fun e w'' => ∃ i : Nat, e = .returned (.tuple #[.int .i64 i, .bool (FB j v)]) ∧ Below w'.heap.size w' w'') :
    Calls Tryz.prog 26 #[.slice (some ⟨g, 0, none⟩) 2 2] w fun e w' => ∃ A c, e = .returned (.slice A ((upTo 9999).filter fun v => FB 0 v || FB 1 v).length c) ∧ w'.ownsRow w.heap.size 2 1 (.slice A ((upTo 9999).filter fun v => FB 0 v || FB 1 v).length c) ((upTo 9999).filter fun v => FB 0 v || FB 1 v).length (((upTo 9999).filter fun v => FB 0 v || FB 1 v).flatMap intC) ∧ Below w.heap.size w w' := by
  obtain ⟨p0, hp, hy0, hy1, hy2⟩ := info_parts intInfo
  obtain ⟨Q, hQ⟩ : ∃ Q : Int → Bool, (fun v => FB 0 v || FB 1 v) = Q := ⟨_, rfl⟩
  rw [hQ]
  have hov := World.ownsRow_made (base := w.heap.size) (e := 2) (size := 1) w #[] 0 (Nat.le_refl _) (by simp [maxLen]) rfl
  have hbv : Below w.heap.size w (w.alloc (.cells #[] 2)) := (Below.refl _ _).alloc (Nat.le_refl _) _
  have HQ := Lib.hid hQ; clear hQ
  have HC := Lib.hid hc; clear hc
  have HA := Lib.hid hA; clear hA
  go_enter Tryz.func26, Tryz.ntmps26
  go_wp2_with fail
  go_loopw [3, 4] (fun o i wr => ∃ (k : Nat) (ys : List Int), k ≤ 9999 ∧ i = .int .i64 ((k + 1 : Nat) : Int) ∧ Hid (ys = (upTo k).filter Q) ∧ wr.ownsRow w.heap.size 2 1 o ys.length (ys.flatMap intC) ∧ Below w.heap.size w wr) (fun _ i _ => (10000 - intOf i).toNat)
  case atStart => exact ⟨0, [], by omega, rfl, Lib.hid rfl, hov, hbv⟩
  case round =>
    clear hov hbv
    obtain ⟨k, ys, hk, rfl, Hys, hov, hbw⟩ := hrel
    obtain ⟨A3, c3, rfl⟩ := own_slice hov
    by_cases hlt : k < 9999
    · have hyl0 : ys.length ≤ k := by rw [Hys.out]; exact upTo_len _ _
      have hnx := upTo_next k Q
      obtain ⟨yl, hyl⟩ : ∃ q, ys.length = q := ⟨_, rfl⟩
      rw [hyl] at hov hyl0 ⊢
      have e63 : yl + 1 ≤ maxLen := by unfold maxLen; omega
      have e32 : (yl + 1) * 8 ≤ 140737488355328 := by omega
      obtain ⟨x, hx⟩ : ∃ x : Int, ((k + 1 : Nat) : Int) = x := ⟨_, rfl⟩
      have hx1 : (k : Int) + 1 = x := by omega
      rw [hx1] at hnx
      rw [hx]
      have x1 : x ≤ 9999 := by omega
      have x0 : 1 ≤ x := by omega
      have hQx : Q x = (FB 0 x || FB 1 x) := by rw [← HQ.out]
      obtain ⟨wo, rfl⟩ : ∃ wo : World, wo = wr := ⟨_, rfl⟩
      have HOv := Lib.hid (fun w6 (hb6 : Below wo.heap.size wo w6) => own_next hov hb6)
      clear hov hyl0
      have Hyl := Lib.hid hyl; clear hyl
      have Hx := Lib.hid hx; clear hx
      have Hx1 := Lib.hid hx1; clear hx1
      have Hnx := Lib.hid hnx; clear hnx
      have HQx := Lib.hid hQx; clear hQx
      have E63 := Lib.hid e63; clear e63
      have E32 := Lib.hid e32; clear e32
      go_wp2_with fail
      go_loopw [3, 16] (fun o j wr => ∃ q : Nat, q ≤ 2 ∧ o = .slice A3 yl c3 ∧ j = .int .i64 q ∧ Hid (∀ r, r < q → FB r x = false) ∧ Below wo.heap.size wo wr) (fun _ j _ => 2 - (intOf j).toNat)
      case atStart => exact ⟨0, by omega, rfl, rfl, Lib.hid (fun r hr => absurd hr (by omega)), Below.refl _ _⟩
      case round =>
        obtain ⟨q, hq, rfl, rfl, Hr, hbo⟩ := hrel
        have hbq := hbw.trans (hbo.mono hbw.size)
        have q0 : (0 : Int) ≤ (q : Int) := by omega
        by_cases hq3 : q < 2
        · have q1 : (q : Int) < 2 := by omega
          have cq := (keepC hbq g hg q).trans (HC.out q hq3)
          have hAq := HA.out _ hbq q hq3 x
          obtain ⟨V, hV⟩ : ∃ V, LV q = V := ⟨_, rfl⟩
          rw [hV] at cq hAq
          cases hB : FB q x
          · rw [hB] at hAq
            have HAq := Lib.hid hAq; clear hAq
            have HB := Lib.hid hB; clear hB
            have HV := Lib.hid hV; clear hV
            go_wp2_with fail
            refine HAq.out.mono ?_
            rintro e w5 ⟨i, rfl, hb5⟩
            go_wp2_with fail
            go_roundw
            case rel =>
              exact ⟨q + 1, by omega, rfl, by go_num, Lib.hid (fun r hr => by
                rcases Nat.lt_or_ge r q with h2 | h2
                · exact Hr.out r h2
                · obtain rfl : r = q := by omega
                  exact HB.out), hbo.trans (hb5.mono hbo.size)⟩
            case measure => simp [intOf]; omega
          · rw [hB] at hAq
            have HAq := Lib.hid hAq; clear hAq
            have HB := Lib.hid hB; clear hB
            have HV := Lib.hid hV; clear hV
            have hQt : Q x = true := by
              rw [HQx.out]
              have : q = 0 ∨ q = 1 := by omega
              rcases this with rfl | rfl
              · rw [HB.out]; rfl
              · rw [HB.out]; simp
            have HQt := Lib.hid hQt; clear hQt
            go_wp2_with fail
            refine HAq.out.mono ?_
            rintro e w5 ⟨i, rfl, hb5⟩
            have hb5o := hbo.trans (hb5.mono hbo.size)
            have HOw := Lib.hid (HOv.out w5 hb5o)
            have HLE := Lib.hid (Nat.le_trans hbw.size hb5o.size)
            go_wp2_with (at_builtin; refine wpl_append _ rfl (.tmp 27) (.tmp 29) _ rfl (w.heap.size) 2 p0 _ 1 8 Tryz.underlying30 hp hy0 hy1 hy2 rfl (by omega) _ (yl) _ rfl ((HOw.out).alloc _) ((w5).heap.size + 1) (some ⟨(w5).heap.size, 0, none⟩) 1 1 (intC (x)) rfl (Sl.new (w5) 2 _ 1 1 rfl) (intC_one _) E63.out E32.out (le_alloc HLE.out _) ?_; intro v2 w2 ho2 hg2 hat2)
            have hb2 : Below w.heap.size w w2 := ((hbw.trans (hb5o.mono hbw.size)).alloc HLE.out _).grown hg2 (le_alloc HLE.out _) fun q hq => (HOw.out.lt q hq).1
            go_roundw
            case rel => exact ⟨k + 1, ys ++ [x], by omega, by (have := Hx.out; subst this; go_num), Lib.hid (by rw [Hnx.out, HQt.out, ← Hys.out]; rfl), by rw [List.length_append, Hyl.out, List.flatMap_append]; exact ho2, hb2⟩
            case measure => simp [intOf]; omega
        · obtain rfl : q = 2 := by omega
          have hQf : Q x = false := by
            rw [HQx.out, Hr.out 0 (by omega), Hr.out 1 (by omega)]; rfl
          have HQf := Lib.hid hQf; clear hQf
          go_wp2_with fail
          go_roundw
          case rel => exact ⟨k + 1, ys, by omega, by (have := Hx.out; subst this; go_num), Lib.hid (by rw [Hnx.out, HQf.out, ← Hys.out]; simp), by rw [Hyl.out]; exact HOv.out _ hbo, hbq⟩
          case measure => simp [intOf]; omega
    · obtain rfl : k = 9999 := by omega
      go_wp2_with fail
      go_ret
      rw [← Hys.out]
      exact ⟨A3, c3, rfl, hov, hbw⟩
set_option maxRecDepth 100000 in
set_option maxHeartbeats 2000000 in
theorem stateOfK_c (A : Option Addr) (n c : Nat) (zs : List AidG) (v : Int) (w9 w : World) (h9 : AidSl w9 A n zs) (hb9 : Below w9.heap.size w9 w) (hm : n ≤ 1048576) (hV : aidsB (zs.map AidG.a) = true) :
    Calls Tryz.prog 27 #[.slice A n c, .int .i64 v] w fun e w' => ∃ z' : AidG, e = .returned (stV (fdN (zs.map AidG.a) v).isSome z') ∧ z'.a = stA (zs.map AidG.a) v ∧ (∀ w2, Below w9.heap.size w9 w2 → AidOk w2 z') ∧ Below w.heap.size w w' := by
  have h := h9.next hb9
  have hba : Below w.heap.size w (w.alloc (stO false aidZn 58)) := by (repeat (first | (with_reducible assumption) | (with_reducible exact Below.refl _ _) | exact Nat.le_refl _ | exact Below.size (by with_reducible assumption) | (with_reducible refine Below.drew ?_) | (with_reducible refine below_drewN ?_ _) | (with_reducible refine Below.alloc ?_ ?_ _) | (with_reducible refine Below.setCell ?_ ?_ _) | (with_reducible refine le_alloc ?_ _) | (with_reducible refine le_set ?_ _ _) | (with_reducible refine le_drew ?_) | (with_reducible refine le_drewN ?_ _) | omega | (dsimp only; omega)))
  have hA := aidOf_c A n c zs v _ (h.next hba) hm hV
  have hzb : w.heap.size < (w.alloc (stO false aidZn 58)).heap.size := by simp
  have hT0 := st_there w 58
  cases hF : fdN (zs.map AidG.a) v with
  | none =>
    rw [hF] at hA
    have hS : stA (zs.map AidG.a) v = aidZn.a := by rw [stA, hF]; rfl
    have OO : (List.toArray (stC false aidZn)).all (·.oneCell') = true := all_oneCell_toArray (stC_one false aidZn)
    have HA := Lib.hid hA; clear hA
    have HS := Lib.hid hS; clear hS
    have HF := Lib.hid hF; clear hF
    have HOO := Lib.hid OO; clear OO
    have HT0 := Lib.hid hT0; clear hT0
    go_enter Tryz.func27, Tryz.ntmps27
    go_wp2_with fail
    refine HA.out.mono ?_
    rintro e w1 ⟨i, rfl, _, hb1⟩
    have T1 : w1.there w.heap.size 0 17 := fun j hj => by
      rw [show w1.cell? ⟨w.heap.size, 0 + j, none⟩ = _ from keepC hb1 _ hzb _, show w1.frozen? ⟨w.heap.size, 0 + j, none⟩ = _ from keepF hb1 _ hzb _]
      exact HT0.out j hj
    have R2 := World.rangeAt_setCells_same w1 w.heap.size 0 (stC false aidZn) T1
    have b2 := belowW w.heap.size (Nat.le_refl _) (stC false aidZn) 0 w1 (hba.trans (hb1.mono hba.size))
    obtain ⟨w2, hw2⟩ : ∃ x, w1.setCells w.heap.size 0 (stC false aidZn) = x := ⟨_, rfl⟩
    rw [hw2] at R2 b2
    simp only [Option.isSome_none]
    have HT1 := Lib.hid T1; clear T1
    have HW2 := Lib.hid hw2; clear hw2
    have HR2 := Lib.hid R2; clear R2
    clear hb1 hba
    go_wp2_with (refine wpList_store_mid rfl _ _ _ rfl w.heap.size 0 (List.toArray (stC false aidZn)) rfl rfl HT1.out (by kernel_rfl) HOO.out ?_; rw [show w1.setCells w.heap.size 0 (List.toArray (stC false aidZn)).toList = w2 from HW2.out])
    exact bodyPost_ret (v := stV false aidZn) (results_cell_mid Tryz.results27 _ w2 w.heap.size 0 (stC false aidZn) _ rfl HR2.out Tryz.underlying58 rfl (by kernel_rfl)) rfl ⟨aidZn, rfl, HS.out.symm, fun _ _ => aidzn_ok _, b2⟩
  | some k =>
    rw [hF] at hA
    have hkn : k < n := by
      obtain ⟨a, _, _, h3⟩ := fdN_at hF
      rw [List.length_map, h.len] at h3; omega
    obtain ⟨b, off, z, rfl, hb, hx, hz, hp⟩ := h.getR k hkn
    have hz9 : AidOk w9 z := h9.ok z (List.mem_of_getElem? hx)
    clear hz
    have hS : stA (zs.map AidG.a) v = z.a := by
      rw [stA, hF, Option.elim_some, aAt_eq hx]
    have k0 : (0 : Int) ≤ (k : Int) := by omega
    have k1 : (k : Int) < (n : Int) := by omega
    have OO : (List.toArray (stC true z)).all (·.oneCell') = true := all_oneCell_toArray (stC_one true z)
    have HA := Lib.hid hA; clear hA
    have HS := Lib.hid hS; clear hS
    have HF := Lib.hid hF; clear hF
    have HOO := Lib.hid OO; clear OO
    have HT0 := Lib.hid hT0; clear hT0
    have Hx := Lib.hid hx; clear hx
    go_enter Tryz.func27, Tryz.ntmps27
    go_wp2_with fail
    refine HA.out.mono ?_
    rintro e w1 ⟨i, rfl, hik, hb1⟩
    obtain rfl := hik k rfl
    have T1 : w1.there w.heap.size 0 17 := fun j hj => by
      rw [show w1.cell? ⟨w.heap.size, 0 + j, none⟩ = _ from keepC hb1 _ hzb _, show w1.frozen? ⟨w.heap.size, 0 + j, none⟩ = _ from keepF hb1 _ hzb _]
      exact HT0.out j hj
    have bw1 := hba.trans (hb1.mono hba.size)
    have HP := Lib.hid (rangeBz hp bw1 hb)
    have R2 := World.rangeAt_setCells_same w1 w.heap.size 0 (stC true z) T1
    have b2 := belowW w.heap.size (Nat.le_refl _) (stC true z) 0 w1 bw1
    obtain ⟨w2, hw2⟩ : ∃ x, w1.setCells w.heap.size 0 (stC true z) = x := ⟨_, rfl⟩
    rw [hw2] at R2 b2
    simp only [Option.isSome_some]
    have HT1 := Lib.hid T1; clear T1
    have HW2 := Lib.hid hw2; clear hw2
    have HR2 := Lib.hid R2; clear R2
    clear hb1 hba bw1
    go_wp2_with (first | (refine wpList_load_mid rfl _ _ rfl b (off + i * 16) rfl (AidG.cells z) _ (HP.out) Tryz.underlying56 rfl (by kernel_rfl) ?_) | (refine wpList_store_mid rfl _ _ _ rfl w.heap.size 0 (List.toArray (stC true z)) rfl rfl HT1.out (by kernel_rfl) HOO.out ?_; rw [show w1.setCells w.heap.size 0 (List.toArray (stC true z)).toList = w2 from HW2.out]))
    exact bodyPost_ret (v := stV true z) (results_cell_mid Tryz.results27 _ w2 w.heap.size 0 (stC true z) _ rfl HR2.out Tryz.underlying58 rfl (by kernel_rfl)) rfl ⟨z, rfl, HS.out.symm, fun _ hb2 => hz9.next hb2, b2⟩
end Go.Proofs.YtpfnnjcochhklaaGreatDoor
