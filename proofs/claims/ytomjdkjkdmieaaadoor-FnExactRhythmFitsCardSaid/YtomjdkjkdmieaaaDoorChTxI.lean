/- The text of a character: the program. -/
import Derived.Test.YtomjdkjkdmieaaaDoorChTx
import Derived.Test.YtomjdkjkdmieaaaDoorApp
import Derived.Test.YtomjdkjkdmieaaaDoorStr
namespace Go.Proofs.YtomjdkjkdmieaaaDoor
open Go.RowKit
set_option maxHeartbeats 400000 in
theorem atT_c (i n : Int) (w : World) : Calls Tryd.prog 68 #[.int .i64 i, .int .i64 n] w fun e w' => e = .returned (.bool (decide (0 ≤ i) && decide (i < n))) ∧ w = w' := by
  by_cases h : 0 ≤ i
  all_goals
    go_enter Tryd.func68, Tryd.ntmps68
    go_wp2
    go_ret
    exact ⟨ret_eq (bool_eq (by have := h; rw [Bool.eq_iff_iff]; simp <;> omega)), rfl⟩
set_option maxRecDepth 100000 in
set_option maxHeartbeats 400000 in
theorem pickT_c (i : Int) (A : Option Addr) (n c : Nat) (xs : List ByteArray) (w : World) (h : Sl w w.heap.size 1 A n (xs.flatMap strC)) (h0 : 0 ≤ i) (h1 : i < n) :
    Calls Tryd.prog 54 #[.int .i64 i, .slice A n c] w fun e w' => e = .returned (.string (xs.getD i.toNat ⟨#[]⟩)) ∧ w = w' := by
  obtain ⟨k, rfl⟩ : ∃ k : Nat, i = k := ⟨i.toNat, by omega⟩
  obtain ⟨b, off, s, rfl, hb, hx, c1⟩ := h.str k (by omega)
  have hg : xs.getD ((k : Int).toNat) ⟨#[]⟩ = s := by rw [Int.toNat_natCast, List.getD_eq_getElem?_getD, hx]; rfl
  rw [hg]
  have Hx := Lib.hid hx; clear hx
  have Hg := Lib.hid hg; clear hg
  go_enter Tryd.func54, Tryd.ntmps54
  go_wp2_with (go_at_call 68; refine (atT_c _ _ _).mono ?_; rintro e w1 ⟨rfl, rfl⟩)
  go_ret
  exact ⟨rfl, rfl⟩
theorem slT_lit (w : World) (L : List (List UInt8)) (m : Nat) (hm : L.length = m) : Sl (w.alloc (.cells ((L.map kbs).flatMap strC).toArray 9)) (w.heap.size + 1) 1 (some ⟨w.heap.size, 0, none⟩) m ((L.map kbs).flatMap strC) :=
  Sl.new w 9 _ m 1 (by rw [flat_len strC 1 strC_len, List.length_map, hm])
set_option maxRecDepth 100000 in
set_option maxHeartbeats 1000000 in
theorem kindText_c (k : Int) (w : World) (h0 : 0 ≤ k) (h1 : k ≤ 8) : Calls Tryd.prog 35 #[.int .i64 k] w fun e w' => e = .returned (.string (kindT k)) ∧ Below w.heap.size w w' := by
  have hs := slT_lit w kindL 9 rfl
  have hb0 : Below w.heap.size w (w.alloc (.cells ((kindL.map kbs).flatMap strC).toArray 9)) := by (repeat (first | (with_reducible assumption) | (with_reducible exact Below.refl _ _) | exact Nat.le_refl _ | exact Below.size (by with_reducible assumption) | (with_reducible refine Below.drew ?_) | (with_reducible refine below_drewN ?_ _) | (with_reducible refine Below.alloc ?_ ?_ _) | (with_reducible refine Below.setCell ?_ ?_ _) | (with_reducible refine le_alloc ?_ _) | (with_reducible refine le_set ?_ _ _) | (with_reducible refine le_drew ?_) | (with_reducible refine le_drewN ?_ _) | omega | (dsimp only; omega)))
  have hv : (kindL.map kbs).getD k.toNat ⟨#[]⟩ = kindT k := rfl
  have Hv := Lib.hid hv; clear hv
  go_enter Tryd.func35, Tryd.ntmps35
  go_wp2_with fail
  refine (pickT_c k _ 9 9 (kindL.map kbs) _ (hs.more (by simp)) (by omega) (by omega)).mono ?_
  rw [Hv.out]
  rintro e w1 ⟨rfl, rfl⟩
  go_wp2_with fail
  go_ret
  exact ⟨rfl, hb0⟩
set_option maxRecDepth 100000 in
set_option maxHeartbeats 1000000 in
theorem secondsText_c (p : Int) (w : World) (h0 : 0 ≤ p) (h1 : p ≤ 600) (ht : Tab10 w) : Calls Tryd.prog 18 #[.int .i64 p] w fun e w' => e = .returned (.string (secT p)) ∧ Below w.heap.size w w' := by
  have hD : ∀ (n : Int) (w1 : World), 0 ≤ n → n ≤ 600 → Below w.heap.size w w1 → Calls Tryd.prog 36 #[.int .i64 n] w1 fun e w' => e = .returned (.string (decB n)) ∧ Below w1.heap.size w1 w' := fun n w1 a c hb => decimal_c n w1 (by omega) (by omega) (ht.next hb)
  obtain ⟨q, hq⟩ : ∃ q, p.tdiv 10 = q := ⟨_, rfl⟩
  obtain ⟨r, hr⟩ : ∃ r, p.tmod 10 = r := ⟨_, rfl⟩
  have hqb : 0 ≤ q ∧ q ≤ 60 := by rw [← hq, Int.tdiv_eq_ediv_of_nonneg h0]; omega
  have hrb : 0 ≤ r ∧ r ≤ 9 := by rw [← hr, Int.tmod_eq_emod_of_nonneg h0]; omega
  have lq := decB_lenC q (by omega) (by omega)
  have lr := decB_lenC r (by omega) (by omega)
  have HD := Lib.hid hD; clear hD
  clear ht
  by_cases hr0 : r = 0
  · subst hr0
    have hv : secT p = decB q := by rw [secT, if_pos hr, hq]
    rw [hv]
    have Hv := Lib.hid hv; clear hv
    go_enter Tryd.func18, Tryd.ntmps18
    go_wp2_with fail
    refine (HD.out _ _ (by omega) (by omega) (Below.refl _ _)).mono ?_
    rintro e w3 ⟨rfl, hb2⟩
    go_wp2_with fail
    go_ret
    exact ⟨rfl, hb2⟩
  · have hv : secT p = decB q ++ ⟨#[46]⟩ ++ decB r := by rw [secT, if_neg (by rw [hr]; exact hr0), hq, hr, bassoc]
    rw [hv]
    have q1 : ¬ 9223372036854775807 < (decB q).size + 1 := by omega
    have q2 : ¬ 9223372036854775807 < (decB q).size + 1 + (decB r).size := by omega
    have Hv := Lib.hid hv; clear hv
    go_enter Tryd.func18, Tryd.ntmps18
    go_wp2_with fail
    refine (HD.out _ _ (by omega) (by omega) (Below.refl _ _)).mono ?_
    rintro e w3 ⟨rfl, hb2⟩
    go_wp2_with fail
    refine (HD.out _ _ (by omega) (by omega) hb2).mono ?_
    rintro e w4 ⟨rfl, hb3⟩
    go_wp2_with fail
    go_ret
    exact ⟨rfl, hb2.trans (hb3.mono hb2.size)⟩
end Go.Proofs.YtomjdkjkdmieaaaDoor
