/- The text of a character: the reference. -/
import Derived.Test.YtomjdkjkdmieaaaDoorChTx
import Derived.Test.YtomjdkjkdmieaaaDoorDecS
namespace Go.Proofs.YtomjdkjkdmieaaaDoor
open Go.RowKit
set_option maxRecDepth 100000 in
set_option maxHeartbeats 1000000 in
theorem l05Seconds_c (p : Int) (w : World) (h0 : 0 ≤ p) (h1 : p ≤ 600) : Calls Tryd.prog 29 #[.int .i64 p] w fun e w' => e = .returned (.string (secT p ++ ⟨#[115]⟩)) ∧ Below w.heap.size w w' := by
  have hD : ∀ (n : Int) (w1 : World), 0 ≤ n → n ≤ 600 → Below w.heap.size w w1 → Calls Tryd.prog 28 #[.int .i64 n] w1 fun e w' => e = .returned (.string (decB n)) ∧ Below w1.heap.size w1 w' := fun n w1 a c _ => l01Dec_c n w1 (by omega) (by omega)
  obtain ⟨q, hq⟩ : ∃ q, p.tdiv 10 = q := ⟨_, rfl⟩
  obtain ⟨r, hr⟩ : ∃ r, p.tmod 10 = r := ⟨_, rfl⟩
  have hqb : 0 ≤ q ∧ q ≤ 60 := by rw [← hq, Int.tdiv_eq_ediv_of_nonneg h0]; omega
  have hrb : 0 ≤ r ∧ r ≤ 9 := by rw [← hr, Int.tmod_eq_emod_of_nonneg h0]; omega
  have lq := decB_lenC q (by omega) (by omega)
  have lr := decB_lenC r (by omega) (by omega)
  have HD := Lib.hid hD; clear hD
  by_cases hr0 : r = 0
  · subst hr0
    have hv : secT p = decB q := by rw [secT, if_pos hr, hq]
    rw [hv]
    have q1 : ¬ 9223372036854775807 < (decB q).size + 1 := by omega
    have Hv := Lib.hid hv; clear hv
    go_enter Tryd.func29, Tryd.ntmps29
    go_wp2_with fail
    refine (HD.out _ _ (by omega) (by omega) (Below.refl _ _)).mono ?_
    rintro e w3 ⟨rfl, hb2⟩
    go_wp2_with fail
    go_ret
    exact ⟨rfl, hb2⟩
  · have hv : secT p = decB q ++ ⟨#[46]⟩ ++ decB r := by rw [secT, if_neg (by rw [hr]; exact hr0), hq, hr, bassoc]
    rw [hv]
    have q1 : ¬ 9223372036854775807 < (decB q).size + 1 := by omega
    have q2 : ¬ 9223372036854775807 < (decB q).size + 1 + (decB r).size := by omega
    have q3 : ¬ 9223372036854775807 < (decB q).size + 1 + (decB r).size + 1 := by omega
    have Hv := Lib.hid hv; clear hv
    go_enter Tryd.func29, Tryd.ntmps29
    go_wp2_with fail
    refine (HD.out _ _ (by omega) (by omega) (Below.refl _ _)).mono ?_
    rintro e w3 ⟨rfl, hb2⟩
    go_wp2_with fail
    refine (HD.out _ _ (by omega) (by omega) hb2).mono ?_
    rintro e w4 ⟨rfl, hb3⟩
    go_wp2_with fail
    go_ret
    exact ⟨rfl, hb2.trans (hb3.mono hb2.size)⟩
end Go.Proofs.YtomjdkjkdmieaaaDoor
