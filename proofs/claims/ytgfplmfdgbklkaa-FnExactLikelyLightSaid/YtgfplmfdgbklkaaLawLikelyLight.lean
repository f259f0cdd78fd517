/- The walk of the law FnExactLikelyLight. -/
import Derived.Test.YtgfplmfdgbklkaaLtCong
import Derived.Test.YtgfplmfdgbklkaaLtLikeW
namespace Go.Proofs.Ytgfplmfdgbklkaa
open Go.RowKit
theorem likeV_congr {zs zs' : List ChG} (h : zs.map ChG.x = zs'.map ChG.x) (o : List Ph) (tol : Int) : likeV zs o tol = likeV zs' o tol := by rw [likeV, likeV, ask_congr h, len_congr h, likeN_congr h]
theorem likeK_congr {zs zs' : List ChG} (h : zs.map ChG.x = zs'.map ChG.x) (o : List Ph) (tol : Int) : likeK zs o tol = likeK zs' o tol := by rw [likeK, likeK, ask_congr h, len_congr h, likeN_congr h]
set_option maxRecDepth 100000 in
set_option maxHeartbeats 2000000 in
theorem lawLikelyLight_c (A : Option Addr) (n c : Nat) (zs : List ChG) (Ao : Option Addr) (no co : Nat) (o : List Ph) (tol : Int) (w : World) (h : Sl w w.heap.size 5 A n (zs.flatMap ChG.cells)) (hm : n ≤ maxLen)
    (hg : ∀ z ∈ zs, Sl w w.heap.size 1 z.A z.n (z.x.gs.flatMap intC)) (hz : ∀ z ∈ zs, z.n ≤ maxLen ∧ z.x.l.size ≤ maxLen ∧ z.x.cs.size ≤ maxLen)
    (ho : Sl w w.heap.size 2 Ao no (o.flatMap Ph.cells)) (hmo : no ≤ maxLen) (hso : ∀ p ∈ o, p.c.size ≤ maxLen) :
    Calls Try.prog 9 #[.slice A n c, .slice Ao no co, .int .i64 tol] w fun e w' => e = .returned (.bool true) ∧ Below w.heap.size w w' := by
  have Hso := Lib.hid hso; clear hso
  have Hz := Lib.hid hz; clear hz
  go_enter Try.func9, Try.ntmps9
  go_wp2_with fail
  refine (szCharacterS_c A n c zs _ _ h hm Hz.out (by omega) (by omega)).mono ?_
  rintro e w1 ⟨r, rfl, hr, hb1⟩
  go_wp2_with fail
  · go_ret
    exact ⟨rfl, hb1⟩
  obtain ⟨hr0, hr1, hls⟩ : 0 ≤ r ∧ r + n + (sumN zs : Nat) ≤ 1048576 ∧ ∀ z ∈ zs, z.x.l.size ≤ 1048576 ∧ z.x.cs.size ≤ 1048576 := by
    rcases hr with hr | hr
    · omega
    · exact hr
  have hn : n ≤ 1048576 := by omega
  have hbz : ∀ z ∈ zs, z.n ≤ 1048576 ∧ z.x.l.size ≤ 1048576 ∧ z.x.cs.size ≤ 1048576 := fun z hz => ⟨by have := sumN_mem hz; omega, hls z hz⟩
  have hS : ChS w A n zs := ⟨h, fun z hz => ⟨hg z hz, (hbz z hz).1, (hbz z hz).2.1, (hbz z hz).2.2⟩⟩
  clear hr hls
  have Hbz := Lib.hid hbz; clear hbz
  refine (szPhaseS_c Ao no co o r _ (ho.next hb1) hmo Hso.out hr0 (by omega)).mono ?_
  rintro e w2 ⟨r2, rfl, hr2, hb2⟩
  have H2 := hb1.trans (hb2.mono hb1.size)
  go_wp2_with fail
  · go_ret
    exact ⟨rfl, H2⟩
  have hno : no ≤ 1048576 := by omega
  clear hr2
  refine (toCharacterS_c A n c zs _ (hS.next H2) hn).mono ?_
  rintro e w3 ⟨v3, zs3, rfl, hx3, ho3, hb3⟩
  obtain ⟨A3, c3, rfl⟩ := own_slice ho3.own
  have H3 := H2.trans (hb3.mono H2.size)
  have Hx3 := Lib.hid hx3; clear hx3
  go_wp2_with fail
  refine (toPhaseS_c Ao no co o _ (ho.next H3) hno).mono ?_
  rintro e w4 ⟨v4, rfl, hp4, hb4⟩
  obtain ⟨AP, cP, rfl⟩ := own_slice hp4
  have S4 := (ho3.next hb4).sl (size_congr Hx3.out Hbz.out)
  have H4 := H3.trans (hb4.mono H3.size)
  go_wp2_with fail
  refine (specLikely_c A3 n c3 zs3 AP no cP o tol _ S4 hn (Sl.of_own hp4) hno).mono ?_
  rintro e w5 ⟨rfl, hb5⟩
  rw [likeV_congr Hx3.out, likeK_congr Hx3.out]
  have H5 := H4.trans (hb5.mono H4.size)
  go_wp2_with fail
  refine (toCharacterS_c A n c zs _ (hS.next H5) hn).mono ?_
  rintro e w6 ⟨v6, zs6, rfl, hx6, ho6, hb6⟩
  obtain ⟨A6, c6, rfl⟩ := own_slice ho6.own
  have H6 := H5.trans (hb6.mono H5.size)
  have Hx6 := Lib.hid hx6; clear hx6
  go_wp2_with fail
  refine (toPhaseS_c Ao no co o _ (ho.next H6) hno).mono ?_
  rintro e w7 ⟨v7, rfl, hp7, hb7⟩
  obtain ⟨A7, c7, rfl⟩ := own_slice hp7
  have S7 := (ho6.next hb7).sl (size_congr Hx6.out Hbz.out)
  have H7 := H6.trans (hb7.mono H6.size)
  go_wp2_with fail
  refine (implLikely_c A6 n c6 zs6 A7 no c7 o tol _ S7 hn (Sl.of_own hp7) hno Hso.out).mono ?_
  rintro e w8 ⟨rfl, hb8⟩
  rw [likeV_congr Hx6.out, likeK_congr Hx6.out]
  have S8 := S7.next hb8
  have H8 := H7.trans (hb8.mono H7.size)
  replace hp7 := own_next hp7 hb8
  go_wp2_with fail
  refine (toCharacterS_c A n c zs _ (hS.next H8) hn).mono ?_
  rintro e w9 ⟨v9, zs9, rfl, hx9, ho9, hb9⟩
  obtain ⟨A9, c9, rfl⟩ := own_slice ho9.own
  have S9 := ho9.sl (size_congr hx9 Hbz.out)
  have H9 := H8.trans (hb9.mono H8.size)
  replace hp7 := own_next hp7 hb9
  have hxx : zs6.map ChG.x = zs9.map ChG.x := Hx6.out.trans hx9.symm
  have Hx9 := Lib.hid hx9; clear hx9
  have Hxx := Lib.hid hxx; clear hxx
  go_wp2_with fail
  refine (eqCharacterS_c A6 A9 n c6 c9 zs6 zs9 _ (S8.next hb9) S9 Hxx.out hn).mono ?_
  rintro e w10 ⟨rfl, hb10⟩
  have H10 := H9.trans (hb10.mono H9.size)
  replace hp7 := own_next hp7 hb10
  go_wp2_with fail
  refine (toPhaseS_c Ao no co o _ (ho.next H10) hno).mono ?_
  rintro e w11 ⟨v11, rfl, hp11, hb11⟩
  obtain ⟨A11, c11, rfl⟩ := own_slice hp11
  replace hp7 := own_next hp7 hb11
  have H11 := H10.trans (hb11.mono H10.size)
  go_wp2_with fail
  refine (eqPhaseS_c A7 A11 no c7 c11 o _ (Sl.of_own hp7) (Sl.of_own hp11) hmo).mono ?_
  rintro e w12 ⟨rfl, hb12⟩
  have H12 := H11.trans (hb12.mono H11.size)
  go_wp2_with fail
  go_ret
  exact ⟨rfl, H12⟩
end Go.Proofs.Ytgfplmfdgbklkaa
