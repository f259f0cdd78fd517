/- The walk of the law FnExactPhasesNeeded. -/
import Derived.Test.YtgfplmfdgbklkaaLtCong
import Derived.Test.YtgfplmfdgbklkaaLtNeedW
namespace Go.Proofs.Ytgfplmfdgbklkaa
open Go.RowKit
theorem need_congr {zs zs' : List ChG} (h : zs.map ChG.x = zs'.map ChG.x) (x : Ch) (tol : Int) : needI zs x tol = needI zs' x tol := by
  have : needB zs x tol = needB zs' x tol := by funext j; rw [needB, needB, hits_congr h]
  rw [needI, needI, this]
theorem pnC_congr {zs zs' : List ChG} (h : zs.map ChG.x = zs'.map ChG.x) (k tol : Int) : pnC zs k tol = pnC zs' k tol := by rw [pnC, pnC, lights_congr h, len_congr h]
theorem pnI_congr {zs zs' : List ChG} (h : zs.map ChG.x = zs'.map ChG.x) (k tol : Int) : pnI zs k tol = pnI zs' k tol := by
  have hh : zs[k.toNat]?.map ChG.x = zs'[k.toNat]?.map ChG.x := by rw [← List.getElem?_map, ← List.getElem?_map, h]
  unfold pnI
  cases h1 : zs[k.toNat]? <;> cases h2 : zs'[k.toNat]? <;> simp_all [need_congr h]
theorem pnV_congr {zs zs' : List ChG} (h : zs.map ChG.x = zs'.map ChG.x) (k tol : Int) : pnV zs k tol = pnV zs' k tol := by rw [pnV, pnV, pnC_congr h, pnI_congr h]
theorem pnK_congr {zs zs' : List ChG} (h : zs.map ChG.x = zs'.map ChG.x) (k tol : Int) : pnK zs k tol = pnK zs' k tol := by rw [pnK, pnK, pnC_congr h, pnI_congr h]
set_option maxRecDepth 100000 in
set_option maxHeartbeats 2000000 in
theorem lawPhasesNeeded_c (A : Option Addr) (n c : Nat) (zs : List ChG) (k tol : Int) (w : World) (h : Sl w w.heap.size 5 A n (zs.flatMap ChG.cells)) (hm : n ≤ maxLen)
    (hg : ∀ z ∈ zs, Sl w w.heap.size 1 z.A z.n (z.x.gs.flatMap intC)) (hz : ∀ z ∈ zs, z.n ≤ maxLen ∧ z.x.l.size ≤ maxLen ∧ z.x.cs.size ≤ maxLen) :
    Calls Try.prog 5 #[.slice A n c, .int .i64 k, .int .i64 tol] w fun e w' => e = .returned (.bool true) ∧ Below w.heap.size w w' := by
  have Hz := Lib.hid hz; clear hz
  go_enter Try.func5, Try.ntmps5
  go_wp2_with fail
  refine (szCharacterS_c A n c zs _ _ h hm Hz.out (by omega) (by omega)).mono ?_
  rintro e w1 ⟨r, rfl, hr, hb1⟩
  go_wp2_with fail
  · go_ret
    exact ⟨rfl, hb1⟩
  obtain ⟨hr0, hr1, hls⟩ : 0 ≤ r ∧ r + n + (sumN zs : Nat) ≤ 1048576 ∧ ∀ z ∈ zs, z.x.l.size ≤ 1048576 ∧ z.x.cs.size ≤ 1048576 := by
    rcases hr with hr | hr
    · omega
    · exact hr
  have hn : n ≤ 1048576 := by omega
  have hbz : ∀ z ∈ zs, z.n ≤ 1048576 ∧ z.x.l.size ≤ 1048576 ∧ z.x.cs.size ≤ 1048576 := fun z hz => ⟨by have := sumN_mem hz; omega, hls z hz⟩
  have hS : ChS w A n zs := ⟨h, fun z hz => ⟨hg z hz, (hbz z hz).1, (hbz z hz).2.1, (hbz z hz).2.2⟩⟩
  clear hr hls
  have Hbz := Lib.hid hbz; clear hbz
  refine (toCharacterS_c A n c zs _ (hS.next hb1) hn).mono ?_
  rintro e w3 ⟨v3, zs3, rfl, hx3, ho3, hb3⟩
  obtain ⟨A3, c3, rfl⟩ := own_slice ho3.own
  have S3 := ho3.sl (size_congr hx3 Hbz.out)
  have H3 := hb1.trans (hb3.mono hb1.size)
  have Hx3 := Lib.hid hx3; clear hx3
  go_wp2_with fail
  refine (specNeed_c A3 n c3 zs3 k tol _ S3 hn).mono ?_
  rintro e w5 ⟨rfl, hb5⟩
  rw [pnV_congr Hx3.out, pnK_congr Hx3.out]
  have H5 := H3.trans (hb5.mono H3.size)
  go_wp2_with fail
  refine (toCharacterS_c A n c zs _ (hS.next H5) hn).mono ?_
  rintro e w6 ⟨v6, zs6, rfl, hx6, ho6, hb6⟩
  obtain ⟨A6, c6, rfl⟩ := own_slice ho6.own
  have S6 := ho6.sl (size_congr hx6 Hbz.out)
  have H6 := H5.trans (hb6.mono H5.size)
  have Hx6 := Lib.hid hx6; clear hx6
  go_wp2_with fail
  refine (implNeed_c A6 n c6 zs6 k tol _ S6 hn).mono ?_
  rintro e w8 ⟨rfl, hb8⟩
  rw [pnV_congr Hx6.out, pnK_congr Hx6.out]
  have S8 := S6.next hb8
  have H8 := H6.trans (hb8.mono H6.size)
  go_wp2_with fail
  refine (toCharacterS_c A n c zs _ (hS.next H8) hn).mono ?_
  rintro e w9 ⟨v9, zs9, rfl, hx9, ho9, hb9⟩
  obtain ⟨A9, c9, rfl⟩ := own_slice ho9.own
  have S9 := ho9.sl (size_congr hx9 Hbz.out)
  have H9 := H8.trans (hb9.mono H8.size)
  have hxx : zs6.map ChG.x = zs9.map ChG.x := Hx6.out.trans hx9.symm
  have Hx9 := Lib.hid hx9; clear hx9
  have Hxx := Lib.hid hxx; clear hxx
  go_wp2_with fail
  refine (eqCharacterS_c A6 A9 n c6 c9 zs6 zs9 _ (S8.next hb9) S9 Hxx.out hn).mono ?_
  rintro e w10 ⟨rfl, hb10⟩
  have H10 := H9.trans (hb10.mono H9.size)
  go_wp2_with fail
  go_ret
  exact ⟨rfl, H10⟩
end Go.Proofs.Ytgfplmfdgbklkaa
