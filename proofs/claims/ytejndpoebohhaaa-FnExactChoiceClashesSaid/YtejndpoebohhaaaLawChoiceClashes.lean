/- The walk of the law FnExactChoiceClashes. -/
import Derived.Test.YtejndpoebohhaaaChC
namespace Go.Proofs.Ytejndpoebohhaaa
open Go.RowKit
theorem size_congrX {zs zs' : List ChG} (h : zs'.map ChG.x = zs.map ChG.x) (hb : ∀ z ∈ zs, z.n ≤ 1048576 ∧ z.x.l.size ≤ 1048576 ∧ z.x.cs.size ≤ 1048576) : ∀ z ∈ zs', z.n ≤ 1048576 ∧ z.x.l.size ≤ 1048576 ∧ z.x.cs.size ≤ 1048576 := by
  intro z hz
  have h1 : z.x ∈ zs.map ChG.x := by rw [← h]; exact List.mem_map_of_mem hz
  obtain ⟨y, hy, he⟩ := List.mem_map.1 h1
  have := hb y hy
  rw [ChG.n, he] at this
  exact this
theorem sumN_memX {zs : List ChG} {z : ChG} (h : z ∈ zs) : z.n ≤ sumN zs := by
  unfold sumN
  induction zs with
  | nil => cases h
  | cons a t ih =>
    rw [List.map_cons, List.sum_cons]
    rcases List.mem_cons.1 h with rfl | h2
    · omega
    · have := ih h2; omega
theorem sum_same {zs zs' : List ChG} (h : zs.map ChG.x = zs'.map ChG.x) : sumN zs = sumN zs' := by
  have e : ∀ l : List ChG, sumN l = ((l.map ChG.x).map fun x => x.gs.length).sum := fun l => by rw [List.map_map]; rfl
  rw [e, e, h]
theorem NN.sn' {w : World} {base c n : Nat} {A : Option Addr} {gs : List Nat} {xs : List (Int × Int)} (h : NN w base (.slice A n c) gs xs) (hn : gs.length = n) : SN w w.heap.size A gs xs := by
  subst hn
  exact h.sn
theorem SN.at {w w' : World} {A : Option Addr} {gs : List Nat} {xs : List (Int × Int)} {B : Nat} (h : SN w B A gs xs) (hb : Below B w w') (hB : B ≤ w.heap.size) : SN w' w'.heap.size A gs xs := (h.below hb).more (Nat.le_trans hB hb.size)
set_option maxRecDepth 100000 in
set_option maxHeartbeats 4000000 in
theorem lawChoiceClashes_c (A : Option Addr) (n c : Nat) (zs : List ChG) (tol : Int) (w : World) (h : Sl w w.heap.size 5 A n (zs.flatMap ChG.cells)) (hm : n ≤ maxLen)
    (hg : ∀ z ∈ zs, Sl w w.heap.size 1 z.A z.n (z.x.gs.flatMap intC)) (hz : ∀ z ∈ zs, z.n ≤ maxLen ∧ z.x.l.size ≤ maxLen ∧ z.x.cs.size ≤ maxLen) :
    Calls Try.prog 4 #[.slice A n c, .int .i64 tol] w fun e w' => e = .returned (.bool true) ∧ Below w.heap.size w w' := by
  have Hz := Lib.hid hz; clear hz
  go_enter Try.func4, Try.ntmps4
  go_wp2_with fail
  refine (szCharacterS_c A n c zs _ _ h hm Hz.out (by omega) (by omega)).mono ?_
  rintro e w1 ⟨r, rfl, hr, hb1⟩
  go_wp2_with fail
  · go_ret
    exact ⟨rfl, hb1⟩
  obtain ⟨hr0, hr1, hls⟩ : 0 ≤ r ∧ r + n + (sumN zs : Nat) ≤ 1048576 ∧ ∀ z ∈ zs, z.x.l.size ≤ 1048576 ∧ z.x.cs.size ≤ 1048576 := by
    rcases hr with hr | hr
    · omega
    · exact hr
  have hn : n ≤ 1048576 := by omega
  have hbz : ∀ z ∈ zs, z.n ≤ 1048576 ∧ z.x.l.size ≤ 1048576 ∧ z.x.cs.size ≤ 1048576 := fun z hz => ⟨by have := sumN_memX hz; omega, hls z hz⟩
  have hS : ChS w A n zs := ⟨h, fun z hz => ⟨hg z hz, (hbz z hz).1, (hbz z hz).2.1, (hbz z hz).2.2⟩⟩
  clear hr hls
  obtain ⟨xs, hxs⟩ : ∃ xs, zs.map ChG.x = xs := ⟨_, rfl⟩
  obtain ⟨L, hL⟩ : ∃ L, chcL xs tol = L := ⟨_, rfl⟩
  obtain ⟨K, hK⟩ : ∃ K, chcK xs tol = K := ⟨_, rfl⟩
  obtain ⟨m, hml⟩ : ∃ m, L.length = m := ⟨_, rfl⟩
  have hmm : m ≤ 144 := by rw [← hml, ← hL]; exact chcL_len _ _
  have hSp : ∀ w1 A1 c1 zs1, ChS w1 A1 n zs1 → zs1.map ChG.x = zs.map ChG.x → Calls Try.prog 13 #[.slice A1 n c1, .int .i64 tol] w1 fun e w' => ∃ A' c' gs, e = .returned (.tuple #[.slice A' m c', .int .i64 K]) ∧ gs.length = m ∧ NN w' w1.heap.size (.slice A' m c') gs L ∧ Below w1.heap.size w1 w' := fun w1 A1 c1 zs1 h1 hx => by
    refine (specChc_c A1 n c1 zs1 tol w1 h1 hn).mono ?_
    rintro e w' ⟨A', n', c', gs, he, hgl, hN, hb⟩
    rw [hx, hxs, hL] at hN
    rw [hx, hxs, hK] at he
    obtain rfl : n' = m := by rw [← hgl, ← hml]; exact hN.len.symm
    exact ⟨A', c', gs, he, hgl, hN, hb⟩
  have hIm : ∀ w1 A1 c1 zs1, ChS w1 A1 n zs1 → zs1.map ChG.x = zs.map ChG.x → Calls Try.prog 15 #[.slice A1 n c1, .int .i64 tol] w1 fun e w' => ∃ A' c' gs, e = .returned (.tuple #[.slice A' m c', .int .i64 K]) ∧ gs.length = m ∧ NN w' w1.heap.size (.slice A' m c') gs L ∧ Below w1.heap.size w1 w' := fun w1 A1 c1 zs1 h1 hx => by
    refine (implChc_c A1 n c1 zs1 tol w1 h1 hn).mono ?_
    rintro e w' ⟨A', n', c', gs, he, hgl, hN, hb⟩
    rw [hx, hxs, hL] at hN
    rw [hx, hxs, hK] at he
    obtain rfl : n' = m := by rw [← hgl, ← hml]; exact hN.len.symm
    exact ⟨A', c', gs, he, hgl, hN, hb⟩
  have hCp : ∀ w1, Below w.heap.size w w1 → Calls Try.prog 14 #[.slice A n c] w1 fun e w' => ∃ A' c' zs', e = .returned (.slice A' n c') ∧ Hid (zs'.map ChG.x = zs.map ChG.x) ∧ ChOwn w' w1.heap.size (.slice A' n c') n zs' ∧ Hid (∀ z ∈ zs', z.n ≤ 1048576 ∧ z.x.l.size ≤ 1048576 ∧ z.x.cs.size ≤ 1048576) ∧ Below w1.heap.size w1 w' := fun w1 hb => by
    refine (toCharacterS_c A n c zs w1 (hS.next hb) hn).mono ?_
    rintro e w' ⟨v', zs', he, hx, ho, hb'⟩
    obtain ⟨A', c', rfl⟩ := own_slice ho.own
    exact ⟨A', c', zs', he, Lib.hid hx, ho, Lib.hid (size_congrX hx hbz), hb'⟩
  clear hxs hL hK hS
  have Hbz := Lib.hid hbz; clear hbz
  have Hml := Lib.hid hml; clear hml
  have HSp := Lib.hid hSp; clear hSp
  have HIm := Lib.hid hIm; clear hIm
  have HCp := Lib.hid hCp; clear hCp
  refine (HCp.out _ hb1).mono ?_
  rintro e w2 ⟨A2, c2, zs2, rfl, Hx2, ho2, Hz2, hb2⟩
  have H2 := hb1.trans (hb2.mono hb1.size)
  have S2 := ho2.sl Hz2.out
  clear ho2
  go_wp2_with fail
  refine (HSp.out _ A2 c2 zs2 S2 Hx2.out).mono ?_
  rintro e w5 ⟨AW, cW, gsW, rfl, HgW, hNW, hb5⟩
  have H5 := H2.trans (hb5.mono H2.size)
  have hW := hNW.sn' HgW
  clear S2 Hx2 Hz2 hb2 hb5 H2 hNW hb1
  have HW := Lib.hid hW; clear hW
  go_wp2_with fail
  refine (HCp.out _ H5).mono ?_
  rintro e w6 ⟨A6, c6, zs6, rfl, Hx6, ho6, Hz6, hb6⟩
  have hAlt : ∀ k, (Value.slice A6 n c6).ownBlock = some k → k < w6.heap.size := fun k hk => (ho6.own.lt k hk).2
  have hGlt : ∀ z ∈ zs6, ∀ k, (Value.slice z.A z.n z.c).ownBlock = some k → k < w6.heap.size := fun z hz k hk => ((ho6.grp z hz).lt k hk).2
  have H6 := H5.trans (hb6.mono H5.size)
  have D6 := hb6
  have S6 := ho6.sl Hz6.out
  have HGlt := Lib.hid hGlt; clear hGlt
  have HAlt := Lib.hid hAlt; clear hAlt
  go_wp2_with fail
  refine (HIm.out _ A6 c6 zs6 S6 Hx6.out).mono ?_
  rintro e w8 ⟨AG, cG, gsG, rfl, HgG, hNG, hb8⟩
  have H8 := H6.trans (hb8.mono H6.size)
  have D8 := D6.trans (hb8.mono D6.size)
  replace ho6 := ho6.next hb8
  replace S6 := S6.next hb8
  have HNG := Lib.hid hNG; clear hNG
  have HgG' := Lib.hid HgG; clear HgG
  go_wp2_with fail
  refine (eqInt64SS_c AG AW cG cW m gsG gsW L _ (HNG.out.sn' HgG'.out) (HW.out.at D8 (Nat.le_refl _)) Hml.out (by omega)).mono ?_
  rintro e w9 ⟨rfl, hb9⟩
  have H9 := H8.trans (hb9.mono H8.size)
  have D9 := D8.trans (hb9.mono D8.size)
  have HNG := Lib.hid (HNG.out.next hb9)
  replace ho6 := ho6.next hb9
  replace S6 := S6.next hb9
  go_wp2_with fail
  refine (HCp.out _ H9).mono ?_
  rintro e w10 ⟨A10, c10, zs10, rfl, Hx10, ho10, Hz10, hb10⟩
  have S10 := ho10.sl Hz10.out
  have H10 := H9.trans (hb10.mono H9.size)
  have D10 := D9.trans (hb10.mono D9.size)
  have HNG := Lib.hid (HNG.out.next hb10)
  replace ho6 := ho6.next hb10
  replace S6 := S6.next hb10
  go_wp2_with fail
  refine (eqCharacterS_c A6 A10 n c6 c10 zs6 zs10 _ S6 S10 (Hx6.out.trans Hx10.out.symm) hn).mono ?_
  rintro e w11 ⟨rfl, hb11⟩
  have H11 := H10.trans (hb11.mono H10.size)
  have D11 := D10.trans (hb11.mono D10.size)
  have HNG := Lib.hid (HNG.out.next hb11)
  replace ho6 := ho6.next hb11
  have hz6 : ∀ z ∈ zs6, z.n ≤ 1048576 := fun z hz => (Hz6.out z hz).1
  have hs6 := sum_same Hx6.out
  have H5s := H5.size
  have D6s := D6.size
  have D11s := D11.size
  have H11s := H11.size
  have y611 : w6.heap.size ≤ w11.heap.size := Nat.le_trans hb8.size (Nat.le_trans hb9.size (Nat.le_trans hb10.size hb11.size))
  clear S6 S10 ho10 Hz10 Hx10 hb8 hb9 hb10 hb11 H6 H8 H9 H10 D8 D9 D10
  have Hz6' := Lib.hid hz6; clear hz6
  go_wp2_with fail
  refine (markCharacterS_c A6 n c6 zs6 1 _ w6.heap.size _ ho6 hn Hz6'.out HAlt.out HGlt.out (by omega) (by omega)).mono ?_
  rintro e w14 ⟨rfl, hr14⟩
  have H14 := below_rng H11 hr14 H5s H11s
  have D14 := below_rng D11 hr14 (Nat.le_refl _) D11s
  have HNG := Lib.hid (HNG.out.rng hr14 (Nat.le_refl _))
  have y614 := Nat.le_trans y611 hr14.size
  clear ho6 hr14 D11 H11 D11s H11s hb6
  obtain ⟨K1, hK1⟩ : ∃ K1, 1 + 4 * n + sumN zs6 = K1 := ⟨_, rfl⟩
  rw [hK1]
  have hneg : ¬ ((K1 : Int) < 0) := by omega
  clear hK1
  go_wp2_with fail
  refine (eqInt64SS_c AG AW cG cW m gsG gsW L _ (HNG.out.sn' HgG'.out) (HW.out.at D14 (Nat.le_refl _)) Hml.out (by omega)).mono ?_
  rintro e w16 ⟨rfl, hb16⟩
  have H16 := H14.trans (hb16.mono H14.size)
  have D16 := D14.trans (hb16.mono D14.size)
  have HNG := Lib.hid (HNG.out.next hb16)
  have H16s := H16.size
  have y616 := Nat.le_trans y614 hb16.size
  have D16s := D16.size
  clear hb16 H14 D14
  go_wp2_with fail
  refine (markInt64SS_c AG cG m 1 w6.heap.size gsG L _ HNG.out HgG'.out (by omega) (by omega) (by omega)).mono ?_
  rintro e w17 ⟨rfl, hb17, ys, hNY, hys⟩
  have H17 := H16.trans (hb17.mono (Nat.le_trans H5s D6s))
  have D17 := D16.trans (hb17.mono D6s)
  have HNY := Lib.hid hNY; clear hNY
  have Hys := Lib.hid hys; clear hys
  clear hb17 H16 D16 H16s D16s
  go_wp2_with fail
  refine (heldInt64SS_c AG cG m 1 gsG ys _ (HNY.out.sn' HgG'.out) HgG'.out (by omega) (by omega) Hys.out).mono ?_
  rintro e w18 ⟨rfl, rfl⟩
  have hneg2 : ¬ (((1 + 2 * m : Nat) : Int) < 0) := by omega
  go_wp2_with fail
  refine (HCp.out _ H17).mono ?_
  rintro e w19 ⟨A19, c19, zs19, rfl, Hx19, ho19, Hz19, hb19⟩
  have S19 := ho19.sl Hz19.out
  have H19 := H17.trans (hb19.mono H17.size)
  have D19 := D17.trans (hb19.mono D17.size)
  have HNY := Lib.hid (HNY.out.next hb19)
  clear ho19
  go_wp2_with fail
  refine (HIm.out _ A19 c19 zs19 S19 Hx19.out).mono ?_
  rintro e w21 ⟨AH, cH, gsH, rfl, HgH, hNH, hb21⟩
  have H21 := H19.trans (hb21.mono H19.size)
  have D21 := D19.trans (hb21.mono D19.size)
  have HNY := Lib.hid (HNY.out.next hb21)
  have HNH := Lib.hid hNH; clear hNH
  have HgH' := Lib.hid HgH; clear HgH
  clear S19 hb19 hb21 H19 D19 H17 D17
  go_wp2_with fail
  refine (eqInt64SS_c AH AW cH cW m gsH gsW L _ (HNH.out.sn' HgH'.out) (HW.out.at D21 (Nat.le_refl _)) Hml.out (by omega)).mono ?_
  rintro e w22 ⟨rfl, hb22⟩
  have H22 := H21.trans (hb22.mono H21.size)
  have HNY := Lib.hid (HNY.out.next hb22)
  go_wp2_with fail
  refine (heldInt64SS_c AG cG m 1 gsG ys _ (HNY.out.sn' HgG'.out) HgG'.out (by omega) (by omega) Hys.out).mono ?_
  rintro e w23 ⟨rfl, rfl⟩
  go_wp2_with fail
  go_ret
  exact ⟨rfl, H22⟩
end Go.Proofs.Ytejndpoebohhaaa
