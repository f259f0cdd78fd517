/- The walk of the law FnExactIdentifyLight. -/
import Derived.Test.YtgfplmfdgbklkaaLtCong
import Derived.Test.YtgfplmfdgbklkaaLtMark
namespace Go.Proofs.Ytgfplmfdgbklkaa
open Go.RowKit
def idL (zs : List ChG) (o : List Ph) (tol : Int) : List Nat := if askI zs o tol = 0 then hitsL zs o tol else []
theorem idL_len (zs : List ChG) (o : List Ph) (tol : Int) : (idL zs o tol).length ≤ zs.length := by
  unfold idL
  split
  · exact hits_len _ _ _ _
  · simp
theorem id_congr {zs zs' : List ChG} (h : zs.map ChG.x = zs'.map ChG.x) (o : List Ph) (tol : Int) : idL zs o tol = idL zs' o tol := by rw [idL, idL, ask_congr h, hits_congr h]
theorem IdAns.own {w : World} {base : Nat} {v : Value} {zs : List ChG} {o : List Ph} {tol : Int} (h : IdAns w base v zs o tol) : w.ownsRow base 2 1 v (idL zs o tol).length (((idL zs o tol).map fun (i : Nat) => (i : Int)).flatMap intC) := by
  rcases h with ⟨h1, rfl⟩ | ⟨h1, h2⟩
  · rw [idL, if_neg h1]
    exact ⟨rfl, .inl ⟨rfl, rfl⟩⟩
  · rw [idL, if_pos h1]; exact h2
theorem sum_congr {zs zs' : List ChG} (h : zs.map ChG.x = zs'.map ChG.x) : sumN zs = sumN zs' := by
  have e : ∀ l : List ChG, sumN l = ((l.map ChG.x).map fun x => x.gs.length).sum := fun l => by rw [List.map_map]; rfl
  rw [e, e, h]
set_option maxRecDepth 100000 in
set_option maxHeartbeats 2000000 in
theorem lawIdentifyLight_c (A : Option Addr) (n c : Nat) (zs : List ChG) (Ao : Option Addr) (no co : Nat) (o : List Ph) (tol : Int) (w : World) (h : Sl w w.heap.size 5 A n (zs.flatMap ChG.cells)) (hm : n ≤ maxLen)
    (hg : ∀ z ∈ zs, Sl w w.heap.size 1 z.A z.n (z.x.gs.flatMap intC)) (hz : ∀ z ∈ zs, z.n ≤ maxLen ∧ z.x.l.size ≤ maxLen ∧ z.x.cs.size ≤ maxLen)
    (ho : Sl w w.heap.size 2 Ao no (o.flatMap Ph.cells)) (hmo : no ≤ maxLen) (hso : ∀ p ∈ o, p.c.size ≤ maxLen) :
    Calls Try.prog 8 #[.slice A n c, .slice Ao no co, .int .i64 tol] w fun e w' => e = .returned (.bool true) ∧ Below w.heap.size w w' := by
  have hL := h.len ChG.cells 5 ChG.cells_len (by omega)
  have HL := Lib.hid hL; clear hL
  have Hso := Lib.hid hso; clear hso
  have Hz := Lib.hid hz; clear hz
  go_enter Try.func8, Try.ntmps8
  go_wp2_with fail
  refine (szCharacterS_c A n c zs _ _ h hm Hz.out (by omega) (by omega)).mono ?_
  rintro e w1 ⟨r, rfl, hr, hb1⟩
  go_wp2_with fail
  · go_ret
    exact ⟨rfl, hb1⟩
  obtain ⟨hr0, hr1, hls⟩ : 0 ≤ r ∧ r + n + (sumN zs : Nat) ≤ 1048576 ∧ ∀ z ∈ zs, z.x.l.size ≤ 1048576 ∧ z.x.cs.size ≤ 1048576 := by
    rcases hr with hr | hr
    · omega
    · exact hr
  have hn : n ≤ 1048576 := by omega
  have hbz : ∀ z ∈ zs, z.n ≤ 1048576 ∧ z.x.l.size ≤ 1048576 ∧ z.x.cs.size ≤ 1048576 := fun z hz => ⟨by have := sumN_mem hz; omega, hls z hz⟩
  have hS : ChS w A n zs := ⟨h, fun z hz => ⟨hg z hz, (hbz z hz).1, (hbz z hz).2.1, (hbz z hz).2.2⟩⟩
  clear hr hls
  have Hbz := Lib.hid hbz; clear hbz
  refine (szPhaseS_c Ao no co o r _ (ho.next hb1) hmo Hso.out hr0 (by omega)).mono ?_
  rintro e w2 ⟨r2, rfl, hr2, hb2⟩
  have H2 := hb1.trans (hb2.mono hb1.size)
  go_wp2_with fail
  · go_ret
    exact ⟨rfl, H2⟩
  have hno : no ≤ 1048576 := by omega
  clear hr2
  refine (toCharacterS_c A n c zs _ (hS.next H2) hn).mono ?_
  rintro e w3 ⟨v3, zs3, rfl, hx3, ho3, hb3⟩
  obtain ⟨A3, c3, rfl⟩ := own_slice ho3.own
  have H3 := H2.trans (hb3.mono H2.size)
  have Hx3 := Lib.hid hx3; clear hx3
  go_wp2_with fail
  refine (toPhaseS_c Ao no co o _ (ho.next H3) hno).mono ?_
  rintro e w4 ⟨v4, rfl, hp4, hb4⟩
  obtain ⟨AP, cP, rfl⟩ := own_slice hp4
  have S4 := (ho3.next hb4).sl (size_congr Hx3.out Hbz.out)
  have H4 := H3.trans (hb4.mono H3.size)
  go_wp2_with fail
  refine (specIdent_c A3 n c3 zs3 AP no cP o tol _ S4 hn (Sl.of_own hp4) hno).mono ?_
  rintro e w5 ⟨vW, rfl, hiW, hb5⟩
  have hoW := hiW.own
  rw [ask_congr Hx3.out, id_congr Hx3.out] at *
  have hRl := idL_len zs o tol
  rw [HL.out] at hRl
  obtain ⟨R, hR⟩ : ∃ R, idL zs o tol = R := ⟨_, rfl⟩
  rw [hR] at hoW hRl
  obtain ⟨code, hcode⟩ : ∃ code, askI zs o tol = code := ⟨_, rfl⟩
  rw [hcode]
  obtain ⟨m, hm2⟩ : ∃ m, R.length = m := ⟨_, rfl⟩
  rw [hm2] at hoW hRl
  have hmm : m ≤ maxLen := by unfold maxLen; omega
  have Hmm := Lib.hid hmm; clear hmm
  have Hm2 := Lib.hid hm2; clear hm2
  have HR := Lib.hid hR; clear hR
  have Hcode := Lib.hid hcode; clear hcode
  obtain ⟨AW, cW, rfl⟩ := own_slice hoW
  clear hiW hp4 S4 ho3
  have H5 := H4.trans (hb5.mono H4.size)
  have z5 : w5.heap.size ≤ w5.heap.size := Nat.le_refl _
  have hWlt : ∀ k, (Value.slice AW m cW).ownBlock = some k → k < w5.heap.size := fun k hk => (hoW.lt k hk).2
  go_wp2_with fail
  refine (toCharacterS_c A n c zs _ (hS.next H5) hn).mono ?_
  rintro e w6 ⟨v6, zs6, rfl, hx6, ho6, hb6⟩
  obtain ⟨A6, c6, rfl⟩ := own_slice ho6.own
  have hAlt : ∀ k, (Value.slice A6 n c6).ownBlock = some k → k < w6.heap.size := fun k hk => (ho6.own.lt k hk).2
  have hGlt : ∀ z ∈ zs6, ∀ k, (Value.slice z.A z.n z.c).ownBlock = some k → k < w6.heap.size := fun z hz k hk => ((ho6.grp z hz).lt k hk).2
  have HGlt := Lib.hid hGlt; clear hGlt
  have HAlt := Lib.hid hAlt; clear hAlt
  have H6 := H5.trans (hb6.mono H5.size)
  have y6 := hb6.size
  have Hx6 := Lib.hid hx6; clear hx6
  replace hoW := own_next hoW hb6
  go_wp2_with fail
  refine (toPhaseS_c Ao no co o _ (ho.next H6) hno).mono ?_
  rintro e w7 ⟨v7, rfl, hp7, hb7⟩
  obtain ⟨A7, c7, rfl⟩ := own_slice hp7
  replace ho6 := ho6.next hb7
  have hPlt : ∀ k, (Value.slice A7 no c7).ownBlock = some k → k < w7.heap.size := fun k hk => (hp7.lt k hk).2
  have S7 := ho6.sl (size_congr Hx6.out Hbz.out)
  have H7 := H6.trans (hb7.mono H6.size)
  have y7 := hb7.size
  replace hoW := own_next hoW hb7
  go_wp2_with fail
  refine (implIdent_c A6 n c6 zs6 A7 no c7 o tol _ S7 hn (Sl.of_own hp7) hno Hso.out).mono ?_
  rintro e w8 ⟨vG, rfl, hiG, hb8⟩
  have hoG := hiG.own
  rw [id_congr Hx6.out, HR.out, Hm2.out] at hoG
  rw [ask_congr Hx6.out, Hcode.out]
  obtain ⟨AG, cG, rfl⟩ := own_slice hoG
  clear hiG
  replace S7 := S7.next hb8
  replace ho6 := ho6.next hb8
  have H8 := H7.trans (hb8.mono H7.size)
  replace hp7 := own_next hp7 hb8
  replace hoW := own_next hoW hb8
  go_wp2_with fail
  refine (eqInt64S_c AG AW m cG cW (R.map fun (i : Nat) => (i : Int)) _ (Sl.of_own hoG) (Sl.of_own hoW) Hmm.out).mono ?_
  rintro e w9 ⟨rfl, hb9⟩
  replace S7 := S7.next hb9
  replace ho6 := ho6.next hb9
  have H9 := H8.trans (hb9.mono H8.size)
  replace hp7 := own_next hp7 hb9
  replace hoW := own_next hoW hb9
  replace hoG := own_next hoG hb9
  go_wp2_with fail
  refine (toCharacterS_c A n c zs _ (hS.next H9) hn).mono ?_
  rintro e w10 ⟨v10, zs10, rfl, hx10, ho10, hb10⟩
  obtain ⟨A10, c10, rfl⟩ := own_slice ho10.own
  have S10 := ho10.sl (size_congr hx10 Hbz.out)
  replace S7 := S7.next hb10
  replace ho6 := ho6.next hb10
  have H10 := H9.trans (hb10.mono H9.size)
  replace hp7 := own_next hp7 hb10
  replace hoW := own_next hoW hb10
  replace hoG := own_next hoG hb10
  have hxx : zs6.map ChG.x = zs10.map ChG.x := Hx6.out.trans hx10.symm
  have Hx10 := Lib.hid hx10; clear hx10
  have Hxx := Lib.hid hxx; clear hxx
  clear ho10
  go_wp2_with fail
  refine (eqCharacterS_c A6 A10 n c6 c10 zs6 zs10 _ S7 S10 Hxx.out hn).mono ?_
  rintro e w11 ⟨rfl, hb11⟩
  replace ho6 := ho6.next hb11
  have H11 := H10.trans (hb11.mono H10.size)
  replace hp7 := own_next hp7 hb11
  replace hoW := own_next hoW hb11
  replace hoG := own_next hoG hb11
  clear S7 S10
  go_wp2_with fail
  refine (toPhaseS_c Ao no co o _ (ho.next H11) hno).mono ?_
  rintro e w12 ⟨v12, rfl, hp12, hb12⟩
  obtain ⟨A12, c12, rfl⟩ := own_slice hp12
  replace ho6 := ho6.next hb12
  have H12 := H11.trans (hb12.mono H11.size)
  replace hp7 := own_next hp7 hb12
  replace hoW := own_next hoW hb12
  replace hoG := own_next hoG hb12
  go_wp2_with fail
  refine (eqPhaseS_c A7 A12 no c7 c12 o _ (Sl.of_own hp7) (Sl.of_own hp12) hmo).mono ?_
  rintro e w13 ⟨rfl, hb13⟩
  replace ho6 := ho6.next hb13
  have H13 := H12.trans (hb13.mono H12.size)
  replace hp7 := own_next hp7 hb13
  replace hoW := own_next hoW hb13
  replace hoG := own_next hoG hb13
  clear hp12
  have hz6 : ∀ z ∈ zs6, z.n ≤ 1048576 := fun z hz => (size_congr Hx6.out Hbz.out z hz).1
  have hs6 := sum_congr Hx6.out
  have hz68 : w6.heap.size ≤ w13.heap.size := Nat.le_trans y7 (Nat.le_trans hb8.size (Nat.le_trans hb9.size (Nat.le_trans hb10.size (Nat.le_trans hb11.size (Nat.le_trans hb12.size hb13.size)))))
  have H5s := H5.size
  have H6s := H6.size
  have H7s := H7.size
  have H13s := H13.size
  have Hz6 := Lib.hid hz6; clear hz6
  go_wp2_with fail
  refine (markCharacterS_c A6 n c6 zs6 1 _ w6.heap.size _ ho6 hn Hz6.out HAlt.out HGlt.out (by omega) (by omega)).mono ?_
  rintro e w14 ⟨rfl, hr14⟩
  have H14 := below_rng H13 hr14 H5s (Nat.le_trans H5s (Nat.le_trans y6 hz68))
  replace hp7 := own_rng hp7 hr14 fun k hk => .inr (hp7.lt k hk).1
  replace hoW := own_rng hoW hr14 fun k hk => .inl (hWlt k hk)
  replace hoG := own_rng hoG hr14 fun k hk => .inr (Nat.le_trans y7 (hoG.lt k hk).1)
  clear ho6 hr14
  obtain ⟨K1, hK1⟩ : ∃ K1, 1 + 4 * n + sumN zs6 = K1 := ⟨_, rfl⟩
  rw [hK1]
  have hK1b : 0 < K1 ∧ K1 ≤ 10000000 := by omega
  have HK1 := Lib.hid hK1; clear hK1
  go_wp2_with fail
  refine (markPhaseS_c A7 no c7 K1 _ _ _ hp7 hno hK1b.1 hK1b.2).mono ?_
  rintro e w15 ⟨rfl, _, hg15⟩
  have hr15 : Rng w6.heap.size w7.heap.size w14 w15 := rng_grown hg15 fun k hk => ⟨(hp7.lt k hk).1, hPlt k hk⟩
  have H15 := below_rng H14 hr15 H6s H14.size
  replace hoW := own_rng hoW hr15 fun k hk => .inl (Nat.lt_of_lt_of_le (hWlt k hk) y6)
  replace hoG := own_rng hoG hr15 fun k hk => .inr (hoG.lt k hk).1
  clear hp7 hr15 hg15
  have hneg : ¬ (((K1 + 2 * no : Nat) : Int) < 0) := by omega
  go_wp2_with fail
  refine (eqInt64S_c AG AW m cG cW (R.map fun (i : Nat) => (i : Int)) _ (Sl.of_own hoG) (Sl.of_own hoW) Hmm.out).mono ?_
  rintro e w16 ⟨rfl, hb16⟩
  have H16 := H15.trans (hb16.mono H15.size)
  replace hoW := own_next hoW hb16
  replace hoG := own_next hoG hb16
  go_wp2_with fail
  refine (markInt64S_c AG m cG 1 _ _ _ hoG (by omega) (by omega)).mono ?_
  rintro e w17 ⟨rfl, hoG2, hg17⟩
  have hr17 : Rng w7.heap.size w17.heap.size w16 w17 := rng_grown hg17 fun k hk => ⟨(hoG.lt k hk).1, Nat.lt_of_lt_of_le (hoG.lt k hk).2 hg17.size⟩
  have H17 := below_rng H16 hr17 H7s H16.size
  replace hoW := own_rng hoW hr17 fun k hk => .inl (Nat.lt_of_lt_of_le (hWlt k hk) (Nat.le_trans y6 y7))
  clear hoG hr17 hg17
  go_wp2_with fail
  refine (heldInt64S_c AG m cG 1 _ (Sl.of_own hoG2) (by omega) (by omega)).mono ?_
  rintro e w18 ⟨rfl, rfl⟩
  have hneg2 : ¬ (((1 + m : Nat) : Int) < 0) := by omega
  go_wp2_with fail
  refine (toCharacterS_c A n c zs _ (hS.next H17) hn).mono ?_
  rintro e w19 ⟨v19, zs19, rfl, hx19, ho19, hb19⟩
  obtain ⟨A19, c19, rfl⟩ := own_slice ho19.own
  have H19 := H17.trans (hb19.mono H17.size)
  replace hoW := own_next hoW hb19
  replace hoG2 := own_next hoG2 hb19
  have Hx19 := Lib.hid hx19; clear hx19
  go_wp2_with fail
  refine (toPhaseS_c Ao no co o _ (ho.next H19) hno).mono ?_
  rintro e w20 ⟨v20, rfl, hp20, hb20⟩
  obtain ⟨A20, c20, rfl⟩ := own_slice hp20
  have S20 := (ho19.next hb20).sl (size_congr Hx19.out Hbz.out)
  have H20 := H19.trans (hb20.mono H19.size)
  replace hoW := own_next hoW hb20
  replace hoG2 := own_next hoG2 hb20
  clear ho19
  go_wp2_with fail
  refine (implIdent_c A19 n c19 zs19 A20 no c20 o tol _ S20 hn (Sl.of_own hp20) hno Hso.out).mono ?_
  rintro e w21 ⟨vH, rfl, hiH, hb21⟩
  have hoH := hiH.own
  rw [id_congr Hx19.out, HR.out, Hm2.out] at hoH
  rw [ask_congr Hx19.out, Hcode.out]
  obtain ⟨AH, cH, rfl⟩ := own_slice hoH
  clear hiH S20 hp20
  have H21 := H20.trans (hb21.mono H20.size)
  replace hoW := own_next hoW hb21
  replace hoG2 := own_next hoG2 hb21
  go_wp2_with fail
  refine (eqInt64S_c AH AW m cH cW (R.map fun (i : Nat) => (i : Int)) _ (Sl.of_own hoH) (Sl.of_own hoW) Hmm.out).mono ?_
  rintro e w22 ⟨rfl, hb22⟩
  have H22 := H21.trans (hb22.mono H21.size)
  replace hoG2 := own_next hoG2 hb22
  go_wp2_with fail
  refine (heldInt64S_c AG m cG 1 _ (Sl.of_own hoG2) (by omega) (by omega)).mono ?_
  rintro e w23 ⟨rfl, rfl⟩
  go_wp2_with fail
  go_ret
  exact ⟨rfl, H22⟩
end Go.Proofs.Ytgfplmfdgbklkaa
