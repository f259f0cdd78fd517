/- The walk of the law FnExactAidNumbered. -/
import Derived.Test.YtnmkpegdbgebeaaGreatDoorAnI
import Derived.Test.YtnmkpegdbgebeaaGreatDoorMrkG
namespace Go.Proofs.YtnmkpegdbgebeaaGreatDoor
open Go.RowKit
abbrev aidZO (E : TypeId) : Obj := .cells #[.int .i64 0, .string { data := #[] }, .int .i64 0, .int .i64 0, .int .i64 0, .int .i64 0, .string { data := #[] }, .string { data := #[] }, .string { data := #[] }, .int .i64 0, .slice none 0 0, .string { data := #[] }, .string { data := #[] }, .int .i64 0, .slice none 0 0, .int .i64 0] E
theorem AidF.zero (w : World) (E : TypeId) : AidF (w.alloc (aidZO E)) w.heap.size aidZ := AidF.box w aidZ E
theorem AidF.rng {w w' : World} {b lo hi : Nat} {z : AidG} (h : AidF w b z) (hr : Rng lo hi w w') (hne : b < lo ∨ hi ≤ b) : AidF w' b z := by
  have e : w'.heap[b]? = w.heap[b]? := hr.block b h.p.hb hne
  have k := keepR hr b h.p.hb hne
  exact ⟨⟨(k _).trans h.p.c0, (k _).trans h.p.c1, (k _).trans h.p.c2, (k _).trans h.p.c3, (k _).trans h.p.c4, (k _).trans h.p.c5, (k _).trans h.p.c6, (k _).trans h.p.c7, (k _).trans h.p.c8, (k _).trans h.p.c9, (k _).trans h.p.c10, (k _).trans h.p.c11, (k _).trans h.p.c12, (k _).trans h.p.c13, (k _).trans h.p.c14, (k _).trans h.p.c15, Nat.lt_of_lt_of_le h.p.hb hr.size⟩, fun i => by
    have := h.f i
    simp only [World.frozen?] at this ⊢
    rw [e]; exact this⟩
theorem AidNew.rng {w w' : World} {base lo hi : Nat} {z : AidG} (h : AidNew w base z) (hr : Rng lo hi w w') (hb : hi ≤ base) : AidNew w' base z :=
  ⟨own_rng h.g hr fun k hk => .inr (Nat.le_trans hb (h.g.lt k hk).1), own_rng h.s hr fun k hk => .inr (Nat.le_trans hb (h.s.lt k hk).1)⟩
theorem bd_zero : AidBd aidZero := ⟨by decide, by decide, by decide, by decide, by decide, by decide, by decide, by decide, fun s hs => by cases hs⟩
theorem an_bd {zs : List AidG} (bd : ∀ z ∈ zs, AidBd z.a) (v : Int) : AidBd (anA (zs.map AidG.a) v) := by
  unfold anA
  split
  · cases hF : fdN (zs.map AidG.a) v with
    | none => exact bd_zero
    | some k =>
      obtain ⟨a, h1, _, _⟩ := fdN_at hF
      simp only [Option.elim_some, aAt, List.getD_eq_getElem?_getD, h1, Option.getD_some]
      obtain ⟨z, hz, rfl⟩ := List.mem_map.1 (List.mem_of_getElem? h1)
      exact bd z hz
  · exact bd_zero
theorem AidF.next' {w w' : World} {b B : Nat} {z : AidG} (h : AidF w b z) (hb : Below B w w') (hB : b < B) : AidF w' b z := by
  have e : w'.heap[b]? = w.heap[b]? := hb.block b hB
  have k : ∀ i, w'.cell? ⟨b, i, none⟩ = w.cell? ⟨b, i, none⟩ := fun i => World.cell?_of_block (w := w) e
  exact ⟨⟨(k _).trans h.p.c0, (k _).trans h.p.c1, (k _).trans h.p.c2, (k _).trans h.p.c3, (k _).trans h.p.c4, (k _).trans h.p.c5, (k _).trans h.p.c6, (k _).trans h.p.c7, (k _).trans h.p.c8, (k _).trans h.p.c9, (k _).trans h.p.c10, (k _).trans h.p.c11, (k _).trans h.p.c12, (k _).trans h.p.c13, (k _).trans h.p.c14, (k _).trans h.p.c15, Nat.lt_of_lt_of_le h.p.hb hb.size⟩, fun i => by
    have := h.f i
    simp only [World.frozen?] at this ⊢
    rw [e]; exact this⟩
set_option maxRecDepth 100000 in
set_option maxHeartbeats 8000000 in
theorem lawAidNumbered_c (A : Option Addr) (n c : Nat) (zs : List AidG) (v : Int) (w : World) (h : Sl w w.heap.size 16 A n (zs.flatMap AidG.cells) ∧ ∀ z ∈ zs, AidRd w z) (hm : n ≤ maxLen) (ht : Tab w) :
    Calls Tryz.prog 3 #[.slice A n c, .int .i64 v] w fun e w' => e = .returned (.bool true) ∧ Below w.heap.size w w' := by
  go_enter Tryz.func3, Tryz.ntmps3
  go_wp2_with fail
  refine (szAidS_c A n c zs _ _ h.1 hm h.2 (by omega) (by omega)).mono ?_
  rintro e w1 ⟨r, rfl, hr, hb1⟩
  have Hr := Lib.hid hr; clear hr
  go_wp2_with fail
  · go_ret
    exact ⟨rfl, hb1⟩
  have hbd : (∀ z ∈ zs, AidBd z.a) ∧ n ≤ 1048576 := by
    rcases Hr.out with h3 | ⟨h3, h4, h5⟩
    · omega
    · exact ⟨h5, by omega⟩
  obtain ⟨bd, hn⟩ := hbd
  clear Hr
  have s0 : AidSl w A n zs := ⟨h.1, fun z hz => (h.2 z hz).ok (bd z hz)⟩
  obtain ⟨a0, ha0⟩ : ∃ a, anA (zs.map AidG.a) v = a := ⟨_, rfl⟩
  obtain ⟨K0, hK0⟩ : ∃ K, anK (zs.map AidG.a) v = K := ⟨_, rfl⟩
  have bda : AidBd a0 := by rw [← ha0]; exact an_bd bd v
  have hT : ∀ w', Below w.heap.size w w' → Calls Tryz.prog 9 #[.slice A n c] w' fun e w'' => ∃ A' c' zs', e = .returned (.slice A' n c') ∧ Hid (zs'.map AidG.a = zs.map AidG.a) ∧ Hid (AidOwn w'' w'.heap.size (.slice A' n c') n zs') ∧ AidSl w'' A' n zs' ∧ Below w'.heap.size w' w'' := fun w' hb => by
    refine (toAidS_c A n c zs w' (s0.next hb) hn).mono ?_
    rintro e w'' ⟨v', zs', he, hx, ho, hb'⟩
    obtain ⟨A', c', rfl⟩ := own_slice ho.own
    exact ⟨A', c', zs', he, Lib.hid hx, Lib.hid ho, ho.sl (bd_of hx bd), hb'⟩
  have hS : ∀ w' A' c' zs', AidSl w' A' n zs' → zs'.map AidG.a = zs.map AidG.a → Calls Tryz.prog 8 #[.slice A' n c', .int .i64 v] w' fun e w'' => ∃ A1 c1 B1 d1, e = .returned (.tuple #[AidG.val ⟨a0, A1, c1, B1, d1⟩, .int .i64 K0]) ∧ AidNew w'' w'.heap.size ⟨a0, A1, c1, B1, d1⟩ ∧ Below w'.heap.size w' w'' := fun w' A' c' zs' hs hx => by
    refine (specAidNumbered_c A' n c' zs' v w' hs hn).mono ?_
    rintro e w'' ⟨⟨a1, A1, c1, B1, d1⟩, he, ha, hN, hb⟩
    simp only at ha
    rw [hx, ha0] at ha
    subst ha
    rw [hx, hK0] at he
    exact ⟨A1, c1, B1, d1, he, hN, hb⟩
  have hI : ∀ w' A' c' zs', AidSl w' A' n zs' → zs'.map AidG.a = zs.map AidG.a → Below w.heap.size w w' → Calls Tryz.prog 10 #[.slice A' n c', .int .i64 v] w' fun e w'' => ∃ A1 c1 B1 d1, e = .returned (.tuple #[AidG.val ⟨a0, A1, c1, B1, d1⟩, .int .i64 K0]) ∧ AidNew w'' w'.heap.size ⟨a0, A1, c1, B1, d1⟩ ∧ Below w'.heap.size w' w'' := fun w' A' c' zs' hs hx hbb => by
    refine (implAidNumbered_c A' n c' zs' v w' hs hn (ht.next hbb)).mono ?_
    rintro e w'' ⟨⟨a1, A1, c1, B1, d1⟩, he, ha, hN, hb⟩
    simp only at ha
    rw [hx, ha0] at ha
    subst ha
    rw [hx, hK0] at he
    exact ⟨A1, c1, B1, d1, he, hN, hb⟩
  have hbz : ∀ zs' : List AidG, zs'.map AidG.a = zs.map AidG.a → ∀ z ∈ zs', z.n ≤ 1048576 ∧ z.m ≤ 1048576 := fun zs' hx z hz => ⟨(bd_of hx bd z hz).gs, (bd_of hx bd z hz).ss⟩
  have hgs : a0.ch.gs.length ≤ 1048576 := bda.gs
  have hss : a0.secs.length ≤ 1048576 := bda.ss
  clear ha0 hK0 bd ht s0 h
  have HT := Lib.hid hT; clear hT
  have HS := Lib.hid hS; clear hS
  have HI := Lib.hid hI; clear hI
  have HBz := Lib.hid hbz; clear hbz
  have HBda := Lib.hid bda; clear bda
  refine (HT.out _ hb1).mono ?_
  rintro e w2 ⟨A2, c2, zs2, rfl, E2, _, s2, hb2⟩
  replace hb2 := hb1.trans (hb2.mono hb1.size)
  clear hb1
  go_wp2_with fail
  refine (HS.out _ A2 c2 zs2 s2 E2.out).mono ?_
  rintro e w3 ⟨AW, cW, BW, dW, rfl, hNW, hb3⟩
  replace hb3 := hb2.trans (hb3.mono hb2.size)
  clear hb2 s2 E2
  have FW := (AidF.zero w3 33).set (⟨a0, AW, cW, BW, dW⟩)
  have hbx := belowW (w3).heap.size (Nat.le_refl _) (AidG.cells (⟨a0, AW, cW, BW, dW⟩)) 0 _ ((Below.refl (w3).heap.size w3).alloc (Nat.le_refl _) (aidZO 33))
  have TT := (AidF.zero w3 33).there 0 16 (by omega)
  have SZ : (w3).heap.size < (((w3).alloc (aidZO 33)).setCells (w3).heap.size 0 (AidG.cells (⟨a0, AW, cW, BW, dW⟩))).heap.size := by rw [sizeW]; simp
  obtain ⟨w4, hWW⟩ : ∃ x, ((w3).alloc (aidZO 33)).setCells (w3).heap.size 0 (AidG.cells (⟨a0, AW, cW, BW, dW⟩)) = x := ⟨_, rfl⟩
  rw [hWW] at FW hbx SZ
  have OO : (List.toArray (AidG.cells (⟨a0, AW, cW, BW, dW⟩))).all (·.oneCell') = true := all_oneCell_toArray (aidg_one _)
  have HTT := Lib.hid TT; clear TT
  have HWW := Lib.hid hWW; clear hWW
  have HOO := Lib.hid OO; clear OO
  have okW := (hNW.ok HBda.out).next hbx
  have b4 := hb3.trans (hbx.mono hb3.size)
  have hz3 := SZ
  clear hNW hbx hb3 SZ
  have HFW := Lib.hid FW; clear FW
  have HOkW := Lib.hid okW; clear okW
  as_aux_lemma =>
    go_wp2_with (first | (refine wpList_store_mid rfl _ _ _ rfl (w3).heap.size 0 (List.toArray (AidG.cells (⟨a0, AW, cW, BW, dW⟩))) rfl rfl HTT.out (by kernel_rfl) HOO.out ?_; rw [show ((w3).alloc (aidZO 33)).setCells (w3).heap.size 0 (List.toArray (AidG.cells (⟨a0, AW, cW, BW, dW⟩))).toList = w4 from HWW.out]))
    clear HTT HWW HOO
    refine (HT.out _ b4).mono ?_
    rintro e w5 ⟨A5, c5, zs5, rfl, E5, HO5, s5, hb5⟩
    have FW5 := HFW.out.next hb5
    have D5 := hb5
    replace hb5 := b4.trans (hb5.mono b4.size)
    clear HFW
    go_wp2_with fail
    refine (HI.out _ A5 c5 zs5 s5 E5.out hb5).mono ?_
    rintro e w6 ⟨AG, cG, BG, dG, rfl, hNG, hb6⟩
    have FW6 := FW5.next hb6
    have D6 := D5.trans (hb6.mono D5.size)
    have HO6 := Lib.hid (HO5.out.next hb6)
    have s6 := s5.next hb6
    have hz56 := hb6.size
    have hz45 := D5.size
    have b6 := hb5.trans (hb6.mono hb5.size)
    have FG := (AidF.zero w6 33).set (⟨a0, AG, cG, BG, dG⟩)
    have hbx := belowW (w6).heap.size (Nat.le_refl _) (AidG.cells (⟨a0, AG, cG, BG, dG⟩)) 0 _ ((Below.refl (w6).heap.size w6).alloc (Nat.le_refl _) (aidZO 33))
    have TT := (AidF.zero w6 33).there 0 16 (by omega)
    have SZ : (w6).heap.size < (((w6).alloc (aidZO 33)).setCells (w6).heap.size 0 (AidG.cells (⟨a0, AG, cG, BG, dG⟩))).heap.size := by rw [sizeW]; simp
    obtain ⟨w7, hWW⟩ : ∃ x, ((w6).alloc (aidZO 33)).setCells (w6).heap.size 0 (AidG.cells (⟨a0, AG, cG, BG, dG⟩)) = x := ⟨_, rfl⟩
    rw [hWW] at FG hbx SZ
    have OO : (List.toArray (AidG.cells (⟨a0, AG, cG, BG, dG⟩))).all (·.oneCell') = true := all_oneCell_toArray (aidg_one _)
    have HTT := Lib.hid TT; clear TT
    have HWW := Lib.hid hWW; clear hWW
    have HOO := Lib.hid OO; clear OO
    have hNG7 := hNG.next hbx
    have FW7 := FW6.next hbx
    have D7 := D6.trans (hbx.mono D6.size)
    have HO7 := Lib.hid (HO6.out.next hbx)
    have s7 := s6.next hbx
    have b7 := b6.trans (hbx.mono b6.size)
    have hz67 := SZ
    have hAlt : ∀ k, (Value.slice A5 n c5).ownBlock = some k → k < w5.heap.size := fun k hk => (HO5.out.own.lt k hk).2
    have hGlt : ∀ z ∈ zs5, (∀ k, (Value.slice z.A z.n z.c).ownBlock = some k → k < w5.heap.size) ∧ ∀ k, (Value.slice z.B z.m z.d).ownBlock = some k → k < w5.heap.size := fun z hz => ⟨fun k hk => ((HO5.out.new z hz).g.lt k hk).2, fun k hk => ((HO5.out.new z hz).s.lt k hk).2⟩
    have hGk : (∀ k, (Value.slice AG a0.ch.gs.length cG).ownBlock = some k → k < w6.heap.size) ∧ ∀ k, (Value.slice BG a0.secs.length dG).ownBlock = some k → k < w6.heap.size := ⟨fun k hk => (hNG.g.lt k hk).2, fun k hk => (hNG.s.lt k hk).2⟩
    clear hbx hNG SZ FW6 FW5 D5 D6 HO5 HO6 s5 s6 hb5 hb6 b6
    have HAlt := Lib.hid hAlt; clear hAlt
    have HGlt := Lib.hid hGlt; clear hGlt
    have HGk := Lib.hid hGk; clear hGk
    have HFG := Lib.hid FG; clear FG
    have HFW := Lib.hid FW7; clear FW7
    have HNG := Lib.hid hNG7; clear hNG7
    as_aux_lemma =>
      have okG := HNG.out.ok HBda.out
      have okW7 := HOkW.out.next D7
      obtain ⟨f0, f1, f2, f3, f4, f5, f6, f7, f8, f9, f10, f11, f12, f13, f14, f15, _⟩ := (HFG.out).p
      simp only [Nat.zero_add] at f1 f2 f3 f4 f5 f6 f7 f8 f9 f10 f11 f12 f13 f14 f15
      obtain ⟨g0, g1, g2, g3, g4, g5, g6, g7, g8, g9, g10, g11, g12, g13, g14, g15, _⟩ := (HFW.out).p
      simp only [Nat.zero_add] at g1 g2 g3 g4 g5 g6 g7 g8 g9 g10 g11 g12 g13 g14 g15
      go_wp2_with (first | (refine wpList_store_mid rfl _ _ _ rfl (w6).heap.size 0 (List.toArray (AidG.cells (⟨a0, AG, cG, BG, dG⟩))) rfl rfl HTT.out (by kernel_rfl) HOO.out ?_; rw [show ((w6).alloc (aidZO 33)).setCells (w6).heap.size 0 (List.toArray (AidG.cells (⟨a0, AG, cG, BG, dG⟩))).toList = w7 from HWW.out]))
      clear HTT HWW HOO
      refine (eqAid_c a0 AG AW BG BW cG cW dG dW _ okG okW7).mono ?_
      rintro e w8 ⟨rfl, hb8⟩
      clear f0 f1 f2 f3 f4 f5 f6 f7 f8 f9 f10 f11 f12 f13 f14 f15
      clear g0 g1 g2 g3 g4 g5 g6 g7 g8 g9 g10 g11 g12 g13 g14 g15
      have HFG8 := Lib.hid (HFG.out.next hb8)
      have HFW8 := Lib.hid (HFW.out.next hb8)
      have HNG8 := Lib.hid (HNG.out.next hb8)
      have D8 := D7.trans (hb8.mono D7.size)
      have HO8 := Lib.hid (HO7.out.next hb8)
      have s8 := s7.next hb8
      have b8 := b7.trans (hb8.mono b7.size)
      clear HFG HFW HNG D7 HO7 s7 b7 hb8 okG okW7
      as_aux_lemma =>
        go_wp2_with fail
        refine (HT.out _ b8).mono ?_
        rintro e w9 ⟨A9, c9, zs9, rfl, E9, _, s9, hb9⟩
        have HFG9 := Lib.hid (HFG8.out.next hb9)
        have HFW9 := Lib.hid (HFW8.out.next hb9)
        have HNG9 := Lib.hid (HNG8.out.next hb9)
        have D9 := D8.trans (hb9.mono D8.size)
        have HO9 := Lib.hid (HO8.out.next hb9)
        replace s8 := s8.next hb9
        have b9 := b8.trans (hb9.mono b8.size)
        clear HFG8 HFW8 HNG8 D8 HO8 b8 hb9
        go_wp2_with fail
        refine (eqAidS_c A5 A9 n c5 c9 zs5 zs9 _ s8 s9 (E5.out.trans E9.out.symm) hn).mono ?_
        rintro e w10 ⟨rfl, hb10⟩
        have HFG10 := Lib.hid (HFG9.out.next hb10)
        have HFW10 := Lib.hid (HFW9.out.next hb10)
        have HNG10 := Lib.hid (HNG9.out.next hb10)
        have D10 := D9.trans (hb10.mono D9.size)
        have HO10 := Lib.hid (HO9.out.next hb10)
        have b10 := b9.trans (hb10.mono b9.size)
        clear HFG9 HFW9 HNG9 D9 HO9 b9 hb10 s8 s9 E9
        go_wp2_with fail
        refine (markAidS_c A5 n c5 zs5 w4.heap.size w5.heap.size _ HO10.out hn (HBz.out zs5 E5.out) HAlt.out HGlt.out).mono ?_
        rintro e w11 ⟨K1, rfl, hr⟩
        have hz410 := D10.size
        have HFG11 := Lib.hid (HFG10.out.rng hr (.inr hz56))
        have HFW11 := Lib.hid (HFW10.out.rng hr (.inl hz3))
        have HNG11 := Lib.hid (HNG10.out.rng hr (Nat.le_refl _))
        have D11 := below_rng D10 hr (Nat.le_refl _) hz410
        have b11 := below_rng b10 hr b4.size b10.size
        have hneg : ¬ ((K1 : Int) < 0) := by omega
        clear HFG10 HFW10 HNG10 D10 HO10 b10 hr HAlt HGlt E5
        as_aux_lemma =>
          have okG := HNG11.out.ok HBda.out
          have okW11 := HOkW.out.next D11
          obtain ⟨f0, f1, f2, f3, f4, f5, f6, f7, f8, f9, f10, f11, f12, f13, f14, f15, _⟩ := (HFG11.out).p
          simp only [Nat.zero_add] at f1 f2 f3 f4 f5 f6 f7 f8 f9 f10 f11 f12 f13 f14 f15
          obtain ⟨g0, g1, g2, g3, g4, g5, g6, g7, g8, g9, g10, g11, g12, g13, g14, g15, _⟩ := (HFW11.out).p
          simp only [Nat.zero_add] at g1 g2 g3 g4 g5 g6 g7 g8 g9 g10 g11 g12 g13 g14 g15
          go_wp2_with fail
          refine (eqAid_c a0 AG AW BG BW cG cW dG dW _ okG okW11).mono ?_
          rintro e w12 ⟨rfl, hb12⟩
          clear f0 f1 f2 f3 f4 f5 f6 f7 f8 f9 f10 f11 f12 f13 f14 f15
          clear g0 g1 g2 g3 g4 g5 g6 g7 g8 g9 g10 g11 g12 g13 g14 g15
          have HFG12 := Lib.hid (HFG11.out.next hb12)
          have HFW12 := Lib.hid (HFW11.out.next hb12)
          have HNG12 := Lib.hid (HNG11.out.next hb12)
          have D12 := D11.trans (hb12.mono D11.size)
          have b12 := b11.trans (hb12.mono b11.size)
          clear HFG11 HFW11 HNG11 D11 b11 hb12 okG okW11
          have hz412 := D12.size
          have hzG12 := HFG12.out.p.hb
          obtain ⟨f0, f1, f2, f3, f4, f5, f6, f7, f8, f9, f10, f11, f12, f13, f14, f15, _⟩ := (HFG12.out).p
          simp only [Nat.zero_add] at f1 f2 f3 f4 f5 f6 f7 f8 f9 f10 f11 f12 f13 f14 f15
          go_wp2_with fail
          refine (markAid_c ⟨a0, AG, cG, BG, dG⟩ 1 w5.heap.size _ HNG12.out hgs hss (by omega) (by omega) (by omega)).mono ?_
          rintro e w13 ⟨rfl, hMk, hb13, wm, hm1, hm2⟩
          have HFG13 := Lib.hid ((HFG12.out.grown hm1 fun k hk => by have := HGk.out.1 k hk; omega).grown hm2 fun k hk => by have := HGk.out.2 k hk; omega)
          have HFW13 := Lib.hid (HFW12.out.next' (hb13) (by omega))
          have D13 := D12.trans (hb13.mono hz45)
          have b13 := b12.trans (hb13.mono (Nat.le_trans b4.size hz45))
          clear f0 f1 f2 f3 f4 f5 f6 f7 f8 f9 f10 f11 f12 f13 f14 f15
          clear HFG12 HFW12 HNG12 D12 b12 hb13 hm1 hm2
          as_aux_lemma =>
            obtain ⟨f0, f1, f2, f3, f4, f5, f6, f7, f8, f9, f10, f11, f12, f13, f14, f15, _⟩ := (HFG13.out).p
            simp only [Nat.zero_add] at f1 f2 f3 f4 f5 f6 f7 f8 f9 f10 f11 f12 f13 f14 f15
            go_wp2_with fail
            refine (heldAid_c ⟨a0, AG, cG, BG, dG⟩ 1 w5.heap.size _ hMk hgs hss (by omega) (by omega)).mono ?_
            rintro e w14 ⟨rfl, hb14⟩
            have hMk14 := hMk.next hb14
            have HFG14 := Lib.hid (HFG13.out.next hb14)
            have HFW14 := Lib.hid (HFW13.out.next hb14)
            have D14 := D13.trans (hb14.mono D13.size)
            have b14 := b13.trans (hb14.mono b13.size)
            clear f0 f1 f2 f3 f4 f5 f6 f7 f8 f9 f10 f11 f12 f13 f14 f15
            clear HFG13 HFW13 D13 b13 hb14 hMk
            have hneg2 : ¬ (((1 + a0.ch.gs.length + 3 * a0.secs.length : Nat) : Int) < 0) := by omega
            go_wp2_with fail
            refine (HT.out _ b14).mono ?_
            rintro e w15 ⟨A15, c15, zs15, rfl, E15, _, s15, hb15⟩
            have hMk15 := hMk14.next hb15
            have HFG15 := Lib.hid (HFG14.out.next hb15)
            have HFW15 := Lib.hid (HFW14.out.next hb15)
            have D15 := D14.trans (hb15.mono D14.size)
            have b15 := b14.trans (hb15.mono b14.size)
            clear HFG14 HFW14 D14 b14 hb15 hMk14
            go_wp2_with fail
            refine (HI.out _ A15 c15 zs15 s15 E15.out b15).mono ?_
            rintro e w16 ⟨AH, cH, BH, dH, rfl, hNH, hb16⟩
            have hMk16 := hMk15.next hb16
            have HFG16 := Lib.hid (HFG15.out.next hb16)
            have HFW16 := Lib.hid (HFW15.out.next hb16)
            have D16 := D15.trans (hb16.mono D15.size)
            have b16 := b15.trans (hb16.mono b15.size)
            clear HFG15 HFW15 D15 b15 hb16 hMk15 s15 E15
            have FH := (AidF.zero w16 33).set (⟨a0, AH, cH, BH, dH⟩)
            have hbx := belowW (w16).heap.size (Nat.le_refl _) (AidG.cells (⟨a0, AH, cH, BH, dH⟩)) 0 _ ((Below.refl (w16).heap.size w16).alloc (Nat.le_refl _) (aidZO 33))
            have TT := (AidF.zero w16 33).there 0 16 (by omega)
            have SZ : (w16).heap.size < (((w16).alloc (aidZO 33)).setCells (w16).heap.size 0 (AidG.cells (⟨a0, AH, cH, BH, dH⟩))).heap.size := by rw [sizeW]; simp
            obtain ⟨w17, hWW⟩ : ∃ x, ((w16).alloc (aidZO 33)).setCells (w16).heap.size 0 (AidG.cells (⟨a0, AH, cH, BH, dH⟩)) = x := ⟨_, rfl⟩
            rw [hWW] at FH hbx SZ
            have OO : (List.toArray (AidG.cells (⟨a0, AH, cH, BH, dH⟩))).all (·.oneCell') = true := all_oneCell_toArray (aidg_one _)
            have HTT := Lib.hid TT; clear TT
            have HWW := Lib.hid hWW; clear hWW
            have HOO := Lib.hid OO; clear OO
            have hMk17 := hMk16.next hbx
            have HFG17 := Lib.hid (HFG16.out.next hbx)
            have HFW17 := Lib.hid (HFW16.out.next hbx)
            have D17 := D16.trans (hbx.mono D16.size)
            have b17 := b16.trans (hbx.mono b16.size)
            have okH := (hNH.next hbx).ok HBda.out
            clear HFG16 HFW16 D16 b16 hbx hMk16 hNH SZ
            have HFH := Lib.hid FH; clear FH
            as_aux_lemma =>
              have okW17 := HOkW.out.next D17
              obtain ⟨f0, f1, f2, f3, f4, f5, f6, f7, f8, f9, f10, f11, f12, f13, f14, f15, _⟩ := (HFH.out).p
              simp only [Nat.zero_add] at f1 f2 f3 f4 f5 f6 f7 f8 f9 f10 f11 f12 f13 f14 f15
              obtain ⟨g0, g1, g2, g3, g4, g5, g6, g7, g8, g9, g10, g11, g12, g13, g14, g15, _⟩ := (HFW17.out).p
              simp only [Nat.zero_add] at g1 g2 g3 g4 g5 g6 g7 g8 g9 g10 g11 g12 g13 g14 g15
              go_wp2_with (first | (refine wpList_store_mid rfl _ _ _ rfl (w16).heap.size 0 (List.toArray (AidG.cells (⟨a0, AH, cH, BH, dH⟩))) rfl rfl HTT.out (by kernel_rfl) HOO.out ?_; rw [show ((w16).alloc (aidZO 33)).setCells (w16).heap.size 0 (List.toArray (AidG.cells (⟨a0, AH, cH, BH, dH⟩))).toList = w17 from HWW.out]))
              clear HTT HWW HOO
              refine (eqAid_c a0 AH AW BH BW cH cW dH dW _ okH okW17).mono ?_
              rintro e w18 ⟨rfl, hb18⟩
              clear f0 f1 f2 f3 f4 f5 f6 f7 f8 f9 f10 f11 f12 f13 f14 f15
              clear g0 g1 g2 g3 g4 g5 g6 g7 g8 g9 g10 g11 g12 g13 g14 g15
              have hMk18 := hMk17.next hb18
              have HFG18 := Lib.hid (HFG17.out.next hb18)
              have b18 := b17.trans (hb18.mono b17.size)
              clear HFG17 HFW17 D17 b17 hb18 hMk17 okW17 okH HFH
              obtain ⟨f0, f1, f2, f3, f4, f5, f6, f7, f8, f9, f10, f11, f12, f13, f14, f15, _⟩ := (HFG18.out).p
              simp only [Nat.zero_add] at f1 f2 f3 f4 f5 f6 f7 f8 f9 f10 f11 f12 f13 f14 f15
              go_wp2_with fail
              refine (heldAid_c ⟨a0, AG, cG, BG, dG⟩ 1 w5.heap.size _ hMk18 hgs hss (by omega) (by omega)).mono ?_
              rintro e w19 ⟨rfl, hb19⟩
              clear f0 f1 f2 f3 f4 f5 f6 f7 f8 f9 f10 f11 f12 f13 f14 f15
              have b19 := b18.trans (hb19.mono b18.size)
              go_wp2_with fail
              go_ret
              exact ⟨rfl, b19⟩
end Go.Proofs.YtnmkpegdbgebeaaGreatDoor
