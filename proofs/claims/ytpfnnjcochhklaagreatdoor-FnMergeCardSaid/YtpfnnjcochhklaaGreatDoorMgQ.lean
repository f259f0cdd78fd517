
/- The walk of l23DrawChanged and R8Changed. -/
import Derived.Test.YtpfnnjcochhklaaGreatDoorMgMG
namespace Go.Proofs.YtpfnnjcochhklaaGreatDoor
open Go.RowKit
set_option maxRecDepth 100000 in
set_option maxHeartbeats 8000000 in
theorem l23DrawChanged_c (hD : DrawC) (lo b a : Nat) (A : Option Addr) (n c : Nat) (zs : List AidG) (w : World) (h : Src w lo b a) (ha : a ≤ 500000000) (hx : AidSl w A n zs) (hok : aidsB (zs.map AidG.a) = true) :
    Calls Tryz.prog 23 #[.pointer (some ⟨b, 0, none⟩), .slice A n c] w (LstAns lo b (a + 2000) w) := by
  have hlt := h.lt.2
  have hlo : lo ≤ w.heap.size := h.lo
  have hn24 : n ≤ 24 := by
    have h1 := aids_24 hok
    rw [List.length_map, hx.len] at h1
    exact h1
  have HDraw := Lib.hid hD; clear hD
  have Hok := Lib.hid hok; clear hok
  go_enter Tryz.func23, Tryz.ntmps23
  go_wp2_with fail
  refine (l12OwnAll_c A n c zs w hx (by omega)).mono ?_
  rintro e w1 ⟨A1, c1, zs1, rfl, hx1, hO1, hb1⟩
  have hL1 : AidL w w1 lo b a A1 n c1 zs1 := ⟨hO1, by rw [hx1]; exact Hok.out, h.next hb1, grown_of_below hb1⟩
  have HL1 := Lib.hid hL1; clear hL1
  clear hx1 hO1 hb1 hx h Hok hn24
  go_wp2_with fail
  refine (pickN_c 4 lo b a _ HL1.out.sr (by omega) (by omega)).mono ?_
  rintro e w2 ⟨q, rfl, q0, q1, hs2, hg2⟩
  have HL2 := Lib.hid (HL1.out.draw hlt hs2 hg2)
  obtain ⟨q, rfl⟩ := Int.eq_ofNat_of_zero_le q0
  have hq3 : q ≤ 3 := by omega
  obtain ⟨n1, hn1⟩ : ∃ n1, n = n1 := ⟨_, rfl⟩
  rw [hn1] at HL2 ⊢
  clear q0 q1 hs2 hg2 HL1 hn1
  go_wp2_with fail
  go_loopw [5, 6] (fun v i wr => ∃ (k n : Nat) (A : Option Addr) (c : Nat) (zs : List AidG), k ≤ 3 ∧ v = .slice A n c ∧ i = .int .i64 k ∧ Hid (AidL w wr lo b (a + 2 + 250 * (3 - k)) A n c zs)) (fun _ i _ => (intOf i).toNat)
  case atStart => exact ⟨q, n1, A1, c1, zs1, hq3, rfl, rfl, Lib.hid (HL2.out.more (by omega))⟩
  case round =>
    clear HL2 hq3
    obtain ⟨k, n, A, c, zs, hk, rfl, rfl, HL⟩ := hrel
    by_cases hlk : 0 < k
    · go_wp2_with fail
      refine (HDraw.out lo b (a + 2 + 250 * (3 - k)) _ HL.out.sr (by omega)).mono ?_
      rintro e w5 ⟨z, rfl, hv, hN, hs5, hg5⟩
      have hL5 := HL.out.draw hlt hs5 hg5
      have hN5 := hN.base HL.out.gr.size
      have hnX : ∀ g, (Value.slice A n c).ownBlock = some g → g ≠ w5.heap.size := fun g hg => by have := (hL5.own.own.lt g hg).2; omega
      have hbX : Below w5.heap.size w5 (w5.alloc (aidO z 56)) := (Below.refl _ _).alloc (Nat.le_refl _) _
      have hoX : (w5.alloc (aidO z 56)).ownsRow w.heap.size 56 16 (.slice (some ⟨w5.heap.size, 0, none⟩) 1 1) 1 z.cells := lit_own w5 w.heap.size 56 (List.toArray z.cells) 1 16 hL5.gr.size (by decide) rfl
      have hbY : Below (w5.alloc (aidO z 56)).heap.size (w5.alloc (aidO z 56)) ((w5.alloc (aidO z 56)).alloc (.cells (List.toArray (corC 2 z)) 84)) := (Below.refl _ _).alloc (Nat.le_refl _) _
      have hzX : (w5.alloc (aidO z 56)).heap.size = w5.heap.size + 1 := by simp
      have hoY : ((w5.alloc (aidO z 56)).alloc (.cells (List.toArray (corC 2 z)) 84)).ownsRow w.heap.size 84 17 (.slice (some ⟨w5.heap.size + 1, 0, none⟩) 1 1) 1 (corC 2 z) := by
        have := lit_own (w5.alloc (aidO z 56)) w.heap.size 84 (List.toArray (corC 2 z)) 1 17 (le_alloc hL5.gr.size _) (by decide) rfl
        rw [hzX] at this
        exact this
      have hC : ChgD w ((w5.alloc (aidO z 56)).alloc (.cells (List.toArray (corC 2 z)) 84)) lo b (a + 2 + 250 * (3 - k) + 200) A n c zs w5.heap.size (w5.heap.size + 1) z z 2 :=
        ⟨(hL5.next hbX).next hbY, own_next hoX hbY, hoY, (hN5.next hbX).next hbY, hnX⟩
      have HC := Lib.hid hC; clear hC
      have Hv := Lib.hid hv; clear hv
      obtain ⟨wY, hwY⟩ : ∃ wY, (w5.alloc (aidO z 56)).alloc (.cells (List.toArray (corC 2 z)) 84) = wY := ⟨_, rfl⟩
      rw [hwY] at HC
      have HwY := Lib.hid hwY; clear hwY
      clear hN hN5 hs5 hg5 hL5 hbX hoX hbY hzX hoY HL hnX
      obtain ⟨X, hX⟩ : ∃ X, w5.heap.size = X := ⟨_, rfl⟩
      rw [hX] at HC
      by_cases hn : n = 0
      · subst hn
        have hni : ¬ (0 : Int) < ((0 : Nat) : Int) := by omega
        have HN9 := Lib.hid HC.out.nz
        go_wp2_with fail
        change Calls _ _ _ ((w5.alloc (aidO z 56)).alloc (.cells (List.toArray (corC 2 z)) 84)) _
        rw [HwY.out]
        clear HwY hX
        obtain ⟨hk0, hp9⟩ := own_corp (HC).out.y
        obtain ⟨f1, f2⟩ := own_form2 (HC).out.L.own.own
        refine (l23Make_c _ (0) c zs (X + 1) (z) 2 _ (HC).out.L.sl (by have := (HC).out.L.len; omega) f1 f2 ((HN9).out.ok (valid_bd (Hv).out)) hp9 hk0 (by decide)).mono ?_
        rintro e w17 ⟨A', n', c', zs', K, rfl, hP, hO, hb17⟩
        by_cases hK : K = 0
        · subst hK
          have HL17 := Lib.hid ((HC).out.L.swap hb17 hO (hP rfl (HC).out.L.ok (Hv).out))
          clear hP hO hb17 hk0 hp9 f1 f2
          go_wp2_with fail
          go_roundw
          case rel => exact ⟨k - 1, n', A', c', zs', by omega, rfl, int_eq (by omega), Lib.hid (HL17.out.more (by omega))⟩
          case measure => simp [intOf]; omega
        · have hK0 : (K == 0) = false := by simpa using hK
          have HL17 := Lib.hid ((HC).out.L.next hb17)
          clear hP hO hb17 hk0 hp9 f1 f2
          go_wp2_with fail
          go_roundw
          case rel => exact ⟨k - 1, (0), _, c, zs, by omega, rfl, int_eq (by omega), Lib.hid (HL17.out.more (by omega))⟩
          case measure => simp [intOf]; omega
      · have hni : (0 : Int) < (n : Int) := by omega
        go_wp2_with fail
        change Calls _ _ _ ((w5.alloc (aidO z 56)).alloc (.cells (List.toArray (corC 2 z)) 84)) _
        rw [HwY.out]
        refine (pickN_c 3 lo b (a + 2 + 250 * (3 - k) + 200) _ HC.out.L.sr (by omega) (by omega)).mono ?_
        rintro e w6 ⟨v, rfl, v0, v1, hs6, hg6⟩
        have HC6 := Lib.hid (HC.out.draw hlt hs6 hg6)
        clear hs6 hg6 HC HwY hX
        by_cases hv0 : v = 0
        · subst hv0
          have HN9 := Lib.hid HC6.out.nz
          go_wp2_with fail
          obtain ⟨hk0, hp9⟩ := own_corp (HC6).out.y
          obtain ⟨f1, f2⟩ := own_form2 (HC6).out.L.own.own
          refine (l23Make_c _ (n) c zs (X + 1) (z) 2 _ (HC6).out.L.sl (by have := (HC6).out.L.len; omega) f1 f2 ((HN9).out.ok (valid_bd (Hv).out)) hp9 hk0 (by decide)).mono ?_
          rintro e w17 ⟨A', n', c', zs', K, rfl, hP, hO, hb17⟩
          by_cases hK : K = 0
          · subst hK
            have HL17 := Lib.hid ((HC6).out.L.swap hb17 hO (hP rfl (HC6).out.L.ok (Hv).out))
            clear hP hO hb17 hk0 hp9 f1 f2
            go_wp2_with fail
            go_roundw
            case rel => exact ⟨k - 1, n', A', c', zs', by omega, rfl, int_eq (by omega), Lib.hid (HL17.out.more (by omega))⟩
            case measure => simp [intOf]; omega
          · have hK0 : (K == 0) = false := by simpa using hK
            have HL17 := Lib.hid ((HC6).out.L.next hb17)
            clear hP hO hb17 hk0 hp9 f1 f2
            go_wp2_with fail
            go_roundw
            case rel => exact ⟨k - 1, (n), _, c, zs, by omega, rfl, int_eq (by omega), Lib.hid (HL17.out.more (by omega))⟩
            case measure => simp [intOf]; omega
        · have hvi : 0 < v := by omega
          go_wp2_with fail
          refine (pickN_c (n : Int) lo b (a + 2 + 250 * (3 - k) + 200 + 2) _ HC6.out.L.sr (by omega) (by have := HC6.out.L.len; omega)).mono ?_
          rintro e w8 ⟨j, rfl, j0, j1, hs8, hg8⟩
          have hC8 := HC6.out.draw hlt hs8 hg8
          obtain ⟨j, rfl⟩ := Int.eq_ofNat_of_zero_le j0
          have hjn : j < n := by omega
          have j2 : (j : Int) < (n : Int) := by omega
          obtain ⟨bb, off, y, rfl, hbb, hy, hyo, hRo⟩ := hC8.L.sl.getR j hjn
          have hym := List.mem_of_getElem? hy
          have hyv : aidB y.a = true := aids_mem hC8.L.ok (List.mem_map_of_mem hym)
          have hyn := aids_num hC8.L.ok y.a (List.mem_map_of_mem hym)
          have hbO : Below w8.heap.size w8 (w8.alloc (aidO y 56)) := (Below.refl _ _).alloc (Nat.le_refl _) _
          have hoO : (w8.alloc (aidO y 56)).ownsRow w.heap.size 56 16 (.slice (some ⟨w8.heap.size, 0, none⟩) 1 1) 1 y.cells := lit_own w8 w.heap.size 56 (List.toArray y.cells) 1 16 hC8.L.gr.size (by decide) rfl
          have hCO := hC8.next hbO
          have hO9 := own_grown hoO (own_putV (corC 1 y) 0 _ _ hCO.y).2 (own_ne hoO hCO.y (by decide))
          have HC9 := Lib.hid (hCO.setY hlo 1 y)
          have hNy := HC9.out.L.own.new y hym
          have hT9 := hCO.thereY
          have hO1 : (List.toArray (corC 1 y)).all (·.oneCell') = true := all_oneCell_toArray (corc_one 1 y)
          have hRy : (w8.alloc (aidO y 56)).rangeAt w8.heap.size 0 y.cells := (own_aidp hoO).range
          obtain ⟨w9, hw9⟩ : ∃ w9, (w8.alloc (aidO y 56)).setCells (X + 1) 0 (corC 1 y) = w9 := ⟨_, rfl⟩
          rw [hw9] at HC9 hNy hO9
          obtain ⟨O, hO⟩ : ∃ O, w8.heap.size = O := ⟨_, rfl⟩
          rw [hO] at hO9 hRy
          have HRo := Lib.hid hRo; clear hRo
          have HRy := Lib.hid hRy; clear hRy
          have HNy := Lib.hid hNy; clear hNy
          have Hyv := Lib.hid hyv; clear hyv
          have HO9 := Lib.hid hO9; clear hO9
          have HT9 := Lib.hid hT9; clear hT9
          have HO1 := Lib.hid hO1; clear hO1
          have Hw9 := Lib.hid hw9; clear hw9
          clear hs8 hg8 HC6 hC8 hbO hoO hCO hy hym hyo
          go_wp2_with (first | (refine wpList_load_mid rfl _ _ rfl bb (off + j * 16) rfl (AidG.cells y) _ (HRo.out) Tryz.underlying56 rfl (by kernel_rfl) ?_) | (refine wpList_load_mid rfl _ _ rfl O (0) rfl (AidG.cells y) _ (HRy.out) Tryz.underlying56 rfl (by kernel_rfl) ?_) | (refine wpList_store_mid rfl _ _ _ rfl (X + 1) 0 (List.toArray (corC 1 y)) rfl rfl HT9.out (by kernel_rfl) HO1.out ?_; rw [show (w8.alloc (aidO y 56)).setCells (X + 1) 0 (List.toArray (corC 1 y)).toList = w9 from Hw9.out]))
          clear HRo HRy HT9 HO1 Hw9
          refine (one_c 2 lo b (a + 2 + 250 * (3 - k) + 200 + 2 + 2) _ HC9.out.L.sr (by omega) (by omega)).mono ?_
          rintro e w10 ⟨an, rfl, hs10, hg10⟩
          have HC10 := Lib.hid (HC9.out.draw hlt hs10 hg10)
          have HN10 := Lib.hid (HNy.out.src hg10 hlt)
          have hO10 := own_src HO9.out hg10 hlt
          clear hs10 hg10 HC9 HNy HO9
          cases an
          · clear hO10 hyn
            go_wp2_with fail
            obtain ⟨hk0, hp9⟩ := own_corp (HC10).out.y
            obtain ⟨f1, f2⟩ := own_form2 (HC10).out.L.own.own
            refine (l23Make_c _ (n) c zs (X + 1) (y) 1 _ (HC10).out.L.sl (by have := (HC10).out.L.len; omega) f1 f2 ((HN10).out.ok (valid_bd (Hyv).out)) hp9 hk0 (by decide)).mono ?_
            rintro e w17 ⟨A', n', c', zs', K, rfl, hP, hO, hb17⟩
            by_cases hK : K = 0
            · subst hK
              have HL17 := Lib.hid ((HC10).out.L.swap hb17 hO (hP rfl (HC10).out.L.ok (Hyv).out))
              clear hP hO hb17 hk0 hp9 f1 f2
              go_wp2_with fail
              go_roundw
              case rel => exact ⟨k - 1, n', A', c', zs', by omega, rfl, int_eq (by omega), Lib.hid (HL17.out.more (by omega))⟩
              case measure => simp [intOf]; omega
            · have hK0 : (K == 0) = false := by simpa using hK
              have HL17 := Lib.hid ((HC10).out.L.next hb17)
              clear hP hO hb17 hk0 hp9 f1 f2
              go_wp2_with fail
              go_roundw
              case rel => exact ⟨k - 1, (n), _, c, zs, by omega, rfl, int_eq (by omega), Lib.hid (HL17.out.more (by omega))⟩
              case measure => simp [intOf]; omega
          · have cO := (own_aidp hO10).c0
            have cX := (own_aidp HC10.out.x).c0
            have fX := HC10.out.x.frozenAt
            obtain ⟨z', hz'⟩ : ∃ q : AidG, (⟨{ z.a with num := y.a.num }, z.A, z.c, z.B, z.d⟩ : AidG) = q := ⟨_, rfl⟩
            have hC11 := HC10.out.setN hlo y.a.num
            have hv' : aidB z'.a = true := by rw [← hz']; exact num_valid Hv.out hyn
            rw [hz'] at hC11
            have hRx : (w10.setCell ⟨X, 0, none⟩ (.int .i64 y.a.num)).rangeAt X 0 z'.cells := (own_aidp hC11.x).range
            have hT12 := hC11.thereY
            have HC12 := Lib.hid (hC11.setY hlo 3 z')
            have hO12 : (List.toArray (corC 3 z')).all (·.oneCell') = true := all_oneCell_toArray (corc_one 3 z')
            obtain ⟨w12, hw12⟩ : ∃ w12, (w10.setCell ⟨X, 0, none⟩ (.int .i64 y.a.num)).setCells (X + 1) 0 (corC 3 z') = w12 := ⟨_, rfl⟩
            rw [hw12] at HC12
            have HN12 := Lib.hid HC12.out.nz
            clear hC11 hO10 hyn HC10 HN10 hz'
            have HRx := Lib.hid hRx; clear hRx
            have HT12 := Lib.hid hT12; clear hT12
            have HO12 := Lib.hid hO12; clear hO12
            have Hw12 := Lib.hid hw12; clear hw12
            have Hv2 := Lib.hid hv'; clear hv'
            go_wp2_with (first | (refine wpList_load_mid rfl _ _ rfl X (0) rfl (AidG.cells z') _ (HRx.out) Tryz.underlying56 rfl (by kernel_rfl) ?_) | (refine wpList_store_mid rfl _ _ _ rfl (X + 1) 0 (List.toArray (corC 3 z')) rfl rfl HT12.out (by kernel_rfl) HO12.out ?_; rw [show (w10.setCell ⟨X, 0, none⟩ (.int .i64 y.a.num)).setCells (X + 1) 0 (List.toArray (corC 3 z')).toList = w12 from Hw12.out]))
            obtain ⟨hk0, hp9⟩ := own_corp (HC12).out.y
            obtain ⟨f1, f2⟩ := own_form2 (HC12).out.L.own.own
            refine (l23Make_c _ (n) c zs (X + 1) (z') 3 _ (HC12).out.L.sl (by have := (HC12).out.L.len; omega) f1 f2 ((HN12).out.ok (valid_bd (Hv2).out)) hp9 hk0 (by decide)).mono ?_
            rintro e w17 ⟨A', n', c', zs', K, rfl, hP, hO, hb17⟩
            by_cases hK : K = 0
            · subst hK
              have HL17 := Lib.hid ((HC12).out.L.swap hb17 hO (hP rfl (HC12).out.L.ok (Hv2).out))
              clear hP hO hb17 hk0 hp9 f1 f2
              go_wp2_with fail
              go_roundw
              case rel => exact ⟨k - 1, n', A', c', zs', by omega, rfl, int_eq (by omega), Lib.hid (HL17.out.more (by omega))⟩
              case measure => simp [intOf]; omega
            · have hK0 : (K == 0) = false := by simpa using hK
              have HL17 := Lib.hid ((HC12).out.L.next hb17)
              clear hP hO hb17 hk0 hp9 f1 f2
              go_wp2_with fail
              go_roundw
              case rel => exact ⟨k - 1, (n), _, c, zs, by omega, rfl, int_eq (by omega), Lib.hid (HL17.out.more (by omega))⟩
              case measure => simp [intOf]; omega
    · obtain rfl : k = 0 := by omega
      go_wp2_with fail
      go_ret
      exact ⟨A, n, c, zs, rfl, HL.out.more (by omega)⟩
set_option maxRecDepth 100000 in
set_option maxHeartbeats 1000000 in
theorem r8Changed_c (hD : DrawC) (A : Option Addr) (n c : Nat) (bs : List Int) (A2 : Option Addr) (n2 c2 : Nat) (zs : List AidG) (w : World) (hx : Sl w w.heap.size 1 A n (bs.flatMap u8C)) (hb : ∀ x ∈ bs, 0 ≤ x ∧ x ≤ 255) (hn : n ≤ maxLen) (hz : AidSl w A2 n2 zs) (hok : aidsB (zs.map AidG.a) = true) :
    Calls Tryz.prog 7 #[.slice A n c, .slice A2 n2 c2] w fun e w' => ∃ (A' : Option Addr) (n' c' : Nat) (zs' : List AidG), e = .returned (.slice A' n' c') ∧ AidOwn w' w.heap.size (.slice A' n' c') n' zs' ∧ aidsB (zs'.map AidG.a) = true ∧ Below w.heap.size w w' := by
  have Hb := Lib.hid hb; clear hb
  have HDraw := Lib.hid hD; clear hD
  have HZ := Lib.hid hz; clear hz
  have Hok := Lib.hid hok; clear hok
  go_enter Tryz.func7, Tryz.ntmps7
  go_wp2_with fail
  refine (from_c A n c bs _ hx Hb.out hn).mono ?_
  rintro e w1 ⟨b, rfl, hs1, hb1⟩
  have hlo := hs1.lt
  go_wp2_with fail
  refine (l23DrawChanged_c HDraw.out w.heap.size b 0 A2 n2 c2 zs _ hs1 (by omega) (HZ.out.next hb1) Hok.out).mono ?_
  rintro e w2 ⟨A3, n3, c3, zs3, rfl, hL⟩
  go_wp2_with fail
  go_ret
  exact ⟨A3, n3, c3, zs3, rfl, ⟨own_base hL.own.own hb1.size, fun z hz => (hL.own.new z hz).base hb1.size⟩, hL.ok, hb1.grown hL.gr hb1.size fun g hg => by injection hg with hg; omega⟩
end Go.Proofs.YtpfnnjcochhklaaGreatDoor
