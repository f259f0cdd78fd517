
/- One aid that is drawn is valid. -/
import Derived.Test.YtpfnnjcochhklaaGreatDoorMgB
import Derived.Test.YtpfnnjcochhklaaGreatDoorCfZG
namespace Go.Proofs.YtpfnnjcochhklaaGreatDoor
open Go.RowKit
abbrev chZ : Ch := ⟨0, [], ⟨#[]⟩, ⟨#[]⟩, 0⟩
abbrev mkZ : Mk := ⟨0, ⟨#[]⟩, ⟨#[]⟩, ⟨#[]⟩⟩
theorem head_of {N x y ht : Int} {nm : ByteArray} {m : Mk} {ch : Ch} {secs : List Sec} {it : Int} (h1 : 1 ≤ N ∧ N ≤ 30) (h2 : nm ∈ drNames) (h3 : 0 ≤ x ∧ x ≤ 200000) (h4 : 0 ≤ y ∧ y ≤ 200000) (h5 : 0 ≤ ht ∧ ht ≤ 499) (h6 : markB m = true) : aidHeadB ⟨N, nm, x, y, ht, m, ch, secs, it⟩ = true := by
  rw [aidHeadB, inB_iff.2 (show 1 ≤ N ∧ N ≤ 9999 by omega), drNames_ok nm h2, inB_iff.2 h3, inB_iff.2 h4, inB_iff.2 (show 0 ≤ ht ∧ ht ≤ 3000 by omega), h6]; rfl
set_option maxRecDepth 100000 in
set_option maxHeartbeats 8000000 in
theorem l12DrawOne_c (lo b a : Nat) (w : World) (h : Src w lo b a) (ha : a ≤ 600000000) :
    Calls Tryz.prog 40 #[.pointer (some ⟨b, 0, none⟩)] w (DrawAns lo b (a + 200) w) := by
  have hbR : Below w.heap.size w (w.alloc (aidO aidZ 56)) := (Below.refl _ _).alloc (Nat.le_refl _) _
  have hoR : (w.alloc (aidO aidZ 56)).ownsRow w.heap.size 56 16 (.slice (some ⟨w.heap.size, 0, none⟩) 1 1) 1 aidZ.cells := lit_own w w.heap.size 56 (List.toArray aidZ.cells) 1 16 (Nat.le_refl _) (by decide) rfl
  have hlt := h.lt.2
  have hlo : lo ≤ w.heap.size := h.lo
  have hs0 := h.next hbR
  have hz0 : w.heap.size < (w.alloc (aidO aidZ 56)).heap.size := by simp
  clear h
  have HoR := Lib.hid hoR; clear hoR
  go_enter Tryz.func40, Tryz.ntmps40
  go_wp2_with fail
  change Calls _ _ _ (w.alloc (aidO aidZ 56)) _
  refine (pickN_c 30 lo b a _ hs0 (by omega) (by omega)).mono ?_
  rintro e w1 ⟨n, rfl, n0, n1, hs1, hg1⟩
  have hG1 : w.grownBy w1 (some b) := grown_trans (grown_of_below hbR) hg1
  have hoR1 := own_src HoR.out hg1 hlt
  have hz1 : w.heap.size < w1.heap.size := Nat.lt_of_lt_of_le hz0 hg1.size
  have eN : IntKind.i64.wrap (n + 1) = n + 1 := IntWalk.i64_in _ (by omega)
  obtain ⟨N, hN⟩ : ∃ N, n + 1 = N := ⟨_, rfl⟩
  have hNb : 1 ≤ N ∧ N ≤ 30 := by omega
  rw [hN] at eN
  clear n0 n1 hg1 hs0 hbR HoR hz0
  have hbX : Below w1.heap.size w1 (w1.alloc (aidO ⟨⟨N, ⟨#[]⟩, 0, 0, 0, mkZ, chZ, [], 0⟩, none, 0, none, 0⟩ 56)) := (Below.refl _ _).alloc (Nat.le_refl _) _
  have hoX : (w1.alloc (aidO ⟨⟨N, ⟨#[]⟩, 0, 0, 0, mkZ, chZ, [], 0⟩, none, 0, none, 0⟩ 56)).ownsRow w.heap.size 56 16 (.slice (some ⟨w1.heap.size, 0, none⟩) 1 1) 1 (AidG.cells ⟨⟨N, ⟨#[]⟩, 0, 0, 0, mkZ, chZ, [], 0⟩, none, 0, none, 0⟩) := lit_own w1 w.heap.size 56 (List.toArray (AidG.cells ⟨⟨N, ⟨#[]⟩, 0, 0, 0, mkZ, chZ, [], 0⟩, none, 0, none, 0⟩)) 1 16 hG1.size (by decide) rfl
  have HS1 : Hid (AiD w (w1.alloc (aidO ⟨⟨N, ⟨#[]⟩, 0, 0, 0, mkZ, chZ, [], 0⟩, none, 0, none, 0⟩ 56)) lo b (a + 2) w1.heap.size ⟨⟨N, ⟨#[]⟩, 0, 0, 0, mkZ, chZ, [], 0⟩, none, 0, none, 0⟩) :=
    Lib.hid ⟨hoX, own_next hoR1 hbX, by omega, World.ownsRow_nil _ _ _ _, World.ownsRow_nil _ _ _ _, hs1.next hbX, grown_trans hG1 (grown_of_below hbX), hlt, hlo⟩
  clear hoX hoR1 hs1 hG1 hbX
  obtain ⟨X, hX⟩ : ∃ X, w1.heap.size = X := ⟨_, rfl⟩
  go_wp2_with fail
  change Calls _ _ _ ((w1.alloc (aidO ⟨⟨N, ⟨#[]⟩, 0, 0, 0, mkZ, chZ, [], 0⟩, none, 0, none, 0⟩ 56)).alloc _) _
  have hzX : (w1.alloc (aidO ⟨⟨N, ⟨#[]⟩, 0, 0, 0, mkZ, chZ, [], 0⟩, none, 0, none, 0⟩ 56)).heap.size = w1.heap.size + 1 := by simp
  generalize w1.alloc (aidO ⟨⟨N, ⟨#[]⟩, 0, 0, 0, mkZ, chZ, [], 0⟩, none, 0, none, 0⟩ 56) = w2 at *
  rw [hX] at HS1
  rw [hX] at hzX
  have hbl : Below w2.heap.size w2 (w2.alloc (.cells #[.string ⟨#[114, 111, 99, 107]⟩, .string ⟨#[101, 97, 115, 116]⟩, .string ⟨#[112, 105, 101, 114]⟩, .string ⟨#[98, 97, 114]⟩, .string ⟨#[99, 97, 112, 101]⟩] 9)) := (Below.refl _ _).alloc (Nat.le_refl _) _
  have hol := lit_own w2 w2.heap.size 9 #[.string ⟨#[114, 111, 99, 107]⟩, .string ⟨#[101, 97, 115, 116]⟩, .string ⟨#[112, 105, 101, 114]⟩, .string ⟨#[98, 97, 114]⟩, .string ⟨#[99, 97, 112, 101]⟩] 5 1 (Nat.le_refl _) (by decide) rfl
  have hsl : Sl _ _ 1 _ 5 (drNames.flatMap strC) := Sl.of_own hol
  have hltr := HS1.out.sr.lt.2
  rw [hzX] at hsl hltr
  have hSl := HS1.out.next hbl
  refine (text_c _ 5 5 _ drNames lo b (a + 2) _ hSl.sr (by omega) hsl (Nat.le_refl _) (fun b' off e => by injection e with e; injection e with e; omega) (by omega) (by omega)).mono ?_
  rintro e w3 ⟨nm, rfl, hnm, hs3, hg3⟩
  have HS3 := Lib.hid (hSl.draw hs3 hg3)
  have HS4 := Lib.hid (HS3.out.put1 ⟨⟨N, nm, 0, 0, 0, mkZ, chZ, [], 0⟩, none, 0, none, 0⟩ 1 (.string nm) rfl HS3.out.grp HS3.out.sec)
  obtain ⟨c0, c1, c2, c3, c4, c5, c6, c7, c8, c9, c10, c11, c12, c13, c14, c15, _⟩ := (HS3).out.p
  have fx := (HS3).out.box.frozenAt
  simp only [Nat.zero_add] at c1 c2 c3 c4 c5 c6 c7 c8 c9 c10 c11 c12 c13 c14 c15
  try dsimp only at c0
  try simp only [List.length_nil] at c14
  have Hnm := Lib.hid hnm; clear hnm
  clear hs3 hg3 hSl hsl hltr hol hbl HS1 hzX
  go_wp2_with fail
  clear c0 c1 c2 c3 c4 c5 c6 c7 c8 c9 c10 c11 c12 c13 c14 c15 fx HS3
  refine (l02Draw_c lo b (a + 4) _ HS4.out.sr (by omega)).mono ?_
  rintro e w5 ⟨x, y, rfl, hx, hy, hs5, hg5⟩
  have HS5 := Lib.hid (HS4.out.draw hs5 hg5)
  have hT5 := HS5.out.thereX 2 2 (by omega)
  have hS6 := HS5.out.put ⟨⟨N, nm, x, y, 0, mkZ, chZ, [], 0⟩, none, 0, none, 0⟩ 2 [.int .i64 x, .int .i64 y] rfl HS5.out.grp HS5.out.sec
  obtain ⟨w6, hw6⟩ : ∃ w6, w5.setCells X 2 [.int .i64 x, .int .i64 y] = w6 := ⟨_, rfl⟩
  rw [hw6] at hS6
  have HS6 := Lib.hid hS6; clear hS6
  have HT5 := Lib.hid hT5; clear hT5
  have Hw6 := Lib.hid hw6; clear hw6
  clear hs5 hg5 HS4
  go_wp2_with (first | (refine wpList_store_mid rfl _ _ _ rfl X 2 (List.toArray [.int .i64 x, .int .i64 y]) rfl rfl HT5.out (by kernel_rfl) (all_oneCell_toArray (by simp [Value.oneCell'])) ?_; rw [show w5.setCells X 2 (List.toArray [.int .i64 x, .int .i64 y]).toList = w6 from Hw6.out]))
  clear HS5 HT5 Hw6
  refine (pickN_c 500 lo b (a + 4 + 20) _ HS6.out.sr (by omega) (by omega)).mono ?_
  rintro e w7 ⟨ht, rfl, t0, t1, hs7, hg7⟩
  have hht : 0 ≤ ht ∧ ht ≤ 499 := by omega
  have HS7 := Lib.hid (HS6.out.draw hs7 hg7)
  have HS8 := Lib.hid (HS7.out.put1 ⟨⟨N, nm, x, y, ht, mkZ, chZ, [], 0⟩, none, 0, none, 0⟩ 4 (.int .i64 ht) rfl HS7.out.grp HS7.out.sec)
  obtain ⟨c0, c1, c2, c3, c4, c5, c6, c7, c8, c9, c10, c11, c12, c13, c14, c15, _⟩ := (HS7).out.p
  have fx := (HS7).out.box.frozenAt
  simp only [Nat.zero_add] at c1 c2 c3 c4 c5 c6 c7 c8 c9 c10 c11 c12 c13 c14 c15
  try dsimp only at c0
  try simp only [List.length_nil] at c14
  clear hs7 hg7 HS6 t0 t1
  go_wp2_with fail
  clear c0 c1 c2 c3 c4 c5 c6 c7 c8 c9 c10 c11 c12 c13 c14 c15 fx HS7
  refine (one_c 2 lo b (a + 4 + 20 + 2) _ HS8.out.sr (by omega) (by omega)).mono ?_
  rintro e w9 ⟨an, rfl, hs9, hg9⟩
  have HS9 := Lib.hid (HS8.out.draw hs9 hg9)
  clear hs9 hg9 HS8
  go_upto_if 22 with fail
  go_cut [4, 5] (fun _s4 _s5 wx => ∃ m : Mk, markB m = true ∧ Hid (AiD w wx lo b (a + 40) X ⟨⟨N, nm, x, y, ht, m, chZ, [], 0⟩, none, 0, none, 0⟩))
  case first =>
    cases an
    · go_wp2_with fail
      go_meet
      exact ⟨mkZ, zeroMk_ok, Lib.hid (HS9.out.more (by omega))⟩
    · go_wp2_with fail
      as_aux_lemma =>
        refine (pickN_c 9 lo b (a + 4 + 20 + 2 + 2) _ HS9.out.sr (by omega) (by omega)).mono ?_
        rintro e w10 ⟨k, rfl, k0, k1, hs10, hg10⟩
        have HS10 := Lib.hid (HS9.out.draw hs10 hg10)
        have eK : IntKind.i64.wrap (k + 1) = k + 1 := IntWalk.i64_in _ (by omega)
        obtain ⟨K, hK⟩ : ∃ K, k + 1 = K := ⟨_, rfl⟩
        have hKb : 1 ≤ K ∧ K ≤ 9 := by omega
        rw [hK] at eK
        clear hs10 hg10 HS9 k0 k1
        go_wp2_with fail
        refine (stdMark_c K _ hKb).mono ?_
        rintro e w11 ⟨rfl, hb11⟩
        have hmk := stdMk_ok hKb
        rw [stdMk] at hmk
        obtain ⟨mc, hmc⟩ : ∃ mc, mkCol K = mc := ⟨_, rfl⟩
        obtain ⟨ms, hms⟩ : ∃ ms, (mkShp K).headD ⟨#[]⟩ = ms := ⟨_, rfl⟩
        obtain ⟨mt, hmt⟩ : ∃ mt, mkTop K = mt := ⟨_, rfl⟩
        rw [hmc, hms, hmt] at hmk ⊢
        have hS11 := HS10.out.next hb11
        have hbM : Below w11.heap.size w11 (w11.alloc (.cells #[.int .i64 K, .string mc, .string ms, .string mt] 51)) := (Below.refl _ _).alloc (Nat.le_refl _) _
        have HS12 := Lib.hid (hS11.next hbM)
        have hT12 := HS12.out.thereX 5 4 (by omega)
        have hS13 := HS12.out.put ⟨⟨N, nm, x, y, ht, ⟨K, mc, ms, mt⟩, chZ, [], 0⟩, none, 0, none, 0⟩ 5 [.int .i64 K, .string mc, .string ms, .string mt] rfl HS12.out.grp HS12.out.sec
        obtain ⟨w13, hw13⟩ : ∃ w13, (w11.alloc (.cells #[.int .i64 K, .string mc, .string ms, .string mt] 51)).setCells X 5 [.int .i64 K, .string mc, .string ms, .string mt] = w13 := ⟨_, rfl⟩
        rw [hw13] at hS13
        have HS13 := Lib.hid hS13; clear hS13
        have HT12 := Lib.hid hT12; clear hT12
        have Hw13 := Lib.hid hw13; clear hw13
        have Hmk := Lib.hid hmk; clear hmk
        clear hb11 hS11 hbM HS10 hmc hms hmt HS12
        go_wp2_with (first | (refine wpList_store_mid rfl _ _ _ rfl X 5 (List.toArray [.int .i64 K, .string mc, .string ms, .string mt]) rfl rfl HT12.out (by kernel_rfl) (all_oneCell_toArray (by simp [Value.oneCell'])) ?_; rw [show (w11.alloc (.cells #[.int .i64 K, .string mc, .string ms, .string mt] 51)).setCells X 5 (List.toArray [.int .i64 K, .string mc, .string ms, .string mt]).toList = w13 from Hw13.out]))
        go_meet
        exact ⟨⟨K, mc, ms, mt⟩, Hmk.out, Lib.hid (HS13.out.more (by omega))⟩
  case rest =>
    obtain ⟨⟨mk, mc, ms, mt⟩, hm, HS⟩ := hcut
    clear HS9
    have hhd : ∀ ch secs it, aidHeadB ⟨N, nm, x, y, ht, ⟨mk, mc, ms, mt⟩, ch, secs, it⟩ = true := fun _ _ _ => head_of hNb Hnm.out hx hy hht hm
    have Hhd := Lib.hid hhd; clear hhd
    clear hm hx hy hht hNb
    go_wp2_with fail
    refine (one_c 5 lo b (a + 40) _ HS.out.sr (by omega) (by omega)).mono ?_
    rintro e w14 ⟨an5, rfl, hs14, hg14⟩
    have HS14 := Lib.hid (HS.out.draw hs14 hg14)
    clear hs14 hg14 HS
    cases an5
    · go_wp2_with fail
      have hD5 : Calls Tryz.prog 70 #[.pointer (some ⟨b, 0, none⟩)] w14 fun e w' => ∃ (k : Int) (gs : List Int) (l cs : ByteArray) (p : Int) (A : Option Addr) (ng c : Nat), e = .returned (.agg #[.int .i64 k, .slice A ng c, .string l, .string cs, .int .i64 p]) ∧ gs.length = ng ∧ validB ⟨k, gs, l, cs, p⟩ = true ∧ w'.ownsRow w14.heap.size 2 1 (.slice A ng c) ng (gs.flatMap intC) ∧ Src w' lo b (a + 40 + 2 + 40) ∧ w14.grownBy w' (some b) := by
        refine (l05Draw_c lo b (a + 40 + 2) _ HS14.out.sr (by omega)).mono ?_
        rintro e w15 ⟨⟨⟨k, gs, l, cs, p⟩, A, c⟩, rfl, hv, hog, hs15, hg15⟩
        exact ⟨k, gs, l, cs, p, A, _, c, rfl, rfl, hv, hog, hs15, hg15⟩
      refine hD5.mono ?_
      rintro e w15 ⟨k, gs, l, cs, p, A, ng, c, rfl, hng, hv, hog, hs15, hg15⟩
      have HS15 := Lib.hid (HS14.out.draw hs15 hg15)
      replace hog := own_base (base' := w.heap.size) hog HS14.out.gr.size
      clear hD5
      have hcb : colorsB cs = true := by
        have h1 := valid_shape hv
        simp only [shapeB, Bool.and_eq_true] at h1
        exact h1.1
      obtain ⟨hf1, hf2⟩ := first_colors hcb
      have hcs1 : 1 ≤ cs.size := by
        rw [ByteArray.size_extract] at hf2
        omega
      have hT15 := HS15.out.thereX 9 5 (by omega)
      have hS16 := HS15.out.put ⟨⟨N, nm, x, y, ht, ⟨mk, mc, ms, mt⟩, ⟨k, gs, l, cs, p⟩, [], 0⟩, A, c, none, 0⟩ 9 [.int .i64 k, .slice A ng c, .string l, .string cs, .int .i64 p] (by rw [← hng]; rfl) (by rw [← hng] at hog; exact hog) HS15.out.sec
      obtain ⟨w16, hw16⟩ : ∃ w16, w15.setCells X 9 [.int .i64 k, .slice A ng c, .string l, .string cs, .int .i64 p] = w16 := ⟨_, rfl⟩
      rw [hw16] at hS16
      have hbl : Below w16.heap.size w16 (w16.alloc (.cells #[.int .i64 10, .int .i64 1000, .int .i64 20000, .int .i64 1000000, .int .i64 1] 2)) := (Below.refl _ _).alloc (Nat.le_refl _) _
      have hol := lit_own w16 w16.heap.size 2 #[.int .i64 10, .int .i64 1000, .int .i64 20000, .int .i64 1000000, .int .i64 1] 5 1 (Nat.le_refl _) (by decide) rfl
      have hsl : Sl _ _ 1 _ 5 (([10, 1000, 20000, 1000000, 1] : List Int).flatMap intC) := Sl.of_own hol
      have hltr := hS16.sr.lt.2
      have HS17 := Lib.hid (hS16.next hbl)
      have HT15 := Lib.hid hT15; clear hT15
      have Hw16 := Lib.hid hw16; clear hw16
      have Hv := Lib.hid hv; clear hv
      have Hng := Lib.hid hng; clear hng
      have Hf1 := Lib.hid hf1; clear hf1
      have Hf2 := Lib.hid hf2; clear hf2
      clear hs15 hg15 HS14 HS15 hS16 hog hcb hbl hol
      go_wp2_with (first | (refine wpList_store_mid rfl _ _ _ rfl X 9 (List.toArray [.int .i64 k, .slice A ng c, .string l, .string cs, .int .i64 p]) rfl rfl HT15.out (by kernel_rfl) (all_oneCell_toArray (by simp [Value.oneCell'])) ?_; rw [show w15.setCells X 9 (List.toArray [.int .i64 k, .slice A ng c, .string l, .string cs, .int .i64 p]).toList = w16 from Hw16.out]))
      clear HT15 Hw16 Hng
      as_aux_lemma =>
        refine (among_c _ 5 5 _ [10, 1000, 20000, 1000000, 1] lo b (a + 40 + 2 + 40) _ HS17.out.sr (by omega) hsl (Nat.le_refl _) (fun b' off e => by injection e with e; injection e with e; omega) (by omega) (by omega)).mono ?_
        rintro e w18 ⟨it, rfl, hit, hs18, hg18⟩
        have hib : 1 ≤ it ∧ it ≤ 100000000 := by simp at hit; omega
        have HS18 := Lib.hid (HS17.out.draw hs18 hg18)
        have HS19 := Lib.hid (HS18.out.put1 ⟨⟨N, nm, x, y, ht, ⟨mk, mc, ms, mt⟩, ⟨k, gs, l, cs, p⟩, [], it⟩, A, c, none, 0⟩ 15 (.int .i64 it) rfl HS18.out.grp HS18.out.sec)
        obtain ⟨c0, c1, c2, c3, c4, c5, c6, c7, c8, c9, c10, c11, c12, c13, c14, c15, _⟩ := (HS18).out.p
        have fx := (HS18).out.box.frozenAt
        simp only [Nat.zero_add] at c1 c2 c3 c4 c5 c6 c7 c8 c9 c10 c11 c12 c13 c14 c15
        try dsimp only at c0
        try simp only [List.length_nil] at c14
        clear hs18 hg18 HS17 hit hsl hltr
        go_wp2_with fail
        clear c0 c1 c2 c3 c4 c5 c6 c7 c8 c9 c10 c11 c12 c13 c14 c15 fx HS18
        as_aux_lemma =>
          refine (one_c 2 lo b (a + 40 + 2 + 40 + 2) _ HS19.out.sr (by omega) (by omega)).mono ?_
          rintro e w20 ⟨an2, rfl, hs20, hg20⟩
          have HS20 := Lib.hid (HS19.out.draw hs20 hg20)
          clear hs20 hg20 HS19
          have hv1 : ∀ (B : Option Addr) (d : Nat), aidB (AidG.a ⟨⟨N, nm, x, y, ht, ⟨mk, mc, ms, mt⟩, ⟨k, gs, l, cs.extract 0 1, p⟩, [], it⟩, A, c, B, d⟩) = true := fun _ _ => lit_plain (Hhd.out _ _ _) (valid_cs Hv.out Hf1.out) hib rfl Hf2.out
          have Hv1 := Lib.hid hv1; clear hv1
          cases an2
          · go_wp2_with fail
            as_aux_lemma =>
              refine (l08DrawOk_c lo b (a + 40 + 2 + 40 + 2 + 2) _ HS20.out.sr (by omega)).mono ?_
              rintro e w21 ⟨B, m, d, zs, rfl, hm5, hA, hsv⟩
              have HS21 := Lib.hid (HS20.out.draw hA.sr hA.gr)
              have hos := own_base (base' := w.heap.size) hA.own HS20.out.gr.size
              have hln : zs.length = m := hA.ln
              by_cases hz : zs = []
              · subst hz
                obtain rfl : m = 0 := hln.symm
                have HS22 := Lib.hid (HS21.out.put1 ⟨⟨N, nm, x, y, ht, ⟨mk, mc, ms, mt⟩, ⟨k, gs, l, cs, p⟩, [], it⟩, A, c, B, d⟩ 14 (.slice B 0 d) rfl HS21.out.grp hos)
                have Hsv := Lib.hid hsv; clear hsv
                clear hA hos HS20
                have HS23 := Lib.hid (HS22.out.put1 ⟨⟨N, nm, x, y, ht, ⟨mk, mc, ms, mt⟩, ⟨k, gs, l, cs.extract 0 1, p⟩, [], it⟩, A, c, B, d⟩ 12 (.string (cs.extract 0 1)) rfl HS22.out.grp HS22.out.sec)
                have Hv2 := Lib.hid (Hv1.out B d)
                have hRg := (HS23).out.p.range
                have c12 := (HS21).out.p.c12
                have c14 := (HS21).out.p.c14
                have fx := (HS21).out.box.frozenAt
                simp only [Nat.zero_add] at c12 c14
                have hT := (HS23).out.thereR
                obtain ⟨hP, hN, hR, hG⟩ := (HS23).out.fin
                have hO : (List.toArray (AidG.cells (⟨⟨N, nm, x, y, ht, ⟨mk, mc, ms, mt⟩, ⟨k, gs, l, cs.extract 0 1, p⟩, [], it⟩, A, c, B, d⟩ : AidG))).all (·.oneCell') = true := all_oneCell_toArray (aidg_one _)
                obtain ⟨wE, hwE⟩ : ∃ wE, ((w21.setCell ⟨X, 14, none⟩ (.slice B 0 d)).setCell ⟨X, 12, none⟩ (.string (cs.extract 0 1))).setCells w.heap.size 0 (AidG.cells (⟨⟨N, nm, x, y, ht, ⟨mk, mc, ms, mt⟩, ⟨k, gs, l, cs.extract 0 1, p⟩, [], it⟩, A, c, B, d⟩ : AidG)) = wE := ⟨_, rfl⟩
                rw [hwE] at hP hN hR hG
                have hPR := hP.range
                have HRg := Lib.hid hRg; clear hRg
                have HPR := Lib.hid hPR; clear hPR
                have HT := Lib.hid hT; clear hT
                have HN := Lib.hid hN; clear hN
                have HR := Lib.hid hR; clear hR
                have HG := Lib.hid hG; clear hG
                have HO := Lib.hid hO; clear hO
                have HwE := Lib.hid hwE; clear hwE
                clear hP
                go_wp2_with (first | (refine wpList_load_mid rfl 56 _ rfl X 0 rfl (AidG.cells (⟨⟨N, nm, x, y, ht, ⟨mk, mc, ms, mt⟩, ⟨k, gs, l, cs.extract 0 1, p⟩, [], it⟩, A, c, B, d⟩ : AidG)) _ HRg.out Tryz.underlying56 rfl (by kernel_rfl) ?_) | (refine wpList_store_mid rfl _ _ _ rfl w.heap.size 0 (List.toArray (AidG.cells (⟨⟨N, nm, x, y, ht, ⟨mk, mc, ms, mt⟩, ⟨k, gs, l, cs.extract 0 1, p⟩, [], it⟩, A, c, B, d⟩ : AidG))) rfl rfl HT.out (by kernel_rfl) HO.out ?_; rw [show ((w21.setCell ⟨X, 14, none⟩ (.slice B 0 d)).setCell ⟨X, 12, none⟩ (.string (cs.extract 0 1))).setCells w.heap.size 0 (List.toArray (AidG.cells (⟨⟨N, nm, x, y, ht, ⟨mk, mc, ms, mt⟩, ⟨k, gs, l, cs.extract 0 1, p⟩, [], it⟩, A, c, B, d⟩ : AidG))).toList = wE from HwE.out]))
                exact bodyPost_ret (v := AidG.val (⟨⟨N, nm, x, y, ht, ⟨mk, mc, ms, mt⟩, ⟨k, gs, l, cs.extract 0 1, p⟩, [], it⟩, A, c, B, d⟩ : AidG)) (results_cell_mid Tryz.results40 _ wE w.heap.size 0 (AidG.cells (⟨⟨N, nm, x, y, ht, ⟨mk, mc, ms, mt⟩, ⟨k, gs, l, cs.extract 0 1, p⟩, [], it⟩, A, c, B, d⟩ : AidG)) _ rfl HPR.out Tryz.underlying56 rfl (by kernel_rfl)) rfl ⟨(⟨⟨N, nm, x, y, ht, ⟨mk, mc, ms, mt⟩, ⟨k, gs, l, cs.extract 0 1, p⟩, [], it⟩, A, c, B, d⟩ : AidG), rfl, (Hv2).out, HN.out, HR.out.more (by omega), HG.out⟩
              · obtain rfl := hln
                have HS22 := Lib.hid (HS21.out.put1 ⟨⟨N, nm, x, y, ht, ⟨mk, mc, ms, mt⟩, ⟨k, gs, l, cs, p⟩, zs, it⟩, A, c, B, d⟩ 14 (.slice B zs.length d) rfl HS21.out.grp hos)
                have Hsv := Lib.hid hsv; clear hsv
                clear hA hos HS20
                have hb0 : ((zs.length : Int) == 0) = false := by simp [hz]
                obtain ⟨c0, c1, c2, c3, c4, c5, c6, c7, c8, c9, c10, c11, c12, c13, c14, c15, _⟩ := (HS21).out.p
                have fx := (HS21).out.box.frozenAt
                simp only [Nat.zero_add] at c1 c2 c3 c4 c5 c6 c7 c8 c9 c10 c11 c12 c13 c14 c15
                try dsimp only at c0
                try simp only [List.length_nil] at c14
                have hlen : zs.length ≠ 0 := fun e => hz (List.length_eq_zero_iff.1 e)
                have hne := hz
                have hn0 : (0 : Int) < (zs.length : Int) := by omega
                go_wp2_with fail
                as_aux_lemma =>
                  refine (l08Colors_c B zs.length d zs _ (Sl.of_own HS22.out.sec) (by omega)).mono ?_
                  rintro e w22 ⟨rfl, hb22⟩
                  have HS23 := Lib.hid (HS22.out.next hb22)
                  have hcl : ∀ s ∈ zs, colB s.c = true := fun s hs => by
                    have h1 := Hsv.out
                    rw [secsB, decide_eq_true_eq] at h1
                    obtain ⟨i, hi⟩ := List.getElem?_of_mem hs
                    have h2 := h1.2.1 i (List.getElem?_eq_some_iff.1 hi).1
                    rw [sAt_eq hi] at h2
                    exact (secOk_bd h2).2.2
                  have hcz : (bs (colsOf zs)).size = (colsOf zs).length := by
                    show (colsOf zs).toArray.size = _
                    rw [List.size_toArray]
                  have hok := colsOf_ok hcl hne
                  obtain ⟨C, hC⟩ : ∃ C, bs (colsOf zs) = C := ⟨_, rfl⟩
                  rw [hC] at hcz hok ⊢
                  have HC := Lib.hid hC; clear hC
                  clear c0 c1 c2 c3 c4 c5 c6 c7 c8 c9 c10 c11 c12 c13 c14 c15 fx hb22 HS21 HS22 hcl
                  by_cases h3 : 3 < C.size
                  · have h3i : (3 : Int) < (C.size : Int) := by omega
                    have hbn : Below w22.heap.size w22 (w22.alloc (.cells #[.int .i64 10, .int .i64 200, .string ⟨#[71]⟩] 94)) := (Below.refl _ _).alloc (Nat.le_refl _) _
                    have hon := lit_own w22 w.heap.size 94 #[.int .i64 10, .int .i64 200, .string ⟨#[71]⟩] 1 3 HS23.out.gr.size (by decide) rfl
                    have HS24 := Lib.hid (HS23.out.next hbn)
                    have HS25 := Lib.hid (HS24.out.put1 ⟨⟨N, nm, x, y, ht, ⟨mk, mc, ms, mt⟩, ⟨k, gs, l, cs, p⟩, [⟨10, 200, ⟨#[71]⟩⟩], it⟩, A, c, some ⟨w22.heap.size, 0, none⟩, 1⟩ 14 (.slice (some ⟨w22.heap.size, 0, none⟩) 1 1) rfl HS24.out.grp hon)
                    have HS26 := Lib.hid (HS25.out.put1 ⟨⟨N, nm, x, y, ht, ⟨mk, mc, ms, mt⟩, ⟨k, gs, l, ⟨#[71]⟩, p⟩, [⟨10, 200, ⟨#[71]⟩⟩], it⟩, A, c, some ⟨w22.heap.size, 0, none⟩, 1⟩ 12 (.string ⟨#[71]⟩) rfl HS25.out.grp HS25.out.sec)
                    have hG : colB ⟨#[71]⟩ = true := by simp [colB, ByteArray.toList_eq]
                    have hs1 : secsB [⟨10, 200, ⟨#[71]⟩⟩] = true := ((SecD.nil (st := 10) (by omega)).push (d := 190) hG (by omega) (by omega) (by omega) (by omega)).valid (by simp)
                    have hv2 : aidB (AidG.a ⟨⟨N, nm, x, y, ht, ⟨mk, mc, ms, mt⟩, ⟨k, gs, l, ⟨#[71]⟩, p⟩, [⟨10, 200, ⟨#[71]⟩⟩], it⟩, A, c, some ⟨w22.heap.size, 0, none⟩, 1⟩) = true := lit_secs (Hhd.out _ _ _) (valid_cs Hv.out (by decide)) hib hs1 (by simp) (by simp [colsOf, bs, ByteArray.toList_eq])
                    have Hv2 := Lib.hid hv2; clear hv2
                    clear hbn hon HS23 hok hG hs1
                    have hRg := (HS26).out.p.range
                    have c12 := (HS24).out.p.c12
                    have c14 := (HS24).out.p.c14
                    have fx := (HS24).out.box.frozenAt
                    simp only [Nat.zero_add] at c12 c14
                    have hT := (HS26).out.thereR
                    obtain ⟨hP, hN, hR, hG⟩ := (HS26).out.fin
                    have hO : (List.toArray (AidG.cells (⟨⟨N, nm, x, y, ht, ⟨mk, mc, ms, mt⟩, ⟨k, gs, l, ⟨#[71]⟩, p⟩, [⟨10, 200, ⟨#[71]⟩⟩], it⟩, A, c, some ⟨w22.heap.size, 0, none⟩, 1⟩ : AidG))).all (·.oneCell') = true := all_oneCell_toArray (aidg_one _)
                    obtain ⟨wE, hwE⟩ : ∃ wE, (((w22.alloc (.cells #[.int .i64 10, .int .i64 200, .string ⟨#[71]⟩] 94)).setCell ⟨X, 14, none⟩ (.slice (some ⟨w22.heap.size, 0, none⟩) 1 1)).setCell ⟨X, 12, none⟩ (.string ⟨#[71]⟩)).setCells w.heap.size 0 (AidG.cells (⟨⟨N, nm, x, y, ht, ⟨mk, mc, ms, mt⟩, ⟨k, gs, l, ⟨#[71]⟩, p⟩, [⟨10, 200, ⟨#[71]⟩⟩], it⟩, A, c, some ⟨w22.heap.size, 0, none⟩, 1⟩ : AidG)) = wE := ⟨_, rfl⟩
                    rw [hwE] at hP hN hR hG
                    have hPR := hP.range
                    have HRg := Lib.hid hRg; clear hRg
                    have HPR := Lib.hid hPR; clear hPR
                    have HT := Lib.hid hT; clear hT
                    have HN := Lib.hid hN; clear hN
                    have HR := Lib.hid hR; clear hR
                    have HG := Lib.hid hG; clear hG
                    have HO := Lib.hid hO; clear hO
                    have HwE := Lib.hid hwE; clear hwE
                    clear hP
                    go_wp2_with (first | (refine wpList_load_mid rfl 56 _ rfl X 0 rfl (AidG.cells (⟨⟨N, nm, x, y, ht, ⟨mk, mc, ms, mt⟩, ⟨k, gs, l, ⟨#[71]⟩, p⟩, [⟨10, 200, ⟨#[71]⟩⟩], it⟩, A, c, some ⟨w22.heap.size, 0, none⟩, 1⟩ : AidG)) _ HRg.out Tryz.underlying56 rfl (by kernel_rfl) ?_) | (refine wpList_store_mid rfl _ _ _ rfl w.heap.size 0 (List.toArray (AidG.cells (⟨⟨N, nm, x, y, ht, ⟨mk, mc, ms, mt⟩, ⟨k, gs, l, ⟨#[71]⟩, p⟩, [⟨10, 200, ⟨#[71]⟩⟩], it⟩, A, c, some ⟨w22.heap.size, 0, none⟩, 1⟩ : AidG))) rfl rfl HT.out (by kernel_rfl) HO.out ?_; rw [show (((w22.alloc (.cells #[.int .i64 10, .int .i64 200, .string ⟨#[71]⟩] 94)).setCell ⟨X, 14, none⟩ (.slice (some ⟨w22.heap.size, 0, none⟩) 1 1)).setCell ⟨X, 12, none⟩ (.string ⟨#[71]⟩)).setCells w.heap.size 0 (List.toArray (AidG.cells (⟨⟨N, nm, x, y, ht, ⟨mk, mc, ms, mt⟩, ⟨k, gs, l, ⟨#[71]⟩, p⟩, [⟨10, 200, ⟨#[71]⟩⟩], it⟩, A, c, some ⟨w22.heap.size, 0, none⟩, 1⟩ : AidG))).toList = wE from HwE.out]))
                    exact bodyPost_ret (v := AidG.val (⟨⟨N, nm, x, y, ht, ⟨mk, mc, ms, mt⟩, ⟨k, gs, l, ⟨#[71]⟩, p⟩, [⟨10, 200, ⟨#[71]⟩⟩], it⟩, A, c, some ⟨w22.heap.size, 0, none⟩, 1⟩ : AidG)) (results_cell_mid Tryz.results40 _ wE w.heap.size 0 (AidG.cells (⟨⟨N, nm, x, y, ht, ⟨mk, mc, ms, mt⟩, ⟨k, gs, l, ⟨#[71]⟩, p⟩, [⟨10, 200, ⟨#[71]⟩⟩], it⟩, A, c, some ⟨w22.heap.size, 0, none⟩, 1⟩ : AidG)) _ rfl HPR.out Tryz.underlying56 rfl (by kernel_rfl)) rfl ⟨(⟨⟨N, nm, x, y, ht, ⟨mk, mc, ms, mt⟩, ⟨k, gs, l, ⟨#[71]⟩, p⟩, [⟨10, 200, ⟨#[71]⟩⟩], it⟩, A, c, some ⟨w22.heap.size, 0, none⟩, 1⟩ : AidG), rfl, (Hv2).out, HN.out, HR.out.more (by omega), HG.out⟩
                  · have h3i : (C.size : Int) ≤ 3 := by omega
                    have HS24 := Lib.hid (HS23.out.put1 ⟨⟨N, nm, x, y, ht, ⟨mk, mc, ms, mt⟩, ⟨k, gs, l, C, p⟩, zs, it⟩, A, c, B, d⟩ 12 (.string C) rfl HS23.out.grp HS23.out.sec)
                    have hv2 : aidB (AidG.a ⟨⟨N, nm, x, y, ht, ⟨mk, mc, ms, mt⟩, ⟨k, gs, l, C, p⟩, zs, it⟩, A, c, B, d⟩) = true := lit_secs (Hhd.out _ _ _) (valid_cs Hv.out (hok (by omega))) hib Hsv.out hne HC.out.symm
                    have Hv2 := Lib.hid hv2; clear hv2
                    clear hok
                    have hRg := (HS24).out.p.range
                    have c12 := (HS23).out.p.c12
                    have c14 := (HS23).out.p.c14
                    have fx := (HS23).out.box.frozenAt
                    simp only [Nat.zero_add] at c12 c14
                    have hT := (HS24).out.thereR
                    obtain ⟨hP, hN, hR, hG⟩ := (HS24).out.fin
                    have hO : (List.toArray (AidG.cells (⟨⟨N, nm, x, y, ht, ⟨mk, mc, ms, mt⟩, ⟨k, gs, l, C, p⟩, zs, it⟩, A, c, B, d⟩ : AidG))).all (·.oneCell') = true := all_oneCell_toArray (aidg_one _)
                    obtain ⟨wE, hwE⟩ : ∃ wE, (w22.setCell ⟨X, 12, none⟩ (.string C)).setCells w.heap.size 0 (AidG.cells (⟨⟨N, nm, x, y, ht, ⟨mk, mc, ms, mt⟩, ⟨k, gs, l, C, p⟩, zs, it⟩, A, c, B, d⟩ : AidG)) = wE := ⟨_, rfl⟩
                    rw [hwE] at hP hN hR hG
                    have hPR := hP.range
                    have HRg := Lib.hid hRg; clear hRg
                    have HPR := Lib.hid hPR; clear hPR
                    have HT := Lib.hid hT; clear hT
                    have HN := Lib.hid hN; clear hN
                    have HR := Lib.hid hR; clear hR
                    have HG := Lib.hid hG; clear hG
                    have HO := Lib.hid hO; clear hO
                    have HwE := Lib.hid hwE; clear hwE
                    clear hP
                    go_wp2_with (first | (refine wpList_load_mid rfl 56 _ rfl X 0 rfl (AidG.cells (⟨⟨N, nm, x, y, ht, ⟨mk, mc, ms, mt⟩, ⟨k, gs, l, C, p⟩, zs, it⟩, A, c, B, d⟩ : AidG)) _ HRg.out Tryz.underlying56 rfl (by kernel_rfl) ?_) | (refine wpList_store_mid rfl _ _ _ rfl w.heap.size 0 (List.toArray (AidG.cells (⟨⟨N, nm, x, y, ht, ⟨mk, mc, ms, mt⟩, ⟨k, gs, l, C, p⟩, zs, it⟩, A, c, B, d⟩ : AidG))) rfl rfl HT.out (by kernel_rfl) HO.out ?_; rw [show (w22.setCell ⟨X, 12, none⟩ (.string C)).setCells w.heap.size 0 (List.toArray (AidG.cells (⟨⟨N, nm, x, y, ht, ⟨mk, mc, ms, mt⟩, ⟨k, gs, l, C, p⟩, zs, it⟩, A, c, B, d⟩ : AidG))).toList = wE from HwE.out]))
                    exact bodyPost_ret (v := AidG.val (⟨⟨N, nm, x, y, ht, ⟨mk, mc, ms, mt⟩, ⟨k, gs, l, C, p⟩, zs, it⟩, A, c, B, d⟩ : AidG)) (results_cell_mid Tryz.results40 _ wE w.heap.size 0 (AidG.cells (⟨⟨N, nm, x, y, ht, ⟨mk, mc, ms, mt⟩, ⟨k, gs, l, C, p⟩, zs, it⟩, A, c, B, d⟩ : AidG)) _ rfl HPR.out Tryz.underlying56 rfl (by kernel_rfl)) rfl ⟨(⟨⟨N, nm, x, y, ht, ⟨mk, mc, ms, mt⟩, ⟨k, gs, l, C, p⟩, zs, it⟩, A, c, B, d⟩ : AidG), rfl, (Hv2).out, HN.out, HR.out.more (by omega), HG.out⟩
          · have HS21 := Lib.hid (HS20.out.put1 ⟨⟨N, nm, x, y, ht, ⟨mk, mc, ms, mt⟩, ⟨k, gs, l, cs.extract 0 1, p⟩, [], it⟩, A, c, none, 0⟩ 12 (.string (cs.extract 0 1)) rfl HS20.out.grp HS20.out.sec)
            have Hv2 := Lib.hid (Hv1.out none 0)
            have hRg := (HS21).out.p.range
            have c12 := (HS20).out.p.c12
            have c14 := (HS20).out.p.c14
            have fx := (HS20).out.box.frozenAt
            simp only [Nat.zero_add] at c12 c14
            have hT := (HS21).out.thereR
            obtain ⟨hP, hN, hR, hG⟩ := (HS21).out.fin
            have hO : (List.toArray (AidG.cells (⟨⟨N, nm, x, y, ht, ⟨mk, mc, ms, mt⟩, ⟨k, gs, l, cs.extract 0 1, p⟩, [], it⟩, A, c, none, 0⟩ : AidG))).all (·.oneCell') = true := all_oneCell_toArray (aidg_one _)
            obtain ⟨wE, hwE⟩ : ∃ wE, (w20.setCell ⟨X, 12, none⟩ (.string (cs.extract 0 1))).setCells w.heap.size 0 (AidG.cells (⟨⟨N, nm, x, y, ht, ⟨mk, mc, ms, mt⟩, ⟨k, gs, l, cs.extract 0 1, p⟩, [], it⟩, A, c, none, 0⟩ : AidG)) = wE := ⟨_, rfl⟩
            rw [hwE] at hP hN hR hG
            have hPR := hP.range
            have HRg := Lib.hid hRg; clear hRg
            have HPR := Lib.hid hPR; clear hPR
            have HT := Lib.hid hT; clear hT
            have HN := Lib.hid hN; clear hN
            have HR := Lib.hid hR; clear hR
            have HG := Lib.hid hG; clear hG
            have HO := Lib.hid hO; clear hO
            have HwE := Lib.hid hwE; clear hwE
            clear hP
            go_wp2_with (first | (refine wpList_load_mid rfl 56 _ rfl X 0 rfl (AidG.cells (⟨⟨N, nm, x, y, ht, ⟨mk, mc, ms, mt⟩, ⟨k, gs, l, cs.extract 0 1, p⟩, [], it⟩, A, c, none, 0⟩ : AidG)) _ HRg.out Tryz.underlying56 rfl (by kernel_rfl) ?_) | (refine wpList_store_mid rfl _ _ _ rfl w.heap.size 0 (List.toArray (AidG.cells (⟨⟨N, nm, x, y, ht, ⟨mk, mc, ms, mt⟩, ⟨k, gs, l, cs.extract 0 1, p⟩, [], it⟩, A, c, none, 0⟩ : AidG))) rfl rfl HT.out (by kernel_rfl) HO.out ?_; rw [show (w20.setCell ⟨X, 12, none⟩ (.string (cs.extract 0 1))).setCells w.heap.size 0 (List.toArray (AidG.cells (⟨⟨N, nm, x, y, ht, ⟨mk, mc, ms, mt⟩, ⟨k, gs, l, cs.extract 0 1, p⟩, [], it⟩, A, c, none, 0⟩ : AidG))).toList = wE from HwE.out]))
            exact bodyPost_ret (v := AidG.val (⟨⟨N, nm, x, y, ht, ⟨mk, mc, ms, mt⟩, ⟨k, gs, l, cs.extract 0 1, p⟩, [], it⟩, A, c, none, 0⟩ : AidG)) (results_cell_mid Tryz.results40 _ wE w.heap.size 0 (AidG.cells (⟨⟨N, nm, x, y, ht, ⟨mk, mc, ms, mt⟩, ⟨k, gs, l, cs.extract 0 1, p⟩, [], it⟩, A, c, none, 0⟩ : AidG)) _ rfl HPR.out Tryz.underlying56 rfl (by kernel_rfl)) rfl ⟨(⟨⟨N, nm, x, y, ht, ⟨mk, mc, ms, mt⟩, ⟨k, gs, l, cs.extract 0 1, p⟩, [], it⟩, A, c, none, 0⟩ : AidG), rfl, (Hv2).out, HN.out, HR.out.more (by omega), HG.out⟩
    · have hv : aidB ⟨N, nm, x, y, ht, ⟨mk, mc, ms, mt⟩, chZ, [], 0⟩ = true := unlit_ok (Hhd.out _ _ _) rfl rfl rfl
      have Hv := Lib.hid hv; clear hv
      have hRg := (HS14).out.p.range
      have c12 := (HS14).out.p.c12
      have c14 := (HS14).out.p.c14
      have fx := (HS14).out.box.frozenAt
      simp only [Nat.zero_add] at c12 c14
      have hT := (HS14).out.thereR
      obtain ⟨hP, hN, hR, hG⟩ := (HS14).out.fin
      have hO : (List.toArray (AidG.cells (⟨⟨N, nm, x, y, ht, ⟨mk, mc, ms, mt⟩, chZ, [], 0⟩, none, 0, none, 0⟩ : AidG))).all (·.oneCell') = true := all_oneCell_toArray (aidg_one _)
      obtain ⟨wE, hwE⟩ : ∃ wE, (w14).setCells w.heap.size 0 (AidG.cells (⟨⟨N, nm, x, y, ht, ⟨mk, mc, ms, mt⟩, chZ, [], 0⟩, none, 0, none, 0⟩ : AidG)) = wE := ⟨_, rfl⟩
      rw [hwE] at hP hN hR hG
      have hPR := hP.range
      have HRg := Lib.hid hRg; clear hRg
      have HPR := Lib.hid hPR; clear hPR
      have HT := Lib.hid hT; clear hT
      have HN := Lib.hid hN; clear hN
      have HR := Lib.hid hR; clear hR
      have HG := Lib.hid hG; clear hG
      have HO := Lib.hid hO; clear hO
      have HwE := Lib.hid hwE; clear hwE
      clear hP
      go_wp2_with (first | (refine wpList_load_mid rfl 56 _ rfl X 0 rfl (AidG.cells (⟨⟨N, nm, x, y, ht, ⟨mk, mc, ms, mt⟩, chZ, [], 0⟩, none, 0, none, 0⟩ : AidG)) _ HRg.out Tryz.underlying56 rfl (by kernel_rfl) ?_) | (refine wpList_store_mid rfl _ _ _ rfl w.heap.size 0 (List.toArray (AidG.cells (⟨⟨N, nm, x, y, ht, ⟨mk, mc, ms, mt⟩, chZ, [], 0⟩, none, 0, none, 0⟩ : AidG))) rfl rfl HT.out (by kernel_rfl) HO.out ?_; rw [show (w14).setCells w.heap.size 0 (List.toArray (AidG.cells (⟨⟨N, nm, x, y, ht, ⟨mk, mc, ms, mt⟩, chZ, [], 0⟩, none, 0, none, 0⟩ : AidG))).toList = wE from HwE.out]))
      exact bodyPost_ret (v := AidG.val (⟨⟨N, nm, x, y, ht, ⟨mk, mc, ms, mt⟩, chZ, [], 0⟩, none, 0, none, 0⟩ : AidG)) (results_cell_mid Tryz.results40 _ wE w.heap.size 0 (AidG.cells (⟨⟨N, nm, x, y, ht, ⟨mk, mc, ms, mt⟩, chZ, [], 0⟩, none, 0, none, 0⟩ : AidG)) _ rfl HPR.out Tryz.underlying56 rfl (by kernel_rfl)) rfl ⟨(⟨⟨N, nm, x, y, ht, ⟨mk, mc, ms, mt⟩, chZ, [], 0⟩, none, 0, none, 0⟩ : AidG), rfl, (Hv).out, HN.out, HR.out.more (by omega), HG.out⟩
end Go.Proofs.YtpfnnjcochhklaaGreatDoor
