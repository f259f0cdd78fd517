/- SuvG: several of my texts in one. -/
import Derived.Test.YtpgcgmbjlecnpaaGreatSunG
import Derived.Test.YtpgcgmbjlecnpaaGreatSuiG
/- LevelsOf: the reference. -/
namespace Go.Proofs.YtpgcgmbjlecnpaaGreat
open Go.RowKit
theorem levV_len {s : St} {x : Ch} {lat fr cnt : Int} : (levV s x lat fr cnt).length ≤ 400 := by
  unfold levV
  cases okSC s x
  · simp
  cases h : seaB lat fr cnt
  · simp
  · simp only [seaB, Bool.and_eq_true, inB_iff] at h
    simp only [cond_true, levL_len, drkL_len]
    omega
set_option maxRecDepth 100000 in
set_option maxHeartbeats 2000000 in
theorem specLev_c (s : St) (A : Option Addr) (n c : Nat) (x : Ch) (w : World) (sl : Sl w w.heap.size 1 A n (x.gs.flatMap intC)) (hn : n ≤ 1048576) (hlz : x.l.size ≤ 1048576) (hs : x.cs.size ≤ 1048576) (lat fr cnt : Int) :
    Calls Tryz.prog 14 #[stV s, chV x.k A n c x.l x.cs x.p, .int .i64 lat, .int .i64 fr, .int .i64 cnt] w fun e w' => ∃ v, e = .returned (.tuple #[v, .int .i64 (powK s x lat fr cnt)]) ∧ w'.ownsRow w.heap.size 2 1 v (levV s x lat fr cnt).length ((levV s x lat fr cnt).flatMap intC) ∧ Below w.heap.size w w' := by
  obtain ⟨p0, hp, hy0, hy1, hy2⟩ := info_parts intInfo
  obtain ⟨V, hV⟩ : ∃ V, levV s x lat fr cnt = V := ⟨_, rfl⟩
  obtain ⟨k, hk⟩ : ∃ k, powK s x lat fr cnt = k := ⟨_, rfl⟩
  rw [hV, hk]
  by_cases hk0 : k = 0
  · obtain ⟨o1, o2, o3⟩ := pow_ok (hk.trans hk0)
    have ok := stB_ok o1
    obtain ⟨sh1, sh2⟩ := share_bd o2
    have hV2 : levL s (shareI x) (drkL lat fr cnt.toNat) s.ba = V := by rw [← hV, levV, okSC, o1, o2, o3]; rfl
    have hcn : cnt.toNat ≤ 400 := by
      simp only [seaB, Bool.and_eq_true, inB_iff] at o3; omega
    subst hk0
    have HV := Lib.hid hV; clear hV
    have Hk := Lib.hid hk; clear hk
    obtain ⟨hSt, hCh, hb0⟩ := two_box (s := s) (c := c) 29 31 sl hn hlz hs
    have hK : ∀ w1, Below ((w.alloc (stO s 29)).alloc (chO x A n c 31)).heap.size ((w.alloc (stO s 29)).alloc (chO x A n c 31)) w1 → _ := fun w1 hb => l19Ask_c w.heap.size (w.heap.size + 1) s A n c x lat fr cnt w1 (hSt.next hb) (hCh.next hb)
    have HK := Lib.hid hK; clear hK
    go_enter Tryz.func14, Tryz.ntmps14
    go_wp2_with fail
    generalize (w.alloc (.cells #[.int .i64 s.la, .int .i64 s.sb, .int .i64 s.ba, .int .i64 s.pa, .int .i64 s.sh] 29)).alloc (.cells #[.int .i64 x.k, .slice A n c, .string x.l, .string x.cs, .int .i64 x.p] 31) = w0 at *
    refine (HK.out _ (Below.refl _ _)).mono ?_
    rintro e w1 ⟨rfl, hb1⟩
    have hSt1 := hSt.next hb1
    have hCh1 := hCh.next hb1
    replace hb0 := hb0.trans (hb1.mono hb0.size)
    clear HK hSt hCh hb1
    rw [Hk.out]
    go_wp2_with fail
    refine (l19Share_c _ _ _ _ _ x _ hCh1 o2).mono ?_
    rintro e w2 ⟨rfl, hb2⟩
    have hSt2 := hSt1.next hb2
    replace hb0 := hb0.trans (hb2.mono hb0.size)
    go_wp2_with fail
    refine (l19Nights_c lat fr cnt _ o3).mono ?_
    rintro e w3 ⟨v3, rfl, hov3, hb3⟩
    have hSt3 := hSt2.next hb3
    obtain ⟨A3, c3, rfl⟩ := own_slice hov3
    have hsl := Sl.of_own hov3
    replace hb0 := hb0.trans (hb3.mono hb0.size)
    have hLm : ∀ d ∈ drkL lat fr cnt.toNat, 0 ≤ d ∧ d ≤ 1440 := fun d hd => drkL_mem hd
    have hLl := drkL_len lat fr cnt.toNat
    clear hSt2 hSt1 hCh1 hb2 hb3 hov3
    generalize drkL lat fr cnt.toNat = L at *
    generalize shareI x = sh at *
    generalize cnt.toNat = N at *
    have hba1 := ok.b1
    have hba2 := ok.b2
    have HV2 := Lib.hid hV2; clear hV2
    have HLm := Lib.hid hLm; clear hLm
    have HLl := Lib.hid hLl; clear hLl
    obtain ⟨a0, a1, a2, a3, a4, hbs⟩ := id hSt3
    have hov := World.ownsRow_made (base := w3.heap.size) (e := 2) (size := 1) w3 #[] 0 (Nat.le_refl _) (by simp [maxLen]) rfl
    have hbo : Below w3.heap.size w3 (w3.alloc (.cells #[] 2)) := by (repeat (first | (with_reducible assumption) | (with_reducible exact Below.refl _ _) | exact Nat.le_refl _ | exact Below.size (by with_reducible assumption) | (with_reducible refine Below.drew ?_) | (with_reducible refine below_drewN ?_ _) | (with_reducible refine Below.alloc ?_ ?_ _) | (with_reducible refine Below.setCell ?_ ?_ _) | (with_reducible refine le_alloc ?_ _) | (with_reducible refine le_set ?_ _ _) | (with_reducible refine le_drew ?_) | (with_reducible refine le_drewN ?_ _) | omega | (dsimp only; omega)))
    go_wp2_with fail
    go_loopw [15, 16, 17] (fun y v i wr => ∃ (k : Nat) (u : Int), k ≤ N ∧ i = .int .i64 k ∧ y = .int .i64 u ∧ 0 ≤ u ∧ u ≤ s.ba ∧ Hid (levE s sh (L.take k) s.ba = u) ∧ wr.ownsRow w3.heap.size 2 1 v k ((levL s sh (L.take k) s.ba).flatMap intC) ∧ Below w3.heap.size w3 wr) (fun _ _ i _ => N - (intOf i).toNat)
    case atStart => exact ⟨0, s.ba, Nat.zero_le _, rfl, rfl, by omega, by omega, Lib.hid rfl, hov, hbo⟩
    case round =>
      clear hov hbo a0 a1 a2 a3 a4
      obtain ⟨k, u, hk, rfl, rfl, hu0, hu1, Hu, hov, hbw⟩ := hrel
      obtain ⟨A1, c1', rfl⟩ := own_slice hov
      by_cases hlt : k < N
      · have hlt' : (k : Int) < N := by omega
        obtain ⟨bb, off, d, rfl, hbb, hx, cx⟩ := hsl.int k hlt
        have q := keepC hbw bb hbb
        have hxm := HLm.out d (List.mem_of_getElem? hx)
        have hN := l19Next_c w.heap.size s sh u d wr (hSt3.next hbw) ok sh1 sh2 (by omega) (by omega) hxm.1 hxm.2
        have htk : L.take (k + 1) = L.take k ++ [d] := by rw [List.take_add_one, hx, Option.toList_some]
        have hnx : levE s sh (L.take (k + 1)) s.ba = max 0 (nextI s sh u d) := by rw [htk, levE_next, Hu.out]
        have hnl : levL s sh (L.take (k + 1)) s.ba = levL s sh (L.take k) s.ba ++ [max 0 (nextI s sh u d)] := by rw [htk, levL_next, Hu.out]
        have hub : nextI s sh u d ≤ s.ba := by unfold nextI; omega
        have e63 : k + 1 ≤ maxLen := by unfold maxLen; omega
        have e32 : (k + 1) * 8 ≤ 140737488355328 := by omega
        generalize nextI s sh u d = V1 at *
        have hX : ∀ w1, Calls Tryz.prog 42 #[.int .i64 0, .int .i64 V1] w1 fun e w' => e = .returned (.int .i64 (max 0 V1)) ∧ w1 = w' := fun w1 => l00Max_c _ _ w1
        have hq0 : 0 ≤ max 0 V1 ∧ max 0 V1 ≤ s.ba := by omega
        generalize max 0 V1 = q1 at *
        generalize levL s sh (L.take k) s.ba = L1 at *
        have HN := Lib.hid hN; clear hN
        have HX := Lib.hid hX; clear hX
        have Hnx := Lib.hid hnx; clear hnx
        have Hnl := Lib.hid hnl; clear hnl
        have Hx := Lib.hid hx; clear hx
        have Htk := Lib.hid htk; clear htk
        have E63 := Lib.hid e63; clear e63
        have E32 := Lib.hid e32; clear e32
        clear hxm Hu
        go_wp2_with fail
        refine HN.out.mono ?_
        rintro e w4 ⟨rfl, n4, rfl⟩
        have hov4 := own_next hov (below_drewN (Below.refl _ _) n4)
        have hbw4 := below_drewN hbw n4
        go_wp2_with fail
        refine (HX.out _).mono ?_
        rintro e w5 ⟨rfl, rfl⟩
        generalize wr.drewN n4 = w4 at *
        go_wp2_with (at_builtin; refine wpl_append _ rfl (.tmp 47) (.tmp 49) _ rfl (w3.heap.size) 2 p0 _ 1 8 Tryz.underlying24 hp hy0 hy1 hy2 rfl (by omega) _ (k) _ rfl ((hov4).alloc _) ((w4).heap.size + 1) (some ⟨(w4).heap.size, 0, none⟩) 1 1 (intC (q1)) rfl (Sl.new (w4) 2 _ 1 1 rfl) (intC_one _) E63.out E32.out (le_alloc (hbw4).size _) ?_; intro v2 w2 ho2 hg2 hat2)
        go_roundw
        case rel =>
          refine ⟨k + 1, q1, by omega, by go_num, rfl, hq0.1, hq0.2, Lib.hid Hnx.out, ?_, ?_⟩
          · rw [Hnl.out, List.flatMap_append]; simpa using ho2
          · exact (hbw4.alloc hbw4.size _).grown hg2 (le_alloc hbw4.size _) fun g hg => (hov4.lt g hg).1
        case measure => simp [intOf]; omega
      · obtain rfl : k = N := by omega
        have hVV : levL s sh (L.take k) s.ba = V := by
          rw [List.take_of_length_le (by rw [HLl.out]; omega)]; exact HV2.out
        have hVl : V.length = k := by rw [← hVV, levL_len, List.length_take_of_le (by rw [HLl.out]; omega)]
        rw [hVV] at hov
        have hov5 := own_base (base := w3.heap.size) hov (show w.heap.size ≤ w3.heap.size from hb0.size)
        have HVl := Lib.hid hVl; clear hVl
        clear hov hVV Hu
        go_wp2_with fail
        go_ret2
        refine ⟨_, rfl, ?_, hb0.trans (hbw.mono hb0.size)⟩
        rw [HVl.out]
        exact hov5
  · have hno := pow_no (s := s) (x := x) (lat := lat) (fr := fr) (cnt := cnt) (by rw [hk]; exact hk0)
    have hVf : V = [] := by
      rw [← hV, levV]
      cases h1 : okSC s x
      · rfl
      · cases h2 : seaB lat fr cnt
        · rfl
        · rw [h1, h2] at hno; cases hno
    subst hVf
    have hkb : (k == 0) = false := by simpa using hk0
    have HV := Lib.hid hV; clear hV
    have Hk := Lib.hid hk; clear hk
    have Hno := Lib.hid hno; clear hno
    obtain ⟨hSt, hCh, hb0⟩ := two_box (s := s) (c := c) 29 31 sl hn hlz hs
    have hK : ∀ w1, Below ((w.alloc (stO s 29)).alloc (chO x A n c 31)).heap.size ((w.alloc (stO s 29)).alloc (chO x A n c 31)) w1 → _ := fun w1 hb => l19Ask_c w.heap.size (w.heap.size + 1) s A n c x lat fr cnt w1 (hSt.next hb) (hCh.next hb)
    have HK := Lib.hid hK; clear hK
    go_enter Tryz.func14, Tryz.ntmps14
    go_wp2_with fail
    generalize (w.alloc (.cells #[.int .i64 s.la, .int .i64 s.sb, .int .i64 s.ba, .int .i64 s.pa, .int .i64 s.sh] 29)).alloc (.cells #[.int .i64 x.k, .slice A n c, .string x.l, .string x.cs, .int .i64 x.p] 31) = w0 at *
    refine (HK.out _ (Below.refl _ _)).mono ?_
    rintro e w1 ⟨rfl, hb1⟩
    have hSt1 := hSt.next hb1
    have hCh1 := hCh.next hb1
    replace hb0 := hb0.trans (hb1.mono hb0.size)
    clear HK hSt hCh hb1
    rw [Hk.out]
    go_wp2_with fail
    go_ret2
    exact ⟨_, rfl, World.ownsRow_nil _ _ _ _, hb0⟩
end Go.Proofs.YtpgcgmbjlecnpaaGreat
/- LevelsOf: the program. -/
namespace Go.Proofs.YtpgcgmbjlecnpaaGreat
open Go.RowKit
theorem stp_grown {w w' : World} {b : Nat} {s : St} {row : Option Nat} (h : StP w b s) (hg : w.grownBy w' row) (hne : row ≠ some b) : StP w' b s :=
  ⟨hg.cell h.c0 (Ne.symm hne), hg.cell h.c1 (Ne.symm hne), hg.cell h.c2 (Ne.symm hne), hg.cell h.c3 (Ne.symm hne), hg.cell h.c4 (Ne.symm hne), Nat.lt_of_lt_of_le h.hb hg.size⟩
set_option maxRecDepth 100000 in
set_option maxHeartbeats 2000000 in
theorem implLev_c (s : St) (A : Option Addr) (n c : Nat) (x : Ch) (w : World) (sl : Sl w w.heap.size 1 A n (x.gs.flatMap intC)) (hn : n ≤ 1048576) (hlz : x.l.size ≤ 1048576) (hs : x.cs.size ≤ 1048576) (lat fr cnt : Int) :
    Calls Tryz.prog 15 #[stV s, chV x.k A n c x.l x.cs x.p, .int .i64 lat, .int .i64 fr, .int .i64 cnt] w fun e w' => ∃ v, e = .returned (.tuple #[v, .int .i64 (powK s x lat fr cnt)]) ∧ w'.ownsRow w.heap.size 2 1 v (levV s x lat fr cnt).length ((levV s x lat fr cnt).flatMap intC) ∧ Below w.heap.size w w' := by
  obtain ⟨p0, hp, hy0, hy1, hy2⟩ := info_parts intInfo
  obtain ⟨V, hV⟩ : ∃ V, levV s x lat fr cnt = V := ⟨_, rfl⟩
  obtain ⟨k, hk⟩ : ∃ k, powK s x lat fr cnt = k := ⟨_, rfl⟩
  rw [hV, hk]
  by_cases hk0 : k = 0
  · obtain ⟨o1, o2, o3⟩ := pow_ok (hk.trans hk0)
    have ok := stB_ok o1
    obtain ⟨sh1, sh2⟩ := share_bd o2
    have hV2 : levL s (shareI x) (drkL lat fr cnt.toNat) s.ba = V := by rw [← hV, levV, okSC, o1, o2, o3]; rfl
    have hcn : cnt.toNat ≤ 400 ∧ 0 < cnt.toNat := by
      simp only [seaB, Bool.and_eq_true, inB_iff] at o3; omega
    obtain ⟨hcn, hcn0⟩ := hcn
    subst hk0
    have HV := Lib.hid hV; clear hV
    obtain ⟨hSt, hCh, hb0⟩ := two_box (s := s) (c := c) 29 31 sl hn hlz hs
    have hPc : ∀ w1, Below ((w.alloc (stO s 29)).alloc (chO x A n c 31)).heap.size ((w.alloc (stO s 29)).alloc (chO x A n c 31)) w1 → _ := fun w1 hb => powerCode_c s A n c x w1 ((hCh.next hb).sl) hn hlz hs lat fr cnt
    have HP := Lib.hid hPc; clear hPc
    go_enter Tryz.func15, Tryz.ntmps15
    go_wp2_with fail
    generalize (w.alloc (.cells #[.int .i64 s.la, .int .i64 s.sb, .int .i64 s.ba, .int .i64 s.pa, .int .i64 s.sh] 29)).alloc (.cells #[.int .i64 x.k, .slice A n c, .string x.l, .string x.cs, .int .i64 x.p] 31) = w0 at *
    obtain ⟨a0, a1, a2, a3, a4, hbs⟩ := hSt
    obtain ⟨c0, c1, c2, c3, c4, hbc, sl0, _, _, _⟩ := hCh
    simp only [Nat.zero_add] at c0 c1 c2 c3 c4
    refine (HP.out _ (Below.refl _ _)).mono ?_
    rw [hk]
    rintro e w1 ⟨rfl, hb1⟩
    have hSt0 : StP w0 w.heap.size s := ⟨a0, a1, a2, a3, a4, hbs⟩
    have hSt1 := hSt0.next hb1
    have sl1 := sl0.next hb1
    have r1 := keepC hb1 (w.heap.size + 1) hbc
    have zr1 := Nat.lt_of_lt_of_le hbc hb1.size
    have hb01 := hb0.trans (hb1.mono hb0.size)
    have hov := World.ownsRow_made (base := w1.heap.size) (e := 2) (size := 1) w1 #[] 0 (Nat.le_refl _) (by simp [maxLen]) rfl
    have hbo : Below w1.heap.size w1 (w1.alloc (.cells #[] 2)) := by (repeat (first | (with_reducible assumption) | (with_reducible exact Below.refl _ _) | exact Nat.le_refl _ | exact Below.size (by with_reducible assumption) | (with_reducible refine Below.drew ?_) | (with_reducible refine below_drewN ?_ _) | (with_reducible refine Below.alloc ?_ ?_ _) | (with_reducible refine Below.setCell ?_ ?_ _) | (with_reducible refine le_alloc ?_ _) | (with_reducible refine le_set ?_ _ _) | (with_reducible refine le_drew ?_) | (with_reducible refine le_drewN ?_ _) | omega | (dsimp only; omega)))
    have c0' := (r1 0).trans c0
    have c1' := (r1 1).trans c1
    have c2' := (r1 2).trans c2
    have c3' := (r1 3).trans c3
    have c4' := (r1 4).trans c4
    clear hSt0 hb1 HP c0 c1 c2 c3 c4 r1 sl0 hb0 a0 a1 a2 a3 a4
    go_wp2_with fail
    have hStA := hSt1.next hbo
    have slA := sl1.next hbo
    have rA := keepC hbo (w.heap.size + 1) zr1
    have zrA := Nat.lt_of_lt_of_le zr1 hbo.size
    have hbA := hb01.trans (hbo.mono hb01.size)
    have d0 := (rA 0).trans c0'
    have d1 := (rA 1).trans c1'
    have d2 := (rA 2).trans c2'
    have d3 := (rA 3).trans c3'
    have d4 := (rA 4).trans c4'
    have hwo : w.heap.size ≤ w1.heap.size := hb01.size
    have hwo2 : w.heap.size < w1.heap.size := hSt1.hb
    clear hbo rA c0' c1' c2' c3' c4' hSt1 sl1 hb01
    generalize w1.alloc (.cells #[] 2) = wA at *
    obtain ⟨a0, a1, a2, a3, a4, hbsA⟩ := id hStA
    have e1 : ∀ {w' : World}, Below wA.heap.size wA w' → (Below wA.heap.size wA w' ∧ (∀ x, w'.cell? ⟨w.heap.size, x, none⟩ = wA.cell? ⟨w.heap.size, x, none⟩) ∧ (∀ x, w'.cell? ⟨w.heap.size + 1, x, none⟩ = wA.cell? ⟨w.heap.size + 1, x, none⟩)) := fun hbb => ⟨hbb, keepC hbb _ hbsA, keepC hbb _ zrA⟩
    refine wp_region_held_drew (S := fun w' => Below wA.heap.size wA w' ∧ (∀ x, w'.cell? ⟨w.heap.size, x, none⟩ = wA.cell? ⟨w.heap.size, x, none⟩) ∧ (∀ x, w'.cell? ⟨w.heap.size + 1, x, none⟩ = wA.cell? ⟨w.heap.size + 1, x, none⟩)) (by kernel_rfl) (e1 (Below.refl _ _).drew) (fun hHeld => ?_)
    (first
      | (refine wpAnyH_take (i := 0) (v := ?_) rfl (by kernel_rfl) (by kernel_rfl) (by kernel_rfl) (fun _ _ _ h => h) (Or.inl ⟨by rfl, ?_⟩) (by assumption) ?_
         rotate_left
         focus (intro wq hSq; (try dsimp only at hSq); go_simp; (try (with_reducible rfl)); done))
      | (refine wpAnyH_take (i := 0) (v := undef) rfl (by kernel_rfl) (by kernel_rfl) (by kernel_rfl) (fun _ _ _ h => h) (Or.inr ⟨by rfl, rfl⟩) (by assumption) ?_)
      | fail "take 0")
    try simp only [Act.put, List.setIfInBounds_toArray, List.set_cons_zero, List.set_cons_succ, List.getElem_toArray, List.getElem_cons_zero]
    (first
      | (refine wpAnyH_take (i := 1) (v := ?_) rfl (by kernel_rfl) (by kernel_rfl) (by kernel_rfl) (fun _ _ _ h => h) (Or.inl ⟨by rfl, ?_⟩) (by assumption) ?_
         rotate_left
         focus (intro wq hSq; (try dsimp only at hSq); go_simp; (try (with_reducible rfl)); done))
      | (refine wpAnyH_take (i := 1) (v := undef) rfl (by kernel_rfl) (by kernel_rfl) (by kernel_rfl) (fun _ _ _ h => h) (Or.inr ⟨by rfl, rfl⟩) (by assumption) ?_)
      | fail "take 1")
    try simp only [Act.put, List.setIfInBounds_toArray, List.set_cons_zero, List.set_cons_succ, List.getElem_toArray, List.getElem_cons_zero, List.getElem_cons_succ]
    (first
      | (refine wpAnyH_take (i := 2) (v := ?_) rfl (by kernel_rfl) (by kernel_rfl) (by kernel_rfl) (fun _ _ _ h => h) (Or.inl ⟨by rfl, ?_⟩) (by assumption) ?_
         rotate_left
         focus (intro wq hSq; (try dsimp only at hSq); go_simp; (try (with_reducible rfl)); done))
      | (refine wpAnyH_take (i := 2) (v := undef) rfl (by kernel_rfl) (by kernel_rfl) (by kernel_rfl) (fun _ _ _ h => h) (Or.inr ⟨by rfl, rfl⟩) (by assumption) ?_)
      | fail "take 2")
    try simp only [Act.put, List.setIfInBounds_toArray, List.set_cons_zero, List.set_cons_succ, List.getElem_toArray, List.getElem_cons_zero, List.getElem_cons_succ]
    refine wpAnyH_ready (rs := [3]) (by kernel_rfl) (by simp) ?_
    refine AllReadyH.cons (o := _) rfl (fun K hK => ?_) AllReadyH.nil
    go_simp
    refine (litShare_c A n c x _ (slA.next (Below.refl _ _).drew) hn hlz hs o2).mono ?_; rintro e w2 ⟨rfl, hb2⟩; have hbA2 := (Below.refl wA.heap.size wA).drew.trans hb2
    refine hK.out _ _ ?_ (fun hHeld => ?_)
    · exact e1 hbA2
    clear hK K
    try simp only [Act.put, List.setIfInBounds_toArray, List.set_cons_zero, List.set_cons_succ, List.getElem_toArray, List.getElem_cons_zero, List.getElem_cons_succ]
    (first
      | (refine wpAnyH_take (i := 4) (v := ?_) rfl (by kernel_rfl) (by kernel_rfl) (by kernel_rfl) (fun _ _ _ h => h) (Or.inl ⟨by rfl, ?_⟩) (by assumption) ?_
         rotate_left
         focus (intro wq hSq; (try dsimp only at hSq); go_simp; (try (with_reducible rfl)); done))
      | (refine wpAnyH_take (i := 4) (v := undef) rfl (by kernel_rfl) (by kernel_rfl) (by kernel_rfl) (fun _ _ _ h => h) (Or.inr ⟨by rfl, rfl⟩) (by assumption) ?_)
      | fail "take 4")
    try simp only [Act.put, List.setIfInBounds_toArray, List.set_cons_zero, List.set_cons_succ, List.getElem_toArray, List.getElem_cons_zero, List.getElem_cons_succ]
    (first
      | (refine wpAnyH_take (i := 5) (v := ?_) rfl (by kernel_rfl) (by kernel_rfl) (by kernel_rfl) (fun _ _ _ h => h) (Or.inl ⟨by rfl, ?_⟩) (by assumption) ?_
         rotate_left
         focus (intro wq hSq; (try dsimp only at hSq); go_simp; (try (with_reducible rfl)); done))
      | (refine wpAnyH_take (i := 5) (v := undef) rfl (by kernel_rfl) (by kernel_rfl) (by kernel_rfl) (fun _ _ _ h => h) (Or.inr ⟨by rfl, rfl⟩) (by assumption) ?_)
      | fail "take 5")
    try simp only [Act.put, List.setIfInBounds_toArray, List.set_cons_zero, List.set_cons_succ, List.getElem_toArray, List.getElem_cons_zero, List.getElem_cons_succ]
    refine wpAnyH_done (by kernel_rfl) ?_ _
    replace hov := own_next hov hbA2
    have hwS := (hov.lt w1.heap.size rfl).2
    have hSt2 := hStA.next hbA2
    have hb02 := hbA.trans (hbA2.mono hbA.size)
    clear hHeld e1 a0 a1 a2 a3 a4 d0 d1 d2 d3 d4 slA hStA hbA hbA2 hb2
    go_wp2_with fail
    refine (darks_c lat fr cnt _ o3).mono ?_
    rintro e w3 ⟨v3, rfl, hov3, hb3⟩
    replace hov := own_next hov hb3
    have hSt3 := hSt2.next hb3
    have hb03 := hb02.trans (hb3.mono hb02.size)
    obtain ⟨A3, c3, rfl⟩ := own_slice hov3
    obtain ⟨gS, rfl, hgS, hgS2⟩ := own_form hov3 hcn0
    have hne : (Value.slice (some ⟨w1.heap.size, 0, none⟩) 0 0).ownBlock ≠ some gS := by simp [Value.ownBlock]; omega
    have hLm : ∀ d ∈ drkL lat fr cnt.toNat, 0 ≤ d ∧ d ≤ 1440 := fun d hd => drkL_mem hd
    have hLl := drkL_len lat fr cnt.toNat
    clear hSt2 hb02 hb3
    obtain ⟨gb, hgb⟩ : ∃ g, w2.heap.size = g := ⟨_, rfl⟩
    rw [hgb] at hov3
    clear hgS hwS hgb
    generalize drkL lat fr cnt.toNat = L at *
    generalize shareI x = sh at *
    generalize cnt.toNat = N at *
    have hba1 := ok.b1
    have hba2 := ok.b2
    have HV2 := Lib.hid hV2; clear hV2
    have HLm := Lib.hid hLm; clear hLm
    have HLl := Lib.hid hLl; clear hLl
    go_wp2_with fail
    go_loopw [13, 14, 37] (fun v y i wr => ∃ (k : Nat) (u : Int), k ≤ N ∧ i = .int .i64 k ∧ y = .int .i64 u ∧ 0 ≤ u ∧ u ≤ s.ba ∧ Hid (levE s sh (L.take k) s.ba = u) ∧ wr.ownsRow w1.heap.size 2 1 v k ((levL s sh (L.take k) s.ba).flatMap intC) ∧ wr.ownsRow gb 2 1 (.slice (some ⟨gS, 0, none⟩) N c3) N (L.flatMap intC) ∧ v.ownBlock ≠ some gS ∧ w1.heap.size < wr.heap.size ∧ StP wr w.heap.size s ∧ Below w.heap.size w wr) (fun _ _ i _ => N - (intOf i).toNat)
    case atStart => exact ⟨0, s.ba, Nat.zero_le _, rfl, rfl, by omega, by omega, Lib.hid rfl, hov, hov3, hne, (hov.lt w1.heap.size rfl).2, hSt3, hb03⟩
    case round =>
      clear hov hov3 hne hSt3 hb03
      obtain ⟨k, u, hk, rfl, rfl, hu0, hu1, Hu, hov, hov3, hne, hw1r, hSt, hbw⟩ := hrel
      obtain ⟨A1, c1', rfl⟩ := own_slice hov
      by_cases hlt : k < N
      · have hlt' : (k : Int) < N := by omega
        obtain ⟨d, hx, cx⟩ := own_int hov3 k hlt
        have hgl : gS < wr.heap.size := (hov3.lt gS rfl).2
        have hxm := HLm.out d (List.mem_of_getElem? hx)
        have hN := next_c s sh u d wr ok sh1 sh2 (by omega) (by omega) hxm.1 hxm.2
        have htk : L.take (k + 1) = L.take k ++ [d] := by rw [List.take_add_one, hx, Option.toList_some]
        have hnx : levE s sh (L.take (k + 1)) s.ba = max 0 (nextI s sh u d) := by rw [htk, levE_next, Hu.out]
        have hnl : levL s sh (L.take (k + 1)) s.ba = levL s sh (L.take k) s.ba ++ [max 0 (nextI s sh u d)] := by rw [htk, levL_next, Hu.out]
        have hub : nextI s sh u d ≤ s.ba := by unfold nextI; omega
        have e63 : k + 1 ≤ maxLen := by unfold maxLen; omega
        have e32 : (k + 1) * 8 ≤ 140737488355328 := by omega
        generalize nextI s sh u d = V1 at *
        generalize levL s sh (L.take k) s.ba = L1 at *
        obtain ⟨a0, a1, a2, a3, a4, hbs⟩ := id hSt
        have HN := Lib.hid hN; clear hN
        have Hnx := Lib.hid hnx; clear hnx
        have Hnl := Lib.hid hnl; clear hnl
        have Hx := Lib.hid hx; clear hx
        have Htk := Lib.hid htk; clear htk
        have E63 := Lib.hid e63; clear e63
        have E32 := Lib.hid e32; clear e32
        clear hxm Hu
        by_cases hv0 : 0 < V1
        · have hmx : max 0 V1 = V1 := by omega
          rw [hmx] at Hnx Hnl
          have Hmx := Lib.hid hmx; clear hmx
          go_wp2_with fail
          refine HN.out.mono ?_
          rintro e w4 ⟨rfl, hb4⟩
          have hov4 := own_next hov hb4
          have hov34 := own_next hov3 hb4
          have hSt4 := hSt.next hb4
          have hbw4 := hbw.trans (hb4.mono hbw.size)
          have hgl4 := Nat.lt_of_lt_of_le hgl hb4.size
          have hw14 : w1.heap.size ≤ w4.heap.size := by exact Nat.le_of_lt (Nat.lt_of_lt_of_le hw1r hb4.size)
          have hz44 := hb4.size
          clear hb4 hov hov3 hSt hbw a0 a1 a2 a3 a4
          go_wp2_with (at_builtin; refine wpl_append _ rfl (.tmp 47) (.tmp 49) _ rfl (w1.heap.size) 2 p0 _ 1 8 Tryz.underlying24 hp hy0 hy1 hy2 rfl (by omega) _ (k) _ rfl ((hov4).alloc _) ((w4).heap.size + 1) (some ⟨(w4).heap.size, 0, none⟩) 1 1 (intC (V1)) rfl (Sl.new (w4) 2 _ 1 1 rfl) (intC_one _) E63.out E32.out (le_alloc hw14 _) ?_; intro v2 w2 ho2 hg2 hat2)
          go_roundw
          case rel =>
            refine ⟨k + 1, V1, by omega, by go_num, rfl, by omega, hub, Lib.hid Hnx.out, ?_, own_grown (hov34.alloc _) hg2 (.inr (Ne.symm hne)), other_next hat2 hne (Nat.lt_of_lt_of_le hgl4 (le_alloc (Nat.le_refl _) _)), Nat.lt_of_lt_of_le (Nat.lt_of_lt_of_le hw1r hz44) (Nat.le_trans (le_alloc (Nat.le_refl _) _) hg2.size), ?_, ?_⟩
            · rw [Hnl.out, List.flatMap_append]; simpa using ho2
            · exact stp_grown (hSt4.next ((Below.refl _ _).alloc (Nat.le_refl _) _)) hg2 (fun e => by have := (hov4.lt _ e).1; omega)
            · exact (hbw4.alloc hbw4.size _).grown hg2 (le_alloc hbw4.size _) fun g hg => Nat.le_trans hwo (hov4.lt g hg).1
          case measure => simp [intOf]; omega
        · have hmx : max 0 V1 = 0 := by omega
          rw [hmx] at Hnx Hnl
          have Hmx := Lib.hid hmx; clear hmx
          go_wp2_with fail
          refine HN.out.mono ?_
          rintro e w4 ⟨rfl, hb4⟩
          have hov4 := own_next hov hb4
          have hov34 := own_next hov3 hb4
          have hSt4 := hSt.next hb4
          have hbw4 := hbw.trans (hb4.mono hbw.size)
          have hgl4 := Nat.lt_of_lt_of_le hgl hb4.size
          have hw14 : w1.heap.size ≤ w4.heap.size := by exact Nat.le_of_lt (Nat.lt_of_lt_of_le hw1r hb4.size)
          have hz44 := hb4.size
          clear hb4 hov hov3 hSt hbw a0 a1 a2 a3 a4
          go_wp2_with (at_builtin; refine wpl_append _ rfl (.tmp 47) (.tmp 49) _ rfl (w1.heap.size) 2 p0 _ 1 8 Tryz.underlying24 hp hy0 hy1 hy2 rfl (by omega) _ (k) _ rfl ((hov4).alloc _) ((w4).heap.size + 1) (some ⟨(w4).heap.size, 0, none⟩) 1 1 (intC (0)) rfl (Sl.new (w4) 2 _ 1 1 rfl) (intC_one _) E63.out E32.out (le_alloc hw14 _) ?_; intro v2 w2 ho2 hg2 hat2)
          go_roundw
          case rel =>
            refine ⟨k + 1, 0, by omega, by go_num, rfl, by omega, by omega, Lib.hid Hnx.out, ?_, own_grown (hov34.alloc _) hg2 (.inr (Ne.symm hne)), other_next hat2 hne (Nat.lt_of_lt_of_le hgl4 (le_alloc (Nat.le_refl _) _)), Nat.lt_of_lt_of_le (Nat.lt_of_lt_of_le hw1r hz44) (Nat.le_trans (le_alloc (Nat.le_refl _) _) hg2.size), ?_, ?_⟩
            · rw [Hnl.out, List.flatMap_append]; simpa using ho2
            · exact stp_grown (hSt4.next ((Below.refl _ _).alloc (Nat.le_refl _) _)) hg2 (fun e => by have := (hov4.lt _ e).1; omega)
            · exact (hbw4.alloc hbw4.size _).grown hg2 (le_alloc hbw4.size _) fun g hg => Nat.le_trans hwo (hov4.lt g hg).1
          case measure => simp [intOf]; omega
      · obtain rfl : k = N := by omega
        have hVV : levL s sh (L.take k) s.ba = V := by
          rw [List.take_of_length_le (by rw [HLl.out]; omega)]; exact HV2.out
        have hVl : V.length = k := by rw [← hVV, levL_len, List.length_take_of_le (by rw [HLl.out]; omega)]
        rw [hVV] at hov
        have hov5 := own_base (base := w1.heap.size) hov hwo
        have HVl := Lib.hid hVl; clear hVl
        clear hov hVV Hu hov3 hne hSt
        go_wp2_with fail
        go_ret2
        refine ⟨_, rfl, ?_, hbw⟩
        rw [HVl.out]
        exact hov5
  · have hno := pow_no (s := s) (x := x) (lat := lat) (fr := fr) (cnt := cnt) (by rw [hk]; exact hk0)
    have hVf : V = [] := by
      rw [← hV, levV]
      cases h1 : okSC s x
      · rfl
      · cases h2 : seaB lat fr cnt
        · rfl
        · rw [h1, h2] at hno; cases hno
    subst hVf
    have hkb : (k == 0) = false := by simpa using hk0
    have HV := Lib.hid hV; clear hV
    have Hno := Lib.hid hno; clear hno
    obtain ⟨hSt, hCh, hb0⟩ := two_box (s := s) (c := c) 29 31 sl hn hlz hs
    have hPc : ∀ w1, Below ((w.alloc (stO s 29)).alloc (chO x A n c 31)).heap.size ((w.alloc (stO s 29)).alloc (chO x A n c 31)) w1 → _ := fun w1 hb => powerCode_c s A n c x w1 ((hCh.next hb).sl) hn hlz hs lat fr cnt
    have HP := Lib.hid hPc; clear hPc
    go_enter Tryz.func15, Tryz.ntmps15
    go_wp2_with fail
    generalize (w.alloc (.cells #[.int .i64 s.la, .int .i64 s.sb, .int .i64 s.ba, .int .i64 s.pa, .int .i64 s.sh] 29)).alloc (.cells #[.int .i64 x.k, .slice A n c, .string x.l, .string x.cs, .int .i64 x.p] 31) = w0 at *
    obtain ⟨a0, a1, a2, a3, a4, hbs⟩ := hSt
    obtain ⟨c0, c1, c2, c3, c4, hbc, sl0, _, _, _⟩ := hCh
    simp only [Nat.zero_add] at c0 c1 c2 c3 c4
    refine (HP.out _ (Below.refl _ _)).mono ?_
    rw [hk]
    rintro e w1 ⟨rfl, hb1⟩
    have hb01 := hb0.trans (hb1.mono hb0.size)
    go_wp2_with fail
    go_ret2
    exact ⟨_, rfl, World.ownsRow_nil _ _ _ _, hb01⟩
end Go.Proofs.YtpgcgmbjlecnpaaGreat
