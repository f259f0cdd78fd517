
/- Merging lists of aids: the program's MergeAids of three valid lists. -/
import Derived.Test.YtpfnnjcochhklaaGreatDoorMgI
namespace Go.Proofs.YtpfnnjcochhklaaGreatDoor
open Go.RowKit
def MgAns (base a b : List AidX) (w : World) (e : Ending) (w' : World) : Prop := ∃ (A : Option Addr) (n c : Nat) (zs : List AidG), e = .returned (.tuple #[.slice A n c, .int .i64 (mgK base a b)]) ∧ (mgK base a b = 0 → zs.map AidG.a = mgL base a b) ∧ AidOwn w' w.heap.size (.slice A n c) n zs ∧ Below w.heap.size w w'
theorem AidOwn.len2 {w : World} {base n c : Nat} {A : Option Addr} {zs : List AidG} (h : AidOwn w base (.slice A n c) n zs) : (zs.map AidG.a).length = n := by rw [List.length_map, h.len']
theorem st_thereG (w : World) (f : Bool) (z : AidG) (E : TypeId) : (w.alloc (stO f z E)).there w.heap.size 0 17 := fun j hj => by
  have hb : (w.alloc (stO f z E)).heap[w.heap.size]? = some (stO f z E) := heap_alloc_new w _
  refine ⟨?_, frozen_of_row _ _ _ _ _ hb⟩
  rw [Nat.zero_add, cell_of_row _ _ _ _ _ _ hb, Array.getElem?_eq_getElem (by simpa using hj)]
  rfl
theorem st_c0 {w : World} {b : Nat} {f : Bool} {z : AidG} (h : w.rangeAt b 0 (stC f z)) : w.cell? ⟨b, 0, none⟩ = some (.bool f) := h 0 _ rfl
set_option maxRecDepth 100000 in
set_option maxHeartbeats 8000000 in
theorem mergeAids_c (A1 A2 A3 : Option Addr) (n1 n2 n3 c1 c2 c3 : Nat) (z1 z2 z3 : List AidG) (w : World) (h1 : AidSl w A1 n1 z1) (h2 : AidSl w A2 n2 z2) (h3 : AidSl w A3 n3 z3)
    (V1 : aidsB (z1.map AidG.a) = true) (V2 : aidsB (z2.map AidG.a) = true) (V3 : aidsB (z3.map AidG.a) = true) (ht : Tab w) :
    Calls Tryz.prog 8 #[.slice A1 n1 c1, .slice A2 n2 c2, .slice A3 n3 c3] w (MgAns (z1.map AidG.a) (z2.map AidG.a) (z3.map AidG.a) w) := by
  have m1 : n1 ≤ 1048576 := by have := aids_24 V1; rw [List.length_map, h1.len] at this; omega
  have m2 : n2 ≤ 1048576 := by have := aids_24 V2; rw [List.length_map, h2.len] at this; omega
  have m3 : n3 ≤ 1048576 := by have := aids_24 V3; rw [List.length_map, h3.len] at this; omega
  obtain ⟨i0, hi, hz0, hz1, hz2⟩ := info_parts aidInfo
  have hL := areLists_c A1 A2 A3 n1 n2 n3 c1 c2 c3 z1 z2 z3 w h1 h2 h3 m1 m2 m3 ht
  rw [V1, V2, V3] at hL
  have hCf : ∀ w', Below w.heap.size w w' → _ := fun w' hb => conflicts_c A1 A2 A3 n1 n2 n3 c1 c2 c3 z1 z2 z3 w' (h1.next hb) (h2.next hb) (h3.next hb) m1 m2 m3 V1 V2 V3
  have hN : ∀ w', Below w.heap.size w w' → ∀ g, g < w'.heap.size → w'.cell? ⟨g, 0, none⟩ = some (.slice A2 n2 c2) → w'.cell? ⟨g, 1, none⟩ = some (.slice A3 n3 c3) → Calls Tryz.prog 26 #[.slice (some ⟨g, 0, none⟩) 2 2] w' fun e w'' => ∃ A c, e = .returned (.slice A (numI [] (z2.map AidG.a) (z3.map AidG.a)).length c) ∧ w''.ownsRow w'.heap.size 2 1 (.slice A (numI [] (z2.map AidG.a) (z3.map AidG.a)).length c) (numI [] (z2.map AidG.a) (z3.map AidG.a)).length ((numI [] (z2.map AidG.a) (z3.map AidG.a)).flatMap intC) ∧ Below w'.heap.size w' w'' := fun w' hb g hg k0 k1 => by
    have := numbersIn2_c g (fun j => (#[Value.slice A2 n2 c2, .slice A3 n3 c3] : Array Value).getD j undef) (fun j v => (fdN ([z2, z3].getD j []|>.map AidG.a) v).isSome) w' hg
      (fun j hj => by
        have : j = 0 ∨ j = 1 := by omega
        rcases this with rfl | rfl
        · exact k0
        · exact k1)
      (fun w4 hb4 j hj v => by
        have hbw := hb.trans (hb4.mono hb.size)
        have : j = 0 ∨ j = 1 := by omega
        rcases this with rfl | rfl
        · exact (aidOf_c A2 n2 c2 z2 v w4 (h2.next hbw) m2 V2).mono fun e w'' ⟨i, he, _, hb⟩ => ⟨i, he, hb⟩
        · exact (aidOf_c A3 n3 c3 z3 v w4 (h3.next hbw) m3 V3).mono fun e w'' ⟨i, he, _, hb⟩ => ⟨i, he, hb⟩)
    exact this
  have hNp : ∀ x ∈ numI [] (z2.map AidG.a) (z3.map AidG.a), x ≠ 0 := fun x hx => by have := num_pos hx; omega
  obtain ⟨Z1, hZ1⟩ : ∃ Z, z1.map AidG.a = Z := ⟨_, rfl⟩
  obtain ⟨Z2, hZ2⟩ : ∃ Z, z2.map AidG.a = Z := ⟨_, rfl⟩
  obtain ⟨Z3, hZ3⟩ : ∃ Z, z3.map AidG.a = Z := ⟨_, rfl⟩
  have hSt1 : ∀ w', Below w.heap.size w w' → ∀ x, Calls Tryz.prog 27 #[.slice A1 n1 c1, .int .i64 x] w' fun e w'' => ∃ z' : AidG, e = .returned (stV (fdN Z1 x).isSome z') ∧ z'.a = stA Z1 x ∧ Hid (∀ w2, Below w.heap.size w w2 → AidOk w2 z') ∧ Below w'.heap.size w' w'' := fun w' hb x => hZ1 ▸ (stateOfK_c A1 n1 c1 z1 x w w' h1 hb m1 V1).mono fun _ _ ⟨z', a, b, c, d⟩ => ⟨z', a, b, Lib.hid c, d⟩
  have hSt2 : ∀ w', Below w.heap.size w w' → ∀ x, Calls Tryz.prog 27 #[.slice A2 n2 c2, .int .i64 x] w' fun e w'' => ∃ z' : AidG, e = .returned (stV (fdN Z2 x).isSome z') ∧ z'.a = stA Z2 x ∧ Hid (∀ w2, Below w.heap.size w w2 → AidOk w2 z') ∧ Below w'.heap.size w' w'' := fun w' hb x => hZ2 ▸ (stateOfK_c A2 n2 c2 z2 x w w' h2 hb m2 V2).mono fun _ _ ⟨z', a, b, c, d⟩ => ⟨z', a, b, Lib.hid c, d⟩
  have hSt3 : ∀ w', Below w.heap.size w w' → ∀ x, Calls Tryz.prog 27 #[.slice A3 n3 c3, .int .i64 x] w' fun e w'' => ∃ z' : AidG, e = .returned (stV (fdN Z3 x).isSome z') ∧ z'.a = stA Z3 x ∧ Hid (∀ w2, Below w.heap.size w w2 → AidOk w2 z') ∧ Below w'.heap.size w' w'' := fun w' hb x => hZ3 ▸ (stateOfK_c A3 n3 c3 z3 x w w' h3 hb m3 V3).mono fun _ _ ⟨z', a, b, c, d⟩ => ⟨z', a, b, Lib.hid c, d⟩
  rw [hZ1, hZ2, hZ3] at hCf
  rw [hZ2, hZ3] at hN hNp
  rw [hZ1, hZ2, hZ3]
  obtain ⟨C, hC⟩ : ∃ C, cfP Z1 Z2 Z3 = C := ⟨_, rfl⟩
  rw [hC] at hCf
  obtain ⟨lc, hlc⟩ : ∃ q, C.length = q := ⟨_, rfl⟩
  rw [hlc] at hCf
  obtain ⟨L, hL9⟩ : ∃ L, numI [] Z2 Z3 = L := ⟨_, rfl⟩
  rw [hL9] at hN hNp
  have hLl0 : L.length ≤ 9999 := by rw [← hL9]; exact upTo_len 9999 _
  obtain ⟨l, hll⟩ : ∃ q, L.length = q := ⟨_, rfl⟩
  rw [hll] at hN hLl0
  obtain ⟨f, hf⟩ : ∃ f, mgO Z1 Z2 Z3 = f := ⟨_, rfl⟩
  have hmL : mgL Z1 Z2 Z3 = L.filterMap f := by rw [mgL, hL9, hf]
  have hat : ∀ v, v ≠ 0 → f v = bif eqB Z2 Z1 v then getO Z3 v else getO Z2 v := fun v hv => by rw [← hf]; exact mgO_at _ _ _ hv
  unfold MgAns
  obtain ⟨KK, hKK⟩ : ∃ K, mgK Z1 Z2 Z3 = K := ⟨_, rfl⟩
  have hK2 : KK = if C = [] then (if (L.filterMap f).length ≤ 24 then 0 else 5) else 6 := by rw [← hKK, mgK, hC, hmL]
  rw [hKK, hmL]
  clear h1 h2 h3 V1 V2 V3 m1 m2 m3 ht hKK hmL hf hL9 hC hZ1 hZ2 hZ3
  have HL := Lib.hid hL; clear hL
  have HCf := Lib.hid hCf; clear hCf
  have HN := Lib.hid hN; clear hN
  have HNp := Lib.hid hNp; clear hNp
  have HSt1 := Lib.hid hSt1; clear hSt1
  have HSt2 := Lib.hid hSt2; clear hSt2
  have HSt3 := Lib.hid hSt3; clear hSt3
  have Hat := Lib.hid hat; clear hat
  have HLl := Lib.hid hll; clear hll
  have HLc := Lib.hid hlc; clear hlc
  have HK2 := Lib.hid hK2; clear hK2
  go_enter Tryz.func8, Tryz.ntmps8
  go_wp2_with fail
  refine HL.out.mono ?_
  rintro e w1 ⟨rfl, hb1⟩
  go_wp2_with fail
  refine (HCf.out _ hb1).mono ?_
  rintro e w3 ⟨AC, cC, rfl, hoC, hb3⟩
  have hbw3 := hb1.trans (hb3.mono hb1.size)
  clear hoC HCf HL hb1 hb3
  by_cases hlc0 : lc = 0
  case neg =>
    have hl1 : (0 : Int) < (lc : Int) := by omega
    go_wp2_with fail
    go_ret2
    have hCn : C ≠ [] := fun e => hlc0 (by rw [← HLc.out, e]; rfl)
    have hK6 : KK = 6 := by rw [HK2.out, if_neg hCn]
    subst hK6
    exact ⟨none, 0, 0, [], rfl, fun h => absurd h (by decide), ⟨World.ownsRow_nil _ _ _ _, fun y hy => by cases hy⟩, hbw3⟩
  subst hlc0
  have hCn : C = [] := List.length_eq_zero_iff.1 HLc.out
  have hK3 : KK = if (L.filterMap f).length ≤ 24 then 0 else 5 := by rw [HK2.out, if_pos hCn]
  clear HLc HK2 hCn
  have HK3 := Lib.hid hK3; clear hK3
  have hO3 : AidOwn (w3.alloc (.cells #[] 56)) w.heap.size (.slice (some ⟨w3.heap.size, 0, none⟩) 0 0) 0 [] := ⟨World.ownsRow_made (base := w.heap.size) (e := 56) (size := 16) w3 #[] 0 hbw3.size (by simp [maxLen]) rfl, fun y hy => by cases hy⟩
  have hb4 : Below w3.heap.size w3 ((w3.alloc (.cells #[] 56)).alloc (.cells #[.slice A2 n2 c2, .slice A3 n3 c3] 24)) := by (repeat (first | (with_reducible assumption) | (with_reducible exact Below.refl _ _) | exact Nat.le_refl _ | exact Below.size (by with_reducible assumption) | (with_reducible refine Below.drew ?_) | (with_reducible refine below_drewN ?_ _) | (with_reducible refine Below.alloc ?_ ?_ _) | (with_reducible refine Below.setCell ?_ ?_ _) | (with_reducible refine le_alloc ?_ _) | (with_reducible refine le_set ?_ _ _) | (with_reducible refine le_drew ?_) | (with_reducible refine le_drewN ?_ _) | omega | (dsimp only; omega)))
  have hblk : ((w3.alloc (.cells #[] 56)).alloc (.cells #[.slice A2 n2 c2, .slice A3 n3 c3] 24)).heap[w3.heap.size + 1]? = some (.cells #[.slice A2 n2 c2, .slice A3 n3 c3] 24 (0, 0)) := heap_alloc2_new w3 _ _
  have hbw4 := hbw3.trans (hb4.mono hbw3.size)
  have hN4 := HN.out _ hbw4 (w3.heap.size + 1) (by simp) (by rw [cell_of_row _ _ _ _ _ _ hblk]; rfl) (by rw [cell_of_row _ _ _ _ _ _ hblk]; rfl)
  have hO4 := hO3.next (w' := (w3.alloc (.cells #[] 56)).alloc (.cells #[.slice A2 n2 c2, .slice A3 n3 c3] 24)) ((Below.refl _ _).alloc (Nat.le_refl _) _)
  clear hblk hb4 hO3 HN hbw3
  have HN4 := Lib.hid hN4; clear hN4
  go_wp2_with fail
  refine HN4.out.mono ?_
  rintro e w5 ⟨AL, cL, rfl, hoL, hb5⟩
  have hO5 := hO4.next hb5
  have hbw5 := hbw4.trans (hb5.mono hbw4.size)
  have hoL5 := own_base hoL hbw4.size
  clear hO4 hbw4 hb5 hoL HN4
  go_wp2_with fail
  go_loopw [8, 29] (fun o i wr => ∃ (k m : Nat) (ys : List AidG), k ≤ l ∧ i = .int .i64 k ∧ Hid (ys.map AidG.a = (L.take k).filterMap f) ∧ AidOwn wr w.heap.size o m ys ∧ Below w.heap.size w wr ∧ Hid (wr.ownsRow w.heap.size 2 1 (.slice AL l cL) l (L.flatMap intC))) (fun _ i _ => l - (intOf i).toNat)
  case atStart => exact ⟨0, 0, [], Nat.zero_le _, rfl, Lib.hid rfl, hO5, hbw5, Lib.hid hoL5⟩
  case round =>
    clear hO5 hbw5 hoL5
    obtain ⟨k, m, ys, hk, rfl, Hys, hO, hbw, HOL⟩ := hrel
    obtain ⟨A4, c4, rfl⟩ := own_slice hO.own
    have k0 : (0 : Int) ≤ (k : Int) := by omega
    by_cases hlt : k < l
    · have k1 : (k : Int) < (l : Int) := by omega
      obtain ⟨b, off, x, rfl, hb, hx, hcx⟩ := (Sl.of_own HOL.out).int k hlt
      have hnx := fm_next hx f
      have hmk : m ≤ k := by
        rw [← hO.len2, Hys.out]
        exact Nat.le_trans (List.length_filterMap_le _ _) (List.length_take_le _ _)
      have e63 : m + 1 ≤ maxLen := by unfold maxLen; omega
      have e32 : (m + 1) * 208 ≤ 140737488355328 := by omega
      have hxp := HNp.out x (List.mem_of_getElem? hx)
      have hfx := Hat.out x hxp
      have hO6 : ∀ w6, Below wr.heap.size wr w6 → AidOwn w6 w.heap.size (.slice A4 m c4) m ys := fun w6 hb6 => hO.next hb6
      clear hmk hO
      have HOs := Lib.hid hO6; clear hO6
      have E63 := Lib.hid e63; clear e63
      have E32 := Lib.hid e32; clear e32
      have Hx := Lib.hid hx; clear hx
      have Hxp := Lib.hid hxp; clear hxp
      have Hfx := Lib.hid hfx; clear hfx
      have Hnx0 := Lib.hid hnx; clear hnx
      go_wp2_with fail
      refine (HSt2.out wr hbw x).mono ?_
      rintro e wA ⟨y2, rfl, st2, ok2, hbA⟩
      clear hcx
      obtain ⟨F2, hF2⟩ : ∃ F, (fdN Z2 x).isSome = F := ⟨_, rfl⟩
      rw [hF2]
      have hbB : Below wA.heap.size wA (wA.alloc (stO F2 y2 58)) := (Below.refl _ _).alloc (Nat.le_refl _) _
      have hR2 := st_box wA F2 y2 58
      have hTB := st_thereG wA F2 y2 58
      have hzB : wA.heap.size < (wA.alloc (stO F2 y2 58)).heap.size := by simp
      have b8 := hbA.trans (hbB.mono hbA.size)
      obtain ⟨bX, hbX⟩ : ∃ q, wA.heap.size = q := ⟨_, rfl⟩
      rw [hbX] at hR2 hTB hzB
      have hbwX : wr.heap.size ≤ bX := by rw [← hbX]; exact hbA.size
      clear hbA hbB
      obtain ⟨wB, hwB⟩ : ∃ q, wA.alloc (stO F2 y2 58) = q := ⟨_, rfl⟩
      rw [hwB] at hR2 hTB hzB b8
      have HR2 := Lib.hid hR2; clear hR2
      have HTB := Lib.hid hTB; clear hTB
      have Hst2 := Lib.hid st2; clear st2
      have Hf2 := Lib.hid hF2; clear hF2
      have HwB := Lib.hid hwB; clear hwB
      go_wp2_with fail
      change Code.wp _ _ _ _ (wA.alloc (stO F2 y2 58))
      rw [HwB.out]
      clear HwB hbX
      have hbw8 := hbw.trans (b8.mono hbw.size)
      refine wp_region_held_drew (S := fun w' => Below wB.heap.size wB w') (by kernel_rfl) (Below.refl _ _).drew (fun hHeld => ?_)
      refine wpAnyH_take (i := 0) (v := .agg (List.toArray (stC F2 y2))) rfl (by kernel_rfl) (by kernel_rfl) (by kernel_rfl) (fun _ _ _ h => h) (yieldsIf_load_mid rfl _ _ rfl bX (0) rfl (stC F2 y2) _ (fun w' hw' => rangeBz HR2.out hw' hzB) Tryz.underlying58 rfl (by kernel_rfl)) (by assumption) ?_
      try simp only [Act.put, List.setIfInBounds_toArray, List.set_cons_zero, List.set_cons_succ, List.getElem_toArray, List.getElem_cons_zero]
      (first
        | (refine wpAnyH_take (i := 1) (v := ?_) rfl (by kernel_rfl) (by kernel_rfl) (by kernel_rfl) (fun _ _ _ h => h) (Or.inl ⟨by rfl, ?_⟩) (by assumption) ?_
           rotate_left
           focus (intro wq hSq; (try dsimp only at hSq); go_simp; (try (with_reducible rfl)); done))
        | (refine wpAnyH_take (i := 1) (v := undef) rfl (by kernel_rfl) (by kernel_rfl) (by kernel_rfl) (fun _ _ _ h => h) (Or.inr ⟨by rfl, rfl⟩) (by assumption) ?_)
        | fail "take 1")
      try simp only [Act.put, List.setIfInBounds_toArray, List.set_cons_zero, List.set_cons_succ, List.getElem_toArray, List.getElem_cons_zero, List.getElem_cons_succ]
      (first
        | (refine wpAnyH_take (i := 2) (v := ?_) rfl (by kernel_rfl) (by kernel_rfl) (by kernel_rfl) (fun _ _ _ h => h) (Or.inl ⟨by rfl, ?_⟩) (by assumption) ?_
           rotate_left
           focus (intro wq hSq; (try dsimp only at hSq); go_simp; (try (with_reducible rfl)); done))
        | (refine wpAnyH_take (i := 2) (v := undef) rfl (by kernel_rfl) (by kernel_rfl) (by kernel_rfl) (fun _ _ _ h => h) (Or.inr ⟨by rfl, rfl⟩) (by assumption) ?_)
        | fail "take 2")
      try simp only [Act.put, List.setIfInBounds_toArray, List.set_cons_zero, List.set_cons_succ, List.getElem_toArray, List.getElem_cons_zero, List.getElem_cons_succ]
      refine wpAnyH_ready (rs := [3]) (by kernel_rfl) (by simp) ?_
      refine AllReadyH.cons (o := _) rfl (fun K hK => ?_) AllReadyH.nil
      go_simp
      (refine (HSt1.out _ (hbw8.trans ((Below.refl _ _).drew.mono hbw8.size)) x).mono ?_; rintro e wC ⟨y1, rfl, st1, ok1, hbC'⟩; have hbC := (Below.refl wB.heap.size wB).drew.trans hbC')
      refine hK.out _ _ ?_ (fun hHeld => ?_)
      · exact hbC
      clear hK K
      try simp only [Act.put, List.setIfInBounds_toArray, List.set_cons_zero, List.set_cons_succ, List.getElem_toArray, List.getElem_cons_zero, List.getElem_cons_succ]
      obtain ⟨F1, hF1⟩ : ∃ F, (fdN Z1 x).isSome = F := ⟨_, rfl⟩
      rw [hF1]
      have hbwC := hbw8.trans (hbC.mono hbw8.size)
      refine wpAnyH_ready (rs := [4]) (by kernel_rfl) (by simp) ?_
      refine AllReadyH.cons (o := _) rfl (fun K hK => ?_) AllReadyH.nil
      go_simp
      (refine (equals_c F2 F1 y2 y1 wC (ok2.out _ hbwC) (ok1.out _ hbwC)).mono ?_; rintro e wD ⟨rfl, hbD'⟩; have hbD := hbC.trans (hbD'.mono hbC.size))
      refine hK.out _ _ ?_ (fun hHeld => ?_)
      · exact hbD
      clear hK K
      try simp only [Act.put, List.setIfInBounds_toArray, List.set_cons_zero, List.set_cons_succ, List.getElem_toArray, List.getElem_cons_zero, List.getElem_cons_succ]
      refine wpAnyH_done (by kernel_rfl) ?_ _
      obtain ⟨T, hT⟩ : ∃ T, ((F2 == F1) && sameX y2.a y1.a) = T := ⟨_, rfl⟩
      rw [hT]
      have hTe : eqB Z2 Z1 x = T := by rw [eqB, Hf2.out, hF1, ← Hst2.out, ← st1, hT]
      have hbwD := hbw8.trans (hbD.mono hbw8.size)
      have b9 := b8.trans (hbD.mono b8.size)
      have hfx := Hfx.out
      rw [hTe] at hfx
      have HR3 := Lib.hid (rangeBz HR2.out hbD hzB)
      have HT3 := Lib.hid (thereB HTB.out hbD hzB)
      have hzD : bX < wD.heap.size := Nat.lt_of_lt_of_le hzB hbD.size
      clear hHeld hbC hbC' hbD hbD' hbwC st1 ok1 hF1 hT hTe Hfx HR2 HTB hzB
      have hnx := Hnx0.out
      rw [hfx] at hnx
      clear Hnx0
      cases T
      · have b8 := b9
        rw [cond_false, getO_st, Hf2.out] at hnx
        have c0 := st_c0 HR3.out
        cases F2
        · have Hnx := Lib.hid hnx; clear hnx
          go_wp2_with fail
          go_roundw
          case rel => exact ⟨k + 1, m, ys, by omega, by go_num, Lib.hid (by rw [Hnx.out, ← Hys.out]; simp), (HOs.out _ b8), hbw.trans (b8.mono hbw.size), Lib.hid (own_next HOL.out b8)⟩
          case measure => simp [intOf]; omega
        · rw [cond_true, ← Hst2.out] at hnx
          have Hnx := Lib.hid hnx; clear hnx
          have HK3 := Lib.hid (ok2.out _ hbwD)
          go_wp2_with (first | (refine wpList_load_mid rfl _ _ rfl bX (1) rfl (AidG.cells y2) _ ((st_aid HR3.out)) Tryz.underlying56 rfl (by kernel_rfl) ?_))
          refine (copyAid_c y2 wD (HK3).out).mono ?_
          rintro e w2 ⟨z2, rfl, ha2, hN2, hb2⟩
          have HO7 := Lib.hid (HOs.out _ b8)
          have b9 := b8.trans (hb2.mono b8.size)
          have HO2 := Lib.hid (HO7.out.next hb2)
          have HOL2 := Lib.hid (own_next (own_next HOL.out b8) hb2)
          have HN2 := Lib.hid (hN2.base (Nat.le_trans hbw.size b8.size))
          have hb2w := hbw.trans (b9.mono hbw.size)
          have hbA : Below w2.heap.size w2 (w2.alloc (.cells z2.cells.toArray 56)) := (Below.refl _ _).alloc (Nat.le_refl _) _
          have HS2 := Lib.hid (Sl.new w2 56 z2.cells 1 16 rfl)
          have HA2 := Lib.hid (HO2.out.own.alloc (.cells z2.cells.toArray 56))
          have HLE := Lib.hid (le_alloc hb2w.size (.cells z2.cells.toArray 56))
          have HOL3 := Lib.hid (own_next HOL2.out hbA)
          clear hN2 HO7 b8 b9
          have Ha2 := Lib.hid ha2; clear ha2
          go_wp2_with (at_builtin; refine wpl_append _ rfl (.tmp 46) (.tmp 50) _ rfl w.heap.size 56 i0 _ 16 208 Tryz.underlying24 hi hz0 hz1 hz2 rfl (by omega) _ m _ rfl HA2.out (w2.heap.size + 1) (some ⟨w2.heap.size, 0, none⟩) 1 1 z2.cells rfl HS2.out (aidg_one z2) E63.out E32.out HLE.out ?_; intro v6 w6 ho6 hg6 hat6)
          have HOn := HO2.out.push HN2.out hbA hg6 ho6
          have hb6 : Below w.heap.size w w6 := (hb2w.trans (hbA.mono hb2w.size)).grown hg6 HLE.out fun g hg => (HO2.out.own.lt g hg).1
          have HOL6 := own_grown HOL3.out hg6 (own_ne HOL3.out HA2.out (by decide))
          go_roundw
          case rel => exact ⟨k + 1, m + 1, ys ++ [z2], by omega, by go_num, Lib.hid (by rw [List.map_append, Hys.out, Hnx.out, List.map_cons, List.map_nil, Ha2.out]; rfl), HOn, hb6, Lib.hid HOL6⟩
          case measure => simp [intOf]; omega
      · rw [cond_true, getO_st] at hnx
        clear HR3
        go_wp2_with fail
        refine (HSt3.out _ hbwD x).mono ?_
        rintro e wE ⟨y3, rfl, st3, ok3, hbE⟩
        obtain ⟨F3, hF3⟩ : ∃ F, (fdN Z3 x).isSome = F := ⟨_, rfl⟩
        rw [hF3] at hnx ⊢
        rw [← st3] at hnx
        have hTE := thereB HT3.out hbE hzD
        have b10 := b9.trans (hbE.mono b9.size)
        have hR5 := World.rangeAt_setCells_same wE bX 0 (stC F3 y3) hTE
        have b8 := belowW bX hbwX (stC F3 y3) 0 wE b10
        obtain ⟨wF, hwF⟩ : ∃ q, wE.setCells bX 0 (stC F3 y3) = q := ⟨_, rfl⟩
        rw [hwF] at hR5 b8
        have hOO : (List.toArray (stC F3 y3)).all (·.oneCell') = true := all_oneCell_toArray (stC_one F3 y3)
        have HK5 := Lib.hid (ok3.out _ (hbw.trans (b8.mono hbw.size)))
        have c0 := st_c0 hR5
        have HR5 := Lib.hid hR5; clear hR5
        have HTE := Lib.hid hTE; clear hTE
        have HwF := Lib.hid hwF; clear hwF
        have HOO := Lib.hid hOO; clear hOO
        clear b9 b10 hbE st3 ok3 hF3 HT3 hbwD
        cases F3
        · rw [cond_false] at hnx
          have Hnx := Lib.hid hnx; clear hnx
          go_wp2_with (first | (refine wpList_store_mid rfl _ _ _ rfl bX 0 (List.toArray (stC false y3)) rfl rfl HTE.out (by kernel_rfl) HOO.out ?_; rw [show wE.setCells bX 0 (List.toArray (stC false y3)).toList = wF from HwF.out]))
          go_roundw
          case rel => exact ⟨k + 1, m, ys, by omega, by go_num, Lib.hid (by rw [Hnx.out, ← Hys.out]; simp), (HOs.out _ b8), hbw.trans (b8.mono hbw.size), Lib.hid (own_next HOL.out b8)⟩
          case measure => simp [intOf]; omega
        · rw [cond_true] at hnx
          have Hnx := Lib.hid hnx; clear hnx
          go_wp2_with (first | (refine wpList_store_mid rfl _ _ _ rfl bX 0 (List.toArray (stC true y3)) rfl rfl HTE.out (by kernel_rfl) HOO.out ?_; rw [show wE.setCells bX 0 (List.toArray (stC true y3)).toList = wF from HwF.out]) | (refine wpList_load_mid rfl _ _ rfl bX (1) rfl (AidG.cells y3) _ ((st_aid HR5.out)) Tryz.underlying56 rfl (by kernel_rfl) ?_))
          refine (copyAid_c y3 wF (HK5).out).mono ?_
          rintro e w2 ⟨z2, rfl, ha2, hN2, hb2⟩
          have HO7 := Lib.hid (HOs.out _ b8)
          have b9 := b8.trans (hb2.mono b8.size)
          have HO2 := Lib.hid (HO7.out.next hb2)
          have HOL2 := Lib.hid (own_next (own_next HOL.out b8) hb2)
          have HN2 := Lib.hid (hN2.base (Nat.le_trans hbw.size b8.size))
          have hb2w := hbw.trans (b9.mono hbw.size)
          have hbA : Below w2.heap.size w2 (w2.alloc (.cells z2.cells.toArray 56)) := (Below.refl _ _).alloc (Nat.le_refl _) _
          have HS2 := Lib.hid (Sl.new w2 56 z2.cells 1 16 rfl)
          have HA2 := Lib.hid (HO2.out.own.alloc (.cells z2.cells.toArray 56))
          have HLE := Lib.hid (le_alloc hb2w.size (.cells z2.cells.toArray 56))
          have HOL3 := Lib.hid (own_next HOL2.out hbA)
          clear hN2 HO7 b8 b9
          have Ha2 := Lib.hid ha2; clear ha2
          go_wp2_with (at_builtin; refine wpl_append _ rfl (.tmp 46) (.tmp 50) _ rfl w.heap.size 56 i0 _ 16 208 Tryz.underlying24 hi hz0 hz1 hz2 rfl (by omega) _ m _ rfl HA2.out (w2.heap.size + 1) (some ⟨w2.heap.size, 0, none⟩) 1 1 z2.cells rfl HS2.out (aidg_one z2) E63.out E32.out HLE.out ?_; intro v6 w6 ho6 hg6 hat6)
          have HOn := HO2.out.push HN2.out hbA hg6 ho6
          have hb6 : Below w.heap.size w w6 := (hb2w.trans (hbA.mono hb2w.size)).grown hg6 HLE.out fun g hg => (HO2.out.own.lt g hg).1
          have HOL6 := own_grown HOL3.out hg6 (own_ne HOL3.out HA2.out (by decide))
          go_roundw
          case rel => exact ⟨k + 1, m + 1, ys ++ [z2], by omega, by go_num, Lib.hid (by rw [List.map_append, Hys.out, Hnx.out, List.map_cons, List.map_nil, Ha2.out]; rfl), HOn, hb6, Lib.hid HOL6⟩
          case measure => simp [intOf]; omega
    · obtain rfl : k = l := by omega
      have hfin : ys.map AidG.a = L.filterMap f := by rw [Hys.out, List.take_of_length_le (by rw [HLl.out]; omega)]
      have hml : (L.filterMap f).length = m := by rw [← hfin]; exact hO.len2
      have hKm : KK = if m ≤ 24 then 0 else 5 := by rw [HK3.out, hml]
      have Hfin := Lib.hid hfin; clear hfin
      clear HK3 hml
      by_cases h24 : m ≤ 24
      · rw [if_pos h24] at hKm
        subst hKm
        have hfw : ∀ w1, Calls Tryz.prog 30 #[.int .i64 (m : Int), .int .i64 24] w1 fun e w' => e = .returned (.bool true) ∧ w1 = w' := fun w1 => by
          have := few_c (m : Int) 24 w1
          rwa [decide_eq_true (by omega)] at this
        clear h24
        have HFW := Lib.hid hfw; clear hfw
        go_wp2_with fail
        refine (HFW.out _).mono ?_
        rintro e w1 ⟨rfl, rfl⟩
        go_wp2_with fail
        go_ret2
        exact ⟨A4, m, c4, rfl, ys, Hfin.out, hO, hbw⟩
      · rw [if_neg h24] at hKm
        subst hKm
        have hfw : ∀ w1, Calls Tryz.prog 30 #[.int .i64 (m : Int), .int .i64 24] w1 fun e w' => e = .returned (.bool false) ∧ w1 = w' := fun w1 => by
          have := few_c (m : Int) 24 w1
          rwa [decide_eq_false (by omega)] at this
        clear h24
        have HFW := Lib.hid hfw; clear hfw
        go_wp2_with fail
        refine (HFW.out _).mono ?_
        rintro e w1 ⟨rfl, rfl⟩
        go_wp2_with fail
        go_ret2
        exact ⟨none, 0, 0, [], rfl, fun h => absurd h (by decide), ⟨World.ownsRow_nil _ _ _ _, fun y hy => by cases hy⟩, hbw⟩
end Go.Proofs.YtpfnnjcochhklaaGreatDoor
