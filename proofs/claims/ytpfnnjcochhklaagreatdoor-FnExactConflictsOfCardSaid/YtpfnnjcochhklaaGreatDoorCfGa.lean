/- CfGa: several of my texts in one. -/
import Derived.Test.YtpfnnjcochhklaaGreatDoorCfPG
import Derived.Test.YtpfnnjcochhklaaGreatDoorCfZG
import Derived.Test.YtpfnnjcochhklaaGreatDoorCfAn
import Derived.Test.YtpfnnjcochhklaaGreatDoorAidsS

/- Conflicts of two lists of aids: the reference. -/
namespace Go.Proofs.YtpfnnjcochhklaaGreatDoor
open Go.RowKit
set_option maxRecDepth 100000 in
set_option maxHeartbeats 1000000 in
theorem l05SameG_c (b off b' off' : Nat) (A A' : Option Addr) (n n' c c' : Nat) (x y : Ch) (w : World) (h : ChP w b off A n c x) (h' : ChP w b' off' A' n' c' y) :
    Calls Tryz.prog 50 #[.pointer (some ⟨b, off, none⟩), .pointer (some ⟨b', off', none⟩)] w fun e w' => e = .returned (.bool (sameCh x y)) ∧ ∃ k, w' = w.drewN k := by
  have hB : ∀ n, Below w.heap.size w (w.drewN n) := fun n => below_drewN (Below.refl _ _) n
  have hS : ∀ q, Calls Tryz.prog 81 #[.slice A n c, .slice A' n' c'] (w.drewN q) fun e w' => e = .returned (.bool (decide (x.gs = y.gs))) ∧ ∃ m, w' = (w.drewN q).drewN m := fun q => sameQ_c A A' n n' c c' x.gs y.gs (w.drewN q) (h.next (hB q)).sl (h'.next (hB q)).sl h.hn h'.hn
  obtain ⟨G, hG⟩ : ∃ G, decide (x.gs = y.gs) = G := ⟨_, rfl⟩
  have hv : sameCh x y = ((x.k == y.k) && (G && ((x.l.toList == y.l.toList) && ((x.cs.toList == y.cs.toList) && (x.p == y.p))))) := by rw [sameCh, hG]
  rw [hv]
  rw [hG] at hS
  obtain ⟨c0, c1, c2, c3, c4, hb, _, _, _, _⟩ := h
  obtain ⟨d0, d1, d2, d3, d4, hb', _, _, _, _⟩ := h'
  clear hB
  have Hv := Lib.hid hv; clear hv
  have HS := Lib.hid hS; clear hS
  have HG := Lib.hid hG; clear hG
  cases h1 : (x.k == y.k)
  · go_enter Tryz.func50, Tryz.ntmps50
    go_wp2
    go_quiet ((go_at_call 81; exact quiet_dm (HS.out _)))
    go_wp2
    go_ret
    exact ⟨rfl, _, rfl⟩
  cases G
  · go_enter Tryz.func50, Tryz.ntmps50
    go_wp2
    go_quiet ((go_at_call 81; exact quiet_dm (HS.out _)))
    go_wp2
    go_ret
    exact ⟨rfl, _, rfl⟩
  cases h2 : (x.l.toList == y.l.toList)
  · go_enter Tryz.func50, Tryz.ntmps50
    go_wp2
    go_quiet ((go_at_call 81; exact quiet_dm (HS.out _)))
    go_wp2
    go_ret
    exact ⟨rfl, _, rfl⟩
  cases h3 : (x.cs.toList == y.cs.toList)
  · go_enter Tryz.func50, Tryz.ntmps50
    go_wp2
    go_quiet ((go_at_call 81; exact quiet_dm (HS.out _)))
    go_wp2
    go_ret
    exact ⟨rfl, _, rfl⟩
  · go_enter Tryz.func50, Tryz.ntmps50
    go_wp2
    go_quiet ((go_at_call 81; exact quiet_dm (HS.out _)))
    go_wp2
    go_ret
    exact ⟨ret_eq (bool_eq (by simp)), _, rfl⟩
theorem sameP_c (b off b' off' : Nat) (z y : AidG) (w : World) (hp : AidP w b off z) (hp' : AidP w b' off' y) (hz : AidOk w z) (hy : AidOk w y) :
    Calls Tryz.prog 31 #[.pointer (some ⟨b, off, none⟩), .pointer (some ⟨b', off', none⟩)] w fun e w' => e = .returned (.bool (sameX z.a y.a)) ∧ Below w.heap.size w w' := by
  have hB : ∀ n, Below w.heap.size w (w.drewN n) := fun n => below_drewN (Below.refl _ _) n
  refine (l12Same_w b off b' off' z y _ _ w hp hp' (fun n => l05SameG_c b (off + 9) b' (off' + 9) z.A y.A z.n y.n z.c y.c z.a.ch y.a.ch (w.drewN n) ((hp.next (hB n)).ch (hz.next (hB n))) ((hp'.next (hB n)).ch (hy.next (hB n)))) (fun n => secsQ_c z.B y.B z.m y.m z.d y.d z.a.secs y.a.secs (w.drewN n) (hz.next (hB n)).ss (hy.next (hB n)).ss hz.bd.ss hy.bd.ss)).mono ?_
  rintro e w' ⟨rfl, k, rfl⟩
  exact ⟨rfl, hB k⟩
set_option maxRecDepth 100000 in
set_option maxHeartbeats 2000000 in
theorem l23State_c (A : Option Addr) (n c : Nat) (zs : List AidG) (v : Int) (w : World) (h : AidSl w A n zs) (hm : n ≤ 1048576) :
    Calls Tryz.prog 57 #[.slice A n c, .int .i64 v] w fun e w' => ∃ z' : AidG, e = .returned z'.val ∧ z'.a = stA (zs.map AidG.a) v ∧ AidOk w' z' ∧ Below w.heap.size w w' := by
  have hl := h.len
  cases hF : fdN (zs.map AidG.a) v with
  | none =>
    have hS : stA (zs.map AidG.a) v = aidZn.a := by rw [stA, hF]; rfl
    have hFi : ∀ w1, Below w.heap.size w w1 → Calls Tryz.prog 76 #[.slice A n c, .int .i64 v] w1 fun e w' => e = .returned (.int .i64 (-1)) ∧ w1 = w' := fun w1 hb => by
      have := l12Find_c A n c zs v w1 (h.next hb) hm
      rwa [hF] at this
    have hF0 := (AidF.zeroB w 56).set (aidZn)
    have hb0 := belowW (w).heap.size (Nat.le_refl _) (AidG.cells (aidZn)) 0 _ ((Below.refl (w).heap.size w).alloc (Nat.le_refl _) (aidZB 56))
    have TT := (AidF.zeroB w 56).there 0 16 (by omega)
    have SZ : (w).heap.size < (((w).alloc (aidZB 56)).setCells (w).heap.size 0 (AidG.cells (aidZn))).heap.size := by rw [sizeW]; simp
    obtain ⟨w0, hWW⟩ : ∃ x, ((w).alloc (aidZB 56)).setCells (w).heap.size 0 (AidG.cells (aidZn)) = x := ⟨_, rfl⟩
    rw [hWW] at hF0 hb0 SZ
    have OO : (List.toArray (AidG.cells (aidZn))).all (·.oneCell') = true := all_oneCell_toArray (aidg_one _)
    have HTT := Lib.hid TT; clear TT
    have HWW := Lib.hid hWW; clear hWW
    have HOO := Lib.hid OO; clear OO
    have hba : Below w.heap.size w (w.alloc (aidZB 56)) := by (repeat (first | (with_reducible assumption) | (with_reducible exact Below.refl _ _) | exact Nat.le_refl _ | exact Below.size (by with_reducible assumption) | (with_reducible refine Below.drew ?_) | (with_reducible refine below_drewN ?_ _) | (with_reducible refine Below.alloc ?_ ?_ _) | (with_reducible refine Below.setCell ?_ ?_ _) | (with_reducible refine le_alloc ?_ _) | (with_reducible refine le_set ?_ _ _) | (with_reducible refine le_drew ?_) | (with_reducible refine le_drewN ?_ _) | omega | (dsimp only; omega)))
    have HFi := Lib.hid hFi; clear hFi
    have HS := Lib.hid hS; clear hS
    have HF := Lib.hid hF; clear hF
    have HF0 := Lib.hid hF0; clear hF0
    go_enter Tryz.func57, Tryz.ntmps57
    go_wp2_with (first | ((with_reducible refine (HFi.out _ hba).mono ?_); rintro e w1 ⟨rfl, rfl⟩) | (refine wpList_store_mid rfl _ _ _ rfl (w).heap.size 0 (List.toArray (AidG.cells (aidZn))) rfl rfl HTT.out (by kernel_rfl) HOO.out ?_; rw [show ((w).alloc (aidZB 56)).setCells (w).heap.size 0 (List.toArray (AidG.cells (aidZn))).toList = w0 from HWW.out]))
    exact bodyPost_ret (v := aidZn.val) (results_cell_mid Tryz.results57 _ w0 w.heap.size 0 (AidG.cells aidZn) _ rfl HF0.out.p.range Tryz.underlying56 rfl (by kernel_rfl)) rfl ⟨aidZn, rfl, HS.out.symm, aidzn_ok _, hb0⟩
  | some k =>
    have hkn : k < n := by
      obtain ⟨a, _, _, h3⟩ := fdN_at hF
      rw [List.length_map] at h3; omega
    obtain ⟨b, off, z, rfl, hb, hx, hz, hp⟩ := h.getR k hkn
    have hS : stA (zs.map AidG.a) v = z.a := by
      rw [stA, hF, Option.elim_some, aAt_eq hx]
    have hFi : ∀ w1, Below w.heap.size w w1 → Calls Tryz.prog 76 #[.slice (some ⟨b, off, none⟩) n c, .int .i64 v] w1 fun e w' => e = .returned (.int .i64 (k : Int)) ∧ w1 = w' := fun w1 hb => by
      have := l12Find_c (some ⟨b, off, none⟩) n c zs v w1 (h.next hb) hm
      rwa [hF] at this
    have hF0 := (AidF.zeroB w 56).set (z)
    have hb0 := belowW (w).heap.size (Nat.le_refl _) (AidG.cells (z)) 0 _ ((Below.refl (w).heap.size w).alloc (Nat.le_refl _) (aidZB 56))
    have TT := (AidF.zeroB w 56).there 0 16 (by omega)
    have SZ : (w).heap.size < (((w).alloc (aidZB 56)).setCells (w).heap.size 0 (AidG.cells (z))).heap.size := by rw [sizeW]; simp
    obtain ⟨w0, hWW⟩ : ∃ x, ((w).alloc (aidZB 56)).setCells (w).heap.size 0 (AidG.cells (z)) = x := ⟨_, rfl⟩
    rw [hWW] at hF0 hb0 SZ
    have OO : (List.toArray (AidG.cells (z))).all (·.oneCell') = true := all_oneCell_toArray (aidg_one _)
    have HTT := Lib.hid TT; clear TT
    have HWW := Lib.hid hWW; clear hWW
    have HOO := Lib.hid OO; clear OO
    have hba : Below w.heap.size w (w.alloc (aidZB 56)) := by (repeat (first | (with_reducible assumption) | (with_reducible exact Below.refl _ _) | exact Nat.le_refl _ | exact Below.size (by with_reducible assumption) | (with_reducible refine Below.drew ?_) | (with_reducible refine below_drewN ?_ _) | (with_reducible refine Below.alloc ?_ ?_ _) | (with_reducible refine Below.setCell ?_ ?_ _) | (with_reducible refine le_alloc ?_ _) | (with_reducible refine le_set ?_ _ _) | (with_reducible refine le_drew ?_) | (with_reducible refine le_drewN ?_ _) | omega | (dsimp only; omega)))
    have hR := rangeBz hp hba hb
    have k0 : (0 : Int) ≤ (k : Int) := by omega
    have k1 : (k : Int) < (n : Int) := by omega
    have hz0 := hz.next hb0
    clear hp hz
    have HFi := Lib.hid hFi; clear hFi
    have HS := Lib.hid hS; clear hS
    have HF := Lib.hid hF; clear hF
    have HF0 := Lib.hid hF0; clear hF0
    have HR := Lib.hid hR; clear hR
    have Hx := Lib.hid hx; clear hx
    go_enter Tryz.func57, Tryz.ntmps57
    go_wp2_with (first | ((with_reducible refine (HFi.out _ hba).mono ?_); rintro e w1 ⟨rfl, rfl⟩) | (refine wpList_load_mid rfl _ _ rfl b (off + k * 16) rfl (AidG.cells z) _ (HR.out) Tryz.underlying56 rfl (by kernel_rfl) ?_) | (refine wpList_store_mid rfl _ _ _ rfl (w).heap.size 0 (List.toArray (AidG.cells (z))) rfl rfl HTT.out (by kernel_rfl) HOO.out ?_; rw [show ((w).alloc (aidZB 56)).setCells (w).heap.size 0 (List.toArray (AidG.cells (z))).toList = w0 from HWW.out]))
    exact bodyPost_ret (v := z.val) (results_cell_mid Tryz.results57 _ w0 w.heap.size 0 (AidG.cells z) _ rfl HF0.out.p.range Tryz.underlying56 rfl (by kernel_rfl)) rfl ⟨z, rfl, HS.out.symm, hz0, hb0⟩
end Go.Proofs.YtpfnnjcochhklaaGreatDoor

/- Conflicts of two lists of aids: the reference: the numbers, the conflicts. -/
namespace Go.Proofs.YtpfnnjcochhklaaGreatDoor
open Go.RowKit
theorem putAll_bd (xs : List Int) (l : List Int) (k : Nat) : (putAll l (xs.take k)).length ≤ l.length + xs.length := Nat.le_trans (putAll_len _ _) (by rw [List.length_take]; omega)
set_option maxRecDepth 100000 in
set_option maxHeartbeats 4000000 in
theorem l23Numbers_c (A1 A2 A3 : Option Addr) (n1 n2 n3 c1 c2 c3 : Nat) (z1 z2 z3 : List AidG) (w : World) (h1 : AidSl w A1 n1 z1) (h2 : AidSl w A2 n2 z2) (h3 : AidSl w A3 n3 z3) (m1 : n1 ≤ 24) (m2 : n2 ≤ 24) (m3 : n3 ≤ 24) :
    Calls Tryz.prog 56 #[.slice A1 n1 c1, .slice A2 n2 c2, .slice A3 n3 c3] w fun e w' => ∃ A c, e = .returned (.slice A (numS (z1.map AidG.a) (z2.map AidG.a) (z3.map AidG.a)).length c) ∧ w'.ownsRow w.heap.size 2 1 (.slice A (numS (z1.map AidG.a) (z2.map AidG.a) (z3.map AidG.a)).length c) (numS (z1.map AidG.a) (z2.map AidG.a) (z3.map AidG.a)).length ((numS (z1.map AidG.a) (z2.map AidG.a) (z3.map AidG.a)).flatMap intC) ∧ Below w.heap.size w w' := by
  have l1 := h1.len
  have l2 := h2.len
  have l3 := h3.len
  obtain ⟨Z1, hZ1⟩ : ∃ Z, z1.map AidG.a = Z := ⟨_, rfl⟩
  obtain ⟨Z2, hZ2⟩ : ∃ Z, z2.map AidG.a = Z := ⟨_, rfl⟩
  obtain ⟨Z3, hZ3⟩ : ∃ Z, z3.map AidG.a = Z := ⟨_, rfl⟩
  have q1 : (([] : List Int)).length + (Z1.map AidX.num).length ≤ 24 := by rw [← hZ1]; simp only [List.length_map, l1, List.length_nil]; omega
  have q2 : (putAll [] (Z1.map AidX.num)).length + (Z2.map AidX.num).length ≤ 48 := by
    have := putAll_len (Z1.map AidX.num) []
    have e2 : (Z2.map AidX.num).length ≤ 24 := by rw [← hZ2]; simp only [List.length_map, l2]; omega
    omega
  have q3 : (putAll (putAll [] (Z1.map AidX.num)) (Z2.map AidX.num)).length + (Z3.map AidX.num).length ≤ 72 := by
    have := putAll_len (Z2.map AidX.num) (putAll [] (Z1.map AidX.num))
    have e3 : (Z3.map AidX.num).length ≤ 24 := by rw [← hZ3]; simp only [List.length_map, l3]; omega
    omega
  have hov0 := World.ownsRow_made (base := w.heap.size) (e := 2) (size := 1) w #[] 0 (Nat.le_refl _) (by simp [maxLen]) rfl
  have hbv : Below w.heap.size w (w.alloc (.cells #[] 2)) := (Below.refl _ _).alloc (Nat.le_refl _) _
  have HZ1 := Lib.hid hZ1; clear hZ1
  have HZ2 := Lib.hid hZ2; clear hZ2
  have HZ3 := Lib.hid hZ3; clear hZ3
  have Q1 := Lib.hid q1; clear q1
  have Q2 := Lib.hid q2; clear q2
  have Q3 := Lib.hid q3; clear q3
  have L1 := Lib.hid l1; clear l1
  have L2 := Lib.hid l2; clear l2
  have L3 := Lib.hid l3; clear l3
  go_enter Tryz.func56, Tryz.ntmps56
  go_wp2_with fail
  go_loopw [7, 8] (fun r i wr => ∃ (k : Nat) (Ar : Option Addr) (cr : Nat), k ≤ n1 ∧ i = .int .i64 k ∧ r = .slice Ar (putAll [] ((Z1.map AidX.num).take k)).length cr ∧ wr.ownsRow w.heap.size 2 1 (.slice Ar (putAll [] ((Z1.map AidX.num).take k)).length cr) (putAll [] ((Z1.map AidX.num).take k)).length ((putAll [] ((Z1.map AidX.num).take k)).flatMap intC) ∧ Below w.heap.size w wr) (fun _ i _ => n1 - (intOf i).toNat)
  case atStart => exact ⟨0, _, _, Nat.zero_le _, rfl, rfl, hov0, hbv⟩
  case round =>
    obtain ⟨k, Ar, cr, hk, rfl, rfl, hov, hbw⟩ := hrel
    have k0 : (0 : Int) ≤ (k : Int) := by omega
    have hbd : (putAll [] ((Z1.map AidX.num).take k)).length ≤ 1000 := Nat.le_trans (putAll_bd _ _ _) (Nat.le_trans Q1.out (by decide))
    by_cases hlt : k < n1
    · have k1 : (k : Int) < (n1 : Int) := by omega
      obtain ⟨b, off, z, rfl, hx, _, hp⟩ := (h1.next hbw).get k hlt
      have c0 := hp.c0
      have hxn : (Z1.map AidX.num)[k]? = some z.a.num := by rw [← HZ1.out, List.getElem?_map, List.getElem?_map, hx]; rfl
      have hnx := putAll_next [] (Z1.map AidX.num) hxn
      obtain ⟨P, hP⟩ : ∃ P, putAll [] ((Z1.map AidX.num).take k) = P := ⟨_, rfl⟩
      rw [hP] at hov hnx hbd ⊢
      have hPut := l00Put_c Ar P.length cr P z.a.num wr (Sl.of_own hov) hbd
      clear hp hov
      obtain ⟨pl, hpl⟩ : ∃ q, P.length = q := ⟨_, rfl⟩
      rw [hpl] at hPut ⊢
      have HPl := Lib.hid hpl; clear hpl
      have HP := Lib.hid hP; clear hP
      have Hx := Lib.hid hx; clear hx
      have Hxn := Lib.hid hxn; clear hxn
      have Hnx := Lib.hid hnx; clear hnx
      have HPut := Lib.hid hPut; clear hPut
      go_wp2_with fail
      refine HPut.out.mono ?_
      rintro e w2 ⟨r, rfl, ho2, hb2⟩
      obtain ⟨A2', c2', rfl⟩ := own_slice ho2
      have ho2b := own_base ho2 hbw.size
      have hb2w := hbw.trans (hb2.mono hbw.size)
      go_wp2_with fail
      go_roundw
      case rel => exact ⟨k + 1, A2', c2', by omega, by go_num, by rw [Hnx.out], by rw [Hnx.out]; exact ho2b, hb2w⟩
      case measure => simp [intOf]; omega
    · obtain rfl : k = n1 := by omega
      rw [List.take_of_length_le (by rw [List.length_map, ← HZ1.out, List.length_map, L1.out]; omega)] at hov ⊢
      clear hov0 hbv hbd
      obtain ⟨P1, hP1⟩ : ∃ P, putAll [] (Z1.map AidX.num) = P := ⟨_, rfl⟩
      rw [hP1] at hov
      have Q2' := Lib.hid (by have := Q2.out; rwa [hP1] at this)
      have Q3' := Lib.hid (by have := Q3.out; rwa [hP1] at this)
      obtain ⟨wA, rfl⟩ : ∃ wz : World, wz = wr := ⟨_, rfl⟩
      have hovA := hov
      have hbwA := hbw
      clear hov hbw Q1 Q2 Q3
      have HP1 := Lib.hid hP1; clear hP1
      go_wp2_with fail
      go_loopw [7, 9] (fun r i wr => ∃ (k : Nat) (Ar : Option Addr) (cr : Nat), k ≤ n2 ∧ i = .int .i64 k ∧ r = .slice Ar (putAll P1 ((Z2.map AidX.num).take k)).length cr ∧ wr.ownsRow w.heap.size 2 1 (.slice Ar (putAll P1 ((Z2.map AidX.num).take k)).length cr) (putAll P1 ((Z2.map AidX.num).take k)).length ((putAll P1 ((Z2.map AidX.num).take k)).flatMap intC) ∧ Below w.heap.size w wr) (fun _ i _ => n2 - (intOf i).toNat)
      case atStart => exact ⟨0, _, _, Nat.zero_le _, rfl, by rw [← HP1.out]; rfl, hovA, hbwA⟩
      case round =>
        obtain ⟨k, Ar, cr, hk, rfl, rfl, hov, hbw⟩ := hrel
        have k0 : (0 : Int) ≤ (k : Int) := by omega
        have hbd : (putAll P1 ((Z2.map AidX.num).take k)).length ≤ 1000 := Nat.le_trans (putAll_bd _ _ _) (Nat.le_trans Q2'.out (by decide))
        by_cases hlt : k < n2
        · have k1 : (k : Int) < (n2 : Int) := by omega
          obtain ⟨b, off, z, rfl, hx, _, hp⟩ := (h2.next hbw).get k hlt
          have c0 := hp.c0
          have hxn : (Z2.map AidX.num)[k]? = some z.a.num := by rw [← HZ2.out, List.getElem?_map, List.getElem?_map, hx]; rfl
          have hnx := putAll_next P1 (Z2.map AidX.num) hxn
          obtain ⟨P, hP⟩ : ∃ P, putAll P1 ((Z2.map AidX.num).take k) = P := ⟨_, rfl⟩
          rw [hP] at hov hnx hbd ⊢
          have hPut := l00Put_c Ar P.length cr P z.a.num wr (Sl.of_own hov) hbd
          clear hp hov
          obtain ⟨pl, hpl⟩ : ∃ q, P.length = q := ⟨_, rfl⟩
          rw [hpl] at hPut ⊢
          have HPl := Lib.hid hpl; clear hpl
          have HP := Lib.hid hP; clear hP
          have Hx := Lib.hid hx; clear hx
          have Hxn := Lib.hid hxn; clear hxn
          have Hnx := Lib.hid hnx; clear hnx
          have HPut := Lib.hid hPut; clear hPut
          go_wp2_with fail
          refine HPut.out.mono ?_
          rintro e w2 ⟨r, rfl, ho2, hb2⟩
          obtain ⟨A2', c2', rfl⟩ := own_slice ho2
          have ho2b := own_base ho2 hbw.size
          have hb2w := hbw.trans (hb2.mono hbw.size)
          go_wp2_with fail
          go_roundw
          case rel => exact ⟨k + 1, A2', c2', by omega, by go_num, by rw [Hnx.out], by rw [Hnx.out]; exact ho2b, hb2w⟩
          case measure => simp [intOf]; omega
        · obtain rfl : k = n2 := by omega
          rw [List.take_of_length_le (by rw [List.length_map, ← HZ2.out, List.length_map, L2.out]; omega)] at hov ⊢
          clear hovA hbwA hbd
          obtain ⟨P2, hP2⟩ : ∃ P, putAll P1 (Z2.map AidX.num) = P := ⟨_, rfl⟩
          rw [hP2] at hov
          have Q3'' := Lib.hid (by have := Q3'.out; rwa [hP2] at this)
          obtain ⟨wB, rfl⟩ : ∃ wz : World, wz = wr := ⟨_, rfl⟩
          have hovB := hov
          have hbwB := hbw
          clear hov hbw Q2' Q3'
          have HP2 := Lib.hid hP2; clear hP2
          go_wp2_with fail
          go_loopw [7, 10] (fun r i wr => ∃ (k : Nat) (Ar : Option Addr) (cr : Nat), k ≤ n3 ∧ i = .int .i64 k ∧ r = .slice Ar (putAll P2 ((Z3.map AidX.num).take k)).length cr ∧ wr.ownsRow w.heap.size 2 1 (.slice Ar (putAll P2 ((Z3.map AidX.num).take k)).length cr) (putAll P2 ((Z3.map AidX.num).take k)).length ((putAll P2 ((Z3.map AidX.num).take k)).flatMap intC) ∧ Below w.heap.size w wr) (fun _ i _ => n3 - (intOf i).toNat)
          case atStart => exact ⟨0, _, _, Nat.zero_le _, rfl, by rw [← HP2.out]; rfl, hovB, hbwB⟩
          case round =>
            obtain ⟨k, Ar, cr, hk, rfl, rfl, hov, hbw⟩ := hrel
            have k0 : (0 : Int) ≤ (k : Int) := by omega
            have hbd : (putAll P2 ((Z3.map AidX.num).take k)).length ≤ 1000 := Nat.le_trans (putAll_bd _ _ _) (Nat.le_trans Q3''.out (by decide))
            by_cases hlt : k < n3
            · have k1 : (k : Int) < (n3 : Int) := by omega
              obtain ⟨b, off, z, rfl, hx, _, hp⟩ := (h3.next hbw).get k hlt
              have c0 := hp.c0
              have hxn : (Z3.map AidX.num)[k]? = some z.a.num := by rw [← HZ3.out, List.getElem?_map, List.getElem?_map, hx]; rfl
              have hnx := putAll_next P2 (Z3.map AidX.num) hxn
              obtain ⟨P, hP⟩ : ∃ P, putAll P2 ((Z3.map AidX.num).take k) = P := ⟨_, rfl⟩
              rw [hP] at hov hnx hbd ⊢
              have hPut := l00Put_c Ar P.length cr P z.a.num wr (Sl.of_own hov) hbd
              clear hp hov
              obtain ⟨pl, hpl⟩ : ∃ q, P.length = q := ⟨_, rfl⟩
              rw [hpl] at hPut ⊢
              have HPl := Lib.hid hpl; clear hpl
              have HP := Lib.hid hP; clear hP
              have Hx := Lib.hid hx; clear hx
              have Hxn := Lib.hid hxn; clear hxn
              have Hnx := Lib.hid hnx; clear hnx
              have HPut := Lib.hid hPut; clear hPut
              go_wp2_with fail
              refine HPut.out.mono ?_
              rintro e w2 ⟨r, rfl, ho2, hb2⟩
              obtain ⟨A2', c2', rfl⟩ := own_slice ho2
              have ho2b := own_base ho2 hbw.size
              have hb2w := hbw.trans (hb2.mono hbw.size)
              go_wp2_with fail
              go_roundw
              case rel => exact ⟨k + 1, A2', c2', by omega, by go_num, by rw [Hnx.out], by rw [Hnx.out]; exact ho2b, hb2w⟩
              case measure => simp [intOf]; omega
            · obtain rfl : k = n3 := by omega
              rw [List.take_of_length_le (by rw [List.length_map, ← HZ3.out, List.length_map, L3.out]; omega)] at hov ⊢
              clear hovB hbwB hbd
              go_wp2_with fail
              go_ret
              have eN : numS Z1 Z2 Z3 = putAll P2 (Z3.map AidX.num) := by rw [numS, HP1.out, HP2.out]
              rw [HZ1.out, HZ2.out, HZ3.out, eN]
              exact ⟨Ar, cr, rfl, hov, hbw⟩
end Go.Proofs.YtpfnnjcochhklaaGreatDoor

/- Conflicts of two lists of aids: the reference's l23Conflicts, ConflictsOf. -/
namespace Go.Proofs.YtpfnnjcochhklaaGreatDoor
open Go.RowKit
def cfQ (L : List Int) (base a b : List AidX) : List Int := L.filter (cflB base a b)
theorem cfQ_next {L : List Int} {k : Nat} {x : Int} (h : L[k]? = some x) (base a b : List AidX) : cfQ (L.take (k + 1)) base a b = cfQ (L.take k) base a b ++ (bif cflB base a b x then [x] else []) := by
  rw [cfQ, List.take_add_one, h, List.filter_append, cfQ]
  cases hb : cflB base a b x <;> simp [hb]
theorem cfQ_len (L : List Int) (base a b : List AidX) : (cfQ L base a b).length ≤ L.length := List.length_filter_le _ _
set_option maxRecDepth 100000 in
set_option maxHeartbeats 8000000 in
theorem l23Conflicts_c (A1 A2 A3 : Option Addr) (n1 n2 n3 c1 c2 c3 : Nat) (z1 z2 z3 : List AidG) (w : World) (h1 : AidSl w A1 n1 z1) (h2 : AidSl w A2 n2 z2) (h3 : AidSl w A3 n3 z3) (m1 : n1 ≤ 24) (m2 : n2 ≤ 24) (m3 : n3 ≤ 24) :
    Calls Tryz.prog 34 #[.slice A1 n1 c1, .slice A2 n2 c2, .slice A3 n3 c3] w fun e w' => ∃ A c, e = .returned (.slice A (cfQ (numS (z1.map AidG.a) (z2.map AidG.a) (z3.map AidG.a)) (z1.map AidG.a) (z2.map AidG.a) (z3.map AidG.a)).length c) ∧ w'.ownsRow w.heap.size 2 1 (.slice A (cfQ (numS (z1.map AidG.a) (z2.map AidG.a) (z3.map AidG.a)) (z1.map AidG.a) (z2.map AidG.a) (z3.map AidG.a)).length c) (cfQ (numS (z1.map AidG.a) (z2.map AidG.a) (z3.map AidG.a)) (z1.map AidG.a) (z2.map AidG.a) (z3.map AidG.a)).length ((cfQ (numS (z1.map AidG.a) (z2.map AidG.a) (z3.map AidG.a)) (z1.map AidG.a) (z2.map AidG.a) (z3.map AidG.a)).flatMap intC) ∧ Below w.heap.size w w' := by
  obtain ⟨p0, hp, hy0, hy1, hy2⟩ := info_parts intInfo
  have hN := l23Numbers_c A1 A2 A3 n1 n2 n3 c1 c2 c3 z1 z2 z3 w h1 h2 h3 m1 m2 m3
  have hNl : (numS (z1.map AidG.a) (z2.map AidG.a) (z3.map AidG.a)).length ≤ 72 := by
    have a1 := putAll_len ((z1.map AidG.a).map AidX.num) []
    have a2 := putAll_len ((z2.map AidG.a).map AidX.num) (putAll [] ((z1.map AidG.a).map AidX.num))
    have a3 := putAll_len ((z3.map AidG.a).map AidX.num) (putAll (putAll [] ((z1.map AidG.a).map AidX.num)) ((z2.map AidG.a).map AidX.num))
    have e1 := h1.len
    have e2 := h2.len
    have e3 := h3.len
    simp only [List.length_map, List.length_nil] at a1 a2 a3
    rw [numS]
    omega
  obtain ⟨Z1, hZ1⟩ : ∃ Z, z1.map AidG.a = Z := ⟨_, rfl⟩
  obtain ⟨Z2, hZ2⟩ : ∃ Z, z2.map AidG.a = Z := ⟨_, rfl⟩
  obtain ⟨Z3, hZ3⟩ : ∃ Z, z3.map AidG.a = Z := ⟨_, rfl⟩
  rw [hZ1, hZ2, hZ3] at hN hNl ⊢
  obtain ⟨L, hL⟩ : ∃ L, numS Z1 Z2 Z3 = L := ⟨_, rfl⟩
  rw [hL] at hN hNl ⊢
  obtain ⟨l, hll⟩ : ∃ q, L.length = q := ⟨_, rfl⟩
  rw [hll] at hN hNl
  have HN := Lib.hid hN; clear hN
  have HZ1 := Lib.hid hZ1; clear hZ1
  have HZ2 := Lib.hid hZ2; clear hZ2
  have HZ3 := Lib.hid hZ3; clear hZ3
  have HL := Lib.hid hL; clear hL
  have HLl := Lib.hid hll; clear hll
  go_enter Tryz.func34, Tryz.ntmps34
  go_wp2_with fail
  refine HN.out.mono ?_
  rintro e w1 ⟨AL, cL, rfl, hoL, hb1⟩
  have hL1 := Sl.of_own hoL
  have hov := World.ownsRow_made (base := w1.heap.size) (e := 2) (size := 1) w1 #[] 0 (Nat.le_refl _) (by simp [maxLen]) rfl
  have hbv : Below w1.heap.size w1 (w1.alloc (.cells #[] 2)) := (Below.refl _ _).alloc (Nat.le_refl _) _
  have h11 := h1.next hb1
  have h21 := h2.next hb1
  have h31 := h3.next hb1
  clear hoL h1 h2 h3 HN
  go_wp2_with fail
  go_loopw [8, 9] (fun o i wr => ∃ (k : Nat) (ys : List Int), k ≤ l ∧ i = .int .i64 k ∧ Hid (ys = cfQ (L.take k) Z1 Z2 Z3) ∧ wr.ownsRow w1.heap.size 2 1 o ys.length (ys.flatMap intC) ∧ Below w1.heap.size w1 wr) (fun _ i _ => l - (intOf i).toNat)
  case atStart => exact ⟨0, [], Nat.zero_le _, rfl, Lib.hid rfl, hov, hbv⟩
  case round =>
    clear hov hbv
    obtain ⟨k, ys, hk, rfl, Hys, hov, hbw⟩ := hrel
    obtain ⟨A4, c4, rfl⟩ := own_slice hov
    have k0 : (0 : Int) ≤ (k : Int) := by omega
    by_cases hlt : k < l
    · have k1 : (k : Int) < (l : Int) := by omega
      obtain ⟨b, off, x, rfl, hb, hx, hcx⟩ := (hL1.next hbw).int k hlt
      have hCx : ∀ w', Below wr.heap.size wr w' → w'.cell? ⟨b, off + k, none⟩ = some (.int .i64 x) := fun w' hb' => (keepC hb' b hb _).trans hcx
      have hnx := cfQ_next hx Z1 Z2 Z3
      have hyl0 : ys.length ≤ k := by rw [Hys.out]; exact Nat.le_trans (cfQ_len _ _ _ _) (List.length_take_le _ _)
      obtain ⟨yl, hyl⟩ : ∃ q, ys.length = q := ⟨_, rfl⟩
      rw [hyl] at hov hyl0
      have e63 : yl + 1 ≤ maxLen := by unfold maxLen; omega
      have e32 : (yl + 1) * 8 ≤ 140737488355328 := by omega
      have hO6 : ∀ w6, Below wr.heap.size wr w6 → w6.ownsRow w1.heap.size 2 1 (.slice A4 yl c4) yl (ys.flatMap intC) := fun w6 hb6 => own_next hov hb6
      rw [hyl]
      have S1 := h11.next hbw
      have S2 := h21.next hbw
      have S3 := h31.next hbw
      clear hyl0 hov
      have Hyl := Lib.hid hyl; clear hyl
      have HO6 := Lib.hid hO6; clear hO6
      have E63 := Lib.hid e63; clear e63
      have E32 := Lib.hid e32; clear e32
      have Hx := Lib.hid hx; clear hx
      have HCx := Lib.hid hCx; clear hCx
      go_wp2_with fail
      refine (l23State_c A1 n1 c1 z1 x wr S1 (by omega)).mono ?_
      rintro e wA ⟨y1, rfl, st1, ok1, hbA⟩
      have hF1 := (AidF.zeroB wA 56).set (y1)
      have hbB := belowW (wA).heap.size (Nat.le_refl _) (AidG.cells (y1)) 0 _ ((Below.refl (wA).heap.size wA).alloc (Nat.le_refl _) (aidZB 56))
      have TT := (AidF.zeroB wA 56).there 0 16 (by omega)
      have SZ : (wA).heap.size < (((wA).alloc (aidZB 56)).setCells (wA).heap.size 0 (AidG.cells (y1))).heap.size := by rw [sizeW]; simp
      obtain ⟨wB, hWW⟩ : ∃ x, ((wA).alloc (aidZB 56)).setCells (wA).heap.size 0 (AidG.cells (y1)) = x := ⟨_, rfl⟩
      rw [hWW] at hF1 hbB SZ
      have OO : (List.toArray (AidG.cells (y1))).all (·.oneCell') = true := all_oneCell_toArray (aidg_one _)
      have HTT := Lib.hid TT; clear TT
      have HWW := Lib.hid hWW; clear hWW
      have HOO := Lib.hid OO; clear OO
      have bB := hbA.trans (hbB.mono hbA.size)
      have ok1 := ok1.next hbB
      have SZ1 := SZ
      clear SZ hbB hcx
      have cx := HCx.out _ bB
      have HF1 := Lib.hid hF1; clear hF1
      go_wp2_with (first | (refine wpList_store_mid rfl _ _ _ rfl (wA).heap.size 0 (List.toArray (AidG.cells (y1))) rfl rfl HTT.out (by kernel_rfl) HOO.out ?_; rw [show ((wA).alloc (aidZB 56)).setCells (wA).heap.size 0 (List.toArray (AidG.cells (y1))).toList = wB from HWW.out]))
      clear HTT HWW HOO cx
      refine (l23State_c A2 n2 c2 z2 x wB (S2.next bB) (by omega)).mono ?_
      rintro e wC ⟨y2, rfl, st2, ok2, hbC⟩
      have hF2 := (AidF.zeroB wC 56).set (y2)
      have hbD := belowW (wC).heap.size (Nat.le_refl _) (AidG.cells (y2)) 0 _ ((Below.refl (wC).heap.size wC).alloc (Nat.le_refl _) (aidZB 56))
      have TT := (AidF.zeroB wC 56).there 0 16 (by omega)
      have SZ : (wC).heap.size < (((wC).alloc (aidZB 56)).setCells (wC).heap.size 0 (AidG.cells (y2))).heap.size := by rw [sizeW]; simp
      obtain ⟨wD, hWW⟩ : ∃ x, ((wC).alloc (aidZB 56)).setCells (wC).heap.size 0 (AidG.cells (y2)) = x := ⟨_, rfl⟩
      rw [hWW] at hF2 hbD SZ
      have OO : (List.toArray (AidG.cells (y2))).all (·.oneCell') = true := all_oneCell_toArray (aidg_one _)
      have HTT := Lib.hid TT; clear TT
      have HWW := Lib.hid hWW; clear hWW
      have HOO := Lib.hid OO; clear OO
      have hbCD := hbC.trans (hbD.mono hbC.size)
      have bD := bB.trans (hbCD.mono bB.size)
      have ok2 := ok2.next hbD
      have ok1 := ok1.next hbCD
      have HF1 := Lib.hid (HF1.out.next hbCD)
      have SZ2 := SZ
      clear SZ hbD hbC hbCD
      have cx := HCx.out _ bD
      have HF2 := Lib.hid hF2; clear hF2
      go_wp2_with (first | (refine wpList_store_mid rfl _ _ _ rfl (wC).heap.size 0 (List.toArray (AidG.cells (y2))) rfl rfl HTT.out (by kernel_rfl) HOO.out ?_; rw [show ((wC).alloc (aidZB 56)).setCells (wC).heap.size 0 (List.toArray (AidG.cells (y2))).toList = wD from HWW.out]))
      clear HTT HWW HOO cx
      refine (l23State_c A3 n3 c3 z3 x wD (S3.next bD) (by omega)).mono ?_
      rintro e wE ⟨y3, rfl, st3, ok3, hbE⟩
      have hF3 := (AidF.zeroB wE 56).set (y3)
      have hbF := belowW (wE).heap.size (Nat.le_refl _) (AidG.cells (y3)) 0 _ ((Below.refl (wE).heap.size wE).alloc (Nat.le_refl _) (aidZB 56))
      have TT := (AidF.zeroB wE 56).there 0 16 (by omega)
      have SZ : (wE).heap.size < (((wE).alloc (aidZB 56)).setCells (wE).heap.size 0 (AidG.cells (y3))).heap.size := by rw [sizeW]; simp
      obtain ⟨w6, hWW⟩ : ∃ x, ((wE).alloc (aidZB 56)).setCells (wE).heap.size 0 (AidG.cells (y3)) = x := ⟨_, rfl⟩
      rw [hWW] at hF3 hbF SZ
      have OO : (List.toArray (AidG.cells (y3))).all (·.oneCell') = true := all_oneCell_toArray (aidg_one _)
      have HTT := Lib.hid TT; clear TT
      have HWW := Lib.hid hWW; clear hWW
      have HOO := Lib.hid OO; clear OO
      have hbEF := hbE.trans (hbF.mono hbE.size)
      have b8 := bD.trans (hbEF.mono bD.size)
      have HK3 := Lib.hid (ok3.next hbF)
      have HK2 := Lib.hid (ok2.next hbEF)
      have HK1 := Lib.hid (ok1.next hbEF)
      have HF1 := Lib.hid (HF1.out.next hbEF)
      have HF2 := Lib.hid (HF2.out.next hbEF)
      clear SZ hbE hbF hbEF ok1 ok2 ok3 bB bD hbA
      have HF3 := Lib.hid hF3; clear hF3
      have hcf : cflB Z1 Z2 Z3 x = (!sameX y1.a y2.a && (!sameX y1.a y3.a && !sameX y2.a y3.a)) := by rw [cflB, st1, st2, st3, HZ1.out, HZ2.out, HZ3.out]
      clear st1 st2 st3 S1 S2 S3
      obtain ⟨T1, hT1⟩ : ∃ T, sameX y1.a y2.a = T := ⟨_, rfl⟩
      obtain ⟨T2, hT2⟩ : ∃ T, sameX y1.a y3.a = T := ⟨_, rfl⟩
      obtain ⟨T3, hT3⟩ : ∃ T, sameX y2.a y3.a = T := ⟨_, rfl⟩
      rw [hT1, hT2, hT3] at hcf
      rw [hcf] at hnx
      have HT1 := Lib.hid hT1; clear hT1
      have HT2 := Lib.hid hT2; clear hT2
      have HT3 := Lib.hid hT3; clear hT3
      have Hcf := Lib.hid hcf; clear hcf
      go_wp2_with (first | (refine wpList_store_mid rfl _ _ _ rfl (wE).heap.size 0 (List.toArray (AidG.cells (y3))) rfl rfl HTT.out (by kernel_rfl) HOO.out ?_; rw [show ((wE).alloc (aidZB 56)).setCells (wE).heap.size 0 (List.toArray (AidG.cells (y3))).toList = w6 from HWW.out]))
      clear HTT HWW HOO
      refine (sameP_c wA.heap.size 0 wC.heap.size 0 y1 y2 w6 HF1.out.p HF2.out.p HK1.out HK2.out).mono ?_
      rintro e w7 ⟨rfl, hbT⟩
      rw [HT1.out]
      have HF1 := Lib.hid (HF1.out.next hbT)
      have HF2 := Lib.hid (HF2.out.next hbT)
      have HF3 := Lib.hid (HF3.out.next hbT)
      have HK1 := Lib.hid (HK1.out.next hbT)
      have HK2 := Lib.hid (HK2.out.next hbT)
      have HK3 := Lib.hid (HK3.out.next hbT)
      have b9 := b8.trans (hbT.mono b8.size)
      have b8 := b9
      clear b9 hbT
      cases T1
      · go_wp2_with fail
        refine (sameP_c wA.heap.size 0 wE.heap.size 0 y1 y3 w7 HF1.out.p HF3.out.p HK1.out HK3.out).mono ?_
        rintro e w7b ⟨rfl, hbT⟩
        rw [HT2.out]
        have HF1 := Lib.hid (HF1.out.next hbT)
        have HF2 := Lib.hid (HF2.out.next hbT)
        have HF3 := Lib.hid (HF3.out.next hbT)
        have HK1 := Lib.hid (HK1.out.next hbT)
        have HK2 := Lib.hid (HK2.out.next hbT)
        have HK3 := Lib.hid (HK3.out.next hbT)
        have b9 := b8.trans (hbT.mono b8.size)
        have b8 := b9
        clear b9 hbT
        cases T2
        · go_wp2_with fail
          refine (sameP_c wC.heap.size 0 wE.heap.size 0 y2 y3 w7b HF2.out.p HF3.out.p HK2.out HK3.out).mono ?_
          rintro e w8 ⟨rfl, hbT⟩
          rw [HT3.out]
          have HF1 := Lib.hid (HF1.out.next hbT)
          have HF2 := Lib.hid (HF2.out.next hbT)
          have HF3 := Lib.hid (HF3.out.next hbT)
          have HK1 := Lib.hid (HK1.out.next hbT)
          have HK2 := Lib.hid (HK2.out.next hbT)
          have HK3 := Lib.hid (HK3.out.next hbT)
          have b9 := b8.trans (hbT.mono b8.size)
          have b8 := b9
          clear b9 hbT
          cases T3
          · have Hnx := Lib.hid hnx; clear hnx
            have HOw := Lib.hid (HO6.out _ b8)
            have HLE := Lib.hid (Nat.le_trans hbw.size b8.size)
            have cx := HCx.out _ b8
            go_wp2_with (at_builtin; refine wpl_append _ rfl (.tmp 52) (.tmp 57) _ rfl (w1.heap.size) 2 p0 _ 1 8 Tryz.underlying30 hp hy0 hy1 hy2 rfl (by omega) _ (yl) _ rfl ((HOw.out).alloc _) ((w8).heap.size + 1) (some ⟨(w8).heap.size, 0, none⟩) 1 1 (intC (x)) rfl (Sl.new (w8) 2 _ 1 1 rfl) (intC_one _) E63.out E32.out (le_alloc HLE.out _) ?_; intro v2 w2 ho2 hg2 hat2)
            have hb2 : Below w1.heap.size w1 w2 := ((hbw.trans (b8.mono hbw.size)).alloc HLE.out _).grown hg2 (le_alloc HLE.out _) fun q hq => (HOw.out.lt q hq).1
            go_roundw
            case rel => exact ⟨k + 1, ys ++ [x], by omega, by go_num, Lib.hid (by rw [Hnx.out, ← Hys.out]; rfl), by rw [List.length_append, Hyl.out, List.flatMap_append]; exact ho2, hb2⟩
            case measure => simp [intOf]; omega
          · have Hnx := Lib.hid hnx; clear hnx
            go_wp2_with fail
            go_roundw
            case rel => exact ⟨k + 1, ys, by omega, by go_num, Lib.hid (by rw [Hnx.out, ← Hys.out]; simp), by rw [Hyl.out]; exact HO6.out _ b8, hbw.trans (b8.mono hbw.size)⟩
            case measure => simp [intOf]; omega
        · have Hnx := Lib.hid hnx; clear hnx
          go_wp2_with fail
          go_roundw
          case rel => exact ⟨k + 1, ys, by omega, by go_num, Lib.hid (by rw [Hnx.out, ← Hys.out]; simp), by rw [Hyl.out]; exact HO6.out _ b8, hbw.trans (b8.mono hbw.size)⟩
          case measure => simp [intOf]; omega
      · have Hnx := Lib.hid hnx; clear hnx
        go_wp2_with fail
        go_roundw
        case rel => exact ⟨k + 1, ys, by omega, by go_num, Lib.hid (by rw [Hnx.out, ← Hys.out]; simp), by rw [Hyl.out]; exact HO6.out _ b8, hbw.trans (b8.mono hbw.size)⟩
        case measure => simp [intOf]; omega
    · obtain rfl : k = l := by omega
      go_wp2_with fail
      go_ret
      have hys : ys = cfQ L Z1 Z2 Z3 := by rw [Hys.out, List.take_of_length_le (by rw [HLl.out]; omega)]
      rw [← hys]
      exact ⟨A4, c4, rfl, own_base hov hb1.size, hb1.trans (hbw.mono hb1.size)⟩
end Go.Proofs.YtpfnnjcochhklaaGreatDoor

/- ConflictsOf: the reference. -/
namespace Go.Proofs.YtpfnnjcochhklaaGreatDoor
open Go.RowKit
theorem aids_24 {zs : List AidG} {n : Nat} (h : aidsB (zs.map AidG.a) = true) (hl : zs.length = n) : n ≤ 24 := by
  simp only [aidsB, decide_eq_true_eq, List.length_map] at h
  omega
theorem cfQ_is {base a b : List AidX} (h1 : aidsB base = true) (h2 : aidsB a = true) (h3 : aidsB b = true) : cfQ (numS base a b) base a b = cfP base a b := by
  rw [num_eq (aids_num h1) (aids_num h2) (aids_num h3)]; rfl
set_option maxRecDepth 100000 in
set_option maxHeartbeats 4000000 in
theorem specCf_c (A1 A2 A3 : Option Addr) (n1 n2 n3 c1 c2 c3 : Nat) (z1 z2 z3 : List AidG) (w : World) (h1 : AidSl w A1 n1 z1) (h2 : AidSl w A2 n2 z2) (h3 : AidSl w A3 n3 z3) (m1 : n1 ≤ 1048576) (m2 : n2 ≤ 1048576) (m3 : n3 ≤ 1048576) :
    Calls Tryz.prog 14 #[.slice A1 n1 c1, .slice A2 n2 c2, .slice A3 n3 c3] w fun e w' => ∃ A c, e = .returned (.tuple #[.slice A (cfL (z1.map AidG.a) (z2.map AidG.a) (z3.map AidG.a)).length c, .int .i64 (cfK (z1.map AidG.a) (z2.map AidG.a) (z3.map AidG.a))]) ∧ w'.ownsRow w.heap.size 2 1 (.slice A (cfL (z1.map AidG.a) (z2.map AidG.a) (z3.map AidG.a)).length c) (cfL (z1.map AidG.a) (z2.map AidG.a) (z3.map AidG.a)).length ((cfL (z1.map AidG.a) (z2.map AidG.a) (z3.map AidG.a)).flatMap intC) ∧ Below w.heap.size w w' := by
  have l1 := h1.len
  have l2 := h2.len
  have l3 := h3.len
  obtain ⟨V1, hV1⟩ : ∃ V, aidsB (z1.map AidG.a) = V := ⟨_, rfl⟩
  obtain ⟨V2, hV2⟩ : ∃ V, aidsB (z2.map AidG.a) = V := ⟨_, rfl⟩
  obtain ⟨V3, hV3⟩ : ∃ V, aidsB (z3.map AidG.a) = V := ⟨_, rfl⟩
  have k1 : Calls Tryz.prog 32 #[.slice A1 n1 c1] w fun e w' => e = .returned (.bool V1) ∧ Below w.heap.size w w' := hV1 ▸ l12Ok_c A1 n1 c1 z1 w h1 m1
  have k2 : ∀ w1, Below w.heap.size w w1 → Calls Tryz.prog 32 #[.slice A2 n2 c2] w1 fun e w' => e = .returned (.bool V2) ∧ Below w1.heap.size w1 w' := fun w1 hb => hV2 ▸ l12Ok_c A2 n2 c2 z2 w1 (h2.next hb) m2
  have k3 : ∀ w1, Below w.heap.size w w1 → Calls Tryz.prog 32 #[.slice A3 n3 c3] w1 fun e w' => e = .returned (.bool V3) ∧ Below w1.heap.size w1 w' := fun w1 hb => hV3 ▸ l12Ok_c A3 n3 c3 z3 w1 (h3.next hb) m3
  have k4 : V1 = true → V2 = true → V3 = true → ∀ w1, Below w.heap.size w w1 → Calls Tryz.prog 34 #[.slice A1 n1 c1, .slice A2 n2 c2, .slice A3 n3 c3] w1 fun e w' => ∃ A c, e = .returned (.slice A (cfP (z1.map AidG.a) (z2.map AidG.a) (z3.map AidG.a)).length c) ∧ w'.ownsRow w1.heap.size 2 1 (.slice A (cfP (z1.map AidG.a) (z2.map AidG.a) (z3.map AidG.a)).length c) (cfP (z1.map AidG.a) (z2.map AidG.a) (z3.map AidG.a)).length ((cfP (z1.map AidG.a) (z2.map AidG.a) (z3.map AidG.a)).flatMap intC) ∧ Below w1.heap.size w1 w' := fun e1 e2 e3 w1 hb => by
    have := l23Conflicts_c A1 A2 A3 n1 n2 n3 c1 c2 c3 z1 z2 z3 w1 (h1.next hb) (h2.next hb) (h3.next hb) (aids_24 (hV1.trans e1) l1) (aids_24 (hV2.trans e2) l2) (aids_24 (hV3.trans e3) l3)
    rwa [cfQ_is (hV1.trans e1) (hV2.trans e2) (hV3.trans e3)] at this
  have eL : cfL (z1.map AidG.a) (z2.map AidG.a) (z3.map AidG.a) = bif V1 && (V2 && V3) then cfP (z1.map AidG.a) (z2.map AidG.a) (z3.map AidG.a) else [] := by rw [cfL, cfV, hV1, hV2, hV3]
  have eK : cfK (z1.map AidG.a) (z2.map AidG.a) (z3.map AidG.a) = bif V1 && (V2 && V3) then 0 else 1 := by rw [cfK, cfV, hV1, hV2, hV3]
  rw [eL, eK]
  obtain ⟨P, hP⟩ : ∃ P, cfP (z1.map AidG.a) (z2.map AidG.a) (z3.map AidG.a) = P := ⟨_, rfl⟩
  rw [hP] at k4 ⊢
  clear eL eK hV1 hV2 hV3 hP h1 h2 h3 l1 l2 l3
  have K1 := Lib.hid k1; clear k1
  have K2 := Lib.hid k2; clear k2
  have K3 := Lib.hid k3; clear k3
  have K4 := Lib.hid k4; clear k4
  cases V1
  · go_enter Tryz.func14, Tryz.ntmps14
    go_wp2_with fail
    refine K1.out.mono ?_
    rintro e w1 ⟨rfl, hbb⟩
    go_wp2_with fail
    go_ret2
    exact ⟨none, 0, rfl, World.ownsRow_nil _ _ _ _, hbb⟩
  cases V2
  · go_enter Tryz.func14, Tryz.ntmps14
    go_wp2_with fail
    refine K1.out.mono ?_
    rintro e w1 ⟨rfl, hb1⟩
    go_wp2_with fail
    refine (K2.out _ hb1).mono ?_
    rintro e w2 ⟨rfl, hb2⟩
    have hbb := hb1.trans (hb2.mono hb1.size)
    go_wp2_with fail
    go_ret2
    exact ⟨none, 0, rfl, World.ownsRow_nil _ _ _ _, hbb⟩
  have K4b := Lib.hid (K4.out rfl rfl)
  clear K4
  cases V3
  · go_enter Tryz.func14, Tryz.ntmps14
    go_wp2_with fail
    refine K1.out.mono ?_
    rintro e w1 ⟨rfl, hb1⟩
    go_wp2_with fail
    refine (K2.out _ hb1).mono ?_
    rintro e w2 ⟨rfl, hb2⟩
    replace hb2 := hb1.trans (hb2.mono hb1.size)
    go_wp2_with fail
    refine (K3.out _ hb2).mono ?_
    rintro e w3 ⟨rfl, hb3⟩
    have hbb := hb2.trans (hb3.mono hb2.size)
    go_wp2_with fail
    go_ret2
    exact ⟨none, 0, rfl, World.ownsRow_nil _ _ _ _, hbb⟩
  · go_enter Tryz.func14, Tryz.ntmps14
    go_wp2_with fail
    refine K1.out.mono ?_
    rintro e w1 ⟨rfl, hb1⟩
    go_wp2_with fail
    refine (K2.out _ hb1).mono ?_
    rintro e w2 ⟨rfl, hb2⟩
    replace hb2 := hb1.trans (hb2.mono hb1.size)
    go_wp2_with fail
    refine (K3.out _ hb2).mono ?_
    rintro e w3 ⟨rfl, hb3⟩
    replace hb3 := hb2.trans (hb3.mono hb2.size)
    go_wp2_with fail
    refine (K4b.out trivial _ hb3).mono ?_
    rintro e w4 ⟨A4, c4, rfl, ho4, hb4⟩
    go_wp2_with fail
    go_ret2
    exact ⟨A4, c4, rfl, own_base ho4 hb3.size, hb3.trans (hb4.mono hb3.size)⟩
end Go.Proofs.YtpfnnjcochhklaaGreatDoor
