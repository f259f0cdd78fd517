/- AidNumbered: the reference. -/
import Derived.Test.YtnmkpegdbgebeaaGreatDoorFdP
import Derived.Test.YtnmkpegdbgebeaaGreatDoorOwnG
import Derived.Test.YtnmkpegdbgebeaaGreatDoorAidsS
namespace Go.Proofs.YtnmkpegdbgebeaaGreatDoor
open Go.RowKit
/-- What AidNumbered answers. -/
def anA (l : List AidX) (n : Int) : AidX := if aidsB l = true then ((fdN l n).elim aidZero (aAt l)) else aidZero
def anK (l : List AidX) (n : Int) : Int := bif aidsB l then ((fdN l n).elim 3 (fun _ => 0)) else 1
set_option maxRecDepth 100000 in
set_option maxHeartbeats 1000000 in
theorem l12Find_c (A : Option Addr) (n c : Nat) (zs : List AidG) (v : Int) (w : World) (h : AidSl w A n zs) (hm : n ≤ 1048576) :
    Calls Tryz.prog 28 #[.slice A n c, .int .i64 v] w fun e w' => e = .returned (.int .i64 ((fdN (zs.map AidG.a) v).elim (-1) (fun k : Nat => (k : Int)))) ∧ w = w' := by
  have hl := h.len
  obtain ⟨R, hR⟩ : ∃ R : Int, ((fdN (zs.map AidG.a) v).elim (-1) (fun k : Nat => (k : Int))) = R := ⟨_, rfl⟩
  rw [hR]
  have Hl := Lib.hid hl; clear hl
  have HR := Lib.hid hR; clear hR
  go_enter Tryz.func28, Tryz.ntmps28
  go_wp2_with fail
  go_loop [5] (fun i => ∃ k : Nat, k ≤ n ∧ i = .int .i64 k ∧ Hid (∀ (j : Nat) (b : AidX), j < k → (zs.map AidG.a)[j]? = some b → b.num ≠ v)) (fun i => n - (intOf i).toNat)
  case atStart => exact ⟨0, Nat.zero_le _, rfl, Lib.hid (fun j b hj => absurd hj (by omega))⟩
  case round =>
    obtain ⟨k, hk, rfl, Hs⟩ := hrel
    have k0 : (0 : Int) ≤ (k : Int) := by omega
    by_cases hlt : k < n
    · have k1 : (k : Int) < (n : Int) := by omega
      obtain ⟨b, off, z, rfl, hx, _, hp⟩ := h.get k hlt
      have c0 := hp.c0
      have hxa : (zs.map AidG.a)[k]? = some z.a := by rw [List.getElem?_map, hx]; rfl
      clear hp
      have Hx := Lib.hid hx; clear hx
      by_cases he : z.a.num = v
      · have hRk : R = (k : Int) := by rw [← HR.out, fdN_some hxa he Hs.out]; rfl
        have he1 : (z.a.num == v) = true := by simpa using he
        have Hxa := Lib.hid hxa; clear hxa
        have HRk := Lib.hid hRk; clear hRk
        clear he
        go_wp2_with fail
        go_ret
        exact ⟨ret_eq (int_eq HRk.out.symm), rfl⟩
      · have he1 : (z.a.num == v) = false := by simpa using he
        have Hxa := Lib.hid hxa; clear hxa
        have He := Lib.hid he; clear he
        go_wp2_with fail
        go_round
        case rel => exact ⟨k + 1, by omega, by go_num, Lib.hid (fun j b' hj hb => by
          rcases Nat.lt_or_ge j k with h2 | h2
          · exact Hs.out j b' h2 hb
          · obtain rfl : j = k := by omega
            rw [Hxa.out] at hb
            injection hb with hb
            rw [← hb]; exact He.out)⟩
        case measure => simp [intOf]; omega
    · obtain rfl : k = n := by omega
      have hRn : R = -1 := by
        rw [← HR.out, fdN_none fun j b hb => Hs.out j b (by have := (List.getElem?_eq_some_iff.1 hb).1; rw [List.length_map] at this; rw [← Hl.out]; exact this) hb]; rfl
      have HRn := Lib.hid hRn; clear hRn
      go_wp2_with fail
      go_ret
      exact ⟨ret_eq (int_eq HRn.out.symm), rfl⟩
theorem aidZ_new (w : World) (base : Nat) : AidNew w base aidZ := ⟨World.ownsRow_nil _ _ _ _, World.ownsRow_nil _ _ _ _⟩
set_option maxRecDepth 100000 in
set_option maxHeartbeats 2000000 in
theorem specAidNumbered_c (A : Option Addr) (n c : Nat) (zs : List AidG) (v : Int) (w : World) (h : AidSl w A n zs) (hm : n ≤ 1048576) :
    Calls Tryz.prog 8 #[.slice A n c, .int .i64 v] w fun e w' => ∃ z' : AidG, e = .returned (.tuple #[z'.val, .int .i64 (anK (zs.map AidG.a) v)]) ∧ z'.a = anA (zs.map AidG.a) v ∧ AidNew w' w.heap.size z' ∧ Below w.heap.size w w' := by
  have hl := h.len
  have hO := fun w1 (hb : Below w.heap.size w w1) => l12Ok_c A n c zs w1 (h.next hb) hm
  have hF := fun w1 (hb : Below w.heap.size w w1) => l12Find_c A n c zs v w1 (h.next hb) hm
  have hat := fun k z (hz : zs[k]? = some z) => aAt_eq hz
  obtain ⟨V, hV⟩ : ∃ V, aidsB (zs.map AidG.a) = V := ⟨_, rfl⟩
  obtain ⟨F, hFd⟩ : ∃ F, fdN (zs.map AidG.a) v = F := ⟨_, rfl⟩
  have hFl : ∀ k, F = some k → k < n := fun k hk => by
    obtain ⟨a, _, _, h3⟩ := fdN_at (hFd.trans hk)
    rw [List.length_map] at h3; omega
  have hA : anA (zs.map AidG.a) v = if V = true then (F.elim aidZero (aAt (zs.map AidG.a))) else aidZero := by rw [anA, hV, hFd]
  have hK : anK (zs.map AidG.a) v = bif V then (F.elim 3 (fun _ => 0)) else 1 := by rw [anK, hV, hFd]
  rw [hA, hK]
  rw [hV] at hO
  rw [hFd] at hF
  have hb0 : Below w.heap.size w (w.alloc (aidO aidZ 33)) := by (repeat (first | (with_reducible assumption) | (with_reducible exact Below.refl _ _) | exact Nat.le_refl _ | exact Below.size (by with_reducible assumption) | (with_reducible refine Below.drew ?_) | (with_reducible refine below_drewN ?_ _) | (with_reducible refine Below.alloc ?_ ?_ _) | (with_reducible refine Below.setCell ?_ ?_ _) | (with_reducible refine le_alloc ?_ _) | (with_reducible refine le_set ?_ _ _) | (with_reducible refine le_drew ?_) | (with_reducible refine le_drewN ?_ _) | omega | (dsimp only; omega)))
  have FR0 := AidF.box w aidZ 33
  obtain ⟨w0, hw⟩ : ∃ w0, w.alloc (aidO aidZ 33) = w0 := ⟨_, rfl⟩
  rw [hw] at hb0 FR0
  clear hA hK hV hFd
  have HO := Lib.hid hO; clear hO
  have HF := Lib.hid hF; clear hF
  have Hl := Lib.hid hl; clear hl
  have HFl := Lib.hid hFl; clear hFl
  have Hat := Lib.hid hat; clear hat
  have HR0 := Lib.hid FR0; clear FR0
  have hbx := hb0.size
  cases V
  · go_enter Tryz.func8, Tryz.ntmps8
    go_wp2_with fail
    change Calls _ _ _ (w.alloc (aidO aidZ 33)) _
    rw [hw]
    clear hw
    refine (HO.out _ hb0).mono ?_
    rintro e w1 ⟨rfl, hb1⟩
    have T9 := (HR0.out.next hb1).there 0 16 (by omega)
    have F9 := (HR0.out.next hb1).set (aidZ)
    have B9 := belowW w.heap.size (Nat.le_refl _) (AidG.cells (aidZ)) 0 _ (hb0.trans (hb1.mono hb0.size))
    have N9 := aidZ_new (w1.setCells w.heap.size 0 (AidG.cells aidZ)) w.heap.size
    obtain ⟨w9, hw9⟩ : ∃ w9, (w1).setCells w.heap.size 0 (AidG.cells (aidZ)) = w9 := ⟨_, rfl⟩
    rw [hw9] at F9 B9 N9
    obtain ⟨r0, r1, r2, r3, r4, r5, r6, r7, r8, r9, r10, r11, r12, r13, r14, r15, _⟩ := F9.p
    simp only [Nat.zero_add] at r1 r2 r3 r4 r5 r6 r7 r8 r9 r10 r11 r12 r13 r14 r15
    have ONE9 : (List.toArray (AidG.cells (aidZ))).all (·.oneCell') = true := all_oneCell_toArray (aidg_one _)
    have HT9 := Lib.hid T9; clear T9
    have HW9 := Lib.hid hw9; clear hw9
    have HONE9 := Lib.hid ONE9; clear ONE9
    have HB9 := Lib.hid B9; clear B9
    have HN9 := Lib.hid N9; clear N9
    clear F9
    go_wp2_with (first | (refine wpList_store_mid rfl _ _ _ rfl w.heap.size 0 (List.toArray (AidG.cells (aidZ))) rfl rfl HT9.out (by kernel_rfl) HONE9.out ?_; rw [show (w1).setCells w.heap.size 0 (List.toArray (AidG.cells (aidZ))).toList = w9 from HW9.out]))
    refine bodyPost_ret (v := .tuple #[AidG.val (aidZ), .int .i64 1]) (by simp [results, Tryz.results8, go_sem, r0, r1, r2, r3, r4, r5, r6, r7, r8, r9, r10, r11, r12, r13, r14, r15]) rfl ⟨aidZ, rfl, ?_, HN9.out, HB9.out⟩
    rfl
  cases F with
  | none =>
    go_enter Tryz.func8, Tryz.ntmps8
    go_wp2_with fail
    change Calls _ _ _ (w.alloc (aidO aidZ 33)) _
    rw [hw]
    clear hw
    refine (HO.out _ hb0).mono ?_
    rintro e w1 ⟨rfl, hb1⟩
    have hbw1 := hb0.trans (hb1.mono hb0.size)
    go_wp2_with fail
    refine (HF.out _ hbw1).mono ?_
    rintro e w2 ⟨rfl, rfl⟩
    simp only [Option.elim_none]
    have T9 := (HR0.out.next hb1).there 0 16 (by omega)
    have F9 := (HR0.out.next hb1).set (aidZ)
    have B9 := belowW w.heap.size (Nat.le_refl _) (AidG.cells (aidZ)) 0 _ hbw1
    have N9 := aidZ_new (w1.setCells w.heap.size 0 (AidG.cells aidZ)) w.heap.size
    obtain ⟨w9, hw9⟩ : ∃ w9, (w1).setCells w.heap.size 0 (AidG.cells (aidZ)) = w9 := ⟨_, rfl⟩
    rw [hw9] at F9 B9 N9
    obtain ⟨r0, r1, r2, r3, r4, r5, r6, r7, r8, r9, r10, r11, r12, r13, r14, r15, _⟩ := F9.p
    simp only [Nat.zero_add] at r1 r2 r3 r4 r5 r6 r7 r8 r9 r10 r11 r12 r13 r14 r15
    have ONE9 : (List.toArray (AidG.cells (aidZ))).all (·.oneCell') = true := all_oneCell_toArray (aidg_one _)
    have HT9 := Lib.hid T9; clear T9
    have HW9 := Lib.hid hw9; clear hw9
    have HONE9 := Lib.hid ONE9; clear ONE9
    have HB9 := Lib.hid B9; clear B9
    have HN9 := Lib.hid N9; clear N9
    clear F9
    go_wp2_with (first | (refine wpList_store_mid rfl _ _ _ rfl w.heap.size 0 (List.toArray (AidG.cells (aidZ))) rfl rfl HT9.out (by kernel_rfl) HONE9.out ?_; rw [show (w1).setCells w.heap.size 0 (List.toArray (AidG.cells (aidZ))).toList = w9 from HW9.out]))
    refine bodyPost_ret (v := .tuple #[AidG.val (aidZ), .int .i64 3]) (by simp [results, Tryz.results8, go_sem, r0, r1, r2, r3, r4, r5, r6, r7, r8, r9, r10, r11, r12, r13, r14, r15]) rfl ⟨aidZ, rfl, ?_, HN9.out, HB9.out⟩
    rfl
  | some k =>
    have hkn := HFl.out k rfl
    have k0 : (0 : Int) ≤ (k : Int) := by omega
    have k1 : (k : Int) < (n : Int) := by omega
    go_enter Tryz.func8, Tryz.ntmps8
    go_wp2_with fail
    change Calls _ _ _ (w.alloc (aidO aidZ 33)) _
    rw [hw]
    clear hw
    refine (HO.out _ hb0).mono ?_
    rintro e w1 ⟨rfl, hb1⟩
    have hbw1 := hb0.trans (hb1.mono hb0.size)
    go_wp2_with fail
    refine (HF.out _ hbw1).mono ?_
    rintro e w2 ⟨rfl, rfl⟩
    obtain ⟨b, off, z, rfl, hx, hzo, hp⟩ := (h.next hbw1).get k hkn
    have hza := Hat.out k z hx
    have hOw := l12Own_c b (off + k * 16) z _ hzo hp
    have Hza := Lib.hid hza; clear hza
    have Hx := Lib.hid hx; clear hx
    have HOw := Lib.hid hOw; clear hOw
    simp only [Option.elim_some]
    clear hp hzo
    go_wp2_with fail
    refine HOw.out.mono ?_
    rintro e w3 ⟨z3, rfl, ha3, hN3, hb3⟩
    have hw1s := hb1.size
    have T9 := ((HR0.out.next hb1).next hb3).there 0 16 (by omega)
    have F9 := ((HR0.out.next hb1).next hb3).set (z3)
    have B9 := belowW w.heap.size (Nat.le_refl _) (AidG.cells (z3)) 0 _ (hbw1.trans (hb3.mono hbw1.size))
    have N9 := (⟨own_base (ownW w.heap.size (by have := HR0.out.p.hb; omega) _ 0 _ hN3.g) hbw1.size, own_base (ownW w.heap.size (by have := HR0.out.p.hb; omega) _ 0 _ hN3.s) hbw1.size⟩ : AidNew (w3.setCells w.heap.size 0 (AidG.cells z3)) w.heap.size z3)
    obtain ⟨w9, hw9⟩ : ∃ w9, (w3).setCells w.heap.size 0 (AidG.cells (z3)) = w9 := ⟨_, rfl⟩
    rw [hw9] at F9 B9 N9
    obtain ⟨r0, r1, r2, r3, r4, r5, r6, r7, r8, r9, r10, r11, r12, r13, r14, r15, _⟩ := F9.p
    simp only [Nat.zero_add] at r1 r2 r3 r4 r5 r6 r7 r8 r9 r10 r11 r12 r13 r14 r15
    have ONE9 : (List.toArray (AidG.cells (z3))).all (·.oneCell') = true := all_oneCell_toArray (aidg_one _)
    have HT9 := Lib.hid T9; clear T9
    have HW9 := Lib.hid hw9; clear hw9
    have HONE9 := Lib.hid ONE9; clear ONE9
    have HB9 := Lib.hid B9; clear B9
    have HN9 := Lib.hid N9; clear N9
    clear F9
    go_wp2_with (first | (refine wpList_store_mid rfl _ _ _ rfl w.heap.size 0 (List.toArray (AidG.cells (z3))) rfl rfl HT9.out (by kernel_rfl) HONE9.out ?_; rw [show (w3).setCells w.heap.size 0 (List.toArray (AidG.cells (z3))).toList = w9 from HW9.out]))
    refine bodyPost_ret (v := .tuple #[AidG.val (z3), .int .i64 0]) (by simp [results, Tryz.results8, go_sem, r0, r1, r2, r3, r4, r5, r6, r7, r8, r9, r10, r11, r12, r13, r14, r15]) rfl ⟨z3, rfl, ?_, HN9.out, HB9.out⟩
    rw [ha3, ← Hza.out]
end Go.Proofs.YtnmkpegdbgebeaaGreatDoor
