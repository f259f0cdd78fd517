/- The greedy voyage: the reference. -/
import Derived.Test.YtgkdjohiclhcoaaVoyE
import Derived.IntWalk
namespace Go.Proofs.Ytgkdjohiclhcoaa
open Go.RowKit
theorem ordB_snoc {n : Nat} {ks : List Int} {k : Int} (h : ordB n ks = true) (h0 : 0 ≤ k ∧ k < (n : Int)) (hk : ¬ k ∈ ks) : ordB n (ks ++ [k]) = true := by
  rw [ordB, allB_iff] at h ⊢
  intro i hi
  rw [List.length_append, List.length_singleton] at hi
  rcases Nat.lt_or_ge i ks.length with h1 | h1
  · have e := List.getElem?_eq_getElem h1
    have := h i h1
    rw [ordOk_at e] at this
    rw [ordOk_at (x := ks[i]) (by rw [List.getElem?_append_left h1]; exact e), List.take_append_of_le_length (by omega)]
    exact this
  · obtain rfl : i = ks.length := by omega
    rw [ordOk_at (x := k) (by rw [List.getElem?_append_right (by omega)]; simp)]
    rw [List.take_append_of_le_length (Nat.le_refl _), List.take_length, Bool.and_eq_true, inI, inB_iff]
    exact ⟨by omega, by simpa using hk⟩
theorem call_en {s : Sh} {zs : List Wk} {k : Int} {p : VSt} (hs : 1 ≤ s.sp ∧ s.sp ≤ 2000) (hb : WkBd (wkI zs k)) (hok : okC s zs k p = true) : p.t + 1 ≤ (callV s zs k p).en ∧ (callV s zs k p).en ≤ 4320 := by
  have h2 := trav_bd hs (root_bd (sqI p.x p.y (wkI zs k).x (wkI zs k).y))
  have h3 : p.t + travI s p.x p.y (wkI zs k).x (wkI zs k).y ≤ max (p.t + travI s p.x p.y (wkI zs k).x (wkI zs k).y) (wkI zs k).fr := Int.le_max_left _ _
  rw [okC, decide_eq_true_eq] at hok
  have h4 : (callV s zs k p).en = max (p.t + travI s p.x p.y (wkI zs k).x (wkI zs k).y) (wkI zs k).fr + (wkI zs k).mi := rfl
  obtain ⟨_, _, hm, _, hu⟩ := hb
  omega
/-- The best call so far. -/
def BestOk (s : Sh) (zs : List Wk) (ks : List Int) (P : VSt) (k : Nat) (b e : Int) : Prop :=
  b = -1 ∨ ∃ j : Nat, b = j ∧ j < k ∧ ¬ (j : Int) ∈ ks ∧ loadV zs ks + (wkI zs j).ld ≤ s.ld ∧ okC s zs j P = true ∧ e = (callV s zs j P).en
theorem BestOk.next {s : Sh} {zs : List Wk} {ks : List Int} {P : VSt} {k : Nat} {b e : Int} (h : BestOk s zs ks P k b e) : BestOk s zs ks P (k + 1) b e := by
  rcases h with h | ⟨j, h1, h2, h3⟩
  · exact .inl h
  · exact .inr ⟨j, h1, by omega, h3⟩
set_option maxRecDepth 100000 in
set_option maxHeartbeats 4000000 in
theorem greedy_c (s : Sh) (x y t : Int) (AZ : Option Addr) (N cZ : Nat) (zs : List Wk) (w : World) (hs : s.name.size ≤ maxLen) (hz : Sl w w.heap.size 7 AZ N (zs.flatMap Wk.cells)) (hN : N ≤ 1048576) (hns : ∀ z ∈ zs, z.name.size ≤ maxLen)
    (hS : shB s = true) (hP : ptB x y = true) (hW : worksB zs = true) (ht : 0 ≤ t ∧ t ≤ 4320) :
    Calls Try.prog 21 #[s.val, ptV x y, .slice AZ N cZ, .int .i64 t] w fun e w' => ∃ v ks, e = .returned (.tuple #[v, .int .i64 0]) ∧ ks.length ≤ 4320 ∧ ordB zs.length ks = true ∧ okV s zs ⟨t, x, y⟩ ks = true ∧ loadV zs ks ≤ s.ld ∧ w'.ownsRow w.heap.size 2 1 v ks.length (ks.flatMap intC) ∧ Below w.heap.size w w' := by
  obtain ⟨i0, hi, hz0, hz1, hz2⟩ := info_parts intInfo
  have hln := hz.len Wk.cells 7 Wk.cells_len (by omega)
  have hNN : N ≤ 12 := by have := (worksB_iff.1 hW).2; omega
  have hsp := shB_bd hS
  have HV : Hid (∀ ks, ordB zs.length ks = true → VOk s zs ⟨t, x, y⟩ ks) := Lib.hid fun ks hk => ⟨hsp.1, hsp.2, hP, ht, ordB_mem hk, works_bd hW, (worksB_iff.1 hW).2⟩
  have hb0 : Below w.heap.size w ((w.alloc (shO s 32)).alloc (ptO x y 34)) := by (repeat (first | (with_reducible assumption) | (with_reducible exact Below.refl _ _) | exact Nat.le_refl _ | exact Below.size (by with_reducible assumption) | (with_reducible refine Below.drew ?_) | (with_reducible refine below_drewN ?_ _) | (with_reducible refine Below.alloc ?_ ?_ _) | (with_reducible refine Below.setCell ?_ ?_ _) | (with_reducible refine le_alloc ?_ _) | (with_reducible refine le_set ?_ _ _) | (with_reducible refine le_drew ?_) | (with_reducible refine le_drewN ?_ _) | omega | (dsimp only; omega)))
  have g1 := (ShP.box w s 32).next (w' := (w.alloc (shO s 32)).alloc (ptO x y 34)) (by (repeat (first | (with_reducible assumption) | (with_reducible exact Below.refl _ _) | exact Nat.le_refl _ | exact Below.size (by with_reducible assumption) | (with_reducible refine Below.drew ?_) | (with_reducible refine below_drewN ?_ _) | (with_reducible refine Below.alloc ?_ ?_ _) | (with_reducible refine Below.setCell ?_ ?_ _) | (with_reducible refine le_alloc ?_ _) | (with_reducible refine le_set ?_ _ _) | (with_reducible refine le_drew ?_) | (with_reducible refine le_drewN ?_ _) | omega | (dsimp only; omega))))
  have hsz : (w.alloc (shO s 32)).heap.size = w.heap.size + 1 := by simp
  have p1 := PtP.box (w.alloc (shO s 32)) x y
  rw [hsz] at p1
  obtain ⟨w0, hw⟩ : ∃ w0, (w.alloc (shO s 32)).alloc (ptO x y 34) = w0 := ⟨_, rfl⟩
  rw [hw] at hb0 g1 p1
  have hS1 : ∀ w1, Below w0.heap.size w0 w1 → Calls Try.prog 39 #[.pointer (some ⟨w.heap.size, 0, none⟩)] w1 fun e w' => e = .returned (.bool true) ∧ w1 = w' := fun w1 hb => hS ▸ l25Ship_c w.heap.size s w1 (g1.next hb) hs
  have hP1 : ∀ w1, Calls Try.prog 40 #[ptV x y] w1 fun e w' => e = .returned (.bool true) ∧ Below w1.heap.size w1 w' := fun w1 => hP ▸ l02Ok_c x y w1
  have hW1 : ∀ w1, Below w0.heap.size w0 w1 → Calls Try.prog 41 #[.slice AZ N cZ] w1 fun e w' => e = .returned (.bool true) ∧ Below w1.heap.size w1 w' := fun w1 hb => hW ▸ l25List_c AZ N cZ zs w1 (hz.next (hb0.trans (hb.mono hb0.size))) hN hns
  have hT1 : ∀ w1, Calls Try.prog 42 #[.int .i64 t, .int .i64 0, .int .i64 4320] w1 fun e w' => e = .returned (.bool true) ∧ w1 = w' := fun w1 => (inB_iff.2 ht) ▸ l00In_c _ _ _ w1
  have HC : Hid (∀ w1 k (u v q : Int), Below w0.heap.size w0 w1 → k < N → ptB u v = true → 0 ≤ q ∧ q ≤ 4320 → Calls Try.prog 44 #[.pointer (some ⟨w.heap.size, 0, none⟩), .slice AZ N cZ, .int .i64 (k : Nat), ptV u v, .int .i64 q] w1 fun e w' => e = .returned (.tuple #[(callV s zs k ⟨q, u, v⟩).val, .bool (okC s zs k ⟨q, u, v⟩)]) ∧ Below w1.heap.size w1 w') := Lib.hid fun w1 k u v q hb hk hp hq => l25Call_c w.heap.size s AZ N cZ zs k u v q w1 (g1.next hb) (hz.next (hb0.trans (hb.mono hb0.size))) hk (by have := works_bd hW k (by omega); exact this) hsp.1 hp hq
  have HZ : Hid (∀ w1 k, Below w0.heap.size w0 w1 → k < N → ∃ b off z, AZ = some ⟨b, off, none⟩ ∧ b < w.heap.size ∧ zs[k]? = some z ∧ WkP w1 b (off + k * 7) z ∧ WkBd z) := Lib.hid fun w1 k hb hk => by
    obtain ⟨b, off, z, h1, h2, h3, h4⟩ := hz.wk (Nat.le_refl _) k hk
    exact ⟨b, off, z, h1, h2, h3, h4.next (hb0.trans (hb.mono hb0.size)), by have := works_bd hW k (by omega); rwa [wkAt_eq h3] at this⟩
  have HG : Hid (∀ w1, Below w0.heap.size w0 w1 → w1.cell? ⟨w.heap.size, 2, none⟩ = some (.int .i64 s.ld)) := Lib.hid fun w1 hb => (g1.next hb).c2
  obtain ⟨d0, d1, hp1⟩ := p1
  have hld := hsp.2
  clear hsz g1 hz hns
  have HS0 := Lib.hid hS; clear hS
  have HW0 := Lib.hid hW; clear hW
  have HP0 := Lib.hid hP; clear hP
  have Hsp := Lib.hid hsp; clear hsp
  have Hln := Lib.hid hln; clear hln
  have HS1 := Lib.hid hS1; clear hS1
  have HP1 := Lib.hid hP1; clear hP1
  have HW1 := Lib.hid hW1; clear hW1
  have HT1 := Lib.hid hT1; clear hT1
  go_enter Try.func21, Try.ntmps21
  go_wp2_with fail
  try rw [hw]
  clear hw
  refine (HS1.out _ (Below.refl _ _)).mono ?_
  rintro e w1 ⟨rfl, rfl⟩
  go_wp2_with fail
  refine (HP1.out _).mono ?_
  rintro e w2 ⟨rfl, hb2⟩
  go_wp2_with fail
  refine (HW1.out _ hb2).mono ?_
  rintro e w3 ⟨rfl, hb3⟩
  have hb03 := hb2.trans (hb3.mono hb2.size)
  go_wp2_with fail
  refine (HT1.out _).mono ?_
  rintro e w4 ⟨rfl, rfl⟩
  have t0 := (keepC hb03 (w.heap.size + 1) hp1 0).trans d0
  have t1 := (keepC hb03 (w.heap.size + 1) hp1 1).trans d1
  clear hb2 hb3 d0 d1
  have hoM := World.ownsRow_made (base := w3.heap.size) (e := 2) (size := 1) w3 #[] 0 (Nat.le_refl _) (by simp [maxLen]) rfl
  have hbA : Below w3.heap.size w3 (w3.alloc (.cells #[] 2)) := (Below.refl _ _).alloc (Nat.le_refl _) _
  have a0 := (keepC hbA (w.heap.size + 1) (Nat.lt_of_lt_of_le hp1 hb03.size) 0).trans t0
  have a1 := (keepC hbA (w.heap.size + 1) (Nat.lt_of_lt_of_le hp1 hb03.size) 1).trans t1
  have hbB : Below w3.heap.size w3 ((w3.alloc (.cells #[] 2)).alloc (ptO x y 34)) := hbA.alloc (by simp) _
  have hsA : (w3.alloc (.cells #[] 2)).heap.size = w3.heap.size + 1 := by simp
  have hoN := own_next hoM ((Below.refl (w3.alloc (.cells #[] 2)).heap.size _).alloc (Nat.le_refl _) (ptO x y 34))
  have hoP : ((w3.alloc (.cells #[] 2)).alloc (ptO x y 34)).ownsRow w3.heap.size 34 2 (.slice (some ⟨w3.heap.size + 1, 0, none⟩) 1 1) 1 [.int .i64 x, .int .i64 y] := by
    have := lit_own (w3.alloc (.cells #[] 2)) w3.heap.size 34 #[.int .i64 x, .int .i64 y] 1 2 hbA.size (by decide) rfl
    rwa [hsA] at this
  clear hoM hbA hsA t0 t1
  go_wp2_with fail
  generalize (w3.alloc (.cells #[] 2)).alloc (ptO x y 34) = w5 at *
  obtain ⟨bp, hbp⟩ : ∃ bp, w3.heap.size + 1 = bp := ⟨_, rfl⟩
  rw [hbp] at hoP
  try rw [hbp]
  clear a0 a1 hp1 hbp
  go_loopw [10, 12, 13] (fun v at_ ld wr => ∃ (ks : List Int) (P : VSt) (L : Int), at_ = .int .i64 P.t ∧ ld = .int .i64 L ∧ ((ks.length : Int) ≤ P.t ∧ P.t ≤ 4320) ∧ (0 ≤ L ∧ L ≤ s.ld) ∧ wr.ownsRow w3.heap.size 2 1 v ks.length (ks.flatMap intC) ∧ Hid (ordB zs.length ks = true) ∧ Hid (okV s zs ⟨t, x, y⟩ ks = true) ∧ Hid (posV s zs ⟨t, x, y⟩ ks = P) ∧ Hid (loadV zs ks = L) ∧ wr.ownsRow w3.heap.size 34 2 (.slice (some ⟨bp, 0, none⟩) 1 1) 1 [.int .i64 P.x, .int .i64 P.y] ∧ Below w3.heap.size w3 wr) (fun _ at_ _ _ => (4321 - intOf at_).toNat)
  case atStart => exact ⟨[], ⟨t, x, y⟩, 0, rfl, rfl, ⟨by simp only [List.length_nil]; omega, ht.2⟩, ⟨by omega, by omega⟩, hoN, Lib.hid (ordB_nil _), Lib.hid rfl, Lib.hid rfl, Lib.hid rfl, hoP, hbB⟩
  case round =>
    clear hoN hoP hbB
    obtain ⟨ks, P, L, rfl, rfl, hPt, hL, ho, Hord, Hok, HP, HL, hoP, hbw⟩ := hrel
    obtain ⟨A3, c3, rfl⟩ := own_slice ho
    have hb0w := hb03.trans (hbw.mono hb03.size)
    have hPp := (HV.out ks Hord.out).posP
    rw [HP.out] at hPp
    have hlen : ks.length ≤ maxLen := by unfold maxLen; omega
    have hPt0 : 0 ≤ P.t ∧ P.t ≤ 4320 := by omega
    have HPp := Lib.hid hPp; clear hPp
    go_wp2_with fail
    obtain ⟨wo, hwo⟩ : ∃ wo : World, wo = wr := ⟨_, rfl⟩
    rw [← hwo] at ho hoP hbw hb0w
    go_loopw [14, 15, 16] (fun b e k wr => ∃ (k' : Nat) (bi ei : Int), k' ≤ N ∧ k = .int .i64 k' ∧ b = .int .i64 bi ∧ e = .int .i64 ei ∧ (-1 ≤ bi ∧ bi < k') ∧ Hid (BestOk s zs ks P k' bi ei) ∧ Below wo.heap.size wo wr) (fun _ _ k _ => N - (intOf k).toNat)
    case atStart => exact ⟨0, -1, 0, Nat.zero_le _, rfl, rfl, rfl, by omega, Lib.hid (.inl rfl), by rw [hwo]; exact Below.refl _ _⟩
    case round =>
      clear hwo
      obtain ⟨k, bi, ei, hkN, rfl, rfl, rfl, hbi, Hb, hbx⟩ := hrel
      have hb0x := hb0w.trans (hbx.mono hb0w.size)
      by_cases hlt : k < N
      · obtain ⟨bz, off, z, rfl, hbz, hzx, hzp, hzb⟩ := HZ.out wr k hb0x hlt
        have hzk := wkI_eq hzx
        have hg2 := HG.out wr hb0x
        obtain ⟨c0, c1, c2, c3', c4, c5, c6, hzl⟩ := hzp
        have hox := own_next ho hbx
        have hoPx := own_next hoP hbx
        have p0 := hoPx.cellAt 0 (by omega)
        have p1 := hoPx.cellAt 1 (by omega)
        simp only [List.getElem?_cons_zero, List.getElem?_cons_succ] at p0 p1
        obtain ⟨X, hX⟩ : ∃ X, decide ((k : Int) ∈ ks) = X := ⟨_, rfl⟩
        have hC : ∀ m, Calls Try.prog 43 #[.slice A3 ks.length c3, .int .i64 k] (wr.drewN m) fun e w' => e = .returned (.bool X) ∧ wr.drewN m = w' := fun m => by
          rw [← hX]
          exact l00Has_c A3 ks.length c3 ks k _ ((Sl.of_own hox).keep fun _ _ => rfl) hlen
        have j1 : (0 : Int) ≤ (k : Int) := by omega
        have j2 : (k : Int) < (N : Int) := by omega
        have hzl2 := hzb.ld
        have e1 : IntKind.i64.wrap (L + z.ld) = L + z.ld := IntWalk.i64_in _ (by omega)
        have HX := Lib.hid hX; clear hX
        have HCh := Lib.hid hC; clear hC
        have Hzx := Lib.hid hzx; clear hzx
        have Hzk := Lib.hid hzk; clear hzk
        clear hzb c0 c1 c2 c4 c5 c6
        cases X
        · by_cases hl : s.ld < L + z.ld
          · have hl' : decide (L + z.ld > s.ld) = true := decide_eq_true hl
            go_wp2_with fail
            go_quiet ((go_at_call 43; exact quiet_c (HCh.out _)))
            go_wp2_with fail
            go_roundw
            case rel => exact ⟨k + 1, bi, ei, by omega, by go_num, rfl, rfl, by omega, Lib.hid Hb.out.next, below_drewN hbx _⟩
            case measure => simp [intOf]; omega
          · have hl' : decide (L + z.ld > s.ld) = false := decide_eq_false hl
            have hkn : ¬ (k : Int) ∈ ks := of_decide_eq_false HX.out
            have hCC0 := HC.out
            obtain ⟨CC, hCC⟩ : ∃ CC, callV s zs k ⟨P.t, P.x, P.y⟩ = CC := ⟨_, rfl⟩
            obtain ⟨OK, hOK⟩ : ∃ OK, okC s zs k ⟨P.t, P.x, P.y⟩ = OK := ⟨_, rfl⟩
            have hT := fun q => HC.out (wr.drewN q) k P.x P.y P.t (below_drewN hb0x q) hlt HPp.out hPt0
            simp only [hCC, hOK] at hT
            have hfit : loadV zs ks + (wkI zs k).ld ≤ s.ld := by rw [HL.out, Hzk.out]; omega
            clear hCC0
            have HTc := Lib.hid hT; clear hT
            have Hfit := Lib.hid hfit; clear hfit
            have Hkn := Lib.hid hkn; clear hkn
            have HCC := Lib.hid hCC; clear hCC
            have HOK := Lib.hid hOK; clear hOK
            go_wp2_with fail
            go_quiet ((go_at_call 43; exact quiet_c (HCh.out _)))
            go_wp2_with fail
            refine (HTc.out _).mono ?_
            rintro e w6 ⟨rfl, hb6⟩
            have hb6x := (below_drewN hbx _).trans (hb6.mono (below_drewN hbx _).size)
            have hE6 : ∀ o, Below wo.heap.size wo (w6.alloc o) := fun o => hb6x.alloc hb6x.size o
            have g3 := (ClP.box w6 CC 77).c3
            simp only [Nat.zero_add] at g3
            have HE6 := Lib.hid hE6; clear hE6
            clear hb6 hb6x e1
            cases OK
            · go_wp2_with fail
              go_roundw
              case rel => exact ⟨k + 1, bi, ei, by omega, by go_num, rfl, rfl, by omega, Lib.hid Hb.out.next, HE6.out _⟩
              case measure => simp [intOf]; omega
            · have HB2 : Hid (BestOk s zs ks P (k + 1) k CC.en) := Lib.hid (.inr ⟨k, rfl, by omega, Hkn.out, Hfit.out, HOK.out, by rw [← HCC.out]⟩)
              by_cases hbn : bi < 0
              · go_wp2_with fail
                go_roundw
                case rel => exact ⟨k + 1, k, CC.en, by omega, by go_num, rfl, rfl, by omega, HB2, HE6.out _⟩
                case measure => simp [intOf]; omega
              · by_cases hen : CC.en < ei
                · go_wp2_with fail
                  go_roundw
                  case rel => exact ⟨k + 1, k, CC.en, by omega, by go_num, rfl, rfl, by omega, HB2, HE6.out _⟩
                  case measure => simp [intOf]; omega
                · go_wp2_with fail
                  go_roundw
                  case rel => exact ⟨k + 1, bi, ei, by omega, by go_num, rfl, rfl, by omega, Lib.hid Hb.out.next, HE6.out _⟩
                  case measure => simp [intOf]; omega
        · go_wp2_with fail
          go_quiet ((go_at_call 43; exact quiet_c (HCh.out _)))
          go_wp2_with fail
          go_roundw
          case rel => exact ⟨k + 1, bi, ei, by omega, by go_num, rfl, rfl, by omega, Lib.hid Hb.out.next, below_drewN hbx _⟩
          case measure => simp [intOf]; omega
      · obtain rfl : k = N := by omega
        by_cases hbn : bi < 0
        · have hox := own_next ho hbx
          have HoE := Lib.hid (own_base hox (Nat.le_trans hb0.size hb03.size))
          have HbE := Lib.hid (hb0.trans (hb0x.mono hb0.size))
          clear hox
          go_wp2_with fail
          go_ret2
          exact ⟨_, ks, rfl, by omega, Hord.out, Hok.out, by rw [HL.out]; omega, HoE.out, HbE.out⟩
        · have hB := Hb.out
          obtain ⟨j, rfl, hjN, hjn, hjl, hjo, rfl⟩ : ∃ j : Nat, bi = j ∧ j < k ∧ ¬ (j : Int) ∈ ks ∧ loadV zs ks + (wkI zs j).ld ≤ s.ld ∧ okC s zs j P = true ∧ ei = (callV s zs j P).en := by
            rcases hB with h | h
            · omega
            · exact h
          obtain ⟨bz, off, z, rfl, hbz, hzx, hzp, hzb⟩ := HZ.out wr j hb0x hjN
          have hzk := wkI_eq hzx
          have hen := call_en Hsp.out.1 (by rw [hzk]; exact hzb) hjo
          have hox := own_next ho hbx
          have hoPx := own_next hoP hbx
          have hbX3 := hbw.trans (hbx.mono hbw.size)
          have e63 : ks.length + 1 ≤ maxLen := by unfold maxLen; omega
          have e32 : (ks.length + 1) * 8 ≤ 140737488355328 := by omega
          have hle := hbX3.size
          have hbp0 := (hoP.lt bp rfl).1
          have h03 := hb03.size
          have h00 := hb0.size
          have n1 : ¬ bp = bz := by omega
          have n2 : ¬ bz = bp := by omega
          have j1 : (0 : Int) ≤ (j : Int) := by omega
          have j2 : (j : Int) < (k : Int) := by omega
          have hba : Below wr.heap.size wr (wr.alloc (.cells #[.int .i64 j] 2)) := (Below.refl _ _).alloc (Nat.le_refl _) _
          have hzl2 := hzb.ld
          obtain ⟨EN, hEN⟩ : ∃ EN, (callV s zs j P).en = EN := ⟨_, rfl⟩
          have hHN : Hid (posV s zs ⟨t, x, y⟩ (ks ++ [(j : Int)]) = ⟨EN, z.x, z.y⟩) := Lib.hid (by rw [posV_snoc, HP.out, nextV, hEN, hzk])
          have hHK : Hid (okV s zs ⟨t, x, y⟩ (ks ++ [(j : Int)]) = true) := Lib.hid (by rw [okV_snoc, Hok.out, HP.out, hjo]; rfl)
          have hHO : Hid (ordB zs.length (ks ++ [(j : Int)]) = true) := Lib.hid (ordB_snoc Hord.out (by have := Hln.out; omega) hjn)
          have hHL : Hid (loadV zs (ks ++ [(j : Int)]) = L + z.ld) := Lib.hid (by rw [loadV_snoc, HL.out, hzk])
          have hfit : L + z.ld ≤ s.ld := by rw [hzk, HL.out] at hjl; exact hjl
          rw [hEN] at hen ⊢
          obtain ⟨c0, c1, c2, c3', c4, c5, c6, hzl⟩ := hzp
          have HZW : Hid (∀ w7, (wr.alloc (.cells #[.int .i64 j] 2)).grownBy w7 (Value.slice A3 ks.length c3).ownBlock → w7.cell? ⟨bz, off + j * 7 + 1, none⟩ = some (.int .i64 z.x) ∧ w7.cell? ⟨bz, off + j * 7 + 2, none⟩ = some (.int .i64 z.y) ∧ w7.cell? ⟨bz, off + j * 7 + 3, none⟩ = some (.int .i64 z.ld)) := Lib.hid fun w7 hg7 => by
            have hb := hg7.block bz (Nat.lt_of_lt_of_le hzl hba.size) (fun e => by have := (hox.lt bz e.symm).1; omega)
            exact ⟨(World.cell?_of_block hb).trans ((keepC hba bz hzl _).trans c1), (World.cell?_of_block hb).trans ((keepC hba bz hzl _).trans c2), (World.cell?_of_block hb).trans ((keepC hba bz hzl _).trans c3')⟩
          have E63 := Lib.hid e63; clear e63
          have E32 := Lib.hid e32; clear e32
          have Hzx := Lib.hid hzx; clear hzx
          have Hzk := Lib.hid hzk; clear hzk
          clear hzb hjo hjn hjl hB hEN h03 h00 hjN
          go_wp2_with (at_builtin; refine wpl_append _ rfl (.tmp 83) (.tmp 85) _ rfl w3.heap.size 2 i0 _ 1 8 Try.underlying29 hi hz0 hz1 hz2 rfl (by omega) _ ks.length _ rfl (hox.alloc _) (wr.heap.size + 1) (some ⟨wr.heap.size, 0, none⟩) 1 1 (intC (j : Int)) rfl (Sl.new wr 2 _ 1 1 rfl) (intC_one _) E63.out E32.out (le_alloc hle _) ?_; intro v7 w7 ho7 hg7 hat7; have hP7 := own_grown (own_next hoPx hba) hg7 (own_ne (own_next hoPx hba) (hox.alloc _) (by decide)); have hb7 : Below w3.heap.size w3 w7 := (hbX3.alloc hle _).grown hg7 (le_alloc hle _) fun q hq => (hox.lt q hq).1; have hb70 := hb03.trans (hb7.mono hb03.size); obtain ⟨x1, x2, x3⟩ := HZW.out w7 hg7; have q0 := hP7.cellAt 0 (by omega); have q1 := hP7.cellAt 1 (by omega); have fz := hP7.frozenAt; simp only [List.getElem?_cons_zero, List.getElem?_cons_succ] at q0 q1)
          go_roundw
          case rel =>
            have hst := hP7.stored 0 (.int .i64 z.x)
            have hst2 := hst.1.stored 1 (.int .i64 z.y)
            have hoE := own_grown (own_grown ho7 hst.2 (own_ne ho7 hP7 (by decide))) hst2.2 (own_ne ho7 hP7 (by decide))
            refine ⟨ks ++ [(j : Int)], ⟨EN, z.x, z.y⟩, L + z.ld, rfl, rfl, ⟨?_, hen.2⟩, ⟨by omega, hfit⟩, ?_, hHO, hHK, hHN, hHL, hst2.1, by (repeat (first | (with_reducible assumption) | (with_reducible exact Below.refl _ _) | exact Nat.le_refl _ | exact Below.size (by with_reducible assumption) | (with_reducible refine Below.drew ?_) | (with_reducible refine below_drewN ?_ _) | (with_reducible refine Below.alloc ?_ ?_ _) | (with_reducible refine Below.setCell ?_ ?_ _) | (with_reducible refine le_alloc ?_ _) | (with_reducible refine le_set ?_ _ _) | (with_reducible refine le_drew ?_) | (with_reducible refine le_drewN ?_ _) | omega | (dsimp only; omega)))⟩
            · rw [List.length_append, List.length_singleton]; show ((ks.length + 1 : Nat) : Int) ≤ EN; omega
            · rw [List.length_append, List.flatMap_append]
              simpa using hoE
          case measure => simp [intOf]; omega
end Go.Proofs.Ytgkdjohiclhcoaa
