/- Improving a voyage: the program. -/
import Derived.Test.YtgkdjohiclhcoaaVoyN2
import Derived.Test.YtgkdjohiclhcoaaVoyJ
import Derived.Deep.LoopGhost
namespace Go.Proofs.Ytgkdjohiclhcoaa
open Go.RowKit
set_option maxRecDepth 100000 in
set_option maxHeartbeats 4000000 in
theorem improve_c (s : Sh) (x y t : Int) (AZ : Option Addr) (N cZ : Nat) (zs : List Wk) (A : Option Addr) (n c : Nat) (xs : List Int) (w : World) (hz : Sl w w.heap.size 7 AZ N (zs.flatMap Wk.cells)) (h : Sl w w.heap.size 1 A n (xs.flatMap intC)) (hm : n ≤ 1048576)
    (hv : VOk s zs ⟨t, x, y⟩ xs) (hld : loadV zs xs ≤ s.ld) (hok : okV s zs ⟨t, x, y⟩ xs = true) :
    Calls Try.prog 47 #[s.val, ptV x y, .slice AZ N cZ, .slice A n c, .int .i64 t] w fun e w' => ∃ v, e = .returned (.tuple #[v, .bool (betV s zs ⟨t, x, y⟩ xs).isSome]) ∧ (∀ r, betV s zs ⟨t, x, y⟩ xs = some r → ∃ A' c', v = .slice A' n c' ∧ w'.ownsRow w.heap.size 2 1 v n (r.flatMap intC)) ∧ Below w.heap.size w w' := by
  have hl := h.len intC 1 intC_len (by omega)
  have hb0 : Below w.heap.size w ((w.alloc (shO s 32)).alloc (ptO x y 34)) := by (repeat (first | (with_reducible assumption) | (with_reducible exact Below.refl _ _) | exact Nat.le_refl _ | exact Below.size (by with_reducible assumption) | (with_reducible refine Below.drew ?_) | (with_reducible refine below_drewN ?_ _) | (with_reducible refine Below.alloc ?_ ?_ _) | (with_reducible refine Below.setCell ?_ ?_ _) | (with_reducible refine le_alloc ?_ _) | (with_reducible refine le_set ?_ _ _) | (with_reducible refine le_drew ?_) | (with_reducible refine le_drewN ?_ _) | omega | (dsimp only; omega)))
  have g1 := (ShP.box w s 32).next (w' := (w.alloc (shO s 32)).alloc (ptO x y 34)) (by (repeat (first | (with_reducible assumption) | (with_reducible exact Below.refl _ _) | exact Nat.le_refl _ | exact Below.size (by with_reducible assumption) | (with_reducible refine Below.drew ?_) | (with_reducible refine below_drewN ?_ _) | (with_reducible refine Below.alloc ?_ ?_ _) | (with_reducible refine Below.setCell ?_ ?_ _) | (with_reducible refine le_alloc ?_ _) | (with_reducible refine le_set ?_ _ _) | (with_reducible refine le_drew ?_) | (with_reducible refine le_drewN ?_ _) | omega | (dsimp only; omega))))
  have hsz : (w.alloc (shO s 32)).heap.size = w.heap.size + 1 := by simp
  have p1 := PtP.box (w.alloc (shO s 32)) x y
  rw [hsz] at p1
  obtain ⟨w0, hw⟩ : ∃ w0, (w.alloc (shO s 32)).alloc (ptO x y 34) = w0 := ⟨_, rfl⟩
  rw [hw] at hb0 g1 p1
  have HEnd : Hid (∀ w1 A1 c1 ks, Below w.heap.size w w1 → VOk s zs ⟨t, x, y⟩ ks → loadV zs ks ≤ s.ld → Sl w1 w1.heap.size 1 A1 n (ks.flatMap intC) → Calls Try.prog 33 #[s.val, ptV x y, .slice AZ N cZ, .slice A1 n c1, .int .i64 t] w1 fun e w' => e = .returned (.tuple #[.int .i64 (bif okV s zs ⟨t, x, y⟩ ks then endV s zs ⟨t, x, y⟩ ks else 0), .int .i64 (bif okV s zs ⟨t, x, y⟩ ks then 0 else 6)]) ∧ Below w1.heap.size w1 w') := Lib.hid fun w1 A1 c1 ks hb hv1 hl1 h1 => by
    have h2 := end_c s x y t AZ N cZ zs A1 n c1 ks w1 (hz.next hb) h1 hm hv1
    have h3 : voyK s zs ⟨t, x, y⟩ ks = bif okV s zs ⟨t, x, y⟩ ks then 0 else 6 := by rw [voyK, decide_eq_false (by omega)]; rfl
    rw [h3] at h2
    revert h2
    cases okV s zs ⟨t, x, y⟩ ks
    · exact fun h => h
    · exact fun h => h
  have hV := HEnd.out w0 A c xs hb0 hv hld (h.next hb0)
  obtain ⟨E, hE⟩ : ∃ E, endV s zs ⟨t, x, y⟩ xs = E := ⟨_, rfl⟩
  obtain ⟨R, hR⟩ : ∃ R, betV s zs ⟨t, x, y⟩ xs = R := ⟨_, rfl⟩
  rw [hok, hE] at hV
  simp only [cond_true] at hV
  rw [hR]
  obtain ⟨d0, d1, hp1⟩ := p1
  obtain ⟨c0, c1, c2, c3, hg⟩ := g1
  have HV := Lib.hid hv
  have Hld := Lib.hid hld
  have Hl := Lib.hid hl; clear hl
  have HEe := Lib.hid hE; clear hE
  have HR := Lib.hid hR; clear hR
  have H := Lib.hid h; clear h
  clear hz hv hld hok hsz
  go_enter Try.func47, Try.ntmps47
  go_wp2_with fail
  try rw [hw]
  clear hw
  refine hV.mono ?_
  rintro e w1 ⟨rfl, hb1⟩
  clear hV
  have c0 := (keepC hb1 w.heap.size hg 0).trans c0
  have c1 := (keepC hb1 w.heap.size hg 1).trans c1
  have c2 := (keepC hb1 w.heap.size hg 2).trans c2
  have c3 := (keepC hb1 w.heap.size hg 3).trans c3
  have d0 := (keepC hb1 (w.heap.size + 1) hp1 0).trans d0
  have d1 := (keepC hb1 (w.heap.size + 1) hp1 1).trans d1
  have hgg := Nat.lt_of_lt_of_le hg hb1.size
  have hpp := Nat.lt_of_lt_of_le hp1 hb1.size
  have hb01 := hb0.trans (hb1.mono hb0.size)
  clear hb1 hg hp1 hb0
  go_wp2_with fail
  go_loopw [32] (fun i wr => ∃ i' : Nat, i' ≤ n ∧ i = .int .i64 i' ∧ Hid (firstN (fun i => (rowV s zs ⟨t, x, y⟩ xs i).isSome) i' = none) ∧ Below w1.heap.size w1 wr) (fun i _ => n - (intOf i).toNat)
  case atStart => exact ⟨0, Nat.zero_le _, rfl, Lib.hid rfl, Below.refl _ _⟩
  case round =>
    obtain ⟨i, hin, rfl, Hi, hbw⟩ := hrel
    by_cases hlt : i < n
    · obtain ⟨b, off, d, hA, hb, hd, r0⟩ := H.out.int i hlt
      subst hA
      have hbW := hb01.trans (hbw.mono hb01.size)
      have r0 := (keepC hbW b hb _).trans r0
      obtain ⟨m, hmn⟩ : ∃ m, m + 1 = n := ⟨n - 1, by omega⟩
      obtain ⟨f1, hf1⟩ : ∃ f1, i + 1 = f1 := ⟨_, rfl⟩
      have j1 : (i : Int) < (n : Int) := by omega
      have j3 : (0 : Int) ≤ (i : Int) := by omega
      have ef : (i : Int) + 1 = (f1 : Int) := by omega
      have em : (m : Int) + 1 = (n : Int) := by omega
      have hrl : (restV xs i).length = m := by have := restV_len (ks := xs) (i := i) (by rw [Hl.out]; exact hlt); rw [Hl.out] at this; omega
      have hC := cloneI_c (some ⟨b, off, none⟩) n c xs wr (H.out.next hbW) hm (fun e => by cases e)
      have hD : ∀ w1 g base, w1.ownsRow base 2 1 (.slice (some ⟨g, 0, none⟩) n n) n (xs.flatMap intC) → Calls Try.prog 68 #[.slice (some ⟨g, 0, none⟩) n n, .int .i64 i, .int .i64 f1] w1 fun e w' => e = .returned (.slice (some ⟨g, 0, none⟩) m n) ∧ w'.ownsRow base 2 1 (.slice (some ⟨g, 0, none⟩) m n) m ((restV xs i).flatMap intC) ∧ w1.grownBy w' (some g) := fun w1 g base ho => by
        have := deleteI_c base g n i f1 xs w1 ho (by omega) (by omega) hm
        rw [show n - (f1 - i) = m by omega, ← hf1] at this
        rw [← hf1]
        exact this
      have hmv : ∀ k, movedV xs i k = (restV xs i).take k ++ [d] ++ (restV xs i).drop k := fun k => by rw [movedV, hd]; rfl
      have HI : Hid (∀ w1 g b' cx k base, w1.ownsRow base 2 1 (.slice (some ⟨g, 0, none⟩) m m) m ((restV xs i).flatMap intC) → Sl w1 w1.heap.size 1 (some ⟨b', 0, none⟩) 1 (intC d) → k ≤ m → base ≤ w1.heap.size → Calls Try.prog 69 #[.slice (some ⟨g, 0, none⟩) m m, .int .i64 (k : Nat), .slice (some ⟨b', 0, none⟩) 1 cx] w1 fun e w' => ∃ A c, e = .returned (.slice A n c) ∧ w'.ownsRow base 2 1 (.slice A n c) n ((movedV xs i k).flatMap intC) ∧ w1.grownBy w' (some g)) := Lib.hid fun w1 g b' cx k base h1 h2 h3 h4 => by
        have := insertI_c base g m b' 0 cx k d (restV xs i) w1 h1 h2 h3 (by omega) h4
        rw [hmn] at this
        rw [hmv]
        exact this
      have HD := Lib.hid hD; clear hD
      have Hd := Lib.hid hd; clear hd
      have Hmv := Lib.hid hmv; clear hmv
      have Hrl := Lib.hid hrl; clear hrl
      have Hf1 := Lib.hid hf1; clear hf1
      have Hmn := Lib.hid hmn; clear hmn
      clear hb
      go_wp2_with fail
      refine hC.mono ?_
      rintro e w2 ⟨rfl, ho2, hb2⟩
      have hD2 := HD.out w2 wr.heap.size wr.heap.size ho2
      clear hC
      go_wp2_with fail
      refine hD2.mono ?_
      rintro e w3 ⟨rfl, ho3, hg3⟩
      have hb3 : Below wr.heap.size wr w3 := hb2.grown hg3 hb2.size fun q hq => Nat.le_of_eq (Option.some.inj hq)
      have hbX := hbw.trans (hb3.mono hbw.size)
      clear hD2 ho2 hb2 hg3
      obtain ⟨gr, hgr⟩ : ∃ gr, wr.heap.size = gr := ⟨_, rfl⟩
      rw [hgr] at ho3
      try rw [hgr]
      have hgrl := (own_row ho3).2.1
      have hgrb := hbw.size
      rw [hgr] at hgrb
      clear hb3 hgr r0
      go_wp2_with fail
      obtain ⟨wo, hwo⟩ : ∃ wo : World, wo = wr := ⟨_, rfl⟩
      clear hwo
      go_loopw [46] (fun k wr => ∃ k' : Nat, k' ≤ n ∧ k = .int .i64 k' ∧ Hid (firstN (fun k => goodV s zs ⟨t, x, y⟩ (endV s zs ⟨t, x, y⟩ xs) (movedV xs i k)) k' = none) ∧ wr.ownsRow gr 2 1 (.slice (some ⟨gr, 0, none⟩) m n) m ((restV xs i).flatMap intC) ∧ Below w1.heap.size w1 wr) (fun k _ => n - (intOf k).toNat)
      case atStart => exact ⟨0, Nat.zero_le _, rfl, Lib.hid rfl, ho3, hbX⟩
      case round =>
        clear ho3 hbX hbw hbW hgrl
        obtain ⟨k, hkn, rfl, Hk, ho3, hbw⟩ := hrel
        by_cases hlk : k < n
        · have j2 : (k : Int) < (n : Int) := by omega
          have hbW := hb01.trans (hbw.mono hb01.size)
          have hgood : goodV s zs ⟨t, x, y⟩ (endV s zs ⟨t, x, y⟩ xs) (movedV xs i k) = (okV s zs ⟨t, x, y⟩ (movedV xs i k) && decide (endV s zs ⟨t, x, y⟩ (movedV xs i k) < E)) := by rw [goodV, HEe.out]
          have hVk : VOk s zs ⟨t, x, y⟩ (movedV xs i k) := HV.out.mono fun a ha => movedV_mem (by rw [Hl.out]; exact hlt) ha
          have hLk : loadV zs (movedV xs i k) ≤ s.ld := by rw [movedV_load zs (by rw [Hl.out]; exact hlt)]; exact Hld.out
          have hC := cloneI_c (some ⟨gr, 0, none⟩) m n (restV xs i) wr (Sl.of_own ho3) (by omega) (fun e => by cases e)
          have hI := fun w1 g b' cx base => HI.out w1 g b' cx k base
          have hF := fun w1 A1 c1 hb => HEnd.out w1 A1 c1 (movedV xs i k) hb hVk hLk
          obtain ⟨V, hV⟩ : ∃ V, movedV xs i k = V := ⟨_, rfl⟩
          rw [hV] at hF hI hgood
          obtain ⟨O, hO⟩ : ∃ O, okV s zs ⟨t, x, y⟩ V = O := ⟨_, rfl⟩
          obtain ⟨F, hF0⟩ : ∃ F, endV s zs ⟨t, x, y⟩ V = F := ⟨_, rfl⟩
          rw [hO, hF0] at hF hgood
          have q0 := (keepC hbw (w.heap.size + 1) hpp 0).trans d0
          have q1 := (keepC hbw (w.heap.size + 1) hpp 1).trans d1
          have s0 := (keepC hbw w.heap.size hgg 0).trans c0
          have s1 := (keepC hbw w.heap.size hgg 1).trans c1
          have s2 := (keepC hbw w.heap.size hgg 2).trans c2
          have s3 := (keepC hbw w.heap.size hgg 3).trans c3
          have hk0 : k ≤ m := by omega
          have HI1 := Lib.hid hI; clear hI
          have HF1 := Lib.hid hF; clear hF
          have Hgood := Lib.hid hgood; clear hgood
          have HVe := Lib.hid hV; clear hV
          clear hO hF0 hVk hLk
          go_wp2_with fail
          refine hC.mono ?_
          rintro e w4 ⟨rfl, ho4, hb4⟩
          have hbA : Below w4.heap.size w4 (w4.alloc (.cells #[.int .i64 d] 2)) := (Below.refl _ _).alloc (Nat.le_refl _) _
          have hb5 := hb4.trans (hbA.mono hb4.size)
          have ho5 := own_next ho4 hbA
          have hs5 := (Sl.new w4 2 (intC d) 1 1 rfl).more (show w4.heap.size + 1 ≤ (w4.alloc (.cells #[.int .i64 d] 2)).heap.size by simp)
          have hI2 := HI1.out (w4.alloc (.cells #[.int .i64 d] 2)) wr.heap.size w4.heap.size 1 wr.heap.size ho5 hs5 hk0 hb5.size
          clear hC ho4 hbA hs5
          go_wp2_with fail
          refine hI2.mono ?_
          rintro e w6 ⟨A6, c6, rfl, ho6, hg6⟩
          have hb6 : Below wr.heap.size wr w6 := hb5.grown hg6 hb5.size fun q hq => Nat.le_of_eq (Option.some.inj hq)
          have hbY := hbw.trans (hb6.mono hbw.size)
          have hF2 := HF1.out w6 A6 c6 (hb01.trans (hbY.mono hb01.size)) (Sl.of_own ho6)
          have hoR := own_next ho3 hb6
          have hgw := hbw.size
          have v0 := (keepC hb6 (w.heap.size + 1) (Nat.lt_of_lt_of_le hpp hgw) 0).trans q0
          have v1 := (keepC hb6 (w.heap.size + 1) (Nat.lt_of_lt_of_le hpp hgw) 1).trans q1
          have s0 := (keepC hb6 w.heap.size (Nat.lt_of_lt_of_le hgg hgw) 0).trans s0
          have s1 := (keepC hb6 w.heap.size (Nat.lt_of_lt_of_le hgg hgw) 1).trans s1
          have s2 := (keepC hb6 w.heap.size (Nat.lt_of_lt_of_le hgg hgw) 2).trans s2
          have s3 := (keepC hb6 w.heap.size (Nat.lt_of_lt_of_le hgg hgw) 3).trans s3
          clear hI2 ho5 hb5 hg6 q0 q1
          cases O
          · simp only [cond_false] at hF2
            go_wp2_with fail
            refine hF2.mono ?_
            rintro e w7 ⟨rfl, hb7⟩
            go_wp2_with fail
            go_roundw
            case rel => exact ⟨k + 1, by omega, by go_num, Lib.hid (firstN_next Hk.out (by rw [HVe.out, Hgood.out]; rfl)), own_next hoR hb7, hbY.trans (hb7.mono hbY.size)⟩
            case measure => simp [intOf]; omega
          · simp only [cond_true] at hF2
            by_cases hlF : F < E
            · have hRR : R = some V := by rw [← HR.out, ← HVe.out]; exact betV_hit Hi.out (by rw [Hl.out]; exact hlt) Hk.out (by rw [Hl.out]; exact hlk) (by rw [HVe.out, Hgood.out]; simpa using hlF)
              subst hRR
              go_wp2_with fail
              refine hF2.mono ?_
              rintro e w7 ⟨rfl, hb7⟩
              have hbZ := hbY.trans (hb7.mono hbY.size)
              have hoV := own_base (own_next ho6 hb7) (Nat.le_trans hb01.size hbw.size)
              go_wp2_with fail
              go_ret2
              exact ⟨_, rfl, fun r hr => by injection hr with hr; subst hr; exact ⟨A6, c6, rfl, hoV⟩, hb01.trans (hbZ.mono hb01.size)⟩
            · go_wp2_with fail
              refine hF2.mono ?_
              rintro e w7 ⟨rfl, hb7⟩
              go_wp2_with fail
              go_roundw
              case rel => exact ⟨k + 1, by omega, by go_num, Lib.hid (firstN_next Hk.out (by rw [HVe.out, Hgood.out]; simpa using hlF)), own_next hoR hb7, hbY.trans (hb7.mono hbY.size)⟩
              case measure => simp [intOf]; omega
        · obtain rfl : k = n := by omega
          go_wp2_with fail
          go_roundw
          case rel => exact ⟨i + 1, by omega, by go_num, Lib.hid (firstN_next Hi.out (rowV_none (by rw [Hl.out]; exact Hk.out))), hbw⟩
          case measure => simp [intOf]; omega
    · obtain rfl : i = n := by omega
      have hRR : R = none := by rw [← HR.out]; exact betV_none (by rw [Hl.out]; exact Hi.out)
      subst hRR
      go_wp2_with fail
      go_ret2
      exact ⟨_, rfl, (fun r hr => nomatch hr), hb01.trans (hbw.mono hb01.size)⟩
set_option maxRecDepth 100000 in
set_option maxHeartbeats 4000000 in
theorem implImprove_c (s : Sh) (x y t : Int) (AZ : Option Addr) (N cZ : Nat) (zs : List Wk) (A : Option Addr) (n c : Nat) (xs : List Int) (w : World) (hs : s.name.size ≤ maxLen) (hz : Sl w w.heap.size 7 AZ N (zs.flatMap Wk.cells)) (hN : N ≤ 1048576) (hns : ∀ z ∈ zs, z.name.size ≤ maxLen)
    (h : Sl w w.heap.size 1 A n (xs.flatMap intC)) (hm : n ≤ 1048576) (hnc : n ≤ c) (hAc : A = none → c = 0) :
    Calls Try.prog 23 #[s.val, ptV x y, .slice AZ N cZ, .slice A n c, .int .i64 t] w fun e w' => ∃ v, e = .returned (.tuple #[v, .int .i64 (vendK s zs ⟨t, x, y⟩ xs)]) ∧ w'.ownsRow w.heap.size 2 1 v (impL s zs ⟨t, x, y⟩ xs).length ((impL s zs ⟨t, x, y⟩ xs).flatMap intC) ∧ Below w.heap.size w w' := by
  have hl := h.len intC 1 intC_len (by omega)
  have hb0 : Below w.heap.size w ((w.alloc (shO s 32)).alloc (ptO x y 34)) := by (repeat (first | (with_reducible assumption) | (with_reducible exact Below.refl _ _) | exact Nat.le_refl _ | exact Below.size (by with_reducible assumption) | (with_reducible refine Below.drew ?_) | (with_reducible refine below_drewN ?_ _) | (with_reducible refine Below.alloc ?_ ?_ _) | (with_reducible refine Below.setCell ?_ ?_ _) | (with_reducible refine le_alloc ?_ _) | (with_reducible refine le_set ?_ _ _) | (with_reducible refine le_drew ?_) | (with_reducible refine le_drewN ?_ _) | omega | (dsimp only; omega)))
  have g1 := (ShP.box w s 32).next (w' := (w.alloc (shO s 32)).alloc (ptO x y 34)) (by (repeat (first | (with_reducible assumption) | (with_reducible exact Below.refl _ _) | exact Nat.le_refl _ | exact Below.size (by with_reducible assumption) | (with_reducible refine Below.drew ?_) | (with_reducible refine below_drewN ?_ _) | (with_reducible refine Below.alloc ?_ ?_ _) | (with_reducible refine Below.setCell ?_ ?_ _) | (with_reducible refine le_alloc ?_ _) | (with_reducible refine le_set ?_ _ _) | (with_reducible refine le_drew ?_) | (with_reducible refine le_drewN ?_ _) | omega | (dsimp only; omega))))
  have hsz : (w.alloc (shO s 32)).heap.size = w.heap.size + 1 := by simp
  have p1 := PtP.box (w.alloc (shO s 32)) x y
  rw [hsz] at p1
  obtain ⟨w0, hw⟩ : ∃ w0, (w.alloc (shO s 32)).alloc (ptO x y 34) = w0 := ⟨_, rfl⟩
  rw [hw] at hb0 g1 p1
  have hV := implVoyageEnd_c s x y t AZ N cZ zs A n c xs w0 hs (hz.next hb0) hN hns (h.next hb0) hm hnc
  obtain ⟨K, hK⟩ : ∃ K, vendK s zs ⟨t, x, y⟩ xs = K := ⟨_, rfl⟩
  rw [hK] at hV ⊢
  obtain ⟨T0, hT0⟩ : ∃ T0, vendT s zs ⟨t, x, y⟩ xs = T0 := ⟨_, rfl⟩
  rw [hT0] at hV
  clear hT0
  obtain ⟨c0, c1, c2, c3, hg⟩ := g1
  obtain ⟨d0, d1, hp1⟩ := p1
  by_cases hK0 : K = 0
  · subst hK0
    obtain ⟨hv, _, hok, hld, hvt⟩ := vend_ok hK
    have hiL : impL s zs ⟨t, x, y⟩ xs = impV s zs ⟨t, x, y⟩ xs := by rw [impL, hK]; rfl
    rw [hiL]
    have hI : ∀ w1 g1 cc ks, Below w0.heap.size w0 w1 → Hid (VOk s zs ⟨t, x, y⟩ ks ∧ okV s zs ⟨t, x, y⟩ ks = true ∧ loadV zs ks ≤ s.ld) → Sl w1 w1.heap.size 1 g1 n (ks.flatMap intC) → Calls Try.prog 47 #[s.val, ptV x y, .slice AZ N cZ, .slice g1 n cc, .int .i64 t] w1 fun e w' => ∃ v, e = .returned (.tuple #[v, .bool (betV s zs ⟨t, x, y⟩ ks).isSome]) ∧ (∀ r, betV s zs ⟨t, x, y⟩ ks = some r → ∃ A' c', v = .slice A' n c' ∧ w'.ownsRow w1.heap.size 2 1 v n (r.flatMap intC)) ∧ Below w1.heap.size w1 w' := fun w1 A1 c1 ks hb hv1 h1 => improve_c s x y t AZ N cZ zs A1 n c1 ks w1 (hz.next (hb0.trans (hb.mono hb0.size))) h1 hm hv1.out.1 hv1.out.2.2 hv1.out.2.1
    have hO : ∀ w1, Below w0.heap.size w0 w1 → Calls Try.prog 46 #[.slice A n c] w1 fun e w' => e = .returned (.slice (some ⟨w1.heap.size, 0, none⟩) n n) ∧ w'.ownsRow w1.heap.size 2 1 (.slice (some ⟨w1.heap.size, 0, none⟩) n n) n (xs.flatMap intC) ∧ Below w1.heap.size w1 w' := fun w1 hb => cloneI_c A n c xs w1 (h.next (hb0.trans (hb.mono hb0.size))) hm hAc
    have HX : Hid (VOk s zs ⟨t, x, y⟩ xs ∧ okV s zs ⟨t, x, y⟩ xs = true ∧ loadV zs xs ≤ s.ld) := Lib.hid ⟨hv, hok, hld⟩
    obtain ⟨FIN, hFIN⟩ : ∃ FIN, impV s zs ⟨t, x, y⟩ xs = FIN := ⟨_, rfl⟩
    obtain ⟨R0, hR0⟩ : ∃ R0, betV s zs ⟨t, x, y⟩ xs = R0 := ⟨_, rfl⟩
    have hEb := hv.end_ hok
    rw [hFIN]
    have HI := Lib.hid hI; clear hI
    have HO := Lib.hid hO; clear hO
    have HFIN := Lib.hid hFIN; clear hFIN
    have HR0 := Lib.hid hR0; clear hR0
    have Hl := Lib.hid hl; clear hl
    have HEb := Lib.hid hEb; clear hEb
    clear hv hok hld hvt hK hz h hsz hiL
    go_enter Try.func23, Try.ntmps23
    go_wp2_with fail
    try rw [hw]
    clear hw
    refine hV.mono ?_
    rintro e w1 ⟨rfl, hb1⟩
    clear hV
    have v0 := (keepC hb1 (w.heap.size + 1) hp1 0).trans d0
    have v1 := (keepC hb1 (w.heap.size + 1) hp1 1).trans d1
    have s0 := (keepC hb1 w.heap.size hg 0).trans c0
    have s1 := (keepC hb1 w.heap.size hg 1).trans c1
    have s2 := (keepC hb1 w.heap.size hg 2).trans c2
    have s3 := (keepC hb1 w.heap.size hg 3).trans c3
    go_wp2_with fail
    refine (HO.out _ hb1).mono ?_
    rintro e w2 ⟨rfl, ho2, hb2⟩
    have hb12 := hb1.trans (hb2.mono hb1.size)
    have hp2 := Nat.lt_of_lt_of_le hp1 hb1.size
    have hg2 := Nat.lt_of_lt_of_le hg hb1.size
    have v0 := (keepC hb2 (w.heap.size + 1) hp2 0).trans v0
    have v1 := (keepC hb2 (w.heap.size + 1) hp2 1).trans v1
    have s0 := (keepC hb2 w.heap.size hg2 0).trans s0
    have s1 := (keepC hb2 w.heap.size hg2 1).trans s1
    have s2 := (keepC hb2 w.heap.size hg2 2).trans s2
    have s3 := (keepC hb2 w.heap.size hg2 3).trans s3
    replace ho2 := own_base ho2 hb1.size
    have hI2 := HI.out w2 (some ⟨w1.heap.size, 0, none⟩) n xs hb12 HX (Sl.of_own ho2)
    rw [HR0.out] at hI2
    clear hb1 hb2 hp2 hg2
    go_wp2_with fail
    refine hI2.mono ?_
    rintro e w3 ⟨v3, rfl, hR3, hb3⟩
    clear hI2 v0 v1 s0 s1 s2 s3
    have ho3 := own_next ho2 hb3
    have hb13 := hb12.trans (hb3.mono hb12.size)
    have hz12 := hb12.size
    go_wp2_with fail
    go_loopg [14, 15, 16] ((endV s zs ⟨t, x, y⟩ xs).toNat + 1) (fun q o bt ok wr => ∃ (ks : List Int) (AO : Option Addr) (co : Nat) (R : Option (List Int)), o = .slice AO n co ∧ ok = .bool R.isSome ∧ Hid (betV s zs ⟨t, x, y⟩ ks = R) ∧ Hid (VOk s zs ⟨t, x, y⟩ ks ∧ okV s zs ⟨t, x, y⟩ ks = true ∧ loadV zs ks ≤ s.ld) ∧ Hid ((endV s zs ⟨t, x, y⟩ ks).toNat < q ∧ ks.length = n ∧ impV s zs ⟨t, x, y⟩ ks = FIN) ∧ wr.ownsRow w0.heap.size 2 1 (.slice AO n co) n (ks.flatMap intC) ∧ Hid (∀ r, R = some r → ∃ A' c', bt = .slice A' n c' ∧ wr.ownsRow w0.heap.size 2 1 bt n (r.flatMap intC)) ∧ Below w0.heap.size w0 wr)
    case atStart => exact ⟨xs, some ⟨w1.heap.size, 0, none⟩, n, R0, rfl, rfl, HR0, HX, Lib.hid ⟨by omega, Hl.out, HFIN.out⟩, ho3, Lib.hid fun r hr => by obtain ⟨A', c', e1, e2⟩ := hR3 r hr; exact ⟨A', c', e1, own_base e2 hz12⟩, hb13⟩
    case round =>
      clear ho3 hb13 hR3 ho2 hb3 hb12 hz12
      obtain ⟨ks, AO, co, R, rfl, rfl, HRk, HVk, HKs, ho, Hbt, hbw⟩ := hrel
      cases R with
      | none =>
        have hFk : FIN = ks := HKs.out.2.2.symm.trans (impV_end HRk.out)
        subst hFk
        have hlen := HKs.out.2.1
        have Hlen := Lib.hid hlen; clear hlen
        go_wp2_with fail
        go_ret2
        exact ⟨_, rfl, by rw [Hlen.out]; exact own_base ho hb0.size, hb0.trans (hbw.mono hb0.size)⟩
      | some r =>
        obtain ⟨A', c', rfl, hoB⟩ := Hbt.out r rfl
        obtain ⟨k1, k2, k3⟩ := HVk.out
        obtain ⟨k4, k5, k6⟩ := HKs.out
        obtain ⟨b1, b2, b3, b4, b5⟩ := k1.bet HRk.out
        have hfin := (impV_next k1 k2 HRk.out).symm.trans k6
        have hEr := b1.end_ b4
        have HVr : Hid (VOk s zs ⟨t, x, y⟩ r ∧ okV s zs ⟨t, x, y⟩ r = true ∧ loadV zs r ≤ s.ld) := Lib.hid ⟨b1, b4, by rw [b3]; exact k3⟩
        have HKr : Hid ((endV s zs ⟨t, x, y⟩ r).toNat < (endV s zs ⟨t, x, y⟩ ks).toNat ∧ r.length = n ∧ impV s zs ⟨t, x, y⟩ r = FIN) := Lib.hid ⟨by omega, b2.trans k5, hfin⟩
        obtain ⟨R', hR'⟩ : ∃ R', betV s zs ⟨t, x, y⟩ r = R' := ⟨_, rfl⟩
        have hI2 := HI.out wr A' c' r hbw HVr (Sl.of_own hoB)
        rw [hR'] at hI2
        have HR1 := Lib.hid hR'; clear hR'
        have q0 := (keepC hbw (w.heap.size + 1) hp1 0).trans d0
        have q1 := (keepC hbw (w.heap.size + 1) hp1 1).trans d1
        have s0 := (keepC hbw w.heap.size hg 0).trans c0
        have s1 := (keepC hbw w.heap.size hg 1).trans c1
        have s2 := (keepC hbw w.heap.size hg 2).trans c2
        have s3 := (keepC hbw w.heap.size hg 3).trans c3
        clear k1 k2 k3 k4 k5 k6 b1 b2 b3 b4 b5 hfin hEr
        go_wp2_with fail
        refine hI2.mono ?_
        rintro e w4 ⟨v4, rfl, hR4, hb4⟩
        clear hI2
        have hoB4 := own_next hoB hb4
        have hbwz := hbw.size
        go_wp2_with fail
        go_roundg (endV s zs ⟨t, x, y⟩ ks).toNat
        case measure => exact HKs.out.1
        case rel => exact ⟨r, A', c', R', rfl, rfl, HR1, HVr, HKr, hoB4, Lib.hid fun r2 hr2 => by obtain ⟨A2, c2, e1, e2⟩ := hR4 r2 hr2; exact ⟨A2, c2, e1, own_base e2 hbwz⟩, hbw.trans (hb4.mono hbw.size)⟩
  · have hiL : impL s zs ⟨t, x, y⟩ xs = [] := by rw [impL, hK, decide_eq_false hK0]; rfl
    have hKn : (K == 0) = false := by simpa using hK0
    rw [hiL]
    clear hK hl hiL
    go_enter Try.func23, Try.ntmps23
    go_wp2_with fail
    try rw [hw]
    clear hw
    refine hV.mono ?_
    rintro e w1 ⟨rfl, hb1⟩
    go_wp2_with fail
    go_ret2
    exact ⟨_, rfl, World.ownsRow_nil _ _ _ _, hb0.trans (hb1.mono hb0.size)⟩
end Go.Proofs.Ytgkdjohiclhcoaa
