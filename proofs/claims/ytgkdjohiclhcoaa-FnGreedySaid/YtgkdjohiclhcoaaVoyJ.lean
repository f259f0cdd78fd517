/- Improving a voyage: the reference. -/
import Derived.Test.YtgkdjohiclhcoaaVoyE
import Derived.Test.YtgkdjohiclhcoaaVoyM
namespace Go.Proofs.Ytgkdjohiclhcoaa
open Go.RowKit
theorem rowV_none {s : Sh} {zs : List Wk} {p : VSt} {ks : List Int} {i : Nat} (h : firstN (fun k => goodV s zs p (endV s zs p ks) (movedV ks i k)) ks.length = none) : (rowV s zs p ks i).isSome = false := by rw [rowV, h]; rfl
theorem betV_hit {s : Sh} {zs : List Wk} {p : VSt} {ks : List Int} {i k : Nat} (h1 : firstN (fun i => (rowV s zs p ks i).isSome) i = none) (hi : i < ks.length) (h2 : firstN (fun k => goodV s zs p (endV s zs p ks) (movedV ks i k)) k = none) (hk : k < ks.length) (hg : goodV s zs p (endV s zs p ks) (movedV ks i k) = true) : betV s zs p ks = some (movedV ks i k) := by
  have e1 : rowV s zs p ks i = some k := firstN_hit h2 hg _ hk
  have e2 := firstN_hit h1 (by rw [e1]; rfl) _ hi
  rw [betV, e2]
  simp only
  rw [e1]
theorem betV_none {s : Sh} {zs : List Wk} {p : VSt} {ks : List Int} (h1 : firstN (fun i => (rowV s zs p ks i).isSome) ks.length = none) : betV s zs p ks = none := by rw [betV, h1]
set_option maxRecDepth 100000 in
set_option maxHeartbeats 4000000 in
theorem l27Better_c (bs : Nat) (s : Sh) (x y t : Int) (AZ : Option Addr) (N cZ : Nat) (zs : List Wk) (A : Option Addr) (n c : Nat) (xs : List Int) (w : World) (hsh : ShP w bs s) (hz : Sl w w.heap.size 7 AZ N (zs.flatMap Wk.cells)) (h : Sl w w.heap.size 1 A n (xs.flatMap intC)) (hm : n ≤ 1048576) (hnc : n ≤ c)
    (hv : VOk s zs ⟨t, x, y⟩ xs) :
    Calls Try.prog 52 #[.pointer (some ⟨bs, 0, none⟩), ptV x y, .slice AZ N cZ, .slice A n c, .int .i64 t, .int .i64 (endV s zs ⟨t, x, y⟩ xs)] w fun e w' => ∃ v, e = .returned (.tuple #[v, .bool (betV s zs ⟨t, x, y⟩ xs).isSome]) ∧ (∀ r, betV s zs ⟨t, x, y⟩ xs = some r → ∃ g c', v = .slice (some ⟨g, 0, none⟩) n c' ∧ w'.ownsRow w.heap.size 2 1 v n (r.flatMap intC)) ∧ Below w.heap.size w w' := by
  have hl := h.len intC 1 intC_len (by omega)
  have hb0 : Below w.heap.size w (w.alloc (ptO x y 34)) := by (repeat (first | (with_reducible assumption) | (with_reducible exact Below.refl _ _) | exact Nat.le_refl _ | exact Below.size (by with_reducible assumption) | (with_reducible refine Below.drew ?_) | (with_reducible refine below_drewN ?_ _) | (with_reducible refine Below.alloc ?_ ?_ _) | (with_reducible refine Below.setCell ?_ ?_ _) | (with_reducible refine le_alloc ?_ _) | (with_reducible refine le_set ?_ _ _) | (with_reducible refine le_drew ?_) | (with_reducible refine le_drewN ?_ _) | omega | (dsimp only; omega)))
  have p1 := PtP.box w x y
  obtain ⟨w0, hw⟩ : ∃ w0, w.alloc (ptO x y 34) = w0 := ⟨_, rfl⟩
  rw [hw] at hb0 p1
  obtain ⟨d0, d1, hp1⟩ := p1
  have HM : Hid (∀ w1 b off i k, A = some ⟨b, off, none⟩ → Below w.heap.size w w1 → i < n → k < n → Calls Try.prog 72 #[.slice (some ⟨b, off, none⟩) n c, .int .i64 (i : Nat), .int .i64 (k : Nat)] w1 fun e w' => ∃ g c', e = .returned (.slice (some ⟨g, 0, none⟩) n c') ∧ w'.ownsRow w1.heap.size 2 1 (.slice (some ⟨g, 0, none⟩) n c') n ((movedV xs i k).flatMap intC) ∧ Below w1.heap.size w1 w') := Lib.hid fun w1 b off i k e hb hi hk => l27Moved_c b off n c i k xs w1 (e ▸ h.next hb) hi hk hnc hm
  have HC : Hid (∀ w1 A1 c1 i k, Below w.heap.size w w1 → i < n → Sl w1 w1.heap.size 1 A1 n ((movedV xs i k).flatMap intC) → Calls Try.prog 49 #[.pointer (some ⟨bs, 0, none⟩), ptV x y, .slice AZ N cZ, .slice A1 n c1, .int .i64 t] w1 fun e w' => ∃ v, e = .returned (.tuple #[v, .bool (okV s zs ⟨t, x, y⟩ (movedV xs i k))]) ∧ (okV s zs ⟨t, x, y⟩ (movedV xs i k) = true → w'.ownsRow w1.heap.size 77 4 v n ((callsV s zs ⟨t, x, y⟩ (movedV xs i k)).flatMap Cl.cells)) ∧ Below w1.heap.size w1 w') := Lib.hid fun w1 A1 c1 i k hb hi h1 => l25Calls_c bs s x y t AZ N cZ zs A1 n c1 _ w1 (hsh.next hb) (hz.next hb) h1 hm (hv.mono fun a ha => movedV_mem (by omega) ha)
  have HE : Hid (∀ w1 A1 c1 i k, Below w.heap.size w w1 → i < n → okV s zs ⟨t, x, y⟩ (movedV xs i k) = true → Sl w1 w1.heap.size 4 A1 n ((callsV s zs ⟨t, x, y⟩ (movedV xs i k)).flatMap Cl.cells) → Calls Try.prog 50 #[.pointer (some ⟨bs, 0, none⟩), ptV x y, .slice AZ N cZ, .slice A1 n c1, .int .i64 t] w1 fun e w' => e = .returned (.int .i64 (endV s zs ⟨t, x, y⟩ (movedV xs i k))) ∧ Below w1.heap.size w1 w') := Lib.hid fun w1 A1 c1 i k hb hi h1 h2 => l25End_c bs s x y t AZ N cZ zs A1 n c1 _ w1 (hsh.next hb) (hz.next hb) h2 hm (hv.mono fun a ha => movedV_mem (by omega) ha) h1
  obtain ⟨E, hE⟩ : ∃ E, endV s zs ⟨t, x, y⟩ xs = E := ⟨_, rfl⟩
  obtain ⟨R, hR⟩ : ∃ R, betV s zs ⟨t, x, y⟩ xs = R := ⟨_, rfl⟩
  rw [hE, hR]
  have Hl := Lib.hid hl; clear hl
  have HEe := Lib.hid hE; clear hE
  have HR := Lib.hid hR; clear hR
  have H := Lib.hid h; clear h
  clear hsh hz hv hnc
  go_enter Try.func52, Try.ntmps52
  go_wp2_with fail
  try rw [hw]
  clear hw
  go_loopw [14] (fun i wr => ∃ i' : Nat, i' ≤ n ∧ i = .int .i64 i' ∧ Hid (firstN (fun i => (rowV s zs ⟨t, x, y⟩ xs i).isSome) i' = none) ∧ Below w0.heap.size w0 wr) (fun i _ => n - (intOf i).toNat)
  case atStart => exact ⟨0, Nat.zero_le _, rfl, Lib.hid rfl, Below.refl _ _⟩
  case round =>
    obtain ⟨i, hin, rfl, Hi, hbw⟩ := hrel
    by_cases hlt : i < n
    · obtain ⟨b, off, d, hA, hb, hd, r0⟩ := H.out.int i hlt
      subst hA
      have j1 : (i : Int) < (n : Int) := by omega
      clear hb hd r0
      go_wp2_with fail
      obtain ⟨wo, hwo⟩ : ∃ wo : World, wo = wr := ⟨_, rfl⟩
      clear hwo
      go_loopw [15] (fun k wr => ∃ k' : Nat, k' ≤ n ∧ k = .int .i64 k' ∧ Hid (firstN (fun k => goodV s zs ⟨t, x, y⟩ (endV s zs ⟨t, x, y⟩ xs) (movedV xs i k)) k' = none) ∧ Below w0.heap.size w0 wr) (fun k _ => n - (intOf k).toNat)
      case atStart => exact ⟨0, Nat.zero_le _, rfl, Lib.hid rfl, hbw⟩
      case round =>
        clear hbw
        obtain ⟨k, hkn, rfl, Hk, hbw⟩ := hrel
        by_cases hlk : k < n
        · have j2 : (k : Int) < (n : Int) := by omega
          have hbW := hb0.trans (hbw.mono hb0.size)
          have hgood : goodV s zs ⟨t, x, y⟩ (endV s zs ⟨t, x, y⟩ xs) (movedV xs i k) = (okV s zs ⟨t, x, y⟩ (movedV xs i k) && decide (endV s zs ⟨t, x, y⟩ (movedV xs i k) < E)) := by rw [goodV, HEe.out]
          have hC := fun w1 A1 c1 hb => HC.out w1 A1 c1 i k hb hlt
          have hF := fun w1 A1 c1 hb => HE.out w1 A1 c1 i k hb hlt
          have hM := HM.out wr b off i k rfl hbW hlt hlk
          obtain ⟨V, hV⟩ : ∃ V, movedV xs i k = V := ⟨_, rfl⟩
          rw [hV] at hC hF hM hgood
          obtain ⟨O, hO⟩ : ∃ O, okV s zs ⟨t, x, y⟩ V = O := ⟨_, rfl⟩
          obtain ⟨F, hF0⟩ : ∃ F, endV s zs ⟨t, x, y⟩ V = F := ⟨_, rfl⟩
          obtain ⟨CS, hCS⟩ : ∃ CS, callsV s zs ⟨t, x, y⟩ V = CS := ⟨_, rfl⟩
          rw [hO, hCS] at hC
          rw [hO, hF0, hCS] at hF
          rw [hO, hF0] at hgood
          have q0 := (keepC hbw w.heap.size hp1 0).trans d0
          have q1 := (keepC hbw w.heap.size hp1 1).trans d1
          have hpw := Nat.lt_of_lt_of_le hp1 hbw.size
          have HC1 := Lib.hid hC; clear hC
          have HF1 := Lib.hid hF; clear hF
          have Hgood := Lib.hid hgood; clear hgood
          have HV := Lib.hid hV; clear hV
          clear hO hF0 hCS
          go_wp2_with fail
          refine hM.mono ?_
          rintro e w2 ⟨g, c2, rfl, ho2, hb2⟩
          have u0 := (keepC hb2 w.heap.size hpw 0).trans q0
          have u1 := (keepC hb2 w.heap.size hpw 1).trans q1
          have hp2 := Nat.lt_of_lt_of_le hpw hb2.size
          have hbX := hbw.trans (hb2.mono hbw.size)
          clear q0 q1 hM
          go_wp2_with fail
          refine (HC1.out _ (some ⟨g, 0, none⟩) c2 (hb0.trans (hbX.mono hb0.size)) (Sl.of_own ho2)).mono ?_
          rintro e w3 ⟨v3, rfl, ho3, hb3⟩
          have v0 := (keepC hb3 w.heap.size hp2 0).trans u0
          have v1 := (keepC hb3 w.heap.size hp2 1).trans u1
          have ho2' := own_next ho2 hb3
          have hbY := hbX.trans (hb3.mono hbX.size)
          clear u0 u1 ho2
          cases O
          · go_wp2_with fail
            go_roundw
            case rel => exact ⟨k + 1, by omega, by go_num, Lib.hid (firstN_next Hk.out (by rw [HV.out, Hgood.out]; rfl)), hbY⟩
            case measure => simp [intOf]; omega
          · have ho3' := ho3 rfl
            clear ho3
            obtain ⟨A3, c3, rfl⟩ := own_slice ho3'
            by_cases hlF : F < E
            · have hRR : R = some V := by rw [← HR.out, ← HV.out]; exact betV_hit Hi.out (by rw [Hl.out]; exact hlt) Hk.out (by rw [Hl.out]; exact hlk) (by rw [HV.out, Hgood.out]; simpa using hlF)
              subst hRR
              go_wp2_with fail
              refine (HF1.out _ A3 c3 (hb0.trans (hbY.mono hb0.size)) (by trivial) (Sl.of_own ho3')).mono ?_
              rintro e w4 ⟨rfl, hb4⟩
              have hoR := own_base (own_next ho2' hb4) (Nat.le_trans hb0.size hbw.size)
              have hbZ := hbY.trans (hb4.mono hbY.size)
              go_wp2_with fail
              go_ret2
              exact ⟨_, rfl, fun r hr => by injection hr with hr; subst hr; exact ⟨g, c2, rfl, hoR⟩, hb0.trans (hbZ.mono hb0.size)⟩
            · go_wp2_with fail
              refine (HF1.out _ A3 c3 (hb0.trans (hbY.mono hb0.size)) (by trivial) (Sl.of_own ho3')).mono ?_
              rintro e w4 ⟨rfl, hb4⟩
              have hbZ := hbY.trans (hb4.mono hbY.size)
              go_wp2_with fail
              go_roundw
              case rel => exact ⟨k + 1, by omega, by go_num, Lib.hid (firstN_next Hk.out (by rw [HV.out, Hgood.out]; simpa using hlF)), hbZ⟩
              case measure => simp [intOf]; omega
        · obtain rfl : k = n := by omega
          go_wp2_with fail
          go_roundw
          case rel => exact ⟨i + 1, by omega, by go_num, Lib.hid (firstN_next Hi.out (rowV_none (by rw [Hl.out]; exact Hk.out))), hbw⟩
          case measure => simp [intOf]; omega
    · obtain rfl : i = n := by omega
      have hRR : R = none := by rw [← HR.out]; exact betV_none (by rw [Hl.out]; exact Hi.out)
      subst hRR
      go_wp2_with fail
      go_ret2
      exact ⟨_, rfl, (fun r hr => nomatch hr), hb0.trans (hbw.mono hb0.size)⟩
/-- The order that ImproveVoyage gives. -/
noncomputable def impL (s : Sh) (zs : List Wk) (p : VSt) (ks : List Int) : List Int := bif decide (vendK s zs p ks = 0) then impV s zs p ks else []
theorem vend_ok {s : Sh} {zs : List Wk} {p : VSt} {ks : List Int} (h : vendK s zs p ks = 0) : VOk s zs p ks ∧ voyK s zs p ks = 0 ∧ okV s zs p ks = true ∧ loadV zs ks ≤ s.ld ∧ vendT s zs p ks = endV s zs p ks := by
  have h0 : askK s zs p ks = 0 := by
    unfold vendK at h
    by_cases h0 : askK s zs p ks = 0
    · exact h0
    · rw [decide_eq_false h0] at h; exact absurd h h0
  have h1 : voyK s zs p ks = 0 := by
    unfold vendK at h
    rw [decide_eq_true h0] at h
    exact h
  refine ⟨VOk.of_ask h0, h1, ?_, ?_, by rw [vendT, h]; rfl⟩
  · rw [voyK] at h1
    cases h2 : decide (s.ld < loadV zs ks)
    · rw [h2] at h1
      cases h3 : okV s zs p ks
      · rw [h3] at h1; cases h1
      · rfl
    · rw [h2] at h1; cases h1
  · rw [voyK] at h1
    cases h2 : decide (s.ld < loadV zs ks)
    · have := of_decide_eq_false h2; omega
    · rw [h2] at h1; cases h1
set_option maxRecDepth 100000 in
set_option maxHeartbeats 4000000 in
theorem specImprove_c (s : Sh) (x y t : Int) (AZ : Option Addr) (N cZ : Nat) (zs : List Wk) (A : Option Addr) (n c : Nat) (xs : List Int) (w : World) (hs : s.name.size ≤ maxLen) (hz : Sl w w.heap.size 7 AZ N (zs.flatMap Wk.cells)) (hN : N ≤ 1048576) (hns : ∀ z ∈ zs, z.name.size ≤ maxLen)
    (h : Sl w w.heap.size 1 A n (xs.flatMap intC)) (hm : n ≤ 1048576) (hnc : n ≤ c) :
    Calls Try.prog 26 #[s.val, ptV x y, .slice AZ N cZ, .slice A n c, .int .i64 t] w fun e w' => ∃ v, e = .returned (.tuple #[v, .int .i64 (vendK s zs ⟨t, x, y⟩ xs)]) ∧ w'.ownsRow w.heap.size 2 1 v (impL s zs ⟨t, x, y⟩ xs).length ((impL s zs ⟨t, x, y⟩ xs).flatMap intC) ∧ Below w.heap.size w w' := by
  have hl := h.len intC 1 intC_len (by omega)
  have hb0 : Below w.heap.size w ((w.alloc (shO s 32)).alloc (ptO x y 34)) := by (repeat (first | (with_reducible assumption) | (with_reducible exact Below.refl _ _) | exact Nat.le_refl _ | exact Below.size (by with_reducible assumption) | (with_reducible refine Below.drew ?_) | (with_reducible refine below_drewN ?_ _) | (with_reducible refine Below.alloc ?_ ?_ _) | (with_reducible refine Below.setCell ?_ ?_ _) | (with_reducible refine le_alloc ?_ _) | (with_reducible refine le_set ?_ _ _) | (with_reducible refine le_drew ?_) | (with_reducible refine le_drewN ?_ _) | omega | (dsimp only; omega)))
  have g1 := (ShP.box w s 32).next (w' := (w.alloc (shO s 32)).alloc (ptO x y 34)) (by (repeat (first | (with_reducible assumption) | (with_reducible exact Below.refl _ _) | exact Nat.le_refl _ | exact Below.size (by with_reducible assumption) | (with_reducible refine Below.drew ?_) | (with_reducible refine below_drewN ?_ _) | (with_reducible refine Below.alloc ?_ ?_ _) | (with_reducible refine Below.setCell ?_ ?_ _) | (with_reducible refine le_alloc ?_ _) | (with_reducible refine le_set ?_ _ _) | (with_reducible refine le_drew ?_) | (with_reducible refine le_drewN ?_ _) | omega | (dsimp only; omega))))
  have hsz : (w.alloc (shO s 32)).heap.size = w.heap.size + 1 := by simp
  have p1 := PtP.box (w.alloc (shO s 32)) x y
  rw [hsz] at p1
  obtain ⟨w0, hw⟩ : ∃ w0, (w.alloc (shO s 32)).alloc (ptO x y 34) = w0 := ⟨_, rfl⟩
  rw [hw] at hb0 g1 p1
  have hV := specVoyageEnd_c s x y t AZ N cZ zs A n c xs w0 hs (hz.next hb0) hN hns (h.next hb0) hm hnc
  obtain ⟨K, hK⟩ : ∃ K, vendK s zs ⟨t, x, y⟩ xs = K := ⟨_, rfl⟩
  rw [hK] at hV ⊢
  by_cases hK0 : K = 0
  · subst hK0
    obtain ⟨hv, _, hok, hld, hvt⟩ := vend_ok hK
    have hiL : impL s zs ⟨t, x, y⟩ xs = impV s zs ⟨t, x, y⟩ xs := by rw [impL, hK]; rfl
    rw [hvt] at hV
    rw [hiL]
    have hBt : ∀ w1 A1 c1 ks, Below w0.heap.size w0 w1 → VOk s zs ⟨t, x, y⟩ ks → Sl w1 w1.heap.size 1 A1 n (ks.flatMap intC) → n ≤ c1 → Calls Try.prog 52 #[.pointer (some ⟨w.heap.size, 0, none⟩), ptV x y, .slice AZ N cZ, .slice A1 n c1, .int .i64 t, .int .i64 (endV s zs ⟨t, x, y⟩ ks)] w1 fun e w' => ∃ v, e = .returned (.tuple #[v, .bool (betV s zs ⟨t, x, y⟩ ks).isSome]) ∧ (∀ r, betV s zs ⟨t, x, y⟩ ks = some r → ∃ g c', v = .slice (some ⟨g, 0, none⟩) n c' ∧ w'.ownsRow w1.heap.size 2 1 v n (r.flatMap intC)) ∧ Below w1.heap.size w1 w' := fun w1 A1 c1 ks hb hv1 h1 hc1 => l27Better_c w.heap.size s x y t AZ N cZ zs A1 n c1 ks w1 (g1.next hb) (hz.next (hb0.trans (hb.mono hb0.size))) h1 hm hc1 hv1
    have hCl : ∀ w1 A1 c1 ks, Below w0.heap.size w0 w1 → VOk s zs ⟨t, x, y⟩ ks → Sl w1 w1.heap.size 1 A1 n (ks.flatMap intC) → Calls Try.prog 49 #[.pointer (some ⟨w.heap.size, 0, none⟩), ptV x y, .slice AZ N cZ, .slice A1 n c1, .int .i64 t] w1 fun e w' => ∃ v, e = .returned (.tuple #[v, .bool (okV s zs ⟨t, x, y⟩ ks)]) ∧ (okV s zs ⟨t, x, y⟩ ks = true → w'.ownsRow w1.heap.size 77 4 v n ((callsV s zs ⟨t, x, y⟩ ks).flatMap Cl.cells)) ∧ Below w1.heap.size w1 w' := fun w1 A1 c1 ks hb hv1 h1 => l25Calls_c w.heap.size s x y t AZ N cZ zs A1 n c1 ks w1 (g1.next hb) (hz.next (hb0.trans (hb.mono hb0.size))) h1 hm hv1
    have hEn : ∀ w1 A1 c1 ks, Below w0.heap.size w0 w1 → VOk s zs ⟨t, x, y⟩ ks → okV s zs ⟨t, x, y⟩ ks = true → Sl w1 w1.heap.size 4 A1 n ((callsV s zs ⟨t, x, y⟩ ks).flatMap Cl.cells) → Calls Try.prog 50 #[.pointer (some ⟨w.heap.size, 0, none⟩), ptV x y, .slice AZ N cZ, .slice A1 n c1, .int .i64 t] w1 fun e w' => e = .returned (.int .i64 (endV s zs ⟨t, x, y⟩ ks)) ∧ Below w1.heap.size w1 w' := fun w1 A1 c1 ks hb hv1 h2 h1 => l25End_c w.heap.size s x y t AZ N cZ zs A1 n c1 ks w1 (g1.next hb) (hz.next (hb0.trans (hb.mono hb0.size))) h1 hm hv1 h2
    have hO : ∀ w1, Below w0.heap.size w0 w1 → Calls Try.prog 51 #[.slice A n c] w1 fun e w' => ∃ g c', e = .returned (.slice (some ⟨g, 0, none⟩) n c') ∧ w'.ownsRow w1.heap.size 2 1 (.slice (some ⟨g, 0, none⟩) n c') n (xs.flatMap intC) ∧ Below w1.heap.size w1 w' := fun w1 hb => l00Own_c A n c xs w1 (h.next (hb0.trans (hb.mono hb0.size))) hm
    obtain ⟨d0, d1, hp1⟩ := p1
    obtain ⟨c0, c1, c2, c3, hg⟩ := g1
    have HX : Hid (xs.length = n ∧ VOk s zs ⟨t, x, y⟩ xs ∧ okV s zs ⟨t, x, y⟩ xs = true) := Lib.hid ⟨hl, hv, hok⟩
    obtain ⟨FIN, hFIN⟩ : ∃ FIN, impV s zs ⟨t, x, y⟩ xs = FIN := ⟨_, rfl⟩
    obtain ⟨E0, hE0⟩ : ∃ E0, endV s zs ⟨t, x, y⟩ xs = E0 := ⟨_, rfl⟩
    rw [hE0] at hV
    rw [hFIN]
    have HBt := Lib.hid hBt; clear hBt
    have HCl := Lib.hid hCl; clear hCl
    have HEn := Lib.hid hEn; clear hEn
    have HO := Lib.hid hO; clear hO
    have HFIN := Lib.hid hFIN; clear hFIN
    have HE0 := Lib.hid hE0; clear hE0
    clear hv hok hld hvt hl hK hz h hsz hiL
    go_enter Try.func26, Try.ntmps26
    go_wp2_with fail
    try rw [hw]
    clear hw
    refine hV.mono ?_
    rintro e w1 ⟨rfl, hb1⟩
    clear hV
    have v0 := (keepC hb1 (w.heap.size + 1) hp1 0).trans d0
    have v1 := (keepC hb1 (w.heap.size + 1) hp1 1).trans d1
    go_wp2_with fail
    refine (HO.out _ hb1).mono ?_
    rintro e w2 ⟨g2, c2', rfl, ho2, hb2⟩
    have hb12 := hb1.trans (hb2.mono hb1.size)
    replace ho2 := own_base ho2 hb1.size
    clear v0 v1 hb1 hb2 c0 c1 c2 c3
    go_wp2_with fail
    go_loopw [12, 14] (fun e o wr => ∃ (ks : List Int) (E : Int) (g co : Nat), e = .int .i64 E ∧ o = .slice (some ⟨g, 0, none⟩) n co ∧ 0 ≤ E ∧ Hid (VOk s zs ⟨t, x, y⟩ ks ∧ okV s zs ⟨t, x, y⟩ ks = true ∧ endV s zs ⟨t, x, y⟩ ks = E ∧ ks.length = n ∧ impV s zs ⟨t, x, y⟩ ks = FIN) ∧ wr.ownsRow w0.heap.size 2 1 (.slice (some ⟨g, 0, none⟩) n co) n (ks.flatMap intC) ∧ Below w0.heap.size w0 wr) (fun e _ _ => (intOf e).toNat)
    case atStart =>
      have hEb := HX.out.2.1.end_ HX.out.2.2
      exact ⟨xs, E0, g2, c2', rfl, rfl, by rw [← HE0.out]; exact hEb.1, Lib.hid ⟨HX.out.2.1, HX.out.2.2, HE0.out, HX.out.1, HFIN.out⟩, ho2, hb12⟩
    case round =>
      clear ho2 hb12
      obtain ⟨ks, E, g, co, rfl, rfl, hE00, HKs, ho, hbw⟩ := hrel
      have q0 := (keepC hbw (w.heap.size + 1) hp1 0).trans d0
      have q1 := (keepC hbw (w.heap.size + 1) hp1 1).trans d1
      have hpw := Nat.lt_of_lt_of_le hp1 hbw.size
      have hB1 := HBt.out wr (some ⟨g, 0, none⟩) co ks hbw HKs.out.1 (Sl.of_own ho) (own_row ho).2.2
      rw [HKs.out.2.2.1] at hB1
      obtain ⟨R, hR⟩ : ∃ R, betV s zs ⟨t, x, y⟩ ks = R := ⟨_, rfl⟩
      rw [hR] at hB1
      have HR := Lib.hid hR; clear hR
      go_wp2_with fail
      refine hB1.mono ?_
      rintro e w3 ⟨v3, rfl, ho3, hb3⟩
      clear hB1
      have u0 := (keepC hb3 (w.heap.size + 1) hpw 0).trans q0
      have u1 := (keepC hb3 (w.heap.size + 1) hpw 1).trans q1
      have hp3 := Nat.lt_of_lt_of_le hpw hb3.size
      have hbX := hbw.trans (hb3.mono hbw.size)
      clear q0 q1
      cases R with
      | none =>
        have hFk : FIN = ks := HKs.out.2.2.2.2.symm.trans (impV_end HR.out)
        subst hFk
        have hoF := own_next ho hb3
        have hlen := HKs.out.2.2.2.1
        have Hlen := Lib.hid hlen; clear hlen
        clear ho3
        go_wp2_with fail
        go_ret2
        exact ⟨_, rfl, by rw [Hlen.out]; exact own_base hoF hb0.size, hb0.trans (hbX.mono hb0.size)⟩
      | some r =>
        obtain ⟨g4, c4, rfl, ho4⟩ := ho3 r rfl
        clear ho3
        obtain ⟨k1, k2, k3, k4, k5⟩ := HKs.out
        obtain ⟨b1, b2, b3, b4, b5⟩ := k1.bet HR.out
        have hfin := (impV_next k1 k2 HR.out).symm.trans k5
        have hEr := b1.end_ b4
        rw [k3] at b5
        have hC1 := HCl.out w3 (some ⟨g4, 0, none⟩) c4 r hbX b1 (Sl.of_own ho4)
        rw [b4] at hC1
        have hF1 := fun w1 A1 c1 hb => HEn.out w1 A1 c1 r hb b1 b4
        obtain ⟨E', hE'⟩ : ∃ E', endV s zs ⟨t, x, y⟩ r = E' := ⟨_, rfl⟩
        obtain ⟨CS, hCS⟩ : ∃ CS, callsV s zs ⟨t, x, y⟩ r = CS := ⟨_, rfl⟩
        rw [hE', hCS] at hF1
        rw [hCS] at hC1
        rw [hE'] at b5 hEr
        have HNx : Hid (VOk s zs ⟨t, x, y⟩ r ∧ okV s zs ⟨t, x, y⟩ r = true ∧ endV s zs ⟨t, x, y⟩ r = E' ∧ r.length = n ∧ impV s zs ⟨t, x, y⟩ r = FIN) := Lib.hid ⟨b1, b4, hE', b2.trans k4, hfin⟩
        have HF1 := Lib.hid hF1; clear hF1
        clear k1 k2 k3 k4 k5 b1 b2 b3 b4 hfin hCS hE'
        go_wp2_with fail
        refine hC1.mono ?_
        rintro e w4 ⟨v4, rfl, ho5, hb4⟩
        clear hC1
        have ho5 := ho5 (by trivial)
        have t0 := (keepC hb4 (w.heap.size + 1) hp3 0).trans u0
        have t1 := (keepC hb4 (w.heap.size + 1) hp3 1).trans u1
        have hbY := hbX.trans (hb4.mono hbX.size)
        replace ho4 := own_next ho4 hb4
        obtain ⟨A5, c5, rfl⟩ := own_slice ho5
        have hF2 := HF1.out w4 A5 c5 hbY (Sl.of_own ho5)
        clear u0 u1
        go_wp2_with fail
        refine hF2.mono ?_
        rintro e w5 ⟨rfl, hb5⟩
        have hbZ := hbY.trans (hb5.mono hbY.size)
        replace ho4 := own_next ho4 hb5
        clear hF2
        go_wp2_with fail
        go_roundw
        case rel => exact ⟨r, E', g4, c4, rfl, rfl, hEr.1, HNx, own_base ho4 hbw.size, hbZ⟩
        case measure => simp [intOf]; omega
  · have hiL : impL s zs ⟨t, x, y⟩ xs = [] := by rw [impL, hK, decide_eq_false hK0]; rfl
    have hKn : (K == 0) = false := by simpa using hK0
    rw [hiL]
    obtain ⟨T0, hT0⟩ : ∃ T0, vendT s zs ⟨t, x, y⟩ xs = T0 := ⟨_, rfl⟩
    rw [hT0] at hV
    obtain ⟨d0, d1, hp1⟩ := p1
    obtain ⟨c0, c1, c2, c3, hg⟩ := g1
    clear hK hl hiL hT0
    go_enter Try.func26, Try.ntmps26
    go_wp2_with fail
    try rw [hw]
    clear hw
    refine hV.mono ?_
    rintro e w1 ⟨rfl, hb1⟩
    go_wp2_with fail
    go_ret2
    exact ⟨_, rfl, World.ownsRow_nil _ _ _ _, hb0.trans (hb1.mono hb0.size)⟩
end Go.Proofs.Ytgkdjohiclhcoaa
