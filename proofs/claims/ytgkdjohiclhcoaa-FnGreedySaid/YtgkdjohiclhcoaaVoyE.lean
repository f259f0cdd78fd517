/- VoyageEnd: the reference. -/
import Derived.Test.YtgkdjohiclhcoaaVoyS2
namespace Go.Proofs.Ytgkdjohiclhcoaa
open Go.RowKit
theorem sask_ok {s : Sh} {zs : List Wk} {p : VSt} {ks : List Int} (h : saskK s zs p ks = 0) : askK s zs p ks = 0 ∧ voyK s zs p ks = (bif okV s zs p ks then 0 else 6) := by
  unfold saskK at h
  by_cases h0 : askK s zs p ks = 0
  · refine ⟨h0, ?_⟩
    rw [decide_eq_true h0] at h
    simp only [cond_true] at h
    cases h1 : decide (s.ld < loadV zs ks)
    · rw [voyK, h1]; rfl
    · rw [h1] at h; cases h
  · rw [decide_eq_false h0] at h
    simp only [cond_false] at h
    exact absurd h h0
theorem sask_no {s : Sh} {zs : List Wk} {p : VSt} {ks : List Int} (h : ¬ saskK s zs p ks = 0) : vendK s zs p ks = saskK s zs p ks := by
  unfold saskK at h ⊢
  unfold vendK
  by_cases h0 : askK s zs p ks = 0
  · rw [decide_eq_true h0] at h ⊢
    simp only [cond_true] at h ⊢
    cases h1 : decide (s.ld < loadV zs ks)
    · rw [h1] at h; exact absurd rfl h
    · rw [voyK, h1]; rfl
  · rw [decide_eq_false h0]; rfl
set_option maxRecDepth 100000 in
set_option maxHeartbeats 2000000 in
theorem specVoyageEnd_c (s : Sh) (x y t : Int) (AZ : Option Addr) (N cZ : Nat) (zs : List Wk) (A : Option Addr) (n c : Nat) (xs : List Int) (w : World) (hs : s.name.size ≤ maxLen) (hz : Sl w w.heap.size 7 AZ N (zs.flatMap Wk.cells)) (hN : N ≤ 1048576) (hns : ∀ z ∈ zs, z.name.size ≤ maxLen)
    (h : Sl w w.heap.size 1 A n (xs.flatMap intC)) (hm : n ≤ 1048576) (hnc : n ≤ c) :
    Calls Try.prog 24 #[s.val, ptV x y, .slice AZ N cZ, .slice A n c, .int .i64 t] w fun e w' => e = .returned (.tuple #[.int .i64 (vendT s zs ⟨t, x, y⟩ xs), .int .i64 (vendK s zs ⟨t, x, y⟩ xs)]) ∧ Below w.heap.size w w' := by
  have hb0 : Below w.heap.size w ((w.alloc (shO s 32)).alloc (ptO x y 34)) := by (repeat (first | (with_reducible assumption) | (with_reducible exact Below.refl _ _) | exact Nat.le_refl _ | exact Below.size (by with_reducible assumption) | (with_reducible refine Below.drew ?_) | (with_reducible refine below_drewN ?_ _) | (with_reducible refine Below.alloc ?_ ?_ _) | (with_reducible refine Below.setCell ?_ ?_ _) | (with_reducible refine le_alloc ?_ _) | (with_reducible refine le_set ?_ _ _) | (with_reducible refine le_drew ?_) | (with_reducible refine le_drewN ?_ _) | omega | (dsimp only; omega)))
  have g1 := (ShP.box w s 32).next (w' := (w.alloc (shO s 32)).alloc (ptO x y 34)) (by (repeat (first | (with_reducible assumption) | (with_reducible exact Below.refl _ _) | exact Nat.le_refl _ | exact Below.size (by with_reducible assumption) | (with_reducible refine Below.drew ?_) | (with_reducible refine below_drewN ?_ _) | (with_reducible refine Below.alloc ?_ ?_ _) | (with_reducible refine Below.setCell ?_ ?_ _) | (with_reducible refine le_alloc ?_ _) | (with_reducible refine le_set ?_ _ _) | (with_reducible refine le_drew ?_) | (with_reducible refine le_drewN ?_ _) | omega | (dsimp only; omega))))
  have hsz : (w.alloc (shO s 32)).heap.size = w.heap.size + 1 := by simp
  have p1 := PtP.box (w.alloc (shO s 32)) x y
  rw [hsz] at p1
  obtain ⟨w0, hw⟩ : ∃ w0, (w.alloc (shO s 32)).alloc (ptO x y 34) = w0 := ⟨_, rfl⟩
  rw [hw] at hb0 g1 p1
  have hC : ∀ w1, Below w0.heap.size w0 w1 → Calls Try.prog 48 #[.pointer (some ⟨w.heap.size, 0, none⟩), ptV x y, .slice AZ N cZ, .slice A n c, .int .i64 t] w1 fun e w' => e = .returned (.int .i64 (saskK s zs ⟨t, x, y⟩ xs)) ∧ Below w1.heap.size w1 w' := fun w1 hb => l25Ask_c w.heap.size s x y t AZ N cZ zs A n c xs w1 (g1.next hb) hs (hz.next (hb0.trans (hb.mono hb0.size))) hN hns (h.next (hb0.trans (hb.mono hb0.size))) hm hnc
  have hE : ∀ w1, Below w0.heap.size w0 w1 → askK s zs ⟨t, x, y⟩ xs = 0 → Calls Try.prog 49 #[.pointer (some ⟨w.heap.size, 0, none⟩), ptV x y, .slice AZ N cZ, .slice A n c, .int .i64 t] w1 fun e w' => ∃ v, e = .returned (.tuple #[v, .bool (okV s zs ⟨t, x, y⟩ xs)]) ∧ (okV s zs ⟨t, x, y⟩ xs = true → w'.ownsRow w1.heap.size 77 4 v n ((callsV s zs ⟨t, x, y⟩ xs).flatMap Cl.cells)) ∧ Below w1.heap.size w1 w' := fun w1 hb h0 => l25Calls_c w.heap.size s x y t AZ N cZ zs A n c xs w1 (g1.next hb) (hz.next (hb0.trans (hb.mono hb0.size))) (h.next (hb0.trans (hb.mono hb0.size))) hm (VOk.of_ask h0)
  have hF : ∀ w1 A1 c1, Below w0.heap.size w0 w1 → askK s zs ⟨t, x, y⟩ xs = 0 → okV s zs ⟨t, x, y⟩ xs = true → Sl w1 w1.heap.size 4 A1 n ((callsV s zs ⟨t, x, y⟩ xs).flatMap Cl.cells) → Calls Try.prog 50 #[.pointer (some ⟨w.heap.size, 0, none⟩), ptV x y, .slice AZ N cZ, .slice A1 n c1, .int .i64 t] w1 fun e w' => e = .returned (.int .i64 (endV s zs ⟨t, x, y⟩ xs)) ∧ Below w1.heap.size w1 w' := fun w1 A1 c1 hb h0 h1 h2 => l25End_c w.heap.size s x y t AZ N cZ zs A1 n c1 xs w1 (g1.next hb) (hz.next (hb0.trans (hb.mono hb0.size))) h2 hm (VOk.of_ask h0) h1
  obtain ⟨d0, d1, hp1⟩ := p1
  clear hsz g1 hz h
  obtain ⟨K, hK⟩ : ∃ K, saskK s zs ⟨t, x, y⟩ xs = K := ⟨_, rfl⟩
  rw [hK] at hC
  have HC := Lib.hid hC; clear hC
  by_cases hK0 : K = 0
  · subst hK0
    obtain ⟨hA0, hVK⟩ := sask_ok hK
    have hvK : vendK s zs ⟨t, x, y⟩ xs = bif okV s zs ⟨t, x, y⟩ xs then 0 else 6 := by rw [vendK, decide_eq_true hA0, hVK]; rfl
    have hvT : vendT s zs ⟨t, x, y⟩ xs = bif okV s zs ⟨t, x, y⟩ xs then endV s zs ⟨t, x, y⟩ xs else 0 := by
      rw [vendT, hvK]
      cases okV s zs ⟨t, x, y⟩ xs <;> rfl
    rw [hvK, hvT]
    have hE := fun w1 hb => hE w1 hb hA0
    have hF := fun w1 A1 c1 hb => hF w1 A1 c1 hb hA0
    clear hvK hvT hVK hA0 hK
    generalize okV s zs ⟨t, x, y⟩ xs = R at *
    generalize endV s zs ⟨t, x, y⟩ xs = E at *
    generalize callsV s zs ⟨t, x, y⟩ xs = cs at *
    have HE := Lib.hid hE; clear hE
    have HF := Lib.hid hF; clear hF
    go_enter Try.func24, Try.ntmps24
    go_wp2_with fail
    try rw [hw]
    clear hw
    refine (HC.out _ (Below.refl _ _)).mono ?_
    rintro e w1 ⟨rfl, hb1⟩
    have t0 := (keepC hb1 (w.heap.size + 1) hp1 0).trans d0
    have t1 := (keepC hb1 (w.heap.size + 1) hp1 1).trans d1
    have hp2 := Nat.lt_of_lt_of_le hp1 hb1.size
    clear d0 d1
    go_wp2_with fail
    refine (HE.out _ hb1).mono ?_
    rintro e w2 ⟨v, rfl, ho, hb2⟩
    have u0 := (keepC hb2 (w.heap.size + 1) hp2 0).trans t0
    have u1 := (keepC hb2 (w.heap.size + 1) hp2 1).trans t1
    replace hb2 := hb1.trans (hb2.mono hb1.size)
    clear t0 t1
    cases R
    · go_wp2_with fail
      go_ret2
      exact ⟨rfl, hb0.trans (hb2.mono hb0.size)⟩
    · have ho1 := ho (by trivial)
      clear ho
      obtain ⟨A1, c1, rfl⟩ := own_slice ho1
      go_wp2_with fail
      refine (HF.out _ A1 c1 hb2 (by trivial) (Sl.of_own ho1)).mono ?_
      rintro e w3 ⟨rfl, hb3⟩
      go_wp2_with fail
      go_ret2
      exact ⟨rfl, hb0.trans ((hb2.trans (hb3.mono hb2.size)).mono hb0.size)⟩
  · have hv := sask_no (s := s) (zs := zs) (p := ⟨t, x, y⟩) (ks := xs) (by rw [hK]; exact hK0)
    have hvT : vendT s zs ⟨t, x, y⟩ xs = 0 := by rw [vendT, hv, hK, decide_eq_false hK0]; rfl
    rw [hvT, hv, hK]
    have hKn : (K == 0) = false := by simpa using hK0
    clear hE hF hv hvT hK
    go_enter Try.func24, Try.ntmps24
    go_wp2_with fail
    try rw [hw]
    clear hw
    refine (HC.out _ (Below.refl _ _)).mono ?_
    rintro e w1 ⟨rfl, hb1⟩
    go_wp2_with fail
    go_ret2
    exact ⟨rfl, hb0.trans (hb1.mono hb0.size)⟩
end Go.Proofs.Ytgkdjohiclhcoaa
