
/- Recognition: the reference: whether a character has a pattern. -/
import Derived.Test.YtgibbhipjpbdfaaRcSG
import Derived.IntWalk
namespace Go.Proofs.Ytgibbhipjpbdfaa
open Go.RowKit
theorem fit_yes {x : Ch} {L : List Int} (hv : validB x = true) (hL : 1 ≤ L.length) (hp : primB L) (hd : (tenC (phasesL x x.cs)).length % L.length = 0) {s : Nat} (hs : s < L.length) (h : ∀ i, i < (tenC (phasesL x x.cs)).length → (tenC (phasesL x x.cs))[i]? = L[(i + s) % L.length]?) : fitC L x = true :=
  fitC_iff.2 ⟨hv, (rep_norm (own_pos hv _) hL hp).1 ⟨s, hs, hL, hd, h⟩⟩
theorem fit_no {x : Ch} {L : List Int} (hL : 1 ≤ L.length) (hp : primB L) (h : ∀ s, s < L.length → ¬ Rep (tenC (phasesL x x.cs)) L s) : fitC L x = false := by
  cases hf : fitC L x
  · rfl
  · obtain ⟨s, hs, hr⟩ := (fitC_iff.1 hf).rep hL hp
    exact absurd hr (h s hs)
theorem wrap_nat {a : Nat} {X : Int} (h : (a : Int) = X) (hb : a ≤ 100000 * 600) : wrap64 X = X := IntWalk.wrap64_in _ (by omega)
set_option maxRecDepth 100000 in
set_option maxHeartbeats 4000000 in
theorem l06Fits_c (b off : Nat) (A : Option Addr) (n1 c1 : Nat) (x : Ch) (A2 : Option Addr) (n c2 : Nat) (L : List Int) (w : World) (h : ChP w b off A n1 c1 x) (h2 : Sl w w.heap.size 1 A2 n (L.flatMap u8C)) (hn : 1 ≤ n) (hn6 : n ≤ 600) (hp : primB L) :
    Calls Try.prog 27 #[.pointer (some ⟨b, off, none⟩), .slice A2 n c2] w fun e w' => e = .returned (.bool (fitC L x)) ∧ Below w.heap.size w w' := by
  have hl : L.length = n := h2.len u8C 1 u8C_len (by omega)
  have hO : Calls Try.prog 50 #[.pointer (some ⟨b, off, none⟩)] w fun e w' => e = .returned (.bool (validB x)) ∧ Below w.heap.size w w' := l05Ok_c b off A n1 c1 x w h
  cases hv : validB x
  · have hf : fitC L x = false := by rw [fitC, hv]; rfl
    rw [hf]
    rw [hv] at hO
    have HO := Lib.hid hO; clear hO
    have HF := Lib.hid hf; clear hf
    have Hl := Lib.hid hl; clear hl
    clear hp
    go_enter Try.func27, Try.ntmps27
    go_wp2_with fail
    refine HO.out.mono ?_
    rintro e w1 ⟨rfl, hb1⟩
    go_wp2_with fail
    go_ret
    exact ⟨rfl, hb1⟩
  rw [hv] at hO
  have hLp : 1 ≤ L.length := by omega
  have hpos := own_pos hv x.cs
  have hbd := phases_bd (co := x.cs) hv
  have hnl := phases_len (co := x.cs) (valid_shape hv)
  have hOl := tenC_len hbd
  have hyes := fun hd s hs hh => fit_yes (x := x) hv hLp hp hd (s := s) hs hh
  have hno := fit_no (x := x) hLp hp
  have hPh : ∀ w1, Below w.heap.size w w1 → Calls Try.prog 53 #[.pointer (some ⟨b, off, none⟩), .string x.cs] w1 fun e w' => ∃ A c, e = .returned (.slice A (phasesL x x.cs).length c) ∧ Sl w' w'.heap.size 2 A (phasesL x x.cs).length ((phasesL x x.cs).flatMap Ph.cells) ∧ Below w1.heap.size w1 w' := fun w1 hb => by
    refine (l05Phases_c b off A n1 c1 x x.cs w1 (h.next hb) hv).mono ?_
    rintro e w' ⟨v, rfl, ho, hb'⟩
    obtain ⟨A', c', rfl⟩ := own_slice ho
    exact ⟨A', c', rfl, Sl.of_own ho, hb'⟩
  have hTn : ∀ A c w1, Sl w1 w1.heap.size 2 A (phasesL x x.cs).length ((phasesL x x.cs).flatMap Ph.cells) → Calls Try.prog 62 #[.slice A (phasesL x x.cs).length c] w1 fun e w' => ∃ A' c', e = .returned (.slice A' (tenC (phasesL x x.cs)).length c') ∧ Sl w' w'.heap.size 1 A' (tenC (phasesL x x.cs)).length ((tenC (phasesL x x.cs)).flatMap u8C) ∧ Below w1.heap.size w1 w' := fun A c w1 sl => by
    refine (l06Tenths_c A _ c (phasesL x x.cs) w1 sl (by omega) hbd).mono ?_
    rintro e w' ⟨v, rfl, ho, hb'⟩
    obtain ⟨A', c', rfl⟩ := own_slice ho
    exact ⟨A', c', rfl, Sl.of_own ho, hb'⟩
  obtain ⟨O, hOe⟩ : ∃ O, tenC (phasesL x x.cs) = O := ⟨_, rfl⟩
  rw [hOe] at hpos hOl hyes hno hTn
  obtain ⟨m, hm⟩ : ∃ m, O.length = m := ⟨_, rfl⟩
  rw [hm] at hpos hOl hyes hTn
  rw [hl] at hyes hno
  have hm6 : m ≤ 100000 := by omega
  have hlit : litN O * n ≠ litN L * m → ∀ s, s < n → ¬ Rep O L s := fun h s hs hr => by
    have := rep_lit hr
    rw [hl, hm] at this
    exact h this
  have hmd : m % n ≠ 0 → ∀ s, s < n → ¬ Rep O L s := fun h s hs hr => by
    have := hr.dvd
    rw [hl, hm] at this
    exact h this
  have hat : ∀ s, (∃ r, r < m ∧ O[r]? ≠ L[(r + s) % n]?) → ¬ Rep O L s := fun s ⟨r, hr1, hr2⟩ hr => by
    have := hr.at' r (by omega)
    rw [hl] at this
    exact hr2 this
  have hLi : ∀ A c w1, Sl w1 w1.heap.size 1 A m (O.flatMap u8C) → Calls Try.prog 64 #[.slice A m c] w1 fun e w' => e = .returned (.int .i64 (litN O : Nat)) ∧ w1 = w' := fun A c w1 sl => l06Lit_c A m c O w1 sl (by omega)
  have hLj : ∀ w1, Below w.heap.size w w1 → Calls Try.prog 64 #[.slice A2 n c2] w1 fun e w' => e = .returned (.int .i64 (litN L : Nat)) ∧ w1 = w' := fun w1 hb => l06Lit_c A2 n c2 L w1 (h2.next hb) (by omega)
  have hl1 := litN_le O
  have hl2 := litN_le L
  obtain ⟨l1, hl1e⟩ : ∃ l1, litN O = l1 := ⟨_, rfl⟩
  obtain ⟨l2, hl2e⟩ : ∃ l2, litN L = l2 := ⟨_, rfl⟩
  rw [hl1e] at hl1 hLi hlit
  rw [hl2e] at hl2 hLj hlit
  rw [hm] at hl1
  rw [hl] at hl2
  obtain ⟨PN, hPN⟩ : ∃ PN, (phasesL x x.cs).length = PN := ⟨_, rfl⟩
  rw [hPN] at hPh hTn
  obtain ⟨PF, hPF⟩ : ∃ PF, (phasesL x x.cs).flatMap Ph.cells = PF := ⟨_, rfl⟩
  rw [hPF] at hPh hTn
  obtain ⟨F, hF⟩ : ∃ F, fitC L x = F := ⟨_, rfl⟩
  rw [hF] at hyes hno ⊢
  obtain ⟨d0, d1, d2, d3, d4, hbb, _, _, _, _⟩ := h
  have hw1 : l1 * n ≤ 100000 * 600 := Nat.mul_le_mul (by omega) hn6
  have hw2 : l2 * m ≤ 100000 * 600 := by rw [Nat.mul_comm]; exact Nat.mul_le_mul hm6 (by omega)
  clear hv hbd hnl hOl hOe hl1e hl2e hPN hPF hF hp hLp
  have HO := Lib.hid hO; clear hO
  have HPh := Lib.hid hPh; clear hPh
  have HTn := Lib.hid hTn; clear hTn
  have HLi := Lib.hid hLi; clear hLi
  have HLj := Lib.hid hLj; clear hLj
  have HYes := Lib.hid hyes; clear hyes
  have HNo := Lib.hid hno; clear hno
  have HLit := Lib.hid hlit; clear hlit
  have HMd := Lib.hid hmd; clear hmd
  have HAt := Lib.hid hat; clear hat
  have Hm := Lib.hid hm; clear hm
  have Hl := Lib.hid hl; clear hl
  go_enter Try.func27, Try.ntmps27
  go_wp2_with fail
  refine HO.out.mono ?_
  rintro e w1 ⟨rfl, hb1⟩
  have q1 := keepC hb1 b hbb
  go_wp2_with fail
  refine (HPh.out _ hb1).mono ?_
  rintro e w2 ⟨A5, c5, rfl, sl5, hb2⟩
  go_wp2_with fail
  refine (HTn.out A5 c5 _ sl5).mono ?_
  rintro e w7 ⟨A6, c6, rfl, sl6, hb6⟩
  have hb7 := (hb1.trans (hb2.mono hb1.size)).trans (hb6.mono (hb1.trans (hb2.mono hb1.size)).size)
  clear sl5 q1 d0 d1 d2 d3 d4 hb1 hb2 hb6
  have n0 : ¬ (n : Int) = 0 := by omega
  have t1 : ((m : Int)).tmod (n : Int) = ((m % n : Nat) : Int) := by
    rw [Int.tmod_eq_emod_of_nonneg (by omega)]; exact (Int.natCast_emod _ _).symm
  have t2 : (m : Int) % (n : Int) = ((m % n : Nat) : Int) := (Int.natCast_emod _ _).symm
  by_cases hd : m % n = 0
  rotate_left
  · have hd1 : (((m % n : Nat) : Int) != 0) = true := by simpa using (by omega : ¬ ((m % n : Nat) : Int) = 0)
    have hd2 : ¬ ((m % n : Nat) : Int) = 0 := by omega
    have Hd := Lib.hid hd; clear hd
    generalize ((m % n : Nat) : Int) = D at *
    go_wp2_with fail
    go_ret
    exact ⟨ret_eq (bool_eq (HNo.out (HMd.out Hd.out)).symm), hb7⟩
  rw [hd] at t1 t2
  obtain ⟨X1, hX1⟩ : ∃ X1 : Int, ((l1 * n : Nat) : Int) = X1 := ⟨_, rfl⟩
  obtain ⟨X2, hX2⟩ : ∃ X2 : Int, ((l2 * m : Nat) : Int) = X2 := ⟨_, rfl⟩
  have hwr1 : wrap64 ((l1 : Int) * (n : Int)) = X1 := by
    rw [← Int.natCast_mul, hX1]
    exact wrap_nat hX1 hw1
  have hwr2 : wrap64 ((l2 : Int) * (m : Int)) = X2 := by
    rw [← Int.natCast_mul, hX2]
    exact wrap_nat hX2 hw2
  by_cases hE : l1 * n = l2 * m
  rotate_left
  · have hne2 : ¬ X1 = X2 := fun e => hE (Int.ofNat.inj (hX1.trans (e.trans hX2.symm)))
    have hne : (X1 != X2) = true := by simpa using hne2
    have hm1 : (l1 : Int) * (n : Int) = X1 := by rw [← hX1]; exact (Int.natCast_mul _ _).symm
    have hm2 : (l2 : Int) * (m : Int) = X2 := by rw [← hX2]; exact (Int.natCast_mul _ _).symm
    have HE := Lib.hid hE; clear hE
    have Hd := Lib.hid hd; clear hd
    clear hX1 hX2
    go_wp2_with fail
    refine (HLi.out A6 c6 _ sl6).mono ?_
    rintro e w8 ⟨rfl, rfl⟩
    go_wp2_with fail
    refine (HLj.out _ hb7).mono ?_
    rintro e w8 ⟨rfl, rfl⟩
    go_wp2_with fail
    go_ret
    exact ⟨ret_eq (bool_eq (HNo.out (HLit.out HE.out)).symm), hb7⟩
  obtain rfl : X1 = X2 := by rw [← hX1, ← hX2, hE]
  have HE := Lib.hid hE; clear hE
  have Hd := Lib.hid hd; clear hd
  have hm1 : (l1 : Int) * (n : Int) = X1 := by rw [← hX1]; exact (Int.natCast_mul _ _).symm
  have hm2 : (l2 : Int) * (m : Int) = X1 := by rw [← hX2]; exact (Int.natCast_mul _ _).symm
  clear hX1 hX2 HLit HMd
  go_wp2_with fail
  refine (HLi.out A6 c6 _ sl6).mono ?_
  rintro e w8 ⟨rfl, rfl⟩
  go_wp2_with fail
  refine (HLj.out _ hb7).mono ?_
  rintro e w8 ⟨rfl, rfl⟩
  go_wp2_with fail
  clear hwr1 hwr2 hm1 hm2
  go_loopw [6] (fun i wr => ∃ k : Nat, k ≤ n ∧ i = .int .i64 k ∧ Hid (∀ s, s < k → ∃ r, r < m ∧ O[r]? ≠ L[(r + s) % n]?) ∧ Below w7.heap.size w7 wr) (fun i _ => n - (intOf i).toNat)
  case atStart => exact ⟨0, Nat.zero_le _, rfl, Lib.hid (fun s hs => absurd hs (by omega)), Below.refl _ _⟩
  case round =>
    obtain ⟨k, hk, rfl, Hk, hbw⟩ := hrel
    by_cases hlt : k < n
    · have k1 : (k : Int) < (n : Int) := by omega
      have k0 : (0 : Int) ≤ (k : Int) := by omega
      go_wp2_with fail
      go_loopw [7, 8] (fun t i wr2 => ∃ (j : Nat) (q : Bool), j ≤ m ∧ i = .int .i64 j ∧ t = .bool q ∧ Hid (q = true → ∀ r, r < j → O[r]? = L[(r + k) % n]?) ∧ Hid (q = false → ∃ r, r < m ∧ O[r]? ≠ L[(r + k) % n]?) ∧ Below w7.heap.size w7 wr2) (fun _ i _ => m - (intOf i).toNat)
      case atStart => exact ⟨0, true, Nat.zero_le _, rfl, rfl, Lib.hid (fun _ r hr => absurd hr (by omega)), Lib.hid (fun e => by cases e), hbw⟩
      case round =>
        clear hbw
        obtain ⟨j, q, hj, rfl, rfl, Ht, Hf, hbw⟩ := hrel
        have i0 : (0 : Int) ≤ (j : Int) := by omega
        cases q
        · -- same is false
          by_cases hlj : j < m
          · have i1 : (j : Int) < (m : Int) := by omega
            go_wp2_with fail
            go_roundw
            case rel => exact ⟨k + 1, by omega, by go_num, Lib.hid (fun s hs => by
              rcases Nat.lt_or_ge s k with h9 | h9
              · exact Hk.out s h9
              · obtain rfl : s = k := by omega
                exact Hf.out rfl), hbw⟩
            case measure => simp [intOf]; omega
          · have i1 : ¬ (j : Int) < (m : Int) := by omega
            go_wp2_with fail
            go_roundw
            case rel => exact ⟨k + 1, by omega, by go_num, Lib.hid (fun s hs => by
              rcases Nat.lt_or_ge s k with h9 | h9
              · exact Hk.out s h9
              · obtain rfl : s = k := by omega
                exact Hf.out rfl), hbw⟩
            case measure => simp [intOf]; omega
        · by_cases hlj : j < m
          · have i1 : (j : Int) < (m : Int) := by omega
            obtain ⟨r, hr⟩ : ∃ r, (j + k) % n = r := ⟨_, rfl⟩
            have hrn : r < n := by rw [← hr]; exact Nat.mod_lt _ (by omega)
            have hr1 : ((j : Int) + (k : Int)).tmod (n : Int) = (r : Int) := by
              rw [Int.tmod_eq_emod_of_nonneg (by omega), ← hr, ← Int.natCast_add]; exact (Int.natCast_emod _ _).symm
            have hr2 : ((j : Int) + (k : Int)) % (n : Int) = (r : Int) := by
              rw [← hr1, Int.tmod_eq_emod_of_nonneg (by omega)]
            obtain ⟨b6, off6, y, rfl, hb6, hy, cy⟩ := (sl6.next hbw).u8 j hlj
            obtain ⟨b2, off2, z, rfl, hb2, hz, cz⟩ := (h2.next (hb7.trans (hbw.mono hb7.size))).u8 r hrn
            have r0 : (0 : Int) ≤ (r : Int) := by omega
            have r1 : (r : Int) < (n : Int) := by omega
            have hxy : decide (O[j]? = L[(j + k) % n]?) = (y == z) := by rw [hr, hy, hz, Bool.eq_iff_iff]; simp
            have Hy := Lib.hid hy; clear hy
            have Hz := Lib.hid hz; clear hz
            have Hr := Lib.hid hr; clear hr
            have Hxy := Lib.hid hxy; clear hxy
            go_wp2_with fail
            go_quiet (fail)
            go_wp2_with fail
            go_roundw
            case rel =>
              refine ⟨j + 1, _, by omega, by go_num, rfl, Lib.hid (fun e r hr => ?_), Lib.hid (fun e => ⟨j, by omega, ?_⟩), by (repeat (first | (with_reducible assumption) | (with_reducible exact Below.refl _ _) | exact Nat.le_refl _ | exact Below.size (by with_reducible assumption) | (with_reducible refine Below.drew ?_) | (with_reducible refine below_drewN ?_ _) | (with_reducible refine Below.alloc ?_ ?_ _) | (with_reducible refine Below.setCell ?_ ?_ _) | (with_reducible refine le_alloc ?_ _) | (with_reducible refine le_set ?_ _ _) | (with_reducible refine le_drew ?_) | (with_reducible refine le_drewN ?_ _) | omega | (dsimp only; omega)))⟩
              · rcases Nat.lt_or_ge r j with h9 | h9
                · exact Ht.out (by simp) r h9
                · obtain rfl : r = j := by omega
                  rw [← Hxy.out] at e; simpa using e
              · rw [← Hxy.out] at e; simpa using e
            case measure => simp [intOf]; omega
          · have i1 : ¬ (j : Int) < (m : Int) := by omega
            go_wp2_with fail
            go_ret
            exact ⟨ret_eq (bool_eq (HYes.out Hd.out k hlt (fun i hi => Ht.out (by simp) i (by omega))).symm), hb7.trans (hbw.mono hb7.size)⟩
    · obtain rfl : k = n := by omega
      have k1 : ¬ (k : Int) < (k : Int) := by omega
      go_wp2_with fail
      go_ret
      exact ⟨ret_eq (bool_eq (HNo.out fun s hs => HAt.out s (Hk.out s hs)).symm), hb7.trans (hbw.mono hb7.size)⟩
end Go.Proofs.Ytgibbhipjpbdfaa
