/- Sectors: the reference. -/
import Derived.Test.YtpgcgmbjlecnpaaGreatDoorSecLaw
namespace Go.Proofs.YtpgcgmbjlecnpaaGreatDoor
open Go.RowKit
structure SecP (w : World) (b off : Nat) (s : Sec) : Prop where
  c0 : w.cell? ⟨b, off, none⟩ = some (.int .i64 s.f)
  c1 : w.cell? ⟨b, off + 1, none⟩ = some (.int .i64 s.t)
  c2 : w.cell? ⟨b, off + 2, none⟩ = some (.string s.c)
  hb : b < w.heap.size
theorem SecP.next {w w' : World} {b off : Nat} {s : Sec} (h : SecP w b off s) (hb : Below w.heap.size w w') : SecP w' b off s :=
  have k := keepC hb b h.hb
  ⟨(k _).trans h.c0, (k _).trans h.c1, (k _).trans h.c2, Nat.lt_of_lt_of_le h.hb hb.size⟩
theorem SecP.q {w : World} {b off : Nat} {s : Sec} (h : SecP w b off s) (k : Nat) : SecP (w.drewN k) b off s := h.next (below_drewN (Below.refl _ _) k)
theorem quiet_dn {P : Program} {f : FuncId} {args : Array Value} {w : World} {n : Nat} {v : Value}
    (h : Calls P f args (w.drewN n) fun e w' => e = .returned v ∧ ∃ m, w' = (w.drewN n).drewN m) : Calls P f args (w.drewN n) fun e w'' => e = .returned v ∧ ∃ m, w'' = w.drewN m :=
  h.mono fun _ _ ⟨he, m, hm⟩ => ⟨he, n + m, by rw [hm]; simp [World.drewN, Nat.add_assoc]⟩
theorem Sl.secP {w : World} {n : Nat} {A : Option Addr} {xs : List Sec} (h : Sl w w.heap.size 3 A n (xs.flatMap Sec.cells)) (k : Nat) (hk : k < n) :
    ∃ b off x, A = some ⟨b, off, none⟩ ∧ xs[k]? = some x ∧ SecP w b (off + k * 3) x := by
  obtain ⟨b, off, x, hA, hb, hx, c0, c1, c2⟩ := h.sec k hk
  exact ⟨b, off, x, hA, hx, c0, c1, c2, hb⟩
set_option maxRecDepth 100000 in
set_option maxHeartbeats 400000 in
theorem l08Color_c (t : ByteArray) (w : World) : Calls Tryz.prog 137 #[.string t] w fun e w' => e = .returned (.bool (colB t)) ∧ w = w' := by
  cases h1 : (t.toList == [87])
  · cases h2 : (t.toList == [82])
    · cases h3 : (t.toList == [71])
      · go_enter Tryz.func137, Tryz.ntmps137
        go_wp2
        go_ret
        exact ⟨ret_eq (bool_eq (by simp [colB, h1, h2, h3])), rfl⟩
      · go_enter Tryz.func137, Tryz.ntmps137
        go_wp2
        go_ret
        exact ⟨ret_eq (bool_eq (by simp [colB, h1, h2, h3])), rfl⟩
    · go_enter Tryz.func137, Tryz.ntmps137
      go_wp2
      go_ret
      exact ⟨ret_eq (bool_eq (by simp [colB, h1, h2])), rfl⟩
  · go_enter Tryz.func137, Tryz.ntmps137
    go_wp2
    go_ret
    exact ⟨ret_eq (bool_eq (by simp [colB, h1])), rfl⟩
set_option maxRecDepth 100000 in
set_option maxHeartbeats 400000 in
theorem l08Ends_c (b off : Nat) (s : Sec) (w : World) (h : SecP w b off s) : Calls Tryz.prog 136 #[.pointer (some ⟨b, off, none⟩)] w fun e w' => e = .returned (.bool (inB s.f 0 359 && inB s.t 0 359)) ∧ w = w' := by
  obtain ⟨c0, c1, c2, hb⟩ := h
  cases h1 : inB s.f 0 359
  all_goals
    go_enter Tryz.func136, Tryz.ntmps136
    go_wp2_with (go_at_call 26; refine (l00In_c _ _ _ _).mono ?_; rintro e w1 ⟨rfl, rfl⟩)
    go_ret
    exact ⟨ret_eq (bool_eq (by simp)), rfl⟩
set_option maxRecDepth 100000 in
set_option maxHeartbeats 400000 in
theorem l08One_c (b off : Nat) (s : Sec) (w : World) (h : SecP w b off s) : Calls Tryz.prog 90 #[.pointer (some ⟨b, off, none⟩)] w fun e w' => e = .returned (.bool (secOk s)) ∧ w = w' := by
  have hp := h
  obtain ⟨c0, c1, c2, hb⟩ := h
  have hv : secOk s = ((inB s.f 0 359 && inB s.t 0 359) && colB s.c) := rfl
  obtain ⟨E, hE⟩ : ∃ E, (inB s.f 0 359 && inB s.t 0 359) = E := ⟨_, rfl⟩
  rw [hv, hE]
  have hI : ∀ w1, SecP w1 b off s → Calls Tryz.prog 136 #[.pointer (some ⟨b, off, none⟩)] w1 fun e w' => e = .returned (.bool E) ∧ w1 = w' := fun w1 hh => hE ▸ l08Ends_c b off s w1 hh
  have HI := Lib.hid hI; clear hI
  clear hv hE
  cases E
  all_goals
    go_enter Tryz.func90, Tryz.ntmps90
    go_wp2_with (first | (go_at_call 136; refine (HI.out _ hp).mono ?_; rintro e w1 ⟨rfl, rfl⟩) | (go_at_call 137; refine (l08Color_c _ _).mono ?_; rintro e w1 ⟨rfl, rfl⟩))
    go_ret
    exact ⟨ret_eq (bool_eq (by simp)), rfl⟩
set_option maxRecDepth 100000 in
set_option maxHeartbeats 400000 in
theorem l08Arc_c (b off : Nat) (s : Sec) (w : World) (h : SecP w b off s) (hf : 0 ≤ s.f ∧ s.f ≤ 359) (ht : 0 ≤ s.t ∧ s.t ≤ 359) : Calls Tryz.prog 91 #[.pointer (some ⟨b, off, none⟩)] w fun e w' => e = .returned (.int .i64 (arcI s.f s.t)) ∧ ∃ n, w' = w.drewN n := by
  obtain ⟨c0, c1, c2, hb⟩ := h
  obtain ⟨r, hr⟩ : ∃ r, (s.t - s.f + 360) % 360 = r := ⟨_, rfl⟩
  have ha : arcI s.f s.t = if r = 0 then 360 else r := by unfold arcI; split <;> omega
  rw [ha]
  have hrb : 0 ≤ r ∧ r < 360 := by omega
  clear ha
  by_cases h0 : r = 0
  · rw [if_pos h0]
    have e0 : (r == 0) = true := by simpa using h0
    have H0 := Lib.hid h0; clear h0
    go_enter Tryz.func91, Tryz.ntmps91
    go_wp2
    go_quiet (fail)
    go_wp2
    go_ret
    exact ⟨rfl, _, rfl⟩
  · rw [if_neg h0]
    have e0 : (r == 0) = false := by simpa using h0
    go_enter Tryz.func91, Tryz.ntmps91
    go_wp2
    go_quiet (fail)
    go_wp2
    go_ret
    exact ⟨ret_eq (int_eq hr), _, rfl⟩
set_option maxRecDepth 100000 in
set_option maxHeartbeats 1000000 in
theorem l08Ok_c (A : Option Addr) (n c : Nat) (xs : List Sec) (w : World) (h : Sl w w.heap.size 3 A n (xs.flatMap Sec.cells)) (hm : n ≤ 1048576) :
    Calls Tryz.prog 56 #[.slice A n c] w fun e w' => e = .returned (.bool (secsB xs)) ∧ Below w.heap.size w w' := by
  have hl := h.len Sec.cells 3 Sec.cells_len (by omega)
  obtain ⟨R, hR⟩ : ∃ R, secsB xs = R := ⟨_, rfl⟩
  rw [hR]
  by_cases h12 : n ≤ 12
  rotate_left
  · have h2 : R = false := by rw [← hR, secsB, hl]; simp [h12]
    have i1 : (12 : Int) < (n : Int) := by omega
    have HR := Lib.hid hR; clear hR
    have Hl := Lib.hid hl; clear hl
    have H2 := Lib.hid h2; clear h2
    go_enter Tryz.func56, Tryz.ntmps56
    go_wp2
    go_ret
    exact ⟨ret_eq (bool_eq H2.out.symm), Below.refl _ _⟩
  have i12 : ¬ (12 : Int) < (n : Int) := by omega
  have Hl := Lib.hid hl; clear hl
  have HR := Lib.hid hR; clear hR
  go_enter Tryz.func56, Tryz.ntmps56
  go_wp2
  go_loopw [4] (fun i wr => ∃ k : Nat, k ≤ n ∧ i = .int .i64 k ∧ Hid (∀ r, r < k → secOk (sAt xs r) = true) ∧ Hid (∀ r, r < k → 0 < r → (sAt xs (r - 1)).f < (sAt xs r).f) ∧ Below w.heap.size w wr) (fun i _ => n - (intOf i).toNat)
  case atStart => exact ⟨0, Nat.zero_le _, rfl, Lib.hid (fun r hr => absurd hr (by omega)), Lib.hid (fun r hr => absurd hr (by omega)), Below.refl _ _⟩
  case round =>
    obtain ⟨k, hk, rfl, H1, H2, hbw⟩ := hrel
    by_cases hlt : k < n
    · obtain ⟨b, off, s, rfl, hd, hs0⟩ := h.secP k hlt
      have hsp := hs0.next hbw
      obtain ⟨c0, c1, c2, hbb⟩ := hsp
      have hsp := hs0.next hbw
      have j1 : (0 : Int) ≤ (k : Int) := by omega
      have j2 : (k : Int) < (n : Int) := by omega
      have hsk := sAt_eq hd
      have Hsk := Lib.hid hsk; clear hsk
      have Hd := Lib.hid hd; clear hd
      cases hok : secOk s
      · have hR : R = false := by
          rw [← HR.out]; refine secsB_no fun hP => ?_
          have := hP.1 k (by rw [Hl.out]; exact hlt)
          rw [Hsk.out, hok] at this; cases this
        have HR0 := Lib.hid hR; clear hR
        go_wp2
        go_quiet ((go_at_call 90; exact quiet_c (hok ▸ l08One_c _ _ s _ (hsp.q _))))
        go_wp2
        go_ret
        exact ⟨ret_eq (bool_eq HR0.out.symm), below_drewN hbw _⟩
      · obtain ⟨hf, ht, _⟩ := secOk_bd hok
        have hO : ∀ k' : Nat, Calls Tryz.prog 90 #[.pointer (some ⟨b, off + k * 3, none⟩)] (wr.drewN k') fun e w' => e = .returned (.bool true) ∧ wr.drewN k' = w' := fun k' => hok ▸ l08One_c _ _ s _ (hsp.q k')
        have HO := Lib.hid hO; clear hO
        have Hok := Lib.hid hok; clear hok
        rcases Nat.eq_zero_or_pos k with hk0 | hk0
        · have k0 : ¬ 0 < k := by omega
          have Hk0 := Lib.hid hk0; clear hk0
          go_wp2
          go_quiet ((go_at_call 90; exact quiet_c (HO.out _)))
          go_wp2
          go_roundw
          case rel =>
            refine ⟨k + 1, by omega, by go_num, Lib.hid (fun r hr => ?_), Lib.hid (fun r hr h0 => ?_), below_drewN hbw _⟩
            · rcases Nat.lt_or_ge r k with h1 | h1
              · exact H1.out r h1
              · obtain rfl : r = k := by omega
                rw [Hsk.out]; exact Hok.out
            · have := Hk0.out; omega
          case measure => simp [intOf]; omega
        · obtain ⟨b', off', p, e, hpx, hp0⟩ := h.secP (k - 1) (by omega)
          injection e with e; injection e with e1 e2 _
          subst e1 e2
          have hpp := hp0.next hbw
          obtain ⟨p0, _, _, _⟩ := hpp
          have hps := sAt_eq hpx
          obtain ⟨kp, hkp⟩ : ∃ kp, k - 1 = kp := ⟨_, rfl⟩
          have hwp : IntKind.i64.wrap ((k : Int) - 1) = (kp : Int) := by rw [IntWalk.i64_in _ (by omega)]; omega
          have hwq : (k : Int) - 1 = (kp : Int) := by omega
          have i2 : (kp : Int) < (n : Int) := by omega
          rw [hkp] at p0
          have Hpx := Lib.hid hpx; clear hpx
          have Hps := Lib.hid hps; clear hps
          have Hkp := Lib.hid hkp; clear hkp
          clear hp0
          by_cases hge : s.f ≤ p.f
          · have hR : R = false := by
              rw [← HR.out]; refine secsB_no fun hP => ?_
              have := hP.2.1 k (by rw [Hl.out]; exact hlt) hk0
              rw [Hsk.out, Hps.out] at this; omega
            have HR0 := Lib.hid hR; clear hR
            go_wp2
            go_quiet ((go_at_call 90; exact quiet_c (HO.out _)))
            go_wp2
            go_ret
            exact ⟨ret_eq (bool_eq HR0.out.symm), below_drewN hbw _⟩
          · go_wp2
            go_quiet ((go_at_call 90; exact quiet_c (HO.out _)))
            go_wp2
            go_roundw
            case rel =>
              refine ⟨k + 1, by omega, by go_num, Lib.hid (fun r hr => ?_), Lib.hid (fun r hr h0 => ?_), below_drewN hbw _⟩
              · rcases Nat.lt_or_ge r k with h1 | h1
                · exact H1.out r h1
                · obtain rfl : r = k := by omega
                  rw [Hsk.out]; exact Hok.out
              · rcases Nat.lt_or_ge r k with h1 | h1
                · exact H2.out r h1 h0
                · obtain rfl : r = k := by omega
                  rw [Hsk.out, Hps.out]; omega
            case measure => simp [intOf]; omega
    · obtain rfl : k = n := by omega
      have hend : (1 < k → ∀ r, r < k → arcI (sAt xs r).f (sAt xs r).t ≤ distI (sAt xs r).f (sAt xs ((r + 1) % k)).f) → R = true := fun h3 => by
        rw [← HR.out, secsB_yes (secs_next (fun i hi => H1.out i (by rw [Hl.out] at hi; exact hi)) (fun i hi => H2.out i (by rw [Hl.out] at hi; exact hi)) (fun h1 i hi => by rw [Hl.out] at h1 hi ⊢; exact h3 h1 i hi)), Hl.out]
        simpa using h12
      have Hend := Lib.hid hend; clear hend
      go_wp2
      go_loopw [5] (fun i wr2 => ∃ j : Nat, j ≤ k ∧ i = .int .i64 j ∧ Hid (1 < k → ∀ r, r < j → arcI (sAt xs r).f (sAt xs r).t ≤ distI (sAt xs r).f (sAt xs ((r + 1) % k)).f) ∧ Below w.heap.size w wr2) (fun i _ => k - (intOf i).toNat)
      case atStart => exact ⟨0, Nat.zero_le _, rfl, Lib.hid (fun _ r hr => absurd hr (by omega)), hbw⟩
      case round =>
        clear hbw
        obtain ⟨j, hj, rfl, H3, hbw⟩ := hrel
        by_cases hlj : j < k
        · have i1 : (j : Int) < (k : Int) := by omega
          by_cases hn1 : 1 < k
          · have i2 : (1 : Int) < (k : Int) := by omega
            obtain ⟨q, hq⟩ : ∃ q, (j + 1) % k = q := ⟨_, rfl⟩
            have hqk : q < k := by rw [← hq]; exact Nat.mod_lt _ (by omega)
            obtain ⟨b, off, s, rfl, hd, hs0⟩ := h.secP j hlj
            obtain ⟨b', off', o, e, hox, ho0⟩ := h.secP q hqk
            injection e with e; injection e with e1 e2 _
            subst e1 e2
            have hsp := hs0.next hbw
            obtain ⟨o0, _, _, _⟩ := ho0.next hbw
            obtain ⟨s0, s1, s2, hbb⟩ := hs0.next hbw
            have hsk := sAt_eq hd
            have hok := sAt_eq hox
            have hv := H1.out j hlj
            have hw := H1.out q hqk
            rw [hsk] at hv
            rw [hok] at hw
            obtain ⟨hf, ht, _⟩ := secOk_bd hv
            obtain ⟨hof, _, _⟩ := secOk_bd hw
            have em : ((j : Int) + 1) % (k : Int) = (q : Int) := by rw [← hq]; push_cast; rfl
            have i3 : (q : Int) < (k : Int) := by omega
            have i4 : (0 : Int) ≤ (q : Int) := by omega
            have hD : (o.f - s.f + 360) % 360 = distI s.f o.f := by unfold distI; omega
            have hArc : ∀ n', Calls Tryz.prog 91 #[.pointer (some ⟨b, off + j * 3, none⟩)] (wr.drewN n') fun e w' => e = .returned (.int .i64 (arcI s.f s.t)) ∧ ∃ m, w' = (wr.drewN n').drewN m := fun n' => l08Arc_c _ _ s _ (hsp.q n') hf ht
            obtain ⟨AR, hAR⟩ : ∃ AR, arcI s.f s.t = AR := ⟨_, rfl⟩
            obtain ⟨D, hD2⟩ : ∃ D, distI s.f o.f = D := ⟨_, rfl⟩
            rw [hAR] at hArc
            rw [hD2] at hD
            have HArc := Lib.hid hArc; clear hArc
            have HAR := Lib.hid hAR; clear hAR
            have HD2 := Lib.hid hD2; clear hD2
            have Hq := Lib.hid hq; clear hq
            have Hsk := Lib.hid hsk; clear hsk
            have Hok := Lib.hid hok; clear hok
            have Hv := Lib.hid hv; clear hv
            have Hw := Lib.hid hw; clear hw
            have Hd := Lib.hid hd; clear hd
            have Hox := Lib.hid hox; clear hox
            by_cases hgt : D < AR
            · have hR : R = false := by
                rw [← HR.out]; refine secsB_no fun hP => ?_
                have h3 := secs_to_next hP (by rw [Hl.out]; exact hn1) j (by rw [Hl.out]; exact hlj)
                rw [Hl.out, Hq.out, Hsk.out, Hok.out, HAR.out, HD2.out] at h3
                omega
              have HR0 := Lib.hid hR; clear hR
              go_wp2
              go_quiet ((go_at_call 91; exact quiet_dn (HArc.out _)))
              go_wp2
              go_ret
              exact ⟨ret_eq (bool_eq HR0.out.symm), below_drewN hbw _⟩
            · go_wp2
              go_quiet ((go_at_call 91; exact quiet_dn (HArc.out _)))
              go_wp2
              go_roundw
              case rel =>
                refine ⟨j + 1, by omega, by go_num, Lib.hid (fun h1 r hr => ?_), below_drewN hbw _⟩
                rcases Nat.lt_or_ge r j with h2 | h2
                · exact H3.out h1 r h2
                · obtain rfl : r = j := by omega
                  rw [Hq.out, Hsk.out, Hok.out, HAR.out, HD2.out]; omega
              case measure => simp [intOf]; omega
          · have i2 : ¬ (1 : Int) < (k : Int) := by omega
            go_wp2
            go_ret
            exact ⟨ret_eq (bool_eq (Hend.out fun h1 => absurd h1 hn1).symm), hbw⟩
        · obtain rfl : j = k := by omega
          go_wp2
          go_ret
          exact ⟨ret_eq (bool_eq (Hend.out H3.out).symm), hbw⟩
end Go.Proofs.YtpgcgmbjlecnpaaGreatDoor
