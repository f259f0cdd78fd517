/- Orders: both sides' tests and loads. -/
import Derived.Test.YtgkdjohiclhcoaaVoyA
namespace Go.Proofs.Ytgkdjohiclhcoaa
open Go.RowKit
set_option maxRecDepth 100000 in
set_option maxHeartbeats 400000 in
theorem l00Has_c (A : Option Addr) (n c : Nat) (xs : List Int) (s : Int) (w : World) (h : Sl w w.heap.size 1 A n (xs.flatMap intC)) (hm : n ≤ maxLen) :
    Calls Try.prog 43 #[.slice A n c, .int .i64 s] w fun e w' => e = .returned (.bool (decide (s ∈ xs))) ∧ w = w' := by
  unfold maxLen at hm
  have hl := h.len intC 1 intC_len (by omega)
  have Hl := Lib.hid hl; clear hl
  go_enter Try.func43, Try.ntmps43
  go_wp2
  go_loop [5] (fun i => ∃ k : Nat, k ≤ n ∧ i = .int .i64 k ∧ ¬ s ∈ xs.take k) (fun i => n - (intOf i).toNat)
  case atStart => exact ⟨0, Nat.zero_le _, rfl, by simp⟩
  case round =>
    obtain ⟨k, hk, rfl, hno⟩ := hrel
    have Hno := Lib.hid hno; clear hno
    by_cases hlt : k < n
    · obtain ⟨b, off, d, rfl, hb, hd, c1⟩ := h.int k hlt
      have j1 : (0 : Int) ≤ (k : Int) := by omega
      have j2 : (k : Int) < (n : Int) := by omega
      have Hd := Lib.hid hd; clear hd
      by_cases hds : d = s
      · subst hds
        go_wp2
        go_ret
        exact ⟨ret_eq (bool_eq (decide_eq_true (List.mem_of_getElem? Hd.out)).symm), rfl⟩
      · have hds' : (d == s) = false := by simpa using hds
        have Hds := Lib.hid hds; clear hds
        go_wp2
        go_round
        case rel =>
          refine ⟨k + 1, by omega, by go_num, ?_⟩
          rw [mem_take_next Hd.out]
          exact fun h => h.elim Hno.out fun e => Hds.out e.symm
        case measure => simp [intOf]; omega
    · go_wp2
      go_ret
      have hno := Hno.out
      rw [List.take_of_length_le (by rw [Hl.out]; omega)] at hno
      exact ⟨ret_eq (bool_eq (decide_eq_false hno).symm), rfl⟩
set_option maxRecDepth 100000 in
set_option maxHeartbeats 400000 in
theorem iIndex_c (A : Option Addr) (n c : Nat) (xs : List Int) (s : Int) (w : World) (h : Sl w w.heap.size 1 A n (xs.flatMap intC)) (hm : n ≤ maxLen) :
    Calls Try.prog 94 #[.slice A n c, .int .i64 s] w fun e w' => ∃ r : Int, e = .returned (.int .i64 r) ∧ (0 ≤ r ↔ s ∈ xs) ∧ w = w' := by
  unfold maxLen at hm
  have hl := h.len intC 1 intC_len (by omega)
  have Hl := Lib.hid hl; clear hl
  go_enter Try.func94, Try.ntmps94
  go_wp2
  go_loop [5, 8] (fun _ i => ∃ k : Nat, k ≤ n ∧ i = .int .i64 k ∧ ¬ s ∈ xs.take k) (fun _ i => n - (intOf i).toNat)
  case atStart => exact ⟨0, Nat.zero_le _, rfl, by simp⟩
  case round =>
    obtain ⟨k, hk, rfl, hno⟩ := hrel
    have Hno := Lib.hid hno; clear hno
    by_cases hlt : k < n
    · obtain ⟨b, off, d, rfl, hb, hd, c1⟩ := h.int k hlt
      have j1 : (0 : Int) ≤ (k : Int) := by omega
      have j2 : (k : Int) < (n : Int) := by omega
      have Hd := Lib.hid hd; clear hd
      by_cases hds : s = d
      · subst hds
        go_wp2
        go_ret
        exact ⟨k, rfl, ⟨fun _ => List.mem_of_getElem? Hd.out, fun _ => by omega⟩, rfl⟩
      · have hds' : (s == d) = false := by simpa using hds
        have Hds := Lib.hid hds; clear hds
        go_wp2
        go_round
        case rel =>
          refine ⟨k + 1, by omega, by go_num, ?_⟩
          rw [mem_take_next Hd.out]
          exact fun h => h.elim Hno.out Hds.out
        case measure => simp [intOf]; omega
    · go_wp2
      go_ret
      have hno := Hno.out
      rw [List.take_of_length_le (by rw [Hl.out]; omega)] at hno
      exact ⟨-1, rfl, ⟨fun h => by omega, fun h => absurd h hno⟩, rfl⟩
set_option maxHeartbeats 400000 in
theorem iContains_c (A : Option Addr) (n c : Nat) (xs : List Int) (s : Int) (w : World) (h : Sl w w.heap.size 1 A n (xs.flatMap intC)) (hm : n ≤ maxLen) :
    Calls Try.prog 79 #[.slice A n c, .int .i64 s] w fun e w' => e = .returned (.bool (decide (s ∈ xs))) ∧ w = w' := by
  go_enter Try.func79, Try.ntmps79
  go_wp2_with (go_at_call 94; refine (iIndex_c A n c xs s _ h hm).mono ?_; rintro e w1 ⟨r, rfl, hr, rfl⟩)
  go_ret
  exact ⟨rfl, rfl⟩
set_option maxHeartbeats 400000 in
theorem at_c (i : Int) (n : Nat) (w : World) : Calls Try.prog 93 #[.int .i64 i, .int .i64 n] w fun e w' => e = .returned (.bool (inI n i)) ∧ w = w' := by
  go_enter Try.func93, Try.ntmps93
  go_wp2
  all_goals
    go_ret
    exact ⟨ret_eq (bool_eq (by simp_all [inI, inB] <;> try omega)), rfl⟩
set_option maxRecDepth 100000 in
set_option maxHeartbeats 1000000 in
theorem isOrder_c (AZ : Option Addr) (N cZ : Nat) (A : Option Addr) (n c : Nat) (xs : List Int) (w : World) (h : Sl w w.heap.size 1 A n (xs.flatMap intC)) (hm : n ≤ 1048576) (hnc : n ≤ c) :
    Calls Try.prog 78 #[.slice AZ N cZ, .slice A n c] w fun e w' => e = .returned (.bool (ordB N xs)) ∧ w = w' := by
  have hl := h.len intC 1 intC_len (by omega)
  obtain ⟨R, hR⟩ : ∃ R, ordB N xs = R := ⟨_, rfl⟩
  rw [hR]
  have Hl := Lib.hid hl; clear hl
  have HR := Lib.hid hR; clear hR
  go_enter Try.func78, Try.ntmps78
  go_wp2
  go_loop [5, 6, 9] (fun _ _ i => ∃ k : Nat, k ≤ n ∧ i = .int .i64 k ∧ Hid (∀ j, j < k → ordOk N xs j = true)) (fun _ _ i => n - (intOf i).toNat)
  case atStart => exact ⟨0, Nat.zero_le _, rfl, Lib.hid fun j hj => absurd hj (by omega)⟩
  case round =>
    obtain ⟨k, hk, rfl, Hok⟩ := hrel
    by_cases hlt : k < n
    · have hp := h.pre intC 1 intC_len k hk
      obtain ⟨b, off, d, rfl, hb, hd, c1⟩ := h.int k hlt
      have hka := ordOk_at (n := N) hd
      have j1 : (0 : Int) ≤ (k : Int) := by omega
      have j2 : (k : Int) < (n : Int) := by omega
      have j3 : (k : Int) ≤ (c : Int) := by omega
      have hA := at_c d N
      obtain ⟨X, hX⟩ : ∃ X, decide (d ∈ xs.take k) = X := ⟨_, rfl⟩
      rw [hX] at hka
      have hC : ∀ b' c', (some (⟨b', off, none⟩ : Addr)) = some ⟨b, off, none⟩ → Calls Try.prog 79 #[.slice (some ⟨b', off, none⟩) k c', .int .i64 d] w fun e w' => e = .returned (.bool X) ∧ w = w' := fun b' c' e => by
        rw [e, ← hX]
        exact iContains_c _ k c' (xs.take k) d w hp (by unfold maxLen; omega)
      have hC2 := fun c' => hC b c' rfl
      clear hC hX hp
      have HC := Lib.hid hC2; clear hC2
      have HA := Lib.hid hA; clear hA
      have Hd := Lib.hid hd; clear hd
      cases hin : inI N d
      · rw [hin] at HA hka
        have Hka := Lib.hid hka; clear hka
        have hR : R = false := by rw [← HR.out, ordB]; exact allB_no (k := k) (by rw [Hl.out]; exact hlt) (by rw [Hka.out]; first | rfl | simp)
        have HR0 := Lib.hid hR; clear hR
        have Hin := Lib.hid hin; clear hin
        go_wp2_with (first | (go_at_call 93; refine (HA.out _).mono ?_; rintro e w1 ⟨rfl, rfl⟩))
        go_ret
        exact ⟨ret_eq (bool_eq HR0.out.symm), rfl⟩
      rw [hin] at HA hka
      have Hin := Lib.hid hin; clear hin
      cases X
      · have Hka := Lib.hid hka; clear hka
        go_wp2_with (first | (go_at_call 93; refine (HA.out _).mono ?_; rintro e w1 ⟨rfl, rfl⟩) | (go_at_call 79; refine (HC.out _).mono ?_; rintro e w1 ⟨rfl, rfl⟩))
        go_round
        case rel => exact ⟨k + 1, by omega, by go_num, Lib.hid (all_next Hok.out (by rw [Hka.out]; rfl))⟩
        case measure => simp [intOf]; omega
      · have Hka := Lib.hid hka; clear hka
        have hR : R = false := by rw [← HR.out, ordB]; exact allB_no (k := k) (by rw [Hl.out]; exact hlt) (by rw [Hka.out]; first | rfl | simp)
        have HR0 := Lib.hid hR; clear hR
        go_wp2_with (first | (go_at_call 93; refine (HA.out _).mono ?_; rintro e w1 ⟨rfl, rfl⟩) | (go_at_call 79; refine (HC.out _).mono ?_; rintro e w1 ⟨rfl, rfl⟩))
        go_ret
        exact ⟨ret_eq (bool_eq HR0.out.symm), rfl⟩
    · have hR : R = true := by
        rw [← HR.out, ordB]
        exact allB_end Hok.out (by rw [Hl.out]; exact hlt)
      have HR0 := Lib.hid hR; clear hR
      go_wp2
      go_ret
      exact ⟨ret_eq (bool_eq HR0.out.symm), rfl⟩
set_option maxRecDepth 100000 in
set_option maxHeartbeats 1000000 in
theorem l25Order_c (AZ : Option Addr) (N cZ : Nat) (A : Option Addr) (n c : Nat) (xs : List Int) (w : World) (h : Sl w w.heap.size 1 A n (xs.flatMap intC)) (hm : n ≤ 1048576) (hN : N ≤ 1048576) (hnc : n ≤ c) :
    Calls Try.prog 70 #[.slice AZ N cZ, .slice A n c] w fun e w' => e = .returned (.bool (ordB N xs)) ∧ ∃ q, w' = w.drewN q := by
  have hl := h.len intC 1 intC_len (by omega)
  obtain ⟨R, hR⟩ : ∃ R, ordB N xs = R := ⟨_, rfl⟩
  rw [hR]
  have Hl := Lib.hid hl; clear hl
  have HR := Lib.hid hR; clear hR
  go_enter Try.func70, Try.ntmps70
  go_wp2
  go_loopw [5] (fun i wr => ∃ k q : Nat, k ≤ n ∧ i = .int .i64 k ∧ Hid (∀ j, j < k → ordOk N xs j = true) ∧ wr = w.drewN q) (fun i _ => n - (intOf i).toNat)
  case atStart => exact ⟨0, 0, Nat.zero_le _, rfl, Lib.hid fun j hj => absurd hj (by omega), rfl⟩
  case round =>
    obtain ⟨k, q, hk, rfl, Hok, hwr⟩ := hrel
    by_cases hlt : k < n
    · have hp := h.pre intC 1 intC_len k hk
      obtain ⟨b, off, d, rfl, hb, hd, c1⟩ := h.int k hlt
      have hka := ordOk_at (n := N) hd
      have j1 : (0 : Int) ≤ (k : Int) := by omega
      have j2 : (k : Int) < (n : Int) := by omega
      have j3 : (k : Int) ≤ (c : Int) := by omega
      have c1 : wr.cell? ⟨b, off + k, none⟩ = some (.int .i64 d) := by rw [hwr]; exact c1
      have e1 : IntKind.i64.wrap ((N : Int) - 1) = (N : Int) - 1 := IntWalk.i64_in _ (by omega)
      have hA : ∀ m, Calls Try.prog 42 #[.int .i64 d, .int .i64 0, .int .i64 ((N : Int) - 1)] (wr.drewN m) fun e w' => e = .returned (.bool (inI N d)) ∧ wr.drewN m = w' := fun m => l00In_c _ _ _ _
      obtain ⟨X, hX⟩ : ∃ X, decide (d ∈ xs.take k) = X := ⟨_, rfl⟩
      rw [hX] at hka
      have hC : ∀ m c', Calls Try.prog 43 #[.slice (some ⟨b, off, none⟩) k c', .int .i64 d] (wr.drewN m) fun e w' => e = .returned (.bool X) ∧ wr.drewN m = w' := fun m c' => by
        rw [hwr, ← hX]
        exact l00Has_c _ k c' (xs.take k) d _ (hp.keep fun _ _ => rfl) (by unfold maxLen; omega)
      have hwn : ∀ m, wr.drewN m = w.drewN (q + m) := fun m => by rw [hwr]; exact World.drewN_drewN w q m
      clear hX hp hwr
      have HC := Lib.hid hC; clear hC
      have HA := Lib.hid hA; clear hA
      have Hd := Lib.hid hd; clear hd
      have Hwn := Lib.hid hwn; clear hwn
      cases hin : inI N d
      · rw [hin] at HA hka
        have Hka := Lib.hid hka; clear hka
        have hR : R = false := by rw [← HR.out, ordB]; exact allB_no (k := k) (by rw [Hl.out]; exact hlt) (by rw [Hka.out]; first | rfl | simp)
        have HR0 := Lib.hid hR; clear hR
        have Hin := Lib.hid hin; clear hin
        go_wp2
        go_quiet ((go_at_call 42; exact quiet_c (HA.out _)))
        go_wp2
        go_ret
        exact ⟨ret_eq (bool_eq HR0.out.symm), _, Hwn.out _⟩
      rw [hin] at HA hka
      have Hin := Lib.hid hin; clear hin
      cases X
      · have Hka := Lib.hid hka; clear hka
        go_wp2
        go_quiet (first | (go_at_call 42; exact quiet_c (HA.out _)) | (go_at_call 43; exact quiet_c (HC.out _ _)))
        go_wp2
        go_roundw
        case rel => exact ⟨k + 1, _, by omega, by go_num, Lib.hid (all_next Hok.out (by rw [Hka.out]; rfl)), Hwn.out _⟩
        case measure => simp [intOf]; omega
      · have Hka := Lib.hid hka; clear hka
        have hR : R = false := by rw [← HR.out, ordB]; exact allB_no (k := k) (by rw [Hl.out]; exact hlt) (by rw [Hka.out]; first | rfl | simp)
        have HR0 := Lib.hid hR; clear hR
        go_wp2
        go_quiet (first | (go_at_call 42; exact quiet_c (HA.out _)) | (go_at_call 43; exact quiet_c (HC.out _ _)))
        go_wp2
        go_ret
        exact ⟨ret_eq (bool_eq HR0.out.symm), _, Hwn.out _⟩
    · have hR : R = true := by
        rw [← HR.out, ordB]
        exact allB_end Hok.out (by rw [Hl.out]; exact hlt)
      have HR0 := Lib.hid hR; clear hR
      go_wp2
      go_ret
      exact ⟨ret_eq (bool_eq HR0.out.symm), q, rfl⟩
set_option maxRecDepth 100000 in
set_option maxHeartbeats 1000000 in
theorem l25Load_c (AZ : Option Addr) (N cZ : Nat) (zs : List Wk) (A : Option Addr) (n c : Nat) (xs : List Int) (w : World) (hz : Sl w w.heap.size 7 AZ N (zs.flatMap Wk.cells)) (h : Sl w w.heap.size 1 A n (xs.flatMap intC)) (hm : n ≤ 1048576)
    (hk0 : ∀ k ∈ xs, 0 ≤ k ∧ k < (N : Int)) (hl0 : ∀ k ∈ xs, 0 ≤ (wkI zs k).ld ∧ (wkI zs k).ld ≤ 1000) :
    Calls Try.prog 71 #[.slice AZ N cZ, .slice A n c] w fun e w' => e = .returned (.int .i64 (loadV zs xs)) ∧ w = w' := by
  have hl := h.len intC 1 intC_len (by omega)
  obtain ⟨R, hR⟩ : ∃ R, loadV zs xs = R := ⟨_, rfl⟩
  rw [hR]
  have Hl := Lib.hid hl; clear hl
  have HR := Lib.hid hR; clear hR
  have Hk0 := Lib.hid hk0; clear hk0
  have Hl0 := Lib.hid hl0; clear hl0
  go_enter Try.func71, Try.ntmps71
  go_wp2
  go_loop [5, 6] (fun s i => ∃ (k : Nat) (t : Int), k ≤ n ∧ i = .int .i64 k ∧ s = .int .i64 t ∧ 0 ≤ t ∧ t ≤ 1000 * (k : Int) ∧ Hid (t = loadV zs (xs.take k))) (fun s i => n - (intOf i).toNat)
  case atStart => exact ⟨0, 0, Nat.zero_le _, rfl, rfl, by omega, by omega, Lib.hid (by simp [loadV])⟩
  case round =>
    obtain ⟨k, t, hk, rfl, rfl, t0, t1, Ht⟩ := hrel
    by_cases hlt : k < n
    · obtain ⟨b, off, d, rfl, hb, hd, c1⟩ := h.int k hlt
      have hdm := List.mem_of_getElem? hd
      have d0 := Hk0.out d hdm
      have d1 := Hl0.out d hdm
      obtain ⟨m, rfl⟩ : ∃ m : Nat, d = m := ⟨d.toNat, by omega⟩
      obtain ⟨b2, off2, z, rfl, hb2, hz2, hp⟩ := hz.wk (Nat.le_refl _) m (by omega)
      have hzk := wkI_eq hz2
      rw [hzk] at d1
      have c3 := hp.c3
      have j1 : (0 : Int) ≤ (k : Int) := by omega
      have j2 : (k : Int) < (n : Int) := by omega
      have j3 : (0 : Int) ≤ (m : Int) := by omega
      have hnx := take_snoc hd
      clear hp hz2
      have Hd := Lib.hid hd; clear hd
      have Hdm := Lib.hid hdm; clear hdm
      have Hzk := Lib.hid hzk; clear hzk
      have Hnx := Lib.hid hnx; clear hnx
      go_wp2
      go_round
      case rel => exact ⟨k + 1, t + z.ld, by omega, by go_num, by go_num, by omega, by omega, Lib.hid (by rw [Hnx.out, loadV_snoc, Hzk.out, Ht.out])⟩
      case measure => simp [intOf]; omega
    · have hR : R = t := by
        have := Ht.out
        rw [List.take_of_length_le (by rw [Hl.out]; omega)] at this
        rw [← HR.out, this]
      subst hR
      go_wp2
      go_ret
      exact ⟨rfl, rfl⟩
set_option maxRecDepth 100000 in
set_option maxHeartbeats 1000000 in
theorem loadOf_c (AZ : Option Addr) (N cZ : Nat) (zs : List Wk) (A : Option Addr) (n c : Nat) (xs : List Int) (w : World) (hz : Sl w w.heap.size 7 AZ N (zs.flatMap Wk.cells)) (h : Sl w w.heap.size 1 A n (xs.flatMap intC)) (hm : n ≤ 1048576)
    (hk0 : ∀ k ∈ xs, 0 ≤ k ∧ k < (N : Int)) (hl0 : ∀ k ∈ xs, 0 ≤ (wkI zs k).ld ∧ (wkI zs k).ld ≤ 1000) :
    Calls Try.prog 80 #[.slice AZ N cZ, .slice A n c] w fun e w' => e = .returned (.int .i64 (loadV zs xs)) ∧ w = w' := by
  have hl := h.len intC 1 intC_len (by omega)
  obtain ⟨R, hR⟩ : ∃ R, loadV zs xs = R := ⟨_, rfl⟩
  rw [hR]
  have Hl := Lib.hid hl; clear hl
  have HR := Lib.hid hR; clear hR
  have Hk0 := Lib.hid hk0; clear hk0
  have Hl0 := Lib.hid hl0; clear hl0
  go_enter Try.func80, Try.ntmps80
  go_wp2
  go_loop [5, 7, 10] (fun s _ i => ∃ (k : Nat) (t : Int), k ≤ n ∧ i = .int .i64 k ∧ s = .int .i64 t ∧ 0 ≤ t ∧ t ≤ 1000 * (k : Int) ∧ Hid (t = loadV zs (xs.take k))) (fun s _ i => n - (intOf i).toNat)
  case atStart => exact ⟨0, 0, Nat.zero_le _, rfl, rfl, by omega, by omega, Lib.hid (by simp [loadV])⟩
  case round =>
    obtain ⟨k, t, hk, rfl, rfl, t0, t1, Ht⟩ := hrel
    by_cases hlt : k < n
    · obtain ⟨b, off, d, rfl, hb, hd, c1⟩ := h.int k hlt
      have hdm := List.mem_of_getElem? hd
      have d0 := Hk0.out d hdm
      have d1 := Hl0.out d hdm
      obtain ⟨m, rfl⟩ : ∃ m : Nat, d = m := ⟨d.toNat, by omega⟩
      obtain ⟨b2, off2, z, rfl, hb2, hz2, hp⟩ := hz.wk (Nat.le_refl _) m (by omega)
      have hzk := wkI_eq hz2
      rw [hzk] at d1
      have c3 := hp.c3
      have j1 : (0 : Int) ≤ (k : Int) := by omega
      have j2 : (k : Int) < (n : Int) := by omega
      have j3 : (0 : Int) ≤ (m : Int) := by omega
      have hnx := take_snoc hd
      clear hp hz2
      have Hd := Lib.hid hd; clear hd
      have Hdm := Lib.hid hdm; clear hdm
      have Hzk := Lib.hid hzk; clear hzk
      have Hnx := Lib.hid hnx; clear hnx
      go_wp2
      go_round
      case rel => exact ⟨k + 1, t + z.ld, by omega, by go_num, by go_num, by omega, by omega, Lib.hid (by rw [Hnx.out, loadV_snoc, Hzk.out, Ht.out])⟩
      case measure => simp [intOf]; omega
    · have hR : R = t := by
        have := Ht.out
        rw [List.take_of_length_le (by rw [Hl.out]; omega)] at this
        rw [← HR.out, this]
      subst hR
      go_wp2
      go_ret
      exact ⟨rfl, rfl⟩
end Go.Proofs.Ytgkdjohiclhcoaa
