/- Rhythms that fit a mark: the reference: its parts. -/
import Derived.Test.YtomjdkjkdmieaaaDoorRhP
namespace Go.Proofs.YtomjdkjkdmieaaaDoor
open Go.RowKit
set_option maxRecDepth 100000 in
set_option maxHeartbeats 1000000 in
theorem sameR_c (A A' : Option Addr) (n n' c c' : Nat) (xs ys : List Int) (w : World) (h : Sl w w.heap.size 1 A n (xs.flatMap intC)) (h' : Sl w w.heap.size 1 A' n' (ys.flatMap intC)) (hm : n ≤ 1048576) (hm' : n' ≤ 1048576) :
    Calls Tryd.prog 59 #[.slice A n c, .slice A' n' c'] w fun e w' => e = .returned (.bool (decide (xs = ys))) ∧ Below w.heap.size w w' := by
  have hl := h.len intC 1 intC_len (by omega)
  have hl' := h'.len intC 1 intC_len (by omega)
  by_cases hnn : n = n'
  · subst hnn
    have Hl := Lib.hid hl; clear hl
    have Hl' := Lib.hid hl'; clear hl'
    go_enter Tryd.func59, Tryd.ntmps59
    go_wp2
    go_loopw [5] (fun i wr => ∃ k : Nat, k ≤ n ∧ i = .int .i64 k ∧ (∀ j, j < k → xs[j]? = ys[j]?) ∧ Below w.heap.size w wr) (fun i _ => n - (intOf i).toNat)
    case atStart => exact ⟨0, Nat.zero_le _, rfl, fun j hj => absurd hj (by omega), Below.refl _ _⟩
    case round =>
      obtain ⟨k, hk, rfl, hok, hbw⟩ := hrel
      by_cases hlt : k < n
      · obtain ⟨b, off, d, rfl, hb, hd, c1⟩ := h.int k hlt
        obtain ⟨b', off', d', rfl, hb', hd', c1'⟩ := h'.int k hlt
        have Hok := Lib.hid hok; clear hok
        have Hd := Lib.hid hd; clear hd
        have Hd' := Lib.hid hd'; clear hd'
        have j1 : (0 : Int) ≤ (k : Int) := by omega
        have j2 : (k : Int) < (n : Int) := by omega
        have q1 := keepC hbw b hb
        have q2 := keepC hbw b' hb'
        cases hdd : (d == d')
        · have hne : d ≠ d' := by simpa using hdd
          go_wp2
          go_quiet (fail)
          go_wp2
          go_ret
          refine ⟨ret_eq (bool_eq ?_), by (repeat (first | (with_reducible assumption) | (with_reducible exact Below.refl _ _) | exact Nat.le_refl _ | exact Below.size (by with_reducible assumption) | (with_reducible refine Below.drew ?_) | (with_reducible refine below_drewN ?_ _) | (with_reducible refine Below.alloc ?_ ?_ _) | (with_reducible refine Below.setCell ?_ ?_ _) | (with_reducible refine le_alloc ?_ _) | (with_reducible refine le_set ?_ _ _) | (with_reducible refine le_drew ?_) | (with_reducible refine le_drewN ?_ _) | omega | (dsimp only; omega)))⟩
          symm
          apply decide_eq_false
          intro e
          have := Hd.out
          rw [e, Hd'.out] at this
          exact hne (Option.some.inj this).symm
        · obtain rfl : d = d' := by simpa using hdd
          clear hdd
          go_wp2
          go_quiet (fail)
          go_wp2
          go_roundw
          case rel =>
            refine ⟨k + 1, by omega, by go_num, ?_, by (repeat (first | (with_reducible assumption) | (with_reducible exact Below.refl _ _) | exact Nat.le_refl _ | exact Below.size (by with_reducible assumption) | (with_reducible refine Below.drew ?_) | (with_reducible refine below_drewN ?_ _) | (with_reducible refine Below.alloc ?_ ?_ _) | (with_reducible refine Below.setCell ?_ ?_ _) | (with_reducible refine le_alloc ?_ _) | (with_reducible refine le_set ?_ _ _) | (with_reducible refine le_drew ?_) | (with_reducible refine le_drewN ?_ _) | omega | (dsimp only; omega)))⟩
            intro j hj
            by_cases hjk : j < k
            · exact Hok.out j hjk
            · obtain rfl : j = k := by omega
              rw [Hd.out, Hd'.out]
          case measure => simp [intOf]; omega
      · obtain rfl : k = n := by omega
        have hxy : xs = ys := by
          apply List.ext_getElem?
          intro j
          by_cases hj : j < k
          · exact hok j hj
          · rw [List.getElem?_eq_none (by rw [Hl.out]; omega), List.getElem?_eq_none (by rw [Hl'.out]; omega)]
        have Hok := Lib.hid hok; clear hok
        have Hxy := Lib.hid hxy; clear hxy
        go_wp2
        go_ret
        exact ⟨ret_eq (bool_eq (by rw [Hxy.out]; simp)), hbw⟩
  · have hne : ((n : Int) == (n' : Int)) = false := by simp; omega
    have hxy : ¬ xs = ys := fun e => hnn (by rw [← hl, e, hl'])
    have Hl := Lib.hid hl; clear hl
    have Hl' := Lib.hid hl'; clear hl'
    have Hxy := Lib.hid hxy; clear hxy
    go_enter Tryd.func59, Tryd.ntmps59
    go_wp2
    go_ret
    exact ⟨ret_eq (bool_eq (decide_eq_false Hxy.out).symm), Below.refl _ _⟩
set_option maxRecDepth 100000 in
set_option maxHeartbeats 2000000 in
theorem l11Rhythm_c (b off : Nat) (A : Option Addr) (n c : Nat) (x : Ch) (kd q : Int) (A' : Option Addr) (m c' : Nat) (ys : List Int) (w : World) (h : ChP w b off A n c x) (h' : Sl w w.heap.size 1 A' m (ys.flatMap intC)) (hm : m ≤ 1048576) :
    Calls Tryd.prog 39 #[.pointer (some ⟨b, off, none⟩), .int .i64 kd, .slice A' m c', .int .i64 q] w fun e w' => e = .returned (.bool ((x.k == kd) && (decide (x.gs = ys) && (decide (q < 0) || x.p == q)))) ∧ Below w.heap.size w w' := by
  obtain ⟨G, hG⟩ : ∃ G, decide (x.gs = ys) = G := ⟨_, rfl⟩
  have hS : ∀ w1, Below w.heap.size w w1 → Calls Tryd.prog 59 #[.slice A n c, .slice A' m c'] w1 fun e w' => e = .returned (.bool G) ∧ Below w1.heap.size w1 w' := fun w1 hb => hG ▸ sameR_c A A' n m c c' x.gs ys w1 (h.sl.next hb) (h'.next hb) h.hn hm
  rw [hG]
  obtain ⟨c0, c1, c2, c3, c4, hb, -, -, -, -⟩ := h
  have e1 : ∀ {w' : World}, Below w.heap.size w w' → Below w.heap.size w w' ∧ (∀ i, w'.cell? ⟨b, i, none⟩ = w.cell? ⟨b, i, none⟩) := fun hbb => ⟨hbb, keepC hbb b hb⟩
  have HS := Lib.hid hS; clear hS
  clear hG h'
  cases hk : (x.k == kd)
  · go_enter Tryd.func39, Tryd.ntmps39
    go_wp2_with fail
    go_ret
    exact ⟨ret_eq (bool_eq (by simp)), Below.refl _ _⟩
  · cases G
    · go_enter Tryd.func39, Tryd.ntmps39
      go_wp2_with fail
      refine (HS.out _ (Below.refl _ _)).mono ?_
      rintro e w7 ⟨rfl, hb7⟩
      have r7 := keepC hb7 b hb
      go_wp2_with fail
      go_ret
      exact ⟨ret_eq (bool_eq (by first | (simp; done) | (simp_all; done) | (simp; exact .inl (by assumption)))), hb7⟩
    · by_cases hq : q < 0
      · have hq' : decide (q < 0) = true := decide_eq_true hq
        go_enter Tryd.func39, Tryd.ntmps39
        go_wp2_with fail
        refine (HS.out _ (Below.refl _ _)).mono ?_
        rintro e w7 ⟨rfl, hb7⟩
        have r7 := keepC hb7 b hb
        go_wp2_with fail
        go_ret
        exact ⟨ret_eq (bool_eq (by first | (simp; done) | (simp_all; done) | (simp; exact .inl (by assumption)))), hb7⟩
      · have hq' : decide (q < 0) = false := decide_eq_false hq
        cases hp : (x.p == q)
        · go_enter Tryd.func39, Tryd.ntmps39
          go_wp2_with fail
          refine (HS.out _ (Below.refl _ _)).mono ?_
          rintro e w7 ⟨rfl, hb7⟩
          have r7 := keepC hb7 b hb
          go_wp2_with fail
          go_ret
          exact ⟨ret_eq (bool_eq (by first | (simp; done) | (simp_all; done) | (simp; exact .inl (by assumption)))), hb7⟩
        · go_enter Tryd.func39, Tryd.ntmps39
          go_wp2_with fail
          refine (HS.out _ (Below.refl _ _)).mono ?_
          rintro e w7 ⟨rfl, hb7⟩
          have r7 := keepC hb7 b hb
          go_wp2_with fail
          go_ret
          exact ⟨ret_eq (bool_eq (by first | (simp; done) | (simp_all; done) | (simp; exact .inl (by assumption)))), hb7⟩
end Go.Proofs.YtomjdkjkdmieaaaDoor
