/- CfPG: several of my texts in one. -/
import Derived.Test.YtpfnnjcochhklaaGreatDoorMarkG
import Derived.Test.YtpfnnjcochhklaaGreatDoorAidI
import Derived.Test.YtpfnnjcochhklaaGreatDoorSecLaw
import Derived.Test.YtpfnnjcochhklaaGreatDoorIntS
import Derived.Deep.QuietTactic
import Derived.BigQuiet
import Derived.Test.YtpfnnjcochhklaaGreatDoorApp
import Derived.Test.YtpfnnjcochhklaaGreatDoorFdP

/- Two aids compared: the reference's and the program's own comparisons. -/
namespace Go.Proofs.YtpfnnjcochhklaaGreatDoor
open Go.RowKit
theorem pointHeld : Tryz.prog.stoodInHeld 49 = false := by kernel_rfl
theorem pointGuard : Tryz.prog.eqGuardType Tryz.prog.depth 49 = false := by kernel_rfl
theorem eql_point (x y u v : Int) (w : World) : (binOp .eql 49 (ptV x y) (ptV u v)).run Tryz.prog w = .ok (.bool (x == u && y == v)) w := by
  rw [run_eql_struct]
  have := pointHeld
  go_simp
  by_cases h1 : x = u <;> by_cases h2 : y = v <;> simp [h1, h2]
def mkSame (m n : Mk) : Bool := (m.k == n.k) && ((m.cs.toList == n.cs.toList) && ((m.sh.toList == n.sh.toList) && (m.tp.toList == n.tp.toList)))
theorem eql_mark (m n : Mk) (w : World) : (binOp .eql 51 m.val n.val).run Tryz.prog w = .ok (.bool (mkSame m n)) w := by
  obtain ⟨k, a, b, c⟩ := m
  obtain ⟨k', a', b', c'⟩ := n
  rw [run_eql_struct]
  have := markHeld
  simp only [mkSame]
  go_simp
  by_cases h1 : k = k' <;> by_cases h2 : a.toList = a'.toList <;> by_cases h3 : b.toList = b'.toList <;> by_cases h4 : c.toList = c'.toList <;> simp [h1, h2, h3, h4]
/-- Two aids are equal; what is said of their characters and sectors comes from outside. -/
def aidSame0 (a b : AidX) (C S : Bool) : Bool := (a.num == b.num) && ((a.nm.toList == b.nm.toList) && ((a.x == b.x && a.y == b.y) && ((a.h == b.h) && (mkSame a.mr b.mr && (C && (S && (a.it == b.it)))))))
/-- The zero aid. -/
abbrev aidZn : AidG := ⟨⟨0, ⟨#[]⟩, 0, 0, 0, ⟨0, ⟨#[]⟩, ⟨#[]⟩, ⟨#[]⟩⟩, ⟨0, [], ⟨#[]⟩, ⟨#[]⟩, 0⟩, [], 0⟩, none, 0, none, 0⟩
def aidNil (a : AidX) : Bool := aidSame0 a aidZn.a (sameCh a.ch aidZn.a.ch) ((a.secs.length : Int) == 0)
theorem aidzn_ok (w : World) : AidOk w aidZn := ⟨Sl.none_, Sl.none_, ⟨by decide, by decide, by decide, by decide, by decide, by decide, by decide, by decide, by simp⟩⟩
set_option maxHeartbeats 400000 in
theorem l00SameNil_c (A : Option Addr) (n c : Nat) (w : World) (hm : n ≤ 1048576) :
    Calls Tryz.prog 81 #[.slice A n c, .slice none 0 0] w fun e w' => e = .returned (.bool ((n : Int) == 0)) ∧ w = w' := by
  by_cases h0 : n = 0
  · subst h0
    go_enter Tryz.func81, Tryz.ntmps81
    go_wp2
    go_loopw [5] (fun i wr => i = .int .i64 0 ∧ w = wr) (fun _ _ => 0)
    case atStart => exact ⟨rfl, rfl⟩
    case round =>
      obtain ⟨rfl, rfl⟩ := hrel
      go_wp2
      go_ret
      exact ⟨rfl, rfl⟩
  · have e0 : ((n : Int) == 0) = false := by simpa using h0
    have e1 : ((n : Int) != 0) = true := by simpa using h0
    rw [e0]
    go_enter Tryz.func81, Tryz.ntmps81
    go_wp2
    go_ret
    exact ⟨rfl, rfl⟩
set_option maxHeartbeats 400000 in
theorem specSecNil_c (A : Option Addr) (n c : Nat) (w : World) (hm : n ≤ 1048576) :
    Calls Tryz.prog 51 #[.slice A n c, .slice none 0 0] w fun e w' => e = .returned (.bool ((n : Int) == 0)) ∧ w = w' := by
  by_cases h0 : n = 0
  · subst h0
    go_enter Tryz.func51, Tryz.ntmps51
    go_wp2
    go_loopw [5] (fun i wr => i = .int .i64 0 ∧ w = wr) (fun _ _ => 0)
    case atStart => exact ⟨rfl, rfl⟩
    case round =>
      obtain ⟨rfl, rfl⟩ := hrel
      go_wp2
      go_ret
      exact ⟨rfl, rfl⟩
  · have e0 : ((n : Int) == 0) = false := by simpa using h0
    have e1 : ((n : Int) != 0) = true := by simpa using h0
    rw [e0]
    go_enter Tryz.func51, Tryz.ntmps51
    go_wp2
    go_ret
    exact ⟨rfl, rfl⟩
set_option maxHeartbeats 400000 in
theorem implSecNil_c (A : Option Addr) (n c : Nat) (w : World) (hm : n ≤ 1048576) :
    Calls Tryz.prog 80 #[.slice A n c, .slice none 0 0] w fun e w' => e = .returned (.bool ((n : Int) == 0)) ∧ w = w' := by
  by_cases h0 : n = 0
  · subst h0
    go_enter Tryz.func80, Tryz.ntmps80
    go_wp2
    go_loopw [13] (fun i wr => i = .int .i64 0 ∧ w = wr) (fun _ _ => 0)
    case atStart => exact ⟨rfl, rfl⟩
    case round =>
      obtain ⟨rfl, rfl⟩ := hrel
      go_wp2
      go_ret
      exact ⟨rfl, rfl⟩
  · have e0 : ((n : Int) == 0) = false := by simpa using h0
    have e1 : ((n : Int) != 0) = true := by simpa using h0
    rw [e0]
    go_enter Tryz.func80, Tryz.ntmps80
    go_wp2
    go_ret
    exact ⟨rfl, rfl⟩
set_option maxRecDepth 100000 in
set_option maxHeartbeats 1000000 in
theorem l05Same_w (b off b' off' : Nat) (A A' : Option Addr) (n n' c c' : Nat) (x y : Ch) (G : Bool) (w : World) (h : ChP w b off A n c x) (h' : ChP w b' off' A' n' c' y)
    (hS : ∀ w1, Calls Tryz.prog 81 #[.slice A n c, .slice A' n' c'] w1 fun e w' => e = .returned (.bool G) ∧ w1 = w') (hG : decide (x.gs = y.gs) = G) :
    Calls Tryz.prog 50 #[.pointer (some ⟨b, off, none⟩), .pointer (some ⟨b', off', none⟩)] w fun e w' => e = .returned (.bool (sameCh x y)) ∧ ∃ k, w' = w.drewN k := by
  have hv : sameCh x y = ((x.k == y.k) && (G && ((x.l.toList == y.l.toList) && ((x.cs.toList == y.cs.toList) && (x.p == y.p))))) := by rw [sameCh, hG]
  rw [hv]
  obtain ⟨c0, c1, c2, c3, c4, hb, _, _, _, _⟩ := h
  obtain ⟨d0, d1, d2, d3, d4, hb', _, _, _, _⟩ := h'
  have Hv := Lib.hid hv; clear hv
  have HS := Lib.hid hS; clear hS
  have HG := Lib.hid hG; clear hG
  cases h1 : (x.k == y.k)
  · go_enter Tryz.func50, Tryz.ntmps50
    go_wp2
    go_quiet ((go_at_call 81; exact quiet_c (HS.out _)))
    go_wp2
    go_ret
    exact ⟨rfl, _, rfl⟩
  cases G
  · go_enter Tryz.func50, Tryz.ntmps50
    go_wp2
    go_quiet ((go_at_call 81; exact quiet_c (HS.out _)))
    go_wp2
    go_ret
    exact ⟨rfl, _, rfl⟩
  cases h2 : (x.l.toList == y.l.toList)
  · go_enter Tryz.func50, Tryz.ntmps50
    go_wp2
    go_quiet ((go_at_call 81; exact quiet_c (HS.out _)))
    go_wp2
    go_ret
    exact ⟨rfl, _, rfl⟩
  cases h3 : (x.cs.toList == y.cs.toList)
  · go_enter Tryz.func50, Tryz.ntmps50
    go_wp2
    go_quiet ((go_at_call 81; exact quiet_c (HS.out _)))
    go_wp2
    go_ret
    exact ⟨rfl, _, rfl⟩
  · go_enter Tryz.func50, Tryz.ntmps50
    go_wp2
    go_quiet ((go_at_call 81; exact quiet_c (HS.out _)))
    go_wp2
    go_ret
    exact ⟨ret_eq (bool_eq (by simp)), _, rfl⟩
end Go.Proofs.YtpfnnjcochhklaaGreatDoor

/- Rows of integers and of sectors compared: the reference draws only, the program, too. -/
namespace Go.Proofs.YtpfnnjcochhklaaGreatDoor
open Go.RowKit
theorem take_eq_next {α : Type} {xs ys : List α} {k : Nat} {a b : α} (ht : xs.take k = ys.take k) (h1 : xs[k]? = some a) (h2 : ys[k]? = some b) (e : a = b) : xs.take (k + 1) = ys.take (k + 1) := by
  rw [List.take_add_one, List.take_add_one, ht, h1, h2, e]
theorem ne_of_next {α : Type} {xs ys : List α} {k : Nat} {a b : α} (h1 : xs[k]? = some a) (h2 : ys[k]? = some b) (e : a ≠ b) : xs ≠ ys := fun h => by
  rw [h, h2] at h1; exact e (Option.some.inj h1).symm
instance : DecidableEq Sec := fun a b => by
  cases a; cases b
  simp only [Sec.mk.injEq]
  infer_instance
def Sec.same (s t : Sec) : Bool := (s.f == t.f) && ((s.t == t.t) && (s.c.toList == t.c.toList))
theorem Sec.same_eq (s t : Sec) : s.same t = decide (s = t) := by
  cases s; cases t
  simp only [Sec.same, ba_beq, Sec.mk.injEq]
  rw [Bool.eq_iff_iff]
  simp
theorem secHeld : Tryz.prog.stoodInHeld 94 = false := by kernel_rfl
theorem secGuard : Tryz.prog.eqGuardType Tryz.prog.depth 94 = false := by kernel_rfl
theorem neq_sec (d e : Sec) (w : World) : (binOp .neq 94 (.agg #[.int .i64 d.f, .int .i64 d.t, .string d.c]) (.agg #[.int .i64 e.f, .int .i64 e.t, .string e.c])).run Tryz.prog w = .ok (.bool (!d.same e)) w := by
  obtain ⟨s, f, u⟩ := d
  obtain ⟨t, g, v⟩ := e
  rw [run_neq_struct]
  simp only [Sec.same]
  have := secHeld
  go_simp
  by_cases h1 : s = t <;> by_cases h2 : f = g <;> by_cases h3 : u.toList = v.toList <;> simp [h1, h2, h3]
set_option maxRecDepth 100000 in
set_option maxHeartbeats 1000000 in
theorem sameQ_c (A A' : Option Addr) (n n' c c' : Nat) (xs ys : List Int) (w : World) (h : Sl w w.heap.size 1 A n (xs.flatMap intC)) (h' : Sl w w.heap.size 1 A' n' (ys.flatMap intC)) (hm : n ≤ 1048576) (hm' : n' ≤ 1048576) :
    Calls Tryz.prog 81 #[.slice A n c, .slice A' n' c'] w fun e w' => e = .returned (.bool (decide (xs = ys))) ∧ ∃ m, w' = w.drewN m := by
  have l1 := h.len intC 1 (fun _ => rfl) (by omega)
  have l2 := h'.len intC 1 (fun _ => rfl) (by omega)
  have L1 := Lib.hid l1; clear l1
  have L2 := Lib.hid l2; clear l2
  by_cases hnn : n = n'
  · subst hnn
    go_enter Tryz.func81, Tryz.ntmps81
    go_wp2
    go_loopw [5] (fun i wr => ∃ k : Nat, k ≤ n ∧ i = .int .i64 k ∧ Hid (xs.take k = ys.take k) ∧ ∃ m, wr = w.drewN m) (fun i _ => n - (intOf i).toNat)
    case atStart => exact ⟨0, Nat.zero_le _, rfl, Lib.hid rfl, 0, rfl⟩
    case round =>
      obtain ⟨k, hk, rfl, Ht, m0, rfl⟩ := hrel
      by_cases hlt : k < n
      · obtain ⟨b, off, d, rfl, _, hd, c1⟩ := h.int k hlt
        obtain ⟨b', off', d', rfl, _, hd', c1'⟩ := h'.int k hlt
        have Hd := Lib.hid hd; clear hd
        have Hd' := Lib.hid hd'; clear hd'
        have j1 : (0 : Int) ≤ (k : Int) := by omega
        have j2 : (k : Int) < (n : Int) := by omega
        by_cases hdd : d = d'
        · have DE := decide_eq_true hdd
          have g1 : (d != d') = !decide (d = d') := rfl
          rw [DE] at g1
          first | rw [Bool.not_true] at g1 | rw [Bool.not_false] at g1
          clear DE
          have Hdd := Lib.hid hdd; clear hdd
          go_wp2
          go_quiet (fail)
          go_wp2
          go_roundw
          case rel => exact ⟨k + 1, by omega, by go_num, Lib.hid (take_eq_next Ht.out Hd.out Hd'.out Hdd.out), m0 + nq, by first | rfl | rw [World.drewN_drewN]⟩
          case measure => simp [intOf]; omega
        · have DE := decide_eq_false hdd
          have g1 : (d != d') = !decide (d = d') := rfl
          rw [DE] at g1
          first | rw [Bool.not_true] at g1 | rw [Bool.not_false] at g1
          clear DE
          have Hdd := Lib.hid hdd; clear hdd
          go_wp2
          go_quiet (fail)
          go_wp2
          go_ret
          exact ⟨ret_eq (bool_eq (decide_eq_false (ne_of_next Hd.out Hd'.out Hdd.out)).symm), m0 + nq, by first | rfl | rw [World.drewN_drewN]⟩
      · obtain rfl : k = n := by omega
        go_wp2
        go_ret
        have ht := Ht.out
        rw [List.take_of_length_le (by rw [L1.out]; omega), List.take_of_length_le (by rw [L2.out]; omega)] at ht
        exact ⟨ret_eq (bool_eq (decide_eq_true ht).symm), m0, rfl⟩
  · go_enter Tryz.func81, Tryz.ntmps81
    go_wp2
    go_ret
    refine ⟨ret_eq (bool_eq (decide_eq_false (fun e => hnn ?_)).symm), 0, rfl⟩
    rw [← L1.out, ← L2.out, e]
set_option maxRecDepth 100000 in
set_option maxHeartbeats 1000000 in
theorem secsQ_c (A A' : Option Addr) (n n' c c' : Nat) (xs ys : List Sec) (w : World) (h : Sl w w.heap.size 3 A n (xs.flatMap Sec.cells)) (h' : Sl w w.heap.size 3 A' n' (ys.flatMap Sec.cells)) (hm : n ≤ 1048576) (hm' : n' ≤ 1048576) :
    Calls Tryz.prog 51 #[.slice A n c, .slice A' n' c'] w fun e w' => e = .returned (.bool (decide (xs = ys))) ∧ ∃ m, w' = w.drewN m := by
  have l1 := h.len Sec.cells 3 (fun _ => rfl) (by omega)
  have l2 := h'.len Sec.cells 3 (fun _ => rfl) (by omega)
  have L1 := Lib.hid l1; clear l1
  have L2 := Lib.hid l2; clear l2
  by_cases hnn : n = n'
  · subst hnn
    go_enter Tryz.func51, Tryz.ntmps51
    go_wp2
    go_loopw [5] (fun i wr => ∃ k : Nat, k ≤ n ∧ i = .int .i64 k ∧ Hid (xs.take k = ys.take k) ∧ ∃ m, wr = w.drewN m) (fun i _ => n - (intOf i).toNat)
    case atStart => exact ⟨0, Nat.zero_le _, rfl, Lib.hid rfl, 0, rfl⟩
    case round =>
      obtain ⟨k, hk, rfl, Ht, m0, rfl⟩ := hrel
      by_cases hlt : k < n
      · obtain ⟨b, off, d, rfl, _, hd, c1, c2, c3⟩ := h.sec k hlt
        obtain ⟨b', off', d', rfl, _, hd', c1', c2', c3'⟩ := h'.sec k hlt
        have Hd := Lib.hid hd; clear hd
        have Hd' := Lib.hid hd'; clear hd'
        have j1 : (0 : Int) ≤ (k : Int) := by omega
        have j2 : (k : Int) < (n : Int) := by omega
        by_cases hdd : d = d'
        · have DE := decide_eq_true hdd
          have hq := neq_sec d d'
          rw [Sec.same_eq, DE] at hq
          first | rw [Bool.not_true] at hq | rw [Bool.not_false] at hq
          have hg := secGuard
          clear DE
          have Hdd := Lib.hid hdd; clear hdd
          go_wp2
          go_quiet (fail)
          go_wp2
          go_roundw
          case rel => exact ⟨k + 1, by omega, by go_num, Lib.hid (take_eq_next Ht.out Hd.out Hd'.out Hdd.out), m0 + nq, by first | rfl | rw [World.drewN_drewN]⟩
          case measure => simp [intOf]; omega
        · have DE := decide_eq_false hdd
          have hq := neq_sec d d'
          rw [Sec.same_eq, DE] at hq
          first | rw [Bool.not_true] at hq | rw [Bool.not_false] at hq
          have hg := secGuard
          clear DE
          have Hdd := Lib.hid hdd; clear hdd
          go_wp2
          go_quiet (fail)
          go_wp2
          go_ret
          exact ⟨ret_eq (bool_eq (decide_eq_false (ne_of_next Hd.out Hd'.out Hdd.out)).symm), m0 + nq, by first | rfl | rw [World.drewN_drewN]⟩
      · obtain rfl : k = n := by omega
        go_wp2
        go_ret
        have ht := Ht.out
        rw [List.take_of_length_le (by rw [L1.out]; omega), List.take_of_length_le (by rw [L2.out]; omega)] at ht
        exact ⟨ret_eq (bool_eq (decide_eq_true ht).symm), m0, rfl⟩
  · go_enter Tryz.func51, Tryz.ntmps51
    go_wp2
    go_ret
    refine ⟨ret_eq (bool_eq (decide_eq_false (fun e => hnn ?_)).symm), 0, rfl⟩
    rw [← L1.out, ← L2.out, e]
set_option maxRecDepth 100000 in
set_option maxHeartbeats 1000000 in
theorem secsI_c (A A' : Option Addr) (n n' c c' : Nat) (xs ys : List Sec) (w : World) (h : Sl w w.heap.size 3 A n (xs.flatMap Sec.cells)) (h' : Sl w w.heap.size 3 A' n' (ys.flatMap Sec.cells)) (hm : n ≤ 1048576) (hm' : n' ≤ 1048576) :
    Calls Tryz.prog 80 #[.slice A n c, .slice A' n' c'] w fun e w' => e = .returned (.bool (decide (xs = ys))) ∧ ∃ m, w' = w.drewN m := by
  have l1 := h.len Sec.cells 3 (fun _ => rfl) (by omega)
  have l2 := h'.len Sec.cells 3 (fun _ => rfl) (by omega)
  have L1 := Lib.hid l1; clear l1
  have L2 := Lib.hid l2; clear l2
  by_cases hnn : n = n'
  · subst hnn
    go_enter Tryz.func80, Tryz.ntmps80
    go_wp2
    go_loopw [5, 13] (fun _ i wr => ∃ k : Nat, k ≤ n ∧ i = .int .i64 k ∧ Hid (xs.take k = ys.take k) ∧ ∃ m, wr = w.drewN m) (fun _ i _ => n - (intOf i).toNat)
    case atStart => exact ⟨0, Nat.zero_le _, rfl, Lib.hid rfl, 0, rfl⟩
    case round =>
      obtain ⟨k, hk, rfl, Ht, m0, rfl⟩ := hrel
      by_cases hlt : k < n
      · obtain ⟨b, off, d, rfl, _, hd, c1, c2, c3⟩ := h.sec k hlt
        obtain ⟨b', off', d', rfl, _, hd', c1', c2', c3'⟩ := h'.sec k hlt
        have Hd := Lib.hid hd; clear hd
        have Hd' := Lib.hid hd'; clear hd'
        have j1 : (0 : Int) ≤ (k : Int) := by omega
        have j2 : (k : Int) < (n : Int) := by omega
        by_cases hdd : d = d'
        · have DE := decide_eq_true hdd
          have hq := neq_sec d d'
          rw [Sec.same_eq, DE] at hq
          first | rw [Bool.not_true] at hq | rw [Bool.not_false] at hq
          have hg := secGuard
          clear DE
          have Hdd := Lib.hid hdd; clear hdd
          go_wp2
          go_quiet (fail)
          go_wp2
          go_roundw
          case rel => exact ⟨k + 1, by omega, by go_num, Lib.hid (take_eq_next Ht.out Hd.out Hd'.out Hdd.out), m0 + nq, by first | rfl | rw [World.drewN_drewN]⟩
          case measure => simp [intOf]; omega
        · have DE := decide_eq_false hdd
          have hq := neq_sec d d'
          rw [Sec.same_eq, DE] at hq
          first | rw [Bool.not_true] at hq | rw [Bool.not_false] at hq
          have hg := secGuard
          clear DE
          have Hdd := Lib.hid hdd; clear hdd
          go_wp2
          go_quiet (fail)
          go_wp2
          go_ret
          exact ⟨ret_eq (bool_eq (decide_eq_false (ne_of_next Hd.out Hd'.out Hdd.out)).symm), m0 + nq, by first | rfl | rw [World.drewN_drewN]⟩
      · obtain rfl : k = n := by omega
        go_wp2
        go_ret
        have ht := Ht.out
        rw [List.take_of_length_le (by rw [L1.out]; omega), List.take_of_length_le (by rw [L2.out]; omega)] at ht
        exact ⟨ret_eq (bool_eq (decide_eq_true ht).symm), m0, rfl⟩
  · go_enter Tryz.func80, Tryz.ntmps80
    go_wp2
    go_ret
    refine ⟨ret_eq (bool_eq (decide_eq_false (fun e => hnn ?_)).symm), 0, rfl⟩
    rw [← L1.out, ← L2.out, e]
end Go.Proofs.YtpfnnjcochhklaaGreatDoor

/- A number put to its place among rising ones: the reference's l00Put. -/
namespace Go.Proofs.YtpfnnjcochhklaaGreatDoor
open Go.RowKit
def putL : List Int → Int → List Int
  | [], n => [n]
  | x :: r, n => if x < n then x :: putL r n else if x = n then x :: r else n :: x :: r
theorem putL_len : ∀ (l : List Int) (n : Int), (putL l n).length ≤ l.length + 1
  | [], n => by simp [putL]
  | x :: r, n => by
    have := putL_len r n
    rw [putL]
    split
    · simp only [List.length_cons]; omega
    · split <;> simp
set_option maxRecDepth 100000 in
set_option maxHeartbeats 2000000 in
theorem l00Put_c (A : Option Addr) (n c : Nat) (xs : List Int) (v : Int) (w : World) (h : Sl w w.heap.size 1 A n (xs.flatMap intC)) (hm : n ≤ 1000) :
    Calls Tryz.prog 91 #[.slice A n c, .int .i64 v] w fun e w' => ∃ r, e = .returned r ∧ w'.ownsRow w.heap.size 2 1 r (putL xs v).length ((putL xs v).flatMap intC) ∧ Below w.heap.size w w' := by
  obtain ⟨p0, hp, hy0, hy1, hy2⟩ := info_parts intInfo
  have hl := h.len intC 1 (fun _ => rfl) (by omega)
  have hov := World.ownsRow_made (base := w.heap.size) (e := 2) (size := 1) w #[] 0 (Nat.le_refl _) (by simp [maxLen]) rfl
  have hbv : Below w.heap.size w (w.alloc (.cells #[] 2)) := (Below.refl _ _).alloc (Nat.le_refl _) _
  have Hl := Lib.hid hl; clear hl
  go_enter Tryz.func91, Tryz.ntmps91
  go_wp2_with fail
  go_loopw [5, 6, 7] (fun y q i wr => ∃ (k : Nat) (out : List Int) (D : Bool), k ≤ n ∧ i = .int .i64 k ∧ q = .bool D ∧ Hid (putL xs v = out ++ (if D then xs.drop k else putL (xs.drop k) v)) ∧ out.length ≤ k + D.toNat ∧ wr.ownsRow w.heap.size 2 1 y out.length (out.flatMap intC) ∧ Below w.heap.size w wr) (fun _ _ i _ => n - (intOf i).toNat)
  case atStart => exact ⟨0, [], false, Nat.zero_le _, rfl, rfl, Lib.hid (by simp), by simp, hov, hbv⟩
  case round =>
    clear hov hbv
    obtain ⟨k, out, D, hk, rfl, rfl, Hp, ho, hov, hbw⟩ := hrel
    obtain ⟨A3, c3, rfl⟩ := own_slice hov
    have hDb : D.toNat ≤ 1 := by cases D <;> decide
    by_cases hlt : k < n
    · obtain ⟨b, off, x, rfl, hb, hx, cx⟩ := h.int k hlt
      have q := keepC hbw b hb
      have i0 : (0 : Int) ≤ (k : Int) := by omega
      have i1 : (k : Int) < (n : Int) := by omega
      have hd : xs.drop k = x :: xs.drop (k + 1) := by
        obtain ⟨hk2, e⟩ := List.getElem?_eq_some_iff.1 hx
        rw [List.drop_eq_getElem_cons hk2, e]
      have e63 : out.length + 1 ≤ maxLen := by unfold maxLen; omega
      have e32 : (out.length + 1) * 8 ≤ 140737488355328 := by omega
      have f63 : out.length + 1 + 1 ≤ maxLen := by unfold maxLen; omega
      have f32 : (out.length + 1 + 1) * 8 ≤ 140737488355328 := by omega
      have Hd := Lib.hid hd; clear hd
      have Hx := Lib.hid hx; clear hx
      have E63 := Lib.hid e63; clear e63
      have E32 := Lib.hid e32; clear e32
      have F63 := Lib.hid f63; clear f63
      have F32 := Lib.hid f32; clear f32
      cases D with
      | true =>
        simp only [Bool.toNat_true] at ho
        go_wp2_with (at_builtin; refine wpl_append _ rfl (.tmp 35) (.tmp 40) _ rfl (w.heap.size) 2 p0 _ 1 8 Tryz.underlying30 hp hy0 hy1 hy2 rfl (by omega) _ (out.length) _ rfl ((hov).alloc _) ((wr).heap.size + 1) (some ⟨(wr).heap.size, 0, none⟩) 1 1 (intC (x)) rfl (Sl.new (wr) 2 _ 1 1 rfl) (intC_one _) E63.out E32.out (le_alloc hbw.size _) ?_; intro v4 w4 ho4 hg4 hat4)
        go_roundw
        case rel =>
          refine ⟨k + 1, (out ++ [x]), true, by omega, by go_num, rfl, Lib.hid ?_, ?_, ?_, ?_⟩
          · have := Hp.out
            rw [if_pos rfl, Hd.out] at this
            rw [this]; simp
          · simp; omega
          · rw [List.flatMap_append]; simpa using ho4
          · exact (hbw.alloc hbw.size _).grown hg4 (le_alloc hbw.size _) fun g hg => (hov.lt g hg).1
        case measure => simp [intOf]; omega
      | false =>
        simp only [Bool.toNat_false] at ho
        have hpp := Hp.out
        rw [Hd.out] at hpp
        simp only [Bool.false_eq_true, if_false, putL] at hpp
        rcases Int.lt_trichotomy x v with hc | hc | hc
        · rw [if_pos hc] at hpp
          have Hpp := Lib.hid hpp; clear hpp
          go_wp2_with (at_builtin; refine wpl_append _ rfl (.tmp 35) (.tmp 40) _ rfl (w.heap.size) 2 p0 _ 1 8 Tryz.underlying30 hp hy0 hy1 hy2 rfl (by omega) _ (out.length) _ rfl ((hov).alloc _) ((wr).heap.size + 1) (some ⟨(wr).heap.size, 0, none⟩) 1 1 (intC (x)) rfl (Sl.new (wr) 2 _ 1 1 rfl) (intC_one _) E63.out E32.out (le_alloc hbw.size _) ?_; intro v4 w4 ho4 hg4 hat4)
          go_roundw
          case rel =>
            refine ⟨k + 1, (out ++ [x]), false, by omega, by go_num, rfl, Lib.hid ?_, ?_, ?_, ?_⟩
            · rw [Hpp.out]; simp
            · simp; omega
            · rw [List.flatMap_append]; simpa using ho4
            · exact (hbw.alloc hbw.size _).grown hg4 (le_alloc hbw.size _) fun g hg => (hov.lt g hg).1
          case measure => simp [intOf]; omega
        · rw [if_neg (by omega), if_pos hc] at hpp
          have Hpp := Lib.hid hpp; clear hpp
          have hc1 : ¬ x < v := by omega
          have hc2 : ¬ v < x := by omega
          subst hc
          go_wp2_with (at_builtin; refine wpl_append _ rfl (.tmp 35) (.tmp 40) _ rfl (w.heap.size) 2 p0 _ 1 8 Tryz.underlying30 hp hy0 hy1 hy2 rfl (by omega) _ (out.length) _ rfl ((hov).alloc _) ((wr).heap.size + 1) (some ⟨(wr).heap.size, 0, none⟩) 1 1 (intC (x)) rfl (Sl.new (wr) 2 _ 1 1 rfl) (intC_one _) E63.out E32.out (le_alloc hbw.size _) ?_; intro v4 w4 ho4 hg4 hat4)
          go_roundw
          case rel =>
            refine ⟨k + 1, (out ++ [x]), true, by omega, by go_num, rfl, Lib.hid ?_, ?_, ?_, ?_⟩
            · rw [Hpp.out]; simp
            · simp; omega
            · rw [List.flatMap_append]; simpa using ho4
            · exact (hbw.alloc hbw.size _).grown hg4 (le_alloc hbw.size _) fun g hg => (hov.lt g hg).1
          case measure => simp [intOf]; omega
        · rw [if_neg (by omega), if_neg (by omega)] at hpp
          have Hpp := Lib.hid hpp; clear hpp
          have hc1 : ¬ x < v := by omega
          go_wp2_with ((at_builtin; refine wpl_append _ rfl (.tmp 31) (.tmp 33) _ rfl (w.heap.size) 2 p0 _ 1 8 Tryz.underlying30 hp hy0 hy1 hy2 rfl (by omega) _ (out.length) _ rfl ((hov).alloc _) ((wr).heap.size + 1) (some ⟨(wr).heap.size, 0, none⟩) 1 1 (intC (v)) rfl (Sl.new (wr) 2 _ 1 1 rfl) (intC_one _) E63.out E32.out (le_alloc hbw.size _) ?_; intro v4 w4 ho4 hg4 hat4); refine Hid.out ?_)
          refine Lib.hid ?_
          have hbw4 := (hbw.alloc hbw.size _).grown hg4 (le_alloc hbw.size _) fun g hg => (hov.lt g hg).1
          have ho5 : w4.ownsRow w.heap.size 2 1 v4 (out.length + 1) ((out ++ [v]).flatMap intC) := by
            rw [List.flatMap_append]; simpa using ho4
          obtain ⟨A5, c5, rfl⟩ := own_slice ho5
          have q5 := keepC hbw4 b hb
          clear ho4 hg4 hat4 q
          go_wp2_with (at_builtin; refine wpl_append _ rfl (.tmp 35) (.tmp 40) _ rfl (w.heap.size) 2 p0 _ 1 8 Tryz.underlying30 hp hy0 hy1 hy2 rfl (by omega) _ ((out.length + 1)) _ rfl ((ho5).alloc _) ((w4).heap.size + 1) (some ⟨(w4).heap.size, 0, none⟩) 1 1 (intC (x)) rfl (Sl.new (w4) 2 _ 1 1 rfl) (intC_one _) F63.out F32.out (le_alloc hbw4.size _) ?_; intro v6 w6 ho6 hg6 hat6)
          go_roundw
          case rel =>
            refine ⟨k + 1, (out ++ [v] ++ [x]), true, by omega, by go_num, rfl, Lib.hid ?_, ?_, ?_, ?_⟩
            · rw [Hpp.out]; simp
            · simp; omega
            · rw [List.flatMap_append]; simpa using ho6
            · exact (hbw4.alloc hbw4.size _).grown hg6 (le_alloc hbw4.size _) fun g hg => (ho5.lt g hg).1
          case measure => simp [intOf]; omega
    · obtain rfl : k = n := by omega
      have hdn : xs.drop k = [] := List.drop_of_length_le (by rw [Hl.out]; omega)
      have hpp := Hp.out
      rw [hdn] at hpp
      have e63 : out.length + 1 ≤ maxLen := by unfold maxLen; omega
      have e32 : (out.length + 1) * 8 ≤ 140737488355328 := by omega
      have Hdn := Lib.hid hdn; clear hdn
      have E63 := Lib.hid e63; clear e63
      have E32 := Lib.hid e32; clear e32
      cases D with
      | true =>
        rw [if_pos rfl, List.append_nil] at hpp
        have Hpp := Lib.hid hpp; clear hpp
        go_wp2_with fail
        go_ret
        refine ⟨_, rfl, ?_, hbw⟩
        rw [Hpp.out]
        exact hov
      | false =>
        simp only [Bool.false_eq_true, if_false, putL] at hpp
        have Hpp := Lib.hid hpp; clear hpp
        go_wp2_with (at_builtin; refine wpl_append _ rfl (.tmp 44) (.tmp 46) _ rfl (w.heap.size) 2 p0 _ 1 8 Tryz.underlying30 hp hy0 hy1 hy2 rfl (by omega) _ (out.length) _ rfl ((hov).alloc _) ((wr).heap.size + 1) (some ⟨(wr).heap.size, 0, none⟩) 1 1 (intC (v)) rfl (Sl.new (wr) 2 _ 1 1 rfl) (intC_one _) E63.out E32.out (le_alloc hbw.size _) ?_; intro v4 w4 ho4 hg4 hat4)
        go_ret
        refine ⟨_, rfl, ?_, (hbw.alloc hbw.size _).grown hg4 (le_alloc hbw.size _) fun g hg => (hov.lt g hg).1⟩
        rw [Hpp.out, List.flatMap_append]
        simpa using ho4
end Go.Proofs.YtpfnnjcochhklaaGreatDoor

/- Conflicts of two lists of aids, in plain Lean. -/
namespace Go.Proofs.YtpfnnjcochhklaaGreatDoor
open Go.RowKit
def stA (l : List AidX) (v : Int) : AidX := (fdN l v).elim aidZero (aAt l)
def sameX (a b : AidX) : Bool := aidSame0 a b (sameCh a.ch b.ch) (decide (a.secs = b.secs))
theorem sameX_comm (a b : AidX) : sameX a b = sameX b a := by
  have key : ∀ a b : AidX, sameX a b = true → sameX b a = true := fun a b h => by
    simp only [sameX, aidSame0, mkSame, sameCh, Bool.and_eq_true, beq_iff_eq, decide_eq_true_eq] at h ⊢
    obtain ⟨h1, h2, ⟨h3, h4⟩, h5, ⟨h6, h7, h8, h9⟩, ⟨i1, i2, i3, i4, i5⟩, h10, h11⟩ := h
    exact ⟨h1.symm, h2.symm, ⟨h3.symm, h4.symm⟩, h5.symm, ⟨h6.symm, h7.symm, h8.symm, h9.symm⟩, ⟨i1.symm, i2.symm, i3.symm, i4.symm, i5.symm⟩, h10.symm, h11.symm⟩
  rw [Bool.eq_iff_iff]
  exact ⟨key a b, key b a⟩
theorem sameX_num {a b : AidX} (h : a.num ≠ b.num) : sameX a b = false := by
  have : (a.num == b.num) = false := by simpa using h
  rw [sameX, aidSame0, this, Bool.false_and]
theorem stA_num (l : List AidX) (v : Int) : (stA l v).num = if (fdN l v).isSome then v else 0 := by
  unfold stA
  cases h : fdN l v with
  | none => rfl
  | some k =>
    obtain ⟨a, h1, h2, _⟩ := fdN_at h
    simp only [Option.elim_some, Option.isSome_some, if_true, aAt, List.getD_eq_getElem?_getD, h1, Option.getD_some]
    exact h2
def eqB (l m : List AidX) (v : Int) : Bool := ((fdN l v).isSome == (fdN m v).isSome) && sameX (stA l v) (stA m v)
theorem eqB_is (l m : List AidX) {v : Int} (hv : v ≠ 0) : eqB l m v = sameX (stA l v) (stA m v) := by
  unfold eqB
  by_cases h : (fdN l v).isSome = (fdN m v).isSome
  · rw [h]; simp
  · rw [sameX_num, Bool.and_false]
    rw [stA_num, stA_num]
    intro e
    cases h1 : (fdN l v).isSome <;> cases h2 : (fdN m v).isSome <;> rw [h1, h2] at e h <;> simp at e h
    · exact hv e.symm
    · exact hv e
def cflB (base a b : List AidX) (v : Int) : Bool := !sameX (stA base v) (stA a v) && (!sameX (stA base v) (stA b v) && !sameX (stA a v) (stA b v))
theorem cfl_impl (base a b : List AidX) {v : Int} (hv : v ≠ 0) : (!eqB a b v && (!eqB a base v && !eqB b base v)) = cflB base a b v := by
  rw [eqB_is _ _ hv, eqB_is _ _ hv, eqB_is _ _ hv, cflB, sameX_comm (stA base v) (stA a v), sameX_comm (stA base v) (stA b v)]
  cases sameX (stA a v) (stA b v) <;> cases sameX (stA a v) (stA base v) <;> cases sameX (stA b v) (stA base v) <;> rfl
theorem asc_eq : ∀ l m : List Int, l.Pairwise (· < ·) → m.Pairwise (· < ·) → (∀ x, x ∈ l ↔ x ∈ m) → l = m
  | [], [], _, _, _ => rfl
  | [], y :: m, _, _, h => by have := (h y).2 List.mem_cons_self; simp at this
  | x :: l, [], _, _, h => by have := (h x).1 List.mem_cons_self; simp at this
  | x :: l, y :: m, hl, hm, h => by
    have hl' := List.pairwise_cons.1 hl
    have hm' := List.pairwise_cons.1 hm
    have exy : x = y := by
      rcases List.mem_cons.1 ((h x).1 List.mem_cons_self) with h1 | h1
      · exact h1
      · rcases List.mem_cons.1 ((h y).2 List.mem_cons_self) with h2 | h2
        · exact h2.symm
        · have := hm'.1 x h1
          have := hl'.1 y h2
          omega
    subst exy
    congr 1
    refine asc_eq l m hl'.2 hm'.2 fun z => ⟨fun hz => ?_, fun hz => ?_⟩
    · rcases List.mem_cons.1 ((h z).1 (List.mem_cons_of_mem _ hz)) with h1 | h1
      · have := hl'.1 z hz; omega
      · exact h1
    · rcases List.mem_cons.1 ((h z).2 (List.mem_cons_of_mem _ hz)) with h1 | h1
      · have := hm'.1 z hz; omega
      · exact h1
theorem put_mem : ∀ (l : List Int) (n x : Int), x ∈ putL l n ↔ x = n ∨ x ∈ l
  | [], n, x => by simp [putL]
  | y :: r, n, x => by
    rw [putL]
    split
    · rw [List.mem_cons, put_mem r n x, List.mem_cons]
      constructor
      · rintro (h | h | h)
        · exact .inr (.inl h)
        · exact .inl h
        · exact .inr (.inr h)
      · rintro (h | h | h)
        · exact .inr (.inl h)
        · exact .inl h
        · exact .inr (.inr h)
    · split
      · rename_i h
        subst h
        simp
      · simp
theorem put_asc : ∀ (l : List Int) (n : Int), l.Pairwise (· < ·) → (putL l n).Pairwise (· < ·)
  | [], n, _ => by simp [putL]
  | y :: r, n, h => by
    have h' := List.pairwise_cons.1 h
    rw [putL]
    split
    · rename_i hy
      refine List.pairwise_cons.2 ⟨fun z hz => ?_, put_asc r n h'.2⟩
      rcases (put_mem r n z).1 hz with rfl | h2
      · exact hy
      · exact h'.1 z h2
    · split
      · exact h
      · rename_i h1 h2
        refine List.pairwise_cons.2 ⟨fun z hz => ?_, h⟩
        rcases List.mem_cons.1 hz with rfl | h3
        · omega
        · have := h'.1 z h3; omega
def putAll (l : List Int) (xs : List Int) : List Int := xs.foldl putL l
theorem putAll_next (l xs : List Int) {k : Nat} {x : Int} (h : xs[k]? = some x) : putAll l (xs.take (k + 1)) = putL (putAll l (xs.take k)) x := by
  rw [putAll, List.take_add_one, h, List.foldl_append]; rfl
theorem putAll_mem : ∀ (xs l : List Int) (x : Int), x ∈ putAll l xs ↔ x ∈ l ∨ x ∈ xs
  | [], l, x => by simp [putAll]
  | y :: r, l, x => by
    show x ∈ putAll (putL l y) r ↔ _
    rw [putAll_mem r, put_mem, List.mem_cons]
    constructor
    · rintro ((h | h) | h)
      · exact .inr (.inl h)
      · exact .inl h
      · exact .inr (.inr h)
    · rintro (h | h | h)
      · exact .inl (.inr h)
      · exact .inl (.inl h)
      · exact .inr h
theorem putAll_asc : ∀ (xs l : List Int), l.Pairwise (· < ·) → (putAll l xs).Pairwise (· < ·)
  | [], _, h => h
  | y :: r, l, h => putAll_asc r (putL l y) (put_asc l y h)
theorem putAll_len : ∀ (xs l : List Int), (putAll l xs).length ≤ l.length + xs.length
  | [], _ => by simp [putAll]
  | y :: r, l => by
    have h1 := putAll_len r (putL l y)
    have h2 := putL_len l y
    show (putAll (putL l y) r).length ≤ _
    rw [List.length_cons]; omega
def numS (base a b : List AidX) : List Int := putAll (putAll (putAll [] (base.map AidX.num)) (a.map AidX.num)) (b.map AidX.num)
def inN (base a b : List AidX) (v : Int) : Bool := (fdN base v).isSome || ((fdN a v).isSome || (fdN b v).isSome)
def upTo (k : Nat) : List Int := (List.range k).map fun i : Nat => (i : Int) + 1
def numI (base a b : List AidX) : List Int := (upTo 9999).filter (inN base a b)
theorem fd_mem (l : List AidX) (v : Int) : (fdN l v).isSome = true ↔ v ∈ l.map AidX.num := by
  constructor
  · intro h
    obtain ⟨k, hk⟩ := Option.isSome_iff_exists.1 h
    obtain ⟨a, h1, h2, _⟩ := fdN_at hk
    exact List.mem_map.2 ⟨a, List.mem_of_getElem? h1, h2⟩
  · intro h
    obtain ⟨a, ha, hv⟩ := List.mem_map.1 h
    cases hF : fdN l v with
    | some k => rfl
    | none =>
      rw [fdN, List.findIdx?_eq_none_iff] at hF
      have := hF a ha
      rw [hv] at this
      simp at this
theorem upTo_mem (k : Nat) (x : Int) : x ∈ upTo k ↔ 1 ≤ x ∧ x ≤ k := by
  unfold upTo
  rw [List.mem_map]
  constructor
  · rintro ⟨i, hi, rfl⟩
    have := List.mem_range.1 hi
    omega
  · rintro ⟨h1, h2⟩
    exact ⟨(x - 1).toNat, List.mem_range.2 (by omega), by omega⟩
theorem upTo_asc : ∀ k, (upTo k).Pairwise (· < ·)
  | 0 => by simp [upTo]
  | k + 1 => by
    have e : upTo (k + 1) = upTo k ++ [(k : Int) + 1] := by simp [upTo, List.range_succ]
    rw [e, List.pairwise_append]
    refine ⟨upTo_asc k, by simp, fun x hx y hy => ?_⟩
    have := (upTo_mem k x).1 hx
    obtain rfl := List.mem_singleton.1 hy
    omega
theorem num_eq {base a b : List AidX} (h1 : ∀ x ∈ base, 1 ≤ x.num ∧ x.num ≤ 9999) (h2 : ∀ x ∈ a, 1 ≤ x.num ∧ x.num ≤ 9999) (h3 : ∀ x ∈ b, 1 ≤ x.num ∧ x.num ≤ 9999) : numS base a b = numI base a b := by
  refine asc_eq _ _ (putAll_asc _ _ (putAll_asc _ _ (putAll_asc _ _ List.Pairwise.nil))) ((upTo_asc 9999).filter _) fun x => ?_
  rw [numS, putAll_mem, putAll_mem, putAll_mem, numI, List.mem_filter, upTo_mem, inN, Bool.or_eq_true, Bool.or_eq_true, fd_mem, fd_mem, fd_mem]
  constructor
  · rintro (((h | h) | h) | h)
    · cases h
    · refine ⟨?_, .inl h⟩
      obtain ⟨y, hy, rfl⟩ := List.mem_map.1 h
      have := h1 y hy; omega
    · refine ⟨?_, .inr (.inl h)⟩
      obtain ⟨y, hy, rfl⟩ := List.mem_map.1 h
      have := h2 y hy; omega
    · refine ⟨?_, .inr (.inr h)⟩
      obtain ⟨y, hy, rfl⟩ := List.mem_map.1 h
      have := h3 y hy; omega
  · rintro ⟨_, h | h | h⟩
    · exact .inl (.inl (.inr h))
    · exact .inl (.inr h)
    · exact .inr h
theorem num_pos {base a b : List AidX} {x : Int} (h : x ∈ numI base a b) : 1 ≤ x ∧ x ≤ 9999 := by
  have := (upTo_mem 9999 x).1 (List.mem_filter.1 h).1
  omega
theorem aids_num {l : List AidX} (h : aidsB l = true) : ∀ x ∈ l, 1 ≤ x.num ∧ x.num ≤ 9999 := fun x hx => by
  simp only [aidsB, decide_eq_true_eq] at h
  obtain ⟨i, hi⟩ := List.getElem?_of_mem hx
  have h1 := h.2.1 i (List.getElem?_eq_some_iff.1 hi).1
  rw [aAt, List.getD_eq_getElem?_getD, hi, Option.getD_some] at h1
  rw [aidB, aidHeadB, Bool.and_eq_true, Bool.and_eq_true, inB, Bool.and_eq_true, decide_eq_true_eq, decide_eq_true_eq] at h1
  exact h1.1.1
def cfP (base a b : List AidX) : List Int := (numI base a b).filter (cflB base a b)
def cfV (base a b : List AidX) : Bool := aidsB base && (aidsB a && aidsB b)
def cfL (base a b : List AidX) : List Int := bif cfV base a b then cfP base a b else []
def cfK (base a b : List AidX) : Int := bif cfV base a b then 0 else 1
end Go.Proofs.YtpfnnjcochhklaaGreatDoor
