/- CfPG: several of my texts in one. -/
import Derived.Test.YtpfnnjcochhklaaGreatDoorMarkG
import Derived.Test.YtpfnnjcochhklaaGreatDoorAidIG
import Derived.Test.YtpfnnjcochhklaaGreatDoorSecLaw
import Derived.Test.YtpfnnjcochhklaaGreatDoorApG
import Derived.Deep.QuietTactic
import Derived.BigQuiet
import Derived.Test.YtpfnnjcochhklaaGreatDoorFdP

/- Two aids compared: the reference's and the program's own comparisons. -/
namespace Go.Proofs.YtpfnnjcochhklaaGreatDoor
open Go.RowKit
theorem pointHeld : Tryz.prog.stoodInHeld 49 = false := by kernel_rfl
theorem pointGuard : Tryz.prog.eqGuardType Tryz.prog.depth 49 = false := by kernel_rfl
theorem eql_point (x y u v : Int) (w : World) : (binOp .eql 49 (ptV x y) (ptV u v)).run Tryz.prog w = .ok (.bool (x == u && y == v)) w := by
  rw [run_eql_struct]
  have := pointHeld
  go_simp
  by_cases h1 : x = u <;> by_cases h2 : y = v <;> simp [h1, h2]
def mkSame (m n : Mk) : Bool := (m.k == n.k) && ((m.cs.toList == n.cs.toList) && ((m.sh.toList == n.sh.toList) && (m.tp.toList == n.tp.toList)))
theorem eql_mark (m n : Mk) (w : World) : (binOp .eql 51 m.val n.val).run Tryz.prog w = .ok (.bool (mkSame m n)) w := by
  obtain ⟨k, a, b, c⟩ := m
  obtain ⟨k', a', b', c'⟩ := n
  rw [run_eql_struct]
  have := markHeld
  simp only [mkSame]
  go_simp
  by_cases h1 : k = k' <;> by_cases h2 : a.toList = a'.toList <;> by_cases h3 : b.toList = b'.toList <;> by_cases h4 : c.toList = c'.toList <;> simp [h1, h2, h3, h4]
/-- Two aids are equal; what is said of their characters and sectors comes from outside. -/
def aidSame0 (a b : AidX) (C S : Bool) : Bool := (a.num == b.num) && ((a.nm.toList == b.nm.toList) && ((a.x == b.x && a.y == b.y) && ((a.h == b.h) && (mkSame a.mr b.mr && (C && (S && (a.it == b.it)))))))
/-- The zero aid. -/
abbrev aidZn : AidG := ⟨⟨0, ⟨#[]⟩, 0, 0, 0, ⟨0, ⟨#[]⟩, ⟨#[]⟩, ⟨#[]⟩⟩, ⟨0, [], ⟨#[]⟩, ⟨#[]⟩, 0⟩, [], 0⟩, none, 0, none, 0⟩
theorem aidzn_ok (w : World) : AidOk w aidZn := ⟨Sl.none_, Sl.none_, ⟨by decide, by decide, by decide, by decide, by decide, by decide, by decide, by decide, by simp⟩⟩
end Go.Proofs.YtpfnnjcochhklaaGreatDoor

/- Rows of integers and of sectors compared: the reference draws only, the program, too. -/
namespace Go.Proofs.YtpfnnjcochhklaaGreatDoor
open Go.RowKit
theorem take_eq_next {α : Type} {xs ys : List α} {k : Nat} {a b : α} (ht : xs.take k = ys.take k) (h1 : xs[k]? = some a) (h2 : ys[k]? = some b) (e : a = b) : xs.take (k + 1) = ys.take (k + 1) := by
  rw [List.take_add_one, List.take_add_one, ht, h1, h2, e]
theorem ne_of_next {α : Type} {xs ys : List α} {k : Nat} {a b : α} (h1 : xs[k]? = some a) (h2 : ys[k]? = some b) (e : a ≠ b) : xs ≠ ys := fun h => by
  rw [h, h2] at h1; exact e (Option.some.inj h1).symm
instance : DecidableEq Sec := fun a b => by
  cases a; cases b
  simp only [Sec.mk.injEq]
  infer_instance
def Sec.same (s t : Sec) : Bool := (s.f == t.f) && ((s.t == t.t) && (s.c.toList == t.c.toList))
theorem Sec.same_eq (s t : Sec) : s.same t = decide (s = t) := by
  cases s; cases t
  simp only [Sec.same, ba_beq, Sec.mk.injEq]
  rw [Bool.eq_iff_iff]
  simp
theorem secHeld : Tryz.prog.stoodInHeld 94 = false := by kernel_rfl
theorem secGuard : Tryz.prog.eqGuardType Tryz.prog.depth 94 = false := by kernel_rfl
theorem neq_sec (d e : Sec) (w : World) : (binOp .neq 94 (.agg #[.int .i64 d.f, .int .i64 d.t, .string d.c]) (.agg #[.int .i64 e.f, .int .i64 e.t, .string e.c])).run Tryz.prog w = .ok (.bool (!d.same e)) w := by
  obtain ⟨s, f, u⟩ := d
  obtain ⟨t, g, v⟩ := e
  rw [run_neq_struct]
  simp only [Sec.same]
  have := secHeld
  go_simp
  by_cases h1 : s = t <;> by_cases h2 : f = g <;> by_cases h3 : u.toList = v.toList <;> simp [h1, h2, h3]
set_option maxRecDepth 100000 in
set_option maxHeartbeats 1000000 in
theorem sameQ_c (A A' : Option Addr) (n n' c c' : Nat) (xs ys : List Int) (w : World) (h : Sl w w.heap.size 1 A n (xs.flatMap intC)) (h' : Sl w w.heap.size 1 A' n' (ys.flatMap intC)) (hm : n ≤ 1048576) (hm' : n' ≤ 1048576) :
    Calls Tryz.prog 81 #[.slice A n c, .slice A' n' c'] w fun e w' => e = .returned (.bool (decide (xs = ys))) ∧ ∃ m, w' = w.drewN m := by
  have l1 := h.len intC 1 (fun _ => rfl) (by omega)
  have l2 := h'.len intC 1 (fun _ => rfl) (by omega)
  have L1 := Lib.hid l1; clear l1
  have L2 := Lib.hid l2; clear l2
  by_cases hnn : n = n'
  · subst hnn
    go_enter Tryz.func81, Tryz.ntmps81
    go_wp2
    go_loopw [5] (fun i wr => ∃ k : Nat, k ≤ n ∧ i = .int .i64 k ∧ Hid (xs.take k = ys.take k) ∧ ∃ m, wr = w.drewN m) (fun i _ => n - (intOf i).toNat)
    case atStart => exact ⟨0, Nat.zero_le _, rfl, Lib.hid rfl, 0, rfl⟩
    case round =>
      obtain ⟨k, hk, rfl, Ht, m0, rfl⟩ := hrel
      by_cases hlt : k < n
      · obtain ⟨b, off, d, rfl, _, hd, c1⟩ := h.int k hlt
        obtain ⟨b', off', d', rfl, _, hd', c1'⟩ := h'.int k hlt
        have Hd := Lib.hid hd; clear hd
        have Hd' := Lib.hid hd'; clear hd'
        have j1 : (0 : Int) ≤ (k : Int) := by omega
        have j2 : (k : Int) < (n : Int) := by omega
        by_cases hdd : d = d'
        · have DE := decide_eq_true hdd
          have g1 : (d != d') = !decide (d = d') := rfl
          rw [DE] at g1
          first | rw [Bool.not_true] at g1 | rw [Bool.not_false] at g1
          clear DE
          have Hdd := Lib.hid hdd; clear hdd
          go_wp2
          go_quiet (fail)
          go_wp2
          go_roundw
          case rel => exact ⟨k + 1, by omega, by go_num, Lib.hid (take_eq_next Ht.out Hd.out Hd'.out Hdd.out), m0 + nq, by first | rfl | rw [World.drewN_drewN]⟩
          case measure => simp [intOf]; omega
        · have DE := decide_eq_false hdd
          have g1 : (d != d') = !decide (d = d') := rfl
          rw [DE] at g1
          first | rw [Bool.not_true] at g1 | rw [Bool.not_false] at g1
          clear DE
          have Hdd := Lib.hid hdd; clear hdd
          go_wp2
          go_quiet (fail)
          go_wp2
          go_ret
          exact ⟨ret_eq (bool_eq (decide_eq_false (ne_of_next Hd.out Hd'.out Hdd.out)).symm), m0 + nq, by first | rfl | rw [World.drewN_drewN]⟩
      · obtain rfl : k = n := by omega
        go_wp2
        go_ret
        have ht := Ht.out
        rw [List.take_of_length_le (by rw [L1.out]; omega), List.take_of_length_le (by rw [L2.out]; omega)] at ht
        exact ⟨ret_eq (bool_eq (decide_eq_true ht).symm), m0, rfl⟩
  · go_enter Tryz.func81, Tryz.ntmps81
    go_wp2
    go_ret
    refine ⟨ret_eq (bool_eq (decide_eq_false (fun e => hnn ?_)).symm), 0, rfl⟩
    rw [← L1.out, ← L2.out, e]
set_option maxRecDepth 100000 in
set_option maxHeartbeats 1000000 in
theorem secsQ_c (A A' : Option Addr) (n n' c c' : Nat) (xs ys : List Sec) (w : World) (h : Sl w w.heap.size 3 A n (xs.flatMap Sec.cells)) (h' : Sl w w.heap.size 3 A' n' (ys.flatMap Sec.cells)) (hm : n ≤ 1048576) (hm' : n' ≤ 1048576) :
    Calls Tryz.prog 51 #[.slice A n c, .slice A' n' c'] w fun e w' => e = .returned (.bool (decide (xs = ys))) ∧ ∃ m, w' = w.drewN m := by
  have l1 := h.len Sec.cells 3 (fun _ => rfl) (by omega)
  have l2 := h'.len Sec.cells 3 (fun _ => rfl) (by omega)
  have L1 := Lib.hid l1; clear l1
  have L2 := Lib.hid l2; clear l2
  by_cases hnn : n = n'
  · subst hnn
    go_enter Tryz.func51, Tryz.ntmps51
    go_wp2
    go_loopw [5] (fun i wr => ∃ k : Nat, k ≤ n ∧ i = .int .i64 k ∧ Hid (xs.take k = ys.take k) ∧ ∃ m, wr = w.drewN m) (fun i _ => n - (intOf i).toNat)
    case atStart => exact ⟨0, Nat.zero_le _, rfl, Lib.hid rfl, 0, rfl⟩
    case round =>
      obtain ⟨k, hk, rfl, Ht, m0, rfl⟩ := hrel
      by_cases hlt : k < n
      · obtain ⟨b, off, d, rfl, _, hd, c1, c2, c3⟩ := h.sec k hlt
        obtain ⟨b', off', d', rfl, _, hd', c1', c2', c3'⟩ := h'.sec k hlt
        have Hd := Lib.hid hd; clear hd
        have Hd' := Lib.hid hd'; clear hd'
        have j1 : (0 : Int) ≤ (k : Int) := by omega
        have j2 : (k : Int) < (n : Int) := by omega
        by_cases hdd : d = d'
        · have DE := decide_eq_true hdd
          have hq := neq_sec d d'
          rw [Sec.same_eq, DE] at hq
          first | rw [Bool.not_true] at hq | rw [Bool.not_false] at hq
          have hg := secGuard
          clear DE
          have Hdd := Lib.hid hdd; clear hdd
          go_wp2
          go_quiet (fail)
          go_wp2
          go_roundw
          case rel => exact ⟨k + 1, by omega, by go_num, Lib.hid (take_eq_next Ht.out Hd.out Hd'.out Hdd.out), m0 + nq, by first | rfl | rw [World.drewN_drewN]⟩
          case measure => simp [intOf]; omega
        · have DE := decide_eq_false hdd
          have hq := neq_sec d d'
          rw [Sec.same_eq, DE] at hq
          first | rw [Bool.not_true] at hq | rw [Bool.not_false] at hq
          have hg := secGuard
          clear DE
          have Hdd := Lib.hid hdd; clear hdd
          go_wp2
          go_quiet (fail)
          go_wp2
          go_ret
          exact ⟨ret_eq (bool_eq (decide_eq_false (ne_of_next Hd.out Hd'.out Hdd.out)).symm), m0 + nq, by first | rfl | rw [World.drewN_drewN]⟩
      · obtain rfl : k = n := by omega
        go_wp2
        go_ret
        have ht := Ht.out
        rw [List.take_of_length_le (by rw [L1.out]; omega), List.take_of_length_le (by rw [L2.out]; omega)] at ht
        exact ⟨ret_eq (bool_eq (decide_eq_true ht).symm), m0, rfl⟩
  · go_enter Tryz.func51, Tryz.ntmps51
    go_wp2
    go_ret
    refine ⟨ret_eq (bool_eq (decide_eq_false (fun e => hnn ?_)).symm), 0, rfl⟩
    rw [← L1.out, ← L2.out, e]
set_option maxRecDepth 100000 in
set_option maxHeartbeats 1000000 in
theorem secsI_c (A A' : Option Addr) (n n' c c' : Nat) (xs ys : List Sec) (w : World) (h : Sl w w.heap.size 3 A n (xs.flatMap Sec.cells)) (h' : Sl w w.heap.size 3 A' n' (ys.flatMap Sec.cells)) (hm : n ≤ 1048576) (hm' : n' ≤ 1048576) :
    Calls Tryz.prog 80 #[.slice A n c, .slice A' n' c'] w fun e w' => e = .returned (.bool (decide (xs = ys))) ∧ ∃ m, w' = w.drewN m := by
  have l1 := h.len Sec.cells 3 (fun _ => rfl) (by omega)
  have l2 := h'.len Sec.cells 3 (fun _ => rfl) (by omega)
  have L1 := Lib.hid l1; clear l1
  have L2 := Lib.hid l2; clear l2
  by_cases hnn : n = n'
  · subst hnn
    go_enter Tryz.func80, Tryz.ntmps80
    go_wp2
    go_loopw [5, 13] (fun _ i wr => ∃ k : Nat, k ≤ n ∧ i = .int .i64 k ∧ Hid (xs.take k = ys.take k) ∧ ∃ m, wr = w.drewN m) (fun _ i _ => n - (intOf i).toNat)
    case atStart => exact ⟨0, Nat.zero_le _, rfl, Lib.hid rfl, 0, rfl⟩
    case round =>
      obtain ⟨k, hk, rfl, Ht, m0, rfl⟩ := hrel
      by_cases hlt : k < n
      · obtain ⟨b, off, d, rfl, _, hd, c1, c2, c3⟩ := h.sec k hlt
        obtain ⟨b', off', d', rfl, _, hd', c1', c2', c3'⟩ := h'.sec k hlt
        have Hd := Lib.hid hd; clear hd
        have Hd' := Lib.hid hd'; clear hd'
        have j1 : (0 : Int) ≤ (k : Int) := by omega
        have j2 : (k : Int) < (n : Int) := by omega
        by_cases hdd : d = d'
        · have DE := decide_eq_true hdd
          have hq := neq_sec d d'
          rw [Sec.same_eq, DE] at hq
          first | rw [Bool.not_true] at hq | rw [Bool.not_false] at hq
          have hg := secGuard
          clear DE
          have Hdd := Lib.hid hdd; clear hdd
          go_wp2
          go_quiet (fail)
          go_wp2
          go_roundw
          case rel => exact ⟨k + 1, by omega, by go_num, Lib.hid (take_eq_next Ht.out Hd.out Hd'.out Hdd.out), m0 + nq, by first | rfl | rw [World.drewN_drewN]⟩
          case measure => simp [intOf]; omega
        · have DE := decide_eq_false hdd
          have hq := neq_sec d d'
          rw [Sec.same_eq, DE] at hq
          first | rw [Bool.not_true] at hq | rw [Bool.not_false] at hq
          have hg := secGuard
          clear DE
          have Hdd := Lib.hid hdd; clear hdd
          go_wp2
          go_quiet (fail)
          go_wp2
          go_ret
          exact ⟨ret_eq (bool_eq (decide_eq_false (ne_of_next Hd.out Hd'.out Hdd.out)).symm), m0 + nq, by first | rfl | rw [World.drewN_drewN]⟩
      · obtain rfl : k = n := by omega
        go_wp2
        go_ret
        have ht := Ht.out
        rw [List.take_of_length_le (by rw [L1.out]; omega), List.take_of_length_le (by rw [L2.out]; omega)] at ht
        exact ⟨ret_eq (bool_eq (decide_eq_true ht).symm), m0, rfl⟩
  · go_enter Tryz.func80, Tryz.ntmps80
    go_wp2
    go_ret
    refine ⟨ret_eq (bool_eq (decide_eq_false (fun e => hnn ?_)).symm), 0, rfl⟩
    rw [← L1.out, ← L2.out, e]
end Go.Proofs.YtpfnnjcochhklaaGreatDoor

/- A number put to its place among rising ones: the reference's l00Put. -/
namespace Go.Proofs.YtpfnnjcochhklaaGreatDoor
open Go.RowKit
end Go.Proofs.YtpfnnjcochhklaaGreatDoor

/- Conflicts of two lists of aids, in plain Lean. -/
namespace Go.Proofs.YtpfnnjcochhklaaGreatDoor
open Go.RowKit
def stA (l : List AidX) (v : Int) : AidX := (fdN l v).elim aidZero (aAt l)
def sameX (a b : AidX) : Bool := aidSame0 a b (sameCh a.ch b.ch) (decide (a.secs = b.secs))
theorem sameX_comm (a b : AidX) : sameX a b = sameX b a := by
  have key : ∀ a b : AidX, sameX a b = true → sameX b a = true := fun a b h => by
    simp only [sameX, aidSame0, mkSame, sameCh, Bool.and_eq_true, beq_iff_eq, decide_eq_true_eq] at h ⊢
    obtain ⟨h1, h2, ⟨h3, h4⟩, h5, ⟨h6, h7, h8, h9⟩, ⟨i1, i2, i3, i4, i5⟩, h10, h11⟩ := h
    exact ⟨h1.symm, h2.symm, ⟨h3.symm, h4.symm⟩, h5.symm, ⟨h6.symm, h7.symm, h8.symm, h9.symm⟩, ⟨i1.symm, i2.symm, i3.symm, i4.symm, i5.symm⟩, h10.symm, h11.symm⟩
  rw [Bool.eq_iff_iff]
  exact ⟨key a b, key b a⟩
theorem sameX_num {a b : AidX} (h : a.num ≠ b.num) : sameX a b = false := by
  have : (a.num == b.num) = false := by simpa using h
  rw [sameX, aidSame0, this, Bool.false_and]
theorem stA_num (l : List AidX) (v : Int) : (stA l v).num = if (fdN l v).isSome then v else 0 := by
  unfold stA
  cases h : fdN l v with
  | none => rfl
  | some k =>
    obtain ⟨a, h1, h2, _⟩ := fdN_at h
    simp only [Option.elim_some, Option.isSome_some, if_true, aAt, List.getD_eq_getElem?_getD, h1, Option.getD_some]
    exact h2
def eqB (l m : List AidX) (v : Int) : Bool := ((fdN l v).isSome == (fdN m v).isSome) && sameX (stA l v) (stA m v)
theorem eqB_is (l m : List AidX) {v : Int} (hv : v ≠ 0) : eqB l m v = sameX (stA l v) (stA m v) := by
  unfold eqB
  by_cases h : (fdN l v).isSome = (fdN m v).isSome
  · rw [h]; simp
  · rw [sameX_num, Bool.and_false]
    rw [stA_num, stA_num]
    intro e
    cases h1 : (fdN l v).isSome <;> cases h2 : (fdN m v).isSome <;> rw [h1, h2] at e h <;> simp at e h
    · exact hv e.symm
    · exact hv e
def cflB (base a b : List AidX) (v : Int) : Bool := !sameX (stA base v) (stA a v) && (!sameX (stA base v) (stA b v) && !sameX (stA a v) (stA b v))
theorem cfl_impl (base a b : List AidX) {v : Int} (hv : v ≠ 0) : (!eqB a b v && (!eqB a base v && !eqB b base v)) = cflB base a b v := by
  rw [eqB_is _ _ hv, eqB_is _ _ hv, eqB_is _ _ hv, cflB, sameX_comm (stA base v) (stA a v), sameX_comm (stA base v) (stA b v)]
  cases sameX (stA a v) (stA b v) <;> cases sameX (stA a v) (stA base v) <;> cases sameX (stA b v) (stA base v) <;> rfl
def inN (base a b : List AidX) (v : Int) : Bool := (fdN base v).isSome || ((fdN a v).isSome || (fdN b v).isSome)
def upTo (k : Nat) : List Int := (List.range k).map fun i : Nat => (i : Int) + 1
def numI (base a b : List AidX) : List Int := (upTo 9999).filter (inN base a b)
theorem fd_mem (l : List AidX) (v : Int) : (fdN l v).isSome = true ↔ v ∈ l.map AidX.num := by
  constructor
  · intro h
    obtain ⟨k, hk⟩ := Option.isSome_iff_exists.1 h
    obtain ⟨a, h1, h2, _⟩ := fdN_at hk
    exact List.mem_map.2 ⟨a, List.mem_of_getElem? h1, h2⟩
  · intro h
    obtain ⟨a, ha, hv⟩ := List.mem_map.1 h
    cases hF : fdN l v with
    | some k => rfl
    | none =>
      rw [fdN, List.findIdx?_eq_none_iff] at hF
      have := hF a ha
      rw [hv] at this
      simp at this
theorem upTo_mem (k : Nat) (x : Int) : x ∈ upTo k ↔ 1 ≤ x ∧ x ≤ k := by
  unfold upTo
  rw [List.mem_map]
  constructor
  · rintro ⟨i, hi, rfl⟩
    have := List.mem_range.1 hi
    omega
  · rintro ⟨h1, h2⟩
    exact ⟨(x - 1).toNat, List.mem_range.2 (by omega), by omega⟩
theorem upTo_asc : ∀ k, (upTo k).Pairwise (· < ·)
  | 0 => by simp [upTo]
  | k + 1 => by
    have e : upTo (k + 1) = upTo k ++ [(k : Int) + 1] := by simp [upTo, List.range_succ]
    rw [e, List.pairwise_append]
    refine ⟨upTo_asc k, by simp, fun x hx y hy => ?_⟩
    have := (upTo_mem k x).1 hx
    obtain rfl := List.mem_singleton.1 hy
    omega
theorem num_pos {base a b : List AidX} {x : Int} (h : x ∈ numI base a b) : 1 ≤ x ∧ x ≤ 9999 := by
  have := (upTo_mem 9999 x).1 (List.mem_filter.1 h).1
  omega
theorem aids_num {l : List AidX} (h : aidsB l = true) : ∀ x ∈ l, 1 ≤ x.num ∧ x.num ≤ 9999 := fun x hx => by
  simp only [aidsB, decide_eq_true_eq] at h
  obtain ⟨i, hi⟩ := List.getElem?_of_mem hx
  have h1 := h.2.1 i (List.getElem?_eq_some_iff.1 hi).1
  rw [aAt, List.getD_eq_getElem?_getD, hi, Option.getD_some] at h1
  rw [aidB, aidHeadB, Bool.and_eq_true, Bool.and_eq_true, inB, Bool.and_eq_true, decide_eq_true_eq, decide_eq_true_eq] at h1
  exact h1.1.1
def cfP (base a b : List AidX) : List Int := (numI base a b).filter (cflB base a b)
def cfV (base a b : List AidX) : Bool := aidsB base && (aidsB a && aidsB b)
def cfL (base a b : List AidX) : List Int := bif cfV base a b then cfP base a b else []
def cfK (base a b : List AidX) : Int := bif cfV base a b then 0 else 1
end Go.Proofs.YtpfnnjcochhklaaGreatDoor
