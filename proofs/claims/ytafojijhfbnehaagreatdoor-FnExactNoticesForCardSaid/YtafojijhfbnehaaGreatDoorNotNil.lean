/- Two aids compared: the reference's and the program's own comparisons. -/
import Derived.Test.YtafojijhfbnehaaGreatDoorMarkG
import Derived.Test.YtafojijhfbnehaaGreatDoorAidI
namespace Go.Proofs.YtafojijhfbnehaaGreatDoor
open Go.RowKit
theorem pointHeld : Tryz.prog.stoodInHeld 48 = false := by kernel_rfl
theorem pointGuard : Tryz.prog.eqGuardType Tryz.prog.depth 48 = false := by kernel_rfl
theorem eql_point (x y u v : Int) (w : World) : (binOp .eql 48 (ptV x y) (ptV u v)).run Tryz.prog w = .ok (.bool (x == u && y == v)) w := by
  rw [run_eql_struct]
  have := pointHeld
  go_simp
  by_cases h1 : x = u <;> by_cases h2 : y = v <;> simp [h1, h2]
def mkSame (m n : Mk) : Bool := (m.k == n.k) && ((m.cs.toList == n.cs.toList) && ((m.sh.toList == n.sh.toList) && (m.tp.toList == n.tp.toList)))
theorem eql_mark (m n : Mk) (w : World) : (binOp .eql 49 m.val n.val).run Tryz.prog w = .ok (.bool (mkSame m n)) w := by
  obtain ⟨k, a, b, c⟩ := m
  obtain ⟨k', a', b', c'⟩ := n
  rw [run_eql_struct]
  have := markHeld
  simp only [mkSame]
  go_simp
  by_cases h1 : k = k' <;> by_cases h2 : a.toList = a'.toList <;> by_cases h3 : b.toList = b'.toList <;> by_cases h4 : c.toList = c'.toList <;> simp [h1, h2, h3, h4]
/-- Two aids are equal; what is said of their characters and sectors comes from outside. -/
def aidSame0 (a b : AidX) (C S : Bool) : Bool := (a.num == b.num) && ((a.nm.toList == b.nm.toList) && ((a.x == b.x && a.y == b.y) && ((a.h == b.h) && (mkSame a.mr b.mr && (C && (S && (a.it == b.it)))))))
/-- The zero aid. -/
abbrev aidZn : AidG := ⟨⟨0, ⟨#[]⟩, 0, 0, 0, ⟨0, ⟨#[]⟩, ⟨#[]⟩, ⟨#[]⟩⟩, ⟨0, [], ⟨#[]⟩, ⟨#[]⟩, 0⟩, [], 0⟩, none, 0, none, 0⟩
def aidNil (a : AidX) : Bool := aidSame0 a aidZn.a (sameCh a.ch aidZn.a.ch) ((a.secs.length : Int) == 0)
theorem aidzn_ok (w : World) : AidOk w aidZn := ⟨Sl.none_, Sl.none_, ⟨by decide, by decide, by decide, by decide, by decide, by decide, by decide, by decide, by simp⟩⟩
set_option maxHeartbeats 400000 in
theorem l00SameNil_c (A : Option Addr) (n c : Nat) (w : World) (hm : n ≤ 1048576) :
    Calls Tryz.prog 144 #[.slice A n c, .slice none 0 0] w fun e w' => e = .returned (.bool ((n : Int) == 0)) ∧ w = w' := by
  by_cases h0 : n = 0
  · subst h0
    go_enter Tryz.func144, Tryz.ntmps144
    go_wp2
    go_loopw [5] (fun i wr => i = .int .i64 0 ∧ w = wr) (fun _ _ => 0)
    case atStart => exact ⟨rfl, rfl⟩
    case round =>
      obtain ⟨rfl, rfl⟩ := hrel
      go_wp2
      go_ret
      exact ⟨rfl, rfl⟩
  · have e0 : ((n : Int) == 0) = false := by simpa using h0
    have e1 : ((n : Int) != 0) = true := by simpa using h0
    rw [e0]
    go_enter Tryz.func144, Tryz.ntmps144
    go_wp2
    go_ret
    exact ⟨rfl, rfl⟩
set_option maxHeartbeats 400000 in
theorem specSecNil_c (A : Option Addr) (n c : Nat) (w : World) (hm : n ≤ 1048576) :
    Calls Tryz.prog 105 #[.slice A n c, .slice none 0 0] w fun e w' => e = .returned (.bool ((n : Int) == 0)) ∧ w = w' := by
  by_cases h0 : n = 0
  · subst h0
    go_enter Tryz.func105, Tryz.ntmps105
    go_wp2
    go_loopw [5] (fun i wr => i = .int .i64 0 ∧ w = wr) (fun _ _ => 0)
    case atStart => exact ⟨rfl, rfl⟩
    case round =>
      obtain ⟨rfl, rfl⟩ := hrel
      go_wp2
      go_ret
      exact ⟨rfl, rfl⟩
  · have e0 : ((n : Int) == 0) = false := by simpa using h0
    have e1 : ((n : Int) != 0) = true := by simpa using h0
    rw [e0]
    go_enter Tryz.func105, Tryz.ntmps105
    go_wp2
    go_ret
    exact ⟨rfl, rfl⟩
set_option maxHeartbeats 400000 in
theorem implSecNil_c (A : Option Addr) (n c : Nat) (w : World) (hm : n ≤ 1048576) :
    Calls Tryz.prog 115 #[.slice A n c, .slice none 0 0] w fun e w' => e = .returned (.bool ((n : Int) == 0)) ∧ w = w' := by
  by_cases h0 : n = 0
  · subst h0
    go_enter Tryz.func115, Tryz.ntmps115
    go_wp2
    go_loopw [13] (fun i wr => i = .int .i64 0 ∧ w = wr) (fun _ _ => 0)
    case atStart => exact ⟨rfl, rfl⟩
    case round =>
      obtain ⟨rfl, rfl⟩ := hrel
      go_wp2
      go_ret
      exact ⟨rfl, rfl⟩
  · have e0 : ((n : Int) == 0) = false := by simpa using h0
    have e1 : ((n : Int) != 0) = true := by simpa using h0
    rw [e0]
    go_enter Tryz.func115, Tryz.ntmps115
    go_wp2
    go_ret
    exact ⟨rfl, rfl⟩
set_option maxRecDepth 100000 in
set_option maxHeartbeats 1000000 in
theorem l05Same_w (b off b' off' : Nat) (A A' : Option Addr) (n n' c c' : Nat) (x y : Ch) (G : Bool) (w : World) (h : ChP w b off A n c x) (h' : ChP w b' off' A' n' c' y)
    (hS : ∀ w1, Calls Tryz.prog 144 #[.slice A n c, .slice A' n' c'] w1 fun e w' => e = .returned (.bool G) ∧ w1 = w') (hG : decide (x.gs = y.gs) = G) :
    Calls Tryz.prog 104 #[.pointer (some ⟨b, off, none⟩), .pointer (some ⟨b', off', none⟩)] w fun e w' => e = .returned (.bool (sameCh x y)) ∧ ∃ k, w' = w.drewN k := by
  have hv : sameCh x y = ((x.k == y.k) && (G && ((x.l.toList == y.l.toList) && ((x.cs.toList == y.cs.toList) && (x.p == y.p))))) := by rw [sameCh, hG]
  rw [hv]
  obtain ⟨c0, c1, c2, c3, c4, hb, _, _, _, _⟩ := h
  obtain ⟨d0, d1, d2, d3, d4, hb', _, _, _, _⟩ := h'
  have Hv := Lib.hid hv; clear hv
  have HS := Lib.hid hS; clear hS
  have HG := Lib.hid hG; clear hG
  cases h1 : (x.k == y.k)
  · go_enter Tryz.func104, Tryz.ntmps104
    go_wp2
    go_quiet ((go_at_call 144; exact quiet_c (HS.out _)))
    go_wp2
    go_ret
    exact ⟨rfl, _, rfl⟩
  cases G
  · go_enter Tryz.func104, Tryz.ntmps104
    go_wp2
    go_quiet ((go_at_call 144; exact quiet_c (HS.out _)))
    go_wp2
    go_ret
    exact ⟨rfl, _, rfl⟩
  cases h2 : (x.l.toList == y.l.toList)
  · go_enter Tryz.func104, Tryz.ntmps104
    go_wp2
    go_quiet ((go_at_call 144; exact quiet_c (HS.out _)))
    go_wp2
    go_ret
    exact ⟨rfl, _, rfl⟩
  cases h3 : (x.cs.toList == y.cs.toList)
  · go_enter Tryz.func104, Tryz.ntmps104
    go_wp2
    go_quiet ((go_at_call 144; exact quiet_c (HS.out _)))
    go_wp2
    go_ret
    exact ⟨rfl, _, rfl⟩
  · go_enter Tryz.func104, Tryz.ntmps104
    go_wp2
    go_quiet ((go_at_call 144; exact quiet_c (HS.out _)))
    go_wp2
    go_ret
    exact ⟨ret_eq (bool_eq (by simp)), _, rfl⟩
end Go.Proofs.YtafojijhfbnehaaGreatDoor
