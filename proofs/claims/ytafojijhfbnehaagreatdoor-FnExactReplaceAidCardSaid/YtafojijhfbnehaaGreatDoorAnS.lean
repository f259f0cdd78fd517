/- AidNumbered: the reference. -/
import Derived.Test.YtafojijhfbnehaaGreatDoorFdP
import Derived.Test.YtafojijhfbnehaaGreatDoorOwnG
import Derived.Test.YtafojijhfbnehaaGreatDoorAidsS
namespace Go.Proofs.YtafojijhfbnehaaGreatDoor
open Go.RowKit
/-- What AidNumbered answers. -/
def anA (l : List AidX) (n : Int) : AidX := if aidsB l = true then ((fdN l n).elim aidZero (aAt l)) else aidZero
def anK (l : List AidX) (n : Int) : Int := bif aidsB l then ((fdN l n).elim 3 (fun _ => 0)) else 1
set_option maxRecDepth 100000 in
set_option maxHeartbeats 1000000 in
theorem l12Find_c (A : Option Addr) (n c : Nat) (zs : List AidG) (v : Int) (w : World) (h : AidSl w A n zs) (hm : n ≤ 1048576) :
    Calls Tryz.prog 123 #[.slice A n c, .int .i64 v] w fun e w' => e = .returned (.int .i64 ((fdN (zs.map AidG.a) v).elim (-1) (fun k : Nat => (k : Int)))) ∧ w = w' := by
  have hl := h.len
  obtain ⟨R, hR⟩ : ∃ R : Int, ((fdN (zs.map AidG.a) v).elim (-1) (fun k : Nat => (k : Int))) = R := ⟨_, rfl⟩
  rw [hR]
  have Hl := Lib.hid hl; clear hl
  have HR := Lib.hid hR; clear hR
  go_enter Tryz.func123, Tryz.ntmps123
  go_wp2_with fail
  go_loop [5] (fun i => ∃ k : Nat, k ≤ n ∧ i = .int .i64 k ∧ Hid (∀ (j : Nat) (b : AidX), j < k → (zs.map AidG.a)[j]? = some b → b.num ≠ v)) (fun i => n - (intOf i).toNat)
  case atStart => exact ⟨0, Nat.zero_le _, rfl, Lib.hid (fun j b hj => absurd hj (by omega))⟩
  case round =>
    obtain ⟨k, hk, rfl, Hs⟩ := hrel
    have k0 : (0 : Int) ≤ (k : Int) := by omega
    by_cases hlt : k < n
    · have k1 : (k : Int) < (n : Int) := by omega
      obtain ⟨b, off, z, rfl, hx, _, hp⟩ := h.get k hlt
      have c0 := hp.c0
      have hxa : (zs.map AidG.a)[k]? = some z.a := by rw [List.getElem?_map, hx]; rfl
      clear hp
      have Hx := Lib.hid hx; clear hx
      by_cases he : z.a.num = v
      · have hRk : R = (k : Int) := by rw [← HR.out, fdN_some hxa he Hs.out]; rfl
        have he1 : (z.a.num == v) = true := by simpa using he
        have Hxa := Lib.hid hxa; clear hxa
        have HRk := Lib.hid hRk; clear hRk
        clear he
        go_wp2_with fail
        go_ret
        exact ⟨ret_eq (int_eq HRk.out.symm), rfl⟩
      · have he1 : (z.a.num == v) = false := by simpa using he
        have Hxa := Lib.hid hxa; clear hxa
        have He := Lib.hid he; clear he
        go_wp2_with fail
        go_round
        case rel => exact ⟨k + 1, by omega, by go_num, Lib.hid (fun j b' hj hb => by
          rcases Nat.lt_or_ge j k with h2 | h2
          · exact Hs.out j b' h2 hb
          · obtain rfl : j = k := by omega
            rw [Hxa.out] at hb
            injection hb with hb
            rw [← hb]; exact He.out)⟩
        case measure => simp [intOf]; omega
    · obtain rfl : k = n := by omega
      have hRn : R = -1 := by
        rw [← HR.out, fdN_none fun j b hb => Hs.out j b (by have := (List.getElem?_eq_some_iff.1 hb).1; rw [List.length_map] at this; rw [← Hl.out]; exact this) hb]; rfl
      have HRn := Lib.hid hRn; clear hRn
      go_wp2_with fail
      go_ret
      exact ⟨ret_eq (int_eq HRn.out.symm), rfl⟩
theorem aidZ_new (w : World) (base : Nat) : AidNew w base aidZ := ⟨World.ownsRow_nil _ _ _ _, World.ownsRow_nil _ _ _ _⟩
end Go.Proofs.YtafojijhfbnehaaGreatDoor
