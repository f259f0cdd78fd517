
/- Numbers in decimal: plain; strconv.FormatInt by the shelf's contract. -/
import Derived.Test.YtjkjmpmefapnoaaGreatDoorBase
import Derived.Test.YtjkjmpmefapnoaaGreatDoorShelf
import Derived.Lib.SmallJoins
import Derived.Lib.AppendIntMem
namespace Go.Proofs.YtjkjmpmefapnoaaGreatDoor
open Go.RowKit
/-- The table of powers holds what the library's text lays. -/
def Tab10 (w : World) : Prop := Lib.TabIs Tryz.prog w "internal/strconv.uint64pow10" .u64 Lib.pow10Tab
theorem Tab10.next {w w' : World} (h : Tab10 w) (hb : Below w.heap.size w w') : Tab10 w' := Joins.tab_stays (show Tryz.prog.globalNamed "internal/strconv.uint64pow10" = some 3 by kernel_rfl) h hb (Nat.le_refl _)
/-- A number in decimal. -/
def decB (n : Int) : ByteArray := ⟨(Lib.itoa n).toArray⟩
set_option maxHeartbeats 400000 in
theorem decimal_c (n : Int) (w : World) (h0 : -9223372036854775808 ≤ n) (h1 : n ≤ 9223372036854775807) (ht : Tab10 w) :
    Calls Tryz.prog 66 #[.int .i64 n] w fun e w' => e = .returned (.string (decB n)) ∧ Below w.heap.size w w' := by
  go_enter Tryz.func66, Tryz.ntmps66
  go_wp2_with fail
  refine (Tryz.strconv_FormatInt_10 n h0 h1 _ ht).mono ?_
  rintro e w' ⟨rfl, k, os, rfl⟩
  have hb := Lib.below_grow w.heap.size w (Nat.le_refl _) k os
  go_wp2_with fail
  go_ret
  exact ⟨rfl, hb⟩
/-- The digits of a number, none of 0. -/
def dn (v : Nat) : List Int := if v = 0 then [] else (Lib.decDigits v).map fun b => (b.toNat : Int)
theorem dn_step {v : Nat} (h : v ≠ 0) : dn v = dn (v / 10) ++ [48 + ((v % 10 : Nat) : Int)] := by
  have e : ((UInt8.ofNat (48 + v % 10)).toNat : Int) = 48 + ((v % 10 : Nat) : Int) := by
    rw [UInt8.toNat_ofNat']; omega
  rw [dn, if_neg h, Lib.decDigits]
  by_cases h1 : v < 10
  · rw [dif_pos h1, dn, if_pos (by omega), List.map_cons, List.map_nil, List.nil_append, show 48 + v = 48 + v % 10 by omega, e]
  · rw [dif_neg h1, dn, if_neg (by omega), List.map_append, List.map_cons, List.map_nil, e]
theorem dn_zero : dn 0 = [] := rfl
theorem dn_len : ∀ k v, v < 10 ^ k → (dn v).length ≤ k
  | 0, v, h => by
    obtain rfl : v = 0 := by simpa using h
    simp [dn_zero]
  | k + 1, v, h => by
    by_cases h0 : v = 0
    · subst h0; simp [dn_zero]
    · have := dn_len k (v / 10) (by rw [Nat.pow_succ] at h; omega)
      rw [dn_step h0]
      simp only [List.length_append, List.length_cons, List.length_nil]
      omega
theorem itoa_pos {v : Nat} (h : v ≠ 0) : ((Lib.itoa (v : Int)).map fun b => (b.toNat : Int)) = dn v := by
  rw [Lib.itoa, if_neg (by omega), dn, if_neg h]; rfl
theorem itoa_neg {v : Nat} (h : v ≠ 0) : ((Lib.itoa (-(v : Int))).map fun b => (b.toNat : Int)) = 45 :: dn v := by
  rw [Lib.itoa, if_pos (by omega), dn, if_neg h, List.map_cons]; simp
end Go.Proofs.YtjkjmpmefapnoaaGreatDoor
