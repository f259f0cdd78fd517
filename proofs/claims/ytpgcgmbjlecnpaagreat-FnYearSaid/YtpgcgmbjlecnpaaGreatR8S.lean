/- Small functions of the laws that choose numbers from bytes. -/
import Derived.Test.YtpgcgmbjlecnpaaGreatSrc
namespace Go.Proofs.YtpgcgmbjlecnpaaGreat
open Go.RowKit
set_option maxRecDepth 100000 in
set_option maxHeartbeats 400000 in
theorem r8Long_c (A A' : Option Addr) (n c n' c' : Nat) (w : World) : Calls Tryz.prog 24 #[.slice A n c, .slice A' n' c'] w fun e w' => e = .returned (.bool (decide (1048576 < n) || decide (1048576 < n'))) ∧ w = w' := by
  by_cases h1 : 1048576 < n
  · have h1' : (1048576 : Int) < (n : Int) := by omega
    go_enter Tryz.func24, Tryz.ntmps24
    go_wp2
    go_ret
    exact ⟨ret_eq (bool_eq (by rw [decide_eq_true h1]; rfl)), rfl⟩
  · have h1' : ¬ (1048576 : Int) < (n : Int) := by omega
    by_cases h2 : 1048576 < n'
    · have h2' : (1048576 : Int) < (n' : Int) := by omega
      go_enter Tryz.func24, Tryz.ntmps24
      go_wp2
      go_ret
      exact ⟨ret_eq (bool_eq (by first | (rw [decide_eq_true h2, decide_eq_false h1]; rfl) | rfl | (simp; omega))), rfl⟩
    · have h2' : ¬ (1048576 : Int) < (n' : Int) := by omega
      go_enter Tryz.func24, Tryz.ntmps24
      go_wp2
      go_ret
      exact ⟨ret_eq (bool_eq (by first | (rw [decide_eq_false h2, decide_eq_false h1]; rfl) | rfl | (simp; omega))), rfl⟩
theorem mod_le {x m : Int} (hx : 0 ≤ x) (hm : 0 < m) : x % m ≤ x := by
  have h1 := Int.emod_add_mul_ediv x m
  have h2 := Int.ediv_nonneg hx (Int.le_of_lt hm)
  have h3 := Int.mul_nonneg (Int.le_of_lt hm) h2
  omega
def AtAns (m : Int) (w : World) (e : Ending) (w' : World) : Prop := ∃ r : Int, e = .returned (.int .i64 r) ∧ 0 ≤ r ∧ (r < m ∨ r = 0) ∧ r ≤ 255 ∧ w = w'
set_option maxRecDepth 100000 in
set_option maxHeartbeats 400000 in
theorem r8At_c (A : Option Addr) (n c B : Nat) (bs : List Int) (k : Nat) (m : Int) (w : World) (hx : Sl w B 1 A n (bs.flatMap u8C)) (hb : ∀ x ∈ bs, 0 ≤ x ∧ x ≤ 255) (_ : n ≤ 1048576) (hm : m ≤ 1000000) :
    Calls Tryz.prog 27 #[.slice A n c, .int .i64 k, .int .i64 m] w (AtAns m w) := by
  by_cases h1 : m ≤ 1
  · go_enter Tryz.func27, Tryz.ntmps27
    go_wp2
    go_ret
    exact ⟨0, rfl, by omega, .inr rfl, by omega, rfl⟩
  by_cases h2 : k < n
  · obtain ⟨b, off, x, rfl, _, hx', d1⟩ := hx.u8 k h2
    obtain ⟨x0, x1⟩ := hb x (List.mem_of_getElem? hx')
    have h2' : ¬ (n : Int) ≤ (k : Int) := by omega
    have j0 : (0 : Int) ≤ (k : Int) := by omega
    have hr : 0 ≤ x % m ∧ x % m < m ∧ x % m ≤ x := ⟨Int.emod_nonneg _ (by omega), Int.emod_lt_of_pos _ (by omega), mod_le x0 (by omega)⟩
    have Hx' := Lib.hid hx'; clear hx'
    have Hr := Lib.hid hr; clear hr
    go_enter Tryz.func27, Tryz.ntmps27
    go_wp2
    go_ret
    exact ⟨_, rfl, Hr.out.1, .inl Hr.out.2.1, by have := Hr.out.2.2; omega, rfl⟩
  · have h2' : (n : Int) ≤ (k : Int) := by omega
    go_enter Tryz.func27, Tryz.ntmps27
    go_wp2
    go_ret
    exact ⟨0, rfl, by omega, .inr rfl, by omega, rfl⟩
end Go.Proofs.YtpgcgmbjlecnpaaGreat
