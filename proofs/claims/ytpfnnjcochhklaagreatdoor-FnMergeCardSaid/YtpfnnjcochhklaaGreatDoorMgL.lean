
/- Merging lists of aids: what the law asks, in plain Lean; the program's contracts in the law's words. -/
import Derived.Test.YtpfnnjcochhklaaGreatDoorMgJ
namespace Go.Proofs.YtpfnnjcochhklaaGreatDoor
open Go.RowKit
theorem mgK_left {base a : List AidX} (hb : aidsB base = true) (ha : aidsB a = true) : mgK base a base = 0 := by rw [mgK, if_pos (cf_left _ _), mg_left hb ha, if_pos (aids_24 ha)]
theorem mgK_right {base a : List AidX} (hb : aidsB base = true) (ha : aidsB a = true) : mgK base base a = 0 := by rw [mgK, if_pos (cf_right _ _), mg_right hb ha, if_pos (aids_24 ha)]
theorem mgK_both {base a : List AidX} (ha : aidsB a = true) : mgK base a a = 0 := by rw [mgK, if_pos (cf_both _ _), mg_both ha, if_pos (aids_24 ha)]
theorem mgK_comm {base a b : List AidX} (ha : aidsB a = true) (hb : aidsB b = true) : mgK base b a = mgK base a b := by
  rw [mgK, mgK, cf_comm base b a]
  by_cases h : cfP base a b = []
  · rw [if_pos h, if_pos h, mg_comm ha hb h]
  · rw [if_neg h, if_neg h]
theorem mgK_zero {base a b : List AidX} (h : mgK base a b = 0) : cfP base a b = [] ∧ (mgL base a b).length ≤ 24 := by
  rw [mgK] at h
  by_cases h1 : cfP base a b = []
  · rw [if_pos h1] at h
    by_cases h2 : (mgL base a b).length ≤ 24
    · exact ⟨h1, h2⟩
    · rw [if_neg h2] at h; exact absurd h (by decide)
  · rw [if_neg h1] at h; exact absurd h (by decide)
theorem mgK_six (base a b : List AidX) : (mgK base a b == 6) = decide (0 < (cfP base a b).length) := by
  rw [mgK]
  by_cases h1 : cfP base a b = []
  · rw [if_pos h1, h1]
    by_cases h2 : (mgL base a b).length ≤ 24
    · rw [if_pos h2]; rfl
    · rw [if_neg h2]; rfl
  · rw [if_neg h1]
    have : 0 < (cfP base a b).length := List.length_pos_iff.2 h1
    simp [this]
theorem mgCf_len (b x y : List AidX) : (cfP b x y).length ≤ 9999 := Nat.le_trans (List.length_filter_le _ _) (upTo_len 9999 _)
section
variable {A1 A2 A3 : Option Addr} {n1 n2 n3 c1 c2 c3 : Nat} {z1 z2 z3 : List AidG} {w : World}
theorem mrgZ_h (h1 : AidSl w A1 n1 z1) (h2 : AidSl w A2 n2 z2) (h3 : AidSl w A3 n3 z3) (V1 : aidsB (z1.map AidG.a) = true) (V2 : aidsB (z2.map AidG.a) = true) (V3 : aidsB (z3.map AidG.a) = true) (ht : Tab w)
    {M : List AidX} {m : Nat} (hK : mgK (z1.map AidG.a) (z2.map AidG.a) (z3.map AidG.a) = 0) (hM : mgL (z1.map AidG.a) (z2.map AidG.a) (z3.map AidG.a) = M) (vM : aidsB M = true) (nM : M.length = m) :
    Calls Tryz.prog 8 #[.slice A1 n1 c1, .slice A2 n2 c2, .slice A3 n3 c3] w fun e w' => ∃ A c zs, e = .returned (.tuple #[.slice A m c, .int .i64 0]) ∧ Hid (zs.map AidG.a = M) ∧ Hid (AidSl w' A m zs) ∧ Below w.heap.size w w' := by
  refine (mergeAids_c A1 A2 A3 n1 n2 n3 c1 c2 c3 z1 z2 z3 w h1 h2 h3 V1 V2 V3 ht).mono ?_
  rintro e w' ⟨A, n, c, zs, he, hz, hO, hb⟩
  have hz := hz hK
  rw [hK] at he
  rw [hM] at hz
  have hn : n = m := by rw [← nM, ← hz, List.length_map, hO.len']
  subst hn
  exact ⟨A, c, zs, he, Lib.hid hz, Lib.hid (hO.sl fun z h => valid_bd (aids_mem (by rw [hz]; exact vM) (List.mem_map_of_mem h))), hb⟩
theorem mrgN_h (h1 : AidSl w A1 n1 z1) (h2 : AidSl w A2 n2 z2) (h3 : AidSl w A3 n3 z3) (V1 : aidsB (z1.map AidG.a) = true) (V2 : aidsB (z2.map AidG.a) = true) (V3 : aidsB (z3.map AidG.a) = true) (ht : Tab w)
    {K : Int} (hK : mgK (z1.map AidG.a) (z2.map AidG.a) (z3.map AidG.a) = K) :
    Calls Tryz.prog 8 #[.slice A1 n1 c1, .slice A2 n2 c2, .slice A3 n3 c3] w fun e w' => ∃ A n c, e = .returned (.tuple #[.slice A n c, .int .i64 K]) ∧ Below w.heap.size w w' := by
  refine (mergeAids_c A1 A2 A3 n1 n2 n3 c1 c2 c3 z1 z2 z3 w h1 h2 h3 V1 V2 V3 ht).mono ?_
  rintro e w' ⟨A, n, c, zs, he, _, _, hb⟩
  exact ⟨A, n, c, hK ▸ he, hb⟩
theorem cfl_h (h1 : AidSl w A1 n1 z1) (h2 : AidSl w A2 n2 z2) (h3 : AidSl w A3 n3 z3) (V1 : aidsB (z1.map AidG.a) = true) (V2 : aidsB (z2.map AidG.a) = true) (V3 : aidsB (z3.map AidG.a) = true) (ht : Tab w) (m1 : n1 ≤ 1048576) (m2 : n2 ≤ 1048576) (m3 : n3 ≤ 1048576)
    {C : List Int} {R : Nat} (hC : cfP (z1.map AidG.a) (z2.map AidG.a) (z3.map AidG.a) = C) (hR : C.length = R) :
    Calls Tryz.prog 10 #[.slice A1 n1 c1, .slice A2 n2 c2, .slice A3 n3 c3] w fun e w' => ∃ A c, e = .returned (.tuple #[.slice A R c, .int .i64 0]) ∧ Hid (Sl w' w'.heap.size 1 A R (C.flatMap intC)) ∧ Below w.heap.size w w' := by
  have := implCf_c A1 A2 A3 n1 n2 n3 c1 c2 c3 z1 z2 z3 w h1 h2 h3 m1 m2 m3 ht
  rw [cfL, cfK, cfV, V1, V2, V3, hC] at this
  simp only [Bool.and_self, cond_true, hR] at this
  refine this.mono ?_
  rintro e w' ⟨A, c, he, hO, hb⟩
  exact ⟨A, c, he, Lib.hid (Sl.of_own hO), hb⟩
end
end Go.Proofs.YtpfnnjcochhklaaGreatDoor
