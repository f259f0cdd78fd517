/- The walk of the law FnExactValidAids. -/
import Derived.Test.YtaooidgmphbegaaGreatDoorAidsS
import Derived.Test.YtaooidgmphbegaaGreatDoorAidsI
namespace Go.Proofs.YtaooidgmphbegaaGreatDoor
open Go.RowKit
set_option maxRecDepth 100000 in
set_option maxHeartbeats 2000000 in
theorem lawValidAids_c (A : Option Addr) (n c : Nat) (zs : List AidG) (w : World) (h : Sl w w.heap.size 16 A n (zs.flatMap AidG.cells) ∧ ∀ z ∈ zs, AidRd w z) (hm : n ≤ maxLen) (ht : Tab w) :
    Calls Tryz.prog 6 #[.slice A n c] w fun e w' => e = .returned (.bool true) ∧ Below w.heap.size w w' := by
  go_enter Tryz.func6, Tryz.ntmps6
  go_wp2_with fail
  refine (szAidS_c A n c zs _ _ h.1 hm h.2 (by omega) (by omega)).mono ?_
  rintro e w1 ⟨r, rfl, hr, hb1⟩
  have Hr := Lib.hid hr; clear hr
  go_wp2_with fail
  · go_ret
    exact ⟨rfl, hb1⟩
  have hbd : (∀ z ∈ zs, AidBd z.a) ∧ n ≤ 1048576 := by
    rcases Hr.out with h3 | ⟨h3, h4, h5⟩
    · omega
    · exact ⟨h5, by omega⟩
  obtain ⟨bd, hn⟩ := hbd
  clear Hr
  have s0 : AidSl w A n zs := ⟨h.1, fun z hz => (h.2 z hz).ok (bd z hz)⟩
  refine (toAidS_c A n c zs _ (s0.next hb1) hn).mono ?_
  rintro e w2 ⟨v2, zs2, rfl, ha2, ho2, hb2⟩
  obtain ⟨A2, c2, rfl⟩ := own_slice ho2.own
  have s2 := ho2.sl (bd_of ha2 bd)
  replace hb2 := hb1.trans (hb2.mono hb1.size)
  clear ho2
  go_wp2_with fail
  have hc2 := specValidAids_c A2 n c2 zs2 w2 s2 hn
  rw [ha2] at hc2
  refine hc2.mono ?_
  rintro e w3 ⟨rfl, hb3⟩
  clear hc2
  replace hb3 := hb2.trans (hb3.mono hb2.size)
  go_wp2_with fail
  refine (toAidS_c A n c zs _ (s0.next hb3) hn).mono ?_
  rintro e w4 ⟨v4, zs4, rfl, ha4, ho4, hb4⟩
  obtain ⟨A4, c4, rfl⟩ := own_slice ho4.own
  have s4 := ho4.sl (bd_of ha4 bd)
  replace hb4 := hb3.trans (hb4.mono hb3.size)
  clear ho4
  go_wp2_with fail
  have hc4 := implValidAids_c A4 n c4 zs4 w4 s4 hn (ht.next hb4)
  rw [ha4] at hc4
  refine hc4.mono ?_
  rintro e w6 ⟨rfl, hb6⟩
  clear hc4
  have s6 := s4.next hb6
  replace hb6 := hb4.trans (hb6.mono hb4.size)
  go_wp2_with fail
  refine (toAidS_c A n c zs _ (s0.next hb6) hn).mono ?_
  rintro e w7 ⟨v7, zs7, rfl, ha7, ho7, hb7⟩
  obtain ⟨A7, c7, rfl⟩ := own_slice ho7.own
  have s7 := ho7.sl (bd_of ha7 bd)
  have t7 := s6.next hb7
  replace hb7 := hb6.trans (hb7.mono hb6.size)
  clear ho7
  go_wp2_with fail
  refine (eqAidS_c A4 A7 n c4 c7 zs4 zs7 _ t7 s7 (ha4.trans ha7.symm) hn).mono ?_
  rintro e w8 ⟨rfl, hb8⟩
  go_wp2_with fail
  go_ret
  exact ⟨rfl, hb7.trans (hb8.mono hb7.size)⟩
end Go.Proofs.YtaooidgmphbegaaGreatDoor
