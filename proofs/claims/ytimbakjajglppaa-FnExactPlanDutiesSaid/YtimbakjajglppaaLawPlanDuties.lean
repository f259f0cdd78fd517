/- The walk of the law FnExactPlanDuties. -/
import Derived.Test.YtimbakjajglppaaPlanS
import Derived.Test.YtimbakjajglppaaStrS
import Derived.Test.YtimbakjajglppaaDutyMark
namespace Go.Proofs.Ytimbakjajglppaa
open Go.RowKit
theorem planGo_len {ks : List ByteArray} {fr long : Int} : ∀ {k : Nat} {out : List Duty}, planGo ks fr long k = some out → out.length = k
  | 0, out, h => by simp [planGo] at h; subst h; rfl
  | k + 1, out, h => by
    rw [planGo] at h
    cases hg : planGo ks fr long k with
    | none => rw [hg] at h; simp at h
    | some o =>
      rw [hg] at h
      simp only at h
      split at h
      · have := planGo_len hg
        simp at h; subst h; simp [this]
      · simp at h
theorem planR_len (ks : List ByteArray) (fr count long : Int) : (planR ks fr count long).1.length ≤ 60 := by
  unfold planR
  split
  · simp
  split
  · simp
  · rename_i _ hb
    unfold planT
    cases hg : planGo ks fr long count.toNat with
    | none => simp
    | some out =>
      simp only [planGo_len hg]
      cases hc : inB count 0 60
      · simp [planBad, hc] at hb
      · have := inB_iff.1 hc; omega
set_option maxRecDepth 100000 in
set_option maxHeartbeats 2000000 in
theorem lawPlanDuties_c (A : Option Addr) (n c : Nat) (ks : List ByteArray) (fr count long : Int) (w : World) (h : Sl w w.heap.size 1 A n (ks.flatMap strC)) (hm : n ≤ maxLen) (hs : ∀ s ∈ ks, s.size ≤ maxLen) :
    Calls Try.prog 4 #[.slice A n c, .int .i64 fr, .int .i64 count, .int .i64 long] w fun e w' => e = .returned (.bool true) ∧ Below w.heap.size w w' := by
  have hRl := planR_len ks fr count long
  generalize hRR : planR ks fr count long = R at hRl
  obtain ⟨ds, code⟩ := R
  have HRR := Lib.hid hRR; clear hRR
  generalize hdl : ds.length = m at hRl
  have Hdl := Lib.hid hdl; clear hdl
  have hm60 : m ≤ 60 := hRl
  have hmm : m ≤ maxLen := by unfold maxLen; omega
  have Hmm := Lib.hid hmm; clear hmm
  clear hRl
  go_enter Try.func4, Try.ntmps4
  go_wp2_with fail
  refine (szStringS_c A n c ks _ _ h hm hs (by omega) (by omega)).mono ?_
  rintro e w1 ⟨r, rfl, hr, hb1⟩
  go_wp2_with fail
  · go_ret
    exact ⟨rfl, hb1⟩
  have h0 : 0 ≤ r ∧ r ≤ 1048576 ∧ (n : Int) ≤ 1048576 := by omega
  have hn : n ≤ 1048576 := by omega
  clear hr h0
  refine (toStringS_c A n c ks _ (h.next hb1) hn).mono ?_
  rintro e w2 ⟨v2, rfl, ho2, hb2⟩
  obtain ⟨A2, c2, rfl⟩ := own_slice ho2
  replace hb2 := hb1.trans (hb2.mono hb1.size)
  clear hb1
  go_wp2_with fail
  refine (specPlan_c A2 n c2 ks fr count long _ (Sl.of_own ho2) hn hs).mono ?_
  rintro e w3 ⟨v3, rfl, hoW, hb3⟩
  rw [HRR.out] at hoW
  rw [HRR.out]
  simp only [Hdl.out] at hoW
  obtain ⟨AW, cW, rfl⟩ := own_slice hoW
  have hWlt : ∀ k, (Value.slice AW m cW).ownBlock = some k → k < w3.heap.size := fun k hk => (hoW.lt k hk).2
  replace hb3 := hb2.trans (hb3.mono hb2.size)
  have hz3 := hb3.size
  clear hb2 ho2
  go_wp2_with fail
  refine (toStringS_c A n c ks _ (h.next hb3) hn).mono ?_
  rintro e w4 ⟨v4, rfl, hoX, hb4⟩
  obtain ⟨AX, cX, rfl⟩ := own_slice hoX
  replace hoW := own_next hoW hb4
  have hz4 := hb4.size
  replace hb4 := hb3.trans (hb4.mono hb3.size)
  clear hb3
  go_wp2_with fail
  have hcap : n ≤ cX := by
    rcases hoX.2 with ⟨h1, h2⟩ | ⟨g, cap, cur, hv, _, _, h1, _⟩
    · omega
    · injection hv with _ _ hc; omega
  refine (implPlan_c AX n cX ks fr count long _ (Sl.of_own hoX) hn hcap hs).mono ?_
  rintro e w5 ⟨v5, rfl, hoG, hb5⟩
  rw [HRR.out] at hoG
  rw [HRR.out]
  simp only [Hdl.out] at hoG
  obtain ⟨AG, cG, rfl⟩ := own_slice hoG
  replace hoW := own_next hoW hb5
  replace hoX := own_next hoX hb5
  replace hb5 := hb4.trans (hb5.mono hb4.size)
  go_wp2_with fail
  refine (eqDutyS_c AG AW m cG cW ds _ (Sl.of_own hoG) (Sl.of_own hoW) Hmm.out).mono ?_
  rintro e w6 ⟨rfl, hb6⟩
  replace hoW := own_next hoW hb6
  replace hoX := own_next hoX hb6
  replace hoG := own_next hoG hb6
  replace hb6 := hb5.trans (hb6.mono hb5.size)
  clear hb5
  go_wp2_with fail
  refine (toStringS_c A n c ks _ (h.next hb6) hn).mono ?_
  rintro e w7 ⟨v7, rfl, ho7, hb7⟩
  obtain ⟨A7, c7, rfl⟩ := own_slice ho7
  replace hoW := own_next hoW hb7
  replace hoX := own_next hoX hb7
  replace hoG := own_next hoG hb7
  replace hb7 := hb6.trans (hb7.mono hb6.size)
  clear hb6
  go_wp2_with fail
  refine (eqStringS_c AX A7 n cX c7 ks _ (Sl.of_own hoX) (Sl.of_own ho7) hm).mono ?_
  rintro e w8 ⟨rfl, hb8⟩
  replace hoW := own_next hoW hb8
  replace hoX := own_next hoX hb8
  replace hoG := own_next hoG hb8
  replace hb8 := hb7.trans (hb8.mono hb7.size)
  clear hb7 ho7
  go_wp2_with fail
  refine (markStringS_c AX n cX 1 _ _ _ hoX hn (by omega) (by omega)).mono ?_
  rintro e w9 ⟨rfl, hoX9, hg9⟩
  replace hoW := own_grown hoW hg9 (own_ne hoW hoX (by decide))
  replace hoG := own_grown hoG hg9 (own_ne hoG hoX (by decide))
  have hb9 : Below w.heap.size w w9 := hb8.grown hg9 hb8.size fun k hk => by have := (hoX.lt k hk).1; omega
  clear hb8 hoX hoX9 hg9
  have hneg : ¬ (((1 + n : Nat) : Int) < 0) := by omega
  go_wp2_with fail
  refine (eqDutyS_c AG AW m cG cW ds _ (Sl.of_own hoG) (Sl.of_own hoW) Hmm.out).mono ?_
  rintro e w10 ⟨rfl, hb10⟩
  replace hoW := own_next hoW hb10
  replace hoG := own_next hoG hb10
  replace hb10 := hb9.trans (hb10.mono hb9.size)
  clear hb9
  go_wp2_with fail
  refine (markDutyS_c AG m cG 1 _ _ _ hoG (by omega) (by omega) (by omega)).mono ?_
  rintro e w11 ⟨rfl, hoG2, hg11⟩
  replace hoW := own_grown hoW hg11 (own_older hoW (fun k hk => Nat.lt_of_lt_of_le (hWlt k hk) hz4) hoG)
  have hb11 : Below w.heap.size w w11 := hb10.grown hg11 hb10.size fun k hk => by have := (hoG.lt k hk).1; have := hb4.size; omega
  clear hb10 hoG hg11
  go_wp2_with fail
  refine (heldDutyS_c AG m cG 1 _ (Sl.of_own hoG2) (by omega) (by omega) (by omega)).mono ?_
  rintro e w12 ⟨rfl, hb12⟩
  replace hoW := own_next hoW hb12
  replace hoG2 := own_next hoG2 hb12
  replace hb12 := hb11.trans (hb12.mono hb11.size)
  clear hb11
  have hneg2 : ¬ (((1 + 3 * m : Nat) : Int) < 0) := by omega
  go_wp2_with fail
  refine (toStringS_c A n c ks _ (h.next hb12) hn).mono ?_
  rintro e w13 ⟨v13, rfl, ho13, hb13⟩
  obtain ⟨A13, c13, rfl⟩ := own_slice ho13
  replace hoW := own_next hoW hb13
  replace hoG2 := own_next hoG2 hb13
  replace hb13 := hb12.trans (hb13.mono hb12.size)
  clear hb12
  go_wp2_with fail
  have hcap2 : n ≤ c13 := by
    rcases ho13.2 with ⟨h1, h2⟩ | ⟨g, cap, cur, hv, _, _, h1, _⟩
    · omega
    · injection hv with _ _ hc; omega
  refine (implPlan_c A13 n c13 ks fr count long _ (Sl.of_own ho13) hn hcap2 hs).mono ?_
  rintro e w14 ⟨v14, rfl, ho14, hb14⟩
  rw [HRR.out] at ho14
  rw [HRR.out]
  simp only [Hdl.out] at ho14
  obtain ⟨A14, c14, rfl⟩ := own_slice ho14
  replace hoW := own_next hoW hb14
  replace hoG2 := own_next hoG2 hb14
  replace hb14 := hb13.trans (hb14.mono hb13.size)
  clear hb13 ho13
  go_wp2_with fail
  refine (eqDutyS_c A14 AW m c14 cW ds _ (Sl.of_own ho14) (Sl.of_own hoW) Hmm.out).mono ?_
  rintro e w15 ⟨rfl, hb15⟩
  replace hoG2 := own_next hoG2 hb15
  replace hb15 := hb14.trans (hb15.mono hb14.size)
  clear hb14
  go_wp2_with fail
  refine (heldDutyS_c AG m cG 1 _ (Sl.of_own hoG2) (by omega) (by omega) (by omega)).mono ?_
  rintro e w16 ⟨rfl, hb16⟩
  replace hb16 := hb15.trans (hb16.mono hb15.size)
  go_wp2_with fail
  go_ret
  exact ⟨rfl, hb16⟩
end Go.Proofs.Ytimbakjajglppaa
