/- AsL: several of my texts in one. -/
import Derived.Test.YtgibbhipjpbdfaaGreatDdC
import Derived.Test.YtgibbhipjpbdfaaGreatDdS
import Derived.Test.YtgibbhipjpbdfaaGreatChC
import Derived.Test.YtgibbhipjpbdfaaGreatAsG
import Derived.Test.YtgibbhipjpbdfaaGreatAsH
import Derived.Test.YtgibbhipjpbdfaaGreatRows
import Derived.Test.YtgibbhipjpbdfaaGreatByOpen

/- IsDistinct: the reference. -/
namespace Go.Proofs.YtgibbhipjpbdfaaGreat
open Go.RowKit
theorem disB_eq {pss : List (List Int)} {ch : List Int} {xs : List Ch} {tol : Int} {n0 n1 n : Nat} (h0 : pss.length = n0) (h1 : ch.length = n1) (h : xs.length = n) :
    disB pss ch xs tol = (pairsB pss n1 && (xs.all validB && (decide (n ≤ 12) && (inB tol 0 20 && (inCh ch n && allB n0 (disK (clP xs tol) ch pss)))))) := by
  subst h0 h1 h; rfl
end Go.Proofs.YtgibbhipjpbdfaaGreat

/- IsDistinct: the program. -/
namespace Go.Proofs.YtgibbhipjpbdfaaGreat
open Go.RowKit
theorem pairs_at {w : World} {A : Option Addr} {n : Nat} {rs : List RowG} {m : Int} (h : RS w A n rs) (hp : pairsB (rs.map RowG.xs) m = true) (k : Nat) (r : RowG) (hr : rs[k]? = some r) :
    ∃ g o, ∃ i j : Nat, r.A = some ⟨g, o, none⟩ ∧ r.xs = [(i : Int), (j : Int)] ∧ i < j ∧ (j : Int) ≤ m - 1 ∧ g < w.heap.size ∧ w.cell? ⟨g, o, none⟩ = some (.int .i64 (i : Int)) ∧ w.cell? ⟨g, o + 1, none⟩ = some (.int .i64 (j : Int)) := by
  have hrx : (rs.map RowG.xs)[k]? = some r.xs := by rw [List.getElem?_map, hr]; rfl
  obtain ⟨a, d, he, ha0, had, hdn⟩ := pairs_two hp hrx
  obtain ⟨i, rfl⟩ := Int.eq_ofNat_of_zero_le ha0
  obtain ⟨j, rfl⟩ := Int.eq_ofNat_of_zero_le (show 0 ≤ d by omega)
  have s0 := (h.ok r (List.mem_of_getElem? hr)).1
  rw [he] at s0
  obtain ⟨g, o, hgA, hgl, ca, cd⟩ := two_cells s0 rfl
  exact ⟨g, o, i, j, hgA, he, by omega, hdn, hgl, ca, cd⟩
set_option maxRecDepth 100000 in
set_option maxHeartbeats 4000000 in
theorem implDis_c (A0 : Option Addr) (n0 c0 : Nat) (rs : List RowG) (A1 : Option Addr) (n1 c1 : Nat) (ch : List Int) (A : Option Addr) (n c : Nat) (zs : List ChG) (tol : Int) (w : World) (h0 : RS w A0 n0 rs) (m0 : n0 ≤ 1048576)
    (h1 : Sl w w.heap.size 1 A1 n1 (ch.flatMap intC)) (m1 : n1 ≤ 1048576) (h : ChS w A n zs) (hm : n ≤ 1048576) :
    Calls Tryz.prog 8 #[.slice A0 n0 c0, .slice A1 n1 c1, .slice A n c, .int .i64 tol] w fun e w' => e = .returned (.bool (disB (rs.map RowG.xs) ch (zs.map ChG.x) tol)) ∧ Below w.heap.size w w' := by
  have hl0 : (rs.map RowG.xs).length = n0 := by rw [List.length_map]; exact h0.len
  have hl1 : ch.length = n1 := h1.len intC 1 intC_len (by omega)
  have hlx : (zs.map ChG.x).length = n := by rw [List.length_map]; exact h.len
  have hb0 : Below w.heap.size w (w.alloc (.cells #[.slice A1 n1 c1] 28)) := by (repeat (first | (with_reducible assumption) | (with_reducible exact Below.refl _ _) | exact Nat.le_refl _ | exact Below.size (by with_reducible assumption) | (with_reducible refine Below.drew ?_) | (with_reducible refine below_drewN ?_ _) | (with_reducible refine Below.alloc ?_ ?_ _) | (with_reducible refine Below.setCell ?_ ?_ _) | (with_reducible refine le_alloc ?_ _) | (with_reducible refine le_set ?_ _ _) | (with_reducible refine le_drew ?_) | (with_reducible refine le_drewN ?_ _) | omega | (dsimp only; omega)))
  have hx := (cell_of_row _ w.heap.size 0 _ _ _ (heap_alloc_new w (.cells #[.slice A1 n1 c1] 28))).trans (rfl : _ = some (Value.slice A1 n1 c1))
  have hxz : w.heap.size < (w.alloc (.cells #[.slice A1 n1 c1] 28)).heap.size := by simp
  obtain ⟨w0, hw⟩ : ∃ w0, w.alloc (.cells #[.slice A1 n1 c1] 28) = w0 := ⟨_, rfl⟩
  rw [hw] at hb0 hx hxz
  have s0 := h0.next hb0
  have s1 := h1.next hb0
  have s2 := h.next hb0
  have hK := chcCode_c A0 n0 c0 rs n1 A n c zs tol 1 w0 s0 m0 s2 hm
  have hdis := disB_eq (tol := tol) hl0 hl1 hlx
  have hkd : codeK (rs.map RowG.xs) n1 (zs.map ChG.x) tol 1 = bif !(pairsB (rs.map RowG.xs) n1 && (zs.map ChG.x).all validB) then 1 else bif !(inB tol 0 20) then 2 else bif !decide (n ≤ 12) then 5 else 0 := by
    rw [codeK, hlx, show inB 1 1 20000 = true from rfl, Bool.and_true]
  have cN : pairsB (rs.map RowG.xs) n1 = true → (zs.map ChG.x).all validB = true → n ≤ 12 → ∀ w1, Below w0.heap.size w0 w1 → Calls Tryz.prog 16 #[.slice A0 n0 c0, .int .i64 n1, .slice A n c, .int .i64 tol] w1 fun e w' => ∃ (g : Nat) (ys : List Value) (T : Nat → Nat → Bool), e = .returned (.pointer (some ⟨g, 0, none⟩)) ∧ Chz w' w1.heap.size g ys ∧ TabIs ys T ∧ (∀ i j, i < n → j < n → T i j = tabB (clP (zs.map ChG.x) tol) i j) ∧ Below w1.heap.size w1 w' :=
    fun a b d w1 hb => newChoosing_c A0 n0 c0 rs n1 A n c zs tol w1 (s0.next hb) m0 a (s2.next hb) b d
  obtain ⟨P, hP⟩ : ∃ P, pairsB (rs.map RowG.xs) n1 = P := ⟨_, rfl⟩
  obtain ⟨V, hV⟩ : ∃ V, (zs.map ChG.x).all validB = V := ⟨_, rfl⟩
  obtain ⟨T, hT⟩ : ∃ T, inB tol 0 20 = T := ⟨_, rfl⟩
  obtain ⟨p, hp⟩ : ∃ p, clP (zs.map ChG.x) tol = p := ⟨_, rfl⟩
  obtain ⟨K, hKe⟩ : ∃ K, codeK (rs.map RowG.xs) n1 (zs.map ChG.x) tol 1 = K := ⟨_, rfl⟩
  obtain ⟨D, hD⟩ : ∃ D, disB (rs.map RowG.xs) ch (zs.map ChG.x) tol = D := ⟨_, rfl⟩
  rw [hP, hV, hT, hKe] at hkd
  rw [hP, hV, hT, hp, hD] at hdis
  rw [hP, hV, hp] at cN
  rw [hKe] at hK
  rw [hD]
  have hget : ∀ (k : Nat) (r : RowG), rs[k]? = some r → (rs.map RowG.xs)[k]? = some r.xs := fun k r hr => by rw [List.getElem?_map, hr]; rfl
  obtain ⟨pss, hps⟩ : ∃ pss, rs.map RowG.xs = pss := ⟨_, rfl⟩
  rw [hps] at hP hl0 hget hdis
  clear hV hT hp hKe hD h h0 h1 hlx
  have HPs := Lib.hid hps; clear hps
  have HL0 := Lib.hid hl0; clear hl0
  have HL1 := Lib.hid hl1; clear hl1
  have HPe := Lib.hid hP; clear hP
  have HG := Lib.hid hget; clear hget
  have H0 := Lib.hid s0; clear s0
  have H1 := Lib.hid s1; clear s1
  have H2 := Lib.hid s2; clear s2
  have HK := Lib.hid hK; clear hK
  have HN := Lib.hid cN; clear cN
  by_cases hbad : (P && (V && (decide (n ≤ 12) && T))) = false
  · have hk0 : ¬ K = 0 := by
      rw [hkd]
      intro e
      cases P <;> cases V <;> cases T <;> cases hq : decide (n ≤ 12) <;> simp_all
    have hdf : D = false := by
      rw [hdis]
      cases P <;> cases V <;> cases T <;> cases hq : decide (n ≤ 12) <;> simp_all
    have hkb : (K != 0) = true := by simpa using hk0
    have hkb2 : (K == 0) = false := by simpa using hk0
    clear hkd hdis hbad
    have Hdf := Lib.hid hdf; clear hdf
    go_enter Tryz.func8, Tryz.ntmps8
    go_wp2_with fail
    try rw [hw]
    clear hw
    refine HK.out.mono ?_
    rintro e w1 ⟨rfl, hb1⟩
    have hx1 := (keepC hb1 w.heap.size hxz 0).trans hx
    go_wp2_with fail
    go_ret
    exact ⟨ret_eq (bool_eq Hdf.out.symm), hb0.trans (hb1.mono hb0.size)⟩
  obtain ⟨rfl, rfl, hn, rfl⟩ : P = true ∧ V = true ∧ n ≤ 12 ∧ T = true := by
    cases P <;> cases V <;> cases T <;> cases hq : decide (n ≤ 12) <;> simp_all
  obtain rfl : K = 0 := by rw [hkd, decide_eq_true hn]; rfl
  have hd2 : D = (inCh ch n && allB n0 (disK p ch pss)) := by rw [hdis, decide_eq_true hn]; simp
  have HN2 := Lib.hid (HN.out rfl rfl hn)
  clear hkd hdis hbad HN
  have HD := Lib.hid hd2; clear hd2
  go_enter Tryz.func8, Tryz.ntmps8
  go_wp2_with fail
  try rw [hw]
  clear hw
  refine HK.out.mono ?_
  rintro e w1 ⟨rfl, hb1⟩
  have hx1 := (keepC hb1 w.heap.size hxz 0).trans hx
  go_wp2_with fail
  have hbw1 := hb0.trans (hb1.mono hb0.size)
  go_loopw [21] (fun i wr => ∃ k : Nat, k ≤ n1 ∧ i = .int .i64 k ∧ Hid (∀ (j : Nat) (x : Int), j < k → ch[j]? = some x → 0 ≤ x ∧ x ≤ (n : Int) - 1) ∧ Below w0.heap.size w0 wr) (fun i _ => n1 - (intOf i).toNat)
  case atStart => exact ⟨0, Nat.zero_le _, rfl, Lib.hid (fun j x hj => absurd hj (by omega)), hb1⟩
  case round =>
    clear hb1 hbw1 hx1
    obtain ⟨k, hk, rfl, Hc, hbw⟩ := hrel
    have k0 : (0 : Int) ≤ (k : Int) := by omega
    have hxr := (keepC hbw w.heap.size hxz 0).trans hx
    have hbf := hb0.trans (hbw.mono hb0.size)
    by_cases hlt : k < n1
    · have k1 : (k : Int) < (n1 : Int) := by omega
      obtain ⟨b1, o1, x, rfl, hb1, hxk, cx⟩ := (H1.out.next hbw).int k hlt
      have hI := at_c x n wr
      rw [show (decide (0 ≤ x) && decide (x < (n : Int))) = inB x 0 ((n : Int) - 1) by rw [Bool.eq_iff_iff, inB_iff]; simp; omega] at hI
      cases hxi : inB x 0 ((n : Int) - 1)
      all_goals
        rw [hxi] at hI
        have HI := Lib.hid hI; clear hI
      · have hdf : D = false := by
          rw [HD.out, Bool.and_eq_false_iff]
          refine .inl ?_
          cases hq : inCh ch n
          · rfl
          · have := inCh_iff.1 hq x (List.mem_of_getElem? hxk)
            have h2 := inB_no.1 hxi
            omega
        have Hdf := Lib.hid hdf; clear hdf
        have Hxi := Lib.hid hxi; clear hxi
        have Hx := Lib.hid hxk; clear hxk
        go_wp2_with fail
        refine HI.out.mono ?_
        rintro e w5 ⟨rfl, rfl⟩
        go_wp2_with fail
        go_ret
        exact ⟨ret_eq (bool_eq Hdf.out.symm), hbf⟩
      · have Hxi := Lib.hid hxi; clear hxi
        have Hx := Lib.hid hxk; clear hxk
        go_wp2_with fail
        refine HI.out.mono ?_
        rintro e w5 ⟨rfl, rfl⟩
        go_wp2_with fail
        go_roundw
        case rel =>
          refine ⟨k + 1, by omega, by go_num, Lib.hid (fun j y hj hy => ?_), hbw⟩
          rcases Nat.lt_or_ge j k with h2 | h2
          · exact Hc.out j y h2 hy
          · obtain rfl : j = k := by omega
            rw [Hx.out] at hy
            injection hy with hy
            subst hy
            exact inB_iff.1 Hxi.out
        case measure => simp [intOf]; omega
    · obtain rfl : k = n1 := by omega
      have hin : inCh ch n = true := inCh_iff.2 fun x hx => by
        obtain ⟨j, hj⟩ := List.getElem?_of_mem hx
        exact Hc.out j x (by have := (List.getElem?_eq_some_iff.1 hj).1; rw [HL1.out] at this; exact this) hj
      have hD := HD.out
      rw [hin, Bool.true_and] at hD
      clear HD
      have HD := Lib.hid hD; clear hD
      have Hin := Lib.hid hin; clear hin
      go_wp2_with fail
      refine (HN2.out _ hbw).mono ?_
      rintro e w5 ⟨g, ys, T, rfl, hcz, ht, hte, hb5'⟩
      have hb5 := hbw.trans (hb5'.mono hbw.size)
      have hx5 := (keepC hb5 w.heap.size hxz 0).trans hx
      have hbf5 := hb0.trans (hb5.mono hb0.size)
      clear hb5' hbw hbf hxr
      have HCz := Lib.hid hcz; clear hcz
      have HT := Lib.hid ht; clear ht
      have HTe := Lib.hid hte; clear hte
      have hbA := (Below.refl w5.heap.size w5).alloc (Nat.le_refl _) (.cells #[.pointer (some ⟨g, 0, none⟩)] 42)
      have hxA := (cell_of_row _ w5.heap.size 0 _ _ _ (heap_alloc_new w5 (.cells #[.pointer (some ⟨g, 0, none⟩)] 42))).trans (rfl : _ = some (Value.pointer (some ⟨g, 0, none⟩)))
      obtain ⟨w6, hw6⟩ : ∃ w6, w5.alloc (.cells #[.pointer (some ⟨g, 0, none⟩)] 42) = w6 := ⟨_, rfl⟩
      rw [hw6] at hbA hxA
      have hzA : w5.heap.size < w6.heap.size := by rw [← hw6]; simp
      have hb6 := hb5.trans (hbA.mono hb5.size)
      have hbf6 := hb0.trans (hb6.mono hb0.size)
      have hcz6 := own_next HCz.out hbA
      have hC : ∀ q r, rs[q]? = some r → ∀ w', Below w6.heap.size w6 w' → Calls Tryz.prog 21 #[.slice r.A r.xs.length r.c, .pointer (some ⟨w5.heap.size, 0, none⟩), .pointer (some ⟨w.heap.size, 0, none⟩)] w' fun e w'' => e = .returned (.bool (!disK p ch pss q)) ∧ Below w'.heap.size w' w'' := by
        intro q r hr w' hb'
        have hrx := HG.out q r hr
        have hb6' := hb6.trans (hb'.mono hb6.size)
        obtain ⟨gp, o, i, j, hgA, he, hij, hjm, hgp, ca, cd⟩ := pairs_at H0.out (by rw [HPs.out]; exact HPe.out) q r hr
        obtain ⟨b1, o1, x, hA1, hb1, hxi, cx⟩ := (H1.out.next hb6').int i (by omega)
        obtain ⟨b2, o2, y, hA2, hb2, hyj, cy⟩ := (H1.out.next hb6').int j (by omega)
        rw [hA1] at hA2
        injection hA2 with hA2
        injection hA2 with e1 e2 _
        subst e1 e2
        obtain ⟨x0, x1⟩ := Hc.out i x (by omega) hxi
        obtain ⟨y0, y1⟩ := Hc.out j y (by omega) hyj
        obtain ⟨u, rfl⟩ := Int.eq_ofNat_of_zero_le x0
        obtain ⟨v, rfl⟩ := Int.eq_ofNat_of_zero_le y0
        have ct : w'.cell? ⟨g, 3 + u * 12 + v, none⟩ = some (.bool (T u v)) := by
          rw [(own_next hcz6 hb').cellAt (3 + u * 12 + v) (by omega)]
          exact HT.out u v (by omega) (by omega)
        have hdk : (!disK p ch pss q) = T u v := by
          rw [he] at hrx
          rw [disK_at hrx (x := u) (y := v) (by simpa using hxi) (by simpa using hyj), HTe.out u v (by omega) (by omega)]
          simp
        have hx2 := (keepC hb6' w.heap.size hxz 0).trans hx
        rw [hA1] at hx2
        rw [hdk, hgA, he]
        exact ddClos_c gp o r.c w5.heap.size w.heap.size g b1 o1 k c1 i j u v (T u v) w' ((keepC hb' w5.heap.size hzA 0).trans hxA) hx2 ((keepC hb6' gp hgp o).trans ca) ((keepC hb6' gp hgp (o + 1)).trans cd) (by omega) (by omega) cx cy (by omega) (by omega) ct
      have hHas := ddHas_c A0 n0 c0 rs w5.heap.size w.heap.size (disK p ch pss) w6 (H0.out.next hb6) m0 hC
      clear hC hcz6 hxA
      have HHas := Lib.hid hHas; clear hHas
      go_wp2_with fail
      try rw [hw6]
      clear hw6
      refine HHas.out.mono ?_
      rintro e w7 ⟨rfl, hb7⟩
      go_wp2_with fail
      go_ret
      exact ⟨ret_eq (bool_eq (by first | (rw [HD.out]; done) | (rw [HD.out]; simp))), hbf6.trans (hb7.mono hbf6.size)⟩
end Go.Proofs.YtgibbhipjpbdfaaGreat

/- The walk of the law FnAssignment. -/
namespace Go.Proofs.YtgibbhipjpbdfaaGreat
open Go.RowKit
/-- A choice that a search finds is distinct. -/
theorem dis_distinct {pss : List (List Int)} {N most : Nat} {xs : List Ch} {tol : Int} {Q : List Int} (h : Dis pss N xs tol most Q) (hp : pairsB pss (N : Int) = true) (hv : xs.all validB = true) (ht : inB tol 0 20 = true) (hl : xs.length ≤ 12) : disB pss Q xs tol = true := by
  have hQ : Q.length = N := h.len
  rw [disB, hQ, hp, hv, decide_eq_true hl, ht, Bool.true_and, Bool.true_and, Bool.true_and, Bool.true_and, Bool.and_eq_true]
  refine ⟨inCh_iff.2 fun x hx => ?_, allB_iff.2 fun k hk => ?_⟩
  · obtain ⟨k, hk⟩ := List.getElem?_of_mem hx
    have := h.inI k x (Nat.zero_le _) hk
    omega
  · obtain ⟨r, hr⟩ : ∃ r, pss[k]? = some r := ⟨_, List.getElem?_eq_getElem hk⟩
    obtain ⟨a, d, rfl, ha, had, hd⟩ := pairs_two hp hr
    obtain ⟨a, rfl⟩ := Int.eq_ofNat_of_zero_le ha
    obtain ⟨d, rfl⟩ := Int.eq_ofNat_of_zero_le (show 0 ≤ d by omega)
    obtain ⟨x, hx⟩ : ∃ x, Q[a]? = some x := ⟨_, List.getElem?_eq_getElem (by omega)⟩
    obtain ⟨y, hy⟩ : ∃ y, Q[d]? = some y := ⟨_, List.getElem?_eq_getElem (by omega)⟩
    have hm : (a : Int) ∈ befL pss d := by
      rw [befL, List.mem_flatMap]
      exact ⟨_, List.mem_of_getElem? hr, by simp⟩
    have h1 := h.okk d y (a : Int) x (Nat.zero_le _) hy hm (by rw [Int.toNat_natCast]; exact hx)
    rw [disK_at hr (by rw [Int.toNat_natCast]; exact hx) (by rw [Int.toNat_natCast]; exact hy), tab_symm (clP_symm xs tol), h1]; rfl
theorem dis_used {pss : List (List Int)} {N most : Nat} {xs : List Ch} {tol : Int} {Q : List Int} (h : Dis pss N xs tol most Q) : (usedL Q).length ≤ xs.length := used_bd fun x hx => by
  obtain ⟨k, hk⟩ := List.getElem?_of_mem hx
  exact h.inI k x (Nat.zero_le _) hk
set_option maxRecDepth 100000 in
set_option maxHeartbeats 1000000 in
theorem b10Has_c (A : Option Addr) (n c : Nat) (xs : List Int) (x : Int) (w : World) (hx : Sl w w.heap.size 1 A n (xs.flatMap intC)) (hn : n ≤ 1048576) :
    Calls Tryz.prog 9 #[.slice A n c, .int .i64 x] w fun e w' => e = .returned (.bool (decide (x ∈ xs))) ∧ w = w' := by
  have hl := hx.len intC 1 intC_len (by omega)
  have Hl := Lib.hid hl; clear hl
  go_enter Tryz.func9, Tryz.ntmps9
  go_wp2
  go_loop [5] (fun i => ∃ k : Nat, k ≤ n ∧ i = .int .i64 k ∧ Hid (∀ j : Nat, j < k → xs[j]? ≠ some x)) (fun i => n - (intOf i).toNat)
  case atStart => exact ⟨0, Nat.zero_le _, rfl, Lib.hid (fun j hj => absurd hj (by omega))⟩
  case round =>
    obtain ⟨k, hk, rfl, Hno⟩ := hrel
    by_cases hlt : k < n
    · obtain ⟨b, off, y, rfl, _, hy, d1⟩ := hx.int k hlt
      have j0 : (0 : Int) ≤ (k : Int) := by omega
      have j1 : (k : Int) < (n : Int) := by omega
      by_cases he : y = x
      · subst he
        have Hy := Lib.hid hy; clear hy
        go_wp2
        go_ret
        exact ⟨ret_eq (bool_eq (by first | rfl | exact (decide_eq_true (List.mem_of_getElem? Hy.out)).symm)), rfl⟩
      · have he' : (y == x) = false := by simpa using he
        have Hy := Lib.hid hy; clear hy
        have He := Lib.hid he; clear he
        go_wp2
        go_round
        case rel =>
          refine ⟨k + 1, by omega, by go_num, Lib.hid fun j hj => ?_⟩
          rcases Nat.lt_or_ge j k with h1 | h1
          · exact Hno.out j h1
          · obtain rfl : j = k := by omega
            rw [Hy.out]; exact fun e => He.out (Option.some.inj e)
        case measure => simp [intOf]; omega
    · obtain rfl : k = n := by omega
      have hno : x ∉ xs := fun hm => by
        obtain ⟨j, hj⟩ := List.getElem?_of_mem hm
        have hjl := (List.getElem?_eq_some_iff.1 hj).1
        rw [Hl.out] at hjl
        exact Hno.out j hjl hj
      go_wp2
      go_ret
      exact ⟨ret_eq (bool_eq (by first | rfl | exact (decide_eq_false hno).symm)), rfl⟩
def FewDraw (w : World) (e : Ending) (w' : World) : Prop := ∃ (A : Option Addr) (m c : Nat) (rs : List RowG) (n : Int) (A2 : Option Addr) (n2 c2 : Nat) (zs : List ChG) (tol bud : Int), e = .returned (.tuple #[.slice A m c, .int .i64 n, .slice A2 n2 c2, .int .i64 tol, .int .i64 bud]) ∧ m ≤ 1000 ∧ n2 ≤ 100 ∧ (-1 ≤ n ∧ n ≤ 25) ∧ RS w' A m rs ∧ ChS w' A2 n2 zs ∧ Below w.heap.size w w'
set_option maxRecDepth 100000 in
set_option maxHeartbeats 4000000 in
theorem drawFew_c (A : Option Addr) (n c : Nat) (bs : List Int) (w : World) (hx : Sl w w.heap.size 1 A n (bs.flatMap u8C)) (hb : ∀ x ∈ bs, 0 ≤ x ∧ x ≤ 255) (hn : n ≤ maxLen) :
    Calls Tryz.prog 5 #[.slice A n c] w (FewDraw w) := by
  have Hb := Lib.hid hb; clear hb
  go_enter Tryz.func5, Tryz.ntmps5
  go_wp2_with fail
  refine (from_c A n c bs _ hx Hb.out hn).mono ?_
  rintro e w1 ⟨b, rfl, hs1, hb1⟩
  have hbb := hs1.lt
  go_wp2_with fail
  refine (l18Pairs_d w.heap.size b 0 _ hs1 (by omega)).mono ?_
  rintro e w2 ⟨A1, c1, m, gs, xs, n1, rfl, hm, hm1, hN, hn1, hs2, hg2⟩
  have H2 := hb1.grown hg2 hb1.size fun k hk => by injection hk with hk; omega
  have HN := Lib.hid hN; clear hN
  have Hm := Lib.hid hm; clear hm
  clear hg2
  go_wp2_with fail
  refine (l18Choices_d w.heap.size b 1000 _ hs2 (by omega)).mono ?_
  rintro e w3 ⟨A2, c2, n2, zs, rfl, hn2, hD⟩
  have H3 := H2.grown hD.gr H2.size fun k hk => by injection hk with hk; omega
  have HN3 := Lib.hid (HN.out.src hs2 hD.gr)
  have HD := Lib.hid hD; clear hD
  go_wp2_with fail
  refine (l18Tol_c w.heap.size b 2000 _ HD.out.sr (by omega)).mono ?_
  rintro e w4 ⟨tol, rfl, _, hs4, hg4⟩
  have H4 := H3.grown hg4 H3.size fun k hk => by injection hk with hk; omega
  have HN4 := Lib.hid (HN3.out.src HD.out.sr hg4)
  have HD4 := Lib.hid (HD.out.src hs4 hg4)
  clear hg4 hs4
  go_wp2_with fail
  refine (l18Budget_c w.heap.size b 2004 _ HD4.out.sr (by omega)).mono ?_
  rintro e w5 ⟨bud, rfl, _, hs5, hg5⟩
  have H5 := H4.grown hg5 H4.size fun k hk => by injection hk with hk; omega
  have hN5 := HN4.out.src HD4.out.sr hg5
  have hD5 := HD4.out.src hs5 hg5
  have hR : RS w5 A1 m (nnR gs xs) := by
    have h1 := Hm.out
    subst h1
    exact hN5.sn.rs
  have hC : ChS w5 A2 n2 zs := by
    refine ⟨Sl.of_own hD5.own, fun z hz => ?_⟩
    have hsm := hD5.sm z hz
    exact ⟨Sl.of_own (hD5.grp z hz), by have := hsm.g; show z.x.gs.length ≤ 1048576; omega, by have := hsm.l; omega, by have := hsm.c; omega⟩
  have HR := Lib.hid hR; clear hR
  have HC := Lib.hid hC; clear hC
  clear hN5 hD5 hs5 hg5
  go_wp2_with fail
  exact bodyPost_ret (v := .tuple #[.slice A1 m c1, .int .i64 n1, .slice A2 n2 c2, .int .i64 tol, .int .i64 bud]) (by simp [results, Tryz.results5, go_sem]) rfl ⟨A1, m, c1, _, n1, A2, n2, c2, zs, tol, bud, rfl, hm1, hn2, hn1, HR.out, HC.out, H5⟩
theorem codeK_is {pss : List (List Int)} {m : Int} {xs : List Ch} {tol b : Int} : codeK pss m xs tol b = 0 ∨ codeK pss m xs tol b = 1 ∨ codeK pss m xs tol b = 2 ∨ codeK pss m xs tol b = 5 := by
  rw [codeK]
  cases pairsB pss m && xs.all validB
  · exact .inr (.inl rfl)
  cases inB tol 0 20 && inB b 1 20000
  · exact .inr (.inr (.inl rfl))
  cases decide (xs.length ≤ 12)
  · exact .inr (.inr (.inr rfl))
  · exact .inl rfl
theorem used_next {P : List Int} {k : Nat} {x : Int} (h : P[k]? = some x) : usedL (P.take (k + 1)) = usedF (usedL (P.take k)) x := by
  rw [List.take_add_one, h]
  exact used_snoc _ _
set_option maxRecDepth 100000 in
set_option maxHeartbeats 8000000 in
theorem lawAssignment_c (A : Option Addr) (n c : Nat) (bs : List Int) (w : World) (hx : Sl w w.heap.size 1 A n (bs.flatMap u8C)) (hb : ∀ x ∈ bs, 0 ≤ x ∧ x ≤ 255) :
    Calls Tryz.prog 3 #[.slice A n c] w fun e w' => e = .returned (.bool true) ∧ Below w.heap.size w w' := by
  obtain ⟨p0, hp, hy0, hy1, hy2⟩ := info_parts intInfo
  have hL1 := b10Long_c A n c w
  by_cases hn : 1048576 < n
  · rw [decide_eq_true hn] at hL1
    have HL1 := Lib.hid hL1; clear hL1
    clear hx hb hn
    go_enter Tryz.func3, Tryz.ntmps3
    go_wp2_with fail
    refine HL1.out.mono ?_
    rintro e w1 ⟨rfl, rfl⟩
    go_wp2_with fail
    go_ret
    exact ⟨rfl, Below.refl _ _⟩
  rw [decide_eq_false hn] at hL1
  have hD := drawFew_c A n c bs w hx hb (by unfold maxLen; omega)
  have HL1 := Lib.hid hL1; clear hL1
  have HD := Lib.hid hD; clear hD
  clear hx hb hn
  go_enter Tryz.func3, Tryz.ntmps3
  go_wp2_with fail
  refine HL1.out.mono ?_
  rintro e w1 ⟨rfl, rfl⟩
  go_wp2_with fail
  refine HD.out.mono ?_
  rintro e w1 ⟨A0, m, c0, rs, nn, A2, n2, c2, zs, tol, bud, rfl, hm, hn2, hnn, hR, hC, hb1⟩
  have hF := firstChoice_c A0 m c0 rs nn A2 n2 c2 zs tol bud w1 hR (by omega) hC (by omega)
  have hW := fun w2 (hbb : Below w1.heap.size w1 w2) => fewestChoices_c A0 m c0 rs nn A2 n2 c2 zs tol bud w2 (hR.next hbb) (by omega) (hC.next hbb) (by omega)
  have hI := fun (Q : List Int) (A3 : Option Addr) (c3 : Nat) w2 (hbb : Below w1.heap.size w1 w2) (hl : Q.length ≤ 24) (hs : Sl w2 w2.heap.size 1 A3 Q.length (Q.flatMap intC)) => implDis_c A0 m c0 rs A3 Q.length c3 Q A2 n2 c2 zs tol w2 (hR.next hbb) (by omega) hs (by omega) (hC.next hbb) (by omega)
  obtain ⟨pss, hpss⟩ : ∃ pss, rs.map RowG.xs = pss := ⟨_, rfl⟩
  obtain ⟨xs, hxs⟩ : ∃ xs, zs.map ChG.x = xs := ⟨_, rfl⟩
  rw [hpss, hxs] at hF
  rw [hpss, hxs] at hW hI
  have HF := Lib.hid hF; clear hF
  have HW := Lib.hid hW; clear hW
  have HI := Lib.hid hI; clear hI
  clear hR hC hpss hxs HL1 HD
  go_wp2_with fail
  refine HF.out.mono ?_
  rintro e w2 ⟨r1, Q1, A3, c3, rfl, ho1, hb2, hf⟩
  have hbA := hb2
  obtain ⟨L1, hL1⟩ : ∃ L, Q1.length = L := ⟨_, rfl⟩
  rw [hL1] at ho1 ⊢
  have Hf := Lib.hid hf; clear hf
  have Ho1 := Lib.hid ho1; clear ho1
  have HL1 := Lib.hid hL1; clear hL1
  clear HF
  go_wp2_with fail
  refine (HW.out _ hbA).mono ?_
  rintro e w3 ⟨r2, k2, Q2, A4, c4, rfl, ho2, hb3, hw⟩
  have hbB := hbA.trans (hb3.mono hbA.size)
  have H3 := hb1.trans (hbB.mono hb1.size)
  obtain ⟨L2, hL2⟩ : ∃ L, Q2.length = L := ⟨_, rfl⟩
  rw [hL2] at ho2 ⊢
  have s1 := Sl.of_own (own_next Ho1.out hb3)
  have s2 := Sl.of_own ho2
  have hf := Hf.out
  have HL2 := Lib.hid hL2; clear hL2
  clear HW Hf Ho1 ho2 hbA hb2 hb3 hb1
  rcases hf with ⟨hk, rfl, rfl⟩ | ⟨hk, hf⟩
  · rcases hw with ⟨_, rfl, rfl⟩ | ⟨hk2, _⟩
    · have hl1 : L1 = 0 := HL1.out.symm
      have hl2 : L2 = 0 := HL2.out.symm
      have h3 := codeK_is (pss := pss) (m := nn) (xs := xs) (tol := tol) (b := bud)
      subst hl1 hl2
      generalize codeK pss nn xs tol bud = K at *
      clear s1 s2
      rcases h3 with h3 | h3 | h3 | h3
      · exact absurd h3 hk
      · subst h3
        go_wp2_with fail
        go_ret
        exact ⟨rfl, H3⟩
      · subst h3
        go_wp2_with fail
        go_ret
        exact ⟨rfl, H3⟩
      · subst h3
        go_wp2_with fail
        go_ret
        exact ⟨rfl, H3⟩
    · exact absurd hk2 hk
  · rcases hw with ⟨hk2, _⟩ | ⟨_, hw⟩
    · exact absurd hk hk2
    obtain ⟨hpb, hv, ht, hbud, hl⟩ := codeK_0 hk
    obtain ⟨hn0, hn24⟩ := pairs_n hpb
    obtain ⟨N, rfl⟩ := Int.eq_ofNat_of_zero_le hn0
    rw [Int.toNat_natCast] at hf hw
    have hdis : ∀ {most Q}, Dis pss N xs tol most Q → disB pss Q xs tol = true ∧ Q.length = N := fun h => ⟨dis_distinct h hpb hv ht hl, h.len⟩
    have hI2 : ∀ {most Q}, Dis pss N xs tol most Q → ∀ (A3 : Option Addr) (c3 : Nat) w2, Below w1.heap.size w1 w2 → Sl w2 w2.heap.size 1 A3 N (Q.flatMap intC) → Calls Tryz.prog 8 #[.slice A0 m c0, .slice A3 N c3, .slice A2 n2 c2, .int .i64 tol] w2 fun e w' => e = .returned (.bool true) ∧ Below w2.heap.size w2 w' := fun {most Q} h A3 c3 w2 hbb hs => by
      obtain ⟨e1, e2⟩ := hdis h
      have := HI.out Q A3 c3 w2 hbb (by omega) (by rw [e2]; exact hs)
      rw [e1, e2] at this
      exact this
    clear hk hpb hv ht hbud hn0
    rcases hf with ⟨rfl, hD1⟩ | ⟨rfl, hno1⟩ | rfl
    · have e1 : L1 = N := HL1.out.symm.trans (hdis hD1).2
      subst e1
      rcases hw with ⟨rfl, hk2, mo, hmo, hD2, hmin⟩ | ⟨rfl, hno2⟩ | rfl
      · have e2 : L2 = L1 := HL2.out.symm.trans (hdis hD2).2
        subst e2
        have hi1 := hI2 hD1
        have hi2 := hI2 hD2
        obtain ⟨u1, hu1⟩ : ∃ u, (usedL Q1).length = u := ⟨_, rfl⟩
        obtain ⟨u2, hu2⟩ : ∃ u, (usedL Q2).length = u := ⟨_, rfl⟩
        have hle : u2 ≤ u1 := by
          have h1 := hD2.few
          rw [hu2] at h1
          rcases Nat.lt_or_ge u1 mo with h2 | h2
          · exact absurd (Good.wide hD1 (by rw [hu1]; exact Nat.le_refl _)) (hmin u1 h2 Q1)
          · omega
        rw [hu2] at hk2
        subst hk2
        have hle1 : (u2 : Int) ≤ (u1 : Int) := by omega
        have Hi1 := Lib.hid hi1; clear hi1
        have Hi2 := Lib.hid hi2; clear hi2
        have Hu1 := Lib.hid hu1; clear hu1
        have Hu2 := Lib.hid hu2; clear hu2
        clear hD1 hD2 hmin hI2 hdis hmo
        go_wp2_with fail
        refine (Hi1.out A3 c3 _ hbB s1).mono ?_
        rintro e w4 ⟨rfl, hb4⟩
        go_wp2_with fail
        refine (Hi2.out A4 c4 _ (hbB.trans (hb4.mono hbB.size)) (s2.next hb4)).mono ?_
        rintro e w5 ⟨rfl, hb5⟩
        have H5 := (H3.trans (hb4.mono H3.size)).trans (hb5.mono (Nat.le_trans H3.size hb4.size))
        have t1 := (s1.next hb4).next hb5
        have t2 := (s2.next hb4).next hb5
        clear s1 s2 hb4 hb5 H3 hbB Hi1 Hi2
        have hov13 := World.ownsRow_made (base := (w5).heap.size) (e := 2) (size := 1) w5 #[] 0 (Nat.le_refl _) (by simp [maxLen]) rfl
        go_wp2_with fail
        go_loopw [13, 14] (fun o i wr => ∃ (k u : Nat) (A : Option Addr) (c : Nat), k ≤ L2 ∧ u ≤ k ∧ i = .int .i64 k ∧ o = .slice A u c ∧ Hid ((usedL ((Q1).take k)).length = u) ∧ Hid (wr.ownsRow (w5).heap.size 2 1 (.slice A u c) u ((usedL ((Q1).take k)).flatMap intC)) ∧ Below (w5).heap.size w5 wr) (fun _ i _ => L2 - (intOf i).toNat)
        case atStart => exact ⟨0, 0, _, _, Nat.zero_le _, Nat.le_refl _, rfl, rfl, Lib.hid rfl, Lib.hid hov13, (Below.refl _ _).alloc (Nat.le_refl _) _⟩
        case round =>
          clear hov13
          obtain ⟨k, u, A, c, hk, huk, rfl, rfl, Hu, Ho, hbx⟩ := hrel
          have k0 : (0 : Int) ≤ (k : Int) := by omega
          by_cases hlt : k < L2
          · have k1 : (k : Int) < (L2 : Int) := by omega
            obtain ⟨bq, oq, x, rfl, hbq, hx, d1⟩ := ((t1).next hbx).int k hlt
            have hun := used_next hx
            have hHas : Calls Tryz.prog 9 #[.slice A u c, .int .i64 x] wr fun e w' => e = .returned (.bool (decide (x ∈ usedL ((Q1).take k)))) ∧ wr = w' := b10Has_c A u c _ x wr (Sl.of_own Ho.out) (by omega)
            obtain ⟨has, hhas⟩ : ∃ has, decide (x ∈ usedL ((Q1).take k)) = has := ⟨_, rfl⟩
            rw [hhas] at hHas
            have HHas := Lib.hid hHas; clear hHas
            have Hx := Lib.hid hx; clear hx
            have Hun := Lib.hid hun; clear hun
            cases has
            · have hnm := of_decide_eq_false hhas
              have hun2 : usedL ((Q1).take (k + 1)) = usedL ((Q1).take k) ++ [x] := by rw [Hun.out, usedF, if_neg hnm]
              have e63 : u + 1 ≤ maxLen := by unfold maxLen; omega
              have e32 : (u + 1) * 8 ≤ 140737488355328 := by omega
              have E63 := Lib.hid e63; clear e63
              have E32 := Lib.hid e32; clear e32
              have Hun2 := Lib.hid hun2; clear hun2
              have Hnm := Lib.hid hnm; clear hnm
              clear hhas
              go_wp2_with fail
              refine HHas.out.mono ?_
              rintro e w9 ⟨rfl, rfl⟩
              go_wp2_with (at_builtin; refine wpl_append _ rfl (.tmp 131) (.tmp 136) _ rfl (w5).heap.size 2 p0 _ 1 8 Tryz.underlying28 hp hy0 hy1 hy2 rfl (by omega) _ u _ rfl (Ho.out.alloc _) (wr.heap.size + 1) (some ⟨wr.heap.size, 0, none⟩) 1 1 (intC x) rfl (Sl.new wr 2 _ 1 1 rfl) (intC_one _) E63.out E32.out (le_alloc hbx.size _) ?_; intro v7 w7 ho7 hg7 hat7)
              obtain ⟨A7, c7, rfl⟩ := own_slice ho7
              have hb7 : Below (w5).heap.size w5 w7 := (hbx.alloc hbx.size _).grown hg7 (le_alloc hbx.size _) fun g hg => (Ho.out.lt g hg).1
              go_roundw
              case rel => exact ⟨k + 1, u + 1, A7, c7, by omega, by omega, by go_num, rfl, Lib.hid (by rw [Hun2.out, List.length_append, Hu.out]; rfl), Lib.hid (by rw [Hun2.out, List.flatMap_append]; simpa using ho7), hb7⟩
              case measure => simp [intOf]; omega
            · have hun2 : usedL ((Q1).take (k + 1)) = usedL ((Q1).take k) := by rw [Hun.out, usedF, if_pos (of_decide_eq_true hhas)]
              have Hun2 := Lib.hid hun2; clear hun2
              clear hhas
              go_wp2_with fail
              refine HHas.out.mono ?_
              rintro e w9 ⟨rfl, rfl⟩
              go_wp2_with fail
              go_roundw
              case rel => exact ⟨k + 1, u, A, c, by omega, by omega, by go_num, rfl, Lib.hid (by rw [Hun2.out]; exact Hu.out), Lib.hid (by rw [Hun2.out]; exact Ho.out), hbx⟩
              case measure => simp [intOf]; omega
          · have hkL : L2 = k := by omega
            subst hkL
            have hfin : u1 = u := by
              have h1 := Hu.out
              rw [List.take_of_length_le (by rw [(HL1).out]; exact Nat.le_refl _), (Hu1).out] at h1
              exact h1
            subst hfin
            obtain ⟨wA, hwA⟩ : ∃ x, x = wr := ⟨_, rfl⟩
            subst hwA
            have H13 := H5.trans (hbx.mono H5.size)
            clear hlt k0 hk huk Hu
            have t3 := t2.next hbx
            clear hbx t1 t2 Ho
            have H5 := H13
            have hov15 := World.ownsRow_made (base := (wA).heap.size) (e := 2) (size := 1) wA #[] 0 (Nat.le_refl _) (by simp [maxLen]) rfl
            go_wp2_with fail
            go_loopw [15, 16] (fun o i wr => ∃ (k u : Nat) (A : Option Addr) (c : Nat), k ≤ L2 ∧ u ≤ k ∧ i = .int .i64 k ∧ o = .slice A u c ∧ Hid ((usedL ((Q2).take k)).length = u) ∧ Hid (wr.ownsRow (wA).heap.size 2 1 (.slice A u c) u ((usedL ((Q2).take k)).flatMap intC)) ∧ Below (wA).heap.size wA wr) (fun _ i _ => L2 - (intOf i).toNat)
            case atStart => exact ⟨0, 0, _, _, Nat.zero_le _, Nat.le_refl _, rfl, rfl, Lib.hid rfl, Lib.hid hov15, (Below.refl _ _).alloc (Nat.le_refl _) _⟩
            case round =>
              clear hov15
              obtain ⟨k, u, A, c, hk, huk, rfl, rfl, Hu, Ho, hbx⟩ := hrel
              have k0 : (0 : Int) ≤ (k : Int) := by omega
              by_cases hlt : k < L2
              · have k1 : (k : Int) < (L2 : Int) := by omega
                obtain ⟨bq, oq, x, rfl, hbq, hx, d1⟩ := ((t3).next hbx).int k hlt
                have hun := used_next hx
                have hHas : Calls Tryz.prog 9 #[.slice A u c, .int .i64 x] wr fun e w' => e = .returned (.bool (decide (x ∈ usedL ((Q2).take k)))) ∧ wr = w' := b10Has_c A u c _ x wr (Sl.of_own Ho.out) (by omega)
                obtain ⟨has, hhas⟩ : ∃ has, decide (x ∈ usedL ((Q2).take k)) = has := ⟨_, rfl⟩
                rw [hhas] at hHas
                have HHas := Lib.hid hHas; clear hHas
                have Hx := Lib.hid hx; clear hx
                have Hun := Lib.hid hun; clear hun
                cases has
                · have hnm := of_decide_eq_false hhas
                  have hun2 : usedL ((Q2).take (k + 1)) = usedL ((Q2).take k) ++ [x] := by rw [Hun.out, usedF, if_neg hnm]
                  have e63 : u + 1 ≤ maxLen := by unfold maxLen; omega
                  have e32 : (u + 1) * 8 ≤ 140737488355328 := by omega
                  have E63 := Lib.hid e63; clear e63
                  have E32 := Lib.hid e32; clear e32
                  have Hun2 := Lib.hid hun2; clear hun2
                  have Hnm := Lib.hid hnm; clear hnm
                  clear hhas
                  go_wp2_with fail
                  refine HHas.out.mono ?_
                  rintro e w9 ⟨rfl, rfl⟩
                  go_wp2_with (at_builtin; refine wpl_append _ rfl (.tmp 152) (.tmp 157) _ rfl (wA).heap.size 2 p0 _ 1 8 Tryz.underlying28 hp hy0 hy1 hy2 rfl (by omega) _ u _ rfl (Ho.out.alloc _) (wr.heap.size + 1) (some ⟨wr.heap.size, 0, none⟩) 1 1 (intC x) rfl (Sl.new wr 2 _ 1 1 rfl) (intC_one _) E63.out E32.out (le_alloc hbx.size _) ?_; intro v7 w7 ho7 hg7 hat7)
                  obtain ⟨A7, c7, rfl⟩ := own_slice ho7
                  have hb7 : Below (wA).heap.size wA w7 := (hbx.alloc hbx.size _).grown hg7 (le_alloc hbx.size _) fun g hg => (Ho.out.lt g hg).1
                  go_roundw
                  case rel => exact ⟨k + 1, u + 1, A7, c7, by omega, by omega, by go_num, rfl, Lib.hid (by rw [Hun2.out, List.length_append, Hu.out]; rfl), Lib.hid (by rw [Hun2.out, List.flatMap_append]; simpa using ho7), hb7⟩
                  case measure => simp [intOf]; omega
                · have hun2 : usedL ((Q2).take (k + 1)) = usedL ((Q2).take k) := by rw [Hun.out, usedF, if_pos (of_decide_eq_true hhas)]
                  have Hun2 := Lib.hid hun2; clear hun2
                  clear hhas
                  go_wp2_with fail
                  refine HHas.out.mono ?_
                  rintro e w9 ⟨rfl, rfl⟩
                  go_wp2_with fail
                  go_roundw
                  case rel => exact ⟨k + 1, u, A, c, by omega, by omega, by go_num, rfl, Lib.hid (by rw [Hun2.out]; exact Hu.out), Lib.hid (by rw [Hun2.out]; exact Ho.out), hbx⟩
                  case measure => simp [intOf]; omega
              · have hkL : L2 = k := by omega
                subst hkL
                have hfin : u2 = u := by
                  have h1 := Hu.out
                  rw [List.take_of_length_le (by rw [(HL2).out]; exact Nat.le_refl _), (Hu2).out] at h1
                  exact h1
                subst hfin
                obtain ⟨wA, hwA⟩ : ∃ x, x = wr := ⟨_, rfl⟩
                subst hwA
                have H15 := H5.trans (hbx.mono H5.size)
                clear hlt k0 hk huk Hu
                go_wp2_with fail
                go_ret
                exact ⟨rfl, H15⟩
      · exfalso
        exact hno2 _ (dis_used hD1) Q1 (Good.wide hD1 (Nat.le_refl _))
      · have hi1 := hI2 hD1
        have Hi1 := Lib.hid hi1; clear hi1
        clear hD1 hI2 hdis
        go_wp2_with fail
        refine (Hi1.out A3 c3 _ hbB s1).mono ?_
        rintro e w4 ⟨rfl, hb4⟩
        have H4 := H3.trans (hb4.mono H3.size)
        go_wp2_with fail
        go_ret
        exact ⟨rfl, H4⟩
    · rcases hw with ⟨rfl, hk2, mo, hmo, hD2, hmin⟩ | ⟨rfl, hno2⟩ | rfl
      · exfalso
        exact hno1 Q2 (Good.wide hD2 (by have := dis_used hD2; omega))
      · clear hno1 hno2 hI2 hdis
        go_wp2_with fail
        go_ret
        exact ⟨rfl, H3⟩
      · clear hno1 hI2 hdis
        go_wp2_with fail
        go_ret
        exact ⟨rfl, H3⟩
    · rcases hw with ⟨rfl, hk2, mo, hmo, hD2, hmin⟩ | ⟨rfl, hno2⟩ | rfl
      · have e2 : L2 = N := HL2.out.symm.trans (hdis hD2).2
        subst e2
        have hi2 := hI2 hD2
        have Hi2 := Lib.hid hi2; clear hi2
        clear hD2 hmin hI2 hdis
        go_wp2_with fail
        refine (Hi2.out A4 c4 _ hbB s2).mono ?_
        rintro e w4 ⟨rfl, hb4⟩
        have H4 := H3.trans (hb4.mono H3.size)
        go_wp2_with fail
        go_ret
        exact ⟨rfl, H4⟩
      · clear hno2 hI2 hdis
        go_wp2_with fail
        go_ret
        exact ⟨rfl, H3⟩
      · clear hI2 hdis
        go_wp2_with fail
        go_ret
        exact ⟨rfl, H3⟩
end Go.Proofs.YtgibbhipjpbdfaaGreat

/- FnAssignment returns true for every input, and leaves its argument as it was. No condition. -/
namespace Go.Proofs.YtgibbhipjpbdfaaGreat.prAssignment
open Go.ChangeShapes Go.WideShapes Go.ChangeAt Go.RowKit
theorem own : ownKnob Tryz.prog.godebug = none := by kernel_rfl
theorem laidOut : laidOutB Tryz.prog = true := by kernel_rfl
set_option maxRecDepth 100000 in
theorem lifted (os : Os) (started : os.Started) (H : Type) (enc : TypeId × Value → H) :
    ReturnsInHanded {} Tryz.checked os 3 .any (Rows.fnAssignmentSpec.pre6 enc Tryz.prog Tryz.f3 Rows.fnAssignmentRow.domain false) (Rows.fnAssignmentSpec.post enc Tryz.prog Tryz.f3 false true false false) := by
  refine returnsInHanded_of_change (C := Tryz.checked) own started (by kernel_rfl) Tryz.func3
    (ChangeSpec.witness6 (enc := enc) (C := Tryz.checked) false ⟨#[], #[.slice none 0 0], []⟩ 8 (by kernel_rfl) (by kernel_rfl) (by kernel_rfl) (by kernel_rfl)) ?_
  intro W base args ds gs before hval0 hW hcnd _
  have hval : ∀ (j : Nat) t v, Tryz.f3.params[j]? = some t → args[j]? = some v → Value.okWide Tryz.prog W .any base t v := hval0
  have hW' := hW
  obtain ⟨p, q, hA0, hV, rfl, hfz, hnd⟩ := hW
  have hA : DataW.TrodAll enc Tryz.prog W 0 (fun _ => true) true Tryz.f3.params.toList args.toList ds p := hA0
  rw [Tryz.params3] at hA hval
  obtain ⟨v0, vs0, d0, ds0, p0, q0, hargs, rfl, rfl, h0, r0⟩ := trodAll_cons hA
  obtain ⟨rfl, rfl, rfl⟩ := trodAll_nil r0
  obtain rfl : args = #[v0] := by cases args; simp_all
  obtain ⟨rfl, rfl⟩ := trodVars_none hV
  obtain ⟨a0, n0, c0, rfl⟩ := okWide_slice Tryz.underlying22 (hval 0 22 v0 rfl rfl)
  have k0 := h0
  have lt0 : ∀ x ∈ p0, x.block < W.heap.size := by obtain ⟨m, hm⟩ := k0; exact DataW.trod_lt m _ _ _ hm
  obtain ⟨_, bs, s0, ok0⟩ : n0 ≤ maxLen ∧ ∃ bs : List Int, Sl W W.heap.size 1 a0 n0 (bs.flatMap u8C) ∧ ∀ x ∈ bs, 0 ≤ x ∧ x ≤ 255 := by
    obtain ⟨fuel, hf⟩ := h0
    exact open_Sl u8C 1 u8C_len (by omega) (fun x => 0 ≤ x ∧ x ≤ 255) Tryz.underlying22 (by kernel_rfl) byte_trod (by simpa [Value.cells] using hf)
  refine (lawAssignment_c a0 n0 c0 bs W s0 ok0).mono fun e W' ⟨he, bel⟩ => ?_
  subst he
  exact ⟨_, rfl, _, _, _, [], _, [], hW', trodAll_mk1 (shut_bool Tryz.underlying4 _), (trodAll_cons_mk (Below.trod laidOut (by kernel_rfl) (of_decide_eq_true (by kernel_rfl)) k0 bel lt0) trodAll_mk0), rfl, bel.frame _, fun h => by cases h⟩
theorem holds : Rows.FnAssignmentSaid :=
  OpenClaim.holds_of_wide 3 Tryz.f3 rfl rfl rfl rfl rfl rfl rfl ⟨rfl, rfl, rfl, rfl, rfl⟩ rfl rfl rfl rfl rfl (by kernel_rfl) Tryz.func3 (by kernel_rfl)
    (of_decide_eq_true (by kernel_rfl)) (by unfold Func.isWrapper; first | (rw [if_pos (by decide +kernel)]; kernel_rfl) | (rw [if_neg (by decide +kernel)]; exact ⟨rfl, rfl⟩))
    (fun os started H enc _ => lifted os started H enc)
#print axioms holds
end Go.Proofs.YtgibbhipjpbdfaaGreat.prAssignment
