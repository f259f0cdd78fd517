/- RcRG: several of my texts in one. -/
import Derived.Test.YtgibbhipjpbdfaaApp
import Derived.Test.YtgibbhipjpbdfaaDdRR
import Derived.Test.YtgibbhipjpbdfaaRcSG
import Derived.Test.YtgibbhipjpbdfaaChImpl1
import Derived.Test.YtgibbhipjpbdfaaChars
import Derived.Test.YtgibbhipjpbdfaaChImpl3
import Derived.Test.YtgibbhipjpbdfaaRcIG

/- A row of integers cloned. -/
namespace Go.Proofs.Ytgibbhipjpbdfaa
open Go.RowKit
set_option maxHeartbeats 1000000 in
theorem cloneInt_c (A : Option Addr) (n c : Nat) (xs : List Int) (w : World) (h : Sl w w.heap.size 1 A n (xs.flatMap intC)) (hm : n ≤ 1048576) :
    Calls Try.prog 93 #[.slice A n c] w fun e w' => ∃ A' c', e = .returned (.slice A' n c') ∧ w'.ownsRow w.heap.size 2 1 (.slice A' n c') n (xs.flatMap intC) ∧ Below w.heap.size w w' := by
  obtain ⟨i0, hi, hz0, hz1, hz2⟩ := info_parts intInfo
  have hB : i0.bytes * n ≤ 281474976710656 := by rw [hz2]; omega
  have hM : n ≤ maxLen := by unfold maxLen; omega
  have e63 : 0 + n ≤ maxLen := by unfold maxLen; omega
  have e32 : (0 + n) * 8 ≤ 140737488355328 := by omega
  have HB := Lib.hid hB; clear hB
  have HM := Lib.hid hM; clear hM
  have E63 := Lib.hid e63; clear e63
  have E32 := Lib.hid e32; clear e32
  have H := Lib.hid h; clear h
  go_enter Try.func93, Try.ntmps93
  go_wp2_with (first
    | (at_make; refine wpList_make_own _ rfl _ _ _ rfl w.heap.size 2 i0 _ 1 Try.underlying24 hi hz0 hz1 _ _ _ n rfl rfl rfl HB.out HM.out (Nat.le_refl _) ?_; intro w1 hown hgr; have hb0 : Below w.heap.size w w1 := (Below.refl _ _).grown hgr (Nat.le_refl _) (by simp))
    | (at_builtin; refine wpl_append _ rfl (.tmp 5) (.tmp 6) _ rfl w.heap.size 2 i0 _ 1 8 Try.underlying24 hi hz0 hz1 hz2 rfl (by omega) _ 0 _ rfl hown _ A n c (xs.flatMap intC) rfl (H.out.next hb0) (flat_one _ intC_one xs) E63.out E32.out hb0.size ?_; intro v2 w2 ho2 hg2 hat2))
  go_ret
  rw [Nat.zero_add] at ho2
  obtain ⟨A', c', rfl⟩ := own_slice ho2
  exact ⟨A', c', rfl, by simpa using ho2, hb0.grown hg2 hb0.size fun g hg => (hown.lt g hg).1⟩
end Go.Proofs.Ytgibbhipjpbdfaa

/- Recognition: the program: the groups of flashes with a number of elements. -/
namespace Go.Proofs.Ytgibbhipjpbdfaa
open Go.RowKit
theorem ext1_len (g : List Int) : (ext1 g).length ≤ 9 := by
  rw [ext1, List.length_map, List.length_range]; omega
theorem flat9_len {α β : Type} (F : α → List β) (hF : ∀ a, (F a).length ≤ 9) : ∀ l : List α, (l.flatMap F).length ≤ 9 * l.length
  | [] => by simp
  | a :: l => by
    have h1 := flat9_len F hF l
    have h2 := hF a
    rw [List.flatMap_cons, List.length_append, List.length_cons]
    omega
theorem grp_cnt : ∀ e, (grpI e).length ≤ 9 ^ e
  | 0 => by simp [grpI]
  | e + 1 => by
    have h1 := flat9_len ext1 ext1_len (grpI e)
    have h2 := grp_cnt e
    rw [grpI, Nat.pow_succ]
    omega
theorem grp_el : ∀ e g, g ∈ grpI e → ∀ x ∈ g, 1 ≤ x ∧ x ≤ 9
  | 0, g, hg => by
    rw [grpI, List.mem_singleton] at hg
    subst hg
    intro x hx; cases hx
  | e + 1, g, hg => by
    rw [grpI, List.mem_flatMap] at hg
    obtain ⟨g0, h0, hg⟩ := hg
    rw [ext1, List.mem_map] at hg
    obtain ⟨i, hi, rfl⟩ := hg
    have hi := List.mem_range.1 hi
    intro x hx
    rw [List.mem_append, List.mem_singleton] at hx
    rcases hx with hx | rfl
    · exact grp_el e g0 h0 x hx
    · omega
theorem grp_sum {e : Nat} {g : List Int} (hg : g ∈ grpI e) : g.length = e ∧ 0 ≤ g.sum ∧ g.sum ≤ 12 := by
  rw [grp_gen] at hg
  have := gen_mem e [] g hg
  simp at this
  omega
theorem take_flat {α β : Type} (F : α → List β) {l : List α} {j : Nat} {a : α} (h : l[j]? = some a) : (l.take (j + 1)).flatMap F = (l.take j).flatMap F ++ F a := by
  rw [List.take_add_one, h, Option.toList_some, List.flatMap_append]; simp
set_option maxRecDepth 100000 in
set_option maxHeartbeats 4000000 in
theorem groupsOf_c (E : Nat) (hE : E ≤ 4) (w : World) :
    Calls Try.prog 70 #[.int .i64 E] w fun e w' => ∃ A c rs, e = .returned (.slice A rs.length c) ∧ RowsOwn w' w.heap.size (.slice A rs.length c) rs.length rs ∧ rs.map RowG.xs = grpI E ∧ Below w.heap.size w w' := by
  obtain ⟨p0, hp, hy0, hy1, hy2⟩ := info_parts infoTi3
  obtain ⟨q0, hq, hz0, hz1, hz2⟩ := info_parts drowsInfo
  have hi0 := World.ownsRow_made (base := w.heap.size) (e := 2) (size := 1) w #[] 0 (Nat.le_refl _) (by simp [maxLen]) rfl
  have hb0 : Below w.heap.size w (w.alloc (.cells #[] 2)) := (Below.refl _ _).alloc (Nat.le_refl _) _
  have hb1 : Below w.heap.size w ((w.alloc (.cells #[] 2)).alloc (.cells #[.slice (some ⟨w.heap.size, 0, none⟩) 0 0] 24)) := hb0.alloc hb0.size _
  have ho1 := lit_own (w.alloc (.cells #[] 2)) w.heap.size 24 #[.slice (some ⟨w.heap.size, 0, none⟩) 0 0] 1 1 hb0.size (by decide) rfl
  rw [World.size_alloc] at ho1
  have hR0 : RowsOwn ((w.alloc (.cells #[] 2)).alloc (.cells #[.slice (some ⟨w.heap.size, 0, none⟩) 0 0] 24)) w.heap.size (.slice (some ⟨w.heap.size + 1, 0, none⟩) 1 1) 1 [⟨some ⟨w.heap.size, 0, none⟩, 0, []⟩] := ⟨ho1, fun r hr => by
    rw [List.mem_singleton] at hr
    subst hr
    exact own_next hi0 ((Below.refl _ _).alloc (Nat.le_refl _) _)⟩
  clear hi0 hb0 ho1
  have HE := Lib.hid hE; clear hE
  go_enter Try.func70, Try.ntmps70
  go_wp2_with fail
  go_loopw [3, 11] (fun y i wr => ∃ (k : Nat) (A : Option Addr) (c : Nat) (rs : List RowG), k ≤ E ∧ i = .int .i64 k ∧ y = .slice A rs.length c ∧ RowsOwn wr w.heap.size (.slice A rs.length c) rs.length rs ∧ Hid (rs.map RowG.xs = grpI k) ∧ Below w.heap.size w wr) (fun _ i _ => E - (intOf i).toNat)
  case atStart => exact ⟨0, _, _, [⟨some ⟨w.heap.size, 0, none⟩, 0, []⟩], Nat.zero_le _, rfl, rfl, hR0, Lib.hid rfl, hb1⟩
  case round =>
    clear hR0 hb1
    obtain ⟨k, A, c, rs, hk, rfl, rfl, hR, Hm, hbw⟩ := hrel
    have i0 : (0 : Int) ≤ (k : Int) := by omega
    by_cases hlt : k < E
    · have i1 : (k : Int) < (E : Int) := by omega
      have hrn : rs.length ≤ 6561 := by
        have h1 := grp_cnt k
        rw [← Hm.out, List.length_map] at h1
        have h2 : 9 ^ k ≤ 9 ^ 4 := Nat.pow_le_pow_right (by omega) (by have := HE.out; omega)
        omega
      have hRl : ∀ r ∈ rs, r.xs.length ≤ 1048576 := fun r hr => by
        have h1 : r.xs ∈ grpI k := by rw [← Hm.out]; exact List.mem_map_of_mem hr
        have := (grp_sum h1).1
        have := HE.out
        omega
      have hRS := hR.rs hRl
      have hov := World.ownsRow_made (base := wr.heap.size) (e := 24) (size := 1) wr #[] 0 (Nat.le_refl _) (by simp [maxLen]) rfl
      have hbv : Below wr.heap.size wr (wr.alloc (.cells #[] 24)) := (Below.refl _ _).alloc (Nat.le_refl _) _
      have hR0 : RowsOwn (wr.alloc (.cells #[] 24)) wr.heap.size (.slice (some ⟨wr.heap.size, 0, none⟩) ([] : List RowG).length 0) ([] : List RowG).length [] := ⟨hov, fun r hr => by cases hr⟩
      obtain ⟨wK, hwK⟩ : ∃ x, x = wr := ⟨_, rfl⟩
      subst hwK
      have HRl := Lib.hid hRl; clear hRl
      clear hov
      go_wp2_with fail
      go_loopw [4, 16] (fun y i wr => ∃ (j : Nat) (A' : Option Addr) (c' : Nat) (rs' : List RowG), j ≤ rs.length ∧ i = .int .i64 j ∧ y = .slice A' rs'.length c' ∧ RowsOwn wr wK.heap.size (.slice A' rs'.length c') rs'.length rs' ∧ Hid (rs'.map RowG.xs = ((grpI k).take j).flatMap ext1) ∧ Below wK.heap.size wK wr) (fun _ i _ => rs.length - (intOf i).toNat)
      case atStart => exact ⟨0, _, _, [], Nat.zero_le _, rfl, rfl, hR0, Lib.hid rfl, hbv⟩
      case round =>
        clear hR0 hbv
        obtain ⟨j, A', c', rs', hj, rfl, rfl, hR', Hm', hbk⟩ := hrel
        have j0 : (0 : Int) ≤ (j : Int) := by omega
        by_cases hlj : j < rs.length
        · have j1 : (j : Int) < (rs.length : Int) := by omega
          obtain ⟨bg, og, r, rfl, hbg, hrx, _, mr, cr⟩ := (hRS.next hbk).get j hlj
          have sr := (hRS.ok r (List.mem_of_getElem? hrx)).1
          have hgi : (grpI k)[j]? = some r.xs := by rw [← Hm.out, List.getElem?_map, hrx]; rfl
          have hgm : r.xs ∈ grpI k := List.mem_of_getElem? hgi
          have hge := grp_el k _ hgm
          have hgs := (grp_sum hgm).2
          have htf := take_flat ext1 hgi
          have hpl : rs'.length ≤ 9 * j := by
            have h1 := congrArg List.length Hm'.out
            have h2 := flat9_len ext1 ext1_len ((grpI k).take j)
            rw [List.length_map] at h1
            rw [List.length_take] at h2
            omega
          obtain ⟨N, hN⟩ : ∃ N, rs'.length = N := ⟨_, rfl⟩
          obtain ⟨P, hP⟩ : ∃ P, ((grpI k).take j).flatMap ext1 = P := ⟨_, rfl⟩
          rw [hP] at Hm' htf
          have hPl : P.length ≤ 60000 := by
            have h1 := congrArg List.length Hm'.out
            rw [List.length_map] at h1
            omega
          obtain ⟨S, hS⟩ : ∃ S, r.xs.sum = S := ⟨_, rfl⟩
          have hext : ext1 r.xs = (List.range (min 9 (12 - S).toNat)).map fun i : Nat => r.xs ++ [(i : Int) + 1] := by rw [ext1, hS]
          rw [hS] at hgs
          rw [hext] at htf
          obtain ⟨M, hM⟩ : ∃ M, min 9 (12 - S).toNat = M := ⟨_, rfl⟩
          rw [hM] at htf
          have hSm : ∀ w1, Below wK.heap.size wK w1 → Calls Try.prog 92 #[.slice r.A r.xs.length r.c] w1 fun e w' => e = .returned (.int .i64 S) ∧ w1 = w' := fun w1 hb => hS ▸ sumOf_c r.A r.xs.length r.c r.xs w1 (sr.next hb) mr (fun x hx => by have := hge x hx; omega)
          have hCl : ∀ w1, Below wK.heap.size wK w1 → Calls Try.prog 93 #[.slice r.A r.xs.length r.c] w1 fun e w' => ∃ A' c', e = .returned (.slice A' r.xs.length c') ∧ w'.ownsRow w1.heap.size 2 1 (.slice A' r.xs.length c') r.xs.length (r.xs.flatMap intC) ∧ Below w1.heap.size w1 w' := fun w1 hb => cloneInt_c r.A r.xs.length r.c r.xs w1 (sr.next hb) mr
          have HSm := Lib.hid hSm; clear hSm
          have HCl := Lib.hid hCl; clear hCl
          have Htf := Lib.hid htf; clear htf
          have HPl := Lib.hid hPl; clear hPl
          clear hge hgm hgi hN hP hext hpl
          go_wp2_with fail
          go_loopw [4, 7] (fun y i wr => ∃ (m : Nat) (A' : Option Addr) (c' : Nat) (rs' : List RowG), m ≤ M ∧ i = .int .i64 ((m : Int) + 1) ∧ y = .slice A' rs'.length c' ∧ RowsOwn wr wK.heap.size (.slice A' rs'.length c') rs'.length rs' ∧ Hid (rs'.map RowG.xs = P ++ (List.range m).map fun i : Nat => r.xs ++ [(i : Int) + 1]) ∧ Below wK.heap.size wK wr) (fun _ i _ => 20 - (intOf i).toNat)
          case atStart => exact ⟨0, _, _, rs', Nat.zero_le _, rfl, rfl, hR', Lib.hid (by rw [Hm'.out]; simp), hbk⟩
          case round =>
            clear hR' hbk
            obtain ⟨m, A3, c3, rs3, hm, rfl, rfl, hR3, Hm3, hbj⟩ := hrel
            by_cases hlm : m < M
            · have m1 : (m : Int) + 1 ≤ 9 := by omega
              have m2 : S + ((m : Int) + 1) ≤ 12 := by omega
              have e3 : rs3.length ≤ 70000 := by
                have h1 := congrArg List.length Hm3.out
                rw [List.length_map, List.length_append, List.length_map, List.length_range] at h1
                have := HPl.out
                omega
              obtain ⟨xs, hxs⟩ : ∃ xs, r.xs ++ [(m : Int) + 1] = xs := ⟨_, rfl⟩
              have hxl : xs.length = r.xs.length + 1 := by rw [← hxs]; simp
              have hxc : xs.flatMap intC = r.xs.flatMap intC ++ intC ((m : Int) + 1) := by rw [← hxs, List.flatMap_append]; simp
              have e63 : r.xs.length + 1 ≤ maxLen := by unfold maxLen; omega
              have e32 : (r.xs.length + 1) * 8 ≤ 140737488355328 := by omega
              have f63 : rs3.length + 1 ≤ maxLen := by unfold maxLen; omega
              have f32 : (rs3.length + 1) * 24 ≤ 140737488355328 := by omega
              obtain ⟨MM, hMM⟩ : ∃ MM, (m : Int) + 1 = MM := ⟨_, rfl⟩
              have m0 : 1 ≤ MM := by omega
              rw [hMM] at m1 m2 hxc ⊢
              have Hxl := Lib.hid hxl; clear hxl
              have Hxs := Lib.hid hxs; clear hxs
              have Hxc := Lib.hid hxc; clear hxc
              have E63 := Lib.hid e63; clear e63
              have E32 := Lib.hid e32; clear e32
              have F63 := Lib.hid f63; clear f63
              have F32 := Lib.hid f32; clear f32
              have HMM := Lib.hid hMM; clear hMM
              go_wp2_with fail
              refine (HSm.out _ hbj).mono ?_
              rintro e w1 ⟨rfl, rfl⟩
              go_wp2_with fail
              refine (HCl.out _ hbj).mono ?_
              rintro e w2 ⟨A2, c2, rfl, ho2, hb2⟩
              go_wp2_with (first
                | ((at_builtin; refine wpl_append _ rfl (.tmp 33) (.tmp 35) _ rfl (wr.heap.size) 2 p0 _ 1 8 Try.underlying24 hp hy0 hy1 hy2 rfl (by omega) _ (r.xs.length) _ rfl ((ho2).alloc _) ((w2).heap.size + 1) (some ⟨(w2).heap.size, 0, none⟩) 1 1 (intC (MM)) rfl (Sl.new (w2) 2 _ 1 1 rfl) (intC_one _) E63.out E32.out (le_alloc hb2.size _) ?_; intro v4 w4 ho4 hg4 hat4); rw [← Hxl.out, ← Hxc.out] at ho4; obtain ⟨A4, c4, rfl⟩ := own_slice ho4; have hb4 : Below wr.heap.size wr w4 := (hb2.alloc hb2.size _).grown hg4 (le_alloc hb2.size _) fun g hg => (ho2.lt g hg).1; have hR4 := hR3.next hb4; have hle4 : wK.heap.size ≤ w4.heap.size := Nat.le_trans hbj.size hb4.size; have ho4' := own_base ho4 hbj.size)
                | (at_builtin; refine wpl_append _ rfl (.tmp 31) (.tmp 37) _ rfl wK.heap.size 24 q0 _ 1 24 Try.underlying55 hq hz0 hz1 hz2 rfl (by omega) _ rs3.length _ rfl (hR4.own.alloc _) (w4.heap.size + 1) (some ⟨w4.heap.size, 0, none⟩) 1 1 (RowG.cells ⟨A4, c4, xs⟩) rfl (Sl.new w4 24 _ 1 1 rfl) (row_one _) F63.out F32.out (le_alloc hle4 _) ?_; intro v5 w5 ho5 hg5 hat5))
              obtain ⟨A5, c5, rfl⟩ := own_slice ho5
              have hP := RowsOwn.push (r := ⟨A4, c4, xs⟩) hR4 ho4' hg5 ho5
              have hl1 : (rs3 ++ [(⟨A4, c4, xs⟩ : RowG)]).length = rs3.length + 1 := by simp
              rw [← hl1] at hP
              go_wp2_with fail
              go_roundw
              case rel =>
                refine ⟨m + 1, A5, c5, rs3 ++ [⟨A4, c4, xs⟩], by omega, by have := HMM.out; rw [← HMM.out]; go_num, by rw [hl1], hP, Lib.hid ?_, ?_⟩
                · rw [List.map_append, Hm3.out, List.range_succ, List.map_append, ← List.append_assoc]
                  congr 1
                  rw [List.map_singleton, List.map_singleton, ← Hxs.out]
                · exact ((hbj.trans (hb4.mono hbj.size)).alloc hle4 _).grown hg5 (le_alloc hle4 _) fun g hg => (hR4.own.lt g hg).1
              case measure => have := HMM.out; simp [intOf] <;> omega
            · obtain rfl : m = M := by omega
              have hbk3 := hbj
              have hm9 := Hm3.out
              rw [← Htf.out] at hm9
              have Hm9 := Lib.hid hm9; clear hm9
              by_cases h9 : (m : Int) + 1 ≤ 9
              · have m2 : ¬ S + ((m : Int) + 1) ≤ 12 := by omega
                go_wp2_with fail
                refine (HSm.out _ hbj).mono ?_
                rintro e w1 ⟨rfl, rfl⟩
                go_wp2_with fail
                go_roundw
                case rel => exact ⟨j + 1, A3, c3, rs3, by omega, by go_num, rfl, hR3, Hm9, hbk3⟩
                case measure => simp [intOf] <;> omega
              · go_wp2_with fail
                go_roundw
                case rel => exact ⟨j + 1, A3, c3, rs3, by omega, by go_num, rfl, hR3, Hm9, hbk3⟩
                case measure => simp [intOf] <;> omega
        · obtain rfl : j = rs.length := by omega
          have j1 : ¬ (rs.length : Int) < (rs.length : Int) := by omega
          have hm9 := Hm'.out
          rw [List.take_of_length_le (by rw [← Hm.out, List.length_map]; exact Nat.le_refl _)] at hm9
          have hbw2 := hbw.trans (hbk.mono hbw.size)
          have hR9 : RowsOwn wr w.heap.size (.slice A' rs'.length c') rs'.length rs' := ⟨own_base hR'.own hbw.size, fun r hr => own_base (hR'.inn r hr) hbw.size⟩
          have hk4 : k ≤ 4 := by have := HE.out; omega
          have Hm9 := Lib.hid hm9; clear hm9
          go_wp2_with fail
          go_roundw
          case rel => exact ⟨k + 1, A', c', rs', by omega, by go_num, rfl, hR9, Lib.hid (by rw [Hm9.out, grpI]), hbw2⟩
          case measure => simp [intOf] <;> omega
    · obtain rfl : k = E := by omega
      have i1 : ¬ (k : Int) < (k : Int) := by omega
      go_wp2_with fail
      go_ret
      exact ⟨A, c, rs, rfl, hR, Hm.out, hbw⟩
end Go.Proofs.Ytgibbhipjpbdfaa

/- Recognition: the program: the rhythms of a kind. -/
namespace Go.Proofs.Ytgibbhipjpbdfaa
open Go.RowKit
theorem ChOwn.push {w w' : World} {base n : Nat} {v v' : Value} {zs : List ChG} {z : ChG} (h : ChOwn w base v n zs) (hr : w.ownsRow base 2 1 (.slice z.A z.n z.c) z.n (z.x.gs.flatMap intC))
    (hg : (w.alloc (.cells z.cells.toArray 26)).grownBy w' v.ownBlock) (ho : w'.ownsRow base 26 5 v' (n + 1) (zs.flatMap ChG.cells ++ z.cells)) : ChOwn w' base v' (n + 1) (zs ++ [z]) := by
  have hbA : Below w.heap.size w (w.alloc (.cells z.cells.toArray 26)) := (Below.refl _ _).alloc (Nat.le_refl _) _
  have h2 := h.next hbA
  refine ⟨by rw [List.flatMap_append]; simpa using ho, fun q hq => ?_⟩
  rcases List.mem_append.1 hq with hq | hq
  · have := h2.grp q hq
    exact own_grown this hg (own_ne this h2.own (by decide))
  · obtain rfl := List.mem_singleton.1 hq
    have := own_next hr hbA
    exact own_grown this hg (own_ne this h2.own (by decide))
def rhyG (K : Int) (g : List Int) : List Ch := ([eB, lB].filter fun l => fitsB ⟨K, g, l, eB, 0⟩).map fun l => ⟨K, g, l, eB, 0⟩
def rhyI (K : Int) : List Ch := if K = 8 then (List.range 26).map (fun i => ⟨8, [], ltrB i, eB, 0⟩) else (List.range 5).flatMap fun e => (grpI e).flatMap (rhyG K)
theorem rhyG_len (K : Int) (g : List Int) : (rhyG K g).length ≤ 2 := by
  rw [rhyG, List.length_map]
  exact List.length_filter_le _ _
theorem enc_ltr : ∀ j : Nat, j < 26 → Utf8.encode (65 + (j : Int)) = ltrB j := by decide
set_option maxRecDepth 100000 in
set_option maxHeartbeats 2000000 in
theorem rhythms8_c (w : World) :
    Calls Try.prog 35 #[.int .i64 8] w fun e w' => ∃ A c zs, e = .returned (.slice A zs.length c) ∧ ChOwn w' w.heap.size (.slice A zs.length c) zs.length zs ∧ zs.map ChG.x = rhyI 8 ∧ Below w.heap.size w w' := by
  obtain ⟨q0, hq, hz0, hz1, hz2⟩ := info_parts chInfo
  have hov := World.ownsRow_made (base := w.heap.size) (e := 26) (size := 5) w #[] 0 (Nat.le_refl _) (by simp [maxLen]) rfl
  have hbv : Below w.heap.size w (w.alloc (.cells #[] 26)) := (Below.refl _ _).alloc (Nat.le_refl _) _
  have hC0 : ChOwn (w.alloc (.cells #[] 26)) w.heap.size (.slice (some ⟨w.heap.size, 0, none⟩) ([] : List ChG).length 0) ([] : List ChG).length [] := ⟨hov, fun r hr => by cases hr⟩
  go_enter Try.func35, Try.ntmps35
  go_wp2_with fail
  go_loopw [3, 4] (fun y i wr => ∃ (j : Nat) (A : Option Addr) (c : Nat) (zs : List ChG), j ≤ 26 ∧ i = .int .i32 (65 + (j : Int)) ∧ y = .slice A zs.length c ∧ ChOwn wr w.heap.size (.slice A zs.length c) zs.length zs ∧ Hid (zs.map ChG.x = (List.range j).map fun i => ⟨8, [], ltrB i, eB, 0⟩) ∧ Below w.heap.size w wr) (fun _ i _ => 91 - (intOf i).toNat)
  case atStart => exact ⟨0, _, _, [], by omega, rfl, rfl, hC0, Lib.hid rfl, hbv⟩
  case round =>
    clear hC0 hbv hov
    obtain ⟨j, A, c, zs, hj, rfl, rfl, hC, Hm, hbw⟩ := hrel
    have hzl : zs.length ≤ 26 := by
      have := congrArg List.length Hm.out
      rw [List.length_map, List.length_map, List.length_range] at this
      omega
    by_cases hlt : j < 26
    · have i1 : 65 + (j : Int) ≤ 90 := by omega
      obtain ⟨X, hX⟩ : ∃ X, 65 + (j : Int) = X := ⟨_, rfl⟩
      have hx0 : 65 ≤ X := by omega
      rw [hX] at i1 ⊢
      have e63 : zs.length + 1 ≤ maxLen := by unfold maxLen; omega
      have e32 : (zs.length + 1) * 72 ≤ 140737488355328 := by omega
      have E63 := Lib.hid e63; clear e63
      have E32 := Lib.hid e32; clear e32
      have HX := Lib.hid hX; clear hX
      have hcv := enc_ltr j hlt
      rw [HX.out] at hcv
      obtain ⟨lt, hlt9⟩ : ∃ lt, ltrB j = lt := ⟨_, rfl⟩
      rw [hlt9] at hcv
      have hown : wr.ownsRow w.heap.size 2 1 (.slice none 0 0) 0 [] := World.ownsRow_nil _ _ _ _
      have Hlt9 := Lib.hid hlt9; clear hlt9
      go_wp2_with (at_builtin; refine wpl_append _ rfl (.tmp 18) (.tmp 23) _ rfl (w.heap.size) 26 q0 _ 5 72 Try.underlying64 hq hz0 hz1 hz2 rfl (by omega) _ (zs.length) _ rfl ((hC.own).alloc _) ((wr).heap.size + 1) (some ⟨(wr).heap.size, 0, none⟩) 1 1 (ChG.cells ((⟨⟨8, [], lt, eB, 0⟩, none, 0⟩ : ChG))) rfl (Sl.new wr 26 _ 1 5 rfl) (chg_one _) E63.out E32.out (le_alloc hbw.size _) ?_; intro v7 w7 ho7 hg7 hat7)
      obtain ⟨A7, c7, rfl⟩ := own_slice ho7
      have hP := ChOwn.push (z := (⟨⟨8, [], lt, eB, 0⟩, none, 0⟩ : ChG)) hC hown hg7 ho7
      have hl1 : (zs ++ [(⟨⟨8, [], lt, eB, 0⟩, none, 0⟩ : ChG)]).length = zs.length + 1 := by simp
      rw [← hl1] at hP
      have hb7 : Below w.heap.size w w7 := (hbw.alloc hbw.size _).grown hg7 (le_alloc hbw.size _) fun g hg => (hC.own.lt g hg).1
      go_wp2_with fail
      go_roundw
      case rel =>
        refine ⟨j + 1, A7, c7, zs ++ [⟨⟨8, [], lt, eB, 0⟩, none, 0⟩], by omega, by have := HX.out; rw [← HX.out]; go_num, by rw [hl1], hP, Lib.hid ?_, hb7⟩
        rw [List.map_append, Hm.out, List.range_succ, List.map_append, List.map_singleton, List.map_singleton, Hlt9.out]
      case measure => have := HX.out; simp [intOf] <;> omega
    · obtain rfl : j = 26 := by omega
      have i1 : ¬ 65 + ((26 : Nat) : Int) ≤ 90 := by omega
      go_wp2_with fail
      go_ret
      exact ⟨A, c, zs, rfl, hC, by rw [Hm.out, rhyI, if_pos rfl], hbw⟩
end Go.Proofs.Ytgibbhipjpbdfaa

/- Recognition: the program: the rhythms of a kind that is not Morse's. -/
namespace Go.Proofs.Ytgibbhipjpbdfaa
open Go.RowKit
theorem flat2_len {α β : Type} (F : α → List β) (hF : ∀ a, (F a).length ≤ 2) : ∀ l : List α, (l.flatMap F).length ≤ 2 * l.length
  | [] => by simp
  | a :: l => by
    have h1 := flat2_len F hF l
    have h2 := hF a
    rw [List.flatMap_cons, List.length_append, List.length_cons]
    omega
theorem rhy_cnt (K : Int) : ∀ k, k ≤ 5 → ((List.range k).flatMap fun e => (grpI e).flatMap (rhyG K)).length ≤ 13122 * k
  | 0, _ => by simp
  | k + 1, h => by
    have h1 := rhy_cnt K k (by omega)
    have h2 := flat2_len (rhyG K) (rhyG_len K) (grpI k)
    have h3 := grp_cnt k
    have h4 : 9 ^ k ≤ 9 ^ 4 := Nat.pow_le_pow_right (by omega) (by omega)
    rw [List.range_succ, List.flatMap_append, List.length_append]
    simp only [List.flatMap_cons, List.flatMap_nil, List.append_nil]
    omega
/-- What is tried of the letters, up to the l-th. -/
def rhyL (K : Int) (g : List Int) (l : Nat) : List Ch := (([eB, lB].take l).filter fun l => fitsB ⟨K, g, l, eB, 0⟩).map fun l => ⟨K, g, l, eB, 0⟩
theorem rhyL_next {K : Int} {g : List Int} {l : Nat} {LT : ByteArray} (h : ([eB, lB] : List ByteArray)[l]? = some LT) : rhyL K g (l + 1) = rhyL K g l ++ (if fitsB ⟨K, g, LT, eB, 0⟩ = true then [⟨K, g, LT, eB, 0⟩] else []) := by
  rw [rhyL, List.take_add_one, h, Option.toList_some, List.filter_append, List.map_append, ← rhyL, List.filter_cons]
  split
  · rfl
  · rfl
theorem rhyL_two (K : Int) (g : List Int) : rhyL K g 2 = rhyG K g := rfl
theorem run_index2 (j : Nat) (s : ByteArray) (k : IntKind) (w : World) (cs : Array Value) (hj : (j : Int) < 2) (h : cs[j]? = some (.string s)) :
    (Instr.index 92 (.agg cs) (.int k j)).run Try.prog w = .ok (.string s) w := by
  have hu : Try.prog.underlying 92 = some (.array 2 9) := by kernel_rfl
  have hi : (0 : Int) ≤ (j : Int) ∧ (j : Int) < ((2 : Nat) : Int) := by omega
  obtain ⟨i0, h0, h1, h2, h3⟩ := info_parts strInfo
  have hs : Try.prog.cellsOf 9 = 1 := by kernel_rfl
  simp [Instr.index, run_underlying hu, asIntOf, hi, run_sizeOf (w := w) h0, hs, go_sem, h, show j < 2 by omega]
set_option maxRecDepth 100000 in
set_option maxHeartbeats 4000000 in
theorem rhythms7_c (K : Int) (hK : K ≠ 8) (w : World) :
    Calls Try.prog 35 #[.int .i64 K] w fun e w' => ∃ A c zs, e = .returned (.slice A zs.length c) ∧ ChOwn w' w.heap.size (.slice A zs.length c) zs.length zs ∧ zs.map ChG.x = rhyI K ∧ Below w.heap.size w w' := by
  obtain ⟨q0, hq, hz0, hz1, hz2⟩ := info_parts chInfo
  have hov := World.ownsRow_made (base := w.heap.size) (e := 26) (size := 5) w #[] 0 (Nat.le_refl _) (by simp [maxLen]) rfl
  have hbv : Below w.heap.size w (w.alloc (.cells #[] 26)) := (Below.refl _ _).alloc (Nat.le_refl _) _
  have hC0 : ChOwn (w.alloc (.cells #[] 26)) w.heap.size (.slice (some ⟨w.heap.size, 0, none⟩) ([] : List ChG).length 0) ([] : List ChG).length [] := ⟨hov, fun r hr => by cases hr⟩
  have k8 : (K == 8) = false := by simpa using hK
  have hRe : rhyI K = (List.range 5).flatMap fun e => (grpI e).flatMap (rhyG K) := by rw [rhyI, if_neg hK]
  have hlz0 : (⟨#[]⟩ : ByteArray).size ≤ 1048576 := by decide
  have HRe := Lib.hid hRe; clear hRe
  have HK := Lib.hid hK; clear hK
  go_enter Try.func35, Try.ntmps35
  go_wp2_with fail
  go_loopw [3, 26] (fun y i wr => ∃ (k : Nat) (A : Option Addr) (c : Nat) (zs : List ChG), k ≤ 5 ∧ i = .int .i64 k ∧ y = .slice A zs.length c ∧ ChOwn wr w.heap.size (.slice A zs.length c) zs.length zs ∧ Hid (zs.map ChG.x = (List.range k).flatMap fun e => (grpI e).flatMap (rhyG K)) ∧ Below w.heap.size w wr) (fun _ i _ => 5 - (intOf i).toNat)
  case atStart => exact ⟨0, _, _, [], by omega, rfl, rfl, hC0, Lib.hid rfl, hbv⟩
  case round =>
    clear hC0 hbv hov
    obtain ⟨k, A, c, zs, hk, rfl, rfl, hC, Hm, hbw⟩ := hrel
    by_cases hlt : k < 5
    · have i0 : (0 : Int) ≤ (k : Int) := by omega
      have i1 : (k : Int) < 5 := by omega
      have hG := groupsOf_c k (by omega) wr
      have hP1 := rhy_cnt K k (by omega)
      obtain ⟨P, hP⟩ : ∃ P, ((List.range k).flatMap fun e => (grpI e).flatMap (rhyG K)) = P := ⟨_, rfl⟩
      have hPn : ((List.range (k + 1)).flatMap fun e => (grpI e).flatMap (rhyG K)) = P ++ (grpI k).flatMap (rhyG K) := by
        rw [List.range_succ, List.flatMap_append, hP]; simp
      rw [hP] at Hm hP1
      have hP2 : P.length ≤ 65610 := by omega
      have HG := Lib.hid hG; clear hG
      have HPn := Lib.hid hPn; clear hPn
      clear hP hP1
      go_wp2_with fail
      refine HG.out.mono ?_
      rintro e w2 ⟨Ag, cg, rg, rfl, hR, hRm, hb2⟩
      obtain ⟨Bg, hBe⟩ : ∃ b, wr.heap.size = b := ⟨_, rfl⟩
      rw [hBe] at hR
      have hBg : w.heap.size ≤ Bg := by rw [← hBe]; exact hbw.size
      have hC2 := hC.next hb2
      have hbw2 := hbw.trans (hb2.mono hbw.size)
      have hrn : rg.length ≤ 6561 := by
        have h1 := grp_cnt k
        rw [← hRm, List.length_map] at h1
        have h2 : 9 ^ k ≤ 9 ^ 4 := Nat.pow_le_pow_right (by omega) (by omega)
        omega
      have hRl : ∀ r ∈ rg, r.xs.length ≤ 1048576 := fun r hr => by
        have h1 : r.xs ∈ grpI k := by rw [← hRm]; exact List.mem_map_of_mem hr
        have := (grp_sum h1).1
        omega
      have HRl := Lib.hid hRl; clear hRl
      have HRm := Lib.hid hRm; clear hRm
      clear hC hBe hb2 hbw
      go_wp2_with fail
      go_loopw [3, 32] (fun y i wr => ∃ (j : Nat) (A : Option Addr) (c : Nat) (zs : List ChG), j ≤ rg.length ∧ i = .int .i64 j ∧ y = .slice A zs.length c ∧ ChOwn wr w.heap.size (.slice A zs.length c) zs.length zs ∧ RowsOwn wr Bg (.slice Ag rg.length cg) rg.length rg ∧ Hid (zs.map ChG.x = P ++ ((grpI k).take j).flatMap (rhyG K)) ∧ Below w.heap.size w wr) (fun _ i _ => rg.length - (intOf i).toNat)
      case atStart => exact ⟨0, _, _, zs, by omega, rfl, rfl, hC2, hR, Lib.hid (by rw [Hm.out]; simp), hbw2⟩
      case round =>
        clear hC2 hR hbw2
        obtain ⟨j, A2, c2, zs2, hj, rfl, rfl, hC, hR, Hj, hbw⟩ := hrel
        have j0 : (0 : Int) ≤ (j : Int) := by omega
        by_cases hlj : j < rg.length
        · have j1 : (j : Int) < (rg.length : Int) := by omega
          obtain ⟨bg, og, r, rfl, hbg, hrx, sr, mr, cr⟩ := (hR.rs HRl.out).get j hlj
          have hgi : (grpI k)[j]? = some r.xs := by rw [← HRm.out, List.getElem?_map, hrx]; rfl
          have htf := take_flat (rhyG K) hgi
          have hQ1 := flat2_len (rhyG K) (rhyG_len K) ((grpI k).take j)
          obtain ⟨Q, hQ⟩ : ∃ Q, P ++ ((grpI k).take j).flatMap (rhyG K) = Q := ⟨_, rfl⟩
          have htf2 : P ++ ((grpI k).take (j + 1)).flatMap (rhyG K) = Q ++ rhyG K r.xs := by rw [htf, ← List.append_assoc, hQ]
          have hQ2 : Q.length ≤ 100000 := by
            rw [← hQ, List.length_append]
            rw [List.length_take] at hQ1
            omega
          rw [hQ] at Hj
          have Htf := Lib.hid htf2; clear htf2
          have Hrx := Lib.hid hrx; clear hrx
          clear htf hQ1 hQ hgi sr
          go_wp2_with fail
          go_loopw [3, 37] (fun y i wr => ∃ (l : Nat) (A : Option Addr) (c : Nat) (zs : List ChG), l ≤ 2 ∧ i = .int .i64 l ∧ y = .slice A zs.length c ∧ ChOwn wr w.heap.size (.slice A zs.length c) zs.length zs ∧ RowsOwn wr Bg (.slice (some ⟨bg, og, none⟩) rg.length cg) rg.length rg ∧ Hid (zs.map ChG.x = Q ++ rhyL K r.xs l) ∧ Below w.heap.size w wr) (fun _ i _ => 2 - (intOf i).toNat)
          case atStart => exact ⟨0, _, _, zs2, by omega, rfl, rfl, hC, hR, Lib.hid (by rw [Hj.out]; simp [rhyL]), hbw⟩
          case round =>
            clear hC hR hbw cr
            obtain ⟨l, A3, c3, zs, hl, rfl, rfl, hC, hR, Hz, hbw⟩ := hrel
            have hzl : zs.length ≤ 100002 := by
              have h1 := congrArg List.length Hz.out
              have h2 : (rhyL K r.xs l).length ≤ 2 := by
                rw [rhyL, List.length_map]
                exact Nat.le_trans (List.length_filter_le _ _) (by rw [List.length_take]; simp; omega)
              rw [List.length_map, List.length_append] at h1
              omega
            have hro := hR.inn r (List.mem_of_getElem? Hrx.out)
            have e63 : zs.length + 1 ≤ maxLen := by unfold maxLen; omega
            have e32 : (zs.length + 1) * 72 ≤ 140737488355328 := by omega
            have E63 := Lib.hid e63; clear e63
            have E32 := Lib.hid e32; clear e32
            obtain rfl | rfl | rfl : l = 0 ∨ l = 1 ∨ l = 2 := by omega
            · have hix : (Instr.index 92 (.agg #[.string ⟨#[]⟩, .string ⟨#[76]⟩]) (.int .i64 0)).run Try.prog wr = .ok (.string (⟨#[]⟩ : ByteArray)) wr := run_index2 0 _ .i64 wr _ (by decide) rfl
              have hlzT : ((⟨#[]⟩ : ByteArray)).size ≤ 1048576 := by decide
              have hFi : ∀ w1, Below wr.heap.size wr w1 → Calls Try.prog 71 #[chV K r.A r.xs.length r.c (⟨#[]⟩ : ByteArray) ⟨#[]⟩ 0] w1 fun e w' => e = .returned (.bool (fitsB ⟨K, r.xs, (⟨#[]⟩ : ByteArray), eB, 0⟩)) ∧ Below w1.heap.size w1 w' := fun w1 hb => fits_c r.A r.xs.length r.c ⟨K, r.xs, (⟨#[]⟩ : ByteArray), eB, 0⟩ w1 (Sl.of_own (own_next hro hb)) mr hlzT hlz0
              have hbX : Below wr.heap.size wr (wr.alloc (.cells #[.int .i64 K, .slice r.A r.xs.length r.c, .string (⟨#[]⟩ : ByteArray), .string ⟨#[]⟩, .int .i64 0] 26)) := (Below.refl _ _).alloc (Nat.le_refl _) _
              have hr9 := rowC.new wr K (.slice r.A r.xs.length r.c) (⟨#[]⟩ : ByteArray) ⟨#[]⟩ 0
              have HFi := Lib.hid hFi; clear hFi
              go_wp2_with fail
              refine (HFi.out _ hbX).mono ?_
              rintro e w3 ⟨rfl, hb3⟩
              have hbw3 := hbX.trans (hb3.mono hbX.size)
              have hr3 := hr9.next hb3
              have hC3 := hC.next hbw3
              have hR3 := hR.next hbw3
              have hro3 := hR3.inn r (List.mem_of_getElem? Hrx.out)
              have hbb3 := hbw.trans (hbw3.mono hbw.size)
              clear hr9 hb3 hbX hbw3
              cases hft : fitsB ⟨K, r.xs, (⟨#[]⟩ : ByteArray), eB, 0⟩
              · have Hft := Lib.hid hft; clear hft
                go_wp2_with fail
                go_roundw
                case rel => exact ⟨0 + 1, A3, c3, zs, by omega, by go_num, rfl, hC3, hR3, Lib.hid (by rw [Hz.out, rhyL_next (l := 0) (LT := (⟨#[]⟩ : ByteArray)) rfl, Hft.out]; simp), hbb3⟩
                case measure => simp [intOf] <;> omega
              · have Hft := Lib.hid hft; clear hft
                obtain ⟨a0, a1, a2, a3, a4, a5⟩ := hr3.facts
                have hoB := own_base hro3 hBg
                go_wp2_with (at_builtin; refine wpl_append _ rfl (.tmp 46) (.tmp 48) _ rfl (w.heap.size) 26 q0 _ 5 72 Try.underlying64 hq hz0 hz1 hz2 rfl (by omega) _ (zs.length) _ rfl ((hC3.own).alloc _) ((w3).heap.size + 1) (some ⟨(w3).heap.size, 0, none⟩) 1 1 (ChG.cells ((⟨⟨K, r.xs, (⟨#[]⟩ : ByteArray), eB, 0⟩, r.A, r.c⟩ : ChG))) rfl (Sl.new w3 26 _ 1 5 rfl) (chg_one _) E63.out E32.out (le_alloc hbb3.size _) ?_; intro v7 w7 ho7 hg7 hat7)
                obtain ⟨A7, c7, rfl⟩ := own_slice ho7
                have hP := ChOwn.push (z := (⟨⟨K, r.xs, (⟨#[]⟩ : ByteArray), eB, 0⟩, r.A, r.c⟩ : ChG)) hC3 hoB hg7 ho7
                have hl1 : (zs ++ [(⟨⟨K, r.xs, (⟨#[]⟩ : ByteArray), eB, 0⟩, r.A, r.c⟩ : ChG)]).length = zs.length + 1 := by simp
                rw [← hl1] at hP
                have hb7 : Below w.heap.size w w7 := (hbb3.alloc hbb3.size _).grown hg7 (le_alloc hbb3.size _) fun g hg => (hC3.own.lt g hg).1
                have hbA : Below w3.heap.size w3 (w3.alloc (.cells (ChG.cells ⟨⟨K, r.xs, (⟨#[]⟩ : ByteArray), eB, 0⟩, r.A, r.c⟩).toArray 26)) := (Below.refl _ _).alloc (Nat.le_refl _) _
                have hR4 := hR3.next hbA
                have hC4 := hC3.next hbA
                have hR7 := hR4.grown hg7 (own_ne hR4.own hC4.own (by decide)) (fun q hq => own_ne (hR4.inn q hq) hC4.own (by decide))
                go_wp2_with fail
                go_roundw
                case rel => exact ⟨0 + 1, A7, c7, zs ++ [⟨⟨K, r.xs, (⟨#[]⟩ : ByteArray), eB, 0⟩, r.A, r.c⟩], by omega, by go_num, by rw [hl1], hP, hR7, Lib.hid (by rw [List.map_append, Hz.out, rhyL_next (l := 0) (LT := (⟨#[]⟩ : ByteArray)) rfl, Hft.out]; simp), hb7⟩
                case measure => simp [intOf] <;> omega
            · have hix : (Instr.index 92 (.agg #[.string ⟨#[]⟩, .string ⟨#[76]⟩]) (.int .i64 1)).run Try.prog wr = .ok (.string (⟨#[76]⟩ : ByteArray)) wr := run_index2 1 _ .i64 wr _ (by decide) rfl
              have hlzT : ((⟨#[76]⟩ : ByteArray)).size ≤ 1048576 := by decide
              have hFi : ∀ w1, Below wr.heap.size wr w1 → Calls Try.prog 71 #[chV K r.A r.xs.length r.c (⟨#[76]⟩ : ByteArray) ⟨#[]⟩ 0] w1 fun e w' => e = .returned (.bool (fitsB ⟨K, r.xs, (⟨#[76]⟩ : ByteArray), eB, 0⟩)) ∧ Below w1.heap.size w1 w' := fun w1 hb => fits_c r.A r.xs.length r.c ⟨K, r.xs, (⟨#[76]⟩ : ByteArray), eB, 0⟩ w1 (Sl.of_own (own_next hro hb)) mr hlzT hlz0
              have hbX : Below wr.heap.size wr (wr.alloc (.cells #[.int .i64 K, .slice r.A r.xs.length r.c, .string (⟨#[76]⟩ : ByteArray), .string ⟨#[]⟩, .int .i64 0] 26)) := (Below.refl _ _).alloc (Nat.le_refl _) _
              have hr9 := rowC.new wr K (.slice r.A r.xs.length r.c) (⟨#[76]⟩ : ByteArray) ⟨#[]⟩ 0
              have HFi := Lib.hid hFi; clear hFi
              go_wp2_with fail
              refine (HFi.out _ hbX).mono ?_
              rintro e w3 ⟨rfl, hb3⟩
              have hbw3 := hbX.trans (hb3.mono hbX.size)
              have hr3 := hr9.next hb3
              have hC3 := hC.next hbw3
              have hR3 := hR.next hbw3
              have hro3 := hR3.inn r (List.mem_of_getElem? Hrx.out)
              have hbb3 := hbw.trans (hbw3.mono hbw.size)
              clear hr9 hb3 hbX hbw3
              cases hft : fitsB ⟨K, r.xs, (⟨#[76]⟩ : ByteArray), eB, 0⟩
              · have Hft := Lib.hid hft; clear hft
                go_wp2_with fail
                go_roundw
                case rel => exact ⟨1 + 1, A3, c3, zs, by omega, by go_num, rfl, hC3, hR3, Lib.hid (by rw [Hz.out, rhyL_next (l := 1) (LT := (⟨#[76]⟩ : ByteArray)) rfl, Hft.out]; simp), hbb3⟩
                case measure => simp [intOf] <;> omega
              · have Hft := Lib.hid hft; clear hft
                obtain ⟨a0, a1, a2, a3, a4, a5⟩ := hr3.facts
                have hoB := own_base hro3 hBg
                go_wp2_with (at_builtin; refine wpl_append _ rfl (.tmp 46) (.tmp 48) _ rfl (w.heap.size) 26 q0 _ 5 72 Try.underlying64 hq hz0 hz1 hz2 rfl (by omega) _ (zs.length) _ rfl ((hC3.own).alloc _) ((w3).heap.size + 1) (some ⟨(w3).heap.size, 0, none⟩) 1 1 (ChG.cells ((⟨⟨K, r.xs, (⟨#[76]⟩ : ByteArray), eB, 0⟩, r.A, r.c⟩ : ChG))) rfl (Sl.new w3 26 _ 1 5 rfl) (chg_one _) E63.out E32.out (le_alloc hbb3.size _) ?_; intro v7 w7 ho7 hg7 hat7)
                obtain ⟨A7, c7, rfl⟩ := own_slice ho7
                have hP := ChOwn.push (z := (⟨⟨K, r.xs, (⟨#[76]⟩ : ByteArray), eB, 0⟩, r.A, r.c⟩ : ChG)) hC3 hoB hg7 ho7
                have hl1 : (zs ++ [(⟨⟨K, r.xs, (⟨#[76]⟩ : ByteArray), eB, 0⟩, r.A, r.c⟩ : ChG)]).length = zs.length + 1 := by simp
                rw [← hl1] at hP
                have hb7 : Below w.heap.size w w7 := (hbb3.alloc hbb3.size _).grown hg7 (le_alloc hbb3.size _) fun g hg => (hC3.own.lt g hg).1
                have hbA : Below w3.heap.size w3 (w3.alloc (.cells (ChG.cells ⟨⟨K, r.xs, (⟨#[76]⟩ : ByteArray), eB, 0⟩, r.A, r.c⟩).toArray 26)) := (Below.refl _ _).alloc (Nat.le_refl _) _
                have hR4 := hR3.next hbA
                have hC4 := hC3.next hbA
                have hR7 := hR4.grown hg7 (own_ne hR4.own hC4.own (by decide)) (fun q hq => own_ne (hR4.inn q hq) hC4.own (by decide))
                go_wp2_with fail
                go_roundw
                case rel => exact ⟨1 + 1, A7, c7, zs ++ [⟨⟨K, r.xs, (⟨#[76]⟩ : ByteArray), eB, 0⟩, r.A, r.c⟩], by omega, by go_num, by rw [hl1], hP, hR7, Lib.hid (by rw [List.map_append, Hz.out, rhyL_next (l := 1) (LT := (⟨#[76]⟩ : ByteArray)) rfl, Hft.out]; simp), hb7⟩
                case measure => simp [intOf] <;> omega
            · go_wp2_with fail
              go_roundw
              case rel => exact ⟨j + 1, A3, c3, zs, by omega, by go_num, rfl, hC, hR, Lib.hid (by rw [Hz.out, rhyL_two, Htf.out]), hbw⟩
              case measure => simp [intOf] <;> omega
        · obtain rfl : j = rg.length := by omega
          have j1 : ¬ (rg.length : Int) < (rg.length : Int) := by omega
          have hm9 := Hj.out
          rw [List.take_of_length_le (by rw [← HRm.out, List.length_map]; exact Nat.le_refl _), ← HPn.out] at hm9
          have Hm9 := Lib.hid hm9; clear hm9
          go_wp2_with fail
          go_roundw
          case rel => exact ⟨k + 1, A2, c2, zs2, by omega, by go_num, rfl, hC, Hm9, hbw⟩
          case measure => simp [intOf] <;> omega
    · obtain rfl : k = 5 := by omega
      have i1 : ¬ ((5 : Nat) : Int) < 5 := by omega
      go_wp2_with fail
      go_ret
      exact ⟨A, c, zs, rfl, hC, by rw [Hm.out, HRe.out], hbw⟩
end Go.Proofs.Ytgibbhipjpbdfaa
