/- Numbers in decimal: the reference. -/
import Derived.Test.YtomjdkjkdmieaaaDoorApp
import Derived.Test.YtomjdkjkdmieaaaDoorU8
import Derived.Test.YtomjdkjkdmieaaaDoorDec
import Derived.Laws.IdiomStrings
namespace Go.Proofs.YtomjdkjkdmieaaaDoor
open Go.RowKit
def numL (l : List UInt8) : List Int := l.map fun b => (b.toNat : Int)
theorem numL_len (l : List UInt8) : (numL l).length = l.length := by simp [numL]
/-- string(b) of a row of the call's own that holds the bytes l. -/
theorem str_own {w : World} {base : Nat} {v : Value} {n : Nat} {l : List UInt8} (h : w.ownsRow base 5 1 v n ((numL l).flatMap u8C)) (hl : n = l.length) (hp : 0 < l.length) :
    (convert 59 9 v).run Tryd.prog w = .ok (.string ⟨l.toArray⟩) w := by
  subst hl
  have e : (numL l).flatMap u8C = l.map fun b => Value.int .u8 (b.toNat : Int) := by simp [numL, u8C, List.flatMap_map, ← List.map_eq_flatMap]
  rw [e] at h
  rcases id h.2 with ⟨-, h0⟩ | ⟨g, cap, cur, rfl, -, -, -, -, -, -⟩
  · omega
  · exact run_convert_bytes_back (P := Tryd.prog) w 59 9 5 ⟨g, 0, none⟩ cap l Tryd.underlying59 Tryd.underlying5 Tryd.underlying9 (fun j hj => h.cells (g := g) rfl j _ (by simp [hj]))
set_option maxRecDepth 100000 in
set_option maxHeartbeats 2000000 in
theorem decDigPos_c (v : Nat) (w : World) (h0 : v ≠ 0) (h1 : (v : Int) ≤ 9223372036854775807) :
    Calls Tryd.prog 28 #[.int .i64 (v : Int)] w fun e w' => e = .returned (.string (decB v)) ∧ Below w.heap.size w w' := by
  obtain ⟨p0, hp, hy0, hy1, hy2⟩ := info_parts u8Info
  have hov := World.ownsRow_made (base := w.heap.size) (e := 5) (size := 1) w #[] 0 (Nat.le_refl _) (by simp [maxLen]) rfl
  have hbv : Below w.heap.size w (w.alloc (.cells #[] 5)) := (Below.refl _ _).alloc (Nat.le_refl _) _
  have hvz : ((v : Int) == 0) = false := by simpa using h0
  have hvn : ¬ (v : Int) = 0 := by omega
  go_enter Tryd.func28, Tryd.ntmps28
  go_wp2_with fail
  go_loopw [3, 4] (fun y i wr => ∃ (m : Nat) (l : List Int), m ≤ v ∧ i = .int .i64 (m : Int) ∧ Hid (dn v = dn m ++ l.reverse) ∧ wr.ownsRow w.heap.size 5 1 y l.length (l.flatMap u8C) ∧ Below w.heap.size w wr) (fun _ i _ => (intOf i).toNat)
  case atStart => exact ⟨v, [], Nat.le_refl _, rfl, Lib.hid (by simp), hov, hbv⟩
  case round =>
    clear hov hbv
    obtain ⟨m, l, hm, rfl, Hd, hov, hbw⟩ := hrel
    obtain ⟨A3, c3, rfl⟩ := own_slice hov
    have hlen : l.length ≤ 20 := by
      have := dn_len 20 v (by omega)
      rw [Hd.out, List.length_append, List.length_reverse] at this
      omega
    by_cases hm0 : m = 0
    · subst hm0
      have hF : numL (Lib.itoa (v : Int)) = l.reverse := by
        rw [numL, itoa_pos h0, Hd.out, dn_zero, List.nil_append]
      obtain ⟨L, hL⟩ : ∃ L, l.length = L := ⟨_, rfl⟩
      have hLp : 0 < L := by
        have h3 := congrArg List.length Hd.out
        rw [dn_step h0, dn_zero, List.length_append, List.length_append, List.length_reverse, List.length_cons] at h3
        simp only [List.length_nil] at h3
        omega
      generalize l = xs at *
      rw [hL] at hov hlen ⊢
      clear Hd hm
      obtain ⟨w5, hw5⟩ : ∃ w5, w5 = wr := ⟨_, rfl⟩
      subst hw5
      have hnn : ¬ (v : Int) < 0 := by omega
      obtain ⟨F, hFd⟩ : ∃ F, Lib.itoa (v : Int) = F := ⟨_, rfl⟩
      rw [hFd] at hF
      have hsl := Sl.of_own hov
      have hov2 := World.ownsRow_made (base := (w5).heap.size) (e := 5) (size := 1) (w5) #[] 0 (Nat.le_refl _) (by simp [maxLen]) rfl
      have hbv2 : Below (w5).heap.size (w5) ((w5).alloc (.cells #[] 5)) := (Below.refl _ _).alloc (Nat.le_refl _) _
      have hFl : F.length = L := by rw [← numL_len, hF, List.length_reverse]; exact hL
      have HFd := Lib.hid hFd; clear hFd
      have HF := Lib.hid hF; clear hF
      have HL := Lib.hid hL; clear hL
      have HFl := Lib.hid hFl; clear hFl
      go_wp2_with fail
      go_loopw [6, 7] (fun y i wz => ∃ (k : Nat) (j : Int), k ≤ L ∧ j = (L : Int) - 1 - k ∧ i = .int .i64 j ∧ wz.ownsRow (w5).heap.size 5 1 y k ((xs.reverse.take k).flatMap u8C) ∧ Below (w5).heap.size (w5) wz) (fun _ i _ => (intOf i + 1).toNat)
      case atStart => exact ⟨0, _, Nat.zero_le _, by omega, rfl, hov2, hbv2⟩
      case round =>
        clear hov2 hbv2
        obtain ⟨k, j, hk, hj, rfl, hov2, hbw2⟩ := hrel
        by_cases hlt : k < L
        · obtain ⟨A4, c4, rfl⟩ := own_slice hov2
          obtain ⟨i, rfl⟩ : ∃ i : Nat, j = i := ⟨j.toNat, by omega⟩
          obtain ⟨b, off, x, hA, hb, hx, cx⟩ := hsl.u8 i (by omega)
          have qx := keepC hbw2 b hb
          have i0 : (0 : Int) ≤ (i : Int) := by omega
          have i1 : (i : Int) < (L : Int) := by omega
          have htk : xs.reverse.take (k + 1) = xs.reverse.take k ++ [x] := by
            have hLL := HL.out
            rw [List.take_add_one, List.getElem?_reverse (by omega), show xs.length - 1 - k = i by omega, hx, Option.toList_some]
          have e63 : k + 1 ≤ maxLen := by unfold maxLen; omega
          have e32 : (k + 1) * 1 ≤ 140737488355328 := by omega
          have E63 := Lib.hid e63; clear e63
          have E32 := Lib.hid e32; clear e32
          have Htk := Lib.hid htk; clear htk
          have Hx := Lib.hid hx; clear hx
          have Hj := Lib.hid hj; clear hj
          subst hA
          go_wp2_with (at_builtin; refine wpl_append _ rfl (.tmp 41) (.tmp 46) _ rfl ((w5).heap.size) 5 p0 _ 1 1 Tryd.underlying59 hp hy0 hy1 hy2 rfl (by omega) _ (k) _ rfl ((hov2).alloc _) ((wr).heap.size + 1) (some ⟨(wr).heap.size, 0, none⟩) 1 1 (u8C x) rfl (Sl.new (wr) 5 _ 1 1 rfl) (u8C_one _) E63.out E32.out (le_alloc (hbw2).size _) ?_; intro v6 w6 ho6 hg6 hat6)
          go_roundw
          case rel =>
            refine ⟨k + 1, _, by omega, ?_, rfl, ?_, (hbw2.alloc hbw2.size _).grown hg6 (le_alloc hbw2.size _) fun g hg => (hov2.lt g hg).1⟩
            · have := Hj.out; omega
            · rw [Htk.out, List.flatMap_append]
              simpa using ho6
          case measure => simp [intOf]
        · obtain rfl : k = L := by omega
          have hjn : j < 0 := by omega
          clear hj
          have e5 : (xs.reverse.take k).flatMap u8C = (numL F).flatMap u8C := by
            have hLL := HL.out
            rw [HF.out, List.take_of_length_le (by rw [List.length_reverse]; omega)]
          rw [e5] at hov2
          have hFl' := HFl.out
          have hcv := str_own hov2 hFl'.symm (by omega)
          clear hFl'
          obtain ⟨A4, c4, rfl⟩ := own_slice hov2
          go_wp2_with fail
          go_ret
          refine ⟨?_, hbw.trans (hbw2.mono hbw.size)⟩
          rw [decB, HFd.out]
          rfl
    · have st := dn_step hm0
      obtain ⟨q, hq⟩ : ∃ q, m / 10 = q := ⟨_, rfl⟩
      obtain ⟨d, hd⟩ : ∃ d, m % 10 = d := ⟨_, rfl⟩
      rw [hq, hd] at st
      have hd10 : d < 10 := by omega
      have hq10 : q < m := by omega
      have e1 : ((m : Int)).tmod 10 = (d : Int) := by
        first | (rw [Int.tmod_eq_emod_of_nonneg (by omega)]; omega) | (rw [Int.neg_tmod, Int.tmod_eq_emod_of_nonneg (by omega)]; omega)
      have e2 : ((m : Int)).tdiv 10 = (q : Int) := by
        first | (rw [Int.tdiv_eq_ediv_of_nonneg (by omega)]; omega) | (rw [Int.neg_tdiv, Int.tdiv_eq_ediv_of_nonneg (by omega)]; omega)
      have hmn : ¬ (m : Int) = 0 := by omega
      have hdn : ¬ (d : Int) < 0 := by omega
      have e63 : l.length + 1 ≤ maxLen := by unfold maxLen; omega
      have e32 : (l.length + 1) * 1 ≤ 140737488355328 := by omega
      have E63 := Lib.hid e63; clear e63
      have E32 := Lib.hid e32; clear e32
      have St := Lib.hid st; clear st
      have Hq := Lib.hid hq; clear hq
      have Hd2 := Lib.hid hd; clear hd
      go_wp2_with (at_builtin; refine wpl_append _ rfl (.tmp 22) (.tmp 26) _ rfl w.heap.size 5 p0 _ 1 1 Tryd.underlying59 hp hy0 hy1 hy2 rfl (by omega) _ (l.length) _ rfl ((hov).alloc _) ((wr).heap.size + 1) (some ⟨(wr).heap.size, 0, none⟩) 1 1 (u8C (48 + (d : Int))) rfl (Sl.new (wr) 5 _ 1 1 rfl) (u8C_one _) E63.out E32.out (le_alloc (hbw).size _) ?_; intro v4 w4 ho4 hg4 hat4)
      go_roundw
      case rel =>
        refine ⟨q, l ++ [48 + (d : Int)], by omega, by go_num, Lib.hid (by rw [Hd.out, St.out, List.reverse_append]; simp), ?_, (hbw.alloc hbw.size _).grown hg4 (le_alloc hbw.size _) fun g hg => (hov.lt g hg).1⟩
        rw [List.flatMap_append]
        simpa using ho4
      case measure => simp [intOf]; omega
set_option maxRecDepth 100000 in
set_option maxHeartbeats 2000000 in
theorem decDigNeg_c (v : Nat) (w : World) (h0 : v ≠ 0) (h1 : (v : Int) ≤ 9223372036854775808) :
    Calls Tryd.prog 28 #[.int .i64 (-(v : Int))] w fun e w' => e = .returned (.string (decB (-(v : Int)))) ∧ Below w.heap.size w w' := by
  obtain ⟨p0, hp, hy0, hy1, hy2⟩ := info_parts u8Info
  have hov := World.ownsRow_made (base := w.heap.size) (e := 5) (size := 1) w #[] 0 (Nat.le_refl _) (by simp [maxLen]) rfl
  have hbv : Below w.heap.size w (w.alloc (.cells #[] 5)) := (Below.refl _ _).alloc (Nat.le_refl _) _
  have hvz : (-(v : Int) == 0) = false := by simp; omega
  have hvn : ¬ -(v : Int) = 0 := by omega
  have hvm : -(v : Int) < 0 := by omega
  go_enter Tryd.func28, Tryd.ntmps28
  go_wp2_with fail
  go_loopw [3, 4] (fun y i wr => ∃ (m : Nat) (l : List Int), m ≤ v ∧ i = .int .i64 (-(m : Int)) ∧ Hid (dn v = dn m ++ l.reverse) ∧ wr.ownsRow w.heap.size 5 1 y l.length (l.flatMap u8C) ∧ Below w.heap.size w wr) (fun _ i _ => (intOf i).natAbs)
  case atStart => exact ⟨v, [], Nat.le_refl _, rfl, Lib.hid (by simp), hov, hbv⟩
  case round =>
    clear hov hbv
    obtain ⟨m, l, hm, rfl, Hd, hov, hbw⟩ := hrel
    obtain ⟨A3, c3, rfl⟩ := own_slice hov
    have hlen : l.length ≤ 20 := by
      have := dn_len 20 v (by omega)
      rw [Hd.out, List.length_append, List.length_reverse] at this
      omega
    by_cases hm0 : m = 0
    · subst hm0
      have hFl : dn v = l.reverse := by rw [Hd.out, dn_zero, List.nil_append]
      have e63 : l.length + 1 ≤ maxLen := by unfold maxLen; omega
      have e32 : (l.length + 1) * 1 ≤ 140737488355328 := by omega
      have E63 := Lib.hid e63; clear e63
      have E32 := Lib.hid e32; clear e32
      have HFl0 := Lib.hid hFl; clear hFl
      go_wp2_with ((at_builtin; refine wpl_append _ rfl (.tmp 30) (.tmp 31) _ rfl w.heap.size 5 p0 _ 1 1 Tryd.underlying59 hp hy0 hy1 hy2 rfl (by omega) _ (l.length) _ rfl ((hov).alloc _) ((wr).heap.size + 1) (some ⟨(wr).heap.size, 0, none⟩) 1 1 (u8C 45) rfl (Sl.new (wr) 5 _ 1 1 rfl) (u8C_one _) E63.out E32.out (le_alloc (hbw).size _) ?_; intro v4 w4 ho4 hg4 hat4); refine Hid.out ?_)
      refine Lib.hid ?_
      have hbw4 := (hbw.alloc hbw.size _).grown hg4 (le_alloc hbw.size _) fun g hg => (hov.lt g hg).1
      have hF : numL (Lib.itoa (-(v : Int))) = (l ++ [45]).reverse := by
        rw [numL, itoa_neg h0, HFl0.out, List.reverse_append]; rfl
      have hov4 : w4.ownsRow w.heap.size 5 1 v4 (l ++ [45]).length ((l ++ [45]).flatMap u8C) := by
        rw [List.flatMap_append]; simpa using ho4
      obtain ⟨A5, c5, rfl⟩ := own_slice hov4
      obtain ⟨L, hL⟩ : ∃ L, (l ++ [45]).length = L := ⟨_, rfl⟩
      have hLp : 0 < L := by rw [← hL]; simp
      have hlen4 : L ≤ 21 := by rw [← hL]; simp; omega
      have hl1 : l.length + 1 = L := by rw [← hL]; simp
      clear ho4 hg4 hat4 hov hlen HFl0 Hd hm E63 E32
      rw [hL] at hov4 ⊢
      generalize l ++ [45] = xs at *
      try rw [hl1]
      clear hl1 hbw
      obtain ⟨w5, hw5⟩ : ∃ w5, w5 = w4 := ⟨_, rfl⟩
      subst hw5
      have hbw := hbw4
      have hov := hov4
      clear hbw4 hov4
      obtain ⟨F, hFd⟩ : ∃ F, Lib.itoa (-(v : Int)) = F := ⟨_, rfl⟩
      rw [hFd] at hF
      have hsl := Sl.of_own hov
      have hov2 := World.ownsRow_made (base := (w5).heap.size) (e := 5) (size := 1) (w5) #[] 0 (Nat.le_refl _) (by simp [maxLen]) rfl
      have hbv2 : Below (w5).heap.size (w5) ((w5).alloc (.cells #[] 5)) := (Below.refl _ _).alloc (Nat.le_refl _) _
      have hFl : F.length = L := by rw [← numL_len, hF, List.length_reverse]; exact hL
      have HFd := Lib.hid hFd; clear hFd
      have HF := Lib.hid hF; clear hF
      have HL := Lib.hid hL; clear hL
      have HFl := Lib.hid hFl; clear hFl
      go_wp2_with fail
      go_loopw [6, 7] (fun y i wz => ∃ (k : Nat) (j : Int), k ≤ L ∧ j = (L : Int) - 1 - k ∧ i = .int .i64 j ∧ wz.ownsRow (w5).heap.size 5 1 y k ((xs.reverse.take k).flatMap u8C) ∧ Below (w5).heap.size (w5) wz) (fun _ i _ => (intOf i + 1).toNat)
      case atStart => exact ⟨0, _, Nat.zero_le _, by omega, rfl, hov2, hbv2⟩
      case round =>
        clear hov2 hbv2
        obtain ⟨k, j, hk, hj, rfl, hov2, hbw2⟩ := hrel
        by_cases hlt : k < L
        · obtain ⟨A4, c4, rfl⟩ := own_slice hov2
          obtain ⟨i, rfl⟩ : ∃ i : Nat, j = i := ⟨j.toNat, by omega⟩
          obtain ⟨b, off, x, hA, hb, hx, cx⟩ := hsl.u8 i (by omega)
          have qx := keepC hbw2 b hb
          have i0 : (0 : Int) ≤ (i : Int) := by omega
          have i1 : (i : Int) < (L : Int) := by omega
          have htk : xs.reverse.take (k + 1) = xs.reverse.take k ++ [x] := by
            have hLL := HL.out
            rw [List.take_add_one, List.getElem?_reverse (by omega), show xs.length - 1 - k = i by omega, hx, Option.toList_some]
          have e63 : k + 1 ≤ maxLen := by unfold maxLen; omega
          have e32 : (k + 1) * 1 ≤ 140737488355328 := by omega
          have E63 := Lib.hid e63; clear e63
          have E32 := Lib.hid e32; clear e32
          have Htk := Lib.hid htk; clear htk
          have Hx := Lib.hid hx; clear hx
          have Hj := Lib.hid hj; clear hj
          subst hA
          go_wp2_with (at_builtin; refine wpl_append _ rfl (.tmp 41) (.tmp 46) _ rfl ((w5).heap.size) 5 p0 _ 1 1 Tryd.underlying59 hp hy0 hy1 hy2 rfl (by omega) _ (k) _ rfl ((hov2).alloc _) ((wr).heap.size + 1) (some ⟨(wr).heap.size, 0, none⟩) 1 1 (u8C x) rfl (Sl.new (wr) 5 _ 1 1 rfl) (u8C_one _) E63.out E32.out (le_alloc (hbw2).size _) ?_; intro v6 w6 ho6 hg6 hat6)
          go_roundw
          case rel =>
            refine ⟨k + 1, _, by omega, ?_, rfl, ?_, (hbw2.alloc hbw2.size _).grown hg6 (le_alloc hbw2.size _) fun g hg => (hov2.lt g hg).1⟩
            · have := Hj.out; omega
            · rw [Htk.out, List.flatMap_append]
              simpa using ho6
          case measure => simp [intOf]
        · obtain rfl : k = L := by omega
          have hjn : j < 0 := by omega
          clear hj
          have e5 : (xs.reverse.take k).flatMap u8C = (numL F).flatMap u8C := by
            have hLL := HL.out
            rw [HF.out, List.take_of_length_le (by rw [List.length_reverse]; omega)]
          rw [e5] at hov2
          have hFl' := HFl.out
          have hcv := str_own hov2 hFl'.symm (by omega)
          clear hFl'
          obtain ⟨A4, c4, rfl⟩ := own_slice hov2
          go_wp2_with fail
          go_ret
          refine ⟨?_, hbw.trans (hbw2.mono hbw.size)⟩
          rw [decB, HFd.out]
          rfl
    · have st := dn_step hm0
      obtain ⟨q, hq⟩ : ∃ q, m / 10 = q := ⟨_, rfl⟩
      obtain ⟨d, hd⟩ : ∃ d, m % 10 = d := ⟨_, rfl⟩
      rw [hq, hd] at st
      have hd10 : d < 10 := by omega
      have hq10 : q < m := by omega
      have e1 : (-(m : Int)).tmod 10 = -(d : Int) := by
        first | (rw [Int.tmod_eq_emod_of_nonneg (by omega)]; omega) | (rw [Int.neg_tmod, Int.tmod_eq_emod_of_nonneg (by omega)]; omega)
      have e2 : (-(m : Int)).tdiv 10 = -(q : Int) := by
        first | (rw [Int.tdiv_eq_ediv_of_nonneg (by omega)]; omega) | (rw [Int.neg_tdiv, Int.tdiv_eq_ediv_of_nonneg (by omega)]; omega)
      have hmn : ¬ -(m : Int) = 0 := by omega
      have e63 : l.length + 1 ≤ maxLen := by unfold maxLen; omega
      have e32 : (l.length + 1) * 1 ≤ 140737488355328 := by omega
      have E63 := Lib.hid e63; clear e63
      have E32 := Lib.hid e32; clear e32
      have St := Lib.hid st; clear st
      have Hq := Lib.hid hq; clear hq
      have Hd2 := Lib.hid hd; clear hd
      by_cases hdn : d = 0
      · subst hdn
        go_wp2_with (at_builtin; refine wpl_append _ rfl (.tmp 22) (.tmp 26) _ rfl w.heap.size 5 p0 _ 1 1 Tryd.underlying59 hp hy0 hy1 hy2 rfl (by omega) _ (l.length) _ rfl ((hov).alloc _) ((wr).heap.size + 1) (some ⟨(wr).heap.size, 0, none⟩) 1 1 (u8C (48 : Int)) rfl (Sl.new (wr) 5 _ 1 1 rfl) (u8C_one _) E63.out E32.out (le_alloc (hbw).size _) ?_; intro v4 w4 ho4 hg4 hat4)
        go_roundw
        case rel =>
          refine ⟨q, l ++ [48], by omega, by go_num, Lib.hid (by rw [Hd.out, St.out, List.reverse_append]; simp), ?_, (hbw.alloc hbw.size _).grown hg4 (le_alloc hbw.size _) fun g hg => (hov.lt g hg).1⟩
          rw [List.flatMap_append]
          simpa using ho4
        case measure => simp [intOf]; omega
      · have hdn' : -(d : Int) < 0 := by omega
        go_wp2_with (at_builtin; refine wpl_append _ rfl (.tmp 22) (.tmp 26) _ rfl w.heap.size 5 p0 _ 1 1 Tryd.underlying59 hp hy0 hy1 hy2 rfl (by omega) _ (l.length) _ rfl ((hov).alloc _) ((wr).heap.size + 1) (some ⟨(wr).heap.size, 0, none⟩) 1 1 (u8C (48 + (d : Int))) rfl (Sl.new (wr) 5 _ 1 1 rfl) (u8C_one _) E63.out E32.out (le_alloc (hbw).size _) ?_; intro v4 w4 ho4 hg4 hat4)
        go_roundw
        case rel =>
          refine ⟨q, l ++ [48 + (d : Int)], by omega, by go_num, Lib.hid (by rw [Hd.out, St.out, List.reverse_append]; simp), ?_, (hbw.alloc hbw.size _).grown hg4 (le_alloc hbw.size _) fun g hg => (hov.lt g hg).1⟩
          rw [List.flatMap_append]
          simpa using ho4
        case measure => simp [intOf]; omega
theorem l01Dec_c (n : Int) (w : World) (h0 : -9223372036854775808 ≤ n) (h1 : n ≤ 9223372036854775807) :
    Calls Tryd.prog 28 #[.int .i64 n] w fun e w' => e = .returned (.string (decB n)) ∧ Below w.heap.size w w' := by
  rcases Int.lt_trichotomy n 0 with h | h | h
  · obtain ⟨v, rfl⟩ : ∃ v : Nat, n = -(v : Int) := ⟨n.natAbs, by omega⟩
    exact decDigNeg_c v w (by omega) (by omega)
  · subst h
    have hd : decB 0 = ⟨#[48]⟩ := by rw [decB, Lib.itoa, if_neg (by omega), show (0 : Int).toNat = 0 from rfl, Lib.decDigits, dif_pos (by omega)]; rfl
    rw [hd]
    go_enter Tryd.func28, Tryd.ntmps28
    go_wp2_with fail
    go_ret
    exact ⟨rfl, Below.refl _ _⟩
  · obtain ⟨v, rfl⟩ : ∃ v : Nat, n = v := ⟨n.toNat, by omega⟩
    exact decDigPos_c v w (by omega) (by omega)
end Go.Proofs.YtomjdkjkdmieaaaDoor
