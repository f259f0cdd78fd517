/- The duties of a keeper: clone, slices.IndexFunc and DeleteFunc with the closure of dutiesOf. -/
import Derived.Test.YtimbakjajglppaaApp
import Derived.Test.YtimbakjajglppaaDuty2
namespace Go.Proofs.Ytimbakjajglppaa
open Go.RowKit
theorem dutyC_one (d : Duty) : ∀ u ∈ d.cells, u.oneCell' = true := by simp [Duty.cells, Value.oneCell']
theorem dutyZero (w : World) : (zeroValue 50).run Try.prog w = .ok (.agg #[.string ByteArray.empty, .int .i64 0, .int .i64 0]) w := by kernel_rfl

set_option maxRecDepth 100000 in
set_option maxHeartbeats 400000 in
theorem cloneDuty_c (A : Option Addr) (n c : Nat) (xs : List Duty) (w : World) (h : Sl w w.heap.size 3 A n (xs.flatMap Duty.cells)) (hm : n ≤ 1048576) :
    Calls Try.prog 87 #[.slice A n c] w fun e w' => ∃ v, e = .returned v ∧ w'.ownsRow w.heap.size 50 3 v n (xs.flatMap Duty.cells) ∧ Below w.heap.size w w' := by
  obtain ⟨i0, hi, hz0, hz1, hz2⟩ := info_parts dutyInfo
  have hB : i0.bytes * n ≤ 281474976710656 := by rw [hz2]; omega
  have hM : n ≤ maxLen := by unfold maxLen; omega
  have hM2 : 0 + n ≤ maxLen := by unfold maxLen; omega
  have hB2 : (0 + n) * 32 ≤ 140737488355328 := by omega
  have HB := Lib.hid hB; clear hB
  have HM := Lib.hid hM; clear hM
  have HM2 := Lib.hid hM2; clear hM2
  have HB2 := Lib.hid hB2; clear hB2
  go_enter Try.func87, Try.ntmps87
  go_wp2_with (first
    | (at_make; refine wpList_make_own _ rfl _ _ _ rfl w.heap.size 50 i0 _ 3 Try.underlying25 hi hz0 hz1 _ _ _ n rfl rfl rfl HB.out HM.out (Nat.le_refl _) ?_; intro w1 hown hgr; have hb0 : Below w.heap.size w w1 := (Below.refl _ _).grown hgr (Nat.le_refl _) (by simp); have h1 := h.below hb0)
    | (at_builtin; refine wpl_append _ rfl (.tmp 5) (.tmp 6) _ rfl w.heap.size 50 i0 _ 3 32 Try.underlying25 hi hz0 hz1 hz2 rfl (by omega) _ 0 [] rfl hown w.heap.size A n c _ rfl h1 (flat_one _ dutyC_one xs) HM2.out HB2.out hb0.size ?_; intro v2 w2 hown2 hg2 hat2))
  go_ret
  refine ⟨v2, rfl, by simpa using hown2, hb0.grown hg2 hb0.size (fun k hk => Nat.le_of_eq (Option.some.inj hk))⟩

set_option maxHeartbeats 400000 in
theorem ofIs_c (d : Duty) (bk : Nat) (s : ByteArray) (w : World) (hc : w.cell? ⟨bk, 0, none⟩ = some (.string s)) (hbk : bk < w.heap.size) :
    Calls Try.prog 88 #[d.val, .pointer (some ⟨bk, 0, none⟩)] w fun e w' => e = .returned (.bool (!(decide (d.keeper = s)))) ∧ Below w.heap.size w w' := by
  have hc2 : (w.alloc (.cells #[.string d.keeper, .int .i64 d.fr, .int .i64 d.un] 50)).cell? ⟨bk, 0, none⟩ = some (.string s) := (World.cell?_alloc_lt w _ _ hbk).trans hc
  have hbb := ba_beq d.keeper s
  have Hbb := Lib.hid hbb; clear hbb
  go_enter Try.func88, Try.ntmps88
  go_wp2
  go_ret
  exact ⟨ret_eq (bool_eq (by rw [← Hbb.out])), by (repeat (first | assumption | exact Below.refl _ _ | exact Nat.le_refl _ | exact Below.size (by assumption) | refine Below.drew ?_ | refine below_drewN ?_ _ | refine Below.alloc ?_ ?_ _ | refine Below.setCell ?_ ?_ _ | refine le_alloc ?_ _ | refine le_set ?_ _ _ | refine le_drew ?_ | refine le_drewN ?_ _ | omega))⟩

set_option maxRecDepth 100000 in
set_option maxHeartbeats 400000 in
theorem ofIndex_c (A : Option Addr) (n c bk : Nat) (xs : List Duty) (s : ByteArray) (w : World) (h : Sl w w.heap.size 3 A n (xs.flatMap Duty.cells)) (hm : n ≤ 1048576) (hc : w.cell? ⟨bk, 0, none⟩ = some (.string s)) (hbk : bk < w.heap.size) :
    Calls Try.prog 93 #[.slice A n c, .func (.func 88) #[] #[.pointer (some ⟨bk, 0, none⟩)]] w fun e w' =>
      ((e = .returned (.int .i64 (-1)) ∧ ∀ d ∈ xs, d.keeper = s) ∨ ∃ (k : Nat) (d : Duty), k < n ∧ e = .returned (.int .i64 k) ∧ xs[k]? = some d ∧ d.keeper ≠ s ∧ ∀ d ∈ xs.take k, d.keeper = s) ∧ Below w.heap.size w w' := by
  have hl := h.len Duty.cells 3 Duty.cells_len (by omega)
  have Hl := Lib.hid hl; clear hl
  go_enter Try.func93, Try.ntmps93
  go_wp2
  go_loopw [5, 8] (fun _ i wr => ∃ k : Nat, k ≤ n ∧ i = .int .i64 k ∧ (∀ d ∈ xs.take k, d.keeper = s) ∧ Below w.heap.size w wr) (fun _ i _ => n - (intOf i).toNat)
  case atStart => exact ⟨0, Nat.zero_le _, rfl, by simp, Below.refl _ _⟩
  case round =>
    obtain ⟨k, hk, rfl, hall, hbw⟩ := hrel
    have Hall := Lib.hid hall; clear hall
    by_cases hlt : k < n
    · obtain ⟨b, off, d, rfl, hb, hd, c1, c2, c3⟩ := h.duty k hlt
      have q1 := keepC hbw b hb
      have q2 := (keepC hbw bk hbk 0).trans hc
      have Q2 := Lib.hid q2; clear q2
      have Hd := Lib.hid hd; clear hd
      go_wp2_with (go_at_call 88; refine (ofIs_c d bk s _ Q2.out (Nat.lt_of_lt_of_le hbk hbw.size)).mono ?_; rintro e w1 ⟨rfl, hb1⟩)
      · go_ret
        exact ⟨.inr ⟨k, d, hlt, rfl, Hd.out, by simp_all, Hall.out⟩, hbw.trans (hb1.mono hbw.size)⟩
      · go_roundw
        case rel =>
          refine ⟨k + 1, by omega, by go_num, ?_, hbw.trans (hb1.mono hbw.size)⟩
          have e : d.keeper = s := by simp_all
          intro d' hd'
          rcases (mem_take_next Hd.out d').1 hd' with h1 | rfl
          · exact Hall.out d' h1
          · exact e
        case measure => simp [intOf]; omega
    · go_wp2
      go_ret
      refine ⟨.inl ⟨rfl, ?_⟩, hbw⟩
      have hall := Hall.out
      rwa [List.take_of_length_le (by rw [Hl.out]; omega)] at hall

theorem dutyZ1 : ∀ u ∈ (Value.agg #[.string ByteArray.empty, .int .i64 0, .int .i64 0]).cells.toList, u.oneCell' = true := by
  intro u hu
  simp [Value.cells] at hu
  rcases hu with rfl | rfl | rfl <;> rfl
/-- The duties of one keeper. -/
def ofK (xs : List Duty) (s : ByteArray) : List Duty := xs.filter fun d => decide (d.keeper = s)
theorem ofK_next {xs : List Duty} {s : ByteArray} {j : Nat} {d : Duty} (h : xs[j]? = some d) : ofK (xs.take (j + 1)) s = if d.keeper = s then ofK (xs.take j) s ++ [d] else ofK (xs.take j) s := by
  rw [List.take_add_one, h]
  simp only [ofK, Option.toList_some, List.filter_append]
  by_cases e : d.keeper = s <;> simp [e]
theorem ofK_all {xs : List Duty} {s : ByteArray} (h : ∀ d ∈ xs, d.keeper = s) : ofK xs s = xs := by
  unfold ofK; rw [List.filter_eq_self]; intro d hd; simp [h d hd]
theorem ofK_len (xs : List Duty) (s : ByteArray) : (ofK xs s).length ≤ xs.length := List.length_filter_le _ _
theorem take_set_next {α : Type} {zs : List α} {i : Nat} {d : α} (hi : i < zs.length) : (zs.set i d).take (i + 1) = zs.take i ++ [d] := by
  rw [List.take_add_one, List.take_set_of_le (Nat.le_refl _), List.getElem?_set, if_pos rfl, if_pos hi]; rfl
theorem drop_set_next {α : Type} {zs xs : List α} {i j : Nat} {d : α} (hi : i ≤ j) (h : zs.drop j = xs.drop j) : (zs.set i d).drop (j + 1) = xs.drop (j + 1) := by
  rw [List.drop_set_of_lt (by omega), ← List.drop_drop, h, List.drop_drop]
theorem drop_next {α : Type} {zs xs : List α} {j : Nat} (h : zs.drop j = xs.drop j) : zs.drop (j + 1) = xs.drop (j + 1) := by
  rw [← List.drop_drop, h, List.drop_drop]

set_option maxRecDepth 100000 in
set_option maxHeartbeats 1000000 in
theorem ofDelete_c (A : Option Addr) (n c bk base : Nat) (xs : List Duty) (s : ByteArray) (w : World) (hown0 : w.ownsRow base 50 3 (.slice A n c) n (xs.flatMap Duty.cells)) (hm : n ≤ 1048576) (hc : w.cell? ⟨bk, 0, none⟩ = some (.string s)) (hbk : bk < w.heap.size) (hne0 : bk < base) :
    Calls Try.prog 86 #[.slice A n c, .func (.func 88) #[] #[.pointer (some ⟨bk, 0, none⟩)]] w fun e w' =>
      e = .returned (.slice A (ofK xs s).length c) ∧ w'.ownsRow base 50 3 (.slice A (ofK xs s).length c) (ofK xs s).length ((ofK xs s).flatMap Duty.cells) ∧ w.grownBy w' (Value.slice A n c).ownBlock := by
  have s0 := Sl.of_own hown0
  have hl := s0.len Duty.cells 3 Duty.cells_len (by omega)
  have Hl := Lib.hid hl; clear hl
  go_enter Try.func86, Try.ntmps86
  go_wp2_with fail
  refine (ofIndex_c _ n c bk xs s _ s0 hm hc hbk).mono ?_
  rintro e w1 ⟨⟨rfl, hall⟩ | ⟨k, dk, hk, rfl, hdk, hdn, hall⟩, hb1⟩
  · go_wp2
    go_ret
    rw [ofK_all hall, Hl.out]
    exact ⟨rfl, own_next hown0 hb1, grown_of_below hb1⟩
  · obtain ⟨g, rfl, hgb, _⟩ := own_form hown0 (by omega)
    have hne : bk ≠ g := by omega
    have hown1 := own_next hown0 hb1
    have hkk : ((k : Int) == -1) = false := by simp
    have hi0 : ofK (xs.take (k + 1)) s = xs.take k := by rw [ofK_next hdk, if_neg hdn, ofK_all hall]
    have Hi0 := Lib.hid hi0; clear hi0
    have hbk1 : bk < w1.heap.size := Nat.lt_of_lt_of_le hbk hb1.size
    have hc1 := (keepC hb1 bk hbk 0).trans hc
    have hn1 := Ne.symm hne
    have Hc1 := Lib.hid hc1; clear hc1
    have Hne := Lib.hid hne; clear hne
    have Hn1 := Lib.hid hn1; clear hn1
    clear hall hdk hdn hc
    go_wp2
    go_loopw [5, 6] (fun i j wr => ∃ (i' j' : Nat) (zs : List Duty), i' < j' ∧ j' ≤ n ∧ zs.length = n ∧ i = .int .i64 i' ∧ j = .int .i64 j' ∧ zs.take i' = ofK (xs.take j') s ∧ zs.drop j' = xs.drop j' ∧ wr.ownsRow base 50 3 (.slice (some ⟨g, 0, none⟩) n c) n (zs.flatMap Duty.cells) ∧ w1.grownBy wr (some g)) (fun _ j _ => n - (intOf j).toNat)
    case atStart => exact ⟨k, k + 1, xs, by omega, by omega, Hl.out, rfl, by go_num, Hi0.out.symm, rfl, hown1, grown_refl _ _⟩
    case round =>
      clear hown1
      obtain ⟨i, j, zs, hij, hjn, hzl, rfl, rfl, htk, hdr, hown, hgr⟩ := hrel
      have Htk := Lib.hid htk; clear htk
      have Hzl := Lib.hid hzl; clear hzl
      by_cases hlt : j < n
      · have sz := Sl.of_own hown
        obtain ⟨b, off, d, e0, hb, hd, c1, c2, c3⟩ := sz.duty j hlt
        injection e0 with e0
        injection e0 with e1 e2
        subst e1 e2
        have hxd : xs[j]? = some d := by
          have h0 := congrArg (fun l => l[0]?) hdr
          simp only [List.getElem?_drop, Nat.add_zero] at h0
          rw [← h0]; exact hd
        simp only [Nat.zero_add] at c1 c2 c3
        have Hd := Lib.hid hd; clear hd
        have Hxd := Lib.hid hxd; clear hxd
        have Hdr := Lib.hid hdr; clear hdr
        have q2 : wr.cell? ⟨bk, 0, none⟩ = some (.string s) := (hgr.cell_far ⟨bk, 0, none⟩ hbk1 (by simpa using Hne.out)).trans Hc1.out
        have q3 : (wr.alloc (.cells #[.string d.keeper, .int .i64 d.fr, .int .i64 d.un] 50)).cell? ⟨bk, 0, none⟩ = some (.string s) := (World.cell?_alloc_lt wr _ _ (Nat.lt_of_lt_of_le hbk1 hgr.size)).trans q2
        have Q2 := Lib.hid q2; clear q2
        have Q3 := Lib.hid q3; clear q3
        go_wp2_with (go_at_call 88; refine (ofIs_c d bk s _ Q3.out (by simp; exact Nat.lt_succ_of_lt (Nat.lt_of_lt_of_le hbk1 hgr.size))).mono ?_; rintro e w2 ⟨rfl, hb2⟩; have ho2 := own_next (hown.alloc _) hb2; obtain ⟨y0, f0⟩ := own_cell ho2 (i * 3) (by omega); obtain ⟨y1, f1⟩ := own_cell ho2 (i * 3 + 1) (by omega); obtain ⟨y2, f2⟩ := own_cell ho2 (i * 3 + 2) (by omega); have f3 := ho2.frozenAt; have f4 := keepC hb2 wr.heap.size (by simp))
        · go_roundw
          case rel =>
            have e : d.keeper = s := by assumption
            have s1 := ho2.stored (i * 3) (.string s)
            have s2 := s1.1.stored (i * 3 + 1) (.int .i64 d.fr)
            have s3 := s2.1.stored (i * 3 + 2) (.int .i64 d.un)
            refine ⟨i + 1, j + 1, zs.set i d, by omega, by omega, by rw [List.length_set]; exact Hzl.out, by go_num, by go_num, ?_, drop_set_next (by omega) Hdr.out, ?_, ?_⟩
            · rw [take_set_next (by rw [Hzl.out]; omega), Htk.out, ofK_next Hxd.out, if_pos e]
            · rw [← flat_set Duty.cells 3 Duty.cells_len zs i d (by rw [Hzl.out]; omega), Duty.cells, e]; exact s3.1
            · refine grown_trans (grown_trans (grown_trans (grown_trans hgr ?_) s1.2) s2.2) s3.2
              exact grown_trans (World.grownBy_alloc wr _ _) (grown_of_below hb2)
          case measure => simp [intOf]; omega
        · go_roundw
          case rel =>
            have e : ¬ d.keeper = s := by assumption
            refine ⟨i, j + 1, zs, by omega, by omega, Hzl.out, rfl, by go_num, ?_, drop_next Hdr.out, ho2, ?_⟩
            · rw [Htk.out, ofK_next Hxd.out, if_neg e]
            · exact grown_trans hgr (grown_trans (World.grownBy_alloc wr _ _) (grown_of_below hb2))
          case measure => simp [intOf]; omega
      · obtain rfl : j = n := by omega
        have hcp := own_cap hown
        obtain ⟨w3, hclr, ho3, hg3⟩ := own_cleared (P := Try.prog) wr base 25 50 _ 3 g j c i (c - i) _ Try.underlying25 dutyZero rfl dutyZ1 (by omega) hown hij
        have j1 : (0 : Int) ≤ (i : Int) := by omega
        have j2 : (i : Int) ≤ (j : Int) := by omega
        have j3 : (i : Int) ≤ (c : Int) := by omega
        have j4 : ¬ c = i := by omega
        have j5 := hcp.1
        clear hcp
        go_wp2
        go_ret
        have htk := Htk.out
        rw [List.take_of_length_le (l := xs) (by rw [Hl.out]; omega)] at htk
        have hil : (ofK xs s).length = i := by rw [← htk, List.length_take, Hzl.out]; omega
        rw [flat_take Duty.cells 3 Duty.cells_len, htk] at ho3
        rw [hil]
        exact ⟨rfl, ho3, grown_trans (grown_trans (grown_of_below hb1) hgr) hg3⟩

set_option maxHeartbeats 400000 in
theorem dutiesOf_c (A : Option Addr) (n c : Nat) (xs : List Duty) (s : ByteArray) (w : World) (h : Sl w w.heap.size 3 A n (xs.flatMap Duty.cells)) (hm : n ≤ 1048576) :
    Calls Try.prog 62 #[.slice A n c, .string s] w fun e w' => ∃ v, e = .returned v ∧ w'.ownsRow w.heap.size 50 3 v (ofK xs s).length ((ofK xs s).flatMap Duty.cells) ∧ Below w.heap.size w w' := by
  have hl := h.len Duty.cells 3 Duty.cells_len (by omega)
  have hb0 : Below w.heap.size w (w.alloc (.cells #[.string s] 9)) := by (repeat (first | assumption | exact Below.refl _ _ | exact Nat.le_refl _ | exact Below.size (by assumption) | refine Below.drew ?_ | refine below_drewN ?_ _ | refine Below.alloc ?_ ?_ _ | refine Below.setCell ?_ ?_ _ | refine le_alloc ?_ _ | refine le_set ?_ _ _ | refine le_drew ?_ | refine le_drewN ?_ _ | omega))
  have h1 := h.next hb0
  have Hl := Lib.hid hl; clear hl
  go_enter Try.func62, Try.ntmps62
  go_wp2_with fail
  refine (cloneDuty_c A n c xs _ h1 hm).mono ?_
  rintro e w1 ⟨v, rfl, ho, hb1⟩
  obtain ⟨A1, c1, rfl⟩ := own_slice ho
  go_wp2_with fail
  refine (ofDelete_c A1 n c1 w.heap.size _ xs s w1 ho hm ?_ ?_ ?_).mono ?_
  · rw [keepC hb1 w.heap.size (by simp) 0]; simp
  · have := hb1.size; simp at this; omega
  · simp
  rintro e w2 ⟨rfl, ho2, hg2⟩
  go_wp2_with fail
  go_ret
  refine ⟨_, rfl, ?_, (hb0.trans (hb1.mono (by simp))).grown hg2 (by have := hb1.size; simp at this; omega) (fun k hk => ?_)⟩
  · obtain ⟨q1, q2⟩ := ho2
    refine ⟨q1, ?_⟩
    rcases q2 with q2 | ⟨g, cap, cur, hv, hg, r⟩
    · exact .inl q2
    · exact .inr ⟨g, cap, cur, hv, by simp at hg; omega, r⟩
  · have := (ho.lt k hk).1
    simp at this; omega
end Go.Proofs.Ytimbakjajglppaa
