/- Marks: the program: colors, topmarks, shapes. -/
import Derived.Test.YtpgcgmbjlecnpaaGreatDoorMarkS
import Derived.Test.YtpgcgmbjlecnpaaGreatDoorShelf
import Derived.Lib.SmallJoins
namespace Go.Proofs.YtpgcgmbjlecnpaaGreatDoor
open Go.RowKit
/-- strings.asciiSpace holds what the program's text lays. -/
def Tab (w : World) : Prop := Lib.TabIs Tryz.prog w "strings.asciiSpace" .u8 Lib.asciiSpaceTab
theorem Tab.next {w w' : World} (h : Tab w) (hb : Below w.heap.size w w') : Tab w' := Joins.tab_stays (show Tryz.prog.globalNamed "strings.asciiSpace" = some 0 by kernel_rfl) h hb (Nat.le_refl _)
set_option maxHeartbeats 400000 in
theorem isMarkKind_c (n : Int) (w : World) : Calls Tryz.prog 98 #[.int .i64 n] w fun e w' => e = .returned (.bool (inB n 1 9)) ∧ w = w' := by
  go_enter Tryz.func98, Tryz.ntmps98
  go_wp2_with (go_at_call 64; refine (within_c _ _ _ _).mono ?_; rintro e w1 ⟨rfl, rfl⟩)
  go_ret
  exact ⟨rfl, rfl⟩
set_option maxHeartbeats 400000 in
theorem at_c (i n : Int) (w : World) : Calls Tryz.prog 170 #[.int .i64 i, .int .i64 n] w fun e w' => e = .returned (.bool (decide (0 ≤ i) && decide (i < n))) ∧ w = w' := by
  by_cases h : 0 ≤ i
  all_goals
    go_enter Tryz.func170, Tryz.ntmps170
    go_wp2
    go_ret
    exact ⟨ret_eq (bool_eq (by have := h; rw [Bool.eq_iff_iff]; simp <;> omega)), rfl⟩
set_option maxRecDepth 100000 in
set_option maxHeartbeats 400000 in
theorem pick_c (i : Int) (A : Option Addr) (n c : Nat) (xs : List ByteArray) (w : World) (h : Sl w w.heap.size 1 A n (xs.flatMap strC)) (h0 : 0 ≤ i) (h1 : i < n) :
    Calls Tryz.prog 141 #[.int .i64 i, .slice A n c] w fun e w' => e = .returned (.string (xs.getD i.toNat ⟨#[]⟩)) ∧ w = w' := by
  obtain ⟨k, rfl⟩ : ∃ k : Nat, i = k := ⟨i.toNat, by omega⟩
  obtain ⟨b, off, s, rfl, hb, hx, c1⟩ := h.str k (by omega)
  have hg : xs.getD ((k : Int).toNat) ⟨#[]⟩ = s := by rw [Int.toNat_natCast, List.getD_eq_getElem?_getD, hx]; rfl
  rw [hg]
  have Hx := Lib.hid hx; clear hx
  have Hg := Lib.hid hg; clear hg
  go_enter Tryz.func141, Tryz.ntmps141
  go_wp2_with (go_at_call 170; refine (at_c _ _ _).mono ?_; rintro e w1 ⟨rfl, rfl⟩)
  go_ret
  exact ⟨rfl, rfl⟩
def mkTexts : List (List UInt8) := [[], [99, 97, 110, 32, 112, 105, 108, 108, 97, 114, 32, 115, 112, 97, 114], [99, 111, 110, 101, 32, 112, 105, 108, 108, 97, 114, 32, 115, 112, 97, 114], [112, 105, 108, 108, 97, 114, 32, 115, 112, 97, 114], [112, 105, 108, 108, 97, 114, 32, 115, 112, 97, 114],
  [112, 105, 108, 108, 97, 114, 32, 115, 112, 97, 114], [112, 105, 108, 108, 97, 114, 32, 115, 112, 97, 114], [112, 105, 108, 108, 97, 114, 32, 115, 112, 97, 114], [115, 112, 104, 101, 114, 101, 32, 112, 105, 108, 108, 97, 114, 32, 115, 112, 97, 114],
  [99, 97, 110, 32, 99, 111, 110, 101, 32, 112, 105, 108, 108, 97, 114, 32, 115, 112, 97, 114, 32, 115, 112, 104, 101, 114, 101]]
theorem sl_lit (w : World) (L : List (List UInt8)) (m : Nat) (hm : L.length = m) : Sl (w.alloc (.cells ((L.map bs).flatMap strC).toArray 9)) (w.heap.size + 1) 1 (some ⟨w.heap.size, 0, none⟩) m ((L.map bs).flatMap strC) :=
  Sl.new w 9 _ m 1 (by rw [flat_len strC 1 strC_len, List.length_map, hm])
set_option maxRecDepth 100000 in
set_option maxHeartbeats 1000000 in
theorem markColors_c (k : Int) (w : World) (hk : inB k 1 9 = true) : Calls Tryz.prog 99 #[.int .i64 k] w fun e w' => e = .returned (.string (mkCol k)) ∧ Below w.heap.size w w' := by
  have hs := sl_lit w mkCols 10 rfl
  have hb0 : Below w.heap.size w (w.alloc (.cells ((mkCols.map bs).flatMap strC).toArray 9)) := by (repeat (first | (with_reducible assumption) | (with_reducible exact Below.refl _ _) | exact Nat.le_refl _ | exact Below.size (by with_reducible assumption) | (with_reducible refine Below.drew ?_) | (with_reducible refine below_drewN ?_ _) | (with_reducible refine Below.alloc ?_ ?_ _) | (with_reducible refine Below.setCell ?_ ?_ _) | (with_reducible refine le_alloc ?_ _) | (with_reducible refine le_set ?_ _ _) | (with_reducible refine le_drew ?_) | (with_reducible refine le_drewN ?_ _) | omega | (dsimp only; omega)))
  have hv : (mkCols.map bs).getD k.toNat ⟨#[]⟩ = mkCol k := by rcases kind9 hk with rfl | rfl | rfl | rfl | rfl | rfl | rfl | rfl | rfl <;> rfl
  obtain ⟨h1, h2⟩ := inB_iff.1 hk
  have Hv := Lib.hid hv; clear hv
  have Hk := Lib.hid hk; clear hk
  go_enter Tryz.func99, Tryz.ntmps99
  go_wp2_with fail
  refine (pick_c k _ 10 10 (mkCols.map bs) _ (hs.more (by simp)) (by omega) (by omega)).mono ?_
  rw [Hv.out]
  rintro e w1 ⟨rfl, rfl⟩
  go_wp2_with fail
  go_ret
  exact ⟨rfl, hb0⟩
set_option maxRecDepth 100000 in
set_option maxHeartbeats 1000000 in
theorem markTop_c (k : Int) (w : World) (hk : inB k 1 9 = true) : Calls Tryz.prog 102 #[.int .i64 k] w fun e w' => e = .returned (.string (mkTop k)) ∧ Below w.heap.size w w' := by
  have hs := sl_lit w mkTops 10 rfl
  have hb0 : Below w.heap.size w (w.alloc (.cells ((mkTops.map bs).flatMap strC).toArray 9)) := by (repeat (first | (with_reducible assumption) | (with_reducible exact Below.refl _ _) | exact Nat.le_refl _ | exact Below.size (by with_reducible assumption) | (with_reducible refine Below.drew ?_) | (with_reducible refine below_drewN ?_ _) | (with_reducible refine Below.alloc ?_ ?_ _) | (with_reducible refine Below.setCell ?_ ?_ _) | (with_reducible refine le_alloc ?_ _) | (with_reducible refine le_set ?_ _ _) | (with_reducible refine le_drew ?_) | (with_reducible refine le_drewN ?_ _) | omega | (dsimp only; omega)))
  have hv : (mkTops.map bs).getD k.toNat ⟨#[]⟩ = mkTop k := by rcases kind9 hk with rfl | rfl | rfl | rfl | rfl | rfl | rfl | rfl | rfl <;> rfl
  obtain ⟨h1, h2⟩ := inB_iff.1 hk
  have Hv := Lib.hid hv; clear hv
  have Hk := Lib.hid hk; clear hk
  go_enter Tryz.func102, Tryz.ntmps102
  go_wp2_with fail
  refine (pick_c k _ 10 10 (mkTops.map bs) _ (hs.more (by simp)) (by omega) (by omega)).mono ?_
  rw [Hv.out]
  rintro e w1 ⟨rfl, rfl⟩
  go_wp2_with fail
  go_ret
  exact ⟨rfl, hb0⟩
set_option maxRecDepth 100000 in
set_option maxHeartbeats 1000000 in
theorem markShapes_c (k : Int) (w : World) (hk : inB k 1 9 = true) (ht : Tab w) : Calls Tryz.prog 101 #[.int .i64 k] w fun e w' => ∃ A n c, e = .returned (.slice A n c) ∧ n ≤ 5 ∧ Sl w' w'.heap.size 1 A n ((mkShp k).flatMap strC) ∧ Below w.heap.size w w' := by
  have hs := sl_lit w mkTexts 10 rfl
  have hb0 : Below w.heap.size w (w.alloc (.cells ((mkTexts.map bs).flatMap strC).toArray 9)) := by (repeat (first | (with_reducible assumption) | (with_reducible exact Below.refl _ _) | exact Nat.le_refl _ | exact Below.size (by with_reducible assumption) | (with_reducible refine Below.drew ?_) | (with_reducible refine below_drewN ?_ _) | (with_reducible refine Below.alloc ?_ ?_ _) | (with_reducible refine Below.setCell ?_ ?_ _) | (with_reducible refine le_alloc ?_ _) | (with_reducible refine le_set ?_ _ _) | (with_reducible refine le_drew ?_) | (with_reducible refine le_drewN ?_ _) | omega | (dsimp only; omega)))
  obtain ⟨T, hT⟩ : ∃ T, mkTexts.getD k.toNat [] = T := ⟨_, rfl⟩
  have hv : (mkTexts.map bs).getD k.toNat ⟨#[]⟩ = bs T := by rw [← hT]; rcases kind9 hk with rfl | rfl | rfl | rfl | rfl | rfl | rfl | rfl | rfl <;> rfl
  have hTl : T.length ≤ 40 := by rw [← hT]; rcases kind9 hk with rfl | rfl | rfl | rfl | rfl | rfl | rfl | rfl | rfl <;> decide
  have hTa : ∀ b ∈ T, b.toNat < 128 := by rw [← hT]; rcases kind9 hk with rfl | rfl | rfl | rfl | rfl | rfl | rfl | rfl | rfl <;> decide
  have hTf : Lib.fields T = mkShapes.getD k.toNat [] := by rw [← hT]; rcases kind9 hk with rfl | rfl | rfl | rfl | rfl | rfl | rfl | rfl | rfl <;> rfl
  have hd : (bs T).data.toList = T := rfl
  have h5 := mkShp_len hk
  have ht0 := ht.next hb0
  obtain ⟨h1, h2⟩ := inB_iff.1 hk
  have hF : ∀ w1, Tab w1 → Calls Tryz.prog 143 #[.string (bs T)] w1 fun e w' => e = .returned (.slice (some ⟨w1.heap.size, 0, none⟩) (mkShp k).length (mkShp k).length) ∧ w' = w1.alloc (.cells ((mkShp k).flatMap strC).toArray 9) := fun w1 h1 => by
    refine (Tryz.strings_Fields (bs T) w1 (by rw [show (bs T).size = T.length from rfl]; omega) (fun j b hj => hTa b (List.mem_of_getElem? (by rw [← hd]; exact hj))) h1).mono ?_
    rintro e w' ⟨rfl, rfl⟩
    rw [hd, hTf]
    have e1 : (mkShapes.getD k.toNat []).length = (mkShp k).length := by rw [mkShp, List.length_map]
    have e2 : ((mkShapes.getD k.toNat []).map fun l => Value.string ⟨l.toArray⟩) = (mkShp k).flatMap strC := by
      rw [mkShp, List.flatMap_map]
      induction mkShapes.getD k.toNat [] with
      | nil => rfl
      | cons a l ih => rw [List.map_cons, List.flatMap_cons, ih]; rfl
    rw [e1, e2]
    exact ⟨rfl, rfl⟩
  have hS : ∀ w1 : World, Sl (w1.alloc (.cells ((mkShp k).flatMap strC).toArray 9)) (w1.heap.size + 1) 1 (some ⟨w1.heap.size, 0, none⟩) (mkShp k).length ((mkShp k).flatMap strC) := fun w1 => Sl.new w1 9 _ _ 1 (by rw [flat_len strC 1 strC_len])
  have Hv := Lib.hid hv; clear hv
  have Hk := Lib.hid hk; clear hk
  have HT := Lib.hid hT; clear hT
  have HTa := Lib.hid hTa; clear hTa
  have HTf := Lib.hid hTf; clear hTf
  have Hd := Lib.hid hd; clear hd
  have HF := Lib.hid hF; clear hF
  have HS := Lib.hid hS; clear hS
  have Ht0 := Lib.hid ht0; clear ht0
  generalize mkShp k = L at *
  go_enter Tryz.func101, Tryz.ntmps101
  go_wp2_with fail
  refine (pick_c k _ 10 10 (mkTexts.map bs) _ (hs.more (by simp)) (by omega) (by omega)).mono ?_
  rintro e w1 ⟨rfl, rfl⟩
  rw [Hv.out]
  go_wp2_with fail
  refine (HF.out _ Ht0.out).mono ?_
  rintro e w2 ⟨rfl, rfl⟩
  go_wp2_with fail
  go_ret
  have hh := HS.out (w.alloc (.cells ((mkTexts.map bs).flatMap strC).toArray 9))
  simp only [World.size_alloc] at hh
  exact ⟨_, _, _, rfl, h5, hh.more (by simp), by (repeat (first | (with_reducible assumption) | (with_reducible exact Below.refl _ _) | exact Nat.le_refl _ | exact Below.size (by with_reducible assumption) | (with_reducible refine Below.drew ?_) | (with_reducible refine below_drewN ?_ _) | (with_reducible refine Below.alloc ?_ ?_ _) | (with_reducible refine Below.setCell ?_ ?_ _) | (with_reducible refine le_alloc ?_ _) | (with_reducible refine le_set ?_ _ _) | (with_reducible refine le_drew ?_) | (with_reducible refine le_drewN ?_ _) | omega | (dsimp only; omega)))⟩
end Go.Proofs.YtpgcgmbjlecnpaaGreatDoor
