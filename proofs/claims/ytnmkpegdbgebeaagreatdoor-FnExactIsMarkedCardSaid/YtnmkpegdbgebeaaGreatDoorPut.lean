/- A number put to its place among rising ones: the reference's l00Put. -/
import Derived.Test.YtnmkpegdbgebeaaGreatDoorApp
import Derived.Test.YtnmkpegdbgebeaaGreatDoorIntS
namespace Go.Proofs.YtnmkpegdbgebeaaGreatDoor
open Go.RowKit
def putL : List Int → Int → List Int
  | [], n => [n]
  | x :: r, n => if x < n then x :: putL r n else if x = n then x :: r else n :: x :: r
theorem putL_len : ∀ (l : List Int) (n : Int), (putL l n).length ≤ l.length + 1
  | [], n => by simp [putL]
  | x :: r, n => by
    have := putL_len r n
    rw [putL]
    split
    · simp only [List.length_cons]; omega
    · split <;> simp
set_option maxRecDepth 100000 in
set_option maxHeartbeats 2000000 in
theorem l00Put_c (A : Option Addr) (n c : Nat) (xs : List Int) (v : Int) (w : World) (h : Sl w w.heap.size 1 A n (xs.flatMap intC)) (hm : n ≤ 1000) :
    Calls Tryz.prog 87 #[.slice A n c, .int .i64 v] w fun e w' => ∃ r, e = .returned r ∧ w'.ownsRow w.heap.size 2 1 r (putL xs v).length ((putL xs v).flatMap intC) ∧ Below w.heap.size w w' := by
  obtain ⟨p0, hp, hy0, hy1, hy2⟩ := info_parts intInfo
  have hl := h.len intC 1 (fun _ => rfl) (by omega)
  have hov := World.ownsRow_made (base := w.heap.size) (e := 2) (size := 1) w #[] 0 (Nat.le_refl _) (by simp [maxLen]) rfl
  have hbv : Below w.heap.size w (w.alloc (.cells #[] 2)) := (Below.refl _ _).alloc (Nat.le_refl _) _
  have Hl := Lib.hid hl; clear hl
  go_enter Tryz.func87, Tryz.ntmps87
  go_wp2_with fail
  go_loopw [5, 6, 7] (fun y q i wr => ∃ (k : Nat) (out : List Int) (D : Bool), k ≤ n ∧ i = .int .i64 k ∧ q = .bool D ∧ Hid (putL xs v = out ++ (if D then xs.drop k else putL (xs.drop k) v)) ∧ out.length ≤ k + D.toNat ∧ wr.ownsRow w.heap.size 2 1 y out.length (out.flatMap intC) ∧ Below w.heap.size w wr) (fun _ _ i _ => n - (intOf i).toNat)
  case atStart => exact ⟨0, [], false, Nat.zero_le _, rfl, rfl, Lib.hid (by simp), by simp, hov, hbv⟩
  case round =>
    clear hov hbv
    obtain ⟨k, out, D, hk, rfl, rfl, Hp, ho, hov, hbw⟩ := hrel
    obtain ⟨A3, c3, rfl⟩ := own_slice hov
    have hDb : D.toNat ≤ 1 := by cases D <;> decide
    by_cases hlt : k < n
    · obtain ⟨b, off, x, rfl, hb, hx, cx⟩ := h.int k hlt
      have q := keepC hbw b hb
      have i0 : (0 : Int) ≤ (k : Int) := by omega
      have i1 : (k : Int) < (n : Int) := by omega
      have hd : xs.drop k = x :: xs.drop (k + 1) := by
        obtain ⟨hk2, e⟩ := List.getElem?_eq_some_iff.1 hx
        rw [List.drop_eq_getElem_cons hk2, e]
      have e63 : out.length + 1 ≤ maxLen := by unfold maxLen; omega
      have e32 : (out.length + 1) * 8 ≤ 140737488355328 := by omega
      have f63 : out.length + 1 + 1 ≤ maxLen := by unfold maxLen; omega
      have f32 : (out.length + 1 + 1) * 8 ≤ 140737488355328 := by omega
      have Hd := Lib.hid hd; clear hd
      have Hx := Lib.hid hx; clear hx
      have E63 := Lib.hid e63; clear e63
      have E32 := Lib.hid e32; clear e32
      have F63 := Lib.hid f63; clear f63
      have F32 := Lib.hid f32; clear f32
      cases D with
      | true =>
        simp only [Bool.toNat_true] at ho
        go_wp2_with (at_builtin; refine wpl_append _ rfl (.tmp 35) (.tmp 40) _ rfl (w.heap.size) 2 p0 _ 1 8 Tryz.underlying28 hp hy0 hy1 hy2 rfl (by omega) _ (out.length) _ rfl ((hov).alloc _) ((wr).heap.size + 1) (some ⟨(wr).heap.size, 0, none⟩) 1 1 (intC (x)) rfl (Sl.new (wr) 2 _ 1 1 rfl) (intC_one _) E63.out E32.out (le_alloc hbw.size _) ?_; intro v4 w4 ho4 hg4 hat4)
        go_roundw
        case rel =>
          refine ⟨k + 1, (out ++ [x]), true, by omega, by go_num, rfl, Lib.hid ?_, ?_, ?_, ?_⟩
          · have := Hp.out
            rw [if_pos rfl, Hd.out] at this
            rw [this]; simp
          · simp; omega
          · rw [List.flatMap_append]; simpa using ho4
          · exact (hbw.alloc hbw.size _).grown hg4 (le_alloc hbw.size _) fun g hg => (hov.lt g hg).1
        case measure => simp [intOf]; omega
      | false =>
        simp only [Bool.toNat_false] at ho
        have hpp := Hp.out
        rw [Hd.out] at hpp
        simp only [Bool.false_eq_true, if_false, putL] at hpp
        rcases Int.lt_trichotomy x v with hc | hc | hc
        · rw [if_pos hc] at hpp
          have Hpp := Lib.hid hpp; clear hpp
          go_wp2_with (at_builtin; refine wpl_append _ rfl (.tmp 35) (.tmp 40) _ rfl (w.heap.size) 2 p0 _ 1 8 Tryz.underlying28 hp hy0 hy1 hy2 rfl (by omega) _ (out.length) _ rfl ((hov).alloc _) ((wr).heap.size + 1) (some ⟨(wr).heap.size, 0, none⟩) 1 1 (intC (x)) rfl (Sl.new (wr) 2 _ 1 1 rfl) (intC_one _) E63.out E32.out (le_alloc hbw.size _) ?_; intro v4 w4 ho4 hg4 hat4)
          go_roundw
          case rel =>
            refine ⟨k + 1, (out ++ [x]), false, by omega, by go_num, rfl, Lib.hid ?_, ?_, ?_, ?_⟩
            · rw [Hpp.out]; simp
            · simp; omega
            · rw [List.flatMap_append]; simpa using ho4
            · exact (hbw.alloc hbw.size _).grown hg4 (le_alloc hbw.size _) fun g hg => (hov.lt g hg).1
          case measure => simp [intOf]; omega
        · rw [if_neg (by omega), if_pos hc] at hpp
          have Hpp := Lib.hid hpp; clear hpp
          have hc1 : ¬ x < v := by omega
          have hc2 : ¬ v < x := by omega
          subst hc
          go_wp2_with (at_builtin; refine wpl_append _ rfl (.tmp 35) (.tmp 40) _ rfl (w.heap.size) 2 p0 _ 1 8 Tryz.underlying28 hp hy0 hy1 hy2 rfl (by omega) _ (out.length) _ rfl ((hov).alloc _) ((wr).heap.size + 1) (some ⟨(wr).heap.size, 0, none⟩) 1 1 (intC (x)) rfl (Sl.new (wr) 2 _ 1 1 rfl) (intC_one _) E63.out E32.out (le_alloc hbw.size _) ?_; intro v4 w4 ho4 hg4 hat4)
          go_roundw
          case rel =>
            refine ⟨k + 1, (out ++ [x]), true, by omega, by go_num, rfl, Lib.hid ?_, ?_, ?_, ?_⟩
            · rw [Hpp.out]; simp
            · simp; omega
            · rw [List.flatMap_append]; simpa using ho4
            · exact (hbw.alloc hbw.size _).grown hg4 (le_alloc hbw.size _) fun g hg => (hov.lt g hg).1
          case measure => simp [intOf]; omega
        · rw [if_neg (by omega), if_neg (by omega)] at hpp
          have Hpp := Lib.hid hpp; clear hpp
          have hc1 : ¬ x < v := by omega
          go_wp2_with ((at_builtin; refine wpl_append _ rfl (.tmp 31) (.tmp 33) _ rfl (w.heap.size) 2 p0 _ 1 8 Tryz.underlying28 hp hy0 hy1 hy2 rfl (by omega) _ (out.length) _ rfl ((hov).alloc _) ((wr).heap.size + 1) (some ⟨(wr).heap.size, 0, none⟩) 1 1 (intC (v)) rfl (Sl.new (wr) 2 _ 1 1 rfl) (intC_one _) E63.out E32.out (le_alloc hbw.size _) ?_; intro v4 w4 ho4 hg4 hat4); refine Hid.out ?_)
          refine Lib.hid ?_
          have hbw4 := (hbw.alloc hbw.size _).grown hg4 (le_alloc hbw.size _) fun g hg => (hov.lt g hg).1
          have ho5 : w4.ownsRow w.heap.size 2 1 v4 (out.length + 1) ((out ++ [v]).flatMap intC) := by
            rw [List.flatMap_append]; simpa using ho4
          obtain ⟨A5, c5, rfl⟩ := own_slice ho5
          have q5 := keepC hbw4 b hb
          clear ho4 hg4 hat4 q
          go_wp2_with (at_builtin; refine wpl_append _ rfl (.tmp 35) (.tmp 40) _ rfl (w.heap.size) 2 p0 _ 1 8 Tryz.underlying28 hp hy0 hy1 hy2 rfl (by omega) _ ((out.length + 1)) _ rfl ((ho5).alloc _) ((w4).heap.size + 1) (some ⟨(w4).heap.size, 0, none⟩) 1 1 (intC (x)) rfl (Sl.new (w4) 2 _ 1 1 rfl) (intC_one _) F63.out F32.out (le_alloc hbw4.size _) ?_; intro v6 w6 ho6 hg6 hat6)
          go_roundw
          case rel =>
            refine ⟨k + 1, (out ++ [v] ++ [x]), true, by omega, by go_num, rfl, Lib.hid ?_, ?_, ?_, ?_⟩
            · rw [Hpp.out]; simp
            · simp; omega
            · rw [List.flatMap_append]; simpa using ho6
            · exact (hbw4.alloc hbw4.size _).grown hg6 (le_alloc hbw4.size _) fun g hg => (ho5.lt g hg).1
          case measure => simp [intOf]; omega
    · obtain rfl : k = n := by omega
      have hdn : xs.drop k = [] := List.drop_of_length_le (by rw [Hl.out]; omega)
      have hpp := Hp.out
      rw [hdn] at hpp
      have e63 : out.length + 1 ≤ maxLen := by unfold maxLen; omega
      have e32 : (out.length + 1) * 8 ≤ 140737488355328 := by omega
      have Hdn := Lib.hid hdn; clear hdn
      have E63 := Lib.hid e63; clear e63
      have E32 := Lib.hid e32; clear e32
      cases D with
      | true =>
        rw [if_pos rfl, List.append_nil] at hpp
        have Hpp := Lib.hid hpp; clear hpp
        go_wp2_with fail
        go_ret
        refine ⟨_, rfl, ?_, hbw⟩
        rw [Hpp.out]
        exact hov
      | false =>
        simp only [Bool.false_eq_true, if_false, putL] at hpp
        have Hpp := Lib.hid hpp; clear hpp
        go_wp2_with (at_builtin; refine wpl_append _ rfl (.tmp 44) (.tmp 46) _ rfl (w.heap.size) 2 p0 _ 1 8 Tryz.underlying28 hp hy0 hy1 hy2 rfl (by omega) _ (out.length) _ rfl ((hov).alloc _) ((wr).heap.size + 1) (some ⟨(wr).heap.size, 0, none⟩) 1 1 (intC (v)) rfl (Sl.new (wr) 2 _ 1 1 rfl) (intC_one _) E63.out E32.out (le_alloc hbw.size _) ?_; intro v4 w4 ho4 hg4 hat4)
        go_ret
        refine ⟨_, rfl, ?_, (hbw.alloc hbw.size _).grown hg4 (le_alloc hbw.size _) fun g hg => (hov.lt g hg).1⟩
        rw [Hpp.out, List.flatMap_append]
        simpa using ho4
end Go.Proofs.YtnmkpegdbgebeaaGreatDoor
