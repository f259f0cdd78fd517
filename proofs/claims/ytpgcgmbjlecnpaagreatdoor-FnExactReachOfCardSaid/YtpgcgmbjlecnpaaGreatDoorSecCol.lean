/- The colors of sectors, both sides. -/
import Derived.Test.YtpgcgmbjlecnpaaGreatDoorAid
import Derived.Test.YtpgcgmbjlecnpaaGreatDoorSecS
import Derived.Test.YtpgcgmbjlecnpaaGreatDoorSecI
import Derived.Lib.OthersKept
namespace Go.Proofs.YtpgcgmbjlecnpaaGreatDoor
open Go.RowKit
def allC : List UInt8 := [87, 82, 71, 89]
def colsN (l : List Sec) (i : Nat) : List UInt8 := (allC.take i).filter fun c => l.any fun s => s.c.toList == [c]
theorem colsN_all (l : List Sec) : colsN l 4 = colsOf l := rfl
theorem colsN_len (l : List Sec) (i : Nat) : (colsN l i).length ≤ 4 := Nat.le_trans (List.length_filter_le _ _) (by rw [List.length_take]; simp [allC]; omega)
theorem colsN_next (l : List Sec) {i : Nat} {c : UInt8} (h : allC[i]? = some c) : colsN l (i + 1) = colsN l i ++ (if (l.any fun s => s.c.toList == [c]) = true then [c] else []) := by
  rw [colsN, colsN, List.take_add_one, h, List.filter_append]
  congr 1
  simp [List.filter_cons]
theorem bs_toList (l : List UInt8) : (bs l).toList = l := by rw [bs, ByteArray.toList_eq]
theorem bs_size (l : List UInt8) : (bs l).size = l.length := by simp [bs, ByteArray.size]
theorem bs_app (a b : List UInt8) : bs a ++ bs b = bs (a ++ b) := by
  apply ByteArray.ext
  simp [bs]
theorem any_yes {l : List Sec} {s : Sec} {c : UInt8} {k : Nat} (hx : l[k]? = some s) (h : (s.c.toList == [c]) = true) : (l.any fun s => s.c.toList == [c]) = true := by
  rw [List.any_eq_true]; exact ⟨s, List.mem_of_getElem? hx, h⟩
theorem any_no {l : List Sec} {c : UInt8} (h : ∀ s ∈ l, (s.c.toList == [c]) = false) : (l.any fun s => s.c.toList == [c]) = false := by
  rw [List.any_eq_false]; intro s hs; rw [h s hs]; simp
set_option maxRecDepth 100000 in
set_option maxHeartbeats 1000000 in
theorem l08Colors_c (A : Option Addr) (n c : Nat) (xs : List Sec) (w : World) (h : Sl w w.heap.size 3 A n (xs.flatMap Sec.cells)) (hm : n ≤ 1048576) :
    Calls Tryz.prog 57 #[.slice A n c] w fun e w' => e = .returned (.string (bs (colsOf xs))) ∧ Below w.heap.size w w' := by
  have hl := h.len Sec.cells 3 Sec.cells_len (by omega)
  have hw0 : Below w.heap.size w (w.alloc (.cells #[.string ⟨#[87]⟩, .string ⟨#[82]⟩, .string ⟨#[71]⟩, .string ⟨#[89]⟩] 9)) := by (repeat (first | (with_reducible assumption) | (with_reducible exact Below.refl _ _) | exact Nat.le_refl _ | exact Below.size (by with_reducible assumption) | (with_reducible refine Below.drew ?_) | (with_reducible refine below_drewN ?_ _) | (with_reducible refine Below.alloc ?_ ?_ _) | (with_reducible refine Below.setCell ?_ ?_ _) | (with_reducible refine le_alloc ?_ _) | (with_reducible refine le_set ?_ _ _) | (with_reducible refine le_drew ?_) | (with_reducible refine le_drewN ?_ _) | omega | (dsimp only; omega)))
  have hL : ∀ j, j < 4 → ∃ c, allC[j]? = some c ∧ (w.alloc (.cells #[.string ⟨#[87]⟩, .string ⟨#[82]⟩, .string ⟨#[71]⟩, .string ⟨#[89]⟩] 9)).cell? ⟨w.heap.size, j, none⟩ = some (.string (bs [c])) := fun j hj => by
    have hb : (w.alloc (.cells #[.string ⟨#[87]⟩, .string ⟨#[82]⟩, .string ⟨#[71]⟩, .string ⟨#[89]⟩] 9)).heap[w.heap.size]? = some (.cells #[.string ⟨#[87]⟩, .string ⟨#[82]⟩, .string ⟨#[71]⟩, .string ⟨#[89]⟩] 9 (0, 0)) := heap_alloc_new w _
    have : j = 0 ∨ j = 1 ∨ j = 2 ∨ j = 3 := by omega
    rcases this with rfl | rfl | rfl | rfl <;> exact ⟨_, rfl, (cell_of_row _ w.heap.size _ _ 9 (0, 0) hb).trans rfl⟩
  obtain ⟨w0, hw⟩ : ∃ w0, w.alloc (.cells #[.string ⟨#[87]⟩, .string ⟨#[82]⟩, .string ⟨#[71]⟩, .string ⟨#[89]⟩] 9) = w0 := ⟨_, rfl⟩
  have hz : w.heap.size < w0.heap.size := by rw [← hw]; simp
  rw [hw] at hL hw0
  have Hl := Lib.hid hl; clear hl
  have HL := Lib.hid hL; clear hL
  go_enter Tryz.func57, Tryz.ntmps57
  go_wp2
  try rw [hw]
  clear hw
  go_loopw [3, 5] (fun t i wr => ∃ (k : Nat) (out : ByteArray), k ≤ 4 ∧ i = .int .i64 k ∧ t = .string out ∧ out = bs (colsN xs k) ∧ Below w0.heap.size w0 wr) (fun _ i _ => 4 - (intOf i).toNat)
  case atStart => exact ⟨0, _, by omega, rfl, rfl, rfl, Below.refl _ _⟩
  case round =>
    obtain ⟨k, out, hk, rfl, rfl, hout, hbw⟩ := hrel
    have hbw0 := hw0.trans (hbw.mono hw0.size)
    have hos : out.size ≤ 4 := by rw [hout, bs_size]; exact colsN_len _ _
    have Hout := Lib.hid hout; clear hout
    by_cases hlt : k < 4
    · obtain ⟨cc, hcc, hcell⟩ := HL.out k hlt
      have hnx := colsN_next xs hcc
      have q1 := keepC hbw w.heap.size hz
      obtain ⟨C, hC⟩ : ∃ C, bs [cc] = C := ⟨_, rfl⟩
      have hCs : C.size = 1 := by rw [← hC]; rfl
      have hCl : C.toList = [cc] := by rw [← hC, bs_toList]
      rw [hC] at hcell
      have hsz : out.size + C.size ≤ 9223372036854775807 := by omega
      have Hcc := Lib.hid hcc; clear hcc
      have HC := Lib.hid hC; clear hC
      have HCs := Lib.hid hCs; clear hCs
      have HCl := Lib.hid hCl; clear hCl
      have Hnx := Lib.hid hnx; clear hnx
      go_wp2
      go_loopw [3, 6] (fun t i wr2 => ∃ j : Nat, j ≤ n ∧ i = .int .i64 j ∧ t = .string out ∧ Hid (∀ s ∈ xs.take j, (s.c.toList == [cc]) = false) ∧ Below w0.heap.size w0 wr2) (fun _ i _ => n - (intOf i).toNat)
      case atStart => exact ⟨0, Nat.zero_le _, rfl, rfl, Lib.hid (by simp), hbw⟩
      case round =>
        clear hbw hbw0 q1
        obtain ⟨j, hj, rfl, rfl, HN, hbw⟩ := hrel
        have hbw0 := hw0.trans (hbw.mono hw0.size)
        have q1 := keepC hbw w.heap.size hz
        by_cases hlj : j < n
        · obtain ⟨b, off, s, rfl, hb, hd, c1, c2, c3⟩ := h.sec j hlj
          have q2 := keepC hbw0 b hb
          have i1 : (j : Int) < (n : Int) := by omega
          have i2 : (0 : Int) ≤ (j : Int) := by omega
          have Hd := Lib.hid hd; clear hd
          cases hst : (s.c.toList == C.toList)
          · go_wp2
            go_quiet (fail)
            go_wp2
            go_roundw
            case rel =>
              refine ⟨j + 1, by omega, by go_num, rfl, Lib.hid (fun t ht => ?_), below_drewN hbw _⟩
              rcases (mem_take_next Hd.out t).1 ht with h2 | h2
              · exact HN.out t h2
              · rw [h2, ← HCl.out]; exact hst
            case measure => simp [intOf]; omega
          · go_wp2
            go_quiet (fail)
            go_wp2
            go_roundw
            case rel =>
              refine ⟨k + 1, out ++ C, by omega, by go_num, rfl, ?_, below_drewN hbw _⟩
              rw [HCl.out] at hst
              rw [Hnx.out, if_pos (any_yes Hd.out hst), Hout.out, ← HC.out, bs_app]
            case measure => simp [intOf]; omega
        · go_wp2
          go_roundw
          case rel =>
            refine ⟨k + 1, out, by omega, by go_num, rfl, ?_, hbw⟩
            have hno := HN.out
            rw [List.take_of_length_le (by rw [Hl.out]; omega)] at hno
            rw [Hnx.out, any_no hno, Hout.out]; simp
          case measure => simp [intOf]; omega
    · obtain rfl : k = 4 := by omega
      go_wp2
      go_ret
      exact ⟨ret_eq (congrArg Value.string (by rw [Hout.out, colsN_all])), hbw0⟩
abbrev wrgy : ByteArray := ⟨#[87, 82, 71, 89]⟩
theorem wrgy_at {k : Nat} (h : k < 4) : ∃ (c : UInt8) (hh : k < wrgy.size), allC[k]? = some c ∧ (wrgy[k]'hh).toNat < 128 ∧ wrgy.extract k (k + 1) = bs [c] ∧ ∀ xs, ¬ c ∈ colsN xs k := by
  have : k = 0 ∨ k = 1 ∨ k = 2 ∨ k = 3 := by omega
  rcases this with rfl | rfl | rfl | rfl
  all_goals
    refine ⟨_, by decide, rfl, by decide, by decide, fun xs hm => ?_⟩
    have := (List.mem_filter.1 hm).1
    revert this
    decide
theorem hasC_one {s C : ByteArray} {c : UInt8} (h : C.toList = [c]) : hasC s C = decide (c ∈ s.toList) := by rw [hasC, h]
theorem iterPos_at {w : World} {g p : Nat} {s : ByteArray} (h : w.heap[g]? = some (.stringIter s p)) : w.iterPos g = p := by simp [World.iterPos, h]
set_option maxRecDepth 100000 in
set_option maxHeartbeats 1000000 in
theorem colorsOf_c (A : Option Addr) (n c : Nat) (xs : List Sec) (w : World) (h : Sl w w.heap.size 3 A n (xs.flatMap Sec.cells)) (hm : n ≤ 1048576) :
    Calls Tryz.prog 78 #[.slice A n c] w fun e w' => e = .returned (.string (bs (colsOf xs))) ∧ Below w.heap.size w w' := by
  have hl := h.len Sec.cells 3 Sec.cells_len (by omega)
  have Hl := Lib.hid hl; clear hl
  go_enter Tryz.func78, Tryz.ntmps78
  go_wp2
  go_loopw [3] (fun t wr => ∃ (k : Nat) (out : ByteArray), k ≤ 4 ∧ t = .string out ∧ out = bs (colsN xs k) ∧ wr.heap[w.heap.size]? = some (.stringIter wrgy k) ∧ Below w.heap.size w wr) (fun _ wr => 4 - wr.iterPos w.heap.size)
  case atStart => exact ⟨0, _, by omega, rfl, rfl, World.iter_heap _ _ _, by unfold World.iter; (repeat (first | (with_reducible assumption) | (with_reducible exact Below.refl _ _) | exact Nat.le_refl _ | exact Below.size (by with_reducible assumption) | (with_reducible refine Below.drew ?_) | (with_reducible refine below_drewN ?_ _) | (with_reducible refine Below.alloc ?_ ?_ _) | (with_reducible refine Below.setCell ?_ ?_ _) | (with_reducible refine le_alloc ?_ _) | (with_reducible refine le_set ?_ _ _) | (with_reducible refine le_drew ?_) | (with_reducible refine le_drewN ?_ _) | omega | (dsimp only; omega)))⟩
  case round =>
    obtain ⟨k, out, hk, rfl, hout, hit, hbw⟩ := hrel
    have hos : out.size ≤ 4 := by rw [hout, bs_size]; exact colsN_len _ _
    have hip := iterPos_at hit
    have Hout := Lib.hid hout; clear hout
    have Hip := Lib.hid hip; clear hip
    by_cases hlt : k < 4
    · obtain ⟨cc, hks, hcc, hasc, hext, hnm⟩ := wrgy_at hlt
      have hnm := hnm xs
      have hnx := colsN_next xs hcc
      have hnt : ∀ ty, (Instr.next (.pointer (some ⟨w.heap.size, 0, none⟩)) true ty).run Tryz.prog wr = _ := fun ty => Lib.run_next_ascii_at wr w.heap.size wrgy k ty hit hks hasc
      have hit1 := Lib.iterAt_heap wr w.heap.size wrgy k (k + 1) hit
      have hbw1 := Lib.below_iterAt hbw (Nat.le_refl _) wrgy (k + 1)
      obtain ⟨C, hC⟩ : ∃ C, bs [cc] = C := ⟨_, rfl⟩
      have hCs : C.size = 1 := by rw [← hC]; rfl
      have hCl : C.toList = [cc] := by rw [← hC, bs_toList]
      rw [hC] at hext
      obtain ⟨w1, hw1⟩ : ∃ w1, wr.iterAt w.heap.size wrgy (k + 1) = w1 := ⟨_, rfl⟩
      rw [hw1] at hit1 hbw1
      have hz1 : w.heap.size < w1.heap.size := (Array.getElem?_eq_some_iff.1 hit1).1
      have Hcc := Lib.hid hcc; clear hcc
      have HC := Lib.hid hC; clear hC
      have HCl := Lib.hid hCl; clear hCl
      have Hnx := Lib.hid hnx; clear hnx
      have Hnm := Lib.hid hnm; clear hnm
      have Hasc := Lib.hid hasc; clear hasc
      have Hit1 := Lib.hid hit1; clear hit1
      have HCs := Lib.hid hCs; clear hCs
      have hW := Lib.hid hw1
      go_wp2
      try rw [hw1]
      clear hw1 hnt hit hbw
      go_loopw [3, 14] (fun t i wr2 => ∃ (j : Nat) (o2 : ByteArray), j ≤ n ∧ i = .int .i64 j ∧ t = .string o2 ∧ o2 = bs (colsN xs k ++ (if ((xs.take j).any fun s => s.c.toList == [cc]) = true then [cc] else [])) ∧ Below w1.heap.size w1 wr2) (fun _ i _ => n - (intOf i).toNat)
      case atStart => exact ⟨0, out, Nat.zero_le _, rfl, rfl, by rw [Hout.out]; simp, Below.refl _ _⟩
      case round =>
        obtain ⟨j, o2, hj, rfl, rfl, ho2, hb2⟩ := hrel
        have hbw := hbw1.trans (hb2.mono hbw1.size)
        have ho2s : o2.size ≤ 5 := by
          have := colsN_len xs k
          rw [ho2, bs_size, List.length_append]; split <;> simp <;> omega
        have ho2l : o2.toList = colsN xs k ++ (if ((xs.take j).any fun s => s.c.toList == [cc]) = true then [cc] else []) := by rw [ho2, bs_toList]
        have Ho2 := Lib.hid ho2; clear ho2
        have Ho2l := Lib.hid ho2l; clear ho2l
        by_cases hlj : j < n
        · obtain ⟨b, off, s, rfl, hb, hd, c1, c2, c3⟩ := h.sec j hlj
          have q2 := keepC hbw b hb
          have i1 : (j : Int) < (n : Int) := by omega
          have i2 : (0 : Int) ≤ (j : Int) := by omega
          have htk : ((xs.take (j + 1)).any fun s => s.c.toList == [cc]) = (((xs.take j).any fun s => s.c.toList == [cc]) || (s.c.toList == [cc])) := by
            rw [List.take_add_one, hd]; simp
          have hsz : o2.size + C.size ≤ 9223372036854775807 := by have := HCs.out; omega
          have Hd := Lib.hid hd; clear hd
          have Htk := Lib.hid htk; clear htk
          cases hst : (s.c.toList == C.toList)
          · go_wp2
            go_roundw
            case rel =>
              refine ⟨j + 1, o2, by omega, by go_num, rfl, ?_, by (repeat (first | (with_reducible assumption) | (with_reducible exact Below.refl _ _) | exact Nat.le_refl _ | exact Below.size (by with_reducible assumption) | (with_reducible refine Below.drew ?_) | (with_reducible refine below_drewN ?_ _) | (with_reducible refine Below.alloc ?_ ?_ _) | (with_reducible refine Below.setCell ?_ ?_ _) | (with_reducible refine le_alloc ?_ _) | (with_reducible refine le_set ?_ _ _) | (with_reducible refine le_drew ?_) | (with_reducible refine le_drewN ?_ _) | omega | (dsimp only; omega)))⟩
              rw [HCl.out] at hst
              rw [Htk.out, hst, Bool.or_false]; exact Ho2.out
            case measure => simp [intOf]; omega
          · cases hany : ((xs.take j).any fun s => s.c.toList == [cc])
            · have hh : hasC o2 C = false := by
                rw [hasC_one HCl.out, Ho2l.out, hany]
                simpa using Hnm.out
              have Hany := Lib.hid hany; clear hany
              go_wp2_with (go_at_call 122; refine (contains1_c _ C _ HCs.out).mono ?_; rintro e w4 ⟨rfl, rfl⟩)
              go_roundw
              case rel =>
                refine ⟨j + 1, o2 ++ C, by omega, by go_num, rfl, ?_, by (repeat (first | (with_reducible assumption) | (with_reducible exact Below.refl _ _) | exact Nat.le_refl _ | exact Below.size (by with_reducible assumption) | (with_reducible refine Below.drew ?_) | (with_reducible refine below_drewN ?_ _) | (with_reducible refine Below.alloc ?_ ?_ _) | (with_reducible refine Below.setCell ?_ ?_ _) | (with_reducible refine le_alloc ?_ _) | (with_reducible refine le_set ?_ _ _) | (with_reducible refine le_drew ?_) | (with_reducible refine le_drewN ?_ _) | omega | (dsimp only; omega)))⟩
                rw [HCl.out] at hst
                have ho := Ho2.out
                rw [Hany.out] at ho
                rw [Htk.out, hst, Bool.or_true, ho, ← HC.out, bs_app]; simp
              case measure => simp [intOf]; omega
            · have hh : hasC o2 C = true := by
                rw [hasC_one HCl.out, Ho2l.out, hany]
                simp
              have Hany := Lib.hid hany; clear hany
              go_wp2_with (go_at_call 122; refine (contains1_c _ C _ HCs.out).mono ?_; rintro e w4 ⟨rfl, rfl⟩)
              go_roundw
              case rel =>
                refine ⟨j + 1, o2, by omega, by go_num, rfl, ?_, by (repeat (first | (with_reducible assumption) | (with_reducible exact Below.refl _ _) | exact Nat.le_refl _ | exact Below.size (by with_reducible assumption) | (with_reducible refine Below.drew ?_) | (with_reducible refine below_drewN ?_ _) | (with_reducible refine Below.alloc ?_ ?_ _) | (with_reducible refine Below.setCell ?_ ?_ _) | (with_reducible refine le_alloc ?_ _) | (with_reducible refine le_set ?_ _ _) | (with_reducible refine le_drew ?_) | (with_reducible refine le_drewN ?_ _) | omega | (dsimp only; omega)))⟩
                have ho := Ho2.out
                rw [Hany.out] at ho
                rw [Htk.out, Hany.out, Bool.true_or]; exact ho
              case measure => simp [intOf]; omega
        · obtain rfl : j = n := by omega
          have hitr : wr.heap[w.heap.size]? = some (.stringIter wrgy (k + 1)) := (hb2.block _ hz1).trans Hit1.out
          have hips := iterPos_at hitr
          go_wp2
          go_roundw
          case rel =>
            refine ⟨k + 1, o2, by omega, rfl, ?_, hitr, hbw⟩
            have ho := Ho2.out
            rw [List.take_of_length_le (by rw [Hl.out]; exact Nat.le_refl _)] at ho
            rw [Hnx.out]; exact ho
          case measure =>
            have := Hip.out
            omega
    · obtain rfl : k = 4 := by omega
      have hnt : ∀ ty, (Instr.next (.pointer (some ⟨w.heap.size, 0, none⟩)) true ty).run Tryz.prog wr = _ := fun ty => Lib.run_next_end_at wr w.heap.size wrgy 4 ty hit (by decide)
      go_wp2
      go_ret
      exact ⟨ret_eq (congrArg Value.string (by rw [Hout.out, colsN_all])), hbw⟩
end Go.Proofs.YtpgcgmbjlecnpaaGreatDoor
