/- Rhythms that fit a mark: the program: its parts. -/
import Derived.Test.YtomjdkjkdmieaaaDoorRhP
import Derived.Test.YtomjdkjkdmieaaaDoorChTxX
namespace Go.Proofs.YtomjdkjkdmieaaaDoor
open Go.RowKit
def hasT (l : List ByteArray) (s : ByteArray) : Bool := l.any fun t => t.toList == s.toList
theorem hasT_no {l : List ByteArray} {s : ByteArray} (h : ∀ t ∈ l, (t.toList == s.toList) = false) : hasT l s = false := by
  rw [hasT, List.any_eq_false]; intro t ht; rw [h t ht]; simp
theorem hasT_yes {l : List ByteArray} {s t : ByteArray} (ht : t ∈ l) (h : (t.toList == s.toList) = true) : hasT l s = true := by
  rw [hasT, List.any_eq_true]; exact ⟨t, ht, h⟩
set_option maxRecDepth 100000 in
set_option maxHeartbeats 400000 in
theorem indexT_c (A : Option Addr) (n c : Nat) (xs : List ByteArray) (s : ByteArray) (w : World) (h : Sl w w.heap.size 1 A n (xs.flatMap strC)) (hm : n ≤ 1000000) :
    Calls Tryd.prog 60 #[.slice A n c, .string s] w fun e w' => ∃ r : Int, e = .returned (.int .i64 r) ∧ decide (0 ≤ r) = hasT xs s ∧ w = w' := by
  have hl := h.len strC 1 strC_len (by omega)
  have Hl := Lib.hid hl; clear hl
  go_enter Tryd.func60, Tryd.ntmps60
  go_wp2
  go_loop [8] (fun i => ∃ k : Nat, k ≤ n ∧ i = .int .i64 k ∧ Hid (∀ t ∈ xs.take k, (t.toList == s.toList) = false)) (fun i => n - (intOf i).toNat)
  case atStart => exact ⟨0, Nat.zero_le _, rfl, Lib.hid (by simp)⟩
  case round =>
    obtain ⟨k, hk, rfl, HN⟩ := hrel
    by_cases hlt : k < n
    · obtain ⟨b, off, x, rfl, hb, hx, c1⟩ := h.str k hlt
      have Hx := Lib.hid hx; clear hx
      cases hst : (s.toList == x.toList)
      · go_wp2
        go_round
        case rel =>
          refine ⟨k + 1, by omega, by go_num, Lib.hid (fun t ht => ?_)⟩
          rcases (mem_take_next Hx.out t).1 ht with h2 | h2
          · exact HN.out t h2
          · rw [h2, Bool.eq_false_iff]; intro h3
            have h4 : x.toList = s.toList := by simpa using h3
            rw [h4] at hst; simp at hst
        case measure => simp [intOf]; omega
      · have hh : hasT xs s = true := hasT_yes (List.mem_of_getElem? Hx.out) (by rw [beq_iff_eq] at hst ⊢; exact hst.symm)
        have Hh := Lib.hid hh; clear hh
        go_wp2
        go_ret
        exact ⟨_, rfl, by rw [Hh.out]; simp, rfl⟩
    · have hh : hasT xs s = false := hasT_no (fun t ht => HN.out t (by rw [List.take_of_length_le (by rw [Hl.out]; omega)]; exact ht))
      have Hh := Lib.hid hh; clear hh
      go_wp2
      go_ret
      exact ⟨-1, rfl, by rw [Hh.out]; simp, rfl⟩
set_option maxHeartbeats 400000 in
theorem containsT_c (A : Option Addr) (n c : Nat) (xs : List ByteArray) (s : ByteArray) (w : World) (h : Sl w w.heap.size 1 A n (xs.flatMap strC)) (hm : n ≤ 1000000) :
    Calls Tryd.prog 40 #[.slice A n c, .string s] w fun e w' => e = .returned (.bool (hasT xs s)) ∧ w = w' := by
  go_enter Tryd.func40, Tryd.ntmps40
  go_wp2_with fail
  refine (indexT_c A n c xs s _ h hm).mono ?_
  rintro e w1 ⟨r, rfl, hr, rfl⟩
  have Hr := Lib.hid hr; clear hr
  go_wp2_with fail
  go_ret
  exact ⟨ret_eq (bool_eq Hr.out), rfl⟩
set_option maxRecDepth 100000 in
set_option maxHeartbeats 1000000 in
theorem isOneOf_c (A : Option Addr) (n c : Nat) (TA : Option Addr) (m mc : Nat) (ts : List ByteArray) (x : Ch) (w : World) (sl : Sl w w.heap.size 1 A n (x.gs.flatMap intC)) (hn : n ≤ 1048576) (hlz : x.l.size ≤ 1048576) (hs : x.cs.size ≤ 1048576) (hts : Sl w w.heap.size 1 TA m (ts.flatMap strC)) (hm : m ≤ 1000000) (ht : Tab10 w) :
    Calls Tryd.prog 22 #[chV x.k A n c x.l x.cs x.p, .slice TA m mc] w fun e w' => e = .returned (.bool (hasT ts (charX x))) ∧ Below w.heap.size w w' := by
  have hb0 : Below w.heap.size w (w.alloc (chOT A n c x 27)) := by (repeat (first | (with_reducible assumption) | (with_reducible exact Below.refl _ _) | exact Nat.le_refl _ | exact Below.size (by with_reducible assumption) | (with_reducible refine Below.drew ?_) | (with_reducible refine below_drewN ?_ _) | (with_reducible refine Below.alloc ?_ ?_ _) | (with_reducible refine Below.setCell ?_ ?_ _) | (with_reducible refine le_alloc ?_ _) | (with_reducible refine le_set ?_ _ _) | (with_reducible refine le_drew ?_) | (with_reducible refine le_drewN ?_ _) | omega | (dsimp only; omega)))
  obtain ⟨c0, c1, c2, c3, c4, hba, -, -, -, -⟩ := chp_box (c := c) 27 sl hn hlz hs
  simp only [Nat.zero_add] at c1 c2 c3 c4
  obtain ⟨w0, hw⟩ : ∃ w0, w.alloc (chOT A n c x 27) = w0 := ⟨_, rfl⟩
  rw [hw] at hb0 c0 c1 c2 c3 c4 hba
  have hT := implText_c A n c x w0 (sl.next hb0) hn hlz hs (ht.next hb0)
  obtain ⟨S, hS⟩ : ∃ S, charX x = S := ⟨_, rfl⟩
  rw [hS] at hT ⊢
  have hts0 := hts.next hb0
  have HT := Lib.hid hT; clear hT
  have Hts := Lib.hid hts0; clear hts0
  clear hS hts ht
  go_enter Tryd.func22, Tryd.ntmps22
  go_wp2_with fail
  try rw [hw]
  clear hw
  refine HT.out.mono ?_
  rintro e w1 ⟨rfl, hb1⟩
  go_wp2_with fail
  refine (containsT_c TA m mc ts S _ (Hts.out.next hb1) hm).mono ?_
  rintro e w2 ⟨rfl, rfl⟩
  go_wp2_with fail
  go_ret
  exact ⟨rfl, hb0.trans (hb1.mono hb0.size)⟩
def tx3 : List (List UInt8) := [[81, 32, 87], [86, 81, 32, 87]]
def tx4 : List (List UInt8) := [[81, 40, 51, 41, 32, 87, 32, 49, 48, 115], [86, 81, 40, 51, 41, 32, 87, 32, 53, 115]]
def tx5 : List (List UInt8) := [[81, 40, 54, 41, 43, 76, 70, 108, 32, 87, 32, 49, 53, 115], [86, 81, 40, 54, 41, 43, 76, 70, 108, 32, 87, 32, 49, 48, 115]]
def tx6 : List (List UInt8) := [[81, 40, 57, 41, 32, 87, 32, 49, 53, 115], [86, 81, 40, 57, 41, 32, 87, 32, 49, 48, 115]]
def tx8 : List (List UInt8) := [[76, 70, 108, 32, 87, 32, 49, 48, 115]]
def oneT (L : List (List UInt8)) (x : Ch) : Bool := hasT (L.map kbs) (charX x)
def fitI (k : Int) (x : Ch) : Bool :=
  if k = 0 then true else if k = 1 then x.cs.toList == [82] else if k = 2 then x.cs.toList == [71] else if k = 3 then oneT tx3 x else if k = 4 then oneT tx4 x else if k = 5 then oneT tx5 x else if k = 6 then oneT tx6 x
  else if k = 7 then (x.cs.toList == [87]) && (x.k == 4 && decide (x.gs = [2])) else if k = 8 then (x.cs.toList == [87]) && (x.k == 3 || (x.k == 2 || (oneT tx8 x || (x.k == 8 && x.l.toList == [65]))))
  else if k = 9 then x.cs.toList == [89] else false
end Go.Proofs.YtomjdkjkdmieaaaDoor
