/- The text of a duty: both sides. -/
import Derived.Test.YtgcfmmcdecabpaaDoorDecS
import Derived.Test.YtgcfmmcdecabpaaDoorDuty1
import Derived.Test.YtgcfmmcdecabpaaDoorSmall
import Derived.Test.YtgcfmmcdecabpaaDoorName
import Derived.Lib.ItoaLen
namespace Go.Proofs.YtgcfmmcdecabpaaDoor
open Go.RowKit
def dutyB (d : Duty) : Bool := nameB d.keeper && (inB d.fr 0 143999999 && (inB d.un 0 143999999 && inB (d.un - d.fr) 1 720))
def dutyT (d : Duty) : ByteArray := d.keeper ++ ⟨#[32]⟩ ++ decB d.fr ++ ⟨#[32]⟩ ++ decB d.un
def dutyX (d : Duty) : ByteArray := if dutyB d then dutyT d else ⟨#[]⟩
abbrev dutyO (d : Duty) (E : TypeId) : Obj := .cells #[.string d.keeper, .int .i64 d.fr, .int .i64 d.un] E
structure DutyP (w : World) (b : Nat) (d : Duty) : Prop where
  c0 : w.cell? ⟨b, 0, none⟩ = some (.string d.keeper)
  c1 : w.cell? ⟨b, 1, none⟩ = some (.int .i64 d.fr)
  c2 : w.cell? ⟨b, 2, none⟩ = some (.int .i64 d.un)
  hb : b < w.heap.size
theorem DutyP.next {w w' : World} {b : Nat} {d : Duty} (h : DutyP w b d) (hb : Below w.heap.size w w') : DutyP w' b d :=
  have k := keepC hb b h.hb
  ⟨(k _).trans h.c0, (k _).trans h.c1, (k _).trans h.c2, Nat.lt_of_lt_of_le h.hb hb.size⟩
theorem DutyP.box (w : World) (d : Duty) (E : TypeId) : DutyP (w.alloc (dutyO d E)) w.heap.size d :=
  have hb : (w.alloc (dutyO d E)).heap[w.heap.size]? = some (.cells #[.string d.keeper, .int .i64 d.fr, .int .i64 d.un] E (0, 0)) := heap_alloc_new w _
  ⟨(cell_of_row _ w.heap.size _ _ E (0, 0) hb).trans rfl, (cell_of_row _ w.heap.size _ _ E (0, 0) hb).trans rfl, (cell_of_row _ w.heap.size _ _ E (0, 0) hb).trans rfl, by simp⟩
theorem decB_len (n : Int) (h0 : -9223372036854775808 ≤ n) (h1 : n ≤ 9223372036854775807) : (decB n).size ≤ 21 := by
  have := Lib.itoa_length_le n h0 h1
  simpa [decB, ByteArray.size] using this
theorem dutyB_bd {d : Duty} (h : dutyB d = true) : d.keeper.size ≤ 10 ∧ 0 ≤ d.fr ∧ d.fr ≤ 143999999 ∧ 0 ≤ d.un ∧ d.un ≤ 143999999 := by
  simp only [dutyB, Bool.and_eq_true, inB_iff, nameB_iff] at h
  omega
set_option maxRecDepth 100000 in
set_option maxHeartbeats 1000000 in
theorem isDuty_c (d : Duty) (w : World) (hn : d.keeper.size ≤ maxLen) :
    Calls Tryd.prog 18 #[d.val] w fun e w' => e = .returned (.bool (dutyB d)) ∧ Below w.heap.size w w' := by
  have hb0 : Below w.heap.size w (w.alloc (dutyO d 23)) := by (repeat (first | (with_reducible assumption) | (with_reducible exact Below.refl _ _) | exact Nat.le_refl _ | exact Below.size (by with_reducible assumption) | (with_reducible refine Below.drew ?_) | (with_reducible refine below_drewN ?_ _) | (with_reducible refine Below.alloc ?_ ?_ _) | (with_reducible refine Below.setCell ?_ ?_ _) | (with_reducible refine le_alloc ?_ _) | (with_reducible refine le_set ?_ _ _) | (with_reducible refine le_drew ?_) | (with_reducible refine le_drewN ?_ _) | omega | (dsimp only; omega)))
  have hv : dutyB d = (nameB d.keeper && (inB d.fr 0 143999999 && (inB d.un 0 143999999 && inB (d.un - d.fr) 1 720))) := rfl
  rw [hv]
  have p1 := DutyP.box w d 23
  obtain ⟨w0, hw⟩ : ∃ w0, w.alloc (dutyO d 23) = w0 := ⟨_, rfl⟩
  rw [hw] at hb0 p1
  obtain ⟨c0, c1, c2, hz⟩ := id p1
  have Hv := Lib.hid hv; clear hv
  cases h1 : nameB d.keeper
  · go_enter Tryd.func18, Tryd.ntmps18
    go_wp2_with fail
    try rw [hw]
    clear hw
    refine (isName_c _ _ hn).mono ?_
    rw [h1]
    rintro e w1 ⟨rfl, rfl⟩
    go_wp2_with fail
    go_ret
    exact ⟨rfl, hb0⟩
  cases h2 : inB d.fr 0 143999999
  · go_enter Tryd.func18, Tryd.ntmps18
    go_wp2_with fail
    try rw [hw]
    clear hw
    refine (isName_c _ _ hn).mono ?_
    rw [h1]
    rintro e w1 ⟨rfl, rfl⟩
    go_wp2_with fail
    refine (isTime_c _ _).mono ?_
    rw [h2]
    rintro e w1 ⟨rfl, rfl⟩
    go_wp2_with fail
    go_ret
    exact ⟨rfl, hb0⟩
  cases h3 : inB d.un 0 143999999
  · go_enter Tryd.func18, Tryd.ntmps18
    go_wp2_with fail
    try rw [hw]
    clear hw
    refine (isName_c _ _ hn).mono ?_
    rw [h1]
    rintro e w1 ⟨rfl, rfl⟩
    go_wp2_with fail
    refine (isTime_c _ _).mono ?_
    rw [h2]
    rintro e w1 ⟨rfl, rfl⟩
    go_wp2_with fail
    refine (isTime_c _ _).mono ?_
    rw [h3]
    rintro e w1 ⟨rfl, rfl⟩
    go_wp2_with fail
    go_ret
    exact ⟨rfl, hb0⟩
  · have h2' := inB_iff.1 h2
    have h3' := inB_iff.1 h3
    go_enter Tryd.func18, Tryd.ntmps18
    go_wp2_with fail
    try rw [hw]
    clear hw
    refine (isName_c _ _ hn).mono ?_
    rw [h1]
    rintro e w1 ⟨rfl, rfl⟩
    go_wp2_with fail
    refine (isTime_c _ _).mono ?_
    rw [h2]
    rintro e w1 ⟨rfl, rfl⟩
    go_wp2_with fail
    refine (isTime_c _ _).mono ?_
    rw [h3]
    rintro e w1 ⟨rfl, rfl⟩
    go_wp2_with fail
    refine (within_c _ _ _ _).mono ?_
    rintro e w1 ⟨rfl, rfl⟩
    go_wp2_with fail
    go_ret
    exact ⟨ret_eq (bool_eq (by rw [Bool.eq_iff_iff]; simp only [Bool.true_and, inB_iff]; omega)), hb0⟩
set_option maxRecDepth 100000 in
set_option maxHeartbeats 1000000 in
theorem l28One_c (b : Nat) (d : Duty) (w : World) (hp : DutyP w b d) (hn : d.keeper.size ≤ maxLen) :
    Calls Tryd.prog 13 #[.pointer (some ⟨b, 0, none⟩)] w fun e w' => e = .returned (.bool (dutyB d)) ∧ Below w.heap.size w w' := by
  have hv : dutyB d = (nameB d.keeper && (inB d.fr 0 143999999 && (inB d.un 0 143999999 && inB (d.un - d.fr) 1 720))) := rfl
  rw [hv]
  obtain ⟨c0, c1, c2, hz⟩ := id hp
  have hT : ∀ (n : Int) w1, Calls Tryd.prog 21 #[.int .i64 n] w1 fun e w' => e = .returned (.bool (inB n 0 143999999)) ∧ w1 = w' := fun n w1 => l20Time_c n w1
  have hN : ∀ w1, Calls Tryd.prog 20 #[.string d.keeper] w1 fun e w' => e = .returned (.bool (nameB d.keeper)) ∧ w1 = w' := fun w1 => l01Name_c _ w1 hn
  have Hv := Lib.hid hv; clear hv
  have HT := Lib.hid hT; clear hT
  cases h1 : nameB d.keeper
  · rw [h1] at hN
    have HN := Lib.hid hN; clear hN
    clear h1
    go_enter Tryd.func13, Tryd.ntmps13
    go_wp2_with fail
    go_quiet (first | (go_at_call 20; exact quiet_c (HN.out _)) | (go_at_call 21; exact quiet_c (HT.out _ _)) | (go_at_call 22; exact quiet_c (l00In_c _ _ _ _)))
    go_wp2_with fail
    go_ret
    exact ⟨ret_eq (bool_eq (by simp)), by (repeat (first | (with_reducible assumption) | (with_reducible exact Below.refl _ _) | exact Nat.le_refl _ | exact Below.size (by with_reducible assumption) | (with_reducible refine Below.drew ?_) | (with_reducible refine below_drewN ?_ _) | (with_reducible refine Below.alloc ?_ ?_ _) | (with_reducible refine Below.setCell ?_ ?_ _) | (with_reducible refine le_alloc ?_ _) | (with_reducible refine le_set ?_ _ _) | (with_reducible refine le_drew ?_) | (with_reducible refine le_drewN ?_ _) | omega | (dsimp only; omega)))⟩
  cases h2 : inB d.fr 0 143999999
  · rw [h1] at hN
    have HN := Lib.hid hN; clear hN
    clear h1
    go_enter Tryd.func13, Tryd.ntmps13
    go_wp2_with fail
    go_quiet (first | (go_at_call 20; exact quiet_c (HN.out _)) | (go_at_call 21; exact quiet_c (HT.out _ _)) | (go_at_call 22; exact quiet_c (l00In_c _ _ _ _)))
    go_wp2_with fail
    go_ret
    exact ⟨ret_eq (bool_eq (by simp)), by (repeat (first | (with_reducible assumption) | (with_reducible exact Below.refl _ _) | exact Nat.le_refl _ | exact Below.size (by with_reducible assumption) | (with_reducible refine Below.drew ?_) | (with_reducible refine below_drewN ?_ _) | (with_reducible refine Below.alloc ?_ ?_ _) | (with_reducible refine Below.setCell ?_ ?_ _) | (with_reducible refine le_alloc ?_ _) | (with_reducible refine le_set ?_ _ _) | (with_reducible refine le_drew ?_) | (with_reducible refine le_drewN ?_ _) | omega | (dsimp only; omega)))⟩
  have h2' := inB_iff.1 h2
  cases h3 : inB d.un 0 143999999
  · rw [h1] at hN
    have HN := Lib.hid hN; clear hN
    clear h1
    go_enter Tryd.func13, Tryd.ntmps13
    go_wp2_with fail
    go_quiet (first | (go_at_call 20; exact quiet_c (HN.out _)) | (go_at_call 21; exact quiet_c (HT.out _ _)) | (go_at_call 22; exact quiet_c (l00In_c _ _ _ _)))
    go_wp2_with fail
    go_ret
    exact ⟨ret_eq (bool_eq (by simp)), by (repeat (first | (with_reducible assumption) | (with_reducible exact Below.refl _ _) | exact Nat.le_refl _ | exact Below.size (by with_reducible assumption) | (with_reducible refine Below.drew ?_) | (with_reducible refine below_drewN ?_ _) | (with_reducible refine Below.alloc ?_ ?_ _) | (with_reducible refine Below.setCell ?_ ?_ _) | (with_reducible refine le_alloc ?_ _) | (with_reducible refine le_set ?_ _ _) | (with_reducible refine le_drew ?_) | (with_reducible refine le_drewN ?_ _) | omega | (dsimp only; omega)))⟩
  · have h3' := inB_iff.1 h3
    rw [h1] at hN
    have HN := Lib.hid hN; clear hN
    clear h1
    go_enter Tryd.func13, Tryd.ntmps13
    go_wp2_with fail
    go_quiet (first | (go_at_call 20; exact quiet_c (HN.out _)) | (go_at_call 21; exact quiet_c (HT.out _ _)) | (go_at_call 22; exact quiet_c (l00In_c _ _ _ _)))
    go_wp2_with fail
    go_ret
    exact ⟨ret_eq (bool_eq (by simp)), by (repeat (first | (with_reducible assumption) | (with_reducible exact Below.refl _ _) | exact Nat.le_refl _ | exact Below.size (by with_reducible assumption) | (with_reducible refine Below.drew ?_) | (with_reducible refine below_drewN ?_ _) | (with_reducible refine Below.alloc ?_ ?_ _) | (with_reducible refine Below.setCell ?_ ?_ _) | (with_reducible refine le_alloc ?_ _) | (with_reducible refine le_set ?_ _ _) | (with_reducible refine le_drew ?_) | (with_reducible refine le_drewN ?_ _) | omega | (dsimp only; omega)))⟩
end Go.Proofs.YtgcfmmcdecabpaaDoor
