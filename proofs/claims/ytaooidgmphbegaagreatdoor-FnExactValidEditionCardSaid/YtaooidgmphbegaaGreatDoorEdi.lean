/- Editions: a number, a day and a list of aids. -/
import Derived.Test.YtaooidgmphbegaaGreatDoorAidsS
import Derived.Test.YtaooidgmphbegaaGreatDoorAidsI
namespace Go.Proofs.YtaooidgmphbegaaGreatDoor
open Go.RowKit
abbrev ediV (m d : Int) (A : Option Addr) (n c : Nat) : Value := .agg #[.int .i64 m, .int .i64 d, .slice A n c]
def ediB (m d : Int) (l : List AidX) : Bool := inB m 1 9999 && (inB d 0 99999 && aidsB l)
set_option maxHeartbeats 400000 in
theorem l03Day_c (n : Int) (w : World) : Calls Tryz.prog 130 #[.int .i64 n] w fun e w' => e = .returned (.bool (inB n 0 99999)) ∧ w = w' := by
  go_enter Tryz.func130, Tryz.ntmps130
  go_wp2_with (go_at_call 102; refine (l00In_c _ _ _ _).mono ?_; rintro e w1 ⟨rfl, rfl⟩)
  go_ret
  exact ⟨rfl, rfl⟩
set_option maxHeartbeats 400000 in
theorem isDay_c (n : Int) (w : World) : Calls Tryz.prog 88 #[.int .i64 n] w fun e w' => e = .returned (.bool (inB n 0 99999)) ∧ w = w' := by
  go_enter Tryz.func88, Tryz.ntmps88
  go_wp2_with (go_at_call 90; refine (within_c _ _ _ _).mono ?_; rintro e w1 ⟨rfl, rfl⟩)
  go_ret
  exact ⟨rfl, rfl⟩
set_option maxRecDepth 100000 in
set_option maxHeartbeats 1000000 in
theorem szEdition_c (m d : Int) (A : Option Addr) (n c : Nat) (zs : List AidG) (left : Int) (w : World) (h : Sl w w.heap.size 16 A n (zs.flatMap AidG.cells) ∧ ∀ z ∈ zs, AidRd w z) (hm : n ≤ maxLen) (h0 : 0 ≤ left) (hl : left ≤ 1048576) :
    Calls Tryz.prog 35 #[ediV m d A n c, .int .i64 left] w fun e w' => ∃ r : Int, e = .returned (.int .i64 r) ∧ (r = -1 ∨ 0 ≤ r ∧ r + n ≤ left ∧ ∀ z ∈ zs, AidBd z.a) ∧ Below w.heap.size w w' := by
  have hb0 : Below w.heap.size w (w.alloc (.cells #[.int .i64 m, .int .i64 d, .slice A n c] 64)) := by (repeat (first | (with_reducible assumption) | (with_reducible exact Below.refl _ _) | exact Nat.le_refl _ | exact Below.size (by with_reducible assumption) | (with_reducible refine Below.drew ?_) | (with_reducible refine below_drewN ?_ _) | (with_reducible refine Below.alloc ?_ ?_ _) | (with_reducible refine Below.setCell ?_ ?_ _) | (with_reducible refine le_alloc ?_ _) | (with_reducible refine le_set ?_ _ _) | (with_reducible refine le_drew ?_) | (with_reducible refine le_drewN ?_ _) | omega | (dsimp only; omega)))
  have h1 := h.1.next hb0
  have h2 : ∀ z ∈ zs, AidRd (w.alloc (.cells #[.int .i64 m, .int .i64 d, .slice A n c] 64)) z := fun z hz => (h.2 z hz).next hb0
  have H1 := Lib.hid h1; clear h1
  have H2 := Lib.hid h2; clear h2
  go_enter Tryz.func35, Tryz.ntmps35
  go_wp2_with fail
  refine (szAidS_c A n c zs left _ H1.out hm H2.out h0 hl).mono ?_
  rintro e w1 ⟨r, rfl, hr, hb1⟩
  have Hr := Lib.hid hr; clear hr
  replace hb1 := hb0.trans (hb1.mono hb0.size)
  go_wp2_with fail
  · go_ret
    exact ⟨-1, rfl, .inl rfl, hb1⟩
  · go_ret
    exact ⟨r, rfl, Hr.out, hb1⟩
set_option maxRecDepth 100000 in
set_option maxHeartbeats 1000000 in
theorem toEdition_c (m d : Int) (A : Option Addr) (n c : Nat) (zs : List AidG) (w : World) (h : AidSl w A n zs) (hm : n ≤ 1048576) :
    Calls Tryz.prog 37 #[ediV m d A n c] w fun e w' => ∃ A' c' zs', e = .returned (ediV m d A' n c') ∧ zs'.map AidG.a = zs.map AidG.a ∧ AidOwn w' w.heap.size (.slice A' n c') n zs' ∧ Below w.heap.size w w' := by
  have hh : ∀ w', Below w.heap.size w w' → AidSl w' A n zs := fun w' hb => h.next hb
  have HH := Lib.hid hh; clear hh
  clear h
  go_enter Tryz.func37, Tryz.ntmps37
  go_wp2_with fail
  refine (toAidS_c A n c zs _ (HH.out _ (by (repeat (first | (with_reducible assumption) | (with_reducible exact Below.refl _ _) | exact Nat.le_refl _ | exact Below.size (by with_reducible assumption) | (with_reducible refine Below.drew ?_) | (with_reducible refine below_drewN ?_ _) | (with_reducible refine Below.alloc ?_ ?_ _) | (with_reducible refine Below.setCell ?_ ?_ _) | (with_reducible refine le_alloc ?_ _) | (with_reducible refine le_set ?_ _ _) | (with_reducible refine le_drew ?_) | (with_reducible refine le_drewN ?_ _) | omega | (dsimp only; omega))))) hm).mono ?_
  rintro e w1 ⟨v1, zs1, rfl, ha1, ho1, hb1⟩
  obtain ⟨A1, c1, rfl⟩ := own_slice ho1.own
  have q1 := keepC hb1 (w.heap.size + 1) (by simp)
  have q2 := keepC hb1 (w.heap.size + 1 + 1) (by simp)
  have f1 := keepF hb1 (w.heap.size + 1) (by simp)
  have f2 := keepF hb1 (w.heap.size + 1 + 1) (by simp)
  have bw1 : Below w.heap.size w w1 := Below.trans (by (repeat (first | (with_reducible assumption) | (with_reducible exact Below.refl _ _) | exact Nat.le_refl _ | exact Below.size (by with_reducible assumption) | (with_reducible refine Below.drew ?_) | (with_reducible refine below_drewN ?_ _) | (with_reducible refine Below.alloc ?_ ?_ _) | (with_reducible refine Below.setCell ?_ ?_ _) | (with_reducible refine le_alloc ?_ _) | (with_reducible refine le_set ?_ _ _) | (with_reducible refine le_drew ?_) | (with_reducible refine le_drewN ?_ _) | omega | (dsimp only; omega)))) (hb1.mono (by simp; omega))
  obtain ⟨ho, hn⟩ := ho1
  have hng : ∀ z ∈ zs1, w1.ownsRow (w.heap.size + 1 + 1 + 1) 2 1 (.slice z.A z.n z.c) z.n (z.a.ch.gs.flatMap intC) := fun z hz => by have := (hn z hz).g; simpa using this
  have hns : ∀ z ∈ zs1, w1.ownsRow (w.heap.size + 1 + 1 + 1) 154 3 (.slice z.B z.m z.d) z.m (z.a.secs.flatMap Sec.cells) := fun z hz => by have := (hn z hz).s; simpa using this
  simp only [World.size_alloc] at ho
  have Ha1 := Lib.hid ha1; clear ha1
  have Ho := Lib.hid ho; clear ho
  have Hng := Lib.hid hng; clear hng
  have Hns := Lib.hid hns; clear hns
  clear hn hb1
  go_wp2_with fail
  refine bodyPost_ret (v := ediV m d A1 n c1) (by simp [results, Tryz.results37, go_sem, q1]) rfl ⟨_, _, _, rfl, Ha1.out, ⟨?_, fun z hz => ⟨?_, ?_⟩⟩, ?_⟩
  · refine own_base (base := w.heap.size + 1 + 1 + 1) ?_ (by omega)
    repeat (refine ownsRow_setCell_below ?_ (by dsimp only; omega) _)
    exact Ho.out
  · refine own_base (base := w.heap.size + 1 + 1 + 1) ?_ (by omega)
    repeat (refine ownsRow_setCell_below ?_ (by dsimp only; omega) _)
    exact Hng.out z hz
  · refine own_base (base := w.heap.size + 1 + 1 + 1) ?_ (by omega)
    repeat (refine ownsRow_setCell_below ?_ (by dsimp only; omega) _)
    exact Hns.out z hz
  · (repeat (first | (with_reducible assumption) | (with_reducible exact Below.refl _ _) | exact Nat.le_refl _ | exact Below.size (by with_reducible assumption) | (with_reducible refine Below.drew ?_) | (with_reducible refine below_drewN ?_ _) | (with_reducible refine Below.alloc ?_ ?_ _) | (with_reducible refine Below.setCell ?_ ?_ _) | (with_reducible refine le_alloc ?_ _) | (with_reducible refine le_set ?_ _ _) | (with_reducible refine le_drew ?_) | (with_reducible refine le_drewN ?_ _) | omega | (dsimp only; omega)))
set_option maxRecDepth 100000 in
set_option maxHeartbeats 1000000 in
theorem eqEdition_c (m d : Int) (A A' : Option Addr) (n c c' : Nat) (zs zs' : List AidG) (w : World) (h : AidSl w A n zs) (h' : AidSl w A' n zs') (hx : zs.map AidG.a = zs'.map AidG.a) (hm : n ≤ 1048576) :
    Calls Tryz.prog 39 #[ediV m d A n c, ediV m d A' n c'] w fun e w' => e = .returned (.bool true) ∧ Below w.heap.size w w' := by
  have hb0 : Below w.heap.size w ((w.alloc (.cells #[.int .i64 m, .int .i64 d, .slice A n c] 68)).alloc (.cells #[.int .i64 m, .int .i64 d, .slice A' n c'] 68)) := by (repeat (first | (with_reducible assumption) | (with_reducible exact Below.refl _ _) | exact Nat.le_refl _ | exact Below.size (by with_reducible assumption) | (with_reducible refine Below.drew ?_) | (with_reducible refine below_drewN ?_ _) | (with_reducible refine Below.alloc ?_ ?_ _) | (with_reducible refine Below.setCell ?_ ?_ _) | (with_reducible refine le_alloc ?_ _) | (with_reducible refine le_set ?_ _ _) | (with_reducible refine le_drew ?_) | (with_reducible refine le_drewN ?_ _) | omega | (dsimp only; omega)))
  have s1 := h.next hb0
  have s2 := h'.next hb0
  have S1 := Lib.hid s1; clear s1
  have S2 := Lib.hid s2; clear s2
  have Hx := Lib.hid hx; clear hx
  go_enter Tryz.func39, Tryz.ntmps39
  go_wp2_with fail
  refine (eqAidS_c A A' n c c' zs zs' _ S1.out S2.out Hx.out hm).mono ?_
  rintro e w1 ⟨rfl, hb1⟩
  go_wp2_with fail
  go_ret
  exact ⟨rfl, hb0.trans (hb1.mono hb0.size)⟩
set_option maxRecDepth 100000 in
set_option maxHeartbeats 1000000 in
theorem l23Ok_c (b : Nat) (m d : Int) (A : Option Addr) (n c : Nat) (zs : List AidG) (w : World) (k0 : w.cell? ⟨b, 0, none⟩ = some (.int .i64 m)) (k1 : w.cell? ⟨b, 1, none⟩ = some (.int .i64 d)) (k2 : w.cell? ⟨b, 2, none⟩ = some (.slice A n c)) (h : AidSl w A n zs) (hm : n ≤ 1048576) :
    Calls Tryz.prog 87 #[.pointer (some ⟨b, 0, none⟩)] w fun e w' => e = .returned (.bool (ediB m d (zs.map AidG.a))) ∧ Below w.heap.size w w' := by
  have hv : ediB m d (zs.map AidG.a) = (inB m 1 9999 && (inB d 0 99999 && aidsB (zs.map AidG.a))) := rfl
  rw [hv]
  have Hv := Lib.hid hv; clear hv
  have H := Lib.hid h; clear h
  cases h1 : inB m 1 9999 <;> cases h2 : inB d 0 99999
  all_goals
    go_enter Tryz.func87, Tryz.ntmps87
    go_wp2_with (first | (go_at_call 102; refine (l00In_c _ _ _ _).mono ?_; rintro e w9 ⟨rfl, rfl⟩) | (go_at_call 130; refine (l03Day_c _ _).mono ?_; rintro e w9 ⟨rfl, rfl⟩) | (go_at_call 82; refine (l12Ok_c A n c zs _ H.out hm).mono ?_; rintro e w2 ⟨rfl, hb2⟩))
    go_ret
    first
    | exact ⟨ret_eq (bool_eq (by simp)), Below.refl _ _⟩
    | exact ⟨ret_eq (bool_eq (by simp)), hb2⟩
set_option maxRecDepth 100000 in
set_option maxHeartbeats 1000000 in
theorem specValidEdition_c (m d : Int) (A : Option Addr) (n c : Nat) (zs : List AidG) (w : World) (h : AidSl w A n zs) (hm : n ≤ 1048576) :
    Calls Tryz.prog 36 #[ediV m d A n c] w fun e w' => e = .returned (.bool (ediB m d (zs.map AidG.a))) ∧ Below w.heap.size w w' := by
  have hb0 : Below w.heap.size w (w.alloc (.cells #[.int .i64 m, .int .i64 d, .slice A n c] 68)) := by (repeat (first | (with_reducible assumption) | (with_reducible exact Below.refl _ _) | exact Nat.le_refl _ | exact Below.size (by with_reducible assumption) | (with_reducible refine Below.drew ?_) | (with_reducible refine below_drewN ?_ _) | (with_reducible refine Below.alloc ?_ ?_ _) | (with_reducible refine Below.setCell ?_ ?_ _) | (with_reducible refine le_alloc ?_ _) | (with_reducible refine le_set ?_ _ _) | (with_reducible refine le_drew ?_) | (with_reducible refine le_drewN ?_ _) | omega | (dsimp only; omega)))
  have hb : (w.alloc (.cells #[.int .i64 m, .int .i64 d, .slice A n c] 68)).heap[w.heap.size]? = some (.cells #[.int .i64 m, .int .i64 d, .slice A n c] 68 (0, 0)) := heap_alloc_new w _
  have s1 := h.next hb0
  have S1 := Lib.hid s1; clear s1
  go_enter Tryz.func36, Tryz.ntmps36
  go_wp2_with fail
  refine (l23Ok_c _ m d A n c zs _ ((cell_of_row _ w.heap.size _ _ 68 (0, 0) hb).trans rfl) ((cell_of_row _ w.heap.size _ _ 68 (0, 0) hb).trans rfl) ((cell_of_row _ w.heap.size _ _ 68 (0, 0) hb).trans rfl) S1.out hm).mono ?_
  rintro e w1 ⟨rfl, hb1⟩
  go_wp2_with fail
  go_ret
  exact ⟨rfl, hb0.trans (hb1.mono hb0.size)⟩
set_option maxRecDepth 100000 in
set_option maxHeartbeats 1000000 in
theorem implValidEdition_c (m d : Int) (A : Option Addr) (n c : Nat) (zs : List AidG) (w : World) (h : AidSl w A n zs) (hm : n ≤ 1048576) (ht : Tab w) :
    Calls Tryz.prog 38 #[ediV m d A n c] w fun e w' => e = .returned (.bool (ediB m d (zs.map AidG.a))) ∧ Below w.heap.size w w' := by
  have hb0 : Below w.heap.size w (w.alloc (.cells #[.int .i64 m, .int .i64 d, .slice A n c] 68)) := by (repeat (first | (with_reducible assumption) | (with_reducible exact Below.refl _ _) | exact Nat.le_refl _ | exact Below.size (by with_reducible assumption) | (with_reducible refine Below.drew ?_) | (with_reducible refine below_drewN ?_ _) | (with_reducible refine Below.alloc ?_ ?_ _) | (with_reducible refine Below.setCell ?_ ?_ _) | (with_reducible refine le_alloc ?_ _) | (with_reducible refine le_set ?_ _ _) | (with_reducible refine le_drew ?_) | (with_reducible refine le_drewN ?_ _) | omega | (dsimp only; omega)))
  have hv : ediB m d (zs.map AidG.a) = (inB m 1 9999 && (inB d 0 99999 && aidsB (zs.map AidG.a))) := rfl
  rw [hv]
  have s1 := h.next hb0
  have t1 := ht.next hb0
  have Hv := Lib.hid hv; clear hv
  have S1 := Lib.hid s1; clear s1
  have T1 := Lib.hid t1; clear t1
  cases h1 : inB m 1 9999 <;> cases h2 : inB d 0 99999
  all_goals
    go_enter Tryz.func38, Tryz.ntmps38
    go_wp2_with (first | (go_at_call 68; refine (isNumber_c _ _).mono ?_; rintro e w9 ⟨rfl, rfl⟩) | (go_at_call 88; refine (isDay_c _ _).mono ?_; rintro e w9 ⟨rfl, rfl⟩) | (go_at_call 30; refine (implValidAids_c A n c zs _ S1.out hm T1.out).mono ?_; rintro e w2 ⟨rfl, hb2⟩))
    go_ret
    first
    | exact ⟨ret_eq (bool_eq (by simp)), hb0⟩
    | exact ⟨ret_eq (bool_eq (by simp)), hb0.trans (hb2.mono hb0.size)⟩
end Go.Proofs.YtaooidgmphbegaaGreatDoor
