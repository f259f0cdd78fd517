/- Lists of lights: IdentifyLight and IsCertain, both sides. -/
import Derived.Test.YtgfplmfdgbklkaaLtAll
namespace Go.Proofs.Ytgfplmfdgbklkaa
open Go.RowKit
def hitsL (zs : List ChG) (o : List Ph) (tol : Int) : List Nat := hitsN zs o tol zs.length
def certB (zs : List ChG) (o : List Ph) (tol : Int) : Bool := (askI zs o tol == 0) && ((hitsL zs o tol).length == 1)
/-- What both sides' IdentifyLight answer. -/
def IdAns (w : World) (base : Nat) (v : Value) (zs : List ChG) (o : List Ph) (tol : Int) : Prop :=
  (askI zs o tol ≠ 0 ∧ v = .slice none 0 0) ∨ (askI zs o tol = 0 ∧ w.ownsRow base 2 1 v (hitsL zs o tol).length (((hitsL zs o tol).map fun (i : Nat) => (i : Int)).flatMap intC))
theorem ask_ok {zs : List ChG} {o : List Ph} {tol : Int} (h : askI zs o tol = 0) : lightsB zs = true ∧ obsB o = true ∧ inB tol 0 100 = true := by
  unfold askI at h
  cases h1 : lightsB zs <;> cases h2 : obsB o <;> cases h3 : inB tol 0 100 <;> simp [h1, h2, h3] at h ⊢
set_option maxRecDepth 100000 in
set_option maxHeartbeats 1000000 in
theorem specIdent_c (A : Option Addr) (n c : Nat) (zs : List ChG) (Ao : Option Addr) (no co : Nat) (o : List Ph) (tol : Int) (w : World) (h : ChS w A n zs) (hm : n ≤ 1048576)
    (ho : Sl w w.heap.size 2 Ao no (o.flatMap Ph.cells)) (hno : no ≤ 1048576) :
    Calls Try.prog 32 #[.slice A n c, .slice Ao no co, .int .i64 tol] w fun e w' => ∃ v, e = .returned (.tuple #[v, .int .i64 (askI zs o tol)]) ∧ IdAns w' w.heap.size v zs o tol ∧ Below w.heap.size w w' := by
  have hl := h.len
  have hlo := ho.len Ph.cells 2 Ph.cells_len (by omega)
  have Hlo := Lib.hid hlo; clear hlo
  have Hl := Lib.hid hl; clear hl
  go_enter Try.func32, Try.ntmps32
  go_wp2_with fail
  refine (l17Ask_c A n c zs Ao no co o tol _ h hm ho hno).mono ?_
  rintro e w1 ⟨rfl, hb1⟩
  obtain ⟨a, hA⟩ : ∃ a, askI zs o tol = a := ⟨_, rfl⟩
  rw [hA]
  by_cases ha : a = 0
  · subst ha
    obtain ⟨hv, hob, hti⟩ := ask_ok hA
    obtain ⟨hvz, h64⟩ := lights_valid hv
    obtain ⟨t0, t1⟩ := inB_iff.1 hti
    rw [Hl.out] at h64
    have HA := Lib.hid hA; clear hA
    go_wp2_with fail
    refine (l17All_c A n c zs Ao no co o tol _ (h.next hb1) hvz h64 (ho.next hb1) (obsB_ok hob Hlo.out) t0 (by omega)).mono ?_
    rintro e w2 ⟨v, rfl, hov, hb2⟩
    obtain ⟨A3, c3, rfl⟩ := own_slice hov
    go_wp2_with fail
    go_ret2
    exact ⟨_, by rw [HA.out]; rfl, .inr ⟨HA.out, by rw [hitsL, Hl.out]; exact own_base hov hb1.size⟩, hb1.trans (hb2.mono hb1.size)⟩
  · have hn0 : (a != 0) = true := by simpa using ha
    have HA := Lib.hid hA; clear hA
    go_wp2_with fail
    go_ret2
    exact ⟨_, by rw [HA.out]; rfl, .inl ⟨by rw [HA.out]; exact ha, rfl⟩, hb1⟩
set_option maxRecDepth 100000 in
set_option maxHeartbeats 1000000 in
theorem implIdent_c (A : Option Addr) (n c : Nat) (zs : List ChG) (Ao : Option Addr) (no co : Nat) (o : List Ph) (tol : Int) (w : World) (h : ChS w A n zs) (hm : n ≤ 1048576)
    (ho : Sl w w.heap.size 2 Ao no (o.flatMap Ph.cells)) (hno : no ≤ 1048576) (hsz : ∀ p ∈ o, p.c.size ≤ maxLen) :
    Calls Try.prog 33 #[.slice A n c, .slice Ao no co, .int .i64 tol] w fun e w' => ∃ v, e = .returned (.tuple #[v, .int .i64 (askI zs o tol)]) ∧ IdAns w' w.heap.size v zs o tol ∧ Below w.heap.size w w' := by
  have hl := h.len
  have hlo := ho.len Ph.cells 2 Ph.cells_len (by omega)
  have Hlo := Lib.hid hlo; clear hlo
  have Hl := Lib.hid hl; clear hl
  cases hv : lightsB zs
  · have hA : askI zs o tol = 1 := by rw [askI, hv]; rfl
    have HA := Lib.hid hA; clear hA
    go_enter Try.func33, Try.ntmps33
    go_wp2_with fail
    refine (areCharacters_c A n c zs _ h hm).mono ?_
    rw [hv]
    rintro e w1 ⟨rfl, hb1⟩
    go_wp2_with fail
    go_ret2
    exact ⟨_, by rw [HA.out]; rfl, .inl ⟨by rw [HA.out]; decide, rfl⟩, hb1⟩
  cases hob : obsB o
  · have hA : askI zs o tol = 1 := by rw [askI, hv, hob]; rfl
    have HA := Lib.hid hA; clear hA
    go_enter Try.func33, Try.ntmps33
    go_wp2_with fail
    refine (areCharacters_c A n c zs _ h hm).mono ?_
    rw [hv]
    rintro e w1 ⟨rfl, hb1⟩
    go_wp2_with fail
    refine (validObs_c Ao no co o _ (ho.next hb1) hno hsz).mono ?_
    rw [hob]
    rintro e w2 ⟨rfl, hb2⟩
    go_wp2_with fail
    go_ret2
    exact ⟨_, by rw [HA.out]; rfl, .inl ⟨by rw [HA.out]; decide, rfl⟩, hb1.trans (hb2.mono hb1.size)⟩
  cases hti : inB tol 0 100
  · have hA : askI zs o tol = 2 := by rw [askI, hv, hob, hti]; rfl
    have HA := Lib.hid hA; clear hA
    go_enter Try.func33, Try.ntmps33
    go_wp2_with fail
    refine (areCharacters_c A n c zs _ h hm).mono ?_
    rw [hv]
    rintro e w1 ⟨rfl, hb1⟩
    go_wp2_with fail
    refine (validObs_c Ao no co o _ (ho.next hb1) hno hsz).mono ?_
    rw [hob]
    rintro e w2 ⟨rfl, hb2⟩
    go_wp2_with (go_at_call 64; refine (isSlack_c _ _).mono ?_; rw [hti]; rintro e w3 ⟨rfl, rfl⟩)
    go_ret2
    exact ⟨_, by rw [HA.out]; rfl, .inl ⟨by rw [HA.out]; decide, rfl⟩, hb1.trans (hb2.mono hb1.size)⟩
  have hA : askI zs o tol = 0 := by rw [askI, hv, hob, hti]; rfl
  obtain ⟨hvz, h64⟩ := lights_valid hv
  obtain ⟨t0, t1⟩ := inB_iff.1 hti
  rw [Hl.out] at h64
  have HA := Lib.hid hA; clear hA
  go_enter Try.func33, Try.ntmps33
  go_wp2_with fail
  refine (areCharacters_c A n c zs _ h hm).mono ?_
  rw [hv]
  rintro e w1 ⟨rfl, hb1⟩
  go_wp2_with fail
  refine (validObs_c Ao no co o _ (ho.next hb1) hno hsz).mono ?_
  rw [hob]
  rintro e w2 ⟨rfl, hb2⟩
  have hb3 := hb1.trans (hb2.mono hb1.size)
  go_wp2_with (go_at_call 64; refine (isSlack_c _ _).mono ?_; rw [hti]; rintro e w3 ⟨rfl, rfl⟩)
  refine (identify_c A n c zs Ao no co o tol _ (h.next hb3) hvz h64 (ho.next hb3) (obsB_ok hob Hlo.out) t0 (by omega)).mono ?_
  rintro e w4 ⟨v, rfl, hov, hb4⟩
  obtain ⟨A3, c3, rfl⟩ := own_slice hov
  go_wp2_with fail
  go_ret2
  exact ⟨_, by rw [HA.out]; rfl, .inr ⟨HA.out, by rw [hitsL, Hl.out]; exact own_base hov hb3.size⟩, hb3.trans (hb4.mono hb3.size)⟩
set_option maxRecDepth 100000 in
set_option maxHeartbeats 1000000 in
theorem specCertain_c (A : Option Addr) (n c : Nat) (zs : List ChG) (Ao : Option Addr) (no co : Nat) (o : List Ph) (tol : Int) (w : World) (h : ChS w A n zs) (hm : n ≤ 1048576)
    (ho : Sl w w.heap.size 2 Ao no (o.flatMap Ph.cells)) (hno : no ≤ 1048576) :
    Calls Try.prog 28 #[.slice A n c, .slice Ao no co, .int .i64 tol] w fun e w' => e = .returned (.bool (certB zs o tol)) ∧ Below w.heap.size w w' := by
  have hl := h.len
  have hlo := ho.len Ph.cells 2 Ph.cells_len (by omega)
  have Hlo := Lib.hid hlo; clear hlo
  have Hl := Lib.hid hl; clear hl
  go_enter Try.func28, Try.ntmps28
  go_wp2_with fail
  refine (l17Ask_c A n c zs Ao no co o tol _ h hm ho hno).mono ?_
  rintro e w1 ⟨rfl, hb1⟩
  obtain ⟨a, hA⟩ : ∃ a, askI zs o tol = a := ⟨_, rfl⟩
  rw [hA]
  by_cases ha : a = 0
  · subst ha
    obtain ⟨hv, hob, hti⟩ := ask_ok hA
    obtain ⟨hvz, h64⟩ := lights_valid hv
    obtain ⟨t0, t1⟩ := inB_iff.1 hti
    rw [Hl.out] at h64
    have HA := Lib.hid hA; clear hA
    go_wp2_with fail
    refine (l17All_c A n c zs Ao no co o tol _ (h.next hb1) hvz h64 (ho.next hb1) (obsB_ok hob Hlo.out) t0 (by omega)).mono ?_
    rintro e w2 ⟨v, rfl, hov, hb2⟩
    obtain ⟨A3, c3, rfl⟩ := own_slice hov
    go_wp2_with fail
    go_ret
    refine ⟨ret_eq (bool_eq ?_), hb1.trans (hb2.mono hb1.size)⟩
    rw [certB, HA.out, hitsL, Hl.out, Bool.eq_iff_iff]
    simp <;> omega
  · have hn0 : (a == 0) = false := by simpa using ha
    have HA := Lib.hid hA; clear hA
    have Hn0 := Lib.hid hn0; clear hn0
    have hn1 := Hn0.out
    go_wp2_with fail
    go_ret
    exact ⟨ret_eq (bool_eq (by rw [certB, HA.out, Hn0.out]; rfl)), hb1⟩
set_option maxRecDepth 100000 in
set_option maxHeartbeats 1000000 in
theorem implCertain_c (A : Option Addr) (n c : Nat) (zs : List ChG) (Ao : Option Addr) (no co : Nat) (o : List Ph) (tol : Int) (w : World) (h : ChS w A n zs) (hm : n ≤ 1048576)
    (ho : Sl w w.heap.size 2 Ao no (o.flatMap Ph.cells)) (hno : no ≤ 1048576) (hsz : ∀ p ∈ o, p.c.size ≤ maxLen) :
    Calls Try.prog 29 #[.slice A n c, .slice Ao no co, .int .i64 tol] w fun e w' => e = .returned (.bool (certB zs o tol)) ∧ Below w.heap.size w w' := by
  go_enter Try.func29, Try.ntmps29
  go_wp2_with fail
  refine (implIdent_c A n c zs Ao no co o tol _ h hm ho hno hsz).mono ?_
  rintro e w1 ⟨v, rfl, hi, hb1⟩
  obtain ⟨a, hA⟩ : ∃ a, askI zs o tol = a := ⟨_, rfl⟩
  rw [IdAns, hA] at hi
  rw [hA]
  rcases hi with ⟨ha, rfl⟩ | ⟨ha, hov⟩
  · have hn0 : (a == 0) = false := by simpa using ha
    have HA := Lib.hid hA; clear hA
    have Hn0 := Lib.hid hn0; clear hn0
    have hn1 := Hn0.out
    go_wp2_with fail
    go_ret
    exact ⟨ret_eq (bool_eq (by rw [certB, HA.out, Hn0.out]; rfl)), hb1⟩
  · subst ha
    obtain ⟨A3, c3, rfl⟩ := own_slice hov
    have HA := Lib.hid hA; clear hA
    go_wp2_with fail
    go_ret
    refine ⟨ret_eq (bool_eq ?_), hb1⟩
    rw [certB, HA.out, Bool.eq_iff_iff]
    simp <;> omega
end Go.Proofs.Ytgfplmfdgbklkaa
