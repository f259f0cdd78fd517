/- Points and distances, both sides (without the aids). -/
import Derived.Test.YtgkdjohiclhcoaaRoot
import Derived.Test.YtgkdjohiclhcoaaApp
import Derived.Test.YtgkdjohiclhcoaaSmall
namespace Go.Proofs.Ytgkdjohiclhcoaa
open Go.RowKit
abbrev ptV (x y : Int) : Value := .agg #[.int .i64 x, .int .i64 y]
def ptB (x y : Int) : Bool := inB x 0 200000 && inB y 0 200000
structure PtP (w : World) (b : Nat) (x y : Int) : Prop where
  c0 : w.cell? ⟨b, 0, none⟩ = some (.int .i64 x)
  c1 : w.cell? ⟨b, 1, none⟩ = some (.int .i64 y)
  hb : b < w.heap.size
theorem PtP.next {w w' : World} {b : Nat} {x y : Int} (h : PtP w b x y) (hb : Below w.heap.size w w') : PtP w' b x y :=
  have k := keepC hb b h.hb
  ⟨(k _).trans h.c0, (k _).trans h.c1, Nat.lt_of_lt_of_le h.hb hb.size⟩
theorem PtP.box (w : World) (x y : Int) : PtP (w.alloc (.cells #[.int .i64 x, .int .i64 y] 34)) w.heap.size x y :=
  have hb : (w.alloc (.cells #[.int .i64 x, .int .i64 y] 34)).heap[w.heap.size]? = some (.cells #[.int .i64 x, .int .i64 y] 34 (0, 0)) := heap_alloc_new w _
  ⟨(cell_of_row _ w.heap.size _ _ 34 (0, 0) hb).trans rfl, (cell_of_row _ w.heap.size _ _ 34 (0, 0) hb).trans rfl, by simp⟩
def sqI (x y u v : Int) : Int := (x - u) * (x - u) + (y - v) * (y - v)
theorem sq_bound {d : Int} (h1 : -1000000 ≤ d) (h2 : d ≤ 1000000) : 0 ≤ d * d ∧ d * d ≤ 1000000000000 := by
  constructor
  · rcases Int.le_total 0 d with h | h
    · exact Int.mul_nonneg h h
    · have := Int.mul_nonneg (Int.neg_nonneg_of_nonpos h) (Int.neg_nonneg_of_nonpos h)
      simpa only [Int.neg_mul_neg] using this
  · rcases Int.le_total 0 d with h | h
    · exact Int.mul_le_mul h2 h2 h (by omega)
    · have := Int.mul_le_mul (show -d ≤ 1000000 by omega) (show -d ≤ 1000000 by omega) (by omega) (by omega)
      rw [Int.neg_mul_neg] at this
      omega
set_option maxHeartbeats 1000000 in
theorem squared_c (x y u v : Int) (w : World) (h1 : -1000000 ≤ x - u ∧ x - u ≤ 1000000) (h2 : -1000000 ≤ y - v ∧ y - v ≤ 1000000) :
    Calls Try.prog 97 #[ptV x y, ptV u v] w fun e w' => e = .returned (.int .i64 (sqI x y u v)) ∧ Below w.heap.size w w' := by
  have s1 := sq_bound h1.1 h1.2
  have s2 := sq_bound h2.1 h2.2
  unfold sqI
  have e1 : IntKind.i64.wrap (x - u) = x - u := IntWalk.i64_in _ (by omega)
  have e2 : IntKind.i64.wrap (y - v) = y - v := IntWalk.i64_in _ (by omega)
  have e3 : IntKind.i64.wrap ((x - u) * (x - u)) = (x - u) * (x - u) := IntWalk.i64_in _ (by omega)
  have e4 : IntKind.i64.wrap ((y - v) * (y - v)) = (y - v) * (y - v) := IntWalk.i64_in _ (by omega)
  have e5 : IntKind.i64.wrap ((x - u) * (x - u) + (y - v) * (y - v)) = (x - u) * (x - u) + (y - v) * (y - v) := IntWalk.i64_in _ (by omega)
  go_enter Try.func97, Try.ntmps97
  go_wp2
  go_ret
  exact ⟨rfl, by (repeat (first | (with_reducible assumption) | (with_reducible exact Below.refl _ _) | exact Nat.le_refl _ | exact Below.size (by with_reducible assumption) | (with_reducible refine Below.drew ?_) | (with_reducible refine below_drewN ?_ _) | (with_reducible refine Below.alloc ?_ ?_ _) | (with_reducible refine Below.setCell ?_ ?_ _) | (with_reducible refine le_alloc ?_ _) | (with_reducible refine le_set ?_ _ _) | (with_reducible refine le_drew ?_) | (with_reducible refine le_drewN ?_ _) | omega | (dsimp only; omega)))⟩
set_option maxHeartbeats 1000000 in
theorem l02Square_c (x y u v : Int) (w : World) (h1 : -1000000 ≤ x - u ∧ x - u ≤ 1000000) (h2 : -1000000 ≤ y - v ∧ y - v ≤ 1000000) :
    Calls Try.prog 99 #[ptV x y, ptV u v] w fun e w' => e = .returned (.int .i64 (sqI x y u v)) ∧ Below w.heap.size w w' := by
  have s1 := sq_bound h1.1 h1.2
  have s2 := sq_bound h2.1 h2.2
  unfold sqI
  have e1 : IntKind.i64.wrap (x - u) = x - u := IntWalk.i64_in _ (by omega)
  have e2 : IntKind.i64.wrap (y - v) = y - v := IntWalk.i64_in _ (by omega)
  have e3 : IntKind.i64.wrap ((x - u) * (x - u)) = (x - u) * (x - u) := IntWalk.i64_in _ (by omega)
  have e4 : IntKind.i64.wrap ((y - v) * (y - v)) = (y - v) * (y - v) := IntWalk.i64_in _ (by omega)
  have e5 : IntKind.i64.wrap ((x - u) * (x - u) + (y - v) * (y - v)) = (x - u) * (x - u) + (y - v) * (y - v) := IntWalk.i64_in _ (by omega)
  go_enter Try.func99, Try.ntmps99
  go_wp2
  go_ret
  exact ⟨rfl, by (repeat (first | (with_reducible assumption) | (with_reducible exact Below.refl _ _) | exact Nat.le_refl _ | exact Below.size (by with_reducible assumption) | (with_reducible refine Below.drew ?_) | (with_reducible refine below_drewN ?_ _) | (with_reducible refine Below.alloc ?_ ?_ _) | (with_reducible refine Below.setCell ?_ ?_ _) | (with_reducible refine le_alloc ?_ _) | (with_reducible refine le_set ?_ _ _) | (with_reducible refine le_drew ?_) | (with_reducible refine le_drewN ?_ _) | omega | (dsimp only; omega)))⟩
set_option maxHeartbeats 400000 in
theorem validPoint_c (x y : Int) (w : World) : Calls Try.prog 75 #[ptV x y] w fun e w' => e = .returned (.bool (ptB x y)) ∧ Below w.heap.size w w' := by
  cases h1 : inB x 0 200000
  all_goals
    go_enter Try.func75, Try.ntmps75
    go_wp2_with (go_at_call 55; refine (within_c _ _ _ _).mono ?_; rintro e w1 ⟨rfl, rfl⟩)
    go_ret
    exact ⟨ret_eq (bool_eq (by simp [ptB, h1])), by (repeat (first | (with_reducible assumption) | (with_reducible exact Below.refl _ _) | exact Nat.le_refl _ | exact Below.size (by with_reducible assumption) | (with_reducible refine Below.drew ?_) | (with_reducible refine below_drewN ?_ _) | (with_reducible refine Below.alloc ?_ ?_ _) | (with_reducible refine Below.setCell ?_ ?_ _) | (with_reducible refine le_alloc ?_ _) | (with_reducible refine le_set ?_ _ _) | (with_reducible refine le_drew ?_) | (with_reducible refine le_drewN ?_ _) | omega | (dsimp only; omega)))⟩
set_option maxHeartbeats 400000 in
theorem l02Ok_c (x y : Int) (w : World) : Calls Try.prog 40 #[ptV x y] w fun e w' => e = .returned (.bool (ptB x y)) ∧ Below w.heap.size w w' := by
  cases h1 : inB x 0 200000
  all_goals
    go_enter Try.func40, Try.ntmps40
    go_wp2_with (go_at_call 42; refine (l00In_c _ _ _ _).mono ?_; rintro e w1 ⟨rfl, rfl⟩)
    go_ret
    exact ⟨ret_eq (bool_eq (by simp [ptB, h1])), by (repeat (first | (with_reducible assumption) | (with_reducible exact Below.refl _ _) | exact Nat.le_refl _ | exact Below.size (by with_reducible assumption) | (with_reducible refine Below.drew ?_) | (with_reducible refine below_drewN ?_ _) | (with_reducible refine Below.alloc ?_ ?_ _) | (with_reducible refine Below.setCell ?_ ?_ _) | (with_reducible refine le_alloc ?_ _) | (with_reducible refine le_set ?_ _ _) | (with_reducible refine le_drew ?_) | (with_reducible refine le_drewN ?_ _) | omega | (dsimp only; omega)))⟩
set_option maxHeartbeats 400000 in
theorem toPoint_c (x y : Int) (w : World) : Calls Try.prog 10 #[ptV x y] w fun e w' => e = .returned (ptV x y) ∧ Below w.heap.size w w' := by
  go_enter Try.func10, Try.ntmps10
  go_wp2
  exact bodyPost_ret (v := ptV x y) (by simp [results, Try.results10, go_sem]) rfl ⟨rfl, by (repeat (first | (with_reducible assumption) | (with_reducible exact Below.refl _ _) | exact Nat.le_refl _ | exact Below.size (by with_reducible assumption) | (with_reducible refine Below.drew ?_) | (with_reducible refine below_drewN ?_ _) | (with_reducible refine Below.alloc ?_ ?_ _) | (with_reducible refine Below.setCell ?_ ?_ _) | (with_reducible refine le_alloc ?_ _) | (with_reducible refine le_set ?_ _ _) | (with_reducible refine le_drew ?_) | (with_reducible refine le_drewN ?_ _) | omega | (dsimp only; omega)))⟩
abbrev ptC (p : Int × Int) : List Value := [.int .i64 p.1, .int .i64 p.2]
theorem ptC_len (p : Int × Int) : (ptC p).length = 2 := rfl
theorem Sl.pt {w : World} {B n : Nat} {A : Option Addr} {ps : List (Int × Int)} (h : Sl w B 2 A n (ps.flatMap ptC)) (k : Nat) (hk : k < n) :
    ∃ b off p, A = some ⟨b, off, none⟩ ∧ b < B ∧ ps[k]? = some p ∧ w.cell? ⟨b, off + k * 2, none⟩ = some (.int .i64 p.1) ∧ w.cell? ⟨b, off + k * 2 + 1, none⟩ = some (.int .i64 p.2) := by
  obtain ⟨b, off, p, hA, hb, hx, hc⟩ := h.get ptC 2 ptC_len (by omega) k hk
  exact ⟨b, off, p, hA, hb, hx, hc 0 _ rfl, hc 1 _ rfl⟩
theorem ptB_bd {x y : Int} (h : ptB x y = true) : (0 ≤ x ∧ x ≤ 200000) ∧ (0 ≤ y ∧ y ≤ 200000) := by
  simp only [ptB, Bool.and_eq_true, inB_iff] at h
  exact h
theorem sq_nn (a : Int) : 0 ≤ a * a := by
  rcases Int.le_total 0 a with h | h
  · exact Int.mul_nonneg h h
  · have := Int.mul_nonneg (Int.neg_nonneg_of_nonpos h) (Int.neg_nonneg_of_nonpos h)
    simpa only [Int.neg_mul_neg] using this
theorem sq_pos (x y u v : Int) : 0 ≤ sqI x y u v := by
  have h1 := sq_nn (x - u)
  have h2 := sq_nn (y - v)
  unfold sqI; omega
set_option maxRecDepth 100000 in
set_option maxHeartbeats 1000000 in
theorem arePoints_c (A : Option Addr) (n c : Nat) (ps : List (Int × Int)) (w : World) (h : Sl w w.heap.size 2 A n (ps.flatMap ptC)) (hn : n ≤ 1048576) (hv : ∀ p ∈ ps, ptB p.1 p.2 = true) :
    Calls Try.prog 95 #[.slice A n c] w fun e w' => e = .returned (.bool true) ∧ Below w.heap.size w w' := by
  have Hv := Lib.hid hv; clear hv
  go_enter Try.func95, Try.ntmps95
  go_wp2
  go_loopw [7] (fun i wr => ∃ k : Nat, k ≤ n ∧ i = .int .i64 k ∧ Below w.heap.size w wr) (fun i _ => n - (intOf i).toNat)
  case atStart => exact ⟨0, Nat.zero_le _, rfl, Below.refl _ _⟩
  case round =>
    obtain ⟨k, hk, rfl, hbw⟩ := hrel
    by_cases hlt : k < n
    · obtain ⟨b, off, ⟨x, y⟩, rfl, hb, hx, c0, c1⟩ := h.pt k hlt
      have j1 : (0 : Int) ≤ (k : Int) := by omega
      have j2 : (k : Int) < (n : Int) := by omega
      have c0 := (keepC hbw b hb _).trans c0
      have c1 := (keepC hbw b hb _).trans c1
      have hV : ∀ w1, Calls Try.prog 75 #[ptV x y] w1 fun e w' => e = .returned (.bool true) ∧ Below w1.heap.size w1 w' := fun w1 => by
        have h1 := validPoint_c x y w1
        have h2 := Hv.out _ (List.mem_of_getElem? hx)
        rwa [h2] at h1
      have HV := Lib.hid hV; clear hV
      have Hx := Lib.hid hx; clear hx
      go_wp2_with (go_at_call 75; refine (HV.out _).mono ?_; rintro e w1 ⟨rfl, hb1⟩)
      go_roundw
      case rel => exact ⟨k + 1, by omega, by go_num, Below.trans (by (repeat (first | (with_reducible assumption) | (with_reducible exact Below.refl _ _) | exact Nat.le_refl _ | exact Below.size (by with_reducible assumption) | (with_reducible refine Below.drew ?_) | (with_reducible refine below_drewN ?_ _) | (with_reducible refine Below.alloc ?_ ?_ _) | (with_reducible refine Below.setCell ?_ ?_ _) | (with_reducible refine le_alloc ?_ _) | (with_reducible refine le_set ?_ _ _) | (with_reducible refine le_drew ?_) | (with_reducible refine le_drewN ?_ _) | omega | (dsimp only; omega)))) (hb1.mono (by have := hbw.size; simp; omega))⟩
      case measure => simp [intOf]; omega
    · go_wp2
      go_ret
      exact ⟨rfl, hbw⟩
set_option maxRecDepth 100000 in
set_option maxHeartbeats 1000000 in
theorem distance_c (x y u v : Int) (w : World) (hP : ptB x y = true) (hQ : ptB u v = true) :
    Calls Try.prog 81 #[ptV x y, ptV u v] w fun e w' => e = .returned (.int .i64 (rootI (sqI x y u v))) ∧ Below w.heap.size w w' := by
  have bx : ((0 ≤ x ∧ x ≤ 200000) ∧ (0 ≤ y ∧ y ≤ 200000)) ∧ ((0 ≤ u ∧ u ≤ 200000) ∧ (0 ≤ v ∧ v ≤ 200000)) := ⟨ptB_bd hP, ptB_bd hQ⟩
  have hb0 : Below w.heap.size w ((w.alloc (.cells #[.int .i64 x, .int .i64 y] 34)).alloc (.cells #[.int .i64 u, .int .i64 v] 34)) := by (repeat (first | (with_reducible assumption) | (with_reducible exact Below.refl _ _) | exact Nat.le_refl _ | exact Below.size (by with_reducible assumption) | (with_reducible refine Below.drew ?_) | (with_reducible refine below_drewN ?_ _) | (with_reducible refine Below.alloc ?_ ?_ _) | (with_reducible refine Below.setCell ?_ ?_ _) | (with_reducible refine le_alloc ?_ _) | (with_reducible refine le_set ?_ _ _) | (with_reducible refine le_drew ?_) | (with_reducible refine le_drewN ?_ _) | omega | (dsimp only; omega)))
  have p1 := (PtP.box w x y).next (w' := (w.alloc (.cells #[.int .i64 x, .int .i64 y] 34)).alloc (.cells #[.int .i64 u, .int .i64 v] 34)) (by (repeat (first | (with_reducible assumption) | (with_reducible exact Below.refl _ _) | exact Nat.le_refl _ | exact Below.size (by with_reducible assumption) | (with_reducible refine Below.drew ?_) | (with_reducible refine below_drewN ?_ _) | (with_reducible refine Below.alloc ?_ ?_ _) | (with_reducible refine Below.setCell ?_ ?_ _) | (with_reducible refine le_alloc ?_ _) | (with_reducible refine le_set ?_ _ _) | (with_reducible refine le_drew ?_) | (with_reducible refine le_drewN ?_ _) | omega | (dsimp only; omega))))
  have p2 := PtP.box (w.alloc (.cells #[.int .i64 x, .int .i64 y] 34)) u v
  have hsz : (w.alloc (.cells #[.int .i64 x, .int .i64 y] 34)).heap.size = w.heap.size + 1 := by simp
  rw [hsz] at p2
  obtain ⟨w0, hw⟩ : ∃ w0, (w.alloc (.cells #[.int .i64 x, .int .i64 y] 34)).alloc (.cells #[.int .i64 u, .int .i64 v] 34) = w0 := ⟨_, rfl⟩
  rw [hw] at hb0 p1 p2
  have hA : ∀ w1, Sl w1 w1.heap.size 2 (some ⟨w0.heap.size, 0, none⟩) 2 ([(x, y), (u, v)].flatMap ptC) → Calls Try.prog 95 #[.slice (some ⟨w0.heap.size, 0, none⟩) 2 2] w1 fun e w' => e = .returned (.bool true) ∧ Below w1.heap.size w1 w' := fun w1 h1 => arePoints_c _ 2 2 [(x, y), (u, v)] w1 h1 (by omega) (by
    intro p hp
    simp only [List.mem_cons, List.not_mem_nil, or_false] at hp
    rcases hp with rfl | rfl
    · exact hP
    · exact hQ)
  have hA1 := hA (w0.alloc (.cells #[.int .i64 x, .int .i64 y, .int .i64 u, .int .i64 v] 34)) ((Sl.new w0 34 ([(x, y), (u, v)].flatMap ptC) 2 2 rfl).more (by simp))
  have hb5 : Below w0.heap.size w0 (w0.alloc (.cells #[.int .i64 x, .int .i64 y, .int .i64 u, .int .i64 v] 34)) := by (repeat (first | (with_reducible assumption) | (with_reducible exact Below.refl _ _) | exact Nat.le_refl _ | exact Below.size (by with_reducible assumption) | (with_reducible refine Below.drew ?_) | (with_reducible refine below_drewN ?_ _) | (with_reducible refine Below.alloc ?_ ?_ _) | (with_reducible refine Below.setCell ?_ ?_ _) | (with_reducible refine le_alloc ?_ _) | (with_reducible refine le_set ?_ _ _) | (with_reducible refine le_drew ?_) | (with_reducible refine le_drewN ?_ _) | omega | (dsimp only; omega)))
  have p3 := p1.next hb5
  have p4 := p2.next hb5
  clear hA hsz
  have hS : ∀ w1, Calls Try.prog 97 #[ptV x y, ptV u v] w1 fun e w' => e = .returned (.int .i64 (sqI x y u v)) ∧ Below w1.heap.size w1 w' := fun w1 => squared_c x y u v w1 (by omega) (by omega)
  have hR : ∀ w1, Calls Try.prog 96 #[.int .i64 (sqI x y u v)] w1 fun e w' => e = .returned (.int .i64 (rootI (sqI x y u v))) ∧ w1 = w' := fun w1 => (rootOf_c (sqI x y u v) w1 (sq_pos x y u v)).mono fun _ _ ⟨h1, _, h2⟩ => ⟨h1, h2⟩
  obtain ⟨c0, c1, _⟩ := p1
  obtain ⟨d0, d1, _⟩ := p2
  have HS := Lib.hid hS; clear hS
  have HR := Lib.hid hR; clear hR
  have Bx := Lib.hid bx; clear bx
  go_enter Try.func81, Try.ntmps81
  go_wp2_with fail
  try rw [hw]
  clear hw
  refine hA1.mono ?_
  rintro e w1 ⟨rfl, hb1⟩
  obtain ⟨c2, c3, _⟩ := p3.next hb1
  obtain ⟨d2, d3, _⟩ := p4.next hb1
  replace hb1 := hb0.trans ((hb5.trans (hb1.mono hb5.size)).mono hb0.size)
  clear c0 c1 d0 d1 p3 p4 hA1
  go_wp2_with (first | (go_at_call 97; refine (HS.out _).mono ?_; rintro e w2 ⟨rfl, hb2⟩) | (go_at_call 96; refine (HR.out _).mono ?_; rintro e w3 ⟨rfl, rfl⟩))
  go_ret
  exact ⟨rfl, hb1.trans (hb2.mono hb1.size)⟩
set_option maxRecDepth 100000 in
set_option maxHeartbeats 1000000 in
theorem l02Apart_c (x y u v : Int) (w : World) (hP : ptB x y = true) (hQ : ptB u v = true) :
    Calls Try.prog 86 #[ptV x y, ptV u v] w fun e w' => e = .returned (.int .i64 (rootI (sqI x y u v))) ∧ Below w.heap.size w w' := by
  have bx : ((0 ≤ x ∧ x ≤ 200000) ∧ (0 ≤ y ∧ y ≤ 200000)) ∧ ((0 ≤ u ∧ u ≤ 200000) ∧ (0 ≤ v ∧ v ≤ 200000)) := ⟨ptB_bd hP, ptB_bd hQ⟩
  have hS : ∀ w1, Calls Try.prog 99 #[ptV x y, ptV u v] w1 fun e w' => e = .returned (.int .i64 (sqI x y u v)) ∧ Below w1.heap.size w1 w' := fun w1 => l02Square_c x y u v w1 (by omega) (by omega)
  have hR : ∀ w1, Calls Try.prog 98 #[.int .i64 (sqI x y u v)] w1 fun e w' => e = .returned (.int .i64 (rootI (sqI x y u v))) ∧ w1 = w' := fun w1 => (l01Root_c (sqI x y u v) w1 (sq_pos x y u v)).mono fun _ _ ⟨h1, _, h2⟩ => ⟨h1, h2⟩
  have hb0 : Below w.heap.size w ((w.alloc (.cells #[.int .i64 x, .int .i64 y] 34)).alloc (.cells #[.int .i64 u, .int .i64 v] 34)) := by (repeat (first | (with_reducible assumption) | (with_reducible exact Below.refl _ _) | exact Nat.le_refl _ | exact Below.size (by with_reducible assumption) | (with_reducible refine Below.drew ?_) | (with_reducible refine below_drewN ?_ _) | (with_reducible refine Below.alloc ?_ ?_ _) | (with_reducible refine Below.setCell ?_ ?_ _) | (with_reducible refine le_alloc ?_ _) | (with_reducible refine le_set ?_ _ _) | (with_reducible refine le_drew ?_) | (with_reducible refine le_drewN ?_ _) | omega | (dsimp only; omega)))
  have HS := Lib.hid hS; clear hS
  have HR := Lib.hid hR; clear hR
  have Bx := Lib.hid bx; clear bx
  go_enter Try.func86, Try.ntmps86
  go_wp2_with (first | (go_at_call 99; refine (HS.out _).mono ?_; rintro e w2 ⟨rfl, hb2⟩) | (go_at_call 98; refine (HR.out _).mono ?_; rintro e w3 ⟨rfl, rfl⟩))
  go_ret
  exact ⟨rfl, hb0.trans (hb2.mono hb0.size)⟩
end Go.Proofs.Ytgkdjohiclhcoaa
