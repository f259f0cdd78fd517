/- The search for the best voyage: the reference's state, take. -/
import Derived.Test.YtgkdjohiclhcoaaVoyD4
import Derived.Test.YtgkdjohiclhcoaaVoyS2
import Derived.Test.YtgkdjohiclhcoaaVoyM
namespace Go.Proofs.Ytgkdjohiclhcoaa
open Go.RowKit
abbrev srB (bs : Nat) (x y : Int) (AZ : Option Addr) (N cZ : Nat) (t : Int) (Ao : Option Addr) (n co : Nat) (Ac : Option Addr) (cc : Nat) (L : Int) (F : Bool) (C : Int) (vb : Value) (E D B : Int) : Array Value :=
  #[.pointer (some ⟨bs, 0, none⟩), .int .i64 x, .int .i64 y, .slice AZ N cZ, .int .i64 t, .int .i64 3, .slice Ao n co, .slice Ac n cc, .int .i64 L, .bool F, .int .i64 C, vb, .int .i64 E, .int .i64 D, .int .i64 B]
/-- The best so far. -/
def BB (w : World) (X : Nat) (vo vb : Value) (E : Int) (F : Bool) : BSt → Prop
  | none => F = false
  | some (e, bs) => F = true ∧ E = e ∧ w.ownsRow (X + 1) 2 1 vb bs.length (bs.flatMap intC) ∧ (vo.ownBlock = none ∨ vo.ownBlock ≠ vb.ownBlock)
structure SV (w : World) (X bs : Nat) (s : Sh) (x y t : Int) (AZ : Option Addr) (N cZ : Nat) (zs : List Wk) (B : Int) (ks : List Int) (n : Nat) (D : Int) (Ao : Option Addr) (co : Nat) (Ac : Option Addr) (cc : Nat) (C : Int) (vb : Value) (E : Int) (F : Bool) : Prop where
  sh : ShP w bs s
  hbs : bs < X
  hz : Sl w X 7 AZ N (zs.flatMap Wk.cells)
  row : w.heap[X]? = some (.cells (srB bs x y AZ N cZ t Ao n co Ac cc (loadV zs ks) F C vb E D B) 92 (0, 0))
  oo : w.ownsRow (X + 1) 2 1 (.slice Ao n co) n (ks.flatMap intC)
  cl : w.ownsRow (X + 1) 77 4 (.slice Ac n cc) n ((callsV s zs ⟨t, x, y⟩ ks).flatMap Cl.cells)
def SX (w : World) (X bs : Nat) (s : Sh) (x y t : Int) (AZ : Option Addr) (N cZ : Nat) (zs : List Wk) (B : Int) (ks : List Int) (n : Nat) (D : Int) (b : BSt) (Ao : Option Addr) (co : Nat) (Ac : Option Addr) (cc : Nat) : Prop := ∃ C vb E F, SV w X bs s x y t AZ N cZ zs B ks n D Ao co Ac cc C vb E F ∧ BB w X (.slice Ao n co) vb E F b
theorem BB.next {w w' : World} {X : Nat} {vo vb : Value} {E : Int} {F : Bool} {b : BSt} (h : BB w X vo vb E F b) (hb : Below w.heap.size w w') : BB w' X vo vb E F b := by
  cases b with
  | none => exact h
  | some p => exact ⟨h.1, h.2.1, own_next h.2.2.1 hb, h.2.2.2⟩
/-- Only block X has changed. -/
theorem BB.setX {w : World} {X i : Nat} {u : Value} {vo vb : Value} {E : Int} {F : Bool} {b : BSt} (h : BB w X vo vb E F b) : BB (w.setCell ⟨X, i, none⟩ u) X vo vb E F b := by
  cases b with
  | none => exact h
  | some p =>
    have hg : Rng X (X + 1) w (w.setCell ⟨X, i, none⟩ u) := ⟨rfl, rfl, rfl, by simp, fun k hk hne => heap_setCell_other _ ⟨X, i, none⟩ k _ (by simp only; omega)⟩
    exact ⟨h.1, h.2.1, own_rng h.2.2.1 hg fun k hk => .inr (h.2.2.1.lt k hk).1, h.2.2.2⟩
theorem SV.next {w w' : World} {X bs : Nat} {s : Sh} {x y t : Int} {AZ : Option Addr} {N cZ : Nat} {zs : List Wk} {B : Int} {ks : List Int} {n : Nat} {D : Int} {Ao : Option Addr} {co : Nat} {Ac : Option Addr} {cc : Nat} {C : Int} {vb : Value} {E : Int} {F : Bool} (h : SV w X bs s x y t AZ N cZ zs B ks n D Ao co Ac cc C vb E F) (hb : Below w.heap.size w w') : SV w' X bs s x y t AZ N cZ zs B ks n D Ao co Ac cc C vb E F := by
  have hX := (Array.getElem?_eq_some_iff.1 h.row).1
  exact ⟨h.sh.next hb, h.hbs, h.hz.keep fun b hb' => hb.block b (by omega), (hb.block X hX).trans h.row, own_next h.oo hb, own_next h.cl hb⟩
theorem SV.hX {w : World} {X bs : Nat} {s : Sh} {x y t : Int} {AZ : Option Addr} {N cZ : Nat} {zs : List Wk} {B : Int} {ks : List Int} {n : Nat} {D : Int} {Ao : Option Addr} {co : Nat} {Ac : Option Addr} {cc : Nat} {C : Int} {vb : Value} {E : Int} {F : Bool} (h : SV w X bs s x y t AZ N cZ zs B ks n D Ao co Ac cc C vb E F) : X < w.heap.size := (Array.getElem?_eq_some_iff.1 h.row).1
/-- A cell of block X is written. -/
theorem SV.setX {w : World} {X bs i : Nat} {u : Value} {s : Sh} {x y t : Int} {AZ : Option Addr} {N cZ : Nat} {zs : List Wk} {B : Int} {ks : List Int} {n : Nat} {D : Int} {Ao : Option Addr} {co : Nat} {Ac : Option Addr} {cc : Nat} {C : Int} {vb : Value} {E : Int} {F : Bool} (h : SV w X bs s x y t AZ N cZ zs B ks n D Ao co Ac cc C vb E F) {D' C' E' : Int} {F' : Bool} {vb' : Value}
    (hr : (srB bs x y AZ N cZ t Ao n co Ac cc (loadV zs ks) F C vb E D B).setIfInBounds i u = srB bs x y AZ N cZ t Ao n co Ac cc (loadV zs ks) F' C' vb' E' D' B) : SV (w.setCell ⟨X, i, none⟩ u) X bs s x y t AZ N cZ zs B ks n D' Ao co Ac cc C' vb' E' F' ∧ Rng X (X + 1) w (w.setCell ⟨X, i, none⟩ u) := by
  have hX := h.hX
  have hbs := h.hbs
  have hg : Rng X (X + 1) w (w.setCell ⟨X, i, none⟩ u) := ⟨rfl, rfl, rfl, by simp, fun k hk hne => heap_setCell_other _ ⟨X, i, none⟩ k _ (by simp only; omega)⟩
  refine ⟨⟨?_, h.hbs, h.hz.rng hg (Nat.le_refl _) (by omega), ?_, own_rng h.oo hg fun k hk => .inr (h.oo.lt k hk).1, own_rng h.cl hg fun k hk => .inr (h.cl.lt k hk).1⟩, hg⟩
  · exact h.sh.keep (hg.block bs (by omega) (.inl hbs))
  · rw [← hr]; exact heap_setCell_same w X i _ _ u h.row
def TakeAns (X bs : Nat) (s : Sh) (x y t : Int) (AZ : Option Addr) (N cZ : Nat) (zs : List Wk) (B : Int) (ks : List Int) (n : Nat) (D : Int) (b : BSt) (Ao : Option Addr) (co : Nat) (Ac : Option Addr) (cc : Nat) (w : World) (e : Ending) (w' : World) : Prop := e = .returned (.bool true) ∧ SX w' X bs s x y t AZ N cZ zs B ks n D b Ao co Ac cc ∧ Rng X (X + 1) w w'
set_option maxRecDepth 100000 in
set_option maxHeartbeats 4000000 in
theorem take_c (X bs : Nat) (s : Sh) (x y t : Int) (AZ : Option Addr) (N cZ : Nat) (zs : List Wk) (B : Int) (ks : List Int) (n : Nat) (D : Int) (b : BSt) (Ao : Option Addr) (co : Nat) (Ac : Option Addr) (cc : Nat) (w : World) (hx : SX w X bs s x y t AZ N cZ zs B ks n D b Ao co Ac cc) (hv : VOk s zs ⟨t, x, y⟩ ks) (h0 : voyK s zs ⟨t, x, y⟩ ks = 0) (hn : n ≤ 1048576) :
    Calls Try.prog 89 #[.pointer (some ⟨X, 0, none⟩)] w (TakeAns X bs s x y t AZ N cZ zs B ks n D (updB s zs ⟨t, x, y⟩ ks b) Ao co Ac cc w) := by
  obtain ⟨C, vb, E, F, hV, hbb⟩ := hx
  have hXl := hV.hX
  have hln := hV.hz.len Wk.cells 7 Wk.cells_len (by omega)
  have hnl : ks.length = n := (Sl.of_own hV.oo).len intC 1 intC_len (by omega)
  have hok := (voyK_zero.1 h0).2
  obtain ⟨Z, hZ⟩ : ∃ Z, endV s zs ⟨t, x, y⟩ ks = Z := ⟨_, rfl⟩
  have hU : updB s zs ⟨t, x, y⟩ ks b = bif decide (n = N) && lessE b Z then some (Z, ks) else b := by rw [updB, hZ, hnl, hln]
  obtain ⟨B', hB'⟩ : ∃ B', updB s zs ⟨t, x, y⟩ ks b = B' := ⟨_, rfl⟩
  rw [hB'] at hU ⊢
  have hr := hV.row
  have r0 := (cell_of_row w X 0 _ _ _ hr).trans rfl
  have r1 := (cell_of_row w X 1 _ _ _ hr).trans rfl
  have r2 := (cell_of_row w X 2 _ _ _ hr).trans rfl
  have r3 := (cell_of_row w X 3 _ _ _ hr).trans rfl
  have r4 := (cell_of_row w X 4 _ _ _ hr).trans rfl
  have r5 := (cell_of_row w X 5 _ _ _ hr).trans rfl
  have r6 := (cell_of_row w X 6 _ _ _ hr).trans rfl
  have r7 := (cell_of_row w X 7 _ _ _ hr).trans rfl
  have r8 := (cell_of_row w X 8 _ _ _ hr).trans rfl
  have r9 := (cell_of_row w X 9 _ _ _ hr).trans rfl
  have r10 := (cell_of_row w X 10 _ _ _ hr).trans rfl
  have r11 := (cell_of_row w X 11 _ _ _ hr).trans rfl
  have r12 := (cell_of_row w X 12 _ _ _ hr).trans rfl
  have r13 := (cell_of_row w X 13 _ _ _ hr).trans rfl
  have r14 := (cell_of_row w X 14 _ _ _ hr).trans rfl
  have rf := fun j => frozen_of_row w X j _ _ hr
  have HB' := Lib.hid hB'; clear hB'
  have HU := Lib.hid hU; clear hU
  have HZ := Lib.hid hZ; clear hZ
  have Hln := Lib.hid hln; clear hln
  have Hnl := Lib.hid hnl; clear hnl
  have Hok := Lib.hid hok; clear hok
  have H0 := Lib.hid h0; clear h0
  have Hv := Lib.hid hv; clear hv
  have Hr := Lib.hid hr; clear hr
  have HV := Lib.hid hV; clear hV
  have HB := Lib.hid hbb; clear hbb
  by_cases hc : n = N
  · have hc' : (n : Int) = (N : Int) := by omega
    have hdc : decide (n = N) = true := decide_eq_true hc
    have hce : ((n : Int) == (N : Int)) = true := by simpa using hc'
    have Hdc := Lib.hid hdc; clear hdc
    clear hc
    go_enter Try.func89, Try.ntmps89
    go_wp2_with fail
    go_quiet (fail)
    go_wp2_with fail
    have hd0 : Below w.heap.size w (w.drewN nq) := below_drewN (Below.refl _ _) _
    obtain ⟨hV1, hbX⟩ := (HV.out.next hd0).setX (i := 10) (u := .int .i64 (wrap64 (C + 1))) (C' := wrap64 (C + 1)) rfl
    have hB1 := (HB.out.next hd0).setX (i := 10) (u := .int .i64 (wrap64 (C + 1)))
    obtain ⟨w1, hw1⟩ : ∃ w1, (w.drewN nq).setCell ⟨X, 10, none⟩ (.int .i64 (wrap64 (C + 1))) = w1 := ⟨_, rfl⟩
    rw [hw1] at hV1 hB1 hbX ⊢
    obtain ⟨C1, hC1⟩ : ∃ C1, wrap64 (C + 1) = C1 := ⟨_, rfl⟩
    rw [hC1] at hV1
    have hbw1 : Rng X (X + 1) w w1 := (rng_below hd0).trans hbX
    clear r0 r1 r2 r3 r4 r5 r6 r7 r8 r9 r10 r11 r12 r13 r14 rf
    clear hw1 hC1 hd0 Hr HB HV hXl hbX
    have hXl := hV1.hX
    have hr := hV1.row
    have r0 := (cell_of_row w1 X 0 _ _ _ hr).trans rfl
    have r1 := (cell_of_row w1 X 1 _ _ _ hr).trans rfl
    have r2 := (cell_of_row w1 X 2 _ _ _ hr).trans rfl
    have r3 := (cell_of_row w1 X 3 _ _ _ hr).trans rfl
    have r4 := (cell_of_row w1 X 4 _ _ _ hr).trans rfl
    have r5 := (cell_of_row w1 X 5 _ _ _ hr).trans rfl
    have r6 := (cell_of_row w1 X 6 _ _ _ hr).trans rfl
    have r7 := (cell_of_row w1 X 7 _ _ _ hr).trans rfl
    have r8 := (cell_of_row w1 X 8 _ _ _ hr).trans rfl
    have r9 := (cell_of_row w1 X 9 _ _ _ hr).trans rfl
    have r10 := (cell_of_row w1 X 10 _ _ _ hr).trans rfl
    have r11 := (cell_of_row w1 X 11 _ _ _ hr).trans rfl
    have r12 := (cell_of_row w1 X 12 _ _ _ hr).trans rfl
    have r13 := (cell_of_row w1 X 13 _ _ _ hr).trans rfl
    have r14 := (cell_of_row w1 X 14 _ _ _ hr).trans rfl
    have rf := fun j => frozen_of_row w1 X j _ _ hr
    have hEnd : ∀ w', Below w1.heap.size w1 w' → Calls Try.prog 50 #[.pointer (some ⟨bs, 0, none⟩), ptV x y, .slice AZ N cZ, .slice Ac n cc, .int .i64 t] w' fun e w'' => e = .returned (.int .i64 Z) ∧ Below w'.heap.size w' w'' := fun w' hb => HZ.out ▸ l25End_c bs s x y t AZ N cZ zs Ac n cc ks w' (hV1.next hb).sh ((hV1.next hb).hz.more (Nat.le_of_lt (hV1.next hb).hX)) (Sl.of_own (hV1.next hb).cl) hn Hv.out Hok.out
    have e1 : ∀ {w' : World}, Below w1.heap.size w1 w' → (Below w1.heap.size w1 w' ∧ (∀ i, w'.cell? ⟨X, i, none⟩ = w1.cell? ⟨X, i, none⟩)) := fun hbb => ⟨hbb, keepC hbb _ hXl⟩
    have Hr := Lib.hid hr; clear hr
    have HV := Lib.hid hV1; clear hV1
    have HB := Lib.hid hB1; clear hB1
    have HEnd := Lib.hid hEnd; clear hEnd
    refine wp_region_held_drew (S := fun w' => Below w1.heap.size w1 w' ∧ (∀ i, w'.cell? ⟨X, i, none⟩ = w1.cell? ⟨X, i, none⟩)) (by kernel_rfl) (e1 (Below.refl _ _).drew) (fun hHeld => ?_)
    (first
      | (refine wpAnyH_take (i := 0) (v := ?_) rfl (by kernel_rfl) (by kernel_rfl) (by kernel_rfl) (fun _ _ _ h => h) (Or.inl ⟨by rfl, ?_⟩) (by assumption) ?_
         rotate_left
         focus (intro wq hSq; (try dsimp only at hSq); go_simp; (try (with_reducible rfl)); done))
      | (refine wpAnyH_take (i := 0) (v := undef) rfl (by kernel_rfl) (by kernel_rfl) (by kernel_rfl) (fun _ _ _ h => h) (Or.inr ⟨by rfl, rfl⟩) (by assumption) ?_)
      | fail "take 0")
    try simp only [Act.put, List.setIfInBounds_toArray, List.set_cons_zero, List.set_cons_succ, List.getElem_toArray, List.getElem_cons_zero]
    (first
      | (refine wpAnyH_take (i := 1) (v := ?_) rfl (by kernel_rfl) (by kernel_rfl) (by kernel_rfl) (fun _ _ _ h => h) (Or.inl ⟨by rfl, ?_⟩) (by assumption) ?_
         rotate_left
         focus (intro wq hSq; (try dsimp only at hSq); go_simp; (try (with_reducible rfl)); done))
      | (refine wpAnyH_take (i := 1) (v := undef) rfl (by kernel_rfl) (by kernel_rfl) (by kernel_rfl) (fun _ _ _ h => h) (Or.inr ⟨by rfl, rfl⟩) (by assumption) ?_)
      | fail "take 1")
    try simp only [Act.put, List.setIfInBounds_toArray, List.set_cons_zero, List.set_cons_succ, List.getElem_toArray, List.getElem_cons_zero, List.getElem_cons_succ]
    (first
      | (refine wpAnyH_take (i := 2) (v := ?_) rfl (by kernel_rfl) (by kernel_rfl) (by kernel_rfl) (fun _ _ _ h => h) (Or.inl ⟨by rfl, ?_⟩) (by assumption) ?_
         rotate_left
         focus (intro wq hSq; (try dsimp only at hSq); go_simp; (try (with_reducible rfl)); done))
      | (refine wpAnyH_take (i := 2) (v := undef) rfl (by kernel_rfl) (by kernel_rfl) (by kernel_rfl) (fun _ _ _ h => h) (Or.inr ⟨by rfl, rfl⟩) (by assumption) ?_)
      | fail "take 2")
    try simp only [Act.put, List.setIfInBounds_toArray, List.set_cons_zero, List.set_cons_succ, List.getElem_toArray, List.getElem_cons_zero, List.getElem_cons_succ]
    (first
      | (refine wpAnyH_take (i := 3) (v := ?_) rfl (by kernel_rfl) (by kernel_rfl) (by kernel_rfl) (fun _ _ _ h => h) (Or.inl ⟨by rfl, ?_⟩) (by assumption) ?_
         rotate_left
         focus (intro wq hSq; (try dsimp only at hSq); go_simp; (try (with_reducible rfl)); done))
      | (refine wpAnyH_take (i := 3) (v := undef) rfl (by kernel_rfl) (by kernel_rfl) (by kernel_rfl) (fun _ _ _ h => h) (Or.inr ⟨by rfl, rfl⟩) (by assumption) ?_)
      | fail "take 3")
    try simp only [Act.put, List.setIfInBounds_toArray, List.set_cons_zero, List.set_cons_succ, List.getElem_toArray, List.getElem_cons_zero, List.getElem_cons_succ]
    (first
      | (refine wpAnyH_take (i := 4) (v := ?_) rfl (by kernel_rfl) (by kernel_rfl) (by kernel_rfl) (fun _ _ _ h => h) (Or.inl ⟨by rfl, ?_⟩) (by assumption) ?_
         rotate_left
         focus (intro wq hSq; (try dsimp only at hSq); go_simp; (try (with_reducible rfl)); done))
      | (refine wpAnyH_take (i := 4) (v := undef) rfl (by kernel_rfl) (by kernel_rfl) (by kernel_rfl) (fun _ _ _ h => h) (Or.inr ⟨by rfl, rfl⟩) (by assumption) ?_)
      | fail "take 4")
    try simp only [Act.put, List.setIfInBounds_toArray, List.set_cons_zero, List.set_cons_succ, List.getElem_toArray, List.getElem_cons_zero, List.getElem_cons_succ]
    (first
      | (refine wpAnyH_take (i := 5) (v := ?_) rfl (by kernel_rfl) (by kernel_rfl) (by kernel_rfl) (fun _ _ _ h => h) (Or.inl ⟨by rfl, ?_⟩) (by assumption) ?_
         rotate_left
         focus (intro wq hSq; (try dsimp only at hSq); go_simp; (try (with_reducible rfl)); done))
      | (refine wpAnyH_take (i := 5) (v := undef) rfl (by kernel_rfl) (by kernel_rfl) (by kernel_rfl) (fun _ _ _ h => h) (Or.inr ⟨by rfl, rfl⟩) (by assumption) ?_)
      | fail "take 5")
    try simp only [Act.put, List.setIfInBounds_toArray, List.set_cons_zero, List.set_cons_succ, List.getElem_toArray, List.getElem_cons_zero, List.getElem_cons_succ]
    (first
      | (refine wpAnyH_take (i := 6) (v := ?_) rfl (by kernel_rfl) (by kernel_rfl) (by kernel_rfl) (fun _ _ _ h => h) (Or.inl ⟨by rfl, ?_⟩) (by assumption) ?_
         rotate_left
         focus (intro wq hSq; (try dsimp only at hSq); go_simp; (try (with_reducible rfl)); done))
      | (refine wpAnyH_take (i := 6) (v := undef) rfl (by kernel_rfl) (by kernel_rfl) (by kernel_rfl) (fun _ _ _ h => h) (Or.inr ⟨by rfl, rfl⟩) (by assumption) ?_)
      | fail "take 6")
    try simp only [Act.put, List.setIfInBounds_toArray, List.set_cons_zero, List.set_cons_succ, List.getElem_toArray, List.getElem_cons_zero, List.getElem_cons_succ]
    (first
      | (refine wpAnyH_take (i := 7) (v := ?_) rfl (by kernel_rfl) (by kernel_rfl) (by kernel_rfl) (fun _ _ _ h => h) (Or.inl ⟨by rfl, ?_⟩) (by assumption) ?_
         rotate_left
         focus (intro wq hSq; (try dsimp only at hSq); go_simp; (try (with_reducible rfl)); done))
      | (refine wpAnyH_take (i := 7) (v := undef) rfl (by kernel_rfl) (by kernel_rfl) (by kernel_rfl) (fun _ _ _ h => h) (Or.inr ⟨by rfl, rfl⟩) (by assumption) ?_)
      | fail "take 7")
    try simp only [Act.put, List.setIfInBounds_toArray, List.set_cons_zero, List.set_cons_succ, List.getElem_toArray, List.getElem_cons_zero, List.getElem_cons_succ]
    (first
      | (refine wpAnyH_take (i := 8) (v := ?_) rfl (by kernel_rfl) (by kernel_rfl) (by kernel_rfl) (fun _ _ _ h => h) (Or.inl ⟨by rfl, ?_⟩) (by assumption) ?_
         rotate_left
         focus (intro wq hSq; (try dsimp only at hSq); go_simp; (try (with_reducible rfl)); done))
      | (refine wpAnyH_take (i := 8) (v := undef) rfl (by kernel_rfl) (by kernel_rfl) (by kernel_rfl) (fun _ _ _ h => h) (Or.inr ⟨by rfl, rfl⟩) (by assumption) ?_)
      | fail "take 8")
    try simp only [Act.put, List.setIfInBounds_toArray, List.set_cons_zero, List.set_cons_succ, List.getElem_toArray, List.getElem_cons_zero, List.getElem_cons_succ]
    (first
      | (refine wpAnyH_take (i := 9) (v := ?_) rfl (by kernel_rfl) (by kernel_rfl) (by kernel_rfl) (fun _ _ _ h => h) (Or.inl ⟨by rfl, ?_⟩) (by assumption) ?_
         rotate_left
         focus (intro wq hSq; (try dsimp only at hSq); go_simp; (try (with_reducible rfl)); done))
      | (refine wpAnyH_take (i := 9) (v := undef) rfl (by kernel_rfl) (by kernel_rfl) (by kernel_rfl) (fun _ _ _ h => h) (Or.inr ⟨by rfl, rfl⟩) (by assumption) ?_)
      | fail "take 9")
    try simp only [Act.put, List.setIfInBounds_toArray, List.set_cons_zero, List.set_cons_succ, List.getElem_toArray, List.getElem_cons_zero, List.getElem_cons_succ]
    (first
      | (refine wpAnyH_take (i := 10) (v := ?_) rfl (by kernel_rfl) (by kernel_rfl) (by kernel_rfl) (fun _ _ _ h => h) (Or.inl ⟨by rfl, ?_⟩) (by assumption) ?_
         rotate_left
         focus (intro wq hSq; (try dsimp only at hSq); go_simp; (try (with_reducible rfl)); done))
      | (refine wpAnyH_take (i := 10) (v := undef) rfl (by kernel_rfl) (by kernel_rfl) (by kernel_rfl) (fun _ _ _ h => h) (Or.inr ⟨by rfl, rfl⟩) (by assumption) ?_)
      | fail "take 10")
    try simp only [Act.put, List.setIfInBounds_toArray, List.set_cons_zero, List.set_cons_succ, List.getElem_toArray, List.getElem_cons_zero, List.getElem_cons_succ]
    (first
      | (refine wpAnyH_take (i := 11) (v := ?_) rfl (by kernel_rfl) (by kernel_rfl) (by kernel_rfl) (fun _ _ _ h => h) (Or.inl ⟨by rfl, ?_⟩) (by assumption) ?_
         rotate_left
         focus (intro wq hSq; (try dsimp only at hSq); go_simp; (try (with_reducible rfl)); done))
      | (refine wpAnyH_take (i := 11) (v := undef) rfl (by kernel_rfl) (by kernel_rfl) (by kernel_rfl) (fun _ _ _ h => h) (Or.inr ⟨by rfl, rfl⟩) (by assumption) ?_)
      | fail "take 11")
    try simp only [Act.put, List.setIfInBounds_toArray, List.set_cons_zero, List.set_cons_succ, List.getElem_toArray, List.getElem_cons_zero, List.getElem_cons_succ]
    (first
      | (refine wpAnyH_take (i := 12) (v := ?_) rfl (by kernel_rfl) (by kernel_rfl) (by kernel_rfl) (fun _ _ _ h => h) (Or.inl ⟨by rfl, ?_⟩) (by assumption) ?_
         rotate_left
         focus (intro wq hSq; (try dsimp only at hSq); go_simp; (try (with_reducible rfl)); done))
      | (refine wpAnyH_take (i := 12) (v := undef) rfl (by kernel_rfl) (by kernel_rfl) (by kernel_rfl) (fun _ _ _ h => h) (Or.inr ⟨by rfl, rfl⟩) (by assumption) ?_)
      | fail "take 12")
    try simp only [Act.put, List.setIfInBounds_toArray, List.set_cons_zero, List.set_cons_succ, List.getElem_toArray, List.getElem_cons_zero, List.getElem_cons_succ]
    (first
      | (refine wpAnyH_take (i := 13) (v := ?_) rfl (by kernel_rfl) (by kernel_rfl) (by kernel_rfl) (fun _ _ _ h => h) (Or.inl ⟨by rfl, ?_⟩) (by assumption) ?_
         rotate_left
         focus (intro wq hSq; (try dsimp only at hSq); go_simp; (try (with_reducible rfl)); done))
      | (refine wpAnyH_take (i := 13) (v := undef) rfl (by kernel_rfl) (by kernel_rfl) (by kernel_rfl) (fun _ _ _ h => h) (Or.inr ⟨by rfl, rfl⟩) (by assumption) ?_)
      | fail "take 13")
    try simp only [Act.put, List.setIfInBounds_toArray, List.set_cons_zero, List.set_cons_succ, List.getElem_toArray, List.getElem_cons_zero, List.getElem_cons_succ]
    (first
      | (refine wpAnyH_take (i := 14) (v := ?_) rfl (by kernel_rfl) (by kernel_rfl) (by kernel_rfl) (fun _ _ _ h => h) (Or.inl ⟨by rfl, ?_⟩) (by assumption) ?_
         rotate_left
         focus (intro wq hSq; (try dsimp only at hSq); go_simp; (try (with_reducible rfl)); done))
      | (refine wpAnyH_take (i := 14) (v := undef) rfl (by kernel_rfl) (by kernel_rfl) (by kernel_rfl) (fun _ _ _ h => h) (Or.inr ⟨by rfl, rfl⟩) (by assumption) ?_)
      | fail "take 14")
    try simp only [Act.put, List.setIfInBounds_toArray, List.set_cons_zero, List.set_cons_succ, List.getElem_toArray, List.getElem_cons_zero, List.getElem_cons_succ]
    (first
      | (refine wpAnyH_take (i := 15) (v := ?_) rfl (by kernel_rfl) (by kernel_rfl) (by kernel_rfl) (fun _ _ _ h => h) (Or.inl ⟨by rfl, ?_⟩) (by assumption) ?_
         rotate_left
         focus (intro wq hSq; (try dsimp only at hSq); go_simp; (try (with_reducible rfl)); done))
      | (refine wpAnyH_take (i := 15) (v := undef) rfl (by kernel_rfl) (by kernel_rfl) (by kernel_rfl) (fun _ _ _ h => h) (Or.inr ⟨by rfl, rfl⟩) (by assumption) ?_)
      | fail "take 15")
    try simp only [Act.put, List.setIfInBounds_toArray, List.set_cons_zero, List.set_cons_succ, List.getElem_toArray, List.getElem_cons_zero, List.getElem_cons_succ]
    (first
      | (refine wpAnyH_take (i := 16) (v := ?_) rfl (by kernel_rfl) (by kernel_rfl) (by kernel_rfl) (fun _ _ _ h => h) (Or.inl ⟨by rfl, ?_⟩) (by assumption) ?_
         rotate_left
         focus (intro wq hSq; (try dsimp only at hSq); go_simp; (try (with_reducible rfl)); done))
      | (refine wpAnyH_take (i := 16) (v := undef) rfl (by kernel_rfl) (by kernel_rfl) (by kernel_rfl) (fun _ _ _ h => h) (Or.inr ⟨by rfl, rfl⟩) (by assumption) ?_)
      | fail "take 16")
    try simp only [Act.put, List.setIfInBounds_toArray, List.set_cons_zero, List.set_cons_succ, List.getElem_toArray, List.getElem_cons_zero, List.getElem_cons_succ]
    (first
      | (refine wpAnyH_take (i := 17) (v := ?_) rfl (by kernel_rfl) (by kernel_rfl) (by kernel_rfl) (fun _ _ _ h => h) (Or.inl ⟨by rfl, ?_⟩) (by assumption) ?_
         rotate_left
         focus (intro wq hSq; (try dsimp only at hSq); go_simp; (try (with_reducible rfl)); done))
      | (refine wpAnyH_take (i := 17) (v := undef) rfl (by kernel_rfl) (by kernel_rfl) (by kernel_rfl) (fun _ _ _ h => h) (Or.inr ⟨by rfl, rfl⟩) (by assumption) ?_)
      | fail "take 17")
    try simp only [Act.put, List.setIfInBounds_toArray, List.set_cons_zero, List.set_cons_succ, List.getElem_toArray, List.getElem_cons_zero, List.getElem_cons_succ]
    (first
      | (refine wpAnyH_take (i := 18) (v := ?_) rfl (by kernel_rfl) (by kernel_rfl) (by kernel_rfl) (fun _ _ _ h => h) (Or.inl ⟨by rfl, ?_⟩) (by assumption) ?_
         rotate_left
         focus (intro wq hSq; (try dsimp only at hSq); go_simp; (try (with_reducible rfl)); done))
      | (refine wpAnyH_take (i := 18) (v := undef) rfl (by kernel_rfl) (by kernel_rfl) (by kernel_rfl) (fun _ _ _ h => h) (Or.inr ⟨by rfl, rfl⟩) (by assumption) ?_)
      | fail "take 18")
    try simp only [Act.put, List.setIfInBounds_toArray, List.set_cons_zero, List.set_cons_succ, List.getElem_toArray, List.getElem_cons_zero, List.getElem_cons_succ]
    (first
      | (refine wpAnyH_take (i := 19) (v := ?_) rfl (by kernel_rfl) (by kernel_rfl) (by kernel_rfl) (fun _ _ _ h => h) (Or.inl ⟨by rfl, ?_⟩) (by assumption) ?_
         rotate_left
         focus (intro wq hSq; (try dsimp only at hSq); go_simp; (try (with_reducible rfl)); done))
      | (refine wpAnyH_take (i := 19) (v := undef) rfl (by kernel_rfl) (by kernel_rfl) (by kernel_rfl) (fun _ _ _ h => h) (Or.inr ⟨by rfl, rfl⟩) (by assumption) ?_)
      | fail "take 19")
    try simp only [Act.put, List.setIfInBounds_toArray, List.set_cons_zero, List.set_cons_succ, List.getElem_toArray, List.getElem_cons_zero, List.getElem_cons_succ]
    refine wpAnyH_ready (rs := [20]) (by kernel_rfl) (by simp) ?_
    refine AllReadyH.cons (o := _) rfl (fun K hK => ?_) AllReadyH.nil
    go_simp
    refine (HEnd.out _ (Below.refl _ _).drew).mono ?_; rintro e w2 ⟨rfl, hb2⟩
    refine hK.out _ _ ?_ (fun hHeld => ?_)
    · exact e1 ((Below.refl _ _).drew.trans hb2)
    clear hK K
    try simp only [Act.put, List.setIfInBounds_toArray, List.set_cons_zero, List.set_cons_succ, List.getElem_toArray, List.getElem_cons_zero, List.getElem_cons_succ]
    (first
      | (refine wpAnyH_take (i := 21) (v := ?_) rfl (by kernel_rfl) (by kernel_rfl) (by kernel_rfl) (fun _ _ _ h => h) (Or.inl ⟨by rfl, ?_⟩) (by assumption) ?_
         rotate_left
         focus (intro wq hSq; (try dsimp only at hSq); go_simp; (try (with_reducible rfl)); done))
      | (refine wpAnyH_take (i := 21) (v := undef) rfl (by kernel_rfl) (by kernel_rfl) (by kernel_rfl) (fun _ _ _ h => h) (Or.inr ⟨by rfl, rfl⟩) (by assumption) ?_)
      | fail "take 21")
    try simp only [Act.put, List.setIfInBounds_toArray, List.set_cons_zero, List.set_cons_succ, List.getElem_toArray, List.getElem_cons_zero, List.getElem_cons_succ]
    refine wpAnyH_done (by kernel_rfl) ?_ _
    have hb12 : Below w1.heap.size w1 w2 := (Below.refl _ _).drew.trans hb2
    have hV2 := HV.out.next hb12
    have hB2 := HB.out.next hb12
    have hbw2 : Rng X (X + 1) w w2 := hbw1.trans (rng_below hb12)
    clear r0 r1 r2 r3 r4 r5 r6 r7 r8 r9 r10 r11 r12 r13 r14 rf
    clear hHeld hb2 hb12 e1 Hr HEnd HV HB hbw1 hXl
    have hr := hV2.row
    have r0 := (cell_of_row w2 X 0 _ _ _ hr).trans rfl
    have r1 := (cell_of_row w2 X 1 _ _ _ hr).trans rfl
    have r2 := (cell_of_row w2 X 2 _ _ _ hr).trans rfl
    have r3 := (cell_of_row w2 X 3 _ _ _ hr).trans rfl
    have r4 := (cell_of_row w2 X 4 _ _ _ hr).trans rfl
    have r5 := (cell_of_row w2 X 5 _ _ _ hr).trans rfl
    have r6 := (cell_of_row w2 X 6 _ _ _ hr).trans rfl
    have r7 := (cell_of_row w2 X 7 _ _ _ hr).trans rfl
    have r8 := (cell_of_row w2 X 8 _ _ _ hr).trans rfl
    have r9 := (cell_of_row w2 X 9 _ _ _ hr).trans rfl
    have r10 := (cell_of_row w2 X 10 _ _ _ hr).trans rfl
    have r11 := (cell_of_row w2 X 11 _ _ _ hr).trans rfl
    have r12 := (cell_of_row w2 X 12 _ _ _ hr).trans rfl
    have r13 := (cell_of_row w2 X 13 _ _ _ hr).trans rfl
    have r14 := (cell_of_row w2 X 14 _ _ _ hr).trans rfl
    have rf := fun j => frozen_of_row w2 X j _ _ hr
    have Hr := Lib.hid hr; clear hr
    have HV := Lib.hid hV2; clear hV2
    cases b with
    | none =>
      obtain rfl : F = false := hB2
      obtain rfl : B' = some (Z, ks) := by rw [HU.out, Hdc.out]; rfl
      go_wp2_with fail
      obtain ⟨hV3, hb3⟩ := HV.out.setX (i := 9) (u := .bool true) (F' := true) rfl
      obtain ⟨hV4, hb4⟩ := hV3.setX (i := 12) (u := .int .i64 Z) (E' := Z) rfl
      obtain ⟨w4, hw4⟩ : ∃ w4, (w2.setCell ⟨X, 9, none⟩ (.bool true)).setCell ⟨X, 12, none⟩ (.int .i64 Z) = w4 := ⟨_, rfl⟩
      rw [hw4] at hV4 hb4 ⊢
      have hbw4 := hbw2.trans (hb3.trans hb4)
      clear r0 r1 r2 r3 r4 r5 r6 r7 r8 r9 r10 r11 r12 r13 r14 rf
      clear hw4 hV3 hb3 hb4 HV Hr
      have hO := l00Own_c Ao n co ks w4 (Sl.of_own hV4.oo) hn
      have HV := Lib.hid hV4; clear hV4
      refine hO.mono ?_
      rintro e w5 ⟨g, c', rfl, ho5, hb5⟩
      have hV5 := HV.out.next hb5
      have hX4 := HV.out.hX
      have hr := hV5.row
      have r0 := (cell_of_row w5 X 0 _ _ _ hr).trans rfl
      have r1 := (cell_of_row w5 X 1 _ _ _ hr).trans rfl
      have r2 := (cell_of_row w5 X 2 _ _ _ hr).trans rfl
      have r3 := (cell_of_row w5 X 3 _ _ _ hr).trans rfl
      have r4 := (cell_of_row w5 X 4 _ _ _ hr).trans rfl
      have r5 := (cell_of_row w5 X 5 _ _ _ hr).trans rfl
      have r6 := (cell_of_row w5 X 6 _ _ _ hr).trans rfl
      have r7 := (cell_of_row w5 X 7 _ _ _ hr).trans rfl
      have r8 := (cell_of_row w5 X 8 _ _ _ hr).trans rfl
      have r9 := (cell_of_row w5 X 9 _ _ _ hr).trans rfl
      have r10 := (cell_of_row w5 X 10 _ _ _ hr).trans rfl
      have r11 := (cell_of_row w5 X 11 _ _ _ hr).trans rfl
      have r12 := (cell_of_row w5 X 12 _ _ _ hr).trans rfl
      have r13 := (cell_of_row w5 X 13 _ _ _ hr).trans rfl
      have r14 := (cell_of_row w5 X 14 _ _ _ hr).trans rfl
      have rf := fun j => frozen_of_row w5 X j _ _ hr
      have hap : (Value.slice Ao n co).ownBlock = none ∨ (Value.slice Ao n co).ownBlock ≠ (Value.slice (some ⟨g, 0, none⟩) n c').ownBlock := by
        cases hq : (Value.slice Ao n co).ownBlock with
        | none => exact .inl rfl
        | some k => exact .inr fun e => by have h1 := (HV.out.oo.lt k hq).2; have h2 := (ho5.lt k e.symm).1; omega
      have hob := own_base ho5 (show X + 1 ≤ w4.heap.size from hX4)
      obtain ⟨hV6, hb6⟩ := hV5.setX (i := 11) (u := .slice (some ⟨g, 0, none⟩) n c') (vb' := .slice (some ⟨g, 0, none⟩) n c') rfl
      have hB6 := (show BB w5 X (.slice Ao n co) (.slice (some ⟨g, 0, none⟩) n c') Z true (some (Z, ks)) from ⟨rfl, rfl, by rw [Hnl.out]; exact hob, hap⟩).setX (i := 11) (u := .slice (some ⟨g, 0, none⟩) n c')
      have hbf := hbw4.trans ((rng_below hb5).trans hb6)
      clear hr hV5 ho5 hob hap
      have HV6 := Lib.hid hV6; clear hV6
      have HB6 := Lib.hid hB6; clear hB6
      go_wp2_with fail
      go_ret
      exact ⟨rfl, ⟨_, _, _, _, HV6.out, HB6.out⟩, hbf⟩
    | some p =>
      obtain ⟨l, bs0⟩ := p
      obtain ⟨rfl, rfl, ho2, hap⟩ := hB2
      by_cases hEl : Z < E
      · have hd2 : lessE (some (E, bs0)) Z = true := decide_eq_true hEl
        obtain rfl : B' = some (Z, ks) := by rw [HU.out, Hdc.out, hd2]; rfl
        clear hd2 ho2 hap
        go_wp2_with fail
        obtain ⟨hV3, hb3⟩ := HV.out.setX (i := 9) (u := .bool true) (F' := true) rfl
        obtain ⟨hV4, hb4⟩ := hV3.setX (i := 12) (u := .int .i64 Z) (E' := Z) rfl
        obtain ⟨w4, hw4⟩ : ∃ w4, (w2.setCell ⟨X, 9, none⟩ (.bool true)).setCell ⟨X, 12, none⟩ (.int .i64 Z) = w4 := ⟨_, rfl⟩
        rw [hw4] at hV4 hb4 ⊢
        have hbw4 := hbw2.trans (hb3.trans hb4)
        clear r0 r1 r2 r3 r4 r5 r6 r7 r8 r9 r10 r11 r12 r13 r14 rf
        clear hw4 hV3 hb3 hb4 HV Hr
        have hO := l00Own_c Ao n co ks w4 (Sl.of_own hV4.oo) hn
        have HV := Lib.hid hV4; clear hV4
        refine hO.mono ?_
        rintro e w5 ⟨g, c', rfl, ho5, hb5⟩
        have hV5 := HV.out.next hb5
        have hX4 := HV.out.hX
        have hr := hV5.row
        have r0 := (cell_of_row w5 X 0 _ _ _ hr).trans rfl
        have r1 := (cell_of_row w5 X 1 _ _ _ hr).trans rfl
        have r2 := (cell_of_row w5 X 2 _ _ _ hr).trans rfl
        have r3 := (cell_of_row w5 X 3 _ _ _ hr).trans rfl
        have r4 := (cell_of_row w5 X 4 _ _ _ hr).trans rfl
        have r5 := (cell_of_row w5 X 5 _ _ _ hr).trans rfl
        have r6 := (cell_of_row w5 X 6 _ _ _ hr).trans rfl
        have r7 := (cell_of_row w5 X 7 _ _ _ hr).trans rfl
        have r8 := (cell_of_row w5 X 8 _ _ _ hr).trans rfl
        have r9 := (cell_of_row w5 X 9 _ _ _ hr).trans rfl
        have r10 := (cell_of_row w5 X 10 _ _ _ hr).trans rfl
        have r11 := (cell_of_row w5 X 11 _ _ _ hr).trans rfl
        have r12 := (cell_of_row w5 X 12 _ _ _ hr).trans rfl
        have r13 := (cell_of_row w5 X 13 _ _ _ hr).trans rfl
        have r14 := (cell_of_row w5 X 14 _ _ _ hr).trans rfl
        have rf := fun j => frozen_of_row w5 X j _ _ hr
        have hap : (Value.slice Ao n co).ownBlock = none ∨ (Value.slice Ao n co).ownBlock ≠ (Value.slice (some ⟨g, 0, none⟩) n c').ownBlock := by
          cases hq : (Value.slice Ao n co).ownBlock with
          | none => exact .inl rfl
          | some k => exact .inr fun e => by have h1 := (HV.out.oo.lt k hq).2; have h2 := (ho5.lt k e.symm).1; omega
        have hob := own_base ho5 (show X + 1 ≤ w4.heap.size from hX4)
        obtain ⟨hV6, hb6⟩ := hV5.setX (i := 11) (u := .slice (some ⟨g, 0, none⟩) n c') (vb' := .slice (some ⟨g, 0, none⟩) n c') rfl
        have hB6 := (show BB w5 X (.slice Ao n co) (.slice (some ⟨g, 0, none⟩) n c') Z true (some (Z, ks)) from ⟨rfl, rfl, by rw [Hnl.out]; exact hob, hap⟩).setX (i := 11) (u := .slice (some ⟨g, 0, none⟩) n c')
        have hbf := hbw4.trans ((rng_below hb5).trans hb6)
        clear hr hV5 ho5 hob hap
        have HV6 := Lib.hid hV6; clear hV6
        have HB6 := Lib.hid hB6; clear hB6
        go_wp2_with fail
        go_ret
        exact ⟨rfl, ⟨_, _, _, _, HV6.out, HB6.out⟩, hbf⟩
      · have hd2 : lessE (some (E, bs0)) Z = false := decide_eq_false hEl
        obtain rfl : B' = some (E, bs0) := by rw [HU.out, Hdc.out, hd2]; rfl
        clear hd2
        go_wp2_with fail
        go_ret
        exact ⟨rfl, ⟨_, _, _, _, HV.out, rfl, rfl, ho2, hap⟩, hbw2⟩
  · have hc' : ¬ (n : Int) = (N : Int) := by omega
    have hce : ((n : Int) == (N : Int)) = false := by simpa using hc'
    obtain rfl : B' = b := by rw [HU.out, decide_eq_false hc]; rfl
    clear hc
    go_enter Try.func89, Try.ntmps89
    go_wp2_with fail
    go_quiet (fail)
    go_wp2_with fail
    go_ret
    exact ⟨rfl, ⟨_, _, _, _, HV.out.next (below_drewN (Below.refl _ _) _), HB.out.next (below_drewN (Below.refl _ _) _)⟩, rng_below (below_drewN (Below.refl _ _) _)⟩
end Go.Proofs.Ytgkdjohiclhcoaa
