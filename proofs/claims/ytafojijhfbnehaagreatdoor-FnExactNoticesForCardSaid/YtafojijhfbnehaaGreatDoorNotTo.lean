/- Notices: the move into memory of its own. -/
import Derived.Test.YtafojijhfbnehaaGreatDoorOwnP
namespace Go.Proofs.YtafojijhfbnehaaGreatDoor
open Go.RowKit
/-- A notice: number, day, kind, target, aid. -/
structure NtX where
  m : Int
  d : Int
  k : Int
  t : Int
abbrev ntV (x : NtX) (z : AidG) : Value := .agg #[.int .i64 x.m, .int .i64 x.d, .int .i64 x.k, .int .i64 x.t, .int .i64 z.a.num, .string z.a.nm, .int .i64 z.a.x, .int .i64 z.a.y, .int .i64 z.a.h, .int .i64 z.a.mr.k, .string z.a.mr.cs, .string z.a.mr.sh, .string z.a.mr.tp, .int .i64 z.a.ch.k, .slice z.A z.n z.c, .string z.a.ch.l, .string z.a.ch.cs, .int .i64 z.a.ch.p, .slice z.B z.m z.d, .int .i64 z.a.it]
abbrev ntO (x : NtX) (z : AidG) (E : TypeId) : Obj := .cells #[.int .i64 x.m, .int .i64 x.d, .int .i64 x.k, .int .i64 x.t, .int .i64 z.a.num, .string z.a.nm, .int .i64 z.a.x, .int .i64 z.a.y, .int .i64 z.a.h, .int .i64 z.a.mr.k, .string z.a.mr.cs, .string z.a.mr.sh, .string z.a.mr.tp, .int .i64 z.a.ch.k, .slice z.A z.n z.c, .string z.a.ch.l, .string z.a.ch.cs, .int .i64 z.a.ch.p, .slice z.B z.m z.d, .int .i64 z.a.it] E
abbrev ntL (x : NtX) (z : AidG) : List Value := .int .i64 x.m :: .int .i64 x.d :: .int .i64 x.k :: .int .i64 x.t :: z.cells
/-- Its cells at a place of memory. -/
structure NtP (w : World) (b off : Nat) (x : NtX) (z : AidG) : Prop where
  k0 : w.cell? ⟨b, off, none⟩ = some (.int .i64 x.m)
  k1 : w.cell? ⟨b, off + 1, none⟩ = some (.int .i64 x.d)
  k2 : w.cell? ⟨b, off + 2, none⟩ = some (.int .i64 x.k)
  k3 : w.cell? ⟨b, off + 3, none⟩ = some (.int .i64 x.t)
  p : AidP w b (off + 4) z
theorem NtP.next {w w' : World} {b off : Nat} {x : NtX} {z : AidG} (h : NtP w b off x z) (hb : Below w.heap.size w w') : NtP w' b off x z :=
  have k := keepC hb b h.p.hb
  ⟨(k _).trans h.k0, (k _).trans h.k1, (k _).trans h.k2, (k _).trans h.k3, h.p.next hb⟩
/-- The same with plain places. -/
structure NtF (w : World) (b off : Nat) (x : NtX) (z : AidG) : Prop where
  k0 : w.cell? ⟨b, off, none⟩ = some (.int .i64 x.m)
  k1 : w.cell? ⟨b, off + 1, none⟩ = some (.int .i64 x.d)
  k2 : w.cell? ⟨b, off + 2, none⟩ = some (.int .i64 x.k)
  k3 : w.cell? ⟨b, off + 3, none⟩ = some (.int .i64 x.t)
  c0 : w.cell? ⟨b, off + 4, none⟩ = some (.int .i64 z.a.num)
  c1 : w.cell? ⟨b, off + 5, none⟩ = some (.string z.a.nm)
  c2 : w.cell? ⟨b, off + 6, none⟩ = some (.int .i64 z.a.x)
  c3 : w.cell? ⟨b, off + 7, none⟩ = some (.int .i64 z.a.y)
  c4 : w.cell? ⟨b, off + 8, none⟩ = some (.int .i64 z.a.h)
  c5 : w.cell? ⟨b, off + 9, none⟩ = some (.int .i64 z.a.mr.k)
  c6 : w.cell? ⟨b, off + 10, none⟩ = some (.string z.a.mr.cs)
  c7 : w.cell? ⟨b, off + 11, none⟩ = some (.string z.a.mr.sh)
  c8 : w.cell? ⟨b, off + 12, none⟩ = some (.string z.a.mr.tp)
  c9 : w.cell? ⟨b, off + 13, none⟩ = some (.int .i64 z.a.ch.k)
  c10 : w.cell? ⟨b, off + 14, none⟩ = some (.slice z.A z.n z.c)
  c11 : w.cell? ⟨b, off + 15, none⟩ = some (.string z.a.ch.l)
  c12 : w.cell? ⟨b, off + 16, none⟩ = some (.string z.a.ch.cs)
  c13 : w.cell? ⟨b, off + 17, none⟩ = some (.int .i64 z.a.ch.p)
  c14 : w.cell? ⟨b, off + 18, none⟩ = some (.slice z.B z.m z.d)
  c15 : w.cell? ⟨b, off + 19, none⟩ = some (.int .i64 z.a.it)
  hb : b < w.heap.size
theorem NtP.flat {w : World} {b off : Nat} {x : NtX} {z : AidG} (h : NtP w b off x z) : NtF w b off x z :=
  ⟨h.k0, h.k1, h.k2, h.k3, h.p.c0, h.p.c1, h.p.c2, h.p.c3, h.p.c4, h.p.c5, h.p.c6, h.p.c7, h.p.c8, h.p.c9, h.p.c10, h.p.c11, h.p.c12, h.p.c13, h.p.c14, h.p.c15, h.p.hb⟩
theorem ntP_of {w : World} {b off : Nat} {x : NtX} {z : AidG} (h : w.rangeAt b off (ntL x z)) (hb : b < w.heap.size) : NtP w b off x z :=
  ⟨h 0 _ rfl, h 1 _ rfl, h 2 _ rfl, h 3 _ rfl, h 4 _ rfl, h 5 _ rfl, h 6 _ rfl, h 7 _ rfl, h 8 _ rfl, h 9 _ rfl, h 10 _ rfl, h 11 _ rfl, h 12 _ rfl, h 13 _ rfl, h 14 _ rfl, h 15 _ rfl, h 16 _ rfl, h 17 _ rfl, h 18 _ rfl, h 19 _ rfl, hb⟩
theorem NtP.zero {w : World} {b : Nat} {x : NtX} {z : AidG} (h : NtP w b 0 x z) : w.cell? ⟨b, 0, none⟩ = some (.int .i64 x.m) ∧ w.cell? ⟨b, 1, none⟩ = some (.int .i64 x.d) ∧ w.cell? ⟨b, 2, none⟩ = some (.int .i64 x.k) ∧ w.cell? ⟨b, 3, none⟩ = some (.int .i64 x.t) ∧ AidP w b 4 z := ⟨h.k0, h.k1, h.k2, h.k3, h.p⟩
theorem NtF.lit {w : World} {b : Nat} {x : NtX} {z : AidG} (h : NtF w b 0 x z) : w.cell? ⟨b, 0, none⟩ = some (.int .i64 x.m) ∧ w.cell? ⟨b, 1, none⟩ = some (.int .i64 x.d) ∧ w.cell? ⟨b, 2, none⟩ = some (.int .i64 x.k) ∧ w.cell? ⟨b, 3, none⟩ = some (.int .i64 x.t) ∧ w.cell? ⟨b, 4, none⟩ = some (.int .i64 z.a.num) ∧ w.cell? ⟨b, 5, none⟩ = some (.string z.a.nm) ∧ w.cell? ⟨b, 6, none⟩ = some (.int .i64 z.a.x) ∧ w.cell? ⟨b, 7, none⟩ = some (.int .i64 z.a.y) ∧ w.cell? ⟨b, 8, none⟩ = some (.int .i64 z.a.h) ∧ w.cell? ⟨b, 9, none⟩ = some (.int .i64 z.a.mr.k) ∧ w.cell? ⟨b, 10, none⟩ = some (.string z.a.mr.cs) ∧ w.cell? ⟨b, 11, none⟩ = some (.string z.a.mr.sh) ∧ w.cell? ⟨b, 12, none⟩ = some (.string z.a.mr.tp) ∧ w.cell? ⟨b, 13, none⟩ = some (.int .i64 z.a.ch.k) ∧ w.cell? ⟨b, 14, none⟩ = some (.slice z.A z.n z.c) ∧ w.cell? ⟨b, 15, none⟩ = some (.string z.a.ch.l) ∧ w.cell? ⟨b, 16, none⟩ = some (.string z.a.ch.cs) ∧ w.cell? ⟨b, 17, none⟩ = some (.int .i64 z.a.ch.p) ∧ w.cell? ⟨b, 18, none⟩ = some (.slice z.B z.m z.d) ∧ w.cell? ⟨b, 19, none⟩ = some (.int .i64 z.a.it) :=
  ⟨h.k0, h.k1, h.k2, h.k3, h.c0, h.c1, h.c2, h.c3, h.c4, h.c5, h.c6, h.c7, h.c8, h.c9, h.c10, h.c11, h.c12, h.c13, h.c14, h.c15⟩
theorem ntL_mid {w : World} {b : Nat} {x : NtX} {z : AidG} (h0 : w.cell? ⟨b, 0, none⟩ = some (.int .i64 x.m)) (h1 : w.cell? ⟨b, 1, none⟩ = some (.int .i64 x.d)) (h2 : w.cell? ⟨b, 2, none⟩ = some (.int .i64 x.k)) (h3 : w.cell? ⟨b, 3, none⟩ = some (.int .i64 x.t)) (ht : w.there b 4 16) : (w.setCells b 4 z.cells).rangeAt b 0 (ntL x z)
  | 0, v, hv => by
    rw [World.cell?_setCells_out b _ 4 w _ (fun _ _ => .inl (by simp))]
    exact h0.trans hv
  | 1, v, hv => by
    rw [World.cell?_setCells_out b _ 4 w _ (fun _ _ => .inl (by simp))]
    exact h1.trans hv
  | 2, v, hv => by
    rw [World.cell?_setCells_out b _ 4 w _ (fun _ _ => .inl (by simp))]
    exact h2.trans hv
  | 3, v, hv => by
    rw [World.cell?_setCells_out b _ 4 w _ (fun _ _ => .inl (by simp))]
    exact h3.trans hv
  | j + 4, v, hv => by
    have := World.rangeAt_setCells_same w b 4 z.cells ht j v hv
    rwa [show 4 + j = 0 + (j + 4) by omega] at this
theorem results_cell_mid {P : Program} {fn : Func} {p : Tmp} {ty : TypeId} (h : fn.results = #[.cell p ty]) (tmps : Array Value) (w : World) (g o : Nat) (cs : List Value) (d : TypeDesc)
    (hp : tmps.getD p undef = .pointer (some ⟨g, o, none⟩)) (hc : w.rangeAt g o cs) (hu : P.underlying ty = some d) (hd : d.isRow = true) (hi : (P.info? ty).map (·.size) = some cs.length) :
    (results fn tmps).run P w = .ok (.agg cs.toArray) w := by
  have hp' : tmps[p]?.getD undef = .pointer (some ⟨g, o, none⟩) := by simpa using hp
  simp [results, h, hp', asAddr, run_loadVar_mid w g o ty cs d hc hu hd hi]
abbrev ntZ (E : TypeId) : Obj := .cells #[.int .i64 0, .int .i64 0, .int .i64 0, .int .i64 0, .int .i64 0, .string { data := #[] }, .int .i64 0, .int .i64 0, .int .i64 0, .int .i64 0, .string { data := #[] }, .string { data := #[] }, .string { data := #[] }, .int .i64 0, .slice none 0 0, .string { data := #[] }, .string { data := #[] }, .int .i64 0, .slice none 0 0, .int .i64 0] E
set_option maxRecDepth 100000 in
set_option maxHeartbeats 2000000 in
theorem toNotice_c (x : NtX) (z : AidG) (w : World) (h : AidOk w z) :
    Calls Tryz.prog 21 #[ntV x z] w fun e w' => ∃ z' : AidG, e = .returned (ntV x z') ∧ z'.a = z.a ∧ AidNew w' w.heap.size z' ∧ Below w.heap.size w w' := by
  have hh : ∀ w', Below w.heap.size w w' → AidOk w' z := fun w' hb => h.next hb
  have HH := Lib.hid hh; clear hh
  clear h
  go_enter Tryz.func21, Tryz.ntmps21
  go_wp2_with fail
  refine (toAid_c z _ (HH.out _ (by (repeat (first | (with_reducible assumption) | (with_reducible exact Below.refl _ _) | exact Nat.le_refl _ | exact Below.size (by with_reducible assumption) | (with_reducible refine Below.drew ?_) | (with_reducible refine below_drewN ?_ _) | (with_reducible refine Below.alloc ?_ ?_ _) | (with_reducible refine Below.setCell ?_ ?_ _) | (with_reducible refine le_alloc ?_ _) | (with_reducible refine le_set ?_ _ _) | (with_reducible refine le_drew ?_) | (with_reducible refine le_drewN ?_ _) | omega | (dsimp only; omega)))))).mono ?_
  rintro e w1 ⟨⟨a1, A1, c1, B1, d1⟩, rfl, ha1, ho1, hb1⟩
  simp only at ha1
  subst ha1
  have q1 := keepC hb1 (w.heap.size + 1) (by simp)
  have q2 := keepC hb1 (w.heap.size + 1 + 1) (by simp)
  have f1 := keepF hb1 (w.heap.size + 1) (by simp)
  have f2 := keepF hb1 (w.heap.size + 1 + 1) (by simp)
  have bw1 : Below w.heap.size w w1 := Below.trans (by (repeat (first | (with_reducible assumption) | (with_reducible exact Below.refl _ _) | exact Nat.le_refl _ | exact Below.size (by with_reducible assumption) | (with_reducible refine Below.drew ?_) | (with_reducible refine below_drewN ?_ _) | (with_reducible refine Below.alloc ?_ ?_ _) | (with_reducible refine Below.setCell ?_ ?_ _) | (with_reducible refine le_alloc ?_ _) | (with_reducible refine le_set ?_ _ _) | (with_reducible refine le_drew ?_) | (with_reducible refine le_drewN ?_ _) | omega | (dsimp only; omega)))) (hb1.mono (by simp; omega))
  have ho1g := ho1.g
  have ho1s := ho1.s
  simp only [World.size_alloc] at ho1g ho1s
  have z1 := hb1.size
  simp at z1
  clear hb1 ho1
  have T3 : w1.there (w.heap.size + 1 + 1) 4 16 := by
    as_aux_lemma =>
      intro j hj
      rw [q2, f2]
      have hj' : j = 0 ∨ j = 1 ∨ j = 2 ∨ j = 3 ∨ j = 4 ∨ j = 5 ∨ j = 6 ∨ j = 7 ∨ j = 8 ∨ j = 9 ∨ j = 10 ∨ j = 11 ∨ j = 12 ∨ j = 13 ∨ j = 14 ∨ j = 15 := by omega
      rcases hj' with rfl | rfl | rfl | rfl | rfl | rfl | rfl | rfl | rfl | rfl | rfl | rfl | rfl | rfl | rfl | rfl <;> simp [go_sem]
  have T2 : w1.there (w.heap.size + 1) 0 20 := by
    as_aux_lemma =>
      intro j hj
      rw [q1, f1]
      have hj' : j = 0 ∨ j = 1 ∨ j = 2 ∨ j = 3 ∨ j = 4 ∨ j = 5 ∨ j = 6 ∨ j = 7 ∨ j = 8 ∨ j = 9 ∨ j = 10 ∨ j = 11 ∨ j = 12 ∨ j = 13 ∨ j = 14 ∨ j = 15 ∨ j = 16 ∨ j = 17 ∨ j = 18 ∨ j = 19 := by omega
      rcases hj' with rfl | rfl | rfl | rfl | rfl | rfl | rfl | rfl | rfl | rfl | rfl | rfl | rfl | rfl | rfl | rfl | rfl | rfl | rfl | rfl <;> simp [go_sem]
  have hk0 : w1.cell? ⟨w.heap.size + 1 + 1, 0, none⟩ = some (.int .i64 x.m) := by first | (simp [q2, go_sem]; done) | (rw [q2]; simp [go_sem]; done) | exact (q2 0).trans rfl
  have hk1 : w1.cell? ⟨w.heap.size + 1 + 1, 1, none⟩ = some (.int .i64 x.d) := by first | (simp [q2, go_sem]; done) | (rw [q2]; simp [go_sem]; done) | exact (q2 0).trans rfl
  have hk2 : w1.cell? ⟨w.heap.size + 1 + 1, 2, none⟩ = some (.int .i64 x.k) := by first | (simp [q2, go_sem]; done) | (rw [q2]; simp [go_sem]; done) | exact (q2 0).trans rfl
  have hk3 : w1.cell? ⟨w.heap.size + 1 + 1, 3, none⟩ = some (.int .i64 x.t) := by first | (simp [q2, go_sem]; done) | (rw [q2]; simp [go_sem]; done) | exact (q2 0).trans rfl
  have R2 := ntL_mid (z := ⟨z.a, A1, c1, B1, d1⟩) hk0 hk1 hk2 hk3 T3
  have B2 := belowW (w.heap.size + 1 + 1) (by omega) (AidG.cells ⟨z.a, A1, c1, B1, d1⟩) 4 w1 bw1
  have G2 := ownW (w.heap.size + 1 + 1) (by omega) (AidG.cells ⟨z.a, A1, c1, B1, d1⟩) 4 w1 ho1g
  have E2 := ownW (w.heap.size + 1 + 1) (by omega) (AidG.cells ⟨z.a, A1, c1, B1, d1⟩) 4 w1 ho1s
  have T4 := World.there_setCells T2 (w.heap.size + 1 + 1) 4 (AidG.cells ⟨z.a, A1, c1, B1, d1⟩)
  obtain ⟨w2, hw2⟩ : ∃ w2, w1.setCells (w.heap.size + 1 + 1) 4 (AidG.cells ⟨z.a, A1, c1, B1, d1⟩) = w2 := ⟨_, rfl⟩
  rw [hw2] at R2 B2 G2 E2 T4
  have R3 := World.rangeAt_setCells_same w2 (w.heap.size + 1) 0 (ntL x ⟨z.a, A1, c1, B1, d1⟩) T4
  have B3 := belowW (w.heap.size + 1) (by omega) (ntL x ⟨z.a, A1, c1, B1, d1⟩) 0 w2 B2
  have G3 := ownW (w.heap.size + 1) (by omega) (ntL x ⟨z.a, A1, c1, B1, d1⟩) 0 w2 G2
  have E3 := ownW (w.heap.size + 1) (by omega) (ntL x ⟨z.a, A1, c1, B1, d1⟩) 0 w2 E2
  obtain ⟨w3, hw3⟩ : ∃ w3, w2.setCells (w.heap.size + 1) 0 (ntL x ⟨z.a, A1, c1, B1, d1⟩) = w3 := ⟨_, rfl⟩
  rw [hw3] at R3 B3 G3 E3
  have ONE : (List.toArray (AidG.cells ⟨z.a, A1, c1, B1, d1⟩)).all (·.oneCell') = true := all_oneCell_toArray (aidg_one _)
  have ONE' : (List.toArray (ntL x ⟨z.a, A1, c1, B1, d1⟩)).all (·.oneCell') = true := all_oneCell_toArray (by simp [AidG.cells, Value.oneCell'])
  have HT3 := Lib.hid T3; clear T3
  have HT4 := Lib.hid T4; clear T4
  have HW2 := Lib.hid hw2; clear hw2
  have HW3 := Lib.hid hw3; clear hw3
  have HONE := Lib.hid ONE; clear ONE
  have HONE' := Lib.hid ONE'; clear ONE'
  have HB3 := Lib.hid B3; clear B3
  have HG3 := Lib.hid G3; clear G3
  have HE3 := Lib.hid E3; clear E3
  have HR2 := Lib.hid R2; clear R2
  have HR3 := Lib.hid R3; clear R3
  clear B2 G2 E2 T2 hk0 hk1 hk2 hk3 q1 q2 f1 f2 bw1 ho1g ho1s HH
  as_aux_lemma =>
    go_wp2_with (first | (refine wpList_store_mid rfl _ _ _ rfl (w.heap.size + 1 + 1) 4 (List.toArray (AidG.cells ⟨z.a, A1, c1, B1, d1⟩)) rfl rfl HT3.out (by kernel_rfl) HONE.out ?_; rw [show w1.setCells (w.heap.size + 1 + 1) 4 (List.toArray (AidG.cells ⟨z.a, A1, c1, B1, d1⟩)).toList = w2 from HW2.out]) | (refine wpList_load_mid rfl _ _ rfl (w.heap.size + 1 + 1) 0 rfl (ntL x ⟨z.a, A1, c1, B1, d1⟩) _ HR2.out Tryz.underlying55 rfl (by kernel_rfl) ?_) | (refine wpList_store_mid rfl _ _ _ rfl (w.heap.size + 1) 0 (List.toArray (ntL x ⟨z.a, A1, c1, B1, d1⟩)) rfl rfl HT4.out (by kernel_rfl) HONE'.out ?_; rw [show w2.setCells (w.heap.size + 1) 0 (List.toArray (ntL x ⟨z.a, A1, c1, B1, d1⟩)).toList = w3 from HW3.out]))
    clear HT3 HT4 HW2 HW3 HONE HONE' HR2
    exact bodyPost_ret (v := ntV x ⟨z.a, A1, c1, B1, d1⟩) (results_cell_mid Tryz.results21 _ w3 (w.heap.size + 1) 0 (ntL x ⟨z.a, A1, c1, B1, d1⟩) _ rfl HR3.out Tryz.underlying55 rfl (by kernel_rfl)) rfl ⟨_, rfl, rfl, ⟨own_base (base := w.heap.size + 1 + 1 + 1) HG3.out (by omega), own_base (base := w.heap.size + 1 + 1 + 1) HE3.out (by omega)⟩, HB3.out⟩
end Go.Proofs.YtafojijhfbnehaaGreatDoor
