/- Corrections: the move into memory of its own. -/
import Derived.Test.YtaooidgmphbegaaGreatDoorAidEq
import Derived.Deep.MidRow
namespace Go.Proofs.YtaooidgmphbegaaGreatDoor
open Go.RowKit
abbrev corV (k : Int) (z : AidG) : Value := .agg #[.int .i64 k, .int .i64 z.a.num, .string z.a.nm, .int .i64 z.a.x, .int .i64 z.a.y, .int .i64 z.a.h, .int .i64 z.a.mr.k, .string z.a.mr.cs, .string z.a.mr.sh, .string z.a.mr.tp, .int .i64 z.a.ch.k, .slice z.A z.n z.c, .string z.a.ch.l, .string z.a.ch.cs, .int .i64 z.a.ch.p, .slice z.B z.m z.d, .int .i64 z.a.it]
abbrev corO (k : Int) (z : AidG) (E : TypeId) : Obj := .cells #[.int .i64 k, .int .i64 z.a.num, .string z.a.nm, .int .i64 z.a.x, .int .i64 z.a.y, .int .i64 z.a.h, .int .i64 z.a.mr.k, .string z.a.mr.cs, .string z.a.mr.sh, .string z.a.mr.tp, .int .i64 z.a.ch.k, .slice z.A z.n z.c, .string z.a.ch.l, .string z.a.ch.cs, .int .i64 z.a.ch.p, .slice z.B z.m z.d, .int .i64 z.a.it] E
theorem size_setCells (b : Nat) : ∀ (vs : List Value) (o : Nat) (w : World), (w.setCells b o vs).heap.size = w.heap.size
  | [], _, _ => rfl
  | v :: r, o, w => by rw [World.setCells, size_setCells b r (o + 1) _]; simp
theorem below_setCells {B : Nat} {a : World} (b : Nat) (hB : B ≤ b) : ∀ (vs : List Value) (o : Nat) (w : World), Below B a w → Below B a (w.setCells b o vs)
  | [], _, _, h => h
  | v :: r, o, w, h => by rw [World.setCells]; exact below_setCells b hB r (o + 1) _ (h.setCell (p := ⟨b, o, none⟩) hB v)
theorem own_setCells {base : Nat} {e : TypeId} {size : Nat} {v : Value} {n : Nat} {xs : List Value} (b : Nat) (hB : b < base) : ∀ (vs : List Value) (o : Nat) (w : World), w.ownsRow base e size v n xs → (w.setCells b o vs).ownsRow base e size v n xs
  | [], _, _, h => h
  | u :: r, o, w, h => by rw [World.setCells]; exact own_setCells b hB r (o + 1) _ (ownsRow_setCell_below h (a := ⟨b, o, none⟩) hB u)
theorem there_same {w : World} {b : Nat} (b' o' : Nat) (vs : List Value) {o n : Nat} (h : w.there b o n) : (w.setCells b' o' vs).there b o n := fun j hj =>
  ⟨World.isSome_setCells b' vs o' w _ (h j hj).1, (World.frozen?_setCells b' vs o' w _).trans (h j hj).2⟩
abbrev corL (k : Int) (z : AidG) : List Value := .int .i64 k :: z.cells
theorem corP_of {w : World} {b : Nat} {k : Int} {z : AidG} (h : w.rangeAt b 0 (corL k z)) (hb : b < w.heap.size) : w.cell? ⟨b, 0, none⟩ = some (.int .i64 k) ∧ AidP w b 1 z :=
  ⟨h 0 _ rfl, h 1 _ rfl, h 2 _ rfl, h 3 _ rfl, h 4 _ rfl, h 5 _ rfl, h 6 _ rfl, h 7 _ rfl, h 8 _ rfl, h 9 _ rfl, h 10 _ rfl, h 11 _ rfl, h 12 _ rfl, h 13 _ rfl, h 14 _ rfl, h 15 _ rfl, h 16 _ rfl, hb⟩
theorem corL_mid {w : World} {b : Nat} {k : Int} {z : AidG} (h0 : w.cell? ⟨b, 0, none⟩ = some (.int .i64 k)) (ht : w.there b 1 16) : (w.setCells b 1 z.cells).rangeAt b 0 (corL k z)
  | 0, v, hv => by
    rw [World.cell?_setCells_out b _ 1 w _ (fun _ _ => .inl (by simp))]
    exact h0.trans hv
  | j + 1, v, hv => by
    have := World.rangeAt_setCells_same w b 1 z.cells ht j v hv
    rwa [show 1 + j = 0 + (j + 1) by omega] at this
set_option maxRecDepth 100000 in
set_option maxHeartbeats 2000000 in
theorem toCorrection_c (k : Int) (z : AidG) (w : World) (h : AidOk w z) :
    Calls Tryz.prog 24 #[corV k z] w fun e w' => ∃ z' : AidG, e = .returned (corV k z') ∧ z'.a = z.a ∧ AidNew w' w.heap.size z' ∧ Below w.heap.size w w' := by
  have hh : ∀ w', Below w.heap.size w w' → AidOk w' z := fun w' hb => h.next hb
  have HH := Lib.hid hh; clear hh
  clear h
  go_enter Tryz.func24, Tryz.ntmps24
  go_wp2_with fail
  refine (toAid_c z _ (HH.out _ (by (repeat (first | (with_reducible assumption) | (with_reducible exact Below.refl _ _) | exact Nat.le_refl _ | exact Below.size (by with_reducible assumption) | (with_reducible refine Below.drew ?_) | (with_reducible refine below_drewN ?_ _) | (with_reducible refine Below.alloc ?_ ?_ _) | (with_reducible refine Below.setCell ?_ ?_ _) | (with_reducible refine le_alloc ?_ _) | (with_reducible refine le_set ?_ _ _) | (with_reducible refine le_drew ?_) | (with_reducible refine le_drewN ?_ _) | omega | (dsimp only; omega)))))).mono ?_
  rintro e w1 ⟨⟨a1, A1, c1, B1, d1⟩, rfl, ha1, ho1, hb1⟩
  simp only at ha1
  subst ha1
  have q1 := keepC hb1 (w.heap.size + 1) (by simp)
  have q2 := keepC hb1 (w.heap.size + 1 + 1) (by simp)
  have f1 := keepF hb1 (w.heap.size + 1) (by simp)
  have f2 := keepF hb1 (w.heap.size + 1 + 1) (by simp)
  have bw1 : Below w.heap.size w w1 := Below.trans (by (repeat (first | (with_reducible assumption) | (with_reducible exact Below.refl _ _) | exact Nat.le_refl _ | exact Below.size (by with_reducible assumption) | (with_reducible refine Below.drew ?_) | (with_reducible refine below_drewN ?_ _) | (with_reducible refine Below.alloc ?_ ?_ _) | (with_reducible refine Below.setCell ?_ ?_ _) | (with_reducible refine le_alloc ?_ _) | (with_reducible refine le_set ?_ _ _) | (with_reducible refine le_drew ?_) | (with_reducible refine le_drewN ?_ _) | omega | (dsimp only; omega)))) (hb1.mono (by simp; omega))
  have ho1g := ho1.g
  have ho1s := ho1.s
  simp only [World.size_alloc] at ho1g ho1s
  have z1 := hb1.size
  simp at z1
  clear hb1 ho1
  have T3 : w1.there (w.heap.size + 1 + 1) 1 16 := by
    as_aux_lemma =>
      intro j hj
      rw [q2, f2]
      have hj' : j = 0 ∨ j = 1 ∨ j = 2 ∨ j = 3 ∨ j = 4 ∨ j = 5 ∨ j = 6 ∨ j = 7 ∨ j = 8 ∨ j = 9 ∨ j = 10 ∨ j = 11 ∨ j = 12 ∨ j = 13 ∨ j = 14 ∨ j = 15 := by omega
      rcases hj' with rfl | rfl | rfl | rfl | rfl | rfl | rfl | rfl | rfl | rfl | rfl | rfl | rfl | rfl | rfl | rfl <;> simp [go_sem]
  have T2 : w1.there (w.heap.size + 1) 0 17 := by
    as_aux_lemma =>
      intro j hj
      rw [q1, f1]
      have hj' : j = 0 ∨ j = 1 ∨ j = 2 ∨ j = 3 ∨ j = 4 ∨ j = 5 ∨ j = 6 ∨ j = 7 ∨ j = 8 ∨ j = 9 ∨ j = 10 ∨ j = 11 ∨ j = 12 ∨ j = 13 ∨ j = 14 ∨ j = 15 ∨ j = 16 := by omega
      rcases hj' with rfl | rfl | rfl | rfl | rfl | rfl | rfl | rfl | rfl | rfl | rfl | rfl | rfl | rfl | rfl | rfl | rfl <;> simp [go_sem]
  have hk : w1.cell? ⟨w.heap.size + 1 + 1, 0, none⟩ = some (.int .i64 k) := by first | (simp [q2, go_sem]; done) | (rw [q2]; simp [go_sem]; done) | exact (q2 0).trans rfl
  have R2 := corL_mid (z := ⟨z.a, A1, c1, B1, d1⟩) hk T3
  have B2 := below_setCells (w.heap.size + 1 + 1) (by omega) (AidG.cells ⟨z.a, A1, c1, B1, d1⟩) 1 w1 bw1
  have S2 := size_setCells (w.heap.size + 1 + 1) (AidG.cells ⟨z.a, A1, c1, B1, d1⟩) 1 w1
  have G2 := own_setCells (w.heap.size + 1 + 1) (by omega) (AidG.cells ⟨z.a, A1, c1, B1, d1⟩) 1 w1 ho1g
  have E2 := own_setCells (w.heap.size + 1 + 1) (by omega) (AidG.cells ⟨z.a, A1, c1, B1, d1⟩) 1 w1 ho1s
  have T4 := there_same (w.heap.size + 1 + 1) 1 (AidG.cells ⟨z.a, A1, c1, B1, d1⟩) T2
  obtain ⟨w2, hw2⟩ : ∃ w2, w1.setCells (w.heap.size + 1 + 1) 1 (AidG.cells ⟨z.a, A1, c1, B1, d1⟩) = w2 := ⟨_, rfl⟩
  rw [hw2] at R2 B2 S2 G2 E2 T4
  have R3 := World.rangeAt_setCells_same w2 (w.heap.size + 1) 0 (corL k ⟨z.a, A1, c1, B1, d1⟩) T4
  have B3 := below_setCells (w.heap.size + 1) (by omega) (corL k ⟨z.a, A1, c1, B1, d1⟩) 0 w2 B2
  have S3 := size_setCells (w.heap.size + 1) (corL k ⟨z.a, A1, c1, B1, d1⟩) 0 w2
  have G3 := own_setCells (w.heap.size + 1) (by omega) (corL k ⟨z.a, A1, c1, B1, d1⟩) 0 w2 G2
  have E3 := own_setCells (w.heap.size + 1) (by omega) (corL k ⟨z.a, A1, c1, B1, d1⟩) 0 w2 E2
  obtain ⟨w3, hw3⟩ : ∃ w3, w2.setCells (w.heap.size + 1) 0 (corL k ⟨z.a, A1, c1, B1, d1⟩) = w3 := ⟨_, rfl⟩
  rw [hw3] at R3 B3 S3 G3 E3
  obtain ⟨k2, c0, c1', c2, c3, c4, c5, c6, c7, c8, c9, c10, c11, c12, c13, c14, c15, _⟩ := corP_of R2 (by omega)
  obtain ⟨k3, g0, g1, g2, g3, g4, g5, g6, g7, g8, g9, g10, g11, g12, g13, g14, g15, _⟩ := corP_of R3 (by omega)
  have ONE : (List.toArray (AidG.cells ⟨z.a, A1, c1, B1, d1⟩)).all (·.oneCell') = true := all_oneCell_toArray (aidg_one _)
  have ONE' : (List.toArray (corL k ⟨z.a, A1, c1, B1, d1⟩)).all (·.oneCell') = true := all_oneCell_toArray (fun v hv => by rcases List.mem_cons.1 hv with rfl | hv; exact rfl; exact aidg_one _ v hv)
  have HT3 := Lib.hid T3; clear T3
  have HT4 := Lib.hid T4; clear T4
  have HW2 := Lib.hid hw2; clear hw2
  have HW3 := Lib.hid hw3; clear hw3
  have HONE := Lib.hid ONE; clear ONE
  have HONE' := Lib.hid ONE'; clear ONE'
  have HB3 := Lib.hid B3; clear B3
  have HG3 := Lib.hid G3; clear G3
  have HE3 := Lib.hid E3; clear E3
  clear R2 R3 B2 S2 S3 G2 E2 T2 hk q1 q2 f1 f2 bw1 ho1g ho1s
  as_aux_lemma =>
    go_wp2_with (first | (refine wpList_store_mid rfl _ _ _ rfl (w.heap.size + 1 + 1) 1 (List.toArray (AidG.cells ⟨z.a, A1, c1, B1, d1⟩)) rfl rfl HT3.out (by kernel_rfl) HONE.out ?_; rw [show w1.setCells (w.heap.size + 1 + 1) 1 (List.toArray (AidG.cells ⟨z.a, A1, c1, B1, d1⟩)).toList = w2 from HW2.out]) | (refine wpList_store_mid rfl _ _ _ rfl (w.heap.size + 1) 0 (List.toArray (corL k ⟨z.a, A1, c1, B1, d1⟩)) rfl rfl HT4.out (by kernel_rfl) HONE'.out ?_; rw [show w2.setCells (w.heap.size + 1) 0 (List.toArray (corL k ⟨z.a, A1, c1, B1, d1⟩)).toList = w3 from HW3.out]))
    refine bodyPost_ret (v := corV k ⟨z.a, A1, c1, B1, d1⟩) (by simp [results, Tryz.results24, go_sem, *]) rfl ⟨_, rfl, rfl, ⟨?_, ?_⟩, HB3.out⟩
    · exact own_base (base := w.heap.size + 1 + 1 + 1) HG3.out (by omega)
    · exact own_base (base := w.heap.size + 1 + 1 + 1) HE3.out (by omega)
end Go.Proofs.YtaooidgmphbegaaGreatDoor
