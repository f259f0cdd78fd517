/- The laws' own functions over a Station. -/
import Derived.Test.YtpgcgmbjlecnpaaGreatSta
import Derived.Test.YtpgcgmbjlecnpaaGreatChOpen
namespace Go.Proofs.YtpgcgmbjlecnpaaGreat
open Go.RowKit Go.ChangeShapes Go.WideShapes Go.ChangeAt Go.Deep
set_option maxRecDepth 100000 in
set_option maxHeartbeats 400000 in
theorem toStation_c (s : St) (w : World) : Calls Tryz.prog 10 #[stV s] w fun e w' => e = .returned (stV s) ∧ Below w.heap.size w w' := by
  go_enter Tryz.func10, Tryz.ntmps10
  go_wp2
  refine bodyPost_ret (v := stV s) (by simp [results, Tryz.results10, go_sem]) rfl ⟨rfl, ?_⟩
  (repeat (first | (with_reducible assumption) | (with_reducible exact Below.refl _ _) | exact Nat.le_refl _ | exact Below.size (by with_reducible assumption) | (with_reducible refine Below.drew ?_) | (with_reducible refine below_drewN ?_ _) | (with_reducible refine Below.alloc ?_ ?_ _) | (with_reducible refine Below.setCell ?_ ?_ _) | (with_reducible refine le_alloc ?_ _) | (with_reducible refine le_set ?_ _ _) | (with_reducible refine le_drew ?_) | (with_reducible refine le_drewN ?_ _) | omega | (dsimp only; omega)))
theorem law_box {A : Option Addr} {n c : Nat} (w : World) (s : St) (x : Ch) (E1 E2 : TypeId) :
    let W := (w.alloc (.cells #[.int .i64 s.la, .int .i64 s.sb, .int .i64 s.ba, .int .i64 s.pa, .int .i64 s.sh] E1)).alloc (.cells #[.int .i64 x.k, .slice A n c, .string x.l, .string x.cs, .int .i64 x.p] E2)
    W.cell? ⟨w.heap.size, 0, none⟩ = some (.int .i64 s.la) ∧ W.cell? ⟨w.heap.size, 1, none⟩ = some (.int .i64 s.sb) ∧ W.cell? ⟨w.heap.size, 2, none⟩ = some (.int .i64 s.ba) ∧ W.cell? ⟨w.heap.size, 3, none⟩ = some (.int .i64 s.pa) ∧ W.cell? ⟨w.heap.size, 4, none⟩ = some (.int .i64 s.sh) ∧
    W.cell? ⟨w.heap.size + 1, 0, none⟩ = some (.int .i64 x.k) ∧ W.cell? ⟨w.heap.size + 1, 1, none⟩ = some (.slice A n c) ∧ W.cell? ⟨w.heap.size + 1, 2, none⟩ = some (.string x.l) ∧ W.cell? ⟨w.heap.size + 1, 3, none⟩ = some (.string x.cs) ∧ W.cell? ⟨w.heap.size + 1, 4, none⟩ = some (.int .i64 x.p) := by
  intro W
  have hb2 : Below (w.alloc (stO s E1)).heap.size (w.alloc (stO s E1)) W := by
    show Below _ _ ((w.alloc (stO s E1)).alloc _)
    (repeat (first | (with_reducible assumption) | (with_reducible exact Below.refl _ _) | exact Nat.le_refl _ | exact Below.size (by with_reducible assumption) | (with_reducible refine Below.drew ?_) | (with_reducible refine below_drewN ?_ _) | (with_reducible refine Below.alloc ?_ ?_ _) | (with_reducible refine Below.setCell ?_ ?_ _) | (with_reducible refine le_alloc ?_ _) | (with_reducible refine le_set ?_ _ _) | (with_reducible refine le_drew ?_) | (with_reducible refine le_drewN ?_ _) | omega | (dsimp only; omega)))
  obtain ⟨a0, a1, a2, a3, a4, _⟩ := (stp_box w s E1).next hb2
  have hb : W.heap[w.heap.size + 1]? = some (.cells #[.int .i64 x.k, .slice A n c, .string x.l, .string x.cs, .int .i64 x.p] E2 (0, 0)) := by
    have := heap_alloc_new (w.alloc (stO s E1)) (.cells #[.int .i64 x.k, .slice A n c, .string x.l, .string x.cs, .int .i64 x.p] E2)
    rw [World.size_alloc] at this
    exact this
  refine ⟨a0, a1, a2, a3, a4, ?_, ?_, ?_, ?_, ?_⟩
  all_goals
    rw [cell_of_row _ (w.heap.size + 1) _ _ E2 (0, 0) hb]
    rfl
theorem station_trod {H : Type} {en : TypeId × Value → H} {w : World} {base : Nat} {spare : Nat → Bool} {held : Bool} (m : Nat) (cs : List Value) (y : DataW H × List MemPlace) (h : DataW.trod en Tryz.prog w base spare held m 23 cs = some y) :
    ∃ s : St, cs = [.int .i64 s.la, .int .i64 s.sb, .int .i64 s.ba, .int .i64 s.pa, .int .i64 s.sh] := by
  have hl := struct_len Tryz.underlying23 h 5 (by kernel_rfl)
  match cs, hl with
  | [a, b, c, d, f], _ =>
    obtain ⟨_, _, g0⟩ := struct_field Tryz.underlying23 h 0 _ rfl 1 (by kernel_rfl) [a] rfl
    obtain ⟨_, _, g1⟩ := struct_field Tryz.underlying23 h 1 _ rfl 1 (by kernel_rfl) [b] rfl
    obtain ⟨_, _, g2⟩ := struct_field Tryz.underlying23 h 2 _ rfl 1 (by kernel_rfl) [c] rfl
    obtain ⟨_, _, g3⟩ := struct_field Tryz.underlying23 h 3 _ rfl 1 (by kernel_rfl) [d] rfl
    obtain ⟨_, _, g4⟩ := struct_field Tryz.underlying23 h 4 _ rfl 1 (by kernel_rfl) [f] rfl
    obtain ⟨x0, e0, _, _⟩ := DataW.trod_int Tryz.underlying2 g0
    obtain ⟨x1, e1, _, _⟩ := DataW.trod_int Tryz.underlying2 g1
    obtain ⟨x2, e2, _, _⟩ := DataW.trod_int Tryz.underlying2 g2
    obtain ⟨x3, e3, _, _⟩ := DataW.trod_int Tryz.underlying2 g3
    obtain ⟨x4, e4, _, _⟩ := DataW.trod_int Tryz.underlying2 g4
    simp only [List.cons.injEq, and_true] at e0 e1 e2 e3 e4
    subst e0 e1 e2 e3 e4
    exact ⟨⟨x0, x1, x2, x3, x4⟩, rfl⟩
end Go.Proofs.YtpgcgmbjlecnpaaGreat
