/- FnExactSameDuties returns true for every input, and leaves its arguments as they were. No condition. -/
import Derived.Test.YtimbakjajglppaaRows
import Derived.Test.YtimbakjajglppaaLawSameDuties
import Derived.Test.YtimbakjajglppaaOpen
namespace Go.Proofs.Ytimbakjajglppaa.prSameDuties
open Go.ChangeShapes Go.WideShapes Go.ChangeAt Go.RowKit
theorem duty_trod {H : Type} {en : TypeId × Value → H} {w : World} {base : Nat} {spare : Nat → Bool} {held : Bool} (m : Nat) (cs : List Value) (y : DataW H × List MemPlace) (h : DataW.trod en Try.prog w base spare held m 49 cs = some y) :
    ∃ d : Duty, cs = d.cells ∧ d.keeper.size ≤ maxLen := by
  have hl := struct_len Try.underlying49 h 3 (by kernel_rfl)
  match cs, hl with
  | [a, b, c], _ =>
    obtain ⟨_, _, g0⟩ := struct_field Try.underlying49 h 0 _ rfl 1 (by kernel_rfl) [a] rfl
    obtain ⟨_, _, g1⟩ := struct_field Try.underlying49 h 1 _ rfl 1 (by kernel_rfl) [b] rfl
    obtain ⟨_, _, g2⟩ := struct_field Try.underlying49 h 2 _ rfl 1 (by kernel_rfl) [c] rfl
    obtain ⟨s, e0, _, hs⟩ := DataW.trod_string Try.underlying9 g0
    obtain ⟨x1, e1, _, w1⟩ := DataW.trod_int Try.underlying2 g1
    obtain ⟨x2, e2, _, w2⟩ := DataW.trod_int Try.underlying2 g2
    simp only [List.cons.injEq, and_true] at e0 e1 e2
    subst e0 e1 e2
    exact ⟨⟨s, x1, x2⟩, rfl, hs⟩
theorem own : ownKnob Try.prog.godebug = none := by kernel_rfl
theorem laidOut : laidOutB Try.prog = true := by kernel_rfl
set_option maxRecDepth 100000 in
theorem lifted (os : Os) (started : os.Started) (H : Type) (enc : TypeId × Value → H) :
    ReturnsInHanded {} Try.checked os 3 .any (Rows.fnExactSameDutiesSpec.pre6 enc Try.prog Try.f3 Rows.fnExactSameDutiesRow.domain false) (Rows.fnExactSameDutiesSpec.post enc Try.prog Try.f3 false true false false) := by
  refine returnsInHanded_of_change (C := Try.checked) own started (by kernel_rfl) Try.func3
    (ChangeSpec.witness6 (enc := enc) (C := Try.checked) false ⟨#[], #[.slice none 0 0, .slice none 0 0], []⟩ 8 (by kernel_rfl) (by kernel_rfl) (by kernel_rfl) (by kernel_rfl)) ?_
  intro W base args ds gs before hval0 hW hcnd _
  have hval : ∀ (j : Nat) t v, Try.f3.params[j]? = some t → args[j]? = some v → Value.okWide Try.prog W .any base t v := hval0
  have hW' := hW
  obtain ⟨p, q, hA0, hV, rfl, hfz, hnd⟩ := hW
  have hA : DataW.TrodAll enc Try.prog W 0 (fun _ => true) true Try.f3.params.toList args.toList ds p := hA0
  rw [Try.params3] at hA hval
  obtain ⟨v0, vs0, d0, ds0, p0, q0, hargs, rfl, rfl, h0, r0⟩ := trodAll_cons hA
  obtain ⟨v1, vs1, d1, ds1, p1, q1, rfl, rfl, rfl, h1, r1⟩ := trodAll_cons r0
  obtain ⟨rfl, rfl, rfl⟩ := trodAll_nil r1
  obtain rfl : args = #[v0, v1] := by cases args; simp_all
  obtain ⟨rfl, rfl⟩ := trodVars_none hV
  obtain ⟨a0, n0, c0, rfl⟩ := okWide_slice Try.underlying22 (hval 0 22 v0 rfl rfl)
  obtain ⟨a1, n1, c1, rfl⟩ := okWide_slice Try.underlying22 (hval 1 22 v1 rfl rfl)
  have k0 := h0
  have lt0 : ∀ x ∈ p0, x.block < W.heap.size := by obtain ⟨m, hm⟩ := k0; exact DataW.trod_lt m _ _ _ hm
  have k1 := h1
  have lt1 : ∀ x ∈ p1, x.block < W.heap.size := by obtain ⟨m, hm⟩ := k1; exact DataW.trod_lt m _ _ _ hm
  obtain ⟨m0, xs, s0, ok0⟩ : n0 ≤ maxLen ∧ ∃ xs : List Duty, Sl W W.heap.size 3 a0 n0 (xs.flatMap Duty.cells) ∧ ∀ d ∈ xs, d.keeper.size ≤ maxLen := by
    obtain ⟨fuel, hf⟩ := h0
    exact open_Sl Duty.cells 3 Duty.cells_len (by omega) (fun d => d.keeper.size ≤ maxLen) Try.underlying22 (by kernel_rfl) duty_trod (by simpa [Value.cells] using hf)
  obtain ⟨m1, ys, s1, ok1⟩ : n1 ≤ maxLen ∧ ∃ xs : List Duty, Sl W W.heap.size 3 a1 n1 (xs.flatMap Duty.cells) ∧ ∀ d ∈ xs, d.keeper.size ≤ maxLen := by
    obtain ⟨fuel, hf⟩ := h1
    exact open_Sl Duty.cells 3 Duty.cells_len (by omega) (fun d => d.keeper.size ≤ maxLen) Try.underlying22 (by kernel_rfl) duty_trod (by simpa [Value.cells] using hf)
  refine (lawSameDuties_c a0 a1 n0 n1 c0 c1 xs ys W s0 s1 m0 m1 ok0 ok1).mono fun e W' ⟨he, bel⟩ => ?_
  subst he
  exact ⟨_, rfl, _, _, _, [], _, [], hW', trodAll_mk1 (shut_bool Try.underlying4 _), (trodAll_cons_mk (Below.trod laidOut (by kernel_rfl) (of_decide_eq_true (by kernel_rfl)) k0 bel lt0) (trodAll_cons_mk (Below.trod laidOut (by kernel_rfl) (of_decide_eq_true (by kernel_rfl)) k1 bel lt1) trodAll_mk0)), rfl, bel.frame _, fun h => by cases h⟩
theorem holds : Rows.FnExactSameDutiesSaid :=
  OpenClaim.holds_of_wide 3 Try.f3 rfl rfl rfl rfl rfl rfl rfl ⟨rfl, rfl, rfl, rfl, rfl⟩ rfl rfl rfl rfl rfl (by kernel_rfl) Try.func3 (by kernel_rfl)
    (of_decide_eq_true (by kernel_rfl)) (by unfold Func.isWrapper; first | (rw [if_pos (by decide +kernel)]; kernel_rfl) | (rw [if_neg (by decide +kernel)]; exact ⟨rfl, rfl⟩))
    (fun os started H enc _ => lifted os started H enc)
#print axioms holds
end Go.Proofs.Ytimbakjajglppaa.prSameDuties
