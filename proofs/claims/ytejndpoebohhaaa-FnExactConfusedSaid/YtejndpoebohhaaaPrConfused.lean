/- FnExactConfused returns true for every input, and leaves its arguments as they were. No condition. -/
import Derived.Test.YtejndpoebohhaaaRows
import Derived.Test.YtejndpoebohhaaaLawConfused
import Derived.Test.YtejndpoebohhaaaOpC
namespace Go.Proofs.Ytejndpoebohhaaa.prConfused
open Go.ChangeShapes Go.WideShapes Go.ChangeAt Go.RowKit
theorem own : ownKnob Try.prog.godebug = none := by kernel_rfl
theorem laidOut : laidOutB Try.prog = true := by kernel_rfl
set_option maxRecDepth 100000 in
theorem lifted (os : Os) (started : os.Started) (H : Type) (enc : TypeId × Value → H) :
    ReturnsInHanded {} Try.checked os 3 .any (Rows.fnExactConfusedSpec.pre6 enc Try.prog Try.f3 Rows.fnExactConfusedRow.domain false) (Rows.fnExactConfusedSpec.post enc Try.prog Try.f3 false true false false) := by
  refine returnsInHanded_of_change (C := Try.checked) own started (by kernel_rfl) Try.func3
    (ChangeSpec.witness6 (enc := enc) (C := Try.checked) false ⟨#[], #[.agg #[.int .i64 0, .slice none 0 0, .string ByteArray.empty, .string ByteArray.empty, .int .i64 0], .agg #[.int .i64 0, .slice none 0 0, .string ByteArray.empty, .string ByteArray.empty, .int .i64 0], .int .i64 0], []⟩ 8 (by kernel_rfl) (by kernel_rfl) (by kernel_rfl) (by kernel_rfl)) ?_
  intro W base args ds gs before hval0 hW hcnd _
  have hval : ∀ (j : Nat) t v, Try.f3.params[j]? = some t → args[j]? = some v → Value.okWide Try.prog W .any base t v := hval0
  have hW' := hW
  obtain ⟨p, q, hA0, hV, rfl, hfz, hnd⟩ := hW
  have hA : DataW.TrodAll enc Try.prog W 0 (fun _ => true) true Try.f3.params.toList args.toList ds p := hA0
  rw [Try.params3] at hA hval
  obtain ⟨v0, vs0, d0, ds0, p0, q0, hargs, rfl, rfl, h0, r0⟩ := trodAll_cons hA
  obtain ⟨v1, vs1, d1, ds1, p1, q1, rfl, rfl, rfl, h1, r1⟩ := trodAll_cons r0
  obtain ⟨v2, vs2, d2, ds2, p2, q2, rfl, rfl, rfl, h2, r2⟩ := trodAll_cons r1
  obtain ⟨rfl, rfl, rfl⟩ := trodAll_nil r2
  obtain rfl : args = #[v0, v1, v2] := by cases args; simp_all
  obtain ⟨rfl, rfl⟩ := trodVars_none hV
  obtain ⟨cs0, rfl, hcs0⟩ := okWide_struct Try.underlying24 (hval 0 24 v0 rfl rfl)
  obtain ⟨cs1, rfl, hcs1⟩ := okWide_struct Try.underlying24 (hval 1 24 v1 rfl rfl)
  have k0 := h0
  have lt0 : ∀ x ∈ p0, x.block < W.heap.size := by obtain ⟨m, hm⟩ := k0; exact DataW.trod_lt m _ _ _ hm
  have k1 := h1
  have lt1 : ∀ x ∈ p1, x.block < W.heap.size := by obtain ⟨m, hm⟩ := k1; exact DataW.trod_lt m _ _ _ hm
  obtain ⟨k, a0, n0, c0, l, cl, p, gs, hce, s0, m0, hl0, hs0⟩ : ∃ k A n c l s p, ∃ gs : List Int, cs0.toList = [.int .i64 k, .slice A n c, .string l, .string s, .int .i64 p] ∧ Sl W W.heap.size 1 A n (gs.flatMap intC) ∧ n ≤ maxLen ∧ l.size ≤ maxLen ∧ s.size ≤ maxLen := by
    obtain ⟨fuel, hf⟩ := h0
    exact character_trod _ _ _ (by simpa [Value.cells] using hf)
  obtain ⟨k', a1, n1, c1, l', cl', p', gs', hce', s1, m1, hl1, hs1⟩ : ∃ k A n c l s p, ∃ gs : List Int, cs1.toList = [.int .i64 k, .slice A n c, .string l, .string s, .int .i64 p] ∧ Sl W W.heap.size 1 A n (gs.flatMap intC) ∧ n ≤ maxLen ∧ l.size ≤ maxLen ∧ s.size ≤ maxLen := by
    obtain ⟨fuel, hf⟩ := h1
    exact character_trod _ _ _ (by simpa [Value.cells] using hf)
  obtain rfl : cs0 = #[.int .i64 k, .slice a0 n0 c0, .string l, .string cl, .int .i64 p] := Array.ext' hce
  obtain rfl : cs1 = #[.int .i64 k', .slice a1 n1 c1, .string l', .string cl', .int .i64 p'] := Array.ext' hce'
  obtain ⟨x2, rfl, rfl, rfl, wx2⟩ := open_int Try.underlying2 (hval 2 2 v2 rfl rfl) h2
  refine (lawConfused_c a0 n0 c0 ⟨k, gs, l, cl, p⟩ a1 n1 c1 ⟨k', gs', l', cl', p'⟩ x2 W s0 m0 hl0 hs0 s1 m1 hl1 hs1).mono fun e W' ⟨he, bel⟩ => ?_
  subst he
  exact ⟨_, rfl, _, _, _, [], _, [], hW', trodAll_mk1 (shut_bool Try.underlying4 _), (trodAll_cons_mk (Below.trod laidOut (by kernel_rfl) (of_decide_eq_true (by kernel_rfl)) k0 bel lt0) (trodAll_cons_mk (Below.trod laidOut (by kernel_rfl) (of_decide_eq_true (by kernel_rfl)) k1 bel lt1) (trodAll_cons_mk (shut_int Try.underlying2 wx2) trodAll_mk0))), rfl, bel.frame _, fun h => by cases h⟩
theorem holds : Rows.FnExactConfusedSaid :=
  OpenClaim.holds_of_wide 3 Try.f3 rfl rfl rfl rfl rfl rfl rfl ⟨rfl, rfl, rfl, rfl, rfl⟩ rfl rfl rfl rfl rfl (by kernel_rfl) Try.func3 (by kernel_rfl)
    (of_decide_eq_true (by kernel_rfl)) (by unfold Func.isWrapper; first | (rw [if_pos (by decide +kernel)]; kernel_rfl) | (rw [if_neg (by decide +kernel)]; exact ⟨rfl, rfl⟩))
    (fun os started H enc _ => lifted os started H enc)
#print axioms holds
end Go.Proofs.Ytejndpoebohhaaa.prConfused
