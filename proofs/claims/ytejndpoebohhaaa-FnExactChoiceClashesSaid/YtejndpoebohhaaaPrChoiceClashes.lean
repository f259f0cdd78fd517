/- FnExactChoiceClashes returns true for every input, and leaves its arguments as they were. No condition. -/
import Derived.Test.YtejndpoebohhaaaRows
import Derived.Test.YtejndpoebohhaaaLawChoiceClashes
import Derived.Test.YtejndpoebohhaaaOpC
namespace Go.Proofs.Ytejndpoebohhaaa.prChoiceClashes
open Go.ChangeShapes Go.WideShapes Go.ChangeAt Go.RowKit
theorem own : ownKnob Try.prog.godebug = none := by kernel_rfl
theorem laidOut : laidOutB Try.prog = true := by kernel_rfl
set_option maxRecDepth 100000 in
theorem lifted (os : Os) (started : os.Started) (H : Type) (enc : TypeId × Value → H) :
    ReturnsInHanded {} Try.checked os 4 .any (Rows.fnExactChoiceClashesSpec.pre6 enc Try.prog Try.f4 Rows.fnExactChoiceClashesRow.domain false) (Rows.fnExactChoiceClashesSpec.post enc Try.prog Try.f4 false true false false) := by
  refine returnsInHanded_of_change (C := Try.checked) own started (by kernel_rfl) Try.func4
    (ChangeSpec.witness6 (enc := enc) (C := Try.checked) false ⟨#[], #[.slice none 0 0, .int .i64 0], []⟩ 8 (by kernel_rfl) (by kernel_rfl) (by kernel_rfl) (by kernel_rfl)) ?_
  intro W base args ds gs before hval0 hW hcnd _
  have hval : ∀ (j : Nat) t v, Try.f4.params[j]? = some t → args[j]? = some v → Value.okWide Try.prog W .any base t v := hval0
  have hW' := hW
  obtain ⟨p, q, hA0, hV, rfl, hfz, hnd⟩ := hW
  have hA : DataW.TrodAll enc Try.prog W 0 (fun _ => true) true Try.f4.params.toList args.toList ds p := hA0
  rw [Try.params4] at hA hval
  obtain ⟨v0, vs0, d0, ds0, p0, q0, hargs, rfl, rfl, h0, r0⟩ := trodAll_cons hA
  obtain ⟨v1, vs1, d1, ds1, p1, q1, rfl, rfl, rfl, h1, r1⟩ := trodAll_cons r0
  obtain ⟨rfl, rfl, rfl⟩ := trodAll_nil r1
  obtain rfl : args = #[v0, v1] := by cases args; simp_all
  obtain ⟨rfl, rfl⟩ := trodVars_none hV
  obtain ⟨a0, n0, c0, rfl⟩ := okWide_slice Try.underlying32 (hval 0 32 v0 rfl rfl)
  have k0 := h0
  have lt0 : ∀ x ∈ p0, x.block < W.heap.size := by obtain ⟨m, hm⟩ := k0; exact DataW.trod_lt m _ _ _ hm
  obtain ⟨m0, zs, s0, okz⟩ : n0 ≤ maxLen ∧ ∃ zs : List ChG, Sl W W.heap.size 5 a0 n0 (zs.flatMap ChG.cells) ∧ ∀ z ∈ zs, Sl W W.heap.size 1 z.A z.n (z.x.gs.flatMap intC) ∧ z.n ≤ maxLen ∧ z.x.l.size ≤ maxLen ∧ z.x.cs.size ≤ maxLen := by
    obtain ⟨fuel, hf⟩ := h0
    refine open_Sl ChG.cells 5 ChG.cells_len (by omega) (fun z => Sl W W.heap.size 1 z.A z.n (z.x.gs.flatMap intC) ∧ z.n ≤ maxLen ∧ z.x.l.size ≤ maxLen ∧ z.x.cs.size ≤ maxLen) Try.underlying32 (by kernel_rfl) (fun m cs y hy => ?_) (by simpa [Value.cells] using hf)
    obtain ⟨k, A, n, c, l, s, p, gs, rfl, s1, m1, hl1, hs1⟩ := character_trod m cs y hy
    have hgl : gs.length = n := s1.len intC 1 intC_len (by omega)
    subst hgl
    exact ⟨⟨⟨k, gs, l, s, p⟩, A, c⟩, rfl, s1, m1, hl1, hs1⟩
  obtain ⟨x1, rfl, rfl, rfl, wx1⟩ := open_int Try.underlying2 (hval 1 2 v1 rfl rfl) h1
  refine (lawChoiceClashes_c a0 n0 c0 zs x1 W s0 m0 (fun z hz => (okz z hz).1) (fun z hz => (okz z hz).2)).mono fun e W' ⟨he, bel⟩ => ?_
  subst he
  exact ⟨_, rfl, _, _, _, [], _, [], hW', trodAll_mk1 (shut_bool Try.underlying4 _), (trodAll_cons_mk (Below.trod laidOut (by kernel_rfl) (of_decide_eq_true (by kernel_rfl)) k0 bel lt0) (trodAll_cons_mk (shut_int Try.underlying2 wx1) trodAll_mk0)), rfl, bel.frame _, fun h => by cases h⟩
theorem holds : Rows.FnExactChoiceClashesSaid :=
  OpenClaim.holds_of_wide 4 Try.f4 rfl rfl rfl rfl rfl rfl rfl ⟨rfl, rfl, rfl, rfl, rfl⟩ rfl rfl rfl rfl rfl (by kernel_rfl) Try.func4 (by kernel_rfl)
    (of_decide_eq_true (by kernel_rfl)) (by unfold Func.isWrapper; first | (rw [if_pos (by decide +kernel)]; kernel_rfl) | (rw [if_neg (by decide +kernel)]; exact ⟨rfl, rfl⟩))
    (fun os started H enc _ => lifted os started H enc)
#print axioms holds
end Go.Proofs.Ytejndpoebohhaaa.prChoiceClashes
