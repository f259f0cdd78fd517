/- FnExactIsDistinct returns true for every input, and leaves its arguments as they were. No condition. -/
import Derived.Test.YtejndpoebohhaaaGreatRows
import Derived.Test.YtejndpoebohhaaaGreatDdB
namespace Go.Proofs.YtejndpoebohhaaaGreat.prIsDistinct
open Go.ChangeShapes Go.WideShapes Go.ChangeAt Go.RowKit Go.Deep
theorem row_trod {H : Type} {en : TypeId × Value → H} {w : World} {base : Nat} {spare : Nat → Bool} {held : Bool} (m : Nat) (cs : List Value) (y : DataW H × List MemPlace) (h : DataW.trod en Tryz.prog w base spare held m 23 cs = some y) :
    ∃ r : RowG, cs = r.cells ∧ (Sl w w.heap.size 1 r.A r.xs.length (r.xs.flatMap intC) ∧ r.xs.length ≤ maxLen) := by
  obtain ⟨A, n, cc, rfl⟩ : ∃ A n cc, cs = [.slice A n cc] := by
    rcases open_slice Tryz.underlying23 h with ⟨hcs, _⟩ | ⟨a, len, cap, m, fu, D, Pl, hcs, _⟩
    · exact ⟨_, _, _, hcs⟩
    · exact ⟨_, _, _, hcs⟩
  obtain ⟨m0, xs, s0, _⟩ := open_Sl intC 1 intC_len (by omega) (fun _ => True) Tryz.underlying23 (by kernel_rfl) int_trod h
  have hl : xs.length = n := s0.len intC 1 intC_len (by omega)
  subst hl
  exact ⟨⟨A, cc, xs⟩, rfl, s0, m0⟩
theorem own : ownKnob Tryz.prog.godebug = none := by kernel_rfl
theorem laidOut : laidOutB Tryz.prog = true := by kernel_rfl
set_option maxRecDepth 100000 in
theorem lifted (os : Os) (started : os.Started) (H : Type) (enc : TypeId × Value → H) :
    ReturnsInHanded {} Tryz.checked os 3 .any (Rows.fnExactIsDistinctSpec.pre6 enc Tryz.prog Tryz.f3 Rows.fnExactIsDistinctRow.domain false) (Rows.fnExactIsDistinctSpec.post enc Tryz.prog Tryz.f3 false true false false) := by
  refine returnsInHanded_of_change (C := Tryz.checked) own started (by kernel_rfl) Tryz.func3
    (ChangeSpec.witness6 (enc := enc) (C := Tryz.checked) false ⟨#[], #[.slice none 0 0, .slice none 0 0, .slice none 0 0, .int .i64 0], []⟩ 8 (by kernel_rfl) (by kernel_rfl) (by kernel_rfl) (by kernel_rfl)) ?_
  intro W base args ds gs before hval0 hW hcnd _
  have hval : ∀ (j : Nat) t v, Tryz.f3.params[j]? = some t → args[j]? = some v → Value.okWide Tryz.prog W .any base t v := hval0
  have hW' := hW
  obtain ⟨p, q, hA0, hV, rfl, hfz, hnd⟩ := hW
  have hA : DataW.TrodAll enc Tryz.prog W 0 (fun _ => true) true Tryz.f3.params.toList args.toList ds p := hA0
  rw [Tryz.params3] at hA hval
  obtain ⟨v0, vs0, d0, ds0, p0, q0, hargs, rfl, rfl, h0, r0⟩ := trodAll_cons hA
  obtain ⟨v1, vs1, d1, ds1, p1, q1, rfl, rfl, rfl, h1, r1⟩ := trodAll_cons r0
  obtain ⟨v2, vs2, d2, ds2, p2, q2, rfl, rfl, rfl, h2, r2⟩ := trodAll_cons r1
  obtain ⟨v3, vs3, d3, ds3, p3, q3, rfl, rfl, rfl, h3, r3⟩ := trodAll_cons r2
  obtain ⟨rfl, rfl, rfl⟩ := trodAll_nil r3
  obtain rfl : args = #[v0, v1, v2, v3] := by cases args; simp_all
  obtain ⟨rfl, rfl⟩ := trodVars_none hV
  obtain ⟨a0, n0, c0, rfl⟩ := okWide_slice Tryz.underlying22 (hval 0 22 v0 rfl rfl)
  have k0 := h0
  have lt0 : ∀ x ∈ p0, x.block < W.heap.size := by obtain ⟨m, hm⟩ := k0; exact DataW.trod_lt m _ _ _ hm
  obtain ⟨m0, rs, s0, ok0⟩ : n0 ≤ maxLen ∧ ∃ rs : List RowG, Sl W W.heap.size 1 a0 n0 (rs.flatMap RowG.cells) ∧ ∀ r ∈ rs, Sl W W.heap.size 1 r.A r.xs.length (r.xs.flatMap intC) ∧ r.xs.length ≤ maxLen := by
    obtain ⟨fuel, hf⟩ := h0
    exact open_Sl RowG.cells 1 RowG.cells_len (by omega) (fun r => Sl W W.heap.size 1 r.A r.xs.length (r.xs.flatMap intC) ∧ r.xs.length ≤ maxLen) Tryz.underlying22 (by kernel_rfl) row_trod (by simpa [Value.cells] using hf)
  obtain ⟨a1, n1, c1, rfl⟩ := okWide_slice Tryz.underlying23 (hval 1 23 v1 rfl rfl)
  have k1 := h1
  have lt1 : ∀ x ∈ p1, x.block < W.heap.size := by obtain ⟨m, hm⟩ := k1; exact DataW.trod_lt m _ _ _ hm
  obtain ⟨m1, ch, s1, _⟩ : n1 ≤ maxLen ∧ ∃ xs : List Int, Sl W W.heap.size 1 a1 n1 (xs.flatMap intC) ∧ ∀ z ∈ xs, True := by
    obtain ⟨fuel, hf⟩ := h1
    exact open_Sl intC 1 intC_len (by omega) (fun _ => True) Tryz.underlying23 (by kernel_rfl) int_trod (by simpa [Value.cells] using hf)
  obtain ⟨a2, n2, c2, rfl⟩ := okWide_slice Tryz.underlying24 (hval 2 24 v2 rfl rfl)
  have k2 := h2
  have lt2 : ∀ x ∈ p2, x.block < W.heap.size := by obtain ⟨m, hm⟩ := k2; exact DataW.trod_lt m _ _ _ hm
  obtain ⟨m2, zs, s2, okz⟩ : n2 ≤ maxLen ∧ ∃ zs : List ChG, Sl W W.heap.size 5 a2 n2 (zs.flatMap ChG.cells) ∧ ∀ z ∈ zs, Sl W W.heap.size 1 z.A z.n (z.x.gs.flatMap intC) ∧ z.n ≤ maxLen ∧ z.x.l.size ≤ maxLen ∧ z.x.cs.size ≤ maxLen := by
    obtain ⟨fuel, hf⟩ := h2
    refine open_Sl ChG.cells 5 ChG.cells_len (by omega) (fun z => Sl W W.heap.size 1 z.A z.n (z.x.gs.flatMap intC) ∧ z.n ≤ maxLen ∧ z.x.l.size ≤ maxLen ∧ z.x.cs.size ≤ maxLen) Tryz.underlying24 (by kernel_rfl) (fun m cs y hy => ?_) (by simpa [Value.cells] using hf)
    obtain ⟨k, A, n, c, l, s, p, gs, rfl, s1, m1, hl1, hs1⟩ := character_trod m cs y hy
    have hgl : gs.length = n := s1.len intC 1 intC_len (by omega)
    subst hgl
    exact ⟨⟨⟨k, gs, l, s, p⟩, A, c⟩, rfl, s1, m1, hl1, hs1⟩
  obtain ⟨x3, rfl, rfl, rfl, wx3⟩ := open_int Tryz.underlying2 (hval 3 2 v3 rfl rfl) h3
  refine (lawIsDistinct_c a0 n0 c0 rs a1 n1 c1 ch a2 n2 c2 zs x3 W s0 m0 ok0 s1 m1 s2 m2 (fun z hz => (okz z hz).1) (fun z hz => (okz z hz).2)).mono fun e W' ⟨he, bel⟩ => ?_
  subst he
  exact ⟨_, rfl, _, _, _, [], _, [], hW', trodAll_mk1 (shut_bool Tryz.underlying4 _), (trodAll_cons_mk (Below.trod laidOut (by kernel_rfl) (of_decide_eq_true (by kernel_rfl)) k0 bel lt0) (trodAll_cons_mk (Below.trod laidOut (by kernel_rfl) (of_decide_eq_true (by kernel_rfl)) k1 bel lt1) (trodAll_cons_mk (Below.trod laidOut (by kernel_rfl) (of_decide_eq_true (by kernel_rfl)) k2 bel lt2) (trodAll_cons_mk (shut_int Tryz.underlying2 wx3) trodAll_mk0)))), rfl, bel.frame _, fun h => by cases h⟩
theorem holds : Rows.FnExactIsDistinctSaid :=
  OpenClaim.holds_of_wide 3 Tryz.f3 rfl rfl rfl rfl rfl rfl rfl ⟨rfl, rfl, rfl, rfl, rfl⟩ rfl rfl rfl rfl rfl (by kernel_rfl) Tryz.func3 (by kernel_rfl)
    (of_decide_eq_true (by kernel_rfl)) (by unfold Func.isWrapper; first | (rw [if_pos (by decide +kernel)]; kernel_rfl) | (rw [if_neg (by decide +kernel)]; exact ⟨rfl, rfl⟩))
    (fun os started H enc _ => lifted os started H enc)
#print axioms holds
end Go.Proofs.YtejndpoebohhaaaGreat.prIsDistinct
