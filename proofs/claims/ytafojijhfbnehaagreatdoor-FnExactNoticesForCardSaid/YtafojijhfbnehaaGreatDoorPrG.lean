/- PrG: several of my texts in one. -/
import Derived.Test.YtafojijhfbnehaaGreatDoorOpG
import Derived.Test.YtafojijhfbnehaaGreatDoorNtsLaw
import Derived.Test.YtafojijhfbnehaaGreatDoorRows
import Derived.Test.YtafojijhfbnehaaGreatDoorTie
import Derived.Test.YtafojijhfbnehaaGreatDoorCards
import Derived.Test.YtafojijhfbnehaaGreatDoorNtGd
import Derived.Test.YtafojijhfbnehaaGreatDoorPaNoticesFor
import Derived.SevenTiedAt
/- Notices as the caller's data: how they read. -/
namespace Go.Proofs.YtafojijhfbnehaaGreatDoor
open Go.ChangeShapes Go.WideShapes Go.ChangeAt Go.RowKit Go.Deep
theorem nt_trod {H : Type} {en : TypeId × Value → H} {w : World} {base : Nat} {spare : Nat → Bool} {held : Bool} (m : Nat) (cs : List Value) (y : DataW H × List MemPlace) (h : DataW.trod en Tryz.prog w base spare held m 45 cs = some y) :
    ∃ g : NtG, cs = g.cells ∧ AidRd w g.z := by
  have hl := struct_len Tryz.underlying45 h 20 (by kernel_rfl)
  match cs, hl with
  | a :: b :: c :: d :: r, hl =>
    have hr : r.length = 16 := by simp at hl; omega
    obtain ⟨_, _, g0⟩ := struct_field Tryz.underlying45 h 0 _ rfl 1 (by kernel_rfl) [a] rfl
    obtain ⟨_, _, g1⟩ := struct_field Tryz.underlying45 h 1 _ rfl 1 (by kernel_rfl) [b] rfl
    obtain ⟨_, _, g2⟩ := struct_field Tryz.underlying45 h 2 _ rfl 1 (by kernel_rfl) [c] rfl
    obtain ⟨_, _, g3⟩ := struct_field Tryz.underlying45 h 3 _ rfl 1 (by kernel_rfl) [d] rfl
    obtain ⟨_, _, g4⟩ := struct_field Tryz.underlying45 h 4 _ rfl 16 (by kernel_rfl) r (by simpa using List.take_of_length_le (Nat.le_of_eq hr))
    obtain ⟨x0, e0, _, _⟩ := DataW.trod_int Tryz.underlying2 g0
    obtain ⟨x1, e1, _, _⟩ := DataW.trod_int Tryz.underlying2 g1
    obtain ⟨x2, e2, _, _⟩ := DataW.trod_int Tryz.underlying2 g2
    obtain ⟨x3, e3, _, _⟩ := DataW.trod_int Tryz.underlying2 g3
    obtain ⟨z, hz, rd⟩ := aid_trod _ _ _ g4
    simp only [List.cons.injEq, and_true] at e0 e1 e2 e3
    subst e0 e1 e2 e3 hz
    exact ⟨⟨⟨x0, x1, x2, x3⟩, z⟩, rfl, rd⟩
end Go.Proofs.YtafojijhfbnehaaGreatDoor
/- The tied card of FnExactNoticesFor: the law returns true for every input, and leaves its arguments as they were. Condition: the two listed tables of Go's library hold what the program's text lays. -/
namespace Go.Proofs.YtafojijhfbnehaaGreatDoor.prNoticesFor
open Go.ChangeShapes Go.WideShapes Go.ChangeAt Go.RowKit Go.Deep
set_option maxRecDepth 100000 in
theorem lifted (os : Os) (started : os.Started) (H : Type) (enc : TypeId × Value → H) :
    ReturnsInHanded {} Tryz.checked os 8 .any (fun w args => (Rows.fnExactNoticesForSpec.pre enc Tryz.prog Tryz.f8 [] false w args ∧ laidMetH Tryz.prog [("unicode.White_Space", Rows.laid_unicode_White_Space), ("strings.asciiSpace", Rows.laid_strings_asciiSpace)] w) ∧ sizedMet enc Tryz.prog Tryz.f8 (OpenSpec.ofChange Rows.fnExactNoticesForSpec) false w args)
      (Rows.fnExactNoticesForSpec.post enc Tryz.prog Tryz.f8 false true false false) := by
  refine returnsInHanded_of_change_and (C := Tryz.checked) (X := fun w _ => laidMetH Tryz.prog [("unicode.White_Space", Rows.laid_unicode_White_Space), ("strings.asciiSpace", Rows.laid_strings_asciiSpace)] w) (fun _ _ _ hh h => h.of_heap hh) own started (by kernel_rfl) Tryz.func8
    (ChangeSpec.witness_shaped (enc := enc) (C := Tryz.checked) (os := os) (X := fun w _ => laidMetH Tryz.prog [("unicode.White_Space", Rows.laid_unicode_White_Space), ("strings.asciiSpace", Rows.laid_strings_asciiSpace)] w) false (World.doorLaid Tryz.prog 33 os) #[.slice none 0 0, .int .i64 0] 8 rfl (World.shaped_of_RefB (by kernel_rfl) (by kernel_rfl)) (by kernel_rfl) (by kernel_rfl) (by kernel_rfl) (door_met os _)) ?_
  intro W base args ds gs before hval0 hW _ _ hL _
  have ht := of_laid hL
  have hval : ∀ (j : Nat) t v, Tryz.f8.params[j]? = some t → args[j]? = some v → Value.okWide Tryz.prog W .any base t v := hval0
  have hW' := hW
  obtain ⟨p, q, hA0, hV, rfl, hfz, hnd⟩ := hW
  have hA : DataW.TrodAll enc Tryz.prog W 0 (fun _ => true) true Tryz.f8.params.toList args.toList ds p := hA0
  rw [Tryz.params8] at hA hval
  obtain ⟨v0, vs0, d0, ds0, p0, q0, hargs, rfl, rfl, h0, r0⟩ := trodAll_cons hA
  obtain ⟨v1, vs1, d1, ds1, p1, q1, rfl, rfl, rfl, h1, r1⟩ := trodAll_cons r0
  obtain ⟨rfl, rfl, rfl⟩ := trodAll_nil r1
  obtain rfl : args = #[v0, v1] := by cases args; simp_all
  obtain ⟨rfl, rfl⟩ := trodVars_none hV
  obtain ⟨a0, n0, c0, rfl⟩ := okWide_slice Tryz.underlying59 (hval 0 59 v0 rfl rfl)
  have k0 := h0
  have lt0 : ∀ x ∈ p0, x.block < W.heap.size := by obtain ⟨m, hm⟩ := k0; exact DataW.trod_lt m _ _ _ hm
  obtain ⟨m0, zs, s0, rd0⟩ : n0 ≤ maxLen ∧ ∃ zs : List NtG, Sl W W.heap.size 20 a0 n0 (zs.flatMap NtG.cells) ∧ ∀ z ∈ zs, AidRd W z.z := by
    obtain ⟨fuel, hf⟩ := h0
    exact open_Sl NtG.cells 20 NtG.cells_len (by omega) (fun z => AidRd W z.z) Tryz.underlying59 (by kernel_rfl) nt_trod (by simpa [Value.cells] using hf)
  obtain ⟨x1, rfl, rfl, rfl, wx1⟩ := open_int Tryz.underlying2 (hval 1 2 v1 rfl rfl) h1
  refine (lawNoticesFor_c a0 n0 c0 zs x1 W ⟨s0, rd0⟩ m0 ht).mono fun e W' ⟨he, bel⟩ => ?_
  subst he
  exact ⟨_, rfl, _, _, _, [], _, [], hW', trodAll_mk1 (shut_bool Tryz.underlying4 _), (trodAll_cons_mk (Below.trod laidOut (by kernel_rfl) (of_decide_eq_true (by kernel_rfl)) k0 bel lt0) (trodAll_cons_mk (shut_int Tryz.underlying2 wx1) trodAll_mk0)), rfl, bel.frame _, fun h => by cases h⟩
set_option maxHeartbeats 20000000 in
theorem said : Rows.FnExactNoticesForSaid :=
  OpenClaim.holds_of_wide 8 Tryz.f8 rfl rfl rfl rfl rfl rfl rfl ⟨rfl, rfl, rfl, rfl, rfl⟩ rfl rfl rfl rfl rfl (by as_aux_lemma => kernel_rfl) Tryz.func8 closed
    (of_decide_eq_true (by as_aux_lemma => kernel_rfl)) (by unfold Func.isWrapper; first | (rw [if_pos (by decide +kernel)]; kernel_rfl) | (rw [if_neg (by decide +kernel)]; exact ⟨rfl, rfl⟩))
    (fun os started H enc _ => lifted os started H enc)
set_option maxHeartbeats 20000000 in
theorem holds : Rows.FnExactNoticesForCardSaid :=
  Claim7.holds_tied_plain_at .later [] [.listed, .data] true Rows.fnExactNoticesForCard.stood.harness false
    said (fun _ h => by cases h) (by as_aux_lemma => kernel_rfl) (fun _ h => by cases h) fnExactNoticesFor_row_tie rfl ⟨rfl, rfl⟩ (by as_aux_lemma => kernel_rfl) rfl
    (fun f fn hf hfn => by
      obtain rfl : f = 8 := Option.some.inj ((show Tryz.prog.funcNamed Rows.fnExactNoticesForRow.func = some 8 by as_aux_lemma => kernel_rfl).symm.trans hf) |>.symm
      obtain rfl : fn = Tryz.f8 := (Option.some.inj (Tryz.func8.symm.trans hfn)).symm
      exact ⟨by as_aux_lemma => kernel_rfl, fun j t ht => by
        rw [Tryz.params8] at ht
        have hm : t ∈ [59, 2] := by simpa using Array.mem_of_getElem? ht
        have hall : ([59, 2].all fun u => !Tryz.prog.wantsStandIn u) = true := by as_aux_lemma => kernel_rfl
        exact (show Tryz.prog.wantsStandIn t = false by simpa using List.all_eq_true.1 hall t hm)⟩)
    (by as_aux_lemma => kernel_rfl)
#print axioms holds
end Go.Proofs.YtafojijhfbnehaaGreatDoor.prNoticesFor
