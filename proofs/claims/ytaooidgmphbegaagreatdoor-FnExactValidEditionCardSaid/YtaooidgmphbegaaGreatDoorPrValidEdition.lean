/- The tied card of FnExactValidEdition: the law returns true for every input, and leaves its arguments as they were. Condition: the two listed tables of Go's library hold what the program's text lays. -/
import Derived.Test.YtaooidgmphbegaaGreatDoorRows
import Derived.Test.YtaooidgmphbegaaGreatDoorTie
import Derived.Test.YtaooidgmphbegaaGreatDoorCards
import Derived.Test.YtaooidgmphbegaaGreatDoorLawValidEdition
import Derived.Test.YtaooidgmphbegaaGreatDoorAidOpen
import Derived.SevenTiedAt
namespace Go.Proofs.YtaooidgmphbegaaGreatDoor.prValidEdition
open Go.ChangeShapes Go.WideShapes Go.ChangeAt Go.RowKit Go.Deep
theorem edition_trod {H : Type} {en : TypeId × Value → H} {w : World} {base : Nat} {spare : Nat → Bool} {held : Bool} (m : Nat) (cs : List Value) (y : DataW H × List MemPlace) (h : DataW.trod en Tryz.prog w base spare held m 64 cs = some y) :
    ∃ a d A n c, cs = [.int .i64 a, .int .i64 d, .slice A n c] ∧ n ≤ maxLen ∧ ∃ zs : List AidG, Sl w w.heap.size 16 A n (zs.flatMap AidG.cells) ∧ ∀ z ∈ zs, AidRd w z := by
  have hl := struct_len Tryz.underlying64 h 3 (by kernel_rfl)
  match cs, hl with
  | [a, b, c], _ =>
    obtain ⟨_, _, g0⟩ := struct_field Tryz.underlying64 h 0 _ rfl 1 (by kernel_rfl) [a] rfl
    obtain ⟨_, _, g1⟩ := struct_field Tryz.underlying64 h 1 _ rfl 1 (by kernel_rfl) [b] rfl
    obtain ⟨_, _, g2⟩ := struct_field Tryz.underlying64 h 2 _ rfl 1 (by kernel_rfl) [c] rfl
    obtain ⟨x0, e0, _, _⟩ := DataW.trod_int Tryz.underlying2 g0
    obtain ⟨x1, e1, _, _⟩ := DataW.trod_int Tryz.underlying2 g1
    obtain ⟨A, n, cc, e2⟩ : ∃ A n cc, c = .slice A n cc := by
      rcases open_slice Tryz.underlying52 g2 with ⟨hcs, _⟩ | ⟨a, len, cap, m, fu, D, Pl, hcs, _⟩
      · simp at hcs; exact ⟨_, _, _, hcs⟩
      · simp at hcs; exact ⟨_, _, _, hcs⟩
    subst e2
    obtain ⟨m0, zs, s0, r0⟩ := open_Sl AidG.cells 16 AidG.cells_len (by omega) (fun z => AidRd w z) Tryz.underlying52 (by kernel_rfl) aid_trod g2
    simp only [List.cons.injEq, and_true] at e0 e1
    subst e0 e1
    exact ⟨x0, x1, A, n, cc, rfl, m0, zs, s0, r0⟩
theorem own : ownKnob Tryz.prog.godebug = none := by kernel_rfl
theorem laidOut : laidOutB Tryz.prog = true := by kernel_rfl
theorem door_met (os : Os) (args : Array Value) : laidMetH Tryz.prog [("unicode.White_Space", Rows.laid_unicode_White_Space), ("strings.asciiSpace", Rows.laid_strings_asciiSpace)] ((World.doorLaid Tryz.prog 33 os).forCall (fun _ _ => 0) ⟨#[], args, []⟩).memory :=
  laidMetH_of_parts3 (fuel := 8) (laidMet_of_run' 8 (by kernel_rfl) (by kernel_rfl)) (by kernel_rfl) (by kernel_rfl)
set_option maxRecDepth 100000 in
theorem lifted (os : Os) (started : os.Started) (H : Type) (enc : TypeId × Value → H) :
    ReturnsInHanded {} Tryz.checked os 8 .any (fun w args => (Rows.fnExactValidEditionSpec.pre enc Tryz.prog Tryz.f8 [] false w args ∧ laidMetH Tryz.prog [("unicode.White_Space", Rows.laid_unicode_White_Space), ("strings.asciiSpace", Rows.laid_strings_asciiSpace)] w) ∧ sizedMet enc Tryz.prog Tryz.f8 (OpenSpec.ofChange Rows.fnExactValidEditionSpec) false w args)
      (Rows.fnExactValidEditionSpec.post enc Tryz.prog Tryz.f8 false true false false) := by
  refine returnsInHanded_of_change_and (C := Tryz.checked) (X := fun w _ => laidMetH Tryz.prog [("unicode.White_Space", Rows.laid_unicode_White_Space), ("strings.asciiSpace", Rows.laid_strings_asciiSpace)] w) (fun _ _ _ hh h => h.of_heap hh) own started (by kernel_rfl) Tryz.func8
    (ChangeSpec.witness_shaped (enc := enc) (C := Tryz.checked) (os := os) (X := fun w _ => laidMetH Tryz.prog [("unicode.White_Space", Rows.laid_unicode_White_Space), ("strings.asciiSpace", Rows.laid_strings_asciiSpace)] w) false (World.doorLaid Tryz.prog 33 os) #[.agg #[.int .i64 0, .int .i64 0, .slice none 0 0]] 8 rfl (World.shaped_of_RefB (by kernel_rfl) (by kernel_rfl)) (by kernel_rfl) (by kernel_rfl) (by kernel_rfl) (door_met os _)) ?_
  intro W base args ds gs before hval0 hW _ _ hL _
  have ht := of_laid hL
  have hval : ∀ (j : Nat) t v, Tryz.f8.params[j]? = some t → args[j]? = some v → Value.okWide Tryz.prog W .any base t v := hval0
  have hW' := hW
  obtain ⟨p, q, hA0, hV, rfl, hfz, hnd⟩ := hW
  have hA : DataW.TrodAll enc Tryz.prog W 0 (fun _ => true) true Tryz.f8.params.toList args.toList ds p := hA0
  rw [Tryz.params8] at hA hval
  obtain ⟨v0, vs0, d0, ds0, p0, q0, hargs, rfl, rfl, h0, r0⟩ := trodAll_cons hA
  obtain ⟨rfl, rfl, rfl⟩ := trodAll_nil r0
  obtain rfl : args = #[v0] := by cases args; simp_all
  obtain ⟨rfl, rfl⟩ := trodVars_none hV
  obtain ⟨cs0, rfl, hcs0⟩ := okWide_struct Tryz.underlying64 (hval 0 64 v0 rfl rfl)
  have k0 := h0
  have lt0 : ∀ x ∈ p0, x.block < W.heap.size := by obtain ⟨m, hm⟩ := k0; exact DataW.trod_lt m _ _ _ hm
  obtain ⟨a, d, A, n, c, hce, m0, zs, s0, rd0⟩ : ∃ a d A n c, cs0.toList = [.int .i64 a, .int .i64 d, .slice A n c] ∧ n ≤ maxLen ∧ ∃ zs : List AidG, Sl W W.heap.size 16 A n (zs.flatMap AidG.cells) ∧ ∀ z ∈ zs, AidRd W z := by
    obtain ⟨fuel, hf⟩ := h0
    exact edition_trod _ _ _ (by simpa [Value.cells] using hf)
  obtain rfl : cs0 = #[.int .i64 a, .int .i64 d, .slice A n c] := Array.ext' hce
  refine (lawValidEdition_c a d A n c zs W ⟨s0, rd0⟩ m0 ht).mono fun e W' ⟨he, bel⟩ => ?_
  subst he
  exact ⟨_, rfl, _, _, _, [], _, [], hW', trodAll_mk1 (shut_bool Tryz.underlying4 _), (trodAll_cons_mk (Below.trod laidOut (by kernel_rfl) (of_decide_eq_true (by kernel_rfl)) k0 bel lt0) trodAll_mk0), rfl, bel.frame _, fun h => by cases h⟩
set_option maxHeartbeats 20000000 in
theorem closed : joinedFacts Tryz.pinned.checked.prog 8 Tryz.f8 Rows.fnExactValidEditionSpec Rows.fnExactValidEditionRow = true := by
  unfold joinedFacts
  repeat' (with_reducible refine andT ?_ ?_)
  all_goals (as_aux_lemma => kernel_rfl)
set_option maxHeartbeats 20000000 in
theorem said : Rows.FnExactValidEditionSaid :=
  OpenClaim.holds_of_wide 8 Tryz.f8 rfl rfl rfl rfl rfl rfl rfl ⟨rfl, rfl, rfl, rfl, rfl⟩ rfl rfl rfl rfl rfl (by as_aux_lemma => kernel_rfl) Tryz.func8 closed
    (of_decide_eq_true (by as_aux_lemma => kernel_rfl)) (by unfold Func.isWrapper; first | (rw [if_pos (by decide +kernel)]; kernel_rfl) | (rw [if_neg (by decide +kernel)]; exact ⟨rfl, rfl⟩))
    (fun os started H enc _ => lifted os started H enc)
set_option maxHeartbeats 20000000 in
theorem holds : Rows.FnExactValidEditionCardSaid :=
  Claim7.holds_tied_plain_at .later [] [.listed, .data] true Rows.fnExactValidEditionCard.stood.harness false
    said (fun _ h => by cases h) (by as_aux_lemma => kernel_rfl) (fun _ h => by cases h) fnExactValidEdition_row_tie rfl ⟨rfl, rfl⟩ (by as_aux_lemma => kernel_rfl) rfl
    (fun f fn hf hfn => by
      obtain rfl : f = 8 := Option.some.inj ((show Tryz.prog.funcNamed Rows.fnExactValidEditionRow.func = some 8 by as_aux_lemma => kernel_rfl).symm.trans hf) |>.symm
      obtain rfl : fn = Tryz.f8 := (Option.some.inj (Tryz.func8.symm.trans hfn)).symm
      exact ⟨by as_aux_lemma => kernel_rfl, fun j t ht => by
        rw [Tryz.params8] at ht
        have hm : t ∈ [64] := by simpa using Array.mem_of_getElem? ht
        have hall : ([64].all fun u => !Tryz.prog.wantsStandIn u) = true := by as_aux_lemma => kernel_rfl
        exact (show Tryz.prog.wantsStandIn t = false by simpa using List.all_eq_true.1 hall t hm)⟩)
    (by as_aux_lemma => kernel_rfl)
#print axioms holds
end Go.Proofs.YtaooidgmphbegaaGreatDoor.prValidEdition
