/- The tied card of FnExactReachOf: the law returns true for every input, and leaves its arguments as they were. Condition: the two listed tables of Go's library hold what the program's text lays. -/
import Derived.Test.YtpgcgmbjlecnpaaGreatDoorRows
import Derived.Test.YtpgcgmbjlecnpaaGreatDoorTie
import Derived.Test.YtpgcgmbjlecnpaaGreatDoorCards
import Derived.Test.YtpgcgmbjlecnpaaGreatDoorLawReachOf
import Derived.Test.YtpgcgmbjlecnpaaGreatDoorPaReachOf
import Derived.SevenTiedAt
namespace Go.Proofs.YtpgcgmbjlecnpaaGreatDoor.prReachOf
open Go.ChangeShapes Go.WideShapes Go.ChangeAt Go.RowKit Go.Deep
theorem observer_trod {H : Type} {en : TypeId × Value → H} {w : World} {base : Nat} {spare : Nat → Bool} {held : Bool} (m : Nat) (cs : List Value) (y : DataW H × List MemPlace) (h : DataW.trod en Tryz.prog w base spare held m 50 cs = some y) :
    ∃ o : Obv, cs = [.int .i64 o.x, .int .i64 o.y, .int .i64 o.e, .int .i64 o.v] := by
  have hl := struct_len Tryz.underlying50 h 4 (by kernel_rfl)
  match cs, hl with
  | [a, b, c, d], _ =>
    obtain ⟨_, _, g0⟩ := struct_field Tryz.underlying50 h 0 _ rfl 2 (by kernel_rfl) [a, b] rfl
    obtain ⟨_, _, g1⟩ := struct_field Tryz.underlying50 h 1 _ rfl 1 (by kernel_rfl) [c] rfl
    obtain ⟨_, _, g2⟩ := struct_field Tryz.underlying50 h 2 _ rfl 1 (by kernel_rfl) [d] rfl
    obtain ⟨px, py, e0⟩ := point_trod _ _ _ g0
    obtain ⟨ex, e1, _, _⟩ := DataW.trod_int Tryz.underlying2 g1
    obtain ⟨vx, e2, _, _⟩ := DataW.trod_int Tryz.underlying2 g2
    simp only [List.cons.injEq, and_true] at e0 e1 e2
    obtain ⟨rfl, rfl⟩ := e0
    subst e1 e2
    exact ⟨⟨px, py, ex, vx⟩, rfl⟩
set_option maxRecDepth 100000 in
theorem lifted (os : Os) (started : os.Started) (H : Type) (enc : TypeId × Value → H) :
    ReturnsInHanded {} Tryz.checked os 4 .any (fun w args => (Rows.fnExactReachOfSpec.pre enc Tryz.prog Tryz.f4 [] false w args ∧ laidMetH Tryz.prog [("unicode.White_Space", Rows.laid_unicode_White_Space), ("strings.asciiSpace", Rows.laid_strings_asciiSpace)] w) ∧ sizedMet enc Tryz.prog Tryz.f4 (OpenSpec.ofChange Rows.fnExactReachOfSpec) false w args)
      (Rows.fnExactReachOfSpec.post enc Tryz.prog Tryz.f4 false true false false) := by
  refine returnsInHanded_of_change_and (C := Tryz.checked) (X := fun w _ => laidMetH Tryz.prog [("unicode.White_Space", Rows.laid_unicode_White_Space), ("strings.asciiSpace", Rows.laid_strings_asciiSpace)] w) (fun _ _ _ hh h => h.of_heap hh) own started (by kernel_rfl) Tryz.func4
    (ChangeSpec.witness_shaped (enc := enc) (C := Tryz.checked) (os := os) (X := fun w _ => laidMetH Tryz.prog [("unicode.White_Space", Rows.laid_unicode_White_Space), ("strings.asciiSpace", Rows.laid_strings_asciiSpace)] w) false (World.doorLaid Tryz.prog 33 os) #[.agg #[.int .i64 0, .string ByteArray.empty, .int .i64 0, .int .i64 0, .int .i64 0, .int .i64 0, .string ByteArray.empty, .string ByteArray.empty, .string ByteArray.empty, .int .i64 0, .slice none 0 0, .string ByteArray.empty, .string ByteArray.empty, .int .i64 0, .slice none 0 0, .int .i64 0], .agg #[.int .i64 0, .int .i64 0, .int .i64 0, .int .i64 0]] 8 rfl (World.shaped_of_RefB (by kernel_rfl) (by kernel_rfl)) (by kernel_rfl) (by kernel_rfl) (by kernel_rfl) (door_met os _)) ?_
  intro W base args ds gs before hval0 hW _ _ hL _
  have ht := of_laid hL
  have hval : ∀ (j : Nat) t v, Tryz.f4.params[j]? = some t → args[j]? = some v → Value.okWide Tryz.prog W .any base t v := hval0
  have hW' := hW
  obtain ⟨p, q, hA0, hV, rfl, hfz, hnd⟩ := hW
  have hA : DataW.TrodAll enc Tryz.prog W 0 (fun _ => true) true Tryz.f4.params.toList args.toList ds p := hA0
  rw [Tryz.params4] at hA hval
  obtain ⟨v0, vs0, d0, ds0, p0, q0, hargs, rfl, rfl, h0, r0⟩ := trodAll_cons hA
  obtain ⟨v1, vs1, d1, ds1, p1, q1, rfl, rfl, rfl, h1, r1⟩ := trodAll_cons r0
  obtain ⟨rfl, rfl, rfl⟩ := trodAll_nil r1
  obtain rfl : args = #[v0, v1] := by cases args; simp_all
  obtain ⟨rfl, rfl⟩ := trodVars_none hV
  obtain ⟨cs0, rfl, hcs0⟩ := okWide_struct Tryz.underlying33 (hval 0 33 v0 rfl rfl)
  have k0 := h0
  have lt0 : ∀ x ∈ p0, x.block < W.heap.size := by obtain ⟨m, hm⟩ := k0; exact DataW.trod_lt m _ _ _ hm
  obtain ⟨z, hce0, hrd0⟩ : ∃ z : AidG, cs0.toList = z.cells ∧ AidRd W z := by
    obtain ⟨fuel, hf⟩ := h0
    exact aid_trod _ _ _ (by simpa [Value.cells] using hf)
  obtain rfl : cs0 = z.cells.toArray := Array.ext' hce0
  obtain ⟨os1, rfl, hos1⟩ := okWide_struct Tryz.underlying50 (hval 1 50 v1 rfl rfl)
  have k1 := h1
  have lt1 : ∀ x ∈ p1, x.block < W.heap.size := by obtain ⟨m, hm⟩ := k1; exact DataW.trod_lt m _ _ _ hm
  obtain ⟨o, hoe⟩ : ∃ o : Obv, os1.toList = [.int .i64 o.x, .int .i64 o.y, .int .i64 o.e, .int .i64 o.v] := by
    obtain ⟨fuel, hf⟩ := h1
    exact observer_trod _ _ _ (by simpa [Value.cells] using hf)
  obtain rfl : os1 = #[.int .i64 o.x, .int .i64 o.y, .int .i64 o.e, .int .i64 o.v] := Array.ext' hoe
  refine (lawReachOf_c z o W hrd0 ht).mono fun e W' ⟨he, bel⟩ => ?_
  subst he
  exact ⟨_, rfl, _, _, _, [], _, [], hW', trodAll_mk1 (shut_bool Tryz.underlying4 _), (trodAll_cons_mk (Below.trod laidOut (by kernel_rfl) (of_decide_eq_true (by kernel_rfl)) k0 bel lt0) (trodAll_cons_mk (Below.trod laidOut (by kernel_rfl) (of_decide_eq_true (by kernel_rfl)) k1 bel lt1) trodAll_mk0)), rfl, bel.frame _, fun h => by cases h⟩
set_option maxHeartbeats 20000000 in
theorem said : Rows.FnExactReachOfSaid :=
  OpenClaim.holds_of_wide 4 Tryz.f4 rfl rfl rfl rfl rfl rfl rfl ⟨rfl, rfl, rfl, rfl, rfl⟩ rfl rfl rfl rfl rfl (by as_aux_lemma => kernel_rfl) Tryz.func4 closed
    (of_decide_eq_true (by as_aux_lemma => kernel_rfl)) (by unfold Func.isWrapper; first | (rw [if_pos (by decide +kernel)]; kernel_rfl) | (rw [if_neg (by decide +kernel)]; exact ⟨rfl, rfl⟩))
    (fun os started H enc _ => lifted os started H enc)
set_option maxHeartbeats 20000000 in
theorem holds : Rows.FnExactReachOfCardSaid :=
  Claim7.holds_tied_plain_at .later [] [.listed, .data] true Rows.fnExactReachOfCard.stood.harness false
    said (fun _ h => by cases h) (by as_aux_lemma => kernel_rfl) (fun _ h => by cases h) fnExactReachOf_row_tie rfl ⟨rfl, rfl⟩ (by as_aux_lemma => kernel_rfl) rfl
    (fun f fn hf hfn => by
      obtain rfl : f = 4 := Option.some.inj ((show Tryz.prog.funcNamed Rows.fnExactReachOfRow.func = some 4 by as_aux_lemma => kernel_rfl).symm.trans hf) |>.symm
      obtain rfl : fn = Tryz.f4 := (Option.some.inj (Tryz.func4.symm.trans hfn)).symm
      exact ⟨by as_aux_lemma => kernel_rfl, fun j t ht => by
        rw [Tryz.params4] at ht
        have hm : t ∈ [33, 50] := by simpa using Array.mem_of_getElem? ht
        have hall : ([33, 50].all fun u => !Tryz.prog.wantsStandIn u) = true := by as_aux_lemma => kernel_rfl
        exact (show Tryz.prog.wantsStandIn t = false by simpa using List.all_eq_true.1 hall t hm)⟩)
    (by as_aux_lemma => kernel_rfl)
#print axioms holds
end Go.Proofs.YtpgcgmbjlecnpaaGreatDoor.prReachOf
