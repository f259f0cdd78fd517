/- A notice is valid: plain Lean, the reference and the program. -/
import Derived.Test.YtafojijhfbnehaaGreatDoorNtsLaw
import Derived.Test.YtafojijhfbnehaaGreatDoorNotSame
import Derived.Test.YtafojijhfbnehaaGreatDoorNotSameI
import Derived.Test.YtafojijhfbnehaaGreatDoorAidS
import Derived.Test.YtafojijhfbnehaaGreatDoorAidI3
namespace Go.Proofs.YtafojijhfbnehaaGreatDoor
open Go.RowKit
set_option maxHeartbeats 400000 in
theorem ntDayS_c (n : Int) (w : World) : Calls Tryz.prog 107 #[.int .i64 n] w fun e w' => e = .returned (.bool (inB n 0 99999)) ∧ w = w' := by
  go_enter Tryz.func107, Tryz.ntmps107
  go_wp2_with (go_at_call 106; refine (l00In_c _ _ _ _).mono ?_; rintro e w1 ⟨rfl, rfl⟩)
  go_ret
  exact ⟨rfl, rfl⟩
set_option maxHeartbeats 400000 in
theorem ntDayI_c (n : Int) (w : World) : Calls Tryz.prog 65 #[.int .i64 n] w fun e w' => e = .returned (.bool (inB n 0 99999)) ∧ w = w' := by
  go_enter Tryz.func65, Tryz.ntmps65
  go_wp2_with (go_at_call 66; refine (within_c _ _ _ _).mono ?_; rintro e w1 ⟨rfl, rfl⟩)
  go_ret
  exact ⟨rfl, rfl⟩
def ntB (x : NtX) (a : AidX) : Bool := inB x.m 1 9999 && (inB x.d 0 99999 && (if x.k = 1 ∨ x.k = 2 then aidB a && (x.t == 0) else if x.k = 3 ∨ x.k = 4 then aidNil a && inB x.t 1 9999 else false))
theorem nil_len {n : Nat} {xs : List Int} (h : xs.length = n) : decide (xs = []) = ((n : Int) == 0) := by
  rw [Bool.eq_iff_iff]
  simp only [decide_eq_true_eq, beq_iff_eq]
  constructor
  · rintro rfl; simp at h; omega
  · intro e; exact List.eq_nil_of_length_eq_zero (by omega)
theorem l12Nil_c (b off b' off' : Nat) (z : AidG) (w : World) (hp : AidP w b off z) (hz : AidOk w z) (hp' : AidP w b' off' aidZn) :
    Calls Tryz.prog 61 #[.pointer (some ⟨b, off, none⟩), .pointer (some ⟨b', off', none⟩)] w fun e w' => e = .returned (.bool (aidNil z.a)) ∧ Below w.heap.size w w' := by
  have hB : ∀ n, Below w.heap.size w (w.drewN n) := fun n => below_drewN (Below.refl _ _) n
  refine (l12Same_w b off b' off' z aidZn _ _ w hp hp' (fun n => l05Same_w b (off + 9) b' (off' + 9) z.A none z.n 0 z.c 0 z.a.ch aidZn.a.ch ((z.n : Int) == 0) (w.drewN n) ((hp.next (hB n)).ch (hz.next (hB n))) ((hp'.next (hB n)).ch (aidzn_ok _)) (fun w1 => l00SameNil_c z.A z.n z.c w1 hz.bd.gs) (nil_len rfl)) (fun w1 => specSecNil_c z.B z.m z.d w1 hz.bd.ss)).mono ?_
  rintro e w' ⟨rfl, k, rfl⟩
  exact ⟨rfl, hB k⟩
theorem sameAidNil_c (z : AidG) (w : World) (hz : AidOk w z) :
    Calls Tryz.prog 69 #[z.val, aidZn.val] w fun e w' => e = .returned (.bool (aidNil z.a)) ∧ Below w.heap.size w w' :=
  sameAid_w z aidZn (sameCh z.a.ch aidZn.a.ch) ((z.m : Int) == 0) w hz (aidzn_ok w) (fun w1 h1 h2 => sameCharacter_c z.A none z.n 0 z.c 0 z.a.ch aidZn.a.ch w1 h1.sl h2.sl h1.bd.gs h2.bd.gs)
    (fun w1 h1 _ => (implSecNil_c z.B z.m z.d w1 h1.bd.ss).mono fun _ _ ⟨he, hw⟩ => ⟨he, hw ▸ Below.refl _ _⟩)
abbrev aidZB (E : TypeId) : Obj := .cells #[.int .i64 0, .string { data := #[] }, .int .i64 0, .int .i64 0, .int .i64 0, .int .i64 0, .string { data := #[] }, .string { data := #[] }, .string { data := #[] }, .int .i64 0, .slice none 0 0, .string { data := #[] }, .string { data := #[] }, .int .i64 0, .slice none 0 0, .int .i64 0] E
theorem AidF.zeroB (w : World) (E : TypeId) : AidF (w.alloc (aidZB E)) w.heap.size aidZn := AidF.box w aidZn E
set_option maxRecDepth 100000 in
set_option maxHeartbeats 4000000 in
theorem l21One_c (b off : Nat) (x : NtX) (z : AidG) (w : World) (hp : NtP w b off x z) (hz : AidOk w z) :
    Calls Tryz.prog 63 #[.pointer (some ⟨b, off, none⟩)] w fun e w' => e = .returned (.bool (ntB x z.a)) ∧ Below w.heap.size w w' := by
  have hbb := hp.p.hb
  have hF0 := (AidF.zeroB w 53).set (aidZn)
  have hb0 := belowW (w).heap.size (Nat.le_refl _) (AidG.cells (aidZn)) 0 _ ((Below.refl (w).heap.size w).alloc (Nat.le_refl _) (aidZB 53))
  have TT := (AidF.zeroB w 53).there 0 16 (by omega)
  have SZ : (w).heap.size < (((w).alloc (aidZB 53)).setCells (w).heap.size 0 (AidG.cells (aidZn))).heap.size := by rw [sizeW]; simp
  obtain ⟨w0, hWW⟩ : ∃ x, ((w).alloc (aidZB 53)).setCells (w).heap.size 0 (AidG.cells (aidZn)) = x := ⟨_, rfl⟩
  rw [hWW] at hF0 hb0 SZ
  have OO : (List.toArray (AidG.cells (aidZn))).all (·.oneCell') = true := all_oneCell_toArray (aidg_one _)
  have HTT := Lib.hid TT; clear TT
  have HWW := Lib.hid hWW; clear hWW
  have HOO := Lib.hid OO; clear OO
  have hO := l12One_c b (off + 4) z w0 (hp.p.next hb0) (hz.next hb0)
  have hN := l12Nil_c b (off + 4) w.heap.size 0 z w0 (hp.p.next hb0) (hz.next hb0) hF0.p
  have hbb2 : b < w0.heap.size := Nat.lt_of_lt_of_le hbb hb0.size
  obtain ⟨m, d, k, t⟩ := x
  obtain ⟨k0, k1, k2, k3, _⟩ := hp
  simp only at k0 k1 k2 k3
  obtain ⟨O, hOd⟩ : ∃ O, aidB z.a = O := ⟨_, rfl⟩
  obtain ⟨N, hNd⟩ : ∃ N, aidNil z.a = N := ⟨_, rfl⟩
  obtain ⟨R, hR⟩ : ∃ R, ntB ⟨m, d, k, t⟩ z.a = R := ⟨_, rfl⟩
  have hv : R = (inB m 1 9999 && (inB d 0 99999 && (if k = 1 ∨ k = 2 then O && (t == 0) else if k = 3 ∨ k = 4 then N && inB t 1 9999 else false))) := by rw [← hOd, ← hNd, ← hR]; rfl
  rw [hR]
  rw [hOd] at hO
  rw [hNd] at hN
  have q0 := keepC hb0 b hbb
  clear hOd hNd hR hz hF0
  have HO := Lib.hid hO; clear hO
  have HN := Lib.hid hN; clear hN
  cases h1 : inB m 1 9999
  · have hF : R = false := by rw [hv, h1]; rfl
    have Hv := Lib.hid hv; clear hv
    have HF := Lib.hid hF; clear hF
    go_enter Tryz.func63, Tryz.ntmps63
    go_wp2_with (first | (go_at_call 106; refine (l00In_c _ _ _ _).mono ?_; rintro e w1 ⟨rfl, rfl⟩) | (go_at_call 107; refine (ntDayS_c _ _).mono ?_; rintro e w1 ⟨rfl, rfl⟩) | (refine wpList_store_mid rfl _ _ _ rfl (w).heap.size 0 (List.toArray (AidG.cells (aidZn))) rfl rfl HTT.out (by kernel_rfl) HOO.out ?_; rw [show ((w).alloc (aidZB 53)).setCells (w).heap.size 0 (List.toArray (AidG.cells (aidZn))).toList = w0 from HWW.out]))
    all_goals go_ret
    all_goals exact ⟨ret_eq (bool_eq HF.out.symm), Below.refl _ _⟩
  cases h2 : inB d 0 99999
  · have hF : R = false := by rw [hv, h1, h2]; rfl
    have Hv := Lib.hid hv; clear hv
    have HF := Lib.hid hF; clear hF
    go_enter Tryz.func63, Tryz.ntmps63
    go_wp2_with (first | (go_at_call 106; refine (l00In_c _ _ _ _).mono ?_; rintro e w1 ⟨rfl, rfl⟩) | (go_at_call 107; refine (ntDayS_c _ _).mono ?_; rintro e w1 ⟨rfl, rfl⟩) | (refine wpList_store_mid rfl _ _ _ rfl (w).heap.size 0 (List.toArray (AidG.cells (aidZn))) rfl rfl HTT.out (by kernel_rfl) HOO.out ?_; rw [show ((w).alloc (aidZB 53)).setCells (w).heap.size 0 (List.toArray (AidG.cells (aidZn))).toList = w0 from HWW.out]))
    all_goals go_ret
    all_goals exact ⟨ret_eq (bool_eq HF.out.symm), Below.refl _ _⟩
  rw [h1, h2, Bool.true_and, Bool.true_and] at hv
  by_cases hk : k = 1 ∨ k = 2
  · rw [if_pos hk] at hv
    have Hv := Lib.hid hv; clear hv
    have e3 : k = 1 ∨ (k == 1) = false := by by_cases h : k = 1; exact .inl h; exact .inr (by simpa using h)
    cases O
    all_goals rcases e3 with rfl | e3
    all_goals first | (obtain rfl : k = 2 := by (rcases hk with h | h; (subst h; simp at e3); exact h)) | skip
    all_goals clear hk
    all_goals try clear e3
    all_goals
      go_enter Tryz.func63, Tryz.ntmps63
      go_wp2_with (first | (go_at_call 106; refine (l00In_c _ _ _ _).mono ?_; rintro e w1 ⟨rfl, rfl⟩) | (go_at_call 107; refine (ntDayS_c _ _).mono ?_; rintro e w1 ⟨rfl, rfl⟩) | (refine wpList_store_mid rfl _ _ _ rfl (w).heap.size 0 (List.toArray (AidG.cells (aidZn))) rfl rfl HTT.out (by kernel_rfl) HOO.out ?_; rw [show ((w).alloc (aidZB 53)).setCells (w).heap.size 0 (List.toArray (AidG.cells (aidZn))).toList = w0 from HWW.out]))
      refine HO.out.mono ?_
      rintro e w2 ⟨rfl, hb2⟩
      have q2 := keepC hb2 b hbb2
      go_wp2_with fail
      go_ret
      exact ⟨ret_eq (bool_eq Hv.out.symm), hb0.trans (hb2.mono hb0.size)⟩
  rw [if_neg hk] at hv
  have f1 : (k == 1) = false := by simp only [beq_eq_false_iff_ne]; omega
  have f2 : (k == 2) = false := by simp only [beq_eq_false_iff_ne]; omega
  clear hk
  by_cases hk : k = 3 ∨ k = 4
  · rw [if_pos hk] at hv
    have Hv := Lib.hid hv; clear hv
    have e3 : k = 3 ∨ (k == 3) = false := by by_cases h : k = 3; exact .inl h; exact .inr (by simpa using h)
    cases N
    all_goals rcases e3 with rfl | e3
    all_goals first | (obtain rfl : k = 4 := by (rcases hk with h | h; (subst h; simp at e3); exact h)) | skip
    all_goals clear hk f1 f2
    all_goals try clear e3
    all_goals
      go_enter Tryz.func63, Tryz.ntmps63
      go_wp2_with (first | (go_at_call 106; refine (l00In_c _ _ _ _).mono ?_; rintro e w1 ⟨rfl, rfl⟩) | (go_at_call 107; refine (ntDayS_c _ _).mono ?_; rintro e w1 ⟨rfl, rfl⟩) | (refine wpList_store_mid rfl _ _ _ rfl (w).heap.size 0 (List.toArray (AidG.cells (aidZn))) rfl rfl HTT.out (by kernel_rfl) HOO.out ?_; rw [show ((w).alloc (aidZB 53)).setCells (w).heap.size 0 (List.toArray (AidG.cells (aidZn))).toList = w0 from HWW.out]))
      refine HN.out.mono ?_
      rintro e w2 ⟨rfl, hb2⟩
      have q2 := keepC hb2 b hbb2
      go_wp2_with (go_at_call 106; refine (l00In_c _ _ _ _).mono ?_; rintro e w1 ⟨rfl, rfl⟩)
      go_ret
      exact ⟨ret_eq (bool_eq Hv.out.symm), hb0.trans (hb2.mono hb0.size)⟩
  rw [if_neg hk] at hv
  have f3 : (k == 3) = false := by simp only [beq_eq_false_iff_ne]; omega
  have f4 : (k == 4) = false := by simp only [beq_eq_false_iff_ne]; omega
  clear hk
  have Hv := Lib.hid hv; clear hv
  go_enter Tryz.func63, Tryz.ntmps63
  go_wp2_with (first | (go_at_call 106; refine (l00In_c _ _ _ _).mono ?_; rintro e w1 ⟨rfl, rfl⟩) | (go_at_call 107; refine (ntDayS_c _ _).mono ?_; rintro e w1 ⟨rfl, rfl⟩) | (refine wpList_store_mid rfl _ _ _ rfl (w).heap.size 0 (List.toArray (AidG.cells (aidZn))) rfl rfl HTT.out (by kernel_rfl) HOO.out ?_; rw [show ((w).alloc (aidZB 53)).setCells (w).heap.size 0 (List.toArray (AidG.cells (aidZn))).toList = w0 from HWW.out]))
  go_ret
  exact ⟨ret_eq (bool_eq Hv.out.symm), hb0⟩
end Go.Proofs.YtafojijhfbnehaaGreatDoor
