/- Two aids compared: the reference. -/
import Derived.Test.YtafojijhfbnehaaGreatDoorNotNil
import Derived.Test.YtafojijhfbnehaaGreatDoorWq
namespace Go.Proofs.YtafojijhfbnehaaGreatDoor
open Go.RowKit
theorem quiet_dm {P : Program} {f : FuncId} {args : Array Value} {w : World} {n : Nat} {v : Value}
    (h : Calls P f args (w.drewN n) fun e w' => e = .returned v ∧ ∃ m, w' = (w.drewN n).drewN m) : Calls P f args (w.drewN n) fun e w'' => e = .returned v ∧ ∃ m, w'' = w.drewN m :=
  h.mono fun _ _ ⟨he, m, hm⟩ => ⟨he, n + m, by rw [hm]; simp [World.drewN, Nat.add_assoc]⟩
set_option maxRecDepth 100000 in
set_option maxHeartbeats 4000000 in
theorem l12Same_v (b off b' off' : Nat) (num num' x x' y y' h h' k k' it it' : Int) (nm nm' cs cs' sh sh' tp tp' : ByteArray) (SB SB' : Value) (P M C S : Bool) (w : World)
    (he : ∀ w, (binOp .eql 48 (ptV x y) (ptV x' y')).run Tryz.prog w = .ok (.bool P) w)
    (hm : ∀ w, (binOp .eql 49 (Mk.val ⟨k, cs, sh, tp⟩) (Mk.val ⟨k', cs', sh', tp'⟩)).run Tryz.prog w = .ok (.bool M) w)
    (c0 : w.cell? ⟨b, off, none⟩ = some (.int .i64 num)) (c1 : w.cell? ⟨b, off + 1, none⟩ = some (.string nm)) (c2 : w.cell? ⟨b, off + 2, none⟩ = some (.int .i64 x)) (c3 : w.cell? ⟨b, off + 3, none⟩ = some (.int .i64 y)) (c4 : w.cell? ⟨b, off + 4, none⟩ = some (.int .i64 h))
    (c5 : w.cell? ⟨b, off + 5, none⟩ = some (.int .i64 k)) (c6 : w.cell? ⟨b, off + 6, none⟩ = some (.string cs)) (c7 : w.cell? ⟨b, off + 7, none⟩ = some (.string sh)) (c8 : w.cell? ⟨b, off + 8, none⟩ = some (.string tp)) (c14 : w.cell? ⟨b, off + 14, none⟩ = some SB) (c15 : w.cell? ⟨b, off + 15, none⟩ = some (.int .i64 it))
    (d0 : w.cell? ⟨b', off', none⟩ = some (.int .i64 num')) (d1 : w.cell? ⟨b', off' + 1, none⟩ = some (.string nm')) (d2 : w.cell? ⟨b', off' + 2, none⟩ = some (.int .i64 x')) (d3 : w.cell? ⟨b', off' + 3, none⟩ = some (.int .i64 y')) (d4 : w.cell? ⟨b', off' + 4, none⟩ = some (.int .i64 h'))
    (d5 : w.cell? ⟨b', off' + 5, none⟩ = some (.int .i64 k')) (d6 : w.cell? ⟨b', off' + 6, none⟩ = some (.string cs')) (d7 : w.cell? ⟨b', off' + 7, none⟩ = some (.string sh')) (d8 : w.cell? ⟨b', off' + 8, none⟩ = some (.string tp')) (d14 : w.cell? ⟨b', off' + 14, none⟩ = some SB') (d15 : w.cell? ⟨b', off' + 15, none⟩ = some (.int .i64 it'))
    (HC : Hid (∀ n, Calls Tryz.prog 104 #[.pointer (some ⟨b, off + 9, none⟩), .pointer (some ⟨b', off' + 9, none⟩)] (w.drewN n) fun e w' => e = .returned (.bool C) ∧ ∃ m, w' = (w.drewN n).drewN m))
    (HS : Hid (∀ w1, Calls Tryz.prog 105 #[SB, SB'] w1 fun e w' => e = .returned (.bool S) ∧ w1 = w')) :
    Calls Tryz.prog 61 #[.pointer (some ⟨b, off, none⟩), .pointer (some ⟨b', off', none⟩)] w fun e w' => e = .returned (.bool ((num == num') && ((nm.toList == nm'.toList) && (P && ((h == h') && (M && (C && (S && (it == it'))))))))) ∧ ∃ k, w' = w.drewN k := by
  have g1 := pointGuard
  have g2 := markGuard
  go_enter Tryz.func61, Tryz.ntmps61
  go_wp2
  refine wp_region_wq (by kernel_rfl) (by kernel_rfl) ?_
  cases h1 : (num == num')
  · repeat (
      refine WQ.step (fun K hK => ?_)
      go_simp
      first
        | (refine hK _ ?_; clear hK K)
        | (apply Exists.intro
           refine ⟨fun _ => ?_, hK _ ?_⟩
           (first | (go_at_call 104; exact quiet_dm (HC.out _)) | (go_at_call 105; exact quiet_c (HS.out _)))
           clear hK K))
    refine WQ.nil ?_
    intro _ hw'
    obtain ⟨nq, hw''⟩ := hw'
    subst hw''
    go_wp2
    go_ret
    exact ⟨ret_eq (bool_eq (by simp [h1])), _, rfl⟩
  cases h2 : (nm.toList == nm'.toList)
  · repeat (
      refine WQ.step (fun K hK => ?_)
      go_simp
      first
        | (refine hK _ ?_; clear hK K)
        | (apply Exists.intro
           refine ⟨fun _ => ?_, hK _ ?_⟩
           (first | (go_at_call 104; exact quiet_dm (HC.out _)) | (go_at_call 105; exact quiet_c (HS.out _)))
           clear hK K))
    refine WQ.nil ?_
    intro _ hw'
    obtain ⟨nq, hw''⟩ := hw'
    subst hw''
    go_wp2
    go_ret
    exact ⟨ret_eq (bool_eq (by simp [h1, h2])), _, rfl⟩
  cases P
  · repeat (
      refine WQ.step (fun K hK => ?_)
      go_simp
      first
        | (refine hK _ ?_; clear hK K)
        | (apply Exists.intro
           refine ⟨fun _ => ?_, hK _ ?_⟩
           (first | (go_at_call 104; exact quiet_dm (HC.out _)) | (go_at_call 105; exact quiet_c (HS.out _)))
           clear hK K))
    refine WQ.nil ?_
    intro _ hw'
    obtain ⟨nq, hw''⟩ := hw'
    subst hw''
    go_wp2
    go_ret
    exact ⟨ret_eq (bool_eq (by simp [h1, h2])), _, rfl⟩
  cases h4 : (h == h')
  · repeat (
      refine WQ.step (fun K hK => ?_)
      go_simp
      first
        | (refine hK _ ?_; clear hK K)
        | (apply Exists.intro
           refine ⟨fun _ => ?_, hK _ ?_⟩
           (first | (go_at_call 104; exact quiet_dm (HC.out _)) | (go_at_call 105; exact quiet_c (HS.out _)))
           clear hK K))
    refine WQ.nil ?_
    intro _ hw'
    obtain ⟨nq, hw''⟩ := hw'
    subst hw''
    go_wp2
    go_ret
    exact ⟨ret_eq (bool_eq (by simp [h1, h2, h4])), _, rfl⟩
  cases M
  · repeat (
      refine WQ.step (fun K hK => ?_)
      go_simp
      first
        | (refine hK _ ?_; clear hK K)
        | (apply Exists.intro
           refine ⟨fun _ => ?_, hK _ ?_⟩
           (first | (go_at_call 104; exact quiet_dm (HC.out _)) | (go_at_call 105; exact quiet_c (HS.out _)))
           clear hK K))
    refine WQ.nil ?_
    intro _ hw'
    obtain ⟨nq, hw''⟩ := hw'
    subst hw''
    go_wp2
    go_ret
    exact ⟨ret_eq (bool_eq (by simp [h1, h2, h4])), _, rfl⟩
  cases C
  · repeat (
      refine WQ.step (fun K hK => ?_)
      go_simp
      first
        | (refine hK _ ?_; clear hK K)
        | (apply Exists.intro
           refine ⟨fun _ => ?_, hK _ ?_⟩
           (first | (go_at_call 104; exact quiet_dm (HC.out _)) | (go_at_call 105; exact quiet_c (HS.out _)))
           clear hK K))
    refine WQ.nil ?_
    intro _ hw'
    obtain ⟨nq, hw''⟩ := hw'
    subst hw''
    go_wp2
    go_ret
    exact ⟨ret_eq (bool_eq (by simp [h1, h2, h4])), _, rfl⟩
  cases S
  · repeat (
      refine WQ.step (fun K hK => ?_)
      go_simp
      first
        | (refine hK _ ?_; clear hK K)
        | (apply Exists.intro
           refine ⟨fun _ => ?_, hK _ ?_⟩
           (first | (go_at_call 104; exact quiet_dm (HC.out _)) | (go_at_call 105; exact quiet_c (HS.out _)))
           clear hK K))
    refine WQ.nil ?_
    intro _ hw'
    obtain ⟨nq, hw''⟩ := hw'
    subst hw''
    go_wp2
    go_ret
    exact ⟨ret_eq (bool_eq (by simp [h1, h2, h4])), _, rfl⟩
  · repeat (
      refine WQ.step (fun K hK => ?_)
      go_simp
      first
        | (refine hK _ ?_; clear hK K)
        | (apply Exists.intro
           refine ⟨fun _ => ?_, hK _ ?_⟩
           (first | (go_at_call 104; exact quiet_dm (HC.out _)) | (go_at_call 105; exact quiet_c (HS.out _)))
           clear hK K))
    refine WQ.nil ?_
    intro _ hw'
    obtain ⟨nq, hw''⟩ := hw'
    subst hw''
    go_wp2
    go_ret
    exact ⟨ret_eq (bool_eq (by simp [h1, h2, h4])), _, rfl⟩
theorem l12Same_w (b off b' off' : Nat) (z y : AidG) (C S : Bool) (w : World) (hp : AidP w b off z) (hp' : AidP w b' off' y)
    (hC : ∀ n, Calls Tryz.prog 104 #[.pointer (some ⟨b, off + 9, none⟩), .pointer (some ⟨b', off' + 9, none⟩)] (w.drewN n) fun e w' => e = .returned (.bool C) ∧ ∃ m, w' = (w.drewN n).drewN m)
    (hS : ∀ w1, Calls Tryz.prog 105 #[.slice z.B z.m z.d, .slice y.B y.m y.d] w1 fun e w' => e = .returned (.bool S) ∧ w1 = w') :
    Calls Tryz.prog 61 #[.pointer (some ⟨b, off, none⟩), .pointer (some ⟨b', off', none⟩)] w fun e w' => e = .returned (.bool (aidSame0 z.a y.a C S)) ∧ ∃ k, w' = w.drewN k :=
  l12Same_v b off b' off' _ _ _ _ _ _ _ _ _ _ _ _ _ _ _ _ _ _ _ _ _ _ _ _ C S w (eql_point z.a.x z.a.y y.a.x y.a.y) (eql_mark z.a.mr y.a.mr)
    hp.c0 hp.c1 hp.c2 hp.c3 hp.c4 hp.c5 hp.c6 hp.c7 hp.c8 hp.c14 hp.c15 hp'.c0 hp'.c1 hp'.c2 hp'.c3 hp'.c4 hp'.c5 hp'.c6 hp'.c7 hp'.c8 hp'.c14 hp'.c15 (Lib.hid hC) (Lib.hid hS)
end Go.Proofs.YtafojijhfbnehaaGreatDoor
