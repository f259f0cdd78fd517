/- CfZG: several of my texts in one. -/
import Derived.Test.YtpfnnjcochhklaaGreatDoorBsG
import Derived.Deep.QuietTactic
import Derived.BigQuiet
import Derived.Test.YtpfnnjcochhklaaGreatDoorOwnP
import Derived.Test.YtpfnnjcochhklaaGreatDoorCfPG
import Derived.Test.YtpfnnjcochhklaaGreatDoorAidsG

/- A region that draws its order and only reads, walked once in the order of the text; what is still to come is shut. No program is named here. -/
namespace Go.Proofs.YtpfnnjcochhklaaGreatDoor
open Go.RowKit
structure WQ (P : Program) (ops : Array Oper) (C : World → Prop) (Q : Act → Prop) (l : List Oper) (a : Act) : Prop where
  out : wpQuiet P ops C Q l a
section
variable {P : Program} {ops : Array Oper} {C : World → Prop} {Q : Act → Prop}
theorem WQ.step {a : Act} {o : Oper} {rest : List Oper} (h : ∀ K : Act → Prop, (∀ a, WQ P ops C Q rest a → K a) → if Region.wanted o (yielded ops a.tmps) then o.quiet P a C K else K (a.put o.dst undef)) : WQ P ops C Q (o :: rest) a :=
  ⟨wpQuiet_step fun K hK => h K fun a h => hK a h.out⟩
theorem WQ.nil {a : Act} (h : Q a) : WQ P ops C Q [] a := ⟨h⟩
theorem wp_region_wq {id : Nat} {Q : Exit → Act → World → Prop} {a : Act} {w : World} {l : List Oper} (hm : P.follows .mixedOrders = true) (hB : Region.lexB .any l.toArray = true)
    (h : WQ P l.toArray (fun w' => ∃ n, w' = w.drewN n) (fun a' => ∀ w', (∃ n, w' = w.drewN n) → Q .normal a' w') l a) : (Code.region id l.toArray true).wp P Q a w :=
  wp_region_quiet_lit hm hB h.out
end
end Go.Proofs.YtpfnnjcochhklaaGreatDoor

/- Notices: the move into memory of its own. -/
namespace Go.Proofs.YtpfnnjcochhklaaGreatDoor
open Go.RowKit
/-- A notice: number, day, kind, target, aid. -/
structure NtX where
  m : Int
  d : Int
  k : Int
  t : Int
/-- Its cells at a place of memory. -/
structure NtP (w : World) (b off : Nat) (x : NtX) (z : AidG) : Prop where
  k0 : w.cell? ⟨b, off, none⟩ = some (.int .i64 x.m)
  k1 : w.cell? ⟨b, off + 1, none⟩ = some (.int .i64 x.d)
  k2 : w.cell? ⟨b, off + 2, none⟩ = some (.int .i64 x.k)
  k3 : w.cell? ⟨b, off + 3, none⟩ = some (.int .i64 x.t)
  p : AidP w b (off + 4) z
theorem NtP.next {w w' : World} {b off : Nat} {x : NtX} {z : AidG} (h : NtP w b off x z) (hb : Below w.heap.size w w') : NtP w' b off x z :=
  have k := keepC hb b h.p.hb
  ⟨(k _).trans h.k0, (k _).trans h.k1, (k _).trans h.k2, (k _).trans h.k3, h.p.next hb⟩
/-- The same with plain places. -/
structure NtF (w : World) (b off : Nat) (x : NtX) (z : AidG) : Prop where
  k0 : w.cell? ⟨b, off, none⟩ = some (.int .i64 x.m)
  k1 : w.cell? ⟨b, off + 1, none⟩ = some (.int .i64 x.d)
  k2 : w.cell? ⟨b, off + 2, none⟩ = some (.int .i64 x.k)
  k3 : w.cell? ⟨b, off + 3, none⟩ = some (.int .i64 x.t)
  c0 : w.cell? ⟨b, off + 4, none⟩ = some (.int .i64 z.a.num)
  c1 : w.cell? ⟨b, off + 5, none⟩ = some (.string z.a.nm)
  c2 : w.cell? ⟨b, off + 6, none⟩ = some (.int .i64 z.a.x)
  c3 : w.cell? ⟨b, off + 7, none⟩ = some (.int .i64 z.a.y)
  c4 : w.cell? ⟨b, off + 8, none⟩ = some (.int .i64 z.a.h)
  c5 : w.cell? ⟨b, off + 9, none⟩ = some (.int .i64 z.a.mr.k)
  c6 : w.cell? ⟨b, off + 10, none⟩ = some (.string z.a.mr.cs)
  c7 : w.cell? ⟨b, off + 11, none⟩ = some (.string z.a.mr.sh)
  c8 : w.cell? ⟨b, off + 12, none⟩ = some (.string z.a.mr.tp)
  c9 : w.cell? ⟨b, off + 13, none⟩ = some (.int .i64 z.a.ch.k)
  c10 : w.cell? ⟨b, off + 14, none⟩ = some (.slice z.A z.n z.c)
  c11 : w.cell? ⟨b, off + 15, none⟩ = some (.string z.a.ch.l)
  c12 : w.cell? ⟨b, off + 16, none⟩ = some (.string z.a.ch.cs)
  c13 : w.cell? ⟨b, off + 17, none⟩ = some (.int .i64 z.a.ch.p)
  c14 : w.cell? ⟨b, off + 18, none⟩ = some (.slice z.B z.m z.d)
  c15 : w.cell? ⟨b, off + 19, none⟩ = some (.int .i64 z.a.it)
  hb : b < w.heap.size
theorem NtP.zero {w : World} {b : Nat} {x : NtX} {z : AidG} (h : NtP w b 0 x z) : w.cell? ⟨b, 0, none⟩ = some (.int .i64 x.m) ∧ w.cell? ⟨b, 1, none⟩ = some (.int .i64 x.d) ∧ w.cell? ⟨b, 2, none⟩ = some (.int .i64 x.k) ∧ w.cell? ⟨b, 3, none⟩ = some (.int .i64 x.t) ∧ AidP w b 4 z := ⟨h.k0, h.k1, h.k2, h.k3, h.p⟩
theorem NtF.lit {w : World} {b : Nat} {x : NtX} {z : AidG} (h : NtF w b 0 x z) : w.cell? ⟨b, 0, none⟩ = some (.int .i64 x.m) ∧ w.cell? ⟨b, 1, none⟩ = some (.int .i64 x.d) ∧ w.cell? ⟨b, 2, none⟩ = some (.int .i64 x.k) ∧ w.cell? ⟨b, 3, none⟩ = some (.int .i64 x.t) ∧ w.cell? ⟨b, 4, none⟩ = some (.int .i64 z.a.num) ∧ w.cell? ⟨b, 5, none⟩ = some (.string z.a.nm) ∧ w.cell? ⟨b, 6, none⟩ = some (.int .i64 z.a.x) ∧ w.cell? ⟨b, 7, none⟩ = some (.int .i64 z.a.y) ∧ w.cell? ⟨b, 8, none⟩ = some (.int .i64 z.a.h) ∧ w.cell? ⟨b, 9, none⟩ = some (.int .i64 z.a.mr.k) ∧ w.cell? ⟨b, 10, none⟩ = some (.string z.a.mr.cs) ∧ w.cell? ⟨b, 11, none⟩ = some (.string z.a.mr.sh) ∧ w.cell? ⟨b, 12, none⟩ = some (.string z.a.mr.tp) ∧ w.cell? ⟨b, 13, none⟩ = some (.int .i64 z.a.ch.k) ∧ w.cell? ⟨b, 14, none⟩ = some (.slice z.A z.n z.c) ∧ w.cell? ⟨b, 15, none⟩ = some (.string z.a.ch.l) ∧ w.cell? ⟨b, 16, none⟩ = some (.string z.a.ch.cs) ∧ w.cell? ⟨b, 17, none⟩ = some (.int .i64 z.a.ch.p) ∧ w.cell? ⟨b, 18, none⟩ = some (.slice z.B z.m z.d) ∧ w.cell? ⟨b, 19, none⟩ = some (.int .i64 z.a.it) :=
  ⟨h.k0, h.k1, h.k2, h.k3, h.c0, h.c1, h.c2, h.c3, h.c4, h.c5, h.c6, h.c7, h.c8, h.c9, h.c10, h.c11, h.c12, h.c13, h.c14, h.c15⟩
theorem results_cell_mid {P : Program} {fn : Func} {p : Tmp} {ty : TypeId} (h : fn.results = #[.cell p ty]) (tmps : Array Value) (w : World) (g o : Nat) (cs : List Value) (d : TypeDesc)
    (hp : tmps.getD p undef = .pointer (some ⟨g, o, none⟩)) (hc : w.rangeAt g o cs) (hu : P.underlying ty = some d) (hd : d.isRow = true) (hi : (P.info? ty).map (·.size) = some cs.length) :
    (results fn tmps).run P w = .ok (.agg cs.toArray) w := by
  have hp' : tmps[p]?.getD undef = .pointer (some ⟨g, o, none⟩) := by simpa using hp
  simp [results, h, hp', asAddr, run_loadVar_mid w g o ty cs d hc hu hd hi]
end Go.Proofs.YtpfnnjcochhklaaGreatDoor

/- Two aids compared: the reference. -/
namespace Go.Proofs.YtpfnnjcochhklaaGreatDoor
open Go.RowKit
theorem quiet_dm {P : Program} {f : FuncId} {args : Array Value} {w : World} {n : Nat} {v : Value}
    (h : Calls P f args (w.drewN n) fun e w' => e = .returned v ∧ ∃ m, w' = (w.drewN n).drewN m) : Calls P f args (w.drewN n) fun e w'' => e = .returned v ∧ ∃ m, w'' = w.drewN m :=
  h.mono fun _ _ ⟨he, m, hm⟩ => ⟨he, n + m, by rw [hm]; simp [World.drewN, Nat.add_assoc]⟩
set_option maxRecDepth 100000 in
set_option maxHeartbeats 4000000 in
theorem l12Same_v (b off b' off' : Nat) (num num' x x' y y' h h' k k' it it' : Int) (nm nm' cs cs' sh sh' tp tp' : ByteArray) (SB SB' : Value) (P M C S : Bool) (w : World)
    (he : ∀ w, (binOp .eql 49 (ptV x y) (ptV x' y')).run Tryz.prog w = .ok (.bool P) w)
    (hm : ∀ w, (binOp .eql 51 (Mk.val ⟨k, cs, sh, tp⟩) (Mk.val ⟨k', cs', sh', tp'⟩)).run Tryz.prog w = .ok (.bool M) w)
    (c0 : w.cell? ⟨b, off, none⟩ = some (.int .i64 num)) (c1 : w.cell? ⟨b, off + 1, none⟩ = some (.string nm)) (c2 : w.cell? ⟨b, off + 2, none⟩ = some (.int .i64 x)) (c3 : w.cell? ⟨b, off + 3, none⟩ = some (.int .i64 y)) (c4 : w.cell? ⟨b, off + 4, none⟩ = some (.int .i64 h))
    (c5 : w.cell? ⟨b, off + 5, none⟩ = some (.int .i64 k)) (c6 : w.cell? ⟨b, off + 6, none⟩ = some (.string cs)) (c7 : w.cell? ⟨b, off + 7, none⟩ = some (.string sh)) (c8 : w.cell? ⟨b, off + 8, none⟩ = some (.string tp)) (c14 : w.cell? ⟨b, off + 14, none⟩ = some SB) (c15 : w.cell? ⟨b, off + 15, none⟩ = some (.int .i64 it))
    (d0 : w.cell? ⟨b', off', none⟩ = some (.int .i64 num')) (d1 : w.cell? ⟨b', off' + 1, none⟩ = some (.string nm')) (d2 : w.cell? ⟨b', off' + 2, none⟩ = some (.int .i64 x')) (d3 : w.cell? ⟨b', off' + 3, none⟩ = some (.int .i64 y')) (d4 : w.cell? ⟨b', off' + 4, none⟩ = some (.int .i64 h'))
    (d5 : w.cell? ⟨b', off' + 5, none⟩ = some (.int .i64 k')) (d6 : w.cell? ⟨b', off' + 6, none⟩ = some (.string cs')) (d7 : w.cell? ⟨b', off' + 7, none⟩ = some (.string sh')) (d8 : w.cell? ⟨b', off' + 8, none⟩ = some (.string tp')) (d14 : w.cell? ⟨b', off' + 14, none⟩ = some SB') (d15 : w.cell? ⟨b', off' + 15, none⟩ = some (.int .i64 it'))
    (HC : Hid (∀ n, Calls Tryz.prog 50 #[.pointer (some ⟨b, off + 9, none⟩), .pointer (some ⟨b', off' + 9, none⟩)] (w.drewN n) fun e w' => e = .returned (.bool C) ∧ ∃ m, w' = (w.drewN n).drewN m))
    (HS : Hid (∀ n, Calls Tryz.prog 51 #[SB, SB'] (w.drewN n) fun e w' => e = .returned (.bool S) ∧ ∃ m, w' = (w.drewN n).drewN m)) :
    Calls Tryz.prog 31 #[.pointer (some ⟨b, off, none⟩), .pointer (some ⟨b', off', none⟩)] w fun e w' => e = .returned (.bool ((num == num') && ((nm.toList == nm'.toList) && (P && ((h == h') && (M && (C && (S && (it == it'))))))))) ∧ ∃ k, w' = w.drewN k := by
  have g1 := pointGuard
  have g2 := markGuard
  go_enter Tryz.func31, Tryz.ntmps31
  go_wp2
  refine wp_region_wq (by kernel_rfl) (by kernel_rfl) ?_
  cases h1 : (num == num')
  · repeat (
      refine WQ.step (fun K hK => ?_)
      go_simp
      first
        | (refine hK _ ?_; clear hK K)
        | (apply Exists.intro
           refine ⟨fun _ => ?_, hK _ ?_⟩
           (first | (go_at_call 50; exact quiet_dm (HC.out _)) | (go_at_call 51; exact quiet_dm (HS.out _)))
           clear hK K))
    refine WQ.nil ?_
    intro _ hw'
    obtain ⟨nq, hw''⟩ := hw'
    subst hw''
    go_wp2
    go_ret
    exact ⟨ret_eq (bool_eq (by simp [h1])), _, rfl⟩
  cases h2 : (nm.toList == nm'.toList)
  · repeat (
      refine WQ.step (fun K hK => ?_)
      go_simp
      first
        | (refine hK _ ?_; clear hK K)
        | (apply Exists.intro
           refine ⟨fun _ => ?_, hK _ ?_⟩
           (first | (go_at_call 50; exact quiet_dm (HC.out _)) | (go_at_call 51; exact quiet_dm (HS.out _)))
           clear hK K))
    refine WQ.nil ?_
    intro _ hw'
    obtain ⟨nq, hw''⟩ := hw'
    subst hw''
    go_wp2
    go_ret
    exact ⟨ret_eq (bool_eq (by simp [h1, h2])), _, rfl⟩
  cases P
  · repeat (
      refine WQ.step (fun K hK => ?_)
      go_simp
      first
        | (refine hK _ ?_; clear hK K)
        | (apply Exists.intro
           refine ⟨fun _ => ?_, hK _ ?_⟩
           (first | (go_at_call 50; exact quiet_dm (HC.out _)) | (go_at_call 51; exact quiet_dm (HS.out _)))
           clear hK K))
    refine WQ.nil ?_
    intro _ hw'
    obtain ⟨nq, hw''⟩ := hw'
    subst hw''
    go_wp2
    go_ret
    exact ⟨ret_eq (bool_eq (by simp [h1, h2])), _, rfl⟩
  cases h4 : (h == h')
  · repeat (
      refine WQ.step (fun K hK => ?_)
      go_simp
      first
        | (refine hK _ ?_; clear hK K)
        | (apply Exists.intro
           refine ⟨fun _ => ?_, hK _ ?_⟩
           (first | (go_at_call 50; exact quiet_dm (HC.out _)) | (go_at_call 51; exact quiet_dm (HS.out _)))
           clear hK K))
    refine WQ.nil ?_
    intro _ hw'
    obtain ⟨nq, hw''⟩ := hw'
    subst hw''
    go_wp2
    go_ret
    exact ⟨ret_eq (bool_eq (by simp [h1, h2, h4])), _, rfl⟩
  cases M
  · repeat (
      refine WQ.step (fun K hK => ?_)
      go_simp
      first
        | (refine hK _ ?_; clear hK K)
        | (apply Exists.intro
           refine ⟨fun _ => ?_, hK _ ?_⟩
           (first | (go_at_call 50; exact quiet_dm (HC.out _)) | (go_at_call 51; exact quiet_dm (HS.out _)))
           clear hK K))
    refine WQ.nil ?_
    intro _ hw'
    obtain ⟨nq, hw''⟩ := hw'
    subst hw''
    go_wp2
    go_ret
    exact ⟨ret_eq (bool_eq (by simp [h1, h2, h4])), _, rfl⟩
  cases C
  · repeat (
      refine WQ.step (fun K hK => ?_)
      go_simp
      first
        | (refine hK _ ?_; clear hK K)
        | (apply Exists.intro
           refine ⟨fun _ => ?_, hK _ ?_⟩
           (first | (go_at_call 50; exact quiet_dm (HC.out _)) | (go_at_call 51; exact quiet_dm (HS.out _)))
           clear hK K))
    refine WQ.nil ?_
    intro _ hw'
    obtain ⟨nq, hw''⟩ := hw'
    subst hw''
    go_wp2
    go_ret
    exact ⟨ret_eq (bool_eq (by simp [h1, h2, h4])), _, rfl⟩
  cases S
  · repeat (
      refine WQ.step (fun K hK => ?_)
      go_simp
      first
        | (refine hK _ ?_; clear hK K)
        | (apply Exists.intro
           refine ⟨fun _ => ?_, hK _ ?_⟩
           (first | (go_at_call 50; exact quiet_dm (HC.out _)) | (go_at_call 51; exact quiet_dm (HS.out _)))
           clear hK K))
    refine WQ.nil ?_
    intro _ hw'
    obtain ⟨nq, hw''⟩ := hw'
    subst hw''
    go_wp2
    go_ret
    exact ⟨ret_eq (bool_eq (by simp [h1, h2, h4])), _, rfl⟩
  · repeat (
      refine WQ.step (fun K hK => ?_)
      go_simp
      first
        | (refine hK _ ?_; clear hK K)
        | (apply Exists.intro
           refine ⟨fun _ => ?_, hK _ ?_⟩
           (first | (go_at_call 50; exact quiet_dm (HC.out _)) | (go_at_call 51; exact quiet_dm (HS.out _)))
           clear hK K))
    refine WQ.nil ?_
    intro _ hw'
    obtain ⟨nq, hw''⟩ := hw'
    subst hw''
    go_wp2
    go_ret
    exact ⟨ret_eq (bool_eq (by simp [h1, h2, h4])), _, rfl⟩
theorem l12Same_w (b off b' off' : Nat) (z y : AidG) (C S : Bool) (w : World) (hp : AidP w b off z) (hp' : AidP w b' off' y)
    (hC : ∀ n, Calls Tryz.prog 50 #[.pointer (some ⟨b, off + 9, none⟩), .pointer (some ⟨b', off' + 9, none⟩)] (w.drewN n) fun e w' => e = .returned (.bool C) ∧ ∃ m, w' = (w.drewN n).drewN m)
    (hS : ∀ n, Calls Tryz.prog 51 #[.slice z.B z.m z.d, .slice y.B y.m y.d] (w.drewN n) fun e w' => e = .returned (.bool S) ∧ ∃ m, w' = (w.drewN n).drewN m) :
    Calls Tryz.prog 31 #[.pointer (some ⟨b, off, none⟩), .pointer (some ⟨b', off', none⟩)] w fun e w' => e = .returned (.bool (aidSame0 z.a y.a C S)) ∧ ∃ k, w' = w.drewN k :=
  l12Same_v b off b' off' _ _ _ _ _ _ _ _ _ _ _ _ _ _ _ _ _ _ _ _ _ _ _ _ C S w (eql_point z.a.x z.a.y y.a.x y.a.y) (eql_mark z.a.mr y.a.mr)
    hp.c0 hp.c1 hp.c2 hp.c3 hp.c4 hp.c5 hp.c6 hp.c7 hp.c8 hp.c14 hp.c15 hp'.c0 hp'.c1 hp'.c2 hp'.c3 hp'.c4 hp'.c5 hp'.c6 hp'.c7 hp'.c8 hp'.c14 hp'.c15 (Lib.hid hC) (Lib.hid hS)
end Go.Proofs.YtpfnnjcochhklaaGreatDoor

/- Two aids compared: the program. -/
namespace Go.Proofs.YtpfnnjcochhklaaGreatDoor
open Go.RowKit
set_option maxRecDepth 100000 in
set_option maxHeartbeats 4000000 in
theorem sameAid_w (z y : AidG) (C S : Bool) (w : World) (h : AidOk w z) (h' : AidOk w y)
    (hC : ∀ w1, AidOk w1 z → AidOk w1 y → Calls Tryz.prog 79 #[chV z.a.ch.k z.A z.n z.c z.a.ch.l z.a.ch.cs z.a.ch.p, chV y.a.ch.k y.A y.n y.c y.a.ch.l y.a.ch.cs y.a.ch.p] w1 fun e w' => e = .returned (.bool C) ∧ Below w1.heap.size w1 w')
    (hS : ∀ w1, AidOk w1 z → AidOk w1 y → Calls Tryz.prog 80 #[.slice z.B z.m z.d, .slice y.B y.m y.d] w1 fun e w' => e = .returned (.bool S) ∧ Below w1.heap.size w1 w') :
    Calls Tryz.prog 47 #[z.val, y.val] w fun e w' => e = .returned (.bool (aidSame0 z.a y.a C S)) ∧ Below w.heap.size w w' := by
  have he := eql_point z.a.x z.a.y y.a.x y.a.y
  have hm := eql_mark z.a.mr y.a.mr
  have hv : aidSame0 z.a y.a C S = ((z.a.num == y.a.num) && ((z.a.nm.toList == y.a.nm.toList) && ((z.a.x == y.a.x && z.a.y == y.a.y) && ((z.a.h == y.a.h) && (mkSame z.a.mr y.a.mr && (C && (S && (z.a.it == y.a.it)))))))) := rfl
  rw [hv]
  obtain ⟨P, hP⟩ : ∃ P, (z.a.x == y.a.x && z.a.y == y.a.y) = P := ⟨_, rfl⟩
  obtain ⟨M, hM⟩ : ∃ M, mkSame z.a.mr y.a.mr = M := ⟨_, rfl⟩
  rw [hP] at he ⊢
  rw [hM] at hm ⊢
  have hb0 : Below w.heap.size w ((w.alloc (aidO z 56)).alloc (aidO y 56)) := by (repeat (first | (with_reducible assumption) | (with_reducible exact Below.refl _ _) | exact Nat.le_refl _ | exact Below.size (by with_reducible assumption) | (with_reducible refine Below.drew ?_) | (with_reducible refine below_drewN ?_ _) | (with_reducible refine Below.alloc ?_ ?_ _) | (with_reducible refine Below.setCell ?_ ?_ _) | (with_reducible refine le_alloc ?_ _) | (with_reducible refine le_set ?_ _ _) | (with_reducible refine le_drew ?_) | (with_reducible refine le_drewN ?_ _) | omega | (dsimp only; omega)))
  have p1 := (aidp_box w z 56).next (w' := (w.alloc (aidO z 56)).alloc (aidO y 56)) (by (repeat (first | (with_reducible assumption) | (with_reducible exact Below.refl _ _) | exact Nat.le_refl _ | exact Below.size (by with_reducible assumption) | (with_reducible refine Below.drew ?_) | (with_reducible refine below_drewN ?_ _) | (with_reducible refine Below.alloc ?_ ?_ _) | (with_reducible refine Below.setCell ?_ ?_ _) | (with_reducible refine le_alloc ?_ _) | (with_reducible refine le_set ?_ _ _) | (with_reducible refine le_drew ?_) | (with_reducible refine le_drewN ?_ _) | omega | (dsimp only; omega))))
  have p2 := aidp_box (w.alloc (aidO z 56)) y 56
  have hsz : (w.alloc (aidO z 56)).heap.size = w.heap.size + 1 := by simp
  rw [hsz] at p2
  have s1 := h.next hb0
  have s2 := h'.next hb0
  obtain ⟨w0, hw⟩ : ∃ w0, (w.alloc (aidO z 56)).alloc (aidO y 56) = w0 := ⟨_, rfl⟩
  have hz : w.heap.size < w0.heap.size := by rw [← hw]; simp; omega
  have hz' : w.heap.size + 1 < w0.heap.size := by rw [← hw]; simp
  rw [hw] at p1 p2 hb0 s1 s2
  obtain ⟨c0, c1, c2, c3, c4, c5, c6, c7, c8, c9, c10, c11, c12, c13, c14, c15, _⟩ := p1
  obtain ⟨d0, d1, d2, d3, d4, d5, d6, d7, d8, d9, d10, d11, d12, d13, d14, d15, _⟩ := p2
  simp only [Nat.zero_add] at c1 c2 c3 c4 c5 c6 c7 c8 c9 c10 c11 c12 c13 c14 c15 d1 d2 d3 d4 d5 d6 d7 d8 d9 d10 d11 d12 d13 d14 d15
  have g1 := pointGuard
  have g2 := markGuard
  clear hsz
  have hC0 := hC w0 s1 s2
  have hS0 : ∀ w1, Below w0.heap.size w0 w1 → Calls Tryz.prog 80 #[.slice z.B z.m z.d, .slice y.B y.m y.d] w1 fun e w' => e = .returned (.bool S) ∧ Below w1.heap.size w1 w' := fun w1 hb => hS w1 (s1.next hb) (s2.next hb)
  have Hv := Lib.hid hv; clear hv
  have HP := Lib.hid hP; clear hP
  have HM := Lib.hid hM; clear hM
  have HC := Lib.hid hC0; clear hC0
  have HS := Lib.hid hS0; clear hS0
  clear hC hS s1 s2 h h'
  cases h1 : (z.a.num == y.a.num)
  · go_enter Tryz.func47, Tryz.ntmps47
    go_wp2_with fail
    try rw [hw]
    clear hw
    go_wp2_with (first | (go_at_call 79; refine (HC.out).mono ?_; rintro e w1 ⟨rfl, hb1⟩; have q1 := keepC hb1 w.heap.size hz; have r1 := keepC hb1 (w.heap.size + 1) hz') | (go_at_call 80; refine (HS.out _ hb1).mono ?_; rintro e w2 ⟨rfl, hb2⟩; have hb12 := hb1.trans (hb2.mono hb1.size); have q2 := keepC hb12 w.heap.size hz; have r2 := keepC hb12 (w.heap.size + 1) hz'; clear q1 r1))
    go_ret
    exact ⟨ret_eq (bool_eq (by simp)), hb0⟩
  cases h2 : (z.a.nm.toList == y.a.nm.toList)
  · go_enter Tryz.func47, Tryz.ntmps47
    go_wp2_with fail
    try rw [hw]
    clear hw
    go_wp2_with (first | (go_at_call 79; refine (HC.out).mono ?_; rintro e w1 ⟨rfl, hb1⟩; have q1 := keepC hb1 w.heap.size hz; have r1 := keepC hb1 (w.heap.size + 1) hz') | (go_at_call 80; refine (HS.out _ hb1).mono ?_; rintro e w2 ⟨rfl, hb2⟩; have hb12 := hb1.trans (hb2.mono hb1.size); have q2 := keepC hb12 w.heap.size hz; have r2 := keepC hb12 (w.heap.size + 1) hz'; clear q1 r1))
    go_ret
    exact ⟨ret_eq (bool_eq (by simp)), hb0⟩
  cases P
  · go_enter Tryz.func47, Tryz.ntmps47
    go_wp2_with fail
    try rw [hw]
    clear hw
    go_wp2_with (first | (go_at_call 79; refine (HC.out).mono ?_; rintro e w1 ⟨rfl, hb1⟩; have q1 := keepC hb1 w.heap.size hz; have r1 := keepC hb1 (w.heap.size + 1) hz') | (go_at_call 80; refine (HS.out _ hb1).mono ?_; rintro e w2 ⟨rfl, hb2⟩; have hb12 := hb1.trans (hb2.mono hb1.size); have q2 := keepC hb12 w.heap.size hz; have r2 := keepC hb12 (w.heap.size + 1) hz'; clear q1 r1))
    go_ret
    exact ⟨ret_eq (bool_eq (by simp)), hb0⟩
  cases h4 : (z.a.h == y.a.h)
  · go_enter Tryz.func47, Tryz.ntmps47
    go_wp2_with fail
    try rw [hw]
    clear hw
    go_wp2_with (first | (go_at_call 79; refine (HC.out).mono ?_; rintro e w1 ⟨rfl, hb1⟩; have q1 := keepC hb1 w.heap.size hz; have r1 := keepC hb1 (w.heap.size + 1) hz') | (go_at_call 80; refine (HS.out _ hb1).mono ?_; rintro e w2 ⟨rfl, hb2⟩; have hb12 := hb1.trans (hb2.mono hb1.size); have q2 := keepC hb12 w.heap.size hz; have r2 := keepC hb12 (w.heap.size + 1) hz'; clear q1 r1))
    go_ret
    exact ⟨ret_eq (bool_eq (by simp)), hb0⟩
  cases M
  · go_enter Tryz.func47, Tryz.ntmps47
    go_wp2_with fail
    try rw [hw]
    clear hw
    go_wp2_with (first | (go_at_call 79; refine (HC.out).mono ?_; rintro e w1 ⟨rfl, hb1⟩; have q1 := keepC hb1 w.heap.size hz; have r1 := keepC hb1 (w.heap.size + 1) hz') | (go_at_call 80; refine (HS.out _ hb1).mono ?_; rintro e w2 ⟨rfl, hb2⟩; have hb12 := hb1.trans (hb2.mono hb1.size); have q2 := keepC hb12 w.heap.size hz; have r2 := keepC hb12 (w.heap.size + 1) hz'; clear q1 r1))
    go_ret
    exact ⟨ret_eq (bool_eq (by simp)), hb0⟩
  cases C
  · go_enter Tryz.func47, Tryz.ntmps47
    go_wp2_with fail
    try rw [hw]
    clear hw
    go_wp2_with (first | (go_at_call 79; refine (HC.out).mono ?_; rintro e w1 ⟨rfl, hb1⟩; have q1 := keepC hb1 w.heap.size hz; have r1 := keepC hb1 (w.heap.size + 1) hz') | (go_at_call 80; refine (HS.out _ hb1).mono ?_; rintro e w2 ⟨rfl, hb2⟩; have hb12 := hb1.trans (hb2.mono hb1.size); have q2 := keepC hb12 w.heap.size hz; have r2 := keepC hb12 (w.heap.size + 1) hz'; clear q1 r1))
    go_ret
    exact ⟨ret_eq (bool_eq (by simp)), hb0.trans (hb1.mono hb0.size)⟩
  cases S
  · go_enter Tryz.func47, Tryz.ntmps47
    go_wp2_with fail
    try rw [hw]
    clear hw
    go_wp2_with (first | (go_at_call 79; refine (HC.out).mono ?_; rintro e w1 ⟨rfl, hb1⟩; have q1 := keepC hb1 w.heap.size hz; have r1 := keepC hb1 (w.heap.size + 1) hz') | (go_at_call 80; refine (HS.out _ hb1).mono ?_; rintro e w2 ⟨rfl, hb2⟩; have hb12 := hb1.trans (hb2.mono hb1.size); have q2 := keepC hb12 w.heap.size hz; have r2 := keepC hb12 (w.heap.size + 1) hz'; clear q1 r1))
    go_ret
    exact ⟨ret_eq (bool_eq (by simp)), hb0.trans (hb12.mono hb0.size)⟩
  · go_enter Tryz.func47, Tryz.ntmps47
    go_wp2_with fail
    try rw [hw]
    clear hw
    go_wp2_with (first | (go_at_call 79; refine (HC.out).mono ?_; rintro e w1 ⟨rfl, hb1⟩; have q1 := keepC hb1 w.heap.size hz; have r1 := keepC hb1 (w.heap.size + 1) hz') | (go_at_call 80; refine (HS.out _ hb1).mono ?_; rintro e w2 ⟨rfl, hb2⟩; have hb12 := hb1.trans (hb2.mono hb1.size); have q2 := keepC hb12 w.heap.size hz; have r2 := keepC hb12 (w.heap.size + 1) hz'; clear q1 r1))
    go_ret
    exact ⟨ret_eq (bool_eq (by simp)), hb0.trans (hb12.mono hb0.size)⟩
end Go.Proofs.YtpfnnjcochhklaaGreatDoor

/- A zero aid in a block of its own; an aid of a list as a range of cells. -/
namespace Go.Proofs.YtpfnnjcochhklaaGreatDoor
open Go.RowKit
theorem AidSl.getR {w : World} {A : Option Addr} {n : Nat} {zs : List AidG} (h : AidSl w A n zs) (k : Nat) (hk : k < n) :
    ∃ b off z, A = some ⟨b, off, none⟩ ∧ b < w.heap.size ∧ zs[k]? = some z ∧ AidOk w z ∧ w.rangeAt b (off + k * 16) z.cells := by
  obtain ⟨b, off, z, hA, hb, hx, hc⟩ := h.sl.get AidG.cells 16 AidG.cells_len (by omega) k hk
  exact ⟨b, off, z, hA, hb, hx, h.ok z (List.mem_of_getElem? hx), hc⟩
theorem rangeBz {w w' : World} {B b o : Nat} {cs : List Value} (h : w.rangeAt b o cs) (hb : Below B w w') (hlt : b < B) : w'.rangeAt b o cs := fun j v hv => (World.cell?_of_block (w := w) (hb.block b hlt)).trans (h j v hv)
end Go.Proofs.YtpfnnjcochhklaaGreatDoor
