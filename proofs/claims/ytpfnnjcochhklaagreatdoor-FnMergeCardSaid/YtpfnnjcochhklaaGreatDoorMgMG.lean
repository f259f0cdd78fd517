/- MgMG: several of my texts in one. -/
import Derived.Test.YtpfnnjcochhklaaGreatDoorCfPG
import Derived.Test.YtpfnnjcochhklaaGreatDoorCfZG
import Derived.Test.YtpfnnjcochhklaaGreatDoorCfAn
import Derived.Test.YtpfnnjcochhklaaGreatDoorAidsS
import Derived.Test.YtpfnnjcochhklaaGreatDoorMgPG

/- Conflicts of two lists of aids: the reference. -/
namespace Go.Proofs.YtpfnnjcochhklaaGreatDoor
open Go.RowKit
set_option maxRecDepth 100000 in
set_option maxHeartbeats 1000000 in
theorem l05SameG_c (b off b' off' : Nat) (A A' : Option Addr) (n n' c c' : Nat) (x y : Ch) (w : World) (h : ChP w b off A n c x) (h' : ChP w b' off' A' n' c' y) :
    Calls Tryz.prog 50 #[.pointer (some ⟨b, off, none⟩), .pointer (some ⟨b', off', none⟩)] w fun e w' => e = .returned (.bool (sameCh x y)) ∧ ∃ k, w' = w.drewN k := by
  have hB : ∀ n, Below w.heap.size w (w.drewN n) := fun n => below_drewN (Below.refl _ _) n
  have hS : ∀ q, Calls Tryz.prog 81 #[.slice A n c, .slice A' n' c'] (w.drewN q) fun e w' => e = .returned (.bool (decide (x.gs = y.gs))) ∧ ∃ m, w' = (w.drewN q).drewN m := fun q => sameQ_c A A' n n' c c' x.gs y.gs (w.drewN q) (h.next (hB q)).sl (h'.next (hB q)).sl h.hn h'.hn
  obtain ⟨G, hG⟩ : ∃ G, decide (x.gs = y.gs) = G := ⟨_, rfl⟩
  have hv : sameCh x y = ((x.k == y.k) && (G && ((x.l.toList == y.l.toList) && ((x.cs.toList == y.cs.toList) && (x.p == y.p))))) := by rw [sameCh, hG]
  rw [hv]
  rw [hG] at hS
  obtain ⟨c0, c1, c2, c3, c4, hb, _, _, _, _⟩ := h
  obtain ⟨d0, d1, d2, d3, d4, hb', _, _, _, _⟩ := h'
  clear hB
  have Hv := Lib.hid hv; clear hv
  have HS := Lib.hid hS; clear hS
  have HG := Lib.hid hG; clear hG
  cases h1 : (x.k == y.k)
  · go_enter Tryz.func50, Tryz.ntmps50
    go_wp2
    go_quiet ((go_at_call 81; exact quiet_dm (HS.out _)))
    go_wp2
    go_ret
    exact ⟨rfl, _, rfl⟩
  cases G
  · go_enter Tryz.func50, Tryz.ntmps50
    go_wp2
    go_quiet ((go_at_call 81; exact quiet_dm (HS.out _)))
    go_wp2
    go_ret
    exact ⟨rfl, _, rfl⟩
  cases h2 : (x.l.toList == y.l.toList)
  · go_enter Tryz.func50, Tryz.ntmps50
    go_wp2
    go_quiet ((go_at_call 81; exact quiet_dm (HS.out _)))
    go_wp2
    go_ret
    exact ⟨rfl, _, rfl⟩
  cases h3 : (x.cs.toList == y.cs.toList)
  · go_enter Tryz.func50, Tryz.ntmps50
    go_wp2
    go_quiet ((go_at_call 81; exact quiet_dm (HS.out _)))
    go_wp2
    go_ret
    exact ⟨rfl, _, rfl⟩
  · go_enter Tryz.func50, Tryz.ntmps50
    go_wp2
    go_quiet ((go_at_call 81; exact quiet_dm (HS.out _)))
    go_wp2
    go_ret
    exact ⟨ret_eq (bool_eq (by simp)), _, rfl⟩
end Go.Proofs.YtpfnnjcochhklaaGreatDoor

/- A correction of a list that is drawn: l23Make, l23DrawChanged, R8Changed. -/
namespace Go.Proofs.YtpfnnjcochhklaaGreatDoor
open Go.RowKit
theorem sameD_c (b off b' off' : Nat) (z y : AidG) (w : World) (hp : AidP w b off z) (hp' : AidP w b' off' y) (hz : AidOk w z) (hy : AidOk w y) :
    Calls Tryz.prog 31 #[.pointer (some ⟨b, off, none⟩), .pointer (some ⟨b', off', none⟩)] w fun e w' => e = .returned (.bool (sameX z.a y.a)) ∧ ∃ m, w' = w.drewN m := by
  have hB : ∀ n, Below w.heap.size w (w.drewN n) := fun n => below_drewN (Below.refl _ _) n
  exact l12Same_w b off b' off' z y _ _ w hp hp' (fun n => l05SameG_c b (off + 9) b' (off' + 9) z.A y.A z.n y.n z.c y.c z.a.ch y.a.ch (w.drewN n) ((hp.next (hB n)).ch (hz.next (hB n))) ((hp'.next (hB n)).ch (hy.next (hB n)))) (fun n => secsQ_c z.B y.B z.m y.m z.d y.d z.a.secs y.a.secs (w.drewN n) (hz.next (hB n)).ss (hy.next (hB n)).ss hz.bd.ss hy.bd.ss)
def MakeAns (l : List AidX) (a : AidX) (w : World) (e : Ending) (w' : World) : Prop := ∃ (A' : Option Addr) (n' c' : Nat) (zs' : List AidG) (K : Int), e = .returned (.tuple #[.slice A' n' c', .int .i64 K]) ∧ (K = 0 → aidsB l = true → aidB a = true → aidsB (zs'.map AidG.a) = true) ∧ AidOwn w' w.heap.size (.slice A' n' c') n' zs' ∧ Below w.heap.size w w'
set_option maxRecDepth 100000 in
set_option maxHeartbeats 4000000 in
theorem l23Make_c (A : Option Addr) (n c : Nat) (zs : List AidG) (b : Nat) (z : AidG) (kd : Int) (w : World) (h : AidSl w A n zs) (hm : n ≤ 1000) (f1 : n ≤ c) (f2 : (A = none ∧ c = 0) ∨ ∃ d f, A = some ⟨d, f, none⟩) (hz : AidOk w z) (hp : AidP w b 1 z) (hk : w.cell? ⟨b, 0, none⟩ = some (.int .i64 kd)) (hkd : kd = 1 ∨ kd = 2 ∨ kd = 3) :
    Calls Tryz.prog 44 #[.slice A n c, .pointer (some ⟨b, 0, none⟩)] w (MakeAns (zs.map AidG.a) z.a w) := by
  rcases hkd with rfl | rfl | rfl
  · have hB : ∀ q, Below w.heap.size w (w.drewN q) := fun q => below_drewN (Below.refl _ _) q
    have hF := l12Find_c A n c zs z.a.num w h (by omega)
    have hDr : ∀ q, Calls Tryz.prog 77 #[.slice A n c, .int .i64 z.a.num] (w.drewN q) fun e w' => ∃ A' n' c' zs', e = .returned (.tuple #[.slice A' n' c', .int .i64 (drK (zs.map AidG.a) z.a.num)]) ∧ zs'.map AidG.a = drL (zs.map AidG.a) z.a.num ∧ AidOwn w' (w.drewN q).heap.size (.slice A' n' c') n' zs' ∧ Below (w.drewN q).heap.size (w.drewN q) w' := fun q => l12Drop_c A n c zs z.a.num (w.drewN q) (h.next (hB q)) (by omega) f1
    have c1 := hp.c0
    cases hf : fdN (zs.map AidG.a) z.a.num with
    | none =>
      rw [hf] at hF
      simp only [Option.elim_none] at hF
      have HF := Lib.hid hF; clear hF
      have HDr := Lib.hid hDr; clear hDr
      have Hf := Lib.hid hf; clear hf
      go_enter Tryz.func44, Tryz.ntmps44
      go_wp2_with fail
      refine HF.out.mono ?_
      rintro e w1 ⟨rfl, hw⟩
      subst hw
      go_wp2_with fail
      go_quiet (fail)
      go_wp2_with fail
      refine (HDr.out _).mono ?_
      rintro e w3 ⟨A', n', c', zs', rfl, hx, hO, hb3⟩
      have hbq : ∀ m, Below w.heap.size w (w.drewN m) := fun m => by (repeat (first | (with_reducible assumption) | (with_reducible exact Below.refl _ _) | exact Nat.le_refl _ | exact Below.size (by with_reducible assumption) | (with_reducible refine Below.drew ?_) | (with_reducible refine below_drewN ?_ _) | (with_reducible refine Below.alloc ?_ ?_ _) | (with_reducible refine Below.setCell ?_ ?_ _) | (with_reducible refine le_alloc ?_ _) | (with_reducible refine le_set ?_ _ _) | (with_reducible refine le_drew ?_) | (with_reducible refine le_drewN ?_ _) | omega | (dsimp only; omega)))
      have hO' : AidOwn w3 w.heap.size (.slice A' n' c') n' zs' := ⟨own_base hO.own (hbq _).size, fun y hy => (hO.new y hy).base (hbq _).size⟩
      have hb' := (hbq _).trans (hb3.mono (hbq _).size)
      have Hx := Lib.hid hx; clear hx
      go_wp2_with fail
      go_ret2
      exact ⟨A', n', c', zs', _, rfl, fun _ hl _ => by rw [Hx.out]; exact dr_valid hl, hO', hb'⟩
    | some k =>
      rw [hf] at hF
      simp only [Option.elim_some] at hF
      obtain ⟨a, _, _, hkl⟩ := fdN_at hf
      rw [List.length_map, h.len] at hkl
      obtain ⟨bb, off, y, rfl, hx, hyo, hpy⟩ := h.get k hkl
      have k0 : (0 : Int) ≤ (k : Int) := by omega
      have k1 : (k : Int) < (n : Int) := by omega
      have hQ : ∀ q, Calls Tryz.prog 31 #[.pointer (some ⟨bb, off + k * 16, none⟩), .pointer (some ⟨b, 1, none⟩)] (w.drewN q) fun e w' => e = .returned (.bool (sameX y.a z.a)) ∧ ∃ m, w' = (w.drewN q).drewN m := fun q => sameD_c bb (off + k * 16) b 1 y z (w.drewN q) (hpy.next (hB q)) (hp.next (hB q)) (hyo.next (hB q)) (hz.next (hB q))
      obtain ⟨S, hS⟩ : ∃ S, sameX y.a z.a = S := ⟨_, rfl⟩
      rw [hS] at hQ
      clear hS hx hyo hpy hkl hB
      have HF := Lib.hid hF; clear hF
      have HDr := Lib.hid hDr; clear hDr
      have HQ := Lib.hid hQ; clear hQ
      have Hf := Lib.hid hf; clear hf
      cases S
      · go_enter Tryz.func44, Tryz.ntmps44
        go_wp2_with fail
        refine HF.out.mono ?_
        rintro e w1 ⟨rfl, hw⟩
        subst hw
        go_wp2_with fail
        go_quiet ((go_at_call 31; exact quiet_dm (HQ.out _)))
        go_wp2_with fail
        go_ret2
        exact ⟨none, 0, 0, [], 6, rfl, fun h => absurd h (by decide), ⟨World.ownsRow_nil _ _ _ _, fun y hy => by cases hy⟩, by (repeat (first | (with_reducible assumption) | (with_reducible exact Below.refl _ _) | exact Nat.le_refl _ | exact Below.size (by with_reducible assumption) | (with_reducible refine Below.drew ?_) | (with_reducible refine below_drewN ?_ _) | (with_reducible refine Below.alloc ?_ ?_ _) | (with_reducible refine Below.setCell ?_ ?_ _) | (with_reducible refine le_alloc ?_ _) | (with_reducible refine le_set ?_ _ _) | (with_reducible refine le_drew ?_) | (with_reducible refine le_drewN ?_ _) | omega | (dsimp only; omega)))⟩
      · go_enter Tryz.func44, Tryz.ntmps44
        go_wp2_with fail
        refine HF.out.mono ?_
        rintro e w1 ⟨rfl, hw⟩
        subst hw
        go_wp2_with fail
        go_quiet ((go_at_call 31; exact quiet_dm (HQ.out _)))
        go_wp2_with fail
        refine (HDr.out _).mono ?_
        rintro e w3 ⟨A', n', c', zs', rfl, hx, hO, hb3⟩
        have hbq : ∀ m, Below w.heap.size w (w.drewN m) := fun m => by (repeat (first | (with_reducible assumption) | (with_reducible exact Below.refl _ _) | exact Nat.le_refl _ | exact Below.size (by with_reducible assumption) | (with_reducible refine Below.drew ?_) | (with_reducible refine below_drewN ?_ _) | (with_reducible refine Below.alloc ?_ ?_ _) | (with_reducible refine Below.setCell ?_ ?_ _) | (with_reducible refine le_alloc ?_ _) | (with_reducible refine le_set ?_ _ _) | (with_reducible refine le_drew ?_) | (with_reducible refine le_drewN ?_ _) | omega | (dsimp only; omega)))
        have hO' : AidOwn w3 w.heap.size (.slice A' n' c') n' zs' := ⟨own_base hO.own (hbq _).size, fun y hy => (hO.new y hy).base (hbq _).size⟩
        have hb' := (hbq _).trans (hb3.mono (hbq _).size)
        have Hx := Lib.hid hx; clear hx
        go_wp2_with fail
        go_ret2
        exact ⟨A', n', c', zs', _, rfl, fun _ hl _ => by rw [Hx.out]; exact dr_valid hl, hO', hb'⟩
  · go_enter Tryz.func44, Tryz.ntmps44
    go_wp2_with fail
    refine (l12Put_c A n c zs b 1 z _ h hm f1 f2 hz hp).mono ?_
    rintro e w7 ⟨A', n', c', zs', K, rfl, hP, hO, hb7⟩
    have HP := Lib.hid hP; clear hP
    go_wp2_with fail
    go_ret2
    exact ⟨A', n', c', zs', K, rfl, fun hK hl ha => (show PutP _ _ _ 0 from hK ▸ HP.out).valid hl ha, hO, hb7⟩
  · go_enter Tryz.func44, Tryz.ntmps44
    go_wp2_with fail
    refine (l12Replace_c A n c zs b 1 z _ h (by omega) hz hp).mono ?_
    rintro e w7 ⟨A', n', c', zs', rfl, hx, hO, hb7⟩
    have Hx := Lib.hid hx; clear hx
    go_wp2_with fail
    go_ret2
    exact ⟨A', n', c', zs', _, rfl, fun hK hl ha => by rw [Hx.out]; exact rp_valid hl ha hK, hO, hb7⟩
end Go.Proofs.YtpfnnjcochhklaaGreatDoor

/- A changed list that is drawn is valid: l23DrawChanged, R8Changed. -/
namespace Go.Proofs.YtpfnnjcochhklaaGreatDoor
open Go.RowKit
abbrev corC (k : Int) (z : AidG) : List Value := .int .i64 k :: z.cells
theorem own_corp {wr : World} {base Y c : Nat} {k : Int} {z : AidG} (h : wr.ownsRow base 84 17 (.slice (some ⟨Y, 0, none⟩) 1 c) 1 (corC k z)) : wr.cell? ⟨Y, 0, none⟩ = some (.int .i64 k) ∧ AidP wr Y 1 z :=
  ⟨(h.cellAt 0 (by omega)).trans rfl, (h.cellAt 1 (by omega)).trans rfl, (h.cellAt 2 (by omega)).trans rfl, (h.cellAt 3 (by omega)).trans rfl, (h.cellAt 4 (by omega)).trans rfl, (h.cellAt 5 (by omega)).trans rfl, (h.cellAt 6 (by omega)).trans rfl, (h.cellAt 7 (by omega)).trans rfl, (h.cellAt 8 (by omega)).trans rfl, (h.cellAt 9 (by omega)).trans rfl, (h.cellAt 10 (by omega)).trans rfl, (h.cellAt 11 (by omega)).trans rfl, (h.cellAt 12 (by omega)).trans rfl, (h.cellAt 13 (by omega)).trans rfl, (h.cellAt 14 (by omega)).trans rfl, (h.cellAt 15 (by omega)).trans rfl, (h.cellAt 16 (by omega)).trans rfl, (h.lt Y rfl).2⟩
/-- A round of l23DrawChanged: the list, the drawn aid's box X, the correction's box Y. -/
structure ChgD (w wr : World) (lo b a : Nat) (A : Option Addr) (n c : Nat) (zs : List AidG) (X Y : Nat) (z zy : AidG) (k : Int) : Prop where
  L : AidL w wr lo b a A n c zs
  x : wr.ownsRow w.heap.size 56 16 (.slice (some ⟨X, 0, none⟩) 1 1) 1 z.cells
  y : wr.ownsRow w.heap.size 84 17 (.slice (some ⟨Y, 0, none⟩) 1 1) 1 (corC k zy)
  nz : AidNew wr w.heap.size z
  nX : ∀ g, (Value.slice A n c).ownBlock = some g → g ≠ X
section
variable {w wr w' : World} {lo b a a' : Nat} {A : Option Addr} {n c : Nat} {zs : List AidG} {X Y : Nat} {z zy : AidG} {k : Int}
theorem ChgD.draw (h : ChgD w wr lo b a A n c zs X Y z zy k) (hb : b < w.heap.size) (hs : Src w' lo b a') (hg : wr.grownBy w' (some b)) : ChgD w w' lo b a' A n c zs X Y z zy k :=
  ⟨h.L.draw hb hs hg, own_src h.x hg hb, own_src h.y hg hb, h.nz.src hg hb, h.nX⟩
theorem ChgD.next (h : ChgD w wr lo b a A n c zs X Y z zy k) (hb : Below wr.heap.size wr w') : ChgD w w' lo b a A n c zs X Y z zy k :=
  ⟨h.L.next hb, own_next h.x hb, own_next h.y hb, h.nz.next hb, h.nX⟩
theorem AidL.setO {sz m : Nat} {e : TypeId} {v : Value} {xs : List Value} (h : AidL w wr lo b a A n c zs) (hlo : lo ≤ w.heap.size) (ho : wr.ownsRow w.heap.size e sz v m xs) (hg : wr.grownBy w' v.ownBlock) (e1 : e ≠ 78) (e2 : 2 ≠ e) (e3 : 94 ≠ e) (hA : (Value.slice A n c).ownBlock = none ∨ (Value.slice A n c).ownBlock ≠ v.ownBlock) : AidL w w' lo b a A n c zs :=
  ⟨⟨own_grown h.own.own hg hA, fun z hz => ⟨own_grown (h.own.new z hz).g hg (own_ne (h.own.new z hz).g ho e2), own_grown (h.own.new z hz).s hg (own_ne (h.own.new z hz).s ho e3)⟩⟩, h.ok, src_own h.sr ho hg e1 hlo, grown_own h.gr hg fun k hk => (ho.lt k hk).1⟩
/-- Another correction is stored. -/
theorem ChgD.setY (h : ChgD w wr lo b a A n c zs X Y z zy k) (hlo : lo ≤ w.heap.size) (k' : Int) (zy' : AidG) : ChgD w (wr.setCells Y 0 (corC k' zy')) lo b a A n c zs X Y z zy' k' := by
  have s := own_putV (corC k' zy') 0 _ _ h.y
  have e : putV (corC k zy) 0 (corC k' zy') = corC k' zy' := putV_all (corC k zy) (corC k' zy') [] rfl
  rw [e] at s
  exact ⟨h.L.setO hlo h.y s.2 (by decide) (by decide) (by decide) (own_ne h.L.own.own h.y (by decide)), own_grown h.x s.2 (own_ne h.x h.y (by decide)), s.1, ⟨own_grown h.nz.g s.2 (own_ne h.nz.g h.y (by decide)), own_grown h.nz.s s.2 (own_ne h.nz.s h.y (by decide))⟩, h.nX⟩
/-- The drawn aid gets another number. -/
theorem ChgD.setN (h : ChgD w wr lo b a A n c zs X Y z zy k) (hlo : lo ≤ w.heap.size) (v : Int) : ChgD w (wr.setCell ⟨X, 0, none⟩ (.int .i64 v)) lo b a A n c zs X Y ⟨{ z.a with num := v }, z.A, z.c, z.B, z.d⟩ zy k := by
  have s := h.x.stored 0 (.int .i64 v)
  exact ⟨h.L.setO hlo h.x s.2 (by decide) (by decide) (by decide) (.inr fun e => h.nX X e rfl), s.1, own_grown h.y s.2 (own_ne h.y h.x (by decide)), ⟨own_grown h.nz.g s.2 (own_ne h.nz.g h.x (by decide)), own_grown h.nz.s s.2 (own_ne h.nz.s h.x (by decide))⟩, h.nX⟩
theorem ChgD.thereY (h : ChgD w wr lo b a A n c zs X Y z zy k) : wr.there Y 0 17 := fun j hj => by
  refine ⟨?_, h.y.frozenAt _⟩
  rw [Nat.zero_add, h.y.cellAt j (by omega)]
  rw [List.getElem?_eq_getElem (show j < (corC k zy).length from hj)]; rfl
end
theorem corc_one (k : Int) (z : AidG) : ∀ u ∈ corC k z, u.oneCell' = true := fun u hu => by
  rcases List.mem_cons.1 hu with rfl | h
  · rfl
  · exact aidg_one z u h
theorem num_valid {x : AidX} {v : Int} (h : aidB x = true) (hv : 1 ≤ v ∧ v ≤ 9999) : aidB { x with num := v } = true := by
  simp only [aidB, aidHeadB, Bool.and_eq_true] at h ⊢
  obtain ⟨⟨_, h2⟩, h3⟩ := h
  exact ⟨⟨inB_iff.2 hv, h2⟩, h3⟩
end Go.Proofs.YtpfnnjcochhklaaGreatDoor
