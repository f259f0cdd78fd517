/- NtGa: several of my texts in one. -/
import Derived.Test.YtafojijhfbnehaaGreatDoorNot
import Derived.Test.YtafojijhfbnehaaGreatDoorWq
/- Lists of notices: valid ones, in plain Lean. -/
namespace Go.Proofs.YtafojijhfbnehaaGreatDoor
open Go.RowKit
abbrev NtA := NtX × AidX
def cldB (l : List NtX) (v day : Int) : Bool := l.any fun y => (y.k == 4) && ((y.t == v) && decide (y.d ≤ day))
def cldW (l : List NtX) (v : Int) : Bool := l.any fun y => (y.k == 4) && (y.t == v)
def fndX (l : List NtX) (v : Int) : Option NtX := l.find? fun y => y.m == v
def canB (l : List NtX) (t : Int) : Bool := (fndX l t).elim false fun y => !(y.k == 4) && !cldW l t
def prB (l : List NtX) (i : Nat) (x : NtX) : Bool := (i == 0) || ((l[i - 1]?).elim true fun p => decide (p.m < x.m) && decide (p.d ≤ x.d))
def ntsAt (l : List NtA) (i : Nat) : Bool := (l[i]?).elim true fun a => ntB a.1 a.2 && (prB (l.map Prod.fst) i a.1 && (!(a.1.k == 4) || canB ((l.map Prod.fst).take i) a.1.t))
def ntsB (l : List NtA) : Bool := allB l.length (ntsAt l) && decide (l.length ≤ 32)
theorem ntsB_no {l : List NtA} {i : Nat} (hi : i < l.length) (h : ntsAt l i = false) : ntsB l = false := by rw [ntsB, allB_no hi h]; rfl
theorem ntsB_end {l : List NtA} (h : ∀ i, i < l.length → ntsAt l i = true) : ntsB l = decide (l.length ≤ 32) := by rw [ntsB, allB_iff.2 h]; rfl
theorem ntsAt_day {l : List NtA} {i : Nat} {a : NtA} (ha : l[i]? = some a) (h : ntsAt l i = true) : a.1.d ≤ 99999 := by
  rw [ntsAt, ha] at h
  simp only [Option.elim_some, Bool.and_eq_true] at h
  have h1 := h.1
  rw [ntB, Bool.and_eq_true, Bool.and_eq_true] at h1
  have h2 := h1.2.1
  rw [inB, Bool.and_eq_true, decide_eq_true_eq, decide_eq_true_eq] at h2
  exact h2.2
theorem cld_all {l : List NtX} (h : ∀ y ∈ l, y.d ≤ 99999) (v : Int) : cldB l v 99999 = cldW l v := by
  unfold cldB cldW
  induction l with
  | nil => rfl
  | cons y r ih =>
    rw [List.any_cons, List.any_cons, ih (fun z hz => h z (List.mem_cons_of_mem _ hz)), show decide (y.d ≤ 99999) = true from decide_eq_true (h y List.mem_cons_self), Bool.and_true]
theorem take_days {l : List NtA} {i : Nat} (h : ∀ j, j < i → ntsAt l j = true) : ∀ y ∈ (l.map Prod.fst).take i, y.d ≤ 99999 := fun y hy => by
  obtain ⟨j, hj⟩ := List.getElem?_of_mem hy
  rw [List.getElem?_take] at hj
  split at hj
  · rename_i hji
    rw [List.getElem?_map] at hj
    cases ha : l[j]? with
    | none => rw [ha] at hj; simp at hj
    | some a =>
      rw [ha] at hj
      obtain rfl := Option.some.inj hj
      exact ntsAt_day ha (h j hji)
  · simp at hj
end Go.Proofs.YtafojijhfbnehaaGreatDoor
/- Lists of notices: the reference. -/
namespace Go.Proofs.YtafojijhfbnehaaGreatDoor
open Go.RowKit
theorem NtSl.pre {w : World} {A : Option Addr} {n : Nat} {zs : List NtG} (h : NtSl w A n zs) (k : Nat) (hk : k ≤ n) : NtSl w A k (zs.take k) := ⟨h.sl.pre NtG.cells 20 NtG.cells_len k hk, fun z hz => h.ok z (List.mem_of_mem_take hz)⟩
theorem ntP_range {w : World} {b off : Nat} {g : NtG} (h : w.rangeAt b off g.cells) (hb : b < w.heap.size) : NtP w b off g.x g.z := ntP_of h hb
abbrev xsOf (zs : List NtG) : List NtX := zs.map NtG.x
set_option maxRecDepth 100000 in
set_option maxHeartbeats 2000000 in
theorem l21Cancelled_c (A : Option Addr) (n c : Nat) (zs : List NtG) (v day : Int) (w : World) (h : NtSl w A n zs) (hm : n ≤ 1048576) :
    Calls Tryz.prog 156 #[.slice A n c, .int .i64 v, .int .i64 day] w fun e w' => e = .returned (.bool (cldB (xsOf zs) v day)) ∧ Below w.heap.size w w' := by
  have hl := h.len
  obtain ⟨R, hR⟩ : ∃ R, cldB (xsOf zs) v day = R := ⟨_, rfl⟩
  rw [hR]
  have Hl := Lib.hid hl; clear hl
  have HR := Lib.hid hR; clear hR
  go_enter Tryz.func156, Tryz.ntmps156
  go_wp2_with fail
  go_loopw [7] (fun i wr => ∃ k : Nat, k ≤ n ∧ i = .int .i64 k ∧ Hid (∀ y ∈ (xsOf zs).take k, ((y.k == 4) && ((y.t == v) && decide (y.d ≤ day))) = false) ∧ Below w.heap.size w wr) (fun i _ => n - (intOf i).toNat)
  case atStart => exact ⟨0, Nat.zero_le _, rfl, Lib.hid (by simp), Below.refl _ _⟩
  case round =>
    obtain ⟨k, hk, rfl, Hs, hbw⟩ := hrel
    have k0 : (0 : Int) ≤ (k : Int) := by omega
    by_cases hlt : k < n
    · have k1 : (k : Int) < (n : Int) := by omega
      obtain ⟨b, off, z, rfl, hb, hx, _, hp⟩ := (h.next hbw).getR k hlt
      obtain ⟨⟨m, d, kk, t⟩, z⟩ := z
      obtain ⟨q0, q1, q2, q3, _⟩ := ntP_of hp hb
      simp only at q0 q1 q2 q3
      have hxk : (xsOf zs)[k]? = some ⟨m, d, kk, t⟩ := by rw [List.getElem?_map, hx]; rfl
      clear hp
      have Hx := Lib.hid hx; clear hx
      have Hxk := Lib.hid hxk; clear hxk
      cases e1 : (kk == 4)
      · go_wp2
        go_roundw
        case rel => exact ⟨k + 1, by omega, by go_num, Lib.hid (fun y hy => by
          rcases (mem_take_next Hxk.out y).1 hy with h2 | rfl
          · exact Hs.out y h2
          · simp only [e1, Bool.false_and]), hbw⟩
        case measure => simp [intOf]; omega
      · cases e2 : (t == v)
        · go_wp2
          go_roundw
          case rel => exact ⟨k + 1, by omega, by go_num, Lib.hid (fun y hy => by
            rcases (mem_take_next Hxk.out y).1 hy with h2 | rfl
            · exact Hs.out y h2
            · simp only [e2, Bool.false_and, Bool.and_false]), hbw⟩
          case measure => simp [intOf]; omega
        · by_cases e3 : d ≤ day
          · have e3' : decide (d ≤ day) = true := decide_eq_true e3
            have hRt : R = true := by
              rw [← HR.out, cldB, List.any_eq_true]
              exact ⟨_, List.mem_of_getElem? Hxk.out, by simp only [e1, e2, e3', Bool.and_true]⟩
            have HRt := Lib.hid hRt; clear hRt
            go_wp2
            go_ret
            exact ⟨ret_eq (bool_eq HRt.out.symm), hbw⟩
          · have e3' : decide (d ≤ day) = false := decide_eq_false e3
            go_wp2
            go_roundw
            case rel => exact ⟨k + 1, by omega, by go_num, Lib.hid (fun y hy => by
              rcases (mem_take_next Hxk.out y).1 hy with h2 | rfl
              · exact Hs.out y h2
              · simp only [e3', Bool.and_false]), hbw⟩
            case measure => simp [intOf]; omega
    · obtain rfl : k = n := by omega
      have hRf : R = false := by
        have hs := Hs.out
        rw [List.take_of_length_le (by rw [List.length_map, Hl.out]; omega)] at hs
        rw [← HR.out, cldB, List.any_eq_false]
        intro y hy
        rw [hs y hy]; simp
      have HRf := Lib.hid hRf; clear hRf
      go_wp2
      go_ret
      exact ⟨ret_eq (bool_eq HRf.out.symm), hbw⟩
def canD (l : List NtX) (t : Int) : Bool := (fndX l t).elim false fun y => !(y.k == 4) && !cldB l t 99999
set_option maxRecDepth 100000 in
set_option maxHeartbeats 2000000 in
theorem l21Cancels_c (A : Option Addr) (n c : Nat) (zs : List NtG) (b off : Nat) (x : NtX) (z : AidG) (w : World) (h : NtSl w A n zs) (hm : n ≤ 1048576) (hp : NtP w b off x z) :
    Calls Tryz.prog 116 #[.slice A n c, .pointer (some ⟨b, off, none⟩)] w fun e w' => e = .returned (.bool (!(x.k == 4) || canD (xsOf zs) x.t)) ∧ Below w.heap.size w w' := by
  have hl := h.len
  obtain ⟨m, d, kk, t⟩ := x
  have hbb := hp.p.hb
  obtain ⟨R, hR⟩ : ∃ R, canD (xsOf zs) t = R := ⟨_, rfl⟩
  have hC := fun w1 (hb : Below w.heap.size w w1) => l21Cancelled_c A n c zs t 99999 w1 (h.next hb) hm
  obtain ⟨C, hCd⟩ : ∃ C, cldB (xsOf zs) t 99999 = C := ⟨_, rfl⟩
  simp only
  rw [hR]
  rw [hCd] at hC
  have Hl := Lib.hid hl; clear hl
  have HR := Lib.hid hR; clear hR
  have HC := Lib.hid hC; clear hC
  have HCd := Lib.hid hCd; clear hCd
  obtain ⟨p0, p1, p2, p3, _⟩ := id hp
  simp only at p0 p1 p2 p3
  cases e1 : (kk == 4)
  · have e2 : (kk != 4) = true := by simp only [bne, e1]; rfl
    go_enter Tryz.func116, Tryz.ntmps116
    go_wp2_with fail
    go_ret
    exact ⟨ret_eq (bool_eq rfl), Below.refl _ _⟩
  have e2 : (kk != 4) = false := by simp only [bne, e1]; rfl
  rw [Bool.not_true, Bool.false_or]
  go_enter Tryz.func116, Tryz.ntmps116
  go_wp2_with fail
  go_loopw [5] (fun i wr => ∃ k : Nat, k ≤ n ∧ i = .int .i64 k ∧ Hid (∀ y ∈ (xsOf zs).take k, (y.m == t) = false) ∧ Below w.heap.size w wr) (fun i _ => n - (intOf i).toNat)
  case atStart => exact ⟨0, Nat.zero_le _, rfl, Lib.hid (by simp), Below.refl _ _⟩
  case round =>
    clear p0 p1 p2 p3
    obtain ⟨k, hk, rfl, Hs, hbw⟩ := hrel
    have k0 : (0 : Int) ≤ (k : Int) := by omega
    obtain ⟨p0, p1, p2, p3, _⟩ := hp.next hbw
    simp only at p0 p1 p2 p3
    by_cases hlt : k < n
    · have k1 : (k : Int) < (n : Int) := by omega
      obtain ⟨b', off', y, rfl, hb, hx, _, hq⟩ := (h.next hbw).getR k hlt
      obtain ⟨⟨m', d', kk', t'⟩, y⟩ := y
      obtain ⟨q0, q1, q2, q3, _⟩ := ntP_of hq hb
      simp only at q0 q1 q2 q3
      have hxk : (xsOf zs)[k]? = some ⟨m', d', kk', t'⟩ := by rw [List.getElem?_map, hx]; rfl
      clear hq
      have Hx := Lib.hid hx; clear hx
      cases f1 : (m' == t)
      · have Hxk := Lib.hid hxk; clear hxk
        go_wp2
        go_quiet (fail)
        go_wp2
        go_roundw
        case rel => exact ⟨k + 1, by omega, by go_num, Lib.hid (fun y hy => by
          rcases (mem_take_next Hxk.out y).1 hy with h2 | rfl
          · exact Hs.out y h2
          · exact f1), below_drewN hbw _⟩
        case measure => simp [intOf]; omega
      · have hf : fndX (xsOf zs) t = some ⟨m', d', kk', t'⟩ := by
          rw [fndX, List.find?_eq_some_iff_getElem]
          obtain ⟨hkl, hke⟩ := List.getElem?_eq_some_iff.1 hxk
          refine ⟨f1, k, hkl, hke, fun j hj => ?_⟩
          have := Hs.out _ (List.mem_take_iff_getElem.2 ⟨j, by omega, rfl⟩)
          rw [this]; rfl
        have hRv : R = (!(kk' == 4) && !C) := by rw [← HR.out, canD, hf, ← HCd.out]; rfl
        have Hxk := Lib.hid hxk; clear hxk
        have Hf := Lib.hid hf; clear hf
        have HRv := Lib.hid hRv; clear hRv
        cases g1 : (kk' == 4)
        · have g2 : (kk' != 4) = true := by simp only [bne, g1]; rfl
          cases C
          all_goals
            go_wp2
            go_quiet (fail)
            go_wp2_with ((with_reducible refine (HC.out _ (below_drewN hbw _)).mono ?_); rintro e w2 ⟨rfl, hb2⟩)
            go_ret
            exact ⟨ret_eq (bool_eq (by rw [HRv.out, g1]; rfl)), (below_drewN hbw _).trans (hb2.mono (below_drewN hbw _).size)⟩
        · have g2 : (kk' != 4) = false := by simp only [bne, g1]; rfl
          go_wp2
          go_quiet (fail)
          go_wp2
          go_ret
          exact ⟨ret_eq (bool_eq (by rw [HRv.out, g1]; rfl)), below_drewN hbw _⟩
    · obtain rfl : k = n := by omega
      have hRf : R = false := by
        have hs := Hs.out
        rw [List.take_of_length_le (by rw [List.length_map, Hl.out]; omega)] at hs
        have : fndX (xsOf zs) t = none := by
          rw [fndX, List.find?_eq_none]
          intro y hy
          rw [hs y hy]; simp
        rw [← HR.out, canD, this]; rfl
      have HRf := Lib.hid hRf; clear hRf
      go_wp2
      go_ret
      exact ⟨ret_eq (bool_eq HRf.out.symm), hbw⟩
end Go.Proofs.YtafojijhfbnehaaGreatDoor
/- A region that draws its order and whose calls make memory, walked once in the order of the text. No program is named here. -/
namespace Go.Proofs.YtafojijhfbnehaaGreatDoor
open Go.RowKit
section
variable {P : Program} {ops : Array Oper} {C : World → Prop} {Q : Act → Prop}
theorem wp_region_wqC {id : Nat} {Q : Exit → Act → World → Prop} {a : Act} {w : World} {l : List Oper} (hm : P.follows .mixedOrders = true) (hB : Region.lexB .any l.toArray = true) (hC : C w.drew)
    (h : WQ P l.toArray C (fun a' => ∀ w', C w' → Q .normal a' w') l a) : (Code.region id l.toArray true).wp P Q a w :=
  wp_region_quiet hm hB hC (by simpa using h.out)
theorem WQ.take {a : Act} {o : Oper} {rest : List Oper} {v : Value} (hw : Region.wanted o (yielded ops a.tmps) = true) (hv : ∀ w', C w' → o.quietAt P a C w' v) (h : WQ P ops C Q rest (a.put o.dst v)) : WQ P ops C Q (o :: rest) a :=
  WQ.step fun K hK => by rw [if_pos hw]; exact ⟨v, hv, hK _ h⟩
theorem WQ.skip {a : Act} {o : Oper} {rest : List Oper} (hw : Region.wanted o (yielded ops a.tmps) = false) (h : WQ P ops C Q rest (a.put o.dst undef)) : WQ P ops C Q (o :: rest) a :=
  WQ.step fun K hK => by rw [if_neg (by rw [hw]; decide)]; exact hK _ h
end
end Go.Proofs.YtafojijhfbnehaaGreatDoor
/- Lists of notices: the reference's l21Ok. -/
namespace Go.Proofs.YtafojijhfbnehaaGreatDoor
open Go.RowKit
theorem xs_fst (zs : List NtG) : (zs.map NtG.a).map Prod.fst = xsOf zs := by rw [List.map_map]; rfl
theorem can_eq {l : List NtX} (h : ∀ y ∈ l, y.d ≤ 99999) (t : Int) : canD l t = canB l t := by rw [canD, canB, cld_all h]
def nW (w : World) (w' : World) : Prop := Below w.heap.size w w'
def nC (w : World) (b : Nat) (w' : World) : Prop := Below w.heap.size w w' ∧ ∀ x, w'.cell? ⟨b, x, none⟩ = w.cell? ⟨b, x, none⟩
set_option maxRecDepth 100000 in
set_option maxHeartbeats 8000000 in
theorem l21Ok_c (A : Option Addr) (n c : Nat) (zs : List NtG) (w : World) (h : NtSl w A n zs) (hm : n ≤ 1048576) (hc : n ≤ c) :
    Calls Tryz.prog 70 #[.slice A n c] w fun e w' => e = .returned (.bool (ntsB (zs.map NtG.a))) ∧ Below w.heap.size w w' := by
  have hl := h.len
  obtain ⟨R, hR⟩ : ∃ R, ntsB (zs.map NtG.a) = R := ⟨_, rfl⟩
  rw [hR]
  have Hl := Lib.hid hl; clear hl
  have HR := Lib.hid hR; clear hR
  go_enter Tryz.func70, Tryz.ntmps70
  go_wp2_with fail
  go_loopw [3] (fun i wr => ∃ k : Nat, k ≤ n ∧ i = .int .i64 k ∧ Hid (∀ j, j < k → ntsAt (zs.map NtG.a) j = true) ∧ Below w.heap.size w wr) (fun i _ => n - (intOf i).toNat)
  case atStart => exact ⟨0, Nat.zero_le _, rfl, Lib.hid (fun j hj => absurd hj (by omega)), Below.refl _ _⟩
  case round =>
    obtain ⟨k, hk, rfl, Hs, hbw⟩ := hrel
    have k0 : (0 : Int) ≤ (k : Int) := by omega
    by_cases hlt : k < n
    · have k1 : (k : Int) < (n : Int) := by omega
      have k2 : (k : Int) ≤ (n : Int) := by omega
      have k3 : (k : Int) ≤ (c : Int) := by omega
      obtain ⟨b, off, g, rfl, hb, hx, hz, hp⟩ := (h.next hbw).getR k hlt
      have e1 : ∀ {w' : World}, Below wr.heap.size wr w' → (Below wr.heap.size wr w' ∧ (∀ x, w'.cell? ⟨b, x, none⟩ = wr.cell? ⟨b, x, none⟩)) := fun hbb => ⟨hbb, keepC hbb _ hb⟩
      have hP := ntP_of hp hb
      have hO : ∀ w', Below wr.heap.size wr w' → Calls Tryz.prog 63 #[.pointer (some ⟨b, off + k * 20, none⟩)] w' fun e w'' => e = .returned (.bool (ntB g.x g.z.a)) ∧ Below w'.heap.size w' w'' := fun w' hb' => l21One_c b (off + k * 20) g.x g.z w' (hP.next hb') (hz.next hb')
      have hX : ∀ w', Below wr.heap.size wr w' → Calls Tryz.prog 116 #[.slice (some ⟨b, off, none⟩) k c, .pointer (some ⟨b, off + k * 20, none⟩)] w' fun e w'' => e = .returned (.bool (!(g.x.k == 4) || canB ((xsOf zs).take k) g.x.t)) ∧ Below w'.heap.size w' w'' := fun w' hb' => by
        have := l21Cancels_c (some ⟨b, off, none⟩) k c (zs.take k) b (off + k * 20) g.x g.z w' (((h.next hbw).pre k hk).next hb') (by omega) (hP.next hb')
        have ed : ∀ y ∈ xsOf (zs.take k), y.d ≤ 99999 := by
          have := take_days Hs.out
          rw [xs_fst] at this
          rw [xsOf, List.map_take]; exact this
        rw [can_eq ed, xsOf, List.map_take] at this
        exact this
      have hat : ntsAt (zs.map NtG.a) k = (ntB g.x g.z.a && (prB (xsOf zs) k g.x && (!(g.x.k == 4) || canB ((xsOf zs).take k) g.x.t))) := by
        rw [ntsAt, List.getElem?_map, hx, xs_fst]; rfl
      obtain ⟨V, hV⟩ : ∃ V, ntB g.x g.z.a = V := ⟨_, rfl⟩
      obtain ⟨X, hXd⟩ : ∃ X, (!(g.x.k == 4) || canB ((xsOf zs).take k) g.x.t) = X := ⟨_, rfl⟩
      rw [hV] at hO hat
      rw [hXd] at hX hat
      clear hV hXd
      have hno : ntsAt (zs.map NtG.a) k = false → R = false := fun hn => by rw [← HR.out]; exact ntsB_no (by rw [List.length_map, Hl.out]; exact hlt) hn
      obtain ⟨⟨m, d, kk, t⟩, z⟩ := g
      obtain ⟨q0, q1, _, _, _⟩ := hP
      simp only at q0 q1 hat
      clear hp hz
      have HO := Lib.hid hO; clear hO
      have HX := Lib.hid hX; clear hX
      have Hx := Lib.hid hx; clear hx
      cases V
      · have hF := hno (by rw [hat]; rfl)
        have Hat := Lib.hid hat; clear hat
        have Hno := Lib.hid hno; clear hno
        have HF := Lib.hid hF; clear hF
        go_wp2
        refine wp_region_wqC (C := fun w' => Below wr.heap.size wr w' ∧ ∀ x, w'.cell? ⟨b, x, none⟩ = wr.cell? ⟨b, x, none⟩) (by kernel_rfl) (by kernel_rfl) (e1 (Below.refl _ _).drew) ?_
        (first
          | (refine WQ.take (v := ?_) (by rfl) ?_ ?_
             rotate_left
             focus (intro wq hq; (try dsimp only at hq); go_simp; (try (with_reducible rfl)); done))
          | (refine WQ.skip (by rfl) ?_))
        try simp only [Act.put, List.setIfInBounds_toArray, List.set_cons_zero, List.set_cons_succ]
        refine WQ.take (v := .bool false) (by rfl) (fun wq hq => ?_) ?_
        focus (go_simp; (refine (HO.out wq hq.1).mono ?_; rintro e w2 ⟨rfl, hb2⟩; exact ⟨rfl, e1 (hq.1.trans (hb2.mono hq.1.size))⟩))
        try simp only [Act.put, List.setIfInBounds_toArray, List.set_cons_zero, List.set_cons_succ]
        (first
          | (refine WQ.take (v := ?_) (by rfl) ?_ ?_
             rotate_left
             focus (intro wq hq; (try dsimp only at hq); go_simp; (try (with_reducible rfl)); done))
          | (refine WQ.skip (by rfl) ?_))
        try simp only [Act.put, List.setIfInBounds_toArray, List.set_cons_zero, List.set_cons_succ]
        (first
          | (refine WQ.take (v := ?_) (by rfl) ?_ ?_
             rotate_left
             focus (intro wq hq; (try dsimp only at hq); go_simp; (try (with_reducible rfl)); done))
          | (refine WQ.skip (by rfl) ?_))
        try simp only [Act.put, List.setIfInBounds_toArray, List.set_cons_zero, List.set_cons_succ]
        (first
          | (refine WQ.take (v := ?_) (by rfl) ?_ ?_
             rotate_left
             focus (intro wq hq; (try dsimp only at hq); go_simp; (try (with_reducible rfl)); done))
          | (refine WQ.skip (by rfl) ?_))
        try simp only [Act.put, List.setIfInBounds_toArray, List.set_cons_zero, List.set_cons_succ]
        (first
          | (refine WQ.take (v := ?_) (by rfl) ?_ ?_
             rotate_left
             focus (intro wq hq; (try dsimp only at hq); go_simp; (try (with_reducible rfl)); done))
          | (refine WQ.skip (by rfl) ?_))
        try simp only [Act.put, List.setIfInBounds_toArray, List.set_cons_zero, List.set_cons_succ]
        (first
          | (refine WQ.take (v := ?_) (by rfl) ?_ ?_
             rotate_left
             focus (intro wq hq; (try dsimp only at hq); go_simp; (try (with_reducible rfl)); done))
          | (refine WQ.skip (by rfl) ?_))
        try simp only [Act.put, List.setIfInBounds_toArray, List.set_cons_zero, List.set_cons_succ]
        (first
          | (refine WQ.take (v := ?_) (by rfl) ?_ ?_
             rotate_left
             focus (intro wq hq; (try dsimp only at hq); go_simp; (try (with_reducible rfl)); done))
          | (refine WQ.skip (by rfl) ?_))
        try simp only [Act.put, List.setIfInBounds_toArray, List.set_cons_zero, List.set_cons_succ]
        (first
          | (refine WQ.take (v := ?_) (by rfl) ?_ ?_
             rotate_left
             focus (intro wq hq; (try dsimp only at hq); go_simp; (try (with_reducible rfl)); done))
          | (refine WQ.skip (by rfl) ?_))
        try simp only [Act.put, List.setIfInBounds_toArray, List.set_cons_zero, List.set_cons_succ]
        (first
          | (refine WQ.take (v := ?_) (by rfl) ?_ ?_
             rotate_left
             focus (intro wq hq; (try dsimp only at hq); go_simp; (try (with_reducible rfl)); done))
          | (refine WQ.skip (by rfl) ?_))
        try simp only [Act.put, List.setIfInBounds_toArray, List.set_cons_zero, List.set_cons_succ]
        (first
          | (refine WQ.take (v := ?_) (by rfl) ?_ ?_
             rotate_left
             focus (intro wq hq; (try dsimp only at hq); go_simp; (try (with_reducible rfl)); done))
          | (refine WQ.skip (by rfl) ?_))
        try simp only [Act.put, List.setIfInBounds_toArray, List.set_cons_zero, List.set_cons_succ]
        (first
          | (refine WQ.take (v := ?_) (by rfl) ?_ ?_
             rotate_left
             focus (intro wq hq; (try dsimp only at hq); go_simp; (try (with_reducible rfl)); done))
          | (refine WQ.skip (by rfl) ?_))
        try simp only [Act.put, List.setIfInBounds_toArray, List.set_cons_zero, List.set_cons_succ]
        (first
          | (refine WQ.take (v := ?_) (by rfl) ?_ ?_
             rotate_left
             focus (intro wq hq; (try dsimp only at hq); go_simp; (try (with_reducible rfl)); done))
          | (refine WQ.skip (by rfl) ?_))
        try simp only [Act.put, List.setIfInBounds_toArray, List.set_cons_zero, List.set_cons_succ]
        (first
          | (refine WQ.take (v := ?_) (by rfl) ?_ ?_
             rotate_left
             focus (intro wq hq; (try dsimp only at hq); go_simp; (try (with_reducible rfl)); done))
          | (refine WQ.skip (by rfl) ?_))
        try simp only [Act.put, List.setIfInBounds_toArray, List.set_cons_zero, List.set_cons_succ]
        (first
          | (refine WQ.take (v := ?_) (by rfl) ?_ ?_
             rotate_left
             focus (intro wq hq; (try dsimp only at hq); go_simp; (try (with_reducible rfl)); done))
          | (refine WQ.skip (by rfl) ?_))
        try simp only [Act.put, List.setIfInBounds_toArray, List.set_cons_zero, List.set_cons_succ]
        (first
          | (refine WQ.take (v := ?_) (by rfl) ?_ ?_
             rotate_left
             focus (intro wq hq; (try dsimp only at hq); go_simp; (try (with_reducible rfl)); done))
          | (refine WQ.skip (by rfl) ?_))
        try simp only [Act.put, List.setIfInBounds_toArray, List.set_cons_zero, List.set_cons_succ]
        (first
          | (refine WQ.take (v := ?_) (by rfl) ?_ ?_
             rotate_left
             focus (intro wq hq; (try dsimp only at hq); go_simp; (try (with_reducible rfl)); done))
          | (refine WQ.skip (by rfl) ?_))
        try simp only [Act.put, List.setIfInBounds_toArray, List.set_cons_zero, List.set_cons_succ]
        (first
          | (refine WQ.take (v := ?_) (by rfl) ?_ ?_
             rotate_left
             focus (intro wq hq; (try dsimp only at hq); go_simp; (try (with_reducible rfl)); done))
          | (refine WQ.skip (by rfl) ?_))
        try simp only [Act.put, List.setIfInBounds_toArray, List.set_cons_zero, List.set_cons_succ]
        (first
          | (refine WQ.take (v := ?_) (by rfl) ?_ ?_
             rotate_left
             focus (intro wq hq; (try dsimp only at hq); go_simp; (try (with_reducible rfl)); done))
          | (refine WQ.skip (by rfl) ?_))
        try simp only [Act.put, List.setIfInBounds_toArray, List.set_cons_zero, List.set_cons_succ]
        (first
          | (refine WQ.take (v := ?_) (by rfl) ?_ ?_
             rotate_left
             focus (intro wq hq; (try dsimp only at hq); go_simp; (try (with_reducible rfl)); done))
          | (refine WQ.skip (by rfl) ?_))
        try simp only [Act.put, List.setIfInBounds_toArray, List.set_cons_zero, List.set_cons_succ]
        (first
          | (refine WQ.take (v := ?_) (by rfl) ?_ ?_
             rotate_left
             focus (intro wq hq; (try dsimp only at hq); go_simp; (try (with_reducible rfl)); done))
          | (refine WQ.skip (by rfl) ?_))
        try simp only [Act.put, List.setIfInBounds_toArray, List.set_cons_zero, List.set_cons_succ]
        (first
          | (refine WQ.take (v := ?_) (by rfl) ?_ ?_
             rotate_left
             focus (intro wq hq; (try dsimp only at hq); go_simp; (try (with_reducible rfl)); done))
          | (refine WQ.skip (by rfl) ?_))
        try simp only [Act.put, List.setIfInBounds_toArray, List.set_cons_zero, List.set_cons_succ]
        (first
          | (refine WQ.take (v := ?_) (by rfl) ?_ ?_
             rotate_left
             focus (intro wq hq; (try dsimp only at hq); go_simp; (try (with_reducible rfl)); done))
          | (refine WQ.skip (by rfl) ?_))
        try simp only [Act.put, List.setIfInBounds_toArray, List.set_cons_zero, List.set_cons_succ]
        (first
          | (refine WQ.take (v := ?_) (by rfl) ?_ ?_
             rotate_left
             focus (intro wq hq; (try dsimp only at hq); go_simp; (try (with_reducible rfl)); done))
          | (refine WQ.skip (by rfl) ?_))
        try simp only [Act.put, List.setIfInBounds_toArray, List.set_cons_zero, List.set_cons_succ]
        (first
          | (refine WQ.take (v := ?_) (by rfl) ?_ ?_
             rotate_left
             focus (intro wq hq; (try dsimp only at hq); go_simp; (try (with_reducible rfl)); done))
          | (refine WQ.skip (by rfl) ?_))
        try simp only [Act.put, List.setIfInBounds_toArray, List.set_cons_zero, List.set_cons_succ]
        (first
          | (refine WQ.take (v := ?_) (by rfl) ?_ ?_
             rotate_left
             focus (intro wq hq; (try dsimp only at hq); go_simp; (try (with_reducible rfl)); done))
          | (refine WQ.skip (by rfl) ?_))
        try simp only [Act.put, List.setIfInBounds_toArray, List.set_cons_zero, List.set_cons_succ]
        (first
          | (refine WQ.take (v := ?_) (by rfl) ?_ ?_
             rotate_left
             focus (intro wq hq; (try dsimp only at hq); go_simp; (try (with_reducible rfl)); done))
          | (refine WQ.skip (by rfl) ?_))
        try simp only [Act.put, List.setIfInBounds_toArray, List.set_cons_zero, List.set_cons_succ]
        (first
          | (refine WQ.take (v := ?_) (by rfl) ?_ ?_
             rotate_left
             focus (intro wq hq; (try dsimp only at hq); go_simp; (try (with_reducible rfl)); done))
          | (refine WQ.skip (by rfl) ?_))
        try simp only [Act.put, List.setIfInBounds_toArray, List.set_cons_zero, List.set_cons_succ]
        (first
          | (refine WQ.take (v := ?_) (by rfl) ?_ ?_
             rotate_left
             focus (intro wq hq; (try dsimp only at hq); go_simp; (try (with_reducible rfl)); done))
          | (refine WQ.skip (by rfl) ?_))
        try simp only [Act.put, List.setIfInBounds_toArray, List.set_cons_zero, List.set_cons_succ]
        (first
          | (refine WQ.take (v := ?_) (by rfl) ?_ ?_
             rotate_left
             focus (intro wq hq; (try dsimp only at hq); go_simp; (try (with_reducible rfl)); done))
          | (refine WQ.skip (by rfl) ?_))
        try simp only [Act.put, List.setIfInBounds_toArray, List.set_cons_zero, List.set_cons_succ]
        (first
          | (refine WQ.take (v := ?_) (by rfl) ?_ ?_
             rotate_left
             focus (intro wq hq; (try dsimp only at hq); go_simp; (try (with_reducible rfl)); done))
          | (refine WQ.skip (by rfl) ?_))
        try simp only [Act.put, List.setIfInBounds_toArray, List.set_cons_zero, List.set_cons_succ]
        (first
          | (refine WQ.take (v := ?_) (by rfl) ?_ ?_
             rotate_left
             focus (intro wq hq; (try dsimp only at hq); go_simp; (try (with_reducible rfl)); done))
          | (refine WQ.skip (by rfl) ?_))
        try simp only [Act.put, List.setIfInBounds_toArray, List.set_cons_zero, List.set_cons_succ]
        (first
          | (refine WQ.take (v := ?_) (by rfl) ?_ ?_
             rotate_left
             focus (intro wq hq; (try dsimp only at hq); go_simp; (try (with_reducible rfl)); done))
          | (refine WQ.skip (by rfl) ?_))
        try simp only [Act.put, List.setIfInBounds_toArray, List.set_cons_zero, List.set_cons_succ]
        (first
          | (refine WQ.take (v := ?_) (by rfl) ?_ ?_
             rotate_left
             focus (intro wq hq; (try dsimp only at hq); go_simp; (try (with_reducible rfl)); done))
          | (refine WQ.skip (by rfl) ?_))
        try simp only [Act.put, List.setIfInBounds_toArray, List.set_cons_zero, List.set_cons_succ]
        (first
          | (refine WQ.take (v := ?_) (by rfl) ?_ ?_
             rotate_left
             focus (intro wq hq; (try dsimp only at hq); go_simp; (try (with_reducible rfl)); done))
          | (refine WQ.skip (by rfl) ?_))
        try simp only [Act.put, List.setIfInBounds_toArray, List.set_cons_zero, List.set_cons_succ]
        (first
          | (refine WQ.take (v := ?_) (by rfl) ?_ ?_
             rotate_left
             focus (intro wq hq; (try dsimp only at hq); go_simp; (try (with_reducible rfl)); done))
          | (refine WQ.skip (by rfl) ?_))
        try simp only [Act.put, List.setIfInBounds_toArray, List.set_cons_zero, List.set_cons_succ]
        (first
          | (refine WQ.take (v := ?_) (by rfl) ?_ ?_
             rotate_left
             focus (intro wq hq; (try dsimp only at hq); go_simp; (try (with_reducible rfl)); done))
          | (refine WQ.skip (by rfl) ?_))
        try simp only [Act.put, List.setIfInBounds_toArray, List.set_cons_zero, List.set_cons_succ]
        (first
          | (refine WQ.take (v := ?_) (by rfl) ?_ ?_
             rotate_left
             focus (intro wq hq; (try dsimp only at hq); go_simp; (try (with_reducible rfl)); done))
          | (refine WQ.skip (by rfl) ?_))
        try simp only [Act.put, List.setIfInBounds_toArray, List.set_cons_zero, List.set_cons_succ]
        (first
          | (refine WQ.take (v := ?_) (by rfl) ?_ ?_
             rotate_left
             focus (intro wq hq; (try dsimp only at hq); go_simp; (try (with_reducible rfl)); done))
          | (refine WQ.skip (by rfl) ?_))
        try simp only [Act.put, List.setIfInBounds_toArray, List.set_cons_zero, List.set_cons_succ]
        (first
          | (refine WQ.take (v := ?_) (by rfl) ?_ ?_
             rotate_left
             focus (intro wq hq; (try dsimp only at hq); go_simp; (try (with_reducible rfl)); done))
          | (refine WQ.skip (by rfl) ?_))
        try simp only [Act.put, List.setIfInBounds_toArray, List.set_cons_zero, List.set_cons_succ]
        (first
          | (refine WQ.take (v := ?_) (by rfl) ?_ ?_
             rotate_left
             focus (intro wq hq; (try dsimp only at hq); go_simp; (try (with_reducible rfl)); done))
          | (refine WQ.skip (by rfl) ?_))
        try simp only [Act.put, List.setIfInBounds_toArray, List.set_cons_zero, List.set_cons_succ]
        refine WQ.nil ?_
        rintro w9 ⟨hb9, _⟩
        go_wp2_with fail
        go_ret
        exact ⟨ret_eq (bool_eq HF.out.symm), hbw.trans (hb9.mono hbw.size)⟩
      rw [Bool.true_and] at hat
      rcases Nat.eq_zero_or_pos k with hk0 | hk0
      · subst hk0
        have hpr : prB (xsOf zs) 0 ⟨m, d, kk, t⟩ = true := rfl
        rw [hpr, Bool.true_and] at hat
        have z1 : decide ((0 : Int) < ((0 : Nat) : Int)) = false := by simp
        cases X
        · have hF := hno hat
          have Hat := Lib.hid hat; clear hat
          have Hno := Lib.hid hno; clear hno
          have HF := Lib.hid hF; clear hF
          have Hpr := Lib.hid hpr; clear hpr
          go_wp2
          refine wp_region_wqC (C := fun w' => Below wr.heap.size wr w' ∧ ∀ x, w'.cell? ⟨b, x, none⟩ = wr.cell? ⟨b, x, none⟩) (by kernel_rfl) (by kernel_rfl) (e1 (Below.refl _ _).drew) ?_
          (first
            | (refine WQ.take (v := ?_) (by rfl) ?_ ?_
               rotate_left
               focus (intro wq hq; (try dsimp only at hq); go_simp; (try (with_reducible rfl)); done))
            | (refine WQ.skip (by rfl) ?_))
          try simp only [Act.put, List.setIfInBounds_toArray, List.set_cons_zero, List.set_cons_succ]
          refine WQ.take (v := .bool true) (by rfl) (fun wq hq => ?_) ?_
          focus (go_simp; (refine (HO.out wq hq.1).mono ?_; rintro e w2 ⟨rfl, hb2⟩; exact ⟨rfl, e1 (hq.1.trans (hb2.mono hq.1.size))⟩))
          try simp only [Act.put, List.setIfInBounds_toArray, List.set_cons_zero, List.set_cons_succ]
          (first
            | (refine WQ.take (v := ?_) (by rfl) ?_ ?_
               rotate_left
               focus (intro wq hq; (try dsimp only at hq); go_simp; (try (with_reducible rfl)); done))
            | (refine WQ.skip (by rfl) ?_))
          try simp only [Act.put, List.setIfInBounds_toArray, List.set_cons_zero, List.set_cons_succ]
          (first
            | (refine WQ.take (v := ?_) (by rfl) ?_ ?_
               rotate_left
               focus (intro wq hq; (try dsimp only at hq); go_simp; (try (with_reducible rfl)); done))
            | (refine WQ.skip (by rfl) ?_))
          try simp only [Act.put, List.setIfInBounds_toArray, List.set_cons_zero, List.set_cons_succ]
          (first
            | (refine WQ.take (v := ?_) (by rfl) ?_ ?_
               rotate_left
               focus (intro wq hq; (try dsimp only at hq); go_simp; (try (with_reducible rfl)); done))
            | (refine WQ.skip (by rfl) ?_))
          try simp only [Act.put, List.setIfInBounds_toArray, List.set_cons_zero, List.set_cons_succ]
          (first
            | (refine WQ.take (v := ?_) (by rfl) ?_ ?_
               rotate_left
               focus (intro wq hq; (try dsimp only at hq); go_simp; (try (with_reducible rfl)); done))
            | (refine WQ.skip (by rfl) ?_))
          try simp only [Act.put, List.setIfInBounds_toArray, List.set_cons_zero, List.set_cons_succ]
          (first
            | (refine WQ.take (v := ?_) (by rfl) ?_ ?_
               rotate_left
               focus (intro wq hq; (try dsimp only at hq); go_simp; (try (with_reducible rfl)); done))
            | (refine WQ.skip (by rfl) ?_))
          try simp only [Act.put, List.setIfInBounds_toArray, List.set_cons_zero, List.set_cons_succ]
          (first
            | (refine WQ.take (v := ?_) (by rfl) ?_ ?_
               rotate_left
               focus (intro wq hq; (try dsimp only at hq); go_simp; (try (with_reducible rfl)); done))
            | (refine WQ.skip (by rfl) ?_))
          try simp only [Act.put, List.setIfInBounds_toArray, List.set_cons_zero, List.set_cons_succ]
          (first
            | (refine WQ.take (v := ?_) (by rfl) ?_ ?_
               rotate_left
               focus (intro wq hq; (try dsimp only at hq); go_simp; (try (with_reducible rfl)); done))
            | (refine WQ.skip (by rfl) ?_))
          try simp only [Act.put, List.setIfInBounds_toArray, List.set_cons_zero, List.set_cons_succ]
          (first
            | (refine WQ.take (v := ?_) (by rfl) ?_ ?_
               rotate_left
               focus (intro wq hq; (try dsimp only at hq); go_simp; (try (with_reducible rfl)); done))
            | (refine WQ.skip (by rfl) ?_))
          try simp only [Act.put, List.setIfInBounds_toArray, List.set_cons_zero, List.set_cons_succ]
          (first
            | (refine WQ.take (v := ?_) (by rfl) ?_ ?_
               rotate_left
               focus (intro wq hq; (try dsimp only at hq); go_simp; (try (with_reducible rfl)); done))
            | (refine WQ.skip (by rfl) ?_))
          try simp only [Act.put, List.setIfInBounds_toArray, List.set_cons_zero, List.set_cons_succ]
          (first
            | (refine WQ.take (v := ?_) (by rfl) ?_ ?_
               rotate_left
               focus (intro wq hq; (try dsimp only at hq); go_simp; (try (with_reducible rfl)); done))
            | (refine WQ.skip (by rfl) ?_))
          try simp only [Act.put, List.setIfInBounds_toArray, List.set_cons_zero, List.set_cons_succ]
          (first
            | (refine WQ.take (v := ?_) (by rfl) ?_ ?_
               rotate_left
               focus (intro wq hq; (try dsimp only at hq); go_simp; (try (with_reducible rfl)); done))
            | (refine WQ.skip (by rfl) ?_))
          try simp only [Act.put, List.setIfInBounds_toArray, List.set_cons_zero, List.set_cons_succ]
          (first
            | (refine WQ.take (v := ?_) (by rfl) ?_ ?_
               rotate_left
               focus (intro wq hq; (try dsimp only at hq); go_simp; (try (with_reducible rfl)); done))
            | (refine WQ.skip (by rfl) ?_))
          try simp only [Act.put, List.setIfInBounds_toArray, List.set_cons_zero, List.set_cons_succ]
          (first
            | (refine WQ.take (v := ?_) (by rfl) ?_ ?_
               rotate_left
               focus (intro wq hq; (try dsimp only at hq); go_simp; (try (with_reducible rfl)); done))
            | (refine WQ.skip (by rfl) ?_))
          try simp only [Act.put, List.setIfInBounds_toArray, List.set_cons_zero, List.set_cons_succ]
          (first
            | (refine WQ.take (v := ?_) (by rfl) ?_ ?_
               rotate_left
               focus (intro wq hq; (try dsimp only at hq); go_simp; (try (with_reducible rfl)); done))
            | (refine WQ.skip (by rfl) ?_))
          try simp only [Act.put, List.setIfInBounds_toArray, List.set_cons_zero, List.set_cons_succ]
          (first
            | (refine WQ.take (v := ?_) (by rfl) ?_ ?_
               rotate_left
               focus (intro wq hq; (try dsimp only at hq); go_simp; (try (with_reducible rfl)); done))
            | (refine WQ.skip (by rfl) ?_))
          try simp only [Act.put, List.setIfInBounds_toArray, List.set_cons_zero, List.set_cons_succ]
          (first
            | (refine WQ.take (v := ?_) (by rfl) ?_ ?_
               rotate_left
               focus (intro wq hq; (try dsimp only at hq); go_simp; (try (with_reducible rfl)); done))
            | (refine WQ.skip (by rfl) ?_))
          try simp only [Act.put, List.setIfInBounds_toArray, List.set_cons_zero, List.set_cons_succ]
          (first
            | (refine WQ.take (v := ?_) (by rfl) ?_ ?_
               rotate_left
               focus (intro wq hq; (try dsimp only at hq); go_simp; (try (with_reducible rfl)); done))
            | (refine WQ.skip (by rfl) ?_))
          try simp only [Act.put, List.setIfInBounds_toArray, List.set_cons_zero, List.set_cons_succ]
          (first
            | (refine WQ.take (v := ?_) (by rfl) ?_ ?_
               rotate_left
               focus (intro wq hq; (try dsimp only at hq); go_simp; (try (with_reducible rfl)); done))
            | (refine WQ.skip (by rfl) ?_))
          try simp only [Act.put, List.setIfInBounds_toArray, List.set_cons_zero, List.set_cons_succ]
          (first
            | (refine WQ.take (v := ?_) (by rfl) ?_ ?_
               rotate_left
               focus (intro wq hq; (try dsimp only at hq); go_simp; (try (with_reducible rfl)); done))
            | (refine WQ.skip (by rfl) ?_))
          try simp only [Act.put, List.setIfInBounds_toArray, List.set_cons_zero, List.set_cons_succ]
          (first
            | (refine WQ.take (v := ?_) (by rfl) ?_ ?_
               rotate_left
               focus (intro wq hq; (try dsimp only at hq); go_simp; (try (with_reducible rfl)); done))
            | (refine WQ.skip (by rfl) ?_))
          try simp only [Act.put, List.setIfInBounds_toArray, List.set_cons_zero, List.set_cons_succ]
          (first
            | (refine WQ.take (v := ?_) (by rfl) ?_ ?_
               rotate_left
               focus (intro wq hq; (try dsimp only at hq); go_simp; (try (with_reducible rfl)); done))
            | (refine WQ.skip (by rfl) ?_))
          try simp only [Act.put, List.setIfInBounds_toArray, List.set_cons_zero, List.set_cons_succ]
          (first
            | (refine WQ.take (v := ?_) (by rfl) ?_ ?_
               rotate_left
               focus (intro wq hq; (try dsimp only at hq); go_simp; (try (with_reducible rfl)); done))
            | (refine WQ.skip (by rfl) ?_))
          try simp only [Act.put, List.setIfInBounds_toArray, List.set_cons_zero, List.set_cons_succ]
          (first
            | (refine WQ.take (v := ?_) (by rfl) ?_ ?_
               rotate_left
               focus (intro wq hq; (try dsimp only at hq); go_simp; (try (with_reducible rfl)); done))
            | (refine WQ.skip (by rfl) ?_))
          try simp only [Act.put, List.setIfInBounds_toArray, List.set_cons_zero, List.set_cons_succ]
          (first
            | (refine WQ.take (v := ?_) (by rfl) ?_ ?_
               rotate_left
               focus (intro wq hq; (try dsimp only at hq); go_simp; (try (with_reducible rfl)); done))
            | (refine WQ.skip (by rfl) ?_))
          try simp only [Act.put, List.setIfInBounds_toArray, List.set_cons_zero, List.set_cons_succ]
          (first
            | (refine WQ.take (v := ?_) (by rfl) ?_ ?_
               rotate_left
               focus (intro wq hq; (try dsimp only at hq); go_simp; (try (with_reducible rfl)); done))
            | (refine WQ.skip (by rfl) ?_))
          try simp only [Act.put, List.setIfInBounds_toArray, List.set_cons_zero, List.set_cons_succ]
          (first
            | (refine WQ.take (v := ?_) (by rfl) ?_ ?_
               rotate_left
               focus (intro wq hq; (try dsimp only at hq); go_simp; (try (with_reducible rfl)); done))
            | (refine WQ.skip (by rfl) ?_))
          try simp only [Act.put, List.setIfInBounds_toArray, List.set_cons_zero, List.set_cons_succ]
          (first
            | (refine WQ.take (v := ?_) (by rfl) ?_ ?_
               rotate_left
               focus (intro wq hq; (try dsimp only at hq); go_simp; (try (with_reducible rfl)); done))
            | (refine WQ.skip (by rfl) ?_))
          try simp only [Act.put, List.setIfInBounds_toArray, List.set_cons_zero, List.set_cons_succ]
          (first
            | (refine WQ.take (v := ?_) (by rfl) ?_ ?_
               rotate_left
               focus (intro wq hq; (try dsimp only at hq); go_simp; (try (with_reducible rfl)); done))
            | (refine WQ.skip (by rfl) ?_))
          try simp only [Act.put, List.setIfInBounds_toArray, List.set_cons_zero, List.set_cons_succ]
          (first
            | (refine WQ.take (v := ?_) (by rfl) ?_ ?_
               rotate_left
               focus (intro wq hq; (try dsimp only at hq); go_simp; (try (with_reducible rfl)); done))
            | (refine WQ.skip (by rfl) ?_))
          try simp only [Act.put, List.setIfInBounds_toArray, List.set_cons_zero, List.set_cons_succ]
          (first
            | (refine WQ.take (v := ?_) (by rfl) ?_ ?_
               rotate_left
               focus (intro wq hq; (try dsimp only at hq); go_simp; (try (with_reducible rfl)); done))
            | (refine WQ.skip (by rfl) ?_))
          try simp only [Act.put, List.setIfInBounds_toArray, List.set_cons_zero, List.set_cons_succ]
          (first
            | (refine WQ.take (v := ?_) (by rfl) ?_ ?_
               rotate_left
               focus (intro wq hq; (try dsimp only at hq); go_simp; (try (with_reducible rfl)); done))
            | (refine WQ.skip (by rfl) ?_))
          try simp only [Act.put, List.setIfInBounds_toArray, List.set_cons_zero, List.set_cons_succ]
          (first
            | (refine WQ.take (v := ?_) (by rfl) ?_ ?_
               rotate_left
               focus (intro wq hq; (try dsimp only at hq); go_simp; (try (with_reducible rfl)); done))
            | (refine WQ.skip (by rfl) ?_))
          try simp only [Act.put, List.setIfInBounds_toArray, List.set_cons_zero, List.set_cons_succ]
          (first
            | (refine WQ.take (v := ?_) (by rfl) ?_ ?_
               rotate_left
               focus (intro wq hq; (try dsimp only at hq); go_simp; (try (with_reducible rfl)); done))
            | (refine WQ.skip (by rfl) ?_))
          try simp only [Act.put, List.setIfInBounds_toArray, List.set_cons_zero, List.set_cons_succ]
          (first
            | (refine WQ.take (v := ?_) (by rfl) ?_ ?_
               rotate_left
               focus (intro wq hq; (try dsimp only at hq); go_simp; (try (with_reducible rfl)); done))
            | (refine WQ.skip (by rfl) ?_))
          try simp only [Act.put, List.setIfInBounds_toArray, List.set_cons_zero, List.set_cons_succ]
          (first
            | (refine WQ.take (v := ?_) (by rfl) ?_ ?_
               rotate_left
               focus (intro wq hq; (try dsimp only at hq); go_simp; (try (with_reducible rfl)); done))
            | (refine WQ.skip (by rfl) ?_))
          try simp only [Act.put, List.setIfInBounds_toArray, List.set_cons_zero, List.set_cons_succ]
          (first
            | (refine WQ.take (v := ?_) (by rfl) ?_ ?_
               rotate_left
               focus (intro wq hq; (try dsimp only at hq); go_simp; (try (with_reducible rfl)); done))
            | (refine WQ.skip (by rfl) ?_))
          try simp only [Act.put, List.setIfInBounds_toArray, List.set_cons_zero, List.set_cons_succ]
          refine WQ.take (v := .bool false) (by rfl) (fun wq hq => ?_) ?_
          focus (go_simp; (refine (HX.out wq hq.1).mono ?_; rintro e w2 ⟨rfl, hb2⟩; exact ⟨rfl, e1 (hq.1.trans (hb2.mono hq.1.size))⟩))
          try simp only [Act.put, List.setIfInBounds_toArray, List.set_cons_zero, List.set_cons_succ]
          (first
            | (refine WQ.take (v := ?_) (by rfl) ?_ ?_
               rotate_left
               focus (intro wq hq; (try dsimp only at hq); go_simp; (try (with_reducible rfl)); done))
            | (refine WQ.skip (by rfl) ?_))
          try simp only [Act.put, List.setIfInBounds_toArray, List.set_cons_zero, List.set_cons_succ]
          (first
            | (refine WQ.take (v := ?_) (by rfl) ?_ ?_
               rotate_left
               focus (intro wq hq; (try dsimp only at hq); go_simp; (try (with_reducible rfl)); done))
            | (refine WQ.skip (by rfl) ?_))
          try simp only [Act.put, List.setIfInBounds_toArray, List.set_cons_zero, List.set_cons_succ]
          refine WQ.nil ?_
          rintro w9 ⟨hb9, _⟩
          go_wp2_with fail
          go_ret
          exact ⟨ret_eq (bool_eq HF.out.symm), hbw.trans (hb9.mono hbw.size)⟩
        · have HT := Lib.hid hat; clear hat
          have Hno := Lib.hid hno; clear hno
          have Hpr := Lib.hid hpr; clear hpr
          go_wp2
          refine wp_region_wqC (C := fun w' => Below wr.heap.size wr w' ∧ ∀ x, w'.cell? ⟨b, x, none⟩ = wr.cell? ⟨b, x, none⟩) (by kernel_rfl) (by kernel_rfl) (e1 (Below.refl _ _).drew) ?_
          (first
            | (refine WQ.take (v := ?_) (by rfl) ?_ ?_
               rotate_left
               focus (intro wq hq; (try dsimp only at hq); go_simp; (try (with_reducible rfl)); done))
            | (refine WQ.skip (by rfl) ?_))
          try simp only [Act.put, List.setIfInBounds_toArray, List.set_cons_zero, List.set_cons_succ]
          refine WQ.take (v := .bool true) (by rfl) (fun wq hq => ?_) ?_
          focus (go_simp; (refine (HO.out wq hq.1).mono ?_; rintro e w2 ⟨rfl, hb2⟩; exact ⟨rfl, e1 (hq.1.trans (hb2.mono hq.1.size))⟩))
          try simp only [Act.put, List.setIfInBounds_toArray, List.set_cons_zero, List.set_cons_succ]
          (first
            | (refine WQ.take (v := ?_) (by rfl) ?_ ?_
               rotate_left
               focus (intro wq hq; (try dsimp only at hq); go_simp; (try (with_reducible rfl)); done))
            | (refine WQ.skip (by rfl) ?_))
          try simp only [Act.put, List.setIfInBounds_toArray, List.set_cons_zero, List.set_cons_succ]
          (first
            | (refine WQ.take (v := ?_) (by rfl) ?_ ?_
               rotate_left
               focus (intro wq hq; (try dsimp only at hq); go_simp; (try (with_reducible rfl)); done))
            | (refine WQ.skip (by rfl) ?_))
          try simp only [Act.put, List.setIfInBounds_toArray, List.set_cons_zero, List.set_cons_succ]
          (first
            | (refine WQ.take (v := ?_) (by rfl) ?_ ?_
               rotate_left
               focus (intro wq hq; (try dsimp only at hq); go_simp; (try (with_reducible rfl)); done))
            | (refine WQ.skip (by rfl) ?_))
          try simp only [Act.put, List.setIfInBounds_toArray, List.set_cons_zero, List.set_cons_succ]
          (first
            | (refine WQ.take (v := ?_) (by rfl) ?_ ?_
               rotate_left
               focus (intro wq hq; (try dsimp only at hq); go_simp; (try (with_reducible rfl)); done))
            | (refine WQ.skip (by rfl) ?_))
          try simp only [Act.put, List.setIfInBounds_toArray, List.set_cons_zero, List.set_cons_succ]
          (first
            | (refine WQ.take (v := ?_) (by rfl) ?_ ?_
               rotate_left
               focus (intro wq hq; (try dsimp only at hq); go_simp; (try (with_reducible rfl)); done))
            | (refine WQ.skip (by rfl) ?_))
          try simp only [Act.put, List.setIfInBounds_toArray, List.set_cons_zero, List.set_cons_succ]
          (first
            | (refine WQ.take (v := ?_) (by rfl) ?_ ?_
               rotate_left
               focus (intro wq hq; (try dsimp only at hq); go_simp; (try (with_reducible rfl)); done))
            | (refine WQ.skip (by rfl) ?_))
          try simp only [Act.put, List.setIfInBounds_toArray, List.set_cons_zero, List.set_cons_succ]
          (first
            | (refine WQ.take (v := ?_) (by rfl) ?_ ?_
               rotate_left
               focus (intro wq hq; (try dsimp only at hq); go_simp; (try (with_reducible rfl)); done))
            | (refine WQ.skip (by rfl) ?_))
          try simp only [Act.put, List.setIfInBounds_toArray, List.set_cons_zero, List.set_cons_succ]
          (first
            | (refine WQ.take (v := ?_) (by rfl) ?_ ?_
               rotate_left
               focus (intro wq hq; (try dsimp only at hq); go_simp; (try (with_reducible rfl)); done))
            | (refine WQ.skip (by rfl) ?_))
          try simp only [Act.put, List.setIfInBounds_toArray, List.set_cons_zero, List.set_cons_succ]
          (first
            | (refine WQ.take (v := ?_) (by rfl) ?_ ?_
               rotate_left
               focus (intro wq hq; (try dsimp only at hq); go_simp; (try (with_reducible rfl)); done))
            | (refine WQ.skip (by rfl) ?_))
          try simp only [Act.put, List.setIfInBounds_toArray, List.set_cons_zero, List.set_cons_succ]
          (first
            | (refine WQ.take (v := ?_) (by rfl) ?_ ?_
               rotate_left
               focus (intro wq hq; (try dsimp only at hq); go_simp; (try (with_reducible rfl)); done))
            | (refine WQ.skip (by rfl) ?_))
          try simp only [Act.put, List.setIfInBounds_toArray, List.set_cons_zero, List.set_cons_succ]
          (first
            | (refine WQ.take (v := ?_) (by rfl) ?_ ?_
               rotate_left
               focus (intro wq hq; (try dsimp only at hq); go_simp; (try (with_reducible rfl)); done))
            | (refine WQ.skip (by rfl) ?_))
          try simp only [Act.put, List.setIfInBounds_toArray, List.set_cons_zero, List.set_cons_succ]
          (first
            | (refine WQ.take (v := ?_) (by rfl) ?_ ?_
               rotate_left
               focus (intro wq hq; (try dsimp only at hq); go_simp; (try (with_reducible rfl)); done))
            | (refine WQ.skip (by rfl) ?_))
          try simp only [Act.put, List.setIfInBounds_toArray, List.set_cons_zero, List.set_cons_succ]
          (first
            | (refine WQ.take (v := ?_) (by rfl) ?_ ?_
               rotate_left
               focus (intro wq hq; (try dsimp only at hq); go_simp; (try (with_reducible rfl)); done))
            | (refine WQ.skip (by rfl) ?_))
          try simp only [Act.put, List.setIfInBounds_toArray, List.set_cons_zero, List.set_cons_succ]
          (first
            | (refine WQ.take (v := ?_) (by rfl) ?_ ?_
               rotate_left
               focus (intro wq hq; (try dsimp only at hq); go_simp; (try (with_reducible rfl)); done))
            | (refine WQ.skip (by rfl) ?_))
          try simp only [Act.put, List.setIfInBounds_toArray, List.set_cons_zero, List.set_cons_succ]
          (first
            | (refine WQ.take (v := ?_) (by rfl) ?_ ?_
               rotate_left
               focus (intro wq hq; (try dsimp only at hq); go_simp; (try (with_reducible rfl)); done))
            | (refine WQ.skip (by rfl) ?_))
          try simp only [Act.put, List.setIfInBounds_toArray, List.set_cons_zero, List.set_cons_succ]
          (first
            | (refine WQ.take (v := ?_) (by rfl) ?_ ?_
               rotate_left
               focus (intro wq hq; (try dsimp only at hq); go_simp; (try (with_reducible rfl)); done))
            | (refine WQ.skip (by rfl) ?_))
          try simp only [Act.put, List.setIfInBounds_toArray, List.set_cons_zero, List.set_cons_succ]
          (first
            | (refine WQ.take (v := ?_) (by rfl) ?_ ?_
               rotate_left
               focus (intro wq hq; (try dsimp only at hq); go_simp; (try (with_reducible rfl)); done))
            | (refine WQ.skip (by rfl) ?_))
          try simp only [Act.put, List.setIfInBounds_toArray, List.set_cons_zero, List.set_cons_succ]
          (first
            | (refine WQ.take (v := ?_) (by rfl) ?_ ?_
               rotate_left
               focus (intro wq hq; (try dsimp only at hq); go_simp; (try (with_reducible rfl)); done))
            | (refine WQ.skip (by rfl) ?_))
          try simp only [Act.put, List.setIfInBounds_toArray, List.set_cons_zero, List.set_cons_succ]
          (first
            | (refine WQ.take (v := ?_) (by rfl) ?_ ?_
               rotate_left
               focus (intro wq hq; (try dsimp only at hq); go_simp; (try (with_reducible rfl)); done))
            | (refine WQ.skip (by rfl) ?_))
          try simp only [Act.put, List.setIfInBounds_toArray, List.set_cons_zero, List.set_cons_succ]
          (first
            | (refine WQ.take (v := ?_) (by rfl) ?_ ?_
               rotate_left
               focus (intro wq hq; (try dsimp only at hq); go_simp; (try (with_reducible rfl)); done))
            | (refine WQ.skip (by rfl) ?_))
          try simp only [Act.put, List.setIfInBounds_toArray, List.set_cons_zero, List.set_cons_succ]
          (first
            | (refine WQ.take (v := ?_) (by rfl) ?_ ?_
               rotate_left
               focus (intro wq hq; (try dsimp only at hq); go_simp; (try (with_reducible rfl)); done))
            | (refine WQ.skip (by rfl) ?_))
          try simp only [Act.put, List.setIfInBounds_toArray, List.set_cons_zero, List.set_cons_succ]
          (first
            | (refine WQ.take (v := ?_) (by rfl) ?_ ?_
               rotate_left
               focus (intro wq hq; (try dsimp only at hq); go_simp; (try (with_reducible rfl)); done))
            | (refine WQ.skip (by rfl) ?_))
          try simp only [Act.put, List.setIfInBounds_toArray, List.set_cons_zero, List.set_cons_succ]
          (first
            | (refine WQ.take (v := ?_) (by rfl) ?_ ?_
               rotate_left
               focus (intro wq hq; (try dsimp only at hq); go_simp; (try (with_reducible rfl)); done))
            | (refine WQ.skip (by rfl) ?_))
          try simp only [Act.put, List.setIfInBounds_toArray, List.set_cons_zero, List.set_cons_succ]
          (first
            | (refine WQ.take (v := ?_) (by rfl) ?_ ?_
               rotate_left
               focus (intro wq hq; (try dsimp only at hq); go_simp; (try (with_reducible rfl)); done))
            | (refine WQ.skip (by rfl) ?_))
          try simp only [Act.put, List.setIfInBounds_toArray, List.set_cons_zero, List.set_cons_succ]
          (first
            | (refine WQ.take (v := ?_) (by rfl) ?_ ?_
               rotate_left
               focus (intro wq hq; (try dsimp only at hq); go_simp; (try (with_reducible rfl)); done))
            | (refine WQ.skip (by rfl) ?_))
          try simp only [Act.put, List.setIfInBounds_toArray, List.set_cons_zero, List.set_cons_succ]
          (first
            | (refine WQ.take (v := ?_) (by rfl) ?_ ?_
               rotate_left
               focus (intro wq hq; (try dsimp only at hq); go_simp; (try (with_reducible rfl)); done))
            | (refine WQ.skip (by rfl) ?_))
          try simp only [Act.put, List.setIfInBounds_toArray, List.set_cons_zero, List.set_cons_succ]
          (first
            | (refine WQ.take (v := ?_) (by rfl) ?_ ?_
               rotate_left
               focus (intro wq hq; (try dsimp only at hq); go_simp; (try (with_reducible rfl)); done))
            | (refine WQ.skip (by rfl) ?_))
          try simp only [Act.put, List.setIfInBounds_toArray, List.set_cons_zero, List.set_cons_succ]
          (first
            | (refine WQ.take (v := ?_) (by rfl) ?_ ?_
               rotate_left
               focus (intro wq hq; (try dsimp only at hq); go_simp; (try (with_reducible rfl)); done))
            | (refine WQ.skip (by rfl) ?_))
          try simp only [Act.put, List.setIfInBounds_toArray, List.set_cons_zero, List.set_cons_succ]
          (first
            | (refine WQ.take (v := ?_) (by rfl) ?_ ?_
               rotate_left
               focus (intro wq hq; (try dsimp only at hq); go_simp; (try (with_reducible rfl)); done))
            | (refine WQ.skip (by rfl) ?_))
          try simp only [Act.put, List.setIfInBounds_toArray, List.set_cons_zero, List.set_cons_succ]
          (first
            | (refine WQ.take (v := ?_) (by rfl) ?_ ?_
               rotate_left
               focus (intro wq hq; (try dsimp only at hq); go_simp; (try (with_reducible rfl)); done))
            | (refine WQ.skip (by rfl) ?_))
          try simp only [Act.put, List.setIfInBounds_toArray, List.set_cons_zero, List.set_cons_succ]
          (first
            | (refine WQ.take (v := ?_) (by rfl) ?_ ?_
               rotate_left
               focus (intro wq hq; (try dsimp only at hq); go_simp; (try (with_reducible rfl)); done))
            | (refine WQ.skip (by rfl) ?_))
          try simp only [Act.put, List.setIfInBounds_toArray, List.set_cons_zero, List.set_cons_succ]
          (first
            | (refine WQ.take (v := ?_) (by rfl) ?_ ?_
               rotate_left
               focus (intro wq hq; (try dsimp only at hq); go_simp; (try (with_reducible rfl)); done))
            | (refine WQ.skip (by rfl) ?_))
          try simp only [Act.put, List.setIfInBounds_toArray, List.set_cons_zero, List.set_cons_succ]
          (first
            | (refine WQ.take (v := ?_) (by rfl) ?_ ?_
               rotate_left
               focus (intro wq hq; (try dsimp only at hq); go_simp; (try (with_reducible rfl)); done))
            | (refine WQ.skip (by rfl) ?_))
          try simp only [Act.put, List.setIfInBounds_toArray, List.set_cons_zero, List.set_cons_succ]
          (first
            | (refine WQ.take (v := ?_) (by rfl) ?_ ?_
               rotate_left
               focus (intro wq hq; (try dsimp only at hq); go_simp; (try (with_reducible rfl)); done))
            | (refine WQ.skip (by rfl) ?_))
          try simp only [Act.put, List.setIfInBounds_toArray, List.set_cons_zero, List.set_cons_succ]
          (first
            | (refine WQ.take (v := ?_) (by rfl) ?_ ?_
               rotate_left
               focus (intro wq hq; (try dsimp only at hq); go_simp; (try (with_reducible rfl)); done))
            | (refine WQ.skip (by rfl) ?_))
          try simp only [Act.put, List.setIfInBounds_toArray, List.set_cons_zero, List.set_cons_succ]
          (first
            | (refine WQ.take (v := ?_) (by rfl) ?_ ?_
               rotate_left
               focus (intro wq hq; (try dsimp only at hq); go_simp; (try (with_reducible rfl)); done))
            | (refine WQ.skip (by rfl) ?_))
          try simp only [Act.put, List.setIfInBounds_toArray, List.set_cons_zero, List.set_cons_succ]
          refine WQ.take (v := .bool true) (by rfl) (fun wq hq => ?_) ?_
          focus (go_simp; (refine (HX.out wq hq.1).mono ?_; rintro e w2 ⟨rfl, hb2⟩; exact ⟨rfl, e1 (hq.1.trans (hb2.mono hq.1.size))⟩))
          try simp only [Act.put, List.setIfInBounds_toArray, List.set_cons_zero, List.set_cons_succ]
          (first
            | (refine WQ.take (v := ?_) (by rfl) ?_ ?_
               rotate_left
               focus (intro wq hq; (try dsimp only at hq); go_simp; (try (with_reducible rfl)); done))
            | (refine WQ.skip (by rfl) ?_))
          try simp only [Act.put, List.setIfInBounds_toArray, List.set_cons_zero, List.set_cons_succ]
          (first
            | (refine WQ.take (v := ?_) (by rfl) ?_ ?_
               rotate_left
               focus (intro wq hq; (try dsimp only at hq); go_simp; (try (with_reducible rfl)); done))
            | (refine WQ.skip (by rfl) ?_))
          try simp only [Act.put, List.setIfInBounds_toArray, List.set_cons_zero, List.set_cons_succ]
          refine WQ.nil ?_
          rintro w9 ⟨hb9, _⟩
          go_wp2_with fail
          go_roundw
          case rel => exact ⟨1, by omega, by go_num, Lib.hid (fun j hj => by
            obtain rfl : j = 0 := by omega
            exact HT.out), hbw.trans (hb9.mono hbw.size)⟩
          case measure => simp [intOf]; omega
      · obtain ⟨j, hj⟩ : ∃ j, k = j + 1 := ⟨k - 1, by omega⟩
        have hjn : j < n := by omega
        obtain ⟨b', off', p, e0, _, hxp, _, hpp⟩ := (h.next hbw).getR j hjn
        injection e0 with e0
        injection e0 with e01 e02
        subst e01 e02
        obtain ⟨⟨pm, pd, pk, pt⟩, pz⟩ := p
        obtain ⟨r0, r1, _, _, _⟩ := ntP_of hpp hb
        simp only at r0 r1
        have hpr : prB (xsOf zs) k ⟨m, d, kk, t⟩ = (decide (pm < m) && decide (pd ≤ d)) := by
          have e5 : (k == 0) = false := by simp; omega
          have e6 : (xsOf zs)[k - 1]? = some ⟨pm, pd, pk, pt⟩ := by rw [hj, Nat.add_sub_cancel, List.getElem?_map, hxp]; rfl
          rw [prB, e5, e6]; rfl
        rw [hpr] at hat
        clear hpp hpr
        have j0 : (0 : Int) ≤ (j : Int) := by omega
        have j1 : (j : Int) < (n : Int) := by omega
        have kp : (0 : Int) < (k : Int) := by omega
        have kd : decide ((0 : Int) < (k : Int)) = true := decide_eq_true kp
        have hw1 : IntKind.i64.wrap ((k : Int) - 1) = (j : Int) := by rw [IntWalk.i64_in _ (by omega)]; omega
        have Hj := Lib.hid hj; clear hj
        have Hxp := Lib.hid hxp; clear hxp
        by_cases g1 : pm < m
        · have g2 : decide (m ≤ pm) = false := by simp; omega
          have g3 : ¬ m ≤ pm := by omega
          rw [decide_eq_true g1, Bool.true_and] at hat
          by_cases g4 : pd ≤ d
          · have g5 : decide (d < pd) = false := by simp; omega
            have g6 : ¬ d < pd := by omega
            rw [decide_eq_true g4, Bool.true_and] at hat
            cases X
            · have hF := hno hat
              have Hat := Lib.hid hat; clear hat
              have Hno := Lib.hid hno; clear hno
              have HF := Lib.hid hF; clear hF
              go_wp2
              refine wp_region_wqC (C := fun w' => Below wr.heap.size wr w' ∧ ∀ x, w'.cell? ⟨b, x, none⟩ = wr.cell? ⟨b, x, none⟩) (by kernel_rfl) (by kernel_rfl) (e1 (Below.refl _ _).drew) ?_
              (first
                | (refine WQ.take (v := ?_) (by rfl) ?_ ?_
                   rotate_left
                   focus (intro wq hq; (try dsimp only at hq); go_simp; (try (with_reducible rfl)); done))
                | (refine WQ.skip (by rfl) ?_))
              try simp only [Act.put, List.setIfInBounds_toArray, List.set_cons_zero, List.set_cons_succ]
              refine WQ.take (v := .bool true) (by rfl) (fun wq hq => ?_) ?_
              focus (go_simp; (refine (HO.out wq hq.1).mono ?_; rintro e w2 ⟨rfl, hb2⟩; exact ⟨rfl, e1 (hq.1.trans (hb2.mono hq.1.size))⟩))
              try simp only [Act.put, List.setIfInBounds_toArray, List.set_cons_zero, List.set_cons_succ]
              (first
                | (refine WQ.take (v := ?_) (by rfl) ?_ ?_
                   rotate_left
                   focus (intro wq hq; (try dsimp only at hq); go_simp; (try (with_reducible rfl)); done))
                | (refine WQ.skip (by rfl) ?_))
              try simp only [Act.put, List.setIfInBounds_toArray, List.set_cons_zero, List.set_cons_succ]
              (first
                | (refine WQ.take (v := ?_) (by rfl) ?_ ?_
                   rotate_left
                   focus (intro wq hq; (try dsimp only at hq); go_simp; (try (with_reducible rfl)); done))
                | (refine WQ.skip (by rfl) ?_))
              try simp only [Act.put, List.setIfInBounds_toArray, List.set_cons_zero, List.set_cons_succ]
              (first
                | (refine WQ.take (v := ?_) (by rfl) ?_ ?_
                   rotate_left
                   focus (intro wq hq; (try dsimp only at hq); go_simp; (try (with_reducible rfl)); done))
                | (refine WQ.skip (by rfl) ?_))
              try simp only [Act.put, List.setIfInBounds_toArray, List.set_cons_zero, List.set_cons_succ]
              (first
                | (refine WQ.take (v := ?_) (by rfl) ?_ ?_
                   rotate_left
                   focus (intro wq hq; (try dsimp only at hq); go_simp; (try (with_reducible rfl)); done))
                | (refine WQ.skip (by rfl) ?_))
              try simp only [Act.put, List.setIfInBounds_toArray, List.set_cons_zero, List.set_cons_succ]
              (first
                | (refine WQ.take (v := ?_) (by rfl) ?_ ?_
                   rotate_left
                   focus (intro wq hq; (try dsimp only at hq); go_simp; (try (with_reducible rfl)); done))
                | (refine WQ.skip (by rfl) ?_))
              try simp only [Act.put, List.setIfInBounds_toArray, List.set_cons_zero, List.set_cons_succ]
              (first
                | (refine WQ.take (v := ?_) (by rfl) ?_ ?_
                   rotate_left
                   focus (intro wq hq; (try dsimp only at hq); go_simp; (try (with_reducible rfl)); done))
                | (refine WQ.skip (by rfl) ?_))
              try simp only [Act.put, List.setIfInBounds_toArray, List.set_cons_zero, List.set_cons_succ]
              (first
                | (refine WQ.take (v := ?_) (by rfl) ?_ ?_
                   rotate_left
                   focus (intro wq hq; (try dsimp only at hq); go_simp; (try (with_reducible rfl)); done))
                | (refine WQ.skip (by rfl) ?_))
              try simp only [Act.put, List.setIfInBounds_toArray, List.set_cons_zero, List.set_cons_succ]
              (first
                | (refine WQ.take (v := ?_) (by rfl) ?_ ?_
                   rotate_left
                   focus (intro wq hq; (try dsimp only at hq); go_simp; (try (with_reducible rfl)); done))
                | (refine WQ.skip (by rfl) ?_))
              try simp only [Act.put, List.setIfInBounds_toArray, List.set_cons_zero, List.set_cons_succ]
              (first
                | (refine WQ.take (v := ?_) (by rfl) ?_ ?_
                   rotate_left
                   focus (intro wq hq; (try dsimp only at hq); go_simp; (try (with_reducible rfl)); done))
                | (refine WQ.skip (by rfl) ?_))
              try simp only [Act.put, List.setIfInBounds_toArray, List.set_cons_zero, List.set_cons_succ]
              (first
                | (refine WQ.take (v := ?_) (by rfl) ?_ ?_
                   rotate_left
                   focus (intro wq hq; (try dsimp only at hq); go_simp; (try (with_reducible rfl)); done))
                | (refine WQ.skip (by rfl) ?_))
              try simp only [Act.put, List.setIfInBounds_toArray, List.set_cons_zero, List.set_cons_succ]
              (first
                | (refine WQ.take (v := ?_) (by rfl) ?_ ?_
                   rotate_left
                   focus (intro wq hq; (try dsimp only at hq); go_simp; (try (with_reducible rfl)); done))
                | (refine WQ.skip (by rfl) ?_))
              try simp only [Act.put, List.setIfInBounds_toArray, List.set_cons_zero, List.set_cons_succ]
              (first
                | (refine WQ.take (v := ?_) (by rfl) ?_ ?_
                   rotate_left
                   focus (intro wq hq; (try dsimp only at hq); go_simp; (try (with_reducible rfl)); done))
                | (refine WQ.skip (by rfl) ?_))
              try simp only [Act.put, List.setIfInBounds_toArray, List.set_cons_zero, List.set_cons_succ]
              (first
                | (refine WQ.take (v := ?_) (by rfl) ?_ ?_
                   rotate_left
                   focus (intro wq hq; (try dsimp only at hq); go_simp; (try (with_reducible rfl)); done))
                | (refine WQ.skip (by rfl) ?_))
              try simp only [Act.put, List.setIfInBounds_toArray, List.set_cons_zero, List.set_cons_succ]
              (first
                | (refine WQ.take (v := ?_) (by rfl) ?_ ?_
                   rotate_left
                   focus (intro wq hq; (try dsimp only at hq); go_simp; (try (with_reducible rfl)); done))
                | (refine WQ.skip (by rfl) ?_))
              try simp only [Act.put, List.setIfInBounds_toArray, List.set_cons_zero, List.set_cons_succ]
              (first
                | (refine WQ.take (v := ?_) (by rfl) ?_ ?_
                   rotate_left
                   focus (intro wq hq; (try dsimp only at hq); go_simp; (try (with_reducible rfl)); done))
                | (refine WQ.skip (by rfl) ?_))
              try simp only [Act.put, List.setIfInBounds_toArray, List.set_cons_zero, List.set_cons_succ]
              (first
                | (refine WQ.take (v := ?_) (by rfl) ?_ ?_
                   rotate_left
                   focus (intro wq hq; (try dsimp only at hq); go_simp; (try (with_reducible rfl)); done))
                | (refine WQ.skip (by rfl) ?_))
              try simp only [Act.put, List.setIfInBounds_toArray, List.set_cons_zero, List.set_cons_succ]
              (first
                | (refine WQ.take (v := ?_) (by rfl) ?_ ?_
                   rotate_left
                   focus (intro wq hq; (try dsimp only at hq); go_simp; (try (with_reducible rfl)); done))
                | (refine WQ.skip (by rfl) ?_))
              try simp only [Act.put, List.setIfInBounds_toArray, List.set_cons_zero, List.set_cons_succ]
              (first
                | (refine WQ.take (v := ?_) (by rfl) ?_ ?_
                   rotate_left
                   focus (intro wq hq; (try dsimp only at hq); go_simp; (try (with_reducible rfl)); done))
                | (refine WQ.skip (by rfl) ?_))
              try simp only [Act.put, List.setIfInBounds_toArray, List.set_cons_zero, List.set_cons_succ]
              (first
                | (refine WQ.take (v := ?_) (by rfl) ?_ ?_
                   rotate_left
                   focus (intro wq hq; (try dsimp only at hq); go_simp; (try (with_reducible rfl)); done))
                | (refine WQ.skip (by rfl) ?_))
              try simp only [Act.put, List.setIfInBounds_toArray, List.set_cons_zero, List.set_cons_succ]
              (first
                | (refine WQ.take (v := ?_) (by rfl) ?_ ?_
                   rotate_left
                   focus (intro wq hq; (try dsimp only at hq); go_simp; (try (with_reducible rfl)); done))
                | (refine WQ.skip (by rfl) ?_))
              try simp only [Act.put, List.setIfInBounds_toArray, List.set_cons_zero, List.set_cons_succ]
              (first
                | (refine WQ.take (v := ?_) (by rfl) ?_ ?_
                   rotate_left
                   focus (intro wq hq; (try dsimp only at hq); go_simp; (try (with_reducible rfl)); done))
                | (refine WQ.skip (by rfl) ?_))
              try simp only [Act.put, List.setIfInBounds_toArray, List.set_cons_zero, List.set_cons_succ]
              (first
                | (refine WQ.take (v := ?_) (by rfl) ?_ ?_
                   rotate_left
                   focus (intro wq hq; (try dsimp only at hq); go_simp; (try (with_reducible rfl)); done))
                | (refine WQ.skip (by rfl) ?_))
              try simp only [Act.put, List.setIfInBounds_toArray, List.set_cons_zero, List.set_cons_succ]
              (first
                | (refine WQ.take (v := ?_) (by rfl) ?_ ?_
                   rotate_left
                   focus (intro wq hq; (try dsimp only at hq); go_simp; (try (with_reducible rfl)); done))
                | (refine WQ.skip (by rfl) ?_))
              try simp only [Act.put, List.setIfInBounds_toArray, List.set_cons_zero, List.set_cons_succ]
              (first
                | (refine WQ.take (v := ?_) (by rfl) ?_ ?_
                   rotate_left
                   focus (intro wq hq; (try dsimp only at hq); go_simp; (try (with_reducible rfl)); done))
                | (refine WQ.skip (by rfl) ?_))
              try simp only [Act.put, List.setIfInBounds_toArray, List.set_cons_zero, List.set_cons_succ]
              (first
                | (refine WQ.take (v := ?_) (by rfl) ?_ ?_
                   rotate_left
                   focus (intro wq hq; (try dsimp only at hq); go_simp; (try (with_reducible rfl)); done))
                | (refine WQ.skip (by rfl) ?_))
              try simp only [Act.put, List.setIfInBounds_toArray, List.set_cons_zero, List.set_cons_succ]
              (first
                | (refine WQ.take (v := ?_) (by rfl) ?_ ?_
                   rotate_left
                   focus (intro wq hq; (try dsimp only at hq); go_simp; (try (with_reducible rfl)); done))
                | (refine WQ.skip (by rfl) ?_))
              try simp only [Act.put, List.setIfInBounds_toArray, List.set_cons_zero, List.set_cons_succ]
              (first
                | (refine WQ.take (v := ?_) (by rfl) ?_ ?_
                   rotate_left
                   focus (intro wq hq; (try dsimp only at hq); go_simp; (try (with_reducible rfl)); done))
                | (refine WQ.skip (by rfl) ?_))
              try simp only [Act.put, List.setIfInBounds_toArray, List.set_cons_zero, List.set_cons_succ]
              (first
                | (refine WQ.take (v := ?_) (by rfl) ?_ ?_
                   rotate_left
                   focus (intro wq hq; (try dsimp only at hq); go_simp; (try (with_reducible rfl)); done))
                | (refine WQ.skip (by rfl) ?_))
              try simp only [Act.put, List.setIfInBounds_toArray, List.set_cons_zero, List.set_cons_succ]
              (first
                | (refine WQ.take (v := ?_) (by rfl) ?_ ?_
                   rotate_left
                   focus (intro wq hq; (try dsimp only at hq); go_simp; (try (with_reducible rfl)); done))
                | (refine WQ.skip (by rfl) ?_))
              try simp only [Act.put, List.setIfInBounds_toArray, List.set_cons_zero, List.set_cons_succ]
              (first
                | (refine WQ.take (v := ?_) (by rfl) ?_ ?_
                   rotate_left
                   focus (intro wq hq; (try dsimp only at hq); go_simp; (try (with_reducible rfl)); done))
                | (refine WQ.skip (by rfl) ?_))
              try simp only [Act.put, List.setIfInBounds_toArray, List.set_cons_zero, List.set_cons_succ]
              (first
                | (refine WQ.take (v := ?_) (by rfl) ?_ ?_
                   rotate_left
                   focus (intro wq hq; (try dsimp only at hq); go_simp; (try (with_reducible rfl)); done))
                | (refine WQ.skip (by rfl) ?_))
              try simp only [Act.put, List.setIfInBounds_toArray, List.set_cons_zero, List.set_cons_succ]
              (first
                | (refine WQ.take (v := ?_) (by rfl) ?_ ?_
                   rotate_left
                   focus (intro wq hq; (try dsimp only at hq); go_simp; (try (with_reducible rfl)); done))
                | (refine WQ.skip (by rfl) ?_))
              try simp only [Act.put, List.setIfInBounds_toArray, List.set_cons_zero, List.set_cons_succ]
              (first
                | (refine WQ.take (v := ?_) (by rfl) ?_ ?_
                   rotate_left
                   focus (intro wq hq; (try dsimp only at hq); go_simp; (try (with_reducible rfl)); done))
                | (refine WQ.skip (by rfl) ?_))
              try simp only [Act.put, List.setIfInBounds_toArray, List.set_cons_zero, List.set_cons_succ]
              (first
                | (refine WQ.take (v := ?_) (by rfl) ?_ ?_
                   rotate_left
                   focus (intro wq hq; (try dsimp only at hq); go_simp; (try (with_reducible rfl)); done))
                | (refine WQ.skip (by rfl) ?_))
              try simp only [Act.put, List.setIfInBounds_toArray, List.set_cons_zero, List.set_cons_succ]
              (first
                | (refine WQ.take (v := ?_) (by rfl) ?_ ?_
                   rotate_left
                   focus (intro wq hq; (try dsimp only at hq); go_simp; (try (with_reducible rfl)); done))
                | (refine WQ.skip (by rfl) ?_))
              try simp only [Act.put, List.setIfInBounds_toArray, List.set_cons_zero, List.set_cons_succ]
              (first
                | (refine WQ.take (v := ?_) (by rfl) ?_ ?_
                   rotate_left
                   focus (intro wq hq; (try dsimp only at hq); go_simp; (try (with_reducible rfl)); done))
                | (refine WQ.skip (by rfl) ?_))
              try simp only [Act.put, List.setIfInBounds_toArray, List.set_cons_zero, List.set_cons_succ]
              refine WQ.take (v := .bool false) (by rfl) (fun wq hq => ?_) ?_
              focus (go_simp; (refine (HX.out wq hq.1).mono ?_; rintro e w2 ⟨rfl, hb2⟩; exact ⟨rfl, e1 (hq.1.trans (hb2.mono hq.1.size))⟩))
              try simp only [Act.put, List.setIfInBounds_toArray, List.set_cons_zero, List.set_cons_succ]
              (first
                | (refine WQ.take (v := ?_) (by rfl) ?_ ?_
                   rotate_left
                   focus (intro wq hq; (try dsimp only at hq); go_simp; (try (with_reducible rfl)); done))
                | (refine WQ.skip (by rfl) ?_))
              try simp only [Act.put, List.setIfInBounds_toArray, List.set_cons_zero, List.set_cons_succ]
              (first
                | (refine WQ.take (v := ?_) (by rfl) ?_ ?_
                   rotate_left
                   focus (intro wq hq; (try dsimp only at hq); go_simp; (try (with_reducible rfl)); done))
                | (refine WQ.skip (by rfl) ?_))
              try simp only [Act.put, List.setIfInBounds_toArray, List.set_cons_zero, List.set_cons_succ]
              refine WQ.nil ?_
              rintro w9 ⟨hb9, _⟩
              go_wp2_with fail
              go_ret
              exact ⟨ret_eq (bool_eq HF.out.symm), hbw.trans (hb9.mono hbw.size)⟩
            · have HT := Lib.hid hat; clear hat
              have Hno := Lib.hid hno; clear hno
              go_wp2
              refine wp_region_wqC (C := fun w' => Below wr.heap.size wr w' ∧ ∀ x, w'.cell? ⟨b, x, none⟩ = wr.cell? ⟨b, x, none⟩) (by kernel_rfl) (by kernel_rfl) (e1 (Below.refl _ _).drew) ?_
              (first
                | (refine WQ.take (v := ?_) (by rfl) ?_ ?_
                   rotate_left
                   focus (intro wq hq; (try dsimp only at hq); go_simp; (try (with_reducible rfl)); done))
                | (refine WQ.skip (by rfl) ?_))
              try simp only [Act.put, List.setIfInBounds_toArray, List.set_cons_zero, List.set_cons_succ]
              refine WQ.take (v := .bool true) (by rfl) (fun wq hq => ?_) ?_
              focus (go_simp; (refine (HO.out wq hq.1).mono ?_; rintro e w2 ⟨rfl, hb2⟩; exact ⟨rfl, e1 (hq.1.trans (hb2.mono hq.1.size))⟩))
              try simp only [Act.put, List.setIfInBounds_toArray, List.set_cons_zero, List.set_cons_succ]
              (first
                | (refine WQ.take (v := ?_) (by rfl) ?_ ?_
                   rotate_left
                   focus (intro wq hq; (try dsimp only at hq); go_simp; (try (with_reducible rfl)); done))
                | (refine WQ.skip (by rfl) ?_))
              try simp only [Act.put, List.setIfInBounds_toArray, List.set_cons_zero, List.set_cons_succ]
              (first
                | (refine WQ.take (v := ?_) (by rfl) ?_ ?_
                   rotate_left
                   focus (intro wq hq; (try dsimp only at hq); go_simp; (try (with_reducible rfl)); done))
                | (refine WQ.skip (by rfl) ?_))
              try simp only [Act.put, List.setIfInBounds_toArray, List.set_cons_zero, List.set_cons_succ]
              (first
                | (refine WQ.take (v := ?_) (by rfl) ?_ ?_
                   rotate_left
                   focus (intro wq hq; (try dsimp only at hq); go_simp; (try (with_reducible rfl)); done))
                | (refine WQ.skip (by rfl) ?_))
              try simp only [Act.put, List.setIfInBounds_toArray, List.set_cons_zero, List.set_cons_succ]
              (first
                | (refine WQ.take (v := ?_) (by rfl) ?_ ?_
                   rotate_left
                   focus (intro wq hq; (try dsimp only at hq); go_simp; (try (with_reducible rfl)); done))
                | (refine WQ.skip (by rfl) ?_))
              try simp only [Act.put, List.setIfInBounds_toArray, List.set_cons_zero, List.set_cons_succ]
              (first
                | (refine WQ.take (v := ?_) (by rfl) ?_ ?_
                   rotate_left
                   focus (intro wq hq; (try dsimp only at hq); go_simp; (try (with_reducible rfl)); done))
                | (refine WQ.skip (by rfl) ?_))
              try simp only [Act.put, List.setIfInBounds_toArray, List.set_cons_zero, List.set_cons_succ]
              (first
                | (refine WQ.take (v := ?_) (by rfl) ?_ ?_
                   rotate_left
                   focus (intro wq hq; (try dsimp only at hq); go_simp; (try (with_reducible rfl)); done))
                | (refine WQ.skip (by rfl) ?_))
              try simp only [Act.put, List.setIfInBounds_toArray, List.set_cons_zero, List.set_cons_succ]
              (first
                | (refine WQ.take (v := ?_) (by rfl) ?_ ?_
                   rotate_left
                   focus (intro wq hq; (try dsimp only at hq); go_simp; (try (with_reducible rfl)); done))
                | (refine WQ.skip (by rfl) ?_))
              try simp only [Act.put, List.setIfInBounds_toArray, List.set_cons_zero, List.set_cons_succ]
              (first
                | (refine WQ.take (v := ?_) (by rfl) ?_ ?_
                   rotate_left
                   focus (intro wq hq; (try dsimp only at hq); go_simp; (try (with_reducible rfl)); done))
                | (refine WQ.skip (by rfl) ?_))
              try simp only [Act.put, List.setIfInBounds_toArray, List.set_cons_zero, List.set_cons_succ]
              (first
                | (refine WQ.take (v := ?_) (by rfl) ?_ ?_
                   rotate_left
                   focus (intro wq hq; (try dsimp only at hq); go_simp; (try (with_reducible rfl)); done))
                | (refine WQ.skip (by rfl) ?_))
              try simp only [Act.put, List.setIfInBounds_toArray, List.set_cons_zero, List.set_cons_succ]
              (first
                | (refine WQ.take (v := ?_) (by rfl) ?_ ?_
                   rotate_left
                   focus (intro wq hq; (try dsimp only at hq); go_simp; (try (with_reducible rfl)); done))
                | (refine WQ.skip (by rfl) ?_))
              try simp only [Act.put, List.setIfInBounds_toArray, List.set_cons_zero, List.set_cons_succ]
              (first
                | (refine WQ.take (v := ?_) (by rfl) ?_ ?_
                   rotate_left
                   focus (intro wq hq; (try dsimp only at hq); go_simp; (try (with_reducible rfl)); done))
                | (refine WQ.skip (by rfl) ?_))
              try simp only [Act.put, List.setIfInBounds_toArray, List.set_cons_zero, List.set_cons_succ]
              (first
                | (refine WQ.take (v := ?_) (by rfl) ?_ ?_
                   rotate_left
                   focus (intro wq hq; (try dsimp only at hq); go_simp; (try (with_reducible rfl)); done))
                | (refine WQ.skip (by rfl) ?_))
              try simp only [Act.put, List.setIfInBounds_toArray, List.set_cons_zero, List.set_cons_succ]
              (first
                | (refine WQ.take (v := ?_) (by rfl) ?_ ?_
                   rotate_left
                   focus (intro wq hq; (try dsimp only at hq); go_simp; (try (with_reducible rfl)); done))
                | (refine WQ.skip (by rfl) ?_))
              try simp only [Act.put, List.setIfInBounds_toArray, List.set_cons_zero, List.set_cons_succ]
              (first
                | (refine WQ.take (v := ?_) (by rfl) ?_ ?_
                   rotate_left
                   focus (intro wq hq; (try dsimp only at hq); go_simp; (try (with_reducible rfl)); done))
                | (refine WQ.skip (by rfl) ?_))
              try simp only [Act.put, List.setIfInBounds_toArray, List.set_cons_zero, List.set_cons_succ]
              (first
                | (refine WQ.take (v := ?_) (by rfl) ?_ ?_
                   rotate_left
                   focus (intro wq hq; (try dsimp only at hq); go_simp; (try (with_reducible rfl)); done))
                | (refine WQ.skip (by rfl) ?_))
              try simp only [Act.put, List.setIfInBounds_toArray, List.set_cons_zero, List.set_cons_succ]
              (first
                | (refine WQ.take (v := ?_) (by rfl) ?_ ?_
                   rotate_left
                   focus (intro wq hq; (try dsimp only at hq); go_simp; (try (with_reducible rfl)); done))
                | (refine WQ.skip (by rfl) ?_))
              try simp only [Act.put, List.setIfInBounds_toArray, List.set_cons_zero, List.set_cons_succ]
              (first
                | (refine WQ.take (v := ?_) (by rfl) ?_ ?_
                   rotate_left
                   focus (intro wq hq; (try dsimp only at hq); go_simp; (try (with_reducible rfl)); done))
                | (refine WQ.skip (by rfl) ?_))
              try simp only [Act.put, List.setIfInBounds_toArray, List.set_cons_zero, List.set_cons_succ]
              (first
                | (refine WQ.take (v := ?_) (by rfl) ?_ ?_
                   rotate_left
                   focus (intro wq hq; (try dsimp only at hq); go_simp; (try (with_reducible rfl)); done))
                | (refine WQ.skip (by rfl) ?_))
              try simp only [Act.put, List.setIfInBounds_toArray, List.set_cons_zero, List.set_cons_succ]
              (first
                | (refine WQ.take (v := ?_) (by rfl) ?_ ?_
                   rotate_left
                   focus (intro wq hq; (try dsimp only at hq); go_simp; (try (with_reducible rfl)); done))
                | (refine WQ.skip (by rfl) ?_))
              try simp only [Act.put, List.setIfInBounds_toArray, List.set_cons_zero, List.set_cons_succ]
              (first
                | (refine WQ.take (v := ?_) (by rfl) ?_ ?_
                   rotate_left
                   focus (intro wq hq; (try dsimp only at hq); go_simp; (try (with_reducible rfl)); done))
                | (refine WQ.skip (by rfl) ?_))
              try simp only [Act.put, List.setIfInBounds_toArray, List.set_cons_zero, List.set_cons_succ]
              (first
                | (refine WQ.take (v := ?_) (by rfl) ?_ ?_
                   rotate_left
                   focus (intro wq hq; (try dsimp only at hq); go_simp; (try (with_reducible rfl)); done))
                | (refine WQ.skip (by rfl) ?_))
              try simp only [Act.put, List.setIfInBounds_toArray, List.set_cons_zero, List.set_cons_succ]
              (first
                | (refine WQ.take (v := ?_) (by rfl) ?_ ?_
                   rotate_left
                   focus (intro wq hq; (try dsimp only at hq); go_simp; (try (with_reducible rfl)); done))
                | (refine WQ.skip (by rfl) ?_))
              try simp only [Act.put, List.setIfInBounds_toArray, List.set_cons_zero, List.set_cons_succ]
              (first
                | (refine WQ.take (v := ?_) (by rfl) ?_ ?_
                   rotate_left
                   focus (intro wq hq; (try dsimp only at hq); go_simp; (try (with_reducible rfl)); done))
                | (refine WQ.skip (by rfl) ?_))
              try simp only [Act.put, List.setIfInBounds_toArray, List.set_cons_zero, List.set_cons_succ]
              (first
                | (refine WQ.take (v := ?_) (by rfl) ?_ ?_
                   rotate_left
                   focus (intro wq hq; (try dsimp only at hq); go_simp; (try (with_reducible rfl)); done))
                | (refine WQ.skip (by rfl) ?_))
              try simp only [Act.put, List.setIfInBounds_toArray, List.set_cons_zero, List.set_cons_succ]
              (first
                | (refine WQ.take (v := ?_) (by rfl) ?_ ?_
                   rotate_left
                   focus (intro wq hq; (try dsimp only at hq); go_simp; (try (with_reducible rfl)); done))
                | (refine WQ.skip (by rfl) ?_))
              try simp only [Act.put, List.setIfInBounds_toArray, List.set_cons_zero, List.set_cons_succ]
              (first
                | (refine WQ.take (v := ?_) (by rfl) ?_ ?_
                   rotate_left
                   focus (intro wq hq; (try dsimp only at hq); go_simp; (try (with_reducible rfl)); done))
                | (refine WQ.skip (by rfl) ?_))
              try simp only [Act.put, List.setIfInBounds_toArray, List.set_cons_zero, List.set_cons_succ]
              (first
                | (refine WQ.take (v := ?_) (by rfl) ?_ ?_
                   rotate_left
                   focus (intro wq hq; (try dsimp only at hq); go_simp; (try (with_reducible rfl)); done))
                | (refine WQ.skip (by rfl) ?_))
              try simp only [Act.put, List.setIfInBounds_toArray, List.set_cons_zero, List.set_cons_succ]
              (first
                | (refine WQ.take (v := ?_) (by rfl) ?_ ?_
                   rotate_left
                   focus (intro wq hq; (try dsimp only at hq); go_simp; (try (with_reducible rfl)); done))
                | (refine WQ.skip (by rfl) ?_))
              try simp only [Act.put, List.setIfInBounds_toArray, List.set_cons_zero, List.set_cons_succ]
              (first
                | (refine WQ.take (v := ?_) (by rfl) ?_ ?_
                   rotate_left
                   focus (intro wq hq; (try dsimp only at hq); go_simp; (try (with_reducible rfl)); done))
                | (refine WQ.skip (by rfl) ?_))
              try simp only [Act.put, List.setIfInBounds_toArray, List.set_cons_zero, List.set_cons_succ]
              (first
                | (refine WQ.take (v := ?_) (by rfl) ?_ ?_
                   rotate_left
                   focus (intro wq hq; (try dsimp only at hq); go_simp; (try (with_reducible rfl)); done))
                | (refine WQ.skip (by rfl) ?_))
              try simp only [Act.put, List.setIfInBounds_toArray, List.set_cons_zero, List.set_cons_succ]
              (first
                | (refine WQ.take (v := ?_) (by rfl) ?_ ?_
                   rotate_left
                   focus (intro wq hq; (try dsimp only at hq); go_simp; (try (with_reducible rfl)); done))
                | (refine WQ.skip (by rfl) ?_))
              try simp only [Act.put, List.setIfInBounds_toArray, List.set_cons_zero, List.set_cons_succ]
              (first
                | (refine WQ.take (v := ?_) (by rfl) ?_ ?_
                   rotate_left
                   focus (intro wq hq; (try dsimp only at hq); go_simp; (try (with_reducible rfl)); done))
                | (refine WQ.skip (by rfl) ?_))
              try simp only [Act.put, List.setIfInBounds_toArray, List.set_cons_zero, List.set_cons_succ]
              (first
                | (refine WQ.take (v := ?_) (by rfl) ?_ ?_
                   rotate_left
                   focus (intro wq hq; (try dsimp only at hq); go_simp; (try (with_reducible rfl)); done))
                | (refine WQ.skip (by rfl) ?_))
              try simp only [Act.put, List.setIfInBounds_toArray, List.set_cons_zero, List.set_cons_succ]
              (first
                | (refine WQ.take (v := ?_) (by rfl) ?_ ?_
                   rotate_left
                   focus (intro wq hq; (try dsimp only at hq); go_simp; (try (with_reducible rfl)); done))
                | (refine WQ.skip (by rfl) ?_))
              try simp only [Act.put, List.setIfInBounds_toArray, List.set_cons_zero, List.set_cons_succ]
              (first
                | (refine WQ.take (v := ?_) (by rfl) ?_ ?_
                   rotate_left
                   focus (intro wq hq; (try dsimp only at hq); go_simp; (try (with_reducible rfl)); done))
                | (refine WQ.skip (by rfl) ?_))
              try simp only [Act.put, List.setIfInBounds_toArray, List.set_cons_zero, List.set_cons_succ]
              (first
                | (refine WQ.take (v := ?_) (by rfl) ?_ ?_
                   rotate_left
                   focus (intro wq hq; (try dsimp only at hq); go_simp; (try (with_reducible rfl)); done))
                | (refine WQ.skip (by rfl) ?_))
              try simp only [Act.put, List.setIfInBounds_toArray, List.set_cons_zero, List.set_cons_succ]
              refine WQ.take (v := .bool true) (by rfl) (fun wq hq => ?_) ?_
              focus (go_simp; (refine (HX.out wq hq.1).mono ?_; rintro e w2 ⟨rfl, hb2⟩; exact ⟨rfl, e1 (hq.1.trans (hb2.mono hq.1.size))⟩))
              try simp only [Act.put, List.setIfInBounds_toArray, List.set_cons_zero, List.set_cons_succ]
              (first
                | (refine WQ.take (v := ?_) (by rfl) ?_ ?_
                   rotate_left
                   focus (intro wq hq; (try dsimp only at hq); go_simp; (try (with_reducible rfl)); done))
                | (refine WQ.skip (by rfl) ?_))
              try simp only [Act.put, List.setIfInBounds_toArray, List.set_cons_zero, List.set_cons_succ]
              (first
                | (refine WQ.take (v := ?_) (by rfl) ?_ ?_
                   rotate_left
                   focus (intro wq hq; (try dsimp only at hq); go_simp; (try (with_reducible rfl)); done))
                | (refine WQ.skip (by rfl) ?_))
              try simp only [Act.put, List.setIfInBounds_toArray, List.set_cons_zero, List.set_cons_succ]
              refine WQ.nil ?_
              rintro w9 ⟨hb9, _⟩
              go_wp2_with fail
              go_roundw
              case rel => exact ⟨k + 1, by omega, by go_num, Lib.hid (fun j hj => by
                rcases Nat.lt_or_ge j k with h2 | h2
                · exact Hs.out j h2
                · obtain rfl : j = k := by omega
                  exact HT.out), hbw.trans (hb9.mono hbw.size)⟩
              case measure => simp [intOf]; omega
          · have g5 : decide (d < pd) = true := by simp; omega
            have g6 : d < pd := by omega
            rw [decide_eq_false g4, Bool.false_and] at hat
            have hF := hno hat
            have Hat := Lib.hid hat; clear hat
            have Hno := Lib.hid hno; clear hno
            have HF := Lib.hid hF; clear hF
            go_wp2
            refine wp_region_wqC (C := fun w' => Below wr.heap.size wr w' ∧ ∀ x, w'.cell? ⟨b, x, none⟩ = wr.cell? ⟨b, x, none⟩) (by kernel_rfl) (by kernel_rfl) (e1 (Below.refl _ _).drew) ?_
            (first
              | (refine WQ.take (v := ?_) (by rfl) ?_ ?_
                 rotate_left
                 focus (intro wq hq; (try dsimp only at hq); go_simp; (try (with_reducible rfl)); done))
              | (refine WQ.skip (by rfl) ?_))
            try simp only [Act.put, List.setIfInBounds_toArray, List.set_cons_zero, List.set_cons_succ]
            refine WQ.take (v := .bool true) (by rfl) (fun wq hq => ?_) ?_
            focus (go_simp; (refine (HO.out wq hq.1).mono ?_; rintro e w2 ⟨rfl, hb2⟩; exact ⟨rfl, e1 (hq.1.trans (hb2.mono hq.1.size))⟩))
            try simp only [Act.put, List.setIfInBounds_toArray, List.set_cons_zero, List.set_cons_succ]
            (first
              | (refine WQ.take (v := ?_) (by rfl) ?_ ?_
                 rotate_left
                 focus (intro wq hq; (try dsimp only at hq); go_simp; (try (with_reducible rfl)); done))
              | (refine WQ.skip (by rfl) ?_))
            try simp only [Act.put, List.setIfInBounds_toArray, List.set_cons_zero, List.set_cons_succ]
            (first
              | (refine WQ.take (v := ?_) (by rfl) ?_ ?_
                 rotate_left
                 focus (intro wq hq; (try dsimp only at hq); go_simp; (try (with_reducible rfl)); done))
              | (refine WQ.skip (by rfl) ?_))
            try simp only [Act.put, List.setIfInBounds_toArray, List.set_cons_zero, List.set_cons_succ]
            (first
              | (refine WQ.take (v := ?_) (by rfl) ?_ ?_
                 rotate_left
                 focus (intro wq hq; (try dsimp only at hq); go_simp; (try (with_reducible rfl)); done))
              | (refine WQ.skip (by rfl) ?_))
            try simp only [Act.put, List.setIfInBounds_toArray, List.set_cons_zero, List.set_cons_succ]
            (first
              | (refine WQ.take (v := ?_) (by rfl) ?_ ?_
                 rotate_left
                 focus (intro wq hq; (try dsimp only at hq); go_simp; (try (with_reducible rfl)); done))
              | (refine WQ.skip (by rfl) ?_))
            try simp only [Act.put, List.setIfInBounds_toArray, List.set_cons_zero, List.set_cons_succ]
            (first
              | (refine WQ.take (v := ?_) (by rfl) ?_ ?_
                 rotate_left
                 focus (intro wq hq; (try dsimp only at hq); go_simp; (try (with_reducible rfl)); done))
              | (refine WQ.skip (by rfl) ?_))
            try simp only [Act.put, List.setIfInBounds_toArray, List.set_cons_zero, List.set_cons_succ]
            (first
              | (refine WQ.take (v := ?_) (by rfl) ?_ ?_
                 rotate_left
                 focus (intro wq hq; (try dsimp only at hq); go_simp; (try (with_reducible rfl)); done))
              | (refine WQ.skip (by rfl) ?_))
            try simp only [Act.put, List.setIfInBounds_toArray, List.set_cons_zero, List.set_cons_succ]
            (first
              | (refine WQ.take (v := ?_) (by rfl) ?_ ?_
                 rotate_left
                 focus (intro wq hq; (try dsimp only at hq); go_simp; (try (with_reducible rfl)); done))
              | (refine WQ.skip (by rfl) ?_))
            try simp only [Act.put, List.setIfInBounds_toArray, List.set_cons_zero, List.set_cons_succ]
            (first
              | (refine WQ.take (v := ?_) (by rfl) ?_ ?_
                 rotate_left
                 focus (intro wq hq; (try dsimp only at hq); go_simp; (try (with_reducible rfl)); done))
              | (refine WQ.skip (by rfl) ?_))
            try simp only [Act.put, List.setIfInBounds_toArray, List.set_cons_zero, List.set_cons_succ]
            (first
              | (refine WQ.take (v := ?_) (by rfl) ?_ ?_
                 rotate_left
                 focus (intro wq hq; (try dsimp only at hq); go_simp; (try (with_reducible rfl)); done))
              | (refine WQ.skip (by rfl) ?_))
            try simp only [Act.put, List.setIfInBounds_toArray, List.set_cons_zero, List.set_cons_succ]
            (first
              | (refine WQ.take (v := ?_) (by rfl) ?_ ?_
                 rotate_left
                 focus (intro wq hq; (try dsimp only at hq); go_simp; (try (with_reducible rfl)); done))
              | (refine WQ.skip (by rfl) ?_))
            try simp only [Act.put, List.setIfInBounds_toArray, List.set_cons_zero, List.set_cons_succ]
            (first
              | (refine WQ.take (v := ?_) (by rfl) ?_ ?_
                 rotate_left
                 focus (intro wq hq; (try dsimp only at hq); go_simp; (try (with_reducible rfl)); done))
              | (refine WQ.skip (by rfl) ?_))
            try simp only [Act.put, List.setIfInBounds_toArray, List.set_cons_zero, List.set_cons_succ]
            (first
              | (refine WQ.take (v := ?_) (by rfl) ?_ ?_
                 rotate_left
                 focus (intro wq hq; (try dsimp only at hq); go_simp; (try (with_reducible rfl)); done))
              | (refine WQ.skip (by rfl) ?_))
            try simp only [Act.put, List.setIfInBounds_toArray, List.set_cons_zero, List.set_cons_succ]
            (first
              | (refine WQ.take (v := ?_) (by rfl) ?_ ?_
                 rotate_left
                 focus (intro wq hq; (try dsimp only at hq); go_simp; (try (with_reducible rfl)); done))
              | (refine WQ.skip (by rfl) ?_))
            try simp only [Act.put, List.setIfInBounds_toArray, List.set_cons_zero, List.set_cons_succ]
            (first
              | (refine WQ.take (v := ?_) (by rfl) ?_ ?_
                 rotate_left
                 focus (intro wq hq; (try dsimp only at hq); go_simp; (try (with_reducible rfl)); done))
              | (refine WQ.skip (by rfl) ?_))
            try simp only [Act.put, List.setIfInBounds_toArray, List.set_cons_zero, List.set_cons_succ]
            (first
              | (refine WQ.take (v := ?_) (by rfl) ?_ ?_
                 rotate_left
                 focus (intro wq hq; (try dsimp only at hq); go_simp; (try (with_reducible rfl)); done))
              | (refine WQ.skip (by rfl) ?_))
            try simp only [Act.put, List.setIfInBounds_toArray, List.set_cons_zero, List.set_cons_succ]
            (first
              | (refine WQ.take (v := ?_) (by rfl) ?_ ?_
                 rotate_left
                 focus (intro wq hq; (try dsimp only at hq); go_simp; (try (with_reducible rfl)); done))
              | (refine WQ.skip (by rfl) ?_))
            try simp only [Act.put, List.setIfInBounds_toArray, List.set_cons_zero, List.set_cons_succ]
            (first
              | (refine WQ.take (v := ?_) (by rfl) ?_ ?_
                 rotate_left
                 focus (intro wq hq; (try dsimp only at hq); go_simp; (try (with_reducible rfl)); done))
              | (refine WQ.skip (by rfl) ?_))
            try simp only [Act.put, List.setIfInBounds_toArray, List.set_cons_zero, List.set_cons_succ]
            (first
              | (refine WQ.take (v := ?_) (by rfl) ?_ ?_
                 rotate_left
                 focus (intro wq hq; (try dsimp only at hq); go_simp; (try (with_reducible rfl)); done))
              | (refine WQ.skip (by rfl) ?_))
            try simp only [Act.put, List.setIfInBounds_toArray, List.set_cons_zero, List.set_cons_succ]
            (first
              | (refine WQ.take (v := ?_) (by rfl) ?_ ?_
                 rotate_left
                 focus (intro wq hq; (try dsimp only at hq); go_simp; (try (with_reducible rfl)); done))
              | (refine WQ.skip (by rfl) ?_))
            try simp only [Act.put, List.setIfInBounds_toArray, List.set_cons_zero, List.set_cons_succ]
            (first
              | (refine WQ.take (v := ?_) (by rfl) ?_ ?_
                 rotate_left
                 focus (intro wq hq; (try dsimp only at hq); go_simp; (try (with_reducible rfl)); done))
              | (refine WQ.skip (by rfl) ?_))
            try simp only [Act.put, List.setIfInBounds_toArray, List.set_cons_zero, List.set_cons_succ]
            (first
              | (refine WQ.take (v := ?_) (by rfl) ?_ ?_
                 rotate_left
                 focus (intro wq hq; (try dsimp only at hq); go_simp; (try (with_reducible rfl)); done))
              | (refine WQ.skip (by rfl) ?_))
            try simp only [Act.put, List.setIfInBounds_toArray, List.set_cons_zero, List.set_cons_succ]
            (first
              | (refine WQ.take (v := ?_) (by rfl) ?_ ?_
                 rotate_left
                 focus (intro wq hq; (try dsimp only at hq); go_simp; (try (with_reducible rfl)); done))
              | (refine WQ.skip (by rfl) ?_))
            try simp only [Act.put, List.setIfInBounds_toArray, List.set_cons_zero, List.set_cons_succ]
            (first
              | (refine WQ.take (v := ?_) (by rfl) ?_ ?_
                 rotate_left
                 focus (intro wq hq; (try dsimp only at hq); go_simp; (try (with_reducible rfl)); done))
              | (refine WQ.skip (by rfl) ?_))
            try simp only [Act.put, List.setIfInBounds_toArray, List.set_cons_zero, List.set_cons_succ]
            (first
              | (refine WQ.take (v := ?_) (by rfl) ?_ ?_
                 rotate_left
                 focus (intro wq hq; (try dsimp only at hq); go_simp; (try (with_reducible rfl)); done))
              | (refine WQ.skip (by rfl) ?_))
            try simp only [Act.put, List.setIfInBounds_toArray, List.set_cons_zero, List.set_cons_succ]
            (first
              | (refine WQ.take (v := ?_) (by rfl) ?_ ?_
                 rotate_left
                 focus (intro wq hq; (try dsimp only at hq); go_simp; (try (with_reducible rfl)); done))
              | (refine WQ.skip (by rfl) ?_))
            try simp only [Act.put, List.setIfInBounds_toArray, List.set_cons_zero, List.set_cons_succ]
            (first
              | (refine WQ.take (v := ?_) (by rfl) ?_ ?_
                 rotate_left
                 focus (intro wq hq; (try dsimp only at hq); go_simp; (try (with_reducible rfl)); done))
              | (refine WQ.skip (by rfl) ?_))
            try simp only [Act.put, List.setIfInBounds_toArray, List.set_cons_zero, List.set_cons_succ]
            (first
              | (refine WQ.take (v := ?_) (by rfl) ?_ ?_
                 rotate_left
                 focus (intro wq hq; (try dsimp only at hq); go_simp; (try (with_reducible rfl)); done))
              | (refine WQ.skip (by rfl) ?_))
            try simp only [Act.put, List.setIfInBounds_toArray, List.set_cons_zero, List.set_cons_succ]
            (first
              | (refine WQ.take (v := ?_) (by rfl) ?_ ?_
                 rotate_left
                 focus (intro wq hq; (try dsimp only at hq); go_simp; (try (with_reducible rfl)); done))
              | (refine WQ.skip (by rfl) ?_))
            try simp only [Act.put, List.setIfInBounds_toArray, List.set_cons_zero, List.set_cons_succ]
            (first
              | (refine WQ.take (v := ?_) (by rfl) ?_ ?_
                 rotate_left
                 focus (intro wq hq; (try dsimp only at hq); go_simp; (try (with_reducible rfl)); done))
              | (refine WQ.skip (by rfl) ?_))
            try simp only [Act.put, List.setIfInBounds_toArray, List.set_cons_zero, List.set_cons_succ]
            (first
              | (refine WQ.take (v := ?_) (by rfl) ?_ ?_
                 rotate_left
                 focus (intro wq hq; (try dsimp only at hq); go_simp; (try (with_reducible rfl)); done))
              | (refine WQ.skip (by rfl) ?_))
            try simp only [Act.put, List.setIfInBounds_toArray, List.set_cons_zero, List.set_cons_succ]
            (first
              | (refine WQ.take (v := ?_) (by rfl) ?_ ?_
                 rotate_left
                 focus (intro wq hq; (try dsimp only at hq); go_simp; (try (with_reducible rfl)); done))
              | (refine WQ.skip (by rfl) ?_))
            try simp only [Act.put, List.setIfInBounds_toArray, List.set_cons_zero, List.set_cons_succ]
            (first
              | (refine WQ.take (v := ?_) (by rfl) ?_ ?_
                 rotate_left
                 focus (intro wq hq; (try dsimp only at hq); go_simp; (try (with_reducible rfl)); done))
              | (refine WQ.skip (by rfl) ?_))
            try simp only [Act.put, List.setIfInBounds_toArray, List.set_cons_zero, List.set_cons_succ]
            (first
              | (refine WQ.take (v := ?_) (by rfl) ?_ ?_
                 rotate_left
                 focus (intro wq hq; (try dsimp only at hq); go_simp; (try (with_reducible rfl)); done))
              | (refine WQ.skip (by rfl) ?_))
            try simp only [Act.put, List.setIfInBounds_toArray, List.set_cons_zero, List.set_cons_succ]
            (first
              | (refine WQ.take (v := ?_) (by rfl) ?_ ?_
                 rotate_left
                 focus (intro wq hq; (try dsimp only at hq); go_simp; (try (with_reducible rfl)); done))
              | (refine WQ.skip (by rfl) ?_))
            try simp only [Act.put, List.setIfInBounds_toArray, List.set_cons_zero, List.set_cons_succ]
            (first
              | (refine WQ.take (v := ?_) (by rfl) ?_ ?_
                 rotate_left
                 focus (intro wq hq; (try dsimp only at hq); go_simp; (try (with_reducible rfl)); done))
              | (refine WQ.skip (by rfl) ?_))
            try simp only [Act.put, List.setIfInBounds_toArray, List.set_cons_zero, List.set_cons_succ]
            (first
              | (refine WQ.take (v := ?_) (by rfl) ?_ ?_
                 rotate_left
                 focus (intro wq hq; (try dsimp only at hq); go_simp; (try (with_reducible rfl)); done))
              | (refine WQ.skip (by rfl) ?_))
            try simp only [Act.put, List.setIfInBounds_toArray, List.set_cons_zero, List.set_cons_succ]
            (first
              | (refine WQ.take (v := ?_) (by rfl) ?_ ?_
                 rotate_left
                 focus (intro wq hq; (try dsimp only at hq); go_simp; (try (with_reducible rfl)); done))
              | (refine WQ.skip (by rfl) ?_))
            try simp only [Act.put, List.setIfInBounds_toArray, List.set_cons_zero, List.set_cons_succ]
            (first
              | (refine WQ.take (v := ?_) (by rfl) ?_ ?_
                 rotate_left
                 focus (intro wq hq; (try dsimp only at hq); go_simp; (try (with_reducible rfl)); done))
              | (refine WQ.skip (by rfl) ?_))
            try simp only [Act.put, List.setIfInBounds_toArray, List.set_cons_zero, List.set_cons_succ]
            (first
              | (refine WQ.take (v := ?_) (by rfl) ?_ ?_
                 rotate_left
                 focus (intro wq hq; (try dsimp only at hq); go_simp; (try (with_reducible rfl)); done))
              | (refine WQ.skip (by rfl) ?_))
            try simp only [Act.put, List.setIfInBounds_toArray, List.set_cons_zero, List.set_cons_succ]
            refine WQ.nil ?_
            rintro w9 ⟨hb9, _⟩
            go_wp2_with fail
            go_ret
            exact ⟨ret_eq (bool_eq HF.out.symm), hbw.trans (hb9.mono hbw.size)⟩
        · have g2 : decide (m ≤ pm) = true := by simp; omega
          have g3 : m ≤ pm := by omega
          rw [decide_eq_false g1, Bool.false_and, Bool.false_and] at hat
          have hF := hno hat
          have Hat := Lib.hid hat; clear hat
          have Hno := Lib.hid hno; clear hno
          have HF := Lib.hid hF; clear hF
          go_wp2
          refine wp_region_wqC (C := fun w' => Below wr.heap.size wr w' ∧ ∀ x, w'.cell? ⟨b, x, none⟩ = wr.cell? ⟨b, x, none⟩) (by kernel_rfl) (by kernel_rfl) (e1 (Below.refl _ _).drew) ?_
          (first
            | (refine WQ.take (v := ?_) (by rfl) ?_ ?_
               rotate_left
               focus (intro wq hq; (try dsimp only at hq); go_simp; (try (with_reducible rfl)); done))
            | (refine WQ.skip (by rfl) ?_))
          try simp only [Act.put, List.setIfInBounds_toArray, List.set_cons_zero, List.set_cons_succ]
          refine WQ.take (v := .bool true) (by rfl) (fun wq hq => ?_) ?_
          focus (go_simp; (refine (HO.out wq hq.1).mono ?_; rintro e w2 ⟨rfl, hb2⟩; exact ⟨rfl, e1 (hq.1.trans (hb2.mono hq.1.size))⟩))
          try simp only [Act.put, List.setIfInBounds_toArray, List.set_cons_zero, List.set_cons_succ]
          (first
            | (refine WQ.take (v := ?_) (by rfl) ?_ ?_
               rotate_left
               focus (intro wq hq; (try dsimp only at hq); go_simp; (try (with_reducible rfl)); done))
            | (refine WQ.skip (by rfl) ?_))
          try simp only [Act.put, List.setIfInBounds_toArray, List.set_cons_zero, List.set_cons_succ]
          (first
            | (refine WQ.take (v := ?_) (by rfl) ?_ ?_
               rotate_left
               focus (intro wq hq; (try dsimp only at hq); go_simp; (try (with_reducible rfl)); done))
            | (refine WQ.skip (by rfl) ?_))
          try simp only [Act.put, List.setIfInBounds_toArray, List.set_cons_zero, List.set_cons_succ]
          (first
            | (refine WQ.take (v := ?_) (by rfl) ?_ ?_
               rotate_left
               focus (intro wq hq; (try dsimp only at hq); go_simp; (try (with_reducible rfl)); done))
            | (refine WQ.skip (by rfl) ?_))
          try simp only [Act.put, List.setIfInBounds_toArray, List.set_cons_zero, List.set_cons_succ]
          (first
            | (refine WQ.take (v := ?_) (by rfl) ?_ ?_
               rotate_left
               focus (intro wq hq; (try dsimp only at hq); go_simp; (try (with_reducible rfl)); done))
            | (refine WQ.skip (by rfl) ?_))
          try simp only [Act.put, List.setIfInBounds_toArray, List.set_cons_zero, List.set_cons_succ]
          (first
            | (refine WQ.take (v := ?_) (by rfl) ?_ ?_
               rotate_left
               focus (intro wq hq; (try dsimp only at hq); go_simp; (try (with_reducible rfl)); done))
            | (refine WQ.skip (by rfl) ?_))
          try simp only [Act.put, List.setIfInBounds_toArray, List.set_cons_zero, List.set_cons_succ]
          (first
            | (refine WQ.take (v := ?_) (by rfl) ?_ ?_
               rotate_left
               focus (intro wq hq; (try dsimp only at hq); go_simp; (try (with_reducible rfl)); done))
            | (refine WQ.skip (by rfl) ?_))
          try simp only [Act.put, List.setIfInBounds_toArray, List.set_cons_zero, List.set_cons_succ]
          (first
            | (refine WQ.take (v := ?_) (by rfl) ?_ ?_
               rotate_left
               focus (intro wq hq; (try dsimp only at hq); go_simp; (try (with_reducible rfl)); done))
            | (refine WQ.skip (by rfl) ?_))
          try simp only [Act.put, List.setIfInBounds_toArray, List.set_cons_zero, List.set_cons_succ]
          (first
            | (refine WQ.take (v := ?_) (by rfl) ?_ ?_
               rotate_left
               focus (intro wq hq; (try dsimp only at hq); go_simp; (try (with_reducible rfl)); done))
            | (refine WQ.skip (by rfl) ?_))
          try simp only [Act.put, List.setIfInBounds_toArray, List.set_cons_zero, List.set_cons_succ]
          (first
            | (refine WQ.take (v := ?_) (by rfl) ?_ ?_
               rotate_left
               focus (intro wq hq; (try dsimp only at hq); go_simp; (try (with_reducible rfl)); done))
            | (refine WQ.skip (by rfl) ?_))
          try simp only [Act.put, List.setIfInBounds_toArray, List.set_cons_zero, List.set_cons_succ]
          (first
            | (refine WQ.take (v := ?_) (by rfl) ?_ ?_
               rotate_left
               focus (intro wq hq; (try dsimp only at hq); go_simp; (try (with_reducible rfl)); done))
            | (refine WQ.skip (by rfl) ?_))
          try simp only [Act.put, List.setIfInBounds_toArray, List.set_cons_zero, List.set_cons_succ]
          (first
            | (refine WQ.take (v := ?_) (by rfl) ?_ ?_
               rotate_left
               focus (intro wq hq; (try dsimp only at hq); go_simp; (try (with_reducible rfl)); done))
            | (refine WQ.skip (by rfl) ?_))
          try simp only [Act.put, List.setIfInBounds_toArray, List.set_cons_zero, List.set_cons_succ]
          (first
            | (refine WQ.take (v := ?_) (by rfl) ?_ ?_
               rotate_left
               focus (intro wq hq; (try dsimp only at hq); go_simp; (try (with_reducible rfl)); done))
            | (refine WQ.skip (by rfl) ?_))
          try simp only [Act.put, List.setIfInBounds_toArray, List.set_cons_zero, List.set_cons_succ]
          (first
            | (refine WQ.take (v := ?_) (by rfl) ?_ ?_
               rotate_left
               focus (intro wq hq; (try dsimp only at hq); go_simp; (try (with_reducible rfl)); done))
            | (refine WQ.skip (by rfl) ?_))
          try simp only [Act.put, List.setIfInBounds_toArray, List.set_cons_zero, List.set_cons_succ]
          (first
            | (refine WQ.take (v := ?_) (by rfl) ?_ ?_
               rotate_left
               focus (intro wq hq; (try dsimp only at hq); go_simp; (try (with_reducible rfl)); done))
            | (refine WQ.skip (by rfl) ?_))
          try simp only [Act.put, List.setIfInBounds_toArray, List.set_cons_zero, List.set_cons_succ]
          (first
            | (refine WQ.take (v := ?_) (by rfl) ?_ ?_
               rotate_left
               focus (intro wq hq; (try dsimp only at hq); go_simp; (try (with_reducible rfl)); done))
            | (refine WQ.skip (by rfl) ?_))
          try simp only [Act.put, List.setIfInBounds_toArray, List.set_cons_zero, List.set_cons_succ]
          (first
            | (refine WQ.take (v := ?_) (by rfl) ?_ ?_
               rotate_left
               focus (intro wq hq; (try dsimp only at hq); go_simp; (try (with_reducible rfl)); done))
            | (refine WQ.skip (by rfl) ?_))
          try simp only [Act.put, List.setIfInBounds_toArray, List.set_cons_zero, List.set_cons_succ]
          (first
            | (refine WQ.take (v := ?_) (by rfl) ?_ ?_
               rotate_left
               focus (intro wq hq; (try dsimp only at hq); go_simp; (try (with_reducible rfl)); done))
            | (refine WQ.skip (by rfl) ?_))
          try simp only [Act.put, List.setIfInBounds_toArray, List.set_cons_zero, List.set_cons_succ]
          (first
            | (refine WQ.take (v := ?_) (by rfl) ?_ ?_
               rotate_left
               focus (intro wq hq; (try dsimp only at hq); go_simp; (try (with_reducible rfl)); done))
            | (refine WQ.skip (by rfl) ?_))
          try simp only [Act.put, List.setIfInBounds_toArray, List.set_cons_zero, List.set_cons_succ]
          (first
            | (refine WQ.take (v := ?_) (by rfl) ?_ ?_
               rotate_left
               focus (intro wq hq; (try dsimp only at hq); go_simp; (try (with_reducible rfl)); done))
            | (refine WQ.skip (by rfl) ?_))
          try simp only [Act.put, List.setIfInBounds_toArray, List.set_cons_zero, List.set_cons_succ]
          (first
            | (refine WQ.take (v := ?_) (by rfl) ?_ ?_
               rotate_left
               focus (intro wq hq; (try dsimp only at hq); go_simp; (try (with_reducible rfl)); done))
            | (refine WQ.skip (by rfl) ?_))
          try simp only [Act.put, List.setIfInBounds_toArray, List.set_cons_zero, List.set_cons_succ]
          (first
            | (refine WQ.take (v := ?_) (by rfl) ?_ ?_
               rotate_left
               focus (intro wq hq; (try dsimp only at hq); go_simp; (try (with_reducible rfl)); done))
            | (refine WQ.skip (by rfl) ?_))
          try simp only [Act.put, List.setIfInBounds_toArray, List.set_cons_zero, List.set_cons_succ]
          (first
            | (refine WQ.take (v := ?_) (by rfl) ?_ ?_
               rotate_left
               focus (intro wq hq; (try dsimp only at hq); go_simp; (try (with_reducible rfl)); done))
            | (refine WQ.skip (by rfl) ?_))
          try simp only [Act.put, List.setIfInBounds_toArray, List.set_cons_zero, List.set_cons_succ]
          (first
            | (refine WQ.take (v := ?_) (by rfl) ?_ ?_
               rotate_left
               focus (intro wq hq; (try dsimp only at hq); go_simp; (try (with_reducible rfl)); done))
            | (refine WQ.skip (by rfl) ?_))
          try simp only [Act.put, List.setIfInBounds_toArray, List.set_cons_zero, List.set_cons_succ]
          (first
            | (refine WQ.take (v := ?_) (by rfl) ?_ ?_
               rotate_left
               focus (intro wq hq; (try dsimp only at hq); go_simp; (try (with_reducible rfl)); done))
            | (refine WQ.skip (by rfl) ?_))
          try simp only [Act.put, List.setIfInBounds_toArray, List.set_cons_zero, List.set_cons_succ]
          (first
            | (refine WQ.take (v := ?_) (by rfl) ?_ ?_
               rotate_left
               focus (intro wq hq; (try dsimp only at hq); go_simp; (try (with_reducible rfl)); done))
            | (refine WQ.skip (by rfl) ?_))
          try simp only [Act.put, List.setIfInBounds_toArray, List.set_cons_zero, List.set_cons_succ]
          (first
            | (refine WQ.take (v := ?_) (by rfl) ?_ ?_
               rotate_left
               focus (intro wq hq; (try dsimp only at hq); go_simp; (try (with_reducible rfl)); done))
            | (refine WQ.skip (by rfl) ?_))
          try simp only [Act.put, List.setIfInBounds_toArray, List.set_cons_zero, List.set_cons_succ]
          (first
            | (refine WQ.take (v := ?_) (by rfl) ?_ ?_
               rotate_left
               focus (intro wq hq; (try dsimp only at hq); go_simp; (try (with_reducible rfl)); done))
            | (refine WQ.skip (by rfl) ?_))
          try simp only [Act.put, List.setIfInBounds_toArray, List.set_cons_zero, List.set_cons_succ]
          (first
            | (refine WQ.take (v := ?_) (by rfl) ?_ ?_
               rotate_left
               focus (intro wq hq; (try dsimp only at hq); go_simp; (try (with_reducible rfl)); done))
            | (refine WQ.skip (by rfl) ?_))
          try simp only [Act.put, List.setIfInBounds_toArray, List.set_cons_zero, List.set_cons_succ]
          (first
            | (refine WQ.take (v := ?_) (by rfl) ?_ ?_
               rotate_left
               focus (intro wq hq; (try dsimp only at hq); go_simp; (try (with_reducible rfl)); done))
            | (refine WQ.skip (by rfl) ?_))
          try simp only [Act.put, List.setIfInBounds_toArray, List.set_cons_zero, List.set_cons_succ]
          (first
            | (refine WQ.take (v := ?_) (by rfl) ?_ ?_
               rotate_left
               focus (intro wq hq; (try dsimp only at hq); go_simp; (try (with_reducible rfl)); done))
            | (refine WQ.skip (by rfl) ?_))
          try simp only [Act.put, List.setIfInBounds_toArray, List.set_cons_zero, List.set_cons_succ]
          (first
            | (refine WQ.take (v := ?_) (by rfl) ?_ ?_
               rotate_left
               focus (intro wq hq; (try dsimp only at hq); go_simp; (try (with_reducible rfl)); done))
            | (refine WQ.skip (by rfl) ?_))
          try simp only [Act.put, List.setIfInBounds_toArray, List.set_cons_zero, List.set_cons_succ]
          (first
            | (refine WQ.take (v := ?_) (by rfl) ?_ ?_
               rotate_left
               focus (intro wq hq; (try dsimp only at hq); go_simp; (try (with_reducible rfl)); done))
            | (refine WQ.skip (by rfl) ?_))
          try simp only [Act.put, List.setIfInBounds_toArray, List.set_cons_zero, List.set_cons_succ]
          (first
            | (refine WQ.take (v := ?_) (by rfl) ?_ ?_
               rotate_left
               focus (intro wq hq; (try dsimp only at hq); go_simp; (try (with_reducible rfl)); done))
            | (refine WQ.skip (by rfl) ?_))
          try simp only [Act.put, List.setIfInBounds_toArray, List.set_cons_zero, List.set_cons_succ]
          (first
            | (refine WQ.take (v := ?_) (by rfl) ?_ ?_
               rotate_left
               focus (intro wq hq; (try dsimp only at hq); go_simp; (try (with_reducible rfl)); done))
            | (refine WQ.skip (by rfl) ?_))
          try simp only [Act.put, List.setIfInBounds_toArray, List.set_cons_zero, List.set_cons_succ]
          (first
            | (refine WQ.take (v := ?_) (by rfl) ?_ ?_
               rotate_left
               focus (intro wq hq; (try dsimp only at hq); go_simp; (try (with_reducible rfl)); done))
            | (refine WQ.skip (by rfl) ?_))
          try simp only [Act.put, List.setIfInBounds_toArray, List.set_cons_zero, List.set_cons_succ]
          (first
            | (refine WQ.take (v := ?_) (by rfl) ?_ ?_
               rotate_left
               focus (intro wq hq; (try dsimp only at hq); go_simp; (try (with_reducible rfl)); done))
            | (refine WQ.skip (by rfl) ?_))
          try simp only [Act.put, List.setIfInBounds_toArray, List.set_cons_zero, List.set_cons_succ]
          (first
            | (refine WQ.take (v := ?_) (by rfl) ?_ ?_
               rotate_left
               focus (intro wq hq; (try dsimp only at hq); go_simp; (try (with_reducible rfl)); done))
            | (refine WQ.skip (by rfl) ?_))
          try simp only [Act.put, List.setIfInBounds_toArray, List.set_cons_zero, List.set_cons_succ]
          (first
            | (refine WQ.take (v := ?_) (by rfl) ?_ ?_
               rotate_left
               focus (intro wq hq; (try dsimp only at hq); go_simp; (try (with_reducible rfl)); done))
            | (refine WQ.skip (by rfl) ?_))
          try simp only [Act.put, List.setIfInBounds_toArray, List.set_cons_zero, List.set_cons_succ]
          (first
            | (refine WQ.take (v := ?_) (by rfl) ?_ ?_
               rotate_left
               focus (intro wq hq; (try dsimp only at hq); go_simp; (try (with_reducible rfl)); done))
            | (refine WQ.skip (by rfl) ?_))
          try simp only [Act.put, List.setIfInBounds_toArray, List.set_cons_zero, List.set_cons_succ]
          refine WQ.nil ?_
          rintro w9 ⟨hb9, _⟩
          go_wp2_with fail
          go_ret
          exact ⟨ret_eq (bool_eq HF.out.symm), hbw.trans (hb9.mono hbw.size)⟩
    · obtain rfl : k = n := by omega
      have hRe : R = decide ((k : Int) ≤ 32) := by
        rw [← HR.out, ntsB_end (by rw [List.length_map, Hl.out]; exact Hs.out), List.length_map, Hl.out]
        rw [Bool.eq_iff_iff]; simp only [decide_eq_true_eq]; omega
      have HRe := Lib.hid hRe; clear hRe
      go_wp2_with fail
      go_ret
      exact ⟨ret_eq (bool_eq HRe.out.symm), hbw⟩
end Go.Proofs.YtafojijhfbnehaaGreatDoor
/- Lists of notices: the program's canCancel. -/
namespace Go.Proofs.YtafojijhfbnehaaGreatDoor
open Go.RowKit
theorem find_idx {α : Type} (q : α → Bool) : ∀ (l : List α), l.find? q = (l.findIdx? q).elim none (fun k => l[k]?)
  | [] => rfl
  | a :: r => by
    rw [List.find?_cons, List.findIdx?_cons]
    cases h : q a
    · simp only [Bool.false_eq_true, if_false]
      rw [find_idx q r]
      cases List.findIdx? q r <;> rfl
    · rfl
theorem any_idx {α : Type} (q : α → Bool) (l : List α) : l.any q = (l.findIdx? q).isSome := by rw [List.findIdx?_isSome]
set_option maxRecDepth 100000 in
set_option maxHeartbeats 1000000 in
theorem cc1_c (y : NtX) (z : AidG) (bn : Nat) (t : Int) (w : World) (hc : w.cell? ⟨bn, 3, none⟩ = some (.int .i64 t)) (hb : bn < w.heap.size) :
    Calls Tryz.prog 118 #[ntV y z, .pointer (some ⟨bn, 0, none⟩)] w fun e w' => e = .returned (.bool (y.m == t)) ∧ Below w.heap.size w w' := by
  have hb0 : Below w.heap.size w (w.alloc (ntO y z 55)) := by (repeat (first | (with_reducible assumption) | (with_reducible exact Below.refl _ _) | exact Nat.le_refl _ | exact Below.size (by with_reducible assumption) | (with_reducible refine Below.drew ?_) | (with_reducible refine below_drewN ?_ _) | (with_reducible refine Below.alloc ?_ ?_ _) | (with_reducible refine Below.setCell ?_ ?_ _) | (with_reducible refine le_alloc ?_ _) | (with_reducible refine le_set ?_ _ _) | (with_reducible refine le_drew ?_) | (with_reducible refine le_drewN ?_ _) | omega | (dsimp only; omega)))
  obtain ⟨k0, _, _, _, _⟩ := (nt_box w y z 55).zero
  have c3 := (keepC hb0 bn hb 3).trans hc
  obtain ⟨w0, hw⟩ : ∃ w0, w.alloc (ntO y z 55) = w0 := ⟨_, rfl⟩
  rw [hw] at hb0 k0 c3
  clear hc
  go_enter Tryz.func118, Tryz.ntmps118
  go_wp2_with fail
  try rw [hw]
  clear hw
  go_wp2_with fail
  go_ret
  exact ⟨rfl, hb0⟩
set_option maxRecDepth 100000 in
set_option maxHeartbeats 1000000 in
theorem cc2_c (y : NtX) (z : AidG) (bn : Nat) (t : Int) (w : World) (hc : w.cell? ⟨bn, 3, none⟩ = some (.int .i64 t)) (hb : bn < w.heap.size) :
    Calls Tryz.prog 120 #[ntV y z, .pointer (some ⟨bn, 0, none⟩)] w fun e w' => e = .returned (.bool ((y.k == 4) && (y.t == t))) ∧ Below w.heap.size w w' := by
  have hb0 : Below w.heap.size w (w.alloc (ntO y z 55)) := by (repeat (first | (with_reducible assumption) | (with_reducible exact Below.refl _ _) | exact Nat.le_refl _ | exact Below.size (by with_reducible assumption) | (with_reducible refine Below.drew ?_) | (with_reducible refine below_drewN ?_ _) | (with_reducible refine Below.alloc ?_ ?_ _) | (with_reducible refine Below.setCell ?_ ?_ _) | (with_reducible refine le_alloc ?_ _) | (with_reducible refine le_set ?_ _ _) | (with_reducible refine le_drew ?_) | (with_reducible refine le_drewN ?_ _) | omega | (dsimp only; omega)))
  obtain ⟨_, _, k2, k3, _⟩ := (nt_box w y z 55).zero
  have c3 := (keepC hb0 bn hb 3).trans hc
  obtain ⟨w0, hw⟩ : ∃ w0, w.alloc (ntO y z 55) = w0 := ⟨_, rfl⟩
  rw [hw] at hb0 k2 k3 c3
  clear hc
  cases h1 : (y.k == 4)
  all_goals
    go_enter Tryz.func120, Tryz.ntmps120
    go_wp2_with fail
    try rw [hw]
    clear hw
    go_wp2_with fail
    go_ret
    exact ⟨rfl, hb0⟩
abbrev clF (f : FuncId) (bn : Nat) : Value := .func (.func f) #[] #[.pointer (some ⟨bn, 0, none⟩)]
set_option maxRecDepth 100000 in
set_option maxHeartbeats 2000000 in
theorem ix1_c (A : Option Addr) (n c : Nat) (zs : List NtG) (bn : Nat) (q : NtX → Bool) (w : World) (h : NtSl w A n zs) (hm : n ≤ 1048576)
    (hC : ∀ w', Below w.heap.size w w' → ∀ y z, Calls Tryz.prog 118 #[ntV y z, .pointer (some ⟨bn, 0, none⟩)] w' fun e w'' => e = .returned (.bool (q y)) ∧ Below w'.heap.size w' w'') :
    Calls Tryz.prog 117 #[.slice A n c, clF 118 bn] w fun e w' => e = .returned (.int .i64 (((xsOf zs).findIdx? q).elim (-1) (fun k : Nat => (k : Int)))) ∧ Below w.heap.size w w' := by
  have hl := h.len
  obtain ⟨R, hR⟩ : ∃ R : Int, ((xsOf zs).findIdx? q).elim (-1) (fun k : Nat => (k : Int)) = R := ⟨_, rfl⟩
  rw [hR]
  have HC := Lib.hid hC; clear hC
  have Hl := Lib.hid hl; clear hl
  have HR := Lib.hid hR; clear hR
  go_enter Tryz.func117, Tryz.ntmps117
  go_wp2
  go_loopw [5, 8] (fun _ i wr => ∃ k : Nat, k ≤ n ∧ i = .int .i64 k ∧ Hid (∀ (j : Nat) (y : NtX), j < k → (xsOf zs)[j]? = some y → q y = false) ∧ Below w.heap.size w wr) (fun _ i _ => n - (intOf i).toNat)
  case atStart => exact ⟨0, Nat.zero_le _, rfl, Lib.hid (fun j y hj => absurd hj (by omega)), Below.refl _ _⟩
  case round =>
    obtain ⟨k, hk, rfl, Hq, hbw⟩ := hrel
    have k0 : (0 : Int) ≤ (k : Int) := by omega
    by_cases hlt : k < n
    · have k1 : (k : Int) < (n : Int) := by omega
      obtain ⟨b, off, g, rfl, hb, hx, _, hp⟩ := (h.next hbw).getR k hlt
      have hc := HC.out wr hbw g.x g.z
      have hxk : (xsOf zs)[k]? = some g.x := by rw [List.getElem?_map, hx]; rfl
      have Hx := Lib.hid hx; clear hx
      have Hxk := Lib.hid hxk; clear hxk
      have HP := Lib.hid hp; clear hp
      cases hv : q g.x
      all_goals
        rw [hv] at hc
        have HCk := Lib.hid hc; clear hc
        have Hv := Lib.hid hv; clear hv
        go_wp2_with (refine wpList_load_mid rfl _ _ rfl b (off + k * 20) rfl (NtG.cells g) _ (HP.out) Tryz.underlying55 rfl (by kernel_rfl) ?_)
        refine HCk.out.mono ?_
        rintro e w2 ⟨rfl, hb2⟩
        go_wp2_with fail
      · go_roundw
        case rel =>
          refine ⟨k + 1, by omega, by go_num, Lib.hid (fun j y hj hy => ?_), hbw.trans (hb2.mono hbw.size)⟩
          rcases Nat.lt_or_ge j k with h2 | h2
          · exact Hq.out j y h2 hy
          · obtain rfl : j = k := by omega
            rw [Hxk.out] at hy
            obtain rfl := Option.some.inj hy
            exact Hv.out
        case measure => simp [intOf]; omega
      · have hRk : R = (k : Int) := by
          have : (xsOf zs).findIdx? q = some k := by
            rw [List.findIdx?_eq_some_iff_getElem]
            obtain ⟨hkl, hke⟩ := List.getElem?_eq_some_iff.1 Hxk.out
            refine ⟨hkl, by rw [hke]; exact Hv.out, fun j hj => ?_⟩
            rw [Hq.out j _ hj (List.getElem?_eq_getElem _)]; decide
          rw [← HR.out, this]; rfl
        have HRk := Lib.hid hRk; clear hRk
        go_ret
        exact ⟨ret_eq (int_eq HRk.out.symm), hbw.trans (hb2.mono hbw.size)⟩
    · obtain rfl : k = n := by omega
      have hRn : R = -1 := by
        have : (xsOf zs).findIdx? q = none := by
          rw [List.findIdx?_eq_none_iff]
          intro y hy
          obtain ⟨j, hj⟩ := List.getElem?_of_mem hy
          have := Hq.out j y (by have := (List.getElem?_eq_some_iff.1 hj).1; rw [List.length_map, Hl.out] at this; exact this) hj
          rw [this]
        rw [← HR.out, this]; rfl
      have HRn := Lib.hid hRn; clear hRn
      go_wp2_with fail
      go_ret
      exact ⟨ret_eq (int_eq HRn.out.symm), hbw⟩
set_option maxRecDepth 100000 in
set_option maxHeartbeats 2000000 in
theorem ix2_c (A : Option Addr) (n c : Nat) (zs : List NtG) (bn : Nat) (q : NtX → Bool) (w : World) (h : NtSl w A n zs) (hm : n ≤ 1048576)
    (hC : ∀ w', Below w.heap.size w w' → ∀ y z, Calls Tryz.prog 120 #[ntV y z, .pointer (some ⟨bn, 0, none⟩)] w' fun e w'' => e = .returned (.bool (q y)) ∧ Below w'.heap.size w' w'') :
    Calls Tryz.prog 117 #[.slice A n c, clF 120 bn] w fun e w' => e = .returned (.int .i64 (((xsOf zs).findIdx? q).elim (-1) (fun k : Nat => (k : Int)))) ∧ Below w.heap.size w w' := by
  have hl := h.len
  obtain ⟨R, hR⟩ : ∃ R : Int, ((xsOf zs).findIdx? q).elim (-1) (fun k : Nat => (k : Int)) = R := ⟨_, rfl⟩
  rw [hR]
  have HC := Lib.hid hC; clear hC
  have Hl := Lib.hid hl; clear hl
  have HR := Lib.hid hR; clear hR
  go_enter Tryz.func117, Tryz.ntmps117
  go_wp2
  go_loopw [5, 8] (fun _ i wr => ∃ k : Nat, k ≤ n ∧ i = .int .i64 k ∧ Hid (∀ (j : Nat) (y : NtX), j < k → (xsOf zs)[j]? = some y → q y = false) ∧ Below w.heap.size w wr) (fun _ i _ => n - (intOf i).toNat)
  case atStart => exact ⟨0, Nat.zero_le _, rfl, Lib.hid (fun j y hj => absurd hj (by omega)), Below.refl _ _⟩
  case round =>
    obtain ⟨k, hk, rfl, Hq, hbw⟩ := hrel
    have k0 : (0 : Int) ≤ (k : Int) := by omega
    by_cases hlt : k < n
    · have k1 : (k : Int) < (n : Int) := by omega
      obtain ⟨b, off, g, rfl, hb, hx, _, hp⟩ := (h.next hbw).getR k hlt
      have hc := HC.out wr hbw g.x g.z
      have hxk : (xsOf zs)[k]? = some g.x := by rw [List.getElem?_map, hx]; rfl
      have Hx := Lib.hid hx; clear hx
      have Hxk := Lib.hid hxk; clear hxk
      have HP := Lib.hid hp; clear hp
      cases hv : q g.x
      all_goals
        rw [hv] at hc
        have HCk := Lib.hid hc; clear hc
        have Hv := Lib.hid hv; clear hv
        go_wp2_with (refine wpList_load_mid rfl _ _ rfl b (off + k * 20) rfl (NtG.cells g) _ (HP.out) Tryz.underlying55 rfl (by kernel_rfl) ?_)
        refine HCk.out.mono ?_
        rintro e w2 ⟨rfl, hb2⟩
        go_wp2_with fail
      · go_roundw
        case rel =>
          refine ⟨k + 1, by omega, by go_num, Lib.hid (fun j y hj hy => ?_), hbw.trans (hb2.mono hbw.size)⟩
          rcases Nat.lt_or_ge j k with h2 | h2
          · exact Hq.out j y h2 hy
          · obtain rfl : j = k := by omega
            rw [Hxk.out] at hy
            obtain rfl := Option.some.inj hy
            exact Hv.out
        case measure => simp [intOf]; omega
      · have hRk : R = (k : Int) := by
          have : (xsOf zs).findIdx? q = some k := by
            rw [List.findIdx?_eq_some_iff_getElem]
            obtain ⟨hkl, hke⟩ := List.getElem?_eq_some_iff.1 Hxk.out
            refine ⟨hkl, by rw [hke]; exact Hv.out, fun j hj => ?_⟩
            rw [Hq.out j _ hj (List.getElem?_eq_getElem _)]; decide
          rw [← HR.out, this]; rfl
        have HRk := Lib.hid hRk; clear hRk
        go_ret
        exact ⟨ret_eq (int_eq HRk.out.symm), hbw.trans (hb2.mono hbw.size)⟩
    · obtain rfl : k = n := by omega
      have hRn : R = -1 := by
        have : (xsOf zs).findIdx? q = none := by
          rw [List.findIdx?_eq_none_iff]
          intro y hy
          obtain ⟨j, hj⟩ := List.getElem?_of_mem hy
          have := Hq.out j y (by have := (List.getElem?_eq_some_iff.1 hj).1; rw [List.length_map, Hl.out] at this; exact this) hj
          rw [this]
        rw [← HR.out, this]; rfl
      have HRn := Lib.hid hRn; clear hRn
      go_wp2_with fail
      go_ret
      exact ⟨ret_eq (int_eq HRn.out.symm), hbw⟩
set_option maxRecDepth 100000 in
set_option maxHeartbeats 1000000 in
theorem hasF_c (A : Option Addr) (n c : Nat) (zs : List NtG) (bn : Nat) (q : NtX → Bool) (w : World) (h : NtSl w A n zs) (hm : n ≤ 1048576)
    (hC : ∀ w', Below w.heap.size w w' → ∀ y z, Calls Tryz.prog 120 #[ntV y z, .pointer (some ⟨bn, 0, none⟩)] w' fun e w'' => e = .returned (.bool (q y)) ∧ Below w'.heap.size w' w'') :
    Calls Tryz.prog 119 #[.slice A n c, clF 120 bn] w fun e w' => e = .returned (.bool ((xsOf zs).any q)) ∧ Below w.heap.size w w' := by
  have hI := ix2_c A n c zs bn q w h hm hC
  rw [any_idx]
  clear hC
  cases hF : (xsOf zs).findIdx? q with
  | none =>
    rw [hF] at hI
    have HI := Lib.hid hI; clear hI
    have HF := Lib.hid hF; clear hF
    go_enter Tryz.func119, Tryz.ntmps119
    go_wp2_with fail
    refine HI.out.mono ?_
    rintro e w1 ⟨rfl, hb1⟩
    simp only [Option.elim_none]
    go_wp2_with fail
    go_ret
    exact ⟨rfl, hb1⟩
  | some k =>
    rw [hF] at hI
    have k0 : (0 : Int) ≤ (k : Int) := by omega
    have HI := Lib.hid hI; clear hI
    have HF := Lib.hid hF; clear hF
    go_enter Tryz.func119, Tryz.ntmps119
    go_wp2_with fail
    refine HI.out.mono ?_
    rintro e w1 ⟨rfl, hb1⟩
    simp only [Option.elim_some]
    go_wp2_with fail
    go_ret
    exact ⟨ret_eq (bool_eq (by simp)), hb1⟩
set_option maxRecDepth 100000 in
set_option maxHeartbeats 2000000 in
theorem canCancel_c (A : Option Addr) (n c : Nat) (zs : List NtG) (x : NtX) (z : AidG) (w : World) (h : NtSl w A n zs) (hm : n ≤ 1048576) :
    Calls Tryz.prog 71 #[ntV x z, .slice A n c] w fun e w' => e = .returned (.bool (canB (xsOf zs) x.t)) ∧ Below w.heap.size w w' := by
  have hl := h.len
  have hb0 : Below w.heap.size w (w.alloc (ntO x z 55)) := by (repeat (first | (with_reducible assumption) | (with_reducible exact Below.refl _ _) | exact Nat.le_refl _ | exact Below.size (by with_reducible assumption) | (with_reducible refine Below.drew ?_) | (with_reducible refine below_drewN ?_ _) | (with_reducible refine Below.alloc ?_ ?_ _) | (with_reducible refine Below.setCell ?_ ?_ _) | (with_reducible refine le_alloc ?_ _) | (with_reducible refine le_set ?_ _ _) | (with_reducible refine le_drew ?_) | (with_reducible refine le_drewN ?_ _) | omega | (dsimp only; omega)))
  have hp := nt_box w x z 55
  obtain ⟨w0, hw⟩ : ∃ w0, w.alloc (ntO x z 55) = w0 := ⟨_, rfl⟩
  have hbb : w.heap.size < w0.heap.size := by rw [← hw]; simp
  rw [hw] at hb0 hp
  obtain ⟨_, _, _, k3, _⟩ := hp.zero
  have h0 := h.next hb0
  have hI := ix1_c A n c zs w.heap.size (fun y => y.m == x.t) w0 h0 hm (fun w' hb y z' => cc1_c y z' w.heap.size x.t w' ((keepC hb _ hbb 3).trans k3) (Nat.lt_of_lt_of_le hbb hb.size))
  have hH : ∀ w1, Below w0.heap.size w0 w1 → Calls Tryz.prog 119 #[.slice A n c, clF 120 w.heap.size] w1 fun e w' => e = .returned (.bool (cldW (xsOf zs) x.t)) ∧ Below w1.heap.size w1 w' := fun w1 hb1 =>
    hasF_c A n c zs w.heap.size (fun y => (y.k == 4) && (y.t == x.t)) w1 (h0.next hb1) hm (fun w' hb y z' => cc2_c y z' w.heap.size x.t w' ((keepC (hb1.trans (hb.mono hb1.size)) _ hbb 3).trans k3) (Nat.lt_of_lt_of_le (Nat.lt_of_lt_of_le hbb hb1.size) hb.size))
  have hG : ∀ (w1 : World), Below w0.heap.size w0 w1 → ∀ k, k < n → ∃ b off g, A = some ⟨b, off, none⟩ ∧ (xsOf zs)[k]? = some g ∧ w1.cell? ⟨b, off + k * 20 + 2, none⟩ = some (.int .i64 g.k) := fun w1 hb k hk => by
    obtain ⟨b, off, g, hA, hbl, hx, _, hr⟩ := (h0.next hb).getR k hk
    exact ⟨b, off, g.x, hA, by rw [List.getElem?_map, hx]; rfl, (ntP_of hr hbl).k2⟩
  obtain ⟨R, hR⟩ : ∃ R, canB (xsOf zs) x.t = R := ⟨_, rfl⟩
  have hv : R = (((xsOf zs).findIdx? (fun y => y.m == x.t)).elim none (fun k => (xsOf zs)[k]?)).elim false fun y => !(y.k == 4) && !cldW (xsOf zs) x.t := by rw [← hR, canB, fndX, find_idx]
  rw [hR]
  obtain ⟨W, hWd⟩ : ∃ W, cldW (xsOf zs) x.t = W := ⟨_, rfl⟩
  rw [hWd] at hH hv
  clear hR hWd hp k3 h h0
  have HH := Lib.hid hH; clear hH
  have Hl := Lib.hid hl; clear hl
  cases hF : (xsOf zs).findIdx? (fun y => y.m == x.t) with
  | none =>
    rw [hF] at hI hv
    have HI := Lib.hid hI; clear hI
    have HF := Lib.hid hF; clear hF
    have Hv := Lib.hid hv; clear hv
    have HG := Lib.hid hG; clear hG
    go_enter Tryz.func71, Tryz.ntmps71
    go_wp2_with fail
    try rw [hw]
    clear hw
    refine HI.out.mono ?_
    rintro e w1 ⟨rfl, hb1⟩
    simp only [Option.elim_none]
    go_wp2_with fail
    go_ret
    exact ⟨ret_eq (bool_eq Hv.out.symm), hb0.trans (hb1.mono hb0.size)⟩
  | some k =>
    rw [hF] at hI hv
    have hkn : k < n := by
      rw [List.findIdx?_eq_some_iff_getElem] at hF
      obtain ⟨hk, _⟩ := hF
      rw [List.length_map, Hl.out] at hk; exact hk
    obtain ⟨b, off, g, rfl, hxk, _⟩ := hG w0 (Below.refl _ _) k hkn
    have hc : ∀ w1, Below w0.heap.size w0 w1 → w1.cell? ⟨b, off + k * 20 + 2, none⟩ = some (.int .i64 g.k) := fun w1 hb => by
      obtain ⟨b', off', g', e0, hx', hc'⟩ := hG w1 hb k hkn
      injection e0 with e0
      injection e0 with e1 e2
      subst e1 e2
      rw [hxk] at hx'
      obtain rfl := Option.some.inj hx'
      exact hc'
    simp only [Option.elim_some] at hv
    rw [hxk] at hv
    simp only [Option.elim_some] at hv
    have k0 : (0 : Int) ≤ (k : Int) := by omega
    have k1 : (k : Int) < (n : Int) := by omega
    clear hG
    have HI := Lib.hid hI; clear hI
    have HF := Lib.hid hF; clear hF
    have Hc := Lib.hid hc; clear hc
    have Hxk := Lib.hid hxk; clear hxk
    cases g1 : (g.k == 4)
    · rw [g1] at hv
      have Hv := Lib.hid hv; clear hv
      go_enter Tryz.func71, Tryz.ntmps71
      go_wp2_with fail
      try rw [hw]
      clear hw
      refine HI.out.mono ?_
      rintro e w1 ⟨rfl, hb1⟩
      simp only [Option.elim_some]
      have c2 := Hc.out _ hb1
      go_wp2_with fail
      refine (HH.out _ hb1).mono ?_
      rintro e w2 ⟨rfl, hb2⟩
      go_wp2_with fail
      go_ret
      exact ⟨ret_eq (bool_eq (by rw [Hv.out]; simp)), hb0.trans ((hb1.trans (hb2.mono hb1.size)).mono hb0.size)⟩
    · rw [g1] at hv
      have Hv := Lib.hid hv; clear hv
      go_enter Tryz.func71, Tryz.ntmps71
      go_wp2_with fail
      try rw [hw]
      clear hw
      refine HI.out.mono ?_
      rintro e w1 ⟨rfl, hb1⟩
      simp only [Option.elim_some]
      have c2 := Hc.out _ hb1
      go_wp2_with fail
      go_ret
      exact ⟨ret_eq (bool_eq (by rw [Hv.out]; simp)), hb0.trans (hb1.mono hb0.size)⟩
end Go.Proofs.YtafojijhfbnehaaGreatDoor
