/- Ships, works, orders and voyages: plain Lean. -/
import Derived.Test.YtgkdjohiclhcoaaPt
import Derived.Test.YtgkdjohiclhcoaaName
namespace Go.Proofs.Ytgkdjohiclhcoaa
open Go.RowKit
structure Wk where
  name : ByteArray
  x : Int
  y : Int
  ld : Int
  mi : Int
  fr : Int
  un : Int
def Wk.cells (z : Wk) : List Value := [.string z.name, .int .i64 z.x, .int .i64 z.y, .int .i64 z.ld, .int .i64 z.mi, .int .i64 z.fr, .int .i64 z.un]
theorem Wk.cells_len (z : Wk) : z.cells.length = 7 := rfl
theorem Wk.cells_one (z : Wk) : ∀ u ∈ z.cells, u.oneCell' = true := by simp [Wk.cells, Value.oneCell']
abbrev Wk.val (z : Wk) : Value := .agg #[.string z.name, .int .i64 z.x, .int .i64 z.y, .int .i64 z.ld, .int .i64 z.mi, .int .i64 z.fr, .int .i64 z.un]
structure Sh where
  name : ByteArray
  sp : Int
  ld : Int
  dr : Int
abbrev Sh.val (s : Sh) : Value := .agg #[.string s.name, .int .i64 s.sp, .int .i64 s.ld, .int .i64 s.dr]
def lessB (s t : ByteArray) : Bool := Op.bytesLess s.toList t.toList
def shB (s : Sh) : Bool := nameB s.name && (inB s.sp 1 2000 && (inB s.ld 0 1000 && inB s.dr 1 200))
def wkB (z : Wk) : Bool := nameB z.name && (ptB z.x z.y && (inB z.ld 0 1000 && (inB z.mi 1 600 && (inB z.fr 0 4320 && inB z.un (z.fr + z.mi) 4320))))
def wk0 : Wk := ⟨ByteArray.empty, 0, 0, 0, 0, 0, 0⟩
def wkAt (zs : List Wk) (k : Nat) : Wk := zs[k]?.getD wk0
def wkI (zs : List Wk) (k : Int) : Wk := wkAt zs k.toNat
theorem wkAt_eq {zs : List Wk} {k : Nat} {z : Wk} (h : zs[k]? = some z) : wkAt zs k = z := by rw [wkAt, h]; rfl
theorem wkI_eq {zs : List Wk} {k : Nat} {z : Wk} (h : zs[k]? = some z) : wkI zs k = z := by rw [wkI, Int.toNat_natCast, wkAt_eq h]
def wkOk (zs : List Wk) (i : Nat) : Bool := wkB (wkAt zs i) && (decide (i = 0) || lessB (wkAt zs (i - 1)).name (wkAt zs i).name)
def worksB (zs : List Wk) : Bool := allB zs.length (wkOk zs) && decide (zs.length ≤ 12)
theorem worksB_iff {zs : List Wk} : worksB zs = true ↔ (∀ i, i < zs.length → wkOk zs i = true) ∧ zs.length ≤ 12 := by
  rw [worksB, Bool.and_eq_true, allB_iff, decide_eq_true_eq]
structure WkBd (z : Wk) : Prop where
  pt : ptB z.x z.y = true
  ld : 0 ≤ z.ld ∧ z.ld ≤ 1000
  mi : 1 ≤ z.mi ∧ z.mi ≤ 600
  fr : 0 ≤ z.fr ∧ z.fr ≤ 4320
  un : z.fr + z.mi ≤ z.un ∧ z.un ≤ 4320
theorem wkB_bd {z : Wk} (h : wkB z = true) : WkBd z := by
  simp only [wkB, Bool.and_eq_true, inB_iff] at h
  obtain ⟨_, h1, h2, h3, h4, h5⟩ := h
  exact ⟨h1, h2, h3, h4, h5⟩
theorem works_bd {zs : List Wk} (h : worksB zs = true) (k : Nat) (hk : k < zs.length) : WkBd (wkAt zs k) := by
  have := (worksB_iff.1 h).1 k hk
  rw [wkOk, Bool.and_eq_true] at this
  exact wkB_bd this.1
/-- An order: different places of a list of n. -/
def inI (n : Nat) (k : Int) : Bool := inB k 0 ((n : Int) - 1)
def ordOk (n : Nat) (ks : List Int) (i : Nat) : Bool := match ks[i]? with | none => true | some x => inI n x && !decide (x ∈ ks.take i)
theorem ordOk_at {n : Nat} {ks : List Int} {i : Nat} {x : Int} (h : ks[i]? = some x) : ordOk n ks i = (inI n x && !decide (x ∈ ks.take i)) := by simp [ordOk, h]
def ordB (n : Nat) (ks : List Int) : Bool := allB ks.length (ordOk n ks)
theorem ordB_mem {n : Nat} {ks : List Int} (h : ordB n ks = true) (k : Int) (hk : k ∈ ks) : 0 ≤ k ∧ k < (n : Int) := by
  obtain ⟨i, hi, e⟩ := List.mem_iff_getElem.1 hk
  have := allB_iff.1 h i hi
  rw [ordOk_at (x := k) (by rw [List.getElem?_eq_getElem hi, e]), Bool.and_eq_true, inI, inB_iff] at this
  omega
theorem ordB_nil (n : Nat) : ordB n [] = true := by simp [ordB, allB]
/-! Voyages. -/
structure VSt where
  t : Int
  x : Int
  y : Int
structure Cl where
  k : Int
  ar : Int
  be : Int
  en : Int
def Cl.cells (c : Cl) : List Value := [.int .i64 c.k, .int .i64 c.ar, .int .i64 c.be, .int .i64 c.en]
theorem Cl.cells_len (c : Cl) : c.cells.length = 4 := rfl
theorem Cl.cells_one (c : Cl) : ∀ u ∈ c.cells, u.oneCell' = true := by simp [Cl.cells, Value.oneCell']
abbrev Cl.val (c : Cl) : Value := .agg #[.int .i64 c.k, .int .i64 c.ar, .int .i64 c.be, .int .i64 c.en]
noncomputable def travI (s : Sh) (x y u v : Int) : Int := (rootI (sqI x y u v) + s.sp - 1) / s.sp
noncomputable def callV (s : Sh) (zs : List Wk) (k : Int) (p : VSt) : Cl :=
  ⟨k, p.t + travI s p.x p.y (wkI zs k).x (wkI zs k).y, max (p.t + travI s p.x p.y (wkI zs k).x (wkI zs k).y) (wkI zs k).fr, max (p.t + travI s p.x p.y (wkI zs k).x (wkI zs k).y) (wkI zs k).fr + (wkI zs k).mi⟩
noncomputable def nextV (s : Sh) (zs : List Wk) (p : VSt) (k : Int) : VSt := ⟨(callV s zs k p).en, (wkI zs k).x, (wkI zs k).y⟩
noncomputable def posV (s : Sh) (zs : List Wk) (p : VSt) (ks : List Int) : VSt := ks.foldl (nextV s zs) p
noncomputable def okC (s : Sh) (zs : List Wk) (k : Int) (p : VSt) : Bool := decide ((callV s zs k p).en ≤ (wkI zs k).un)
noncomputable def okV (s : Sh) (zs : List Wk) : VSt → List Int → Bool
  | _, [] => true
  | p, k :: ks => okC s zs k p && okV s zs (nextV s zs p k) ks
noncomputable def callsV (s : Sh) (zs : List Wk) : VSt → List Int → List Cl
  | _, [] => []
  | p, k :: ks => callV s zs k p :: callsV s zs (nextV s zs p k) ks
def loadV (zs : List Wk) : List Int → Int
  | [] => 0
  | k :: ks => (wkI zs k).ld + loadV zs ks
theorem posV_snoc (s : Sh) (zs : List Wk) (p : VSt) (ks : List Int) (k : Int) : posV s zs p (ks ++ [k]) = nextV s zs (posV s zs p ks) k := by
  rw [posV, List.foldl_append]; rfl
theorem okV_snoc (s : Sh) (zs : List Wk) (p : VSt) (ks : List Int) (k : Int) : okV s zs p (ks ++ [k]) = (okV s zs p ks && okC s zs k (posV s zs p ks)) := by
  induction ks generalizing p with
  | nil => simp [okV, posV]
  | cons a l ih => rw [List.cons_append, okV, ih, okV, Bool.and_assoc]; rfl
theorem okV_app (s : Sh) (zs : List Wk) (p : VSt) (ks ls : List Int) : okV s zs p (ks ++ ls) = (okV s zs p ks && okV s zs (posV s zs p ks) ls) := by
  induction ks generalizing p with
  | nil => simp [okV, posV]
  | cons a l ih => rw [List.cons_append, okV, ih, okV, Bool.and_assoc]; rfl
theorem callsV_snoc (s : Sh) (zs : List Wk) (p : VSt) (ks : List Int) (k : Int) : callsV s zs p (ks ++ [k]) = callsV s zs p ks ++ [callV s zs k (posV s zs p ks)] := by
  induction ks generalizing p with
  | nil => rfl
  | cons a l ih => rw [List.cons_append, callsV, ih, callsV]; rfl
theorem callsV_len (s : Sh) (zs : List Wk) (p : VSt) (ks : List Int) : (callsV s zs p ks).length = ks.length := by
  induction ks generalizing p with
  | nil => rfl
  | cons a l ih => rw [callsV, List.length_cons, ih, List.length_cons]
theorem loadV_app (zs : List Wk) (ks ls : List Int) : loadV zs (ks ++ ls) = loadV zs ks + loadV zs ls := by
  induction ks with
  | nil => simp [loadV]
  | cons a l ih => rw [List.cons_append, loadV, ih, loadV]; omega
theorem loadV_snoc (zs : List Wk) (ks : List Int) (k : Int) : loadV zs (ks ++ [k]) = loadV zs ks + (wkI zs k).ld := by
  rw [loadV_app]; simp [loadV]
theorem loadV_bd {zs : List Wk} {ks : List Int} (h : ∀ k ∈ ks, 0 ≤ (wkI zs k).ld ∧ (wkI zs k).ld ≤ 1000) : 0 ≤ loadV zs ks ∧ loadV zs ks ≤ 1000 * (ks.length : Int) := by
  induction ks with
  | nil => simp [loadV]
  | cons a l ih =>
    have h1 := h a (by simp)
    have h2 := ih fun k hk => h k (by simp [hk])
    rw [loadV, List.length_cons]
    omega
theorem take_snoc {ks : List Int} {i : Nat} {k : Int} (h : ks[i]? = some k) : ks.take (i + 1) = ks.take i ++ [k] := by
  rw [List.take_add_one, h]; rfl
/-- What a voyage's times may be. -/
theorem trav_bd {s : Sh} (hs : 1 ≤ s.sp ∧ s.sp ≤ 2000) {x y u v : Int} (h : 0 ≤ rootI (sqI x y u v) ∧ rootI (sqI x y u v) ≤ 3037000499) : 0 ≤ travI s x y u v ∧ travI s x y u v ≤ 3037000499 := by
  unfold travI
  generalize rootI (sqI x y u v) = r at *
  refine ⟨Int.ediv_nonneg (by omega) (by omega), ?_⟩
  have : (r + s.sp - 1) / s.sp < 3037000499 + 1 := Int.ediv_lt_of_lt_mul (by omega) (by
    have := Int.mul_le_mul_of_nonneg_left (show (1 : Int) ≤ s.sp from hs.1) (show (0 : Int) ≤ 3037000499 by omega)
    rw [Int.add_mul]; omega)
  omega
theorem root_bd (n : Int) : 0 ≤ rootI n ∧ rootI n ≤ 3037000499 := by
  unfold rootI
  split
  · rename_i h
    have := Classical.choose_spec h
    exact ⟨this.lo, this.hi⟩
  · omega
theorem shB_bd {s : Sh} (h : shB s = true) : (1 ≤ s.sp ∧ s.sp ≤ 2000) ∧ (0 ≤ s.ld ∧ s.ld ≤ 1000) := by
  simp only [shB, Bool.and_eq_true, inB_iff] at h
  exact ⟨h.2.1, h.2.2.1⟩
/-- The place of a voyage is a place of the works, or its base. -/
theorem posV_pt {s : Sh} {zs : List Wk} {p : VSt} (hp : ptB p.x p.y = true) {ks : List Int} (h : ∀ k ∈ ks, ptB (wkI zs k).x (wkI zs k).y = true) : ptB (posV s zs p ks).x (posV s zs p ks).y = true := by
  rcases List.eq_nil_or_concat ks with rfl | ⟨l, a, rfl⟩
  · exact hp
  · rw [List.concat_eq_append, posV_snoc]
    exact h a (by simp)
/-- Times of a voyage that is possible. -/
theorem posV_t {s : Sh} {zs : List Wk} {p : VSt} (hs : 1 ≤ s.sp ∧ s.sp ≤ 2000) (h0 : 0 ≤ p.t ∧ p.t ≤ 4320) {ks : List Int} (h : ∀ k ∈ ks, (0 ≤ (wkI zs k).mi) ∧ (wkI zs k).un ≤ 4320) (hok : okV s zs p ks = true) : 0 ≤ (posV s zs p ks).t ∧ (posV s zs p ks).t ≤ 4320 := by
  induction ks generalizing p with
  | nil => exact h0
  | cons a l ih =>
    rw [okV, Bool.and_eq_true, okC, decide_eq_true_eq] at hok
    have h1 := h a (by simp)
    refine ih ?_ (fun k hk => h k (by simp [hk])) hok.2
    have h2 := trav_bd hs (root_bd (sqI p.x p.y (wkI zs a).x (wkI zs a).y))
    have h3 := hok.1
    show 0 ≤ (callV s zs a p).en ∧ (callV s zs a p).en ≤ 4320
    refine ⟨?_, by omega⟩
    simp only [callV]
    have : p.t + travI s p.x p.y (wkI zs a).x (wkI zs a).y ≤ max (p.t + travI s p.x p.y (wkI zs a).x (wkI zs a).y) (wkI zs a).fr := Int.le_max_left _ _
    omega
/-- When a ship is back. -/
noncomputable def endV (s : Sh) (zs : List Wk) (p : VSt) (ks : List Int) : Int := bif ks.isEmpty then p.t else (posV s zs p ks).t + travI s (posV s zs p ks).x (posV s zs p ks).y p.x p.y
/-- The code of a voyage itself. -/
noncomputable def voyK (s : Sh) (zs : List Wk) (p : VSt) (ks : List Int) : Int := bif decide (s.ld < loadV zs ks) then 5 else bif okV s zs p ks then 0 else 6
noncomputable def askK (s : Sh) (zs : List Wk) (p : VSt) (ks : List Int) : Int := bif !(shB s && (ptB p.x p.y && worksB zs)) then 1 else bif !inB p.t 0 4320 then 2 else bif !ordB zs.length ks then 7 else 0
noncomputable def vendK (s : Sh) (zs : List Wk) (p : VSt) (ks : List Int) : Int := bif decide (askK s zs p ks = 0) then voyK s zs p ks else askK s zs p ks
noncomputable def vendT (s : Sh) (zs : List Wk) (p : VSt) (ks : List Int) : Int := bif decide (vendK s zs p ks = 0) then endV s zs p ks else 0
/-! The first number that is good. -/
def firstN (p : Nat → Bool) : Nat → Option Nat
  | 0 => none
  | n + 1 => match firstN p n with
    | some k => some k
    | none => bif p n then some n else none
theorem firstN_next {p : Nat → Bool} {k : Nat} (h : firstN p k = none) (hp : p k = false) : firstN p (k + 1) = none := by rw [firstN, h]; simp [hp]
theorem firstN_hit {p : Nat → Bool} {k : Nat} (h : firstN p k = none) (hp : p k = true) : ∀ n, k < n → firstN p n = some k
  | 0, hn => by omega
  | n + 1, hn => by
    rcases Nat.lt_or_ge k n with h1 | h1
    · rw [firstN, firstN_hit h hp n h1]
    · obtain rfl : n = k := by omega
      rw [firstN, h]; simp [hp]
theorem firstN_some {p : Nat → Bool} {k n : Nat} (h : firstN p n = some k) : k < n ∧ p k = true := by
  induction n with
  | zero => cases h
  | succ n ih =>
    rw [firstN] at h
    cases hf : firstN p n with
    | some j =>
      rw [hf] at h
      simp only [Option.some.injEq] at h
      subst h
      have := ih hf
      exact ⟨by omega, this.2⟩
    | none =>
      rw [hf] at h
      cases hp : p n
      · rw [hp] at h; cases h
      · rw [hp] at h
        simp only [cond_true, Option.some.injEq] at h
        subst h
        exact ⟨by omega, hp⟩
/-! Improving. -/
def restV (ks : List Int) (i : Nat) : List Int := ks.take i ++ ks.drop (i + 1)
def movedV (ks : List Int) (i k : Nat) : List Int := (restV ks i).take k ++ [ks[i]?.getD 0] ++ (restV ks i).drop k
noncomputable def goodV (s : Sh) (zs : List Wk) (p : VSt) (t : Int) (ks : List Int) : Bool := okV s zs p ks && decide (endV s zs p ks < t)
noncomputable def rowV (s : Sh) (zs : List Wk) (p : VSt) (ks : List Int) (i : Nat) : Option Nat := firstN (fun k => goodV s zs p (endV s zs p ks) (movedV ks i k)) ks.length
noncomputable def betV (s : Sh) (zs : List Wk) (p : VSt) (ks : List Int) : Option (List Int) :=
  match firstN (fun i => (rowV s zs p ks i).isSome) ks.length with
  | none => none
  | some i => match rowV s zs p ks i with
    | none => none
    | some k => some (movedV ks i k)
theorem restV_len {ks : List Int} {i : Nat} (h : i < ks.length) : (restV ks i).length + 1 = ks.length := by
  rw [restV, List.length_append, List.length_take, List.length_drop]; omega
theorem restV_mem {ks : List Int} {i : Nat} {a : Int} (h : a ∈ restV ks i) : a ∈ ks := by
  rcases List.mem_append.1 h with h | h
  · exact List.mem_of_mem_take h
  · exact List.mem_of_mem_drop h
theorem movedV_len {ks : List Int} {i k : Nat} (h : i < ks.length) : (movedV ks i k).length = ks.length := by
  have := restV_len h
  rw [movedV, List.length_append, List.length_append, List.length_take, List.length_drop, List.length_singleton]; omega
theorem movedV_mem {ks : List Int} {i k : Nat} (h : i < ks.length) {a : Int} (ha : a ∈ movedV ks i k) : a ∈ ks := by
  have e : ks[i]?.getD 0 = ks[i] := by rw [List.getElem?_eq_getElem h]; rfl
  simp only [movedV, List.mem_append, List.mem_singleton] at ha
  rcases ha with (ha | ha) | ha
  · exact restV_mem (List.mem_of_mem_take ha)
  · rw [ha, e]; exact List.getElem_mem h
  · exact restV_mem (List.mem_of_mem_drop ha)
theorem movedV_load (zs : List Wk) {ks : List Int} {i k : Nat} (h : i < ks.length) : loadV zs (movedV ks i k) = loadV zs ks := by
  have e : ks[i]?.getD 0 = ks[i] := by rw [List.getElem?_eq_getElem h]; rfl
  have h1 : loadV zs (restV ks i) = loadV zs ((restV ks i).take k) + loadV zs ((restV ks i).drop k) := by rw [← loadV_app, List.take_append_drop]
  have h2 : loadV zs ks = loadV zs (ks.take i) + (loadV zs [ks[i]] + loadV zs (ks.drop (i + 1))) := by
    rw [← loadV_app, ← loadV_app]
    congr 1
    rw [List.singleton_append, ← List.drop_eq_getElem_cons h, List.take_append_drop]
  have h3 : loadV zs (restV ks i) = loadV zs (ks.take i) + loadV zs (ks.drop (i + 1)) := by rw [restV, loadV_app]
  rw [movedV, loadV_app, loadV_app, e]
  omega
theorem betV_some {s : Sh} {zs : List Wk} {p : VSt} {ks r : List Int} (h : betV s zs p ks = some r) : ∃ i k, i < ks.length ∧ k < ks.length ∧ r = movedV ks i k ∧ okV s zs p r = true ∧ endV s zs p r < endV s zs p ks := by
  unfold betV at h
  cases h1 : firstN (fun i => (rowV s zs p ks i).isSome) ks.length with
  | none => rw [h1] at h; cases h
  | some i =>
    rw [h1] at h
    simp only at h
    cases h2 : rowV s zs p ks i with
    | none => rw [h2] at h; cases h
    | some k =>
      rw [h2] at h
      simp only [Option.some.injEq] at h
      have h3 := firstN_some h1
      have h4 := firstN_some h2
      have h5 := h4.2
      simp only [goodV, Bool.and_eq_true, decide_eq_true_eq] at h5
      subst h
      exact ⟨i, k, h3.1, h4.1, rfl, h5.1, h5.2⟩
theorem trav_nn {s : Sh} (hs : 1 ≤ s.sp ∧ s.sp ≤ 2000) (x y u v : Int) : 0 ≤ travI s x y u v := (trav_bd hs (root_bd _)).1
/-- What an order of valid works is good for. -/
structure VOk (s : Sh) (zs : List Wk) (p : VSt) (ks : List Int) : Prop where
  sp : 1 ≤ s.sp ∧ s.sp ≤ 2000
  ld : 0 ≤ s.ld ∧ s.ld ≤ 1000
  pt : ptB p.x p.y = true
  t : 0 ≤ p.t ∧ p.t ≤ 4320
  ks : ∀ k ∈ ks, 0 ≤ k ∧ k < (zs.length : Int)
  bd : ∀ k, k < zs.length → WkBd (wkAt zs k)
  n : zs.length ≤ 12
theorem VOk.at_ {s : Sh} {zs : List Wk} {p : VSt} {ks : List Int} (h : VOk s zs p ks) (k : Int) (hk : k ∈ ks) : WkBd (wkI zs k) := by
  have h1 := h.ks k hk
  exact h.bd k.toNat (by omega)
theorem VOk.mono {s : Sh} {zs : List Wk} {p : VSt} {ks ls : List Int} (h : VOk s zs p ks) (hl : ∀ k ∈ ls, k ∈ ks) : VOk s zs p ls := ⟨h.sp, h.ld, h.pt, h.t, fun k hk => h.ks k (hl k hk), h.bd, h.n⟩
theorem VOk.of_ask {s : Sh} {zs : List Wk} {p : VSt} {ks : List Int} (h : askK s zs p ks = 0) : VOk s zs p ks := by
  unfold askK at h
  cases h1 : (shB s && (ptB p.x p.y && worksB zs))
  · rw [h1] at h; cases h
  rw [h1] at h
  cases h2 : inB p.t 0 4320
  · rw [h2] at h; cases h
  rw [h2] at h
  cases h3 : ordB zs.length ks
  · rw [h3] at h; cases h
  simp only [Bool.and_eq_true] at h1
  obtain ⟨h4, h5, h6⟩ := h1
  have := shB_bd h4
  exact ⟨this.1, this.2, h5, inB_iff.1 h2, ordB_mem h3, works_bd h6, (worksB_iff.1 h6).2⟩
theorem VOk.posT {s : Sh} {zs : List Wk} {p : VSt} {ks : List Int} (h : VOk s zs p ks) (hok : okV s zs p ks = true) : 0 ≤ (posV s zs p ks).t ∧ (posV s zs p ks).t ≤ 4320 :=
  posV_t h.sp h.t (fun k hk => ⟨by have := (h.at_ k hk).mi; omega, (h.at_ k hk).un.2⟩) hok
theorem VOk.posP {s : Sh} {zs : List Wk} {p : VSt} {ks : List Int} (h : VOk s zs p ks) : ptB (posV s zs p ks).x (posV s zs p ks).y = true := posV_pt h.pt fun k hk => (h.at_ k hk).pt
theorem VOk.end_ {s : Sh} {zs : List Wk} {p : VSt} {ks : List Int} (h : VOk s zs p ks) (hok : okV s zs p ks = true) : 0 ≤ endV s zs p ks ∧ endV s zs p ks ≤ 4000000000 := by
  have h1 := h.posT hok
  have h2 := trav_bd h.sp (root_bd (sqI (posV s zs p ks).x (posV s zs p ks).y p.x p.y))
  have h3 := h.t
  unfold endV
  cases ks.isEmpty
  · simp only [cond_false]; omega
  · simp only [cond_true]; omega
theorem VOk.load {s : Sh} {zs : List Wk} {p : VSt} {ks : List Int} (h : VOk s zs p ks) : 0 ≤ loadV zs ks ∧ loadV zs ks ≤ 1000 * (ks.length : Int) := loadV_bd fun k hk => (h.at_ k hk).ld
theorem VOk.bet {s : Sh} {zs : List Wk} {p : VSt} {ks r : List Int} (h : VOk s zs p ks) (hb : betV s zs p ks = some r) : VOk s zs p r ∧ r.length = ks.length ∧ loadV zs r = loadV zs ks ∧ okV s zs p r = true ∧ endV s zs p r < endV s zs p ks := by
  obtain ⟨i, k, hi, _, rfl, h1, h2⟩ := betV_some hb
  exact ⟨h.mono fun a ha => movedV_mem hi ha, movedV_len hi, movedV_load zs hi, h1, h2⟩
/-- Improved as long as it can be. -/
noncomputable def impN (s : Sh) (zs : List Wk) (p : VSt) : Nat → List Int → List Int
  | 0, ks => ks
  | f + 1, ks => match betV s zs p ks with
    | none => ks
    | some r => impN s zs p f r
noncomputable def impV (s : Sh) (zs : List Wk) (p : VSt) (ks : List Int) : List Int := impN s zs p ((endV s zs p ks).toNat + 1) ks
theorem impN_any {s : Sh} {zs : List Wk} {p : VSt} : ∀ (f g : Nat) {ks : List Int}, VOk s zs p ks → okV s zs p ks = true → (endV s zs p ks).toNat < f → (endV s zs p ks).toNat < g → impN s zs p f ks = impN s zs p g ks
  | 0, _, _, _, _, h, _ => by omega
  | _ + 1, 0, _, _, _, _, h => by omega
  | f + 1, g + 1, ks, hv, hok, hf, hg => by
    rw [impN, impN]
    cases hb : betV s zs p ks with
    | none => rfl
    | some r =>
      obtain ⟨h1, _, _, h2, h3⟩ := hv.bet hb
      have h4 := h1.end_ h2
      exact impN_any f g h1 h2 (by omega) (by omega)
theorem impV_end {s : Sh} {zs : List Wk} {p : VSt} {ks : List Int} (hb : betV s zs p ks = none) : impV s zs p ks = ks := by rw [impV, impN, hb]
theorem impV_next {s : Sh} {zs : List Wk} {p : VSt} {ks r : List Int} (hv : VOk s zs p ks) (hok : okV s zs p ks = true) (hb : betV s zs p ks = some r) : impV s zs p ks = impV s zs p r := by
  obtain ⟨h1, _, _, h2, h3⟩ := hv.bet hb
  have h4 := h1.end_ h2
  have h5 := hv.end_ hok
  rw [impV, impN, hb]
  exact impN_any _ _ h1 h2 (by omega) (by omega)
/-- What comes of improving. -/
theorem impV_is {s : Sh} {zs : List Wk} {p : VSt} : ∀ (f : Nat) {ks : List Int}, (endV s zs p ks).toNat < f → VOk s zs p ks → okV s zs p ks = true →
    VOk s zs p (impV s zs p ks) ∧ (impV s zs p ks).length = ks.length ∧ loadV zs (impV s zs p ks) = loadV zs ks ∧ okV s zs p (impV s zs p ks) = true ∧ endV s zs p (impV s zs p ks) ≤ endV s zs p ks ∧ betV s zs p (impV s zs p ks) = none
  | 0, _, h, _, _ => by omega
  | f + 1, ks, h, hv, hok => by
    cases hb : betV s zs p ks with
    | none => rw [impV_end hb]; exact ⟨hv, rfl, rfl, hok, Int.le_refl _, hb⟩
    | some r =>
      obtain ⟨h1, h2, h3, h4, h5⟩ := hv.bet hb
      have h6 := h1.end_ h4
      rw [impV_next hv hok hb]
      obtain ⟨k1, k2, k3, k4, k5, k6⟩ := impV_is f (ks := r) (by omega) h1 h4
      exact ⟨k1, by omega, by omega, k4, by omega, k6⟩
end Go.Proofs.Ytgkdjohiclhcoaa
