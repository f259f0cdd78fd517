/- MgPG: several of my texts in one. -/
import Derived.Test.YtpfnnjcochhklaaGreatDoorCfPG
import Derived.Test.YtpfnnjcochhklaaGreatDoorRpG
import Derived.Test.YtpfnnjcochhklaaGreatDoorMgB

/- Merging lists of aids, in plain Lean. -/
namespace Go.Proofs.YtpfnnjcochhklaaGreatDoor
open Go.RowKit
instance : DecidableEq Sec := fun a b => decidable_of_iff (a.f = b.f ∧ a.t = b.t ∧ a.c = b.c) (by cases a; cases b; simp)
instance : DecidableEq Mk := fun a b => decidable_of_iff (a.k = b.k ∧ a.cs = b.cs ∧ a.sh = b.sh ∧ a.tp = b.tp) (by cases a; cases b; simp)
instance : DecidableEq Ch := fun a b => decidable_of_iff (a.k = b.k ∧ a.gs = b.gs ∧ a.l = b.l ∧ a.cs = b.cs ∧ a.p = b.p) (by cases a; cases b; simp)
instance : DecidableEq AidX := fun a b => decidable_of_iff (a.num = b.num ∧ a.nm = b.nm ∧ a.x = b.x ∧ a.y = b.y ∧ a.h = b.h ∧ a.mr = b.mr ∧ a.ch = b.ch ∧ a.secs = b.secs ∧ a.it = b.it) (by cases a; cases b; simp)
theorem ba_toL {a b : ByteArray} (h : (a.toList == b.toList) = true) : a = b := by
  have h1 := beq_iff_eq.1 h
  rw [ByteArray.toList_eq, ByteArray.toList_eq] at h1
  cases a; cases b
  rw [ByteArray.mk.injEq, ← Array.toList_inj]
  exact h1
/-- The comparison of two aids is equality. -/
theorem sameX_iff (a b : AidX) : sameX a b = true ↔ a = b := by
  constructor
  · intro h
    simp only [sameX, aidSame0, mkSame, sameCh, Bool.and_eq_true, decide_eq_true_eq] at h
    obtain ⟨h1, h2, ⟨h3, h4⟩, h5, ⟨h6, h7, h8, h9⟩, ⟨i1, i2, i3, i4, i5⟩, h10, h11⟩ := h
    obtain ⟨n, nm, x, y, hh, ⟨mk, mc, ms, mt⟩, ⟨ck, cg, cl, cc, cp⟩, ss, it⟩ := a
    obtain ⟨n', nm', x', y', hh', ⟨mk', mc', ms', mt'⟩, ⟨ck', cg', cl', cc', cp'⟩, ss', it'⟩ := b
    simp only at h1 h2 h3 h4 h5 h6 h7 h8 h9 i1 i2 i3 i4 i5 h10 h11
    obtain rfl := beq_iff_eq.1 h1
    obtain rfl := ba_toL h2
    obtain rfl := beq_iff_eq.1 h3
    obtain rfl := beq_iff_eq.1 h4
    obtain rfl := beq_iff_eq.1 h5
    obtain rfl := beq_iff_eq.1 h6
    obtain rfl := ba_toL h7
    obtain rfl := ba_toL h8
    obtain rfl := ba_toL h9
    obtain rfl := beq_iff_eq.1 i1
    obtain rfl := i2
    obtain rfl := ba_toL i3
    obtain rfl := ba_toL i4
    obtain rfl := beq_iff_eq.1 i5
    obtain rfl := h10
    obtain rfl := beq_iff_eq.1 h11
    rfl
  · rintro rfl
    simp [sameX, aidSame0, mkSame, sameCh]
theorem sameX_self (a : AidX) : sameX a a = true := (sameX_iff a a).2 rfl
/-- What a list has at a number. -/
def getO (l : List AidX) (v : Int) : Option AidX := (fdN l v).map (aAt l)
theorem getO_some {l : List AidX} {v : Int} {x : AidX} (h : getO l v = some x) : x ∈ l ∧ x.num = v := by
  unfold getO at h
  cases hf : fdN l v with
  | none => rw [hf] at h; cases h
  | some k =>
    rw [hf] at h
    obtain ⟨a, h1, h2, _⟩ := fdN_at hf
    simp only [Option.map_some, aAt, List.getD_eq_getElem?_getD, h1, Option.getD_some, Option.some.injEq] at h
    subst h
    exact ⟨List.mem_of_getElem? h1, h2⟩
theorem getO_none {l : List AidX} {v : Int} : getO l v = none ↔ fdN l v = none := by
  unfold getO
  cases fdN l v <;> simp
theorem stA_get (l : List AidX) (v : Int) : stA l v = (getO l v).getD aidZero := by
  unfold stA getO
  cases fdN l v <;> rfl
theorem same_get (l m : List AidX) {v : Int} (hv : v ≠ 0) : sameX (stA l v) (stA m v) = decide (getO l v = getO m v) := by
  rw [Bool.eq_iff_iff, sameX_iff, decide_eq_true_eq]
  constructor
  · intro h
    have h1 := congrArg AidX.num h
    rw [stA_num, stA_num] at h1
    rw [stA_get, stA_get] at h
    cases hl : getO l v with
    | none =>
      have e1 : fdN l v = none := getO_none.1 hl
      cases hm : getO m v with
      | none => rfl
      | some y =>
        have e2 : (fdN m v).isSome = true := by
          cases hf : fdN m v with
          | none => rw [getO_none.2 hf] at hm; cases hm
          | some k => rfl
        rw [e1, e2] at h1
        simp at h1
        exact absurd h1.symm hv
    | some x =>
      have e1 : (fdN l v).isSome = true := by
        cases hf : fdN l v with
        | none => rw [getO_none.2 hf] at hl; cases hl
        | some k => rfl
      cases hm : getO m v with
      | none =>
        have e2 : fdN m v = none := getO_none.1 hm
        rw [e1, e2] at h1
        simp at h1
        exact absurd h1 hv
      | some y =>
        rw [hl, hm] at h
        simpa using h
  · intro h
    rw [stA_get, stA_get, h]
theorem eqB_get (l m : List AidX) {v : Int} (hv : v ≠ 0) : eqB l m v = decide (getO l v = getO m v) := by rw [eqB_is _ _ hv, same_get _ _ hv]
theorem rise_asc {l : List AidX} (h : aidsB l = true) : l.Pairwise fun a b => a.num < b.num := by
  rw [List.pairwise_iff_getElem]
  intro i j hi hj hij
  exact aids_rise h j i _ _ hij (List.getElem?_eq_getElem hi) (List.getElem?_eq_getElem hj)
theorem asc_getO {l : List AidX} (h : l.Pairwise fun a b => a.num < b.num) {x : AidX} (hx : x ∈ l) : getO l x.num = some x := by
  have hn : ∀ y ∈ l, y.num = x.num → y = x := fun y hy e => by
    obtain ⟨i, hi⟩ := List.getElem?_of_mem hx
    obtain ⟨j, hj⟩ := List.getElem?_of_mem hy
    obtain ⟨hi1, hi2⟩ := List.getElem?_eq_some_iff.1 hi
    obtain ⟨hj1, hj2⟩ := List.getElem?_eq_some_iff.1 hj
    rw [List.pairwise_iff_getElem] at h
    rcases Nat.lt_trichotomy i j with h1 | h1 | h1
    · have := h i j hi1 hj1 h1; rw [hi2, hj2] at this; omega
    · subst h1; rw [hi] at hj; injection hj with hj; exact hj.symm
    · have := h j i hj1 hi1 h1; rw [hi2, hj2] at this; omega
  cases hg : getO l x.num with
  | none =>
    rw [getO_none, fdN, List.findIdx?_eq_none_iff] at hg
    have := hg x hx
    simp at this
  | some y =>
    obtain ⟨h1, h2⟩ := getO_some hg
    rw [hn y h1 h2]
/-- Lists of aids whose numbers rise, and which have the same, are the same. -/
theorem asc_ext : ∀ l m : List AidX, l.Pairwise (fun a b => a.num < b.num) → m.Pairwise (fun a b => a.num < b.num) → (∀ x, x ∈ l ↔ x ∈ m) → l = m
  | [], [], _, _, _ => rfl
  | [], y :: m, _, _, h => by have := (h y).2 List.mem_cons_self; simp at this
  | x :: l, [], _, _, h => by have := (h x).1 List.mem_cons_self; simp at this
  | x :: l, y :: m, hl, hm, h => by
    have hl' := List.pairwise_cons.1 hl
    have hm' := List.pairwise_cons.1 hm
    have exy : x = y := by
      rcases List.mem_cons.1 ((h x).1 List.mem_cons_self) with h1 | h1
      · exact h1
      · rcases List.mem_cons.1 ((h y).2 List.mem_cons_self) with h2 | h2
        · exact h2.symm
        · have := hm'.1 x h1
          have := hl'.1 y h2
          omega
    subst exy
    congr 1
    refine asc_ext l m hl'.2 hm'.2 fun z => ⟨fun hz => ?_, fun hz => ?_⟩
    · rcases List.mem_cons.1 ((h z).1 (List.mem_cons_of_mem _ hz)) with h1 | h1
      · have := hl'.1 z hz; subst h1; omega
      · exact h1
    · rcases List.mem_cons.1 ((h z).2 (List.mem_cons_of_mem _ hz)) with h1 | h1
      · have := hm'.1 z hz; subst h1; omega
      · exact h1
/-- What the merged list has at a number. -/
def mgO (base a b : List AidX) (v : Int) : Option AidX := if getO a v = getO base v then getO b v else getO a v
def mgL (base a b : List AidX) : List AidX := (numI [] a b).filterMap (mgO base a b)
theorem mgO_some {base a b : List AidX} {v : Int} {x : AidX} (h : mgO base a b v = some x) : (x ∈ a ∨ x ∈ b) ∧ x.num = v := by
  unfold mgO at h
  split at h
  · exact ⟨.inr (getO_some h).1, (getO_some h).2⟩
  · exact ⟨.inl (getO_some h).1, (getO_some h).2⟩
theorem numI_asc (base a b : List AidX) : (numI base a b).Pairwise (· < ·) := (upTo_asc 9999).filter _
theorem fm_asc {f : Int → Option AidX} (hf : ∀ v x, f v = some x → x.num = v) : ∀ L : List Int, L.Pairwise (· < ·) → (L.filterMap f).Pairwise fun a b => a.num < b.num
  | [], _ => List.Pairwise.nil
  | v :: L, h => by
    have h' := List.pairwise_cons.1 h
    have ih := fm_asc hf L h'.2
    rw [List.filterMap_cons]
    cases hv : f v with
    | none => exact ih
    | some x =>
      refine List.pairwise_cons.2 ⟨fun y hy => ?_, ih⟩
      obtain ⟨u, hu, hy⟩ := List.mem_filterMap.1 hy
      have := hf v x hv
      have := hf u y hy
      have := h'.1 u hu
      omega
theorem mg_asc (base a b : List AidX) : (mgL base a b).Pairwise fun x y => x.num < y.num := fm_asc (fun _ _ h => (mgO_some h).2) _ (numI_asc _ _ _)
theorem mg_mem {base a b : List AidX} (ha : aidsB a = true) (hb : aidsB b = true) (x : AidX) : x ∈ mgL base a b ↔ mgO base a b x.num = some x := by
  rw [mgL, List.mem_filterMap]
  constructor
  · rintro ⟨v, _, hv⟩
    rw [(mgO_some hv).2]; exact hv
  · intro h
    refine ⟨x.num, ?_, h⟩
    obtain ⟨h1, _⟩ := mgO_some h
    have hn : 1 ≤ x.num ∧ x.num ≤ 9999 := by
      rcases h1 with h1 | h1
      · exact aids_num ha x h1
      · exact aids_num hb x h1
    rw [numI, List.mem_filter, upTo_mem, inN, Bool.or_eq_true, Bool.or_eq_true, fd_mem, fd_mem, fd_mem]
    refine ⟨by omega, .inr ?_⟩
    rcases h1 with h1 | h1
    · exact .inl (List.mem_map.2 ⟨x, h1, rfl⟩)
    · exact .inr (List.mem_map.2 ⟨x, h1, rfl⟩)
theorem mg_is {base a b c : List AidX} (ha : aidsB a = true) (hb : aidsB b = true) (hc : aidsB c = true) (h : ∀ v, 1 ≤ v → mgO base a b v = getO c v) : mgL base a b = c := by
  refine asc_ext _ _ (mg_asc _ _ _) (rise_asc hc) fun x => ?_
  rw [mg_mem ha hb]
  constructor
  · intro hx
    have h1 : 1 ≤ x.num := by
      rcases (mgO_some hx).1 with h1 | h1
      · exact (aids_num ha x h1).1
      · exact (aids_num hb x h1).1
    rw [h _ h1] at hx
    exact (getO_some hx).1
  · intro hx
    rw [h _ (aids_num hc x hx).1]
    exact asc_getO (rise_asc hc) hx
theorem mg_left {base a : List AidX} (hb : aidsB base = true) (ha : aidsB a = true) : mgL base a base = a := mg_is ha hb ha fun v _ => by
  unfold mgO; split
  · rename_i h; exact h.symm
  · rfl
theorem mg_right {base a : List AidX} (hb : aidsB base = true) (ha : aidsB a = true) : mgL base base a = a := mg_is hb ha ha fun v _ => by
  unfold mgO; rw [if_pos rfl]
theorem mg_both {base a : List AidX} (ha : aidsB a = true) : mgL base a a = a := mg_is ha ha ha fun v _ => by
  unfold mgO; split <;> rfl
theorem cfl_get (base a b : List AidX) {v : Int} (hv : v ≠ 0) : cflB base a b v = (!decide (getO base v = getO a v) && (!decide (getO base v = getO b v) && !decide (getO a v = getO b v))) := by rw [cflB, same_get _ _ hv, same_get _ _ hv, same_get _ _ hv]
theorem cf_none {base a b : List AidX} (h : ∀ v, 1 ≤ v → getO base v = getO a v ∨ getO base v = getO b v ∨ getO a v = getO b v) : cfP base a b = [] := by
  rw [cfP, List.filter_eq_nil_iff]
  intro v hv
  have h1 := num_pos hv
  rw [cfl_get _ _ _ (by omega)]
  rcases h v h1.1 with e | e | e <;> simp [e]
theorem cf_left (base a : List AidX) : cfP base a base = [] := cf_none fun _ _ => .inr (.inl rfl)
theorem cf_right (base a : List AidX) : cfP base base a = [] := cf_none fun _ _ => .inl rfl
theorem cf_both (base a : List AidX) : cfP base a a = [] := cf_none fun _ _ => .inr (.inr rfl)
theorem numI_comm (base a b : List AidX) : numI base a b = numI base b a := by
  rw [numI, numI]
  congr 1
  funext v
  rw [inN, inN, Bool.or_comm (fdN a v).isSome]
theorem cf_comm (base a b : List AidX) : cfP base a b = cfP base b a := by
  rw [cfP, cfP, numI_comm]
  refine List.filter_congr fun v _ => ?_
  rw [cflB, cflB, sameX_comm (stA a v)]
  cases sameX (stA base v) (stA a v) <;> cases sameX (stA base v) (stA b v) <;> rfl
/-- Without a conflict both orders merge alike. -/
theorem mg_comm {base a b : List AidX} (ha : aidsB a = true) (hb : aidsB b = true) (h : cfP base a b = []) : mgL base a b = mgL base b a := by
  refine asc_ext _ _ (mg_asc _ _ _) (mg_asc _ _ _) fun x => ?_
  rw [mg_mem ha hb, mg_mem hb ha]
  have key : ∀ v, 1 ≤ v → v ≤ 9999 → mgO base a b v = mgO base b a v := fun v h1 h9 => by
    by_cases hin : v ∈ numI base a b
    · rw [cfP, List.filter_eq_nil_iff] at h
      have h2 := h v hin
      rw [cfl_get _ _ _ (by omega)] at h2
      unfold mgO
      by_cases e1 : getO a v = getO base v
      · rw [if_pos e1]
        split
        · rename_i e2; rw [e1, e2]
        · rfl
      · rw [if_neg e1]
        split
        · rfl
        · rename_i e2
          by_cases e3 : getO a v = getO b v
          · exact e3
          · exfalso
            apply h2
            simp [e3, Ne.symm e1, Ne.symm e2]
    · have hno : inN base a b v = false := by
        cases hi : inN base a b v
        · rfl
        · exact absurd (List.mem_filter.2 ⟨(upTo_mem 9999 v).2 (by omega), hi⟩) hin
      rw [inN, Bool.or_eq_false_iff, Bool.or_eq_false_iff] at hno
      have f : ∀ l : List AidX, (fdN l v).isSome = false → getO l v = none := fun l hl => getO_none.2 (by cases hf : fdN l v with
        | none => rfl
        | some k => rw [hf] at hl; cases hl)
      unfold mgO
      rw [f a hno.2.1, f b hno.2.2, f base hno.1]
  constructor
  · intro hx
    have hn : 1 ≤ x.num ∧ x.num ≤ 9999 := by
      rcases (mgO_some hx).1 with h1 | h1
      · exact aids_num ha x h1
      · exact aids_num hb x h1
    rw [← key _ hn.1 hn.2]; exact hx
  · intro hx
    have hn : 1 ≤ x.num ∧ x.num ≤ 9999 := by
      rcases (mgO_some hx).1 with h1 | h1
      · exact aids_num hb x h1
      · exact aids_num ha x h1
    rw [key _ hn.1 hn.2]; exact hx
theorem aids_mem {l : List AidX} (h : aidsB l = true) {x : AidX} (hx : x ∈ l) : aidB x = true := by
  simp only [aidsB, decide_eq_true_eq] at h
  obtain ⟨i, hi⟩ := List.getElem?_of_mem hx
  have h1 := h.2.1 i (List.getElem?_eq_some_iff.1 hi).1
  rw [aAt, List.getD_eq_getElem?_getD, hi, Option.getD_some] at h1
  exact h1
theorem aids_of {l : List AidX} (h24 : l.length ≤ 24) (hv : ∀ x ∈ l, aidB x = true) (ha : l.Pairwise fun a b => a.num < b.num) : aidsB l = true := by
  simp only [aidsB, decide_eq_true_eq]
  refine ⟨h24, fun i hi => ?_, fun i hi h0 => ?_⟩
  · rw [aAt, List.getD_eq_getElem?_getD, List.getElem?_eq_getElem hi, Option.getD_some]
    exact hv _ (List.getElem_mem hi)
  · rw [aAt, aAt, List.getD_eq_getElem?_getD, List.getD_eq_getElem?_getD, List.getElem?_eq_getElem hi, List.getElem?_eq_getElem (show i - 1 < l.length by omega), Option.getD_some, Option.getD_some]
    exact (List.pairwise_iff_getElem.1 ha) (i - 1) i (by omega) hi (by omega)
/-- A merged list that is not too long is valid. -/
theorem mg_valid {base a b : List AidX} (ha : aidsB a = true) (hb : aidsB b = true) (h24 : (mgL base a b).length ≤ 24) : aidsB (mgL base a b) = true :=
  aids_of h24 (fun x hx => by
    rcases (mgO_some ((mg_mem ha hb x).1 hx)).1 with h | h
    · exact aids_mem ha h
    · exact aids_mem hb h) (mg_asc _ _ _)
theorem aids_24 {l : List AidX} (h : aidsB l = true) : l.length ≤ 24 := by
  simp only [aidsB, decide_eq_true_eq] at h; exact h.1
/-- What MergeAids answers for valid lists. -/
def mgK (base a b : List AidX) : Int := if cfP base a b = [] then (if (mgL base a b).length ≤ 24 then 0 else 5) else 6
end Go.Proofs.YtpfnnjcochhklaaGreatDoor

/- An aid is put into a list: the reference's l12Put; and what keeps a list valid. -/
namespace Go.Proofs.YtpfnnjcochhklaaGreatDoor
open Go.RowKit
theorem pair_of {l : List AidX} (h : aidsB l = true) : l.Pairwise fun a b => a.num < b.num := rise_asc h
/-- An aid that is put in at its place. -/
theorem put_valid {l : List AidX} {a : AidX} {k : Nat} (h : aidsB l = true) (ha : aidB a = true) (h24 : l.length < 24) (hlow : ∀ (j : Nat) (x : AidX), j < k → l[j]? = some x → x.num < a.num) (hk : ∀ x, l[k]? = some x → a.num < x.num) : aidsB (l.take k ++ a :: l.drop k) = true := by
  have hp := pair_of h
  have hup : ∀ y ∈ l.drop k, a.num < y.num := fun y hy => by
    obtain ⟨i, hi⟩ := List.getElem?_of_mem hy
    rw [List.getElem?_drop] at hi
    cases i with
    | zero => exact hk y hi
    | succ i =>
      obtain ⟨h1, h2⟩ := List.getElem?_eq_some_iff.1 hi
      have hx : l[k]? = some (l[k]'(by omega)) := List.getElem?_eq_getElem _
      have h3 := hk _ hx
      have h4 := (List.pairwise_iff_getElem.1 hp) k (k + (i + 1)) (by omega) h1 (by omega)
      rw [h2] at h4
      omega
  have hdn : ∀ x ∈ l.take k, x.num < a.num := fun x hx => by
    obtain ⟨i, hi⟩ := List.getElem?_of_mem hx
    rw [List.getElem?_take] at hi
    split at hi
    · rename_i h1; exact hlow i x h1 hi
    · cases hi
  refine aids_of (by simp; omega) (fun x hx => ?_) ?_
  · rcases List.mem_append.1 hx with h1 | h1
    · exact aids_mem h (List.mem_of_mem_take h1)
    · rcases List.mem_cons.1 h1 with rfl | h2
      · exact ha
      · exact aids_mem h (List.mem_of_mem_drop h2)
  · rw [List.pairwise_append]
    refine ⟨hp.sublist (List.take_sublist _ _), List.pairwise_cons.2 ⟨hup, hp.sublist (List.drop_sublist _ _)⟩, fun x hx y hy => ?_⟩
    rcases List.mem_cons.1 hy with rfl | h2
    · exact hdn x hx
    · have := hdn x hx
      have := hup y h2
      omega
theorem rp_valid {l : List AidX} {a : AidX} (h : aidsB l = true) (ha : aidB a = true) (h0 : rpK l a = 0) : aidsB (rpL l a) = true := by
  rw [rpK] at h0
  rw [rpL]
  cases hf : fdN l a.num with
  | none => rw [hf] at h0; simp at h0
  | some k =>
    rw [Option.elim_some]
    obtain ⟨x, hx, hn, hk⟩ := fdN_at hf
    have hp := pair_of h
    have hl := aids_24 h
    have hnum : ∀ (i : Nat) (h1 : i < (l.set k a).length) (h2 : i < l.length), ((l.set k a)[i]).num = (l[i]).num := fun i h1 h2 => by
      rw [List.getElem_set]
      split
      · rename_i e
        subst e
        rw [List.getElem?_eq_getElem hk] at hx
        injection hx with hx
        rw [hx, hn]
      · rfl
    refine aids_of (by rw [List.length_set]; exact hl) (fun y hy => ?_) (List.pairwise_iff_getElem.2 fun i j hi hj hij => ?_)
    · rcases List.mem_or_eq_of_mem_set hy with h1 | rfl
      · exact aids_mem h h1
      · exact ha
    · have h1 := hi
      have h2 := hj
      rw [List.length_set] at h1 h2
      rw [hnum i hi h1, hnum j hj h2]
      exact (List.pairwise_iff_getElem.1 hp) i j h1 h2 hij
theorem dr_valid {l : List AidX} {v : Int} (h : aidsB l = true) : aidsB (drL l v) = true := by
  rw [drL]
  cases hf : fdN l v with
  | none =>
    show aidsB [] = true
    decide
  | some k =>
    rw [Option.elim_some]
    have hs : (l.take k ++ l.drop (k + 1)).Sublist l := by
      have h1 := List.Sublist.append (List.Sublist.refl (l.take k)) (show (l.drop (k + 1)).Sublist (l.drop k) from by rw [← List.drop_drop]; exact List.drop_sublist _ _)
      rwa [List.take_append_drop] at h1
    exact aids_of (Nat.le_trans hs.length_le (aids_24 h)) (fun x hx => aids_mem h (hs.subset hx)) ((pair_of h).sublist hs)
/-- What is known of a list that l12Put gives. -/
def PutP (l m : List AidX) (a : AidX) (K : Int) : Prop := K = 0 → l.length ≠ 24 ∧ ∃ k, m = l.take k ++ a :: l.drop k ∧ (∀ (j : Nat) (x : AidX), j < k → l[j]? = some x → x.num < a.num) ∧ ∀ x, l[k]? = some x → a.num < x.num
theorem PutP.valid {l m : List AidX} {a : AidX} (h : PutP l m a 0) (hl : aidsB l = true) (ha : aidB a = true) : aidsB m = true := by
  obtain ⟨h1, k, rfl, h2, h3⟩ := h rfl
  have := aids_24 hl
  exact put_valid hl ha (by omega) h2 h3
def PutAns (l : List AidX) (a : AidX) (w : World) (e : Ending) (w' : World) : Prop := ∃ (A' : Option Addr) (n' c' : Nat) (zs' : List AidG) (K : Int), e = .returned (.tuple #[.slice A' n' c', .int .i64 K]) ∧ PutP l (zs'.map AidG.a) a K ∧ AidOwn w' w.heap.size (.slice A' n' c') n' zs' ∧ Below w.heap.size w w'
set_option maxRecDepth 100000 in
set_option maxHeartbeats 8000000 in
theorem l12Put_c (A : Option Addr) (n c : Nat) (zs : List AidG) (b o : Nat) (z : AidG) (w : World) (h : AidSl w A n zs) (hm : n ≤ 1000) (hc : n ≤ c) (hA : (A = none ∧ c = 0) ∨ ∃ d f, A = some ⟨d, f, none⟩) (hz : AidOk w z) (hp : AidP w b o z) :
    Calls Tryz.prog 41 #[.slice A n c, .pointer (some ⟨b, o, none⟩)] w (PutAns (zs.map AidG.a) z.a w) := by
  obtain ⟨i0, hi, hz0, hz1, hz2⟩ := info_parts aidInfo
  have hl : (zs.map AidG.a).length = n := by rw [List.length_map]; exact h.len
  have Hl := Lib.hid hl; clear hl
  have HZ := Lib.hid hz; clear hz
  go_enter Tryz.func41, Tryz.ntmps41
  go_wp2_with fail
  go_loopw [6] (fun i wr => ∃ k : Nat, k ≤ n ∧ i = .int .i64 k ∧ Hid (∀ (j : Nat) (x : AidX), j < k → (zs.map AidG.a)[j]? = some x → x.num < z.a.num) ∧ Below w.heap.size w wr) (fun i _ => n - (intOf i).toNat)
  case atStart => exact ⟨0, Nat.zero_le _, rfl, Lib.hid (fun j x hj => absurd hj (by omega)), Below.refl _ _⟩
  case round =>
    obtain ⟨k, hk, rfl, Hs, hbw⟩ := hrel
    have k0 : (0 : Int) ≤ (k : Int) := by omega
    have q0 := (keepC hbw b hp.hb o).trans hp.c0
    by_cases hlt : k < n
    · have k1 : (k : Int) < (n : Int) := by omega
      obtain ⟨bb, off, y, rfl, hx, _, hpy⟩ := (h.next hbw).get k hlt
      have c0 := hpy.c0
      have hxa : (zs.map AidG.a)[k]? = some y.a := by rw [List.getElem?_map, hx]; rfl
      clear hpy hx
      have Hxa := Lib.hid hxa; clear hxa
      by_cases hn : y.a.num < z.a.num
      · have Hn := Lib.hid hn; clear hn
        have hn := Hn.out
        go_wp2_with fail
        go_quiet (fail)
        go_wp2_with fail
        go_roundw
        case rel => exact ⟨k + 1, by omega, by go_num, Lib.hid (fun j x hj hb => by
          rcases Nat.lt_or_ge j k with h2 | h2
          · exact Hs.out j x h2 hb
          · obtain rfl : j = k := by omega
            rw [Hxa.out] at hb
            injection hb with hb
            rw [← hb]; exact Hn.out), by (repeat (first | (with_reducible assumption) | (with_reducible exact Below.refl _ _) | exact Nat.le_refl _ | exact Below.size (by with_reducible assumption) | (with_reducible refine Below.drew ?_) | (with_reducible refine below_drewN ?_ _) | (with_reducible refine Below.alloc ?_ ?_ _) | (with_reducible refine Below.setCell ?_ ?_ _) | (with_reducible refine le_alloc ?_ _) | (with_reducible refine le_set ?_ _ _) | (with_reducible refine le_drew ?_) | (with_reducible refine le_drewN ?_ _) | omega | (dsimp only; omega)))⟩
        case measure => simp [intOf]; omega
      · go_wp2_with fail
        go_quiet (fail)
        by_cases he : y.a.num = z.a.num
        · have he1 : (y.a.num == z.a.num) = true := by simpa using he
          go_wp2_with fail
          go_quiet (fail)
          go_wp2_with fail
          go_ret2
          exact ⟨none, 0, 0, [], 4, rfl, fun h => absurd h (by decide), ⟨World.ownsRow_nil _ _ _ _, fun y hy => by cases hy⟩, by (repeat (first | (with_reducible assumption) | (with_reducible exact Below.refl _ _) | exact Nat.le_refl _ | exact Below.size (by with_reducible assumption) | (with_reducible refine Below.drew ?_) | (with_reducible refine below_drewN ?_ _) | (with_reducible refine Below.alloc ?_ ?_ _) | (with_reducible refine Below.setCell ?_ ?_ _) | (with_reducible refine le_alloc ?_ _) | (with_reducible refine le_set ?_ _ _) | (with_reducible refine le_drew ?_) | (with_reducible refine le_drewN ?_ _) | omega | (dsimp only; omega)))⟩
        · have he1 : (y.a.num == z.a.num) = false := by simpa using he
          go_wp2_with fail
          go_quiet (fail)
          by_cases h24 : n = 24
          · subst h24
            go_wp2_with fail
            go_ret2
            exact ⟨none, 0, 0, [], 5, rfl, fun h => absurd h (by decide), ⟨World.ownsRow_nil _ _ _ _, fun y hy => by cases hy⟩, by (repeat (first | (with_reducible assumption) | (with_reducible exact Below.refl _ _) | exact Nat.le_refl _ | exact Below.size (by with_reducible assumption) | (with_reducible refine Below.drew ?_) | (with_reducible refine below_drewN ?_ _) | (with_reducible refine Below.alloc ?_ ?_ _) | (with_reducible refine Below.setCell ?_ ?_ _) | (with_reducible refine le_alloc ?_ _) | (with_reducible refine le_set ?_ _ _) | (with_reducible refine le_drew ?_) | (with_reducible refine le_drewN ?_ _) | omega | (dsimp only; omega)))⟩
          · have hup : ∀ x, (zs.map AidG.a)[k]? = some x → z.a.num < x.num := fun x hb => by
              rw [Hxa.out] at hb
              injection hb with hb
              rw [← hb]; omega
            have hsf := h.suf k hk
            have k2 : (k : Int) ≤ (c : Int) := by omega
            have k3 : (k : Int) ≤ (n : Int) := by omega
            have k4 : (n : Int) ≤ (c : Int) := by omega
            have hck : c ≠ k := by omega
            have Hup := Lib.hid hup; clear hup
            have HSF := Lib.hid hsf; clear hsf
            clear c0 q0
            go_wp2_with fail
            have hpf := h.pre k (by omega)
            have e63 : k + 1 ≤ maxLen := by unfold maxLen; omega
            have e32 : (k + 1) * 208 ≤ 140737488355328 := by omega
            have f63 : k + 1 + ((n - k)) ≤ maxLen := by unfold maxLen; omega
            have f32 : (k + 1 + ((n - k))) * 208 ≤ 140737488355328 := by omega
            have hbq : ∀ m, Below w.heap.size w (wr.drewN m) := fun m => by (repeat (first | (with_reducible assumption) | (with_reducible exact Below.refl _ _) | exact Nat.le_refl _ | exact Below.size (by with_reducible assumption) | (with_reducible refine Below.drew ?_) | (with_reducible refine below_drewN ?_ _) | (with_reducible refine Below.alloc ?_ ?_ _) | (with_reducible refine Below.setCell ?_ ?_ _) | (with_reducible refine le_alloc ?_ _) | (with_reducible refine le_set ?_ _ _) | (with_reducible refine le_drew ?_) | (with_reducible refine le_drewN ?_ _) | omega | (dsimp only; omega)))
            have HPF := Lib.hid hpf; clear hpf
            have E63 := Lib.hid e63; clear e63
            have E32 := Lib.hid e32; clear e32
            have F63 := Lib.hid f63; clear f63
            have F32 := Lib.hid f32; clear f32
            refine (l12OwnAll_c _ _ _ _ _ (HPF.out.next (hbq _)) (by omega)).mono ?_
            rintro e w2 ⟨A2, c2, zs2, rfl, hx2, hO2, hb2⟩
            have hbw2 := (hbq _).trans (hb2.mono (hbq _).size)
            have hOw := l12Own_c b o z w2 (HZ.out.next hbw2) (hp.next hbw2)
            have hO2' : AidOwn w2 w.heap.size (.slice A2 k c2) k zs2 := ⟨own_base hO2.own (hbq _).size, fun z hz => (hO2.new z hz).base (hbq _).size⟩
            have HOw := Lib.hid hOw; clear hOw
            have HO2 := Lib.hid hO2'; clear hO2'
            have Hx2 := Lib.hid hx2; clear hx2
            clear hO2 hb2
            go_wp2_with fail
            refine HOw.out.mono ?_
            rintro e w3 ⟨z3, rfl, ha3, hN3, hb3⟩
            have HO3 := Lib.hid (HO2.out.next hb3)
            have HN3 := Lib.hid (hN3.base hbw2.size)
            have hbw3 := hbw2.trans (hb3.mono hbw2.size)
            have hbA : Below w3.heap.size w3 (w3.alloc (.cells z3.cells.toArray 56)) := (Below.refl _ _).alloc (Nat.le_refl _) _
            have HS3 := Lib.hid (Sl.new w3 56 z3.cells 1 16 rfl)
            have HA3 := Lib.hid (HO3.out.own.alloc (.cells z3.cells.toArray 56))
            have HLE := Lib.hid (le_alloc hbw3.size (.cells z3.cells.toArray 56))
            have Ha3 := Lib.hid ha3; clear ha3
            clear hN3 HOw HO2
            go_wp2_with (at_builtin; refine wpl_append _ rfl (.tmp 49) (.tmp 52) _ rfl w.heap.size 56 i0 _ 16 208 Tryz.underlying24 hi hz0 hz1 hz2 rfl (by omega) _ k _ rfl HA3.out (w3.heap.size + 1) (some ⟨w3.heap.size, 0, none⟩) 1 1 z3.cells rfl HS3.out (aidg_one z3) E63.out E32.out HLE.out ?_; intro v6 w6 ho6 hg6 hat6)
            have hO6 := HO3.out.push HN3.out hbA hg6 ho6
            have hbw6 : Below w.heap.size w w6 := (hbw3.trans (hbA.mono hbw3.size)).grown hg6 HLE.out fun g hg => (HO3.out.own.lt g hg).1
            obtain ⟨A6, c6, rfl⟩ := own_slice ho6
            have HO6 := Lib.hid hO6; clear hO6
            clear ho6 hg6 hat6 HO3 HN3 HS3 HA3 HLE hbA
            refine (l12OwnAll_c (some ⟨bb, off + k * 16, none⟩) ((n - k)) ((c - k)) ((zs.drop k)) _ (HSF.out.next hbw6) (by omega)).mono ?_
            rintro e w7 ⟨A7, c7, zs7, rfl, hx7, hO7, hb7⟩
            have HS7 := Lib.hid (Sl.of_own hO7.own)
            have HO67 := Lib.hid (HO6.out.next hb7)
            have HLE7 := Lib.hid (Nat.le_trans hbw6.size hb7.size)
            have Hx7 := Lib.hid hx7; clear hx7
            go_wp2_with (at_builtin; refine wpl_append _ rfl (.tmp 54) (.tmp 58) _ rfl w.heap.size 56 i0 _ 16 208 Tryz.underlying24 hi hz0 hz1 hz2 rfl (by omega) _ (k + 1) _ rfl HO67.out.own w7.heap.size A7 ((n - k)) c7 _ rfl HS7.out (aids_one zs7) F63.out F32.out HLE7.out ?_; intro v8 w8 ho8 hg8 hat8)
            have hO := HO67.out.append (fun z hz => (hO7.new z hz).base hbw6.size) hg8 ho8
            have hb67 := hbw6.trans (hb7.mono hbw6.size)
            have hb8 : Below w.heap.size w w8 := hb67.grown hg8 hb67.size fun g hg => (HO67.out.own.lt g hg).1
            obtain ⟨A8, c8, rfl⟩ := own_slice ho8
            go_ret2
            exact ⟨A8, k + 1 + ((n - k)), c8, zs2 ++ [z3] ++ zs7, 0, rfl, fun _ => ⟨by rw [Hl.out]; exact h24, k, by rw [List.map_append, List.map_append, Hx2.out, Hx7.out, List.map_cons, List.map_nil, Ha3.out]; simp [List.map_take, List.map_drop], Hs.out, Hup.out⟩, hO, hb8⟩
    · obtain rfl : k = n := by omega
      go_wp2_with fail
      go_quiet (fail)
      go_wp2_with fail
      go_quiet (fail)
      by_cases h24 : k = 24
      · subst h24
        go_wp2_with fail
        go_ret2
        exact ⟨none, 0, 0, [], 5, rfl, fun h => absurd h (by decide), ⟨World.ownsRow_nil _ _ _ _, fun y hy => by cases hy⟩, by (repeat (first | (with_reducible assumption) | (with_reducible exact Below.refl _ _) | exact Nat.le_refl _ | exact Below.size (by with_reducible assumption) | (with_reducible refine Below.drew ?_) | (with_reducible refine below_drewN ?_ _) | (with_reducible refine Below.alloc ?_ ?_ _) | (with_reducible refine Below.setCell ?_ ?_ _) | (with_reducible refine le_alloc ?_ _) | (with_reducible refine le_set ?_ _ _) | (with_reducible refine le_drew ?_) | (with_reducible refine le_drewN ?_ _) | omega | (dsimp only; omega)))⟩
      · have hup : ∀ x, (zs.map AidG.a)[k]? = some x → z.a.num < x.num := fun x hb => by
          have := (List.getElem?_eq_some_iff.1 hb).1
          rw [Hl.out] at this
          omega
        have hdn : zs.drop k = [] := List.drop_of_length_le (by have := Hl.out; rw [List.length_map] at this; omega)
        have hsf : ∀ A', AidSl w A' 0 (zs.drop k) := fun A' => by rw [hdn]; exact AidSl.nil _ _
        have k2 : (k : Int) ≤ (c : Int) := by omega
        clear q0 hdn
        have Hup := Lib.hid hup; clear hup
        rcases hA with ⟨rfl, rfl⟩ | ⟨d, f, rfl⟩
        · obtain rfl : k = 0 := by omega
          have hsf := hsf none
          have HSF := Lib.hid hsf; clear hsf
          go_wp2_with fail
          have hpf := h.pre 0 (by omega)
          have e63 : 0 + 1 ≤ maxLen := by unfold maxLen; omega
          have e32 : (0 + 1) * 208 ≤ 140737488355328 := by omega
          have f63 : 0 + 1 + (0) ≤ maxLen := by unfold maxLen; omega
          have f32 : (0 + 1 + (0)) * 208 ≤ 140737488355328 := by omega
          have hbq : ∀ m, Below w.heap.size w (wr.drewN m) := fun m => by (repeat (first | (with_reducible assumption) | (with_reducible exact Below.refl _ _) | exact Nat.le_refl _ | exact Below.size (by with_reducible assumption) | (with_reducible refine Below.drew ?_) | (with_reducible refine below_drewN ?_ _) | (with_reducible refine Below.alloc ?_ ?_ _) | (with_reducible refine Below.setCell ?_ ?_ _) | (with_reducible refine le_alloc ?_ _) | (with_reducible refine le_set ?_ _ _) | (with_reducible refine le_drew ?_) | (with_reducible refine le_drewN ?_ _) | omega | (dsimp only; omega)))
          have HPF := Lib.hid hpf; clear hpf
          have E63 := Lib.hid e63; clear e63
          have E32 := Lib.hid e32; clear e32
          have F63 := Lib.hid f63; clear f63
          have F32 := Lib.hid f32; clear f32
          refine (l12OwnAll_c _ _ _ _ _ (HPF.out.next (hbq _)) (by omega)).mono ?_
          rintro e w2 ⟨A2, c2, zs2, rfl, hx2, hO2, hb2⟩
          have hbw2 := (hbq _).trans (hb2.mono (hbq _).size)
          have hOw := l12Own_c b o z w2 (HZ.out.next hbw2) (hp.next hbw2)
          have hO2' : AidOwn w2 w.heap.size (.slice A2 0 c2) 0 zs2 := ⟨own_base hO2.own (hbq _).size, fun z hz => (hO2.new z hz).base (hbq _).size⟩
          have HOw := Lib.hid hOw; clear hOw
          have HO2 := Lib.hid hO2'; clear hO2'
          have Hx2 := Lib.hid hx2; clear hx2
          clear hO2 hb2
          go_wp2_with fail
          refine HOw.out.mono ?_
          rintro e w3 ⟨z3, rfl, ha3, hN3, hb3⟩
          have HO3 := Lib.hid (HO2.out.next hb3)
          have HN3 := Lib.hid (hN3.base hbw2.size)
          have hbw3 := hbw2.trans (hb3.mono hbw2.size)
          have hbA : Below w3.heap.size w3 (w3.alloc (.cells z3.cells.toArray 56)) := (Below.refl _ _).alloc (Nat.le_refl _) _
          have HS3 := Lib.hid (Sl.new w3 56 z3.cells 1 16 rfl)
          have HA3 := Lib.hid (HO3.out.own.alloc (.cells z3.cells.toArray 56))
          have HLE := Lib.hid (le_alloc hbw3.size (.cells z3.cells.toArray 56))
          have Ha3 := Lib.hid ha3; clear ha3
          clear hN3 HOw HO2
          go_wp2_with (at_builtin; refine wpl_append _ rfl (.tmp 49) (.tmp 52) _ rfl w.heap.size 56 i0 _ 16 208 Tryz.underlying24 hi hz0 hz1 hz2 rfl (by omega) _ 0 _ rfl HA3.out (w3.heap.size + 1) (some ⟨w3.heap.size, 0, none⟩) 1 1 z3.cells rfl HS3.out (aidg_one z3) E63.out E32.out HLE.out ?_; intro v6 w6 ho6 hg6 hat6)
          have hO6 := HO3.out.push HN3.out hbA hg6 ho6
          have hbw6 : Below w.heap.size w w6 := (hbw3.trans (hbA.mono hbw3.size)).grown hg6 HLE.out fun g hg => (HO3.out.own.lt g hg).1
          obtain ⟨A6, c6, rfl⟩ := own_slice ho6
          have HO6 := Lib.hid hO6; clear hO6
          clear ho6 hg6 hat6 HO3 HN3 HS3 HA3 HLE hbA
          refine (l12OwnAll_c (none) (0) (0) ((zs.drop 0)) _ (HSF.out.next hbw6) (by omega)).mono ?_
          rintro e w7 ⟨A7, c7, zs7, rfl, hx7, hO7, hb7⟩
          have HS7 := Lib.hid (Sl.of_own hO7.own)
          have HO67 := Lib.hid (HO6.out.next hb7)
          have HLE7 := Lib.hid (Nat.le_trans hbw6.size hb7.size)
          have Hx7 := Lib.hid hx7; clear hx7
          go_wp2_with (at_builtin; refine wpl_append _ rfl (.tmp 54) (.tmp 58) _ rfl w.heap.size 56 i0 _ 16 208 Tryz.underlying24 hi hz0 hz1 hz2 rfl (by omega) _ (0 + 1) _ rfl HO67.out.own w7.heap.size A7 (0) c7 _ rfl HS7.out (aids_one zs7) F63.out F32.out HLE7.out ?_; intro v8 w8 ho8 hg8 hat8)
          have hO := HO67.out.append (fun z hz => (hO7.new z hz).base hbw6.size) hg8 ho8
          have hb67 := hbw6.trans (hb7.mono hbw6.size)
          have hb8 : Below w.heap.size w w8 := hb67.grown hg8 hb67.size fun g hg => (HO67.out.own.lt g hg).1
          obtain ⟨A8, c8, rfl⟩ := own_slice ho8
          go_ret2
          exact ⟨A8, 0 + 1 + (0), c8, zs2 ++ [z3] ++ zs7, 0, rfl, fun _ => ⟨by rw [Hl.out]; exact h24, 0, by rw [List.map_append, List.map_append, Hx2.out, Hx7.out, List.map_cons, List.map_nil, Ha3.out]; simp, Hs.out, Hup.out⟩, hO, hb8⟩
        · by_cases hck : c = k
          · subst hck
            have hsf := hsf (some ⟨d, f, none⟩)
            have HSF := Lib.hid hsf; clear hsf
            go_wp2_with fail
            have hpf := h.pre c (by omega)
            have e63 : c + 1 ≤ maxLen := by unfold maxLen; omega
            have e32 : (c + 1) * 208 ≤ 140737488355328 := by omega
            have f63 : c + 1 + (0) ≤ maxLen := by unfold maxLen; omega
            have f32 : (c + 1 + (0)) * 208 ≤ 140737488355328 := by omega
            have hbq : ∀ m, Below w.heap.size w (wr.drewN m) := fun m => by (repeat (first | (with_reducible assumption) | (with_reducible exact Below.refl _ _) | exact Nat.le_refl _ | exact Below.size (by with_reducible assumption) | (with_reducible refine Below.drew ?_) | (with_reducible refine below_drewN ?_ _) | (with_reducible refine Below.alloc ?_ ?_ _) | (with_reducible refine Below.setCell ?_ ?_ _) | (with_reducible refine le_alloc ?_ _) | (with_reducible refine le_set ?_ _ _) | (with_reducible refine le_drew ?_) | (with_reducible refine le_drewN ?_ _) | omega | (dsimp only; omega)))
            have HPF := Lib.hid hpf; clear hpf
            have E63 := Lib.hid e63; clear e63
            have E32 := Lib.hid e32; clear e32
            have F63 := Lib.hid f63; clear f63
            have F32 := Lib.hid f32; clear f32
            refine (l12OwnAll_c _ _ _ _ _ (HPF.out.next (hbq _)) (by omega)).mono ?_
            rintro e w2 ⟨A2, c2, zs2, rfl, hx2, hO2, hb2⟩
            have hbw2 := (hbq _).trans (hb2.mono (hbq _).size)
            have hOw := l12Own_c b o z w2 (HZ.out.next hbw2) (hp.next hbw2)
            have hO2' : AidOwn w2 w.heap.size (.slice A2 c c2) c zs2 := ⟨own_base hO2.own (hbq _).size, fun z hz => (hO2.new z hz).base (hbq _).size⟩
            have HOw := Lib.hid hOw; clear hOw
            have HO2 := Lib.hid hO2'; clear hO2'
            have Hx2 := Lib.hid hx2; clear hx2
            clear hO2 hb2
            go_wp2_with fail
            refine HOw.out.mono ?_
            rintro e w3 ⟨z3, rfl, ha3, hN3, hb3⟩
            have HO3 := Lib.hid (HO2.out.next hb3)
            have HN3 := Lib.hid (hN3.base hbw2.size)
            have hbw3 := hbw2.trans (hb3.mono hbw2.size)
            have hbA : Below w3.heap.size w3 (w3.alloc (.cells z3.cells.toArray 56)) := (Below.refl _ _).alloc (Nat.le_refl _) _
            have HS3 := Lib.hid (Sl.new w3 56 z3.cells 1 16 rfl)
            have HA3 := Lib.hid (HO3.out.own.alloc (.cells z3.cells.toArray 56))
            have HLE := Lib.hid (le_alloc hbw3.size (.cells z3.cells.toArray 56))
            have Ha3 := Lib.hid ha3; clear ha3
            clear hN3 HOw HO2
            go_wp2_with (at_builtin; refine wpl_append _ rfl (.tmp 49) (.tmp 52) _ rfl w.heap.size 56 i0 _ 16 208 Tryz.underlying24 hi hz0 hz1 hz2 rfl (by omega) _ c _ rfl HA3.out (w3.heap.size + 1) (some ⟨w3.heap.size, 0, none⟩) 1 1 z3.cells rfl HS3.out (aidg_one z3) E63.out E32.out HLE.out ?_; intro v6 w6 ho6 hg6 hat6)
            have hO6 := HO3.out.push HN3.out hbA hg6 ho6
            have hbw6 : Below w.heap.size w w6 := (hbw3.trans (hbA.mono hbw3.size)).grown hg6 HLE.out fun g hg => (HO3.out.own.lt g hg).1
            obtain ⟨A6, c6, rfl⟩ := own_slice ho6
            have HO6 := Lib.hid hO6; clear hO6
            clear ho6 hg6 hat6 HO3 HN3 HS3 HA3 HLE hbA
            refine (l12OwnAll_c (some ⟨d, f, none⟩) (0) (0) ((zs.drop c)) _ (HSF.out.next hbw6) (by omega)).mono ?_
            rintro e w7 ⟨A7, c7, zs7, rfl, hx7, hO7, hb7⟩
            have HS7 := Lib.hid (Sl.of_own hO7.own)
            have HO67 := Lib.hid (HO6.out.next hb7)
            have HLE7 := Lib.hid (Nat.le_trans hbw6.size hb7.size)
            have Hx7 := Lib.hid hx7; clear hx7
            go_wp2_with (at_builtin; refine wpl_append _ rfl (.tmp 54) (.tmp 58) _ rfl w.heap.size 56 i0 _ 16 208 Tryz.underlying24 hi hz0 hz1 hz2 rfl (by omega) _ (c + 1) _ rfl HO67.out.own w7.heap.size A7 (0) c7 _ rfl HS7.out (aids_one zs7) F63.out F32.out HLE7.out ?_; intro v8 w8 ho8 hg8 hat8)
            have hO := HO67.out.append (fun z hz => (hO7.new z hz).base hbw6.size) hg8 ho8
            have hb67 := hbw6.trans (hb7.mono hbw6.size)
            have hb8 : Below w.heap.size w w8 := hb67.grown hg8 hb67.size fun g hg => (HO67.out.own.lt g hg).1
            obtain ⟨A8, c8, rfl⟩ := own_slice ho8
            go_ret2
            exact ⟨A8, c + 1 + (0), c8, zs2 ++ [z3] ++ zs7, 0, rfl, fun _ => ⟨by rw [Hl.out]; exact h24, c, by rw [List.map_append, List.map_append, Hx2.out, Hx7.out, List.map_cons, List.map_nil, Ha3.out]; simp [List.map_take, List.map_drop], Hs.out, Hup.out⟩, hO, hb8⟩
          · have hsf := hsf (some ⟨d, f + k * 16, none⟩)
            have HSF := Lib.hid hsf; clear hsf
            go_wp2_with fail
            have hpf := h.pre k (by omega)
            have e63 : k + 1 ≤ maxLen := by unfold maxLen; omega
            have e32 : (k + 1) * 208 ≤ 140737488355328 := by omega
            have f63 : k + 1 + (0) ≤ maxLen := by unfold maxLen; omega
            have f32 : (k + 1 + (0)) * 208 ≤ 140737488355328 := by omega
            have hbq : ∀ m, Below w.heap.size w (wr.drewN m) := fun m => by (repeat (first | (with_reducible assumption) | (with_reducible exact Below.refl _ _) | exact Nat.le_refl _ | exact Below.size (by with_reducible assumption) | (with_reducible refine Below.drew ?_) | (with_reducible refine below_drewN ?_ _) | (with_reducible refine Below.alloc ?_ ?_ _) | (with_reducible refine Below.setCell ?_ ?_ _) | (with_reducible refine le_alloc ?_ _) | (with_reducible refine le_set ?_ _ _) | (with_reducible refine le_drew ?_) | (with_reducible refine le_drewN ?_ _) | omega | (dsimp only; omega)))
            have HPF := Lib.hid hpf; clear hpf
            have E63 := Lib.hid e63; clear e63
            have E32 := Lib.hid e32; clear e32
            have F63 := Lib.hid f63; clear f63
            have F32 := Lib.hid f32; clear f32
            refine (l12OwnAll_c _ _ _ _ _ (HPF.out.next (hbq _)) (by omega)).mono ?_
            rintro e w2 ⟨A2, c2, zs2, rfl, hx2, hO2, hb2⟩
            have hbw2 := (hbq _).trans (hb2.mono (hbq _).size)
            have hOw := l12Own_c b o z w2 (HZ.out.next hbw2) (hp.next hbw2)
            have hO2' : AidOwn w2 w.heap.size (.slice A2 k c2) k zs2 := ⟨own_base hO2.own (hbq _).size, fun z hz => (hO2.new z hz).base (hbq _).size⟩
            have HOw := Lib.hid hOw; clear hOw
            have HO2 := Lib.hid hO2'; clear hO2'
            have Hx2 := Lib.hid hx2; clear hx2
            clear hO2 hb2
            go_wp2_with fail
            refine HOw.out.mono ?_
            rintro e w3 ⟨z3, rfl, ha3, hN3, hb3⟩
            have HO3 := Lib.hid (HO2.out.next hb3)
            have HN3 := Lib.hid (hN3.base hbw2.size)
            have hbw3 := hbw2.trans (hb3.mono hbw2.size)
            have hbA : Below w3.heap.size w3 (w3.alloc (.cells z3.cells.toArray 56)) := (Below.refl _ _).alloc (Nat.le_refl _) _
            have HS3 := Lib.hid (Sl.new w3 56 z3.cells 1 16 rfl)
            have HA3 := Lib.hid (HO3.out.own.alloc (.cells z3.cells.toArray 56))
            have HLE := Lib.hid (le_alloc hbw3.size (.cells z3.cells.toArray 56))
            have Ha3 := Lib.hid ha3; clear ha3
            clear hN3 HOw HO2
            go_wp2_with (at_builtin; refine wpl_append _ rfl (.tmp 49) (.tmp 52) _ rfl w.heap.size 56 i0 _ 16 208 Tryz.underlying24 hi hz0 hz1 hz2 rfl (by omega) _ k _ rfl HA3.out (w3.heap.size + 1) (some ⟨w3.heap.size, 0, none⟩) 1 1 z3.cells rfl HS3.out (aidg_one z3) E63.out E32.out HLE.out ?_; intro v6 w6 ho6 hg6 hat6)
            have hO6 := HO3.out.push HN3.out hbA hg6 ho6
            have hbw6 : Below w.heap.size w w6 := (hbw3.trans (hbA.mono hbw3.size)).grown hg6 HLE.out fun g hg => (HO3.out.own.lt g hg).1
            obtain ⟨A6, c6, rfl⟩ := own_slice ho6
            have HO6 := Lib.hid hO6; clear hO6
            clear ho6 hg6 hat6 HO3 HN3 HS3 HA3 HLE hbA
            refine (l12OwnAll_c (some ⟨d, f + k * 16, none⟩) (0) ((c - k)) ((zs.drop k)) _ (HSF.out.next hbw6) (by omega)).mono ?_
            rintro e w7 ⟨A7, c7, zs7, rfl, hx7, hO7, hb7⟩
            have HS7 := Lib.hid (Sl.of_own hO7.own)
            have HO67 := Lib.hid (HO6.out.next hb7)
            have HLE7 := Lib.hid (Nat.le_trans hbw6.size hb7.size)
            have Hx7 := Lib.hid hx7; clear hx7
            go_wp2_with (at_builtin; refine wpl_append _ rfl (.tmp 54) (.tmp 58) _ rfl w.heap.size 56 i0 _ 16 208 Tryz.underlying24 hi hz0 hz1 hz2 rfl (by omega) _ (k + 1) _ rfl HO67.out.own w7.heap.size A7 (0) c7 _ rfl HS7.out (aids_one zs7) F63.out F32.out HLE7.out ?_; intro v8 w8 ho8 hg8 hat8)
            have hO := HO67.out.append (fun z hz => (hO7.new z hz).base hbw6.size) hg8 ho8
            have hb67 := hbw6.trans (hb7.mono hbw6.size)
            have hb8 : Below w.heap.size w w8 := hb67.grown hg8 hb67.size fun g hg => (HO67.out.own.lt g hg).1
            obtain ⟨A8, c8, rfl⟩ := own_slice ho8
            go_ret2
            exact ⟨A8, k + 1 + (0), c8, zs2 ++ [z3] ++ zs7, 0, rfl, fun _ => ⟨by rw [Hl.out]; exact h24, k, by rw [List.map_append, List.map_append, Hx2.out, Hx7.out, List.map_cons, List.map_nil, Ha3.out]; simp [List.map_take, List.map_drop], Hs.out, Hup.out⟩, hO, hb8⟩
end Go.Proofs.YtpfnnjcochhklaaGreatDoor

/- Lists of aids that are drawn are valid. -/
namespace Go.Proofs.YtpfnnjcochhklaaGreatDoor
open Go.RowKit
theorem own_form2 {w : World} {base n c sz : Nat} {e : TypeId} {A : Option Addr} {xs : List Value} (h : w.ownsRow base e sz (.slice A n c) n xs) : n ≤ c ∧ ((A = none ∧ c = 0) ∨ ∃ d f, A = some ⟨d, f, none⟩) := by
  rcases h.2 with ⟨h', _⟩ | ⟨g', cap', cur, h', _, _, hnc, _⟩
  · injection h' with h1 h2 h3
    exact ⟨by omega, .inl ⟨h1, h3⟩⟩
  · injection h' with h1 h2 h3
    exact ⟨by omega, .inr ⟨g', 0, h1⟩⟩
/-- A list of aids of the call's own, valid, and the source. -/
structure AidL (w wr : World) (lo b a : Nat) (A : Option Addr) (n c : Nat) (zs : List AidG) : Prop where
  own : AidOwn wr w.heap.size (.slice A n c) n zs
  ok : aidsB (zs.map AidG.a) = true
  sr : Src wr lo b a
  gr : w.grownBy wr (some b)
section
variable {w wr w' : World} {lo b a a' : Nat} {A : Option Addr} {n c : Nat} {zs : List AidG}
theorem AidNew.src {base : Nat} {z : AidG} (h : AidNew wr base z) (hg : wr.grownBy w' (some b)) (hb : b < base) : AidNew w' base z := ⟨own_src h.g hg hb, own_src h.s hg hb⟩
theorem AidL.draw (h : AidL w wr lo b a A n c zs) (hb : b < w.heap.size) (hs : Src w' lo b a') (hg : wr.grownBy w' (some b)) : AidL w w' lo b a' A n c zs :=
  ⟨⟨own_src h.own.own hg hb, fun z hz => (h.own.new z hz).src hg hb⟩, h.ok, hs, grown_trans h.gr hg⟩
theorem AidL.next (h : AidL w wr lo b a A n c zs) (hb : Below wr.heap.size wr w') : AidL w w' lo b a A n c zs := ⟨h.own.next hb, h.ok, h.sr.next hb, grown_trans h.gr (grown_of_below hb)⟩
theorem AidL.more (h : AidL w wr lo b a A n c zs) (ha : a ≤ a') : AidL w wr lo b a' A n c zs := ⟨h.own, h.ok, h.sr.more ha, h.gr⟩
theorem AidL.bd (h : AidL w wr lo b a A n c zs) : ∀ z ∈ zs, AidBd z.a := fun _ hz => valid_bd (aids_mem h.ok (List.mem_map_of_mem hz))
theorem AidL.sl (h : AidL w wr lo b a A n c zs) : AidSl wr A n zs := h.own.sl h.bd
theorem AidL.len (h : AidL w wr lo b a A n c zs) : n ≤ 24 := by
  have h1 := aids_24 h.ok
  rw [List.length_map, h.own.len'] at h1
  exact h1
/-- Another list, in memory made since. -/
theorem AidL.swap (h : AidL w wr lo b a A n c zs) {w2 : World} {A' : Option Addr} {n' c' : Nat} {zs' : List AidG} (hb : Below wr.heap.size wr w2) (ho : AidOwn w2 wr.heap.size (.slice A' n' c') n' zs') (hk : aidsB (zs'.map AidG.a) = true) : AidL w w2 lo b a A' n' c' zs' :=
  ⟨⟨own_base ho.own h.gr.size, fun z hz => (ho.new z hz).base h.gr.size⟩, hk, h.sr.next hb, grown_trans h.gr (grown_of_below hb)⟩
end
def LstAns (lo b a : Nat) (w : World) (e : Ending) (w' : World) : Prop := ∃ (A : Option Addr) (n c : Nat) (zs : List AidG), e = .returned (.slice A n c) ∧ AidL w w' lo b a A n c zs
abbrev DrawC : Prop := ∀ (lo b a : Nat) (w : World), Src w lo b a → a ≤ 600000000 → Calls Tryz.prog 40 #[.pointer (some ⟨b, 0, none⟩)] w (DrawAns lo b (a + 200) w)
set_option maxRecDepth 100000 in
set_option maxHeartbeats 4000000 in
theorem l12DrawOk_c (hD : DrawC) (lo b a : Nat) (w : World) (h : Src w lo b a) (ha : a ≤ 500000000) :
    Calls Tryz.prog 22 #[.pointer (some ⟨b, 0, none⟩)] w (LstAns lo b (a + 2000) w) := by
  have hlt := h.lt.2
  have hbv : Below w.heap.size w (w.alloc (.cells #[] 56)) := (Below.refl _ _).alloc (Nat.le_refl _) _
  have hov := World.ownsRow_made (base := w.heap.size) (e := 56) (size := 16) w #[] 0 (Nat.le_refl _) (by simp [maxLen]) rfl
  have hD0 : AidL w (w.alloc (.cells #[] 56)) lo b a (some ⟨w.heap.size, 0, none⟩) 0 0 [] := ⟨⟨hov, fun z hz => by cases hz⟩, by decide, h.next hbv, grown_of_below hbv⟩
  clear h hbv hov
  have HD0 := Lib.hid hD0; clear hD0
  have HDraw := Lib.hid hD; clear hD
  go_enter Tryz.func22, Tryz.ntmps22
  go_wp2_with fail
  refine (pickN_c 6 lo b a _ HD0.out.sr (by omega) (by omega)).mono ?_
  rintro e w1 ⟨q, rfl, q0, q1, hs1, hg1⟩
  have HD1 := Lib.hid (HD0.out.draw hlt hs1 hg1)
  obtain ⟨q, rfl⟩ := Int.eq_ofNat_of_zero_le q0
  have hq5 : q ≤ 5 := by omega
  clear q0 q1 hs1 hg1 HD0
  go_wp2_with fail
  go_loopw [3, 4] (fun v i wr => ∃ (k n : Nat) (A : Option Addr) (c : Nat) (zs : List AidG), k ≤ 5 ∧ v = .slice A n c ∧ i = .int .i64 k ∧ Hid (AidL w wr lo b (a + 2 + 200 * (5 - k)) A n c zs)) (fun _ i _ => (intOf i).toNat)
  case atStart => exact ⟨q, 0, _, _, [], hq5, rfl, rfl, Lib.hid (HD1.out.more (by omega))⟩
  case round =>
    clear HD1 hq5
    obtain ⟨k, n, A, c, zs, hk, rfl, rfl, HL⟩ := hrel
    by_cases hlk : 0 < k
    · go_wp2_with fail
      refine (HDraw.out lo b (a + 2 + 200 * (5 - k)) _ HL.out.sr (by omega)).mono ?_
      rintro e w5 ⟨z, rfl, hv, hN, hs5, hg5⟩
      have hL5 := HL.out.draw hlt hs5 hg5
      have hN5 := hN.base HL.out.gr.size
      have hbX : Below w5.heap.size w5 (w5.alloc (aidO z 56)) := (Below.refl _ _).alloc (Nat.le_refl _) _
      have hpX := aidp_box w5 z 56
      have hoX := (hN5.next hbX).ok (valid_bd hv)
      have HL6 := Lib.hid (hL5.next hbX)
      have Hv := Lib.hid hv; clear hv
      have HoX := Lib.hid hoX; clear hoX
      have HpX := Lib.hid hpX; clear hpX
      clear hN hN5 hs5 hg5 hL5 hbX HL
      go_wp2_with fail
      change Calls _ _ _ (w5.alloc (aidO z 56)) _
      generalize w5.alloc (aidO z 56) = wX at *
      obtain ⟨f1, f2⟩ := own_form2 HL6.out.own.own
      refine (l12Put_c A n c zs w5.heap.size 0 z _ HL6.out.sl (by have := HL6.out.len; omega) f1 f2 HoX.out HpX.out).mono ?_
      rintro e w7 ⟨A', n', c', zs', K, rfl, hP, hO, hb7⟩
      by_cases hK : K = 0
      · subst hK
        have HL7 := Lib.hid (HL6.out.swap hb7 hO (hP.valid HL6.out.ok Hv.out))
        clear hP hO hb7 HL6
        go_wp2_with fail
        go_roundw
        case rel => exact ⟨k - 1, n', A', c', zs', by omega, rfl, int_eq (by omega), Lib.hid (HL7.out.more (by omega))⟩
        case measure => simp [intOf]; omega
      · have hK0 : (K == 0) = false := by simpa using hK
        have HL7 := Lib.hid (HL6.out.next hb7)
        clear hP hO hb7 HL6
        go_wp2_with fail
        go_roundw
        case rel => exact ⟨k - 1, n, A, c, zs, by omega, rfl, int_eq (by omega), Lib.hid (HL7.out.more (by omega))⟩
        case measure => simp [intOf]; omega
    · obtain rfl : k = 0 := by omega
      go_wp2_with fail
      go_ret
      exact ⟨A, n, c, zs, rfl, HL.out.more (by omega)⟩
set_option maxRecDepth 100000 in
set_option maxHeartbeats 1000000 in
theorem r8Aids_c (hD : DrawC) (A : Option Addr) (n c : Nat) (bs : List Int) (w : World) (hx : Sl w w.heap.size 1 A n (bs.flatMap u8C)) (hb : ∀ x ∈ bs, 0 ≤ x ∧ x ≤ 255) (hn : n ≤ maxLen) :
    Calls Tryz.prog 6 #[.slice A n c] w fun e w' => ∃ (A' : Option Addr) (n' c' : Nat) (zs : List AidG), e = .returned (.slice A' n' c') ∧ AidOwn w' w.heap.size (.slice A' n' c') n' zs ∧ aidsB (zs.map AidG.a) = true ∧ Below w.heap.size w w' := by
  have Hb := Lib.hid hb; clear hb
  have HDraw := Lib.hid hD; clear hD
  go_enter Tryz.func6, Tryz.ntmps6
  go_wp2_with fail
  refine (from_c A n c bs _ hx Hb.out hn).mono ?_
  rintro e w1 ⟨b, rfl, hs1, hb1⟩
  have hlo := hs1.lt
  go_wp2_with fail
  refine (l12DrawOk_c HDraw.out w.heap.size b 0 _ hs1 (by omega)).mono ?_
  rintro e w2 ⟨A2, n2, c2, zs, rfl, hL⟩
  go_wp2_with fail
  go_ret
  exact ⟨A2, n2, c2, zs, rfl, ⟨own_base hL.own.own hb1.size, fun z hz => (hL.own.new z hz).base hb1.size⟩, hL.ok, hb1.grown hL.gr hb1.size fun g hg => by injection hg with hg; omega⟩
end Go.Proofs.YtpfnnjcochhklaaGreatDoor
