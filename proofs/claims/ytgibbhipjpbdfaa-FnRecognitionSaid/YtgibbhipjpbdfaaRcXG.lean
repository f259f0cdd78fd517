/- RcXG: several of my texts in one. -/
import Derived.Test.YtgibbhipjpbdfaaRcFG
import Derived.Test.YtgibbhipjpbdfaaRcIG
import Derived.Test.YtgibbhipjpbdfaaRcTG
import Derived.Test.YtgibbhipjpbdfaaCfS

/- Recognition: the phases of a valid character that is not steady are their own period. Plain. -/
namespace Go.Proofs.Ytgibbhipjpbdfaa
open Go.RowKit
/-- Times that begin and end with a flash, all gaps shorter than R. -/
def goodT (R : Int) : List Int → Prop
  | [] => False
  | [a] => 1 ≤ a
  | a :: b :: r => 1 ≤ a ∧ b < R ∧ goodT R r
theorem goodT_app {R : Int} : ∀ {X : List Int}, goodT R X → ∀ {b f : Int}, b < R → 1 ≤ f → goodT R (X ++ [b, f])
  | [], h, _, _, _, _ => h.elim
  | [_], h, _, _, hb, hf => ⟨h, hb, hf⟩
  | _ :: _ :: _, h, _, _, hb, hf => ⟨h.1, h.2.1, goodT_app h.2.2 hb hf⟩
theorem goodT_pairs {R : Nat} : ∀ {X : List Int}, goodT (R : Int) X → pairsOk R (X ++ [(R : Int)])
  | [], h => h.elim
  | [_], h => ⟨h, rfl⟩
  | [_, _], h => h.2.2.elim
  | _ :: _ :: _ :: _, h => ⟨h.1, h.2.1, goodT_pairs h.2.2⟩
theorem stepT_two (k : Int) (i j : Nat) (h : 0 < j ∨ 0 < i) : ∃ b, stepT k i j = [b, flashI k] ∧ (b = gapI k ∨ (b = gapI k + 20 ∧ 0 < i)) := by
  unfold stepT
  by_cases hj : 0 < j
  · exact ⟨_, by rw [if_pos hj]; rfl, .inl rfl⟩
  · exact ⟨_, by rw [if_neg hj, if_pos (h.resolve_left hj)]; rfl, .inr ⟨rfl, h.resolve_left hj⟩⟩
theorem good_inner {k R : Int} (h1 : gapI k < R) {i : Nat} (h2 : gapI k + 20 < R) (hi : 0 < i) {X : List Int} (hX : goodT R X) : ∀ m, goodT R (X ++ innerT k i m)
  | 0 => by simpa [innerT] using hX
  | m + 1 => by
    obtain ⟨b, e, hb⟩ := stepT_two k i m (.inr hi)
    rw [innerT_next, e, ← List.append_assoc]
    refine goodT_app (good_inner h1 h2 hi hX m) ?_ (by have := flashI_pos k; omega)
    rcases hb with rfl | ⟨rfl, _⟩
    · exact h1
    · exact h2
theorem good_first {k R : Int} (h1 : gapI k < R) : ∀ m, goodT R (innerT k 0 (m + 1))
  | 0 => by
    have := flashI_pos k
    rw [innerT_next]
    simp only [innerT, stepT, List.range_zero, List.flatMap_nil, List.nil_append, Nat.lt_irrefl, if_false]
    simp only [goodT]; omega
  | m + 1 => by
    obtain ⟨b, e, hb⟩ := stepT_two k 0 (m + 1) (.inl (by omega))
    rw [innerT_next, e]
    refine goodT_app (good_first h1 m) ?_ (by have := flashI_pos k; omega)
    rcases hb with rfl | ⟨_, h⟩
    · exact h1
    · omega
theorem good_outer {k R : Int} {g : List Int} (hg : ∀ x ∈ g, 1 ≤ x) (h1 : gapI k < R) (h2 : 1 < g.length → gapI k + 20 < R) : ∀ r, r < g.length → goodT R (outerT k g (r + 1))
  | 0, h => by
    have e : g[0]? = some (g[0]'h) := List.getElem?_eq_getElem h
    rw [outerT_next k e]
    have := hg _ (List.getElem_mem h)
    obtain ⟨m, hm⟩ : ∃ m, (g[0]'h).toNat = m + 1 := ⟨(g[0]'h).toNat - 1, by omega⟩
    rw [hm, show outerT k g 0 = [] from rfl, List.nil_append]
    exact good_first h1 m
  | r + 1, h => by
    have e : g[r + 1]? = some (g[r + 1]'h) := List.getElem?_eq_getElem h
    rw [outerT_next k e]
    exact good_inner h1 (h2 (by omega)) (by omega) (good_outer hg h1 h2 r (by omega)) _
theorem good_mT {R : Int} (h : 5 < R) (s : ByteArray) : ∀ m, goodT R (mT s (m + 1))
  | 0 => by
    have : 1 ≤ signI s 0 := by unfold signI; split <;> omega
    rw [mT_next]
    simp only [mT, List.range_zero, List.flatMap_nil, List.nil_append, Nat.lt_irrefl, if_false]
    simp only [goodT]; omega
  | m + 1 => by
    have hs : 1 ≤ signI s (m + 1) := by unfold signI; split <;> omega
    rw [mT_next, if_pos (by omega)]
    exact goodT_app (good_mT h s m) h hs
theorem times_good {x : Ch} (hv : validB x = true) (hs : steadyB x = false) (h3 : x.k ≠ 3) : goodT (x.p - (timesL x).sum) (timesL x) := by
  have ht := shape_TOk (valid_shape hv)
  have hf : fitsB x = true := by have := valid_shape hv; simp only [shapeB, Bool.and_eq_true] at this; exact this.2
  have hR : restI x ≤ x.p - (timesL x).sum := by
    simp only [validB, Bool.and_eq_true] at hv
    have h2 := hv.2
    rw [if_neg (by rw [hs]; simp)] at h2
    simp only [Bool.and_eq_true] at h2
    have h4 := (inB_iff.1 h2.1).1
    rw [leastI, if_neg (by rw [hs]; simp), if_neg h3] at h4
    omega
  generalize x.p - (timesL x).sum = R at hR
  by_cases h8 : x.k = 8
  · obtain ⟨l1, l2, l3⟩ := ht.mo h8
    have hm := morse_size (letN x) (by unfold letN; omega)
    rw [timesL, if_pos h8]
    obtain ⟨m, hm1⟩ : ∃ m, (morse (letN x)).size = m + 1 := ⟨(morse (letN x)).size - 1, by omega⟩
    rw [hm1]
    rw [restI, if_neg (by omega), if_neg (by omega), if_pos h8] at hR
    exact good_mT (by omega) _ m
  · obtain ⟨g1, g4, g9⟩ := grp_ok h8 ht
    have hk := st_ne1 hs
    have hgap : gapI x.k < R := by
      have := gapI_bd x.k
      unfold restI gapI at hR
      unfold gapI
      (repeat' split at hR) <;> (repeat' split) <;> omega
    have h67 : x.k = 6 ∨ x.k = 7 → (grp x).length = 1 := fun h => by
      have hgs : x.gs.length ≤ 1 := by
        simp only [fitsB] at hf
        rw [if_neg (by omega), if_neg (by omega), if_pos h] at hf
        split at hf
        · have := of_decide_eq_true hf; rw [this]; simp
        · simp only [Bool.and_eq_true, decide_eq_true_eq] at hf; exact hf.2.1
      unfold grp at g1 ⊢
      split
      · rfl
      · rename_i hne; rw [if_neg hne] at g1; omega
    have h20 : 1 < (grp x).length → gapI x.k + 20 < R := fun h => by
      have hn6 : ¬ x.k = 6 := fun e => by have := h67 (.inl e); omega
      have hn7 : ¬ x.k = 7 := fun e => by have := h67 (.inr e); omega
      have hgl : 1 < x.gs.length := by
        unfold grp at h
        split at h
        · simp at h
        · exact h
      rw [restI, if_neg hn6, if_neg hn7, if_neg h8, if_pos hgl] at hR
      omega
    have hgo := good_outer (k := x.k) (fun y hy => (g9 y hy).1) hgap h20 ((grp x).length - 1) (by omega)
    rw [show (grp x).length - 1 + 1 = (grp x).length by omega] at hgo
    rw [timesL, if_neg h8]
    split
    · exact goodT_app hgo hgap (by decide)
    · rw [List.append_nil]; exact hgo
theorem pairs_last {c : Int} {l : Bool} {R : Nat} : ∀ {T : List Int}, pairsOk R T → ∃ A, tenA c l T = A ++ List.replicate R (bif l then 0 else c)
  | [], h => h.elim
  | [_], h => h.elim
  | [a, b], h => by
    obtain ⟨_, rfl⟩ := h
    refine ⟨List.replicate a.toNat (bif l then c else 0), ?_⟩
    rw [tenA, tenA, tenA, List.append_nil, Int.toNat_natCast]
    cases l <;> rfl
  | a :: b :: d :: r, h => by
    obtain ⟨A, e⟩ := pairs_last (c := c) (l := l) h.2.2
    refine ⟨List.replicate a.toNat (bif l then c else 0) ++ (List.replicate b.toNat (bif !l then c else 0) ++ A), ?_⟩
    rw [tenA, tenA, Bool.not_not, e, List.append_assoc, List.append_assoc]
theorem prim_pairs {c : Int} (hc : c ≠ 0) {l : Bool} {R : Nat} (hR : 1 ≤ R) {T : List Int} (h : pairsOk R T) : primB (tenA c l T) := by
  obtain ⟨A, e⟩ := pairs_last (c := c) (l := l) h
  have hl : (tenA c l T).length = A.length + R := by rw [e, List.length_append, List.length_replicate]
  refine prim_run (R := R) (e := bif l then 0 else c) (by omega) (by omega) (fun j hj => ?_) ?_ (fun i hi => win hc hR h i hi)
  · rw [hl, e, List.getElem?_append_right (by omega), List.getElem?_replicate, if_pos (by omega)]
  · rw [pairs_head h]
    intro h1
    have h2 := Option.some.inj h1
    cases l
    · exact hc h2.symm
    · exact hc h2
theorem ten_pairs {x : Ch} {co : ByteArray} (hv : validB x = true) (hs : steadyB x = false) : ∃ l T R, tenC (phasesL x co) = tenA (code co) l T ∧ pairsOk R T ∧ 1 ≤ R := by
  by_cases h3 : x.k = 3
  · have h20 := valid_iso hv h3
    refine ⟨true, [x.p / 2, x.p / 2], (x.p / 2).toNat, ?_, ⟨by omega, by omega⟩, by omega⟩
    rw [phasesL, if_neg (st_ne1 hs), if_pos h3]
    simp [tenC, tenL, tenA, code_emp]
  · have hsm := valid_sum hv hs h3
    have hg := times_good hv hs h3
    obtain ⟨R, hR⟩ : ∃ R : Nat, x.p - (timesL x).sum = (R : Int) := ⟨(x.p - (timesL x).sum).toNat, by omega⟩
    refine ⟨!ocB x, allT x, R, by rw [ph_alt co hs h3, ten_alt], ?_, by omega⟩
    rw [allT, hR]
    rw [hR] at hg
    exact goodT_pairs hg
theorem prim_own {x : Ch} {co : ByteArray} (hv : validB x = true) (hs : steadyB x = false) (hc : code co ≠ 0) : primB (tenC (phasesL x co)) := by
  obtain ⟨l, T, R, e, h, hR⟩ := ten_pairs (co := co) hv hs
  rw [e]
  exact prim_pairs hc hR h
theorem own_per {x : Ch} {co : ByteArray} (hv : validB x = true) (hs : steadyB x = false) (hc : code co ≠ 0) : ((onceB (tenC (phasesL x co))).length : Int) = x.p := by
  rw [prim_once (prim_own hv hs hc), len_own hv hs]
end Go.Proofs.Ytgibbhipjpbdfaa

/- Recognition: the phases of a valid character in one of its colors are recognised. Plain. -/
namespace Go.Proofs.Ytgibbhipjpbdfaa
open Go.RowKit
theorem ba_of {l : ByteArray} {xs : List UInt8} (h : l.toList = xs) : l = ⟨xs.toArray⟩ := by
  rw [ByteArray.toList_eq] at h
  cases l with
  | mk d =>
    rw [ByteArray.mk.injEq, ← Array.toList_inj]
    exact h
theorem isE_is {l : ByteArray} (h : isE l = true) : l = eB := ba_of (List.isEmpty_iff.1 h)
theorem isL_is {l : ByteArray} (h : isL l = true) : l = lB := ba_of (beq_iff_eq.1 h)
theorem ltr_is {l : ByteArray} (h : letterB l = true) : ∃ i, i < 26 ∧ l = ltrB i := by
  simp only [letterB, Bool.and_eq_true, decide_eq_true_eq] at h
  obtain ⟨h1, h2, h3⟩ := h
  have h4 := bt_eq l 0 (by omega)
  have h5 := one_of h1
  generalize l[0]'(by omega) = u at h4 h5
  refine ⟨u.toNat - 65, by omega, ?_⟩
  have : UInt8.ofNat (65 + (u.toNat - 65)) = u := by
    rw [show 65 + (u.toNat - 65) = u.toNat by omega]
    simp
  rw [ba_of h5, ltrB, this]
theorem colB_cases {co : ByteArray} (h : colB co = true) : colorsB co = true := by
  simp only [colB, Bool.or_eq_true, beq_iff_eq] at h
  rcases h with h | h | h | h <;> rw [ba_of h] <;> decide
/-- A character in one color alone. -/
def ownC (x : Ch) (co : ByteArray) : Ch := ⟨x.k, x.gs, x.l, co, x.p⟩
theorem own_valid {x : Ch} {co : ByteArray} (hv : validB x = true) (hc : colB co = true) : validB (ownC x co) = true := by
  have h0 := colB_cases hc
  have h1 : validB x = (colorsB x.cs && fitsB x && (if steadyB x = true then x.p == 0 else inB x.p (leastI x) 600 && (!(x.k == 3) || evenB x.p))) := rfl
  have h2 : validB (ownC x co) = (colorsB co && fitsB x && (if steadyB x = true then x.p == 0 else inB x.p (leastI x) 600 && (!(x.k == 3) || evenB x.p))) := rfl
  rw [h1] at hv
  rw [h2, h0]
  simp only [Bool.and_eq_true] at hv ⊢
  exact ⟨⟨trivial, hv.1.2⟩, hv.2⟩
theorem gen_in : ∀ (g h : List Int), (∀ y ∈ g, 1 ≤ y ∧ y ≤ 9) → h.sum + g.sum ≤ 12 → h ++ g ∈ genF g.length h
  | [], h, _, _ => by simp [genF]
  | y :: r, h, hy, hs => by
    have h0 := hy y List.mem_cons_self
    have hr : ∀ z ∈ r, 1 ≤ z ∧ z ≤ 9 := fun z hz => hy z (List.mem_cons_of_mem _ hz)
    have hrs : 0 ≤ r.sum := by
      have : ∀ l : List Int, (∀ z ∈ l, 1 ≤ z ∧ z ≤ 9) → 0 ≤ l.sum := by
        intro l
        induction l with
        | nil => simp
        | cons a l ih => intro h; have := h a (by simp); have := ih (fun z hz => h z (by simp [hz])); simp; omega
      exact this r hr
    rw [List.sum_cons] at hs
    rw [List.length_cons, genF, List.mem_flatMap]
    refine ⟨(y - 1).toNat, List.mem_range.2 (by omega), ?_⟩
    rw [show (((y - 1).toNat : Nat) : Int) + 1 = y by omega]
    have ih := gen_in r (h ++ [y]) hr (by simp; omega)
    rw [List.append_assoc] at ih
    exact ih
theorem grp_in {g : List Int} (h : groupB g = true) : g ∈ grpI g.length ∧ g.length < 5 := by
  simp only [groupB, Bool.and_eq_true, decide_eq_true_eq, allB_iff] at h
  obtain ⟨h1, h2, h3, _⟩ := h
  have hy : ∀ y ∈ g, 1 ≤ y ∧ y ≤ 9 := fun y hy => by
    obtain ⟨i, hi⟩ := List.getElem?_of_mem hy
    have := h1 i (List.getElem?_eq_some_iff.1 hi).1
    rw [goodG_at hi] at this
    exact inB_iff.1 this
  have := gen_in g [] hy (by simpa using h3)
  rw [grp_gen]
  exact ⟨this, by omega⟩
theorem candG_in {co : ByteArray} {n k : Int} {g : List Int} {l : ByteArray} (hl : l = eB ∨ l = lB) (hf : fitsB ⟨k, g, l, co, 0⟩ = true) : cand co n k g l ∈ candG co n k g := by
  rw [candG, List.mem_map]
  refine ⟨l, List.mem_filter.2 ⟨?_, hf⟩, rfl⟩
  rcases hl with rfl | rfl <;> simp
theorem cand_mem {x : Ch} (hf : fitsB x = true) (co : ByteArray) (n : Int) : cand co n x.k x.gs x.l ∈ kinds.flatMap (candI co n) := by
  obtain ⟨k, g, l, cs, p⟩ := x
  have hf' : fitsB ⟨k, g, l, co, 0⟩ = true := hf
  simp only
  have fin : k ∈ kinds → k ≠ 8 → g ∈ grpI g.length → g.length < 5 → (l = eB ∨ l = lB) → cand co n k g l ∈ kinds.flatMap (candI co n) := fun hk h8 hg hl he => by
    refine List.mem_flatMap.2 ⟨k, hk, ?_⟩
    rw [candI, if_neg h8]
    exact List.mem_flatMap.2 ⟨g.length, List.mem_range.2 hl, List.mem_flatMap.2 ⟨g, hg, candG_in he hf'⟩⟩
  simp only [fitsB] at hf
  split at hf
  · rename_i h
    simp only [Bool.and_eq_true, decide_eq_true_eq] at hf
    obtain ⟨rfl, hl⟩ := hf
    exact fin (by rcases h with rfl | rfl <;> decide) (by omega) (by decide) (by decide) (.inl (isE_is hl))
  split at hf
  · rename_i h
    simp only [Bool.and_eq_true] at hf
    obtain ⟨hl, hg⟩ := hf
    obtain ⟨h1, h2⟩ := grp_in hg
    exact fin (by rcases h with rfl | rfl | rfl <;> decide) (by omega) h1 h2 (.inl (isE_is hl))
  split at hf
  · rename_i h
    have hk : k ∈ kinds := by rcases h with rfl | rfl <;> decide
    split at hf
    · rename_i hl
      have hg := of_decide_eq_true hf
      subst hg
      exact fin hk (by omega) (by decide) (by decide) (.inr (isL_is hl))
    · simp only [Bool.and_eq_true] at hf
      obtain ⟨h1, h2⟩ := grp_in hf.2.2
      exact fin hk (by omega) h1 h2 (.inl (isE_is hf.1))
  split at hf
  · rename_i h
    subst h
    simp only [Bool.and_eq_true, decide_eq_true_eq] at hf
    obtain ⟨rfl, hl⟩ := hf
    obtain ⟨i, hi, rfl⟩ := ltr_is hl
    refine List.mem_flatMap.2 ⟨8, by decide, ?_⟩
    rw [candI, if_pos rfl, lettersC]
    exact List.mem_map.2 ⟨i, List.mem_range.2 hi, rfl⟩
  · cases hf
theorem candI_cs {co : ByteArray} {n : Int} {y : Ch} (h : y ∈ kinds.flatMap (candI co n)) : y.cs = co := by
  obtain ⟨k, _, hy⟩ := List.mem_flatMap.1 h
  rw [candI_rhy] at hy
  obtain ⟨r, _, rfl⟩ := List.mem_map.1 hy
  rfl
/-- A character in one color is tried, and fits its own pattern. -/
theorem own_fits {x : Ch} {co : ByteArray} (hv : validB x = true) (hc : colB co = true) : cand co ((onceB (tenC (phasesL x co))).length : Nat) x.k x.gs x.l = ownC x co := by
  have hcc := code_col hc
  rw [cand, ownC]
  congr 1
  have hst := cand_steady co ((onceB (tenC (phasesL x co))).length : Nat) x.k x.gs x.l
  have hst2 : steadyB (cand co ((onceB (tenC (phasesL x co))).length : Nat) x.k x.gs x.l) = steadyB x := rfl
  rw [hst2] at hst
  split
  · rename_i h
    rw [decide_eq_true h] at hst
    exact (valid_steady hv hst).symm
  · rename_i h
    rw [decide_eq_false h] at hst
    exact own_per hv hst (by omega)
theorem ph_own (x : Ch) (co : ByteArray) : phasesL (ownC x co) co = phasesL x co := rfl
theorem recI_own {x : Ch} {co : ByteArray} (hv : validB x = true) (hc : colB co = true) : ∃ y, recI co ((onceB (tenC (phasesL x co))).length : Nat) (onceB (tenC (phasesL x co))) = some y := by
  rw [← Option.isSome_iff_exists, recI, List.find?_isSome]
  refine ⟨_, cand_mem (by have := valid_shape hv; simp only [shapeB, Bool.and_eq_true] at this; exact this.2) co _, ?_⟩
  rw [own_fits hv hc, fitC_iff]
  exact ⟨own_valid hv hc, by rw [show (ownC x co).cs = co from rfl, ph_own]⟩
theorem recI_is {co : ByteArray} {n : Int} {L : List Int} {y : Ch} (h : recI co n L = some y) : validB y = true ∧ y.cs = co ∧ normB (onceB (tenC (phasesL y co))) = normB L := by
  rw [recI] at h
  have h1 := fitC_iff.1 (List.find?_some h)
  have h2 := candI_cs (List.mem_of_find?_eq_some h)
  exact ⟨h1.v, h2, by have := h1.n; rw [h2] at this; exact this⟩
/-- Tenths that are dark or of one color, and not all dark, have one color. -/
theorem hue_tenA {c : Int} : ∀ (T : List Int) (l : Bool), ∀ b ∈ tenA c l T, b = 0 ∨ b = c
  | [], _, b, h => by cases h
  | t :: r, l, b, h => by
    rw [tenA, List.mem_append] at h
    rcases h with h | h
    · have := List.eq_of_mem_replicate h
      cases l
      · exact .inl this
      · exact .inr this
    · exact hue_tenA r _ b h
theorem ten_two {x : Ch} {co : ByteArray} : ∀ b ∈ tenC (phasesL x co), b = 0 ∨ b = code co := fun b hb => by
  obtain ⟨s, hs, rfl⟩ := List.mem_map.1 hb
  simp only [tenL, List.mem_flatMap] at hs
  obtain ⟨p, hp, hs⟩ := hs
  rw [List.eq_of_mem_replicate hs]
  obtain ⟨j, hj⟩ := List.getElem?_of_mem hp
  rw [phases_col hj]
  cases litAt (ocB x) j
  · exact .inl rfl
  · exact .inr rfl
theorem ten_has {x : Ch} {co : ByteArray} (hv : validB x = true) : code co ∈ tenC (phasesL x co) := by
  have hl := phases_len (co := co) (valid_shape hv)
  obtain ⟨j, hj, hlit⟩ : ∃ j, j < (phasesL x co).length ∧ litAt (ocB x) j = true := by
    by_cases h1 : x.k = 1
    · refine ⟨0, by omega, ?_⟩
      rw [show ocB x = false by simp [ocB, h1]]; rfl
    · have he := phases_even (co := co) hv h1
      cases ocB x
      · exact ⟨0, by omega, rfl⟩
      · exact ⟨1, by omega, rfl⟩
  have hg := List.getElem?_eq_getElem hj
  have hm := List.getElem_mem hj
  have hc := phases_col hg
  rw [hlit, cond_true] at hc
  rw [← mem_ten (fun p hp => (phases_pos hv p hp).1)]
  exact List.mem_map.2 ⟨_, hm, by rw [hc]⟩
theorem hue_own {x : Ch} {co : ByteArray} (hv : validB x = true) (hc : colB co = true) : hueOk (onceB (tenC (phasesL x co))) = true ∧ hueO (onceB (tenC (phasesL x co))) = code co := by
  have h1 := ten_pos hv co
  have hcc := code_col hc
  exact hueOk_of (by omega) ((mem_once h1 _).1 (ten_has hv)) fun b hb => ten_two b ((mem_once h1 b).2 hb)
theorem times_len26 {x : Ch} (hv : validB x = true) : (timesL x).length ≤ 26 := Nat.le_succ_of_le (times_len (valid_shape hv))
theorem vPh_own {x : Ch} {co : ByteArray} (hv : validB x = true) (hc : colB co = true) : vPh (phasesL x co) = true := by
  have hl := phases_len (co := co) (valid_shape hv)
  have htl := times_len26 hv
  have hsp := (times_bd (shape_TOk (valid_shape hv))).2
  have h40 : (phasesL x co).length ≤ 40 := by
    unfold phasesL
    (repeat' split) <;> (try rw [altL_len]) <;> simp <;> omega
  have hb := phases_bd (co := co) hv
  have htp := tot_pos hv co
  have hlt := tenL_len hb
  have h600 : totI (phasesL x co) ≤ 600 := by
    cases hs : steadyB x
    · have h1 := len_own (co := co) hv hs
      have h2 := valid_p hv
      rw [tenC, List.length_map] at h1
      omega
    · by_cases h1 : x.k = 1
      · rw [phasesL, if_pos h1]; simp [totI]
      · have h3 : x.k ≠ 3 := fun e => by simp [steadyB, e] at hs
        have hg := gapI_bd x.k
        have hgs : x.gs = [] := by
          simp only [steadyB, Bool.or_eq_true, Bool.and_eq_true, decide_eq_true_eq] at hs
          rcases hs with hs | hs
          · exact absurd hs h1
          · exact hs.2
        have hsum : (timesL x).sum ≤ 40 * (timesL x).length := by
          have : ∀ l : List Int, (∀ y ∈ l, 0 ≤ y ∧ y ≤ 40) → l.sum ≤ 40 * l.length := by
            intro l
            induction l with
            | nil => simp
            | cons a l ih => intro h; have := h a (by simp); have := ih (fun y hy => h y (by simp [hy])); simp; omega
          exact this _ hsp
        have hlen3 : (timesL x).length ≤ 3 := by
          have h8 : x.k ≠ 8 := fun e => by simp [steadyB, e] at hs
          rw [timesL, if_neg h8, show grp x = [1] by rw [grp, if_pos hgs], List.length_append]
          have := innerT_len x.k 0 1
          have e1 : (outerT x.k [1] ([1] : List Int).length).length ≤ 1 := by
            show (outerT x.k [1] 1).length ≤ 1
            simp [outerT, innerT, stepT]
          split <;> simp at e1 ⊢ <;> omega
        rw [phasesL, if_neg h1, if_neg h3, if_pos hs, tot_alt, List.sum_append]
        simp; omega
  rw [vPh, Bool.and_eq_true, Bool.and_eq_true, List.all_eq_true]
  refine ⟨fun p hp => ?_, inB_iff.2 ⟨by omega, by omega⟩, inB_iff.2 ⟨by omega, h600⟩⟩
  rw [okPh, Bool.and_eq_true, inB_iff, Bool.or_eq_true]
  refine ⟨phases_pos hv p hp, ?_⟩
  obtain ⟨j, hj⟩ := List.getElem?_of_mem hp
  rw [phases_col hj]
  cases litAt (ocB x) j
  · exact .inl (by rw [cond_false]; exact isE_e)
  · exact .inr hc
/-- The phases of a valid character in one color are recognised. -/
theorem rec_own {x : Ch} {co : ByteArray} (hv : validB x = true) (hc : colB co = true) : ∃ y, recO (phasesL x co) = (0, y) ∧ validB y = true ∧ y.cs = co ∧ normB (onceB (tenC (phasesL y co))) = normB (onceB (tenC (phasesL x co))) ∧ recI co ((onceB (tenC (phasesL x co))).length : Nat) (onceB (tenC (phasesL x co))) = some y := by
  obtain ⟨h1, h2⟩ := hue_own hv hc
  obtain ⟨y, hy⟩ := recI_own hv hc
  obtain ⟨a, b, c⟩ := recI_is hy
  refine ⟨y, ?_, a, b, c, hy⟩
  rw [recO, vPh_own hv hc, cond_true, h1, cond_true, h2, name_code (okS_col hc), hy, recA]
end Go.Proofs.Ytgibbhipjpbdfaa

/- Recognition: phases that begin at another time are recognised as the same character. Plain. -/
namespace Go.Proofs.Ytgibbhipjpbdfaa
open Go.RowKit
def expD (D : List (Int × Int)) : List Int := D.flatMap fun d => List.replicate d.2.toNat d.1
theorem exp_step {D : List (Int × Int)} (h : ∀ d ∈ D, 1 ≤ d.2) (c : Int) : expD (jstep D c) = expD D ++ [c] ∧ ∀ d ∈ jstep D c, 1 ≤ d.2 := by
  unfold jstep
  cases hl : D.getLast? with
  | none =>
    have : D = [] := List.getLast?_eq_none_iff.1 hl
    subst this
    exact ⟨rfl, fun d hd => by simp at hd; subst hd; simp⟩
  | some d0 =>
    obtain ⟨D', rfl⟩ := List.getLast?_eq_some_iff.1 hl
    have h0 := h d0 (by simp)
    simp only
    split
    · rename_i he
      rw [List.dropLast_concat]
      refine ⟨?_, fun d hd => ?_⟩
      · simp only [expD, List.flatMap_append, List.flatMap_cons, List.flatMap_nil, List.append_nil, List.append_assoc, he]
        rw [show (d0.2 + 1).toNat = d0.2.toNat + 1 by omega, List.replicate_succ']
      · rcases List.mem_append.1 hd with hd | hd
        · exact h d (List.mem_append_left _ hd)
        · simp at hd; subst hd; simp only; omega
    · refine ⟨?_, fun d hd => ?_⟩
      · simp only [expD, List.flatMap_append, List.flatMap_cons, List.flatMap_nil, List.append_nil]; rfl
      · rcases List.mem_append.1 hd with hd | hd
        · exact h d hd
        · simp at hd; subst hd; simp
theorem exp_fold : ∀ (B : List Int) (D : List (Int × Int)), (∀ d ∈ D, 1 ≤ d.2) → expD (B.foldl jstep D) = expD D ++ B
  | [], D, _ => by simp
  | b :: r, D, h => by
    obtain ⟨e, h'⟩ := exp_step h b
    rw [List.foldl_cons, exp_fold r _ h', e]; simp
theorem exp_join (B : List Int) : expD (joinB B) = B := by
  rw [joinB, exp_fold B [] (by simp)]; rfl
theorem ten_toPh : ∀ (D : List (Int × Int)), (∀ d ∈ D, 0 ≤ d.1 ∧ d.1 ≤ 255) → tenC (D.map toPh) = expD D
  | [], _ => rfl
  | d :: r, h => by
    have ih := ten_toPh r fun e he => h e (List.mem_cons_of_mem _ he)
    have h0 := h d List.mem_cons_self
    simp only [tenC, tenL, expD, List.map_cons, List.flatMap_cons, List.map_append, List.map_replicate] at ih ⊢
    rw [ih, show code (toPh d).c = d.1 from code_name h0.1 h0.2]
    rfl
/-- How often a list changes. -/
def cntR : Int → List Int → Nat
  | _, [] => 0
  | p, b :: r => (if b = p then 0 else 1) + cntR b r
theorem cnt_fold : ∀ (B : List Int) (D' : List (Int × Int)) (d0 : Int × Int), (B.foldl jstep (D' ++ [d0])).length = D'.length + 1 + cntR d0.1 B
  | [], D', d0 => by simp [cntR]
  | b :: r, D', d0 => by
    have hl : (D' ++ [d0]).getLast? = some d0 := by simp
    rw [List.foldl_cons, cntR]
    by_cases h : d0.1 = b
    · have e : jstep (D' ++ [d0]) b = D' ++ [(b, d0.2 + 1)] := by
        unfold jstep
        rw [hl]
        simp only
        rw [if_pos h, List.dropLast_concat]
      rw [e, cnt_fold r, if_pos h.symm]; simp
    · have e : jstep (D' ++ [d0]) b = (D' ++ [d0]) ++ [(b, 1)] := by
        unfold jstep
        rw [hl]
        simp only
        rw [if_neg h]
      rw [e, cnt_fold r, if_neg (fun e => h e.symm), List.length_append]; simp; omega
theorem join_cnt (p : Int) (B : List Int) : (joinB B).length ≤ 1 + cntR p B := by
  cases B with
  | nil => simp [joinB]
  | cons b r =>
    have e : joinB (b :: r) = r.foldl jstep ([] ++ [(b, 1)]) := rfl
    rw [e, cnt_fold, cntR]; simp
theorem cnt_app : ∀ (A : List Int) (p : Int) (B : List Int), cntR p (A ++ B) = cntR p A + cntR (lastD p A) B
  | [], p, B => by simp [cntR, lastD]
  | a :: r, p, B => by rw [List.cons_append, cntR, cnt_app r a B, cntR, last_cons, Nat.add_assoc]
theorem cnt_any (p q : Int) (B : List Int) : cntR p B ≤ 1 + cntR q B := by
  cases B with
  | nil => simp [cntR]
  | cons b r => rw [cntR, cntR]; split <;> split <;> omega
theorem cnt_same (c : Int) : ∀ n, cntR c (List.replicate n c) = 0
  | 0 => rfl
  | n + 1 => by rw [List.replicate_succ, cntR, cnt_same c n, if_pos rfl]
theorem cnt_rep (p c : Int) (n : Nat) : cntR p (List.replicate n c) ≤ 1 := by
  have := cnt_any p c (List.replicate n c)
  rw [cnt_same] at this
  exact this
theorem cnt_ten : ∀ (ps : List Ph) (p : Int), cntR p (tenC ps) ≤ ps.length
  | [], _ => Nat.le_refl _
  | q :: r, p => by
    have e : tenC (q :: r) = List.replicate q.len.toNat (code q.c) ++ tenC r := by
      simp only [tenC, tenL, List.flatMap_cons, List.map_append, List.map_replicate]
    rw [e, cnt_app, List.length_cons]
    have := cnt_rep p (code q.c) q.len.toNat
    have := cnt_ten r (lastD p (List.replicate q.len.toNat (code q.c)))
    omega
theorem rot_cnt (B : List Int) (t : Nat) (p : Int) : cntR p (rotB B t) ≤ 2 + cntR p B := by
  have e : B.take t ++ B.drop t = B := List.take_append_drop t B
  rw [rotB]
  generalize B.take t = X at *
  generalize B.drop t = Y at *
  subst e
  rw [cnt_app, cnt_app]
  have h1 := cnt_any p (lastD p X) Y
  have h2 := cnt_any (lastD p Y) p X
  omega
theorem mem_rot {B : List Int} {t : Nat} {x : Int} (h : x ∈ B) : x ∈ rotB B t := by
  have e : B.take t ++ B.drop t = B := List.take_append_drop t B
  rw [← e, List.mem_append] at h
  rw [rotB, List.mem_append]
  exact h.symm
/-- The phases of tenths. -/
def joinP (B : List Int) : List Ph := (joinB B).map toPh
theorem joinP_ten {B : List Int} (hb : ∀ b ∈ B, 0 ≤ b ∧ b ≤ 255) : tenC (joinP B) = B := by
  have h := join_bd B B.length (Nat.le_refl _)
  rw [List.take_length] at h
  rw [joinP, ten_toPh _ (fun d hd => hb _ (h d hd).1), exp_join]
theorem joinP_v {B : List Int} {co : ByteArray} (hc : colB co = true) (h2 : ∀ b ∈ B, b = 0 ∨ b = code co) (h1 : 1 ≤ B.length) (h6 : B.length ≤ 600) (hl : (joinB B).length ≤ 40) : vPh (joinP B) = true := by
  have h := join_bd B B.length (Nat.le_refl _)
  have hn := join_len B B.length (Nat.le_refl _)
  rw [List.take_length] at h hn
  have hcb := code_bd co
  have hb : ∀ b ∈ B, 0 ≤ b ∧ b ≤ 255 := fun b hb => by rcases h2 b hb with rfl | rfl <;> omega
  have ht := joinP_ten hb
  have hp : ∀ p ∈ joinP B, 1 ≤ p.len ∧ p.len ≤ 600 := fun p hp => by
    obtain ⟨d, hd, rfl⟩ := List.mem_map.1 hp
    obtain ⟨_, a, b⟩ := h d hd
    have e : (toPh d).len = d.2 := rfl
    omega
  have htot : totI (joinP B) = B.length := by
    rw [← tenL_len (fun p h => by have := hp p h; omega)]
    have := congrArg List.length ht
    rw [tenC, List.length_map] at this
    rw [this]
  have hlen : (joinP B).length = (joinB B).length := List.length_map _
  rw [vPh, Bool.and_eq_true, Bool.and_eq_true, List.all_eq_true]
  refine ⟨fun p hpm => ?_, inB_iff.2 ⟨by have := hn.2 (by omega); omega, by omega⟩, inB_iff.2 ⟨by omega, by omega⟩⟩
  rw [okPh, Bool.and_eq_true, inB_iff, Bool.or_eq_true]
  refine ⟨hp p hpm, ?_⟩
  obtain ⟨d, hd, rfl⟩ := List.mem_map.1 hpm
  have hd1 := h2 _ (h d hd).1
  have e : (toPh d).c = nameC d.1 := rfl
  rw [e]
  rcases hd1 with h0 | h0
  · left; rw [h0]; exact isE_e
  · right; rw [h0, name_code (okS_col hc)]; exact hc
theorem num27 {x : Ch} (hv : validB x = true) (co : ByteArray) : (phasesL x co).length ≤ 27 := by
  have htl := times_len26 hv
  unfold phasesL
  (repeat' split) <;> (try rw [altL_len]) <;> simp <;> omega
theorem shift_len {x : Ch} (hv : validB x = true) (co : ByteArray) (t : Nat) : (joinB (rotB (tenC (phasesL x co)) t)).length ≤ 30 := by
  have h1 := join_cnt 0 (rotB (tenC (phasesL x co)) t)
  have h2 := rot_cnt (tenC (phasesL x co)) t 0
  have h3 := cnt_ten (phasesL x co) 0
  have h4 := num27 hv co
  omega
theorem ten_600 {x : Ch} {co : ByteArray} (hv : validB x = true) (hc : colB co = true) : (tenC (phasesL x co)).length ≤ 600 := (phs_one (vPh_own hv hc)).2.2.2.2
theorem shift_v {x : Ch} {co : ByteArray} (hv : validB x = true) (hc : colB co = true) (t : Nat) : vPh (joinP (rotB (tenC (phasesL x co)) t)) = true := by
  refine joinP_v hc (fun b hb => ten_two b (rot_mem hb)) ?_ ?_ (by have := shift_len hv co t; omega)
  · rw [rot_len]; exact ten_pos hv co
  · rw [rot_len]; exact ten_600 hv hc
/-- From another time on the phases are recognised as the same character. -/
theorem rec_shift {x : Ch} {co : ByteArray} (hv : validB x = true) (hc : colB co = true) {t : Nat} (ht : t < (tenC (phasesL x co)).length) : recO (joinP (rotB (tenC (phasesL x co)) t)) = recO (phasesL x co) := by
  obtain ⟨y, h0, _, _, _, hy⟩ := rec_own hv hc
  have hcc := code_col hc
  have hp := ten_pos hv co
  have hcb := code_bd co
  have hte : tenC (joinP (rotB (tenC (phasesL x co)) t)) = rotB (tenC (phasesL x co)) t := joinP_ten fun b hb => by
    rcases ten_two b (rot_mem hb) with rfl | rfl <;> omega
  have hr1 : 1 ≤ (rotB (tenC (phasesL x co)) t).length := by rw [rot_len]; exact hp
  obtain ⟨h1, h2⟩ := hueOk_of (B := onceB (rotB (tenC (phasesL x co)) t)) (c := code co) (by omega) ((mem_once hr1 _).1 (mem_rot (ten_has hv))) fun b hb => ten_two b (rot_mem ((mem_once hr1 b).2 hb))
  rw [h0, recO, shift_v hv hc, cond_true, hte, h1, cond_true, h2, name_code (okS_col hc), once_rot_len hp ht, recI_congr (once_rot hp ht), hy, recA]
end Go.Proofs.Ytgibbhipjpbdfaa

/- The program's ShiftPhases and SamePattern. -/
namespace Go.Proofs.Ytgibbhipjpbdfaa
open Go.RowKit
set_option maxRecDepth 100000 in
set_option maxHeartbeats 400000 in
theorem modulo_c (a m : Int) (w : World) (h0 : 0 ≤ a) (_ : a ≤ 1000000) (hm : 0 < m) (_ : m ≤ 1000000) :
    Calls Try.prog 57 #[.int .i64 a, .int .i64 m] w fun e w' => e = .returned (.int .i64 (a % m)) ∧ w = w' := by
  have hm0 : ¬ m = 0 := by omega
  have e1 : a.tmod m = a % m := Int.tmod_eq_emod_of_nonneg h0
  have q0 := Int.emod_nonneg a hm0
  have q1 := Int.emod_lt_of_pos a hm
  have e3 : (a % m + m) % m = a % m := by rw [Int.add_emod_right]; exact Int.emod_eq_of_lt q0 q1
  have e2 : (a % m + m).tmod m = (a % m + m) % m := Int.tmod_eq_emod_of_nonneg (by omega)
  rw [e3] at e2
  have hw : IntKind.i64.wrap (a % m + m) = a % m + m := IntWalk.i64_in _ (by omega)
  clear e3
  generalize a % m = q at *
  go_enter Try.func57, Try.ntmps57
  go_wp2_with fail
  go_ret
  exact ⟨rfl, rfl⟩
set_option maxRecDepth 100000 in
set_option maxHeartbeats 2000000 in
theorem shift_c (A : Option Addr) (n c : Nat) (ps : List Ph) (t : Int) (w : World) (h : Sl w w.heap.size 2 A n (ps.flatMap Ph.cells)) (hn : n ≤ 200) (hz : ∀ p ∈ ps, p.c.size ≤ maxLen) (hv : vPh ps = true) (ht : 0 ≤ t) (ht2 : t ≤ 1000000)
    (hj : ∀ s, (joinB (rotB (tenC ps) s)).length ≤ 40) :
    Calls Try.prog 19 #[.slice A n c, .int .i64 t] w fun e w' => ∃ A' m c' s, s < (tenC ps).length ∧ m = (joinP (rotB (tenC ps) s)).length ∧ e = .returned (.tuple #[.slice A' m c', .int .i64 0]) ∧ Sl w' w'.heap.size 2 A' m ((joinP (rotB (tenC ps) s)).flatMap Ph.cells) ∧ Below w.heap.size w w' := by
  obtain ⟨v1, v2, v3, v4, v5⟩ := phs_one hv
  have hb : ∀ p ∈ ps, 0 ≤ p.len ∧ p.len ≤ 600 := fun p hp => by have := v2 p hp; omega
  have hV := fun w1 (hb1 : Below w.heap.size w w1) => validPhases_c A n c ps w1 (h.next hb1) (by omega) hz
  rw [hv] at hV
  have hT := fun w1 (hb1 : Below w.heap.size w w1) => tenths_c A n c ps w1 (h.next hb1) (by omega) hb v3
  have hin : inN (tenC ps) := tenC_bd ps
  obtain ⟨T, hTT⟩ : ∃ T, tenC ps = T := ⟨_, rfl⟩
  rw [hTT] at hT hj v4 v5 hin ⊢
  obtain ⟨N, hN⟩ : ∃ N, T.length = N := ⟨_, rfl⟩
  rw [hN] at hT v4 v5 ⊢
  have hmod := modulo_c t (N : Int)
  obtain ⟨s, hs⟩ : ∃ s : Nat, t % (N : Int) = (s : Int) := ⟨(t % (N : Int)).toNat, by have := Int.emod_nonneg t (show (N : Int) ≠ 0 by omega); omega⟩
  have hsN : s < N := by have := Int.emod_lt_of_pos t (show (0 : Int) < (N : Int) by omega); omega
  rw [hs] at hmod
  have hR := fun (b off c1 : Nat) (w1 : World) (h1 : Sl w1 w1.heap.size 1 (some ⟨b, off, none⟩) N (T.flatMap nC)) (hc : N ≤ c1) => rotated_c b off N c1 s T w1 h1 hc hsN (by omega)
  have hinr : inN (rotB T s) := fun x hx => hin x (rot_mem hx)
  have hJ := fun (A1 : Option Addr) (c1 : Nat) (w1 : World) (h1 : Sl w1 w1.heap.size 1 A1 N ((rotB T s).flatMap nC)) => join_c A1 N c1 (rotB T s) w1 h1 (by omega) hinr
  have hjl := hj s
  obtain ⟨J, hJJ⟩ : ∃ J, joinB (rotB T s) = J := ⟨_, rfl⟩
  rw [hJJ] at hJ hjl
  obtain ⟨M, hM⟩ : ∃ M, J.length = M := ⟨_, rfl⟩
  rw [hM] at hJ hjl
  have hfin : (joinP (rotB T s)).length = M := by rw [joinP, hJJ, List.length_map, hM]
  have hrun : runC J = (joinP (rotB T s)).flatMap Ph.cells := by rw [joinP, hJJ]; rfl
  rw [hrun] at hJ
  suffices hS : Calls Try.prog 19 #[.slice A n c, .int .i64 t] w fun e w' => ∃ A' c', e = .returned (.tuple #[.slice A' M c', .int .i64 0]) ∧ Sl w' w'.heap.size 2 A' M ((joinP (rotB T s)).flatMap Ph.cells) ∧ Below w.heap.size w w' by
    refine hS.mono ?_
    rintro e w' ⟨A', c', he, hsl, hbw⟩
    exact ⟨A', M, c', s, hsN, hfin.symm, he, hsl, hbw⟩
  generalize (joinP (rotB T s)).flatMap Ph.cells = CC at *
  generalize (rotB T s).flatMap nC = GG at *
  have hB1 : w.heap.size ≤ w.heap.size := Nat.le_refl _
  generalize T.flatMap nC = G2 at *
  have hn2 : n ≤ 200 := hn
  have HV := Lib.hid hV; clear hV
  have HT := Lib.hid hT; clear hT
  have Hmod := Lib.hid hmod; clear hmod
  have HR := Lib.hid hR; clear hR
  have HJ := Lib.hid hJ; clear hJ
  clear h hb v1 v2 v3 hz hv hj hin hinr hfin hrun hJJ hM hN hTT hs hB1
  go_enter Try.func19, Try.ntmps19
  go_wp2_with fail
  refine (HV.out _ (Below.refl _ _)).mono ?_
  rintro e w1 ⟨rfl, hb1⟩
  go_wp2_with fail
  refine (HT.out _ hb1).mono ?_
  rintro e w2 ⟨v, rfl, ho2, hb2⟩
  have H2 := hb1.trans (hb2.mono hb1.size)
  obtain ⟨A2, c2, rfl⟩ := own_slice ho2
  obtain ⟨g2, rfl, hg2, hg3⟩ := own_form ho2 (by omega)
  have hc2 := (own_cap ho2).1
  go_wp2_with fail
  refine (Hmod.out _ (by omega) (by omega) (by omega) (by omega)).mono ?_
  rintro e w3 ⟨rfl, rfl⟩
  go_wp2_with fail
  refine (HR.out _ _ _ _ (Sl.of_own ho2) (by omega)).mono ?_
  rintro e w4 ⟨A4, c4, rfl, ho4, hb4⟩
  have H4 := H2.trans (hb4.mono H2.size)
  go_wp2_with fail
  refine (HJ.out _ _ _ (Sl.of_own ho4)).mono ?_
  rintro e w5 ⟨v5, rfl, ho5, hb5⟩
  have H5 := H4.trans (hb5.mono H4.size)
  obtain ⟨A5, c5, rfl⟩ := own_slice ho5
  go_wp2_with fail
  have h40 : decide ((M : Int) ≤ 40) = true := decide_eq_true (by omega)
  refine (few_c (M : Int) 40 _).mono ?_
  rw [h40]
  rintro e w6 ⟨rfl, rfl⟩
  go_wp2_with fail
  exact bodyPost_ret (v := .tuple #[.slice A5 M c5, .int .i64 0]) (by simp [results, Try.results19, go_sem]) rfl ⟨A5, c5, rfl, Sl.of_own ho5, H5⟩
set_option maxRecDepth 100000 in
set_option maxHeartbeats 2000000 in
theorem sameP_c (A1 : Option Addr) (n1 c1 : Nat) (ps : List Ph) (A2 : Option Addr) (n2 c2 : Nat) (qs : List Ph) (w : World) (h1 : Sl w w.heap.size 2 A1 n1 (ps.flatMap Ph.cells)) (h2 : Sl w w.heap.size 2 A2 n2 (qs.flatMap Ph.cells)) (m1 : n1 ≤ 200) (m2 : n2 ≤ 200)
    (z1 : ∀ p ∈ ps, p.c.size ≤ maxLen) (z2 : ∀ p ∈ qs, p.c.size ≤ maxLen) (v1 : vPh ps = true) (v2 : vPh qs = true) (hs : normB (onceB (tenC ps)) = normB (onceB (tenC qs))) :
    Calls Try.prog 21 #[.slice A1 n1 c1, .slice A2 n2 c2] w fun e w' => e = .returned (.bool true) ∧ Below w.heap.size w w' := by
  obtain ⟨_, a2, a3, a4, _⟩ := phs_one v1
  obtain ⟨_, b2, b3, b4, _⟩ := phs_one v2
  have hV1 := fun w1 (hb1 : Below w.heap.size w w1) => validPhases_c A1 n1 c1 ps w1 (h1.next hb1) (by omega) z1
  have hV2 := fun w1 (hb1 : Below w.heap.size w w1) => validPhases_c A2 n2 c2 qs w1 (h2.next hb1) (by omega) z2
  have hS := fun w1 (hb1 : Below w.heap.size w w1) => samePattern_c A1 n1 c1 ps A2 n2 c2 qs w1 (h1.next hb1) (h2.next hb1) m1 m2 (fun p hp => by have := a2 p hp; omega) (fun p hp => by have := b2 p hp; omega) a3 b3 a4 b4
  rw [v1] at hV1
  rw [v2] at hV2
  rw [decide_eq_true hs] at hS
  have HV1 := Lib.hid hV1; clear hV1
  have HV2 := Lib.hid hV2; clear hV2
  have HS := Lib.hid hS; clear hS
  clear h1 h2 a2 a3 a4 b2 b3 b4 z1 z2 v1 v2 hs
  go_enter Try.func21, Try.ntmps21
  go_wp2_with fail
  refine (HV1.out _ (Below.refl _ _)).mono ?_
  rintro e w1 ⟨rfl, hb1⟩
  go_wp2_with fail
  refine (HV2.out _ hb1).mono ?_
  rintro e w2 ⟨rfl, hb2⟩
  have H2 := hb1.trans (hb2.mono hb1.size)
  go_wp2_with fail
  refine (HS.out _ H2).mono ?_
  rintro e w3 ⟨rfl, hb3⟩
  have H3 := H2.trans (hb3.mono H2.size)
  go_wp2_with fail
  go_ret
  exact ⟨rfl, H3⟩
end Go.Proofs.Ytgibbhipjpbdfaa
