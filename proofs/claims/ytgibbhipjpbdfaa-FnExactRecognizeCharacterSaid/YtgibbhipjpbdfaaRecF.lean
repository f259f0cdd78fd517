
/- How often the light of a character goes on; what fits a pattern goes on as often. Plain. -/
import Derived.Test.YtgibbhipjpbdfaaRecR
import Derived.Test.YtgibbhipjpbdfaaRotC
import Derived.Test.YtgibbhipjpbdfaaMatG
import Derived.Test.YtgibbhipjpbdfaaChCount
namespace Go.Proofs.Ytgibbhipjpbdfaa
open Go.RowKit
/-- Tenths of phases that alternate. -/
def tenA (c : Int) : Bool → List Int → List Int
  | _, [] => []
  | l, t :: r => List.replicate t.toNat (bif l then c else 0) ++ tenA c (!l) r
theorem tenA_mapIdx (co : ByteArray) (oc : Bool) : ∀ (ts : List Int) (a : Nat), tenC (ts.mapIdx fun i t => altP co oc (i + a) t) = tenA (code co) (litAt oc a) ts
  | [], _ => rfl
  | t :: r, a => by
    have ih := tenA_mapIdx co oc r (a + 1)
    have e : (fun i t => altP co oc (i + 1 + a) t) = (fun i t => altP co oc (i + (a + 1)) t) := by
      funext i t; rw [show i + 1 + a = i + (a + 1) by omega]
    have hl : litAt oc (a + 1) = !litAt oc a := by
      unfold litAt
      have h1 : decide ((a + 1) % 2 = 1) = !decide (a % 2 = 1) := by
        by_cases h : a % 2 = 1
        · rw [decide_eq_true h, decide_eq_false (by omega)]; rfl
        · rw [decide_eq_false h, decide_eq_true (by omega)]; rfl
      rw [h1]
      cases decide (a % 2 = 1) <;> cases oc <;> rfl
    rw [List.mapIdx_cons, e, tenA, ← hl, ← ih]
    have hc : code (altP co oc (0 + a) t).c = bif litAt oc a then code co else 0 := by
      rw [Nat.zero_add, altP]
      cases litAt oc a <;> rfl
    simp only [tenC, tenL, List.flatMap_cons, List.map_append, List.map_replicate, hc]
    rfl
theorem ten_alt (co : ByteArray) (oc : Bool) (ts : List Int) : tenC (altL co oc ts) = tenA (code co) (!oc) ts := by
  have := tenA_mapIdx co oc ts 0
  rw [show litAt oc 0 = !oc by cases oc <;> rfl] at this
  exact this
theorem ris_tenA {c : Int} (hc : c ≠ 0) : ∀ (ts : List Int), (∀ t ∈ ts, 1 ≤ t) → ∀ l p, (l = true → p = 0) → risF p (tenA c l ts) = (ts.length + (if l then 1 else 0)) / 2
  | [], _, l, p, _ => by cases l <;> rfl
  | t :: r, h, l, p, hp => by
    have ht := h t (by simp)
    have ih := ris_tenA hc r fun x hx => h x (by simp [hx])
    have hn : 1 ≤ t.toNat := by omega
    rw [tenA, ris_app, ris_rep _ _ _ hn, last_rep _ _ hn, List.length_cons]
    cases l
    · simp only [cond_false, Bool.not_false]
      rw [ih true 0 (fun _ => rfl)]; simp
    · simp only [cond_true, Bool.not_true]
      rw [hp rfl, ih false _ (fun h => by cases h)]
      simp [hc]; omega
theorem last_tenA {c : Int} : ∀ (ts : List Int), (∀ t ∈ ts, 1 ≤ t) → ts ≠ [] → ∀ l d, lastD d (tenA c l ts) = if (ts.length % 2 = 1) = (l = true) then c else 0
  | [], _, h, _, _ => absurd rfl h
  | [t], h, _, l, d => by
    have ht := h t (by simp)
    rw [tenA, tenA, List.append_nil, last_rep _ _ (show 1 ≤ t.toNat by omega)]
    cases l <;> simp
  | t :: u :: r, h, _, l, d => by
    have ih := last_tenA (c := c) (u :: r) (fun x hx => h x (by simp only [List.mem_cons] at hx ⊢; exact .inr hx)) (by simp) (!l) d
    have hu := h u (by simp)
    have hne : tenA c (!l) (u :: r) ≠ [] := by
      rw [tenA]
      intro e
      have := congrArg List.length e
      rw [List.length_append, List.length_replicate] at this
      simp at this
      omega
    rw [tenA, last_app _ _ hne, ih]
    simp only [List.length_cons]
    by_cases h1 : (r.length + 1) % 2 = 1
    · have h2 : ¬ (r.length + 1 + 1) % 2 = 1 := by omega
      cases l <;> simp [h1, h2]
    · have h2 : (r.length + 1 + 1) % 2 = 1 := by omega
      cases l <;> simp [h1, h2]
/-- Of an even number of phases, half are lit. -/
theorem flash_tenA {c : Int} (hc : c ≠ 0) {ts : List Int} (h : ∀ t ∈ ts, 1 ≤ t) (he : ts.length % 2 = 0) (hne : ts ≠ []) (l : Bool) : flashB (tenA c l ts) = ts.length / 2 := by
  have h1 := last_tenA (c := c) ts h hne l 0
  rw [flashB, h1]
  have h2 : ¬ ts.length % 2 = 1 := by omega
  cases l
  · rw [if_pos (by simp [h2]), ris_tenA hc ts h false _ (fun h => by cases h)]; simp
  · rw [if_neg (by simp [h2]), ris_tenA hc ts h true 0 (fun _ => rfl)]; simp; omega
/-- The times of a valid character that is not steady, and not of equal phases. -/
def allT (x : Ch) : List Int := timesL x ++ [x.p - (timesL x).sum]
theorem allT_pos {x : Ch} (hv : validB x = true) (hs : steadyB x = false) (h3 : x.k ≠ 3) : (∀ t ∈ allT x, 1 ≤ t) ∧ (allT x).length % 2 = 0 ∧ allT x ≠ [] ∧ (allT x).length = (timesL x).length + 1 := by
  have hsm := valid_sum hv hs h3
  have ho := times_odd (shape_TOk (valid_shape hv))
  refine ⟨fun t ht => ?_, by simp [allT]; omega, by simp [allT], by simp [allT]⟩
  rcases List.mem_append.1 ht with h | h
  · exact times_pos t h
  · simp only [List.mem_singleton] at h; omega
theorem st_ne1 {x : Ch} (hs : steadyB x = false) : x.k ≠ 1 := by
  intro e; simp [steadyB, e] at hs
theorem ph_alt {x : Ch} (co : ByteArray) (hs : steadyB x = false) (h3 : x.k ≠ 3) : phasesL x co = altL co (ocB x) (allT x) := by
  rw [phasesL, if_neg (st_ne1 hs), if_neg h3, if_neg (by rw [hs]; simp)]; rfl
theorem flash_own {x : Ch} {co : ByteArray} (hv : validB x = true) (hc : code co ≠ 0) (hs : steadyB x = false) (h3 : x.k ≠ 3) : flashB (tenC (phasesL x co)) = ((timesL x).length + 1) / 2 := by
  obtain ⟨h1, h2, hn, h4⟩ := allT_pos hv hs h3
  rw [ph_alt co hs h3, ten_alt, flash_tenA hc h1 h2 hn, h4]
theorem len_own {x : Ch} {co : ByteArray} (hv : validB x = true) (hs : steadyB x = false) : ((tenC (phasesL x co)).length : Int) = x.p := by
  have hb := phases_bd (co := co) hv
  have hl := tenL_len hb
  rw [tenC, List.length_map, hl]
  by_cases h3 : x.k = 3
  · rw [phasesL, if_neg (st_ne1 hs), if_pos h3]
    simp only [validB, Bool.and_eq_true] at hv
    have h2 := hv.2
    rw [if_neg (by rw [hs]; simp)] at h2
    simp only [Bool.and_eq_true] at h2
    have h4 := h2.2
    have h5 := inB_iff.1 h2.1
    have hl : leastI x = 20 := by rw [leastI, if_neg (by rw [hs]; simp), if_pos h3]
    simp only [h3, beq_self_eq_true, Bool.not_true, Bool.false_or, evenB, beq_iff_eq] at h4
    rw [Int.tmod_eq_emod_of_nonneg (by omega)] at h4
    simp [totI]; omega
  · rw [ph_alt co hs h3, tot_alt, allT, List.sum_append]
    simp; omega
theorem times_sum {x : Ch} (hv : validB x = true) (h8 : x.k ≠ 8) (hg : x.gs ≠ []) : (((timesL x).length + 1) / 2 : Nat) = (x.gs.sum + (if isL x.l = true then 1 else 0) : Int) := by
  have ht := shape_TOk (valid_shape hv)
  obtain ⟨g1, g4, g9⟩ := grp_ok h8 ht
  have e : grp x = x.gs := by rw [grp, if_neg hg]
  have ho := outer_len_eq x.k g9 (grp x).length (by omega) (Nat.le_refl _)
  rw [List.take_of_length_le (Nat.le_refl _)] at ho
  rw [timesL, if_neg h8, List.length_append]
  rw [e] at ho ⊢
  split <;> simp <;> omega
/-- What is the same pattern as a list that is its own period goes on as often, and is lit as long. -/
structure FitsL (x : Ch) (L : List Int) : Prop where
  v : validB x = true
  n : normB (onceB (tenC (phasesL x x.cs))) = normB L
def fitC (L : List Int) (x : Ch) : Bool := validB x && decide (normB (onceB (tenC (phasesL x x.cs))) = normB L)
theorem fitC_iff {L : List Int} {x : Ch} : fitC L x = true ↔ FitsL x L := by
  rw [fitC, Bool.and_eq_true, decide_eq_true_eq]
  exact ⟨fun h => ⟨h.1, h.2⟩, fun h => ⟨h.v, h.n⟩⟩
theorem own_pos {x : Ch} (hv : validB x = true) (co : ByteArray) : 1 ≤ (tenC (phasesL x co)).length := by
  have hb := phases_bd (co := co) hv
  have hl := tenL_len hb
  have ht := tot_pos hv co
  rw [tenC, List.length_map]
  omega
theorem FitsL.rep {x : Ch} {L : List Int} (h : FitsL x L) (hL : 1 ≤ L.length) (hp : primB L) : ∃ s, s < L.length ∧ Rep (tenC (phasesL x x.cs)) L s := (rep_norm (own_pos h.v _) hL hp).2 h.n
theorem FitsL.rot {x : Ch} {L : List Int} (h : FitsL x L) (hL : 1 ≤ L.length) (hp : primB L) (hs : steadyB x = false) (hx : x.p = L.length) : ∃ s, tenC (phasesL x x.cs) = rotB L s := by
  obtain ⟨s, _, hr⟩ := h.rep hL hp
  exact ⟨_, rep_rot hr (by have := len_own (co := x.cs) h.v hs; omega)⟩
theorem FitsL.flash {x : Ch} {L : List Int} (h : FitsL x L) (hL : 1 ≤ L.length) (hp : primB L) (hs : steadyB x = false) (h3 : x.k ≠ 3) (hx : x.p = L.length) (hc : code x.cs ≠ 0) : flashB L = ((timesL x).length + 1) / 2 := by
  obtain ⟨s, e⟩ := h.rot hL hp hs hx
  rw [← flash_own h.v hc hs h3, e, flash_rot]
theorem FitsL.lit {x : Ch} {L : List Int} (h : FitsL x L) (hL : 1 ≤ L.length) (hp : primB L) (hs : steadyB x = false) (hx : x.p = L.length) : litN L = litN (tenC (phasesL x x.cs)) := by
  obtain ⟨s, e⟩ := h.rot hL hp hs hx
  rw [e, lit_rot]
theorem litN_tenA {c : Int} (hc : c ≠ 0) : ∀ (ts : List Int) (l : Bool), litN (tenA c l ts) = ((ts.mapIdx fun i t => bif (decide (i % 2 = 1) == l) then 0 else t.toNat).sum)
  | [], _ => rfl
  | t :: r, l => by
    have ih := litN_tenA hc r (!l)
    rw [tenA, litN, List.countP_append, ← litN, ← litN, ih, List.mapIdx_cons, List.sum_cons]
    have e : (fun (i : Nat) (t : Int) => bif (decide (i % 2 = 1) == !l) then 0 else t.toNat) = (fun (i : Nat) (t : Int) => bif (decide ((i + 1) % 2 = 1) == l) then 0 else t.toNat) := by
      funext i t
      by_cases h : i % 2 = 1
      · rw [decide_eq_true h, decide_eq_false (show ¬ (i + 1) % 2 = 1 by omega)]; cases l <;> rfl
      · rw [decide_eq_false h, decide_eq_true (show (i + 1) % 2 = 1 by omega)]; cases l <;> rfl
    rw [e]
    congr 1
    cases l <;> simp [litN, List.countP_replicate, hc]
end Go.Proofs.Ytgibbhipjpbdfaa
