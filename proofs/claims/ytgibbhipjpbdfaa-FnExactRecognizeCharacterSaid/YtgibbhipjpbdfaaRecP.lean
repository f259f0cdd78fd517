
/- The rhythms that are tried: two ways through them find the same first one. Plain. -/
import Derived.Test.YtgibbhipjpbdfaaRecF
namespace Go.Proofs.Ytgibbhipjpbdfaa
open Go.RowKit
abbrev eB : ByteArray := ⟨#[]⟩
abbrev lB : ByteArray := ⟨#[76]⟩
theorem isE_e : isE eB = true := by rw [isE, ByteArray.toList_eq]; rfl
theorem isE_l : isE lB = false := by rw [isE, ByteArray.toList_eq]; rfl
theorem isL_e : isL eB = false := by rw [isL, ByteArray.toList_eq]; rfl
theorem isL_l : isL lB = true := by rw [isL, ByteArray.toList_eq]; rfl
def extL : Nat → Nat → List Int → List (List Int)
  | 0, s, h => if s = 0 then [h] else []
  | n + 1, s, h => (List.range (min 9 s)).flatMap fun i => extL n (s - (i + 1)) (h ++ [(i : Int) + 1])
def groupsS (s : Nat) : List (List Int) := (List.range 4).flatMap fun i => extL (i + 1) s []
def ext1 (g : List Int) : List (List Int) := (List.range (min 9 (12 - g.sum).toNat)).map fun i : Nat => g ++ [(i : Int) + 1]
def grpI : Nat → List (List Int)
  | 0 => [[]]
  | e + 1 => (grpI e).flatMap ext1
def genF : Nat → List Int → List (List Int)
  | 0, h => [h]
  | n + 1, h => (List.range (min 9 (12 - h.sum).toNat)).flatMap fun i : Nat => genF n (h ++ [(i : Int) + 1])
theorem gen_next : ∀ (n : Nat) (h : List Int), genF (n + 1) h = (genF n h).flatMap ext1
  | 0, h => by simp [genF, ext1, List.map_eq_flatMap]
  | n + 1, h => by
    rw [genF, genF, List.flatMap_assoc]
    congr 1
    funext i
    exact gen_next n _
theorem grp_gen : ∀ n, grpI n = genF n []
  | 0 => rfl
  | n + 1 => by rw [grpI, grp_gen n, gen_next]
theorem gen_mem : ∀ (n : Nat) (h g : List Int), g ∈ genF n h → g.length = h.length + n ∧ h.sum ≤ g.sum ∧ (h.sum ≤ 12 → g.sum ≤ 12)
  | 0, h, g, hg => by
    obtain rfl : g = h := by simpa [genF] using hg
    exact ⟨rfl, Int.le_refl _, id⟩
  | n + 1, h, g, hg => by
    simp only [genF, List.mem_flatMap, List.mem_range] at hg
    obtain ⟨i, hi, hg⟩ := hg
    obtain ⟨a, b, c⟩ := gen_mem n _ g hg
    simp only [List.length_append, List.length_cons, List.length_nil, List.sum_append, List.sum_cons, List.sum_nil] at a b c
    refine ⟨by omega, by omega, fun _ => c (by omega)⟩
theorem range_cut {α : Type} (F : Nat → List α) (a : Nat) : ∀ m, a ≤ m → (∀ i, a ≤ i → i < m → F i = []) → (List.range m).flatMap F = (List.range a).flatMap F
  | 0, h, _ => by rw [Nat.le_zero.1 h]
  | m + 1, h, hF => by
    by_cases hm : a = m + 1
    · rw [hm]
    · rw [List.range_succ, List.flatMap_append, range_cut F a m (by omega) fun i h1 h2 => hF i h1 (by omega)]
      simp [hF m (by omega) (by omega)]
theorem range_congr {α : Type} {F G : Nat → List α} : ∀ m, (∀ i, i < m → F i = G i) → (List.range m).flatMap F = (List.range m).flatMap G
  | 0, _ => rfl
  | m + 1, h => by
    rw [List.range_succ, List.flatMap_append, List.flatMap_append, range_congr m fun i hi => h i (by omega)]
    simp [h m (by omega)]
theorem ext_gen : ∀ (n s : Nat) (h : List Int), h.sum + s ≤ 12 → extL n s h = (genF n h).filter fun g => decide (g.sum = h.sum + s)
  | 0, s, h, _ => by
    rw [extL, genF]
    by_cases hs : s = 0
    · rw [if_pos hs, hs]; simp
    · rw [if_neg hs, List.filter_cons, if_neg (by simp; omega)]; rfl
  | n + 1, s, h, hb => by
    rw [extL, genF, List.filter_flatMap]
    rw [range_cut _ (min 9 s) (min 9 (12 - h.sum).toNat) (by omega) fun i h1 h2 => ?_]
    · refine range_congr _ fun i hi => ?_
      have e : (h ++ [(i : Int) + 1]).sum = h.sum + (i + 1) := by simp
      rw [ext_gen n (s - (i + 1)) (h ++ [(i : Int) + 1]) (by rw [e]; omega), e]
      congr 1
      funext g
      congr 1
      rw [show h.sum + ((i : Int) + 1) + ((s - (i + 1) : Nat) : Int) = h.sum + s by omega]
    · rw [List.filter_eq_nil_iff]
      intro g hg
      have h3 := (gen_mem n _ g hg).2.1
      simp only [List.sum_append, List.sum_cons, List.sum_nil] at h3
      simp only [decide_eq_true_eq]
      omega
theorem ext_sum : ∀ (n s : Nat) (h g : List Int), g ∈ extL n s h → g.sum = h.sum + s ∧ g.length = h.length + n
  | 0, s, h, g, hg => by
    rw [extL] at hg
    split at hg
    · obtain rfl : g = h := by simpa using hg
      rename_i hs; subst hs; simp
    · cases hg
  | n + 1, s, h, g, hg => by
    simp only [extL, List.mem_flatMap, List.mem_range] at hg
    obtain ⟨i, hi, hg⟩ := hg
    obtain ⟨a, b⟩ := ext_sum n _ _ g hg
    simp only [List.length_append, List.length_cons, List.length_nil, List.sum_append, List.sum_cons, List.sum_nil] at a b
    omega
def cand (co : ByteArray) (n k : Int) (g : List Int) (l : ByteArray) : Ch := ⟨k, g, l, co, if k = 1 ∨ ((k = 6 ∨ k = 7) ∧ g = []) then 0 else n⟩
def ltrB (i : Nat) : ByteArray := ⟨#[UInt8.ofNat (65 + i)]⟩
def lettersC (co : ByteArray) (n : Int) : List Ch := (List.range 26).map fun i => cand co n 8 [] (ltrB i)
def candS (co : ByteArray) (n : Int) (F : Nat) (k : Int) : List Ch :=
  if k = 8 then lettersC co n else
  cand co n k [] eB :: (if k = 1 ∨ k = 3 then [] else (groupsS F).map (fun g => cand co n k g eB) ++ [cand co n k [6] lB])
def candG (co : ByteArray) (n k : Int) (g : List Int) : List Ch := ([eB, lB].filter fun l => fitsB ⟨k, g, l, co, 0⟩).map fun l => cand co n k g l
def candI (co : ByteArray) (n : Int) (k : Int) : List Ch :=
  if k = 8 then lettersC co n else (List.range 5).flatMap fun e => (grpI e).flatMap (candG co n k)
def kinds : List Int := [1, 2, 3, 4, 5, 6, 7, 8]
def recS (co : ByteArray) (n : Int) (F : Nat) (L : List Int) : Option Ch := (kinds.flatMap (candS co n F)).find? (fitC L)
def recI (co : ByteArray) (n : Int) (L : List Int) : Option Ch := (kinds.flatMap (candI co n)).find? (fitC L)
theorem cand_steady (co : ByteArray) (n k : Int) (g : List Int) (l : ByteArray) : steadyB (cand co n k g l) = decide (k = 1 ∨ ((k = 6 ∨ k = 7) ∧ g = [])) := by
  simp only [steadyB, cand]
  by_cases h1 : k = 1 <;> by_cases h6 : k = 6 <;> by_cases h7 : k = 7 <;> by_cases hg : g = [] <;> simp_all
theorem fit_fits {L : List Int} {x : Ch} (h : fitC L x = true) : fitsB x = true := by
  have := valid_shape (fitC_iff.1 h).v
  simp only [shapeB, Bool.and_eq_true] at this
  exact this.2
theorem fits_p (k : Int) (g : List Int) (l co : ByteArray) (p q : Int) : fitsB ⟨k, g, l, co, p⟩ = fitsB ⟨k, g, l, co, q⟩ := rfl
theorem fit_flash {co : ByteArray} {L : List Int} (hc : code co ≠ 0) (hL : 1 ≤ L.length) (hp : primB L) {k : Int} {g : List Int} {l : ByteArray} (hk : k = 2 ∨ k = 4 ∨ k = 5 ∨ k = 6 ∨ k = 7) (hg : g ≠ []) (h : fitC L (cand co L.length k g l) = true) :
    (flashB L : Int) = g.sum + (if isL l = true then 1 else 0) := by
  have hf := fitC_iff.1 h
  have hs : steadyB (cand co L.length k g l) = false := by
    rw [cand_steady, decide_eq_false_iff_not]
    rintro (h1 | ⟨_, h1⟩)
    · omega
    · exact hg h1
  have hx : (cand co L.length k g l).p = L.length := by
    rw [cand, if_neg]
    rintro (h1 | ⟨_, h1⟩)
    · omega
    · exact hg h1
  rw [hf.flash hL hp hs (show k ≠ 3 by omega) hx hc]
  exact times_sum hf.v (show k ≠ 8 by omega) hg
theorem filter_map_congr {α β : Type} {c : α → β} {p : β → Bool} {q : α → Bool} (h : ∀ a, p (c a) = true → q a = true) (l : List α) : (l.map c).filter p = ((l.filter q).map c).filter p := by
  induction l with
  | nil => rfl
  | cons a l ih =>
    rw [List.map_cons, List.filter_cons, List.filter_cons]
    cases hp : p (c a)
    · rw [if_neg (by simp), ih]
      split
      · rw [List.map_cons, List.filter_cons, hp]; simp
      · rfl
    · rw [if_pos rfl, if_pos (h a hp), List.map_cons, List.filter_cons, hp, if_pos rfl, ih]
theorem fit_group {co : ByteArray} {L : List Int} {k : Int} {g : List Int} (hk : k = 2 ∨ k = 4 ∨ k = 5 ∨ k = 6 ∨ k = 7) (h : fitC L (cand co L.length k g eB) = true) : groupB g = true ∧ (k = 6 ∨ k = 7 → g.length ≤ 1) := by
  have hf0 := fit_fits h
  have hf : fitsB ⟨k, g, eB, co, 0⟩ = true := hf0
  simp only [fitsB] at hf
  rw [if_neg (by omega)] at hf
  by_cases h2 : k = 2 ∨ k = 4 ∨ k = 5
  · rw [if_pos h2, Bool.and_eq_true] at hf
    exact ⟨hf.2, fun h => by omega⟩
  · rw [if_neg h2, if_pos (by omega), isL_e, if_neg (by simp)] at hf
    simp only [Bool.and_eq_true, decide_eq_true_eq] at hf
    exact ⟨hf.2.2, fun _ => hf.2.1⟩
theorem groups_same {co : ByteArray} {L : List Int} (hc : code co ≠ 0) (hL : 1 ≤ L.length) (hp : primB L) {k : Int} (hk : k = 2 ∨ k = 4 ∨ k = 5 ∨ k = 6 ∨ k = 7) (e : Nat) :
    ((grpI (e + 1)).map fun g => cand co L.length k g eB).filter (fitC L) = ((extL (e + 1) (flashB L) []).map fun g => cand co L.length k g eB).filter (fitC L) := by
  have hsum : ∀ g : List Int, g ≠ [] → fitC L (cand co L.length k g eB) = true → g.sum = (flashB L : Int) := fun g hg h => by
    have := fit_flash hc hL hp hk hg h
    rw [isL_e] at this; simp at this; omega
  have hne : ∀ g, g ∈ grpI (e + 1) → g ≠ [] := fun g hg e0 => by
    rw [grp_gen] at hg
    have := (gen_mem _ _ g hg).1
    rw [e0] at this; simp at this
  by_cases hF : flashB L ≤ 12
  · rw [ext_gen (e + 1) (flashB L) [] (by simp; omega), ← grp_gen]
    have key : ∀ l : List (List Int), (∀ g ∈ l, g ≠ []) → (l.map fun g => cand co L.length k g eB).filter (fitC L) = ((l.filter fun g => decide (g.sum = ([] : List Int).sum + (flashB L : Int))).map fun g => cand co L.length k g eB).filter (fitC L) := by
      intro l
      induction l with
      | nil => intro _; rfl
      | cons a l ih =>
        intro hl
        have ih' := ih fun g hg => hl g (List.mem_cons_of_mem _ hg)
        rw [List.map_cons, List.filter_cons, List.filter_cons]
        cases hpa : fitC L (cand co L.length k a eB)
        · rw [if_neg (by simp), ih']
          split
          · rw [List.map_cons, List.filter_cons, hpa]; simp
          · rfl
        · have hs := hsum a (hl a List.mem_cons_self) hpa
          rw [if_pos rfl, if_pos (by simp; omega), List.map_cons, List.filter_cons, hpa, if_pos rfl, ih']
    exact key _ hne
  · have e1 : ((grpI (e + 1)).map fun g => cand co L.length k g eB).filter (fitC L) = [] := by
      rw [List.filter_eq_nil_iff]
      intro x hx h
      obtain ⟨g, hg, rfl⟩ := List.mem_map.1 hx
      have h1 := hsum g (hne g hg) h
      rw [grp_gen] at hg
      have := (gen_mem _ _ g hg).2.2 (by simp)
      omega
    have e2 : ((extL (e + 1) (flashB L) []).map fun g => cand co L.length k g eB).filter (fitC L) = [] := by
      rw [List.filter_eq_nil_iff]
      intro x hx h
      obtain ⟨g, hg, rfl⟩ := List.mem_map.1 hx
      have h1 := (ext_sum _ _ _ g hg).1
      have h2 := (fit_group hk h).1
      simp only [groupB, Bool.and_eq_true, decide_eq_true_eq] at h2
      simp at h1
      omega
    rw [e1, e2]
theorem flat_filter {α β : Type} (l : List α) (c : α → β) (q : α → Bool) (p : β → Bool) (h : ∀ a, p (c a) = true → q a = true) : (l.flatMap fun a => if q a = true then [c a] else []).filter p = (l.map c).filter p := by
  induction l with
  | nil => rfl
  | cons a l ih =>
    rw [List.flatMap_cons, List.filter_append, ih, List.map_cons, List.filter_cons]
    cases hq : q a
    · have : p (c a) = false := by
        cases hp : p (c a)
        · rfl
        · rw [h a hp] at hq; cases hq
      simp [this]
    · simp only [if_true]
      rw [List.filter_cons]
      split <;> simp
theorem flat_app_nil {α β : Type} {A B : α → List β} {p : β → Bool} : ∀ {l : List α}, (∀ a ∈ l, (B a).filter p = []) → (l.flatMap fun a => A a ++ B a).filter p = (l.flatMap A).filter p
  | [], _ => rfl
  | a :: l, h => by
    rw [List.flatMap_cons, List.flatMap_cons, List.filter_append, List.filter_append, List.filter_append, h a (by simp), List.append_nil, flat_app_nil fun b hb => h b (List.mem_cons_of_mem _ hb)]
theorem candG_ocs {co : ByteArray} {n k : Int} (hk : k = 2 ∨ k = 4 ∨ k = 5) (g : List Int) : candG co n k g = if groupB g = true then [cand co n k g eB] else [] := by
  have h1 : fitsB ⟨k, g, eB, co, 0⟩ = groupB g := by
    simp only [fitsB]
    rw [if_neg (by omega), if_pos hk, isE_e, Bool.true_and]
  have h2 : fitsB ⟨k, g, lB, co, 0⟩ = false := by
    simp only [fitsB]
    rw [if_neg (by omega), if_pos hk, isE_l, Bool.false_and]
  rw [candG, List.filter_cons, List.filter_cons, h1, h2]
  cases groupB g <;> simp
theorem candG_13 {co : ByteArray} {n k : Int} (hk : k = 1 ∨ k = 3) (g : List Int) : candG co n k g = if g = [] then [cand co n k [] eB] else [] := by
  have h1 : fitsB ⟨k, g, eB, co, 0⟩ = decide (g = []) := by
    simp only [fitsB]
    rw [if_pos hk, isE_e, Bool.and_true]
  have h2 : fitsB ⟨k, g, lB, co, 0⟩ = false := by
    simp only [fitsB]
    rw [if_pos hk, isE_l, Bool.and_false]
  rw [candG, List.filter_cons, List.filter_cons, h1, h2]
  by_cases hg : g = []
  · subst hg; simp
  · simp [hg]
theorem candG_67 {co : ByteArray} {n k : Int} (hk : k = 6 ∨ k = 7) (g : List Int) : candG co n k g = (if (decide (g.length ≤ 1) && groupB g) = true then [cand co n k g eB] else []) ++ (if g = [6] then [cand co n k g lB] else []) := by
  have h1 : fitsB ⟨k, g, eB, co, 0⟩ = (decide (g.length ≤ 1) && groupB g) := by
    simp only [fitsB]
    rw [if_neg (by omega), if_neg (by omega), if_pos hk, isL_e, if_neg (by simp), isE_e, Bool.true_and]
  have h2 : fitsB ⟨k, g, lB, co, 0⟩ = decide (g = [6]) := by
    simp only [fitsB]
    rw [if_neg (by omega), if_neg (by omega), if_pos hk, isL_l, if_pos rfl]
  rw [candG, List.filter_cons, List.filter_cons, h1, h2]
  by_cases hg : g = [6]
  · subst hg; cases hq : (decide (([6] : List Int).length ≤ 1) && groupB [6]) <;> simp
  · cases hq : (decide (g.length ≤ 1) && groupB g) <;> simp [hg]
theorem range5 {α : Type} (F : Nat → List α) : (List.range 5).flatMap F = F 0 ++ (List.range 4).flatMap fun e => F (e + 1) := by
  simp [List.range_succ]
theorem grp_ne {e : Nat} {g : List Int} (hg : g ∈ grpI (e + 1)) : g ≠ [] := fun e0 => by
  rw [grp_gen] at hg
  have := (gen_mem _ _ g hg).1
  rw [e0] at this; simp at this
theorem flat_nil {α β : Type} {l : List α} {F : α → List β} (h : ∀ a ∈ l, F a = []) : l.flatMap F = [] := by
  rw [List.flatMap_eq_nil_iff]; exact h
/-- Six quick flashes and a long one are another pattern than seven quick ones. -/
theorem six_seven {co : ByteArray} {L : List Int} (hc : code co ≠ 0) (hL : 1 ≤ L.length) (hp : primB L) {k : Int} (hk : k = 6 ∨ k = 7) (h1 : fitC L (cand co L.length k [7] eB) = true) (h2 : fitC L (cand co L.length k [6] lB) = true) : False := by
  have f1 := fitC_iff.1 h1
  have f2 := fitC_iff.1 h2
  have s1 : steadyB (cand co L.length k [7] eB) = false := by rw [cand_steady]; rcases hk with rfl | rfl <;> decide
  have s2 : steadyB (cand co L.length k [6] lB) = false := by rw [cand_steady]; rcases hk with rfl | rfl <;> decide
  have p1 : (cand co L.length k [7] eB).p = L.length := by rw [cand, if_neg (by rintro (h | ⟨_, h⟩); omega; cases h)]
  have p2 : (cand co L.length k [6] lB).p = L.length := by rw [cand, if_neg (by rintro (h | ⟨_, h⟩); omega; cases h)]
  have l1 := f1.lit hL hp s1 p1
  have l2 := f2.lit hL hp s2 p2
  rw [ph_alt _ s1 (show k ≠ 3 by omega), ten_alt, litN_tenA (show code (cand co L.length k [7] eB).cs ≠ 0 from hc)] at l1
  rw [ph_alt _ s2 (show k ≠ 3 by omega), ten_alt, litN_tenA (show code (cand co L.length k [6] lB).cs ≠ 0 from hc)] at l2
  rw [l2] at l1
  have o1 : ocB (cand co L.length k [7] eB) = false := by rcases hk with rfl | rfl <;> rfl
  have o2 : ocB (cand co L.length k [6] lB) = false := by rcases hk with rfl | rfl <;> rfl
  rw [o1, o2] at l1
  have t1 : timesL (cand co L.length k [7] eB) = outerT k [7] 1 := by
    rw [timesL, if_neg (show ¬ (cand co L.length k [7] eB).k = 8 from show ¬ k = 8 by omega), show isL (cand co L.length k [7] eB).l = false from isL_e, if_neg (by simp), List.append_nil]; rfl
  have t2 : timesL (cand co L.length k [6] lB) = outerT k [6] 1 ++ [gapI k, 20] := by
    rw [timesL, if_neg (show ¬ (cand co L.length k [6] lB).k = 8 from show ¬ k = 8 by omega), show isL (cand co L.length k [6] lB).l = true from isL_l, if_pos rfl]; rfl
  rw [allT, allT, t1, t2] at l1
  rcases hk with rfl | rfl
  · revert l1
    generalize (cand co L.length 6 [6] lB).p - (outerT 6 [6] 1 ++ [gapI 6, 20]).sum = a
    generalize (cand co L.length 6 [7] eB).p - (outerT 6 [7] 1).sum = b
    rw [show outerT 6 [7] 1 = [5, 5, 5, 5, 5, 5, 5, 5, 5, 5, 5, 5, 5] by decide, show outerT 6 [6] 1 ++ [gapI 6, 20] = [5, 5, 5, 5, 5, 5, 5, 5, 5, 5, 5, 5, 20] by decide]
    simp [List.mapIdx_cons]
  · revert l1
    generalize (cand co L.length 7 [6] lB).p - (outerT 7 [6] 1 ++ [gapI 7, 20]).sum = a
    generalize (cand co L.length 7 [7] eB).p - (outerT 7 [7] 1).sum = b
    rw [show outerT 7 [7] 1 = [2, 3, 2, 3, 2, 3, 2, 3, 2, 3, 2, 3, 2] by decide, show outerT 7 [6] 1 ++ [gapI 7, 20] = [2, 3, 2, 3, 2, 3, 2, 3, 2, 3, 2, 3, 20] by decide]
    simp [List.mapIdx_cons]
theorem kind_same {co : ByteArray} {L : List Int} (hc : code co ≠ 0) (hL : 1 ≤ L.length) (hp : primB L) {k : Int} (hk : k ∈ kinds) :
    (candS co L.length (flashB L) k).filter (fitC L) = (candI co L.length k).filter (fitC L) := by
  by_cases h8 : k = 8
  · rw [candS, if_pos h8, candI, if_pos h8]
  rw [candS, if_neg h8, candI, if_neg h8, range5]
  by_cases h13 : k = 1 ∨ k = 3
  · rw [if_pos h13]
    have e0 : (grpI 0).flatMap (candG co L.length k) = [cand co L.length k [] eB] := by
      rw [grpI, List.flatMap_cons, List.flatMap_nil, candG_13 h13, if_pos rfl]; rfl
    have e1 : (List.range 4).flatMap (fun e => (grpI (e + 1)).flatMap (candG co L.length k)) = [] :=
      flat_nil fun e _ => flat_nil fun g hg => by rw [candG_13 h13, if_neg (grp_ne hg)]
    rw [e0, e1]; rfl
  have lhs : ∀ (a b : Ch) (c : List Int → Ch) (p : Ch → Bool), (a :: ((groupsS (flashB L)).map c ++ [b])).filter p = [a].filter p ++ ((List.range 4).flatMap (fun e => ((extL (e + 1) (flashB L) []).map c).filter p) ++ [b].filter p) := fun a b c p => by
    rw [← List.singleton_append, List.filter_append, List.filter_append, groupsS, List.map_flatMap, List.filter_flatMap]
  have rhs : ∀ (a : Ch) (H : Nat → List Ch) (p : Ch → Bool), ([a] ++ (List.range 4).flatMap H).filter p = [a].filter p ++ (List.range 4).flatMap fun e => (H e).filter p := fun a H p => by
    rw [List.filter_append, List.filter_flatMap]
  rw [if_neg h13, lhs]
  by_cases h2 : k = 2 ∨ k = 4 ∨ k = 5
  · have hk' : k = 2 ∨ k = 4 ∨ k = 5 ∨ k = 6 ∨ k = 7 := by omega
    have hl : fitC L (cand co L.length k [6] lB) = false := by
      cases hq : fitC L (cand co L.length k [6] lB)
      · rfl
      · have h30 := fit_fits hq
        have h3 : fitsB ⟨k, [6], lB, co, 0⟩ = true := h30
        simp only [fitsB] at h3
        rw [if_neg (by omega), if_pos h2, isE_l, Bool.false_and] at h3
        cases h3
    have e0 : (grpI 0).flatMap (candG co L.length k) = [cand co L.length k [] eB] := by
      rw [grpI, List.flatMap_cons, List.flatMap_nil, candG_ocs h2, if_pos (by decide)]; rfl
    have e1 : ∀ e, ((grpI (e + 1)).flatMap (candG co L.length k)).filter (fitC L) = ((extL (e + 1) (flashB L) []).map fun g => cand co L.length k g eB).filter (fitC L) := fun e => by
      rw [← groups_same hc hL hp hk' e, show (candG co (L.length : Int) k) = (fun g => if groupB g = true then [cand co L.length k g eB] else []) from funext (candG_ocs h2)]
      exact flat_filter _ _ _ _ fun g hg => (fit_group hk' hg).1
    rw [e0, rhs, show [cand co L.length k [6] lB].filter (fitC L) = [] by rw [List.filter_cons, hl]; rfl, List.append_nil]
    congr 1
    exact range_congr 4 fun e _ => (e1 e).symm
  · have h67 : k = 6 ∨ k = 7 := by
      simp only [kinds, List.mem_cons, List.not_mem_nil, or_false] at hk
      omega
    have hk' : k = 2 ∨ k = 4 ∨ k = 5 ∨ k = 6 ∨ k = 7 := by omega
    have e0 : (grpI 0).flatMap (candG co L.length k) = [cand co L.length k [] eB] := by
      rw [grpI, List.flatMap_cons, List.flatMap_nil, candG_67 h67, if_pos (by decide), if_neg (by simp)]; rfl
    have e2 : ∀ e, ((grpI (e + 2)).flatMap (candG co L.length k)) = [] := fun e => flat_nil fun g hg => by
      rw [grp_gen] at hg
      have hl := (gen_mem _ _ g hg).1
      simp only [List.length_nil, Nat.zero_add] at hl
      rw [candG_67 h67, decide_eq_false (by omega), if_neg (by simp), if_neg (by intro e0; rw [e0] at hl; simp at hl)]; rfl
    have f2 : ∀ e, ((extL (e + 2) (flashB L) []).map fun g => cand co L.length k g eB).filter (fitC L) = [] := fun e => by
      rw [List.filter_eq_nil_iff]
      intro x hx h
      obtain ⟨g, hg, rfl⟩ := List.mem_map.1 hx
      have h1 := (ext_sum _ _ _ g hg).2
      have h2 := (fit_group hk' h).2 h67
      simp at h1
      omega
    have e1 : ((grpI 1).flatMap (candG co L.length k)).filter (fitC L) = ((extL 1 (flashB L) []).map fun g => cand co L.length k g eB).filter (fitC L) ++ [cand co L.length k [6] lB].filter (fitC L) := by
      rw [← groups_same hc hL hp hk' 0]
      cases h6 : fitC L (cand co L.length k [6] lB)
      · rw [show (candG co (L.length : Int) k) = (fun g => (if (decide (g.length ≤ 1) && groupB g) = true then [cand co L.length k g eB] else []) ++ (if g = [6] then [cand co L.length k g lB] else [])) from funext (candG_67 h67)]
        rw [flat_app_nil (fun g _ => by
          split
          · rename_i hg6
            rw [hg6, List.filter_cons, h6]; rfl
          · rfl), flat_filter _ _ _ _ (fun g hg => by
          have h1 := fit_group hk' hg
          rw [h1.1, decide_eq_true (h1.2 h67)]; rfl), List.filter_cons, h6]
        simp
      · have hg1 : grpI 1 = [[1], [2], [3], [4], [5], [6], [7], [8], [9]] := by decide
        have hG : ∀ v : Int, (decide (([v] : List Int).length ≤ 1) && groupB [v]) = (inB v 1 9 && !decide (v = 1)) := fun v => by
          by_cases h1 : v = 1
          · subst h1; decide
          · have : groupB [v] = inB v 1 9 := by
              rw [Bool.eq_iff_iff]
              simp only [groupB, Bool.and_eq_true, decide_eq_true_eq, allB_iff]
              constructor
              · rintro ⟨a, _⟩
                have := a 0 (by simp)
                simpa [goodG] using this
              · intro h
                refine ⟨fun i hi => ?_, by simp, ?_, ?_⟩
                · obtain rfl : i = 0 := by simpa using hi
                  simpa [goodG] using h
                · have := inB_iff.1 h; simp; omega
                · simpa using h1
            rw [this]; simp [h1]
        have h1f : fitC L (cand co L.length k [1] eB) = false := by
          cases hq : fitC L (cand co L.length k [1] eB)
          · rfl
          · exact absurd (fit_group hk' hq).1 (by decide)
        rw [hg1]
        simp only [List.flatMap_cons, List.flatMap_nil, candG_67 h67, hG, List.map_cons, List.map_nil, List.filter_append, List.filter_cons, h1f]
        have hF := fit_flash hc hL hp hk' (g := [6]) (l := lB) (by simp) h6
        rw [isL_l] at hF
        simp at hF
        have hno : ∀ v : Int, v ≠ 7 → fitC L (cand co L.length k [v] eB) = false := fun v hv => by
          cases hq : fitC L (cand co L.length k [v] eB)
          · rfl
          · have h3 := fit_flash hc hL hp hk' (g := [v]) (l := eB) (by simp) hq
            rw [isL_e] at h3
            simp at h3
            omega
        have h7 : fitC L (cand co L.length k [7] eB) = false := by
          cases hq : fitC L (cand co L.length k [7] eB)
          · rfl
          · exact (six_seven hc hL hp h67 hq h6).elim
        simp [inB, h6, h7, hno 2 (by decide), hno 3 (by decide), hno 4 (by decide), hno 5 (by decide), hno 6 (by decide), hno 8 (by decide), hno 9 (by decide)]
    have eR : ∀ {α : Type} (F : Nat → List α), (List.range 4).flatMap F = F 0 ++ (List.range 3).flatMap fun e => F (e + 1) := fun F => by simp [List.range_succ]
    rw [e0, rhs, eR, eR]
    congr 1
    rw [show (List.range 3).flatMap (fun e => ((extL (e + 1 + 1) (flashB L) []).map fun g => cand co L.length k g eB).filter (fitC L)) = [] from flat_nil fun e _ => f2 e, show (List.range 3).flatMap (fun e => ((grpI (e + 1 + 1)).flatMap (candG co L.length k)).filter (fitC L)) = [] from flat_nil fun e _ => by rw [e2 e]; rfl, List.append_nil, List.append_nil]
    exact e1.symm
theorem rec_same {co : ByteArray} {L : List Int} (hc : code co ≠ 0) (hL : 1 ≤ L.length) (hp : primB L) : recS co L.length (flashB L) L = recI co L.length L := by
  rw [recS, recI, ← List.head?_filter, ← List.head?_filter, List.filter_flatMap, List.filter_flatMap]
  congr 1
  have key : ∀ ks : List Int, (∀ k ∈ ks, k ∈ kinds) → (ks.flatMap fun k => (candS co L.length (flashB L) k).filter (fitC L)) = ks.flatMap fun k => (candI co L.length k).filter (fitC L) := by
    intro ks
    induction ks with
    | nil => intro _; rfl
    | cons k ks ih =>
      intro h
      rw [List.flatMap_cons, List.flatMap_cons, kind_same hc hL hp (h k List.mem_cons_self), ih fun j hj => h j (List.mem_cons_of_mem _ hj)]
  exact key kinds fun k hk => hk
end Go.Proofs.Ytgibbhipjpbdfaa
