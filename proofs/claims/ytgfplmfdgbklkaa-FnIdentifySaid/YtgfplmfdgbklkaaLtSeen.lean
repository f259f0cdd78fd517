/- What follows from an observation with small errors. Plain facts, no program. -/
import Derived.Test.YtgfplmfdgbklkaaLtG
import Derived.Test.YtgfplmfdgbklkaaLtLike
namespace Go.Proofs.Ytgfplmfdgbklkaa
open Go.RowKit
theorem start_fix {x : Ch} {co : ByteArray} {s : Nat} (hv : validB x = true) (hco : co.toList.isEmpty = false) (hs : s < (phasesL x co).length) (h : startB (phasesL x co) (s : Int) = false) : startB (phasesL x co) (((s + 1) % (phasesL x co).length : Nat) : Int) = true := by
  have hk : x.k ≠ 1 := fun hk => by
    have h1 : (phasesL x co).length = 1 := by rw [phasesL, if_pos hk]; rfl
    obtain rfl : s = 0 := by omega
    rw [start_at hco] at h
    have : ocB x = false := by simp [ocB, hk]
    rw [h1] at h
    simp [litAt, this] at h
  have he := phases_even (co := co) hv hk
  rw [start_at hco] at h ⊢
  obtain ⟨N, hN⟩ : ∃ N, (phasesL x co).length = N := ⟨_, rfl⟩
  rw [hN] at hs h he ⊢
  have hl : (s + 1) % N < N := Nat.mod_lt _ (by omega)
  have hp : (s + 1) % N % 2 = (s + 1) % 2 := Nat.mod_mod_of_dvd _ (by omega)
  simp only [Int.toNat_natCast] at h ⊢
  rw [decide_eq_true (show (0 : Int) ≤ (s : Int) by omega), decide_eq_true hs] at h
  rw [decide_eq_true (show (0 : Int) ≤ (((s + 1) % N : Nat) : Int) by omega), decide_eq_true hl]
  unfold litAt at h ⊢
  rw [hp]
  by_cases h2 : s % 2 = 1
  · rw [decide_eq_true h2] at h
    rw [decide_eq_false (show ¬ (s + 1) % 2 = 1 by omega)]
    cases hoc : ocB x <;> rw [hoc] at h <;> simp at h ⊢
  · rw [decide_eq_false h2] at h
    rw [decide_eq_true (show (s + 1) % 2 = 1 by omega)]
    cases hoc : ocB x <;> rw [hoc] at h <;> simp at h ⊢
/-- The list O is the list o with other lengths, none off by more than tol. -/
structure Near (o O : List Ph) (tol : Int) : Prop where
  len : O.length = o.length
  at_ : ∀ (i : Nat) (p q : Ph), o[i]? = some p → O[i]? = some q → q.c = p.c ∧ -tol ≤ q.len - p.len ∧ q.len - p.len ≤ tol ∧ 1 ≤ q.len
theorem Near.both {o O : List Ph} {tol : Int} (h : Near o O tol) {i : Nat} (hi : i < o.length) : ∃ p q, o[i]? = some p ∧ O[i]? = some q ∧ q.c = p.c ∧ -tol ≤ q.len - p.len ∧ q.len - p.len ≤ tol ∧ 1 ≤ q.len := by
  have h1 : o[i]? = some (o[i]'hi) := List.getElem?_eq_getElem _
  have h2 : O[i]? = some (O[i]'(by rw [h.len]; exact hi)) := List.getElem?_eq_getElem _
  exact ⟨_, _, h1, h2, h.at_ i _ _ h1 h2⟩
theorem Near.hc {o O : List Ph} {tol : Int} (h : Near o O tol) (h1 : 0 < o.length) : hcO O = hcO o := by
  obtain ⟨p, q, hp, hq, hc, _⟩ := h.both h1
  rw [hcO_at hp, hcO_at hq, hc]
theorem Near.diff {o O : List Ph} {tol : Int} (h : Near o O tol) {i : Nat} (hi : i < o.length) : -tol ≤ lenO O i - lenO o i ∧ lenO O i - lenO o i ≤ tol := by
  obtain ⟨p, q, hp, hq, _, h1, h2, _⟩ := h.both hi
  rw [lenO_at hp, lenO_at hq]; exact ⟨h1, h2⟩
theorem Near.obs {o O : List Ph} {tol : Int} (h : Near o O tol) (ho : obsB o = true) (h6 : ∀ p ∈ o, p.len ≤ 600) (ht : tol ≤ 600) : obsB O = true := by
  have hl : 0 < o.length := by
    rw [obsB_i] at ho
    simp only [Bool.and_eq_true] at ho
    have := inB_iff.1 ho.2.1
    omega
  have hh := h.hc hl
  rw [obsB_i] at ho ⊢
  simp only [Bool.and_eq_true, allB_iff] at ho ⊢
  obtain ⟨h1, h2, h3⟩ := ho
  rw [hh, h.len]
  refine ⟨fun i hi => ?_, h2, h3⟩
  obtain ⟨p, q, hp, hq, hc, d1, d2, d3⟩ := h.both hi
  have h4 := h1 i hi
  have h5 := h6 p (List.mem_of_getElem? hp)
  rw [iOk_at hp] at h4
  rw [iOk_at hq, hh, hc]
  simp only [Bool.and_eq_true] at h4 ⊢
  exact ⟨inB_iff.2 (by omega), h4.2⟩
theorem Near.from {x : Ch} {co : ByteArray} {start tol tol2 : Int} {m : Nat} {O : List Ph} (h : Near (seeL (phasesL x co) start m) O tol) (hv : validB x = true) (hco : colB co = true) (hc : hasC x.cs co = true) (hs : startB (phasesL x co) start = true) (hn : x.k = 1 → m = 1) (h1 : 1 ≤ m) (ht : tol ≤ tol2) : fromB x O start tol2 = true := by
  have hE := colB_E2 hco
  have hl := h.len
  rw [seeL_len] at hl
  refine from_near hE ?_ hc hs (fun hk => by rw [hl]; exact hn hk) fun _ i hi => ?_
  · rw [h.hc (by rw [seeL_len]; omega)]; exact see_hc hv hE hs hn h1
  · rw [hl] at hi ⊢
    have := h.diff (i := i) (by rw [seeL_len]; exact hi)
    omega
theorem errS_near {o see : List Ph} {tol : Int} (ht : 0 ≤ tol) : ∀ m : Nat, (∀ i, i < m → -tol ≤ lenO o i - lenO see i ∧ lenO o i - lenO see i ≤ tol) → errS o see m ≤ tol * m
  | 0, _ => by simp [errS]
  | m + 1, h => by
    have ih := errS_near ht m (fun i hi => h i (by omega))
    have h1 := h m (by omega)
    have h2 : errAt o see m ≤ tol := by unfold errAt; split <;> omega
    rw [errS_next, Int.natCast_add, Int.mul_add]
    have : tol * ((1 : Nat) : Int) = tol := by simp
    omega
theorem Near.err {x : Ch} {co : ByteArray} {start tol : Int} {m : Nat} {O : List Ph} (h : Near (seeL (phasesL x co) start m) O tol) (hv : validB x = true) (hco : colB co = true) (hs : startB (phasesL x co) start = true) (hn : x.k = 1 → m = 1) (h1 : 1 ≤ m) (ht : 0 ≤ tol) : errI x O start ≤ tol * m := by
  have hE := colB_E2 hco
  have hl := h.len
  rw [seeL_len] at hl
  rw [errI, hl, h.hc (by rw [seeL_len]; omega), see_hc hv hE hs hn h1]
  cases (x.k == 1)
  · exact errS_near ht m fun i hi => h.diff (by rw [seeL_len]; exact hi)
  · exact Int.mul_nonneg ht (by omega)
theorem near_self (o : List Ph) (h : ∀ p ∈ o, 1 ≤ p.len) : Near o o 0 := ⟨rfl, fun i p q hp hq => by
  rw [hp] at hq; injection hq with hq; subst hq
  exact ⟨rfl, by omega, by omega, h p (List.mem_of_getElem? hp)⟩⟩
theorem fold_least_le (x : Ch) (o : List Ph) : ∀ (L : List Nat) (l : Int), 0 ≤ l → 0 ≤ L.foldl (lstep x o) l ∧ L.foldl (lstep x o) l ≤ l
  | [], l, h => ⟨h, Int.le_refl _⟩
  | a :: L, l, h => by
    have he := errI_nn x o (a : Int)
    have h2 : 0 ≤ lstep x o l a ∧ lstep x o l a ≤ l := by unfold lstep; split <;> omega
    have ih := fold_least_le x o L _ h2.1
    rw [List.foldl_cons]; omega
theorem fold_least_at (x : Ch) (o : List Ph) : ∀ (L : List Nat) (l : Int) (i : Nat), i ∈ L → 0 ≤ L.foldl (lstep x o) l ∧ L.foldl (lstep x o) l ≤ errI x o (i : Int)
  | a :: L, l, i, h => by
    have he := errI_nn x o (a : Int)
    rw [List.foldl_cons]
    rcases List.mem_cons.1 h with rfl | h2
    · have h3 : 0 ≤ lstep x o l i ∧ lstep x o l i ≤ errI x o (i : Int) := by unfold lstep; split <;> omega
      have := fold_least_le x o L _ h3.1
      omega
    · exact fold_least_at x o L _ i h2
theorem like_inv (zs : List ChG) (o : List Ph) (tol : Int) : ∀ m, (likeN zs o tol m).1 < 0 ∨ 0 ≤ (likeN zs o tol m).2
  | 0 => by simp [likeN]
  | m + 1 => by
    have ih := like_inv zs o tol m
    rw [likeN_next]
    unfold likeAt
    split
    · exact ih
    · rw [likeIn_eq]; split
      · right; dsimp only; omega
      · exact ih
/-- A light without error is found, or one before it. -/
theorem like_le {zs : List ChG} {k : Nat} {z : ChG} {o : List Ph} {tol : Int} {i : Nat} (hx : zs[k]? = some z) (hm : i ∈ startsL z.x o tol) (he : errI z.x o (i : Int) = 0) : ∀ m, k < m → 0 ≤ (likeN zs o tol m).1 ∧ (likeN zs o tol m).1 ≤ k ∧ (likeN zs o tol m).2 = 0
  | 0, h => absurd h (by omega)
  | m + 1, h => by
    rw [likeN_next]
    by_cases hk : k < m
    · have ih := like_le hx hm he m hk
      unfold likeAt
      split
      · exact ih
      · rw [likeIn_eq, if_neg (by omega)]; exact ih
    · obtain rfl : k = m := by omega
      have hl := fold_least_at z.x o _ (-1) i hm
      have h0 : leastF z.x o (startsL z.x o tol) = 0 := by unfold leastF; omega
      have hlo := like_lo zs o tol k
      have hin := like_inv zs o tol k
      rw [likeAt_eq hx, likeIn_eq, h0]
      split
      · dsimp only; omega
      · omega
theorem flat_setP (O : List Ph) : ∀ (i : Nat) (p q : Ph), O[i]? = some p → q.c = p.c → (O.set i q).flatMap Ph.cells = (O.flatMap Ph.cells).set (i * 2 + 1) (.int .i64 q.len) := by
  induction O with
  | nil => intro i p q h; simp at h
  | cons a O ih =>
    intro i p q h hc
    cases i with
    | zero =>
      simp at h; subst h
      simp [Ph.cells, hc]
    | succ i =>
      have := ih i p q (by simpa using h) hc
      simp only [List.set_cons_succ, List.flatMap_cons, this]
      rw [show (i + 1) * 2 + 1 = (i * 2 + 1) + 2 by omega]
      simp [Ph.cells]
/-- The first t lengths of O are off from those of o, the others not yet. -/
structure PNear (o O : List Ph) (tol : Int) (t : Nat) : Prop where
  len : O.length = o.length
  at_ : ∀ (i : Nat) (p q : Ph), o[i]? = some p → O[i]? = some q → q.c = p.c ∧ (i < t → -tol ≤ q.len - p.len ∧ q.len - p.len ≤ tol ∧ 1 ≤ q.len) ∧ (t ≤ i → q.len = p.len)
theorem pnear_zero (o : List Ph) (tol : Int) : PNear o o tol 0 := ⟨rfl, fun i p q hp hq => by
  rw [hp] at hq; injection hq with hq; subst hq
  exact ⟨rfl, fun h => absurd h (by omega), fun _ => rfl⟩⟩
theorem PNear.next {o O : List Ph} {tol : Int} {t : Nat} (h : PNear o O tol t) {p : Ph} (hp : o[t]? = some p) {L : Int} (h1 : -tol ≤ L - p.len) (h2 : L - p.len ≤ tol) (h3 : 1 ≤ L) : PNear o (O.set t ⟨p.c, L⟩) tol (t + 1) :=
  ⟨by rw [List.length_set]; exact h.len, fun i p' q hp' hq => by
    by_cases hi : i = t
    · subst hi
      rw [hp] at hp'; injection hp' with hp'; subst hp'
      rw [List.getElem?_set_self (by rw [h.len]; exact (List.getElem?_eq_some_iff.1 hp).1)] at hq
      injection hq with hq; subst hq
      exact ⟨rfl, fun _ => ⟨h1, h2, h3⟩, fun h => absurd h (by omega)⟩
    · rw [List.getElem?_set_ne (by omega)] at hq
      obtain ⟨a, b, c⟩ := h.at_ i p' q hp' hq
      exact ⟨a, fun h => b (by omega), fun h => c (by omega)⟩⟩
theorem PNear.all {o O : List Ph} {tol : Int} {t : Nat} (h : PNear o O tol t) (ht : o.length ≤ t) : Near o O tol :=
  ⟨h.len, fun i p q hp hq => by
    obtain ⟨a, b, _⟩ := h.at_ i p q hp hq
    have := (List.getElem?_eq_some_iff.1 hp).1
    exact ⟨a, b (by omega)⟩⟩
end Go.Proofs.Ytgfplmfdgbklkaa
