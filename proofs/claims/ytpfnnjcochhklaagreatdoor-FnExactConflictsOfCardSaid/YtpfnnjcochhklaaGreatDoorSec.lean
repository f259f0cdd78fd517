
/- Sectors of lights, in plain Lean. -/
import Derived.Test.YtpfnnjcochhklaaGreatDoorCol
namespace Go.Proofs.YtpfnnjcochhklaaGreatDoor
open Go.RowKit
structure Sec where
  f : Int
  t : Int
  c : ByteArray
abbrev Sec.cells (s : Sec) : List Value := [.int .i64 s.f, .int .i64 s.t, .string s.c]
theorem Sec.cells_len (s : Sec) : s.cells.length = 3 := rfl
theorem sec_one (s : Sec) : ∀ u ∈ s.cells, u.oneCell' = true := by simp [Sec.cells, Value.oneCell']
def zeroSec : Sec := ⟨0, 0, ByteArray.empty⟩
def arcI (f t : Int) : Int := (t - f - 1) % 360 + 1
def distI (f g : Int) : Int := (g - f) % 360
theorem arc_bd (f t : Int) : 1 ≤ arcI f t ∧ arcI f t ≤ 360 := by unfold arcI; omega
def secOk (s : Sec) : Bool := inB s.f 0 359 && inB s.t 0 359 && colB s.c
theorem secOk_bd {s : Sec} (h : secOk s = true) : (0 ≤ s.f ∧ s.f ≤ 359) ∧ (0 ≤ s.t ∧ s.t ≤ 359) ∧ colB s.c = true := by
  simp only [secOk, Bool.and_eq_true] at h
  exact ⟨inB_iff.1 h.1.1, inB_iff.1 h.1.2, h.2⟩
def sAt (l : List Sec) (i : Nat) : Sec := l.getD i zeroSec
theorem sAt_eq {l : List Sec} {i : Nat} {s : Sec} (h : l[i]? = some s) : sAt l i = s := by simp [sAt, h]
/-- Each sector ends where the next one begins, or ahead of it. -/
def secsP (l : List Sec) : Prop := (∀ i, i < l.length → secOk (sAt l i) = true) ∧ (∀ i, i < l.length → 0 < i → (sAt l (i - 1)).f < (sAt l i).f) ∧
  ∀ i, i < l.length → ∀ k, k < l.length → i ≠ k → arcI (sAt l i).f (sAt l i).t ≤ distI (sAt l i).f (sAt l k).f
instance (l : List Sec) : Decidable (secsP l) := by unfold secsP; infer_instance
def secsB (l : List Sec) : Bool := decide (l.length ≤ 12 ∧ secsP l)
theorem secs_rise {l : List Sec} (h : ∀ i, i < l.length → 0 < i → (sAt l (i - 1)).f < (sAt l i).f) : ∀ d i, i + d + 1 < l.length → (sAt l i).f < (sAt l (i + d + 1)).f
  | 0, i, hi => h (i + 0 + 1) hi (by omega)
  | d + 1, i, hi => by
    have h1 := secs_rise h d i (by omega)
    have h2 := h (i + (d + 1) + 1) hi (by omega)
    rw [show i + (d + 1) + 1 - 1 = i + d + 1 by omega] at h2
    omega
theorem secs_rise' {l : List Sec} (h : ∀ i, i < l.length → 0 < i → (sAt l (i - 1)).f < (sAt l i).f) {i k : Nat} (hik : i < k) (hk : k < l.length) : (sAt l i).f < (sAt l k).f := by
  have := secs_rise h (k - i - 1) i (by omega)
  rwa [show i + (k - i - 1) + 1 = k by omega] at this
theorem dist_up {a b : Int} (h : a < b) (h0 : 0 ≤ a) (h1 : b ≤ 359) : distI a b = b - a := by unfold distI; omega
theorem dist_down {a b : Int} (h : b < a) (h0 : 0 ≤ b) (h1 : a ≤ 359) : distI a b = b - a + 360 := by unfold distI; omega
/-- The reference asks the next one alone. -/
theorem secs_next {l : List Sec} (h1 : ∀ i, i < l.length → secOk (sAt l i) = true) (h2 : ∀ i, i < l.length → 0 < i → (sAt l (i - 1)).f < (sAt l i).f)
    (h3 : 1 < l.length → ∀ i, i < l.length → arcI (sAt l i).f (sAt l i).t ≤ distI (sAt l i).f (sAt l ((i + 1) % l.length)).f) : secsP l := by
  refine ⟨h1, h2, fun i hi k hk hik => ?_⟩
  have h3 := h3 (by omega) i hi
  obtain ⟨bi, _, _⟩ := secOk_bd (h1 i hi)
  obtain ⟨bk, _, _⟩ := secOk_bd (h1 k hk)
  obtain ⟨b0, _, _⟩ := secOk_bd (h1 0 (by omega))
  have r0 : ∀ j, 0 < j → j < l.length → (sAt l 0).f < (sAt l j).f := fun j h0 hj => secs_rise' h2 h0 hj
  by_cases he : i + 1 = l.length
  · rw [he, Nat.mod_self] at h3
    have r1 := r0 i (by omega) hi
    rw [dist_down r1 b0.1 bi.2] at h3
    have hki : k < i := by omega
    have r2 := secs_rise' h2 hki hi
    rw [dist_down r2 bk.1 bi.2]
    by_cases hk0 : k = 0
    · subst hk0; omega
    · have := r0 k (by omega) hk; omega
  · rw [Nat.mod_eq_of_lt (by omega)] at h3
    obtain ⟨bn, _, _⟩ := secOk_bd (h1 (i + 1) (by omega))
    rw [dist_up (secs_rise' h2 (by omega) (by omega)) bi.1 bn.2] at h3
    rcases Nat.lt_or_ge i k with hlt | hge
    · rw [dist_up (secs_rise' h2 hlt hk) bi.1 bk.2]
      by_cases hk1 : k = i + 1
      · subst hk1; omega
      · have := secs_rise' h2 (show i + 1 < k by omega) hk; omega
    · have hki : k < i := by omega
      rw [dist_down (secs_rise' h2 hki hi) bk.1 bi.2]
      omega
theorem secs_to_next {l : List Sec} (h : secsP l) (hn : 1 < l.length) (i : Nat) (hi : i < l.length) : arcI (sAt l i).f (sAt l i).t ≤ distI (sAt l i).f (sAt l ((i + 1) % l.length)).f := by
  refine h.2.2 i hi _ (Nat.mod_lt _ (by omega)) ?_
  by_cases he : i + 1 = l.length
  · rw [he, Nat.mod_self]; omega
  · rw [Nat.mod_eq_of_lt (by omega)]; omega
/-- The sum of the first arcs. -/
def arcSum (l : List Sec) : Nat → Int
  | 0 => 0
  | m + 1 => arcSum l m + arcI (sAt l m).f (sAt l m).t
theorem arcSum_bd (l : List Sec) : ∀ m : Nat, (m : Int) ≤ arcSum l m ∧ arcSum l m ≤ 360 * m
  | 0 => by simp [arcSum]
  | m + 1 => by
    have := arcSum_bd l m
    have := arc_bd (sAt l m).f (sAt l m).t
    simp only [arcSum]; omega
theorem arcSum_part {l : List Sec} (h : secsP l) : ∀ m, m < l.length → arcSum l m ≤ (sAt l m).f - (sAt l 0).f
  | 0, _ => by simp [arcSum]
  | m + 1, hm => by
    have ih := arcSum_part h m (by omega)
    have h3 := h.2.2 m (by omega) (m + 1) hm (by omega)
    obtain ⟨bi, _, _⟩ := secOk_bd (h.1 m (by omega))
    obtain ⟨bn, _, _⟩ := secOk_bd (h.1 (m + 1) hm)
    rw [dist_up (secs_rise' h.2.1 (by omega) hm) bi.1 bn.2] at h3
    simp only [arcSum]; omega
theorem arcSum_all {l : List Sec} (h : secsP l) : arcSum l l.length ≤ 360 := by
  rcases Nat.eq_zero_or_pos l.length with h0 | h0
  · rw [h0]; simp [arcSum]
  · obtain ⟨m, hm⟩ : ∃ m, l.length = m + 1 := ⟨l.length - 1, by omega⟩
    rw [hm]
    have h1 := arcSum_part h m (by omega)
    have h4 := arc_bd (sAt l m).f (sAt l m).t
    simp only [arcSum]
    by_cases hm0 : m = 0
    · subst hm0; simp [arcSum]; omega
    · have h3 := h.2.2 m (by omega) 0 (by omega) hm0
      obtain ⟨bi, _, _⟩ := secOk_bd (h.1 m (by omega))
      obtain ⟨b0, _, _⟩ := secOk_bd (h.1 0 (by omega))
      rw [dist_down (secs_rise' h.2.1 (show 0 < m by omega) (by omega)) b0.1 bi.2] at h3
      omega
theorem secsB_no {l : List Sec} (h : ¬ secsP l) : secsB l = false := by simp [secsB, h]
theorem secsB_yes {l : List Sec} (h : secsP l) : secsB l = decide (l.length ≤ 12) := by simp [secsB, h]
end Go.Proofs.YtpfnnjcochhklaaGreatDoor
