
/- AidNumbered, DropAid, ReplaceAid: the place of a number in a list of aids. Plain facts, no program. -/
import Derived.Test.YtpfnnjcochhklaaGreatDoorAidsG
namespace Go.Proofs.YtpfnnjcochhklaaGreatDoor
open Go.RowKit
def fdN (l : List AidX) (n : Int) : Option Nat := l.findIdx? fun a => a.num == n
theorem fdN_some {l : List AidX} {n : Int} {k : Nat} {a : AidX} (h : l[k]? = some a) (ha : a.num = n) (hb : ∀ (j : Nat) (b : AidX), j < k → l[j]? = some b → b.num ≠ n) : fdN l n = some k := by
  rw [fdN, List.findIdx?_eq_some_iff_getElem]
  obtain ⟨hk, e⟩ := List.getElem?_eq_some_iff.1 h
  refine ⟨hk, by rw [e]; simpa using ha, fun j hj => ?_⟩
  have := hb j (l[j]'(by omega)) hj (List.getElem?_eq_getElem _)
  simpa using this
theorem fdN_none {l : List AidX} {n : Int} (hb : ∀ (j : Nat) (b : AidX), l[j]? = some b → b.num ≠ n) : fdN l n = none := by
  rw [fdN, List.findIdx?_eq_none_iff]
  intro a ha
  obtain ⟨j, hj⟩ := List.getElem?_of_mem ha
  have := hb j a hj
  simpa using this
theorem fdN_at {l : List AidX} {n : Int} {k : Nat} (h : fdN l n = some k) : ∃ a, l[k]? = some a ∧ a.num = n ∧ k < l.length := by
  rw [fdN, List.findIdx?_eq_some_iff_getElem] at h
  obtain ⟨hk, h1, _⟩ := h
  exact ⟨l[k], List.getElem?_eq_getElem hk, by simpa using h1, hk⟩
/-- The numbers of a valid list rise. -/
theorem aids_rise {l : List AidX} (h : aidsB l = true) : ∀ (j i : Nat) (a b : AidX), i < j → l[i]? = some a → l[j]? = some b → a.num < b.num := by
  simp only [aidsB, decide_eq_true_eq] at h
  have hs := h.2.2
  intro j
  induction j with
  | zero => intro i a b hi; omega
  | succ j ih =>
    intro i a b hi ha hb
    have hj := (List.getElem?_eq_some_iff.1 hb).1
    have h1 := hs (j + 1) hj (by omega)
    have hm := List.getElem?_eq_getElem (show j < l.length by omega)
    rw [aAt, aAt, List.getD_eq_getElem?_getD, List.getD_eq_getElem?_getD, hb, show j + 1 - 1 = j by omega, hm] at h1
    simp only [Option.getD_some] at h1
    rcases Nat.lt_or_ge i j with h2 | h2
    · have := ih i a _ h2 ha hm
      omega
    · obtain rfl : i = j := by omega
      rw [hm] at ha
      injection ha with ha
      rw [← ha]; exact h1
theorem fdN_stop {l : List AidX} (h : aidsB l = true) {n : Int} {i : Nat} (hlow : ∀ (j : Nat) (b : AidX), j < i → l[j]? = some b → b.num < n) (hi : ∀ b : AidX, l[i]? = some b → n ≤ b.num) :
    fdN l n = if (∃ b : AidX, l[i]? = some b ∧ b.num = n) then some i else none := by
  split
  · rename_i he
    obtain ⟨b, hb, hn⟩ := he
    exact fdN_some hb hn fun j c hj hc => by have := hlow j c hj hc; omega
  · rename_i he
    refine fdN_none fun j b hb hn => he ?_
    rcases Nat.lt_trichotomy j i with h1 | h1 | h1
    · have := hlow j b h1 hb; omega
    · subst h1; exact ⟨b, hb, hn⟩
    · have hi2 := List.getElem?_eq_getElem (show i < l.length by have := (List.getElem?_eq_some_iff.1 hb).1; omega)
      have h2 := hi _ hi2
      have h3 := aids_rise h j i _ b h1 hi2 hb
      omega
end Go.Proofs.YtpfnnjcochhklaaGreatDoor
