
/- Observations, both sides. -/
import Derived.Test.YtgibbhipjpbdfaaGreatCol
import Derived.Test.YtgibbhipjpbdfaaGreatChLit
namespace Go.Proofs.YtgibbhipjpbdfaaGreat
open Go.RowKit
/-- The color of the first phase. -/
def hcO (o : List Ph) : ByteArray := (o.getD 0 ⟨⟨#[]⟩, 0⟩).c
theorem hcO_at {o : List Ph} {p : Ph} (h : o[0]? = some p) : hcO o = p.c := by rw [hcO, List.getD_eq_getElem?_getD, h]; rfl
def sOk (o : List Ph) (i : Nat) : Bool := match o[i]? with
  | none => true
  | some p => (p.c.toList.isEmpty || colB p.c) && (inB p.len 1 1200 && ((p.c.toList.isEmpty == decide (i % 2 = 1)) && !(decide (1 < i) && (decide (i % 2 = 0) && !decide (p.c = hcO o)))))
def iOk (o : List Ph) (i : Nat) : Bool := match o[i]? with
  | none => true
  | some p => inB p.len 1 1200 && (bif decide (i % 2 = 1) then p.c.toList.isEmpty else decide (p.c = hcO o))
theorem sOk_at {o : List Ph} {i : Nat} {p : Ph} (h : o[i]? = some p) : sOk o i = ((p.c.toList.isEmpty || colB p.c) && (inB p.len 1 1200 && ((p.c.toList.isEmpty == decide (i % 2 = 1)) && !(decide (1 < i) && (decide (i % 2 = 0) && !decide (p.c = hcO o)))))) := by simp only [sOk, h]
theorem iOk_at {o : List Ph} {i : Nat} {p : Ph} (h : o[i]? = some p) : iOk o i = (inB p.len 1 1200 && (bif decide (i % 2 = 1) then p.c.toList.isEmpty else decide (p.c = hcO o))) := by simp only [iOk, h]
def obsB (o : List Ph) : Bool := allB o.length (sOk o) && inB o.length 1 24
theorem colB_E2 {t : ByteArray} (h : colB t = true) : t.toList.isEmpty = false := isE_no (by rw [colB_size h]; decide)
theorem obsB_i (o : List Ph) : obsB o = (allB o.length (iOk o) && (inB o.length 1 24 && colB (hcO o))) := by
  rw [Bool.eq_iff_iff]
  simp only [obsB, Bool.and_eq_true, allB_iff]
  constructor
  · rintro ⟨hs, hl⟩
    have h0 : 0 < o.length := by have := inB_iff.1 hl; omega
    have hp0 : o[0]? = some o[0] := List.getElem?_eq_getElem h0
    have hc0 := hcO_at hp0
    have s0 := hs 0 h0
    rw [sOk_at hp0] at s0
    have hcol : colB (hcO o) = true := by
      rw [hc0]
      simp only [Bool.and_eq_true] at s0
      obtain ⟨a, _, b, _⟩ := s0
      have hE : o[0].c.toList.isEmpty = false := by simpa using b
      rw [hE] at a; simpa using a
    refine ⟨fun i hi => ?_, hl, hcol⟩
    have hpi : o[i]? = some o[i] := List.getElem?_eq_getElem hi
    have si := hs i hi
    rw [sOk_at hpi] at si
    rw [iOk_at hpi]
    simp only [Bool.and_eq_true] at si
    obtain ⟨_, b, c, d⟩ := si
    rw [b, Bool.true_and]
    by_cases hodd : i % 2 = 1
    · rw [decide_eq_true hodd] at c ⊢
      simpa using c
    · rw [decide_eq_false hodd]
      have he : i % 2 = 0 := by omega
      by_cases h1 : 1 < i
      · rw [decide_eq_true h1, decide_eq_true he] at d
        simpa using d
      · obtain rfl : i = 0 := by omega
        rw [hc0]; simp
  · rintro ⟨hs, hl, hcol⟩
    refine ⟨fun i hi => ?_, hl⟩
    have hpi : o[i]? = some o[i] := List.getElem?_eq_getElem hi
    have si := hs i hi
    rw [iOk_at hpi] at si
    rw [sOk_at hpi]
    simp only [Bool.and_eq_true] at si
    obtain ⟨a, b⟩ := si
    rw [a]
    by_cases hodd : i % 2 = 1
    · rw [decide_eq_true hodd] at b ⊢
      have he : ¬ i % 2 = 0 := by omega
      rw [decide_eq_false he]
      simp only [cond_true] at b
      rw [b]; simp
    · rw [decide_eq_false hodd] at b ⊢
      simp only [cond_false, decide_eq_true_eq] at b
      rw [b, hcol, colB_E2 hcol]
      simp
theorem tm1 (k : Nat) : ((k : Int).tmod 2 == 1) = decide (k % 2 = 1) := by rw [Int.tmod_eq_emod_of_nonneg (by omega), Bool.eq_iff_iff]; simp; omega
theorem tm0 (k : Nat) : ((k : Int).tmod 2 == 0) = !decide (k % 2 = 1) := by rw [Int.tmod_eq_emod_of_nonneg (by omega), Bool.eq_iff_iff]; simp; omega
theorem em1 (k : Nat) : ((k : Int) % 2 == 1) = decide (k % 2 = 1) := by rw [Bool.eq_iff_iff]; simp; omega
theorem em0 (k : Nat) : ((k : Int) % 2 == 0) = !decide (k % 2 = 1) := by rw [Bool.eq_iff_iff]; simp; omega
theorem bneq (s t : ByteArray) : (s.toList != t.toList) = !decide (s = t) := by rw [bne, ba_beq]
end Go.Proofs.YtgibbhipjpbdfaaGreat
