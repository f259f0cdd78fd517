/- ChC: several of my texts in one. -/
import Derived.Test.YtpfnnjcochhklaaGreatDoorBsG

/- Characters of lights, in plain Lean. -/
namespace Go.Proofs.YtpfnnjcochhklaaGreatDoor
open Go.RowKit
def rankI (c : Int) : Int := if c = 87 then 1 else if c = 82 then 2 else if c = 71 then 3 else if c = 89 then 4 else 0
theorem rankI_bd (c : Int) : 0 ≤ rankI c ∧ rankI c ≤ 4 := by unfold rankI; (repeat' split) <;> omega
def colOk (s : ByteArray) (i : Nat) : Bool := decide (0 < rankI (bt s i)) && (decide (i = 0) || decide (rankI (bt s (i - 1)) < rankI (bt s i)))
def colorsB (s : ByteArray) : Bool := allB s.size (colOk s) && (decide (1 ≤ s.size) && decide (s.size ≤ 3))
def goodG (gs : List Int) (i : Nat) : Bool := match gs[i]? with | none => true | some x => inB x 1 9
theorem goodG_at {gs : List Int} {i : Nat} {x : Int} (h : gs[i]? = some x) : goodG gs i = inB x 1 9 := by simp [goodG, h]
def groupB (gs : List Int) : Bool := allB gs.length (goodG gs) && (decide (gs.length ≤ 4) && (decide (gs.sum ≤ 12) && !decide (gs = [1])))
def letterB (l : ByteArray) : Bool := decide (l.size = 1) && (decide (65 ≤ bt l 0) && decide (bt l 0 ≤ 90))
def isL (l : ByteArray) : Bool := l.toList == [76]
def isE (l : ByteArray) : Bool := l.toList.isEmpty
structure Ch where
  k : Int
  gs : List Int
  l : ByteArray
  cs : ByteArray
  p : Int
def fitsB (c : Ch) : Bool :=
  if c.k = 1 ∨ c.k = 3 then decide (c.gs = []) && isE c.l
  else if c.k = 2 ∨ c.k = 4 ∨ c.k = 5 then isE c.l && groupB c.gs
  else if c.k = 6 ∨ c.k = 7 then (if isL c.l = true then decide (c.gs = [6]) else isE c.l && (decide (c.gs.length ≤ 1) && groupB c.gs))
  else if c.k = 8 then decide (c.gs = []) && letterB c.l
  else false
def shapeB (c : Ch) : Bool := colorsB c.cs && fitsB c
def flashI (k : Int) : Int := if k = 2 then 10 else if k = 5 then 20 else if k = 7 then 2 else 5
def gapI (k : Int) : Int := if k = 2 then 10 else if k = 4 then 15 else if k = 5 then 20 else if k = 7 then 3 else 5
def steadyB (c : Ch) : Bool := decide (c.k = 1) || ((decide (c.k = 6) || decide (c.k = 7)) && decide (c.gs = []))
theorem sum_next {gs : List Int} {i : Nat} {x : Int} (h : gs[i]? = some x) : (gs.take (i + 1)).sum = (gs.take i).sum + x := by
  rw [List.take_add_one, h]; simp
theorem sum_bd : ∀ {gs : List Int}, (∀ i, i < gs.length → goodG gs i = true) → gs.length ≤ gs.sum ∧ gs.sum ≤ 9 * gs.length
  | [], _ => by simp
  | x :: gs, h => by
    have h0 := h 0 (by simp)
    have ht := sum_bd (gs := gs) fun i hi => by have := h (i + 1) (by simp; omega); simpa [goodG] using this
    have := inB_iff.1 (by simpa [goodG] using h0)
    simp only [List.length_cons, List.sum_cons]
    omega
theorem good_take {gs : List Int} {k : Nat} (h : ∀ i, i < k → goodG gs i = true) : ∀ i, i < (gs.take k).length → goodG (gs.take k) i = true := fun i hi => by
  rw [List.length_take] at hi
  have := h i (by omega)
  simp only [goodG] at *
  rw [List.getElem?_take, if_pos (by omega)]
  exact this
def stepT (k : Int) (i j : Nat) : List Int := (if 0 < j then [gapI k] else if 0 < i then [gapI k + 20] else []) ++ [flashI k]
def innerT (k : Int) (i m : Nat) : List Int := (List.range m).flatMap (stepT k i)
def outerT (k : Int) (g : List Int) (r : Nat) : List Int := (List.range r).flatMap fun i => innerT k i (g.getD i 0).toNat
theorem innerT_next (k : Int) (i m : Nat) : innerT k i (m + 1) = innerT k i m ++ stepT k i m := by simp [innerT, List.range_succ]
theorem outerT_next (k : Int) {g : List Int} {r : Nat} {x : Int} (h : g[r]? = some x) : outerT k g (r + 1) = outerT k g r ++ innerT k r x.toNat := by
  simp [outerT, List.range_succ, h]
theorem stepT_len (k : Int) (i j : Nat) : (stepT k i j).length ≤ 2 := by unfold stepT; (repeat' split) <;> simp
theorem innerT_len (k : Int) (i m : Nat) : (innerT k i m).length ≤ 2 * m := by
  induction m with
  | zero => simp [innerT]
  | succ m ih => rw [innerT_next, List.length_append]; have := stepT_len k i m; omega
theorem outerT_len (k : Int) {g : List Int} (hg : ∀ x ∈ g, 1 ≤ x ∧ x ≤ 9) (r : Nat) (hr : r ≤ g.length) : (outerT k g r).length ≤ 18 * r := by
  induction r with
  | zero => simp [outerT]
  | succ r ih =>
    have hx : g[r]? = some (g[r]'(by omega)) := List.getElem?_eq_getElem (by omega)
    have h9 := hg _ (List.mem_of_getElem? hx)
    rw [outerT_next k hx, List.length_append]
    have h1 := ih (by omega)
    have h2 := innerT_len k r (g[r]'(by omega)).toNat
    omega
end Go.Proofs.YtpfnnjcochhklaaGreatDoor

/- Colors: one color, and whether colors have one. -/
namespace Go.Proofs.YtpfnnjcochhklaaGreatDoor
open Go.RowKit
/-- One byte of s is the only byte of t. -/
def hasC (s t : ByteArray) : Bool := match t.toList with | [c] => decide (c ∈ s.toList) | _ => false
def colB (t : ByteArray) : Bool := t.toList == [87] || (t.toList == [82] || (t.toList == [71] || t.toList == [89]))
theorem toL (s : ByteArray) : s.toList = s.data.toList := ByteArray.toList_eq s
theorem toL_len (s : ByteArray) : s.toList.length = s.size := by rw [toL]; rfl
theorem colB_size {t : ByteArray} (h : colB t = true) : t.size = 1 := by
  rw [← toL_len]
  simp only [colB, Bool.or_eq_true, beq_iff_eq] at h
  rcases h with h | h | h | h <;> rw [h] <;> rfl
theorem idx_mem (l : List UInt8) (c : UInt8) : decide (0 ≤ Lib.indexByte l c) = decide (c ∈ l) := by
  rw [Bool.eq_iff_iff, decide_eq_true_eq, decide_eq_true_eq]
  induction l with
  | nil => simp [Lib.indexByte]
  | cons b l ih =>
    have hge := Lib.indexByte_ge l c
    unfold Lib.indexByte
    by_cases h : b = c
    · subst h; simp
    · rw [if_neg (by simpa using h)]
      by_cases h1 : Lib.indexByte l c = -1
      · rw [if_pos (by simpa using h1)]
        have : ¬ c ∈ l := fun e => by have := ih.2 e; omega
        simp [this, Ne.symm h]
      · rw [if_neg (by simpa using h1)]
        have : c ∈ l := ih.1 (by omega)
        simp [this]; omega
theorem one_of {t : ByteArray} (h : t.size = 1) : t.toList = [t[0]'(by omega)] := by
  have hl : t.data.toList.length = 1 := h
  rw [toL]
  match ht : t.data.toList, hl with
  | [c], _ =>
    have h0 : t.data.toList[0]'(by rw [hl]; decide) = c := by simp [ht]
    have : t[0]'(by omega) = c := by rw [← h0]; rfl
    rw [this]
set_option maxRecDepth 100000 in
set_option maxHeartbeats 1000000 in
theorem sliteIdx1_c (s t : ByteArray) (w : World) (h1 : t.size = 1) : Calls Tryz.prog 171 #[.string s, .string t] w fun e w' => ∃ r : Int, e = .returned (.int .i64 r) ∧ decide (0 ≤ r) = hasC s t ∧ w = w' := by
  have hb00 : 0 < t.size := by omega
  have ho : t.toList = [t[0]'hb00] := one_of h1
  have hz : ((t.size : Int) == 0) = false := by rw [h1]; rfl
  have hz1 : ((t.size : Int) == 1) = true := by rw [h1]; rfl
  have hb1 : (0 : Int) < (t.size : Int) := by omega
  cases hc : (t.toList == s.toList)
  · have hC : hasC s t = decide (t[0]'hb00 ∈ s.toList) := by rw [hasC, ho]
    have Ho := Lib.hid ho; clear ho
    have HC := Lib.hid hC; clear hC
    have H1 := Lib.hid h1; clear h1
    go_enter Tryz.func171, Tryz.ntmps171
    go_wp2_with (go_at_call 170; refine (sliteIndex_c _ _ _).mono ?_; rintro e w1 ⟨rfl, rfl⟩)
    go_ret
    refine ⟨_, rfl, ?_, rfl⟩
    rw [HC.out, idx_mem, toL]
    first | done | simp
  · have hC : hasC s t = true := by
      rw [hasC, ← (by simpa using hc : t.toList = s.toList), ho]; simp
    have Ho := Lib.hid ho; clear ho
    have HC := Lib.hid hC; clear hC
    have H1 := Lib.hid h1; clear h1
    go_enter Tryz.func171, Tryz.ntmps171
    go_wp2
    go_ret
    exact ⟨0, rfl, by rw [HC.out]; rfl, rfl⟩
set_option maxRecDepth 100000 in
set_option maxHeartbeats 400000 in
theorem contains1_c (s t : ByteArray) (w : World) (h1 : t.size = 1) : Calls Tryz.prog 152 #[.string s, .string t] w fun e w' => e = .returned (.bool (hasC s t)) ∧ w = w' := by
  have hI : ∀ w1, Calls Tryz.prog 168 #[.string s, .string t] w1 fun e w' => ∃ r : Int, e = .returned (.int .i64 r) ∧ decide (0 ≤ r) = hasC s t ∧ w1 = w' := by
    intro w1
    go_enter Tryz.func168, Tryz.ntmps168
    go_wp2_with (go_at_call 171; refine (sliteIdx1_c s t _ h1).mono ?_; rintro e w2 ⟨r, rfl, hr, rfl⟩)
    go_ret
    exact ⟨r, rfl, hr, rfl⟩
  have HI := Lib.hid hI; clear hI
  go_enter Tryz.func152, Tryz.ntmps152
  go_wp2_with (go_at_call 168; refine (HI.out _).mono ?_; rintro e w2 ⟨r, rfl, hr, rfl⟩)
  go_ret
  exact ⟨ret_eq (bool_eq (by first | exact hr | simp)), rfl⟩
set_option maxRecDepth 100000 in
set_option maxHeartbeats 400000 in
theorem isColor_c (t : ByteArray) (w : World) (_ : t.size ≤ maxLen) : Calls Tryz.prog 166 #[.string t] w fun e w' => e = .returned (.bool (colB t)) ∧ w = w' := by
  by_cases h1 : t.size = 1
  · have hz1 : ((t.size : Int) == 1) = true := by rw [h1]; rfl
    have hC : hasC ⟨#[87, 82, 71, 89]⟩ t = colB t := by
      have ho := one_of h1
      rw [hasC, colB, ho]
      have e : (⟨#[87, 82, 71, 89]⟩ : ByteArray).toList = [87, 82, 71, 89] := by rw [toL]
      rw [e, Bool.eq_iff_iff]
      simp
    have HC := Lib.hid hC; clear hC
    go_enter Tryz.func166, Tryz.ntmps166
    go_wp2_with (go_at_call 152; refine (contains1_c _ t _ h1).mono ?_; rintro e w1 ⟨rfl, rfl⟩)
    go_ret
    exact ⟨ret_eq (bool_eq HC.out), rfl⟩
  · have hz1 : ((t.size : Int) == 1) = false := by simp; omega
    have hC : colB t = false := by
      cases h : colB t
      · rfl
      · exact absurd (colB_size h) h1
    rw [hC]
    have HC := Lib.hid hC; clear hC
    go_enter Tryz.func166, Tryz.ntmps166
    go_wp2
    go_ret
    exact ⟨rfl, rfl⟩
end Go.Proofs.YtpfnnjcochhklaaGreatDoor
