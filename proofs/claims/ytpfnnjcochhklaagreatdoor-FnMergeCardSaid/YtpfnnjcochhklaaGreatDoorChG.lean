/- ChG: several of my texts in one. -/
import Derived.Test.YtpfnnjcochhklaaGreatDoorChIG

/- Phases of characters, in plain Lean. -/
namespace Go.Proofs.YtpfnnjcochhklaaGreatDoor
open Go.RowKit
structure Ph where
  c : ByteArray
  len : Int
abbrev Ph.cells (p : Ph) : List Value := [.string p.c, .int .i64 p.len]
theorem Ph.cells_len (p : Ph) : p.cells.length = 2 := rfl
theorem phC_one (d : Ph) : ∀ u ∈ d.cells, u.oneCell' = true := by simp [Ph.cells, Value.oneCell']
def litAt (oc : Bool) (i : Nat) : Bool := decide (i % 2 = 1) == oc
def altP (co : ByteArray) (oc : Bool) (i : Nat) (t : Int) : Ph := ⟨bif litAt oc i then co else ⟨#[]⟩, t⟩
def altL (co : ByteArray) (oc : Bool) (ts : List Int) : List Ph := ts.mapIdx (altP co oc)
theorem altL_snoc (co : ByteArray) (oc : Bool) (ts : List Int) (t : Int) : altL co oc (ts ++ [t]) = altL co oc ts ++ [altP co oc ts.length t] := by simp [altL]
theorem altL_next {co : ByteArray} {oc : Bool} {ts : List Int} {k : Nat} {t : Int} (h : ts[k]? = some t) : altL co oc (ts.take (k + 1)) = altL co oc (ts.take k) ++ [altP co oc k t] := by
  have hk := (List.getElem?_eq_some_iff.1 h).1
  rw [List.take_add_one, h, Option.toList_some, altL_snoc, List.length_take, Nat.min_eq_left (by omega)]
theorem altL_len (co : ByteArray) (oc : Bool) (ts : List Int) : (altL co oc ts).length = ts.length := by simp [altL]
def ocB (x : Ch) : Bool := x.k == 2
def phasesL (x : Ch) (co : ByteArray) : List Ph :=
  if x.k = 1 then [⟨co, 10⟩] else if x.k = 3 then [⟨co, x.p / 2⟩, ⟨⟨#[]⟩, x.p / 2⟩]
  else altL co (ocB x) (timesL x ++ [if steadyB x = true then gapI x.k else x.p - (timesL x).sum])
theorem valid_shape {x : Ch} (h : validB x = true) : shapeB x = true := by simp only [validB, Bool.and_eq_true] at h; exact h.1
theorem leastI_bd {x : Ch} (h : shapeB x = true) : 0 ≤ leastI x ∧ (steadyB x = false → x.k ≠ 3 → (timesL x).sum + 10 ≤ leastI x) := by
  have ht := shape_TOk h
  obtain ⟨b1, b2⟩ := times_bd ht
  have hs : 0 ≤ (timesL x).sum := by
    have : ∀ l : List Int, (∀ y ∈ l, 0 ≤ y ∧ y ≤ 40) → 0 ≤ l.sum := by
      intro l
      induction l with
      | nil => simp
      | cons a l ih => intro h; have := h a (by simp); have := ih (fun y hy => h y (by simp [hy])); simp; omega
    exact this _ b2
  have hr : 10 ≤ restI x := by
    have := gapI_bd x.k
    unfold restI gapI at *
    (repeat' split) <;> simp_all <;> omega
  unfold leastI
  refine ⟨?_, fun h1 h2 => ?_⟩
  · (repeat' split) <;> omega
  · rw [if_neg (by rw [h1]; simp), if_neg h2]; omega
theorem valid_p {x : Ch} (h : validB x = true) : 0 ≤ x.p ∧ x.p ≤ 600 := by
  have hl := (leastI_bd (valid_shape h)).1
  simp only [validB, Bool.and_eq_true] at h
  obtain ⟨h1, h2⟩ := h
  split at h2
  · simp at h2; omega
  · simp only [Bool.and_eq_true] at h2
    have := inB_iff.1 h2.1
    omega
theorem valid_sum {x : Ch} (h : validB x = true) (h1 : steadyB x = false) (h3 : x.k ≠ 3) : (timesL x).sum + 10 ≤ x.p := by
  have hl := (leastI_bd (valid_shape h)).2 h1 h3
  simp only [validB, Bool.and_eq_true] at h
  have h2 := h.2
  rw [if_neg (by rw [h1]; simp)] at h2
  simp only [Bool.and_eq_true] at h2
  have := inB_iff.1 h2.1
  omega
theorem valid_steady {x : Ch} (h : validB x = true) (h1 : steadyB x = true) : x.p = 0 := by
  simp only [validB, Bool.and_eq_true] at h
  have h2 := h.2
  rw [if_pos h1] at h2
  simpa using h2
def litI (ps : List Ph) : Int := (ps.map fun p => bif p.c.toList.isEmpty then 0 else p.len).sum
theorem litI_next {ps : List Ph} {k : Nat} {p : Ph} (h : ps[k]? = some p) : litI (ps.take (k + 1)) = litI (ps.take k) + bif p.c.toList.isEmpty then 0 else p.len := by
  simp only [litI]
  rw [List.take_add_one, h, Option.toList_some, List.map_append, List.sum_append]; simp
theorem own_lit (w : World) (base : Nat) (e : TypeId) (cs : Array Value) (n sz : Nat) (hb : base ≤ w.heap.size) (hm : n ≤ maxLen) (hs : cs.size = n * sz) :
    (w.alloc (.cells cs e)).ownsRow base e sz (.slice (some ⟨w.heap.size, 0, none⟩) n n) n cs.toList :=
  ⟨by simpa using hs, .inr ⟨w.heap.size, n, cs, rfl, hb, heap_alloc_new w _, Nat.le_refl _, hm, hs, by rw [List.take_of_length_le (by simp [hs])]⟩⟩
theorem own_litA (w : World) (base : Nat) (e : TypeId) (cs : Array Value) (n sz g : Nat) (hg : g = w.heap.size) (hb : base ≤ w.heap.size) (hm : n ≤ maxLen) (hs : cs.size = n * sz) :
    (w.alloc (.cells cs e)).ownsRow base e sz (.slice (some ⟨g, 0, none⟩) n n) n cs.toList := by subst hg; exact own_lit w base e cs n sz hb hm hs
theorem phases_len {x : Ch} {co : ByteArray} (h : shapeB x = true) : 1 ≤ (phasesL x co).length ∧ (phasesL x co).length ≤ 101 := by
  have := (times_bd (shape_TOk h)).1
  unfold phasesL
  (repeat' split) <;> (try rw [altL_len]) <;> simp <;> omega
theorem phases_bd {x : Ch} {co : ByteArray} (h : validB x = true) : ∀ p ∈ phasesL x co, 0 ≤ p.len ∧ p.len ≤ 600 := by
  have hp := valid_p h
  obtain ⟨b1, b2⟩ := times_bd (shape_TOk (valid_shape h))
  have hg := gapI_bd x.k
  unfold phasesL
  have hd : 0 ≤ x.p / 2 ∧ x.p / 2 ≤ 600 := by omega
  split
  · simp
  split
  · simp; omega
  · intro p hpm
    simp only [altL, List.mem_mapIdx] at hpm
    obtain ⟨i, hi, rfl⟩ := hpm
    simp only [altP]
    have hmem : (timesL x ++ [if steadyB x = true then gapI x.k else x.p - (timesL x).sum])[i] ∈ timesL x ++ [if steadyB x = true then gapI x.k else x.p - (timesL x).sum] := List.getElem_mem _
    generalize (timesL x ++ [if steadyB x = true then gapI x.k else x.p - (timesL x).sum])[i] = t at *
    rcases List.mem_append.1 hmem with h1 | h1
    · have := b2 t h1; omega
    · simp only [List.mem_singleton] at h1
      subst h1
      cases hst : steadyB x
      · have := valid_sum h hst (by assumption)
        have hs : ∀ l : List Int, (∀ y ∈ l, 0 ≤ y ∧ y ≤ 40) → 0 ≤ l.sum := by
          intro l
          induction l with
          | nil => simp
          | cons a l ih => intro h; have := h a (by simp); have := ih (fun y hy => h y (by simp [hy])); simp; omega
        have := hs _ b2
        simp; omega
      · simp; omega
theorem l05Times_c (b off : Nat) (A : Option Addr) (n c : Nat) (x : Ch) (w : World) (h : ChP w b off A n c x) (ht : TOk x) :
    Calls Tryz.prog 121 #[.pointer (some ⟨b, off, none⟩)] w fun e w' => ∃ v, e = .returned v ∧ w'.ownsRow w.heap.size 2 1 v (timesL x).length ((timesL x).flatMap intC) ∧ Below w.heap.size w w' := by
  by_cases h8 : x.k = 8
  · exact l05TimesM_c b off A n c x w h h8 ht
  · exact l05TimesG_c b off A n c x w h h8 ht
theorem valid_GK {x : Ch} (h : validB x = true) (h1 : x.k ≠ 1) (h3 : x.k ≠ 3) : x.k = 8 ∨ GK x.k := by
  have hsh := valid_shape h
  have hf : fitsB x = true := by simp [shapeB] at hsh; exact hsh.2
  unfold GK
  unfold fitsB at hf
  by_cases k8 : x.k = 8
  · exact .inl k8
  · right
    by_cases a2 : x.k = 2 ∨ x.k = 4 ∨ x.k = 5
    · omega
    · by_cases a6 : x.k = 6 ∨ x.k = 7
      · omega
      · rw [if_neg (by omega), if_neg a2, if_neg a6, if_neg k8] at hf
        exact absurd hf (by simp)
end Go.Proofs.YtpfnnjcochhklaaGreatDoor

/- Phases of characters: the reference's. -/
namespace Go.Proofs.YtpfnnjcochhklaaGreatDoor
open Go.RowKit
theorem l05Total_q (A : Option Addr) (n c : Nat) (gs : List Int) (w : World) (k : Nat) (h : Sl w w.heap.size 1 A n (gs.flatMap intC)) (hm : n ≤ 1048576) (hb : ∀ x ∈ gs, -1000000 ≤ x ∧ x ≤ 1000000) :
    Calls Tryz.prog 120 #[.slice A n c] (w.drewN k) fun e w' => e = .returned (.int .i64 gs.sum) ∧ w.drewN k = w' :=
  l05Total_c A n c gs (w.drewN k) (h.next (below_drewN (Below.refl _ _) k)) hm hb
end Go.Proofs.YtpfnnjcochhklaaGreatDoor

/- Phases of characters: the program's. -/
namespace Go.Proofs.YtpfnnjcochhklaaGreatDoor
open Go.RowKit
theorem steady_times {x : Ch} (h : validB x = true) (hs : steadyB x = true) (h1 : x.k ≠ 1) : (x.k = 6 ∨ x.k = 7) ∧ timesL x = [flashI x.k] ∧ flashR x.k = flashI x.k ∧ gapR x.k = gapI x.k := by
  have hsh := valid_shape h
  have hf : fitsB x = true := by simp [shapeB] at hsh; exact hsh.2
  have hk : (x.k = 6 ∨ x.k = 7) ∧ x.gs = [] := by simpa [steadyB, h1] using hs
  have hL : isL x.l = false := by
    unfold fitsB at hf
    rw [if_neg (by omega), if_neg (by omega), if_pos hk.1] at hf
    cases e : isL x.l
    · rfl
    · rw [if_pos e, hk.2] at hf; simp at hf
  refine ⟨hk.1, ?_, ?_, ?_⟩
  · rw [timesL, if_neg (by omega), hL, grp, if_pos hk.2]
    simp [outerT, innerT, stepT]
  · rcases hk.1 with e | e <;> rw [e] <;> rfl
  · rcases hk.1 with e | e <;> rw [e] <;> rfl
theorem phases_steady {x : Ch} (h : validB x = true) (hs : steadyB x = true) (h1 : x.k ≠ 1) (co : ByteArray) : phasesL x co = [⟨co, flashI x.k⟩, ⟨⟨#[]⟩, gapI x.k⟩] := by
  obtain ⟨hk, ht, _⟩ := steady_times h hs h1
  have hoc : ocB x = false := by simp [ocB]; omega
  rw [phasesL, if_neg h1, if_neg (by omega), if_pos hs, ht, hoc]
  rfl
theorem inner_odd (k : Int) (i : Nat) : ∀ m, 0 < m → (innerT k i m).length = 2 * m - (if i = 0 then 1 else 0)
  | 0, h => by omega
  | 1, _ => by
    rcases Nat.eq_zero_or_pos i with hi | hi
    · subst hi; simp [innerT, stepT]
    · rw [if_neg (by omega)]; simp [innerT, stepT, hi]
  | m + 2, _ => by
    rw [innerT_next, List.length_append, inner_odd k i (m + 1) (by omega)]
    simp [stepT]
    split <;> omega
theorem outer_odd (k : Int) {g : List Int} (hg : ∀ x ∈ g, 1 ≤ x ∧ x ≤ 9) : ∀ r, 0 < r → r ≤ g.length → (outerT k g r).length % 2 = 1
  | 0, h, _ => by omega
  | r + 1, _, hr => by
    have hx : g[r]? = some (g[r]'(by omega)) := List.getElem?_eq_getElem (by omega)
    have h9 := hg _ (List.mem_of_getElem? hx)
    rw [outerT_next k hx, List.length_append, inner_odd k r _ (by omega)]
    rcases Nat.eq_zero_or_pos r with h0 | h0
    · subst h0; simp [outerT]; omega
    · have := outer_odd k hg r h0 (by omega)
      rw [if_neg (by omega)]; omega
theorem mT_odd (s : ByteArray) : ∀ m, 0 < m → (mT s m).length % 2 = 1
  | 0, h => by omega
  | 1, _ => by simp [mT]
  | m + 2, _ => by
    have := mT_odd s (m + 1) (by omega)
    rw [mT_next, List.length_append]; simp; omega
theorem times_odd {x : Ch} (ht : TOk x) : (timesL x).length % 2 = 1 := by
  unfold timesL
  split
  · rename_i h8
    obtain ⟨h1, h2, h3⟩ := ht.mo h8
    have := morse_size (letN x) (by unfold letN; omega)
    exact mT_odd _ _ (by omega)
  · rename_i h8
    obtain ⟨g1, g4, g9⟩ := grp_ok h8 ht
    have := outer_odd x.k g9 (grp x).length (by omega) (Nat.le_refl _)
    rw [List.length_append]
    split <;> simp <;> omega
end Go.Proofs.YtpfnnjcochhklaaGreatDoor

/- Characters: how long lit. -/
namespace Go.Proofs.YtpfnnjcochhklaaGreatDoor
open Go.RowKit
theorem eS_E : (⟨#[]⟩ : ByteArray).toList.isEmpty = true := by rw [(toList_nil _).2 rfl]; rfl
theorem wS_E : (⟨#[87]⟩ : ByteArray).toList.isEmpty = false := isE_no (by decide)
theorem litI_co (x : Ch) (co co' : ByteArray) (h : co.toList.isEmpty = co'.toList.isEmpty) : litI (phasesL x co) = litI (phasesL x co') := by
  have e0 : ∀ c : ByteArray, ∀ b : Bool, (bif b then c else (⟨#[]⟩ : ByteArray)).toList.isEmpty = (bif b then c.toList.isEmpty else true) := fun c b => by cases b <;> simp
  simp only [litI]
  congr 1
  unfold phasesL
  split
  · simp [h]
  split
  · simp [h]
  · apply List.ext_getElem?
    intro i
    simp only [altL, List.getElem?_map, List.getElem?_mapIdx]
    cases (timesL x ++ [if steadyB x = true then gapI x.k else x.p - (timesL x).sum])[i]? with
    | none => rfl
    | some t => simp only [Option.map_some, altP, e0, h]
theorem lit_bd : ∀ {ps : List Ph}, (∀ p ∈ ps, 0 ≤ p.len ∧ p.len ≤ 600) → 0 ≤ litI ps ∧ litI ps ≤ 600 * ps.length
  | [], _ => by simp [litI]
  | p :: ps, h => by
    have h1 := lit_bd (ps := ps) fun q hq => h q (List.mem_cons_of_mem _ hq)
    have h2 := h p List.mem_cons_self
    have e : litI (p :: ps) = (bif p.c.toList.isEmpty then 0 else p.len) + litI ps := by simp [litI]
    rw [e, List.length_cons]
    cases p.c.toList.isEmpty <;> simp <;> omega
theorem Sl.ph {w : World} {B n : Nat} {A : Option Addr} {xs : List Ph} (h : Sl w B 2 A n (xs.flatMap Ph.cells)) (k : Nat) (hk : k < n) :
    ∃ b off x, A = some ⟨b, off, none⟩ ∧ b < B ∧ xs[k]? = some x ∧ w.cell? ⟨b, off + k * 2, none⟩ = some (.string x.c) ∧ w.cell? ⟨b, off + k * 2 + 1, none⟩ = some (.int .i64 x.len) := by
  obtain ⟨b, off, s, hA, hb, hx, hc⟩ := h.get Ph.cells 2 Ph.cells_len (by omega) k hk
  exact ⟨b, off, s, hA, hb, hx, hc 0 _ rfl, hc 1 _ rfl⟩
theorem colors_one {x : Ch} (h : validB x = true) : 1 ≤ x.cs.size ∧ x.cs.size ≤ 3 := by
  have hsh := valid_shape h
  simp only [shapeB, colorsB, Bool.and_eq_true, decide_eq_true_eq] at hsh
  exact hsh.1.2
theorem one_ne {s : ByteArray} (h : 1 ≤ s.size) : (s.extract 0 1).toList.isEmpty = false := by
  apply isE_no
  rw [ByteArray.size_extract]; omega
end Go.Proofs.YtpfnnjcochhklaaGreatDoor
