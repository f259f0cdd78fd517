
/- IsDistinct: the program: newChoosing. -/
import Derived.Test.YtgibbhipjpbdfaaGreatDdC
import Derived.Test.YtgibbhipjpbdfaaGreatChC
import Derived.Test.YtgibbhipjpbdfaaGreatDdV
namespace Go.Proofs.YtgibbhipjpbdfaaGreat
open Go.RowKit
theorem made_rows (n : Nat) : (madeCells (Value.slice none 0 0).cells (n * 1)).toList = (List.replicate n (⟨none, 0, []⟩ : RowG)).flatMap RowG.cells := by
  rw [Nat.mul_one]
  show (madeCells #[Value.slice none 0 0] n).toList = _
  rw [toList_madeCells_one]
  induction n with
  | zero => rfl
  | succ n ih => rw [List.replicate_succ, List.replicate_succ, List.flatMap_cons, ih]; rfl
theorem rows_set : ∀ (rs : List RowG) (d : Nat) (r : RowG), (rs.flatMap RowG.cells).set d (.slice r.A r.xs.length r.c) = (rs.set d r).flatMap RowG.cells
  | [], d, r => by simp
  | x :: xs, 0, r => by simp
  | x :: xs, d + 1, r => by
    have := rows_set xs d r
    simp only [List.flatMap_cons, List.set_cons_succ, RowG.cells, List.cons_append, List.nil_append] at this ⊢
    rw [this]
abbrev RowG.val (r : RowG) : Value := .slice r.A r.xs.length r.c
/-- The rows of lights before each light, in memory of the call's own. -/
structure Bef (w : World) (base g2 m : Nat) (rs : List RowG) : Prop where
  out : w.ownsRow base 28 1 (.slice (some ⟨g2, 0, none⟩) m m) m (rs.flatMap RowG.cells)
  inn : ∀ (i : Nat) (r : RowG), rs[i]? = some r → w.ownsRow base 2 1 r.val r.xs.length (r.xs.flatMap intC)
  dif : ∀ (i j : Nat) (r r' : RowG), i ≠ j → rs[i]? = some r → rs[j]? = some r' → r.val.ownBlock = none ∨ r.val.ownBlock ≠ r'.val.ownBlock
theorem Bef.next {w w' : World} {base g2 m : Nat} {rs : List RowG} (h : Bef w base g2 m rs) (hb : Below w.heap.size w w') : Bef w' base g2 m rs := ⟨own_next h.out hb, fun i r hr => own_next (h.inn i r hr) hb, h.dif⟩
theorem Bef.len {w : World} {base g2 m : Nat} {rs : List RowG} (h : Bef w base g2 m rs) : rs.length = m := (Sl.of_own h.out).len RowG.cells 1 RowG.cells_len (by omega)
theorem Bef.made {w : World} {base g2 m : Nat} (h : w.ownsRow base 28 1 (.slice (some ⟨g2, 0, none⟩) m m) m (madeCells (Value.slice none 0 0).cells (m * 1)).toList) : Bef w base g2 m (List.replicate m ⟨none, 0, []⟩) := by
  rw [made_rows] at h
  refine ⟨h, fun i r hr => ?_, fun i j r r' _ hr _ => .inl ?_⟩
  · have := List.mem_of_getElem? hr
    rw [List.mem_replicate] at this
    rw [this.2]
    exact ⟨rfl, .inl ⟨rfl, rfl⟩⟩
  · have := List.mem_of_getElem? hr
    rw [List.mem_replicate] at this
    rw [this.2]
    rfl
/-- One number is appended to a row, and the row stored. -/
theorem Bef.push {w w0 w4 : World} {base g2 m d : Nat} {rs : List RowG} {r : RowG} {a : Int} {A4 : Option Addr} {c4 : Nat} (h : Bef w base g2 m rs) (hr : rs[d]? = some r) (hb : Below w.heap.size w w0) (hlt : w.heap.size ≤ w0.heap.size)
    (hg : w0.grownBy w4 r.val.ownBlock) (ho : w4.ownsRow base 2 1 (.slice A4 (r.xs.length + 1) c4) (r.xs.length + 1) (r.xs.flatMap intC ++ intC a)) (hat : (Value.slice A4 (r.xs.length + 1) c4).ownBlock = r.val.ownBlock ∨ (Value.slice A4 (r.xs.length + 1) c4).ownBlock = some w0.heap.size) :
    Bef (w4.setCell ⟨g2, d, none⟩ (.slice A4 (r.xs.length + 1) c4)) base g2 m (rs.set d ⟨A4, c4, r.xs ++ [a]⟩) := by
  have h0 := h.next hb
  have hv : (⟨A4, c4, r.xs ++ [a]⟩ : RowG).val = .slice A4 (r.xs.length + 1) c4 := by simp [RowG.val]
  have hne := own_ne h0.out (h0.inn d r hr) (by decide)
  have out4 := own_grown h0.out hg hne
  have s0 := out4.stored d (.slice A4 (r.xs.length + 1) c4)
  have hd := (List.getElem?_eq_some_iff.1 hr).1
  have hold : ∀ (i : Nat) (r' : RowG) (k : Nat), rs[i]? = some r' → r'.val.ownBlock = some k → k < w.heap.size := fun i r' k hi hk => ((h.inn i r' hi).lt k hk).2
  refine ⟨?_, fun i q hq => ?_, fun i j q q' hij hq hq' => ?_⟩
  · have := s0.1
    rw [← hv, rows_set] at this
    rw [hv] at this
    exact this
  · by_cases hid : i = d
    · subst hid
      rw [List.getElem?_set_self hd] at hq
      injection hq with hq
      subst hq
      have h5 := own_grown ho s0.2 (own_ne ho out4 (by decide))
      rw [hv]
      have e : (r.xs ++ [a]).flatMap intC = r.xs.flatMap intC ++ intC a := by simp
      rw [e, List.length_append]
      exact h5
    · rw [List.getElem?_set_ne (Ne.symm hid)] at hq
      have h5 := own_grown (h0.inn i q hq) hg (h.dif i d q r hid hq hr)
      exact own_grown h5 s0.2 (own_ne h5 out4 (by decide))
  · by_cases hid : i = d
    · subst hid
      rw [List.getElem?_set_self hd] at hq
      injection hq with hq
      subst hq
      rw [List.getElem?_set_ne hij] at hq'
      rw [hv]
      rcases hat with e | e
      · rw [e]; exact h.dif i j r q' hij hr hq'
      · right
        rw [e]
        intro e2
        have := hold j q' _ hq' e2.symm
        omega
    · rw [List.getElem?_set_ne (Ne.symm hid)] at hq
      by_cases hjd : j = d
      · subst hjd
        rw [List.getElem?_set_self hd] at hq'
        injection hq' with hq'
        subst hq'
        rw [hv]
        rcases hat with e | e
        · rw [e]; exact h.dif i j q r hij hq hr
        · rw [e]
          cases hk : q.val.ownBlock with
          | none => exact .inl rfl
          | some k =>
            right
            intro e2
            injection e2 with e2
            have := hold i q _ hq hk
            omega
      · rw [List.getElem?_set_ne (Ne.symm hjd)] at hq'
        exact h.dif i j q q' hij hq hq'
/-! The table of clashes in the struct's 150 cells. -/
def TabIs (ys : List Value) (T : Nat → Nat → Bool) : Prop := ∀ i j, i < 12 → j < 12 → ys[3 + i * 12 + j]? = some (.bool (T i j))
theorem tab_set {ys : List Value} {T : Nat → Nat → Bool} {a b : Nat} (h : TabIs ys T) (ha : a < 12) (hb : b < 12) : TabIs (ys.set (3 + a * 12 + b) (.bool true)) fun i j => (decide (i = a ∧ j = b)) || T i j := by
  intro i j hi hj
  by_cases e : i = a ∧ j = b
  · obtain ⟨rfl, rfl⟩ := e
    have := (List.getElem?_eq_some_iff.1 (h i j hi hj)).1
    rw [List.getElem?_set_self this]
    simp
  · rw [List.getElem?_set_ne (by omega), h i j hi hj]
    dsimp only
    rw [decide_eq_false e, Bool.false_or]
abbrev Chz (w : World) (base g : Nat) (ys : List Value) : Prop := w.ownsRow base 47 150 (.slice (some ⟨g, 0, none⟩) 1 1) 1 ys
theorem mem_allP {p : Nat → Nat → Bool} {n : Nat} : ∀ (i : Nat) (q : Int × Int), q ∈ allP p n i ↔ ∃ a b : Nat, q = ((a : Int), (b : Int)) ∧ a < i ∧ a < b ∧ b < n ∧ p a b = true := by
  intro i q
  simp only [allP, List.mem_flatMap, List.mem_range, rowP, List.mem_map, List.mem_filter, Bool.and_eq_true, decide_eq_true_eq]
  constructor
  · rintro ⟨a, ha, b, ⟨hb, hab, hp⟩, rfl⟩
    exact ⟨a, b, rfl, ha, hab, hb, hp⟩
  · rintro ⟨a, b, rfl, ha, hab, hb, hp⟩
    exact ⟨a, ha, b, ⟨hb, hab, hp⟩, rfl⟩
/-- What the table holds behind some pairs. -/
def tabL (n : Nat) (L : List (Int × Int)) (i j : Nat) : Bool := decide (i = j ∧ i < n) || L.any fun q => (decide (q = ((i : Int), (j : Int))) || decide (q = ((j : Int), (i : Int))))
theorem tab_all {p : Nat → Nat → Bool} {n : Nat} (hp : ∀ i j, p i j = p j i) {i j : Nat} (hi : i < n) (hj : j < n) : tabL n (allP p n n) i j = tabB p i j := by
  unfold tabL tabB
  by_cases hij : i = j
  · subst hij
    rw [decide_eq_true ⟨rfl, hi⟩, decide_eq_true rfl]; rfl
  · rw [decide_eq_false (fun h => hij h.1), decide_eq_false hij, Bool.false_or, Bool.false_or, Bool.eq_iff_iff, List.any_eq_true]
    constructor
    · rintro ⟨q, hq, h⟩
      obtain ⟨a, b, rfl, h1, h2, h3, h4⟩ := (mem_allP n q).1 hq
      simp only [Bool.or_eq_true, decide_eq_true_eq, Prod.mk.injEq] at h
      rcases h with ⟨e1, e2⟩ | ⟨e1, e2⟩
      · obtain rfl : a = i := by omega
        obtain rfl : b = j := by omega
        exact h4
      · obtain rfl : a = j := by omega
        obtain rfl : b = i := by omega
        rw [hp]; exact h4
    · intro h
      rcases Nat.lt_or_gt_of_ne hij with h1 | h1
      · exact ⟨((i : Int), (j : Int)), (mem_allP n _).2 ⟨i, j, rfl, hi, h1, hj, h⟩, by simp⟩
      · exact ⟨((j : Int), (i : Int)), (mem_allP n _).2 ⟨j, i, rfl, hj, h1, hi, by rw [hp]; exact h⟩, by simp⟩
theorem tab_next {n k : Nat} {L : List (Int × Int)} {a b : Nat} (h : L[k]? = some ((a : Int), (b : Int))) (i j : Nat) : tabL n (L.take (k + 1)) i j = (decide (i = b ∧ j = a) || (decide (i = a ∧ j = b) || tabL n (L.take k) i j)) := by
  have e1 : decide (((a : Int), (b : Int)) = ((i : Int), (j : Int))) = decide (i = a ∧ j = b) := by
    rw [decide_eq_decide]; simp only [Prod.mk.injEq]; omega
  have e2 : decide (((a : Int), (b : Int)) = ((j : Int), (i : Int))) = decide (i = b ∧ j = a) := by
    rw [decide_eq_decide]; simp only [Prod.mk.injEq]; omega
  rw [tabL, List.take_add_one, h, List.any_append]
  simp only [Option.toList_some, List.any_cons, List.any_nil, Bool.or_false, e1, e2, tabL]
  cases decide (i = b ∧ j = a) <;> cases decide (i = a ∧ j = b) <;> simp
end Go.Proofs.YtgibbhipjpbdfaaGreat
