/- ChC: several of my texts in one. -/
import Derived.Test.YtgibbhipjpbdfaaGreatCfT
import Derived.Test.YtgibbhipjpbdfaaGreatChars
import Derived.Test.YtgibbhipjpbdfaaGreatApp
import Derived.Test.YtgibbhipjpbdfaaGreatSrcG
import Derived.Test.YtgibbhipjpbdfaaGreatPhO
import Derived.Test.YtgibbhipjpbdfaaGreatMatG

/- The pairs that clash. Plain facts, no program. -/
namespace Go.Proofs.YtgibbhipjpbdfaaGreat
open Go.RowKit
def rowP (p : Nat → Nat → Bool) (i m : Nat) : List (Int × Int) := ((List.range m).filter fun k => decide (i < k) && p i k).map fun (k : Nat) => ((i : Int), (k : Int))
def allP (p : Nat → Nat → Bool) (n i : Nat) : List (Int × Int) := (List.range i).flatMap fun j => rowP p j n
theorem row_yes {p : Nat → Nat → Bool} {i m : Nat} (h : i < m) (hp : p i m = true) : rowP p i (m + 1) = rowP p i m ++ [((i : Int), (m : Int))] := by
  rw [rowP, List.range_succ, List.filter_append, List.map_append]
  simp [rowP, h, hp]
theorem row_no {p : Nat → Nat → Bool} {i m : Nat} (hp : p i m = false) : rowP p i (m + 1) = rowP p i m := by
  rw [rowP, List.range_succ, List.filter_append, List.map_append]
  simp [rowP, hp]
theorem row_start {p : Nat → Nat → Bool} {i : Nat} : rowP p i (i + 1) = [] := by
  rw [rowP, List.map_eq_nil_iff, List.filter_eq_nil_iff]
  intro k hk
  have := List.mem_range.1 hk
  simp; omega
theorem allP_next (p : Nat → Nat → Bool) (n i : Nat) : allP p n (i + 1) = allP p n i ++ rowP p i n := by
  rw [allP, List.range_succ, List.flatMap_append]; simp [allP]
theorem rowP_len (p : Nat → Nat → Bool) (i m : Nat) : (rowP p i m).length ≤ m := by
  rw [rowP, List.length_map]
  exact Nat.le_trans (List.length_filter_le _ _) (by simp)
theorem allP_len (p : Nat → Nat → Bool) (n : Nat) : ∀ i, (allP p n i).length ≤ i * n
  | 0 => by simp [allP]
  | i + 1 => by
    have := allP_len p n i
    have := rowP_len p i n
    rw [allP_next, List.length_append, Nat.add_mul]
    omega
def ch0 : Ch := ⟨0, [], ⟨#[]⟩, ⟨#[]⟩, 0⟩
def chAt (xs : List Ch) (i : Nat) : Ch := xs[i]?.getD ch0
def clP (xs : List Ch) (tol : Int) (i k : Nat) : Bool := confV (chAt xs i) (chAt xs k) tol
theorem chAt_eq {zs : List ChG} {i : Nat} {z : ChG} (h : zs[i]? = some z) : chAt (zs.map ChG.x) i = z.x := by rw [chAt, List.getElem?_map, h]; rfl
def chcL (xs : List Ch) (tol : Int) : List (Int × Int) := bif !(xs.all validB) then [] else bif !inB tol 0 20 then [] else bif !decide (xs.length ≤ 12) then [] else allP (clP xs tol) xs.length xs.length
def chcK (xs : List Ch) (tol : Int) : Int := bif !(xs.all validB) then 1 else bif !inB tol 0 20 then 2 else bif !decide (xs.length ≤ 12) then 5 else 0
theorem chcL_len (xs : List Ch) (tol : Int) : (chcL xs tol).length ≤ 144 := by
  unfold chcL
  cases xs.all validB
  · simp
  cases inB tol 0 20
  · simp
  by_cases h : xs.length ≤ 12
  · rw [decide_eq_true h]
    have := allP_len (clP xs tol) xs.length xs.length
    have : xs.length * xs.length ≤ 12 * 12 := Nat.mul_le_mul h h
    simp only [Bool.not_true, cond_false]
    omega
  · rw [decide_eq_false h]; simp
theorem all_of {xs : List Ch} (h : xs.all validB = true) {x : Ch} (hx : x ∈ xs) : validB x = true := List.all_eq_true.1 h x hx
/-- A row of the table of clashes. -/
def boolR (p : Nat → Nat → Bool) (i m : Nat) : List Value := (List.range m).flatMap fun k => [Value.bool (decide (i = k) || p i k)]
theorem boolR_next (p : Nat → Nat → Bool) (i m : Nat) : boolR p i (m + 1) = boolR p i m ++ [.bool (decide (i = m) || p i m)] := by
  rw [boolR, List.range_succ, List.flatMap_append]; simp [boolR]
theorem boolR_len (p : Nat → Nat → Bool) (i : Nat) : ∀ m, (boolR p i m).length = m
  | 0 => rfl
  | m + 1 => by rw [boolR_next, List.length_append, boolR_len p i m]; rfl
theorem boolR_at (p : Nat → Nat → Bool) (i : Nat) {m k : Nat} (h : k < m) : (boolR p i m)[k]? = some (.bool (decide (i = k) || p i k)) := by
  induction m with
  | zero => omega
  | succ m ih =>
    rw [boolR_next]
    rcases Nat.lt_or_ge k m with h1 | h1
    · rw [List.getElem?_append_left (by rw [boolR_len]; exact h1)]; exact ih h1
    · obtain rfl : k = m := by omega
      rw [List.getElem?_append_right (by rw [boolR_len]; exact Nat.le_refl _), boolR_len, Nat.sub_self]; rfl
def rbC (n : Nat) (g : Nat × Nat) : List Value := [.slice (some ⟨g.1, 0, none⟩) n g.2]
theorem rbC_len (n : Nat) (g : Nat × Nat) : (rbC n g).length = 1 := rfl
theorem rbC_one (n : Nat) (g : Nat × Nat) : ∀ u ∈ rbC n g, u.oneCell' = true := by simp [rbC, Value.oneCell']
/-- The table, in memory, below block B. -/
def SM (w : World) (B : Nat) (A : Option Addr) (n : Nat) (p : Nat → Nat → Bool) : Prop :=
  ∃ gl : List (Nat × Nat), gl.length = n ∧ Sl w B 1 A n (gl.flatMap (rbC n)) ∧ ∀ (i : Nat) (g : Nat × Nat), gl[i]? = some g → Sl w B 1 (some ⟨g.1, 0, none⟩) n (boolR p i n)
theorem SM.below {w w' : World} {B n : Nat} {A : Option Addr} {p : Nat → Nat → Bool} (h : SM w B A n p) (hb : Below B w w') : SM w' B A n p := by
  obtain ⟨gl, h1, h2, h3⟩ := h
  exact ⟨gl, h1, h2.below hb, fun i g hg => (h3 i g hg).below hb⟩
theorem SM.get {w : World} {B n : Nat} {A : Option Addr} {p : Nat → Nat → Bool} (h : SM w B A n p) (i k : Nat) (hi : i < n) (hk : k < n) :
    ∃ b off g c, A = some ⟨b, off, none⟩ ∧ w.cell? ⟨b, off + i, none⟩ = some (.slice (some ⟨g, 0, none⟩) n c) ∧ w.cell? ⟨g, k, none⟩ = some (.bool (decide (i = k) || p i k)) := by
  obtain ⟨gl, h1, h2, h3⟩ := h
  obtain ⟨b, off, g, hA, hb, hg, hc⟩ := h2.get (rbC n) 1 (rbC_len n) (by omega) i hi
  obtain ⟨b', off', e, _, hc'⟩ := (h3 i g hg).2 (by omega)
  injection e with e
  injection e with e1 e2 _
  subst e1 e2
  refine ⟨b, off, g.1, g.2, hA, by simpa using hc 0 _ rfl, ?_⟩
  have := hc' k _ (boolR_at p i hk)
  simpa using this
end Go.Proofs.YtgibbhipjpbdfaaGreat

/- Rows of pairs of integers, in memory of the call's own; the laws' own functions over them. -/
namespace Go.Proofs.YtgibbhipjpbdfaaGreat
open Go.RowKit
abbrev prV (g : Nat) : Value := .slice (some ⟨g, 0, none⟩) 2 2
def prC (g : Nat) : List Value := [prV g]
theorem prC_len (g : Nat) : (prC g).length = 1 := rfl
theorem prC_one (g : Nat) : ∀ u ∈ prC g, u.oneCell' = true := by simp [prC, Value.oneCell']
abbrev xyC (p : Int × Int) : List Value := [p.1, p.2].flatMap intC
theorem rowInfo : (Tryz.prog.info? 28).map (fun i => (i.zero, i.size, i.bytes)) = some (some (.slice none 0 0), 1, 24) := by kernel_rfl
/-- A row of pairs, each pair in a block of its own. -/
structure NN (w : World) (base : Nat) (v : Value) (gs : List Nat) (xs : List (Int × Int)) : Prop where
  len : xs.length = gs.length
  out : w.ownsRow base 28 1 v gs.length (gs.flatMap prC)
  inn : ∀ (i g : Nat) (x : Int × Int), gs[i]? = some g → xs[i]? = some x → w.ownsRow base 2 1 (prV g) 2 (xyC x)
  nod : gs.Nodup
/-- It reads so, below block B. -/
structure SN (w : World) (B : Nat) (A : Option Addr) (gs : List Nat) (xs : List (Int × Int)) : Prop where
  len : xs.length = gs.length
  out : Sl w B 1 A gs.length (gs.flatMap prC)
  inn : ∀ (i g : Nat) (x : Int × Int), gs[i]? = some g → xs[i]? = some x → Sl w B 1 (some ⟨g, 0, none⟩) 2 (xyC x)
section
variable {w w' : World} {base B c : Nat} {v : Value} {A : Option Addr} {gs : List Nat} {xs : List (Int × Int)}
theorem NN.next (h : NN w base v gs xs) (hb : Below w.heap.size w w') : NN w' base v gs xs := ⟨h.len, own_next h.out hb, fun i g x h1 h2 => own_next (h.inn i g x h1 h2) hb, h.nod⟩
theorem NN.base' {base' : Nat} (h : NN w base v gs xs) (hb : base' ≤ base) : NN w base' v gs xs := ⟨h.len, own_base h.out hb, fun i g x h1 h2 => own_base (h.inn i g x h1 h2) hb, h.nod⟩
theorem NN.rng {lo hi : Nat} (h : NN w base v gs xs) (hr : Rng lo hi w w') (hb : hi ≤ base) : NN w' base v gs xs :=
  ⟨h.len, own_rng h.out hr fun k hk => .inr (Nat.le_trans hb (h.out.lt k hk).1), fun i g x h1 h2 => own_rng (h.inn i g x h1 h2) hr fun k hk => .inr (Nat.le_trans hb ((h.inn i g x h1 h2).lt k hk).1), h.nod⟩
theorem NN.sn (h : NN w base (.slice A gs.length c) gs xs) : SN w w.heap.size A gs xs := ⟨h.len, Sl.of_own h.out, fun i g x h1 h2 => Sl.of_own (h.inn i g x h1 h2)⟩
theorem SN.below (h : SN w B A gs xs) (hb : Below B w w') : SN w' B A gs xs := ⟨h.len, h.out.below hb, fun i g x h1 h2 => (h.inn i g x h1 h2).below hb⟩
theorem SN.more {B' : Nat} (h : SN w B A gs xs) (hb : B ≤ B') : SN w B' A gs xs := ⟨h.len, h.out.more hb, fun i g x h1 h2 => (h.inn i g x h1 h2).more hb⟩
theorem SN.next (h : SN w w.heap.size A gs xs) (hb : Below w.heap.size w w') : SN w' w'.heap.size A gs xs := (h.below hb).more hb.size
theorem SN.get (h : SN w B A gs xs) (k : Nat) (hk : k < gs.length) : ∃ b off g x, A = some ⟨b, off, none⟩ ∧ b < B ∧ gs[k]? = some g ∧ xs[k]? = some x ∧ w.cell? ⟨b, off + k, none⟩ = some (prV g) ∧ Sl w B 1 (some ⟨g, 0, none⟩) 2 (xyC x) := by
  obtain ⟨b, off, g, hA, hb, hg, hc⟩ := h.out.get prC 1 prC_len (by omega) k hk
  have hx := List.getElem?_eq_getElem (show k < xs.length by rw [h.len]; exact hk)
  exact ⟨b, off, g, _, hA, hb, hg, hx, by simpa using hc 0 _ rfl, h.inn k g _ hg hx⟩
theorem NN.nil (v : Value) (h : w.ownsRow base 28 1 v 0 []) : NN w base v [] [] := ⟨rfl, h, fun i g x h1 _ => by simp at h1, List.nodup_nil⟩
/-- One pair more. -/
theorem NN.push {w3 : World} {v3 : Value} (x : Int × Int) (h : NN w base v gs xs) (hb : base ≤ w.heap.size)
    (hg : ((w.alloc (.cells (xyC x).toArray 2)).alloc (.cells (prC w.heap.size).toArray 28)).grownBy w3 v.ownBlock) (ho : w3.ownsRow base 28 1 v3 (gs.length + 1) (gs.flatMap prC ++ prC w.heap.size)) :
    NN w3 base v3 (gs ++ [w.heap.size]) (xs ++ [x]) := by
  have hbA : Below w.heap.size w ((w.alloc (.cells (xyC x).toArray 2)).alloc (.cells (prC w.heap.size).toArray 28)) := ((Below.refl _ _).alloc (Nat.le_refl _) _).alloc (by simp) _
  have h2 := h.next hbA
  have hnew := own_next (lit_own w base 2 (xyC x).toArray 2 1 hb (by decide) rfl) (w' := (w.alloc (.cells (xyC x).toArray 2)).alloc (.cells (prC w.heap.size).toArray 28)) ((Below.refl _ _).alloc (Nat.le_refl _) _)
  refine ⟨by simp [h.len], by rw [List.length_append, List.flatMap_append]; simpa using ho, fun i g y hi hy => ?_, ?_⟩
  · rcases Nat.lt_or_ge i gs.length with hlt | hge
    · rw [List.getElem?_append_left hlt] at hi
      rw [List.getElem?_append_left (by rw [h.len]; exact hlt)] at hy
      have := h2.inn i g y hi hy
      exact own_grown this hg (own_ne this h2.out (by decide))
    · rw [List.getElem?_append_right hge] at hi
      rw [List.getElem?_append_right (by rw [h.len]; exact hge), h.len] at hy
      obtain ⟨j, hj⟩ : ∃ j, i - gs.length = j := ⟨_, rfl⟩
      rw [hj] at hi hy
      cases j with
      | succ j => simp at hi
      | zero =>
        simp only [List.getElem?_cons_zero, Option.some.injEq] at hi hy
        subst hi hy
        exact own_grown hnew hg (own_ne hnew h2.out (by decide))
  · rw [List.nodup_append]
    refine ⟨h.nod, by simp, fun a ha b hb' => ?_⟩
    simp only [List.mem_singleton] at hb'
    obtain ⟨i, hi⟩ := List.getElem?_of_mem ha
    have hx := List.getElem?_eq_getElem (show i < xs.length by rw [h.len]; exact (List.getElem?_eq_some_iff.1 hi).1)
    have := (h.inn i a _ hi hx).lt a rfl
    omega
/-- One pair is written. -/
theorem NN.set {i g : Nat} {y : Int × Int} (h : NN w base v gs xs) (hg : gs[i]? = some g) (hgr : w.grownBy w' (some g)) (ho : w'.ownsRow base 2 1 (prV g) 2 (xyC y)) : NN w' base v gs (xs.set i y) := by
  have hil := (List.getElem?_eq_some_iff.1 hg).1
  have hxi := List.getElem?_eq_getElem (show i < xs.length by rw [h.len]; exact hil)
  refine ⟨by simp [h.len], ?_, fun j g' x hj hx => ?_, h.nod⟩
  · exact own_grown h.out hgr (own_ne h.out (h.inn i g _ hg hxi) (by decide))
  · by_cases hij : i = j
    · subst hij
      rw [hg] at hj; injection hj with hj; subst hj
      rw [List.getElem?_set_self (by rw [h.len]; exact hil)] at hx
      injection hx with hx; subst hx
      exact ho
    · rw [List.getElem?_set_ne hij] at hx
      refine own_grown (h.inn j g' x hj hx) hgr (.inr fun e => hij ?_)
      have e2 : g' = g := by simpa [Value.ownBlock] using e
      obtain ⟨h1, h2⟩ := List.getElem?_eq_some_iff.1 hg
      obtain ⟨h3, h4⟩ := List.getElem?_eq_some_iff.1 hj
      exact (List.getElem_inj h.nod).1 (by rw [h2, h4, e2])
end
/-- The numbers that a marked row holds. -/
def numP (k0 j : Nat) : Int × Int := (((k0 + 2 * j : Nat) : Int), ((k0 + 2 * j + 1 : Nat) : Int))
end Go.Proofs.YtgibbhipjpbdfaaGreat

/- Lists of lights: valid ones, both sides. -/
namespace Go.Proofs.YtgibbhipjpbdfaaGreat
open Go.RowKit
def lightsB (zs : List ChG) : Bool := zs.all (fun z => validB z.x) && decide (zs.length ≤ 64)
theorem ChS.ptr {w : World} {A : Option Addr} {n : Nat} {zs : List ChG} (h : ChS w A n zs) (k : Nat) (hk : k < n) :
    ∃ b off z, A = some ⟨b, off, none⟩ ∧ zs[k]? = some z ∧ ChP w b (off + k * 5) z.A z.n z.c z.x := by
  obtain ⟨b, off, z, hA, hb, hx, hzo, c0, c1, c2, c3, c4⟩ := h.get k hk
  exact ⟨b, off, z, hA, hx, c0, c1, c2, c3, c4, hb, hzo.sl, hzo.hn, hzo.hl, hzo.hs⟩
theorem all_true {zs : List ChG} (h : ∀ z ∈ zs, validB z.x = true) : zs.all (fun z => validB z.x) = true := by simpa using h
theorem all_false {zs : List ChG} {k : Nat} {z : ChG} (hx : zs[k]? = some z) (h : validB z.x = false) : zs.all (fun z => validB z.x) = false := by
  rw [List.all_eq_false]
  exact ⟨z, List.mem_of_getElem? hx, by simp [h]⟩
end Go.Proofs.YtgibbhipjpbdfaaGreat

/- ChoiceClashes: the reference. -/
namespace Go.Proofs.YtgibbhipjpbdfaaGreat
open Go.RowKit
theorem all_map (zs : List ChG) : (zs.map ChG.x).all validB = zs.all fun z => validB z.x := by rw [List.all_map]; rfl
theorem boolInfo : (Tryz.prog.info? 4).map (fun i => (i.zero, i.size, i.bytes)) = some (some (.bool false), 1, 1) := by kernel_rfl
end Go.Proofs.YtgibbhipjpbdfaaGreat

/- ChoiceClashes: the reference, its result. -/
namespace Go.Proofs.YtgibbhipjpbdfaaGreat
open Go.RowKit
def ChcAns (xs : List Ch) (tol : Int) (w : World) (e : Ending) (w' : World) : Prop :=
  ∃ A n c gs, e = .returned (.tuple #[.slice A n c, .int .i64 (chcK xs tol)]) ∧ gs.length = n ∧ NN w' w.heap.size (.slice A n c) gs (chcL xs tol) ∧ Below w.heap.size w w'
theorem nn_nil (w : World) (B : Nat) : NN w B (.slice none 0 0) [] [] := NN.nil _ ⟨by simp, .inl ⟨rfl, rfl⟩⟩
theorem chc_ok {xs : List Ch} {tol : Int} {n : Nat} (h1 : xs.all validB = true) (h2 : inB tol 0 20 = true) (h3 : xs.length = n) (h4 : n ≤ 12) : chcK xs tol = 0 ∧ chcL xs tol = allP (clP xs tol) n n := by
  rw [chcK, chcL, h1, h2, h3, decide_eq_true h4]
  exact ⟨rfl, rfl⟩
end Go.Proofs.YtgibbhipjpbdfaaGreat

/- ChoiceClashes: the program. -/
namespace Go.Proofs.YtgibbhipjpbdfaaGreat
open Go.RowKit
set_option maxRecDepth 100000 in
set_option maxHeartbeats 1000000 in
theorem allPred_c (A : Option Addr) (n c : Nat) (x : Ch) (w : World) (sl : Sl w w.heap.size 1 A n (x.gs.flatMap intC)) (hn : n ≤ 1048576) (hlz : x.l.size ≤ 1048576) (hs : x.cs.size ≤ 1048576) :
    Calls Tryz.prog 44 #[chV x.k A n c x.l x.cs x.p] w fun e w' => e = .returned (.bool (!validB x)) ∧ Below w.heap.size w w' := by
  have hb0 : Below w.heap.size w (w.alloc (.cells #[.int .i64 x.k, .slice A n c, .string x.l, .string x.cs, .int .i64 x.p] 60)) := by (repeat (first | (with_reducible assumption) | (with_reducible exact Below.refl _ _) | exact Nat.le_refl _ | exact Below.size (by with_reducible assumption) | (with_reducible refine Below.drew ?_) | (with_reducible refine below_drewN ?_ _) | (with_reducible refine Below.alloc ?_ ?_ _) | (with_reducible refine Below.setCell ?_ ?_ _) | (with_reducible refine le_alloc ?_ _) | (with_reducible refine le_set ?_ _ _) | (with_reducible refine le_drew ?_) | (with_reducible refine le_drewN ?_ _) | omega | (dsimp only; omega)))
  have sl0 := sl.next hb0
  go_enter Tryz.func44, Tryz.ntmps44
  go_wp2_with fail
  refine (implValid_c A n c x _ sl0 hn hlz hs).mono ?_
  rintro e w2 ⟨rfl, hb2⟩
  go_wp2_with fail
  go_ret
  exact ⟨rfl, hb0.trans (hb2.mono hb0.size)⟩
set_option maxRecDepth 100000 in
set_option maxHeartbeats 1000000 in
theorem allIndex_c (A : Option Addr) (n c : Nat) (zs : List ChG) (w : World) (h : ChS w A n zs) (hm : n ≤ 1048576) :
    Calls Tryz.prog 58 #[.slice A n c, .func (.func 44) #[] #[]] w fun e w' => (∃ r : Int, e = .returned (.int .i64 r) ∧ decide (0 ≤ r) = !(zs.all fun z => validB z.x)) ∧ Below w.heap.size w w' := by
  have hl := h.len
  have Hl := Lib.hid hl; clear hl
  go_enter Tryz.func58, Tryz.ntmps58
  go_wp2
  go_loopw [5, 8] (fun _ i wr => ∃ k : Nat, k ≤ n ∧ i = .int .i64 k ∧ (∀ z ∈ zs.take k, validB z.x = true) ∧ Below w.heap.size w wr) (fun _ i _ => n - (intOf i).toNat)
  case atStart => exact ⟨0, Nat.zero_le _, rfl, by simp, Below.refl _ _⟩
  case round =>
    obtain ⟨k, hk, rfl, hall, hbw⟩ := hrel
    have Hall := Lib.hid hall; clear hall
    by_cases hlt : k < n
    · obtain ⟨b, off, z, rfl, hb, hx, hzo, c0, c1, c2, c3, c4⟩ := (h.next hbw).get k hlt
      have Hx := Lib.hid hx; clear hx
      cases hv : validB z.x
      all_goals
        go_wp2_with fail
        refine (allPred_c z.A z.n z.c z.x _ hzo.sl hzo.hn hzo.hl hzo.hs).mono ?_
        rw [hv]
        rintro e w2 ⟨rfl, hb2⟩
        have Hv := Lib.hid hv; clear hv
        go_wp2_with fail
      · go_ret
        exact ⟨⟨_, rfl, by rw [all_false Hx.out Hv.out]; simp⟩, hbw.trans (hb2.mono hbw.size)⟩
      · go_roundw
        case rel =>
          refine ⟨k + 1, by omega, by go_num, ?_, hbw.trans (hb2.mono hbw.size)⟩
          intro z' hz'
          rcases (mem_take_next Hx.out z').1 hz' with h2 | h2
          · exact Hall.out z' h2
          · subst h2; exact Hv.out
        case measure => simp [intOf]; omega
    · go_wp2_with fail
      go_ret
      have hall := Hall.out
      rw [List.take_of_length_le (by rw [Hl.out]; omega)] at hall
      exact ⟨⟨_, rfl, by rw [all_true hall]; rfl⟩, hbw⟩
set_option maxRecDepth 100000 in
set_option maxHeartbeats 1000000 in
theorem allHas_c (A : Option Addr) (n c : Nat) (zs : List ChG) (w : World) (h : ChS w A n zs) (hm : n ≤ 1048576) :
    Calls Tryz.prog 43 #[.slice A n c, .func (.func 44) #[] #[]] w fun e w' => e = .returned (.bool (!(zs.all fun z => validB z.x))) ∧ Below w.heap.size w w' := by
  go_enter Tryz.func43, Tryz.ntmps43
  go_wp2_with fail
  refine (allIndex_c A n c zs _ h hm).mono ?_
  rintro e w1 ⟨⟨r, rfl, hr⟩, hb1⟩
  have Hr := Lib.hid hr; clear hr
  by_cases h0 : 0 ≤ r
  all_goals
    go_wp2_with fail
    go_ret
    exact ⟨ret_eq (bool_eq (by first | (rw [← Hr.out]; done) | (rw [← Hr.out]; simp [h0]))), hb1⟩
theorem areAllValid_c (A : Option Addr) (n c : Nat) (zs : List ChG) (w : World) (h : ChS w A n zs) (hm : n ≤ 1048576) :
    Calls Tryz.prog 27 #[.slice A n c] w fun e w' => e = .returned (.bool ((zs.map ChG.x).all validB)) ∧ Below w.heap.size w w' := by
  have hH := allHas_c A n c zs w h hm
  rw [all_map]
  obtain ⟨V, hV⟩ : ∃ V, (zs.all fun z => validB z.x) = V := ⟨_, rfl⟩
  rw [hV] at hH ⊢
  have HH := Lib.hid hH; clear hH
  clear hV
  go_enter Tryz.func27, Tryz.ntmps27
  go_wp2_with fail
  refine HH.out.mono ?_
  rintro e w1 ⟨rfl, hb1⟩
  cases V
  · go_wp2_with fail
    go_ret
    exact ⟨rfl, hb1⟩
  · go_wp2_with fail
    go_ret
    exact ⟨rfl, hb1⟩
set_option maxRecDepth 100000 in
set_option maxHeartbeats 4000000 in
theorem clashes_c (A : Option Addr) (n c : Nat) (zs : List ChG) (tol : Int) (w : World) (h : ChS w A n zs) (hm : n ≤ 12) (hv : (zs.map ChG.x).all validB = true) :
    Calls Tryz.prog 31 #[.slice A n c, .int .i64 tol] w fun e w' => ∃ A' m c' gs, e = .returned (.slice A' m c') ∧ gs.length = m ∧ NN w' w.heap.size (.slice A' m c') gs (allP (clP (zs.map ChG.x) tol) n n) ∧ Below w.heap.size w w' := by
  obtain ⟨q0, hq, hy0, hy1, hy2⟩ := info_parts rowInfo
  have hl := h.len
  have hval : ∀ z ∈ zs, validB z.x = true := fun z hz => all_of hv (List.mem_map_of_mem hz)
  obtain ⟨p, hp⟩ : ∃ p, clP (zs.map ChG.x) tol = p := ⟨_, rfl⟩
  rw [hp]
  have hov := World.ownsRow_made (base := w.heap.size) (e := 28) (size := 1) w #[] 0 (Nat.le_refl _) (by simp [maxLen]) rfl
  have hbv : Below w.heap.size w (w.alloc (.cells #[] 28)) := (Below.refl _ _).alloc (Nat.le_refl _) _
  have Hl := Lib.hid hl; clear hl
  have Hp := Lib.hid hp; clear hp
  have Hv := Lib.hid hv; clear hv
  have Hval := Lib.hid hval; clear hval
  have H := Lib.hid h; clear h
  go_enter Tryz.func31, Tryz.ntmps31
  go_wp2_with fail
  go_loopw [5, 12] (fun v i wr => ∃ (k m : Nat) (A' : Option Addr) (c' : Nat) (gs : List Nat), k ≤ n ∧ i = .int .i64 k ∧ v = .slice A' m c' ∧ Hid (gs.length = m) ∧ Hid (NN wr w.heap.size (.slice A' m c') gs (allP p n k)) ∧ Below w.heap.size w wr) (fun _ i _ => n - (intOf i).toNat)
  case atStart => exact ⟨0, 0, _, _, [], Nat.zero_le _, rfl, rfl, Lib.hid rfl, Lib.hid (NN.nil _ hov), hbv⟩
  case round =>
    clear hov hbv
    obtain ⟨k, m, A', c', gs, hk, rfl, rfl, Hm, HN, hbw⟩ := hrel
    have k0 : (0 : Int) ≤ (k : Int) := by omega
    by_cases hlt : k < n
    · have k1 : (k : Int) < (n : Int) := by omega
      obtain ⟨b1, o1, z1, rfl, hb1, hx1, hz1, d0, d1, d2, d3, d4⟩ := (H.out.next hbw).get k hlt
      have hN0 : allP p n k = allP p n k ++ rowP p k (k + 1) := by rw [row_start, List.append_nil]
      have hNs := HN.out
      rw [hN0] at hNs
      clear hN0 HN
      have hoX := lit_own wr w.heap.size 60 #[.int .i64 z1.x.k, .slice z1.A z1.n z1.c, .string z1.x.l, .string z1.x.cs, .int .i64 z1.x.p] 1 5 hbw.size (by decide) rfl
      have hbX : Below wr.heap.size wr (wr.alloc (chO z1.A z1.n z1.c z1.x 60)) := (Below.refl _ _).alloc (Nat.le_refl _) _
      have hNx := hNs.next hbX
      have hbx := hbw.trans (hbX.mono hbw.size)
      obtain ⟨wx, hwx⟩ : ∃ wx, wr.alloc (chO z1.A z1.n z1.c z1.x 60) = wx := ⟨_, rfl⟩
      obtain ⟨g, hg⟩ : ∃ g, wr.heap.size = g := ⟨_, rfl⟩
      rw [hwx] at hoX hNx hbx
      rw [hg] at hoX
      have HNx := Lib.hid hNx; clear hNx
      have Hx1 := Lib.hid hx1; clear hx1
      clear hNs hbX hbw
      go_wp2_with fail
      try rw [hwx]
      try rw [hg]
      clear hwx hg d0 d1 d2 d3 d4
      go_loopw [5, 8] (fun v i wr => ∃ (j m : Nat) (A' : Option Addr) (c' : Nat) (gs : List Nat), k < j ∧ j ≤ n ∧ i = .int .i64 j ∧ v = .slice A' m c' ∧ Hid (gs.length = m) ∧ Hid (NN wr w.heap.size (.slice A' m c') gs (allP p n k ++ rowP p k j)) ∧ Hid (wr.ownsRow w.heap.size 60 5 (.slice (some ⟨g, 0, none⟩) 1 1) 1 [.int .i64 z1.x.k, .slice z1.A z1.n z1.c, .string z1.x.l, .string z1.x.cs, .int .i64 z1.x.p]) ∧ Below w.heap.size w wr) (fun _ i _ => n - (intOf i).toNat)
      case atStart => exact ⟨k + 1, m, A', c', gs, by omega, by omega, by go_num, rfl, Hm, HNx, Lib.hid hoX, hbx⟩
      case round =>
        clear Hm HNx hoX hbx hz1
        obtain ⟨j, m, A', c', gs, hkj, hjn, rfl, rfl, Hm, HN, HoX, hbw⟩ := hrel
        have j0' : (0 : Int) ≤ (j : Int) := by omega
        by_cases hlj : j < n
        · have j1 : (j : Int) < (n : Int) := by omega
          obtain ⟨b2, o2, z2, hA2, hb2, hx2, hz2, c0, c1, c2, c3, c4⟩ := (H.out.next hbw).get j hlj
          injection hA2 with hA2
          injection hA2 with e1' e2' _
          subst e1' e2'
          have hz1 := ((H.out.next hbw).ok z1 (List.mem_of_getElem? Hx1.out))
          have hpz : p k j = confV z1.x z2.x tol := by rw [← Hp.out, clP, chAt_eq Hx1.out, chAt_eq hx2]
          have hC : ∀ w', Below wr.heap.size wr w' → Calls Tryz.prog 46 #[chV z1.x.k z1.A z1.n z1.c z1.x.l z1.x.cs z1.x.p, chV z2.x.k z2.A z2.n z2.c z2.x.l z2.x.cs z2.x.p, .int .i64 tol] w' fun e w'' => e = .returned (.bool (p k j)) ∧ Below w'.heap.size w' w'' := fun w' hb => by
            rw [hpz]
            exact confused_c z1.A z1.n z1.c z1.x z2.A z2.n z2.c z2.x tol w' (hz1.next hb).sl hz1.hn hz1.hl hz1.hs (hz2.next hb).sl hz2.hn hz2.hl hz2.hs (Hval.out z1 (List.mem_of_getElem? Hx1.out)) (Hval.out z2 (List.mem_of_getElem? hx2))
          have hgl := (HoX.out.lt g rfl).2
          have d0 : wr.cell? ⟨g, 0, none⟩ = some (.int .i64 z1.x.k) := by rw [HoX.out.cellAt 0 (by decide)]; rfl
          have d1 : wr.cell? ⟨g, 1, none⟩ = some (.slice z1.A z1.n z1.c) := by rw [HoX.out.cellAt 1 (by decide)]; rfl
          have d2 : wr.cell? ⟨g, 2, none⟩ = some (.string z1.x.l) := by rw [HoX.out.cellAt 2 (by decide)]; rfl
          have d3 : wr.cell? ⟨g, 3, none⟩ = some (.string z1.x.cs) := by rw [HoX.out.cellAt 3 (by decide)]; rfl
          have d4 : wr.cell? ⟨g, 4, none⟩ = some (.int .i64 z1.x.p) := by rw [HoX.out.cellAt 4 (by decide)]; rfl
          have e1 : ∀ {w'}, Below wr.heap.size wr w' → Below wr.heap.size wr w' ∧ (∀ i, w'.cell? ⟨g, i, none⟩ = wr.cell? ⟨g, i, none⟩) ∧ (∀ i, w'.cell? ⟨b1, i, none⟩ = wr.cell? ⟨b1, i, none⟩) := fun hb => ⟨hb, keepC hb g hgl, keepC hb b1 hb2⟩
          have HC := Lib.hid hC; clear hC
          have Hpz := Lib.hid hpz; clear hpz
          have Hx2 := Lib.hid hx2; clear hx2
          clear hz1 hz2 hgl
          go_wp2_with fail
          refine wp_region_held_drew (S := fun w' => Below wr.heap.size wr w' ∧ (∀ i, w'.cell? ⟨g, i, none⟩ = wr.cell? ⟨g, i, none⟩) ∧ (∀ i, w'.cell? ⟨b1, i, none⟩ = wr.cell? ⟨b1, i, none⟩)) (by kernel_rfl) (e1 (Below.refl _ _).drew) (fun hHeld => ?_)
          (first
            | (refine wpAnyH_take (i := 0) (v := ?_) rfl (by kernel_rfl) (by kernel_rfl) (by kernel_rfl) (fun _ _ _ h => h) (Or.inl ⟨by rfl, ?_⟩) (by assumption) ?_
               rotate_left
               focus (intro wq hSq; (try dsimp only at hSq); go_simp; (try (with_reducible rfl)); done))
            | (refine wpAnyH_take (i := 0) (v := undef) rfl (by kernel_rfl) (by kernel_rfl) (by kernel_rfl) (fun _ _ _ h => h) (Or.inr ⟨by rfl, rfl⟩) (by assumption) ?_)
            | fail "take 0")
          try simp only [Act.put, List.setIfInBounds_toArray, List.set_cons_zero, List.set_cons_succ, List.getElem_toArray, List.getElem_cons_zero]
          (first
            | (refine wpAnyH_take (i := 1) (v := ?_) rfl (by kernel_rfl) (by kernel_rfl) (by kernel_rfl) (fun _ _ _ h => h) (Or.inl ⟨by rfl, ?_⟩) (by assumption) ?_
               rotate_left
               focus (intro wq hSq; (try dsimp only at hSq); go_simp; (try (with_reducible rfl)); done))
            | (refine wpAnyH_take (i := 1) (v := undef) rfl (by kernel_rfl) (by kernel_rfl) (by kernel_rfl) (fun _ _ _ h => h) (Or.inr ⟨by rfl, rfl⟩) (by assumption) ?_)
            | fail "take 1")
          try simp only [Act.put, List.setIfInBounds_toArray, List.set_cons_zero, List.set_cons_succ, List.getElem_toArray, List.getElem_cons_zero, List.getElem_cons_succ]
          (first
            | (refine wpAnyH_take (i := 2) (v := ?_) rfl (by kernel_rfl) (by kernel_rfl) (by kernel_rfl) (fun _ _ _ h => h) (Or.inl ⟨by rfl, ?_⟩) (by assumption) ?_
               rotate_left
               focus (intro wq hSq; (try dsimp only at hSq); go_simp; (try (with_reducible rfl)); done))
            | (refine wpAnyH_take (i := 2) (v := undef) rfl (by kernel_rfl) (by kernel_rfl) (by kernel_rfl) (fun _ _ _ h => h) (Or.inr ⟨by rfl, rfl⟩) (by assumption) ?_)
            | fail "take 2")
          try simp only [Act.put, List.setIfInBounds_toArray, List.set_cons_zero, List.set_cons_succ, List.getElem_toArray, List.getElem_cons_zero, List.getElem_cons_succ]
          (first
            | (refine wpAnyH_take (i := 3) (v := ?_) rfl (by kernel_rfl) (by kernel_rfl) (by kernel_rfl) (fun _ _ _ h => h) (Or.inl ⟨by rfl, ?_⟩) (by assumption) ?_
               rotate_left
               focus (intro wq hSq; (try dsimp only at hSq); go_simp; (try (with_reducible rfl)); done))
            | (refine wpAnyH_take (i := 3) (v := undef) rfl (by kernel_rfl) (by kernel_rfl) (by kernel_rfl) (fun _ _ _ h => h) (Or.inr ⟨by rfl, rfl⟩) (by assumption) ?_)
            | fail "take 3")
          try simp only [Act.put, List.setIfInBounds_toArray, List.set_cons_zero, List.set_cons_succ, List.getElem_toArray, List.getElem_cons_zero, List.getElem_cons_succ]
          (first
            | (refine wpAnyH_take (i := 4) (v := ?_) rfl (by kernel_rfl) (by kernel_rfl) (by kernel_rfl) (fun _ _ _ h => h) (Or.inl ⟨by rfl, ?_⟩) (by assumption) ?_
               rotate_left
               focus (intro wq hSq; (try dsimp only at hSq); go_simp; (try (with_reducible rfl)); done))
            | (refine wpAnyH_take (i := 4) (v := undef) rfl (by kernel_rfl) (by kernel_rfl) (by kernel_rfl) (fun _ _ _ h => h) (Or.inr ⟨by rfl, rfl⟩) (by assumption) ?_)
            | fail "take 4")
          try simp only [Act.put, List.setIfInBounds_toArray, List.set_cons_zero, List.set_cons_succ, List.getElem_toArray, List.getElem_cons_zero, List.getElem_cons_succ]
          (first
            | (refine wpAnyH_take (i := 5) (v := ?_) rfl (by kernel_rfl) (by kernel_rfl) (by kernel_rfl) (fun _ _ _ h => h) (Or.inl ⟨by rfl, ?_⟩) (by assumption) ?_
               rotate_left
               focus (intro wq hSq; (try dsimp only at hSq); go_simp; (try (with_reducible rfl)); done))
            | (refine wpAnyH_take (i := 5) (v := undef) rfl (by kernel_rfl) (by kernel_rfl) (by kernel_rfl) (fun _ _ _ h => h) (Or.inr ⟨by rfl, rfl⟩) (by assumption) ?_)
            | fail "take 5")
          try simp only [Act.put, List.setIfInBounds_toArray, List.set_cons_zero, List.set_cons_succ, List.getElem_toArray, List.getElem_cons_zero, List.getElem_cons_succ]
          refine wpAnyH_ready (rs := [6]) (by kernel_rfl) (by simp) ?_
          refine AllReadyH.cons (o := _) rfl (fun K hK => ?_) AllReadyH.nil
          go_simp
          refine (HC.out _ (Below.refl _ _).drew).mono ?_; rintro e w9 ⟨rfl, hb9'⟩; have hb9 : Below wr.heap.size wr w9 := (Below.refl _ _).drew.trans hb9'
          refine hK.out _ _ ?_ (fun hHeld => ?_)
          · exact e1 hb9
          clear hK K
          try simp only [Act.put, List.setIfInBounds_toArray, List.set_cons_zero, List.set_cons_succ, List.getElem_toArray, List.getElem_cons_zero, List.getElem_cons_succ]
          refine wpAnyH_done (by kernel_rfl) ?_ _
          have HN := Lib.hid (HN.out.next hb9)
          have HoX := Lib.hid (own_next HoX.out hb9)
          have hbw := hbw.trans (hb9.mono hbw.size)
          clear hHeld hb9 hb9' HC e1 d0 d1 d2 d3 d4 c0 c1 c2 c3 c4 hb2
          obtain ⟨wr, hwe⟩ : ∃ z, z = w9 := ⟨w9, rfl⟩
          subst hwe
          cases hpp : p k j
          · have hrn := row_no (p := p) hpp
            have Hrn := Lib.hid hrn; clear hrn
            have Hpp := Lib.hid hpp; clear hpp
            go_wp2_with fail
            go_roundw
            case rel => exact ⟨j + 1, m, A', c', gs, by omega, by omega, by go_num, rfl, Hm, Lib.hid (by rw [Hrn.out]; exact HN.out), HoX, hbw⟩
            case measure => simp [intOf]; omega
          · have hry := row_yes (p := p) hkj hpp
            have hb1 := allP_len p n k
            have hb2 := rowP_len p k j
            have hb3 : k * n ≤ 12 * 12 := Nat.mul_le_mul (by omega) hm
            have hml : m ≤ 200 := by
              have := HN.out.len
              rw [Hm.out, List.length_append] at this
              omega
            clear hb1 hb2 hb3
            have Hry := Lib.hid hry; clear hry
            have Hpp := Lib.hid hpp; clear hpp
            have hown := HN.out.out
            have hlen := HN.out.len
            rw [Hm.out] at hown hlen
            have e63 : m + 1 ≤ maxLen := by unfold maxLen; omega
            have e32 : (m + 1) * 24 ≤ 140737488355328 := by omega
            have hS : Sl ((wr.alloc (.cells #[.int .i64 (k : Int), .int .i64 (j : Int)] 2)).alloc (.cells #[prV wr.heap.size] 28)) (wr.heap.size + 1 + 1) 1 (some ⟨wr.heap.size + 1, 0, none⟩) 1 (prC wr.heap.size) := by
              have := Sl.new (wr.alloc (.cells #[.int .i64 (k : Int), .int .i64 (j : Int)] 2)) 28 (prC wr.heap.size) 1 1 rfl
              rwa [show (wr.alloc (.cells #[.int .i64 (k : Int), .int .i64 (j : Int)] 2)).heap.size = wr.heap.size + 1 by simp] at this
            have hle : (w).heap.size ≤ ((wr.alloc (.cells #[.int .i64 (k : Int), .int .i64 (j : Int)] 2)).alloc (.cells #[prV wr.heap.size] 28)).heap.size := le_alloc (le_alloc hbw.size _) _
            have E63 := Lib.hid e63; clear e63
            have E32 := Lib.hid e32; clear e32
            have HS := Lib.hid hS; clear hS
            have Hlen := Lib.hid hlen; clear hlen
            have Hle := Lib.hid hle; clear hle
            go_wp2_with (at_builtin; refine wpl_append _ rfl (.tmp 32) (.tmp 36) _ rfl (w).heap.size 28 q0 _ 1 24 Tryz.underlying24 hq hy0 hy1 hy2 rfl (by omega) _ m _ rfl ((hown.alloc _).alloc _) (wr.heap.size + 1 + 1) (some ⟨wr.heap.size + 1, 0, none⟩) 1 1 (prC wr.heap.size) rfl HS.out (prC_one _) E63.out E32.out Hle.out ?_; intro v6 w6 ho6 hg6 hat6)
            have hNp := HN.out.push ((k : Int), (j : Int)) (w3 := w6) (v3 := v6) hbw.size hg6 (by rw [Hm.out]; exact ho6)
            have hbp : Below (w).heap.size w w6 := ((hbw.alloc hbw.size _).alloc (le_alloc hbw.size _) _).grown hg6 Hle.out fun g hg => (hown.lt g hg).1
            obtain ⟨A6, c6, rfl⟩ := own_slice ho6
            have hlp : (gs ++ [wr.heap.size]).length = m + 1 := by rw [List.length_append, Hm.out]; rfl
            have hoX6 := own_grown ((HoX.out.alloc _).alloc _) hg6 (own_ne HoX.out hown (by decide))
            have Hlp := Lib.hid hlp; clear hlp
            have HNp := Lib.hid hNp; clear hNp
            clear ho6 hg6 hat6 hown
            go_roundw
            case rel => exact ⟨j + 1, m + 1, A6, c6, _, by omega, by omega, by go_num, rfl, Hlp, Lib.hid (by rw [Hry.out, ← List.append_assoc]; exact HNp.out), Lib.hid hoX6, hbp⟩
            case measure => simp [intOf]; omega
        · obtain rfl : j = n := by omega
          have han := allP_next p j k
          have Han := Lib.hid han; clear han
          go_wp2_with fail
          go_roundw
          case rel => exact ⟨k + 1, m, A', c', gs, by omega, by go_num, rfl, Hm, Lib.hid (by rw [Han.out]; exact HN.out), hbw⟩
          case measure => simp [intOf]; omega
    · obtain rfl : k = n := by omega
      have hN := HN.out
      have HNf := Lib.hid hN; clear hN
      go_wp2_with fail
      go_ret
      exact ⟨A', m, c', gs, rfl, Hm.out, HNf.out, hbw⟩
end Go.Proofs.YtgibbhipjpbdfaaGreat
