/- DdB: several of my texts in one. -/
import Derived.Test.YtejndpoebohhaaaGreatBase
import Derived.ProofKit
import Derived.OpenShut
import Derived.ShutString
import Derived.ChangeOld
import Derived.Deep.Slices
import Derived.Deep.Fields
import Derived.Lib.SmallJoins
import Derived.Test.YtejndpoebohhaaaGreatChLaw
import Derived.Test.YtejndpoebohhaaaGreatChC
import Derived.Test.YtejndpoebohhaaaGreatDdA
import Derived.Test.YtejndpoebohhaaaGreatDdV
import Derived.Test.YtejndpoebohhaaaGreatDdS
/- From what the row's reader gives of an argument to the words of Base. No program is named here. -/
namespace Go.Proofs.YtejndpoebohhaaaGreat
open Go.RowKit Go.ChangeShapes Go.WideShapes Go.Deep

theorem choose_list {α : Type} (R : Nat → α → Prop) : ∀ n, (∀ i, i < n → ∃ x, R i x) → ∃ xs : List α, xs.length = n ∧ ∀ i x, xs[i]? = some x → R i x
  | 0, _ => ⟨[], rfl, fun i x h => by simp at h⟩
  | n + 1, h => by
    obtain ⟨xs, hl, hx⟩ := choose_list R n (fun i hi => h i (by omega))
    obtain ⟨y, hy⟩ := h n (by omega)
    refine ⟨xs ++ [y], by simp [hl], fun i x hi => ?_⟩
    by_cases hlt : i < n
    · rw [List.getElem?_append_left (by omega)] at hi; exact hx i x hi
    · have hil : i < (xs ++ [y]).length := (List.getElem?_eq_some_iff.1 hi).1
      simp [hl] at hil
      obtain rfl : i = n := by omega
      rw [List.getElem?_append_right (by omega)] at hi
      simp [hl] at hi
      subst hi; exact hy

section
variable {H : Type} {en : TypeId × Value → H} {P : Program} {w : World} {base : Nat} {spare : Nat → Bool} {held : Bool}
/-- Field i of a struct that the reader read, at its own cells. -/
theorem struct_field {t : TypeId} {fs : Array Field} {fuel : Nat} {cs : List Value} {x : DataW H × List MemPlace} (ht : P.underlying t = some (.struct fs)) (h : DataW.trod en P w base spare held fuel t cs = some x)
    (i : Nat) (f : Field) (hf : fs[i]? = some f) (k : Nat) (hk : P.cellsOf f.type = k) (cs' : List Value) (hcs : (cs.drop f.offset).take k = cs') : ∃ n y, DataW.trod en P w base spare held n f.type cs' = some y := by
  obtain ⟨xs, n, _, _, _, hl, hg⟩ := DataW.trod_struct ht h
  have h1 := hg i f hf
  rw [hk, hcs] at h1
  have hi : i < xs.length := by rw [hl]; exact (Array.getElem?_eq_some_iff.1 hf).1
  exact ⟨n, _, h1.trans (List.getElem?_eq_getElem hi)⟩
theorem struct_len {t : TypeId} {fs : Array Field} {fuel : Nat} {cs : List Value} {x : DataW H × List MemPlace} (ht : P.underlying t = some (.struct fs)) (h : DataW.trod en P w base spare held fuel t cs = some x) (k : Nat) (hk : P.cellsOf t = k) : cs.length = k := by
  obtain ⟨xs, n, _, _, hl, _⟩ := DataW.trod_struct ht h
  rw [hl, hk]
theorem open_Sl {α : Type} (enc : α → List Value) (sz : Nat) (hsz : ∀ x, (enc x).length = sz) (hs : 0 < sz) (ok : α → Prop) {t e : TypeId} {fuel : Nat} {A : Option Addr} {n c : Nat} {x : DataW H × List MemPlace}
    (ht : P.underlying t = some (.slice e)) (hC : P.cellsOf e = sz) (hE : ∀ m cs y, DataW.trod en P w base spare held m e cs = some y → ∃ a, cs = enc a ∧ ok a)
    (h : DataW.trod en P w base spare held fuel t [.slice A n c] = some x) : n ≤ maxLen ∧ ∃ xs : List α, Sl w w.heap.size sz A n (xs.flatMap enc) ∧ ∀ x ∈ xs, ok x := by
  rcases open_slice ht h with ⟨hcs, _⟩ | ⟨a, len, cap, m, fu, D, Pl, hcs, hb, hl, hm, hmm, hx, hi⟩
  · simp at hcs; obtain ⟨rfl, rfl, rfl⟩ := hcs
    exact ⟨by simp [maxLen], [], Sl.none_, by simp⟩
  · simp at hcs; obtain ⟨rfl, rfl, rfl⟩ := hcs
    have hnm : n ≤ m := by rw [hmm]; split <;> omega
    obtain ⟨xs, hxl, hxs⟩ := choose_list (fun i a' => w.cells? base (a.add (i * sz)) sz = some (enc a') ∧ ok a') n (fun i hin => by
      obtain ⟨cs, hc, htr⟩ := hi i (by omega)
      obtain ⟨a', rfl, hok⟩ := hE _ _ _ htr
      rw [hC] at hc
      exact ⟨a', hc, hok⟩)
    refine ⟨by omega, xs, ⟨by rw [flat_len enc sz hsz, hxl], fun hn => ?_⟩, fun x hx => ?_⟩
    · have h0 := (hxs 0 _ (List.getElem?_eq_getElem (by omega))).1
      obtain ⟨_, hcl, hat⟩ := World.cells?_some h0
      have hc0 := hat 0 hs
      rw [List.getElem?_eq_getElem (by rw [hcl]; exact hs)] at hc0
      have hblk := World.block_lt_of_cell? w _ hc0
      have hspot := World.cell?_spot hc0
      have hadd : ∀ j, a.add j = ⟨a.block, a.off + j, none⟩ := by
        have hs0 : a.spot = none := by simpa [Addr.add] using hspot
        intro j; unfold Addr.add
        by_cases hj : j = 0
        · subst hj; cases a; simp_all
        · simp [hj]
      refine ⟨a.block, a.off, ?_, by simpa [hadd, Addr.add] using hblk, fun j u hu => ?_⟩
      · have := hadd 0; simp [Addr.add] at this; rw [← this]
      · have hjl : j < n * sz := by
          have := (List.getElem?_eq_some_iff.1 hu).1
          rw [flat_len enc sz hsz, hxl] at this; exact this
        have hk : j / sz < n := (Nat.div_lt_iff_lt_mul hs).2 hjl
        have hx := List.getElem?_eq_getElem (l := xs) (i := j / sz) (by omega)
        obtain ⟨_, _, hat⟩ := World.cells?_some (hxs (j / sz) _ hx).1
        have hmod := Nat.mod_lt j hs
        have hj' := hat (j % sz) hmod
        have e1 : j / sz * sz + j % sz = j := Nat.div_add_mod' j sz
        have e2 := flat_at enc sz hsz xs (j / sz) (j % sz) _ hx hmod
        rw [e1] at e2
        have e3 : (⟨a.block, a.off + j / sz * sz, none⟩ : Addr).add (j % sz) = ⟨a.block, a.off + j, none⟩ := by
          unfold Addr.add
          by_cases h0 : j % sz = 0
          · rw [if_pos h0]; rw [h0, Nat.add_zero] at e1; simp
          · rw [if_neg h0]; simp; omega
        rw [hadd, e3] at hj'
        rw [hj', ← e2, hu]
    · obtain ⟨i, hi'⟩ := List.mem_iff_getElem?.1 hx
      exact (hxs i x hi').2
end
end Go.Proofs.YtejndpoebohhaaaGreat
/- What the reader gives of a Character argument. -/
namespace Go.Proofs.YtejndpoebohhaaaGreat
open Go.ChangeShapes Go.WideShapes Go.ChangeAt Go.RowKit Go.Deep
theorem int_trod {H : Type} {en : TypeId × Value → H} {w : World} {base : Nat} {spare : Nat → Bool} {held : Bool} (m : Nat) (cs : List Value) (y : DataW H × List MemPlace) (h : DataW.trod en Tryz.prog w base spare held m 2 cs = some y) :
    ∃ s : Int, cs = intC s ∧ True := by
  obtain ⟨x, e0, _, _⟩ := DataW.trod_int Tryz.underlying2 h
  exact ⟨x, e0, trivial⟩
theorem character_trod {H : Type} {en : TypeId × Value → H} {w : World} {base : Nat} {spare : Nat → Bool} {held : Bool} (m : Nat) (cs : List Value) (y : DataW H × List MemPlace) (h : DataW.trod en Tryz.prog w base spare held m 48 cs = some y) :
    ∃ k A n c l s p, ∃ gs : List Int, cs = [.int .i64 k, .slice A n c, .string l, .string s, .int .i64 p] ∧ Sl w w.heap.size 1 A n (gs.flatMap intC) ∧ n ≤ maxLen ∧ l.size ≤ maxLen ∧ s.size ≤ maxLen := by
  have hl := struct_len Tryz.underlying48 h 5 (by kernel_rfl)
  match cs, hl with
  | [a, b, c, d, f], _ =>
    obtain ⟨_, _, g0⟩ := struct_field Tryz.underlying48 h 0 _ rfl 1 (by kernel_rfl) [a] rfl
    obtain ⟨_, _, g1⟩ := struct_field Tryz.underlying48 h 1 _ rfl 1 (by kernel_rfl) [b] rfl
    obtain ⟨_, _, g2⟩ := struct_field Tryz.underlying48 h 2 _ rfl 1 (by kernel_rfl) [c] rfl
    obtain ⟨_, _, g3⟩ := struct_field Tryz.underlying48 h 3 _ rfl 1 (by kernel_rfl) [d] rfl
    obtain ⟨_, _, g4⟩ := struct_field Tryz.underlying48 h 4 _ rfl 1 (by kernel_rfl) [f] rfl
    obtain ⟨x0, e0, _, _⟩ := DataW.trod_int Tryz.underlying2 g0
    obtain ⟨x2, e2, _, hx2⟩ := DataW.trod_string Tryz.underlying9 g2
    obtain ⟨x3, e3, _, hx3⟩ := DataW.trod_string Tryz.underlying9 g3
    obtain ⟨x4, e4, _, _⟩ := DataW.trod_int Tryz.underlying2 g4
    simp only [List.cons.injEq, and_true] at e0 e2 e3 e4
    subst e0 e2 e3 e4
    obtain ⟨A, n, cc, rfl⟩ : ∃ A n cc, b = .slice A n cc := by
      rcases open_slice Tryz.underlying23 g1 with ⟨hcs, _⟩ | ⟨a, len, cap, m, fu, D, Pl, hcs, _⟩
      · simp at hcs; exact ⟨_, _, _, hcs⟩
      · simp at hcs; exact ⟨_, _, _, hcs⟩
    obtain ⟨m0, xs, s0, _⟩ := open_Sl intC 1 intC_len (by omega) (fun _ => True) Tryz.underlying23 (by kernel_rfl) int_trod g1
    exact ⟨x0, A, n, cc, x2, x3, x4, xs, rfl, s0, m0, hx2, hx3⟩
end Go.Proofs.YtejndpoebohhaaaGreat
/- IsDistinct: two characters clash in both orders; what a distinct choice is. Plain facts, no program. -/
namespace Go.Proofs.YtejndpoebohhaaaGreat
open Go.RowKit
theorem close1_symm (a b : List (Int × Int)) (i j : Nat) (tol : Int) : close1 a b i j tol = close1 b a j i tol := by
  unfold close1
  cases a[i]? <;> cases b[j]? <;> simp only []
  rename_i x y
  rw [Bool.eq_iff_iff]
  simp only [Bool.and_eq_true, decide_eq_true_eq]
  constructor <;> intro h <;> exact ⟨h.1.symm, by omega, by omega⟩
theorem close_half {a b : List (Int × Int)} {tol : Int} (h : closeB a b tol = true) : closeB b a tol = true := by
  simp only [closeB, Bool.and_eq_true, decide_eq_true_eq, List.any_eq_true, List.mem_range] at h ⊢
  obtain ⟨hl, f, hf, ht⟩ := h
  obtain ⟨n, hn⟩ : ∃ n, a.length = n := ⟨_, rfl⟩
  have hb : b.length = n := by omega
  rw [hb] at hf
  refine ⟨hl.symm, (n - f) % n, by rw [hn]; exact Nat.mod_lt _ (by omega), ?_⟩
  rw [turnB, allB_iff] at ht ⊢
  intro j hj
  rw [hb] at hj
  rw [hn]
  have hi : ((n - f) % n + j) % n < n := Nat.mod_lt _ (by omega)
  have h1 := ht _ (by rw [hn]; exact hi)
  have e : (f + ((n - f) % n + j) % n) % n = j := by
    rw [Nat.add_mod_mod, Nat.add_left_comm, Nat.mod_add_mod, ← Nat.add_assoc, Nat.sub_add_cancel (by omega), Nat.add_mod_left, Nat.mod_eq_of_lt hj]
  rw [hb, e] at h1
  rw [close1_symm]
  exact h1
theorem close_symm (a b : List (Int × Int)) (tol : Int) : closeB a b tol = closeB b a tol := by
  rw [Bool.eq_iff_iff]; exact ⟨close_half, close_half⟩
theorem com_half {x y : Ch} (h : comB x y = true) : comB y x = true := by
  obtain ⟨i, hi, h1⟩ := List.any_eq_true.1 h
  have hi := List.mem_range.1 hi
  rw [colAtB, hasC, ext_one _ _ hi] at h1
  simp only [decide_eq_true_eq] at h1
  obtain ⟨j, hj⟩ := List.getElem?_of_mem h1
  have hj1 := (List.getElem?_eq_some_iff.1 hj).1
  rw [toL_len] at hj1
  refine List.any_eq_true.2 ⟨j, List.mem_range.2 hj1, ?_⟩
  rw [colAtB, hasC, ext_one _ _ hj1]
  simp only [decide_eq_true_eq]
  rw [toL] at hj ⊢
  have e : y.cs.data.toList[j]? = some y.cs[j] := by rw [List.getElem?_eq_getElem (by simpa using hj1)]; rfl
  rw [e] at hj
  rw [Option.some.inj hj]
  have e2 : x.cs.data.toList[i]? = some x.cs[i] := by rw [List.getElem?_eq_getElem (by simpa using hi)]; rfl
  exact List.mem_of_getElem? e2
theorem conf_symm (x y : Ch) (tol : Int) : confV x y tol = confV y x tol := by
  have h1 : comB x y = comB y x := by rw [Bool.eq_iff_iff]; exact ⟨com_half, com_half⟩
  rw [confV, confV, h1, confB, confB, close_symm]
theorem clP_symm (xs : List Ch) (tol : Int) (i j : Nat) : clP xs tol i j = clP xs tol j i := conf_symm _ _ _
def tabB (p : Nat → Nat → Bool) (i j : Nat) : Bool := decide (i = j) || p i j
theorem tab_symm {p : Nat → Nat → Bool} (h : ∀ i j, p i j = p j i) (i j : Nat) : tabB p i j = tabB p j i := by
  rw [tabB, tabB, h i j]
  congr 1
  rw [decide_eq_decide]
  exact eq_comm
def atI (ch : List Int) (a : Int) : Nat := (ch[a.toNat]?.getD 0).toNat
def disK (p : Nat → Nat → Bool) (ch : List Int) (pss : List (List Int)) (k : Nat) : Bool := match pss[k]? with
  | some [a, b] => !(tabB p (atI ch a) (atI ch b))
  | _ => true
def inCh (ch : List Int) (m : Nat) : Bool := ch.all fun x => inB x 0 ((m : Int) - 1)
def disB (pss : List (List Int)) (ch : List Int) (xs : List Ch) (tol : Int) : Bool :=
  pairsB pss ch.length && (xs.all validB && (decide (xs.length ≤ 12) && (inB tol 0 20 && (inCh ch xs.length && allB pss.length (disK (clP xs tol) ch pss)))))
theorem disK_at {p : Nat → Nat → Bool} {ch : List Int} {pss : List (List Int)} {k : Nat} {a b x y : Int} (h : pss[k]? = some [a, b]) (hx : ch[a.toNat]? = some x) (hy : ch[b.toNat]? = some y) : disK p ch pss k = !(tabB p x.toNat y.toNat) := by
  simp only [disK, h, atI, hx, hy, Option.getD_some]
theorem inCh_iff {ch : List Int} {m : Nat} : inCh ch m = true ↔ ∀ x ∈ ch, 0 ≤ x ∧ x ≤ (m : Int) - 1 := by
  rw [inCh, List.all_eq_true]
  exact ⟨fun h x hx => inB_iff.1 (h x hx), fun h x hx => inB_iff.2 (h x hx)⟩
end Go.Proofs.YtejndpoebohhaaaGreat
/- IsDistinct: the program: newChoosing. -/
namespace Go.Proofs.YtejndpoebohhaaaGreat
open Go.RowKit
theorem made_rows (n : Nat) : (madeCells (Value.slice none 0 0).cells (n * 1)).toList = (List.replicate n (⟨none, 0, []⟩ : RowG)).flatMap RowG.cells := by
  rw [Nat.mul_one]
  show (madeCells #[Value.slice none 0 0] n).toList = _
  rw [toList_madeCells_one]
  induction n with
  | zero => rfl
  | succ n ih => rw [List.replicate_succ, List.replicate_succ, List.flatMap_cons, ih]; rfl
theorem rows_set : ∀ (rs : List RowG) (d : Nat) (r : RowG), (rs.flatMap RowG.cells).set d (.slice r.A r.xs.length r.c) = (rs.set d r).flatMap RowG.cells
  | [], d, r => by simp
  | x :: xs, 0, r => by simp
  | x :: xs, d + 1, r => by
    have := rows_set xs d r
    simp only [List.flatMap_cons, List.set_cons_succ, RowG.cells, List.cons_append, List.nil_append] at this ⊢
    rw [this]
abbrev RowG.val (r : RowG) : Value := .slice r.A r.xs.length r.c
/-- The rows of lights before each light, in memory of the call's own. -/
structure Bef (w : World) (base g2 m : Nat) (rs : List RowG) : Prop where
  out : w.ownsRow base 23 1 (.slice (some ⟨g2, 0, none⟩) m m) m (rs.flatMap RowG.cells)
  inn : ∀ (i : Nat) (r : RowG), rs[i]? = some r → w.ownsRow base 2 1 r.val r.xs.length (r.xs.flatMap intC)
  dif : ∀ (i j : Nat) (r r' : RowG), i ≠ j → rs[i]? = some r → rs[j]? = some r' → r.val.ownBlock = none ∨ r.val.ownBlock ≠ r'.val.ownBlock
theorem Bef.next {w w' : World} {base g2 m : Nat} {rs : List RowG} (h : Bef w base g2 m rs) (hb : Below w.heap.size w w') : Bef w' base g2 m rs := ⟨own_next h.out hb, fun i r hr => own_next (h.inn i r hr) hb, h.dif⟩
theorem Bef.len {w : World} {base g2 m : Nat} {rs : List RowG} (h : Bef w base g2 m rs) : rs.length = m := (Sl.of_own h.out).len RowG.cells 1 RowG.cells_len (by omega)
theorem Bef.made {w : World} {base g2 m : Nat} (h : w.ownsRow base 23 1 (.slice (some ⟨g2, 0, none⟩) m m) m (madeCells (Value.slice none 0 0).cells (m * 1)).toList) : Bef w base g2 m (List.replicate m ⟨none, 0, []⟩) := by
  rw [made_rows] at h
  refine ⟨h, fun i r hr => ?_, fun i j r r' _ hr _ => .inl ?_⟩
  · have := List.mem_of_getElem? hr
    rw [List.mem_replicate] at this
    rw [this.2]
    exact ⟨rfl, .inl ⟨rfl, rfl⟩⟩
  · have := List.mem_of_getElem? hr
    rw [List.mem_replicate] at this
    rw [this.2]
    rfl
/-- One number is appended to a row, and the row stored. -/
theorem Bef.push {w w0 w4 : World} {base g2 m d : Nat} {rs : List RowG} {r : RowG} {a : Int} {A4 : Option Addr} {c4 : Nat} (h : Bef w base g2 m rs) (hr : rs[d]? = some r) (hb : Below w.heap.size w w0) (hlt : w.heap.size ≤ w0.heap.size)
    (hg : w0.grownBy w4 r.val.ownBlock) (ho : w4.ownsRow base 2 1 (.slice A4 (r.xs.length + 1) c4) (r.xs.length + 1) (r.xs.flatMap intC ++ intC a)) (hat : (Value.slice A4 (r.xs.length + 1) c4).ownBlock = r.val.ownBlock ∨ (Value.slice A4 (r.xs.length + 1) c4).ownBlock = some w0.heap.size) :
    Bef (w4.setCell ⟨g2, d, none⟩ (.slice A4 (r.xs.length + 1) c4)) base g2 m (rs.set d ⟨A4, c4, r.xs ++ [a]⟩) := by
  have h0 := h.next hb
  have hv : (⟨A4, c4, r.xs ++ [a]⟩ : RowG).val = .slice A4 (r.xs.length + 1) c4 := by simp [RowG.val]
  have hne := own_ne h0.out (h0.inn d r hr) (by decide)
  have out4 := own_grown h0.out hg hne
  have s0 := out4.stored d (.slice A4 (r.xs.length + 1) c4)
  have hd := (List.getElem?_eq_some_iff.1 hr).1
  have hold : ∀ (i : Nat) (r' : RowG) (k : Nat), rs[i]? = some r' → r'.val.ownBlock = some k → k < w.heap.size := fun i r' k hi hk => ((h.inn i r' hi).lt k hk).2
  refine ⟨?_, fun i q hq => ?_, fun i j q q' hij hq hq' => ?_⟩
  · have := s0.1
    rw [← hv, rows_set] at this
    rw [hv] at this
    exact this
  · by_cases hid : i = d
    · subst hid
      rw [List.getElem?_set_self hd] at hq
      injection hq with hq
      subst hq
      have h5 := own_grown ho s0.2 (own_ne ho out4 (by decide))
      rw [hv]
      have e : (r.xs ++ [a]).flatMap intC = r.xs.flatMap intC ++ intC a := by simp
      rw [e, List.length_append]
      exact h5
    · rw [List.getElem?_set_ne (Ne.symm hid)] at hq
      have h5 := own_grown (h0.inn i q hq) hg (h.dif i d q r hid hq hr)
      exact own_grown h5 s0.2 (own_ne h5 out4 (by decide))
  · by_cases hid : i = d
    · subst hid
      rw [List.getElem?_set_self hd] at hq
      injection hq with hq
      subst hq
      rw [List.getElem?_set_ne hij] at hq'
      rw [hv]
      rcases hat with e | e
      · rw [e]; exact h.dif i j r q' hij hr hq'
      · right
        rw [e]
        intro e2
        have := hold j q' _ hq' e2.symm
        omega
    · rw [List.getElem?_set_ne (Ne.symm hid)] at hq
      by_cases hjd : j = d
      · subst hjd
        rw [List.getElem?_set_self hd] at hq'
        injection hq' with hq'
        subst hq'
        rw [hv]
        rcases hat with e | e
        · rw [e]; exact h.dif i j q r hij hq hr
        · rw [e]
          cases hk : q.val.ownBlock with
          | none => exact .inl rfl
          | some k =>
            right
            intro e2
            injection e2 with e2
            have := hold i q _ hq hk
            omega
      · rw [List.getElem?_set_ne (Ne.symm hjd)] at hq'
        exact h.dif i j q q' hij hq hq'
/-! The table of clashes in the struct's 150 cells. -/
def TabIs (ys : List Value) (T : Nat → Nat → Bool) : Prop := ∀ i j, i < 12 → j < 12 → ys[3 + i * 12 + j]? = some (.bool (T i j))
theorem tab_set {ys : List Value} {T : Nat → Nat → Bool} {a b : Nat} (h : TabIs ys T) (ha : a < 12) (hb : b < 12) : TabIs (ys.set (3 + a * 12 + b) (.bool true)) fun i j => (decide (i = a ∧ j = b)) || T i j := by
  intro i j hi hj
  by_cases e : i = a ∧ j = b
  · obtain ⟨rfl, rfl⟩ := e
    have := (List.getElem?_eq_some_iff.1 (h i j hi hj)).1
    rw [List.getElem?_set_self this]
    simp
  · rw [List.getElem?_set_ne (by omega), h i j hi hj]
    dsimp only
    rw [decide_eq_false e, Bool.false_or]
abbrev Chz (w : World) (base g : Nat) (ys : List Value) : Prop := w.ownsRow base 66 150 (.slice (some ⟨g, 0, none⟩) 1 1) 1 ys
theorem mem_allP {p : Nat → Nat → Bool} {n : Nat} : ∀ (i : Nat) (q : Int × Int), q ∈ allP p n i ↔ ∃ a b : Nat, q = ((a : Int), (b : Int)) ∧ a < i ∧ a < b ∧ b < n ∧ p a b = true := by
  intro i q
  simp only [allP, List.mem_flatMap, List.mem_range, rowP, List.mem_map, List.mem_filter, Bool.and_eq_true, decide_eq_true_eq]
  constructor
  · rintro ⟨a, ha, b, ⟨hb, hab, hp⟩, rfl⟩
    exact ⟨a, b, rfl, ha, hab, hb, hp⟩
  · rintro ⟨a, b, rfl, ha, hab, hb, hp⟩
    exact ⟨a, ha, b, ⟨hb, hab, hp⟩, rfl⟩
/-- What the table holds behind some pairs. -/
def tabL (n : Nat) (L : List (Int × Int)) (i j : Nat) : Bool := decide (i = j ∧ i < n) || L.any fun q => (decide (q = ((i : Int), (j : Int))) || decide (q = ((j : Int), (i : Int))))
theorem tab_all {p : Nat → Nat → Bool} {n : Nat} (hp : ∀ i j, p i j = p j i) {i j : Nat} (hi : i < n) (hj : j < n) : tabL n (allP p n n) i j = tabB p i j := by
  unfold tabL tabB
  by_cases hij : i = j
  · subst hij
    rw [decide_eq_true ⟨rfl, hi⟩, decide_eq_true rfl]; rfl
  · rw [decide_eq_false (fun h => hij h.1), decide_eq_false hij, Bool.false_or, Bool.false_or, Bool.eq_iff_iff, List.any_eq_true]
    constructor
    · rintro ⟨q, hq, h⟩
      obtain ⟨a, b, rfl, h1, h2, h3, h4⟩ := (mem_allP n q).1 hq
      simp only [Bool.or_eq_true, decide_eq_true_eq, Prod.mk.injEq] at h
      rcases h with ⟨e1, e2⟩ | ⟨e1, e2⟩
      · obtain rfl : a = i := by omega
        obtain rfl : b = j := by omega
        exact h4
      · obtain rfl : a = j := by omega
        obtain rfl : b = i := by omega
        rw [hp]; exact h4
    · intro h
      rcases Nat.lt_or_gt_of_ne hij with h1 | h1
      · exact ⟨((i : Int), (j : Int)), (mem_allP n _).2 ⟨i, j, rfl, hi, h1, hj, h⟩, by simp⟩
      · exact ⟨((j : Int), (i : Int)), (mem_allP n _).2 ⟨j, i, rfl, hj, h1, hi, by rw [hp]; exact h⟩, by simp⟩
theorem tab_next {n k : Nat} {L : List (Int × Int)} {a b : Nat} (h : L[k]? = some ((a : Int), (b : Int))) (i j : Nat) : tabL n (L.take (k + 1)) i j = (decide (i = b ∧ j = a) || (decide (i = a ∧ j = b) || tabL n (L.take k) i j)) := by
  have e1 : decide (((a : Int), (b : Int)) = ((i : Int), (j : Int))) = decide (i = a ∧ j = b) := by
    rw [decide_eq_decide]; simp only [Prod.mk.injEq]; omega
  have e2 : decide (((a : Int), (b : Int)) = ((j : Int), (i : Int))) = decide (i = b ∧ j = a) := by
    rw [decide_eq_decide]; simp only [Prod.mk.injEq]; omega
  rw [tabL, List.take_add_one, h, List.any_append]
  simp only [Option.toList_some, List.any_cons, List.any_nil, Bool.or_false, e1, e2, tabL]
  cases decide (i = b ∧ j = a) <;> cases decide (i = a ∧ j = b) <;> simp
end Go.Proofs.YtejndpoebohhaaaGreat
/- IsDistinct: the program: newChoosing, the walk. -/
namespace Go.Proofs.YtejndpoebohhaaaGreat
open Go.RowKit
theorem pairs_row {w : World} {A : Option Addr} {n : Nat} {rs : List RowG} {m : Int} (h : RS w A n rs) (hp : pairsB (rs.map RowG.xs) m = true) (k : Nat) (hk : k < n) :
    ∃ b off r g o, ∃ i j : Nat, A = some ⟨b, off, none⟩ ∧ b < w.heap.size ∧ rs[k]? = some r ∧ r.xs = [(i : Int), (j : Int)] ∧ i < j ∧ (j : Int) ≤ m - 1 ∧ w.cell? ⟨b, off + k, none⟩ = some (.slice (some ⟨g, o, none⟩) 2 r.c) ∧ g < w.heap.size ∧ w.cell? ⟨g, o, none⟩ = some (.int .i64 (i : Int)) ∧ w.cell? ⟨g, o + 1, none⟩ = some (.int .i64 (j : Int)) := by
  obtain ⟨b, off, r, hA, hb, hr, s0, _, qc⟩ := h.get k hk
  have hrx : (rs.map RowG.xs)[k]? = some r.xs := by rw [List.getElem?_map, hr]; rfl
  obtain ⟨a, d, he, ha0, had, hdn⟩ := pairs_two hp hrx
  obtain ⟨i, rfl⟩ := Int.eq_ofNat_of_zero_le ha0
  obtain ⟨j, rfl⟩ := Int.eq_ofNat_of_zero_le (show 0 ≤ d by omega)
  rw [he] at s0 qc
  obtain ⟨g, o, hgA, hgl, ca, cd⟩ := two_cells s0 rfl
  rw [hgA, show ([(i : Int), (j : Int)] : List Int).length = 2 from rfl] at qc
  exact ⟨b, off, r, g, o, i, j, hA, hb, hr, he, by omega, hdn, qc, hgl, ca, cd⟩
theorem nn_sn {w : World} {base c n : Nat} {A : Option Addr} {gs : List Nat} {xs : List (Int × Int)} (h : NN w base (.slice A n c) gs xs) (hn : gs.length = n) : SN w w.heap.size A gs xs := by
  subst hn
  exact h.sn
set_option maxRecDepth 100000 in
set_option maxHeartbeats 4000000 in
theorem newChoosing_c (A0 : Option Addr) (n0 c0 : Nat) (rs : List RowG) (m : Nat) (A : Option Addr) (n c : Nat) (zs : List ChG) (tol : Int) (w : World) (h0 : RS w A0 n0 rs) (m0 : n0 ≤ 1048576)
    (hp : pairsB (rs.map RowG.xs) m = true) (h : ChS w A n zs) (hv : (zs.map ChG.x).all validB = true) (h12 : n ≤ 12) :
    Calls Tryz.prog 30 #[.slice A0 n0 c0, .int .i64 m, .slice A n c, .int .i64 tol] w fun e w' => ∃ (g : Nat) (ys : List Value) (T : Nat → Nat → Bool), e = .returned (.pointer (some ⟨g, 0, none⟩)) ∧ Chz w' w.heap.size g ys ∧ TabIs ys T ∧ (∀ i j, i < n → j < n → T i j = tabB (clP (zs.map ChG.x) tol) i j) ∧ Below w.heap.size w w' := by
  obtain ⟨i0, hi, hz0, hz1, hz2⟩ := info_parts drowsInfo
  obtain ⟨p0, hp0, hy0, hy1, hy2⟩ := info_parts intInfo
  have hm24 := (pairs_n hp).2
  have hB : i0.bytes * m ≤ 281474976710656 := by rw [hz2]; omega
  have hM : m ≤ maxLen := by unfold maxLen; omega
  have hCl : ∀ w1, Below w.heap.size w w1 → Calls Tryz.prog 48 #[.slice A n c, .int .i64 tol] w1 fun e w' => ∃ A' q c' gs, e = .returned (.slice A' q c') ∧ gs.length = q ∧ NN w' w1.heap.size (.slice A' q c') gs (allP (clP (zs.map ChG.x) tol) n n) ∧ Below w1.heap.size w1 w' := fun w1 hb => clashes_c A n c zs tol w1 (h.next hb) h12 hv
  have hsym := clP_symm (zs.map ChG.x) tol
  obtain ⟨p, hpe⟩ : ∃ p, clP (zs.map ChG.x) tol = p := ⟨_, rfl⟩
  rw [hpe]
  rw [hpe] at hCl hsym
  clear hpe h hv
  have HB := Lib.hid hB; clear hB
  have HM := Lib.hid hM; clear hM
  have HCl := Lib.hid hCl; clear hCl
  have HSy := Lib.hid hsym; clear hsym
  have HP := Lib.hid hp; clear hp
  have H0 := Lib.hid h0; clear h0
  go_enter Tryz.func30, Tryz.ntmps30
  go_wp2_with (at_make; refine wpList_make_full _ rfl _ _ _ rfl w.heap.size 23 i0 _ 1 Tryz.underlying22 hi hz0 hz1 _ _ _ _ m rfl rfl rfl rfl HB.out HM.out (Nat.le_refl _) ?_; intro w1 hown hgr)
  have hb1 : Below w.heap.size w w1 := (Below.refl _ _).grown hgr (Nat.le_refl _) (by simp)
  have hg1 : w.heap.size < w1.heap.size := (hown.lt _ rfl).2
  clear hgr
  obtain ⟨ys0, hys0⟩ : ∃ ys0, ys0 = [Value.int .i64 (m : Int), .int .i64 (n : Int), .slice (some ⟨w.heap.size, 0, none⟩) m m] ++ (List.replicate 144 (Value.bool false) ++ [.int .i64 0, .int .i64 0, .slice none 0 0]) := ⟨_, rfl⟩
  go_loopw [24] (fun i wr => ∃ (k : Nat) (rsb : List RowG), k ≤ n0 ∧ i = .int .i64 k ∧ Hid (Bef wr w.heap.size w.heap.size m rsb) ∧ Hid (∀ (t : Nat) (r : RowG), rsb[t]? = some r → r.xs.length ≤ k) ∧ Chz wr w.heap.size w1.heap.size ys0 ∧ Below w.heap.size w wr) (fun i _ => n0 - (intOf i).toNat)
  case atStart =>
    have hbA := (Below.refl w1.heap.size w1).alloc (Nat.le_refl _)
    refine ⟨0, _, Nat.zero_le _, rfl, Lib.hid ((Bef.made hown).next (hbA _)), Lib.hid (fun t r hr => ?_), ?_, hb1.trans ((hbA _).mono hb1.size)⟩
    · have := List.mem_of_getElem? hr
      rw [List.mem_replicate] at this
      rw [this.2]; simp
    · rw [hys0]
      exact lit_own w1 w.heap.size 66 _ 1 150 hb1.size (by decide) rfl
  case round =>
    clear hown hb1
    obtain ⟨k, rsb, hk, rfl, HBf, HLe, hcz, hbw⟩ := hrel
    have k0 : (0 : Int) ≤ (k : Int) := by omega
    by_cases hlt : k < n0
    · have k1 : (k : Int) < (n0 : Int) := by omega
      obtain ⟨b, off, r, gp, o, i, j, rfl, hb, hr, he, hij, hjm, qc, hgp, ca, cd⟩ := pairs_row H0.out HP.out k hlt
      have qcr := (keepC hbw b hb (off + k)).trans qc
      have car := (keepC hbw gp hgp o).trans ca
      have cdr := (keepC hbw gp hgp (o + 1)).trans cd
      obtain ⟨q, hq⟩ : ∃ q, rsb[j]? = some q := ⟨_, List.getElem?_eq_getElem (by rw [HBf.out.len]; omega)⟩
      have c2 : wr.cell? ⟨w1.heap.size, 2, none⟩ = some (.slice (some ⟨w.heap.size, 0, none⟩) m m) := by rw [hcz.cellAt 2 (by omega), hys0]; rfl
      have cq : wr.cell? ⟨w.heap.size, j, none⟩ = some (.slice q.A q.xs.length q.c) := by
        have := HBf.out.out.cellAt j (by omega)
        rw [this]
        have e := flat_at RowG.cells 1 RowG.cells_len rsb j 0 q hq (by decide)
        simpa using e
      have hql := HLe.out j q hq
      have hgw := (HBf.out.out.lt _ rfl).2
      have j0 : (0 : Int) ≤ (j : Int) := by omega
      have j1 : (j : Int) < (m : Int) := by omega
      have i0' : (0 : Int) ≤ (i : Int) := by omega
      have e63 : q.xs.length + 1 ≤ maxLen := by unfold maxLen; omega
      have e32 : (q.xs.length + 1) * 8 ≤ 140737488355328 := by omega
      have hle : w.heap.size ≤ (wr.drew.alloc (.cells #[.int .i64 (i : Int)] 2)).heap.size := le_alloc (le_drew hbw.size) _
      have hle2 : wr.heap.size ≤ (wr.drew.alloc (.cells #[.int .i64 (i : Int)] 2)).heap.size := le_alloc (le_drew (Nat.le_refl _)) _
      have hbD : Below wr.heap.size wr wr.drew := (Below.refl _ _).drew
      have hbA : Below wr.heap.size wr (wr.drew.alloc (.cells #[.int .i64 (i : Int)] 2)) := (Below.refl wr.heap.size wr).drew.alloc (Nat.le_refl _) _
      have hczD := own_next hcz hbD
      have hczA := own_next hcz hbA
      have hqo := own_next (HBf.out.inn j q hq) hbA
      have hS : ∀ W, Below w.heap.size w W → Chz W w.heap.size w1.heap.size ys0 → (W.cell? ⟨gp, o, none⟩ = some (.int .i64 (i : Int)) ∧ W.cell? ⟨gp, o + 1, none⟩ = some (.int .i64 (j : Int)) ∧ W.cell? ⟨w1.heap.size, 2, none⟩ = some (.slice (some ⟨w.heap.size, 0, none⟩) m m)) := fun W hb' hc' => ⟨(keepC hb' gp hgp o).trans ca, (keepC hb' gp hgp (o + 1)).trans cd, by rw [hc'.cellAt 2 (by omega), hys0]; rfl⟩
      have hbwA := hbw.trans (hbA.mono hbw.size)
      have hbwD := hbw.trans (hbD.mono hbw.size)
      clear ca cd qc
      have E63 := Lib.hid e63; clear e63
      have E32 := Lib.hid e32; clear e32
      have HLE := Lib.hid hle; clear hle
      have HLE2 := Lib.hid hle2; clear hle2
      have HQ0 := Lib.hid hqo; clear hqo
      have HS := Lib.hid hS; clear hS
      have Hq := Lib.hid hq; clear hq
      have Hr := Lib.hid hr; clear hr
      have He := Lib.hid he; clear he
      go_wp2_with fail
      refine wp_region_held_drew (S := fun W => W.cell? ⟨gp, o, none⟩ = some (.int .i64 (i : Int)) ∧ W.cell? ⟨gp, o + 1, none⟩ = some (.int .i64 (j : Int)) ∧ W.cell? ⟨w1.heap.size, 2, none⟩ = some (.slice (some ⟨w.heap.size, 0, none⟩) m m)) (by kernel_rfl) (HS.out _ hbwD hczD) (fun hHeld => ?_)
      (first
        | (refine wpAnyH_take (i := 0) (v := ?_) rfl (by kernel_rfl) (by kernel_rfl) (by kernel_rfl) (fun _ _ _ h => h) (Or.inl ⟨by rfl, ?_⟩) (by assumption) ?_
           rotate_left
           focus (intro wq hSq; (try dsimp only at hSq); go_simp; (try (with_reducible rfl)); done))
        | (refine wpAnyH_take (i := 0) (v := undef) rfl (by kernel_rfl) (by kernel_rfl) (by kernel_rfl) (fun _ _ _ h => h) (Or.inr ⟨by rfl, rfl⟩) (by assumption) ?_)
        | fail "take 0")
      try simp only [Act.put, List.setIfInBounds_toArray, List.set_cons_zero, List.set_cons_succ, List.getElem_toArray, List.getElem_cons_zero]
      (first
        | (refine wpAnyH_take (i := 1) (v := ?_) rfl (by kernel_rfl) (by kernel_rfl) (by kernel_rfl) (fun _ _ _ h => h) (Or.inl ⟨by rfl, ?_⟩) (by assumption) ?_
           rotate_left
           focus (intro wq hSq; (try dsimp only at hSq); go_simp; (try (with_reducible rfl)); done))
        | (refine wpAnyH_take (i := 1) (v := undef) rfl (by kernel_rfl) (by kernel_rfl) (by kernel_rfl) (fun _ _ _ h => h) (Or.inr ⟨by rfl, rfl⟩) (by assumption) ?_)
        | fail "take 1")
      try simp only [Act.put, List.setIfInBounds_toArray, List.set_cons_zero, List.set_cons_succ, List.getElem_toArray, List.getElem_cons_zero, List.getElem_cons_succ]
      (first
        | (refine wpAnyH_take (i := 2) (v := ?_) rfl (by kernel_rfl) (by kernel_rfl) (by kernel_rfl) (fun _ _ _ h => h) (Or.inl ⟨by rfl, ?_⟩) (by assumption) ?_
           rotate_left
           focus (intro wq hSq; (try dsimp only at hSq); go_simp; (try (with_reducible rfl)); done))
        | (refine wpAnyH_take (i := 2) (v := undef) rfl (by kernel_rfl) (by kernel_rfl) (by kernel_rfl) (fun _ _ _ h => h) (Or.inr ⟨by rfl, rfl⟩) (by assumption) ?_)
        | fail "take 2")
      try simp only [Act.put, List.setIfInBounds_toArray, List.set_cons_zero, List.set_cons_succ, List.getElem_toArray, List.getElem_cons_zero, List.getElem_cons_succ]
      (first
        | (refine wpAnyH_take (i := 3) (v := ?_) rfl (by kernel_rfl) (by kernel_rfl) (by kernel_rfl) (fun _ _ _ h => h) (Or.inl ⟨by rfl, ?_⟩) (by assumption) ?_
           rotate_left
           focus (intro wq hSq; (try dsimp only at hSq); go_simp; (try (with_reducible rfl)); done))
        | (refine wpAnyH_take (i := 3) (v := undef) rfl (by kernel_rfl) (by kernel_rfl) (by kernel_rfl) (fun _ _ _ h => h) (Or.inr ⟨by rfl, rfl⟩) (by assumption) ?_)
        | fail "take 3")
      try simp only [Act.put, List.setIfInBounds_toArray, List.set_cons_zero, List.set_cons_succ, List.getElem_toArray, List.getElem_cons_zero, List.getElem_cons_succ]
      (first
        | (refine wpAnyH_take (i := 4) (v := ?_) rfl (by kernel_rfl) (by kernel_rfl) (by kernel_rfl) (fun _ _ _ h => h) (Or.inl ⟨by rfl, ?_⟩) (by assumption) ?_
           rotate_left
           focus (intro wq hSq; (try dsimp only at hSq); go_simp; (try (with_reducible rfl)); done))
        | (refine wpAnyH_take (i := 4) (v := undef) rfl (by kernel_rfl) (by kernel_rfl) (by kernel_rfl) (fun _ _ _ h => h) (Or.inr ⟨by rfl, rfl⟩) (by assumption) ?_)
        | fail "take 4")
      try simp only [Act.put, List.setIfInBounds_toArray, List.set_cons_zero, List.set_cons_succ, List.getElem_toArray, List.getElem_cons_zero, List.getElem_cons_succ]
      (first
        | (refine wpAnyH_take (i := 5) (v := ?_) rfl (by kernel_rfl) (by kernel_rfl) (by kernel_rfl) (fun _ _ _ h => h) (Or.inl ⟨by rfl, ?_⟩) (by assumption) ?_
           rotate_left
           focus (intro wq hSq; (try dsimp only at hSq); go_simp; (try (with_reducible rfl)); done))
        | (refine wpAnyH_take (i := 5) (v := undef) rfl (by kernel_rfl) (by kernel_rfl) (by kernel_rfl) (fun _ _ _ h => h) (Or.inr ⟨by rfl, rfl⟩) (by assumption) ?_)
        | fail "take 5")
      try simp only [Act.put, List.setIfInBounds_toArray, List.set_cons_zero, List.set_cons_succ, List.getElem_toArray, List.getElem_cons_zero, List.getElem_cons_succ]
      (first
        | (refine wpAnyH_take (i := 6) (v := ?_) rfl (by kernel_rfl) (by kernel_rfl) (by kernel_rfl) (fun _ _ _ h => h) (Or.inl ⟨by rfl, ?_⟩) (by assumption) ?_
           rotate_left
           focus (intro wq hSq; (try dsimp only at hSq); go_simp; (try (with_reducible rfl)); done))
        | (refine wpAnyH_take (i := 6) (v := undef) rfl (by kernel_rfl) (by kernel_rfl) (by kernel_rfl) (fun _ _ _ h => h) (Or.inr ⟨by rfl, rfl⟩) (by assumption) ?_)
        | fail "take 6")
      try simp only [Act.put, List.setIfInBounds_toArray, List.set_cons_zero, List.set_cons_succ, List.getElem_toArray, List.getElem_cons_zero, List.getElem_cons_succ]
      (first
        | (refine wpAnyH_take (i := 7) (v := ?_) rfl (by kernel_rfl) (by kernel_rfl) (by kernel_rfl) (fun _ _ _ h => h) (Or.inl ⟨by rfl, ?_⟩) (by assumption) ?_
           rotate_left
           focus (intro wq hSq; (try dsimp only at hSq); go_simp; (try (with_reducible rfl)); done))
        | (refine wpAnyH_take (i := 7) (v := undef) rfl (by kernel_rfl) (by kernel_rfl) (by kernel_rfl) (fun _ _ _ h => h) (Or.inr ⟨by rfl, rfl⟩) (by assumption) ?_)
        | fail "take 7")
      try simp only [Act.put, List.setIfInBounds_toArray, List.set_cons_zero, List.set_cons_succ, List.getElem_toArray, List.getElem_cons_zero, List.getElem_cons_succ]
      (first
        | (refine wpAnyH_take (i := 8) (v := ?_) rfl (by kernel_rfl) (by kernel_rfl) (by kernel_rfl) (fun _ _ _ h => h) (Or.inl ⟨by rfl, ?_⟩) (by assumption) ?_
           rotate_left
           focus (intro wq hSq; (try dsimp only at hSq); go_simp; (try (with_reducible rfl)); done))
        | (refine wpAnyH_take (i := 8) (v := undef) rfl (by kernel_rfl) (by kernel_rfl) (by kernel_rfl) (fun _ _ _ h => h) (Or.inr ⟨by rfl, rfl⟩) (by assumption) ?_)
        | fail "take 8")
      try simp only [Act.put, List.setIfInBounds_toArray, List.set_cons_zero, List.set_cons_succ, List.getElem_toArray, List.getElem_cons_zero, List.getElem_cons_succ]
      (first
        | (refine wpAnyH_take (i := 9) (v := ?_) rfl (by kernel_rfl) (by kernel_rfl) (by kernel_rfl) (fun _ _ _ h => h) (Or.inl ⟨by rfl, ?_⟩) (by assumption) ?_
           rotate_left
           focus (intro wq hSq; (try dsimp only at hSq); go_simp; (try (with_reducible rfl)); done))
        | (refine wpAnyH_take (i := 9) (v := undef) rfl (by kernel_rfl) (by kernel_rfl) (by kernel_rfl) (fun _ _ _ h => h) (Or.inr ⟨by rfl, rfl⟩) (by assumption) ?_)
        | fail "take 9")
      try simp only [Act.put, List.setIfInBounds_toArray, List.set_cons_zero, List.set_cons_succ, List.getElem_toArray, List.getElem_cons_zero, List.getElem_cons_succ]
      (first
        | (refine wpAnyH_take (i := 10) (v := ?_) rfl (by kernel_rfl) (by kernel_rfl) (by kernel_rfl) (fun _ _ _ h => h) (Or.inl ⟨by rfl, ?_⟩) (by assumption) ?_
           rotate_left
           focus (intro wq hSq; (try dsimp only at hSq); go_simp; (try (with_reducible rfl)); done))
        | (refine wpAnyH_take (i := 10) (v := undef) rfl (by kernel_rfl) (by kernel_rfl) (by kernel_rfl) (fun _ _ _ h => h) (Or.inr ⟨by rfl, rfl⟩) (by assumption) ?_)
        | fail "take 10")
      try simp only [Act.put, List.setIfInBounds_toArray, List.set_cons_zero, List.set_cons_succ, List.getElem_toArray, List.getElem_cons_zero, List.getElem_cons_succ]
      (first
        | (refine wpAnyH_take (i := 11) (v := ?_) rfl (by kernel_rfl) (by kernel_rfl) (by kernel_rfl) (fun _ _ _ h => h) (Or.inl ⟨by rfl, ?_⟩) (by assumption) ?_
           rotate_left
           focus (intro wq hSq; (try dsimp only at hSq); go_simp; (try (with_reducible rfl)); done))
        | (refine wpAnyH_take (i := 11) (v := undef) rfl (by kernel_rfl) (by kernel_rfl) (by kernel_rfl) (fun _ _ _ h => h) (Or.inr ⟨by rfl, rfl⟩) (by assumption) ?_)
        | fail "take 11")
      try simp only [Act.put, List.setIfInBounds_toArray, List.set_cons_zero, List.set_cons_succ, List.getElem_toArray, List.getElem_cons_zero, List.getElem_cons_succ]
      (first
        | (refine wpAnyH_take (i := 12) (v := ?_) rfl (by kernel_rfl) (by kernel_rfl) (by kernel_rfl) (fun _ _ _ h => h) (Or.inl ⟨by rfl, ?_⟩) (by assumption) ?_
           rotate_left
           focus (intro wq hSq; (try dsimp only at hSq); go_simp; (try (with_reducible rfl)); done))
        | (refine wpAnyH_take (i := 12) (v := undef) rfl (by kernel_rfl) (by kernel_rfl) (by kernel_rfl) (fun _ _ _ h => h) (Or.inr ⟨by rfl, rfl⟩) (by assumption) ?_)
        | fail "take 12")
      try simp only [Act.put, List.setIfInBounds_toArray, List.set_cons_zero, List.set_cons_succ, List.getElem_toArray, List.getElem_cons_zero, List.getElem_cons_succ]
      (first
        | (refine wpAnyH_take (i := 13) (v := ?_) rfl (by kernel_rfl) (by kernel_rfl) (by kernel_rfl) (fun _ _ _ h => h) (Or.inl ⟨by rfl, ?_⟩) (by assumption) ?_
           rotate_left
           focus (intro wq hSq; (try dsimp only at hSq); go_simp; (try (with_reducible rfl)); done))
        | (refine wpAnyH_take (i := 13) (v := undef) rfl (by kernel_rfl) (by kernel_rfl) (by kernel_rfl) (fun _ _ _ h => h) (Or.inr ⟨by rfl, rfl⟩) (by assumption) ?_)
        | fail "take 13")
      try simp only [Act.put, List.setIfInBounds_toArray, List.set_cons_zero, List.set_cons_succ, List.getElem_toArray, List.getElem_cons_zero, List.getElem_cons_succ]
      (first
        | (refine wpAnyH_take (i := 14) (v := ?_) rfl (by kernel_rfl) (by kernel_rfl) (by kernel_rfl) (fun _ _ _ h => h) (Or.inl ⟨by rfl, ?_⟩) (by assumption) ?_
           rotate_left
           focus (intro wq hSq; (try dsimp only at hSq); go_simp; (try (with_reducible rfl)); done))
        | (refine wpAnyH_take (i := 14) (v := undef) rfl (by kernel_rfl) (by kernel_rfl) (by kernel_rfl) (fun _ _ _ h => h) (Or.inr ⟨by rfl, rfl⟩) (by assumption) ?_)
        | fail "take 14")
      try simp only [Act.put, List.setIfInBounds_toArray, List.set_cons_zero, List.set_cons_succ, List.getElem_toArray, List.getElem_cons_zero, List.getElem_cons_succ]
      (first
        | (refine wpAnyH_take (i := 16) (v := ?_) rfl (by kernel_rfl) (by kernel_rfl) (by kernel_rfl) (fun _ _ _ h => h) (Or.inl ⟨by rfl, ?_⟩) (by assumption) ?_
           rotate_left
           focus (intro wq hSq; (try dsimp only at hSq); go_simp; (try (with_reducible rfl)); done))
        | (refine wpAnyH_take (i := 16) (v := undef) rfl (by kernel_rfl) (by kernel_rfl) (by kernel_rfl) (fun _ _ _ h => h) (Or.inr ⟨by rfl, rfl⟩) (by assumption) ?_)
        | fail "take 16")
      try simp only [Act.put, List.setIfInBounds_toArray, List.set_cons_zero, List.set_cons_succ, List.getElem_toArray, List.getElem_cons_zero, List.getElem_cons_succ]
      (first
        | (refine wpAnyH_take (i := 17) (v := ?_) rfl (by kernel_rfl) (by kernel_rfl) (by kernel_rfl) (fun _ _ _ h => h) (Or.inl ⟨by rfl, ?_⟩) (by assumption) ?_
           rotate_left
           focus (intro wq hSq; (try dsimp only at hSq); go_simp; (try (with_reducible rfl)); done))
        | (refine wpAnyH_take (i := 17) (v := undef) rfl (by kernel_rfl) (by kernel_rfl) (by kernel_rfl) (fun _ _ _ h => h) (Or.inr ⟨by rfl, rfl⟩) (by assumption) ?_)
        | fail "take 17")
      try simp only [Act.put, List.setIfInBounds_toArray, List.set_cons_zero, List.set_cons_succ, List.getElem_toArray, List.getElem_cons_zero, List.getElem_cons_succ]
      (first
        | (refine wpAnyH_take (i := 18) (v := ?_) rfl (by kernel_rfl) (by kernel_rfl) (by kernel_rfl) (fun _ _ _ h => h) (Or.inl ⟨by rfl, ?_⟩) (by assumption) ?_
           rotate_left
           focus (intro wq hSq; (try dsimp only at hSq); go_simp; (try (with_reducible rfl)); done))
        | (refine wpAnyH_take (i := 18) (v := undef) rfl (by kernel_rfl) (by kernel_rfl) (by kernel_rfl) (fun _ _ _ h => h) (Or.inr ⟨by rfl, rfl⟩) (by assumption) ?_)
        | fail "take 18")
      try simp only [Act.put, List.setIfInBounds_toArray, List.set_cons_zero, List.set_cons_succ, List.getElem_toArray, List.getElem_cons_zero, List.getElem_cons_succ]
      refine wpAnyH_ready (rs := [15, 19]) (by kernel_rfl) (by simp) ?_
      refine AllReadyH.cons (o := _) rfl (fun K hK => ?_) (AllReadyH.cons (o := _) rfl (fun K hK => ?_) AllReadyH.nil)
      · go_simp
        skip
        refine hK.out _ _ ?_ (fun hHeld => ?_)
        · exact HS.out _ hbwD hczD
        clear hK K
        try simp only [Act.put, List.setIfInBounds_toArray, List.set_cons_zero, List.set_cons_succ, List.getElem_toArray, List.getElem_cons_zero, List.getElem_cons_succ]
        refine wpAnyH_ready (rs := [19]) (by kernel_rfl) (by simp) ?_
        refine AllReadyH.cons (o := _) rfl (fun K hK => ?_) AllReadyH.nil
        go_simp
        skip
        refine hK.out _ _ ?_ (fun hHeld => ?_)
        · exact HS.out _ hbwA hczA
        clear hK K
        try simp only [Act.put, List.setIfInBounds_toArray, List.set_cons_zero, List.set_cons_succ, List.getElem_toArray, List.getElem_cons_zero, List.getElem_cons_succ]
        refine wpAnyH_ready (rs := [20]) (by kernel_rfl) (by simp) ?_
        refine AllReadyH.cons (o := _) rfl (fun K hK => ?_) AllReadyH.nil
        refine step_append _ rfl (.tmp 43) (.tmp 47) _ rfl w.heap.size 2 p0 _ 1 8 Tryz.underlying23 hp0 hy0 hy1 hy2 rfl (by omega) _ q.xs.length _ rfl (HQ0.out) (wr.drew.heap.size + 1) (some ⟨wr.drew.heap.size, 0, none⟩) 1 1 (intC (i : Int)) rfl (Sl.new wr.drew 2 _ 1 1 rfl) (intC_one _) E63.out E32.out HLE.out ?_
        intro v4 w4 ho4 hg4 hat4
        obtain ⟨A4, c4, rfl⟩ := own_slice ho4
        have hbf0 := HBf.out.next hbA
        have hne4 := own_ne hbf0.out (hbf0.inn j q Hq.out) (by decide)
        have out4 := own_grown hbf0.out hg4 hne4
        have hcz4 := own_grown hczA hg4 (own_ne hczA (hbf0.inn j q Hq.out) (by decide))
        have hb4 : Below w.heap.size w w4 := (hbw.trans (hbA.mono hbw.size)).grown hg4 HLE.out fun g hg => ((hbf0.inn j q Hq.out).lt g hg).1
        refine hK.out _ _ (HS.out _ hb4 hcz4) (fun hHeld => ?_)
        clear hK K
        try simp only [Act.put, List.setIfInBounds_toArray, List.set_cons_zero, List.set_cons_succ, List.getElem_toArray, List.getElem_cons_zero, List.getElem_cons_succ]
        obtain ⟨y5, f5⟩ := own_cell out4 j (by omega)
        have z5 := out4.frozenAt
        have s5 := out4.stored j (.slice A4 (q.xs.length + 1) c4)
        have hcz5 := own_grown hcz4 s5.2 (own_ne hcz4 out4 (by decide))
        have hb5 : Below w.heap.size w (w4.setCell ⟨w.heap.size, j, none⟩ (.slice A4 (q.xs.length + 1) c4)) := hb4.setCell (Nat.le_refl _) _
        have HBn := Lib.hid (HBf.out.push (a := (i : Int)) Hq.out hbA HLE2.out hg4 ho4 hat4)
        clear hbf0 hne4 ho4 hg4 hat4 out4 s5 hcz4 hb4
        (first
          | (refine wpAnyH_take (i := 21) (v := ?_) rfl (by kernel_rfl) (by kernel_rfl) (by kernel_rfl) (fun _ _ _ h => h) (Or.inl ⟨by rfl, ?_⟩) (by assumption) ?_
             rotate_left
             focus (intro wq hSq; (try dsimp only at hSq); go_simp; (try (with_reducible rfl)); done))
          | (refine wpAnyH_take (i := 21) (v := undef) rfl (by kernel_rfl) (by kernel_rfl) (by kernel_rfl) (fun _ _ _ h => h) (Or.inr ⟨by rfl, rfl⟩) (by assumption) ?_)
          | fail "take 21")
        try simp only [Act.put, List.setIfInBounds_toArray, List.set_cons_zero, List.set_cons_succ, List.getElem_toArray, List.getElem_cons_zero, List.getElem_cons_succ]
        refine wpAnyH_ready (rs := [22]) (by kernel_rfl) (by simp) ?_
        refine AllReadyH.cons (o := _) rfl (fun K hK => ?_) AllReadyH.nil
        go_simp
        skip
        refine hK.out _ _ ?_ (fun hHeld => ?_)
        · exact HS.out _ hb5 hcz5
        clear hK K
        try simp only [Act.put, List.setIfInBounds_toArray, List.set_cons_zero, List.set_cons_succ, List.getElem_toArray, List.getElem_cons_zero, List.getElem_cons_succ]
        refine wpAnyH_done (by kernel_rfl) ?_ _
        clear hHeld
        go_wp2_with fail
        go_roundw
        case rel =>
          refine ⟨k + 1, _, by omega, by go_num, HBn, Lib.hid (fun t r' hr' => ?_), hcz5, hb5⟩
          by_cases htj : t = j
          · subst htj
            rw [List.getElem?_set_self (List.getElem?_eq_some_iff.1 Hq.out).1] at hr'
            injection hr' with hr'
            subst hr'
            rw [List.length_append]
            have := HLe.out t q Hq.out
            simp only [List.length_cons, List.length_nil]
            omega
          · rw [List.getElem?_set_ne (Ne.symm htj)] at hr'
            have := HLe.out t r' hr'
            omega
        case measure => simp [intOf]; omega
      · go_simp
        skip
        refine hK.out _ _ ?_ (fun hHeld => ?_)
        · exact HS.out _ hbwA hczA
        clear hK K
        try simp only [Act.put, List.setIfInBounds_toArray, List.set_cons_zero, List.set_cons_succ, List.getElem_toArray, List.getElem_cons_zero, List.getElem_cons_succ]
        have cqA := (keepC ((Below.refl wr.heap.size wr).alloc (Nat.le_refl _) (.cells #[.int .i64 (i : Int)] 2)) w.heap.size hgw j).trans cq
        refine wpAnyH_ready (rs := [15]) (by kernel_rfl) (by simp) ?_
        refine AllReadyH.cons (o := _) rfl (fun K hK => ?_) AllReadyH.nil
        go_simp
        skip
        refine hK.out _ _ ?_ (fun hHeld => ?_)
        · exact HS.out _ hbwA hczA
        clear hK K
        try simp only [Act.put, List.setIfInBounds_toArray, List.set_cons_zero, List.set_cons_succ, List.getElem_toArray, List.getElem_cons_zero, List.getElem_cons_succ]
        refine wpAnyH_ready (rs := [20]) (by kernel_rfl) (by simp) ?_
        refine AllReadyH.cons (o := _) rfl (fun K hK => ?_) AllReadyH.nil
        refine step_append _ rfl (.tmp 43) (.tmp 47) _ rfl w.heap.size 2 p0 _ 1 8 Tryz.underlying23 hp0 hy0 hy1 hy2 rfl (by omega) _ q.xs.length _ rfl (HQ0.out) (wr.drew.heap.size + 1) (some ⟨wr.drew.heap.size, 0, none⟩) 1 1 (intC (i : Int)) rfl (Sl.new wr.drew 2 _ 1 1 rfl) (intC_one _) E63.out E32.out HLE.out ?_
        intro v4 w4 ho4 hg4 hat4
        obtain ⟨A4, c4, rfl⟩ := own_slice ho4
        have hbf0 := HBf.out.next hbA
        have hne4 := own_ne hbf0.out (hbf0.inn j q Hq.out) (by decide)
        have out4 := own_grown hbf0.out hg4 hne4
        have hcz4 := own_grown hczA hg4 (own_ne hczA (hbf0.inn j q Hq.out) (by decide))
        have hb4 : Below w.heap.size w w4 := (hbw.trans (hbA.mono hbw.size)).grown hg4 HLE.out fun g hg => ((hbf0.inn j q Hq.out).lt g hg).1
        refine hK.out _ _ (HS.out _ hb4 hcz4) (fun hHeld => ?_)
        clear hK K
        try simp only [Act.put, List.setIfInBounds_toArray, List.set_cons_zero, List.set_cons_succ, List.getElem_toArray, List.getElem_cons_zero, List.getElem_cons_succ]
        obtain ⟨y5, f5⟩ := own_cell out4 j (by omega)
        have z5 := out4.frozenAt
        have s5 := out4.stored j (.slice A4 (q.xs.length + 1) c4)
        have hcz5 := own_grown hcz4 s5.2 (own_ne hcz4 out4 (by decide))
        have hb5 : Below w.heap.size w (w4.setCell ⟨w.heap.size, j, none⟩ (.slice A4 (q.xs.length + 1) c4)) := hb4.setCell (Nat.le_refl _) _
        have HBn := Lib.hid (HBf.out.push (a := (i : Int)) Hq.out hbA HLE2.out hg4 ho4 hat4)
        clear hbf0 hne4 ho4 hg4 hat4 out4 s5 hcz4 hb4
        (first
          | (refine wpAnyH_take (i := 21) (v := ?_) rfl (by kernel_rfl) (by kernel_rfl) (by kernel_rfl) (fun _ _ _ h => h) (Or.inl ⟨by rfl, ?_⟩) (by assumption) ?_
             rotate_left
             focus (intro wq hSq; (try dsimp only at hSq); go_simp; (try (with_reducible rfl)); done))
          | (refine wpAnyH_take (i := 21) (v := undef) rfl (by kernel_rfl) (by kernel_rfl) (by kernel_rfl) (fun _ _ _ h => h) (Or.inr ⟨by rfl, rfl⟩) (by assumption) ?_)
          | fail "take 21")
        try simp only [Act.put, List.setIfInBounds_toArray, List.set_cons_zero, List.set_cons_succ, List.getElem_toArray, List.getElem_cons_zero, List.getElem_cons_succ]
        refine wpAnyH_ready (rs := [22]) (by kernel_rfl) (by simp) ?_
        refine AllReadyH.cons (o := _) rfl (fun K hK => ?_) AllReadyH.nil
        go_simp
        skip
        refine hK.out _ _ ?_ (fun hHeld => ?_)
        · exact HS.out _ hb5 hcz5
        clear hK K
        try simp only [Act.put, List.setIfInBounds_toArray, List.set_cons_zero, List.set_cons_succ, List.getElem_toArray, List.getElem_cons_zero, List.getElem_cons_succ]
        refine wpAnyH_done (by kernel_rfl) ?_ _
        clear hHeld
        go_wp2_with fail
        go_roundw
        case rel =>
          refine ⟨k + 1, _, by omega, by go_num, HBn, Lib.hid (fun t r' hr' => ?_), hcz5, hb5⟩
          by_cases htj : t = j
          · subst htj
            rw [List.getElem?_set_self (List.getElem?_eq_some_iff.1 Hq.out).1] at hr'
            injection hr' with hr'
            subst hr'
            rw [List.length_append]
            have := HLe.out t q Hq.out
            simp only [List.length_cons, List.length_nil]
            omega
          · rw [List.getElem?_set_ne (Ne.symm htj)] at hr'
            have := HLe.out t r' hr'
            omega
        case measure => simp [intOf]; omega
    · obtain rfl : k = n0 := by omega
      clear HBf HLe
      have ht0 : TabIs ys0 (fun _ _ => false) := by
        intro i j hi hj
        rw [hys0, List.getElem?_append_right (by simp; omega), List.getElem?_append_left (by simp; omega), List.getElem?_replicate, if_pos (by simp; omega)]
      clear hys0
      have HT0 := Lib.hid ht0; clear ht0
      go_wp2_with fail
      go_loopw [53] (fun i wr => ∃ (t : Nat) (ys : List Value) (T : Nat → Nat → Bool), t ≤ n ∧ i = .int .i64 t ∧ Chz wr w.heap.size w1.heap.size ys ∧ Hid (TabIs ys T) ∧ Hid (∀ i j, T i j = decide (i = j ∧ i < t)) ∧ Below w.heap.size w wr) (fun i _ => n - (intOf i).toNat)
      case atStart => exact ⟨0, ys0, fun _ _ => false, Nat.zero_le _, rfl, hcz, HT0, Lib.hid (fun i j => by simp), hbw⟩
      case round =>
        clear hcz hbw HT0
        obtain ⟨t, ys, T, ht, rfl, hcz, HT, HTe, hbw⟩ := hrel
        have t0 : (0 : Int) ≤ (t : Int) := by omega
        by_cases hlt2 : t < n
        · have t1 : (t : Int) < (n : Int) := by omega
          have t2 : (t : Int) < 12 := by omega
          have t3 : t < 12 := by omega
          have hgb : w.heap.size ≤ w1.heap.size := (hcz.lt w1.heap.size rfl).1
          obtain ⟨y5, f5⟩ := own_cell hcz (3 + t * 12 + t) (by omega)
          have z5 := hcz.frozenAt
          have s5 := hcz.stored (3 + t * 12 + t) (.bool true)
          have hb5 : Below w.heap.size w (wr.setCell ⟨w1.heap.size, 3 + t * 12 + t, none⟩ (.bool true)) := hbw.setCell (by dsimp only; omega) _
          have HTn := Lib.hid (tab_set HT.out t3 t3)
          have S5 := Lib.hid s5; clear s5
          go_wp2_with fail
          go_roundw
          case rel =>
            refine ⟨t + 1, _, _, by omega, by go_num, S5.out.1, HTn, Lib.hid (fun i j => ?_), hb5⟩
            rw [HTe.out, Bool.eq_iff_iff]
            simp only [Bool.or_eq_true, decide_eq_true_eq]
            omega
          case measure => simp [intOf]; omega
        · obtain rfl : t = n := by omega
          have hHT := HTe.out
          clear HTe
          go_wp2_with fail
          refine (HCl.out _ hbw).mono ?_
          rintro e w5 ⟨A5, q5, c5, gs, rfl, hgs, hN, hb5⟩
          have hcz5 := own_next hcz hb5
          have hgw : w1.heap.size < wr.heap.size := (hcz.lt w1.heap.size rfl).2
          have hgb : w.heap.size ≤ w1.heap.size := (hcz.lt w1.heap.size rfl).1
          have hbw5 := hbw.trans (hb5.mono hbw.size)
          have hLn := hN.len
          obtain ⟨bs, hbs⟩ : ∃ bs, wr.heap.size = bs := ⟨_, rfl⟩
          rw [hbs] at hN hgw
          obtain ⟨L, hL⟩ : ∃ L, allP p t t = L := ⟨_, rfl⟩
          rw [hL] at hN hLn
          have hq5 : q5 ≤ 144 := by
            have h1 := allP_len p t t
            have h2 : t * t ≤ 12 * 12 := Nat.mul_le_mul h12 h12
            rw [hL] at h1
            omega
          have hLm : ∀ x ∈ L, ∃ a b : Nat, x = ((a : Int), (b : Int)) ∧ a < t ∧ b < t := fun x hx => by
            rw [← hL] at hx
            obtain ⟨a, b, e, h1, h2, h3, _⟩ := (mem_allP t x).1 hx
            exact ⟨a, b, e, h1, h3⟩
          have hfin : ∀ i j, i < t → j < t → tabL t L i j = tabB p i j := fun i j h1 h2 => by rw [← hL]; exact tab_all HSy.out h1 h2
          have HLm := Lib.hid hLm; clear hLm
          have HF := Lib.hid hfin; clear hfin
          have HN := Lib.hid hN; clear hN
          have HHT := Lib.hid hHT; clear hHT
          have HL := Lib.hid hL; clear hL
          clear hcz hbw hb5
          go_wp2_with fail
          go_loopw [68] (fun i wr2 => ∃ (s : Nat) (ys : List Value) (T : Nat → Nat → Bool), s ≤ q5 ∧ i = .int .i64 s ∧ Chz wr2 w.heap.size w1.heap.size ys ∧ Hid (TabIs ys T) ∧ Hid (∀ i j, T i j = tabL t (L.take s) i j) ∧ Rng w1.heap.size (w1.heap.size + 1) w5 wr2 ∧ Below w.heap.size w wr2) (fun i _ => q5 - (intOf i).toNat)
          case atStart => exact ⟨0, ys, T, Nat.zero_le _, rfl, hcz5, HT, Lib.hid (fun i j => by rw [HHT.out]; simp [tabL]), Rng.refl _ _ _, hbw5⟩
          case round =>
            clear hcz5 hbw5 HT
            obtain ⟨s, ys, T, hs, rfl, hcz, HT, HTe, hrg, hbw⟩ := hrel
            have s0 : (0 : Int) ≤ (s : Int) := by omega
            by_cases hlt3 : s < q5
            · have s1 : (s : Int) < (q5 : Int) := by omega
              have hNN := HN.out.rng hrg (by omega)
              obtain ⟨b, off, gq, x, rfl, hb, hgq, hx, qc, _⟩ := (nn_sn hNN hgs).get s (by rw [hgs]; exact hlt3)
              obtain ⟨a, d, rfl, ha, hd⟩ := HLm.out x (List.mem_of_getElem? hx)
              have a12 : a < 12 := by omega
              have d12 : d < 12 := by omega
              have a0 : (0 : Int) ≤ (a : Int) := by omega
              have a1 : (a : Int) < 12 := by omega
              have d0 : (0 : Int) ≤ (d : Int) := by omega
              have d1 : (d : Int) < 12 := by omega
              have hS : ∀ W, Rng w1.heap.size (w1.heap.size + 1) w5 W → (W.cell? ⟨gq, 0, none⟩ = some (.int .i64 (a : Int)) ∧ W.cell? ⟨gq, 1, none⟩ = some (.int .i64 (d : Int))) := fun W hr => by
                have hI := (HN.out.rng hr (by omega)).inn s gq _ hgq hx
                exact ⟨(hI.cellAt 0 (by omega)).trans rfl, (hI.cellAt 1 (by omega)).trans rfl⟩
              have hbD : Below wr.heap.size wr wr.drew := (Below.refl _ _).drew
              have hczD := own_next hcz hbD
              have hrD := hrg.trans (rng_below hbD)
              have hgk : ∀ k, (Value.slice (some ⟨w1.heap.size, 0, none⟩) 1 1).ownBlock = some k → w1.heap.size ≤ k ∧ k < w1.heap.size + 1 := fun k hk => by
                have : w1.heap.size = k := by simpa [Value.ownBlock] using hk
                omega
              obtain ⟨y5, f5⟩ := own_cell hcz (3 + a * 12 + d) (by omega)
              have z5 := hcz.frozenAt
              have s5 := hczD.stored (3 + a * 12 + d) (.bool true)
              have hr5 := hrD.trans (rng_grown s5.2 hgk)
              have hbD2 := hbw.trans (hbD.mono hbw.size)
              have hb5 : Below w.heap.size w (wr.drew.setCell ⟨w1.heap.size, 3 + a * 12 + d, none⟩ (.bool true)) := hbD2.setCell (by dsimp only; omega) _
              have s5' := (hcz.stored (3 + a * 12 + d) (.bool true)).1
              obtain ⟨y6, f6⟩ := own_cell s5' (3 + d * 12 + a) (by omega)
              have z6 := s5'.frozenAt
              clear s5'
              have s6 := s5.1.stored (3 + d * 12 + a) (.bool true)
              have hr6 := hr5.trans (rng_grown s6.2 hgk)
              have hb6 : Below w.heap.size w ((wr.drew.setCell ⟨w1.heap.size, 3 + a * 12 + d, none⟩ (.bool true)).setCell ⟨w1.heap.size, 3 + d * 12 + a, none⟩ (.bool true)) := hb5.setCell (by dsimp only; omega) _
              have HTn := Lib.hid (tab_set (tab_set HT.out a12 d12) d12 a12)
              have htn := fun i j => tab_next (n := t) hx i j
              have HTN := Lib.hid htn; clear htn
              have HS := Lib.hid hS; clear hS
              have S5 := Lib.hid s5; clear s5
              have S6 := Lib.hid s6; clear s6
              have Hx := Lib.hid hx; clear hx
              have Hgq := Lib.hid hgq; clear hgq
              go_wp2_with fail
              refine wp_region_held_drew (S := fun W => W.cell? ⟨gq, 0, none⟩ = some (.int .i64 (a : Int)) ∧ W.cell? ⟨gq, 1, none⟩ = some (.int .i64 (d : Int))) (by kernel_rfl) (HS.out _ hrD) (fun hHeld => ?_)
              (first
                | (refine wpAnyH_take (i := 0) (v := ?_) rfl (by kernel_rfl) (by kernel_rfl) (by kernel_rfl) (fun _ _ _ h => h) (Or.inl ⟨by rfl, ?_⟩) (by assumption) ?_
                   rotate_left
                   focus (intro wq hSq; (try dsimp only at hSq); go_simp; (try (with_reducible rfl)); done))
                | (refine wpAnyH_take (i := 0) (v := undef) rfl (by kernel_rfl) (by kernel_rfl) (by kernel_rfl) (fun _ _ _ h => h) (Or.inr ⟨by rfl, rfl⟩) (by assumption) ?_)
                | fail "take 0")
              try simp only [Act.put, List.setIfInBounds_toArray, List.set_cons_zero, List.set_cons_succ, List.getElem_toArray, List.getElem_cons_zero]
              (first
                | (refine wpAnyH_take (i := 1) (v := ?_) rfl (by kernel_rfl) (by kernel_rfl) (by kernel_rfl) (fun _ _ _ h => h) (Or.inl ⟨by rfl, ?_⟩) (by assumption) ?_
                   rotate_left
                   focus (intro wq hSq; (try dsimp only at hSq); go_simp; (try (with_reducible rfl)); done))
                | (refine wpAnyH_take (i := 1) (v := undef) rfl (by kernel_rfl) (by kernel_rfl) (by kernel_rfl) (fun _ _ _ h => h) (Or.inr ⟨by rfl, rfl⟩) (by assumption) ?_)
                | fail "take 1")
              try simp only [Act.put, List.setIfInBounds_toArray, List.set_cons_zero, List.set_cons_succ, List.getElem_toArray, List.getElem_cons_zero, List.getElem_cons_succ]
              (first
                | (refine wpAnyH_take (i := 2) (v := ?_) rfl (by kernel_rfl) (by kernel_rfl) (by kernel_rfl) (fun _ _ _ h => h) (Or.inl ⟨by rfl, ?_⟩) (by assumption) ?_
                   rotate_left
                   focus (intro wq hSq; (try dsimp only at hSq); go_simp; (try (with_reducible rfl)); done))
                | (refine wpAnyH_take (i := 2) (v := undef) rfl (by kernel_rfl) (by kernel_rfl) (by kernel_rfl) (fun _ _ _ h => h) (Or.inr ⟨by rfl, rfl⟩) (by assumption) ?_)
                | fail "take 2")
              try simp only [Act.put, List.setIfInBounds_toArray, List.set_cons_zero, List.set_cons_succ, List.getElem_toArray, List.getElem_cons_zero, List.getElem_cons_succ]
              (first
                | (refine wpAnyH_take (i := 3) (v := ?_) rfl (by kernel_rfl) (by kernel_rfl) (by kernel_rfl) (fun _ _ _ h => h) (Or.inl ⟨by rfl, ?_⟩) (by assumption) ?_
                   rotate_left
                   focus (intro wq hSq; (try dsimp only at hSq); go_simp; (try (with_reducible rfl)); done))
                | (refine wpAnyH_take (i := 3) (v := undef) rfl (by kernel_rfl) (by kernel_rfl) (by kernel_rfl) (fun _ _ _ h => h) (Or.inr ⟨by rfl, rfl⟩) (by assumption) ?_)
                | fail "take 3")
              try simp only [Act.put, List.setIfInBounds_toArray, List.set_cons_zero, List.set_cons_succ, List.getElem_toArray, List.getElem_cons_zero, List.getElem_cons_succ]
              (first
                | (refine wpAnyH_take (i := 4) (v := ?_) rfl (by kernel_rfl) (by kernel_rfl) (by kernel_rfl) (fun _ _ _ h => h) (Or.inl ⟨by rfl, ?_⟩) (by assumption) ?_
                   rotate_left
                   focus (intro wq hSq; (try dsimp only at hSq); go_simp; (try (with_reducible rfl)); done))
                | (refine wpAnyH_take (i := 4) (v := undef) rfl (by kernel_rfl) (by kernel_rfl) (by kernel_rfl) (fun _ _ _ h => h) (Or.inr ⟨by rfl, rfl⟩) (by assumption) ?_)
                | fail "take 4")
              try simp only [Act.put, List.setIfInBounds_toArray, List.set_cons_zero, List.set_cons_succ, List.getElem_toArray, List.getElem_cons_zero, List.getElem_cons_succ]
              (first
                | (refine wpAnyH_take (i := 5) (v := ?_) rfl (by kernel_rfl) (by kernel_rfl) (by kernel_rfl) (fun _ _ _ h => h) (Or.inl ⟨by rfl, ?_⟩) (by assumption) ?_
                   rotate_left
                   focus (intro wq hSq; (try dsimp only at hSq); go_simp; (try (with_reducible rfl)); done))
                | (refine wpAnyH_take (i := 5) (v := undef) rfl (by kernel_rfl) (by kernel_rfl) (by kernel_rfl) (fun _ _ _ h => h) (Or.inr ⟨by rfl, rfl⟩) (by assumption) ?_)
                | fail "take 5")
              try simp only [Act.put, List.setIfInBounds_toArray, List.set_cons_zero, List.set_cons_succ, List.getElem_toArray, List.getElem_cons_zero, List.getElem_cons_succ]
              (first
                | (refine wpAnyH_take (i := 6) (v := ?_) rfl (by kernel_rfl) (by kernel_rfl) (by kernel_rfl) (fun _ _ _ h => h) (Or.inl ⟨by rfl, ?_⟩) (by assumption) ?_
                   rotate_left
                   focus (intro wq hSq; (try dsimp only at hSq); go_simp; (try (with_reducible rfl)); done))
                | (refine wpAnyH_take (i := 6) (v := undef) rfl (by kernel_rfl) (by kernel_rfl) (by kernel_rfl) (fun _ _ _ h => h) (Or.inr ⟨by rfl, rfl⟩) (by assumption) ?_)
                | fail "take 6")
              try simp only [Act.put, List.setIfInBounds_toArray, List.set_cons_zero, List.set_cons_succ, List.getElem_toArray, List.getElem_cons_zero, List.getElem_cons_succ]
              (first
                | (refine wpAnyH_take (i := 7) (v := ?_) rfl (by kernel_rfl) (by kernel_rfl) (by kernel_rfl) (fun _ _ _ h => h) (Or.inl ⟨by rfl, ?_⟩) (by assumption) ?_
                   rotate_left
                   focus (intro wq hSq; (try dsimp only at hSq); go_simp; (try (with_reducible rfl)); done))
                | (refine wpAnyH_take (i := 7) (v := undef) rfl (by kernel_rfl) (by kernel_rfl) (by kernel_rfl) (fun _ _ _ h => h) (Or.inr ⟨by rfl, rfl⟩) (by assumption) ?_)
                | fail "take 7")
              try simp only [Act.put, List.setIfInBounds_toArray, List.set_cons_zero, List.set_cons_succ, List.getElem_toArray, List.getElem_cons_zero, List.getElem_cons_succ]
              (first
                | (refine wpAnyH_take (i := 8) (v := ?_) rfl (by kernel_rfl) (by kernel_rfl) (by kernel_rfl) (fun _ _ _ h => h) (Or.inl ⟨by rfl, ?_⟩) (by assumption) ?_
                   rotate_left
                   focus (intro wq hSq; (try dsimp only at hSq); go_simp; (try (with_reducible rfl)); done))
                | (refine wpAnyH_take (i := 8) (v := undef) rfl (by kernel_rfl) (by kernel_rfl) (by kernel_rfl) (fun _ _ _ h => h) (Or.inr ⟨by rfl, rfl⟩) (by assumption) ?_)
                | fail "take 8")
              try simp only [Act.put, List.setIfInBounds_toArray, List.set_cons_zero, List.set_cons_succ, List.getElem_toArray, List.getElem_cons_zero, List.getElem_cons_succ]
              (first
                | (refine wpAnyH_take (i := 9) (v := ?_) rfl (by kernel_rfl) (by kernel_rfl) (by kernel_rfl) (fun _ _ _ h => h) (Or.inl ⟨by rfl, ?_⟩) (by assumption) ?_
                   rotate_left
                   focus (intro wq hSq; (try dsimp only at hSq); go_simp; (try (with_reducible rfl)); done))
                | (refine wpAnyH_take (i := 9) (v := undef) rfl (by kernel_rfl) (by kernel_rfl) (by kernel_rfl) (fun _ _ _ h => h) (Or.inr ⟨by rfl, rfl⟩) (by assumption) ?_)
                | fail "take 9")
              try simp only [Act.put, List.setIfInBounds_toArray, List.set_cons_zero, List.set_cons_succ, List.getElem_toArray, List.getElem_cons_zero, List.getElem_cons_succ]
              (first
                | (refine wpAnyH_take (i := 10) (v := ?_) rfl (by kernel_rfl) (by kernel_rfl) (by kernel_rfl) (fun _ _ _ h => h) (Or.inl ⟨by rfl, ?_⟩) (by assumption) ?_
                   rotate_left
                   focus (intro wq hSq; (try dsimp only at hSq); go_simp; (try (with_reducible rfl)); done))
                | (refine wpAnyH_take (i := 10) (v := undef) rfl (by kernel_rfl) (by kernel_rfl) (by kernel_rfl) (fun _ _ _ h => h) (Or.inr ⟨by rfl, rfl⟩) (by assumption) ?_)
                | fail "take 10")
              try simp only [Act.put, List.setIfInBounds_toArray, List.set_cons_zero, List.set_cons_succ, List.getElem_toArray, List.getElem_cons_zero, List.getElem_cons_succ]
              (first
                | (refine wpAnyH_take (i := 11) (v := ?_) rfl (by kernel_rfl) (by kernel_rfl) (by kernel_rfl) (fun _ _ _ h => h) (Or.inl ⟨by rfl, ?_⟩) (by assumption) ?_
                   rotate_left
                   focus (intro wq hSq; (try dsimp only at hSq); go_simp; (try (with_reducible rfl)); done))
                | (refine wpAnyH_take (i := 11) (v := undef) rfl (by kernel_rfl) (by kernel_rfl) (by kernel_rfl) (fun _ _ _ h => h) (Or.inr ⟨by rfl, rfl⟩) (by assumption) ?_)
                | fail "take 11")
              try simp only [Act.put, List.setIfInBounds_toArray, List.set_cons_zero, List.set_cons_succ, List.getElem_toArray, List.getElem_cons_zero, List.getElem_cons_succ]
              (first
                | (refine wpAnyH_take (i := 12) (v := ?_) rfl (by kernel_rfl) (by kernel_rfl) (by kernel_rfl) (fun _ _ _ h => h) (Or.inl ⟨by rfl, ?_⟩) (by assumption) ?_
                   rotate_left
                   focus (intro wq hSq; (try dsimp only at hSq); go_simp; (try (with_reducible rfl)); done))
                | (refine wpAnyH_take (i := 12) (v := undef) rfl (by kernel_rfl) (by kernel_rfl) (by kernel_rfl) (fun _ _ _ h => h) (Or.inr ⟨by rfl, rfl⟩) (by assumption) ?_)
                | fail "take 12")
              try simp only [Act.put, List.setIfInBounds_toArray, List.set_cons_zero, List.set_cons_succ, List.getElem_toArray, List.getElem_cons_zero, List.getElem_cons_succ]
              (first
                | (refine wpAnyH_take (i := 13) (v := ?_) rfl (by kernel_rfl) (by kernel_rfl) (by kernel_rfl) (fun _ _ _ h => h) (Or.inl ⟨by rfl, ?_⟩) (by assumption) ?_
                   rotate_left
                   focus (intro wq hSq; (try dsimp only at hSq); go_simp; (try (with_reducible rfl)); done))
                | (refine wpAnyH_take (i := 13) (v := undef) rfl (by kernel_rfl) (by kernel_rfl) (by kernel_rfl) (fun _ _ _ h => h) (Or.inr ⟨by rfl, rfl⟩) (by assumption) ?_)
                | fail "take 13")
              try simp only [Act.put, List.setIfInBounds_toArray, List.set_cons_zero, List.set_cons_succ, List.getElem_toArray, List.getElem_cons_zero, List.getElem_cons_succ]
              (first
                | (refine wpAnyH_take (i := 14) (v := ?_) rfl (by kernel_rfl) (by kernel_rfl) (by kernel_rfl) (fun _ _ _ h => h) (Or.inl ⟨by rfl, ?_⟩) (by assumption) ?_
                   rotate_left
                   focus (intro wq hSq; (try dsimp only at hSq); go_simp; (try (with_reducible rfl)); done))
                | (refine wpAnyH_take (i := 14) (v := undef) rfl (by kernel_rfl) (by kernel_rfl) (by kernel_rfl) (fun _ _ _ h => h) (Or.inr ⟨by rfl, rfl⟩) (by assumption) ?_)
                | fail "take 14")
              try simp only [Act.put, List.setIfInBounds_toArray, List.set_cons_zero, List.set_cons_succ, List.getElem_toArray, List.getElem_cons_zero, List.getElem_cons_succ]
              (first
                | (refine wpAnyH_take (i := 15) (v := ?_) rfl (by kernel_rfl) (by kernel_rfl) (by kernel_rfl) (fun _ _ _ h => h) (Or.inl ⟨by rfl, ?_⟩) (by assumption) ?_
                   rotate_left
                   focus (intro wq hSq; (try dsimp only at hSq); go_simp; (try (with_reducible rfl)); done))
                | (refine wpAnyH_take (i := 15) (v := undef) rfl (by kernel_rfl) (by kernel_rfl) (by kernel_rfl) (fun _ _ _ h => h) (Or.inr ⟨by rfl, rfl⟩) (by assumption) ?_)
                | fail "take 15")
              try simp only [Act.put, List.setIfInBounds_toArray, List.set_cons_zero, List.set_cons_succ, List.getElem_toArray, List.getElem_cons_zero, List.getElem_cons_succ]
              (first
                | (refine wpAnyH_take (i := 16) (v := ?_) rfl (by kernel_rfl) (by kernel_rfl) (by kernel_rfl) (fun _ _ _ h => h) (Or.inl ⟨by rfl, ?_⟩) (by assumption) ?_
                   rotate_left
                   focus (intro wq hSq; (try dsimp only at hSq); go_simp; (try (with_reducible rfl)); done))
                | (refine wpAnyH_take (i := 16) (v := undef) rfl (by kernel_rfl) (by kernel_rfl) (by kernel_rfl) (fun _ _ _ h => h) (Or.inr ⟨by rfl, rfl⟩) (by assumption) ?_)
                | fail "take 16")
              try simp only [Act.put, List.setIfInBounds_toArray, List.set_cons_zero, List.set_cons_succ, List.getElem_toArray, List.getElem_cons_zero, List.getElem_cons_succ]
              (first
                | (refine wpAnyH_take (i := 17) (v := ?_) rfl (by kernel_rfl) (by kernel_rfl) (by kernel_rfl) (fun _ _ _ h => h) (Or.inl ⟨by rfl, ?_⟩) (by assumption) ?_
                   rotate_left
                   focus (intro wq hSq; (try dsimp only at hSq); go_simp; (try (with_reducible rfl)); done))
                | (refine wpAnyH_take (i := 17) (v := undef) rfl (by kernel_rfl) (by kernel_rfl) (by kernel_rfl) (fun _ _ _ h => h) (Or.inr ⟨by rfl, rfl⟩) (by assumption) ?_)
                | fail "take 17")
              try simp only [Act.put, List.setIfInBounds_toArray, List.set_cons_zero, List.set_cons_succ, List.getElem_toArray, List.getElem_cons_zero, List.getElem_cons_succ]
              (first
                | (refine wpAnyH_take (i := 19) (v := ?_) rfl (by kernel_rfl) (by kernel_rfl) (by kernel_rfl) (fun _ _ _ h => h) (Or.inl ⟨by rfl, ?_⟩) (by assumption) ?_
                   rotate_left
                   focus (intro wq hSq; (try dsimp only at hSq); go_simp; (try (with_reducible rfl)); done))
                | (refine wpAnyH_take (i := 19) (v := undef) rfl (by kernel_rfl) (by kernel_rfl) (by kernel_rfl) (fun _ _ _ h => h) (Or.inr ⟨by rfl, rfl⟩) (by assumption) ?_)
                | fail "take 19")
              try simp only [Act.put, List.setIfInBounds_toArray, List.set_cons_zero, List.set_cons_succ, List.getElem_toArray, List.getElem_cons_zero, List.getElem_cons_succ]
              (first
                | (refine wpAnyH_take (i := 20) (v := ?_) rfl (by kernel_rfl) (by kernel_rfl) (by kernel_rfl) (fun _ _ _ h => h) (Or.inl ⟨by rfl, ?_⟩) (by assumption) ?_
                   rotate_left
                   focus (intro wq hSq; (try dsimp only at hSq); go_simp; (try (with_reducible rfl)); done))
                | (refine wpAnyH_take (i := 20) (v := undef) rfl (by kernel_rfl) (by kernel_rfl) (by kernel_rfl) (fun _ _ _ h => h) (Or.inr ⟨by rfl, rfl⟩) (by assumption) ?_)
                | fail "take 20")
              try simp only [Act.put, List.setIfInBounds_toArray, List.set_cons_zero, List.set_cons_succ, List.getElem_toArray, List.getElem_cons_zero, List.getElem_cons_succ]
              (first
                | (refine wpAnyH_take (i := 21) (v := ?_) rfl (by kernel_rfl) (by kernel_rfl) (by kernel_rfl) (fun _ _ _ h => h) (Or.inl ⟨by rfl, ?_⟩) (by assumption) ?_
                   rotate_left
                   focus (intro wq hSq; (try dsimp only at hSq); go_simp; (try (with_reducible rfl)); done))
                | (refine wpAnyH_take (i := 21) (v := undef) rfl (by kernel_rfl) (by kernel_rfl) (by kernel_rfl) (fun _ _ _ h => h) (Or.inr ⟨by rfl, rfl⟩) (by assumption) ?_)
                | fail "take 21")
              try simp only [Act.put, List.setIfInBounds_toArray, List.set_cons_zero, List.set_cons_succ, List.getElem_toArray, List.getElem_cons_zero, List.getElem_cons_succ]
              refine wpAnyH_ready (rs := [18]) (by kernel_rfl) (by simp) ?_
              refine AllReadyH.cons (o := _) rfl (fun K hK => ?_) AllReadyH.nil
              go_simp
              skip
              refine hK.out _ _ ?_ (fun hHeld => ?_)
              · exact HS.out _ hr5
              clear hK K
              try simp only [Act.put, List.setIfInBounds_toArray, List.set_cons_zero, List.set_cons_succ, List.getElem_toArray, List.getElem_cons_zero, List.getElem_cons_succ]
              (first
                | (refine wpAnyH_take (i := 22) (v := ?_) rfl (by kernel_rfl) (by kernel_rfl) (by kernel_rfl) (fun _ _ _ h => h) (Or.inl ⟨by rfl, ?_⟩) (by assumption) ?_
                   rotate_left
                   focus (intro wq hSq; (try dsimp only at hSq); go_simp; (try (with_reducible rfl)); done))
                | (refine wpAnyH_take (i := 22) (v := undef) rfl (by kernel_rfl) (by kernel_rfl) (by kernel_rfl) (fun _ _ _ h => h) (Or.inr ⟨by rfl, rfl⟩) (by assumption) ?_)
                | fail "take 22")
              try simp only [Act.put, List.setIfInBounds_toArray, List.set_cons_zero, List.set_cons_succ, List.getElem_toArray, List.getElem_cons_zero, List.getElem_cons_succ]
              refine wpAnyH_ready (rs := [23]) (by kernel_rfl) (by simp) ?_
              refine AllReadyH.cons (o := _) rfl (fun K hK => ?_) AllReadyH.nil
              go_simp
              skip
              refine hK.out _ _ ?_ (fun hHeld => ?_)
              · exact HS.out _ hr6
              clear hK K
              try simp only [Act.put, List.setIfInBounds_toArray, List.set_cons_zero, List.set_cons_succ, List.getElem_toArray, List.getElem_cons_zero, List.getElem_cons_succ]
              refine wpAnyH_done (by kernel_rfl) ?_ _
              clear hHeld
              go_wp2_with fail
              go_roundw
              case rel =>
                refine ⟨s + 1, _, _, by omega, by go_num, S6.out.1, HTn, Lib.hid (fun i j => ?_), hr6, hb6⟩
                rw [HTN.out, HTe.out]
              case measure => simp [intOf]; omega
            · obtain rfl : s = q5 := by omega
              go_wp2_with fail
              go_ret
              refine ⟨w1.heap.size, ys, T, rfl, hcz, HT.out, fun i j h1 h2 => ?_, hbw⟩
              rw [HTe.out, List.take_of_length_le (by omega)]
              exact HF.out i j h1 h2
end Go.Proofs.YtejndpoebohhaaaGreat
/- IsDistinct: the reference. -/
namespace Go.Proofs.YtejndpoebohhaaaGreat
open Go.RowKit
theorem disB_eq {pss : List (List Int)} {ch : List Int} {xs : List Ch} {tol : Int} {n0 n1 n : Nat} (h0 : pss.length = n0) (h1 : ch.length = n1) (h : xs.length = n) :
    disB pss ch xs tol = (pairsB pss n1 && (xs.all validB && (decide (n ≤ 12) && (inB tol 0 20 && (inCh ch n && allB n0 (disK (clP xs tol) ch pss)))))) := by
  subst h0 h1 h; rfl
set_option maxRecDepth 100000 in
set_option maxHeartbeats 4000000 in
theorem specDis_c (A0 : Option Addr) (n0 c0 : Nat) (rs : List RowG) (A1 : Option Addr) (n1 c1 : Nat) (ch : List Int) (A : Option Addr) (n c : Nat) (zs : List ChG) (tol : Int) (w : World) (h0 : RS w A0 n0 rs) (m0 : n0 ≤ 1048576)
    (h1 : Sl w w.heap.size 1 A1 n1 (ch.flatMap intC)) (m1 : n1 ≤ 1048576) (h : ChS w A n zs) (hm : n ≤ 1048576) :
    Calls Tryz.prog 7 #[.slice A0 n0 c0, .slice A1 n1 c1, .slice A n c, .int .i64 tol] w fun e w' => e = .returned (.bool (disB (rs.map RowG.xs) ch (zs.map ChG.x) tol)) ∧ Below w.heap.size w w' := by
  have hl0 : (rs.map RowG.xs).length = n0 := by rw [List.length_map]; exact h0.len
  have hl1 : ch.length = n1 := h1.len intC 1 intC_len (by omega)
  have hlx : (zs.map ChG.x).length = n := by rw [List.length_map]; exact h.len
  rw [disB_eq hl0 hl1 hlx]
  obtain ⟨P, hP⟩ : ∃ P, pairsB (rs.map RowG.xs) n1 = P := ⟨_, rfl⟩
  obtain ⟨V, hV⟩ : ∃ V, (zs.map ChG.x).all validB = V := ⟨_, rfl⟩
  obtain ⟨T, hT⟩ : ∃ T, inB tol 0 20 = T := ⟨_, rfl⟩
  have cP : ∀ w1, Below w.heap.size w w1 → Calls Tryz.prog 22 #[.slice A0 n0 c0, .int .i64 n1] w1 fun e w' => e = .returned (.bool P) ∧ Below w1.heap.size w1 w' := fun w1 hb => hP ▸ l18Pairs_c A0 n0 c0 rs n1 w1 (h0.next hb) m0
  have cV : ∀ w1, Below w.heap.size w w1 → Calls Tryz.prog 23 #[.slice A n c] w1 fun e w' => e = .returned (.bool V) ∧ Below w1.heap.size w1 w' := fun w1 hb => hV ▸ l18Choices_c A n c zs w1 (h.next hb) hm
  have cT : ∀ w1, Calls Tryz.prog 24 #[.int .i64 tol] w1 fun e w' => e = .returned (.bool T) ∧ w1 = w' := fun w1 => hT ▸ l18Tolerance_c _ _
  have cM : V = true → T = true → n ≤ 12 → ∀ w1, Below w.heap.size w w1 → Calls Tryz.prog 26 #[.slice A n c, .int .i64 tol] w1 fun e w' => ∃ A' c', e = .returned (.slice A' n c') ∧ SM w' w'.heap.size A' n (clP (zs.map ChG.x) tol) ∧ Below w1.heap.size w1 w' := fun a b d w1 hb => by
    have ht := inB_iff.1 (hT.trans b)
    exact l18Clash_c A n c zs tol w1 (h.next hb) d (hV.trans a) ⟨ht.1, by omega⟩
  obtain ⟨p, hp⟩ : ∃ p, clP (zs.map ChG.x) tol = p := ⟨_, rfl⟩
  rw [hP, hV, hT, hp]
  rw [hp] at cM
  obtain ⟨pss, hps⟩ : ∃ pss, rs.map RowG.xs = pss := ⟨_, rfl⟩
  rw [hps]
  rw [hps] at hP hl0
  have hget : ∀ (k : Nat) (r : RowG), rs[k]? = some r → pss[k]? = some r.xs := fun k r hr => by rw [← hps, List.getElem?_map, hr]; rfl
  clear hV hT hp hps h
  have HL0 := Lib.hid hl0; clear hl0
  have HL1 := Lib.hid hl1; clear hl1
  have HLx := Lib.hid hlx; clear hlx
  have HPe := Lib.hid hP; clear hP
  have HP := Lib.hid cP; clear cP
  have HV := Lib.hid cV; clear cV
  have HT := Lib.hid cT; clear cT
  have HM := Lib.hid cM; clear cM
  have HG := Lib.hid hget; clear hget
  have H0 := Lib.hid h0; clear h0
  have H1 := Lib.hid h1; clear h1
  cases P
  · go_enter Tryz.func7, Tryz.ntmps7
    go_wp2_with fail
    refine (HP.out _ (Below.refl _ _)).mono ?_
    rintro e w1 ⟨rfl, hb1⟩
    go_wp2_with fail
    go_ret
    exact ⟨rfl, hb1⟩
  cases V
  · go_enter Tryz.func7, Tryz.ntmps7
    go_wp2_with fail
    refine (HP.out _ (Below.refl _ _)).mono ?_
    rintro e w1 ⟨rfl, hb1⟩
    go_wp2_with fail
    refine (HV.out _ hb1).mono ?_
    rintro e w2 ⟨rfl, hb2'⟩
    have hb2 := hb1.trans (hb2'.mono hb1.size)
    clear hb2'
    go_wp2_with fail
    go_ret
    exact ⟨rfl, hb2⟩
  by_cases hn : n ≤ 12
  rotate_left
  · have hn' : (12 : Int) < (n : Int) := by omega
    rw [decide_eq_false hn]
    go_enter Tryz.func7, Tryz.ntmps7
    go_wp2_with fail
    refine (HP.out _ (Below.refl _ _)).mono ?_
    rintro e w1 ⟨rfl, hb1⟩
    go_wp2_with fail
    refine (HV.out _ hb1).mono ?_
    rintro e w2 ⟨rfl, hb2'⟩
    have hb2 := hb1.trans (hb2'.mono hb1.size)
    clear hb2'
    go_wp2_with fail
    go_ret
    exact ⟨rfl, hb2⟩
  have hn' : ¬ (12 : Int) < (n : Int) := by omega
  rw [decide_eq_true hn]
  cases T
  · go_enter Tryz.func7, Tryz.ntmps7
    go_wp2_with fail
    refine (HP.out _ (Below.refl _ _)).mono ?_
    rintro e w1 ⟨rfl, hb1⟩
    go_wp2_with fail
    refine (HV.out _ hb1).mono ?_
    rintro e w2 ⟨rfl, hb2'⟩
    have hb2 := hb1.trans (hb2'.mono hb1.size)
    clear hb2'
    go_wp2_with fail
    refine (HT.out _).mono ?_
    rintro e w3 ⟨rfl, rfl⟩
    go_wp2_with fail
    go_ret
    exact ⟨rfl, hb2⟩
  have HM2 := Lib.hid (HM.out rfl rfl hn)
  obtain ⟨D, hD⟩ : ∃ D, (inCh ch n && allB n0 (disK p ch pss)) = D := ⟨_, rfl⟩
  have hD2 : (true && (true && (true && (true && (inCh ch n && allB n0 (disK p ch pss)))))) = D := by rw [hD]; simp
  rw [hD2]
  clear hD2 HM
  have HD := Lib.hid hD; clear hD
  go_enter Tryz.func7, Tryz.ntmps7
  go_wp2_with fail
  refine (HP.out _ (Below.refl _ _)).mono ?_
  rintro e w1 ⟨rfl, hb1⟩
  go_wp2_with fail
  refine (HV.out _ hb1).mono ?_
  rintro e w2 ⟨rfl, hb2'⟩
  have hb2 := hb1.trans (hb2'.mono hb1.size)
  clear hb2'
  go_wp2_with fail
  refine (HT.out _).mono ?_
  rintro e w3 ⟨rfl, rfl⟩
  clear hb1
  go_wp2_with fail
  go_loopw [9] (fun i wr => ∃ k : Nat, k ≤ n1 ∧ i = .int .i64 k ∧ Hid (∀ (j : Nat) (x : Int), j < k → ch[j]? = some x → 0 ≤ x ∧ x ≤ (n : Int) - 1) ∧ Below w.heap.size w wr) (fun i _ => n1 - (intOf i).toNat)
  case atStart => exact ⟨0, Nat.zero_le _, rfl, Lib.hid (fun j x hj => absurd hj (by omega)), hb2⟩
  case round =>
    clear hb2
    obtain ⟨k, hk, rfl, Hc, hbw⟩ := hrel
    have k0 : (0 : Int) ≤ (k : Int) := by omega
    by_cases hlt : k < n1
    · have k1 : (k : Int) < (n1 : Int) := by omega
      obtain ⟨b1, o1, x, rfl, hb1, hx, cx⟩ := (H1.out.next hbw).int k hlt
      have hI := l00In_c x 0 ((n : Int) - 1)
      cases hxi : inB x 0 ((n : Int) - 1)
      all_goals
        rw [hxi] at hI
        have HI := Lib.hid hI; clear hI
      · have hdf : D = false := by
          rw [← HD.out, Bool.and_eq_false_iff]
          refine .inl ?_
          cases hq : inCh ch n
          · rfl
          · have := inCh_iff.1 hq x (List.mem_of_getElem? hx)
            have h2 := inB_no.1 hxi
            omega
        have Hdf := Lib.hid hdf; clear hdf
        have Hxi := Lib.hid hxi; clear hxi
        have Hx := Lib.hid hx; clear hx
        go_wp2_with fail
        refine (HI.out _).mono ?_
        rintro e w5 ⟨rfl, rfl⟩
        go_wp2_with fail
        go_ret
        exact ⟨ret_eq (bool_eq Hdf.out.symm), hbw⟩
      · have Hxi := Lib.hid hxi; clear hxi
        have Hx := Lib.hid hx; clear hx
        go_wp2_with fail
        refine (HI.out _).mono ?_
        rintro e w5 ⟨rfl, rfl⟩
        go_wp2_with fail
        go_roundw
        case rel =>
          refine ⟨k + 1, by omega, by go_num, Lib.hid (fun j y hj hy => ?_), hbw⟩
          rcases Nat.lt_or_ge j k with h2 | h2
          · exact Hc.out j y h2 hy
          · obtain rfl : j = k := by omega
            rw [Hx.out] at hy
            injection hy with hy
            subst hy
            exact inB_iff.1 Hxi.out
        case measure => simp [intOf]; omega
    · obtain rfl : k = n1 := by omega
      have hin : inCh ch n = true := inCh_iff.2 fun x hx => by
        obtain ⟨j, hj⟩ := List.getElem?_of_mem hx
        exact Hc.out j x (by have := (List.getElem?_eq_some_iff.1 hj).1; rw [HL1.out] at this; exact this) hj
      have hD := HD.out
      rw [hin, Bool.true_and] at hD
      clear HD
      have HD := Lib.hid hD; clear hD
      have Hin := Lib.hid hin; clear hin
      go_wp2_with fail
      refine (HM2.out _ hbw).mono ?_
      rintro e w5 ⟨A', c', rfl, hSM, hb5'⟩
      have hb5 := hbw.trans (hb5'.mono hbw.size)
      clear hb5' hbw
      have HS := Lib.hid hSM; clear hSM
      go_wp2_with fail
      go_loopw [11] (fun i wr => ∃ q : Nat, q ≤ n0 ∧ i = .int .i64 q ∧ Hid (∀ j, j < q → disK p ch pss j = true) ∧ Below w5.heap.size w5 wr) (fun i _ => n0 - (intOf i).toNat)
      case atStart => exact ⟨0, Nat.zero_le _, rfl, Lib.hid (fun j hj => absurd hj (by omega)), Below.refl _ _⟩
      case round =>
        obtain ⟨q, hq, rfl, Hq, hbq⟩ := hrel
        have q0 : (0 : Int) ≤ (q : Int) := by omega
        have hbw := hb5.trans (hbq.mono hb5.size)
        by_cases hlt : q < n0
        · have q1 : (q : Int) < (n0 : Int) := by omega
          obtain ⟨b, off, r, rfl, hb, hr, s0, _, qc⟩ := (H0.out.next hbw).get q hlt
          have hrx := HG.out q r hr
          obtain ⟨a, d, he, ha0, had, hdn⟩ := pairs_two HPe.out hrx
          obtain ⟨i, rfl⟩ := Int.eq_ofNat_of_zero_le ha0
          obtain ⟨j, rfl⟩ := Int.eq_ofNat_of_zero_le (show 0 ≤ d by omega)
          rw [he] at s0 qc hrx
          obtain ⟨g, o, hgA, hgl, ca, cd⟩ := two_cells s0 rfl
          rw [hgA, show ([(i : Int), (j : Int)] : List Int).length = 2 from rfl] at qc
          have i1 : (i : Int) < (k : Int) := by omega
          have j1 : (j : Int) < (k : Int) := by omega
          obtain ⟨b1, o1, x, rfl, hb1, hx, cx⟩ := (H1.out.next hbw).int i (by omega)
          obtain ⟨b2, o2, y, hA2, hb2, hy, cy⟩ := (H1.out.next hbw).int j (by omega)
          injection hA2 with hA2
          injection hA2 with e1 e2 _
          subst e1 e2
          obtain ⟨x0, x1⟩ := Hc.out i x (by omega) hx
          obtain ⟨y0, y1⟩ := Hc.out j y (by omega) hy
          obtain ⟨u, rfl⟩ := Int.eq_ofNat_of_zero_le x0
          obtain ⟨v, rfl⟩ := Int.eq_ofNat_of_zero_le y0
          obtain ⟨bs, os, gs, cs, rfl, d0, d1⟩ := (HS.out.below hbq).get u v (by omega) (by omega)
          have hdk : disK p ch pss q = !(tabB p u v) := by
            rw [disK_at hrx (x := u) (y := v) (by simpa using hx) (by simpa using hy)]; rfl
          obtain ⟨R, hR⟩ : ∃ R, (decide (u = v) || p u v) = R := ⟨_, rfl⟩
          rw [tabB, hR] at hdk
          rw [hR] at d1
          have i0 : (0 : Int) ≤ (i : Int) := by omega
          have j0 : (0 : Int) ≤ (j : Int) := by omega
          have u1 : (u : Int) < (n : Int) := by omega
          have v1 : (v : Int) < (n : Int) := by omega
          clear s0 hgA x1 y1 had hdn
          have HR := Lib.hid hR; clear hR
          have Hdk := Lib.hid hdk; clear hdk
          have Hr := Lib.hid hr; clear hr
          have Hrx := Lib.hid hrx; clear hrx
          have He := Lib.hid he; clear he
          have Hx := Lib.hid hx; clear hx
          have Hy := Lib.hid hy; clear hy
          cases R
          · go_wp2_with fail
            go_quiet (fail)
            go_wp2_with fail
            go_roundw
            case rel =>
              refine ⟨q + 1, by omega, by go_num, Lib.hid (fun t ht => ?_), by (repeat (first | (with_reducible assumption) | (with_reducible exact Below.refl _ _) | exact Nat.le_refl _ | exact Below.size (by with_reducible assumption) | (with_reducible refine Below.drew ?_) | (with_reducible refine below_drewN ?_ _) | (with_reducible refine Below.alloc ?_ ?_ _) | (with_reducible refine Below.setCell ?_ ?_ _) | (with_reducible refine le_alloc ?_ _) | (with_reducible refine le_set ?_ _ _) | (with_reducible refine le_drew ?_) | (with_reducible refine le_drewN ?_ _) | omega | (dsimp only; omega)))⟩
              rcases Nat.lt_or_ge t q with h2 | h2
              · exact Hq.out t h2
              · obtain rfl : t = q := by omega
                exact Hdk.out
            case measure => simp [intOf]; omega
          · have hdf : D = false := by
              rw [← HD.out]
              exact allB_no hlt Hdk.out
            have Hdf := Lib.hid hdf; clear hdf
            go_wp2_with fail
            go_quiet (fail)
            go_wp2_with fail
            go_ret
            exact ⟨ret_eq (bool_eq Hdf.out.symm), by (repeat (first | (with_reducible assumption) | (with_reducible exact Below.refl _ _) | exact Nat.le_refl _ | exact Below.size (by with_reducible assumption) | (with_reducible refine Below.drew ?_) | (with_reducible refine below_drewN ?_ _) | (with_reducible refine Below.alloc ?_ ?_ _) | (with_reducible refine Below.setCell ?_ ?_ _) | (with_reducible refine le_alloc ?_ _) | (with_reducible refine le_set ?_ _ _) | (with_reducible refine le_drew ?_) | (with_reducible refine le_drewN ?_ _) | omega | (dsimp only; omega)))⟩
        · obtain rfl : q = n0 := by omega
          have hdt : D = true := by
            rw [← HD.out]
            exact allB_iff.2 Hq.out
          have Hdt := Lib.hid hdt; clear hdt
          go_wp2_with fail
          go_ret
          exact ⟨ret_eq (bool_eq Hdt.out.symm), hbw⟩
end Go.Proofs.YtejndpoebohhaaaGreat
/- IsDistinct: the program: choiceCode, the closure, the search for a clash. -/
namespace Go.Proofs.YtejndpoebohhaaaGreat
open Go.RowKit
def codeK (pss : List (List Int)) (m : Int) (xs : List Ch) (tol b : Int) : Int := bif !(pairsB pss m && xs.all validB) then 1 else bif !(inB tol 0 20 && inB b 1 20000) then 2 else bif !decide (xs.length ≤ 12) then 5 else 0
set_option maxRecDepth 100000 in
set_option maxHeartbeats 2000000 in
theorem chcCode_c (A0 : Option Addr) (n0 c0 : Nat) (rs : List RowG) (m : Int) (A : Option Addr) (n c : Nat) (zs : List ChG) (tol b : Int) (w : World) (h0 : RS w A0 n0 rs) (m0 : n0 ≤ 1048576) (h : ChS w A n zs) (hm : n ≤ 1048576) :
    Calls Tryz.prog 28 #[.slice A0 n0 c0, .int .i64 m, .slice A n c, .int .i64 tol, .int .i64 b] w fun e w' => e = .returned (.int .i64 (codeK (rs.map RowG.xs) m (zs.map ChG.x) tol b)) ∧ Below w.heap.size w w' := by
  have hlx : (zs.map ChG.x).length = n := by rw [List.length_map]; exact h.len
  obtain ⟨P, hP⟩ : ∃ P, pairsB (rs.map RowG.xs) m = P := ⟨_, rfl⟩
  obtain ⟨V, hV⟩ : ∃ V, (zs.map ChG.x).all validB = V := ⟨_, rfl⟩
  obtain ⟨T, hT⟩ : ∃ T, inB tol 0 20 = T := ⟨_, rfl⟩
  obtain ⟨B, hB⟩ : ∃ B, inB b 1 20000 = B := ⟨_, rfl⟩
  have cP : Calls Tryz.prog 43 #[.slice A0 n0 c0, .int .i64 m] w fun e w' => e = .returned (.bool P) ∧ Below w.heap.size w w' := hP ▸ implPairs_c A0 n0 c0 rs m w h0 m0
  have cV : ∀ w1, Below w.heap.size w w1 → Calls Tryz.prog 44 #[.slice A n c] w1 fun e w' => e = .returned (.bool V) ∧ Below w1.heap.size w1 w' := fun w1 hb => hV ▸ areAllValid_c A n c zs w1 (h.next hb) hm
  have cT : ∀ w1, Calls Tryz.prog 45 #[.int .i64 tol] w1 fun e w' => e = .returned (.bool T) ∧ w1 = w' := fun w1 => hT ▸ isTolerance_c _ _
  have cB : ∀ w1, Calls Tryz.prog 46 #[.int .i64 b, .int .i64 1, .int .i64 20000] w1 fun e w' => e = .returned (.bool B) ∧ w1 = w' := fun w1 => hB ▸ within_c _ _ _ _
  have cF : ∀ w1, Calls Tryz.prog 47 #[.int .i64 (n : Int), .int .i64 12] w1 fun e w' => e = .returned (.bool (decide (n ≤ 12))) ∧ w1 = w' := fun w1 => by
    have := few_c (n : Int) 12 w1
    rwa [show decide ((n : Int) ≤ 12) = decide (n ≤ 12) by simp; omega] at this
  have hK : codeK (rs.map RowG.xs) m (zs.map ChG.x) tol b = bif !(P && V) then 1 else bif !(T && B) then 2 else bif !decide (n ≤ 12) then 5 else 0 := by rw [codeK, hP, hV, hT, hB, hlx]
  rw [hK]
  obtain ⟨F, hF⟩ : ∃ F, decide (n ≤ 12) = F := ⟨_, rfl⟩
  rw [hF] at cF ⊢
  clear hP hV hT hB hK hlx h0 h hF
  have HP := Lib.hid cP; clear cP
  have HV := Lib.hid cV; clear cV
  have HT := Lib.hid cT; clear cT
  have HB := Lib.hid cB; clear cB
  have HF := Lib.hid cF; clear cF
  go_enter Tryz.func28, Tryz.ntmps28
  go_wp2_with fail
  refine HP.out.mono ?_
  rintro e w1 ⟨rfl, hb1⟩
  cases P
  · go_wp2_with fail
    go_ret
    exact ⟨rfl, hb1⟩
  go_wp2_with fail
  refine (HV.out _ hb1).mono ?_
  rintro e w2 ⟨rfl, hb2⟩
  replace hb2 := hb1.trans (hb2.mono hb1.size)
  cases V
  · go_wp2_with fail
    go_ret
    exact ⟨rfl, hb2⟩
  go_wp2_with fail
  refine (HT.out _).mono ?_
  rintro e w3 ⟨rfl, rfl⟩
  cases T
  · go_wp2_with fail
    go_ret
    exact ⟨rfl, hb2⟩
  go_wp2_with fail
  refine (HB.out _).mono ?_
  rintro e w3 ⟨rfl, rfl⟩
  cases B
  · go_wp2_with fail
    go_ret
    exact ⟨rfl, hb2⟩
  go_wp2_with fail
  refine (HF.out _).mono ?_
  rintro e w3 ⟨rfl, rfl⟩
  cases F
  all_goals
    go_wp2_with fail
    go_ret
    exact ⟨rfl, hb2⟩
abbrev clD (x1 x2 : Nat) : Value := .func (.func 32) #[] #[.pointer (some ⟨x1, 0, none⟩), .pointer (some ⟨x2, 0, none⟩)]
set_option maxRecDepth 100000 in
set_option maxHeartbeats 2000000 in
theorem ddClos_c (gp o cc x1 x2 g b1 o1 n1 c1 i j u v : Nat) (R : Bool) (w : World) (hx1 : w.cell? ⟨x1, 0, none⟩ = some (.pointer (some ⟨g, 0, none⟩))) (hx2 : w.cell? ⟨x2, 0, none⟩ = some (.slice (some ⟨b1, o1, none⟩) n1 c1))
    (ca : w.cell? ⟨gp, o, none⟩ = some (.int .i64 (i : Int))) (cd : w.cell? ⟨gp, o + 1, none⟩ = some (.int .i64 (j : Int))) (hi : i < n1) (hj : j < n1)
    (cu : w.cell? ⟨b1, o1 + i, none⟩ = some (.int .i64 (u : Int))) (cv : w.cell? ⟨b1, o1 + j, none⟩ = some (.int .i64 (v : Int))) (hu : u < 12) (hv : v < 12)
    (ct : w.cell? ⟨g, 3 + u * 12 + v, none⟩ = some (.bool R)) :
    Calls Tryz.prog 32 #[.slice (some ⟨gp, o, none⟩) 2 cc, .pointer (some ⟨x1, 0, none⟩), .pointer (some ⟨x2, 0, none⟩)] w fun e w' => e = .returned (.bool R) ∧ Below w.heap.size w w' := by
  have i0 : (0 : Int) ≤ (i : Int) := by omega
  have i1 : (i : Int) < (n1 : Int) := by omega
  have j0 : (0 : Int) ≤ (j : Int) := by omega
  have j1 : (j : Int) < (n1 : Int) := by omega
  have u0 : (0 : Int) ≤ (u : Int) := by omega
  have u1 : (u : Int) < 12 := by omega
  have v0 : (0 : Int) ≤ (v : Int) := by omega
  have v1 : (v : Int) < 12 := by omega
  go_enter Tryz.func32, Tryz.ntmps32
  go_wp2_with fail
  go_quiet (fail)
  go_wp2_with fail
  go_ret
  exact ⟨rfl, by (repeat (first | (with_reducible assumption) | (with_reducible exact Below.refl _ _) | exact Nat.le_refl _ | exact Below.size (by with_reducible assumption) | (with_reducible refine Below.drew ?_) | (with_reducible refine below_drewN ?_ _) | (with_reducible refine Below.alloc ?_ ?_ _) | (with_reducible refine Below.setCell ?_ ?_ _) | (with_reducible refine le_alloc ?_ _) | (with_reducible refine le_set ?_ _ _) | (with_reducible refine le_drew ?_) | (with_reducible refine le_drewN ?_ _) | omega | (dsimp only; omega)))⟩
set_option maxRecDepth 100000 in
set_option maxHeartbeats 2000000 in
theorem ddIndex_c (A : Option Addr) (n c : Nat) (rs : List RowG) (x1 x2 : Nat) (q : Nat → Bool) (w : World) (h : RS w A n rs) (hm : n ≤ 1048576)
    (hC : ∀ k r, rs[k]? = some r → ∀ w', Below w.heap.size w w' → Calls Tryz.prog 32 #[.slice r.A r.xs.length r.c, .pointer (some ⟨x1, 0, none⟩), .pointer (some ⟨x2, 0, none⟩)] w' fun e w'' => e = .returned (.bool (!q k)) ∧ Below w'.heap.size w' w'') :
    Calls Tryz.prog 49 #[.slice A n c, clD x1 x2] w fun e w' => (∃ r : Int, e = .returned (.int .i64 r) ∧ decide (0 ≤ r) = !(allB n q)) ∧ Below w.heap.size w w' := by
  have HC := Lib.hid hC; clear hC
  go_enter Tryz.func49, Tryz.ntmps49
  go_wp2
  go_loopw [5, 8] (fun _ i wr => ∃ k : Nat, k ≤ n ∧ i = .int .i64 k ∧ Hid (∀ j, j < k → q j = true) ∧ Below w.heap.size w wr) (fun _ i _ => n - (intOf i).toNat)
  case atStart => exact ⟨0, Nat.zero_le _, rfl, Lib.hid (fun j hj => absurd hj (by omega)), Below.refl _ _⟩
  case round =>
    obtain ⟨k, hk, rfl, Hq, hbw⟩ := hrel
    have k0 : (0 : Int) ≤ (k : Int) := by omega
    by_cases hlt : k < n
    · have k1 : (k : Int) < (n : Int) := by omega
      obtain ⟨b, off, r, rfl, hb, hr, _, _, q0⟩ := (h.next hbw).get k hlt
      have hc := HC.out k r hr wr hbw
      have Hr := Lib.hid hr; clear hr
      cases hv : q k
      all_goals
        rw [hv] at hc
        have HCk := Lib.hid hc; clear hc
        have Hv := Lib.hid hv; clear hv
        go_wp2_with fail
        refine HCk.out.mono ?_
        rintro e w2 ⟨rfl, hb2⟩
        go_wp2_with fail
      · go_ret
        exact ⟨⟨_, rfl, by rw [allB_no hlt Hv.out]; simp⟩, hbw.trans (hb2.mono hbw.size)⟩
      · go_roundw
        case rel =>
          refine ⟨k + 1, by omega, by go_num, Lib.hid (fun j hj => ?_), hbw.trans (hb2.mono hbw.size)⟩
          rcases Nat.lt_or_ge j k with h2 | h2
          · exact Hq.out j h2
          · obtain rfl : j = k := by omega
            exact Hv.out
        case measure => simp [intOf]; omega
    · obtain rfl : k = n := by omega
      go_wp2_with fail
      go_ret
      exact ⟨⟨_, rfl, by rw [allB_iff.2 Hq.out]; rfl⟩, hbw⟩
set_option maxRecDepth 100000 in
set_option maxHeartbeats 1000000 in
theorem ddHas_c (A : Option Addr) (n c : Nat) (rs : List RowG) (x1 x2 : Nat) (q : Nat → Bool) (w : World) (h : RS w A n rs) (hm : n ≤ 1048576)
    (hC : ∀ k r, rs[k]? = some r → ∀ w', Below w.heap.size w w' → Calls Tryz.prog 32 #[.slice r.A r.xs.length r.c, .pointer (some ⟨x1, 0, none⟩), .pointer (some ⟨x2, 0, none⟩)] w' fun e w'' => e = .returned (.bool (!q k)) ∧ Below w'.heap.size w' w'') :
    Calls Tryz.prog 31 #[.slice A n c, clD x1 x2] w fun e w' => e = .returned (.bool (!(allB n q))) ∧ Below w.heap.size w w' := by
  have hI := ddIndex_c A n c rs x1 x2 q w h hm hC
  clear hC
  have HI := Lib.hid hI; clear hI
  go_enter Tryz.func31, Tryz.ntmps31
  go_wp2_with fail
  refine HI.out.mono ?_
  rintro e w1 ⟨⟨r, rfl, hr⟩, hb1⟩
  have Hr := Lib.hid hr; clear hr
  by_cases h0 : 0 ≤ r
  all_goals
    go_wp2_with fail
    go_ret
    exact ⟨ret_eq (bool_eq (by first | (rw [← Hr.out]; done) | (rw [← Hr.out]; simp [h0]))), hb1⟩
end Go.Proofs.YtejndpoebohhaaaGreat
/- IsDistinct: the program. -/
namespace Go.Proofs.YtejndpoebohhaaaGreat
open Go.RowKit
theorem pairs_at {w : World} {A : Option Addr} {n : Nat} {rs : List RowG} {m : Int} (h : RS w A n rs) (hp : pairsB (rs.map RowG.xs) m = true) (k : Nat) (r : RowG) (hr : rs[k]? = some r) :
    ∃ g o, ∃ i j : Nat, r.A = some ⟨g, o, none⟩ ∧ r.xs = [(i : Int), (j : Int)] ∧ i < j ∧ (j : Int) ≤ m - 1 ∧ g < w.heap.size ∧ w.cell? ⟨g, o, none⟩ = some (.int .i64 (i : Int)) ∧ w.cell? ⟨g, o + 1, none⟩ = some (.int .i64 (j : Int)) := by
  have hrx : (rs.map RowG.xs)[k]? = some r.xs := by rw [List.getElem?_map, hr]; rfl
  obtain ⟨a, d, he, ha0, had, hdn⟩ := pairs_two hp hrx
  obtain ⟨i, rfl⟩ := Int.eq_ofNat_of_zero_le ha0
  obtain ⟨j, rfl⟩ := Int.eq_ofNat_of_zero_le (show 0 ≤ d by omega)
  have s0 := (h.ok r (List.mem_of_getElem? hr)).1
  rw [he] at s0
  obtain ⟨g, o, hgA, hgl, ca, cd⟩ := two_cells s0 rfl
  exact ⟨g, o, i, j, hgA, he, by omega, hdn, hgl, ca, cd⟩
set_option maxRecDepth 100000 in
set_option maxHeartbeats 4000000 in
theorem implDis_c (A0 : Option Addr) (n0 c0 : Nat) (rs : List RowG) (A1 : Option Addr) (n1 c1 : Nat) (ch : List Int) (A : Option Addr) (n c : Nat) (zs : List ChG) (tol : Int) (w : World) (h0 : RS w A0 n0 rs) (m0 : n0 ≤ 1048576)
    (h1 : Sl w w.heap.size 1 A1 n1 (ch.flatMap intC)) (m1 : n1 ≤ 1048576) (h : ChS w A n zs) (hm : n ≤ 1048576) :
    Calls Tryz.prog 11 #[.slice A0 n0 c0, .slice A1 n1 c1, .slice A n c, .int .i64 tol] w fun e w' => e = .returned (.bool (disB (rs.map RowG.xs) ch (zs.map ChG.x) tol)) ∧ Below w.heap.size w w' := by
  have hl0 : (rs.map RowG.xs).length = n0 := by rw [List.length_map]; exact h0.len
  have hl1 : ch.length = n1 := h1.len intC 1 intC_len (by omega)
  have hlx : (zs.map ChG.x).length = n := by rw [List.length_map]; exact h.len
  have hb0 : Below w.heap.size w (w.alloc (.cells #[.slice A1 n1 c1] 23)) := by (repeat (first | (with_reducible assumption) | (with_reducible exact Below.refl _ _) | exact Nat.le_refl _ | exact Below.size (by with_reducible assumption) | (with_reducible refine Below.drew ?_) | (with_reducible refine below_drewN ?_ _) | (with_reducible refine Below.alloc ?_ ?_ _) | (with_reducible refine Below.setCell ?_ ?_ _) | (with_reducible refine le_alloc ?_ _) | (with_reducible refine le_set ?_ _ _) | (with_reducible refine le_drew ?_) | (with_reducible refine le_drewN ?_ _) | omega | (dsimp only; omega)))
  have hx := (cell_of_row _ w.heap.size 0 _ _ _ (heap_alloc_new w (.cells #[.slice A1 n1 c1] 23))).trans (rfl : _ = some (Value.slice A1 n1 c1))
  have hxz : w.heap.size < (w.alloc (.cells #[.slice A1 n1 c1] 23)).heap.size := by simp
  obtain ⟨w0, hw⟩ : ∃ w0, w.alloc (.cells #[.slice A1 n1 c1] 23) = w0 := ⟨_, rfl⟩
  rw [hw] at hb0 hx hxz
  have s0 := h0.next hb0
  have s1 := h1.next hb0
  have s2 := h.next hb0
  have hK := chcCode_c A0 n0 c0 rs n1 A n c zs tol 1 w0 s0 m0 s2 hm
  have hdis := disB_eq (tol := tol) hl0 hl1 hlx
  have hkd : codeK (rs.map RowG.xs) n1 (zs.map ChG.x) tol 1 = bif !(pairsB (rs.map RowG.xs) n1 && (zs.map ChG.x).all validB) then 1 else bif !(inB tol 0 20) then 2 else bif !decide (n ≤ 12) then 5 else 0 := by
    rw [codeK, hlx, show inB 1 1 20000 = true from rfl, Bool.and_true]
  have cN : pairsB (rs.map RowG.xs) n1 = true → (zs.map ChG.x).all validB = true → n ≤ 12 → ∀ w1, Below w0.heap.size w0 w1 → Calls Tryz.prog 30 #[.slice A0 n0 c0, .int .i64 n1, .slice A n c, .int .i64 tol] w1 fun e w' => ∃ (g : Nat) (ys : List Value) (T : Nat → Nat → Bool), e = .returned (.pointer (some ⟨g, 0, none⟩)) ∧ Chz w' w1.heap.size g ys ∧ TabIs ys T ∧ (∀ i j, i < n → j < n → T i j = tabB (clP (zs.map ChG.x) tol) i j) ∧ Below w1.heap.size w1 w' :=
    fun a b d w1 hb => newChoosing_c A0 n0 c0 rs n1 A n c zs tol w1 (s0.next hb) m0 a (s2.next hb) b d
  obtain ⟨P, hP⟩ : ∃ P, pairsB (rs.map RowG.xs) n1 = P := ⟨_, rfl⟩
  obtain ⟨V, hV⟩ : ∃ V, (zs.map ChG.x).all validB = V := ⟨_, rfl⟩
  obtain ⟨T, hT⟩ : ∃ T, inB tol 0 20 = T := ⟨_, rfl⟩
  obtain ⟨p, hp⟩ : ∃ p, clP (zs.map ChG.x) tol = p := ⟨_, rfl⟩
  obtain ⟨K, hKe⟩ : ∃ K, codeK (rs.map RowG.xs) n1 (zs.map ChG.x) tol 1 = K := ⟨_, rfl⟩
  obtain ⟨D, hD⟩ : ∃ D, disB (rs.map RowG.xs) ch (zs.map ChG.x) tol = D := ⟨_, rfl⟩
  rw [hP, hV, hT, hKe] at hkd
  rw [hP, hV, hT, hp, hD] at hdis
  rw [hP, hV, hp] at cN
  rw [hKe] at hK
  rw [hD]
  have hget : ∀ (k : Nat) (r : RowG), rs[k]? = some r → (rs.map RowG.xs)[k]? = some r.xs := fun k r hr => by rw [List.getElem?_map, hr]; rfl
  obtain ⟨pss, hps⟩ : ∃ pss, rs.map RowG.xs = pss := ⟨_, rfl⟩
  rw [hps] at hP hl0 hget hdis
  clear hV hT hp hKe hD h h0 h1 hlx
  have HPs := Lib.hid hps; clear hps
  have HL0 := Lib.hid hl0; clear hl0
  have HL1 := Lib.hid hl1; clear hl1
  have HPe := Lib.hid hP; clear hP
  have HG := Lib.hid hget; clear hget
  have H0 := Lib.hid s0; clear s0
  have H1 := Lib.hid s1; clear s1
  have H2 := Lib.hid s2; clear s2
  have HK := Lib.hid hK; clear hK
  have HN := Lib.hid cN; clear cN
  by_cases hbad : (P && (V && (decide (n ≤ 12) && T))) = false
  · have hk0 : ¬ K = 0 := by
      rw [hkd]
      intro e
      cases P <;> cases V <;> cases T <;> cases hq : decide (n ≤ 12) <;> simp_all
    have hdf : D = false := by
      rw [hdis]
      cases P <;> cases V <;> cases T <;> cases hq : decide (n ≤ 12) <;> simp_all
    have hkb : (K != 0) = true := by simpa using hk0
    have hkb2 : (K == 0) = false := by simpa using hk0
    clear hkd hdis hbad
    have Hdf := Lib.hid hdf; clear hdf
    go_enter Tryz.func11, Tryz.ntmps11
    go_wp2_with fail
    try rw [hw]
    clear hw
    refine HK.out.mono ?_
    rintro e w1 ⟨rfl, hb1⟩
    have hx1 := (keepC hb1 w.heap.size hxz 0).trans hx
    go_wp2_with fail
    go_ret
    exact ⟨ret_eq (bool_eq Hdf.out.symm), hb0.trans (hb1.mono hb0.size)⟩
  obtain ⟨rfl, rfl, hn, rfl⟩ : P = true ∧ V = true ∧ n ≤ 12 ∧ T = true := by
    cases P <;> cases V <;> cases T <;> cases hq : decide (n ≤ 12) <;> simp_all
  obtain rfl : K = 0 := by rw [hkd, decide_eq_true hn]; rfl
  have hd2 : D = (inCh ch n && allB n0 (disK p ch pss)) := by rw [hdis, decide_eq_true hn]; simp
  have HN2 := Lib.hid (HN.out rfl rfl hn)
  clear hkd hdis hbad HN
  have HD := Lib.hid hd2; clear hd2
  go_enter Tryz.func11, Tryz.ntmps11
  go_wp2_with fail
  try rw [hw]
  clear hw
  refine HK.out.mono ?_
  rintro e w1 ⟨rfl, hb1⟩
  have hx1 := (keepC hb1 w.heap.size hxz 0).trans hx
  go_wp2_with fail
  have hbw1 := hb0.trans (hb1.mono hb0.size)
  go_loopw [21] (fun i wr => ∃ k : Nat, k ≤ n1 ∧ i = .int .i64 k ∧ Hid (∀ (j : Nat) (x : Int), j < k → ch[j]? = some x → 0 ≤ x ∧ x ≤ (n : Int) - 1) ∧ Below w0.heap.size w0 wr) (fun i _ => n1 - (intOf i).toNat)
  case atStart => exact ⟨0, Nat.zero_le _, rfl, Lib.hid (fun j x hj => absurd hj (by omega)), hb1⟩
  case round =>
    clear hb1 hbw1 hx1
    obtain ⟨k, hk, rfl, Hc, hbw⟩ := hrel
    have k0 : (0 : Int) ≤ (k : Int) := by omega
    have hxr := (keepC hbw w.heap.size hxz 0).trans hx
    have hbf := hb0.trans (hbw.mono hb0.size)
    by_cases hlt : k < n1
    · have k1 : (k : Int) < (n1 : Int) := by omega
      obtain ⟨b1, o1, x, rfl, hb1, hxk, cx⟩ := (H1.out.next hbw).int k hlt
      have hI := at_c x n wr
      rw [show (decide (0 ≤ x) && decide (x < (n : Int))) = inB x 0 ((n : Int) - 1) by rw [Bool.eq_iff_iff, inB_iff]; simp; omega] at hI
      cases hxi : inB x 0 ((n : Int) - 1)
      all_goals
        rw [hxi] at hI
        have HI := Lib.hid hI; clear hI
      · have hdf : D = false := by
          rw [HD.out, Bool.and_eq_false_iff]
          refine .inl ?_
          cases hq : inCh ch n
          · rfl
          · have := inCh_iff.1 hq x (List.mem_of_getElem? hxk)
            have h2 := inB_no.1 hxi
            omega
        have Hdf := Lib.hid hdf; clear hdf
        have Hxi := Lib.hid hxi; clear hxi
        have Hx := Lib.hid hxk; clear hxk
        go_wp2_with fail
        refine HI.out.mono ?_
        rintro e w5 ⟨rfl, rfl⟩
        go_wp2_with fail
        go_ret
        exact ⟨ret_eq (bool_eq Hdf.out.symm), hbf⟩
      · have Hxi := Lib.hid hxi; clear hxi
        have Hx := Lib.hid hxk; clear hxk
        go_wp2_with fail
        refine HI.out.mono ?_
        rintro e w5 ⟨rfl, rfl⟩
        go_wp2_with fail
        go_roundw
        case rel =>
          refine ⟨k + 1, by omega, by go_num, Lib.hid (fun j y hj hy => ?_), hbw⟩
          rcases Nat.lt_or_ge j k with h2 | h2
          · exact Hc.out j y h2 hy
          · obtain rfl : j = k := by omega
            rw [Hx.out] at hy
            injection hy with hy
            subst hy
            exact inB_iff.1 Hxi.out
        case measure => simp [intOf]; omega
    · obtain rfl : k = n1 := by omega
      have hin : inCh ch n = true := inCh_iff.2 fun x hx => by
        obtain ⟨j, hj⟩ := List.getElem?_of_mem hx
        exact Hc.out j x (by have := (List.getElem?_eq_some_iff.1 hj).1; rw [HL1.out] at this; exact this) hj
      have hD := HD.out
      rw [hin, Bool.true_and] at hD
      clear HD
      have HD := Lib.hid hD; clear hD
      have Hin := Lib.hid hin; clear hin
      go_wp2_with fail
      refine (HN2.out _ hbw).mono ?_
      rintro e w5 ⟨g, ys, T, rfl, hcz, ht, hte, hb5'⟩
      have hb5 := hbw.trans (hb5'.mono hbw.size)
      have hx5 := (keepC hb5 w.heap.size hxz 0).trans hx
      have hbf5 := hb0.trans (hb5.mono hb0.size)
      clear hb5' hbw hbf hxr
      have HCz := Lib.hid hcz; clear hcz
      have HT := Lib.hid ht; clear ht
      have HTe := Lib.hid hte; clear hte
      have hbA := (Below.refl w5.heap.size w5).alloc (Nat.le_refl _) (.cells #[.pointer (some ⟨g, 0, none⟩)] 60)
      have hxA := (cell_of_row _ w5.heap.size 0 _ _ _ (heap_alloc_new w5 (.cells #[.pointer (some ⟨g, 0, none⟩)] 60))).trans (rfl : _ = some (Value.pointer (some ⟨g, 0, none⟩)))
      obtain ⟨w6, hw6⟩ : ∃ w6, w5.alloc (.cells #[.pointer (some ⟨g, 0, none⟩)] 60) = w6 := ⟨_, rfl⟩
      rw [hw6] at hbA hxA
      have hzA : w5.heap.size < w6.heap.size := by rw [← hw6]; simp
      have hb6 := hb5.trans (hbA.mono hb5.size)
      have hbf6 := hb0.trans (hb6.mono hb0.size)
      have hcz6 := own_next HCz.out hbA
      have hC : ∀ q r, rs[q]? = some r → ∀ w', Below w6.heap.size w6 w' → Calls Tryz.prog 32 #[.slice r.A r.xs.length r.c, .pointer (some ⟨w5.heap.size, 0, none⟩), .pointer (some ⟨w.heap.size, 0, none⟩)] w' fun e w'' => e = .returned (.bool (!disK p ch pss q)) ∧ Below w'.heap.size w' w'' := by
        intro q r hr w' hb'
        have hrx := HG.out q r hr
        have hb6' := hb6.trans (hb'.mono hb6.size)
        obtain ⟨gp, o, i, j, hgA, he, hij, hjm, hgp, ca, cd⟩ := pairs_at H0.out (by rw [HPs.out]; exact HPe.out) q r hr
        obtain ⟨b1, o1, x, hA1, hb1, hxi, cx⟩ := (H1.out.next hb6').int i (by omega)
        obtain ⟨b2, o2, y, hA2, hb2, hyj, cy⟩ := (H1.out.next hb6').int j (by omega)
        rw [hA1] at hA2
        injection hA2 with hA2
        injection hA2 with e1 e2 _
        subst e1 e2
        obtain ⟨x0, x1⟩ := Hc.out i x (by omega) hxi
        obtain ⟨y0, y1⟩ := Hc.out j y (by omega) hyj
        obtain ⟨u, rfl⟩ := Int.eq_ofNat_of_zero_le x0
        obtain ⟨v, rfl⟩ := Int.eq_ofNat_of_zero_le y0
        have ct : w'.cell? ⟨g, 3 + u * 12 + v, none⟩ = some (.bool (T u v)) := by
          rw [(own_next hcz6 hb').cellAt (3 + u * 12 + v) (by omega)]
          exact HT.out u v (by omega) (by omega)
        have hdk : (!disK p ch pss q) = T u v := by
          rw [he] at hrx
          rw [disK_at hrx (x := u) (y := v) (by simpa using hxi) (by simpa using hyj), HTe.out u v (by omega) (by omega)]
          simp
        have hx2 := (keepC hb6' w.heap.size hxz 0).trans hx
        rw [hA1] at hx2
        rw [hdk, hgA, he]
        exact ddClos_c gp o r.c w5.heap.size w.heap.size g b1 o1 k c1 i j u v (T u v) w' ((keepC hb' w5.heap.size hzA 0).trans hxA) hx2 ((keepC hb6' gp hgp o).trans ca) ((keepC hb6' gp hgp (o + 1)).trans cd) (by omega) (by omega) cx cy (by omega) (by omega) ct
      have hHas := ddHas_c A0 n0 c0 rs w5.heap.size w.heap.size (disK p ch pss) w6 (H0.out.next hb6) m0 hC
      clear hC hcz6 hxA
      have HHas := Lib.hid hHas; clear hHas
      go_wp2_with fail
      try rw [hw6]
      clear hw6
      refine HHas.out.mono ?_
      rintro e w7 ⟨rfl, hb7⟩
      go_wp2_with fail
      go_ret
      exact ⟨ret_eq (bool_eq (by first | (rw [HD.out]; done) | (rw [HD.out]; simp))), hbf6.trans (hb7.mono hbf6.size)⟩
end Go.Proofs.YtejndpoebohhaaaGreat
/- The walk of the law FnExactIsDistinct. -/
namespace Go.Proofs.YtejndpoebohhaaaGreat
open Go.RowKit
theorem dd_size {zs zs' : List ChG} (h : zs'.map ChG.x = zs.map ChG.x) (hb : ∀ z ∈ zs, z.n ≤ 1048576 ∧ z.x.l.size ≤ 1048576 ∧ z.x.cs.size ≤ 1048576) : ∀ z ∈ zs', z.n ≤ 1048576 ∧ z.x.l.size ≤ 1048576 ∧ z.x.cs.size ≤ 1048576 := by
  intro z hz
  have h1 : z.x ∈ zs.map ChG.x := by rw [← h]; exact List.mem_map_of_mem hz
  obtain ⟨y, hy, he⟩ := List.mem_map.1 h1
  have := hb y hy
  rw [ChG.n, he] at this
  exact this
theorem dd_rows {rs rs' : List RowG} (h : rs'.map RowG.xs = rs.map RowG.xs) (hb : ∀ r ∈ rs, r.xs.length ≤ 1048576) : ∀ r ∈ rs', r.xs.length ≤ 1048576 := by
  intro r hr
  have h1 : r.xs ∈ rs.map RowG.xs := by rw [← h]; exact List.mem_map_of_mem hr
  obtain ⟨y, hy, he⟩ := List.mem_map.1 h1
  rw [← he]; exact hb y hy
theorem dd_sum {zs : List ChG} {z : ChG} (h : z ∈ zs) : z.n ≤ sumN zs := by
  unfold sumN
  induction zs with
  | nil => cases h
  | cons a t ih =>
    rw [List.map_cons, List.sum_cons]
    rcases List.mem_cons.1 h with rfl | h2
    · omega
    · have := ih h2; omega
set_option maxRecDepth 100000 in
set_option maxHeartbeats 4000000 in
theorem lawIsDistinct_c (A0 : Option Addr) (n0 c0 : Nat) (rs : List RowG) (A1 : Option Addr) (n1 c1 : Nat) (ch : List Int) (A : Option Addr) (n c : Nat) (zs : List ChG) (tol : Int) (w : World)
    (h0 : Sl w w.heap.size 1 A0 n0 (rs.flatMap RowG.cells)) (m0 : n0 ≤ maxLen) (i0 : ∀ r ∈ rs, Sl w w.heap.size 1 r.A r.xs.length (r.xs.flatMap intC) ∧ r.xs.length ≤ maxLen)
    (h1 : Sl w w.heap.size 1 A1 n1 (ch.flatMap intC)) (m1 : n1 ≤ maxLen)
    (h : Sl w w.heap.size 5 A n (zs.flatMap ChG.cells)) (hm : n ≤ maxLen)
    (hg : ∀ z ∈ zs, Sl w w.heap.size 1 z.A z.n (z.x.gs.flatMap intC)) (hz : ∀ z ∈ zs, z.n ≤ maxLen ∧ z.x.l.size ≤ maxLen ∧ z.x.cs.size ≤ maxLen) :
    Calls Tryz.prog 3 #[.slice A0 n0 c0, .slice A1 n1 c1, .slice A n c, .int .i64 tol] w fun e w' => e = .returned (.bool true) ∧ Below w.heap.size w w' := by
  have hl1 := h1.len intC 1 intC_len (by omega)
  unfold maxLen at m1
  have Hz := Lib.hid hz; clear hz
  have HI0 := Lib.hid i0; clear i0
  have HG := Lib.hid hg; clear hg
  have Hl1 := Lib.hid hl1; clear hl1
  by_cases hbig : 1048576 < n1
  · have hbig' : (1048576 : Int) < (n1 : Int) := by omega
    go_enter Tryz.func3, Tryz.ntmps3
    go_wp2_with fail
    go_ret
    exact ⟨rfl, Below.refl _ _⟩
  have hbig' : ¬ (1048576 : Int) < (n1 : Int) := by omega
  go_enter Tryz.func3, Tryz.ntmps3
  go_wp2_with fail
  refine (szRows_c A0 n0 c0 rs _ _ h0 m0 (fun r hr => (HI0.out r hr).2) (by omega) (by omega)).mono ?_
  rintro e wa ⟨r0, rfl, hr0, hba⟩
  have Hr0 := Lib.hid hr0; clear hr0
  go_wp2_with fail
  · go_ret
    exact ⟨rfl, hba⟩
  have hr0b : 0 ≤ r0 ∧ r0 ≤ 1048576 ∧ (n0 : Int) ≤ 1048576 ∧ Hid (∀ z ∈ rs, z.xs.length ≤ 1048576) := by
    rcases Hr0.out with hr | ⟨a, b, c, d⟩
    · omega
    · exact ⟨a, b, c, Lib.hid d⟩
  obtain ⟨r0a, r0b, r0c, Hrl⟩ := hr0b
  clear Hr0
  refine (szCharacterS_c A n c zs _ _ (h.next hba) hm Hz.out (by omega) (by omega)).mono ?_
  rintro e w1 ⟨r, rfl, hr, hb1⟩
  replace hb1 := hba.trans (hb1.mono hba.size)
  have Hr := Lib.hid hr; clear hr
  go_wp2_with fail
  · go_ret
    exact ⟨rfl, hb1⟩
  obtain ⟨hr0, hr1, hls⟩ : 0 ≤ r ∧ r + n + (sumN zs : Nat) ≤ r0 ∧ ∀ z ∈ zs, z.x.l.size ≤ 1048576 ∧ z.x.cs.size ≤ 1048576 := by
    rcases Hr.out with hr | hr
    · omega
    · exact hr
  have hn : n ≤ 1048576 := by omega
  have hn0 : n0 ≤ 1048576 := by omega
  have hn1 : n1 ≤ 1048576 := by omega
  have hbz : ∀ z ∈ zs, z.n ≤ 1048576 ∧ z.x.l.size ≤ 1048576 ∧ z.x.cs.size ≤ 1048576 := fun z hz => ⟨by have := dd_sum hz; omega, hls z hz⟩
  have hS : ChS w A n zs := ⟨h, fun z hz => ⟨HG.out z hz, (hbz z hz).1, (hbz z hz).2.1, (hbz z hz).2.2⟩⟩
  have hR : RS w A0 n0 rs := ⟨h0, fun r hr => ⟨(HI0.out r hr).1, Hrl.out r hr⟩⟩
  clear Hr hls hr0 hr1 r0a r0b r0c Hz HG HI0 h0 h
  obtain ⟨D, hD⟩ : ∃ D, disB (rs.map RowG.xs) ch (zs.map ChG.x) tol = D := ⟨_, rfl⟩
  have hSp : ∀ w1 B0 d0 rs' B1 d1 B2 d2 zs', RS w1 B0 n0 rs' → rs'.map RowG.xs = rs.map RowG.xs → Sl w1 w1.heap.size 1 B1 n1 (ch.flatMap intC) → ChS w1 B2 n zs' → zs'.map ChG.x = zs.map ChG.x → Calls Tryz.prog 7 #[.slice B0 n0 d0, .slice B1 n1 d1, .slice B2 n d2, .int .i64 tol] w1 fun e w' => e = .returned (.bool D) ∧ Below w1.heap.size w1 w' := fun w1 B0 d0 rs' B1 d1 B2 d2 zs' a0 e0 a1 a2 e2 => by
    have := specDis_c B0 n0 d0 rs' B1 n1 d1 ch B2 n d2 zs' tol w1 a0 hn0 a1 hn1 a2 hn
    rwa [e0, e2, hD] at this
  have hIm : ∀ w1 B0 d0 rs' B1 d1 B2 d2 zs', RS w1 B0 n0 rs' → rs'.map RowG.xs = rs.map RowG.xs → Sl w1 w1.heap.size 1 B1 n1 (ch.flatMap intC) → ChS w1 B2 n zs' → zs'.map ChG.x = zs.map ChG.x → Calls Tryz.prog 11 #[.slice B0 n0 d0, .slice B1 n1 d1, .slice B2 n d2, .int .i64 tol] w1 fun e w' => e = .returned (.bool D) ∧ Below w1.heap.size w1 w' := fun w1 B0 d0 rs' B1 d1 B2 d2 zs' a0 e0 a1 a2 e2 => by
    have := implDis_c B0 n0 d0 rs' B1 n1 d1 ch B2 n d2 zs' tol w1 a0 hn0 a1 hn1 a2 hn
    rwa [e0, e2, hD] at this
  have hC0 : ∀ w1, Below w.heap.size w w1 → Calls Tryz.prog 8 #[.slice A0 n0 c0] w1 fun e w' => ∃ A' c' rs', e = .returned (.slice A' n0 c') ∧ Hid (rs'.map RowG.xs = rs.map RowG.xs) ∧ RS w' A' n0 rs' ∧ Below w1.heap.size w1 w' := fun w1 hb => by
    refine (toRows_c A0 n0 c0 rs w1 (hR.next hb) hn0).mono ?_
    rintro e w' ⟨v', rs', he, hx, ho, hb'⟩
    obtain ⟨A', c', rfl⟩ := own_slice ho.own
    exact ⟨A', c', rs', he, Lib.hid hx, ho.rs (dd_rows hx Hrl.out), hb'⟩
  have hC1 : ∀ w1, Below w.heap.size w w1 → Calls Tryz.prog 9 #[.slice A1 n1 c1] w1 fun e w' => ∃ A' c', e = .returned (.slice A' n1 c') ∧ Sl w' w'.heap.size 1 A' n1 (ch.flatMap intC) ∧ Below w1.heap.size w1 w' := fun w1 hb => by
    refine (toInt64S_c A1 n1 c1 ch w1 (h1.next hb) hn1).mono ?_
    rintro e w' ⟨v', he, ho, hb'⟩
    obtain ⟨A', c', rfl⟩ := own_slice ho
    exact ⟨A', c', he, Sl.of_own ho, hb'⟩
  have hC2 : ∀ w1, Below w.heap.size w w1 → Calls Tryz.prog 10 #[.slice A n c] w1 fun e w' => ∃ A' c' zs', e = .returned (.slice A' n c') ∧ Hid (zs'.map ChG.x = zs.map ChG.x) ∧ ChS w' A' n zs' ∧ Below w1.heap.size w1 w' := fun w1 hb => by
    refine (toCharacterS_c A n c zs w1 (hS.next hb) hn).mono ?_
    rintro e w' ⟨v', zs', he, hx, ho, hb'⟩
    obtain ⟨A', c', rfl⟩ := own_slice ho.own
    exact ⟨A', c', zs', he, Lib.hid hx, ho.sl (dd_size hx hbz), hb'⟩
  clear hD hbz hS hR h1 hba
  have HSp := Lib.hid hSp; clear hSp
  have HIm := Lib.hid hIm; clear hIm
  have HC0 := Lib.hid hC0; clear hC0
  have HC1 := Lib.hid hC1; clear hC1
  have HC2 := Lib.hid hC2; clear hC2
  refine (HC0.out _ hb1).mono ?_
  rintro e w2 ⟨B0, d0, rs0, rfl, E0, s0, hb2⟩
  replace hb2 := hb1.trans (hb2.mono hb1.size)
  clear hb1
  go_wp2_with fail
  refine (HC1.out _ hb2).mono ?_
  rintro e w3 ⟨B1, d1, rfl, s1, hb3⟩
  replace s0 := s0.next hb3
  replace hb3 := hb2.trans (hb3.mono hb2.size)
  clear hb2
  go_wp2_with fail
  refine (HC2.out _ hb3).mono ?_
  rintro e w4 ⟨B2, d2, zs0, rfl, E2, s2, hb4⟩
  replace s0 := s0.next hb4
  replace s1 := s1.next hb4
  replace hb4 := hb3.trans (hb4.mono hb3.size)
  clear hb3
  go_wp2_with fail
  refine (HSp.out _ B0 d0 rs0 B1 d1 B2 d2 zs0 s0 E0.out s1 s2 E2.out).mono ?_
  rintro e w5 ⟨rfl, hb5⟩
  replace hb5 := hb4.trans (hb5.mono hb4.size)
  clear hb4 s0 s1 s2 E0 E2
  go_wp2_with fail
  refine (HC0.out _ hb5).mono ?_
  rintro e w6 ⟨G0, k0, rs1, rfl, E0, s0, hb6⟩
  replace hb6 := hb5.trans (hb6.mono hb5.size)
  clear hb5
  go_wp2_with fail
  refine (HC1.out _ hb6).mono ?_
  rintro e w7 ⟨G1, k1, rfl, s1, hb7⟩
  replace s0 := s0.next hb7
  replace hb7 := hb6.trans (hb7.mono hb6.size)
  clear hb6
  go_wp2_with fail
  refine (HC2.out _ hb7).mono ?_
  rintro e w8 ⟨G2, k2, zs1, rfl, E2, s2, hb8⟩
  replace s0 := s0.next hb8
  replace s1 := s1.next hb8
  replace hb8 := hb7.trans (hb8.mono hb7.size)
  clear hb7
  go_wp2_with fail
  refine (HIm.out _ G0 k0 rs1 G1 k1 G2 k2 zs1 s0 E0.out s1 s2 E2.out).mono ?_
  rintro e w9 ⟨rfl, hb9⟩
  replace s0 := s0.next hb9
  replace s1 := s1.next hb9
  replace s2 := s2.next hb9
  replace hb9 := hb8.trans (hb9.mono hb8.size)
  clear hb8
  go_wp2_with fail
  refine (HC0.out _ hb9).mono ?_
  rintro e w10 ⟨F0, f0, rs2, rfl, Ee, t0, hb10⟩
  replace s0 := s0.next hb10
  replace s1 := s1.next hb10
  replace s2 := s2.next hb10
  replace hb10 := hb9.trans (hb10.mono hb9.size)
  clear hb9
  go_wp2_with fail
  refine (eqRows_c G0 F0 k0 f0 n0 rs1 rs2 _ s0 t0 (E0.out.trans Ee.out.symm) hn0).mono ?_
  rintro e w11 ⟨rfl, hb11⟩
  replace s1 := s1.next hb11
  replace s2 := s2.next hb11
  replace hb11 := hb10.trans (hb11.mono hb10.size)
  clear hb10 s0 t0 Ee E0
  go_wp2_with fail
  refine (HC1.out _ hb11).mono ?_
  rintro e w12 ⟨F1, f1, rfl, t1, hb12⟩
  replace s1 := s1.next hb12
  replace s2 := s2.next hb12
  replace hb12 := hb11.trans (hb12.mono hb11.size)
  clear hb11
  go_wp2_with fail
  refine (eqInt64S_c G1 F1 n1 k1 f1 ch _ s1 t1 (by unfold maxLen; omega)).mono ?_
  rintro e w13 ⟨rfl, hb13⟩
  replace s2 := s2.next hb13
  replace hb13 := hb12.trans (hb13.mono hb12.size)
  clear hb12 s1 t1
  go_wp2_with fail
  refine (HC2.out _ hb13).mono ?_
  rintro e w14 ⟨F2, f2, zs2, rfl, Ee, t2, hb14⟩
  replace s2 := s2.next hb14
  replace hb14 := hb13.trans (hb14.mono hb13.size)
  clear hb13
  go_wp2_with fail
  refine (eqCharacterS_c G2 F2 n k2 f2 zs1 zs2 _ s2 t2 (E2.out.trans Ee.out.symm) hn).mono ?_
  rintro e w15 ⟨rfl, hb15⟩
  replace hb15 := hb14.trans (hb15.mono hb14.size)
  go_wp2_with fail
  go_ret
  exact ⟨rfl, hb15⟩
end Go.Proofs.YtejndpoebohhaaaGreat
