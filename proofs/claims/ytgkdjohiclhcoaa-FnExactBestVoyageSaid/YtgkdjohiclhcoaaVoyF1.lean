/- The search for the best voyage: what stays beside it. -/
import Derived.Test.YtgkdjohiclhcoaaVoyF
namespace Go.Proofs.Ytgkdjohiclhcoaa
open Go.RowKit
/-- What a search leaves alone: all but block X and the rows of its order and its calls. -/
structure Fr (X : Nat) (vo vc vo' vc' : Value) (w w' : World) : Prop where
  os : w'.os = w.os
  tape : w'.tape = w.tape
  output : w'.output = w.output
  size : w.heap.size ≤ w'.heap.size
  block : ∀ b, b < w.heap.size → b ≠ X → vo.ownBlock ≠ some b → vc.ownBlock ≠ some b → w'.heap[b]? = w.heap[b]?
  no : ∀ k, vo'.ownBlock = some k → vo.ownBlock = some k ∨ w.heap.size ≤ k
  nc : ∀ k, vc'.ownBlock = some k → vc.ownBlock = some k ∨ w.heap.size ≤ k
theorem Fr.trans {X : Nat} {vo vc v1 c1 v2 c2 : Value} {w w1 w2 : World} (h : Fr X vo vc v1 c1 w w1) (k : Fr X v1 c1 v2 c2 w1 w2) : Fr X vo vc v2 c2 w w2 := by
  have h1 := h.size
  have h2 := k.size
  refine ⟨k.os.trans h.os, k.tape.trans h.tape, k.output.trans h.output, by omega, fun b hb hX ho hc => ?_, fun q hq => ?_, fun q hq => ?_⟩
  · refine (k.block b (by omega) hX (fun e => ?_) (fun e => ?_)).trans (h.block b hb hX ho hc)
    · rcases h.no b e with e2 | e2
      · exact ho e2
      · omega
    · rcases h.nc b e with e2 | e2
      · exact hc e2
      · omega
  · rcases k.no q hq with e | e
    · exact h.no q e
    · exact .inr (by omega)
  · rcases k.nc q hq with e | e
    · exact h.nc q e
    · exact .inr (by omega)
theorem Fr.rng {X : Nat} {vo vc : Value} {w w' : World} (h : Rng X (X + 1) w w') : Fr X vo vc vo vc w w' :=
  ⟨h.os, h.tape, h.output, h.size, fun b hb hX _ _ => h.block b hb (by omega), fun _ h => .inl h, fun _ h => .inl h⟩
theorem Fr.below {X : Nat} {vo vc : Value} {w w' : World} (h : Below w.heap.size w w') : Fr X vo vc vo vc w w' := .rng (rng_below h)
/-- A row beside the order's and the calls'. -/
theorem own_fr {X base : Nat} {vo vc vo' vc' v : Value} {w w' : World} {e : TypeId} {sz n : Nat} {xs : List Value} (h : w.ownsRow base e sz v n xs) (hf : Fr X vo vc vo' vc' w w') (hb : X < base) (h1 : v.ownBlock = none ∨ v.ownBlock ≠ vo.ownBlock) (h2 : v.ownBlock = none ∨ v.ownBlock ≠ vc.ownBlock) : w'.ownsRow base e sz v n xs := by
  obtain ⟨e1, e2⟩ := h
  refine ⟨e1, ?_⟩
  rcases e2 with e2 | ⟨g, cap, cur, hv, hbs, hg, r⟩
  · exact .inl e2
  · have hgv : v.ownBlock = some g := by rw [hv]; rfl
    rw [hgv] at h1 h2
    refine .inr ⟨g, cap, cur, hv, hbs, ?_, r⟩
    rw [hf.block g (Array.getElem?_eq_some_iff.1 hg).1 (by omega) (fun e => h1.elim (fun h => nomatch h) (fun h => h e.symm)) (fun e => h2.elim (fun h => nomatch h) (fun h => h e.symm))]
    exact hg
/-- A row of another type is written. -/
theorem SV.side {w w' : World} {X bs : Nat} {s : Sh} {x y t : Int} {AZ : Option Addr} {N cZ : Nat} {zs : List Wk} {B : Int} {ks : List Int} {n : Nat} {D : Int} {Ao : Option Addr} {co : Nat} {Ac : Option Addr} {cc : Nat} {C : Int} {vb : Value} {E : Int} {F : Bool} {G : Nat} {xs : List Value} (h : SV w X bs s x y t AZ N cZ zs B ks n D Ao co Ac cc C vb E F) (ho : w.ownsRow (X + 1) 34 2 (.slice (some ⟨G, 0, none⟩) 1 1) 1 xs) (hg : w.grownBy w' (some G)) : SV w' X bs s x y t AZ N cZ zs B ks n D Ao co Ac cc C vb E F := by
  have hX := h.hX
  have hG := ho.lt G rfl
  have hbs := h.hbs
  refine ⟨h.sh.keep (hg.block bs (by omega) (by simp; omega)), h.hbs, h.hz.keep fun b hb => hg.block b (by omega) (by simp; omega), (hg.block X hX (by simp; omega)).trans h.row, own_grown h.oo hg ?_, own_grown h.cl hg ?_⟩
  · exact own_ne h.oo ho (by decide)
  · exact own_ne h.cl ho (by decide)
theorem BB.side {w w' : World} {X : Nat} {vo vb : Value} {E : Int} {F : Bool} {b : BSt} {G : Nat} {xs : List Value} (h : BB w X vo vb E F b) (ho : w.ownsRow (X + 1) 34 2 (.slice (some ⟨G, 0, none⟩) 1 1) 1 xs) (hg : w.grownBy w' (some G)) : BB w' X vo vb E F b := by
  cases b with
  | none => exact h
  | some p => exact ⟨h.1, h.2.1, own_grown h.2.2.1 hg (own_ne h.2.2.1 ho (by decide)), h.2.2.2⟩
theorem Fr.side {X : Nat} {vo vc vo' vc' : Value} {w w1 w2 : World} {G : Nat} (h : Fr X vo vc vo' vc' w w1) (hg : w1.grownBy w2 (some G)) (hG : w.heap.size ≤ G) : Fr X vo vc vo' vc' w w2 :=
  ⟨hg.os.trans h.os, hg.tape.trans h.tape, hg.output.trans h.output, Nat.le_trans h.size hg.size, fun b hb hX ho hc => (hg.block b (Nat.lt_of_lt_of_le hb h.size) (by simp; omega)).trans (h.block b hb hX ho hc), h.no, h.nc⟩
theorem pos_last {s : Sh} {zs : List Wk} {p : VSt} {ks : List Int} {m : Nat} {q : Int} (hl : ks.length = m + 1) (hq : ks[m]? = some q) : (posV s zs p ks).x = (wkI zs q).x ∧ (posV s zs p ks).y = (wkI zs q).y := by
  have e := take_snoc hq
  rw [List.take_of_length_le (by omega)] at e
  rw [e, posV_snoc]
  exact ⟨rfl, rfl⟩
theorem SX.next {w w' : World} {X bs : Nat} {s : Sh} {x y t : Int} {AZ : Option Addr} {N cZ : Nat} {zs : List Wk} {B : Int} {ks : List Int} {n : Nat} {D : Int} {b : BSt} {Ao : Option Addr} {co : Nat} {Ac : Option Addr} {cc : Nat} (h : SX w X bs s x y t AZ N cZ zs B ks n D b Ao co Ac cc) (hb : Below w.heap.size w w') : SX w' X bs s x y t AZ N cZ zs B ks n D b Ao co Ac cc := by
  obtain ⟨C, vb, E, F, hV, hB⟩ := h
  exact ⟨C, vb, E, F, hV.next hb, hB.next hb⟩
def VRel (bu : Nat) (R : Option (Nat × BSt)) (l : Nat) (r : Bool) (D : Int) (b : BSt) : Prop := match R with
  | none => r = false ∧ D = bu + 1
  | some (l', b') => r = true ∧ l' ≤ l ∧ D = bu - l' ∧ b = b'
def VisAns (X bs : Nat) (s : Sh) (x y t : Int) (AZ : Option Addr) (N cZ : Nat) (zs : List Wk) (bu : Nat) (ks : List Int) (n : Nat) (Ao : Option Addr) (co : Nat) (Ac : Option Addr) (cc : Nat) (R : Option (Nat × BSt)) (l : Nat) (w : World) (e : Ending) (w' : World) : Prop :=
  ∃ r D' b' Ao' co' Ac' cc', e = .returned (.bool r) ∧ SX w' X bs s x y t AZ N cZ zs bu ks n D' b' Ao' co' Ac' cc' ∧ Fr X (.slice Ao n co) (.slice Ac n cc) (.slice Ao' n co') (.slice Ac' n cc') w w' ∧ VRel bu R l r D' b'
/-- As SV, the order, the calls and the load each by itself. -/
abbrev srP (bs : Nat) (x y : Int) (AZ : Option Addr) (N cZ : Nat) (t : Int) (Ao : Option Addr) (no co : Nat) (Ac : Option Addr) (nc cc : Nat) (L : Int) (F : Bool) (C : Int) (vb : Value) (E D B : Int) : Array Value :=
  #[.pointer (some ⟨bs, 0, none⟩), .int .i64 x, .int .i64 y, .slice AZ N cZ, .int .i64 t, .int .i64 3, .slice Ao no co, .slice Ac nc cc, .int .i64 L, .bool F, .int .i64 C, vb, .int .i64 E, .int .i64 D, .int .i64 B]
structure SP (w : World) (X bs : Nat) (s : Sh) (x y t : Int) (AZ : Option Addr) (N cZ : Nat) (zs : List Wk) (B : Int) (xs : List Int) (no : Nat) (cs : List Cl) (nc : Nat) (L : Int) (D : Int) (Ao : Option Addr) (co : Nat) (Ac : Option Addr) (cc : Nat) (C : Int) (vb : Value) (E : Int) (F : Bool) : Prop where
  sh : ShP w bs s
  hbs : bs < X
  hz : Sl w X 7 AZ N (zs.flatMap Wk.cells)
  row : w.heap[X]? = some (.cells (srP bs x y AZ N cZ t Ao no co Ac nc cc L F C vb E D B) 92 (0, 0))
  oo : w.ownsRow (X + 1) 2 1 (.slice Ao no co) no (xs.flatMap intC)
  cl : w.ownsRow (X + 1) 77 4 (.slice Ac nc cc) nc (cs.flatMap Cl.cells)
section
variable {w w' : World} {X bs : Nat} {s : Sh} {x y t : Int} {AZ : Option Addr} {N cZ : Nat} {zs : List Wk} {B : Int} {xs : List Int} {no : Nat} {cs : List Cl} {nc : Nat} {L D : Int} {Ao : Option Addr} {co : Nat} {Ac : Option Addr} {cc : Nat} {C : Int} {vb : Value} {E : Int} {F : Bool}
theorem SV.sp {ks : List Int} {n : Nat} (h : SV w X bs s x y t AZ N cZ zs B ks n D Ao co Ac cc C vb E F) : SP w X bs s x y t AZ N cZ zs B ks n (callsV s zs ⟨t, x, y⟩ ks) n (loadV zs ks) D Ao co Ac cc C vb E F := ⟨h.sh, h.hbs, h.hz, h.row, h.oo, h.cl⟩
theorem SP.sv {ks : List Int} {n : Nat} (h : SP w X bs s x y t AZ N cZ zs B ks n (callsV s zs ⟨t, x, y⟩ ks) n (loadV zs ks) D Ao co Ac cc C vb E F) : SV w X bs s x y t AZ N cZ zs B ks n D Ao co Ac cc C vb E F := ⟨h.sh, h.hbs, h.hz, h.row, h.oo, h.cl⟩
theorem SP.hX (h : SP w X bs s x y t AZ N cZ zs B xs no cs nc L D Ao co Ac cc C vb E F) : X < w.heap.size := (Array.getElem?_eq_some_iff.1 h.row).1
theorem SP.next (h : SP w X bs s x y t AZ N cZ zs B xs no cs nc L D Ao co Ac cc C vb E F) (hb : Below w.heap.size w w') : SP w' X bs s x y t AZ N cZ zs B xs no cs nc L D Ao co Ac cc C vb E F := by
  have hX := h.hX
  exact ⟨h.sh.next hb, h.hbs, h.hz.keep fun b hb' => hb.block b (by omega), (hb.block X hX).trans h.row, own_next h.oo hb, own_next h.cl hb⟩
theorem setX_rng (w : World) (X i : Nat) (u : Value) : Rng X (X + 1) w (w.setCell ⟨X, i, none⟩ u) := ⟨rfl, rfl, rfl, by simp, fun k _ _ => heap_setCell_other _ ⟨X, i, none⟩ k _ (by simp only; omega)⟩
/-- A cell of block X is written; the rows are given. -/
theorem SP.setX {i : Nat} {u : Value} {xs' : List Int} {no' : Nat} {cs' : List Cl} {nc' : Nat} {L' D' : Int} {Ao' : Option Addr} {co' : Nat} {Ac' : Option Addr} {cc' : Nat} {C' : Int} {vb' : Value} {E' : Int} {F' : Bool} (h : SP w X bs s x y t AZ N cZ zs B xs no cs nc L D Ao co Ac cc C vb E F)
    (hr : (srP bs x y AZ N cZ t Ao no co Ac nc cc L F C vb E D B).setIfInBounds i u = srP bs x y AZ N cZ t Ao' no' co' Ac' nc' cc' L' F' C' vb' E' D' B) (ho : w.ownsRow (X + 1) 2 1 (.slice Ao' no' co') no' (xs'.flatMap intC)) (hc : w.ownsRow (X + 1) 77 4 (.slice Ac' nc' cc') nc' (cs'.flatMap Cl.cells)) :
    SP (w.setCell ⟨X, i, none⟩ u) X bs s x y t AZ N cZ zs B xs' no' cs' nc' L' D' Ao' co' Ac' cc' C' vb' E' F' := by
  have hX := h.hX
  have hbs := h.hbs
  have hg := setX_rng w X i u
  refine ⟨h.sh.keep (hg.block bs (by omega) (.inl hbs)), h.hbs, h.hz.rng hg (Nat.le_refl _) (by omega), ?_, own_rng ho hg fun k hk => .inr (ho.lt k hk).1, own_rng hc hg fun k hk => .inr (hc.lt k hk).1⟩
  rw [← hr]; exact heap_setCell_same w X i _ _ u h.row
theorem SP.pushO {xs' : List Int} {no' : Nat} {Ao' : Option Addr} {co' : Nat} (h : SP w X bs s x y t AZ N cZ zs B xs no cs nc L D Ao co Ac cc C vb E F) (hg : w.grownBy w' (Value.slice Ao no co).ownBlock) (ho : w'.ownsRow (X + 1) 2 1 (.slice Ao' no' co') no' (xs'.flatMap intC)) :
    SP (w'.setCell ⟨X, 6, none⟩ (.slice Ao' no' co')) X bs s x y t AZ N cZ zs B xs' no' cs nc L D Ao' co' Ac cc C vb E F ∧ w'.heap[X]? = some (.cells (srP bs x y AZ N cZ t Ao no co Ac nc cc L F C vb E D B) 92 (0, 0)) := by
  have hcl := own_grown h.cl hg (own_ne h.cl h.oo (by decide))
  have hX := h.hX
  have hbs := h.hbs
  have h1 : ∀ b, b < X + 1 → w'.heap[b]? = w.heap[b]? := fun b hb => hg.block b (by omega) fun e => by have := (h.oo.lt _ e.symm).1; omega
  have hrow := (h1 X (by omega)).trans h.row
  have hS := setX_rng w' X 6 (.slice Ao' no' co')
  have hX' : X < w'.heap.size := Nat.lt_of_lt_of_le hX hg.size
  refine ⟨⟨(h.sh.keep (h1 bs (by omega))).keep (hS.block bs (by omega) (.inl hbs)), h.hbs, (h.hz.keep fun b hb => h1 b (by omega)).rng hS (Nat.le_refl _) (by omega), heap_setCell_same w' X 6 _ _ _ hrow, own_rng ho hS fun k hk => .inr (ho.lt k hk).1, own_rng hcl hS fun k hk => .inr (hcl.lt k hk).1⟩, hrow⟩
theorem SP.pushC {cs' : List Cl} {nc' : Nat} {Ac' : Option Addr} {cc' : Nat} (h : SP w X bs s x y t AZ N cZ zs B xs no cs nc L D Ao co Ac cc C vb E F) (hg : w.grownBy w' (Value.slice Ac nc cc).ownBlock) (hc : w'.ownsRow (X + 1) 77 4 (.slice Ac' nc' cc') nc' (cs'.flatMap Cl.cells)) :
    SP (w'.setCell ⟨X, 7, none⟩ (.slice Ac' nc' cc')) X bs s x y t AZ N cZ zs B xs no cs' nc' L D Ao co Ac' cc' C vb E F ∧ w'.heap[X]? = some (.cells (srP bs x y AZ N cZ t Ao no co Ac nc cc L F C vb E D B) 92 (0, 0)) := by
  have hoo := own_grown h.oo hg (own_ne h.oo h.cl (by decide))
  have hX := h.hX
  have hbs := h.hbs
  have h1 : ∀ b, b < X + 1 → w'.heap[b]? = w.heap[b]? := fun b hb => hg.block b (by omega) fun e => by have := (h.cl.lt _ e.symm).1; omega
  have hrow := (h1 X (by omega)).trans h.row
  have hS := setX_rng w' X 7 (.slice Ac' nc' cc')
  have hX' : X < w'.heap.size := Nat.lt_of_lt_of_le hX hg.size
  refine ⟨⟨(h.sh.keep (h1 bs (by omega))).keep (hS.block bs (by omega) (.inl hbs)), h.hbs, (h.hz.keep fun b hb => h1 b (by omega)).rng hS (Nat.le_refl _) (by omega), heap_setCell_same w' X 7 _ _ _ hrow, own_rng hoo hS fun k hk => .inr (hoo.lt k hk).1, own_rng hc hS fun k hk => .inr (hc.lt k hk).1⟩, hrow⟩
/-- The best beside a growing order, beside growing calls. -/
theorem BB.pushO {vo v5 : Value} {b : BSt} {u : Value} {i : Nat} (h : BB w X vo vb E F b) (hg : w.grownBy w' vo.ownBlock) (hat : v5.ownBlock = vo.ownBlock ∨ ∃ q, v5.ownBlock = some q ∧ w.heap.size ≤ q) : BB (w'.setCell ⟨X, i, none⟩ u) X v5 vb E F b := by
  cases b with
  | none => exact h
  | some p =>
    obtain ⟨h1, h2, h3, h4⟩ := h
    refine BB.setX (show BB w' X v5 vb E F (some p) from ⟨h1, h2, own_grown h3 hg ?_, ?_⟩)
    · cases hv : vb.ownBlock with
      | none => exact .inl rfl
      | some q => exact .inr fun e => h4.elim (fun h => by rw [h] at e; cases e) (fun h => h (by rw [hv, e]))
    · rcases hat with hat | ⟨q, hq, hle⟩
      · rw [hat]; exact h4
      · exact .inr fun e => by have := (h3.lt q (e.symm.trans hq)).2; omega
theorem BB.pushC {vo : Value} {b : BSt} {u : Value} {i : Nat} {vc : Value} {cs' : List Value} (h : BB w X vo vb E F b) (hc : w.ownsRow (X + 1) 77 4 vc nc cs') (hg : w.grownBy w' vc.ownBlock) : BB (w'.setCell ⟨X, i, none⟩ u) X vo vb E F b := by
  cases b with
  | none => exact h
  | some p =>
    obtain ⟨h1, h2, h3, h4⟩ := h
    exact BB.setX (show BB w' X vo vb E F (some p) from ⟨h1, h2, own_grown h3 hg (own_ne h3 hc (by decide)), h4⟩)
theorem Fr.pushO {vo vc v5 : Value} (u : Value) (i : Nat) (hg : w.grownBy w' vo.ownBlock) (hat : v5.ownBlock = vo.ownBlock ∨ ∃ q, v5.ownBlock = some q ∧ w.heap.size ≤ q) : Fr X vo vc v5 vc w (w'.setCell ⟨X, i, none⟩ u) := by
  refine Fr.trans (v1 := v5) (c1 := vc) ⟨hg.os, hg.tape, hg.output, hg.size, fun b hb _ ho _ => hg.block b hb (fun e => ho e.symm), fun k hk => ?_, fun k hk => .inl hk⟩ (Fr.rng (setX_rng w' X i u))
  rcases hat with hat | ⟨q, hq, hle⟩
  · exact .inl (hat ▸ hk)
  · rw [hq] at hk; injection hk with hk; exact .inr (by omega)
theorem Fr.pushC {vo vc v5 : Value} (u : Value) (i : Nat) (hg : w.grownBy w' vc.ownBlock) (hat : v5.ownBlock = vc.ownBlock ∨ ∃ q, v5.ownBlock = some q ∧ w.heap.size ≤ q) : Fr X vo vc vo v5 w (w'.setCell ⟨X, i, none⟩ u) := by
  refine Fr.trans (v1 := vo) (c1 := v5) ⟨hg.os, hg.tape, hg.output, hg.size, fun b hb _ _ hc => hg.block b hb (fun e => hc e.symm), fun k hk => .inl hk, fun k hk => ?_⟩ (Fr.rng (setX_rng w' X i u))
  rcases hat with hat | ⟨q, hq, hle⟩
  · exact .inl (hat ▸ hk)
  · rw [hq] at hk; injection hk with hk; exact .inr (by omega)
/-- The slices' values have changed, not their blocks. -/
theorem Fr.same {vo vc vo' vc' vo2 vc2 : Value} (h : Fr X vo vc vo' vc' w w') (h1 : vo2.ownBlock = vo'.ownBlock) (h2 : vc2.ownBlock = vc'.ownBlock) : Fr X vo vc vo2 vc2 w w' :=
  ⟨h.os, h.tape, h.output, h.size, h.block, fun k hk => h.no k (h1 ▸ hk), fun k hk => h.nc k (h2 ▸ hk)⟩
theorem BB.same {vo vo2 : Value} {b : BSt} (h : BB w X vo vb E F b) (h1 : vo2.ownBlock = vo.ownBlock) : BB w X vo2 vb E F b := by
  cases b with
  | none => exact h
  | some p => exact ⟨h.1, h.2.1, h.2.2.1, by rw [h1]; exact h.2.2.2⟩
end
theorem ClP.keep {w w' : World} {b off : Nat} {z : Cl} (h : ClP w b off z) (k : w'.heap[b]? = w.heap[b]?) : ClP w' b off z := by
  have c := fun i => World.cell?_of_block (w := w) (w' := w') (a := ⟨b, i, none⟩) k
  refine ⟨(c _).trans h.c0, (c _).trans h.c1, (c _).trans h.c2, (c _).trans h.c3, ?_⟩
  by_cases hb : b < w'.heap.size
  · exact hb
  · have := h.hb
    rw [Array.getElem?_eq_none (by omega), Array.getElem?_eq_getElem h.hb] at k
    cases k
end Go.Proofs.Ytgkdjohiclhcoaa
