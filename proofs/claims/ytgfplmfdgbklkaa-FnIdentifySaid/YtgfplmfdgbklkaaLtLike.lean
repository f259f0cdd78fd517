/- LikelyLight: what both sides compute. Plain facts, no program. -/
import Derived.Test.YtgfplmfdgbklkaaLtG
import Derived.Test.YtgfplmfdgbklkaaLtCert
import Derived.Test.YtgfplmfdgbklkaaChErr2
namespace Go.Proofs.Ytgfplmfdgbklkaa
open Go.RowKit
theorem errS_nn (o see : List Ph) (m : Nat) : 0 ≤ errS o see m := by
  induction m with
  | zero => simp [errS]
  | succ m ih =>
    have : 0 ≤ errAt o see m := by unfold errAt; split <;> omega
    rw [errS_next]; omega
theorem errI_nn (x : Ch) (o : List Ph) (s : Int) : 0 ≤ errI x o s := by
  unfold errI
  cases (x.k == 1)
  · exact errS_nn _ _ _
  · simp
def lstep (x : Ch) (o : List Ph) (l : Int) (i : Nat) : Int := if l < 0 ∨ errI x o (i : Int) < l then errI x o (i : Int) else l
def leastF (x : Ch) (o : List Ph) (L : List Nat) : Int := L.foldl (lstep x o) (-1)
def kstep (x : Ch) (o : List Ph) (i : Nat) (s : Int × Int) (t : Nat) : Int × Int := if s.1 < 0 ∨ errI x o (t : Int) < s.2 then ((i : Int), errI x o (t : Int)) else s
def likeIn (x : Ch) (o : List Ph) (i : Nat) (L : List Nat) (s : Int × Int) : Int × Int := L.foldl (kstep x o i) s
theorem like_rel (x : Ch) (o : List Ph) (i : Nat) (s0 : Int × Int) : ∀ (L : List Nat) (l : Int) (s : Int × Int), (l = -1 ∨ 0 ≤ l) → (s = if 0 ≤ l ∧ (s0.1 < 0 ∨ l < s0.2) then ((i : Int), l) else s0) →
    L.foldl (kstep x o i) s = if 0 ≤ L.foldl (lstep x o) l ∧ (s0.1 < 0 ∨ L.foldl (lstep x o) l < s0.2) then ((i : Int), L.foldl (lstep x o) l) else s0
  | [], l, s, _, hs => hs
  | t :: L, l, s, hl, hs => by
    rw [List.foldl_cons, List.foldl_cons]
    have he := errI_nn x o (t : Int)
    generalize hE : errI x o (t : Int) = E at *
    refine like_rel x o i s0 L _ _ ?_ ?_
    · unfold lstep; rw [hE]; split <;> omega
    · unfold kstep lstep
      rw [hE]
      by_cases h1 : 0 ≤ l ∧ (s0.1 < 0 ∨ l < s0.2)
      · rw [if_pos h1] at hs
        subst hs
        dsimp only
        by_cases h2 : E < l
        · have e1 : (if l < 0 ∨ E < l then E else l) = E := if_pos (.inr h2)
          rw [e1, if_pos (.inr h2), if_pos (by omega)]
        · have e1 : (if l < 0 ∨ E < l then E else l) = l := if_neg (by omega)
          rw [e1, if_neg (by omega), if_pos h1]
      · rw [if_neg h1] at hs
        subst hs
        by_cases h2 : l < 0 ∨ E < l
        · have e1 : (if l < 0 ∨ E < l then E else l) = E := if_pos h2
          rw [e1]
          by_cases h3 : s.1 < 0 ∨ E < s.2
          · rw [if_pos h3, if_pos ⟨he, h3⟩]
          · rw [if_neg h3, if_neg (by omega)]
        · have e1 : (if l < 0 ∨ E < l then E else l) = l := if_neg h2
          rw [e1, if_neg h1, if_neg (by omega)]
theorem likeIn_eq (x : Ch) (o : List Ph) (i : Nat) (L : List Nat) (s : Int × Int) : likeIn x o i L s = if 0 ≤ leastF x o L ∧ (s.1 < 0 ∨ leastF x o L < s.2) then ((i : Int), leastF x o L) else s :=
  like_rel x o i s L (-1) s (.inl rfl) (by rw [if_neg (by omega)])
def likeAt (zs : List ChG) (o : List Ph) (tol : Int) (s : Int × Int) (i : Nat) : Int × Int := match zs[i]? with | none => s | some z => likeIn z.x o i (startsL z.x o tol) s
def likeN (zs : List ChG) (o : List Ph) (tol : Int) (m : Nat) : Int × Int := (List.range m).foldl (likeAt zs o tol) (-1, 0)
theorem likeAt_eq {zs : List ChG} {k : Nat} {z : ChG} (h : zs[k]? = some z) (o : List Ph) (tol : Int) (s : Int × Int) : likeAt zs o tol s k = likeIn z.x o k (startsL z.x o tol) s := by rw [likeAt, h]
theorem likeN_next (zs : List ChG) (o : List Ph) (tol : Int) (m : Nat) : likeN zs o tol (m + 1) = likeAt zs o tol (likeN zs o tol m) m := by rw [likeN, List.range_succ, List.foldl_append]; rfl
theorem like_hits (zs : List ChG) (o : List Ph) (tol : Int) (m : Nat) : (hitsN zs o tol m).foldl (likeAt zs o tol) (-1, 0) = likeN zs o tol m := by
  rw [hitsN, likeN, List.foldl_filter]
  congr 1
  funext s i
  by_cases h : hitB zs o tol i = true
  · rw [if_pos h]
  · rw [if_neg h]
    unfold hitB at h
    unfold likeAt
    cases hz : zs[i]? with
    | none => rfl
    | some z =>
      rw [hz] at h
      have hS : startsL z.x o tol = [] := by
        cases hL : startsL z.x o tol with
        | nil => rfl
        | cons a t => dsimp only at h; rw [hL] at h; simp [firstI] at h
      simp [hS, likeIn]
theorem like_lo (zs : List ChG) (o : List Ph) (tol : Int) : ∀ m, -1 ≤ (likeN zs o tol m).1 ∧ (likeN zs o tol m).1 < max m 1
  | 0 => by simp [likeN]
  | m + 1 => by
    have ih := like_lo zs o tol m
    rw [likeN_next]
    unfold likeAt
    split
    · omega
    · rw [likeIn_eq]; split
      · dsimp only; omega
      · omega
def likeV (zs : List ChG) (o : List Ph) (tol : Int) : Int := bif (askI zs o tol == 0) && decide (0 ≤ (likeN zs o tol zs.length).1) then (likeN zs o tol zs.length).1 else 0
def likeK (zs : List ChG) (o : List Ph) (tol : Int) : Int := bif askI zs o tol == 0 then (bif decide (0 ≤ (likeN zs o tol zs.length).1) then 0 else 3) else askI zs o tol
theorem starts_all {x : Ch} {o : List Ph} {tol : Int} (hco : (hcO o).toList.isEmpty = false) (co : ByteArray) (h40 : (phasesL x co).length ≤ 40) : (List.range (phasesL x co).length).filter (fun (i : Nat) => fromB x o (i : Int) tol) = startsL x o tol := by
  unfold startsL
  have e : (40 : Nat) = (phasesL x co).length + (40 - (phasesL x co).length) := by omega
  rw [e, List.range_add, List.filter_append]
  have : (List.map (fun i => (phasesL x co).length + i) (List.range (40 - (phasesL x co).length))).filter (fun (i : Nat) => fromB x o (i : Int) tol) = [] := by
    rw [List.filter_eq_nil_iff]
    intro i hi hf
    obtain ⟨j, _, rfl⟩ := List.mem_map.1 hi
    have := from_lt hco hf co
    omega
  rw [this, List.append_nil]
theorem likeN_congr {zs zs' : List ChG} (h : zs.map ChG.x = zs'.map ChG.x) (o : List Ph) (tol : Int) (m : Nat) : likeN zs o tol m = likeN zs' o tol m := by
  have hh : likeAt zs o tol = likeAt zs' o tol := by
    funext s i
    have hh : zs[i]?.map ChG.x = zs'[i]?.map ChG.x := by rw [← List.getElem?_map, ← List.getElem?_map, h]
    unfold likeAt
    cases h1 : zs[i]? <;> cases h2 : zs'[i]? <;> simp_all
  rw [likeN, likeN, hh]
end Go.Proofs.Ytgfplmfdgbklkaa
