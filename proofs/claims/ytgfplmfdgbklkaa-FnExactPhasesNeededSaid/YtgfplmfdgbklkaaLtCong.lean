/- What is the same for two copies of a list of Characters. Plain facts, no program. -/
import Derived.Test.YtgfplmfdgbklkaaLtCert
namespace Go.Proofs.Ytgfplmfdgbklkaa
open Go.RowKit
theorem hit_congr {zs zs' : List ChG} (h : zs.map ChG.x = zs'.map ChG.x) (o : List Ph) (tol : Int) : hitB zs o tol = hitB zs' o tol := by
  funext i
  have hh : zs[i]?.map ChG.x = zs'[i]?.map ChG.x := by rw [← List.getElem?_map, ← List.getElem?_map, h]
  unfold hitB
  cases h1 : zs[i]? <;> cases h2 : zs'[i]? <;> simp_all
theorem len_congr {zs zs' : List ChG} (h : zs.map ChG.x = zs'.map ChG.x) : zs.length = zs'.length := by simpa using congrArg List.length h
theorem lights_congr {zs zs' : List ChG} (h : zs.map ChG.x = zs'.map ChG.x) : lightsB zs = lightsB zs' := by
  have e : ∀ l : List ChG, (l.all fun z => validB z.x) = (l.map ChG.x).all validB := fun l => by rw [List.all_map]; rfl
  rw [lightsB, lightsB, e, e, h, len_congr h]
theorem ask_congr {zs zs' : List ChG} (h : zs.map ChG.x = zs'.map ChG.x) (o : List Ph) (tol : Int) : askI zs o tol = askI zs' o tol := by rw [askI, askI, lights_congr h]
theorem hits_congr {zs zs' : List ChG} (h : zs.map ChG.x = zs'.map ChG.x) (o : List Ph) (tol : Int) : hitsL zs o tol = hitsL zs' o tol := by rw [hitsL, hitsL, hitsN, hitsN, hit_congr h, len_congr h]
theorem cert_congr {zs zs' : List ChG} (h : zs.map ChG.x = zs'.map ChG.x) (o : List Ph) (tol : Int) : certB zs o tol = certB zs' o tol := by rw [certB, certB, ask_congr h, hits_congr h]
theorem size_congr {zs zs' : List ChG} (h : zs'.map ChG.x = zs.map ChG.x) (hb : ∀ z ∈ zs, z.n ≤ 1048576 ∧ z.x.l.size ≤ 1048576 ∧ z.x.cs.size ≤ 1048576) : ∀ z ∈ zs', z.n ≤ 1048576 ∧ z.x.l.size ≤ 1048576 ∧ z.x.cs.size ≤ 1048576 := by
  intro z hz
  have h1 : z.x ∈ zs.map ChG.x := by rw [← h]; exact List.mem_map_of_mem hz
  obtain ⟨y, hy, he⟩ := List.mem_map.1 h1
  have := hb y hy
  rw [ChG.n, he] at this
  exact this
theorem sumN_mem {zs : List ChG} {z : ChG} (h : z ∈ zs) : z.n ≤ sumN zs := by
  unfold sumN
  induction zs with
  | nil => cases h
  | cons a t ih =>
    rw [List.map_cons, List.sum_cons]
    rcases List.mem_cons.1 h with rfl | h2
    · omega
    · have := ih h2; omega
end Go.Proofs.Ytgfplmfdgbklkaa
