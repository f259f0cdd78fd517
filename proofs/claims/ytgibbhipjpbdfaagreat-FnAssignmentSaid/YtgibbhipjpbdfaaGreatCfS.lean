/- CfS: several of my texts in one. -/
import Derived.Test.YtgibbhipjpbdfaaGreatRotC
import Derived.Test.YtgibbhipjpbdfaaGreatSrcG
import Derived.Test.YtgibbhipjpbdfaaGreatChLit
import Derived.Test.YtgibbhipjpbdfaaGreatSmall
import Derived.IntWalk

/- Names of tenths: equality and order. Plain facts, no program. -/
namespace Go.Proofs.YtgibbhipjpbdfaaGreat
open Go.RowKit
def nC (b : Int) : List Value := [.string (nameC b)]
theorem nC_len (b : Int) : (nC b).length = 1 := rfl
theorem nC_one (b : Int) : ∀ u ∈ nC b, u.oneCell' = true := by simp [nC, Value.oneCell']
theorem nC_map (B : List Int) : B.flatMap nC = (B.map nameC).flatMap strC := by
  induction B with
  | nil => rfl
  | cons b B ih => rw [List.flatMap_cons, List.map_cons, List.flatMap_cons, ih]; rfl
theorem nameC_inj {a b : Int} (ha : 0 ≤ a ∧ a ≤ 255) (hb : 0 ≤ b ∧ b ≤ 255) : nameC a = nameC b ↔ a = b :=
  ⟨fun h => by rw [← code_name ha.1 ha.2, h, code_name hb.1 hb.2], fun h => by rw [h]⟩
theorem name_beq {a b : Int} (ha : 0 ≤ a ∧ a ≤ 255) (hb : 0 ≤ b ∧ b ≤ 255) : ((nameC a).toList == (nameC b).toList) = decide (a = b) := by
  rw [ba_beq, Bool.eq_iff_iff, decide_eq_true_eq, decide_eq_true_eq, nameC_inj ha hb]
theorem name_list {a : Int} : (nameC a).toList = if a = 0 then [] else [UInt8.ofNat a.toNat] := by
  rw [nameC]
  split
  · exact (toList_nil _).2 rfl
  · rw [toL]; exact strOfNums_data [a]
theorem name_less {a b : Int} (ha : 0 ≤ a ∧ a ≤ 255) (hb : 0 ≤ b ∧ b ≤ 255) : Op.bytesLess (nameC a).toList (nameC b).toList = decide (a < b) := by
  rw [name_list, name_list]
  by_cases h1 : a = 0
  · rw [if_pos h1]
    by_cases h2 : b = 0
    · rw [if_pos h2, h1, h2]; rfl
    · rw [if_neg h2]
      have : decide (a < b) = true := decide_eq_true (by omega)
      rw [this]; rfl
  · rw [if_neg h1]
    by_cases h2 : b = 0
    · rw [if_pos h2]
      have : decide (a < b) = false := decide_eq_false (by omega)
      rw [this]; rfl
    · rw [if_neg h2]
      simp only [Op.bytesLess, Bool.and_false, Bool.or_false]
      rw [Bool.eq_iff_iff, decide_eq_true_eq, decide_eq_true_eq, UInt8.lt_iff_toNat_lt, UInt8.toNat_ofNat', UInt8.toNat_ofNat']
      omega
/-- A row of names, read at an index. -/
theorem Sl.nm {w : World} {Bk n : Nat} {A : Option Addr} {B : List Int} (h : Sl w Bk 1 A n (B.flatMap nC)) (k : Nat) (hk : k < n) :
    ∃ b off x, A = some ⟨b, off, none⟩ ∧ b < Bk ∧ B[k]? = some x ∧ w.cell? ⟨b, off + k, none⟩ = some (.string (nameC x)) := by
  obtain ⟨b, off, z, hA, hb, hx, hc⟩ := h.get nC 1 nC_len (by omega) k hk
  exact ⟨b, off, z, hA, hb, hx, by simpa using hc 0 _ rfl⟩
def inN (B : List Int) : Prop := ∀ b ∈ B, 0 ≤ b ∧ b ≤ 255
theorem inN_ten (ps : List Ph) : inN (tenC ps) := tenC_bd ps
theorem inN_take {B : List Int} (h : inN B) (k : Nat) : inN (B.take k) := fun b hb => h b (List.mem_of_mem_take hb)
theorem inN_rot {B : List Int} (h : inN B) (t : Nat) : inN (rotB B t) := fun b hb => h b (rot_mem hb)
theorem bestN_in {B : List Int} (h : inN B) (h1 : 1 ≤ B.length) (m : Nat) (hm : m ≤ B.length) : inN (bestN B m) := by
  obtain ⟨t, _, he⟩ := bestN_rot h1 m hm
  rw [he]; exact inN_rot h t
theorem bestN_len {B : List Int} (h1 : 1 ≤ B.length) (m : Nat) (hm : m ≤ B.length) : (bestN B m).length = B.length := by
  obtain ⟨t, _, he⟩ := bestN_rot h1 m hm
  rw [he, rot_len]
/-- Two valid characters: is there a common colour. -/
def colAtB (x : Ch) (i : Nat) : ByteArray := x.cs.extract i (i + 1)
def comB (x y : Ch) : Bool := (List.range x.cs.size).any fun i => hasC y.cs (colAtB x i)
def confV (x y : Ch) (tol : Int) : Bool := comB x y && confB x y tol
end Go.Proofs.YtgibbhipjpbdfaaGreat

/- The pattern of phases on the reference's side: tenths, the least period, the least rotation, runs. -/
namespace Go.Proofs.YtgibbhipjpbdfaaGreat
open Go.RowKit
theorem tenC_next {ps : List Ph} {k : Nat} {p : Ph} (h : ps[k]? = some p) : tenC (ps.take (k + 1)) = tenC (ps.take k) ++ List.replicate p.len.toNat (code p.c) := by
  rw [tenC, tenL_next h, List.map_append, List.map_replicate]; rfl
theorem tenC_len {ps : List Ph} (h : ∀ p ∈ ps, 0 ≤ p.len ∧ p.len ≤ 600) : (tenC ps).length ≤ 600 * ps.length := by
  rw [tenC, List.length_map]
  have h1 := tenL_len h
  have h2 := tot_bd h
  omega
theorem code_at {s : ByteArray} (h : 0 < s.size) : code s = (s[0].toNat : Int) := by rw [code, if_neg (by omega), bt_eq _ _ h]
end Go.Proofs.YtgibbhipjpbdfaaGreat

/- The pattern of phases on the reference's side: runs of tenths. -/
namespace Go.Proofs.YtgibbhipjpbdfaaGreat
open Go.RowKit
theorem phInfo' : (Tryz.prog.info? 118).map (fun i => (i.zero, i.size, i.bytes)) = some (some (.agg #[.string ByteArray.empty, .int .i64 0]), 2, 24) := by kernel_rfl
theorem phC_one' (p : Ph) : ∀ u ∈ Ph.cells p, u.oneCell' = true := by simp [Ph.cells, Value.oneCell']
theorem toPh_cells (d : Int × Int) : Ph.cells (toPh d) = [.string (nameC d.1), .int .i64 d.2] := rfl
def runC (D : List (Int × Int)) : List Value := (D.map toPh).flatMap Ph.cells
theorem runC_len (D : List (Int × Int)) : (runC D).length = D.length * 2 := by rw [runC, flat_len Ph.cells 2 Ph.cells_len, List.length_map]
theorem runC_app (D : List (Int × Int)) (d : Int × Int) : runC (D ++ [d]) = runC D ++ [.string (nameC d.1), .int .i64 d.2] := by
  rw [runC, List.map_append, List.flatMap_append]; rfl
theorem runC_set (D : List (Int × Int)) (a n n' : Int) : (runC (D ++ [(a, n)])).set (D.length * 2 + 1) (.int .i64 n') = runC (D ++ [(a, n')]) := by
  rw [runC_app, runC_app, List.set_append_right _ _ (by rw [runC_len]; omega), runC_len, show D.length * 2 + 1 - D.length * 2 = 1 by omega]; rfl
theorem Sl.run {w : World} {B n : Nat} {A : Option Addr} {D : List (Int × Int)} (h : Sl w B 2 A n (runC D)) (k : Nat) (hk : k < n) :
    ∃ b off d, A = some ⟨b, off, none⟩ ∧ b < B ∧ D[k]? = some d ∧ w.cell? ⟨b, off + k * 2, none⟩ = some (.string (nameC d.1)) ∧ w.cell? ⟨b, off + k * 2 + 1, none⟩ = some (.int .i64 d.2) := by
  obtain ⟨b, off, p, hA, hb, hp, c1, c2⟩ := Sl.ph (xs := D.map toPh) h k hk
  rw [List.getElem?_map, Option.map_eq_some_iff] at hp
  obtain ⟨d, hd, rfl⟩ := hp
  exact ⟨b, off, d, hA, hb, hd, c1, c2⟩
end Go.Proofs.YtgibbhipjpbdfaaGreat

/- The pattern of phases on the reference's side: the normal pattern, and two rhythms that are alike. -/
namespace Go.Proofs.YtgibbhipjpbdfaaGreat
open Go.RowKit
end Go.Proofs.YtgibbhipjpbdfaaGreat

/- Two rhythms that are alike, on the reference's side. -/
namespace Go.Proofs.YtgibbhipjpbdfaaGreat
open Go.RowKit
theorem close1_at {a b : List (Int × Int)} {i j : Nat} {x y : Int × Int} (tol : Int) (hx : a[i]? = some x) (hy : b[j]? = some y) : close1 a b i j tol = (decide (x.1 = y.1) && inB (x.2 - y.2) (-tol) tol) := by rw [close1, hx, hy]; rfl
theorem turn_no {a b : List (Int × Int)} {tol : Int} {f i : Nat} (hi : i < a.length) (h : close1 a b i ((f + i) % b.length) tol = false) : turnB a b tol f = false := allB_no hi h
end Go.Proofs.YtgibbhipjpbdfaaGreat
