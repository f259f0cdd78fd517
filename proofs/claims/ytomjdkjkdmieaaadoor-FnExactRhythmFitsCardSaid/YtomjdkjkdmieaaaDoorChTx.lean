/- The text of a character: plain. -/
import Derived.Test.YtomjdkjkdmieaaaDoorChPh
import Derived.Test.YtomjdkjkdmieaaaDoorDec
import Derived.Lib.ItoaLen
import Derived.Lib.Join
namespace Go.Proofs.YtomjdkjkdmieaaaDoor
open Go.RowKit
theorem decB_lenC (n : Int) (h0 : -9223372036854775808 ≤ n) (h1 : n ≤ 9223372036854775807) : (decB n).size ≤ 21 := by
  have := Lib.itoa_length_le n h0 h1
  simpa [decB, ByteArray.size] using this
abbrev chOT (A : Option Addr) (n c : Nat) (x : Ch) (e : TypeId) : Obj := .cells #[.int .i64 x.k, .slice A n c, .string x.l, .string x.cs, .int .i64 x.p] e
def kindL : List (List UInt8) := [[], [70], [79, 99], [73, 115, 111], [70, 108], [76, 70, 108], [81], [86, 81], [77, 111]]
def kbs (l : List UInt8) : ByteArray := ⟨l.toArray⟩
def kindT (k : Int) : ByteArray := (kindL.map kbs).getD k.toNat ⟨#[]⟩
def secT (p : Int) : ByteArray := if p.tmod 10 = 0 then decB (p.tdiv 10) else decB (p.tdiv 10) ++ (⟨#[46]⟩ ++ decB (p.tmod 10))
def grpT (gs : List Int) : Nat → ByteArray
  | 0 => ⟨#[]⟩
  | k + 1 => grpT gs k ++ ((if k = 0 then ⟨#[40]⟩ else ⟨#[43]⟩) ++ decB (gs.getD k 0))
def grpX (gs : List Int) : ByteArray := if gs = [] then ⟨#[]⟩ else grpT gs gs.length ++ ⟨#[41]⟩
def ltrX (l : ByteArray) : ByteArray := if isL l then ⟨#[43, 76, 70, 108]⟩ else ⟨#[]⟩
def headT (x : Ch) : ByteArray := if x.k = 8 then kindT 8 ++ (⟨#[40]⟩ ++ (x.l ++ ⟨#[41]⟩)) else kindT x.k ++ (grpX x.gs ++ ltrX x.l)
def perT (p : Int) : ByteArray := if p = 0 then ⟨#[]⟩ else ⟨#[32]⟩ ++ (secT p ++ ⟨#[115]⟩)
def charT (x : Ch) : ByteArray := headT x ++ (⟨#[32]⟩ ++ (x.cs ++ perT x.p))
def charX (x : Ch) : ByteArray := if validB x = true then charT x else ⟨#[]⟩
theorem bempty (a : ByteArray) : a ++ (⟨#[]⟩ : ByteArray) = a := by
  apply ByteArray.ext
  rw [ByteArray.data_append]
  exact Array.append_empty
theorem bassoc (a b c : ByteArray) : a ++ b ++ c = a ++ (b ++ c) := by
  apply ByteArray.ext
  simp only [ByteArray.data_append, Array.append_assoc]
theorem fits_cases {x : Ch} (h : validB x = true) : (1 ≤ x.k ∧ x.k ≤ 8) ∧ x.gs.length ≤ 4 ∧ (∀ g ∈ x.gs, 1 ≤ g ∧ g ≤ 9) ∧ (x.k = 8 → x.gs = [] ∧ x.l.size = 1) ∧ (x.k ≠ 8 → (isL x.l = true ∧ x.gs ≠ []) ∨ (isL x.l = false ∧ isE x.l = true)) := by
  have h1 := valid_shape h
  rw [shapeB, Bool.and_eq_true] at h1
  have hf := h1.2
  have hG : ∀ gs, groupB gs = true → gs.length ≤ 4 ∧ ∀ g ∈ gs, 1 ≤ g ∧ g ≤ 9 := fun gs hg => by
    simp only [groupB, Bool.and_eq_true, decide_eq_true_eq] at hg
    refine ⟨hg.2.1, fun g hm => ?_⟩
    obtain ⟨i, hi, rfl⟩ := List.mem_iff_getElem.1 hm
    have := allB_iff.1 hg.1 i hi
    rw [goodG_at (List.getElem?_eq_getElem hi)] at this
    exact inB_iff.1 this
  have hLE : ∀ l : ByteArray, isE l = true → isL l = false := fun l hl => by
    rw [isE, List.isEmpty_iff] at hl
    rw [isL, hl]; rfl
  unfold fitsB at hf
  split at hf
  · rename_i hk
    simp only [Bool.and_eq_true, decide_eq_true_eq] at hf
    refine ⟨by omega, by simp [hf.1], by simp [hf.1], fun h => by omega, fun _ => .inr ⟨hLE _ hf.2, hf.2⟩⟩
  · split at hf
    · rename_i hk
      simp only [Bool.and_eq_true] at hf
      refine ⟨by omega, (hG _ hf.2).1, (hG _ hf.2).2, fun h => by omega, fun _ => .inr ⟨hLE _ hf.1, hf.1⟩⟩
    · split at hf
      · rename_i hk
        split at hf
        · rename_i hl
          simp only [decide_eq_true_eq] at hf
          refine ⟨by omega, by simp [hf], by simp [hf], fun h => by omega, fun _ => .inl ⟨hl, by simp [hf]⟩⟩
        · simp only [Bool.and_eq_true] at hf
          refine ⟨by omega, (hG _ hf.2.2).1, (hG _ hf.2.2).2, fun h => by omega, fun _ => .inr ⟨hLE _ hf.1, hf.1⟩⟩
      · split at hf
        · rename_i hk
          simp only [Bool.and_eq_true, decide_eq_true_eq, letterB] at hf
          refine ⟨by omega, by simp [hf.1], by simp [hf.1], fun _ => ⟨hf.1, hf.2.1⟩, fun h => absurd hk h⟩
        · simp at hf
theorem grpT_len {gs : List Int} (h : ∀ g ∈ gs, 1 ≤ g ∧ g ≤ 9) : ∀ k, (grpT gs k).size ≤ 22 * k
  | 0 => by simp [grpT, ByteArray.size]
  | k + 1 => by
    have ih := grpT_len h k
    have hd : (decB (gs.getD k 0)).size ≤ 21 := by
      have : -9223372036854775808 ≤ gs.getD k 0 ∧ gs.getD k 0 ≤ 9223372036854775807 := by
        rw [List.getD_eq_getElem?_getD]
        cases hg : gs[k]? with
        | none => simp
        | some v => have := h v (List.mem_of_getElem? hg); simp; omega
      exact decB_lenC _ this.1 this.2
    rw [grpT, ByteArray.size_append, ByteArray.size_append]
    have h1 : (if k = 0 then (⟨#[40]⟩ : ByteArray) else ⟨#[43]⟩).size = 1 := by split <;> rfl
    omega
/-- What strings.Join gives of the numbers of a group. -/
theorem grp_join (g : Int) (r : List Int) : grpT (g :: r) (r.length + 1) = ⟨#[40]⟩ ++ ⟨(Lib.join (((g :: r).map decB).map (·.data.toList)) [43]).toArray⟩ := by
  have key : ∀ k, k ≤ r.length → (grpT (g :: r) (k + 1)).data.toList = 40 :: ((decB g).data.toList ++ Lib.joinTail [43] (((r.take k).map decB).map (·.data.toList))) := by
    intro k
    induction k with
    | zero => intro _; simp [grpT, Lib.joinTail, ByteArray.data_append]
    | succ k ih =>
      intro hk
      obtain ⟨v, hx⟩ : ∃ v, r[k]? = some v := ⟨_, List.getElem?_eq_getElem (show k < r.length by omega)⟩
      rw [grpT, ByteArray.data_append, Array.toList_append, ih (by omega), if_neg (by omega), ByteArray.data_append, List.take_add_one, hx, Option.toList_some]
      generalize List.take k r = t
      simp [Lib.joinTail, List.getD_eq_getElem?_getD, hx]
  apply ByteArray.ext
  apply Array.ext'
  rw [key r.length (Nat.le_refl _), List.take_length, List.map_cons, List.map_cons, Lib.join_cons, ByteArray.data_append]
  simp
end Go.Proofs.YtomjdkjkdmieaaaDoor
