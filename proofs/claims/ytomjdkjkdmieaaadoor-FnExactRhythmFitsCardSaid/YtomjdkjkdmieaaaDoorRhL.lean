/- Rhythms that fit a mark: the texts say what the reference asks. Plain. -/
import Derived.Test.YtomjdkjkdmieaaaDoorRhI
namespace Go.Proofs.YtomjdkjkdmieaaaDoor
open Go.RowKit
theorem bl_app (a b : ByteArray) : (a ++ b).toList = a.toList ++ b.toList := by
  rw [ByteArray.toList_eq, ByteArray.toList_eq, ByteArray.toList_eq, ByteArray.data_append, Array.toList_append]
theorem bl_mk (l : Array UInt8) : (⟨l⟩ : ByteArray).toList = l.toList := ByteArray.toList_eq _
theorem dig_list {g : Int} (h : 1 ≤ g ∧ g ≤ 9) : (decB g).toList = [UInt8.ofNat (48 + g.toNat)] := by
  rw [decB, bl_mk, Lib.itoa, if_neg (by omega), Lib.decDigits, dif_pos (by omega)]
theorem dec_int {v : Nat} (h : v ≠ 0) : ((decB (v : Int)).toList.map fun b => (b.toNat : Int)) = dn v := by
  rw [decB, bl_mk]
  exact itoa_pos h
theorem cs_list {x : Ch} (hv : validB x = true) : ∃ c C, x.cs.toList = c :: C ∧ C.length ≤ 2 ∧ ∀ e ∈ C, e ≠ 32 := by
  have h1 := valid_shape hv
  simp only [shapeB, colorsB, Bool.and_eq_true, decide_eq_true_eq] at h1
  obtain ⟨⟨ha, h0, h3⟩, -⟩ := h1
  have hl : x.cs.toList.length = x.cs.size := by rw [ByteArray.toList_eq]; exact Array.length_toList
  have hne : ∀ e ∈ x.cs.toList, e ≠ 32 := by
    intro e he h32
    obtain ⟨i, hi, hie⟩ := List.mem_iff_getElem.1 he
    have := allB_iff.1 ha i (by omega)
    simp only [colOk, Bool.and_eq_true, decide_eq_true_eq] at this
    have hb : bt x.cs i = 32 := by
      unfold bt
      rw [← ByteArray.toList_eq, List.getElem?_eq_getElem hi, hie, h32]
      rfl
    rw [hb] at this
    exact absurd this.1 (by decide)
  cases hx : x.cs.toList with
  | nil => rw [hx] at hl; simp at hl; omega
  | cons c C =>
    rw [hx] at hl hne
    exact ⟨c, C, rfl, by simp at hl; omega, fun e he => hne e (List.mem_cons_of_mem _ he)⟩
theorem per_zero : (perT 0).toList = [] := by rw [perT, if_pos rfl, bl_mk]
theorem per_list {p : Int} (h : p ≠ 0) : (perT p).toList = 32 :: ((secT p).toList ++ [115]) := by
  rw [perT, if_neg h, bl_app, bl_app, show (⟨#[32]⟩ : ByteArray).toList = [32] from bl_mk _, show (⟨#[115]⟩ : ByteArray).toList = [115] from bl_mk _]; rfl
theorem tail0 {x : Ch} (hv : validB x = true) : (x.cs.toList ++ (perT x.p).toList = [87]) ↔ (x.cs.toList = [87] ∧ x.p = 0) := by
  obtain ⟨c, C, hc, -, -⟩ := cs_list hv
  by_cases hp : x.p = 0
  · rw [hp, per_zero, List.append_nil]; simp
  · rw [per_list hp, hc]
    simp [hp]
theorem tailS {x : Ch} (hv : validB x = true) (S : List UInt8) (q : Int) (hS : x.p ≠ 0 → ((secT x.p).toList = S ↔ x.p = q)) (hq : q ≠ 0) (hl : 1 ≤ S.length) : (x.cs.toList ++ (perT x.p).toList = 87 :: 32 :: (S ++ [115])) ↔ (x.cs.toList = [87] ∧ x.p = q) := by
  obtain ⟨c, C, hc, hC, hne⟩ := cs_list hv
  by_cases hp : x.p = 0
  · rw [hp, per_zero, List.append_nil, hc]
    constructor
    · intro h
      have := congrArg List.length h
      simp at this
      omega
    · rintro ⟨-, h⟩; exact absurd h.symm hq
  · rw [per_list hp, hc, ← hS hp]
    cases C with
    | nil => simp
    | cons e C =>
      constructor
      · intro h
        simp only [List.cons_append, List.cons.injEq] at h
        exact absurd h.2.1 (hne e (by simp))
      · rintro ⟨h, -⟩; simp at h
theorem sec_eq (S : List UInt8) (q : Int) (hq : 1 ≤ q ∧ q ≤ 60) (hl : S.length ≤ 2) (hS : (decB q).toList = S) {p : Int} (h0 : 0 ≤ p) (h6 : p ≤ 600) (hp : p ≠ 0) : (secT p).toList = S ↔ p = 10 * q := by
  obtain ⟨t, ht⟩ : ∃ t, p.tdiv 10 = t := ⟨_, rfl⟩
  obtain ⟨r, hr⟩ : ∃ r, p.tmod 10 = r := ⟨_, rfl⟩
  have hpe : p = 10 * t + r := by
    rw [← ht, ← hr]; exact (Int.mul_tdiv_add_tmod p 10).symm
  have hrb : 0 ≤ r ∧ r ≤ 9 := by rw [← hr, Int.tmod_eq_emod_of_nonneg h0]; omega
  have hlen : ∀ v : Int, 0 ≤ v → 1 ≤ (decB v).toList.length := fun v hv => by
    rw [decB, bl_mk, Lib.itoa, if_neg (by omega), Lib.decDigits]
    split <;> simp
  rw [secT, hr, ht]
  by_cases hr0 : r = 0
  · rw [if_pos hr0, ← hS]
    constructor
    · intro h
      obtain ⟨a, rfl⟩ : ∃ a : Nat, t = a := ⟨t.toNat, by omega⟩
      obtain ⟨b, rfl⟩ : ∃ b : Nat, q = b := ⟨q.toNat, by omega⟩
      have e := congrArg (List.map fun b : UInt8 => (b.toNat : Int)) h
      rw [dec_int (show a ≠ 0 by omega), dec_int (show b ≠ 0 by omega)] at e
      have key : a = b := by
        rw [dn_step (show a ≠ 0 by omega), dn_step (show b ≠ 0 by omega)] at e
        have e2 := List.append_inj' e rfl
        have e3 : (48 : Int) + ((a % 10 : Nat) : Int) = 48 + ((b % 10 : Nat) : Int) := by simpa using e2.2
        have e4 := e2.1
        by_cases ha : a / 10 = 0
        · by_cases hb : b / 10 = 0
          · omega
          · rw [ha, dn_zero, dn_step hb] at e4
            simp at e4
        · by_cases hb : b / 10 = 0
          · rw [hb, dn_zero, dn_step ha] at e4
            simp at e4
          · rw [dn_step ha, dn_step hb] at e4
            have e5 := (List.append_inj' e4 rfl).2
            have e6 : (48 : Int) + ((a / 10 % 10 : Nat) : Int) = 48 + ((b / 10 % 10 : Nat) : Int) := by simpa using e5
            omega
      omega
    · intro h
      have : t = q := by omega
      rw [this]
  · rw [if_neg hr0]
    constructor
    · intro h
      have e := congrArg List.length h
      rw [bl_app, bl_app, show (⟨#[46]⟩ : ByteArray).toList = [46] from bl_mk _] at e
      have h1 := hlen t (by omega)
      have h2 := hlen r (by omega)
      simp only [List.length_append, List.length_cons, List.length_nil] at e
      omega
    · intro h; omega
theorem grp_nil : (grpX []).toList = [] := by rw [grpX, if_pos rfl, bl_mk]
theorem grp_list {g : Int} {r : List Int} (h : 1 ≤ g ∧ g ≤ 9) : ∃ R, (grpX (g :: r)).toList = 40 :: UInt8.ofNat (48 + g.toNat) :: R ∧ (r = [] → R = [41]) ∧ (r ≠ [] → ∃ R', R = 43 :: R') := by
  have hd := dig_list h
  rw [ByteArray.toList_eq] at hd
  refine ⟨Lib.joinTail [43] ((r.map decB).map (·.data.toList)) ++ [41], ?_, ?_, ?_⟩
  · rw [grpX, if_neg (by simp), List.length_cons, grp_join, bl_app, bl_app, bl_mk, bl_mk, bl_mk, List.map_cons, List.map_cons, Lib.join_cons, hd]
    simp
  · rintro rfl; simp [Lib.joinTail]
  · intro hr
    cases r with
    | nil => exact absurd rfl hr
    | cons y t => exact ⟨_, by simp [Lib.joinTail]; rfl⟩
theorem ltr_list (l : ByteArray) : (ltrX l).toList = if isL l then [43, 76, 70, 108] else [] := by
  unfold ltrX
  split <;> rw [bl_mk]
theorem ltr_no (l : ByteArray) (Y Z : List UInt8) : ((ltrX l).toList ++ (32 :: Y) = 32 :: Z) ↔ (isL l = false ∧ Y = Z) := by
  rw [ltr_list]
  cases isL l <;> simp
theorem ltr_yes (l : ByteArray) (Y Z : List UInt8) : ((ltrX l).toList ++ (32 :: Y) = 43 :: 76 :: 70 :: 108 :: 32 :: Z) ↔ (isL l = true ∧ Y = Z) := by
  rw [ltr_list]
  cases isL l <;> simp
theorem ltr_head (l : ByteArray) (Y : List UInt8) : ∃ h t, (ltrX l).toList ++ (32 :: Y) = h :: t ∧ h ≠ 40 := by
  rw [ltr_list]
  cases isL l
  · exact ⟨32, Y, by simp, by decide⟩
  · exact ⟨43, _, by simp; rfl, by decide⟩
theorem grp_eq {gs : List Int} (hg : ∀ g ∈ gs, 1 ≤ g ∧ g ≤ 9) (l : ByteArray) (Y W : List UInt8) (d : Int) (hd : 1 ≤ d ∧ d ≤ 9) :
    ((grpX gs).toList ++ ((ltrX l).toList ++ (32 :: Y)) = 40 :: UInt8.ofNat (48 + d.toNat) :: 41 :: W) ↔ (gs = [d] ∧ (ltrX l).toList ++ (32 :: Y) = W) := by
  cases gs with
  | nil =>
    obtain ⟨h, t, e, hh⟩ := ltr_head l Y
    rw [grp_nil, e, List.nil_append]
    simp [hh]
  | cons g r =>
    have hgb := hg g (by simp)
    obtain ⟨R, e, h1, h2⟩ := grp_list (r := r) hgb
    rw [e]
    have hgd : UInt8.ofNat (48 + g.toNat) = UInt8.ofNat (48 + d.toNat) ↔ g = d := by
      constructor
      · intro h
        have := congrArg UInt8.toNat h
        rw [UInt8.toNat_ofNat', UInt8.toNat_ofNat'] at this
        omega
      · rintro rfl; rfl
    by_cases hr : r = []
    · subst hr
      rw [h1 rfl]
      simp only [List.cons_append, List.nil_append, List.cons.injEq, true_and, and_true, hgd]
    · obtain ⟨R', hR⟩ := h2 hr
      rw [hR]
      constructor
      · intro h
        simp only [List.cons_append, List.cons.injEq] at h
        exact absurd h.2.2.1 (by decide)
      · rintro ⟨h, -⟩
        simp only [List.cons.injEq] at h
        exact absurd h.2 hr
theorem grp_none {gs : List Int} (hg : ∀ g ∈ gs, 1 ≤ g ∧ g ≤ 9) (Q Z : List UInt8) : ((grpX gs).toList ++ Q = 32 :: Z) ↔ (gs = [] ∧ Q = 32 :: Z) := by
  cases gs with
  | nil => rw [grp_nil]; simp
  | cons g r =>
    obtain ⟨R, e, -, -⟩ := grp_list (r := r) (hg g (by simp))
    rw [e]
    simp
end Go.Proofs.YtomjdkjkdmieaaaDoor
