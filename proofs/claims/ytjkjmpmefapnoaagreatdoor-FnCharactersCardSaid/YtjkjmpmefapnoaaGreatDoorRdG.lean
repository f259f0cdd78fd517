/- RdG: several of my texts in one. -/
import Derived.Test.YtjkjmpmefapnoaaGreatDoorChPh
import Derived.Test.YtjkjmpmefapnoaaGreatDoorDec
import Derived.Lib.ItoaLen
import Derived.Lib.Join
import Derived.Test.YtjkjmpmefapnoaaGreatDoorApp
import Derived.Test.YtjkjmpmefapnoaaGreatDoorStr
import Derived.Test.YtjkjmpmefapnoaaGreatDoorDecS
import Derived.Test.YtjkjmpmefapnoaaGreatDoorPwNum
import Derived.Lib.IndexMore
import Derived.Test.YtjkjmpmefapnoaaGreatDoorSmall
import Derived.Test.YtjkjmpmefapnoaaGreatDoorBase2
import Derived.Test.YtjkjmpmefapnoaaGreatDoorDrG

/- The text of a character: plain. -/
namespace Go.Proofs.YtjkjmpmefapnoaaGreatDoor
open Go.RowKit
theorem decB_lenC (n : Int) (h0 : -9223372036854775808 ≤ n) (h1 : n ≤ 9223372036854775807) : (decB n).size ≤ 21 := by
  have := Lib.itoa_length_le n h0 h1
  simpa [decB, ByteArray.size] using this
abbrev chOT (A : Option Addr) (n c : Nat) (x : Ch) (e : TypeId) : Obj := .cells #[.int .i64 x.k, .slice A n c, .string x.l, .string x.cs, .int .i64 x.p] e
def kindL : List (List UInt8) := [[], [70], [79, 99], [73, 115, 111], [70, 108], [76, 70, 108], [81], [86, 81], [77, 111]]
def kbs (l : List UInt8) : ByteArray := ⟨l.toArray⟩
def kindT (k : Int) : ByteArray := (kindL.map kbs).getD k.toNat ⟨#[]⟩
def secT (p : Int) : ByteArray := if p.tmod 10 = 0 then decB (p.tdiv 10) else decB (p.tdiv 10) ++ (⟨#[46]⟩ ++ decB (p.tmod 10))
def grpT (gs : List Int) : Nat → ByteArray
  | 0 => ⟨#[]⟩
  | k + 1 => grpT gs k ++ ((if k = 0 then ⟨#[40]⟩ else ⟨#[43]⟩) ++ decB (gs.getD k 0))
def grpX (gs : List Int) : ByteArray := if gs = [] then ⟨#[]⟩ else grpT gs gs.length ++ ⟨#[41]⟩
def ltrX (l : ByteArray) : ByteArray := if isL l then ⟨#[43, 76, 70, 108]⟩ else ⟨#[]⟩
def headT (x : Ch) : ByteArray := if x.k = 8 then kindT 8 ++ (⟨#[40]⟩ ++ (x.l ++ ⟨#[41]⟩)) else kindT x.k ++ (grpX x.gs ++ ltrX x.l)
def perT (p : Int) : ByteArray := if p = 0 then ⟨#[]⟩ else ⟨#[32]⟩ ++ (secT p ++ ⟨#[115]⟩)
def charT (x : Ch) : ByteArray := headT x ++ (⟨#[32]⟩ ++ (x.cs ++ perT x.p))
def charX (x : Ch) : ByteArray := if validB x = true then charT x else ⟨#[]⟩
theorem bempty (a : ByteArray) : a ++ (⟨#[]⟩ : ByteArray) = a := by
  apply ByteArray.ext
  rw [ByteArray.data_append]
  exact Array.append_empty
theorem bassoc (a b c : ByteArray) : a ++ b ++ c = a ++ (b ++ c) := by
  apply ByteArray.ext
  simp only [ByteArray.data_append, Array.append_assoc]
theorem fits_cases {x : Ch} (h : validB x = true) : (1 ≤ x.k ∧ x.k ≤ 8) ∧ x.gs.length ≤ 4 ∧ (∀ g ∈ x.gs, 1 ≤ g ∧ g ≤ 9) ∧ (x.k = 8 → x.gs = [] ∧ x.l.size = 1) ∧ (x.k ≠ 8 → (isL x.l = true ∧ x.gs ≠ []) ∨ (isL x.l = false ∧ isE x.l = true)) := by
  have h1 := valid_shape h
  rw [shapeB, Bool.and_eq_true] at h1
  have hf := h1.2
  have hG : ∀ gs, groupB gs = true → gs.length ≤ 4 ∧ ∀ g ∈ gs, 1 ≤ g ∧ g ≤ 9 := fun gs hg => by
    simp only [groupB, Bool.and_eq_true, decide_eq_true_eq] at hg
    refine ⟨hg.2.1, fun g hm => ?_⟩
    obtain ⟨i, hi, rfl⟩ := List.mem_iff_getElem.1 hm
    have := allB_iff.1 hg.1 i hi
    rw [goodG_at (List.getElem?_eq_getElem hi)] at this
    exact inB_iff.1 this
  have hLE : ∀ l : ByteArray, isE l = true → isL l = false := fun l hl => by
    rw [isE, List.isEmpty_iff] at hl
    rw [isL, hl]; rfl
  unfold fitsB at hf
  split at hf
  · rename_i hk
    simp only [Bool.and_eq_true, decide_eq_true_eq] at hf
    refine ⟨by omega, by simp [hf.1], by simp [hf.1], fun h => by omega, fun _ => .inr ⟨hLE _ hf.2, hf.2⟩⟩
  · split at hf
    · rename_i hk
      simp only [Bool.and_eq_true] at hf
      refine ⟨by omega, (hG _ hf.2).1, (hG _ hf.2).2, fun h => by omega, fun _ => .inr ⟨hLE _ hf.1, hf.1⟩⟩
    · split at hf
      · rename_i hk
        split at hf
        · rename_i hl
          simp only [decide_eq_true_eq] at hf
          refine ⟨by omega, by simp [hf], by simp [hf], fun h => by omega, fun _ => .inl ⟨hl, by simp [hf]⟩⟩
        · simp only [Bool.and_eq_true] at hf
          refine ⟨by omega, (hG _ hf.2.2).1, (hG _ hf.2.2).2, fun h => by omega, fun _ => .inr ⟨hLE _ hf.1, hf.1⟩⟩
      · split at hf
        · rename_i hk
          simp only [Bool.and_eq_true, decide_eq_true_eq, letterB] at hf
          refine ⟨by omega, by simp [hf.1], by simp [hf.1], fun _ => ⟨hf.1, hf.2.1⟩, fun h => absurd hk h⟩
        · simp at hf
theorem grpT_len {gs : List Int} (h : ∀ g ∈ gs, 1 ≤ g ∧ g ≤ 9) : ∀ k, (grpT gs k).size ≤ 22 * k
  | 0 => by simp [grpT, ByteArray.size]
  | k + 1 => by
    have ih := grpT_len h k
    have hd : (decB (gs.getD k 0)).size ≤ 21 := by
      have : -9223372036854775808 ≤ gs.getD k 0 ∧ gs.getD k 0 ≤ 9223372036854775807 := by
        rw [List.getD_eq_getElem?_getD]
        cases hg : gs[k]? with
        | none => simp
        | some v => have := h v (List.mem_of_getElem? hg); simp; omega
      exact decB_lenC _ this.1 this.2
    rw [grpT, ByteArray.size_append, ByteArray.size_append]
    have h1 : (if k = 0 then (⟨#[40]⟩ : ByteArray) else ⟨#[43]⟩).size = 1 := by split <;> rfl
    omega
/-- What strings.Join gives of the numbers of a group. -/
theorem grp_join (g : Int) (r : List Int) : grpT (g :: r) (r.length + 1) = ⟨#[40]⟩ ++ ⟨(Lib.join (((g :: r).map decB).map (·.data.toList)) [43]).toArray⟩ := by
  have key : ∀ k, k ≤ r.length → (grpT (g :: r) (k + 1)).data.toList = 40 :: ((decB g).data.toList ++ Lib.joinTail [43] (((r.take k).map decB).map (·.data.toList))) := by
    intro k
    induction k with
    | zero => intro _; simp [grpT, Lib.joinTail, ByteArray.data_append]
    | succ k ih =>
      intro hk
      obtain ⟨v, hx⟩ : ∃ v, r[k]? = some v := ⟨_, List.getElem?_eq_getElem (show k < r.length by omega)⟩
      rw [grpT, ByteArray.data_append, Array.toList_append, ih (by omega), if_neg (by omega), ByteArray.data_append, List.take_add_one, hx, Option.toList_some]
      generalize List.take k r = t
      simp [Lib.joinTail, List.getD_eq_getElem?_getD, hx]
  apply ByteArray.ext
  apply Array.ext'
  rw [key r.length (Nat.le_refl _), List.take_length, List.map_cons, List.map_cons, Lib.join_cons, ByteArray.data_append]
  simp
end Go.Proofs.YtjkjmpmefapnoaaGreatDoor

/- The text of a character: the program. -/
namespace Go.Proofs.YtjkjmpmefapnoaaGreatDoor
open Go.RowKit
set_option maxHeartbeats 400000 in
theorem atT_c (i n : Int) (w : World) : Calls Tryz.prog 114 #[.int .i64 i, .int .i64 n] w fun e w' => e = .returned (.bool (decide (0 ≤ i) && decide (i < n))) ∧ w = w' := by
  by_cases h : 0 ≤ i
  all_goals
    go_enter Tryz.func114, Tryz.ntmps114
    go_wp2
    go_ret
    exact ⟨ret_eq (bool_eq (by have := h; rw [Bool.eq_iff_iff]; simp <;> omega)), rfl⟩
set_option maxRecDepth 100000 in
set_option maxHeartbeats 400000 in
theorem pickT_c (i : Int) (A : Option Addr) (n c : Nat) (xs : List ByteArray) (w : World) (h : Sl w w.heap.size 1 A n (xs.flatMap strC)) (h0 : 0 ≤ i) (h1 : i < n) :
    Calls Tryz.prog 97 #[.int .i64 i, .slice A n c] w fun e w' => e = .returned (.string (xs.getD i.toNat ⟨#[]⟩)) ∧ w = w' := by
  obtain ⟨k, rfl⟩ : ∃ k : Nat, i = k := ⟨i.toNat, by omega⟩
  obtain ⟨b, off, s, rfl, hb, hx, c1⟩ := h.str k (by omega)
  have hg : xs.getD ((k : Int).toNat) ⟨#[]⟩ = s := by rw [Int.toNat_natCast, List.getD_eq_getElem?_getD, hx]; rfl
  rw [hg]
  have Hx := Lib.hid hx; clear hx
  have Hg := Lib.hid hg; clear hg
  go_enter Tryz.func97, Tryz.ntmps97
  go_wp2_with (go_at_call 114; refine (atT_c _ _ _).mono ?_; rintro e w1 ⟨rfl, rfl⟩)
  go_ret
  exact ⟨rfl, rfl⟩
theorem slT_lit (w : World) (L : List (List UInt8)) (m : Nat) (hm : L.length = m) : Sl (w.alloc (.cells ((L.map kbs).flatMap strC).toArray 9)) (w.heap.size + 1) 1 (some ⟨w.heap.size, 0, none⟩) m ((L.map kbs).flatMap strC) :=
  Sl.new w 9 _ m 1 (by rw [flat_len strC 1 strC_len, List.length_map, hm])
set_option maxRecDepth 100000 in
set_option maxHeartbeats 1000000 in
theorem kindText_c (k : Int) (w : World) (h0 : 0 ≤ k) (h1 : k ≤ 8) : Calls Tryz.prog 70 #[.int .i64 k] w fun e w' => e = .returned (.string (kindT k)) ∧ Below w.heap.size w w' := by
  have hs := slT_lit w kindL 9 rfl
  have hb0 : Below w.heap.size w (w.alloc (.cells ((kindL.map kbs).flatMap strC).toArray 9)) := by (repeat (first | (with_reducible assumption) | (with_reducible exact Below.refl _ _) | exact Nat.le_refl _ | exact Below.size (by with_reducible assumption) | (with_reducible refine Below.drew ?_) | (with_reducible refine below_drewN ?_ _) | (with_reducible refine Below.alloc ?_ ?_ _) | (with_reducible refine Below.setCell ?_ ?_ _) | (with_reducible refine le_alloc ?_ _) | (with_reducible refine le_set ?_ _ _) | (with_reducible refine le_drew ?_) | (with_reducible refine le_drewN ?_ _) | omega | (dsimp only; omega)))
  have hv : (kindL.map kbs).getD k.toNat ⟨#[]⟩ = kindT k := rfl
  have Hv := Lib.hid hv; clear hv
  go_enter Tryz.func70, Tryz.ntmps70
  go_wp2_with fail
  refine (pickT_c k _ 9 9 (kindL.map kbs) _ (hs.more (by simp)) (by omega) (by omega)).mono ?_
  rw [Hv.out]
  rintro e w1 ⟨rfl, rfl⟩
  go_wp2_with fail
  go_ret
  exact ⟨rfl, hb0⟩
set_option maxRecDepth 100000 in
set_option maxHeartbeats 1000000 in
theorem secondsText_c (p : Int) (w : World) (h0 : 0 ≤ p) (h1 : p ≤ 600) (ht : Tab10 w) : Calls Tryz.prog 42 #[.int .i64 p] w fun e w' => e = .returned (.string (secT p)) ∧ Below w.heap.size w w' := by
  have hD : ∀ (n : Int) (w1 : World), 0 ≤ n → n ≤ 600 → Below w.heap.size w w1 → Calls Tryz.prog 66 #[.int .i64 n] w1 fun e w' => e = .returned (.string (decB n)) ∧ Below w1.heap.size w1 w' := fun n w1 a c hb => decimal_c n w1 (by omega) (by omega) (ht.next hb)
  obtain ⟨q, hq⟩ : ∃ q, p.tdiv 10 = q := ⟨_, rfl⟩
  obtain ⟨r, hr⟩ : ∃ r, p.tmod 10 = r := ⟨_, rfl⟩
  have hqb : 0 ≤ q ∧ q ≤ 60 := by rw [← hq, Int.tdiv_eq_ediv_of_nonneg h0]; omega
  have hrb : 0 ≤ r ∧ r ≤ 9 := by rw [← hr, Int.tmod_eq_emod_of_nonneg h0]; omega
  have lq := decB_lenC q (by omega) (by omega)
  have lr := decB_lenC r (by omega) (by omega)
  have HD := Lib.hid hD; clear hD
  clear ht
  by_cases hr0 : r = 0
  · subst hr0
    have hv : secT p = decB q := by rw [secT, if_pos hr, hq]
    rw [hv]
    have Hv := Lib.hid hv; clear hv
    go_enter Tryz.func42, Tryz.ntmps42
    go_wp2_with fail
    refine (HD.out _ _ (by omega) (by omega) (Below.refl _ _)).mono ?_
    rintro e w3 ⟨rfl, hb2⟩
    go_wp2_with fail
    go_ret
    exact ⟨rfl, hb2⟩
  · have hv : secT p = decB q ++ ⟨#[46]⟩ ++ decB r := by rw [secT, if_neg (by rw [hr]; exact hr0), hq, hr, bassoc]
    rw [hv]
    have q1 : ¬ 9223372036854775807 < (decB q).size + 1 := by omega
    have q2 : ¬ 9223372036854775807 < (decB q).size + 1 + (decB r).size := by omega
    have Hv := Lib.hid hv; clear hv
    go_enter Tryz.func42, Tryz.ntmps42
    go_wp2_with fail
    refine (HD.out _ _ (by omega) (by omega) (Below.refl _ _)).mono ?_
    rintro e w3 ⟨rfl, hb2⟩
    go_wp2_with fail
    refine (HD.out _ _ (by omega) (by omega) hb2).mono ?_
    rintro e w4 ⟨rfl, hb3⟩
    go_wp2_with fail
    go_ret
    exact ⟨rfl, hb2.trans (hb3.mono hb2.size)⟩
end Go.Proofs.YtjkjmpmefapnoaaGreatDoor

/- The text of a character: the program: its head. -/
namespace Go.Proofs.YtjkjmpmefapnoaaGreatDoor
open Go.RowKit
theorem infoT : (Tryz.prog.info? 9).map (fun i => (i.zero, i.size, i.bytes)) = some (some (.string ByteArray.empty), 1, 16) := by kernel_rfl
theorem strT_one (s : ByteArray) : ∀ u ∈ strC s, u.oneCell' = true := by simp [strC, Value.oneCell']
theorem own_ccT {w : World} {base : Nat} {e : TypeId} {sz n c : Nat} {A : Option Addr} {xs : List Value} (h : w.ownsRow base e sz (.slice A n c) n xs) : n ≤ c := by
  rcases h.2 with ⟨hv, hn⟩ | ⟨g, cap, cur, hv, _, _, h1, _⟩
  · injection hv with _ _ e3
    omega
  · injection hv with e1 _ e3
    omega
theorem kindT_len {k : Int} (h0 : 0 ≤ k) (h1 : k ≤ 8) : (kindT k).size ≤ 3 := by
  obtain ⟨n, rfl⟩ : ∃ n : Nat, k = n := ⟨k.toNat, by omega⟩
  have : n ≤ 8 := by omega
  have key : ∀ m : Nat, m ≤ 8 → (kindT (m : Int)).size ≤ 3 := by decide
  exact key n this
def joinT (gs : List Int) : ByteArray := ⟨(Lib.join ((gs.map decB).map (·.data.toList)) [43]).toArray⟩
theorem joinT_len {gs : List Int} (h : ∀ g ∈ gs, 1 ≤ g ∧ g ≤ 9) (hl : gs.length ≤ 4) : (joinT gs).size ≤ 88 := by
  cases gs with
  | nil => simp [joinT, Lib.join_nil, ByteArray.size]
  | cons g r =>
    have h1 := congrArg ByteArray.size (grp_join g r)
    have h2 := grpT_len h (r.length + 1)
    rw [ByteArray.size_append] at h1
    rw [List.length_cons] at hl
    unfold joinT
    omega
theorem grpX_join {gs : List Int} (h : gs ≠ []) : grpX gs = ⟨#[40]⟩ ++ joinT gs ++ ⟨#[41]⟩ := by
  cases gs with
  | nil => exact absurd rfl h
  | cons g r => rw [grpX, if_neg h, List.length_cons, grp_join]; rfl
theorem joinT_c (A : Option Addr) (n c base : Nat) (gs : List Int) (w : World) (h : w.ownsRow base 9 1 (.slice A n c) n ((gs.map decB).flatMap strC)) (hl : gs.length = n) (hn : 0 < n) (h4 : n ≤ 4) (hg : ∀ g ∈ gs, 1 ≤ g ∧ g ≤ 9) :
    Calls Tryz.prog 67 #[.slice A n c, .string ⟨#[43]⟩] w fun e w' => e = .returned (.string (joinT gs)) ∧ Below w.heap.size w w' := by
  have hc := own_ccT h
  have hs := Sl.of_own h
  obtain ⟨g, rfl, hg1, hg2⟩ := own_form h hn
  have hlm : (gs.map decB).length = n := by rw [List.length_map, hl]
  have hj := joinT_len hg (by omega)
  have hJ := Tryz.strings_Join g 0 c (gs.map decB) ⟨#[43]⟩ w (fun j x hx => by
    have hjn : j < n := by rw [← hlm]; exact (List.getElem?_eq_some_iff.1 hx).1
    obtain ⟨b, off, s, hA, hb, hx', hcell⟩ := hs.str j hjn
    injection hA with hA
    injection hA with e1 e2 _
    subst e1 e2
    rw [hcell, Option.some.inj (hx.symm.trans hx')]) hg2 (by rw [hlm]; omega) (by rw [hlm]; omega) (by
      have : (Lib.join ((gs.map decB).map (·.data.toList)) [43]).length = (joinT gs).size := by simp [joinT, ByteArray.size]
      show (Lib.join ((gs.map decB).map (·.data.toList)) [43]).length ≤ _
      omega)
  rw [hlm] at hJ
  exact hJ
set_option maxRecDepth 100000 in
set_option maxHeartbeats 2000000 in
theorem headText_c (A : Option Addr) (n c : Nat) (x : Ch) (w : World) (sl : Sl w w.heap.size 1 A n (x.gs.flatMap intC)) (hn : n ≤ 1048576) (hlz : x.l.size ≤ 1048576) (hs : x.cs.size ≤ 1048576) (hv : validB x = true) (ht : Tab10 w) :
    Calls Tryz.prog 41 #[chV x.k A n c x.l x.cs x.p] w fun e w' => e = .returned (.string (headT x)) ∧ Below w.heap.size w w' := by
  obtain ⟨p0, hp, hy0, hy1, hy2⟩ := info_parts infoT
  obtain ⟨hk, h4, hgs, h8, hn8⟩ := fits_cases hv
  have hl : x.gs.length = n := sl.len intC 1 intC_len (by omega)
  have hb0 : Below w.heap.size w (w.alloc (chOT A n c x 29)) := by (repeat (first | (with_reducible assumption) | (with_reducible exact Below.refl _ _) | exact Nat.le_refl _ | exact Below.size (by with_reducible assumption) | (with_reducible refine Below.drew ?_) | (with_reducible refine below_drewN ?_ _) | (with_reducible refine Below.alloc ?_ ?_ _) | (with_reducible refine Below.setCell ?_ ?_ _) | (with_reducible refine le_alloc ?_ _) | (with_reducible refine le_set ?_ _ _) | (with_reducible refine le_drew ?_) | (with_reducible refine le_drewN ?_ _) | omega | (dsimp only; omega)))
  obtain ⟨c0, c1, c2, c3, c4, hba, -, -, -, -⟩ := chp_box (c := c) 29 sl hn hlz hs
  simp only [Nat.zero_add] at c1 c2 c3 c4
  obtain ⟨w0, hw⟩ : ∃ w0, w.alloc (chOT A n c x 29) = w0 := ⟨_, rfl⟩
  rw [hw] at hb0 c0 c1 c2 c3 c4 hba
  have sl0 := sl.next hb0
  have ht0 := ht.next hb0
  obtain ⟨T, hT⟩ : ∃ T, kindT x.k = T := ⟨_, rfl⟩
  have hK : ∀ w1, Calls Tryz.prog 70 #[.int .i64 x.k] w1 fun e w' => e = .returned (.string T) ∧ Below w1.heap.size w1 w' := fun w1 => hT ▸ kindText_c x.k w1 (by omega) (by omega)
  have hTl : T.size ≤ 3 := hT ▸ kindT_len (by omega) (by omega)
  have HK := Lib.hid hK; clear hK
  by_cases hk8 : x.k = 8
  · obtain ⟨hg0, hl1⟩ := h8 hk8
    have hH : headT x = T ++ ⟨#[40]⟩ ++ x.l ++ ⟨#[41]⟩ := by rw [headT, if_pos hk8, ← hT, hk8, bassoc, bassoc]
    rw [hH]
    have q1 : ¬ 9223372036854775807 < T.size + 1 := by omega
    have q2 : ¬ 9223372036854775807 < T.size + 1 + x.l.size := by omega
    have q3 : ¬ 9223372036854775807 < T.size + 1 + x.l.size + 1 := by omega
    have hk8' : (x.k == 8) = true := by simpa using hk8
    have HH := Lib.hid hH; clear hH
    have Hk8 := Lib.hid hk8; clear hk8
    clear hT hgs hn8 h8 ht ht0 hg0 hl1
    go_enter Tryz.func41, Tryz.ntmps41
    go_wp2_with fail
    try rw [hw]
    clear hw
    refine (HK.out _).mono ?_
    rintro e w1 ⟨rfl, hb1⟩
    have r1 := keepC hb1 w.heap.size hba
    go_wp2_with fail
    go_ret
    exact ⟨rfl, hb0.trans (hb1.mono hb0.size)⟩
  · have hk8' : (x.k == 8) = false := by simpa using hk8
    by_cases hn0 : n = 0
    · subst hn0
      have hg0 : x.gs = [] := List.eq_nil_of_length_eq_zero (by omega)
      have hL : isL x.l = false ∧ isE x.l = true := by
        rcases hn8 hk8 with h | h
        · exact absurd hg0 h.2
        · exact h
      have hH : headT x = T := by rw [headT, if_neg hk8, hg0, grpX, if_pos rfl, ltrX, hL.1, hT]; rw [if_neg (by simp), bempty, bempty]
      rw [hH]
      have hE : x.l.toList.isEmpty = true := hL.2
      have HH := Lib.hid hH; clear hH
      clear hT hgs hn8 h8 ht ht0 hL
      go_enter Tryz.func41, Tryz.ntmps41
      go_wp2_with fail
      try rw [hw]
      clear hw
      refine (HK.out _).mono ?_
      rintro e w1 ⟨rfl, hb1⟩
      have r1 := keepC hb1 w.heap.size hba
      go_wp2_with fail
      go_ret
      exact ⟨rfl, hb0.trans (hb1.mono hb0.size)⟩
    · have hng : x.gs ≠ [] := fun e => hn0 (by rw [← hl, e]; rfl)
      have hnp : (0 : Int) < (n : Int) := by omega
      have hnn : 0 < n := by omega
      obtain ⟨J, hJe⟩ : ∃ J, joinT x.gs = J := ⟨_, rfl⟩
      have hJl : J.size ≤ 88 := by rw [← hJe]; exact joinT_len hgs h4
      have hX : grpX x.gs = ⟨#[40]⟩ ++ J ++ ⟨#[41]⟩ := by rw [← hJe]; exact grpX_join hng
      have hD : ∀ (v : Int) (w1 : World), 1 ≤ v ∧ v ≤ 9 → Below w0.heap.size w0 w1 → Calls Tryz.prog 66 #[.int .i64 v] w1 fun e w' => e = .returned (.string (decB v)) ∧ Below w1.heap.size w1 w' := fun v w1 a hb => decimal_c v w1 (by omega) (by omega) (ht0.next hb)
      have hJn : ∀ A' c' w1, w1.ownsRow w0.heap.size 9 1 (.slice A' n c') n ((x.gs.map decB).flatMap strC) → Calls Tryz.prog 67 #[.slice A' n c', .string ⟨#[43]⟩] w1 fun e w' => e = .returned (.string J) ∧ Below w1.heap.size w1 w' := fun A' c' w1 ho => hJe ▸ joinT_c A' n c' w0.heap.size x.gs w1 ho hl (by omega) (by omega) hgs
      have q1 : ¬ 9223372036854775807 < 1 + J.size := by omega
      have q2 : ¬ 9223372036854775807 < 1 + J.size + 1 := by omega
      have q3 : ¬ 9223372036854775807 < T.size + (1 + J.size + 1) := by omega
      have q4 : ¬ 9223372036854775807 < T.size + (1 + J.size + 1) + 4 := by omega
      have hH : headT x = T ++ (⟨#[40]⟩ ++ J ++ ⟨#[41]⟩) ++ ltrX x.l := by rw [headT, if_neg hk8, hX, hT, ← bassoc]
      have Hl := Lib.hid hl; clear hl
      have HX := Lib.hid hX; clear hX
      have HJe := Lib.hid hJe; clear hJe
      have HD := Lib.hid hD; clear hD
      have HJn := Lib.hid hJn; clear hJn
      have Hgs := Lib.hid hgs; clear hgs
      have Hn0 := Lib.hid hn0; clear hn0
      have Hng := Lib.hid hng; clear hng
      have HH := Lib.hid hH; clear hH
      have HT := Lib.hid hT; clear hT
      have H8 := Lib.hid h8; clear h8
      have Hn8 := Lib.hid hn8; clear hn8
      have HT0 := Lib.hid ht0; clear ht0
      clear ht
      have hsz0 : w.heap.size ≤ w0.heap.size := by omega
      go_enter Tryz.func41, Tryz.ntmps41
      go_wp2_with fail
      try rw [hw]
      clear hw
      refine (HK.out _).mono ?_
      rintro e w1 ⟨rfl, hb1⟩
      have r1 := keepC hb1 w.heap.size hba
      have hov := World.ownsRow_made (base := w0.heap.size) (e := 9) (size := 1) w1 #[] 0 hb1.size (by simp [maxLen]) rfl
      have hbv : Below w0.heap.size w0 (w1.alloc (.cells #[] 9)) := hb1.alloc hb1.size _
      have r1' := keepC hbv w.heap.size hba
      go_wp2_with fail
      go_loopw [4, 27] (fun y i wr => ∃ k : Nat, k ≤ n ∧ i = .int .i64 k ∧ wr.ownsRow w0.heap.size 9 1 y k (((x.gs.take k).map decB).flatMap strC) ∧ Below w0.heap.size w0 wr) (fun _ i _ => n - (intOf i).toNat)
      case atStart => exact ⟨0, Nat.zero_le _, rfl, hov, hbv⟩
      case round =>
        clear hov hbv r1 r1'
        obtain ⟨k, hk', rfl, hov, hbw⟩ := hrel
        obtain ⟨A3, c3', rfl⟩ := own_slice hov
        have k0 : (0 : Int) ≤ (k : Int) := by omega
        by_cases hlt : k < n
        · have k1 : (k : Int) < (n : Int) := by omega
          obtain ⟨b, off, v, hA, hbb, hxv, cv⟩ := (sl0.next hbw).int k hlt
          have hvb := Hgs.out v (List.mem_of_getElem? hxv)
          have e63 : k + 1 ≤ maxLen := by unfold maxLen; omega
          have e32 : (k + 1) * 16 ≤ 140737488355328 := by omega
          have htk : (x.gs.take (k + 1)).map decB = (x.gs.take k).map decB ++ [decB v] := by rw [List.take_add_one, hxv, Option.toList_some, List.map_append]; rfl
          have E63 := Lib.hid e63; clear e63
          have E32 := Lib.hid e32; clear e32
          have Htk := Lib.hid htk; clear htk
          have Hxv := Lib.hid hxv; clear hxv
          subst hA
          go_wp2_with fail
          refine (HD.out v _ hvb hbw).mono ?_
          rintro e w3 ⟨rfl, hb3⟩
          have hov3 := own_next hov hb3
          have hbw3 := hbw.trans (hb3.mono hbw.size)
          clear hov
          go_wp2_with (at_builtin; refine wpl_append _ rfl (.tmp 31) (.tmp 34) _ rfl (w0.heap.size) 9 p0 _ 1 16 Tryz.underlying87 hp hy0 hy1 hy2 rfl (by omega) _ (k) _ rfl ((hov3).alloc _) ((w3).heap.size + 1) (some ⟨(w3).heap.size, 0, none⟩) 1 1 (strC (decB v)) rfl (Sl.new (w3) 9 _ 1 1 rfl) (strT_one _) E63.out E32.out (le_alloc (hbw3).size _) ?_; intro v4 w4 ho4 hg4 hat4)
          go_roundw
          case rel =>
            refine ⟨k + 1, by omega, by go_num, ?_, (hbw3.alloc hbw3.size _).grown hg4 (le_alloc hbw3.size _) fun g hg => (hov3.lt g hg).1⟩
            rw [Htk.out, List.flatMap_append]
            simpa using ho4
          case measure => simp [intOf]; omega
        · obtain rfl : k = n := by omega
          have hl' := Hl.out
          rw [List.take_of_length_le (by omega)] at hov
          have r2 := keepC hbw w.heap.size hba
          clear hl'
          go_wp2_with fail
          refine (HJn.out _ _ _ hov).mono ?_
          rintro e w5 ⟨rfl, hb5⟩
          have hbw5 := hbw.trans (hb5.mono hbw.size)
          have r3 := keepC hbw5 w.heap.size hba
          clear r2
          rcases Hn8.out hk8 with ⟨hL, _⟩ | ⟨hL, hE⟩
          · have hH := HH.out
            rw [ltrX, if_pos hL] at hH
            have hE : x.l.toList.isEmpty = false := by
              have h1 : x.l.toList = [76] := by simpa [isL] using hL
              rw [h1]; rfl
            have HH2 := Lib.hid hH; clear hH
            have HL := Lib.hid hL; clear hL
            go_wp2_with fail
            go_ret
            exact ⟨ret_eq (congrArg Value.string HH2.out.symm), hb0.trans (hbw5.mono hb0.size)⟩
          · have hH := HH.out
            rw [ltrX, if_neg (by rw [hL]; simp), bempty] at hH
            have hE' : x.l.toList.isEmpty = true := hE
            have HH2 := Lib.hid hH; clear hH
            have HL := Lib.hid hL; clear hL
            clear hE
            go_wp2_with fail
            go_ret
            exact ⟨ret_eq (congrArg Value.string HH2.out.symm), hb0.trans (hbw5.mono hb0.size)⟩
end Go.Proofs.YtjkjmpmefapnoaaGreatDoor

/- The text of a character: the reference. -/
namespace Go.Proofs.YtjkjmpmefapnoaaGreatDoor
open Go.RowKit
end Go.Proofs.YtjkjmpmefapnoaaGreatDoor

/- The text of a character: the reference: the whole. -/
namespace Go.Proofs.YtjkjmpmefapnoaaGreatDoor
open Go.RowKit
theorem slT_lit2 (w : World) (L : List (List UInt8)) (m : Nat) (hm : L.length = m) : Sl (w.alloc (.cells ((L.map kbs).flatMap strC).toArray 9)) (w.heap.size + 1) 1 (some ⟨w.heap.size, 0, none⟩) m ((L.map kbs).flatMap strC) :=
  Sl.new w 9 _ m 1 (by rw [flat_len strC 1 strC_len, List.length_map, hm])
theorem kindT_len2 {k : Int} (h0 : 0 ≤ k) (h1 : k ≤ 8) : (kindT k).size ≤ 3 := by
  obtain ⟨n, rfl⟩ : ∃ n : Nat, k = n := ⟨k.toNat, by omega⟩
  have : n ≤ 8 := by omega
  have key : ∀ m : Nat, m ≤ 8 → (kindT (m : Int)).size ≤ 3 := by decide
  exact key n this
theorem bempty' (a : ByteArray) : (⟨#[]⟩ : ByteArray) ++ a = a := by
  apply ByteArray.ext
  rw [ByteArray.data_append]
  exact Array.empty_append
theorem secT_len {p : Int} (h0 : 0 ≤ p) (h1 : p ≤ 600) : (secT p).size ≤ 50 := by
  obtain ⟨q, hq⟩ : ∃ q, p.tdiv 10 = q := ⟨_, rfl⟩
  obtain ⟨r, hr⟩ : ∃ r, p.tmod 10 = r := ⟨_, rfl⟩
  have hqb : 0 ≤ q ∧ q ≤ 60 := by rw [← hq, Int.tdiv_eq_ediv_of_nonneg h0]; omega
  have hrb : 0 ≤ r ∧ r ≤ 9 := by rw [← hr, Int.tmod_eq_emod_of_nonneg h0]; omega
  have lq := decB_lenC q (by omega) (by omega)
  have lr := decB_lenC r (by omega) (by omega)
  rw [secT, hq, hr]
  split
  · omega
  · rw [ByteArray.size_append, ByteArray.size_append]
    have : (⟨#[46]⟩ : ByteArray).size = 1 := rfl
    omega
end Go.Proofs.YtjkjmpmefapnoaaGreatDoor

/- The text of a character: CharacterText, both sides. -/
namespace Go.Proofs.YtjkjmpmefapnoaaGreatDoor
open Go.RowKit
theorem headT_len {x : Ch} (h : validB x = true) : (headT x).size ≤ 100 := by
  obtain ⟨hk, h4, hgs, h8, hn8⟩ := fits_cases h
  have hT := kindT_len (k := x.k) (by omega) (by omega)
  unfold headT
  split
  · rename_i hk8
    have := (h8 hk8).2
    rw [hk8] at hT
    simp only [ByteArray.size_append]
    have : (⟨#[40]⟩ : ByteArray).size = 1 := rfl
    have : (⟨#[41]⟩ : ByteArray).size = 1 := rfl
    omega
  · have h1 : (grpX x.gs).size ≤ 90 := by
      unfold grpX
      split
      · decide
      · rw [ByteArray.size_append]
        have := grpT_len hgs x.gs.length
        have : (⟨#[41]⟩ : ByteArray).size = 1 := rfl
        omega
    have h2 : (ltrX x.l).size ≤ 4 := by
      unfold ltrX
      split
      · decide
      · decide
    simp only [ByteArray.size_append]
    omega
set_option maxRecDepth 100000 in
set_option maxHeartbeats 2000000 in
theorem implText_c (A : Option Addr) (n c : Nat) (x : Ch) (w : World) (sl : Sl w w.heap.size 1 A n (x.gs.flatMap intC)) (hn : n ≤ 1048576) (hlz : x.l.size ≤ 1048576) (hs : x.cs.size ≤ 1048576) (ht : Tab10 w) :
    Calls Tryz.prog 17 #[chV x.k A n c x.l x.cs x.p] w fun e w' => e = .returned (.string (charX x)) ∧ Below w.heap.size w w' := by
  have hb0 : Below w.heap.size w (w.alloc (chOT A n c x 29)) := by (repeat (first | (with_reducible assumption) | (with_reducible exact Below.refl _ _) | exact Nat.le_refl _ | exact Below.size (by with_reducible assumption) | (with_reducible refine Below.drew ?_) | (with_reducible refine below_drewN ?_ _) | (with_reducible refine Below.alloc ?_ ?_ _) | (with_reducible refine Below.setCell ?_ ?_ _) | (with_reducible refine le_alloc ?_ _) | (with_reducible refine le_set ?_ _ _) | (with_reducible refine le_drew ?_) | (with_reducible refine le_drewN ?_ _) | omega | (dsimp only; omega)))
  obtain ⟨c0, c1, c2, c3, c4, hba, -, -, -, -⟩ := chp_box (c := c) 29 sl hn hlz hs
  simp only [Nat.zero_add] at c1 c2 c3 c4
  obtain ⟨w0, hw⟩ : ∃ w0, w.alloc (chOT A n c x 29) = w0 := ⟨_, rfl⟩
  rw [hw] at hb0 c0 c1 c2 c3 c4 hba
  have sl0 := sl.next hb0
  have ht0 := ht.next hb0
  have hO := implValid_c A n c x w0 sl0 hn hlz hs
  rw [charX]
  cases hV : validB x
  · rw [hV] at hO
    have HO := Lib.hid hO; clear hO
    have HV := Lib.hid hV; clear hV
    clear ht ht0
    go_enter Tryz.func17, Tryz.ntmps17
    go_wp2_with fail
    try rw [hw]
    clear hw
    refine HO.out.mono ?_
    rintro e w1 ⟨rfl, hb1⟩
    go_wp2_with fail
    go_ret
    exact ⟨rfl, hb0.trans (hb1.mono hb0.size)⟩
  · rw [hV] at hO
    obtain ⟨hp0, hp6⟩ := valid_p hV
    have hcl : x.cs.size ≤ 3 := by
      have h1 := valid_shape hV
      simp only [shapeB, colorsB, Bool.and_eq_true, decide_eq_true_eq] at h1
      omega
    obtain ⟨H, hHe⟩ : ∃ H, headT x = H := ⟨_, rfl⟩
    have hHl : H.size ≤ 100 := hHe ▸ headT_len hV
    have hHd : ∀ w1, Below w0.heap.size w0 w1 → Calls Tryz.prog 41 #[chV x.k A n c x.l x.cs x.p] w1 fun e w' => e = .returned (.string H) ∧ Below w1.heap.size w1 w' := fun w1 hb => hHe ▸ headText_c A n c x w1 (sl0.next hb) hn hlz hs hV (ht0.next hb)
    obtain ⟨Z, hZ⟩ : ∃ Z, secT x.p = Z := ⟨_, rfl⟩
    have hZl : Z.size ≤ 50 := hZ ▸ secT_len hp0 hp6
    have hSe : ∀ w1, Below w0.heap.size w0 w1 → Calls Tryz.prog 42 #[.int .i64 x.p] w1 fun e w' => e = .returned (.string Z) ∧ Below w1.heap.size w1 w' := fun w1 hb => hZ ▸ secondsText_c x.p w1 hp0 hp6 (ht0.next hb)
    have hC : charT x = H ++ (⟨#[32]⟩ ++ (x.cs ++ perT x.p)) := by rw [charT, hHe]
    have v1 : ¬ 9223372036854775807 < H.size + 1 := by omega
    have v2 : ¬ 9223372036854775807 < H.size + 1 + x.cs.size := by omega
    have v3 : ¬ 9223372036854775807 < 1 + Z.size := by omega
    have v4 : ¬ 9223372036854775807 < 1 + Z.size + 1 := by omega
    have v5 : ¬ 9223372036854775807 < H.size + 1 + x.cs.size + (1 + Z.size + 1) := by omega
    have HO := Lib.hid hO; clear hO
    have HV := Lib.hid hV; clear hV
    have HHd := Lib.hid hHd; clear hHd
    have HSe := Lib.hid hSe; clear hSe
    have HC := Lib.hid hC; clear hC
    have HHe := Lib.hid hHe; clear hHe
    have HZ := Lib.hid hZ; clear hZ
    clear ht ht0
    go_enter Tryz.func17, Tryz.ntmps17
    go_wp2_with fail
    try rw [hw]
    clear hw
    refine HO.out.mono ?_
    rintro e w1 ⟨rfl, hb1⟩
    have r1 := keepC hb1 w.heap.size hba
    have z1 : w.heap.size < w1.heap.size := Nat.lt_of_lt_of_le hba hb1.size
    have d0 := (r1 _).trans c0
    have d1 := (r1 _).trans c1
    have d2 := (r1 _).trans c2
    have d3 := (r1 _).trans c3
    have d4 := (r1 _).trans c4
    clear c0 c1 c2 c3 c4 r1
    go_wp2_with fail
    have e1 : ∀ {w' : World}, Below w1.heap.size w1 w' → (Below w1.heap.size w1 w' ∧ (∀ i, w'.cell? ⟨w.heap.size, i, none⟩ = w1.cell? ⟨w.heap.size, i, none⟩)) := fun hb => ⟨hb, keepC hb _ z1⟩
    refine wp_region_held_drew (S := fun w' => Below w1.heap.size w1 w' ∧ (∀ i, w'.cell? ⟨w.heap.size, i, none⟩ = w1.cell? ⟨w.heap.size, i, none⟩)) (by kernel_rfl) (e1 (Below.refl _ _).drew) (fun hHeld => ?_)
    (first
      | (refine wpAnyH_take (i := 0) (v := ?_) rfl (by kernel_rfl) (by kernel_rfl) (by kernel_rfl) (fun _ _ _ h => h) (Or.inl ⟨by rfl, ?_⟩) (by assumption) ?_
         rotate_left
         focus (intro wq hSq; (try dsimp only at hSq); go_simp; (try (with_reducible rfl)); done))
      | (refine wpAnyH_take (i := 0) (v := undef) rfl (by kernel_rfl) (by kernel_rfl) (by kernel_rfl) (fun _ _ _ h => h) (Or.inr ⟨by rfl, rfl⟩) (by assumption) ?_)
      | fail "take 0")
    try simp only [Act.put, List.setIfInBounds_toArray, List.set_cons_zero, List.set_cons_succ, List.getElem_toArray, List.getElem_cons_zero]
    (first
      | (refine wpAnyH_take (i := 3) (v := ?_) rfl (by kernel_rfl) (by kernel_rfl) (by kernel_rfl) (fun _ _ _ h => h) (Or.inl ⟨by rfl, ?_⟩) (by assumption) ?_
         rotate_left
         focus (intro wq hSq; (try dsimp only at hSq); go_simp; (try (with_reducible rfl)); done))
      | (refine wpAnyH_take (i := 3) (v := undef) rfl (by kernel_rfl) (by kernel_rfl) (by kernel_rfl) (fun _ _ _ h => h) (Or.inr ⟨by rfl, rfl⟩) (by assumption) ?_)
      | fail "take 3")
    try simp only [Act.put, List.setIfInBounds_toArray, List.set_cons_zero, List.set_cons_succ, List.getElem_toArray, List.getElem_cons_zero, List.getElem_cons_succ]
    (first
      | (refine wpAnyH_take (i := 4) (v := ?_) rfl (by kernel_rfl) (by kernel_rfl) (by kernel_rfl) (fun _ _ _ h => h) (Or.inl ⟨by rfl, ?_⟩) (by assumption) ?_
         rotate_left
         focus (intro wq hSq; (try dsimp only at hSq); go_simp; (try (with_reducible rfl)); done))
      | (refine wpAnyH_take (i := 4) (v := undef) rfl (by kernel_rfl) (by kernel_rfl) (by kernel_rfl) (fun _ _ _ h => h) (Or.inr ⟨by rfl, rfl⟩) (by assumption) ?_)
      | fail "take 4")
    try simp only [Act.put, List.setIfInBounds_toArray, List.set_cons_zero, List.set_cons_succ, List.getElem_toArray, List.getElem_cons_zero, List.getElem_cons_succ]
    refine wpAnyH_ready (rs := [1]) (by kernel_rfl) (by simp) ?_
    refine AllReadyH.cons (o := _) rfl (fun K hK => ?_) AllReadyH.nil
    go_simp
    refine (HHd.out _ (hb1.trans ((Below.refl w1.heap.size w1).drew.mono hb1.size))).mono ?_; rintro e w2 ⟨rfl, hb2⟩; have hb12 : Below w1.heap.size w1 w2 := (Below.refl _ _).drew.trans hb2
    refine hK.out _ _ ?_ (fun hHeld => ?_)
    · exact e1 hb12
    clear hK K
    try simp only [Act.put, List.setIfInBounds_toArray, List.set_cons_zero, List.set_cons_succ, List.getElem_toArray, List.getElem_cons_zero, List.getElem_cons_succ]
    (first
      | (refine wpAnyH_take (i := 2) (v := ?_) rfl (by kernel_rfl) (by kernel_rfl) (by kernel_rfl) (fun _ _ _ h => h) (Or.inl ⟨by rfl, ?_⟩) (by assumption) ?_
         rotate_left
         focus (intro wq hSq; (try dsimp only at hSq); go_simp; (try (with_reducible rfl)); done))
      | (refine wpAnyH_take (i := 2) (v := undef) rfl (by kernel_rfl) (by kernel_rfl) (by kernel_rfl) (fun _ _ _ h => h) (Or.inr ⟨by rfl, rfl⟩) (by assumption) ?_)
      | fail "take 2")
    try simp only [Act.put, List.setIfInBounds_toArray, List.set_cons_zero, List.set_cons_succ, List.getElem_toArray, List.getElem_cons_zero, List.getElem_cons_succ]
    (first
      | (refine wpAnyH_take (i := 5) (v := ?_) rfl (by kernel_rfl) (by kernel_rfl) (by kernel_rfl) (fun _ _ _ h => h) (Or.inl ⟨by rfl, ?_⟩) (by assumption) ?_
         rotate_left
         focus (intro wq hSq; (try dsimp only at hSq); go_simp; (try (with_reducible rfl)); done))
      | (refine wpAnyH_take (i := 5) (v := undef) rfl (by kernel_rfl) (by kernel_rfl) (by kernel_rfl) (fun _ _ _ h => h) (Or.inr ⟨by rfl, rfl⟩) (by assumption) ?_)
      | fail "take 5")
    try simp only [Act.put, List.setIfInBounds_toArray, List.set_cons_zero, List.set_cons_succ, List.getElem_toArray, List.getElem_cons_zero, List.getElem_cons_succ]
    (first
      | (refine wpAnyH_take (i := 6) (v := ?_) rfl (by kernel_rfl) (by kernel_rfl) (by kernel_rfl) (fun _ _ _ h => h) (Or.inl ⟨by rfl, ?_⟩) (by assumption) ?_
         rotate_left
         focus (intro wq hSq; (try dsimp only at hSq); go_simp; (try (with_reducible rfl)); done))
      | (refine wpAnyH_take (i := 6) (v := undef) rfl (by kernel_rfl) (by kernel_rfl) (by kernel_rfl) (fun _ _ _ h => h) (Or.inr ⟨by rfl, rfl⟩) (by assumption) ?_)
      | fail "take 6")
    try simp only [Act.put, List.setIfInBounds_toArray, List.set_cons_zero, List.set_cons_succ, List.getElem_toArray, List.getElem_cons_zero, List.getElem_cons_succ]
    refine wpAnyH_done (by kernel_rfl) ?_ _
    have r2 := keepC hb12 w.heap.size z1
    have hbw := hb1.trans (hb12.mono hb1.size)
    clear hHeld e1 hb2
    by_cases hp : x.p = 0
    · have hF : charT x = H ++ ⟨#[32]⟩ ++ x.cs := by rw [HC.out, hp, perT, if_pos rfl, bempty, bassoc]
      have hpz : (x.p == 0) = true := by simpa using hp
      have HF := Lib.hid hF; clear hF
      have Hp := Lib.hid hp; clear hp
      go_wp2_with fail
      go_ret
      exact ⟨ret_eq (congrArg Value.string HF.out.symm), hb0.trans (hbw.mono hb0.size)⟩
    · have hF : charT x = H ++ ⟨#[32]⟩ ++ x.cs ++ (⟨#[32]⟩ ++ Z ++ ⟨#[115]⟩) := by
        rw [HC.out, perT, if_neg hp, HZ.out]
        simp only [bassoc]
      have hpz : (x.p == 0) = false := by simpa using hp
      have HF := Lib.hid hF; clear hF
      have Hp := Lib.hid hp; clear hp
      go_wp2_with fail
      refine (HSe.out _ hbw).mono ?_
      rintro e w4 ⟨rfl, hb4⟩
      go_wp2_with fail
      go_ret
      exact ⟨ret_eq (congrArg Value.string HF.out.symm), hb0.trans ((hbw.trans (hb4.mono hbw.size)).mono hb0.size)⟩
end Go.Proofs.YtjkjmpmefapnoaaGreatDoor

/- What reading the text of a character meets: plain. -/
namespace Go.Proofs.YtjkjmpmefapnoaaGreatDoor
open Go.RowKit
theorem occ_head {c : UInt8} {s : List UInt8} {j : Nat} (h : Lib.occAt s [c] j = true) : s[j]? = some c := by
  have h2 : ∃ t, s.drop j = c :: t := by
    cases hd : s.drop j with
    | nil => simp [Lib.occAt, hd] at h
    | cons d t => exact ⟨t, by simp [Lib.occAt, hd] at h; rw [h]⟩
  obtain ⟨t, ht⟩ := h2
  have h3 : (s.drop j)[0]? = some c := by rw [ht]; rfl
  rwa [List.getElem?_drop, Nat.add_zero] at h3
theorem index_hit {c : UInt8} {a m : List UInt8} (h : c ∉ a) : Lib.index (a ++ c :: m) [c] = (a.length : Int) := by
  have hd : (a ++ c :: m).drop a.length = c :: m := by simp
  rcases Lib.index_spec (a ++ c :: m) [c] with ⟨_, h2⟩ | ⟨i, h1, _, ho, hn⟩
  · exfalso
    have := h2 a.length (by simp)
    simp [Lib.occAt] at this
  · rcases Nat.lt_trichotomy i a.length with hi | hi | hi
    · exfalso
      have h3 := occ_head ho
      rw [List.getElem?_append_left hi] at h3
      exact h (List.mem_of_getElem? h3)
    · rw [h1, hi]
    · exfalso
      have := hn a.length hi
      simp [Lib.occAt] at this
theorem index_miss {c : UInt8} {a : List UInt8} (h : c ∉ a) : Lib.index a [c] = -1 := by
  rcases Lib.index_spec a [c] with ⟨h1, _⟩ | ⟨i, _, _, ho, _⟩
  · exact h1
  · exact absurd (List.mem_of_getElem? (occ_head ho)) h
theorem cut_hit {c : UInt8} {a m : List UInt8} (h : c ∉ a) : Lib.cut (a ++ c :: m) [c] = (a, m, true) := by
  rw [Lib.cut, index_hit h, if_pos (by omega), Int.toNat_natCast]
  simp
theorem cut_miss {c : UInt8} {a : List UInt8} (h : c ∉ a) : Lib.cut a [c] = (a, [], false) := by
  rw [Lib.cut, index_miss h, if_neg (by decide)]
theorem trim_hit {a p : List UInt8} : Lib.trimSuffix (a ++ p) p = a := by
  have h : Lib.hasSuffix (a ++ p) p = true := by
    unfold Lib.hasSuffix
    exact List.isSuffixOf_iff_suffix.2 (List.suffix_append a p)
  rw [Lib.trimSuffix, if_pos h]
  simp
theorem suf_hit (a p : List UInt8) : Lib.hasSuffix (a ++ p) p = true := List.isSuffixOf_iff_suffix.2 (List.suffix_append a p)
/-- A text that ends in another byte does not end in this one. -/
theorem suf_last {a p : List UInt8} {x y : UInt8} (h : x ≠ y) : Lib.hasSuffix (a ++ [x]) (p ++ [y]) = false := by
  rw [Bool.eq_false_iff]
  intro e
  obtain ⟨t, ht⟩ := List.isSuffixOf_iff_suffix.1 e
  rw [← List.append_assoc] at ht
  have := (List.append_inj' ht rfl).2
  simp at this
  exact h this.symm
theorem suf_short {a p : List UInt8} (h : a.length < p.length) : Lib.hasSuffix a p = false := by
  rw [Bool.eq_false_iff]
  intro e
  have := (List.isSuffixOf_iff_suffix.1 e).length_le
  omega
theorem lst_app (a b : ByteArray) : lst (a ++ b) = lst a ++ lst b := by
  show (a ++ b).data.toList = a.data.toList ++ b.data.toList
  rw [ByteArray.data_append, Array.toList_append]
/-- Seconds, tenths. -/
theorem sec_lst {p : Int} (h0 : 0 ≤ p) : lst (secT p) = if p % 10 = 0 then Lib.itoa (p / 10) else Lib.itoa (p / 10) ++ 46 :: Lib.itoa (p % 10) := by
  rw [secT, Int.tmod_eq_emod_of_nonneg h0, Int.tdiv_eq_ediv_of_nonneg h0]
  split
  · rfl
  · rw [lst_app, lst_app]; rfl
theorem kind_lst {k : Int} (h0 : 1 ≤ k) (h1 : k ≤ 8) : lst (kindT k) ∈ [[70], [79, 99], [73, 115, 111], [70, 108], [76, 70, 108], [81], [86, 81], [77, 111]] := by
  obtain ⟨n, rfl⟩ : ∃ n : Nat, k = n := ⟨k.toNat, by omega⟩
  have hn : n ≤ 8 := by omega
  have h1 : 1 ≤ n := by omega
  have key : ∀ m : Nat, m ≤ 8 → 1 ≤ m → lst (kindT (m : Int)) ∈ ([[70], [79, 99], [73, 115, 111], [70, 108], [76, 70, 108], [81], [86, 81], [77, 111]] : List (List UInt8)) := by decide
  exact key n hn h1
theorem kind_no {k : Int} (h0 : 1 ≤ k) (h1 : k ≤ 8) : (32 : UInt8) ∉ lst (kindT k) ∧ (40 : UInt8) ∉ lst (kindT k) ∧ (lst (kindT k)).length ≤ 3 ∧ ¬ lst (kindT k) = [] := by
  have h := kind_lst h0 h1
  generalize lst (kindT k) = l at *
  simp only [List.mem_cons, List.not_mem_nil, or_false] at h
  rcases h with rfl | rfl | rfl | rfl | rfl | rfl | rfl | rfl <;> decide
theorem kind_inj {k j : Int} (h0 : 1 ≤ k) (h1 : k ≤ 8) (g0 : 1 ≤ j) (g1 : j ≤ 8) : (kindT j = kindT k) ↔ j = k := by
  refine ⟨fun h => ?_, fun h => by rw [h]⟩
  obtain ⟨n, rfl⟩ : ∃ n : Nat, k = n := ⟨k.toNat, by omega⟩
  obtain ⟨m, rfl⟩ : ∃ m : Nat, j = m := ⟨j.toNat, by omega⟩
  have key : ∀ n : Nat, n ≤ 8 → ∀ m : Nat, m ≤ 8 → 1 ≤ n → 1 ≤ m → lst (kindT (m : Int)) = lst (kindT (n : Int)) → m = n := by decide
  have := key n (by omega) m (by omega) (by omega) (by omega) (by rw [h])
  omega
theorem grp_lst {gs : List Int} (h : gs ≠ []) : lst (grpX gs) = 40 :: (jn 43 ((gs.map decB).map lst) ++ [41]) := by
  cases gs with
  | nil => exact absurd rfl h
  | cons g r =>
    rw [grpX, if_neg (by simp), List.length_cons, grp_join, lst_app, lst_app, ← join_jn]
    rfl
theorem jn_no {sp c : UInt8} (hne : c ≠ sp) : ∀ {P : List (List UInt8)}, (∀ p ∈ P, c ∉ p) → c ∉ jn sp P
  | [], _ => by simp [jn]
  | [p], h => h p (by simp)
  | p :: q :: r, h => by
    rw [jn_cons p (by simp)]
    have ih := jn_no hne (P := q :: r) fun x hx => h x (List.mem_cons_of_mem _ hx)
    intro hm
    rcases List.mem_append.1 hm with hm | hm
    · exact h p (by simp) hm
    · rcases List.mem_cons.1 hm with hm | hm
      · exact hne hm
      · exact ih hm
theorem decs_no {c : UInt8} (hc : isDg c = false) (h45 : c ≠ 45) (gs : List Int) : ∀ p ∈ (gs.map decB).map lst, c ∉ p := fun p hp => by
  simp only [List.map_map, List.mem_map, Function.comp] at hp
  obtain ⟨v, _, rfl⟩ := hp
  exact itoa_not hc h45 v
theorem ltr_lst (l : ByteArray) : lst (ltrX l) = if isL l then [43, 76, 70, 108] else [] := by
  unfold ltrX
  split <;> rfl
theorem letter_lst {l : ByteArray} (h : l.size = 1) : ∃ b, lst l = [b] := by
  have h1 : (lst l).length = 1 := by rw [← h]; exact Array.length_toList
  cases hl : lst l with
  | nil => rw [hl] at h1; simp at h1
  | cons b t =>
    rw [hl] at h1
    cases t with
    | nil => exact ⟨b, rfl⟩
    | cons _ _ => simp at h1
/-- The letter of Morse. -/
theorem morse_ltr {x : Ch} (hv : validB x = true) (h8 : x.k = 8) : ∃ b, lst x.l = [b] ∧ 65 ≤ b.toNat ∧ b.toNat ≤ 90 := by
  have h1 := valid_shape hv
  rw [shapeB, Bool.and_eq_true] at h1
  have hf := h1.2
  rw [fitsB, if_neg (by omega), if_neg (by omega), if_neg (by omega), if_pos h8] at hf
  simp only [Bool.and_eq_true, decide_eq_true_eq, letterB] at hf
  obtain ⟨b, hb⟩ := letter_lst hf.2.1
  refine ⟨b, hb, ?_⟩
  have e : bt x.l 0 = (b.toNat : Int) := by
    unfold bt
    have : x.l.data.toList = [b] := hb
    rw [this]; rfl
  rw [e] at hf
  omega
theorem cs_no {x : Ch} (hv : validB x = true) : (32 : UInt8) ∉ lst x.cs := fun hm => by
  have h1 := valid_shape hv
  simp only [shapeB, colorsB, Bool.and_eq_true, decide_eq_true_eq] at h1
  obtain ⟨⟨ha, _, _⟩, -⟩ := h1
  obtain ⟨i, hi, hie⟩ := List.mem_iff_getElem.1 hm
  have hl : (lst x.cs).length = x.cs.size := Array.length_toList
  have := allB_iff.1 ha i (by omega)
  simp only [colOk, Bool.and_eq_true, decide_eq_true_eq] at this
  have hb : bt x.cs i = 32 := by
    unfold bt
    have h2 : x.cs.data.toList[i]? = some 32 := by rw [← hie]; exact List.getElem?_eq_getElem hi
    rw [h2]
    rfl
  rw [hb] at this
  exact absurd this.1 (by decide)
theorem head_no {x : Ch} (hv : validB x = true) : (32 : UInt8) ∉ lst (headT x) := by
  obtain ⟨hk, _, _, _, _⟩ := fits_cases hv
  obtain ⟨hk1, _, _, _⟩ := kind_no hk.1 hk.2
  unfold headT
  split
  · rename_i h8
    obtain ⟨b, hb, h1, h2⟩ := morse_ltr hv h8
    rw [h8] at hk1
    rw [lst_app, lst_app, lst_app, hb]
    intro hm
    simp only [List.mem_append] at hm
    rcases hm with hm | hm | hm | hm
    · exact hk1 hm
    · exact absurd hm (by decide)
    · simp only [List.mem_singleton] at hm
      subst hm
      simp at h1
    · exact absurd hm (by decide)
  · rw [lst_app, lst_app, ltr_lst]
    intro hm
    simp only [List.mem_append] at hm
    rcases hm with hm | hm | hm
    · exact hk1 hm
    · by_cases hg : x.gs = []
      · rw [hg, grpX, if_pos rfl] at hm
        exact absurd hm (by decide)
      · rw [grp_lst hg] at hm
        rcases List.mem_cons.1 hm with hm | hm
        · exact absurd hm (by decide)
        · rcases List.mem_append.1 hm with hm | hm
          · exact jn_no (by decide) (decs_no (by decide) (by decide) _) hm
          · exact absurd hm (by decide)
    · revert hm
      split <;> decide
theorem char_lst (x : Ch) : lst (charT x) = lst (headT x) ++ 32 :: (lst x.cs ++ lst (perT x.p)) := by
  rw [charT, lst_app, lst_app, lst_app]; rfl
theorem per_lst (p : Int) : lst (perT p) = if p = 0 then [] else 32 :: (lst (secT p) ++ [115]) := by
  unfold perT
  split
  · rfl
  · rw [lst_app, lst_app]; rfl
/-- The first cut: head and rest. -/
theorem char_cut {x : Ch} (hv : validB x = true) : Lib.cut (lst (charT x)) [32] = (lst (headT x), lst x.cs ++ lst (perT x.p), true) := by
  rw [char_lst, cut_hit (head_no hv)]
/-- The second one: colours and period. -/
theorem rest_cut {x : Ch} (hv : validB x = true) : Lib.cut (lst x.cs ++ lst (perT x.p)) [32] = (lst x.cs, (if x.p = 0 then [] else lst (secT x.p) ++ [115]), decide (x.p ≠ 0)) := by
  rw [per_lst]
  by_cases h : x.p = 0
  · rw [if_pos h, if_pos h, List.append_nil, cut_miss (cs_no hv), decide_eq_false (by simpa using h)]
  · rw [if_neg h, if_neg h, cut_hit (cs_no hv), decide_eq_true h]
/-- A head that is not Morse's: the long flash cut off. -/
def coreT (x : Ch) : ByteArray := kindT x.k ++ grpX x.gs
theorem head_core {x : Ch} (h8 : x.k ≠ 8) : lst (headT x) = lst (coreT x) ++ (if isL x.l then [43, 76, 70, 108] else []) := by
  rw [headT, if_neg h8, coreT, lst_app, lst_app, lst_app, ltr_lst, List.append_assoc]
theorem core_suf {x : Ch} (hv : validB x = true) : Lib.hasSuffix (lst (coreT x)) [43, 76, 70, 108] = false := by
  obtain ⟨hk, _, _, _, _⟩ := fits_cases hv
  obtain ⟨_, _, hk3, _⟩ := kind_no hk.1 hk.2
  rw [coreT, lst_app]
  by_cases hg : x.gs = []
  · rw [hg, grpX, if_pos rfl]
    refine suf_short ?_
    show (lst (kindT x.k) ++ []).length < 4
    rw [List.append_nil]; omega
  · rw [grp_lst hg, show lst (kindT x.k) ++ 40 :: (jn 43 ((x.gs.map decB).map lst) ++ [41]) = (lst (kindT x.k) ++ 40 :: jn 43 ((x.gs.map decB).map lst)) ++ [41] by simp]
    exact suf_last (p := [43, 76, 70]) (by decide)
theorem head_suf8 {x : Ch} (h8 : x.k = 8) : Lib.hasSuffix (lst (headT x)) [43, 76, 70, 108] = false := by
  rw [headT, if_pos h8, lst_app, lst_app, lst_app, ← List.append_assoc, ← List.append_assoc]
  exact suf_last (p := [43, 76, 70]) (by decide)
theorem core_cut {x : Ch} (hv : validB x = true) : Lib.cut (lst (coreT x)) [40] = (lst (kindT x.k), (if x.gs = [] then [] else jn 43 ((x.gs.map decB).map lst) ++ [41]), decide (x.gs ≠ [])) := by
  obtain ⟨hk, _, _, _, _⟩ := fits_cases hv
  obtain ⟨_, hk2, _, _⟩ := kind_no hk.1 hk.2
  rw [coreT, lst_app]
  by_cases hg : x.gs = []
  · rw [if_pos hg, hg, grpX, if_pos rfl, decide_eq_false (by simp)]
    show Lib.cut (lst (kindT x.k) ++ []) [40] = _
    rw [List.append_nil, cut_miss hk2]
  · rw [if_neg hg, grp_lst hg, cut_hit hk2, decide_eq_true hg]
theorem head_cut8 {x : Ch} (h8 : x.k = 8) : Lib.cut (lst (headT x)) [40] = (lst (kindT 8), lst x.l ++ [41], true) := by
  obtain ⟨_, hk2, _, _⟩ := kind_no (show (1 : Int) ≤ 8 by decide) (show (8 : Int) ≤ 8 by decide)
  rw [headT, if_pos h8, lst_app, lst_app, lst_app]
  exact cut_hit hk2
theorem grp_split {gs : List Int} (h : gs ≠ []) {s : ByteArray} (hs : lst s = jn 43 ((gs.map decB).map lst)) : Lib.splitB ⟨#[43]⟩ 0 (Lib.countB s ⟨#[43]⟩) s = gs.map decB :=
  map_lst_inj ((split_pcsB 43 s).uniq ⟨by simpa using h, decs_no (by decide) (by decide) gs, hs.symm⟩)
/-- The seconds of a period, read. -/
theorem sec_cut {p : Int} (h0 : 0 ≤ p) : Lib.cut (lst (secT p)) [46] = (Lib.itoa (p / 10), (if p % 10 = 0 then [] else Lib.itoa (p % 10)), decide (p % 10 ≠ 0)) := by
  rw [sec_lst h0]
  by_cases h : p % 10 = 0
  · rw [if_pos h, if_pos h, cut_miss (itoa_not (by decide) (by decide) _), decide_eq_false (by simpa using h)]
  · rw [if_neg h, if_neg h, cut_hit (itoa_not (by decide) (by decide) _), decide_eq_true h]
end Go.Proofs.YtjkjmpmefapnoaaGreatDoor

/- Small readers: suffixes cut off, seconds: the program. -/
namespace Go.Proofs.YtjkjmpmefapnoaaGreatDoor
open Go.RowKit
theorem lst_kbs (l : List UInt8) : lst (kbs l) = l := rfl
theorem kbs_lst (s : ByteArray) : kbs (lst s) = s := lst_inj rfl
theorem cut_c (s : ByteArray) (c : UInt8) (a m : List UInt8) (f : Bool) (w : World) (hE : Env w) (hs : s.size ≤ 1048576) (h : Lib.cut (lst s) [c] = (a, m, f)) :
    Calls Tryz.prog 37 #[.string s, .string ⟨#[c]⟩] w fun e w' => e = .returned (.tuple #[.string (kbs a), .string (kbs m), .bool f]) ∧ Below w.heap.size w w' := by
  obtain ⟨M, hm⟩ := hE.mx
  refine (Tryz.strings_Cut s ⟨#[c]⟩ M w (by omega) hm).mono ?_
  rintro e w' ⟨rfl, k, rfl⟩
  refine ⟨?_, below_drewN (Below.refl _ _) k⟩
  have h2 : Lib.cut s.data.toList ((⟨#[c]⟩ : ByteArray).data.toList) = (a, m, f) := h
  rw [h2]; rfl
set_option maxRecDepth 100000 in
set_option maxHeartbeats 400000 in
theorem sufNo_c (s p : ByteArray) (w : World) (hn : Lib.hasSuffix (lst s) (lst p) = false) (hs : s.size ≤ 1048576) :
    Calls Tryz.prog 69 #[.string s, .string p] w fun e w' => e = .returned (.tuple #[.string s, .bool false]) ∧ w' = w := by
  have hH : ∀ w1, Calls Tryz.prog 98 #[.string s, .string p] w1 fun e w' => e = .returned (.bool false) ∧ w' = w1 := fun w1 => by
    have := Tryz.stringslite_HasSuffix s p w1 (by omega)
    have h2 : Lib.hasSuffix s.data.toList p.data.toList = false := hn
    rwa [h2] at this
  have hC : ∀ w1, Calls Tryz.prog 96 #[.string s, .string p] w1 fun e w' => e = .returned (.tuple #[.string s, .bool false]) ∧ w' = w1 := fun w1 => by
    go_enter Tryz.func96, Tryz.ntmps96
    go_wp2_with (go_at_call 98; refine (hH _).mono ?_; rintro e w' ⟨rfl, rfl⟩)
    go_ret2
    exact ⟨rfl, rfl⟩
  go_enter Tryz.func69, Tryz.ntmps69
  go_wp2_with (go_at_call 96; refine (hC _).mono ?_; rintro e w' ⟨rfl, rfl⟩)
  go_ret2
  exact ⟨rfl, rfl⟩
set_option maxRecDepth 100000 in
set_option maxHeartbeats 400000 in
theorem sufYes_c (s p a : ByteArray) (w : World) (h : lst s = lst a ++ lst p) (hs : s.size ≤ 1048576) :
    Calls Tryz.prog 69 #[.string s, .string p] w fun e w' => e = .returned (.tuple #[.string a, .bool true]) ∧ w' = w := by
  have hy : Lib.hasSuffix s.data.toList p.data.toList = true := by
    have : Lib.hasSuffix (lst s) (lst p) = true := by rw [h]; exact suf_hit _ _
    exact this
  have hl : s.size = a.size + p.size := by
    have := congrArg List.length h
    rw [List.length_append, lst_len, lst_len, lst_len] at this
    exact this
  have ha : s.extract 0 (s.size - p.size) = a := lst_inj (by
    rw [lst_cut, List.drop_zero, h, show s.size - p.size = (lst a).length by rw [lst_len]; omega]
    simp)
  rw [show s.size - p.size = a.size by omega] at ha
  have hH : ∀ w1, Calls Tryz.prog 98 #[.string s, .string p] w1 fun e w' => e = .returned (.bool true) ∧ w' = w1 := fun w1 => by
    have := Tryz.stringslite_HasSuffix s p w1 (by omega)
    rwa [hy] at this
  have hC : ∀ w1, Calls Tryz.prog 96 #[.string s, .string p] w1 fun e w' => e = .returned (.tuple #[.string a, .bool true]) ∧ w' = w1 := fun w1 => by
    have e1 : ((s.size : Int) - (p.size : Int)) = ((s.size - p.size : Nat) : Int) := by omega
    have l1 : (0 : Int) ≤ (s.size : Int) - (p.size : Int) := by omega
    have l2 : (s.size : Int) - (p.size : Int) ≤ (s.size : Int) := by omega
    have l3 : ((s.size : Int) - (p.size : Int)).toNat = s.size - p.size := by omega
    have H := Lib.hid h; clear h
    go_enter Tryz.func96, Tryz.ntmps96
    go_wp2_with (go_at_call 98; refine (hH _).mono ?_; rintro e w' ⟨rfl, rfl⟩)
    go_ret2
    exact ⟨by simp, rfl⟩
  go_enter Tryz.func69, Tryz.ntmps69
  go_wp2_with (go_at_call 96; refine (hC _).mono ?_; rintro e w' ⟨rfl, rfl⟩)
  go_ret2
  exact ⟨rfl, rfl⟩
theorem dec_zero : decB 0 = ⟨#[48]⟩ := by
  have : Lib.itoa 0 = [48] := by rw [Lib.itoa, if_neg (by decide), show (0 : Int).toNat = 0 from rfl, Lib.decDigits, dif_pos (by omega)]; rfl
  rw [decB, this]
theorem sec_size {p : Int} (h0 : 0 ≤ p) (h1 : p ≤ 600) : (secT p).size ≤ 21 := by
  rw [secT, Int.tmod_eq_emod_of_nonneg h0, Int.tdiv_eq_ediv_of_nonneg h0]
  have a := dec_size (v := p / 10) (by omega) (by omega)
  have b := dec_size (v := p % 10) (by omega) (by omega)
  split
  · omega
  · rw [ByteArray.size_append, ByteArray.size_append]
    have : (⟨#[46]⟩ : ByteArray).size = 1 := rfl
    omega
set_option maxRecDepth 100000 in
set_option maxHeartbeats 1000000 in
theorem readSeconds_c (p : Int) (w : World) (h0 : 0 ≤ p) (h1 : p ≤ 600) (hE : Env w) :
    Calls Tryz.prog 39 #[.string (secT p)] w fun e w' => e = .returned (.tuple #[.int .i64 p, .bool true]) ∧ Below w.heap.size w w' := by
  have hz := sec_size h0 h1
  have hC := cut_c (secT p) 46 _ _ _ w hE (by omega) (sec_cut h0)
  have hD : ∀ (v : Int) (w1 : World), 0 ≤ v ∧ v ≤ 1000 → Below w.heap.size w w1 → Calls Tryz.prog 64 #[.string (decB v)] w1 fun e w' => e = .returned (.tuple #[.int .i64 v, .bool true]) ∧ Below w1.heap.size w1 w' := fun v w1 hv hb => by
    have := readDecimal_c (decB v) w1 (by have := dec_size (v := v) hv.1 (by omega); omega) (hE.next hb)
    rwa [(list_num hv.1 (by omega)).1, (list_num hv.1 (by omega)).2] at this
  have hT : ∀ w1, Below w.heap.size w w1 → Calls Tryz.prog 42 #[.int .i64 p] w1 fun e w' => e = .returned (.string (secT p)) ∧ Below w1.heap.size w1 w' := fun w1 hb => secondsText_c p w1 h0 h1 (hE.next hb).tab
  have hW : ∀ (v lo hi : Int) w1, lo ≤ v → v ≤ hi → Calls Tryz.prog 33 #[.int .i64 v, .int .i64 lo, .int .i64 hi] w1 fun e w' => e = .returned (.bool true) ∧ w1 = w' := fun v lo hi w1 a b => by
    have := within_c v lo hi w1
    rwa [inB_iff.2 ⟨a, b⟩] at this
  have e1 : kbs (Lib.itoa (p / 10)) = decB (p / 10) := rfl
  rw [e1] at hC
  have hD1 := fun w1 => hD (p / 10) w1 (by omega)
  have hW1 := fun w1 => hW (p / 10) 0 1200 w1 (by omega) (by omega)
  have hse : ((secT p).toList == (secT p).toList) = true := by simp
  obtain ⟨T, hTT⟩ : ∃ T, secT p = T := ⟨_, rfl⟩
  rw [hTT] at hC hT hse ⊢
  obtain ⟨q, hq⟩ : ∃ q, p / 10 = q := ⟨_, rfl⟩
  by_cases hr : p % 10 = 0
  · rw [if_pos hr, decide_eq_false (by simpa using hr)] at hC
    have hD2 := fun w1 => hD 0 w1 (by omega)
    rw [dec_zero] at hD2
    have hW2 := fun w1 => hW 0 0 9 w1 (by omega) (by omega)
    rw [hq] at hC hD1 hW1
    have ep : 10 * q = p := by omega
    clear hW hD hE hTT e1 hz
    have HC := Lib.hid hC; clear hC
    have HD1 := Lib.hid hD1; clear hD1
    have HD2 := Lib.hid hD2; clear hD2
    have HT := Lib.hid hT; clear hT
    have HW1 := Lib.hid hW1; clear hW1
    have HW2 := Lib.hid hW2; clear hW2
    have hqb : 0 ≤ q ∧ q ≤ 60 := by omega
    clear hr hq
    subst ep
    go_enter Tryz.func39, Tryz.ntmps39
    go_wp2_with fail
    refine HC.out.mono ?_
    rintro e w1 ⟨rfl, hb1⟩
    go_wp2_with fail
    refine (HD1.out _ hb1).mono ?_
    rintro e w2 ⟨rfl, hb2⟩
    replace hb2 := hb1.trans (hb2.mono hb1.size)
    go_wp2_with fail
    refine (HD2.out _ hb2).mono ?_
    rintro e w3 ⟨rfl, hb3⟩
    replace hb3 := hb2.trans (hb3.mono hb2.size)
    go_wp2_with fail
    refine (HW1.out _).mono ?_
    rintro e w4 ⟨rfl, rfl⟩
    go_wp2_with fail
    refine (HW2.out _).mono ?_
    rintro e w4 ⟨rfl, rfl⟩
    go_wp2_with fail
    refine (HT.out _ hb3).mono ?_
    rintro e w4 ⟨rfl, hb4⟩
    replace hb4 := hb3.trans (hb4.mono hb3.size)
    go_wp2_with fail
    go_ret2
    exact ⟨rfl, hb4⟩
  · rw [if_neg hr, decide_eq_true hr, show kbs (Lib.itoa (p % 10)) = decB (p % 10) from rfl] at hC
    have hD2 := fun w1 => hD (p % 10) w1 (by omega)
    have hW2 := fun w1 => hW (p % 10) 0 9 w1 (by omega) (by omega)
    obtain ⟨r, hrr⟩ : ∃ r, p % 10 = r := ⟨_, rfl⟩
    rw [hq] at hC hD1 hW1
    rw [hrr] at hC hD2 hW2
    have ep : 10 * q + r = p := by omega
    have hqb : 0 ≤ q ∧ q ≤ 60 ∧ 0 ≤ r ∧ r ≤ 9 := by omega
    clear hW hD hE hTT e1 hz hr hrr hq
    subst ep
    have HC := Lib.hid hC; clear hC
    have HD1 := Lib.hid hD1; clear hD1
    have HD2 := Lib.hid hD2; clear hD2
    have HT := Lib.hid hT; clear hT
    have HW1 := Lib.hid hW1; clear hW1
    have HW2 := Lib.hid hW2; clear hW2
    go_enter Tryz.func39, Tryz.ntmps39
    go_wp2_with fail
    refine HC.out.mono ?_
    rintro e w1 ⟨rfl, hb1⟩
    go_wp2_with fail
    refine (HD1.out _ hb1).mono ?_
    rintro e w2 ⟨rfl, hb2⟩
    replace hb2 := hb1.trans (hb2.mono hb1.size)
    go_wp2_with fail
    refine (HD2.out _ hb2).mono ?_
    rintro e w3 ⟨rfl, hb3⟩
    replace hb3 := hb2.trans (hb3.mono hb2.size)
    go_wp2_with fail
    refine (HW1.out _).mono ?_
    rintro e w4 ⟨rfl, rfl⟩
    go_wp2_with fail
    refine (HW2.out _).mono ?_
    rintro e w4 ⟨rfl, rfl⟩
    go_wp2_with fail
    refine (HT.out _ hb3).mono ?_
    rintro e w4 ⟨rfl, hb4⟩
    replace hb4 := hb3.trans (hb4.mono hb3.size)
    go_wp2_with fail
    go_ret2
    exact ⟨rfl, hb4⟩
end Go.Proofs.YtjkjmpmefapnoaaGreatDoor

/- The head of a character's text read: the program. -/
namespace Go.Proofs.YtjkjmpmefapnoaaGreatDoor
open Go.RowKit
theorem infoTi2 : (Tryz.prog.info? 2).map (fun i => (i.zero, i.size, i.bytes)) = some (some (.int .i64 0), 1, 8) := by kernel_rfl
/-- A character in a block of its own, at place b. -/
def rowC (w : World) (b : Nat) (k : Int) (v : Value) (l cs : ByteArray) (p : Int) : Prop :=
  w.heap[b]? = some (.cells #[.int .i64 k, v, .string l, .string cs, .int .i64 p] 29 (0, 0))
theorem rowC.next {w w' : World} {b : Nat} {k : Int} {v : Value} {l cs : ByteArray} {p : Int} (h : rowC w b k v l cs p) (hb : Below w.heap.size w w') : rowC w' b k v l cs p :=
  (hb.block b (by
    by_cases hk : b < w.heap.size
    · exact hk
    · rw [rowC, Array.getElem?_eq_none (by omega)] at h; cases h)).trans h
theorem rowC.lt {w : World} {b : Nat} {k : Int} {v : Value} {l cs : ByteArray} {p : Int} (h : rowC w b k v l cs p) : b < w.heap.size := (Array.getElem?_eq_some_iff.1 h).1
theorem rowC.facts {w : World} {b : Nat} {k : Int} {v : Value} {l cs : ByteArray} {p : Int} (h : rowC w b k v l cs p) :
    w.cell? ⟨b, 0, none⟩ = some (.int .i64 k) ∧ w.cell? ⟨b, 1, none⟩ = some v ∧ w.cell? ⟨b, 2, none⟩ = some (.string l) ∧ w.cell? ⟨b, 3, none⟩ = some (.string cs) ∧ w.cell? ⟨b, 4, none⟩ = some (.int .i64 p) ∧ (∀ j, w.frozen? ⟨b, j, none⟩ = false) :=
  ⟨(cell_of_row w b 0 _ _ _ h).trans rfl, (cell_of_row w b 1 _ _ _ h).trans rfl, (cell_of_row w b 2 _ _ _ h).trans rfl, (cell_of_row w b 3 _ _ _ h).trans rfl, (cell_of_row w b 4 _ _ _ h).trans rfl, fun j => frozen_of_row w b j _ _ h⟩
theorem rowC.other {w : World} {b : Nat} {k : Int} {v : Value} {l cs : ByteArray} {p : Int} (h : rowC w b k v l cs p) {a : Addr} (u : Value) (hne : b ≠ a.block) : rowC (w.setCell a u) b k v l cs p :=
  (heap_setCell_other w a b u hne).trans h
theorem rowC.set0 {w : World} {b : Nat} {k : Int} {v : Value} {l cs : ByteArray} {p : Int} (h : rowC w b k v l cs p) (k' : Int) : rowC (w.setCell ⟨b, 0, none⟩ (.int .i64 k')) b k' v l cs p := heap_setCell_same w b 0 _ _ _ h
theorem rowC.set1 {w : World} {b : Nat} {k : Int} {v : Value} {l cs : ByteArray} {p : Int} (h : rowC w b k v l cs p) (v' : Value) : rowC (w.setCell ⟨b, 1, none⟩ v') b k v' l cs p := heap_setCell_same w b 1 _ _ _ h
theorem rowC.set2 {w : World} {b : Nat} {k : Int} {v : Value} {l cs : ByteArray} {p : Int} (h : rowC w b k v l cs p) (l' : ByteArray) : rowC (w.setCell ⟨b, 2, none⟩ (.string l')) b k v l' cs p := heap_setCell_same w b 2 _ _ _ h
theorem rowC.set3 {w : World} {b : Nat} {k : Int} {v : Value} {l cs : ByteArray} {p : Int} (h : rowC w b k v l cs p) (c' : ByteArray) : rowC (w.setCell ⟨b, 3, none⟩ (.string c')) b k v l c' p := heap_setCell_same w b 3 _ _ _ h
theorem rowC.set4 {w : World} {b : Nat} {k : Int} {v : Value} {l cs : ByteArray} {p : Int} (h : rowC w b k v l cs p) (p' : Int) : rowC (w.setCell ⟨b, 4, none⟩ (.int .i64 p')) b k v l cs p' := heap_setCell_same w b 4 _ _ _ h
theorem rowC.grown {w w' : World} {b : Nat} {k : Int} {v : Value} {l cs : ByteArray} {p : Int} {row : Option Nat} (h : rowC w b k v l cs p) (hg : w.grownBy w' row) (hne : row ≠ some b) : rowC w' b k v l cs p :=
  (hg.block b h.lt (fun e => hne e.symm)).trans h
/-- Two boxes of zero characters. -/
theorem two_zero (w : World) :
    let o : Obj := .cells #[.int .i64 0, .slice none 0 0, .string ⟨#[]⟩, .string ⟨#[]⟩, .int .i64 0] 29
    rowC ((w.alloc o).alloc o) w.heap.size 0 (.slice none 0 0) ⟨#[]⟩ ⟨#[]⟩ 0 ∧ rowC ((w.alloc o).alloc o) (w.heap.size + 1) 0 (.slice none 0 0) ⟨#[]⟩ ⟨#[]⟩ 0 ∧ Below w.heap.size w ((w.alloc o).alloc o) ∧ ((w.alloc o).alloc o).heap.size = w.heap.size + 2 := by
  intro o
  have h1 : rowC (w.alloc o) w.heap.size 0 (.slice none 0 0) ⟨#[]⟩ ⟨#[]⟩ 0 := heap_alloc_new w _
  have hb : Below (w.alloc o).heap.size (w.alloc o) ((w.alloc o).alloc o) := by (repeat (first | (with_reducible assumption) | (with_reducible exact Below.refl _ _) | exact Nat.le_refl _ | exact Below.size (by with_reducible assumption) | (with_reducible refine Below.drew ?_) | (with_reducible refine below_drewN ?_ _) | (with_reducible refine Below.alloc ?_ ?_ _) | (with_reducible refine Below.setCell ?_ ?_ _) | (with_reducible refine le_alloc ?_ _) | (with_reducible refine le_set ?_ _ _) | (with_reducible refine le_drew ?_) | (with_reducible refine le_drewN ?_ _) | omega | (dsimp only; omega)))
  refine ⟨h1.next hb, ?_, by (repeat (first | (with_reducible assumption) | (with_reducible exact Below.refl _ _) | exact Nat.le_refl _ | exact Below.size (by with_reducible assumption) | (with_reducible refine Below.drew ?_) | (with_reducible refine below_drewN ?_ _) | (with_reducible refine Below.alloc ?_ ?_ _) | (with_reducible refine Below.setCell ?_ ?_ _) | (with_reducible refine le_alloc ?_ _) | (with_reducible refine le_set ?_ _ _) | (with_reducible refine le_drew ?_) | (with_reducible refine le_drewN ?_ _) | omega | (dsimp only; omega))), by simp⟩
  have := heap_alloc_new (w.alloc o) o
  rw [World.size_alloc] at this
  exact this
theorem kindT_size {k : Int} (h0 : 1 ≤ k) (h1 : k ≤ 8) : (kindT k).size ≤ 3 := by
  have := (kind_no h0 h1).2.2.1
  rwa [lst_len] at this
theorem emp_of_isE {l : ByteArray} (h : isE l = true) : l = ⟨#[]⟩ := lst_inj (by
  rw [isE, ByteArray.toList_eq, List.isEmpty_iff] at h
  exact h)
set_option maxRecDepth 100000 in
set_option maxHeartbeats 2000000 in
/-- The head of Morse's. -/
theorem readHead8_c (x : Ch) (w : World) (hv : validB x = true) (hx8 : x.k = 8) (hE : Env w) :
    Calls Tryz.prog 38 #[.string (headT x)] w fun e w' => e = .returned (.tuple #[chV x.k none 0 0 x.l ⟨#[]⟩ 0, .bool true]) ∧ Below w.heap.size w w' := by
  obtain ⟨hk, h4, hgs, h8, hn8⟩ := fits_cases hv
  obtain ⟨hz1, hz2, hzb, hzs⟩ := two_zero w
  have hK : ∀ (k : Nat), 1 ≤ k → k ≤ 8 → ∀ w1, Calls Tryz.prog 70 #[.int .i64 (k : Int)] w1 fun e w' => e = .returned (.string (kindT (k : Int))) ∧ Below w1.heap.size w1 w' := fun k a b w1 => kindText_c (k : Int) w1 (by omega) (by omega)
  obtain ⟨KT, hKT⟩ : ∃ KT, kindT x.k = KT := ⟨_, rfl⟩
  have HK := Lib.hid hK; clear hK
  have Hx1 := Lib.hid hk; clear hk
  have HKT := Lib.hid hKT; clear hKT
  have hhs : (headT x).size ≤ 100 := by
    obtain ⟨h0, h1⟩ := h8 hx8
    rw [headT, if_pos hx8, ByteArray.size_append, ByteArray.size_append, ByteArray.size_append, h1]
    decide
  have hS := fun w1 => sufNo_c (headT x) ⟨#[43, 76, 70, 108]⟩ w1 (head_suf8 hx8) (by omega)
  have hC := fun w1 (hb : Below w.heap.size w w1) => cut_c (headT x) 40 _ _ _ w1 (hE.next hb) (by omega) (head_cut8 hx8)
  have hS2 : ∀ w1, Calls Tryz.prog 69 #[.string (kbs (lst x.l ++ [41])), .string ⟨#[41]⟩] w1 fun e w' => e = .returned (.tuple #[.string x.l, .bool true]) ∧ w' = w1 := fun w1 => sufYes_c (kbs (lst x.l ++ [41])) ⟨#[41]⟩ x.l w1 rfl (by
    have : (kbs (lst x.l ++ [41])).size = (lst x.l ++ [41]).length := by simp [kbs, ByteArray.size]
    have h2 := (h8 hx8).2
    rw [this, List.length_append, lst_len, h2]; decide)
  rw [show kbs (lst (kindT 8)) = KT by rw [kbs_lst, ← HKT.out, hx8]] at hC
  obtain ⟨R, hR⟩ : ∃ R, kbs (lst x.l ++ [41]) = R := ⟨_, rfl⟩
  rw [hR] at hC hS2
  obtain ⟨H, hH⟩ : ∃ H, headT x = H := ⟨_, rfl⟩
  rw [hH] at hS hC ⊢
  have HS := Lib.hid hS; clear hS
  have HC := Lib.hid hC; clear hC
  have HS2 := Lib.hid hS2; clear hS2
  have Hx8 := Lib.hid hx8; clear hx8
  clear hH hR h8 hn8 hgs h4 hE hhs
  clear hzs
  go_enter Tryz.func38, Tryz.ntmps38
  go_wp2_with fail
  generalize ((w.alloc (.cells #[.int .i64 0, .slice none 0 0, .string ⟨#[]⟩, .string ⟨#[]⟩, .int .i64 0] 29)).alloc (.cells #[.int .i64 0, .slice none 0 0, .string ⟨#[]⟩, .string ⟨#[]⟩, .int .i64 0] 29)) = w0 at *
  refine (HS.out _).mono ?_
  rintro e w1 ⟨rfl, rfl⟩
  go_wp2_with fail
  refine (HC.out _ hzb).mono ?_
  rintro e w2 ⟨rfl, hb2⟩
  have hq1 := hz1.next hb2
  have hq2 := hz2.next hb2
  have hbq := hzb.trans (hb2.mono hzb.size)
  clear hb2 hz1 hz2 hzb
  have hx9 := Hx1.out
  obtain ⟨g0, g1, g2, g3, g4, g5⟩ := (hq1).facts
  obtain ⟨f0, f1, f2, f3, f4, f5⟩ := (hq2).facts
  go_wp2_with fail
  go_loopw [10] (fun i wr => ∃ k : Nat, 1 ≤ k ∧ k ≤ 9 ∧ i = .int .i64 k ∧ rowC wr w.heap.size 0 (.slice none 0 0) ⟨#[]⟩ ⟨#[]⟩ 0 ∧ rowC wr (w.heap.size + 1) (if x.k < (k : Int) then x.k else 0) (.slice none 0 0) (⟨#[]⟩ : ByteArray) ⟨#[]⟩ 0 ∧ Below w.heap.size w wr) (fun i _ => 9 - (intOf i).toNat)
  case atStart => exact ⟨1, by omega, by omega, rfl, hq1, by rw [if_neg (show ¬ x.k < ((1 : Nat) : Int) by omega)]; exact hq2, hbq⟩
  case round =>
    clear hq1 hq2 hbq
    clear g0 g1 g2 g3 g4 g5 f0 f1 f2 f3 f4 f5
    obtain ⟨k, hk1, hk9, rfl, hq1, hq2, hbq⟩ := hrel
    by_cases hlt : k ≤ 8
    · have j1 : (k : Int) ≤ 8 := by omega
      have hKk := HK.out k (by omega) (by omega)
      by_cases he : (k : Int) = x.k
      · have heq : ((kindT (k : Int)).toList == KT.toList) = true := by rw [ba_beq, ← HKT.out, he]; simp
        rw [if_neg (by omega)] at hq2
        have HKk := Lib.hid hKk; clear hKk
        have He := Lib.hid he; clear he
        obtain ⟨g0, g1, g2, g3, g4, g5⟩ := (hq1).facts
        obtain ⟨f0, f1, f2, f3, f4, f5⟩ := (hq2).facts
        obtain ⟨KK, hKK⟩ : ∃ KK, kindT (k : Int) = KK := ⟨_, rfl⟩
        rw [hKK] at heq
        have HKK := Lib.hid hKK; clear hKK
        go_wp2_with fail
        refine (HKk.out _).mono ?_
        rw [HKK.out]
        rintro e w3 ⟨rfl, hb3⟩
        have hq1' := hq1.next hb3
        have hq2' := hq2.next hb3
        have hbq' := hbq.trans (hb3.mono hbq.size)
        have hlt' := hq2'.lt
        clear hq1 hq2 hbq hb3
        clear g0 g1 g2 g3 g4 g5 f0 f1 f2 f3 f4 f5
        obtain ⟨g0, g1, g2, g3, g4, g5⟩ := (hq1').facts
        obtain ⟨f0, f1, f2, f3, f4, f5⟩ := (hq2').facts
        go_wp2_with fail
        go_roundw
        case rel =>
          refine ⟨k + 1, by omega, by omega, by go_num, hq1'.other _ (by simp), ?_, hbq'.setCell (by show w.heap.size ≤ w.heap.size + 1; omega) _⟩
          rw [if_pos (by have := He.out; omega), ← He.out]
          exact hq2'.set0 _
        case measure => simp [intOf]; omega
      · have heq : ((kindT (k : Int)).toList == KT.toList) = false := by
          rw [ba_beq, ← HKT.out]
          simpa using fun e => he ((kind_inj Hx1.out.1 Hx1.out.2 (by omega) (by omega)).1 e)
        have HKk := Lib.hid hKk; clear hKk
        obtain ⟨g0, g1, g2, g3, g4, g5⟩ := (hq1).facts
        obtain ⟨f0, f1, f2, f3, f4, f5⟩ := (hq2).facts
        obtain ⟨KK, hKK⟩ : ∃ KK, kindT (k : Int) = KK := ⟨_, rfl⟩
        rw [hKK] at heq
        have HKK := Lib.hid hKK; clear hKK
        go_wp2_with fail
        refine (HKk.out _).mono ?_
        rw [HKK.out]
        rintro e w3 ⟨rfl, hb3⟩
        go_wp2_with fail
        go_roundw
        case rel =>
          refine ⟨k + 1, by omega, by omega, by go_num, hq1.next hb3, ?_, hbq.trans (hb3.mono hbq.size)⟩
          have := hq2.next hb3
          by_cases hlx : x.k < (k : Int)
          · rw [if_pos hlx] at this
            rw [if_pos (by omega)]; exact this
          · rw [if_neg hlx] at this
            rw [if_neg (by omega)]; exact this
        case measure => simp [intOf]; omega
    obtain rfl : k = 9 := by omega
    have hx9 := Hx1.out
    rw [if_pos (by omega)] at hq2
    obtain ⟨g0, g1, g2, g3, g4, g5⟩ := (hq1).facts
    obtain ⟨f0, f1, f2, f3, f4, f5⟩ := (hq2).facts
    have j1 : ¬ ((9 : Nat) : Int) ≤ 8 := by omega
    clear hk1 hk9 hlt
    have k8 : (x.k == 8) = true := by rw [Hx8.out]; rfl
    go_wp2_with fail
    refine (HS2.out _).mono ?_
    rintro e w4 ⟨rfl, rfl⟩
    go_wp2_with fail
    exact bodyPost_ret (v := .tuple #[chV x.k none 0 0 x.l ⟨#[]⟩ 0, .bool true]) (by simp [results, Tryz.results38, go_sem, g0, g1, g2, g3, g4]) rfl ⟨rfl, by (repeat (first | (with_reducible assumption) | (with_reducible exact Below.refl _ _) | exact Nat.le_refl _ | exact Below.size (by with_reducible assumption) | (with_reducible refine Below.drew ?_) | (with_reducible refine below_drewN ?_ _) | (with_reducible refine Below.alloc ?_ ?_ _) | (with_reducible refine Below.setCell ?_ ?_ _) | (with_reducible refine le_alloc ?_ _) | (with_reducible refine le_set ?_ _ _) | (with_reducible refine le_drew ?_) | (with_reducible refine le_drewN ?_ _) | omega | (dsimp only; omega)))⟩
set_option maxRecDepth 100000 in
set_option maxHeartbeats 2000000 in
/-- A head without a group. -/
theorem readHeadN_c (x : Ch) (w : World) (hv : validB x = true) (hx8 : x.k ≠ 8) (hg0 : x.gs = []) (hE : Env w) :
    Calls Tryz.prog 38 #[.string (headT x)] w fun e w' => e = .returned (.tuple #[chV x.k none 0 0 x.l ⟨#[]⟩ 0, .bool true]) ∧ Below w.heap.size w w' := by
  obtain ⟨hk, h4, hgs, h8, hn8⟩ := fits_cases hv
  obtain ⟨hz1, hz2, hzb, hzs⟩ := two_zero w
  have hK : ∀ (k : Nat), 1 ≤ k → k ≤ 8 → ∀ w1, Calls Tryz.prog 70 #[.int .i64 (k : Int)] w1 fun e w' => e = .returned (.string (kindT (k : Int))) ∧ Below w1.heap.size w1 w' := fun k a b w1 => kindText_c (k : Int) w1 (by omega) (by omega)
  obtain ⟨KT, hKT⟩ : ∃ KT, kindT x.k = KT := ⟨_, rfl⟩
  have HK := Lib.hid hK; clear hK
  have Hx1 := Lib.hid hk; clear hk
  have HKT := Lib.hid hKT; clear hKT
  have hL : isL x.l = false ∧ x.l = ⟨#[]⟩ := by
    rcases hn8 hx8 with h | h
    · exact absurd hg0 h.2
    · exact ⟨h.1, emp_of_isE h.2⟩
  have hcore := head_core hx8
  rw [hL.1] at hcore
  simp only [Bool.false_eq_true, if_false, List.append_nil] at hcore
  have hcut := core_cut hv
  rw [if_pos hg0, decide_eq_false (by simpa using hg0), ← hcore] at hcut
  have hsuf := core_suf hv
  rw [← hcore] at hsuf
  have hhs : (headT x).size ≤ 100 := by
    have h2 := congrArg List.length hcore
    rw [lst_len, lst_len, coreT, ByteArray.size_append, hg0, grpX, if_pos rfl] at h2
    have h3 := kindT_size Hx1.out.1 Hx1.out.2
    have h4 : (⟨#[]⟩ : ByteArray).size = 0 := rfl
    omega
  have hS := fun w1 => sufNo_c (headT x) ⟨#[43, 76, 70, 108]⟩ w1 hsuf (by omega)
  have hC := fun w1 (hb : Below w.heap.size w w1) => cut_c (headT x) 40 _ _ _ w1 (hE.next hb) (by omega) hcut
  rw [show kbs (lst (kindT x.k)) = KT by rw [kbs_lst, ← HKT.out], show kbs [] = (⟨#[]⟩ : ByteArray) from rfl] at hC
  rw [hL.2]
  obtain ⟨H, hH⟩ : ∃ H, headT x = H := ⟨_, rfl⟩
  rw [hH] at hS hC ⊢
  have HS := Lib.hid hS; clear hS
  have HC := Lib.hid hC; clear hC
  have Hx8 := Lib.hid hx8; clear hx8
  clear hH h8 hn8 hgs h4 hE hhs hcore hcut hsuf hg0 hL
  clear hzs
  go_enter Tryz.func38, Tryz.ntmps38
  go_wp2_with fail
  generalize ((w.alloc (.cells #[.int .i64 0, .slice none 0 0, .string ⟨#[]⟩, .string ⟨#[]⟩, .int .i64 0] 29)).alloc (.cells #[.int .i64 0, .slice none 0 0, .string ⟨#[]⟩, .string ⟨#[]⟩, .int .i64 0] 29)) = w0 at *
  refine (HS.out _).mono ?_
  rintro e w1 ⟨rfl, rfl⟩
  go_wp2_with fail
  refine (HC.out _ hzb).mono ?_
  rintro e w2 ⟨rfl, hb2⟩
  have hq1 := hz1.next hb2
  have hq2 := hz2.next hb2
  have hbq := hzb.trans (hb2.mono hzb.size)
  clear hb2 hz1 hz2 hzb
  have hx9 := Hx1.out
  obtain ⟨g0, g1, g2, g3, g4, g5⟩ := (hq1).facts
  obtain ⟨f0, f1, f2, f3, f4, f5⟩ := (hq2).facts
  go_wp2_with fail
  go_loopw [10] (fun i wr => ∃ k : Nat, 1 ≤ k ∧ k ≤ 9 ∧ i = .int .i64 k ∧ rowC wr w.heap.size 0 (.slice none 0 0) ⟨#[]⟩ ⟨#[]⟩ 0 ∧ rowC wr (w.heap.size + 1) (if x.k < (k : Int) then x.k else 0) (.slice none 0 0) (⟨#[]⟩ : ByteArray) ⟨#[]⟩ 0 ∧ Below w.heap.size w wr) (fun i _ => 9 - (intOf i).toNat)
  case atStart => exact ⟨1, by omega, by omega, rfl, hq1, by rw [if_neg (show ¬ x.k < ((1 : Nat) : Int) by omega)]; exact hq2, hbq⟩
  case round =>
    clear hq1 hq2 hbq
    clear g0 g1 g2 g3 g4 g5 f0 f1 f2 f3 f4 f5
    obtain ⟨k, hk1, hk9, rfl, hq1, hq2, hbq⟩ := hrel
    by_cases hlt : k ≤ 8
    · have j1 : (k : Int) ≤ 8 := by omega
      have hKk := HK.out k (by omega) (by omega)
      by_cases he : (k : Int) = x.k
      · have heq : ((kindT (k : Int)).toList == KT.toList) = true := by rw [ba_beq, ← HKT.out, he]; simp
        rw [if_neg (by omega)] at hq2
        have HKk := Lib.hid hKk; clear hKk
        have He := Lib.hid he; clear he
        obtain ⟨g0, g1, g2, g3, g4, g5⟩ := (hq1).facts
        obtain ⟨f0, f1, f2, f3, f4, f5⟩ := (hq2).facts
        obtain ⟨KK, hKK⟩ : ∃ KK, kindT (k : Int) = KK := ⟨_, rfl⟩
        rw [hKK] at heq
        have HKK := Lib.hid hKK; clear hKK
        go_wp2_with fail
        refine (HKk.out _).mono ?_
        rw [HKK.out]
        rintro e w3 ⟨rfl, hb3⟩
        have hq1' := hq1.next hb3
        have hq2' := hq2.next hb3
        have hbq' := hbq.trans (hb3.mono hbq.size)
        have hlt' := hq2'.lt
        clear hq1 hq2 hbq hb3
        clear g0 g1 g2 g3 g4 g5 f0 f1 f2 f3 f4 f5
        obtain ⟨g0, g1, g2, g3, g4, g5⟩ := (hq1').facts
        obtain ⟨f0, f1, f2, f3, f4, f5⟩ := (hq2').facts
        go_wp2_with fail
        go_roundw
        case rel =>
          refine ⟨k + 1, by omega, by omega, by go_num, hq1'.other _ (by simp), ?_, hbq'.setCell (by show w.heap.size ≤ w.heap.size + 1; omega) _⟩
          rw [if_pos (by have := He.out; omega), ← He.out]
          exact hq2'.set0 _
        case measure => simp [intOf]; omega
      · have heq : ((kindT (k : Int)).toList == KT.toList) = false := by
          rw [ba_beq, ← HKT.out]
          simpa using fun e => he ((kind_inj Hx1.out.1 Hx1.out.2 (by omega) (by omega)).1 e)
        have HKk := Lib.hid hKk; clear hKk
        obtain ⟨g0, g1, g2, g3, g4, g5⟩ := (hq1).facts
        obtain ⟨f0, f1, f2, f3, f4, f5⟩ := (hq2).facts
        obtain ⟨KK, hKK⟩ : ∃ KK, kindT (k : Int) = KK := ⟨_, rfl⟩
        rw [hKK] at heq
        have HKK := Lib.hid hKK; clear hKK
        go_wp2_with fail
        refine (HKk.out _).mono ?_
        rw [HKK.out]
        rintro e w3 ⟨rfl, hb3⟩
        go_wp2_with fail
        go_roundw
        case rel =>
          refine ⟨k + 1, by omega, by omega, by go_num, hq1.next hb3, ?_, hbq.trans (hb3.mono hbq.size)⟩
          have := hq2.next hb3
          by_cases hlx : x.k < (k : Int)
          · rw [if_pos hlx] at this
            rw [if_pos (by omega)]; exact this
          · rw [if_neg hlx] at this
            rw [if_neg (by omega)]; exact this
        case measure => simp [intOf]; omega
    obtain rfl : k = 9 := by omega
    have hx9 := Hx1.out
    rw [if_pos (by omega)] at hq2
    obtain ⟨g0, g1, g2, g3, g4, g5⟩ := (hq1).facts
    obtain ⟨f0, f1, f2, f3, f4, f5⟩ := (hq2).facts
    have j1 : ¬ ((9 : Nat) : Int) ≤ 8 := by omega
    clear hk1 hk9 hlt
    go_wp2_with fail
    exact bodyPost_ret (v := .tuple #[chV x.k none 0 0 ⟨#[]⟩ ⟨#[]⟩ 0, .bool true]) (by simp [results, Tryz.results38, go_sem, g0, g1, g2, g3, g4]) rfl ⟨rfl, by (repeat (first | (with_reducible assumption) | (with_reducible exact Below.refl _ _) | exact Nat.le_refl _ | exact Below.size (by with_reducible assumption) | (with_reducible refine Below.drew ?_) | (with_reducible refine below_drewN ?_ _) | (with_reducible refine Below.alloc ?_ ?_ _) | (with_reducible refine Below.setCell ?_ ?_ _) | (with_reducible refine le_alloc ?_ _) | (with_reducible refine le_set ?_ _ _) | (with_reducible refine le_drew ?_) | (with_reducible refine le_drewN ?_ _) | omega | (dsimp only; omega)))⟩
end Go.Proofs.YtjkjmpmefapnoaaGreatDoor

/- The head of a character's text read, with a group: the program. -/
namespace Go.Proofs.YtjkjmpmefapnoaaGreatDoor
open Go.RowKit
theorem set_grownC (w : World) (a : Addr) (v : Value) : w.grownBy (w.setCell a v) (some a.block) :=
  ⟨rfl, rfl, rfl, by simp, fun k _ hne => heap_setCell_other w a k v (fun e => hne (by rw [e]))⟩
theorem core_size {x : Ch} (hv : validB x = true) : (coreT x).size ≤ 200 := by
  obtain ⟨hk, h4, hgs, _, _⟩ := fits_cases hv
  have h1 := kindT_size hk.1 hk.2
  rw [coreT, ByteArray.size_append]
  by_cases hg : x.gs = []
  · rw [hg, grpX, if_pos rfl]
    have : (⟨#[]⟩ : ByteArray).size = 0 := rfl
    omega
  · have h2 := grpT_len hgs x.gs.length
    rw [grpX, if_neg hg, ByteArray.size_append]
    have : (⟨#[41]⟩ : ByteArray).size = 1 := rfl
    omega
theorem jn_size {x : Ch} (hv : validB x = true) (hg : x.gs ≠ []) : (kbs (jn 43 ((x.gs.map decB).map lst) ++ [41])).size ≤ 200 ∧ (kbs (jn 43 ((x.gs.map decB).map lst))).size ≤ 200 := by
  obtain ⟨_, h4, hgs, _, _⟩ := fits_cases hv
  have h2 := grpT_len hgs x.gs.length
  have h3 := congrArg List.length (grp_lst hg)
  rw [lst_len, grpX, if_neg hg, ByteArray.size_append, List.length_cons, List.length_append] at h3
  have h5 : (⟨#[41]⟩ : ByteArray).size = 1 := rfl
  have h6 : ∀ l : List UInt8, (kbs l).size = l.length := fun l => by simp [kbs, ByteArray.size]
  rw [h6, h6, List.length_append]
  simp only [List.length_cons, List.length_nil] at h3 ⊢
  omega
set_option maxRecDepth 100000 in
set_option maxHeartbeats 4000000 in
/-- A head with a group, without a long flash. -/
theorem readHeadG_c (x : Ch) (w : World) (hv : validB x = true) (hx8 : x.k ≠ 8) (hg0 : x.gs ≠ []) (hL : isL x.l = false) (hE : Env w) :
    Calls Tryz.prog 38 #[.string (headT x)] w fun e w' => ∃ A c, e = .returned (.tuple #[chV x.k A x.gs.length c x.l ⟨#[]⟩ 0, .bool true]) ∧ w'.ownsRow w.heap.size 2 1 (.slice A x.gs.length c) x.gs.length (x.gs.flatMap intC) ∧ Below w.heap.size w w' := by
  obtain ⟨hk, h4, hgs, h8, hn8⟩ := fits_cases hv
  obtain ⟨hz1, hz2, hzb, hzs⟩ := two_zero w
  have hK : ∀ (k : Nat), 1 ≤ k → k ≤ 8 → ∀ w1, Calls Tryz.prog 70 #[.int .i64 (k : Int)] w1 fun e w' => e = .returned (.string (kindT (k : Int))) ∧ Below w1.heap.size w1 w' := fun k a b w1 => kindText_c (k : Int) w1 (by omega) (by omega)
  obtain ⟨KT, hKT⟩ : ∃ KT, kindT x.k = KT := ⟨_, rfl⟩
  have HK := Lib.hid hK; clear hK
  have Hx1 := Lib.hid hk; clear hk
  have HKT := Lib.hid hKT; clear hKT
  obtain ⟨p0, hp, hy0, hy1, hy2⟩ := info_parts infoTi2
  obtain ⟨hRz, hJz⟩ := jn_size hv hg0
  have hcut := core_cut hv
  rw [if_neg hg0, decide_eq_true hg0] at hcut
  have hcz := core_size hv
  obtain ⟨n, hn⟩ : ∃ n, x.gs.length = n := ⟨_, rfl⟩
  have hn1 : 1 ≤ n := by
    rw [← hn]
    exact List.length_pos_iff.2 hg0
  have hn4 : n ≤ 4 := by omega
  obtain ⟨J, hJ⟩ : ∃ J, kbs (jn 43 ((x.gs.map decB).map lst)) = J := ⟨_, rfl⟩
  obtain ⟨R, hR⟩ : ∃ R, kbs (jn 43 ((x.gs.map decB).map lst) ++ [41]) = R := ⟨_, rfl⟩
  have hJl : lst J = jn 43 ((x.gs.map decB).map lst) := by rw [← hJ]; rfl
  have hRl : lst R = lst J ++ lst ⟨#[41]⟩ := by rw [← hR, hJl]; rfl
  rw [hJ] at hJz
  rw [hR] at hRz
  have hS2 : ∀ w1, Calls Tryz.prog 69 #[.string R, .string ⟨#[41]⟩] w1 fun e w' => e = .returned (.tuple #[.string J, .bool true]) ∧ w' = w1 := fun w1 => sufYes_c R ⟨#[41]⟩ J w1 hRl (by omega)
  have hspl := grp_split hg0 hJl
  have hcnt : Lib.countB J ⟨#[43]⟩ + 1 = n := by
    have h1 := Lib.splitB_all ⟨#[43]⟩ (by decide) 0 _ J rfl
    rw [hspl, List.length_map, hn] at h1
    exact h1.symm
  have e0 : (x.gs.map decB).map Value.string = (x.gs.map decB).flatMap strC := by
    rw [List.map_eq_flatMap]; rfl
  have hSp : ∀ w1, Below w.heap.size w w1 → Calls Tryz.prog 63 #[.string J, .string ⟨#[43]⟩] w1 fun e w' => e = .returned (.slice (some ⟨w1.heap.size, 0, none⟩) n n) ∧ w' = w1.alloc (.cells ((x.gs.map decB).flatMap strC).toArray 9) := fun w1 hb => by
    obtain ⟨m, hm⟩ := (hE.next hb).mx
    have := Tryz.strings_Split J ⟨#[43]⟩ m w1 (by omega) hm (by decide)
    rwa [hspl, hcnt, e0] at this
  have hD : ∀ (v : Int) (w1 : World), v ∈ x.gs → Below w.heap.size w w1 → Calls Tryz.prog 64 #[.string (decB v)] w1 fun e w' => e = .returned (.tuple #[.int .i64 v, .bool true]) ∧ Below w1.heap.size w1 w' := fun v w1 hv hb => by
    have h9 := hgs v hv
    have := readDecimal_c (decB v) w1 (by have := dec_size (v := v) (by omega) (by omega); omega) (hE.next hb)
    rwa [(list_num (v := v) (by omega) (by omega)).1, (list_num (v := v) (by omega) (by omega)).2] at this
  have hl0 : x.l = ⟨#[]⟩ := by
    rcases hn8 hx8 with h | h
    · rw [hL] at h; cases h.1
    · exact emp_of_isE h.2
  have hcore := head_core hx8
  rw [hL] at hcore
  simp only [Bool.false_eq_true, if_false, List.append_nil] at hcore
  have hHC : headT x = coreT x := lst_inj hcore
  have hS := fun w1 => sufNo_c (coreT x) ⟨#[43, 76, 70, 108]⟩ w1 (core_suf hv) (by omega)
  have hC := fun w1 (hb : Below w.heap.size w w1) => cut_c (coreT x) 40 _ _ _ w1 (hE.next hb) (by omega) hcut
  rw [show kbs (lst (kindT x.k)) = KT by rw [kbs_lst, ← HKT.out], hR] at hC
  rw [hHC, hl0]
  obtain ⟨H, hH⟩ : ∃ H, coreT x = H := ⟨_, rfl⟩
  rw [hH] at hS hC ⊢
  clear hHC hH hcore hl0
  rw [hn]
  have HS := Lib.hid hS; clear hS
  have HC := Lib.hid hC; clear hC
  have HS2 := Lib.hid hS2; clear hS2
  have HSp := Lib.hid hSp; clear hSp
  have HD := Lib.hid hD; clear hD
  have Hx8 := Lib.hid hx8; clear hx8
  have Hn := Lib.hid hn; clear hn
  clear h8 hn8 hgs h4 hE hcut hg0 hL hspl hcnt e0 hJ hJl hR hRl hRz hJz hcz hzs
  have n1 : (1 : Int) ≤ (n : Int) := by omega
  go_enter Tryz.func38, Tryz.ntmps38
  go_wp2_with fail
  generalize ((w.alloc (.cells #[.int .i64 0, .slice none 0 0, .string ⟨#[]⟩, .string ⟨#[]⟩, .int .i64 0] 29)).alloc (.cells #[.int .i64 0, .slice none 0 0, .string ⟨#[]⟩, .string ⟨#[]⟩, .int .i64 0] 29)) = w0 at *
  refine (HS.out _).mono ?_
  rintro e w1 ⟨rfl, rfl⟩
  go_wp2_with fail
  refine (HC.out _ hzb).mono ?_
  rintro e w2 ⟨rfl, hb2⟩
  have hq1 := hz1.next hb2
  have hq2 := hz2.next hb2
  have hbq := hzb.trans (hb2.mono hzb.size)
  clear hb2 hz1 hz2 hzb
  have hx9 := Hx1.out
  obtain ⟨g0, g1, g2, g3, g4, g5⟩ := (hq1).facts
  obtain ⟨f0, f1, f2, f3, f4, f5⟩ := (hq2).facts
  go_wp2_with fail
  go_loopw [10] (fun i wr => ∃ k : Nat, 1 ≤ k ∧ k ≤ 9 ∧ i = .int .i64 k ∧ rowC wr w.heap.size 0 (.slice none 0 0) ⟨#[]⟩ ⟨#[]⟩ 0 ∧ rowC wr (w.heap.size + 1) (if x.k < (k : Int) then x.k else 0) (.slice none 0 0) (⟨#[]⟩ : ByteArray) ⟨#[]⟩ 0 ∧ Below w.heap.size w wr) (fun i _ => 9 - (intOf i).toNat)
  case atStart => exact ⟨1, by omega, by omega, rfl, hq1, by rw [if_neg (show ¬ x.k < ((1 : Nat) : Int) by omega)]; exact hq2, hbq⟩
  case round =>
    clear hq1 hq2 hbq
    clear g0 g1 g2 g3 g4 g5 f0 f1 f2 f3 f4 f5
    obtain ⟨k, hk1, hk9, rfl, hq1, hq2, hbq⟩ := hrel
    by_cases hlt : k ≤ 8
    · have j1 : (k : Int) ≤ 8 := by omega
      have hKk := HK.out k (by omega) (by omega)
      by_cases he : (k : Int) = x.k
      · have heq : ((kindT (k : Int)).toList == KT.toList) = true := by rw [ba_beq, ← HKT.out, he]; simp
        rw [if_neg (by omega)] at hq2
        have HKk := Lib.hid hKk; clear hKk
        have He := Lib.hid he; clear he
        obtain ⟨g0, g1, g2, g3, g4, g5⟩ := (hq1).facts
        obtain ⟨f0, f1, f2, f3, f4, f5⟩ := (hq2).facts
        obtain ⟨KK, hKK⟩ : ∃ KK, kindT (k : Int) = KK := ⟨_, rfl⟩
        rw [hKK] at heq
        have HKK := Lib.hid hKK; clear hKK
        go_wp2_with fail
        refine (HKk.out _).mono ?_
        rw [HKK.out]
        rintro e w3 ⟨rfl, hb3⟩
        have hq1' := hq1.next hb3
        have hq2' := hq2.next hb3
        have hbq' := hbq.trans (hb3.mono hbq.size)
        have hlt' := hq2'.lt
        clear hq1 hq2 hbq hb3
        clear g0 g1 g2 g3 g4 g5 f0 f1 f2 f3 f4 f5
        obtain ⟨g0, g1, g2, g3, g4, g5⟩ := (hq1').facts
        obtain ⟨f0, f1, f2, f3, f4, f5⟩ := (hq2').facts
        go_wp2_with fail
        go_roundw
        case rel =>
          refine ⟨k + 1, by omega, by omega, by go_num, hq1'.other _ (by simp), ?_, hbq'.setCell (by show w.heap.size ≤ w.heap.size + 1; omega) _⟩
          rw [if_pos (by have := He.out; omega), ← He.out]
          exact hq2'.set0 _
        case measure => simp [intOf]; omega
      · have heq : ((kindT (k : Int)).toList == KT.toList) = false := by
          rw [ba_beq, ← HKT.out]
          simpa using fun e => he ((kind_inj Hx1.out.1 Hx1.out.2 (by omega) (by omega)).1 e)
        have HKk := Lib.hid hKk; clear hKk
        obtain ⟨g0, g1, g2, g3, g4, g5⟩ := (hq1).facts
        obtain ⟨f0, f1, f2, f3, f4, f5⟩ := (hq2).facts
        obtain ⟨KK, hKK⟩ : ∃ KK, kindT (k : Int) = KK := ⟨_, rfl⟩
        rw [hKK] at heq
        have HKK := Lib.hid hKK; clear hKK
        go_wp2_with fail
        refine (HKk.out _).mono ?_
        rw [HKK.out]
        rintro e w3 ⟨rfl, hb3⟩
        go_wp2_with fail
        go_roundw
        case rel =>
          refine ⟨k + 1, by omega, by omega, by go_num, hq1.next hb3, ?_, hbq.trans (hb3.mono hbq.size)⟩
          have := hq2.next hb3
          by_cases hlx : x.k < (k : Int)
          · rw [if_pos hlx] at this
            rw [if_pos (by omega)]; exact this
          · rw [if_neg hlx] at this
            rw [if_neg (by omega)]; exact this
        case measure => simp [intOf]; omega
    obtain rfl : k = 9 := by omega
    have hx9 := Hx1.out
    rw [if_pos (by omega)] at hq2
    obtain ⟨g0, g1, g2, g3, g4, g5⟩ := (hq1).facts
    obtain ⟨f0, f1, f2, f3, f4, f5⟩ := (hq2).facts
    have j1 : ¬ ((9 : Nat) : Int) ≤ 8 := by omega
    clear hk1 hk9 hlt
    have k8 : (x.k == 8) = false := by simpa using Hx8.out
    go_wp2_with fail
    refine (HS2.out _).mono ?_
    rintro e w4 ⟨rfl, rfl⟩
    go_wp2_with fail
    refine (HSp.out _ hbq).mono ?_
    rintro e w5 ⟨rfl, hw5⟩
    have hb5 : Below w4.heap.size w4 w5 := by rw [hw5]; exact (Below.refl _ _).alloc (Nat.le_refl _) _
    have hsl : Sl w5 w5.heap.size 1 (some ⟨w4.heap.size, 0, none⟩) n ((x.gs.map decB).flatMap strC) := by
      rw [hw5]
      exact (Sl.new w4 9 _ n 1 (by rw [flat_len strC 1 strC_len, List.length_map, Hn.out])).more (by simp)
    have hgl : w.heap.size + 1 < w4.heap.size := hq2.lt
    obtain ⟨gb, hgb⟩ : ∃ gb, w4.heap.size = gb := ⟨_, rfl⟩
    have hr1 := hq1.next hb5
    have hr2 := hq2.next hb5
    have hbr := hbq.trans (hb5.mono hbq.size)
    rw [hgb] at hsl hgl ⊢
    have hon : w5.ownsRow (w.heap.size + 2) 2 1 (.slice none 0 0) 0 (([] : List Int).flatMap intC) := ⟨by simp, .inl ⟨rfl, rfl⟩⟩
    clear hw5 hb5 hq1 hq2 hbq hgb HK HS HC HSp HS2
    clear g0 g1 g2 g3 g4 g5 f0 f1 f2 f3 f4 f5
    obtain ⟨g0, g1, g2, g3, g4, g5⟩ := (hr1).facts
    obtain ⟨f0, f1, f2, f3, f4, f5⟩ := (hr2).facts
    go_wp2_with fail
    go_loopw [63] (fun i wr => ∃ (k : Nat) (v : Value), k ≤ n ∧ i = .int .i64 k ∧ rowC wr w.heap.size 0 (.slice none 0 0) ⟨#[]⟩ ⟨#[]⟩ 0 ∧ rowC wr (w.heap.size + 1) x.k v (⟨#[]⟩ : ByteArray) ⟨#[]⟩ 0 ∧ wr.ownsRow (w.heap.size + 2) 2 1 v k ((x.gs.take k).flatMap intC) ∧ Below w.heap.size w wr ∧ Sl wr wr.heap.size 1 (some ⟨gb, 0, none⟩) n ((x.gs.map decB).flatMap strC) ∧ (∀ b off, (some ⟨gb, 0, none⟩ : Option Addr) = some ⟨b, off, none⟩ → v.ownBlock ≠ some b)) (fun i _ => n - (intOf i).toNat)
    case atStart => exact ⟨0, _, Nat.zero_le _, rfl, hr1, hr2, hon, hbr, hsl, fun b off e => by simp [Value.ownBlock]⟩
    case round =>
      clear hr1 hr2 hon hbr hsl
      clear g0 g1 g2 g3 g4 g5 f0 f1 f2 f3 f4 f5
      obtain ⟨k, v, hk, rfl, hr1, hr2, hon, hbr, hsl, hdis⟩ := hrel
      obtain ⟨A3, c3, rfl⟩ := own_slice hon
      by_cases hlt : k < n
      · obtain ⟨b, off, s, hA, hb, hxs, cx⟩ := hsl.str k hlt
        injection hA with hA
        injection hA with hA1 hA2
        subst hA1 hA2
        simp only [Nat.zero_add] at cx
        rw [List.getElem?_map, Option.map_eq_some_iff] at hxs
        obtain ⟨v, hxv, rfl⟩ := hxs
        have hmem := List.mem_of_getElem? hxv
        have hDv := fun w1 hb => HD.out v w1 hmem hb
        have i0 : (0 : Int) ≤ (k : Int) := by omega
        have i1 : (k : Int) < (n : Int) := by omega
        have htk : (x.gs.take (k + 1)).flatMap intC = (x.gs.take k).flatMap intC ++ intC v := by
          rw [List.take_add_one, hxv, Option.toList_some, List.flatMap_append]
          simp
        have e63 : k + 1 ≤ maxLen := by unfold maxLen; omega
        have e32 : (k + 1) * 8 ≤ 140737488355328 := by omega
        have Hxv := Lib.hid hxv; clear hxv
        have Hmem := Lib.hid hmem; clear hmem
        have HDv := Lib.hid hDv; clear hDv
        have Htk := Lib.hid htk; clear htk
        have E63 := Lib.hid e63; clear e63
        have E32 := Lib.hid e32; clear e32
        obtain ⟨g0, g1, g2, g3, g4, g5⟩ := (hr1).facts
        obtain ⟨f0, f1, f2, f3, f4, f5⟩ := (hr2).facts
        go_wp2_with fail
        refine (HDv.out _ hbr).mono ?_
        rintro e w6 ⟨rfl, hb6⟩
        have hon6 := own_next hon hb6
        have hbr6 := hbr.trans (hb6.mono hbr.size)
        have hsl6 := hsl.next hb6
        have hr16 := hr1.next hb6
        have hr26 := hr2.next hb6
        have hle6 : w.heap.size + 2 ≤ w6.heap.size := hr26.lt
        clear hon hsl hr1 hr2 hb6
        clear g0 g1 g2 g3 g4 g5 f0 f1 f2 f3 f4 f5
        obtain ⟨g0, g1, g2, g3, g4, g5⟩ := (hr16).facts
        obtain ⟨f0, f1, f2, f3, f4, f5⟩ := (hr26).facts
        go_wp2_with ((at_builtin; refine wpl_append _ rfl (.tmp 76) (.tmp 78) _ rfl ((w.heap.size + 2)) 2 p0 _ 1 8 Tryz.underlying27 hp hy0 hy1 hy2 rfl (by omega) _ (k) _ rfl ((hon6).alloc _) ((w6).heap.size + 1) (some ⟨(w6).heap.size, 0, none⟩) 1 1 (intC (v)) rfl (Sl.new (w6) 2 _ 1 1 rfl) (intC_one _) E63.out E32.out (le_alloc hle6 _) ?_; intro v7 w7 ho7 hg7 hat7); obtain ⟨A7, c7, rfl⟩ := own_slice ho7; have hal : Below w6.heap.size w6 (w6.alloc (.cells #[.int .i64 v] 2)) := (Below.refl _ _).alloc (Nat.le_refl _) _; have hw7 : (Value.slice A3 k c3).ownBlock ≠ some w.heap.size ∧ (Value.slice A3 k c3).ownBlock ≠ some (w.heap.size + 1) := ⟨fun e => by have := (hon6.lt _ e).1; omega, fun e => by have := (hon6.lt _ e).1; omega⟩; have hr17 := (hr16.next hal).grown hg7 hw7.1; have hr27 := (hr26.next hal).grown hg7 hw7.2; clear g0 g1 g2 g3 g4 g5 f0 f1 f2 f3 f4 f5; obtain ⟨g0, g1, g2, g3, g4, g5⟩ := hr17.facts; obtain ⟨f0, f1, f2, f3, f4, f5⟩ := hr27.facts)
        go_roundw
        case rel =>
          have hbs := Sl.beside hsl6 hg7 hat7 hdis (by omega)
          have hbr7 : Below w.heap.size w w7 := (hbr6.alloc hbr6.size _).grown hg7 (le_alloc hbr6.size _) fun g hg => by have := (hon6.lt g hg).1; omega
          refine ⟨k + 1, .slice A7 (k + 1) c7, by omega, by go_num, hr17.other _ (by simp), hr27.set1 _, ?_, hbr7.setCell (by show w.heap.size ≤ w.heap.size + 1; omega) _, ?_, hbs.2⟩
          · rw [Htk.out]
            exact ownsRow_setCell_below ho7 (a := ⟨w.heap.size + 1, 1, none⟩) (show w.heap.size + 1 < w.heap.size + 2 by omega) _
          · have h8 := hbs.1.apart (set_grownC w7 ⟨w.heap.size + 1, 1, none⟩ (.slice A7 (k + 1) c7)) (Nat.le_refl _) fun b off e => by
              injection e with e
              injection e with e1 e2
              subst e1
              intro h
              injection h with h
              have h9 : w.heap.size + 1 = gb := h
              omega
            simpa using h8
        case measure => simp [intOf]; omega
      obtain rfl : k = n := by omega
      have hn' := Hn.out
      rw [List.take_of_length_le (by omega)] at hon
      obtain ⟨g0, g1, g2, g3, g4, g5⟩ := (hr1).facts
      obtain ⟨f0, f1, f2, f3, f4, f5⟩ := (hr2).facts
      have hlt2 := hr2.lt
      have hoF := own_base (ownsRow_setCell_below (ownsRow_setCell_below (ownsRow_setCell_below (ownsRow_setCell_below (ownsRow_setCell_below hon (a := ⟨w.heap.size, 0, none⟩) (show w.heap.size < w.heap.size + 2 by omega) (.int .i64 x.k)) (a := ⟨w.heap.size, 1, none⟩) (show w.heap.size < w.heap.size + 2 by omega) (.slice A3 k c3)) (a := ⟨w.heap.size, 2, none⟩) (show w.heap.size < w.heap.size + 2 by omega) (.string (⟨#[]⟩ : ByteArray))) (a := ⟨w.heap.size, 3, none⟩) (show w.heap.size < w.heap.size + 2 by omega) (.string ⟨#[]⟩)) (a := ⟨w.heap.size, 4, none⟩) (show w.heap.size < w.heap.size + 2 by omega) (.int .i64 0)) (show w.heap.size ≤ w.heap.size + 2 by omega)
      have HoF := Lib.hid hoF; clear hoF
      clear hn'
      go_wp2_with fail
      exact bodyPost_ret (v := .tuple #[chV x.k A3 k c3 (⟨#[]⟩ : ByteArray) ⟨#[]⟩ 0, .bool true]) (by simp [results, Tryz.results38, go_sem, g0, g1, g2, g3, g4]) rfl ⟨A3, c3, rfl, HoF.out, by (repeat (first | (with_reducible assumption) | (with_reducible exact Below.refl _ _) | exact Nat.le_refl _ | exact Below.size (by with_reducible assumption) | (with_reducible refine Below.drew ?_) | (with_reducible refine below_drewN ?_ _) | (with_reducible refine Below.alloc ?_ ?_ _) | (with_reducible refine Below.setCell ?_ ?_ _) | (with_reducible refine le_alloc ?_ _) | (with_reducible refine le_set ?_ _ _) | (with_reducible refine le_drew ?_) | (with_reducible refine le_drewN ?_ _) | omega | (dsimp only; omega)))⟩
end Go.Proofs.YtjkjmpmefapnoaaGreatDoor

/- A character read from its own text: the program. -/
namespace Go.Proofs.YtjkjmpmefapnoaaGreatDoor
open Go.RowKit
set_option maxRecDepth 100000 in
set_option maxHeartbeats 4000000 in
/-- A head with a group and a long flash. -/
theorem readHeadL_c (x : Ch) (w : World) (hv : validB x = true) (hx8 : x.k ≠ 8) (hg0 : x.gs ≠ []) (hL : isL x.l = true) (hE : Env w) :
    Calls Tryz.prog 38 #[.string (headT x)] w fun e w' => ∃ A c, e = .returned (.tuple #[chV x.k A x.gs.length c x.l ⟨#[]⟩ 0, .bool true]) ∧ w'.ownsRow w.heap.size 2 1 (.slice A x.gs.length c) x.gs.length (x.gs.flatMap intC) ∧ Below w.heap.size w w' := by
  obtain ⟨hk, h4, hgs, h8, hn8⟩ := fits_cases hv
  obtain ⟨hz1, hz2, hzb, hzs⟩ := two_zero w
  have hK : ∀ (k : Nat), 1 ≤ k → k ≤ 8 → ∀ w1, Calls Tryz.prog 70 #[.int .i64 (k : Int)] w1 fun e w' => e = .returned (.string (kindT (k : Int))) ∧ Below w1.heap.size w1 w' := fun k a b w1 => kindText_c (k : Int) w1 (by omega) (by omega)
  obtain ⟨KT, hKT⟩ : ∃ KT, kindT x.k = KT := ⟨_, rfl⟩
  have HK := Lib.hid hK; clear hK
  have Hx1 := Lib.hid hk; clear hk
  have HKT := Lib.hid hKT; clear hKT
  obtain ⟨p0, hp, hy0, hy1, hy2⟩ := info_parts infoTi2
  obtain ⟨hRz, hJz⟩ := jn_size hv hg0
  have hcut := core_cut hv
  rw [if_neg hg0, decide_eq_true hg0] at hcut
  have hcz := core_size hv
  obtain ⟨n, hn⟩ : ∃ n, x.gs.length = n := ⟨_, rfl⟩
  have hn1 : 1 ≤ n := by
    rw [← hn]
    exact List.length_pos_iff.2 hg0
  have hn4 : n ≤ 4 := by omega
  obtain ⟨J, hJ⟩ : ∃ J, kbs (jn 43 ((x.gs.map decB).map lst)) = J := ⟨_, rfl⟩
  obtain ⟨R, hR⟩ : ∃ R, kbs (jn 43 ((x.gs.map decB).map lst) ++ [41]) = R := ⟨_, rfl⟩
  have hJl : lst J = jn 43 ((x.gs.map decB).map lst) := by rw [← hJ]; rfl
  have hRl : lst R = lst J ++ lst ⟨#[41]⟩ := by rw [← hR, hJl]; rfl
  rw [hJ] at hJz
  rw [hR] at hRz
  have hS2 : ∀ w1, Calls Tryz.prog 69 #[.string R, .string ⟨#[41]⟩] w1 fun e w' => e = .returned (.tuple #[.string J, .bool true]) ∧ w' = w1 := fun w1 => sufYes_c R ⟨#[41]⟩ J w1 hRl (by omega)
  have hspl := grp_split hg0 hJl
  have hcnt : Lib.countB J ⟨#[43]⟩ + 1 = n := by
    have h1 := Lib.splitB_all ⟨#[43]⟩ (by decide) 0 _ J rfl
    rw [hspl, List.length_map, hn] at h1
    exact h1.symm
  have e0 : (x.gs.map decB).map Value.string = (x.gs.map decB).flatMap strC := by
    rw [List.map_eq_flatMap]; rfl
  have hSp : ∀ w1, Below w.heap.size w w1 → Calls Tryz.prog 63 #[.string J, .string ⟨#[43]⟩] w1 fun e w' => e = .returned (.slice (some ⟨w1.heap.size, 0, none⟩) n n) ∧ w' = w1.alloc (.cells ((x.gs.map decB).flatMap strC).toArray 9) := fun w1 hb => by
    obtain ⟨m, hm⟩ := (hE.next hb).mx
    have := Tryz.strings_Split J ⟨#[43]⟩ m w1 (by omega) hm (by decide)
    rwa [hspl, hcnt, e0] at this
  have hD : ∀ (v : Int) (w1 : World), v ∈ x.gs → Below w.heap.size w w1 → Calls Tryz.prog 64 #[.string (decB v)] w1 fun e w' => e = .returned (.tuple #[.int .i64 v, .bool true]) ∧ Below w1.heap.size w1 w' := fun v w1 hv hb => by
    have h9 := hgs v hv
    have := readDecimal_c (decB v) w1 (by have := dec_size (v := v) (by omega) (by omega); omega) (hE.next hb)
    rwa [(list_num (v := v) (by omega) (by omega)).1, (list_num (v := v) (by omega) (by omega)).2] at this
  have hl0 : x.l = ⟨#[76]⟩ := lst_inj (by
    have h : x.l.toList = [76] := by simpa [isL] using hL
    rw [ByteArray.toList_eq] at h
    exact h)
  have hcore := head_core hx8
  rw [hL] at hcore
  simp only [if_true] at hcore
  have hHz : (headT x).size ≤ 300 := by
    have h2 := congrArg List.length hcore
    rw [List.length_append, lst_len, lst_len] at h2
    simp only [List.length_cons, List.length_nil] at h2
    omega
  have hS := fun w1 => sufYes_c (headT x) ⟨#[43, 76, 70, 108]⟩ (coreT x) w1 hcore (by omega)
  have hC := fun w1 (hb : Below w.heap.size w w1) => cut_c (coreT x) 40 _ _ _ w1 (hE.next hb) (by omega) hcut
  rw [show kbs (lst (kindT x.k)) = KT by rw [kbs_lst, ← HKT.out], hR] at hC
  rw [hl0]
  obtain ⟨H, hH⟩ : ∃ H, coreT x = H := ⟨_, rfl⟩
  obtain ⟨G, hG⟩ : ∃ G, headT x = G := ⟨_, rfl⟩
  rw [hH] at hS hC
  rw [hG] at hS ⊢
  clear hG hH hcore hl0 hHz
  rw [hn]
  have HS := Lib.hid hS; clear hS
  have HC := Lib.hid hC; clear hC
  have HS2 := Lib.hid hS2; clear hS2
  have HSp := Lib.hid hSp; clear hSp
  have HD := Lib.hid hD; clear hD
  have Hx8 := Lib.hid hx8; clear hx8
  have Hn := Lib.hid hn; clear hn
  clear h8 hn8 hgs h4 hE hcut hg0 hL hspl hcnt e0 hJ hJl hR hRl hRz hJz hcz hzs
  have n1 : (1 : Int) ≤ (n : Int) := by omega
  go_enter Tryz.func38, Tryz.ntmps38
  go_wp2_with fail
  generalize ((w.alloc (.cells #[.int .i64 0, .slice none 0 0, .string ⟨#[]⟩, .string ⟨#[]⟩, .int .i64 0] 29)).alloc (.cells #[.int .i64 0, .slice none 0 0, .string ⟨#[]⟩, .string ⟨#[]⟩, .int .i64 0] 29)) = w0 at *
  refine (HS.out _).mono ?_
  rintro e w1 ⟨rfl, rfl⟩
  obtain ⟨g0, g1, g2, g3, g4, g5⟩ := (hz1).facts
  obtain ⟨f0, f1, f2, f3, f4, f5⟩ := (hz2).facts
  have hz1' := hz1.other (a := ⟨w.heap.size + 1, 2, none⟩) (.string ⟨#[76]⟩) (by simp)
  have hz2' := hz2.set2 ⟨#[76]⟩
  have hzb' : Below w.heap.size w (w1.setCell ⟨w.heap.size + 1, 2, none⟩ (.string ⟨#[76]⟩)) := hzb.setCell (by show w.heap.size ≤ w.heap.size + 1; omega) _
  go_wp2_with fail
  clear g0 g1 g2 g3 g4 g5 f0 f1 f2 f3 f4 f5
  clear hz1 hz2 hzb
  generalize w1.setCell ⟨w.heap.size + 1, 2, none⟩ (.string ⟨#[76]⟩) = w1' at *
  refine (HC.out _ hzb').mono ?_
  rintro e w2 ⟨rfl, hb2⟩
  have hq1 := hz1'.next hb2
  have hq2 := hz2'.next hb2
  have hbq := hzb'.trans (hb2.mono hzb'.size)
  clear hb2 hz1' hz2' hzb'
  have hx9 := Hx1.out
  obtain ⟨g0, g1, g2, g3, g4, g5⟩ := (hq1).facts
  obtain ⟨f0, f1, f2, f3, f4, f5⟩ := (hq2).facts
  go_wp2_with fail
  go_loopw [10] (fun i wr => ∃ k : Nat, 1 ≤ k ∧ k ≤ 9 ∧ i = .int .i64 k ∧ rowC wr w.heap.size 0 (.slice none 0 0) ⟨#[]⟩ ⟨#[]⟩ 0 ∧ rowC wr (w.heap.size + 1) (if x.k < (k : Int) then x.k else 0) (.slice none 0 0) (⟨#[76]⟩ : ByteArray) ⟨#[]⟩ 0 ∧ Below w.heap.size w wr) (fun i _ => 9 - (intOf i).toNat)
  case atStart => exact ⟨1, by omega, by omega, rfl, hq1, by rw [if_neg (show ¬ x.k < ((1 : Nat) : Int) by omega)]; exact hq2, hbq⟩
  case round =>
    clear hq1 hq2 hbq
    clear g0 g1 g2 g3 g4 g5 f0 f1 f2 f3 f4 f5
    obtain ⟨k, hk1, hk9, rfl, hq1, hq2, hbq⟩ := hrel
    by_cases hlt : k ≤ 8
    · have j1 : (k : Int) ≤ 8 := by omega
      have hKk := HK.out k (by omega) (by omega)
      by_cases he : (k : Int) = x.k
      · have heq : ((kindT (k : Int)).toList == KT.toList) = true := by rw [ba_beq, ← HKT.out, he]; simp
        rw [if_neg (by omega)] at hq2
        have HKk := Lib.hid hKk; clear hKk
        have He := Lib.hid he; clear he
        obtain ⟨g0, g1, g2, g3, g4, g5⟩ := (hq1).facts
        obtain ⟨f0, f1, f2, f3, f4, f5⟩ := (hq2).facts
        obtain ⟨KK, hKK⟩ : ∃ KK, kindT (k : Int) = KK := ⟨_, rfl⟩
        rw [hKK] at heq
        have HKK := Lib.hid hKK; clear hKK
        go_wp2_with fail
        refine (HKk.out _).mono ?_
        rw [HKK.out]
        rintro e w3 ⟨rfl, hb3⟩
        have hq1' := hq1.next hb3
        have hq2' := hq2.next hb3
        have hbq' := hbq.trans (hb3.mono hbq.size)
        have hlt' := hq2'.lt
        clear hq1 hq2 hbq hb3
        clear g0 g1 g2 g3 g4 g5 f0 f1 f2 f3 f4 f5
        obtain ⟨g0, g1, g2, g3, g4, g5⟩ := (hq1').facts
        obtain ⟨f0, f1, f2, f3, f4, f5⟩ := (hq2').facts
        go_wp2_with fail
        go_roundw
        case rel =>
          refine ⟨k + 1, by omega, by omega, by go_num, hq1'.other _ (by simp), ?_, hbq'.setCell (by show w.heap.size ≤ w.heap.size + 1; omega) _⟩
          rw [if_pos (by have := He.out; omega), ← He.out]
          exact hq2'.set0 _
        case measure => simp [intOf]; omega
      · have heq : ((kindT (k : Int)).toList == KT.toList) = false := by
          rw [ba_beq, ← HKT.out]
          simpa using fun e => he ((kind_inj Hx1.out.1 Hx1.out.2 (by omega) (by omega)).1 e)
        have HKk := Lib.hid hKk; clear hKk
        obtain ⟨g0, g1, g2, g3, g4, g5⟩ := (hq1).facts
        obtain ⟨f0, f1, f2, f3, f4, f5⟩ := (hq2).facts
        obtain ⟨KK, hKK⟩ : ∃ KK, kindT (k : Int) = KK := ⟨_, rfl⟩
        rw [hKK] at heq
        have HKK := Lib.hid hKK; clear hKK
        go_wp2_with fail
        refine (HKk.out _).mono ?_
        rw [HKK.out]
        rintro e w3 ⟨rfl, hb3⟩
        go_wp2_with fail
        go_roundw
        case rel =>
          refine ⟨k + 1, by omega, by omega, by go_num, hq1.next hb3, ?_, hbq.trans (hb3.mono hbq.size)⟩
          have := hq2.next hb3
          by_cases hlx : x.k < (k : Int)
          · rw [if_pos hlx] at this
            rw [if_pos (by omega)]; exact this
          · rw [if_neg hlx] at this
            rw [if_neg (by omega)]; exact this
        case measure => simp [intOf]; omega
    obtain rfl : k = 9 := by omega
    have hx9 := Hx1.out
    rw [if_pos (by omega)] at hq2
    obtain ⟨g0, g1, g2, g3, g4, g5⟩ := (hq1).facts
    obtain ⟨f0, f1, f2, f3, f4, f5⟩ := (hq2).facts
    have j1 : ¬ ((9 : Nat) : Int) ≤ 8 := by omega
    clear hk1 hk9 hlt
    have k8 : (x.k == 8) = false := by simpa using Hx8.out
    go_wp2_with fail
    refine (HS2.out _).mono ?_
    rintro e w4 ⟨rfl, rfl⟩
    go_wp2_with fail
    refine (HSp.out _ hbq).mono ?_
    rintro e w5 ⟨rfl, hw5⟩
    have hb5 : Below w4.heap.size w4 w5 := by rw [hw5]; exact (Below.refl _ _).alloc (Nat.le_refl _) _
    have hsl : Sl w5 w5.heap.size 1 (some ⟨w4.heap.size, 0, none⟩) n ((x.gs.map decB).flatMap strC) := by
      rw [hw5]
      exact (Sl.new w4 9 _ n 1 (by rw [flat_len strC 1 strC_len, List.length_map, Hn.out])).more (by simp)
    have hgl : w.heap.size + 1 < w4.heap.size := hq2.lt
    obtain ⟨gb, hgb⟩ : ∃ gb, w4.heap.size = gb := ⟨_, rfl⟩
    have hr1 := hq1.next hb5
    have hr2 := hq2.next hb5
    have hbr := hbq.trans (hb5.mono hbq.size)
    rw [hgb] at hsl hgl ⊢
    have hon : w5.ownsRow (w.heap.size + 2) 2 1 (.slice none 0 0) 0 (([] : List Int).flatMap intC) := ⟨by simp, .inl ⟨rfl, rfl⟩⟩
    clear hw5 hb5 hq1 hq2 hbq hgb HK HS HC HSp HS2
    clear g0 g1 g2 g3 g4 g5 f0 f1 f2 f3 f4 f5
    obtain ⟨g0, g1, g2, g3, g4, g5⟩ := (hr1).facts
    obtain ⟨f0, f1, f2, f3, f4, f5⟩ := (hr2).facts
    go_wp2_with fail
    go_loopw [63] (fun i wr => ∃ (k : Nat) (v : Value), k ≤ n ∧ i = .int .i64 k ∧ rowC wr w.heap.size 0 (.slice none 0 0) ⟨#[]⟩ ⟨#[]⟩ 0 ∧ rowC wr (w.heap.size + 1) x.k v (⟨#[76]⟩ : ByteArray) ⟨#[]⟩ 0 ∧ wr.ownsRow (w.heap.size + 2) 2 1 v k ((x.gs.take k).flatMap intC) ∧ Below w.heap.size w wr ∧ Sl wr wr.heap.size 1 (some ⟨gb, 0, none⟩) n ((x.gs.map decB).flatMap strC) ∧ (∀ b off, (some ⟨gb, 0, none⟩ : Option Addr) = some ⟨b, off, none⟩ → v.ownBlock ≠ some b)) (fun i _ => n - (intOf i).toNat)
    case atStart => exact ⟨0, _, Nat.zero_le _, rfl, hr1, hr2, hon, hbr, hsl, fun b off e => by simp [Value.ownBlock]⟩
    case round =>
      clear hr1 hr2 hon hbr hsl
      clear g0 g1 g2 g3 g4 g5 f0 f1 f2 f3 f4 f5
      obtain ⟨k, v, hk, rfl, hr1, hr2, hon, hbr, hsl, hdis⟩ := hrel
      obtain ⟨A3, c3, rfl⟩ := own_slice hon
      by_cases hlt : k < n
      · obtain ⟨b, off, s, hA, hb, hxs, cx⟩ := hsl.str k hlt
        injection hA with hA
        injection hA with hA1 hA2
        subst hA1 hA2
        simp only [Nat.zero_add] at cx
        rw [List.getElem?_map, Option.map_eq_some_iff] at hxs
        obtain ⟨v, hxv, rfl⟩ := hxs
        have hmem := List.mem_of_getElem? hxv
        have hDv := fun w1 hb => HD.out v w1 hmem hb
        have i0 : (0 : Int) ≤ (k : Int) := by omega
        have i1 : (k : Int) < (n : Int) := by omega
        have htk : (x.gs.take (k + 1)).flatMap intC = (x.gs.take k).flatMap intC ++ intC v := by
          rw [List.take_add_one, hxv, Option.toList_some, List.flatMap_append]
          simp
        have e63 : k + 1 ≤ maxLen := by unfold maxLen; omega
        have e32 : (k + 1) * 8 ≤ 140737488355328 := by omega
        have Hxv := Lib.hid hxv; clear hxv
        have Hmem := Lib.hid hmem; clear hmem
        have HDv := Lib.hid hDv; clear hDv
        have Htk := Lib.hid htk; clear htk
        have E63 := Lib.hid e63; clear e63
        have E32 := Lib.hid e32; clear e32
        obtain ⟨g0, g1, g2, g3, g4, g5⟩ := (hr1).facts
        obtain ⟨f0, f1, f2, f3, f4, f5⟩ := (hr2).facts
        go_wp2_with fail
        refine (HDv.out _ hbr).mono ?_
        rintro e w6 ⟨rfl, hb6⟩
        have hon6 := own_next hon hb6
        have hbr6 := hbr.trans (hb6.mono hbr.size)
        have hsl6 := hsl.next hb6
        have hr16 := hr1.next hb6
        have hr26 := hr2.next hb6
        have hle6 : w.heap.size + 2 ≤ w6.heap.size := hr26.lt
        clear hon hsl hr1 hr2 hb6
        clear g0 g1 g2 g3 g4 g5 f0 f1 f2 f3 f4 f5
        obtain ⟨g0, g1, g2, g3, g4, g5⟩ := (hr16).facts
        obtain ⟨f0, f1, f2, f3, f4, f5⟩ := (hr26).facts
        go_wp2_with ((at_builtin; refine wpl_append _ rfl (.tmp 76) (.tmp 78) _ rfl ((w.heap.size + 2)) 2 p0 _ 1 8 Tryz.underlying27 hp hy0 hy1 hy2 rfl (by omega) _ (k) _ rfl ((hon6).alloc _) ((w6).heap.size + 1) (some ⟨(w6).heap.size, 0, none⟩) 1 1 (intC (v)) rfl (Sl.new (w6) 2 _ 1 1 rfl) (intC_one _) E63.out E32.out (le_alloc hle6 _) ?_; intro v7 w7 ho7 hg7 hat7); obtain ⟨A7, c7, rfl⟩ := own_slice ho7; have hal : Below w6.heap.size w6 (w6.alloc (.cells #[.int .i64 v] 2)) := (Below.refl _ _).alloc (Nat.le_refl _) _; have hw7 : (Value.slice A3 k c3).ownBlock ≠ some w.heap.size ∧ (Value.slice A3 k c3).ownBlock ≠ some (w.heap.size + 1) := ⟨fun e => by have := (hon6.lt _ e).1; omega, fun e => by have := (hon6.lt _ e).1; omega⟩; have hr17 := (hr16.next hal).grown hg7 hw7.1; have hr27 := (hr26.next hal).grown hg7 hw7.2; clear g0 g1 g2 g3 g4 g5 f0 f1 f2 f3 f4 f5; obtain ⟨g0, g1, g2, g3, g4, g5⟩ := hr17.facts; obtain ⟨f0, f1, f2, f3, f4, f5⟩ := hr27.facts)
        go_roundw
        case rel =>
          have hbs := Sl.beside hsl6 hg7 hat7 hdis (by omega)
          have hbr7 : Below w.heap.size w w7 := (hbr6.alloc hbr6.size _).grown hg7 (le_alloc hbr6.size _) fun g hg => by have := (hon6.lt g hg).1; omega
          refine ⟨k + 1, .slice A7 (k + 1) c7, by omega, by go_num, hr17.other _ (by simp), hr27.set1 _, ?_, hbr7.setCell (by show w.heap.size ≤ w.heap.size + 1; omega) _, ?_, hbs.2⟩
          · rw [Htk.out]
            exact ownsRow_setCell_below ho7 (a := ⟨w.heap.size + 1, 1, none⟩) (show w.heap.size + 1 < w.heap.size + 2 by omega) _
          · have h8 := hbs.1.apart (set_grownC w7 ⟨w.heap.size + 1, 1, none⟩ (.slice A7 (k + 1) c7)) (Nat.le_refl _) fun b off e => by
              injection e with e
              injection e with e1 e2
              subst e1
              intro h
              injection h with h
              have h9 : w.heap.size + 1 = gb := h
              omega
            simpa using h8
        case measure => simp [intOf]; omega
      obtain rfl : k = n := by omega
      have hn' := Hn.out
      rw [List.take_of_length_le (by omega)] at hon
      obtain ⟨g0, g1, g2, g3, g4, g5⟩ := (hr1).facts
      obtain ⟨f0, f1, f2, f3, f4, f5⟩ := (hr2).facts
      have hlt2 := hr2.lt
      have hoF := own_base (ownsRow_setCell_below (ownsRow_setCell_below (ownsRow_setCell_below (ownsRow_setCell_below (ownsRow_setCell_below hon (a := ⟨w.heap.size, 0, none⟩) (show w.heap.size < w.heap.size + 2 by omega) (.int .i64 x.k)) (a := ⟨w.heap.size, 1, none⟩) (show w.heap.size < w.heap.size + 2 by omega) (.slice A3 k c3)) (a := ⟨w.heap.size, 2, none⟩) (show w.heap.size < w.heap.size + 2 by omega) (.string (⟨#[76]⟩ : ByteArray))) (a := ⟨w.heap.size, 3, none⟩) (show w.heap.size < w.heap.size + 2 by omega) (.string ⟨#[]⟩)) (a := ⟨w.heap.size, 4, none⟩) (show w.heap.size < w.heap.size + 2 by omega) (.int .i64 0)) (show w.heap.size ≤ w.heap.size + 2 by omega)
      have HoF := Lib.hid hoF; clear hoF
      clear hn'
      go_wp2_with fail
      exact bodyPost_ret (v := .tuple #[chV x.k A3 k c3 (⟨#[76]⟩ : ByteArray) ⟨#[]⟩ 0, .bool true]) (by simp [results, Tryz.results38, go_sem, g0, g1, g2, g3, g4]) rfl ⟨A3, c3, rfl, HoF.out, by (repeat (first | (with_reducible assumption) | (with_reducible exact Below.refl _ _) | exact Nat.le_refl _ | exact Below.size (by with_reducible assumption) | (with_reducible refine Below.drew ?_) | (with_reducible refine below_drewN ?_ _) | (with_reducible refine Below.alloc ?_ ?_ _) | (with_reducible refine Below.setCell ?_ ?_ _) | (with_reducible refine le_alloc ?_ _) | (with_reducible refine le_set ?_ _ _) | (with_reducible refine le_drew ?_) | (with_reducible refine le_drewN ?_ _) | omega | (dsimp only; omega)))⟩
theorem readHead_c (x : Ch) (w : World) (hv : validB x = true) (hE : Env w) :
    Calls Tryz.prog 38 #[.string (headT x)] w fun e w' => ∃ A c, e = .returned (.tuple #[chV x.k A x.gs.length c x.l ⟨#[]⟩ 0, .bool true]) ∧ w'.ownsRow w.heap.size 2 1 (.slice A x.gs.length c) x.gs.length (x.gs.flatMap intC) ∧ Below w.heap.size w w' := by
  by_cases hg0 : x.gs = []
  · have hnil : ∀ w' : World, w'.ownsRow w.heap.size 2 1 (.slice none x.gs.length 0) x.gs.length (x.gs.flatMap intC) := fun w' => by
      rw [hg0]; exact ⟨by simp, .inl ⟨rfl, rfl⟩⟩
    by_cases h8 : x.k = 8
    · refine (readHead8_c x w hv h8 hE).mono ?_
      rintro e w' ⟨rfl, hb⟩
      exact ⟨none, 0, by rw [hg0]; rfl, hnil w', hb⟩
    · refine (readHeadN_c x w hv h8 hg0 hE).mono ?_
      rintro e w' ⟨rfl, hb⟩
      exact ⟨none, 0, by rw [hg0]; rfl, hnil w', hb⟩
  · have h8 : x.k ≠ 8 := fun h => hg0 ((fits_cases hv).2.2.2.1 h).1
    cases hL : isL x.l
    · exact readHeadG_c x w hv h8 hg0 hL hE
    · exact readHeadL_c x w hv h8 hg0 hL hE
set_option maxRecDepth 100000 in
set_option maxHeartbeats 4000000 in
theorem readCharacter_c (x : Ch) (w : World) (hv : validB x = true) (hE : Env w) :
    Calls Tryz.prog 16 #[.string (charT x)] w fun e w' => ∃ A c, e = .returned (.tuple #[chV x.k A x.gs.length c x.l x.cs x.p, .bool true]) ∧ w'.ownsRow w.heap.size 2 1 (.slice A x.gs.length c) x.gs.length (x.gs.flatMap intC) ∧ Below w.heap.size w w' := by
  have hz := shape_sizes (valid_shape hv)
  obtain ⟨p0, p6⟩ := valid_p hv
  have hsz := sec_size p0 p6
  have hhz := headT_len hv
  have hba : Below w.heap.size w (w.alloc (.cells #[.int .i64 0, .slice none 0 0, .string ⟨#[]⟩, .string ⟨#[]⟩, .int .i64 0] 29)) := by (repeat (first | (with_reducible assumption) | (with_reducible exact Below.refl _ _) | exact Nat.le_refl _ | exact Below.size (by with_reducible assumption) | (with_reducible refine Below.drew ?_) | (with_reducible refine below_drewN ?_ _) | (with_reducible refine Below.alloc ?_ ?_ _) | (with_reducible refine Below.setCell ?_ ?_ _) | (with_reducible refine le_alloc ?_ _) | (with_reducible refine le_set ?_ _ _) | (with_reducible refine le_drew ?_) | (with_reducible refine le_drewN ?_ _) | omega | (dsimp only; omega)))
  have hr0 : rowC (w.alloc (.cells #[.int .i64 0, .slice none 0 0, .string ⟨#[]⟩, .string ⟨#[]⟩, .int .i64 0] 29)) w.heap.size 0 (.slice none 0 0) ⟨#[]⟩ ⟨#[]⟩ 0 := heap_alloc_new w _
  have k6 : ∀ l : List UInt8, (kbs l).size = l.length := fun l => by simp [kbs, ByteArray.size]
  have hpl : (lst (perT x.p)).length ≤ 30 := by
    rw [per_lst]
    split
    · simp
    · simp only [List.length_cons, List.length_append, List.length_nil, lst_len]; omega
  have hcz : (charT x).size ≤ 200 := by
    have h2 := congrArg List.length (char_lst x)
    rw [List.length_append, List.length_cons, List.length_append, lst_len, lst_len, lst_len] at h2
    omega
  have hC1 := fun w1 (hb : Below w.heap.size w w1) => cut_c (charT x) 32 _ _ _ w1 (hE.next hb) (by omega) (char_cut hv)
  obtain ⟨RS, hRS⟩ : ∃ RS, kbs (lst x.cs ++ lst (perT x.p)) = RS := ⟨_, rfl⟩
  have hRl : lst RS = lst x.cs ++ lst (perT x.p) := by rw [← hRS]; rfl
  have hRz : RS.size ≤ 100 := by rw [← hRS, k6, List.length_append, lst_len]; omega
  have hcr := rest_cut hv
  rw [← hRl] at hcr
  have hC2 := fun w1 (hb : Below w.heap.size w w1) => cut_c RS 32 _ _ _ w1 (hE.next hb) (by omega) hcr
  rw [kbs_lst, hRS] at hC1
  rw [kbs_lst] at hC2
  have hRd := fun w1 (hb : Below w.heap.size w w1) => readHead_c x w1 hv (hE.next hb)
  have hSc := fun w1 (hb : Below w.heap.size w w1) => readSeconds_c x.p w1 p0 p6 (hE.next hb)
  have hTr : ∀ w1, Calls Tryz.prog 40 #[.string (kbs (lst (secT x.p) ++ [115])), .string ⟨#[115]⟩] w1 fun e w' => e = .returned (.string (secT x.p)) ∧ w' = w1 := fun w1 => by
    have := Tryz.strings_TrimSuffix (kbs (lst (secT x.p) ++ [115])) ⟨#[115]⟩ w1 (by rw [k6, List.length_append, lst_len]; simp; omega)
    have e : Lib.trimSuffix (kbs (lst (secT x.p) ++ [115])).data.toList (⟨#[115]⟩ : ByteArray).data.toList = lst (secT x.p) := trim_hit (p := [115])
    rw [e] at this
    exact this
  have hVl : ∀ A c w1, Sl w1 w1.heap.size 1 A x.gs.length (x.gs.flatMap intC) → Calls Tryz.prog 28 #[chV x.k A x.gs.length c x.l x.cs x.p] w1 fun e w' => e = .returned (.bool true) ∧ Below w1.heap.size w1 w' := fun A c w1 sl => by
    have := implValid_c A x.gs.length c x w1 sl (by omega) (by omega) (by omega)
    rwa [hv] at this
  have hTx : ∀ A c w1, Below w.heap.size w w1 → Sl w1 w1.heap.size 1 A x.gs.length (x.gs.flatMap intC) → Calls Tryz.prog 17 #[chV x.k A x.gs.length c x.l x.cs x.p] w1 fun e w' => e = .returned (.string (charT x)) ∧ Below w1.heap.size w1 w' := fun A c w1 hb sl => by
    have := implText_c A x.gs.length c x w1 sl (by omega) (by omega) (by omega) (hE.next hb).tab
    rwa [charX, if_pos hv] at this
  obtain ⟨H, hH⟩ : ∃ H, headT x = H := ⟨_, rfl⟩
  obtain ⟨S, hS⟩ : ∃ S, charT x = S := ⟨_, rfl⟩
  obtain ⟨Q, hQ⟩ : ∃ Q, secT x.p = Q := ⟨_, rfl⟩
  obtain ⟨n, hn⟩ : ∃ n, x.gs.length = n := ⟨_, rfl⟩
  have hse : (S.toList == S.toList) = true := by simp
  rw [hH] at hC1 hRd
  rw [hS] at hC1 hTx ⊢
  rw [hQ] at hSc hTr hC2
  simp only [hn] at hRd hVl hTx ⊢
  clear hcr hRl hRS hRz hcz hpl k6 hhz hsz hz p0 p6 hE hH hS hQ
  by_cases hp : x.p = 0
  · rw [if_pos hp, decide_eq_false (by simpa using hp)] at hC2
    rw [hp] at hVl hTx ⊢
    have Hp := Lib.hid hp; clear hp
    clear hSc hTr
    have HC1 := Lib.hid hC1; clear hC1
    have HC2 := Lib.hid hC2; clear hC2
    have HRd := Lib.hid hRd; clear hRd
    have HVl := Lib.hid hVl; clear hVl
    have HTx := Lib.hid hTx; clear hTx
    have Hn := Lib.hid hn; clear hn
    clear hv
    go_enter Tryz.func16, Tryz.ntmps16
    go_wp2_with fail
    generalize w.alloc (.cells #[.int .i64 0, .slice none 0 0, .string ⟨#[]⟩, .string ⟨#[]⟩, .int .i64 0] 29) = w0 at *
    refine (HC1.out _ hba).mono ?_
    rintro e w1 ⟨rfl, hb1⟩
    have hr1 := hr0.next hb1
    have hB1 := hba.trans (hb1.mono hba.size)
    have hw1 := hr1.lt
    clear hr0 hb1 hba
    go_wp2_with fail
    refine (HRd.out _ hB1).mono ?_
    rintro e w2 ⟨A, c, rfl, ho2, hb2⟩
    have hr2 := hr1.next hb2
    have hB2 := hB1.trans (hb2.mono hB1.size)
    have hz2 := hb2.size
    have hal : Below w2.heap.size w2 (w2.alloc (.cells #[.int .i64 x.k, .slice A n c, .string x.l, .string ⟨#[]⟩, .int .i64 0] 29)) := (Below.refl _ _).alloc (Nat.le_refl _) _
    have hs3 : rowC (w2.alloc (.cells #[.int .i64 x.k, .slice A n c, .string x.l, .string ⟨#[]⟩, .int .i64 0] 29)) w2.heap.size x.k (.slice A n c) x.l ⟨#[]⟩ 0 := heap_alloc_new w2 _
    have hr3 := hr2.next hal
    have ho3 := own_next ho2 hal
    have hB3 := hB2.trans (hal.mono hB2.size)
    have hgl : ∀ g, (Value.slice A n c).ownBlock = some g → g < w2.heap.size := fun g e => (ho2.lt g e).2
    obtain ⟨b7, hb7⟩ : ∃ b, w2.heap.size = b := ⟨_, rfl⟩
    clear hb2 hr1 hr2 hal ho2
    go_wp2_with fail
    rw [hb7] at hs3 hgl hz2
    try rw [hb7]
    generalize w2.alloc (.cells #[.int .i64 x.k, .slice A n c, .string x.l, .string ⟨#[]⟩, .int .i64 0] 29) = w3 at *
    refine (HC2.out _ hB3).mono ?_
    rintro e w4 ⟨rfl, hb4⟩
    have hr4 := hr3.next hb4
    have hs4 := hs3.next hb4
    have ho4 := own_next ho3 hb4
    have hB4 := hB3.trans (hb4.mono hB3.size)
    clear hr3 hs3 ho3 hB3 hb4 hb7 hB2
    obtain ⟨g0, g1, g2, g3, g4, g5⟩ := (hr4).facts
    obtain ⟨f0, f1, f2, f3, f4, f5⟩ := (hs4).facts
    have hB5 : Below w.heap.size w (w4.setCell ⟨b7, 3, none⟩ (.string x.cs)) := hB4.setCell (show w.heap.size ≤ b7 by omega) _
    have hr5 := hr4.other (a := ⟨b7, 3, none⟩) (.string x.cs) (show w.heap.size ≠ b7 by omega)
    have hs5 := hs4.set3 x.cs
    have ho5 := own_grown ho4 (set_grownC w4 ⟨b7, 3, none⟩ (.string x.cs)) (.inr (fun e => Nat.lt_irrefl _ (hgl b7 e)))
    go_wp2_with fail
    clear g0 g1 g2 g3 g4 g5 f0 f1 f2 f3 f4 f5
    clear hr4 hs4 hB4 ho4
    generalize w4.setCell ⟨b7, 3, none⟩ (.string x.cs) = w5 at *
    obtain ⟨g0, g1, g2, g3, g4, g5⟩ := (hr5).facts
    obtain ⟨f0, f1, f2, f3, f4, f5⟩ := (hs5).facts
    go_wp2_with fail
    refine (HVl.out A c _ (Sl.of_own ho5)).mono ?_
    rintro e w6 ⟨rfl, hb6⟩
    have hr6 := hr5.next hb6
    have hs6 := hs5.next hb6
    have ho6 := own_next ho5 hb6
    have hB6 := hB5.trans (hb6.mono hB5.size)
    clear g0 g1 g2 g3 g4 g5 f0 f1 f2 f3 f4 f5
    obtain ⟨g0, g1, g2, g3, g4, g5⟩ := (hr6).facts
    obtain ⟨f0, f1, f2, f3, f4, f5⟩ := (hs6).facts
    go_wp2_with fail
    refine (HTx.out A c _ hB6 (Sl.of_own ho6)).mono ?_
    rintro e w7 ⟨rfl, hb7⟩
    have hr7 := hr6.next hb7
    have hs7 := hs6.next hb7
    have ho7 := own_next ho6 hb7
    have hB7 := hB6.trans (hb7.mono hB6.size)
    clear g0 g1 g2 g3 g4 g5 f0 f1 f2 f3 f4 f5
    obtain ⟨g0, g1, g2, g3, g4, g5⟩ := (hr7).facts
    obtain ⟨f0, f1, f2, f3, f4, f5⟩ := (hs7).facts
    have hX : ¬ b7 = w.heap.size := by omega
    have hoF := own_base (ownsRow_setCell_below (ownsRow_setCell_below (ownsRow_setCell_below (ownsRow_setCell_below (ownsRow_setCell_below ho7 (a := ⟨w.heap.size, 0, none⟩) hw1 (.int .i64 x.k)) (a := ⟨w.heap.size, 1, none⟩) hw1 (.slice A n c)) (a := ⟨w.heap.size, 2, none⟩) hw1 (.string x.l)) (a := ⟨w.heap.size, 3, none⟩) hw1 (.string x.cs)) (a := ⟨w.heap.size, 4, none⟩) hw1 (.int .i64 0)) (show w.heap.size ≤ w1.heap.size by omega)
    have HoF := Lib.hid hoF; clear hoF
    clear hr5 hr6 hs5 hs6 ho5 ho6 ho7 hb6 hb7 hr7 hs7
    go_wp2_with fail
    exact bodyPost_ret (v := .tuple #[chV x.k A n c x.l x.cs 0, .bool true]) (by simp [results, Tryz.results16, go_sem, g0, g1, g2, g3, g4]) rfl ⟨A, c, rfl, HoF.out, by (repeat (first | (with_reducible assumption) | (with_reducible exact Below.refl _ _) | exact Nat.le_refl _ | exact Below.size (by with_reducible assumption) | (with_reducible refine Below.drew ?_) | (with_reducible refine below_drewN ?_ _) | (with_reducible refine Below.alloc ?_ ?_ _) | (with_reducible refine Below.setCell ?_ ?_ _) | (with_reducible refine le_alloc ?_ _) | (with_reducible refine le_set ?_ _ _) | (with_reducible refine le_drew ?_) | (with_reducible refine le_drewN ?_ _) | omega | (dsimp only; omega)))⟩
  · rw [if_neg hp, decide_eq_true hp] at hC2
    have Hp := Lib.hid hp; clear hp
    obtain ⟨T, hT⟩ : ∃ T, kbs (lst Q ++ [115]) = T := ⟨_, rfl⟩
    rw [hT] at hC2 hTr
    clear hT
    have HSc := Lib.hid hSc; clear hSc
    have HTr := Lib.hid hTr; clear hTr
    have HC1 := Lib.hid hC1; clear hC1
    have HC2 := Lib.hid hC2; clear hC2
    have HRd := Lib.hid hRd; clear hRd
    have HVl := Lib.hid hVl; clear hVl
    have HTx := Lib.hid hTx; clear hTx
    have Hn := Lib.hid hn; clear hn
    clear hv
    go_enter Tryz.func16, Tryz.ntmps16
    go_wp2_with fail
    generalize w.alloc (.cells #[.int .i64 0, .slice none 0 0, .string ⟨#[]⟩, .string ⟨#[]⟩, .int .i64 0] 29) = w0 at *
    refine (HC1.out _ hba).mono ?_
    rintro e w1 ⟨rfl, hb1⟩
    have hr1 := hr0.next hb1
    have hB1 := hba.trans (hb1.mono hba.size)
    have hw1 := hr1.lt
    clear hr0 hb1 hba
    go_wp2_with fail
    refine (HRd.out _ hB1).mono ?_
    rintro e w2 ⟨A, c, rfl, ho2, hb2⟩
    have hr2 := hr1.next hb2
    have hB2 := hB1.trans (hb2.mono hB1.size)
    have hz2 := hb2.size
    have hal : Below w2.heap.size w2 (w2.alloc (.cells #[.int .i64 x.k, .slice A n c, .string x.l, .string ⟨#[]⟩, .int .i64 0] 29)) := (Below.refl _ _).alloc (Nat.le_refl _) _
    have hs3 : rowC (w2.alloc (.cells #[.int .i64 x.k, .slice A n c, .string x.l, .string ⟨#[]⟩, .int .i64 0] 29)) w2.heap.size x.k (.slice A n c) x.l ⟨#[]⟩ 0 := heap_alloc_new w2 _
    have hr3 := hr2.next hal
    have ho3 := own_next ho2 hal
    have hB3 := hB2.trans (hal.mono hB2.size)
    have hgl : ∀ g, (Value.slice A n c).ownBlock = some g → g < w2.heap.size := fun g e => (ho2.lt g e).2
    obtain ⟨b7, hb7⟩ : ∃ b, w2.heap.size = b := ⟨_, rfl⟩
    clear hb2 hr1 hr2 hal ho2
    go_wp2_with fail
    rw [hb7] at hs3 hgl hz2
    try rw [hb7]
    generalize w2.alloc (.cells #[.int .i64 x.k, .slice A n c, .string x.l, .string ⟨#[]⟩, .int .i64 0] 29) = w3 at *
    refine (HC2.out _ hB3).mono ?_
    rintro e w4 ⟨rfl, hb4⟩
    have hr4 := hr3.next hb4
    have hs4 := hs3.next hb4
    have ho4 := own_next ho3 hb4
    have hB4 := hB3.trans (hb4.mono hB3.size)
    clear hr3 hs3 ho3 hB3 hb4 hb7 hB2
    obtain ⟨g0, g1, g2, g3, g4, g5⟩ := (hr4).facts
    obtain ⟨f0, f1, f2, f3, f4, f5⟩ := (hs4).facts
    have hB5 : Below w.heap.size w (w4.setCell ⟨b7, 3, none⟩ (.string x.cs)) := hB4.setCell (show w.heap.size ≤ b7 by omega) _
    have hr5 := hr4.other (a := ⟨b7, 3, none⟩) (.string x.cs) (show w.heap.size ≠ b7 by omega)
    have hs5 := hs4.set3 x.cs
    have ho5 := own_grown ho4 (set_grownC w4 ⟨b7, 3, none⟩ (.string x.cs)) (.inr (fun e => Nat.lt_irrefl _ (hgl b7 e)))
    go_wp2_with fail
    clear g0 g1 g2 g3 g4 g5 f0 f1 f2 f3 f4 f5
    clear hr4 hs4 hB4 ho4
    generalize w4.setCell ⟨b7, 3, none⟩ (.string x.cs) = w8 at *
    refine (HTr.out _).mono ?_
    rintro e w9 ⟨rfl, rfl⟩
    go_wp2_with fail
    refine (HSc.out _ hB5).mono ?_
    rintro e w10 ⟨rfl, hb10⟩
    have hr10 := hr5.next hb10
    have hs10 := hs5.next hb10
    have ho10 := own_next ho5 hb10
    have hB10 := hB5.trans (hb10.mono hB5.size)
    clear hr5 hs5 hB5 ho5
    have hB5 : Below w.heap.size w (w10.setCell ⟨b7, 4, none⟩ (.int .i64 x.p)) := hB10.setCell (show w.heap.size ≤ b7 by omega) _
    have hr5 := hr10.other (a := ⟨b7, 4, none⟩) (.int .i64 x.p) (show w.heap.size ≠ b7 by omega)
    have hs5 := hs10.set4 x.p
    have ho5 := own_grown ho10 (set_grownC w10 ⟨b7, 4, none⟩ (.int .i64 x.p)) (.inr (fun e => Nat.lt_irrefl _ (hgl b7 e)))
    obtain ⟨g0, g1, g2, g3, g4, g5⟩ := (hr10).facts
    obtain ⟨f0, f1, f2, f3, f4, f5⟩ := (hs10).facts
    go_wp2_with fail
    clear g0 g1 g2 g3 g4 g5 f0 f1 f2 f3 f4 f5
    clear hr10 hs10 hB10 ho10 hb10
    generalize w10.setCell ⟨b7, 4, none⟩ (.int .i64 x.p) = w5 at *
    obtain ⟨g0, g1, g2, g3, g4, g5⟩ := (hr5).facts
    obtain ⟨f0, f1, f2, f3, f4, f5⟩ := (hs5).facts
    go_wp2_with fail
    refine (HVl.out A c _ (Sl.of_own ho5)).mono ?_
    rintro e w6 ⟨rfl, hb6⟩
    have hr6 := hr5.next hb6
    have hs6 := hs5.next hb6
    have ho6 := own_next ho5 hb6
    have hB6 := hB5.trans (hb6.mono hB5.size)
    clear g0 g1 g2 g3 g4 g5 f0 f1 f2 f3 f4 f5
    obtain ⟨g0, g1, g2, g3, g4, g5⟩ := (hr6).facts
    obtain ⟨f0, f1, f2, f3, f4, f5⟩ := (hs6).facts
    go_wp2_with fail
    refine (HTx.out A c _ hB6 (Sl.of_own ho6)).mono ?_
    rintro e w7 ⟨rfl, hb7⟩
    have hr7 := hr6.next hb7
    have hs7 := hs6.next hb7
    have ho7 := own_next ho6 hb7
    have hB7 := hB6.trans (hb7.mono hB6.size)
    clear g0 g1 g2 g3 g4 g5 f0 f1 f2 f3 f4 f5
    obtain ⟨g0, g1, g2, g3, g4, g5⟩ := (hr7).facts
    obtain ⟨f0, f1, f2, f3, f4, f5⟩ := (hs7).facts
    have hX : ¬ b7 = w.heap.size := by omega
    have hoF := own_base (ownsRow_setCell_below (ownsRow_setCell_below (ownsRow_setCell_below (ownsRow_setCell_below (ownsRow_setCell_below ho7 (a := ⟨w.heap.size, 0, none⟩) hw1 (.int .i64 x.k)) (a := ⟨w.heap.size, 1, none⟩) hw1 (.slice A n c)) (a := ⟨w.heap.size, 2, none⟩) hw1 (.string x.l)) (a := ⟨w.heap.size, 3, none⟩) hw1 (.string x.cs)) (a := ⟨w.heap.size, 4, none⟩) hw1 (.int .i64 x.p)) (show w.heap.size ≤ w1.heap.size by omega)
    have HoF := Lib.hid hoF; clear hoF
    clear hr5 hr6 hs5 hs6 ho5 ho6 ho7 hb6 hb7 hr7 hs7
    go_wp2_with fail
    exact bodyPost_ret (v := .tuple #[chV x.k A n c x.l x.cs x.p, .bool true]) (by simp [results, Tryz.results16, go_sem, g0, g1, g2, g3, g4]) rfl ⟨A, c, rfl, HoF.out, by (repeat (first | (with_reducible assumption) | (with_reducible exact Below.refl _ _) | exact Nat.le_refl _ | exact Below.size (by with_reducible assumption) | (with_reducible refine Below.drew ?_) | (with_reducible refine below_drewN ?_ _) | (with_reducible refine Below.alloc ?_ ?_ _) | (with_reducible refine Below.setCell ?_ ?_ _) | (with_reducible refine le_alloc ?_ _) | (with_reducible refine le_set ?_ _ _) | (with_reducible refine le_drew ?_) | (with_reducible refine le_drewN ?_ _) | omega | (dsimp only; omega)))⟩
end Go.Proofs.YtjkjmpmefapnoaaGreatDoor
