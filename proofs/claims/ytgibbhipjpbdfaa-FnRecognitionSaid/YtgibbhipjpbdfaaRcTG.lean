/- RcTG: several of my texts in one. -/
import Derived.Test.YtgibbhipjpbdfaaRecS4
import Derived.Test.YtgibbhipjpbdfaaRcSG
import Derived.Test.YtgibbhipjpbdfaaRcIG
import Derived.Test.YtgibbhipjpbdfaaRcRG

/- Recognition: the reference. -/
namespace Go.Proofs.Ytgibbhipjpbdfaa
open Go.RowKit
def zeroCh : Ch := ⟨0, [], ⟨#[]⟩, ⟨#[]⟩, 0⟩
def recA (r : Option Ch) : Int × Ch := match r with | some x => (0, x) | none => (3, zeroCh)
def recO (ps : List Ph) : Int × Ch := bif vPh ps then (bif hueOk (onceB (tenC ps)) then recA (recI (nameC (hueO (onceB (tenC ps)))) (onceB (tenC ps)).length (onceB (tenC ps))) else (6, zeroCh)) else (1, zeroCh)
def RecPost (w : World) (r : Int × Ch) (e : Ending) (w' : World) : Prop :=
  ∃ A c, e = .returned (.tuple #[chV r.2.k A r.2.gs.length c r.2.l r.2.cs r.2.p, .int .i64 r.1]) ∧ w'.ownsRow w.heap.size 2 1 (.slice A r.2.gs.length c) r.2.gs.length (r.2.gs.flatMap intC) ∧ Below w.heap.size w w'
/-- The first that fits among the candidates of the first k kinds. -/
def recPre (C : Int → List Ch) (p : Ch → Bool) (k : Nat) : Option Ch := ((List.range k).flatMap fun j : Nat => C ((j : Int) + 1)).find? p
theorem recPre_next {C : Int → List Ch} {p : Ch → Bool} {k : Nat} (h : recPre C p k = none) : recPre C p (k + 1) = (C ((k : Int) + 1)).find? p := by
  rw [recPre] at h ⊢
  rw [List.range_succ, List.flatMap_append, List.find?_append, h]
  simp
theorem kinds_range (C : Int → List Ch) : kinds.flatMap C = (List.range 8).flatMap fun j : Nat => C ((j : Int) + 1) := rfl
theorem recPre_hit {C : Int → List Ch} {p : Ch → Bool} {k : Nat} {x : Ch} (hk : k ≤ 8) (h : recPre C p k = some x) : (kinds.flatMap C).find? p = some x := by
  rw [kinds_range, show 8 = k + (8 - k) by omega, List.range_add, List.flatMap_append, List.find?_append, show ((List.range k).flatMap fun j : Nat => C ((j : Int) + 1)).find? p = some x from h]
  rfl
theorem recPre_none {C : Int → List Ch} {p : Ch → Bool} (h : recPre C p 8 = none) : (kinds.flatMap C).find? p = none := h
theorem candE {co : ByteArray} {n k : Int} {g : List Int} {l : ByteArray} {p : Int} (h : (if k = 1 ∨ ((k = 6 ∨ k = 7) ∧ g = []) then 0 else n) = p) : cand co n k g l = ⟨k, g, l, co, p⟩ := by rw [cand, h]
theorem groups_cnt {F : Nat} : (groupsS F).length ≤ 7380 := by
  have h1 := ext_len 1 F []
  have h2 := ext_len 2 F []
  have h3 := ext_len 3 F []
  have h4 := ext_len 4 F []
  rw [groupsS, show List.range 4 = [0, 1, 2, 3] from rfl]
  simp only [List.flatMap_cons, List.flatMap_nil, List.length_append, List.length_nil, Nat.reduceAdd]
  omega
theorem groups6 : (groupsS 6)[0]? = some [6] := by decide
theorem groups_ne {F : Nat} : ∀ g ∈ groupsS F, g ≠ [] := fun g hg => by
  obtain ⟨i, _, hi⟩ := List.mem_flatMap.1 hg
  have := (ext_sum _ _ _ g hi).2
  intro e; rw [e] at this; simp at this
theorem groups_len {F : Nat} : ∀ g ∈ groupsS F, g.length ≤ 4 := fun g hg => by
  obtain ⟨i, hi, h⟩ := List.mem_flatMap.1 hg
  have := (ext_sum _ _ _ g h).2
  have := List.mem_range.1 hi
  simp at *
  omega
/-- The first candidate of a kind. -/
theorem pre_one {C : Int → List Ch} {p : Ch → Bool} {k : Nat} {x : Ch} {r : List Ch} (h : recPre C p k = none) (hC : C ((k : Int) + 1) = x :: r) (hx : p x = true) : recPre C p (k + 1) = some x := by
  rw [recPre_next h, hC, List.find?_cons, hx]
theorem find_take {α : Type} {l : List α} {p : α → Bool} {i : Nat} {x : α} (h : (l.take i).find? p = none) (hx : l[i]? = some x) (hp : p x = true) : l.find? p = some x := by
  conv => lhs; rw [← List.take_append_drop i l]
  rw [List.find?_append, h, List.drop_eq_getElem?_toList_append, hx]
  simp [hp]
theorem find_takeN {α : Type} {l : List α} {p : α → Bool} {i : Nat} {x : α} (h : (l.take i).find? p = none) (hx : l[i]? = some x) (hp : p x = false) : (l.take (i + 1)).find? p = none := by
  rw [List.take_add_one, hx, Option.toList_some, List.find?_append, h]
  simp [hp]
theorem recPost_of {w w' : World} {r : Int × Ch} {code : Int} {x : Ch} {A : Option Addr} {c : Nat} (h : r = (code, x)) (ho : w'.ownsRow w.heap.size 2 1 (.slice A x.gs.length c) x.gs.length (x.gs.flatMap intC)) (hb : Below w.heap.size w w') : RecPost w r (.returned (.tuple #[chV x.k A x.gs.length c x.l x.cs x.p, .int .i64 code])) w' := by
  subst h
  exact ⟨A, c, rfl, ho, hb⟩
theorem RowsOwn.setB {w : World} {base n : Nat} {v : Value} {rs : List RowG} (h : RowsOwn w base v n rs) {b : Nat} (hb : b < base) {a : Addr} (ha : a.block = b) (u : Value) : RowsOwn (w.setCell a u) base v n rs :=
  ⟨ownsRow_setCell_below h.own (by omega) u, fun r hr => ownsRow_setCell_below (h.inn r hr) (by omega) u⟩
theorem steady_no {K : Int} {l co : ByteArray} {p : Int} : steadyB ⟨K, [], l, co, p⟩ = decide (K = 1 ∨ K = 6 ∨ K = 7) := by
  rw [steadyB]
  by_cases h : K = 1
  · simp [h]
  · by_cases h6 : K = 6 ∨ K = 7
    · rcases h6 with rfl | rfl <;> simp
    · simp [h] <;> omega
set_option maxRecDepth 100000 in
set_option maxHeartbeats 8000000 in
theorem recSpec_c (A : Option Addr) (n c : Nat) (ps : List Ph) (w : World) (h : Sl w w.heap.size 2 A n (ps.flatMap Ph.cells)) (hm : n ≤ 1048576) (hz : ∀ p ∈ ps, p.c.size ≤ maxLen) :
    Calls Try.prog 6 #[.slice A n c] w (RecPost w (recO ps)) := by
  have hK : ∀ w1, Below w.heap.size w w1 → Calls Try.prog 24 #[.slice A n c] w1 fun e w' => e = .returned (.bool (vPh ps)) ∧ Below w1.heap.size w1 w' := fun w1 hb => l06Ok_c A n c ps w1 (h.next hb) hm hz
  have hn0 := rowC.new w 0 (.slice none 0 0) ⟨#[]⟩ ⟨#[]⟩ 0
  have hb0 : Below w.heap.size w (w.alloc (.cells #[.int .i64 0, .slice none 0 0, .string ⟨#[]⟩, .string ⟨#[]⟩, .int .i64 0] 26)) := by (repeat (first | (with_reducible assumption) | (with_reducible exact Below.refl _ _) | exact Nat.le_refl _ | exact Below.size (by with_reducible assumption) | (with_reducible refine Below.drew ?_) | (with_reducible refine below_drewN ?_ _) | (with_reducible refine Below.alloc ?_ ?_ _) | (with_reducible refine Below.setCell ?_ ?_ _) | (with_reducible refine le_alloc ?_ _) | (with_reducible refine le_set ?_ _ _) | (with_reducible refine le_drew ?_) | (with_reducible refine le_drewN ?_ _) | omega | (dsimp only; omega)))
  cases hv : vPh ps
  · have hrr : recO ps = (1, zeroCh) := by rw [recO, hv]; rfl
    obtain ⟨r, hre⟩ : ∃ r, recO ps = r := ⟨_, rfl⟩
    rw [hre] at hrr ⊢
    have HRr := Lib.hid hrr; clear hrr
    rw [hv] at hK
    have HK := Lib.hid hK; clear hK
    clear hre hv
    go_enter Try.func6, Try.ntmps6
    go_wp2_with fail
    generalize w.alloc (.cells #[.int .i64 0, .slice none 0 0, .string ⟨#[]⟩, .string ⟨#[]⟩, .int .i64 0] 26) = w0 at *
    refine (HK.out _ hb0).mono ?_
    rintro e w1 ⟨rfl, hb1⟩
    have hn1 := hn0.next hb1
    have hb2 := hb0.trans (hb1.mono hb0.size)
    obtain ⟨g0, g1, g2, g3, g4, g5⟩ := hn1.facts
    go_wp2_with fail
    have hBF := below_w5 (hb2) (Nat.le_refl _) 0 (.slice none 0 0) ⟨#[]⟩ ⟨#[]⟩ 0
    have hOF : (W5 w1 w.heap.size 0 (.slice none 0 0) ⟨#[]⟩ ⟨#[]⟩ 0).ownsRow w.heap.size 2 1 (.slice none 0 0) 0 [] := World.ownsRow_nil _ _ _ _
    have hF := (hn1).setAll 0 (.slice none 0 0) ⟨#[]⟩ ⟨#[]⟩ 0
    change bodyPost _ _ _ _ _ (W5 w1 w.heap.size 0 (.slice none 0 0) ⟨#[]⟩ ⟨#[]⟩ 0)
    generalize W5 w1 w.heap.size 0 (.slice none 0 0) ⟨#[]⟩ ⟨#[]⟩ 0 = wf at hF hBF hOF ⊢
    obtain ⟨f0, f1, f2, f3, f4, _⟩ := hF.facts
    exact bodyPost_ret (v := .tuple #[.agg #[.int .i64 0, .slice none 0 0, .string ⟨#[]⟩, .string ⟨#[]⟩, .int .i64 0], .int .i64 1]) (by simp [results, Try.results6, go_sem, f0, f1, f2, f3, f4]) rfl (recPost_of (x := ⟨0, [], ⟨#[]⟩, ⟨#[]⟩, 0⟩) HRr.out hOF hBF)
  obtain ⟨hv1, hv2, hv3, hv4, hv5⟩ := phs_one hv
  have hl := h.len Ph.cells 2 Ph.cells_len (by omega)
  have hOn : ∀ w1, Below w.heap.size w w1 → Calls Try.prog 25 #[.slice A n c] w1 fun e w' => ∃ A' m c', e = .returned (.slice A' m c') ∧ m = (onceB (tenC ps)).length ∧ Sl w' w'.heap.size 1 A' m ((onceB (tenC ps)).flatMap u8C) ∧ Below w1.heap.size w1 w' := fun w1 hb => l06Once_c A n c ps w1 (h.next hb) (by omega) (fun p hp => by have := hv2 p hp; omega) hv4
  have hr : recO ps = bif hueOk (onceB (tenC ps)) then recA (recI (nameC (hueO (onceB (tenC ps)))) (onceB (tenC ps)).length (onceB (tenC ps))) else (6, zeroCh) := by rw [recO, hv]; rfl
  have hprim := once_prim hv4
  have hol := once_len hv4
  have hin : inN (onceB (tenC ps)) := inN_take (inN_ten ps) _
  rw [hr]
  clear hr
  rw [hv] at hK
  obtain ⟨L, hL⟩ : ∃ L, onceB (tenC ps) = L := ⟨_, rfl⟩
  rw [hL] at hOn hprim hol hin ⊢
  obtain ⟨m, hLm⟩ : ∃ m, L.length = m := ⟨_, rfl⟩
  rw [hLm] at hOn hol ⊢
  have hm1 : 1 ≤ m := hol.1
  have hm6 : m ≤ 600 := by omega
  have HK := Lib.hid hK; clear hK
  have HOn := Lib.hid hOn; clear hOn
  have HPrim := Lib.hid hprim; clear hprim
  have HIn := Lib.hid hin; clear hin
  have HLm := Lib.hid hLm; clear hLm
  obtain ⟨r, hre⟩ : ∃ r, (bif hueOk L then recA (recI (nameC (hueO L)) (m : Int) L) else (6, zeroCh)) = r := ⟨_, rfl⟩
  rw [hre]
  have HRe := Lib.hid hre; clear hre
  clear hL hol hv hv1 hv2 hv3 hv4 hv5 hl
  go_enter Try.func6, Try.ntmps6
  go_wp2_with fail
  generalize w.alloc (.cells #[.int .i64 0, .slice none 0 0, .string ⟨#[]⟩, .string ⟨#[]⟩, .int .i64 0] 26) = w0 at *
  refine (HK.out _ hb0).mono ?_
  rintro e w1 ⟨rfl, hb1⟩
  have hn1 := hn0.next hb1
  have hb01 := hb0.trans (hb1.mono hb0.size)
  clear hb1 hb0 hn0
  go_wp2_with fail
  refine (HOn.out _ hb01).mono ?_
  rintro e wL ⟨A2, m', c2, rfl, rfl, sL, hb2⟩
  have hnL := hn1.next hb2
  have hbL := hb01.trans (hb2.mono hb01.size)
  have hb2L := hnL.lt
  clear hb2 hb01 hn1
  obtain ⟨g0, g1, g2, g3, g4, g5⟩ := hnL.facts
  go_wp2_with fail
  go_loopw [5, 6] (fun y i wr => ∃ (k : Nat) (cc : Int), k ≤ m' ∧ i = .int .i64 k ∧ y = .int .u8 cc ∧ Hid (hueO (L.take k) = cc) ∧ Hid (hueOne (L.take k)) ∧ (0 ≤ cc ∧ cc ≤ 255) ∧ wL = wr) (fun _ i _ => m' - (intOf i).toNat)
  case atStart => exact ⟨0, 0, Nat.zero_le _, rfl, rfl, Lib.hid rfl, Lib.hid (fun x hx => by cases hx), by omega, rfl⟩
  case round =>
    obtain ⟨k, cc, hk, rfl, rfl, Hc, Ho, hcc, rfl⟩ := hrel
    by_cases hlt : k < m'
    · obtain ⟨b, off, x, rfl, hb, hx, cx⟩ := sL.u8 k hlt
      have hxi := HIn.out x (List.mem_of_getElem? hx)
      have hcn := hueO_nx hx
      rw [Hc.out] at hcn
      have hon := fun hh => hueOne_nx hx Ho.out hh
      have htwo := fun h1 h2 h3 => hueOk_two hx h1 h2 h3
      rw [Hc.out] at hon htwo
      have i0 : (0 : Int) ≤ (k : Int) := by omega
      have i1 : (k : Int) < (m' : Int) := by omega
      have Hx := Lib.hid hx; clear hx
      have Hcn := Lib.hid hcn; clear hcn
      have Hon := Lib.hid hon; clear hon
      have Htwo := Lib.hid htwo; clear htwo
      by_cases x0 : x = 0
      · have hR : cc = if cc = 0 then x else cc := by split <;> omega
        have e0 : (x == 0) = true := by simpa using x0
        have H0 := Lib.hid x0; clear x0
        have HR := Lib.hid hR; clear hR
        go_wp2_with fail
        go_roundw
        case rel => exact ⟨k + 1, cc, by omega, by go_num, rfl, Lib.hid (by rw [Hcn.out, ← HR.out]), Lib.hid (Hon.out (.inl H0.out)), hcc, trivial⟩
        case measure => simp [intOf] <;> omega
      · have e0 : (x == 0) = false := by simpa using x0
        by_cases c0 : cc = 0
        · have hR : x = if cc = 0 then x else cc := by rw [if_pos c0]
          have e1 : (cc != 0) = false := by simpa using c0
          have H0 := Lib.hid x0; clear x0
          have HR := Lib.hid hR; clear hR
          have H1 := Lib.hid c0; clear c0
          go_wp2_with fail
          go_roundw
          case rel => exact ⟨k + 1, x, by omega, by go_num, rfl, Lib.hid (by rw [Hcn.out, ← HR.out]), Lib.hid (Hon.out (.inr (.inl H1.out))), hxi, trivial⟩
          case measure => simp [intOf] <;> omega
        · have e1 : (cc != 0) = true := by simpa using c0
          by_cases hxc : x = cc
          · have e2 : (x != cc) = false := by simpa using hxc
            have hR : x = if cc = 0 then x else cc := by rw [if_neg c0, hxc]
            have H0 := Lib.hid x0; clear x0
            have HR := Lib.hid hR; clear hR
            have H1 := Lib.hid c0; clear c0
            have H2 := Lib.hid hxc; clear hxc
            go_wp2_with fail
            go_roundw
            case rel => exact ⟨k + 1, x, by omega, by go_num, rfl, Lib.hid (by rw [Hcn.out, ← HR.out]), Lib.hid (Hon.out (.inr (.inr H2.out))), hxi, trivial⟩
            case measure => simp [intOf] <;> omega
          · have e2 : (x != cc) = true := by simpa using hxc
            have hF := Htwo.out x0 c0 hxc
            have hrr : r = (6, zeroCh) := by rw [← HRe.out, hF]; rfl
            have HRr := Lib.hid hrr; clear hrr
            have HF := Lib.hid hF; clear hF
            have H0 := Lib.hid x0; clear x0
            have H1 := Lib.hid c0; clear c0
            have H2 := Lib.hid hxc; clear hxc
            go_wp2_with fail
            have hBF := below_w5 (hbL) (Nat.le_refl _) 0 (.slice none 0 0) ⟨#[]⟩ ⟨#[]⟩ 0
            have hOF : (W5 wL w.heap.size 0 (.slice none 0 0) ⟨#[]⟩ ⟨#[]⟩ 0).ownsRow w.heap.size 2 1 (.slice none 0 0) 0 [] := World.ownsRow_nil _ _ _ _
            have hF := (hnL).setAll 0 (.slice none 0 0) ⟨#[]⟩ ⟨#[]⟩ 0
            change bodyPost _ _ _ _ _ (W5 wL w.heap.size 0 (.slice none 0 0) ⟨#[]⟩ ⟨#[]⟩ 0)
            generalize W5 wL w.heap.size 0 (.slice none 0 0) ⟨#[]⟩ ⟨#[]⟩ 0 = wf at hF hBF hOF ⊢
            obtain ⟨f0, f1, f2, f3, f4, _⟩ := hF.facts
            exact bodyPost_ret (v := .tuple #[.agg #[.int .i64 0, .slice none 0 0, .string ⟨#[]⟩, .string ⟨#[]⟩, .int .i64 0], .int .i64 6]) (by simp [results, Try.results6, go_sem, f0, f1, f2, f3, f4]) rfl (recPost_of (x := ⟨0, [], ⟨#[]⟩, ⟨#[]⟩, 0⟩) HRr.out hOF hBF)
    · obtain rfl : m' = k := by omega
      have i1 : ¬ (m' : Int) < (m' : Int) := by omega
      have htk : L.take m' = L := List.take_of_length_le (by rw [HLm.out]; omega)
      have hok := Ho.out
      rw [htk] at hok
      have hc2 := Hc.out
      rw [htk] at hc2
      have hk2 := hueOk_one hok
      rw [hc2] at hk2
      clear htk Ho Hc hok hlt hk
      by_cases c0 : cc = 0
      · have e1 : (cc == 0) = true := by simpa using c0
        have hrr : r = (6, zeroCh) := by rw [← HRe.out, hk2, decide_eq_false (by omega)]; rfl
        have HRr := Lib.hid hrr; clear hrr
        have H1 := Lib.hid c0; clear c0
        have Hc2 := Lib.hid hc2; clear hc2
        have Hk2 := Lib.hid hk2; clear hk2
        go_wp2_with fail
        have hBF := below_w5 (hbL) (Nat.le_refl _) 0 (.slice none 0 0) ⟨#[]⟩ ⟨#[]⟩ 0
        have hOF : (W5 wL w.heap.size 0 (.slice none 0 0) ⟨#[]⟩ ⟨#[]⟩ 0).ownsRow w.heap.size 2 1 (.slice none 0 0) 0 [] := World.ownsRow_nil _ _ _ _
        have hF := (hnL).setAll 0 (.slice none 0 0) ⟨#[]⟩ ⟨#[]⟩ 0
        change bodyPost _ _ _ _ _ (W5 wL w.heap.size 0 (.slice none 0 0) ⟨#[]⟩ ⟨#[]⟩ 0)
        generalize W5 wL w.heap.size 0 (.slice none 0 0) ⟨#[]⟩ ⟨#[]⟩ 0 = wf at hF hBF hOF ⊢
        obtain ⟨f0, f1, f2, f3, f4, _⟩ := hF.facts
        exact bodyPost_ret (v := .tuple #[.agg #[.int .i64 0, .slice none 0 0, .string ⟨#[]⟩, .string ⟨#[]⟩, .int .i64 0], .int .i64 6]) (by simp [results, Try.results6, go_sem, f0, f1, f2, f3, f4]) rfl (recPost_of (x := ⟨0, [], ⟨#[]⟩, ⟨#[]⟩, 0⟩) HRr.out hOF hBF)
      have e1 : (cc == 0) = false := by simpa using c0
      have hre2 : recA (recI (nameC cc) (m' : Int) L) = r := by rw [← HRe.out, hk2, hc2, decide_eq_true c0]; rfl
      have hcod : code (nameC cc) ≠ 0 := by rw [code_name hcc.1 hcc.2]; exact c0
      have hrs := rec_same hcod (show 1 ≤ L.length by rw [HLm.out]; exact hm1) HPrim.out
      rw [HLm.out] at hrs
      rw [← hrs] at hre2
      have hFm : flashB L ≤ 600 := by
        rw [flash_count]
        exact Nat.le_trans List.countP_le_length (by rw [List.length_range, HLm.out]; exact hm6)
      have hNm : ∀ w1, Calls Try.prog 26 #[.int .u8 cc] w1 fun e w' => e = .returned (.string (nameC cc)) ∧ Below w1.heap.size w1 w' := fun w1 => l06Name_c cc w1
      have hDk : ∀ w1, Below wL.heap.size wL w1 → Calls Try.prog 30 #[.slice A2 m' c2] w1 fun e w' => e = .returned (.int .i64 (flashB L : Nat)) ∧ w1 = w' := fun w1 hb => l06Dark_c A2 m' c2 L w1 (sL.next hb) (by omega)
      have hFt : ∀ (b : Nat) (A1 : Option Addr) (n1 c1 : Nat) (x : Ch) (w1 : World), Below wL.heap.size wL w1 → ChP w1 b 0 A1 n1 c1 x → Calls Try.prog 27 #[.pointer (some ⟨b, 0, none⟩), .slice A2 m' c2] w1 fun e w' => e = .returned (.bool (fitC L x)) ∧ Below w1.heap.size w1 w' := fun b A1 n1 c1 x w1 hb hc => l06Fits_c b 0 A1 n1 c1 x A2 m' c2 L w1 hc (sL.next hb) hm1 hm6 HPrim.out
      have hSt : ∀ (b : Nat) (A1 : Option Addr) (n1 c1 : Nat) (x : Ch) (w1 : World), ChP w1 b 0 A1 n1 c1 x → Calls Try.prog 28 #[.pointer (some ⟨b, 0, none⟩)] w1 fun e w' => e = .returned (.bool (steadyB x)) ∧ w1 = w' := fun b A1 n1 c1 x w1 hc => l05Steady_c b 0 A1 n1 c1 x w1 hc
      have hcs : (nameC cc).size ≤ 1048576 := by
        have := congrArg List.length (name_list (a := cc))
        rw [if_neg c0, ByteArray.toList_eq] at this
        have h2 : (nameC cc).size = 1 := this
        omega
      obtain ⟨co, hco⟩ : ∃ co, nameC cc = co := ⟨_, rfl⟩
      obtain ⟨F, hF⟩ : ∃ F, flashB L = F := ⟨_, rfl⟩
      rw [hco] at hNm hcs hre2
      rw [hF] at hDk hFm hre2
      rw [recS] at hre2
      have HRe2 := Lib.hid hre2; clear hre2
      have hGr : ∀ w1, Calls Try.prog 29 #[.int .i64 (F : Int)] w1 fun e w' => ∃ A c rs, e = .returned (.slice A rs.length c) ∧ RowsOwn w' w1.heap.size (.slice A rs.length c) rs.length rs ∧ rs.map RowG.xs = groupsS F ∧ Below w1.heap.size w1 w' := fun w1 => l06Groups_c F w1 (by omega)
      have hG6 : ∀ w1, Calls Try.prog 29 #[.int .i64 6] w1 fun e w' => ∃ A c rs, e = .returned (.slice A rs.length c) ∧ RowsOwn w' w1.heap.size (.slice A rs.length c) rs.length rs ∧ rs.map RowG.xs = groupsS 6 ∧ Below w1.heap.size w1 w' := fun w1 => l06Groups_c 6 w1 (by omega)
      have hle0 : (⟨#[]⟩ : ByteArray).size ≤ 1048576 := by decide
      have hle1 : lB.size ≤ 1048576 := by decide
      have hlt0 : ∀ j, (ltrB j).size ≤ 1048576 := fun j => by show 1 ≤ 1048576; omega
      have hsn : ∀ w1 : World, Sl w1 w1.heap.size 1 none 0 (([] : List Int).flatMap intC) := fun w1 => Sl.of_own (base := w1.heap.size) (e := 2) (World.ownsRow_nil _ _ _ _)
      have HNm := Lib.hid hNm; clear hNm
      have HDk := Lib.hid hDk; clear hDk
      have HFt := Lib.hid hFt; clear hFt
      have HSt := Lib.hid hSt; clear hSt
      have HGr := Lib.hid hGr; clear hGr
      have HG6 := Lib.hid hG6; clear hG6
      have HSn := Lib.hid hsn; clear hsn
      have HLt0 := Lib.hid hlt0; clear hlt0
      clear hcod hrs hco hF hk2 hc2 c0 hcc i1
      clear g0 g1 g2 g3 g4 g5
      go_wp2_with fail
      go_loopw [8] (fun i wr => ∃ k : Nat, k ≤ 8 ∧ i = .int .i64 ((k : Int) + 1) ∧ Hid (recPre (candS co m' F) (fitC L) k = none) ∧ Below wL.heap.size wL wr) (fun i _ => 9 - (intOf i).toNat)
      case atStart => exact ⟨0, by omega, rfl, Lib.hid rfl, Below.refl _ _⟩
      case round =>
        obtain ⟨k, hk, rfl, Hp, hbw⟩ := hrel
        by_cases hlt : k < 8
        · obtain ⟨K, hKe⟩ : ∃ K : Int, (k : Int) + 1 = K := ⟨_, rfl⟩
          have hK1 : 1 ≤ K ∧ K ≤ 8 := by omega
          have hK8 : K ≤ 8 := hK1.2
          have hpn := recPre_next Hp.out
          rw [hKe] at hpn ⊢
          by_cases h8 : K = 8
          · subst h8
            have e8 : ((8 : Int) == 8) = true := rfl
            have hcl : candS co (m' : Int) F 8 = lettersC co m' := by rw [candS, if_pos rfl]
            rw [hcl] at hpn
            go_wp2_with fail
            refine (HNm.out _).mono ?_
            rintro e w3 ⟨rfl, hb3⟩
            have hbw3 := hbw.trans (hb3.mono hbw.size)
            have hr9 := rowC.new w3 8 (.slice none 0 0) ⟨#[]⟩ co (m' : Int)
            have hbx : Below wL.heap.size wL (w3.alloc (.cells #[.int .i64 8, .slice none 0 0, .string ⟨#[]⟩, .string co, .int .i64 (m' : Int)] 26)) := by (repeat (first | (with_reducible assumption) | (with_reducible exact Below.refl _ _) | exact Nat.le_refl _ | exact Below.size (by with_reducible assumption) | (with_reducible refine Below.drew ?_) | (with_reducible refine below_drewN ?_ _) | (with_reducible refine Below.alloc ?_ ?_ _) | (with_reducible refine Below.setCell ?_ ?_ _) | (with_reducible refine le_alloc ?_ _) | (with_reducible refine le_set ?_ _ _) | (with_reducible refine le_drew ?_) | (with_reducible refine le_drewN ?_ _) | omega | (dsimp only; omega)))
            obtain ⟨b9, hb9⟩ : ∃ b, w3.heap.size = b := ⟨_, rfl⟩
            have hb9L : wL.heap.size ≤ b9 := by rw [← hb9]; exact hbw3.size
            have HPn := Lib.hid hpn; clear hpn
            clear hb3
            go_wp2_with fail
            rw [hb9] at hr9
            try rw [hb9]
            generalize w3.alloc (.cells #[.int .i64 8, .slice none 0 0, .string ⟨#[]⟩, .string co, .int .i64 (m' : Int)] 26) = w4 at *
            clear hb9 hbw3 hbw
            go_loopw [10] (fun i wr => ∃ (j : Nat) (l : ByteArray), j ≤ 26 ∧ i = .int .u8 (65 + (j : Int)) ∧ rowC wr b9 8 (.slice none 0 0) l co m' ∧ Hid (((lettersC co m').take j).find? (fitC L) = none) ∧ Below wL.heap.size wL wr) (fun i _ => 91 - (intOf i).toNat)
            case atStart => exact ⟨0, ⟨#[]⟩, by omega, rfl, hr9, Lib.hid rfl, hbx⟩
            case round =>
              clear hr9 hbx
              obtain ⟨j, l, hj, rfl, hr9, Hl, hbw⟩ := hrel
              by_cases hlj : j < 26
              · have i1 : 65 + (j : Int) ≤ 90 := by omega
                have hwu : IntKind.u8.wrap (65 + (j : Int) + 1) = 65 + (j : Int) + 1 := IntWalk.u8_in _ (by omega)
                have hls : strOfNums [65 + (j : Int)] = ltrB j := by
                  show (⟨#[UInt8.ofNat (65 + (j : Int)).toNat]⟩ : ByteArray) = ⟨#[UInt8.ofNat (65 + j)]⟩
                  rw [show (65 + (j : Int)).toNat = 65 + j by omega]
                have hcv := convN wr (65 + (j : Int))
                rw [hls] at hcv
                have hxj : (lettersC co m')[j]? = some ⟨8, [], ltrB j, co, m'⟩ := by
                  rw [lettersC, List.getElem?_map, List.getElem?_range hlj, Option.map_some, candE (p := (m' : Int)) (if_neg (by omega))]
                obtain ⟨X, hX⟩ : ∃ X, 65 + (j : Int) = X := ⟨_, rfl⟩
                obtain ⟨lt, hlt⟩ : ∃ lt, ltrB j = lt := ⟨_, rfl⟩
                have hlz : lt.size ≤ 1048576 := by rw [← hlt]; exact HLt0.out j
                rw [hX] at hwu hcv i1 ⊢
                rw [hlt] at hcv hxj
                have hbw4 : Below wL.heap.size wL (wr.setCell ⟨b9, 2, none⟩ (.string lt)) := hbw.setCell hb9L _
                have hal : Below (wr.setCell ⟨b9, 2, none⟩ (.string lt)).heap.size (wr.setCell ⟨b9, 2, none⟩ (.string lt)) ((wr.setCell ⟨b9, 2, none⟩ (.string lt)).alloc (.cells #[.int .u8 X] 5)) := (Below.refl _ _).alloc (Nat.le_refl _) _
                have hr8 := (hr9.set2 lt).next hal
                have hbw5 := hbw4.trans (hal.mono hbw4.size)
                obtain ⟨a0, a1, a2, a3, a4, a5⟩ := hr9.facts
                have hlt9 := hr9.lt
                clear hls hlt
                have Hxj := Lib.hid hxj; clear hxj
                have HX := Lib.hid hX; clear hX
                go_wp2_with fail
                refine (HFt.out b9 none 0 0 ⟨8, [], lt, co, m'⟩ _ hbw5 (hr8.chP (HSn.out _) (by omega) hlz hcs)).mono ?_
                rintro e w6 ⟨rfl, hb6⟩
                have hbw6 := hbw5.trans (hb6.mono hbw5.size)
                have hr6 := hr8.next hb6
                clear hr8 hbw5 hbw4 hal a0 a1 a2 a3 a4 a5 hr9
                cases hft : fitC L ⟨8, [], lt, co, m'⟩
                · have Hl2 := Lib.hid (find_takeN Hl.out Hxj.out hft)
                  have Hft := Lib.hid hft; clear hft
                  go_wp2_with fail
                  go_roundw
                  case rel => exact ⟨j + 1, lt, by omega, by rw [← HX.out]; go_num, hr6, Hl2, hbw6⟩
                  case measure => have := HX.out; simp [intOf] <;> omega
                · have hrr : r = (0, ⟨8, [], lt, co, m'⟩) := by rw [← HRe2.out, recPre_hit (k := k + 1) (by omega) (HPn.out.trans (find_take Hl.out Hxj.out hft))]; rfl
                  have HRr := Lib.hid hrr; clear hrr
                  have Hft := Lib.hid hft; clear hft
                  have hn9 := (hnL.next hbw6)
                  have hr9' := hr6
                  have hB9 := (hbL.trans (hbw6.mono hbL.size))
                  obtain ⟨g0, g1, g2, g3, g4, g5⟩ := hn9.facts
                  obtain ⟨a0, a1, a2, a3, a4, a5⟩ := hr9'.facts
                  have hOF : (W5 w6 w.heap.size 8 (.slice none 0 0) lt co (m' : Int)).ownsRow w.heap.size 2 1 (.slice none 0 0) _ _ := own_base (own_w5 (b := w.heap.size) (World.ownsRow_nil w6 (w.heap.size + 1) 2 1) (by omega) 8 (.slice none 0 0) lt co (m' : Int)) (by omega)
                  have hBF := below_w5 hB9 (Nat.le_refl _) 8 (.slice none 0 0) lt co (m' : Int)
                  go_wp2_with fail
                  have hF := (hn9).setAll 8 (.slice none 0 0) lt co (m' : Int)
                  change bodyPost _ _ _ _ _ (W5 w6 w.heap.size 8 (.slice none 0 0) lt co (m' : Int))
                  generalize W5 w6 w.heap.size 8 (.slice none 0 0) lt co (m' : Int) = wf at hF hBF hOF ⊢
                  obtain ⟨f0, f1, f2, f3, f4, _⟩ := hF.facts
                  exact bodyPost_ret (v := .tuple #[.agg #[.int .i64 8, .slice none 0 0, .string lt, .string co, .int .i64 (m' : Int)], .int .i64 0]) (by simp [results, Try.results6, go_sem, f0, f1, f2, f3, f4]) rfl (recPost_of (x := ⟨8, [], lt, co, (m' : Int)⟩) HRr.out hOF hBF)
              · obtain rfl : j = 26 := by omega
                have i1 : ¬ (65 + ((26 : Nat) : Int)) ≤ 90 := by omega
                have Hp2 : Hid (recPre (candS co m' F) (fitC L) (k + 1) = none) := Lib.hid (by
                  have h9 := Hl.out
                  rw [List.take_of_length_le (Nat.le_of_eq (by simp [lettersC]))] at h9
                  rw [HPn.out, h9])
                go_wp2_with fail
                go_roundw
                case rel => exact ⟨k + 1, by omega, by go_num, Hp2, hbw⟩
                case measure => simp [intOf] <;> omega
          · have e8 : (K == 8) = false := by simpa using h8
            go_wp2_with fail
            refine (HNm.out _).mono ?_
            rintro e w3 ⟨rfl, hb3⟩
            have hbw3 := hbw.trans (hb3.mono hbw.size)
            have hr9 := rowC.new w3 K (.slice none 0 0) ⟨#[]⟩ co 0
            have hbx : Below wL.heap.size wL (w3.alloc (.cells #[.int .i64 K, .slice none 0 0, .string ⟨#[]⟩, .string co, .int .i64 0] 26)) := by (repeat (first | (with_reducible assumption) | (with_reducible exact Below.refl _ _) | exact Nat.le_refl _ | exact Below.size (by with_reducible assumption) | (with_reducible refine Below.drew ?_) | (with_reducible refine below_drewN ?_ _) | (with_reducible refine Below.alloc ?_ ?_ _) | (with_reducible refine Below.setCell ?_ ?_ _) | (with_reducible refine le_alloc ?_ _) | (with_reducible refine le_set ?_ _ _) | (with_reducible refine le_drew ?_) | (with_reducible refine le_drewN ?_ _) | omega | (dsimp only; omega)))
            obtain ⟨b9, hb9⟩ : ∃ b, w3.heap.size = b := ⟨_, rfl⟩
            have hb9L : wL.heap.size ≤ b9 := by rw [← hb9]; exact hbw3.size
            have HPn := Lib.hid hpn; clear hpn
            have HKe := Lib.hid hKe; clear hKe
            clear hb3
            go_wp2_with fail
            rw [hb9] at hr9
            try rw [hb9]
            generalize w3.alloc (.cells #[.int .i64 K, .slice none 0 0, .string ⟨#[]⟩, .string co, .int .i64 0] 26) = w4 at *
            clear hb9 hbw3 hbw
            refine (HSt.out b9 none 0 0 ⟨K, [], ⟨#[]⟩, co, 0⟩ _ (hr9.chP (HSn.out _) (by omega) hle0 hcs)).mono ?_
            rintro e w5 ⟨rfl, rfl⟩
            obtain ⟨S, hS⟩ : ∃ S, steadyB ⟨K, [], ⟨#[]⟩, co, 0⟩ = S := ⟨_, rfl⟩
            rw [hS]
            rw [steady_no] at hS
            cases S
            · have hP0 : (if K = 1 ∨ ((K = 6 ∨ K = 7) ∧ ([] : List Int) = []) then 0 else (m' : Int)) = m' := if_neg (by
                have := of_decide_eq_false hS
                rintro (h | ⟨h, _⟩)
                · exact this (.inl h)
                · exact this (.inr h))
              obtain ⟨a0, a1, a2, a3, a4, a5⟩ := hr9.facts
              have hr4 := hr9.set4 (m' : Int)
              have hbw4 : Below wL.heap.size wL (w4.setCell ⟨b9, 4, none⟩ (.int .i64 (m' : Int))) := hbx.setCell hb9L _
              have HS := Lib.hid hS; clear hS
              have hcand : cand co (m' : Int) K [] eB = ⟨K, [], ⟨#[]⟩, co, (m' : Int)⟩ := candE hP0
              obtain ⟨lst, hcs2⟩ : ∃ l, candS co (m' : Int) F K = ⟨K, [], ⟨#[]⟩, co, (m' : Int)⟩ :: l := ⟨_, by rw [candS, if_neg h8, hcand]⟩
              have Hcs := Lib.hid hcs2; clear hcs2
              have Hcand := Lib.hid hcand; clear hcand
              clear hP0
              go_wp2_with fail
              generalize w4.setCell ⟨b9, 4, none⟩ (.int .i64 (m' : Int)) = w5 at *
              clear hr9 hbx a0 a1 a2 a3 a4 a5
              have hr9 := hr4
              clear hr4
              refine (HFt.out b9 none 0 0 ⟨K, [], ⟨#[]⟩, co, (m' : Int)⟩ _ hbw4 (hr9.chP (HSn.out _) (by omega) hle0 hcs)).mono ?_
              rintro e w5 ⟨rfl, hb5⟩
              have hbw5 := hbw4.trans (hb5.mono hbw4.size)
              have hr5 := hr9.next hb5
              clear hr9 hbw4 hb5
              cases hft : fitC L ⟨K, [], ⟨#[]⟩, co, (m' : Int)⟩
              rotate_left
              · have hrr : r = (0, ⟨K, [], ⟨#[]⟩, co, (m' : Int)⟩) := by rw [← HRe2.out, recPre_hit (k := k + 1) (by omega) (pre_one Hp.out (by rw [HKe.out]; exact Hcs.out) hft)]; rfl
                have HRr := Lib.hid hrr; clear hrr
                have Hft := Lib.hid hft; clear hft
                have hn9 := (hnL.next hbw5)
                have hr9' := hr5
                have hB9 := (hbL.trans (hbw5.mono hbL.size))
                obtain ⟨g0, g1, g2, g3, g4, g5⟩ := hn9.facts
                obtain ⟨a0, a1, a2, a3, a4, a5⟩ := hr9'.facts
                have hOF : (W5 w5 w.heap.size K (.slice none 0 0) ⟨#[]⟩ co (m' : Int)).ownsRow w.heap.size 2 1 (.slice none 0 0) _ _ := own_base (own_w5 (b := w.heap.size) (World.ownsRow_nil w5 (w.heap.size + 1) 2 1) (by omega) K (.slice none 0 0) ⟨#[]⟩ co (m' : Int)) (by omega)
                have hBF := below_w5 hB9 (Nat.le_refl _) K (.slice none 0 0) ⟨#[]⟩ co (m' : Int)
                go_wp2_with fail
                have hF := (hn9).setAll K (.slice none 0 0) ⟨#[]⟩ co (m' : Int)
                change bodyPost _ _ _ _ _ (W5 w5 w.heap.size K (.slice none 0 0) ⟨#[]⟩ co (m' : Int))
                generalize W5 w5 w.heap.size K (.slice none 0 0) ⟨#[]⟩ co (m' : Int) = wf at hF hBF hOF ⊢
                obtain ⟨f0, f1, f2, f3, f4, _⟩ := hF.facts
                exact bodyPost_ret (v := .tuple #[.agg #[.int .i64 K, .slice none 0 0, .string ⟨#[]⟩, .string co, .int .i64 (m' : Int)], .int .i64 0]) (by simp [results, Try.results6, go_sem, f0, f1, f2, f3, f4]) rfl (recPost_of (x := ⟨K, [], ⟨#[]⟩, co, (m' : Int)⟩) HRr.out hOF hBF)
              have Hft := Lib.hid hft; clear hft
              by_cases h13 : K = 1 ∨ K = 3
              · have e13 : (K == 1 || K == 3) = true := by simpa using h13
                have Hp2 : Hid (recPre (candS co m' F) (fitC L) (k + 1) = none) := Lib.hid (by
                  rw [HPn.out, candS, if_neg h8, if_pos h13, Hcand.out, List.find?_cons, Hft.out]; rfl)
                rcases h13 with h1 | h1
                · have e1 : (K == 1) = true := by simpa using h1
                  have H1 := Lib.hid h1; clear h1
                  go_wp2_with fail
                  go_roundw
                  case rel => exact ⟨k + 1, by omega, by rw [← HKe.out]; go_num, Hp2, hbw5⟩
                  case measure => have := HKe.out; simp [intOf] <;> omega
                · have e1 : (K == 1) = false := by simpa using (by omega : ¬ K = 1)
                  have e3 : (K == 3) = true := by simpa using h1
                  have H1 := Lib.hid h1; clear h1
                  go_wp2_with fail
                  go_roundw
                  case rel => exact ⟨k + 1, by omega, by rw [← HKe.out]; go_num, Hp2, hbw5⟩
                  case measure => have := HKe.out; simp [intOf] <;> omega
              have e1 : (K == 1) = false := by simpa using (by omega : ¬ K = 1)
              have e3 : (K == 3) = false := by simpa using (by omega : ¬ K = 3)
              have hK9 : K ≠ 1 := by omega
              have hlist : (candS co (m' : Int) F K).find? (fitC L) = (((groupsS F).map fun g => cand co m' K g eB) ++ [cand co m' K [6] lB]).find? (fitC L) := by
                rw [candS, if_neg h8, if_neg h13, Hcand.out, List.find?_cons, Hft.out]
              have hcg : ∀ g l, g ≠ [] → cand co (m' : Int) K g l = ⟨K, g, l, co, m'⟩ := fun g l hg => candE (if_neg (by rintro (h | ⟨_, h⟩); exact hK9 h; exact hg h))
              have HList := Lib.hid hlist; clear hlist
              have Hcg := Lib.hid hcg; clear hcg
              have H13 := Lib.hid h13; clear h13
              clear hK9
              go_wp2_with fail
              refine (HDk.out _ hbw5).mono ?_
              rintro e w6 ⟨rfl, rfl⟩
              go_wp2_with fail
              refine (HGr.out _).mono ?_
              rintro e w7 ⟨A5, c5, rs, rfl, hR, hRm, hb7⟩
              have hb59 : b9 < w5.heap.size := hr5.lt
              have hr7 := hr5.next hb7
              have hbw7 := hbw5.trans (hb7.mono hbw5.size)
              clear hb7 hr5
              have hRn : rs.length ≤ 7380 := by rw [← List.length_map (f := RowG.xs), hRm]; exact groups_cnt
              have HRm := Lib.hid hRm; clear hRm
              go_wp2_with fail
              obtain ⟨Bg, hBg⟩ : ∃ b, w5.heap.size = b := ⟨_, rfl⟩
              rw [hBg] at hR hb59
              have hBgL : w.heap.size + 1 ≤ Bg := by have := hbw5.size; omega
              clear hBg hbw5
              go_loopw [12] (fun i wr => ∃ (j : Nat) (v : Value) (p : Int), j ≤ rs.length ∧ i = .int .i64 j ∧ rowC wr b9 K v ⟨#[]⟩ co p ∧ RowsOwn wr Bg (.slice A5 rs.length c5) rs.length rs ∧ Hid ((((groupsS F).map fun g => cand co m' K g eB).take j).find? (fitC L) = none) ∧ Below wL.heap.size wL wr) (fun i _ => rs.length - (intOf i).toNat)
              case atStart => exact ⟨0, _, _, Nat.zero_le _, rfl, hr7, hR, Lib.hid rfl, hbw7⟩
              case round =>
                clear hr7 hR hbw7
                obtain ⟨j, v, p, hj, rfl, hr9, hR, Hl, hbw⟩ := hrel
                by_cases hlj : j < rs.length
                · have hRlen : ∀ g ∈ rs, g.xs.length ≤ 1048576 := fun g hg => by
                    have : g.xs ∈ groupsS F := by rw [← HRm.out]; exact List.mem_map_of_mem hg
                    have := groups_len _ this
                    omega
                  obtain ⟨bg, og, g, rfl, hbg, hgx, sg, mg, cg⟩ := (hR.rs hRlen).get j hlj
                  have hgo := hR.inn g (List.mem_of_getElem? hgx)
                  have hgi : (groupsS F)[j]? = some g.xs := by rw [← HRm.out, List.getElem?_map, hgx]; rfl
                  have hgn : g.xs ≠ [] := groups_ne _ (List.mem_of_getElem? hgi)
                  have hxj : (((groupsS F).map fun g => cand co (m' : Int) K g eB))[j]? = some ⟨K, g.xs, ⟨#[]⟩, co, m'⟩ := by rw [List.getElem?_map, hgi, Option.map_some, Hcg.out _ _ hgn]
                  have i0 : (0 : Int) ≤ (j : Int) := by omega
                  have i1 : (j : Int) < (rs.length : Int) := by omega
                  obtain ⟨a0, a1, a2, a3, a4, a5⟩ := hr9.facts
                  have hr8 := (hr9.set1 (.slice g.A g.xs.length g.c)).set4 (m' : Int)
                  have hbw4 : Below wL.heap.size wL (wr.setCell ⟨b9, 1, none⟩ (.slice g.A g.xs.length g.c)) := hbw.setCell hb9L _
                  have hbw5 : Below wL.heap.size wL ((wr.setCell ⟨b9, 1, none⟩ (.slice g.A g.xs.length g.c)).setCell ⟨b9, 4, none⟩ (.int .i64 (m' : Int))) := hbw4.setCell hb9L _
                  have hR8 := (hR.setB hb59 (a := ⟨b9, 1, none⟩) rfl (.slice g.A g.xs.length g.c)).setB hb59 (a := ⟨b9, 4, none⟩) rfl (.int .i64 (m' : Int))
                  have hgo8 := hR8.inn g (List.mem_of_getElem? hgx)
                  have sg8 := Sl.of_own hgo8
                  have Hgx := Lib.hid hgx; clear hgx
                  have Hgi := Lib.hid hgi; clear hgi
                  have Hxj := Lib.hid hxj; clear hxj
                  have Hgn := Lib.hid hgn; clear hgn
                  go_wp2_with fail
                  refine (HFt.out b9 g.A g.xs.length g.c ⟨K, g.xs, ⟨#[]⟩, co, m'⟩ _ hbw5 (hr8.chP sg8 mg hle0 hcs)).mono ?_
                  rintro e w6 ⟨rfl, hb6⟩
                  have hbw6 := hbw5.trans (hb6.mono hbw5.size)
                  have hr6 := hr8.next hb6
                  have hR6 := hR8.next hb6
                  clear hr8 hbw5 hbw4 a0 a1 a2 a3 a4 a5 hr9 hR8 hgo8 sg8 hR hgo sg
                  cases hft2 : fitC L ⟨K, g.xs, ⟨#[]⟩, co, m'⟩
                  · have Hl2 := Lib.hid (find_takeN Hl.out Hxj.out hft2)
                    have Hft2 := Lib.hid hft2; clear hft2
                    go_wp2_with fail
                    go_roundw
                    case rel => exact ⟨j + 1, _, _, by omega, by go_num, hr6, hR6, Hl2, hbw6⟩
                    case measure => simp [intOf] <;> omega
                  · have hrr : r = (0, ⟨K, g.xs, ⟨#[]⟩, co, m'⟩) := by
                      rw [← HRe2.out, recPre_hit (k := k + 1) (by omega) (HPn.out.trans (HList.out.trans (by rw [List.find?_append, find_take Hl.out Hxj.out hft2]; rfl)))]; rfl
                    have hgo6 := hR6.inn g (List.mem_of_getElem? Hgx.out)
                    have HRr := Lib.hid hrr; clear hrr
                    have Hft2 := Lib.hid hft2; clear hft2
                    have hn9 := (hnL.next hbw6)
                    have hr9' := hr6
                    have hB9 := (hbL.trans (hbw6.mono hbL.size))
                    obtain ⟨g0, g1, g2, g3, g4, g5⟩ := hn9.facts
                    obtain ⟨a0, a1, a2, a3, a4, a5⟩ := hr9'.facts
                    have hOF : (W5 w6 w.heap.size K (.slice g.A g.xs.length g.c) ⟨#[]⟩ co (m' : Int)).ownsRow w.heap.size 2 1 (.slice g.A g.xs.length g.c) _ _ := own_base (own_w5 (b := w.heap.size) hgo6 (by omega) K (.slice g.A g.xs.length g.c) ⟨#[]⟩ co (m' : Int)) (by omega)
                    have hBF := below_w5 hB9 (Nat.le_refl _) K (.slice g.A g.xs.length g.c) ⟨#[]⟩ co (m' : Int)
                    go_wp2_with fail
                    have hF := (hn9).setAll K (.slice g.A g.xs.length g.c) ⟨#[]⟩ co (m' : Int)
                    change bodyPost _ _ _ _ _ (W5 w6 w.heap.size K (.slice g.A g.xs.length g.c) ⟨#[]⟩ co (m' : Int))
                    generalize W5 w6 w.heap.size K (.slice g.A g.xs.length g.c) ⟨#[]⟩ co (m' : Int) = wf at hF hBF hOF ⊢
                    obtain ⟨f0, f1, f2, f3, f4, _⟩ := hF.facts
                    exact bodyPost_ret (v := .tuple #[.agg #[.int .i64 K, .slice g.A g.xs.length g.c, .string ⟨#[]⟩, .string co, .int .i64 (m' : Int)], .int .i64 0]) (by simp [results, Try.results6, go_sem, f0, f1, f2, f3, f4]) rfl (recPost_of (x := ⟨K, g.xs, ⟨#[]⟩, co, (m' : Int)⟩) HRr.out hOF hBF)
                · obtain rfl : j = rs.length := by omega
                  have i1 : ¬ (rs.length : Int) < (rs.length : Int) := by omega
                  have hl9 : ((groupsS F).map fun g => cand co (m' : Int) K g eB).find? (fitC L) = none := by
                    have h9 := Hl.out
                    rwa [List.take_of_length_le (by rw [List.length_map, ← HRm.out, List.length_map]; exact Nat.le_refl _)] at h9
                  have Hl9 := Lib.hid hl9; clear hl9
                  clear hR
                  go_wp2_with fail
                  refine (HG6.out _).mono ?_
                  rintro e w6 ⟨A6, c6, rs6, rfl, hR, hRm6, hb6⟩
                  have hr6 := hr9.next hb6
                  have hbw6 := hbw.trans (hb6.mono hbw.size)
                  have hl6 : 0 < rs6.length := by
                    have h9 := congrArg List.length hRm6
                    have h8 := (List.getElem?_eq_some_iff.1 groups6).1
                    rw [List.length_map] at h9
                    omega
                  have hRlen : ∀ g ∈ rs6, g.xs.length ≤ 1048576 := fun g hg => by
                    have : g.xs ∈ groupsS 6 := by rw [← hRm6]; exact List.mem_map_of_mem hg
                    have := groups_len _ this
                    omega
                  obtain ⟨bg, og, g, rfl, hbg, hgx, sg, mg, cg⟩ := (hR.rs hRlen).get 0 hl6
                  simp only [Nat.add_zero] at cg
                  have hg6 : g.xs = [6] := by
                    have h9 := groups6
                    rw [← hRm6, List.getElem?_map, hgx] at h9
                    injection h9
                  have hb96 : b9 < wr.heap.size := hr9.lt
                  obtain ⟨a0, a1, a2, a3, a4, a5⟩ := hr6.facts
                  have hr8 := ((hr6.set1 (.slice g.A g.xs.length g.c)).set2 ⟨#[76]⟩).set4 (m' : Int)
                  have hbw3 : Below wL.heap.size wL (w6.setCell ⟨b9, 1, none⟩ (.slice g.A g.xs.length g.c)) := hbw6.setCell hb9L _
                  have hbw4 : Below wL.heap.size wL ((w6.setCell ⟨b9, 1, none⟩ (.slice g.A g.xs.length g.c)).setCell ⟨b9, 2, none⟩ (.string ⟨#[76]⟩)) := hbw3.setCell hb9L _
                  have hbw5 : Below wL.heap.size wL (((w6.setCell ⟨b9, 1, none⟩ (.slice g.A g.xs.length g.c)).setCell ⟨b9, 2, none⟩ (.string ⟨#[76]⟩)).setCell ⟨b9, 4, none⟩ (.int .i64 (m' : Int))) := hbw4.setCell hb9L _
                  have hR8 := ((hR.setB hb96 (a := ⟨b9, 1, none⟩) rfl (.slice g.A g.xs.length g.c)).setB hb96 (a := ⟨b9, 2, none⟩) rfl (.string ⟨#[76]⟩)).setB hb96 (a := ⟨b9, 4, none⟩) rfl (.int .i64 (m' : Int))
                  have hgo8 := hR8.inn g (List.mem_of_getElem? hgx)
                  have sg8 := Sl.of_own hgo8
                  have n1 : (0 : Int) < (rs6.length : Int) := by omega
                  have hBr : w.heap.size + 1 ≤ wr.heap.size := by have := hbw.size; omega
                  have Hgx := Lib.hid hgx; clear hgx
                  have Hg6 := Lib.hid hg6; clear hg6
                  have HRm6 := Lib.hid hRm6; clear hRm6
                  go_wp2_with fail
                  refine (HFt.out b9 g.A g.xs.length g.c ⟨K, g.xs, ⟨#[76]⟩, co, m'⟩ _ hbw5 (hr8.chP sg8 mg hle1 hcs)).mono ?_
                  rintro e w8 ⟨rfl, hb8⟩
                  have hbw8 := hbw5.trans (hb8.mono hbw5.size)
                  have hr9 := hr8.next hb8
                  have hgo9 := own_next hgo8 hb8
                  clear hr8 hbw3 hbw5 hbw4 a0 a1 a2 a3 a4 a5 hr6 hR8 hgo8 sg8 hR sg
                  cases hft2 : fitC L ⟨K, g.xs, ⟨#[76]⟩, co, m'⟩
                  · have Hp2 : Hid (recPre (candS co m' F) (fitC L) (k + 1) = none) := Lib.hid (by
                      rw [HPn.out, HList.out, List.find?_append, Hl9.out, List.find?_cons, Hcg.out _ _ (by simp), ← Hg6.out, hft2]; rfl)
                    have Hft2 := Lib.hid hft2; clear hft2
                    go_wp2_with fail
                    go_roundw
                    case rel => exact ⟨k + 1, by omega, by rw [← HKe.out]; go_num, Hp2, hbw8⟩
                    case measure => have := HKe.out; simp [intOf] <;> omega
                  · have hrr : r = (0, ⟨K, g.xs, ⟨#[76]⟩, co, m'⟩) := by
                      rw [← HRe2.out, recPre_hit (k := k + 1) (by omega) (HPn.out.trans (HList.out.trans (by rw [List.find?_append, Hl9.out, List.find?_cons, Hcg.out _ _ (by simp), ← Hg6.out, hft2]; rfl)))]; rfl
                    have HRr := Lib.hid hrr; clear hrr
                    have Hft2 := Lib.hid hft2; clear hft2
                    have hn9 := (hnL.next hbw8)
                    have hr9' := hr9
                    have hB9 := (hbL.trans (hbw8.mono hbL.size))
                    obtain ⟨g0, g1, g2, g3, g4, g5⟩ := hn9.facts
                    obtain ⟨a0, a1, a2, a3, a4, a5⟩ := hr9'.facts
                    have hOF : (W5 w8 w.heap.size K (.slice g.A g.xs.length g.c) ⟨#[76]⟩ co (m' : Int)).ownsRow w.heap.size 2 1 (.slice g.A g.xs.length g.c) _ _ := own_base (own_w5 (b := w.heap.size) hgo9 (by omega) K (.slice g.A g.xs.length g.c) ⟨#[76]⟩ co (m' : Int)) (by omega)
                    have hBF := below_w5 hB9 (Nat.le_refl _) K (.slice g.A g.xs.length g.c) ⟨#[76]⟩ co (m' : Int)
                    go_wp2_with fail
                    have hF := (hn9).setAll K (.slice g.A g.xs.length g.c) ⟨#[76]⟩ co (m' : Int)
                    change bodyPost _ _ _ _ _ (W5 w8 w.heap.size K (.slice g.A g.xs.length g.c) ⟨#[76]⟩ co (m' : Int))
                    generalize W5 w8 w.heap.size K (.slice g.A g.xs.length g.c) ⟨#[76]⟩ co (m' : Int) = wf at hF hBF hOF ⊢
                    obtain ⟨f0, f1, f2, f3, f4, _⟩ := hF.facts
                    exact bodyPost_ret (v := .tuple #[.agg #[.int .i64 K, .slice g.A g.xs.length g.c, .string ⟨#[76]⟩, .string co, .int .i64 (m' : Int)], .int .i64 0]) (by simp [results, Try.results6, go_sem, f0, f1, f2, f3, f4]) rfl (recPost_of (x := ⟨K, g.xs, ⟨#[76]⟩, co, (m' : Int)⟩) HRr.out hOF hBF)
            · have hP0 : (if K = 1 ∨ ((K = 6 ∨ K = 7) ∧ ([] : List Int) = []) then 0 else (m' : Int)) = 0 := if_pos (by
                rcases of_decide_eq_true hS with h | h
                · exact .inl h
                · exact .inr ⟨h, rfl⟩)
              have hbw4 := hbx
              clear hbx
              have HS := Lib.hid hS; clear hS
              have hcand : cand co (m' : Int) K [] eB = ⟨K, [], ⟨#[]⟩, co, 0⟩ := candE hP0
              obtain ⟨lst, hcs2⟩ : ∃ l, candS co (m' : Int) F K = ⟨K, [], ⟨#[]⟩, co, 0⟩ :: l := ⟨_, by rw [candS, if_neg h8, hcand]⟩
              have Hcs := Lib.hid hcs2; clear hcs2
              have Hcand := Lib.hid hcand; clear hcand
              clear hP0
              go_wp2_with fail
              refine (HFt.out b9 none 0 0 ⟨K, [], ⟨#[]⟩, co, 0⟩ _ hbw4 (hr9.chP (HSn.out _) (by omega) hle0 hcs)).mono ?_
              rintro e w5 ⟨rfl, hb5⟩
              have hbw5 := hbw4.trans (hb5.mono hbw4.size)
              have hr5 := hr9.next hb5
              clear hr9 hbw4 hb5
              cases hft : fitC L ⟨K, [], ⟨#[]⟩, co, 0⟩
              rotate_left
              · have hrr : r = (0, ⟨K, [], ⟨#[]⟩, co, 0⟩) := by rw [← HRe2.out, recPre_hit (k := k + 1) (by omega) (pre_one Hp.out (by rw [HKe.out]; exact Hcs.out) hft)]; rfl
                have HRr := Lib.hid hrr; clear hrr
                have Hft := Lib.hid hft; clear hft
                have hn9 := (hnL.next hbw5)
                have hr9' := hr5
                have hB9 := (hbL.trans (hbw5.mono hbL.size))
                obtain ⟨g0, g1, g2, g3, g4, g5⟩ := hn9.facts
                obtain ⟨a0, a1, a2, a3, a4, a5⟩ := hr9'.facts
                have hOF : (W5 w5 w.heap.size K (.slice none 0 0) ⟨#[]⟩ co 0).ownsRow w.heap.size 2 1 (.slice none 0 0) _ _ := own_base (own_w5 (b := w.heap.size) (World.ownsRow_nil w5 (w.heap.size + 1) 2 1) (by omega) K (.slice none 0 0) ⟨#[]⟩ co 0) (by omega)
                have hBF := below_w5 hB9 (Nat.le_refl _) K (.slice none 0 0) ⟨#[]⟩ co 0
                go_wp2_with fail
                have hF := (hn9).setAll K (.slice none 0 0) ⟨#[]⟩ co 0
                change bodyPost _ _ _ _ _ (W5 w5 w.heap.size K (.slice none 0 0) ⟨#[]⟩ co 0)
                generalize W5 w5 w.heap.size K (.slice none 0 0) ⟨#[]⟩ co 0 = wf at hF hBF hOF ⊢
                obtain ⟨f0, f1, f2, f3, f4, _⟩ := hF.facts
                exact bodyPost_ret (v := .tuple #[.agg #[.int .i64 K, .slice none 0 0, .string ⟨#[]⟩, .string co, .int .i64 0], .int .i64 0]) (by simp [results, Try.results6, go_sem, f0, f1, f2, f3, f4]) rfl (recPost_of (x := ⟨K, [], ⟨#[]⟩, co, 0⟩) HRr.out hOF hBF)
              have Hft := Lib.hid hft; clear hft
              by_cases h13 : K = 1 ∨ K = 3
              · have e13 : (K == 1 || K == 3) = true := by simpa using h13
                have Hp2 : Hid (recPre (candS co m' F) (fitC L) (k + 1) = none) := Lib.hid (by
                  rw [HPn.out, candS, if_neg h8, if_pos h13, Hcand.out, List.find?_cons, Hft.out]; rfl)
                rcases h13 with h1 | h1
                · have e1 : (K == 1) = true := by simpa using h1
                  have H1 := Lib.hid h1; clear h1
                  go_wp2_with fail
                  go_roundw
                  case rel => exact ⟨k + 1, by omega, by rw [← HKe.out]; go_num, Hp2, hbw5⟩
                  case measure => have := HKe.out; simp [intOf] <;> omega
                · have e1 : (K == 1) = false := by simpa using (by omega : ¬ K = 1)
                  have e3 : (K == 3) = true := by simpa using h1
                  have H1 := Lib.hid h1; clear h1
                  go_wp2_with fail
                  go_roundw
                  case rel => exact ⟨k + 1, by omega, by rw [← HKe.out]; go_num, Hp2, hbw5⟩
                  case measure => have := HKe.out; simp [intOf] <;> omega
              have e1 : (K == 1) = false := by simpa using (by omega : ¬ K = 1)
              have e3 : (K == 3) = false := by simpa using (by omega : ¬ K = 3)
              have hK9 : K ≠ 1 := by omega
              have hlist : (candS co (m' : Int) F K).find? (fitC L) = (((groupsS F).map fun g => cand co m' K g eB) ++ [cand co m' K [6] lB]).find? (fitC L) := by
                rw [candS, if_neg h8, if_neg h13, Hcand.out, List.find?_cons, Hft.out]
              have hcg : ∀ g l, g ≠ [] → cand co (m' : Int) K g l = ⟨K, g, l, co, m'⟩ := fun g l hg => candE (if_neg (by rintro (h | ⟨_, h⟩); exact hK9 h; exact hg h))
              have HList := Lib.hid hlist; clear hlist
              have Hcg := Lib.hid hcg; clear hcg
              have H13 := Lib.hid h13; clear h13
              clear hK9
              go_wp2_with fail
              refine (HDk.out _ hbw5).mono ?_
              rintro e w6 ⟨rfl, rfl⟩
              go_wp2_with fail
              refine (HGr.out _).mono ?_
              rintro e w7 ⟨A5, c5, rs, rfl, hR, hRm, hb7⟩
              have hb59 : b9 < w5.heap.size := hr5.lt
              have hr7 := hr5.next hb7
              have hbw7 := hbw5.trans (hb7.mono hbw5.size)
              clear hb7 hr5
              have hRn : rs.length ≤ 7380 := by rw [← List.length_map (f := RowG.xs), hRm]; exact groups_cnt
              have HRm := Lib.hid hRm; clear hRm
              go_wp2_with fail
              obtain ⟨Bg, hBg⟩ : ∃ b, w5.heap.size = b := ⟨_, rfl⟩
              rw [hBg] at hR hb59
              have hBgL : w.heap.size + 1 ≤ Bg := by have := hbw5.size; omega
              clear hBg hbw5
              go_loopw [12] (fun i wr => ∃ (j : Nat) (v : Value) (p : Int), j ≤ rs.length ∧ i = .int .i64 j ∧ rowC wr b9 K v ⟨#[]⟩ co p ∧ RowsOwn wr Bg (.slice A5 rs.length c5) rs.length rs ∧ Hid ((((groupsS F).map fun g => cand co m' K g eB).take j).find? (fitC L) = none) ∧ Below wL.heap.size wL wr) (fun i _ => rs.length - (intOf i).toNat)
              case atStart => exact ⟨0, _, _, Nat.zero_le _, rfl, hr7, hR, Lib.hid rfl, hbw7⟩
              case round =>
                clear hr7 hR hbw7
                obtain ⟨j, v, p, hj, rfl, hr9, hR, Hl, hbw⟩ := hrel
                by_cases hlj : j < rs.length
                · have hRlen : ∀ g ∈ rs, g.xs.length ≤ 1048576 := fun g hg => by
                    have : g.xs ∈ groupsS F := by rw [← HRm.out]; exact List.mem_map_of_mem hg
                    have := groups_len _ this
                    omega
                  obtain ⟨bg, og, g, rfl, hbg, hgx, sg, mg, cg⟩ := (hR.rs hRlen).get j hlj
                  have hgo := hR.inn g (List.mem_of_getElem? hgx)
                  have hgi : (groupsS F)[j]? = some g.xs := by rw [← HRm.out, List.getElem?_map, hgx]; rfl
                  have hgn : g.xs ≠ [] := groups_ne _ (List.mem_of_getElem? hgi)
                  have hxj : (((groupsS F).map fun g => cand co (m' : Int) K g eB))[j]? = some ⟨K, g.xs, ⟨#[]⟩, co, m'⟩ := by rw [List.getElem?_map, hgi, Option.map_some, Hcg.out _ _ hgn]
                  have i0 : (0 : Int) ≤ (j : Int) := by omega
                  have i1 : (j : Int) < (rs.length : Int) := by omega
                  obtain ⟨a0, a1, a2, a3, a4, a5⟩ := hr9.facts
                  have hr8 := (hr9.set1 (.slice g.A g.xs.length g.c)).set4 (m' : Int)
                  have hbw4 : Below wL.heap.size wL (wr.setCell ⟨b9, 1, none⟩ (.slice g.A g.xs.length g.c)) := hbw.setCell hb9L _
                  have hbw5 : Below wL.heap.size wL ((wr.setCell ⟨b9, 1, none⟩ (.slice g.A g.xs.length g.c)).setCell ⟨b9, 4, none⟩ (.int .i64 (m' : Int))) := hbw4.setCell hb9L _
                  have hR8 := (hR.setB hb59 (a := ⟨b9, 1, none⟩) rfl (.slice g.A g.xs.length g.c)).setB hb59 (a := ⟨b9, 4, none⟩) rfl (.int .i64 (m' : Int))
                  have hgo8 := hR8.inn g (List.mem_of_getElem? hgx)
                  have sg8 := Sl.of_own hgo8
                  have Hgx := Lib.hid hgx; clear hgx
                  have Hgi := Lib.hid hgi; clear hgi
                  have Hxj := Lib.hid hxj; clear hxj
                  have Hgn := Lib.hid hgn; clear hgn
                  go_wp2_with fail
                  refine (HFt.out b9 g.A g.xs.length g.c ⟨K, g.xs, ⟨#[]⟩, co, m'⟩ _ hbw5 (hr8.chP sg8 mg hle0 hcs)).mono ?_
                  rintro e w6 ⟨rfl, hb6⟩
                  have hbw6 := hbw5.trans (hb6.mono hbw5.size)
                  have hr6 := hr8.next hb6
                  have hR6 := hR8.next hb6
                  clear hr8 hbw5 hbw4 a0 a1 a2 a3 a4 a5 hr9 hR8 hgo8 sg8 hR hgo sg
                  cases hft2 : fitC L ⟨K, g.xs, ⟨#[]⟩, co, m'⟩
                  · have Hl2 := Lib.hid (find_takeN Hl.out Hxj.out hft2)
                    have Hft2 := Lib.hid hft2; clear hft2
                    go_wp2_with fail
                    go_roundw
                    case rel => exact ⟨j + 1, _, _, by omega, by go_num, hr6, hR6, Hl2, hbw6⟩
                    case measure => simp [intOf] <;> omega
                  · have hrr : r = (0, ⟨K, g.xs, ⟨#[]⟩, co, m'⟩) := by
                      rw [← HRe2.out, recPre_hit (k := k + 1) (by omega) (HPn.out.trans (HList.out.trans (by rw [List.find?_append, find_take Hl.out Hxj.out hft2]; rfl)))]; rfl
                    have hgo6 := hR6.inn g (List.mem_of_getElem? Hgx.out)
                    have HRr := Lib.hid hrr; clear hrr
                    have Hft2 := Lib.hid hft2; clear hft2
                    have hn9 := (hnL.next hbw6)
                    have hr9' := hr6
                    have hB9 := (hbL.trans (hbw6.mono hbL.size))
                    obtain ⟨g0, g1, g2, g3, g4, g5⟩ := hn9.facts
                    obtain ⟨a0, a1, a2, a3, a4, a5⟩ := hr9'.facts
                    have hOF : (W5 w6 w.heap.size K (.slice g.A g.xs.length g.c) ⟨#[]⟩ co (m' : Int)).ownsRow w.heap.size 2 1 (.slice g.A g.xs.length g.c) _ _ := own_base (own_w5 (b := w.heap.size) hgo6 (by omega) K (.slice g.A g.xs.length g.c) ⟨#[]⟩ co (m' : Int)) (by omega)
                    have hBF := below_w5 hB9 (Nat.le_refl _) K (.slice g.A g.xs.length g.c) ⟨#[]⟩ co (m' : Int)
                    go_wp2_with fail
                    have hF := (hn9).setAll K (.slice g.A g.xs.length g.c) ⟨#[]⟩ co (m' : Int)
                    change bodyPost _ _ _ _ _ (W5 w6 w.heap.size K (.slice g.A g.xs.length g.c) ⟨#[]⟩ co (m' : Int))
                    generalize W5 w6 w.heap.size K (.slice g.A g.xs.length g.c) ⟨#[]⟩ co (m' : Int) = wf at hF hBF hOF ⊢
                    obtain ⟨f0, f1, f2, f3, f4, _⟩ := hF.facts
                    exact bodyPost_ret (v := .tuple #[.agg #[.int .i64 K, .slice g.A g.xs.length g.c, .string ⟨#[]⟩, .string co, .int .i64 (m' : Int)], .int .i64 0]) (by simp [results, Try.results6, go_sem, f0, f1, f2, f3, f4]) rfl (recPost_of (x := ⟨K, g.xs, ⟨#[]⟩, co, (m' : Int)⟩) HRr.out hOF hBF)
                · obtain rfl : j = rs.length := by omega
                  have i1 : ¬ (rs.length : Int) < (rs.length : Int) := by omega
                  have hl9 : ((groupsS F).map fun g => cand co (m' : Int) K g eB).find? (fitC L) = none := by
                    have h9 := Hl.out
                    rwa [List.take_of_length_le (by rw [List.length_map, ← HRm.out, List.length_map]; exact Nat.le_refl _)] at h9
                  have Hl9 := Lib.hid hl9; clear hl9
                  clear hR
                  go_wp2_with fail
                  refine (HG6.out _).mono ?_
                  rintro e w6 ⟨A6, c6, rs6, rfl, hR, hRm6, hb6⟩
                  have hr6 := hr9.next hb6
                  have hbw6 := hbw.trans (hb6.mono hbw.size)
                  have hl6 : 0 < rs6.length := by
                    have h9 := congrArg List.length hRm6
                    have h8 := (List.getElem?_eq_some_iff.1 groups6).1
                    rw [List.length_map] at h9
                    omega
                  have hRlen : ∀ g ∈ rs6, g.xs.length ≤ 1048576 := fun g hg => by
                    have : g.xs ∈ groupsS 6 := by rw [← hRm6]; exact List.mem_map_of_mem hg
                    have := groups_len _ this
                    omega
                  obtain ⟨bg, og, g, rfl, hbg, hgx, sg, mg, cg⟩ := (hR.rs hRlen).get 0 hl6
                  simp only [Nat.add_zero] at cg
                  have hg6 : g.xs = [6] := by
                    have h9 := groups6
                    rw [← hRm6, List.getElem?_map, hgx] at h9
                    injection h9
                  have hb96 : b9 < wr.heap.size := hr9.lt
                  obtain ⟨a0, a1, a2, a3, a4, a5⟩ := hr6.facts
                  have hr8 := ((hr6.set1 (.slice g.A g.xs.length g.c)).set2 ⟨#[76]⟩).set4 (m' : Int)
                  have hbw3 : Below wL.heap.size wL (w6.setCell ⟨b9, 1, none⟩ (.slice g.A g.xs.length g.c)) := hbw6.setCell hb9L _
                  have hbw4 : Below wL.heap.size wL ((w6.setCell ⟨b9, 1, none⟩ (.slice g.A g.xs.length g.c)).setCell ⟨b9, 2, none⟩ (.string ⟨#[76]⟩)) := hbw3.setCell hb9L _
                  have hbw5 : Below wL.heap.size wL (((w6.setCell ⟨b9, 1, none⟩ (.slice g.A g.xs.length g.c)).setCell ⟨b9, 2, none⟩ (.string ⟨#[76]⟩)).setCell ⟨b9, 4, none⟩ (.int .i64 (m' : Int))) := hbw4.setCell hb9L _
                  have hR8 := ((hR.setB hb96 (a := ⟨b9, 1, none⟩) rfl (.slice g.A g.xs.length g.c)).setB hb96 (a := ⟨b9, 2, none⟩) rfl (.string ⟨#[76]⟩)).setB hb96 (a := ⟨b9, 4, none⟩) rfl (.int .i64 (m' : Int))
                  have hgo8 := hR8.inn g (List.mem_of_getElem? hgx)
                  have sg8 := Sl.of_own hgo8
                  have n1 : (0 : Int) < (rs6.length : Int) := by omega
                  have hBr : w.heap.size + 1 ≤ wr.heap.size := by have := hbw.size; omega
                  have Hgx := Lib.hid hgx; clear hgx
                  have Hg6 := Lib.hid hg6; clear hg6
                  have HRm6 := Lib.hid hRm6; clear hRm6
                  go_wp2_with fail
                  refine (HFt.out b9 g.A g.xs.length g.c ⟨K, g.xs, ⟨#[76]⟩, co, m'⟩ _ hbw5 (hr8.chP sg8 mg hle1 hcs)).mono ?_
                  rintro e w8 ⟨rfl, hb8⟩
                  have hbw8 := hbw5.trans (hb8.mono hbw5.size)
                  have hr9 := hr8.next hb8
                  have hgo9 := own_next hgo8 hb8
                  clear hr8 hbw3 hbw5 hbw4 a0 a1 a2 a3 a4 a5 hr6 hR8 hgo8 sg8 hR sg
                  cases hft2 : fitC L ⟨K, g.xs, ⟨#[76]⟩, co, m'⟩
                  · have Hp2 : Hid (recPre (candS co m' F) (fitC L) (k + 1) = none) := Lib.hid (by
                      rw [HPn.out, HList.out, List.find?_append, Hl9.out, List.find?_cons, Hcg.out _ _ (by simp), ← Hg6.out, hft2]; rfl)
                    have Hft2 := Lib.hid hft2; clear hft2
                    go_wp2_with fail
                    go_roundw
                    case rel => exact ⟨k + 1, by omega, by rw [← HKe.out]; go_num, Hp2, hbw8⟩
                    case measure => have := HKe.out; simp [intOf] <;> omega
                  · have hrr : r = (0, ⟨K, g.xs, ⟨#[76]⟩, co, m'⟩) := by
                      rw [← HRe2.out, recPre_hit (k := k + 1) (by omega) (HPn.out.trans (HList.out.trans (by rw [List.find?_append, Hl9.out, List.find?_cons, Hcg.out _ _ (by simp), ← Hg6.out, hft2]; rfl)))]; rfl
                    have HRr := Lib.hid hrr; clear hrr
                    have Hft2 := Lib.hid hft2; clear hft2
                    have hn9 := (hnL.next hbw8)
                    have hr9' := hr9
                    have hB9 := (hbL.trans (hbw8.mono hbL.size))
                    obtain ⟨g0, g1, g2, g3, g4, g5⟩ := hn9.facts
                    obtain ⟨a0, a1, a2, a3, a4, a5⟩ := hr9'.facts
                    have hOF : (W5 w8 w.heap.size K (.slice g.A g.xs.length g.c) ⟨#[76]⟩ co (m' : Int)).ownsRow w.heap.size 2 1 (.slice g.A g.xs.length g.c) _ _ := own_base (own_w5 (b := w.heap.size) hgo9 (by omega) K (.slice g.A g.xs.length g.c) ⟨#[76]⟩ co (m' : Int)) (by omega)
                    have hBF := below_w5 hB9 (Nat.le_refl _) K (.slice g.A g.xs.length g.c) ⟨#[76]⟩ co (m' : Int)
                    go_wp2_with fail
                    have hF := (hn9).setAll K (.slice g.A g.xs.length g.c) ⟨#[76]⟩ co (m' : Int)
                    change bodyPost _ _ _ _ _ (W5 w8 w.heap.size K (.slice g.A g.xs.length g.c) ⟨#[76]⟩ co (m' : Int))
                    generalize W5 w8 w.heap.size K (.slice g.A g.xs.length g.c) ⟨#[76]⟩ co (m' : Int) = wf at hF hBF hOF ⊢
                    obtain ⟨f0, f1, f2, f3, f4, _⟩ := hF.facts
                    exact bodyPost_ret (v := .tuple #[.agg #[.int .i64 K, .slice g.A g.xs.length g.c, .string ⟨#[76]⟩, .string co, .int .i64 (m' : Int)], .int .i64 0]) (by simp [results, Try.results6, go_sem, f0, f1, f2, f3, f4]) rfl (recPost_of (x := ⟨K, g.xs, ⟨#[76]⟩, co, (m' : Int)⟩) HRr.out hOF hBF)
        · obtain rfl : k = 8 := by omega
          have hnX := hnL.next hbw
          have hbX := hbL.trans (hbw.mono hbL.size)
          obtain ⟨g0, g1, g2, g3, g4, g5⟩ := hnX.facts
          have i9 : ¬ ((8 : Nat) : Int) + 1 ≤ 8 := by omega
          have hrr : r = (3, zeroCh) := by rw [← HRe2.out, recPre_none Hp.out]; rfl
          have HRr := Lib.hid hrr; clear hrr
          go_wp2_with fail
          have hBF := below_w5 (hbX) (Nat.le_refl _) 0 (.slice none 0 0) ⟨#[]⟩ ⟨#[]⟩ 0
          have hOF : (W5 wr w.heap.size 0 (.slice none 0 0) ⟨#[]⟩ ⟨#[]⟩ 0).ownsRow w.heap.size 2 1 (.slice none 0 0) 0 [] := World.ownsRow_nil _ _ _ _
          have hF := (hnX).setAll 0 (.slice none 0 0) ⟨#[]⟩ ⟨#[]⟩ 0
          change bodyPost _ _ _ _ _ (W5 wr w.heap.size 0 (.slice none 0 0) ⟨#[]⟩ ⟨#[]⟩ 0)
          generalize W5 wr w.heap.size 0 (.slice none 0 0) ⟨#[]⟩ ⟨#[]⟩ 0 = wf at hF hBF hOF ⊢
          obtain ⟨f0, f1, f2, f3, f4, _⟩ := hF.facts
          exact bodyPost_ret (v := .tuple #[.agg #[.int .i64 0, .slice none 0 0, .string ⟨#[]⟩, .string ⟨#[]⟩, .int .i64 0], .int .i64 3]) (by simp [results, Try.results6, go_sem, f0, f1, f2, f3, f4]) rfl (recPost_of (x := ⟨0, [], ⟨#[]⟩, ⟨#[]⟩, 0⟩) HRr.out hOF hBF)
end Go.Proofs.Ytgibbhipjpbdfaa

/- Recognition: the program. -/
namespace Go.Proofs.Ytgibbhipjpbdfaa
open Go.RowKit
theorem setP_cand (co : ByteArray) (m k : Int) (g : List Int) (l : ByteArray) : setP ⟨k, g, l, co, 0⟩ m = cand co m k g l := by
  have h1 := cand_steady co m k g l
  have h2 : steadyB (⟨k, g, l, co, 0⟩ : Ch) = steadyB (cand co m k g l) := rfl
  rw [setP, h2, h1, cand]
  congr 1
  by_cases h : k = 1 ∨ ((k = 6 ∨ k = 7) ∧ g = [])
  · rw [if_pos h, decide_eq_true h, if_pos rfl]
  · rw [if_neg h, decide_eq_false h, if_neg (by simp)]
theorem candI_rhy (co : ByteArray) (m K : Int) : candI co m K = (rhyI K).map fun r => setP ⟨r.k, r.gs, r.l, co, r.p⟩ m := by
  by_cases h8 : K = 8
  · subst h8
    rw [candI, if_pos rfl, rhyI, if_pos rfl, List.map_map, lettersC]
    exact List.map_congr_left fun i _ => (setP_cand co m 8 [] (ltrB i)).symm
  · rw [candI, if_neg h8, rhyI, if_neg h8, List.map_flatMap]
    congr 1
    funext e
    rw [List.map_flatMap]
    congr 1
    funext g
    rw [candG, rhyG, List.map_map]
    exact List.map_congr_left fun l _ => (setP_cand co m K g l).symm
theorem rhy_p0 {K : Int} {r : Ch} (h : r ∈ rhyI K) : r.l.size ≤ 1048576 ∧ r.gs.length ≤ 1048576 ∧ r.cs = ⟨#[]⟩ := by
  by_cases h8 : K = 8
  · rw [rhyI, if_pos h8, List.mem_map] at h
    obtain ⟨i, _, rfl⟩ := h
    exact ⟨by show 1 ≤ 1048576; omega, by show 0 ≤ 1048576; omega, rfl⟩
  · rw [rhyI, if_neg h8, List.mem_flatMap] at h
    obtain ⟨e, he, h⟩ := h
    rw [List.mem_flatMap] at h
    obtain ⟨g, hg, h⟩ := h
    rw [rhyG, List.mem_map] at h
    obtain ⟨l, hl, rfl⟩ := h
    have he := List.mem_range.1 he
    have hgl := (grp_sum hg).1
    have hl := (List.mem_filter.1 hl).1
    refine ⟨?_, by show g.length ≤ 1048576; omega, rfl⟩
    simp only [List.mem_cons, List.not_mem_nil, or_false] at hl
    rcases hl with rfl | rfl
    · show 0 ≤ 1048576; omega
    · show 1 ≤ 1048576; omega
theorem hue_col {ps : List Ph} (hv : vPh ps = true) (h : hueOk (ps.map fun p => code p.c) = true) : colB (nameC (hueO (ps.map fun p => code p.c))) = true := by
  have h0 := (hueOk_iff.1 h).1
  have hm := hueO_mem h0
  obtain ⟨p, hp, e⟩ := List.mem_map.1 hm
  have ho := (phs_one hv).2.2.1 p hp
  rw [← e, name_code ho]
  rw [vPh, Bool.and_eq_true, List.all_eq_true] at hv
  have := hv.1 p hp
  rw [okPh, Bool.and_eq_true, Bool.or_eq_true] at this
  rcases this.2 with h2 | h2
  · exfalso
    apply h0
    rw [← e, code, if_pos ((toList_nil _).1 (List.isEmpty_iff.1 h2))]
  · exact h2
theorem hue_same {ps : List Ph} (hv : vPh ps = true) : hueOk (ps.map fun p => code p.c) = hueOk (onceB (tenC ps)) ∧ (hueOk (ps.map fun p => code p.c) = true → hueO (ps.map fun p => code p.c) = hueO (onceB (tenC ps))) := by
  obtain ⟨_, h2, _, h4, _⟩ := phs_one hv
  exact hueOk_mem fun x => (mem_ten (fun p hp => (h2 p hp).1) x).trans (mem_once h4 x)
theorem rhythms_c (K : Int) (w : World) :
    Calls Try.prog 35 #[.int .i64 K] w fun e w' => ∃ A c zs, e = .returned (.slice A zs.length c) ∧ ChOwn w' w.heap.size (.slice A zs.length c) zs.length zs ∧ zs.map ChG.x = rhyI K ∧ Below w.heap.size w w' := by
  by_cases h : K = 8
  · subst h; exact rhythms8_c w
  · exact rhythms7_c K h w
set_option maxRecDepth 100000 in
set_option maxHeartbeats 4000000 in
theorem recImpl_c (A : Option Addr) (n c : Nat) (ps : List Ph) (w : World) (h : Sl w w.heap.size 2 A n (ps.flatMap Ph.cells)) (hm : n ≤ 1048576) (hz : ∀ p ∈ ps, p.c.size ≤ maxLen) :
    Calls Try.prog 8 #[.slice A n c] w (RecPost w (recO ps)) := by
  have hK : ∀ w1, Below w.heap.size w w1 → Calls Try.prog 32 #[.slice A n c] w1 fun e w' => e = .returned (.bool (vPh ps)) ∧ Below w1.heap.size w1 w' := fun w1 hb => validPhases_c A n c ps w1 (h.next hb) hm hz
  have hn0 := rowC.new w 0 (.slice none 0 0) ⟨#[]⟩ ⟨#[]⟩ 0
  have hb0 : Below w.heap.size w (w.alloc (.cells #[.int .i64 0, .slice none 0 0, .string ⟨#[]⟩, .string ⟨#[]⟩, .int .i64 0] 26)) := by (repeat (first | (with_reducible assumption) | (with_reducible exact Below.refl _ _) | exact Nat.le_refl _ | exact Below.size (by with_reducible assumption) | (with_reducible refine Below.drew ?_) | (with_reducible refine below_drewN ?_ _) | (with_reducible refine Below.alloc ?_ ?_ _) | (with_reducible refine Below.setCell ?_ ?_ _) | (with_reducible refine le_alloc ?_ _) | (with_reducible refine le_set ?_ _ _) | (with_reducible refine le_drew ?_) | (with_reducible refine le_drewN ?_ _) | omega | (dsimp only; omega)))
  cases hv : vPh ps
  · have hrr : recO ps = (1, zeroCh) := by rw [recO, hv]; rfl
    obtain ⟨r, hre⟩ : ∃ r, recO ps = r := ⟨_, rfl⟩
    rw [hre] at hrr ⊢
    have HRr := Lib.hid hrr; clear hrr
    rw [hv] at hK
    have HK := Lib.hid hK; clear hK
    clear hre hv
    go_enter Try.func8, Try.ntmps8
    go_wp2_with fail
    generalize w.alloc (.cells #[.int .i64 0, .slice none 0 0, .string ⟨#[]⟩, .string ⟨#[]⟩, .int .i64 0] 26) = w0 at *
    refine (HK.out _ hb0).mono ?_
    rintro e w1 ⟨rfl, hb1⟩
    have hn1 := hn0.next hb1
    have hb2 := hb0.trans (hb1.mono hb0.size)
    obtain ⟨g0, g1, g2, g3, g4, g5⟩ := hn1.facts
    go_wp2_with fail
    have hBF := below_w5 (hb2) (Nat.le_refl _) 0 (.slice none 0 0) ⟨#[]⟩ ⟨#[]⟩ 0
    have hOF : (W5 w1 w.heap.size 0 (.slice none 0 0) ⟨#[]⟩ ⟨#[]⟩ 0).ownsRow w.heap.size 2 1 (.slice none 0 0) 0 [] := World.ownsRow_nil _ _ _ _
    have hF := (hn1).setAll 0 (.slice none 0 0) ⟨#[]⟩ ⟨#[]⟩ 0
    change bodyPost _ _ _ _ _ (W5 w1 w.heap.size 0 (.slice none 0 0) ⟨#[]⟩ ⟨#[]⟩ 0)
    generalize W5 w1 w.heap.size 0 (.slice none 0 0) ⟨#[]⟩ ⟨#[]⟩ 0 = wf at hF hBF hOF ⊢
    obtain ⟨f0, f1, f2, f3, f4, _⟩ := hF.facts
    exact bodyPost_ret (v := .tuple #[.agg #[.int .i64 0, .slice none 0 0, .string ⟨#[]⟩, .string ⟨#[]⟩, .int .i64 0], .int .i64 1]) (by simp [results, Try.results8, go_sem, f0, f1, f2, f3, f4]) rfl (recPost_of (x := ⟨0, [], ⟨#[]⟩, ⟨#[]⟩, 0⟩) HRr.out hOF hBF)
  obtain ⟨hv1, hv2, hv3, hv4, hv5⟩ := phs_one hv
  have hl := h.len Ph.cells 2 Ph.cells_len (by omega)
  have hOn : ∀ w1, Below w.heap.size w w1 → Calls Try.prog 34 #[.slice A n c] w1 fun e w' => ∃ A' m c', e = .returned (.slice A' m c') ∧ m = (onceB (tenC ps)).length ∧ Sl w' w'.heap.size 1 A' m ((onceB (tenC ps)).flatMap nC) ∧ Below w1.heap.size w1 w' := fun w1 hb => by
    refine (onePeriod_c A n c ps w1 (h.next hb) (by omega) (fun p hp => by have := hv2 p hp; omega) hv3 hv4).mono ?_
    rintro e w' ⟨A', m, c', rfl, hm, _, hs, hb⟩
    exact ⟨A', m, c', rfl, hm, hs, hb⟩
  have hCo : ∀ w1, Below w.heap.size w w1 → Calls Try.prog 33 #[.slice A n c] w1 fun e w' => (∃ s, e = .returned (.tuple #[.string s, .bool (hueOk (ps.map fun p => code p.c))]) ∧ (hueOk (ps.map fun p => code p.c) = true → s = nameC (hueO (ps.map fun p => code p.c)))) ∧ Below w1.heap.size w1 w' := fun w1 hb => onlyColor_c A n c ps w1 (h.next hb) hm hv3
  obtain ⟨hs1, hs2⟩ := hue_same hv
  have hcl := hue_col hv
  have hr : recO ps = bif hueOk (ps.map fun p => code p.c) then recA (recI (nameC (hueO (onceB (tenC ps)))) (onceB (tenC ps)).length (onceB (tenC ps))) else (6, zeroCh) := by rw [recO, hv, hs1]; rfl
  have hol := once_len hv4
  obtain ⟨r, hre⟩ : ∃ r, recO ps = r := ⟨_, rfl⟩
  rw [hre] at hr ⊢
  rw [hv] at hK
  cases hok : hueOk (ps.map fun p => code p.c)
  · rw [hok] at hr hCo
    have hrr : r = (6, zeroCh) := hr
    have HRr := Lib.hid hrr; clear hrr
    have HK := Lib.hid hK; clear hK
    have HCo := Lib.hid hCo; clear hCo
    clear hr hre hv hok hs1 hs2 hcl hOn hol hv1 hv2 hv3 hv4 hv5 hl
    go_enter Try.func8, Try.ntmps8
    go_wp2_with fail
    generalize w.alloc (.cells #[.int .i64 0, .slice none 0 0, .string ⟨#[]⟩, .string ⟨#[]⟩, .int .i64 0] 26) = w0 at *
    refine (HK.out _ hb0).mono ?_
    rintro e w1 ⟨rfl, hb1⟩
    have hb2 := hb0.trans (hb1.mono hb0.size)
    go_wp2_with fail
    refine (HCo.out _ hb2).mono ?_
    rintro e w2 ⟨⟨s, rfl, _⟩, hb3⟩
    have hn1 := (hn0.next hb1).next hb3
    have hb4 := hb2.trans (hb3.mono hb2.size)
    obtain ⟨g0, g1, g2, g3, g4, g5⟩ := hn1.facts
    go_wp2_with fail
    have hBF := below_w5 (hb4) (Nat.le_refl _) 0 (.slice none 0 0) ⟨#[]⟩ ⟨#[]⟩ 0
    have hOF : (W5 w2 w.heap.size 0 (.slice none 0 0) ⟨#[]⟩ ⟨#[]⟩ 0).ownsRow w.heap.size 2 1 (.slice none 0 0) 0 [] := World.ownsRow_nil _ _ _ _
    have hF := (hn1).setAll 0 (.slice none 0 0) ⟨#[]⟩ ⟨#[]⟩ 0
    change bodyPost _ _ _ _ _ (W5 w2 w.heap.size 0 (.slice none 0 0) ⟨#[]⟩ ⟨#[]⟩ 0)
    generalize W5 w2 w.heap.size 0 (.slice none 0 0) ⟨#[]⟩ ⟨#[]⟩ 0 = wf at hF hBF hOF ⊢
    obtain ⟨f0, f1, f2, f3, f4, _⟩ := hF.facts
    exact bodyPost_ret (v := .tuple #[.agg #[.int .i64 0, .slice none 0 0, .string ⟨#[]⟩, .string ⟨#[]⟩, .int .i64 0], .int .i64 6]) (by simp [results, Try.results8, go_sem, f0, f1, f2, f3, f4]) rfl (recPost_of (x := ⟨0, [], ⟨#[]⟩, ⟨#[]⟩, 0⟩) HRr.out hOF hBF)
  have hs2 := hs2 hok
  have hcl := hcl hok
  rw [hs2] at hcl hCo
  rw [hok] at hr hCo
  rw [cond_true] at hr
  have hMt : ∀ (A1 : Option Addr) (n1 c1 : Nat) (x : Ch) (AL : Option Addr) (m cL : Nat) w1, Below w.heap.size w w1 → Sl w1 w1.heap.size 1 A1 n1 (x.gs.flatMap intC) → n1 ≤ 1048576 → x.l.size ≤ 1048576 → x.cs.size ≤ 1048576 → Sl w1 w1.heap.size 1 AL m ((onceB (tenC ps)).flatMap nC) → colB x.cs = true → Calls Try.prog 36 #[chV x.k A1 n1 c1 x.l x.cs x.p, .slice A n c, .slice AL m cL] w1 fun e w' => e = .returned (.bool (fitC (onceB (tenC ps)) (setP x m))) ∧ Below w1.heap.size w1 w' := fun A1 n1 c1 x AL m cL w1 hb s1 a1 a2 a3 s2 a4 => matches_c A1 n1 c1 x A n c ps AL m cL w1 s1 a1 a2 a3 (h.next hb) hv s2 a4
  obtain ⟨L, hL⟩ : ∃ L, onceB (tenC ps) = L := ⟨_, rfl⟩
  rw [hL] at hOn hol hcl hCo hr hMt
  obtain ⟨co, hco⟩ : ∃ co, nameC (hueO L) = co := ⟨_, rfl⟩
  rw [hco] at hcl hCo hr
  obtain ⟨m, hLm⟩ : ∃ m, L.length = m := ⟨_, rfl⟩
  rw [hLm] at hOn hol hr
  have hcs : co.size ≤ 1048576 := by have := colB_size hcl; omega
  have hm6 : m ≤ 600 := by omega
  have hRh : ∀ (K : Int) w1, Calls Try.prog 35 #[.int .i64 K] w1 fun e w' => ∃ A c zs, e = .returned (.slice A zs.length c) ∧ ChOwn w' w1.heap.size (.slice A zs.length c) zs.length zs ∧ zs.map ChG.x = rhyI K ∧ Below w1.heap.size w1 w' := fun K w1 => rhythms_c K w1
  have hSt : ∀ (A1 : Option Addr) (n1 c1 : Nat) (x : Ch) w1, Sl w1 w1.heap.size 1 A1 n1 (x.gs.flatMap intC) → n1 ≤ 1048576 → x.l.size ≤ 1048576 → x.cs.size ≤ 1048576 → Calls Try.prog 37 #[chV x.k A1 n1 c1 x.l x.cs x.p] w1 fun e w' => e = .returned (.bool (steadyB x)) ∧ Below w1.heap.size w1 w' := fun A1 n1 c1 x w1 s1 a1 a2 a3 => isSteady_c A1 n1 c1 x w1 s1 a1 a2 a3
  rw [recI] at hr
  have HK := Lib.hid hK; clear hK
  have HCo := Lib.hid hCo; clear hCo
  have HOn := Lib.hid hOn; clear hOn
  have HMt := Lib.hid hMt; clear hMt
  have HRh := Lib.hid hRh; clear hRh
  have HSt := Lib.hid hSt; clear hSt
  have HRe := Lib.hid hr; clear hr
  have HCl := Lib.hid hcl; clear hcl
  clear hre hv hok hs1 hs2 hol hv1 hv2 hv3 hv4 hv5 hl hL hco hLm
  go_enter Try.func8, Try.ntmps8
  go_wp2_with fail
  generalize w.alloc (.cells #[.int .i64 0, .slice none 0 0, .string ⟨#[]⟩, .string ⟨#[]⟩, .int .i64 0] 26) = w0 at *
  refine (HK.out _ hb0).mono ?_
  rintro e w1 ⟨rfl, hb1⟩
  have hb2 := hb0.trans (hb1.mono hb0.size)
  go_wp2_with fail
  refine (HCo.out _ hb2).mono ?_
  rintro e w2 ⟨⟨s, rfl, hse⟩, hb3⟩
  obtain rfl := hse (by trivial)
  have hn2 := (hn0.next hb1).next hb3
  have hb4 := hb2.trans (hb3.mono hb2.size)
  clear hse hb3 hb2 hb1 hb0 hn0
  go_wp2_with fail
  refine (HOn.out _ hb4).mono ?_
  rintro e wL ⟨A2, m', c2, rfl, rfl, sL, hb5⟩
  have hnL := hn2.next hb5
  have hbL := hb4.trans (hb5.mono hb4.size)
  have hb2L := hnL.lt
  clear hb4 hb5 hn2
  go_wp2_with fail
  go_loopw [7] (fun i wr => ∃ k : Nat, k ≤ 8 ∧ i = .int .i64 ((k : Int) + 1) ∧ Hid (recPre (candI s m') (fitC L) k = none) ∧ Below wL.heap.size wL wr) (fun i _ => 9 - (intOf i).toNat)
  case atStart => exact ⟨0, by omega, rfl, Lib.hid rfl, Below.refl _ _⟩
  case round =>
    obtain ⟨k, hk, rfl, Hp, hbw⟩ := hrel
    by_cases hlt : k < 8
    · obtain ⟨K, hKe⟩ : ∃ K : Int, (k : Int) + 1 = K := ⟨_, rfl⟩
      have hK1 : 1 ≤ K := by omega
      have hK8 : K ≤ 8 := by omega
      have hpn := recPre_next Hp.out
      rw [hKe] at hpn ⊢
      have hcr := candI_rhy s (m' : Int) K
      have HKe := Lib.hid hKe; clear hKe
      have HPn := Lib.hid hpn; clear hpn
      have HCr := Lib.hid hcr; clear hcr
      go_wp2_with fail
      refine (HRh.out _ _).mono ?_
      rintro e w3 ⟨Az, cz, zs, rfl, hC, hzm, hb3⟩
      have hbw3 := hbw.trans (hb3.mono hbw.size)
      have hzl : zs.length ≤ 100000 := by
        have h9 := congrArg List.length hzm
        rw [List.length_map] at h9
        by_cases h8 : K = 8
        · rw [rhyI, if_pos h8, List.length_map, List.length_range] at h9; omega
        · have := rhy_cnt K 5 (by omega)
          rw [rhyI, if_neg h8] at h9; omega
      have hzok : ∀ z ∈ zs, z.n ≤ 1048576 ∧ z.x.l.size ≤ 1048576 ∧ z.x.cs.size ≤ 1048576 := fun z hz => by
        have hzx : z.x ∈ rhyI K := by rw [← hzm]; exact List.mem_map_of_mem hz
        have h9 := rhy_p0 hzx
        exact ⟨h9.2.1, h9.1, by rw [h9.2.2]; show 0 ≤ 1048576; omega⟩
      obtain ⟨Bz, hBz⟩ : ∃ b, wr.heap.size = b := ⟨_, rfl⟩
      rw [hBz] at hC
      have hBzL : w.heap.size + 1 ≤ Bz := by rw [← hBz]; have := hbw.size; omega
      have HZm := Lib.hid hzm; clear hzm
      have HZok := Lib.hid hzok; clear hzok
      clear hBz hb3 hbw
      go_wp2_with fail
      go_loopw [31] (fun i wr => ∃ j : Nat, j ≤ zs.length ∧ i = .int .i64 j ∧ ChOwn wr Bz (.slice Az zs.length cz) zs.length zs ∧ Hid (((candI s m' K).take j).find? (fitC L) = none) ∧ Below wL.heap.size wL wr) (fun i _ => zs.length - (intOf i).toNat)
      case atStart => exact ⟨0, Nat.zero_le _, rfl, hC, Lib.hid rfl, hbw3⟩
      case round =>
        clear hC hbw3
        obtain ⟨j, hj, rfl, hC, Hl, hbw⟩ := hrel
        have j0 : (0 : Int) ≤ (j : Int) := by omega
        by_cases hlj : j < zs.length
        · have j1 : (j : Int) < (zs.length : Int) := by omega
          obtain ⟨bg, og, z, rfl, hbg, hzx, ⟨zs1, zn, zl, zc⟩, d0, d1, d2, d3, d4⟩ := (hC.sl HZok.out).get j hlj
          have hgz := hC.grp z (List.mem_of_getElem? hzx)
          have hxj : (candI s m' K)[j]? = some (setP ⟨z.x.k, z.x.gs, z.x.l, s, z.x.p⟩ m') := by
            rw [HCr.out, List.getElem?_map, ← HZm.out, List.getElem?_map, hzx]; rfl
          have hbX : Below wr.heap.size wr (wr.alloc (.cells #[.int .i64 z.x.k, .slice z.A z.n z.c, .string z.x.l, .string s, .int .i64 z.x.p] 26)) := (Below.refl _ _).alloc (Nat.le_refl _) _
          have hr9 := rowC.new wr z.x.k (.slice z.A z.n z.c) z.x.l s z.x.p
          have hbw1 := hbw.trans (hbX.mono hbw.size)
          have hbL1 := hbL.trans (hbw1.mono hbL.size)
          have sL1 := sL.next hbw1
          have sz1 := zs1.next hbX
          have hC1 := hC.next hbX
          obtain ⟨b9, hb9⟩ : ∃ b, wr.heap.size = b := ⟨_, rfl⟩
          have hb9L : wL.heap.size ≤ b9 := by rw [← hb9]; exact hbw.size
          have Hzx := Lib.hid hzx; clear hzx
          have Hxj := Lib.hid hxj; clear hxj
          have HGz := Lib.hid hgz; clear hgz
          go_wp2_with fail
          rw [hb9] at hr9
          try rw [hb9]
          have hb9r : wr.heap.size ≤ b9 := Nat.le_of_eq hb9
          have HB9 := Lib.hid hb9; clear hb9
          clear zs1
          generalize wr.alloc (.cells #[.int .i64 z.x.k, .slice z.A z.n z.c, .string z.x.l, .string s, .int .i64 z.x.p] 26) = w4 at *
          refine (HMt.out z.A z.n z.c ⟨z.x.k, z.x.gs, z.x.l, s, z.x.p⟩ A2 m' c2 _ hbL1 sz1 zn zl hcs sL1 HCl.out).mono ?_
          rintro e w5 ⟨rfl, hb5⟩
          have hr5 := hr9.next hb5
          have hC5 := hC1.next hb5
          have sz5 := sz1.next hb5
          have hbw5 := hbw1.trans (hb5.mono hbw1.size)
          have hbr5 := hbX.trans (hb5.mono hbX.size)
          clear hbX
          clear hr9 hC1 hC sz1 hbw1 hbL1 sL1 hb5 d0 d1 d2 d3 d4
          cases hft : fitC L (setP ⟨z.x.k, z.x.gs, z.x.l, s, z.x.p⟩ m')
          · have Hl2 := Lib.hid (find_takeN Hl.out Hxj.out hft)
            have Hft := Lib.hid hft; clear hft
            go_wp2_with fail
            go_roundw
            case rel => exact ⟨j + 1, by omega, by go_num, hC5, Hl2, hbw5⟩
            case measure => simp [intOf] <;> omega
          · have hrr : r = (0, setP ⟨z.x.k, z.x.gs, z.x.l, s, z.x.p⟩ m') := by rw [HRe.out, recPre_hit (k := k + 1) (by omega) (HPn.out.trans (find_take Hl.out Hxj.out hft))]; rfl
            have hsp : ∀ S, steadyB ⟨z.x.k, z.x.gs, z.x.l, s, z.x.p⟩ = S → r = (0, ⟨z.x.k, z.x.gs, z.x.l, s, bif S then z.x.p else (m' : Int)⟩) := fun S hS => by
              rw [hrr, setP, hS]
              cases S <;> rfl
            clear hrr
            have Hft := Lib.hid hft; clear hft
            obtain ⟨a0, a1, a2, a3, a4, a5⟩ := hr5.facts
            obtain ⟨S, hS⟩ : ∃ S, steadyB ⟨z.x.k, z.x.gs, z.x.l, s, z.x.p⟩ = S := ⟨_, rfl⟩
            have hrr := hsp S hS
            have hSc := HSt.out z.A z.n z.c ⟨z.x.k, z.x.gs, z.x.l, s, z.x.p⟩ w5 sz5 zn zl hcs
            rw [hS] at hSc
            have HSc := Lib.hid hSc; clear hSc
            clear hsp hS
            cases S
            · rw [cond_false] at hrr
              have HRr := Lib.hid hrr; clear hrr
              go_wp2_with fail
              refine HSc.out.mono ?_
              rintro e w6 ⟨rfl, hb6⟩
              have hr6 := hr5.next hb6
              have hC6 := hC5.next hb6
              have hbw6 := hbw5.trans (hb6.mono hbw5.size)
              clear a0 a1 a2 a3 a4 a5
              obtain ⟨a0, a1, a2, a3, a4, a5⟩ := hr6.facts
              have hbw7 : Below wL.heap.size wL (w6.setCell ⟨b9, 4, none⟩ (.int .i64 (m' : Int))) := hbw6.setCell hb9L _
              have hbr6 := hbr5.trans (hb6.mono hbr5.size)
              have hbr7 : Below wr.heap.size wr (w6.setCell ⟨b9, 4, none⟩ (.int .i64 (m' : Int))) := hbr6.setCell hb9r _
              have hg7 := own_next HGz.out hbr7
              have hn6 := hnL.next hbw6
              have hX2 : ¬ w.heap.size = b9 := by omega
              have hX1 : ¬ b9 = w.heap.size := by omega
              have hn7 : rowC (w6.setCell ⟨b9, 4, none⟩ (.int .i64 (m' : Int))) w.heap.size 0 (.slice none 0 0) ⟨#[]⟩ ⟨#[]⟩ 0 := hn6.other _ hX2
              obtain ⟨g0, g1, g2, g3, g4, g5⟩ := hn6.facts
              have hBd := hbL.trans (hbw7.mono hbL.size)
              have hOF : (W5 (w6.setCell ⟨b9, 4, none⟩ (.int .i64 (m' : Int))) w.heap.size z.x.k (.slice z.A z.n z.c) z.x.l s (m' : Int)).ownsRow w.heap.size 2 1 (.slice z.A z.n z.c) _ _ := own_base (own_w5 (b := w.heap.size) hg7 (by omega) z.x.k (.slice z.A z.n z.c) z.x.l s (m' : Int)) (by omega)
              have hBF := below_w5 hBd (Nat.le_refl _) z.x.k (.slice z.A z.n z.c) z.x.l s (m' : Int)
              go_wp2_with fail
              have hF := (hn7).setAll z.x.k (.slice z.A z.n z.c) z.x.l s (m' : Int)
              change bodyPost _ _ _ _ _ (W5 (w6.setCell ⟨b9, 4, none⟩ (.int .i64 (m' : Int))) w.heap.size z.x.k (.slice z.A z.n z.c) z.x.l s (m' : Int))
              generalize W5 (w6.setCell ⟨b9, 4, none⟩ (.int .i64 (m' : Int))) w.heap.size z.x.k (.slice z.A z.n z.c) z.x.l s (m' : Int) = wf at hF hBF hOF ⊢
              obtain ⟨f0, f1, f2, f3, f4, _⟩ := hF.facts
              exact bodyPost_ret (v := .tuple #[.agg #[.int .i64 z.x.k, .slice z.A z.n z.c, .string z.x.l, .string s, .int .i64 (m' : Int)], .int .i64 0]) (by simp [results, Try.results8, go_sem, f0, f1, f2, f3, f4]) rfl (recPost_of (x := ⟨z.x.k, z.x.gs, z.x.l, s, (m' : Int)⟩) HRr.out hOF hBF)
            · rw [cond_true] at hrr
              have HRr := Lib.hid hrr; clear hrr
              go_wp2_with fail
              refine HSc.out.mono ?_
              rintro e w6 ⟨rfl, hb6⟩
              have hr6 := hr5.next hb6
              have hC6 := hC5.next hb6
              have hg6 := hC6.grp z (List.mem_of_getElem? Hzx.out)
              have hbw6 := hbw5.trans (hb6.mono hbw5.size)
              clear a0 a1 a2 a3 a4 a5
              have hn9 := (hnL.next hbw6)
              have hr9' := hr6
              have hB9 := (hbL.trans (hbw6.mono hbL.size))
              obtain ⟨g0, g1, g2, g3, g4, g5⟩ := hn9.facts
              obtain ⟨a0, a1, a2, a3, a4, a5⟩ := hr9'.facts
              have hOF : (W5 w6 w.heap.size z.x.k (.slice z.A z.n z.c) z.x.l s z.x.p).ownsRow w.heap.size 2 1 (.slice z.A z.n z.c) _ _ := own_base (own_w5 (b := w.heap.size) hg6 (by omega) z.x.k (.slice z.A z.n z.c) z.x.l s z.x.p) (by omega)
              have hBF := below_w5 hB9 (Nat.le_refl _) z.x.k (.slice z.A z.n z.c) z.x.l s z.x.p
              go_wp2_with fail
              have hF := (hn9).setAll z.x.k (.slice z.A z.n z.c) z.x.l s z.x.p
              change bodyPost _ _ _ _ _ (W5 w6 w.heap.size z.x.k (.slice z.A z.n z.c) z.x.l s z.x.p)
              generalize W5 w6 w.heap.size z.x.k (.slice z.A z.n z.c) z.x.l s z.x.p = wf at hF hBF hOF ⊢
              obtain ⟨f0, f1, f2, f3, f4, _⟩ := hF.facts
              exact bodyPost_ret (v := .tuple #[.agg #[.int .i64 z.x.k, .slice z.A z.n z.c, .string z.x.l, .string s, .int .i64 z.x.p], .int .i64 0]) (by simp [results, Try.results8, go_sem, f0, f1, f2, f3, f4]) rfl (recPost_of (x := ⟨z.x.k, z.x.gs, z.x.l, s, z.x.p⟩) HRr.out hOF hBF)
        · obtain rfl : j = zs.length := by omega
          have j1 : ¬ (zs.length : Int) < (zs.length : Int) := by omega
          have Hp2 : Hid (recPre (candI s m') (fitC L) (k + 1) = none) := Lib.hid (by
            have h9 := Hl.out
            rw [List.take_of_length_le (by rw [HCr.out, List.length_map, ← HZm.out, List.length_map]; exact Nat.le_refl _)] at h9
            rw [HPn.out, h9])
          go_wp2_with fail
          go_roundw
          case rel => exact ⟨k + 1, by omega, by have := HKe.out; rw [← HKe.out]; go_num, Hp2, hbw⟩
          case measure => have := HKe.out; simp [intOf] <;> omega
    · obtain rfl : k = 8 := by omega
      have hnX := hnL.next hbw
      have hbX := hbL.trans (hbw.mono hbL.size)
      obtain ⟨g0, g1, g2, g3, g4, g5⟩ := hnX.facts
      have i9 : ¬ ((8 : Nat) : Int) + 1 ≤ 8 := by omega
      have hrr : r = (3, zeroCh) := by rw [HRe.out, recPre_none Hp.out]; rfl
      have HRr := Lib.hid hrr; clear hrr
      go_wp2_with fail
      have hBF := below_w5 (hbX) (Nat.le_refl _) 0 (.slice none 0 0) ⟨#[]⟩ ⟨#[]⟩ 0
      have hOF : (W5 wr w.heap.size 0 (.slice none 0 0) ⟨#[]⟩ ⟨#[]⟩ 0).ownsRow w.heap.size 2 1 (.slice none 0 0) 0 [] := World.ownsRow_nil _ _ _ _
      have hF := (hnX).setAll 0 (.slice none 0 0) ⟨#[]⟩ ⟨#[]⟩ 0
      change bodyPost _ _ _ _ _ (W5 wr w.heap.size 0 (.slice none 0 0) ⟨#[]⟩ ⟨#[]⟩ 0)
      generalize W5 wr w.heap.size 0 (.slice none 0 0) ⟨#[]⟩ ⟨#[]⟩ 0 = wf at hF hBF hOF ⊢
      obtain ⟨f0, f1, f2, f3, f4, _⟩ := hF.facts
      exact bodyPost_ret (v := .tuple #[.agg #[.int .i64 0, .slice none 0 0, .string ⟨#[]⟩, .string ⟨#[]⟩, .int .i64 0], .int .i64 3]) (by simp [results, Try.results8, go_sem, f0, f1, f2, f3, f4]) rfl (recPost_of (x := ⟨0, [], ⟨#[]⟩, ⟨#[]⟩, 0⟩) HRr.out hOF hBF)
end Go.Proofs.Ytgibbhipjpbdfaa
