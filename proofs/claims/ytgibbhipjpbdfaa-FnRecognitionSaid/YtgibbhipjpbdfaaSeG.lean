/- SeG: several of my texts in one. -/
import Derived.Test.YtgibbhipjpbdfaaCol
import Derived.Test.YtgibbhipjpbdfaaPhO
import Derived.Test.YtgibbhipjpbdfaaIntS
import Derived.Deep.QuietTactic
import Derived.BigQuiet
import Derived.Test.YtgibbhipjpbdfaaChValid
import Derived.Test.YtgibbhipjpbdfaaMatG

/- Sectors of lights, in plain Lean. -/
namespace Go.Proofs.Ytgibbhipjpbdfaa
open Go.RowKit
structure Sec where
  f : Int
  t : Int
  c : ByteArray
abbrev Sec.cells (s : Sec) : List Value := [.int .i64 s.f, .int .i64 s.t, .string s.c]
theorem Sec.cells_len (s : Sec) : s.cells.length = 3 := rfl
theorem sec_one (s : Sec) : ∀ u ∈ s.cells, u.oneCell' = true := by simp [Sec.cells, Value.oneCell']
def zeroSec : Sec := ⟨0, 0, ByteArray.empty⟩
def arcI (f t : Int) : Int := (t - f - 1) % 360 + 1
def distI (f g : Int) : Int := (g - f) % 360
theorem arc_bd (f t : Int) : 1 ≤ arcI f t ∧ arcI f t ≤ 360 := by unfold arcI; omega
def secOk (s : Sec) : Bool := inB s.f 0 359 && inB s.t 0 359 && colB s.c
theorem secOk_bd {s : Sec} (h : secOk s = true) : (0 ≤ s.f ∧ s.f ≤ 359) ∧ (0 ≤ s.t ∧ s.t ≤ 359) ∧ colB s.c = true := by
  simp only [secOk, Bool.and_eq_true] at h
  exact ⟨inB_iff.1 h.1.1, inB_iff.1 h.1.2, h.2⟩
def sAt (l : List Sec) (i : Nat) : Sec := l.getD i zeroSec
theorem sAt_eq {l : List Sec} {i : Nat} {s : Sec} (h : l[i]? = some s) : sAt l i = s := by simp [sAt, h]
/-- Each sector ends where the next one begins, or ahead of it. -/
def secsP (l : List Sec) : Prop := (∀ i, i < l.length → secOk (sAt l i) = true) ∧ (∀ i, i < l.length → 0 < i → (sAt l (i - 1)).f < (sAt l i).f) ∧
  ∀ i, i < l.length → ∀ k, k < l.length → i ≠ k → arcI (sAt l i).f (sAt l i).t ≤ distI (sAt l i).f (sAt l k).f
instance (l : List Sec) : Decidable (secsP l) := by unfold secsP; infer_instance
def secsB (l : List Sec) : Bool := decide (l.length ≤ 12 ∧ secsP l)
theorem secs_rise {l : List Sec} (h : ∀ i, i < l.length → 0 < i → (sAt l (i - 1)).f < (sAt l i).f) : ∀ d i, i + d + 1 < l.length → (sAt l i).f < (sAt l (i + d + 1)).f
  | 0, i, hi => h (i + 0 + 1) hi (by omega)
  | d + 1, i, hi => by
    have h1 := secs_rise h d i (by omega)
    have h2 := h (i + (d + 1) + 1) hi (by omega)
    rw [show i + (d + 1) + 1 - 1 = i + d + 1 by omega] at h2
    omega
theorem secs_rise' {l : List Sec} (h : ∀ i, i < l.length → 0 < i → (sAt l (i - 1)).f < (sAt l i).f) {i k : Nat} (hik : i < k) (hk : k < l.length) : (sAt l i).f < (sAt l k).f := by
  have := secs_rise h (k - i - 1) i (by omega)
  rwa [show i + (k - i - 1) + 1 = k by omega] at this
theorem dist_up {a b : Int} (h : a < b) (h0 : 0 ≤ a) (h1 : b ≤ 359) : distI a b = b - a := by unfold distI; omega
theorem dist_down {a b : Int} (h : b < a) (h0 : 0 ≤ b) (h1 : a ≤ 359) : distI a b = b - a + 360 := by unfold distI; omega
/-- The reference asks the next one alone. -/
theorem secs_next {l : List Sec} (h1 : ∀ i, i < l.length → secOk (sAt l i) = true) (h2 : ∀ i, i < l.length → 0 < i → (sAt l (i - 1)).f < (sAt l i).f)
    (h3 : 1 < l.length → ∀ i, i < l.length → arcI (sAt l i).f (sAt l i).t ≤ distI (sAt l i).f (sAt l ((i + 1) % l.length)).f) : secsP l := by
  refine ⟨h1, h2, fun i hi k hk hik => ?_⟩
  have h3 := h3 (by omega) i hi
  obtain ⟨bi, _, _⟩ := secOk_bd (h1 i hi)
  obtain ⟨bk, _, _⟩ := secOk_bd (h1 k hk)
  obtain ⟨b0, _, _⟩ := secOk_bd (h1 0 (by omega))
  have r0 : ∀ j, 0 < j → j < l.length → (sAt l 0).f < (sAt l j).f := fun j h0 hj => secs_rise' h2 h0 hj
  by_cases he : i + 1 = l.length
  · rw [he, Nat.mod_self] at h3
    have r1 := r0 i (by omega) hi
    rw [dist_down r1 b0.1 bi.2] at h3
    have hki : k < i := by omega
    have r2 := secs_rise' h2 hki hi
    rw [dist_down r2 bk.1 bi.2]
    by_cases hk0 : k = 0
    · subst hk0; omega
    · have := r0 k (by omega) hk; omega
  · rw [Nat.mod_eq_of_lt (by omega)] at h3
    obtain ⟨bn, _, _⟩ := secOk_bd (h1 (i + 1) (by omega))
    rw [dist_up (secs_rise' h2 (by omega) (by omega)) bi.1 bn.2] at h3
    rcases Nat.lt_or_ge i k with hlt | hge
    · rw [dist_up (secs_rise' h2 hlt hk) bi.1 bk.2]
      by_cases hk1 : k = i + 1
      · subst hk1; omega
      · have := secs_rise' h2 (show i + 1 < k by omega) hk; omega
    · have hki : k < i := by omega
      rw [dist_down (secs_rise' h2 hki hi) bk.1 bi.2]
      omega
theorem secs_to_next {l : List Sec} (h : secsP l) (hn : 1 < l.length) (i : Nat) (hi : i < l.length) : arcI (sAt l i).f (sAt l i).t ≤ distI (sAt l i).f (sAt l ((i + 1) % l.length)).f := by
  refine h.2.2 i hi _ (Nat.mod_lt _ (by omega)) ?_
  by_cases he : i + 1 = l.length
  · rw [he, Nat.mod_self]; omega
  · rw [Nat.mod_eq_of_lt (by omega)]; omega
/-- The sum of the first arcs. -/
def arcSum (l : List Sec) : Nat → Int
  | 0 => 0
  | m + 1 => arcSum l m + arcI (sAt l m).f (sAt l m).t
theorem arcSum_bd (l : List Sec) : ∀ m : Nat, (m : Int) ≤ arcSum l m ∧ arcSum l m ≤ 360 * m
  | 0 => by simp [arcSum]
  | m + 1 => by
    have := arcSum_bd l m
    have := arc_bd (sAt l m).f (sAt l m).t
    simp only [arcSum]; omega
theorem arcSum_part {l : List Sec} (h : secsP l) : ∀ m, m < l.length → arcSum l m ≤ (sAt l m).f - (sAt l 0).f
  | 0, _ => by simp [arcSum]
  | m + 1, hm => by
    have ih := arcSum_part h m (by omega)
    have h3 := h.2.2 m (by omega) (m + 1) hm (by omega)
    obtain ⟨bi, _, _⟩ := secOk_bd (h.1 m (by omega))
    obtain ⟨bn, _, _⟩ := secOk_bd (h.1 (m + 1) hm)
    rw [dist_up (secs_rise' h.2.1 (by omega) hm) bi.1 bn.2] at h3
    simp only [arcSum]; omega
theorem arcSum_all {l : List Sec} (h : secsP l) : arcSum l l.length ≤ 360 := by
  rcases Nat.eq_zero_or_pos l.length with h0 | h0
  · rw [h0]; simp [arcSum]
  · obtain ⟨m, hm⟩ : ∃ m, l.length = m + 1 := ⟨l.length - 1, by omega⟩
    rw [hm]
    have h1 := arcSum_part h m (by omega)
    have h4 := arc_bd (sAt l m).f (sAt l m).t
    simp only [arcSum]
    by_cases hm0 : m = 0
    · subst hm0; simp [arcSum]; omega
    · have h3 := h.2.2 m (by omega) 0 (by omega) hm0
      obtain ⟨bi, _, _⟩ := secOk_bd (h.1 m (by omega))
      obtain ⟨b0, _, _⟩ := secOk_bd (h.1 0 (by omega))
      rw [dist_down (secs_rise' h.2.1 (show 0 < m by omega) (by omega)) b0.1 bi.2] at h3
      omega
theorem secsB_no {l : List Sec} (h : ¬ secsP l) : secsB l = false := by simp [secsB, h]
theorem secsB_yes {l : List Sec} (h : secsP l) : secsB l = decide (l.length ≤ 12) := by simp [secsB, h]
end Go.Proofs.Ytgibbhipjpbdfaa

/- The laws' own functions over []Sector. -/
namespace Go.Proofs.Ytgibbhipjpbdfaa
open Go.RowKit
abbrev Sec.val (s : Sec) : Value := .agg #[.int .i64 s.f, .int .i64 s.t, .string s.c]
theorem Sl.sec {w : World} {B n : Nat} {A : Option Addr} {xs : List Sec} (h : Sl w B 3 A n (xs.flatMap Sec.cells)) (k : Nat) (hk : k < n) :
    ∃ b off x, A = some ⟨b, off, none⟩ ∧ b < B ∧ xs[k]? = some x ∧ w.cell? ⟨b, off + k * 3, none⟩ = some (.int .i64 x.f) ∧ w.cell? ⟨b, off + k * 3 + 1, none⟩ = some (.int .i64 x.t) ∧ w.cell? ⟨b, off + k * 3 + 2, none⟩ = some (.string x.c) := by
  obtain ⟨b, off, s, hA, hb, hx, hc⟩ := h.get Sec.cells 3 Sec.cells_len (by omega) k hk
  exact ⟨b, off, s, hA, hb, hx, hc 0 _ rfl, hc 1 _ rfl, hc 2 _ rfl⟩
end Go.Proofs.Ytgibbhipjpbdfaa

/- Rows of integers and of sectors compared: the reference draws only, the program, too. -/
namespace Go.Proofs.Ytgibbhipjpbdfaa
open Go.RowKit
theorem take_eq_next {α : Type} {xs ys : List α} {k : Nat} {a b : α} (ht : xs.take k = ys.take k) (h1 : xs[k]? = some a) (h2 : ys[k]? = some b) (e : a = b) : xs.take (k + 1) = ys.take (k + 1) := by
  rw [List.take_add_one, List.take_add_one, ht, h1, h2, e]
theorem ne_of_next {α : Type} {xs ys : List α} {k : Nat} {a b : α} (h1 : xs[k]? = some a) (h2 : ys[k]? = some b) (e : a ≠ b) : xs ≠ ys := fun h => by
  rw [h, h2] at h1; exact e (Option.some.inj h1).symm
instance : DecidableEq Sec := fun a b => by
  cases a; cases b
  simp only [Sec.mk.injEq]
  infer_instance
def Sec.same (s t : Sec) : Bool := (s.f == t.f) && ((s.t == t.t) && (s.c.toList == t.c.toList))
theorem Sec.same_eq (s t : Sec) : s.same t = decide (s = t) := by
  cases s; cases t
  simp only [Sec.same, ba_beq, Sec.mk.injEq]
  rw [Bool.eq_iff_iff]
  simp
set_option maxRecDepth 100000 in
set_option maxHeartbeats 1000000 in
theorem sameQ_c (A A' : Option Addr) (n n' c c' : Nat) (xs ys : List Int) (w : World) (h : Sl w w.heap.size 1 A n (xs.flatMap intC)) (h' : Sl w w.heap.size 1 A' n' (ys.flatMap intC)) (hm : n ≤ 1048576) (hm' : n' ≤ 1048576) :
    Calls Try.prog 90 #[.slice A n c, .slice A' n' c'] w fun e w' => e = .returned (.bool (decide (xs = ys))) ∧ ∃ m, w' = w.drewN m := by
  have l1 := h.len intC 1 (fun _ => rfl) (by omega)
  have l2 := h'.len intC 1 (fun _ => rfl) (by omega)
  have L1 := Lib.hid l1; clear l1
  have L2 := Lib.hid l2; clear l2
  by_cases hnn : n = n'
  · subst hnn
    go_enter Try.func90, Try.ntmps90
    go_wp2
    go_loopw [5] (fun i wr => ∃ k : Nat, k ≤ n ∧ i = .int .i64 k ∧ Hid (xs.take k = ys.take k) ∧ ∃ m, wr = w.drewN m) (fun i _ => n - (intOf i).toNat)
    case atStart => exact ⟨0, Nat.zero_le _, rfl, Lib.hid rfl, 0, rfl⟩
    case round =>
      obtain ⟨k, hk, rfl, Ht, m0, rfl⟩ := hrel
      by_cases hlt : k < n
      · obtain ⟨b, off, d, rfl, _, hd, c1⟩ := h.int k hlt
        obtain ⟨b', off', d', rfl, _, hd', c1'⟩ := h'.int k hlt
        have Hd := Lib.hid hd; clear hd
        have Hd' := Lib.hid hd'; clear hd'
        have j1 : (0 : Int) ≤ (k : Int) := by omega
        have j2 : (k : Int) < (n : Int) := by omega
        by_cases hdd : d = d'
        · have DE := decide_eq_true hdd
          have g1 : (d != d') = !decide (d = d') := rfl
          rw [DE] at g1
          first | rw [Bool.not_true] at g1 | rw [Bool.not_false] at g1
          clear DE
          have Hdd := Lib.hid hdd; clear hdd
          go_wp2
          go_quiet (fail)
          go_wp2
          go_roundw
          case rel => exact ⟨k + 1, by omega, by go_num, Lib.hid (take_eq_next Ht.out Hd.out Hd'.out Hdd.out), m0 + nq, by first | rfl | rw [World.drewN_drewN]⟩
          case measure => simp [intOf]; omega
        · have DE := decide_eq_false hdd
          have g1 : (d != d') = !decide (d = d') := rfl
          rw [DE] at g1
          first | rw [Bool.not_true] at g1 | rw [Bool.not_false] at g1
          clear DE
          have Hdd := Lib.hid hdd; clear hdd
          go_wp2
          go_quiet (fail)
          go_wp2
          go_ret
          exact ⟨ret_eq (bool_eq (decide_eq_false (ne_of_next Hd.out Hd'.out Hdd.out)).symm), m0 + nq, by first | rfl | rw [World.drewN_drewN]⟩
      · obtain rfl : k = n := by omega
        go_wp2
        go_ret
        have ht := Ht.out
        rw [List.take_of_length_le (by rw [L1.out]; omega), List.take_of_length_le (by rw [L2.out]; omega)] at ht
        exact ⟨ret_eq (bool_eq (decide_eq_true ht).symm), m0, rfl⟩
  · go_enter Try.func90, Try.ntmps90
    go_wp2
    go_ret
    refine ⟨ret_eq (bool_eq (decide_eq_false (fun e => hnn ?_)).symm), 0, rfl⟩
    rw [← L1.out, ← L2.out, e]
end Go.Proofs.Ytgibbhipjpbdfaa

/- A character compared with one like it: the reference. -/
namespace Go.Proofs.Ytgibbhipjpbdfaa
open Go.RowKit
theorem quiet_de {P : Program} {f : FuncId} {args : Array Value} {w : World} {n : Nat} {v : Value}
    (h : Calls P f args (w.drewN n) fun e w' => e = .returned v ∧ ∃ m, w' = (w.drewN n).drewN m) : Calls P f args (w.drewN n) fun e w'' => e = .returned v ∧ ∃ m, w'' = w.drewN m :=
  h.mono fun _ _ ⟨he, m, hm⟩ => ⟨he, n + m, by rw [hm]; simp [World.drewN, Nat.add_assoc]⟩
set_option maxRecDepth 100000 in
set_option maxHeartbeats 1000000 in
theorem l05Alike_c (b off b' off' : Nat) (A A' : Option Addr) (n n' c c' : Nat) (x : Ch) (w : World) (h : ChP w b off A n c x) (h' : ChP w b' off' A' n' c' x) :
    Calls Try.prog 60 #[.pointer (some ⟨b, off, none⟩), .pointer (some ⟨b', off', none⟩)] w fun e w' => e = .returned (.bool true) ∧ ∃ k, w' = w.drewN k := by
  have hB : ∀ n, Below w.heap.size w (w.drewN n) := fun n => below_drewN (Below.refl _ _) n
  have hS : ∀ q, Calls Try.prog 90 #[.slice A n c, .slice A' n' c'] (w.drewN q) fun e w' => e = .returned (.bool true) ∧ ∃ m, w' = (w.drewN q).drewN m := fun q => by
    have := sameQ_c A A' n n' c c' x.gs x.gs (w.drewN q) (h.next (hB q)).sl (h'.next (hB q)).sl h.hn h'.hn
    rwa [decide_eq_true rfl] at this
  obtain ⟨c0, c1, c2, c3, c4, hb, _, _, _, _⟩ := h
  obtain ⟨d0, d1, d2, d3, d4, hb', _, _, _, _⟩ := h'
  clear hB
  have HS := Lib.hid hS; clear hS
  have e1 : (x.k == x.k) = true := by simp
  have e2 : (x.l.toList == x.l.toList) = true := by simp
  have e3 : (x.cs.toList == x.cs.toList) = true := by simp
  have e4 : (x.p == x.p) = true := by simp
  go_enter Try.func60, Try.ntmps60
  go_wp2
  go_quiet ((go_at_call 90; exact quiet_de (HS.out _)))
  go_wp2
  go_ret
  exact ⟨rfl, _, rfl⟩
set_option maxRecDepth 100000 in
set_option maxHeartbeats 1000000 in
theorem specAlike_c (A A' : Option Addr) (c c' n : Nat) (x : Ch) (w : World) (sl : Sl w w.heap.size 1 A n (x.gs.flatMap intC)) (sl' : Sl w w.heap.size 1 A' n (x.gs.flatMap intC)) (hn : n ≤ 1048576) (hlz : x.l.size ≤ 1048576) (hs : x.cs.size ≤ 1048576) :
    Calls Try.prog 22 #[chV x.k A n c x.l x.cs x.p, chV x.k A' n c' x.l x.cs x.p] w fun e w' => e = .returned (.bool true) ∧ Below w.heap.size w w' := by
  have h1 := chp_box (c := c) 26 sl hn hlz hs
  have hb1 : Below w.heap.size w (w.alloc (.cells #[.int .i64 x.k, .slice A n c, .string x.l, .string x.cs, .int .i64 x.p] 26)) := by (repeat (first | (with_reducible assumption) | (with_reducible exact Below.refl _ _) | exact Nat.le_refl _ | exact Below.size (by with_reducible assumption) | (with_reducible refine Below.drew ?_) | (with_reducible refine below_drewN ?_ _) | (with_reducible refine Below.alloc ?_ ?_ _) | (with_reducible refine Below.setCell ?_ ?_ _) | (with_reducible refine le_alloc ?_ _) | (with_reducible refine le_set ?_ _ _) | (with_reducible refine le_drew ?_) | (with_reducible refine le_drewN ?_ _) | omega | (dsimp only; omega)))
  have h2 := chp_box (c := c') 26 (sl'.next hb1) hn hlz hs
  have hb2 : Below (w.alloc (.cells #[.int .i64 x.k, .slice A n c, .string x.l, .string x.cs, .int .i64 x.p] 26)).heap.size (w.alloc (.cells #[.int .i64 x.k, .slice A n c, .string x.l, .string x.cs, .int .i64 x.p] 26)) ((w.alloc (.cells #[.int .i64 x.k, .slice A n c, .string x.l, .string x.cs, .int .i64 x.p] 26)).alloc (.cells #[.int .i64 x.k, .slice A' n c', .string x.l, .string x.cs, .int .i64 x.p] 26)) := by (repeat (first | (with_reducible assumption) | (with_reducible exact Below.refl _ _) | exact Nat.le_refl _ | exact Below.size (by with_reducible assumption) | (with_reducible refine Below.drew ?_) | (with_reducible refine below_drewN ?_ _) | (with_reducible refine Below.alloc ?_ ?_ _) | (with_reducible refine Below.setCell ?_ ?_ _) | (with_reducible refine le_alloc ?_ _) | (with_reducible refine le_set ?_ _ _) | (with_reducible refine le_drew ?_) | (with_reducible refine le_drewN ?_ _) | omega | (dsimp only; omega)))
  have h1' := h1.next hb2
  have hb := hb1.trans (hb2.mono hb1.size)
  rw [World.size_alloc] at h2
  clear h1 hb1 hb2
  go_enter Try.func22, Try.ntmps22
  go_wp2_with fail
  generalize (w.alloc (.cells #[.int .i64 x.k, .slice A n c, .string x.l, .string x.cs, .int .i64 x.p] 26)).alloc (.cells #[.int .i64 x.k, .slice A' n c', .string x.l, .string x.cs, .int .i64 x.p] 26) = w0 at *
  refine (l05Alike_c _ _ _ _ _ _ _ _ _ _ x _ h1' h2).mono ?_
  rintro e w1 ⟨rfl, k, rfl⟩
  go_wp2_with fail
  go_ret
  exact ⟨rfl, below_drewN hb _⟩
end Go.Proofs.Ytgibbhipjpbdfaa

/- A colour of a valid character. Plain facts, no program. -/
namespace Go.Proofs.Ytgibbhipjpbdfaa
open Go.RowKit
theorem colB_ext {x : Ch} (h : validB x = true) {i : Nat} (hi : i < x.cs.size) : colB (x.cs.extract i (i + 1)) = true := by
  have hsh := valid_shape h
  simp only [shapeB, colorsB, Bool.and_eq_true, allB_iff] at hsh
  have h1 := hsh.1.1 i hi
  simp only [colOk, Bool.and_eq_true, decide_eq_true_eq] at h1
  have h2 := h1.1
  rw [bt_eq _ _ hi] at h2
  have h3 : (x.cs[i].toNat : Int) = 87 ∨ (x.cs[i].toNat : Int) = 82 ∨ (x.cs[i].toNat : Int) = 71 ∨ (x.cs[i].toNat : Int) = 89 := by
    unfold rankI at h2
    (repeat' split at h2) <;> omega
  have e : ∀ {c : UInt8} {n : Nat}, (c.toNat : Int) = (n : Int) → n < 256 → c = n.toUInt8 := by
    intro c n h hn
    have : c.toNat = n := by omega
    rw [← this]; simp
  rw [colB, ext_one _ _ hi]
  rcases h3 with h3 | h3 | h3 | h3
  · rw [e (n := 87) h3 (by decide)]; decide
  · rw [e (n := 82) h3 (by decide)]; decide
  · rw [e (n := 71) h3 (by decide)]; decide
  · rw [e (n := 89) h3 (by decide)]; decide
theorem hasC_ext (s : ByteArray) {i : Nat} (hi : i < s.size) : hasC s (s.extract i (i + 1)) = true := by
  rw [hasC, ext_one _ _ hi]
  simp only [decide_eq_true_eq]
  rw [toL]
  have : s.data.toList[i]? = some s[i] := by rw [List.getElem?_eq_getElem (by simpa using hi)]; rfl
  exact List.mem_of_getElem? this
end Go.Proofs.Ytgibbhipjpbdfaa
