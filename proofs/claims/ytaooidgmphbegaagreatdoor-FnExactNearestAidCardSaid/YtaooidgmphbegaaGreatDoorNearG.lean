/- NearG: several of my texts in one. -/
import Derived.Test.YtaooidgmphbegaaGreatDoorAidsEq
import Derived.Test.YtaooidgmphbegaaGreatDoorAidsS
import Derived.Test.YtaooidgmphbegaaGreatDoorAidsI
/- The square of a distance. -/
namespace Go.Proofs.YtaooidgmphbegaaGreatDoor
open Go.RowKit
def sqI (x y u v : Int) : Int := (x - u) * (x - u) + (y - v) * (y - v)
theorem sq_bound {d : Int} (h1 : -1000000 ≤ d) (h2 : d ≤ 1000000) : 0 ≤ d * d ∧ d * d ≤ 1000000000000 := by
  constructor
  · rcases Int.le_total 0 d with h | h
    · exact Int.mul_nonneg h h
    · have := Int.mul_nonneg (Int.neg_nonneg_of_nonpos h) (Int.neg_nonneg_of_nonpos h)
      simpa only [Int.neg_mul_neg] using this
  · rcases Int.le_total 0 d with h | h
    · exact Int.mul_le_mul h2 h2 h (by omega)
    · have := Int.mul_le_mul (show -d ≤ 1000000 by omega) (show -d ≤ 1000000 by omega) (by omega) (by omega)
      rw [Int.neg_mul_neg] at this
      omega
set_option maxHeartbeats 1000000 in
theorem squared_c (x y u v : Int) (w : World) (h1 : -1000000 ≤ x - u ∧ x - u ≤ 1000000) (h2 : -1000000 ≤ y - v ∧ y - v ≤ 1000000) :
    Calls Tryz.prog 86 #[ptV x y, ptV u v] w fun e w' => e = .returned (.int .i64 (sqI x y u v)) ∧ Below w.heap.size w w' := by
  have s1 := sq_bound h1.1 h1.2
  have s2 := sq_bound h2.1 h2.2
  unfold sqI
  have e1 : IntKind.i64.wrap (x - u) = x - u := IntWalk.i64_in _ (by omega)
  have e2 : IntKind.i64.wrap (y - v) = y - v := IntWalk.i64_in _ (by omega)
  have e3 : IntKind.i64.wrap ((x - u) * (x - u)) = (x - u) * (x - u) := IntWalk.i64_in _ (by omega)
  have e4 : IntKind.i64.wrap ((y - v) * (y - v)) = (y - v) * (y - v) := IntWalk.i64_in _ (by omega)
  have e5 : IntKind.i64.wrap ((x - u) * (x - u) + (y - v) * (y - v)) = (x - u) * (x - u) + (y - v) * (y - v) := IntWalk.i64_in _ (by omega)
  go_enter Tryz.func86, Tryz.ntmps86
  go_wp2
  go_ret
  exact ⟨rfl, by (repeat (first | (with_reducible assumption) | (with_reducible exact Below.refl _ _) | exact Nat.le_refl _ | exact Below.size (by with_reducible assumption) | (with_reducible refine Below.drew ?_) | (with_reducible refine below_drewN ?_ _) | (with_reducible refine Below.alloc ?_ ?_ _) | (with_reducible refine Below.setCell ?_ ?_ _) | (with_reducible refine le_alloc ?_ _) | (with_reducible refine le_set ?_ _ _) | (with_reducible refine le_drew ?_) | (with_reducible refine le_drewN ?_ _) | omega | (dsimp only; omega)))⟩
set_option maxHeartbeats 1000000 in
theorem l02Square_c (x y u v : Int) (w : World) (h1 : -1000000 ≤ x - u ∧ x - u ≤ 1000000) (h2 : -1000000 ≤ y - v ∧ y - v ≤ 1000000) :
    Calls Tryz.prog 85 #[ptV x y, ptV u v] w fun e w' => e = .returned (.int .i64 (sqI x y u v)) ∧ Below w.heap.size w w' := by
  have s1 := sq_bound h1.1 h1.2
  have s2 := sq_bound h2.1 h2.2
  unfold sqI
  have e1 : IntKind.i64.wrap (x - u) = x - u := IntWalk.i64_in _ (by omega)
  have e2 : IntKind.i64.wrap (y - v) = y - v := IntWalk.i64_in _ (by omega)
  have e3 : IntKind.i64.wrap ((x - u) * (x - u)) = (x - u) * (x - u) := IntWalk.i64_in _ (by omega)
  have e4 : IntKind.i64.wrap ((y - v) * (y - v)) = (y - v) * (y - v) := IntWalk.i64_in _ (by omega)
  have e5 : IntKind.i64.wrap ((x - u) * (x - u) + (y - v) * (y - v)) = (x - u) * (x - u) + (y - v) * (y - v) := IntWalk.i64_in _ (by omega)
  go_enter Tryz.func85, Tryz.ntmps85
  go_wp2
  go_ret
  exact ⟨rfl, by (repeat (first | (with_reducible assumption) | (with_reducible exact Below.refl _ _) | exact Nat.le_refl _ | exact Below.size (by with_reducible assumption) | (with_reducible refine Below.drew ?_) | (with_reducible refine below_drewN ?_ _) | (with_reducible refine Below.alloc ?_ ?_ _) | (with_reducible refine Below.setCell ?_ ?_ _) | (with_reducible refine le_alloc ?_ _) | (with_reducible refine le_set ?_ _ _) | (with_reducible refine le_drew ?_) | (with_reducible refine le_drewN ?_ _) | omega | (dsimp only; omega)))⟩
/-- The first of the least among the first k. -/
def bestN (d : Nat → Int) : Nat → Nat
  | 0 => 0
  | k + 1 => if d k < d (bestN d k) then k else bestN d k
theorem bestN_lt (d : Nat → Int) : ∀ k, 0 < k → bestN d k < k
  | 1, _ => by simp [bestN]
  | k + 2, _ => by
    have := bestN_lt d (k + 1) (by omega)
    rw [bestN]
    split <;> omega
theorem bestN_in (d : Nat → Int) (k n : Nat) (hk : k ≤ n) (hn : 0 < n) : bestN d k < n := by
  rcases Nat.eq_zero_or_pos k with rfl | h
  · exact hn
  · exact Nat.lt_of_lt_of_le (bestN_lt d k h) hk
def nearD (l : List AidX) (u v : Int) (i : Nat) : Int := sqI (aAt l i).x (aAt l i).y u v
/-- The number of the nearest aid, and the code. -/
def nearN (l : List AidX) (u v : Int) : Int := bif aidsB l && (inB u 0 200000 && inB v 0 200000) && !l.isEmpty then (aAt l (bestN (nearD l u v) l.length)).num else 0
def nearK (l : List AidX) (u v : Int) : Int := bif aidsB l && (inB u 0 200000 && inB v 0 200000) then bif l.isEmpty then 6 else 0 else 1
end Go.Proofs.YtaooidgmphbegaaGreatDoor
/- NearestAid: the reference. -/
namespace Go.Proofs.YtaooidgmphbegaaGreatDoor
open Go.RowKit
theorem aid_pt {a : AidX} (h : aidB a = true) : (0 ≤ a.x ∧ a.x ≤ 200000) ∧ (0 ≤ a.y ∧ a.y ≤ 200000) := by
  simp only [aidB, aidHeadB, Bool.and_eq_true, inB_iff] at h
  refine ⟨?_, ?_⟩ <;> simp_all
theorem aids_pt {l : List AidX} (h : aidsB l = true) (i : Nat) (hi : i < l.length) : (0 ≤ (aAt l i).x ∧ (aAt l i).x ≤ 200000) ∧ (0 ≤ (aAt l i).y ∧ (aAt l i).y ≤ 200000) := by
  have := (of_decide_eq_true h).2.1 i hi
  exact aid_pt this
set_option maxRecDepth 100000 in
set_option maxHeartbeats 2000000 in
theorem specNear_c (A : Option Addr) (n c : Nat) (zs : List AidG) (u v : Int) (w : World) (h : AidSl w A n zs) (hm : n ≤ 1048576) :
    Calls Tryz.prog 32 #[.slice A n c, ptV u v] w fun e w' => e = .returned (.tuple #[.int .i64 (nearN (zs.map AidG.a) u v), .int .i64 (nearK (zs.map AidG.a) u v)]) ∧ Below w.heap.size w w' := by
  have hl : (zs.map AidG.a).length = n := by rw [List.length_map]; exact h.len
  have hb0 : Below w.heap.size w (w.alloc (.cells #[.int .i64 u, .int .i64 v] 34)) := by (repeat (first | (with_reducible assumption) | (with_reducible exact Below.refl _ _) | exact Nat.le_refl _ | exact Below.size (by with_reducible assumption) | (with_reducible refine Below.drew ?_) | (with_reducible refine below_drewN ?_ _) | (with_reducible refine Below.alloc ?_ ?_ _) | (with_reducible refine Below.setCell ?_ ?_ _) | (with_reducible refine le_alloc ?_ _) | (with_reducible refine le_set ?_ _ _) | (with_reducible refine le_drew ?_) | (with_reducible refine le_drewN ?_ _) | omega | (dsimp only; omega)))
  have hbx : (w.alloc (.cells #[.int .i64 u, .int .i64 v] 34)).heap[w.heap.size]? = some (.cells #[.int .i64 u, .int .i64 v] 34 (0, 0)) := heap_alloc_new w _
  have a0 : (w.alloc (.cells #[.int .i64 u, .int .i64 v] 34)).cell? ⟨w.heap.size, 0, none⟩ = some (.int .i64 u) := (cell_of_row _ w.heap.size _ _ 34 (0, 0) hbx).trans rfl
  have a1 : (w.alloc (.cells #[.int .i64 u, .int .i64 v] 34)).cell? ⟨w.heap.size, 1, none⟩ = some (.int .i64 v) := (cell_of_row _ w.heap.size _ _ 34 (0, 0) hbx).trans rfl
  obtain ⟨w0, hw⟩ : ∃ w0, w.alloc (.cells #[.int .i64 u, .int .i64 v] 34) = w0 := ⟨_, rfl⟩
  have hz : w.heap.size < w0.heap.size := by rw [← hw]; simp
  rw [hw] at hb0 a0 a1
  clear hbx
  have h0 := h.next hb0
  obtain ⟨L, hL⟩ : ∃ L, zs.map AidG.a = L := ⟨_, rfl⟩
  have hat : ∀ i z, zs[i]? = some z → aAt L i = z.a := fun i z hz => hL ▸ aAt_eq hz
  have hV : ∀ w1, AidSl w1 A n zs → Below w0.heap.size w0 w1 → Calls Tryz.prog 82 #[.slice A n c] w1 fun e w' => e = .returned (.bool (aidsB L)) ∧ Below w1.heap.size w1 w' := fun w1 h1 _hq => hL ▸ l12Ok_c A n c zs w1 h1 hm
  obtain ⟨P, hP⟩ : ∃ P, (inB u 0 200000 && inB v 0 200000) = P := ⟨_, rfl⟩
  rw [hL] at hl ⊢
  have hPt : ∀ w1, Calls Tryz.prog 84 #[ptV u v] w1 fun e w' => e = .returned (.bool P) ∧ Below w1.heap.size w1 w' := fun w1 => hP ▸ l02Ok_c _ _ _
  have HL := Lib.hid hL; clear hL
  have Hl := Lib.hid hl; clear hl
  have Hat := Lib.hid hat; clear hat
  have HV := Lib.hid hV; clear hV
  have HPt := Lib.hid hPt; clear hPt
  have HP := Lib.hid hP; clear hP
  have H := Lib.hid h; clear h
  have H0 := Lib.hid h0; clear h0
  cases hok : aidsB L
  · rw [hok] at HV
    have hN : nearN L u v = 0 := by rw [nearN, hok]; rfl
    have hK : nearK L u v = 1 := by rw [nearK, hok]; rfl
    rw [hN, hK]
    have Hok := Lib.hid hok; clear hok
    clear hN hK
    go_enter Tryz.func32, Tryz.ntmps32
    go_wp2_with fail
    try rw [hw]
    clear hw
    refine (HV.out _ H0.out (Below.refl _ _)).mono ?_
    rintro e w1 ⟨rfl, hb1⟩
    have q1 := keepC hb1 w.heap.size hz
    have z1 := Nat.lt_of_lt_of_le hz hb1.size
    go_wp2_with fail
    go_ret2
    exact ⟨rfl, hb0.trans (hb1.mono hb0.size)⟩
  rw [hok] at HV
  have Hok := Lib.hid hok; clear hok
  cases P
  · have hN : nearN L u v = 0 := by rw [nearN, Hok.out, HP.out]; rfl
    have hK : nearK L u v = 1 := by rw [nearK, Hok.out, HP.out]; rfl
    rw [hN, hK]
    clear hN hK
    go_enter Tryz.func32, Tryz.ntmps32
    go_wp2_with fail
    try rw [hw]
    clear hw
    refine (HV.out _ H0.out (Below.refl _ _)).mono ?_
    rintro e w1 ⟨rfl, hb1⟩
    have q1 := keepC hb1 w.heap.size hz
    have z1 := Nat.lt_of_lt_of_le hz hb1.size
    go_wp2_with fail
    refine (HPt.out _).mono ?_
    rintro e w2 ⟨rfl, hb2⟩
    have q2 := keepC hb2 w.heap.size z1
    have z2 := Nat.lt_of_lt_of_le z1 hb2.size
    replace hb2 := hb1.trans (hb2.mono hb1.size)
    go_wp2_with fail
    go_ret2
    exact ⟨rfl, hb0.trans (hb2.mono hb0.size)⟩
  have Pu : Hid ((0 ≤ u ∧ u ≤ 200000) ∧ (0 ≤ v ∧ v ≤ 200000)) := Lib.hid (by have := HP.out; rw [Bool.and_eq_true, inB_iff, inB_iff] at this; exact this)
  by_cases hn : n = 0
  · subst hn
    have hLe : L = [] := List.length_eq_zero_iff.1 Hl.out
    have hN : nearN L u v = 0 := by rw [nearN, Hok.out, HP.out, hLe]; rfl
    have hK : nearK L u v = 6 := by rw [nearK, Hok.out, HP.out, hLe]; rfl
    rw [hN, hK]
    clear hN hK hLe
    go_enter Tryz.func32, Tryz.ntmps32
    go_wp2_with fail
    try rw [hw]
    clear hw
    refine (HV.out _ H0.out (Below.refl _ _)).mono ?_
    rintro e w1 ⟨rfl, hb1⟩
    have q1 := keepC hb1 w.heap.size hz
    have z1 := Nat.lt_of_lt_of_le hz hb1.size
    go_wp2_with fail
    refine (HPt.out _).mono ?_
    rintro e w2 ⟨rfl, hb2⟩
    have q2 := keepC hb2 w.heap.size z1
    have z2 := Nat.lt_of_lt_of_le z1 hb2.size
    replace hb2 := hb1.trans (hb2.mono hb1.size)
    go_wp2_with fail
    go_ret2
    exact ⟨rfl, hb0.trans (hb2.mono hb0.size)⟩
  have hLe : L.isEmpty = false := by
    cases L with
    | nil => exact absurd Hl.out.symm hn
    | cons _ _ => rfl
  obtain ⟨d, hd⟩ : ∃ d, nearD L u v = d := ⟨_, rfl⟩
  have hN : nearN L u v = (aAt L (bestN d n)).num := by rw [nearN, Hok.out, HP.out, hLe, hd, Hl.out]; rfl
  have hK : nearK L u v = 0 := by rw [nearK, Hok.out, HP.out, hLe]; rfl
  rw [hN, hK]
  clear hN hK hLe
  have hn0 : ((n : Int) == 0) = false := by simpa using hn
  have Hd := Lib.hid hd; clear hd
  go_enter Tryz.func32, Tryz.ntmps32
  go_wp2_with fail
  try rw [hw]
  clear hw
  refine (HV.out _ H0.out (Below.refl _ _)).mono ?_
  rintro e w1 ⟨rfl, hb1⟩
  have q1 := keepC hb1 w.heap.size hz
  have z1 := Nat.lt_of_lt_of_le hz hb1.size
  go_wp2_with fail
  refine (HPt.out _).mono ?_
  rintro e w2 ⟨rfl, hb2⟩
  have q2 := keepC hb2 w.heap.size z1
  have z2 := Nat.lt_of_lt_of_le z1 hb2.size
  replace hb2 := hb1.trans (hb2.mono hb1.size)
  go_wp2_with fail
  clear q1 q2 z1
  go_loopw [6, 7] (fun m i wr => ∃ k : Nat, 0 < k ∧ k ≤ n ∧ i = .int .i64 k ∧ m = .int .i64 (bestN d k : Nat) ∧ Below w0.heap.size w0 wr) (fun _ i _ => n - (intOf i).toNat)
  case atStart => exact ⟨1, by omega, by omega, rfl, by simp [bestN], hb2⟩
  case round =>
    obtain ⟨k, hk0, hk, rfl, rfl, hbw⟩ := hrel
    by_cases hlt : k < n
    · obtain ⟨b, off, z, rfl, hx, _, hpx⟩ := H.out.get k hlt
      have hmk : bestN d k < n := bestN_in d k n (by omega) (by omega)
      obtain ⟨m, hmd⟩ : ∃ m, bestN d k = m := ⟨_, rfl⟩
      rw [hmd] at hmk ⊢
      obtain ⟨b', off', y, e0, hy, _, hpy⟩ := H.out.get m hmk
      injection e0 with e0; injection e0 with e1 e2 _
      subst e1 e2
      have hbw0 := hb0.trans (hbw.mono hb0.size)
      have hsk := Hat.out k z hx
      have hsm := Hat.out m y hy
      have pk := aids_pt Hok.out k (by rw [Hl.out]; exact hlt)
      have pm := aids_pt Hok.out m (by rw [Hl.out]; exact hmk)
      rw [hsk] at pk
      rw [hsm] at pm
      have pu := Pu.out
      have hV1 : ∀ (a c : Int) (w1 : World), (0 ≤ a ∧ a ≤ 200000) → (0 ≤ c ∧ c ≤ 200000) → Calls Tryz.prog 85 #[ptV a c, ptV u v] w1 fun e w' => e = .returned (.int .i64 (sqI a c u v)) ∧ Below w1.heap.size w1 w' := fun a c w1 h1 h2 => l02Square_c a c u v w1 (by omega) (by omega)
      have hdk : d k = sqI z.a.x z.a.y u v := by rw [← Hd.out, nearD, hsk]
      have hdm : d m = sqI y.a.x y.a.y u v := by rw [← Hd.out, nearD, hsm]
      have hzb : b < wr.heap.size := Nat.lt_of_lt_of_le hpx.hb hbw0.size
      have hz0 : w.heap.size < wr.heap.size := Nat.lt_of_lt_of_le hz hbw.size
      have r0 := (keepC hbw w.heap.size hz 0).trans a0
      have r1 := (keepC hbw w.heap.size hz 1).trans a1
      have hpx' := hpx.next hbw0
      have hpy' := hpy.next hbw0
      have j1 : (0 : Int) ≤ (k : Int) := by omega
      have j2 : (k : Int) < (n : Int) := by omega
      have j3 : (0 : Int) ≤ (m : Int) := by omega
      have j4 : (m : Int) < (n : Int) := by omega
      have hbk : bestN d (k + 1) = if sqI z.a.x z.a.y u v < sqI y.a.x y.a.y u v then k else m := by rw [bestN, hmd, hdk, hdm]
      obtain ⟨pk1, pk2⟩ := pk
      obtain ⟨pm1, pm2⟩ := pm
      have Hbk := Lib.hid hbk; clear hbk
      have HV1 := Lib.hid hV1; clear hV1
      clear hpx hpy hsk hsm hx hy pu hdk hdm hmd
      obtain ⟨_, _, c2, c3, _, _, _, _, _, _, _, _, _, _, _, _, _⟩ := hpx'
      obtain ⟨_, _, d2, d3, _, _, _, _, _, _, _, _, _, _, _, _, _⟩ := hpy'
      have e1 : ∀ {w' : World}, Below wr.heap.size wr w' → (Below wr.heap.size wr w' ∧ (∀ x, w'.cell? ⟨b, x, none⟩ = wr.cell? ⟨b, x, none⟩) ∧ (∀ x, w'.cell? ⟨w.heap.size, x, none⟩ = wr.cell? ⟨w.heap.size, x, none⟩)) := fun hbb => ⟨hbb, keepC hbb _ hzb, keepC hbb _ hz0⟩
      by_cases hd12 : sqI z.a.x z.a.y u v < sqI y.a.x y.a.y u v
      all_goals
        go_wp2_with fail
        go_region_held3 (fun w' => Below wr.heap.size wr w' ∧ (∀ x, w'.cell? ⟨b, x, none⟩ = wr.cell? ⟨b, x, none⟩) ∧ (∀ x, w'.cell? ⟨w.heap.size, x, none⟩ = wr.cell? ⟨w.heap.size, x, none⟩)) (first | exact e1 (Below.refl _ _).drew | exact e1 ((Below.refl _ _).drew.trans hb7) | exact e1 (((Below.refl _ _).drew.trans hb7).trans (hb8.mono hb7.size))) ((go_at_call 85; first | (have := hb7; clear this; refine (HV1.out _ _ _ (by assumption) (by assumption)).mono ?_; rintro e w8 ⟨rfl, hb8⟩) | (refine (HV1.out _ _ _ (by assumption) (by assumption)).mono ?_; rintro e w7 ⟨rfl, hb7⟩)))
        go_wp2_with fail
        go_roundw
        case rel => exact ⟨k + 1, by omega, by omega, by go_num, by rw [Hbk.out]; first | rw [if_pos (by omega)] | rw [if_neg (by omega)], hbw.trans ((((Below.refl wr.heap.size wr).drew.trans hb7).trans (hb8.mono hb7.size)).mono hbw.size)⟩
        case measure => simp [intOf]; omega
    · obtain rfl : k = n := by omega
      have hmk : bestN d k < k := bestN_lt d k (by omega)
      obtain ⟨m, hmd⟩ : ∃ m, bestN d k = m := ⟨_, rfl⟩
      rw [hmd] at hmk ⊢
      obtain ⟨b', off', y, rfl, hy, _, hpy⟩ := H.out.get m hmk
      have hbw0 := hb0.trans (hbw.mono hb0.size)
      have c0 := (hpy.next hbw0).c0
      have hfin : (aAt L (bestN d k)).num = y.a.num := by rw [hmd, Hat.out m y hy]
      have j3 : (0 : Int) ≤ (m : Int) := by omega
      have j4 : (m : Int) < (k : Int) := by omega
      clear hpy hy hmd
      have Hfin := Lib.hid hfin; clear hfin
      go_wp2_with fail
      go_ret2
      exact ⟨(show _ = Ending.returned (.tuple #[.int .i64 y.a.num, .int .i64 0]) from rfl).trans (by rw [Hfin.out]), hbw0⟩
end Go.Proofs.YtaooidgmphbegaaGreatDoor
/- NearestAid: the program. -/
namespace Go.Proofs.YtaooidgmphbegaaGreatDoor
open Go.RowKit
set_option maxRecDepth 100000 in
set_option maxHeartbeats 2000000 in
theorem implNear_c (A : Option Addr) (n c : Nat) (zs : List AidG) (u v : Int) (w : World) (h : AidSl w A n zs) (hm : n ≤ 1048576) (ht : Tab w) :
    Calls Tryz.prog 34 #[.slice A n c, ptV u v] w fun e w' => e = .returned (.tuple #[.int .i64 (nearN (zs.map AidG.a) u v), .int .i64 (nearK (zs.map AidG.a) u v)]) ∧ Below w.heap.size w w' := by
  have hl : (zs.map AidG.a).length = n := by rw [List.length_map]; exact h.len
  have hb0 : Below w.heap.size w (w.alloc (.cells #[.int .i64 u, .int .i64 v] 34)) := by (repeat (first | (with_reducible assumption) | (with_reducible exact Below.refl _ _) | exact Nat.le_refl _ | exact Below.size (by with_reducible assumption) | (with_reducible refine Below.drew ?_) | (with_reducible refine below_drewN ?_ _) | (with_reducible refine Below.alloc ?_ ?_ _) | (with_reducible refine Below.setCell ?_ ?_ _) | (with_reducible refine le_alloc ?_ _) | (with_reducible refine le_set ?_ _ _) | (with_reducible refine le_drew ?_) | (with_reducible refine le_drewN ?_ _) | omega | (dsimp only; omega)))
  have hbx : (w.alloc (.cells #[.int .i64 u, .int .i64 v] 34)).heap[w.heap.size]? = some (.cells #[.int .i64 u, .int .i64 v] 34 (0, 0)) := heap_alloc_new w _
  have a0 : (w.alloc (.cells #[.int .i64 u, .int .i64 v] 34)).cell? ⟨w.heap.size, 0, none⟩ = some (.int .i64 u) := (cell_of_row _ w.heap.size _ _ 34 (0, 0) hbx).trans rfl
  have a1 : (w.alloc (.cells #[.int .i64 u, .int .i64 v] 34)).cell? ⟨w.heap.size, 1, none⟩ = some (.int .i64 v) := (cell_of_row _ w.heap.size _ _ 34 (0, 0) hbx).trans rfl
  obtain ⟨w0, hw⟩ : ∃ w0, w.alloc (.cells #[.int .i64 u, .int .i64 v] 34) = w0 := ⟨_, rfl⟩
  have hz : w.heap.size < w0.heap.size := by rw [← hw]; simp
  rw [hw] at hb0 a0 a1
  clear hbx
  have h0 := h.next hb0
  obtain ⟨L, hL⟩ : ∃ L, zs.map AidG.a = L := ⟨_, rfl⟩
  have hat : ∀ i z, zs[i]? = some z → aAt L i = z.a := fun i z hz => hL ▸ aAt_eq hz
  have hV : ∀ w1, AidSl w1 A n zs → Below w0.heap.size w0 w1 → Calls Tryz.prog 30 #[.slice A n c] w1 fun e w' => e = .returned (.bool (aidsB L)) ∧ Below w1.heap.size w1 w' := fun w1 h1 _hq => hL ▸ implValidAids_c A n c zs w1 h1 hm ((ht.next hb0).next _hq)
  obtain ⟨P, hP⟩ : ∃ P, (inB u 0 200000 && inB v 0 200000) = P := ⟨_, rfl⟩
  rw [hL] at hl ⊢
  have hPt : ∀ w1, Calls Tryz.prog 70 #[ptV u v] w1 fun e w' => e = .returned (.bool P) ∧ Below w1.heap.size w1 w' := fun w1 => hP ▸ validPoint_c _ _ _
  have HL := Lib.hid hL; clear hL
  have Hl := Lib.hid hl; clear hl
  have Hat := Lib.hid hat; clear hat
  have HV := Lib.hid hV; clear hV
  have HPt := Lib.hid hPt; clear hPt
  have HP := Lib.hid hP; clear hP
  have H := Lib.hid h; clear h
  have H0 := Lib.hid h0; clear h0
  cases hok : aidsB L
  · rw [hok] at HV
    have hN : nearN L u v = 0 := by rw [nearN, hok]; rfl
    have hK : nearK L u v = 1 := by rw [nearK, hok]; rfl
    rw [hN, hK]
    have Hok := Lib.hid hok; clear hok
    clear hN hK
    go_enter Tryz.func34, Tryz.ntmps34
    go_wp2_with fail
    try rw [hw]
    clear hw
    refine (HV.out _ H0.out (Below.refl _ _)).mono ?_
    rintro e w1 ⟨rfl, hb1⟩
    have q1 := keepC hb1 w.heap.size hz
    have z1 := Nat.lt_of_lt_of_le hz hb1.size
    go_wp2_with fail
    go_ret2
    exact ⟨rfl, hb0.trans (hb1.mono hb0.size)⟩
  rw [hok] at HV
  have Hok := Lib.hid hok; clear hok
  cases P
  · have hN : nearN L u v = 0 := by rw [nearN, Hok.out, HP.out]; rfl
    have hK : nearK L u v = 1 := by rw [nearK, Hok.out, HP.out]; rfl
    rw [hN, hK]
    clear hN hK
    go_enter Tryz.func34, Tryz.ntmps34
    go_wp2_with fail
    try rw [hw]
    clear hw
    refine (HV.out _ H0.out (Below.refl _ _)).mono ?_
    rintro e w1 ⟨rfl, hb1⟩
    have q1 := keepC hb1 w.heap.size hz
    have z1 := Nat.lt_of_lt_of_le hz hb1.size
    go_wp2_with fail
    refine (HPt.out _).mono ?_
    rintro e w2 ⟨rfl, hb2⟩
    have q2 := keepC hb2 w.heap.size z1
    have z2 := Nat.lt_of_lt_of_le z1 hb2.size
    replace hb2 := hb1.trans (hb2.mono hb1.size)
    go_wp2_with fail
    go_ret2
    exact ⟨rfl, hb0.trans (hb2.mono hb0.size)⟩
  have Pu : Hid ((0 ≤ u ∧ u ≤ 200000) ∧ (0 ≤ v ∧ v ≤ 200000)) := Lib.hid (by have := HP.out; rw [Bool.and_eq_true, inB_iff, inB_iff] at this; exact this)
  by_cases hn : n = 0
  · subst hn
    have hLe : L = [] := List.length_eq_zero_iff.1 Hl.out
    have hN : nearN L u v = 0 := by rw [nearN, Hok.out, HP.out, hLe]; rfl
    have hK : nearK L u v = 6 := by rw [nearK, Hok.out, HP.out, hLe]; rfl
    rw [hN, hK]
    clear hN hK hLe
    go_enter Tryz.func34, Tryz.ntmps34
    go_wp2_with fail
    try rw [hw]
    clear hw
    refine (HV.out _ H0.out (Below.refl _ _)).mono ?_
    rintro e w1 ⟨rfl, hb1⟩
    have q1 := keepC hb1 w.heap.size hz
    have z1 := Nat.lt_of_lt_of_le hz hb1.size
    go_wp2_with fail
    refine (HPt.out _).mono ?_
    rintro e w2 ⟨rfl, hb2⟩
    have q2 := keepC hb2 w.heap.size z1
    have z2 := Nat.lt_of_lt_of_le z1 hb2.size
    replace hb2 := hb1.trans (hb2.mono hb1.size)
    go_wp2_with fail
    go_ret2
    exact ⟨rfl, hb0.trans (hb2.mono hb0.size)⟩
  have hLe : L.isEmpty = false := by
    cases L with
    | nil => exact absurd Hl.out.symm hn
    | cons _ _ => rfl
  obtain ⟨d, hd⟩ : ∃ d, nearD L u v = d := ⟨_, rfl⟩
  have hN : nearN L u v = (aAt L (bestN d n)).num := by rw [nearN, Hok.out, HP.out, hLe, hd, Hl.out]; rfl
  have hK : nearK L u v = 0 := by rw [nearK, Hok.out, HP.out, hLe]; rfl
  rw [hN, hK]
  clear hN hK hLe
  have hn0 : ((n : Int) == 0) = false := by simpa using hn
  have Hd := Lib.hid hd; clear hd
  go_enter Tryz.func34, Tryz.ntmps34
  go_wp2_with fail
  try rw [hw]
  clear hw
  refine (HV.out _ H0.out (Below.refl _ _)).mono ?_
  rintro e w1 ⟨rfl, hb1⟩
  have q1 := keepC hb1 w.heap.size hz
  have z1 := Nat.lt_of_lt_of_le hz hb1.size
  go_wp2_with fail
  refine (HPt.out _).mono ?_
  rintro e w2 ⟨rfl, hb2⟩
  have q2 := keepC hb2 w.heap.size z1
  have z2 := Nat.lt_of_lt_of_le z1 hb2.size
  replace hb2 := hb1.trans (hb2.mono hb1.size)
  go_wp2_with fail
  clear q1 q2 z1
  go_loopw [6, 22] (fun m i wr => ∃ k : Nat, k ≤ n ∧ i = .int .i64 k ∧ m = .int .i64 (bestN d k : Nat) ∧ Below w0.heap.size w0 wr) (fun _ i _ => n - (intOf i).toNat)
  case atStart => exact ⟨0, by omega, rfl, rfl, hb2⟩
  case round =>
    obtain ⟨k, hk, rfl, rfl, hbw⟩ := hrel
    by_cases hlt : k < n
    · obtain ⟨b, off, z, rfl, hx, _, hpx⟩ := H.out.get k hlt
      have hmk : bestN d k < n := bestN_in d k n (by omega) (by omega)
      obtain ⟨m, hmd⟩ : ∃ m, bestN d k = m := ⟨_, rfl⟩
      rw [hmd] at hmk ⊢
      obtain ⟨b', off', y, e0, hy, _, hpy⟩ := H.out.get m hmk
      injection e0 with e0; injection e0 with e1 e2 _
      subst e1 e2
      have hbw0 := hb0.trans (hbw.mono hb0.size)
      have hsk := Hat.out k z hx
      have hsm := Hat.out m y hy
      have pk := aids_pt Hok.out k (by rw [Hl.out]; exact hlt)
      have pm := aids_pt Hok.out m (by rw [Hl.out]; exact hmk)
      rw [hsk] at pk
      rw [hsm] at pm
      have pu := Pu.out
      have hV1 : ∀ (a c : Int) (w1 : World), (0 ≤ a ∧ a ≤ 200000) → (0 ≤ c ∧ c ≤ 200000) → Calls Tryz.prog 86 #[ptV a c, ptV u v] w1 fun e w' => e = .returned (.int .i64 (sqI a c u v)) ∧ Below w1.heap.size w1 w' := fun a c w1 h1 h2 => squared_c a c u v w1 (by omega) (by omega)
      have hdk : d k = sqI z.a.x z.a.y u v := by rw [← Hd.out, nearD, hsk]
      have hdm : d m = sqI y.a.x y.a.y u v := by rw [← Hd.out, nearD, hsm]
      have hzb : b < wr.heap.size := Nat.lt_of_lt_of_le hpx.hb hbw0.size
      have hz0 : w.heap.size < wr.heap.size := Nat.lt_of_lt_of_le hz hbw.size
      have r0 := (keepC hbw w.heap.size hz 0).trans a0
      have r1 := (keepC hbw w.heap.size hz 1).trans a1
      have hpx' := hpx.next hbw0
      have hpy' := hpy.next hbw0
      have j1 : (0 : Int) ≤ (k : Int) := by omega
      have j2 : (k : Int) < (n : Int) := by omega
      have j3 : (0 : Int) ≤ (m : Int) := by omega
      have j4 : (m : Int) < (n : Int) := by omega
      have hbk : bestN d (k + 1) = if sqI z.a.x z.a.y u v < sqI y.a.x y.a.y u v then k else m := by rw [bestN, hmd, hdk, hdm]
      obtain ⟨pk1, pk2⟩ := pk
      obtain ⟨pm1, pm2⟩ := pm
      have Hbk := Lib.hid hbk; clear hbk
      have HV1 := Lib.hid hV1; clear hV1
      clear hpx hpy hsk hsm hx hy pu hdk hdm hmd
      obtain ⟨c0, c1, c2, c3, c4, c5, c6, c7, c8, c9, c10, c11, c12, c13, c14, c15, _⟩ := hpx'
      obtain ⟨w5, hw5⟩ : ∃ w5, wr.alloc (aidO z 39) = w5 := ⟨_, rfl⟩
      have hb5 : Below wr.heap.size wr w5 := by rw [← hw5]; (repeat (first | (with_reducible assumption) | (with_reducible exact Below.refl _ _) | exact Nat.le_refl _ | exact Below.size (by with_reducible assumption) | (with_reducible refine Below.drew ?_) | (with_reducible refine below_drewN ?_ _) | (with_reducible refine Below.alloc ?_ ?_ _) | (with_reducible refine Below.setCell ?_ ?_ _) | (with_reducible refine le_alloc ?_ _) | (with_reducible refine le_set ?_ _ _) | (with_reducible refine le_drew ?_) | (with_reducible refine le_drewN ?_ _) | omega | (dsimp only; omega)))
      have g1 : AidP w5 wr.heap.size 0 z := by rw [← hw5]; exact aidp_box wr z 39
      have hg0 := g1.hb
      have f2 := g1.c2
      have f3 := g1.c3
      simp only [Nat.zero_add] at f2 f3
      have d2 := (hpy'.next hb5).c2
      have d3 := (hpy'.next hb5).c3
      have s0 := (keepC hb5 w.heap.size hz0 0).trans r0
      have s1 := (keepC hb5 w.heap.size hz0 1).trans r1
      have z5 := Nat.lt_of_lt_of_le hzb hb5.size
      have z6 := Nat.lt_of_lt_of_le hz0 hb5.size
      obtain ⟨g, hg⟩ : ∃ g, wr.heap.size = g := ⟨_, rfl⟩
      rw [hg] at hg0 f2 f3
      have hb6 := hbw.trans (hb5.mono hbw.size)
      clear g1 hpy' hb5 hzb hz0
      by_cases hd12 : sqI z.a.x z.a.y u v < sqI y.a.x y.a.y u v
      all_goals
        go_wp2_with fail
        try rw [hw5]
        try rw [hg]
        clear hw5 hg c0 c1 c2 c3 c4 c5 c6 c7 c8 c9 c10 c11 c12 c13 c14 c15 r0 r1
        have e1 : ∀ {w' : World}, Below w5.heap.size w5 w' → (Below w5.heap.size w5 w' ∧ (∀ x, w'.cell? ⟨b, x, none⟩ = w5.cell? ⟨b, x, none⟩) ∧ (∀ x, w'.cell? ⟨w.heap.size, x, none⟩ = w5.cell? ⟨w.heap.size, x, none⟩) ∧ (∀ x, w'.cell? ⟨g, x, none⟩ = w5.cell? ⟨g, x, none⟩)) := fun hbb => ⟨hbb, keepC hbb _ z5, keepC hbb _ z6, keepC hbb _ hg0⟩
        go_region_held3 (fun w' => Below w5.heap.size w5 w' ∧ (∀ x, w'.cell? ⟨b, x, none⟩ = w5.cell? ⟨b, x, none⟩) ∧ (∀ x, w'.cell? ⟨w.heap.size, x, none⟩ = w5.cell? ⟨w.heap.size, x, none⟩) ∧ (∀ x, w'.cell? ⟨g, x, none⟩ = w5.cell? ⟨g, x, none⟩)) (first | exact e1 (Below.refl _ _).drew | exact e1 ((Below.refl _ _).drew.trans hb7) | exact e1 (((Below.refl _ _).drew.trans hb7).trans (hb8.mono hb7.size))) ((go_at_call 86; first | (have := hb7; clear this; refine (HV1.out _ _ _ (by assumption) (by assumption)).mono ?_; rintro e w8 ⟨rfl, hb8⟩) | (refine (HV1.out _ _ _ (by assumption) (by assumption)).mono ?_; rintro e w7 ⟨rfl, hb7⟩)))
        go_wp2_with fail
        go_roundw
        case rel => exact ⟨k + 1, by omega, by go_num, by rw [Hbk.out]; first | rw [if_pos (by omega)] | rw [if_neg (by omega)], hb6.trans ((((Below.refl w5.heap.size w5).drew.trans hb7).trans (hb8.mono hb7.size)).mono hb6.size)⟩
        case measure => simp [intOf]; omega
    · obtain rfl : k = n := by omega
      have hmk : bestN d k < k := bestN_in d k k (Nat.le_refl _) (by omega)
      obtain ⟨m, hmd⟩ : ∃ m, bestN d k = m := ⟨_, rfl⟩
      rw [hmd] at hmk ⊢
      obtain ⟨b', off', y, rfl, hy, _, hpy⟩ := H.out.get m hmk
      have hbw0 := hb0.trans (hbw.mono hb0.size)
      have c0 := (hpy.next hbw0).c0
      have hfin : (aAt L (bestN d k)).num = y.a.num := by rw [hmd, Hat.out m y hy]
      have j3 : (0 : Int) ≤ (m : Int) := by omega
      have j4 : (m : Int) < (k : Int) := by omega
      clear hpy hy hmd
      have Hfin := Lib.hid hfin; clear hfin
      go_wp2_with fail
      go_ret2
      exact ⟨(show _ = Ending.returned (.tuple #[.int .i64 y.a.num, .int .i64 0]) from rfl).trans (by rw [Hfin.out]), hbw0⟩
end Go.Proofs.YtaooidgmphbegaaGreatDoor
/- The walk of the law FnExactNearestAid. -/
namespace Go.Proofs.YtaooidgmphbegaaGreatDoor
open Go.RowKit
set_option maxRecDepth 100000 in
set_option maxHeartbeats 2000000 in
theorem lawNearestAid_c (A : Option Addr) (n c : Nat) (zs : List AidG) (u v : Int) (w : World) (h : Sl w w.heap.size 16 A n (zs.flatMap AidG.cells) ∧ ∀ z ∈ zs, AidRd w z) (hm : n ≤ maxLen) (ht : Tab w) :
    Calls Tryz.prog 7 #[.slice A n c, ptV u v] w fun e w' => e = .returned (.bool true) ∧ Below w.heap.size w w' := by
  have hb0 : Below w.heap.size w (w.alloc (.cells #[.int .i64 u, .int .i64 v] 23)) := by (repeat (first | (with_reducible assumption) | (with_reducible exact Below.refl _ _) | exact Nat.le_refl _ | exact Below.size (by with_reducible assumption) | (with_reducible refine Below.drew ?_) | (with_reducible refine below_drewN ?_ _) | (with_reducible refine Below.alloc ?_ ?_ _) | (with_reducible refine Below.setCell ?_ ?_ _) | (with_reducible refine le_alloc ?_ _) | (with_reducible refine le_set ?_ _ _) | (with_reducible refine le_drew ?_) | (with_reducible refine le_drewN ?_ _) | omega | (dsimp only; omega)))
  have hbx : (w.alloc (.cells #[.int .i64 u, .int .i64 v] 23)).heap[w.heap.size]? = some (.cells #[.int .i64 u, .int .i64 v] 23 (0, 0)) := heap_alloc_new w _
  have a0 : (w.alloc (.cells #[.int .i64 u, .int .i64 v] 23)).cell? ⟨w.heap.size, 0, none⟩ = some (.int .i64 u) := (cell_of_row _ w.heap.size _ _ 23 (0, 0) hbx).trans rfl
  have a1 : (w.alloc (.cells #[.int .i64 u, .int .i64 v] 23)).cell? ⟨w.heap.size, 1, none⟩ = some (.int .i64 v) := (cell_of_row _ w.heap.size _ _ 23 (0, 0) hbx).trans rfl
  obtain ⟨w0, hw⟩ : ∃ w0, w.alloc (.cells #[.int .i64 u, .int .i64 v] 23) = w0 := ⟨_, rfl⟩
  have hz : w.heap.size < w0.heap.size := by rw [← hw]; simp
  rw [hw] at hb0 a0 a1
  clear hbx
  have h1 := h.1.next hb0
  have h2 : ∀ z ∈ zs, AidRd w0 z := fun z hz => (h.2 z hz).next hb0
  have H1 := Lib.hid h1; clear h1
  have H2 := Lib.hid h2; clear h2
  go_enter Tryz.func7, Tryz.ntmps7
  go_wp2_with fail
  try rw [hw]
  clear hw
  refine (szAidS_c A n c zs _ _ H1.out hm H2.out (by omega) (by omega)).mono ?_
  rintro e w1 ⟨r, rfl, hr, hb1⟩
  have q1 := keepC hb1 w.heap.size hz
  have z1 := Nat.lt_of_lt_of_le hz hb1.size
  replace hb1 := hb0.trans (hb1.mono hb0.size)
  have Hr := Lib.hid hr; clear hr
  go_wp2_with fail
  · go_ret
    exact ⟨rfl, hb1⟩
  have hbd : (∀ z ∈ zs, AidBd z.a) ∧ n ≤ 1048576 := by
    rcases Hr.out with h3 | ⟨h3, h4, h5⟩
    · omega
    · exact ⟨h5, by omega⟩
  obtain ⟨bd, hn⟩ := hbd
  clear Hr H1 H2
  have s0 : AidSl w A n zs := ⟨h.1, fun z hz => (h.2 z hz).ok (bd z hz)⟩
  clear h
  obtain ⟨N0, hN0⟩ : ∃ N0, nearN (zs.map AidG.a) u v = N0 := ⟨_, rfl⟩
  obtain ⟨K0, hK0⟩ : ∃ K0, nearK (zs.map AidG.a) u v = K0 := ⟨_, rfl⟩
  have e1 : ∀ {w' : World}, Below w1.heap.size w1 w' → (Below w1.heap.size w1 w' ∧ (∀ x, w'.cell? ⟨w.heap.size, x, none⟩ = w1.cell? ⟨w.heap.size, x, none⟩)) := fun hbb => ⟨hbb, keepC hbb _ z1⟩
  have hT : ∀ w', Below w1.heap.size w1 w' → Calls Tryz.prog 29 #[.slice A n c] w' fun e w'' => ∃ v zs', e = .returned v ∧ zs'.map AidG.a = zs.map AidG.a ∧ AidOwn w'' w'.heap.size v n zs' ∧ Below w'.heap.size w' w'' := fun w' hb => toAidS_c A n c zs w' (s0.next (hb1.trans (hb.mono hb1.size))) hn
  have hS : ∀ (A2 : Option Addr) (c2 : Nat) (zs2 : List AidG) (w' : World), zs2.map AidG.a = zs.map AidG.a → AidSl w' A2 n zs2 → Calls Tryz.prog 32 #[.slice A2 n c2, ptV u v] w' fun e w'' => e = .returned (.tuple #[.int .i64 N0, .int .i64 K0]) ∧ Below w'.heap.size w' w'' := fun A2 c2 zs2 w' ha hs => by
    have := specNear_c A2 n c2 zs2 u v w' hs hn
    rwa [ha, hN0, hK0] at this
  have hI : ∀ (A2 : Option Addr) (c2 : Nat) (zs2 : List AidG) (w' : World), zs2.map AidG.a = zs.map AidG.a → AidSl w' A2 n zs2 → Below w.heap.size w w' → Calls Tryz.prog 34 #[.slice A2 n c2, ptV u v] w' fun e w'' => e = .returned (.tuple #[.int .i64 N0, .int .i64 K0]) ∧ Below w'.heap.size w' w'' := fun A2 c2 zs2 w' ha hs hb => by
    have := implNear_c A2 n c2 zs2 u v w' hs hn (ht.next hb)
    rwa [ha, hN0, hK0] at this
  have HT := Lib.hid ht
  have HT1 := Lib.hid hT; clear hT
  have HS := Lib.hid hS; clear hS
  have HI := Lib.hid hI; clear hI
  clear hN0 hK0 ht
  go_region_held3 (fun w' => Below w1.heap.size w1 w' ∧ (∀ x, w'.cell? ⟨w.heap.size, x, none⟩ = w1.cell? ⟨w.heap.size, x, none⟩)) (first | exact e1 (Below.refl _ _).drew | exact e1 ((Below.refl _ _).drew.trans hb2) | exact e1 (((Below.refl _ _).drew.trans hb2).trans (hb3.mono hb2.size)) | exact e1 ((((Below.refl _ _).drew.trans hb2).trans (hb3.mono hb2.size)).trans (hb4.mono (Nat.le_trans hb2.size hb3.size)))) (first | (go_at_call 29; refine (HT1.out _ (Below.refl _ _).drew).mono ?_; rintro e w2 ⟨v2, zs2, rfl, ha2, ho2, hb2⟩; obtain ⟨A2, c2, rfl⟩ := own_slice ho2.own; have s2 := ho2.sl (bd_of ha2 bd)) | (go_at_call 33; refine (toPoint_c _ _ _).mono ?_; rintro e w3 ⟨rfl, hb3⟩) | (go_at_call 32; refine (HS.out A2 c2 zs2 _ ha2 (s2.next hb3)).mono ?_; rintro e w4 ⟨rfl, hb4⟩))
  have b4 := (((Below.refl w1.heap.size w1).drew.trans hb2).trans (hb3.mono hb2.size)).trans (hb4.mono (Nat.le_trans hb2.size hb3.size))
  have q4 := keepC b4 w.heap.size z1
  have z4 := Nat.lt_of_lt_of_le z1 b4.size
  have c4 := hb1.trans (b4.mono hb1.size)
  go_wp2_with fail
  refine (HT1.out _ b4).mono ?_
  rintro e w5 ⟨v5, zs5, rfl, ha5, ho5, hb5⟩
  obtain ⟨A5, c5, rfl⟩ := own_slice ho5.own
  have s5 := ho5.sl (bd_of ha5 bd)
  have q5 := keepC hb5 w.heap.size z4
  have z5 := Nat.lt_of_lt_of_le z4 hb5.size
  replace b4 := b4.trans (hb5.mono b4.size)
  replace c4 := c4.trans (hb5.mono c4.size)
  go_wp2_with fail
  refine (toPoint_c _ _ _).mono ?_
  rintro e w6 ⟨rfl, hb6⟩
  have s6 := s5.next hb6
  replace b4 := b4.trans (hb6.mono b4.size)
  replace c4 := c4.trans (hb6.mono c4.size)
  go_wp2_with fail
  refine (HI.out A5 c5 zs5 _ ha5 s6 c4).mono ?_
  rintro e w7 ⟨rfl, hb7⟩
  have s7 := s6.next hb7
  replace b4 := b4.trans (hb7.mono b4.size)
  replace c4 := c4.trans (hb7.mono c4.size)
  go_wp2_with fail
  refine (HT1.out _ b4).mono ?_
  rintro e w8 ⟨v8, zs8, rfl, ha8, ho8, hb8⟩
  obtain ⟨A8, c8, rfl⟩ := own_slice ho8.own
  have s8 := ho8.sl (bd_of ha8 bd)
  have t8 := s7.next hb8
  replace c4 := c4.trans (hb8.mono c4.size)
  go_wp2_with fail
  refine (eqAidS_c A5 A8 n c5 c8 zs5 zs8 _ t8 s8 (ha5.trans ha8.symm) hn).mono ?_
  rintro e w9 ⟨rfl, hb9⟩
  go_wp2_with fail
  go_ret
  exact ⟨rfl, c4.trans (hb9.mono c4.size)⟩
end Go.Proofs.YtaooidgmphbegaaGreatDoor
