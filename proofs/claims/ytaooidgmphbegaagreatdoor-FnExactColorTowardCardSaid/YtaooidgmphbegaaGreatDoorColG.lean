/- ColG: several of my texts in one. -/
import Derived.Test.YtaooidgmphbegaaGreatDoorAidS
import Derived.Test.YtaooidgmphbegaaGreatDoorAidI3
import Derived.Test.YtaooidgmphbegaaGreatDoorBigG
import Derived.Test.YtaooidgmphbegaaGreatDoorSecS
import Derived.Test.YtaooidgmphbegaaGreatDoorStrS
/- HasLight, both sides. -/
namespace Go.Proofs.YtaooidgmphbegaaGreatDoor
open Go.RowKit
def hasLB (a : AidX) : Bool := aidB a && litB a
theorem has_kind {a : AidX} (h : aidB a = true) : (!(a.ch.k == 0)) = litB a := by
  cases hl : litB a
  · have hu : unlitB a = true := by rw [aidB, hl] at h; simp at h; exact h.2
    simp [unlit_kind hu]
  · simp [lit_kind hl]
set_option maxHeartbeats 400000 in
theorem l12Lit_c (b off : Nat) (z : AidG) (w : World) (hp : AidP w b off z) : Calls Tryz.prog 79 #[.pointer (some ⟨b, off, none⟩)] w fun e w' => e = .returned (.bool (!(z.a.ch.k == 0))) ∧ w = w' := by
  obtain ⟨c0, c1, c2, c3, c4, c5, c6, c7, c8, c9, c10, c11, c12, c13, c14, c15, hz⟩ := hp
  go_enter Tryz.func79, Tryz.ntmps79
  go_wp2
  go_ret
  exact ⟨rfl, rfl⟩
set_option maxRecDepth 100000 in
set_option maxHeartbeats 1000000 in
theorem specHasLight_c (z : AidG) (w : World) (h : AidOk w z) :
    Calls Tryz.prog 20 #[z.val] w fun e w' => e = .returned (.bool (hasLB z.a)) ∧ Below w.heap.size w w' := by
  have hp := aidp_box w z 39
  have hb0 : Below w.heap.size w (w.alloc (aidO z 39)) := by (repeat (first | (with_reducible assumption) | (with_reducible exact Below.refl _ _) | exact Nat.le_refl _ | exact Below.size (by with_reducible assumption) | (with_reducible refine Below.drew ?_) | (with_reducible refine below_drewN ?_ _) | (with_reducible refine Below.alloc ?_ ?_ _) | (with_reducible refine Below.setCell ?_ ?_ _) | (with_reducible refine le_alloc ?_ _) | (with_reducible refine le_set ?_ _ _) | (with_reducible refine le_drew ?_) | (with_reducible refine le_drewN ?_ _) | omega | (dsimp only; omega)))
  have hh := h.next hb0
  have hk := has_kind (a := z.a)
  have hv : hasLB z.a = (aidB z.a && litB z.a) := rfl
  rw [hv]
  have Hv := Lib.hid hv; clear hv
  have Hk := Lib.hid hk; clear hk
  cases ha : aidB z.a
  · go_enter Tryz.func20, Tryz.ntmps20
    go_wp2_with fail
    refine (l12One_c _ _ z _ hp hh).mono ?_
    rintro e w1 ⟨rfl, hb1⟩
    go_wp2_with fail
    go_ret
    exact ⟨rfl, hb0.trans (hb1.mono hb0.size)⟩
  · have hk := Hk.out ha
    have Hk2 := Lib.hid hk; clear hk
    go_enter Tryz.func20, Tryz.ntmps20
    go_wp2_with fail
    refine (l12One_c _ _ z _ hp hh).mono ?_
    rintro e w1 ⟨rfl, hb1⟩
    go_wp2_with fail
    refine (l12Lit_c _ _ z _ (hp.next hb1)).mono ?_
    rw [Hk2.out]
    rintro e w2 ⟨rfl, rfl⟩
    go_wp2_with fail
    go_ret
    exact ⟨ret_eq (bool_eq (by simp)), hb0.trans (hb1.mono hb0.size)⟩
set_option maxRecDepth 100000 in
set_option maxHeartbeats 1000000 in
theorem implHasLight_c (z : AidG) (w : World) (h : AidOk w z) (ht : Tab w) :
    Calls Tryz.prog 21 #[z.val] w fun e w' => e = .returned (.bool (hasLB z.a)) ∧ Below w.heap.size w w' := by
  have h00 := h
  have hp := aidp_box w z 39
  have hb0 : Below w.heap.size w (w.alloc (aidO z 39)) := by (repeat (first | (with_reducible assumption) | (with_reducible exact Below.refl _ _) | exact Nat.le_refl _ | exact Below.size (by with_reducible assumption) | (with_reducible refine Below.drew ?_) | (with_reducible refine below_drewN ?_ _) | (with_reducible refine Below.alloc ?_ ?_ _) | (with_reducible refine Below.setCell ?_ ?_ _) | (with_reducible refine le_alloc ?_ _) | (with_reducible refine le_set ?_ _ _) | (with_reducible refine le_drew ?_) | (with_reducible refine le_drewN ?_ _) | omega | (dsimp only; omega)))
  have hh := h.next hb0
  obtain ⟨w0, hw⟩ : ∃ w0, w.alloc (aidO z 39) = w0 := ⟨_, rfl⟩
  have hz : w.heap.size < w0.heap.size := by rw [← hw]; simp
  rw [hw] at hp hb0 hh
  obtain ⟨c0, c1, c2, c3, c4, c5, c6, c7, c8, c9, c10, c11, c12, c13, c14, c15, _⟩ := hp
  simp only [Nat.zero_add] at c1 c2 c3 c4 c5 c6 c7 c8 c9 c10 c11 c12 c13 c14 c15
  obtain ⟨sl, ss, bd⟩ := hh
  have b1 := bd.nm
  have b5 := bd.gs
  have b6 := bd.l
  have b7 := bd.cc
  have b8 := bd.ss
  have HB := Lib.hid bd
  clear bd
  have HH : Hid (AidOk w0 z) := Lib.hid (h00.next hb0)
  have ht0 := ht.next hb0
  have hv : hasLB z.a = (aidB z.a && litB z.a) := rfl
  rw [hv]
  have Hv := Lib.hid hv; clear hv
  cases ha : aidB z.a
  · go_enter Tryz.func21, Tryz.ntmps21
    go_wp2_with fail
    try rw [hw]
    clear hw
    refine (implValidAid_c z _ HH.out ht0).mono ?_
    rintro e w1 ⟨rfl, hb1⟩
    go_wp2_with fail
    go_ret
    exact ⟨rfl, hb0.trans (hb1.mono hb0.size)⟩
  · go_enter Tryz.func21, Tryz.ntmps21
    go_wp2_with fail
    try rw [hw]
    clear hw
    refine (implValidAid_c z _ HH.out ht0).mono ?_
    rintro e w1 ⟨rfl, hb1⟩
    have q1 := keepC hb1 w.heap.size hz
    go_wp2_with fail
    refine (lit_c z _ (HH.out.next hb1)).mono ?_
    rintro e w2 ⟨rfl, hb2⟩
    replace hb2 := hb1.trans (hb2.mono hb1.size)
    go_wp2_with fail
    go_ret
    exact ⟨ret_eq (bool_eq (by simp)), hb0.trans (hb2.mono hb0.size)⟩
end Go.Proofs.YtaooidgmphbegaaGreatDoor
/- The color of a light toward a point: plain; the program. -/
namespace Go.Proofs.YtaooidgmphbegaaGreatDoor
open Go.RowKit
def colTow (a : AidX) (u v : Int) : ByteArray := if a.secs = [] then a.ch.cs else colAt a.secs (bearI a.x a.y u v)
def colS (a : AidX) (u v : Int) : ByteArray := bif aidB a && ptB u v && (litB a && !(a.x == u && a.y == v)) then colTow a u v else ⟨#[]⟩
def colK (a : AidX) (u v : Int) : Int := bif aidB a && ptB u v then bif litB a && !(a.x == u && a.y == v) then 0 else 6 else 1
theorem aid_ptB {a : AidX} (h : aidB a = true) : ptB a.x a.y = true := by
  simp only [aidB, aidHeadB, Bool.and_eq_true] at h
  simp [ptB, h]
theorem lit_secs {a : AidX} (h : litB a = true) : secsB a.secs = true := by
  simp only [litB, Bool.and_eq_true] at h
  exact h.2.2.1
theorem secsB_P {l : List Sec} (h : secsB l = true) : secsP l := (of_decide_eq_true h).2
set_option maxRecDepth 100000 in
set_option maxHeartbeats 1000000 in
theorem colorToward_c (z : AidG) (u v : Int) (w : World) (h : AidOk w z) (hok : aidB z.a = true) (hl : litB z.a = true) (hQ : ptB u v = true) (hne : (z.a.x == u && z.a.y == v) = false) :
    Calls Tryz.prog 94 #[z.val, ptV u v] w fun e w' => e = .returned (.string (colTow z.a u v)) ∧ Below w.heap.size w w' := by
  have hb0 : Below w.heap.size w ((w.alloc (aidO z 39)).alloc (.cells #[.int .i64 u, .int .i64 v] 34)) := by (repeat (first | (with_reducible assumption) | (with_reducible exact Below.refl _ _) | exact Nat.le_refl _ | exact Below.size (by with_reducible assumption) | (with_reducible refine Below.drew ?_) | (with_reducible refine below_drewN ?_ _) | (with_reducible refine Below.alloc ?_ ?_ _) | (with_reducible refine Below.setCell ?_ ?_ _) | (with_reducible refine le_alloc ?_ _) | (with_reducible refine le_set ?_ _ _) | (with_reducible refine le_drew ?_) | (with_reducible refine le_drewN ?_ _) | omega | (dsimp only; omega)))
  have p1 := (aidp_box w z 39).next (w' := (w.alloc (aidO z 39)).alloc (.cells #[.int .i64 u, .int .i64 v] 34)) (by (repeat (first | (with_reducible assumption) | (with_reducible exact Below.refl _ _) | exact Nat.le_refl _ | exact Below.size (by with_reducible assumption) | (with_reducible refine Below.drew ?_) | (with_reducible refine below_drewN ?_ _) | (with_reducible refine Below.alloc ?_ ?_ _) | (with_reducible refine Below.setCell ?_ ?_ _) | (with_reducible refine le_alloc ?_ _) | (with_reducible refine le_set ?_ _ _) | (with_reducible refine le_drew ?_) | (with_reducible refine le_drewN ?_ _) | omega | (dsimp only; omega))))
  have p2 := PtP.box (w.alloc (aidO z 39)) u v
  have hsz : (w.alloc (aidO z 39)).heap.size = w.heap.size + 1 := by simp
  rw [hsz] at p2
  have s1 := h.next hb0
  obtain ⟨w0, hw⟩ : ∃ w0, (w.alloc (aidO z 39)).alloc (.cells #[.int .i64 u, .int .i64 v] 34) = w0 := ⟨_, rfl⟩
  have hz : w.heap.size < w0.heap.size := by rw [← hw]; simp; omega
  have hz' : w.heap.size + 1 < w0.heap.size := by rw [← hw]; simp
  rw [hw] at p1 p2 hb0 s1
  have f2 := p1.c2
  have f3 := p1.c3
  have f12 := p1.c12
  have f14 := p1.c14
  simp only [Nat.zero_add] at f2 f3 f12 f14
  obtain ⟨d0, d1, _⟩ := p2
  have hP := aid_ptB hok
  have hB : ∀ w1, Calls Tryz.prog 136 #[ptV z.a.x z.a.y, ptV u v] w1 fun e w' => e = .returned (.int .i64 (bearI z.a.x z.a.y u v)) ∧ Below w1.heap.size w1 w' := fun w1 => bearing_c _ _ u v w1 hP hQ hne
  obtain ⟨B, hBB⟩ : ∃ B, bearI z.a.x z.a.y u v = B := ⟨_, rfl⟩
  have hBin := bearI_in z.a.x z.a.y u v
  rw [hBB] at hB hBin
  have hsP := secsB_P (lit_secs hl)
  have hC : ∀ w1, Sl w1 w1.heap.size 3 z.B z.m (z.a.secs.flatMap Sec.cells) → Calls Tryz.prog 135 #[.slice z.B z.m z.d, .int .i64 B] w1 fun e w' => e = .returned (.string (colAt z.a.secs B)) ∧ Below w1.heap.size w1 w' := fun w1 h1 =>
    colorAt_c z.B z.m z.d z.a.secs B w1 h1 h.bd.ss (fun i hi => hsP.1 i hi) hBin
  have HSS : Hid (Sl w0 w0.heap.size 3 z.B z.m (z.a.secs.flatMap Sec.cells)) := Lib.hid s1.ss
  by_cases h0 : z.a.secs = []
  · have hT : colTow z.a u v = z.a.ch.cs := by rw [colTow, if_pos h0]
    have e0 : ((z.m : Int) == 0) = true := by simp [AidG.m, h0]
    rw [hT]
    have HB := Lib.hid hB; clear hB
    have HC := Lib.hid hC; clear hC
    have H0 := Lib.hid h0; clear h0
    clear hT s1 p1 hsP
    go_enter Tryz.func94, Tryz.ntmps94
    go_wp2_with fail
    go_ret
    exact ⟨rfl, hb0⟩
  · have hT : colTow z.a u v = colAt z.a.secs B := by rw [colTow, if_neg h0, hBB]
    have e0 : ((z.m : Int) == 0) = false := by
      have : 0 < z.a.secs.length := List.length_pos_iff.2 h0
      simp only [AidG.m, beq_eq_false_iff_ne, ne_eq]; omega
    rw [hT]
    have e1 : ∀ {w' : World}, Below w0.heap.size w0 w' → (Below w0.heap.size w0 w' ∧ (∀ x, w'.cell? ⟨w.heap.size, x, none⟩ = w0.cell? ⟨w.heap.size, x, none⟩) ∧ (∀ x, w'.cell? ⟨w.heap.size + 1, x, none⟩ = w0.cell? ⟨w.heap.size + 1, x, none⟩)) := fun hbb => ⟨hbb, keepC hbb _ hz, keepC hbb _ hz'⟩
    have HB := Lib.hid hB; clear hB
    have HC := Lib.hid hC; clear hC
    have H0 := Lib.hid h0; clear h0
    clear hT s1 p1 hsP
    go_enter Tryz.func94, Tryz.ntmps94
    go_wp2_with fail
    try rw [hw]
    clear hw
    go_region_held3 (fun w' => Below w0.heap.size w0 w' ∧ (∀ x, w'.cell? ⟨w.heap.size, x, none⟩ = w0.cell? ⟨w.heap.size, x, none⟩) ∧ (∀ x, w'.cell? ⟨w.heap.size + 1, x, none⟩ = w0.cell? ⟨w.heap.size + 1, x, none⟩)) (first | exact e1 (Below.refl _ _).drew | exact e1 ((Below.refl _ _).drew.trans hb7) | exact e1 (((Below.refl _ _).drew.trans hb7).trans (hb8.mono hb7.size))) (first | (go_at_call 136; refine (HB.out _).mono ?_; rintro e w7 ⟨rfl, hb7⟩) | (go_at_call 135; refine (HC.out _ (HSS.out.next ((Below.refl _ _).drew.trans hb7))).mono ?_; rintro e w8 ⟨rfl, hb8⟩))
    have hb9 := hb0.trans ((((Below.refl w0.heap.size w0).drew.trans hb7).trans (hb8.mono hb7.size)).mono hb0.size)
    go_wp2_with fail
    go_ret
    exact ⟨rfl, hb9⟩
end Go.Proofs.YtaooidgmphbegaaGreatDoor
/- The colors of all bearings: the reference. -/
namespace Go.Proofs.YtaooidgmphbegaaGreatDoor
open Go.RowKit
/-- What the inner loop has written. -/
def cirJ (s : Sec) (l : List Sec) (k : Nat) (j : Nat) (d : Nat) : ByteArray := if distI s.f d < j then s.c else cirN l d k
theorem cirJ_zero (s : Sec) (l : List Sec) (k d : Nat) : cirJ s l k 0 d = cirN l d k := by
  unfold cirJ; rw [if_neg (by unfold distI; omega)]
theorem cirJ_all {s : Sec} {l : List Sec} {k j : Nat} (d : Nat) (hs : sAt l k = s) (hj : (j : Int) = arcI s.f s.t) : cirJ s l k j d = cirN l d (k + 1) := by
  rw [cirJ, cirN, hs, hasD, hj]
  by_cases h : distI s.f d < arcI s.f s.t <;> simp [h]
theorem cirJ_step {s : Sec} {l : List Sec} {k j p : Nat} {ys : List Value} (hl : ys.length = 360) (hj : j < 360) (hf : 0 ≤ s.f ∧ s.f ≤ 359) (hp : (p : Int) = (s.f + j) % 360)
    (h : ∀ d, d < 360 → ys[d]? = some (.string (cirJ s l k j d))) : ∀ d, d < 360 → (ys.set p (.string s.c))[d]? = some (.string (cirJ s l k (j + 1) d)) := by
  intro d hd
  rw [List.getElem?_set]
  have hst := circ_step (f := s.f) (d := (d : Int)) hf ⟨by omega, by omega⟩ hj
  by_cases e : p = d
  · subst e
    rw [if_pos rfl, if_pos (by omega)]
    have : distI s.f (p : Int) = j := hst.1 hp.symm
    rw [cirJ, if_pos (by omega)]
  · rw [if_neg e, h d hd]
    have : distI s.f (d : Int) ≠ j := fun h2 => e (by have := hst.2 h2; omega)
    unfold cirJ
    by_cases h3 : distI s.f (d : Int) < j
    · rw [if_pos h3, if_pos (by omega)]
    · rw [if_neg h3, if_neg (by omega)]
theorem made_str (d : Nat) (hd : d < 360) : (madeCells (Value.string ByteArray.empty).cells 360)[d]? = some (.string ⟨#[]⟩) := by
  have e := toList_madeCells_one (.string ByteArray.empty) 360
  rw [show (Value.string ByteArray.empty).cells = #[.string ByteArray.empty] from rfl, ← Array.getElem?_toList, e, List.getElem?_replicate, if_pos hd]
  rfl
set_option maxRecDepth 100000 in
set_option maxHeartbeats 1000000 in
theorem l08Circle_c (A : Option Addr) (n c : Nat) (xs : List Sec) (w : World) (h : Sl w w.heap.size 3 A n (xs.flatMap Sec.cells)) (hm : n ≤ 1048576) (hv : ∀ i, i < n → secOk (sAt xs i) = true) :
    Calls Tryz.prog 133 #[.slice A n c] w fun e w' => e = .returned (.slice (some ⟨w.heap.size, 0, none⟩) 360 360) ∧ (∃ ys, w'.ownsRow w.heap.size 9 1 (.slice (some ⟨w.heap.size, 0, none⟩) 360 360) 360 ys ∧ ∀ d : Nat, d < 360 → ys[d]? = some (.string (cirN xs d n))) ∧ Below w.heap.size w w' := by
  obtain ⟨i0, hi, hz0, hz1, hz2⟩ := info_parts strInfo
  have hB : i0.bytes * 360 ≤ 281474976710656 := by rw [hz2]; omega
  have hM : 360 ≤ maxLen := by unfold maxLen; omega
  have HB := Lib.hid hB; clear hB
  have HM := Lib.hid hM; clear hM
  have Hv := Lib.hid hv; clear hv
  go_enter Tryz.func133, Tryz.ntmps133
  go_wp2_with (at_make; refine wpList_make_full _ rfl _ _ _ rfl w.heap.size 9 i0 _ 1 Tryz.underlying159 hi hz0 hz1 _ _ _ _ 360 rfl rfl rfl rfl HB.out HM.out (Nat.le_refl _) ?_; intro w1 hown hgr)
  have hb0 : Below w.heap.size w w1 := (Below.refl _ _).grown hgr (Nat.le_refl _) (by simp)
  clear hgr
  go_loopw [4] (fun i wr => ∃ (k : Nat) (ys : List Value), k ≤ n ∧ i = .int .i64 k ∧ wr.ownsRow w.heap.size 9 1 (.slice (some ⟨w.heap.size, 0, none⟩) 360 360) 360 ys ∧ Hid (∀ d : Nat, d < 360 → ys[d]? = some (.string (cirN xs d k))) ∧ Below w.heap.size w wr) (fun i _ => n - (intOf i).toNat)
  case atStart => exact ⟨0, _, Nat.zero_le _, rfl, hown, Lib.hid (fun d hd => by simp only [cirN, Array.getElem?_toList]; exact made_str d hd), hb0⟩
  case round =>
    clear hown hb0
    obtain ⟨k, ys, hk, rfl, hown, HY, hbw⟩ := hrel
    by_cases hlt : k < n
    · obtain ⟨b, off, s, rfl, hx, hsp⟩ := h.secP k hlt
      have j1 : (0 : Int) ≤ (k : Int) := by omega
      have j2 : (k : Int) < (n : Int) := by omega
      have hsk := sAt_eq hx
      have hok := Hv.out k hlt
      rw [hsk] at hok
      obtain ⟨hf, ht, _⟩ := secOk_bd hok
      have harc := arc_bd s.f s.t
      have Hsk := Lib.hid hsk; clear hsk
      have Hok := Lib.hid hok; clear hok
      have Hx := Lib.hid hx; clear hx
      go_wp2
      go_loopw [5] (fun i wj => ∃ (j : Nat) (zs : List Value), (j : Int) ≤ arcI s.f s.t ∧ i = .int .i64 j ∧ wj.ownsRow w.heap.size 9 1 (.slice (some ⟨w.heap.size, 0, none⟩) 360 360) 360 zs ∧ Hid (∀ d : Nat, d < 360 → zs[d]? = some (.string (cirJ s xs k j d))) ∧ Below w.heap.size w wj) (fun i _ => 360 - (intOf i).toNat)
      case atStart => exact ⟨0, ys, by omega, rfl, hown, Lib.hid (fun d hd => by rw [cirJ_zero]; exact HY.out d hd), hbw⟩
      case round =>
        clear hown hbw
        obtain ⟨j, zs, hj, rfl, hown, HZ, hbj⟩ := hrel
        have hs2 := hsp.next hbj
        obtain ⟨c0, c1, c2, hb⟩ := id hs2
        have hyl := hown.1
        obtain ⟨R, hR⟩ : ∃ R, arcI s.f s.t = R := ⟨_, rfl⟩
        have hA : ∀ m, Calls Tryz.prog 156 #[.pointer (some ⟨b, off + k * 3, none⟩)] (wr.drewN m) fun e w' => e = .returned (.int .i64 R) ∧ ∃ n, w' = (wr.drewN m).drewN n := fun m => hR ▸ l08Arc_c b (off + k * 3) s _ (hs2.q m) hf ht
        have hA0 : Calls Tryz.prog 156 #[.pointer (some ⟨b, off + k * 3, none⟩)] wr fun e w' => e = .returned (.int .i64 R) ∧ ∃ n, w' = wr.drewN n := hR ▸ l08Arc_c b (off + k * 3) s _ hs2 hf ht
        rw [hR] at hj harc
        have HR := Lib.hid hR; clear hR
        have HA0 := Lib.hid hA0; clear hA0
        have Hyl := Lib.hid hyl; clear hyl
        clear hA
        by_cases hltj : (j : Int) < R
        · obtain ⟨p, hp⟩ : ∃ p : Nat, (p : Int) = (s.f + j) % 360 := by
            obtain ⟨p, hp⟩ := Int.eq_ofNat_of_zero_le (show 0 ≤ (s.f + (j : Int)) % 360 by omega)
            exact ⟨p, hp.symm⟩
          have hrem : (s.f + (j : Int)).tmod 360 = (p : Int) := by rw [Int.tmod_eq_emod_of_nonneg (by omega)]; exact hp.symm
          have p0 : (0 : Int) ≤ (p : Int) := by omega
          have p1 : (p : Int) < 360 := by omega
          have p2 : p < 360 := by omega
          obtain ⟨y0, f0⟩ := own_cell hown p (by omega)
          have f3 := hown.frozenAt
          have Hp := Lib.hid hp; clear hp
          go_wp2_with (go_at_call 156; refine HA0.out.mono ?_; rintro e w2 ⟨rfl, m, rfl⟩)
          go_region
          go_wp2
          go_roundw
          case rel =>
            exact ⟨j + 1, zs.set p (.string s.c), by have := HR.out; omega, by go_num, ((own_next hown (below_drewN (Below.refl _ _) (m + 1))).stored p _).1, Lib.hid (cirJ_step (by have := Hyl.out; omega) (by omega) hf Hp.out HZ.out), (below_drewN hbj (m + 1)).setCell (Nat.le_refl _) _⟩
          case measure => simp [intOf]; omega
        · have hjR : Hid ((j : Int) = R) := Lib.hid (by omega)
          go_wp2_with (go_at_call 156; refine HA0.out.mono ?_; rintro e w2 ⟨rfl, m, rfl⟩)
          go_roundw
          case rel => exact ⟨k + 1, zs, by omega, by go_num, own_next hown (below_drewN (Below.refl _ _) m), Lib.hid (fun d hd => by rw [HZ.out d hd, cirJ_all d Hsk.out (by rw [hjR.out, HR.out])]), below_drewN hbj m⟩
          case measure => simp [intOf]; omega
    · obtain rfl : k = n := by omega
      go_wp2
      go_ret
      exact ⟨rfl, ⟨ys, hown, HY.out⟩, hbw⟩
end Go.Proofs.YtaooidgmphbegaaGreatDoor
/- The color of a light toward a point: the reference. -/
namespace Go.Proofs.YtaooidgmphbegaaGreatDoor
open Go.RowKit
set_option maxRecDepth 100000 in
set_option maxHeartbeats 1000000 in
theorem l12Color_c (b : Nat) (z : AidG) (u v : Int) (w : World) (hp : AidP w b 0 z) (h : AidOk w z) (hok : aidB z.a = true) (hl : litB z.a = true) (hQ : ptB u v = true) :
    Calls Tryz.prog 93 #[.pointer (some ⟨b, 0, none⟩), ptV u v] w fun e w' => e = .returned (.string (colTow z.a u v)) ∧ Below w.heap.size w w' := by
  have hb0 : Below w.heap.size w (w.alloc (.cells #[.int .i64 u, .int .i64 v] 34)) := by (repeat (first | (with_reducible assumption) | (with_reducible exact Below.refl _ _) | exact Nat.le_refl _ | exact Below.size (by with_reducible assumption) | (with_reducible refine Below.drew ?_) | (with_reducible refine below_drewN ?_ _) | (with_reducible refine Below.alloc ?_ ?_ _) | (with_reducible refine Below.setCell ?_ ?_ _) | (with_reducible refine le_alloc ?_ _) | (with_reducible refine le_set ?_ _ _) | (with_reducible refine le_drew ?_) | (with_reducible refine le_drewN ?_ _) | omega | (dsimp only; omega)))
  have p1 := hp.next hb0
  have p2 := PtP.box w u v
  have s1 := h.next hb0
  obtain ⟨w0, hw⟩ : ∃ w0, w.alloc (.cells #[.int .i64 u, .int .i64 v] 34) = w0 := ⟨_, rfl⟩
  rw [hw] at p1 p2 hb0 s1
  have hz := p1.hb
  have hz' := p2.hb
  have f2 := p1.c2
  have f3 := p1.c3
  have f12 := p1.c12
  have f14 := p1.c14
  simp only [Nat.zero_add] at f2 f3 f12 f14
  obtain ⟨d0, d1, _⟩ := p2
  have bP := ptB_bd (aid_ptB hok)
  have bQ := ptB_bd hQ
  obtain ⟨B, hBB⟩ : ∃ B : Nat, bearI z.a.x z.a.y u v = B := ⟨topN (alongI z.a.x z.a.y u v) 360, rfl⟩
  have hB : ∀ w1, Calls Tryz.prog 134 #[ptV z.a.x z.a.y, ptV u v] w1 fun e w' => e = .returned (.int .i64 (B : Nat)) ∧ Below w1.heap.size w1 w' := fun w1 => hBB ▸ l02Bearing_c _ _ u v w1 bP.1 bP.2 bQ.1 bQ.2
  have hBin := bearI_in z.a.x z.a.y u v
  rw [hBB] at hBin
  have hsP := secsB_P (lit_secs hl)
  have hC : ∀ w1, Below w0.heap.size w0 w1 → Calls Tryz.prog 133 #[.slice z.B z.m z.d] w1 fun e w' => e = .returned (.slice (some ⟨w1.heap.size, 0, none⟩) 360 360) ∧ w'.cell? ⟨w1.heap.size, B, none⟩ = some (.string (colAt z.a.secs B)) ∧ w1.heap.size < w'.heap.size ∧ Below w1.heap.size w1 w' := fun w1 h1 =>
    (l08Circle_c z.B z.m z.d z.a.secs w1 (s1.ss.next h1) h.bd.ss (fun i hi => hsP.1 i hi)).mono fun e w' ⟨he, ⟨ys, ho, hy⟩, hb⟩ => by
      have hc := ho.cellAt B (by omega)
      have hy2 := hy B (by omega)
      rw [show z.m = z.a.secs.length from rfl, cir_col hsP] at hy2
      exact ⟨he, hc.trans hy2, (ho.lt _ rfl).2, hb⟩
  have j1 : (0 : Int) ≤ (B : Int) := by omega
  have j2 : (B : Int) < 360 := by omega
  by_cases h0 : z.a.secs = []
  · have hT : colTow z.a u v = z.a.ch.cs := by rw [colTow, if_pos h0]
    have e0 : ((z.m : Int) == 0) = true := by simp [AidG.m, h0]
    rw [hT]
    have HB := Lib.hid hB; clear hB
    have HC := Lib.hid hC; clear hC
    have H0 := Lib.hid h0; clear h0
    have HBB := Lib.hid hBB; clear hBB
    clear hT s1 p1 hsP
    go_enter Tryz.func93, Tryz.ntmps93
    go_wp2_with fail
    go_ret
    exact ⟨rfl, hb0⟩
  · have hT : colTow z.a u v = colAt z.a.secs B := by rw [colTow, if_neg h0, hBB]
    have e0 : ((z.m : Int) == 0) = false := by
      have : 0 < z.a.secs.length := List.length_pos_iff.2 h0
      simp only [AidG.m, beq_eq_false_iff_ne, ne_eq]; omega
    rw [hT]
    have e1 : ∀ {w' : World}, Below w0.heap.size w0 w' → (Below w0.heap.size w0 w' ∧ (∀ x, w'.cell? ⟨b, x, none⟩ = w0.cell? ⟨b, x, none⟩) ∧ (∀ x, w'.cell? ⟨w.heap.size, x, none⟩ = w0.cell? ⟨w.heap.size, x, none⟩)) := fun hbb => ⟨hbb, keepC hbb _ hz, keepC hbb _ hz'⟩
    have HB := Lib.hid hB; clear hB
    have HC := Lib.hid hC; clear hC
    have H0 := Lib.hid h0; clear h0
    have HBB := Lib.hid hBB; clear hBB
    clear hT s1 p1 hsP
    go_enter Tryz.func93, Tryz.ntmps93
    go_wp2_with fail
    try rw [hw]
    clear hw
    refine wp_region_held_drew (S := fun w' => Below w0.heap.size w0 w' ∧ (∀ x, w'.cell? ⟨b, x, none⟩ = w0.cell? ⟨b, x, none⟩) ∧ (∀ x, w'.cell? ⟨w.heap.size, x, none⟩ = w0.cell? ⟨w.heap.size, x, none⟩)) (by kernel_rfl) (e1 (Below.refl _ _).drew) (fun hHeld => ?_)
    (first
      | (refine wpAnyH_take (i := 0) (v := ?_) rfl (by kernel_rfl) (by kernel_rfl) (by kernel_rfl) (fun _ _ _ h => h) (Or.inl ⟨by rfl, ?_⟩) (by assumption) ?_
         rotate_left
         focus (intro wq hSq; (try dsimp only at hSq); go_simp; (try (with_reducible rfl)); done))
      | (refine wpAnyH_take (i := 0) (v := undef) rfl (by kernel_rfl) (by kernel_rfl) (by kernel_rfl) (fun _ _ _ h => h) (Or.inr ⟨by rfl, rfl⟩) (by assumption) ?_)
      | fail "take 0")
    try simp only [Act.put, List.setIfInBounds_toArray, List.set_cons_zero, List.set_cons_succ, List.getElem_toArray, List.getElem_cons_zero]
    (first
      | (refine wpAnyH_take (i := 1) (v := ?_) rfl (by kernel_rfl) (by kernel_rfl) (by kernel_rfl) (fun _ _ _ h => h) (Or.inl ⟨by rfl, ?_⟩) (by assumption) ?_
         rotate_left
         focus (intro wq hSq; (try dsimp only at hSq); go_simp; (try (with_reducible rfl)); done))
      | (refine wpAnyH_take (i := 1) (v := undef) rfl (by kernel_rfl) (by kernel_rfl) (by kernel_rfl) (fun _ _ _ h => h) (Or.inr ⟨by rfl, rfl⟩) (by assumption) ?_)
      | fail "take 1")
    try simp only [Act.put, List.setIfInBounds_toArray, List.set_cons_zero, List.set_cons_succ, List.getElem_toArray, List.getElem_cons_zero, List.getElem_cons_succ]
    (first
      | (refine wpAnyH_take (i := 2) (v := ?_) rfl (by kernel_rfl) (by kernel_rfl) (by kernel_rfl) (fun _ _ _ h => h) (Or.inl ⟨by rfl, ?_⟩) (by assumption) ?_
         rotate_left
         focus (intro wq hSq; (try dsimp only at hSq); go_simp; (try (with_reducible rfl)); done))
      | (refine wpAnyH_take (i := 2) (v := undef) rfl (by kernel_rfl) (by kernel_rfl) (by kernel_rfl) (fun _ _ _ h => h) (Or.inr ⟨by rfl, rfl⟩) (by assumption) ?_)
      | fail "take 2")
    try simp only [Act.put, List.setIfInBounds_toArray, List.set_cons_zero, List.set_cons_succ, List.getElem_toArray, List.getElem_cons_zero, List.getElem_cons_succ]
    (first
      | (refine wpAnyH_take (i := 3) (v := ?_) rfl (by kernel_rfl) (by kernel_rfl) (by kernel_rfl) (fun _ _ _ h => h) (Or.inl ⟨by rfl, ?_⟩) (by assumption) ?_
         rotate_left
         focus (intro wq hSq; (try dsimp only at hSq); go_simp; (try (with_reducible rfl)); done))
      | (refine wpAnyH_take (i := 3) (v := undef) rfl (by kernel_rfl) (by kernel_rfl) (by kernel_rfl) (fun _ _ _ h => h) (Or.inr ⟨by rfl, rfl⟩) (by assumption) ?_)
      | fail "take 3")
    try simp only [Act.put, List.setIfInBounds_toArray, List.set_cons_zero, List.set_cons_succ, List.getElem_toArray, List.getElem_cons_zero, List.getElem_cons_succ]
    (first
      | (refine wpAnyH_take (i := 5) (v := ?_) rfl (by kernel_rfl) (by kernel_rfl) (by kernel_rfl) (fun _ _ _ h => h) (Or.inl ⟨by rfl, ?_⟩) (by assumption) ?_
         rotate_left
         focus (intro wq hSq; (try dsimp only at hSq); go_simp; (try (with_reducible rfl)); done))
      | (refine wpAnyH_take (i := 5) (v := undef) rfl (by kernel_rfl) (by kernel_rfl) (by kernel_rfl) (fun _ _ _ h => h) (Or.inr ⟨by rfl, rfl⟩) (by assumption) ?_)
      | fail "take 5")
    try simp only [Act.put, List.setIfInBounds_toArray, List.set_cons_zero, List.set_cons_succ, List.getElem_toArray, List.getElem_cons_zero, List.getElem_cons_succ]
    (first
      | (refine wpAnyH_take (i := 6) (v := ?_) rfl (by kernel_rfl) (by kernel_rfl) (by kernel_rfl) (fun _ _ _ h => h) (Or.inl ⟨by rfl, ?_⟩) (by assumption) ?_
         rotate_left
         focus (intro wq hSq; (try dsimp only at hSq); go_simp; (try (with_reducible rfl)); done))
      | (refine wpAnyH_take (i := 6) (v := undef) rfl (by kernel_rfl) (by kernel_rfl) (by kernel_rfl) (fun _ _ _ h => h) (Or.inr ⟨by rfl, rfl⟩) (by assumption) ?_)
      | fail "take 6")
    try simp only [Act.put, List.setIfInBounds_toArray, List.set_cons_zero, List.set_cons_succ, List.getElem_toArray, List.getElem_cons_zero, List.getElem_cons_succ]
    (first
      | (refine wpAnyH_take (i := 7) (v := ?_) rfl (by kernel_rfl) (by kernel_rfl) (by kernel_rfl) (fun _ _ _ h => h) (Or.inl ⟨by rfl, ?_⟩) (by assumption) ?_
         rotate_left
         focus (intro wq hSq; (try dsimp only at hSq); go_simp; (try (with_reducible rfl)); done))
      | (refine wpAnyH_take (i := 7) (v := undef) rfl (by kernel_rfl) (by kernel_rfl) (by kernel_rfl) (fun _ _ _ h => h) (Or.inr ⟨by rfl, rfl⟩) (by assumption) ?_)
      | fail "take 7")
    try simp only [Act.put, List.setIfInBounds_toArray, List.set_cons_zero, List.set_cons_succ, List.getElem_toArray, List.getElem_cons_zero, List.getElem_cons_succ]
    (first
      | (refine wpAnyH_take (i := 8) (v := ?_) rfl (by kernel_rfl) (by kernel_rfl) (by kernel_rfl) (fun _ _ _ h => h) (Or.inl ⟨by rfl, ?_⟩) (by assumption) ?_
         rotate_left
         focus (intro wq hSq; (try dsimp only at hSq); go_simp; (try (with_reducible rfl)); done))
      | (refine wpAnyH_take (i := 8) (v := undef) rfl (by kernel_rfl) (by kernel_rfl) (by kernel_rfl) (fun _ _ _ h => h) (Or.inr ⟨by rfl, rfl⟩) (by assumption) ?_)
      | fail "take 8")
    try simp only [Act.put, List.setIfInBounds_toArray, List.set_cons_zero, List.set_cons_succ, List.getElem_toArray, List.getElem_cons_zero, List.getElem_cons_succ]
    (first
      | (refine wpAnyH_take (i := 9) (v := ?_) rfl (by kernel_rfl) (by kernel_rfl) (by kernel_rfl) (fun _ _ _ h => h) (Or.inl ⟨by rfl, ?_⟩) (by assumption) ?_
         rotate_left
         focus (intro wq hSq; (try dsimp only at hSq); go_simp; (try (with_reducible rfl)); done))
      | (refine wpAnyH_take (i := 9) (v := undef) rfl (by kernel_rfl) (by kernel_rfl) (by kernel_rfl) (fun _ _ _ h => h) (Or.inr ⟨by rfl, rfl⟩) (by assumption) ?_)
      | fail "take 9")
    try simp only [Act.put, List.setIfInBounds_toArray, List.set_cons_zero, List.set_cons_succ, List.getElem_toArray, List.getElem_cons_zero, List.getElem_cons_succ]
    refine wpAnyH_ready (rs := [4]) (by kernel_rfl) (by simp) ?_
    refine AllReadyH.cons (o := _) rfl (fun K hK => ?_) AllReadyH.nil
    go_simp
    refine (HC.out _ (Below.refl _ _).drew).mono ?_; rintro e w7 ⟨rfl, hcell, hsz, hb7⟩
    refine hK.out _ _ ?_ (fun hHeld => ?_)
    · exact e1 ((Below.refl _ _).drew.trans hb7)
    clear hK K
    try simp only [Act.put, List.setIfInBounds_toArray, List.set_cons_zero, List.set_cons_succ, List.getElem_toArray, List.getElem_cons_zero, List.getElem_cons_succ]
    refine wpAnyH_ready (rs := [10]) (by kernel_rfl) (by simp) ?_
    refine AllReadyH.cons (o := _) rfl (fun K hK => ?_) AllReadyH.nil
    go_simp
    refine (HB.out _).mono ?_; rintro e w8 ⟨rfl, hb8⟩
    refine hK.out _ _ ?_ (fun hHeld => ?_)
    · exact e1 (((Below.refl _ _).drew.trans hb7).trans (hb8.mono hb7.size))
    clear hK K
    try simp only [Act.put, List.setIfInBounds_toArray, List.set_cons_zero, List.set_cons_succ, List.getElem_toArray, List.getElem_cons_zero, List.getElem_cons_succ]
    have q8 := keepC hb8 _ hsz
    have c8 : w8.cell? ⟨w0.heap.size, B, none⟩ = some (.string (colAt z.a.secs B)) := (q8 _).trans hcell
    (first
      | (refine wpAnyH_take (i := 11) (v := ?_) rfl (by kernel_rfl) (by kernel_rfl) (by kernel_rfl) (fun _ _ _ h => h) (Or.inl ⟨by rfl, ?_⟩) (by assumption) ?_
         rotate_left
         focus (intro wq hSq; (try dsimp only at hSq); go_simp; (try (with_reducible rfl)); done))
      | (refine wpAnyH_take (i := 11) (v := undef) rfl (by kernel_rfl) (by kernel_rfl) (by kernel_rfl) (fun _ _ _ h => h) (Or.inr ⟨by rfl, rfl⟩) (by assumption) ?_)
      | fail "take 11")
    try simp only [Act.put, List.setIfInBounds_toArray, List.set_cons_zero, List.set_cons_succ, List.getElem_toArray, List.getElem_cons_zero, List.getElem_cons_succ]
    refine wpAnyH_ready (rs := [12]) (by kernel_rfl) (by simp) ?_
    refine AllReadyH.cons (o := _) rfl (fun K hK => ?_) AllReadyH.nil
    go_simp
    refine hK.out _ _ ?_ (fun hHeld => ?_)
    · exact e1 (((Below.refl _ _).drew.trans hb7).trans (hb8.mono hb7.size))
    clear hK K
    try simp only [Act.put, List.setIfInBounds_toArray, List.set_cons_zero, List.set_cons_succ, List.getElem_toArray, List.getElem_cons_zero, List.getElem_cons_succ]
    (first
      | (refine wpAnyH_take (i := 13) (v := ?_) rfl (by kernel_rfl) (by kernel_rfl) (by kernel_rfl) (fun _ _ _ h => h) (Or.inl ⟨by rfl, ?_⟩) (by assumption) ?_
         rotate_left
         focus (intro wq hSq; (try dsimp only at hSq); go_simp; (try (with_reducible rfl)); done))
      | (refine wpAnyH_take (i := 13) (v := undef) rfl (by kernel_rfl) (by kernel_rfl) (by kernel_rfl) (fun _ _ _ h => h) (Or.inr ⟨by rfl, rfl⟩) (by assumption) ?_)
      | fail "take 13")
    try simp only [Act.put, List.setIfInBounds_toArray, List.set_cons_zero, List.set_cons_succ, List.getElem_toArray, List.getElem_cons_zero, List.getElem_cons_succ]
    refine wpAnyH_done (by kernel_rfl) ?_ _
    have hb9 := hb0.trans ((((Below.refl w0.heap.size w0).drew.trans hb7).trans (hb8.mono hb7.size)).mono hb0.size)
    clear hHeld
    go_wp2_with fail
    go_ret
    exact ⟨rfl, hb9⟩
end Go.Proofs.YtaooidgmphbegaaGreatDoor
/- ColorToward: both sides. -/
namespace Go.Proofs.YtaooidgmphbegaaGreatDoor
open Go.RowKit
set_option maxRecDepth 100000 in
set_option maxHeartbeats 2000000 in
theorem specColor_c (z : AidG) (u v : Int) (w : World) (h : AidOk w z) :
    Calls Tryz.prog 45 #[z.val, ptV u v] w fun e w' => e = .returned (.tuple #[.string (colS z.a u v), .int .i64 (colK z.a u v)]) ∧ Below w.heap.size w w' := by
  have hb0 : Below w.heap.size w ((w.alloc (aidO z 39)).alloc (.cells #[.int .i64 u, .int .i64 v] 34)) := by (repeat (first | (with_reducible assumption) | (with_reducible exact Below.refl _ _) | exact Nat.le_refl _ | exact Below.size (by with_reducible assumption) | (with_reducible refine Below.drew ?_) | (with_reducible refine below_drewN ?_ _) | (with_reducible refine Below.alloc ?_ ?_ _) | (with_reducible refine Below.setCell ?_ ?_ _) | (with_reducible refine le_alloc ?_ _) | (with_reducible refine le_set ?_ _ _) | (with_reducible refine le_drew ?_) | (with_reducible refine le_drewN ?_ _) | omega | (dsimp only; omega)))
  have p1 := (aidp_box w z 39).next (w' := (w.alloc (aidO z 39)).alloc (.cells #[.int .i64 u, .int .i64 v] 34)) (by (repeat (first | (with_reducible assumption) | (with_reducible exact Below.refl _ _) | exact Nat.le_refl _ | exact Below.size (by with_reducible assumption) | (with_reducible refine Below.drew ?_) | (with_reducible refine below_drewN ?_ _) | (with_reducible refine Below.alloc ?_ ?_ _) | (with_reducible refine Below.setCell ?_ ?_ _) | (with_reducible refine le_alloc ?_ _) | (with_reducible refine le_set ?_ _ _) | (with_reducible refine le_drew ?_) | (with_reducible refine le_drewN ?_ _) | omega | (dsimp only; omega))))
  have p2 := PtP.box (w.alloc (aidO z 39)) u v
  have hsz : (w.alloc (aidO z 39)).heap.size = w.heap.size + 1 := by simp
  rw [hsz] at p2
  have s1 := h.next hb0
  obtain ⟨w0, hw⟩ : ∃ w0, (w.alloc (aidO z 39)).alloc (.cells #[.int .i64 u, .int .i64 v] 34) = w0 := ⟨_, rfl⟩
  rw [hw] at p1 p2 hb0 s1
  clear hsz
  obtain ⟨T, hT⟩ : ∃ T, colTow z.a u v = T := ⟨_, rfl⟩
  obtain ⟨A, hA⟩ : ∃ A, aidB z.a = A := ⟨_, rfl⟩
  obtain ⟨Q, hQ⟩ : ∃ Q, ptB u v = Q := ⟨_, rfl⟩
  obtain ⟨L, hL⟩ : ∃ L, litB z.a = L := ⟨_, rfl⟩
  obtain ⟨E, hE⟩ : ∃ E, (z.a.x == u && z.a.y == v) = E := ⟨_, rfl⟩
  have he := eql_point z.a.x z.a.y u v
  have hg := pointGuard
  rw [hE] at he
  have hS : colS z.a u v = bif A && Q && (L && !E) then T else ⟨#[]⟩ := by rw [colS, hA, hQ, hL, hE, hT]
  have hK : colK z.a u v = bif A && Q then bif L && !E then 0 else 6 else 1 := by rw [colK, hA, hQ, hL, hE]
  rw [hS, hK]
  clear hS hK
  have hO : Calls Tryz.prog 64 #[.pointer (some ⟨w.heap.size, 0, none⟩)] w0 fun e w' => e = .returned (.bool A) ∧ Below w0.heap.size w0 w' := hA ▸ l12One_c w.heap.size 0 z w0 p1 s1
  have hP : ∀ w1, Calls Tryz.prog 84 #[ptV u v] w1 fun e w' => e = .returned (.bool Q) ∧ Below w1.heap.size w1 w' := fun w1 => hQ ▸ l02Ok_c u v w1
  have hI : ∀ w1, A = true → Below w0.heap.size w0 w1 → Calls Tryz.prog 79 #[.pointer (some ⟨w.heap.size, 0, none⟩)] w1 fun e w' => e = .returned (.bool L) ∧ w1 = w' := fun w1 h1 hb => by
    have := l12Lit_c w.heap.size 0 z w1 (p1.next hb)
    rwa [has_kind (hA.trans h1), hL] at this
  have hC : ∀ w1, A = true → Q = true → L = true → Below w0.heap.size w0 w1 → Calls Tryz.prog 93 #[.pointer (some ⟨w.heap.size, 0, none⟩), ptV u v] w1 fun e w' => e = .returned (.string T) ∧ Below w1.heap.size w1 w' := fun w1 h1 h2 h3 hb => hT ▸ l12Color_c w.heap.size z u v w1 (p1.next hb) (s1.next hb) (hA.trans h1) (hL.trans h3) (hQ.trans h2)
  have HO := Lib.hid hO; clear hO
  have HP := Lib.hid hP; clear hP
  have HI := Lib.hid hI; clear hI
  have HC := Lib.hid hC; clear hC
  clear hT hA hQ hL hE s1 h
  cases A
  · go_enter Tryz.func45, Tryz.ntmps45
    go_wp2_with fail
    try rw [hw]
    clear hw
    refine HO.out.mono ?_
    rintro e w1 ⟨rfl, hb1⟩
    go_wp2_with fail
    go_ret2
    exact ⟨rfl, hb0.trans (hb1.mono hb0.size)⟩
  cases Q
  · go_enter Tryz.func45, Tryz.ntmps45
    go_wp2_with fail
    try rw [hw]
    clear hw
    refine HO.out.mono ?_
    rintro e w1 ⟨rfl, hb1⟩
    obtain ⟨d0, d1, _⟩ := p2.next hb1
    have f2 := (p1.next hb1).c2
    have f3 := (p1.next hb1).c3
    simp only [Nat.zero_add] at f2 f3
    go_wp2_with fail
    refine (HP.out _).mono ?_
    rintro e w2 ⟨rfl, hb2⟩
    replace hb2 := hb1.trans (hb2.mono hb1.size)
    go_wp2_with fail
    go_ret2
    exact ⟨rfl, hb0.trans (hb2.mono hb0.size)⟩
  cases L
  · go_enter Tryz.func45, Tryz.ntmps45
    go_wp2_with fail
    try rw [hw]
    clear hw
    refine HO.out.mono ?_
    rintro e w1 ⟨rfl, hb1⟩
    obtain ⟨d0, d1, _⟩ := p2.next hb1
    have f2 := (p1.next hb1).c2
    have f3 := (p1.next hb1).c3
    simp only [Nat.zero_add] at f2 f3
    go_wp2_with fail
    refine (HP.out _).mono ?_
    rintro e w2 ⟨rfl, hb2⟩
    replace hb2 := hb1.trans (hb2.mono hb1.size)
    go_wp2_with fail
    refine (HI.out _ (by simp) hb2).mono ?_
    rintro e w3 ⟨rfl, rfl⟩
    go_wp2_with fail
    go_ret2
    exact ⟨rfl, hb0.trans (hb2.mono hb0.size)⟩
  cases E
  · go_enter Tryz.func45, Tryz.ntmps45
    go_wp2_with fail
    try rw [hw]
    clear hw
    refine HO.out.mono ?_
    rintro e w1 ⟨rfl, hb1⟩
    obtain ⟨d0, d1, _⟩ := p2.next hb1
    have f2 := (p1.next hb1).c2
    have f3 := (p1.next hb1).c3
    simp only [Nat.zero_add] at f2 f3
    go_wp2_with fail
    refine (HP.out _).mono ?_
    rintro e w2 ⟨rfl, hb2⟩
    replace hb2 := hb1.trans (hb2.mono hb1.size)
    clear f2 f3 d0 d1
    obtain ⟨d0, d1, _⟩ := p2.next hb2
    have f2 := (p1.next hb2).c2
    have f3 := (p1.next hb2).c3
    simp only [Nat.zero_add] at f2 f3
    go_wp2_with fail
    refine (HI.out _ (by simp) hb2).mono ?_
    rintro e w3 ⟨rfl, rfl⟩
    go_wp2_with fail
    refine (HC.out _ (by simp) (by simp) (by simp) hb2).mono ?_
    rintro e w4 ⟨rfl, hb4⟩
    go_wp2_with fail
    go_ret2
    exact ⟨rfl, hb0.trans ((hb2.trans (hb4.mono hb2.size)).mono hb0.size)⟩
  · go_enter Tryz.func45, Tryz.ntmps45
    go_wp2_with fail
    try rw [hw]
    clear hw
    refine HO.out.mono ?_
    rintro e w1 ⟨rfl, hb1⟩
    obtain ⟨d0, d1, _⟩ := p2.next hb1
    have f2 := (p1.next hb1).c2
    have f3 := (p1.next hb1).c3
    simp only [Nat.zero_add] at f2 f3
    go_wp2_with fail
    refine (HP.out _).mono ?_
    rintro e w2 ⟨rfl, hb2⟩
    replace hb2 := hb1.trans (hb2.mono hb1.size)
    clear f2 f3 d0 d1
    obtain ⟨d0, d1, _⟩ := p2.next hb2
    have f2 := (p1.next hb2).c2
    have f3 := (p1.next hb2).c3
    simp only [Nat.zero_add] at f2 f3
    go_wp2_with fail
    refine (HI.out _ (by simp) hb2).mono ?_
    rintro e w3 ⟨rfl, rfl⟩
    go_wp2_with fail
    go_ret2
    exact ⟨rfl, hb0.trans (hb2.mono hb0.size)⟩
end Go.Proofs.YtaooidgmphbegaaGreatDoor
