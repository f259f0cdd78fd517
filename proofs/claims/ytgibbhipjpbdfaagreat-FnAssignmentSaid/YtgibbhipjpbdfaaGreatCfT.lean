/- CfT: several of my texts in one. -/
import Derived.Test.YtgibbhipjpbdfaaGreatMatG
import Derived.Test.YtgibbhipjpbdfaaGreatCfS
import Derived.Test.YtgibbhipjpbdfaaGreatCfI
import Derived.Lib.OthersKept

/- A colour of a valid character. Plain facts, no program. -/
namespace Go.Proofs.YtgibbhipjpbdfaaGreat
open Go.RowKit
theorem colB_ext {x : Ch} (h : validB x = true) {i : Nat} (hi : i < x.cs.size) : colB (x.cs.extract i (i + 1)) = true := by
  have hsh := valid_shape h
  simp only [shapeB, colorsB, Bool.and_eq_true, allB_iff] at hsh
  have h1 := hsh.1.1 i hi
  simp only [colOk, Bool.and_eq_true, decide_eq_true_eq] at h1
  have h2 := h1.1
  rw [bt_eq _ _ hi] at h2
  have h3 : (x.cs[i].toNat : Int) = 87 ∨ (x.cs[i].toNat : Int) = 82 ∨ (x.cs[i].toNat : Int) = 71 ∨ (x.cs[i].toNat : Int) = 89 := by
    unfold rankI at h2
    (repeat' split at h2) <;> omega
  have e : ∀ {c : UInt8} {n : Nat}, (c.toNat : Int) = (n : Int) → n < 256 → c = n.toUInt8 := by
    intro c n h hn
    have : c.toNat = n := by omega
    rw [← this]; simp
  rw [colB, ext_one _ _ hi]
  rcases h3 with h3 | h3 | h3 | h3
  · rw [e (n := 87) h3 (by decide)]; decide
  · rw [e (n := 82) h3 (by decide)]; decide
  · rw [e (n := 71) h3 (by decide)]; decide
  · rw [e (n := 89) h3 (by decide)]; decide
theorem hasC_ext (s : ByteArray) {i : Nat} (hi : i < s.size) : hasC s (s.extract i (i + 1)) = true := by
  rw [hasC, ext_one _ _ hi]
  simp only [decide_eq_true_eq]
  rw [toL]
  have : s.data.toList[i]? = some s[i] := by rw [List.getElem?_eq_getElem (by simpa using hi)]; rfl
  exact List.mem_of_getElem? this
end Go.Proofs.YtgibbhipjpbdfaaGreat

/- Two valid characters and their common colours. Plain facts, no program. -/
namespace Go.Proofs.YtgibbhipjpbdfaaGreat
open Go.RowKit
theorem ten_pos {x : Ch} (h : validB x = true) (co : ByteArray) : 1 ≤ (tenC (phasesL x co)).length := by
  have h1 := tenL_len (ps := phasesL x co) fun p hp => by have := phases_pos h p hp; omega
  have h2 := tot_pos h co
  rw [tenC, List.length_map]
  omega
theorem okS_ph {x : Ch} {co : ByteArray} (h : colB co = true) : ∀ p ∈ phasesL x co, okS p.c := fun p hp => by
  obtain ⟨j, hj⟩ := List.getElem?_of_mem hp
  rw [phases_col hj]
  cases litAt (ocB x) j
  · exact okS_emp
  · exact okS_col h
theorem len_ph {x : Ch} (h : validB x = true) (co : ByteArray) : ∀ p ∈ phasesL x co, 0 ≤ p.len ∧ p.len ≤ 600 := fun p hp => by
  have := phases_pos h p hp; omega
theorem num_ph {x : Ch} (h : validB x = true) (co : ByteArray) : (phasesL x co).length ≤ 200 := by
  have := phases_len (co := co) (valid_shape h); omega
theorem com_yes {x y : Ch} {i : Nat} (hi : i < x.cs.size) (h : hasC y.cs (colAtB x i) = true) : comB x y = true := List.any_eq_true.2 ⟨i, List.mem_range.2 hi, h⟩
theorem com_no {x y : Ch} (h : ∀ i, i < x.cs.size → hasC y.cs (colAtB x i) = false) : comB x y = false := by
  rw [comB, List.any_eq_false]
  intro i hi
  rw [h i (List.mem_range.1 hi)]; simp
theorem confV_yes {x y : Ch} {i : Nat} {tol : Int} (hi : i < x.cs.size) (h : hasC y.cs (colAtB x i) = true) : confV x y tol = confB x y tol := by rw [confV, com_yes hi h, Bool.true_and]
theorem confV_no {x y : Ch} {tol : Int} (h : ∀ i, i < x.cs.size → hasC y.cs (colAtB x i) = false) : confV x y tol = false := by rw [confV, com_no h, Bool.false_and]
/-- No colour for which the rhythms are alike. -/
theorem confV_end {x y : Ch} {tol : Int} (h : ∀ i, i < x.cs.size → hasC y.cs (colAtB x i) = true → confB x y tol = false) : confV x y tol = false := by
  rw [confV]
  cases hc : comB x y
  · rw [Bool.false_and]
  · rw [Bool.true_and]
    obtain ⟨i, hi, hy⟩ := List.any_eq_true.1 hc
    exact h i (List.mem_range.1 hi) hy
theorem colAt_col {x : Ch} (h : validB x = true) {i : Nat} (hi : i < x.cs.size) : colB (colAtB x i) = true := colB_ext h hi
theorem colAt_size {x : Ch} {i : Nat} (hi : i < x.cs.size) : (colAtB x i).size = 1 := by
  rw [colAtB, ByteArray.size_extract]; omega
end Go.Proofs.YtgibbhipjpbdfaaGreat

/- Two characters that can be confused: the reference. -/
namespace Go.Proofs.YtgibbhipjpbdfaaGreat
open Go.RowKit
end Go.Proofs.YtgibbhipjpbdfaaGreat

/- Confused: the reference. -/
namespace Go.Proofs.YtgibbhipjpbdfaaGreat
open Go.RowKit
def confW (x y : Ch) (tol : Int) : Bool := bif !(validB x && validB y) then false else bif !inB tol 0 20 then false else confV x y tol
def confK (x y : Ch) (tol : Int) : Int := bif !(validB x && validB y) then 1 else bif !inB tol 0 20 then 2 else 0
abbrev chO (A : Option Addr) (n c : Nat) (x : Ch) (e : TypeId) : Obj := .cells #[.int .i64 x.k, .slice A n c, .string x.l, .string x.cs, .int .i64 x.p] e
end Go.Proofs.YtgibbhipjpbdfaaGreat

/- Two characters that can be confused: the program. -/
namespace Go.Proofs.YtgibbhipjpbdfaaGreat
open Go.RowKit
theorem isTolerance_c (t : Int) (w : World) : Calls Tryz.prog 28 #[.int .i64 t] w fun e w' => e = .returned (.bool (inB t 0 20)) ∧ w = w' := by
  go_enter Tryz.func28, Tryz.ntmps28
  go_wp2_with fail
  refine (within_c _ _ _ _).mono ?_
  rintro e w1 ⟨rfl, rfl⟩
  go_wp2_with fail
  go_ret
  exact ⟨rfl, rfl⟩
theorem iterPos_of {w : World} {g p : Nat} {s : ByteArray} (h : w.heap[g]? = some (.stringIter s p)) : w.iterPos g = p := by simp only [World.iterPos, h]
theorem colAt_ascii {x : Ch} (h : validB x = true) {i : Nat} (hi : i < x.cs.size) : (x.cs[i]'hi).toNat < 128 := by
  have hsh := valid_shape h
  simp only [shapeB, colorsB, Bool.and_eq_true, allB_iff] at hsh
  have h1 := hsh.1.1 i hi
  simp only [colOk, Bool.and_eq_true, decide_eq_true_eq] at h1
  have h2 := h1.1
  rw [bt_eq _ _ hi] at h2
  unfold rankI at h2
  (repeat' split at h2) <;> omega
set_option maxRecDepth 100000 in
set_option maxHeartbeats 4000000 in
theorem confused_c (A1 : Option Addr) (n1 c1 : Nat) (x : Ch) (A2 : Option Addr) (n2 c2 : Nat) (y : Ch) (tol : Int) (w : World) (s1 : Sl w w.heap.size 1 A1 n1 (x.gs.flatMap intC)) (hn1 : n1 ≤ 1048576) (hl1 : x.l.size ≤ 1048576) (hs1 : x.cs.size ≤ 1048576) (s2 : Sl w w.heap.size 1 A2 n2 (y.gs.flatMap intC)) (hn2 : n2 ≤ 1048576) (hl2 : y.l.size ≤ 1048576) (hs2 : y.cs.size ≤ 1048576)
    (v1 : validB x = true) (v2 : validB y = true) :
    Calls Tryz.prog 46 #[chV x.k A1 n1 c1 x.l x.cs x.p, chV y.k A2 n2 c2 y.l y.cs y.p, .int .i64 tol] w fun e w' => e = .returned (.bool (confV x y tol)) ∧ Below w.heap.size w w' := by
  obtain ⟨R, hR⟩ : ∃ R, confV x y tol = R := ⟨_, rfl⟩
  rw [hR]
  have hb0 : Below w.heap.size w ((w.alloc (chO A1 n1 c1 x 60)).alloc (chO A2 n2 c2 y 60)) := by (repeat (first | (with_reducible assumption) | (with_reducible exact Below.refl _ _) | exact Nat.le_refl _ | exact Below.size (by with_reducible assumption) | (with_reducible refine Below.drew ?_) | (with_reducible refine below_drewN ?_ _) | (with_reducible refine Below.alloc ?_ ?_ _) | (with_reducible refine Below.setCell ?_ ?_ _) | (with_reducible refine le_alloc ?_ _) | (with_reducible refine le_set ?_ _ _) | (with_reducible refine le_drew ?_) | (with_reducible refine le_drewN ?_ _) | omega | (dsimp only; omega)))
  have hp1 := (chp_box (c := c1) 60 s1 hn1 hl1 hs1).next (w' := (w.alloc (chO A1 n1 c1 x 60)).alloc (chO A2 n2 c2 y 60)) (by (repeat (first | (with_reducible assumption) | (with_reducible exact Below.refl _ _) | exact Nat.le_refl _ | exact Below.size (by with_reducible assumption) | (with_reducible refine Below.drew ?_) | (with_reducible refine below_drewN ?_ _) | (with_reducible refine Below.alloc ?_ ?_ _) | (with_reducible refine Below.setCell ?_ ?_ _) | (with_reducible refine le_alloc ?_ _) | (with_reducible refine le_set ?_ _ _) | (with_reducible refine le_drew ?_) | (with_reducible refine le_drewN ?_ _) | omega | (dsimp only; omega))))
  have hp2 := chp_box (c := c2) 60 (s2.next (w' := w.alloc (chO A1 n1 c1 x 60)) (by (repeat (first | (with_reducible assumption) | (with_reducible exact Below.refl _ _) | exact Nat.le_refl _ | exact Below.size (by with_reducible assumption) | (with_reducible refine Below.drew ?_) | (with_reducible refine below_drewN ?_ _) | (with_reducible refine Below.alloc ?_ ?_ _) | (with_reducible refine Below.setCell ?_ ?_ _) | (with_reducible refine le_alloc ?_ _) | (with_reducible refine le_set ?_ _ _) | (with_reducible refine le_drew ?_) | (with_reducible refine le_drewN ?_ _) | omega | (dsimp only; omega))))) hn2 hl2 hs2
  have hsz : (w.alloc (chO A1 n1 c1 x 60)).heap.size = w.heap.size + 1 := by simp
  have hsz2 : ((w.alloc (chO A1 n1 c1 x 60)).alloc (chO A2 n2 c2 y 60)).heap.size = w.heap.size + 1 + 1 := by simp
  rw [hsz] at hp2
  have hit0 := World.iter_heap ((w.alloc (chO A1 n1 c1 x 60)).alloc (chO A2 n2 c2 y 60)) x.cs 0
  obtain ⟨w0, hw⟩ : ∃ w0, (w.alloc (chO A1 n1 c1 x 60)).alloc (chO A2 n2 c2 y 60) = w0 := ⟨_, rfl⟩
  rw [hw] at hb0 hp1 hp2 hit0 hsz2
  have hbi : Below w0.heap.size w0 (w0.iter x.cs 0) := by
    unfold World.iter
    (repeat (first | (with_reducible assumption) | (with_reducible exact Below.refl _ _) | exact Nat.le_refl _ | exact Below.size (by with_reducible assumption) | (with_reducible refine Below.drew ?_) | (with_reducible refine below_drewN ?_ _) | (with_reducible refine Below.alloc ?_ ?_ _) | (with_reducible refine Below.setCell ?_ ?_ _) | (with_reducible refine le_alloc ?_ _) | (with_reducible refine le_set ?_ _ _) | (with_reducible refine le_drew ?_) | (with_reducible refine le_drewN ?_ _) | omega | (dsimp only; omega)))
  have q3 := hp1.c3
  have HR := Lib.hid hR; clear hR
  have HP1 := Lib.hid hp1; clear hp1
  have HP2 := Lib.hid hp2; clear hp2
  have V1 := Lib.hid v1; clear v1
  have V2 := Lib.hid v2; clear v2
  have Hsz2 := Lib.hid hsz2; clear hsz2
  clear s1 s2 hsz
  go_enter Tryz.func46, Tryz.ntmps46
  go_wp2_with fail
  try rw [hw]
  clear hw
  have hiE : w0.iter x.cs 0 = w0.iter x.cs 0 := rfl
  obtain ⟨g, hg⟩ : ∃ g, w0.heap.size = g := ⟨_, rfl⟩
  obtain ⟨wi0, hwi0⟩ : ∃ wi, w0.iter x.cs 0 = wi := ⟨_, rfl⟩
  have hg2 : w.heap.size + 1 + 1 = g := by rw [← hg]; exact Hsz2.out.symm
  have hgw : w0.heap.size ≤ g := Nat.le_of_eq hg
  rw [hwi0] at hit0 hbi
  rw [hg] at hit0
  try rw [hwi0]
  try rw [hg2]
  try rw [hg]
  clear hwi0 hiE q3
  have Hg := Lib.hid hg; clear hg
  have Hg2 := Lib.hid hg2; clear hg2
  go_loopw [7] (fun _ wr => ∃ k : Nat, k ≤ x.cs.size ∧ wr.heap[g]? = some (.stringIter x.cs k) ∧ Hid (∀ r, r < k → hasC y.cs (colAtB x r) = true → confB x y tol = false) ∧ Below w0.heap.size w0 wr) (fun _ wr => x.cs.size - wr.iterPos g)
  case atStart => exact ⟨0, Nat.zero_le _, hit0, Lib.hid (fun r hr => absurd hr (by omega)), hbi⟩
  case round =>
    clear hit0 hbi
    obtain ⟨k, hk, hit, Hn, hbw⟩ := hrel
    by_cases hlt : k < x.cs.size
    · have ha := colAt_ascii V1.out hlt
      have hnx : ∀ ty, (Instr.next (.pointer (some ⟨g, 0, none⟩)) true ty).run Tryz.prog wr = _ := fun ty => Lib.run_next_ascii_at wr g x.cs k ty hit hlt ha
      have hit1 := Lib.iterAt_heap wr g x.cs k (k + 1) hit
      have hbw1 := Lib.below_iterAt hbw hgw x.cs (k + 1)
      have hpos : x.cs.size - wr.iterPos g = x.cs.size - k := by simp only [World.iterPos, hit]
      generalize wr.iterAt g x.cs (k + 1) = wi at *
      have k0 : (0 : Int) ≤ (k : Int) := by omega
      have k1 : (k : Int) < (x.cs.size : Int) := by omega
      have k2 : (k : Int) + 1 ≤ (x.cs.size : Int) := by omega
      have k3 : (0 : Int) ≤ (k : Int) + 1 := by omega
      have k4 : ((k : Int) + 1).toNat = k + 1 := by omega
      have hcol := colAt_col V1.out hlt
      have hcs := colAt_size (x := x) hlt
      obtain ⟨co, hco⟩ : ∃ co, colAtB x k = co := ⟨_, rfl⟩
      have hex : x.cs.extract k (k + 1) = co := hco
      rw [hco] at hcol hcs
      have hC : ∀ m, Calls Tryz.prog 63 #[.string y.cs, .string co] (wi.drewN m) fun e w' => e = .returned (.bool (hasC y.cs co)) ∧ wi.drewN m = w' := fun m => contains1_c y.cs co _ hcs
      have hC2 : ∀ w1, Calls Tryz.prog 63 #[.string y.cs, .string co] w1 fun e w' => e = .returned (.bool (hasC y.cs co)) ∧ w1 = w' := fun w1 => contains1_c y.cs co _ hcs
      have P1 := HP1.out.next hbw1
      have P2 := HP2.out.next hbw1
      have hg1 : g < wi.heap.size := (Array.getElem?_eq_some_iff.1 hit1).1
      obtain ⟨Y, hY⟩ : ∃ Y, hasC y.cs co = Y := ⟨_, rfl⟩
      rw [hY] at hC hC2
      rw [← hco] at hY
      obtain ⟨a0, a1, a2, a3, a4, hba, sa, -, -, -⟩ := P1
      obtain ⟨b0, b1, b2, b3, b4, hbb', sb, -, -, -⟩ := P2
      simp only [Nat.zero_add] at a1 a2 a3 a4 b1 b2 b3 b4
      have Hnx := Lib.hid hnx; clear hnx
      have hnx := Hnx.out
      clear Hnx
      have HY := Lib.hid hY; clear hY
      have HC := Lib.hid hC; clear hC
      have HC2 := Lib.hid hC2; clear hC2
      have Hco := Lib.hid hco; clear hco
      have Hcol := Lib.hid hcol; clear hcol
      have Hpos := Lib.hid hpos; clear hpos
      have Sa := Lib.hid sa; clear sa
      have Sb := Lib.hid sb; clear sb
      clear hit hbw
      cases Y
      · go_wp2_with fail
        try rw [hex]
        go_quiet ((go_at_call 63; exact quiet_c (HC.out _)))
        go_wp2_with fail
        go_roundw
        case rel => exact ⟨k + 1, by omega, hit1, Lib.hid (fun r hr hy => by
          rcases Nat.lt_or_ge r k with h2 | h2
          · exact Hn.out r h2 hy
          · obtain rfl : r = k := by omega
            rw [HY.out] at hy; cases hy), below_drewN hbw1 _⟩
        case measure =>
          rw [Hpos.out, iterPos_of (w := wi.drewN nq) hit1]
          omega
      · have hcy := confV_yes (tol := tol) hlt HY.out
        rw [HR.out] at hcy
        have hcl := conf_col (x := x) (y := y) Hcol.out tol
        rw [← hcy] at hcl
        have ok1 := num_ph V1.out co
        have ok2 := num_ph V2.out co
        have lp1 := len_ph V1.out co
        have lp2 := len_ph V2.out co
        have tp1 := ten_pos V1.out co
        have tp2 := ten_pos V2.out co
        have os1 := okS_ph (x := x) Hcol.out
        have os2 := okS_ph (x := y) Hcol.out
        have hF1 : ∀ w', Below wi.heap.size wi w' → Calls Tryz.prog 65 #[chV x.k A1 n1 c1 x.l x.cs x.p, .string co] w' fun e w'' => ∃ v, e = .returned v ∧ w''.ownsRow w'.heap.size 118 2 v (phasesL x co).length ((phasesL x co).flatMap Ph.cells) ∧ Below w'.heap.size w' w'' := fun w' hb => phases_c A1 n1 c1 x w' (Sa.out.next hb) hn1 hl1 hs1 co V1.out
        have hF2 : ∀ w', Below wi.heap.size wi w' → Calls Tryz.prog 65 #[chV y.k A2 n2 c2 y.l y.cs y.p, .string co] w' fun e w'' => ∃ v, e = .returned v ∧ w''.ownsRow w'.heap.size 118 2 v (phasesL y co).length ((phasesL y co).flatMap Ph.cells) ∧ Below w'.heap.size w' w'' := fun w' hb => phases_c A2 n2 c2 y w' (Sb.out.next hb) hn2 hl2 hs2 co V2.out
        obtain ⟨ps, hps⟩ : ∃ ps, phasesL x co = ps := ⟨_, rfl⟩
        obtain ⟨qs, hqs⟩ : ∃ qs, phasesL y co = qs := ⟨_, rfl⟩
        rw [hps] at hF1 hcl ok1 lp1 tp1 os1
        rw [hqs] at hF2 hcl ok2 lp2 tp2 os2
        generalize hnp : ps.length = np at hF1 ok1
        generalize hnq : qs.length = nq at hF2 ok2
        have e1 : ∀ {w' : World}, Below wi.heap.size wi w' → (Below wi.heap.size wi w' ∧ (∀ i, w'.cell? ⟨w.heap.size, i, none⟩ = wi.cell? ⟨w.heap.size, i, none⟩) ∧ (∀ i, w'.cell? ⟨w.heap.size + 1, i, none⟩ = wi.cell? ⟨w.heap.size + 1, i, none⟩)) := fun hbb => ⟨hbb, keepC hbb _ hba, keepC hbb _ hbb'⟩
        have HF1 := Lib.hid hF1; clear hF1
        have HF2 := Lib.hid hF2; clear hF2
        have Hcl := Lib.hid hcl; clear hcl
        have Hcy := Lib.hid hcy; clear hcy
        have Hps := Lib.hid hps; clear hps
        have Hqs := Lib.hid hqs; clear hqs
        have Lp1 := Lib.hid lp1; clear lp1
        have Lp2 := Lib.hid lp2; clear lp2
        have Tp1 := Lib.hid tp1; clear tp1
        have Tp2 := Lib.hid tp2; clear tp2
        have Os1 := Lib.hid os1; clear os1
        have Os2 := Lib.hid os2; clear os2
        have Hnp := Lib.hid hnp; clear hnp
        have Hnq := Lib.hid hnq; clear hnq
        go_wp2_with fail
        try rw [hex]
        clear hnx
        refine wp_region_held_drew (S := fun w' => Below wi.heap.size wi w' ∧ (∀ i, w'.cell? ⟨w.heap.size, i, none⟩ = wi.cell? ⟨w.heap.size, i, none⟩) ∧ (∀ i, w'.cell? ⟨w.heap.size + 1, i, none⟩ = wi.cell? ⟨w.heap.size + 1, i, none⟩)) (by kernel_rfl) (e1 (Below.refl _ _).drew) (fun hHeld => ?_)
        (first
          | (refine wpAnyH_take (i := 0) (v := ?_) rfl (by kernel_rfl) (by kernel_rfl) (by kernel_rfl) (fun _ _ _ h => h) (Or.inl ⟨by rfl, ?_⟩) (by assumption) ?_
             rotate_left
             focus (intro wq hSq; (try dsimp only at hSq); go_simp; (try (with_reducible rfl)); done))
          | (refine wpAnyH_take (i := 0) (v := undef) rfl (by kernel_rfl) (by kernel_rfl) (by kernel_rfl) (fun _ _ _ h => h) (Or.inr ⟨by rfl, rfl⟩) (by assumption) ?_)
          | fail "take 0")
        try simp only [Act.put, List.setIfInBounds_toArray, List.set_cons_zero, List.set_cons_succ, List.getElem_toArray, List.getElem_cons_zero]
        (first
          | (refine wpAnyH_take (i := 1) (v := ?_) rfl (by kernel_rfl) (by kernel_rfl) (by kernel_rfl) (fun _ _ _ h => h) (Or.inl ⟨by rfl, ?_⟩) (by assumption) ?_
             rotate_left
             focus (intro wq hSq; (try dsimp only at hSq); go_simp; (try (with_reducible rfl)); done))
          | (refine wpAnyH_take (i := 1) (v := undef) rfl (by kernel_rfl) (by kernel_rfl) (by kernel_rfl) (fun _ _ _ h => h) (Or.inr ⟨by rfl, rfl⟩) (by assumption) ?_)
          | fail "take 1")
        try simp only [Act.put, List.setIfInBounds_toArray, List.set_cons_zero, List.set_cons_succ, List.getElem_toArray, List.getElem_cons_zero, List.getElem_cons_succ]
        (first
          | (refine wpAnyH_take (i := 2) (v := ?_) rfl (by kernel_rfl) (by kernel_rfl) (by kernel_rfl) (fun _ _ _ h => h) (Or.inl ⟨by rfl, ?_⟩) (by assumption) ?_
             rotate_left
             focus (intro wq hSq; (try dsimp only at hSq); go_simp; (try (with_reducible rfl)); done))
          | (refine wpAnyH_take (i := 2) (v := undef) rfl (by kernel_rfl) (by kernel_rfl) (by kernel_rfl) (fun _ _ _ h => h) (Or.inr ⟨by rfl, rfl⟩) (by assumption) ?_)
          | fail "take 2")
        try simp only [Act.put, List.setIfInBounds_toArray, List.set_cons_zero, List.set_cons_succ, List.getElem_toArray, List.getElem_cons_zero, List.getElem_cons_succ]
        refine wpAnyH_ready (rs := [3]) (by kernel_rfl) (by simp) ?_
        refine AllReadyH.cons (o := _) rfl (fun K hK => ?_) AllReadyH.nil
        go_simp
        refine (HC2.out _).mono ?_; rintro e w3 ⟨rfl, rfl⟩
        refine hK.out _ _ ?_ (fun hHeld => ?_)
        · exact e1 (Below.refl _ _).drew
        clear hK K
        try simp only [Act.put, List.setIfInBounds_toArray, List.set_cons_zero, List.set_cons_succ, List.getElem_toArray, List.getElem_cons_zero, List.getElem_cons_succ]
        (first
          | (refine wpAnyH_take (i := 4) (v := ?_) rfl (by kernel_rfl) (by kernel_rfl) (by kernel_rfl) (fun _ _ _ h => h) (Or.inl ⟨by rfl, ?_⟩) (by assumption) ?_
             rotate_left
             focus (intro wq hSq; (try dsimp only at hSq); go_simp; (try (with_reducible rfl)); done))
          | (refine wpAnyH_take (i := 4) (v := undef) rfl (by kernel_rfl) (by kernel_rfl) (by kernel_rfl) (fun _ _ _ h => h) (Or.inr ⟨by rfl, rfl⟩) (by assumption) ?_)
          | fail "take 4")
        try simp only [Act.put, List.setIfInBounds_toArray, List.set_cons_zero, List.set_cons_succ, List.getElem_toArray, List.getElem_cons_zero, List.getElem_cons_succ]
        (first
          | (refine wpAnyH_take (i := 5) (v := ?_) rfl (by kernel_rfl) (by kernel_rfl) (by kernel_rfl) (fun _ _ _ h => h) (Or.inl ⟨by rfl, ?_⟩) (by assumption) ?_
             rotate_left
             focus (intro wq hSq; (try dsimp only at hSq); go_simp; (try (with_reducible rfl)); done))
          | (refine wpAnyH_take (i := 5) (v := undef) rfl (by kernel_rfl) (by kernel_rfl) (by kernel_rfl) (fun _ _ _ h => h) (Or.inr ⟨by rfl, rfl⟩) (by assumption) ?_)
          | fail "take 5")
        try simp only [Act.put, List.setIfInBounds_toArray, List.set_cons_zero, List.set_cons_succ, List.getElem_toArray, List.getElem_cons_zero, List.getElem_cons_succ]
        (first
          | (refine wpAnyH_take (i := 6) (v := ?_) rfl (by kernel_rfl) (by kernel_rfl) (by kernel_rfl) (fun _ _ _ h => h) (Or.inl ⟨by rfl, ?_⟩) (by assumption) ?_
             rotate_left
             focus (intro wq hSq; (try dsimp only at hSq); go_simp; (try (with_reducible rfl)); done))
          | (refine wpAnyH_take (i := 6) (v := undef) rfl (by kernel_rfl) (by kernel_rfl) (by kernel_rfl) (fun _ _ _ h => h) (Or.inr ⟨by rfl, rfl⟩) (by assumption) ?_)
          | fail "take 6")
        try simp only [Act.put, List.setIfInBounds_toArray, List.set_cons_zero, List.set_cons_succ, List.getElem_toArray, List.getElem_cons_zero, List.getElem_cons_succ]
        (first
          | (refine wpAnyH_take (i := 8) (v := ?_) rfl (by kernel_rfl) (by kernel_rfl) (by kernel_rfl) (fun _ _ _ h => h) (Or.inl ⟨by rfl, ?_⟩) (by assumption) ?_
             rotate_left
             focus (intro wq hSq; (try dsimp only at hSq); go_simp; (try (with_reducible rfl)); done))
          | (refine wpAnyH_take (i := 8) (v := undef) rfl (by kernel_rfl) (by kernel_rfl) (by kernel_rfl) (fun _ _ _ h => h) (Or.inr ⟨by rfl, rfl⟩) (by assumption) ?_)
          | fail "take 8")
        try simp only [Act.put, List.setIfInBounds_toArray, List.set_cons_zero, List.set_cons_succ, List.getElem_toArray, List.getElem_cons_zero, List.getElem_cons_succ]
        (first
          | (refine wpAnyH_take (i := 9) (v := ?_) rfl (by kernel_rfl) (by kernel_rfl) (by kernel_rfl) (fun _ _ _ h => h) (Or.inl ⟨by rfl, ?_⟩) (by assumption) ?_
             rotate_left
             focus (intro wq hSq; (try dsimp only at hSq); go_simp; (try (with_reducible rfl)); done))
          | (refine wpAnyH_take (i := 9) (v := undef) rfl (by kernel_rfl) (by kernel_rfl) (by kernel_rfl) (fun _ _ _ h => h) (Or.inr ⟨by rfl, rfl⟩) (by assumption) ?_)
          | fail "take 9")
        try simp only [Act.put, List.setIfInBounds_toArray, List.set_cons_zero, List.set_cons_succ, List.getElem_toArray, List.getElem_cons_zero, List.getElem_cons_succ]
        (first
          | (refine wpAnyH_take (i := 11) (v := ?_) rfl (by kernel_rfl) (by kernel_rfl) (by kernel_rfl) (fun _ _ _ h => h) (Or.inl ⟨by rfl, ?_⟩) (by assumption) ?_
             rotate_left
             focus (intro wq hSq; (try dsimp only at hSq); go_simp; (try (with_reducible rfl)); done))
          | (refine wpAnyH_take (i := 11) (v := undef) rfl (by kernel_rfl) (by kernel_rfl) (by kernel_rfl) (fun _ _ _ h => h) (Or.inr ⟨by rfl, rfl⟩) (by assumption) ?_)
          | fail "take 11")
        try simp only [Act.put, List.setIfInBounds_toArray, List.set_cons_zero, List.set_cons_succ, List.getElem_toArray, List.getElem_cons_zero, List.getElem_cons_succ]
        refine wpAnyH_ready (rs := [7]) (by kernel_rfl) (by simp) ?_
        refine AllReadyH.cons (o := _) rfl (fun K hK => ?_) AllReadyH.nil
        go_simp
        refine (HF1.out _ (Below.refl _ _).drew).mono ?_; rintro e w4 ⟨v4, rfl, ho4, hb4⟩; obtain ⟨B4, d4, rfl⟩ := own_slice ho4; have hb14 : Below wi.heap.size wi w4 := (Below.refl _ _).drew.trans hb4
        refine hK.out _ _ ?_ (fun hHeld => ?_)
        · exact e1 hb14
        clear hK K
        try simp only [Act.put, List.setIfInBounds_toArray, List.set_cons_zero, List.set_cons_succ, List.getElem_toArray, List.getElem_cons_zero, List.getElem_cons_succ]
        refine wpAnyH_ready (rs := [10]) (by kernel_rfl) (by simp) ?_
        refine AllReadyH.cons (o := _) rfl (fun K hK => ?_) AllReadyH.nil
        go_simp
        refine (HF2.out _ hb14).mono ?_; rintro e w5 ⟨v5, rfl, ho5, hb5⟩; obtain ⟨B5, d5, rfl⟩ := own_slice ho5; have hb15 : Below wi.heap.size wi w5 := hb14.trans (hb5.mono hb14.size)
        refine hK.out _ _ ?_ (fun hHeld => ?_)
        · exact e1 hb15
        clear hK K
        try simp only [Act.put, List.setIfInBounds_toArray, List.set_cons_zero, List.set_cons_succ, List.getElem_toArray, List.getElem_cons_zero, List.getElem_cons_succ]
        have hCR := closeRhythms_c B4 np d4 ps B5 nq d5 qs tol w5 ((Sl.of_own ho4).next hb5) (Sl.of_own ho5) ok1 ok2 Lp1.out Lp2.out Tp1.out Tp2.out Os1.out Os2.out
        rw [Hcl.out] at hCR
        refine wpAnyH_ready (rs := [12]) (by kernel_rfl) (by simp) ?_
        refine AllReadyH.cons (o := _) rfl (fun K hK => ?_) AllReadyH.nil
        go_simp
        refine hCR.mono ?_; rintro e w6 ⟨rfl, hb6⟩; have hb16 : Below wi.heap.size wi w6 := hb15.trans (hb6.mono hb15.size)
        refine hK.out _ _ ?_ (fun hHeld => ?_)
        · exact e1 hb16
        clear hK K
        try simp only [Act.put, List.setIfInBounds_toArray, List.set_cons_zero, List.set_cons_succ, List.getElem_toArray, List.getElem_cons_zero, List.getElem_cons_succ]
        (first
          | (refine wpAnyH_take (i := 13) (v := ?_) rfl (by kernel_rfl) (by kernel_rfl) (by kernel_rfl) (fun _ _ _ h => h) (Or.inl ⟨by rfl, ?_⟩) (by assumption) ?_
             rotate_left
             focus (intro wq hSq; (try dsimp only at hSq); go_simp; (try (with_reducible rfl)); done))
          | (refine wpAnyH_take (i := 13) (v := undef) rfl (by kernel_rfl) (by kernel_rfl) (by kernel_rfl) (fun _ _ _ h => h) (Or.inr ⟨by rfl, rfl⟩) (by assumption) ?_)
          | fail "take 13")
        try simp only [Act.put, List.setIfInBounds_toArray, List.set_cons_zero, List.set_cons_succ, List.getElem_toArray, List.getElem_cons_zero, List.getElem_cons_succ]
        refine wpAnyH_done (by kernel_rfl) ?_ _
        have hbf := hbw1.trans (hb16.mono hbw1.size)
        have hit6 := (hb16.block g hg1).trans hit1
        clear hHeld hCR ho4 ho5 hb4 hb5 hb6 hb14 hb15 hb16 a0 a1 a2 a3 a4 b0 b1 b2 b3 b4
        cases R
        · go_wp2_with fail
          go_roundw
          case rel => exact ⟨k + 1, by omega, hit6, Lib.hid (fun r hr hy => by
            rcases Nat.lt_or_ge r k with h2 | h2
            · exact Hn.out r h2 hy
            · exact Hcy.out.symm), hbf⟩
          case measure =>
            rw [Hpos.out, iterPos_of hit6]
            omega
        · go_wp2_with fail
          go_ret
          exact ⟨rfl, hb0.trans (hbf.mono hb0.size)⟩
    · have hnx : ∀ ty, (Instr.next (.pointer (some ⟨g, 0, none⟩)) true ty).run Tryz.prog wr = _ := fun ty => Lib.run_next_end_at wr g x.cs k ty hit hlt
      obtain rfl : k = x.cs.size := by omega
      obtain rfl : R = false := by rw [← HR.out]; exact confV_end Hn.out
      go_wp2_with fail
      go_ret
      exact ⟨rfl, hb0.trans (hbw.mono hb0.size)⟩
end Go.Proofs.YtgibbhipjpbdfaaGreat

/- Confused: the program. -/
namespace Go.Proofs.YtgibbhipjpbdfaaGreat
open Go.RowKit
end Go.Proofs.YtgibbhipjpbdfaaGreat
