/- Lists of lights: the code of a question, and the lights that an observation may belong to, both sides. -/
import Derived.Test.YtgfplmfdgbklkaaLtLights
namespace Go.Proofs.Ytgfplmfdgbklkaa
open Go.RowKit
def askI (zs : List ChG) (o : List Ph) (tol : Int) : Int := bif lightsB zs && obsB o then (bif inB tol 0 100 then 0 else 2) else 1
def hitB (zs : List ChG) (o : List Ph) (tol : Int) (i : Nat) : Bool := match zs[i]? with | none => false | some z => decide (0 ≤ firstI (startsL z.x o tol))
def hitsN (zs : List ChG) (o : List Ph) (tol : Int) (m : Nat) : List Nat := (List.range m).filter (hitB zs o tol)
theorem hits_next (zs : List ChG) (o : List Ph) (tol : Int) (k : Nat) : hitsN zs o tol (k + 1) = hitsN zs o tol k ++ (if hitB zs o tol k = true then [k] else []) := by
  rw [hitsN, List.range_succ, List.filter_append]
  simp [hitsN, List.filter_cons]
theorem hits_len (zs : List ChG) (o : List Ph) (tol : Int) (k : Nat) : (hitsN zs o tol k).length ≤ k := Nat.le_trans (List.length_filter_le _ _) (by simp)
theorem hit_eq {zs : List ChG} {k : Nat} {z : ChG} (hx : zs[k]? = some z) (o : List Ph) (tol : Int) : hitB zs o tol k = decide (0 ≤ firstI (startsL z.x o tol)) := by rw [hitB, hx]
theorem firstI_len (L : List Nat) : decide (0 ≤ firstI L) = decide (0 < L.length) := by cases L <;> simp [firstI] <;> omega
theorem lights_valid {zs : List ChG} (h : lightsB zs = true) : (∀ z ∈ zs, validB z.x = true) ∧ zs.length ≤ 64 := by
  unfold lightsB at h
  simpa using h
set_option maxRecDepth 100000 in
set_option maxHeartbeats 1000000 in
theorem l17Ask_c (A : Option Addr) (n c : Nat) (zs : List ChG) (Ao : Option Addr) (no co : Nat) (o : List Ph) (tol : Int) (w : World) (h : ChS w A n zs) (hm : n ≤ 1048576)
    (ho : Sl w w.heap.size 2 Ao no (o.flatMap Ph.cells)) (hno : no ≤ 1048576) :
    Calls Try.prog 81 #[.slice A n c, .slice Ao no co, .int .i64 tol] w fun e w' => e = .returned (.int .i64 (askI zs o tol)) ∧ Below w.heap.size w w' := by
  cases hv : lightsB zs
  · have hA : askI zs o tol = 1 := by rw [askI, hv]; rfl
    have HA := Lib.hid hA; clear hA
    go_enter Try.func81, Try.ntmps81
    go_wp2_with fail
    refine (l17Lights_c A n c zs _ h hm).mono ?_
    rw [hv]
    rintro e w1 ⟨rfl, hb1⟩
    go_wp2_with fail
    go_ret
    exact ⟨ret_eq (int_eq (by rw [HA.out])), hb1⟩
  cases hob : obsB o
  · have hA : askI zs o tol = 1 := by rw [askI, hv, hob]; rfl
    have HA := Lib.hid hA; clear hA
    go_enter Try.func81, Try.ntmps81
    go_wp2_with fail
    refine (l17Lights_c A n c zs _ h hm).mono ?_
    rw [hv]
    rintro e w1 ⟨rfl, hb1⟩
    go_wp2_with fail
    refine (l17Ok_c Ao no co o _ (ho.next hb1) hno).mono ?_
    rw [hob]
    rintro e w2 ⟨rfl, hb2⟩
    go_wp2_with fail
    go_ret
    exact ⟨ret_eq (int_eq (by rw [HA.out])), hb1.trans (hb2.mono hb1.size)⟩
  cases hti : inB tol 0 100
  all_goals
    have hA : askI zs o tol = bif inB tol 0 100 then 0 else 2 := by rw [askI, hv, hob]; rfl
    rw [hti] at hA
    have HA := Lib.hid hA; clear hA
    go_enter Try.func81, Try.ntmps81
    go_wp2_with fail
    refine (l17Lights_c A n c zs _ h hm).mono ?_
    rw [hv]
    rintro e w1 ⟨rfl, hb1⟩
    go_wp2_with fail
    refine (l17Ok_c Ao no co o _ (ho.next hb1) hno).mono ?_
    rw [hob]
    rintro e w2 ⟨rfl, hb2⟩
    go_wp2_with (go_at_call 58; refine (l17Tol_c _ _).mono ?_; rw [hti]; rintro e w3 ⟨rfl, rfl⟩)
    go_ret
    exact ⟨ret_eq (int_eq (by rw [HA.out]; rfl)), hb1.trans (hb2.mono hb1.size)⟩
set_option maxRecDepth 100000 in
set_option maxHeartbeats 2000000 in
theorem l17All_c (A : Option Addr) (n c : Nat) (zs : List ChG) (Ao : Option Addr) (no co : Nat) (o : List Ph) (tol : Int) (w : World) (h : ChS w A n zs) (hv : ∀ z ∈ zs, validB z.x = true) (hm : n ≤ 64)
    (ho : Sl w w.heap.size 2 Ao no (o.flatMap Ph.cells)) (ok : ObsOK o no) (t0 : 0 ≤ tol) (t1 : tol ≤ 1000000) :
    Calls Try.prog 74 #[.slice A n c, .slice Ao no co, .int .i64 tol] w fun e w' => ∃ v, e = .returned v ∧ w'.ownsRow w.heap.size 2 1 v (hitsN zs o tol n).length (((hitsN zs o tol n).map fun (i : Nat) => (i : Int)).flatMap intC) ∧ Below w.heap.size w w' := by
  obtain ⟨p0, hp, hy0, hy1, hy2⟩ := info_parts intInfo
  have hov := World.ownsRow_made (base := w.heap.size) (e := 2) (size := 1) w #[] 0 (Nat.le_refl _) (by simp [maxLen]) rfl
  have hbv : Below w.heap.size w (w.alloc (.cells #[] 2)) := by (repeat (first | (with_reducible assumption) | (with_reducible exact Below.refl _ _) | exact Nat.le_refl _ | exact Below.size (by with_reducible assumption) | (with_reducible refine Below.drew ?_) | (with_reducible refine below_drewN ?_ _) | (with_reducible refine Below.alloc ?_ ?_ _) | (with_reducible refine Below.setCell ?_ ?_ _) | (with_reducible refine le_alloc ?_ _) | (with_reducible refine le_set ?_ _ _) | (with_reducible refine le_drew ?_) | (with_reducible refine le_drewN ?_ _) | omega | (dsimp only; omega)))
  go_enter Try.func74, Try.ntmps74
  go_wp2_with fail
  go_loopw [7, 8] (fun v i wr => ∃ (k : Nat) (L : List Nat), k ≤ n ∧ i = .int .i64 k ∧ L = hitsN zs o tol k ∧ wr.ownsRow w.heap.size 2 1 v L.length ((L.map fun (i : Nat) => (i : Int)).flatMap intC) ∧ Below w.heap.size w wr) (fun _ i _ => n - (intOf i).toNat)
  case atStart => exact ⟨0, [], Nat.zero_le _, rfl, by simp [hitsN], hov, hbv⟩
  case round =>
    clear hov hbv
    obtain ⟨k, L, hk, rfl, hL, hov, hbw⟩ := hrel
    obtain ⟨A3, c3', rfl⟩ := own_slice hov
    by_cases hlt : k < n
    · obtain ⟨b, off, z, rfl, hx, hpz⟩ := (h.next hbw).ptr k hlt
      have hvz := hv z (List.mem_of_getElem? hx)
      have hll : L.length ≤ 64 := by rw [hL]; exact Nat.le_trans (hits_len _ _ _ _) (by omega)
      have hnx := hits_next zs o tol k
      rw [← hL, hit_eq hx] at hnx
      have HL := Lib.hid hL; clear hL
      have Hx := Lib.hid hx; clear hx
      by_cases hf : 0 ≤ firstI (startsL z.x o tol)
      all_goals
        go_wp2_with fail
        refine (l17Match_c b (off + k * 5) z.A z.n z.c z.x Ao no co o tol _ hpz hvz (ho.next hbw) ok t0 t1).mono ?_
        rintro e w2 ⟨rfl, hb2⟩
        replace hov := own_next hov hb2
        have hbw2 := hbw.trans (hb2.mono hbw.size)
      · rw [if_pos (decide_eq_true hf)] at hnx
        have e63 : L.length + 1 ≤ maxLen := by unfold maxLen; omega
        have e32 : (L.length + 1) * 8 ≤ 140737488355328 := by omega
        have E63 := Lib.hid e63; clear e63
        have E32 := Lib.hid e32; clear e32
        have Hnx := Lib.hid hnx; clear hnx
        go_wp2_with (at_builtin; refine wpl_append _ rfl (.tmp 23) (.tmp 25) _ rfl w.heap.size 2 p0 _ 1 8 Try.underlying22 hp hy0 hy1 hy2 rfl (by omega) _ _ _ rfl (hov.alloc _) (w2.heap.size + 1) (some ⟨w2.heap.size, 0, none⟩) 1 1 (intC (k : Int)) rfl (Sl.new w2 2 _ 1 1 rfl) (intC_one _) E63.out E32.out (le_alloc hbw2.size _) ?_; intro v4 w4 ho4 hg4 hat4)
        go_roundw
        case rel =>
          refine ⟨k + 1, L ++ [k], by omega, by go_num, Hnx.out.symm, ?_, (hbw2.alloc hbw2.size _).grown hg4 (le_alloc hbw2.size _) fun g hg => (hov.lt g hg).1⟩
          rw [List.map_append, List.flatMap_append, List.length_append]
          simpa using ho4
        case measure => simp [intOf]; omega
      · rw [if_neg (by simpa using hf), List.append_nil] at hnx
        have Hnx := Lib.hid hnx; clear hnx
        go_wp2_with fail
        go_roundw
        case rel => exact ⟨k + 1, L, by omega, by go_num, Hnx.out.symm, hov, hbw2⟩
        case measure => simp [intOf]; omega
    · go_wp2_with fail
      go_ret
      obtain rfl : k = n := by omega
      subst hL
      exact ⟨_, rfl, hov, hbw⟩
set_option maxRecDepth 100000 in
set_option maxHeartbeats 2000000 in
theorem identify_c (A : Option Addr) (n c : Nat) (zs : List ChG) (Ao : Option Addr) (no co : Nat) (o : List Ph) (tol : Int) (w : World) (h : ChS w A n zs) (hv : ∀ z ∈ zs, validB z.x = true) (hm : n ≤ 64)
    (ho : Sl w w.heap.size 2 Ao no (o.flatMap Ph.cells)) (ok : ObsOK o no) (t0 : 0 ≤ tol) (t1 : tol ≤ 1000000) :
    Calls Try.prog 79 #[.slice A n c, .slice Ao no co, .int .i64 tol] w fun e w' => ∃ v, e = .returned v ∧ w'.ownsRow w.heap.size 2 1 v (hitsN zs o tol n).length (((hitsN zs o tol n).map fun (i : Nat) => (i : Int)).flatMap intC) ∧ Below w.heap.size w w' := by
  obtain ⟨p0, hp, hy0, hy1, hy2⟩ := info_parts intInfo
  have hov := World.ownsRow_made (base := w.heap.size) (e := 2) (size := 1) w #[] 0 (Nat.le_refl _) (by simp [maxLen]) rfl
  have hbv : Below w.heap.size w (w.alloc (.cells #[] 2)) := by (repeat (first | (with_reducible assumption) | (with_reducible exact Below.refl _ _) | exact Nat.le_refl _ | exact Below.size (by with_reducible assumption) | (with_reducible refine Below.drew ?_) | (with_reducible refine below_drewN ?_ _) | (with_reducible refine Below.alloc ?_ ?_ _) | (with_reducible refine Below.setCell ?_ ?_ _) | (with_reducible refine le_alloc ?_ _) | (with_reducible refine le_set ?_ _ _) | (with_reducible refine le_drew ?_) | (with_reducible refine le_drewN ?_ _) | omega | (dsimp only; omega)))
  go_enter Try.func79, Try.ntmps79
  go_wp2_with fail
  go_loopw [7, 13] (fun v i wr => ∃ (k : Nat) (L : List Nat), k ≤ n ∧ i = .int .i64 k ∧ L = hitsN zs o tol k ∧ wr.ownsRow w.heap.size 2 1 v L.length ((L.map fun (i : Nat) => (i : Int)).flatMap intC) ∧ Below w.heap.size w wr) (fun _ i _ => n - (intOf i).toNat)
  case atStart => exact ⟨0, [], Nat.zero_le _, rfl, by simp [hitsN], hov, hbv⟩
  case round =>
    clear hov hbv
    obtain ⟨k, L, hk, rfl, hL, hov, hbw⟩ := hrel
    obtain ⟨A3, c3', rfl⟩ := own_slice hov
    by_cases hlt : k < n
    · obtain ⟨b, off, z, rfl, hb, hx, hzo, c0, c1, c2, c3, c4⟩ := (h.next hbw).get k hlt
      have hvz := hv z (List.mem_of_getElem? hx)
      have hll : L.length ≤ 64 := by rw [hL]; exact Nat.le_trans (hits_len _ _ _ _) (by omega)
      have hnx := hits_next zs o tol k
      rw [← hL, hit_eq hx, firstI_len] at hnx
      have HL := Lib.hid hL; clear hL
      have Hx := Lib.hid hx; clear hx
      have hw1 : Below wr.heap.size wr (wr.alloc (.cells #[.int .i64 z.x.k, .slice z.A z.n z.c, .string z.x.l, .string z.x.cs, .int .i64 z.x.p] 30)) := by (repeat (first | (with_reducible assumption) | (with_reducible exact Below.refl _ _) | exact Nat.le_refl _ | exact Below.size (by with_reducible assumption) | (with_reducible refine Below.drew ?_) | (with_reducible refine below_drewN ?_ _) | (with_reducible refine Below.alloc ?_ ?_ _) | (with_reducible refine Below.setCell ?_ ?_ _) | (with_reducible refine le_alloc ?_ _) | (with_reducible refine le_set ?_ _ _) | (with_reducible refine le_drew ?_) | (with_reducible refine le_drewN ?_ _) | omega | (dsimp only; omega)))
      have hzo1 := hzo.next hw1
      have ho1 := (ho.next hbw).next hw1
      have hov1 := own_next hov hw1
      have hbw1 := hbw.trans (hw1.mono hbw.size)
      go_wp2_with fail
      refine (starts_c z.A z.n z.c z.x _ hzo1.sl hzo1.hn hzo1.hl hzo1.hs Ao no co o tol hvz ho1 ok t0 t1).mono ?_
      rintro e w2 ⟨v2, rfl, hov2, hb2⟩
      obtain ⟨A4, c4', rfl⟩ := own_slice hov2
      clear hov2 hov
      replace hov := own_next hov1 hb2
      have hbw2 := hbw1.trans (hb2.mono hbw1.size)
      clear hov1
      obtain ⟨N, hN⟩ : ∃ N, (startsL z.x o tol).length = N := ⟨_, rfl⟩
      rw [hN] at hnx ⊢
      clear hN
      by_cases hf : 0 < N
      · rw [if_pos (decide_eq_true hf)] at hnx
        have e63 : L.length + 1 ≤ maxLen := by unfold maxLen; omega
        have e32 : (L.length + 1) * 8 ≤ 140737488355328 := by omega
        have E63 := Lib.hid e63; clear e63
        have E32 := Lib.hid e32; clear e32
        have Hnx := Lib.hid hnx; clear hnx
        go_wp2_with (at_builtin; refine wpl_append _ rfl (.tmp 24) (.tmp 26) _ rfl w.heap.size 2 p0 _ 1 8 Try.underlying22 hp hy0 hy1 hy2 rfl (by omega) _ _ _ rfl (hov.alloc _) (w2.heap.size + 1) (some ⟨w2.heap.size, 0, none⟩) 1 1 (intC (k : Int)) rfl (Sl.new w2 2 _ 1 1 rfl) (intC_one _) E63.out E32.out (le_alloc hbw2.size _) ?_; intro v4 w4 ho4 hg4 hat4)
        go_roundw
        case rel =>
          refine ⟨k + 1, L ++ [k], by omega, by go_num, Hnx.out.symm, ?_, (hbw2.alloc hbw2.size _).grown hg4 (le_alloc hbw2.size _) fun g hg => (hov.lt g hg).1⟩
          rw [List.map_append, List.flatMap_append, List.length_append]
          simpa using ho4
        case measure => simp [intOf]; omega
      · rw [if_neg (by simpa using hf), List.append_nil] at hnx
        have Hnx := Lib.hid hnx; clear hnx
        go_wp2_with fail
        go_roundw
        case rel => exact ⟨k + 1, L, by omega, by go_num, Hnx.out.symm, hov, hbw2⟩
        case measure => simp [intOf]; omega
    · go_wp2_with fail
      go_ret
      obtain rfl : k = n := by omega
      subst hL
      exact ⟨_, rfl, hov, hbw⟩
end Go.Proofs.Ytgfplmfdgbklkaa
