/- Voyages: the program. -/
import Derived.Test.YtgkdjohiclhcoaaVoyH
import Derived.Test.YtgkdjohiclhcoaaVoyB
import Derived.Test.YtgkdjohiclhcoaaVoyO
import Derived.Test.YtgkdjohiclhcoaaSrc
namespace Go.Proofs.Ytgkdjohiclhcoaa
open Go.RowKit
theorem clInfo : (Try.prog.info? 77).map (fun i => (i.zero, i.size, i.bytes)) = some (some (.agg #[.int .i64 0, .int .i64 0, .int .i64 0, .int .i64 0]), 4, 32) := by kernel_rfl
theorem okV_take {s : Sh} {zs : List Wk} {p : VSt} {ks : List Int} (h : okV s zs p ks = true) (k : Nat) : okV s zs p (ks.take k) = true := by
  have := okV_app s zs p (ks.take k) (ks.drop k)
  rw [List.take_append_drop, h, eq_comm, Bool.and_eq_true] at this
  exact this.1
abbrev wkObj (z : Wk) (e : TypeId) : Obj := .cells #[.string z.name, .int .i64 z.x, .int .i64 z.y, .int .i64 z.ld, .int .i64 z.mi, .int .i64 z.fr, .int .i64 z.un] e
set_option maxRecDepth 100000 in
set_option maxHeartbeats 4000000 in
theorem voyage_c (s : Sh) (x y t : Int) (AZ : Option Addr) (N cZ : Nat) (zs : List Wk) (A : Option Addr) (n c : Nat) (xs : List Int) (w : World) (hz : Sl w w.heap.size 7 AZ N (zs.flatMap Wk.cells)) (h : Sl w w.heap.size 1 A n (xs.flatMap intC)) (hm : n ≤ 1048576)
    (hv : VOk s zs ⟨t, x, y⟩ xs) :
    Calls Try.prog 57 #[s.val, ptV x y, .slice AZ N cZ, .slice A n c, .int .i64 t] w fun e w' => ∃ v, e = .returned (.tuple #[v, .int .i64 (voyK s zs ⟨t, x, y⟩ xs)]) ∧ (voyK s zs ⟨t, x, y⟩ xs = 0 → w'.ownsRow w.heap.size 77 4 v n ((callsV s zs ⟨t, x, y⟩ xs).flatMap Cl.cells)) ∧ Below w.heap.size w w' := by
  obtain ⟨i0, hi, hz0, hz1, hz2⟩ := info_parts clInfo
  have hl := h.len intC 1 intC_len (by omega)
  have hln := hz.len Wk.cells 7 Wk.cells_len (by omega)
  have hL : ∀ w1, Below w.heap.size w w1 → ∀ q, Calls Try.prog 80 #[.slice AZ N cZ, .slice A n c] (w1.drewN q) fun e w' => e = .returned (.int .i64 (loadV zs xs)) ∧ w1.drewN q = w' := fun w1 hb q => loadOf_c AZ N cZ zs A n c xs _ (hz.next (below_drewN hb q)) (h.next (below_drewN hb q)) hm (fun k hk => by have := hv.ks k hk; omega) (fun k hk => (hv.at_ k hk).ld)
  have hb0 : Below w.heap.size w ((w.alloc (shO s 32)).alloc (ptO x y 34)) := by (repeat (first | (with_reducible assumption) | (with_reducible exact Below.refl _ _) | exact Nat.le_refl _ | exact Below.size (by with_reducible assumption) | (with_reducible refine Below.drew ?_) | (with_reducible refine below_drewN ?_ _) | (with_reducible refine Below.alloc ?_ ?_ _) | (with_reducible refine Below.setCell ?_ ?_ _) | (with_reducible refine le_alloc ?_ _) | (with_reducible refine le_set ?_ _ _) | (with_reducible refine le_drew ?_) | (with_reducible refine le_drewN ?_ _) | omega | (dsimp only; omega)))
  have g1 := (ShP.box w s 32).next (w' := (w.alloc (shO s 32)).alloc (ptO x y 34)) (by (repeat (first | (with_reducible assumption) | (with_reducible exact Below.refl _ _) | exact Nat.le_refl _ | exact Below.size (by with_reducible assumption) | (with_reducible refine Below.drew ?_) | (with_reducible refine below_drewN ?_ _) | (with_reducible refine Below.alloc ?_ ?_ _) | (with_reducible refine Below.setCell ?_ ?_ _) | (with_reducible refine le_alloc ?_ _) | (with_reducible refine le_set ?_ _ _) | (with_reducible refine le_drew ?_) | (with_reducible refine le_drewN ?_ _) | omega | (dsimp only; omega))))
  have hsz : (w.alloc (shO s 32)).heap.size = w.heap.size + 1 := by simp
  have p1 := PtP.box (w.alloc (shO s 32)) x y
  rw [hsz] at p1
  obtain ⟨w0, hw⟩ : ∃ w0, (w.alloc (shO s 32)).alloc (ptO x y 34) = w0 := ⟨_, rfl⟩
  rw [hw] at hb0 g1 p1
  have hL0 := hL w0 hb0
  obtain ⟨c0, c1, c2, c3, hg⟩ := g1
  obtain ⟨d0, d1, hp1⟩ := p1
  obtain ⟨LD, hLD⟩ : ∃ LD, loadV zs xs = LD := ⟨_, rfl⟩
  obtain ⟨K, hK⟩ : ∃ K, voyK s zs ⟨t, x, y⟩ xs = K := ⟨_, rfl⟩
  obtain ⟨cs, hcs⟩ : ∃ cs, callsV s zs ⟨t, x, y⟩ xs = cs := ⟨_, rfl⟩
  rw [hK, hcs]
  rw [hLD] at hL0
  have hKv : K = bif decide (s.ld < LD) then 5 else bif okV s zs ⟨t, x, y⟩ xs then 0 else 6 := by rw [← hK, voyK, hLD]
  have HL := Lib.hid hL0
  have Hl := Lib.hid hl; clear hl
  have Hln := Lib.hid hln; clear hln
  have HLD := Lib.hid hLD; clear hLD
  have HK := Lib.hid hK; clear hK
  have Hcs := Lib.hid hcs; clear hcs
  have Hz := Lib.hid hz; clear hz
  have H := Lib.hid h; clear h
  have Hv := Lib.hid hv; clear hv
  clear hL hL0 hsz
  by_cases hld : s.ld < LD
  · have hk5 : K = 5 := by rw [hKv, decide_eq_true hld]; rfl
    have hne : ¬ (K = 0) := by omega
    clear hKv
    subst hk5
    go_enter Try.func57, Try.ntmps57
    go_wp2_with fail
    try rw [hw]
    clear hw
    go_quiet ((go_at_call 80; exact quiet_c (HL.out _)))
    go_wp2_with fail
    go_ret2
    exact ⟨_, rfl, fun h => absurd h (by omega), below_drewN hb0 _⟩
  · have hKw : K = bif okV s zs ⟨t, x, y⟩ xs then 0 else 6 := by rw [hKv, decide_eq_false hld]; rfl
    clear hKv
    have HKv := Lib.hid hKw; clear hKw
    go_enter Try.func57, Try.ntmps57
    go_wp2_with fail
    try rw [hw]
    clear hw
    go_quiet ((go_at_call 80; exact quiet_c (HL.out _)))
    generalize hw1 : w0.drewN _ = w1
    have hb1 : Below w.heap.size w w1 := by rw [← hw1]; exact below_drewN hb0 _
    have hs1 : w0.heap.size = w1.heap.size := by rw [← hw1]; rfl
    have hcc : ∀ a, w1.cell? a = w0.cell? a := fun a => by rw [← hw1]; rfl
    have hz1' : w.heap.size + 1 < w1.heap.size := by omega
    have hoM := World.ownsRow_made (base := w1.heap.size) (e := 77) (size := 4) w1 #[] 0 (Nat.le_refl _) (by simp [maxLen]) rfl
    have hbA : Below w1.heap.size w1 (w1.alloc (.cells #[] 77)) := (Below.refl _ _).alloc (Nat.le_refl _) _
    have e0 := (hcc ⟨w.heap.size, 0, none⟩).trans c0
    have e1 := (hcc ⟨w.heap.size, 1, none⟩).trans c1
    have e2 := (hcc ⟨w.heap.size, 2, none⟩).trans c2
    have e3 := (hcc ⟨w.heap.size, 3, none⟩).trans c3
    have a0 := (keepC hbA (w.heap.size + 1) hz1' 0).trans ((hcc _).trans d0)
    have a1 := (keepC hbA (w.heap.size + 1) hz1' 1).trans ((hcc _).trans d1)
    have hbB : Below w1.heap.size w1 ((w1.alloc (.cells #[] 77)).alloc (ptO x y 34)) := hbA.alloc (by simp) _
    have hsA : (w1.alloc (.cells #[] 77)).heap.size = w1.heap.size + 1 := by simp
    have hoN := own_next hoM ((Below.refl (w1.alloc (.cells #[] 77)).heap.size _).alloc (Nat.le_refl _) (ptO x y 34))
    have hoP : ((w1.alloc (.cells #[] 77)).alloc (ptO x y 34)).ownsRow w1.heap.size 34 2 (.slice (some ⟨w1.heap.size + 1, 0, none⟩) 1 1) 1 [.int .i64 x, .int .i64 y] := by
      have := lit_own (w1.alloc (.cells #[] 77)) w1.heap.size 34 #[.int .i64 x, .int .i64 y] 1 2 hbA.size (by decide) rfl
      rwa [hsA] at this
    rw [hs1] at *
    clear hcc hoM hbA hsA
    have Hs1 := Lib.hid hs1; clear hs1
    clear c0 c1 c2 c3 d0 d1 hw1
    go_wp2_with fail
    generalize (w1.alloc (.cells #[] 77)).alloc (ptO x y 34) = w2 at *
    obtain ⟨bp, hbp⟩ : ∃ bp, w1.heap.size + 1 = bp := ⟨_, rfl⟩
    rw [hbp] at hoP
    try rw [hbp]
    have hzs : w.heap.size < w1.heap.size := by omega
    clear a0 a1 hp1 hg hbp hz1'
    go_loopw [4, 12, 29] (fun tt v i wr => ∃ (k : Nat) (P : VSt), k ≤ n ∧ i = .int .i64 k ∧ tt = .int .i64 P.t ∧ wr.ownsRow w1.heap.size 77 4 v k ((callsV s zs ⟨t, x, y⟩ (xs.take k)).flatMap Cl.cells) ∧ Hid (okV s zs ⟨t, x, y⟩ (xs.take k) = true) ∧ Hid (posV s zs ⟨t, x, y⟩ (xs.take k) = P) ∧ wr.ownsRow w1.heap.size 34 2 (.slice (some ⟨bp, 0, none⟩) 1 1) 1 [.int .i64 P.x, .int .i64 P.y] ∧ Below w1.heap.size w1 wr) (fun _ _ i _ => n - (intOf i).toNat)
    case atStart => exact ⟨0, ⟨t, x, y⟩, Nat.zero_le _, rfl, rfl, hoN, Lib.hid rfl, Lib.hid rfl, hoP, hbB⟩
    case round =>
      obtain ⟨k, P, hk, rfl, rfl, ho, Hok, HP, hoP, hbw⟩ := hrel
      by_cases hlt : k < n
      · obtain ⟨b, off, d, rfl, hb, hd, r0⟩ := H.out.int k hlt
        have hdm := List.mem_of_getElem? hd
        have hdk := Hv.out.ks d hdm
        have hdb := Hv.out.at_ d hdm
        obtain ⟨m, rfl⟩ : ∃ m : Nat, d = m := ⟨d.toNat, by omega⟩
        obtain ⟨bz, offz, z, rfl, hbz, hzx, hzp⟩ := Hz.out.wk (Nat.le_refl _) m (by rw [← Hln.out]; omega)
        have hzk := wkI_eq hzx
        rw [hzk] at hdb
        have hnx := take_snoc hd
        have hPt := ((Hv.out.mono fun a ha => List.mem_of_mem_take ha : VOk s zs ⟨t, x, y⟩ (xs.take k))).posT Hok.out
        have hPp := ((Hv.out.mono fun a ha => List.mem_of_mem_take ha : VOk s zs ⟨t, x, y⟩ (xs.take k))).posP
        rw [HP.out] at hPt hPp
        have hsp := Hv.out.sp
        have hTb := trav_bd hsp (root_bd (sqI P.x P.y z.x z.y))
        have hT : ∀ w1, Calls Try.prog 58 #[s.val, ptV P.x P.y, ptV z.x z.y] w1 fun e w' => e = .returned (.int .i64 (travI s P.x P.y z.x z.y)) ∧ Below w1.heap.size w1 w' := fun w1 => travel_c s P.x P.y z.x z.y w1 hsp hPp hdb.pt
        have hcv : callV s zs m P = ⟨m, P.t + travI s P.x P.y z.x z.y, max (P.t + travI s P.x P.y z.x z.y) z.fr, max (P.t + travI s P.x P.y z.x z.y) z.fr + z.mi⟩ := by rw [callV, hzk]
        have hokC : okC s zs m P = decide (max (P.t + travI s P.x P.y z.x z.y) z.fr + z.mi ≤ z.un) := by rw [okC, hcv, hzk]
        obtain ⟨T, hTe⟩ : ∃ T, travI s P.x P.y z.x z.y = T := ⟨_, rfl⟩
        rw [hTe] at hT hTb hcv hokC
        clear hTe
        obtain ⟨_, _, hmi, hfr, hunb⟩ := hdb
        have hAr0 : IntKind.i64.wrap (P.t + T) = P.t + T := IntWalk.i64_in _ (by omega)
        obtain ⟨AR, hAR⟩ : ∃ AR, P.t + T = AR := ⟨_, rfl⟩
        have hAr : IntKind.i64.wrap (P.t + T) = AR := hAr0.trans hAR
        have hAb : 0 ≤ AR ∧ AR ≤ 4000000000 := by omega
        rw [hAR] at hcv hokC
        clear hAr0
        obtain ⟨C, hC⟩ : ∃ C, callsV s zs ⟨t, x, y⟩ (xs.take k) = C := ⟨_, rfl⟩
        rw [hC] at ho
        obtain ⟨A3, c3, rfl⟩ := own_slice ho
        have e63 : k + 1 ≤ maxLen := by unfold maxLen; omega
        have e32 : (k + 1) * 32 ≤ 140737488355328 := by omega
        have j1 : (0 : Int) ≤ (k : Int) := by omega
        have j2 : (k : Int) < (n : Int) := by omega
        have j3 : (0 : Int) ≤ (m : Int) := by omega
        have j4 : (m : Int) < (N : Int) := by rw [← Hln.out]; omega
        have hb0w := hb1.trans (hbw.mono hb1.size)
        have r0 := (keepC hb0w b hb _).trans r0
        have s0 := (keepC hbw w.heap.size hzs 0).trans e0
        have s1 := (keepC hbw w.heap.size hzs 1).trans e1
        have s2 := (keepC hbw w.heap.size hzs 2).trans e2
        have s3 := (keepC hbw w.heap.size hzs 3).trans e3
        have p0 := hoP.cellAt 0 (by omega)
        have p1 := hoP.cellAt 1 (by omega)
        simp only [List.getElem?_cons_zero, List.getElem?_cons_succ] at p0 p1
        obtain ⟨c0, c1, c2, c3, c4, c5, c6, hzb⟩ := hzp.next hb0w
        obtain ⟨w5, hw5⟩ : ∃ w5, wr.alloc (wkObj z 60) = w5 := ⟨_, rfl⟩
        have hb5a : Below wr.heap.size wr w5 := by rw [← hw5]; (repeat (first | (with_reducible assumption) | (with_reducible exact Below.refl _ _) | exact Nat.le_refl _ | exact Below.size (by with_reducible assumption) | (with_reducible refine Below.drew ?_) | (with_reducible refine below_drewN ?_ _) | (with_reducible refine Below.alloc ?_ ?_ _) | (with_reducible refine Below.setCell ?_ ?_ _) | (with_reducible refine le_alloc ?_ _) | (with_reducible refine le_set ?_ _ _) | (with_reducible refine le_drew ?_) | (with_reducible refine le_drewN ?_ _) | omega | (dsimp only; omega)))
        have hb5 := hbw.trans (hb5a.mono hbw.size)
        have hbw5 : w1.heap.size ≤ wr.heap.size := hbw.size
        have g1 : WkP w5 wr.heap.size 0 z := by rw [← hw5]; exact WkP.box wr z 60
        obtain ⟨f0, f1, f2, f3, f4, f5, f6, hg0⟩ := g1
        simp only [Nat.zero_add] at f1 f2 f3 f4 f5 f6
        have hP5 := own_next hoP hb5a
        have ho5 := own_next ho hb5a
        have hbp0 := (hoP.lt bp rfl).1
        have hbpl := (hoP.lt bp rfl).2
        obtain ⟨g, hgg⟩ : ∃ g, wr.heap.size = g := ⟨_, rfl⟩
        rw [hgg] at hg0 f0 f1 f2 f3 f4 f5 f6 hbpl hbw5
        have n1 : ¬ g = bp := by omega
        have n2 : ¬ bp = g := by omega
        have h5p0 := hP5.cellAt 0 (by omega)
        have h5p1 := hP5.cellAt 1 (by omega)
        simp only [List.getElem?_cons_zero, List.getElem?_cons_succ] at h5p0 h5p1
        have h5s0 := (keepC hb5a w.heap.size (Nat.lt_of_lt_of_le hzs hbw.size) 0).trans s0
        have h5s1 := (keepC hb5a w.heap.size (Nat.lt_of_lt_of_le hzs hbw.size) 1).trans s1
        have h5s2 := (keepC hb5a w.heap.size (Nat.lt_of_lt_of_le hzs hbw.size) 2).trans s2
        have h5s3 := (keepC hb5a w.heap.size (Nat.lt_of_lt_of_le hzs hbw.size) 3).trans s3
        have Hd := Lib.hid hd; clear hd
        have Hdm := Lib.hid hdm; clear hdm
        have Hzx := Lib.hid hzx; clear hzx
        have Hzk := Lib.hid hzk; clear hzk
        have Hnx := Lib.hid hnx; clear hnx
        have HT := Lib.hid hT; clear hT
        have HC := Lib.hid hC; clear hC
        have E63 := Lib.hid e63; clear e63
        have E32 := Lib.hid e32; clear e32
        have HAR := Lib.hid hAR; clear hAR
        clear hb5a hzp hPp hb0w
        rcases Int.lt_or_le AR z.fr with hle | hle
        · have hmx : max AR z.fr = z.fr := Int.max_eq_right (by omega)
          rw [hmx] at hcv hokC
          have hE0 : IntKind.i64.wrap (z.fr + z.mi) = z.fr + z.mi := IntWalk.i64_in _ (by omega)
          obtain ⟨EN, hEN⟩ : ∃ EN, z.fr + z.mi = EN := ⟨_, rfl⟩
          have hE : IntKind.i64.wrap (z.fr + z.mi) = EN := hE0.trans hEN
          rw [hEN] at hcv hokC
          clear hE0 hmx
          have HCv := Lib.hid hcv; clear hcv
          have HokC := Lib.hid hokC; clear hokC
          have HEN := Lib.hid hEN; clear hEN
          go_wp2_with fail
          try rw [hw5]
          try rw [hgg]
          clear hw5 hgg c0 c1 c2 c3 c4 c5 c6
          refine (HT.out _).mono ?_
          rintro e w6 ⟨rfl, hb6⟩
          have y1 := (keepC hb6 g hg0 1).trans f1
          have y2 := (keepC hb6 g hg0 2).trans f2
          have y4 := (keepC hb6 g hg0 4).trans f4
          have y5 := (keepC hb6 g hg0 5).trans f5
          have y6 := (keepC hb6 g hg0 6).trans f6
          have hg6 := Nat.lt_of_lt_of_le hg0 hb6.size
          have hbE := hb5.trans (hb6.mono hb5.size)
          have hP6 := own_next hP5 hb6
          have ho6 := own_next ho5 hb6
          have q0 := hP6.cellAt 0 (by omega)
          have q1 := hP6.cellAt 1 (by omega)
          have fz := hP6.frozenAt
          simp only [List.getElem?_cons_zero, List.getElem?_cons_succ] at q0 q1
          clear f0 f1 f2 f3 f4 f5 f6 hP5 ho5 hb6 s0 s1 s2 s3 h5s0 h5s1 h5s2 h5s3 h5p0 h5p1 p0 p1 r0
          go_wp2_with fail
          refine wp_region_held_drew (S := fun w' => w'.cell? ⟨g, 1, none⟩ = some (.int .i64 z.x) ∧ w'.cell? ⟨g, 2, none⟩ = some (.int .i64 z.y) ∧ w'.cell? ⟨g, 4, none⟩ = some (.int .i64 z.mi)) (by kernel_rfl) ⟨y1, y2, y4⟩ (fun hHeld => ?_)
          (first
            | (refine wpAnyH_take (i := 0) (v := ?_) rfl (by kernel_rfl) (by kernel_rfl) (by kernel_rfl) (fun _ _ _ h => h) (Or.inl ⟨by rfl, ?_⟩) (by assumption) ?_
               rotate_left
               focus (intro wq hSq; (try dsimp only at hSq); go_simp; (try (with_reducible rfl)); done))
            | (refine wpAnyH_take (i := 0) (v := undef) rfl (by kernel_rfl) (by kernel_rfl) (by kernel_rfl) (fun _ _ _ h => h) (Or.inr ⟨by rfl, rfl⟩) (by assumption) ?_)
            | fail "take 0")
          try simp only [Act.put, List.setIfInBounds_toArray, List.set_cons_zero, List.set_cons_succ, List.getElem_toArray, List.getElem_cons_zero]
          (first
            | (refine wpAnyH_take (i := 1) (v := ?_) rfl (by kernel_rfl) (by kernel_rfl) (by kernel_rfl) (fun _ _ _ h => h) (Or.inl ⟨by rfl, ?_⟩) (by assumption) ?_
               rotate_left
               focus (intro wq hSq; (try dsimp only at hSq); go_simp; (try (with_reducible rfl)); done))
            | (refine wpAnyH_take (i := 1) (v := undef) rfl (by kernel_rfl) (by kernel_rfl) (by kernel_rfl) (fun _ _ _ h => h) (Or.inr ⟨by rfl, rfl⟩) (by assumption) ?_)
            | fail "take 1")
          try simp only [Act.put, List.setIfInBounds_toArray, List.set_cons_zero, List.set_cons_succ, List.getElem_toArray, List.getElem_cons_zero, List.getElem_cons_succ]
          (first
            | (refine wpAnyH_take (i := 2) (v := ?_) rfl (by kernel_rfl) (by kernel_rfl) (by kernel_rfl) (fun _ _ _ h => h) (Or.inl ⟨by rfl, ?_⟩) (by assumption) ?_
               rotate_left
               focus (intro wq hSq; (try dsimp only at hSq); go_simp; (try (with_reducible rfl)); done))
            | (refine wpAnyH_take (i := 2) (v := undef) rfl (by kernel_rfl) (by kernel_rfl) (by kernel_rfl) (fun _ _ _ h => h) (Or.inr ⟨by rfl, rfl⟩) (by assumption) ?_)
            | fail "take 2")
          try simp only [Act.put, List.setIfInBounds_toArray, List.set_cons_zero, List.set_cons_succ, List.getElem_toArray, List.getElem_cons_zero, List.getElem_cons_succ]
          (first
            | (refine wpAnyH_take (i := 3) (v := ?_) rfl (by kernel_rfl) (by kernel_rfl) (by kernel_rfl) (fun _ _ _ h => h) (Or.inl ⟨by rfl, ?_⟩) (by assumption) ?_
               rotate_left
               focus (intro wq hSq; (try dsimp only at hSq); go_simp; (try (with_reducible rfl)); done))
            | (refine wpAnyH_take (i := 3) (v := undef) rfl (by kernel_rfl) (by kernel_rfl) (by kernel_rfl) (fun _ _ _ h => h) (Or.inr ⟨by rfl, rfl⟩) (by assumption) ?_)
            | fail "take 3")
          try simp only [Act.put, List.setIfInBounds_toArray, List.set_cons_zero, List.set_cons_succ, List.getElem_toArray, List.getElem_cons_zero, List.getElem_cons_succ]
          (first
            | (refine wpAnyH_take (i := 4) (v := ?_) rfl (by kernel_rfl) (by kernel_rfl) (by kernel_rfl) (fun _ _ _ h => h) (Or.inl ⟨by rfl, ?_⟩) (by assumption) ?_
               rotate_left
               focus (intro wq hSq; (try dsimp only at hSq); go_simp; (try (with_reducible rfl)); done))
            | (refine wpAnyH_take (i := 4) (v := undef) rfl (by kernel_rfl) (by kernel_rfl) (by kernel_rfl) (fun _ _ _ h => h) (Or.inr ⟨by rfl, rfl⟩) (by assumption) ?_)
            | fail "take 4")
          try simp only [Act.put, List.setIfInBounds_toArray, List.set_cons_zero, List.set_cons_succ, List.getElem_toArray, List.getElem_cons_zero, List.getElem_cons_succ]
          (first
            | (refine wpAnyH_take (i := 5) (v := ?_) rfl (by kernel_rfl) (by kernel_rfl) (by kernel_rfl) (fun _ _ _ h => h) (Or.inl ⟨by rfl, ?_⟩) (by assumption) ?_
               rotate_left
               focus (intro wq hSq; (try dsimp only at hSq); go_simp; (try (with_reducible rfl)); done))
            | (refine wpAnyH_take (i := 5) (v := undef) rfl (by kernel_rfl) (by kernel_rfl) (by kernel_rfl) (fun _ _ _ h => h) (Or.inr ⟨by rfl, rfl⟩) (by assumption) ?_)
            | fail "take 5")
          try simp only [Act.put, List.setIfInBounds_toArray, List.set_cons_zero, List.set_cons_succ, List.getElem_toArray, List.getElem_cons_zero, List.getElem_cons_succ]
          (first
            | (refine wpAnyH_take (i := 6) (v := ?_) rfl (by kernel_rfl) (by kernel_rfl) (by kernel_rfl) (fun _ _ _ h => h) (Or.inl ⟨by rfl, ?_⟩) (by assumption) ?_
               rotate_left
               focus (intro wq hSq; (try dsimp only at hSq); go_simp; (try (with_reducible rfl)); done))
            | (refine wpAnyH_take (i := 6) (v := undef) rfl (by kernel_rfl) (by kernel_rfl) (by kernel_rfl) (fun _ _ _ h => h) (Or.inr ⟨by rfl, rfl⟩) (by assumption) ?_)
            | fail "take 6")
          try simp only [Act.put, List.setIfInBounds_toArray, List.set_cons_zero, List.set_cons_succ, List.getElem_toArray, List.getElem_cons_zero, List.getElem_cons_succ]
          refine wpAnyH_ready (rs := [7]) (by kernel_rfl) (by simp) ?_
          refine AllReadyH.cons (o := _) rfl (fun K hK => ?_) AllReadyH.nil
          go_simp
          skip
          refine hK.out _ _ ?_ (fun hHeld => ?_)
          · exact ⟨cell_blk n2 (cell_blk n2 y1), cell_blk n2 (cell_blk n2 y2), cell_blk n2 (cell_blk n2 y4)⟩
          clear hK K
          try simp only [Act.put, List.setIfInBounds_toArray, List.set_cons_zero, List.set_cons_succ, List.getElem_toArray, List.getElem_cons_zero, List.getElem_cons_succ]
          refine wpAnyH_done (by kernel_rfl) ?_ _
          have hst := (own_next hP6 (Below.refl _ _).drew).stored 0 (.int .i64 z.x)
          have hst2 := hst.1.stored 1 (.int .i64 z.y)
          have ho7 := own_grown (own_grown (own_next ho6 (Below.refl _ _).drew) hst.2 (own_ne ho6 hP6 (by decide))) hst2.2 (own_ne ho6 hP6 (by decide))
          refine then_world (F := fun w7 => Below w1.heap.size w1 w7 ∧ w7.ownsRow w1.heap.size 34 2 (.slice (some ⟨bp, 0, none⟩) 1 1) 1 [.int .i64 z.x, .int .i64 z.y] ∧ w7.ownsRow w1.heap.size 77 4 (.slice A3 k c3) k (C.flatMap Cl.cells) ∧ w7.cell? ⟨g, 6, none⟩ = some (.int .i64 z.un)) ⟨by (repeat (first | (with_reducible assumption) | (with_reducible exact Below.refl _ _) | exact Nat.le_refl _ | exact Below.size (by with_reducible assumption) | (with_reducible refine Below.drew ?_) | (with_reducible refine below_drewN ?_ _) | (with_reducible refine Below.alloc ?_ ?_ _) | (with_reducible refine Below.setCell ?_ ?_ _) | (with_reducible refine le_alloc ?_ _) | (with_reducible refine le_set ?_ _ _) | (with_reducible refine le_drew ?_) | (with_reducible refine le_drewN ?_ _) | omega | (dsimp only; omega))), hst2.1, ho7, cell_blk n2 (cell_blk n2 y6)⟩ ?_
          clear hHeld hst hst2 ho7 ho6 hP6 q0 q1 fz y1 y2 y4 y5 y6 hbE
          rintro w7 ⟨hb7, hP7, ho7, y6⟩
          by_cases hun : EN ≤ z.un
          · have hnu : ¬ EN > z.un := by omega
            go_wp2_with (at_builtin; refine wpl_append _ rfl (.tmp 58) (.tmp 64) _ rfl w1.heap.size 77 i0 _ 4 32 Try.underlying83 hi hz0 hz1 hz2 rfl (by omega) _ k _ rfl (ho7.alloc _) (w7.heap.size + 1) (some ⟨w7.heap.size, 0, none⟩) 1 1 (Cl.cells ⟨(m : Int), AR, z.fr, EN⟩) rfl (Sl.new w7 77 _ 1 4 rfl) (Cl.cells_one _) E63.out E32.out (le_alloc hb7.size _) ?_; intro v8 w8 ho8 hg8 hat8)
            go_roundw
            case rel =>
              have hP8 := own_grown (own_next hP7 ((Below.refl w7.heap.size w7).alloc (Nat.le_refl _) (.cells (Cl.cells ⟨(m : Int), AR, z.fr, EN⟩).toArray 77))) hg8 (own_ne hP7 ho7 (by decide))
              refine ⟨k + 1, ⟨EN, z.x, z.y⟩, by omega, by go_num, rfl, ?_, Lib.hid ?_, Lib.hid ?_, hP8, (hb7.alloc hb7.size _).grown hg8 (le_alloc hb7.size _) fun g hg => (ho7.lt g hg).1⟩
              · rw [Hnx.out, callsV_snoc, HC.out, HP.out, HCv.out, List.flatMap_append]
                simpa using ho8
              · rw [Hnx.out, okV_snoc, Hok.out, HP.out, HokC.out]; simpa using hun
              · rw [Hnx.out, posV_snoc, HP.out, nextV, HCv.out, Hzk.out]
            case measure => simp [intOf]; omega
          · have hK6 : K = 6 := by
              have hno : okV s zs ⟨t, x, y⟩ xs = false := by
                rw [Bool.eq_false_iff]
                intro hyes
                have := okV_take hyes (k + 1)
                rw [Hnx.out, okV_snoc, HP.out, HokC.out, Bool.and_eq_true, decide_eq_true_eq] at this
                exact hun this.2
              rw [HKv.out, hno]; rfl
            have HK6 := Lib.hid hK6; clear hK6
            have hnu : EN > z.un := by omega
            go_wp2_with fail
            go_ret2
            exact ⟨_, by rw [HK6.out]; rfl, fun h0 => absurd (HK6.out.symm.trans h0) (by decide), hb1.trans (hb7.mono hb1.size)⟩
        · have hmx : max AR z.fr = AR := Int.max_eq_left hle
          rw [hmx] at hcv hokC
          have hE0 : IntKind.i64.wrap (AR + z.mi) = AR + z.mi := IntWalk.i64_in _ (by omega)
          obtain ⟨EN, hEN⟩ : ∃ EN, AR + z.mi = EN := ⟨_, rfl⟩
          have hE : IntKind.i64.wrap (AR + z.mi) = EN := hE0.trans hEN
          rw [hEN] at hcv hokC
          clear hE0 hmx
          have HCv := Lib.hid hcv; clear hcv
          have HokC := Lib.hid hokC; clear hokC
          have HEN := Lib.hid hEN; clear hEN
          go_wp2_with fail
          try rw [hw5]
          try rw [hgg]
          clear hw5 hgg c0 c1 c2 c3 c4 c5 c6
          refine (HT.out _).mono ?_
          rintro e w6 ⟨rfl, hb6⟩
          have y1 := (keepC hb6 g hg0 1).trans f1
          have y2 := (keepC hb6 g hg0 2).trans f2
          have y4 := (keepC hb6 g hg0 4).trans f4
          have y5 := (keepC hb6 g hg0 5).trans f5
          have y6 := (keepC hb6 g hg0 6).trans f6
          have hg6 := Nat.lt_of_lt_of_le hg0 hb6.size
          have hbE := hb5.trans (hb6.mono hb5.size)
          have hP6 := own_next hP5 hb6
          have ho6 := own_next ho5 hb6
          have q0 := hP6.cellAt 0 (by omega)
          have q1 := hP6.cellAt 1 (by omega)
          have fz := hP6.frozenAt
          simp only [List.getElem?_cons_zero, List.getElem?_cons_succ] at q0 q1
          clear f0 f1 f2 f3 f4 f5 f6 hP5 ho5 hb6 s0 s1 s2 s3 h5s0 h5s1 h5s2 h5s3 h5p0 h5p1 p0 p1 r0
          go_wp2_with fail
          refine wp_region_held_drew (S := fun w' => w'.cell? ⟨g, 1, none⟩ = some (.int .i64 z.x) ∧ w'.cell? ⟨g, 2, none⟩ = some (.int .i64 z.y) ∧ w'.cell? ⟨g, 4, none⟩ = some (.int .i64 z.mi)) (by kernel_rfl) ⟨y1, y2, y4⟩ (fun hHeld => ?_)
          (first
            | (refine wpAnyH_take (i := 0) (v := ?_) rfl (by kernel_rfl) (by kernel_rfl) (by kernel_rfl) (fun _ _ _ h => h) (Or.inl ⟨by rfl, ?_⟩) (by assumption) ?_
               rotate_left
               focus (intro wq hSq; (try dsimp only at hSq); go_simp; (try (with_reducible rfl)); done))
            | (refine wpAnyH_take (i := 0) (v := undef) rfl (by kernel_rfl) (by kernel_rfl) (by kernel_rfl) (fun _ _ _ h => h) (Or.inr ⟨by rfl, rfl⟩) (by assumption) ?_)
            | fail "take 0")
          try simp only [Act.put, List.setIfInBounds_toArray, List.set_cons_zero, List.set_cons_succ, List.getElem_toArray, List.getElem_cons_zero]
          (first
            | (refine wpAnyH_take (i := 1) (v := ?_) rfl (by kernel_rfl) (by kernel_rfl) (by kernel_rfl) (fun _ _ _ h => h) (Or.inl ⟨by rfl, ?_⟩) (by assumption) ?_
               rotate_left
               focus (intro wq hSq; (try dsimp only at hSq); go_simp; (try (with_reducible rfl)); done))
            | (refine wpAnyH_take (i := 1) (v := undef) rfl (by kernel_rfl) (by kernel_rfl) (by kernel_rfl) (fun _ _ _ h => h) (Or.inr ⟨by rfl, rfl⟩) (by assumption) ?_)
            | fail "take 1")
          try simp only [Act.put, List.setIfInBounds_toArray, List.set_cons_zero, List.set_cons_succ, List.getElem_toArray, List.getElem_cons_zero, List.getElem_cons_succ]
          (first
            | (refine wpAnyH_take (i := 2) (v := ?_) rfl (by kernel_rfl) (by kernel_rfl) (by kernel_rfl) (fun _ _ _ h => h) (Or.inl ⟨by rfl, ?_⟩) (by assumption) ?_
               rotate_left
               focus (intro wq hSq; (try dsimp only at hSq); go_simp; (try (with_reducible rfl)); done))
            | (refine wpAnyH_take (i := 2) (v := undef) rfl (by kernel_rfl) (by kernel_rfl) (by kernel_rfl) (fun _ _ _ h => h) (Or.inr ⟨by rfl, rfl⟩) (by assumption) ?_)
            | fail "take 2")
          try simp only [Act.put, List.setIfInBounds_toArray, List.set_cons_zero, List.set_cons_succ, List.getElem_toArray, List.getElem_cons_zero, List.getElem_cons_succ]
          (first
            | (refine wpAnyH_take (i := 3) (v := ?_) rfl (by kernel_rfl) (by kernel_rfl) (by kernel_rfl) (fun _ _ _ h => h) (Or.inl ⟨by rfl, ?_⟩) (by assumption) ?_
               rotate_left
               focus (intro wq hSq; (try dsimp only at hSq); go_simp; (try (with_reducible rfl)); done))
            | (refine wpAnyH_take (i := 3) (v := undef) rfl (by kernel_rfl) (by kernel_rfl) (by kernel_rfl) (fun _ _ _ h => h) (Or.inr ⟨by rfl, rfl⟩) (by assumption) ?_)
            | fail "take 3")
          try simp only [Act.put, List.setIfInBounds_toArray, List.set_cons_zero, List.set_cons_succ, List.getElem_toArray, List.getElem_cons_zero, List.getElem_cons_succ]
          (first
            | (refine wpAnyH_take (i := 4) (v := ?_) rfl (by kernel_rfl) (by kernel_rfl) (by kernel_rfl) (fun _ _ _ h => h) (Or.inl ⟨by rfl, ?_⟩) (by assumption) ?_
               rotate_left
               focus (intro wq hSq; (try dsimp only at hSq); go_simp; (try (with_reducible rfl)); done))
            | (refine wpAnyH_take (i := 4) (v := undef) rfl (by kernel_rfl) (by kernel_rfl) (by kernel_rfl) (fun _ _ _ h => h) (Or.inr ⟨by rfl, rfl⟩) (by assumption) ?_)
            | fail "take 4")
          try simp only [Act.put, List.setIfInBounds_toArray, List.set_cons_zero, List.set_cons_succ, List.getElem_toArray, List.getElem_cons_zero, List.getElem_cons_succ]
          (first
            | (refine wpAnyH_take (i := 5) (v := ?_) rfl (by kernel_rfl) (by kernel_rfl) (by kernel_rfl) (fun _ _ _ h => h) (Or.inl ⟨by rfl, ?_⟩) (by assumption) ?_
               rotate_left
               focus (intro wq hSq; (try dsimp only at hSq); go_simp; (try (with_reducible rfl)); done))
            | (refine wpAnyH_take (i := 5) (v := undef) rfl (by kernel_rfl) (by kernel_rfl) (by kernel_rfl) (fun _ _ _ h => h) (Or.inr ⟨by rfl, rfl⟩) (by assumption) ?_)
            | fail "take 5")
          try simp only [Act.put, List.setIfInBounds_toArray, List.set_cons_zero, List.set_cons_succ, List.getElem_toArray, List.getElem_cons_zero, List.getElem_cons_succ]
          (first
            | (refine wpAnyH_take (i := 6) (v := ?_) rfl (by kernel_rfl) (by kernel_rfl) (by kernel_rfl) (fun _ _ _ h => h) (Or.inl ⟨by rfl, ?_⟩) (by assumption) ?_
               rotate_left
               focus (intro wq hSq; (try dsimp only at hSq); go_simp; (try (with_reducible rfl)); done))
            | (refine wpAnyH_take (i := 6) (v := undef) rfl (by kernel_rfl) (by kernel_rfl) (by kernel_rfl) (fun _ _ _ h => h) (Or.inr ⟨by rfl, rfl⟩) (by assumption) ?_)
            | fail "take 6")
          try simp only [Act.put, List.setIfInBounds_toArray, List.set_cons_zero, List.set_cons_succ, List.getElem_toArray, List.getElem_cons_zero, List.getElem_cons_succ]
          refine wpAnyH_ready (rs := [7]) (by kernel_rfl) (by simp) ?_
          refine AllReadyH.cons (o := _) rfl (fun K hK => ?_) AllReadyH.nil
          go_simp
          skip
          refine hK.out _ _ ?_ (fun hHeld => ?_)
          · exact ⟨cell_blk n2 (cell_blk n2 y1), cell_blk n2 (cell_blk n2 y2), cell_blk n2 (cell_blk n2 y4)⟩
          clear hK K
          try simp only [Act.put, List.setIfInBounds_toArray, List.set_cons_zero, List.set_cons_succ, List.getElem_toArray, List.getElem_cons_zero, List.getElem_cons_succ]
          refine wpAnyH_done (by kernel_rfl) ?_ _
          have hst := (own_next hP6 (Below.refl _ _).drew).stored 0 (.int .i64 z.x)
          have hst2 := hst.1.stored 1 (.int .i64 z.y)
          have ho7 := own_grown (own_grown (own_next ho6 (Below.refl _ _).drew) hst.2 (own_ne ho6 hP6 (by decide))) hst2.2 (own_ne ho6 hP6 (by decide))
          refine then_world (F := fun w7 => Below w1.heap.size w1 w7 ∧ w7.ownsRow w1.heap.size 34 2 (.slice (some ⟨bp, 0, none⟩) 1 1) 1 [.int .i64 z.x, .int .i64 z.y] ∧ w7.ownsRow w1.heap.size 77 4 (.slice A3 k c3) k (C.flatMap Cl.cells) ∧ w7.cell? ⟨g, 6, none⟩ = some (.int .i64 z.un)) ⟨by (repeat (first | (with_reducible assumption) | (with_reducible exact Below.refl _ _) | exact Nat.le_refl _ | exact Below.size (by with_reducible assumption) | (with_reducible refine Below.drew ?_) | (with_reducible refine below_drewN ?_ _) | (with_reducible refine Below.alloc ?_ ?_ _) | (with_reducible refine Below.setCell ?_ ?_ _) | (with_reducible refine le_alloc ?_ _) | (with_reducible refine le_set ?_ _ _) | (with_reducible refine le_drew ?_) | (with_reducible refine le_drewN ?_ _) | omega | (dsimp only; omega))), hst2.1, ho7, cell_blk n2 (cell_blk n2 y6)⟩ ?_
          clear hHeld hst hst2 ho7 ho6 hP6 q0 q1 fz y1 y2 y4 y5 y6 hbE
          rintro w7 ⟨hb7, hP7, ho7, y6⟩
          by_cases hun : EN ≤ z.un
          · have hnu : ¬ EN > z.un := by omega
            go_wp2_with (at_builtin; refine wpl_append _ rfl (.tmp 58) (.tmp 64) _ rfl w1.heap.size 77 i0 _ 4 32 Try.underlying83 hi hz0 hz1 hz2 rfl (by omega) _ k _ rfl (ho7.alloc _) (w7.heap.size + 1) (some ⟨w7.heap.size, 0, none⟩) 1 1 (Cl.cells ⟨(m : Int), AR, AR, EN⟩) rfl (Sl.new w7 77 _ 1 4 rfl) (Cl.cells_one _) E63.out E32.out (le_alloc hb7.size _) ?_; intro v8 w8 ho8 hg8 hat8)
            go_roundw
            case rel =>
              have hP8 := own_grown (own_next hP7 ((Below.refl w7.heap.size w7).alloc (Nat.le_refl _) (.cells (Cl.cells ⟨(m : Int), AR, AR, EN⟩).toArray 77))) hg8 (own_ne hP7 ho7 (by decide))
              refine ⟨k + 1, ⟨EN, z.x, z.y⟩, by omega, by go_num, rfl, ?_, Lib.hid ?_, Lib.hid ?_, hP8, (hb7.alloc hb7.size _).grown hg8 (le_alloc hb7.size _) fun g hg => (ho7.lt g hg).1⟩
              · rw [Hnx.out, callsV_snoc, HC.out, HP.out, HCv.out, List.flatMap_append]
                simpa using ho8
              · rw [Hnx.out, okV_snoc, Hok.out, HP.out, HokC.out]; simpa using hun
              · rw [Hnx.out, posV_snoc, HP.out, nextV, HCv.out, Hzk.out]
            case measure => simp [intOf]; omega
          · have hK6 : K = 6 := by
              have hno : okV s zs ⟨t, x, y⟩ xs = false := by
                rw [Bool.eq_false_iff]
                intro hyes
                have := okV_take hyes (k + 1)
                rw [Hnx.out, okV_snoc, HP.out, HokC.out, Bool.and_eq_true, decide_eq_true_eq] at this
                exact hun this.2
              rw [HKv.out, hno]; rfl
            have HK6 := Lib.hid hK6; clear hK6
            have hnu : EN > z.un := by omega
            go_wp2_with fail
            go_ret2
            exact ⟨_, by rw [HK6.out]; rfl, fun h0 => absurd (HK6.out.symm.trans h0) (by decide), hb1.trans (hb7.mono hb1.size)⟩
      · obtain rfl : k = n := by omega
        have hxt : xs.take k = xs := List.take_of_length_le (by rw [Hl.out]; omega)
        have hKK : K = 0 := by
          have := Hok.out
          rw [hxt] at this
          rw [HKv.out, this]; rfl
        rw [hxt, Hcs.out] at ho
        obtain ⟨A3, c3, rfl⟩ := own_slice ho
        have HKK := Lib.hid hKK; clear hKK
        have Hxt := Lib.hid hxt; clear hxt
        go_wp2_with fail
        go_ret2
        exact ⟨_, by rw [HKK.out]; rfl, fun _ => own_base ho hb1.size, hb1.trans (hbw.mono hb1.size)⟩
end Go.Proofs.Ytgkdjohiclhcoaa
