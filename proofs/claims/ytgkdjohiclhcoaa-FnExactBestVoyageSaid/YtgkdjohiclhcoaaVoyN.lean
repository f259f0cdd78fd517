/- When a ship is back; the codes: the program. -/
import Derived.Test.YtgkdjohiclhcoaaVoyV
import Derived.Test.YtgkdjohiclhcoaaVoyB2
namespace Go.Proofs.Ytgkdjohiclhcoaa
open Go.RowKit
theorem Sl.cl {w : World} {B n : Nat} {A : Option Addr} {cs : List Cl} (h : Sl w B 4 A n (cs.flatMap Cl.cells)) (hB : B ≤ w.heap.size) (k : Nat) (hk : k < n) :
    ∃ b off z, A = some ⟨b, off, none⟩ ∧ b < B ∧ cs[k]? = some z ∧ ClP w b (off + k * 4) z := by
  obtain ⟨b, off, z, hA, hb, hx, hc⟩ := h.get Cl.cells 4 Cl.cells_len (by omega) k hk
  exact ⟨b, off, z, hA, hb, hx, ⟨hc 0 _ rfl, hc 1 _ rfl, hc 2 _ rfl, hc 3 _ rfl, by omega⟩⟩
/-- The last call of a voyage that is not empty. -/
theorem calls_last {s : Sh} {zs : List Wk} {p : VSt} {ks : List Int} {n : Nat} (hl : ks.length = n + 1) {z : Cl} (hz : (callsV s zs p ks)[n]? = some z) : z.k ∈ ks ∧ z.en = (posV s zs p ks).t ∧ (wkI zs z.k).x = (posV s zs p ks).x ∧ (wkI zs z.k).y = (posV s zs p ks).y := by
  rcases List.eq_nil_or_concat ks with rfl | ⟨l, a, rfl⟩
  · cases hl
  · rw [List.concat_eq_append] at hl hz ⊢
    have hll : l.length = n := by simpa using hl
    rw [callsV_snoc, List.getElem?_append_right (by rw [callsV_len]; omega), callsV_len, hll, Nat.sub_self] at hz
    simp only [List.getElem?_cons_zero, Option.some.injEq] at hz
    subst hz
    rw [posV_snoc]
    exact ⟨by simp [callV], rfl, rfl, rfl⟩
theorem at_inI (n : Nat) (k : Int) : inI n k = true ↔ 0 ≤ k ∧ k < (n : Int) := by rw [inI, inB_iff]; omega
set_option maxRecDepth 100000 in
set_option maxHeartbeats 4000000 in
theorem end_c (s : Sh) (x y t : Int) (AZ : Option Addr) (N cZ : Nat) (zs : List Wk) (A : Option Addr) (n c : Nat) (xs : List Int) (w : World) (hz : Sl w w.heap.size 7 AZ N (zs.flatMap Wk.cells)) (h : Sl w w.heap.size 1 A n (xs.flatMap intC)) (hm : n ≤ 1048576)
    (hv : VOk s zs ⟨t, x, y⟩ xs) :
    Calls Try.prog 33 #[s.val, ptV x y, .slice AZ N cZ, .slice A n c, .int .i64 t] w fun e w' => e = .returned (.tuple #[.int .i64 (bif decide (voyK s zs ⟨t, x, y⟩ xs = 0) then endV s zs ⟨t, x, y⟩ xs else 0), .int .i64 (voyK s zs ⟨t, x, y⟩ xs)]) ∧ Below w.heap.size w w' := by
  have hl := h.len intC 1 intC_len (by omega)
  have hln := hz.len Wk.cells 7 Wk.cells_len (by omega)
  have hV : ∀ w1, Below w.heap.size w w1 → Calls Try.prog 57 #[s.val, ptV x y, .slice AZ N cZ, .slice A n c, .int .i64 t] w1 fun e w' => ∃ v, e = .returned (.tuple #[v, .int .i64 (voyK s zs ⟨t, x, y⟩ xs)]) ∧ (voyK s zs ⟨t, x, y⟩ xs = 0 → w'.ownsRow w1.heap.size 77 4 v n ((callsV s zs ⟨t, x, y⟩ xs).flatMap Cl.cells)) ∧ Below w1.heap.size w1 w' := fun w1 hb => voyage_c s x y t AZ N cZ zs A n c xs w1 (hz.next hb) (h.next hb) hm hv
  have hb0 : Below w.heap.size w ((w.alloc (shO s 32)).alloc (ptO x y 34)) := by (repeat (first | (with_reducible assumption) | (with_reducible exact Below.refl _ _) | exact Nat.le_refl _ | exact Below.size (by with_reducible assumption) | (with_reducible refine Below.drew ?_) | (with_reducible refine below_drewN ?_ _) | (with_reducible refine Below.alloc ?_ ?_ _) | (with_reducible refine Below.setCell ?_ ?_ _) | (with_reducible refine le_alloc ?_ _) | (with_reducible refine le_set ?_ _ _) | (with_reducible refine le_drew ?_) | (with_reducible refine le_drewN ?_ _) | omega | (dsimp only; omega)))
  have g1 := (ShP.box w s 32).next (w' := (w.alloc (shO s 32)).alloc (ptO x y 34)) (by (repeat (first | (with_reducible assumption) | (with_reducible exact Below.refl _ _) | exact Nat.le_refl _ | exact Below.size (by with_reducible assumption) | (with_reducible refine Below.drew ?_) | (with_reducible refine below_drewN ?_ _) | (with_reducible refine Below.alloc ?_ ?_ _) | (with_reducible refine Below.setCell ?_ ?_ _) | (with_reducible refine le_alloc ?_ _) | (with_reducible refine le_set ?_ _ _) | (with_reducible refine le_drew ?_) | (with_reducible refine le_drewN ?_ _) | omega | (dsimp only; omega))))
  have hsz : (w.alloc (shO s 32)).heap.size = w.heap.size + 1 := by simp
  have p1 := PtP.box (w.alloc (shO s 32)) x y
  rw [hsz] at p1
  obtain ⟨w0, hw⟩ : ∃ w0, (w.alloc (shO s 32)).alloc (ptO x y 34) = w0 := ⟨_, rfl⟩
  rw [hw] at hb0 g1 p1
  obtain ⟨c0, c1, c2, c3, hg⟩ := g1
  obtain ⟨d0, d1, hp1⟩ := p1
  have hpos : n = 0 → endV s zs ⟨t, x, y⟩ xs = t := fun h0 => by
    have : xs = [] := List.eq_nil_of_length_eq_zero (by omega)
    rw [this]; rfl
  have hE2 : 0 < n → endV s zs ⟨t, x, y⟩ xs = (posV s zs ⟨t, x, y⟩ xs).t + travI s (posV s zs ⟨t, x, y⟩ xs).x (posV s zs ⟨t, x, y⟩ xs).y x y := fun h0 => by
    rw [endV]
    cases xs with
    | nil => simp at hl; omega
    | cons _ _ => rfl
  have hok : voyK s zs ⟨t, x, y⟩ xs = 0 → okV s zs ⟨t, x, y⟩ xs = true := fun h0 => by
    rw [voyK] at h0
    cases h1 : decide (s.ld < loadV zs xs)
    · rw [h1] at h0
      cases h2 : okV s zs ⟨t, x, y⟩ xs
      · rw [h2] at h0; cases h0
      · rfl
    · rw [h1] at h0; cases h0
  obtain ⟨K, hK⟩ : ∃ K, voyK s zs ⟨t, x, y⟩ xs = K := ⟨_, rfl⟩
  obtain ⟨E, hE⟩ : ∃ E, endV s zs ⟨t, x, y⟩ xs = E := ⟨_, rfl⟩
  obtain ⟨cs, hcs⟩ : ∃ cs, callsV s zs ⟨t, x, y⟩ xs = cs := ⟨_, rfl⟩
  rw [hK] at hok
  rw [hE] at hpos hE2
  rw [hK, hE]
  rw [hK, hcs] at hV
  clear hsz
  have Hl := Lib.hid hl; clear hl
  have Hln := Lib.hid hln; clear hln
  have HK := Lib.hid hK; clear hK
  have HE := Lib.hid hE; clear hE
  have Hcs := Lib.hid hcs; clear hcs
  have Hz := Lib.hid hz; clear hz
  have H := Lib.hid h; clear h
  have Hv := Lib.hid hv; clear hv
  have HV := Lib.hid hV; clear hV
  have Hpos := Lib.hid hpos; clear hpos
  have HE2 := Lib.hid hE2; clear hE2
  have Hok := Lib.hid hok; clear hok
  by_cases hK0 : K = 0
  · subst hK0
    rcases Nat.eq_zero_or_pos n with hn | hn
    · subst hn
      have hEt := Hpos.out rfl
      subst hEt
      go_enter Try.func33, Try.ntmps33
      go_wp2_with fail
      try rw [hw]
      clear hw
      refine (HV.out _ hb0).mono ?_
      rintro e w1 ⟨v, rfl, ho, hb1⟩
      obtain ⟨A1, c1', rfl⟩ := own_slice (ho trivial)
      go_wp2_with fail
      go_ret2
      exact ⟨rfl, hb0.trans (hb1.mono hb0.size)⟩
    · have hEe := HE2.out hn
      have hokk := Hok.out rfl
      have hPt := Hv.out.posT hokk
      have hPp := Hv.out.posP
      have hsp := Hv.out.sp
      obtain ⟨m, hnm⟩ : ∃ m, n = m + 1 := ⟨n - 1, by omega⟩
      have hlast : ∀ z, cs[m]? = some z → z.k ∈ xs ∧ z.en = (posV s zs ⟨t, x, y⟩ xs).t ∧ (wkI zs z.k).x = (posV s zs ⟨t, x, y⟩ xs).x ∧ (wkI zs z.k).y = (posV s zs ⟨t, x, y⟩ xs).y := fun z hz => calls_last (by rw [Hl.out, hnm]) (by rw [Hcs.out]; exact hz)
      obtain ⟨P, hP⟩ : ∃ P, posV s zs ⟨t, x, y⟩ xs = P := ⟨_, rfl⟩
      rw [hP] at hEe hPt hPp hlast
      have hT : ∀ w1, Calls Try.prog 58 #[s.val, ptV P.x P.y, ptV x y] w1 fun e w' => e = .returned (.int .i64 (travI s P.x P.y x y)) ∧ Below w1.heap.size w1 w' := fun w1 => travel_c s P.x P.y x y w1 hsp hPp Hv.out.pt
      have hTb := trav_bd hsp (root_bd (sqI P.x P.y x y))
      obtain ⟨T, hTe⟩ : ∃ T, travI s P.x P.y x y = T := ⟨_, rfl⟩
      rw [hTe] at hT hTb hEe
      have hAr : IntKind.i64.wrap (P.t + T) = P.t + T := IntWalk.i64_in _ (by omega)
      have hE3 : IntKind.i64.wrap (P.t + T) = E := hAr.trans hEe.symm
      have hn0 : ((n : Int) == 0) = false := by simp; omega
      have j1 : (0 : Int) ≤ (m : Int) := by omega
      have j2 : (m : Int) < (n : Int) := by omega
      have j3 : IntKind.i64.wrap ((n : Int) - 1) = (m : Int) := by rw [IntWalk.i64_in _ (by omega)]; omega
      have j4 : (n : Int) - 1 = (m : Int) := by omega
      have j5 : m < n := by omega
      have hrng := Hv.out.ks
      clear hAr hTe hokk hsp hPp hn
      have HEe := Lib.hid hEe; clear hEe
      have HT := Lib.hid hT; clear hT
      have HP := Lib.hid hP; clear hP
      have Hlast := Lib.hid hlast; clear hlast
      have Hrng := Lib.hid hrng; clear hrng
      have Hnm := Lib.hid hnm; clear hnm
      go_enter Try.func33, Try.ntmps33
      go_wp2_with fail
      try rw [hw]
      clear hw
      refine (HV.out _ hb0).mono ?_
      rintro e w1 ⟨v, rfl, ho, hb1⟩
      have ho1 := ho trivial
      clear ho
      obtain ⟨A1, c1', rfl⟩ := own_slice ho1
      obtain ⟨bc, offc, z, rfl, hbc, hcz, hcp⟩ := (Sl.of_own ho1).cl (Nat.le_refl _) m j5
      obtain ⟨z1, z2, z3, z4⟩ := Hlast.out z hcz
      have zr := Hrng.out z.k z1
      obtain ⟨q, hq⟩ : ∃ q : Nat, z.k = q := ⟨z.k.toNat, by omega⟩
      obtain ⟨bz, offz, u, rfl, hbz, hzx, hzp⟩ := Hz.out.wk (Nat.le_refl _) q (by rw [← Hln.out]; omega)
      have hzk := wkI_eq hzx
      rw [hq, hzk] at z3 z4
      have k0 := hcp.c0
      have k1 := hcp.c1
      have k2 := hcp.c2
      have k3 := hcp.c3
      rw [hq] at k0
      rw [z2] at k3
      have hbw1 := hb0.trans (hb1.mono hb0.size)
      have u1 := (hzp.next hbw1).c1
      have u2 := (hzp.next hbw1).c2
      rw [z3] at u1
      rw [z4] at u2
      have j6 : (0 : Int) ≤ (q : Int) := by omega
      have j7 : (q : Int) < (N : Int) := by rw [← Hln.out]; omega
      obtain ⟨zar, hzar⟩ : ∃ a, z.ar = a := ⟨_, rfl⟩
      obtain ⟨zbe, hzbe⟩ : ∃ a, z.be = a := ⟨_, rfl⟩
      rw [hzar] at k1
      rw [hzbe] at k2
      have v0 := (keepC hb1 w.heap.size hg 0).trans c0
      have v1 := (keepC hb1 w.heap.size hg 1).trans c1
      have v2 := (keepC hb1 w.heap.size hg 2).trans c2
      have v3 := (keepC hb1 w.heap.size hg 3).trans c3
      have t0 := (keepC hb1 (w.heap.size + 1) hp1 0).trans d0
      have t1 := (keepC hb1 (w.heap.size + 1) hp1 1).trans d1
      have hg1 := Nat.lt_of_lt_of_le hg hb1.size
      have hp2 := Nat.lt_of_lt_of_le hp1 hb1.size
      have hzb := (hzp.next hbw1).hb
      obtain ⟨w5, hw5⟩ : ∃ w5, w1.alloc (clO ⟨(q : Int), zar, zbe, P.t⟩ 77) = w5 := ⟨_, rfl⟩
      have hb5 : Below w1.heap.size w1 w5 := by rw [← hw5]; (repeat (first | (with_reducible assumption) | (with_reducible exact Below.refl _ _) | exact Nat.le_refl _ | exact Below.size (by with_reducible assumption) | (with_reducible refine Below.drew ?_) | (with_reducible refine below_drewN ?_ _) | (with_reducible refine Below.alloc ?_ ?_ _) | (with_reducible refine Below.setCell ?_ ?_ _) | (with_reducible refine le_alloc ?_ _) | (with_reducible refine le_set ?_ _ _) | (with_reducible refine le_drew ?_) | (with_reducible refine le_drewN ?_ _) | omega | (dsimp only; omega)))
      have gg := ClP.box w1 ⟨(q : Int), zar, zbe, P.t⟩ 77
      rw [hw5] at gg
      obtain ⟨g0, g1, g2, g3, hgg⟩ := gg
      simp only [Nat.zero_add] at g1 g2 g3
      have u1 := (keepC hb5 bz hzb _).trans u1
      have u2 := (keepC hb5 bz hzb _).trans u2
      have v0 := (keepC hb5 w.heap.size hg1 0).trans v0
      have v1 := (keepC hb5 w.heap.size hg1 1).trans v1
      have v2 := (keepC hb5 w.heap.size hg1 2).trans v2
      have v3 := (keepC hb5 w.heap.size hg1 3).trans v3
      have t0 := (keepC hb5 (w.heap.size + 1) hp2 0).trans t0
      have t1 := (keepC hb5 (w.heap.size + 1) hp2 1).trans t1
      have hg5 := Nat.lt_of_lt_of_le hg1 hb5.size
      have hp5 := Nat.lt_of_lt_of_le hp2 hb5.size
      have hz5 := Nat.lt_of_lt_of_le hzb hb5.size
      have hbw5 := hbw1.trans (hb5.mono hbw1.size)
      obtain ⟨G, hG⟩ : ∃ G, w1.heap.size = G := ⟨_, rfl⟩
      rw [hG] at g0 g1 g2 g3 hgg
      have Hcz := Lib.hid hcz; clear hcz
      have Hzx := Lib.hid hzx; clear hzx
      have Hzk := Lib.hid hzk; clear hzk
      have Hzar := Lib.hid hzar; clear hzar
      have Hzbe := Lib.hid hzbe; clear hzbe
      have Hq := Lib.hid hq; clear hq
      clear z1 z2 z3 z4 zr hcp hzp ho1 c0 c1 c2 c3 d0 d1 hb1 hb5 hbc hbz
      go_wp2_with fail
      try rw [hw5]
      try rw [hG]
      clear hw5 hG k0 k1 k2 k3
      have e1 : ∀ {w' : World}, Below w5.heap.size w5 w' → (Below w5.heap.size w5 w' ∧ (∀ i, w'.cell? ⟨G, i, none⟩ = w5.cell? ⟨G, i, none⟩) ∧ (∀ i, w'.cell? ⟨w.heap.size, i, none⟩ = w5.cell? ⟨w.heap.size, i, none⟩) ∧ (∀ i, w'.cell? ⟨w.heap.size + 1, i, none⟩ = w5.cell? ⟨w.heap.size + 1, i, none⟩) ∧ (∀ i, w'.cell? ⟨bz, i, none⟩ = w5.cell? ⟨bz, i, none⟩)) := fun hbb => ⟨hbb, keepC hbb _ hgg, keepC hbb _ hg5, keepC hbb _ hp5, keepC hbb _ hz5⟩
      refine wp_region_held_drew (S := fun w' => Below w5.heap.size w5 w' ∧ (∀ i, w'.cell? ⟨G, i, none⟩ = w5.cell? ⟨G, i, none⟩) ∧ (∀ i, w'.cell? ⟨w.heap.size, i, none⟩ = w5.cell? ⟨w.heap.size, i, none⟩) ∧ (∀ i, w'.cell? ⟨w.heap.size + 1, i, none⟩ = w5.cell? ⟨w.heap.size + 1, i, none⟩) ∧ (∀ i, w'.cell? ⟨bz, i, none⟩ = w5.cell? ⟨bz, i, none⟩)) (by kernel_rfl) (e1 (Below.refl _ _).drew) (fun hHeld => ?_)
      (first
        | (refine wpAnyH_take (i := 0) (v := ?_) rfl (by kernel_rfl) (by kernel_rfl) (by kernel_rfl) (fun _ _ _ h => h) (Or.inl ⟨by rfl, ?_⟩) (by assumption) ?_
           rotate_left
           focus (intro wq hSq; (try dsimp only at hSq); go_simp; (try (with_reducible rfl)); done))
        | (refine wpAnyH_take (i := 0) (v := undef) rfl (by kernel_rfl) (by kernel_rfl) (by kernel_rfl) (fun _ _ _ h => h) (Or.inr ⟨by rfl, rfl⟩) (by assumption) ?_)
        | fail "take 0")
      try simp only [Act.put, List.setIfInBounds_toArray, List.set_cons_zero, List.set_cons_succ, List.getElem_toArray, List.getElem_cons_zero]
      (first
        | (refine wpAnyH_take (i := 1) (v := ?_) rfl (by kernel_rfl) (by kernel_rfl) (by kernel_rfl) (fun _ _ _ h => h) (Or.inl ⟨by rfl, ?_⟩) (by assumption) ?_
           rotate_left
           focus (intro wq hSq; (try dsimp only at hSq); go_simp; (try (with_reducible rfl)); done))
        | (refine wpAnyH_take (i := 1) (v := undef) rfl (by kernel_rfl) (by kernel_rfl) (by kernel_rfl) (fun _ _ _ h => h) (Or.inr ⟨by rfl, rfl⟩) (by assumption) ?_)
        | fail "take 1")
      try simp only [Act.put, List.setIfInBounds_toArray, List.set_cons_zero, List.set_cons_succ, List.getElem_toArray, List.getElem_cons_zero, List.getElem_cons_succ]
      (first
        | (refine wpAnyH_take (i := 2) (v := ?_) rfl (by kernel_rfl) (by kernel_rfl) (by kernel_rfl) (fun _ _ _ h => h) (Or.inl ⟨by rfl, ?_⟩) (by assumption) ?_
           rotate_left
           focus (intro wq hSq; (try dsimp only at hSq); go_simp; (try (with_reducible rfl)); done))
        | (refine wpAnyH_take (i := 2) (v := undef) rfl (by kernel_rfl) (by kernel_rfl) (by kernel_rfl) (fun _ _ _ h => h) (Or.inr ⟨by rfl, rfl⟩) (by assumption) ?_)
        | fail "take 2")
      try simp only [Act.put, List.setIfInBounds_toArray, List.set_cons_zero, List.set_cons_succ, List.getElem_toArray, List.getElem_cons_zero, List.getElem_cons_succ]
      (first
        | (refine wpAnyH_take (i := 3) (v := ?_) rfl (by kernel_rfl) (by kernel_rfl) (by kernel_rfl) (fun _ _ _ h => h) (Or.inl ⟨by rfl, ?_⟩) (by assumption) ?_
           rotate_left
           focus (intro wq hSq; (try dsimp only at hSq); go_simp; (try (with_reducible rfl)); done))
        | (refine wpAnyH_take (i := 3) (v := undef) rfl (by kernel_rfl) (by kernel_rfl) (by kernel_rfl) (fun _ _ _ h => h) (Or.inr ⟨by rfl, rfl⟩) (by assumption) ?_)
        | fail "take 3")
      try simp only [Act.put, List.setIfInBounds_toArray, List.set_cons_zero, List.set_cons_succ, List.getElem_toArray, List.getElem_cons_zero, List.getElem_cons_succ]
      (first
        | (refine wpAnyH_take (i := 4) (v := ?_) rfl (by kernel_rfl) (by kernel_rfl) (by kernel_rfl) (fun _ _ _ h => h) (Or.inl ⟨by rfl, ?_⟩) (by assumption) ?_
           rotate_left
           focus (intro wq hSq; (try dsimp only at hSq); go_simp; (try (with_reducible rfl)); done))
        | (refine wpAnyH_take (i := 4) (v := undef) rfl (by kernel_rfl) (by kernel_rfl) (by kernel_rfl) (fun _ _ _ h => h) (Or.inr ⟨by rfl, rfl⟩) (by assumption) ?_)
        | fail "take 4")
      try simp only [Act.put, List.setIfInBounds_toArray, List.set_cons_zero, List.set_cons_succ, List.getElem_toArray, List.getElem_cons_zero, List.getElem_cons_succ]
      (first
        | (refine wpAnyH_take (i := 5) (v := ?_) rfl (by kernel_rfl) (by kernel_rfl) (by kernel_rfl) (fun _ _ _ h => h) (Or.inl ⟨by rfl, ?_⟩) (by assumption) ?_
           rotate_left
           focus (intro wq hSq; (try dsimp only at hSq); go_simp; (try (with_reducible rfl)); done))
        | (refine wpAnyH_take (i := 5) (v := undef) rfl (by kernel_rfl) (by kernel_rfl) (by kernel_rfl) (fun _ _ _ h => h) (Or.inr ⟨by rfl, rfl⟩) (by assumption) ?_)
        | fail "take 5")
      try simp only [Act.put, List.setIfInBounds_toArray, List.set_cons_zero, List.set_cons_succ, List.getElem_toArray, List.getElem_cons_zero, List.getElem_cons_succ]
      (first
        | (refine wpAnyH_take (i := 6) (v := ?_) rfl (by kernel_rfl) (by kernel_rfl) (by kernel_rfl) (fun _ _ _ h => h) (Or.inl ⟨by rfl, ?_⟩) (by assumption) ?_
           rotate_left
           focus (intro wq hSq; (try dsimp only at hSq); go_simp; (try (with_reducible rfl)); done))
        | (refine wpAnyH_take (i := 6) (v := undef) rfl (by kernel_rfl) (by kernel_rfl) (by kernel_rfl) (fun _ _ _ h => h) (Or.inr ⟨by rfl, rfl⟩) (by assumption) ?_)
        | fail "take 6")
      try simp only [Act.put, List.setIfInBounds_toArray, List.set_cons_zero, List.set_cons_succ, List.getElem_toArray, List.getElem_cons_zero, List.getElem_cons_succ]
      (first
        | (refine wpAnyH_take (i := 7) (v := ?_) rfl (by kernel_rfl) (by kernel_rfl) (by kernel_rfl) (fun _ _ _ h => h) (Or.inl ⟨by rfl, ?_⟩) (by assumption) ?_
           rotate_left
           focus (intro wq hSq; (try dsimp only at hSq); go_simp; (try (with_reducible rfl)); done))
        | (refine wpAnyH_take (i := 7) (v := undef) rfl (by kernel_rfl) (by kernel_rfl) (by kernel_rfl) (fun _ _ _ h => h) (Or.inr ⟨by rfl, rfl⟩) (by assumption) ?_)
        | fail "take 7")
      try simp only [Act.put, List.setIfInBounds_toArray, List.set_cons_zero, List.set_cons_succ, List.getElem_toArray, List.getElem_cons_zero, List.getElem_cons_succ]
      (first
        | (refine wpAnyH_take (i := 8) (v := ?_) rfl (by kernel_rfl) (by kernel_rfl) (by kernel_rfl) (fun _ _ _ h => h) (Or.inl ⟨by rfl, ?_⟩) (by assumption) ?_
           rotate_left
           focus (intro wq hSq; (try dsimp only at hSq); go_simp; (try (with_reducible rfl)); done))
        | (refine wpAnyH_take (i := 8) (v := undef) rfl (by kernel_rfl) (by kernel_rfl) (by kernel_rfl) (fun _ _ _ h => h) (Or.inr ⟨by rfl, rfl⟩) (by assumption) ?_)
        | fail "take 8")
      try simp only [Act.put, List.setIfInBounds_toArray, List.set_cons_zero, List.set_cons_succ, List.getElem_toArray, List.getElem_cons_zero, List.getElem_cons_succ]
      (first
        | (refine wpAnyH_take (i := 9) (v := ?_) rfl (by kernel_rfl) (by kernel_rfl) (by kernel_rfl) (fun _ _ _ h => h) (Or.inl ⟨by rfl, ?_⟩) (by assumption) ?_
           rotate_left
           focus (intro wq hSq; (try dsimp only at hSq); go_simp; (try (with_reducible rfl)); done))
        | (refine wpAnyH_take (i := 9) (v := undef) rfl (by kernel_rfl) (by kernel_rfl) (by kernel_rfl) (fun _ _ _ h => h) (Or.inr ⟨by rfl, rfl⟩) (by assumption) ?_)
        | fail "take 9")
      try simp only [Act.put, List.setIfInBounds_toArray, List.set_cons_zero, List.set_cons_succ, List.getElem_toArray, List.getElem_cons_zero, List.getElem_cons_succ]
      refine wpAnyH_ready (rs := [10]) (by kernel_rfl) (by simp) ?_
      refine AllReadyH.cons (o := _) rfl (fun K hK => ?_) AllReadyH.nil
      go_simp
      refine (HT.out _).mono ?_; rintro e w7 ⟨rfl, hb7⟩
      refine hK.out _ _ ?_ (fun hHeld => ?_)
      · exact e1 ((Below.refl _ _).drew.trans hb7)
      clear hK K
      try simp only [Act.put, List.setIfInBounds_toArray, List.set_cons_zero, List.set_cons_succ, List.getElem_toArray, List.getElem_cons_zero, List.getElem_cons_succ]
      (first
        | (refine wpAnyH_take (i := 11) (v := ?_) rfl (by kernel_rfl) (by kernel_rfl) (by kernel_rfl) (fun _ _ _ h => h) (Or.inl ⟨by rfl, ?_⟩) (by assumption) ?_
           rotate_left
           focus (intro wq hSq; (try dsimp only at hSq); go_simp; (try (with_reducible rfl)); done))
        | (refine wpAnyH_take (i := 11) (v := undef) rfl (by kernel_rfl) (by kernel_rfl) (by kernel_rfl) (fun _ _ _ h => h) (Or.inr ⟨by rfl, rfl⟩) (by assumption) ?_)
        | fail "take 11")
      try simp only [Act.put, List.setIfInBounds_toArray, List.set_cons_zero, List.set_cons_succ, List.getElem_toArray, List.getElem_cons_zero, List.getElem_cons_succ]
      (first
        | (refine wpAnyH_take (i := 12) (v := ?_) rfl (by kernel_rfl) (by kernel_rfl) (by kernel_rfl) (fun _ _ _ h => h) (Or.inl ⟨by rfl, ?_⟩) (by assumption) ?_
           rotate_left
           focus (intro wq hSq; (try dsimp only at hSq); go_simp; (try (with_reducible rfl)); done))
        | (refine wpAnyH_take (i := 12) (v := undef) rfl (by kernel_rfl) (by kernel_rfl) (by kernel_rfl) (fun _ _ _ h => h) (Or.inr ⟨by rfl, rfl⟩) (by assumption) ?_)
        | fail "take 12")
      try simp only [Act.put, List.setIfInBounds_toArray, List.set_cons_zero, List.set_cons_succ, List.getElem_toArray, List.getElem_cons_zero, List.getElem_cons_succ]
      (first
        | (refine wpAnyH_take (i := 13) (v := ?_) rfl (by kernel_rfl) (by kernel_rfl) (by kernel_rfl) (fun _ _ _ h => h) (Or.inl ⟨by rfl, ?_⟩) (by assumption) ?_
           rotate_left
           focus (intro wq hSq; (try dsimp only at hSq); go_simp; (try (with_reducible rfl)); done))
        | (refine wpAnyH_take (i := 13) (v := undef) rfl (by kernel_rfl) (by kernel_rfl) (by kernel_rfl) (fun _ _ _ h => h) (Or.inr ⟨by rfl, rfl⟩) (by assumption) ?_)
        | fail "take 13")
      try simp only [Act.put, List.setIfInBounds_toArray, List.set_cons_zero, List.set_cons_succ, List.getElem_toArray, List.getElem_cons_zero, List.getElem_cons_succ]
      refine wpAnyH_done (by kernel_rfl) ?_ _
      clear hHeld
      go_wp2_with fail
      go_ret2
      exact ⟨rfl, hbw5.trans (((Below.refl w5.heap.size w5).drew.trans hb7).mono hbw5.size)⟩
  · have hKn : (K == 0) = false := by simpa using hK0
    have hKd : decide (K = 0) = false := by simpa using hK0
    rw [hKd]
    go_enter Try.func33, Try.ntmps33
    go_wp2_with fail
    try rw [hw]
    clear hw
    refine (HV.out _ hb0).mono ?_
    rintro e w1 ⟨v, rfl, ho, hb1⟩
    go_wp2_with fail
    go_ret2
    exact ⟨rfl, hb0.trans (hb1.mono hb0.size)⟩
end Go.Proofs.Ytgkdjohiclhcoaa
