/- Voyages: the reference. -/
import Derived.Test.YtgkdjohiclhcoaaVoyC
import Derived.Test.YtgkdjohiclhcoaaVoyV
namespace Go.Proofs.Ytgkdjohiclhcoaa
open Go.RowKit
set_option maxRecDepth 100000 in
set_option maxHeartbeats 4000000 in
theorem l25Calls_c (bs : Nat) (s : Sh) (x y t : Int) (AZ : Option Addr) (N cZ : Nat) (zs : List Wk) (A : Option Addr) (n c : Nat) (xs : List Int) (w : World) (hsh : ShP w bs s) (hz : Sl w w.heap.size 7 AZ N (zs.flatMap Wk.cells)) (h : Sl w w.heap.size 1 A n (xs.flatMap intC)) (hm : n ≤ 1048576)
    (hv : VOk s zs ⟨t, x, y⟩ xs) :
    Calls Try.prog 49 #[.pointer (some ⟨bs, 0, none⟩), ptV x y, .slice AZ N cZ, .slice A n c, .int .i64 t] w fun e w' => ∃ v, e = .returned (.tuple #[v, .bool (okV s zs ⟨t, x, y⟩ xs)]) ∧ (okV s zs ⟨t, x, y⟩ xs = true → w'.ownsRow w.heap.size 77 4 v n ((callsV s zs ⟨t, x, y⟩ xs).flatMap Cl.cells)) ∧ Below w.heap.size w w' := by
  obtain ⟨i0, hi, hz0, hz1, hz2⟩ := info_parts clInfo
  have hl := h.len intC 1 intC_len (by omega)
  have hln := hz.len Wk.cells 7 Wk.cells_len (by omega)
  obtain ⟨w1, hw1⟩ : ∃ w1, w.alloc (ptO x y 34) = w1 := ⟨_, rfl⟩
  have hb1 : Below w.heap.size w w1 := by rw [← hw1]; (repeat (first | (with_reducible assumption) | (with_reducible exact Below.refl _ _) | exact Nat.le_refl _ | exact Below.size (by with_reducible assumption) | (with_reducible refine Below.drew ?_) | (with_reducible refine below_drewN ?_ _) | (with_reducible refine Below.alloc ?_ ?_ _) | (with_reducible refine Below.setCell ?_ ?_ _) | (with_reducible refine le_alloc ?_ _) | (with_reducible refine le_set ?_ _ _) | (with_reducible refine le_drew ?_) | (with_reducible refine le_drewN ?_ _) | omega | (dsimp only; omega)))
  have p1 := PtP.box w x y
  rw [hw1] at p1
  obtain ⟨d0, d1, hp1⟩ := p1
  obtain ⟨R, hR⟩ : ∃ R, okV s zs ⟨t, x, y⟩ xs = R := ⟨_, rfl⟩
  obtain ⟨cs, hcs⟩ : ∃ cs, callsV s zs ⟨t, x, y⟩ xs = cs := ⟨_, rfl⟩
  rw [hR, hcs]
  have hoM := World.ownsRow_made (base := w1.heap.size) (e := 77) (size := 4) w1 #[] 0 (Nat.le_refl _) (by simp [maxLen]) rfl
  have hbA : Below w1.heap.size w1 (w1.alloc (.cells #[] 77)) := (Below.refl _ _).alloc (Nat.le_refl _) _
  have a0 := (keepC hbA w.heap.size hp1 0).trans d0
  have a1 := (keepC hbA w.heap.size hp1 1).trans d1
  have hbB : Below w1.heap.size w1 ((w1.alloc (.cells #[] 77)).alloc (ptO x y 34)) := hbA.alloc (by simp) _
  have hsA : (w1.alloc (.cells #[] 77)).heap.size = w1.heap.size + 1 := by simp
  have hoN := own_next hoM ((Below.refl (w1.alloc (.cells #[] 77)).heap.size _).alloc (Nat.le_refl _) (ptO x y 34))
  have hoP : ((w1.alloc (.cells #[] 77)).alloc (ptO x y 34)).ownsRow w1.heap.size 34 2 (.slice (some ⟨w1.heap.size + 1, 0, none⟩) 1 1) 1 [.int .i64 x, .int .i64 y] := by
    have := lit_own (w1.alloc (.cells #[] 77)) w1.heap.size 34 #[.int .i64 x, .int .i64 y] 1 2 hbA.size (by decide) rfl
    rwa [hsA] at this
  clear hoM hbA hsA
  have Hl := Lib.hid hl; clear hl
  have Hln := Lib.hid hln; clear hln
  have HR := Lib.hid hR; clear hR
  have Hcs := Lib.hid hcs; clear hcs
  have Hz := Lib.hid hz; clear hz
  have H := Lib.hid h; clear h
  have Hv := Lib.hid hv; clear hv
  have Hsh := Lib.hid hsh; clear hsh
  go_enter Try.func49, Try.ntmps49
  go_wp2_with fail
  try rw [hw1]
  clear hw1
  generalize (w1.alloc (.cells #[] 77)).alloc (ptO x y 34) = w2 at *
  obtain ⟨bp, hbp⟩ : ∃ bp, w1.heap.size + 1 = bp := ⟨_, rfl⟩
  rw [hbp] at hoP
  try rw [hbp]
  clear a0 a1 hp1 hbp d0 d1
  go_loopw [12, 13, 15] (fun v tt i wr => ∃ (k : Nat) (P : VSt), k ≤ n ∧ i = .int .i64 k ∧ tt = .int .i64 P.t ∧ wr.ownsRow w1.heap.size 77 4 v k ((callsV s zs ⟨t, x, y⟩ (xs.take k)).flatMap Cl.cells) ∧ Hid (okV s zs ⟨t, x, y⟩ (xs.take k) = true) ∧ Hid (posV s zs ⟨t, x, y⟩ (xs.take k) = P) ∧ wr.ownsRow w1.heap.size 34 2 (.slice (some ⟨bp, 0, none⟩) 1 1) 1 [.int .i64 P.x, .int .i64 P.y] ∧ Below w1.heap.size w1 wr) (fun _ _ i _ => n - (intOf i).toNat)
  case atStart => exact ⟨0, ⟨t, x, y⟩, Nat.zero_le _, rfl, rfl, hoN, Lib.hid rfl, Lib.hid rfl, hoP, hbB⟩
  case round =>
    obtain ⟨k, P, hk, rfl, rfl, ho, Hok, HP, hoP, hbw⟩ := hrel
    by_cases hlt : k < n
    · obtain ⟨b, off, d, rfl, hb, hd, r0⟩ := H.out.int k hlt
      have hdm := List.mem_of_getElem? hd
      have hdk := Hv.out.ks d hdm
      have hdb := Hv.out.at_ d hdm
      obtain ⟨m, rfl⟩ : ∃ m : Nat, d = m := ⟨d.toNat, by omega⟩
      obtain ⟨bz, offz, z, rfl, hbz, hzx, hzp⟩ := Hz.out.wk (Nat.le_refl _) m (by rw [← Hln.out]; omega)
      have hzk := wkI_eq hzx
      have hnx := take_snoc hd
      have hPt := ((Hv.out.mono fun a ha => List.mem_of_mem_take ha : VOk s zs ⟨t, x, y⟩ (xs.take k))).posT Hok.out
      have hPp := ((Hv.out.mono fun a ha => List.mem_of_mem_take ha : VOk s zs ⟨t, x, y⟩ (xs.take k))).posP
      rw [HP.out] at hPt hPp
      have hsp := Hv.out.sp
      have hmN : m < N := by rw [← Hln.out]; omega
      have hb0w := hb1.trans (hbw.mono hb1.size)
      have hT : ∀ w', Below w.heap.size w w' → Calls Try.prog 44 #[.pointer (some ⟨bs, 0, none⟩), .slice (some ⟨bz, offz, none⟩) N cZ, .int .i64 m, ptV P.x P.y, .int .i64 P.t] w' fun e w'' => e = .returned (.tuple #[(callV s zs m P).val, .bool (okC s zs m P)]) ∧ Below w'.heap.size w' w'' := fun w' hb' => l25Call_c bs s (some ⟨bz, offz, none⟩) N cZ zs m P.x P.y P.t w' (Hsh.out.next hb') (Hz.out.next hb') hmN hdb hsp hPp hPt
      have hokC : okC s zs m P = decide ((callV s zs m P).en ≤ z.un) := by rw [okC, hzk]
      have hCk : (callV s zs m P).k = m := rfl
      obtain ⟨CC, hCC⟩ : ∃ CC, callV s zs m P = CC := ⟨_, rfl⟩
      obtain ⟨OK, hOK⟩ : ∃ OK, okC s zs m P = OK := ⟨_, rfl⟩
      have HOK : Hid (OK = decide (CC.en ≤ z.un)) := Lib.hid (by rw [← hOK, ← hCC]; exact hokC)
      rw [hCC] at hokC hCk
      rw [hCC, hOK] at hT
      obtain ⟨C, hC⟩ : ∃ C, callsV s zs ⟨t, x, y⟩ (xs.take k) = C := ⟨_, rfl⟩
      rw [hC] at ho
      obtain ⟨A3, c3, rfl⟩ := own_slice ho
      have e63 : k + 1 ≤ maxLen := by unfold maxLen; omega
      have e32 : (k + 1) * 32 ≤ 140737488355328 := by omega
      have j1 : (0 : Int) ≤ (k : Int) := by omega
      have j2 : (k : Int) < (n : Int) := by omega
      have j3 : (0 : Int) ≤ (m : Int) := by omega
      have j4 : (m : Int) < (N : Int) := by omega
      have r1 := (keepC hb0w b hb _).trans r0
      have p0 := hoP.cellAt 0 (by omega)
      have p1 := hoP.cellAt 1 (by omega)
      simp only [List.getElem?_cons_zero, List.getElem?_cons_succ] at p0 p1
      have hbpl := (hoP.lt bp rfl).2
      have hbp0 := (hoP.lt bp rfl).1
      have hbl := Nat.lt_of_lt_of_le hb hb0w.size
      have Hzp : Hid (∀ w', Below w.heap.size w w' → WkP w' bz (offz + m * 7) z) := Lib.hid fun w' hb => hzp.next hb
      have Hd := Lib.hid hd; clear hd
      have Hdm := Lib.hid hdm; clear hdm
      have Hzx := Lib.hid hzx; clear hzx
      have Hzk := Lib.hid hzk; clear hzk
      have Hnx := Lib.hid hnx; clear hnx
      have HT := Lib.hid hT; clear hT
      have HC := Lib.hid hC; clear hC
      have HCC := Lib.hid hCC; clear hCC
      have HOKe := Lib.hid hOK; clear hOK
      have HokC := Lib.hid hokC; clear hokC
      have HCk := Lib.hid hCk; clear hCk
      have E63 := Lib.hid e63; clear e63
      have E32 := Lib.hid e32; clear e32
      clear hzp hPp hdb
      go_wp2_with fail
      have e1 : ∀ {w' : World}, Below wr.heap.size wr w' → (Below wr.heap.size wr w' ∧ (∀ i, w'.cell? ⟨b, i, none⟩ = wr.cell? ⟨b, i, none⟩) ∧ (∀ i, w'.cell? ⟨bp, i, none⟩ = wr.cell? ⟨bp, i, none⟩)) := fun hbb => ⟨hbb, keepC hbb _ hbl, keepC hbb _ hbpl⟩
      refine wp_region_held_drew (S := fun w' => Below wr.heap.size wr w' ∧ (∀ i, w'.cell? ⟨b, i, none⟩ = wr.cell? ⟨b, i, none⟩) ∧ (∀ i, w'.cell? ⟨bp, i, none⟩ = wr.cell? ⟨bp, i, none⟩)) (by kernel_rfl) (e1 (Below.refl _ _).drew) (fun hHeld => ?_)
      (first
        | (refine wpAnyH_take (i := 0) (v := ?_) rfl (by kernel_rfl) (by kernel_rfl) (by kernel_rfl) (fun _ _ _ h => h) (Or.inl ⟨by rfl, ?_⟩) (by assumption) ?_
           rotate_left
           focus (intro wq hSq; (try dsimp only at hSq); go_simp; (try (with_reducible rfl)); done))
        | (refine wpAnyH_take (i := 0) (v := undef) rfl (by kernel_rfl) (by kernel_rfl) (by kernel_rfl) (fun _ _ _ h => h) (Or.inr ⟨by rfl, rfl⟩) (by assumption) ?_)
        | fail "take 0")
      try simp only [Act.put, List.setIfInBounds_toArray, List.set_cons_zero, List.set_cons_succ, List.getElem_toArray, List.getElem_cons_zero]
      (first
        | (refine wpAnyH_take (i := 1) (v := ?_) rfl (by kernel_rfl) (by kernel_rfl) (by kernel_rfl) (fun _ _ _ h => h) (Or.inl ⟨by rfl, ?_⟩) (by assumption) ?_
           rotate_left
           focus (intro wq hSq; (try dsimp only at hSq); go_simp; (try (with_reducible rfl)); done))
        | (refine wpAnyH_take (i := 1) (v := undef) rfl (by kernel_rfl) (by kernel_rfl) (by kernel_rfl) (fun _ _ _ h => h) (Or.inr ⟨by rfl, rfl⟩) (by assumption) ?_)
        | fail "take 1")
      try simp only [Act.put, List.setIfInBounds_toArray, List.set_cons_zero, List.set_cons_succ, List.getElem_toArray, List.getElem_cons_zero, List.getElem_cons_succ]
      (first
        | (refine wpAnyH_take (i := 2) (v := ?_) rfl (by kernel_rfl) (by kernel_rfl) (by kernel_rfl) (fun _ _ _ h => h) (Or.inl ⟨by rfl, ?_⟩) (by assumption) ?_
           rotate_left
           focus (intro wq hSq; (try dsimp only at hSq); go_simp; (try (with_reducible rfl)); done))
        | (refine wpAnyH_take (i := 2) (v := undef) rfl (by kernel_rfl) (by kernel_rfl) (by kernel_rfl) (fun _ _ _ h => h) (Or.inr ⟨by rfl, rfl⟩) (by assumption) ?_)
        | fail "take 2")
      try simp only [Act.put, List.setIfInBounds_toArray, List.set_cons_zero, List.set_cons_succ, List.getElem_toArray, List.getElem_cons_zero, List.getElem_cons_succ]
      (first
        | (refine wpAnyH_take (i := 3) (v := ?_) rfl (by kernel_rfl) (by kernel_rfl) (by kernel_rfl) (fun _ _ _ h => h) (Or.inl ⟨by rfl, ?_⟩) (by assumption) ?_
           rotate_left
           focus (intro wq hSq; (try dsimp only at hSq); go_simp; (try (with_reducible rfl)); done))
        | (refine wpAnyH_take (i := 3) (v := undef) rfl (by kernel_rfl) (by kernel_rfl) (by kernel_rfl) (fun _ _ _ h => h) (Or.inr ⟨by rfl, rfl⟩) (by assumption) ?_)
        | fail "take 3")
      try simp only [Act.put, List.setIfInBounds_toArray, List.set_cons_zero, List.set_cons_succ, List.getElem_toArray, List.getElem_cons_zero, List.getElem_cons_succ]
      (first
        | (refine wpAnyH_take (i := 4) (v := ?_) rfl (by kernel_rfl) (by kernel_rfl) (by kernel_rfl) (fun _ _ _ h => h) (Or.inl ⟨by rfl, ?_⟩) (by assumption) ?_
           rotate_left
           focus (intro wq hSq; (try dsimp only at hSq); go_simp; (try (with_reducible rfl)); done))
        | (refine wpAnyH_take (i := 4) (v := undef) rfl (by kernel_rfl) (by kernel_rfl) (by kernel_rfl) (fun _ _ _ h => h) (Or.inr ⟨by rfl, rfl⟩) (by assumption) ?_)
        | fail "take 4")
      try simp only [Act.put, List.setIfInBounds_toArray, List.set_cons_zero, List.set_cons_succ, List.getElem_toArray, List.getElem_cons_zero, List.getElem_cons_succ]
      (first
        | (refine wpAnyH_take (i := 5) (v := ?_) rfl (by kernel_rfl) (by kernel_rfl) (by kernel_rfl) (fun _ _ _ h => h) (Or.inl ⟨by rfl, ?_⟩) (by assumption) ?_
           rotate_left
           focus (intro wq hSq; (try dsimp only at hSq); go_simp; (try (with_reducible rfl)); done))
        | (refine wpAnyH_take (i := 5) (v := undef) rfl (by kernel_rfl) (by kernel_rfl) (by kernel_rfl) (fun _ _ _ h => h) (Or.inr ⟨by rfl, rfl⟩) (by assumption) ?_)
        | fail "take 5")
      try simp only [Act.put, List.setIfInBounds_toArray, List.set_cons_zero, List.set_cons_succ, List.getElem_toArray, List.getElem_cons_zero, List.getElem_cons_succ]
      (first
        | (refine wpAnyH_take (i := 6) (v := ?_) rfl (by kernel_rfl) (by kernel_rfl) (by kernel_rfl) (fun _ _ _ h => h) (Or.inl ⟨by rfl, ?_⟩) (by assumption) ?_
           rotate_left
           focus (intro wq hSq; (try dsimp only at hSq); go_simp; (try (with_reducible rfl)); done))
        | (refine wpAnyH_take (i := 6) (v := undef) rfl (by kernel_rfl) (by kernel_rfl) (by kernel_rfl) (fun _ _ _ h => h) (Or.inr ⟨by rfl, rfl⟩) (by assumption) ?_)
        | fail "take 6")
      try simp only [Act.put, List.setIfInBounds_toArray, List.set_cons_zero, List.set_cons_succ, List.getElem_toArray, List.getElem_cons_zero, List.getElem_cons_succ]
      (first
        | (refine wpAnyH_take (i := 7) (v := ?_) rfl (by kernel_rfl) (by kernel_rfl) (by kernel_rfl) (fun _ _ _ h => h) (Or.inl ⟨by rfl, ?_⟩) (by assumption) ?_
           rotate_left
           focus (intro wq hSq; (try dsimp only at hSq); go_simp; (try (with_reducible rfl)); done))
        | (refine wpAnyH_take (i := 7) (v := undef) rfl (by kernel_rfl) (by kernel_rfl) (by kernel_rfl) (fun _ _ _ h => h) (Or.inr ⟨by rfl, rfl⟩) (by assumption) ?_)
        | fail "take 7")
      try simp only [Act.put, List.setIfInBounds_toArray, List.set_cons_zero, List.set_cons_succ, List.getElem_toArray, List.getElem_cons_zero, List.getElem_cons_succ]
      refine wpAnyH_ready (rs := [8, 12]) (by kernel_rfl) (by simp) ?_
      refine AllReadyH.cons (o := _) rfl (fun K hK => ?_) (AllReadyH.cons (o := _) rfl (fun K hK => ?_) AllReadyH.nil)
      · go_simp
        refine (HT.out _ hb0w.drew).mono ?_; rintro e w6 ⟨rfl, hb6⟩; have hb6w : Below wr.heap.size wr w6 := (Below.refl _ _).drew.trans hb6; have hz6 := hb6w.size
        refine hK.out _ _ ?_ (fun hHeld => ?_)
        · exact e1 hb6w
        clear hK K
        try simp only [Act.put, List.setIfInBounds_toArray, List.set_cons_zero, List.set_cons_succ, List.getElem_toArray, List.getElem_cons_zero, List.getElem_cons_succ]
        (first
          | (refine wpAnyH_take (i := 9) (v := ?_) rfl (by kernel_rfl) (by kernel_rfl) (by kernel_rfl) (fun _ _ _ h => h) (Or.inl ⟨by rfl, ?_⟩) (by assumption) ?_
             rotate_left
             focus (intro wq hSq; (try dsimp only at hSq); go_simp; (try (with_reducible rfl)); done))
          | (refine wpAnyH_take (i := 9) (v := undef) rfl (by kernel_rfl) (by kernel_rfl) (by kernel_rfl) (fun _ _ _ h => h) (Or.inr ⟨by rfl, rfl⟩) (by assumption) ?_)
          | fail "take 9")
        try simp only [Act.put, List.setIfInBounds_toArray, List.set_cons_zero, List.set_cons_succ, List.getElem_toArray, List.getElem_cons_zero, List.getElem_cons_succ]
        (first
          | (refine wpAnyH_take (i := 10) (v := ?_) rfl (by kernel_rfl) (by kernel_rfl) (by kernel_rfl) (fun _ _ _ h => h) (Or.inl ⟨by rfl, ?_⟩) (by assumption) ?_
             rotate_left
             focus (intro wq hSq; (try dsimp only at hSq); go_simp; (try (with_reducible rfl)); done))
          | (refine wpAnyH_take (i := 10) (v := undef) rfl (by kernel_rfl) (by kernel_rfl) (by kernel_rfl) (fun _ _ _ h => h) (Or.inr ⟨by rfl, rfl⟩) (by assumption) ?_)
          | fail "take 10")
        try simp only [Act.put, List.setIfInBounds_toArray, List.set_cons_zero, List.set_cons_succ, List.getElem_toArray, List.getElem_cons_zero, List.getElem_cons_succ]
        (first
          | (refine wpAnyH_take (i := 11) (v := ?_) rfl (by kernel_rfl) (by kernel_rfl) (by kernel_rfl) (fun _ _ _ h => h) (Or.inl ⟨by rfl, ?_⟩) (by assumption) ?_
             rotate_left
             focus (intro wq hSq; (try dsimp only at hSq); go_simp; (try (with_reducible rfl)); done))
          | (refine wpAnyH_take (i := 11) (v := undef) rfl (by kernel_rfl) (by kernel_rfl) (by kernel_rfl) (fun _ _ _ h => h) (Or.inr ⟨by rfl, rfl⟩) (by assumption) ?_)
          | fail "take 11")
        try simp only [Act.put, List.setIfInBounds_toArray, List.set_cons_zero, List.set_cons_succ, List.getElem_toArray, List.getElem_cons_zero, List.getElem_cons_succ]
        refine wpAnyH_ready (rs := [12]) (by kernel_rfl) (by simp) ?_
        refine AllReadyH.cons (o := _) rfl (fun K hK => ?_) AllReadyH.nil
        go_simp
        skip
        refine hK.out _ _ ?_ (fun hHeld => ?_)
        · exact e1 (by (repeat (first | (with_reducible assumption) | (with_reducible exact Below.refl _ _) | exact Nat.le_refl _ | exact Below.size (by with_reducible assumption) | (with_reducible refine Below.drew ?_) | (with_reducible refine below_drewN ?_ _) | (with_reducible refine Below.alloc ?_ ?_ _) | (with_reducible refine Below.setCell ?_ ?_ _) | (with_reducible refine le_alloc ?_ _) | (with_reducible refine le_set ?_ _ _) | (with_reducible refine le_drew ?_) | (with_reducible refine le_drewN ?_ _) | omega | (dsimp only; omega))))
        clear hK K
        try simp only [Act.put, List.setIfInBounds_toArray, List.set_cons_zero, List.set_cons_succ, List.getElem_toArray, List.getElem_cons_zero, List.getElem_cons_succ]
        refine wpAnyH_ready (rs := [13]) (by kernel_rfl) (by simp) ?_
        refine AllReadyH.cons (o := _) rfl (fun K hK => ?_) AllReadyH.nil
        go_simp
        skip
        refine hK.out _ _ ?_ (fun hHeld => ?_)
        · exact e1 (by (repeat (first | (with_reducible assumption) | (with_reducible exact Below.refl _ _) | exact Nat.le_refl _ | exact Below.size (by with_reducible assumption) | (with_reducible refine Below.drew ?_) | (with_reducible refine below_drewN ?_ _) | (with_reducible refine Below.alloc ?_ ?_ _) | (with_reducible refine Below.setCell ?_ ?_ _) | (with_reducible refine le_alloc ?_ _) | (with_reducible refine le_set ?_ _ _) | (with_reducible refine le_drew ?_) | (with_reducible refine le_drewN ?_ _) | omega | (dsimp only; omega))))
        clear hK K
        try simp only [Act.put, List.setIfInBounds_toArray, List.set_cons_zero, List.set_cons_succ, List.getElem_toArray, List.getElem_cons_zero, List.getElem_cons_succ]
        (first
          | (refine wpAnyH_take (i := 14) (v := ?_) rfl (by kernel_rfl) (by kernel_rfl) (by kernel_rfl) (fun _ _ _ h => h) (Or.inl ⟨by rfl, ?_⟩) (by assumption) ?_
             rotate_left
             focus (intro wq hSq; (try dsimp only at hSq); go_simp; (try (with_reducible rfl)); done))
          | (refine wpAnyH_take (i := 14) (v := undef) rfl (by kernel_rfl) (by kernel_rfl) (by kernel_rfl) (fun _ _ _ h => h) (Or.inr ⟨by rfl, rfl⟩) (by assumption) ?_)
          | fail "take 14")
        try simp only [Act.put, List.setIfInBounds_toArray, List.set_cons_zero, List.set_cons_succ, List.getElem_toArray, List.getElem_cons_zero, List.getElem_cons_succ]
        have hbX : Below w6.heap.size w6 (w6.alloc (clO CC 77)) := (Below.refl _ _).alloc (Nat.le_refl _) _
        have hb7 := hbw.trans ((hb6w.trans (hbX.mono hb6w.size)).mono hbw.size)
        have hP7 := own_next (own_next hoP hb6w) hbX
        have ho7 := own_next (own_next ho hb6w) hbX
        have hC7 := ClP.box w6 CC 77
        obtain ⟨g, hgg⟩ : ∃ g, w6.heap.size = g := ⟨_, rfl⟩
        rw [hgg] at hC7
        try rw [hgg]
        have Hgne : Hid (some g ≠ (Value.slice A3 k c3).ownBlock) := Lib.hid fun e => by have := (ho.lt g e.symm).2; omega
        as_aux_lemma =>
          refine wpAnyH_done (by kernel_rfl) ?_ _
          refine then_world (F := fun w7 => Below w1.heap.size w1 w7 ∧ w7.ownsRow w1.heap.size 34 2 (.slice (some ⟨bp, 0, none⟩) 1 1) 1 [.int .i64 P.x, .int .i64 P.y] ∧ w7.ownsRow w1.heap.size 77 4 (.slice A3 k c3) k (C.flatMap Cl.cells) ∧ ClP w7 g 0 CC) ⟨hb7, hP7, ho7, hC7⟩ ?_
          clear hHeld hb7 hP7 ho7 hC7
          rintro w8 ⟨hb8, hP8, ho8, hC8⟩
          obtain ⟨g0, g1, g2, g3, hgl⟩ := hC8
          simp only [Nat.zero_add] at g1 g2 g3
          by_cases hun : CC.en ≤ z.un
          · have hOK : OK = true := HOK.out.trans (decide_eq_true hun)
            subst hOK
            obtain ⟨w9, hw9⟩ : ∃ w9, w8.alloc (clO CC 77) = w9 := ⟨_, rfl⟩
            have hb9 : Below w8.heap.size w8 w9 := by rw [← hw9]; (repeat (first | (with_reducible assumption) | (with_reducible exact Below.refl _ _) | exact Nat.le_refl _ | exact Below.size (by with_reducible assumption) | (with_reducible refine Below.drew ?_) | (with_reducible refine below_drewN ?_ _) | (with_reducible refine Below.alloc ?_ ?_ _) | (with_reducible refine Below.setCell ?_ ?_ _) | (with_reducible refine le_alloc ?_ _) | (with_reducible refine le_set ?_ _ _) | (with_reducible refine le_drew ?_) | (with_reducible refine le_drewN ?_ _) | omega | (dsimp only; omega)))
            have hbw9 := hb8.trans (hb9.mono hb8.size)
            have hsl : Sl w9 (w8.heap.size + 1) 4 (some ⟨w8.heap.size, 0, none⟩) 1 (Cl.cells CC) := by rw [← hw9]; exact Sl.new w8 77 (Cl.cells CC) 1 4 rfl
            have ho9 := own_next ho8 hb9
            have hP9 := own_next hP8 hb9
            have hb08 := hb1.trans (hb8.mono hb1.size)
            have u3 := (keepC hb9 g hgl 3).trans g3
            have Hsl := Lib.hid hsl; clear hsl
            go_wp2_with (at_builtin; (try rw [hw9]); refine wpl_append _ rfl (.tmp 41) (.tmp 43) _ rfl w1.heap.size 77 i0 _ 4 32 Try.underlying83 hi hz0 hz1 hz2 rfl (by omega) _ k _ rfl ho9 (w8.heap.size + 1) (some ⟨w8.heap.size, 0, none⟩) 1 1 (Cl.cells CC) rfl Hsl.out (Cl.cells_one _) E63.out E32.out hbw9.size ?_; intro v10 w10 ho10 hg10 hat10; have hb10 : Below w1.heap.size w1 w10 := hbw9.grown hg10 hbw9.size fun q hq => (ho9.lt q hq).1; have hP10 := own_grown hP9 hg10 (own_ne hP9 ho9 (by decide)); have hbx := hb1.trans (hb10.mono hb1.size); have x3 : w10.cell? ⟨g, 3, none⟩ = some (.int .i64 CC.en) := (World.cell?_of_block (w := w9) (hg10.block g (Nat.lt_of_lt_of_le hgl hb9.size) Hgne.out)).trans u3; have xr := (keepC hbx b hb _).trans r0; have xz := Hzp.out _ hbx; have xz1 := xz.c1; have xz2 := xz.c2; have q0 := hP10.cellAt 0 (by omega); have q1 := hP10.cellAt 1 (by omega); have fz := hP10.frozenAt; simp only [List.getElem?_cons_zero, List.getElem?_cons_succ] at q0 q1)
            go_roundw
            case rel =>
              have hst := hP10.stored 0 (.int .i64 z.x)
              have hst2 := hst.1.stored 1 (.int .i64 z.y)
              have hoE := own_grown (own_grown ho10 hst.2 (own_ne ho10 hP10 (by decide))) hst2.2 (own_ne ho10 hP10 (by decide))
              refine ⟨k + 1, ⟨CC.en, z.x, z.y⟩, by omega, by go_num, rfl, ?_, Lib.hid ?_, Lib.hid ?_, hst2.1, by (repeat (first | (with_reducible assumption) | (with_reducible exact Below.refl _ _) | exact Nat.le_refl _ | exact Below.size (by with_reducible assumption) | (with_reducible refine Below.drew ?_) | (with_reducible refine below_drewN ?_ _) | (with_reducible refine Below.alloc ?_ ?_ _) | (with_reducible refine Below.setCell ?_ ?_ _) | (with_reducible refine le_alloc ?_ _) | (with_reducible refine le_set ?_ _ _) | (with_reducible refine le_drew ?_) | (with_reducible refine le_drewN ?_ _) | omega | (dsimp only; omega)))⟩
              · rw [Hnx.out, callsV_snoc, HC.out, HP.out, HCC.out, List.flatMap_append]
                simpa using hoE
              · rw [Hnx.out, okV_snoc, Hok.out, HP.out, HokC.out]; simpa using hun
              · rw [Hnx.out, posV_snoc, HP.out, nextV, HCC.out, Hzk.out]
            case measure => simp [intOf]; omega
          · have hOK : OK = false := HOK.out.trans (decide_eq_false hun)
            subst hOK
            have hno : R = false := by
              rw [← HR.out, Bool.eq_false_iff]
              intro hyes
              have := okV_take hyes (k + 1)
              rw [Hnx.out, okV_snoc, HP.out, HokC.out, Bool.and_eq_true, decide_eq_true_eq] at this
              exact hun this.2
            subst hno
            go_wp2_with fail
            go_ret2
            exact ⟨⟨_, rfl⟩, hb1.trans (hb8.mono hb1.size)⟩
      · go_simp
        skip
        refine hK.out _ _ ?_ (fun hHeld => ?_)
        · exact e1 (by (repeat (first | (with_reducible assumption) | (with_reducible exact Below.refl _ _) | exact Nat.le_refl _ | exact Below.size (by with_reducible assumption) | (with_reducible refine Below.drew ?_) | (with_reducible refine below_drewN ?_ _) | (with_reducible refine Below.alloc ?_ ?_ _) | (with_reducible refine Below.setCell ?_ ?_ _) | (with_reducible refine le_alloc ?_ _) | (with_reducible refine le_set ?_ _ _) | (with_reducible refine le_drew ?_) | (with_reducible refine le_drewN ?_ _) | omega | (dsimp only; omega))))
        clear hK K
        try simp only [Act.put, List.setIfInBounds_toArray, List.set_cons_zero, List.set_cons_succ, List.getElem_toArray, List.getElem_cons_zero, List.getElem_cons_succ]
        have hbA : Below wr.heap.size wr (wr.alloc (clO ⟨0, 0, 0, 0⟩ 77)) := (Below.refl _ _).alloc (Nat.le_refl _) _
        have hbAw := hb0w.trans (hbA.mono hb0w.size)
        refine wpAnyH_ready (rs := [8]) (by kernel_rfl) (by simp) ?_
        refine AllReadyH.cons (o := _) rfl (fun K hK => ?_) AllReadyH.nil
        go_simp
        refine (HT.out _ hbAw.drew).mono ?_; rintro e w6 ⟨rfl, hb6⟩; have hb6A : Below (wr.alloc (clO ⟨0, 0, 0, 0⟩ 77)).heap.size (wr.alloc (clO ⟨0, 0, 0, 0⟩ 77)) w6 := (Below.refl _ _).drew.trans hb6; have hb6w : Below wr.heap.size wr w6 := hbA.trans (hb6A.mono hbA.size); have hz6 := hb6w.size
        refine hK.out _ _ ?_ (fun hHeld => ?_)
        · exact e1 hb6w
        clear hK K
        try simp only [Act.put, List.setIfInBounds_toArray, List.set_cons_zero, List.set_cons_succ, List.getElem_toArray, List.getElem_cons_zero, List.getElem_cons_succ]
        (first
          | (refine wpAnyH_take (i := 9) (v := ?_) rfl (by kernel_rfl) (by kernel_rfl) (by kernel_rfl) (fun _ _ _ h => h) (Or.inl ⟨by rfl, ?_⟩) (by assumption) ?_
             rotate_left
             focus (intro wq hSq; (try dsimp only at hSq); go_simp; (try (with_reducible rfl)); done))
          | (refine wpAnyH_take (i := 9) (v := undef) rfl (by kernel_rfl) (by kernel_rfl) (by kernel_rfl) (fun _ _ _ h => h) (Or.inr ⟨by rfl, rfl⟩) (by assumption) ?_)
          | fail "take 9")
        try simp only [Act.put, List.setIfInBounds_toArray, List.set_cons_zero, List.set_cons_succ, List.getElem_toArray, List.getElem_cons_zero, List.getElem_cons_succ]
        (first
          | (refine wpAnyH_take (i := 10) (v := ?_) rfl (by kernel_rfl) (by kernel_rfl) (by kernel_rfl) (fun _ _ _ h => h) (Or.inl ⟨by rfl, ?_⟩) (by assumption) ?_
             rotate_left
             focus (intro wq hSq; (try dsimp only at hSq); go_simp; (try (with_reducible rfl)); done))
          | (refine wpAnyH_take (i := 10) (v := undef) rfl (by kernel_rfl) (by kernel_rfl) (by kernel_rfl) (fun _ _ _ h => h) (Or.inr ⟨by rfl, rfl⟩) (by assumption) ?_)
          | fail "take 10")
        try simp only [Act.put, List.setIfInBounds_toArray, List.set_cons_zero, List.set_cons_succ, List.getElem_toArray, List.getElem_cons_zero, List.getElem_cons_succ]
        (first
          | (refine wpAnyH_take (i := 11) (v := ?_) rfl (by kernel_rfl) (by kernel_rfl) (by kernel_rfl) (fun _ _ _ h => h) (Or.inl ⟨by rfl, ?_⟩) (by assumption) ?_
             rotate_left
             focus (intro wq hSq; (try dsimp only at hSq); go_simp; (try (with_reducible rfl)); done))
          | (refine wpAnyH_take (i := 11) (v := undef) rfl (by kernel_rfl) (by kernel_rfl) (by kernel_rfl) (fun _ _ _ h => h) (Or.inr ⟨by rfl, rfl⟩) (by assumption) ?_)
          | fail "take 11")
        try simp only [Act.put, List.setIfInBounds_toArray, List.set_cons_zero, List.set_cons_succ, List.getElem_toArray, List.getElem_cons_zero, List.getElem_cons_succ]
        have hoC6 := own_next (lit_own wr wr.heap.size 77 #[.int .i64 0, .int .i64 0, .int .i64 0, .int .i64 0] 1 4 (Nat.le_refl _) (by decide) rfl) hb6A
        have cg0 := hoC6.cellAt 0 (by omega)
        have cg1 := hoC6.cellAt 1 (by omega)
        have cg2 := hoC6.cellAt 2 (by omega)
        have cg3 := hoC6.cellAt 3 (by omega)
        have cgf := hoC6.frozenAt
        simp only [List.getElem?_cons_zero, List.getElem?_cons_succ] at cg0 cg1 cg2 cg3
        refine wpAnyH_ready (rs := [13]) (by kernel_rfl) (by simp) ?_
        refine AllReadyH.cons (o := _) rfl (fun K hK => ?_) AllReadyH.nil
        go_simp
        skip
        refine hK.out _ _ ?_ (fun hHeld => ?_)
        · exact e1 (by (repeat (first | (with_reducible assumption) | (with_reducible exact Below.refl _ _) | exact Nat.le_refl _ | exact Below.size (by with_reducible assumption) | (with_reducible refine Below.drew ?_) | (with_reducible refine below_drewN ?_ _) | (with_reducible refine Below.alloc ?_ ?_ _) | (with_reducible refine Below.setCell ?_ ?_ _) | (with_reducible refine le_alloc ?_ _) | (with_reducible refine le_set ?_ _ _) | (with_reducible refine le_drew ?_) | (with_reducible refine le_drewN ?_ _) | omega | (dsimp only; omega))))
        clear hK K
        try simp only [Act.put, List.setIfInBounds_toArray, List.set_cons_zero, List.set_cons_succ, List.getElem_toArray, List.getElem_cons_zero, List.getElem_cons_succ]
        (first
          | (refine wpAnyH_take (i := 14) (v := ?_) rfl (by kernel_rfl) (by kernel_rfl) (by kernel_rfl) (fun _ _ _ h => h) (Or.inl ⟨by rfl, ?_⟩) (by assumption) ?_
             rotate_left
             focus (intro wq hSq; (try dsimp only at hSq); go_simp; (try (with_reducible rfl)); done))
          | (refine wpAnyH_take (i := 14) (v := undef) rfl (by kernel_rfl) (by kernel_rfl) (by kernel_rfl) (fun _ _ _ h => h) (Or.inr ⟨by rfl, rfl⟩) (by assumption) ?_)
          | fail "take 14")
        try simp only [Act.put, List.setIfInBounds_toArray, List.set_cons_zero, List.set_cons_succ, List.getElem_toArray, List.getElem_cons_zero, List.getElem_cons_succ]
        have hs0 := hoC6.stored 0 (.int .i64 CC.k)
        have hs1 := hs0.1.stored 1 (.int .i64 CC.ar)
        have hs2 := hs1.1.stored 2 (.int .i64 CC.be)
        have hs3 := hs2.1.stored 3 (.int .i64 CC.en)
        have hgA := grown_trans (grown_trans (grown_trans hs0.2 hs1.2) hs2.2) hs3.2
        have hb7 : Below w1.heap.size w1 ((((w6.setCell ⟨wr.heap.size, 0, none⟩ (.int .i64 CC.k)).setCell ⟨wr.heap.size, 1, none⟩ (.int .i64 CC.ar)).setCell ⟨wr.heap.size, 2, none⟩ (.int .i64 CC.be)).setCell ⟨wr.heap.size, 3, none⟩ (.int .i64 CC.en)) := (hbw.trans (hb6w.mono hbw.size)).grown hgA (Nat.le_trans hbw.size hz6) fun q hq => by injection hq with hq; rw [← hq]; exact hbw.size
        have hP7 := own_grown (own_next hoP hb6w) hgA (own_ne (own_next hoP hb6w) hoC6 (by decide))
        have ho7 := own_grown (own_next ho hb6w) hgA (.inr fun e => by have := (ho.lt _ e).2; omega)
        have hC7 : ClP ((((w6.setCell ⟨wr.heap.size, 0, none⟩ (.int .i64 CC.k)).setCell ⟨wr.heap.size, 1, none⟩ (.int .i64 CC.ar)).setCell ⟨wr.heap.size, 2, none⟩ (.int .i64 CC.be)).setCell ⟨wr.heap.size, 3, none⟩ (.int .i64 CC.en)) wr.heap.size 0 CC := ⟨hs3.1.cellAt 0 (by omega), hs3.1.cellAt 1 (by omega), hs3.1.cellAt 2 (by omega), hs3.1.cellAt 3 (by omega), (hs3.1.lt _ rfl).2⟩
        have Hgne : Hid (some wr.heap.size ≠ (Value.slice A3 k c3).ownBlock) := Lib.hid fun e => by have := (ho.lt _ e.symm).2; omega
        obtain ⟨g, hgg⟩ : ∃ g, wr.heap.size = g := ⟨_, rfl⟩
        rw [hgg] at hC7 Hgne
        clear hs0 hs1 hs2 hs3 hgA cg0 cg1 cg2 cg3 cgf hoC6
        as_aux_lemma =>
          refine wpAnyH_done (by kernel_rfl) ?_ _
          refine then_world (F := fun w7 => Below w1.heap.size w1 w7 ∧ w7.ownsRow w1.heap.size 34 2 (.slice (some ⟨bp, 0, none⟩) 1 1) 1 [.int .i64 P.x, .int .i64 P.y] ∧ w7.ownsRow w1.heap.size 77 4 (.slice A3 k c3) k (C.flatMap Cl.cells) ∧ ClP w7 g 0 CC) ⟨hb7, hP7, ho7, by rw [← hgg] at hC7; exact hgg ▸ hC7⟩ ?_
          try rw [hgg]
          clear hHeld hb7 hP7 ho7 hC7
          rintro w8 ⟨hb8, hP8, ho8, hC8⟩
          obtain ⟨g0, g1, g2, g3, hgl⟩ := hC8
          simp only [Nat.zero_add] at g1 g2 g3
          by_cases hun : CC.en ≤ z.un
          · have hOK : OK = true := HOK.out.trans (decide_eq_true hun)
            subst hOK
            obtain ⟨w9, hw9⟩ : ∃ w9, w8.alloc (clO CC 77) = w9 := ⟨_, rfl⟩
            have hb9 : Below w8.heap.size w8 w9 := by rw [← hw9]; (repeat (first | (with_reducible assumption) | (with_reducible exact Below.refl _ _) | exact Nat.le_refl _ | exact Below.size (by with_reducible assumption) | (with_reducible refine Below.drew ?_) | (with_reducible refine below_drewN ?_ _) | (with_reducible refine Below.alloc ?_ ?_ _) | (with_reducible refine Below.setCell ?_ ?_ _) | (with_reducible refine le_alloc ?_ _) | (with_reducible refine le_set ?_ _ _) | (with_reducible refine le_drew ?_) | (with_reducible refine le_drewN ?_ _) | omega | (dsimp only; omega)))
            have hbw9 := hb8.trans (hb9.mono hb8.size)
            have hsl : Sl w9 (w8.heap.size + 1) 4 (some ⟨w8.heap.size, 0, none⟩) 1 (Cl.cells CC) := by rw [← hw9]; exact Sl.new w8 77 (Cl.cells CC) 1 4 rfl
            have ho9 := own_next ho8 hb9
            have hP9 := own_next hP8 hb9
            have hb08 := hb1.trans (hb8.mono hb1.size)
            have u3 := (keepC hb9 g hgl 3).trans g3
            have Hsl := Lib.hid hsl; clear hsl
            go_wp2_with (at_builtin; (try rw [hw9]); refine wpl_append _ rfl (.tmp 41) (.tmp 43) _ rfl w1.heap.size 77 i0 _ 4 32 Try.underlying83 hi hz0 hz1 hz2 rfl (by omega) _ k _ rfl ho9 (w8.heap.size + 1) (some ⟨w8.heap.size, 0, none⟩) 1 1 (Cl.cells CC) rfl Hsl.out (Cl.cells_one _) E63.out E32.out hbw9.size ?_; intro v10 w10 ho10 hg10 hat10; have hb10 : Below w1.heap.size w1 w10 := hbw9.grown hg10 hbw9.size fun q hq => (ho9.lt q hq).1; have hP10 := own_grown hP9 hg10 (own_ne hP9 ho9 (by decide)); have hbx := hb1.trans (hb10.mono hb1.size); have x3 : w10.cell? ⟨g, 3, none⟩ = some (.int .i64 CC.en) := (World.cell?_of_block (w := w9) (hg10.block g (Nat.lt_of_lt_of_le hgl hb9.size) Hgne.out)).trans u3; have xr := (keepC hbx b hb _).trans r0; have xz := Hzp.out _ hbx; have xz1 := xz.c1; have xz2 := xz.c2; have q0 := hP10.cellAt 0 (by omega); have q1 := hP10.cellAt 1 (by omega); have fz := hP10.frozenAt; simp only [List.getElem?_cons_zero, List.getElem?_cons_succ] at q0 q1)
            go_roundw
            case rel =>
              have hst := hP10.stored 0 (.int .i64 z.x)
              have hst2 := hst.1.stored 1 (.int .i64 z.y)
              have hoE := own_grown (own_grown ho10 hst.2 (own_ne ho10 hP10 (by decide))) hst2.2 (own_ne ho10 hP10 (by decide))
              refine ⟨k + 1, ⟨CC.en, z.x, z.y⟩, by omega, by go_num, rfl, ?_, Lib.hid ?_, Lib.hid ?_, hst2.1, by (repeat (first | (with_reducible assumption) | (with_reducible exact Below.refl _ _) | exact Nat.le_refl _ | exact Below.size (by with_reducible assumption) | (with_reducible refine Below.drew ?_) | (with_reducible refine below_drewN ?_ _) | (with_reducible refine Below.alloc ?_ ?_ _) | (with_reducible refine Below.setCell ?_ ?_ _) | (with_reducible refine le_alloc ?_ _) | (with_reducible refine le_set ?_ _ _) | (with_reducible refine le_drew ?_) | (with_reducible refine le_drewN ?_ _) | omega | (dsimp only; omega)))⟩
              · rw [Hnx.out, callsV_snoc, HC.out, HP.out, HCC.out, List.flatMap_append]
                simpa using hoE
              · rw [Hnx.out, okV_snoc, Hok.out, HP.out, HokC.out]; simpa using hun
              · rw [Hnx.out, posV_snoc, HP.out, nextV, HCC.out, Hzk.out]
            case measure => simp [intOf]; omega
          · have hOK : OK = false := HOK.out.trans (decide_eq_false hun)
            subst hOK
            have hno : R = false := by
              rw [← HR.out, Bool.eq_false_iff]
              intro hyes
              have := okV_take hyes (k + 1)
              rw [Hnx.out, okV_snoc, HP.out, HokC.out, Bool.and_eq_true, decide_eq_true_eq] at this
              exact hun this.2
            subst hno
            go_wp2_with fail
            go_ret2
            exact ⟨⟨_, rfl⟩, hb1.trans (hb8.mono hb1.size)⟩
    · obtain rfl : k = n := by omega
      have hxt : xs.take k = xs := List.take_of_length_le (by rw [Hl.out]; omega)
      have hRR : R = true := by
        have := Hok.out
        rw [hxt] at this
        rw [← HR.out, this]
      subst hRR
      rw [hxt, Hcs.out] at ho
      obtain ⟨A3, c3, rfl⟩ := own_slice ho
      have Hxt := Lib.hid hxt; clear hxt
      go_wp2_with fail
      go_ret2
      exact ⟨_, rfl, own_base ho hb1.size, hb1.trans (hbw.mono hb1.size)⟩
end Go.Proofs.Ytgkdjohiclhcoaa
