/- The search for the best voyage: the program's search. -/
import Derived.Test.YtgkdjohiclhcoaaVoyD2
import Derived.Test.YtgkdjohiclhcoaaVoyK
namespace Go.Proofs.Ytgkdjohiclhcoaa
open Go.RowKit
abbrev reachF (h : Nat) : Value := .func (.func 32) #[] #[.pointer (some ⟨h, 0, none⟩), .pointer (some ⟨h + 1, 0, none⟩), .pointer (some ⟨h + 2, 0, none⟩), .pointer (some ⟨h + 3, 0, none⟩), .pointer (some ⟨h + 5, 0, none⟩), .pointer (some ⟨h + 4, 0, none⟩)]
abbrev rCs (s : Sh) (x y t : Int) (AZ : Option Addr) (N cZ : Nat) (h : Nat) (l : Int) : Array Value := #[.string s.name, .int .i64 s.sp, .int .i64 s.ld, .int .i64 s.dr, .int .i64 x, .int .i64 y, .slice AZ N cZ, .int .i64 t, .int .i64 l, reachF h]
abbrev SrR (w : World) (h R : Nat) (s : Sh) (x y t : Int) (AZ : Option Addr) (N cZ : Nat) (l : Int) : Prop := w.heap[R]? = some (.cells (rCs s x y t AZ N cZ h l) 96 (0, 0))
theorem own_cc' {w : World} {base : Nat} {e : TypeId} {sz n c : Nat} {A : Option Addr} {xs : List Value} (h : w.ownsRow base e sz (.slice A n c) n xs) : n ≤ c ∧ (A = none → c = 0) := by
  rcases h.2 with ⟨hv, hn⟩ | ⟨g, cap, cur, hv, _, _, h1, _⟩
  · injection hv with _ _ e3
    exact ⟨by omega, fun _ => e3⟩
  · injection hv with e1 _ e3
    exact ⟨by omega, fun e => by rw [e] at e1; cases e1⟩
structure SrX (w : World) (h R : Nat) (s : Sh) (x y t : Int) (AZ : Option Addr) (N cZ : Nat) (zs : List Wk) (l : Nat) (b : BSt) : Prop where
  e : SrE w h R s x y t AZ N cZ zs
  r : SrR w h R s x y t AZ N cZ l
  m : BM w h R b
  k : BOk zs.length b
theorem SrX.next {w w' : World} {h R : Nat} {s : Sh} {x y t : Int} {AZ : Option Addr} {N cZ : Nat} {zs : List Wk} {l : Nat} {b : BSt} (e : SrX w h R s x y t AZ N cZ zs l b) (hb : Below w.heap.size w w') : SrX w' h R s x y t AZ N cZ zs l b :=
  ⟨e.e.rng (rng_below hb), (hb.block R e.e.lt).trans e.r, e.m.next hb, e.k⟩
set_option maxRecDepth 100000 in
set_option maxHeartbeats 4000000 in
theorem search_c (h R : Nat) (s : Sh) (x y t : Int) (AZ : Option Addr) (N cZ : Nat) (zs : List Wk) (f : Nat) : ∀ (A : Option Addr) (n c : Nat) (ks : List Int) (l : Nat) (b : BSt) (w : World), SrX w h R s x y t AZ N cZ zs l b → w.ownsRow (R + 1) 2 1 (.slice A n c) n (ks.flatMap intC) →
    VOk s zs ⟨t, x, y⟩ ks → voyK s zs ⟨t, x, y⟩ ks = 0 → l ≤ f → n + l ≤ 20000 →
    Calls Try.prog 56 #[.pointer (some ⟨R, 0, none⟩), .slice A n c] w fun e w' => Rng (h + 4) (R + 1) w w' ∧ match dfs s zs ⟨t, x, y⟩ f ks (l, b) with
      | none => e = .returned (.int .i64 5)
      | some (l', b') => e = .returned (.int .i64 0) ∧ l' ≤ l ∧ SrX w' h R s x y t AZ N cZ zs l' b' := by
  induction f with
  | zero =>
    intro A n c ks l b w hX ho hv h0 hl hnl
    obtain rfl : l = 0 := by omega
    rw [dfs_zero]
    have hr := hX.r
    have r8 := (cell_of_row w R 8 _ _ _ hr).trans rfl
    have HX := Lib.hid hX; clear hX
    go_enter Try.func56, Try.ntmps56
    go_wp2_with fail
    go_ret
    exact ⟨Rng.refl _ _ _, rfl⟩
  | succ f ih =>
    intro A n c ks l b w hX ho hv h0 hl hnl
    by_cases hl0 : l = 0
    · subst hl0
      rw [dfs_zero]
      have hr := hX.r
      have r8 := (cell_of_row w R 8 _ _ _ hr).trans rfl
      have HX := Lib.hid hX; clear hX
      go_enter Try.func56, Try.ntmps56
      go_wp2_with fail
      go_ret
      exact ⟨Rng.refl _ _ _, rfl⟩
    · have hlt : 0 < l := by omega
      rw [dfs_next hlt]
      obtain ⟨D, hD⟩ : ∃ D, goD (dfs s zs ⟨t, x, y⟩ f) (okK s zs ⟨t, x, y⟩ ks) ks (l - 1, updB s zs ⟨t, x, y⟩ ks b) zs.length = D := ⟨_, rfl⟩
      rw [hD]
      obtain ⟨i0, hi, hz0, hz1, hz2⟩ := info_parts intInfo
      have hR := hX.e.hR
      have hRl := hX.e.lt
      have hr := hX.r
      have hln := hX.e.zs.len Wk.cells 7 Wk.cells_len (by omega)
      have hN12 : N ≤ 12 := by have := hv.n; omega
      have hnk : ks.length = n := (Sl.of_own ho).len intC 1 intC_len (by omega)
      have hcc := own_cc' ho
      have r0 := (cell_of_row w R 0 _ _ _ hr).trans rfl
      have r1 := (cell_of_row w R 1 _ _ _ hr).trans rfl
      have r2 := (cell_of_row w R 2 _ _ _ hr).trans rfl
      have r3 := (cell_of_row w R 3 _ _ _ hr).trans rfl
      have r4 := (cell_of_row w R 4 _ _ _ hr).trans rfl
      have r5 := (cell_of_row w R 5 _ _ _ hr).trans rfl
      have r6 := (cell_of_row w R 6 _ _ _ hr).trans rfl
      have r7 := (cell_of_row w R 7 _ _ _ hr).trans rfl
      have r8 := (cell_of_row w R 8 _ _ _ hr).trans rfl
      have r9 := (cell_of_row w R 9 _ _ _ hr).trans rfl
      have rf := fun j => frozen_of_row w R j _ _ hr
      have hr1 := heap_setCell_same w R 8 _ _ (.int .i64 ((l : Int) - 1)) hr
      have hg1 : Rng R (R + 1) w (w.setCell ⟨R, 8, none⟩ (.int .i64 ((l : Int) - 1))) := ⟨rfl, rfl, rfl, by simp, fun k hk hne => heap_setCell_other _ ⟨R, 8, none⟩ k _ (by simp only; omega)⟩
      have hX1 : SrX (w.setCell ⟨R, 8, none⟩ (.int .i64 ((l : Int) - 1))) h R s x y t AZ N cZ zs (l - 1) b := by
        refine ⟨hX.e.rng (hg1.wider (by omega) (Nat.le_refl _)), hr1.trans (by simp [rCs]; omega), ?_, hX.k⟩
        obtain ⟨hlb, A2, n2, c2, hbb, hrow⟩ := hX.m
        exact ⟨(heap_setCell_other _ ⟨R, 8, none⟩ _ _ (by simp only; omega)).trans hlb, A2, n2, c2, (heap_setCell_other _ ⟨R, 8, none⟩ _ _ (by simp only; omega)).trans hbb, fun e bs he => ⟨(hrow e bs he).1, own_rng (hrow e bs he).2 hg1 fun k hk => .inr ((hrow e bs he).2.lt k hk).1⟩⟩
      have ho1 := own_rng ho hg1 fun k hk => .inr (ho.lt k hk).1
      have hg1' := hg1.wider (lo' := h + 4) (hi' := R + 1) (by omega) (Nat.le_refl _)
      have HX1 := Lib.hid hX1; clear hX1
      have Hg1 := Lib.hid hg1'; clear hg1'
      have Hv := Lib.hid hv; clear hv
      have H0 := Lib.hid h0; clear h0
      have Hnk := Lib.hid hnk; clear hnk
      have Hln := Lib.hid hln; clear hln
      have Ho1 := Lib.hid ho1; clear ho1
      have Hr := Lib.hid hr; clear hr
      clear hX ho hg1 hr1
      go_enter Try.func56, Try.ntmps56
      go_wp2_with fail
      obtain ⟨w1, hw1⟩ : ∃ w1, w.setCell ⟨R, 8, none⟩ (.int .i64 ((l : Int) - 1)) = w1 := ⟨_, rfl⟩
      rw [hw1] at HX1 Hg1 Ho1 ⊢
      clear hw1 r0 r1 r2 r3 r4 r5 r6 r7 r8 r9 rf Hr
      refine (reach_c h R s x y t AZ N cZ zs A n c ks b w1 HX1.out.e HX1.out.m HX1.out.k Ho1.out (by omega) Hv.out H0.out).mono ?_
      rintro e w2 ⟨rfl, hB2, hg2⟩
      have hX2 : SrX w2 h R s x y t AZ N cZ zs (l - 1) (updB s zs ⟨t, x, y⟩ ks b) := ⟨HX1.out.e.rng (hg2.wider (Nat.le_refl _) (by omega)), (hg2.block R HX1.out.e.lt (.inr (by omega))).trans HX1.out.r, hB2, HX1.out.k.upd Hv.out (voyK_zero.1 H0.out).2⟩
      have ho2 := own_rng Ho1.out hg2 fun k hk => .inr (by have := (Ho1.out.lt k hk).1; omega)
      have hG2 := Hg1.out.trans (hg2.wider (Nat.le_refl _) (by omega : h + 6 ≤ R + 1))
      generalize updB s zs ⟨t, x, y⟩ ks b = b2 at *
      have hr := hX2.r
      have r0 := (cell_of_row w2 R 0 _ _ _ hr).trans rfl
      have r1 := (cell_of_row w2 R 1 _ _ _ hr).trans rfl
      have r2 := (cell_of_row w2 R 2 _ _ _ hr).trans rfl
      have r3 := (cell_of_row w2 R 3 _ _ _ hr).trans rfl
      have r4 := (cell_of_row w2 R 4 _ _ _ hr).trans rfl
      have r5 := (cell_of_row w2 R 5 _ _ _ hr).trans rfl
      have r6 := (cell_of_row w2 R 6 _ _ _ hr).trans rfl
      have r7 := (cell_of_row w2 R 7 _ _ _ hr).trans rfl
      have r8 := (cell_of_row w2 R 8 _ _ _ hr).trans rfl
      have r9 := (cell_of_row w2 R 9 _ _ _ hr).trans rfl
      have rf := fun j => frozen_of_row w2 R j _ _ hr
      have HX2 := Lib.hid hX2; clear hX2
      have Ho2 := Lib.hid ho2; clear ho2
      have HD := Lib.hid hD; clear hD
      have Hr := Lib.hid hr; clear hr
      clear hB2 hg2 HX1 Ho1 Hg1
      go_wp2_with fail
      clear r0 r1 r2 r3 r4 r5 r6 r7 r8 r9 rf Hr
      go_loopw [34] (fun k wr => ∃ (k' l' : Nat) (b' : BSt), k = .int .i64 k' ∧ k' ≤ N ∧ l' ≤ l - 1 ∧ Hid (goD (dfs s zs ⟨t, x, y⟩ f) (okK s zs ⟨t, x, y⟩ ks) ks (l - 1, b2) k' = some (l', b')) ∧ Hid (SrX wr h R s x y t AZ N cZ zs l' b') ∧ wr.ownsRow (R + 1) 2 1 (.slice A n c) n (ks.flatMap intC) ∧ Rng (h + 4) (R + 1) w wr) (fun k _ => N - (intOf k).toNat)
      case atStart => exact ⟨0, l - 1, b2, rfl, Nat.zero_le _, Nat.le_refl _, Lib.hid rfl, HX2, Ho2.out, hG2⟩
      case round =>
        clear HX2 Ho2 hG2
        obtain ⟨k, l', b', rfl, hkN, hl', Hgo, HX, ho, hG⟩ := hrel
        by_cases hlk : k < N
        · have j1 : (k : Int) < (N : Int) := by omega
          have hIc := iContains_c A n c ks (k : Int) wr (Sl.of_own ho) (by unfold maxLen; omega)
          obtain ⟨X, hXk⟩ : ∃ X, decide ((k : Int) ∈ ks) = X := ⟨_, rfl⟩
          rw [hXk] at hIc
          have HIc := Lib.hid hIc; clear hIc
          have HXk := Lib.hid hXk; clear hXk
          cases X
          · obtain ⟨K, hK⟩ : ∃ K, voyK s zs ⟨t, x, y⟩ (ks ++ [(k : Int)]) = K := ⟨_, rfl⟩
            have hvM : VOk s zs ⟨t, x, y⟩ (ks ++ [(k : Int)]) := by
              obtain ⟨q1, q2, q3, q4, q5, q6, q7⟩ := Hv.out
              refine ⟨q1, q2, q3, q4, fun a ha => ?_, q6, q7⟩
              rcases List.mem_append.1 ha with h1 | h1
              · exact q5 a h1
              · simp only [List.mem_singleton] at h1
                have := Hln.out
                omega
            have hVc : ∀ w1 A1 c1, Below wr.heap.size wr w1 → Sl w1 w1.heap.size 1 A1 (n + 1) ((ks ++ [(k : Int)]).flatMap intC) → Calls Try.prog 57 #[s.val, ptV x y, .slice AZ N cZ, .slice A1 (n + 1) c1, .int .i64 t] w1 fun e w' => ∃ v, e = .returned (.tuple #[v, .int .i64 K]) ∧ Below w1.heap.size w1 w' := fun w1 A1 c1 hb h1 => by
              have := voyage_c s x y t AZ N cZ zs A1 (n + 1) c1 (ks ++ [(k : Int)]) w1 (((HX.out.next hb).e.zs).more (by have := (HX.out.next hb).e.lt; omega)) h1 (by omega) hvM
              rw [hK] at this
              exact this.mono fun e w' ⟨v, h1, _, h3⟩ => ⟨v, h1, h3⟩
            have hCl := cloneI_c A n c ks wr (Sl.of_own ho) (by omega) hcc.2
            have e63 : n + 1 ≤ maxLen := by unfold maxLen; omega
            have e32 : (n + 1) * 8 ≤ 140737488355328 := by omega
            have HVc := Lib.hid hVc; clear hVc
            have HCl := Lib.hid hCl; clear hCl
            have HK := Lib.hid hK; clear hK
            have HvM := Lib.hid hvM; clear hvM
            have E63 := Lib.hid e63; clear e63
            have E32 := Lib.hid e32; clear e32
            go_wp2_with fail
            refine HIc.out.mono ?_
            rintro e w3 ⟨rfl, rfl⟩
            go_wp2_with fail
            refine HCl.out.mono ?_
            rintro e w4 ⟨rfl, hoC, hb4⟩
            have hz4 := hb4.size
            have hlw : wr.heap.size < w4.heap.size := (hoC.lt _ rfl).2
            go_wp2_with (at_builtin; refine wpl_append _ rfl (.tmp 41) (.tmp 43) _ rfl wr.heap.size 2 i0 _ 1 8 Try.underlying29 hi hz0 hz1 hz2 rfl (by omega) _ n _ rfl (hoC.alloc _) (w4.heap.size + 1) (some ⟨w4.heap.size, 0, none⟩) 1 1 (intC (k : Int)) rfl (Sl.new w4 2 _ 1 1 rfl) (intC_one _) E63.out E32.out (le_alloc hz4 _) ?_; intro v5 w5 ho5 hg5 hat5)
            have hb5 : Below wr.heap.size wr w5 := (hb4.alloc hz4 _).grown hg5 (le_alloc hz4 _) fun q hq => (hoC.lt q hq).1
            obtain ⟨A5, c5, rfl⟩ := own_slice ho5
            have hX5 := HX.out.next hb5
            have ho5' : w5.ownsRow wr.heap.size 2 1 (.slice A5 (n + 1) c5) (n + 1) ((ks ++ [(k : Int)]).flatMap intC) := by rw [List.flatMap_append]; simpa using ho5
            have hVw := HVc.out w5 A5 c5 hb5 (Sl.of_own ho5')
            have hr := hX5.r
            have r0 := (cell_of_row w5 R 0 _ _ _ hr).trans rfl
            have r1 := (cell_of_row w5 R 1 _ _ _ hr).trans rfl
            have r2 := (cell_of_row w5 R 2 _ _ _ hr).trans rfl
            have r3 := (cell_of_row w5 R 3 _ _ _ hr).trans rfl
            have r4 := (cell_of_row w5 R 4 _ _ _ hr).trans rfl
            have r5 := (cell_of_row w5 R 5 _ _ _ hr).trans rfl
            have r6 := (cell_of_row w5 R 6 _ _ _ hr).trans rfl
            have r7 := (cell_of_row w5 R 7 _ _ _ hr).trans rfl
            have r8 := (cell_of_row w5 R 8 _ _ _ hr).trans rfl
            have r9 := (cell_of_row w5 R 9 _ _ _ hr).trans rfl
            have rf := fun j => frozen_of_row w5 R j _ _ hr
            have hRw := hX5.e.lt
            have hle5 := hb5.size
            have hVr : ∀ w', Below w5.heap.size w5 w' → Calls Try.prog 57 #[s.val, ptV x y, .slice AZ N cZ, .slice A5 (n + 1) c5, .int .i64 t] w' fun e w'' => ∃ v, e = .returned (.tuple #[v, .int .i64 K]) ∧ Below w'.heap.size w' w'' := fun w' hb => HVc.out w' A5 c5 (hb5.trans (hb.mono hb5.size)) (Sl.of_own (own_next ho5' hb))
            have e1 : ∀ {w' : World}, Below w5.heap.size w5 w' → (Below w5.heap.size w5 w' ∧ (∀ i, w'.cell? ⟨R, i, none⟩ = w5.cell? ⟨R, i, none⟩)) := fun hbb => ⟨hbb, keepC hbb _ hRw⟩
            have hbR : R + 1 ≤ wr.heap.size := HX.out.e.lt
            have HX5 := Lib.hid hX5; clear hX5
            have HVr := Lib.hid hVr; clear hVr
            have Hr := Lib.hid hr; clear hr
            clear ho5 hg5 hat5 hoC hb4 hlw hz4 hVw HVc HCl
            go_wp2_with fail
            refine wp_region_held_drew (S := fun w' => Below w5.heap.size w5 w' ∧ (∀ i, w'.cell? ⟨R, i, none⟩ = w5.cell? ⟨R, i, none⟩)) (by kernel_rfl) (e1 (Below.refl _ _).drew) (fun hHeld => ?_)
            (first
              | (refine wpAnyH_take (i := 0) (v := ?_) rfl (by kernel_rfl) (by kernel_rfl) (by kernel_rfl) (fun _ _ _ h => h) (Or.inl ⟨by rfl, ?_⟩) (by assumption) ?_
                 rotate_left
                 focus (intro wq hSq; (try dsimp only at hSq); go_simp; (try (with_reducible rfl)); done))
              | (refine wpAnyH_take (i := 0) (v := undef) rfl (by kernel_rfl) (by kernel_rfl) (by kernel_rfl) (fun _ _ _ h => h) (Or.inr ⟨by rfl, rfl⟩) (by assumption) ?_)
              | fail "take 0")
            try simp only [Act.put, List.setIfInBounds_toArray, List.set_cons_zero, List.set_cons_succ, List.getElem_toArray, List.getElem_cons_zero]
            (first
              | (refine wpAnyH_take (i := 1) (v := ?_) rfl (by kernel_rfl) (by kernel_rfl) (by kernel_rfl) (fun _ _ _ h => h) (Or.inl ⟨by rfl, ?_⟩) (by assumption) ?_
                 rotate_left
                 focus (intro wq hSq; (try dsimp only at hSq); go_simp; (try (with_reducible rfl)); done))
              | (refine wpAnyH_take (i := 1) (v := undef) rfl (by kernel_rfl) (by kernel_rfl) (by kernel_rfl) (fun _ _ _ h => h) (Or.inr ⟨by rfl, rfl⟩) (by assumption) ?_)
              | fail "take 1")
            try simp only [Act.put, List.setIfInBounds_toArray, List.set_cons_zero, List.set_cons_succ, List.getElem_toArray, List.getElem_cons_zero, List.getElem_cons_succ]
            (first
              | (refine wpAnyH_take (i := 2) (v := ?_) rfl (by kernel_rfl) (by kernel_rfl) (by kernel_rfl) (fun _ _ _ h => h) (Or.inl ⟨by rfl, ?_⟩) (by assumption) ?_
                 rotate_left
                 focus (intro wq hSq; (try dsimp only at hSq); go_simp; (try (with_reducible rfl)); done))
              | (refine wpAnyH_take (i := 2) (v := undef) rfl (by kernel_rfl) (by kernel_rfl) (by kernel_rfl) (fun _ _ _ h => h) (Or.inr ⟨by rfl, rfl⟩) (by assumption) ?_)
              | fail "take 2")
            try simp only [Act.put, List.setIfInBounds_toArray, List.set_cons_zero, List.set_cons_succ, List.getElem_toArray, List.getElem_cons_zero, List.getElem_cons_succ]
            (first
              | (refine wpAnyH_take (i := 3) (v := ?_) rfl (by kernel_rfl) (by kernel_rfl) (by kernel_rfl) (fun _ _ _ h => h) (Or.inl ⟨by rfl, ?_⟩) (by assumption) ?_
                 rotate_left
                 focus (intro wq hSq; (try dsimp only at hSq); go_simp; (try (with_reducible rfl)); done))
              | (refine wpAnyH_take (i := 3) (v := undef) rfl (by kernel_rfl) (by kernel_rfl) (by kernel_rfl) (fun _ _ _ h => h) (Or.inr ⟨by rfl, rfl⟩) (by assumption) ?_)
              | fail "take 3")
            try simp only [Act.put, List.setIfInBounds_toArray, List.set_cons_zero, List.set_cons_succ, List.getElem_toArray, List.getElem_cons_zero, List.getElem_cons_succ]
            (first
              | (refine wpAnyH_take (i := 4) (v := ?_) rfl (by kernel_rfl) (by kernel_rfl) (by kernel_rfl) (fun _ _ _ h => h) (Or.inl ⟨by rfl, ?_⟩) (by assumption) ?_
                 rotate_left
                 focus (intro wq hSq; (try dsimp only at hSq); go_simp; (try (with_reducible rfl)); done))
              | (refine wpAnyH_take (i := 4) (v := undef) rfl (by kernel_rfl) (by kernel_rfl) (by kernel_rfl) (fun _ _ _ h => h) (Or.inr ⟨by rfl, rfl⟩) (by assumption) ?_)
              | fail "take 4")
            try simp only [Act.put, List.setIfInBounds_toArray, List.set_cons_zero, List.set_cons_succ, List.getElem_toArray, List.getElem_cons_zero, List.getElem_cons_succ]
            (first
              | (refine wpAnyH_take (i := 5) (v := ?_) rfl (by kernel_rfl) (by kernel_rfl) (by kernel_rfl) (fun _ _ _ h => h) (Or.inl ⟨by rfl, ?_⟩) (by assumption) ?_
                 rotate_left
                 focus (intro wq hSq; (try dsimp only at hSq); go_simp; (try (with_reducible rfl)); done))
              | (refine wpAnyH_take (i := 5) (v := undef) rfl (by kernel_rfl) (by kernel_rfl) (by kernel_rfl) (fun _ _ _ h => h) (Or.inr ⟨by rfl, rfl⟩) (by assumption) ?_)
              | fail "take 5")
            try simp only [Act.put, List.setIfInBounds_toArray, List.set_cons_zero, List.set_cons_succ, List.getElem_toArray, List.getElem_cons_zero, List.getElem_cons_succ]
            (first
              | (refine wpAnyH_take (i := 6) (v := ?_) rfl (by kernel_rfl) (by kernel_rfl) (by kernel_rfl) (fun _ _ _ h => h) (Or.inl ⟨by rfl, ?_⟩) (by assumption) ?_
                 rotate_left
                 focus (intro wq hSq; (try dsimp only at hSq); go_simp; (try (with_reducible rfl)); done))
              | (refine wpAnyH_take (i := 6) (v := undef) rfl (by kernel_rfl) (by kernel_rfl) (by kernel_rfl) (fun _ _ _ h => h) (Or.inr ⟨by rfl, rfl⟩) (by assumption) ?_)
              | fail "take 6")
            try simp only [Act.put, List.setIfInBounds_toArray, List.set_cons_zero, List.set_cons_succ, List.getElem_toArray, List.getElem_cons_zero, List.getElem_cons_succ]
            (first
              | (refine wpAnyH_take (i := 7) (v := ?_) rfl (by kernel_rfl) (by kernel_rfl) (by kernel_rfl) (fun _ _ _ h => h) (Or.inl ⟨by rfl, ?_⟩) (by assumption) ?_
                 rotate_left
                 focus (intro wq hSq; (try dsimp only at hSq); go_simp; (try (with_reducible rfl)); done))
              | (refine wpAnyH_take (i := 7) (v := undef) rfl (by kernel_rfl) (by kernel_rfl) (by kernel_rfl) (fun _ _ _ h => h) (Or.inr ⟨by rfl, rfl⟩) (by assumption) ?_)
              | fail "take 7")
            try simp only [Act.put, List.setIfInBounds_toArray, List.set_cons_zero, List.set_cons_succ, List.getElem_toArray, List.getElem_cons_zero, List.getElem_cons_succ]
            (first
              | (refine wpAnyH_take (i := 8) (v := ?_) rfl (by kernel_rfl) (by kernel_rfl) (by kernel_rfl) (fun _ _ _ h => h) (Or.inl ⟨by rfl, ?_⟩) (by assumption) ?_
                 rotate_left
                 focus (intro wq hSq; (try dsimp only at hSq); go_simp; (try (with_reducible rfl)); done))
              | (refine wpAnyH_take (i := 8) (v := undef) rfl (by kernel_rfl) (by kernel_rfl) (by kernel_rfl) (fun _ _ _ h => h) (Or.inr ⟨by rfl, rfl⟩) (by assumption) ?_)
              | fail "take 8")
            try simp only [Act.put, List.setIfInBounds_toArray, List.set_cons_zero, List.set_cons_succ, List.getElem_toArray, List.getElem_cons_zero, List.getElem_cons_succ]
            (first
              | (refine wpAnyH_take (i := 9) (v := ?_) rfl (by kernel_rfl) (by kernel_rfl) (by kernel_rfl) (fun _ _ _ h => h) (Or.inl ⟨by rfl, ?_⟩) (by assumption) ?_
                 rotate_left
                 focus (intro wq hSq; (try dsimp only at hSq); go_simp; (try (with_reducible rfl)); done))
              | (refine wpAnyH_take (i := 9) (v := undef) rfl (by kernel_rfl) (by kernel_rfl) (by kernel_rfl) (fun _ _ _ h => h) (Or.inr ⟨by rfl, rfl⟩) (by assumption) ?_)
              | fail "take 9")
            try simp only [Act.put, List.setIfInBounds_toArray, List.set_cons_zero, List.set_cons_succ, List.getElem_toArray, List.getElem_cons_zero, List.getElem_cons_succ]
            (first
              | (refine wpAnyH_take (i := 10) (v := ?_) rfl (by kernel_rfl) (by kernel_rfl) (by kernel_rfl) (fun _ _ _ h => h) (Or.inl ⟨by rfl, ?_⟩) (by assumption) ?_
                 rotate_left
                 focus (intro wq hSq; (try dsimp only at hSq); go_simp; (try (with_reducible rfl)); done))
              | (refine wpAnyH_take (i := 10) (v := undef) rfl (by kernel_rfl) (by kernel_rfl) (by kernel_rfl) (fun _ _ _ h => h) (Or.inr ⟨by rfl, rfl⟩) (by assumption) ?_)
              | fail "take 10")
            try simp only [Act.put, List.setIfInBounds_toArray, List.set_cons_zero, List.set_cons_succ, List.getElem_toArray, List.getElem_cons_zero, List.getElem_cons_succ]
            (first
              | (refine wpAnyH_take (i := 11) (v := ?_) rfl (by kernel_rfl) (by kernel_rfl) (by kernel_rfl) (fun _ _ _ h => h) (Or.inl ⟨by rfl, ?_⟩) (by assumption) ?_
                 rotate_left
                 focus (intro wq hSq; (try dsimp only at hSq); go_simp; (try (with_reducible rfl)); done))
              | (refine wpAnyH_take (i := 11) (v := undef) rfl (by kernel_rfl) (by kernel_rfl) (by kernel_rfl) (fun _ _ _ h => h) (Or.inr ⟨by rfl, rfl⟩) (by assumption) ?_)
              | fail "take 11")
            try simp only [Act.put, List.setIfInBounds_toArray, List.set_cons_zero, List.set_cons_succ, List.getElem_toArray, List.getElem_cons_zero, List.getElem_cons_succ]
            (first
              | (refine wpAnyH_take (i := 12) (v := ?_) rfl (by kernel_rfl) (by kernel_rfl) (by kernel_rfl) (fun _ _ _ h => h) (Or.inl ⟨by rfl, ?_⟩) (by assumption) ?_
                 rotate_left
                 focus (intro wq hSq; (try dsimp only at hSq); go_simp; (try (with_reducible rfl)); done))
              | (refine wpAnyH_take (i := 12) (v := undef) rfl (by kernel_rfl) (by kernel_rfl) (by kernel_rfl) (fun _ _ _ h => h) (Or.inr ⟨by rfl, rfl⟩) (by assumption) ?_)
              | fail "take 12")
            try simp only [Act.put, List.setIfInBounds_toArray, List.set_cons_zero, List.set_cons_succ, List.getElem_toArray, List.getElem_cons_zero, List.getElem_cons_succ]
            (first
              | (refine wpAnyH_take (i := 13) (v := ?_) rfl (by kernel_rfl) (by kernel_rfl) (by kernel_rfl) (fun _ _ _ h => h) (Or.inl ⟨by rfl, ?_⟩) (by assumption) ?_
                 rotate_left
                 focus (intro wq hSq; (try dsimp only at hSq); go_simp; (try (with_reducible rfl)); done))
              | (refine wpAnyH_take (i := 13) (v := undef) rfl (by kernel_rfl) (by kernel_rfl) (by kernel_rfl) (fun _ _ _ h => h) (Or.inr ⟨by rfl, rfl⟩) (by assumption) ?_)
              | fail "take 13")
            try simp only [Act.put, List.setIfInBounds_toArray, List.set_cons_zero, List.set_cons_succ, List.getElem_toArray, List.getElem_cons_zero, List.getElem_cons_succ]
            (first
              | (refine wpAnyH_take (i := 14) (v := ?_) rfl (by kernel_rfl) (by kernel_rfl) (by kernel_rfl) (fun _ _ _ h => h) (Or.inl ⟨by rfl, ?_⟩) (by assumption) ?_
                 rotate_left
                 focus (intro wq hSq; (try dsimp only at hSq); go_simp; (try (with_reducible rfl)); done))
              | (refine wpAnyH_take (i := 14) (v := undef) rfl (by kernel_rfl) (by kernel_rfl) (by kernel_rfl) (fun _ _ _ h => h) (Or.inr ⟨by rfl, rfl⟩) (by assumption) ?_)
              | fail "take 14")
            try simp only [Act.put, List.setIfInBounds_toArray, List.set_cons_zero, List.set_cons_succ, List.getElem_toArray, List.getElem_cons_zero, List.getElem_cons_succ]
            (first
              | (refine wpAnyH_take (i := 15) (v := ?_) rfl (by kernel_rfl) (by kernel_rfl) (by kernel_rfl) (fun _ _ _ h => h) (Or.inl ⟨by rfl, ?_⟩) (by assumption) ?_
                 rotate_left
                 focus (intro wq hSq; (try dsimp only at hSq); go_simp; (try (with_reducible rfl)); done))
              | (refine wpAnyH_take (i := 15) (v := undef) rfl (by kernel_rfl) (by kernel_rfl) (by kernel_rfl) (fun _ _ _ h => h) (Or.inr ⟨by rfl, rfl⟩) (by assumption) ?_)
              | fail "take 15")
            try simp only [Act.put, List.setIfInBounds_toArray, List.set_cons_zero, List.set_cons_succ, List.getElem_toArray, List.getElem_cons_zero, List.getElem_cons_succ]
            (first
              | (refine wpAnyH_take (i := 16) (v := ?_) rfl (by kernel_rfl) (by kernel_rfl) (by kernel_rfl) (fun _ _ _ h => h) (Or.inl ⟨by rfl, ?_⟩) (by assumption) ?_
                 rotate_left
                 focus (intro wq hSq; (try dsimp only at hSq); go_simp; (try (with_reducible rfl)); done))
              | (refine wpAnyH_take (i := 16) (v := undef) rfl (by kernel_rfl) (by kernel_rfl) (by kernel_rfl) (fun _ _ _ h => h) (Or.inr ⟨by rfl, rfl⟩) (by assumption) ?_)
              | fail "take 16")
            try simp only [Act.put, List.setIfInBounds_toArray, List.set_cons_zero, List.set_cons_succ, List.getElem_toArray, List.getElem_cons_zero, List.getElem_cons_succ]
            refine wpAnyH_ready (rs := [17]) (by kernel_rfl) (by simp) ?_
            refine AllReadyH.cons (o := _) rfl (fun K hK => ?_) AllReadyH.nil
            go_simp
            refine (HVr.out _ (Below.refl _ _).drew).mono ?_; rintro e w7 ⟨v7, rfl, hb7⟩
            refine hK.out _ _ ?_ (fun hHeld => ?_)
            · exact e1 ((Below.refl _ _).drew.trans hb7)
            clear hK K
            try simp only [Act.put, List.setIfInBounds_toArray, List.set_cons_zero, List.set_cons_succ, List.getElem_toArray, List.getElem_cons_zero, List.getElem_cons_succ]
            (first
              | (refine wpAnyH_take (i := 18) (v := ?_) rfl (by kernel_rfl) (by kernel_rfl) (by kernel_rfl) (fun _ _ _ h => h) (Or.inl ⟨by rfl, ?_⟩) (by assumption) ?_
                 rotate_left
                 focus (intro wq hSq; (try dsimp only at hSq); go_simp; (try (with_reducible rfl)); done))
              | (refine wpAnyH_take (i := 18) (v := undef) rfl (by kernel_rfl) (by kernel_rfl) (by kernel_rfl) (fun _ _ _ h => h) (Or.inr ⟨by rfl, rfl⟩) (by assumption) ?_)
              | fail "take 18")
            try simp only [Act.put, List.setIfInBounds_toArray, List.set_cons_zero, List.set_cons_succ, List.getElem_toArray, List.getElem_cons_zero, List.getElem_cons_succ]
            (first
              | (refine wpAnyH_take (i := 19) (v := ?_) rfl (by kernel_rfl) (by kernel_rfl) (by kernel_rfl) (fun _ _ _ h => h) (Or.inl ⟨by rfl, ?_⟩) (by assumption) ?_
                 rotate_left
                 focus (intro wq hSq; (try dsimp only at hSq); go_simp; (try (with_reducible rfl)); done))
              | (refine wpAnyH_take (i := 19) (v := undef) rfl (by kernel_rfl) (by kernel_rfl) (by kernel_rfl) (fun _ _ _ h => h) (Or.inr ⟨by rfl, rfl⟩) (by assumption) ?_)
              | fail "take 19")
            try simp only [Act.put, List.setIfInBounds_toArray, List.set_cons_zero, List.set_cons_succ, List.getElem_toArray, List.getElem_cons_zero, List.getElem_cons_succ]
            (first
              | (refine wpAnyH_take (i := 20) (v := ?_) rfl (by kernel_rfl) (by kernel_rfl) (by kernel_rfl) (fun _ _ _ h => h) (Or.inl ⟨by rfl, ?_⟩) (by assumption) ?_
                 rotate_left
                 focus (intro wq hSq; (try dsimp only at hSq); go_simp; (try (with_reducible rfl)); done))
              | (refine wpAnyH_take (i := 20) (v := undef) rfl (by kernel_rfl) (by kernel_rfl) (by kernel_rfl) (fun _ _ _ h => h) (Or.inr ⟨by rfl, rfl⟩) (by assumption) ?_)
              | fail "take 20")
            try simp only [Act.put, List.setIfInBounds_toArray, List.set_cons_zero, List.set_cons_succ, List.getElem_toArray, List.getElem_cons_zero, List.getElem_cons_succ]
            (first
              | (refine wpAnyH_take (i := 21) (v := ?_) rfl (by kernel_rfl) (by kernel_rfl) (by kernel_rfl) (fun _ _ _ h => h) (Or.inl ⟨by rfl, ?_⟩) (by assumption) ?_
                 rotate_left
                 focus (intro wq hSq; (try dsimp only at hSq); go_simp; (try (with_reducible rfl)); done))
              | (refine wpAnyH_take (i := 21) (v := undef) rfl (by kernel_rfl) (by kernel_rfl) (by kernel_rfl) (fun _ _ _ h => h) (Or.inr ⟨by rfl, rfl⟩) (by assumption) ?_)
              | fail "take 21")
            try simp only [Act.put, List.setIfInBounds_toArray, List.set_cons_zero, List.set_cons_succ, List.getElem_toArray, List.getElem_cons_zero, List.getElem_cons_succ]
            (first
              | (refine wpAnyH_take (i := 22) (v := ?_) rfl (by kernel_rfl) (by kernel_rfl) (by kernel_rfl) (fun _ _ _ h => h) (Or.inl ⟨by rfl, ?_⟩) (by assumption) ?_
                 rotate_left
                 focus (intro wq hSq; (try dsimp only at hSq); go_simp; (try (with_reducible rfl)); done))
              | (refine wpAnyH_take (i := 22) (v := undef) rfl (by kernel_rfl) (by kernel_rfl) (by kernel_rfl) (fun _ _ _ h => h) (Or.inr ⟨by rfl, rfl⟩) (by assumption) ?_)
              | fail "take 22")
            try simp only [Act.put, List.setIfInBounds_toArray, List.set_cons_zero, List.set_cons_succ, List.getElem_toArray, List.getElem_cons_zero, List.getElem_cons_succ]
            refine wpAnyH_done (by kernel_rfl) ?_ _
            have hb57 : Below w5.heap.size w5 w7 := (Below.refl _ _).drew.trans hb7
            clear hHeld r0 r1 r2 r3 r4 r5 r6 r7 r8 r9 rf Hr hb7 e1
            have hX7 := HX5.out.next hb57
            have ho7 := own_next ho5' hb57
            have hG7 := (hG.trans (rng_below hb5)).trans (rng_below (lo := h + 4) (hi := R + 1) hb57)
            have hor := own_next (own_next ho hb5) hb57
            have HX7 := Lib.hid hX7; clear hX7
            have Ho7 := Lib.hid ho7; clear ho7
            have HG7 := Lib.hid hG7; clear hG7
            have Hor := Lib.hid hor; clear hor
            clear ho5' hb5 hb57 HX5 hG ho
            by_cases hK0 : K = 0
            · subst hK0
              have hok : okK s zs ⟨t, x, y⟩ ks k = true := by rw [okK, HXk.out, HK.out]; rfl
              have hgo := goD_step Hgo.out hok
              have hIH := ih A5 (n + 1) c5 (ks ++ [(k : Int)]) l' b' w7 HX7.out (own_base Ho7.out hbR) HvM.out HK.out (by omega) (by omega)
              obtain ⟨Y, hY⟩ : ∃ Y, dfs s zs ⟨t, x, y⟩ f (ks ++ [(k : Int)]) (l', b') = Y := ⟨_, rfl⟩
              rw [hY] at hIH hgo
              have HIH := Lib.hid hIH; clear hIH
              have HY := Lib.hid hY; clear hY
              have Hok := Lib.hid hok; clear hok
              have HgoN := Lib.hid hgo; clear hgo
              go_wp2_with fail
              refine HIH.out.mono ?_
              rintro e w8 ⟨hg8, hm8⟩
              cases Y with
              | none =>
                obtain rfl := hm8
                have hDn : D = none := by rw [← HD.out]; exact goD_end HgoN.out (by rw [Hln.out]; omega)
                subst hDn
                have hgf := HG7.out.trans hg8
                go_wp2_with fail
                go_ret
                exact ⟨hgf, rfl⟩
              | some p =>
                obtain ⟨l2, b3⟩ := p
                obtain ⟨rfl, hl2, hX8⟩ := hm8
                have hgf := HG7.out.trans hg8
                have ho8 := own_rng Hor.out hg8 fun q hq => .inr (Hor.out.lt q hq).1
                have HX8 := Lib.hid hX8; clear hX8
                go_wp2_with fail
                go_roundw
                case rel => exact ⟨k + 1, l2, b3, by go_num, by omega, by omega, HgoN, HX8, ho8, hgf⟩
                case measure => simp [intOf]; omega
            · have hKn : (K != 0) = true := by simpa using hK0
              have hok : okK s zs ⟨t, x, y⟩ ks k = false := by rw [okK, HXk.out, HK.out, decide_eq_false hK0]; rfl
              have hgo := goD_skip Hgo.out hok
              have hgf := HG7.out
              have ho8 := Hor.out
              have Hok := Lib.hid hok; clear hok
              have HgoN := Lib.hid hgo; clear hgo
              go_wp2_with fail
              go_roundw
              case rel => exact ⟨k + 1, l', b', by go_num, by omega, hl', HgoN, HX7, ho8, hgf⟩
              case measure => simp [intOf]; omega
          · have hskip : okK s zs ⟨t, x, y⟩ ks k = false := by rw [okK, HXk.out]; rfl
            have hgo := goD_skip Hgo.out hskip
            have HgoN := Lib.hid hgo; clear hgo
            have Hskip := Lib.hid hskip; clear hskip
            go_wp2_with fail
            refine HIc.out.mono ?_
            rintro e w3 ⟨rfl, rfl⟩
            go_wp2_with fail
            go_roundw
            case rel => exact ⟨k + 1, l', b', by go_num, by omega, hl', HgoN, HX, ho, hG⟩
            case measure => simp [intOf]; omega
        · obtain rfl : k = N := by omega
          have hDD : D = some (l', b') := by rw [← HD.out, Hln.out]; exact Hgo.out
          subst hDD
          go_wp2_with fail
          go_ret
          exact ⟨hG, rfl, by omega, HX.out⟩
end Go.Proofs.Ytgkdjohiclhcoaa
