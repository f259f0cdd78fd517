/- The search for the best voyage: the program's closure. -/
import Derived.Test.YtgkdjohiclhcoaaVoyD
import Derived.Test.YtgkdjohiclhcoaaRng
namespace Go.Proofs.Ytgkdjohiclhcoaa
open Go.RowKit
/-- What the closure has captured: the ship, the base, the list and the start, from block h on. -/
structure SrE (w : World) (h R : Nat) (s : Sh) (x y t : Int) (AZ : Option Addr) (N cZ : Nat) (zs : List Wk) : Prop where
  sh : ShP w h s
  pt : PtP w (h + 1) x y
  lc : w.cell? ⟨h + 2, 0, none⟩ = some (.slice AZ N cZ)
  tc : w.cell? ⟨h + 3, 0, none⟩ = some (.int .i64 t)
  zs : Sl w h 7 AZ N (zs.flatMap Wk.cells)
  hR : h + 5 < R
  lt : R < w.heap.size
theorem ShP.keep {w w' : World} {b : Nat} {s : Sh} (h : ShP w b s) (k : w'.heap[b]? = w.heap[b]?) : ShP w' b s :=
  have c := fun i => World.cell?_of_block (w := w) (w' := w') (a := ⟨b, i, none⟩) k
  ⟨(c _).trans h.c0, (c _).trans h.c1, (c _).trans h.c2, (c _).trans h.c3, by
    by_cases hb : b < w'.heap.size
    · exact hb
    · have := h.hb
      rw [Array.getElem?_eq_none (by omega), Array.getElem?_eq_getElem h.hb] at k; cases k⟩
theorem SrE.rng {w w' : World} {h R : Nat} {s : Sh} {x y t : Int} {AZ : Option Addr} {N cZ : Nat} {zs : List Wk} (e : SrE w h R s x y t AZ N cZ zs) (r : Rng (h + 4) (R + 1) w w') : SrE w' h R s x y t AZ N cZ zs := by
  have h1 := e.hR
  have h2 := e.lt
  have k := fun b (hb : b < h + 4) => r.block b (by omega) (.inl hb)
  have c := fun b (hb : b < h + 4) i => World.cell?_of_block (w := w) (w' := w') (a := ⟨b, i, none⟩) (k b hb)
  exact ⟨e.sh.keep (k h (by omega)), ⟨(c _ (by omega) _).trans e.pt.c0, (c _ (by omega) _).trans e.pt.c1, by have := r.size; omega⟩, (c _ (by omega) _).trans e.lc, (c _ (by omega) _).trans e.tc, e.zs.keep fun b hb => k b (by omega), h1, Nat.lt_of_lt_of_le h2 r.size⟩
/-- The best so far, in memory: its end in block h + 5, its order in block h + 4. -/
structure BM (w : World) (h R : Nat) (b : BSt) : Prop where
  lb : w.heap[h + 5]? = some (.cells #[.int .i64 (match b with | none => -1 | some (e, _) => e)] 2 (0, 0))
  bb : ∃ A n c, w.heap[h + 4]? = some (.cells #[.slice A n c] 29 (0, 0)) ∧ ∀ e bs, b = some (e, bs) → n = bs.length ∧ w.ownsRow (R + 1) 2 1 (.slice A n c) n (bs.flatMap intC)
theorem BM.next {w w' : World} {h R : Nat} {b : BSt} (e : BM w h R b) (hb : Below w.heap.size w w') : BM w' h R b := by
  obtain ⟨h1, A, n, c, h2, h3⟩ := e
  have l1 := (Array.getElem?_eq_some_iff.1 h1).1
  have l2 := (Array.getElem?_eq_some_iff.1 h2).1
  exact ⟨(hb.block _ l1).trans h1, A, n, c, (hb.block _ l2).trans h2, fun e bs he => ⟨(h3 e bs he).1, own_next (h3 e bs he).2 hb⟩⟩
set_option maxRecDepth 100000 in
set_option maxHeartbeats 4000000 in
theorem reach_c (h R : Nat) (s : Sh) (x y t : Int) (AZ : Option Addr) (N cZ : Nat) (zs : List Wk) (A : Option Addr) (n c : Nat) (ks : List Int) (b : BSt) (w : World) (hE : SrE w h R s x y t AZ N cZ zs) (hB : BM w h R b) (hBk : BOk zs.length b) (ho : w.ownsRow (R + 1) 2 1 (.slice A n c) n (ks.flatMap intC)) (hn : n ≤ 1048576)
    (hv : VOk s zs ⟨t, x, y⟩ ks) (h0 : voyK s zs ⟨t, x, y⟩ ks = 0) :
    Calls Try.prog 32 #[.slice A n c, .pointer (some ⟨h, 0, none⟩), .pointer (some ⟨h + 1, 0, none⟩), .pointer (some ⟨h + 2, 0, none⟩), .pointer (some ⟨h + 3, 0, none⟩), .pointer (some ⟨h + 5, 0, none⟩), .pointer (some ⟨h + 4, 0, none⟩)] w fun e w' => e = .returned (.bool true) ∧ BM w' h R (updB s zs ⟨t, x, y⟩ ks b) ∧ Rng (h + 4) (h + 6) w w' := by
  have hR := hE.hR
  have hlt := hE.lt
  have hln := hE.zs.len Wk.cells 7 Wk.cells_len (by omega)
  have hnl : ks.length = n := (Sl.of_own ho).len intC 1 intC_len (by omega)
  have hNd := end_c s x y t AZ N cZ zs A n c ks w (hE.zs.more (by omega)) (Sl.of_own ho) hn hv
  have hb12 : N ≤ 12 := by have := hv.n; omega
  rw [h0] at hNd
  obtain ⟨E, hEn⟩ : ∃ E, endV s zs ⟨t, x, y⟩ ks = E := ⟨_, rfl⟩
  have hE0 : 0 ≤ E ∧ E ≤ 4000000000 := by rw [← hEn]; exact hv.end_ (voyK_zero.1 h0).2
  rw [show (bif decide ((0 : Int) = 0) then endV s zs ⟨t, x, y⟩ ks else 0) = E from hEn] at hNd
  obtain ⟨c0, c1, c2, c3, hsl⟩ := hE.sh
  obtain ⟨d0, d1, hpl⟩ := hE.pt
  have l0 := hE.lc
  have t0 := hE.tc
  have hUE : updB s zs ⟨t, x, y⟩ ks b = bif decide (n = N) && lessE b E then some (E, ks) else b := by rw [updB, hEn, hnl, hln]
  obtain ⟨B', hB'⟩ : ∃ B', updB s zs ⟨t, x, y⟩ ks b = B' := ⟨_, rfl⟩
  rw [hB'] at hUE ⊢
  have HBn := Lib.hid hB'; clear hB'
  have HUE := Lib.hid hUE; clear hUE
  have HEn := Lib.hid hEn; clear hEn
  have HNd := Lib.hid hNd; clear hNd
  have Hln := Lib.hid hln; clear hln
  have Hnl := Lib.hid hnl; clear hnl
  clear hv h0
  go_enter Try.func32, Try.ntmps32
  go_wp2_with fail
  refine HNd.out.mono ?_
  rintro e w1 ⟨rfl, hb1⟩
  have hB1 := hB.next hb1
  have hr1 : Rng (h + 4) (h + 6) w w1 := rng_below hb1
  have ho1 := own_next ho hb1
  have l1 := (keepC hb1 (h + 2) (by have := hE.lt; omega) 0).trans l0
  obtain ⟨hlb, A2, n2, c2', hbb, hrow⟩ := hB1
  have q0 := (cell_of_row w1 (h + 5) 0 _ _ _ hlb).trans rfl
  have q1 := (cell_of_row w1 (h + 4) 0 _ _ _ hbb).trans rfl
  have f0 := fun j => frozen_of_row w1 (h + 5) j _ _ hlb
  have f1 := fun j => frozen_of_row w1 (h + 4) j _ _ hbb
  have hstay : BM w1 h R b := ⟨hlb, A2, n2, c2', hbb, hrow⟩
  have hset : BM ((w1.setCell ⟨h + 4, 0, none⟩ (.slice A n c)).setCell ⟨h + 5, 0, none⟩ (.int .i64 E)) h R (some (E, ks)) ∧ Rng (h + 4) (h + 6) w ((w1.setCell ⟨h + 4, 0, none⟩ (.slice A n c)).setCell ⟨h + 5, 0, none⟩ (.int .i64 E)) := by
    have r1 := heap_setCell_same w1 (h + 4) 0 _ _ (.slice A n c) hbb
    have r2 := (heap_setCell_other w1 ⟨h + 4, 0, none⟩ (h + 5) (.slice A n c) (by simp)).trans hlb
    have r3 := heap_setCell_same _ (h + 5) 0 _ _ (.int .i64 E) r2
    have r4 := (heap_setCell_other (w1.setCell ⟨h + 4, 0, none⟩ (.slice A n c)) ⟨h + 5, 0, none⟩ (h + 4) (.int .i64 E) (by simp)).trans r1
    have hg : Rng (h + 4) (h + 6) w1 ((w1.setCell ⟨h + 4, 0, none⟩ (.slice A n c)).setCell ⟨h + 5, 0, none⟩ (.int .i64 E)) := ⟨rfl, rfl, rfl, by simp, fun k hk hne => (heap_setCell_other _ ⟨h + 5, 0, none⟩ k _ (by simp only; omega)).trans (heap_setCell_other _ ⟨h + 4, 0, none⟩ k _ (by simp only; omega))⟩
    refine ⟨⟨r3, A, n, c, r4, fun e bs he => ?_⟩, hr1.trans hg⟩
    simp only [Option.some.injEq, Prod.mk.injEq] at he
    rw [← he.2]
    exact ⟨Hnl.out.symm, own_rng ho1 hg fun k hk => .inr (by have := (ho1.lt k hk).1; omega)⟩
  have Hlb := Lib.hid hlb; clear hlb
  have Hbb := Lib.hid hbb; clear hbb
  have Hset := Lib.hid hset; clear hset
  have Hst := Lib.hid hstay; clear hstay
  have HBk := Lib.hid hBk; clear hBk
  clear hrow c0 c1 c2 c3 d0 d1 t0 l0
  by_cases hc : n = N
  · have hc' : (n : Int) = (N : Int) := by omega
    have hdc : decide (n = N) = true := decide_eq_true hc
    cases b with
    | none =>
      obtain rfl : B' = some (E, ks) := by rw [HUE.out, hdc]; rfl
      clear hc hdc
      go_wp2_with fail
      go_ret
      exact ⟨rfl, Hset.out.1, Hset.out.2⟩
    | some p =>
      obtain ⟨l, bs⟩ := p
      have hl0 := (HBk.out l bs rfl).1
      simp only at q0
      by_cases hEl : E < l
      · have hd2 : lessE (some (l, bs)) E = true := decide_eq_true hEl
        obtain rfl : B' = some (E, ks) := by rw [HUE.out, hdc, hd2]; rfl
        clear hc hdc hd2
        go_wp2_with fail
        go_ret
        exact ⟨rfl, Hset.out.1, Hset.out.2⟩
      · have hd2 : lessE (some (l, bs)) E = false := decide_eq_false hEl
        obtain rfl : B' = some (l, bs) := by rw [HUE.out, hdc, hd2]; rfl
        clear hc hdc hd2
        go_wp2_with fail
        go_ret
        exact ⟨rfl, Hst.out, hr1⟩
  · have hc' : ¬ (n : Int) = (N : Int) := by omega
    have hdc : decide (n = N) = false := decide_eq_false hc
    obtain rfl : B' = b := by rw [HUE.out, hdc]; rfl
    clear hdc hc
    go_wp2_with fail
    go_ret
    exact ⟨rfl, Hst.out, hr1⟩
end Go.Proofs.Ytgkdjohiclhcoaa
