/- Words and numbers read from a text: the program. -/
import Derived.Test.YtgcfmmcdecabpaaDoorNumS
import Derived.Test.YtgcfmmcdecabpaaDoorBase2
import Derived.Test.YtgcfmmcdecabpaaDoorDec
namespace Go.Proofs.YtgcfmmcdecabpaaDoor
open Go.RowKit
/-- What the library's variables hold. -/
structure Env (w : World) : Prop where
  tab : Tab10 w
  mx : ∃ m : Int, w.cell? ⟨2, 0, none⟩ = some (.int .i64 m)
  syn : ∃ ev, w.cell? ⟨0, 0, none⟩ = some ev ∧ (ev = .nilIface ∨ ∃ te pe, ev = .iface te pe)
  rng : ∃ ev, w.cell? ⟨1, 0, none⟩ = some ev ∧ (ev = .nilIface ∨ ∃ te pe, ev = .iface te pe)
theorem cell_next {w w' : World} {g : Nat} {v : Value} (h : w.cell? ⟨g, 0, none⟩ = some v) (hb : Below w.heap.size w w') : w'.cell? ⟨g, 0, none⟩ = some v :=
  (keepC hb g (World.block_lt_of_cell? w _ h) 0).trans h
theorem Env.next {w w' : World} (h : Env w) (hb : Below w.heap.size w w') : Env w' := by
  obtain ⟨m, hm⟩ := h.mx
  obtain ⟨e1, h1, h2⟩ := h.syn
  obtain ⟨e2, h3, h4⟩ := h.rng
  exact ⟨h.tab.next hb, ⟨m, cell_next hm hb⟩, ⟨e1, cell_next h1 hb, h2⟩, ⟨e2, cell_next h3 hb, h4⟩⟩
def neB (p : ByteArray) : Bool := decide (0 < p.size)
theorem split_pcs (s : ByteArray) : Pcs 32 ((Lib.splitB ⟨#[32]⟩ 0 (Lib.countB s ⟨#[32]⟩) s).map lst) (lst s) := by
  have h := Lib.splitB_data ⟨#[32]⟩ 0 (Lib.countB s ⟨#[32]⟩) s
  have h2 : (Lib.splitB ⟨#[32]⟩ 0 (Lib.countB s ⟨#[32]⟩) s).map lst = Lib.splitK [32] 0 (Lib.countB s ⟨#[32]⟩) (lst s) := h
  rw [h2]
  exact splitK_pcs _ _ (Lib.count_one 32 (lst s)).symm
set_option maxRecDepth 100000 in
set_option maxHeartbeats 2000000 in
theorem splitWords_c (s : ByteArray) (w : World) (hs : s.size ≤ 1048576) (hE : Env w) :
    Calls Tryd.prog 8 #[.string s] w fun e w' => ∃ (v : Value) (P : List ByteArray), e = .returned v ∧ w'.ownsRow w.heap.size 9 1 v (P.filter neB).length ((P.filter neB).flatMap strC) ∧ Pcs 32 (P.map lst) (lst s) ∧ Below w.heap.size w w' := by
  obtain ⟨p0, hp, hy0, hy1, hy2⟩ := info_parts strInfoS
  have hov := World.ownsRow_made (base := w.heap.size) (e := 9) (size := 1) w #[] 0 (Nat.le_refl _) (by simp [maxLen]) rfl
  have hbv : Below w.heap.size w (w.alloc (.cells #[] 9)) := (Below.refl _ _).alloc (Nat.le_refl _) _
  obtain ⟨m, hm⟩ := (hE.next hbv).mx
  have hpc := split_pcs s
  have hPl := Lib.splitB_all ⟨#[32]⟩ (by decide) 0 _ s rfl
  have hcl := Lib.countB_le ⟨#[32]⟩ (by decide) s.size s (Nat.le_refl _)
  have hn : Lib.countB s ⟨#[32]⟩ + 1 ≤ 1048577 := by omega
  obtain ⟨w1, hw1⟩ : ∃ w1, w.alloc (.cells #[] 9) = w1 := ⟨_, rfl⟩
  have hsp := Tryd.strings_Split s ⟨#[32]⟩ m w1 (by omega) (by rw [← hw1]; exact hm) (by decide)
  have hlt0 : w.heap.size < w1.heap.size := by rw [← hw1]; simp
  rw [hw1] at hov hbv
  have e0 : (Lib.splitB ⟨#[32]⟩ 0 (Lib.countB s ⟨#[32]⟩) s).map Value.string = (Lib.splitB ⟨#[32]⟩ 0 (Lib.countB s ⟨#[32]⟩) s).flatMap strC := by
    rw [List.map_eq_flatMap]; rfl
  rw [e0] at hsp
  generalize Lib.splitB ⟨#[32]⟩ 0 (Lib.countB s ⟨#[32]⟩) s = P at *
  generalize Lib.countB s ⟨#[32]⟩ + 1 = n at *
  have hsl : Sl (w1.alloc (.cells (P.flatMap strC).toArray 9)) (w1.heap.size + 1) 1 (some ⟨w1.heap.size, 0, none⟩) n (P.flatMap strC) :=
    Sl.new w1 9 _ n 1 (by rw [flat_len strC 1 strC_len, hPl])
  have hb2 : Below w1.heap.size w1 (w1.alloc (.cells (P.flatMap strC).toArray 9)) := by (repeat (first | (with_reducible assumption) | (with_reducible exact Below.refl _ _) | exact Nat.le_refl _ | exact Below.size (by with_reducible assumption) | (with_reducible refine Below.drew ?_) | (with_reducible refine below_drewN ?_ _) | (with_reducible refine Below.alloc ?_ ?_ _) | (with_reducible refine Below.setCell ?_ ?_ _) | (with_reducible refine le_alloc ?_ _) | (with_reducible refine le_set ?_ _ _) | (with_reducible refine le_drew ?_) | (with_reducible refine le_drewN ?_ _) | omega | (dsimp only; omega)))
  have hov2 := own_next hov hb2
  have HSp := Lib.hid hsp; clear hsp
  have Hpc := Lib.hid hpc; clear hpc
  have HPl := Lib.hid hPl; clear hPl
  clear hm hcl hov hE e0
  go_enter Tryd.func8, Tryd.ntmps8
  go_wp2_with fail
  try rw [hw1]
  clear hw1
  refine HSp.out.mono ?_
  rintro e w2 ⟨rfl, hw2⟩
  rw [← hw2] at hsl hb2 hov2
  have hsz : w2.heap.size = w1.heap.size + 1 := by rw [hw2]; simp
  rw [← hsz] at hsl
  replace hb2 := hbv.trans (hb2.mono hbv.size)
  clear hw2 hsz HSp
  have hlt1 : w.heap.size < w1.heap.size := hlt0
  obtain ⟨gb, hgb⟩ : ∃ gb, w1.heap.size = gb := ⟨_, rfl⟩
  rw [hgb] at hlt1
  rw [hgb] at hsl ⊢
  clear hgb hbv
  go_wp2_with fail
  go_loopw [3, 10] (fun y i wr => ∃ k : Nat, k ≤ n ∧ i = .int .i64 k ∧ wr.ownsRow w.heap.size 9 1 y ((P.take k).filter neB).length (((P.take k).filter neB).flatMap strC) ∧ Below w.heap.size w wr ∧ Sl wr wr.heap.size 1 (some ⟨gb, 0, none⟩) n (P.flatMap strC) ∧ (∀ b off, (some ⟨gb, 0, none⟩ : Option Addr) = some ⟨b, off, none⟩ → y.ownBlock ≠ some b)) (fun _ i _ => n - (intOf i).toNat)
  case atStart => exact ⟨0, Nat.zero_le _, rfl, hov2, hb2, hsl, fun b off e => by injection e with e; injection e with e1 e2; subst e1; intro h; injection h with h; dsimp only at h; omega⟩
  case round =>
    clear hov2 hsl
    obtain ⟨k, hk, rfl, hov, hbw, hsr, hdis⟩ := hrel
    obtain ⟨F, hF⟩ : ∃ F, (P.take k).filter neB = F := ⟨_, rfl⟩
    rw [hF] at hov
    obtain ⟨A3, c3, rfl⟩ := own_slice hov
    have hFl : F.length ≤ n := by
      rw [← hF]
      have := List.length_filter_le neB (P.take k)
      rw [List.length_take] at this
      omega
    by_cases hlt : k < n
    · obtain ⟨b, off, x, hA, hb, hx, cx⟩ := hsr.str k hlt
      injection hA with hA
      injection hA with hA1 hA2
      subst hA1 hA2
      simp only [Nat.zero_add] at cx
      have i0 : (0 : Int) ≤ (k : Int) := by omega
      have i1 : (k : Int) < (n : Int) := by omega
      have htk : (P.take (k + 1)).filter neB = F ++ (if neB x then [x] else []) := by
        rw [List.take_add_one, hx, Option.toList_some, List.filter_append, hF]
        cases h : neB x <;> simp [h]
      have Hx := Lib.hid hx; clear hx
      have HF := Lib.hid hF; clear hF
      have e63 : F.length + 1 ≤ maxLen := by unfold maxLen; omega
      have e32 : (F.length + 1) * 16 ≤ 140737488355328 := by omega
      have E63 := Lib.hid e63; clear e63
      have E32 := Lib.hid e32; clear e32
      by_cases hne : 0 < x.size
      · rw [if_pos (by simpa [neB] using hne)] at htk
        have Htk := Lib.hid htk; clear htk
        have he := isE_no hne
        have he2 := notNil hne
        have he3 : ¬ x = ByteArray.empty := size_pos hne
        clear hne
        go_wp2_with (at_builtin; refine wpl_append _ rfl (.tmp 16) (.tmp 18) _ rfl w.heap.size 9 p0 _ 1 16 Tryd.underlying28 hp hy0 hy1 hy2 rfl (by omega) _ (F.length) _ rfl ((hov).alloc _) ((wr).heap.size + 1) (some ⟨(wr).heap.size, 0, none⟩) 1 1 (strC x) rfl (Sl.new (wr) 9 _ 1 1 rfl) (strC_one _) E63.out E32.out (le_alloc (hbw).size _) ?_; intro v4 w4 ho4 hg4 hat4)
        go_roundw
        case rel =>
          have hbs := Sl.beside hsr hg4 hat4 hdis (by omega)
          refine ⟨k + 1, by omega, by go_num, ?_, (hbw.alloc hbw.size _).grown hg4 (le_alloc hbw.size _) fun g hg => (hov.lt g hg).1, hbs.1, hbs.2⟩
          rw [Htk.out, List.flatMap_append]
          simpa using ho4
        case measure => simp [intOf]; omega
      · rw [if_neg (by simpa [neB] using hne), List.append_nil] at htk
        obtain rfl := size_zero (show x.size = 0 by omega)
        have Htk := Lib.hid htk; clear htk
        clear hne
        go_wp2_with fail
        go_roundw
        case rel =>
          refine ⟨k + 1, by omega, by go_num, ?_, hbw, hsr, hdis⟩
          rw [Htk.out]
          exact hov
        case measure => simp [intOf]; omega
    · obtain rfl : k = n := by omega
      have hFP : F = P.filter neB := by rw [← hF, List.take_of_length_le (by rw [HPl.out]; omega)]
      have HF := Lib.hid hF; clear hF
      have HFP := Lib.hid hFP; clear hFP
      go_wp2_with fail
      go_ret
      refine ⟨_, P, rfl, ?_, Hpc.out, hbw⟩
      rw [← HFP.out]
      exact hov
end Go.Proofs.YtgcfmmcdecabpaaDoor
