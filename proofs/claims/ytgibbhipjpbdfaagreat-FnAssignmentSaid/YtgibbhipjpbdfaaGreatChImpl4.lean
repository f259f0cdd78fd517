
/- Characters: the program's times. -/
import Derived.Lib.OthersKept
import Derived.Test.YtgibbhipjpbdfaaGreatChImpl3
namespace Go.Proofs.YtgibbhipjpbdfaaGreat
open Go.RowKit
theorem morse_sign (j : Nat) (hj : j < 26) : ∀ i, i < (morse j).size → bt (morse j) i = 45 ∨ bt (morse j) i = 46 :=
  match j, hj with
  | 0, _ => by decide | 1, _ => by decide | 2, _ => by decide | 3, _ => by decide | 4, _ => by decide | 5, _ => by decide | 6, _ => by decide | 7, _ => by decide | 8, _ => by decide | 9, _ => by decide | 10, _ => by decide | 11, _ => by decide | 12, _ => by decide | 13, _ => by decide | 14, _ => by decide | 15, _ => by decide | 16, _ => by decide | 17, _ => by decide | 18, _ => by decide | 19, _ => by decide | 20, _ => by decide | 21, _ => by decide | 22, _ => by decide | 23, _ => by decide | 24, _ => by decide | 25, _ => by decide
  | n + 26, h => absurd h (by omega)
theorem rhythm8_c (w : World) : Calls Tryz.prog 88 #[.int .i64 8] w fun e w' => e = .returned (.tuple #[.int .i64 5, .int .i64 5, .int .i64 30]) ∧ w = w' := rhythm_c 8 w
theorem signsV_M {l : ByteArray} (h1 : l.size = 1) (h2 : 65 ≤ bt l 0) (h3 : bt l 0 ≤ 90) : signsV l = morse (bt l 0 - 65).toNat := by
  have : letterB l = true := by simp [letterB, h1, h2, h3]
  rw [signsV, this]; rfl
/-- An iterator that moves on leaves a row that is owned. -/
theorem own_iterAt {w : World} {base : Nat} {e : TypeId} {sz n g : Nat} {v : Value} {xs : List Value} {s : ByteArray} {pos : Nat} (h : w.ownsRow base e sz v n xs) (hne : v.ownBlock ≠ some g) : (w.iterAt g s pos).ownsRow base e sz v n xs := by
  refine ⟨h.1, ?_⟩
  rcases h.2 with hn | ⟨g', cap, cur, hv, hbg, hg, rest⟩
  · exact .inl hn
  · have hkg : g' ≠ g := by
      intro e1
      exact hne (by rw [hv, e1]; rfl)
    exact .inr ⟨g', cap, cur, hv, hbg, (Lib.iterAt_other w g g' s pos hkg).trans hg, rest⟩
theorem iter_kept {wr w2 : World} {g : Nat} {o x : Obj} {row : Option Nat} (hit : wr.heap[g]? = some o) (hg : (wr.alloc x).grownBy w2 row) (hne : row ≠ some g) : w2.heap[g]? = some o := by
  have hlt : g < wr.heap.size := (Array.getElem?_eq_some_iff.1 hit).1
  rw [hg.block g (Nat.lt_of_lt_of_le hlt (le_alloc (Nat.le_refl _) _)) (Ne.symm hne), Lib.alloc_old wr x g hlt]
  exact hit
set_option maxRecDepth 100000 in
set_option maxHeartbeats 2000000 in
theorem timesM_c (A : Option Addr) (n c : Nat) (x : Ch) (w : World) (sl : Sl w w.heap.size 1 A n (x.gs.flatMap intC)) (_ : n ≤ 1048576) (hlz : x.l.size ≤ 1048576) (hs : x.cs.size ≤ 1048576) (hk8 : x.k = 8) (ht : TOk x) :
    Calls Tryz.prog 90 #[chV x.k A n c x.l x.cs x.p] w fun e w' => ∃ v, e = .returned v ∧ w'.ownsRow w.heap.size 2 1 v (timesL x).length ((timesL x).flatMap intC) ∧ Below w.heap.size w w' := by
  obtain ⟨p0, hp, hy0, hy1, hy2⟩ := info_parts intInfo
  obtain ⟨hl1, hlo, hhi⟩ := ht.mo hk8
  have htl : timesL x = mT (morse (letN x)) (morse (letN x)).size := by rw [timesL, if_pos hk8]
  have hlt26 : letN x < 26 := by unfold letN; omega
  have hms := morse_size (letN x) hlt26
  have hmb := morse_sign (letN x) hlt26
  have hsv := signsV_M hl1 hlo hhi
  rw [show (bt x.l 0 - 65).toNat = letN x from rfl] at hsv
  rw [htl]
  obtain ⟨k, gs, l, cs, p⟩ := x
  simp only at hk8 hl1 hlo hhi hsv sl hlz hs
  subst hk8
  generalize morse (letN ⟨8, gs, l, cs, p⟩) = s at *
  have hbx : ∀ i, (w.alloc (.cells #[.int .i64 8, .slice A n c, .string l, .string cs, .int .i64 p] 60)).cell? ⟨w.heap.size, i, none⟩ = #[Value.int .i64 8, .slice A n c, .string l, .string cs, .int .i64 p][i]? := fun i => cell_of_row _ w.heap.size i _ 60 (0, 0) (heap_alloc_new w _)
  have hb0 : Below w.heap.size w (w.alloc (.cells #[.int .i64 8, .slice A n c, .string l, .string cs, .int .i64 p] 60)) := by (repeat (first | (with_reducible assumption) | (with_reducible exact Below.refl _ _) | exact Nat.le_refl _ | exact Below.size (by with_reducible assumption) | (with_reducible refine Below.drew ?_) | (with_reducible refine below_drewN ?_ _) | (with_reducible refine Below.alloc ?_ ?_ _) | (with_reducible refine Below.setCell ?_ ?_ _) | (with_reducible refine le_alloc ?_ _) | (with_reducible refine le_set ?_ _ _) | (with_reducible refine le_drew ?_) | (with_reducible refine le_drewN ?_ _) | omega | (dsimp only; omega)))
  have Htl := Lib.hid htl; clear htl
  have Hl1 := Lib.hid hl1; clear hl1
  go_enter Tryz.func90, Tryz.ntmps90
  go_wp2_with (first | (go_at_call 88; refine (rhythm8_c _).mono ?_; rintro e w1 ⟨rfl, rfl⟩) | (go_at_call 86; refine (signsOf_c _ _ (by unfold maxLen; omega)).mono ?_; rintro e w1 ⟨rfl, rfl⟩; rw [hsv]))
  have hov : ((w.alloc (.cells #[.int .i64 8, .slice A n c, .string l, .string cs, .int .i64 p] 60)).alloc (.cells #[] 2)).ownsRow w.heap.size 2 1 (.slice (some ⟨w.heap.size + 1, 0, none⟩) 0 0) 0 (([] : List Int).flatMap intC) := by
    have := World.ownsRow_made (base := w.heap.size) (e := 2) (size := 1) (w.alloc (.cells #[.int .i64 8, .slice A n c, .string l, .string cs, .int .i64 p] 60)) #[] 0 (by simp) (by simp [maxLen]) rfl
    simpa using this
  have hit0 := World.iter_heap ((w.alloc (.cells #[.int .i64 8, .slice A n c, .string l, .string cs, .int .i64 p] 60)).alloc (.cells #[] 2)) s 0
  have hbw0 : Below w.heap.size w (((w.alloc (.cells #[.int .i64 8, .slice A n c, .string l, .string cs, .int .i64 p] 60)).alloc (.cells #[] 2)).iter s 0) := by
    unfold World.iter
    (repeat (first | (with_reducible assumption) | (with_reducible exact Below.refl _ _) | exact Nat.le_refl _ | exact Below.size (by with_reducible assumption) | (with_reducible refine Below.drew ?_) | (with_reducible refine below_drewN ?_ _) | (with_reducible refine Below.alloc ?_ ?_ _) | (with_reducible refine Below.setCell ?_ ?_ _) | (with_reducible refine le_alloc ?_ _) | (with_reducible refine le_set ?_ _ _) | (with_reducible refine le_drew ?_) | (with_reducible refine le_drewN ?_ _) | omega | (dsimp only; omega)))
  replace hov := hov.alloc (.stringIter s 0)
  simp only [World.size_alloc] at hit0
  have hne : (Value.slice (some ⟨w.heap.size + 1, 0, none⟩) 0 0).ownBlock ≠ some (w.heap.size + 1 + 1) := by simp [Value.ownBlock]
  have hgb : w.heap.size ≤ w.heap.size + 1 + 1 := by omega
  clear hbx hb0
  obtain ⟨g, hg⟩ : ∃ g, w.heap.size + 1 + 1 = g := ⟨_, rfl⟩
  rw [hg] at hit0 hne hgb
  rw [hg]
  have Hg := Lib.hid hg; clear hg
  go_loopw [6] (fun v wr => ∃ k : Nat, k ≤ s.size ∧ wr.ownsRow w.heap.size 2 1 v (mT s k).length ((mT s k).flatMap intC) ∧ wr.heap[g]? = some (.stringIter s k) ∧ v.ownBlock ≠ some g ∧ Below w.heap.size w wr) (fun _ wr => s.size - wr.iterPos g)
  case atStart => exact ⟨0, Nat.zero_le _, hov, hit0, hne, hbw0⟩
  case round =>
    clear hov hit0 hne hbw0
    obtain ⟨k, hk, hov, hit, hne, hbw⟩ := hrel
    obtain ⟨A1, c1', rfl⟩ := own_slice hov
    by_cases hlt : k < s.size
    · have hbt := bt_eq s k hlt
      have hsi := hmb k hlt
      rw [hbt] at hsi
      have ha : (s[k]'hlt).toNat < 128 := by omega
      have hnx : ∀ ty, (Instr.next (.pointer (some ⟨g, 0, none⟩)) true ty).run Tryz.prog wr = _ := fun ty => Lib.run_next_ascii_at wr g s k ty hit hlt ha
      have hov1 := own_iterAt (s := s) (pos := k + 1) hov hne
      have hit1 := Lib.iterAt_heap wr g s k (k + 1) hit
      have hbw1 := Lib.below_iterAt hbw hgb s (k + 1)
      generalize wr.iterAt g s (k + 1) = wi at *
      have hml := mT_len s k
      have hnx2 := mT_next s k
      have e63 : (mT s k).length + 1 ≤ maxLen := by unfold maxLen; omega
      have e32 : ((mT s k).length + 1) * 8 ≤ 140737488355328 := by omega
      have e63b : (mT s k).length + 1 + 1 ≤ maxLen := by unfold maxLen; omega
      have e32b : ((mT s k).length + 1 + 1) * 8 ≤ 140737488355328 := by omega
      have hsg : signI s k = if (s[k]'hlt).toNat = 46 then 5 else 15 := by rw [signI, hbt]; split <;> split <;> first | rfl | omega
      have Hnx := Lib.hid hnx2; clear hnx2
      have E63 := Lib.hid e63; clear e63
      have E32 := Lib.hid e32; clear e32
      have E63b := Lib.hid e63b; clear e63b
      have E32b := Lib.hid e32b; clear e32b
      have Hbt := Lib.hid hbt; clear hbt
      have Hsg := Lib.hid hsg; clear hsg
      have Hsi := Lib.hid hsi; clear hsi
      cases hd : (((s[k]'hlt).toNat : Int) == 45)
      · have hs5 : signI s k = 5 := by
          have := Hsi.out
          rw [Hsg.out]
          simp at hd
          split <;> omega
        have Hs5 := Lib.hid hs5; clear hs5
        rcases Nat.eq_zero_or_pos k with h0 | h0
        · have hkn : ¬ (0 : Int) < (k : Int) := by omega
          have H0 := Lib.hid h0; clear h0
          go_wp2_with (at_builtin; refine wpl_append _ rfl (.tmp 46) (.tmp 48) _ rfl (w.heap.size) 2 p0 _ 1 8 Tryz.underlying28 hp hy0 hy1 hy2 rfl (by omega) _ (_) _ rfl ((hov1).alloc _) ((wi).heap.size + 1) (some ⟨(wi).heap.size, 0, none⟩) 1 1 (intC (5)) rfl (Sl.new (wi) 2 _ 1 1 rfl) (intC_one _) E63.out E32.out (le_alloc hbw1.size _) ?_; intro v2 w2 ho2 hg2 hat2)
          go_roundw
          case rel =>
            refine ⟨k + 1, by omega, ?_, iter_kept hit1 hg2 hne, other_next hat2 hne (Nat.lt_of_lt_of_le (Array.getElem?_eq_some_iff.1 hit1).1 (le_alloc (Nat.le_refl _) _)), (hbw1.alloc hbw1.size _).grown hg2 (le_alloc hbw1.size _) fun g' hg' => (hov1.lt g' hg').1⟩
            rw [Hnx.out, Hs5.out, if_neg (by rw [H0.out]; omega)]
            simpa [List.flatMap_append] using ho2
          case measure =>
            simp only [World.iterPos, iter_kept hit1 hg2 hne, hit]
            omega
        · have hk1 : (0 : Int) < (k : Int) := by omega
          go_wp2_with (first | ((at_builtin; refine wpl_append _ rfl (.tmp 35) (.tmp 37) _ rfl (w.heap.size) 2 p0 _ 1 8 Tryz.underlying28 hp hy0 hy1 hy2 rfl (by omega) _ (_) _ rfl ((hov1).alloc _) ((wi).heap.size + 1) (some ⟨(wi).heap.size, 0, none⟩) 1 1 (intC (5)) rfl (Sl.new (wi) 2 _ 1 1 rfl) (intC_one _) E63.out E32.out (le_alloc hbw1.size _) ?_; intro v2 w2 ho2 hg2 hat2); have hz2 : w.heap.size ≤ w2.heap.size := Nat.le_trans hbw1.size (Nat.le_trans (le_alloc (Nat.le_refl _) _) hg2.size); have hit2 := iter_kept hit1 hg2 hne; have hne2 := other_next hat2 hne (Nat.lt_of_lt_of_le (Array.getElem?_eq_some_iff.1 hit1).1 (le_alloc (Nat.le_refl _) _))) | (at_builtin; refine wpl_append _ rfl (.tmp 46) (.tmp 48) _ rfl (w.heap.size) 2 p0 _ 1 8 Tryz.underlying28 hp hy0 hy1 hy2 rfl (by omega) _ (_) _ rfl ((ho2).alloc _) ((w2).heap.size + 1) (some ⟨(w2).heap.size, 0, none⟩) 1 1 (intC (5)) rfl (Sl.new (w2) 2 _ 1 1 rfl) (intC_one _) E63b.out E32b.out (le_alloc hz2 _) ?_; intro v3 w3 ho3 hg3 hat3))
          go_roundw
          case rel =>
            have hb2 : Below w.heap.size w w2 := (hbw1.alloc hbw1.size _).grown hg2 (le_alloc hbw1.size _) fun g' hg' => (hov1.lt g' hg').1
            refine ⟨k + 1, by omega, ?_, iter_kept hit2 hg3 hne2, other_next hat3 hne2 (Nat.lt_of_lt_of_le (Array.getElem?_eq_some_iff.1 hit2).1 (le_alloc (Nat.le_refl _) _)), (hb2.alloc hb2.size _).grown hg3 (le_alloc hb2.size _) fun g' hg' => (ho2.lt g' hg').1⟩
            rw [Hnx.out, if_pos h0, Hs5.out]
            simpa [List.flatMap_append, Nat.add_assoc] using ho3
          case measure =>
            simp only [World.iterPos, iter_kept hit2 hg3 hne2, hit]
            omega
      · have hs5 : signI s k = 15 := by
          have := Hsi.out
          rw [Hsg.out]
          simp at hd
          split <;> omega
        have Hs5 := Lib.hid hs5; clear hs5
        rcases Nat.eq_zero_or_pos k with h0 | h0
        · have hkn : ¬ (0 : Int) < (k : Int) := by omega
          have H0 := Lib.hid h0; clear h0
          go_wp2_with (at_builtin; refine wpl_append _ rfl (.tmp 41) (.tmp 44) _ rfl (w.heap.size) 2 p0 _ 1 8 Tryz.underlying28 hp hy0 hy1 hy2 rfl (by omega) _ (_) _ rfl ((hov1).alloc _) ((wi).heap.size + 1) (some ⟨(wi).heap.size, 0, none⟩) 1 1 (intC (15)) rfl (Sl.new (wi) 2 _ 1 1 rfl) (intC_one _) E63.out E32.out (le_alloc hbw1.size _) ?_; intro v2 w2 ho2 hg2 hat2)
          go_roundw
          case rel =>
            refine ⟨k + 1, by omega, ?_, iter_kept hit1 hg2 hne, other_next hat2 hne (Nat.lt_of_lt_of_le (Array.getElem?_eq_some_iff.1 hit1).1 (le_alloc (Nat.le_refl _) _)), (hbw1.alloc hbw1.size _).grown hg2 (le_alloc hbw1.size _) fun g' hg' => (hov1.lt g' hg').1⟩
            rw [Hnx.out, Hs5.out, if_neg (by rw [H0.out]; omega)]
            simpa [List.flatMap_append] using ho2
          case measure =>
            simp only [World.iterPos, iter_kept hit1 hg2 hne, hit]
            omega
        · have hk1 : (0 : Int) < (k : Int) := by omega
          go_wp2_with (first | ((at_builtin; refine wpl_append _ rfl (.tmp 35) (.tmp 37) _ rfl (w.heap.size) 2 p0 _ 1 8 Tryz.underlying28 hp hy0 hy1 hy2 rfl (by omega) _ (_) _ rfl ((hov1).alloc _) ((wi).heap.size + 1) (some ⟨(wi).heap.size, 0, none⟩) 1 1 (intC (5)) rfl (Sl.new (wi) 2 _ 1 1 rfl) (intC_one _) E63.out E32.out (le_alloc hbw1.size _) ?_; intro v2 w2 ho2 hg2 hat2); have hz2 : w.heap.size ≤ w2.heap.size := Nat.le_trans hbw1.size (Nat.le_trans (le_alloc (Nat.le_refl _) _) hg2.size); have hit2 := iter_kept hit1 hg2 hne; have hne2 := other_next hat2 hne (Nat.lt_of_lt_of_le (Array.getElem?_eq_some_iff.1 hit1).1 (le_alloc (Nat.le_refl _) _))) | (at_builtin; refine wpl_append _ rfl (.tmp 41) (.tmp 44) _ rfl (w.heap.size) 2 p0 _ 1 8 Tryz.underlying28 hp hy0 hy1 hy2 rfl (by omega) _ (_) _ rfl ((ho2).alloc _) ((w2).heap.size + 1) (some ⟨(w2).heap.size, 0, none⟩) 1 1 (intC (15)) rfl (Sl.new (w2) 2 _ 1 1 rfl) (intC_one _) E63b.out E32b.out (le_alloc hz2 _) ?_; intro v3 w3 ho3 hg3 hat3))
          go_roundw
          case rel =>
            have hb2 : Below w.heap.size w w2 := (hbw1.alloc hbw1.size _).grown hg2 (le_alloc hbw1.size _) fun g' hg' => (hov1.lt g' hg').1
            refine ⟨k + 1, by omega, ?_, iter_kept hit2 hg3 hne2, other_next hat3 hne2 (Nat.lt_of_lt_of_le (Array.getElem?_eq_some_iff.1 hit2).1 (le_alloc (Nat.le_refl _) _)), (hb2.alloc hb2.size _).grown hg3 (le_alloc hb2.size _) fun g' hg' => (ho2.lt g' hg').1⟩
            rw [Hnx.out, if_pos h0, Hs5.out]
            simpa [List.flatMap_append, Nat.add_assoc] using ho3
          case measure =>
            simp only [World.iterPos, iter_kept hit2 hg3 hne2, hit]
            omega
    · have hnx : ∀ ty, (Instr.next (.pointer (some ⟨g, 0, none⟩)) true ty).run Tryz.prog wr = _ := fun ty => Lib.run_next_end_at wr g s k ty hit hlt
      go_wp2
      go_ret
      obtain rfl : k = s.size := by omega
      exact ⟨_, rfl, hov, hbw⟩
end Go.Proofs.YtgibbhipjpbdfaaGreat
