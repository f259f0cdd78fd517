
/- Characters: the program's times of groups. -/
import Derived.Test.YtgibbhipjpbdfaaGreatChImpl4
namespace Go.Proofs.YtgibbhipjpbdfaaGreat
open Go.RowKit
def GK (k : Int) : Prop := k = 2 ∨ k = 4 ∨ k = 5 ∨ k = 6 ∨ k = 7
theorem rhythmG_c (k : Int) (hk : GK k) (w : World) : Calls Tryz.prog 88 #[.int .i64 k] w fun e w' => e = .returned (.tuple #[.int .i64 (flashI k), .int .i64 (gapI k), .int .i64 (restR k)]) ∧ w = w' := by
  have h1 : flashR k = flashI k := by unfold GK at hk; rcases hk with rfl | rfl | rfl | rfl | rfl <;> rfl
  have h2 : gapR k = gapI k := by unfold GK at hk; rcases hk with rfl | rfl | rfl | rfl | rfl <;> rfl
  rw [← h1, ← h2]
  exact rhythm_c k w
set_option maxRecDepth 100000 in
set_option maxHeartbeats 2000000 in
theorem timesG_c (A : Option Addr) (n c : Nat) (x : Ch) (w : World) (sl : Sl w w.heap.size 1 A n (x.gs.flatMap intC)) (hn : n ≤ 1048576) (hlz : x.l.size ≤ 1048576) (hs : x.cs.size ≤ 1048576) (hk : GK x.k) (ht : TOk x) :
    Calls Tryz.prog 90 #[chV x.k A n c x.l x.cs x.p] w fun e w' => ∃ v, e = .returned v ∧ w'.ownsRow w.heap.size 2 1 v (timesL x).length ((timesL x).flatMap intC) ∧ Below w.heap.size w w' := by
  obtain ⟨p0, hp, hy0, hy1, hy2⟩ := info_parts intInfo
  have hk8 : x.k ≠ 8 := by unfold GK at hk; omega
  have htl : timesL x = outerT x.k (grp x) (grp x).length ++ (if isL x.l = true then [gapI x.k, 20] else []) := by rw [timesL, if_neg hk8]
  obtain ⟨hG1, hG4, hG9⟩ := grp_ok hk8 ht
  have hLE : isL x.l = true ∨ isE x.l = true := (ht.gr hk8).2.2
  have hlen := sl.len intC 1 intC_len (by omega)
  have hke : (x.k == 8) = false := by simpa using hk8
  have hgap := gapI_bd x.k
  have hp0 := chp_box (c := c) 60 sl hn hlz hs
  have hb00 : Below w.heap.size w (w.alloc (.cells #[.int .i64 x.k, .slice A n c, .string x.l, .string x.cs, .int .i64 x.p] 60)) := by (repeat (first | (with_reducible assumption) | (with_reducible exact Below.refl _ _) | exact Nat.le_refl _ | exact Below.size (by with_reducible assumption) | (with_reducible refine Below.drew ?_) | (with_reducible refine below_drewN ?_ _) | (with_reducible refine Below.alloc ?_ ?_ _) | (with_reducible refine Below.setCell ?_ ?_ _) | (with_reducible refine le_alloc ?_ _) | (with_reducible refine le_set ?_ _ _) | (with_reducible refine le_drew ?_) | (with_reducible refine le_drewN ?_ _) | omega | (dsimp only; omega)))
  obtain ⟨k, gs, l, cs, p⟩ := x
  obtain ⟨c0, c1, c2, c3, c4, hbs, sl0, _, _, _⟩ := hp0
  simp only [Nat.zero_add] at c0 c1 c2 c3 c4 sl sl0 hlz hs hke hgap hk hlen hLE hb00 hbs
  obtain ⟨G, hGe⟩ : ∃ G, grp ⟨k, gs, l, cs, p⟩ = G := ⟨_, rfl⟩
  rw [hGe] at hG1 hG4 hG9 htl
  have Htl := Lib.hid htl; clear htl
  have HLE := Lib.hid hLE; clear hLE
  clear ht hk8
  obtain ⟨u1, u2⟩ := hgap
  go_enter Tryz.func90, Tryz.ntmps90
  go_wp2_with fail
  refine (rhythmG_c k hk _).mono ?_
  rintro e w1 ⟨rfl, rfl⟩
  have hle0 : w.heap.size ≤ (w.alloc (.cells #[.int .i64 k, .slice A n c, .string l, .string cs, .int .i64 p] 60)).heap.size := by simp
  generalize w.alloc (.cells #[.int .i64 k, .slice A n c, .string l, .string cs, .int .i64 p] 60) = w0 at *
  rcases Nat.eq_zero_or_pos n with h0 | h0
  · subst h0
    have hgs : gs = [] := List.eq_nil_of_length_eq_zero hlen
    have hGg : G = [1] := by rw [← hGe, grp, if_pos hgs]
    have hGl : G.length = 1 := by rw [hGg]; rfl
    have hbw : Below w0.heap.size w0 ((w0.alloc (.cells #[.int .i64 1] 2)).alloc (.cells #[] 2)) := by (repeat (first | (with_reducible assumption) | (with_reducible exact Below.refl _ _) | exact Nat.le_refl _ | exact Below.size (by with_reducible assumption) | (with_reducible refine Below.drew ?_) | (with_reducible refine below_drewN ?_ _) | (with_reducible refine Below.alloc ?_ ?_ _) | (with_reducible refine Below.setCell ?_ ?_ _) | (with_reducible refine le_alloc ?_ _) | (with_reducible refine le_set ?_ _ _) | (with_reducible refine le_drew ?_) | (with_reducible refine le_drewN ?_ _) | omega | (dsimp only; omega)))
    have hov : ((w0.alloc (.cells #[.int .i64 1] 2)).alloc (.cells #[] 2)).ownsRow w0.heap.size 2 1 (.slice (some ⟨w0.heap.size + 1, 0, none⟩) 0 0) 0 (([] : List Int).flatMap intC) := by
      have := World.ownsRow_made (base := w0.heap.size) (e := 2) (size := 1) (w0.alloc (.cells #[.int .i64 1] 2)) #[] 0 (by simp) (by simp [maxLen]) rfl
      simpa using this
    have hsG : Sl ((w0.alloc (.cells #[.int .i64 1] 2)).alloc (.cells #[] 2)) ((w0.alloc (.cells #[.int .i64 1] 2)).alloc (.cells #[] 2)).heap.size 1 (some ⟨w0.heap.size, 0, none⟩) 1 (G.flatMap intC) := by
      rw [hGg]
      have h1 := Sl.new w0 2 [.int .i64 1] 1 1 rfl
      have h2 : Sl (w0.alloc (.cells #[.int .i64 1] 2)) (w0.alloc (.cells #[.int .i64 1] 2)).heap.size 1 (some ⟨w0.heap.size, 0, none⟩) 1 [.int .i64 1] := by simpa using h1
      exact h2.next (by (repeat (first | (with_reducible assumption) | (with_reducible exact Below.refl _ _) | exact Nat.le_refl _ | exact Below.size (by with_reducible assumption) | (with_reducible refine Below.drew ?_) | (with_reducible refine below_drewN ?_ _) | (with_reducible refine Below.alloc ?_ ?_ _) | (with_reducible refine Below.setCell ?_ ?_ _) | (with_reducible refine le_alloc ?_ _) | (with_reducible refine le_set ?_ _ _) | (with_reducible refine le_drew ?_) | (with_reducible refine le_drewN ?_ _) | omega | (dsimp only; omega))))
    have hneG : ∀ b off, (some ⟨w0.heap.size, 0, none⟩ : Option Addr) = some ⟨b, off, none⟩ → (Value.slice (some ⟨w0.heap.size + 1, 0, none⟩) 0 0).ownBlock ≠ some b := by
      intro b1 off1 e
      injection e with e; injection e with e3 _ _
      subst e3
      simp [Value.ownBlock]
    have hnz : (((0 : Nat) : Int) == 0) = true := by simp
    clear hGe hgs hlen
    have HGg := Lib.hid hGg; clear hGg
    go_wp2
    generalize hV : Value.slice (some ⟨w0.heap.size, 0, none⟩) 1 1 = V
    obtain ⟨AG, N1, hV', hAG, hN1⟩ : ∃ AG N1, V = .slice AG N1 N1 ∧ AG = some ⟨w0.heap.size, 0, none⟩ ∧ N1 = 1 := ⟨_, 1, hV.symm, rfl, rfl⟩
    clear hV
    subst hV'
    rw [← hAG] at hsG
    rw [← hAG] at hneG
    replace hGl : G.length = N1 := by rw [hN1]; exact hGl
    replace hsG : Sl ((w0.alloc (.cells #[.int .i64 1] 2)).alloc (.cells #[] 2)) ((w0.alloc (.cells #[.int .i64 1] 2)).alloc (.cells #[] 2)).heap.size 1 AG N1 (G.flatMap intC) := by rw [hN1]; exact hsG
    have hlit : Value.int .i64 1 = Value.int .i64 (N1 : Int) := by rw [hN1]; rfl
    conv =>
      arg 4
      simp only [hlit]
    clear hAG hN1 hlit
    have HGl := Lib.hid hGl; clear hGl
    generalize (w0.alloc (.cells #[.int .i64 1] 2)).alloc (.cells #[] 2) = wz at *
    go_loopw [10, 60] (fun v i wr => ∃ (r : Nat) (L0 : List Int), r ≤ N1 ∧ i = .int .i64 r ∧ L0 = outerT k G r ∧ wr.ownsRow w0.heap.size 2 1 v L0.length (L0.flatMap intC) ∧ Sl wr wr.heap.size 1 AG N1 (G.flatMap intC) ∧ (∀ b off, AG = some ⟨b, off, none⟩ → v.ownBlock ≠ some b) ∧ Below w0.heap.size w0 wr) (fun _ i _ => N1 - (intOf i).toNat)
    case atStart => exact ⟨0, [], Nat.zero_le _, rfl, rfl, hov, hsG, hneG, hbw⟩
    case round =>
      clear hov hsG hneG hbw
      obtain ⟨r, L0, hr, rfl, hL0, hov, hsG, hneG, hbw⟩ := hrel
      have HL0 := Lib.hid hL0; clear hL0
      obtain ⟨A1, c1', rfl⟩ := own_slice hov
      by_cases hlt : r < N1
      · obtain ⟨bg, offg, xg, rfl, hbg, hxg, cx⟩ := hsG.int r hlt
        have hx9 := hG9 xg (List.mem_of_getElem? hxg)
        obtain ⟨M, rfl⟩ : ∃ M : Nat, xg = M := ⟨xg.toNat, by omega⟩
        have hon := outerT_next k hxg
        have hol := outerT_len k hG9 r (by rw [HGl.out]; omega)
        have hn4 : N1 ≤ 4 := by rw [← HGl.out]; exact hG4
        have hr4 : r ≤ 4 := by omega
        have Hxg := Lib.hid hxg; clear hxg
        have Hon := Lib.hid hon; clear hon
        go_wp2
        obtain ⟨wo, rfl⟩ : ∃ wo : World, wo = wr := ⟨_, rfl⟩
        go_loopw [10, 66] (fun v i wr => ∃ (m : Nat) (L : List Int), m ≤ M ∧ i = .int .i64 m ∧ L = outerT k G r ++ innerT k r m ∧ wr.ownsRow w0.heap.size 2 1 v L.length (L.flatMap intC) ∧ Sl wr wr.heap.size 1 (some ⟨bg, offg, none⟩) N1 (G.flatMap intC) ∧ (∀ b off, some (⟨bg, offg, none⟩ : Addr) = some ⟨b, off, none⟩ → v.ownBlock ≠ some b) ∧ Below w0.heap.size w0 wr) (fun _ i _ => M - (intOf i).toNat)
        case atStart => exact ⟨0, L0, Nat.zero_le _, rfl, by rw [HL0.out]; simp [innerT], hov, hsG, hneG, hbw⟩
        case round =>
          clear hov hsG hneG hbw
          obtain ⟨m, L, hm, rfl, hL, hov, hsG, hneG, hbw⟩ := hrel
          obtain ⟨A2, c2', rfl⟩ := own_slice hov
          by_cases hlt2 : m < M
          · have hin := innerT_next k r m
            have hil := innerT_len k r m
            have hlen : L.length ≤ 1000 := by rw [hL, List.length_append]; omega
            have hnp : 0 < N1 := by omega
            replace hL := hL.symm
            have e63 : L.length + 1 ≤ maxLen := by unfold maxLen; omega
            have e32 : (L.length + 1) * 8 ≤ 140737488355328 := by omega
            have e63b : L.length + 1 + 1 ≤ maxLen := by unfold maxLen; omega
            have e32b : (L.length + 1 + 1) * 8 ≤ 140737488355328 := by omega
            have HL := Lib.hid hL; clear hL
            have Hin := Lib.hid hin; clear hin
            have E63 := Lib.hid e63; clear e63
            have E32 := Lib.hid e32; clear e32
            have E63b := Lib.hid e63b; clear e63b
            have E32b := Lib.hid e32b; clear e32b
            rcases Nat.eq_zero_or_pos m with hm0 | hm0
            · have hmn : ¬ (0 : Int) < (m : Int) := by omega
              have Hm0 := Lib.hid hm0; clear hm0
              rcases Nat.eq_zero_or_pos r with hr0 | hr0
              · have hrn : ¬ (0 : Int) < (r : Int) := by omega
                have Hr0 := Lib.hid hr0; clear hr0
                go_wp2_with (at_builtin; refine wpl_append _ rfl (.tmp 84) (.tmp 86) _ rfl (w0.heap.size) 2 p0 _ 1 8 Tryz.underlying28 hp hy0 hy1 hy2 rfl (by omega) _ (_) _ rfl ((hov).alloc _) ((wr).heap.size + 1) (some ⟨(wr).heap.size, 0, none⟩) 1 1 (intC (flashI k)) rfl (Sl.new (wr) 2 _ 1 1 rfl) (intC_one _) E63.out E32.out (le_alloc hbw.size _) ?_; intro v2 w2 ho2 hg2 hat2)
                go_roundw
                case rel =>
                  obtain ⟨hsG2, hneG2⟩ := hsG.beside hg2 hat2 hneG hnp
                  have e0 : outerT k G r ++ innerT k r (m + 1) = L ++ [flashI k] := by
                    rw [Hin.out, ← List.append_assoc, HL.out]; simp [stepT, Hm0.out, Hr0.out]
                  refine ⟨m + 1, L ++ [flashI k], by omega, by go_num, ?_, ?_, hsG2, hneG2, (hbw.alloc hbw.size _).grown hg2 (le_alloc hbw.size _) fun g hg => (hov.lt g hg).1⟩
                  · exact e0.symm
                  · simpa [List.flatMap_append] using ho2
                case measure => simp [intOf]; omega
              · have hr1 : (0 : Int) < (r : Int) := by omega
                go_wp2_with (first | ((at_builtin; refine wpl_append _ rfl (.tmp 79) (.tmp 82) _ rfl (w0.heap.size) 2 p0 _ 1 8 Tryz.underlying28 hp hy0 hy1 hy2 rfl (by omega) _ (_) _ rfl ((hov).alloc _) ((wr).heap.size + 1) (some ⟨(wr).heap.size, 0, none⟩) 1 1 (intC (gapI k + 20)) rfl (Sl.new (wr) 2 _ 1 1 rfl) (intC_one _) E63.out E32.out (le_alloc hbw.size _) ?_; intro v2 w2 ho2 hg2 hat2); have hb2 : Below w0.heap.size w0 w2 := (hbw.alloc hbw.size _).grown hg2 (le_alloc hbw.size _) fun g hg => (hov.lt g hg).1; have hz2 := hb2.size; obtain ⟨hsG2, hneG2⟩ := hsG.beside hg2 hat2 hneG hnp) | (at_builtin; refine wpl_append _ rfl (.tmp 84) (.tmp 86) _ rfl (w0.heap.size) 2 p0 _ 1 8 Tryz.underlying28 hp hy0 hy1 hy2 rfl (by omega) _ (_) _ rfl ((ho2).alloc _) ((w2).heap.size + 1) (some ⟨(w2).heap.size, 0, none⟩) 1 1 (intC (flashI k)) rfl (Sl.new (w2) 2 _ 1 1 rfl) (intC_one _) E63b.out E32b.out (le_alloc hz2 _) ?_; intro v3 w3 ho3 hg3 hat3))
                go_roundw
                case rel =>
                  obtain ⟨hsG3, hneG3⟩ := hsG2.beside hg3 hat3 hneG2 hnp
                  have e0 : outerT k G r ++ innerT k r (m + 1) = L ++ [gapI k + 20] ++ [flashI k] := by
                    rw [Hin.out, ← List.append_assoc, HL.out]; simp [stepT, Hm0.out, hr0]
                  refine ⟨m + 1, L ++ [gapI k + 20] ++ [flashI k], by omega, by go_num, e0.symm, ?_, hsG3, hneG3, (hb2.alloc hb2.size _).grown hg3 (le_alloc hb2.size _) fun g hg => (ho2.lt g hg).1⟩
                  simpa [List.flatMap_append, Nat.add_assoc] using ho3
                case measure => simp [intOf]; omega
            · have hm1 : (0 : Int) < (m : Int) := by omega
              go_wp2_with (first | ((at_builtin; refine wpl_append _ rfl (.tmp 72) (.tmp 74) _ rfl (w0.heap.size) 2 p0 _ 1 8 Tryz.underlying28 hp hy0 hy1 hy2 rfl (by omega) _ (_) _ rfl ((hov).alloc _) ((wr).heap.size + 1) (some ⟨(wr).heap.size, 0, none⟩) 1 1 (intC (gapI k)) rfl (Sl.new (wr) 2 _ 1 1 rfl) (intC_one _) E63.out E32.out (le_alloc hbw.size _) ?_; intro v2 w2 ho2 hg2 hat2); have hb2 : Below w0.heap.size w0 w2 := (hbw.alloc hbw.size _).grown hg2 (le_alloc hbw.size _) fun g hg => (hov.lt g hg).1; have hz2 := hb2.size; obtain ⟨hsG2, hneG2⟩ := hsG.beside hg2 hat2 hneG hnp) | (at_builtin; refine wpl_append _ rfl (.tmp 84) (.tmp 86) _ rfl (w0.heap.size) 2 p0 _ 1 8 Tryz.underlying28 hp hy0 hy1 hy2 rfl (by omega) _ (_) _ rfl ((ho2).alloc _) ((w2).heap.size + 1) (some ⟨(w2).heap.size, 0, none⟩) 1 1 (intC (flashI k)) rfl (Sl.new (w2) 2 _ 1 1 rfl) (intC_one _) E63b.out E32b.out (le_alloc hz2 _) ?_; intro v3 w3 ho3 hg3 hat3))
              go_roundw
              case rel =>
                obtain ⟨hsG3, hneG3⟩ := hsG2.beside hg3 hat3 hneG2 hnp
                have e0 : outerT k G r ++ innerT k r (m + 1) = L ++ [gapI k] ++ [flashI k] := by
                  rw [Hin.out, ← List.append_assoc, HL.out]; simp [stepT, hm0]
                refine ⟨m + 1, L ++ [gapI k] ++ [flashI k], by omega, by go_num, e0.symm, ?_, hsG3, hneG3, (hb2.alloc hb2.size _).grown hg3 (le_alloc hb2.size _) fun g hg => (ho2.lt g hg).1⟩
                simpa [List.flatMap_append, Nat.add_assoc] using ho3
              case measure => simp [intOf]; omega
          · obtain rfl : m = M := by omega
            have HL := Lib.hid hL; clear hL
            go_wp2
            go_roundw
            case rel =>
              refine ⟨r + 1, L, by omega, by go_num, ?_, hov, hsG, hneG, hbw⟩
              rw [Hon.out, Int.toNat_natCast]; exact HL.out
            case measure => simp [intOf]; omega
      · obtain rfl : r = N1 := by omega
        have q1 := keepC hbw w.heap.size hbs
        have hol := outerT_len k hG9 G.length (Nat.le_refl _)
        rw [HGl.out, ← HL0.out] at hol
        cases hLE : l.toList.isEmpty
        · have hLL : isL l = true := by rcases HLE.out with h | h; exact h; rw [isE, hLE] at h; exact absurd h (by simp)
          have hn4 : r ≤ 4 := by rw [← HGl.out]; exact hG4
          have e63 : L0.length + 2 ≤ maxLen := by unfold maxLen; omega
          have e32 : (L0.length + 2) * 8 ≤ 140737488355328 := by omega
          have E63 := Lib.hid e63; clear e63
          have E32 := Lib.hid e32; clear e32
          have HLL := Lib.hid hLL; clear hLL
          go_wp2_with (at_builtin; refine wpl_append _ rfl (.tmp 93) (.tmp 95) _ rfl w0.heap.size 2 p0 _ 1 8 Tryz.underlying28 hp hy0 hy1 hy2 rfl (by omega) _ _ _ rfl (hov.alloc _) (wr.heap.size + 1) (some ⟨wr.heap.size, 0, none⟩) 2 2 [.int .i64 (gapI k), .int .i64 20] rfl (Sl.new wr 2 _ 2 1 rfl) (by simp [Value.oneCell']) E63.out E32.out (le_alloc hbw.size _) ?_; intro v2 w2 ho2 hg2 hat2)
          go_ret
          refine ⟨_, rfl, own_base (base := w0.heap.size) ?_ (by omega), hb00.trans (((hbw.alloc hbw.size _).grown hg2 (le_alloc hbw.size _) fun g hg => (hov.lt g hg).1).mono (by omega))⟩
          have hT : timesL ⟨k, gs, l, cs, p⟩ = L0 ++ [gapI k, 20] := by rw [Htl.out, HGl.out, ← HL0.out, HLL.out]; simp
          rw [hT]
          simpa [List.flatMap_append, intC] using ho2
        · have hLL : isL l = false := by
            have : l.toList = [] := by simpa using hLE
            rw [isL, this]; rfl
          have HLL := Lib.hid hLL; clear hLL
          go_wp2
          go_ret
          refine ⟨_, rfl, own_base (base := w0.heap.size) ?_ (by omega), hb00.trans (hbw.mono (by omega))⟩
          have hT : timesL ⟨k, gs, l, cs, p⟩ = L0 := by rw [Htl.out, HGl.out, ← HL0.out, HLL.out]; simp
          rw [hT]
          exact hov
  · have hGg : gs = G := by rw [← hGe, grp, if_neg]; simp only; intro e; rw [e] at hlen; simp at hlen; omega
    have hGg' := hGg.symm
    subst hGg'
    have hGl : G.length = n := hlen
    have hbw : Below w0.heap.size w0 (w0.alloc (.cells #[] 2)) := by (repeat (first | (with_reducible assumption) | (with_reducible exact Below.refl _ _) | exact Nat.le_refl _ | exact Below.size (by with_reducible assumption) | (with_reducible refine Below.drew ?_) | (with_reducible refine below_drewN ?_ _) | (with_reducible refine Below.alloc ?_ ?_ _) | (with_reducible refine Below.setCell ?_ ?_ _) | (with_reducible refine le_alloc ?_ _) | (with_reducible refine le_set ?_ _ _) | (with_reducible refine le_drew ?_) | (with_reducible refine le_drewN ?_ _) | omega | (dsimp only; omega)))
    have hov : (w0.alloc (.cells #[] 2)).ownsRow w0.heap.size 2 1 (.slice (some ⟨w0.heap.size, 0, none⟩) 0 0) 0 (([] : List Int).flatMap intC) := World.ownsRow_made w0 #[] 0 (Nat.le_refl _) (by simp [maxLen]) rfl
    have hsG := sl0.next hbw
    have hneG : ∀ b off, A = some ⟨b, off, none⟩ → (Value.slice (some ⟨w0.heap.size, 0, none⟩) 0 0).ownBlock ≠ some b := by
      intro b1 off1 e
      obtain ⟨b2, off2, e2, hb2, _⟩ := sl0.2 h0
      rw [e] at e2; injection e2 with e2; injection e2 with e3 _ _
      subst e3
      simp [Value.ownBlock]; omega
    have hnz : ((n : Int) == 0) = false := by simp; omega
    clear hlen
    have HGe := Lib.hid hGe; clear hGe
    have HGl := Lib.hid hGl; clear hGl
    go_wp2
    go_loopw [10, 60] (fun v i wr => ∃ (r : Nat) (L0 : List Int), r ≤ n ∧ i = .int .i64 r ∧ L0 = outerT k G r ∧ wr.ownsRow w0.heap.size 2 1 v L0.length (L0.flatMap intC) ∧ Sl wr wr.heap.size 1 A n (G.flatMap intC) ∧ (∀ b off, A = some ⟨b, off, none⟩ → v.ownBlock ≠ some b) ∧ Below w0.heap.size w0 wr) (fun _ i _ => n - (intOf i).toNat)
    case atStart => exact ⟨0, [], Nat.zero_le _, rfl, rfl, hov, hsG, hneG, hbw⟩
    case round =>
      clear hov hsG hneG hbw
      obtain ⟨r, L0, hr, rfl, hL0, hov, hsG, hneG, hbw⟩ := hrel
      have HL0 := Lib.hid hL0; clear hL0
      obtain ⟨A1, c1', rfl⟩ := own_slice hov
      by_cases hlt : r < n
      · obtain ⟨bg, offg, xg, rfl, hbg, hxg, cx⟩ := hsG.int r hlt
        have hx9 := hG9 xg (List.mem_of_getElem? hxg)
        obtain ⟨M, rfl⟩ : ∃ M : Nat, xg = M := ⟨xg.toNat, by omega⟩
        have hon := outerT_next k hxg
        have hol := outerT_len k hG9 r (by rw [HGl.out]; omega)
        have hn4 : n ≤ 4 := by rw [← HGl.out]; exact hG4
        have hr4 : r ≤ 4 := by omega
        have Hxg := Lib.hid hxg; clear hxg
        have Hon := Lib.hid hon; clear hon
        go_wp2
        obtain ⟨wo, rfl⟩ : ∃ wo : World, wo = wr := ⟨_, rfl⟩
        go_loopw [10, 66] (fun v i wr => ∃ (m : Nat) (L : List Int), m ≤ M ∧ i = .int .i64 m ∧ L = outerT k G r ++ innerT k r m ∧ wr.ownsRow w0.heap.size 2 1 v L.length (L.flatMap intC) ∧ Sl wr wr.heap.size 1 (some ⟨bg, offg, none⟩) n (G.flatMap intC) ∧ (∀ b off, some (⟨bg, offg, none⟩ : Addr) = some ⟨b, off, none⟩ → v.ownBlock ≠ some b) ∧ Below w0.heap.size w0 wr) (fun _ i _ => M - (intOf i).toNat)
        case atStart => exact ⟨0, L0, Nat.zero_le _, rfl, by rw [HL0.out]; simp [innerT], hov, hsG, hneG, hbw⟩
        case round =>
          clear hov hsG hneG hbw
          obtain ⟨m, L, hm, rfl, hL, hov, hsG, hneG, hbw⟩ := hrel
          obtain ⟨A2, c2', rfl⟩ := own_slice hov
          by_cases hlt2 : m < M
          · have hin := innerT_next k r m
            have hil := innerT_len k r m
            have hlen : L.length ≤ 1000 := by rw [hL, List.length_append]; omega
            have hnp : 0 < n := by omega
            replace hL := hL.symm
            have e63 : L.length + 1 ≤ maxLen := by unfold maxLen; omega
            have e32 : (L.length + 1) * 8 ≤ 140737488355328 := by omega
            have e63b : L.length + 1 + 1 ≤ maxLen := by unfold maxLen; omega
            have e32b : (L.length + 1 + 1) * 8 ≤ 140737488355328 := by omega
            have HL := Lib.hid hL; clear hL
            have Hin := Lib.hid hin; clear hin
            have E63 := Lib.hid e63; clear e63
            have E32 := Lib.hid e32; clear e32
            have E63b := Lib.hid e63b; clear e63b
            have E32b := Lib.hid e32b; clear e32b
            rcases Nat.eq_zero_or_pos m with hm0 | hm0
            · have hmn : ¬ (0 : Int) < (m : Int) := by omega
              have Hm0 := Lib.hid hm0; clear hm0
              rcases Nat.eq_zero_or_pos r with hr0 | hr0
              · have hrn : ¬ (0 : Int) < (r : Int) := by omega
                have Hr0 := Lib.hid hr0; clear hr0
                go_wp2_with (at_builtin; refine wpl_append _ rfl (.tmp 84) (.tmp 86) _ rfl (w0.heap.size) 2 p0 _ 1 8 Tryz.underlying28 hp hy0 hy1 hy2 rfl (by omega) _ (_) _ rfl ((hov).alloc _) ((wr).heap.size + 1) (some ⟨(wr).heap.size, 0, none⟩) 1 1 (intC (flashI k)) rfl (Sl.new (wr) 2 _ 1 1 rfl) (intC_one _) E63.out E32.out (le_alloc hbw.size _) ?_; intro v2 w2 ho2 hg2 hat2)
                go_roundw
                case rel =>
                  obtain ⟨hsG2, hneG2⟩ := hsG.beside hg2 hat2 hneG hnp
                  have e0 : outerT k G r ++ innerT k r (m + 1) = L ++ [flashI k] := by
                    rw [Hin.out, ← List.append_assoc, HL.out]; simp [stepT, Hm0.out, Hr0.out]
                  refine ⟨m + 1, L ++ [flashI k], by omega, by go_num, ?_, ?_, hsG2, hneG2, (hbw.alloc hbw.size _).grown hg2 (le_alloc hbw.size _) fun g hg => (hov.lt g hg).1⟩
                  · exact e0.symm
                  · simpa [List.flatMap_append] using ho2
                case measure => simp [intOf]; omega
              · have hr1 : (0 : Int) < (r : Int) := by omega
                go_wp2_with (first | ((at_builtin; refine wpl_append _ rfl (.tmp 79) (.tmp 82) _ rfl (w0.heap.size) 2 p0 _ 1 8 Tryz.underlying28 hp hy0 hy1 hy2 rfl (by omega) _ (_) _ rfl ((hov).alloc _) ((wr).heap.size + 1) (some ⟨(wr).heap.size, 0, none⟩) 1 1 (intC (gapI k + 20)) rfl (Sl.new (wr) 2 _ 1 1 rfl) (intC_one _) E63.out E32.out (le_alloc hbw.size _) ?_; intro v2 w2 ho2 hg2 hat2); have hb2 : Below w0.heap.size w0 w2 := (hbw.alloc hbw.size _).grown hg2 (le_alloc hbw.size _) fun g hg => (hov.lt g hg).1; have hz2 := hb2.size; obtain ⟨hsG2, hneG2⟩ := hsG.beside hg2 hat2 hneG hnp) | (at_builtin; refine wpl_append _ rfl (.tmp 84) (.tmp 86) _ rfl (w0.heap.size) 2 p0 _ 1 8 Tryz.underlying28 hp hy0 hy1 hy2 rfl (by omega) _ (_) _ rfl ((ho2).alloc _) ((w2).heap.size + 1) (some ⟨(w2).heap.size, 0, none⟩) 1 1 (intC (flashI k)) rfl (Sl.new (w2) 2 _ 1 1 rfl) (intC_one _) E63b.out E32b.out (le_alloc hz2 _) ?_; intro v3 w3 ho3 hg3 hat3))
                go_roundw
                case rel =>
                  obtain ⟨hsG3, hneG3⟩ := hsG2.beside hg3 hat3 hneG2 hnp
                  have e0 : outerT k G r ++ innerT k r (m + 1) = L ++ [gapI k + 20] ++ [flashI k] := by
                    rw [Hin.out, ← List.append_assoc, HL.out]; simp [stepT, Hm0.out, hr0]
                  refine ⟨m + 1, L ++ [gapI k + 20] ++ [flashI k], by omega, by go_num, e0.symm, ?_, hsG3, hneG3, (hb2.alloc hb2.size _).grown hg3 (le_alloc hb2.size _) fun g hg => (ho2.lt g hg).1⟩
                  simpa [List.flatMap_append, Nat.add_assoc] using ho3
                case measure => simp [intOf]; omega
            · have hm1 : (0 : Int) < (m : Int) := by omega
              go_wp2_with (first | ((at_builtin; refine wpl_append _ rfl (.tmp 72) (.tmp 74) _ rfl (w0.heap.size) 2 p0 _ 1 8 Tryz.underlying28 hp hy0 hy1 hy2 rfl (by omega) _ (_) _ rfl ((hov).alloc _) ((wr).heap.size + 1) (some ⟨(wr).heap.size, 0, none⟩) 1 1 (intC (gapI k)) rfl (Sl.new (wr) 2 _ 1 1 rfl) (intC_one _) E63.out E32.out (le_alloc hbw.size _) ?_; intro v2 w2 ho2 hg2 hat2); have hb2 : Below w0.heap.size w0 w2 := (hbw.alloc hbw.size _).grown hg2 (le_alloc hbw.size _) fun g hg => (hov.lt g hg).1; have hz2 := hb2.size; obtain ⟨hsG2, hneG2⟩ := hsG.beside hg2 hat2 hneG hnp) | (at_builtin; refine wpl_append _ rfl (.tmp 84) (.tmp 86) _ rfl (w0.heap.size) 2 p0 _ 1 8 Tryz.underlying28 hp hy0 hy1 hy2 rfl (by omega) _ (_) _ rfl ((ho2).alloc _) ((w2).heap.size + 1) (some ⟨(w2).heap.size, 0, none⟩) 1 1 (intC (flashI k)) rfl (Sl.new (w2) 2 _ 1 1 rfl) (intC_one _) E63b.out E32b.out (le_alloc hz2 _) ?_; intro v3 w3 ho3 hg3 hat3))
              go_roundw
              case rel =>
                obtain ⟨hsG3, hneG3⟩ := hsG2.beside hg3 hat3 hneG2 hnp
                have e0 : outerT k G r ++ innerT k r (m + 1) = L ++ [gapI k] ++ [flashI k] := by
                  rw [Hin.out, ← List.append_assoc, HL.out]; simp [stepT, hm0]
                refine ⟨m + 1, L ++ [gapI k] ++ [flashI k], by omega, by go_num, e0.symm, ?_, hsG3, hneG3, (hb2.alloc hb2.size _).grown hg3 (le_alloc hb2.size _) fun g hg => (ho2.lt g hg).1⟩
                simpa [List.flatMap_append, Nat.add_assoc] using ho3
              case measure => simp [intOf]; omega
          · obtain rfl : m = M := by omega
            have HL := Lib.hid hL; clear hL
            go_wp2
            go_roundw
            case rel =>
              refine ⟨r + 1, L, by omega, by go_num, ?_, hov, hsG, hneG, hbw⟩
              rw [Hon.out, Int.toNat_natCast]; exact HL.out
            case measure => simp [intOf]; omega
      · obtain rfl : r = n := by omega
        have q1 := keepC hbw w.heap.size hbs
        have hol := outerT_len k hG9 G.length (Nat.le_refl _)
        rw [HGl.out, ← HL0.out] at hol
        cases hLE : l.toList.isEmpty
        · have hLL : isL l = true := by rcases HLE.out with h | h; exact h; rw [isE, hLE] at h; exact absurd h (by simp)
          have hn4 : r ≤ 4 := by rw [← HGl.out]; exact hG4
          have e63 : L0.length + 2 ≤ maxLen := by unfold maxLen; omega
          have e32 : (L0.length + 2) * 8 ≤ 140737488355328 := by omega
          have E63 := Lib.hid e63; clear e63
          have E32 := Lib.hid e32; clear e32
          have HLL := Lib.hid hLL; clear hLL
          go_wp2_with (at_builtin; refine wpl_append _ rfl (.tmp 93) (.tmp 95) _ rfl w0.heap.size 2 p0 _ 1 8 Tryz.underlying28 hp hy0 hy1 hy2 rfl (by omega) _ _ _ rfl (hov.alloc _) (wr.heap.size + 1) (some ⟨wr.heap.size, 0, none⟩) 2 2 [.int .i64 (gapI k), .int .i64 20] rfl (Sl.new wr 2 _ 2 1 rfl) (by simp [Value.oneCell']) E63.out E32.out (le_alloc hbw.size _) ?_; intro v2 w2 ho2 hg2 hat2)
          go_ret
          refine ⟨_, rfl, own_base (base := w0.heap.size) ?_ (by omega), hb00.trans (((hbw.alloc hbw.size _).grown hg2 (le_alloc hbw.size _) fun g hg => (hov.lt g hg).1).mono (by omega))⟩
          have hT : timesL ⟨k, G, l, cs, p⟩ = L0 ++ [gapI k, 20] := by rw [Htl.out, HGl.out, ← HL0.out, HLL.out]; simp
          rw [hT]
          simpa [List.flatMap_append, intC] using ho2
        · have hLL : isL l = false := by
            have : l.toList = [] := by simpa using hLE
            rw [isL, this]; rfl
          have HLL := Lib.hid hLL; clear hLL
          go_wp2
          go_ret
          refine ⟨_, rfl, own_base (base := w0.heap.size) ?_ (by omega), hb00.trans (hbw.mono (by omega))⟩
          have hT : timesL ⟨k, G, l, cs, p⟩ = L0 := by rw [Htl.out, HGl.out, ← HL0.out, HLL.out]; simp
          rw [hT]
          exact hov
end Go.Proofs.YtgibbhipjpbdfaaGreat
