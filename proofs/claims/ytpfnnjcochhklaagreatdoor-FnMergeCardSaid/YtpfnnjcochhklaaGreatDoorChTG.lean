/- ChTG: several of my texts in one. -/
import Derived.Test.YtpfnnjcochhklaaGreatDoorChSG
import Derived.Test.YtpfnnjcochhklaaGreatDoorMorse
import Derived.Test.YtpfnnjcochhklaaGreatDoorBase2

/- The times of a character: the reference. -/
namespace Go.Proofs.YtpfnnjcochhklaaGreatDoor
open Go.RowKit
def mT (s : ByteArray) (m : Nat) : List Int := (List.range m).flatMap fun i => (if 0 < i then [5] else []) ++ [signI s i]
theorem mT_next (s : ByteArray) (m : Nat) : mT s (m + 1) = mT s m ++ ((if 0 < m then [5] else []) ++ [signI s m]) := by simp [mT, List.range_succ]
theorem mT_len (s : ByteArray) (m : Nat) : (mT s m).length ≤ 2 * m := by
  induction m with
  | zero => simp [mT]
  | succ m ih => rw [mT_next, List.length_append]; split <;> simp <;> omega
def grp (c : Ch) : List Int := if c.gs = [] then [1] else c.gs
def letN (c : Ch) : Nat := (bt c.l 0 - 65).toNat
def timesL (c : Ch) : List Int :=
  if c.k = 8 then mT (morse (letN c)) (morse (letN c)).size else outerT c.k (grp c) (grp c).length ++ (if isL c.l = true then [gapI c.k, 20] else [])
/-- What a character must be so that its times are asked for. -/
structure TOk (c : Ch) : Prop where
  mo : c.k = 8 → c.l.size = 1 ∧ 65 ≤ bt c.l 0 ∧ bt c.l 0 ≤ 90
  gr : c.k ≠ 8 → c.gs.length ≤ 4 ∧ (∀ x ∈ c.gs, 1 ≤ x ∧ x ≤ 9) ∧ (isL c.l = true ∨ isE c.l = true)
set_option maxRecDepth 100000 in
set_option maxHeartbeats 1000000 in
theorem l05TimesM_c (b off : Nat) (A : Option Addr) (n c : Nat) (x : Ch) (w : World) (h : ChP w b off A n c x) (hk8 : x.k = 8) (ht : TOk x) :
    Calls Tryz.prog 121 #[.pointer (some ⟨b, off, none⟩)] w fun e w' => ∃ v, e = .returned v ∧ w'.ownsRow w.heap.size 2 1 v (timesL x).length ((timesL x).flatMap intC) ∧ Below w.heap.size w w' := by
  obtain ⟨p0, hp, hy0, hy1, hy2⟩ := info_parts intInfo
  obtain ⟨hl1, hlo, hhi⟩ := ht.mo hk8
  have htl : timesL x = mT (morse (letN x)) (morse (letN x)).size := by rw [timesL, if_pos hk8]
  have hlt26 : letN x < 26 := by unfold letN; omega
  have hms := morse_size (letN x) hlt26
  obtain ⟨j, hj⟩ : ∃ j, letN x = j := ⟨_, rfl⟩
  rw [hj] at htl hms hlt26
  have hl0 : 0 < x.l.size := by omega
  have hb0 := bt_eq x.l 0 hl0
  have hlv : ((x.l[0]'hl0).toNat : Int) = 65 + (j : Int) := by rw [← hb0, ← hj]; unfold letN; omega
  rw [htl]
  obtain ⟨k, gs, l, cs, p⟩ := x
  simp only at hk8 hl1 hlv
  subst hk8
  obtain ⟨c0, c1, c2, c3, c4, hb, sl, hn, hlz, hs⟩ := h
  simp only at c0 c1 c2 c3 c4 sl hlz hs
  have hz : (0 : Int) < (l.size : Int) := by omega
  have hbw0 : Below w.heap.size w (w.alloc (.cells #[] 2)) := by (repeat (first | (with_reducible assumption) | (with_reducible exact Below.refl _ _) | exact Nat.le_refl _ | exact Below.size (by with_reducible assumption) | (with_reducible refine Below.drew ?_) | (with_reducible refine below_drewN ?_ _) | (with_reducible refine Below.alloc ?_ ?_ _) | (with_reducible refine Below.setCell ?_ ?_ _) | (with_reducible refine le_alloc ?_ _) | (with_reducible refine le_set ?_ _ _) | (with_reducible refine le_drew ?_) | (with_reducible refine le_drewN ?_ _) | omega | (dsimp only; omega)))
  have hov : (w.alloc (.cells #[] 2)).ownsRow w.heap.size 2 1 (.slice (some ⟨w.heap.size, 0, none⟩) 0 0) 0 (([] : List Int).flatMap intC) := World.ownsRow_made w #[] 0 (Nat.le_refl _) (by simp [maxLen]) rfl
  have Hb0 := Lib.hid hb0; clear hb0
  have Hl1 := Lib.hid hl1; clear hl1
  have Htl := Lib.hid htl; clear htl
  have Hj := Lib.hid hj; clear hj
  obtain ⟨s, hs0⟩ : ∃ s, morse j = s := ⟨_, rfl⟩
  rw [hs0] at hms ⊢
  have Hs0 := Lib.hid hs0; clear hs0
  go_enter Tryz.func121, Tryz.ntmps121
  go_wp2_with fail
  refine (l05Morse_c j _ hlt26).mono ?_
  rintro e w1 ⟨vS, rfl, hoS, hb1⟩
  rw [Hs0.out] at hoS
  obtain ⟨AS, cS, rfl⟩ := own_slice hoS
  obtain ⟨gS, rfl, hgS, hgS2⟩ := own_form hoS (by omega)
  replace hov := own_next hov hb1
  have hbw1 := hbw0.trans (hb1.mono (by simp))
  have hne : (Value.slice (some ⟨w.heap.size, 0, none⟩) 0 0).ownBlock ≠ some gS := by simp [Value.ownBlock]; simp at hgS; omega
  clear hbw0 hb1 hlv
  go_wp2
  go_loopw [3, 5] (fun v i wr => ∃ k : Nat, k ≤ s.size ∧ i = .int .i64 k ∧ wr.ownsRow w.heap.size 2 1 v (mT s k).length ((mT s k).flatMap intC) ∧ wr.ownsRow (w.alloc (.cells #[] 2)).heap.size 2 1 (.slice (some ⟨gS, 0, none⟩) s.size cS) s.size ((signsL s s.size).flatMap intC) ∧ v.ownBlock ≠ some gS ∧ Below w.heap.size w wr) (fun _ i _ => s.size - (intOf i).toNat)
  case atStart => exact ⟨0, Nat.zero_le _, rfl, hov, hoS, hne, hbw1⟩
  case round =>
    clear hov hoS hne hbw1
    obtain ⟨k, hk, rfl, hov, hoS, hne, hbw⟩ := hrel
    obtain ⟨A1, c1', rfl⟩ := own_slice hov
    by_cases hlt : k < s.size
    · obtain ⟨sg, hsg, cS1⟩ := own_int hoS k hlt
      have hgl : gS < wr.heap.size := (hoS.lt gS rfl).2
      have hsgv : sg = signI s k := by simp [signsL, hlt] at hsg; exact hsg.symm
      have hml := mT_len s k
      have hnx := mT_next s k
      have e63 : (mT s k).length + 1 ≤ maxLen := by unfold maxLen; omega
      have e32 : ((mT s k).length + 1) * 8 ≤ 140737488355328 := by omega
      have e63b : (mT s k).length + 1 + 1 ≤ maxLen := by unfold maxLen; omega
      have e32b : ((mT s k).length + 1 + 1) * 8 ≤ 140737488355328 := by omega
      have Hsgv := Lib.hid hsgv; clear hsgv
      have Hnx := Lib.hid hnx; clear hnx
      have E63 := Lib.hid e63; clear e63
      have E32 := Lib.hid e32; clear e32
      have E63b := Lib.hid e63b; clear e63b
      have E32b := Lib.hid e32b; clear e32b
      rcases Nat.eq_zero_or_pos k with h0 | h0
      · subst h0
        go_wp2_with (at_builtin; refine wpl_append _ rfl (.tmp 32) (.tmp 37) _ rfl (w.heap.size) 2 p0 _ 1 8 Tryz.underlying30 hp hy0 hy1 hy2 rfl (by omega) _ (_) _ rfl ((hov).alloc _) ((wr).heap.size + 1) (some ⟨(wr).heap.size, 0, none⟩) 1 1 (intC (sg)) rfl (Sl.new (wr) 2 _ 1 1 rfl) (intC_one _) E63.out E32.out (le_alloc (hbw).size _) ?_; intro v2 w2 ho2 hg2 hat2)
        go_roundw
        case rel =>
          have hoS2 := own_grown (hoS.alloc _) hg2 (.inr (Ne.symm hne))
          refine ⟨1, by omega, by go_num, ?_, hoS2, other_next hat2 hne (by simp; omega), ?_⟩
          · rw [Hnx.out, ← Hsgv.out]; simpa [List.flatMap_append] using ho2
          · exact (hbw.alloc hbw.size _).grown hg2 (le_alloc hbw.size _) fun g hg => (hov.lt g hg).1
        case measure => simp [intOf]; omega
      · have h02 : (0 : Int) < (k : Int) := by omega
        go_wp2_with (first | ((at_builtin; refine wpl_append _ rfl (.tmp 29) (.tmp 30) _ rfl (w.heap.size) 2 p0 _ 1 8 Tryz.underlying30 hp hy0 hy1 hy2 rfl (by omega) _ (_) _ rfl ((hov).alloc _) ((wr).heap.size + 1) (some ⟨(wr).heap.size, 0, none⟩) 1 1 (intC (5)) rfl (Sl.new (wr) 2 _ 1 1 rfl) (intC_one _) E63.out E32.out (le_alloc hbw.size _) ?_; intro v2 w2 ho2 hg2 hat2); have cS2 := hg2.cell ((World.cell?_alloc_lt wr _ ⟨gS, k, none⟩ hgl).trans cS1) (Ne.symm hne); have hz2 : w.heap.size ≤ w2.heap.size := Nat.le_trans hbw.size (Nat.le_trans (le_alloc (Nat.le_refl _) _) hg2.size); have hgl2 : gS < w2.heap.size := Nat.lt_of_lt_of_le hgl (Nat.le_trans (le_alloc (Nat.le_refl _) _) hg2.size)) | (at_builtin; refine wpl_append _ rfl (.tmp 32) (.tmp 37) _ rfl (w.heap.size) 2 p0 _ 1 8 Tryz.underlying30 hp hy0 hy1 hy2 rfl (by omega) _ (_) _ rfl ((ho2).alloc _) ((w2).heap.size + 1) (some ⟨(w2).heap.size, 0, none⟩) 1 1 (intC (sg)) rfl (Sl.new (w2) 2 _ 1 1 rfl) (intC_one _) E63b.out E32b.out (le_alloc hz2 _) ?_; intro v3 w3 ho3 hg3 hat3))
        go_roundw
        case rel =>
          have hne2 := other_next hat2 hne (Nat.lt_of_lt_of_le hgl (le_alloc (Nat.le_refl _) _))
          have hoS2 := own_grown (hoS.alloc _) hg2 (.inr (Ne.symm hne))
          have hoS3 := own_grown (hoS2.alloc _) hg3 (.inr (Ne.symm hne2))
          have hb2 : Below w.heap.size w w2 := (hbw.alloc hbw.size _).grown hg2 (le_alloc hbw.size _) fun g hg => (hov.lt g hg).1
          refine ⟨k + 1, by omega, by go_num, ?_, hoS3, other_next hat3 hne2 (Nat.lt_of_lt_of_le hgl2 (le_alloc (Nat.le_refl _) _)), ?_⟩
          · rw [Hnx.out, ← Hsgv.out, if_pos h0]
            simpa [List.flatMap_append, Nat.add_assoc] using ho3
          · exact (hb2.alloc hb2.size _).grown hg3 (le_alloc hb2.size _) fun g hg => (ho2.lt g hg).1
        case measure => simp [intOf]; omega
    · go_wp2
      go_ret
      obtain rfl : k = s.size := by omega
      exact ⟨_, rfl, hov, hbw⟩

theorem gapI_bd (k : Int) : 0 ≤ gapI k ∧ gapI k ≤ 20 := by unfold gapI; (repeat' split) <;> omega
theorem grp_ok {x : Ch} (hk : x.k ≠ 8) (ht : TOk x) : 1 ≤ (grp x).length ∧ (grp x).length ≤ 4 ∧ ∀ y ∈ grp x, 1 ≤ y ∧ y ≤ 9 := by
  obtain ⟨h1, h2, _⟩ := ht.gr hk
  unfold grp
  split
  · simp
  · rename_i hne
    refine ⟨?_, h1, h2⟩
    cases hg : x.gs with
    | nil => exact absurd hg hne
    | cons a l => simp
set_option maxRecDepth 100000 in
set_option maxHeartbeats 2000000 in
theorem l05TimesG_c (b off : Nat) (A : Option Addr) (n c : Nat) (x : Ch) (w : World) (h : ChP w b off A n c x) (hk8 : x.k ≠ 8) (ht : TOk x) :
    Calls Tryz.prog 121 #[.pointer (some ⟨b, off, none⟩)] w fun e w' => ∃ v, e = .returned v ∧ w'.ownsRow w.heap.size 2 1 v (timesL x).length ((timesL x).flatMap intC) ∧ Below w.heap.size w w' := by
  obtain ⟨p0, hp, hy0, hy1, hy2⟩ := info_parts intInfo
  have htl : timesL x = outerT x.k (grp x) (grp x).length ++ (if isL x.l = true then [gapI x.k, 20] else []) := by rw [timesL, if_neg hk8]
  obtain ⟨hG1, hG4, hG9⟩ := grp_ok hk8 ht
  have hlen := h.len
  have hke : (x.k == 8) = false := by simpa using hk8
  have hgap := gapI_bd x.k
  obtain ⟨k, gs, l, cs, p⟩ := x
  obtain ⟨c0, c1, c2, c3, c4, hb, sl, hn, hlz, hs⟩ := h
  simp only at c0 c1 c2 c3 c4 sl hlz hs hke hgap
  obtain ⟨G, hGe⟩ : ∃ G, grp ⟨k, gs, l, cs, p⟩ = G := ⟨_, rfl⟩
  rw [hGe] at hG1 hG4 hG9 htl
  have Htl := Lib.hid htl; clear htl
  clear ht hk8
  have hbw0 : Below w.heap.size w (w.alloc (.cells #[] 2)) := by (repeat (first | (with_reducible assumption) | (with_reducible exact Below.refl _ _) | exact Nat.le_refl _ | exact Below.size (by with_reducible assumption) | (with_reducible refine Below.drew ?_) | (with_reducible refine below_drewN ?_ _) | (with_reducible refine Below.alloc ?_ ?_ _) | (with_reducible refine Below.setCell ?_ ?_ _) | (with_reducible refine le_alloc ?_ _) | (with_reducible refine le_set ?_ _ _) | (with_reducible refine le_drew ?_) | (with_reducible refine le_drewN ?_ _) | omega | (dsimp only; omega)))
  have hov : (w.alloc (.cells #[] 2)).ownsRow w.heap.size 2 1 (.slice (some ⟨w.heap.size, 0, none⟩) 0 0) 0 (([] : List Int).flatMap intC) := World.ownsRow_made w #[] 0 (Nat.le_refl _) (by simp [maxLen]) rfl
  rcases Nat.eq_zero_or_pos n with h0 | h0
  · subst h0
    have hgs : gs = [] := List.eq_nil_of_length_eq_zero hlen
    have hGg : G = [1] := by rw [← hGe, grp, if_pos hgs]
    have hGl : G.length = 1 := by rw [hGg]; rfl
    have hbw : Below w.heap.size w ((w.alloc (.cells #[] 2)).alloc (.cells #[.int .i64 1] 2)) := by (repeat (first | (with_reducible assumption) | (with_reducible exact Below.refl _ _) | exact Nat.le_refl _ | exact Below.size (by with_reducible assumption) | (with_reducible refine Below.drew ?_) | (with_reducible refine below_drewN ?_ _) | (with_reducible refine Below.alloc ?_ ?_ _) | (with_reducible refine Below.setCell ?_ ?_ _) | (with_reducible refine le_alloc ?_ _) | (with_reducible refine le_set ?_ _ _) | (with_reducible refine le_drew ?_) | (with_reducible refine le_drewN ?_ _) | omega | (dsimp only; omega)))
    replace hov := hov.alloc (.cells #[.int .i64 1] 2)
    have hsG : Sl ((w.alloc (.cells #[] 2)).alloc (.cells #[.int .i64 1] 2)) ((w.alloc (.cells #[] 2)).alloc (.cells #[.int .i64 1] 2)).heap.size 1 (some ⟨w.heap.size + 1, 0, none⟩) 1 (G.flatMap intC) := by
      rw [hGg]
      have := Sl.new (w.alloc (.cells #[] 2)) 2 [.int .i64 1] 1 1 rfl
      simpa [intC] using this
    have hneG : ∀ b off, (some ⟨w.heap.size + 1, 0, none⟩ : Option Addr) = some ⟨b, off, none⟩ → (Value.slice (some ⟨w.heap.size, 0, none⟩) 0 0).ownBlock ≠ some b := by
      intro b1 off1 e
      injection e with e; injection e with e3 _ _
      subst e3
      simp [Value.ownBlock]
    have hnz : (((0 : Nat) : Int) == 0) = true := by simp
    obtain ⟨u1, u2⟩ := hgap
    clear hGe hgs hlen hbw0
    have HGg := Lib.hid hGg; clear hGg
    go_enter Tryz.func121, Tryz.ntmps121
    go_wp2
    generalize hV : Value.slice (some ⟨w.heap.size + 1, 0, none⟩) 1 1 = V
    obtain ⟨AG, N1, hV', hAG, hN1⟩ : ∃ AG N1, V = .slice AG N1 N1 ∧ AG = some ⟨w.heap.size + 1, 0, none⟩ ∧ N1 = 1 := ⟨_, 1, hV.symm, rfl, rfl⟩
    clear hV
    subst hV'
    rw [← hAG] at hsG
    rw [← hAG] at hneG
    replace hGl : G.length = N1 := by rw [hN1]; exact hGl
    replace hsG : Sl ((w.alloc (.cells #[] 2)).alloc (.cells #[.int .i64 1] 2)) ((w.alloc (.cells #[] 2)).alloc (.cells #[.int .i64 1] 2)).heap.size 1 AG N1 (G.flatMap intC) := by rw [hN1]; exact hsG
    clear hAG hN1
    have HGl := Lib.hid hGl; clear hGl
    generalize (w.alloc (.cells #[] 2)).alloc (.cells #[.int .i64 1] 2) = w0 at *
    go_loopw [3, 7, 8] (fun v i _ wr => ∃ (r : Nat) (L0 : List Int), r ≤ N1 ∧ i = .int .i64 r ∧ L0 = outerT k G r ∧ wr.ownsRow w.heap.size 2 1 v L0.length (L0.flatMap intC) ∧ Sl wr wr.heap.size 1 AG N1 (G.flatMap intC) ∧ (∀ b off, AG = some ⟨b, off, none⟩ → v.ownBlock ≠ some b) ∧ Below w.heap.size w wr) (fun _ i _ _ => N1 - (intOf i).toNat)
    case atStart => exact ⟨0, [], Nat.zero_le _, rfl, rfl, hov, hsG, hneG, hbw⟩
    case round =>
      clear hov hsG hneG hbw
      obtain ⟨r, L0, hr, rfl, hL0, hov, hsG, hneG, hbw⟩ := hrel
      have HL0 := Lib.hid hL0; clear hL0
      obtain ⟨A1, c1', rfl⟩ := own_slice hov
      by_cases hlt : r < N1
      · obtain ⟨bg, offg, xg, rfl, hbg, hxg, _⟩ := hsG.int r hlt
        have hx9 := hG9 xg (List.mem_of_getElem? hxg)
        obtain ⟨M, rfl⟩ : ∃ M : Nat, xg = M := ⟨xg.toNat, by omega⟩
        have hon := outerT_next k hxg
        have hol := outerT_len k hG9 r (by rw [HGl.out]; omega)
        have hn4 : N1 ≤ 4 := by rw [← HGl.out]; exact hG4
        have hr4 : r ≤ 4 := by omega
        have Hxg := Lib.hid hxg; clear hxg
        have Hon := Lib.hid hon; clear hon
        go_wp2
        obtain ⟨wo, rfl⟩ : ∃ wo : World, wo = wr := ⟨_, rfl⟩
        go_loopw [3, 8] (fun v i wr => ∃ (m : Nat) (L : List Int), m ≤ M ∧ i = .int .i64 m ∧ L = outerT k G r ++ innerT k r m ∧ wr.ownsRow w.heap.size 2 1 v L.length (L.flatMap intC) ∧ Sl wr wr.heap.size 1 (some ⟨bg, offg, none⟩) N1 (G.flatMap intC) ∧ (∀ b off, some (⟨bg, offg, none⟩ : Addr) = some ⟨b, off, none⟩ → v.ownBlock ≠ some b) ∧ Below w.heap.size w wr) (fun _ i _ => M - (intOf i).toNat)
        case atStart => exact ⟨0, L0, Nat.zero_le _, rfl, by rw [HL0.out]; simp [innerT], hov, hsG, hneG, hbw⟩
        case round =>
          clear hov hsG hneG hbw
          obtain ⟨m, L, hm, rfl, hL, hov, hsG, hneG, hbw⟩ := hrel
          obtain ⟨A2, c2', rfl⟩ := own_slice hov
          have cg := hsG.int_at Hxg.out
          have q1 := keepC hbw b hb
          by_cases hlt2 : m < M
          · have hin := innerT_next k r m
            have hil := innerT_len k r m
            have hlen : L.length ≤ 1000 := by rw [hL, List.length_append]; omega
            have hnp : 0 < N1 := by omega
            replace hL := hL.symm
            have e63 : L.length + 1 ≤ maxLen := by unfold maxLen; omega
            have e32 : (L.length + 1) * 8 ≤ 140737488355328 := by omega
            have e63b : L.length + 1 + 1 ≤ maxLen := by unfold maxLen; omega
            have e32b : (L.length + 1 + 1) * 8 ≤ 140737488355328 := by omega
            have HL := Lib.hid hL; clear hL
            have Hin := Lib.hid hin; clear hin
            have E63 := Lib.hid e63; clear e63
            have E32 := Lib.hid e32; clear e32
            have E63b := Lib.hid e63b; clear e63b
            have E32b := Lib.hid e32b; clear e32b
            rcases Nat.eq_zero_or_pos m with hm0 | hm0
            · have hmn : ¬ (0 : Int) < (m : Int) := by omega
              have Hm0 := Lib.hid hm0; clear hm0
              rcases Nat.eq_zero_or_pos r with hr0 | hr0
              · have hrn : ¬ (0 : Int) < (r : Int) := by omega
                have Hr0 := Lib.hid hr0; clear hr0
                go_wp2_with (first | (go_at_call 140; refine (l05Gap_c _ _).mono ?_; rintro e w9 ⟨rfl, rfl⟩) | (go_at_call 141; refine (l05Flash_c _ _).mono ?_; rintro e w9 ⟨rfl, rfl⟩) | (at_builtin; refine wpl_append _ rfl (.tmp 83) (.tmp 89) _ rfl (w.heap.size) 2 p0 _ 1 8 Tryz.underlying30 hp hy0 hy1 hy2 rfl (by omega) _ (_) _ rfl ((hov).alloc _) ((wr).heap.size + 1) (some ⟨(wr).heap.size, 0, none⟩) 1 1 (intC (flashI k)) rfl (Sl.new (wr) 2 _ 1 1 rfl) (intC_one _) E63.out E32.out (le_alloc hbw.size _) ?_; intro v2 w2 ho2 hg2 hat2))
                go_roundw
                case rel =>
                  obtain ⟨hsG2, hneG2⟩ := hsG.beside hg2 hat2 hneG hnp
                  have e0 : outerT k G r ++ innerT k r (m + 1) = L ++ [flashI k] := by
                    rw [Hin.out, ← List.append_assoc, HL.out]; simp [stepT, Hm0.out, Hr0.out]
                  refine ⟨m + 1, L ++ [flashI k], by omega, by go_num, ?_, ?_, hsG2, hneG2, (hbw.alloc hbw.size _).grown hg2 (le_alloc hbw.size _) fun g hg => (hov.lt g hg).1⟩
                  · exact e0.symm
                  · simpa [List.flatMap_append] using ho2
                case measure => simp [intOf]; omega
              · have hr1 : (0 : Int) < (r : Int) := by omega
                go_wp2_with (first | (go_at_call 140; refine (l05Gap_c _ _).mono ?_; rintro e w9 ⟨rfl, rfl⟩) | (go_at_call 141; refine (l05Flash_c _ _).mono ?_; rintro e w9 ⟨rfl, rfl⟩) | ((at_builtin; refine wpl_append _ rfl (.tmp 74) (.tmp 81) _ rfl (w.heap.size) 2 p0 _ 1 8 Tryz.underlying30 hp hy0 hy1 hy2 rfl (by omega) _ (_) _ rfl ((hov).alloc _) ((wr).heap.size + 1) (some ⟨(wr).heap.size, 0, none⟩) 1 1 (intC (gapI k + 20)) rfl (Sl.new (wr) 2 _ 1 1 rfl) (intC_one _) E63.out E32.out (le_alloc hbw.size _) ?_; intro v2 w2 ho2 hg2 hat2); have hb2 : Below w.heap.size w w2 := (hbw.alloc hbw.size _).grown hg2 (le_alloc hbw.size _) fun g hg => (hov.lt g hg).1; have q2 := keepC hb2 b hb; have hz2 := hb2.size; obtain ⟨hsG2, hneG2⟩ := hsG.beside hg2 hat2 hneG hnp) | (at_builtin; refine wpl_append _ rfl (.tmp 83) (.tmp 89) _ rfl (w.heap.size) 2 p0 _ 1 8 Tryz.underlying30 hp hy0 hy1 hy2 rfl (by omega) _ (_) _ rfl ((ho2).alloc _) ((w2).heap.size + 1) (some ⟨(w2).heap.size, 0, none⟩) 1 1 (intC (flashI k)) rfl (Sl.new (w2) 2 _ 1 1 rfl) (intC_one _) E63b.out E32b.out (le_alloc hz2 _) ?_; intro v3 w3 ho3 hg3 hat3))
                go_roundw
                case rel =>
                  obtain ⟨hsG3, hneG3⟩ := hsG2.beside hg3 hat3 hneG2 hnp
                  have e0 : outerT k G r ++ innerT k r (m + 1) = L ++ [gapI k + 20] ++ [flashI k] := by
                    rw [Hin.out, ← List.append_assoc, HL.out]; simp [stepT, Hm0.out, hr0]
                  refine ⟨m + 1, L ++ [gapI k + 20] ++ [flashI k], by omega, by go_num, e0.symm, ?_, hsG3, hneG3, (hb2.alloc hb2.size _).grown hg3 (le_alloc hb2.size _) fun g hg => (ho2.lt g hg).1⟩
                  simpa [List.flatMap_append, Nat.add_assoc] using ho3
                case measure => simp [intOf]; omega
            · have hm1 : (0 : Int) < (m : Int) := by omega
              go_wp2_with (first | (go_at_call 140; refine (l05Gap_c _ _).mono ?_; rintro e w9 ⟨rfl, rfl⟩) | (go_at_call 141; refine (l05Flash_c _ _).mono ?_; rintro e w9 ⟨rfl, rfl⟩) | ((at_builtin; refine wpl_append _ rfl (.tmp 64) (.tmp 70) _ rfl (w.heap.size) 2 p0 _ 1 8 Tryz.underlying30 hp hy0 hy1 hy2 rfl (by omega) _ (_) _ rfl ((hov).alloc _) ((wr).heap.size + 1) (some ⟨(wr).heap.size, 0, none⟩) 1 1 (intC (gapI k)) rfl (Sl.new (wr) 2 _ 1 1 rfl) (intC_one _) E63.out E32.out (le_alloc hbw.size _) ?_; intro v2 w2 ho2 hg2 hat2); have hb2 : Below w.heap.size w w2 := (hbw.alloc hbw.size _).grown hg2 (le_alloc hbw.size _) fun g hg => (hov.lt g hg).1; have q2 := keepC hb2 b hb; have hz2 := hb2.size; obtain ⟨hsG2, hneG2⟩ := hsG.beside hg2 hat2 hneG hnp) | (at_builtin; refine wpl_append _ rfl (.tmp 83) (.tmp 89) _ rfl (w.heap.size) 2 p0 _ 1 8 Tryz.underlying30 hp hy0 hy1 hy2 rfl (by omega) _ (_) _ rfl ((ho2).alloc _) ((w2).heap.size + 1) (some ⟨(w2).heap.size, 0, none⟩) 1 1 (intC (flashI k)) rfl (Sl.new (w2) 2 _ 1 1 rfl) (intC_one _) E63b.out E32b.out (le_alloc hz2 _) ?_; intro v3 w3 ho3 hg3 hat3))
              go_roundw
              case rel =>
                obtain ⟨hsG3, hneG3⟩ := hsG2.beside hg3 hat3 hneG2 hnp
                have e0 : outerT k G r ++ innerT k r (m + 1) = L ++ [gapI k] ++ [flashI k] := by
                  rw [Hin.out, ← List.append_assoc, HL.out]; simp [stepT, hm0]
                refine ⟨m + 1, L ++ [gapI k] ++ [flashI k], by omega, by go_num, e0.symm, ?_, hsG3, hneG3, (hb2.alloc hb2.size _).grown hg3 (le_alloc hb2.size _) fun g hg => (ho2.lt g hg).1⟩
                simpa [List.flatMap_append, Nat.add_assoc] using ho3
              case measure => simp [intOf]; omega
          · obtain rfl : m = M := by omega
            have HL := Lib.hid hL; clear hL
            go_wp2
            go_roundw
            case rel =>
              refine ⟨r + 1, L, by omega, by go_num, ?_, hov, hsG, hneG, hbw⟩
              rw [Hon.out, Int.toNat_natCast]; exact HL.out
            case measure => simp [intOf]; omega
      · obtain rfl : r = N1 := by omega
        have q1 := keepC hbw b hb
        have hol := outerT_len k hG9 G.length (Nat.le_refl _)
        rw [HGl.out, ← HL0.out] at hol
        cases hLL : (l.toList == [76])
        · go_wp2
          go_ret
          refine ⟨_, rfl, ?_, hbw⟩
          have hT : timesL ⟨k, gs, l, cs, p⟩ = L0 := by rw [Htl.out, HGl.out, ← HL0.out, show isL l = false from hLL]; simp
          rw [hT]
          exact hov
        · have hn4 : r ≤ 4 := by rw [← HGl.out]; exact hG4
          have e63 : L0.length + 2 ≤ maxLen := by unfold maxLen; omega
          have e32 : (L0.length + 2) * 8 ≤ 140737488355328 := by omega
          have E63 := Lib.hid e63; clear e63
          have E32 := Lib.hid e32; clear e32
          go_wp2_with (first | (go_at_call 140; refine (l05Gap_c _ _).mono ?_; rintro e w9 ⟨rfl, rfl⟩) | (go_at_call 141; refine (l05Flash_c _ _).mono ?_; rintro e w9 ⟨rfl, rfl⟩) | (at_builtin; refine wpl_append _ rfl (.tmp 96) (.tmp 102) _ rfl w.heap.size 2 p0 _ 1 8 Tryz.underlying30 hp hy0 hy1 hy2 rfl (by omega) _ _ _ rfl (hov.alloc _) (wr.heap.size + 1) (some ⟨wr.heap.size, 0, none⟩) 2 2 [.int .i64 (gapI k), .int .i64 20] rfl (Sl.new wr 2 _ 2 1 rfl) (by simp [Value.oneCell']) E63.out E32.out (le_alloc hbw.size _) ?_; intro v2 w2 ho2 hg2 hat2))
          go_ret
          refine ⟨_, rfl, ?_, (hbw.alloc hbw.size _).grown hg2 (le_alloc hbw.size _) fun g hg => (hov.lt g hg).1⟩
          have hT : timesL ⟨k, gs, l, cs, p⟩ = L0 ++ [gapI k, 20] := by rw [Htl.out, HGl.out, ← HL0.out, show isL l = true from hLL]; simp
          rw [hT]
          simpa [List.flatMap_append, intC] using ho2
  · have hGg : gs = G := by rw [← hGe, grp, if_neg]; simp only at hlen ⊢; intro e; rw [e] at hlen; simp at hlen; omega
    have hGg' := hGg.symm
    subst hGg'
    have hGl : G.length = n := hlen
    have hsG := sl.next hbw0
    have hneG : ∀ b off, A = some ⟨b, off, none⟩ → (Value.slice (some ⟨w.heap.size, 0, none⟩) 0 0).ownBlock ≠ some b := by
      intro b1 off1 e
      obtain ⟨b2, off2, e2, hb2, _⟩ := sl.2 h0
      rw [e] at e2; injection e2 with e2; injection e2 with e3 _ _
      subst e3
      simp [Value.ownBlock]; omega
    have hnz : ((n : Int) == 0) = false := by simp; omega
    have hbw := hbw0
    clear hbw0 hlen
    have HGe := Lib.hid hGe; clear hGe
    have HGl := Lib.hid hGl; clear hGl
    obtain ⟨u1, u2⟩ := hgap
    go_enter Tryz.func121, Tryz.ntmps121
    go_wp2
    go_loopw [3, 7, 8] (fun v i _ wr => ∃ (r : Nat) (L0 : List Int), r ≤ n ∧ i = .int .i64 r ∧ L0 = outerT k G r ∧ wr.ownsRow w.heap.size 2 1 v L0.length (L0.flatMap intC) ∧ Sl wr wr.heap.size 1 A n (G.flatMap intC) ∧ (∀ b off, A = some ⟨b, off, none⟩ → v.ownBlock ≠ some b) ∧ Below w.heap.size w wr) (fun _ i _ _ => n - (intOf i).toNat)
    case atStart => exact ⟨0, [], Nat.zero_le _, rfl, rfl, hov, hsG, hneG, hbw⟩
    case round =>
      clear hov hsG hneG hbw
      obtain ⟨r, L0, hr, rfl, hL0, hov, hsG, hneG, hbw⟩ := hrel
      have HL0 := Lib.hid hL0; clear hL0
      obtain ⟨A1, c1', rfl⟩ := own_slice hov
      by_cases hlt : r < n
      · obtain ⟨bg, offg, xg, rfl, hbg, hxg, _⟩ := hsG.int r hlt
        have hx9 := hG9 xg (List.mem_of_getElem? hxg)
        obtain ⟨M, rfl⟩ : ∃ M : Nat, xg = M := ⟨xg.toNat, by omega⟩
        have hon := outerT_next k hxg
        have hol := outerT_len k hG9 r (by rw [HGl.out]; omega)
        have hn4 : n ≤ 4 := by rw [← HGl.out]; exact hG4
        have hr4 : r ≤ 4 := by omega
        have Hxg := Lib.hid hxg; clear hxg
        have Hon := Lib.hid hon; clear hon
        go_wp2
        obtain ⟨wo, rfl⟩ : ∃ wo : World, wo = wr := ⟨_, rfl⟩
        go_loopw [3, 8] (fun v i wr => ∃ (m : Nat) (L : List Int), m ≤ M ∧ i = .int .i64 m ∧ L = outerT k G r ++ innerT k r m ∧ wr.ownsRow w.heap.size 2 1 v L.length (L.flatMap intC) ∧ Sl wr wr.heap.size 1 (some ⟨bg, offg, none⟩) n (G.flatMap intC) ∧ (∀ b off, some (⟨bg, offg, none⟩ : Addr) = some ⟨b, off, none⟩ → v.ownBlock ≠ some b) ∧ Below w.heap.size w wr) (fun _ i _ => M - (intOf i).toNat)
        case atStart => exact ⟨0, L0, Nat.zero_le _, rfl, by rw [HL0.out]; simp [innerT], hov, hsG, hneG, hbw⟩
        case round =>
          clear hov hsG hneG hbw
          obtain ⟨m, L, hm, rfl, hL, hov, hsG, hneG, hbw⟩ := hrel
          obtain ⟨A2, c2', rfl⟩ := own_slice hov
          have cg := hsG.int_at Hxg.out
          have q1 := keepC hbw b hb
          by_cases hlt2 : m < M
          · have hin := innerT_next k r m
            have hil := innerT_len k r m
            have hlen : L.length ≤ 1000 := by rw [hL, List.length_append]; omega
            have hnp : 0 < n := by omega
            replace hL := hL.symm
            have e63 : L.length + 1 ≤ maxLen := by unfold maxLen; omega
            have e32 : (L.length + 1) * 8 ≤ 140737488355328 := by omega
            have e63b : L.length + 1 + 1 ≤ maxLen := by unfold maxLen; omega
            have e32b : (L.length + 1 + 1) * 8 ≤ 140737488355328 := by omega
            have HL := Lib.hid hL; clear hL
            have Hin := Lib.hid hin; clear hin
            have E63 := Lib.hid e63; clear e63
            have E32 := Lib.hid e32; clear e32
            have E63b := Lib.hid e63b; clear e63b
            have E32b := Lib.hid e32b; clear e32b
            rcases Nat.eq_zero_or_pos m with hm0 | hm0
            · have hmn : ¬ (0 : Int) < (m : Int) := by omega
              have Hm0 := Lib.hid hm0; clear hm0
              rcases Nat.eq_zero_or_pos r with hr0 | hr0
              · have hrn : ¬ (0 : Int) < (r : Int) := by omega
                have Hr0 := Lib.hid hr0; clear hr0
                go_wp2_with (first | (go_at_call 140; refine (l05Gap_c _ _).mono ?_; rintro e w9 ⟨rfl, rfl⟩) | (go_at_call 141; refine (l05Flash_c _ _).mono ?_; rintro e w9 ⟨rfl, rfl⟩) | (at_builtin; refine wpl_append _ rfl (.tmp 83) (.tmp 89) _ rfl (w.heap.size) 2 p0 _ 1 8 Tryz.underlying30 hp hy0 hy1 hy2 rfl (by omega) _ (_) _ rfl ((hov).alloc _) ((wr).heap.size + 1) (some ⟨(wr).heap.size, 0, none⟩) 1 1 (intC (flashI k)) rfl (Sl.new (wr) 2 _ 1 1 rfl) (intC_one _) E63.out E32.out (le_alloc hbw.size _) ?_; intro v2 w2 ho2 hg2 hat2))
                go_roundw
                case rel =>
                  obtain ⟨hsG2, hneG2⟩ := hsG.beside hg2 hat2 hneG hnp
                  have e0 : outerT k G r ++ innerT k r (m + 1) = L ++ [flashI k] := by
                    rw [Hin.out, ← List.append_assoc, HL.out]; simp [stepT, Hm0.out, Hr0.out]
                  refine ⟨m + 1, L ++ [flashI k], by omega, by go_num, ?_, ?_, hsG2, hneG2, (hbw.alloc hbw.size _).grown hg2 (le_alloc hbw.size _) fun g hg => (hov.lt g hg).1⟩
                  · exact e0.symm
                  · simpa [List.flatMap_append] using ho2
                case measure => simp [intOf]; omega
              · have hr1 : (0 : Int) < (r : Int) := by omega
                go_wp2_with (first | (go_at_call 140; refine (l05Gap_c _ _).mono ?_; rintro e w9 ⟨rfl, rfl⟩) | (go_at_call 141; refine (l05Flash_c _ _).mono ?_; rintro e w9 ⟨rfl, rfl⟩) | ((at_builtin; refine wpl_append _ rfl (.tmp 74) (.tmp 81) _ rfl (w.heap.size) 2 p0 _ 1 8 Tryz.underlying30 hp hy0 hy1 hy2 rfl (by omega) _ (_) _ rfl ((hov).alloc _) ((wr).heap.size + 1) (some ⟨(wr).heap.size, 0, none⟩) 1 1 (intC (gapI k + 20)) rfl (Sl.new (wr) 2 _ 1 1 rfl) (intC_one _) E63.out E32.out (le_alloc hbw.size _) ?_; intro v2 w2 ho2 hg2 hat2); have hb2 : Below w.heap.size w w2 := (hbw.alloc hbw.size _).grown hg2 (le_alloc hbw.size _) fun g hg => (hov.lt g hg).1; have q2 := keepC hb2 b hb; have hz2 := hb2.size; obtain ⟨hsG2, hneG2⟩ := hsG.beside hg2 hat2 hneG hnp) | (at_builtin; refine wpl_append _ rfl (.tmp 83) (.tmp 89) _ rfl (w.heap.size) 2 p0 _ 1 8 Tryz.underlying30 hp hy0 hy1 hy2 rfl (by omega) _ (_) _ rfl ((ho2).alloc _) ((w2).heap.size + 1) (some ⟨(w2).heap.size, 0, none⟩) 1 1 (intC (flashI k)) rfl (Sl.new (w2) 2 _ 1 1 rfl) (intC_one _) E63b.out E32b.out (le_alloc hz2 _) ?_; intro v3 w3 ho3 hg3 hat3))
                go_roundw
                case rel =>
                  obtain ⟨hsG3, hneG3⟩ := hsG2.beside hg3 hat3 hneG2 hnp
                  have e0 : outerT k G r ++ innerT k r (m + 1) = L ++ [gapI k + 20] ++ [flashI k] := by
                    rw [Hin.out, ← List.append_assoc, HL.out]; simp [stepT, Hm0.out, hr0]
                  refine ⟨m + 1, L ++ [gapI k + 20] ++ [flashI k], by omega, by go_num, e0.symm, ?_, hsG3, hneG3, (hb2.alloc hb2.size _).grown hg3 (le_alloc hb2.size _) fun g hg => (ho2.lt g hg).1⟩
                  simpa [List.flatMap_append, Nat.add_assoc] using ho3
                case measure => simp [intOf]; omega
            · have hm1 : (0 : Int) < (m : Int) := by omega
              go_wp2_with (first | (go_at_call 140; refine (l05Gap_c _ _).mono ?_; rintro e w9 ⟨rfl, rfl⟩) | (go_at_call 141; refine (l05Flash_c _ _).mono ?_; rintro e w9 ⟨rfl, rfl⟩) | ((at_builtin; refine wpl_append _ rfl (.tmp 64) (.tmp 70) _ rfl (w.heap.size) 2 p0 _ 1 8 Tryz.underlying30 hp hy0 hy1 hy2 rfl (by omega) _ (_) _ rfl ((hov).alloc _) ((wr).heap.size + 1) (some ⟨(wr).heap.size, 0, none⟩) 1 1 (intC (gapI k)) rfl (Sl.new (wr) 2 _ 1 1 rfl) (intC_one _) E63.out E32.out (le_alloc hbw.size _) ?_; intro v2 w2 ho2 hg2 hat2); have hb2 : Below w.heap.size w w2 := (hbw.alloc hbw.size _).grown hg2 (le_alloc hbw.size _) fun g hg => (hov.lt g hg).1; have q2 := keepC hb2 b hb; have hz2 := hb2.size; obtain ⟨hsG2, hneG2⟩ := hsG.beside hg2 hat2 hneG hnp) | (at_builtin; refine wpl_append _ rfl (.tmp 83) (.tmp 89) _ rfl (w.heap.size) 2 p0 _ 1 8 Tryz.underlying30 hp hy0 hy1 hy2 rfl (by omega) _ (_) _ rfl ((ho2).alloc _) ((w2).heap.size + 1) (some ⟨(w2).heap.size, 0, none⟩) 1 1 (intC (flashI k)) rfl (Sl.new (w2) 2 _ 1 1 rfl) (intC_one _) E63b.out E32b.out (le_alloc hz2 _) ?_; intro v3 w3 ho3 hg3 hat3))
              go_roundw
              case rel =>
                obtain ⟨hsG3, hneG3⟩ := hsG2.beside hg3 hat3 hneG2 hnp
                have e0 : outerT k G r ++ innerT k r (m + 1) = L ++ [gapI k] ++ [flashI k] := by
                  rw [Hin.out, ← List.append_assoc, HL.out]; simp [stepT, hm0]
                refine ⟨m + 1, L ++ [gapI k] ++ [flashI k], by omega, by go_num, e0.symm, ?_, hsG3, hneG3, (hb2.alloc hb2.size _).grown hg3 (le_alloc hb2.size _) fun g hg => (ho2.lt g hg).1⟩
                simpa [List.flatMap_append, Nat.add_assoc] using ho3
              case measure => simp [intOf]; omega
          · obtain rfl : m = M := by omega
            have HL := Lib.hid hL; clear hL
            go_wp2
            go_roundw
            case rel =>
              refine ⟨r + 1, L, by omega, by go_num, ?_, hov, hsG, hneG, hbw⟩
              rw [Hon.out, Int.toNat_natCast]; exact HL.out
            case measure => simp [intOf]; omega
      · obtain rfl : r = n := by omega
        have q1 := keepC hbw b hb
        have hol := outerT_len k hG9 G.length (Nat.le_refl _)
        rw [HGl.out, ← HL0.out] at hol
        cases hLL : (l.toList == [76])
        · go_wp2
          go_ret
          refine ⟨_, rfl, ?_, hbw⟩
          have hT : timesL ⟨k, G, l, cs, p⟩ = L0 := by rw [Htl.out, HGl.out, ← HL0.out, show isL l = false from hLL]; simp
          rw [hT]
          exact hov
        · have hn4 : r ≤ 4 := by rw [← HGl.out]; exact hG4
          have e63 : L0.length + 2 ≤ maxLen := by unfold maxLen; omega
          have e32 : (L0.length + 2) * 8 ≤ 140737488355328 := by omega
          have E63 := Lib.hid e63; clear e63
          have E32 := Lib.hid e32; clear e32
          go_wp2_with (first | (go_at_call 140; refine (l05Gap_c _ _).mono ?_; rintro e w9 ⟨rfl, rfl⟩) | (go_at_call 141; refine (l05Flash_c _ _).mono ?_; rintro e w9 ⟨rfl, rfl⟩) | (at_builtin; refine wpl_append _ rfl (.tmp 96) (.tmp 102) _ rfl w.heap.size 2 p0 _ 1 8 Tryz.underlying30 hp hy0 hy1 hy2 rfl (by omega) _ _ _ rfl (hov.alloc _) (wr.heap.size + 1) (some ⟨wr.heap.size, 0, none⟩) 2 2 [.int .i64 (gapI k), .int .i64 20] rfl (Sl.new wr 2 _ 2 1 rfl) (by simp [Value.oneCell']) E63.out E32.out (le_alloc hbw.size _) ?_; intro v2 w2 ho2 hg2 hat2))
          go_ret
          refine ⟨_, rfl, ?_, (hbw.alloc hbw.size _).grown hg2 (le_alloc hbw.size _) fun g hg => (hov.lt g hg).1⟩
          have hT : timesL ⟨k, G, l, cs, p⟩ = L0 ++ [gapI k, 20] := by rw [Htl.out, HGl.out, ← HL0.out, show isL l = true from hLL]; simp
          rw [hT]
          simpa [List.flatMap_append, intC] using ho2
end Go.Proofs.YtpfnnjcochhklaaGreatDoor

/- Characters: the reference's least period. -/
namespace Go.Proofs.YtpfnnjcochhklaaGreatDoor
open Go.RowKit
theorem shape_TOk {c : Ch} (h : shapeB c = true) : TOk c := by
  simp only [shapeB, Bool.and_eq_true] at h
  have hf := h.2
  have hgood : ∀ {gs : List Int}, groupB gs = true → gs.length ≤ 4 ∧ ∀ x ∈ gs, 1 ≤ x ∧ x ≤ 9 := fun {gs} hg => by
    simp only [groupB, Bool.and_eq_true, decide_eq_true_eq] at hg
    exact ⟨hg.2.1, good_mem (allB_iff.1 hg.1)⟩
  unfold fitsB at hf
  refine ⟨fun h8 => ?_, fun h8 => ?_⟩
  · rw [if_neg (by omega), if_neg (by omega), if_neg (by omega), if_pos h8] at hf
    simp only [letterB, Bool.and_eq_true, decide_eq_true_eq] at hf
    omega
  · split at hf
    · simp only [Bool.and_eq_true, decide_eq_true_eq] at hf
      rw [hf.1]
      exact ⟨by simp, by simp, .inr hf.2⟩
    split at hf
    · simp only [Bool.and_eq_true] at hf
      exact ⟨(hgood hf.2).1, (hgood hf.2).2, .inr hf.1⟩
    split at hf
    · split at hf
      · rename_i hL
        simp only [decide_eq_true_eq] at hf
        rw [hf]
        exact ⟨by simp, by simp, .inl hL⟩
      · simp only [Bool.and_eq_true] at hf
        exact ⟨(hgood hf.2.2).1, (hgood hf.2.2).2, .inr hf.1⟩
    simp at hf
theorem flashI_bd (k : Int) : 2 ≤ flashI k ∧ flashI k ≤ 20 := by unfold flashI; (repeat' split) <;> omega
theorem times_bd {c : Ch} (ht : TOk c) : (timesL c).length ≤ 100 ∧ ∀ y ∈ timesL c, 0 ≤ y ∧ y ≤ 40 := by
  have hg := gapI_bd c.k
  have hf := flashI_bd c.k
  unfold timesL
  split
  · rename_i h8
    obtain ⟨h1, h2, h3⟩ := ht.mo h8
    have hms := morse_size (letN c) (by unfold letN; omega)
    have := mT_len (morse (letN c)) (morse (letN c)).size
    refine ⟨by omega, fun y hy => ?_⟩
    simp only [mT, List.mem_flatMap, List.mem_range] at hy
    obtain ⟨i, _, hy⟩ := hy
    rcases List.mem_append.1 hy with h | h
    · split at h <;> simp at h; omega
    · simp only [List.mem_singleton] at h; subst h; unfold signI; split <;> omega
  · rename_i h8
    obtain ⟨g1, g4, g9⟩ := grp_ok h8 ht
    have hol := outerT_len c.k g9 (grp c).length (Nat.le_refl _)
    refine ⟨?_, fun y hy => ?_⟩
    · rw [List.length_append]; split <;> simp <;> omega
    · rcases List.mem_append.1 hy with h | h
      · simp only [outerT, innerT, List.mem_flatMap] at h
        obtain ⟨i, _, j, _, h⟩ := h
        unfold stepT at h
        rcases List.mem_append.1 h with h | h
        · split at h
          · simp at h; omega
          · split at h <;> simp at h; omega
        · simp at h; omega
      · split at h <;> simp at h
        rcases h with h | h <;> omega
def restI (c : Ch) : Int := if c.k = 6 then 20 else if c.k = 7 then 10 else if c.k = 8 then 30 else gapI c.k + 5 + (if 1 < c.gs.length then 20 else 0)
def leastI (c : Ch) : Int := if steadyB c = true then 0 else if c.k = 3 then 20 else (timesL c).sum + restI c
theorem restI_bd (c : Ch) : 0 ≤ restI c ∧ restI c ≤ 100 := by
  have := gapI_bd c.k
  unfold restI
  (repeat' split) <;> omega
set_option maxRecDepth 100000 in
set_option maxHeartbeats 400000 in
theorem l05Rest_c (b off : Nat) (A : Option Addr) (n c : Nat) (x : Ch) (w : World) (h : ChP w b off A n c x) :
    Calls Tryz.prog 122 #[.pointer (some ⟨b, off, none⟩)] w fun e w' => e = .returned (.int .i64 (restI x)) ∧ w = w' := by
  have hl := h.len
  obtain ⟨c0, c1, c2, c3, c4, hb, sl, hn, hlz, hs⟩ := h
  obtain ⟨u1, u2⟩ := gapI_bd x.k
  have Hl := Lib.hid hl; clear hl
  go_enter Tryz.func122, Tryz.ntmps122
  go_wp2_with (go_at_call 140; refine (l05Gap_c _ _).mono ?_; rintro e w9 ⟨rfl, rfl⟩)
  all_goals
    go_ret
    refine ⟨ret_eq (int_eq ?_), rfl⟩
    have hl := Hl.out
    simp_all [restI]
    try omega
set_option maxRecDepth 100000 in
set_option maxHeartbeats 400000 in
theorem l05Least_c (b off : Nat) (A : Option Addr) (n c : Nat) (x : Ch) (w : World) (h : ChP w b off A n c x) (hsh : shapeB x = true) :
    Calls Tryz.prog 101 #[.pointer (some ⟨b, off, none⟩)] w fun e w' => e = .returned (.int .i64 (leastI x)) ∧ Below w.heap.size w w' := by
  have ht := shape_TOk hsh
  obtain ⟨b1, b2⟩ := times_bd ht
  have hsa := sum_abs (gs := timesL x) fun y hy => by have := b2 y hy; omega
  obtain ⟨r1, r2⟩ := restI_bd x
  cases hst : steadyB x
  · by_cases hk3 : x.k = 3
    · go_enter Tryz.func101, Tryz.ntmps101
      have c0 := h.c0
      have hk3' : (x.k == 3) = true := by simpa using hk3
      have hfin : leastI x = 20 := by rw [leastI, if_neg (by rw [hst]; simp), if_pos hk3]
      have Hfin := Lib.hid hfin; clear hfin
      clear hk3
      go_wp2_with (go_at_call 102; refine (l05Steady_c b off A n c x _ h).mono ?_; rintro e w1 ⟨rfl, rfl⟩)
      go_ret
      exact ⟨ret_eq (int_eq Hfin.out.symm), Below.refl _ _⟩
    · have c0 := h.c0
      have hk3' : (x.k == 3) = false := by simpa using hk3
      have hfin : leastI x = (timesL x).sum + restI x := by rw [leastI, if_neg (by rw [hst]; simp), if_neg hk3]
      have hT : Calls Tryz.prog 121 #[.pointer (some ⟨b, off, none⟩)] w fun e w' => ∃ v, e = .returned v ∧ w'.ownsRow w.heap.size 2 1 v (timesL x).length ((timesL x).flatMap intC) ∧ Below w.heap.size w w' := by
        by_cases h8 : x.k = 8
        · exact l05TimesM_c b off A n c x w h h8 ht
        · exact l05TimesG_c b off A n c x w h h8 ht
      have Hfin := Lib.hid hfin; clear hfin
      have HT := Lib.hid hT; clear hT
      obtain ⟨s1, s2⟩ := hsa
      clear hk3
      go_enter Tryz.func101, Tryz.ntmps101
      go_wp2_with (go_at_call 102; refine (l05Steady_c b off A n c x _ h).mono ?_; rintro e w1 ⟨rfl, rfl⟩)
      refine HT.out.mono ?_
      rintro e w1 ⟨v, rfl, ho, hb1⟩
      obtain ⟨A1, c1, rfl⟩ := own_slice ho
      have h2 := h.next hb1
      go_wp2_with fail
      refine (l05Total_c A1 _ c1 (timesL x) _ (Sl.of_own ho) (by omega) (fun y hy => by have := b2 y hy; omega)).mono ?_
      rintro e w2 ⟨rfl, rfl⟩
      go_wp2_with fail
      refine (l05Rest_c b off A n c x _ h2).mono ?_
      rintro e w2 ⟨rfl, rfl⟩
      go_wp2_with fail
      go_ret
      exact ⟨ret_eq (int_eq Hfin.out.symm), hb1⟩
  · have c0 := h.c0
    have hfin : leastI x = 0 := by rw [leastI, if_pos hst]
    have Hfin := Lib.hid hfin; clear hfin
    go_enter Tryz.func101, Tryz.ntmps101
    go_wp2_with (go_at_call 102; refine (l05Steady_c b off A n c x _ h).mono ?_; rintro e w1 ⟨rfl, rfl⟩)
    go_ret
    exact ⟨ret_eq (int_eq Hfin.out.symm), Below.refl _ _⟩
theorem chp_box {w : World} {A : Option Addr} {n c : Nat} {x : Ch} (E : TypeId) (sl : Sl w w.heap.size 1 A n (x.gs.flatMap intC)) (hn : n ≤ 1048576) (hl : x.l.size ≤ 1048576) (hs : x.cs.size ≤ 1048576) :
    ChP (w.alloc (.cells #[.int .i64 x.k, .slice A n c, .string x.l, .string x.cs, .int .i64 x.p] E)) w.heap.size 0 A n c x := by
  have hb : (w.alloc (.cells #[.int .i64 x.k, .slice A n c, .string x.l, .string x.cs, .int .i64 x.p] E)).heap[w.heap.size]? = some (.cells #[.int .i64 x.k, .slice A n c, .string x.l, .string x.cs, .int .i64 x.p] E (0, 0)) := heap_alloc_new w _
  have hbel : Below w.heap.size w (w.alloc (.cells #[.int .i64 x.k, .slice A n c, .string x.l, .string x.cs, .int .i64 x.p] E)) := by (repeat (first | (with_reducible assumption) | (with_reducible exact Below.refl _ _) | exact Nat.le_refl _ | exact Below.size (by with_reducible assumption) | (with_reducible refine Below.drew ?_) | (with_reducible refine below_drewN ?_ _) | (with_reducible refine Below.alloc ?_ ?_ _) | (with_reducible refine Below.setCell ?_ ?_ _) | (with_reducible refine le_alloc ?_ _) | (with_reducible refine le_set ?_ _ _) | (with_reducible refine le_drew ?_) | (with_reducible refine le_drewN ?_ _) | omega | (dsimp only; omega)))
  refine ⟨?_, ?_, ?_, ?_, ?_, by simp, sl.next hbel, hn, hl, hs⟩
  all_goals
    rw [cell_of_row _ w.heap.size _ _ E (0, 0) hb]
    rfl
end Go.Proofs.YtpfnnjcochhklaaGreatDoor
