/- MgEG: several of my texts in one. -/
import Derived.Test.YtpfnnjcochhklaaGreatDoorAiG
import Derived.Test.YtpfnnjcochhklaaGreatDoorSecLaw
import Derived.Test.YtpfnnjcochhklaaGreatDoorLtDraw
import Derived.Test.YtpfnnjcochhklaaGreatDoorOwnP

/- Drawn sectors and drawn aids are valid: plain facts. -/
namespace Go.Proofs.YtpfnnjcochhklaaGreatDoor
open Go.RowKit
/-- Sectors that are being drawn: the first begins at st, the next may begin at a. -/
structure SecD (st a : Int) (l : List Sec) : Prop where
  s0 : 0 ≤ st ∧ st ≤ 359
  sa : st ≤ a
  ok : ∀ i, i < l.length → secOk (sAt l i) = true
  fs : 0 < l.length → (sAt l 0).f = st
  wd : ∀ i, i < l.length → ∃ d : Int, 1 ≤ d ∧ d ≤ 359 ∧ (sAt l i).t = ((sAt l i).f + d) % 360 ∧ (sAt l i).f + d ≤ st + 360 ∧ (if i + 1 < l.length then (sAt l i).f + d ≤ (sAt l (i + 1)).f else (sAt l i).f + d ≤ a)
  em : l.length = 0 → a = st
theorem SecD.nil {st : Int} (h : 0 ≤ st ∧ st ≤ 359) : SecD st st [] := ⟨h, Int.le_refl _, fun i hi => absurd hi (by simp), fun h => absurd h (by simp), fun i hi => absurd hi (by simp), fun _ => rfl⟩
theorem sAt_old {l : List Sec} {x : Sec} {i : Nat} (h : i < l.length) : sAt (l ++ [x]) i = sAt l i := by
  rw [sAt, sAt, List.getD_eq_getElem?_getD, List.getD_eq_getElem?_getD, List.getElem?_append_left h]
theorem sAt_new {l : List Sec} {x : Sec} : sAt (l ++ [x]) l.length = x := by
  rw [sAt, List.getD_eq_getElem?_getD, List.getElem?_append_right (Nat.le_refl _), Nat.sub_self]; rfl
theorem SecD.later {st a a' : Int} {l : List Sec} (h : SecD st a l) (ha : a ≤ a') (hl : l.length ≠ 0) : SecD st a' l :=
  ⟨h.s0, Int.le_trans h.sa ha, h.ok, h.fs, fun i hi => by
    obtain ⟨d, d1, d2, d3, d4, d5⟩ := h.wd i hi
    refine ⟨d, d1, d2, d3, d4, ?_⟩
    split
    · rename_i h1; rw [if_pos h1] at d5; exact d5
    · rename_i h1; rw [if_neg h1] at d5; omega, fun e => absurd e hl⟩
theorem SecD.push {st a d : Int} {l : List Sec} {c : ByteArray} (h : SecD st a l) (hc : colB c = true) (ha : a ≤ 359) (hd : 1 ≤ d) (hd2 : d ≤ 359) (hs : a + d ≤ st + 360) : SecD st (a + d) (l ++ [⟨a, (a + d) % 360, c⟩]) := by
  have h0 := h.s0
  have hsa := h.sa
  have hx : secOk ⟨a, (a + d) % 360, c⟩ = true := by
    rw [secOk, hc, inB_iff.2 (show 0 ≤ a ∧ a ≤ 359 by omega), inB_iff.2 (show 0 ≤ (a + d) % 360 ∧ (a + d) % 360 ≤ 359 by omega)]; rfl
  have hlen : (l ++ [(⟨a, (a + d) % 360, c⟩ : Sec)]).length = l.length + 1 := by simp
  refine ⟨h0, by omega, fun i hi => ?_, fun _ => ?_, fun i hi => ?_, fun e => by rw [hlen] at e; omega⟩
  · rw [hlen] at hi
    by_cases h1 : i < l.length
    · rw [sAt_old h1]; exact h.ok i h1
    · obtain rfl : i = l.length := by omega
      rw [sAt_new]; exact hx
  · by_cases h1 : 0 < l.length
    · rw [sAt_old h1]; exact h.fs h1
    · have h2 : l.length = 0 := by omega
      have h3 : l = [] := List.length_eq_zero_iff.1 h2
      subst h3
      exact h.em rfl
  · rw [hlen] at hi ⊢
    by_cases h1 : i < l.length
    · obtain ⟨e, e1, e2, e3, e4, e5⟩ := h.wd i h1
      rw [sAt_old h1]
      refine ⟨e, e1, e2, e3, e4, ?_⟩
      rw [if_pos (by omega)]
      by_cases h2 : i + 1 < l.length
      · rw [if_pos h2] at e5; rw [sAt_old h2]; exact e5
      · rw [if_neg h2] at e5
        have h3 : i + 1 = l.length := by omega
        rw [h3, sAt_new]; exact e5
    · obtain rfl : i = l.length := by omega
      rw [sAt_new]
      refine ⟨d, hd, hd2, rfl, hs, ?_⟩
      rw [if_neg (by omega)]
      exact Int.le_refl _
theorem arc_wide {f d : Int} (h1 : 1 ≤ d) (h2 : d ≤ 359) : arcI f ((f + d) % 360) = d := by
  unfold arcI
  omega
theorem SecD.valid {st a : Int} {l : List Sec} (h : SecD st a l) (hl : l.length ≤ 12) : secsB l = true := by
  rw [secsB, decide_eq_true_eq]
  refine ⟨hl, secs_next h.ok (fun i hi h0 => ?_) (fun hn i hi => ?_)⟩
  · obtain ⟨d, d1, d2, _, _, d5⟩ := h.wd (i - 1) (by omega)
    rw [show i - 1 + 1 = i by omega, if_pos hi] at d5
    omega
  · have hrise : ∀ i, i < l.length → 0 < i → (sAt l (i - 1)).f < (sAt l i).f := fun i hi h0 => by
      obtain ⟨d, d1, d2, _, _, d5⟩ := h.wd (i - 1) (by omega)
      rw [show i - 1 + 1 = i by omega, if_pos hi] at d5
      omega
    obtain ⟨d, d1, d2, d3, d4, d5⟩ := h.wd i hi
    obtain ⟨b1, _, _⟩ := secOk_bd (h.ok i hi)
    rw [d3, arc_wide d1 d2]
    by_cases he : i + 1 < l.length
    · rw [if_pos he] at d5
      rw [Nat.mod_eq_of_lt he]
      obtain ⟨b2, _, _⟩ := secOk_bd (h.ok _ he)
      unfold distI; omega
    · have h1 : i + 1 = l.length := by omega
      rw [h1, Nat.mod_self, h.fs (by omega)]
      have h2 : (sAt l 0).f < (sAt l i).f := secs_rise' hrise (show 0 < i by omega) hi
      rw [h.fs (by omega)] at h2
      have := h.s0
      unfold distI; omega
theorem secs_one {f : Int} {c : ByteArray} (h : 0 ≤ f ∧ f ≤ 359) (hc : colB c = true) : secsB [⟨f, f, c⟩] = true := by
  have hx : secOk ⟨f, f, c⟩ = true := by rw [secOk, hc, inB_iff.2 h]; rfl
  rw [secsB, decide_eq_true_eq]
  refine ⟨by simp, secs_next (fun i hi => ?_) (fun i hi h0 => ?_) (fun hn => ?_)⟩
  · obtain rfl : i = 0 := by simpa using hi
    exact hx
  · simp at hi; omega
  · simp at hn
/-- The colors of sectors. -/
theorem colsOf_ok {l : List Sec} (hv : ∀ s ∈ l, colB s.c = true) (hl : l ≠ []) (h3 : (colsOf l).length ≤ 3) : colorsB (bs (colsOf l)) = true := by
  have hne : ∃ c ∈ ([87, 82, 71, 89] : List UInt8), l.any (fun s => s.c.toList == [c]) = true := by
    cases l with
    | nil => exact absurd rfl hl
    | cons s r =>
      have h := hv s List.mem_cons_self
      simp only [colB, Bool.or_eq_true] at h
      rcases h with h | h | h | h
      · exact ⟨87, by simp, by simp [h]⟩
      · exact ⟨82, by simp, by simp [h]⟩
      · exact ⟨71, by simp, by simp [h]⟩
      · exact ⟨89, by simp, by simp [h]⟩
  unfold colsOf at h3 ⊢
  generalize hW : l.any (fun s => s.c.toList == [87]) = W at *
  generalize hR : l.any (fun s => s.c.toList == [82]) = R at *
  generalize hG : l.any (fun s => s.c.toList == [71]) = G at *
  generalize hY : l.any (fun s => s.c.toList == [89]) = Y at *
  have hsome : W = true ∨ R = true ∨ G = true ∨ Y = true := by
    obtain ⟨c, hc, h⟩ := hne
    simp only [List.mem_cons, List.not_mem_nil, or_false] at hc
    rcases hc with rfl | rfl | rfl | rfl
    · exact .inl (hW.symm.trans h)
    · exact .inr (.inl (hR.symm.trans h))
    · exact .inr (.inr (.inl (hG.symm.trans h)))
    · exact .inr (.inr (.inr (hY.symm.trans h)))
  have e : ([87, 82, 71, 89] : List UInt8).filter (fun c => l.any fun s => s.c.toList == [c]) = (if W = true then [87] else []) ++ ((if R = true then [82] else []) ++ ((if G = true then [71] else []) ++ (if Y = true then [89] else []))) := by
    simp only [List.filter_cons, List.filter_nil, hW, hR, hG, hY]
    cases W <;> cases R <;> cases G <;> cases Y <;> rfl
  rw [e] at h3 ⊢
  clear e hW hR hG hY hne hv hl
  cases W <;> cases R <;> cases G <;> cases Y <;> first | decide | exact absurd hsome (by decide) | exact absurd h3 (by decide)
/-- Another choice of colors. -/
theorem valid_cs {x : Ch} {co : ByteArray} (hv : validB x = true) (hc : colorsB co = true) : validB ⟨x.k, x.gs, x.l, co, x.p⟩ = true := by
  have h1 : validB x = (colorsB x.cs && fitsB x && (if steadyB x = true then x.p == 0 else inB x.p (leastI x) 600 && (!(x.k == 3) || evenB x.p))) := rfl
  have h2 : validB ⟨x.k, x.gs, x.l, co, x.p⟩ = (colorsB co && fitsB x && (if steadyB x = true then x.p == 0 else inB x.p (leastI x) 600 && (!(x.k == 3) || evenB x.p))) := rfl
  rw [h1] at hv
  rw [h2, hc]
  simp only [Bool.and_eq_true] at hv ⊢
  exact ⟨⟨trivial, hv.1.2⟩, hv.2⟩
/-- The first of a character's colors alone. -/
theorem first_colors {s : ByteArray} (h : colorsB s = true) : colorsB (s.extract 0 1) = true ∧ (s.extract 0 1).size = 1 := by
  simp only [colorsB, Bool.and_eq_true, allB_iff, decide_eq_true_eq] at h
  obtain ⟨h1, h2, h3⟩ := h
  have hz : (s.extract 0 1).size = 1 := by rw [ByteArray.size_extract]; omega
  refine ⟨?_, hz⟩
  have h4 := h1 0 (by omega)
  have hb : bt (s.extract 0 1) 0 = bt s 0 := by
    rw [bt_eq _ _ (by omega), bt_eq _ _ (by omega), ByteArray.getElem_extract]
  simp only [colorsB, Bool.and_eq_true, allB_iff, decide_eq_true_eq]
  refine ⟨fun i hi => ?_, by omega, by omega⟩
  obtain rfl : i = 0 := by omega
  rw [colOk] at h4 ⊢
  rw [hb]
  exact h4
def drNames : List ByteArray := [⟨#[114, 111, 99, 107]⟩, ⟨#[101, 97, 115, 116]⟩, ⟨#[112, 105, 101, 114]⟩, ⟨#[98, 97, 114]⟩, ⟨#[99, 97, 112, 101]⟩]
theorem drNames_ok : ∀ r ∈ drNames, nameB r = true := by decide
def stdMk (k : Int) : Mk := ⟨k, mkCol k, (mkShp k).headD ⟨#[]⟩, mkTop k⟩
theorem stdMk_ok {k : Int} (h : 1 ≤ k ∧ k ≤ 9) : markB (stdMk k) = true := by
  have hk : k = 1 ∨ k = 2 ∨ k = 3 ∨ k = 4 ∨ k = 5 ∨ k = 6 ∨ k = 7 ∨ k = 8 ∨ k = 9 := by omega
  have hne : mkShp k ≠ [] := by rcases hk with rfl | rfl | rfl | rfl | rfl | rfl | rfl | rfl | rfl <;> simp [mkShp, mkShapes]
  have h1 : hasS (mkShp k) ((mkShp k).headD ⟨#[]⟩) = true := by
    cases hs : mkShp k with
    | nil => exact absurd hs hne
    | cons x r => simp [hasS]
  have h2 : inB k 1 9 = true := inB_iff.2 h
  rw [markB, markOkB, show (stdMk k).k = k from rfl, show (stdMk k).sh = (mkShp k).headD ⟨#[]⟩ from rfl, h1, h2, show (stdMk k).cs = mkCol k from rfl, show (stdMk k).tp = mkTop k from rfl]
  simp
theorem zeroMk_ok : markB ⟨0, ⟨#[]⟩, ⟨#[]⟩, ⟨#[]⟩⟩ = true := by simp [markB, mkZeroB, isE, ByteArray.toList_eq]
theorem unlit_ok {a : AidX} (h : aidHeadB a = true) (hc : a.ch = ⟨0, [], ⟨#[]⟩, ⟨#[]⟩, 0⟩) (hs : a.secs = []) (hi : a.it = 0) : aidB a = true := by
  rw [aidB, h, Bool.true_and, unlitB, hc, hs, hi]
  have : plainCh ⟨0, [], ⟨#[]⟩, ⟨#[]⟩, 0⟩ = true := by simp [plainCh, isE, ByteArray.toList_eq]
  rw [this]; simp
theorem lit_plain {a : AidX} (h : aidHeadB a = true) (hv : validB a.ch = true) (hi : 1 ≤ a.it ∧ a.it ≤ 100000000) (hs : a.secs = []) (hz : a.ch.cs.size = 1) : aidB a = true := by
  rw [aidB, h, Bool.true_and, litB, hv, inB_iff.2 hi, hs, if_pos rfl, decide_eq_true hz, show secsB [] = true by decide]; rfl
theorem lit_secs {a : AidX} (h : aidHeadB a = true) (hv : validB a.ch = true) (hi : 1 ≤ a.it ∧ a.it ≤ 100000000) (hs : secsB a.secs = true) (hn : a.secs ≠ []) (hz : a.ch.cs = bs (colsOf a.secs)) : aidB a = true := by
  have e : (colsOf a.secs == a.ch.cs.toList) = true := by
    rw [hz, bs, ByteArray.toList_eq]; simp
  rw [aidB, h, Bool.true_and, litB, hv, inB_iff.2 hi, hs, if_neg hn, e]; rfl
end Go.Proofs.YtpfnnjcochhklaaGreatDoor

/- Sectors that are drawn are valid. -/
namespace Go.Proofs.YtpfnnjcochhklaaGreatDoor
open Go.RowKit
theorem grown_own {a b c : World} {row row2 : Option Nat} (h : a.grownBy b row) (hg : b.grownBy c row2) (hr : ∀ k, row2 = some k → a.heap.size ≤ k) : a.grownBy c row :=
  ⟨hg.os.trans h.os, hg.tape.trans h.tape, hg.output.trans h.output, Nat.le_trans h.size hg.size, fun k hk hne => (hg.block k (Nat.lt_of_lt_of_le hk h.size) fun e => by have := hr k e.symm; omega).trans (h.block k hk hne)⟩
theorem src_own {w w' : World} {lo b a base sz n : Nat} {e : TypeId} {v : Value} {xs : List Value} (h : Src w lo b a) (ho : w.ownsRow base e sz v n xs) (hg : w.grownBy w' v.ownBlock) (hne : e ≠ 78) (hb : lo ≤ base) : Src w' lo b a := by
  obtain ⟨A, n, c, a', seed, bs, ha, hr, hs, hbs, hn, hl⟩ := h
  exact ⟨A, n, c, a', seed, bs, ha, own_grown hr hg (own_ne hr ho (Ne.symm hne)), hs.grown hg hl fun g e => Nat.le_trans hb (ho.lt g e).1, hbs, hn, Nat.le_trans hl hg.size⟩
def drCol4 : List ByteArray := [⟨#[87]⟩, ⟨#[82]⟩, ⟨#[71]⟩, ⟨#[89]⟩]
theorem drCol4_ok : ∀ r ∈ drCol4, colB r = true := by simp [drCol4, colB, ByteArray.toList_eq]
/-- Sectors that are being drawn, in memory of the call's own. -/
structure SecA (w wr : World) (lo b a : Nat) (A : Option Addr) (n c : Nat) (zs : List Sec) : Prop where
  ln : zs.length = n
  own : wr.ownsRow w.heap.size 94 3 (.slice A n c) n (zs.flatMap Sec.cells)
  sr : Src wr lo b a
  gr : w.grownBy wr (some b)
theorem SecA.src {w wr w' : World} {lo b a a' : Nat} {A : Option Addr} {n c : Nat} {zs : List Sec} (h : SecA w wr lo b a A n c zs) (hb : b < w.heap.size) (hs : Src w' lo b a') (hg : wr.grownBy w' (some b)) : SecA w w' lo b a' A n c zs :=
  ⟨h.ln, own_src h.own hg hb, hs, grown_trans h.gr hg⟩
theorem SecA.next {w wr w' : World} {lo b a : Nat} {A : Option Addr} {n c : Nat} {zs : List Sec} (h : SecA w wr lo b a A n c zs) (hb : Below wr.heap.size wr w') : SecA w w' lo b a A n c zs :=
  ⟨h.ln, own_next h.own hb, h.sr.next hb, grown_trans h.gr (grown_of_below hb)⟩
theorem SecA.more {w wr : World} {lo b a a' : Nat} {A : Option Addr} {n c : Nat} {zs : List Sec} (h : SecA w wr lo b a A n c zs) (ha : a ≤ a') : SecA w wr lo b a' A n c zs := ⟨h.ln, h.own, h.sr.more ha, h.gr⟩
theorem SecA.push {w w5 w7 : World} {lo b a : Nat} {A A7 : Option Addr} {n c c7 : Nat} {zs : List Sec} (h : SecA w w5 lo b a A n c zs) (hlo : lo ≤ w.heap.size) (s : Sec) {o : Obj}
    (hg : (w5.alloc o).grownBy w7 (Value.slice A n c).ownBlock) (ho : w7.ownsRow w.heap.size 94 3 (.slice A7 (n + 1) c7) (n + 1) (zs.flatMap Sec.cells ++ s.cells)) : SecA w w7 lo b a A7 (n + 1) c7 (zs ++ [s]) := by
  have hb : Below w5.heap.size w5 (w5.alloc o) := (Below.refl _ _).alloc (Nat.le_refl _) _
  refine ⟨by rw [List.length_append, h.ln]; rfl, by rw [List.flatMap_append]; exact ho, ?_, ?_⟩
  · exact src_own (h.sr.next hb) (own_next h.own hb) hg (by decide) hlo
  · exact grown_own (grown_trans h.gr (grown_of_below hb)) hg fun k hk => (h.own.lt k hk).1
/-- A store into a block that the list does not lie in. -/
theorem SecA.set {w wr w' : World} {lo b a X : Nat} {A : Option Addr} {n c : Nat} {zs : List Sec} {xs : List Value} {m : Nat} {v : Value} (h : SecA w wr lo b a A n c zs) (hlo : lo ≤ w.heap.size) (hx : wr.ownsRow w.heap.size 94 3 v m xs) (hv : v.ownBlock = some X) (hA : ∀ g, (Value.slice A n c).ownBlock = some g → g < X) (hg : wr.grownBy w' (some X)) : SecA w w' lo b a A n c zs := by
  have hX := hx.lt X hv
  refine ⟨h.ln, own_grown h.own hg (.inr fun e => ?_), ?_, ?_⟩
  · exact absurd (hA X e) (by omega)
  · exact src_own h.sr hx (by rw [hv]; exact hg) (by decide) hlo
  · exact grown_own h.gr hg fun k hk => by injection hk with hk; omega
def SecAns (lo b a : Nat) (w : World) (e : Ending) (w' : World) : Prop := ∃ (A : Option Addr) (n c : Nat) (zs : List Sec), e = .returned (.slice A n c) ∧ n ≤ 5 ∧ SecA w w' lo b a A n c zs ∧ secsB zs = true
set_option maxRecDepth 100000 in
set_option maxHeartbeats 8000000 in
theorem l08DrawOk_c (lo b a : Nat) (w : World) (h : Src w lo b a) (ha : a ≤ 700000000) :
    Calls Tryz.prog 72 #[.pointer (some ⟨b, 0, none⟩)] w (SecAns lo b (a + 60) w) := by
  obtain ⟨i0, hi, hz0, hz1, hz2⟩ := info_parts secInfo
  have hlt := h.lt.2
  have hlo : lo ≤ w.heap.size := h.lo
  have hbv : Below w.heap.size w (w.alloc (.cells #[] 94)) := (Below.refl _ _).alloc (Nat.le_refl _) _
  have hov := World.ownsRow_made (base := w.heap.size) (e := 94) (size := 3) w #[] 0 (Nat.le_refl _) (by simp [maxLen]) rfl
  have hD0 : SecA w (w.alloc (.cells #[] 94)) lo b a (some ⟨w.heap.size, 0, none⟩) 0 0 [] := ⟨rfl, hov, h.next hbv, grown_of_below hbv⟩
  clear h hbv hov
  have HD0 := Lib.hid hD0; clear hD0
  go_enter Tryz.func72, Tryz.ntmps72
  go_wp2_with fail
  refine (pickN_c 6 lo b a _ HD0.out.sr (by omega) (by omega)).mono ?_
  rintro e w1 ⟨q, rfl, q0, q1, hs1, hg1⟩
  have HD1 := Lib.hid (HD0.out.src hlt hs1 hg1)
  have hq : q = 0 ∨ q = 1 ∨ 2 ≤ q := by omega
  clear hs1 hg1 HD0 q0 q1
  rcases hq with rfl | rfl | h2
  · go_wp2_with fail
    go_ret
    exact ⟨_, _, _, [], rfl, Nat.zero_le _, HD1.out.more (by omega), by decide⟩
  · go_wp2_with fail
    refine (pickN_c 360 lo b (a + 2) _ HD1.out.sr (by omega) (by omega)).mono ?_
    rintro e w2 ⟨f, rfl, f0, f1, hs2, hg2⟩
    have hf : 0 ≤ f ∧ f ≤ 359 := by omega
    have hD2 := HD1.out.src hlt hs2 hg2
    have hbl : Below w2.heap.size w2 (w2.alloc (.cells #[.string ⟨#[87]⟩, .string ⟨#[82]⟩, .string ⟨#[71]⟩, .string ⟨#[89]⟩] 9)) := (Below.refl _ _).alloc (Nat.le_refl _) _
    have hol := lit_own w2 w2.heap.size 9 #[.string ⟨#[87]⟩, .string ⟨#[82]⟩, .string ⟨#[71]⟩, .string ⟨#[89]⟩] 4 1 (Nat.le_refl _) (by decide) rfl
    have hsl : Sl _ _ 1 _ 4 (drCol4.flatMap strC) := Sl.of_own hol
    have hltr := hD2.sr.lt.2
    clear f0 f1 hs2 hg2 HD1
    go_wp2_with fail
    refine (text_c _ 4 4 _ drCol4 lo b (a + 4) _ (hD2.sr.next hbl) (by omega) hsl (Nat.le_refl _) (fun b' off e => by injection e with e; injection e with e; omega) (by omega) (by omega)).mono ?_
    rintro e w3 ⟨c, rfl, hc, hs3, hg3⟩
    have hv := secs_one hf (drCol4_ok c hc)
    have hG3 := grown_trans (grown_trans hD2.gr (grown_of_below hbl)) hg3
    have hon := lit_own w3 w.heap.size 94 #[.int .i64 f, .int .i64 f, .string c] 1 3 hG3.size (by decide) rfl
    have hbn : Below w3.heap.size w3 (w3.alloc (.cells #[.int .i64 f, .int .i64 f, .string c] 94)) := (Below.refl _ _).alloc (Nat.le_refl _) _
    have hA : SecA w (w3.alloc (.cells #[.int .i64 f, .int .i64 f, .string c] 94)) lo b (a + 4 + 2) (some ⟨w3.heap.size, 0, none⟩) 1 1 [⟨f, f, c⟩] := ⟨rfl, hon, hs3.next hbn, grown_trans hG3 (grown_of_below hbn)⟩
    have HA := Lib.hid hA; clear hA
    have Hv := Lib.hid hv; clear hv
    clear hc hs3 hg3 hG3 hon hbn hol hsl hbl hD2
    go_wp2_with fail
    go_ret
    exact ⟨_, _, _, _, rfl, by omega, HA.out.more (by omega), Hv.out⟩
  · have n0 : (q == 0) = false := by simp; omega
    have n1 : (q == 1) = false := by simp; omega
    go_wp2_with fail
    refine (pickN_c 60 lo b (a + 2) _ HD1.out.sr (by omega) (by omega)).mono ?_
    rintro e w2 ⟨st, rfl, s0, s1, hs2, hg2⟩
    have HD2 := Lib.hid (HD1.out.src hlt hs2 hg2)
    have hst : 0 ≤ st ∧ st ≤ 59 := by omega
    clear hs2 hg2 HD1 s0 s1
    go_wp2_with fail
    refine (pickN_c 5 lo b (a + 2 + 2) _ HD2.out.sr (by omega) (by omega)).mono ?_
    rintro e w3 ⟨k0, rfl, p0, p1, hs3, hg3⟩
    obtain ⟨k0, rfl⟩ := Int.eq_ofNat_of_zero_le p0
    have hk0 : k0 ≤ 4 := by omega
    have HD3 := Lib.hid (HD2.out.src hlt hs3 hg3)
    have hS0 : SecD st st [] := SecD.nil (by omega)
    have HS0 := Lib.hid hS0; clear hS0
    have eS : IntKind.i64.wrap (st + 360) = st + 360 := IntWalk.i64_in _ (by omega)
    obtain ⟨S, hS⟩ : ∃ S, st + 360 = S := ⟨_, rfl⟩
    rw [hS] at eS
    clear hs3 hg3 HD2 p0 p1
    go_wp2_with fail
    go_loopw [3, 5, 7] (fun v y i wr => ∃ (k m : Nat) (A : Option Addr) (c : Nat) (zs : List Sec) (x : Int), k + m ≤ 5 ∧ v = .slice A m c ∧ y = .int .i64 x ∧ i = .int .i64 k ∧ (st ≤ x ∧ x ≤ 458) ∧ Hid (SecD st x zs) ∧ Hid (SecA w wr lo b (a + 6 + 8 * m) A m c zs)) (fun _ _ i _ => (intOf i).toNat)
    case atStart => exact ⟨k0 + 1, 0, _, _, [], st, by omega, rfl, rfl, by first | rfl | exact int_eq (by omega), by omega, HS0, HD3⟩
    case round =>
      clear HD3 HS0
      obtain ⟨k, m, A, c, zs, x, hk, rfl, rfl, rfl, hx, HS, HD⟩ := hrel
      by_cases hlk : 0 < k
      · go_wp2_with fail
        refine (pickN_c 70 lo b (a + 6 + 8 * m) _ HD.out.sr (by omega) (by omega)).mono ?_
        rintro e w5 ⟨d0, rfl, d1, d2, hs5, hg5⟩
        have HD5 := Lib.hid (HD.out.src hlt hs5 hg5)
        have ed : IntKind.i64.wrap (d0 + 1) = d0 + 1 := IntWalk.i64_in _ (by omega)
        obtain ⟨d, hd⟩ : ∃ d, d0 + 1 = d := ⟨_, rfl⟩
        have hdb : 1 ≤ d ∧ d ≤ 70 := by omega
        rw [hd] at ed
        have eT : IntKind.i64.wrap (x + d) = x + d := IntWalk.i64_in _ (by omega)
        obtain ⟨T, hT⟩ : ∃ T, x + d = T := ⟨_, rfl⟩
        rw [hT] at eT
        clear hs5 hg5 HD
        by_cases hA : S < T
        · go_wp2_with fail
          have hl5 : zs.length ≤ 5 := by have := HD5.out.ln; omega
          go_ret
          exact ⟨A, m, c, zs, rfl, by omega, HD5.out.more (by omega), HS.out.valid (by omega)⟩
        by_cases hB : 359 < x
        · go_wp2_with fail
          have hl5 : zs.length ≤ 5 := by have := HD5.out.ln; omega
          go_ret
          exact ⟨A, m, c, zs, rfl, by omega, HD5.out.more (by omega), HS.out.valid (by omega)⟩
        have hT0 : 0 ≤ T ∧ T ≤ 429 := by omega
        have eU : T.tmod 360 = T % 360 := Int.tmod_eq_emod_of_nonneg hT0.1
        obtain ⟨U, hU⟩ : ∃ U, T % 360 = U := ⟨_, rfl⟩
        rw [hU] at eU
        have hbX : Below w5.heap.size w5 (w5.alloc (.cells #[.int .i64 x, .int .i64 U, .string ⟨#[]⟩] 94)) := (Below.refl _ _).alloc (Nat.le_refl _) _
        have hoX := lit_own w5 w.heap.size 94 #[.int .i64 x, .int .i64 U, .string ⟨#[]⟩] 1 3 HD5.out.gr.size (by decide) rfl
        have hDX := HD5.out.next hbX
        have hzX : (w5.alloc (.cells #[.int .i64 x, .int .i64 U, .string ⟨#[]⟩] 94)).heap.size = w5.heap.size + 1 := by simp
        have hbl : Below (w5.alloc (.cells #[.int .i64 x, .int .i64 U, .string ⟨#[]⟩] 94)).heap.size (w5.alloc (.cells #[.int .i64 x, .int .i64 U, .string ⟨#[]⟩] 94)) ((w5.alloc (.cells #[.int .i64 x, .int .i64 U, .string ⟨#[]⟩] 94)).alloc (.cells #[.string ⟨#[87]⟩, .string ⟨#[82]⟩, .string ⟨#[71]⟩, .string ⟨#[89]⟩] 9)) := (Below.refl _ _).alloc (Nat.le_refl _) _
        have hol := lit_own (w5.alloc (.cells #[.int .i64 x, .int .i64 U, .string ⟨#[]⟩] 94)) (w5.alloc (.cells #[.int .i64 x, .int .i64 U, .string ⟨#[]⟩] 94)).heap.size 9 #[.string ⟨#[87]⟩, .string ⟨#[82]⟩, .string ⟨#[71]⟩, .string ⟨#[89]⟩] 4 1 (Nat.le_refl _) (by decide) rfl
        have hsl : Sl _ _ 1 _ 4 (drCol4.flatMap strC) := Sl.of_own hol
        rw [hzX] at hsl
        have hltr := hDX.sr.lt.2
        rw [hzX] at hltr
        have hzl : ((w5.alloc (.cells #[.int .i64 x, .int .i64 U, .string ⟨#[]⟩] 94)).alloc (.cells #[.string ⟨#[87]⟩, .string ⟨#[82]⟩, .string ⟨#[71]⟩, .string ⟨#[89]⟩] 9)).heap.size = w5.heap.size + 1 + 1 := by simp
        rw [hzl] at hsl
        have hgX : ∀ g, (Value.slice A m c).ownBlock = some g → g < w5.heap.size := fun g hg => (HD5.out.own.lt g hg).2
        have hoL := own_next hoX hbl
        have hDL := hDX.next hbl
        rw [hzX] at hbl
        have HgX := Lib.hid hgX; clear hgX
        have HoL := Lib.hid hoL; clear hoL
        have HDL := Lib.hid hDL; clear hDL
        clear hoX hDX hbX hbl hol HD5
        go_wp2_with fail
        refine (text_c _ 4 4 (w5.heap.size + 1 + 1) drCol4 lo b (a + 6 + 8 * m + 2) _ HDL.out.sr (by omega) hsl (by rw [hzl]; omega) (fun b' off e => by injection e with e; injection e with e; omega) (by omega) (by omega)).mono ?_
        rintro e w6 ⟨cl, rfl, hc, hs6, hg6⟩
        have hcb := drCol4_ok cl hc
        have hD6 := HDL.out.src hlt hs6 hg6
        have hX6 := own_src HoL.out hg6 hlt
        have hst6 := hX6.stored 2 (.string cl)
        have fz6 := hX6.frozenAt
        have o2 := hX6.cellAt 2 (by omega)
        simp only [List.getElem?_cons_zero, List.getElem?_cons_succ] at o2
        have HD7 := Lib.hid (hD6.set hlo hX6 rfl HgX.out hst6.2)
        have hX7 := hst6.1
        have d0 := hX7.cellAt 0 (by omega)
        have d1 := hX7.cellAt 1 (by omega)
        have d2 := hX7.cellAt 2 (by omega)
        have fz7 := hX7.frozenAt
        simp only [List.set_cons_zero, List.set_cons_succ, List.getElem?_cons_zero, List.getElem?_cons_succ] at d0 d1 d2
        have e63 : m + 1 ≤ maxLen := by unfold maxLen; omega
        have e32 : (m + 1) * 32 ≤ 140737488355328 := by omega
        have hnw : Sl ((w6.setCell ⟨w5.heap.size, 2, none⟩ (.string cl)).alloc (.cells #[.int .i64 x, .int .i64 U, .string cl] 94)) (w6.heap.size + 1) 3 (some ⟨w6.heap.size, 0, none⟩) 1 (Sec.cells ⟨x, U, cl⟩) := by
          have h := Sl.new (w6.setCell ⟨w5.heap.size, 2, none⟩ (.string cl)) 94 (Sec.cells ⟨x, U, cl⟩) 1 3 rfl
          rw [World.size_setCell] at h
          exact h
        have hle : w.heap.size ≤ ((w6.setCell ⟨w5.heap.size, 2, none⟩ (.string cl)).alloc (.cells #[.int .i64 x, .int .i64 U, .string cl] 94)).heap.size := le_alloc HD7.out.gr.size _
        have E63 := Lib.hid e63; clear e63
        have E32 := Lib.hid e32; clear e32
        have Hnw := Lib.hid hnw; clear hnw
        have Hle := Lib.hid hle; clear hle
        have Hcb := Lib.hid hcb; clear hcb
        clear hc hs6 hg6 hD6 hX6 hst6 hX7 HDL HoL HgX hsl
        go_wp2_with (at_builtin; refine wpl_append _ rfl (.tmp 60) (.tmp 62) _ rfl w.heap.size 94 i0 _ 3 32 Tryz.underlying54 hi hz0 hz1 hz2 rfl (by omega) _ m _ rfl (HD7.out.own.alloc _) (w6.heap.size + 1) (some ⟨w6.heap.size, 0, none⟩) 1 1 (Sec.cells ⟨x, U, cl⟩) rfl Hnw.out (sec_one _) E63.out E32.out Hle.out ?_; intro v7 w7 ho7 hg7 hat7)
        obtain ⟨A7, c7, rfl⟩ := own_slice ho7
        have HD9 := Lib.hid (HD7.out.push hlo ⟨x, U, cl⟩ hg7 ho7)
        have hS9 : SecD st T (zs ++ [⟨x, U, cl⟩]) := by
          have := HS.out.push Hcb.out (by omega) hdb.1 (by omega) (d := d) (by omega)
          rw [hT, hU] at this
          exact this
        have HS9 := Lib.hid hS9; clear hS9
        clear ho7 hg7 hat7 HD7 Hnw Hle d0 d1 d2 fz6 fz7 o2
        refine (one_c 2 lo b (a + 6 + 8 * m + 2 + 2) _ HD9.out.sr (by omega) (by omega)).mono ?_
        rintro e w8 ⟨ans, rfl, hs8, hg8⟩
        have HD10 := Lib.hid (HD9.out.src hlt hs8 hg8)
        clear hs8 hg8 HD9
        cases ans
        · go_wp2_with fail
          go_roundw
          case rel => exact ⟨k - 1, m + 1, A7, c7, _, T, by omega, rfl, rfl, int_eq (by omega), by omega, HS9, Lib.hid (HD10.out.more (by omega))⟩
          case measure => simp [intOf]; omega
        · go_wp2_with fail
          refine (pickN_c 40 lo b (a + 6 + 8 * m + 2 + 2 + 2) _ HD10.out.sr (by omega) (by omega)).mono ?_
          rintro e w9 ⟨r, rfl, r0, r1, hs9, hg9⟩
          have HD11 := Lib.hid (HD10.out.src hlt hs9 hg9)
          have hS10 : SecD st (T + r) (zs ++ [⟨x, U, cl⟩]) := HS9.out.later (by omega) (by simp)
          have eW : IntKind.i64.wrap (T + r) = T + r := IntWalk.i64_in _ (by omega)
          have HS10 := Lib.hid hS10; clear hS10
          clear hs9 hg9 HD10
          go_wp2_with fail
          go_roundw
          case rel => exact ⟨k - 1, m + 1, A7, c7, _, T + r, by omega, rfl, rfl, int_eq (by omega), by omega, HS10, Lib.hid (HD11.out.more (by omega))⟩
          case measure => simp [intOf]; omega
      · obtain rfl : k = 0 := by omega
        go_wp2_with fail
        have hl5 : zs.length ≤ 5 := by have := HD.out.ln; omega
        go_ret
        exact ⟨A, m, c, zs, rfl, by omega, HD.out.more (by omega), HS.out.valid (by omega)⟩
end Go.Proofs.YtpfnnjcochhklaaGreatDoor

/- Draws of aids: a place, and stores into a block that holds an aid. -/
namespace Go.Proofs.YtpfnnjcochhklaaGreatDoor
open Go.RowKit
theorem AidF.put {w : World} {b : Nat} {z z' : AidG} (h : AidF w b z) (o : Nat) (vs : List Value) (ho : o + vs.length ≤ 16) (hz : z'.cells = z.cells.take o ++ (vs ++ z.cells.drop (o + vs.length))) : AidF (w.setCells b o vs) b z' := by
  have hl : z.cells.length = 16 := rfl
  have r := World.rangeAt_setCells_same w b o vs (h.there o vs.length ho)
  refine ⟨aidP_of (fun j v hv => ?_) (by rw [sizeW]; exact h.p.hb), fun i => (World.frozen?_setCells b _ o w _).trans (h.f i)⟩
  rw [hz] at hv
  rw [Nat.zero_add]
  by_cases h1 : j < o
  · rw [List.getElem?_append_left (by rw [List.length_take]; omega), List.getElem?_take, if_pos h1] at hv
    rw [World.cell?_setCells_out b vs o w ⟨b, j, none⟩ (fun _ _ => by dsimp only; omega)]
    have := h.p.range j v hv
    rwa [Nat.zero_add] at this
  · have e1 : (z.cells.take o).length = o := by rw [List.length_take]; omega
    rw [List.getElem?_append_right (by omega), e1] at hv
    by_cases h2 : j < o + vs.length
    · rw [List.getElem?_append_left (by omega)] at hv
      have := r (j - o) v hv
      rwa [show o + (j - o) = j by omega] at this
    · rw [List.getElem?_append_right (by omega), List.getElem?_drop] at hv
      rw [World.cell?_setCells_out b vs o w ⟨b, j, none⟩ (fun _ _ => by dsimp only; omega)]
      have := h.p.range j v (by rw [← hv]; congr 1; omega)
      rwa [Nat.zero_add] at this
theorem AidF.put1 {w : World} {b : Nat} {z z' : AidG} (h : AidF w b z) (o : Nat) (v : Value) (ho : o < 16) (hz : z'.cells = z.cells.take o ++ ([v] ++ z.cells.drop (o + 1))) : AidF (w.setCell ⟨b, o, none⟩ v) b z' := by
  have h1 : o + [v].length ≤ 16 := by rw [List.length_singleton]; omega
  have h2 : z'.cells = z.cells.take o ++ ([v] ++ z.cells.drop (o + [v].length)) := by rw [hz, List.length_singleton]
  have h3 := h.put o [v] h1 h2
  rw [World.setCells, World.setCells] at h3
  exact h3
/-- A place that is being drawn: the result's box, and the source. -/
structure PtS (w wr : World) (lo b a : Nat) : Prop where
  res : wr.ownsRow w.heap.size 49 2 (.slice (some ⟨w.heap.size, 0, none⟩) 1 1) 1 [.int .i64 0, .int .i64 0]
  sr : Src wr lo b a
  gr : w.grownBy wr (some b)
  lt : b < w.heap.size
  lo' : lo ≤ w.heap.size
theorem PtS.draw {w wr w' : World} {lo b a a' : Nat} (h : PtS w wr lo b a) (hs : Src w' lo b a') (hg : wr.grownBy w' (some b)) : PtS w w' lo b a' := ⟨own_src h.res hg h.lt, hs, grown_trans h.gr hg, h.lt, h.lo'⟩
theorem PtS.next {w wr w' : World} {lo b a : Nat} (h : PtS w wr lo b a) (hb : Below wr.heap.size wr w') : PtS w w' lo b a := h.draw (h.sr.next hb) (grown_of_below hb)
theorem PtS.fin {w wr : World} {lo b a : Nat} (h : PtS w wr lo b a) (x y : Int) :
    wr.cell? ⟨w.heap.size, 0, none⟩ = some (.int .i64 0) ∧ wr.cell? ⟨w.heap.size, 1, none⟩ = some (.int .i64 0) ∧ (∀ i, wr.frozen? ⟨w.heap.size, i, none⟩ = false) ∧
    ((wr.setCell ⟨w.heap.size, 0, none⟩ (.int .i64 x)).setCell ⟨w.heap.size, 1, none⟩ (.int .i64 y)).cell? ⟨w.heap.size, 0, none⟩ = some (.int .i64 x) ∧
    ((wr.setCell ⟨w.heap.size, 0, none⟩ (.int .i64 x)).setCell ⟨w.heap.size, 1, none⟩ (.int .i64 y)).cell? ⟨w.heap.size, 1, none⟩ = some (.int .i64 y) ∧
    Hid (Src ((wr.setCell ⟨w.heap.size, 0, none⟩ (.int .i64 x)).setCell ⟨w.heap.size, 1, none⟩ (.int .i64 y)) lo b a) ∧ Hid (w.grownBy ((wr.setCell ⟨w.heap.size, 0, none⟩ (.int .i64 x)).setCell ⟨w.heap.size, 1, none⟩ (.int .i64 y)) (some b)) := by
  have s0 := h.res.stored 0 (.int .i64 x)
  have s1 := s0.1.stored 1 (.int .i64 y)
  have sg := grown_trans s0.2 s1.2
  refine ⟨(h.res.cellAt 0 (by omega)).trans rfl, (h.res.cellAt 1 (by omega)).trans rfl, h.res.frozenAt, (s1.1.cellAt 0 (by omega)).trans rfl, (s1.1.cellAt 1 (by omega)).trans rfl, Lib.hid (src_own h.sr h.res sg (by decide) h.lo'), Lib.hid (grown_own h.gr sg fun k hk => ?_)⟩
  injection hk with hk
  omega
def PtAns (lo b a : Nat) (w : World) (e : Ending) (w' : World) : Prop := ∃ x y : Int, e = .returned (ptV x y) ∧ (0 ≤ x ∧ x ≤ 200000) ∧ (0 ≤ y ∧ y ≤ 200000) ∧ Src w' lo b a ∧ w.grownBy w' (some b)
set_option maxRecDepth 100000 in
set_option maxHeartbeats 4000000 in
theorem l02Draw_c (lo b a : Nat) (w : World) (h : Src w lo b a) (ha : a ≤ 700000000) :
    Calls Tryz.prog 68 #[.pointer (some ⟨b, 0, none⟩)] w (PtAns lo b (a + 20) w) := by
  have hbA : Below w.heap.size w (w.alloc (.cells #[.int .i64 0, .int .i64 0] 49)) := (Below.refl _ _).alloc (Nat.le_refl _) _
  have hoR := lit_own w w.heap.size 49 #[.int .i64 0, .int .i64 0] 1 2 (Nat.le_refl _) (by decide) rfl
  have hP : PtS w (w.alloc (.cells #[.int .i64 0, .int .i64 0] 49)) lo b a := ⟨hoR, h.next hbA, grown_of_below hbA, h.lt.2, h.lo⟩
  have hz0 : (w.alloc (.cells #[.int .i64 0, .int .i64 0] 49)).heap.size = w.heap.size + 1 := by simp
  have hbl : Below (w.alloc (.cells #[.int .i64 0, .int .i64 0] 49)).heap.size (w.alloc (.cells #[.int .i64 0, .int .i64 0] 49)) ((w.alloc (.cells #[.int .i64 0, .int .i64 0] 49)).alloc (.cells #[.int .i64 20, .int .i64 100, .int .i64 100, .int .i64 100] 2)) := (Below.refl _ _).alloc (Nat.le_refl _) _
  have hol := lit_own (w.alloc (.cells #[.int .i64 0, .int .i64 0] 49)) (w.alloc (.cells #[.int .i64 0, .int .i64 0] 49)).heap.size 2 #[.int .i64 20, .int .i64 100, .int .i64 100, .int .i64 100] 4 1 (Nat.le_refl _) (by decide) rfl
  have hsl : Sl _ _ 1 _ 4 (([20, 100, 100, 100] : List Int).flatMap intC) := Sl.of_own hol
  have hPL := hP.next hbl
  have hltr := hP.sr.lt.2
  rw [hz0] at hsl hltr
  have hzl : ((w.alloc (.cells #[.int .i64 0, .int .i64 0] 49)).alloc (.cells #[.int .i64 20, .int .i64 100, .int .i64 100, .int .i64 100] 2)).heap.size = w.heap.size + 1 + 1 := by simp
  rw [hzl] at hsl
  have HPL := Lib.hid hPL; clear hPL
  clear hbA hoR hP hz0 hbl hol h
  go_enter Tryz.func68, Tryz.ntmps68
  go_wp2_with fail
  refine (among_c _ 4 4 (w.heap.size + 1 + 1) [20, 100, 100, 100] lo b a _ HPL.out.sr (by omega) hsl (by rw [hzl]; omega) (fun b' off e => by injection e with e; injection e with e; omega) (by omega) (by omega)).mono ?_
  rintro e w1 ⟨v, rfl, hv, hs1, hg1⟩
  have hvb : 20 ≤ v ∧ v ≤ 100 := by simp at hv; omega
  have HS1 := Lib.hid (HPL.out.draw hs1 hg1)
  clear hv hs1 hg1 hzl hsl HPL hltr
  go_wp2_with fail
  refine (pickN_c v lo b (a + 2) _ HS1.out.sr (by omega) (by omega)).mono ?_
  rintro e w2 ⟨q, rfl, q0, q1, hs2, hg2⟩
  have HS2 := Lib.hid (HS1.out.draw hs2 hg2)
  have hq : 0 ≤ q ∧ q ≤ 100 := by omega
  have e1 : IntKind.i64.wrap (q * 100) = q * 100 := IntWalk.i64_in _ (by omega)
  have e2 : IntKind.i64.wrap (10000 + q * 100) = 10000 + q * 100 := IntWalk.i64_in _ (by omega)
  obtain ⟨X, hX⟩ : ∃ X, 10000 + q * 100 = X := ⟨_, rfl⟩
  have hXb : 10000 ≤ X ∧ X ≤ 20000 := by omega
  rw [hX] at e2
  clear hs2 hg2 q0 q1 HS1
  go_wp2_with fail
  refine (pickN_c v lo b (a + 4) _ HS2.out.sr (by omega) (by omega)).mono ?_
  rintro e w3 ⟨p, rfl, p0, p1, hs3, hg3⟩
  have HS3 := Lib.hid (HS2.out.draw hs3 hg3)
  have hp : 0 ≤ p ∧ p ≤ 100 := by omega
  have e3 : IntKind.i64.wrap (p * 100) = p * 100 := IntWalk.i64_in _ (by omega)
  have e4 : IntKind.i64.wrap (10000 + p * 100) = 10000 + p * 100 := IntWalk.i64_in _ (by omega)
  obtain ⟨Y, hY⟩ : ∃ Y, 10000 + p * 100 = Y := ⟨_, rfl⟩
  have hYb : 10000 ≤ Y ∧ Y ≤ 20000 := by omega
  rw [hY] at e4
  clear hs3 hg3 p0 p1 HS2
  go_wp2_with fail
  refine (one_c 3 lo b (a + 6) _ HS3.out.sr (by omega) (by omega)).mono ?_
  rintro e w4 ⟨an1, rfl, hs4, hg4⟩
  have HS4 := Lib.hid (HS3.out.draw hs4 hg4)
  clear hs4 hg4 HS3
  cases an1
  · go_wp2_with fail
    refine (one_c 3 lo b (a + 8) _ (HS4).out.sr (by omega) (by omega)).mono ?_
    rintro e w6 ⟨an2, rfl, hs6, hg6⟩
    have HS6 := Lib.hid ((HS4).out.draw hs6 hg6)
    clear hs6 hg6 HS4
    cases an2
    · obtain ⟨c0, c1, fz, d0, d1, HSr, HG⟩ := (HS6).out.fin X (Y)
      go_wp2_with fail
      exact bodyPost_ret (v := ptV X (Y)) (by simp [results, Tryz.results68, go_sem, d0, d1]) rfl ⟨X, Y, rfl, by omega, by omega, HSr.out.more (by omega), HG.out⟩
    · go_wp2_with fail
      refine (pickN_c 200 lo b (a + 8 + 2) _ HS6.out.sr (by omega) (by omega)).mono ?_
      rintro e w7 ⟨r, rfl, r0, r1, hs7, hg7⟩
      have HS7 := Lib.hid (HS6.out.draw hs7 hg7)
      have e5 : IntKind.i64.wrap (Y + r) = Y + r := IntWalk.i64_in _ (by omega)
      obtain ⟨Z, hZ⟩ : ∃ Z, Y + r = Z := ⟨_, rfl⟩
      have hZb : 0 ≤ Z ∧ Z ≤ 200000 := by omega
      rw [hZ] at e5
      clear hs7 hg7 HS6
      obtain ⟨c0, c1, fz, d0, d1, HSr, HG⟩ := (HS7).out.fin X (Z)
      go_wp2_with fail
      exact bodyPost_ret (v := ptV X (Z)) (by simp [results, Tryz.results68, go_sem, d0, d1]) rfl ⟨X, Z, rfl, by omega, by omega, HSr.out.more (by omega), HG.out⟩
  · go_wp2_with fail
    refine (pickN_c 200 lo b (a + 8) _ HS4.out.sr (by omega) (by omega)).mono ?_
    rintro e w5 ⟨t, rfl, t0, t1, hs5, hg5⟩
    have HS5 := Lib.hid (HS4.out.draw hs5 hg5)
    have e6 : IntKind.i64.wrap (X + t) = X + t := IntWalk.i64_in _ (by omega)
    obtain ⟨X2, hX2⟩ : ∃ X2, X + t = X2 := ⟨_, rfl⟩
    have hX2b : 0 ≤ X2 ∧ X2 ≤ 200000 := by omega
    rw [hX2] at e6
    clear hs5 hg5 HS4
    go_wp2_with fail
    refine (one_c 3 lo b (a + 10) _ (HS5).out.sr (by omega) (by omega)).mono ?_
    rintro e w6 ⟨an2, rfl, hs6, hg6⟩
    have HS6 := Lib.hid ((HS5).out.draw hs6 hg6)
    clear hs6 hg6 HS5
    cases an2
    · obtain ⟨c0, c1, fz, d0, d1, HSr, HG⟩ := (HS6).out.fin X2 (Y)
      go_wp2_with fail
      exact bodyPost_ret (v := ptV X2 (Y)) (by simp [results, Tryz.results68, go_sem, d0, d1]) rfl ⟨X2, Y, rfl, by omega, by omega, HSr.out.more (by omega), HG.out⟩
    · go_wp2_with fail
      refine (pickN_c 200 lo b (a + 10 + 2) _ HS6.out.sr (by omega) (by omega)).mono ?_
      rintro e w7 ⟨r, rfl, r0, r1, hs7, hg7⟩
      have HS7 := Lib.hid (HS6.out.draw hs7 hg7)
      have e5 : IntKind.i64.wrap (Y + r) = Y + r := IntWalk.i64_in _ (by omega)
      obtain ⟨Z, hZ⟩ : ∃ Z, Y + r = Z := ⟨_, rfl⟩
      have hZb : 0 ≤ Z ∧ Z ≤ 200000 := by omega
      rw [hZ] at e5
      clear hs7 hg7 HS6
      obtain ⟨c0, c1, fz, d0, d1, HSr, HG⟩ := (HS7).out.fin X2 (Z)
      go_wp2_with fail
      exact bodyPost_ret (v := ptV X2 (Z)) (by simp [results, Tryz.results68, go_sem, d0, d1]) rfl ⟨X2, Z, rfl, by omega, by omega, HSr.out.more (by omega), HG.out⟩
end Go.Proofs.YtpfnnjcochhklaaGreatDoor
