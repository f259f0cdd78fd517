/- The text of a character: the program: its head. -/
import Derived.Test.YtomjdkjkdmieaaaDoorChTxI
namespace Go.Proofs.YtomjdkjkdmieaaaDoor
open Go.RowKit
theorem infoT : (Tryd.prog.info? 9).map (fun i => (i.zero, i.size, i.bytes)) = some (some (.string ByteArray.empty), 1, 16) := by kernel_rfl
theorem strT_one (s : ByteArray) : ∀ u ∈ strC s, u.oneCell' = true := by simp [strC, Value.oneCell']
theorem own_ccT {w : World} {base : Nat} {e : TypeId} {sz n c : Nat} {A : Option Addr} {xs : List Value} (h : w.ownsRow base e sz (.slice A n c) n xs) : n ≤ c := by
  rcases h.2 with ⟨hv, hn⟩ | ⟨g, cap, cur, hv, _, _, h1, _⟩
  · injection hv with _ _ e3
    omega
  · injection hv with e1 _ e3
    omega
theorem kindT_len {k : Int} (h0 : 0 ≤ k) (h1 : k ≤ 8) : (kindT k).size ≤ 3 := by
  obtain ⟨n, rfl⟩ : ∃ n : Nat, k = n := ⟨k.toNat, by omega⟩
  have : n ≤ 8 := by omega
  have key : ∀ m : Nat, m ≤ 8 → (kindT (m : Int)).size ≤ 3 := by decide
  exact key n this
def joinT (gs : List Int) : ByteArray := ⟨(Lib.join ((gs.map decB).map (·.data.toList)) [43]).toArray⟩
theorem joinT_len {gs : List Int} (h : ∀ g ∈ gs, 1 ≤ g ∧ g ≤ 9) (hl : gs.length ≤ 4) : (joinT gs).size ≤ 88 := by
  cases gs with
  | nil => simp [joinT, Lib.join_nil, ByteArray.size]
  | cons g r =>
    have h1 := congrArg ByteArray.size (grp_join g r)
    have h2 := grpT_len h (r.length + 1)
    rw [ByteArray.size_append] at h1
    rw [List.length_cons] at hl
    unfold joinT
    omega
theorem grpX_join {gs : List Int} (h : gs ≠ []) : grpX gs = ⟨#[40]⟩ ++ joinT gs ++ ⟨#[41]⟩ := by
  cases gs with
  | nil => exact absurd rfl h
  | cons g r => rw [grpX, if_neg h, List.length_cons, grp_join]; rfl
theorem joinT_c (A : Option Addr) (n c base : Nat) (gs : List Int) (w : World) (h : w.ownsRow base 9 1 (.slice A n c) n ((gs.map decB).flatMap strC)) (hl : gs.length = n) (hn : 0 < n) (h4 : n ≤ 4) (hg : ∀ g ∈ gs, 1 ≤ g ∧ g ≤ 9) :
    Calls Tryd.prog 37 #[.slice A n c, .string ⟨#[43]⟩] w fun e w' => e = .returned (.string (joinT gs)) ∧ Below w.heap.size w w' := by
  have hc := own_ccT h
  have hs := Sl.of_own h
  obtain ⟨g, rfl, hg1, hg2⟩ := own_form h hn
  have hlm : (gs.map decB).length = n := by rw [List.length_map, hl]
  have hj := joinT_len hg (by omega)
  have hJ := Tryd.strings_Join g 0 c (gs.map decB) ⟨#[43]⟩ w (fun j x hx => by
    have hjn : j < n := by rw [← hlm]; exact (List.getElem?_eq_some_iff.1 hx).1
    obtain ⟨b, off, s, hA, hb, hx', hcell⟩ := hs.str j hjn
    injection hA with hA
    injection hA with e1 e2 _
    subst e1 e2
    rw [hcell, Option.some.inj (hx.symm.trans hx')]) hg2 (by rw [hlm]; omega) (by rw [hlm]; omega) (by
      have : (Lib.join ((gs.map decB).map (·.data.toList)) [43]).length = (joinT gs).size := by simp [joinT, ByteArray.size]
      show (Lib.join ((gs.map decB).map (·.data.toList)) [43]).length ≤ _
      omega)
  rw [hlm] at hJ
  exact hJ
set_option maxRecDepth 100000 in
set_option maxHeartbeats 2000000 in
theorem headText_c (A : Option Addr) (n c : Nat) (x : Ch) (w : World) (sl : Sl w w.heap.size 1 A n (x.gs.flatMap intC)) (hn : n ≤ 1048576) (hlz : x.l.size ≤ 1048576) (hs : x.cs.size ≤ 1048576) (hv : validB x = true) (ht : Tab10 w) :
    Calls Tryd.prog 17 #[chV x.k A n c x.l x.cs x.p] w fun e w' => e = .returned (.string (headT x)) ∧ Below w.heap.size w w' := by
  obtain ⟨p0, hp, hy0, hy1, hy2⟩ := info_parts infoT
  obtain ⟨hk, h4, hgs, h8, hn8⟩ := fits_cases hv
  have hl : x.gs.length = n := sl.len intC 1 intC_len (by omega)
  have hb0 : Below w.heap.size w (w.alloc (chOT A n c x 27)) := by (repeat (first | (with_reducible assumption) | (with_reducible exact Below.refl _ _) | exact Nat.le_refl _ | exact Below.size (by with_reducible assumption) | (with_reducible refine Below.drew ?_) | (with_reducible refine below_drewN ?_ _) | (with_reducible refine Below.alloc ?_ ?_ _) | (with_reducible refine Below.setCell ?_ ?_ _) | (with_reducible refine le_alloc ?_ _) | (with_reducible refine le_set ?_ _ _) | (with_reducible refine le_drew ?_) | (with_reducible refine le_drewN ?_ _) | omega | (dsimp only; omega)))
  obtain ⟨c0, c1, c2, c3, c4, hba, -, -, -, -⟩ := chp_box (c := c) 27 sl hn hlz hs
  simp only [Nat.zero_add] at c1 c2 c3 c4
  obtain ⟨w0, hw⟩ : ∃ w0, w.alloc (chOT A n c x 27) = w0 := ⟨_, rfl⟩
  rw [hw] at hb0 c0 c1 c2 c3 c4 hba
  have sl0 := sl.next hb0
  have ht0 := ht.next hb0
  obtain ⟨T, hT⟩ : ∃ T, kindT x.k = T := ⟨_, rfl⟩
  have hK : ∀ w1, Calls Tryd.prog 35 #[.int .i64 x.k] w1 fun e w' => e = .returned (.string T) ∧ Below w1.heap.size w1 w' := fun w1 => hT ▸ kindText_c x.k w1 (by omega) (by omega)
  have hTl : T.size ≤ 3 := hT ▸ kindT_len (by omega) (by omega)
  have HK := Lib.hid hK; clear hK
  by_cases hk8 : x.k = 8
  · obtain ⟨hg0, hl1⟩ := h8 hk8
    have hH : headT x = T ++ ⟨#[40]⟩ ++ x.l ++ ⟨#[41]⟩ := by rw [headT, if_pos hk8, ← hT, hk8, bassoc, bassoc]
    rw [hH]
    have q1 : ¬ 9223372036854775807 < T.size + 1 := by omega
    have q2 : ¬ 9223372036854775807 < T.size + 1 + x.l.size := by omega
    have q3 : ¬ 9223372036854775807 < T.size + 1 + x.l.size + 1 := by omega
    have hk8' : (x.k == 8) = true := by simpa using hk8
    have HH := Lib.hid hH; clear hH
    have Hk8 := Lib.hid hk8; clear hk8
    clear hT hgs hn8 h8 ht ht0 hg0 hl1
    go_enter Tryd.func17, Tryd.ntmps17
    go_wp2_with fail
    try rw [hw]
    clear hw
    refine (HK.out _).mono ?_
    rintro e w1 ⟨rfl, hb1⟩
    have r1 := keepC hb1 w.heap.size hba
    go_wp2_with fail
    go_ret
    exact ⟨rfl, hb0.trans (hb1.mono hb0.size)⟩
  · have hk8' : (x.k == 8) = false := by simpa using hk8
    by_cases hn0 : n = 0
    · subst hn0
      have hg0 : x.gs = [] := List.eq_nil_of_length_eq_zero (by omega)
      have hL : isL x.l = false ∧ isE x.l = true := by
        rcases hn8 hk8 with h | h
        · exact absurd hg0 h.2
        · exact h
      have hH : headT x = T := by rw [headT, if_neg hk8, hg0, grpX, if_pos rfl, ltrX, hL.1, hT]; rw [if_neg (by simp), bempty, bempty]
      rw [hH]
      have hE : x.l.toList.isEmpty = true := hL.2
      have HH := Lib.hid hH; clear hH
      clear hT hgs hn8 h8 ht ht0 hL
      go_enter Tryd.func17, Tryd.ntmps17
      go_wp2_with fail
      try rw [hw]
      clear hw
      refine (HK.out _).mono ?_
      rintro e w1 ⟨rfl, hb1⟩
      have r1 := keepC hb1 w.heap.size hba
      go_wp2_with fail
      go_ret
      exact ⟨rfl, hb0.trans (hb1.mono hb0.size)⟩
    · have hng : x.gs ≠ [] := fun e => hn0 (by rw [← hl, e]; rfl)
      have hnp : (0 : Int) < (n : Int) := by omega
      have hnn : 0 < n := by omega
      obtain ⟨J, hJe⟩ : ∃ J, joinT x.gs = J := ⟨_, rfl⟩
      have hJl : J.size ≤ 88 := by rw [← hJe]; exact joinT_len hgs h4
      have hX : grpX x.gs = ⟨#[40]⟩ ++ J ++ ⟨#[41]⟩ := by rw [← hJe]; exact grpX_join hng
      have hD : ∀ (v : Int) (w1 : World), 1 ≤ v ∧ v ≤ 9 → Below w0.heap.size w0 w1 → Calls Tryd.prog 36 #[.int .i64 v] w1 fun e w' => e = .returned (.string (decB v)) ∧ Below w1.heap.size w1 w' := fun v w1 a hb => decimal_c v w1 (by omega) (by omega) (ht0.next hb)
      have hJn : ∀ A' c' w1, w1.ownsRow w0.heap.size 9 1 (.slice A' n c') n ((x.gs.map decB).flatMap strC) → Calls Tryd.prog 37 #[.slice A' n c', .string ⟨#[43]⟩] w1 fun e w' => e = .returned (.string J) ∧ Below w1.heap.size w1 w' := fun A' c' w1 ho => hJe ▸ joinT_c A' n c' w0.heap.size x.gs w1 ho hl (by omega) (by omega) hgs
      have q1 : ¬ 9223372036854775807 < 1 + J.size := by omega
      have q2 : ¬ 9223372036854775807 < 1 + J.size + 1 := by omega
      have q3 : ¬ 9223372036854775807 < T.size + (1 + J.size + 1) := by omega
      have q4 : ¬ 9223372036854775807 < T.size + (1 + J.size + 1) + 4 := by omega
      have hH : headT x = T ++ (⟨#[40]⟩ ++ J ++ ⟨#[41]⟩) ++ ltrX x.l := by rw [headT, if_neg hk8, hX, hT, ← bassoc]
      have Hl := Lib.hid hl; clear hl
      have HX := Lib.hid hX; clear hX
      have HJe := Lib.hid hJe; clear hJe
      have HD := Lib.hid hD; clear hD
      have HJn := Lib.hid hJn; clear hJn
      have Hgs := Lib.hid hgs; clear hgs
      have Hn0 := Lib.hid hn0; clear hn0
      have Hng := Lib.hid hng; clear hng
      have HH := Lib.hid hH; clear hH
      have HT := Lib.hid hT; clear hT
      have H8 := Lib.hid h8; clear h8
      have Hn8 := Lib.hid hn8; clear hn8
      have HT0 := Lib.hid ht0; clear ht0
      clear ht
      have hsz0 : w.heap.size ≤ w0.heap.size := by omega
      go_enter Tryd.func17, Tryd.ntmps17
      go_wp2_with fail
      try rw [hw]
      clear hw
      refine (HK.out _).mono ?_
      rintro e w1 ⟨rfl, hb1⟩
      have r1 := keepC hb1 w.heap.size hba
      have hov := World.ownsRow_made (base := w0.heap.size) (e := 9) (size := 1) w1 #[] 0 hb1.size (by simp [maxLen]) rfl
      have hbv : Below w0.heap.size w0 (w1.alloc (.cells #[] 9)) := hb1.alloc hb1.size _
      have r1' := keepC hbv w.heap.size hba
      go_wp2_with fail
      go_loopw [4, 27] (fun y i wr => ∃ k : Nat, k ≤ n ∧ i = .int .i64 k ∧ wr.ownsRow w0.heap.size 9 1 y k (((x.gs.take k).map decB).flatMap strC) ∧ Below w0.heap.size w0 wr) (fun _ i _ => n - (intOf i).toNat)
      case atStart => exact ⟨0, Nat.zero_le _, rfl, hov, hbv⟩
      case round =>
        clear hov hbv r1 r1'
        obtain ⟨k, hk', rfl, hov, hbw⟩ := hrel
        obtain ⟨A3, c3', rfl⟩ := own_slice hov
        have k0 : (0 : Int) ≤ (k : Int) := by omega
        by_cases hlt : k < n
        · have k1 : (k : Int) < (n : Int) := by omega
          obtain ⟨b, off, v, hA, hbb, hxv, cv⟩ := (sl0.next hbw).int k hlt
          have hvb := Hgs.out v (List.mem_of_getElem? hxv)
          have e63 : k + 1 ≤ maxLen := by unfold maxLen; omega
          have e32 : (k + 1) * 16 ≤ 140737488355328 := by omega
          have htk : (x.gs.take (k + 1)).map decB = (x.gs.take k).map decB ++ [decB v] := by rw [List.take_add_one, hxv, Option.toList_some, List.map_append]; rfl
          have E63 := Lib.hid e63; clear e63
          have E32 := Lib.hid e32; clear e32
          have Htk := Lib.hid htk; clear htk
          have Hxv := Lib.hid hxv; clear hxv
          subst hA
          go_wp2_with fail
          refine (HD.out v _ hvb hbw).mono ?_
          rintro e w3 ⟨rfl, hb3⟩
          have hov3 := own_next hov hb3
          have hbw3 := hbw.trans (hb3.mono hbw.size)
          clear hov
          go_wp2_with (at_builtin; refine wpl_append _ rfl (.tmp 31) (.tmp 34) _ rfl (w0.heap.size) 9 p0 _ 1 16 Tryd.underlying46 hp hy0 hy1 hy2 rfl (by omega) _ (k) _ rfl ((hov3).alloc _) ((w3).heap.size + 1) (some ⟨(w3).heap.size, 0, none⟩) 1 1 (strC (decB v)) rfl (Sl.new (w3) 9 _ 1 1 rfl) (strT_one _) E63.out E32.out (le_alloc (hbw3).size _) ?_; intro v4 w4 ho4 hg4 hat4)
          go_roundw
          case rel =>
            refine ⟨k + 1, by omega, by go_num, ?_, (hbw3.alloc hbw3.size _).grown hg4 (le_alloc hbw3.size _) fun g hg => (hov3.lt g hg).1⟩
            rw [Htk.out, List.flatMap_append]
            simpa using ho4
          case measure => simp [intOf]; omega
        · obtain rfl : k = n := by omega
          have hl' := Hl.out
          rw [List.take_of_length_le (by omega)] at hov
          have r2 := keepC hbw w.heap.size hba
          clear hl'
          go_wp2_with fail
          refine (HJn.out _ _ _ hov).mono ?_
          rintro e w5 ⟨rfl, hb5⟩
          have hbw5 := hbw.trans (hb5.mono hbw.size)
          have r3 := keepC hbw5 w.heap.size hba
          clear r2
          rcases Hn8.out hk8 with ⟨hL, _⟩ | ⟨hL, hE⟩
          · have hH := HH.out
            rw [ltrX, if_pos hL] at hH
            have hE : x.l.toList.isEmpty = false := by
              have h1 : x.l.toList = [76] := by simpa [isL] using hL
              rw [h1]; rfl
            have HH2 := Lib.hid hH; clear hH
            have HL := Lib.hid hL; clear hL
            go_wp2_with fail
            go_ret
            exact ⟨ret_eq (congrArg Value.string HH2.out.symm), hb0.trans (hbw5.mono hb0.size)⟩
          · have hH := HH.out
            rw [ltrX, if_neg (by rw [hL]; simp), bempty] at hH
            have hE' : x.l.toList.isEmpty = true := hE
            have HH2 := Lib.hid hH; clear hH
            have HL := Lib.hid hL; clear hL
            clear hE
            go_wp2_with fail
            go_ret
            exact ⟨ret_eq (congrArg Value.string HH2.out.symm), hb0.trans (hbw5.mono hb0.size)⟩
end Go.Proofs.YtomjdkjkdmieaaaDoor
