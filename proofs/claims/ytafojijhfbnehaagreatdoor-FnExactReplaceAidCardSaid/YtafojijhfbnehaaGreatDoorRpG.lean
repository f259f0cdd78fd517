/- RpG: several of my texts in one. -/
import Derived.Test.YtafojijhfbnehaaGreatDoorOwnG
import Derived.Test.YtafojijhfbnehaaGreatDoorOwnJ
import Derived.Test.YtafojijhfbnehaaGreatDoorAidsG
import Derived.Test.YtafojijhfbnehaaGreatDoorAnS
import Derived.Test.YtafojijhfbnehaaGreatDoorAnI
/- Lists of aids of their own: both sides. -/
namespace Go.Proofs.YtafojijhfbnehaaGreatDoor
open Go.RowKit
theorem AidNew.base {w : World} {b b' : Nat} {z : AidG} (h : AidNew w b z) (hb : b' ≤ b) : AidNew w b' z := ⟨own_base h.g hb, own_base h.s hb⟩
theorem AidNew.grown {w w' : World} {base base' : Nat} {z : AidG} {sz n : Nat} {v : Value} {xs : List Value} (h : AidNew w base z) (hu : w.ownsRow base' 53 sz v n xs) (hg : w.grownBy w' v.ownBlock) : AidNew w' base z :=
  ⟨own_grown h.g hg (own_ne h.g hu (by decide)), own_grown h.s hg (own_ne h.s hu (by decide))⟩
/-- One aid is appended. -/
theorem AidOwn.push {w w0 w6 : World} {base k : Nat} {v v6 : Value} {zs : List AidG} {z : AidG} (h : AidOwn w base v k zs) (hz : AidNew w base z) (hb : Below w.heap.size w w0) (hg : w0.grownBy w6 v.ownBlock)
    (ho : w6.ownsRow base 53 16 v6 (k + 1) (zs.flatMap AidG.cells ++ z.cells)) : AidOwn w6 base v6 (k + 1) (zs ++ [z]) := by
  have h0 := h.next hb
  refine ⟨by rw [List.flatMap_append]; simpa using ho, fun y hy => ?_⟩
  rcases List.mem_append.1 hy with h2 | h2
  · exact (h0.new y h2).grown h0.own hg
  · simp only [List.mem_singleton] at h2
    subst h2
    exact (hz.next hb).grown h0.own hg
set_option maxRecDepth 100000 in
set_option maxHeartbeats 2000000 in
theorem l12OwnAll_c (A : Option Addr) (n c : Nat) (zs : List AidG) (w : World) (h : AidSl w A n zs) (hm : n ≤ 1048576) :
    Calls Tryz.prog 99 #[.slice A n c] w fun e w' => ∃ A' c' zs', e = .returned (.slice A' n c') ∧ zs'.map AidG.a = zs.map AidG.a ∧ AidOwn w' w.heap.size (.slice A' n c') n zs' ∧ Below w.heap.size w w' := by
  obtain ⟨i0, hi, hz0, hz1, hz2⟩ := info_parts aidInfo
  have hl := h.len
  have hov := World.ownsRow_made (base := w.heap.size) (e := 53) (size := 16) w #[] 0 (Nat.le_refl _) (by simp [maxLen]) rfl
  have hbv : Below w.heap.size w (w.alloc (.cells #[] 53)) := (Below.refl _ _).alloc (Nat.le_refl _) _
  have Hl := Lib.hid hl; clear hl
  go_enter Tryz.func99, Tryz.ntmps99
  go_wp2_with fail
  go_loopw [3, 4] (fun o i wr => ∃ (k : Nat) (ys : List AidG), k ≤ n ∧ i = .int .i64 k ∧ Hid (ys.map AidG.a = (zs.map AidG.a).take k) ∧ AidOwn wr w.heap.size o k ys ∧ Below w.heap.size w wr) (fun _ i _ => n - (intOf i).toNat)
  case atStart => exact ⟨0, [], Nat.zero_le _, rfl, Lib.hid (by simp), ⟨hov, fun z hz => by cases hz⟩, hbv⟩
  case round =>
    clear hov hbv
    obtain ⟨k, ys, hk, rfl, Hys, hO, hbw⟩ := hrel
    obtain ⟨A3, c3, rfl⟩ := own_slice hO.own
    have k0 : (0 : Int) ≤ (k : Int) := by omega
    by_cases hlt : k < n
    · have k1 : (k : Int) < (n : Int) := by omega
      obtain ⟨b, off, z, rfl, hx, hzo, hp⟩ := (h.next hbw).get k hlt
      have hOw := l12Own_c b (off + k * 16) z wr hzo hp
      have e63 : k + 1 ≤ maxLen := by unfold maxLen; omega
      have e32 : (k + 1) * 208 ≤ 140737488355328 := by omega
      clear hp hzo
      have HOw := Lib.hid hOw; clear hOw
      have Hx := Lib.hid hx; clear hx
      have E63 := Lib.hid e63; clear e63
      have E32 := Lib.hid e32; clear e32
      have HO := Lib.hid hO; clear hO
      go_wp2_with fail
      refine HOw.out.mono ?_
      rintro e w2 ⟨z2, rfl, ha2, hN2, hb2⟩
      have HO2 := Lib.hid (HO.out.next hb2)
      have HN2 := Lib.hid (hN2.base hbw.size)
      have hb2w := hbw.trans (hb2.mono hbw.size)
      have hbA : Below w2.heap.size w2 (w2.alloc (.cells z2.cells.toArray 53)) := (Below.refl _ _).alloc (Nat.le_refl _) _
      have HS2 := Lib.hid (Sl.new w2 53 z2.cells 1 16 rfl)
      have HA2 := Lib.hid (HO2.out.own.alloc (.cells z2.cells.toArray 53))
      have HLE := Lib.hid (le_alloc hb2w.size (.cells z2.cells.toArray 53))
      clear hN2 HO
      have Ha2 := Lib.hid ha2; clear ha2
      go_wp2_with (at_builtin; refine wpl_append _ rfl (.tmp 12) (.tmp 17) _ rfl w.heap.size 53 i0 _ 16 208 Tryz.underlying24 hi hz0 hz1 hz2 rfl (by omega) _ k _ rfl HA2.out (w2.heap.size + 1) (some ⟨w2.heap.size, 0, none⟩) 1 1 z2.cells rfl HS2.out (aidg_one z2) E63.out E32.out HLE.out ?_; intro v6 w6 ho6 hg6 hat6)
      have HOn := HO2.out.push HN2.out hbA hg6 ho6
      have hb6 : Below w.heap.size w w6 := (hb2w.trans (hbA.mono hb2w.size)).grown hg6 HLE.out fun g hg => (HO2.out.own.lt g hg).1
      go_roundw
      case rel => exact ⟨k + 1, ys ++ [z2], by omega, by go_num, Lib.hid (by rw [List.map_append, Hys.out, List.take_add_one, List.getElem?_map, Hx.out]; simp [Ha2.out]), HOn, hb6⟩
      case measure => simp [intOf]; omega
    · obtain rfl : k = n := by omega
      go_wp2_with fail
      go_ret
      exact ⟨A3, c3, ys, rfl, by rw [Hys.out, List.take_of_length_le (by rw [List.length_map, Hl.out]; omega)], hO, hbw⟩
end Go.Proofs.YtafojijhfbnehaaGreatDoor
/- Lists of aids whose groups and sectors lie in blocks of their own, each another. -/
namespace Go.Proofs.YtafojijhfbnehaaGreatDoor
open Go.RowKit
def difV (v v' : Value) : Prop := v.ownBlock = none ∨ v.ownBlock ≠ v'.ownBlock
/-- Different aids of the list hold different blocks. -/
def AidDif (zs : List AidG) : Prop := ∀ (i j : Nat) (z z' : AidG), i ≠ j → zs[i]? = some z → zs[j]? = some z' → difV (.slice z.A z.n z.c) (.slice z'.A z'.n z'.c) ∧ difV (.slice z.B z.m z.d) (.slice z'.B z'.m z'.d)
theorem AidDif.nil : AidDif [] := fun i j z z' _ h => by simp at h
theorem difV_lt {v v' : Value} {B : Nat} (h : ∀ k, v.ownBlock = some k → k < B) (h' : ∀ k, v'.ownBlock = some k → B ≤ k) : difV v v' ∧ difV v' v := by
  constructor
  · cases hv : v.ownBlock with
    | none => exact .inl hv
    | some k =>
      refine .inr fun e => ?_
      have := h k hv
      have := h' k (by rw [← e]; exact hv)
      omega
  · cases hv : v'.ownBlock with
    | none => exact .inl hv
    | some k =>
      refine .inr fun e => ?_
      have := h' k hv
      have := h k (by rw [← e]; exact hv)
      omega
/-- One aid more, whose blocks lie above all those of the others. -/
theorem AidDif.push {w w' : World} {base : Nat} {zs : List AidG} {z : AidG} (h : AidDif zs) (ho : ∀ y ∈ zs, AidNew w base y) (hz : AidNew w' w.heap.size z) : AidDif (zs ++ [z]) := by
  have one : ∀ y ∈ zs, (difV (.slice y.A y.n y.c) (.slice z.A z.n z.c) ∧ difV (.slice y.B y.m y.d) (.slice z.B z.m z.d)) ∧ (difV (.slice z.A z.n z.c) (.slice y.A y.n y.c) ∧ difV (.slice z.B z.m z.d) (.slice y.B y.m y.d)) := fun y hy => by
    have a := difV_lt (fun k hk => ((ho y hy).g.lt k hk).2) (fun k hk => (hz.g.lt k hk).1)
    have b := difV_lt (fun k hk => ((ho y hy).s.lt k hk).2) (fun k hk => (hz.s.lt k hk).1)
    exact ⟨⟨a.1, b.1⟩, ⟨a.2, b.2⟩⟩
  intro i j y y' hij hi hj
  rcases Nat.lt_or_ge i zs.length with h1 | h1
  · rw [List.getElem?_append_left h1] at hi
    rcases Nat.lt_or_ge j zs.length with h2 | h2
    · rw [List.getElem?_append_left h2] at hj
      exact h i j y y' hij hi hj
    · rw [List.getElem?_append_right h2] at hj
      obtain ⟨q, hq⟩ : ∃ q, j - zs.length = q := ⟨_, rfl⟩
      rw [hq] at hj
      cases q with
      | succ q => simp at hj
      | zero =>
        simp only [List.getElem?_cons_zero, Option.some.injEq] at hj
        subst hj
        exact (one y (List.mem_of_getElem? hi)).1
  · rw [List.getElem?_append_right h1] at hi
    obtain ⟨q, hq⟩ : ∃ q, i - zs.length = q := ⟨_, rfl⟩
    rw [hq] at hi
    cases q with
    | succ q => simp at hi
    | zero =>
      simp only [List.getElem?_cons_zero, Option.some.injEq] at hi
      subst hi
      rcases Nat.lt_or_ge j zs.length with h2 | h2
      · rw [List.getElem?_append_left h2] at hj
        exact (one y' (List.mem_of_getElem? hj)).2
      · rw [List.getElem?_append_right h2] at hj
        obtain ⟨q', hq'⟩ : ∃ q, j - zs.length = q := ⟨_, rfl⟩
        rw [hq'] at hj
        cases q' with
        | succ q => simp at hj
        | zero => omega
/-- One aid is written anew. -/
theorem AidDif.set {w w' : World} {base : Nat} {zs : List AidG} {z : AidG} {k : Nat} (h : AidDif zs) (ho : ∀ y ∈ zs, AidNew w base y) (hz : AidNew w' w.heap.size z) : AidDif (zs.set k z) := by
  have one : ∀ y ∈ zs, (difV (.slice y.A y.n y.c) (.slice z.A z.n z.c) ∧ difV (.slice y.B y.m y.d) (.slice z.B z.m z.d)) ∧ (difV (.slice z.A z.n z.c) (.slice y.A y.n y.c) ∧ difV (.slice z.B z.m z.d) (.slice y.B y.m y.d)) := fun y hy => by
    have a := difV_lt (fun k hk => ((ho y hy).g.lt k hk).2) (fun k hk => (hz.g.lt k hk).1)
    have b := difV_lt (fun k hk => ((ho y hy).s.lt k hk).2) (fun k hk => (hz.s.lt k hk).1)
    exact ⟨⟨a.1, b.1⟩, ⟨a.2, b.2⟩⟩
  intro i j y y' hij hi hj
  by_cases hik : i = k
  · subst hik
    have hil : i < zs.length := by have := (List.getElem?_eq_some_iff.1 hi).1; simpa using this
    rw [List.getElem?_set_self hil] at hi
    rw [List.getElem?_set_ne hij] at hj
    injection hi with hi
    subst hi
    exact (one y' (List.mem_of_getElem? hj)).2
  · rw [List.getElem?_set_ne (Ne.symm hik)] at hi
    by_cases hjk : j = k
    · subst hjk
      have hjl : j < zs.length := by have := (List.getElem?_eq_some_iff.1 hj).1; simpa using this
      rw [List.getElem?_set_self hjl] at hj
      injection hj with hj
      subst hj
      exact (one y (List.mem_of_getElem? hi)).1
    · rw [List.getElem?_set_ne (Ne.symm hjk)] at hj
      exact h i j y y' hij hi hj
end Go.Proofs.YtafojijhfbnehaaGreatDoor
/- Lists of aids of their own: the program. -/
namespace Go.Proofs.YtafojijhfbnehaaGreatDoor
open Go.RowKit
abbrev aidZO (E : TypeId) : Obj := .cells #[.int .i64 0, .string { data := #[] }, .int .i64 0, .int .i64 0, .int .i64 0, .int .i64 0, .string { data := #[] }, .string { data := #[] }, .string { data := #[] }, .int .i64 0, .slice none 0 0, .string { data := #[] }, .string { data := #[] }, .int .i64 0, .slice none 0 0, .int .i64 0] E
theorem AidF.zero (w : World) (E : TypeId) : AidF (w.alloc (aidZO E)) w.heap.size aidZ := AidF.box w aidZ E
set_option maxRecDepth 100000 in
set_option maxHeartbeats 4000000 in
theorem copyAids_c (A : Option Addr) (n c : Nat) (zs : List AidG) (w : World) (h : AidSl w A n zs) (hm : n ≤ 1048576) :
    Calls Tryz.prog 80 #[.slice A n c] w fun e w' => ∃ A' c' zs', e = .returned (.slice A' n c') ∧ zs'.map AidG.a = zs.map AidG.a ∧ AidOwn w' w.heap.size (.slice A' n c') n zs' ∧ AidDif zs' ∧ Below w.heap.size w w' := by
  obtain ⟨i0, hi, hz0, hz1, hz2⟩ := info_parts aidInfo
  have hl := h.len
  have hB : i0.bytes * (n + 1) ≤ 281474976710656 := by rw [hz2]; omega
  have hM : n + 1 ≤ maxLen := by unfold maxLen; omega
  have Hl := Lib.hid hl; clear hl
  have HB := Lib.hid hB; clear hB
  have HM := Lib.hid hM; clear hM
  go_enter Tryz.func80, Tryz.ntmps80
  go_wp2_with (at_make; refine wpList_make_own _ rfl _ _ _ rfl w.heap.size 53 i0 _ 16 Tryz.underlying24 hi hz0 hz1 _ _ _ (n + 1) rfl rfl rfl HB.out HM.out (Nat.le_refl _) ?_; intro w1 hown hgr)
  have hbv : Below w.heap.size w w1 := (Below.refl _ _).grown hgr (Nat.le_refl _) (by simp)
  clear hgr
  go_loopw [3, 12] (fun o i wr => ∃ (k : Nat) (ys : List AidG), k ≤ n ∧ i = .int .i64 k ∧ Hid (ys.map AidG.a = (zs.map AidG.a).take k) ∧ AidOwn wr w.heap.size o k ys ∧ Hid (AidDif ys) ∧ Below w.heap.size w wr) (fun _ i _ => n - (intOf i).toNat)
  case atStart => exact ⟨0, [], Nat.zero_le _, rfl, Lib.hid (by simp), ⟨hown, fun z hz => by cases hz⟩, Lib.hid AidDif.nil, hbv⟩
  case round =>
    clear hown hbv
    obtain ⟨k, ys, hk, rfl, Hys, hO, HD, hbw⟩ := hrel
    obtain ⟨A3, c3, rfl⟩ := own_slice hO.own
    have k0 : (0 : Int) ≤ (k : Int) := by omega
    by_cases hlt : k < n
    · have k1 : (k : Int) < (n : Int) := by omega
      obtain ⟨b, off, z, rfl, hx, hzo, hp⟩ := (h.next hbw).get k hlt
      obtain ⟨c0, c1, c2, c3', c4, c5, c6, c7, c8, c9, c10, c11, c12, c13, c14, c15, _⟩ := hp
      have FB := (AidF.zero wr 53).set (z)
      have hbx := belowW (wr).heap.size (Nat.le_refl _) (AidG.cells (z)) 0 _ ((Below.refl (wr).heap.size wr).alloc (Nat.le_refl _) (aidZO 53))
      have TT := (AidF.zero wr 53).there 0 16 (by omega)
      have SZ : (wr).heap.size < (((wr).alloc (aidZO 53)).setCells (wr).heap.size 0 (AidG.cells (z))).heap.size := by rw [sizeW]; simp
      obtain ⟨w7, hWW⟩ : ∃ x, ((wr).alloc (aidZO 53)).setCells (wr).heap.size 0 (AidG.cells (z)) = x := ⟨_, rfl⟩
      rw [hWW] at FB hbx SZ
      have OO : (List.toArray (AidG.cells (z))).all (·.oneCell') = true := all_oneCell_toArray (aidg_one _)
      have HTT := Lib.hid TT; clear TT
      have HWW := Lib.hid hWW; clear hWW
      have HOO := Lib.hid OO; clear OO
      have hOw := copyAid_c z w7 (hzo.next hbx)
      have HO7 := Lib.hid (hO.next hbx)
      have hb7w := hbw.trans (hbx.mono hbw.size)
      have e63 : k + 1 ≤ maxLen := by unfold maxLen; omega
      have e32 : (k + 1) * 208 ≤ 140737488355328 := by omega
      obtain ⟨f0, f1, f2, f3, f4, f5, f6, f7, f8, f9, f10, f11, f12, f13, f14, f15, _⟩ := (FB).p
      simp only [Nat.zero_add] at f1 f2 f3 f4 f5 f6 f7 f8 f9 f10 f11 f12 f13 f14 f15
      clear hzo hO FB hbx
      have HOw := Lib.hid hOw; clear hOw
      have Hx := Lib.hid hx; clear hx
      have E63 := Lib.hid e63; clear e63
      have E32 := Lib.hid e32; clear e32
      go_wp2_with (first | (refine wpList_store_mid rfl _ _ _ rfl (wr).heap.size 0 (List.toArray (AidG.cells (z))) rfl rfl HTT.out (by kernel_rfl) HOO.out ?_; rw [show ((wr).alloc (aidZO 53)).setCells (wr).heap.size 0 (List.toArray (AidG.cells (z))).toList = w7 from HWW.out]))
      clear HTT HWW HOO c0 c1 c2 c3' c4 c5 c6 c7 c8 c9 c10 c11 c12 c13 c14 c15
      refine HOw.out.mono ?_
      rintro e w2 ⟨z2, rfl, ha2, hN2, hb2⟩
      have HO2 := Lib.hid (HO7.out.next hb2)
      have HD2 := Lib.hid (HD.out.push HO7.out.new hN2)
      have HN2 := Lib.hid (hN2.base hb7w.size)
      have hb2w := hb7w.trans (hb2.mono hb7w.size)
      have hbA : Below w2.heap.size w2 (w2.alloc (.cells z2.cells.toArray 53)) := (Below.refl _ _).alloc (Nat.le_refl _) _
      have HS2 := Lib.hid (Sl.new w2 53 z2.cells 1 16 rfl)
      have HA2 := Lib.hid (HO2.out.own.alloc (.cells z2.cells.toArray 53))
      have HLE := Lib.hid (le_alloc hb2w.size (.cells z2.cells.toArray 53))
      clear f0 f1 f2 f3 f4 f5 f6 f7 f8 f9 f10 f11 f12 f13 f14 f15
      clear hN2 HO7
      have Ha2 := Lib.hid ha2; clear ha2
      go_wp2_with (at_builtin; refine wpl_append _ rfl (.tmp 16) (.tmp 19) _ rfl w.heap.size 53 i0 _ 16 208 Tryz.underlying24 hi hz0 hz1 hz2 rfl (by omega) _ k _ rfl HA2.out (w2.heap.size + 1) (some ⟨w2.heap.size, 0, none⟩) 1 1 z2.cells rfl HS2.out (aidg_one z2) E63.out E32.out HLE.out ?_; intro v6 w6 ho6 hg6 hat6)
      have HOn := HO2.out.push HN2.out hbA hg6 ho6
      have hb6 : Below w.heap.size w w6 := (hb2w.trans (hbA.mono hb2w.size)).grown hg6 HLE.out fun g hg => (HO2.out.own.lt g hg).1
      go_roundw
      case rel => exact ⟨k + 1, ys ++ [z2], by omega, by go_num, Lib.hid (by rw [List.map_append, Hys.out, List.take_add_one, List.getElem?_map, Hx.out]; simp [Ha2.out]), HOn, HD2, hb6⟩
      case measure => simp [intOf]; omega
    · obtain rfl : k = n := by omega
      go_wp2_with fail
      go_ret
      exact ⟨A3, c3, ys, rfl, by rw [Hys.out, List.take_of_length_le (by rw [List.length_map, Hl.out]; omega)], hO, HD.out, hbw⟩
end Go.Proofs.YtafojijhfbnehaaGreatDoor
/- ReplaceAid: one aid of a list is written anew; the reference's l12Replace. -/
namespace Go.Proofs.YtafojijhfbnehaaGreatDoor
open Go.RowKit
theorem own_all {base g n c sz : Nat} {e : TypeId} : ∀ (us : List Value) (p : Nat) (w : World) (ys : List Value), w.ownsRow base e sz (.slice (some ⟨g, 0, none⟩) n c) n ys → (w.setCells g p us).ownsRow base e sz (.slice (some ⟨g, 0, none⟩) n c) n (setAll ys p us) ∧ w.grownBy (w.setCells g p us) (some g)
  | [], _, _, _, h => ⟨h, grown_refl _ _⟩
  | u :: r, p, w, ys, h => by
    have s := h.stored p u
    have t := own_all r (p + 1) _ _ s.1
    exact ⟨t.1, grown_trans s.2 t.2⟩
theorem AidOwn.len' {w : World} {base n c : Nat} {A : Option Addr} {zs : List AidG} (h : AidOwn w base (.slice A n c) n zs) : zs.length = n := (Sl.of_own h.own).len AidG.cells 16 AidG.cells_len (by omega)
theorem AidOwn.there {w : World} {base g n c : Nat} {zs : List AidG} (h : AidOwn w base (.slice (some ⟨g, 0, none⟩) n c) n zs) {k : Nat} (hk : k < n) : w.there g (k * 16) 16 := fun j hj => by
  obtain ⟨v, hv⟩ := own_cell h.own (k * 16 + j) (by omega)
  exact ⟨by rw [hv]; rfl, h.own.frozenAt _⟩
theorem AidOwn.setAt {w : World} {base g n c : Nat} {zs : List AidG} {z : AidG} (h : AidOwn w base (.slice (some ⟨g, 0, none⟩) n c) n zs) (hz : AidNew w base z) {k : Nat} (hk : k < n) :
    AidOwn (w.setCells g (k * 16) z.cells) base (.slice (some ⟨g, 0, none⟩) n c) n (zs.set k z) ∧ w.grownBy (w.setCells g (k * 16) z.cells) (some g) := by
  have t := own_all z.cells (k * 16) w _ h.own
  rw [flat_set AidG.cells 16 AidG.cells_len zs k z (by rw [h.len']; exact hk)] at t
  refine ⟨⟨t.1, fun y hy => ?_⟩, t.2⟩
  rcases List.mem_or_eq_of_mem_set hy with h2 | h2
  · exact (h.new y h2).grown h.own t.2
  · subst h2
    exact hz.grown h.own t.2
def rpL (l : List AidX) (a : AidX) : List AidX := (fdN l a.num).elim [] (fun k => l.set k a)
def rpK (l : List AidX) (a : AidX) : Int := (fdN l a.num).elim 3 (fun _ => 0)
set_option maxRecDepth 100000 in
set_option maxHeartbeats 2000000 in
theorem l12Replace_c (A : Option Addr) (n c : Nat) (zs : List AidG) (b o : Nat) (z : AidG) (w : World) (h : AidSl w A n zs) (hm : n ≤ 1048576) (hz : AidOk w z) (hp : AidP w b o z) :
    Calls Tryz.prog 86 #[.slice A n c, .pointer (some ⟨b, o, none⟩)] w fun e w' => ∃ A' n' c' zs', e = .returned (.tuple #[.slice A' n' c', .int .i64 (rpK (zs.map AidG.a) z.a)]) ∧ zs'.map AidG.a = rpL (zs.map AidG.a) z.a ∧ AidOwn w' w.heap.size (.slice A' n' c') n' zs' ∧ Below w.heap.size w w' := by
  have hl := h.len
  have hF := l12Find_c A n c zs z.a.num w h hm
  have hOA := l12OwnAll_c A n c zs w h hm
  obtain ⟨F, hFd⟩ : ∃ F, fdN (zs.map AidG.a) z.a.num = F := ⟨_, rfl⟩
  have hFl : ∀ k, F = some k → k < n := fun k hk => by
    obtain ⟨a, _, _, h3⟩ := fdN_at (hFd.trans hk)
    rw [List.length_map] at h3; omega
  have hL : rpL (zs.map AidG.a) z.a = F.elim [] (fun k => (zs.map AidG.a).set k z.a) := by rw [rpL, hFd]
  have hK : rpK (zs.map AidG.a) z.a = F.elim 3 (fun _ => 0) := by rw [rpK, hFd]
  rw [hL, hK]
  rw [hFd] at hF
  clear hL hK hFd
  have c0 := hp.c0
  have HF := Lib.hid hF; clear hF
  have HOA := Lib.hid hOA; clear hOA
  have Hl := Lib.hid hl; clear hl
  have HFl := Lib.hid hFl; clear hFl
  have HP := Lib.hid hp; clear hp
  have HZ := Lib.hid hz; clear hz
  cases F with
  | none =>
    go_enter Tryz.func86, Tryz.ntmps86
    go_wp2_with fail
    refine HF.out.mono ?_
    rintro e w1 ⟨rfl, rfl⟩
    simp only [Option.elim_none]
    go_wp2_with fail
    go_ret2
    exact ⟨none, 0, 0, [], rfl, rfl, ⟨World.ownsRow_nil _ _ _ _, fun y hy => by cases hy⟩, Below.refl _ _⟩
  | some k =>
    have hkn := HFl.out k rfl
    have k0 : (0 : Int) ≤ (k : Int) := by omega
    have k1 : (k : Int) < (n : Int) := by omega
    go_enter Tryz.func86, Tryz.ntmps86
    go_wp2_with fail
    refine HF.out.mono ?_
    rintro e w1 ⟨rfl, rfl⟩
    simp only [Option.elim_some]
    go_wp2_with fail
    refine HOA.out.mono ?_
    rintro e w2 ⟨A2, c2, zs2, rfl, hx2, hO2, hb2⟩
    obtain ⟨g, rfl, hg1, hg2⟩ := own_form hO2.own (by omega)
    have hOw := l12Own_c b o z w2 (HZ.out.next hb2) (HP.out.next hb2)
    have HOw := Lib.hid hOw; clear hOw
    have HO2 := Lib.hid hO2; clear hO2
    have Hx2 := Lib.hid hx2; clear hx2
    clear c0
    go_wp2_with fail
    refine HOw.out.mono ?_
    rintro e w3 ⟨z3, rfl, ha3, hN3, hb3⟩
    have hO3 := HO2.out.next hb3
    have T3 := hO3.there hkn
    have hS := hO3.setAt (hN3.base hb2.size) hkn
    have hb23 := hb2.trans (hb3.mono hb2.size)
    have hb4 : Below w.heap.size w (w3.setCells g (k * 16) z3.cells) := hb23.grown hS.2 hb23.size fun q hq => by
      injection hq with hq
      omega
    have ONE : (List.toArray z3.cells).all (·.oneCell') = true := all_oneCell_toArray (aidg_one _)
    obtain ⟨w4, hw4⟩ : ∃ w4, w3.setCells g (k * 16) z3.cells = w4 := ⟨_, rfl⟩
    rw [hw4] at hS hb4
    have HT3 := Lib.hid T3; clear T3
    have HONE := Lib.hid ONE; clear ONE
    have HW4 := Lib.hid hw4; clear hw4
    have HS := Lib.hid hS; clear hS
    clear hO3 hN3
    go_wp2_with (first | (refine wpList_store_mid rfl _ _ _ rfl g (k * 16) (List.toArray z3.cells) rfl rfl HT3.out (by kernel_rfl) HONE.out ?_; rw [show w3.setCells g (k * 16) (List.toArray z3.cells).toList = w4 from HW4.out]))
    go_ret2
    exact ⟨_, n, c2, zs2.set k z3, rfl, by rw [List.map_set, Hx2.out, ha3]; rfl, HS.out.1, hb4⟩
end Go.Proofs.YtafojijhfbnehaaGreatDoor
/- ReplaceAid: both sides. -/
namespace Go.Proofs.YtafojijhfbnehaaGreatDoor
open Go.RowKit
def raL (l : List AidX) (a : AidX) : List AidX := bif (aidsB l && aidB a) then rpL l a else []
def raK (l : List AidX) (a : AidX) : Int := bif (aidsB l && aidB a) then rpK l a else 1
set_option maxRecDepth 100000 in
set_option maxHeartbeats 2000000 in
theorem specReplaceAid_c (A : Option Addr) (n c : Nat) (zs : List AidG) (z : AidG) (w : World) (h : AidSl w A n zs) (hm : n ≤ 1048576) (hz : AidOk w z) :
    Calls Tryz.prog 46 #[.slice A n c, z.val] w fun e w' => ∃ A' n' c' zs', e = .returned (.tuple #[.slice A' n' c', .int .i64 (raK (zs.map AidG.a) z.a)]) ∧ zs'.map AidG.a = raL (zs.map AidG.a) z.a ∧ AidOwn w' w.heap.size (.slice A' n' c') n' zs' ∧ Below w.heap.size w w' := by
  have hb0 : Below w.heap.size w (w.alloc (aidO z 53)) := by (repeat (first | (with_reducible assumption) | (with_reducible exact Below.refl _ _) | exact Nat.le_refl _ | exact Below.size (by with_reducible assumption) | (with_reducible refine Below.drew ?_) | (with_reducible refine below_drewN ?_ _) | (with_reducible refine Below.alloc ?_ ?_ _) | (with_reducible refine Below.setCell ?_ ?_ _) | (with_reducible refine le_alloc ?_ _) | (with_reducible refine le_set ?_ _ _) | (with_reducible refine le_drew ?_) | (with_reducible refine le_drewN ?_ _) | omega | (dsimp only; omega)))
  have p0 := aidp_box w z 53
  obtain ⟨w0, hw⟩ : ∃ w0, w.alloc (aidO z 53) = w0 := ⟨_, rfl⟩
  rw [hw] at hb0 p0
  have h0 := h.next hb0
  have z0 := hz.next hb0
  obtain ⟨V, hV⟩ : ∃ V, aidsB (zs.map AidG.a) = V := ⟨_, rfl⟩
  obtain ⟨B, hB⟩ : ∃ B, aidB z.a = B := ⟨_, rfl⟩
  have c1 : Calls Tryz.prog 62 #[.slice A n c] w0 fun e w' => e = .returned (.bool V) ∧ Below w0.heap.size w0 w' := hV ▸ l12Ok_c A n c zs w0 h0 hm
  have c2 : ∀ w1, Below w0.heap.size w0 w1 → Calls Tryz.prog 85 #[.pointer (some ⟨w.heap.size, 0, none⟩)] w1 fun e w' => e = .returned (.bool B) ∧ Below w1.heap.size w1 w' := fun w1 hb => hB ▸ l12One_c _ 0 z w1 (p0.next hb) (z0.next hb)
  have c3 : ∀ w1, Below w0.heap.size w0 w1 → Calls Tryz.prog 86 #[.slice A n c, .pointer (some ⟨w.heap.size, 0, none⟩)] w1 fun e w' => ∃ A' n' c' zs', e = .returned (.tuple #[.slice A' n' c', .int .i64 (rpK (zs.map AidG.a) z.a)]) ∧ zs'.map AidG.a = rpL (zs.map AidG.a) z.a ∧ AidOwn w' w1.heap.size (.slice A' n' c') n' zs' ∧ Below w1.heap.size w1 w' := fun w1 hb => l12Replace_c A n c zs _ 0 z w1 (h0.next hb) hm (z0.next hb) (p0.next hb)
  rw [raL, raK, hV, hB]
  clear hV hB h0 z0 p0 h hz
  have C1 := Lib.hid c1; clear c1
  have C2 := Lib.hid c2; clear c2
  have C3 := Lib.hid c3; clear c3
  cases V
  · go_enter Tryz.func46, Tryz.ntmps46
    go_wp2_with fail
    try rw [hw]
    clear hw
    refine C1.out.mono ?_
    rintro e w1 ⟨rfl, hb1⟩
    go_wp2_with fail
    go_ret2
    exact ⟨none, 0, 0, [], rfl, rfl, ⟨World.ownsRow_nil _ _ _ _, fun y hy => by cases hy⟩, hb0.trans (hb1.mono hb0.size)⟩
  cases B
  · go_enter Tryz.func46, Tryz.ntmps46
    go_wp2_with fail
    try rw [hw]
    clear hw
    refine C1.out.mono ?_
    rintro e w1 ⟨rfl, hb1⟩
    go_wp2_with fail
    refine (C2.out _ hb1).mono ?_
    rintro e w2 ⟨rfl, hb2⟩
    replace hb2 := hb1.trans (hb2.mono hb1.size)
    go_wp2_with fail
    go_ret2
    exact ⟨none, 0, 0, [], rfl, rfl, ⟨World.ownsRow_nil _ _ _ _, fun y hy => by cases hy⟩, hb0.trans (hb2.mono hb0.size)⟩
  · go_enter Tryz.func46, Tryz.ntmps46
    go_wp2_with fail
    try rw [hw]
    clear hw
    refine C1.out.mono ?_
    rintro e w1 ⟨rfl, hb1⟩
    go_wp2_with fail
    refine (C2.out _ hb1).mono ?_
    rintro e w2 ⟨rfl, hb2⟩
    replace hb2 := hb1.trans (hb2.mono hb1.size)
    go_wp2_with fail
    refine (C3.out _ hb2).mono ?_
    rintro e w3 ⟨A', n', c', zs', rfl, hx, hO, hb3⟩
    replace hb2 := hb0.trans (hb2.mono hb0.size)
    go_wp2_with fail
    go_ret2
    exact ⟨A', n', c', zs', rfl, hx, ⟨own_base hO.own hb2.size, fun y hy => (hO.new y hy).base hb2.size⟩, hb2.trans (hb3.mono hb2.size)⟩
end Go.Proofs.YtafojijhfbnehaaGreatDoor
/- ReplaceAid: the program. -/
namespace Go.Proofs.YtafojijhfbnehaaGreatDoor
open Go.RowKit
set_option maxRecDepth 100000 in
set_option maxHeartbeats 4000000 in
theorem implReplaceAid_c (A : Option Addr) (n c : Nat) (zs : List AidG) (z : AidG) (w : World) (h : AidSl w A n zs) (hm : n ≤ 1048576) (hz : AidOk w z) (ht : Tab w) :
    Calls Tryz.prog 48 #[.slice A n c, z.val] w fun e w' => ∃ A' n' c' zs', e = .returned (.tuple #[.slice A' n' c', .int .i64 (raK (zs.map AidG.a) z.a)]) ∧ zs'.map AidG.a = raL (zs.map AidG.a) z.a ∧ AidOwn w' w.heap.size (.slice A' n' c') n' zs' ∧ AidDif zs' ∧ Below w.heap.size w w' := by
  have hl := h.len
  have hb0 : Below w.heap.size w (w.alloc (aidO z 53)) := by (repeat (first | (with_reducible assumption) | (with_reducible exact Below.refl _ _) | exact Nat.le_refl _ | exact Below.size (by with_reducible assumption) | (with_reducible refine Below.drew ?_) | (with_reducible refine below_drewN ?_ _) | (with_reducible refine Below.alloc ?_ ?_ _) | (with_reducible refine Below.setCell ?_ ?_ _) | (with_reducible refine le_alloc ?_ _) | (with_reducible refine le_set ?_ _ _) | (with_reducible refine le_drew ?_) | (with_reducible refine le_drewN ?_ _) | omega | (dsimp only; omega)))
  have p0 := AidF.box w z 53
  obtain ⟨w0, hw⟩ : ∃ w0, w.alloc (aidO z 53) = w0 := ⟨_, rfl⟩
  rw [hw] at hb0 p0
  have h0 := h.next hb0
  have z0 := hz.next hb0
  have t0 := ht.next hb0
  obtain ⟨V, hV⟩ : ∃ V, aidsB (zs.map AidG.a) = V := ⟨_, rfl⟩
  obtain ⟨B, hB⟩ : ∃ B, aidB z.a = B := ⟨_, rfl⟩
  obtain ⟨F, hFd⟩ : ∃ F, fdN (zs.map AidG.a) z.a.num = F := ⟨_, rfl⟩
  have c1 : Calls Tryz.prog 77 #[.slice A n c] w0 fun e w' => e = .returned (.bool V) ∧ Below w0.heap.size w0 w' := hV ▸ implValidAids_c A n c zs w0 h0 hm t0
  have c2 : ∀ w1, Below w0.heap.size w0 w1 → Calls Tryz.prog 68 #[z.val] w1 fun e w' => e = .returned (.bool B) ∧ Below w1.heap.size w1 w' := fun w1 hb => hB ▸ implValidAid_c z w1 (z0.next hb) (t0.next hb)
  have c3 : V = true → ∀ w1, Below w0.heap.size w0 w1 → Calls Tryz.prog 78 #[.slice A n c, .int .i64 z.a.num] w1 fun e w' => ∃ i : Nat, e = .returned (.tuple #[.int .i64 i, .bool F.isSome]) ∧ (∀ k, F = some k → i = k) ∧ Below w1.heap.size w1 w' := fun hv w1 hb => by
    have := aidOf_c A n c zs z.a.num w1 (h0.next hb) hm (hV.trans hv)
    rwa [hFd] at this
  have c4 : ∀ w1, Below w0.heap.size w0 w1 → Calls Tryz.prog 80 #[.slice A n c] w1 fun e w' => ∃ A' c' zs', e = .returned (.slice A' n c') ∧ zs'.map AidG.a = zs.map AidG.a ∧ AidOwn w' w1.heap.size (.slice A' n c') n zs' ∧ AidDif zs' ∧ Below w1.heap.size w1 w' := fun w1 hb => copyAids_c A n c zs w1 (h0.next hb) hm
  have c5 : ∀ w1, Below w0.heap.size w0 w1 → Calls Tryz.prog 59 #[z.val] w1 fun e w' => ∃ z' : AidG, e = .returned z'.val ∧ z'.a = z.a ∧ AidNew w' w1.heap.size z' ∧ Below w1.heap.size w1 w' := fun w1 hb => copyAid_c z w1 (z0.next hb)
  have hFl : ∀ k, F = some k → k < n := fun k hk => by
    obtain ⟨a, _, _, h3⟩ := fdN_at (hFd.trans hk)
    rw [List.length_map] at h3; omega
  have hL : raL (zs.map AidG.a) z.a = bif (V && B) then F.elim [] (fun k => (zs.map AidG.a).set k z.a) else [] := by rw [raL, hV, hB, rpL, hFd]
  have hK : raK (zs.map AidG.a) z.a = bif (V && B) then F.elim 3 (fun _ => 0) else 1 := by rw [raK, hV, hB, rpK, hFd]
  rw [hL, hK]
  clear hL hK hV hB hFd h0 z0 t0 h hz ht hl
  have C1 := Lib.hid c1; clear c1
  have C2 := Lib.hid c2; clear c2
  have C3 := Lib.hid c3; clear c3
  have C4 := Lib.hid c4; clear c4
  have C5 := Lib.hid c5; clear c5
  have HFl := Lib.hid hFl; clear hFl
  cases V
  · go_enter Tryz.func48, Tryz.ntmps48
    go_wp2_with fail
    try rw [hw]
    clear hw
    refine C1.out.mono ?_
    rintro e w1 ⟨rfl, hb1⟩
    go_wp2_with fail
    go_ret2
    exact ⟨none, 0, 0, [], rfl, rfl, ⟨World.ownsRow_nil _ _ _ _, fun y hy => by cases hy⟩, AidDif.nil, hb0.trans (hb1.mono hb0.size)⟩
  cases B
  · go_enter Tryz.func48, Tryz.ntmps48
    go_wp2_with fail
    try rw [hw]
    clear hw
    refine C1.out.mono ?_
    rintro e w1 ⟨rfl, hb1⟩
    obtain ⟨f0, f1, f2, f3, f4, f5, f6, f7, f8, f9, f10, f11, f12, f13, f14, f15, _⟩ := ((p0.next hb1)).p
    simp only [Nat.zero_add] at f1 f2 f3 f4 f5 f6 f7 f8 f9 f10 f11 f12 f13 f14 f15
    go_wp2_with fail
    refine (C2.out _ hb1).mono ?_
    rintro e w2 ⟨rfl, hb2⟩
    replace hb2 := hb1.trans (hb2.mono hb1.size)
    clear f0 f1 f2 f3 f4 f5 f6 f7 f8 f9 f10 f11 f12 f13 f14 f15
    obtain ⟨f0, f1, f2, f3, f4, f5, f6, f7, f8, f9, f10, f11, f12, f13, f14, f15, _⟩ := ((p0.next hb2)).p
    simp only [Nat.zero_add] at f1 f2 f3 f4 f5 f6 f7 f8 f9 f10 f11 f12 f13 f14 f15
    go_wp2_with fail
    go_ret2
    exact ⟨none, 0, 0, [], rfl, rfl, ⟨World.ownsRow_nil _ _ _ _, fun y hy => by cases hy⟩, AidDif.nil, hb0.trans (hb2.mono hb0.size)⟩
  have C3b := Lib.hid (C3.out rfl)
  clear C3
  cases F with
  | none =>
    go_enter Tryz.func48, Tryz.ntmps48
    go_wp2_with fail
    try rw [hw]
    clear hw
    refine C1.out.mono ?_
    rintro e w1 ⟨rfl, hb1⟩
    obtain ⟨f0, f1, f2, f3, f4, f5, f6, f7, f8, f9, f10, f11, f12, f13, f14, f15, _⟩ := ((p0.next hb1)).p
    simp only [Nat.zero_add] at f1 f2 f3 f4 f5 f6 f7 f8 f9 f10 f11 f12 f13 f14 f15
    go_wp2_with fail
    refine (C2.out _ hb1).mono ?_
    rintro e w2 ⟨rfl, hb2⟩
    replace hb2 := hb1.trans (hb2.mono hb1.size)
    clear f0 f1 f2 f3 f4 f5 f6 f7 f8 f9 f10 f11 f12 f13 f14 f15
    obtain ⟨f0, f1, f2, f3, f4, f5, f6, f7, f8, f9, f10, f11, f12, f13, f14, f15, _⟩ := ((p0.next hb2)).p
    simp only [Nat.zero_add] at f1 f2 f3 f4 f5 f6 f7 f8 f9 f10 f11 f12 f13 f14 f15
    go_wp2_with fail
    refine (C3b.out _ hb2).mono ?_
    rintro e w3 ⟨i, rfl, _, hb3⟩
    replace hb3 := hb2.trans (hb3.mono hb2.size)
    clear f0 f1 f2 f3 f4 f5 f6 f7 f8 f9 f10 f11 f12 f13 f14 f15
    simp only [Option.isSome_none]
    go_wp2_with fail
    go_ret2
    exact ⟨none, 0, 0, [], rfl, rfl, ⟨World.ownsRow_nil _ _ _ _, fun y hy => by cases hy⟩, AidDif.nil, hb0.trans (hb3.mono hb0.size)⟩
  | some k =>
    have hkn := HFl.out k rfl
    have k0 : (0 : Int) ≤ (k : Int) := by omega
    have k1 : (k : Int) < (n : Int) := by omega
    go_enter Tryz.func48, Tryz.ntmps48
    go_wp2_with fail
    try rw [hw]
    clear hw
    refine C1.out.mono ?_
    rintro e w1 ⟨rfl, hb1⟩
    obtain ⟨f0, f1, f2, f3, f4, f5, f6, f7, f8, f9, f10, f11, f12, f13, f14, f15, _⟩ := ((p0.next hb1)).p
    simp only [Nat.zero_add] at f1 f2 f3 f4 f5 f6 f7 f8 f9 f10 f11 f12 f13 f14 f15
    go_wp2_with fail
    refine (C2.out _ hb1).mono ?_
    rintro e w2 ⟨rfl, hb2⟩
    replace hb2 := hb1.trans (hb2.mono hb1.size)
    clear f0 f1 f2 f3 f4 f5 f6 f7 f8 f9 f10 f11 f12 f13 f14 f15
    obtain ⟨f0, f1, f2, f3, f4, f5, f6, f7, f8, f9, f10, f11, f12, f13, f14, f15, _⟩ := ((p0.next hb2)).p
    simp only [Nat.zero_add] at f1 f2 f3 f4 f5 f6 f7 f8 f9 f10 f11 f12 f13 f14 f15
    go_wp2_with fail
    refine (C3b.out _ hb2).mono ?_
    rintro e w3 ⟨i, rfl, hik, hb3⟩
    obtain rfl := hik k rfl
    replace hb3 := hb2.trans (hb3.mono hb2.size)
    clear f0 f1 f2 f3 f4 f5 f6 f7 f8 f9 f10 f11 f12 f13 f14 f15
    simp only [Option.isSome_some]
    go_wp2_with fail
    refine (C4.out _ hb3).mono ?_
    rintro e w4 ⟨A4, c4, zs4, rfl, hx4, hO4, hd4, hb4⟩
    obtain ⟨g, rfl, hg1, hg2⟩ := own_form hO4.own (by omega)
    have hb34 := hb3.trans (hb4.mono hb3.size)
    obtain ⟨f0, f1, f2, f3, f4, f5, f6, f7, f8, f9, f10, f11, f12, f13, f14, f15, _⟩ := ((p0.next hb34)).p
    simp only [Nat.zero_add] at f1 f2 f3 f4 f5 f6 f7 f8 f9 f10 f11 f12 f13 f14 f15
    have HO4 := Lib.hid hO4; clear hO4
    have Hx4 := Lib.hid hx4; clear hx4
    go_wp2_with fail
    refine (C5.out _ hb34).mono ?_
    rintro e w5 ⟨z5, rfl, ha5, hN5, hb5⟩
    clear f0 f1 f2 f3 f4 f5 f6 f7 f8 f9 f10 f11 f12 f13 f14 f15
    have HD5 := Lib.hid (AidDif.set (k := i) hd4 HO4.out.new hN5)
    have hO5 := HO4.out.next hb5
    have T5 := hO5.there hkn
    have hS := hO5.setAt (hN5.base hb4.size) hkn
    have hb35 := hb34.trans (hb5.mono hb34.size)
    have hb6 : Below w0.heap.size w0 (w5.setCells g (i * 16) z5.cells) := hb35.grown hS.2 hb35.size fun q hq => by
      injection hq with hq
      have := hb3.size
      omega
    have ONE : (List.toArray z5.cells).all (·.oneCell') = true := all_oneCell_toArray (aidg_one _)
    obtain ⟨w6, hw6⟩ : ∃ w6, w5.setCells g (i * 16) z5.cells = w6 := ⟨_, rfl⟩
    rw [hw6] at hS hb6
    have hbs := Nat.le_trans hb0.size hb3.size
    have HT5 := Lib.hid T5; clear T5
    have HONE := Lib.hid ONE; clear ONE
    have HW6 := Lib.hid hw6; clear hw6
    have HS := Lib.hid hS; clear hS
    clear hO5 hN5
    go_wp2_with (first | (refine wpList_store_mid rfl _ _ _ rfl g (i * 16) (List.toArray z5.cells) rfl rfl HT5.out (by kernel_rfl) HONE.out ?_; rw [show w5.setCells g (i * 16) (List.toArray z5.cells).toList = w6 from HW6.out]))
    go_ret2
    exact ⟨_, n, c4, zs4.set i z5, rfl, by rw [List.map_set, Hx4.out, ha5]; rfl, ⟨own_base HS.out.1.own hbs, fun y hy => (HS.out.1.new y hy).base hbs⟩, HD5.out, hb0.trans (hb6.mono hb0.size)⟩
end Go.Proofs.YtafojijhfbnehaaGreatDoor
