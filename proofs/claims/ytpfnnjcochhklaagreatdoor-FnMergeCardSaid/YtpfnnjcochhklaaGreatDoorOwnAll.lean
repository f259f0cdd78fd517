
/- Lists of aids of their own: both sides. -/
import Derived.Test.YtpfnnjcochhklaaGreatDoorOwnG
import Derived.Test.YtpfnnjcochhklaaGreatDoorOwnJ
import Derived.Test.YtpfnnjcochhklaaGreatDoorAidsG
namespace Go.Proofs.YtpfnnjcochhklaaGreatDoor
open Go.RowKit
theorem AidNew.base {w : World} {b b' : Nat} {z : AidG} (h : AidNew w b z) (hb : b' ≤ b) : AidNew w b' z := ⟨own_base h.g hb, own_base h.s hb⟩
theorem AidNew.grown {w w' : World} {base base' : Nat} {z : AidG} {sz n : Nat} {v : Value} {xs : List Value} (h : AidNew w base z) (hu : w.ownsRow base' 56 sz v n xs) (hg : w.grownBy w' v.ownBlock) : AidNew w' base z :=
  ⟨own_grown h.g hg (own_ne h.g hu (by decide)), own_grown h.s hg (own_ne h.s hu (by decide))⟩
/-- One aid is appended. -/
theorem AidOwn.push {w w0 w6 : World} {base k : Nat} {v v6 : Value} {zs : List AidG} {z : AidG} (h : AidOwn w base v k zs) (hz : AidNew w base z) (hb : Below w.heap.size w w0) (hg : w0.grownBy w6 v.ownBlock)
    (ho : w6.ownsRow base 56 16 v6 (k + 1) (zs.flatMap AidG.cells ++ z.cells)) : AidOwn w6 base v6 (k + 1) (zs ++ [z]) := by
  have h0 := h.next hb
  refine ⟨by rw [List.flatMap_append]; simpa using ho, fun y hy => ?_⟩
  rcases List.mem_append.1 hy with h2 | h2
  · exact (h0.new y h2).grown h0.own hg
  · simp only [List.mem_singleton] at h2
    subst h2
    exact (hz.next hb).grown h0.own hg
set_option maxRecDepth 100000 in
set_option maxHeartbeats 2000000 in
theorem l12OwnAll_c (A : Option Addr) (n c : Nat) (zs : List AidG) (w : World) (h : AidSl w A n zs) (hm : n ≤ 1048576) :
    Calls Tryz.prog 42 #[.slice A n c] w fun e w' => ∃ A' c' zs', e = .returned (.slice A' n c') ∧ zs'.map AidG.a = zs.map AidG.a ∧ AidOwn w' w.heap.size (.slice A' n c') n zs' ∧ Below w.heap.size w w' := by
  obtain ⟨i0, hi, hz0, hz1, hz2⟩ := info_parts aidInfo
  have hl := h.len
  have hov := World.ownsRow_made (base := w.heap.size) (e := 56) (size := 16) w #[] 0 (Nat.le_refl _) (by simp [maxLen]) rfl
  have hbv : Below w.heap.size w (w.alloc (.cells #[] 56)) := (Below.refl _ _).alloc (Nat.le_refl _) _
  have Hl := Lib.hid hl; clear hl
  go_enter Tryz.func42, Tryz.ntmps42
  go_wp2_with fail
  go_loopw [3, 4] (fun o i wr => ∃ (k : Nat) (ys : List AidG), k ≤ n ∧ i = .int .i64 k ∧ Hid (ys.map AidG.a = (zs.map AidG.a).take k) ∧ AidOwn wr w.heap.size o k ys ∧ Below w.heap.size w wr) (fun _ i _ => n - (intOf i).toNat)
  case atStart => exact ⟨0, [], Nat.zero_le _, rfl, Lib.hid (by simp), ⟨hov, fun z hz => by cases hz⟩, hbv⟩
  case round =>
    clear hov hbv
    obtain ⟨k, ys, hk, rfl, Hys, hO, hbw⟩ := hrel
    obtain ⟨A3, c3, rfl⟩ := own_slice hO.own
    have k0 : (0 : Int) ≤ (k : Int) := by omega
    by_cases hlt : k < n
    · have k1 : (k : Int) < (n : Int) := by omega
      obtain ⟨b, off, z, rfl, hx, hzo, hp⟩ := (h.next hbw).get k hlt
      have hOw := l12Own_c b (off + k * 16) z wr hzo hp
      have e63 : k + 1 ≤ maxLen := by unfold maxLen; omega
      have e32 : (k + 1) * 208 ≤ 140737488355328 := by omega
      clear hp hzo
      have HOw := Lib.hid hOw; clear hOw
      have Hx := Lib.hid hx; clear hx
      have E63 := Lib.hid e63; clear e63
      have E32 := Lib.hid e32; clear e32
      have HO := Lib.hid hO; clear hO
      go_wp2_with fail
      refine HOw.out.mono ?_
      rintro e w2 ⟨z2, rfl, ha2, hN2, hb2⟩
      have HO2 := Lib.hid (HO.out.next hb2)
      have HN2 := Lib.hid (hN2.base hbw.size)
      have hb2w := hbw.trans (hb2.mono hbw.size)
      have hbA : Below w2.heap.size w2 (w2.alloc (.cells z2.cells.toArray 56)) := (Below.refl _ _).alloc (Nat.le_refl _) _
      have HS2 := Lib.hid (Sl.new w2 56 z2.cells 1 16 rfl)
      have HA2 := Lib.hid (HO2.out.own.alloc (.cells z2.cells.toArray 56))
      have HLE := Lib.hid (le_alloc hb2w.size (.cells z2.cells.toArray 56))
      clear hN2 HO
      have Ha2 := Lib.hid ha2; clear ha2
      go_wp2_with (at_builtin; refine wpl_append _ rfl (.tmp 12) (.tmp 17) _ rfl w.heap.size 56 i0 _ 16 208 Tryz.underlying24 hi hz0 hz1 hz2 rfl (by omega) _ k _ rfl HA2.out (w2.heap.size + 1) (some ⟨w2.heap.size, 0, none⟩) 1 1 z2.cells rfl HS2.out (aidg_one z2) E63.out E32.out HLE.out ?_; intro v6 w6 ho6 hg6 hat6)
      have HOn := HO2.out.push HN2.out hbA hg6 ho6
      have hb6 : Below w.heap.size w w6 := (hb2w.trans (hbA.mono hb2w.size)).grown hg6 HLE.out fun g hg => (HO2.out.own.lt g hg).1
      go_roundw
      case rel => exact ⟨k + 1, ys ++ [z2], by omega, by go_num, Lib.hid (by rw [List.map_append, Hys.out, List.take_add_one, List.getElem?_map, Hx.out]; simp [Ha2.out]), HOn, hb6⟩
      case measure => simp [intOf]; omega
    · obtain rfl : k = n := by omega
      go_wp2_with fail
      go_ret
      exact ⟨A3, c3, ys, rfl, by rw [Hys.out, List.take_of_length_le (by rw [List.length_map, Hl.out]; omega)], hO, hbw⟩
end Go.Proofs.YtpfnnjcochhklaaGreatDoor
