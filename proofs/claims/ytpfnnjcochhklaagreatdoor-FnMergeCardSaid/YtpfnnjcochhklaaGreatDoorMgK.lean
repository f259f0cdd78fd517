
/- Lists compared: the reference's SameAids, the laws' r8Same; for equal lists the answer is yes. -/
import Derived.Test.YtpfnnjcochhklaaGreatDoorMgMG
namespace Go.Proofs.YtpfnnjcochhklaaGreatDoor
open Go.RowKit
set_option maxRecDepth 100000 in
set_option maxHeartbeats 400000 in
theorem r8Same_c (A A' : Option Addr) (n c c' : Nat) (xs : List Int) (w : World) (h : Sl w w.heap.size 1 A n (xs.flatMap intC)) (h' : Sl w w.heap.size 1 A' n (xs.flatMap intC)) (hn : n ≤ maxLen) :
    Calls Tryz.prog 11 #[.slice A n c, .slice A' n c'] w fun e w' => e = .returned (.bool true) ∧ Below w.heap.size w w' := by
  unfold maxLen at hn
  have H := Lib.hid h; clear h
  have H1 := Lib.hid h'; clear h'
  go_enter Tryz.func11, Tryz.ntmps11
  go_wp2_with fail
  go_loopw [5] (fun i wr => ∃ k : Nat, k ≤ n ∧ i = .int .i64 k ∧ Below w.heap.size w wr) (fun i _ => n - (intOf i).toNat)
  case atStart => exact ⟨0, Nat.zero_le _, rfl, Below.refl _ _⟩
  case round =>
    obtain ⟨k, hk, rfl, hbw⟩ := hrel
    by_cases hlt : k < n
    · obtain ⟨b, off, d, rfl, hb, hd, c1⟩ := (H.out.next hbw).int k hlt
      obtain ⟨b', off', d', rfl, hb', hd', c1'⟩ := (H1.out.next hbw).int k hlt
      have hdd : d' = d := Option.some.inj (hd'.symm.trans hd)
      subst hdd
      have j1 : (0 : Int) ≤ (k : Int) := by omega
      have j2 : (k : Int) < (n : Int) := by omega
      have Hd := Lib.hid hd; clear hd
      clear hd'
      go_wp2_with fail
      go_quiet (fail)
      go_wp2_with fail
      go_roundw
      case rel => exact ⟨k + 1, by omega, by go_num, below_drewN hbw _⟩
      case measure => simp [intOf]; omega
    · obtain rfl : k = n := by omega
      go_wp2_with fail
      go_ret
      exact ⟨rfl, hbw⟩
set_option maxRecDepth 100000 in
set_option maxHeartbeats 2000000 in
theorem sameAids_c (A A' : Option Addr) (n c c' : Nat) (zs ys : List AidG) (w : World) (h : AidSl w A n zs) (h' : AidSl w A' n ys) (he : zs.map AidG.a = ys.map AidG.a) (hn : n ≤ 1048576) :
    Calls Tryz.prog 9 #[.slice A n c, .slice A' n c'] w fun e w' => e = .returned (.bool true) ∧ Below w.heap.size w w' := by
  have H := Lib.hid h; clear h
  have H1 := Lib.hid h'; clear h'
  have HE := Lib.hid he; clear he
  go_enter Tryz.func9, Tryz.ntmps9
  go_wp2_with fail
  go_loopw [5] (fun i wr => ∃ k : Nat, k ≤ n ∧ i = .int .i64 k ∧ Below w.heap.size w wr) (fun i _ => n - (intOf i).toNat)
  case atStart => exact ⟨0, Nat.zero_le _, rfl, Below.refl _ _⟩
  case round =>
    obtain ⟨k, hk, rfl, hbw⟩ := hrel
    by_cases hlt : k < n
    · obtain ⟨b, off, z, rfl, hx, hzo, hpz⟩ := (H.out.next hbw).get k hlt
      obtain ⟨b', off', y, rfl, hx', hyo, hpy⟩ := (H1.out.next hbw).get k hlt
      have hzy : z.a = y.a := by
        have e1 : (zs.map AidG.a)[k]? = some z.a := by rw [List.getElem?_map, hx]; rfl
        have e2 : (ys.map AidG.a)[k]? = some y.a := by rw [List.getElem?_map, hx']; rfl
        rw [HE.out, e2] at e1
        exact (Option.some.inj e1).symm
      have hB : ∀ q, Below wr.heap.size wr (wr.drewN q) := fun q => below_drewN (Below.refl _ _) q
      have hQ : ∀ q, Calls Tryz.prog 31 #[.pointer (some ⟨b, off + k * 16, none⟩), .pointer (some ⟨b', off' + k * 16, none⟩)] (wr.drewN q) fun e w' => e = .returned (.bool true) ∧ ∃ m, w' = (wr.drewN q).drewN m := fun q => by
        have := sameD_c b (off + k * 16) b' (off' + k * 16) z y (wr.drewN q) (hpz.next (hB q)) (hpy.next (hB q)) (hzo.next (hB q)) (hyo.next (hB q))
        rwa [hzy, sameX_self] at this
      have j1 : (0 : Int) ≤ (k : Int) := by omega
      have j2 : (k : Int) < (n : Int) := by omega
      clear hpz hpy hzo hyo hx hx' hzy hB
      have HQ := Lib.hid hQ; clear hQ
      go_wp2_with fail
      go_quiet ((go_at_call 31; exact quiet_dm (HQ.out _)))
      go_wp2_with fail
      go_roundw
      case rel => exact ⟨k + 1, by omega, by go_num, below_drewN hbw _⟩
      case measure => simp [intOf]; omega
    · obtain rfl : k = n := by omega
      go_wp2_with fail
      go_ret
      exact ⟨rfl, hbw⟩
end Go.Proofs.YtpfnnjcochhklaaGreatDoor
