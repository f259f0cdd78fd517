
/- The signs of letters. -/
import Derived.Test.YtpfnnjcochhklaaGreatDoorApG
import Derived.Test.YtpfnnjcochhklaaGreatDoorChC
namespace Go.Proofs.YtpfnnjcochhklaaGreatDoor
open Go.RowKit
def morseL : List ByteArray := [⟨#[46, 45]⟩, ⟨#[45, 46, 46, 46]⟩, ⟨#[45, 46, 45, 46]⟩, ⟨#[45, 46, 46]⟩, ⟨#[46]⟩, ⟨#[46, 46, 45, 46]⟩, ⟨#[45, 45, 46]⟩, ⟨#[46, 46, 46, 46]⟩, ⟨#[46, 46]⟩, ⟨#[46, 45, 45, 45]⟩, ⟨#[45, 46, 45]⟩, ⟨#[46, 45, 46, 46]⟩, ⟨#[45, 45]⟩, ⟨#[45, 46]⟩, ⟨#[45, 45, 45]⟩, ⟨#[46, 45, 45, 46]⟩, ⟨#[45, 45, 46, 45]⟩, ⟨#[46, 45, 46]⟩, ⟨#[46, 46, 46]⟩, ⟨#[45]⟩, ⟨#[46, 46, 45]⟩, ⟨#[46, 46, 46, 45]⟩, ⟨#[46, 45, 45]⟩, ⟨#[45, 46, 46, 45]⟩, ⟨#[45, 46, 45, 45]⟩, ⟨#[45, 45, 46, 46]⟩]
def morse (j : Nat) : ByteArray := morseL.getD j ByteArray.empty
theorem morse_at (j : Nat) (hj : j < 26) : (#[.string { data := #[46, 45] }, .string { data := #[45, 46, 46, 46] }, .string { data := #[45, 46, 45, 46] }, .string { data := #[45, 46, 46] }, .string { data := #[46] }, .string { data := #[46, 46, 45, 46] }, .string { data := #[45, 45, 46] }, .string { data := #[46, 46, 46, 46] }, .string { data := #[46, 46] }, .string { data := #[46, 45, 45, 45] }, .string { data := #[45, 46, 45] }, .string { data := #[46, 45, 46, 46] }, .string { data := #[45, 45] }, .string { data := #[45, 46] }, .string { data := #[45, 45, 45] }, .string { data := #[46, 45, 45, 46] }, .string { data := #[45, 45, 46, 45] }, .string { data := #[46, 45, 46] }, .string { data := #[46, 46, 46] }, .string { data := #[45] }, .string { data := #[46, 46, 45] }, .string { data := #[46, 46, 46, 45] }, .string { data := #[46, 45, 45] }, .string { data := #[45, 46, 46, 45] }, .string { data := #[45, 46, 45, 45] }, .string { data := #[45, 45, 46, 46] }] : Array Value)[j]? = some (.string (morse j)) :=
  match j, hj with
  | 0, _ => rfl | 1, _ => rfl | 2, _ => rfl | 3, _ => rfl | 4, _ => rfl | 5, _ => rfl | 6, _ => rfl | 7, _ => rfl | 8, _ => rfl | 9, _ => rfl | 10, _ => rfl | 11, _ => rfl | 12, _ => rfl | 13, _ => rfl | 14, _ => rfl | 15, _ => rfl | 16, _ => rfl | 17, _ => rfl | 18, _ => rfl | 19, _ => rfl | 20, _ => rfl | 21, _ => rfl | 22, _ => rfl | 23, _ => rfl | 24, _ => rfl | 25, _ => rfl | n + 26, h => absurd h (by omega)
theorem morse_size (j : Nat) (hj : j < 26) : 1 ≤ (morse j).size ∧ (morse j).size ≤ 4 :=
  match j, hj with
  | 0, _ => by decide | 1, _ => by decide | 2, _ => by decide | 3, _ => by decide | 4, _ => by decide | 5, _ => by decide | 6, _ => by decide | 7, _ => by decide | 8, _ => by decide | 9, _ => by decide | 10, _ => by decide | 11, _ => by decide | 12, _ => by decide | 13, _ => by decide | 14, _ => by decide | 15, _ => by decide | 16, _ => by decide | 17, _ => by decide | 18, _ => by decide | 19, _ => by decide | 20, _ => by decide | 21, _ => by decide | 22, _ => by decide | 23, _ => by decide | 24, _ => by decide | 25, _ => by decide | n + 26, h => absurd h (by omega)
theorem morse_get (j : Nat) (h : j < (#[.string { data := #[46, 45] }, .string { data := #[45, 46, 46, 46] }, .string { data := #[45, 46, 45, 46] }, .string { data := #[45, 46, 46] }, .string { data := #[46] }, .string { data := #[46, 46, 45, 46] }, .string { data := #[45, 45, 46] }, .string { data := #[46, 46, 46, 46] }, .string { data := #[46, 46] }, .string { data := #[46, 45, 45, 45] }, .string { data := #[45, 46, 45] }, .string { data := #[46, 45, 46, 46] }, .string { data := #[45, 45] }, .string { data := #[45, 46] }, .string { data := #[45, 45, 45] }, .string { data := #[46, 45, 45, 46] }, .string { data := #[45, 45, 46, 45] }, .string { data := #[46, 45, 46] }, .string { data := #[46, 46, 46] }, .string { data := #[45] }, .string { data := #[46, 46, 45] }, .string { data := #[46, 46, 46, 45] }, .string { data := #[46, 45, 45] }, .string { data := #[45, 46, 46, 45] }, .string { data := #[45, 46, 45, 45] }, .string { data := #[45, 45, 46, 46] }] : Array Value).size) : (#[.string { data := #[46, 45] }, .string { data := #[45, 46, 46, 46] }, .string { data := #[45, 46, 45, 46] }, .string { data := #[45, 46, 46] }, .string { data := #[46] }, .string { data := #[46, 46, 45, 46] }, .string { data := #[45, 45, 46] }, .string { data := #[46, 46, 46, 46] }, .string { data := #[46, 46] }, .string { data := #[46, 45, 45, 45] }, .string { data := #[45, 46, 45] }, .string { data := #[46, 45, 46, 46] }, .string { data := #[45, 45] }, .string { data := #[45, 46] }, .string { data := #[45, 45, 45] }, .string { data := #[46, 45, 45, 46] }, .string { data := #[45, 45, 46, 45] }, .string { data := #[46, 45, 46] }, .string { data := #[46, 46, 46] }, .string { data := #[45] }, .string { data := #[46, 46, 45] }, .string { data := #[46, 46, 46, 45] }, .string { data := #[46, 45, 45] }, .string { data := #[45, 46, 46, 45] }, .string { data := #[45, 46, 45, 45] }, .string { data := #[45, 45, 46, 46] }] : Array Value)[j] = .string (morse j) := by
  have := morse_at j h
  rw [Array.getElem?_eq_getElem h] at this
  exact Option.some.inj this
/-- The length of a sign. -/
def signI (s : ByteArray) (i : Nat) : Int := if bt s i = 46 then 5 else 15
def signsL (s : ByteArray) (k : Nat) : List Int := (List.range k).map (signI s)
theorem signsL_next (s : ByteArray) (k : Nat) : signsL s (k + 1) = signsL s k ++ [signI s k] := by simp [signsL, List.range_succ]
set_option maxRecDepth 100000 in
set_option maxHeartbeats 1000000 in
theorem l05Morse_c (j : Nat) (w : World) (hj : j < 26) :
    Calls Tryz.prog 139 #[.int .u8 (65 + (j : Int))] w fun e w' => ∃ v, e = .returned v ∧ w'.ownsRow w.heap.size 2 1 v (morse j).size ((signsL (morse j) (morse j).size).flatMap intC) ∧ Below w.heap.size w w' := by
  obtain ⟨p0, hp, hy0, hy1, hy2⟩ := info_parts intInfo
  have hma := fun h => morse_get j h
  have hms := morse_size j hj
  generalize morse j = s at *
  have j1 : (0 : Int) ≤ (j : Int) := by omega
  have j2 : (j : Int) < 26 := by omega
  have ho0 : ∀ w1 : World, w.heap.size ≤ w1.heap.size → (w1.alloc (.cells #[] 2)).ownsRow w.heap.size 2 1 (.slice (some ⟨w1.heap.size, 0, none⟩) 0 0) 0 (([] : List Int).flatMap intC) := fun w1 hw => World.ownsRow_made w1 #[] 0 hw (by simp [maxLen]) rfl
  have HO0 := Lib.hid ho0; clear ho0
  go_enter Tryz.func139, Tryz.ntmps139
  go_wp2
  simp only [Nat.add_sub_cancel_left]
  have hov := HO0.out (w.alloc (.cells #[.string { data := #[46, 45] }, .string { data := #[45, 46, 46, 46] }, .string { data := #[45, 46, 45, 46] }, .string { data := #[45, 46, 46] }, .string { data := #[46] }, .string { data := #[46, 46, 45, 46] }, .string { data := #[45, 45, 46] }, .string { data := #[46, 46, 46, 46] }, .string { data := #[46, 46] }, .string { data := #[46, 45, 45, 45] }, .string { data := #[45, 46, 45] }, .string { data := #[46, 45, 46, 46] }, .string { data := #[45, 45] }, .string { data := #[45, 46] }, .string { data := #[45, 45, 45] }, .string { data := #[46, 45, 45, 46] }, .string { data := #[45, 45, 46, 45] }, .string { data := #[46, 45, 46] }, .string { data := #[46, 46, 46] }, .string { data := #[45] }, .string { data := #[46, 46, 45] }, .string { data := #[46, 46, 46, 45] }, .string { data := #[46, 45, 45] }, .string { data := #[45, 46, 46, 45] }, .string { data := #[45, 46, 45, 45] }, .string { data := #[45, 45, 46, 46] }] 9)) (by simp)
  have hbw0 : Below w.heap.size w ((w.alloc (.cells #[.string { data := #[46, 45] }, .string { data := #[45, 46, 46, 46] }, .string { data := #[45, 46, 45, 46] }, .string { data := #[45, 46, 46] }, .string { data := #[46] }, .string { data := #[46, 46, 45, 46] }, .string { data := #[45, 45, 46] }, .string { data := #[46, 46, 46, 46] }, .string { data := #[46, 46] }, .string { data := #[46, 45, 45, 45] }, .string { data := #[45, 46, 45] }, .string { data := #[46, 45, 46, 46] }, .string { data := #[45, 45] }, .string { data := #[45, 46] }, .string { data := #[45, 45, 45] }, .string { data := #[46, 45, 45, 46] }, .string { data := #[45, 45, 46, 45] }, .string { data := #[46, 45, 46] }, .string { data := #[46, 46, 46] }, .string { data := #[45] }, .string { data := #[46, 46, 45] }, .string { data := #[46, 46, 46, 45] }, .string { data := #[46, 45, 45] }, .string { data := #[45, 46, 46, 45] }, .string { data := #[45, 46, 45, 45] }, .string { data := #[45, 45, 46, 46] }] 9)).alloc (.cells #[] 2)) := by (repeat (first | (with_reducible assumption) | (with_reducible exact Below.refl _ _) | exact Nat.le_refl _ | exact Below.size (by with_reducible assumption) | (with_reducible refine Below.drew ?_) | (with_reducible refine below_drewN ?_ _) | (with_reducible refine Below.alloc ?_ ?_ _) | (with_reducible refine Below.setCell ?_ ?_ _) | (with_reducible refine le_alloc ?_ _) | (with_reducible refine le_set ?_ _ _) | (with_reducible refine le_drew ?_) | (with_reducible refine le_drewN ?_ _) | omega | (dsimp only; omega)))
  simp only [World.size_alloc] at hov
  clear hma
  generalize (w.alloc (.cells #[.string { data := #[46, 45] }, .string { data := #[45, 46, 46, 46] }, .string { data := #[45, 46, 45, 46] }, .string { data := #[45, 46, 46] }, .string { data := #[46] }, .string { data := #[46, 46, 45, 46] }, .string { data := #[45, 45, 46] }, .string { data := #[46, 46, 46, 46] }, .string { data := #[46, 46] }, .string { data := #[46, 45, 45, 45] }, .string { data := #[45, 46, 45] }, .string { data := #[46, 45, 46, 46] }, .string { data := #[45, 45] }, .string { data := #[45, 46] }, .string { data := #[45, 45, 45] }, .string { data := #[46, 45, 45, 46] }, .string { data := #[45, 45, 46, 45] }, .string { data := #[46, 45, 46] }, .string { data := #[46, 46, 46] }, .string { data := #[45] }, .string { data := #[46, 46, 45] }, .string { data := #[46, 46, 46, 45] }, .string { data := #[46, 45, 45] }, .string { data := #[45, 46, 46, 45] }, .string { data := #[45, 46, 45, 45] }, .string { data := #[45, 45, 46, 46] }] 9)).alloc (.cells #[] 2) = w1 at *
  go_loopw [5, 6] (fun v i wr => ∃ k : Nat, k ≤ s.size ∧ i = .int .i64 k ∧ wr.ownsRow w.heap.size 2 1 v k ((signsL s k).flatMap intC) ∧ Below w.heap.size w wr) (fun _ i _ => s.size - (intOf i).toNat)
  case atStart => exact ⟨0, Nat.zero_le _, rfl, hov, hbw0⟩
  case round =>
    clear hov hbw0
    obtain ⟨k, hk, rfl, hov, hbw⟩ := hrel
    obtain ⟨A1, c1, rfl⟩ := own_slice hov
    by_cases hlt : k < s.size
    · have hb := bt_eq s k hlt
      have hnx := signsL_next s k
      have e63 : k + 1 ≤ maxLen := by unfold maxLen; omega
      have e32 : (k + 1) * 8 ≤ 140737488355328 := by omega
      have Hb := Lib.hid hb; clear hb
      have Hnx := Lib.hid hnx; clear hnx
      have E63 := Lib.hid e63; clear e63
      have E32 := Lib.hid e32; clear e32
      cases hdot : ((s[k].toNat : Int) == 46)
      · go_wp2_with (at_builtin; refine wpl_append _ rfl (.tmp 27) (.tmp 28) _ rfl (w.heap.size) 2 p0 _ 1 8 Tryz.underlying30 hp hy0 hy1 hy2 rfl (by omega) _ (k) _ rfl ((hov).alloc _) ((wr).heap.size + 1) (some ⟨(wr).heap.size, 0, none⟩) 1 1 (intC (15)) rfl (Sl.new (wr) 2 _ 1 1 rfl) (intC_one _) E63.out E32.out (le_alloc (hbw).size _) ?_; intro v2 w2 ho2 hg2 hat2)
        go_roundw
        case rel =>
          refine ⟨k + 1, by omega, by go_num, ?_, ?_⟩
          · rw [Hnx.out, signI, Hb.out, if_neg (by simpa using hdot), List.flatMap_append]; simpa using ho2
          · exact (hbw.alloc hbw.size _).grown hg2 (le_alloc hbw.size _) fun g hg => (hov.lt g hg).1
        case measure => simp [intOf]; omega
      · go_wp2_with (at_builtin; refine wpl_append _ rfl (.tmp 24) (.tmp 25) _ rfl (w.heap.size) 2 p0 _ 1 8 Tryz.underlying30 hp hy0 hy1 hy2 rfl (by omega) _ (k) _ rfl ((hov).alloc _) ((wr).heap.size + 1) (some ⟨(wr).heap.size, 0, none⟩) 1 1 (intC (5)) rfl (Sl.new (wr) 2 _ 1 1 rfl) (intC_one _) E63.out E32.out (le_alloc (hbw).size _) ?_; intro v2 w2 ho2 hg2 hat2)
        go_roundw
        case rel =>
          refine ⟨k + 1, by omega, by go_num, ?_, ?_⟩
          · rw [Hnx.out, signI, Hb.out, if_pos (by simpa using hdot), List.flatMap_append]; simpa using ho2
          · exact (hbw.alloc hbw.size _).grown hg2 (le_alloc hbw.size _) fun g hg => (hov.lt g hg).1
        case measure => simp [intOf]; omega
    · go_wp2
      go_ret
      obtain rfl : k = s.size := by omega
      exact ⟨_, rfl, hov, hbw⟩
end Go.Proofs.YtpfnnjcochhklaaGreatDoor
