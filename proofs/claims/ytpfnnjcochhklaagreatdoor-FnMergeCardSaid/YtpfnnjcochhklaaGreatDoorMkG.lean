/- MkG: several of my texts in one. -/
import Derived.Test.YtpfnnjcochhklaaGreatDoorChecked
import Derived.Test.YtpfnnjcochhklaaGreatDoorBsG

/- The laws' marks: markText. -/
namespace Go.Proofs.YtpfnnjcochhklaaGreatDoor
open Go.RowKit
theorem conv1 (w : World) (n : Int) : (convert 22 9 (.slice (some ⟨w.heap.size, 0, none⟩) 1 1)).run Tryz.prog (w.alloc (.cells #[.int .u8 n] 5)) = .ok (.string (strOfNums [n])) (w.alloc (.cells #[.int .u8 n] 5)) :=
  run_convert_bytes_arg _ 22 5 Tryz.underlying22 Tryz.underlying5 w.heap.size 0 1 1 [n] rfl (fun i hi => by
    obtain rfl : i = 0 := by omega
    simp) 9 Tryz.underlying9
def mtGo : Nat → Nat → ByteArray → ByteArray
  | 0, _, t => t
  | f + 1, j, t => if j = 0 then t else mtGo f (j / 10) (strOfNums [48 + (j : Int) % 10] ++ t)
def markT (k : Nat) : ByteArray := ⟨#[109]⟩ ++ mtGo 19 k ⟨#[]⟩
theorem mtGo_zero (m : Nat) (t : ByteArray) : mtGo m 0 t = t := by cases m <;> simp [mtGo]
theorem mtGo_size : ∀ (m j : Nat) (t : ByteArray), (mtGo m j t).size ≤ m + t.size
  | 0, j, t => by simp [mtGo]
  | m + 1, j, t => by
    unfold mtGo
    split
    · omega
    · have := mtGo_size m (j / 10) (strOfNums [48 + (j : Int) % 10] ++ t)
      rw [ByteArray.size_append, strOfNums_size] at this
      simp at this; omega
theorem markT_size (k : Nat) : (markT k).size ≤ 20 := by
  have := mtGo_size 19 k ⟨#[]⟩
  unfold markT
  rw [ByteArray.size_append]
  have e : (⟨#[]⟩ : ByteArray).size = 0 := rfl
  have e2 : (⟨#[109]⟩ : ByteArray).size = 1 := rfl
  omega
set_option maxRecDepth 100000 in
set_option maxHeartbeats 400000 in
theorem markText_c (k : Nat) (w : World) (hk : k ≤ 1000000000000000000) (h1 : 0 < k) : Calls Tryz.prog 37 #[.int .i64 k] w fun e w' => e = .returned (.string (markT k)) ∧ Below w.heap.size w w' := by
  have k1 : (0 : Int) < (k : Int) := by omega
  go_enter Tryz.func37, Tryz.ntmps37
  go_wp2
  go_loopw [0, 3] (fun k0 s wr => ∃ (j m : Nat) (t : ByteArray), k0 = .int .i64 j ∧ s = .string t ∧ j < 10 ^ m ∧ t.size + m ≤ 19 ∧ j ≤ k ∧ mtGo m j t = mtGo 19 k ⟨#[]⟩ ∧ Below w.heap.size w wr) (fun k _ _ => (intOf k).toNat)
  case atStart => exact ⟨k, 19, _, rfl, rfl, Nat.lt_of_le_of_lt hk (by decide), by decide, Nat.le_refl _, rfl, Below.refl _ _⟩
  case round =>
    obtain ⟨j, m, t, rfl, rfl, hj, ht, hjk, heq, hbw⟩ := hrel
    have Heq := Lib.hid heq; clear heq
    by_cases hlt : 0 < j
    · obtain ⟨m, rfl⟩ : ∃ q, m = q + 1 := by
        cases m with
        | zero => simp at hj; omega
        | succ q => exact ⟨q, rfl⟩
      have hd : j / 10 < 10 ^ m := by
        rw [Nat.div_lt_iff_lt_mul (by decide)]; rw [Nat.pow_succ] at hj; exact hj
      have Hd := Lib.hid hd; clear hd
      clear hj
      have h2 : (0 : Int) < (j : Int) := by omega
      have h3 : (0 : Int) ≤ (j : Int) := by omega
      have hcv := conv1 wr (48 + (j : Int) % 10)
      have hsz : (strOfNums [48 + (j : Int) % 10]).size + t.size ≤ 9223372036854775807 := by rw [strOfNums_size]; simp; omega
      go_wp2
      go_roundw
      case rel =>
        refine ⟨j / 10, m, _, by go_num, rfl, Hd.out, ?_, by omega, ?_, by (repeat (first | (with_reducible assumption) | (with_reducible exact Below.refl _ _) | exact Nat.le_refl _ | exact Below.size (by with_reducible assumption) | (with_reducible refine Below.drew ?_) | (with_reducible refine below_drewN ?_ _) | (with_reducible refine Below.alloc ?_ ?_ _) | (with_reducible refine Below.setCell ?_ ?_ _) | (with_reducible refine le_alloc ?_ _) | (with_reducible refine le_set ?_ _ _) | (with_reducible refine le_drew ?_) | (with_reducible refine le_drewN ?_ _) | omega | (dsimp only; omega)))⟩
        · rw [ByteArray.size_append, strOfNums_size]; simp; omega
        · have heq := Heq.out
          unfold mtGo at heq
          rw [if_neg (by omega)] at heq
          exact heq
      case measure => simp [intOf]; omega
    · obtain rfl : j = 0 := by omega
      have heq := Heq.out
      rw [mtGo_zero] at heq
      have Heq2 := Lib.hid heq; clear heq
      have hsz : (⟨#[109]⟩ : ByteArray).size + t.size ≤ 9223372036854775807 := by
        have e2 : (⟨#[109]⟩ : ByteArray).size = 1 := rfl
        omega
      go_wp2
      go_ret
      refine ⟨ret_eq ?_, hbw⟩
      rw [markT, ← Heq2.out]
      rfl
end Go.Proofs.YtpfnnjcochhklaaGreatDoor

/- The laws' own functions over []string. -/
namespace Go.Proofs.YtpfnnjcochhklaaGreatDoor
open Go.RowKit
theorem strInfo : (Tryz.prog.info? 9).map (fun i => (i.zero, i.size, i.bytes)) = some (some (.string ByteArray.empty), 1, 16) := by kernel_rfl
def markStrs (k n : Nat) : List ByteArray := (List.range n).map fun i => markT (k + i)
theorem markStrs_next (k n : Nat) : markStrs k (n + 1) = markStrs k n ++ [markT (k + n)] := by simp [markStrs, List.range_succ]
end Go.Proofs.YtpfnnjcochhklaaGreatDoor
