
/- Recognition: the reference: all groups; whether a character has a pattern. -/
import Derived.Test.YtgibbhipjpbdfaaRecS2
import Derived.Test.YtgibbhipjpbdfaaChPhS
namespace Go.Proofs.Ytgibbhipjpbdfaa
open Go.RowKit
theorem lit_count : ∀ B : List Int, litN B = (List.range B.length).countP fun i => decide (B.getD i 0 ≠ 0)
  | [] => rfl
  | b :: r => by
    rw [litN, List.countP_cons, ← litN, lit_count r, List.length_cons, List.range_succ_eq_map, List.countP_cons, List.countP_map]
    have e : (fun i => decide (r.getD i 0 ≠ 0)) = ((fun i => decide ((b :: r).getD i 0 ≠ 0)) ∘ Nat.succ) := by
      funext i; simp
    rw [← e]
    simp
theorem rep_count {B L : List Int} {s : Nat} (h : Rep B L s) : ∀ q, q * L.length ≤ B.length → ((List.range (q * L.length)).countP fun i => decide (B.getD i 0 ≠ 0)) = q * ((List.range L.length).countP fun i => decide (L.getD ((i + s) % L.length) 0 ≠ 0))
  | 0, _ => by simp
  | q + 1, hq => by
    have e : (q + 1) * L.length = q * L.length + L.length := by rw [Nat.add_mul, Nat.one_mul]
    rw [e] at hq ⊢
    rw [List.range_add, List.countP_append, rep_count h q (by omega), List.countP_map, Nat.add_mul, Nat.one_mul]
    congr 1
    refine List.countP_congr fun i hi => ?_
    have hi' := List.mem_range.1 hi
    have h1 := h.at' (q * L.length + i) (by omega)
    have h2 : (q * L.length + i + s) % L.length = (i + s) % L.length := by
      rw [show q * L.length + i + s = i + s + L.length * q by rw [Nat.mul_comm]; omega, Nat.add_mul_mod_self_left]
    rw [h2] at h1
    simp only [Function.comp, List.getD_eq_getElem?_getD, h1]
theorem rep_lit {B L : List Int} {s : Nat} (h : Rep B L s) : litN B * L.length = litN L * B.length := by
  obtain ⟨q, hq⟩ : ∃ q, B.length = q * L.length := by
    obtain ⟨q, hq⟩ := Nat.dvd_of_mod_eq_zero h.dvd
    exact ⟨q, by rw [hq, Nat.mul_comm]⟩
  have hC : ((List.range L.length).countP fun i => decide (L.getD ((i + s) % L.length) 0 ≠ 0)) = litN L := by
    have hp := h.pos
    have hr := rot_rep hp (s % L.length) (Nat.mod_lt _ hp)
    have h1 := rep_count hr 1 (by rw [rot_len]; omega)
    rw [Nat.one_mul, Nat.one_mul] at h1
    have h2 := lit_count (rotB L (s % L.length))
    rw [rot_len, h1, lit_rot] at h2
    rw [h2]
    refine List.countP_congr fun i _ => ?_
    rw [Nat.add_mod_mod]
  have h3 := rep_count h q (by omega)
  rw [← hq, ← lit_count, hC] at h3
  rw [h3, hq]
  rw [Nat.mul_comm q, Nat.mul_assoc]
set_option maxRecDepth 100000 in
set_option maxHeartbeats 2000000 in
theorem l06Groups_c (s : Nat) (w : World) (hs : s ≤ 100000) :
    Calls Try.prog 29 #[.int .i64 s] w fun e w' => ∃ A c rs, e = .returned (.slice A rs.length c) ∧ RowsOwn w' w.heap.size (.slice A rs.length c) rs.length rs ∧ rs.map RowG.xs = groupsS s ∧ Below w.heap.size w w' := by
  have hov := World.ownsRow_made (base := w.heap.size) (e := 24) (size := 1) w #[] 0 (Nat.le_refl _) (by simp [maxLen]) rfl
  have hbv : Below w.heap.size w (w.alloc (.cells #[] 24)) := (Below.refl _ _).alloc (Nat.le_refl _) _
  have hR0 : RowsOwn (w.alloc (.cells #[] 24)) w.heap.size (.slice (some ⟨w.heap.size, 0, none⟩) ([] : List RowG).length 0) ([] : List RowG).length [] := ⟨hov, fun r hr => by cases hr⟩
  go_enter Try.func29, Try.ntmps29
  go_wp2_with fail
  go_loopw [3, 4] (fun y i wr => ∃ (k : Nat) (A : Option Addr) (c : Nat) (rs : List RowG), k ≤ 4 ∧ i = .int .i64 ((k : Int) + 1) ∧ y = .slice A rs.length c ∧ RowsOwn wr w.heap.size (.slice A rs.length c) rs.length rs ∧ Hid (rs.map RowG.xs = (List.range k).flatMap fun i => extL (i + 1) s []) ∧ Below w.heap.size w wr) (fun _ i _ => 5 - (intOf i).toNat)
  case atStart => exact ⟨0, _, _, [], by omega, rfl, rfl, hR0, Lib.hid rfl, hbv⟩
  case round =>
    clear hov hbv hR0
    obtain ⟨k, A, c, rs, hk, rfl, rfl, hR, Hm, hbw⟩ := hrel
    by_cases hlt : k < 4
    · have i1 : (k : Int) + 1 ≤ 4 := by omega
      have hal : Below wr.heap.size wr (wr.alloc (.cells #[] 2)) := (Below.refl _ _).alloc (Nat.le_refl _) _
      have hH := World.ownsRow_made (base := wr.heap.size) (e := 2) (size := 1) wr #[] 0 (Nat.le_refl _) (by simp [maxLen]) rfl
      have hlen : rs.length + 9 ^ (k + 1) ≤ 1000000 := by
        have h1 := congrArg List.length Hm.out
        rw [List.length_map] at h1
        have hp : ∀ i, i < 4 → 9 ^ (i + 1) ≤ 6561 := fun i hi => Nat.le_trans (Nat.pow_le_pow_right (by omega) (show i + 1 ≤ 4 by omega)) (by decide)
        have h2 : ∀ j, j ≤ 4 → ((List.range j).flatMap fun i => extL (i + 1) s []).length ≤ j * 6561 := by
          intro j
          induction j with
          | zero => simp
          | succ j ih =>
            intro hj
            rw [List.range_succ, List.flatMap_append, List.length_append]
            have h3 := ih (by omega)
            have h4 := ext_len (j + 1) s []
            have h5 := hp j (by omega)
            simp only [List.flatMap_cons, List.flatMap_nil, List.append_nil]
            omega
        have h6 := h2 k (by omega)
        have h7 := hp k hlt
        omega
      have hX := l06Extend_c (k + 1) s w.heap.size A c rs (some ⟨wr.heap.size, 0, none⟩) 0 wr.heap.size [] (wr.alloc (.cells #[] 2)) (hR.next hal) (Nat.le_trans hbw.size hal.size) hH (by simp; omega) hs hlen
      have e1 : ((k + 1 : Nat) : Int) = (k : Int) + 1 := by omega
      rw [e1] at hX
      have HX := Lib.hid hX; clear hX
      clear hH
      go_wp2_with fail
      refine HX.out.mono ?_
      rintro e w5 ⟨A5, c5, rs5, rfl, hR5, hm5, hg5, hor5⟩
      have hb5 : Below w.heap.size w w5 := (hbw.alloc hbw.size _).grown hg5 (le_alloc hbw.size _) fun g hg => (hR.own.lt g hg).1
      have Hm5 := Lib.hid hm5; clear hm5
      go_wp2_with fail
      go_roundw
      case rel =>
        refine ⟨k + 1, A5, c5, rs5, by omega, by go_num, rfl, hR5, Lib.hid ?_, hb5⟩
        rw [Hm5.out, Hm.out, List.range_succ, List.flatMap_append]
        simp
      case measure => simp [intOf]; omega
    · obtain rfl : k = 4 := by omega
      have i1 : ¬ ((4 : Nat) : Int) + 1 ≤ 4 := by omega
      go_wp2_with fail
      go_ret
      exact ⟨A, c, rs, rfl, hR, by rw [Hm.out, groupsS], hbw⟩
end Go.Proofs.Ytgibbhipjpbdfaa
