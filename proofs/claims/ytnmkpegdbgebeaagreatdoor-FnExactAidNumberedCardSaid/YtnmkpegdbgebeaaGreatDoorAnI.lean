/- AidNumbered: the program. -/
import Derived.Test.YtnmkpegdbgebeaaGreatDoorAnS
import Derived.Test.YtnmkpegdbgebeaaGreatDoorOwnJ
import Derived.Test.YtnmkpegdbgebeaaGreatDoorAidsI
namespace Go.Proofs.YtnmkpegdbgebeaaGreatDoor
open Go.RowKit
set_option maxRecDepth 100000 in
set_option maxHeartbeats 1000000 in
theorem aidOf_c (A : Option Addr) (n c : Nat) (zs : List AidG) (v : Int) (w : World) (h : AidSl w A n zs) (hm : n ≤ 1048576) (hv : aidsB (zs.map AidG.a) = true) :
    Calls Tryz.prog 31 #[.slice A n c, .int .i64 v] w fun e w' => ∃ i : Nat, e = .returned (.tuple #[.int .i64 i, .bool (fdN (zs.map AidG.a) v).isSome]) ∧ (∀ k, fdN (zs.map AidG.a) v = some k → i = k) ∧ Below w.heap.size w w' := by
  have hl := h.len
  have hst := fun (i : Nat) h1 h2 => fdN_stop hv (n := v) (i := i) h1 h2
  obtain ⟨F, hF⟩ : ∃ F, fdN (zs.map AidG.a) v = F := ⟨_, rfl⟩
  rw [hF]
  rw [hF] at hst
  clear hF hv
  have HSt := Lib.hid hst; clear hst
  have Hl := Lib.hid hl; clear hl
  go_enter Tryz.func31, Tryz.ntmps31
  go_wp2_with fail
  go_loop [6] (fun i => ∃ k : Nat, k ≤ n ∧ i = .int .i64 k ∧ Hid (∀ (j : Nat) (b : AidX), j < k → (zs.map AidG.a)[j]? = some b → b.num < v)) (fun i => n - (intOf i).toNat)
  case atStart => exact ⟨0, Nat.zero_le _, rfl, Lib.hid (fun j b hj => absurd hj (by omega))⟩
  case round =>
    obtain ⟨k, hk, rfl, Hs⟩ := hrel
    have k0 : (0 : Int) ≤ (k : Int) := by omega
    by_cases hlt : k < n
    · have k1 : (k : Int) < (n : Int) := by omega
      obtain ⟨b, off, z, rfl, hx, _, hp⟩ := h.get k hlt
      have c0 := hp.c0
      have hb := hp.hb
      have hxa : (zs.map AidG.a)[k]? = some z.a := by rw [List.getElem?_map, hx]; rfl
      clear hp
      have Hx := Lib.hid hx; clear hx
      by_cases hle : z.a.num < v
      · have hld : decide (z.a.num < v) = true := decide_eq_true hle
        have Hxa := Lib.hid hxa; clear hxa
        go_wp2_with fail
        go_round
        case rel => exact ⟨k + 1, by omega, by go_num, Lib.hid (fun j b' hj hb => by
          rcases Nat.lt_or_ge j k with h2 | h2
          · exact Hs.out j b' h2 hb
          · obtain rfl : j = k := by omega
            rw [Hxa.out] at hb
            injection hb with hb
            rw [← hb]; exact hle)⟩
        case measure => simp [intOf]; omega
      · have hld : decide (z.a.num < v) = false := decide_eq_false hle
        have hFe := HSt.out k Hs.out (fun b' hb' => by
          rw [hxa] at hb'
          injection hb' with hb'
          rw [← hb']; omega)
        have e1 : ∀ {w' : World}, Below w.heap.size w w' → (Below w.heap.size w w' ∧ (∀ x, w'.cell? ⟨b, x, none⟩ = w.cell? ⟨b, x, none⟩)) := fun hbb => ⟨hbb, keepC hbb _ hb⟩
        by_cases he : z.a.num = v
        · rw [if_pos ⟨z.a, hxa, he⟩] at hFe
          have he1 : (z.a.num == v) = true := by simpa using he
          subst hFe
          have Hxa := Lib.hid hxa; clear hxa
          have He := Lib.hid he; clear he
          go_wp2_with fail
          refine wp_region_held_drew (S := fun w' => Below w.heap.size w w' ∧ (∀ x, w'.cell? ⟨b, x, none⟩ = w.cell? ⟨b, x, none⟩)) (by kernel_rfl) (e1 (Below.refl _ _).drew) (fun hHeld => ?_)
          (first
            | (refine wpAnyH_take (i := 0) (v := ?_) rfl (by kernel_rfl) (by kernel_rfl) (by kernel_rfl) (fun _ _ _ h => h) (Or.inl ⟨by rfl, ?_⟩) (by assumption) ?_
               rotate_left
               focus (intro wq hSq; (try dsimp only at hSq); go_simp; (try (with_reducible rfl)); done))
            | (refine wpAnyH_take (i := 0) (v := undef) rfl (by kernel_rfl) (by kernel_rfl) (by kernel_rfl) (fun _ _ _ h => h) (Or.inr ⟨by rfl, rfl⟩) (by assumption) ?_)
            | fail "take 0")
          try simp only [Act.put, List.setIfInBounds_toArray, List.set_cons_zero, List.set_cons_succ, List.getElem_toArray, List.getElem_cons_zero]
          (first
            | (refine wpAnyH_take (i := 1) (v := ?_) rfl (by kernel_rfl) (by kernel_rfl) (by kernel_rfl) (fun _ _ _ h => h) (Or.inl ⟨by rfl, ?_⟩) (by assumption) ?_
               rotate_left
               focus (intro wq hSq; (try dsimp only at hSq); go_simp; (try (with_reducible rfl)); done))
            | (refine wpAnyH_take (i := 1) (v := undef) rfl (by kernel_rfl) (by kernel_rfl) (by kernel_rfl) (fun _ _ _ h => h) (Or.inr ⟨by rfl, rfl⟩) (by assumption) ?_)
            | fail "take 1")
          try simp only [Act.put, List.setIfInBounds_toArray, List.set_cons_zero, List.set_cons_succ, List.getElem_toArray, List.getElem_cons_zero, List.getElem_cons_succ]
          (first
            | (refine wpAnyH_take (i := 2) (v := ?_) rfl (by kernel_rfl) (by kernel_rfl) (by kernel_rfl) (fun _ _ _ h => h) (Or.inl ⟨by rfl, ?_⟩) (by assumption) ?_
               rotate_left
               focus (intro wq hSq; (try dsimp only at hSq); go_simp; (try (with_reducible rfl)); done))
            | (refine wpAnyH_take (i := 2) (v := undef) rfl (by kernel_rfl) (by kernel_rfl) (by kernel_rfl) (fun _ _ _ h => h) (Or.inr ⟨by rfl, rfl⟩) (by assumption) ?_)
            | fail "take 2")
          try simp only [Act.put, List.setIfInBounds_toArray, List.set_cons_zero, List.set_cons_succ, List.getElem_toArray, List.getElem_cons_zero, List.getElem_cons_succ]
          (first
            | (refine wpAnyH_take (i := 3) (v := ?_) rfl (by kernel_rfl) (by kernel_rfl) (by kernel_rfl) (fun _ _ _ h => h) (Or.inl ⟨by rfl, ?_⟩) (by assumption) ?_
               rotate_left
               focus (intro wq hSq; (try dsimp only at hSq); go_simp; (try (with_reducible rfl)); done))
            | (refine wpAnyH_take (i := 3) (v := undef) rfl (by kernel_rfl) (by kernel_rfl) (by kernel_rfl) (fun _ _ _ h => h) (Or.inr ⟨by rfl, rfl⟩) (by assumption) ?_)
            | fail "take 3")
          try simp only [Act.put, List.setIfInBounds_toArray, List.set_cons_zero, List.set_cons_succ, List.getElem_toArray, List.getElem_cons_zero, List.getElem_cons_succ]
          (first
            | (refine wpAnyH_take (i := 4) (v := ?_) rfl (by kernel_rfl) (by kernel_rfl) (by kernel_rfl) (fun _ _ _ h => h) (Or.inl ⟨by rfl, ?_⟩) (by assumption) ?_
               rotate_left
               focus (intro wq hSq; (try dsimp only at hSq); go_simp; (try (with_reducible rfl)); done))
            | (refine wpAnyH_take (i := 4) (v := undef) rfl (by kernel_rfl) (by kernel_rfl) (by kernel_rfl) (fun _ _ _ h => h) (Or.inr ⟨by rfl, rfl⟩) (by assumption) ?_)
            | fail "take 4")
          try simp only [Act.put, List.setIfInBounds_toArray, List.set_cons_zero, List.set_cons_succ, List.getElem_toArray, List.getElem_cons_zero, List.getElem_cons_succ]
          (first
            | (refine wpAnyH_take (i := 5) (v := ?_) rfl (by kernel_rfl) (by kernel_rfl) (by kernel_rfl) (fun _ _ _ h => h) (Or.inl ⟨by rfl, ?_⟩) (by assumption) ?_
               rotate_left
               focus (intro wq hSq; (try dsimp only at hSq); go_simp; (try (with_reducible rfl)); done))
            | (refine wpAnyH_take (i := 5) (v := undef) rfl (by kernel_rfl) (by kernel_rfl) (by kernel_rfl) (fun _ _ _ h => h) (Or.inr ⟨by rfl, rfl⟩) (by assumption) ?_)
            | fail "take 5")
          try simp only [Act.put, List.setIfInBounds_toArray, List.set_cons_zero, List.set_cons_succ, List.getElem_toArray, List.getElem_cons_zero, List.getElem_cons_succ]
          (first
            | (refine wpAnyH_take (i := 6) (v := ?_) rfl (by kernel_rfl) (by kernel_rfl) (by kernel_rfl) (fun _ _ _ h => h) (Or.inl ⟨by rfl, ?_⟩) (by assumption) ?_
               rotate_left
               focus (intro wq hSq; (try dsimp only at hSq); go_simp; (try (with_reducible rfl)); done))
            | (refine wpAnyH_take (i := 6) (v := undef) rfl (by kernel_rfl) (by kernel_rfl) (by kernel_rfl) (fun _ _ _ h => h) (Or.inr ⟨by rfl, rfl⟩) (by assumption) ?_)
            | fail "take 6")
          try simp only [Act.put, List.setIfInBounds_toArray, List.set_cons_zero, List.set_cons_succ, List.getElem_toArray, List.getElem_cons_zero, List.getElem_cons_succ]
          (first
            | (refine wpAnyH_take (i := 7) (v := ?_) rfl (by kernel_rfl) (by kernel_rfl) (by kernel_rfl) (fun _ _ _ h => h) (Or.inl ⟨by rfl, ?_⟩) (by assumption) ?_
               rotate_left
               focus (intro wq hSq; (try dsimp only at hSq); go_simp; (try (with_reducible rfl)); done))
            | (refine wpAnyH_take (i := 7) (v := undef) rfl (by kernel_rfl) (by kernel_rfl) (by kernel_rfl) (fun _ _ _ h => h) (Or.inr ⟨by rfl, rfl⟩) (by assumption) ?_)
            | fail "take 7")
          try simp only [Act.put, List.setIfInBounds_toArray, List.set_cons_zero, List.set_cons_succ, List.getElem_toArray, List.getElem_cons_zero, List.getElem_cons_succ]
          (first
            | (refine wpAnyH_take (i := 8) (v := ?_) rfl (by kernel_rfl) (by kernel_rfl) (by kernel_rfl) (fun _ _ _ h => h) (Or.inl ⟨by rfl, ?_⟩) (by assumption) ?_
               rotate_left
               focus (intro wq hSq; (try dsimp only at hSq); go_simp; (try (with_reducible rfl)); done))
            | (refine wpAnyH_take (i := 8) (v := undef) rfl (by kernel_rfl) (by kernel_rfl) (by kernel_rfl) (fun _ _ _ h => h) (Or.inr ⟨by rfl, rfl⟩) (by assumption) ?_)
            | fail "take 8")
          try simp only [Act.put, List.setIfInBounds_toArray, List.set_cons_zero, List.set_cons_succ, List.getElem_toArray, List.getElem_cons_zero, List.getElem_cons_succ]
          (first
            | (refine wpAnyH_take (i := 9) (v := ?_) rfl (by kernel_rfl) (by kernel_rfl) (by kernel_rfl) (fun _ _ _ h => h) (Or.inl ⟨by rfl, ?_⟩) (by assumption) ?_
               rotate_left
               focus (intro wq hSq; (try dsimp only at hSq); go_simp; (try (with_reducible rfl)); done))
            | (refine wpAnyH_take (i := 9) (v := undef) rfl (by kernel_rfl) (by kernel_rfl) (by kernel_rfl) (fun _ _ _ h => h) (Or.inr ⟨by rfl, rfl⟩) (by assumption) ?_)
            | fail "take 9")
          try simp only [Act.put, List.setIfInBounds_toArray, List.set_cons_zero, List.set_cons_succ, List.getElem_toArray, List.getElem_cons_zero, List.getElem_cons_succ]
          (first
            | (refine wpAnyH_take (i := 10) (v := ?_) rfl (by kernel_rfl) (by kernel_rfl) (by kernel_rfl) (fun _ _ _ h => h) (Or.inl ⟨by rfl, ?_⟩) (by assumption) ?_
               rotate_left
               focus (intro wq hSq; (try dsimp only at hSq); go_simp; (try (with_reducible rfl)); done))
            | (refine wpAnyH_take (i := 10) (v := undef) rfl (by kernel_rfl) (by kernel_rfl) (by kernel_rfl) (fun _ _ _ h => h) (Or.inr ⟨by rfl, rfl⟩) (by assumption) ?_)
            | fail "take 10")
          try simp only [Act.put, List.setIfInBounds_toArray, List.set_cons_zero, List.set_cons_succ, List.getElem_toArray, List.getElem_cons_zero, List.getElem_cons_succ]
          (first
            | (refine wpAnyH_take (i := 11) (v := ?_) rfl (by kernel_rfl) (by kernel_rfl) (by kernel_rfl) (fun _ _ _ h => h) (Or.inl ⟨by rfl, ?_⟩) (by assumption) ?_
               rotate_left
               focus (intro wq hSq; (try dsimp only at hSq); go_simp; (try (with_reducible rfl)); done))
            | (refine wpAnyH_take (i := 11) (v := undef) rfl (by kernel_rfl) (by kernel_rfl) (by kernel_rfl) (fun _ _ _ h => h) (Or.inr ⟨by rfl, rfl⟩) (by assumption) ?_)
            | fail "take 11")
          try simp only [Act.put, List.setIfInBounds_toArray, List.set_cons_zero, List.set_cons_succ, List.getElem_toArray, List.getElem_cons_zero, List.getElem_cons_succ]
          (first
            | (refine wpAnyH_take (i := 12) (v := ?_) rfl (by kernel_rfl) (by kernel_rfl) (by kernel_rfl) (fun _ _ _ h => h) (Or.inl ⟨by rfl, ?_⟩) (by assumption) ?_
               rotate_left
               focus (intro wq hSq; (try dsimp only at hSq); go_simp; (try (with_reducible rfl)); done))
            | (refine wpAnyH_take (i := 12) (v := undef) rfl (by kernel_rfl) (by kernel_rfl) (by kernel_rfl) (fun _ _ _ h => h) (Or.inr ⟨by rfl, rfl⟩) (by assumption) ?_)
            | fail "take 12")
          try simp only [Act.put, List.setIfInBounds_toArray, List.set_cons_zero, List.set_cons_succ, List.getElem_toArray, List.getElem_cons_zero, List.getElem_cons_succ]
          (first
            | (refine wpAnyH_take (i := 13) (v := ?_) rfl (by kernel_rfl) (by kernel_rfl) (by kernel_rfl) (fun _ _ _ h => h) (Or.inl ⟨by rfl, ?_⟩) (by assumption) ?_
               rotate_left
               focus (intro wq hSq; (try dsimp only at hSq); go_simp; (try (with_reducible rfl)); done))
            | (refine wpAnyH_take (i := 13) (v := undef) rfl (by kernel_rfl) (by kernel_rfl) (by kernel_rfl) (fun _ _ _ h => h) (Or.inr ⟨by rfl, rfl⟩) (by assumption) ?_)
            | fail "take 13")
          try simp only [Act.put, List.setIfInBounds_toArray, List.set_cons_zero, List.set_cons_succ, List.getElem_toArray, List.getElem_cons_zero, List.getElem_cons_succ]
          (first
            | (refine wpAnyH_take (i := 14) (v := ?_) rfl (by kernel_rfl) (by kernel_rfl) (by kernel_rfl) (fun _ _ _ h => h) (Or.inl ⟨by rfl, ?_⟩) (by assumption) ?_
               rotate_left
               focus (intro wq hSq; (try dsimp only at hSq); go_simp; (try (with_reducible rfl)); done))
            | (refine wpAnyH_take (i := 14) (v := undef) rfl (by kernel_rfl) (by kernel_rfl) (by kernel_rfl) (fun _ _ _ h => h) (Or.inr ⟨by rfl, rfl⟩) (by assumption) ?_)
            | fail "take 14")
          try simp only [Act.put, List.setIfInBounds_toArray, List.set_cons_zero, List.set_cons_succ, List.getElem_toArray, List.getElem_cons_zero, List.getElem_cons_succ]
          (first
            | (refine wpAnyH_take (i := 15) (v := ?_) rfl (by kernel_rfl) (by kernel_rfl) (by kernel_rfl) (fun _ _ _ h => h) (Or.inl ⟨by rfl, ?_⟩) (by assumption) ?_
               rotate_left
               focus (intro wq hSq; (try dsimp only at hSq); go_simp; (try (with_reducible rfl)); done))
            | (refine wpAnyH_take (i := 15) (v := undef) rfl (by kernel_rfl) (by kernel_rfl) (by kernel_rfl) (fun _ _ _ h => h) (Or.inr ⟨by rfl, rfl⟩) (by assumption) ?_)
            | fail "take 15")
          try simp only [Act.put, List.setIfInBounds_toArray, List.set_cons_zero, List.set_cons_succ, List.getElem_toArray, List.getElem_cons_zero, List.getElem_cons_succ]
          refine wpAnyH_done (by kernel_rfl) ?_ _
          clear hHeld e1
          go_wp2_with fail
          go_ret2
          exact ⟨k, rfl, fun k' e => Option.some.inj e, (Below.refl _ _).drew⟩
        · rw [if_neg (fun ⟨b', h1, h2⟩ => by
            rw [hxa] at h1
            injection h1 with h1
            rw [← h1] at h2; exact he h2)] at hFe
          have he1 : (z.a.num == v) = false := by simpa using he
          subst hFe
          have Hxa := Lib.hid hxa; clear hxa
          have He := Lib.hid he; clear he
          go_wp2_with fail
          refine wp_region_held_drew (S := fun w' => Below w.heap.size w w' ∧ (∀ x, w'.cell? ⟨b, x, none⟩ = w.cell? ⟨b, x, none⟩)) (by kernel_rfl) (e1 (Below.refl _ _).drew) (fun hHeld => ?_)
          (first
            | (refine wpAnyH_take (i := 0) (v := ?_) rfl (by kernel_rfl) (by kernel_rfl) (by kernel_rfl) (fun _ _ _ h => h) (Or.inl ⟨by rfl, ?_⟩) (by assumption) ?_
               rotate_left
               focus (intro wq hSq; (try dsimp only at hSq); go_simp; (try (with_reducible rfl)); done))
            | (refine wpAnyH_take (i := 0) (v := undef) rfl (by kernel_rfl) (by kernel_rfl) (by kernel_rfl) (fun _ _ _ h => h) (Or.inr ⟨by rfl, rfl⟩) (by assumption) ?_)
            | fail "take 0")
          try simp only [Act.put, List.setIfInBounds_toArray, List.set_cons_zero, List.set_cons_succ, List.getElem_toArray, List.getElem_cons_zero]
          (first
            | (refine wpAnyH_take (i := 1) (v := ?_) rfl (by kernel_rfl) (by kernel_rfl) (by kernel_rfl) (fun _ _ _ h => h) (Or.inl ⟨by rfl, ?_⟩) (by assumption) ?_
               rotate_left
               focus (intro wq hSq; (try dsimp only at hSq); go_simp; (try (with_reducible rfl)); done))
            | (refine wpAnyH_take (i := 1) (v := undef) rfl (by kernel_rfl) (by kernel_rfl) (by kernel_rfl) (fun _ _ _ h => h) (Or.inr ⟨by rfl, rfl⟩) (by assumption) ?_)
            | fail "take 1")
          try simp only [Act.put, List.setIfInBounds_toArray, List.set_cons_zero, List.set_cons_succ, List.getElem_toArray, List.getElem_cons_zero, List.getElem_cons_succ]
          (first
            | (refine wpAnyH_take (i := 2) (v := ?_) rfl (by kernel_rfl) (by kernel_rfl) (by kernel_rfl) (fun _ _ _ h => h) (Or.inl ⟨by rfl, ?_⟩) (by assumption) ?_
               rotate_left
               focus (intro wq hSq; (try dsimp only at hSq); go_simp; (try (with_reducible rfl)); done))
            | (refine wpAnyH_take (i := 2) (v := undef) rfl (by kernel_rfl) (by kernel_rfl) (by kernel_rfl) (fun _ _ _ h => h) (Or.inr ⟨by rfl, rfl⟩) (by assumption) ?_)
            | fail "take 2")
          try simp only [Act.put, List.setIfInBounds_toArray, List.set_cons_zero, List.set_cons_succ, List.getElem_toArray, List.getElem_cons_zero, List.getElem_cons_succ]
          (first
            | (refine wpAnyH_take (i := 3) (v := ?_) rfl (by kernel_rfl) (by kernel_rfl) (by kernel_rfl) (fun _ _ _ h => h) (Or.inl ⟨by rfl, ?_⟩) (by assumption) ?_
               rotate_left
               focus (intro wq hSq; (try dsimp only at hSq); go_simp; (try (with_reducible rfl)); done))
            | (refine wpAnyH_take (i := 3) (v := undef) rfl (by kernel_rfl) (by kernel_rfl) (by kernel_rfl) (fun _ _ _ h => h) (Or.inr ⟨by rfl, rfl⟩) (by assumption) ?_)
            | fail "take 3")
          try simp only [Act.put, List.setIfInBounds_toArray, List.set_cons_zero, List.set_cons_succ, List.getElem_toArray, List.getElem_cons_zero, List.getElem_cons_succ]
          (first
            | (refine wpAnyH_take (i := 4) (v := ?_) rfl (by kernel_rfl) (by kernel_rfl) (by kernel_rfl) (fun _ _ _ h => h) (Or.inl ⟨by rfl, ?_⟩) (by assumption) ?_
               rotate_left
               focus (intro wq hSq; (try dsimp only at hSq); go_simp; (try (with_reducible rfl)); done))
            | (refine wpAnyH_take (i := 4) (v := undef) rfl (by kernel_rfl) (by kernel_rfl) (by kernel_rfl) (fun _ _ _ h => h) (Or.inr ⟨by rfl, rfl⟩) (by assumption) ?_)
            | fail "take 4")
          try simp only [Act.put, List.setIfInBounds_toArray, List.set_cons_zero, List.set_cons_succ, List.getElem_toArray, List.getElem_cons_zero, List.getElem_cons_succ]
          (first
            | (refine wpAnyH_take (i := 5) (v := ?_) rfl (by kernel_rfl) (by kernel_rfl) (by kernel_rfl) (fun _ _ _ h => h) (Or.inl ⟨by rfl, ?_⟩) (by assumption) ?_
               rotate_left
               focus (intro wq hSq; (try dsimp only at hSq); go_simp; (try (with_reducible rfl)); done))
            | (refine wpAnyH_take (i := 5) (v := undef) rfl (by kernel_rfl) (by kernel_rfl) (by kernel_rfl) (fun _ _ _ h => h) (Or.inr ⟨by rfl, rfl⟩) (by assumption) ?_)
            | fail "take 5")
          try simp only [Act.put, List.setIfInBounds_toArray, List.set_cons_zero, List.set_cons_succ, List.getElem_toArray, List.getElem_cons_zero, List.getElem_cons_succ]
          (first
            | (refine wpAnyH_take (i := 6) (v := ?_) rfl (by kernel_rfl) (by kernel_rfl) (by kernel_rfl) (fun _ _ _ h => h) (Or.inl ⟨by rfl, ?_⟩) (by assumption) ?_
               rotate_left
               focus (intro wq hSq; (try dsimp only at hSq); go_simp; (try (with_reducible rfl)); done))
            | (refine wpAnyH_take (i := 6) (v := undef) rfl (by kernel_rfl) (by kernel_rfl) (by kernel_rfl) (fun _ _ _ h => h) (Or.inr ⟨by rfl, rfl⟩) (by assumption) ?_)
            | fail "take 6")
          try simp only [Act.put, List.setIfInBounds_toArray, List.set_cons_zero, List.set_cons_succ, List.getElem_toArray, List.getElem_cons_zero, List.getElem_cons_succ]
          (first
            | (refine wpAnyH_take (i := 7) (v := ?_) rfl (by kernel_rfl) (by kernel_rfl) (by kernel_rfl) (fun _ _ _ h => h) (Or.inl ⟨by rfl, ?_⟩) (by assumption) ?_
               rotate_left
               focus (intro wq hSq; (try dsimp only at hSq); go_simp; (try (with_reducible rfl)); done))
            | (refine wpAnyH_take (i := 7) (v := undef) rfl (by kernel_rfl) (by kernel_rfl) (by kernel_rfl) (fun _ _ _ h => h) (Or.inr ⟨by rfl, rfl⟩) (by assumption) ?_)
            | fail "take 7")
          try simp only [Act.put, List.setIfInBounds_toArray, List.set_cons_zero, List.set_cons_succ, List.getElem_toArray, List.getElem_cons_zero, List.getElem_cons_succ]
          (first
            | (refine wpAnyH_take (i := 8) (v := ?_) rfl (by kernel_rfl) (by kernel_rfl) (by kernel_rfl) (fun _ _ _ h => h) (Or.inl ⟨by rfl, ?_⟩) (by assumption) ?_
               rotate_left
               focus (intro wq hSq; (try dsimp only at hSq); go_simp; (try (with_reducible rfl)); done))
            | (refine wpAnyH_take (i := 8) (v := undef) rfl (by kernel_rfl) (by kernel_rfl) (by kernel_rfl) (fun _ _ _ h => h) (Or.inr ⟨by rfl, rfl⟩) (by assumption) ?_)
            | fail "take 8")
          try simp only [Act.put, List.setIfInBounds_toArray, List.set_cons_zero, List.set_cons_succ, List.getElem_toArray, List.getElem_cons_zero, List.getElem_cons_succ]
          (first
            | (refine wpAnyH_take (i := 9) (v := ?_) rfl (by kernel_rfl) (by kernel_rfl) (by kernel_rfl) (fun _ _ _ h => h) (Or.inl ⟨by rfl, ?_⟩) (by assumption) ?_
               rotate_left
               focus (intro wq hSq; (try dsimp only at hSq); go_simp; (try (with_reducible rfl)); done))
            | (refine wpAnyH_take (i := 9) (v := undef) rfl (by kernel_rfl) (by kernel_rfl) (by kernel_rfl) (fun _ _ _ h => h) (Or.inr ⟨by rfl, rfl⟩) (by assumption) ?_)
            | fail "take 9")
          try simp only [Act.put, List.setIfInBounds_toArray, List.set_cons_zero, List.set_cons_succ, List.getElem_toArray, List.getElem_cons_zero, List.getElem_cons_succ]
          (first
            | (refine wpAnyH_take (i := 10) (v := ?_) rfl (by kernel_rfl) (by kernel_rfl) (by kernel_rfl) (fun _ _ _ h => h) (Or.inl ⟨by rfl, ?_⟩) (by assumption) ?_
               rotate_left
               focus (intro wq hSq; (try dsimp only at hSq); go_simp; (try (with_reducible rfl)); done))
            | (refine wpAnyH_take (i := 10) (v := undef) rfl (by kernel_rfl) (by kernel_rfl) (by kernel_rfl) (fun _ _ _ h => h) (Or.inr ⟨by rfl, rfl⟩) (by assumption) ?_)
            | fail "take 10")
          try simp only [Act.put, List.setIfInBounds_toArray, List.set_cons_zero, List.set_cons_succ, List.getElem_toArray, List.getElem_cons_zero, List.getElem_cons_succ]
          (first
            | (refine wpAnyH_take (i := 11) (v := ?_) rfl (by kernel_rfl) (by kernel_rfl) (by kernel_rfl) (fun _ _ _ h => h) (Or.inl ⟨by rfl, ?_⟩) (by assumption) ?_
               rotate_left
               focus (intro wq hSq; (try dsimp only at hSq); go_simp; (try (with_reducible rfl)); done))
            | (refine wpAnyH_take (i := 11) (v := undef) rfl (by kernel_rfl) (by kernel_rfl) (by kernel_rfl) (fun _ _ _ h => h) (Or.inr ⟨by rfl, rfl⟩) (by assumption) ?_)
            | fail "take 11")
          try simp only [Act.put, List.setIfInBounds_toArray, List.set_cons_zero, List.set_cons_succ, List.getElem_toArray, List.getElem_cons_zero, List.getElem_cons_succ]
          (first
            | (refine wpAnyH_take (i := 12) (v := ?_) rfl (by kernel_rfl) (by kernel_rfl) (by kernel_rfl) (fun _ _ _ h => h) (Or.inl ⟨by rfl, ?_⟩) (by assumption) ?_
               rotate_left
               focus (intro wq hSq; (try dsimp only at hSq); go_simp; (try (with_reducible rfl)); done))
            | (refine wpAnyH_take (i := 12) (v := undef) rfl (by kernel_rfl) (by kernel_rfl) (by kernel_rfl) (fun _ _ _ h => h) (Or.inr ⟨by rfl, rfl⟩) (by assumption) ?_)
            | fail "take 12")
          try simp only [Act.put, List.setIfInBounds_toArray, List.set_cons_zero, List.set_cons_succ, List.getElem_toArray, List.getElem_cons_zero, List.getElem_cons_succ]
          (first
            | (refine wpAnyH_take (i := 13) (v := ?_) rfl (by kernel_rfl) (by kernel_rfl) (by kernel_rfl) (fun _ _ _ h => h) (Or.inl ⟨by rfl, ?_⟩) (by assumption) ?_
               rotate_left
               focus (intro wq hSq; (try dsimp only at hSq); go_simp; (try (with_reducible rfl)); done))
            | (refine wpAnyH_take (i := 13) (v := undef) rfl (by kernel_rfl) (by kernel_rfl) (by kernel_rfl) (fun _ _ _ h => h) (Or.inr ⟨by rfl, rfl⟩) (by assumption) ?_)
            | fail "take 13")
          try simp only [Act.put, List.setIfInBounds_toArray, List.set_cons_zero, List.set_cons_succ, List.getElem_toArray, List.getElem_cons_zero, List.getElem_cons_succ]
          (first
            | (refine wpAnyH_take (i := 14) (v := ?_) rfl (by kernel_rfl) (by kernel_rfl) (by kernel_rfl) (fun _ _ _ h => h) (Or.inl ⟨by rfl, ?_⟩) (by assumption) ?_
               rotate_left
               focus (intro wq hSq; (try dsimp only at hSq); go_simp; (try (with_reducible rfl)); done))
            | (refine wpAnyH_take (i := 14) (v := undef) rfl (by kernel_rfl) (by kernel_rfl) (by kernel_rfl) (fun _ _ _ h => h) (Or.inr ⟨by rfl, rfl⟩) (by assumption) ?_)
            | fail "take 14")
          try simp only [Act.put, List.setIfInBounds_toArray, List.set_cons_zero, List.set_cons_succ, List.getElem_toArray, List.getElem_cons_zero, List.getElem_cons_succ]
          (first
            | (refine wpAnyH_take (i := 15) (v := ?_) rfl (by kernel_rfl) (by kernel_rfl) (by kernel_rfl) (fun _ _ _ h => h) (Or.inl ⟨by rfl, ?_⟩) (by assumption) ?_
               rotate_left
               focus (intro wq hSq; (try dsimp only at hSq); go_simp; (try (with_reducible rfl)); done))
            | (refine wpAnyH_take (i := 15) (v := undef) rfl (by kernel_rfl) (by kernel_rfl) (by kernel_rfl) (fun _ _ _ h => h) (Or.inr ⟨by rfl, rfl⟩) (by assumption) ?_)
            | fail "take 15")
          try simp only [Act.put, List.setIfInBounds_toArray, List.set_cons_zero, List.set_cons_succ, List.getElem_toArray, List.getElem_cons_zero, List.getElem_cons_succ]
          refine wpAnyH_done (by kernel_rfl) ?_ _
          clear hHeld e1
          go_wp2_with fail
          go_ret2
          exact ⟨k, rfl, (fun k' e => nomatch e), (Below.refl _ _).drew⟩
    · obtain rfl : k = n := by omega
      have hnn : (zs.map AidG.a)[k]? = none := by rw [List.getElem?_map, List.getElem?_eq_none (by rw [Hl.out]; omega)]; rfl
      have hFe := HSt.out k Hs.out (fun b' hb' => by rw [hnn] at hb'; cases hb')
      rw [if_neg (fun ⟨b', h1, _⟩ => by rw [hnn] at h1; cases h1)] at hFe
      subst hFe
      have Hnn := Lib.hid hnn; clear hnn
      go_wp2_with fail
      refine wp_region_held_drew (S := fun w' => Below w.heap.size w w') (by kernel_rfl) (Below.refl _ _).drew (fun hHeld => ?_)
      (first
        | (refine wpAnyH_take (i := 0) (v := ?_) rfl (by kernel_rfl) (by kernel_rfl) (by kernel_rfl) (fun _ _ _ h => h) (Or.inl ⟨by rfl, ?_⟩) (by assumption) ?_
           rotate_left
           focus (intro wq hSq; (try dsimp only at hSq); go_simp; (try (with_reducible rfl)); done))
        | (refine wpAnyH_take (i := 0) (v := undef) rfl (by kernel_rfl) (by kernel_rfl) (by kernel_rfl) (fun _ _ _ h => h) (Or.inr ⟨by rfl, rfl⟩) (by assumption) ?_)
        | fail "take 0")
      try simp only [Act.put, List.setIfInBounds_toArray, List.set_cons_zero, List.set_cons_succ, List.getElem_toArray, List.getElem_cons_zero]
      (first
        | (refine wpAnyH_take (i := 1) (v := ?_) rfl (by kernel_rfl) (by kernel_rfl) (by kernel_rfl) (fun _ _ _ h => h) (Or.inl ⟨by rfl, ?_⟩) (by assumption) ?_
           rotate_left
           focus (intro wq hSq; (try dsimp only at hSq); go_simp; (try (with_reducible rfl)); done))
        | (refine wpAnyH_take (i := 1) (v := undef) rfl (by kernel_rfl) (by kernel_rfl) (by kernel_rfl) (fun _ _ _ h => h) (Or.inr ⟨by rfl, rfl⟩) (by assumption) ?_)
        | fail "take 1")
      try simp only [Act.put, List.setIfInBounds_toArray, List.set_cons_zero, List.set_cons_succ, List.getElem_toArray, List.getElem_cons_zero, List.getElem_cons_succ]
      (first
        | (refine wpAnyH_take (i := 2) (v := ?_) rfl (by kernel_rfl) (by kernel_rfl) (by kernel_rfl) (fun _ _ _ h => h) (Or.inl ⟨by rfl, ?_⟩) (by assumption) ?_
           rotate_left
           focus (intro wq hSq; (try dsimp only at hSq); go_simp; (try (with_reducible rfl)); done))
        | (refine wpAnyH_take (i := 2) (v := undef) rfl (by kernel_rfl) (by kernel_rfl) (by kernel_rfl) (fun _ _ _ h => h) (Or.inr ⟨by rfl, rfl⟩) (by assumption) ?_)
        | fail "take 2")
      try simp only [Act.put, List.setIfInBounds_toArray, List.set_cons_zero, List.set_cons_succ, List.getElem_toArray, List.getElem_cons_zero, List.getElem_cons_succ]
      (first
        | (refine wpAnyH_take (i := 3) (v := ?_) rfl (by kernel_rfl) (by kernel_rfl) (by kernel_rfl) (fun _ _ _ h => h) (Or.inl ⟨by rfl, ?_⟩) (by assumption) ?_
           rotate_left
           focus (intro wq hSq; (try dsimp only at hSq); go_simp; (try (with_reducible rfl)); done))
        | (refine wpAnyH_take (i := 3) (v := undef) rfl (by kernel_rfl) (by kernel_rfl) (by kernel_rfl) (fun _ _ _ h => h) (Or.inr ⟨by rfl, rfl⟩) (by assumption) ?_)
        | fail "take 3")
      try simp only [Act.put, List.setIfInBounds_toArray, List.set_cons_zero, List.set_cons_succ, List.getElem_toArray, List.getElem_cons_zero, List.getElem_cons_succ]
      (first
        | (refine wpAnyH_take (i := 4) (v := ?_) rfl (by kernel_rfl) (by kernel_rfl) (by kernel_rfl) (fun _ _ _ h => h) (Or.inl ⟨by rfl, ?_⟩) (by assumption) ?_
           rotate_left
           focus (intro wq hSq; (try dsimp only at hSq); go_simp; (try (with_reducible rfl)); done))
        | (refine wpAnyH_take (i := 4) (v := undef) rfl (by kernel_rfl) (by kernel_rfl) (by kernel_rfl) (fun _ _ _ h => h) (Or.inr ⟨by rfl, rfl⟩) (by assumption) ?_)
        | fail "take 4")
      try simp only [Act.put, List.setIfInBounds_toArray, List.set_cons_zero, List.set_cons_succ, List.getElem_toArray, List.getElem_cons_zero, List.getElem_cons_succ]
      (first
        | (refine wpAnyH_take (i := 5) (v := ?_) rfl (by kernel_rfl) (by kernel_rfl) (by kernel_rfl) (fun _ _ _ h => h) (Or.inl ⟨by rfl, ?_⟩) (by assumption) ?_
           rotate_left
           focus (intro wq hSq; (try dsimp only at hSq); go_simp; (try (with_reducible rfl)); done))
        | (refine wpAnyH_take (i := 5) (v := undef) rfl (by kernel_rfl) (by kernel_rfl) (by kernel_rfl) (fun _ _ _ h => h) (Or.inr ⟨by rfl, rfl⟩) (by assumption) ?_)
        | fail "take 5")
      try simp only [Act.put, List.setIfInBounds_toArray, List.set_cons_zero, List.set_cons_succ, List.getElem_toArray, List.getElem_cons_zero, List.getElem_cons_succ]
      (first
        | (refine wpAnyH_take (i := 6) (v := ?_) rfl (by kernel_rfl) (by kernel_rfl) (by kernel_rfl) (fun _ _ _ h => h) (Or.inl ⟨by rfl, ?_⟩) (by assumption) ?_
           rotate_left
           focus (intro wq hSq; (try dsimp only at hSq); go_simp; (try (with_reducible rfl)); done))
        | (refine wpAnyH_take (i := 6) (v := undef) rfl (by kernel_rfl) (by kernel_rfl) (by kernel_rfl) (fun _ _ _ h => h) (Or.inr ⟨by rfl, rfl⟩) (by assumption) ?_)
        | fail "take 6")
      try simp only [Act.put, List.setIfInBounds_toArray, List.set_cons_zero, List.set_cons_succ, List.getElem_toArray, List.getElem_cons_zero, List.getElem_cons_succ]
      (first
        | (refine wpAnyH_take (i := 7) (v := ?_) rfl (by kernel_rfl) (by kernel_rfl) (by kernel_rfl) (fun _ _ _ h => h) (Or.inl ⟨by rfl, ?_⟩) (by assumption) ?_
           rotate_left
           focus (intro wq hSq; (try dsimp only at hSq); go_simp; (try (with_reducible rfl)); done))
        | (refine wpAnyH_take (i := 7) (v := undef) rfl (by kernel_rfl) (by kernel_rfl) (by kernel_rfl) (fun _ _ _ h => h) (Or.inr ⟨by rfl, rfl⟩) (by assumption) ?_)
        | fail "take 7")
      try simp only [Act.put, List.setIfInBounds_toArray, List.set_cons_zero, List.set_cons_succ, List.getElem_toArray, List.getElem_cons_zero, List.getElem_cons_succ]
      (first
        | (refine wpAnyH_take (i := 8) (v := ?_) rfl (by kernel_rfl) (by kernel_rfl) (by kernel_rfl) (fun _ _ _ h => h) (Or.inl ⟨by rfl, ?_⟩) (by assumption) ?_
           rotate_left
           focus (intro wq hSq; (try dsimp only at hSq); go_simp; (try (with_reducible rfl)); done))
        | (refine wpAnyH_take (i := 8) (v := undef) rfl (by kernel_rfl) (by kernel_rfl) (by kernel_rfl) (fun _ _ _ h => h) (Or.inr ⟨by rfl, rfl⟩) (by assumption) ?_)
        | fail "take 8")
      try simp only [Act.put, List.setIfInBounds_toArray, List.set_cons_zero, List.set_cons_succ, List.getElem_toArray, List.getElem_cons_zero, List.getElem_cons_succ]
      (first
        | (refine wpAnyH_take (i := 9) (v := ?_) rfl (by kernel_rfl) (by kernel_rfl) (by kernel_rfl) (fun _ _ _ h => h) (Or.inl ⟨by rfl, ?_⟩) (by assumption) ?_
           rotate_left
           focus (intro wq hSq; (try dsimp only at hSq); go_simp; (try (with_reducible rfl)); done))
        | (refine wpAnyH_take (i := 9) (v := undef) rfl (by kernel_rfl) (by kernel_rfl) (by kernel_rfl) (fun _ _ _ h => h) (Or.inr ⟨by rfl, rfl⟩) (by assumption) ?_)
        | fail "take 9")
      try simp only [Act.put, List.setIfInBounds_toArray, List.set_cons_zero, List.set_cons_succ, List.getElem_toArray, List.getElem_cons_zero, List.getElem_cons_succ]
      (first
        | (refine wpAnyH_take (i := 10) (v := ?_) rfl (by kernel_rfl) (by kernel_rfl) (by kernel_rfl) (fun _ _ _ h => h) (Or.inl ⟨by rfl, ?_⟩) (by assumption) ?_
           rotate_left
           focus (intro wq hSq; (try dsimp only at hSq); go_simp; (try (with_reducible rfl)); done))
        | (refine wpAnyH_take (i := 10) (v := undef) rfl (by kernel_rfl) (by kernel_rfl) (by kernel_rfl) (fun _ _ _ h => h) (Or.inr ⟨by rfl, rfl⟩) (by assumption) ?_)
        | fail "take 10")
      try simp only [Act.put, List.setIfInBounds_toArray, List.set_cons_zero, List.set_cons_succ, List.getElem_toArray, List.getElem_cons_zero, List.getElem_cons_succ]
      (first
        | (refine wpAnyH_take (i := 11) (v := ?_) rfl (by kernel_rfl) (by kernel_rfl) (by kernel_rfl) (fun _ _ _ h => h) (Or.inl ⟨by rfl, ?_⟩) (by assumption) ?_
           rotate_left
           focus (intro wq hSq; (try dsimp only at hSq); go_simp; (try (with_reducible rfl)); done))
        | (refine wpAnyH_take (i := 11) (v := undef) rfl (by kernel_rfl) (by kernel_rfl) (by kernel_rfl) (fun _ _ _ h => h) (Or.inr ⟨by rfl, rfl⟩) (by assumption) ?_)
        | fail "take 11")
      try simp only [Act.put, List.setIfInBounds_toArray, List.set_cons_zero, List.set_cons_succ, List.getElem_toArray, List.getElem_cons_zero, List.getElem_cons_succ]
      (first
        | (refine wpAnyH_take (i := 12) (v := ?_) rfl (by kernel_rfl) (by kernel_rfl) (by kernel_rfl) (fun _ _ _ h => h) (Or.inl ⟨by rfl, ?_⟩) (by assumption) ?_
           rotate_left
           focus (intro wq hSq; (try dsimp only at hSq); go_simp; (try (with_reducible rfl)); done))
        | (refine wpAnyH_take (i := 12) (v := undef) rfl (by kernel_rfl) (by kernel_rfl) (by kernel_rfl) (fun _ _ _ h => h) (Or.inr ⟨by rfl, rfl⟩) (by assumption) ?_)
        | fail "take 12")
      try simp only [Act.put, List.setIfInBounds_toArray, List.set_cons_zero, List.set_cons_succ, List.getElem_toArray, List.getElem_cons_zero, List.getElem_cons_succ]
      (first
        | (refine wpAnyH_take (i := 13) (v := ?_) rfl (by kernel_rfl) (by kernel_rfl) (by kernel_rfl) (fun _ _ _ h => h) (Or.inl ⟨by rfl, ?_⟩) (by assumption) ?_
           rotate_left
           focus (intro wq hSq; (try dsimp only at hSq); go_simp; (try (with_reducible rfl)); done))
        | (refine wpAnyH_take (i := 13) (v := undef) rfl (by kernel_rfl) (by kernel_rfl) (by kernel_rfl) (fun _ _ _ h => h) (Or.inr ⟨by rfl, rfl⟩) (by assumption) ?_)
        | fail "take 13")
      try simp only [Act.put, List.setIfInBounds_toArray, List.set_cons_zero, List.set_cons_succ, List.getElem_toArray, List.getElem_cons_zero, List.getElem_cons_succ]
      (first
        | (refine wpAnyH_take (i := 14) (v := ?_) rfl (by kernel_rfl) (by kernel_rfl) (by kernel_rfl) (fun _ _ _ h => h) (Or.inl ⟨by rfl, ?_⟩) (by assumption) ?_
           rotate_left
           focus (intro wq hSq; (try dsimp only at hSq); go_simp; (try (with_reducible rfl)); done))
        | (refine wpAnyH_take (i := 14) (v := undef) rfl (by kernel_rfl) (by kernel_rfl) (by kernel_rfl) (fun _ _ _ h => h) (Or.inr ⟨by rfl, rfl⟩) (by assumption) ?_)
        | fail "take 14")
      try simp only [Act.put, List.setIfInBounds_toArray, List.set_cons_zero, List.set_cons_succ, List.getElem_toArray, List.getElem_cons_zero, List.getElem_cons_succ]
      (first
        | (refine wpAnyH_take (i := 15) (v := ?_) rfl (by kernel_rfl) (by kernel_rfl) (by kernel_rfl) (fun _ _ _ h => h) (Or.inl ⟨by rfl, ?_⟩) (by assumption) ?_
           rotate_left
           focus (intro wq hSq; (try dsimp only at hSq); go_simp; (try (with_reducible rfl)); done))
        | (refine wpAnyH_take (i := 15) (v := undef) rfl (by kernel_rfl) (by kernel_rfl) (by kernel_rfl) (fun _ _ _ h => h) (Or.inr ⟨by rfl, rfl⟩) (by assumption) ?_)
        | fail "take 15")
      try simp only [Act.put, List.setIfInBounds_toArray, List.set_cons_zero, List.set_cons_succ, List.getElem_toArray, List.getElem_cons_zero, List.getElem_cons_succ]
      refine wpAnyH_done (by kernel_rfl) ?_ _
      clear hHeld
      go_wp2_with fail
      go_ret2
      exact ⟨k, rfl, (fun k' e => nomatch e), (Below.refl _ _).drew⟩
set_option maxRecDepth 100000 in
set_option maxHeartbeats 2000000 in
theorem implAidNumbered_c (A : Option Addr) (n c : Nat) (zs : List AidG) (v : Int) (w : World) (h : AidSl w A n zs) (hm : n ≤ 1048576) (ht : Tab w) :
    Calls Tryz.prog 10 #[.slice A n c, .int .i64 v] w fun e w' => ∃ z' : AidG, e = .returned (.tuple #[z'.val, .int .i64 (anK (zs.map AidG.a) v)]) ∧ z'.a = anA (zs.map AidG.a) v ∧ AidNew w' w.heap.size z' ∧ Below w.heap.size w w' := by
  have hl := h.len
  have hO := fun w1 (hb : Below w.heap.size w w1) => implValidAids_c A n c zs w1 (h.next hb) hm (ht.next hb)
  have hF := fun (hv : aidsB (zs.map AidG.a) = true) w1 (hb : Below w.heap.size w w1) => aidOf_c A n c zs v w1 (h.next hb) hm hv
  have hat := fun k z (hz : zs[k]? = some z) => aAt_eq hz
  obtain ⟨V, hV⟩ : ∃ V, aidsB (zs.map AidG.a) = V := ⟨_, rfl⟩
  obtain ⟨F, hFd⟩ : ∃ F, fdN (zs.map AidG.a) v = F := ⟨_, rfl⟩
  have hFl : ∀ k, F = some k → k < n := fun k hk => by
    obtain ⟨a, _, _, h3⟩ := fdN_at (hFd.trans hk)
    rw [List.length_map] at h3; omega
  have hA : anA (zs.map AidG.a) v = if V = true then (F.elim aidZero (aAt (zs.map AidG.a))) else aidZero := by rw [anA, hV, hFd]
  have hK : anK (zs.map AidG.a) v = bif V then (F.elim 3 (fun _ => 0)) else 1 := by rw [anK, hV, hFd]
  rw [hA, hK]
  rw [hV] at hO
  rw [hV, hFd] at hF
  have hb0 : Below w.heap.size w (w.alloc (aidO aidZ 33)) := by (repeat (first | (with_reducible assumption) | (with_reducible exact Below.refl _ _) | exact Nat.le_refl _ | exact Below.size (by with_reducible assumption) | (with_reducible refine Below.drew ?_) | (with_reducible refine below_drewN ?_ _) | (with_reducible refine Below.alloc ?_ ?_ _) | (with_reducible refine Below.setCell ?_ ?_ _) | (with_reducible refine le_alloc ?_ _) | (with_reducible refine le_set ?_ _ _) | (with_reducible refine le_drew ?_) | (with_reducible refine le_drewN ?_ _) | omega | (dsimp only; omega)))
  have FR0 := AidF.box w aidZ 33
  obtain ⟨w0, hw⟩ : ∃ w0, w.alloc (aidO aidZ 33) = w0 := ⟨_, rfl⟩
  rw [hw] at hb0 FR0
  clear hA hK hV hFd
  have HO := Lib.hid hO; clear hO
  have HF := Lib.hid hF; clear hF
  have Hl := Lib.hid hl; clear hl
  have HFl := Lib.hid hFl; clear hFl
  have Hat := Lib.hid hat; clear hat
  have HR0 := Lib.hid FR0; clear FR0
  have hbx := hb0.size
  cases V
  · go_enter Tryz.func10, Tryz.ntmps10
    go_wp2_with fail
    change Calls _ _ _ (w.alloc (aidO aidZ 33)) _
    rw [hw]
    clear hw
    refine (HO.out _ hb0).mono ?_
    rintro e w1 ⟨rfl, hb1⟩
    have T9 := (HR0.out.next hb1).there 0 16 (by omega)
    have F9 := (HR0.out.next hb1).set (aidZ)
    have B9 := belowW w.heap.size (Nat.le_refl _) (AidG.cells (aidZ)) 0 _ (hb0.trans (hb1.mono hb0.size))
    have N9 := aidZ_new (w1.setCells w.heap.size 0 (AidG.cells aidZ)) w.heap.size
    obtain ⟨w9, hw9⟩ : ∃ w9, (w1).setCells w.heap.size 0 (AidG.cells (aidZ)) = w9 := ⟨_, rfl⟩
    rw [hw9] at F9 B9 N9
    obtain ⟨r0, r1, r2, r3, r4, r5, r6, r7, r8, r9, r10, r11, r12, r13, r14, r15, _⟩ := F9.p
    simp only [Nat.zero_add] at r1 r2 r3 r4 r5 r6 r7 r8 r9 r10 r11 r12 r13 r14 r15
    have ONE9 : (List.toArray (AidG.cells (aidZ))).all (·.oneCell') = true := all_oneCell_toArray (aidg_one _)
    have HT9 := Lib.hid T9; clear T9
    have HW9 := Lib.hid hw9; clear hw9
    have HONE9 := Lib.hid ONE9; clear ONE9
    have HB9 := Lib.hid B9; clear B9
    have HN9 := Lib.hid N9; clear N9
    clear F9
    go_wp2_with (first | (refine wpList_store_mid rfl _ _ _ rfl w.heap.size 0 (List.toArray (AidG.cells (aidZ))) rfl rfl HT9.out (by kernel_rfl) HONE9.out ?_; rw [show (w1).setCells w.heap.size 0 (List.toArray (AidG.cells (aidZ))).toList = w9 from HW9.out]))
    refine bodyPost_ret (v := .tuple #[AidG.val (aidZ), .int .i64 1]) (by simp [results, Tryz.results10, go_sem, r0, r1, r2, r3, r4, r5, r6, r7, r8, r9, r10, r11, r12, r13, r14, r15]) rfl ⟨aidZ, rfl, ?_, HN9.out, HB9.out⟩
    rfl
  cases F with
  | none =>
    have HF2 := Lib.hid (HF.out rfl)
    go_enter Tryz.func10, Tryz.ntmps10
    go_wp2_with fail
    change Calls _ _ _ (w.alloc (aidO aidZ 33)) _
    rw [hw]
    clear hw
    refine (HO.out _ hb0).mono ?_
    rintro e w1 ⟨rfl, hb1⟩
    have hbw1 := hb0.trans (hb1.mono hb0.size)
    go_wp2_with fail
    refine (HF2.out _ hbw1).mono ?_
    rintro e w2 ⟨i, rfl, _, hb2⟩
    simp only [Option.isSome_none]
    have T9 := ((HR0.out.next hb1).next hb2).there 0 16 (by omega)
    have F9 := ((HR0.out.next hb1).next hb2).set (aidZ)
    have B9 := belowW w.heap.size (Nat.le_refl _) (AidG.cells (aidZ)) 0 _ (hbw1.trans (hb2.mono hbw1.size))
    have N9 := aidZ_new (w2.setCells w.heap.size 0 (AidG.cells aidZ)) w.heap.size
    obtain ⟨w9, hw9⟩ : ∃ w9, (w2).setCells w.heap.size 0 (AidG.cells (aidZ)) = w9 := ⟨_, rfl⟩
    rw [hw9] at F9 B9 N9
    obtain ⟨r0, r1, r2, r3, r4, r5, r6, r7, r8, r9, r10, r11, r12, r13, r14, r15, _⟩ := F9.p
    simp only [Nat.zero_add] at r1 r2 r3 r4 r5 r6 r7 r8 r9 r10 r11 r12 r13 r14 r15
    have ONE9 : (List.toArray (AidG.cells (aidZ))).all (·.oneCell') = true := all_oneCell_toArray (aidg_one _)
    have HT9 := Lib.hid T9; clear T9
    have HW9 := Lib.hid hw9; clear hw9
    have HONE9 := Lib.hid ONE9; clear ONE9
    have HB9 := Lib.hid B9; clear B9
    have HN9 := Lib.hid N9; clear N9
    clear F9
    go_wp2_with (first | (refine wpList_store_mid rfl _ _ _ rfl w.heap.size 0 (List.toArray (AidG.cells (aidZ))) rfl rfl HT9.out (by kernel_rfl) HONE9.out ?_; rw [show (w2).setCells w.heap.size 0 (List.toArray (AidG.cells (aidZ))).toList = w9 from HW9.out]))
    refine bodyPost_ret (v := .tuple #[AidG.val (aidZ), .int .i64 3]) (by simp [results, Tryz.results10, go_sem, r0, r1, r2, r3, r4, r5, r6, r7, r8, r9, r10, r11, r12, r13, r14, r15]) rfl ⟨aidZ, rfl, ?_, HN9.out, HB9.out⟩
    rfl
  | some k =>
    have hkn := HFl.out k rfl
    have HF2 := Lib.hid (HF.out rfl)
    have k0 : (0 : Int) ≤ (k : Int) := by omega
    have k1 : (k : Int) < (n : Int) := by omega
    go_enter Tryz.func10, Tryz.ntmps10
    go_wp2_with fail
    change Calls _ _ _ (w.alloc (aidO aidZ 33)) _
    rw [hw]
    clear hw
    refine (HO.out _ hb0).mono ?_
    rintro e w1 ⟨rfl, hb1⟩
    have hbw1 := hb0.trans (hb1.mono hb0.size)
    go_wp2_with fail
    refine (HF2.out _ hbw1).mono ?_
    rintro e w2 ⟨i, rfl, hik, hb2⟩
    obtain rfl := hik k rfl
    have hbw2 := hbw1.trans (hb2.mono hbw1.size)
    obtain ⟨b, off, z, rfl, hx, hzo, hp⟩ := (h.next hbw2).get i hkn
    have hza := Hat.out i z hx
    have hOw := copyAid_c z w2 hzo
    have Hza := Lib.hid hza; clear hza
    have Hx := Lib.hid hx; clear hx
    have HOw := Lib.hid hOw; clear hOw
    obtain ⟨c0, c1, c2, c3, c4, c5, c6, c7, c8, c9, c10, c11, c12, c13, c14, c15, _⟩ := hp
    simp only [Option.isSome_some]
    clear hzo
    go_wp2_with fail
    refine HOw.out.mono ?_
    rintro e w3 ⟨z3, rfl, ha3, hN3, hb3⟩
    have hw1s := hb1.size
    have hw2s := hb2.size
    clear c0 c1 c2 c3 c4 c5 c6 c7 c8 c9 c10 c11 c12 c13 c14 c15
    have T9 := (((HR0.out.next hb1).next hb2).next hb3).there 0 16 (by omega)
    have F9 := (((HR0.out.next hb1).next hb2).next hb3).set (z3)
    have B9 := belowW w.heap.size (Nat.le_refl _) (AidG.cells (z3)) 0 _ (hbw2.trans (hb3.mono hbw2.size))
    have N9 := (⟨own_base (ownW w.heap.size (by have := HR0.out.p.hb; omega) _ 0 _ hN3.g) hbw2.size, own_base (ownW w.heap.size (by have := HR0.out.p.hb; omega) _ 0 _ hN3.s) hbw2.size⟩ : AidNew (w3.setCells w.heap.size 0 (AidG.cells z3)) w.heap.size z3)
    obtain ⟨w9, hw9⟩ : ∃ w9, (w3).setCells w.heap.size 0 (AidG.cells (z3)) = w9 := ⟨_, rfl⟩
    rw [hw9] at F9 B9 N9
    obtain ⟨r0, r1, r2, r3, r4, r5, r6, r7, r8, r9, r10, r11, r12, r13, r14, r15, _⟩ := F9.p
    simp only [Nat.zero_add] at r1 r2 r3 r4 r5 r6 r7 r8 r9 r10 r11 r12 r13 r14 r15
    have ONE9 : (List.toArray (AidG.cells (z3))).all (·.oneCell') = true := all_oneCell_toArray (aidg_one _)
    have HT9 := Lib.hid T9; clear T9
    have HW9 := Lib.hid hw9; clear hw9
    have HONE9 := Lib.hid ONE9; clear ONE9
    have HB9 := Lib.hid B9; clear B9
    have HN9 := Lib.hid N9; clear N9
    clear F9
    go_wp2_with (first | (refine wpList_store_mid rfl _ _ _ rfl w.heap.size 0 (List.toArray (AidG.cells (z3))) rfl rfl HT9.out (by kernel_rfl) HONE9.out ?_; rw [show (w3).setCells w.heap.size 0 (List.toArray (AidG.cells (z3))).toList = w9 from HW9.out]))
    refine bodyPost_ret (v := .tuple #[AidG.val (z3), .int .i64 0]) (by simp [results, Tryz.results10, go_sem, r0, r1, r2, r3, r4, r5, r6, r7, r8, r9, r10, r11, r12, r13, r14, r15]) rfl ⟨z3, rfl, ?_, HN9.out, HB9.out⟩
    rw [ha3, ← Hza.out]
end Go.Proofs.YtnmkpegdbgebeaaGreatDoor
