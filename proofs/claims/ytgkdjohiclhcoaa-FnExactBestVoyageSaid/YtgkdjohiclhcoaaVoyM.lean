/- One work at another place of an order: the reference. -/
import Derived.Test.YtgkdjohiclhcoaaVoyK
namespace Go.Proofs.Ytgkdjohiclhcoaa
open Go.RowKit
theorem own_some {w : World} {base : Nat} {e : TypeId} {sz n : Nat} {v : Value} {xs : List Value} (h : w.ownsRow base e sz v n xs) (hne : v.ownBlock ≠ none) : ∃ g c, v = .slice (some ⟨g, 0, none⟩) n c := by
  rcases h.2 with ⟨rfl, _⟩ | ⟨g, cap, cur, rfl, _⟩
  · exact absurd rfl hne
  · exact ⟨g, cap, rfl⟩
set_option maxRecDepth 100000 in
set_option maxHeartbeats 400000 in
theorem l00Own_c (A : Option Addr) (n c : Nat) (xs : List Int) (w : World) (h : Sl w w.heap.size 1 A n (xs.flatMap intC)) (hm : n ≤ 1048576) :
    Calls Try.prog 51 #[.slice A n c] w fun e w' => ∃ g c', e = .returned (.slice (some ⟨g, 0, none⟩) n c') ∧ w'.ownsRow w.heap.size 2 1 (.slice (some ⟨g, 0, none⟩) n c') n (xs.flatMap intC) ∧ Below w.heap.size w w' := by
  obtain ⟨i0, hi, hz0, hz1, hz2⟩ := info_parts intInfo
  have e63 : 0 + n ≤ maxLen := by unfold maxLen; omega
  have e32 : (0 + n) * 8 ≤ 140737488355328 := by omega
  have hoM := World.ownsRow_made (base := w.heap.size) (e := 2) (size := 1) w #[] 0 (Nat.le_refl _) (by simp [maxLen]) rfl
  have hb0 : Below w.heap.size w (w.alloc (.cells #[] 2)) := (Below.refl _ _).alloc (Nat.le_refl _) _
  have h1 := h.next hb0
  have E63 := Lib.hid e63; clear e63
  have E32 := Lib.hid e32; clear e32
  have H1 := Lib.hid h1; clear h1
  go_enter Try.func51, Try.ntmps51
  go_wp2_with (at_builtin; refine wpl_append _ rfl (.tmp 3) (.tmp 4) _ rfl w.heap.size 2 i0 _ 1 8 Try.underlying29 hi hz0 hz1 hz2 rfl (by omega) _ 0 [] rfl hoM _ A n c _ rfl H1.out (flat_one _ intC_one _) E63.out E32.out hb0.size ?_; intro v2 w2 ho2 hg2 hat2)
  rw [Nat.zero_add, List.nil_append] at ho2
  obtain ⟨g, c', rfl⟩ := own_some ho2 (by rcases hat2 with h | h <;> rw [h] <;> simp [Value.ownBlock, Act.eval])
  go_ret
  exact ⟨g, c', rfl, ho2, hb0.grown hg2 hb0.size fun q hq => Nat.le_of_eq (Option.some.inj hq)⟩
/-- The end of a slice of integers, from place j on. -/
theorem Sl.suf {w : World} {B n : Nat} {b off : Nat} {xs : List Int} (h : Sl w B 1 (some ⟨b, off, none⟩) n (xs.flatMap intC)) (j : Nat) (hj : j ≤ n) : Sl w B 1 (some ⟨b, off + j, none⟩) (n - j) ((xs.drop j).flatMap intC) := by
  have hl : xs.length = n := by have := h.1; rw [len_ints] at this; omega
  refine ⟨by rw [len_ints, List.length_drop, hl, Nat.mul_one], fun hn => ?_⟩
  obtain ⟨b', off', e, hb, hc⟩ := h.2 (by omega)
  injection e with e
  injection e with e1 e2 _
  subst e1 e2
  refine ⟨b, off + j, rfl, hb, fun q u hu => ?_⟩
  rw [Nat.add_assoc]
  refine hc (j + q) u ?_
  rw [← drop_ints, List.getElem?_drop] at hu
  exact hu
theorem Sl.nil_ (w : World) (B : Nat) (A : Option Addr) : Sl w B 1 A 0 (([] : List Int).flatMap intC) := ⟨rfl, fun h => absurd h (by omega)⟩
set_option maxRecDepth 100000 in
set_option maxHeartbeats 4000000 in
theorem l27Moved_c (b off n c i k : Nat) (xs : List Int) (w : World) (h : Sl w w.heap.size 1 (some ⟨b, off, none⟩) n (xs.flatMap intC)) (hin : i < n) (hkn : k < n) (hnc : n ≤ c) (hm : n ≤ 1048576) :
    Calls Try.prog 72 #[.slice (some ⟨b, off, none⟩) n c, .int .i64 i, .int .i64 k] w fun e w' => ∃ g c', e = .returned (.slice (some ⟨g, 0, none⟩) n c') ∧ w'.ownsRow w.heap.size 2 1 (.slice (some ⟨g, 0, none⟩) n c') n ((movedV xs i k).flatMap intC) ∧ Below w.heap.size w w' := by
  obtain ⟨i0, hi, hz0, hz1, hz2⟩ := info_parts intInfo
  have hl : xs.length = n := by have := h.1; rw [len_ints] at this; omega
  have hpre := (h.pre intC 1 intC_len i (by omega)).next (Below.refl _ _).drew
  obtain ⟨b', off', x, e0, hb, hx, hc⟩ := h.int i hin
  injection e0 with e0
  injection e0 with e1 e2 _
  subst e1 e2
  have hmv : movedV xs i k = (restV xs i).take k ++ [x] ++ (restV xs i).drop k := by rw [movedV, hx]; rfl
  have hrl : (restV xs i).length = n - 1 := by have := restV_len (ks := xs) (i := i) (by omega); omega
  obtain ⟨f1, hf1⟩ : ∃ f1, i + 1 = f1 := ⟨_, rfl⟩
  have hre : xs.take i ++ xs.drop f1 = restV xs i := by rw [← hf1]; rfl
  have hsuf := h.suf f1 (by omega)
  have e1 : IntKind.i64.wrap ((i : Int) + 1) = (f1 : Int) := by rw [IntWalk.i64_in _ (by omega)]; omega
  have i1 : (0 : Int) ≤ (i : Int) := by omega
  have i2 : (i : Int) ≤ (c : Int) := by omega
  have i3 : (0 : Int) ≤ (f1 : Int) := by omega
  have i4 : (f1 : Int) ≤ (n : Int) := by omega
  have i5 : (i : Int) < (n : Int) := by omega
  have i6 : (f1 : Int) ≤ (c : Int) := by omega
  rw [hmv]
  have Hmv := Lib.hid hmv; clear hmv
  have Hre := Lib.hid hre; clear hre
  have Hpre := Lib.hid hpre; clear hpre
  have Hsuf := Lib.hid hsuf; clear hsuf
  have Hx := Lib.hid hx; clear hx
  have Hl := Lib.hid hl; clear hl
  have H := Lib.hid h; clear h
  have Hc := Lib.hid hc; clear hc
  obtain ⟨A1, hA1, hsA⟩ : ∃ A1 : Addr, (if c = f1 then (some ⟨b, off, none⟩ : Option Addr) else some ⟨b, off + f1, none⟩) = some A1 ∧ Hid (Sl w w.heap.size 1 (some A1) (n - f1) ((xs.drop f1).flatMap intC)) := by
    by_cases hcf : c = f1
    · refine ⟨⟨b, off, none⟩, if_pos hcf, Lib.hid ?_⟩
      rw [List.drop_eq_nil_of_le (by rw [Hl.out]; omega), show n - f1 = 0 by omega]
      exact Sl.nil_ _ _ _
    · exact ⟨_, if_neg hcf, Hsuf⟩
  have f63 : i + (n - f1) ≤ maxLen := by unfold maxLen; omega
  have f32 : (i + (n - f1)) * 8 ≤ 140737488355328 := by omega
  have hnm0 : i + (n - f1) + 1 = n := by omega
  have F63 := Lib.hid f63; clear f63
  have F32 := Lib.hid f32; clear f32
  have Hf1 := Lib.hid hf1; clear hf1
  go_enter Try.func72, Try.ntmps72
  go_wp2_with fail
  refine wp_region_any (by kernel_rfl) (show wpAny _ _ _ _ _ _ _ (World.drew _) from ?_)
  (first
    | (refine wpAny_take (i := 0) (v := ?_) rfl (by kernel_rfl) (by kernel_rfl) (by kernel_rfl) (fun _ _ _ h => h) (Or.inl ⟨by rfl, ?_⟩) ?_
       rotate_left
       focus (intro wq; go_simp; (try (with_reducible rfl)); done))
    | fail "take 0")
  try simp only [Act.put, List.setIfInBounds_toArray, List.set_cons_zero, List.set_cons_succ, List.getElem_toArray, List.getElem_cons_zero]
  (first
    | (refine wpAny_take (i := 1) (v := ?_) rfl (by kernel_rfl) (by kernel_rfl) (by kernel_rfl) (fun _ _ _ h => h) (Or.inl ⟨by rfl, ?_⟩) ?_
       rotate_left
       focus (intro wq; go_simp; (try (with_reducible rfl)); done))
    | fail "take 1")
  try simp only [Act.put, List.setIfInBounds_toArray, List.set_cons_zero, List.set_cons_succ, List.getElem_toArray, List.getElem_cons_zero, List.getElem_cons_succ]
  (first
    | (refine wpAny_take (i := 2) (v := ?_) rfl (by kernel_rfl) (by kernel_rfl) (by kernel_rfl) (fun _ _ _ h => h) (Or.inl ⟨by rfl, ?_⟩) ?_
       rotate_left
       focus (intro wq; go_simp; (try (with_reducible rfl)); done))
    | fail "take 2")
  try simp only [Act.put, List.setIfInBounds_toArray, List.set_cons_zero, List.set_cons_succ, List.getElem_toArray, List.getElem_cons_zero, List.getElem_cons_succ]
  (first
    | (refine wpAny_take (i := 4) (v := ?_) rfl (by kernel_rfl) (by kernel_rfl) (by kernel_rfl) (fun _ _ _ h => h) (Or.inl ⟨by rfl, ?_⟩) ?_
       rotate_left
       focus (intro wq; go_simp; (try (with_reducible rfl)); done))
    | fail "take 4")
  try simp only [Act.put, List.setIfInBounds_toArray, List.set_cons_zero, List.set_cons_succ, List.getElem_toArray, List.getElem_cons_zero, List.getElem_cons_succ]
  (first
    | (refine wpAny_take (i := 5) (v := ?_) rfl (by kernel_rfl) (by kernel_rfl) (by kernel_rfl) (fun _ _ _ h => h) (Or.inl ⟨by rfl, ?_⟩) ?_
       rotate_left
       focus (intro wq; go_simp; (try (with_reducible rfl)); done))
    | fail "take 5")
  try simp only [Act.put, List.setIfInBounds_toArray, List.set_cons_zero, List.set_cons_succ, List.getElem_toArray, List.getElem_cons_zero, List.getElem_cons_succ]
  (first
    | (refine wpAny_take (i := 6) (v := ?_) rfl (by kernel_rfl) (by kernel_rfl) (by kernel_rfl) (fun _ _ _ h => h) (Or.inl ⟨by rfl, ?_⟩) ?_
       rotate_left
       focus (intro wq; go_simp; (try (with_reducible rfl)); done))
    | fail "take 6")
  try simp only [Act.put, List.setIfInBounds_toArray, List.set_cons_zero, List.set_cons_succ, List.getElem_toArray, List.getElem_cons_zero, List.getElem_cons_succ]
  (first
    | (refine wpAny_take (i := 7) (v := ?_) rfl (by kernel_rfl) (by kernel_rfl) (by kernel_rfl) (fun _ _ _ h => h) (Or.inl ⟨by rfl, ?_⟩) ?_
       rotate_left
       focus (intro wq; go_simp; (try (with_reducible rfl)); done))
    | fail "take 7")
  try simp only [Act.put, List.setIfInBounds_toArray, List.set_cons_zero, List.set_cons_succ, List.getElem_toArray, List.getElem_cons_zero, List.getElem_cons_succ]
  refine wpAny_ready (rs := [3]) (by kernel_rfl) (by simp) ?_
  refine allReadyS_cons (o := _) rfl (fun K hK => ?_) AllReady.nil
  go_simp
  refine (l00Own_c (some ⟨b, off, none⟩) i c (xs.take i) _ Hpre.out (by omega)).mono ?_; rintro e w2 ⟨g2, c2, rfl, ho2, hb2⟩
  refine hK.out _ _ ?_
  clear hK K
  try simp only [Act.put, List.setIfInBounds_toArray, List.set_cons_zero, List.set_cons_succ, List.getElem_toArray, List.getElem_cons_zero, List.getElem_cons_succ]
  have hb2w : Below w.heap.size w w2 := (Below.refl _ _).drew.trans hb2
  refine wpAny_ready (rs := [8]) (by kernel_rfl) (by simp) ?_
  refine allReadyS_cons (o := _) rfl (fun K hK => ?_) AllReady.nil
  refine step_append _ rfl (.tmp 12) (.tmp 16) _ rfl w.heap.size 2 i0 _ 1 8 Try.underlying29 hi hz0 hz1 hz2 rfl (by omega) _ i _ rfl ho2 w.heap.size (some A1) (n - f1) (c - f1) ((xs.drop f1).flatMap intC) rfl (hsA.out.below hb2w) (flat_one _ intC_one _) F63.out F32.out hb2w.size ?_
  intro v3 w3 ho3 hg3 hat3
  refine hK.out _ _ ?_
  clear hK K
  try simp only [Act.put, List.setIfInBounds_toArray, List.set_cons_zero, List.set_cons_succ, List.getElem_toArray, List.getElem_cons_zero, List.getElem_cons_succ]
  refine wpAny_ready (rs := [9]) (by kernel_rfl) (by simp) ?_
  refine allReadyS_cons (o := _) rfl (fun K hK => ?_) AllReady.nil
  go_simp
  skip
  refine hK.out _ _ ?_
  clear hK K
  try simp only [Act.put, List.setIfInBounds_toArray, List.set_cons_zero, List.set_cons_succ, List.getElem_toArray, List.getElem_cons_zero, List.getElem_cons_succ]
  refine wpAny_done (by kernel_rfl) ?_ _
  have hb3 : Below w.heap.size w w3 := hb2w.grown hg3 hb2w.size fun q hq => (ho2.lt q hq).1
  obtain ⟨g3, c3, rfl⟩ := own_some ho3 (by rcases hat3 with h | h <;> exact fun e => by have h2 : (some _ : Option Nat) = none := h.symm.trans e; cases h2)
  rw [← List.flatMap_append] at ho3
  clear hat3 hg3 ho2 hb2 hb2w
  obtain ⟨m, hm1⟩ : ∃ m, i + (n - f1) = m := ⟨_, rfl⟩
  rw [hm1] at ho3 hnm0 ⊢
  clear hm1
  have m1 : m + 1 = n := by omega
  have m2 : k ≤ m := by omega
  obtain ⟨hg30, hg31, hmc⟩ := own_row ho3
  rw [Hre.out] at ho3
  have hpre2 := ((Sl.of_own ho3).pre intC 1 intC_len k m2).next (Below.refl _ _).drew
  have hbl := Nat.lt_of_lt_of_le hb hb3.size
  have xc := (keepC hb3 b hb _).trans Hc.out
  have j1 : (0 : Int) ≤ (k : Int) := by omega
  have j2 : (k : Int) ≤ (c3 : Int) := by omega
  have j3 : (k : Int) ≤ (m : Int) := by omega
  have g63 : k + 1 ≤ maxLen := by unfold maxLen; omega
  have g32 : (k + 1) * 8 ≤ 140737488355328 := by omega
  have h63 : k + 1 + (m - k) ≤ maxLen := by unfold maxLen; omega
  have h32 : (k + 1 + (m - k)) * 8 ≤ 140737488355328 := by omega
  have hne : k + 1 + (m - k) = n := by omega
  have G63 := Lib.hid g63; clear g63
  have G32 := Lib.hid g32; clear g32
  have H63 := Lib.hid h63; clear h63
  have H32 := Lib.hid h32; clear h32
  have Hpre2 := Lib.hid hpre2; clear hpre2
  have M1 := Lib.hid m1; clear m1
  have Hne := Lib.hid hne; clear hne
  go_wp2_with fail
  have e9 : ∀ {w' : World}, Below w3.heap.size w3 w' → (Below w3.heap.size w3 w' ∧ (∀ q, w'.cell? ⟨b, q, none⟩ = w3.cell? ⟨b, q, none⟩)) := fun hbb => ⟨hbb, keepC hbb _ hbl⟩
  refine wp_region_held_drew (S := fun w' => Below w3.heap.size w3 w' ∧ (∀ q, w'.cell? ⟨b, q, none⟩ = w3.cell? ⟨b, q, none⟩)) (by kernel_rfl) (e9 (Below.refl _ _).drew) (fun hHeld => ?_)
  (first
    | (refine wpAnyH_take (i := 0) (v := ?_) rfl (by kernel_rfl) (by kernel_rfl) (by kernel_rfl) (fun _ _ _ h => h) (Or.inl ⟨by rfl, ?_⟩) (by assumption) ?_
       rotate_left
       focus (intro wq hSq; (try dsimp only at hSq); go_simp; (try (with_reducible rfl)); done))
    | (refine wpAnyH_take (i := 0) (v := undef) rfl (by kernel_rfl) (by kernel_rfl) (by kernel_rfl) (fun _ _ _ h => h) (Or.inr ⟨by rfl, rfl⟩) (by assumption) ?_)
    | fail "take 0")
  try simp only [Act.put, List.setIfInBounds_toArray, List.set_cons_zero, List.set_cons_succ, List.getElem_toArray, List.getElem_cons_zero]
  (first
    | (refine wpAnyH_take (i := 1) (v := ?_) rfl (by kernel_rfl) (by kernel_rfl) (by kernel_rfl) (fun _ _ _ h => h) (Or.inl ⟨by rfl, ?_⟩) (by assumption) ?_
       rotate_left
       focus (intro wq hSq; (try dsimp only at hSq); go_simp; (try (with_reducible rfl)); done))
    | (refine wpAnyH_take (i := 1) (v := undef) rfl (by kernel_rfl) (by kernel_rfl) (by kernel_rfl) (fun _ _ _ h => h) (Or.inr ⟨by rfl, rfl⟩) (by assumption) ?_)
    | fail "take 1")
  try simp only [Act.put, List.setIfInBounds_toArray, List.set_cons_zero, List.set_cons_succ, List.getElem_toArray, List.getElem_cons_zero, List.getElem_cons_succ]
  (first
    | (refine wpAnyH_take (i := 2) (v := ?_) rfl (by kernel_rfl) (by kernel_rfl) (by kernel_rfl) (fun _ _ _ h => h) (Or.inl ⟨by rfl, ?_⟩) (by assumption) ?_
       rotate_left
       focus (intro wq hSq; (try dsimp only at hSq); go_simp; (try (with_reducible rfl)); done))
    | (refine wpAnyH_take (i := 2) (v := undef) rfl (by kernel_rfl) (by kernel_rfl) (by kernel_rfl) (fun _ _ _ h => h) (Or.inr ⟨by rfl, rfl⟩) (by assumption) ?_)
    | fail "take 2")
  try simp only [Act.put, List.setIfInBounds_toArray, List.set_cons_zero, List.set_cons_succ, List.getElem_toArray, List.getElem_cons_zero, List.getElem_cons_succ]
  (first
    | (refine wpAnyH_take (i := 4) (v := ?_) rfl (by kernel_rfl) (by kernel_rfl) (by kernel_rfl) (fun _ _ _ h => h) (Or.inl ⟨by rfl, ?_⟩) (by assumption) ?_
       rotate_left
       focus (intro wq hSq; (try dsimp only at hSq); go_simp; (try (with_reducible rfl)); done))
    | (refine wpAnyH_take (i := 4) (v := undef) rfl (by kernel_rfl) (by kernel_rfl) (by kernel_rfl) (fun _ _ _ h => h) (Or.inr ⟨by rfl, rfl⟩) (by assumption) ?_)
    | fail "take 4")
  try simp only [Act.put, List.setIfInBounds_toArray, List.set_cons_zero, List.set_cons_succ, List.getElem_toArray, List.getElem_cons_zero, List.getElem_cons_succ]
  (first
    | (refine wpAnyH_take (i := 5) (v := ?_) rfl (by kernel_rfl) (by kernel_rfl) (by kernel_rfl) (fun _ _ _ h => h) (Or.inl ⟨by rfl, ?_⟩) (by assumption) ?_
       rotate_left
       focus (intro wq hSq; (try dsimp only at hSq); go_simp; (try (with_reducible rfl)); done))
    | (refine wpAnyH_take (i := 5) (v := undef) rfl (by kernel_rfl) (by kernel_rfl) (by kernel_rfl) (fun _ _ _ h => h) (Or.inr ⟨by rfl, rfl⟩) (by assumption) ?_)
    | fail "take 5")
  try simp only [Act.put, List.setIfInBounds_toArray, List.set_cons_zero, List.set_cons_succ, List.getElem_toArray, List.getElem_cons_zero, List.getElem_cons_succ]
  (first
    | (refine wpAnyH_take (i := 6) (v := ?_) rfl (by kernel_rfl) (by kernel_rfl) (by kernel_rfl) (fun _ _ _ h => h) (Or.inl ⟨by rfl, ?_⟩) (by assumption) ?_
       rotate_left
       focus (intro wq hSq; (try dsimp only at hSq); go_simp; (try (with_reducible rfl)); done))
    | (refine wpAnyH_take (i := 6) (v := undef) rfl (by kernel_rfl) (by kernel_rfl) (by kernel_rfl) (fun _ _ _ h => h) (Or.inr ⟨by rfl, rfl⟩) (by assumption) ?_)
    | fail "take 6")
  try simp only [Act.put, List.setIfInBounds_toArray, List.set_cons_zero, List.set_cons_succ, List.getElem_toArray, List.getElem_cons_zero, List.getElem_cons_succ]
  (first
    | (refine wpAnyH_take (i := 7) (v := ?_) rfl (by kernel_rfl) (by kernel_rfl) (by kernel_rfl) (fun _ _ _ h => h) (Or.inl ⟨by rfl, ?_⟩) (by assumption) ?_
       rotate_left
       focus (intro wq hSq; (try dsimp only at hSq); go_simp; (try (with_reducible rfl)); done))
    | (refine wpAnyH_take (i := 7) (v := undef) rfl (by kernel_rfl) (by kernel_rfl) (by kernel_rfl) (fun _ _ _ h => h) (Or.inr ⟨by rfl, rfl⟩) (by assumption) ?_)
    | fail "take 7")
  try simp only [Act.put, List.setIfInBounds_toArray, List.set_cons_zero, List.set_cons_succ, List.getElem_toArray, List.getElem_cons_zero, List.getElem_cons_succ]
  refine wpAnyH_ready (rs := [3, 8]) (by kernel_rfl) (by simp) ?_
  refine AllReadyH.cons (o := _) rfl (fun K hK => ?_) (AllReadyH.cons (o := _) rfl (fun K hK => ?_) AllReadyH.nil)
  · go_simp
    refine (l00Own_c (some ⟨g3, 0, none⟩) k c3 ((restV xs i).take k) _ Hpre2.out (by omega)).mono ?_; rintro e w4 ⟨g4, c4, rfl, ho4, hb4⟩; have hb4w : Below w3.heap.size w3 w4 := (Below.refl _ _).drew.trans hb4
    refine hK.out _ _ ?_ (fun hHeld => ?_)
    · exact e9 hb4w
    clear hK K
    try simp only [Act.put, List.setIfInBounds_toArray, List.set_cons_zero, List.set_cons_succ, List.getElem_toArray, List.getElem_cons_zero, List.getElem_cons_succ]
    have hbX : Below w4.heap.size w4 (w4.alloc (.cells #[.int .i64 x] 2)) := (Below.refl _ _).alloc (Nat.le_refl _) _
    refine wpAnyH_ready (rs := [8]) (by kernel_rfl) (by simp) ?_
    refine AllReadyH.cons (o := _) rfl (fun K hK => ?_) AllReadyH.nil
    go_simp
    skip
    refine hK.out _ _ ?_ (fun hHeld => ?_)
    · exact e9 (hb4w.trans (hbX.mono hb4w.size))
    clear hK K
    try simp only [Act.put, List.setIfInBounds_toArray, List.set_cons_zero, List.set_cons_succ, List.getElem_toArray, List.getElem_cons_zero, List.getElem_cons_succ]
    have ho5 := own_base (own_next ho4 hbX) (show w3.heap.size ≤ w3.drew.heap.size from Nat.le_refl _)
    have hb5 : Below w3.heap.size w3 (w4.alloc (.cells #[.int .i64 x] 2)) := hb4w.trans (hbX.mono hb4w.size)
    have hs5 := Sl.new w4 2 (intC x) 1 1 rfl
    refine wpAnyH_ready (rs := [9]) (by kernel_rfl) (by simp) ?_
    refine AllReadyH.cons (o := _) rfl (fun K hK => ?_) AllReadyH.nil
    refine step_append _ rfl (.tmp 21) (.tmp 26) _ rfl w3.heap.size 2 i0 _ 1 8 Try.underlying29 hi hz0 hz1 hz2 rfl (by omega) _ k _ rfl ho5 _ (some ⟨w4.heap.size, 0, none⟩) 1 1 (intC x) rfl hs5 (intC_one _) G63.out G32.out hb5.size ?_
    intro v6 w6 ho6 hg6 hat6
    have hb6 : Below w3.heap.size w3 w6 := hb5.grown hg6 hb5.size fun q hq => (ho5.lt q hq).1
    refine hK.out _ _ ?_ (fun hHeld => ?_)
    · exact e9 hb6
    clear hK K
    try simp only [Act.put, List.setIfInBounds_toArray, List.set_cons_zero, List.set_cons_succ, List.getElem_toArray, List.getElem_cons_zero, List.getElem_cons_succ]
    (first
      | (refine wpAnyH_take (i := 10) (v := ?_) rfl (by kernel_rfl) (by kernel_rfl) (by kernel_rfl) (fun _ _ _ h => h) (Or.inl ⟨by rfl, ?_⟩) (by assumption) ?_
         rotate_left
         focus (intro wq hSq; (try dsimp only at hSq); go_simp; (try (with_reducible rfl)); done))
      | (refine wpAnyH_take (i := 10) (v := undef) rfl (by kernel_rfl) (by kernel_rfl) (by kernel_rfl) (fun _ _ _ h => h) (Or.inr ⟨by rfl, rfl⟩) (by assumption) ?_)
      | fail "take 10")
    try simp only [Act.put, List.setIfInBounds_toArray, List.set_cons_zero, List.set_cons_succ, List.getElem_toArray, List.getElem_cons_zero, List.getElem_cons_succ]
    refine wpAnyH_done (by kernel_rfl) ?_ _
    obtain ⟨g6, c6, rfl⟩ := own_some ho6 (by rcases hat6 with h | h <;> exact fun e => by have h2 : (some _ : Option Nat) = none := h.symm.trans e; cases h2)
    have hs6 := ((Sl.of_own ho3).suf k m2).next hb6
    rw [Nat.zero_add] at hs6
    have hb6w := hb3.trans (hb6.mono hb3.size)
    clear hHeld hat6 hg6 ho5 hs5 hb5 e9 hbX hb4 hb4w ho4
    have Hs6 := Lib.hid hs6; clear hs6
    obtain ⟨A2, hA2, hsB⟩ : ∃ A2 : Addr, (if c3 = k then (some ⟨g3, 0, none⟩ : Option Addr) else some ⟨g3, k, none⟩) = some A2 ∧ Hid (Sl w6 w6.heap.size 1 (some A2) (m - k) (((restV xs i).drop k).flatMap intC)) := by
      by_cases hck : c3 = k
      · refine ⟨⟨g3, 0, none⟩, if_pos hck, Lib.hid ?_⟩
        rw [List.drop_eq_nil_of_le (by rw [hrl]; have := M1.out; omega), show m - k = 0 by omega]
        exact Sl.nil_ _ _ _
      · exact ⟨_, if_neg hck, Hs6⟩
    go_wp2_with (at_builtin; refine wpl_append _ rfl (.tmp 28) (.tmp 31) _ rfl w3.heap.size 2 i0 _ 1 8 Try.underlying29 hi hz0 hz1 hz2 rfl (by omega) _ (k + 1) _ rfl ho6 _ (some A2) (m - k) (c3 - k) (((restV xs i).drop k).flatMap intC) rfl hsB.out (flat_one _ intC_one _) H63.out H32.out hb6.size ?_; intro v7 w7 ho7 hg7 hat7)
    obtain ⟨g7, c7, rfl⟩ := own_some ho7 (by rcases hat7 with h | h <;> exact fun e => by have h2 : (some _ : Option Nat) = none := h.symm.trans e; cases h2)
    rw [Hne.out] at ho7 ⊢
    go_wp2_with fail
    go_ret
    refine ⟨g7, c7, rfl, ?_, hb3.trans ((hb6.grown hg7 hb6.size fun q hq => (ho6.lt q hq).1).mono hb3.size)⟩
    rw [List.flatMap_append, List.flatMap_append]
    simpa using own_base ho7 hb3.size
  · have hbX : Below w3.heap.size w3 (w3.alloc (.cells #[.int .i64 x] 2)) := (Below.refl _ _).alloc (Nat.le_refl _) _
    go_simp
    skip
    refine hK.out _ _ ?_ (fun hHeld => ?_)
    · exact e9 hbX.drew
    clear hK K
    try simp only [Act.put, List.setIfInBounds_toArray, List.set_cons_zero, List.set_cons_succ, List.getElem_toArray, List.getElem_cons_zero, List.getElem_cons_succ]
    have hpre3 : Sl (w3.alloc (.cells #[.int .i64 x] 2)).drew (w3.alloc (.cells #[.int .i64 x] 2)).drew.heap.size 1 (some ⟨g3, 0, none⟩) k (((restV xs i).take k).flatMap intC) := (((Sl.of_own ho3).pre intC 1 intC_len k m2).next hbX).next (Below.refl _ _).drew
    have Hpre3 := Lib.hid hpre3; clear hpre3
    refine wpAnyH_ready (rs := [3]) (by kernel_rfl) (by simp) ?_
    refine AllReadyH.cons (o := _) rfl (fun K hK => ?_) AllReadyH.nil
    go_simp
    refine (l00Own_c (some ⟨g3, 0, none⟩) k c3 ((restV xs i).take k) _ Hpre3.out (by omega)).mono ?_; rintro e w4 ⟨g4, c4, rfl, ho4, hb4⟩; have hb4w : Below w3.heap.size w3 w4 := hbX.trans (((Below.refl _ _).drew.trans hb4).mono hbX.size)
    refine hK.out _ _ ?_ (fun hHeld => ?_)
    · exact e9 hb4w
    clear hK K
    try simp only [Act.put, List.setIfInBounds_toArray, List.set_cons_zero, List.set_cons_succ, List.getElem_toArray, List.getElem_cons_zero, List.getElem_cons_succ]
    have ho5 := own_base (base' := w3.heap.size) ho4 (by simp)
    have hb5 := hb4w
    have hs5 := ((Sl.new w3 2 (intC x) 1 1 rfl).more (show w3.heap.size + 1 ≤ (w3.alloc (.cells #[.int .i64 x] 2)).heap.size by simp)).next ((Below.refl _ _).drew.trans hb4)
    refine wpAnyH_ready (rs := [9]) (by kernel_rfl) (by simp) ?_
    refine AllReadyH.cons (o := _) rfl (fun K hK => ?_) AllReadyH.nil
    refine step_append _ rfl (.tmp 21) (.tmp 26) _ rfl w3.heap.size 2 i0 _ 1 8 Try.underlying29 hi hz0 hz1 hz2 rfl (by omega) _ k _ rfl ho5 _ (some ⟨w3.heap.size, 0, none⟩) 1 1 (intC x) rfl hs5 (intC_one _) G63.out G32.out hb5.size ?_
    intro v6 w6 ho6 hg6 hat6
    have hb6 : Below w3.heap.size w3 w6 := hb5.grown hg6 hb5.size fun q hq => (ho5.lt q hq).1
    refine hK.out _ _ ?_ (fun hHeld => ?_)
    · exact e9 hb6
    clear hK K
    try simp only [Act.put, List.setIfInBounds_toArray, List.set_cons_zero, List.set_cons_succ, List.getElem_toArray, List.getElem_cons_zero, List.getElem_cons_succ]
    (first
      | (refine wpAnyH_take (i := 10) (v := ?_) rfl (by kernel_rfl) (by kernel_rfl) (by kernel_rfl) (fun _ _ _ h => h) (Or.inl ⟨by rfl, ?_⟩) (by assumption) ?_
         rotate_left
         focus (intro wq hSq; (try dsimp only at hSq); go_simp; (try (with_reducible rfl)); done))
      | (refine wpAnyH_take (i := 10) (v := undef) rfl (by kernel_rfl) (by kernel_rfl) (by kernel_rfl) (fun _ _ _ h => h) (Or.inr ⟨by rfl, rfl⟩) (by assumption) ?_)
      | fail "take 10")
    try simp only [Act.put, List.setIfInBounds_toArray, List.set_cons_zero, List.set_cons_succ, List.getElem_toArray, List.getElem_cons_zero, List.getElem_cons_succ]
    refine wpAnyH_done (by kernel_rfl) ?_ _
    obtain ⟨g6, c6, rfl⟩ := own_some ho6 (by rcases hat6 with h | h <;> exact fun e => by have h2 : (some _ : Option Nat) = none := h.symm.trans e; cases h2)
    have hs6 := ((Sl.of_own ho3).suf k m2).next hb6
    rw [Nat.zero_add] at hs6
    have hb6w := hb3.trans (hb6.mono hb3.size)
    clear hHeld hat6 hg6 ho5 hs5 hb5 e9 hbX hb4 hb4w ho4
    have Hs6 := Lib.hid hs6; clear hs6
    obtain ⟨A2, hA2, hsB⟩ : ∃ A2 : Addr, (if c3 = k then (some ⟨g3, 0, none⟩ : Option Addr) else some ⟨g3, k, none⟩) = some A2 ∧ Hid (Sl w6 w6.heap.size 1 (some A2) (m - k) (((restV xs i).drop k).flatMap intC)) := by
      by_cases hck : c3 = k
      · refine ⟨⟨g3, 0, none⟩, if_pos hck, Lib.hid ?_⟩
        rw [List.drop_eq_nil_of_le (by rw [hrl]; have := M1.out; omega), show m - k = 0 by omega]
        exact Sl.nil_ _ _ _
      · exact ⟨_, if_neg hck, Hs6⟩
    go_wp2_with (at_builtin; refine wpl_append _ rfl (.tmp 28) (.tmp 31) _ rfl w3.heap.size 2 i0 _ 1 8 Try.underlying29 hi hz0 hz1 hz2 rfl (by omega) _ (k + 1) _ rfl ho6 _ (some A2) (m - k) (c3 - k) (((restV xs i).drop k).flatMap intC) rfl hsB.out (flat_one _ intC_one _) H63.out H32.out hb6.size ?_; intro v7 w7 ho7 hg7 hat7)
    obtain ⟨g7, c7, rfl⟩ := own_some ho7 (by rcases hat7 with h | h <;> exact fun e => by have h2 : (some _ : Option Nat) = none := h.symm.trans e; cases h2)
    rw [Hne.out] at ho7 ⊢
    go_wp2_with fail
    go_ret
    refine ⟨g7, c7, rfl, ?_, hb3.trans ((hb6.grown hg7 hb6.size fun q hq => (ho6.lt q hq).1).mono hb3.size)⟩
    rw [List.flatMap_append, List.flatMap_append]
    simpa using own_base ho7 hb3.size
end Go.Proofs.Ytgkdjohiclhcoaa
