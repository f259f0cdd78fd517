/- Copies of orders: clone, own; one element taken out, one put in: the program. -/
import Derived.Test.YtgkdjohiclhcoaaVoyO
import Derived.Test.YtgkdjohiclhcoaaSrc
import Derived.Laws.CopyOwn
import Derived.Lib.AppendZerosOnto
import Derived.Deep.RegionLaw
namespace Go.Proofs.Ytgkdjohiclhcoaa
open Go.RowKit
theorem intZ (w : World) : (zeroValue 2).run Try.prog w = .ok (.int .i64 0) w := by kernel_rfl
theorem intSize : (Try.prog.info? 2).map (·.size) = some 1 := by kernel_rfl
theorem wpl_append_fits {P : Program} {ops : Array Oper} {rest : List Oper} {o : Oper} {a : Act} {w : World} {Q : Exit → Act → World → Prop} (hgd : o.guard = none) (s x : Operand) (t : TypeId)
    (ho : o.op = .call { callee := .builtin .append, args := #[s, x], argTypes := #[t, t] })
    (base : Nat) (e : TypeId) (i : TypeInfo) (size : Nat) (ht : P.underlying t = some (.slice e)) (hi : P.info? e = some i) (hsize : i.size = size)
    (g n cap : Nat) (xs : List Value) (hs : a.eval s = .slice (some ⟨g, 0, none⟩) n cap) (hown : w.ownsRow base e size (.slice (some ⟨g, 0, none⟩) n cap) n xs)
    (ad : Addr) (m c : Nat) (news : List Value) (hx : a.eval x = .slice (some ad) m c) (hl : news.length = m * size) (hnews : ∀ j u, news[j]? = some u → w.cell? (ad.add j) = some u) (h1 : ∀ u ∈ news, u.oneCell' = true) (hroom : n + m ≤ cap)
    (h : ∀ w', w'.ownsRow base e size (.slice (some ⟨g, 0, none⟩) (n + m) cap) (n + m) (xs ++ news) → w.grownBy w' (some g) → wpList P ops Q rest (a.put o.dst (.slice (some ⟨g, 0, none⟩) (n + m) cap)) w') : wpList P ops Q (o :: rest) a w := by
  obtain ⟨w', hrun, h2, h3⟩ := run_append_fits (P := P) w base t o.type e i size ht hi hsize g n cap xs hown ad m c news hl hnews h1 hroom
  refine wpList_plain hgd fun _ hK => ?_
  unfold Oper.wp execOp
  simp only [ho, resolve, invoke, builtin, Sem.run_bind, Sem.run_pure, Result.andThen_ok, List.map_toArray, List.map_cons, List.map_nil, hs, hx, hrun]
  exact hK _ _ (h w' h2 h3)
theorem step_append_fits {P : Program} {ops : Array Oper} {o : Oper} {a : Act} {w : World} {K : Act → World → Prop} {Q : Exit → Act → World → Prop} {E : Prop} (hgd : o.guard = none) (s x : Operand) (t : TypeId)
    (ho : o.op = .call { callee := .builtin .append, args := #[s, x], argTypes := #[t, t] })
    (base : Nat) (e : TypeId) (i : TypeInfo) (size : Nat) (ht : P.underlying t = some (.slice e)) (hi : P.info? e = some i) (hsize : i.size = size)
    (g n cap : Nat) (xs : List Value) (hs : a.eval s = .slice (some ⟨g, 0, none⟩) n cap) (hown : w.ownsRow base e size (.slice (some ⟨g, 0, none⟩) n cap) n xs)
    (ad : Addr) (m c : Nat) (news : List Value) (hx : a.eval x = .slice (some ad) m c) (hl : news.length = m * size) (hnews : ∀ j u, news[j]? = some u → w.cell? (ad.add j) = some u) (h1 : ∀ u ∈ news, u.oneCell' = true) (hroom : n + m ≤ cap)
    (h : ∀ w', w'.ownsRow base e size (.slice (some ⟨g, 0, none⟩) (n + m) cap) (n + m) (xs ++ news) → w.grownBy w' (some g) → K (a.put o.dst (.slice (some ⟨g, 0, none⟩) (n + m) cap)) w') :
    if Region.wanted o (yielded ops a.tmps) = true then Oper.wp P o a w K Q else E := by
  have hw : Region.wanted o (yielded ops a.tmps) = true := by simp [Region.wanted, hgd]
  obtain ⟨w', hrun, h2, h3⟩ := run_append_fits (P := P) w base t o.type e i size ht hi hsize g n cap xs hown ad m c news hl hnews h1 hroom
  rw [if_pos hw]
  unfold Oper.wp execOp
  simp only [ho, resolve, invoke, builtin, Sem.run_bind, Sem.run_pure, Result.andThen_ok, List.map_toArray, List.map_cons, List.map_nil, hs, hx, hrun]
  exact h w' h2 h3
/-- A row cut short; a row read on up to its capacity. -/
theorem own_pre {w : World} {base : Nat} {e : TypeId} {sz n c g : Nat} {xs : List Value} (h : w.ownsRow base e sz (.slice (some ⟨g, 0, none⟩) n c) n xs) (k : Nat) (hk : k ≤ n) : w.ownsRow base e sz (.slice (some ⟨g, 0, none⟩) k c) k (xs.take (k * sz)) := by
  have e1 : k * sz ≤ n * sz := Nat.mul_le_mul_right _ hk
  rcases h.2 with ⟨h', _⟩ | ⟨g', cap, cur, hv, hb, hg, h1, h2, h3, h4⟩
  · cases h'
  · injection hv with a1 _ a3
    injection a1 with a1
    injection a1 with a1
    subst a1 a3
    exact ⟨by rw [List.length_take, h.1]; exact Nat.min_eq_left e1, .inr ⟨g, c, cur, rfl, hb, hg, by omega, h2, h3, by rw [← h4, List.take_take, Nat.min_eq_left e1]⟩⟩
theorem own_more {w : World} {base : Nat} {e : TypeId} {sz n c g : Nat} {xs : List Value} (h : w.ownsRow base e sz (.slice (some ⟨g, 0, none⟩) n c) n xs) (k : Nat) (hk : n ≤ k) (hc : k ≤ c) : ∃ ys, w.ownsRow base e sz (.slice (some ⟨g, 0, none⟩) k c) k ys ∧ ys.take (n * sz) = xs := by
  have e1 : n * sz ≤ k * sz := Nat.mul_le_mul_right _ hk
  have e2 : k * sz ≤ c * sz := Nat.mul_le_mul_right _ hc
  rcases h.2 with ⟨h', _⟩ | ⟨g', cap, cur, hv, hb, hg, h1, h2, h3, h4⟩
  · cases h'
  · injection hv with a1 _ a3
    injection a1 with a1
    injection a1 with a1
    subst a1 a3
    refine ⟨cur.toList.take (k * sz), ⟨by rw [List.length_take, Array.length_toList, h3]; exact Nat.min_eq_left e2, .inr ⟨g, c, cur, rfl, hb, hg, hc, h2, h3, rfl⟩⟩, ?_⟩
    rw [List.take_take, Nat.min_eq_left e1, h4]
theorem own_row {w : World} {base : Nat} {e : TypeId} {sz n c g : Nat} {xs : List Value} (h : w.ownsRow base e sz (.slice (some ⟨g, 0, none⟩) n c) n xs) : base ≤ g ∧ g < w.heap.size ∧ n ≤ c := by
  rcases h.2 with ⟨h', _⟩ | ⟨g', cap, cur, hv, hb, hg, h1, _⟩
  · cases h'
  · injection hv with a1 _ a3
    injection a1 with a1
    injection a1 with a1
    subst a1 a3
    exact ⟨hb, (Array.getElem?_eq_some_iff.1 hg).1, h1⟩
theorem take_ints (xs : List Int) (k : Nat) : (xs.flatMap intC).take (k * 1) = (xs.take k).flatMap intC := flat_take intC 1 intC_len k xs
theorem drop_ints (xs : List Int) (k : Nat) : (xs.flatMap intC).drop k = (xs.drop k).flatMap intC := by
  induction xs generalizing k with
  | nil => simp
  | cons y ys ih =>
    cases k with
    | zero => rfl
    | succ k => rw [List.flatMap_cons, List.drop_succ_cons, ← ih]; rfl
theorem len_ints (xs : List Int) : (xs.flatMap intC).length = xs.length := by rw [flat_len intC 1 intC_len, Nat.mul_one]
set_option maxRecDepth 100000 in
set_option maxHeartbeats 400000 in
theorem cloneI_c (A : Option Addr) (n c : Nat) (xs : List Int) (w : World) (h : Sl w w.heap.size 1 A n (xs.flatMap intC)) (hm : n ≤ 1048576) (hA : A = none → c = 0) :
    Calls Try.prog 46 #[.slice A n c] w fun e w' => e = .returned (.slice (some ⟨w.heap.size, 0, none⟩) n n) ∧ w'.ownsRow w.heap.size 2 1 (.slice (some ⟨w.heap.size, 0, none⟩) n n) n (xs.flatMap intC) ∧ Below w.heap.size w w' := by
  obtain ⟨i0, hi, hz0, hz1, hz2⟩ := info_parts intInfo
  have hB : i0.bytes * n ≤ 281474976710656 := by rw [hz2]; omega
  have hM : n ≤ maxLen := by unfold maxLen; omega
  have HB := Lib.hid hB; clear hB
  have HM := Lib.hid hM; clear hM
  cases A with
  | none =>
    obtain rfl := hA rfl
    have hn : n = 0 := by
      rcases Nat.eq_zero_or_pos n with h0 | h0
      · exact h0
      · obtain ⟨b, off, e, _⟩ := h.2 h0; cases e
    subst hn
    have hx : xs.flatMap intC = [] := List.eq_nil_of_length_eq_zero (by rw [h.1])
    rw [hx]
    have Hx := Lib.hid hx; clear hx
    go_enter Try.func46, Try.ntmps46
    go_wp2_with (first
      | (at_make; refine wpList_make_own _ rfl _ _ _ rfl w.heap.size 2 i0 _ 1 Try.underlying29 hi hz0 hz1 _ _ _ 0 rfl rfl rfl HB.out HM.out (Nat.le_refl _) ?_; intro w1 hown hgr; have hb0 : Below w.heap.size w w1 := (Below.refl _ _).grown hgr (Nat.le_refl _) (by simp); have hrun := fun ty => append_of_nil (P := Try.prog) w1 w.heap.size 29 ty 2 i0 1 Try.underlying29 hi _ 0 [] hown 0)
      | (at_builtin; refine Lib.wpList_append_run _ rfl _ _ _ _ rfl _ _ rfl rfl _ _ (hrun _) ?_))
    go_ret
    exact ⟨rfl, hown, hb0⟩
  | some ad =>
    have hlen : (xs.flatMap intC).length = n * 1 := h.1
    have hcs : ∀ w1, Below w.heap.size w w1 → ∀ j u, (xs.flatMap intC)[j]? = some u → w1.cell? (ad.add j) = some u := fun w1 hb j u hu => by
      have hj : 0 < n := by
        have := (List.getElem?_eq_some_iff.1 hu).1
        omega
      obtain ⟨b, off, e, hlt, hc⟩ := h.2 hj
      injection e with e
      subst e
      rw [add_plain]
      exact (hb.cell (p := ⟨b, off + j, none⟩) hlt).trans (hc j u hu)
    have hr : 0 + n ≤ n := by omega
    have Hcs := Lib.hid hcs; clear hcs
    have Hlen := Lib.hid hlen; clear hlen
    have Hr := Lib.hid hr; clear hr
    go_enter Try.func46, Try.ntmps46
    go_wp2_with (first
      | (at_make; refine wpList_make_own _ rfl _ _ _ rfl w.heap.size 2 i0 _ 1 Try.underlying29 hi hz0 hz1 _ _ _ n rfl rfl rfl HB.out HM.out (Nat.le_refl _) ?_; intro w1 hown hgr; have hb0 : Below w.heap.size w w1 := (Below.refl _ _).grown hgr (Nat.le_refl _) (by simp))
      | (at_builtin; refine wpl_append_fits rfl (.tmp 5) (.tmp 6) _ rfl w.heap.size 2 i0 1 Try.underlying29 hi hz1 w.heap.size 0 n [] rfl hown ad n c _ rfl Hlen.out (Hcs.out _ hb0) (flat_one _ intC_one xs) Hr.out ?_; intro w2 hown2 hg2))
    go_ret
    rw [Nat.zero_add, List.nil_append] at hown2
    exact ⟨rfl, hown2, hb0.grown hg2 hb0.size (fun k hk => Nat.le_of_eq (Option.some.inj hk))⟩
set_option maxRecDepth 100000 in
set_option maxHeartbeats 1000000 in
theorem deleteI_c (base g n i j : Nat) (xs : List Int) (w : World) (h : w.ownsRow base 2 1 (.slice (some ⟨g, 0, none⟩) n n) n (xs.flatMap intC)) (hij : i < j) (hjn : j ≤ n) (hm : n ≤ 1048576) :
    Calls Try.prog 68 #[.slice (some ⟨g, 0, none⟩) n n, .int .i64 i, .int .i64 j] w fun e w' => e = .returned (.slice (some ⟨g, 0, none⟩) (n - (j - i)) n) ∧ w'.ownsRow base 2 1 (.slice (some ⟨g, 0, none⟩) (n - (j - i)) n) (n - (j - i)) ((xs.take i ++ xs.drop j).flatMap intC) ∧ w.grownBy w' (some g) := by
  obtain ⟨i0, hi, hz0, hz1, hz2⟩ := info_parts intInfo
  have hoA := own_next (own_pre h i (by omega)) (Below.refl _ _).drew
  rw [take_ints] at hoA
  have hxl : xs.length = n := by have := h.1; rw [len_ints] at this; omega
  have hl2 : ((xs.drop j).flatMap intC).length = (n - j) * 1 := by rw [len_ints, List.length_drop, hxl, Nat.mul_one]
  have hcs : ∀ q u, ((xs.drop j).flatMap intC)[q]? = some u → w.drew.cell? ⟨g, j + q, none⟩ = some u := fun q u hu => by
    rw [← drop_ints, List.getElem?_drop] at hu
    have hj : j + q < n * 1 := by rw [← h.1]; exact (List.getElem?_eq_some_iff.1 hu).1
    exact (h.cellAt (j + q) hj).trans hu
  have i1 : (i : Int) ≤ (j : Int) := by omega
  have i2 : (j : Int) ≤ (n : Int) := by omega
  have i3 : ¬ i = j := by omega
  have i4 : ((i : Int) == (j : Int)) = false := by simp; omega
  have i7 : (0 : Int) ≤ (i : Int) := by omega
  have i8 : (i : Int) ≤ (n : Int) := by omega
  have i9 : (0 : Int) ≤ (j : Int) := by omega
  have i5 : ¬ n = i := by omega
  have hen : i + (n - j) = n - (j - i) := by omega
  have HoA := Lib.hid hoA; clear hoA
  have Hl2 := Lib.hid hl2; clear hl2
  have Hxl := Lib.hid hxl; clear hxl
  have Hen := Lib.hid hen; clear hen
  rcases Nat.lt_or_ge j n with hj | hj
  · have hc2 : ∀ q u, ((xs.drop j).flatMap intC)[q]? = some u → w.drew.cell? ((⟨g, j, none⟩ : Addr).add q) = some u := fun q u hu => by rw [add_plain]; exact hcs q u hu
    have i6 : ¬ n = j := by omega
    have Hc2 := Lib.hid hc2; clear hc2
    clear hcs
    go_enter Try.func68, Try.ntmps68
    go_wp2_with fail
    refine wp_region_any (by kernel_rfl) (show wpAny _ _ _ _ _ _ _ (World.drew _) from ?_)
    (first
      | (refine wpAny_take (i := 0) (v := ?_) rfl (by kernel_rfl) (by kernel_rfl) (by kernel_rfl) (fun _ _ _ h => h) (Or.inl ⟨by rfl, ?_⟩) ?_
         rotate_left
         focus (intro wq; go_simp; (try (with_reducible rfl)); done))
      | fail "take 0")
    try simp only [Act.put, List.setIfInBounds_toArray, List.set_cons_zero, List.set_cons_succ, List.getElem_toArray, List.getElem_cons_zero]
    (first
      | (refine wpAny_take (i := 1) (v := ?_) rfl (by kernel_rfl) (by kernel_rfl) (by kernel_rfl) (fun _ _ _ h => h) (Or.inl ⟨by rfl, ?_⟩) ?_
         rotate_left
         focus (intro wq; go_simp; (try (with_reducible rfl)); done))
      | fail "take 1")
    try simp only [Act.put, List.setIfInBounds_toArray, List.set_cons_zero, List.set_cons_succ, List.getElem_toArray, List.getElem_cons_zero, List.getElem_cons_succ]
    (first
      | (refine wpAny_take (i := 2) (v := ?_) rfl (by kernel_rfl) (by kernel_rfl) (by kernel_rfl) (fun _ _ _ h => h) (Or.inl ⟨by rfl, ?_⟩) ?_
         rotate_left
         focus (intro wq; go_simp; (try (with_reducible rfl)); done))
      | fail "take 2")
    try simp only [Act.put, List.setIfInBounds_toArray, List.set_cons_zero, List.set_cons_succ, List.getElem_toArray, List.getElem_cons_zero, List.getElem_cons_succ]
    (first
      | (refine wpAny_take (i := 3) (v := ?_) rfl (by kernel_rfl) (by kernel_rfl) (by kernel_rfl) (fun _ _ _ h => h) (Or.inl ⟨by rfl, ?_⟩) ?_
         rotate_left
         focus (intro wq; go_simp; (try (with_reducible rfl)); done))
      | fail "take 3")
    try simp only [Act.put, List.setIfInBounds_toArray, List.set_cons_zero, List.set_cons_succ, List.getElem_toArray, List.getElem_cons_zero, List.getElem_cons_succ]
    (first
      | (refine wpAny_take (i := 4) (v := ?_) rfl (by kernel_rfl) (by kernel_rfl) (by kernel_rfl) (fun _ _ _ h => h) (Or.inl ⟨by rfl, ?_⟩) ?_
         rotate_left
         focus (intro wq; go_simp; (try (with_reducible rfl)); done))
      | fail "take 4")
    try simp only [Act.put, List.setIfInBounds_toArray, List.set_cons_zero, List.set_cons_succ, List.getElem_toArray, List.getElem_cons_zero, List.getElem_cons_succ]
    (first
      | (refine wpAny_take (i := 5) (v := ?_) rfl (by kernel_rfl) (by kernel_rfl) (by kernel_rfl) (fun _ _ _ h => h) (Or.inl ⟨by rfl, ?_⟩) ?_
         rotate_left
         focus (intro wq; go_simp; (try (with_reducible rfl)); done))
      | fail "take 5")
    try simp only [Act.put, List.setIfInBounds_toArray, List.set_cons_zero, List.set_cons_succ, List.getElem_toArray, List.getElem_cons_zero, List.getElem_cons_succ]
    refine wpAny_ready (rs := [6]) (by kernel_rfl) (by simp) ?_
    refine allReadyS_cons (o := _) rfl (fun K hK => ?_) AllReady.nil
    refine step_append_fits rfl (.tmp 22) (.tmp 25) _ rfl base 2 i0 1 Try.underlying29 hi hz1 g i n _ rfl HoA.out ⟨g, j, none⟩ (n - j) (n - j) _ rfl Hl2.out Hc2.out (flat_one _ intC_one _) (by omega) ?_
    intro w2 ho2 hg2
    refine hK.out _ _ ?_
    clear hK K
    try simp only [Act.put, List.setIfInBounds_toArray, List.set_cons_zero, List.set_cons_succ, List.getElem_toArray, List.getElem_cons_zero, List.getElem_cons_succ]
    refine wpAny_ready (rs := [7]) (by kernel_rfl) (by simp) ?_
    refine allReadyS_cons (o := _) rfl (fun K hK => ?_) AllReady.nil
    go_simp
    skip
    refine hK.out _ _ ?_
    clear hK K
    try simp only [Act.put, List.setIfInBounds_toArray, List.set_cons_zero, List.set_cons_succ, List.getElem_toArray, List.getElem_cons_zero, List.getElem_cons_succ]
    refine wpAny_done (by kernel_rfl) ?_ _
    obtain ⟨m, hm'⟩ : ∃ m, i + (n - j) = m := ⟨_, rfl⟩
    rw [hm'] at ho2 ⊢
    have hme : m = n - (j - i) := by rw [← hm']; exact Hen.out
    have Hme := Lib.hid hme; clear hme
    have m1 : m < n := by omega
    obtain ⟨ys, ho3, hys⟩ := own_more ho2 n (by omega) (Nat.le_refl _)
    obtain ⟨w3, hrun, ho4, hg3⟩ := own_cleared (P := Try.prog) w2 base 29 2 (.int .i64 0) 1 g n n m (n - m) ys Try.underlying29 intZ rfl (by simp [Value.cells, Value.oneCell']) (by omega) ho3 m1
    rw [hys] at ho4
    rw [Nat.mul_one] at hrun
    have m2 : (m : Int) ≤ (n : Int) := by omega
    have m3 : ¬ m = n := by omega
    have m4 : ¬ n = m := by omega
    have Ho2 := Lib.hid ho2; clear ho2
    have Ho3 := Lib.hid ho3; clear ho3
    have Hys := Lib.hid hys; clear hys
    go_wp2_with fail
    go_ret
    refine ⟨by rw [← Hme.out]; rfl, ?_, grown_trans (grown_trans (grown_of_below (Below.refl _ _).drew) hg2) hg3⟩
    rw [← Hme.out, List.flatMap_append]
    exact ho4
  · obtain rfl : n = j := by omega
    have hc2 : ∀ q u, ((xs.drop n).flatMap intC)[q]? = some u → w.drew.cell? ((⟨g, 0, none⟩ : Addr).add q) = some u := fun q u hu => by
      have : q < _ := (List.getElem?_eq_some_iff.1 hu).1
      rw [Hl2.out] at this; omega
    have Hc2 := Lib.hid hc2; clear hc2
    clear hcs
    have hl3 : ((xs.drop n).flatMap intC).length = 0 * 1 := by rw [Hl2.out, Nat.sub_self]
    have hen3 : i = n - (n - i) := by omega
    have Hl3 := Lib.hid hl3; clear hl3
    have Hen3 := Lib.hid hen3; clear hen3
    go_enter Try.func68, Try.ntmps68
    go_wp2_with fail
    refine wp_region_any (by kernel_rfl) (show wpAny _ _ _ _ _ _ _ (World.drew _) from ?_)
    (first
      | (refine wpAny_take (i := 0) (v := ?_) rfl (by kernel_rfl) (by kernel_rfl) (by kernel_rfl) (fun _ _ _ h => h) (Or.inl ⟨by rfl, ?_⟩) ?_
         rotate_left
         focus (intro wq; go_simp; (try (with_reducible rfl)); done))
      | fail "take 0")
    try simp only [Act.put, List.setIfInBounds_toArray, List.set_cons_zero, List.set_cons_succ, List.getElem_toArray, List.getElem_cons_zero]
    (first
      | (refine wpAny_take (i := 1) (v := ?_) rfl (by kernel_rfl) (by kernel_rfl) (by kernel_rfl) (fun _ _ _ h => h) (Or.inl ⟨by rfl, ?_⟩) ?_
         rotate_left
         focus (intro wq; go_simp; (try (with_reducible rfl)); done))
      | fail "take 1")
    try simp only [Act.put, List.setIfInBounds_toArray, List.set_cons_zero, List.set_cons_succ, List.getElem_toArray, List.getElem_cons_zero, List.getElem_cons_succ]
    (first
      | (refine wpAny_take (i := 2) (v := ?_) rfl (by kernel_rfl) (by kernel_rfl) (by kernel_rfl) (fun _ _ _ h => h) (Or.inl ⟨by rfl, ?_⟩) ?_
         rotate_left
         focus (intro wq; go_simp; (try (with_reducible rfl)); done))
      | fail "take 2")
    try simp only [Act.put, List.setIfInBounds_toArray, List.set_cons_zero, List.set_cons_succ, List.getElem_toArray, List.getElem_cons_zero, List.getElem_cons_succ]
    (first
      | (refine wpAny_take (i := 3) (v := ?_) rfl (by kernel_rfl) (by kernel_rfl) (by kernel_rfl) (fun _ _ _ h => h) (Or.inl ⟨by rfl, ?_⟩) ?_
         rotate_left
         focus (intro wq; go_simp; (try (with_reducible rfl)); done))
      | fail "take 3")
    try simp only [Act.put, List.setIfInBounds_toArray, List.set_cons_zero, List.set_cons_succ, List.getElem_toArray, List.getElem_cons_zero, List.getElem_cons_succ]
    (first
      | (refine wpAny_take (i := 4) (v := ?_) rfl (by kernel_rfl) (by kernel_rfl) (by kernel_rfl) (fun _ _ _ h => h) (Or.inl ⟨by rfl, ?_⟩) ?_
         rotate_left
         focus (intro wq; go_simp; (try (with_reducible rfl)); done))
      | fail "take 4")
    try simp only [Act.put, List.setIfInBounds_toArray, List.set_cons_zero, List.set_cons_succ, List.getElem_toArray, List.getElem_cons_zero, List.getElem_cons_succ]
    (first
      | (refine wpAny_take (i := 5) (v := ?_) rfl (by kernel_rfl) (by kernel_rfl) (by kernel_rfl) (fun _ _ _ h => h) (Or.inl ⟨by rfl, ?_⟩) ?_
         rotate_left
         focus (intro wq; go_simp; (try (with_reducible rfl)); done))
      | fail "take 5")
    try simp only [Act.put, List.setIfInBounds_toArray, List.set_cons_zero, List.set_cons_succ, List.getElem_toArray, List.getElem_cons_zero, List.getElem_cons_succ]
    refine wpAny_ready (rs := [6]) (by kernel_rfl) (by simp) ?_
    refine allReadyS_cons (o := _) rfl (fun K hK => ?_) AllReady.nil
    refine step_append_fits rfl (.tmp 22) (.tmp 25) _ rfl base 2 i0 1 Try.underlying29 hi hz1 g i n _ rfl HoA.out ⟨g, 0, none⟩ 0 0 _ rfl Hl3.out Hc2.out (flat_one _ intC_one _) (by omega) ?_
    intro w2 ho2 hg2
    refine hK.out _ _ ?_
    clear hK K
    try simp only [Act.put, List.setIfInBounds_toArray, List.set_cons_zero, List.set_cons_succ, List.getElem_toArray, List.getElem_cons_zero, List.getElem_cons_succ]
    refine wpAny_ready (rs := [7]) (by kernel_rfl) (by simp) ?_
    refine allReadyS_cons (o := _) rfl (fun K hK => ?_) AllReady.nil
    go_simp
    skip
    refine hK.out _ _ ?_
    clear hK K
    try simp only [Act.put, List.setIfInBounds_toArray, List.set_cons_zero, List.set_cons_succ, List.getElem_toArray, List.getElem_cons_zero, List.getElem_cons_succ]
    refine wpAny_done (by kernel_rfl) ?_ _
    simp only [Nat.add_zero] at ho2
    have m1 : i < n := by omega
    obtain ⟨ys, ho3, hys⟩ := own_more ho2 n (by omega) (Nat.le_refl _)
    obtain ⟨w3, hrun, ho4, hg3⟩ := own_cleared (P := Try.prog) w2 base 29 2 (.int .i64 0) 1 g n n i (n - i) ys Try.underlying29 intZ rfl (by simp [Value.cells, Value.oneCell']) (by omega) ho3 m1
    rw [hys] at ho4
    rw [Nat.mul_one] at hrun
    have m2 : (i : Int) ≤ (n : Int) := by omega
    have m3 : ¬ i = n := by omega
    have m4 : ¬ n = i := by omega
    have Ho2 := Lib.hid ho2; clear ho2
    have Ho3 := Lib.hid ho3; clear ho3
    have Hys := Lib.hid hys; clear hys
    go_wp2_with fail
    go_ret
    refine ⟨by rw [← Hen3.out]; rfl, ?_, grown_trans (grown_trans (grown_of_below (Below.refl _ _).drew) hg2) hg3⟩
    rw [← Hen3.out, List.flatMap_append]
    exact ho4
theorem cells_own {w : World} {base g : Nat} {n G : Nat} {cur : List Value} (hg : w.heap[g]? = some (.cells cur.toArray 2 (0, 0))) (hb : base ≤ g) (hn : n ≤ G) (hG : G ≤ maxLen) (hc : cur.length = G) : w.ownsRow base 2 1 (.slice (some ⟨g, 0, none⟩) n G) n (cur.take n) :=
  ⟨by rw [List.length_take, hc, Nat.mul_one]; exact Nat.min_eq_left hn, .inr ⟨g, G, cur.toArray, rfl, hb, hg, hn, hG, by simpa using hc, by simp⟩⟩
set_option maxRecDepth 100000 in
set_option maxHeartbeats 2000000 in
theorem insertI_c (base g n b off cx k : Nat) (x : Int) (xs : List Int) (w : World) (h : w.ownsRow base 2 1 (.slice (some ⟨g, 0, none⟩) n n) n (xs.flatMap intC)) (hx : Sl w w.heap.size 1 (some ⟨b, off, none⟩) 1 (intC x)) (hk : k ≤ n) (hm : n ≤ 1048576) (hb : base ≤ w.heap.size) :
    Calls Try.prog 69 #[.slice (some ⟨g, 0, none⟩) n n, .int .i64 k, .slice (some ⟨b, off, none⟩) 1 cx] w fun e w' => ∃ A c, e = .returned (.slice A (n + 1) c) ∧ w'.ownsRow base 2 1 (.slice A (n + 1) c) (n + 1) ((xs.take k ++ [x] ++ xs.drop k).flatMap intC) ∧ w.grownBy w' (some g) := by
  obtain ⟨i0, hi, hz0, hz1, hz2⟩ := info_parts intInfo
  have hxl : xs.length = n := by have := h.1; rw [len_ints] at this; omega
  have e63 : n + 1 ≤ maxLen := by unfold maxLen; omega
  have e32 : (n + 1) * 8 ≤ 140737488355328 := by omega
  have k0 : (0 : Int) ≤ (k : Int) := by omega
  have k1 : (k : Int) ≤ (n : Int) := by omega
  have E63 := Lib.hid e63; clear e63
  have E32 := Lib.hid e32; clear e32
  have Hb := Lib.hid hb; clear hb
  rcases Nat.lt_or_ge k n with hkn | hkn
  · have hold : (Builtin.firstCells i0.size k (.slice (some ⟨g, 0, none⟩) k n)).run Try.prog w.drew = .ok ((xs.take k).flatMap intC).toArray w.drew := by
      rw [hz1]
      exact run_firstCells_some w.drew 1 k ⟨g, 0, none⟩ k n _ (by rw [len_ints, List.length_take, hxl, Nat.mul_one]; omega) (fun j v hj => by
        rw [add_plain, Nat.zero_add]
        rw [← take_ints, Nat.mul_one, List.getElem?_take] at hj
        split at hj
        · exact (h.cellAt j (by omega)).trans hj
        · cases hj)
    obtain ⟨G, hG⟩ : ∃ G, G = grownCap w (n + 1) n 2 := ⟨_, rfl⟩
    obtain ⟨ROW, hROW⟩ : ∃ ROW : List Value, ROW = (((xs.take k).flatMap intC).toArray ++ Builtin.zeroCells (Value.int .i64 0).cells (n + 1 - k) ++ Builtin.zeroCells (Value.int .i64 0).cells (G - (n + 1))).toList := ⟨_, rfl⟩
    have hrz : ∀ ty, (Builtin.append_ #[29, 3] ty #[.slice (some ⟨g, 0, none⟩) k n, .int .i64 ((n : Int) + 1 - (k : Int))]).run Try.prog w = .ok (.slice (some ⟨w.heap.size, 0, none⟩) (n + 1) G) (w.drew.alloc (.cells ROW.toArray 2)) := fun ty => by
      have h1 := Lib.run_append_grow_zeros (P := Try.prog) w 29 3 ty 2 i0 _ .i64 .i64 Try.underlying29 Try.underlying3 hi hz0 (some ⟨g, 0, none⟩) k n _ hold (n + 1 - k) (by omega) (by omega) (by omega) (by omega) (by rw [hz2]; omega) (by rw [hz2, show k + (n + 1 - k) = n + 1 by omega]; exact growslice_fits (by omega) E32.out)
      rw [show k + (n + 1 - k) = n + 1 by omega, ← hG] at h1
      rw [show (n : Int) + 1 - (k : Int) = ((n + 1 - k : Nat) : Int) by omega, hROW, Array.toArray_toList]
      exact h1
    have hGn : n + 1 ≤ G := by rw [hG]; exact grownCap_ge w _ _ _
    have hGm : G ≤ maxLen := by
      have := grownCap_le_maxLen w (n + 1) n 2 E63.out
      rw [← hG] at this
      exact this
    have hRl : ROW.length = G := by
      rw [hROW, Array.length_toList, Array.size_append, Array.size_append, List.size_toArray, len_ints, List.length_take, hxl]
      simp [Builtin.zeroCells, Value.cells]
      omega
    have hRt : ROW.take k = (xs.take k).flatMap intC := by
      rw [hROW, Array.toList_append, Array.toList_append, List.append_assoc, List.take_append_of_le_length (by rw [len_ints, List.length_take, hxl]; omega), List.take_of_length_le (by rw [len_ints, List.length_take, hxl]; omega)]
    have hfin : (splice (splice ROW k (intC x)) (k + 1) ((xs.drop k).flatMap intC)).take (n + 1) = (xs.take k ++ [x] ++ xs.drop k).flatMap intC := by
      have hl1 : (ROW.take k).length = k := by rw [List.length_take, hRl]; omega
      have hl2 : ((xs.drop k).flatMap intC).length = n - k := by rw [len_ints, List.length_drop, hxl]
      have ht : (splice ROW k (intC x)).take (k + 1) = ROW.take k ++ intC x := by
        rw [splice, ← List.append_assoc, List.take_append_of_le_length (by rw [List.length_append, hl1]; simp [intC]), List.take_of_length_le (by rw [List.length_append, hl1]; simp [intC])]
      rw [splice, ht, hRt, ← List.append_assoc, List.take_append_of_le_length (by rw [List.length_append, List.length_append, hl2, ← hRt, hl1]; simp [intC]; omega), List.take_of_length_le (by rw [List.length_append, List.length_append, hl2, ← hRt, hl1]; simp [intC]; omega), List.flatMap_append, List.flatMap_append]
      simp
    obtain ⟨gw, hgw⟩ : ∃ gw, w.heap.size = gw := ⟨_, rfl⟩
    have hW1 : ∀ W, W = w.drew.alloc (.cells ROW.toArray 2) → W.heap[gw]? = some (.cells ROW.toArray 2 (0, 0)) ∧ Below gw w W := fun W e => by
      subst e
      rw [← hgw]
      exact ⟨heap_alloc_new w.drew _, (Below.refl _ _).drew.alloc (Nat.le_refl _) _⟩
    have hxc : ∀ w1, Below w.heap.size w w1 → ∀ j u, (intC x)[j]? = some u → w1.cell? ((⟨b, off, none⟩ : Addr).add j) = some u := fun w1 hb1 j u hu => by
      obtain ⟨b', off', e, hlt, hc⟩ := hx.2 (by omega)
      injection e with e
      injection e with e1 e2 _
      subst e1 e2
      rw [add_plain]
      exact (hb1.cell (p := ⟨b, off + j, none⟩) hlt).trans (hc j u hu)
    have hsc : ∀ w1, Below w.heap.size w w1 → ∀ j u, ((xs.drop k).flatMap intC)[j]? = some u → w1.cell? ((⟨g, k, none⟩ : Addr).add j) = some u := fun w1 hb1 j u hu => by
      rw [← drop_ints, List.getElem?_drop] at hu
      have hj : k + j < n * 1 := by rw [← h.1]; exact (List.getElem?_eq_some_iff.1 hu).1
      rw [add_plain]
      exact (hb1.cell (p := ⟨g, k + j, none⟩) (own_row h).2.1).trans ((h.cellAt (k + j) hj).trans hu)
    have hf1 : (intC x).length = Nat.min 1 (n + 1 - k) := by rw [intC_len]; exact (Nat.min_eq_left (by omega)).symm
    have hf2 : k + (intC x).length ≤ ROW.length := by rw [intC_len, hRl]; omega
    have hf3 : ((xs.drop k).flatMap intC).length = Nat.min (n - k) (n + 1 - (k + 1)) := by rw [len_ints, List.length_drop, hxl]; exact (Nat.min_eq_left (by omega)).symm
    have hf4 : k + 1 + ((xs.drop k).flatMap intC).length ≤ (splice ROW k (intC x)).length := by rw [length_splice _ _ _ hf2, hRl, len_ints, List.length_drop, hxl]; omega
    have hf5 : (splice (splice ROW k (intC x)) (k + 1) ((xs.drop k).flatMap intC)).length = G := by rw [length_splice _ _ _ hf4, length_splice _ _ _ hf2, hRl]
    have hbg : base ≤ gw := by rw [← hgw]; exact Hb.out
    rw [hgw] at hxc hsc
    have hgb : ∀ w1, Below gw w w1 → w.grownBy w1 (some g) := fun w1 hb1 => by rw [← hgw] at hb1; exact grown_of_below hb1
    rw [hgw] at hrz
    obtain ⟨kn, hkn1⟩ : ∃ kn, k + 1 = kn := ⟨_, rfl⟩
    rw [hkn1] at hf3 hf4 hf5 hfin
    have n1 : ¬ G = k := by omega
    have n2 : ¬ G = kn := by omega
    have e1 : IntKind.i64.wrap ((k : Int) + 1) = (kn : Int) := by rw [IntWalk.i64_in _ (by omega)]; omega
    have n3 : ¬ n = k := by omega
    have n4 : (k : Int) ≤ (G : Int) := by omega
    have n5 : (kn : Int) ≤ (G : Int) := by omega
    have n6 : (kn : Int) ≤ (n : Int) + 1 := by omega
    have n7 : (0 : Int) ≤ (kn : Int) := by omega
    have n8 : ((k : Int) == (n : Int)) = false := by simp; omega
    obtain ⟨X1, hX1⟩ : ∃ X1, X1 = intC x := ⟨_, rfl⟩
    obtain ⟨X2, hX2⟩ : ∃ X2, X2 = (xs.drop k).flatMap intC := ⟨_, rfl⟩
    have hone1 : ∀ u ∈ X1, u.oneCell' = true := by rw [hX1]; exact intC_one x
    have hone2 : ∀ u ∈ X2, u.oneCell' = true := by rw [hX2]; exact flat_one _ intC_one _
    rw [← hX1] at hxc hf1 hf2 hf4 hf5 hfin
    rw [← hX2] at hsc hf3 hf4 hf5 hfin
    rw [← hfin]
    have HX1 := Lib.hid hX1; clear hX1
    have HX2 := Lib.hid hX2; clear hX2
    have Hfin := Lib.hid hfin; clear hfin
    have Hxc := Lib.hid hxc; clear hxc
    have Hsc := Lib.hid hsc; clear hsc
    have Hf1 := Lib.hid hf1; clear hf1
    have Hf2 := Lib.hid hf2; clear hf2
    have Hf3 := Lib.hid hf3; clear hf3
    have Hf4 := Lib.hid hf4; clear hf4
    have Hf5 := Lib.hid hf5; clear hf5
    have Hgb := Lib.hid hgb; clear hgb
    have Hone1 := Lib.hid hone1; clear hone1
    have Hone2 := Lib.hid hone2; clear hone2
    have HRl := Lib.hid hRl; clear hRl
    have HROW := Lib.hid hROW; clear hROW
    have HW1 := Lib.hid hW1; clear hW1
    have H := Lib.hid h; clear h
    have Hx := Lib.hid hx; clear hx
    have Hkn1 := Lib.hid hkn1; clear hkn1
    clear hold hG hRt hxl hgw
    go_enter Try.func69, Try.ntmps69
    go_wp2_with (first
      | (at_builtin; refine Lib.wpList_append_run _ rfl _ _ _ _ rfl _ _ rfl rfl _ _ (hrz _) ?_)
      | ((with_reducible refine wpList_copy_splice rfl (.tmp 43) (.tmp 44) 29 29 rfl 2 Try.underlying29 intSize _ _ _ _ _ _ rfl rfl gw k ROW 2 ?_ X1 ?_ ?_ Hf2.out Hone1.out gw w ?_ (Nat.le_refl _) ?_); (exact (HW1.out _ rfl).1); (exact Hf1.out); (exact fun _ => ⟨rfl, _, rfl, Hxc.out _ (HW1.out _ rfl).2⟩); (exact (HW1.out _ rfl).2); intro w2 hg2 hb2))
    refine wp_region_any (by kernel_rfl) (show wpAny _ _ _ _ _ _ _ (World.drew _) from ?_)
    (first
      | (refine wpAny_take (i := 0) (v := ?_) rfl (by kernel_rfl) (by kernel_rfl) (by kernel_rfl) (fun _ _ _ h => h) (Or.inl ⟨by rfl, ?_⟩) ?_
         rotate_left
         focus (intro wq; go_simp; (try (with_reducible rfl)); done))
      | fail "take 0")
    try simp only [Act.put, List.setIfInBounds_toArray, List.set_cons_zero, List.set_cons_succ, List.getElem_toArray, List.getElem_cons_zero]
    (first
      | (refine wpAny_take (i := 1) (v := ?_) rfl (by kernel_rfl) (by kernel_rfl) (by kernel_rfl) (fun _ _ _ h => h) (Or.inl ⟨by rfl, ?_⟩) ?_
         rotate_left
         focus (intro wq; go_simp; (try (with_reducible rfl)); done))
      | fail "take 1")
    try simp only [Act.put, List.setIfInBounds_toArray, List.set_cons_zero, List.set_cons_succ, List.getElem_toArray, List.getElem_cons_zero, List.getElem_cons_succ]
    (first
      | (refine wpAny_take (i := 2) (v := ?_) rfl (by kernel_rfl) (by kernel_rfl) (by kernel_rfl) (fun _ _ _ h => h) (Or.inl ⟨by rfl, ?_⟩) ?_
         rotate_left
         focus (intro wq; go_simp; (try (with_reducible rfl)); done))
      | fail "take 2")
    try simp only [Act.put, List.setIfInBounds_toArray, List.set_cons_zero, List.set_cons_succ, List.getElem_toArray, List.getElem_cons_zero, List.getElem_cons_succ]
    (first
      | (refine wpAny_take (i := 3) (v := ?_) rfl (by kernel_rfl) (by kernel_rfl) (by kernel_rfl) (fun _ _ _ h => h) (Or.inl ⟨by rfl, ?_⟩) ?_
         rotate_left
         focus (intro wq; go_simp; (try (with_reducible rfl)); done))
      | fail "take 3")
    try simp only [Act.put, List.setIfInBounds_toArray, List.set_cons_zero, List.set_cons_succ, List.getElem_toArray, List.getElem_cons_zero, List.getElem_cons_succ]
    (first
      | (refine wpAny_take (i := 4) (v := ?_) rfl (by kernel_rfl) (by kernel_rfl) (by kernel_rfl) (fun _ _ _ h => h) (Or.inl ⟨by rfl, ?_⟩) ?_
         rotate_left
         focus (intro wq; go_simp; (try (with_reducible rfl)); done))
      | fail "take 4")
    try simp only [Act.put, List.setIfInBounds_toArray, List.set_cons_zero, List.set_cons_succ, List.getElem_toArray, List.getElem_cons_zero, List.getElem_cons_succ]
    (first
      | (refine wpAny_take (i := 5) (v := ?_) rfl (by kernel_rfl) (by kernel_rfl) (by kernel_rfl) (fun _ _ _ h => h) (Or.inl ⟨by rfl, ?_⟩) ?_
         rotate_left
         focus (intro wq; go_simp; (try (with_reducible rfl)); done))
      | fail "take 5")
    try simp only [Act.put, List.setIfInBounds_toArray, List.set_cons_zero, List.set_cons_succ, List.getElem_toArray, List.getElem_cons_zero, List.getElem_cons_succ]
    (first
      | (refine wpAny_take (i := 6) (v := ?_) rfl (by kernel_rfl) (by kernel_rfl) (by kernel_rfl) (fun _ _ _ h => h) (Or.inl ⟨by rfl, ?_⟩) ?_
         rotate_left
         focus (intro wq; go_simp; (try (with_reducible rfl)); done))
      | fail "take 6")
    try simp only [Act.put, List.setIfInBounds_toArray, List.set_cons_zero, List.set_cons_succ, List.getElem_toArray, List.getElem_cons_zero, List.getElem_cons_succ]
    (first
      | (refine wpAny_take (i := 7) (v := ?_) rfl (by kernel_rfl) (by kernel_rfl) (by kernel_rfl) (fun _ _ _ h => h) (Or.inl ⟨by rfl, ?_⟩) ?_
         rotate_left
         focus (intro wq; go_simp; (try (with_reducible rfl)); done))
      | fail "take 7")
    try simp only [Act.put, List.setIfInBounds_toArray, List.set_cons_zero, List.set_cons_succ, List.getElem_toArray, List.getElem_cons_zero, List.getElem_cons_succ]
    refine wpAny_ready (rs := [8]) (by kernel_rfl) (by simp) ?_
    refine allReadyS_cons (o := _) rfl (fun K hK => ?_) AllReady.nil
    refine step_copy_splice rfl (.tmp 50) (.tmp 53) 29 29 rfl 2 Try.underlying29 intSize _ _ _ _ _ _ rfl rfl gw kn (splice ROW k X1) 2 hg2.out X2 Hf3.out (fun _ => ⟨rfl, _, rfl, Hsc.out _ hb2.drew⟩) Hf4.out Hone2.out gw w hb2.drew (Nat.le_refl _) ?_
    intro w3 hg3 hb3
    refine hK.out _ _ ?_
    clear hK K
    try simp only [Act.put, List.setIfInBounds_toArray, List.set_cons_zero, List.set_cons_succ, List.getElem_toArray, List.getElem_cons_zero, List.getElem_cons_succ]
    refine wpAny_done (by kernel_rfl) ?_ _
    go_wp2_with fail
    go_ret
    exact ⟨some ⟨gw, 0, none⟩, G, rfl, cells_own hg3.out hbg hGn hGm Hf5.out, Hgb.out _ hb3⟩
  · obtain rfl : n = k := by omega
    have hfin : xs.take n ++ [x] ++ xs.drop n = xs ++ [x] := by rw [List.take_of_length_le (by omega), List.drop_eq_nil_of_le (by omega), List.append_nil]
    have hnn : ((n : Int) == (n : Int)) = true := by simp
    rw [hfin]
    have Hfin := Lib.hid hfin; clear hfin
    have Hxl := Lib.hid hxl; clear hxl
    go_enter Try.func69, Try.ntmps69
    go_wp2_with (at_builtin; refine wpl_append _ rfl (.tmp 23) (.tmp 24) _ rfl base 2 i0 _ 1 8 Try.underlying29 hi hz0 hz1 hz2 rfl (by omega) _ n _ rfl h w.heap.size (some ⟨b, off, none⟩) 1 cx _ rfl hx (intC_one _) E63.out E32.out Hb.out ?_; intro v2 w2 ho2 hg2 hat2)
    obtain ⟨A, c, rfl⟩ := own_slice ho2
    go_wp2_with fail
    go_ret
    refine ⟨A, c, rfl, ?_, hg2⟩
    rw [List.flatMap_append]
    simpa using ho2
end Go.Proofs.Ytgkdjohiclhcoaa
