
/- Texts divided at one byte: plain. -/
import Derived.Lib.SplitLaws
import Derived.Lib.IndexBytes
namespace Go.Proofs.YtjkjmpmefapnoaaGreatDoor
variable {sp : UInt8}
def jn (sp : UInt8) : List (List UInt8) → List UInt8
  | [] => []
  | [p] => p
  | p :: q :: r => p ++ sp :: jn sp (q :: r)
/-- l divided at each byte sp. -/
structure Pcs (sp : UInt8) (P : List (List UInt8)) (l : List UInt8) : Prop where
  ne : P ≠ []
  no : ∀ p ∈ P, sp ∉ p
  eq : jn sp P = l
theorem jn_cons (p : List UInt8) {P : List (List UInt8)} (h : P ≠ []) : jn sp (p :: P) = p ++ sp :: jn sp P := by
  cases P with
  | nil => exact absurd rfl h
  | cons q r => rfl
theorem jn_snoc (q : List UInt8) : ∀ {P : List (List UInt8)}, P ≠ [] → jn sp (P ++ [q]) = jn sp P ++ sp :: q
  | [], h => absurd rfl h
  | [p], _ => rfl
  | p :: r :: P, _ => by
    rw [List.cons_append, jn_cons p (by simp), jn_snoc q (P := r :: P) (by simp), jn_cons p (by simp), List.append_assoc]
    rfl
theorem app32 : ∀ {a b m n : List UInt8}, sp ∉ a → sp ∉ b → a ++ sp :: m = b ++ sp :: n → a = b ∧ m = n
  | [], [], _, _, _, _, h => ⟨rfl, (List.cons.inj h).2⟩
  | [], b :: bs, _, _, _, hb, h => absurd (List.mem_cons.2 (.inl (List.cons.inj h).1)) hb
  | a :: as, [], _, _, ha, _, h => absurd (List.mem_cons.2 (.inl (List.cons.inj h).1.symm)) ha
  | a :: as, b :: bs, m, n, ha, hb, h => by
    obtain ⟨h1, h2⟩ := List.cons.inj h
    obtain ⟨h3, h4⟩ := app32 (fun x => ha (List.mem_cons_of_mem _ x)) (fun x => hb (List.mem_cons_of_mem _ x)) h2
    exact ⟨by rw [h1, h3], h4⟩
theorem Pcs.one {P : List (List UInt8)} {a : List UInt8} (h : Pcs sp P a) (ha : sp ∉ a) : P = [a] := by
  match P, h with
  | [], h => exact absurd rfl h.ne
  | [p], h => exact congrArg (fun x => [x]) h.eq
  | p :: q :: r, h => exact absurd (by rw [← h.eq, jn_cons p (by simp)]; simp) ha
theorem Pcs.cons {P : List (List UInt8)} {a m : List UInt8} (h : Pcs sp P (a ++ sp :: m)) (ha : sp ∉ a) : ∃ Q, P = a :: Q ∧ Pcs sp Q m := by
  match P, h with
  | [], h => exact absurd rfl h.ne
  | [p], h =>
    have e : p = a ++ sp :: m := h.eq
    exact absurd (show sp ∈ p by rw [e]; simp) (h.no p (by simp))
  | p :: q :: r, h =>
    have e := h.eq
    rw [jn_cons p (by simp)] at e
    obtain ⟨h1, h2⟩ := app32 (h.no p (by simp)) ha e
    exact ⟨q :: r, by rw [h1], ⟨by simp, fun x hx => h.no x (List.mem_cons_of_mem _ hx), h2⟩⟩
theorem Pcs.three {P : List (List UInt8)} {a b c : List UInt8} (h : Pcs sp P (a ++ sp :: (b ++ sp :: c))) (ha : sp ∉ a) (hb : sp ∉ b) (hc : sp ∉ c) : P = [a, b, c] := by
  obtain ⟨Q, rfl, h1⟩ := h.cons ha
  obtain ⟨R, rfl, h2⟩ := h1.cons hb
  rw [h2.one hc]
theorem Pcs.of3 {a b c l : List UInt8} (h : Pcs sp [a, b, c] l) : l = a ++ sp :: (b ++ sp :: c) := h.eq.symm
theorem splitK_pcs : ∀ (k : Nat) (s : List UInt8), s.count sp = k → Pcs sp (Lib.splitK [sp] 0 k s) s
  | 0, s, h => ⟨by simp [Lib.splitK], fun p hp => by
      obtain rfl : p = s := by simpa [Lib.splitK] using hp
      exact List.count_eq_zero.1 h, rfl⟩
  | k + 1, s, h => by
    rcases Lib.index_spec s [sp] with ⟨h1, h2⟩ | ⟨i, h1, hi, ho, hn⟩
    · exfalso
      have hm : sp ∈ s := List.count_pos_iff.1 (by omega)
      obtain ⟨j, hj⟩ := List.mem_iff_getElem?.1 hm
      have hlt : j < s.length := (List.getElem?_eq_some_iff.1 hj).1
      have h3 := h2 j (by omega)
      obtain ⟨t, ht⟩ : ∃ t, s.drop j = sp :: t := by
        rw [List.drop_eq_getElem_cons hlt]
        exact ⟨_, by rw [(List.getElem?_eq_some_iff.1 hj).2]⟩
      simp [Lib.occAt, ht] at h3
    · obtain ⟨t, ht⟩ : ∃ t, s.drop i = sp :: t := by
        cases hd : s.drop i with
        | nil => simp [Lib.occAt, hd] at ho
        | cons c t => exact ⟨t, by simp [Lib.occAt, hd] at ho; rw [ho]⟩
      have hs : s = s.take i ++ sp :: t := by rw [← ht, List.take_append_drop]
      have ht2 : s.drop (i + 1) = t := by
        rw [← List.drop_drop, ht]; rfl
      have hni : sp ∉ s.take i := fun hm => by
        obtain ⟨j, hj⟩ := List.mem_iff_getElem?.1 hm
        have hlt : j < (s.take i).length := (List.getElem?_eq_some_iff.1 hj).1
        rw [List.length_take] at hlt
        rw [List.getElem?_take, if_pos (by omega)] at hj
        have h3 := hn j (by omega)
        have hls : j < s.length := by omega
        rw [List.getElem?_eq_getElem hls] at hj
        simp [Lib.occAt, List.drop_eq_getElem_cons hls, Option.some.inj hj] at h3
      have hc : t.count sp = k := by
        rw [hs, List.count_append, List.count_cons, List.count_eq_zero.2 hni] at h
        simp at h
        omega
      have ih := splitK_pcs k t hc
      have hne : ¬ (Lib.index s [sp] == -1) = true := by rw [h1]; simp
      have e : Lib.splitK [sp] 0 (k + 1) s = s.take i :: Lib.splitK [sp] 0 k t := by
        rw [Lib.splitK, if_neg hne, h1, Int.toNat_natCast, Nat.add_zero, show ([sp] : List UInt8).length = 1 from rfl, ht2]
      rw [e]
      refine ⟨by simp, fun p hp => ?_, ?_⟩
      · rcases List.mem_cons.1 hp with rfl | hp
        · exact hni
        · exact ih.no p hp
      · rw [jn_cons _ ih.ne, ih.eq]; exact hs.symm
theorem jn_pre (q : List UInt8) : ∀ P : List (List UInt8), jn sp (P ++ [q]) = P.flatMap (fun p => p ++ [sp]) ++ q
  | [] => rfl
  | p :: P => by
    rw [List.cons_append, jn_cons p (by simp), jn_pre q P, List.flatMap_cons]
    simp
end Go.Proofs.YtjkjmpmefapnoaaGreatDoor
