
/- IsDistinct: the program: newChoosing, the walk. -/
import Derived.Test.YtgibbhipjpbdfaaGreatDdK
namespace Go.Proofs.YtgibbhipjpbdfaaGreat
open Go.RowKit
theorem pairs_row {w : World} {A : Option Addr} {n : Nat} {rs : List RowG} {m : Int} (h : RS w A n rs) (hp : pairsB (rs.map RowG.xs) m = true) (k : Nat) (hk : k < n) :
    ∃ b off r g o, ∃ i j : Nat, A = some ⟨b, off, none⟩ ∧ b < w.heap.size ∧ rs[k]? = some r ∧ r.xs = [(i : Int), (j : Int)] ∧ i < j ∧ (j : Int) ≤ m - 1 ∧ w.cell? ⟨b, off + k, none⟩ = some (.slice (some ⟨g, o, none⟩) 2 r.c) ∧ g < w.heap.size ∧ w.cell? ⟨g, o, none⟩ = some (.int .i64 (i : Int)) ∧ w.cell? ⟨g, o + 1, none⟩ = some (.int .i64 (j : Int)) := by
  obtain ⟨b, off, r, hA, hb, hr, s0, _, qc⟩ := h.get k hk
  have hrx : (rs.map RowG.xs)[k]? = some r.xs := by rw [List.getElem?_map, hr]; rfl
  obtain ⟨a, d, he, ha0, had, hdn⟩ := pairs_two hp hrx
  obtain ⟨i, rfl⟩ := Int.eq_ofNat_of_zero_le ha0
  obtain ⟨j, rfl⟩ := Int.eq_ofNat_of_zero_le (show 0 ≤ d by omega)
  rw [he] at s0 qc
  obtain ⟨g, o, hgA, hgl, ca, cd⟩ := two_cells s0 rfl
  rw [hgA, show ([(i : Int), (j : Int)] : List Int).length = 2 from rfl] at qc
  exact ⟨b, off, r, g, o, i, j, hA, hb, hr, he, by omega, hdn, qc, hgl, ca, cd⟩
theorem nn_sn {w : World} {base c n : Nat} {A : Option Addr} {gs : List Nat} {xs : List (Int × Int)} (h : NN w base (.slice A n c) gs xs) (hn : gs.length = n) : SN w w.heap.size A gs xs := by
  subst hn
  exact h.sn
/-- The lights before light t, by the pairs. -/
def befL (pss : List (List Int)) (t : Nat) : List Int := pss.flatMap fun p => match p with
  | [a, d] => if d = (t : Int) then [a] else []
  | _ => []
theorem befL_next {pss : List (List Int)} {k t : Nat} {a d : Int} (h : pss[k]? = some [a, d]) : befL (pss.take (k + 1)) t = befL (pss.take k) t ++ (if d = (t : Int) then [a] else []) := by
  rw [befL, List.take_add_one, h, List.flatMap_append]
  simp [befL]
/-- What the table's struct holds beside the table. -/
def FixY (ys : List Value) (m n g2 : Nat) : Prop := ys[0]? = some (.int .i64 (m : Int)) ∧ ys[1]? = some (.int .i64 (n : Int)) ∧ ys[2]? = some (.slice (some ⟨g2, 0, none⟩) m m) ∧ ys[147]? = some (.int .i64 0) ∧ ys[148]? = some (.int .i64 0) ∧ ys[149]? = some (.slice none 0 0)
theorem fix_set {ys : List Value} {m n g2 a b : Nat} {v : Value} (h : FixY ys m n g2) (ha : a < 12) (hb : b < 12) : FixY (ys.set (3 + a * 12 + b) v) m n g2 := by
  obtain ⟨h0, h1, h2, h3, h4, h5⟩ := h
  refine ⟨?_, ?_, ?_, ?_, ?_, ?_⟩ <;> rw [List.getElem?_set_ne (by omega)] <;> assumption
theorem Bef.grown {w w' : World} {base base' g g2 m : Nat} {rs : List RowG} {ys : List Value} (h : Bef w base g2 m rs) (hc : w.ownsRow base' 47 150 (.slice (some ⟨g, 0, none⟩) 1 1) 1 ys) (hg : w.grownBy w' (some g)) : Bef w' base g2 m rs :=
  ⟨own_grown h.out hg (own_ne h.out hc (by decide)), fun i r hr => own_grown (h.inn i r hr) hg (own_ne (h.inn i r hr) hc (by decide)), h.dif⟩
set_option maxRecDepth 100000 in
set_option maxHeartbeats 4000000 in
theorem newChoosing2_c (A0 : Option Addr) (n0 c0 : Nat) (rs : List RowG) (m : Nat) (A : Option Addr) (n c : Nat) (zs : List ChG) (tol : Int) (w : World) (h0 : RS w A0 n0 rs) (m0 : n0 ≤ 1048576)
    (hp : pairsB (rs.map RowG.xs) m = true) (h : ChS w A n zs) (hv : (zs.map ChG.x).all validB = true) (h12 : n ≤ 12) :
    Calls Tryz.prog 16 #[.slice A0 n0 c0, .int .i64 m, .slice A n c, .int .i64 tol] w fun e w' => ∃ (g : Nat) (ys : List Value) (T : Nat → Nat → Bool) (g2 : Nat) (rsb : List RowG), e = .returned (.pointer (some ⟨g, 0, none⟩)) ∧ Chz w' w.heap.size g ys ∧ TabIs ys T ∧ (∀ i j, i < n → j < n → T i j = tabB (clP (zs.map ChG.x) tol) i j) ∧ Below w.heap.size w w' ∧ FixY ys m n g2 ∧ Bef w' w.heap.size g2 m rsb ∧ (∀ t r, rsb[t]? = some r → r.xs = befL (rs.map RowG.xs) t) := by
  obtain ⟨i0, hi, hz0, hz1, hz2⟩ := info_parts drowsInfo
  obtain ⟨p0, hp0, hy0, hy1, hy2⟩ := info_parts intInfo
  have hm24 := (pairs_n hp).2
  have hB : i0.bytes * m ≤ 281474976710656 := by rw [hz2]; omega
  have hM : m ≤ maxLen := by unfold maxLen; omega
  have hCl : ∀ w1, Below w.heap.size w w1 → Calls Tryz.prog 31 #[.slice A n c, .int .i64 tol] w1 fun e w' => ∃ A' q c' gs, e = .returned (.slice A' q c') ∧ gs.length = q ∧ NN w' w1.heap.size (.slice A' q c') gs (allP (clP (zs.map ChG.x) tol) n n) ∧ Below w1.heap.size w1 w' := fun w1 hb => clashes_c A n c zs tol w1 (h.next hb) h12 hv
  have hsym := clP_symm (zs.map ChG.x) tol
  obtain ⟨p, hpe⟩ : ∃ p, clP (zs.map ChG.x) tol = p := ⟨_, rfl⟩
  rw [hpe]
  rw [hpe] at hCl hsym
  clear hpe h hv
  have HB := Lib.hid hB; clear hB
  have HM := Lib.hid hM; clear hM
  have HCl := Lib.hid hCl; clear hCl
  have HSy := Lib.hid hsym; clear hsym
  have HP := Lib.hid hp; clear hp
  have H0 := Lib.hid h0; clear h0
  go_enter Tryz.func16, Tryz.ntmps16
  go_wp2_with (at_make; refine wpList_make_full _ rfl _ _ _ rfl w.heap.size 28 i0 _ 1 Tryz.underlying24 hi hz0 hz1 _ _ _ _ m rfl rfl rfl rfl HB.out HM.out (Nat.le_refl _) ?_; intro w1 hown hgr)
  have hb1 : Below w.heap.size w w1 := (Below.refl _ _).grown hgr (Nat.le_refl _) (by simp)
  have hg1 : w.heap.size < w1.heap.size := (hown.lt _ rfl).2
  clear hgr
  obtain ⟨ys0, hys0⟩ : ∃ ys0, ys0 = [Value.int .i64 (m : Int), .int .i64 (n : Int), .slice (some ⟨w.heap.size, 0, none⟩) m m] ++ (List.replicate 144 (Value.bool false) ++ [.int .i64 0, .int .i64 0, .slice none 0 0]) := ⟨_, rfl⟩
  go_loopw [24] (fun i wr => ∃ (k : Nat) (rsb : List RowG), k ≤ n0 ∧ i = .int .i64 k ∧ Hid (Bef wr w.heap.size w.heap.size m rsb) ∧ Hid (∀ (t : Nat) (r : RowG), rsb[t]? = some r → r.xs.length ≤ k) ∧ Hid (∀ (t : Nat) (r : RowG), rsb[t]? = some r → r.xs = befL ((rs.map RowG.xs).take k) t) ∧ Chz wr w.heap.size w1.heap.size ys0 ∧ Below w.heap.size w wr) (fun i _ => n0 - (intOf i).toNat)
  case atStart =>
    have hbA := (Below.refl w1.heap.size w1).alloc (Nat.le_refl _)
    refine ⟨0, _, Nat.zero_le _, rfl, Lib.hid ((Bef.made hown).next (hbA _)), Lib.hid (fun t r hr => ?_), Lib.hid (fun t r hr => ?_), ?_, hb1.trans ((hbA _).mono hb1.size)⟩
    · have := List.mem_of_getElem? hr
      rw [List.mem_replicate] at this
      rw [this.2]; simp
    · have := List.mem_of_getElem? hr
      rw [List.mem_replicate] at this
      rw [this.2, List.take_zero]; rfl
    · rw [hys0]
      exact lit_own w1 w.heap.size 47 _ 1 150 hb1.size (by decide) rfl
  case round =>
    clear hown hb1
    obtain ⟨k, rsb, hk, rfl, HBf, HLe, HBc, hcz, hbw⟩ := hrel
    have k0 : (0 : Int) ≤ (k : Int) := by omega
    by_cases hlt : k < n0
    · have k1 : (k : Int) < (n0 : Int) := by omega
      obtain ⟨b, off, r, gp, o, i, j, rfl, hb, hr, he, hij, hjm, qc, hgp, ca, cd⟩ := pairs_row H0.out HP.out k hlt
      have qcr := (keepC hbw b hb (off + k)).trans qc
      have car := (keepC hbw gp hgp o).trans ca
      have cdr := (keepC hbw gp hgp (o + 1)).trans cd
      obtain ⟨q, hq⟩ : ∃ q, rsb[j]? = some q := ⟨_, List.getElem?_eq_getElem (by rw [HBf.out.len]; omega)⟩
      have c2 : wr.cell? ⟨w1.heap.size, 2, none⟩ = some (.slice (some ⟨w.heap.size, 0, none⟩) m m) := by rw [hcz.cellAt 2 (by omega), hys0]; rfl
      have cq : wr.cell? ⟨w.heap.size, j, none⟩ = some (.slice q.A q.xs.length q.c) := by
        have := HBf.out.out.cellAt j (by omega)
        rw [this]
        have e := flat_at RowG.cells 1 RowG.cells_len rsb j 0 q hq (by decide)
        simpa using e
      have hql := HLe.out j q hq
      have hgw := (HBf.out.out.lt _ rfl).2
      have j0 : (0 : Int) ≤ (j : Int) := by omega
      have j1 : (j : Int) < (m : Int) := by omega
      have i0' : (0 : Int) ≤ (i : Int) := by omega
      have e63 : q.xs.length + 1 ≤ maxLen := by unfold maxLen; omega
      have e32 : (q.xs.length + 1) * 8 ≤ 140737488355328 := by omega
      have hle : w.heap.size ≤ (wr.drew.alloc (.cells #[.int .i64 (i : Int)] 2)).heap.size := le_alloc (le_drew hbw.size) _
      have hle2 : wr.heap.size ≤ (wr.drew.alloc (.cells #[.int .i64 (i : Int)] 2)).heap.size := le_alloc (le_drew (Nat.le_refl _)) _
      have hbD : Below wr.heap.size wr wr.drew := (Below.refl _ _).drew
      have hbA : Below wr.heap.size wr (wr.drew.alloc (.cells #[.int .i64 (i : Int)] 2)) := (Below.refl wr.heap.size wr).drew.alloc (Nat.le_refl _) _
      have hczD := own_next hcz hbD
      have hczA := own_next hcz hbA
      have hqo := own_next (HBf.out.inn j q hq) hbA
      have hS : ∀ W, Below w.heap.size w W → Chz W w.heap.size w1.heap.size ys0 → (W.cell? ⟨gp, o, none⟩ = some (.int .i64 (i : Int)) ∧ W.cell? ⟨gp, o + 1, none⟩ = some (.int .i64 (j : Int)) ∧ W.cell? ⟨w1.heap.size, 2, none⟩ = some (.slice (some ⟨w.heap.size, 0, none⟩) m m)) := fun W hb' hc' => ⟨(keepC hb' gp hgp o).trans ca, (keepC hb' gp hgp (o + 1)).trans cd, by rw [hc'.cellAt 2 (by omega), hys0]; rfl⟩
      have hbwA := hbw.trans (hbA.mono hbw.size)
      have hbwD := hbw.trans (hbD.mono hbw.size)
      clear ca cd qc
      have E63 := Lib.hid e63; clear e63
      have E32 := Lib.hid e32; clear e32
      have HLE := Lib.hid hle; clear hle
      have HLE2 := Lib.hid hle2; clear hle2
      have HQ0 := Lib.hid hqo; clear hqo
      have HS := Lib.hid hS; clear hS
      have Hq := Lib.hid hq; clear hq
      have Hr := Lib.hid hr; clear hr
      have He := Lib.hid he; clear he
      go_wp2_with fail
      refine wp_region_held_drew (S := fun W => W.cell? ⟨gp, o, none⟩ = some (.int .i64 (i : Int)) ∧ W.cell? ⟨gp, o + 1, none⟩ = some (.int .i64 (j : Int)) ∧ W.cell? ⟨w1.heap.size, 2, none⟩ = some (.slice (some ⟨w.heap.size, 0, none⟩) m m)) (by kernel_rfl) (HS.out _ hbwD hczD) (fun hHeld => ?_)
      (first
        | (refine wpAnyH_take (i := 0) (v := ?_) rfl (by kernel_rfl) (by kernel_rfl) (by kernel_rfl) (fun _ _ _ h => h) (Or.inl ⟨by rfl, ?_⟩) (by assumption) ?_
           rotate_left
           focus (intro wq hSq; (try dsimp only at hSq); go_simp; (try (with_reducible rfl)); done))
        | (refine wpAnyH_take (i := 0) (v := undef) rfl (by kernel_rfl) (by kernel_rfl) (by kernel_rfl) (fun _ _ _ h => h) (Or.inr ⟨by rfl, rfl⟩) (by assumption) ?_)
        | fail "take 0")
      try simp only [Act.put, List.setIfInBounds_toArray, List.set_cons_zero, List.set_cons_succ, List.getElem_toArray, List.getElem_cons_zero]
      (first
        | (refine wpAnyH_take (i := 1) (v := ?_) rfl (by kernel_rfl) (by kernel_rfl) (by kernel_rfl) (fun _ _ _ h => h) (Or.inl ⟨by rfl, ?_⟩) (by assumption) ?_
           rotate_left
           focus (intro wq hSq; (try dsimp only at hSq); go_simp; (try (with_reducible rfl)); done))
        | (refine wpAnyH_take (i := 1) (v := undef) rfl (by kernel_rfl) (by kernel_rfl) (by kernel_rfl) (fun _ _ _ h => h) (Or.inr ⟨by rfl, rfl⟩) (by assumption) ?_)
        | fail "take 1")
      try simp only [Act.put, List.setIfInBounds_toArray, List.set_cons_zero, List.set_cons_succ, List.getElem_toArray, List.getElem_cons_zero, List.getElem_cons_succ]
      (first
        | (refine wpAnyH_take (i := 2) (v := ?_) rfl (by kernel_rfl) (by kernel_rfl) (by kernel_rfl) (fun _ _ _ h => h) (Or.inl ⟨by rfl, ?_⟩) (by assumption) ?_
           rotate_left
           focus (intro wq hSq; (try dsimp only at hSq); go_simp; (try (with_reducible rfl)); done))
        | (refine wpAnyH_take (i := 2) (v := undef) rfl (by kernel_rfl) (by kernel_rfl) (by kernel_rfl) (fun _ _ _ h => h) (Or.inr ⟨by rfl, rfl⟩) (by assumption) ?_)
        | fail "take 2")
      try simp only [Act.put, List.setIfInBounds_toArray, List.set_cons_zero, List.set_cons_succ, List.getElem_toArray, List.getElem_cons_zero, List.getElem_cons_succ]
      (first
        | (refine wpAnyH_take (i := 3) (v := ?_) rfl (by kernel_rfl) (by kernel_rfl) (by kernel_rfl) (fun _ _ _ h => h) (Or.inl ⟨by rfl, ?_⟩) (by assumption) ?_
           rotate_left
           focus (intro wq hSq; (try dsimp only at hSq); go_simp; (try (with_reducible rfl)); done))
        | (refine wpAnyH_take (i := 3) (v := undef) rfl (by kernel_rfl) (by kernel_rfl) (by kernel_rfl) (fun _ _ _ h => h) (Or.inr ⟨by rfl, rfl⟩) (by assumption) ?_)
        | fail "take 3")
      try simp only [Act.put, List.setIfInBounds_toArray, List.set_cons_zero, List.set_cons_succ, List.getElem_toArray, List.getElem_cons_zero, List.getElem_cons_succ]
      (first
        | (refine wpAnyH_take (i := 4) (v := ?_) rfl (by kernel_rfl) (by kernel_rfl) (by kernel_rfl) (fun _ _ _ h => h) (Or.inl ⟨by rfl, ?_⟩) (by assumption) ?_
           rotate_left
           focus (intro wq hSq; (try dsimp only at hSq); go_simp; (try (with_reducible rfl)); done))
        | (refine wpAnyH_take (i := 4) (v := undef) rfl (by kernel_rfl) (by kernel_rfl) (by kernel_rfl) (fun _ _ _ h => h) (Or.inr ⟨by rfl, rfl⟩) (by assumption) ?_)
        | fail "take 4")
      try simp only [Act.put, List.setIfInBounds_toArray, List.set_cons_zero, List.set_cons_succ, List.getElem_toArray, List.getElem_cons_zero, List.getElem_cons_succ]
      (first
        | (refine wpAnyH_take (i := 5) (v := ?_) rfl (by kernel_rfl) (by kernel_rfl) (by kernel_rfl) (fun _ _ _ h => h) (Or.inl ⟨by rfl, ?_⟩) (by assumption) ?_
           rotate_left
           focus (intro wq hSq; (try dsimp only at hSq); go_simp; (try (with_reducible rfl)); done))
        | (refine wpAnyH_take (i := 5) (v := undef) rfl (by kernel_rfl) (by kernel_rfl) (by kernel_rfl) (fun _ _ _ h => h) (Or.inr ⟨by rfl, rfl⟩) (by assumption) ?_)
        | fail "take 5")
      try simp only [Act.put, List.setIfInBounds_toArray, List.set_cons_zero, List.set_cons_succ, List.getElem_toArray, List.getElem_cons_zero, List.getElem_cons_succ]
      (first
        | (refine wpAnyH_take (i := 6) (v := ?_) rfl (by kernel_rfl) (by kernel_rfl) (by kernel_rfl) (fun _ _ _ h => h) (Or.inl ⟨by rfl, ?_⟩) (by assumption) ?_
           rotate_left
           focus (intro wq hSq; (try dsimp only at hSq); go_simp; (try (with_reducible rfl)); done))
        | (refine wpAnyH_take (i := 6) (v := undef) rfl (by kernel_rfl) (by kernel_rfl) (by kernel_rfl) (fun _ _ _ h => h) (Or.inr ⟨by rfl, rfl⟩) (by assumption) ?_)
        | fail "take 6")
      try simp only [Act.put, List.setIfInBounds_toArray, List.set_cons_zero, List.set_cons_succ, List.getElem_toArray, List.getElem_cons_zero, List.getElem_cons_succ]
      (first
        | (refine wpAnyH_take (i := 7) (v := ?_) rfl (by kernel_rfl) (by kernel_rfl) (by kernel_rfl) (fun _ _ _ h => h) (Or.inl ⟨by rfl, ?_⟩) (by assumption) ?_
           rotate_left
           focus (intro wq hSq; (try dsimp only at hSq); go_simp; (try (with_reducible rfl)); done))
        | (refine wpAnyH_take (i := 7) (v := undef) rfl (by kernel_rfl) (by kernel_rfl) (by kernel_rfl) (fun _ _ _ h => h) (Or.inr ⟨by rfl, rfl⟩) (by assumption) ?_)
        | fail "take 7")
      try simp only [Act.put, List.setIfInBounds_toArray, List.set_cons_zero, List.set_cons_succ, List.getElem_toArray, List.getElem_cons_zero, List.getElem_cons_succ]
      (first
        | (refine wpAnyH_take (i := 8) (v := ?_) rfl (by kernel_rfl) (by kernel_rfl) (by kernel_rfl) (fun _ _ _ h => h) (Or.inl ⟨by rfl, ?_⟩) (by assumption) ?_
           rotate_left
           focus (intro wq hSq; (try dsimp only at hSq); go_simp; (try (with_reducible rfl)); done))
        | (refine wpAnyH_take (i := 8) (v := undef) rfl (by kernel_rfl) (by kernel_rfl) (by kernel_rfl) (fun _ _ _ h => h) (Or.inr ⟨by rfl, rfl⟩) (by assumption) ?_)
        | fail "take 8")
      try simp only [Act.put, List.setIfInBounds_toArray, List.set_cons_zero, List.set_cons_succ, List.getElem_toArray, List.getElem_cons_zero, List.getElem_cons_succ]
      (first
        | (refine wpAnyH_take (i := 9) (v := ?_) rfl (by kernel_rfl) (by kernel_rfl) (by kernel_rfl) (fun _ _ _ h => h) (Or.inl ⟨by rfl, ?_⟩) (by assumption) ?_
           rotate_left
           focus (intro wq hSq; (try dsimp only at hSq); go_simp; (try (with_reducible rfl)); done))
        | (refine wpAnyH_take (i := 9) (v := undef) rfl (by kernel_rfl) (by kernel_rfl) (by kernel_rfl) (fun _ _ _ h => h) (Or.inr ⟨by rfl, rfl⟩) (by assumption) ?_)
        | fail "take 9")
      try simp only [Act.put, List.setIfInBounds_toArray, List.set_cons_zero, List.set_cons_succ, List.getElem_toArray, List.getElem_cons_zero, List.getElem_cons_succ]
      (first
        | (refine wpAnyH_take (i := 10) (v := ?_) rfl (by kernel_rfl) (by kernel_rfl) (by kernel_rfl) (fun _ _ _ h => h) (Or.inl ⟨by rfl, ?_⟩) (by assumption) ?_
           rotate_left
           focus (intro wq hSq; (try dsimp only at hSq); go_simp; (try (with_reducible rfl)); done))
        | (refine wpAnyH_take (i := 10) (v := undef) rfl (by kernel_rfl) (by kernel_rfl) (by kernel_rfl) (fun _ _ _ h => h) (Or.inr ⟨by rfl, rfl⟩) (by assumption) ?_)
        | fail "take 10")
      try simp only [Act.put, List.setIfInBounds_toArray, List.set_cons_zero, List.set_cons_succ, List.getElem_toArray, List.getElem_cons_zero, List.getElem_cons_succ]
      (first
        | (refine wpAnyH_take (i := 11) (v := ?_) rfl (by kernel_rfl) (by kernel_rfl) (by kernel_rfl) (fun _ _ _ h => h) (Or.inl ⟨by rfl, ?_⟩) (by assumption) ?_
           rotate_left
           focus (intro wq hSq; (try dsimp only at hSq); go_simp; (try (with_reducible rfl)); done))
        | (refine wpAnyH_take (i := 11) (v := undef) rfl (by kernel_rfl) (by kernel_rfl) (by kernel_rfl) (fun _ _ _ h => h) (Or.inr ⟨by rfl, rfl⟩) (by assumption) ?_)
        | fail "take 11")
      try simp only [Act.put, List.setIfInBounds_toArray, List.set_cons_zero, List.set_cons_succ, List.getElem_toArray, List.getElem_cons_zero, List.getElem_cons_succ]
      (first
        | (refine wpAnyH_take (i := 12) (v := ?_) rfl (by kernel_rfl) (by kernel_rfl) (by kernel_rfl) (fun _ _ _ h => h) (Or.inl ⟨by rfl, ?_⟩) (by assumption) ?_
           rotate_left
           focus (intro wq hSq; (try dsimp only at hSq); go_simp; (try (with_reducible rfl)); done))
        | (refine wpAnyH_take (i := 12) (v := undef) rfl (by kernel_rfl) (by kernel_rfl) (by kernel_rfl) (fun _ _ _ h => h) (Or.inr ⟨by rfl, rfl⟩) (by assumption) ?_)
        | fail "take 12")
      try simp only [Act.put, List.setIfInBounds_toArray, List.set_cons_zero, List.set_cons_succ, List.getElem_toArray, List.getElem_cons_zero, List.getElem_cons_succ]
      (first
        | (refine wpAnyH_take (i := 13) (v := ?_) rfl (by kernel_rfl) (by kernel_rfl) (by kernel_rfl) (fun _ _ _ h => h) (Or.inl ⟨by rfl, ?_⟩) (by assumption) ?_
           rotate_left
           focus (intro wq hSq; (try dsimp only at hSq); go_simp; (try (with_reducible rfl)); done))
        | (refine wpAnyH_take (i := 13) (v := undef) rfl (by kernel_rfl) (by kernel_rfl) (by kernel_rfl) (fun _ _ _ h => h) (Or.inr ⟨by rfl, rfl⟩) (by assumption) ?_)
        | fail "take 13")
      try simp only [Act.put, List.setIfInBounds_toArray, List.set_cons_zero, List.set_cons_succ, List.getElem_toArray, List.getElem_cons_zero, List.getElem_cons_succ]
      (first
        | (refine wpAnyH_take (i := 14) (v := ?_) rfl (by kernel_rfl) (by kernel_rfl) (by kernel_rfl) (fun _ _ _ h => h) (Or.inl ⟨by rfl, ?_⟩) (by assumption) ?_
           rotate_left
           focus (intro wq hSq; (try dsimp only at hSq); go_simp; (try (with_reducible rfl)); done))
        | (refine wpAnyH_take (i := 14) (v := undef) rfl (by kernel_rfl) (by kernel_rfl) (by kernel_rfl) (fun _ _ _ h => h) (Or.inr ⟨by rfl, rfl⟩) (by assumption) ?_)
        | fail "take 14")
      try simp only [Act.put, List.setIfInBounds_toArray, List.set_cons_zero, List.set_cons_succ, List.getElem_toArray, List.getElem_cons_zero, List.getElem_cons_succ]
      (first
        | (refine wpAnyH_take (i := 16) (v := ?_) rfl (by kernel_rfl) (by kernel_rfl) (by kernel_rfl) (fun _ _ _ h => h) (Or.inl ⟨by rfl, ?_⟩) (by assumption) ?_
           rotate_left
           focus (intro wq hSq; (try dsimp only at hSq); go_simp; (try (with_reducible rfl)); done))
        | (refine wpAnyH_take (i := 16) (v := undef) rfl (by kernel_rfl) (by kernel_rfl) (by kernel_rfl) (fun _ _ _ h => h) (Or.inr ⟨by rfl, rfl⟩) (by assumption) ?_)
        | fail "take 16")
      try simp only [Act.put, List.setIfInBounds_toArray, List.set_cons_zero, List.set_cons_succ, List.getElem_toArray, List.getElem_cons_zero, List.getElem_cons_succ]
      (first
        | (refine wpAnyH_take (i := 17) (v := ?_) rfl (by kernel_rfl) (by kernel_rfl) (by kernel_rfl) (fun _ _ _ h => h) (Or.inl ⟨by rfl, ?_⟩) (by assumption) ?_
           rotate_left
           focus (intro wq hSq; (try dsimp only at hSq); go_simp; (try (with_reducible rfl)); done))
        | (refine wpAnyH_take (i := 17) (v := undef) rfl (by kernel_rfl) (by kernel_rfl) (by kernel_rfl) (fun _ _ _ h => h) (Or.inr ⟨by rfl, rfl⟩) (by assumption) ?_)
        | fail "take 17")
      try simp only [Act.put, List.setIfInBounds_toArray, List.set_cons_zero, List.set_cons_succ, List.getElem_toArray, List.getElem_cons_zero, List.getElem_cons_succ]
      (first
        | (refine wpAnyH_take (i := 18) (v := ?_) rfl (by kernel_rfl) (by kernel_rfl) (by kernel_rfl) (fun _ _ _ h => h) (Or.inl ⟨by rfl, ?_⟩) (by assumption) ?_
           rotate_left
           focus (intro wq hSq; (try dsimp only at hSq); go_simp; (try (with_reducible rfl)); done))
        | (refine wpAnyH_take (i := 18) (v := undef) rfl (by kernel_rfl) (by kernel_rfl) (by kernel_rfl) (fun _ _ _ h => h) (Or.inr ⟨by rfl, rfl⟩) (by assumption) ?_)
        | fail "take 18")
      try simp only [Act.put, List.setIfInBounds_toArray, List.set_cons_zero, List.set_cons_succ, List.getElem_toArray, List.getElem_cons_zero, List.getElem_cons_succ]
      refine wpAnyH_ready (rs := [15, 19]) (by kernel_rfl) (by simp) ?_
      refine AllReadyH.cons (o := _) rfl (fun K hK => ?_) (AllReadyH.cons (o := _) rfl (fun K hK => ?_) AllReadyH.nil)
      · go_simp
        skip
        refine hK.out _ _ ?_ (fun hHeld => ?_)
        · exact HS.out _ hbwD hczD
        clear hK K
        try simp only [Act.put, List.setIfInBounds_toArray, List.set_cons_zero, List.set_cons_succ, List.getElem_toArray, List.getElem_cons_zero, List.getElem_cons_succ]
        refine wpAnyH_ready (rs := [19]) (by kernel_rfl) (by simp) ?_
        refine AllReadyH.cons (o := _) rfl (fun K hK => ?_) AllReadyH.nil
        go_simp
        skip
        refine hK.out _ _ ?_ (fun hHeld => ?_)
        · exact HS.out _ hbwA hczA
        clear hK K
        try simp only [Act.put, List.setIfInBounds_toArray, List.set_cons_zero, List.set_cons_succ, List.getElem_toArray, List.getElem_cons_zero, List.getElem_cons_succ]
        refine wpAnyH_ready (rs := [20]) (by kernel_rfl) (by simp) ?_
        refine AllReadyH.cons (o := _) rfl (fun K hK => ?_) AllReadyH.nil
        refine step_append _ rfl (.tmp 43) (.tmp 47) _ rfl w.heap.size 2 p0 _ 1 8 Tryz.underlying28 hp0 hy0 hy1 hy2 rfl (by omega) _ q.xs.length _ rfl (HQ0.out) (wr.drew.heap.size + 1) (some ⟨wr.drew.heap.size, 0, none⟩) 1 1 (intC (i : Int)) rfl (Sl.new wr.drew 2 _ 1 1 rfl) (intC_one _) E63.out E32.out HLE.out ?_
        intro v4 w4 ho4 hg4 hat4
        obtain ⟨A4, c4, rfl⟩ := own_slice ho4
        have hbf0 := HBf.out.next hbA
        have hne4 := own_ne hbf0.out (hbf0.inn j q Hq.out) (by decide)
        have out4 := own_grown hbf0.out hg4 hne4
        have hcz4 := own_grown hczA hg4 (own_ne hczA (hbf0.inn j q Hq.out) (by decide))
        have hb4 : Below w.heap.size w w4 := (hbw.trans (hbA.mono hbw.size)).grown hg4 HLE.out fun g hg => ((hbf0.inn j q Hq.out).lt g hg).1
        refine hK.out _ _ (HS.out _ hb4 hcz4) (fun hHeld => ?_)
        clear hK K
        try simp only [Act.put, List.setIfInBounds_toArray, List.set_cons_zero, List.set_cons_succ, List.getElem_toArray, List.getElem_cons_zero, List.getElem_cons_succ]
        obtain ⟨y5, f5⟩ := own_cell out4 j (by omega)
        have z5 := out4.frozenAt
        have s5 := out4.stored j (.slice A4 (q.xs.length + 1) c4)
        have hcz5 := own_grown hcz4 s5.2 (own_ne hcz4 out4 (by decide))
        have hb5 : Below w.heap.size w (w4.setCell ⟨w.heap.size, j, none⟩ (.slice A4 (q.xs.length + 1) c4)) := hb4.setCell (Nat.le_refl _) _
        have HBn := Lib.hid (HBf.out.push (a := (i : Int)) Hq.out hbA HLE2.out hg4 ho4 hat4)
        clear hbf0 hne4 ho4 hg4 hat4 out4 s5 hcz4 hb4
        (first
          | (refine wpAnyH_take (i := 21) (v := ?_) rfl (by kernel_rfl) (by kernel_rfl) (by kernel_rfl) (fun _ _ _ h => h) (Or.inl ⟨by rfl, ?_⟩) (by assumption) ?_
             rotate_left
             focus (intro wq hSq; (try dsimp only at hSq); go_simp; (try (with_reducible rfl)); done))
          | (refine wpAnyH_take (i := 21) (v := undef) rfl (by kernel_rfl) (by kernel_rfl) (by kernel_rfl) (fun _ _ _ h => h) (Or.inr ⟨by rfl, rfl⟩) (by assumption) ?_)
          | fail "take 21")
        try simp only [Act.put, List.setIfInBounds_toArray, List.set_cons_zero, List.set_cons_succ, List.getElem_toArray, List.getElem_cons_zero, List.getElem_cons_succ]
        refine wpAnyH_ready (rs := [22]) (by kernel_rfl) (by simp) ?_
        refine AllReadyH.cons (o := _) rfl (fun K hK => ?_) AllReadyH.nil
        go_simp
        skip
        refine hK.out _ _ ?_ (fun hHeld => ?_)
        · exact HS.out _ hb5 hcz5
        clear hK K
        try simp only [Act.put, List.setIfInBounds_toArray, List.set_cons_zero, List.set_cons_succ, List.getElem_toArray, List.getElem_cons_zero, List.getElem_cons_succ]
        refine wpAnyH_done (by kernel_rfl) ?_ _
        clear hHeld
        go_wp2_with fail
        go_roundw
        case rel =>
          have hrx : (rs.map RowG.xs)[k]? = some [(i : Int), (j : Int)] := by rw [List.getElem?_map, Hr.out]; exact congrArg some He.out
          refine ⟨k + 1, _, by omega, by go_num, HBn, Lib.hid (fun t r' hr' => ?_), Lib.hid (fun t r' hr' => ?_), hcz5, hb5⟩
          · by_cases htj : t = j
            · subst htj
              rw [List.getElem?_set_self (List.getElem?_eq_some_iff.1 Hq.out).1] at hr'
              injection hr' with hr'
              subst hr'
              rw [List.length_append]
              have := HLe.out t q Hq.out
              simp only [List.length_cons, List.length_nil]
              omega
            · rw [List.getElem?_set_ne (Ne.symm htj)] at hr'
              have := HLe.out t r' hr'
              omega
          · rw [befL_next hrx]
            by_cases htj : t = j
            · subst htj
              rw [List.getElem?_set_self (List.getElem?_eq_some_iff.1 Hq.out).1] at hr'
              injection hr' with hr'
              subst hr'
              rw [if_pos rfl, ← HBc.out t q Hq.out]
            · rw [List.getElem?_set_ne (Ne.symm htj)] at hr'
              rw [if_neg (by omega), List.append_nil]
              exact HBc.out t r' hr'
        case measure => simp [intOf]; omega
      · go_simp
        skip
        refine hK.out _ _ ?_ (fun hHeld => ?_)
        · exact HS.out _ hbwA hczA
        clear hK K
        try simp only [Act.put, List.setIfInBounds_toArray, List.set_cons_zero, List.set_cons_succ, List.getElem_toArray, List.getElem_cons_zero, List.getElem_cons_succ]
        have cqA := (keepC ((Below.refl wr.heap.size wr).alloc (Nat.le_refl _) (.cells #[.int .i64 (i : Int)] 2)) w.heap.size hgw j).trans cq
        refine wpAnyH_ready (rs := [15]) (by kernel_rfl) (by simp) ?_
        refine AllReadyH.cons (o := _) rfl (fun K hK => ?_) AllReadyH.nil
        go_simp
        skip
        refine hK.out _ _ ?_ (fun hHeld => ?_)
        · exact HS.out _ hbwA hczA
        clear hK K
        try simp only [Act.put, List.setIfInBounds_toArray, List.set_cons_zero, List.set_cons_succ, List.getElem_toArray, List.getElem_cons_zero, List.getElem_cons_succ]
        refine wpAnyH_ready (rs := [20]) (by kernel_rfl) (by simp) ?_
        refine AllReadyH.cons (o := _) rfl (fun K hK => ?_) AllReadyH.nil
        refine step_append _ rfl (.tmp 43) (.tmp 47) _ rfl w.heap.size 2 p0 _ 1 8 Tryz.underlying28 hp0 hy0 hy1 hy2 rfl (by omega) _ q.xs.length _ rfl (HQ0.out) (wr.drew.heap.size + 1) (some ⟨wr.drew.heap.size, 0, none⟩) 1 1 (intC (i : Int)) rfl (Sl.new wr.drew 2 _ 1 1 rfl) (intC_one _) E63.out E32.out HLE.out ?_
        intro v4 w4 ho4 hg4 hat4
        obtain ⟨A4, c4, rfl⟩ := own_slice ho4
        have hbf0 := HBf.out.next hbA
        have hne4 := own_ne hbf0.out (hbf0.inn j q Hq.out) (by decide)
        have out4 := own_grown hbf0.out hg4 hne4
        have hcz4 := own_grown hczA hg4 (own_ne hczA (hbf0.inn j q Hq.out) (by decide))
        have hb4 : Below w.heap.size w w4 := (hbw.trans (hbA.mono hbw.size)).grown hg4 HLE.out fun g hg => ((hbf0.inn j q Hq.out).lt g hg).1
        refine hK.out _ _ (HS.out _ hb4 hcz4) (fun hHeld => ?_)
        clear hK K
        try simp only [Act.put, List.setIfInBounds_toArray, List.set_cons_zero, List.set_cons_succ, List.getElem_toArray, List.getElem_cons_zero, List.getElem_cons_succ]
        obtain ⟨y5, f5⟩ := own_cell out4 j (by omega)
        have z5 := out4.frozenAt
        have s5 := out4.stored j (.slice A4 (q.xs.length + 1) c4)
        have hcz5 := own_grown hcz4 s5.2 (own_ne hcz4 out4 (by decide))
        have hb5 : Below w.heap.size w (w4.setCell ⟨w.heap.size, j, none⟩ (.slice A4 (q.xs.length + 1) c4)) := hb4.setCell (Nat.le_refl _) _
        have HBn := Lib.hid (HBf.out.push (a := (i : Int)) Hq.out hbA HLE2.out hg4 ho4 hat4)
        clear hbf0 hne4 ho4 hg4 hat4 out4 s5 hcz4 hb4
        (first
          | (refine wpAnyH_take (i := 21) (v := ?_) rfl (by kernel_rfl) (by kernel_rfl) (by kernel_rfl) (fun _ _ _ h => h) (Or.inl ⟨by rfl, ?_⟩) (by assumption) ?_
             rotate_left
             focus (intro wq hSq; (try dsimp only at hSq); go_simp; (try (with_reducible rfl)); done))
          | (refine wpAnyH_take (i := 21) (v := undef) rfl (by kernel_rfl) (by kernel_rfl) (by kernel_rfl) (fun _ _ _ h => h) (Or.inr ⟨by rfl, rfl⟩) (by assumption) ?_)
          | fail "take 21")
        try simp only [Act.put, List.setIfInBounds_toArray, List.set_cons_zero, List.set_cons_succ, List.getElem_toArray, List.getElem_cons_zero, List.getElem_cons_succ]
        refine wpAnyH_ready (rs := [22]) (by kernel_rfl) (by simp) ?_
        refine AllReadyH.cons (o := _) rfl (fun K hK => ?_) AllReadyH.nil
        go_simp
        skip
        refine hK.out _ _ ?_ (fun hHeld => ?_)
        · exact HS.out _ hb5 hcz5
        clear hK K
        try simp only [Act.put, List.setIfInBounds_toArray, List.set_cons_zero, List.set_cons_succ, List.getElem_toArray, List.getElem_cons_zero, List.getElem_cons_succ]
        refine wpAnyH_done (by kernel_rfl) ?_ _
        clear hHeld
        go_wp2_with fail
        go_roundw
        case rel =>
          have hrx : (rs.map RowG.xs)[k]? = some [(i : Int), (j : Int)] := by rw [List.getElem?_map, Hr.out]; exact congrArg some He.out
          refine ⟨k + 1, _, by omega, by go_num, HBn, Lib.hid (fun t r' hr' => ?_), Lib.hid (fun t r' hr' => ?_), hcz5, hb5⟩
          · by_cases htj : t = j
            · subst htj
              rw [List.getElem?_set_self (List.getElem?_eq_some_iff.1 Hq.out).1] at hr'
              injection hr' with hr'
              subst hr'
              rw [List.length_append]
              have := HLe.out t q Hq.out
              simp only [List.length_cons, List.length_nil]
              omega
            · rw [List.getElem?_set_ne (Ne.symm htj)] at hr'
              have := HLe.out t r' hr'
              omega
          · rw [befL_next hrx]
            by_cases htj : t = j
            · subst htj
              rw [List.getElem?_set_self (List.getElem?_eq_some_iff.1 Hq.out).1] at hr'
              injection hr' with hr'
              subst hr'
              rw [if_pos rfl, ← HBc.out t q Hq.out]
            · rw [List.getElem?_set_ne (Ne.symm htj)] at hr'
              rw [if_neg (by omega), List.append_nil]
              exact HBc.out t r' hr'
        case measure => simp [intOf]; omega
    · obtain rfl : k = n0 := by omega
      clear HLe
      have HBd : Hid (∀ (t : Nat) (r : RowG), rsb[t]? = some r → r.xs = befL (rs.map RowG.xs) t) := Lib.hid fun t r hr => by
        have h1 := HBc.out t r hr
        rwa [List.take_of_length_le (by rw [List.length_map, H0.out.len]; omega)] at h1
      clear HBc
      have hfx0 : FixY ys0 m n w.heap.size := by
        rw [hys0]
        exact ⟨rfl, rfl, rfl, rfl, rfl, rfl⟩
      have HFx := Lib.hid hfx0
      clear hfx0
      have ht0 : TabIs ys0 (fun _ _ => false) := by
        intro i j hi hj
        rw [hys0, List.getElem?_append_right (by simp; omega), List.getElem?_append_left (by simp; omega), List.getElem?_replicate, if_pos (by simp; omega)]
      clear hys0
      have HT0 := Lib.hid ht0; clear ht0
      go_wp2_with fail
      go_loopw [53] (fun i wr => ∃ (t : Nat) (ys : List Value) (T : Nat → Nat → Bool), t ≤ n ∧ i = .int .i64 t ∧ Chz wr w.heap.size w1.heap.size ys ∧ Hid (TabIs ys T) ∧ Hid (∀ i j, T i j = decide (i = j ∧ i < t)) ∧ Hid (FixY ys m n w.heap.size) ∧ Hid (Bef wr w.heap.size w.heap.size m rsb) ∧ Below w.heap.size w wr) (fun i _ => n - (intOf i).toNat)
      case atStart => exact ⟨0, ys0, fun _ _ => false, Nat.zero_le _, rfl, hcz, HT0, Lib.hid (fun i j => by simp), HFx, HBf, hbw⟩
      case round =>
        clear hcz hbw HT0 HFx HBf
        obtain ⟨t, ys, T, ht, rfl, hcz, HT, HTe, HFx, HBf, hbw⟩ := hrel
        have t0 : (0 : Int) ≤ (t : Int) := by omega
        by_cases hlt2 : t < n
        · have t1 : (t : Int) < (n : Int) := by omega
          have t2 : (t : Int) < 12 := by omega
          have t3 : t < 12 := by omega
          have hgb : w.heap.size ≤ w1.heap.size := (hcz.lt w1.heap.size rfl).1
          obtain ⟨y5, f5⟩ := own_cell hcz (3 + t * 12 + t) (by omega)
          have z5 := hcz.frozenAt
          have s5 := hcz.stored (3 + t * 12 + t) (.bool true)
          have hb5 : Below w.heap.size w (wr.setCell ⟨w1.heap.size, 3 + t * 12 + t, none⟩ (.bool true)) := hbw.setCell (by dsimp only; omega) _
          have HTn := Lib.hid (tab_set HT.out t3 t3)
          have HFn := Lib.hid (fix_set (v := .bool true) HFx.out t3 t3)
          have HBn := Lib.hid (HBf.out.grown hcz s5.2)
          have S5 := Lib.hid s5; clear s5
          go_wp2_with fail
          go_roundw
          case rel =>
            refine ⟨t + 1, _, _, by omega, by go_num, S5.out.1, HTn, Lib.hid (fun i j => ?_), HFn, HBn, hb5⟩
            rw [HTe.out, Bool.eq_iff_iff]
            simp only [Bool.or_eq_true, decide_eq_true_eq]
            omega
          case measure => simp [intOf]; omega
        · obtain rfl : t = n := by omega
          have hHT := HTe.out
          clear HTe
          go_wp2_with fail
          refine (HCl.out _ hbw).mono ?_
          rintro e w5 ⟨A5, q5, c5, gs, rfl, hgs, hN, hb5⟩
          have hcz5 := own_next hcz hb5
          have HB5 := Lib.hid (HBf.out.next hb5)
          have hgw : w1.heap.size < wr.heap.size := (hcz.lt w1.heap.size rfl).2
          have hgb : w.heap.size ≤ w1.heap.size := (hcz.lt w1.heap.size rfl).1
          have hbw5 := hbw.trans (hb5.mono hbw.size)
          have hLn := hN.len
          obtain ⟨bs, hbs⟩ : ∃ bs, wr.heap.size = bs := ⟨_, rfl⟩
          rw [hbs] at hN hgw
          obtain ⟨L, hL⟩ : ∃ L, allP p t t = L := ⟨_, rfl⟩
          rw [hL] at hN hLn
          have hq5 : q5 ≤ 144 := by
            have h1 := allP_len p t t
            have h2 : t * t ≤ 12 * 12 := Nat.mul_le_mul h12 h12
            rw [hL] at h1
            omega
          have hLm : ∀ x ∈ L, ∃ a b : Nat, x = ((a : Int), (b : Int)) ∧ a < t ∧ b < t := fun x hx => by
            rw [← hL] at hx
            obtain ⟨a, b, e, h1, h2, h3, _⟩ := (mem_allP t x).1 hx
            exact ⟨a, b, e, h1, h3⟩
          have hfin : ∀ i j, i < t → j < t → tabL t L i j = tabB p i j := fun i j h1 h2 => by rw [← hL]; exact tab_all HSy.out h1 h2
          have HLm := Lib.hid hLm; clear hLm
          have HF := Lib.hid hfin; clear hfin
          have HN := Lib.hid hN; clear hN
          have HHT := Lib.hid hHT; clear hHT
          have HL := Lib.hid hL; clear hL
          clear hcz hbw hb5 HBf
          go_wp2_with fail
          go_loopw [68] (fun i wr2 => ∃ (s : Nat) (ys : List Value) (T : Nat → Nat → Bool), s ≤ q5 ∧ i = .int .i64 s ∧ Chz wr2 w.heap.size w1.heap.size ys ∧ Hid (TabIs ys T) ∧ Hid (∀ i j, T i j = tabL t (L.take s) i j) ∧ Hid (FixY ys m t w.heap.size) ∧ Hid (Bef wr2 w.heap.size w.heap.size m rsb) ∧ Rng w1.heap.size (w1.heap.size + 1) w5 wr2 ∧ Below w.heap.size w wr2) (fun i _ => q5 - (intOf i).toNat)
          case atStart => exact ⟨0, ys, T, Nat.zero_le _, rfl, hcz5, HT, Lib.hid (fun i j => by rw [HHT.out]; simp [tabL]), HFx, HB5, Rng.refl _ _ _, hbw5⟩
          case round =>
            clear hcz5 hbw5 HT HFx HB5
            obtain ⟨s, ys, T, hs, rfl, hcz, HT, HTe, HFx, HBf, hrg, hbw⟩ := hrel
            have s0 : (0 : Int) ≤ (s : Int) := by omega
            by_cases hlt3 : s < q5
            · have s1 : (s : Int) < (q5 : Int) := by omega
              have hNN := HN.out.rng hrg (by omega)
              obtain ⟨b, off, gq, x, rfl, hb, hgq, hx, qc, _⟩ := (nn_sn hNN hgs).get s (by rw [hgs]; exact hlt3)
              obtain ⟨a, d, rfl, ha, hd⟩ := HLm.out x (List.mem_of_getElem? hx)
              have a12 : a < 12 := by omega
              have d12 : d < 12 := by omega
              have a0 : (0 : Int) ≤ (a : Int) := by omega
              have a1 : (a : Int) < 12 := by omega
              have d0 : (0 : Int) ≤ (d : Int) := by omega
              have d1 : (d : Int) < 12 := by omega
              have hS : ∀ W, Rng w1.heap.size (w1.heap.size + 1) w5 W → (W.cell? ⟨gq, 0, none⟩ = some (.int .i64 (a : Int)) ∧ W.cell? ⟨gq, 1, none⟩ = some (.int .i64 (d : Int))) := fun W hr => by
                have hI := (HN.out.rng hr (by omega)).inn s gq _ hgq hx
                exact ⟨(hI.cellAt 0 (by omega)).trans rfl, (hI.cellAt 1 (by omega)).trans rfl⟩
              have hbD : Below wr.heap.size wr wr.drew := (Below.refl _ _).drew
              have hczD := own_next hcz hbD
              have hrD := hrg.trans (rng_below hbD)
              have hgk : ∀ k, (Value.slice (some ⟨w1.heap.size, 0, none⟩) 1 1).ownBlock = some k → w1.heap.size ≤ k ∧ k < w1.heap.size + 1 := fun k hk => by
                have : w1.heap.size = k := by simpa [Value.ownBlock] using hk
                omega
              obtain ⟨y5, f5⟩ := own_cell hcz (3 + a * 12 + d) (by omega)
              have z5 := hcz.frozenAt
              have s5 := hczD.stored (3 + a * 12 + d) (.bool true)
              have hr5 := hrD.trans (rng_grown s5.2 hgk)
              have hbD2 := hbw.trans (hbD.mono hbw.size)
              have hb5 : Below w.heap.size w (wr.drew.setCell ⟨w1.heap.size, 3 + a * 12 + d, none⟩ (.bool true)) := hbD2.setCell (by dsimp only; omega) _
              have s5' := (hcz.stored (3 + a * 12 + d) (.bool true)).1
              obtain ⟨y6, f6⟩ := own_cell s5' (3 + d * 12 + a) (by omega)
              have z6 := s5'.frozenAt
              clear s5'
              have s6 := s5.1.stored (3 + d * 12 + a) (.bool true)
              have hr6 := hr5.trans (rng_grown s6.2 hgk)
              have hb6 : Below w.heap.size w ((wr.drew.setCell ⟨w1.heap.size, 3 + a * 12 + d, none⟩ (.bool true)).setCell ⟨w1.heap.size, 3 + d * 12 + a, none⟩ (.bool true)) := hb5.setCell (by dsimp only; omega) _
              have HTn := Lib.hid (tab_set (tab_set HT.out a12 d12) d12 a12)
              have HFn := Lib.hid (fix_set (v := .bool true) (fix_set (v := .bool true) HFx.out a12 d12) d12 a12)
              have HBn := Lib.hid (((HBf.out.next hbD).grown hczD s5.2).grown s5.1 s6.2)
              have htn := fun i j => tab_next (n := t) hx i j
              have HTN := Lib.hid htn; clear htn
              have HS := Lib.hid hS; clear hS
              have S5 := Lib.hid s5; clear s5
              have S6 := Lib.hid s6; clear s6
              have Hx := Lib.hid hx; clear hx
              have Hgq := Lib.hid hgq; clear hgq
              go_wp2_with fail
              refine wp_region_held_drew (S := fun W => W.cell? ⟨gq, 0, none⟩ = some (.int .i64 (a : Int)) ∧ W.cell? ⟨gq, 1, none⟩ = some (.int .i64 (d : Int))) (by kernel_rfl) (HS.out _ hrD) (fun hHeld => ?_)
              (first
                | (refine wpAnyH_take (i := 0) (v := ?_) rfl (by kernel_rfl) (by kernel_rfl) (by kernel_rfl) (fun _ _ _ h => h) (Or.inl ⟨by rfl, ?_⟩) (by assumption) ?_
                   rotate_left
                   focus (intro wq hSq; (try dsimp only at hSq); go_simp; (try (with_reducible rfl)); done))
                | (refine wpAnyH_take (i := 0) (v := undef) rfl (by kernel_rfl) (by kernel_rfl) (by kernel_rfl) (fun _ _ _ h => h) (Or.inr ⟨by rfl, rfl⟩) (by assumption) ?_)
                | fail "take 0")
              try simp only [Act.put, List.setIfInBounds_toArray, List.set_cons_zero, List.set_cons_succ, List.getElem_toArray, List.getElem_cons_zero]
              (first
                | (refine wpAnyH_take (i := 1) (v := ?_) rfl (by kernel_rfl) (by kernel_rfl) (by kernel_rfl) (fun _ _ _ h => h) (Or.inl ⟨by rfl, ?_⟩) (by assumption) ?_
                   rotate_left
                   focus (intro wq hSq; (try dsimp only at hSq); go_simp; (try (with_reducible rfl)); done))
                | (refine wpAnyH_take (i := 1) (v := undef) rfl (by kernel_rfl) (by kernel_rfl) (by kernel_rfl) (fun _ _ _ h => h) (Or.inr ⟨by rfl, rfl⟩) (by assumption) ?_)
                | fail "take 1")
              try simp only [Act.put, List.setIfInBounds_toArray, List.set_cons_zero, List.set_cons_succ, List.getElem_toArray, List.getElem_cons_zero, List.getElem_cons_succ]
              (first
                | (refine wpAnyH_take (i := 2) (v := ?_) rfl (by kernel_rfl) (by kernel_rfl) (by kernel_rfl) (fun _ _ _ h => h) (Or.inl ⟨by rfl, ?_⟩) (by assumption) ?_
                   rotate_left
                   focus (intro wq hSq; (try dsimp only at hSq); go_simp; (try (with_reducible rfl)); done))
                | (refine wpAnyH_take (i := 2) (v := undef) rfl (by kernel_rfl) (by kernel_rfl) (by kernel_rfl) (fun _ _ _ h => h) (Or.inr ⟨by rfl, rfl⟩) (by assumption) ?_)
                | fail "take 2")
              try simp only [Act.put, List.setIfInBounds_toArray, List.set_cons_zero, List.set_cons_succ, List.getElem_toArray, List.getElem_cons_zero, List.getElem_cons_succ]
              (first
                | (refine wpAnyH_take (i := 3) (v := ?_) rfl (by kernel_rfl) (by kernel_rfl) (by kernel_rfl) (fun _ _ _ h => h) (Or.inl ⟨by rfl, ?_⟩) (by assumption) ?_
                   rotate_left
                   focus (intro wq hSq; (try dsimp only at hSq); go_simp; (try (with_reducible rfl)); done))
                | (refine wpAnyH_take (i := 3) (v := undef) rfl (by kernel_rfl) (by kernel_rfl) (by kernel_rfl) (fun _ _ _ h => h) (Or.inr ⟨by rfl, rfl⟩) (by assumption) ?_)
                | fail "take 3")
              try simp only [Act.put, List.setIfInBounds_toArray, List.set_cons_zero, List.set_cons_succ, List.getElem_toArray, List.getElem_cons_zero, List.getElem_cons_succ]
              (first
                | (refine wpAnyH_take (i := 4) (v := ?_) rfl (by kernel_rfl) (by kernel_rfl) (by kernel_rfl) (fun _ _ _ h => h) (Or.inl ⟨by rfl, ?_⟩) (by assumption) ?_
                   rotate_left
                   focus (intro wq hSq; (try dsimp only at hSq); go_simp; (try (with_reducible rfl)); done))
                | (refine wpAnyH_take (i := 4) (v := undef) rfl (by kernel_rfl) (by kernel_rfl) (by kernel_rfl) (fun _ _ _ h => h) (Or.inr ⟨by rfl, rfl⟩) (by assumption) ?_)
                | fail "take 4")
              try simp only [Act.put, List.setIfInBounds_toArray, List.set_cons_zero, List.set_cons_succ, List.getElem_toArray, List.getElem_cons_zero, List.getElem_cons_succ]
              (first
                | (refine wpAnyH_take (i := 5) (v := ?_) rfl (by kernel_rfl) (by kernel_rfl) (by kernel_rfl) (fun _ _ _ h => h) (Or.inl ⟨by rfl, ?_⟩) (by assumption) ?_
                   rotate_left
                   focus (intro wq hSq; (try dsimp only at hSq); go_simp; (try (with_reducible rfl)); done))
                | (refine wpAnyH_take (i := 5) (v := undef) rfl (by kernel_rfl) (by kernel_rfl) (by kernel_rfl) (fun _ _ _ h => h) (Or.inr ⟨by rfl, rfl⟩) (by assumption) ?_)
                | fail "take 5")
              try simp only [Act.put, List.setIfInBounds_toArray, List.set_cons_zero, List.set_cons_succ, List.getElem_toArray, List.getElem_cons_zero, List.getElem_cons_succ]
              (first
                | (refine wpAnyH_take (i := 6) (v := ?_) rfl (by kernel_rfl) (by kernel_rfl) (by kernel_rfl) (fun _ _ _ h => h) (Or.inl ⟨by rfl, ?_⟩) (by assumption) ?_
                   rotate_left
                   focus (intro wq hSq; (try dsimp only at hSq); go_simp; (try (with_reducible rfl)); done))
                | (refine wpAnyH_take (i := 6) (v := undef) rfl (by kernel_rfl) (by kernel_rfl) (by kernel_rfl) (fun _ _ _ h => h) (Or.inr ⟨by rfl, rfl⟩) (by assumption) ?_)
                | fail "take 6")
              try simp only [Act.put, List.setIfInBounds_toArray, List.set_cons_zero, List.set_cons_succ, List.getElem_toArray, List.getElem_cons_zero, List.getElem_cons_succ]
              (first
                | (refine wpAnyH_take (i := 7) (v := ?_) rfl (by kernel_rfl) (by kernel_rfl) (by kernel_rfl) (fun _ _ _ h => h) (Or.inl ⟨by rfl, ?_⟩) (by assumption) ?_
                   rotate_left
                   focus (intro wq hSq; (try dsimp only at hSq); go_simp; (try (with_reducible rfl)); done))
                | (refine wpAnyH_take (i := 7) (v := undef) rfl (by kernel_rfl) (by kernel_rfl) (by kernel_rfl) (fun _ _ _ h => h) (Or.inr ⟨by rfl, rfl⟩) (by assumption) ?_)
                | fail "take 7")
              try simp only [Act.put, List.setIfInBounds_toArray, List.set_cons_zero, List.set_cons_succ, List.getElem_toArray, List.getElem_cons_zero, List.getElem_cons_succ]
              (first
                | (refine wpAnyH_take (i := 8) (v := ?_) rfl (by kernel_rfl) (by kernel_rfl) (by kernel_rfl) (fun _ _ _ h => h) (Or.inl ⟨by rfl, ?_⟩) (by assumption) ?_
                   rotate_left
                   focus (intro wq hSq; (try dsimp only at hSq); go_simp; (try (with_reducible rfl)); done))
                | (refine wpAnyH_take (i := 8) (v := undef) rfl (by kernel_rfl) (by kernel_rfl) (by kernel_rfl) (fun _ _ _ h => h) (Or.inr ⟨by rfl, rfl⟩) (by assumption) ?_)
                | fail "take 8")
              try simp only [Act.put, List.setIfInBounds_toArray, List.set_cons_zero, List.set_cons_succ, List.getElem_toArray, List.getElem_cons_zero, List.getElem_cons_succ]
              (first
                | (refine wpAnyH_take (i := 9) (v := ?_) rfl (by kernel_rfl) (by kernel_rfl) (by kernel_rfl) (fun _ _ _ h => h) (Or.inl ⟨by rfl, ?_⟩) (by assumption) ?_
                   rotate_left
                   focus (intro wq hSq; (try dsimp only at hSq); go_simp; (try (with_reducible rfl)); done))
                | (refine wpAnyH_take (i := 9) (v := undef) rfl (by kernel_rfl) (by kernel_rfl) (by kernel_rfl) (fun _ _ _ h => h) (Or.inr ⟨by rfl, rfl⟩) (by assumption) ?_)
                | fail "take 9")
              try simp only [Act.put, List.setIfInBounds_toArray, List.set_cons_zero, List.set_cons_succ, List.getElem_toArray, List.getElem_cons_zero, List.getElem_cons_succ]
              (first
                | (refine wpAnyH_take (i := 10) (v := ?_) rfl (by kernel_rfl) (by kernel_rfl) (by kernel_rfl) (fun _ _ _ h => h) (Or.inl ⟨by rfl, ?_⟩) (by assumption) ?_
                   rotate_left
                   focus (intro wq hSq; (try dsimp only at hSq); go_simp; (try (with_reducible rfl)); done))
                | (refine wpAnyH_take (i := 10) (v := undef) rfl (by kernel_rfl) (by kernel_rfl) (by kernel_rfl) (fun _ _ _ h => h) (Or.inr ⟨by rfl, rfl⟩) (by assumption) ?_)
                | fail "take 10")
              try simp only [Act.put, List.setIfInBounds_toArray, List.set_cons_zero, List.set_cons_succ, List.getElem_toArray, List.getElem_cons_zero, List.getElem_cons_succ]
              (first
                | (refine wpAnyH_take (i := 11) (v := ?_) rfl (by kernel_rfl) (by kernel_rfl) (by kernel_rfl) (fun _ _ _ h => h) (Or.inl ⟨by rfl, ?_⟩) (by assumption) ?_
                   rotate_left
                   focus (intro wq hSq; (try dsimp only at hSq); go_simp; (try (with_reducible rfl)); done))
                | (refine wpAnyH_take (i := 11) (v := undef) rfl (by kernel_rfl) (by kernel_rfl) (by kernel_rfl) (fun _ _ _ h => h) (Or.inr ⟨by rfl, rfl⟩) (by assumption) ?_)
                | fail "take 11")
              try simp only [Act.put, List.setIfInBounds_toArray, List.set_cons_zero, List.set_cons_succ, List.getElem_toArray, List.getElem_cons_zero, List.getElem_cons_succ]
              (first
                | (refine wpAnyH_take (i := 12) (v := ?_) rfl (by kernel_rfl) (by kernel_rfl) (by kernel_rfl) (fun _ _ _ h => h) (Or.inl ⟨by rfl, ?_⟩) (by assumption) ?_
                   rotate_left
                   focus (intro wq hSq; (try dsimp only at hSq); go_simp; (try (with_reducible rfl)); done))
                | (refine wpAnyH_take (i := 12) (v := undef) rfl (by kernel_rfl) (by kernel_rfl) (by kernel_rfl) (fun _ _ _ h => h) (Or.inr ⟨by rfl, rfl⟩) (by assumption) ?_)
                | fail "take 12")
              try simp only [Act.put, List.setIfInBounds_toArray, List.set_cons_zero, List.set_cons_succ, List.getElem_toArray, List.getElem_cons_zero, List.getElem_cons_succ]
              (first
                | (refine wpAnyH_take (i := 13) (v := ?_) rfl (by kernel_rfl) (by kernel_rfl) (by kernel_rfl) (fun _ _ _ h => h) (Or.inl ⟨by rfl, ?_⟩) (by assumption) ?_
                   rotate_left
                   focus (intro wq hSq; (try dsimp only at hSq); go_simp; (try (with_reducible rfl)); done))
                | (refine wpAnyH_take (i := 13) (v := undef) rfl (by kernel_rfl) (by kernel_rfl) (by kernel_rfl) (fun _ _ _ h => h) (Or.inr ⟨by rfl, rfl⟩) (by assumption) ?_)
                | fail "take 13")
              try simp only [Act.put, List.setIfInBounds_toArray, List.set_cons_zero, List.set_cons_succ, List.getElem_toArray, List.getElem_cons_zero, List.getElem_cons_succ]
              (first
                | (refine wpAnyH_take (i := 14) (v := ?_) rfl (by kernel_rfl) (by kernel_rfl) (by kernel_rfl) (fun _ _ _ h => h) (Or.inl ⟨by rfl, ?_⟩) (by assumption) ?_
                   rotate_left
                   focus (intro wq hSq; (try dsimp only at hSq); go_simp; (try (with_reducible rfl)); done))
                | (refine wpAnyH_take (i := 14) (v := undef) rfl (by kernel_rfl) (by kernel_rfl) (by kernel_rfl) (fun _ _ _ h => h) (Or.inr ⟨by rfl, rfl⟩) (by assumption) ?_)
                | fail "take 14")
              try simp only [Act.put, List.setIfInBounds_toArray, List.set_cons_zero, List.set_cons_succ, List.getElem_toArray, List.getElem_cons_zero, List.getElem_cons_succ]
              (first
                | (refine wpAnyH_take (i := 15) (v := ?_) rfl (by kernel_rfl) (by kernel_rfl) (by kernel_rfl) (fun _ _ _ h => h) (Or.inl ⟨by rfl, ?_⟩) (by assumption) ?_
                   rotate_left
                   focus (intro wq hSq; (try dsimp only at hSq); go_simp; (try (with_reducible rfl)); done))
                | (refine wpAnyH_take (i := 15) (v := undef) rfl (by kernel_rfl) (by kernel_rfl) (by kernel_rfl) (fun _ _ _ h => h) (Or.inr ⟨by rfl, rfl⟩) (by assumption) ?_)
                | fail "take 15")
              try simp only [Act.put, List.setIfInBounds_toArray, List.set_cons_zero, List.set_cons_succ, List.getElem_toArray, List.getElem_cons_zero, List.getElem_cons_succ]
              (first
                | (refine wpAnyH_take (i := 16) (v := ?_) rfl (by kernel_rfl) (by kernel_rfl) (by kernel_rfl) (fun _ _ _ h => h) (Or.inl ⟨by rfl, ?_⟩) (by assumption) ?_
                   rotate_left
                   focus (intro wq hSq; (try dsimp only at hSq); go_simp; (try (with_reducible rfl)); done))
                | (refine wpAnyH_take (i := 16) (v := undef) rfl (by kernel_rfl) (by kernel_rfl) (by kernel_rfl) (fun _ _ _ h => h) (Or.inr ⟨by rfl, rfl⟩) (by assumption) ?_)
                | fail "take 16")
              try simp only [Act.put, List.setIfInBounds_toArray, List.set_cons_zero, List.set_cons_succ, List.getElem_toArray, List.getElem_cons_zero, List.getElem_cons_succ]
              (first
                | (refine wpAnyH_take (i := 17) (v := ?_) rfl (by kernel_rfl) (by kernel_rfl) (by kernel_rfl) (fun _ _ _ h => h) (Or.inl ⟨by rfl, ?_⟩) (by assumption) ?_
                   rotate_left
                   focus (intro wq hSq; (try dsimp only at hSq); go_simp; (try (with_reducible rfl)); done))
                | (refine wpAnyH_take (i := 17) (v := undef) rfl (by kernel_rfl) (by kernel_rfl) (by kernel_rfl) (fun _ _ _ h => h) (Or.inr ⟨by rfl, rfl⟩) (by assumption) ?_)
                | fail "take 17")
              try simp only [Act.put, List.setIfInBounds_toArray, List.set_cons_zero, List.set_cons_succ, List.getElem_toArray, List.getElem_cons_zero, List.getElem_cons_succ]
              (first
                | (refine wpAnyH_take (i := 19) (v := ?_) rfl (by kernel_rfl) (by kernel_rfl) (by kernel_rfl) (fun _ _ _ h => h) (Or.inl ⟨by rfl, ?_⟩) (by assumption) ?_
                   rotate_left
                   focus (intro wq hSq; (try dsimp only at hSq); go_simp; (try (with_reducible rfl)); done))
                | (refine wpAnyH_take (i := 19) (v := undef) rfl (by kernel_rfl) (by kernel_rfl) (by kernel_rfl) (fun _ _ _ h => h) (Or.inr ⟨by rfl, rfl⟩) (by assumption) ?_)
                | fail "take 19")
              try simp only [Act.put, List.setIfInBounds_toArray, List.set_cons_zero, List.set_cons_succ, List.getElem_toArray, List.getElem_cons_zero, List.getElem_cons_succ]
              (first
                | (refine wpAnyH_take (i := 20) (v := ?_) rfl (by kernel_rfl) (by kernel_rfl) (by kernel_rfl) (fun _ _ _ h => h) (Or.inl ⟨by rfl, ?_⟩) (by assumption) ?_
                   rotate_left
                   focus (intro wq hSq; (try dsimp only at hSq); go_simp; (try (with_reducible rfl)); done))
                | (refine wpAnyH_take (i := 20) (v := undef) rfl (by kernel_rfl) (by kernel_rfl) (by kernel_rfl) (fun _ _ _ h => h) (Or.inr ⟨by rfl, rfl⟩) (by assumption) ?_)
                | fail "take 20")
              try simp only [Act.put, List.setIfInBounds_toArray, List.set_cons_zero, List.set_cons_succ, List.getElem_toArray, List.getElem_cons_zero, List.getElem_cons_succ]
              (first
                | (refine wpAnyH_take (i := 21) (v := ?_) rfl (by kernel_rfl) (by kernel_rfl) (by kernel_rfl) (fun _ _ _ h => h) (Or.inl ⟨by rfl, ?_⟩) (by assumption) ?_
                   rotate_left
                   focus (intro wq hSq; (try dsimp only at hSq); go_simp; (try (with_reducible rfl)); done))
                | (refine wpAnyH_take (i := 21) (v := undef) rfl (by kernel_rfl) (by kernel_rfl) (by kernel_rfl) (fun _ _ _ h => h) (Or.inr ⟨by rfl, rfl⟩) (by assumption) ?_)
                | fail "take 21")
              try simp only [Act.put, List.setIfInBounds_toArray, List.set_cons_zero, List.set_cons_succ, List.getElem_toArray, List.getElem_cons_zero, List.getElem_cons_succ]
              refine wpAnyH_ready (rs := [18]) (by kernel_rfl) (by simp) ?_
              refine AllReadyH.cons (o := _) rfl (fun K hK => ?_) AllReadyH.nil
              go_simp
              skip
              refine hK.out _ _ ?_ (fun hHeld => ?_)
              · exact HS.out _ hr5
              clear hK K
              try simp only [Act.put, List.setIfInBounds_toArray, List.set_cons_zero, List.set_cons_succ, List.getElem_toArray, List.getElem_cons_zero, List.getElem_cons_succ]
              (first
                | (refine wpAnyH_take (i := 22) (v := ?_) rfl (by kernel_rfl) (by kernel_rfl) (by kernel_rfl) (fun _ _ _ h => h) (Or.inl ⟨by rfl, ?_⟩) (by assumption) ?_
                   rotate_left
                   focus (intro wq hSq; (try dsimp only at hSq); go_simp; (try (with_reducible rfl)); done))
                | (refine wpAnyH_take (i := 22) (v := undef) rfl (by kernel_rfl) (by kernel_rfl) (by kernel_rfl) (fun _ _ _ h => h) (Or.inr ⟨by rfl, rfl⟩) (by assumption) ?_)
                | fail "take 22")
              try simp only [Act.put, List.setIfInBounds_toArray, List.set_cons_zero, List.set_cons_succ, List.getElem_toArray, List.getElem_cons_zero, List.getElem_cons_succ]
              refine wpAnyH_ready (rs := [23]) (by kernel_rfl) (by simp) ?_
              refine AllReadyH.cons (o := _) rfl (fun K hK => ?_) AllReadyH.nil
              go_simp
              skip
              refine hK.out _ _ ?_ (fun hHeld => ?_)
              · exact HS.out _ hr6
              clear hK K
              try simp only [Act.put, List.setIfInBounds_toArray, List.set_cons_zero, List.set_cons_succ, List.getElem_toArray, List.getElem_cons_zero, List.getElem_cons_succ]
              refine wpAnyH_done (by kernel_rfl) ?_ _
              clear hHeld
              go_wp2_with fail
              go_roundw
              case rel =>
                refine ⟨s + 1, _, _, by omega, by go_num, S6.out.1, HTn, Lib.hid (fun i j => ?_), HFn, HBn, hr6, hb6⟩
                rw [HTN.out, HTe.out]
              case measure => simp [intOf]; omega
            · obtain rfl : s = q5 := by omega
              go_wp2_with fail
              go_ret
              refine ⟨w1.heap.size, ys, T, w.heap.size, rsb, rfl, hcz, HT.out, fun i j h1 h2 => ?_, hbw, HFx.out, HBf.out, HBd.out⟩
              rw [HTe.out, List.take_of_length_le (by omega)]
              exact HF.out i j h1 h2
theorem newChoosing_c (A0 : Option Addr) (n0 c0 : Nat) (rs : List RowG) (m : Nat) (A : Option Addr) (n c : Nat) (zs : List ChG) (tol : Int) (w : World) (h0 : RS w A0 n0 rs) (m0 : n0 ≤ 1048576)
    (hp : pairsB (rs.map RowG.xs) m = true) (h : ChS w A n zs) (hv : (zs.map ChG.x).all validB = true) (h12 : n ≤ 12) :
    Calls Tryz.prog 16 #[.slice A0 n0 c0, .int .i64 m, .slice A n c, .int .i64 tol] w fun e w' => ∃ (g : Nat) (ys : List Value) (T : Nat → Nat → Bool), e = .returned (.pointer (some ⟨g, 0, none⟩)) ∧ Chz w' w.heap.size g ys ∧ TabIs ys T ∧ (∀ i j, i < n → j < n → T i j = tabB (clP (zs.map ChG.x) tol) i j) ∧ Below w.heap.size w w' := by
  refine (newChoosing2_c A0 n0 c0 rs m A n c zs tol w h0 m0 hp h hv h12).mono ?_
  rintro e w' ⟨g, ys, T, g2, rsb, rfl, h1, h2, h3, h4, _⟩
  exact ⟨g, ys, T, rfl, h1, h2, h3, h4⟩
end Go.Proofs.YtgibbhipjpbdfaaGreat
