/- NtGc: several of my texts in one. -/
import Derived.Test.YtafojijhfbnehaaGreatDoorNtGa
import Derived.Test.YtafojijhfbnehaaGreatDoorNtGb
/- ValidNotices: both sides. -/
namespace Go.Proofs.YtafojijhfbnehaaGreatDoor
open Go.RowKit
theorem WQ.load {P : Program} {ops : Array Oper} {C : World → Prop} {Q : Act → Prop} {a : Act} {o : Oper} {rest : List Oper} (hw : Region.wanted o (yielded ops a.tmps) = true) (ty : TypeId) (x : Operand) (ho : o.op = .load ty x)
    (b off : Nat) (hx : a.eval x = .pointer (some ⟨b, off, none⟩)) (cs : List Value) (d : TypeDesc) (hS : ∀ w, C w → w.rangeAt b off cs)
    (hu : P.underlying ty = some d) (hd : d.isRow = true) (hi : (P.info? ty).map (·.size) = some cs.length) (h : WQ P ops C Q rest (a.put o.dst (.agg cs.toArray))) : WQ P ops C Q (o :: rest) a :=
  WQ.take hw (fun w' hw' => by
    unfold Oper.quietAt execOp
    simp only [ho, hx, Instr.loadAt, Instr.sureAddr, Sem.run_bind, Sem.run_pure, Result.andThen_ok, run_loadVar_mid w' b off ty cs d (hS w' hw') hu hd hi]
    exact ⟨rfl, rfl⟩) h
set_option maxHeartbeats 400000 in
theorem specValidNotices_c (A : Option Addr) (n c : Nat) (zs : List NtG) (w : World) (h : NtSl w A n zs) (hm : n ≤ 1048576) (hc : n ≤ c) :
    Calls Tryz.prog 25 #[.slice A n c] w fun e w' => e = .returned (.bool (ntsB (zs.map NtG.a))) ∧ Below w.heap.size w w' := by
  have hO := l21Ok_c A n c zs w h hm hc
  have HO := Lib.hid hO; clear hO
  go_enter Tryz.func25, Tryz.ntmps25
  go_wp2_with fail
  refine HO.out.mono ?_
  rintro e w1 ⟨rfl, hb1⟩
  go_wp2_with fail
  go_ret
  exact ⟨rfl, hb1⟩
set_option maxRecDepth 100000 in
set_option maxHeartbeats 8000000 in
theorem implValidNotices_c (A : Option Addr) (n c : Nat) (zs : List NtG) (w : World) (h : NtSl w A n zs) (hm : n ≤ 1048576) (hc : n ≤ c) (ht : Tab w) :
    Calls Tryz.prog 27 #[.slice A n c] w fun e w' => e = .returned (.bool (ntsB (zs.map NtG.a))) ∧ Below w.heap.size w w' := by
  have hl := h.len
  obtain ⟨R, hR⟩ : ∃ R, ntsB (zs.map NtG.a) = R := ⟨_, rfl⟩
  rw [hR]
  have Hl := Lib.hid hl; clear hl
  have HR := Lib.hid hR; clear hR
  go_enter Tryz.func27, Tryz.ntmps27
  go_wp2_with fail
  go_loopw [7] (fun i wr => ∃ k : Nat, k ≤ n ∧ i = .int .i64 k ∧ Hid (∀ j, j < k → ntsAt (zs.map NtG.a) j = true) ∧ Below w.heap.size w wr) (fun i _ => n - (intOf i).toNat)
  case atStart => exact ⟨0, Nat.zero_le _, rfl, Lib.hid (fun j hj => absurd hj (by omega)), Below.refl _ _⟩
  case round =>
    obtain ⟨k, hk, rfl, Hs, hbw⟩ := hrel
    have k0 : (0 : Int) ≤ (k : Int) := by omega
    by_cases hlt : k < n
    · have k1 : (k : Int) < (n : Int) := by omega
      have k2 : (k : Int) ≤ (n : Int) := by omega
      have k3 : (k : Int) ≤ (c : Int) := by omega
      obtain ⟨b, off, g, rfl, hb, hx, hz, hp⟩ := (h.next hbw).getR k hlt
      have hR5 := World.rangeAt_setCells_same _ (wr).heap.size 0 (ntL (g.x) (g.z)) (nt_there0 wr 55)
      have hb5 := belowW (wr).heap.size (Nat.le_refl _) (ntL (g.x) (g.z)) 0 _ ((Below.refl (wr).heap.size wr).alloc (Nat.le_refl _) (ntZ 55))
      have TT := nt_there0 wr 55
      have SZ : (wr).heap.size < (((wr).alloc (ntZ 55)).setCells (wr).heap.size 0 (ntL (g.x) (g.z))).heap.size := by rw [sizeW]; simp
      obtain ⟨w5, hWW⟩ : ∃ v, ((wr).alloc (ntZ 55)).setCells (wr).heap.size 0 (ntL (g.x) (g.z)) = v := ⟨_, rfl⟩
      rw [hWW] at hR5 hb5 SZ
      have OO : (List.toArray (ntL (g.x) (g.z))).all (·.oneCell') = true := all_oneCell_toArray (ntg_one ⟨g.x, g.z⟩)
      have HTT := Lib.hid TT; clear TT
      have HWW := Lib.hid hWW; clear hWW
      have HOO := Lib.hid OO; clear OO
      have b5 := hbw.trans (hb5.mono hbw.size)
      have hb' : b < w5.heap.size := Nat.lt_of_lt_of_le hb hb5.size
      have e1 : ∀ {w' : World}, Below w5.heap.size w5 w' → (Below w5.heap.size w5 w' ∧ (∀ x, w'.cell? ⟨b, x, none⟩ = w5.cell? ⟨b, x, none⟩) ∧ (∀ x, w'.cell? ⟨wr.heap.size, x, none⟩ = w5.cell? ⟨wr.heap.size, x, none⟩)) := fun hbb => ⟨hbb, keepC hbb _ hb', keepC hbb _ SZ⟩
      have hRN : ∀ w', Below w5.heap.size w5 w' → w'.rangeAt wr.heap.size 0 (ntL g.x g.z) := fun w' hbb => rangeB hR5 hbb SZ
      obtain ⟨q0, q1, q2, _, _⟩ := ntP_of hR5 SZ
      have hO : ∀ w', Below w5.heap.size w5 w' → Calls Tryz.prog 22 #[ntV g.x g.z] w' fun e w'' => e = .returned (.bool (ntB g.x g.z.a)) ∧ Below w'.heap.size w' w'' := fun w' hbb => implValidNotice_c g.x g.z w' ((hz.next hb5).next hbb) (ht.next (b5.trans (hbb.mono b5.size)))
      have hX : ∀ w', Below w5.heap.size w5 w' → Calls Tryz.prog 71 #[ntV g.x g.z, .slice (some ⟨b, off, none⟩) k c] w' fun e w'' => e = .returned (.bool (canB ((xsOf zs).take k) g.x.t)) ∧ Below w'.heap.size w' w'' := fun w' hbb => by
        have := canCancel_c (some ⟨b, off, none⟩) k c (zs.take k) g.x g.z w' ((((h.next hbw).pre k hk).next hb5).next hbb) (by omega)
        rwa [xsOf, List.map_take] at this
      have hat : ntsAt (zs.map NtG.a) k = (ntB g.x g.z.a && (prB (xsOf zs) k g.x && (!(g.x.k == 4) || canB ((xsOf zs).take k) g.x.t))) := by
        rw [ntsAt, List.getElem?_map, hx, xs_fst]; rfl
      obtain ⟨V, hV⟩ : ∃ V, ntB g.x g.z.a = V := ⟨_, rfl⟩
      obtain ⟨X, hXd⟩ : ∃ X, canB ((xsOf zs).take k) g.x.t = X := ⟨_, rfl⟩
      rw [hV] at hO hat
      rw [hXd] at hX hat
      clear hV hXd
      have hno : ntsAt (zs.map NtG.a) k = false → R = false := fun hn => by rw [← HR.out]; exact ntsB_no (by rw [List.length_map, Hl.out]; exact hlt) hn
      simp only [Nat.zero_add] at q1 q2
      clear hz
      have HP := Lib.hid hp; clear hp
      have HO := Lib.hid hO; clear hO
      have HX := Lib.hid hX; clear hX
      have Hx := Lib.hid hx; clear hx
      have HRN := Lib.hid hRN; clear hRN
      clear hR5
      cases V
      · have hF := hno (by rw [hat]; rfl)
        have Hat := Lib.hid hat; clear hat
        have Hno := Lib.hid hno; clear hno
        have HF := Lib.hid hF; clear hF
        go_wp2_with (first | (refine wpList_store_mid rfl _ _ _ rfl (wr).heap.size 0 (List.toArray (ntL (g.x) (g.z))) rfl rfl HTT.out (by kernel_rfl) HOO.out ?_; rw [show ((wr).alloc (ntZ 55)).setCells (wr).heap.size 0 (List.toArray (ntL (g.x) (g.z))).toList = w5 from HWW.out]) | (refine wpList_load_mid rfl _ _ rfl b (off + k * 20) rfl (NtG.cells g) _ (HP.out) Tryz.underlying55 rfl (by kernel_rfl) ?_))
        clear HTT HWW HOO
        refine wp_region_wqC (C := fun w' => Below w5.heap.size w5 w' ∧ (∀ x, w'.cell? ⟨b, x, none⟩ = w5.cell? ⟨b, x, none⟩) ∧ (∀ x, w'.cell? ⟨wr.heap.size, x, none⟩ = w5.cell? ⟨wr.heap.size, x, none⟩)) (by kernel_rfl) (by kernel_rfl) (e1 (Below.refl _ _).drew) ?_
        refine WQ.load (by rfl) _ _ rfl wr.heap.size 0 rfl (ntL g.x g.z) _ (fun wq hq => HRN.out wq hq.1) Tryz.underlying55 rfl (by kernel_rfl) ?_
        try simp only [Act.put, List.setIfInBounds_toArray, List.set_cons_zero, List.set_cons_succ]
        refine WQ.take (v := .bool false) (by rfl) (fun wq hq => ?_) ?_
        focus (go_simp; (refine (HO.out wq hq.1).mono ?_; rintro e w2 ⟨rfl, hb2⟩; exact ⟨rfl, e1 (hq.1.trans (hb2.mono hq.1.size))⟩))
        try simp only [Act.put, List.setIfInBounds_toArray, List.set_cons_zero, List.set_cons_succ]
        (first
          | (refine WQ.take (v := ?_) (by rfl) ?_ ?_
             rotate_left
             focus (intro wq hq; (try dsimp only at hq); go_simp; (try (with_reducible rfl)); done))
          | (refine WQ.skip (by rfl) ?_))
        try simp only [Act.put, List.setIfInBounds_toArray, List.set_cons_zero, List.set_cons_succ]
        (first
          | (refine WQ.take (v := ?_) (by rfl) ?_ ?_
             rotate_left
             focus (intro wq hq; (try dsimp only at hq); go_simp; (try (with_reducible rfl)); done))
          | (refine WQ.skip (by rfl) ?_))
        try simp only [Act.put, List.setIfInBounds_toArray, List.set_cons_zero, List.set_cons_succ]
        (first
          | (refine WQ.take (v := ?_) (by rfl) ?_ ?_
             rotate_left
             focus (intro wq hq; (try dsimp only at hq); go_simp; (try (with_reducible rfl)); done))
          | (refine WQ.skip (by rfl) ?_))
        try simp only [Act.put, List.setIfInBounds_toArray, List.set_cons_zero, List.set_cons_succ]
        (first
          | (refine WQ.take (v := ?_) (by rfl) ?_ ?_
             rotate_left
             focus (intro wq hq; (try dsimp only at hq); go_simp; (try (with_reducible rfl)); done))
          | (refine WQ.skip (by rfl) ?_))
        try simp only [Act.put, List.setIfInBounds_toArray, List.set_cons_zero, List.set_cons_succ]
        (first
          | (refine WQ.take (v := ?_) (by rfl) ?_ ?_
             rotate_left
             focus (intro wq hq; (try dsimp only at hq); go_simp; (try (with_reducible rfl)); done))
          | (refine WQ.skip (by rfl) ?_))
        try simp only [Act.put, List.setIfInBounds_toArray, List.set_cons_zero, List.set_cons_succ]
        (first
          | (refine WQ.take (v := ?_) (by rfl) ?_ ?_
             rotate_left
             focus (intro wq hq; (try dsimp only at hq); go_simp; (try (with_reducible rfl)); done))
          | (refine WQ.skip (by rfl) ?_))
        try simp only [Act.put, List.setIfInBounds_toArray, List.set_cons_zero, List.set_cons_succ]
        (first
          | (refine WQ.take (v := ?_) (by rfl) ?_ ?_
             rotate_left
             focus (intro wq hq; (try dsimp only at hq); go_simp; (try (with_reducible rfl)); done))
          | (refine WQ.skip (by rfl) ?_))
        try simp only [Act.put, List.setIfInBounds_toArray, List.set_cons_zero, List.set_cons_succ]
        (first
          | (refine WQ.take (v := ?_) (by rfl) ?_ ?_
             rotate_left
             focus (intro wq hq; (try dsimp only at hq); go_simp; (try (with_reducible rfl)); done))
          | (refine WQ.skip (by rfl) ?_))
        try simp only [Act.put, List.setIfInBounds_toArray, List.set_cons_zero, List.set_cons_succ]
        (first
          | (refine WQ.take (v := ?_) (by rfl) ?_ ?_
             rotate_left
             focus (intro wq hq; (try dsimp only at hq); go_simp; (try (with_reducible rfl)); done))
          | (refine WQ.skip (by rfl) ?_))
        try simp only [Act.put, List.setIfInBounds_toArray, List.set_cons_zero, List.set_cons_succ]
        (first
          | (refine WQ.take (v := ?_) (by rfl) ?_ ?_
             rotate_left
             focus (intro wq hq; (try dsimp only at hq); go_simp; (try (with_reducible rfl)); done))
          | (refine WQ.skip (by rfl) ?_))
        try simp only [Act.put, List.setIfInBounds_toArray, List.set_cons_zero, List.set_cons_succ]
        (first
          | (refine WQ.take (v := ?_) (by rfl) ?_ ?_
             rotate_left
             focus (intro wq hq; (try dsimp only at hq); go_simp; (try (with_reducible rfl)); done))
          | (refine WQ.skip (by rfl) ?_))
        try simp only [Act.put, List.setIfInBounds_toArray, List.set_cons_zero, List.set_cons_succ]
        (first
          | (refine WQ.take (v := ?_) (by rfl) ?_ ?_
             rotate_left
             focus (intro wq hq; (try dsimp only at hq); go_simp; (try (with_reducible rfl)); done))
          | (refine WQ.skip (by rfl) ?_))
        try simp only [Act.put, List.setIfInBounds_toArray, List.set_cons_zero, List.set_cons_succ]
        (first
          | (refine WQ.take (v := ?_) (by rfl) ?_ ?_
             rotate_left
             focus (intro wq hq; (try dsimp only at hq); go_simp; (try (with_reducible rfl)); done))
          | (refine WQ.skip (by rfl) ?_))
        try simp only [Act.put, List.setIfInBounds_toArray, List.set_cons_zero, List.set_cons_succ]
        (first
          | (refine WQ.take (v := ?_) (by rfl) ?_ ?_
             rotate_left
             focus (intro wq hq; (try dsimp only at hq); go_simp; (try (with_reducible rfl)); done))
          | (refine WQ.skip (by rfl) ?_))
        try simp only [Act.put, List.setIfInBounds_toArray, List.set_cons_zero, List.set_cons_succ]
        (first
          | (refine WQ.take (v := ?_) (by rfl) ?_ ?_
             rotate_left
             focus (intro wq hq; (try dsimp only at hq); go_simp; (try (with_reducible rfl)); done))
          | (refine WQ.skip (by rfl) ?_))
        try simp only [Act.put, List.setIfInBounds_toArray, List.set_cons_zero, List.set_cons_succ]
        (first
          | (refine WQ.take (v := ?_) (by rfl) ?_ ?_
             rotate_left
             focus (intro wq hq; (try dsimp only at hq); go_simp; (try (with_reducible rfl)); done))
          | (refine WQ.skip (by rfl) ?_))
        try simp only [Act.put, List.setIfInBounds_toArray, List.set_cons_zero, List.set_cons_succ]
        (first
          | (refine WQ.take (v := ?_) (by rfl) ?_ ?_
             rotate_left
             focus (intro wq hq; (try dsimp only at hq); go_simp; (try (with_reducible rfl)); done))
          | (refine WQ.skip (by rfl) ?_))
        try simp only [Act.put, List.setIfInBounds_toArray, List.set_cons_zero, List.set_cons_succ]
        (first
          | (refine WQ.take (v := ?_) (by rfl) ?_ ?_
             rotate_left
             focus (intro wq hq; (try dsimp only at hq); go_simp; (try (with_reducible rfl)); done))
          | (refine WQ.skip (by rfl) ?_))
        try simp only [Act.put, List.setIfInBounds_toArray, List.set_cons_zero, List.set_cons_succ]
        (first
          | (refine WQ.take (v := ?_) (by rfl) ?_ ?_
             rotate_left
             focus (intro wq hq; (try dsimp only at hq); go_simp; (try (with_reducible rfl)); done))
          | (refine WQ.skip (by rfl) ?_))
        try simp only [Act.put, List.setIfInBounds_toArray, List.set_cons_zero, List.set_cons_succ]
        (first
          | (refine WQ.take (v := ?_) (by rfl) ?_ ?_
             rotate_left
             focus (intro wq hq; (try dsimp only at hq); go_simp; (try (with_reducible rfl)); done))
          | (refine WQ.skip (by rfl) ?_))
        try simp only [Act.put, List.setIfInBounds_toArray, List.set_cons_zero, List.set_cons_succ]
        (first
          | (refine WQ.take (v := ?_) (by rfl) ?_ ?_
             rotate_left
             focus (intro wq hq; (try dsimp only at hq); go_simp; (try (with_reducible rfl)); done))
          | (refine WQ.skip (by rfl) ?_))
        try simp only [Act.put, List.setIfInBounds_toArray, List.set_cons_zero, List.set_cons_succ]
        (first
          | (refine WQ.take (v := ?_) (by rfl) ?_ ?_
             rotate_left
             focus (intro wq hq; (try dsimp only at hq); go_simp; (try (with_reducible rfl)); done))
          | (refine WQ.skip (by rfl) ?_))
        try simp only [Act.put, List.setIfInBounds_toArray, List.set_cons_zero, List.set_cons_succ]
        (first
          | (refine WQ.take (v := ?_) (by rfl) ?_ ?_
             rotate_left
             focus (intro wq hq; (try dsimp only at hq); go_simp; (try (with_reducible rfl)); done))
          | (refine WQ.skip (by rfl) ?_))
        try simp only [Act.put, List.setIfInBounds_toArray, List.set_cons_zero, List.set_cons_succ]
        (first
          | (refine WQ.take (v := ?_) (by rfl) ?_ ?_
             rotate_left
             focus (intro wq hq; (try dsimp only at hq); go_simp; (try (with_reducible rfl)); done))
          | (refine WQ.skip (by rfl) ?_))
        try simp only [Act.put, List.setIfInBounds_toArray, List.set_cons_zero, List.set_cons_succ]
        (first
          | (refine WQ.take (v := ?_) (by rfl) ?_ ?_
             rotate_left
             focus (intro wq hq; (try dsimp only at hq); go_simp; (try (with_reducible rfl)); done))
          | (refine WQ.skip (by rfl) ?_))
        try simp only [Act.put, List.setIfInBounds_toArray, List.set_cons_zero, List.set_cons_succ]
        (first
          | (refine WQ.take (v := ?_) (by rfl) ?_ ?_
             rotate_left
             focus (intro wq hq; (try dsimp only at hq); go_simp; (try (with_reducible rfl)); done))
          | (refine WQ.skip (by rfl) ?_))
        try simp only [Act.put, List.setIfInBounds_toArray, List.set_cons_zero, List.set_cons_succ]
        (first
          | (refine WQ.take (v := ?_) (by rfl) ?_ ?_
             rotate_left
             focus (intro wq hq; (try dsimp only at hq); go_simp; (try (with_reducible rfl)); done))
          | (refine WQ.skip (by rfl) ?_))
        try simp only [Act.put, List.setIfInBounds_toArray, List.set_cons_zero, List.set_cons_succ]
        (first
          | (refine WQ.take (v := ?_) (by rfl) ?_ ?_
             rotate_left
             focus (intro wq hq; (try dsimp only at hq); go_simp; (try (with_reducible rfl)); done))
          | (refine WQ.skip (by rfl) ?_))
        try simp only [Act.put, List.setIfInBounds_toArray, List.set_cons_zero, List.set_cons_succ]
        (first
          | (refine WQ.take (v := ?_) (by rfl) ?_ ?_
             rotate_left
             focus (intro wq hq; (try dsimp only at hq); go_simp; (try (with_reducible rfl)); done))
          | (refine WQ.skip (by rfl) ?_))
        try simp only [Act.put, List.setIfInBounds_toArray, List.set_cons_zero, List.set_cons_succ]
        (first
          | (refine WQ.take (v := ?_) (by rfl) ?_ ?_
             rotate_left
             focus (intro wq hq; (try dsimp only at hq); go_simp; (try (with_reducible rfl)); done))
          | (refine WQ.skip (by rfl) ?_))
        try simp only [Act.put, List.setIfInBounds_toArray, List.set_cons_zero, List.set_cons_succ]
        (first
          | (refine WQ.take (v := ?_) (by rfl) ?_ ?_
             rotate_left
             focus (intro wq hq; (try dsimp only at hq); go_simp; (try (with_reducible rfl)); done))
          | (refine WQ.skip (by rfl) ?_))
        try simp only [Act.put, List.setIfInBounds_toArray, List.set_cons_zero, List.set_cons_succ]
        (first
          | (refine WQ.take (v := ?_) (by rfl) ?_ ?_
             rotate_left
             focus (intro wq hq; (try dsimp only at hq); go_simp; (try (with_reducible rfl)); done))
          | (refine WQ.skip (by rfl) ?_))
        try simp only [Act.put, List.setIfInBounds_toArray, List.set_cons_zero, List.set_cons_succ]
        refine WQ.skip (by rfl) ?_
        try simp only [Act.put, List.setIfInBounds_toArray, List.set_cons_zero, List.set_cons_succ]
        (first
          | (refine WQ.take (v := ?_) (by rfl) ?_ ?_
             rotate_left
             focus (intro wq hq; (try dsimp only at hq); go_simp; (try (with_reducible rfl)); done))
          | (refine WQ.skip (by rfl) ?_))
        try simp only [Act.put, List.setIfInBounds_toArray, List.set_cons_zero, List.set_cons_succ]
        (first
          | (refine WQ.take (v := ?_) (by rfl) ?_ ?_
             rotate_left
             focus (intro wq hq; (try dsimp only at hq); go_simp; (try (with_reducible rfl)); done))
          | (refine WQ.skip (by rfl) ?_))
        try simp only [Act.put, List.setIfInBounds_toArray, List.set_cons_zero, List.set_cons_succ]
        (first
          | (refine WQ.take (v := ?_) (by rfl) ?_ ?_
             rotate_left
             focus (intro wq hq; (try dsimp only at hq); go_simp; (try (with_reducible rfl)); done))
          | (refine WQ.skip (by rfl) ?_))
        try simp only [Act.put, List.setIfInBounds_toArray, List.set_cons_zero, List.set_cons_succ]
        (first
          | (refine WQ.take (v := ?_) (by rfl) ?_ ?_
             rotate_left
             focus (intro wq hq; (try dsimp only at hq); go_simp; (try (with_reducible rfl)); done))
          | (refine WQ.skip (by rfl) ?_))
        try simp only [Act.put, List.setIfInBounds_toArray, List.set_cons_zero, List.set_cons_succ]
        (first
          | (refine WQ.take (v := ?_) (by rfl) ?_ ?_
             rotate_left
             focus (intro wq hq; (try dsimp only at hq); go_simp; (try (with_reducible rfl)); done))
          | (refine WQ.skip (by rfl) ?_))
        try simp only [Act.put, List.setIfInBounds_toArray, List.set_cons_zero, List.set_cons_succ]
        (first
          | (refine WQ.take (v := ?_) (by rfl) ?_ ?_
             rotate_left
             focus (intro wq hq; (try dsimp only at hq); go_simp; (try (with_reducible rfl)); done))
          | (refine WQ.skip (by rfl) ?_))
        try simp only [Act.put, List.setIfInBounds_toArray, List.set_cons_zero, List.set_cons_succ]
        (first
          | (refine WQ.take (v := ?_) (by rfl) ?_ ?_
             rotate_left
             focus (intro wq hq; (try dsimp only at hq); go_simp; (try (with_reducible rfl)); done))
          | (refine WQ.skip (by rfl) ?_))
        try simp only [Act.put, List.setIfInBounds_toArray, List.set_cons_zero, List.set_cons_succ]
        refine WQ.nil ?_
        rintro w9 ⟨hb9, _⟩
        have b9 := b5.trans (hb9.mono b5.size)
        go_wp2_with fail
        go_ret
        exact ⟨ret_eq (bool_eq HF.out.symm), b9⟩
      rw [Bool.true_and] at hat
      rcases Nat.eq_zero_or_pos k with hk0 | hk0
      · subst hk0
        have hpr : prB (xsOf zs) 0 g.x = true := rfl
        rw [hpr, Bool.true_and] at hat
        have z1 : decide ((0 : Int) < ((0 : Nat) : Int)) = false := by simp
        have hP0 := HP.out
        rw [Nat.zero_mul, Nat.add_zero] at hP0
        clear HP
        have HP := Lib.hid hP0; clear hP0
        have Hpr := Lib.hid hpr; clear hpr
        cases kk4 : (g.x.k == 4)
        · rw [kk4, Bool.not_false, Bool.true_or] at hat
          have HT := Lib.hid hat; clear hat
          have Hno := Lib.hid hno; clear hno
          go_wp2_with (first | (refine wpList_store_mid rfl _ _ _ rfl (wr).heap.size 0 (List.toArray (ntL (g.x) (g.z))) rfl rfl HTT.out (by kernel_rfl) HOO.out ?_; rw [show ((wr).alloc (ntZ 55)).setCells (wr).heap.size 0 (List.toArray (ntL (g.x) (g.z))).toList = w5 from HWW.out]) | (refine wpList_load_mid rfl _ _ rfl b (off) rfl (NtG.cells g) _ (HP.out) Tryz.underlying55 rfl (by kernel_rfl) ?_))
          clear HTT HWW HOO
          refine wp_region_wqC (C := fun w' => Below w5.heap.size w5 w' ∧ (∀ x, w'.cell? ⟨b, x, none⟩ = w5.cell? ⟨b, x, none⟩) ∧ (∀ x, w'.cell? ⟨wr.heap.size, x, none⟩ = w5.cell? ⟨wr.heap.size, x, none⟩)) (by kernel_rfl) (by kernel_rfl) (e1 (Below.refl _ _).drew) ?_
          refine WQ.load (by rfl) _ _ rfl wr.heap.size 0 rfl (ntL g.x g.z) _ (fun wq hq => HRN.out wq hq.1) Tryz.underlying55 rfl (by kernel_rfl) ?_
          try simp only [Act.put, List.setIfInBounds_toArray, List.set_cons_zero, List.set_cons_succ]
          refine WQ.take (v := .bool true) (by rfl) (fun wq hq => ?_) ?_
          focus (go_simp; (refine (HO.out wq hq.1).mono ?_; rintro e w2 ⟨rfl, hb2⟩; exact ⟨rfl, e1 (hq.1.trans (hb2.mono hq.1.size))⟩))
          try simp only [Act.put, List.setIfInBounds_toArray, List.set_cons_zero, List.set_cons_succ]
          (first
            | (refine WQ.take (v := ?_) (by rfl) ?_ ?_
               rotate_left
               focus (intro wq hq; (try dsimp only at hq); go_simp; (try (with_reducible rfl)); done))
            | (refine WQ.skip (by rfl) ?_))
          try simp only [Act.put, List.setIfInBounds_toArray, List.set_cons_zero, List.set_cons_succ]
          (first
            | (refine WQ.take (v := ?_) (by rfl) ?_ ?_
               rotate_left
               focus (intro wq hq; (try dsimp only at hq); go_simp; (try (with_reducible rfl)); done))
            | (refine WQ.skip (by rfl) ?_))
          try simp only [Act.put, List.setIfInBounds_toArray, List.set_cons_zero, List.set_cons_succ]
          (first
            | (refine WQ.take (v := ?_) (by rfl) ?_ ?_
               rotate_left
               focus (intro wq hq; (try dsimp only at hq); go_simp; (try (with_reducible rfl)); done))
            | (refine WQ.skip (by rfl) ?_))
          try simp only [Act.put, List.setIfInBounds_toArray, List.set_cons_zero, List.set_cons_succ]
          (first
            | (refine WQ.take (v := ?_) (by rfl) ?_ ?_
               rotate_left
               focus (intro wq hq; (try dsimp only at hq); go_simp; (try (with_reducible rfl)); done))
            | (refine WQ.skip (by rfl) ?_))
          try simp only [Act.put, List.setIfInBounds_toArray, List.set_cons_zero, List.set_cons_succ]
          (first
            | (refine WQ.take (v := ?_) (by rfl) ?_ ?_
               rotate_left
               focus (intro wq hq; (try dsimp only at hq); go_simp; (try (with_reducible rfl)); done))
            | (refine WQ.skip (by rfl) ?_))
          try simp only [Act.put, List.setIfInBounds_toArray, List.set_cons_zero, List.set_cons_succ]
          (first
            | (refine WQ.take (v := ?_) (by rfl) ?_ ?_
               rotate_left
               focus (intro wq hq; (try dsimp only at hq); go_simp; (try (with_reducible rfl)); done))
            | (refine WQ.skip (by rfl) ?_))
          try simp only [Act.put, List.setIfInBounds_toArray, List.set_cons_zero, List.set_cons_succ]
          (first
            | (refine WQ.take (v := ?_) (by rfl) ?_ ?_
               rotate_left
               focus (intro wq hq; (try dsimp only at hq); go_simp; (try (with_reducible rfl)); done))
            | (refine WQ.skip (by rfl) ?_))
          try simp only [Act.put, List.setIfInBounds_toArray, List.set_cons_zero, List.set_cons_succ]
          (first
            | (refine WQ.take (v := ?_) (by rfl) ?_ ?_
               rotate_left
               focus (intro wq hq; (try dsimp only at hq); go_simp; (try (with_reducible rfl)); done))
            | (refine WQ.skip (by rfl) ?_))
          try simp only [Act.put, List.setIfInBounds_toArray, List.set_cons_zero, List.set_cons_succ]
          (first
            | (refine WQ.take (v := ?_) (by rfl) ?_ ?_
               rotate_left
               focus (intro wq hq; (try dsimp only at hq); go_simp; (try (with_reducible rfl)); done))
            | (refine WQ.skip (by rfl) ?_))
          try simp only [Act.put, List.setIfInBounds_toArray, List.set_cons_zero, List.set_cons_succ]
          (first
            | (refine WQ.take (v := ?_) (by rfl) ?_ ?_
               rotate_left
               focus (intro wq hq; (try dsimp only at hq); go_simp; (try (with_reducible rfl)); done))
            | (refine WQ.skip (by rfl) ?_))
          try simp only [Act.put, List.setIfInBounds_toArray, List.set_cons_zero, List.set_cons_succ]
          (first
            | (refine WQ.take (v := ?_) (by rfl) ?_ ?_
               rotate_left
               focus (intro wq hq; (try dsimp only at hq); go_simp; (try (with_reducible rfl)); done))
            | (refine WQ.skip (by rfl) ?_))
          try simp only [Act.put, List.setIfInBounds_toArray, List.set_cons_zero, List.set_cons_succ]
          (first
            | (refine WQ.take (v := ?_) (by rfl) ?_ ?_
               rotate_left
               focus (intro wq hq; (try dsimp only at hq); go_simp; (try (with_reducible rfl)); done))
            | (refine WQ.skip (by rfl) ?_))
          try simp only [Act.put, List.setIfInBounds_toArray, List.set_cons_zero, List.set_cons_succ]
          (first
            | (refine WQ.take (v := ?_) (by rfl) ?_ ?_
               rotate_left
               focus (intro wq hq; (try dsimp only at hq); go_simp; (try (with_reducible rfl)); done))
            | (refine WQ.skip (by rfl) ?_))
          try simp only [Act.put, List.setIfInBounds_toArray, List.set_cons_zero, List.set_cons_succ]
          (first
            | (refine WQ.take (v := ?_) (by rfl) ?_ ?_
               rotate_left
               focus (intro wq hq; (try dsimp only at hq); go_simp; (try (with_reducible rfl)); done))
            | (refine WQ.skip (by rfl) ?_))
          try simp only [Act.put, List.setIfInBounds_toArray, List.set_cons_zero, List.set_cons_succ]
          (first
            | (refine WQ.take (v := ?_) (by rfl) ?_ ?_
               rotate_left
               focus (intro wq hq; (try dsimp only at hq); go_simp; (try (with_reducible rfl)); done))
            | (refine WQ.skip (by rfl) ?_))
          try simp only [Act.put, List.setIfInBounds_toArray, List.set_cons_zero, List.set_cons_succ]
          (first
            | (refine WQ.take (v := ?_) (by rfl) ?_ ?_
               rotate_left
               focus (intro wq hq; (try dsimp only at hq); go_simp; (try (with_reducible rfl)); done))
            | (refine WQ.skip (by rfl) ?_))
          try simp only [Act.put, List.setIfInBounds_toArray, List.set_cons_zero, List.set_cons_succ]
          (first
            | (refine WQ.take (v := ?_) (by rfl) ?_ ?_
               rotate_left
               focus (intro wq hq; (try dsimp only at hq); go_simp; (try (with_reducible rfl)); done))
            | (refine WQ.skip (by rfl) ?_))
          try simp only [Act.put, List.setIfInBounds_toArray, List.set_cons_zero, List.set_cons_succ]
          (first
            | (refine WQ.take (v := ?_) (by rfl) ?_ ?_
               rotate_left
               focus (intro wq hq; (try dsimp only at hq); go_simp; (try (with_reducible rfl)); done))
            | (refine WQ.skip (by rfl) ?_))
          try simp only [Act.put, List.setIfInBounds_toArray, List.set_cons_zero, List.set_cons_succ]
          (first
            | (refine WQ.take (v := ?_) (by rfl) ?_ ?_
               rotate_left
               focus (intro wq hq; (try dsimp only at hq); go_simp; (try (with_reducible rfl)); done))
            | (refine WQ.skip (by rfl) ?_))
          try simp only [Act.put, List.setIfInBounds_toArray, List.set_cons_zero, List.set_cons_succ]
          (first
            | (refine WQ.take (v := ?_) (by rfl) ?_ ?_
               rotate_left
               focus (intro wq hq; (try dsimp only at hq); go_simp; (try (with_reducible rfl)); done))
            | (refine WQ.skip (by rfl) ?_))
          try simp only [Act.put, List.setIfInBounds_toArray, List.set_cons_zero, List.set_cons_succ]
          (first
            | (refine WQ.take (v := ?_) (by rfl) ?_ ?_
               rotate_left
               focus (intro wq hq; (try dsimp only at hq); go_simp; (try (with_reducible rfl)); done))
            | (refine WQ.skip (by rfl) ?_))
          try simp only [Act.put, List.setIfInBounds_toArray, List.set_cons_zero, List.set_cons_succ]
          (first
            | (refine WQ.take (v := ?_) (by rfl) ?_ ?_
               rotate_left
               focus (intro wq hq; (try dsimp only at hq); go_simp; (try (with_reducible rfl)); done))
            | (refine WQ.skip (by rfl) ?_))
          try simp only [Act.put, List.setIfInBounds_toArray, List.set_cons_zero, List.set_cons_succ]
          (first
            | (refine WQ.take (v := ?_) (by rfl) ?_ ?_
               rotate_left
               focus (intro wq hq; (try dsimp only at hq); go_simp; (try (with_reducible rfl)); done))
            | (refine WQ.skip (by rfl) ?_))
          try simp only [Act.put, List.setIfInBounds_toArray, List.set_cons_zero, List.set_cons_succ]
          (first
            | (refine WQ.take (v := ?_) (by rfl) ?_ ?_
               rotate_left
               focus (intro wq hq; (try dsimp only at hq); go_simp; (try (with_reducible rfl)); done))
            | (refine WQ.skip (by rfl) ?_))
          try simp only [Act.put, List.setIfInBounds_toArray, List.set_cons_zero, List.set_cons_succ]
          (first
            | (refine WQ.take (v := ?_) (by rfl) ?_ ?_
               rotate_left
               focus (intro wq hq; (try dsimp only at hq); go_simp; (try (with_reducible rfl)); done))
            | (refine WQ.skip (by rfl) ?_))
          try simp only [Act.put, List.setIfInBounds_toArray, List.set_cons_zero, List.set_cons_succ]
          (first
            | (refine WQ.take (v := ?_) (by rfl) ?_ ?_
               rotate_left
               focus (intro wq hq; (try dsimp only at hq); go_simp; (try (with_reducible rfl)); done))
            | (refine WQ.skip (by rfl) ?_))
          try simp only [Act.put, List.setIfInBounds_toArray, List.set_cons_zero, List.set_cons_succ]
          (first
            | (refine WQ.take (v := ?_) (by rfl) ?_ ?_
               rotate_left
               focus (intro wq hq; (try dsimp only at hq); go_simp; (try (with_reducible rfl)); done))
            | (refine WQ.skip (by rfl) ?_))
          try simp only [Act.put, List.setIfInBounds_toArray, List.set_cons_zero, List.set_cons_succ]
          (first
            | (refine WQ.take (v := ?_) (by rfl) ?_ ?_
               rotate_left
               focus (intro wq hq; (try dsimp only at hq); go_simp; (try (with_reducible rfl)); done))
            | (refine WQ.skip (by rfl) ?_))
          try simp only [Act.put, List.setIfInBounds_toArray, List.set_cons_zero, List.set_cons_succ]
          (first
            | (refine WQ.take (v := ?_) (by rfl) ?_ ?_
               rotate_left
               focus (intro wq hq; (try dsimp only at hq); go_simp; (try (with_reducible rfl)); done))
            | (refine WQ.skip (by rfl) ?_))
          try simp only [Act.put, List.setIfInBounds_toArray, List.set_cons_zero, List.set_cons_succ]
          (first
            | (refine WQ.take (v := ?_) (by rfl) ?_ ?_
               rotate_left
               focus (intro wq hq; (try dsimp only at hq); go_simp; (try (with_reducible rfl)); done))
            | (refine WQ.skip (by rfl) ?_))
          try simp only [Act.put, List.setIfInBounds_toArray, List.set_cons_zero, List.set_cons_succ]
          (first
            | (refine WQ.take (v := ?_) (by rfl) ?_ ?_
               rotate_left
               focus (intro wq hq; (try dsimp only at hq); go_simp; (try (with_reducible rfl)); done))
            | (refine WQ.skip (by rfl) ?_))
          try simp only [Act.put, List.setIfInBounds_toArray, List.set_cons_zero, List.set_cons_succ]
          (first
            | (refine WQ.take (v := ?_) (by rfl) ?_ ?_
               rotate_left
               focus (intro wq hq; (try dsimp only at hq); go_simp; (try (with_reducible rfl)); done))
            | (refine WQ.skip (by rfl) ?_))
          try simp only [Act.put, List.setIfInBounds_toArray, List.set_cons_zero, List.set_cons_succ]
          refine WQ.skip (by rfl) ?_
          try simp only [Act.put, List.setIfInBounds_toArray, List.set_cons_zero, List.set_cons_succ]
          (first
            | (refine WQ.take (v := ?_) (by rfl) ?_ ?_
               rotate_left
               focus (intro wq hq; (try dsimp only at hq); go_simp; (try (with_reducible rfl)); done))
            | (refine WQ.skip (by rfl) ?_))
          try simp only [Act.put, List.setIfInBounds_toArray, List.set_cons_zero, List.set_cons_succ]
          (first
            | (refine WQ.take (v := ?_) (by rfl) ?_ ?_
               rotate_left
               focus (intro wq hq; (try dsimp only at hq); go_simp; (try (with_reducible rfl)); done))
            | (refine WQ.skip (by rfl) ?_))
          try simp only [Act.put, List.setIfInBounds_toArray, List.set_cons_zero, List.set_cons_succ]
          (first
            | (refine WQ.take (v := ?_) (by rfl) ?_ ?_
               rotate_left
               focus (intro wq hq; (try dsimp only at hq); go_simp; (try (with_reducible rfl)); done))
            | (refine WQ.skip (by rfl) ?_))
          try simp only [Act.put, List.setIfInBounds_toArray, List.set_cons_zero, List.set_cons_succ]
          (first
            | (refine WQ.take (v := ?_) (by rfl) ?_ ?_
               rotate_left
               focus (intro wq hq; (try dsimp only at hq); go_simp; (try (with_reducible rfl)); done))
            | (refine WQ.skip (by rfl) ?_))
          try simp only [Act.put, List.setIfInBounds_toArray, List.set_cons_zero, List.set_cons_succ]
          (first
            | (refine WQ.take (v := ?_) (by rfl) ?_ ?_
               rotate_left
               focus (intro wq hq; (try dsimp only at hq); go_simp; (try (with_reducible rfl)); done))
            | (refine WQ.skip (by rfl) ?_))
          try simp only [Act.put, List.setIfInBounds_toArray, List.set_cons_zero, List.set_cons_succ]
          (first
            | (refine WQ.take (v := ?_) (by rfl) ?_ ?_
               rotate_left
               focus (intro wq hq; (try dsimp only at hq); go_simp; (try (with_reducible rfl)); done))
            | (refine WQ.skip (by rfl) ?_))
          try simp only [Act.put, List.setIfInBounds_toArray, List.set_cons_zero, List.set_cons_succ]
          (first
            | (refine WQ.take (v := ?_) (by rfl) ?_ ?_
               rotate_left
               focus (intro wq hq; (try dsimp only at hq); go_simp; (try (with_reducible rfl)); done))
            | (refine WQ.skip (by rfl) ?_))
          try simp only [Act.put, List.setIfInBounds_toArray, List.set_cons_zero, List.set_cons_succ]
          refine WQ.nil ?_
          rintro w9 ⟨hb9, _⟩
          have b9 := b5.trans (hb9.mono b5.size)
          go_wp2_with fail
          go_roundw
          case rel => exact ⟨1, by omega, by go_num, Lib.hid (fun j hj => by
            obtain rfl : j = 0 := by omega
            exact HT.out), b9⟩
          case measure => simp [intOf]; omega
        · rw [kk4, Bool.not_true, Bool.false_or] at hat
          cases X
          · have hF := hno hat
            have Hat := Lib.hid hat; clear hat
            have Hno := Lib.hid hno; clear hno
            have HF := Lib.hid hF; clear hF
            go_wp2_with (first | (refine wpList_store_mid rfl _ _ _ rfl (wr).heap.size 0 (List.toArray (ntL (g.x) (g.z))) rfl rfl HTT.out (by kernel_rfl) HOO.out ?_; rw [show ((wr).alloc (ntZ 55)).setCells (wr).heap.size 0 (List.toArray (ntL (g.x) (g.z))).toList = w5 from HWW.out]) | (refine wpList_load_mid rfl _ _ rfl b (off) rfl (NtG.cells g) _ (HP.out) Tryz.underlying55 rfl (by kernel_rfl) ?_))
            clear HTT HWW HOO
            refine wp_region_wqC (C := fun w' => Below w5.heap.size w5 w' ∧ (∀ x, w'.cell? ⟨b, x, none⟩ = w5.cell? ⟨b, x, none⟩) ∧ (∀ x, w'.cell? ⟨wr.heap.size, x, none⟩ = w5.cell? ⟨wr.heap.size, x, none⟩)) (by kernel_rfl) (by kernel_rfl) (e1 (Below.refl _ _).drew) ?_
            refine WQ.load (by rfl) _ _ rfl wr.heap.size 0 rfl (ntL g.x g.z) _ (fun wq hq => HRN.out wq hq.1) Tryz.underlying55 rfl (by kernel_rfl) ?_
            try simp only [Act.put, List.setIfInBounds_toArray, List.set_cons_zero, List.set_cons_succ]
            refine WQ.take (v := .bool true) (by rfl) (fun wq hq => ?_) ?_
            focus (go_simp; (refine (HO.out wq hq.1).mono ?_; rintro e w2 ⟨rfl, hb2⟩; exact ⟨rfl, e1 (hq.1.trans (hb2.mono hq.1.size))⟩))
            try simp only [Act.put, List.setIfInBounds_toArray, List.set_cons_zero, List.set_cons_succ]
            (first
              | (refine WQ.take (v := ?_) (by rfl) ?_ ?_
                 rotate_left
                 focus (intro wq hq; (try dsimp only at hq); go_simp; (try (with_reducible rfl)); done))
              | (refine WQ.skip (by rfl) ?_))
            try simp only [Act.put, List.setIfInBounds_toArray, List.set_cons_zero, List.set_cons_succ]
            (first
              | (refine WQ.take (v := ?_) (by rfl) ?_ ?_
                 rotate_left
                 focus (intro wq hq; (try dsimp only at hq); go_simp; (try (with_reducible rfl)); done))
              | (refine WQ.skip (by rfl) ?_))
            try simp only [Act.put, List.setIfInBounds_toArray, List.set_cons_zero, List.set_cons_succ]
            (first
              | (refine WQ.take (v := ?_) (by rfl) ?_ ?_
                 rotate_left
                 focus (intro wq hq; (try dsimp only at hq); go_simp; (try (with_reducible rfl)); done))
              | (refine WQ.skip (by rfl) ?_))
            try simp only [Act.put, List.setIfInBounds_toArray, List.set_cons_zero, List.set_cons_succ]
            (first
              | (refine WQ.take (v := ?_) (by rfl) ?_ ?_
                 rotate_left
                 focus (intro wq hq; (try dsimp only at hq); go_simp; (try (with_reducible rfl)); done))
              | (refine WQ.skip (by rfl) ?_))
            try simp only [Act.put, List.setIfInBounds_toArray, List.set_cons_zero, List.set_cons_succ]
            (first
              | (refine WQ.take (v := ?_) (by rfl) ?_ ?_
                 rotate_left
                 focus (intro wq hq; (try dsimp only at hq); go_simp; (try (with_reducible rfl)); done))
              | (refine WQ.skip (by rfl) ?_))
            try simp only [Act.put, List.setIfInBounds_toArray, List.set_cons_zero, List.set_cons_succ]
            (first
              | (refine WQ.take (v := ?_) (by rfl) ?_ ?_
                 rotate_left
                 focus (intro wq hq; (try dsimp only at hq); go_simp; (try (with_reducible rfl)); done))
              | (refine WQ.skip (by rfl) ?_))
            try simp only [Act.put, List.setIfInBounds_toArray, List.set_cons_zero, List.set_cons_succ]
            (first
              | (refine WQ.take (v := ?_) (by rfl) ?_ ?_
                 rotate_left
                 focus (intro wq hq; (try dsimp only at hq); go_simp; (try (with_reducible rfl)); done))
              | (refine WQ.skip (by rfl) ?_))
            try simp only [Act.put, List.setIfInBounds_toArray, List.set_cons_zero, List.set_cons_succ]
            (first
              | (refine WQ.take (v := ?_) (by rfl) ?_ ?_
                 rotate_left
                 focus (intro wq hq; (try dsimp only at hq); go_simp; (try (with_reducible rfl)); done))
              | (refine WQ.skip (by rfl) ?_))
            try simp only [Act.put, List.setIfInBounds_toArray, List.set_cons_zero, List.set_cons_succ]
            (first
              | (refine WQ.take (v := ?_) (by rfl) ?_ ?_
                 rotate_left
                 focus (intro wq hq; (try dsimp only at hq); go_simp; (try (with_reducible rfl)); done))
              | (refine WQ.skip (by rfl) ?_))
            try simp only [Act.put, List.setIfInBounds_toArray, List.set_cons_zero, List.set_cons_succ]
            (first
              | (refine WQ.take (v := ?_) (by rfl) ?_ ?_
                 rotate_left
                 focus (intro wq hq; (try dsimp only at hq); go_simp; (try (with_reducible rfl)); done))
              | (refine WQ.skip (by rfl) ?_))
            try simp only [Act.put, List.setIfInBounds_toArray, List.set_cons_zero, List.set_cons_succ]
            (first
              | (refine WQ.take (v := ?_) (by rfl) ?_ ?_
                 rotate_left
                 focus (intro wq hq; (try dsimp only at hq); go_simp; (try (with_reducible rfl)); done))
              | (refine WQ.skip (by rfl) ?_))
            try simp only [Act.put, List.setIfInBounds_toArray, List.set_cons_zero, List.set_cons_succ]
            (first
              | (refine WQ.take (v := ?_) (by rfl) ?_ ?_
                 rotate_left
                 focus (intro wq hq; (try dsimp only at hq); go_simp; (try (with_reducible rfl)); done))
              | (refine WQ.skip (by rfl) ?_))
            try simp only [Act.put, List.setIfInBounds_toArray, List.set_cons_zero, List.set_cons_succ]
            (first
              | (refine WQ.take (v := ?_) (by rfl) ?_ ?_
                 rotate_left
                 focus (intro wq hq; (try dsimp only at hq); go_simp; (try (with_reducible rfl)); done))
              | (refine WQ.skip (by rfl) ?_))
            try simp only [Act.put, List.setIfInBounds_toArray, List.set_cons_zero, List.set_cons_succ]
            (first
              | (refine WQ.take (v := ?_) (by rfl) ?_ ?_
                 rotate_left
                 focus (intro wq hq; (try dsimp only at hq); go_simp; (try (with_reducible rfl)); done))
              | (refine WQ.skip (by rfl) ?_))
            try simp only [Act.put, List.setIfInBounds_toArray, List.set_cons_zero, List.set_cons_succ]
            (first
              | (refine WQ.take (v := ?_) (by rfl) ?_ ?_
                 rotate_left
                 focus (intro wq hq; (try dsimp only at hq); go_simp; (try (with_reducible rfl)); done))
              | (refine WQ.skip (by rfl) ?_))
            try simp only [Act.put, List.setIfInBounds_toArray, List.set_cons_zero, List.set_cons_succ]
            (first
              | (refine WQ.take (v := ?_) (by rfl) ?_ ?_
                 rotate_left
                 focus (intro wq hq; (try dsimp only at hq); go_simp; (try (with_reducible rfl)); done))
              | (refine WQ.skip (by rfl) ?_))
            try simp only [Act.put, List.setIfInBounds_toArray, List.set_cons_zero, List.set_cons_succ]
            (first
              | (refine WQ.take (v := ?_) (by rfl) ?_ ?_
                 rotate_left
                 focus (intro wq hq; (try dsimp only at hq); go_simp; (try (with_reducible rfl)); done))
              | (refine WQ.skip (by rfl) ?_))
            try simp only [Act.put, List.setIfInBounds_toArray, List.set_cons_zero, List.set_cons_succ]
            (first
              | (refine WQ.take (v := ?_) (by rfl) ?_ ?_
                 rotate_left
                 focus (intro wq hq; (try dsimp only at hq); go_simp; (try (with_reducible rfl)); done))
              | (refine WQ.skip (by rfl) ?_))
            try simp only [Act.put, List.setIfInBounds_toArray, List.set_cons_zero, List.set_cons_succ]
            (first
              | (refine WQ.take (v := ?_) (by rfl) ?_ ?_
                 rotate_left
                 focus (intro wq hq; (try dsimp only at hq); go_simp; (try (with_reducible rfl)); done))
              | (refine WQ.skip (by rfl) ?_))
            try simp only [Act.put, List.setIfInBounds_toArray, List.set_cons_zero, List.set_cons_succ]
            (first
              | (refine WQ.take (v := ?_) (by rfl) ?_ ?_
                 rotate_left
                 focus (intro wq hq; (try dsimp only at hq); go_simp; (try (with_reducible rfl)); done))
              | (refine WQ.skip (by rfl) ?_))
            try simp only [Act.put, List.setIfInBounds_toArray, List.set_cons_zero, List.set_cons_succ]
            (first
              | (refine WQ.take (v := ?_) (by rfl) ?_ ?_
                 rotate_left
                 focus (intro wq hq; (try dsimp only at hq); go_simp; (try (with_reducible rfl)); done))
              | (refine WQ.skip (by rfl) ?_))
            try simp only [Act.put, List.setIfInBounds_toArray, List.set_cons_zero, List.set_cons_succ]
            (first
              | (refine WQ.take (v := ?_) (by rfl) ?_ ?_
                 rotate_left
                 focus (intro wq hq; (try dsimp only at hq); go_simp; (try (with_reducible rfl)); done))
              | (refine WQ.skip (by rfl) ?_))
            try simp only [Act.put, List.setIfInBounds_toArray, List.set_cons_zero, List.set_cons_succ]
            (first
              | (refine WQ.take (v := ?_) (by rfl) ?_ ?_
                 rotate_left
                 focus (intro wq hq; (try dsimp only at hq); go_simp; (try (with_reducible rfl)); done))
              | (refine WQ.skip (by rfl) ?_))
            try simp only [Act.put, List.setIfInBounds_toArray, List.set_cons_zero, List.set_cons_succ]
            (first
              | (refine WQ.take (v := ?_) (by rfl) ?_ ?_
                 rotate_left
                 focus (intro wq hq; (try dsimp only at hq); go_simp; (try (with_reducible rfl)); done))
              | (refine WQ.skip (by rfl) ?_))
            try simp only [Act.put, List.setIfInBounds_toArray, List.set_cons_zero, List.set_cons_succ]
            (first
              | (refine WQ.take (v := ?_) (by rfl) ?_ ?_
                 rotate_left
                 focus (intro wq hq; (try dsimp only at hq); go_simp; (try (with_reducible rfl)); done))
              | (refine WQ.skip (by rfl) ?_))
            try simp only [Act.put, List.setIfInBounds_toArray, List.set_cons_zero, List.set_cons_succ]
            (first
              | (refine WQ.take (v := ?_) (by rfl) ?_ ?_
                 rotate_left
                 focus (intro wq hq; (try dsimp only at hq); go_simp; (try (with_reducible rfl)); done))
              | (refine WQ.skip (by rfl) ?_))
            try simp only [Act.put, List.setIfInBounds_toArray, List.set_cons_zero, List.set_cons_succ]
            (first
              | (refine WQ.take (v := ?_) (by rfl) ?_ ?_
                 rotate_left
                 focus (intro wq hq; (try dsimp only at hq); go_simp; (try (with_reducible rfl)); done))
              | (refine WQ.skip (by rfl) ?_))
            try simp only [Act.put, List.setIfInBounds_toArray, List.set_cons_zero, List.set_cons_succ]
            (first
              | (refine WQ.take (v := ?_) (by rfl) ?_ ?_
                 rotate_left
                 focus (intro wq hq; (try dsimp only at hq); go_simp; (try (with_reducible rfl)); done))
              | (refine WQ.skip (by rfl) ?_))
            try simp only [Act.put, List.setIfInBounds_toArray, List.set_cons_zero, List.set_cons_succ]
            (first
              | (refine WQ.take (v := ?_) (by rfl) ?_ ?_
                 rotate_left
                 focus (intro wq hq; (try dsimp only at hq); go_simp; (try (with_reducible rfl)); done))
              | (refine WQ.skip (by rfl) ?_))
            try simp only [Act.put, List.setIfInBounds_toArray, List.set_cons_zero, List.set_cons_succ]
            (first
              | (refine WQ.take (v := ?_) (by rfl) ?_ ?_
                 rotate_left
                 focus (intro wq hq; (try dsimp only at hq); go_simp; (try (with_reducible rfl)); done))
              | (refine WQ.skip (by rfl) ?_))
            try simp only [Act.put, List.setIfInBounds_toArray, List.set_cons_zero, List.set_cons_succ]
            (first
              | (refine WQ.take (v := ?_) (by rfl) ?_ ?_
                 rotate_left
                 focus (intro wq hq; (try dsimp only at hq); go_simp; (try (with_reducible rfl)); done))
              | (refine WQ.skip (by rfl) ?_))
            try simp only [Act.put, List.setIfInBounds_toArray, List.set_cons_zero, List.set_cons_succ]
            (first
              | (refine WQ.take (v := ?_) (by rfl) ?_ ?_
                 rotate_left
                 focus (intro wq hq; (try dsimp only at hq); go_simp; (try (with_reducible rfl)); done))
              | (refine WQ.skip (by rfl) ?_))
            try simp only [Act.put, List.setIfInBounds_toArray, List.set_cons_zero, List.set_cons_succ]
            refine WQ.load (by rfl) _ _ rfl wr.heap.size 0 rfl (ntL g.x g.z) _ (fun wq hq => HRN.out wq hq.1) Tryz.underlying55 rfl (by kernel_rfl) ?_
            try simp only [Act.put, List.setIfInBounds_toArray, List.set_cons_zero, List.set_cons_succ]
            (first
              | (refine WQ.take (v := ?_) (by rfl) ?_ ?_
                 rotate_left
                 focus (intro wq hq; (try dsimp only at hq); go_simp; (try (with_reducible rfl)); done))
              | (refine WQ.skip (by rfl) ?_))
            try simp only [Act.put, List.setIfInBounds_toArray, List.set_cons_zero, List.set_cons_succ]
            (first
              | (refine WQ.take (v := ?_) (by rfl) ?_ ?_
                 rotate_left
                 focus (intro wq hq; (try dsimp only at hq); go_simp; (try (with_reducible rfl)); done))
              | (refine WQ.skip (by rfl) ?_))
            try simp only [Act.put, List.setIfInBounds_toArray, List.set_cons_zero, List.set_cons_succ]
            (first
              | (refine WQ.take (v := ?_) (by rfl) ?_ ?_
                 rotate_left
                 focus (intro wq hq; (try dsimp only at hq); go_simp; (try (with_reducible rfl)); done))
              | (refine WQ.skip (by rfl) ?_))
            try simp only [Act.put, List.setIfInBounds_toArray, List.set_cons_zero, List.set_cons_succ]
            refine WQ.take (v := .bool false) (by rfl) (fun wq hq => ?_) ?_
            focus (go_simp; (refine (HX.out wq hq.1).mono ?_; rintro e w2 ⟨rfl, hb2⟩; exact ⟨rfl, e1 (hq.1.trans (hb2.mono hq.1.size))⟩))
            try simp only [Act.put, List.setIfInBounds_toArray, List.set_cons_zero, List.set_cons_succ]
            (first
              | (refine WQ.take (v := ?_) (by rfl) ?_ ?_
                 rotate_left
                 focus (intro wq hq; (try dsimp only at hq); go_simp; (try (with_reducible rfl)); done))
              | (refine WQ.skip (by rfl) ?_))
            try simp only [Act.put, List.setIfInBounds_toArray, List.set_cons_zero, List.set_cons_succ]
            (first
              | (refine WQ.take (v := ?_) (by rfl) ?_ ?_
                 rotate_left
                 focus (intro wq hq; (try dsimp only at hq); go_simp; (try (with_reducible rfl)); done))
              | (refine WQ.skip (by rfl) ?_))
            try simp only [Act.put, List.setIfInBounds_toArray, List.set_cons_zero, List.set_cons_succ]
            (first
              | (refine WQ.take (v := ?_) (by rfl) ?_ ?_
                 rotate_left
                 focus (intro wq hq; (try dsimp only at hq); go_simp; (try (with_reducible rfl)); done))
              | (refine WQ.skip (by rfl) ?_))
            try simp only [Act.put, List.setIfInBounds_toArray, List.set_cons_zero, List.set_cons_succ]
            refine WQ.nil ?_
            rintro w9 ⟨hb9, _⟩
            have b9 := b5.trans (hb9.mono b5.size)
            go_wp2_with fail
            go_ret
            exact ⟨ret_eq (bool_eq HF.out.symm), b9⟩
          · have HT := Lib.hid hat; clear hat
            have Hno := Lib.hid hno; clear hno
            go_wp2_with (first | (refine wpList_store_mid rfl _ _ _ rfl (wr).heap.size 0 (List.toArray (ntL (g.x) (g.z))) rfl rfl HTT.out (by kernel_rfl) HOO.out ?_; rw [show ((wr).alloc (ntZ 55)).setCells (wr).heap.size 0 (List.toArray (ntL (g.x) (g.z))).toList = w5 from HWW.out]) | (refine wpList_load_mid rfl _ _ rfl b (off) rfl (NtG.cells g) _ (HP.out) Tryz.underlying55 rfl (by kernel_rfl) ?_))
            clear HTT HWW HOO
            refine wp_region_wqC (C := fun w' => Below w5.heap.size w5 w' ∧ (∀ x, w'.cell? ⟨b, x, none⟩ = w5.cell? ⟨b, x, none⟩) ∧ (∀ x, w'.cell? ⟨wr.heap.size, x, none⟩ = w5.cell? ⟨wr.heap.size, x, none⟩)) (by kernel_rfl) (by kernel_rfl) (e1 (Below.refl _ _).drew) ?_
            refine WQ.load (by rfl) _ _ rfl wr.heap.size 0 rfl (ntL g.x g.z) _ (fun wq hq => HRN.out wq hq.1) Tryz.underlying55 rfl (by kernel_rfl) ?_
            try simp only [Act.put, List.setIfInBounds_toArray, List.set_cons_zero, List.set_cons_succ]
            refine WQ.take (v := .bool true) (by rfl) (fun wq hq => ?_) ?_
            focus (go_simp; (refine (HO.out wq hq.1).mono ?_; rintro e w2 ⟨rfl, hb2⟩; exact ⟨rfl, e1 (hq.1.trans (hb2.mono hq.1.size))⟩))
            try simp only [Act.put, List.setIfInBounds_toArray, List.set_cons_zero, List.set_cons_succ]
            (first
              | (refine WQ.take (v := ?_) (by rfl) ?_ ?_
                 rotate_left
                 focus (intro wq hq; (try dsimp only at hq); go_simp; (try (with_reducible rfl)); done))
              | (refine WQ.skip (by rfl) ?_))
            try simp only [Act.put, List.setIfInBounds_toArray, List.set_cons_zero, List.set_cons_succ]
            (first
              | (refine WQ.take (v := ?_) (by rfl) ?_ ?_
                 rotate_left
                 focus (intro wq hq; (try dsimp only at hq); go_simp; (try (with_reducible rfl)); done))
              | (refine WQ.skip (by rfl) ?_))
            try simp only [Act.put, List.setIfInBounds_toArray, List.set_cons_zero, List.set_cons_succ]
            (first
              | (refine WQ.take (v := ?_) (by rfl) ?_ ?_
                 rotate_left
                 focus (intro wq hq; (try dsimp only at hq); go_simp; (try (with_reducible rfl)); done))
              | (refine WQ.skip (by rfl) ?_))
            try simp only [Act.put, List.setIfInBounds_toArray, List.set_cons_zero, List.set_cons_succ]
            (first
              | (refine WQ.take (v := ?_) (by rfl) ?_ ?_
                 rotate_left
                 focus (intro wq hq; (try dsimp only at hq); go_simp; (try (with_reducible rfl)); done))
              | (refine WQ.skip (by rfl) ?_))
            try simp only [Act.put, List.setIfInBounds_toArray, List.set_cons_zero, List.set_cons_succ]
            (first
              | (refine WQ.take (v := ?_) (by rfl) ?_ ?_
                 rotate_left
                 focus (intro wq hq; (try dsimp only at hq); go_simp; (try (with_reducible rfl)); done))
              | (refine WQ.skip (by rfl) ?_))
            try simp only [Act.put, List.setIfInBounds_toArray, List.set_cons_zero, List.set_cons_succ]
            (first
              | (refine WQ.take (v := ?_) (by rfl) ?_ ?_
                 rotate_left
                 focus (intro wq hq; (try dsimp only at hq); go_simp; (try (with_reducible rfl)); done))
              | (refine WQ.skip (by rfl) ?_))
            try simp only [Act.put, List.setIfInBounds_toArray, List.set_cons_zero, List.set_cons_succ]
            (first
              | (refine WQ.take (v := ?_) (by rfl) ?_ ?_
                 rotate_left
                 focus (intro wq hq; (try dsimp only at hq); go_simp; (try (with_reducible rfl)); done))
              | (refine WQ.skip (by rfl) ?_))
            try simp only [Act.put, List.setIfInBounds_toArray, List.set_cons_zero, List.set_cons_succ]
            (first
              | (refine WQ.take (v := ?_) (by rfl) ?_ ?_
                 rotate_left
                 focus (intro wq hq; (try dsimp only at hq); go_simp; (try (with_reducible rfl)); done))
              | (refine WQ.skip (by rfl) ?_))
            try simp only [Act.put, List.setIfInBounds_toArray, List.set_cons_zero, List.set_cons_succ]
            (first
              | (refine WQ.take (v := ?_) (by rfl) ?_ ?_
                 rotate_left
                 focus (intro wq hq; (try dsimp only at hq); go_simp; (try (with_reducible rfl)); done))
              | (refine WQ.skip (by rfl) ?_))
            try simp only [Act.put, List.setIfInBounds_toArray, List.set_cons_zero, List.set_cons_succ]
            (first
              | (refine WQ.take (v := ?_) (by rfl) ?_ ?_
                 rotate_left
                 focus (intro wq hq; (try dsimp only at hq); go_simp; (try (with_reducible rfl)); done))
              | (refine WQ.skip (by rfl) ?_))
            try simp only [Act.put, List.setIfInBounds_toArray, List.set_cons_zero, List.set_cons_succ]
            (first
              | (refine WQ.take (v := ?_) (by rfl) ?_ ?_
                 rotate_left
                 focus (intro wq hq; (try dsimp only at hq); go_simp; (try (with_reducible rfl)); done))
              | (refine WQ.skip (by rfl) ?_))
            try simp only [Act.put, List.setIfInBounds_toArray, List.set_cons_zero, List.set_cons_succ]
            (first
              | (refine WQ.take (v := ?_) (by rfl) ?_ ?_
                 rotate_left
                 focus (intro wq hq; (try dsimp only at hq); go_simp; (try (with_reducible rfl)); done))
              | (refine WQ.skip (by rfl) ?_))
            try simp only [Act.put, List.setIfInBounds_toArray, List.set_cons_zero, List.set_cons_succ]
            (first
              | (refine WQ.take (v := ?_) (by rfl) ?_ ?_
                 rotate_left
                 focus (intro wq hq; (try dsimp only at hq); go_simp; (try (with_reducible rfl)); done))
              | (refine WQ.skip (by rfl) ?_))
            try simp only [Act.put, List.setIfInBounds_toArray, List.set_cons_zero, List.set_cons_succ]
            (first
              | (refine WQ.take (v := ?_) (by rfl) ?_ ?_
                 rotate_left
                 focus (intro wq hq; (try dsimp only at hq); go_simp; (try (with_reducible rfl)); done))
              | (refine WQ.skip (by rfl) ?_))
            try simp only [Act.put, List.setIfInBounds_toArray, List.set_cons_zero, List.set_cons_succ]
            (first
              | (refine WQ.take (v := ?_) (by rfl) ?_ ?_
                 rotate_left
                 focus (intro wq hq; (try dsimp only at hq); go_simp; (try (with_reducible rfl)); done))
              | (refine WQ.skip (by rfl) ?_))
            try simp only [Act.put, List.setIfInBounds_toArray, List.set_cons_zero, List.set_cons_succ]
            (first
              | (refine WQ.take (v := ?_) (by rfl) ?_ ?_
                 rotate_left
                 focus (intro wq hq; (try dsimp only at hq); go_simp; (try (with_reducible rfl)); done))
              | (refine WQ.skip (by rfl) ?_))
            try simp only [Act.put, List.setIfInBounds_toArray, List.set_cons_zero, List.set_cons_succ]
            (first
              | (refine WQ.take (v := ?_) (by rfl) ?_ ?_
                 rotate_left
                 focus (intro wq hq; (try dsimp only at hq); go_simp; (try (with_reducible rfl)); done))
              | (refine WQ.skip (by rfl) ?_))
            try simp only [Act.put, List.setIfInBounds_toArray, List.set_cons_zero, List.set_cons_succ]
            (first
              | (refine WQ.take (v := ?_) (by rfl) ?_ ?_
                 rotate_left
                 focus (intro wq hq; (try dsimp only at hq); go_simp; (try (with_reducible rfl)); done))
              | (refine WQ.skip (by rfl) ?_))
            try simp only [Act.put, List.setIfInBounds_toArray, List.set_cons_zero, List.set_cons_succ]
            (first
              | (refine WQ.take (v := ?_) (by rfl) ?_ ?_
                 rotate_left
                 focus (intro wq hq; (try dsimp only at hq); go_simp; (try (with_reducible rfl)); done))
              | (refine WQ.skip (by rfl) ?_))
            try simp only [Act.put, List.setIfInBounds_toArray, List.set_cons_zero, List.set_cons_succ]
            (first
              | (refine WQ.take (v := ?_) (by rfl) ?_ ?_
                 rotate_left
                 focus (intro wq hq; (try dsimp only at hq); go_simp; (try (with_reducible rfl)); done))
              | (refine WQ.skip (by rfl) ?_))
            try simp only [Act.put, List.setIfInBounds_toArray, List.set_cons_zero, List.set_cons_succ]
            (first
              | (refine WQ.take (v := ?_) (by rfl) ?_ ?_
                 rotate_left
                 focus (intro wq hq; (try dsimp only at hq); go_simp; (try (with_reducible rfl)); done))
              | (refine WQ.skip (by rfl) ?_))
            try simp only [Act.put, List.setIfInBounds_toArray, List.set_cons_zero, List.set_cons_succ]
            (first
              | (refine WQ.take (v := ?_) (by rfl) ?_ ?_
                 rotate_left
                 focus (intro wq hq; (try dsimp only at hq); go_simp; (try (with_reducible rfl)); done))
              | (refine WQ.skip (by rfl) ?_))
            try simp only [Act.put, List.setIfInBounds_toArray, List.set_cons_zero, List.set_cons_succ]
            (first
              | (refine WQ.take (v := ?_) (by rfl) ?_ ?_
                 rotate_left
                 focus (intro wq hq; (try dsimp only at hq); go_simp; (try (with_reducible rfl)); done))
              | (refine WQ.skip (by rfl) ?_))
            try simp only [Act.put, List.setIfInBounds_toArray, List.set_cons_zero, List.set_cons_succ]
            (first
              | (refine WQ.take (v := ?_) (by rfl) ?_ ?_
                 rotate_left
                 focus (intro wq hq; (try dsimp only at hq); go_simp; (try (with_reducible rfl)); done))
              | (refine WQ.skip (by rfl) ?_))
            try simp only [Act.put, List.setIfInBounds_toArray, List.set_cons_zero, List.set_cons_succ]
            (first
              | (refine WQ.take (v := ?_) (by rfl) ?_ ?_
                 rotate_left
                 focus (intro wq hq; (try dsimp only at hq); go_simp; (try (with_reducible rfl)); done))
              | (refine WQ.skip (by rfl) ?_))
            try simp only [Act.put, List.setIfInBounds_toArray, List.set_cons_zero, List.set_cons_succ]
            (first
              | (refine WQ.take (v := ?_) (by rfl) ?_ ?_
                 rotate_left
                 focus (intro wq hq; (try dsimp only at hq); go_simp; (try (with_reducible rfl)); done))
              | (refine WQ.skip (by rfl) ?_))
            try simp only [Act.put, List.setIfInBounds_toArray, List.set_cons_zero, List.set_cons_succ]
            (first
              | (refine WQ.take (v := ?_) (by rfl) ?_ ?_
                 rotate_left
                 focus (intro wq hq; (try dsimp only at hq); go_simp; (try (with_reducible rfl)); done))
              | (refine WQ.skip (by rfl) ?_))
            try simp only [Act.put, List.setIfInBounds_toArray, List.set_cons_zero, List.set_cons_succ]
            (first
              | (refine WQ.take (v := ?_) (by rfl) ?_ ?_
                 rotate_left
                 focus (intro wq hq; (try dsimp only at hq); go_simp; (try (with_reducible rfl)); done))
              | (refine WQ.skip (by rfl) ?_))
            try simp only [Act.put, List.setIfInBounds_toArray, List.set_cons_zero, List.set_cons_succ]
            (first
              | (refine WQ.take (v := ?_) (by rfl) ?_ ?_
                 rotate_left
                 focus (intro wq hq; (try dsimp only at hq); go_simp; (try (with_reducible rfl)); done))
              | (refine WQ.skip (by rfl) ?_))
            try simp only [Act.put, List.setIfInBounds_toArray, List.set_cons_zero, List.set_cons_succ]
            (first
              | (refine WQ.take (v := ?_) (by rfl) ?_ ?_
                 rotate_left
                 focus (intro wq hq; (try dsimp only at hq); go_simp; (try (with_reducible rfl)); done))
              | (refine WQ.skip (by rfl) ?_))
            try simp only [Act.put, List.setIfInBounds_toArray, List.set_cons_zero, List.set_cons_succ]
            (first
              | (refine WQ.take (v := ?_) (by rfl) ?_ ?_
                 rotate_left
                 focus (intro wq hq; (try dsimp only at hq); go_simp; (try (with_reducible rfl)); done))
              | (refine WQ.skip (by rfl) ?_))
            try simp only [Act.put, List.setIfInBounds_toArray, List.set_cons_zero, List.set_cons_succ]
            (first
              | (refine WQ.take (v := ?_) (by rfl) ?_ ?_
                 rotate_left
                 focus (intro wq hq; (try dsimp only at hq); go_simp; (try (with_reducible rfl)); done))
              | (refine WQ.skip (by rfl) ?_))
            try simp only [Act.put, List.setIfInBounds_toArray, List.set_cons_zero, List.set_cons_succ]
            refine WQ.load (by rfl) _ _ rfl wr.heap.size 0 rfl (ntL g.x g.z) _ (fun wq hq => HRN.out wq hq.1) Tryz.underlying55 rfl (by kernel_rfl) ?_
            try simp only [Act.put, List.setIfInBounds_toArray, List.set_cons_zero, List.set_cons_succ]
            (first
              | (refine WQ.take (v := ?_) (by rfl) ?_ ?_
                 rotate_left
                 focus (intro wq hq; (try dsimp only at hq); go_simp; (try (with_reducible rfl)); done))
              | (refine WQ.skip (by rfl) ?_))
            try simp only [Act.put, List.setIfInBounds_toArray, List.set_cons_zero, List.set_cons_succ]
            (first
              | (refine WQ.take (v := ?_) (by rfl) ?_ ?_
                 rotate_left
                 focus (intro wq hq; (try dsimp only at hq); go_simp; (try (with_reducible rfl)); done))
              | (refine WQ.skip (by rfl) ?_))
            try simp only [Act.put, List.setIfInBounds_toArray, List.set_cons_zero, List.set_cons_succ]
            (first
              | (refine WQ.take (v := ?_) (by rfl) ?_ ?_
                 rotate_left
                 focus (intro wq hq; (try dsimp only at hq); go_simp; (try (with_reducible rfl)); done))
              | (refine WQ.skip (by rfl) ?_))
            try simp only [Act.put, List.setIfInBounds_toArray, List.set_cons_zero, List.set_cons_succ]
            refine WQ.take (v := .bool true) (by rfl) (fun wq hq => ?_) ?_
            focus (go_simp; (refine (HX.out wq hq.1).mono ?_; rintro e w2 ⟨rfl, hb2⟩; exact ⟨rfl, e1 (hq.1.trans (hb2.mono hq.1.size))⟩))
            try simp only [Act.put, List.setIfInBounds_toArray, List.set_cons_zero, List.set_cons_succ]
            (first
              | (refine WQ.take (v := ?_) (by rfl) ?_ ?_
                 rotate_left
                 focus (intro wq hq; (try dsimp only at hq); go_simp; (try (with_reducible rfl)); done))
              | (refine WQ.skip (by rfl) ?_))
            try simp only [Act.put, List.setIfInBounds_toArray, List.set_cons_zero, List.set_cons_succ]
            (first
              | (refine WQ.take (v := ?_) (by rfl) ?_ ?_
                 rotate_left
                 focus (intro wq hq; (try dsimp only at hq); go_simp; (try (with_reducible rfl)); done))
              | (refine WQ.skip (by rfl) ?_))
            try simp only [Act.put, List.setIfInBounds_toArray, List.set_cons_zero, List.set_cons_succ]
            (first
              | (refine WQ.take (v := ?_) (by rfl) ?_ ?_
                 rotate_left
                 focus (intro wq hq; (try dsimp only at hq); go_simp; (try (with_reducible rfl)); done))
              | (refine WQ.skip (by rfl) ?_))
            try simp only [Act.put, List.setIfInBounds_toArray, List.set_cons_zero, List.set_cons_succ]
            refine WQ.nil ?_
            rintro w9 ⟨hb9, _⟩
            have b9 := b5.trans (hb9.mono b5.size)
            go_wp2_with fail
            go_roundw
            case rel => exact ⟨1, by omega, by go_num, Lib.hid (fun j hj => by
              obtain rfl : j = 0 := by omega
              exact HT.out), b9⟩
            case measure => simp [intOf]; omega
      · obtain ⟨j, hj⟩ : ∃ j, k = j + 1 := ⟨k - 1, by omega⟩
        have hjn : j < n := by omega
        obtain ⟨b', off', p, e0, _, hxp, _, hpp⟩ := (h.next hbw).getR j hjn
        injection e0 with e0
        injection e0 with e01 e02
        subst e01 e02
        obtain ⟨⟨pm, pd, pk, pt⟩, pz⟩ := p
        obtain ⟨r0, r1, _, _, _⟩ := ntP_of (rangeB hpp hb5 hb) hb'
        simp only at r0 r1
        have hpr : prB (xsOf zs) k g.x = (decide (pm < g.x.m) && decide (pd ≤ g.x.d)) := by
          have e5 : (k == 0) = false := by simp; omega
          have e6 : (xsOf zs)[k - 1]? = some ⟨pm, pd, pk, pt⟩ := by rw [hj, Nat.add_sub_cancel, List.getElem?_map, hxp]; rfl
          rw [prB, e5, e6]; rfl
        rw [hpr] at hat
        clear hpp hpr
        have j0 : (0 : Int) ≤ (j : Int) := by omega
        have j1 : (j : Int) < (n : Int) := by omega
        have kp : (0 : Int) < (k : Int) := by omega
        have kd : decide ((0 : Int) < (k : Int)) = true := decide_eq_true kp
        have hw1 : IntKind.i64.wrap ((k : Int) - 1) = (j : Int) := by rw [IntWalk.i64_in _ (by omega)]; omega
        have Hj := Lib.hid hj; clear hj
        have Hxp := Lib.hid hxp; clear hxp
        by_cases g1 : pm < g.x.m
        · have g2 : decide (g.x.m ≤ pm) = false := by simp; omega
          have g3 : ¬ g.x.m ≤ pm := by omega
          rw [decide_eq_true g1, Bool.true_and] at hat
          by_cases g4 : pd ≤ g.x.d
          · have g5 : decide (g.x.d < pd) = false := by simp; omega
            have g6 : ¬ g.x.d < pd := by omega
            rw [decide_eq_true g4, Bool.true_and] at hat
            cases kk4 : (g.x.k == 4)
            · rw [kk4, Bool.not_false, Bool.true_or] at hat
              have HT := Lib.hid hat; clear hat
              have Hno := Lib.hid hno; clear hno
              go_wp2_with (first | (refine wpList_store_mid rfl _ _ _ rfl (wr).heap.size 0 (List.toArray (ntL (g.x) (g.z))) rfl rfl HTT.out (by kernel_rfl) HOO.out ?_; rw [show ((wr).alloc (ntZ 55)).setCells (wr).heap.size 0 (List.toArray (ntL (g.x) (g.z))).toList = w5 from HWW.out]) | (refine wpList_load_mid rfl _ _ rfl b (off + k * 20) rfl (NtG.cells g) _ (HP.out) Tryz.underlying55 rfl (by kernel_rfl) ?_))
              clear HTT HWW HOO
              refine wp_region_wqC (C := fun w' => Below w5.heap.size w5 w' ∧ (∀ x, w'.cell? ⟨b, x, none⟩ = w5.cell? ⟨b, x, none⟩) ∧ (∀ x, w'.cell? ⟨wr.heap.size, x, none⟩ = w5.cell? ⟨wr.heap.size, x, none⟩)) (by kernel_rfl) (by kernel_rfl) (e1 (Below.refl _ _).drew) ?_
              refine WQ.load (by rfl) _ _ rfl wr.heap.size 0 rfl (ntL g.x g.z) _ (fun wq hq => HRN.out wq hq.1) Tryz.underlying55 rfl (by kernel_rfl) ?_
              try simp only [Act.put, List.setIfInBounds_toArray, List.set_cons_zero, List.set_cons_succ]
              refine WQ.take (v := .bool true) (by rfl) (fun wq hq => ?_) ?_
              focus (go_simp; (refine (HO.out wq hq.1).mono ?_; rintro e w2 ⟨rfl, hb2⟩; exact ⟨rfl, e1 (hq.1.trans (hb2.mono hq.1.size))⟩))
              try simp only [Act.put, List.setIfInBounds_toArray, List.set_cons_zero, List.set_cons_succ]
              (first
                | (refine WQ.take (v := ?_) (by rfl) ?_ ?_
                   rotate_left
                   focus (intro wq hq; (try dsimp only at hq); go_simp; (try (with_reducible rfl)); done))
                | (refine WQ.skip (by rfl) ?_))
              try simp only [Act.put, List.setIfInBounds_toArray, List.set_cons_zero, List.set_cons_succ]
              (first
                | (refine WQ.take (v := ?_) (by rfl) ?_ ?_
                   rotate_left
                   focus (intro wq hq; (try dsimp only at hq); go_simp; (try (with_reducible rfl)); done))
                | (refine WQ.skip (by rfl) ?_))
              try simp only [Act.put, List.setIfInBounds_toArray, List.set_cons_zero, List.set_cons_succ]
              (first
                | (refine WQ.take (v := ?_) (by rfl) ?_ ?_
                   rotate_left
                   focus (intro wq hq; (try dsimp only at hq); go_simp; (try (with_reducible rfl)); done))
                | (refine WQ.skip (by rfl) ?_))
              try simp only [Act.put, List.setIfInBounds_toArray, List.set_cons_zero, List.set_cons_succ]
              (first
                | (refine WQ.take (v := ?_) (by rfl) ?_ ?_
                   rotate_left
                   focus (intro wq hq; (try dsimp only at hq); go_simp; (try (with_reducible rfl)); done))
                | (refine WQ.skip (by rfl) ?_))
              try simp only [Act.put, List.setIfInBounds_toArray, List.set_cons_zero, List.set_cons_succ]
              (first
                | (refine WQ.take (v := ?_) (by rfl) ?_ ?_
                   rotate_left
                   focus (intro wq hq; (try dsimp only at hq); go_simp; (try (with_reducible rfl)); done))
                | (refine WQ.skip (by rfl) ?_))
              try simp only [Act.put, List.setIfInBounds_toArray, List.set_cons_zero, List.set_cons_succ]
              (first
                | (refine WQ.take (v := ?_) (by rfl) ?_ ?_
                   rotate_left
                   focus (intro wq hq; (try dsimp only at hq); go_simp; (try (with_reducible rfl)); done))
                | (refine WQ.skip (by rfl) ?_))
              try simp only [Act.put, List.setIfInBounds_toArray, List.set_cons_zero, List.set_cons_succ]
              (first
                | (refine WQ.take (v := ?_) (by rfl) ?_ ?_
                   rotate_left
                   focus (intro wq hq; (try dsimp only at hq); go_simp; (try (with_reducible rfl)); done))
                | (refine WQ.skip (by rfl) ?_))
              try simp only [Act.put, List.setIfInBounds_toArray, List.set_cons_zero, List.set_cons_succ]
              (first
                | (refine WQ.take (v := ?_) (by rfl) ?_ ?_
                   rotate_left
                   focus (intro wq hq; (try dsimp only at hq); go_simp; (try (with_reducible rfl)); done))
                | (refine WQ.skip (by rfl) ?_))
              try simp only [Act.put, List.setIfInBounds_toArray, List.set_cons_zero, List.set_cons_succ]
              (first
                | (refine WQ.take (v := ?_) (by rfl) ?_ ?_
                   rotate_left
                   focus (intro wq hq; (try dsimp only at hq); go_simp; (try (with_reducible rfl)); done))
                | (refine WQ.skip (by rfl) ?_))
              try simp only [Act.put, List.setIfInBounds_toArray, List.set_cons_zero, List.set_cons_succ]
              (first
                | (refine WQ.take (v := ?_) (by rfl) ?_ ?_
                   rotate_left
                   focus (intro wq hq; (try dsimp only at hq); go_simp; (try (with_reducible rfl)); done))
                | (refine WQ.skip (by rfl) ?_))
              try simp only [Act.put, List.setIfInBounds_toArray, List.set_cons_zero, List.set_cons_succ]
              (first
                | (refine WQ.take (v := ?_) (by rfl) ?_ ?_
                   rotate_left
                   focus (intro wq hq; (try dsimp only at hq); go_simp; (try (with_reducible rfl)); done))
                | (refine WQ.skip (by rfl) ?_))
              try simp only [Act.put, List.setIfInBounds_toArray, List.set_cons_zero, List.set_cons_succ]
              (first
                | (refine WQ.take (v := ?_) (by rfl) ?_ ?_
                   rotate_left
                   focus (intro wq hq; (try dsimp only at hq); go_simp; (try (with_reducible rfl)); done))
                | (refine WQ.skip (by rfl) ?_))
              try simp only [Act.put, List.setIfInBounds_toArray, List.set_cons_zero, List.set_cons_succ]
              (first
                | (refine WQ.take (v := ?_) (by rfl) ?_ ?_
                   rotate_left
                   focus (intro wq hq; (try dsimp only at hq); go_simp; (try (with_reducible rfl)); done))
                | (refine WQ.skip (by rfl) ?_))
              try simp only [Act.put, List.setIfInBounds_toArray, List.set_cons_zero, List.set_cons_succ]
              (first
                | (refine WQ.take (v := ?_) (by rfl) ?_ ?_
                   rotate_left
                   focus (intro wq hq; (try dsimp only at hq); go_simp; (try (with_reducible rfl)); done))
                | (refine WQ.skip (by rfl) ?_))
              try simp only [Act.put, List.setIfInBounds_toArray, List.set_cons_zero, List.set_cons_succ]
              (first
                | (refine WQ.take (v := ?_) (by rfl) ?_ ?_
                   rotate_left
                   focus (intro wq hq; (try dsimp only at hq); go_simp; (try (with_reducible rfl)); done))
                | (refine WQ.skip (by rfl) ?_))
              try simp only [Act.put, List.setIfInBounds_toArray, List.set_cons_zero, List.set_cons_succ]
              (first
                | (refine WQ.take (v := ?_) (by rfl) ?_ ?_
                   rotate_left
                   focus (intro wq hq; (try dsimp only at hq); go_simp; (try (with_reducible rfl)); done))
                | (refine WQ.skip (by rfl) ?_))
              try simp only [Act.put, List.setIfInBounds_toArray, List.set_cons_zero, List.set_cons_succ]
              (first
                | (refine WQ.take (v := ?_) (by rfl) ?_ ?_
                   rotate_left
                   focus (intro wq hq; (try dsimp only at hq); go_simp; (try (with_reducible rfl)); done))
                | (refine WQ.skip (by rfl) ?_))
              try simp only [Act.put, List.setIfInBounds_toArray, List.set_cons_zero, List.set_cons_succ]
              (first
                | (refine WQ.take (v := ?_) (by rfl) ?_ ?_
                   rotate_left
                   focus (intro wq hq; (try dsimp only at hq); go_simp; (try (with_reducible rfl)); done))
                | (refine WQ.skip (by rfl) ?_))
              try simp only [Act.put, List.setIfInBounds_toArray, List.set_cons_zero, List.set_cons_succ]
              (first
                | (refine WQ.take (v := ?_) (by rfl) ?_ ?_
                   rotate_left
                   focus (intro wq hq; (try dsimp only at hq); go_simp; (try (with_reducible rfl)); done))
                | (refine WQ.skip (by rfl) ?_))
              try simp only [Act.put, List.setIfInBounds_toArray, List.set_cons_zero, List.set_cons_succ]
              (first
                | (refine WQ.take (v := ?_) (by rfl) ?_ ?_
                   rotate_left
                   focus (intro wq hq; (try dsimp only at hq); go_simp; (try (with_reducible rfl)); done))
                | (refine WQ.skip (by rfl) ?_))
              try simp only [Act.put, List.setIfInBounds_toArray, List.set_cons_zero, List.set_cons_succ]
              (first
                | (refine WQ.take (v := ?_) (by rfl) ?_ ?_
                   rotate_left
                   focus (intro wq hq; (try dsimp only at hq); go_simp; (try (with_reducible rfl)); done))
                | (refine WQ.skip (by rfl) ?_))
              try simp only [Act.put, List.setIfInBounds_toArray, List.set_cons_zero, List.set_cons_succ]
              (first
                | (refine WQ.take (v := ?_) (by rfl) ?_ ?_
                   rotate_left
                   focus (intro wq hq; (try dsimp only at hq); go_simp; (try (with_reducible rfl)); done))
                | (refine WQ.skip (by rfl) ?_))
              try simp only [Act.put, List.setIfInBounds_toArray, List.set_cons_zero, List.set_cons_succ]
              (first
                | (refine WQ.take (v := ?_) (by rfl) ?_ ?_
                   rotate_left
                   focus (intro wq hq; (try dsimp only at hq); go_simp; (try (with_reducible rfl)); done))
                | (refine WQ.skip (by rfl) ?_))
              try simp only [Act.put, List.setIfInBounds_toArray, List.set_cons_zero, List.set_cons_succ]
              (first
                | (refine WQ.take (v := ?_) (by rfl) ?_ ?_
                   rotate_left
                   focus (intro wq hq; (try dsimp only at hq); go_simp; (try (with_reducible rfl)); done))
                | (refine WQ.skip (by rfl) ?_))
              try simp only [Act.put, List.setIfInBounds_toArray, List.set_cons_zero, List.set_cons_succ]
              (first
                | (refine WQ.take (v := ?_) (by rfl) ?_ ?_
                   rotate_left
                   focus (intro wq hq; (try dsimp only at hq); go_simp; (try (with_reducible rfl)); done))
                | (refine WQ.skip (by rfl) ?_))
              try simp only [Act.put, List.setIfInBounds_toArray, List.set_cons_zero, List.set_cons_succ]
              (first
                | (refine WQ.take (v := ?_) (by rfl) ?_ ?_
                   rotate_left
                   focus (intro wq hq; (try dsimp only at hq); go_simp; (try (with_reducible rfl)); done))
                | (refine WQ.skip (by rfl) ?_))
              try simp only [Act.put, List.setIfInBounds_toArray, List.set_cons_zero, List.set_cons_succ]
              (first
                | (refine WQ.take (v := ?_) (by rfl) ?_ ?_
                   rotate_left
                   focus (intro wq hq; (try dsimp only at hq); go_simp; (try (with_reducible rfl)); done))
                | (refine WQ.skip (by rfl) ?_))
              try simp only [Act.put, List.setIfInBounds_toArray, List.set_cons_zero, List.set_cons_succ]
              (first
                | (refine WQ.take (v := ?_) (by rfl) ?_ ?_
                   rotate_left
                   focus (intro wq hq; (try dsimp only at hq); go_simp; (try (with_reducible rfl)); done))
                | (refine WQ.skip (by rfl) ?_))
              try simp only [Act.put, List.setIfInBounds_toArray, List.set_cons_zero, List.set_cons_succ]
              (first
                | (refine WQ.take (v := ?_) (by rfl) ?_ ?_
                   rotate_left
                   focus (intro wq hq; (try dsimp only at hq); go_simp; (try (with_reducible rfl)); done))
                | (refine WQ.skip (by rfl) ?_))
              try simp only [Act.put, List.setIfInBounds_toArray, List.set_cons_zero, List.set_cons_succ]
              (first
                | (refine WQ.take (v := ?_) (by rfl) ?_ ?_
                   rotate_left
                   focus (intro wq hq; (try dsimp only at hq); go_simp; (try (with_reducible rfl)); done))
                | (refine WQ.skip (by rfl) ?_))
              try simp only [Act.put, List.setIfInBounds_toArray, List.set_cons_zero, List.set_cons_succ]
              (first
                | (refine WQ.take (v := ?_) (by rfl) ?_ ?_
                   rotate_left
                   focus (intro wq hq; (try dsimp only at hq); go_simp; (try (with_reducible rfl)); done))
                | (refine WQ.skip (by rfl) ?_))
              try simp only [Act.put, List.setIfInBounds_toArray, List.set_cons_zero, List.set_cons_succ]
              (first
                | (refine WQ.take (v := ?_) (by rfl) ?_ ?_
                   rotate_left
                   focus (intro wq hq; (try dsimp only at hq); go_simp; (try (with_reducible rfl)); done))
                | (refine WQ.skip (by rfl) ?_))
              try simp only [Act.put, List.setIfInBounds_toArray, List.set_cons_zero, List.set_cons_succ]
              refine WQ.skip (by rfl) ?_
              try simp only [Act.put, List.setIfInBounds_toArray, List.set_cons_zero, List.set_cons_succ]
              (first
                | (refine WQ.take (v := ?_) (by rfl) ?_ ?_
                   rotate_left
                   focus (intro wq hq; (try dsimp only at hq); go_simp; (try (with_reducible rfl)); done))
                | (refine WQ.skip (by rfl) ?_))
              try simp only [Act.put, List.setIfInBounds_toArray, List.set_cons_zero, List.set_cons_succ]
              (first
                | (refine WQ.take (v := ?_) (by rfl) ?_ ?_
                   rotate_left
                   focus (intro wq hq; (try dsimp only at hq); go_simp; (try (with_reducible rfl)); done))
                | (refine WQ.skip (by rfl) ?_))
              try simp only [Act.put, List.setIfInBounds_toArray, List.set_cons_zero, List.set_cons_succ]
              (first
                | (refine WQ.take (v := ?_) (by rfl) ?_ ?_
                   rotate_left
                   focus (intro wq hq; (try dsimp only at hq); go_simp; (try (with_reducible rfl)); done))
                | (refine WQ.skip (by rfl) ?_))
              try simp only [Act.put, List.setIfInBounds_toArray, List.set_cons_zero, List.set_cons_succ]
              (first
                | (refine WQ.take (v := ?_) (by rfl) ?_ ?_
                   rotate_left
                   focus (intro wq hq; (try dsimp only at hq); go_simp; (try (with_reducible rfl)); done))
                | (refine WQ.skip (by rfl) ?_))
              try simp only [Act.put, List.setIfInBounds_toArray, List.set_cons_zero, List.set_cons_succ]
              (first
                | (refine WQ.take (v := ?_) (by rfl) ?_ ?_
                   rotate_left
                   focus (intro wq hq; (try dsimp only at hq); go_simp; (try (with_reducible rfl)); done))
                | (refine WQ.skip (by rfl) ?_))
              try simp only [Act.put, List.setIfInBounds_toArray, List.set_cons_zero, List.set_cons_succ]
              (first
                | (refine WQ.take (v := ?_) (by rfl) ?_ ?_
                   rotate_left
                   focus (intro wq hq; (try dsimp only at hq); go_simp; (try (with_reducible rfl)); done))
                | (refine WQ.skip (by rfl) ?_))
              try simp only [Act.put, List.setIfInBounds_toArray, List.set_cons_zero, List.set_cons_succ]
              (first
                | (refine WQ.take (v := ?_) (by rfl) ?_ ?_
                   rotate_left
                   focus (intro wq hq; (try dsimp only at hq); go_simp; (try (with_reducible rfl)); done))
                | (refine WQ.skip (by rfl) ?_))
              try simp only [Act.put, List.setIfInBounds_toArray, List.set_cons_zero, List.set_cons_succ]
              refine WQ.nil ?_
              rintro w9 ⟨hb9, _⟩
              have b9 := b5.trans (hb9.mono b5.size)
              go_wp2_with fail
              go_roundw
              case rel => exact ⟨k + 1, by omega, by go_num, Lib.hid (fun j hj => by
                rcases Nat.lt_or_ge j k with h2 | h2
                · exact Hs.out j h2
                · obtain rfl : j = k := by omega
                  exact HT.out), b9⟩
              case measure => simp [intOf]; omega
            · rw [kk4, Bool.not_true, Bool.false_or] at hat
              cases X
              · have hF := hno hat
                have Hat := Lib.hid hat; clear hat
                have Hno := Lib.hid hno; clear hno
                have HF := Lib.hid hF; clear hF
                go_wp2_with (first | (refine wpList_store_mid rfl _ _ _ rfl (wr).heap.size 0 (List.toArray (ntL (g.x) (g.z))) rfl rfl HTT.out (by kernel_rfl) HOO.out ?_; rw [show ((wr).alloc (ntZ 55)).setCells (wr).heap.size 0 (List.toArray (ntL (g.x) (g.z))).toList = w5 from HWW.out]) | (refine wpList_load_mid rfl _ _ rfl b (off + k * 20) rfl (NtG.cells g) _ (HP.out) Tryz.underlying55 rfl (by kernel_rfl) ?_))
                clear HTT HWW HOO
                refine wp_region_wqC (C := fun w' => Below w5.heap.size w5 w' ∧ (∀ x, w'.cell? ⟨b, x, none⟩ = w5.cell? ⟨b, x, none⟩) ∧ (∀ x, w'.cell? ⟨wr.heap.size, x, none⟩ = w5.cell? ⟨wr.heap.size, x, none⟩)) (by kernel_rfl) (by kernel_rfl) (e1 (Below.refl _ _).drew) ?_
                refine WQ.load (by rfl) _ _ rfl wr.heap.size 0 rfl (ntL g.x g.z) _ (fun wq hq => HRN.out wq hq.1) Tryz.underlying55 rfl (by kernel_rfl) ?_
                try simp only [Act.put, List.setIfInBounds_toArray, List.set_cons_zero, List.set_cons_succ]
                refine WQ.take (v := .bool true) (by rfl) (fun wq hq => ?_) ?_
                focus (go_simp; (refine (HO.out wq hq.1).mono ?_; rintro e w2 ⟨rfl, hb2⟩; exact ⟨rfl, e1 (hq.1.trans (hb2.mono hq.1.size))⟩))
                try simp only [Act.put, List.setIfInBounds_toArray, List.set_cons_zero, List.set_cons_succ]
                (first
                  | (refine WQ.take (v := ?_) (by rfl) ?_ ?_
                     rotate_left
                     focus (intro wq hq; (try dsimp only at hq); go_simp; (try (with_reducible rfl)); done))
                  | (refine WQ.skip (by rfl) ?_))
                try simp only [Act.put, List.setIfInBounds_toArray, List.set_cons_zero, List.set_cons_succ]
                (first
                  | (refine WQ.take (v := ?_) (by rfl) ?_ ?_
                     rotate_left
                     focus (intro wq hq; (try dsimp only at hq); go_simp; (try (with_reducible rfl)); done))
                  | (refine WQ.skip (by rfl) ?_))
                try simp only [Act.put, List.setIfInBounds_toArray, List.set_cons_zero, List.set_cons_succ]
                (first
                  | (refine WQ.take (v := ?_) (by rfl) ?_ ?_
                     rotate_left
                     focus (intro wq hq; (try dsimp only at hq); go_simp; (try (with_reducible rfl)); done))
                  | (refine WQ.skip (by rfl) ?_))
                try simp only [Act.put, List.setIfInBounds_toArray, List.set_cons_zero, List.set_cons_succ]
                (first
                  | (refine WQ.take (v := ?_) (by rfl) ?_ ?_
                     rotate_left
                     focus (intro wq hq; (try dsimp only at hq); go_simp; (try (with_reducible rfl)); done))
                  | (refine WQ.skip (by rfl) ?_))
                try simp only [Act.put, List.setIfInBounds_toArray, List.set_cons_zero, List.set_cons_succ]
                (first
                  | (refine WQ.take (v := ?_) (by rfl) ?_ ?_
                     rotate_left
                     focus (intro wq hq; (try dsimp only at hq); go_simp; (try (with_reducible rfl)); done))
                  | (refine WQ.skip (by rfl) ?_))
                try simp only [Act.put, List.setIfInBounds_toArray, List.set_cons_zero, List.set_cons_succ]
                (first
                  | (refine WQ.take (v := ?_) (by rfl) ?_ ?_
                     rotate_left
                     focus (intro wq hq; (try dsimp only at hq); go_simp; (try (with_reducible rfl)); done))
                  | (refine WQ.skip (by rfl) ?_))
                try simp only [Act.put, List.setIfInBounds_toArray, List.set_cons_zero, List.set_cons_succ]
                (first
                  | (refine WQ.take (v := ?_) (by rfl) ?_ ?_
                     rotate_left
                     focus (intro wq hq; (try dsimp only at hq); go_simp; (try (with_reducible rfl)); done))
                  | (refine WQ.skip (by rfl) ?_))
                try simp only [Act.put, List.setIfInBounds_toArray, List.set_cons_zero, List.set_cons_succ]
                (first
                  | (refine WQ.take (v := ?_) (by rfl) ?_ ?_
                     rotate_left
                     focus (intro wq hq; (try dsimp only at hq); go_simp; (try (with_reducible rfl)); done))
                  | (refine WQ.skip (by rfl) ?_))
                try simp only [Act.put, List.setIfInBounds_toArray, List.set_cons_zero, List.set_cons_succ]
                (first
                  | (refine WQ.take (v := ?_) (by rfl) ?_ ?_
                     rotate_left
                     focus (intro wq hq; (try dsimp only at hq); go_simp; (try (with_reducible rfl)); done))
                  | (refine WQ.skip (by rfl) ?_))
                try simp only [Act.put, List.setIfInBounds_toArray, List.set_cons_zero, List.set_cons_succ]
                (first
                  | (refine WQ.take (v := ?_) (by rfl) ?_ ?_
                     rotate_left
                     focus (intro wq hq; (try dsimp only at hq); go_simp; (try (with_reducible rfl)); done))
                  | (refine WQ.skip (by rfl) ?_))
                try simp only [Act.put, List.setIfInBounds_toArray, List.set_cons_zero, List.set_cons_succ]
                (first
                  | (refine WQ.take (v := ?_) (by rfl) ?_ ?_
                     rotate_left
                     focus (intro wq hq; (try dsimp only at hq); go_simp; (try (with_reducible rfl)); done))
                  | (refine WQ.skip (by rfl) ?_))
                try simp only [Act.put, List.setIfInBounds_toArray, List.set_cons_zero, List.set_cons_succ]
                (first
                  | (refine WQ.take (v := ?_) (by rfl) ?_ ?_
                     rotate_left
                     focus (intro wq hq; (try dsimp only at hq); go_simp; (try (with_reducible rfl)); done))
                  | (refine WQ.skip (by rfl) ?_))
                try simp only [Act.put, List.setIfInBounds_toArray, List.set_cons_zero, List.set_cons_succ]
                (first
                  | (refine WQ.take (v := ?_) (by rfl) ?_ ?_
                     rotate_left
                     focus (intro wq hq; (try dsimp only at hq); go_simp; (try (with_reducible rfl)); done))
                  | (refine WQ.skip (by rfl) ?_))
                try simp only [Act.put, List.setIfInBounds_toArray, List.set_cons_zero, List.set_cons_succ]
                (first
                  | (refine WQ.take (v := ?_) (by rfl) ?_ ?_
                     rotate_left
                     focus (intro wq hq; (try dsimp only at hq); go_simp; (try (with_reducible rfl)); done))
                  | (refine WQ.skip (by rfl) ?_))
                try simp only [Act.put, List.setIfInBounds_toArray, List.set_cons_zero, List.set_cons_succ]
                (first
                  | (refine WQ.take (v := ?_) (by rfl) ?_ ?_
                     rotate_left
                     focus (intro wq hq; (try dsimp only at hq); go_simp; (try (with_reducible rfl)); done))
                  | (refine WQ.skip (by rfl) ?_))
                try simp only [Act.put, List.setIfInBounds_toArray, List.set_cons_zero, List.set_cons_succ]
                (first
                  | (refine WQ.take (v := ?_) (by rfl) ?_ ?_
                     rotate_left
                     focus (intro wq hq; (try dsimp only at hq); go_simp; (try (with_reducible rfl)); done))
                  | (refine WQ.skip (by rfl) ?_))
                try simp only [Act.put, List.setIfInBounds_toArray, List.set_cons_zero, List.set_cons_succ]
                (first
                  | (refine WQ.take (v := ?_) (by rfl) ?_ ?_
                     rotate_left
                     focus (intro wq hq; (try dsimp only at hq); go_simp; (try (with_reducible rfl)); done))
                  | (refine WQ.skip (by rfl) ?_))
                try simp only [Act.put, List.setIfInBounds_toArray, List.set_cons_zero, List.set_cons_succ]
                (first
                  | (refine WQ.take (v := ?_) (by rfl) ?_ ?_
                     rotate_left
                     focus (intro wq hq; (try dsimp only at hq); go_simp; (try (with_reducible rfl)); done))
                  | (refine WQ.skip (by rfl) ?_))
                try simp only [Act.put, List.setIfInBounds_toArray, List.set_cons_zero, List.set_cons_succ]
                (first
                  | (refine WQ.take (v := ?_) (by rfl) ?_ ?_
                     rotate_left
                     focus (intro wq hq; (try dsimp only at hq); go_simp; (try (with_reducible rfl)); done))
                  | (refine WQ.skip (by rfl) ?_))
                try simp only [Act.put, List.setIfInBounds_toArray, List.set_cons_zero, List.set_cons_succ]
                (first
                  | (refine WQ.take (v := ?_) (by rfl) ?_ ?_
                     rotate_left
                     focus (intro wq hq; (try dsimp only at hq); go_simp; (try (with_reducible rfl)); done))
                  | (refine WQ.skip (by rfl) ?_))
                try simp only [Act.put, List.setIfInBounds_toArray, List.set_cons_zero, List.set_cons_succ]
                (first
                  | (refine WQ.take (v := ?_) (by rfl) ?_ ?_
                     rotate_left
                     focus (intro wq hq; (try dsimp only at hq); go_simp; (try (with_reducible rfl)); done))
                  | (refine WQ.skip (by rfl) ?_))
                try simp only [Act.put, List.setIfInBounds_toArray, List.set_cons_zero, List.set_cons_succ]
                (first
                  | (refine WQ.take (v := ?_) (by rfl) ?_ ?_
                     rotate_left
                     focus (intro wq hq; (try dsimp only at hq); go_simp; (try (with_reducible rfl)); done))
                  | (refine WQ.skip (by rfl) ?_))
                try simp only [Act.put, List.setIfInBounds_toArray, List.set_cons_zero, List.set_cons_succ]
                (first
                  | (refine WQ.take (v := ?_) (by rfl) ?_ ?_
                     rotate_left
                     focus (intro wq hq; (try dsimp only at hq); go_simp; (try (with_reducible rfl)); done))
                  | (refine WQ.skip (by rfl) ?_))
                try simp only [Act.put, List.setIfInBounds_toArray, List.set_cons_zero, List.set_cons_succ]
                (first
                  | (refine WQ.take (v := ?_) (by rfl) ?_ ?_
                     rotate_left
                     focus (intro wq hq; (try dsimp only at hq); go_simp; (try (with_reducible rfl)); done))
                  | (refine WQ.skip (by rfl) ?_))
                try simp only [Act.put, List.setIfInBounds_toArray, List.set_cons_zero, List.set_cons_succ]
                (first
                  | (refine WQ.take (v := ?_) (by rfl) ?_ ?_
                     rotate_left
                     focus (intro wq hq; (try dsimp only at hq); go_simp; (try (with_reducible rfl)); done))
                  | (refine WQ.skip (by rfl) ?_))
                try simp only [Act.put, List.setIfInBounds_toArray, List.set_cons_zero, List.set_cons_succ]
                (first
                  | (refine WQ.take (v := ?_) (by rfl) ?_ ?_
                     rotate_left
                     focus (intro wq hq; (try dsimp only at hq); go_simp; (try (with_reducible rfl)); done))
                  | (refine WQ.skip (by rfl) ?_))
                try simp only [Act.put, List.setIfInBounds_toArray, List.set_cons_zero, List.set_cons_succ]
                (first
                  | (refine WQ.take (v := ?_) (by rfl) ?_ ?_
                     rotate_left
                     focus (intro wq hq; (try dsimp only at hq); go_simp; (try (with_reducible rfl)); done))
                  | (refine WQ.skip (by rfl) ?_))
                try simp only [Act.put, List.setIfInBounds_toArray, List.set_cons_zero, List.set_cons_succ]
                (first
                  | (refine WQ.take (v := ?_) (by rfl) ?_ ?_
                     rotate_left
                     focus (intro wq hq; (try dsimp only at hq); go_simp; (try (with_reducible rfl)); done))
                  | (refine WQ.skip (by rfl) ?_))
                try simp only [Act.put, List.setIfInBounds_toArray, List.set_cons_zero, List.set_cons_succ]
                (first
                  | (refine WQ.take (v := ?_) (by rfl) ?_ ?_
                     rotate_left
                     focus (intro wq hq; (try dsimp only at hq); go_simp; (try (with_reducible rfl)); done))
                  | (refine WQ.skip (by rfl) ?_))
                try simp only [Act.put, List.setIfInBounds_toArray, List.set_cons_zero, List.set_cons_succ]
                (first
                  | (refine WQ.take (v := ?_) (by rfl) ?_ ?_
                     rotate_left
                     focus (intro wq hq; (try dsimp only at hq); go_simp; (try (with_reducible rfl)); done))
                  | (refine WQ.skip (by rfl) ?_))
                try simp only [Act.put, List.setIfInBounds_toArray, List.set_cons_zero, List.set_cons_succ]
                (first
                  | (refine WQ.take (v := ?_) (by rfl) ?_ ?_
                     rotate_left
                     focus (intro wq hq; (try dsimp only at hq); go_simp; (try (with_reducible rfl)); done))
                  | (refine WQ.skip (by rfl) ?_))
                try simp only [Act.put, List.setIfInBounds_toArray, List.set_cons_zero, List.set_cons_succ]
                (first
                  | (refine WQ.take (v := ?_) (by rfl) ?_ ?_
                     rotate_left
                     focus (intro wq hq; (try dsimp only at hq); go_simp; (try (with_reducible rfl)); done))
                  | (refine WQ.skip (by rfl) ?_))
                try simp only [Act.put, List.setIfInBounds_toArray, List.set_cons_zero, List.set_cons_succ]
                refine WQ.load (by rfl) _ _ rfl wr.heap.size 0 rfl (ntL g.x g.z) _ (fun wq hq => HRN.out wq hq.1) Tryz.underlying55 rfl (by kernel_rfl) ?_
                try simp only [Act.put, List.setIfInBounds_toArray, List.set_cons_zero, List.set_cons_succ]
                (first
                  | (refine WQ.take (v := ?_) (by rfl) ?_ ?_
                     rotate_left
                     focus (intro wq hq; (try dsimp only at hq); go_simp; (try (with_reducible rfl)); done))
                  | (refine WQ.skip (by rfl) ?_))
                try simp only [Act.put, List.setIfInBounds_toArray, List.set_cons_zero, List.set_cons_succ]
                (first
                  | (refine WQ.take (v := ?_) (by rfl) ?_ ?_
                     rotate_left
                     focus (intro wq hq; (try dsimp only at hq); go_simp; (try (with_reducible rfl)); done))
                  | (refine WQ.skip (by rfl) ?_))
                try simp only [Act.put, List.setIfInBounds_toArray, List.set_cons_zero, List.set_cons_succ]
                (first
                  | (refine WQ.take (v := ?_) (by rfl) ?_ ?_
                     rotate_left
                     focus (intro wq hq; (try dsimp only at hq); go_simp; (try (with_reducible rfl)); done))
                  | (refine WQ.skip (by rfl) ?_))
                try simp only [Act.put, List.setIfInBounds_toArray, List.set_cons_zero, List.set_cons_succ]
                refine WQ.take (v := .bool false) (by rfl) (fun wq hq => ?_) ?_
                focus (go_simp; (refine (HX.out wq hq.1).mono ?_; rintro e w2 ⟨rfl, hb2⟩; exact ⟨rfl, e1 (hq.1.trans (hb2.mono hq.1.size))⟩))
                try simp only [Act.put, List.setIfInBounds_toArray, List.set_cons_zero, List.set_cons_succ]
                (first
                  | (refine WQ.take (v := ?_) (by rfl) ?_ ?_
                     rotate_left
                     focus (intro wq hq; (try dsimp only at hq); go_simp; (try (with_reducible rfl)); done))
                  | (refine WQ.skip (by rfl) ?_))
                try simp only [Act.put, List.setIfInBounds_toArray, List.set_cons_zero, List.set_cons_succ]
                (first
                  | (refine WQ.take (v := ?_) (by rfl) ?_ ?_
                     rotate_left
                     focus (intro wq hq; (try dsimp only at hq); go_simp; (try (with_reducible rfl)); done))
                  | (refine WQ.skip (by rfl) ?_))
                try simp only [Act.put, List.setIfInBounds_toArray, List.set_cons_zero, List.set_cons_succ]
                (first
                  | (refine WQ.take (v := ?_) (by rfl) ?_ ?_
                     rotate_left
                     focus (intro wq hq; (try dsimp only at hq); go_simp; (try (with_reducible rfl)); done))
                  | (refine WQ.skip (by rfl) ?_))
                try simp only [Act.put, List.setIfInBounds_toArray, List.set_cons_zero, List.set_cons_succ]
                refine WQ.nil ?_
                rintro w9 ⟨hb9, _⟩
                have b9 := b5.trans (hb9.mono b5.size)
                go_wp2_with fail
                go_ret
                exact ⟨ret_eq (bool_eq HF.out.symm), b9⟩
              · have HT := Lib.hid hat; clear hat
                have Hno := Lib.hid hno; clear hno
                go_wp2_with (first | (refine wpList_store_mid rfl _ _ _ rfl (wr).heap.size 0 (List.toArray (ntL (g.x) (g.z))) rfl rfl HTT.out (by kernel_rfl) HOO.out ?_; rw [show ((wr).alloc (ntZ 55)).setCells (wr).heap.size 0 (List.toArray (ntL (g.x) (g.z))).toList = w5 from HWW.out]) | (refine wpList_load_mid rfl _ _ rfl b (off + k * 20) rfl (NtG.cells g) _ (HP.out) Tryz.underlying55 rfl (by kernel_rfl) ?_))
                clear HTT HWW HOO
                refine wp_region_wqC (C := fun w' => Below w5.heap.size w5 w' ∧ (∀ x, w'.cell? ⟨b, x, none⟩ = w5.cell? ⟨b, x, none⟩) ∧ (∀ x, w'.cell? ⟨wr.heap.size, x, none⟩ = w5.cell? ⟨wr.heap.size, x, none⟩)) (by kernel_rfl) (by kernel_rfl) (e1 (Below.refl _ _).drew) ?_
                refine WQ.load (by rfl) _ _ rfl wr.heap.size 0 rfl (ntL g.x g.z) _ (fun wq hq => HRN.out wq hq.1) Tryz.underlying55 rfl (by kernel_rfl) ?_
                try simp only [Act.put, List.setIfInBounds_toArray, List.set_cons_zero, List.set_cons_succ]
                refine WQ.take (v := .bool true) (by rfl) (fun wq hq => ?_) ?_
                focus (go_simp; (refine (HO.out wq hq.1).mono ?_; rintro e w2 ⟨rfl, hb2⟩; exact ⟨rfl, e1 (hq.1.trans (hb2.mono hq.1.size))⟩))
                try simp only [Act.put, List.setIfInBounds_toArray, List.set_cons_zero, List.set_cons_succ]
                (first
                  | (refine WQ.take (v := ?_) (by rfl) ?_ ?_
                     rotate_left
                     focus (intro wq hq; (try dsimp only at hq); go_simp; (try (with_reducible rfl)); done))
                  | (refine WQ.skip (by rfl) ?_))
                try simp only [Act.put, List.setIfInBounds_toArray, List.set_cons_zero, List.set_cons_succ]
                (first
                  | (refine WQ.take (v := ?_) (by rfl) ?_ ?_
                     rotate_left
                     focus (intro wq hq; (try dsimp only at hq); go_simp; (try (with_reducible rfl)); done))
                  | (refine WQ.skip (by rfl) ?_))
                try simp only [Act.put, List.setIfInBounds_toArray, List.set_cons_zero, List.set_cons_succ]
                (first
                  | (refine WQ.take (v := ?_) (by rfl) ?_ ?_
                     rotate_left
                     focus (intro wq hq; (try dsimp only at hq); go_simp; (try (with_reducible rfl)); done))
                  | (refine WQ.skip (by rfl) ?_))
                try simp only [Act.put, List.setIfInBounds_toArray, List.set_cons_zero, List.set_cons_succ]
                (first
                  | (refine WQ.take (v := ?_) (by rfl) ?_ ?_
                     rotate_left
                     focus (intro wq hq; (try dsimp only at hq); go_simp; (try (with_reducible rfl)); done))
                  | (refine WQ.skip (by rfl) ?_))
                try simp only [Act.put, List.setIfInBounds_toArray, List.set_cons_zero, List.set_cons_succ]
                (first
                  | (refine WQ.take (v := ?_) (by rfl) ?_ ?_
                     rotate_left
                     focus (intro wq hq; (try dsimp only at hq); go_simp; (try (with_reducible rfl)); done))
                  | (refine WQ.skip (by rfl) ?_))
                try simp only [Act.put, List.setIfInBounds_toArray, List.set_cons_zero, List.set_cons_succ]
                (first
                  | (refine WQ.take (v := ?_) (by rfl) ?_ ?_
                     rotate_left
                     focus (intro wq hq; (try dsimp only at hq); go_simp; (try (with_reducible rfl)); done))
                  | (refine WQ.skip (by rfl) ?_))
                try simp only [Act.put, List.setIfInBounds_toArray, List.set_cons_zero, List.set_cons_succ]
                (first
                  | (refine WQ.take (v := ?_) (by rfl) ?_ ?_
                     rotate_left
                     focus (intro wq hq; (try dsimp only at hq); go_simp; (try (with_reducible rfl)); done))
                  | (refine WQ.skip (by rfl) ?_))
                try simp only [Act.put, List.setIfInBounds_toArray, List.set_cons_zero, List.set_cons_succ]
                (first
                  | (refine WQ.take (v := ?_) (by rfl) ?_ ?_
                     rotate_left
                     focus (intro wq hq; (try dsimp only at hq); go_simp; (try (with_reducible rfl)); done))
                  | (refine WQ.skip (by rfl) ?_))
                try simp only [Act.put, List.setIfInBounds_toArray, List.set_cons_zero, List.set_cons_succ]
                (first
                  | (refine WQ.take (v := ?_) (by rfl) ?_ ?_
                     rotate_left
                     focus (intro wq hq; (try dsimp only at hq); go_simp; (try (with_reducible rfl)); done))
                  | (refine WQ.skip (by rfl) ?_))
                try simp only [Act.put, List.setIfInBounds_toArray, List.set_cons_zero, List.set_cons_succ]
                (first
                  | (refine WQ.take (v := ?_) (by rfl) ?_ ?_
                     rotate_left
                     focus (intro wq hq; (try dsimp only at hq); go_simp; (try (with_reducible rfl)); done))
                  | (refine WQ.skip (by rfl) ?_))
                try simp only [Act.put, List.setIfInBounds_toArray, List.set_cons_zero, List.set_cons_succ]
                (first
                  | (refine WQ.take (v := ?_) (by rfl) ?_ ?_
                     rotate_left
                     focus (intro wq hq; (try dsimp only at hq); go_simp; (try (with_reducible rfl)); done))
                  | (refine WQ.skip (by rfl) ?_))
                try simp only [Act.put, List.setIfInBounds_toArray, List.set_cons_zero, List.set_cons_succ]
                (first
                  | (refine WQ.take (v := ?_) (by rfl) ?_ ?_
                     rotate_left
                     focus (intro wq hq; (try dsimp only at hq); go_simp; (try (with_reducible rfl)); done))
                  | (refine WQ.skip (by rfl) ?_))
                try simp only [Act.put, List.setIfInBounds_toArray, List.set_cons_zero, List.set_cons_succ]
                (first
                  | (refine WQ.take (v := ?_) (by rfl) ?_ ?_
                     rotate_left
                     focus (intro wq hq; (try dsimp only at hq); go_simp; (try (with_reducible rfl)); done))
                  | (refine WQ.skip (by rfl) ?_))
                try simp only [Act.put, List.setIfInBounds_toArray, List.set_cons_zero, List.set_cons_succ]
                (first
                  | (refine WQ.take (v := ?_) (by rfl) ?_ ?_
                     rotate_left
                     focus (intro wq hq; (try dsimp only at hq); go_simp; (try (with_reducible rfl)); done))
                  | (refine WQ.skip (by rfl) ?_))
                try simp only [Act.put, List.setIfInBounds_toArray, List.set_cons_zero, List.set_cons_succ]
                (first
                  | (refine WQ.take (v := ?_) (by rfl) ?_ ?_
                     rotate_left
                     focus (intro wq hq; (try dsimp only at hq); go_simp; (try (with_reducible rfl)); done))
                  | (refine WQ.skip (by rfl) ?_))
                try simp only [Act.put, List.setIfInBounds_toArray, List.set_cons_zero, List.set_cons_succ]
                (first
                  | (refine WQ.take (v := ?_) (by rfl) ?_ ?_
                     rotate_left
                     focus (intro wq hq; (try dsimp only at hq); go_simp; (try (with_reducible rfl)); done))
                  | (refine WQ.skip (by rfl) ?_))
                try simp only [Act.put, List.setIfInBounds_toArray, List.set_cons_zero, List.set_cons_succ]
                (first
                  | (refine WQ.take (v := ?_) (by rfl) ?_ ?_
                     rotate_left
                     focus (intro wq hq; (try dsimp only at hq); go_simp; (try (with_reducible rfl)); done))
                  | (refine WQ.skip (by rfl) ?_))
                try simp only [Act.put, List.setIfInBounds_toArray, List.set_cons_zero, List.set_cons_succ]
                (first
                  | (refine WQ.take (v := ?_) (by rfl) ?_ ?_
                     rotate_left
                     focus (intro wq hq; (try dsimp only at hq); go_simp; (try (with_reducible rfl)); done))
                  | (refine WQ.skip (by rfl) ?_))
                try simp only [Act.put, List.setIfInBounds_toArray, List.set_cons_zero, List.set_cons_succ]
                (first
                  | (refine WQ.take (v := ?_) (by rfl) ?_ ?_
                     rotate_left
                     focus (intro wq hq; (try dsimp only at hq); go_simp; (try (with_reducible rfl)); done))
                  | (refine WQ.skip (by rfl) ?_))
                try simp only [Act.put, List.setIfInBounds_toArray, List.set_cons_zero, List.set_cons_succ]
                (first
                  | (refine WQ.take (v := ?_) (by rfl) ?_ ?_
                     rotate_left
                     focus (intro wq hq; (try dsimp only at hq); go_simp; (try (with_reducible rfl)); done))
                  | (refine WQ.skip (by rfl) ?_))
                try simp only [Act.put, List.setIfInBounds_toArray, List.set_cons_zero, List.set_cons_succ]
                (first
                  | (refine WQ.take (v := ?_) (by rfl) ?_ ?_
                     rotate_left
                     focus (intro wq hq; (try dsimp only at hq); go_simp; (try (with_reducible rfl)); done))
                  | (refine WQ.skip (by rfl) ?_))
                try simp only [Act.put, List.setIfInBounds_toArray, List.set_cons_zero, List.set_cons_succ]
                (first
                  | (refine WQ.take (v := ?_) (by rfl) ?_ ?_
                     rotate_left
                     focus (intro wq hq; (try dsimp only at hq); go_simp; (try (with_reducible rfl)); done))
                  | (refine WQ.skip (by rfl) ?_))
                try simp only [Act.put, List.setIfInBounds_toArray, List.set_cons_zero, List.set_cons_succ]
                (first
                  | (refine WQ.take (v := ?_) (by rfl) ?_ ?_
                     rotate_left
                     focus (intro wq hq; (try dsimp only at hq); go_simp; (try (with_reducible rfl)); done))
                  | (refine WQ.skip (by rfl) ?_))
                try simp only [Act.put, List.setIfInBounds_toArray, List.set_cons_zero, List.set_cons_succ]
                (first
                  | (refine WQ.take (v := ?_) (by rfl) ?_ ?_
                     rotate_left
                     focus (intro wq hq; (try dsimp only at hq); go_simp; (try (with_reducible rfl)); done))
                  | (refine WQ.skip (by rfl) ?_))
                try simp only [Act.put, List.setIfInBounds_toArray, List.set_cons_zero, List.set_cons_succ]
                (first
                  | (refine WQ.take (v := ?_) (by rfl) ?_ ?_
                     rotate_left
                     focus (intro wq hq; (try dsimp only at hq); go_simp; (try (with_reducible rfl)); done))
                  | (refine WQ.skip (by rfl) ?_))
                try simp only [Act.put, List.setIfInBounds_toArray, List.set_cons_zero, List.set_cons_succ]
                (first
                  | (refine WQ.take (v := ?_) (by rfl) ?_ ?_
                     rotate_left
                     focus (intro wq hq; (try dsimp only at hq); go_simp; (try (with_reducible rfl)); done))
                  | (refine WQ.skip (by rfl) ?_))
                try simp only [Act.put, List.setIfInBounds_toArray, List.set_cons_zero, List.set_cons_succ]
                (first
                  | (refine WQ.take (v := ?_) (by rfl) ?_ ?_
                     rotate_left
                     focus (intro wq hq; (try dsimp only at hq); go_simp; (try (with_reducible rfl)); done))
                  | (refine WQ.skip (by rfl) ?_))
                try simp only [Act.put, List.setIfInBounds_toArray, List.set_cons_zero, List.set_cons_succ]
                (first
                  | (refine WQ.take (v := ?_) (by rfl) ?_ ?_
                     rotate_left
                     focus (intro wq hq; (try dsimp only at hq); go_simp; (try (with_reducible rfl)); done))
                  | (refine WQ.skip (by rfl) ?_))
                try simp only [Act.put, List.setIfInBounds_toArray, List.set_cons_zero, List.set_cons_succ]
                (first
                  | (refine WQ.take (v := ?_) (by rfl) ?_ ?_
                     rotate_left
                     focus (intro wq hq; (try dsimp only at hq); go_simp; (try (with_reducible rfl)); done))
                  | (refine WQ.skip (by rfl) ?_))
                try simp only [Act.put, List.setIfInBounds_toArray, List.set_cons_zero, List.set_cons_succ]
                (first
                  | (refine WQ.take (v := ?_) (by rfl) ?_ ?_
                     rotate_left
                     focus (intro wq hq; (try dsimp only at hq); go_simp; (try (with_reducible rfl)); done))
                  | (refine WQ.skip (by rfl) ?_))
                try simp only [Act.put, List.setIfInBounds_toArray, List.set_cons_zero, List.set_cons_succ]
                (first
                  | (refine WQ.take (v := ?_) (by rfl) ?_ ?_
                     rotate_left
                     focus (intro wq hq; (try dsimp only at hq); go_simp; (try (with_reducible rfl)); done))
                  | (refine WQ.skip (by rfl) ?_))
                try simp only [Act.put, List.setIfInBounds_toArray, List.set_cons_zero, List.set_cons_succ]
                (first
                  | (refine WQ.take (v := ?_) (by rfl) ?_ ?_
                     rotate_left
                     focus (intro wq hq; (try dsimp only at hq); go_simp; (try (with_reducible rfl)); done))
                  | (refine WQ.skip (by rfl) ?_))
                try simp only [Act.put, List.setIfInBounds_toArray, List.set_cons_zero, List.set_cons_succ]
                refine WQ.load (by rfl) _ _ rfl wr.heap.size 0 rfl (ntL g.x g.z) _ (fun wq hq => HRN.out wq hq.1) Tryz.underlying55 rfl (by kernel_rfl) ?_
                try simp only [Act.put, List.setIfInBounds_toArray, List.set_cons_zero, List.set_cons_succ]
                (first
                  | (refine WQ.take (v := ?_) (by rfl) ?_ ?_
                     rotate_left
                     focus (intro wq hq; (try dsimp only at hq); go_simp; (try (with_reducible rfl)); done))
                  | (refine WQ.skip (by rfl) ?_))
                try simp only [Act.put, List.setIfInBounds_toArray, List.set_cons_zero, List.set_cons_succ]
                (first
                  | (refine WQ.take (v := ?_) (by rfl) ?_ ?_
                     rotate_left
                     focus (intro wq hq; (try dsimp only at hq); go_simp; (try (with_reducible rfl)); done))
                  | (refine WQ.skip (by rfl) ?_))
                try simp only [Act.put, List.setIfInBounds_toArray, List.set_cons_zero, List.set_cons_succ]
                (first
                  | (refine WQ.take (v := ?_) (by rfl) ?_ ?_
                     rotate_left
                     focus (intro wq hq; (try dsimp only at hq); go_simp; (try (with_reducible rfl)); done))
                  | (refine WQ.skip (by rfl) ?_))
                try simp only [Act.put, List.setIfInBounds_toArray, List.set_cons_zero, List.set_cons_succ]
                refine WQ.take (v := .bool true) (by rfl) (fun wq hq => ?_) ?_
                focus (go_simp; (refine (HX.out wq hq.1).mono ?_; rintro e w2 ⟨rfl, hb2⟩; exact ⟨rfl, e1 (hq.1.trans (hb2.mono hq.1.size))⟩))
                try simp only [Act.put, List.setIfInBounds_toArray, List.set_cons_zero, List.set_cons_succ]
                (first
                  | (refine WQ.take (v := ?_) (by rfl) ?_ ?_
                     rotate_left
                     focus (intro wq hq; (try dsimp only at hq); go_simp; (try (with_reducible rfl)); done))
                  | (refine WQ.skip (by rfl) ?_))
                try simp only [Act.put, List.setIfInBounds_toArray, List.set_cons_zero, List.set_cons_succ]
                (first
                  | (refine WQ.take (v := ?_) (by rfl) ?_ ?_
                     rotate_left
                     focus (intro wq hq; (try dsimp only at hq); go_simp; (try (with_reducible rfl)); done))
                  | (refine WQ.skip (by rfl) ?_))
                try simp only [Act.put, List.setIfInBounds_toArray, List.set_cons_zero, List.set_cons_succ]
                (first
                  | (refine WQ.take (v := ?_) (by rfl) ?_ ?_
                     rotate_left
                     focus (intro wq hq; (try dsimp only at hq); go_simp; (try (with_reducible rfl)); done))
                  | (refine WQ.skip (by rfl) ?_))
                try simp only [Act.put, List.setIfInBounds_toArray, List.set_cons_zero, List.set_cons_succ]
                refine WQ.nil ?_
                rintro w9 ⟨hb9, _⟩
                have b9 := b5.trans (hb9.mono b5.size)
                go_wp2_with fail
                go_roundw
                case rel => exact ⟨k + 1, by omega, by go_num, Lib.hid (fun j hj => by
                  rcases Nat.lt_or_ge j k with h2 | h2
                  · exact Hs.out j h2
                  · obtain rfl : j = k := by omega
                    exact HT.out), b9⟩
                case measure => simp [intOf]; omega
          · have g5 : decide (g.x.d < pd) = true := by simp; omega
            have g6 : g.x.d < pd := by omega
            rw [decide_eq_false g4, Bool.false_and] at hat
            have hF := hno hat
            have Hat := Lib.hid hat; clear hat
            have Hno := Lib.hid hno; clear hno
            have HF := Lib.hid hF; clear hF
            go_wp2_with (first | (refine wpList_store_mid rfl _ _ _ rfl (wr).heap.size 0 (List.toArray (ntL (g.x) (g.z))) rfl rfl HTT.out (by kernel_rfl) HOO.out ?_; rw [show ((wr).alloc (ntZ 55)).setCells (wr).heap.size 0 (List.toArray (ntL (g.x) (g.z))).toList = w5 from HWW.out]) | (refine wpList_load_mid rfl _ _ rfl b (off + k * 20) rfl (NtG.cells g) _ (HP.out) Tryz.underlying55 rfl (by kernel_rfl) ?_))
            clear HTT HWW HOO
            refine wp_region_wqC (C := fun w' => Below w5.heap.size w5 w' ∧ (∀ x, w'.cell? ⟨b, x, none⟩ = w5.cell? ⟨b, x, none⟩) ∧ (∀ x, w'.cell? ⟨wr.heap.size, x, none⟩ = w5.cell? ⟨wr.heap.size, x, none⟩)) (by kernel_rfl) (by kernel_rfl) (e1 (Below.refl _ _).drew) ?_
            refine WQ.load (by rfl) _ _ rfl wr.heap.size 0 rfl (ntL g.x g.z) _ (fun wq hq => HRN.out wq hq.1) Tryz.underlying55 rfl (by kernel_rfl) ?_
            try simp only [Act.put, List.setIfInBounds_toArray, List.set_cons_zero, List.set_cons_succ]
            refine WQ.take (v := .bool true) (by rfl) (fun wq hq => ?_) ?_
            focus (go_simp; (refine (HO.out wq hq.1).mono ?_; rintro e w2 ⟨rfl, hb2⟩; exact ⟨rfl, e1 (hq.1.trans (hb2.mono hq.1.size))⟩))
            try simp only [Act.put, List.setIfInBounds_toArray, List.set_cons_zero, List.set_cons_succ]
            (first
              | (refine WQ.take (v := ?_) (by rfl) ?_ ?_
                 rotate_left
                 focus (intro wq hq; (try dsimp only at hq); go_simp; (try (with_reducible rfl)); done))
              | (refine WQ.skip (by rfl) ?_))
            try simp only [Act.put, List.setIfInBounds_toArray, List.set_cons_zero, List.set_cons_succ]
            (first
              | (refine WQ.take (v := ?_) (by rfl) ?_ ?_
                 rotate_left
                 focus (intro wq hq; (try dsimp only at hq); go_simp; (try (with_reducible rfl)); done))
              | (refine WQ.skip (by rfl) ?_))
            try simp only [Act.put, List.setIfInBounds_toArray, List.set_cons_zero, List.set_cons_succ]
            (first
              | (refine WQ.take (v := ?_) (by rfl) ?_ ?_
                 rotate_left
                 focus (intro wq hq; (try dsimp only at hq); go_simp; (try (with_reducible rfl)); done))
              | (refine WQ.skip (by rfl) ?_))
            try simp only [Act.put, List.setIfInBounds_toArray, List.set_cons_zero, List.set_cons_succ]
            (first
              | (refine WQ.take (v := ?_) (by rfl) ?_ ?_
                 rotate_left
                 focus (intro wq hq; (try dsimp only at hq); go_simp; (try (with_reducible rfl)); done))
              | (refine WQ.skip (by rfl) ?_))
            try simp only [Act.put, List.setIfInBounds_toArray, List.set_cons_zero, List.set_cons_succ]
            (first
              | (refine WQ.take (v := ?_) (by rfl) ?_ ?_
                 rotate_left
                 focus (intro wq hq; (try dsimp only at hq); go_simp; (try (with_reducible rfl)); done))
              | (refine WQ.skip (by rfl) ?_))
            try simp only [Act.put, List.setIfInBounds_toArray, List.set_cons_zero, List.set_cons_succ]
            (first
              | (refine WQ.take (v := ?_) (by rfl) ?_ ?_
                 rotate_left
                 focus (intro wq hq; (try dsimp only at hq); go_simp; (try (with_reducible rfl)); done))
              | (refine WQ.skip (by rfl) ?_))
            try simp only [Act.put, List.setIfInBounds_toArray, List.set_cons_zero, List.set_cons_succ]
            (first
              | (refine WQ.take (v := ?_) (by rfl) ?_ ?_
                 rotate_left
                 focus (intro wq hq; (try dsimp only at hq); go_simp; (try (with_reducible rfl)); done))
              | (refine WQ.skip (by rfl) ?_))
            try simp only [Act.put, List.setIfInBounds_toArray, List.set_cons_zero, List.set_cons_succ]
            (first
              | (refine WQ.take (v := ?_) (by rfl) ?_ ?_
                 rotate_left
                 focus (intro wq hq; (try dsimp only at hq); go_simp; (try (with_reducible rfl)); done))
              | (refine WQ.skip (by rfl) ?_))
            try simp only [Act.put, List.setIfInBounds_toArray, List.set_cons_zero, List.set_cons_succ]
            (first
              | (refine WQ.take (v := ?_) (by rfl) ?_ ?_
                 rotate_left
                 focus (intro wq hq; (try dsimp only at hq); go_simp; (try (with_reducible rfl)); done))
              | (refine WQ.skip (by rfl) ?_))
            try simp only [Act.put, List.setIfInBounds_toArray, List.set_cons_zero, List.set_cons_succ]
            (first
              | (refine WQ.take (v := ?_) (by rfl) ?_ ?_
                 rotate_left
                 focus (intro wq hq; (try dsimp only at hq); go_simp; (try (with_reducible rfl)); done))
              | (refine WQ.skip (by rfl) ?_))
            try simp only [Act.put, List.setIfInBounds_toArray, List.set_cons_zero, List.set_cons_succ]
            (first
              | (refine WQ.take (v := ?_) (by rfl) ?_ ?_
                 rotate_left
                 focus (intro wq hq; (try dsimp only at hq); go_simp; (try (with_reducible rfl)); done))
              | (refine WQ.skip (by rfl) ?_))
            try simp only [Act.put, List.setIfInBounds_toArray, List.set_cons_zero, List.set_cons_succ]
            (first
              | (refine WQ.take (v := ?_) (by rfl) ?_ ?_
                 rotate_left
                 focus (intro wq hq; (try dsimp only at hq); go_simp; (try (with_reducible rfl)); done))
              | (refine WQ.skip (by rfl) ?_))
            try simp only [Act.put, List.setIfInBounds_toArray, List.set_cons_zero, List.set_cons_succ]
            (first
              | (refine WQ.take (v := ?_) (by rfl) ?_ ?_
                 rotate_left
                 focus (intro wq hq; (try dsimp only at hq); go_simp; (try (with_reducible rfl)); done))
              | (refine WQ.skip (by rfl) ?_))
            try simp only [Act.put, List.setIfInBounds_toArray, List.set_cons_zero, List.set_cons_succ]
            (first
              | (refine WQ.take (v := ?_) (by rfl) ?_ ?_
                 rotate_left
                 focus (intro wq hq; (try dsimp only at hq); go_simp; (try (with_reducible rfl)); done))
              | (refine WQ.skip (by rfl) ?_))
            try simp only [Act.put, List.setIfInBounds_toArray, List.set_cons_zero, List.set_cons_succ]
            (first
              | (refine WQ.take (v := ?_) (by rfl) ?_ ?_
                 rotate_left
                 focus (intro wq hq; (try dsimp only at hq); go_simp; (try (with_reducible rfl)); done))
              | (refine WQ.skip (by rfl) ?_))
            try simp only [Act.put, List.setIfInBounds_toArray, List.set_cons_zero, List.set_cons_succ]
            (first
              | (refine WQ.take (v := ?_) (by rfl) ?_ ?_
                 rotate_left
                 focus (intro wq hq; (try dsimp only at hq); go_simp; (try (with_reducible rfl)); done))
              | (refine WQ.skip (by rfl) ?_))
            try simp only [Act.put, List.setIfInBounds_toArray, List.set_cons_zero, List.set_cons_succ]
            (first
              | (refine WQ.take (v := ?_) (by rfl) ?_ ?_
                 rotate_left
                 focus (intro wq hq; (try dsimp only at hq); go_simp; (try (with_reducible rfl)); done))
              | (refine WQ.skip (by rfl) ?_))
            try simp only [Act.put, List.setIfInBounds_toArray, List.set_cons_zero, List.set_cons_succ]
            (first
              | (refine WQ.take (v := ?_) (by rfl) ?_ ?_
                 rotate_left
                 focus (intro wq hq; (try dsimp only at hq); go_simp; (try (with_reducible rfl)); done))
              | (refine WQ.skip (by rfl) ?_))
            try simp only [Act.put, List.setIfInBounds_toArray, List.set_cons_zero, List.set_cons_succ]
            (first
              | (refine WQ.take (v := ?_) (by rfl) ?_ ?_
                 rotate_left
                 focus (intro wq hq; (try dsimp only at hq); go_simp; (try (with_reducible rfl)); done))
              | (refine WQ.skip (by rfl) ?_))
            try simp only [Act.put, List.setIfInBounds_toArray, List.set_cons_zero, List.set_cons_succ]
            (first
              | (refine WQ.take (v := ?_) (by rfl) ?_ ?_
                 rotate_left
                 focus (intro wq hq; (try dsimp only at hq); go_simp; (try (with_reducible rfl)); done))
              | (refine WQ.skip (by rfl) ?_))
            try simp only [Act.put, List.setIfInBounds_toArray, List.set_cons_zero, List.set_cons_succ]
            (first
              | (refine WQ.take (v := ?_) (by rfl) ?_ ?_
                 rotate_left
                 focus (intro wq hq; (try dsimp only at hq); go_simp; (try (with_reducible rfl)); done))
              | (refine WQ.skip (by rfl) ?_))
            try simp only [Act.put, List.setIfInBounds_toArray, List.set_cons_zero, List.set_cons_succ]
            (first
              | (refine WQ.take (v := ?_) (by rfl) ?_ ?_
                 rotate_left
                 focus (intro wq hq; (try dsimp only at hq); go_simp; (try (with_reducible rfl)); done))
              | (refine WQ.skip (by rfl) ?_))
            try simp only [Act.put, List.setIfInBounds_toArray, List.set_cons_zero, List.set_cons_succ]
            (first
              | (refine WQ.take (v := ?_) (by rfl) ?_ ?_
                 rotate_left
                 focus (intro wq hq; (try dsimp only at hq); go_simp; (try (with_reducible rfl)); done))
              | (refine WQ.skip (by rfl) ?_))
            try simp only [Act.put, List.setIfInBounds_toArray, List.set_cons_zero, List.set_cons_succ]
            (first
              | (refine WQ.take (v := ?_) (by rfl) ?_ ?_
                 rotate_left
                 focus (intro wq hq; (try dsimp only at hq); go_simp; (try (with_reducible rfl)); done))
              | (refine WQ.skip (by rfl) ?_))
            try simp only [Act.put, List.setIfInBounds_toArray, List.set_cons_zero, List.set_cons_succ]
            (first
              | (refine WQ.take (v := ?_) (by rfl) ?_ ?_
                 rotate_left
                 focus (intro wq hq; (try dsimp only at hq); go_simp; (try (with_reducible rfl)); done))
              | (refine WQ.skip (by rfl) ?_))
            try simp only [Act.put, List.setIfInBounds_toArray, List.set_cons_zero, List.set_cons_succ]
            (first
              | (refine WQ.take (v := ?_) (by rfl) ?_ ?_
                 rotate_left
                 focus (intro wq hq; (try dsimp only at hq); go_simp; (try (with_reducible rfl)); done))
              | (refine WQ.skip (by rfl) ?_))
            try simp only [Act.put, List.setIfInBounds_toArray, List.set_cons_zero, List.set_cons_succ]
            (first
              | (refine WQ.take (v := ?_) (by rfl) ?_ ?_
                 rotate_left
                 focus (intro wq hq; (try dsimp only at hq); go_simp; (try (with_reducible rfl)); done))
              | (refine WQ.skip (by rfl) ?_))
            try simp only [Act.put, List.setIfInBounds_toArray, List.set_cons_zero, List.set_cons_succ]
            (first
              | (refine WQ.take (v := ?_) (by rfl) ?_ ?_
                 rotate_left
                 focus (intro wq hq; (try dsimp only at hq); go_simp; (try (with_reducible rfl)); done))
              | (refine WQ.skip (by rfl) ?_))
            try simp only [Act.put, List.setIfInBounds_toArray, List.set_cons_zero, List.set_cons_succ]
            (first
              | (refine WQ.take (v := ?_) (by rfl) ?_ ?_
                 rotate_left
                 focus (intro wq hq; (try dsimp only at hq); go_simp; (try (with_reducible rfl)); done))
              | (refine WQ.skip (by rfl) ?_))
            try simp only [Act.put, List.setIfInBounds_toArray, List.set_cons_zero, List.set_cons_succ]
            (first
              | (refine WQ.take (v := ?_) (by rfl) ?_ ?_
                 rotate_left
                 focus (intro wq hq; (try dsimp only at hq); go_simp; (try (with_reducible rfl)); done))
              | (refine WQ.skip (by rfl) ?_))
            try simp only [Act.put, List.setIfInBounds_toArray, List.set_cons_zero, List.set_cons_succ]
            (first
              | (refine WQ.take (v := ?_) (by rfl) ?_ ?_
                 rotate_left
                 focus (intro wq hq; (try dsimp only at hq); go_simp; (try (with_reducible rfl)); done))
              | (refine WQ.skip (by rfl) ?_))
            try simp only [Act.put, List.setIfInBounds_toArray, List.set_cons_zero, List.set_cons_succ]
            (first
              | (refine WQ.take (v := ?_) (by rfl) ?_ ?_
                 rotate_left
                 focus (intro wq hq; (try dsimp only at hq); go_simp; (try (with_reducible rfl)); done))
              | (refine WQ.skip (by rfl) ?_))
            try simp only [Act.put, List.setIfInBounds_toArray, List.set_cons_zero, List.set_cons_succ]
            refine WQ.skip (by rfl) ?_
            try simp only [Act.put, List.setIfInBounds_toArray, List.set_cons_zero, List.set_cons_succ]
            (first
              | (refine WQ.take (v := ?_) (by rfl) ?_ ?_
                 rotate_left
                 focus (intro wq hq; (try dsimp only at hq); go_simp; (try (with_reducible rfl)); done))
              | (refine WQ.skip (by rfl) ?_))
            try simp only [Act.put, List.setIfInBounds_toArray, List.set_cons_zero, List.set_cons_succ]
            (first
              | (refine WQ.take (v := ?_) (by rfl) ?_ ?_
                 rotate_left
                 focus (intro wq hq; (try dsimp only at hq); go_simp; (try (with_reducible rfl)); done))
              | (refine WQ.skip (by rfl) ?_))
            try simp only [Act.put, List.setIfInBounds_toArray, List.set_cons_zero, List.set_cons_succ]
            (first
              | (refine WQ.take (v := ?_) (by rfl) ?_ ?_
                 rotate_left
                 focus (intro wq hq; (try dsimp only at hq); go_simp; (try (with_reducible rfl)); done))
              | (refine WQ.skip (by rfl) ?_))
            try simp only [Act.put, List.setIfInBounds_toArray, List.set_cons_zero, List.set_cons_succ]
            (first
              | (refine WQ.take (v := ?_) (by rfl) ?_ ?_
                 rotate_left
                 focus (intro wq hq; (try dsimp only at hq); go_simp; (try (with_reducible rfl)); done))
              | (refine WQ.skip (by rfl) ?_))
            try simp only [Act.put, List.setIfInBounds_toArray, List.set_cons_zero, List.set_cons_succ]
            (first
              | (refine WQ.take (v := ?_) (by rfl) ?_ ?_
                 rotate_left
                 focus (intro wq hq; (try dsimp only at hq); go_simp; (try (with_reducible rfl)); done))
              | (refine WQ.skip (by rfl) ?_))
            try simp only [Act.put, List.setIfInBounds_toArray, List.set_cons_zero, List.set_cons_succ]
            (first
              | (refine WQ.take (v := ?_) (by rfl) ?_ ?_
                 rotate_left
                 focus (intro wq hq; (try dsimp only at hq); go_simp; (try (with_reducible rfl)); done))
              | (refine WQ.skip (by rfl) ?_))
            try simp only [Act.put, List.setIfInBounds_toArray, List.set_cons_zero, List.set_cons_succ]
            (first
              | (refine WQ.take (v := ?_) (by rfl) ?_ ?_
                 rotate_left
                 focus (intro wq hq; (try dsimp only at hq); go_simp; (try (with_reducible rfl)); done))
              | (refine WQ.skip (by rfl) ?_))
            try simp only [Act.put, List.setIfInBounds_toArray, List.set_cons_zero, List.set_cons_succ]
            refine WQ.nil ?_
            rintro w9 ⟨hb9, _⟩
            have b9 := b5.trans (hb9.mono b5.size)
            go_wp2_with fail
            go_ret
            exact ⟨ret_eq (bool_eq HF.out.symm), b9⟩
        · have g2 : decide (g.x.m ≤ pm) = true := by simp; omega
          have g3 : g.x.m ≤ pm := by omega
          rw [decide_eq_false g1, Bool.false_and, Bool.false_and] at hat
          have hF := hno hat
          have Hat := Lib.hid hat; clear hat
          have Hno := Lib.hid hno; clear hno
          have HF := Lib.hid hF; clear hF
          go_wp2_with (first | (refine wpList_store_mid rfl _ _ _ rfl (wr).heap.size 0 (List.toArray (ntL (g.x) (g.z))) rfl rfl HTT.out (by kernel_rfl) HOO.out ?_; rw [show ((wr).alloc (ntZ 55)).setCells (wr).heap.size 0 (List.toArray (ntL (g.x) (g.z))).toList = w5 from HWW.out]) | (refine wpList_load_mid rfl _ _ rfl b (off + k * 20) rfl (NtG.cells g) _ (HP.out) Tryz.underlying55 rfl (by kernel_rfl) ?_))
          clear HTT HWW HOO
          refine wp_region_wqC (C := fun w' => Below w5.heap.size w5 w' ∧ (∀ x, w'.cell? ⟨b, x, none⟩ = w5.cell? ⟨b, x, none⟩) ∧ (∀ x, w'.cell? ⟨wr.heap.size, x, none⟩ = w5.cell? ⟨wr.heap.size, x, none⟩)) (by kernel_rfl) (by kernel_rfl) (e1 (Below.refl _ _).drew) ?_
          refine WQ.load (by rfl) _ _ rfl wr.heap.size 0 rfl (ntL g.x g.z) _ (fun wq hq => HRN.out wq hq.1) Tryz.underlying55 rfl (by kernel_rfl) ?_
          try simp only [Act.put, List.setIfInBounds_toArray, List.set_cons_zero, List.set_cons_succ]
          refine WQ.take (v := .bool true) (by rfl) (fun wq hq => ?_) ?_
          focus (go_simp; (refine (HO.out wq hq.1).mono ?_; rintro e w2 ⟨rfl, hb2⟩; exact ⟨rfl, e1 (hq.1.trans (hb2.mono hq.1.size))⟩))
          try simp only [Act.put, List.setIfInBounds_toArray, List.set_cons_zero, List.set_cons_succ]
          (first
            | (refine WQ.take (v := ?_) (by rfl) ?_ ?_
               rotate_left
               focus (intro wq hq; (try dsimp only at hq); go_simp; (try (with_reducible rfl)); done))
            | (refine WQ.skip (by rfl) ?_))
          try simp only [Act.put, List.setIfInBounds_toArray, List.set_cons_zero, List.set_cons_succ]
          (first
            | (refine WQ.take (v := ?_) (by rfl) ?_ ?_
               rotate_left
               focus (intro wq hq; (try dsimp only at hq); go_simp; (try (with_reducible rfl)); done))
            | (refine WQ.skip (by rfl) ?_))
          try simp only [Act.put, List.setIfInBounds_toArray, List.set_cons_zero, List.set_cons_succ]
          (first
            | (refine WQ.take (v := ?_) (by rfl) ?_ ?_
               rotate_left
               focus (intro wq hq; (try dsimp only at hq); go_simp; (try (with_reducible rfl)); done))
            | (refine WQ.skip (by rfl) ?_))
          try simp only [Act.put, List.setIfInBounds_toArray, List.set_cons_zero, List.set_cons_succ]
          (first
            | (refine WQ.take (v := ?_) (by rfl) ?_ ?_
               rotate_left
               focus (intro wq hq; (try dsimp only at hq); go_simp; (try (with_reducible rfl)); done))
            | (refine WQ.skip (by rfl) ?_))
          try simp only [Act.put, List.setIfInBounds_toArray, List.set_cons_zero, List.set_cons_succ]
          (first
            | (refine WQ.take (v := ?_) (by rfl) ?_ ?_
               rotate_left
               focus (intro wq hq; (try dsimp only at hq); go_simp; (try (with_reducible rfl)); done))
            | (refine WQ.skip (by rfl) ?_))
          try simp only [Act.put, List.setIfInBounds_toArray, List.set_cons_zero, List.set_cons_succ]
          (first
            | (refine WQ.take (v := ?_) (by rfl) ?_ ?_
               rotate_left
               focus (intro wq hq; (try dsimp only at hq); go_simp; (try (with_reducible rfl)); done))
            | (refine WQ.skip (by rfl) ?_))
          try simp only [Act.put, List.setIfInBounds_toArray, List.set_cons_zero, List.set_cons_succ]
          (first
            | (refine WQ.take (v := ?_) (by rfl) ?_ ?_
               rotate_left
               focus (intro wq hq; (try dsimp only at hq); go_simp; (try (with_reducible rfl)); done))
            | (refine WQ.skip (by rfl) ?_))
          try simp only [Act.put, List.setIfInBounds_toArray, List.set_cons_zero, List.set_cons_succ]
          (first
            | (refine WQ.take (v := ?_) (by rfl) ?_ ?_
               rotate_left
               focus (intro wq hq; (try dsimp only at hq); go_simp; (try (with_reducible rfl)); done))
            | (refine WQ.skip (by rfl) ?_))
          try simp only [Act.put, List.setIfInBounds_toArray, List.set_cons_zero, List.set_cons_succ]
          (first
            | (refine WQ.take (v := ?_) (by rfl) ?_ ?_
               rotate_left
               focus (intro wq hq; (try dsimp only at hq); go_simp; (try (with_reducible rfl)); done))
            | (refine WQ.skip (by rfl) ?_))
          try simp only [Act.put, List.setIfInBounds_toArray, List.set_cons_zero, List.set_cons_succ]
          (first
            | (refine WQ.take (v := ?_) (by rfl) ?_ ?_
               rotate_left
               focus (intro wq hq; (try dsimp only at hq); go_simp; (try (with_reducible rfl)); done))
            | (refine WQ.skip (by rfl) ?_))
          try simp only [Act.put, List.setIfInBounds_toArray, List.set_cons_zero, List.set_cons_succ]
          (first
            | (refine WQ.take (v := ?_) (by rfl) ?_ ?_
               rotate_left
               focus (intro wq hq; (try dsimp only at hq); go_simp; (try (with_reducible rfl)); done))
            | (refine WQ.skip (by rfl) ?_))
          try simp only [Act.put, List.setIfInBounds_toArray, List.set_cons_zero, List.set_cons_succ]
          (first
            | (refine WQ.take (v := ?_) (by rfl) ?_ ?_
               rotate_left
               focus (intro wq hq; (try dsimp only at hq); go_simp; (try (with_reducible rfl)); done))
            | (refine WQ.skip (by rfl) ?_))
          try simp only [Act.put, List.setIfInBounds_toArray, List.set_cons_zero, List.set_cons_succ]
          (first
            | (refine WQ.take (v := ?_) (by rfl) ?_ ?_
               rotate_left
               focus (intro wq hq; (try dsimp only at hq); go_simp; (try (with_reducible rfl)); done))
            | (refine WQ.skip (by rfl) ?_))
          try simp only [Act.put, List.setIfInBounds_toArray, List.set_cons_zero, List.set_cons_succ]
          (first
            | (refine WQ.take (v := ?_) (by rfl) ?_ ?_
               rotate_left
               focus (intro wq hq; (try dsimp only at hq); go_simp; (try (with_reducible rfl)); done))
            | (refine WQ.skip (by rfl) ?_))
          try simp only [Act.put, List.setIfInBounds_toArray, List.set_cons_zero, List.set_cons_succ]
          (first
            | (refine WQ.take (v := ?_) (by rfl) ?_ ?_
               rotate_left
               focus (intro wq hq; (try dsimp only at hq); go_simp; (try (with_reducible rfl)); done))
            | (refine WQ.skip (by rfl) ?_))
          try simp only [Act.put, List.setIfInBounds_toArray, List.set_cons_zero, List.set_cons_succ]
          (first
            | (refine WQ.take (v := ?_) (by rfl) ?_ ?_
               rotate_left
               focus (intro wq hq; (try dsimp only at hq); go_simp; (try (with_reducible rfl)); done))
            | (refine WQ.skip (by rfl) ?_))
          try simp only [Act.put, List.setIfInBounds_toArray, List.set_cons_zero, List.set_cons_succ]
          (first
            | (refine WQ.take (v := ?_) (by rfl) ?_ ?_
               rotate_left
               focus (intro wq hq; (try dsimp only at hq); go_simp; (try (with_reducible rfl)); done))
            | (refine WQ.skip (by rfl) ?_))
          try simp only [Act.put, List.setIfInBounds_toArray, List.set_cons_zero, List.set_cons_succ]
          (first
            | (refine WQ.take (v := ?_) (by rfl) ?_ ?_
               rotate_left
               focus (intro wq hq; (try dsimp only at hq); go_simp; (try (with_reducible rfl)); done))
            | (refine WQ.skip (by rfl) ?_))
          try simp only [Act.put, List.setIfInBounds_toArray, List.set_cons_zero, List.set_cons_succ]
          (first
            | (refine WQ.take (v := ?_) (by rfl) ?_ ?_
               rotate_left
               focus (intro wq hq; (try dsimp only at hq); go_simp; (try (with_reducible rfl)); done))
            | (refine WQ.skip (by rfl) ?_))
          try simp only [Act.put, List.setIfInBounds_toArray, List.set_cons_zero, List.set_cons_succ]
          (first
            | (refine WQ.take (v := ?_) (by rfl) ?_ ?_
               rotate_left
               focus (intro wq hq; (try dsimp only at hq); go_simp; (try (with_reducible rfl)); done))
            | (refine WQ.skip (by rfl) ?_))
          try simp only [Act.put, List.setIfInBounds_toArray, List.set_cons_zero, List.set_cons_succ]
          (first
            | (refine WQ.take (v := ?_) (by rfl) ?_ ?_
               rotate_left
               focus (intro wq hq; (try dsimp only at hq); go_simp; (try (with_reducible rfl)); done))
            | (refine WQ.skip (by rfl) ?_))
          try simp only [Act.put, List.setIfInBounds_toArray, List.set_cons_zero, List.set_cons_succ]
          (first
            | (refine WQ.take (v := ?_) (by rfl) ?_ ?_
               rotate_left
               focus (intro wq hq; (try dsimp only at hq); go_simp; (try (with_reducible rfl)); done))
            | (refine WQ.skip (by rfl) ?_))
          try simp only [Act.put, List.setIfInBounds_toArray, List.set_cons_zero, List.set_cons_succ]
          (first
            | (refine WQ.take (v := ?_) (by rfl) ?_ ?_
               rotate_left
               focus (intro wq hq; (try dsimp only at hq); go_simp; (try (with_reducible rfl)); done))
            | (refine WQ.skip (by rfl) ?_))
          try simp only [Act.put, List.setIfInBounds_toArray, List.set_cons_zero, List.set_cons_succ]
          (first
            | (refine WQ.take (v := ?_) (by rfl) ?_ ?_
               rotate_left
               focus (intro wq hq; (try dsimp only at hq); go_simp; (try (with_reducible rfl)); done))
            | (refine WQ.skip (by rfl) ?_))
          try simp only [Act.put, List.setIfInBounds_toArray, List.set_cons_zero, List.set_cons_succ]
          (first
            | (refine WQ.take (v := ?_) (by rfl) ?_ ?_
               rotate_left
               focus (intro wq hq; (try dsimp only at hq); go_simp; (try (with_reducible rfl)); done))
            | (refine WQ.skip (by rfl) ?_))
          try simp only [Act.put, List.setIfInBounds_toArray, List.set_cons_zero, List.set_cons_succ]
          (first
            | (refine WQ.take (v := ?_) (by rfl) ?_ ?_
               rotate_left
               focus (intro wq hq; (try dsimp only at hq); go_simp; (try (with_reducible rfl)); done))
            | (refine WQ.skip (by rfl) ?_))
          try simp only [Act.put, List.setIfInBounds_toArray, List.set_cons_zero, List.set_cons_succ]
          (first
            | (refine WQ.take (v := ?_) (by rfl) ?_ ?_
               rotate_left
               focus (intro wq hq; (try dsimp only at hq); go_simp; (try (with_reducible rfl)); done))
            | (refine WQ.skip (by rfl) ?_))
          try simp only [Act.put, List.setIfInBounds_toArray, List.set_cons_zero, List.set_cons_succ]
          (first
            | (refine WQ.take (v := ?_) (by rfl) ?_ ?_
               rotate_left
               focus (intro wq hq; (try dsimp only at hq); go_simp; (try (with_reducible rfl)); done))
            | (refine WQ.skip (by rfl) ?_))
          try simp only [Act.put, List.setIfInBounds_toArray, List.set_cons_zero, List.set_cons_succ]
          (first
            | (refine WQ.take (v := ?_) (by rfl) ?_ ?_
               rotate_left
               focus (intro wq hq; (try dsimp only at hq); go_simp; (try (with_reducible rfl)); done))
            | (refine WQ.skip (by rfl) ?_))
          try simp only [Act.put, List.setIfInBounds_toArray, List.set_cons_zero, List.set_cons_succ]
          (first
            | (refine WQ.take (v := ?_) (by rfl) ?_ ?_
               rotate_left
               focus (intro wq hq; (try dsimp only at hq); go_simp; (try (with_reducible rfl)); done))
            | (refine WQ.skip (by rfl) ?_))
          try simp only [Act.put, List.setIfInBounds_toArray, List.set_cons_zero, List.set_cons_succ]
          (first
            | (refine WQ.take (v := ?_) (by rfl) ?_ ?_
               rotate_left
               focus (intro wq hq; (try dsimp only at hq); go_simp; (try (with_reducible rfl)); done))
            | (refine WQ.skip (by rfl) ?_))
          try simp only [Act.put, List.setIfInBounds_toArray, List.set_cons_zero, List.set_cons_succ]
          (first
            | (refine WQ.take (v := ?_) (by rfl) ?_ ?_
               rotate_left
               focus (intro wq hq; (try dsimp only at hq); go_simp; (try (with_reducible rfl)); done))
            | (refine WQ.skip (by rfl) ?_))
          try simp only [Act.put, List.setIfInBounds_toArray, List.set_cons_zero, List.set_cons_succ]
          refine WQ.skip (by rfl) ?_
          try simp only [Act.put, List.setIfInBounds_toArray, List.set_cons_zero, List.set_cons_succ]
          (first
            | (refine WQ.take (v := ?_) (by rfl) ?_ ?_
               rotate_left
               focus (intro wq hq; (try dsimp only at hq); go_simp; (try (with_reducible rfl)); done))
            | (refine WQ.skip (by rfl) ?_))
          try simp only [Act.put, List.setIfInBounds_toArray, List.set_cons_zero, List.set_cons_succ]
          (first
            | (refine WQ.take (v := ?_) (by rfl) ?_ ?_
               rotate_left
               focus (intro wq hq; (try dsimp only at hq); go_simp; (try (with_reducible rfl)); done))
            | (refine WQ.skip (by rfl) ?_))
          try simp only [Act.put, List.setIfInBounds_toArray, List.set_cons_zero, List.set_cons_succ]
          (first
            | (refine WQ.take (v := ?_) (by rfl) ?_ ?_
               rotate_left
               focus (intro wq hq; (try dsimp only at hq); go_simp; (try (with_reducible rfl)); done))
            | (refine WQ.skip (by rfl) ?_))
          try simp only [Act.put, List.setIfInBounds_toArray, List.set_cons_zero, List.set_cons_succ]
          (first
            | (refine WQ.take (v := ?_) (by rfl) ?_ ?_
               rotate_left
               focus (intro wq hq; (try dsimp only at hq); go_simp; (try (with_reducible rfl)); done))
            | (refine WQ.skip (by rfl) ?_))
          try simp only [Act.put, List.setIfInBounds_toArray, List.set_cons_zero, List.set_cons_succ]
          (first
            | (refine WQ.take (v := ?_) (by rfl) ?_ ?_
               rotate_left
               focus (intro wq hq; (try dsimp only at hq); go_simp; (try (with_reducible rfl)); done))
            | (refine WQ.skip (by rfl) ?_))
          try simp only [Act.put, List.setIfInBounds_toArray, List.set_cons_zero, List.set_cons_succ]
          (first
            | (refine WQ.take (v := ?_) (by rfl) ?_ ?_
               rotate_left
               focus (intro wq hq; (try dsimp only at hq); go_simp; (try (with_reducible rfl)); done))
            | (refine WQ.skip (by rfl) ?_))
          try simp only [Act.put, List.setIfInBounds_toArray, List.set_cons_zero, List.set_cons_succ]
          (first
            | (refine WQ.take (v := ?_) (by rfl) ?_ ?_
               rotate_left
               focus (intro wq hq; (try dsimp only at hq); go_simp; (try (with_reducible rfl)); done))
            | (refine WQ.skip (by rfl) ?_))
          try simp only [Act.put, List.setIfInBounds_toArray, List.set_cons_zero, List.set_cons_succ]
          refine WQ.nil ?_
          rintro w9 ⟨hb9, _⟩
          have b9 := b5.trans (hb9.mono b5.size)
          go_wp2_with fail
          go_ret
          exact ⟨ret_eq (bool_eq HF.out.symm), b9⟩
    · obtain rfl : k = n := by omega
      have hRe : R = decide ((k : Int) ≤ 32) := by
        rw [← HR.out, ntsB_end (by rw [List.length_map, Hl.out]; exact Hs.out), List.length_map, Hl.out]
        rw [Bool.eq_iff_iff]; simp only [decide_eq_true_eq]; omega
      have HRe := Lib.hid hRe; clear hRe
      go_wp2_with (go_at_call 60; refine (few_c _ _ _).mono ?_; rintro e w1 ⟨rfl, rfl⟩)
      go_ret
      exact ⟨ret_eq (bool_eq HRe.out.symm), hbw⟩
end Go.Proofs.YtafojijhfbnehaaGreatDoor
/- NextNumber: both sides; the walks of the laws of ValidNotices and NextNumber. -/
namespace Go.Proofs.YtafojijhfbnehaaGreatDoor
open Go.RowKit
theorem nt_le {w : World} {base : Nat} {e : TypeId} {sz n c : Nat} {A : Option Addr} {xs : List Value} (h : w.ownsRow base e sz (.slice A n c) n xs) : n ≤ c := by
  rcases h.2 with ⟨h', _⟩ | ⟨g, cap, cur, hv, _, _, h1, _⟩
  · injection h' with _ e1 _
    omega
  · injection hv with _ _ e1
    omega
def nxV (l : List NtA) : Int := bif ntsB l then (l[l.length - 1]?).elim 1 (fun a => if a.1.m + 1 ≤ 9999 then a.1.m + 1 else 0) else 0
def nxK (l : List NtA) : Int := bif ntsB l then (l[l.length - 1]?).elim 0 (fun a => if a.1.m + 1 ≤ 9999 then 0 else 6) else 1
theorem nts_num {l : List NtA} (h : ntsB l = true) {i : Nat} {a : NtA} (ha : l[i]? = some a) : 1 ≤ a.1.m ∧ a.1.m ≤ 9999 := by
  rw [ntsB, Bool.and_eq_true] at h
  have h1 := allB_iff.1 h.1 i (List.getElem?_eq_some_iff.1 ha).1
  rw [ntsAt, ha] at h1
  simp only [Option.elim_some, Bool.and_eq_true] at h1
  have h2 := h1.1
  rw [ntB, Bool.and_eq_true, inB, Bool.and_eq_true, decide_eq_true_eq, decide_eq_true_eq] at h2
  exact h2.1
set_option maxRecDepth 100000 in
set_option maxHeartbeats 2000000 in
theorem specNext_c (A : Option Addr) (n c : Nat) (zs : List NtG) (w : World) (h : NtSl w A n zs) (hm : n ≤ 1048576) (hc : n ≤ c) :
    Calls Tryz.prog 29 #[.slice A n c] w fun e w' => e = .returned (.tuple #[.int .i64 (nxV (zs.map NtG.a)), .int .i64 (nxK (zs.map NtG.a))]) ∧ Below w.heap.size w w' := by
  have hl := h.len
  have hV := l21Ok_c A n c zs w h hm hc
  obtain ⟨V, hVd⟩ : ∃ V, ntsB (zs.map NtG.a) = V := ⟨_, rfl⟩
  obtain ⟨P, hP⟩ : ∃ P, nxV (zs.map NtG.a) = P := ⟨_, rfl⟩
  obtain ⟨K, hK⟩ : ∃ K, nxK (zs.map NtG.a) = K := ⟨_, rfl⟩
  rw [hP, hK]
  rw [hVd] at hV
  cases V
  · have eP : P = 0 := by rw [← hP, nxV, hVd]; rfl
    have eK : K = 1 := by rw [← hK, nxK, hVd]; rfl
    subst eP eK
    clear hP hK
    have HV := Lib.hid hV; clear hV
    have HVd := Lib.hid hVd; clear hVd
    go_enter Tryz.func29, Tryz.ntmps29
    go_wp2_with fail
    refine HV.out.mono ?_
    rintro e w1 ⟨rfl, hb1⟩
    go_wp2_with fail
    go_ret2
    exact ⟨rfl, hb1⟩
  rcases Nat.eq_zero_or_pos n with hn | hn
  · subst hn
    have hz : zs = [] := List.eq_nil_of_length_eq_zero hl
    have eP : P = 1 := by rw [← hP, nxV, hVd, hz]; rfl
    have eK : K = 0 := by rw [← hK, nxK, hVd, hz]; rfl
    subst eP eK
    clear hP hK
    have HV := Lib.hid hV; clear hV
    have HVd := Lib.hid hVd; clear hVd
    have Hz := Lib.hid hz; clear hz
    go_enter Tryz.func29, Tryz.ntmps29
    go_wp2_with fail
    refine HV.out.mono ?_
    rintro e w1 ⟨rfl, hb1⟩
    go_wp2_with fail
    go_ret2
    exact ⟨rfl, hb1⟩
  obtain ⟨j, hj⟩ : ∃ j, n = j + 1 := ⟨n - 1, by omega⟩
  obtain ⟨b, off, g, rfl, hb, hx, _, hp⟩ := h.getR j (by omega)
  have hxa : (zs.map NtG.a)[(zs.map NtG.a).length - 1]? = some g.a := by
    rw [List.length_map, hl, hj, Nat.add_sub_cancel, List.getElem?_map, hx]; rfl
  have hnum := nts_num hVd hxa
  have eP : P = if g.x.m + 1 ≤ 9999 then g.x.m + 1 else 0 := by rw [← hP, nxV, hVd, hxa]; rfl
  have eK : K = if g.x.m + 1 ≤ 9999 then 0 else 6 := by rw [← hK, nxK, hVd, hxa]; rfl
  have hcell : ∀ w1, Below w.heap.size w w1 → w1.cell? ⟨b, off + j * 20, none⟩ = some (.int .i64 g.x.m) := fun w1 hb1 => (ntP_of (rangeB hp hb1 hb) (Nat.lt_of_lt_of_le hb hb1.size)).k0
  obtain ⟨n1, n2⟩ : 1 ≤ g.x.m ∧ g.x.m ≤ 9999 := hnum
  obtain ⟨m, hmd⟩ : ∃ m, g.x.m = m := ⟨_, rfl⟩
  rw [hmd] at eP eK hcell n1 n2
  have j0 : (0 : Int) ≤ (j : Int) := by omega
  have j1 : (j : Int) < (n : Int) := by omega
  have jn : (n : Int) - 1 = (j : Int) := by omega
  have nz : ((n : Int) == 0) = false := by simp; omega
  have nz2 : ¬ n = 0 := by omega
  clear hP hK hp hxa hmd
  have HV := Lib.hid hV; clear hV
  have HVd := Lib.hid hVd; clear hVd
  have Hx := Lib.hid hx; clear hx
  have Hj := Lib.hid hj; clear hj
  have Hl := Lib.hid hl; clear hl
  have Hc := Lib.hid hcell; clear hcell
  by_cases hle : m + 1 ≤ 9999
  · rw [if_pos hle] at eP eK
    subst eP eK
    have t1 : ¬ 9999 < m + 1 := by omega
    go_enter Tryz.func29, Tryz.ntmps29
    go_wp2_with fail
    refine HV.out.mono ?_
    rintro e w1 ⟨rfl, hb1⟩
    have c0 := Hc.out _ hb1
    go_wp2_with fail
    go_ret2
    exact ⟨rfl, hb1⟩
  · rw [if_neg hle] at eP eK
    subst eP eK
    have t1 : 9999 < m + 1 := by omega
    go_enter Tryz.func29, Tryz.ntmps29
    go_wp2_with fail
    refine HV.out.mono ?_
    rintro e w1 ⟨rfl, hb1⟩
    have c0 := Hc.out _ hb1
    go_wp2_with fail
    go_ret2
    exact ⟨rfl, hb1⟩
set_option maxRecDepth 100000 in
set_option maxHeartbeats 2000000 in
theorem implNext_c (A : Option Addr) (n c : Nat) (zs : List NtG) (w : World) (h : NtSl w A n zs) (hm : n ≤ 1048576) (hc : n ≤ c) (ht : Tab w) :
    Calls Tryz.prog 30 #[.slice A n c] w fun e w' => e = .returned (.tuple #[.int .i64 (nxV (zs.map NtG.a)), .int .i64 (nxK (zs.map NtG.a))]) ∧ Below w.heap.size w w' := by
  have hl := h.len
  have hV := implValidNotices_c A n c zs w h hm hc ht
  obtain ⟨V, hVd⟩ : ∃ V, ntsB (zs.map NtG.a) = V := ⟨_, rfl⟩
  obtain ⟨P, hP⟩ : ∃ P, nxV (zs.map NtG.a) = P := ⟨_, rfl⟩
  obtain ⟨K, hK⟩ : ∃ K, nxK (zs.map NtG.a) = K := ⟨_, rfl⟩
  rw [hP, hK]
  rw [hVd] at hV
  cases V
  · have eP : P = 0 := by rw [← hP, nxV, hVd]; rfl
    have eK : K = 1 := by rw [← hK, nxK, hVd]; rfl
    subst eP eK
    clear hP hK
    have HV := Lib.hid hV; clear hV
    have HVd := Lib.hid hVd; clear hVd
    go_enter Tryz.func30, Tryz.ntmps30
    go_wp2_with fail
    refine HV.out.mono ?_
    rintro e w1 ⟨rfl, hb1⟩
    go_wp2_with fail
    go_ret2
    exact ⟨rfl, hb1⟩
  rcases Nat.eq_zero_or_pos n with hn | hn
  · subst hn
    have hz : zs = [] := List.eq_nil_of_length_eq_zero hl
    have eP : P = 1 := by rw [← hP, nxV, hVd, hz]; rfl
    have eK : K = 0 := by rw [← hK, nxK, hVd, hz]; rfl
    subst eP eK
    clear hP hK
    have HV := Lib.hid hV; clear hV
    have HVd := Lib.hid hVd; clear hVd
    have Hz := Lib.hid hz; clear hz
    go_enter Tryz.func30, Tryz.ntmps30
    go_wp2_with fail
    refine HV.out.mono ?_
    rintro e w1 ⟨rfl, hb1⟩
    go_wp2_with fail
    go_ret2
    exact ⟨rfl, hb1⟩
  obtain ⟨j, hj⟩ : ∃ j, n = j + 1 := ⟨n - 1, by omega⟩
  obtain ⟨b, off, g, rfl, hb, hx, _, hp⟩ := h.getR j (by omega)
  have hxa : (zs.map NtG.a)[(zs.map NtG.a).length - 1]? = some g.a := by
    rw [List.length_map, hl, hj, Nat.add_sub_cancel, List.getElem?_map, hx]; rfl
  have hnum := nts_num hVd hxa
  have eP : P = if g.x.m + 1 ≤ 9999 then g.x.m + 1 else 0 := by rw [← hP, nxV, hVd, hxa]; rfl
  have eK : K = if g.x.m + 1 ≤ 9999 then 0 else 6 := by rw [← hK, nxK, hVd, hxa]; rfl
  have hcell : ∀ w1, Below w.heap.size w w1 → w1.cell? ⟨b, off + j * 20, none⟩ = some (.int .i64 g.x.m) := fun w1 hb1 => (ntP_of (rangeB hp hb1 hb) (Nat.lt_of_lt_of_le hb hb1.size)).k0
  obtain ⟨n1, n2⟩ : 1 ≤ g.x.m ∧ g.x.m ≤ 9999 := hnum
  obtain ⟨m, hmd⟩ : ∃ m, g.x.m = m := ⟨_, rfl⟩
  rw [hmd] at eP eK hcell n1 n2
  have j0 : (0 : Int) ≤ (j : Int) := by omega
  have j1 : (j : Int) < (n : Int) := by omega
  have jn : (n : Int) - 1 = (j : Int) := by omega
  have nz : ((n : Int) == 0) = false := by simp; omega
  have nz2 : ¬ n = 0 := by omega
  clear hP hK hp hxa hmd
  have HV := Lib.hid hV; clear hV
  have HVd := Lib.hid hVd; clear hVd
  have Hx := Lib.hid hx; clear hx
  have Hj := Lib.hid hj; clear hj
  have Hl := Lib.hid hl; clear hl
  have Hc := Lib.hid hcell; clear hcell
  by_cases hle : m + 1 ≤ 9999
  · rw [if_pos hle] at eP eK
    subst eP eK
    have t1 : inB (m + 1) 1 9999 = true := by
      rw [inB, Bool.and_eq_true, decide_eq_true_eq, decide_eq_true_eq]; omega
    go_enter Tryz.func30, Tryz.ntmps30
    go_wp2_with fail
    refine HV.out.mono ?_
    rintro e w1 ⟨rfl, hb1⟩
    have c0 := Hc.out _ hb1
    go_wp2_with (go_at_call 64; refine (isNumber_c _ _).mono ?_; rintro e w1 ⟨rfl, rfl⟩)
    go_ret2
    exact ⟨rfl, hb1⟩
  · rw [if_neg hle] at eP eK
    subst eP eK
    have t1 : inB (m + 1) 1 9999 = false := by
      rw [inB, Bool.and_eq_false_iff]; right; exact decide_eq_false hle
    go_enter Tryz.func30, Tryz.ntmps30
    go_wp2_with fail
    refine HV.out.mono ?_
    rintro e w1 ⟨rfl, hb1⟩
    have c0 := Hc.out _ hb1
    go_wp2_with (go_at_call 64; refine (isNumber_c _ _).mono ?_; rintro e w1 ⟨rfl, rfl⟩)
    go_ret2
    exact ⟨rfl, hb1⟩
set_option maxRecDepth 100000 in
set_option maxHeartbeats 2000000 in
theorem lawValidNotices_c (A : Option Addr) (n c : Nat) (zs : List NtG) (w : World) (h : Sl w w.heap.size 20 A n (zs.flatMap NtG.cells) ∧ ∀ z ∈ zs, AidRd w z.z) (hm : n ≤ maxLen) (ht : Tab w) :
    Calls Tryz.prog 5 #[.slice A n c] w fun e w' => e = .returned (.bool true) ∧ Below w.heap.size w w' := by
  go_enter Tryz.func5, Tryz.ntmps5
  go_wp2_with fail
  refine (szNoticeS_c A n c zs _ _ h.1 hm h.2 (by omega) (by omega)).mono ?_
  rintro e w1 ⟨r, rfl, hr, hb1⟩
  have Hr := Lib.hid hr; clear hr
  go_wp2_with fail
  · go_ret
    exact ⟨rfl, hb1⟩
  have hbd : (∀ z ∈ zs, AidBd z.z.a) ∧ n ≤ 1048576 := by
    rcases Hr.out with h3 | ⟨h3, h4, h5⟩
    · omega
    · exact ⟨h5, by omega⟩
  obtain ⟨bd, hn⟩ := hbd
  clear Hr
  have s0 : NtSl w A n zs := ⟨h.1, fun z hz => (h.2 z hz).ok (bd z hz)⟩
  refine (toNoticeS_c A n c zs _ (s0.next hb1) hn).mono ?_
  rintro e w2 ⟨v2, zs2, rfl, ha2, ho2, hb2⟩
  obtain ⟨A2, c2, rfl⟩ := own_slice ho2.own
  have l2 := nt_le ho2.own
  have s2 := ho2.sl (nbd_of ha2 bd)
  replace hb2 := hb1.trans (hb2.mono hb1.size)
  clear ho2
  go_wp2_with fail
  have hc2 := specValidNotices_c A2 n c2 zs2 w2 s2 hn l2
  rw [ha2] at hc2
  refine hc2.mono ?_
  rintro e w3 ⟨rfl, hb3⟩
  clear hc2
  replace hb3 := hb2.trans (hb3.mono hb2.size)
  go_wp2_with fail
  refine (toNoticeS_c A n c zs _ (s0.next hb3) hn).mono ?_
  rintro e w4 ⟨v4, zs4, rfl, ha4, ho4, hb4⟩
  obtain ⟨A4, c4, rfl⟩ := own_slice ho4.own
  have l4 := nt_le ho4.own
  have s4 := ho4.sl (nbd_of ha4 bd)
  replace hb4 := hb3.trans (hb4.mono hb3.size)
  clear ho4
  go_wp2_with fail
  have hc4 := implValidNotices_c A4 n c4 zs4 w4 s4 hn l4 (ht.next hb4)
  rw [ha4] at hc4
  refine hc4.mono ?_
  rintro e w6 ⟨rfl, hb6⟩
  clear hc4
  have s6 := s4.next hb6
  replace hb6 := hb4.trans (hb6.mono hb4.size)
  go_wp2_with fail
  refine (toNoticeS_c A n c zs _ (s0.next hb6) hn).mono ?_
  rintro e w7 ⟨v7, zs7, rfl, ha7, ho7, hb7⟩
  obtain ⟨A7, c7, rfl⟩ := own_slice ho7.own
  have s7 := ho7.sl (nbd_of ha7 bd)
  have t7 := s6.next hb7
  replace hb7 := hb6.trans (hb7.mono hb6.size)
  clear ho7
  go_wp2_with fail
  refine (eqNoticeS_c A4 A7 n c4 c7 zs4 zs7 _ t7 s7 (ha4.trans ha7.symm) hn).mono ?_
  rintro e w8 ⟨rfl, hb8⟩
  go_wp2_with fail
  go_ret
  exact ⟨rfl, hb7.trans (hb8.mono hb7.size)⟩
set_option maxRecDepth 100000 in
set_option maxHeartbeats 2000000 in
theorem lawNextNumber_c (A : Option Addr) (n c : Nat) (zs : List NtG) (w : World) (h : Sl w w.heap.size 20 A n (zs.flatMap NtG.cells) ∧ ∀ z ∈ zs, AidRd w z.z) (hm : n ≤ maxLen) (ht : Tab w) :
    Calls Tryz.prog 6 #[.slice A n c] w fun e w' => e = .returned (.bool true) ∧ Below w.heap.size w w' := by
  go_enter Tryz.func6, Tryz.ntmps6
  go_wp2_with fail
  refine (szNoticeS_c A n c zs _ _ h.1 hm h.2 (by omega) (by omega)).mono ?_
  rintro e w1 ⟨r, rfl, hr, hb1⟩
  have Hr := Lib.hid hr; clear hr
  go_wp2_with fail
  · go_ret
    exact ⟨rfl, hb1⟩
  have hbd : (∀ z ∈ zs, AidBd z.z.a) ∧ n ≤ 1048576 := by
    rcases Hr.out with h3 | ⟨h3, h4, h5⟩
    · omega
    · exact ⟨h5, by omega⟩
  obtain ⟨bd, hn⟩ := hbd
  clear Hr
  have s0 : NtSl w A n zs := ⟨h.1, fun z hz => (h.2 z hz).ok (bd z hz)⟩
  refine (toNoticeS_c A n c zs _ (s0.next hb1) hn).mono ?_
  rintro e w2 ⟨v2, zs2, rfl, ha2, ho2, hb2⟩
  obtain ⟨A2, c2, rfl⟩ := own_slice ho2.own
  have l2 := nt_le ho2.own
  have s2 := ho2.sl (nbd_of ha2 bd)
  replace hb2 := hb1.trans (hb2.mono hb1.size)
  clear ho2
  go_wp2_with fail
  have hc2 := specNext_c A2 n c2 zs2 w2 s2 hn l2
  rw [ha2] at hc2
  refine hc2.mono ?_
  rintro e w3 ⟨rfl, hb3⟩
  clear hc2
  replace hb3 := hb2.trans (hb3.mono hb2.size)
  go_wp2_with fail
  refine (toNoticeS_c A n c zs _ (s0.next hb3) hn).mono ?_
  rintro e w4 ⟨v4, zs4, rfl, ha4, ho4, hb4⟩
  obtain ⟨A4, c4, rfl⟩ := own_slice ho4.own
  have l4 := nt_le ho4.own
  have s4 := ho4.sl (nbd_of ha4 bd)
  replace hb4 := hb3.trans (hb4.mono hb3.size)
  clear ho4
  go_wp2_with fail
  have hc4 := implNext_c A4 n c4 zs4 w4 s4 hn l4 (ht.next hb4)
  rw [ha4] at hc4
  refine hc4.mono ?_
  rintro e w6 ⟨rfl, hb6⟩
  clear hc4
  have s6 := s4.next hb6
  replace hb6 := hb4.trans (hb6.mono hb4.size)
  go_wp2_with fail
  refine (toNoticeS_c A n c zs _ (s0.next hb6) hn).mono ?_
  rintro e w7 ⟨v7, zs7, rfl, ha7, ho7, hb7⟩
  obtain ⟨A7, c7, rfl⟩ := own_slice ho7.own
  have s7 := ho7.sl (nbd_of ha7 bd)
  have t7 := s6.next hb7
  replace hb7 := hb6.trans (hb7.mono hb6.size)
  clear ho7
  go_wp2_with fail
  refine (eqNoticeS_c A4 A7 n c4 c7 zs4 zs7 _ t7 s7 (ha4.trans ha7.symm) hn).mono ?_
  rintro e w8 ⟨rfl, hb8⟩
  go_wp2_with fail
  go_ret
  exact ⟨rfl, hb7.trans (hb8.mono hb7.size)⟩
end Go.Proofs.YtafojijhfbnehaaGreatDoor
