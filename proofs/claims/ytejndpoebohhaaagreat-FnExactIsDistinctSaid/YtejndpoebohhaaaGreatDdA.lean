/- DdA: several of my texts in one. -/
import Derived.Test.YtejndpoebohhaaaGreatApp
import Derived.Test.YtejndpoebohhaaaGreatIntS
import Derived.Test.YtejndpoebohhaaaGreatSmall
/- IsDistinct: rows of rows of integers of any length; the law's own functions over them. -/
namespace Go.Proofs.YtejndpoebohhaaaGreat
open Go.RowKit
structure RowG where
  A : Option Addr
  c : Nat
  xs : List Int
abbrev RowG.n (r : RowG) : Nat := r.xs.length
abbrev RowG.cells (r : RowG) : List Value := [.slice r.A r.xs.length r.c]
theorem RowG.cells_len (r : RowG) : r.cells.length = 1 := rfl
/-- The slice .slice A n _ reads as the rows rs. -/
structure RS (w : World) (A : Option Addr) (n : Nat) (rs : List RowG) : Prop where
  sl : Sl w w.heap.size 1 A n (rs.flatMap RowG.cells)
  ok : ∀ r ∈ rs, Sl w w.heap.size 1 r.A r.xs.length (r.xs.flatMap intC) ∧ r.xs.length ≤ 1048576
theorem RS.next {w w' : World} {A : Option Addr} {n : Nat} {rs : List RowG} (h : RS w A n rs) (hb : Below w.heap.size w w') : RS w' A n rs := ⟨h.sl.next hb, fun r hr => ⟨(h.ok r hr).1.next hb, (h.ok r hr).2⟩⟩
theorem RS.len {w : World} {A : Option Addr} {n : Nat} {rs : List RowG} (h : RS w A n rs) : rs.length = n := h.sl.len RowG.cells 1 RowG.cells_len (by omega)
theorem RS.get {w : World} {A : Option Addr} {n : Nat} {rs : List RowG} (h : RS w A n rs) (k : Nat) (hk : k < n) :
    ∃ b off r, A = some ⟨b, off, none⟩ ∧ b < w.heap.size ∧ rs[k]? = some r ∧ Sl w w.heap.size 1 r.A r.xs.length (r.xs.flatMap intC) ∧ r.xs.length ≤ 1048576 ∧ w.cell? ⟨b, off + k, none⟩ = some (.slice r.A r.xs.length r.c) := by
  obtain ⟨b, off, r, hA, hb, hx, hc⟩ := h.sl.get RowG.cells 1 RowG.cells_len (by omega) k hk
  have := h.ok r (List.mem_of_getElem? hx)
  exact ⟨b, off, r, hA, hb, hx, this.1, this.2, by simpa using hc 0 _ rfl⟩
set_option maxRecDepth 100000 in
set_option maxHeartbeats 1000000 in
theorem eqRows_c (A A' : Option Addr) (c c' n : Nat) (rs rs' : List RowG) (w : World) (h : RS w A n rs) (h' : RS w A' n rs') (hx : rs.map RowG.xs = rs'.map RowG.xs) (hm : n ≤ 1048576) :
    Calls Tryz.prog 12 #[.slice A n c, .slice A' n c'] w fun e w' => e = .returned (.bool true) ∧ Below w.heap.size w w' := by
  have HX := Lib.hid hx; clear hx
  have H := Lib.hid h; clear h
  have H' := Lib.hid h'; clear h'
  go_enter Tryz.func12, Tryz.ntmps12
  go_wp2_with fail
  go_loopw [5] (fun i wr => ∃ k : Nat, k ≤ n ∧ i = .int .i64 k ∧ Below w.heap.size w wr) (fun i _ => n - (intOf i).toNat)
  case atStart => exact ⟨0, Nat.zero_le _, rfl, Below.refl _ _⟩
  case round =>
    obtain ⟨k, hk, rfl, hbw⟩ := hrel
    have k0 : (0 : Int) ≤ (k : Int) := by omega
    by_cases hlt : k < n
    · have k1 : (k : Int) < (n : Int) := by omega
      obtain ⟨b, off, r, rfl, hb, hr, s0, m0, q0⟩ := (H.out.next hbw).get k hlt
      obtain ⟨b', off', r', rfl, hb', hr', s1, m1, q1⟩ := (H'.out.next hbw).get k hlt
      have hxx : r.xs = r'.xs := by
        have e := congrArg (fun l => l[k]?) HX.out
        simp only [List.getElem?_map, hr, hr', Option.map_some, Option.some.injEq] at e
        exact e
      rw [← hxx] at s1 q1
      have hE : ∀ w', Below wr.heap.size wr w' → Calls Tryz.prog 13 #[.slice r.A r.xs.length r.c, .slice r'.A r.xs.length r'.c] w' fun e w'' => e = .returned (.bool true) ∧ Below w'.heap.size w' w'' := fun w' hbb => eqInt64S_c _ _ r.xs.length _ _ r.xs w' (s0.next hbb) (s1.next hbb) (by unfold maxLen; omega)
      have e9 : ∀ {w' : World}, Below wr.heap.size wr w' → (Below wr.heap.size wr w' ∧ (∀ i, w'.cell? ⟨b, i, none⟩ = wr.cell? ⟨b, i, none⟩) ∧ (∀ i, w'.cell? ⟨b', i, none⟩ = wr.cell? ⟨b', i, none⟩)) := fun hbb => ⟨hbb, keepC hbb _ hb, keepC hbb _ hb'⟩
      have HE := Lib.hid hE; clear hE
      have Hr := Lib.hid hr; clear hr
      have Hr' := Lib.hid hr'; clear hr'
      have Hxx := Lib.hid hxx; clear hxx
      clear s0 s1
      go_wp2_with fail
      refine wp_region_held_drew (S := fun w' => Below wr.heap.size wr w' ∧ (∀ i, w'.cell? ⟨b, i, none⟩ = wr.cell? ⟨b, i, none⟩) ∧ (∀ i, w'.cell? ⟨b', i, none⟩ = wr.cell? ⟨b', i, none⟩)) (by kernel_rfl) (e9 (Below.refl _ _).drew) (fun hHeld => ?_)
      (first
        | (refine wpAnyH_take (i := 0) (v := ?_) rfl (by kernel_rfl) (by kernel_rfl) (by kernel_rfl) (fun _ _ _ h => h) (Or.inl ⟨by rfl, ?_⟩) (by assumption) ?_
           rotate_left
           focus (intro wq hSq; (try dsimp only at hSq); go_simp; (try (with_reducible rfl)); done))
        | (refine wpAnyH_take (i := 0) (v := undef) rfl (by kernel_rfl) (by kernel_rfl) (by kernel_rfl) (fun _ _ _ h => h) (Or.inr ⟨by rfl, rfl⟩) (by assumption) ?_)
        | fail "take 0")
      try simp only [Act.put, List.setIfInBounds_toArray, List.set_cons_zero, List.set_cons_succ, List.getElem_toArray, List.getElem_cons_zero]
      (first
        | (refine wpAnyH_take (i := 1) (v := ?_) rfl (by kernel_rfl) (by kernel_rfl) (by kernel_rfl) (fun _ _ _ h => h) (Or.inl ⟨by rfl, ?_⟩) (by assumption) ?_
           rotate_left
           focus (intro wq hSq; (try dsimp only at hSq); go_simp; (try (with_reducible rfl)); done))
        | (refine wpAnyH_take (i := 1) (v := undef) rfl (by kernel_rfl) (by kernel_rfl) (by kernel_rfl) (fun _ _ _ h => h) (Or.inr ⟨by rfl, rfl⟩) (by assumption) ?_)
        | fail "take 1")
      try simp only [Act.put, List.setIfInBounds_toArray, List.set_cons_zero, List.set_cons_succ, List.getElem_toArray, List.getElem_cons_zero, List.getElem_cons_succ]
      (first
        | (refine wpAnyH_take (i := 2) (v := ?_) rfl (by kernel_rfl) (by kernel_rfl) (by kernel_rfl) (fun _ _ _ h => h) (Or.inl ⟨by rfl, ?_⟩) (by assumption) ?_
           rotate_left
           focus (intro wq hSq; (try dsimp only at hSq); go_simp; (try (with_reducible rfl)); done))
        | (refine wpAnyH_take (i := 2) (v := undef) rfl (by kernel_rfl) (by kernel_rfl) (by kernel_rfl) (fun _ _ _ h => h) (Or.inr ⟨by rfl, rfl⟩) (by assumption) ?_)
        | fail "take 2")
      try simp only [Act.put, List.setIfInBounds_toArray, List.set_cons_zero, List.set_cons_succ, List.getElem_toArray, List.getElem_cons_zero, List.getElem_cons_succ]
      (first
        | (refine wpAnyH_take (i := 3) (v := ?_) rfl (by kernel_rfl) (by kernel_rfl) (by kernel_rfl) (fun _ _ _ h => h) (Or.inl ⟨by rfl, ?_⟩) (by assumption) ?_
           rotate_left
           focus (intro wq hSq; (try dsimp only at hSq); go_simp; (try (with_reducible rfl)); done))
        | (refine wpAnyH_take (i := 3) (v := undef) rfl (by kernel_rfl) (by kernel_rfl) (by kernel_rfl) (fun _ _ _ h => h) (Or.inr ⟨by rfl, rfl⟩) (by assumption) ?_)
        | fail "take 3")
      try simp only [Act.put, List.setIfInBounds_toArray, List.set_cons_zero, List.set_cons_succ, List.getElem_toArray, List.getElem_cons_zero, List.getElem_cons_succ]
      (first
        | (refine wpAnyH_take (i := 4) (v := ?_) rfl (by kernel_rfl) (by kernel_rfl) (by kernel_rfl) (fun _ _ _ h => h) (Or.inl ⟨by rfl, ?_⟩) (by assumption) ?_
           rotate_left
           focus (intro wq hSq; (try dsimp only at hSq); go_simp; (try (with_reducible rfl)); done))
        | (refine wpAnyH_take (i := 4) (v := undef) rfl (by kernel_rfl) (by kernel_rfl) (by kernel_rfl) (fun _ _ _ h => h) (Or.inr ⟨by rfl, rfl⟩) (by assumption) ?_)
        | fail "take 4")
      try simp only [Act.put, List.setIfInBounds_toArray, List.set_cons_zero, List.set_cons_succ, List.getElem_toArray, List.getElem_cons_zero, List.getElem_cons_succ]
      (first
        | (refine wpAnyH_take (i := 5) (v := ?_) rfl (by kernel_rfl) (by kernel_rfl) (by kernel_rfl) (fun _ _ _ h => h) (Or.inl ⟨by rfl, ?_⟩) (by assumption) ?_
           rotate_left
           focus (intro wq hSq; (try dsimp only at hSq); go_simp; (try (with_reducible rfl)); done))
        | (refine wpAnyH_take (i := 5) (v := undef) rfl (by kernel_rfl) (by kernel_rfl) (by kernel_rfl) (fun _ _ _ h => h) (Or.inr ⟨by rfl, rfl⟩) (by assumption) ?_)
        | fail "take 5")
      try simp only [Act.put, List.setIfInBounds_toArray, List.set_cons_zero, List.set_cons_succ, List.getElem_toArray, List.getElem_cons_zero, List.getElem_cons_succ]
      (first
        | (refine wpAnyH_take (i := 6) (v := ?_) rfl (by kernel_rfl) (by kernel_rfl) (by kernel_rfl) (fun _ _ _ h => h) (Or.inl ⟨by rfl, ?_⟩) (by assumption) ?_
           rotate_left
           focus (intro wq hSq; (try dsimp only at hSq); go_simp; (try (with_reducible rfl)); done))
        | (refine wpAnyH_take (i := 6) (v := undef) rfl (by kernel_rfl) (by kernel_rfl) (by kernel_rfl) (fun _ _ _ h => h) (Or.inr ⟨by rfl, rfl⟩) (by assumption) ?_)
        | fail "take 6")
      try simp only [Act.put, List.setIfInBounds_toArray, List.set_cons_zero, List.set_cons_succ, List.getElem_toArray, List.getElem_cons_zero, List.getElem_cons_succ]
      (first
        | (refine wpAnyH_take (i := 7) (v := ?_) rfl (by kernel_rfl) (by kernel_rfl) (by kernel_rfl) (fun _ _ _ h => h) (Or.inl ⟨by rfl, ?_⟩) (by assumption) ?_
           rotate_left
           focus (intro wq hSq; (try dsimp only at hSq); go_simp; (try (with_reducible rfl)); done))
        | (refine wpAnyH_take (i := 7) (v := undef) rfl (by kernel_rfl) (by kernel_rfl) (by kernel_rfl) (fun _ _ _ h => h) (Or.inr ⟨by rfl, rfl⟩) (by assumption) ?_)
        | fail "take 7")
      try simp only [Act.put, List.setIfInBounds_toArray, List.set_cons_zero, List.set_cons_succ, List.getElem_toArray, List.getElem_cons_zero, List.getElem_cons_succ]
      refine wpAnyH_ready (rs := [8]) (by kernel_rfl) (by simp) ?_
      refine AllReadyH.cons (o := _) rfl (fun K hK => ?_) AllReadyH.nil
      go_simp
      refine (HE.out _ (Below.refl _ _).drew).mono ?_; rintro e w2 ⟨rfl, hb2⟩; have hb12 := (Below.refl wr.heap.size wr).drew.trans hb2
      refine hK.out _ _ ?_ (fun hHeld => ?_)
      · exact e9 hb12
      clear hK K
      try simp only [Act.put, List.setIfInBounds_toArray, List.set_cons_zero, List.set_cons_succ, List.getElem_toArray, List.getElem_cons_zero, List.getElem_cons_succ]
      (first
        | (refine wpAnyH_take (i := 9) (v := ?_) rfl (by kernel_rfl) (by kernel_rfl) (by kernel_rfl) (fun _ _ _ h => h) (Or.inl ⟨by rfl, ?_⟩) (by assumption) ?_
           rotate_left
           focus (intro wq hSq; (try dsimp only at hSq); go_simp; (try (with_reducible rfl)); done))
        | (refine wpAnyH_take (i := 9) (v := undef) rfl (by kernel_rfl) (by kernel_rfl) (by kernel_rfl) (fun _ _ _ h => h) (Or.inr ⟨by rfl, rfl⟩) (by assumption) ?_)
        | fail "take 9")
      try simp only [Act.put, List.setIfInBounds_toArray, List.set_cons_zero, List.set_cons_succ, List.getElem_toArray, List.getElem_cons_zero, List.getElem_cons_succ]
      refine wpAnyH_done (by kernel_rfl) ?_ _
      clear hHeld e9
      go_wp2_with fail
      go_roundw
      case rel => exact ⟨k + 1, by omega, by go_num, hbw.trans (hb12.mono hbw.size)⟩
      case measure => simp [intOf]; omega
    · obtain rfl : k = n := by omega
      go_wp2_with fail
      go_ret
      exact ⟨rfl, hbw⟩
end Go.Proofs.YtejndpoebohhaaaGreat
/- IsDistinct: rows of rows: the law's sizes and copies. -/
namespace Go.Proofs.YtejndpoebohhaaaGreat
open Go.RowKit
set_option maxRecDepth 100000 in
set_option maxHeartbeats 1000000 in
theorem szRows_c (A : Option Addr) (n c : Nat) (rs : List RowG) (left : Int) (w : World) (h : Sl w w.heap.size 1 A n (rs.flatMap RowG.cells)) (hm : n ≤ maxLen) (hz : ∀ r ∈ rs, r.xs.length ≤ maxLen) (h0 : 0 ≤ left) (h1 : left ≤ 1048576) :
    Calls Tryz.prog 5 #[.slice A n c, .int .i64 left] w fun e w' => ∃ r : Int, e = .returned (.int .i64 r) ∧ (r = -1 ∨ 0 ≤ r ∧ r ≤ left ∧ (n : Int) ≤ left ∧ ∀ z ∈ rs, z.xs.length ≤ 1048576) ∧ Below w.heap.size w w' := by
  have hl := h.len RowG.cells 1 RowG.cells_len (by omega)
  unfold maxLen at hm
  have Hl := Lib.hid hl; clear hl
  have Hz := Lib.hid hz; clear hz
  go_enter Tryz.func5, Tryz.ntmps5
  go_wp2
  · go_ret
    exact ⟨-1, rfl, .inl rfl, by (repeat (first | (with_reducible assumption) | (with_reducible exact Below.refl _ _) | exact Nat.le_refl _ | exact Below.size (by with_reducible assumption) | (with_reducible refine Below.drew ?_) | (with_reducible refine below_drewN ?_ _) | (with_reducible refine Below.alloc ?_ ?_ _) | (with_reducible refine Below.setCell ?_ ?_ _) | (with_reducible refine le_alloc ?_ _) | (with_reducible refine le_set ?_ _ _) | (with_reducible refine le_drew ?_) | (with_reducible refine le_drewN ?_ _) | omega | (dsimp only; omega)))⟩
  · go_loopw [1, 5] (fun l i wr => ∃ (k : Nat) (r : Int), k ≤ n ∧ i = .int .i64 k ∧ l = .int .i64 r ∧ 0 ≤ r ∧ r + n ≤ left ∧ (∀ z ∈ rs.take k, z.xs.length ≤ 1048576) ∧ Below w.heap.size w wr) (fun _ i _ => n - (intOf i).toNat)
    case atStart => exact ⟨0, _, Nat.zero_le _, rfl, rfl, by omega, by omega, by simp, Below.refl _ _⟩
    case round =>
      obtain ⟨k, r, hk, rfl, rfl, hr0, hr1, hok, hbw⟩ := hrel
      have Hok := Lib.hid hok; clear hok
      by_cases hlt : k < n
      · obtain ⟨b, off, z, hA, hb, hx, hc⟩ := h.get RowG.cells 1 RowG.cells_len (by omega) k hlt
        subst hA
        have c0 := hc 0 _ rfl
        have m1 := Hz.out z (List.mem_of_getElem? hx)
        have r1 := keepC hbw b hb
        simp only [Nat.add_zero, Nat.mul_one] at c0
        have Hx := Lib.hid hx; clear hx
        clear hc
        go_wp2_with fail
        refine (szInt64S_c z.A z.xs.length z.c r _ m1 hr0 (by omega)).mono ?_
        rintro e w2 ⟨q, rfl, hq, rfl⟩
        have Hq := Lib.hid hq; clear hq
        go_wp2_with fail
        · go_ret
          exact ⟨-1, rfl, .inl rfl, hbw⟩
        · have hq2 : 0 ≤ q ∧ q ≤ r ∧ (z.xs.length : Int) ≤ r := by have := Hq.out; omega
          go_roundw
          case rel =>
            refine ⟨k + 1, q, by omega, by go_num, rfl, by omega, by omega, ?_, hbw⟩
            intro z' hz'
            rcases (mem_take_next Hx.out z').1 hz' with h2 | h2
            · exact Hok.out z' h2
            · subst h2; omega
          case measure => simp [intOf]; omega
      · go_wp2
        go_ret
        have htk : rs.take k = rs := List.take_of_length_le (by rw [Hl.out]; omega)
        have hok' := Hok.out
        rw [htk] at hok'
        exact ⟨r, rfl, .inr ⟨by omega, by omega, by omega, hok'⟩, hbw⟩
/-- They lie in memory of the call's own. -/
structure RowsOwn (w : World) (base : Nat) (v : Value) (n : Nat) (rs : List RowG) : Prop where
  own : w.ownsRow base 23 1 v n (rs.flatMap RowG.cells)
  inn : ∀ r ∈ rs, w.ownsRow base 2 1 (.slice r.A r.xs.length r.c) r.xs.length (r.xs.flatMap intC)
theorem RowsOwn.next {w w' : World} {base n : Nat} {v : Value} {rs : List RowG} (h : RowsOwn w base v n rs) (hb : Below w.heap.size w w') : RowsOwn w' base v n rs := ⟨own_next h.own hb, fun r hr => own_next (h.inn r hr) hb⟩
theorem RowsOwn.rs {w : World} {base n c : Nat} {A : Option Addr} {rs : List RowG} (h : RowsOwn w base (.slice A n c) n rs) (hb : ∀ r ∈ rs, r.xs.length ≤ 1048576) : RS w A n rs := ⟨Sl.of_own h.own, fun r hr => ⟨Sl.of_own (h.inn r hr), hb r hr⟩⟩
theorem drowsInfo : (Tryz.prog.info? 23).map (fun i => (i.zero, i.size, i.bytes)) = some (some (.slice none 0 0), 1, 24) := by kernel_rfl
theorem set_take {ys : List Value} {k n : Nat} {v : Value} (hl : ys.length = n) (hk : k < n) : (ys.set k v).take (k + 1) = ys.take k ++ [v] := by
  rw [List.take_add_one, List.getElem?_set_self (by omega), Option.toList_some, List.take_set_of_le (Nat.le_refl k)]
set_option maxRecDepth 100000 in
set_option maxHeartbeats 1000000 in
theorem toRows_c (A : Option Addr) (n c : Nat) (rs : List RowG) (w : World) (h : RS w A n rs) (hm : n ≤ 1048576) :
    Calls Tryz.prog 8 #[.slice A n c] w fun e w' => ∃ v rs', e = .returned v ∧ rs'.map RowG.xs = rs.map RowG.xs ∧ RowsOwn w' w.heap.size v n rs' ∧ Below w.heap.size w w' := by
  obtain ⟨i0, hi, hz0, hz1, hz2⟩ := info_parts drowsInfo
  have hln := h.len
  have hB : i0.bytes * n ≤ 281474976710656 := by rw [hz2]; omega
  have hM : n ≤ maxLen := by unfold maxLen; omega
  have Hln := Lib.hid hln; clear hln
  have HB := Lib.hid hB; clear hB
  have HM := Lib.hid hM; clear hM
  go_enter Tryz.func8, Tryz.ntmps8
  go_wp2_with (at_make; refine wpList_make_full _ rfl _ _ _ rfl w.heap.size 23 i0 _ 1 Tryz.underlying22 hi hz0 hz1 _ _ _ _ n rfl rfl rfl rfl HB.out HM.out (Nat.le_refl _) ?_; intro w1 hown hgr)
  have hb0 : Below w.heap.size w w1 := (Below.refl _ _).grown hgr (Nat.le_refl _) (by simp)
  clear hgr
  go_loopw [4] (fun i wr => ∃ (k : Nat) (ys : List Value) (rs' : List RowG), k ≤ n ∧ i = .int .i64 k ∧ rs'.map RowG.xs = (rs.take k).map RowG.xs ∧ wr.ownsRow w.heap.size 23 1 (.slice (some ⟨w.heap.size, 0, none⟩) n n) n ys ∧ ys.take k = rs'.flatMap RowG.cells ∧ (∀ z ∈ rs', wr.ownsRow w.heap.size 2 1 (.slice z.A z.xs.length z.c) z.xs.length (z.xs.flatMap intC)) ∧ Below w.heap.size w wr) (fun i _ => n - (intOf i).toNat)
  case atStart => exact ⟨0, _, [], Nat.zero_le _, rfl, by simp, hown, by simp, by simp, hb0⟩
  case round =>
    clear hown hb0
    obtain ⟨k, ys, rs', hk, rfl, hzx, hown, hys, hgr, hbw⟩ := hrel
    have Hzx := Lib.hid hzx; clear hzx
    have Hys := Lib.hid hys; clear hys
    have Hgr := Lib.hid hgr; clear hgr
    by_cases hlt : k < n
    · obtain ⟨b, off, z, rfl, hb, hx, hzo, hzn, c0⟩ := h.get k hlt
      have hyl : ys.length = n := by have := hown.1; omega
      have q1 := keepC hbw b hb
      have z0 : w.heap.size < wr.heap.size := (hown.lt _ rfl).2
      have Hx := Lib.hid hx; clear hx
      have Hyl := Lib.hid hyl; clear hyl
      go_wp2_with fail
      refine (toInt64S_c z.A z.xs.length z.c z.xs _ (hzo.next hbw) hzn).mono ?_
      rintro e w2 ⟨v2, rfl, ho2g, hb1⟩
      obtain ⟨A2, c2', rfl⟩ := own_slice ho2g
      have ho2 := own_next hown hb1
      obtain ⟨y0, f0⟩ := own_cell ho2 k (by omega)
      have fz := ho2.frozenAt
      go_wp2_with fail
      go_roundw
      case rel =>
        have s0 := ho2.stored k (.slice A2 z.xs.length c2')
        refine ⟨k + 1, ys.set k (.slice A2 z.xs.length c2'), rs' ++ [⟨A2, c2', z.xs⟩], by omega, by go_num, ?_, ?_, ?_, ?_, ?_⟩
        · rw [List.map_append, Hzx.out, List.take_add_one, Hx.out]; simp
        · exact s0.1
        · rw [set_take Hyl.out hlt, Hys.out, List.flatMap_append]; simp
        · intro z' hz'
          rcases List.mem_append.1 hz' with h2 | h2
          · have hh := own_next (Hgr.out z' h2) hb1
            exact own_grown hh s0.2 (own_ne hh ho2 (by decide))
          · simp only [List.mem_singleton] at h2
            subst h2
            have hh := own_base ho2g hbw.size
            exact own_grown hh s0.2 (own_ne hh ho2 (by decide))
        · have hb2 := hbw.trans (hb1.mono hbw.size)
          exact hb2.setCell (Nat.le_refl _) _
      case measure => simp [intOf]; omega
    · go_wp2_with fail
      go_ret
      obtain rfl : k = n := by omega
      have hyl := hown.1
      have hys := Hys.out
      have hzx := Hzx.out
      rw [List.take_of_length_le (by omega)] at hys
      rw [List.take_of_length_le (by rw [Hln.out]; omega)] at hzx
      subst hys
      exact ⟨_, rs', rfl, hzx, ⟨hown, Hgr.out⟩, hbw⟩
end Go.Proofs.YtejndpoebohhaaaGreat
/- IsDistinct: pairs of lights, plain; the reference's l18Pairs. -/
namespace Go.Proofs.YtejndpoebohhaaaGreat
open Go.RowKit
def rowOk (prev : Option (List Int)) (r : List Int) (n : Int) : Bool :=
  match r with
  | [a, b] => inB a 0 (n - 1) && (inB b (a + 1) (n - 1) && (match prev with
    | some [c, d] => !(decide (a < c) || (c == a && decide (b ≤ d)))
    | _ => true))
  | _ => false
def pairOk (xss : List (List Int)) (n : Int) (i : Nat) : Bool := match xss[i]? with
  | none => true
  | some r => rowOk (if i = 0 then none else xss[i - 1]?) r n
def pairsB (xss : List (List Int)) (n : Int) : Bool := inB n 0 24 && allB xss.length (pairOk xss n)
theorem rowOk_two {prev : Option (List Int)} {r : List Int} {n : Int} (h : rowOk prev r n = true) : ∃ a b, r = [a, b] ∧ 0 ≤ a ∧ a < b ∧ b ≤ n - 1 := by
  unfold rowOk at h
  split at h
  · rename_i a b
    simp only [Bool.and_eq_true] at h
    have h1 := inB_iff.1 h.1
    have h2 := inB_iff.1 h.2.1
    exact ⟨a, b, rfl, by omega, by omega, by omega⟩
  · cases h
/-- Every pair of a valid list has two lights, in order. -/
theorem pairs_two {xss : List (List Int)} {n : Int} (h : pairsB xss n = true) {i : Nat} {r : List Int} (hr : xss[i]? = some r) : ∃ a b, r = [a, b] ∧ 0 ≤ a ∧ a < b ∧ b ≤ n - 1 := by
  simp only [pairsB, Bool.and_eq_true] at h
  have hi := (List.getElem?_eq_some_iff.1 hr).1
  have := allB_iff.1 h.2 i hi
  unfold pairOk at this
  rw [hr] at this
  exact rowOk_two this
theorem pairs_n {xss : List (List Int)} {n : Int} (h : pairsB xss n = true) : 0 ≤ n ∧ n ≤ 24 := by
  simp only [pairsB, Bool.and_eq_true] at h
  exact inB_iff.1 h.1
end Go.Proofs.YtejndpoebohhaaaGreat
