
/- Characters: the reference's least period. -/
import Derived.Test.YtgibbhipjpbdfaaGreatTimesS
namespace Go.Proofs.YtgibbhipjpbdfaaGreat
open Go.RowKit
theorem shape_TOk {c : Ch} (h : shapeB c = true) : TOk c := by
  simp only [shapeB, Bool.and_eq_true] at h
  have hf := h.2
  have hgood : ∀ {gs : List Int}, groupB gs = true → gs.length ≤ 4 ∧ ∀ x ∈ gs, 1 ≤ x ∧ x ≤ 9 := fun {gs} hg => by
    simp only [groupB, Bool.and_eq_true, decide_eq_true_eq] at hg
    exact ⟨hg.2.1, good_mem (allB_iff.1 hg.1)⟩
  unfold fitsB at hf
  refine ⟨fun h8 => ?_, fun h8 => ?_⟩
  · rw [if_neg (by omega), if_neg (by omega), if_neg (by omega), if_pos h8] at hf
    simp only [letterB, Bool.and_eq_true, decide_eq_true_eq] at hf
    omega
  · split at hf
    · simp only [Bool.and_eq_true, decide_eq_true_eq] at hf
      rw [hf.1]
      exact ⟨by simp, by simp, .inr hf.2⟩
    split at hf
    · simp only [Bool.and_eq_true] at hf
      exact ⟨(hgood hf.2).1, (hgood hf.2).2, .inr hf.1⟩
    split at hf
    · split at hf
      · rename_i hL
        simp only [decide_eq_true_eq] at hf
        rw [hf]
        exact ⟨by simp, by simp, .inl hL⟩
      · simp only [Bool.and_eq_true] at hf
        exact ⟨(hgood hf.2.2).1, (hgood hf.2.2).2, .inr hf.1⟩
    simp at hf
theorem flashI_bd (k : Int) : 2 ≤ flashI k ∧ flashI k ≤ 20 := by unfold flashI; (repeat' split) <;> omega
theorem times_bd {c : Ch} (ht : TOk c) : (timesL c).length ≤ 100 ∧ ∀ y ∈ timesL c, 0 ≤ y ∧ y ≤ 40 := by
  have hg := gapI_bd c.k
  have hf := flashI_bd c.k
  unfold timesL
  split
  · rename_i h8
    obtain ⟨h1, h2, h3⟩ := ht.mo h8
    have hms := morse_size (letN c) (by unfold letN; omega)
    have := mT_len (morse (letN c)) (morse (letN c)).size
    refine ⟨by omega, fun y hy => ?_⟩
    simp only [mT, List.mem_flatMap, List.mem_range] at hy
    obtain ⟨i, _, hy⟩ := hy
    rcases List.mem_append.1 hy with h | h
    · split at h <;> simp at h; omega
    · simp only [List.mem_singleton] at h; subst h; unfold signI; split <;> omega
  · rename_i h8
    obtain ⟨g1, g4, g9⟩ := grp_ok h8 ht
    have hol := outerT_len c.k g9 (grp c).length (Nat.le_refl _)
    refine ⟨?_, fun y hy => ?_⟩
    · rw [List.length_append]; split <;> simp <;> omega
    · rcases List.mem_append.1 hy with h | h
      · simp only [outerT, innerT, List.mem_flatMap] at h
        obtain ⟨i, _, j, _, h⟩ := h
        unfold stepT at h
        rcases List.mem_append.1 h with h | h
        · split at h
          · simp at h; omega
          · split at h <;> simp at h; omega
        · simp at h; omega
      · split at h <;> simp at h
        rcases h with h | h <;> omega
def restI (c : Ch) : Int := if c.k = 6 then 20 else if c.k = 7 then 10 else if c.k = 8 then 30 else gapI c.k + 5 + (if 1 < c.gs.length then 20 else 0)
def leastI (c : Ch) : Int := if steadyB c = true then 0 else if c.k = 3 then 20 else (timesL c).sum + restI c
theorem restI_bd (c : Ch) : 0 ≤ restI c ∧ restI c ≤ 100 := by
  have := gapI_bd c.k
  unfold restI
  (repeat' split) <;> omega
set_option maxRecDepth 100000 in
set_option maxHeartbeats 400000 in
theorem l05Rest_c (b off : Nat) (A : Option Addr) (n c : Nat) (x : Ch) (w : World) (h : ChP w b off A n c x) :
    Calls Tryz.prog 56 #[.pointer (some ⟨b, off, none⟩)] w fun e w' => e = .returned (.int .i64 (restI x)) ∧ w = w' := by
  have hl := h.len
  obtain ⟨c0, c1, c2, c3, c4, hb, sl, hn, hlz, hs⟩ := h
  obtain ⟨u1, u2⟩ := gapI_bd x.k
  have Hl := Lib.hid hl; clear hl
  go_enter Tryz.func56, Tryz.ntmps56
  go_wp2_with (go_at_call 80; refine (l05Gap_c _ _).mono ?_; rintro e w9 ⟨rfl, rfl⟩)
  all_goals
    go_ret
    refine ⟨ret_eq (int_eq ?_), rfl⟩
    have hl := Hl.out
    simp_all [restI]
    try omega
set_option maxRecDepth 100000 in
set_option maxHeartbeats 400000 in
theorem l05Least_c (b off : Nat) (A : Option Addr) (n c : Nat) (x : Ch) (w : World) (h : ChP w b off A n c x) (hsh : shapeB x = true) :
    Calls Tryz.prog 41 #[.pointer (some ⟨b, off, none⟩)] w fun e w' => e = .returned (.int .i64 (leastI x)) ∧ Below w.heap.size w w' := by
  have ht := shape_TOk hsh
  obtain ⟨b1, b2⟩ := times_bd ht
  have hsa := sum_abs (gs := timesL x) fun y hy => by have := b2 y hy; omega
  obtain ⟨r1, r2⟩ := restI_bd x
  cases hst : steadyB x
  · by_cases hk3 : x.k = 3
    · go_enter Tryz.func41, Tryz.ntmps41
      have c0 := h.c0
      have hk3' : (x.k == 3) = true := by simpa using hk3
      have hfin : leastI x = 20 := by rw [leastI, if_neg (by rw [hst]; simp), if_pos hk3]
      have Hfin := Lib.hid hfin; clear hfin
      clear hk3
      go_wp2_with (go_at_call 52; refine (l05Steady_c b off A n c x _ h).mono ?_; rintro e w1 ⟨rfl, rfl⟩)
      go_ret
      exact ⟨ret_eq (int_eq Hfin.out.symm), Below.refl _ _⟩
    · have c0 := h.c0
      have hk3' : (x.k == 3) = false := by simpa using hk3
      have hfin : leastI x = (timesL x).sum + restI x := by rw [leastI, if_neg (by rw [hst]; simp), if_neg hk3]
      have hT : Calls Tryz.prog 55 #[.pointer (some ⟨b, off, none⟩)] w fun e w' => ∃ v, e = .returned v ∧ w'.ownsRow w.heap.size 2 1 v (timesL x).length ((timesL x).flatMap intC) ∧ Below w.heap.size w w' := by
        by_cases h8 : x.k = 8
        · exact l05TimesM_c b off A n c x w h h8 ht
        · exact l05TimesG_c b off A n c x w h h8 ht
      have Hfin := Lib.hid hfin; clear hfin
      have HT := Lib.hid hT; clear hT
      obtain ⟨s1, s2⟩ := hsa
      clear hk3
      go_enter Tryz.func41, Tryz.ntmps41
      go_wp2_with (go_at_call 52; refine (l05Steady_c b off A n c x _ h).mono ?_; rintro e w1 ⟨rfl, rfl⟩)
      refine HT.out.mono ?_
      rintro e w1 ⟨v, rfl, ho, hb1⟩
      obtain ⟨A1, c1, rfl⟩ := own_slice ho
      have h2 := h.next hb1
      go_wp2_with fail
      refine (l05Total_c A1 _ c1 (timesL x) _ (Sl.of_own ho) (by omega) (fun y hy => by have := b2 y hy; omega)).mono ?_
      rintro e w2 ⟨rfl, rfl⟩
      go_wp2_with fail
      refine (l05Rest_c b off A n c x _ h2).mono ?_
      rintro e w2 ⟨rfl, rfl⟩
      go_wp2_with fail
      go_ret
      exact ⟨ret_eq (int_eq Hfin.out.symm), hb1⟩
  · have c0 := h.c0
    have hfin : leastI x = 0 := by rw [leastI, if_pos hst]
    have Hfin := Lib.hid hfin; clear hfin
    go_enter Tryz.func41, Tryz.ntmps41
    go_wp2_with (go_at_call 52; refine (l05Steady_c b off A n c x _ h).mono ?_; rintro e w1 ⟨rfl, rfl⟩)
    go_ret
    exact ⟨ret_eq (int_eq Hfin.out.symm), Below.refl _ _⟩
theorem chp_box {w : World} {A : Option Addr} {n c : Nat} {x : Ch} (E : TypeId) (sl : Sl w w.heap.size 1 A n (x.gs.flatMap intC)) (hn : n ≤ 1048576) (hl : x.l.size ≤ 1048576) (hs : x.cs.size ≤ 1048576) :
    ChP (w.alloc (.cells #[.int .i64 x.k, .slice A n c, .string x.l, .string x.cs, .int .i64 x.p] E)) w.heap.size 0 A n c x := by
  have hb : (w.alloc (.cells #[.int .i64 x.k, .slice A n c, .string x.l, .string x.cs, .int .i64 x.p] E)).heap[w.heap.size]? = some (.cells #[.int .i64 x.k, .slice A n c, .string x.l, .string x.cs, .int .i64 x.p] E (0, 0)) := heap_alloc_new w _
  have hbel : Below w.heap.size w (w.alloc (.cells #[.int .i64 x.k, .slice A n c, .string x.l, .string x.cs, .int .i64 x.p] E)) := by (repeat (first | (with_reducible assumption) | (with_reducible exact Below.refl _ _) | exact Nat.le_refl _ | exact Below.size (by with_reducible assumption) | (with_reducible refine Below.drew ?_) | (with_reducible refine below_drewN ?_ _) | (with_reducible refine Below.alloc ?_ ?_ _) | (with_reducible refine Below.setCell ?_ ?_ _) | (with_reducible refine le_alloc ?_ _) | (with_reducible refine le_set ?_ _ _) | (with_reducible refine le_drew ?_) | (with_reducible refine le_drewN ?_ _) | omega | (dsimp only; omega)))
  refine ⟨?_, ?_, ?_, ?_, ?_, by simp, sl.next hbel, hn, hl, hs⟩
  all_goals
    rw [cell_of_row _ w.heap.size _ _ E (0, 0) hb]
    rfl
end Go.Proofs.YtgibbhipjpbdfaaGreat
