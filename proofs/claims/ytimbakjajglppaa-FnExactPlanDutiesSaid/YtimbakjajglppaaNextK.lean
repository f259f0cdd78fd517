/- minutes, worked, nextKeeper. -/
import Derived.Test.YtimbakjajglppaaDutyOf
import Derived.Test.YtimbakjajglppaaKeep
namespace Go.Proofs.Ytimbakjajglppaa
open Go.RowKit
def okD (d : Duty) : Prop := 0 ≤ d.fr ∧ d.fr ≤ d.un ∧ d.un ≤ 143999999
def lenD (xs : List Duty) : Int := (xs.map fun d => d.un - d.fr).sum
theorem lenD_next {xs : List Duty} {k : Nat} {d : Duty} (h : xs[k]? = some d) : lenD (xs.take (k + 1)) = lenD (xs.take k) + (d.un - d.fr) := by
  rw [List.take_add_one, h]; simp [lenD]
theorem lenD_bd : ∀ {xs : List Duty}, (∀ d ∈ xs, okD d) → 0 ≤ lenD xs ∧ lenD xs ≤ 143999999 * xs.length
  | [], _ => by simp [lenD]
  | d :: xs, h => by
    have := lenD_bd (xs := xs) fun d hd => h d (List.mem_cons_of_mem _ hd)
    have hd := h d List.mem_cons_self
    unfold okD at hd
    simp only [lenD, List.map_cons, List.sum_cons, List.length_cons] at *
    omega
def workL (xs : List Duty) (s : ByteArray) : Int := lenD (ofK xs s)
set_option maxRecDepth 100000 in
set_option maxHeartbeats 400000 in
theorem minutes_c (A : Option Addr) (n c : Nat) (xs : List Duty) (s : ByteArray) (w : World) (h : Sl w w.heap.size 3 A n (xs.flatMap Duty.cells)) (hm : n ≤ 1000) (hok : ∀ d ∈ xs, okD d) :
    Calls Try.prog 89 #[.slice A n c, .string s, .int .i64 0, .int .i64 143999999] w fun e w' => e = .returned (.int .i64 (workL xs s)) ∧ Below w.heap.size w w' := by
  have hl := h.len Duty.cells 3 Duty.cells_len (by omega)
  have hml : (ofK xs s).length ≤ 1000 := by have := ofK_len xs s; omega
  have hok2 : ∀ d ∈ ofK xs s, okD d := fun d hd => hok d (List.mem_filter.1 hd).1
  unfold workL
  generalize hys : ofK xs s = ys at *
  have Hys := Lib.hid hys; clear hys
  go_enter Try.func89, Try.ntmps89
  go_wp2_with fail
  refine (dutiesOf_c A n c xs s _ h (by omega)).mono ?_
  rintro e w1 ⟨v, rfl, ho, hb1⟩
  rw [Hys.out] at ho
  obtain ⟨A1, c1, rfl⟩ := own_slice ho
  have s1 := Sl.of_own ho
  clear ho h hok hl hm Hys
  generalize hyl : ys.length = m at *
  have Hyl := Lib.hid hyl; clear hyl
  go_wp2
  go_loopw [9, 16] (fun t i wr => ∃ k : Nat, k ≤ m ∧ i = .int .i64 k ∧ t = .int .i64 (lenD (ys.take k)) ∧ Below w1.heap.size w1 wr) (fun _ i _ => m - (intOf i).toNat)
  case atStart => exact ⟨0, Nat.zero_le _, rfl, rfl, Below.refl _ _⟩
  case round =>
    obtain ⟨k, hk, rfl, rfl, hbw⟩ := hrel
    by_cases hlt : k < m
    · obtain ⟨b, off, d, rfl, hb, hd, c1, c2, c3⟩ := s1.duty k hlt
      have hbd := lenD_bd (xs := ys.take k) fun d hd => hok2 d (List.mem_of_mem_take hd)
      have hkl : (ys.take k).length = k := by rw [List.length_take, Hyl.out]; omega
      rw [hkl] at hbd
      have hdo : okD d := hok2 d (List.mem_of_getElem? hd)
      unfold okD at hdo
      obtain ⟨d1, d2, d3⟩ := hdo
      obtain ⟨t1, t2⟩ := hbd
      have q1 := keepC hbw b hb
      clear hkl
      have Hd := Lib.hid hd; clear hd
      go_wp2
      go_roundw
      case rel =>
        refine ⟨k + 1, by omega, by go_num, int_eq ?_, by (repeat (first | assumption | exact Below.refl _ _ | exact Nat.le_refl _ | exact Below.size (by assumption) | refine Below.drew ?_ | refine below_drewN ?_ _ | refine Below.alloc ?_ ?_ _ | refine Below.setCell ?_ ?_ _ | refine le_alloc ?_ _ | refine le_set ?_ _ _ | refine le_drew ?_ | refine le_drewN ?_ _ | omega))⟩
        rw [lenD_next Hd.out]
        split <;> omega
      case measure => simp [intOf]; omega
    · go_wp2
      go_ret
      have e : ys.take k = ys := List.take_of_length_le (by rw [Hyl.out]; omega)
      rw [e]
      exact ⟨rfl, hb1.trans (hbw.mono hb1.size)⟩

set_option maxHeartbeats 400000 in
theorem worked_c (A : Option Addr) (n c : Nat) (xs : List Duty) (s : ByteArray) (w : World) (h : Sl w w.heap.size 3 A n (xs.flatMap Duty.cells)) (hm : n ≤ 1000) (hok : ∀ d ∈ xs, okD d) :
    Calls Try.prog 63 #[.slice A n c, .string s] w fun e w' => e = .returned (.int .i64 (workL xs s)) ∧ Below w.heap.size w w' := by
  go_enter Try.func63, Try.ntmps63
  go_wp2_with (go_at_call 89; refine (minutes_c A n c xs s _ h hm hok).mono ?_; rintro e w1 ⟨rfl, hb1⟩)
  go_ret
  exact ⟨rfl, hb1⟩
def freeK (xs : List Duty) (s : ByteArray) (t : Int) : Bool := match (ofK xs s).getLast? with | none => true | some d => decide (d.un + 480 ≤ t)
def stepK (xs : List Duty) (t : Int) (a : ByteArray × Bool) (s : ByteArray) : ByteArray × Bool := if freeK xs s t = true ∧ (a.2 = false ∨ workL xs s < workL xs a.1) then (s, true) else a
def nextK (xs : List Duty) (ks : List ByteArray) (t : Int) : ByteArray × Bool := ks.foldl (stepK xs t) (ByteArray.empty, false)
theorem nextK_next {xs : List Duty} {ks : List ByteArray} {t : Int} {k : Nat} {s : ByteArray} (h : ks[k]? = some s) : nextK xs (ks.take (k + 1)) t = stepK xs t (nextK xs (ks.take k) t) s := by
  rw [List.take_add_one, h]; simp [nextK]
theorem work_bd {xs : List Duty} (hok : ∀ d ∈ xs, okD d) (s : ByteArray) : 0 ≤ workL xs s ∧ workL xs s ≤ 143999999 * xs.length := by
  have h1 := lenD_bd (xs := ofK xs s) fun d hd => hok d (List.mem_filter.1 hd).1
  have h2 := ofK_len xs s
  unfold workL
  omega
set_option maxRecDepth 100000 in
set_option maxHeartbeats 1000000 in
theorem nextKeeper_c (A A' : Option Addr) (n c n' c' : Nat) (xs : List Duty) (ks : List ByteArray) (t : Int) (w : World) (h : Sl w w.heap.size 3 A n (xs.flatMap Duty.cells)) (h' : Sl w w.heap.size 1 A' n' (ks.flatMap strC)) (hm : n ≤ 1000) (hm' : n' ≤ 1000) (hok : ∀ d ∈ xs, okD d) :
    Calls Try.prog 43 #[.slice A n c, .slice A' n' c', .int .i64 t] w fun e w' => e = .returned (.tuple #[.string (nextK xs ks t).1, .bool (nextK xs ks t).2]) ∧ Below w.heap.size w w' := by
  have hl := h'.len strC 1 strC_len (by omega)
  have Hl := Lib.hid hl; clear hl
  go_enter Try.func43, Try.ntmps43
  go_wp2
  go_loopw [8, 9, 16] (fun p q i wr => ∃ (k : Nat) (a : ByteArray × Bool), k ≤ n' ∧ i = .int .i64 k ∧ p = .string a.1 ∧ q = .bool a.2 ∧ nextK xs (ks.take k) t = a ∧ Below w.heap.size w wr) (fun _ _ i _ => n' - (intOf i).toNat)
  case atStart => exact ⟨0, _, Nat.zero_le _, rfl, rfl, rfl, rfl, Below.refl _ _⟩
  case round =>
    obtain ⟨k, ⟨best, found⟩, hk, rfl, rfl, rfl, hnk, hbw⟩ := hrel
    have Hnk := Lib.hid hnk; clear hnk
    by_cases hlt : k < n'
    · obtain ⟨b, off, s, rfl, hb, hs, c1⟩ := h'.str k hlt
      have q1 := keepC hbw b hb
      have Hs := Lib.hid hs; clear hs
      go_wp2_with fail
      refine (dutiesOf_c A n c xs s _ (h.next hbw) (by omega)).mono ?_
      rintro e w1 ⟨v, rfl, ho, hb1⟩
      obtain ⟨A1, c1, rfl⟩ := own_slice ho
      have s1 := Sl.of_own ho
      have hbw1 := hbw.trans (hb1.mono hbw.size)
      clear ho
      have hstep := nextK_next (xs := xs) (t := t) Hs.out
      rw [Hnk.out] at hstep
      have Hstep := Lib.hid hstep; clear hstep
      have hwb := work_bd hok
      have hxl := h.len Duty.cells 3 Duty.cells_len (by omega)
      have s0 := h.next hbw1
      have hok2 : ∀ d ∈ ofK xs s, okD d := fun d hd => hok d (List.mem_filter.1 hd).1
      generalize hys : ofK xs s = ys at s1 hok2
      have Hys := Lib.hid hys; clear hys
      generalize hml : ys.length = m at s1
      have Hml := Lib.hid hml; clear hml
      have Hxl := Lib.hid hxl; clear hxl
      clear hb1 hbw q1
      rcases Nat.eq_zero_or_pos m with h0 | h0
      · subst h0
        have hf : freeK xs s t = true := by rw [freeK, Hys.out, List.eq_nil_of_length_eq_zero Hml.out]; rfl
        have Hf := Lib.hid hf; clear hf
        cases found
        · go_wp2
          go_roundw
          case rel =>
            refine ⟨k + 1, (s, true), by omega, by go_num, rfl, rfl, ?_, hbw1⟩
            rw [Hstep.out, stepK, Hf.out]; simp
          case measure => simp [intOf]; omega
        · go_wp2_with fail
          refine (worked_c A n c xs s _ s0 hm hok).mono ?_
          rintro e w2 ⟨rfl, hb2⟩
          replace hb2 := hbw1.trans (hb2.mono hbw1.size)
          have u1 := hwb s
          have u2 := hwb best
          clear hwb
          go_wp2_with fail
          refine (worked_c A n c xs best _ (h.next hb2) hm hok).mono ?_
          rintro e w3 ⟨rfl, hb3⟩
          replace hb3 := hb2.trans (hb3.mono hb2.size)
          clear hb2
          go_wp2_with fail
          all_goals go_roundw
          case rel =>
            have hlt3 : workL xs s < workL xs best := by assumption
            refine ⟨k + 1, (s, true), by omega, by go_num, rfl, rfl, ?_, hb3⟩
            rw [Hstep.out, stepK, Hf.out, if_pos ⟨rfl, .inr hlt3⟩]
          case measure => simp [intOf]; omega
          case rel =>
            have hlt3 : ¬ workL xs s < workL xs best := by omega
            refine ⟨k + 1, (best, true), by omega, by go_num, rfl, rfl, ?_, hb3⟩
            rw [Hstep.out, stepK, Hf.out, if_neg]
            rintro ⟨_, h1 | h1⟩
            · simp at h1
            · exact hlt3 h1
          case measure => simp [intOf]; omega
      · obtain ⟨q, rfl⟩ : ∃ q, m = q + 1 := ⟨m - 1, by omega⟩
        obtain ⟨b2, off2, d, rfl, hb2, hd, e1, e2, e3⟩ := s1.duty q (by omega)
        have hdo := hok2 d (List.mem_of_getElem? hd)
        unfold okD at hdo
        obtain ⟨g1, g2, g3⟩ := hdo
        have hq : (q : Int) ≤ 1000 := by
          have h1 := ofK_len xs s
          rw [Hys.out, Hml.out, Hxl.out] at h1
          omega
        have hf : freeK xs s t = decide (d.un + 480 ≤ t) := by
          have : ys.getLast? = some d := by rw [List.getLast?_eq_getElem?, Hml.out]; exact hd
          rw [freeK, Hys.out, this]
        have Hd := Lib.hid hd; clear hd
        have j1 : (0 : Int) ≤ (q : Int) := by omega
        have j2 : (q : Int) < (q : Int) + 1 := by omega
        clear e1 e2
        by_cases ht : d.un + 480 ≤ t
        · rw [decide_eq_true ht] at hf
          have Hf := Lib.hid hf; clear hf
          have ht2 : ¬ t < d.un + 480 := by omega
          cases found
          · go_wp2
            go_roundw
            case rel =>
              refine ⟨k + 1, (s, true), by omega, by go_num, rfl, rfl, ?_, hbw1⟩
              rw [Hstep.out, stepK, Hf.out]; simp
            case measure => simp [intOf]; omega
          · go_wp2_with fail
            refine (worked_c A n c xs s _ s0 hm hok).mono ?_
            rintro e w2 ⟨rfl, hb2⟩
            replace hb2 := hbw1.trans (hb2.mono hbw1.size)
            have u1 := hwb s
            have u2 := hwb best
            clear hwb
            go_wp2_with fail
            refine (worked_c A n c xs best _ (h.next hb2) hm hok).mono ?_
            rintro e w3 ⟨rfl, hb3⟩
            replace hb3 := hb2.trans (hb3.mono hb2.size)
            clear hb2
            go_wp2_with fail
            all_goals go_roundw
            case rel =>
              have hlt3 : workL xs s < workL xs best := by assumption
              refine ⟨k + 1, (s, true), by omega, by go_num, rfl, rfl, ?_, hb3⟩
              rw [Hstep.out, stepK, Hf.out, if_pos ⟨rfl, .inr hlt3⟩]
            case measure => simp [intOf]; omega
            case rel =>
              have hlt3 : ¬ workL xs s < workL xs best := by omega
              refine ⟨k + 1, (best, true), by omega, by go_num, rfl, rfl, ?_, hb3⟩
              rw [Hstep.out, stepK, Hf.out, if_neg]
              rintro ⟨_, h1 | h1⟩
              · simp at h1
              · exact hlt3 h1
            case measure => simp [intOf]; omega
        · rw [decide_eq_false ht] at hf
          have Hf := Lib.hid hf; clear hf
          have ht2 : t < d.un + 480 := by omega
          go_wp2
          go_roundw
          case rel =>
            refine ⟨k + 1, (best, found), by omega, by go_num, rfl, rfl, ?_, hbw1⟩
            rw [Hstep.out, stepK, Hf.out]; simp
          case measure => simp [intOf]; omega
    · go_wp2
      go_ret2
      have e : ks.take k = ks := List.take_of_length_le (by rw [Hl.out]; omega)
      have hnk := Hnk.out
      rw [e] at hnk
      rw [hnk]
      exact ⟨rfl, hbw⟩
end Go.Proofs.Ytimbakjajglppaa
