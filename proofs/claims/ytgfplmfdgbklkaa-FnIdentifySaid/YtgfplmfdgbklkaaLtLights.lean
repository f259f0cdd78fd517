/- Lists of lights: valid ones, both sides. -/
import Derived.Test.YtgfplmfdgbklkaaChars
import Derived.Test.YtgfplmfdgbklkaaChStart
namespace Go.Proofs.Ytgfplmfdgbklkaa
open Go.RowKit
def lightsB (zs : List ChG) : Bool := zs.all (fun z => validB z.x) && decide (zs.length ≤ 64)
theorem ChS.ptr {w : World} {A : Option Addr} {n : Nat} {zs : List ChG} (h : ChS w A n zs) (k : Nat) (hk : k < n) :
    ∃ b off z, A = some ⟨b, off, none⟩ ∧ zs[k]? = some z ∧ ChP w b (off + k * 5) z.A z.n z.c z.x := by
  obtain ⟨b, off, z, hA, hb, hx, hzo, c0, c1, c2, c3, c4⟩ := h.get k hk
  exact ⟨b, off, z, hA, hx, c0, c1, c2, c3, c4, hb, hzo.sl, hzo.hn, hzo.hl, hzo.hs⟩
theorem all_true {zs : List ChG} (h : ∀ z ∈ zs, validB z.x = true) : zs.all (fun z => validB z.x) = true := by simpa using h
theorem all_false {zs : List ChG} {k : Nat} {z : ChG} (hx : zs[k]? = some z) (h : validB z.x = false) : zs.all (fun z => validB z.x) = false := by
  rw [List.all_eq_false]
  exact ⟨z, List.mem_of_getElem? hx, by simp [h]⟩
set_option maxRecDepth 100000 in
set_option maxHeartbeats 1000000 in
theorem l17Lights_c (A : Option Addr) (n c : Nat) (zs : List ChG) (w : World) (h : ChS w A n zs) (hm : n ≤ 1048576) :
    Calls Try.prog 71 #[.slice A n c] w fun e w' => e = .returned (.bool (lightsB zs)) ∧ Below w.heap.size w w' := by
  have hl := h.len
  have Hl := Lib.hid hl; clear hl
  go_enter Try.func71, Try.ntmps71
  go_wp2
  go_loopw [3] (fun i wr => ∃ k : Nat, k ≤ n ∧ i = .int .i64 k ∧ (∀ z ∈ zs.take k, validB z.x = true) ∧ Below w.heap.size w wr) (fun i _ => n - (intOf i).toNat)
  case atStart => exact ⟨0, Nat.zero_le _, rfl, by simp, Below.refl _ _⟩
  case round =>
    obtain ⟨k, hk, rfl, hall, hbw⟩ := hrel
    have Hall := Lib.hid hall; clear hall
    by_cases hlt : k < n
    · obtain ⟨b, off, z, rfl, hx, hp⟩ := (h.next hbw).ptr k hlt
      have Hx := Lib.hid hx; clear hx
      cases hv : validB z.x
      all_goals
        go_wp2_with fail
        refine (l05Ok_c b (off + k * 5) z.A z.n z.c z.x _ hp).mono ?_
        rw [hv]
        rintro e w2 ⟨rfl, hb2⟩
        have Hv := Lib.hid hv; clear hv
        go_wp2_with fail
      · go_ret
        exact ⟨ret_eq (bool_eq (by rw [lightsB, all_false Hx.out Hv.out]; rfl)), hbw.trans (hb2.mono hbw.size)⟩
      · go_roundw
        case rel =>
          refine ⟨k + 1, by omega, by go_num, ?_, hbw.trans (hb2.mono hbw.size)⟩
          intro z' hz'
          rcases (mem_take_next Hx.out z').1 hz' with h2 | h2
          · exact Hall.out z' h2
          · subst h2; exact Hv.out
        case measure => simp [intOf]; omega
    · go_wp2_with fail
      go_ret
      have hall := Hall.out
      rw [List.take_of_length_le (by rw [Hl.out]; omega)] at hall
      exact ⟨ret_eq (bool_eq (by rw [lightsB, all_true hall, Hl.out, Bool.true_and]; exact decide_eq_decide.2 (by omega))), hbw⟩
set_option maxRecDepth 100000 in
set_option maxHeartbeats 1000000 in
theorem arePred_c (A : Option Addr) (n c : Nat) (x : Ch) (w : World) (sl : Sl w w.heap.size 1 A n (x.gs.flatMap intC)) (hn : n ≤ 1048576) (hlz : x.l.size ≤ 1048576) (hs : x.cs.size ≤ 1048576) :
    Calls Try.prog 115 #[chV x.k A n c x.l x.cs x.p] w fun e w' => e = .returned (.bool (!validB x)) ∧ Below w.heap.size w w' := by
  have hb0 : Below w.heap.size w (w.alloc (.cells #[.int .i64 x.k, .slice A n c, .string x.l, .string x.cs, .int .i64 x.p] 30)) := by (repeat (first | (with_reducible assumption) | (with_reducible exact Below.refl _ _) | exact Nat.le_refl _ | exact Below.size (by with_reducible assumption) | (with_reducible refine Below.drew ?_) | (with_reducible refine below_drewN ?_ _) | (with_reducible refine Below.alloc ?_ ?_ _) | (with_reducible refine Below.setCell ?_ ?_ _) | (with_reducible refine le_alloc ?_ _) | (with_reducible refine le_set ?_ _ _) | (with_reducible refine le_drew ?_) | (with_reducible refine le_drewN ?_ _) | omega | (dsimp only; omega)))
  have sl0 := sl.next hb0
  go_enter Try.func115, Try.ntmps115
  go_wp2_with fail
  refine (implValid_c A n c x _ sl0 hn hlz hs).mono ?_
  rintro e w2 ⟨rfl, hb2⟩
  go_wp2_with fail
  go_ret
  exact ⟨rfl, hb0.trans (hb2.mono hb0.size)⟩
set_option maxRecDepth 100000 in
set_option maxHeartbeats 1000000 in
theorem areIndex_c (A : Option Addr) (n c : Nat) (zs : List ChG) (w : World) (h : ChS w A n zs) (hm : n ≤ 1048576) :
    Calls Try.prog 140 #[.slice A n c, .func (.func 115) #[] #[]] w fun e w' => (∃ r : Int, e = .returned (.int .i64 r) ∧ decide (0 ≤ r) = !(zs.all fun z => validB z.x)) ∧ Below w.heap.size w w' := by
  have hl := h.len
  have Hl := Lib.hid hl; clear hl
  go_enter Try.func140, Try.ntmps140
  go_wp2
  go_loopw [5, 8] (fun _ i wr => ∃ k : Nat, k ≤ n ∧ i = .int .i64 k ∧ (∀ z ∈ zs.take k, validB z.x = true) ∧ Below w.heap.size w wr) (fun _ i _ => n - (intOf i).toNat)
  case atStart => exact ⟨0, Nat.zero_le _, rfl, by simp, Below.refl _ _⟩
  case round =>
    obtain ⟨k, hk, rfl, hall, hbw⟩ := hrel
    have Hall := Lib.hid hall; clear hall
    by_cases hlt : k < n
    · obtain ⟨b, off, z, rfl, hb, hx, hzo, c0, c1, c2, c3, c4⟩ := (h.next hbw).get k hlt
      have Hx := Lib.hid hx; clear hx
      cases hv : validB z.x
      all_goals
        go_wp2_with fail
        refine (arePred_c z.A z.n z.c z.x _ hzo.sl hzo.hn hzo.hl hzo.hs).mono ?_
        rw [hv]
        rintro e w2 ⟨rfl, hb2⟩
        have Hv := Lib.hid hv; clear hv
        go_wp2_with fail
      · go_ret
        exact ⟨⟨_, rfl, by rw [all_false Hx.out Hv.out]; simp⟩, hbw.trans (hb2.mono hbw.size)⟩
      · go_roundw
        case rel =>
          refine ⟨k + 1, by omega, by go_num, ?_, hbw.trans (hb2.mono hbw.size)⟩
          intro z' hz'
          rcases (mem_take_next Hx.out z').1 hz' with h2 | h2
          · exact Hall.out z' h2
          · subst h2; exact Hv.out
        case measure => simp [intOf]; omega
    · go_wp2_with fail
      go_ret
      have hall := Hall.out
      rw [List.take_of_length_le (by rw [Hl.out]; omega)] at hall
      exact ⟨⟨_, rfl, by rw [all_true hall]; rfl⟩, hbw⟩
set_option maxRecDepth 100000 in
set_option maxHeartbeats 1000000 in
theorem areHas_c (A : Option Addr) (n c : Nat) (zs : List ChG) (w : World) (h : ChS w A n zs) (hm : n ≤ 1048576) :
    Calls Try.prog 114 #[.slice A n c, .func (.func 115) #[] #[]] w fun e w' => e = .returned (.bool (!(zs.all fun z => validB z.x))) ∧ Below w.heap.size w w' := by
  go_enter Try.func114, Try.ntmps114
  go_wp2_with fail
  refine (areIndex_c A n c zs _ h hm).mono ?_
  rintro e w1 ⟨⟨r, rfl, hr⟩, hb1⟩
  have Hr := Lib.hid hr; clear hr
  by_cases h0 : 0 ≤ r
  all_goals
    go_wp2_with fail
    go_ret
    exact ⟨ret_eq (bool_eq (by first | (rw [← Hr.out]; done) | (rw [← Hr.out]; simp [h0]))), hb1⟩
set_option maxRecDepth 100000 in
set_option maxHeartbeats 1000000 in
theorem areCharacters_c (A : Option Addr) (n c : Nat) (zs : List ChG) (w : World) (h : ChS w A n zs) (hm : n ≤ 1048576) :
    Calls Try.prog 76 #[.slice A n c] w fun e w' => e = .returned (.bool (lightsB zs)) ∧ Below w.heap.size w w' := by
  have hl := h.len
  have Hl := Lib.hid hl; clear hl
  by_cases h64 : n ≤ 64
  · have hB : lightsB zs = zs.all fun z => validB z.x := by rw [lightsB, Hl.out, decide_eq_true h64, Bool.and_true]
    have hi : decide ((n : Int) ≤ 64) = true := decide_eq_true (by omega)
    have HB := Lib.hid hB; clear hB
    cases hv : zs.all fun z => validB z.x
    all_goals
      go_enter Try.func76, Try.ntmps76
      go_wp2_with (go_at_call 91; refine (few_c _ _ _).mono ?_; rintro e w1 ⟨rfl, rfl⟩)
      refine (areHas_c A n c zs _ h hm).mono ?_
      rw [hv]
      rintro e w1 ⟨rfl, hb1⟩
      have Hv := Lib.hid hv; clear hv
      go_wp2_with fail
      go_ret
      exact ⟨ret_eq (bool_eq (by rw [HB.out, Hv.out])), hb1⟩
  · have hB : lightsB zs = false := by rw [lightsB, Hl.out, decide_eq_false h64, Bool.and_false]
    have hi : decide ((n : Int) ≤ 64) = false := decide_eq_false (by omega)
    have HB := Lib.hid hB; clear hB
    go_enter Try.func76, Try.ntmps76
    go_wp2_with (go_at_call 91; refine (few_c _ _ _).mono ?_; rintro e w1 ⟨rfl, rfl⟩)
    go_ret
    exact ⟨ret_eq (bool_eq (by rw [HB.out])), Below.refl _ _⟩
end Go.Proofs.Ytgfplmfdgbklkaa
