/- FnYear: the plain law; DarkMinutes, DayGain of the reference. -/
import Derived.Test.YtpgcgmbjlecnpaaGreatSulG
import Derived.Test.YtpgcgmbjlecnpaaGreatSuvG
import Derived.Test.YtpgcgmbjlecnpaaGreatYrDraw
namespace Go.Proofs.YtpgcgmbjlecnpaaGreat
open Go.RowKit
theorem run_lev {s : St} {sh : Int} : ∀ {l : List Int} {v u : Int}, runE s sh l v = some u → levE s sh l v = u
  | [], v, u, h => by simpa [runE, levE] using h
  | d :: r, v, u, h => by
    rw [runE] at h
    split at h
    · cases h
    · rw [levE, show max 0 (nextI s sh v d) = nextI s sh v d by omega]
      exact run_lev h
/-- Whether it lasts, from day to day. -/
theorem las_next {s : St} {sh : Int} {l : List Int} {k : Nat} {d : Int} (hb : 0 ≤ s.ba) (hx : l[k]? = some d) : (runE s sh (l.take (k + 1)) s.ba).isSome = ((runE s sh (l.take k) s.ba).isSome && decide (0 ≤ levE s sh (l.take k) s.ba + gainI s d - useI s sh d)) := by
  have htk : l.take (k + 1) = l.take k ++ [d] := by rw [List.take_add_one, hx, Option.toList_some]
  rw [htk, runE_next]
  cases hr : runE s sh (l.take k) s.ba with
  | none => rfl
  | some u =>
    rw [run_lev hr, Option.bind_some]
    by_cases hn : nextI s sh u d < 0
    · rw [if_pos hn]
      have : ¬ 0 ≤ u + gainI s d - useI s sh d := by unfold nextI at hn; omega
      rw [decide_eq_false this]; rfl
    · rw [if_neg hn]
      have : 0 ≤ u + gainI s d - useI s sh d := by unfold nextI at hn; omega
      rw [decide_eq_true this]; rfl
theorem levL_get {s : St} {sh : Int} : ∀ (l : List Int) (v : Int) (i : Nat), i < l.length → (levL s sh l v)[i]? = some (levE s sh (l.take (i + 1)) v)
  | [], _, _, h => by simp at h
  | d :: r, v, 0, _ => by simp [levL, levE]
  | d :: r, v, i + 1, h => by
    rw [levL, List.getElem?_cons_succ, List.take_succ_cons, levE]
    exact levL_get r _ i (by simpa using h)
theorem low_spec {p : Int → Bool} : ∀ (n : Nat) (lo : Int), p (lo + n) = true → p (lowI p lo n) = true ∧ lo ≤ lowI p lo n ∧ lowI p lo n ≤ lo + n ∧ (lowI p lo n = lo ∨ p (lowI p lo n - 1) = false)
  | 0, lo, h => by simpa [lowI] using h
  | n + 1, lo, h => by
    rw [lowI]
    by_cases e : p lo = true
    · rw [if_pos e]; exact ⟨e, Int.le_refl _, by omega, .inl rfl⟩
    · rw [if_neg e]
      obtain ⟨a, b, c, d⟩ := low_spec n (lo + 1) (by rwa [show lo + 1 + (n : Int) = lo + ((n + 1 : Nat) : Int) by omega])
      refine ⟨a, by omega, by omega, .inr ?_⟩
      rcases d with d | d
      · rw [d, show lo + 1 - 1 = lo by omega]; simpa using e
      · exact d
theorem lea_spec {p : Int → Bool} {lo hi : Int} (h : lo ≤ hi) : (leaK p hi = 0 ∧ p (leaV p lo hi) = true ∧ lo ≤ leaV p lo hi ∧ leaV p lo hi ≤ hi ∧ (leaV p lo hi = lo ∨ p (leaV p lo hi - 1) = false)) ∨ (leaK p hi = 3 ∧ p hi = false) := by
  cases hp : p hi
  · exact .inr ⟨by rw [leaK, if_neg (by simp [hp])], rfl⟩
  · obtain ⟨a, b, c, d⟩ := low_spec (p := p) (hi - lo).toNat lo (by rwa [show lo + ((hi - lo).toNat : Int) = hi by omega])
    refine .inl ⟨by rw [leaK, if_pos hp], ?_⟩
    rw [leaV, if_pos hp]
    exact ⟨a, b, by omega, d⟩
theorem lea_iff {p : Int → Bool} {lo hi n : Int} (mono : ∀ a b, lo ≤ a → a ≤ b → b ≤ hi → p a = true → p b = true) (h1 : lo ≤ n) (h2 : n ≤ hi) (hk : leaK p hi = 0) : p n = decide (leaV p lo hi ≤ n) := by
  rcases lea_spec (p := p) (show lo ≤ hi by omega) with ⟨_, a, b, c, d⟩ | ⟨h, _⟩
  · by_cases hn : leaV p lo hi ≤ n
    · rw [mono _ n b hn h2 a]; simp [hn]
    · rcases d with d | d
      · omega
      · cases hp : p n
        · simp [hn]
        · rw [mono n _ h1 (by omega) (by omega) hp] at d; cases d
  · rw [h] at hk; cases hk
theorem stB_ba {s : St} (h : stB s = true) {n : Int} (a : 1 ≤ n) (b : n ≤ 100000000) : stB (withBa s n) = true := by
  have := stB_ok h
  simp only [stB, Bool.and_eq_true, inB_iff, withBa]
  exact ⟨⟨this.l1, this.l2⟩, ⟨this.s1, this.s2⟩, ⟨a, b⟩, ⟨this.p1, this.p2⟩, ⟨this.h1, this.h2⟩⟩
theorem las_with {s : St} {x : Ch} {lat fr cnt n : Int} (hs : stB s = true) (hx : validB x = true) (hc : seaB lat fr cnt = true) (a : 1 ≤ n) (b : n ≤ 100000000) : lasV (withBa s n) x lat fr cnt = batP s x lat fr cnt n := by
  rw [lasV, okSC, stB_ba hs a b, hx, hc]; rfl
theorem seaB_of {lat fr : Int} {N : Nat} (h1 : -66 ≤ lat ∧ lat ≤ 66) (h2 : 0 ≤ fr ∧ fr < 9000) (h3 : 1 ≤ N ∧ N ≤ 12) : seaB lat fr N = true := by
  simp only [seaB, Bool.and_eq_true, inB_iff]
  omega
theorem withBa_self (s : St) : withBa s s.ba = s := rfl
theorem withPa_self (s : St) : withPa s s.pa = s := rfl
set_option maxHeartbeats 400000 in
theorem l04Ask_c (lat d : Int) (w : World) (h1 : inB lat (-66) 66 = true) (h2 : inB d 0 99999 = true) : Calls Tryz.prog 51 #[.int .i64 lat, .int .i64 d] w fun e w' => e = .returned (.bool true) ∧ w = w' := by
  have hD : ∀ w1, Calls Tryz.prog 81 #[.int .i64 d] w1 fun e w' => e = .returned (.bool true) ∧ w1 = w' := fun w1 => by
    go_enter Tryz.func81, Tryz.ntmps81
    go_wp2_with (go_at_call 58; refine (l00In_c _ _ _ _).mono ?_; rintro e w1 ⟨rfl, rfl⟩)
    go_ret
    exact ⟨rfl, rfl⟩
  have HD := Lib.hid hD; clear hD
  go_enter Tryz.func51, Tryz.ntmps51
  go_wp2_with (first | (go_at_call 58; refine (l00In_c _ _ _ _).mono ?_; rintro e w1 ⟨rfl, rfl⟩) | (go_at_call 81; refine (HD.out _).mono ?_; rintro e w1 ⟨rfl, rfl⟩))
  go_ret
  exact ⟨rfl, rfl⟩
set_option maxHeartbeats 400000 in
theorem darkMin_c (lat d : Int) (w : World) (h1 : inB lat (-66) 66 = true) (h2 : inB d 0 99999 = true) : Calls Tryz.prog 29 #[.int .i64 lat, .int .i64 d] w fun e w' => e = .returned (.tuple #[.int .i64 (drkD lat d), .int .i64 0]) ∧ Below w.heap.size w w' := by
  have hA : ∀ w1, _ := fun w1 => l04Ask_c lat d w1 h1 h2
  have hD : ∀ w1, Calls Tryz.prog 52 #[.int .i64 lat, .int .i64 d] w1 fun e w' => e = .returned (.int .i64 (drkD lat d)) ∧ Below w1.heap.size w1 w' := fun w1 => l04Dark_c lat d w1 (inB_iff.1 h1).1 (inB_iff.1 h1).2 (inB_iff.1 h2).1 (inB_iff.1 h2).2
  generalize drkD lat d = D at *
  have HA := Lib.hid hA; clear hA
  have HD := Lib.hid hD; clear hD
  go_enter Tryz.func29, Tryz.ntmps29
  go_wp2_with (first | (go_at_call 51; refine (HA.out _).mono ?_; rintro e w1 ⟨rfl, rfl⟩) | (go_at_call 52; refine (HD.out _).mono ?_; rintro e w1 ⟨rfl, hb1⟩))
  go_ret2
  exact ⟨rfl, hb1⟩
set_option maxRecDepth 100000 in
set_option maxHeartbeats 1000000 in
theorem dayGain_c (s : St) (dark : Int) (w : World) (hs : stB s = true) (d1 : 0 ≤ dark) (d2 : dark ≤ 1440) : Calls Tryz.prog 31 #[stV s, .int .i64 dark] w fun e w' => e = .returned (.tuple #[.int .i64 (gainI s dark), .int .i64 0]) ∧ Below w.heap.size w w' := by
  have h := stp_box w s 29
  have hb0 : Below w.heap.size w (w.alloc (stO s 29)) := by (repeat (first | (with_reducible assumption) | (with_reducible exact Below.refl _ _) | exact Nat.le_refl _ | exact Below.size (by with_reducible assumption) | (with_reducible refine Below.drew ?_) | (with_reducible refine below_drewN ?_ _) | (with_reducible refine Below.alloc ?_ ?_ _) | (with_reducible refine Below.setCell ?_ ?_ _) | (with_reducible refine le_alloc ?_ _) | (with_reducible refine le_set ?_ _ _) | (with_reducible refine le_drew ?_) | (with_reducible refine le_drewN ?_ _) | omega | (dsimp only; omega)))
  have ok := stB_ok hs
  have hi : inB dark 0 1440 = true := inB_iff.2 ⟨d1, d2⟩
  have Ok := Lib.hid ok; clear ok
  go_enter Tryz.func31, Tryz.ntmps31
  go_wp2_with fail
  generalize w.alloc (.cells #[.int .i64 s.la, .int .i64 s.sb, .int .i64 s.ba, .int .i64 s.pa, .int .i64 s.sh] 29) = w0 at *
  refine (l19Ok_c _ s _ h).mono ?_
  rw [hs]
  rintro e w1 ⟨rfl, rfl⟩
  go_wp2_with (go_at_call 55; refine (l19Dark_c _ _).mono ?_; rintro e w9 ⟨rfl, rfl⟩)
  refine (l19Gain_c _ s dark _ h Ok.out d1 d2).mono ?_
  rintro e w2 ⟨rfl, n2, rfl⟩
  go_wp2_with fail
  go_ret2
  exact ⟨rfl, below_drewN hb0 _⟩
end Go.Proofs.YtpgcgmbjlecnpaaGreat
