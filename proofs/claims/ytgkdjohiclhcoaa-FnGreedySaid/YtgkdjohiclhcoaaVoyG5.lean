/- What FnGreedy says: plain; the laws' own functions. -/
import Derived.Test.YtgkdjohiclhcoaaVoyG3
import Derived.Test.YtgkdjohiclhcoaaVoyG4
import Derived.Test.YtgkdjohiclhcoaaR8S
import Derived.Test.YtgkdjohiclhcoaaLawImprove
namespace Go.Proofs.Ytgkdjohiclhcoaa
open Go.RowKit
theorem ordB_iff {n : Nat} {ks : List Int} : ordB n ks = true ↔ (∀ k ∈ ks, 0 ≤ k ∧ k < (n : Int)) ∧ ks.Nodup := by
  constructor
  · intro h
    refine ⟨ordB_mem h, ?_⟩
    rw [List.nodup_iff_pairwise_ne, List.pairwise_iff_getElem]
    intro i j hi hj hij e
    have hj2 := allB_iff.1 h j hj
    rw [ordOk_at (List.getElem?_eq_getElem hj), Bool.and_eq_true] at hj2
    have := hj2.2
    simp only [Bool.not_eq_true', decide_eq_false_iff_not] at this
    refine this (e ▸ ?_)
    rw [List.mem_take_iff_getElem]
    exact ⟨i, by omega, rfl⟩
  · intro ⟨h1, h2⟩
    rw [ordB, allB_iff]
    intro j hj
    rw [ordOk_at (List.getElem?_eq_getElem hj), Bool.and_eq_true, inI, inB_iff]
    refine ⟨by have := h1 _ (List.getElem_mem hj); omega, ?_⟩
    simp only [Bool.not_eq_true', decide_eq_false_iff_not]
    intro hm
    rw [List.mem_take_iff_getElem] at hm
    obtain ⟨i, hi, e⟩ := hm
    rw [List.nodup_iff_pairwise_ne, List.pairwise_iff_getElem] at h2
    exact h2 i j (by omega) hj (by omega) e
theorem movedV_perm {ks : List Int} {i k : Nat} (h : i < ks.length) : (movedV ks i k).Perm ks := by
  have e : ks[i]?.getD 0 = ks[i] := by rw [List.getElem?_eq_getElem h]; rfl
  have h1 : (movedV ks i k).Perm (ks[i] :: restV ks i) := by
    rw [movedV, e, List.append_assoc, List.singleton_append]
    have := @List.perm_middle _ ks[i] ((restV ks i).take k) ((restV ks i).drop k)
    rwa [List.take_append_drop] at this
  refine h1.trans ?_
  have h2 : (ks.take i ++ ks[i] :: ks.drop (i + 1)).Perm (ks[i] :: (ks.take i ++ ks.drop (i + 1))) := List.perm_middle
  rw [← List.drop_eq_getElem_cons h, List.take_append_drop] at h2
  exact h2.symm
theorem movedV_ord {n : Nat} {ks : List Int} {i k : Nat} (h : i < ks.length) (ho : ordB n ks = true) : ordB n (movedV ks i k) = true := by
  rw [ordB_iff] at ho ⊢
  exact ⟨fun a ha => ho.1 a (movedV_mem h ha), (movedV_perm h).symm.nodup ho.2⟩
theorem betV_ord {s : Sh} {zs : List Wk} {p : VSt} {ks r : List Int} {n : Nat} (hb : betV s zs p ks = some r) (ho : ordB n ks = true) : ordB n r = true := by
  obtain ⟨i, k, hi, _, rfl, _, _⟩ := betV_some hb
  exact movedV_ord hi ho
theorem impV_ord {s : Sh} {zs : List Wk} {p : VSt} {n : Nat} : ∀ (f : Nat) {ks : List Int}, (endV s zs p ks).toNat < f → VOk s zs p ks → okV s zs p ks = true → ordB n ks = true → ordB n (impV s zs p ks) = true
  | 0, _, h, _, _, _ => by omega
  | f + 1, ks, h, hv, hok, ho => by
    cases hb : betV s zs p ks with
    | none => rw [impV_end hb]; exact ho
    | some r =>
      obtain ⟨h1, h2, h3, h4, h5⟩ := hv.bet hb
      have h6 := h1.end_ h4
      rw [impV_next hv hok hb]
      exact impV_ord f (ks := r) (by omega) h1 h4 (betV_ord hb ho)
theorem ask_ok {s : Sh} {zs : List Wk} {p : VSt} {ks : List Int} (hS : shB s = true) (hP : ptB p.x p.y = true) (hW : worksB zs = true) (ht : 0 ≤ p.t ∧ p.t ≤ 4320) (ho : ordB zs.length ks = true) : askK s zs p ks = 0 := by
  rw [askK, hS, hP, hW, inB_iff.2 ht, ho]; rfl
theorem vend_of {s : Sh} {zs : List Wk} {p : VSt} {ks : List Int} (h0 : askK s zs p ks = 0) (hok : okV s zs p ks = true) (hl : loadV zs ks ≤ s.ld) : vendK s zs p ks = 0 := by
  rw [vendK, decide_eq_true h0, voyK, hok, decide_eq_false (by omega)]; rfl
/-- The law, without a program. -/
theorem greedy_law {s : Sh} {zs : List Wk} {p : VSt} {ks : List Int} (hS : shB s = true) (hP : ptB p.x p.y = true) (hW : worksB zs = true) (ht : 0 ≤ p.t ∧ p.t ≤ 4320) (ho : ordB zs.length ks = true) (hok : okV s zs p ks = true) (hl : loadV zs ks ≤ s.ld) :
    vendK s zs p ks = 0 ∧ vendK s zs p (impL s zs p ks) = 0 ∧ impL s zs p (impL s zs p ks) = impL s zs p ks ∧ (impL s zs p ks).length = ks.length ∧ vendT s zs p (impL s zs p ks) ≤ vendT s zs p ks := by
  have h0 := ask_ok hS hP hW ht ho
  have h1 := vend_of h0 hok hl
  obtain ⟨h2, _, _, _, h3⟩ := vend_ok h1
  have e1 : impL s zs p ks = impV s zs p ks := by rw [impL, decide_eq_true h1]; rfl
  obtain ⟨k1, k2, k3, k4, k5, k6⟩ := impV_is _ (Nat.lt_succ_self _) h2 hok
  have k7 := impV_ord _ (Nat.lt_succ_self _) h2 hok ho
  have v1 := vend_of (ask_ok hS hP hW ht k7) k4 (by rw [k3]; exact hl)
  obtain ⟨_, _, _, _, v3⟩ := vend_ok v1
  rw [e1]
  refine ⟨h1, v1, ?_, k2, by rw [v3, h3]; exact k5⟩
  rw [impL, decide_eq_true v1]
  exact impV_end k6
theorem works_names {zs : List Wk} (h : worksB zs = true) : ∀ z ∈ zs, z.name.size ≤ maxLen := fun z hz => by
  obtain ⟨i, hi, e⟩ := List.mem_iff_getElem.1 hz
  have := (worksB_iff.1 h).1 i hi
  rw [wkOk, wkAt_eq (by rw [List.getElem?_eq_getElem hi, e]), Bool.and_eq_true, wkB, Bool.and_eq_true] at this
  have := (nameB_iff.1 this.1.1).2.1
  unfold maxLen; omega
theorem ship_name {s : Sh} (h : shB s = true) : s.name.size ≤ maxLen := by
  rw [shB, Bool.and_eq_true] at h
  have := (nameB_iff.1 h.1).2.1
  unfold maxLen; omega
set_option maxRecDepth 100000 in
set_option maxHeartbeats 400000 in
theorem r8Base_c (w : World) : Calls Try.prog 22 #[] w fun e w' => e = .returned (ptV 20000 20000) ∧ Below w.heap.size w w' := by
  go_enter Try.func22, Try.ntmps22
  obtain ⟨a0, a1, _⟩ := PtP.box w 20000 20000
  go_wp2_with fail
  refine bodyPost_ret (v := ptV 20000 20000) (by simp [results, Try.results22, go_sem, a0, a1]) rfl ⟨rfl, by (repeat (first | (with_reducible assumption) | (with_reducible exact Below.refl _ _) | exact Nat.le_refl _ | exact Below.size (by with_reducible assumption) | (with_reducible refine Below.drew ?_) | (with_reducible refine below_drewN ?_ _) | (with_reducible refine Below.alloc ?_ ?_ _) | (with_reducible refine Below.setCell ?_ ?_ _) | (with_reducible refine le_alloc ?_ _) | (with_reducible refine le_set ?_ _ _) | (with_reducible refine le_drew ?_) | (with_reducible refine le_drewN ?_ _) | omega | (dsimp only; omega)))⟩
set_option maxRecDepth 100000 in
set_option maxHeartbeats 400000 in
theorem r8Same_c (A A' : Option Addr) (n c c' : Nat) (xs : List Int) (w : World) (h : Sl w w.heap.size 1 A n (xs.flatMap intC)) (h' : Sl w w.heap.size 1 A' n (xs.flatMap intC)) (hn : n ≤ maxLen) :
    Calls Try.prog 25 #[.slice A n c, .slice A' n c'] w fun e w' => e = .returned (.bool true) ∧ Below w.heap.size w w' := by
  unfold maxLen at hn
  have H := Lib.hid h; clear h
  have H1 := Lib.hid h'; clear h'
  go_enter Try.func25, Try.ntmps25
  go_wp2_with fail
  go_loopw [5] (fun i wr => ∃ k : Nat, k ≤ n ∧ i = .int .i64 k ∧ Below w.heap.size w wr) (fun i _ => n - (intOf i).toNat)
  case atStart => exact ⟨0, Nat.zero_le _, rfl, Below.refl _ _⟩
  case round =>
    obtain ⟨k, hk, rfl, hbw⟩ := hrel
    by_cases hlt : k < n
    · obtain ⟨b, off, d, rfl, hb, hd, c1⟩ := (H.out.next hbw).int k hlt
      obtain ⟨b', off', d', rfl, hb', hd', c1'⟩ := (H1.out.next hbw).int k hlt
      have hdd : d' = d := Option.some.inj (hd'.symm.trans hd)
      subst hdd
      have j1 : (0 : Int) ≤ (k : Int) := by omega
      have j2 : (k : Int) < (n : Int) := by omega
      have Hd := Lib.hid hd; clear hd
      clear hd'
      go_wp2_with fail
      go_quiet (fail)
      go_wp2_with fail
      go_roundw
      case rel => exact ⟨k + 1, by omega, by go_num, below_drewN hbw _⟩
      case measure => simp [intOf]; omega
    · obtain rfl : k = n := by omega
      go_wp2_with fail
      go_ret
      exact ⟨rfl, hbw⟩
end Go.Proofs.Ytgkdjohiclhcoaa
