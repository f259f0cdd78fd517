/- PlanDuties of the reference. -/
import Derived.Test.YtimbakjajglppaaPlan
namespace Go.Proofs.Ytimbakjajglppaa
open Go.RowKit
theorem intInfo : (Try.prog.info? 2).map (fun i => (i.zero, i.size, i.bytes)) = some (some (.int .i64 0), 1, 8) := by kernel_rfl
theorem keep_inj {ks : List ByteArray} (hk : keepersB ks = true) {i j : Nat} {s : ByteArray} (h1 : ks[i]? = some s) (h2 : ks[j]? = some s) : i = j := by
  simp only [keepersB, Bool.and_eq_true] at hk
  have hall := allB_iff.1 hk.1
  have key : ∀ {i j : Nat}, i < j → ks[i]? = some s → ks[j]? = some s → False := fun {i j} hlt h1 h2 => by
    have := hall j (List.getElem?_eq_some_iff.1 h2).1
    rw [keepOk_at h2, hasB_iff.2 (List.mem_of_getElem? (i := i) (by rw [List.getElem?_take, if_pos hlt, h1]))] at this
    simp at this
  rcases Nat.lt_trichotomy i j with h | h | h
  · exact (key h h1 h2).elim
  · exact h
  · exact (key h h2 h1).elim
def okP (d : Duty) : Prop := 0 ≤ d.fr ∧ d.fr < d.un ∧ d.un ≤ 143999999
theorem okP_D {xs : List Duty} (h : ∀ d ∈ xs, okP d) : ∀ d ∈ xs, okD d := fun d hd => by have := h d hd; unfold okP at this; unfold okD; omega
theorem ofK_add (out : List Duty) (d : Duty) (s : ByteArray) : ofK (out ++ [d]) s = if d.keeper = s then ofK out s ++ [d] else ofK out s := by
  by_cases e : d.keeper = s <;> simp [ofK, List.filter_append, e]
theorem workL_add (out : List Duty) (d : Duty) (s : ByteArray) : workL (out ++ [d]) s = if d.keeper = s then workL out s + (d.un - d.fr) else workL out s := by
  unfold workL
  rw [ofK_add]
  split
  · simp [lenD]
  · rfl
theorem lenD_pos : ∀ {xs : List Duty}, (∀ d ∈ xs, okP d) → xs ≠ [] → 0 < lenD xs
  | [], _, h => absurd rfl h
  | d :: xs, h, _ => by
    have h1 := lenD_bd (xs := xs) (okP_D fun d hd => h d (List.mem_cons_of_mem _ hd))
    have hd := h d List.mem_cons_self
    unfold okP at hd
    simp only [lenD, List.map_cons, List.sum_cons] at *
    omega
theorem work_zero {out : List Duty} (h : ∀ d ∈ out, okP d) (s : ByteArray) : workL out s = 0 ↔ ofK out s = [] := by
  constructor
  · intro h0
    by_cases e : ofK out s = []
    · exact e
    · have := lenD_pos (xs := ofK out s) (fun d hd => h d (List.mem_filter.1 hd).1) e
      unfold workL at h0; omega
  · intro e; unfold workL; rw [e]; rfl
/-- What the reference keeps beside the list: each keeper's last end. -/
def EndsOk (out : List Duty) (ks : List ByteArray) (es : List Int) : Prop := es.length = ks.length ∧ (∀ e ∈ es, 0 ≤ e ∧ e ≤ 143999999) ∧ ∀ (i : Nat) (s : ByteArray) (d : Duty), ks[i]? = some s → (ofK out s).getLast? = some d → es[i]? = some d.un
theorem ends_free {out : List Duty} {ks : List ByteArray} {es : List Int} (h : EndsOk out ks es) (hp : ∀ d ∈ out, okP d) {i : Nat} {s : ByteArray} {e : Int} (hs : ks[i]? = some s) (he : es[i]? = some e) (t : Int) :
    freeK out s t = (decide (workL out s = 0) || decide (e + 480 ≤ t)) := by
  unfold freeK
  cases hg : (ofK out s).getLast? with
  | none =>
    rw [List.getLast?_eq_none_iff] at hg
    simp [(work_zero hp s).2 hg]
  | some d =>
    have h1 := h.2.2 i s d hs hg
    rw [he] at h1
    injection h1 with h1
    have : ¬ workL out s = 0 := fun h0 => by rw [(work_zero hp s).1 h0] at hg; simp at hg
    simp [this, h1]
theorem mins_next {out : List Duty} {ks : List ByteArray} (hk : keepersB ks = true) {b : Nat} {d : Duty} (hb : ks[b]? = some d.keeper) :
    (ks.map (workL out)).set b (workL out d.keeper + (d.un - d.fr)) = ks.map (workL (out ++ [d])) := by
  apply List.ext_getElem?
  intro i
  rw [List.getElem?_set, List.getElem?_map]
  by_cases e : b = i
  · subst e
    have hlt := (List.getElem?_eq_some_iff.1 hb).1
    rw [if_pos rfl, if_pos (by simpa using hlt), List.getElem?_map, hb]
    simp [workL_add]
  · rw [if_neg e]
    cases hi : ks[i]? with
    | none => simp [hi]
    | some s =>
      have : ¬ d.keeper = s := fun h => e (keep_inj hk hb (by rw [hi, h]))
      simp [hi, workL_add, this]
theorem ends_next {out : List Duty} {ks : List ByteArray} {es : List Int} (h : EndsOk out ks es) (hk : keepersB ks = true) {b : Nat} {d : Duty} (hb : ks[b]? = some d.keeper) (hd : okP d) : EndsOk (out ++ [d]) ks (es.set b d.un) := by
  refine ⟨by rw [List.length_set]; exact h.1, fun e he => ?_, fun i s d' hs hl => ?_⟩
  · rcases List.mem_or_eq_of_mem_set he with h1 | h1
    · exact h.2.1 e h1
    · subst h1; unfold okP at hd; omega
  · rw [ofK_add] at hl
    rw [List.getElem?_set]
    by_cases e : d.keeper = s
    · subst e
      rw [if_pos rfl] at hl
      simp at hl
      subst hl
      have hbi := keep_inj hk hb hs
      subst hbi
      have hlt := (List.getElem?_eq_some_iff.1 hb).1
      rw [if_pos rfl, if_pos (by rw [h.1]; exact hlt)]
    · rw [if_neg e] at hl
      have hbi : b ≠ i := fun h0 => by subst h0; rw [hb] at hs; exact e (Option.some.inj hs)
      rw [if_neg hbi]
      exact h.2.2 i s d' hs hl

/-- What the inner loop has found among the first i keepers. -/
def BestIs (out : List Duty) (ks : List ByteArray) (t : Int) (i : Nat) (b : Int) : Prop :=
  (b = -1 ∧ (nextK out (ks.take i) t).2 = false) ∨ ∃ (j : Nat) (s : ByteArray), b = j ∧ j < i ∧ ks[j]? = some s ∧ nextK out (ks.take i) t = (s, true)
theorem best_skip {out : List Duty} {ks : List ByteArray} {t b : Int} {i : Nat} {s : ByteArray} (h : BestIs out ks t i b) (hs : ks[i]? = some s) (hf : freeK out s t = false) : BestIs out ks t (i + 1) b := by
  unfold BestIs at *
  have e : nextK out (ks.take (i + 1)) t = nextK out (ks.take i) t := by rw [nextK_next hs, stepK, hf]; simp
  rw [e]
  rcases h with h | ⟨j, q, h1, h2, h3⟩
  · exact .inl h
  · exact .inr ⟨j, q, h1, by omega, h3⟩
theorem best_first {out : List Duty} {ks : List ByteArray} {t : Int} {i : Nat} {s : ByteArray} (h : BestIs out ks t i (-1)) (hs : ks[i]? = some s) (hf : freeK out s t = true) : BestIs out ks t (i + 1) i := by
  rcases h with ⟨_, h⟩ | ⟨j, q, h1, _⟩
  · exact .inr ⟨i, s, rfl, by omega, hs, by rw [nextK_next hs, stepK, if_pos ⟨hf, .inl h⟩]⟩
  · omega
theorem best_less {out : List Duty} {ks : List ByteArray} {t : Int} {i j : Nat} {s q : ByteArray} (h : BestIs out ks t i j) (hj : ks[j]? = some q) (hs : ks[i]? = some s) (hf : freeK out s t = true) (hl : workL out s < workL out q) : BestIs out ks t (i + 1) i := by
  rcases h with ⟨h, _⟩ | ⟨j', q', h1, _, h3, h4⟩
  · omega
  · obtain rfl : j = j' := by omega
    rw [hj] at h3; injection h3 with h3; subst h3
    exact .inr ⟨i, s, rfl, by omega, hs, by rw [nextK_next hs, stepK, h4, if_pos ⟨hf, .inr hl⟩]⟩
theorem best_stay {out : List Duty} {ks : List ByteArray} {t : Int} {i j : Nat} {s q : ByteArray} (h : BestIs out ks t i j) (hj : ks[j]? = some q) (hs : ks[i]? = some s) (hl : ¬ workL out s < workL out q) : BestIs out ks t (i + 1) j := by
  rcases h with ⟨h, _⟩ | ⟨j', q', h1, h2, h3, h4⟩
  · omega
  · obtain rfl : j = j' := by omega
    rw [hj] at h3; injection h3 with h3; subst h3
    refine .inr ⟨j, q, rfl, by omega, hj, ?_⟩
    rw [nextK_next hs, stepK, h4, if_neg]
    rintro ⟨_, h5 | h5⟩
    · simp at h5
    · exact hl h5
set_option maxRecDepth 100000 in
set_option maxHeartbeats 1000000 in
theorem specPlan_c (A : Option Addr) (n c : Nat) (ks : List ByteArray) (fr count long : Int) (w : World) (h : Sl w w.heap.size 1 A n (ks.flatMap strC)) (hm : n ≤ 1048576) (hs : ∀ s ∈ ks, s.size ≤ maxLen) :
    Calls Try.prog 15 #[.slice A n c, .int .i64 fr, .int .i64 count, .int .i64 long] w (PlanPost w (planR ks fr count long)) := by
  have hM : n ≤ maxLen := by unfold maxLen; omega
  cases hk : keepersB ks
  · go_enter Try.func15, Try.ntmps15
    go_wp2_with (first | (go_at_call 37; refine (l28Keepers_c A n c ks _ h (by unfold maxLen; omega) hs).mono ?_; rintro e w1 ⟨rfl, hb1⟩) | (go_at_call 38; refine (l00In_c _ _ _ _).mono ?_; rintro e w1 ⟨rfl, rfl⟩) | (go_at_call 39; refine (l20Time_c _ _).mono ?_; rintro e w1 ⟨rfl, rfl⟩))
    go_ret2
    rw [show planR ks fr count long = ([], 1) by rw [planR, if_pos hk]]
    exact ⟨_, rfl, World.ownsRow_nil _ _ _ _, hb1⟩
  have hR : planR ks fr count long = if planBad fr count long = true then ([], 2) else planT ks fr count long := by rw [planR, if_neg (by rw [hk]; simp)]
  have hbad : planBad fr count long = true → ∀ w1, Below w.heap.size w w1 → PlanPost w (planR ks fr count long) (.returned (.tuple #[.slice none 0 0, .int .i64 2])) w1 := fun e w1 hb => by
    rw [hR, if_pos e]
    exact ⟨_, rfl, World.ownsRow_nil _ _ _ _, hb⟩
  have Hbad := Lib.hid hbad; clear hbad
  have HR := Lib.hid hR; clear hR
  cases h1 : inB long 1 720
  · go_enter Try.func15, Try.ntmps15
    go_wp2_with (first | (go_at_call 37; refine (l28Keepers_c A n c ks _ h (by unfold maxLen; omega) hs).mono ?_; rintro e w1 ⟨rfl, hb1⟩) | (go_at_call 38; refine (l00In_c _ _ _ _).mono ?_; rintro e w1 ⟨rfl, rfl⟩) | (go_at_call 39; refine (l20Time_c _ _).mono ?_; rintro e w1 ⟨rfl, rfl⟩))
    go_ret2
    exact Hbad.out (by simp [planBad, h1]) _ hb1
  cases h2 : inB count 0 60
  · go_enter Try.func15, Try.ntmps15
    go_wp2_with (first | (go_at_call 37; refine (l28Keepers_c A n c ks _ h (by unfold maxLen; omega) hs).mono ?_; rintro e w1 ⟨rfl, hb1⟩) | (go_at_call 38; refine (l00In_c _ _ _ _).mono ?_; rintro e w1 ⟨rfl, rfl⟩) | (go_at_call 39; refine (l20Time_c _ _).mono ?_; rintro e w1 ⟨rfl, rfl⟩))
    go_ret2
    exact Hbad.out (by simp [planBad, h2]) _ hb1
  obtain ⟨i1, i2⟩ := inB_iff.1 h1
  obtain ⟨i3, i4⟩ := inB_iff.1 h2
  obtain ⟨j1, j2⟩ := mul_bd2 i3 i4 i1 i2
  have hn10 : n ≤ 10 := by
    have hl := h.len strC 1 strC_len (by omega)
    simp only [keepersB, Bool.and_eq_true, decide_eq_true_eq] at hk
    omega
  obtain ⟨q0, hi, hz0, hz1, hz2⟩ := info_parts dutyInfo
  obtain ⟨p0, hj, hy0, hy1, hy2⟩ := info_parts intInfo
  have hB : p0.bytes * n ≤ 281474976710656 := by rw [hy2]; omega
  have HB := Lib.hid hB; clear hB
  have HM := Lib.hid hM; clear hM
  by_cases h0 : 0 < count
  · cases h3 : inB fr 0 143999999
    · go_enter Try.func15, Try.ntmps15
      go_wp2_with (first | (go_at_call 37; refine (l28Keepers_c A n c ks _ h (by unfold maxLen; omega) hs).mono ?_; rintro e w1 ⟨rfl, hb1⟩) | (go_at_call 38; refine (l00In_c _ _ _ _).mono ?_; rintro e w1 ⟨rfl, rfl⟩) | (go_at_call 39; refine (l20Time_c _ _).mono ?_; rintro e w1 ⟨rfl, rfl⟩))
      go_ret2
      exact Hbad.out (by simp [planBad, h3, h0]) _ hb1
    obtain ⟨i5, i6⟩ := inB_iff.1 h3
    cases h4 : inB (fr + count * long) 0 143999999
    · go_enter Try.func15, Try.ntmps15
      go_wp2_with (first | (go_at_call 37; refine (l28Keepers_c A n c ks _ h (by unfold maxLen; omega) hs).mono ?_; rintro e w1 ⟨rfl, hb1⟩) | (go_at_call 38; refine (l00In_c _ _ _ _).mono ?_; rintro e w1 ⟨rfl, rfl⟩) | (go_at_call 39; refine (l20Time_c _ _).mono ?_; rintro e w1 ⟨rfl, rfl⟩))
      go_ret2
      exact Hbad.out (by simp [planBad, h4, h0]) _ hb1
    · go_enter Try.func15, Try.ntmps15
      go_wp2_with (first | (go_at_call 37; refine (l28Keepers_c A n c ks _ h HM.out hs).mono ?_; rintro e w1 ⟨rfl, hb1⟩) | (go_at_call 38; refine (l00In_c _ _ _ _).mono ?_; rintro e w1 ⟨rfl, rfl⟩) | (go_at_call 39; refine (l20Time_c _ _).mono ?_; rintro e w1 ⟨rfl, rfl⟩) | (at_make; refine wpList_make_full _ rfl _ _ _ rfl w.heap.size 2 p0 _ 1 Try.underlying36 hj hy0 hy1 _ _ _ _ n rfl rfl rfl rfl HB.out HM.out hb1.size ?_; intro w2 ho2 hg2; have hb2 : Below w.heap.size w w2 := hb1.grown hg2 hb1.size (by simp)) | (at_make; refine wpList_make_full _ rfl _ _ _ rfl w.heap.size 2 p0 _ 1 Try.underlying36 hj hy0 hy1 _ _ _ _ n rfl rfl rfl rfl HB.out HM.out hb2.size ?_; intro w3 ho3 hg3; have ho2b := own_grown ho2 hg3 (.inr (by simp [Value.ownBlock])); have hb3 : Below w.heap.size w w3 := hb2.grown hg3 hb2.size (by simp); have hgg : w1.heap.size < w2.heap.size := (ho2.lt _ rfl).2))
      rw [made_ints] at ho2b ho3
      have hbA : Below w.heap.size w (w3.alloc (.cells #[] 50)) := by (repeat (first | assumption | exact Below.refl _ _ | exact Nat.le_refl _ | exact Below.size (by assumption) | refine Below.drew ?_ | refine below_drewN ?_ _ | refine Below.alloc ?_ ?_ _ | refine Below.setCell ?_ ?_ _ | refine le_alloc ?_ _ | refine le_set ?_ _ _ | refine le_drew ?_ | refine le_drewN ?_ _ | omega))
      have ho4 : (w3.alloc (.cells #[] 50)).ownsRow w.heap.size 50 3 (.slice (some ⟨w3.heap.size, 0, none⟩) 0 0) 0 (([] : List Duty).flatMap Duty.cells) := World.ownsRow_made w3 #[] 0 hb3.size (by simp [maxLen]) rfl
      replace ho2b := ho2b.alloc (.cells #[] 50)
      replace ho3 := ho3.alloc (.cells #[] 50)
      have hgood : planR ks fr count long = planT ks fr count long := by rw [HR.out, if_neg (by simp [planBad, h1, h2, h3, h4])]
      obtain ⟨k1, k2⟩ := inB_iff.1 h4
      have hl := h.len strC 1 strC_len (by omega)
      generalize w3.alloc (.cells #[] 50) = w4 at *
      generalize w1.heap.size = g1 at ho2b hgg ⊢
      generalize w2.heap.size = g2 at ho3 hgg ⊢
      generalize w3.heap.size = g3 at ho4 ⊢
      have Hgood := Lib.hid hgood; clear hgood
      have Hk := Lib.hid hk; clear hk
      have Hl := Lib.hid hl; clear hl
      clear HR Hbad h1 h2 h3 h4 hb1 hb2 hb3 hg2 hg3 ho2
      obtain ⟨N, rfl⟩ := Int.eq_ofNat_of_zero_le i3
      go_loopw [12, 13] (fun v i wr => ∃ (k : Nat) (out : List Duty) (es : List Int), k ≤ N ∧ i = .int .i64 k ∧ wr.ownsRow w.heap.size 2 1 (.slice (some ⟨g1, 0, none⟩) n n) n ((ks.map (workL out)).flatMap intC) ∧ wr.ownsRow w.heap.size 2 1 (.slice (some ⟨g2, 0, none⟩) n n) n (es.flatMap intC) ∧ EndsOk out ks es ∧ wr.ownsRow w.heap.size 50 3 v k (out.flatMap Duty.cells) ∧ planGo ks fr long k = some out ∧ (∀ d ∈ out, okP d) ∧ Below w.heap.size w wr) (fun _ i _ => N - (intOf i).toNat)
      case atStart =>
        refine ⟨0, [], List.replicate n 0, Nat.zero_le _, rfl, ?_, ho3, ⟨by rw [List.length_replicate, Hl.out], fun e he => by rw [List.eq_of_mem_replicate he]; omega, fun i s d _ hd => by simp [ofK] at hd⟩, ho4, rfl, by simp, hbA⟩
        have e0 : ks.map (workL []) = List.replicate n 0 := by rw [← Hl.out, ← List.map_const']; rfl
        rw [e0]; exact ho2b
      case round =>
        clear ho2b ho3 ho4 hbA
        obtain ⟨k, out, es, hkN, rfl, hoM, hoE, hes, hoV, hgo, hok, hbw⟩ := hrel
        have Hgo := Lib.hid hgo; clear hgo
        obtain ⟨A1, c1, rfl⟩ := own_slice hoV
        by_cases hlt : k < N
        · obtain ⟨l1, l2⟩ := mul_bd (k := k) (c := (N : Int)) (long := long) (by omega) (by omega)
          go_wp2
          obtain ⟨wo, rfl⟩ : ∃ wo : World, wo = wr := ⟨_, rfl⟩
          have t1 : 0 ≤ fr + ↑k * long := by omega
          have t2 : fr + ↑k * long + long ≤ 143999999 := by omega
          have hgo2 : planGo ks fr long (k + 1) = if (nextK out ks (fr + (k : Int) * long)).2 = true then some (out ++ [⟨(nextK out ks (fr + (k : Int) * long)).1, fr + (k : Int) * long, fr + (k : Int) * long + long⟩]) else none := by rw [planGo, Hgo.out]
          generalize fr + (k : Int) * long = T at *
          have Hgo2 := Lib.hid hgo2; clear hgo2
          go_loopw [15, 16] (fun b i wr => ∃ (j : Nat) (b' : Int), j ≤ n ∧ i = .int .i64 j ∧ b = .int .i64 b' ∧ BestIs out ks T j b' ∧ ∃ nq, wr = wo.drewN nq) (fun _ i _ => n - (intOf i).toNat)
          case atStart => exact ⟨0, -1, Nat.zero_le _, rfl, rfl, .inl ⟨rfl, rfl⟩, 0, rfl⟩
          case round =>
            obtain ⟨j, b', hjn, rfl, rfl, hbest, nq, rfl⟩ := hrel
            by_cases hlt2 : j < n
            · obtain ⟨mi, hmi, cm⟩ := own_int hoM j hlt2
              obtain ⟨e, he, ce⟩ := own_int hoE j hlt2
              obtain ⟨s, hsj⟩ : ∃ s, ks[j]? = some s := ⟨_, List.getElem?_eq_getElem (by rw [Hl.out]; exact hlt2)⟩
              have hmw : mi = workL out s := by
                rw [List.getElem?_map, hsj] at hmi; exact (Option.some.inj hmi).symm
              have hfree := ends_free hes hok hsj he T
              rw [← hmw] at hfree
              have he2 := hes.2.1 e (List.mem_of_getElem? he)
              have hw480 : IntKind.i64.wrap (e + 480) = e + 480 := IntWalk.i64_in _ (by omega)
              have x1 : (0 : Int) ≤ (j : Int) := by omega
              have x2 : (j : Int) < (n : Int) := by omega
              obtain ⟨e1, e2⟩ := he2
              have He := Lib.hid he; clear he
              have Hmi := Lib.hid hmi; clear hmi
              have Hmw := Lib.hid hmw; clear hmw
              have Hsj := Lib.hid hsj; clear hsj
              have Hbest := Lib.hid hbest; clear hbest
              by_cases hfr : freeK out s T = true
              · rw [hfr] at hfree
                rcases Hbest.out with ⟨hb1, _⟩ | ⟨p, q, hb1, hpj, hq, _⟩
                · subst hb1
                  have hx := best_first Hbest.out Hsj.out hfr
                  have Hx := Lib.hid hx; clear hx
                  clear hfr
                  by_cases hz : mi = 0
                  · have hz0 : (mi == 0) = true := by simp [hz]
                    have hz1 : True := trivial
                    clear hfree hz
                    go_wp2
                    go_quiet (fail)
                    go_wp2
                    go_roundw
                    case rel => exact ⟨j + 1, (j : Nat), by omega, by go_num, rfl, Hx.out, _, rfl⟩
                    case measure => simp [intOf]; omega
                  · have hle : decide (e + 480 ≤ T) = true := by simpa [hz] using hfree.symm
                    have hz0 : (mi == 0) = false := by simp [hz]
                    have hz1 : decide (e + 480 ≤ T) = true := hle
                    clear hfree hz
                    go_wp2
                    go_quiet (fail)
                    go_wp2
                    go_roundw
                    case rel => exact ⟨j + 1, (j : Nat), by omega, by go_num, rfl, Hx.out, _, rfl⟩
                    case measure => simp [intOf]; omega
                · subst hb1
                  obtain ⟨mb, hmb, cb⟩ := own_int hoM p (by omega)
                  have hmbw : mb = workL out q := by
                    rw [List.getElem?_map, hq] at hmb; exact (Option.some.inj hmb).symm
                  have x3 : (0 : Int) ≤ (p : Int) := by omega
                  have x4 : (p : Int) < (n : Int) := by omega
                  have x5 : decide ((p : Int) < 0) = false := by simp
                  have Hmb := Lib.hid hmb; clear hmb
                  have Hmbw := Lib.hid hmbw; clear hmbw
                  have Hq := Lib.hid hq; clear hq
                  by_cases hlt3 : mi < mb
                  · have hx := best_less Hbest.out Hq.out Hsj.out hfr (by rw [← Hmw.out, ← Hmbw.out]; exact hlt3)
                    have Hx := Lib.hid hx; clear hx
                    clear hfr
                    have hyl : decide (mi < mb) = true := by simpa using hlt3
                    by_cases hz : mi = 0
                    · have hz0 : (mi == 0) = true := by simp [hz]
                      have hz1 : True := trivial
                      clear hfree hz
                      go_wp2
                      go_quiet (fail)
                      go_wp2
                      go_roundw
                      case rel => exact ⟨j + 1, (j : Nat), by omega, by go_num, rfl, Hx.out, _, rfl⟩
                      case measure => simp [intOf]; omega
                    · have hle : decide (e + 480 ≤ T) = true := by simpa [hz] using hfree.symm
                      have hz0 : (mi == 0) = false := by simp [hz]
                      have hz1 : decide (e + 480 ≤ T) = true := hle
                      clear hfree hz
                      go_wp2
                      go_quiet (fail)
                      go_wp2
                      go_roundw
                      case rel => exact ⟨j + 1, (j : Nat), by omega, by go_num, rfl, Hx.out, _, rfl⟩
                      case measure => simp [intOf]; omega
                  · have hx := best_stay Hbest.out Hq.out Hsj.out (by rw [← Hmw.out, ← Hmbw.out]; exact hlt3)
                    have Hx := Lib.hid hx; clear hx
                    clear hfr
                    have hnl : decide (mi < mb) = false := by simpa using hlt3
                    by_cases hz : mi = 0
                    · have hz0 : (mi == 0) = true := by simp [hz]
                      have hz1 : True := trivial
                      clear hfree hz
                      go_wp2
                      go_quiet (fail)
                      go_wp2
                      go_roundw
                      case rel => exact ⟨j + 1, (p : Nat), by omega, by go_num, rfl, Hx.out, _, rfl⟩
                      case measure => simp [intOf]; omega
                    · have hle : decide (e + 480 ≤ T) = true := by simpa [hz] using hfree.symm
                      have hz0 : (mi == 0) = false := by simp [hz]
                      have hz1 : decide (e + 480 ≤ T) = true := hle
                      clear hfree hz
                      go_wp2
                      go_quiet (fail)
                      go_wp2
                      go_roundw
                      case rel => exact ⟨j + 1, (p : Nat), by omega, by go_num, rfl, Hx.out, _, rfl⟩
                      case measure => simp [intOf]; omega
              · simp only [Bool.not_eq_true] at hfr
                rw [hfr] at hfree
                have hx := best_skip Hbest.out Hsj.out hfr
                have hz : ¬ mi = 0 := fun h0 => by simp [h0] at hfree
                have hle : decide (e + 480 ≤ T) = false := by simpa [hz] using hfree.symm
                have Hx := Lib.hid hx; clear hx
                clear hfr
                have hz0 : (mi == 0) = false := by simp [hz]
                clear hfree hz
                go_wp2
                go_quiet (fail)
                go_wp2
                go_roundw
                case rel => exact ⟨j + 1, b', by omega, by go_num, rfl, Hx.out, _, rfl⟩
                case measure => simp [intOf]; omega
            · obtain rfl : j = n := by omega
              unfold BestIs at hbest
              rw [List.take_of_length_le (by rw [Hl.out]; omega)] at hbest
              have hoM' : (wo.drewN nq).ownsRow w.heap.size 2 1 (.slice (some ⟨g1, 0, none⟩) j j) j ((ks.map (workL out)).flatMap intC) := hoM
              have hoE' : (wo.drewN nq).ownsRow w.heap.size 2 1 (.slice (some ⟨g2, 0, none⟩) j j) j (es.flatMap intC) := hoE
              have hoV' : (wo.drewN nq).ownsRow w.heap.size 50 3 (.slice A1 k c1) k (out.flatMap Duty.cells) := hoV
              have hbw' : Below w.heap.size w (wo.drewN nq) := below_drewN hbw _
              clear hoM hoE hoV hbw
              generalize wo.drewN nq = wx at *
              rcases hbest with ⟨rfl, hno⟩ | ⟨p, q, rfl, hpj, hq, hnx⟩
              · have Hno := Lib.hid hno; clear hno
                go_wp2
                go_ret2
                rw [Hgood.out, planT, show ((N : Int)).toNat = N from rfl, planGo_none (k := k + 1) (by rw [Hgo2.out, Hno.out]; simp) N (by omega)]
                exact ⟨_, rfl, World.ownsRow_nil _ _ _ _, hbw'⟩
              · obtain ⟨b, off, q', rfl, hb, hq', c1'⟩ := h.str p hpj
                obtain rfl : q = q' := by rw [hq] at hq'; exact Option.some.inj hq'
                have c2 := (keepC hbw' b hb (off + p)).trans c1'
                have x1 : (0 : Int) ≤ (p : Int) := by omega
                have x2 : (p : Int) < (j : Int) := by omega
                have x3 : ¬ (p : Int) < 0 := by omega
                have y1 : ¬ g1 = g2 := by omega
                have y2 : ¬ g2 = g1 := by omega
                have hwbd := work_bd (okP_D hok) q
                have hol := Sl.len Duty.cells 3 Duty.cells_len (by omega) (Sl.of_own hoV')
                rw [hol] at hwbd
                have hgo3 : planGo ks fr long (k + 1) = some (out ++ [⟨q, T, T + long⟩]) := by rw [Hgo2.out, hnx]; simp
                have e63 : k + 1 ≤ maxLen := by unfold maxLen; omega
                have e32 : (k + 1) * 32 ≤ 140737488355328 := by omega
                have E63 := Lib.hid e63; clear e63
                have E32 := Lib.hid e32; clear e32
                have Hgo3 := Lib.hid hgo3; clear hgo3
                have Hq := Lib.hid hq; clear hq
                have Hol := Lib.hid hol; clear hol
                clear hnx hq' c1'
                go_wp2_with (at_builtin; refine wpl_append _ rfl (.tmp 99) (.tmp 109) _ rfl w.heap.size 50 q0 _ 3 32 Try.underlying25 hi hz0 hz1 hz2 rfl (by omega) _ k _ rfl (hoV'.alloc _) (wx.heap.size + 1) (some ⟨wx.heap.size, 0, none⟩) 1 1 (Duty.cells ⟨q, T, T + long⟩) rfl (Sl.new wx 50 _ 1 3 rfl) (dutyC_one _) E63.out E32.out (by simp; exact Nat.le_succ_of_le hbw'.size) ?_; intro v2 w2 hoV2 hg2 hat2; have hoM2 := own_grown (hoM'.alloc _) hg2 (own_ne hoM' hoV' (by decide)); have hoE2 := own_grown (hoE'.alloc _) hg2 (own_ne hoE' hoV' (by decide)); obtain ⟨mb, hmb, cb⟩ := own_int hoM2 p hpj; obtain ⟨eb, heb, cb2⟩ := own_int hoE2 p hpj; have hmbw : mb = workL out q := (by rw [List.getElem?_map, Hq.out] at hmb; exact (Option.some.inj hmb).symm); have hmbd : 0 ≤ mb ∧ mb ≤ 143999999 * (k : Int) := (by rw [hmbw]; exact hwbd); obtain ⟨m1, m2⟩ := hmbd; have ff1 := hoM2.frozenAt; have ff2 := hoE2.frozenAt; have Hmbw := Lib.hid hmbw; clear hmbw hmb heb)
                go_roundw
                case rel =>
                  have s1 := hoM2.stored p (.int .i64 (mb + long))
                  have hoE3 := own_grown hoE2 s1.2 (.inr (by simp [Value.ownBlock]; omega))
                  have s2 := hoE3.stored p (.int .i64 (T + long))
                  have hoM3 := own_grown s1.1 s2.2 (.inr (by simp [Value.ownBlock]; omega))
                  have hoV3 := own_grown (own_grown hoV2 s1.2 (own_ne hoV2 hoM2 (by decide))) s2.2 (own_ne (own_grown hoV2 s1.2 (own_ne hoV2 hoM2 (by decide))) hoE3 (by decide))
                  have hd : okP ⟨q, T, T + long⟩ := by unfold okP; simp only; omega
                  have hn1 := mins_next (out := out) (d := ⟨q, T, T + long⟩) Hk.out Hq.out
                  have hml : p < (ks.map (workL out)).length := by rw [List.length_map, Hl.out]; exact hpj
                  refine ⟨k + 1, out ++ [⟨q, T, T + long⟩], es.set p (T + long), by omega, by go_num, ?_, ?_, ends_next hes Hk.out Hq.out hd, ?_, Hgo3.out, ?_, ?_⟩
                  · rw [← hn1, ← flat_set intC 1 intC_len _ p _ hml]
                    have e : workL out q + (T + long - T) = mb + long := by rw [Hmbw.out]; omega
                    simp only [e, intC, setAll, Nat.mul_one]
                    exact hoM3
                  · rw [← flat_set intC 1 intC_len _ p _ (by rw [hes.1, Hl.out]; exact hpj)]
                    simp only [intC, setAll, Nat.mul_one]
                    exact s2.1
                  · rw [List.flatMap_append]; simpa using hoV3
                  · intro d' hd'
                    rcases List.mem_append.1 hd' with h1 | h1
                    · exact hok d' h1
                    · simp at h1; subst h1; exact hd
                  · refine (((hbw'.alloc hbw'.size _).grown hg2 (by simp; exact Nat.le_succ_of_le hbw'.size) fun g hg => (hoV'.lt g hg).1).setCell (p := ⟨g1, p, none⟩) (hoM2.lt g1 rfl).1 _).setCell (p := ⟨g2, p, none⟩) (hoE2.lt g2 rfl).1 _
                case measure => simp [intOf]; omega
        · go_wp2
          go_ret2
          obtain rfl : k = N := by omega
          have hol := Sl.len Duty.cells 3 Duty.cells_len (by omega) (Sl.of_own hoV)
          rw [Hgood.out, planT, show ((k : Int)).toNat = k from rfl, Hgo.out]
          exact ⟨_, rfl, by rw [hol]; exact hoV, hbw⟩
  · obtain rfl : count = 0 := by omega
    have hgood : planR ks fr 0 long = ([], 0) := by rw [HR.out, if_neg (by simp [planBad, h1, h2])]; rfl
    have Hgood := Lib.hid hgood; clear hgood
    go_enter Try.func15, Try.ntmps15
    go_wp2_with (first | (go_at_call 37; refine (l28Keepers_c A n c ks _ h HM.out hs).mono ?_; rintro e w1 ⟨rfl, hb1⟩) | (go_at_call 38; refine (l00In_c _ _ _ _).mono ?_; rintro e w1 ⟨rfl, rfl⟩) | (go_at_call 39; refine (l20Time_c _ _).mono ?_; rintro e w1 ⟨rfl, rfl⟩) | (at_make; refine wpList_make_full _ rfl _ _ _ rfl w.heap.size 2 p0 _ 1 Try.underlying36 hj hy0 hy1 _ _ _ _ n rfl rfl rfl rfl HB.out HM.out hb1.size ?_; intro w2 ho2 hg2; have hb2 : Below w.heap.size w w2 := hb1.grown hg2 hb1.size (by simp)) | (at_make; refine wpList_make_full _ rfl _ _ _ rfl w.heap.size 2 p0 _ 1 Try.underlying36 hj hy0 hy1 _ _ _ _ n rfl rfl rfl rfl HB.out HM.out hb2.size ?_; intro w3 ho3 hg3; have ho2b := own_grown ho2 hg3 (.inr (by simp [Value.ownBlock])); have hb3 : Below w.heap.size w w3 := hb2.grown hg3 hb2.size (by simp); have hgg : w1.heap.size < w2.heap.size := (ho2.lt _ rfl).2))
    refine wp_loop_once ?_
    go_wp2
    go_ret2
    rw [Hgood.out]
    exact ⟨_, rfl, World.ownsRow_made w3 #[] 0 hb3.size (by simp [maxLen]) rfl, by (repeat (first | assumption | exact Below.refl _ _ | exact Nat.le_refl _ | exact Below.size (by assumption) | refine Below.drew ?_ | refine below_drewN ?_ _ | refine Below.alloc ?_ ?_ _ | refine Below.setCell ?_ ?_ _ | refine le_alloc ?_ _ | refine le_set ?_ _ _ | refine le_drew ?_ | refine le_drewN ?_ _ | omega))⟩
end Go.Proofs.Ytimbakjajglppaa
