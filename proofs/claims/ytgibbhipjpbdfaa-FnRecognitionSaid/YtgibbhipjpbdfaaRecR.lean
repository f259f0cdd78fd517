
/- Lists that repeat another one, turned: their normal forms are the same. Plain facts, no program. -/
import Derived.Test.YtgibbhipjpbdfaaRot
namespace Go.Proofs.Ytgibbhipjpbdfaa
theorem get_lt {B : List Int} {i : Nat} {x : Int} (h : B[i]? = some x) : i < B.length := (List.getElem?_eq_some_iff.1 h).1
/-- B repeats Y, turned by s. -/
structure Rep (B Y : List Int) (s : Nat) : Prop where
  pos : 1 ≤ Y.length
  dvd : B.length % Y.length = 0
  at' : ∀ i, i < B.length → B[i]? = Y[(i + s) % Y.length]?
theorem Rep.len {B Y : List Int} {s : Nat} (h : Rep B Y s) (hb : 1 ≤ B.length) : Y.length ≤ B.length := by
  have h1 := h.dvd
  rcases Nat.lt_or_ge B.length Y.length with h2 | h2
  · rw [Nat.mod_eq_of_lt h2] at h1; omega
  · exact h2
theorem mod_dvd {a b c : Nat} (h : b % c = 0) : a % b % c = a % c := Nat.mod_mod_of_dvd _ (Nat.dvd_of_mod_eq_zero h)
theorem mod_turn {i k s b m : Nat} (h : b % m = 0) : ((i + k) % b + s) % m = ((i + s) % m + k) % m := by
  rw [Nat.mod_add_mod (i + s) m k, ← Nat.mod_add_mod ((i + k) % b) m s, mod_dvd h, Nat.mod_add_mod]
  congr 1; omega
/-- Turned by k, the one is the same exactly if the other is. -/
theorem Rep.cyc {B Y : List Int} {s : Nat} (h : Rep B Y s) (hb : 1 ≤ B.length) (k : Nat) : cycB B k = cycB Y k := by
  have hl := h.len hb
  have hp := h.pos
  rw [Bool.eq_iff_iff, cyc_iff, cyc_iff]
  constructor
  · intro hc j hj
    obtain ⟨i, hi, hij⟩ : ∃ i, i < Y.length ∧ (i + s) % Y.length = j := by
      refine ⟨(j + (Y.length - s % Y.length)) % Y.length, Nat.mod_lt _ hp, ?_⟩
      have hs := Nat.mod_lt s hp
      rw [Nat.mod_add_mod, ← Nat.add_mod_mod (j + (Y.length - s % Y.length)) s, show j + (Y.length - s % Y.length) + s % Y.length = j + Y.length by omega, Nat.add_mod_right, Nat.mod_eq_of_lt hj]
    have h1 := hc i (by omega)
    rw [h.at' i (by omega), h.at' _ (Nat.mod_lt _ hb), mod_turn h.dvd, hij] at h1
    exact h1
  · intro hc i hi
    rw [h.at' i hi, h.at' _ (Nat.mod_lt _ hb), mod_turn h.dvd, hc _ (Nat.mod_lt _ hp)]
theorem Rep.per {B Y : List Int} {s : Nat} (h : Rep B Y s) (hb : 1 ≤ B.length) : perN B = perN Y := by
  have hy := per_is h.pos
  have hl := h.len hb
  refine per_uniq (per_is hb) ⟨hy.lo, Nat.le_trans hy.hi hl, by rw [h.cyc hb]; exact hy.cyc, fun m h1 h2 => by rw [h.cyc hb]; exact hy.least m h1 h2⟩
theorem cyc_rep {B : List Int} {n : Nat} (h : PerIs B n) : ∀ i, i < B.length → B[i]? = (B.take n)[i % n]? := by
  intro i hi
  have hn := h.lo
  have hm := Nat.mod_lt i hn
  have hle := Nat.mod_le i n
  have h1 := cyc_mul h.cyc (i / n) (i % n) (by omega)
  have e : i % n + i / n * n = i := by rw [Nat.mul_comm]; exact Nat.mod_add_div i n
  rw [e, Nat.mod_eq_of_lt hi] at h1
  rw [List.getElem?_take, if_pos hm, h1]
theorem once_rep {B : List Int} (h : 1 ≤ B.length) : Rep B (onceB B) 0 := by
  have hp := per_is h
  have hl : (onceB B).length = perN B := by rw [onceB, List.length_take]; have := hp.hi; omega
  refine ⟨by rw [hl]; exact hp.lo, by rw [hl]; exact per_dvd hp, fun i hi => ?_⟩
  rw [Nat.add_zero, hl]
  exact cyc_rep hp i hi
/-- A list is a period of its own. -/
def primB (B : List Int) : Prop := perN B = B.length
theorem once_prim {B : List Int} (h : 1 ≤ B.length) : primB (onceB B) := by
  have hr := once_rep h
  have hl : (onceB B).length = perN B := by rw [onceB, List.length_take]; have := (per_is h).hi; omega
  rw [primB, hl, hr.per h]
theorem prim_once {B : List Int} (h : primB B) : onceB B = B := by rw [onceB, h, List.take_length]
theorem rot_rep {B : List Int} (h : 1 ≤ B.length) (t : Nat) (ht : t < B.length) : Rep (rotB B t) B t := ⟨h, by rw [rot_len, Nat.mod_self], fun i hi => by rw [rot_len] at hi; rw [rot_at ht hi, Nat.add_comm]⟩
theorem rep_rot {X Y : List Int} {s : Nat} (h : Rep X Y s) (hl : X.length = Y.length) : X = rotB Y (s % Y.length) := by
  have hp := h.pos
  apply List.ext_getElem?
  intro i
  by_cases hi : i < X.length
  · rw [h.at' i hi, rot_at (Nat.mod_lt _ hp) (by omega), Nat.mod_add_mod, Nat.add_comm]
  · rw [List.getElem?_eq_none (by omega), List.getElem?_eq_none (by rw [rot_len]; omega)]
theorem rot_rot {B : List Int} (h : 1 ≤ B.length) {s t : Nat} (hs : s < B.length) (ht : t < B.length) : rotB (rotB B s) t = rotB B ((s + t) % B.length) := by
  have hl : (rotB B s).length = B.length := rot_len _ _
  apply List.ext_getElem?
  intro i
  by_cases hi : i < B.length
  · rw [rot_at (by omega) (by omega), hl, rot_at hs (Nat.mod_lt _ h), rot_at (Nat.mod_lt _ h) hi, Nat.add_mod_mod, Nat.mod_add_mod, Nat.add_assoc]
  · rw [List.getElem?_eq_none (by rw [rot_len]; omega), List.getElem?_eq_none (by rw [rot_len]; omega)]
theorem norm_rot {B : List Int} (h : 1 ≤ B.length) {s : Nat} (hs : s < B.length) : normB (rotB B s) = normB B := by
  have hl : (rotB B s).length = B.length := rot_len _ _
  have h1 := norm_least (B := rotB B s) (by omega)
  obtain ⟨t, ht, e⟩ := h1.rot
  rw [hl] at ht
  refine least_uniq (B := B) ⟨⟨(s + t) % B.length, Nat.mod_lt _ h, ?_⟩, fun j hj => ?_⟩ (norm_least h)
  · rw [e, rot_rot h hs ht]
  · have h2 := h1.le ((j + (B.length - s)) % B.length) (by rw [hl]; exact Nat.mod_lt _ h)
    rw [rot_rot h hs (Nat.mod_lt _ h), Nat.add_mod_mod, show s + (j + (B.length - s)) = j + B.length by omega, Nat.add_mod_right, Nat.mod_eq_of_lt hj] at h2
    exact h2
theorem rot_back {B : List Int} (h : 1 ≤ B.length) {s : Nat} (hs : s < B.length) : rotB (rotB B s) ((B.length - s) % B.length) = B := by
  rw [rot_rot h hs (Nat.mod_lt _ h), Nat.add_mod_mod, show s + (B.length - s) = B.length by omega, Nat.mod_self, rot_zero]
theorem norm_eq {X Y : List Int} (hx : 1 ≤ X.length) (hy : 1 ≤ Y.length) (h : normB X = normB Y) : ∃ s, s < Y.length ∧ X = rotB Y s := by
  obtain ⟨t, ht, e⟩ := (norm_least hx).rot
  obtain ⟨u, hu, e2⟩ := (norm_least hy).rot
  have hl : X.length = Y.length := by rw [← norm_len X, h, norm_len]
  refine ⟨(u + (X.length - t) % X.length) % Y.length, Nat.mod_lt _ hy, ?_⟩
  rw [← rot_rot hy hu (by rw [← hl]; exact Nat.mod_lt _ hx), ← e2, ← h, e, rot_back hx ht]
/-- The one repeats the other, turned, exactly if their normal forms are the same. -/
theorem rep_norm {B L : List Int} (hb : 1 ≤ B.length) (hL : 1 ≤ L.length) (hp : primB L) : (∃ s, s < L.length ∧ Rep B L s) ↔ normB (onceB B) = normB L := by
  have ho := once_rep hb
  have hol : (onceB B).length = perN B := by rw [onceB, List.length_take]; have := (per_is hb).hi; omega
  constructor
  · rintro ⟨s, hs, hr⟩
    have hl : (onceB B).length = L.length := by rw [hol, hr.per hb, hp]
    have h2 : Rep (onceB B) L s := ⟨hL, by rw [hl, Nat.mod_self], fun i hi => by
      have h3 : (onceB B)[i]? = B[i]? := by rw [onceB, List.getElem?_take, if_pos (by omega)]
      rw [h3]
      exact hr.at' i (by have := (once_len hb).2; omega)⟩
    have h3 := rep_rot h2 hl
    rw [Nat.mod_eq_of_lt hs] at h3
    rw [h3, norm_rot hL hs]
  · intro h
    obtain ⟨s, hs, e⟩ := norm_eq (once_len hb).1 hL h
    refine ⟨s, hs, hL, ?_, fun i hi => ?_⟩
    · have hl : (onceB B).length = L.length := by rw [e, rot_len]
      rw [← hl]; exact ho.dvd
    · have hl : (onceB B).length = L.length := by rw [e, rot_len]
      rw [ho.at' i hi, Nat.add_zero, hl, e, rot_at hs (Nat.mod_lt _ hL), Nat.add_mod_mod, Nat.add_comm]
/- How often a light goes on. -/
def risF (prev : Int) : List Int → Nat
  | [] => 0
  | b :: r => (if b ≠ 0 ∧ prev = 0 then 1 else 0) + risF b r
def lastD (d : Int) (B : List Int) : Int := B.getLast?.getD d
def flashB (B : List Int) : Nat := risF (lastD 0 B) B
theorem last_app (d : Int) (A : List Int) {B : List Int} (h : B ≠ []) : lastD d (A ++ B) = lastD d B := by
  simp only [lastD, List.getLast?_append]
  cases hb : B.getLast? with
  | none => exact absurd (List.getLast?_eq_none_iff.1 hb) h
  | some x => rfl
theorem last_any (d e : Int) {B : List Int} (h : B ≠ []) : lastD d B = lastD e B := by
  simp only [lastD]
  cases hb : B.getLast? with
  | none => exact absurd (List.getLast?_eq_none_iff.1 hb) h
  | some x => rfl
theorem last_cons (d b : Int) : ∀ (r : List Int), lastD d (b :: r) = lastD b r
  | [] => rfl
  | c :: r => by
    rw [lastD, List.getLast?_cons_cons]
    exact last_any d b (by simp)
theorem ris_app : ∀ (A : List Int) (p : Int) (B : List Int), risF p (A ++ B) = risF p A + risF (lastD p A) B
  | [], p, B => by simp [risF, lastD]
  | a :: r, p, B => by
    rw [List.cons_append, risF, ris_app r a B, risF, last_cons, Nat.add_assoc]
theorem flash_rot (B : List Int) (t : Nat) : flashB (rotB B t) = flashB B := by
  have e : B.take t ++ B.drop t = B := List.take_append_drop t B
  rw [rotB, flashB, flashB]
  generalize B.take t = X at *
  generalize B.drop t = Y at *
  subst e
  by_cases hx : X = []
  · subst hx; simp
  by_cases hy : Y = []
  · subst hy; simp
  rw [last_app _ _ hx, last_app _ _ hy, ris_app, ris_app, last_any (lastD 0 X) 0 hy, last_any (lastD 0 Y) 0 hx]
  omega
theorem ris_rep (p c : Int) : ∀ n : Nat, 1 ≤ n → risF p (List.replicate n c) = if c ≠ 0 ∧ p = 0 then 1 else 0
  | 1, _ => by simp [risF]
  | n + 2, _ => by
    have h := ris_rep c c (n + 1) (by omega)
    rw [List.replicate_succ, risF, h, if_neg (show ¬ (c ≠ 0 ∧ c = 0) from fun h => h.1 h.2), Nat.add_zero]
theorem last_rep (d c : Int) {n : Nat} (h : 1 ≤ n) : lastD d (List.replicate n c) = c := by
  cases n with
  | zero => omega
  | succ n => rw [List.replicate_succ', last_app _ _ (by simp)]; rfl
def litN (B : List Int) : Nat := B.countP fun b => decide (b ≠ 0)
theorem lit_rot (B : List Int) (t : Nat) : litN (rotB B t) = litN B := by
  conv => rhs; rw [← List.take_append_drop t B]
  rw [rotB, litN, litN, List.countP_append, List.countP_append, Nat.add_comm]
/-- The rises, place by place. -/
def riseAt (B : List Int) (i : Nat) : Bool := decide (B.getD i 0 ≠ 0) && decide (B.getD ((i + B.length - 1) % B.length) 0 = 0)
theorem ris_count (p : Int) : ∀ B : List Int, risF p B = (List.range B.length).countP fun i => decide (B.getD i 0 ≠ 0) && decide ((if i = 0 then p else B.getD (i - 1) 0) = 0)
  | [] => rfl
  | b :: r => by
    rw [risF, ris_count b r, List.length_cons, List.range_succ_eq_map, List.countP_cons, List.countP_map]
    have e : (fun i => decide (r.getD i 0 ≠ 0) && decide ((if i = 0 then b else r.getD (i - 1) 0) = 0)) = ((fun i => decide ((b :: r).getD i 0 ≠ 0) && decide ((if i = 0 then p else (b :: r).getD (i - 1) 0) = 0)) ∘ Nat.succ) := by
      funext i
      cases i with
      | zero => simp
      | succ i => simp
    rw [← e]
    by_cases hb : b ≠ 0 ∧ p = 0
    · rw [if_pos hb]; simp [hb.1, hb.2]; omega
    · rw [if_neg hb]
      have : (decide ((b :: r).getD 0 0 ≠ 0) && decide ((if 0 = 0 then p else (b :: r).getD (0 - 1) 0) = 0)) = false := by
        rw [Bool.eq_false_iff]
        intro h
        simp only [Bool.and_eq_true, decide_eq_true_eq] at h
        exact hb ⟨by simpa using h.1, by simpa using h.2⟩
      rw [this]; simp
theorem flash_count (B : List Int) : flashB B = (List.range B.length).countP (riseAt B) := by
  rw [flashB, ris_count]
  refine List.countP_congr fun i hi => ?_
  have hi' := List.mem_range.1 hi
  have e : (if i = 0 then lastD 0 B else B.getD (i - 1) 0) = B.getD ((i + B.length - 1) % B.length) 0 := by
    by_cases h0 : i = 0
    · subst h0
      rw [if_pos rfl, Nat.zero_add, Nat.mod_eq_of_lt (by omega), lastD, List.getLast?_eq_getElem?]; simp [List.getD_eq_getElem?_getD]
    · rw [if_neg h0, show i + B.length - 1 = i - 1 + B.length by omega, Nat.add_mod_right, Nat.mod_eq_of_lt (by omega)]
  rw [riseAt, ← e]
end Go.Proofs.Ytgibbhipjpbdfaa
