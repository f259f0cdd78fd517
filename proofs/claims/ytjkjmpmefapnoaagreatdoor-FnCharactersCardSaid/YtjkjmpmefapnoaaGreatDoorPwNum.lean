/- PwNum: several of my texts in one. -/
import Derived.Test.YtjkjmpmefapnoaaGreatDoorNum
import Derived.Test.YtjkjmpmefapnoaaGreatDoorDec
import Derived.Test.YtjkjmpmefapnoaaGreatDoorApp
import Derived.Test.YtjkjmpmefapnoaaGreatDoorStrS
import Derived.Test.YtjkjmpmefapnoaaGreatDoorPcs
import Derived.Test.YtjkjmpmefapnoaaGreatDoorName
import Derived.Lib.Join
import Derived.Test.YtjkjmpmefapnoaaGreatDoorBase2
import Derived.Test.YtjkjmpmefapnoaaGreatDoorSmall

/- Decimal forms: which bytes they have, and that they are read back. Plain. -/
namespace Go.Proofs.YtjkjmpmefapnoaaGreatDoor
open Go.RowKit
theorem ba_ext {s t : ByteArray} (h : s.data.toList = t.data.toList) : s = t := by
  cases s; cases t
  simp only [ByteArray.mk.injEq]
  exact Array.ext' h
theorem trim_dig (l : List UInt8) : Lib.trimPrefix l [45] = digL l := by
  cases l with
  | nil => rfl
  | cons c r =>
    by_cases h : c = 45
    · subst h; simp [Lib.trimPrefix, Lib.hasPrefix, digL]
    · have h2 : ¬ (45 : UInt8) = c := fun e => h e.symm
      simp [Lib.trimPrefix, Lib.hasPrefix, digL, h, h2]
theorem dec_no (u : Nat) : (32 : UInt8) ∉ Lib.decDigits u := fun h => by
  have := List.all_eq_true.1 (dec_all u) _ h
  simp [isDg] at this
theorem itoa_no (n : Int) : (32 : UInt8) ∉ Lib.itoa n := fun h => by
  rw [Lib.itoa] at h
  split at h
  · rcases List.mem_cons.1 h with h | h
    · cases h
    · exact dec_no _ h
  · exact dec_no _ h
theorem num_of {n : Int} (h0 : 0 ≤ n) (h1 : n ≤ 143999999) : numOk (Lib.itoa n) = true ∧ numV (Lib.itoa n) = n := by
  refine itoa_num rfl ?_
  have hl : (Lib.decDigits n.toNat).length ≤ 18 := by
    have := dn_len 18 n.toNat (by omega)
    by_cases h : n.toNat = 0
    · rw [h, Lib.decDigits, dif_pos (by omega)]; simp
    · rw [dn, if_neg h, List.length_map] at this; exact this
  have e : Lib.itoa n = Lib.decDigits n.toNat := by rw [Lib.itoa, if_neg (by omega)]
  rw [e, digL]
  split
  · rw [List.length_tail]; omega
  · exact hl
theorem dec_not {c : UInt8} (hc : isDg c = false) (u : Nat) : c ∉ Lib.decDigits u := fun h => by
  have := List.all_eq_true.1 (dec_all u) _ h
  rw [hc] at this
  cases this
theorem itoa_not {c : UInt8} (hc : isDg c = false) (h45 : c ≠ 45) (n : Int) : c ∉ Lib.itoa n := fun h => by
  rw [Lib.itoa] at h
  split at h
  · rcases List.mem_cons.1 h with h | h
    · exact h45 h
    · exact dec_not hc _ h
  · exact dec_not hc _ h
theorem itoa_len {n : Int} (h0 : 0 ≤ n) (h1 : n ≤ 143999999) : (Lib.itoa n).length ≤ 10 := by
  rw [Lib.itoa, if_neg (by omega)]
  have := dn_len 10 n.toNat (by omega)
  by_cases h : n.toNat = 0
  · rw [h, Lib.decDigits, dif_pos (by omega)]; simp
  · rw [dn, if_neg h, List.length_map] at this; exact this
theorem dec_size {v : Int} (h0 : 0 ≤ v) (h1 : v ≤ 143999999) : (decB v).size ≤ 10 := by
  have := itoa_len h0 h1
  have e : (decB v).size = (Lib.itoa v).length := by simp [decB, ByteArray.size]
  omega
end Go.Proofs.YtjkjmpmefapnoaaGreatDoor

/- Texts divided at one byte: the reference's l01Split. -/
namespace Go.Proofs.YtjkjmpmefapnoaaGreatDoor
open Go.RowKit
def lst (s : ByteArray) : List UInt8 := s.data.toList
theorem lst_len (s : ByteArray) : (lst s).length = s.size := by rw [lst, Array.length_toList]; rfl
theorem lst_cut (s : ByteArray) (m k : Nat) : lst (s.extract m k) = ((lst s).take k).drop m := by
  simp [lst, ByteArray.data_extract, List.drop_take]
/-- Where the reference's loop stands: from m on the text is not yet laid, up to k it is looked at. -/
structure SpSt (sp : UInt8) (s : ByteArray) (ws : List ByteArray) (m k : Nat) : Prop where
  le : m ≤ k
  ks : k ≤ s.size
  pre : (lst s).take m = ws.flatMap fun p => lst p ++ [sp]
  no : ∀ p ∈ ws, sp ∉ lst p
  cur : sp ∉ ((lst s).take k).drop m
theorem SpSt.start (sp : UInt8) (s : ByteArray) : SpSt sp s [] 0 0 := ⟨Nat.le_refl _, Nat.zero_le _, by simp, by simp, by simp⟩
theorem lst_at {s : ByteArray} {k : Nat} (h : k < s.size) : (lst s)[k]? = some s[k] := by
  rw [lst, Array.getElem?_toList, Array.getElem?_eq_getElem h]; rfl
theorem SpSt.hit {sp : UInt8} {s : ByteArray} {ws : List ByteArray} {m k : Nat} (h : SpSt sp s ws m k) (hk : k < s.size) (he : s[k] = sp) : SpSt sp s (ws ++ [s.extract m k]) (k + 1) (k + 1) := by
  refine ⟨Nat.le_refl _, hk, ?_, fun p hp => ?_, by rw [List.drop_of_length_le (by rw [List.length_take]; omega)]; simp⟩
  · have e : (lst s).take k = (lst s).take m ++ ((lst s).take k).drop m := by
      have h2 := List.take_append_drop m ((lst s).take k)
      rw [List.take_take, Nat.min_eq_left h.le] at h2
      exact h2.symm
    rw [List.take_add_one, lst_at hk, he, e, h.pre, List.flatMap_append, List.flatMap_cons, List.flatMap_nil, lst_cut]
    simp
  · rcases List.mem_append.1 hp with hp | hp
    · exact h.no p hp
    · obtain rfl : p = s.extract m k := by simpa using hp
      rw [lst_cut]; exact h.cur
theorem SpSt.miss {sp : UInt8} {s : ByteArray} {ws : List ByteArray} {m k : Nat} (h : SpSt sp s ws m k) (hk : k < s.size) (he : s[k] ≠ sp) : SpSt sp s ws m (k + 1) := by
  refine ⟨Nat.le_trans h.le (Nat.le_succ _), hk, h.pre, h.no, ?_⟩
  have hl : m ≤ ((lst s).take k).length := by rw [List.length_take, lst_len]; have := h.le; omega
  rw [List.take_add_one, lst_at hk, Option.toList_some, List.drop_append_of_le_length hl]
  intro hm
  rcases List.mem_append.1 hm with hm | hm
  · exact h.cur hm
  · exact he (List.mem_singleton.1 hm).symm
theorem SpSt.last {sp : UInt8} {s : ByteArray} {ws : List ByteArray} {m : Nat} (h : SpSt sp s ws m s.size) : Pcs sp ((ws ++ [s.extract m s.size]).map lst) (lst s) := by
  have hf : (lst s).take s.size = lst s := List.take_of_length_le (by rw [lst_len]; omega)
  refine ⟨by simp, fun p hp => ?_, ?_⟩
  · obtain ⟨q, hq, rfl⟩ := List.mem_map.1 hp
    rcases List.mem_append.1 hq with hq | hq
    · exact h.no q hq
    · obtain rfl : q = s.extract m s.size := by simpa using hq
      rw [lst_cut]; exact h.cur
  · rw [List.map_append, List.map_cons, List.map_nil, jn_pre, lst_cut, hf, List.flatMap_map, ← h.pre, List.take_append_drop]
theorem strInfoS : (Tryz.prog.info? 9).map (fun i => (i.zero, i.size, i.bytes)) = some (some (.string ByteArray.empty), 1, 16) := by kernel_rfl
end Go.Proofs.YtjkjmpmefapnoaaGreatDoor

/- The number with a decimal form: the reference's l01Number. -/
namespace Go.Proofs.YtjkjmpmefapnoaaGreatDoor
open Go.RowKit
def numX (s : ByteArray) : Int := if numOk (lst s) then numV (lst s) else 0
theorem numX_no {s : ByteArray} (h : numOk (lst s) = false) : numX s = 0 := by rw [numX, h]; rfl
theorem lst_head {s : ByteArray} (h : 0 < s.size) : (lst s).head? = some s[0] := by
  rw [List.head?_eq_getElem?, lst_at h]
theorem dig_get {s : ByteArray} {a k : Nat} (h : k < s.size) (ha : a ≤ k) : ((lst s).drop a)[k - a]? = some s[k] := by
  rw [List.getElem?_drop, show a + (k - a) = k by omega, lst_at h]
end Go.Proofs.YtjkjmpmefapnoaaGreatDoor

/- Lists of numbers as text: plain. -/
namespace Go.Proofs.YtjkjmpmefapnoaaGreatDoor
open Go.RowKit
theorem Pcs.uniq {sp : UInt8} : ∀ {P Q : List (List UInt8)} {l : List UInt8}, Pcs sp P l → Pcs sp Q l → P = Q
  | [], _, _, h, _ => absurd rfl h.ne
  | [p], Q, l, h, g => by
    have e : p = l := h.eq
    subst e
    exact (g.one (h.no p (by simp))).symm
  | p :: q :: r, Q, l, h, g => by
    have e := h.eq
    rw [jn_cons p (by simp)] at e
    rw [← e] at g
    obtain ⟨Q', rfl, g'⟩ := g.cons (h.no p (by simp))
    have h' : Pcs sp (q :: r) (jn sp (q :: r)) := ⟨by simp, fun x hx => h.no x (List.mem_cons_of_mem _ hx), rfl⟩
    rw [Pcs.uniq h' g']
theorem join_jn (sp : UInt8) : ∀ P : List (List UInt8), Lib.join P [sp] = jn sp P
  | [] => rfl
  | [p] => Lib.join_one p _
  | p :: q :: r => by
    rw [Lib.join_cons, jn_cons p (by simp), ← join_jn sp (q :: r), Lib.join_cons]
    simp [Lib.joinTail]
theorem lst_inj {s t : ByteArray} (h : lst s = lst t) : s = t := ba_ext h
theorem map_lst_inj : ∀ {P Q : List ByteArray}, P.map lst = Q.map lst → P = Q
  | [], [], _ => rfl
  | [], _ :: _, h => by simp at h
  | _ :: _, [], h => by simp at h
  | p :: P, q :: Q, h => by
    simp only [List.map_cons, List.cons.injEq] at h
    rw [lst_inj h.1, map_lst_inj h.2]
theorem split_pcsB (c : UInt8) (s : ByteArray) : Pcs c ((Lib.splitB ⟨#[c]⟩ 0 (Lib.countB s ⟨#[c]⟩) s).map lst) (lst s) := by
  have h := Lib.splitB_data ⟨#[c]⟩ 0 (Lib.countB s ⟨#[c]⟩) s
  have h2 : (Lib.splitB ⟨#[c]⟩ 0 (Lib.countB s ⟨#[c]⟩) s).map lst = Lib.splitK [c] 0 (Lib.countB s ⟨#[c]⟩) (lst s) := h
  rw [h2]
  exact splitK_pcs _ _ (Lib.count_one c (lst s)).symm
/-- The text of a list that is not empty. -/
def listT (xs : List Int) : ByteArray := ⟨(Lib.join ((xs.map decB).map (·.data.toList)) [44]).toArray⟩
theorem lst_decB (n : Int) : lst (decB n) = Lib.itoa n := rfl
theorem list_pcs {xs : List Int} (h : xs ≠ []) : Pcs 44 ((xs.map decB).map lst) (lst (listT xs)) := by
  refine ⟨by simpa using h, fun p hp => ?_, ?_⟩
  · simp only [List.map_map, List.mem_map, Function.comp] at hp
    obtain ⟨v, _, rfl⟩ := hp
    exact itoa_not (by decide) (by decide) v
  · show _ = Lib.join _ _
    rw [join_jn]; rfl
theorem list_split {xs : List Int} (h : xs ≠ []) : Lib.splitB ⟨#[44]⟩ 0 (Lib.countB (listT xs) ⟨#[44]⟩) (listT xs) = xs.map decB :=
  map_lst_inj ((split_pcsB 44 (listT xs)).uniq (list_pcs h))
theorem list_bar {xs : List Int} (hx : ∀ v ∈ xs, 0 ≤ v ∧ v ≤ 143999999) (h : xs ≠ []) : listT xs ≠ ⟨#[45]⟩ := fun e => by
  have h1 := list_pcs h
  rw [e] at h1
  have h2 := h1.one (show (44 : UInt8) ∉ [45] by decide)
  cases xs with
  | nil => exact h rfl
  | cons v r =>
    simp only [List.map_cons, List.cons.injEq] at h2
    have h3 : Lib.itoa v = [45] := h2.1
    have h4 := (num_of (hx v (by simp)).1 (hx v (by simp)).2).1
    rw [h3] at h4
    exact absurd h4 (by decide)
theorem lens_le {xs : List Int} (hx : ∀ v ∈ xs, 0 ≤ v ∧ v ≤ 143999999) : Lib.lens ((xs.map decB).map (·.data.toList)) ≤ 10 * xs.length := by
  induction xs with
  | nil => simp [Lib.lens]
  | cons v r ih =>
    have h1 := ih fun u hu => hx u (List.mem_cons_of_mem _ hu)
    have h2 : (decB v).data.toList.length ≤ 10 := itoa_len (hx v (by simp)).1 (hx v (by simp)).2
    simp only [Lib.lens, List.map_cons, List.sum_cons, List.length_cons] at h1 ⊢
    omega
theorem list_len {xs : List Int} (hx : ∀ v ∈ xs, 0 ≤ v ∧ v ≤ 143999999) : (listT xs).size ≤ 11 * xs.length := by
  have e : (listT xs).size = (Lib.join ((xs.map decB).map (·.data.toList)) [44]).length := by simp [listT, ByteArray.size]
  rw [e]
  cases xs with
  | nil => simp [Lib.join_nil]
  | cons v r =>
    have h := lens_le hx
    rw [List.map_cons, List.map_cons] at h ⊢
    rw [Lib.join_length]
    simp only [List.length_cons, List.length_nil, List.length_map] at h ⊢
    omega
theorem list_num {v : Int} (h0 : 0 ≤ v) (h1 : v ≤ 143999999) : numOk (lst (decB v)) = true ∧ numX (decB v) = v := by
  obtain ⟨a, b⟩ := num_of h0 h1
  refine ⟨a, ?_⟩
  rw [numX, lst_decB, a, b]; rfl
end Go.Proofs.YtjkjmpmefapnoaaGreatDoor

/- Words and numbers read from a text: the program. -/
namespace Go.Proofs.YtjkjmpmefapnoaaGreatDoor
open Go.RowKit
/-- What the library's variables hold. -/
structure Env (w : World) : Prop where
  tab : Tab10 w
  mx : ∃ m : Int, w.cell? ⟨0, 0, none⟩ = some (.int .i64 m)
  syn : ∃ ev, w.cell? ⟨1, 0, none⟩ = some ev ∧ (ev = .nilIface ∨ ∃ te pe, ev = .iface te pe)
  rng : ∃ ev, w.cell? ⟨2, 0, none⟩ = some ev ∧ (ev = .nilIface ∨ ∃ te pe, ev = .iface te pe)
theorem cell_next {w w' : World} {g : Nat} {v : Value} (h : w.cell? ⟨g, 0, none⟩ = some v) (hb : Below w.heap.size w w') : w'.cell? ⟨g, 0, none⟩ = some v :=
  (keepC hb g (World.block_lt_of_cell? w _ h) 0).trans h
theorem Env.next {w w' : World} (h : Env w) (hb : Below w.heap.size w w') : Env w' := by
  obtain ⟨m, hm⟩ := h.mx
  obtain ⟨e1, h1, h2⟩ := h.syn
  obtain ⟨e2, h3, h4⟩ := h.rng
  exact ⟨h.tab.next hb, ⟨m, cell_next hm hb⟩, ⟨e1, cell_next h1 hb, h2⟩, ⟨e2, cell_next h3 hb, h4⟩⟩
def neB (p : ByteArray) : Bool := decide (0 < p.size)
theorem split_pcs (s : ByteArray) : Pcs 32 ((Lib.splitB ⟨#[32]⟩ 0 (Lib.countB s ⟨#[32]⟩) s).map lst) (lst s) := by
  have h := Lib.splitB_data ⟨#[32]⟩ 0 (Lib.countB s ⟨#[32]⟩) s
  have h2 : (Lib.splitB ⟨#[32]⟩ 0 (Lib.countB s ⟨#[32]⟩) s).map lst = Lib.splitK [32] 0 (Lib.countB s ⟨#[32]⟩) (lst s) := h
  rw [h2]
  exact splitK_pcs _ _ (Lib.count_one 32 (lst s)).symm
end Go.Proofs.YtjkjmpmefapnoaaGreatDoor

/- The number with a decimal form: the program's ReadDecimal. -/
namespace Go.Proofs.YtjkjmpmefapnoaaGreatDoor
open Go.RowKit
theorem parse_bd {l : List UInt8} {v : Int} (h : Lib.parseIntB 64 l = .ok v) : -9223372036854775808 ≤ v ∧ v ≤ 9223372036854775807 := by
  unfold Lib.parseIntB at h
  split at h
  · cases h
  · rename_i c r
    dsimp only at h
    split at h
    · cases h
    · cases h
    · rename_i u _
      split at h
      · cases h
      · split at h
        · cases h
        · rename_i h1 h2
          have h3 : (if c.toNat = 45 then -(u : Int) else (u : Int)) = v := by injection h
          rw [← h3]
          split
          · rename_i hc; simp only [hc, true_and] at h2; omega
          · rename_i hc; simp only [hc, not_false_eq_true, true_and] at h1; omega
theorem below_bytes {w w' : World} {t : TypeId} (h : w' = w ∨ ∃ s, w' = Lib.bytesWorld w t s) : Below w.heap.size w w' := by
  rcases h with rfl | ⟨s, rfl⟩
  · exact Below.refl _ _
  · exact Joins.below_bytesWorld _ _ _ _ (Nat.le_refl _)
set_option maxRecDepth 100000 in
set_option maxHeartbeats 2000000 in
theorem readDecimal_c (s : ByteArray) (w : World) (hs : s.size ≤ 1048576) (hE : Env w) :
    Calls Tryz.prog 64 #[.string s] w fun e w' => e = .returned (.tuple #[.int .i64 (numX s), .bool (numOk (lst s))]) ∧ Below w.heap.size w w' := by
  obtain ⟨T, hT0⟩ : ∃ T : ByteArray, ⟨(Lib.trimPrefix s.data.toList [45]).toArray⟩ = T := ⟨_, rfl⟩
  have hTs : T.size = (digL (lst s)).length := by
    rw [← hT0, ← trim_dig]; simp [ByteArray.size, lst]
  have hT : ∀ w1, Calls Tryz.prog 89 #[.string s, .string ⟨#[45]⟩] w1 fun e w' => e = .returned (.string T) ∧ w' = w1 := fun w1 => hT0 ▸ Tryz.strings_TrimPrefix s ⟨#[45]⟩ w1
  obtain ⟨e1, c1, d1⟩ := hE.syn
  obtain ⟨e2, c2, d2⟩ := hE.rng
  have HT := Lib.hid hT; clear hT
  by_cases h18 : (digL (lst s)).length ≤ 18
  rotate_left
  · have hno : numOk (lst s) = false := by
      rw [Bool.eq_false_iff]
      intro h
      exact h18 (numOk_iff.1 h).2.1
    have hX := numX_no hno
    have ht18 : 18 < (T.size : Int) := by omega
    have Hno := Lib.hid hno; clear hno
    have HX := Lib.hid hX; clear hX
    clear h18 hTs hT0 c1 c2 d1 d2
    go_enter Tryz.func64, Tryz.ntmps64
    go_wp2_with fail
    refine (HT.out _).mono ?_
    rintro e w1 ⟨rfl, rfl⟩
    go_wp2_with fail
    go_ret2
    exact ⟨by rw [HX.out, Hno.out]; rfl, Below.refl _ _⟩
  have ht18 : ¬ 18 < (T.size : Int) := by omega
  rcases hp : Lib.parseIntB 64 (lst s) with v | _ | _
  · obtain ⟨v0, v1⟩ := parse_bd hp
    have hP := Tryz.strconv_ParseInt_10_at64_ok s (by omega) v hp w
    have hD : ∀ w1, Below w.heap.size w w1 → Calls Tryz.prog 66 #[.int .i64 v] w1 fun e w' => e = .returned (.string (decB v)) ∧ Below w1.heap.size w1 w' := fun w1 hbb => decimal_c v w1 v0 v1 (hE.next hbb).tab
    by_cases hd : decB v = s
    · have hi : Lib.itoa v = lst s := by rw [← hd]; rfl
      obtain ⟨hok, hv⟩ := itoa_num hi h18
      have hX : numX s = v := by rw [numX, hok, if_pos rfl, hv]
      have hse : (s.toList == s.toList) = true := by simp
      rw [hd] at hD
      have Hok := Lib.hid hok; clear hok
      have HX := Lib.hid hX; clear hX
      have HP := Lib.hid hP; clear hP
      have HD := Lib.hid hD; clear hD
      clear h18 hTs hT0 c1 c2 d1 d2 hp hi hv hd
      go_enter Tryz.func64, Tryz.ntmps64
      go_wp2_with fail
      refine (HT.out _).mono ?_
      rintro e w1 ⟨rfl, rfl⟩
      go_wp2_with fail
      refine HP.out.mono ?_
      rintro e w2 ⟨rfl, hb⟩
      have hb2 := below_bytes hb
      clear hb
      go_wp2_with fail
      refine (HD.out _ hb2).mono ?_
      rintro e w3 ⟨rfl, hb3⟩
      go_wp2_with fail
      go_ret2
      exact ⟨by rw [HX.out, Hok.out]; rfl, hb2.trans (hb3.mono hb2.size)⟩
    · have hno : numOk (lst s) = false := by
        rw [Bool.eq_false_iff]
        intro h
        have h2 := num_parse h
        rw [hp] at h2
        injection h2 with h2
        refine hd (ba_ext ?_)
        show Lib.itoa v = lst s
        rw [h2]
        exact num_itoa h
      have hX := numX_no hno
      have hse : ((decB v).toList == s.toList) = false := by
        rw [ba_beq]; simpa using hd
      have Hno := Lib.hid hno; clear hno
      have HX := Lib.hid hX; clear hX
      have HP := Lib.hid hP; clear hP
      have HD := Lib.hid hD; clear hD
      clear h18 hTs hT0 c1 c2 d1 d2 hp hd
      go_enter Tryz.func64, Tryz.ntmps64
      go_wp2_with fail
      refine (HT.out _).mono ?_
      rintro e w1 ⟨rfl, rfl⟩
      go_wp2_with fail
      refine HP.out.mono ?_
      rintro e w2 ⟨rfl, hb⟩
      have hb2 := below_bytes hb
      clear hb
      go_wp2_with fail
      refine (HD.out _ hb2).mono ?_
      rintro e w3 ⟨rfl, hb3⟩
      go_wp2_with fail
      go_ret2
      exact ⟨by rw [HX.out, Hno.out]; rfl, hb2.trans (hb3.mono hb2.size)⟩
  · have hno : numOk (lst s) = false := by
      rw [Bool.eq_false_iff]
      intro h
      rw [num_parse h] at hp
      cases hp
    have hX := numX_no hno
    have hP := Tryz.strconv_ParseInt_10_at64_syntax s (by omega) hp e1 w c1 d1
    have Hno := Lib.hid hno; clear hno
    have HX := Lib.hid hX; clear hX
    have HP := Lib.hid hP; clear hP
    clear h18 hTs hT0 c1 c2 d1 d2 hp
    go_enter Tryz.func64, Tryz.ntmps64
    go_wp2_with fail
    refine (HT.out _).mono ?_
    rintro e w1 ⟨rfl, rfl⟩
    go_wp2_with fail
    refine HP.out.mono ?_
    rintro e w2 ⟨N, rfl, -, -, hb2⟩
    go_wp2_with fail
    go_ret2
    exact ⟨by rw [HX.out, Hno.out]; rfl, hb2⟩
  · have hno : numOk (lst s) = false := by
      rw [Bool.eq_false_iff]
      intro h
      rw [num_parse h] at hp
      cases hp
    have hX := numX_no hno
    have hP := Tryz.strconv_ParseInt_10_at64_range s (by omega) hp e2 w c2 d2
    have Hno := Lib.hid hno; clear hno
    have HX := Lib.hid hX; clear hX
    have HP := Lib.hid hP; clear hP
    clear h18 hTs hT0 c1 c2 d1 d2 hp
    go_enter Tryz.func64, Tryz.ntmps64
    go_wp2_with fail
    refine (HT.out _).mono ?_
    rintro e w1 ⟨rfl, rfl⟩
    go_wp2_with fail
    refine HP.out.mono ?_
    rintro e w2 ⟨N, rfl, -, -, hb2⟩
    go_wp2_with fail
    go_ret2
    exact ⟨by rw [HX.out, Hno.out]; rfl, hb2⟩
end Go.Proofs.YtjkjmpmefapnoaaGreatDoor

/- Lists of numbers as text: the program's ListText and ReadList on numbers from 0 on. -/
namespace Go.Proofs.YtjkjmpmefapnoaaGreatDoor
open Go.RowKit
theorem infoTs : (Tryz.prog.info? 9).map (fun i => (i.zero, i.size, i.bytes)) = some (some (.string ByteArray.empty), 1, 16) := by kernel_rfl
theorem infoTi : (Tryz.prog.info? 2).map (fun i => (i.zero, i.size, i.bytes)) = some (some (.int .i64 0), 1, 8) := by kernel_rfl
theorem own_ccL {w : World} {base : Nat} {e : TypeId} {sz n c : Nat} {A : Option Addr} {xs : List Value} (h : w.ownsRow base e sz (.slice A n c) n xs) : n ≤ c := by
  rcases h.2 with ⟨hv, hn⟩ | ⟨g, cap, cur, hv, _, _, h1, _⟩
  · injection hv with _ _ e3
    omega
  · injection hv with e1 _ e3
    omega
theorem joinL_c (A : Option Addr) (n c base : Nat) (xs : List Int) (w : World) (h : w.ownsRow base 9 1 (.slice A n c) n ((xs.map decB).flatMap strC)) (hl : xs.length = n) (hn : 0 < n) (h4 : n ≤ 64) (hx : ∀ v ∈ xs, 0 ≤ v ∧ v ≤ 143999999) :
    Calls Tryz.prog 67 #[.slice A n c, .string ⟨#[44]⟩] w fun e w' => e = .returned (.string (listT xs)) ∧ Below w.heap.size w w' := by
  have hc := own_ccL h
  have hs := Sl.of_own h
  obtain ⟨g, rfl, hg1, hg2⟩ := own_form h hn
  have hlm : (xs.map decB).length = n := by rw [List.length_map, hl]
  have hj := list_len hx
  have hJ := Tryz.strings_Join g 0 c (xs.map decB) ⟨#[44]⟩ w (fun j x hx => by
    have hjn : j < n := by rw [← hlm]; exact (List.getElem?_eq_some_iff.1 hx).1
    obtain ⟨b, off, s, hA, hb, hx', hcell⟩ := hs.str j hjn
    injection hA with hA
    injection hA with e1 e2 _
    subst e1 e2
    rw [hcell, Option.some.inj (hx.symm.trans hx')]) hg2 (by rw [hlm]; omega) (by rw [hlm]; omega) (by
      have : (Lib.join ((xs.map decB).map (·.data.toList)) [44]).length = (listT xs).size := by simp [listT, ByteArray.size]
      show (Lib.join ((xs.map decB).map (·.data.toList)) [44]).length ≤ _
      omega)
  rw [hlm] at hJ
  exact hJ
set_option maxRecDepth 100000 in
set_option maxHeartbeats 2000000 in
theorem listText_c (A : Option Addr) (n c : Nat) (xs : List Int) (w : World) (sl : Sl w w.heap.size 1 A n (xs.flatMap intC)) (hn0 : 0 < n) (h64 : n ≤ 64) (hx : ∀ v ∈ xs, 0 ≤ v ∧ v ≤ 143999999) (ht : Tab10 w) :
    Calls Tryz.prog 36 #[.slice A n c] w fun e w' => e = .returned (.string (listT xs)) ∧ Below w.heap.size w w' := by
  obtain ⟨p0, hp, hy0, hy1, hy2⟩ := info_parts infoTs
  have hl : xs.length = n := sl.len intC 1 intC_len (by omega)
  have hD : ∀ (v : Int) (w1 : World), 0 ≤ v ∧ v ≤ 143999999 → Below w.heap.size w w1 → Calls Tryz.prog 66 #[.int .i64 v] w1 fun e w' => e = .returned (.string (decB v)) ∧ Below w1.heap.size w1 w' := fun v w1 a hb => decimal_c v w1 (by omega) (by omega) (ht.next hb)
  have hJn : ∀ A' c' w1, w1.ownsRow w.heap.size 9 1 (.slice A' n c') n ((xs.map decB).flatMap strC) → Calls Tryz.prog 67 #[.slice A' n c', .string ⟨#[44]⟩] w1 fun e w' => e = .returned (.string (listT xs)) ∧ Below w1.heap.size w1 w' := fun A' c' w1 ho => joinL_c A' n c' w.heap.size xs w1 ho hl (by omega) (by omega) hx
  have hF : ∀ w1, Calls Tryz.prog 65 #[.int .i64 n, .int .i64 64] w1 fun e w' => e = .returned (.bool true) ∧ w1 = w' := fun w1 => by
    have := few_c (n : Int) 64 w1
    rwa [decide_eq_true (show (n : Int) ≤ 64 by omega)] at this
  have hW : ∀ (v : Int) w1, 0 ≤ v ∧ v ≤ 143999999 → Calls Tryz.prog 33 #[.int .i64 v, .int .i64 (-1000000000000), .int .i64 1000000000000] w1 fun e w' => e = .returned (.bool true) ∧ w1 = w' := fun v w1 hv => by
    have := within_c v (-1000000000000) 1000000000000 w1
    rwa [inB_iff.2 ⟨by omega, by omega⟩] at this
  obtain ⟨T, hT⟩ : ∃ T, listT xs = T := ⟨_, rfl⟩
  rw [hT] at hJn ⊢
  have HT := Lib.hid hT; clear hT
  have Hl := Lib.hid hl; clear hl
  have HD := Lib.hid hD; clear hD
  have HJn := Lib.hid hJn; clear hJn
  have Hx := Lib.hid hx; clear hx
  have HF := Lib.hid hF; clear hF
  have HW := Lib.hid hW; clear hW
  clear ht
  have hnp : ¬ (n : Int) = 0 := by omega
  have hnp2 : ((n : Int) == 0) = false := by simpa using hnp
  have hnp3 : (0 : Int) < (n : Int) := by omega
  have hov := World.ownsRow_made (base := w.heap.size) (e := 9) (size := 1) w #[] 0 (Nat.le_refl _) (by simp [maxLen]) rfl
  have hbv : Below w.heap.size w (w.alloc (.cells #[] 9)) := (Below.refl _ _).alloc (Nat.le_refl _) _
  go_enter Tryz.func36, Tryz.ntmps36
  go_wp2_with fail
  refine (HF.out _).mono ?_
  rintro e w1 ⟨rfl, rfl⟩
  go_wp2_with fail
  go_loopw [3, 16] (fun y i wr => ∃ k : Nat, k ≤ n ∧ i = .int .i64 k ∧ wr.ownsRow w.heap.size 9 1 y k (((xs.take k).map decB).flatMap strC) ∧ Below w.heap.size w wr) (fun _ i _ => n - (intOf i).toNat)
  case atStart => exact ⟨0, Nat.zero_le _, rfl, hov, hbv⟩
  case round =>
    clear hov hbv
    obtain ⟨k, hk', rfl, hov, hbw⟩ := hrel
    obtain ⟨A3, c3', rfl⟩ := own_slice hov
    have k0 : (0 : Int) ≤ (k : Int) := by omega
    by_cases hlt : k < n
    · have k1 : (k : Int) < (n : Int) := by omega
      obtain ⟨b, off, v, hA, hbb, hxv, cv⟩ := (sl.next hbw).int k hlt
      have hvb := Hx.out v (List.mem_of_getElem? hxv)
      have e63 : k + 1 ≤ maxLen := by unfold maxLen; omega
      have e32 : (k + 1) * 16 ≤ 140737488355328 := by omega
      have htk : (xs.take (k + 1)).map decB = (xs.take k).map decB ++ [decB v] := by rw [List.take_add_one, hxv, Option.toList_some, List.map_append]; rfl
      have E63 := Lib.hid e63; clear e63
      have E32 := Lib.hid e32; clear e32
      have Htk := Lib.hid htk; clear htk
      have Hxv := Lib.hid hxv; clear hxv
      subst hA
      go_wp2_with fail
      refine (HW.out v _ hvb).mono ?_
      rintro e w2 ⟨rfl, rfl⟩
      go_wp2_with fail
      refine (HD.out v _ hvb hbw).mono ?_
      rintro e w3 ⟨rfl, hb3⟩
      have hov3 := own_next hov hb3
      have hbw3 := hbw.trans (hb3.mono hbw.size)
      clear hov
      go_wp2_with (at_builtin; refine wpl_append _ rfl (.tmp 23) (.tmp 26) _ rfl (w.heap.size) 9 p0 _ 1 16 Tryz.underlying87 hp hy0 hy1 hy2 rfl (by omega) _ (k) _ rfl ((hov3).alloc _) ((w3).heap.size + 1) (some ⟨(w3).heap.size, 0, none⟩) 1 1 (strC (decB v)) rfl (Sl.new (w3) 9 _ 1 1 rfl) (strC_one _) E63.out E32.out (le_alloc (hbw3).size _) ?_; intro v4 w4 ho4 hg4 hat4)
      go_roundw
      case rel =>
        refine ⟨k + 1, by omega, by go_num, ?_, (hbw3.alloc hbw3.size _).grown hg4 (le_alloc hbw3.size _) fun g hg => (hov3.lt g hg).1⟩
        rw [Htk.out, List.flatMap_append]
        simpa using ho4
      case measure => simp [intOf]; omega
    · obtain rfl : k = n := by omega
      have hl' := Hl.out
      rw [List.take_of_length_le (by omega)] at hov
      clear hl'
      go_wp2_with fail
      refine (HJn.out _ _ _ hov).mono ?_
      rintro e w5 ⟨rfl, hb5⟩
      go_wp2_with fail
      go_ret
      exact ⟨rfl, hbw.trans (hb5.mono hbw.size)⟩
set_option maxRecDepth 100000 in
set_option maxHeartbeats 2000000 in
theorem readList_c (xs : List Int) (n : Nat) (w : World) (hl : xs.length = n) (hn0 : 0 < n) (h64 : n ≤ 64) (hx : ∀ v ∈ xs, 0 ≤ v ∧ v ≤ 143999999) (hE : Env w) :
    Calls Tryz.prog 35 #[.string (listT xs)] w fun e w' => ∃ v, e = .returned (.tuple #[v, .bool true]) ∧ w'.ownsRow w.heap.size 2 1 v n (xs.flatMap intC) ∧ Below w.heap.size w w' := by
  obtain ⟨p0, hp, hy0, hy1, hy2⟩ := info_parts infoTi
  have hne : xs ≠ [] := by rintro rfl; simp at hl; omega
  have hov := World.ownsRow_made (base := w.heap.size) (e := 2) (size := 1) w #[] 0 (Nat.le_refl _) (by simp [maxLen]) rfl
  have hbv : Below w.heap.size w (w.alloc (.cells #[] 2)) := (Below.refl _ _).alloc (Nat.le_refl _) _
  obtain ⟨m, hm⟩ := (hE.next hbv).mx
  have hsz := list_len hx
  have hspl := list_split hne
  have hcnt : Lib.countB (listT xs) ⟨#[44]⟩ + 1 = n := by
    have h1 := Lib.splitB_all ⟨#[44]⟩ (by decide) 0 _ (listT xs) rfl
    rw [hspl, List.length_map, hl] at h1
    exact h1.symm
  have hbar : ((listT xs).toList == [45]) = false := by
    have h2 := ba_beq (listT xs) ⟨#[45]⟩
    rw [ByteArray.toList_eq ⟨#[45]⟩] at h2
    rw [h2]
    simpa using list_bar hx hne
  obtain ⟨w1, hw1⟩ : ∃ w1, w.alloc (.cells #[] 2) = w1 := ⟨_, rfl⟩
  have hsp := Tryz.strings_Split (listT xs) ⟨#[44]⟩ m w1 (by omega) (by rw [← hw1]; exact hm) (by decide)
  have hlt0 : w.heap.size < w1.heap.size := by rw [← hw1]; simp
  rw [hw1] at hov hbv
  have e0 : (xs.map decB).map Value.string = (xs.map decB).flatMap strC := by
    rw [List.map_eq_flatMap]; rfl
  rw [hspl, hcnt, e0] at hsp
  have hD : ∀ (v : Int) (w1 : World), 0 ≤ v ∧ v ≤ 143999999 → Below w.heap.size w w1 → Calls Tryz.prog 64 #[.string (decB v)] w1 fun e w' => e = .returned (.tuple #[.int .i64 v, .bool true]) ∧ Below w1.heap.size w1 w' := fun v w1 hv hb => by
    have := readDecimal_c (decB v) w1 (by have := dec_size hv.1 hv.2; omega) (hE.next hb)
    rwa [(list_num hv.1 hv.2).1, (list_num hv.1 hv.2).2] at this
  have hW : ∀ (v : Int) w1, 0 ≤ v ∧ v ≤ 143999999 → Calls Tryz.prog 33 #[.int .i64 v, .int .i64 (-1000000000000), .int .i64 1000000000000] w1 fun e w' => e = .returned (.bool true) ∧ w1 = w' := fun v w1 hv => by
    have := within_c v (-1000000000000) 1000000000000 w1
    rwa [inB_iff.2 ⟨by omega, by omega⟩] at this
  have hsl : Sl (w1.alloc (.cells ((xs.map decB).flatMap strC).toArray 9)) (w1.heap.size + 1) 1 (some ⟨w1.heap.size, 0, none⟩) n ((xs.map decB).flatMap strC) :=
    Sl.new w1 9 _ n 1 (by rw [flat_len strC 1 strC_len, List.length_map, hl])
  have hb2 : Below w1.heap.size w1 (w1.alloc (.cells ((xs.map decB).flatMap strC).toArray 9)) := by (repeat (first | (with_reducible assumption) | (with_reducible exact Below.refl _ _) | exact Nat.le_refl _ | exact Below.size (by with_reducible assumption) | (with_reducible refine Below.drew ?_) | (with_reducible refine below_drewN ?_ _) | (with_reducible refine Below.alloc ?_ ?_ _) | (with_reducible refine Below.setCell ?_ ?_ _) | (with_reducible refine le_alloc ?_ _) | (with_reducible refine le_set ?_ _ _) | (with_reducible refine le_drew ?_) | (with_reducible refine le_drewN ?_ _) | omega | (dsimp only; omega)))
  have hov2 := own_next hov hb2
  obtain ⟨S, hS⟩ : ∃ S, listT xs = S := ⟨_, rfl⟩
  rw [hS] at hsp hbar ⊢
  clear hspl hcnt hS hsz hm hov hE e0 hne
  have HSp := Lib.hid hsp; clear hsp
  have Hl := Lib.hid hl; clear hl
  have Hx := Lib.hid hx; clear hx
  have HD := Lib.hid hD; clear hD
  have HW := Lib.hid hW; clear hW
  go_enter Tryz.func35, Tryz.ntmps35
  go_wp2_with fail
  try rw [hw1]
  clear hw1
  refine HSp.out.mono ?_
  rintro e w2 ⟨rfl, hw2⟩
  rw [← hw2] at hsl hb2 hov2
  have hsz : w2.heap.size = w1.heap.size + 1 := by rw [hw2]; simp
  rw [← hsz] at hsl
  replace hb2 := hbv.trans (hb2.mono hbv.size)
  clear hw2 hsz HSp
  have hlt1 : w.heap.size < w1.heap.size := hlt0
  obtain ⟨gb, hgb⟩ : ∃ gb, w1.heap.size = gb := ⟨_, rfl⟩
  rw [hgb] at hlt1
  rw [hgb] at hsl ⊢
  clear hgb hbv hlt0
  go_wp2_with fail
  go_loopw [4, 15] (fun y i wr => ∃ k : Nat, k ≤ n ∧ i = .int .i64 k ∧ wr.ownsRow w.heap.size 2 1 y k ((xs.take k).flatMap intC) ∧ Below w.heap.size w wr ∧ Sl wr wr.heap.size 1 (some ⟨gb, 0, none⟩) n ((xs.map decB).flatMap strC) ∧ (∀ b off, (some ⟨gb, 0, none⟩ : Option Addr) = some ⟨b, off, none⟩ → y.ownBlock ≠ some b)) (fun _ i _ => n - (intOf i).toNat)
  case atStart => exact ⟨0, Nat.zero_le _, rfl, hov2, hb2, hsl, fun b off e => by injection e with e; injection e with e1 e2; subst e1; intro h; injection h with h; dsimp only at h; omega⟩
  case round =>
    clear hov2 hsl
    obtain ⟨k, hk, rfl, hov, hbw, hsr, hdis⟩ := hrel
    obtain ⟨A3, c3, rfl⟩ := own_slice hov
    by_cases hlt : k < n
    · obtain ⟨b, off, x, hA, hb, hxs, cx⟩ := hsr.str k hlt
      injection hA with hA
      injection hA with hA1 hA2
      subst hA1 hA2
      simp only [Nat.zero_add] at cx
      rw [List.getElem?_map, Option.map_eq_some_iff] at hxs
      obtain ⟨v, hxv, rfl⟩ := hxs
      have hvb := Hx.out v (List.mem_of_getElem? hxv)
      have i0 : (0 : Int) ≤ (k : Int) := by omega
      have i1 : (k : Int) < (n : Int) := by omega
      have i2 : ¬ (k : Int) = 64 := by omega
      have i3 : ¬ k = 64 := by omega
      have htk : (xs.take (k + 1)).flatMap intC = (xs.take k).flatMap intC ++ intC v := by
        rw [List.take_add_one, hxv, Option.toList_some, List.flatMap_append]
        simp
      have e63 : k + 1 ≤ maxLen := by unfold maxLen; omega
      have e32 : (k + 1) * 8 ≤ 140737488355328 := by omega
      have Hxv := Lib.hid hxv; clear hxv
      have Htk := Lib.hid htk; clear htk
      have E63 := Lib.hid e63; clear e63
      have E32 := Lib.hid e32; clear e32
      go_wp2_with fail
      refine (HD.out v _ hvb hbw).mono ?_
      rintro e w3 ⟨rfl, hb3⟩
      have hov3 := own_next hov hb3
      have hbw3 := hbw.trans (hb3.mono hbw.size)
      have hsr3 := hsr.next hb3
      clear hov hsr
      go_wp2_with fail
      refine (HW.out v _ hvb).mono ?_
      rintro e w4 ⟨rfl, rfl⟩
      go_wp2_with (at_builtin; refine wpl_append _ rfl (.tmp 36) (.tmp 38) _ rfl (w.heap.size) 2 p0 _ 1 8 Tryz.underlying27 hp hy0 hy1 hy2 rfl (by omega) _ (k) _ rfl ((hov3).alloc _) ((w3).heap.size + 1) (some ⟨(w3).heap.size, 0, none⟩) 1 1 (intC (v)) rfl (Sl.new (w3) 2 _ 1 1 rfl) (intC_one _) E63.out E32.out (le_alloc (hbw3).size _) ?_; intro v2 w2 ho2 hg2 hat2)
      go_roundw
      case rel =>
        have hbs := Sl.beside hsr3 hg2 hat2 hdis (by omega)
        refine ⟨k + 1, by omega, by go_num, ?_, (hbw3.alloc hbw3.size _).grown hg2 (le_alloc hbw3.size _) fun g hg => (hov3.lt g hg).1, hbs.1, hbs.2⟩
        rw [Htk.out]
        exact ho2
      case measure => simp [intOf]; omega
    · obtain rfl : k = n := by omega
      have hl' := Hl.out
      rw [List.take_of_length_le (by omega)] at hov
      clear hl'
      go_wp2_with fail
      go_ret2
      exact ⟨_, rfl, hov, hbw⟩
end Go.Proofs.YtjkjmpmefapnoaaGreatDoor
