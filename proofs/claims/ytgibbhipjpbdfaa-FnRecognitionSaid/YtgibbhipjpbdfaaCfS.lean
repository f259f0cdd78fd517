/- CfS: several of my texts in one. -/
import Derived.Test.YtgibbhipjpbdfaaRcFG
import Derived.Test.YtgibbhipjpbdfaaSrcG
import Derived.Test.YtgibbhipjpbdfaaChLit
import Derived.Test.YtgibbhipjpbdfaaSmall

/- Names of tenths: equality and order. Plain facts, no program. -/
namespace Go.Proofs.Ytgibbhipjpbdfaa
open Go.RowKit
def nC (b : Int) : List Value := [.string (nameC b)]
theorem nC_len (b : Int) : (nC b).length = 1 := rfl
theorem nC_one (b : Int) : ∀ u ∈ nC b, u.oneCell' = true := by simp [nC, Value.oneCell']
theorem nC_map (B : List Int) : B.flatMap nC = (B.map nameC).flatMap strC := by
  induction B with
  | nil => rfl
  | cons b B ih => rw [List.flatMap_cons, List.map_cons, List.flatMap_cons, ih]; rfl
theorem nameC_inj {a b : Int} (ha : 0 ≤ a ∧ a ≤ 255) (hb : 0 ≤ b ∧ b ≤ 255) : nameC a = nameC b ↔ a = b :=
  ⟨fun h => by rw [← code_name ha.1 ha.2, h, code_name hb.1 hb.2], fun h => by rw [h]⟩
theorem name_beq {a b : Int} (ha : 0 ≤ a ∧ a ≤ 255) (hb : 0 ≤ b ∧ b ≤ 255) : ((nameC a).toList == (nameC b).toList) = decide (a = b) := by
  rw [ba_beq, Bool.eq_iff_iff, decide_eq_true_eq, decide_eq_true_eq, nameC_inj ha hb]
theorem name_list {a : Int} : (nameC a).toList = if a = 0 then [] else [UInt8.ofNat a.toNat] := by
  rw [nameC]
  split
  · exact (toList_nil _).2 rfl
  · rw [toL]; exact strOfNums_data [a]
theorem name_less {a b : Int} (ha : 0 ≤ a ∧ a ≤ 255) (hb : 0 ≤ b ∧ b ≤ 255) : Op.bytesLess (nameC a).toList (nameC b).toList = decide (a < b) := by
  rw [name_list, name_list]
  by_cases h1 : a = 0
  · rw [if_pos h1]
    by_cases h2 : b = 0
    · rw [if_pos h2, h1, h2]; rfl
    · rw [if_neg h2]
      have : decide (a < b) = true := decide_eq_true (by omega)
      rw [this]; rfl
  · rw [if_neg h1]
    by_cases h2 : b = 0
    · rw [if_pos h2]
      have : decide (a < b) = false := decide_eq_false (by omega)
      rw [this]; rfl
    · rw [if_neg h2]
      simp only [Op.bytesLess, Bool.and_false, Bool.or_false]
      rw [Bool.eq_iff_iff, decide_eq_true_eq, decide_eq_true_eq, UInt8.lt_iff_toNat_lt, UInt8.toNat_ofNat', UInt8.toNat_ofNat']
      omega
/-- A row of names, read at an index. -/
theorem Sl.nm {w : World} {Bk n : Nat} {A : Option Addr} {B : List Int} (h : Sl w Bk 1 A n (B.flatMap nC)) (k : Nat) (hk : k < n) :
    ∃ b off x, A = some ⟨b, off, none⟩ ∧ b < Bk ∧ B[k]? = some x ∧ w.cell? ⟨b, off + k, none⟩ = some (.string (nameC x)) := by
  obtain ⟨b, off, z, hA, hb, hx, hc⟩ := h.get nC 1 nC_len (by omega) k hk
  exact ⟨b, off, z, hA, hb, hx, by simpa using hc 0 _ rfl⟩
def inN (B : List Int) : Prop := ∀ b ∈ B, 0 ≤ b ∧ b ≤ 255
theorem inN_ten (ps : List Ph) : inN (tenC ps) := tenC_bd ps
theorem inN_take {B : List Int} (h : inN B) (k : Nat) : inN (B.take k) := fun b hb => h b (List.mem_of_mem_take hb)
theorem inN_rot {B : List Int} (h : inN B) (t : Nat) : inN (rotB B t) := fun b hb => h b (rot_mem hb)
theorem bestN_in {B : List Int} (h : inN B) (h1 : 1 ≤ B.length) (m : Nat) (hm : m ≤ B.length) : inN (bestN B m) := by
  obtain ⟨t, _, he⟩ := bestN_rot h1 m hm
  rw [he]; exact inN_rot h t
theorem bestN_len {B : List Int} (h1 : 1 ≤ B.length) (m : Nat) (hm : m ≤ B.length) : (bestN B m).length = B.length := by
  obtain ⟨t, _, he⟩ := bestN_rot h1 m hm
  rw [he, rot_len]
/-- Two valid characters: is there a common colour. -/
def colAtB (x : Ch) (i : Nat) : ByteArray := x.cs.extract i (i + 1)
def comB (x y : Ch) : Bool := (List.range x.cs.size).any fun i => hasC y.cs (colAtB x i)
def confV (x y : Ch) (tol : Int) : Bool := comB x y && confB x y tol
end Go.Proofs.Ytgibbhipjpbdfaa

/- The pattern of phases on the reference's side: tenths, the least period, the least rotation, runs. -/
namespace Go.Proofs.Ytgibbhipjpbdfaa
open Go.RowKit
theorem tenC_next {ps : List Ph} {k : Nat} {p : Ph} (h : ps[k]? = some p) : tenC (ps.take (k + 1)) = tenC (ps.take k) ++ List.replicate p.len.toNat (code p.c) := by
  rw [tenC, tenL_next h, List.map_append, List.map_replicate]; rfl
theorem tenC_len {ps : List Ph} (h : ∀ p ∈ ps, 0 ≤ p.len ∧ p.len ≤ 600) : (tenC ps).length ≤ 600 * ps.length := by
  rw [tenC, List.length_map]
  have h1 := tenL_len h
  have h2 := tot_bd h
  omega
theorem code_at {s : ByteArray} (h : 0 < s.size) : code s = (s[0].toNat : Int) := by rw [code, if_neg (by omega), bt_eq _ _ h]
set_option maxRecDepth 100000 in
set_option maxHeartbeats 2000000 in
theorem l06Tenths_c (A : Option Addr) (n c : Nat) (ps : List Ph) (w : World) (h : Sl w w.heap.size 2 A n (ps.flatMap Ph.cells)) (hm : n ≤ 200) (hb : ∀ p ∈ ps, 0 ≤ p.len ∧ p.len ≤ 600) :
    Calls Try.prog 62 #[.slice A n c] w fun e w' => ∃ v, e = .returned v ∧ w'.ownsRow w.heap.size 5 1 v (tenC ps).length ((tenC ps).flatMap u8C) ∧ Below w.heap.size w w' := by
  obtain ⟨p0, hp, hy0, hy1, hy2⟩ := info_parts u8Info
  have hl := h.len Ph.cells 2 Ph.cells_len (by omega)
  have hov := World.ownsRow_made (base := w.heap.size) (e := 5) (size := 1) w #[] 0 (Nat.le_refl _) (by simp [maxLen]) rfl
  have hbv : Below w.heap.size w (w.alloc (.cells #[] 5)) := (Below.refl _ _).alloc (Nat.le_refl _) _
  have Hl := Lib.hid hl; clear hl
  have Hb := Lib.hid hb; clear hb
  go_enter Try.func62, Try.ntmps62
  go_wp2_with fail
  go_loopw [3, 4] (fun v i wr => ∃ k : Nat, k ≤ n ∧ i = .int .i64 k ∧ wr.ownsRow w.heap.size 5 1 v (tenC (ps.take k)).length ((tenC (ps.take k)).flatMap u8C) ∧ Below w.heap.size w wr) (fun _ i _ => n - (intOf i).toNat)
  case atStart => exact ⟨0, Nat.zero_le _, rfl, hov, hbv⟩
  case round =>
    clear hov hbv
    obtain ⟨k, hk, rfl, hov, hbw⟩ := hrel
    by_cases hlt : k < n
    · obtain ⟨b, off, p, rfl, hb', hx, d0, d1⟩ := h.ph k hlt
      have q0 := keepC hbw b hb'
      obtain ⟨l0, l1⟩ := Hb.out p (List.mem_of_getElem? hx)
      have hnx := tenC_next hx
      have hlen : (tenC (ps.take k)).length ≤ 600 * k := by
        have := tenC_len (ps := ps.take k) fun p hp => Hb.out p (List.mem_of_mem_take hp)
        rw [List.length_take] at this
        omega
      obtain ⟨B, hB⟩ : ∃ B, tenC (ps.take k) = B := ⟨_, rfl⟩
      rw [hB] at hov hnx hlen
      obtain ⟨A3, c3, rfl⟩ := own_slice hov
      obtain ⟨L, hL⟩ : ∃ L : Nat, p.len = L := ⟨p.len.toNat, by omega⟩
      rw [hL, Int.toNat_natCast] at hnx
      rw [hL] at d1 l1
      have HB := Lib.hid hB; clear hB
      have Hx := Lib.hid hx; clear hx
      have HL := Lib.hid hL; clear hL
      have Hnx := Lib.hid hnx; clear hnx
      have j0 : (0 : Int) ≤ (k : Int) := by omega
      have j1 : (k : Int) < (n : Int) := by omega
      by_cases hs : 0 < p.c.size
      · have hE := isE_no hs
        have hcd := code_at hs
        have hs' : (0 : Int) < (p.c.size : Int) := by omega
        rw [hcd] at Hnx
        have Hcd := Lib.hid hcd; clear hcd
        go_wp2_with fail
        go_loopw [3, 6] (fun v i wr2 => ∃ j : Nat, j ≤ L ∧ i = .int .i64 j ∧ wr2.ownsRow w.heap.size 5 1 v (B.length + j) ((B ++ List.replicate j (p.c[0].toNat : Int)).flatMap u8C) ∧ Below w.heap.size w wr2) (fun _ i _ => L - (intOf i).toNat)
        case atStart => exact ⟨0, Nat.zero_le _, rfl, by simpa using hov, hbw⟩
        case round =>
          clear hov hbw q0
          obtain ⟨j, hj, rfl, hov, hbw⟩ := hrel
          obtain ⟨A3, c3, rfl⟩ := own_slice hov
          have q0 := keepC hbw b hb'
          have i0 : (0 : Int) ≤ (j : Int) := by omega
          by_cases hlj : j < L
          · have i1 : (j : Int) < (L : Int) := by omega
            have e63 : B.length + j + 1 ≤ maxLen := by unfold maxLen; omega
            have e32 : (B.length + j + 1) * 1 ≤ 140737488355328 := by omega
            have E63 := Lib.hid e63; clear e63
            have E32 := Lib.hid e32; clear e32
            go_wp2_with (at_builtin; refine wpl_append _ rfl (.tmp 35) (.tmp 37) _ rfl w.heap.size 5 p0 _ 1 1 Try.underlying36 hp hy0 hy1 hy2 rfl (by omega) _ (B.length + j) _ rfl (hov.alloc _) (wr.heap.size + 1) (some ⟨wr.heap.size, 0, none⟩) 1 1 (u8C (p.c[0].toNat : Int)) rfl (Sl.new wr 5 _ 1 1 rfl) (u8C_one _) E63.out E32.out (le_alloc hbw.size _) ?_; intro v4 w4 ho4 hg4 hat4)
            go_roundw
            case rel =>
              refine ⟨j + 1, by omega, by go_num, ?_, (hbw.alloc hbw.size _).grown hg4 (le_alloc hbw.size _) fun g hg => (hov.lt g hg).1⟩
              rw [List.replicate_succ', ← List.append_assoc, List.flatMap_append]
              simpa [Nat.add_assoc] using ho4
            case measure => simp [intOf]; omega
          · obtain rfl : j = L := by omega
            go_wp2_with fail
            go_roundw
            case rel =>
              refine ⟨k + 1, by omega, by go_num, ?_, hbw⟩
              rw [Hnx.out]
              simpa using hov
            case measure => simp [intOf]; omega
      · have hE : p.c.toList.isEmpty = true := by rw [(toList_nil _).2 (by omega)]; rfl
        have hcd : code p.c = 0 := by rw [code, if_pos (by omega)]
        rw [hcd] at Hnx
        have Hcd := Lib.hid hcd; clear hcd
        go_wp2_with fail
        go_loopw [3, 6] (fun v i wr2 => ∃ j : Nat, j ≤ L ∧ i = .int .i64 j ∧ wr2.ownsRow w.heap.size 5 1 v (B.length + j) ((B ++ List.replicate j (0 : Int)).flatMap u8C) ∧ Below w.heap.size w wr2) (fun _ i _ => L - (intOf i).toNat)
        case atStart => exact ⟨0, Nat.zero_le _, rfl, by simpa using hov, hbw⟩
        case round =>
          clear hov hbw q0
          obtain ⟨j, hj, rfl, hov, hbw⟩ := hrel
          obtain ⟨A3, c3, rfl⟩ := own_slice hov
          have q0 := keepC hbw b hb'
          have i0 : (0 : Int) ≤ (j : Int) := by omega
          by_cases hlj : j < L
          · have i1 : (j : Int) < (L : Int) := by omega
            have e63 : B.length + j + 1 ≤ maxLen := by unfold maxLen; omega
            have e32 : (B.length + j + 1) * 1 ≤ 140737488355328 := by omega
            have E63 := Lib.hid e63; clear e63
            have E32 := Lib.hid e32; clear e32
            go_wp2_with (at_builtin; refine wpl_append _ rfl (.tmp 35) (.tmp 37) _ rfl w.heap.size 5 p0 _ 1 1 Try.underlying36 hp hy0 hy1 hy2 rfl (by omega) _ (B.length + j) _ rfl (hov.alloc _) (wr.heap.size + 1) (some ⟨wr.heap.size, 0, none⟩) 1 1 (u8C (0 : Int)) rfl (Sl.new wr 5 _ 1 1 rfl) (u8C_one _) E63.out E32.out (le_alloc hbw.size _) ?_; intro v4 w4 ho4 hg4 hat4)
            go_roundw
            case rel =>
              refine ⟨j + 1, by omega, by go_num, ?_, (hbw.alloc hbw.size _).grown hg4 (le_alloc hbw.size _) fun g hg => (hov.lt g hg).1⟩
              rw [List.replicate_succ', ← List.append_assoc, List.flatMap_append]
              simpa [Nat.add_assoc] using ho4
            case measure => simp [intOf]; omega
          · obtain rfl : j = L := by omega
            go_wp2_with fail
            go_roundw
            case rel =>
              refine ⟨k + 1, by omega, by go_num, ?_, hbw⟩
              rw [Hnx.out]
              simpa using hov
            case measure => simp [intOf]; omega
    · obtain rfl : k = n := by omega
      rw [List.take_of_length_le (by rw [Hl.out]; omega)] at hov
      obtain ⟨A3, c3, rfl⟩ := own_slice hov
      go_wp2_with fail
      go_ret
      exact ⟨_, rfl, hov, hbw⟩
set_option maxRecDepth 100000 in
set_option maxHeartbeats 2000000 in
theorem l06Period_c (A : Option Addr) (n c : Nat) (B : List Int) (w : World) (h : Sl w w.heap.size 1 A n (B.flatMap u8C)) (h1 : 1 ≤ n) (hm : n ≤ 200000) :
    Calls Try.prog 63 #[.slice A n c] w fun e w' => e = .returned (.int .i64 (perN B)) ∧ Below w.heap.size w w' := by
  have hl := h.len u8C 1 u8C_len (by omega)
  have Hl := Lib.hid hl; clear hl
  go_enter Try.func63, Try.ntmps63
  go_wp2
  go_loopw [3] (fun i wr => ∃ k : Nat, 1 ≤ k ∧ k ≤ n ∧ i = .int .i64 k ∧ Hid (∀ m, 1 ≤ m → m < k → cycB B m = false) ∧ Below w.heap.size w wr) (fun i _ => n - (intOf i).toNat)
  case atStart => exact ⟨1, Nat.le_refl _, h1, rfl, Lib.hid (fun m a b => absurd b (by omega)), Below.refl _ _⟩
  case round =>
    obtain ⟨k, hk1, hk, rfl, Hno, hbw⟩ := hrel
    have k0 : (1 : Int) ≤ (k : Int) := by omega
    by_cases hlt : k < n
    · have k1 : (k : Int) < (n : Int) := by omega
      by_cases hd : n % k = 0
      · have hd' : ((n : Int) % (k : Int) != 0) = false := by
          have : (n : Int) % (k : Int) = 0 := by exact_mod_cast hd
          simp [this]
        have hcp := cyc_pre (B := B) hk1 (by rw [Hl.out]; omega) (by rw [Hl.out]; exact hd)
        have Hcp := Lib.hid hcp; clear hcp
        have Hd := Lib.hid hd; clear hd
        go_wp2
        go_loopw [4, 5] (fun t i wr2 => ∃ (j : Nat) (s : Bool), j + k ≤ n ∧ i = .int .i64 j ∧ t = .bool s ∧ Hid (s = true → ∀ r, r < j → B[r]? = B[r + k]?) ∧ Hid (s = false → preB B k = false) ∧ Below w.heap.size w wr2) (fun _ i _ => n - (intOf i).toNat)
        case atStart => exact ⟨0, true, by omega, rfl, rfl, Lib.hid (fun _ r hr => absurd hr (by omega)), Lib.hid (fun e => by cases e), hbw⟩
        case round =>
          clear hbw
          obtain ⟨j, s, hj, rfl, rfl, Ht, Hf, hbw⟩ := hrel
          have i0 : (0 : Int) ≤ (j : Int) := by omega
          have i2 : (0 : Int) ≤ (j : Int) + (k : Int) := by omega
          by_cases hlj : j + k < n
          · have i1 : (j : Int) + (k : Int) < (n : Int) := by omega
            have i3 : (j : Int) < (n : Int) := by omega
            cases s
            · have hcf := Hcp.out
              rw [Hf.out rfl] at hcf
              have Hcf := Lib.hid hcf; clear hcf
              go_wp2
              go_roundw
              case rel => exact ⟨k + 1, by omega, by omega, by go_num, Lib.hid (fun m a b => by
                rcases Nat.lt_or_ge m k with h2 | h2
                · exact Hno.out m a h2
                · obtain rfl : m = k := by omega
                  exact Hcf.out), hbw⟩
              case measure => simp [intOf]; omega
            · obtain ⟨b, off, x, rfl, hb, hx, c1⟩ := h.u8 j (by omega)
              obtain ⟨b2, off2, y, e2, _, hy, c2⟩ := h.u8 (j + k) hlj
              injection e2 with e2; injection e2 with e3 e4 _
              subst e3 e4
              have q0 := keepC hbw b hb
              have hjk : ((j : Int) + (k : Int)).toNat = j + k := by omega
              have hxy : decide (B[j]? = B[j + k]?) = (x == y) := by rw [hx, hy, Bool.eq_iff_iff]; simp
              have Hx := Lib.hid hx; clear hx
              have Hy := Lib.hid hy; clear hy
              have Hxy := Lib.hid hxy; clear hxy
              go_wp2
              go_quiet (fail)
              go_wp2
              go_roundw
              case rel =>
                refine ⟨j + 1, _, by omega, by go_num, rfl, Lib.hid (fun e r hr => ?_), Lib.hid (fun e => ?_), by (repeat (first | (with_reducible assumption) | (with_reducible exact Below.refl _ _) | exact Nat.le_refl _ | exact Below.size (by with_reducible assumption) | (with_reducible refine Below.drew ?_) | (with_reducible refine below_drewN ?_ _) | (with_reducible refine Below.alloc ?_ ?_ _) | (with_reducible refine Below.setCell ?_ ?_ _) | (with_reducible refine le_alloc ?_ _) | (with_reducible refine le_set ?_ _ _) | (with_reducible refine le_drew ?_) | (with_reducible refine le_drewN ?_ _) | omega | (dsimp only; omega)))⟩
                · rcases Nat.lt_or_ge r j with h2 | h2
                  · exact Ht.out (by simp) r h2
                  · obtain rfl : r = j := by omega
                    rw [← Hxy.out] at e; simpa using e
                · rw [preB]
                  refine allB_no (k := j) (by rw [Hl.out]; omega) ?_
                  rw [Hxy.out]; exact e
              case measure => simp [intOf]; omega
          · have i1 : ¬ (j : Int) + (k : Int) < (n : Int) := by omega
            cases s
            · have hcf := Hcp.out
              rw [Hf.out rfl] at hcf
              have Hcf := Lib.hid hcf; clear hcf
              go_wp2
              go_roundw
              case rel => exact ⟨k + 1, by omega, by omega, by go_num, Lib.hid (fun m a b => by
                rcases Nat.lt_or_ge m k with h2 | h2
                · exact Hno.out m a h2
                · obtain rfl : m = k := by omega
                  exact Hcf.out), hbw⟩
              case measure => simp [intOf]; omega
            · have hp : preB B k = true := pre_iff.2 fun r hr => Ht.out rfl r (by rw [Hl.out] at hr; omega)
              have hpi : PerIs B k := ⟨hk1, by rw [Hl.out]; omega, by rw [Hcp.out]; exact hp, Hno.out⟩
              go_wp2
              go_ret
              exact ⟨ret_eq (int_eq (by rw [per_uniq (per_is (by rw [Hl.out]; omega)) hpi])), hbw⟩
      · have hd' : ((n : Int) % (k : Int) != 0) = true := by
          have : (n : Int) % (k : Int) ≠ 0 := by exact_mod_cast hd
          simp [this]
        have hcn := cyc_not (B := B) hk1 (by rw [Hl.out]; omega) Hno.out (by rw [Hl.out]; exact hd)
        have Hcn := Lib.hid hcn; clear hcn
        have Hd := Lib.hid hd; clear hd
        go_wp2
        go_roundw
        case rel => exact ⟨k + 1, by omega, by omega, by go_num, Lib.hid (fun m a b => by
          rcases Nat.lt_or_ge m k with h2 | h2
          · exact Hno.out m a h2
          · obtain rfl : m = k := by omega
            exact Hcn.out), hbw⟩
        case measure => simp [intOf]; omega
    · obtain rfl : k = n := by omega
      go_wp2
      go_ret
      refine ⟨ret_eq (int_eq ?_), hbw⟩
      have hp : PerIs B B.length := ⟨by rw [Hl.out]; omega, Nat.le_refl _, cyc_len B, fun m a b => Hno.out m a (by rw [Hl.out] at b; exact b)⟩
      rw [per_uniq (per_is (by rw [Hl.out]; omega)) hp, Hl.out]
set_option maxHeartbeats 1000000 in
theorem l06Once_c (A : Option Addr) (n c : Nat) (ps : List Ph) (w : World) (h : Sl w w.heap.size 2 A n (ps.flatMap Ph.cells)) (hm : n ≤ 200) (hb : ∀ p ∈ ps, 0 ≤ p.len ∧ p.len ≤ 600) (h1 : 1 ≤ (tenC ps).length) :
    Calls Try.prog 25 #[.slice A n c] w fun e w' => ∃ A' m c', e = .returned (.slice A' m c') ∧ m = (onceB (tenC ps)).length ∧ Sl w' w'.heap.size 1 A' m ((onceB (tenC ps)).flatMap u8C) ∧ Below w.heap.size w w' := by
  have hl := h.len Ph.cells 2 Ph.cells_len (by omega)
  have hlen := tenC_len hb
  rw [hl] at hlen
  obtain ⟨B, hB⟩ : ∃ B, tenC ps = B := ⟨_, rfl⟩
  rw [hB] at hlen h1 ⊢
  go_enter Try.func25, Try.ntmps25
  go_wp2_with (go_at_call 62; refine (l06Tenths_c A n c ps _ (h.next (by (repeat (first | (with_reducible assumption) | (with_reducible exact Below.refl _ _) | exact Nat.le_refl _ | exact Below.size (by with_reducible assumption) | (with_reducible refine Below.drew ?_) | (with_reducible refine below_drewN ?_ _) | (with_reducible refine Below.alloc ?_ ?_ _) | (with_reducible refine Below.setCell ?_ ?_ _) | (with_reducible refine le_alloc ?_ _) | (with_reducible refine le_set ?_ _ _) | (with_reducible refine le_drew ?_) | (with_reducible refine le_drewN ?_ _) | omega | (dsimp only; omega))))) hm hb).mono ?_; rintro e w1 ⟨v, rfl, ho, hb1⟩)
  rw [hB] at ho
  obtain ⟨g, c1, rfl, hg, hg'⟩ := ho.form h1
  have hcap := own_cap ho
  have s1 := Sl.of_own ho
  have hpi := per_is h1
  have p1 := hpi.lo
  have p2 := hpi.hi
  have p3 : perN B ≤ c1 := by omega
  have p4 : c1 ≠ 0 := by omega
  go_wp2_with (go_at_call 63; refine (l06Period_c _ B.length c1 B _ s1 h1 (by omega)).mono ?_; rintro e w2 ⟨rfl, hb2⟩)
  go_ret
  have s2 := (s1.next hb2).pre u8C 1 u8C_len (perN B) p2
  have hol : (onceB B).length = perN B := by rw [onceB, List.length_take]; omega
  exact ⟨_, _, _, rfl, by rw [hol], s2, hb1.trans (hb2.mono hb1.size)⟩
end Go.Proofs.Ytgibbhipjpbdfaa

/- The pattern of phases on the reference's side: runs of tenths. -/
namespace Go.Proofs.Ytgibbhipjpbdfaa
open Go.RowKit
theorem phInfo' : (Try.prog.info? 58).map (fun i => (i.zero, i.size, i.bytes)) = some (some (.agg #[.string ByteArray.empty, .int .i64 0]), 2, 24) := by kernel_rfl
theorem phC_one' (p : Ph) : ∀ u ∈ Ph.cells p, u.oneCell' = true := by simp [Ph.cells, Value.oneCell']
theorem toPh_cells (d : Int × Int) : Ph.cells (toPh d) = [.string (nameC d.1), .int .i64 d.2] := rfl
def runC (D : List (Int × Int)) : List Value := (D.map toPh).flatMap Ph.cells
theorem runC_len (D : List (Int × Int)) : (runC D).length = D.length * 2 := by rw [runC, flat_len Ph.cells 2 Ph.cells_len, List.length_map]
theorem runC_app (D : List (Int × Int)) (d : Int × Int) : runC (D ++ [d]) = runC D ++ [.string (nameC d.1), .int .i64 d.2] := by
  rw [runC, List.map_append, List.flatMap_append]; rfl
theorem runC_set (D : List (Int × Int)) (a n n' : Int) : (runC (D ++ [(a, n)])).set (D.length * 2 + 1) (.int .i64 n') = runC (D ++ [(a, n')]) := by
  rw [runC_app, runC_app, List.set_append_right _ _ (by rw [runC_len]; omega), runC_len, show D.length * 2 + 1 - D.length * 2 = 1 by omega]; rfl
theorem Sl.run {w : World} {B n : Nat} {A : Option Addr} {D : List (Int × Int)} (h : Sl w B 2 A n (runC D)) (k : Nat) (hk : k < n) :
    ∃ b off d, A = some ⟨b, off, none⟩ ∧ b < B ∧ D[k]? = some d ∧ w.cell? ⟨b, off + k * 2, none⟩ = some (.string (nameC d.1)) ∧ w.cell? ⟨b, off + k * 2 + 1, none⟩ = some (.int .i64 d.2) := by
  obtain ⟨b, off, p, hA, hb, hp, c1, c2⟩ := Sl.ph (xs := D.map toPh) h k hk
  rw [List.getElem?_map, Option.map_eq_some_iff] at hp
  obtain ⟨d, hd, rfl⟩ := hp
  exact ⟨b, off, d, hA, hb, hd, c1, c2⟩
theorem convN (w : World) (n : Int) : (convert 36 9 (.slice (some ⟨w.heap.size, 0, none⟩) 1 1)).run Try.prog (w.alloc (.cells #[.int .u8 n] 5)) = .ok (.string (strOfNums [n])) (w.alloc (.cells #[.int .u8 n] 5)) :=
  run_convert_bytes_arg _ 36 5 Try.underlying36 Try.underlying5 w.heap.size 0 1 1 [n] rfl (fun i hi => by
    obtain rfl : i = 0 := by omega
    simp) 9 Try.underlying9
set_option maxHeartbeats 1000000 in
theorem l06Name_c (x : Int) (w : World) : Calls Try.prog 26 #[.int .u8 x] w fun e w' => e = .returned (.string (nameC x)) ∧ Below w.heap.size w w' := by
  by_cases hx : x = 0
  · subst hx
    have hn : nameC 0 = ⟨#[]⟩ := rfl
    rw [hn]
    go_enter Try.func26, Try.ntmps26
    go_wp2
    go_ret
    exact ⟨rfl, Below.refl _ _⟩
  · have hn : nameC x = strOfNums [x] := by rw [nameC, if_neg hx]
    have hx' : (x == 0) = false := by simpa using hx
    rw [hn]
    have Hn := Lib.hid hn; clear hn
    go_enter Try.func26, Try.ntmps26
    have hcv := convN w x
    go_wp2
    go_ret
    exact ⟨rfl, by (repeat (first | (with_reducible assumption) | (with_reducible exact Below.refl _ _) | exact Nat.le_refl _ | exact Below.size (by with_reducible assumption) | (with_reducible refine Below.drew ?_) | (with_reducible refine below_drewN ?_ _) | (with_reducible refine Below.alloc ?_ ?_ _) | (with_reducible refine Below.setCell ?_ ?_ _) | (with_reducible refine le_alloc ?_ _) | (with_reducible refine le_set ?_ _ _) | (with_reducible refine le_drew ?_) | (with_reducible refine le_drewN ?_ _) | omega | (dsimp only; omega)))⟩
end Go.Proofs.Ytgibbhipjpbdfaa

/- The pattern of phases on the reference's side: the normal pattern, and two rhythms that are alike. -/
namespace Go.Proofs.Ytgibbhipjpbdfaa
open Go.RowKit
end Go.Proofs.Ytgibbhipjpbdfaa
