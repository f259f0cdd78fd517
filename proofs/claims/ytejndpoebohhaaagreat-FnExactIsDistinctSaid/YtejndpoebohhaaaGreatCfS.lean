/- CfS: several of my texts in one. -/
import Derived.Test.YtejndpoebohhaaaGreatRotC
import Derived.Test.YtejndpoebohhaaaGreatSrc
import Derived.Test.YtejndpoebohhaaaGreatChLit
import Derived.Test.YtejndpoebohhaaaGreatSmall
import Derived.IntWalk
/- Names of tenths: equality and order. Plain facts, no program. -/
namespace Go.Proofs.YtejndpoebohhaaaGreat
open Go.RowKit
def nC (b : Int) : List Value := [.string (nameC b)]
theorem nC_len (b : Int) : (nC b).length = 1 := rfl
theorem nC_one (b : Int) : ∀ u ∈ nC b, u.oneCell' = true := by simp [nC, Value.oneCell']
theorem nC_map (B : List Int) : B.flatMap nC = (B.map nameC).flatMap strC := by
  induction B with
  | nil => rfl
  | cons b B ih => rw [List.flatMap_cons, List.map_cons, List.flatMap_cons, ih]; rfl
theorem nameC_inj {a b : Int} (ha : 0 ≤ a ∧ a ≤ 255) (hb : 0 ≤ b ∧ b ≤ 255) : nameC a = nameC b ↔ a = b :=
  ⟨fun h => by rw [← code_name ha.1 ha.2, h, code_name hb.1 hb.2], fun h => by rw [h]⟩
theorem name_beq {a b : Int} (ha : 0 ≤ a ∧ a ≤ 255) (hb : 0 ≤ b ∧ b ≤ 255) : ((nameC a).toList == (nameC b).toList) = decide (a = b) := by
  rw [ba_beq, Bool.eq_iff_iff, decide_eq_true_eq, decide_eq_true_eq, nameC_inj ha hb]
theorem name_list {a : Int} : (nameC a).toList = if a = 0 then [] else [UInt8.ofNat a.toNat] := by
  rw [nameC]
  split
  · exact (toList_nil _).2 rfl
  · rw [toL]; exact strOfNums_data [a]
theorem name_less {a b : Int} (ha : 0 ≤ a ∧ a ≤ 255) (hb : 0 ≤ b ∧ b ≤ 255) : Op.bytesLess (nameC a).toList (nameC b).toList = decide (a < b) := by
  rw [name_list, name_list]
  by_cases h1 : a = 0
  · rw [if_pos h1]
    by_cases h2 : b = 0
    · rw [if_pos h2, h1, h2]; rfl
    · rw [if_neg h2]
      have : decide (a < b) = true := decide_eq_true (by omega)
      rw [this]; rfl
  · rw [if_neg h1]
    by_cases h2 : b = 0
    · rw [if_pos h2]
      have : decide (a < b) = false := decide_eq_false (by omega)
      rw [this]; rfl
    · rw [if_neg h2]
      simp only [Op.bytesLess, Bool.and_false, Bool.or_false]
      rw [Bool.eq_iff_iff, decide_eq_true_eq, decide_eq_true_eq, UInt8.lt_iff_toNat_lt, UInt8.toNat_ofNat', UInt8.toNat_ofNat']
      omega
/-- A row of names, read at an index. -/
theorem Sl.nm {w : World} {Bk n : Nat} {A : Option Addr} {B : List Int} (h : Sl w Bk 1 A n (B.flatMap nC)) (k : Nat) (hk : k < n) :
    ∃ b off x, A = some ⟨b, off, none⟩ ∧ b < Bk ∧ B[k]? = some x ∧ w.cell? ⟨b, off + k, none⟩ = some (.string (nameC x)) := by
  obtain ⟨b, off, z, hA, hb, hx, hc⟩ := h.get nC 1 nC_len (by omega) k hk
  exact ⟨b, off, z, hA, hb, hx, by simpa using hc 0 _ rfl⟩
def inN (B : List Int) : Prop := ∀ b ∈ B, 0 ≤ b ∧ b ≤ 255
theorem inN_ten (ps : List Ph) : inN (tenC ps) := tenC_bd ps
theorem inN_take {B : List Int} (h : inN B) (k : Nat) : inN (B.take k) := fun b hb => h b (List.mem_of_mem_take hb)
theorem inN_rot {B : List Int} (h : inN B) (t : Nat) : inN (rotB B t) := fun b hb => h b (rot_mem hb)
theorem bestN_in {B : List Int} (h : inN B) (h1 : 1 ≤ B.length) (m : Nat) (hm : m ≤ B.length) : inN (bestN B m) := by
  obtain ⟨t, _, he⟩ := bestN_rot h1 m hm
  rw [he]; exact inN_rot h t
theorem bestN_len {B : List Int} (h1 : 1 ≤ B.length) (m : Nat) (hm : m ≤ B.length) : (bestN B m).length = B.length := by
  obtain ⟨t, _, he⟩ := bestN_rot h1 m hm
  rw [he, rot_len]
/-- Two valid characters: is there a common colour. -/
def colAtB (x : Ch) (i : Nat) : ByteArray := x.cs.extract i (i + 1)
def comB (x y : Ch) : Bool := (List.range x.cs.size).any fun i => hasC y.cs (colAtB x i)
def confV (x y : Ch) (tol : Int) : Bool := comB x y && confB x y tol
end Go.Proofs.YtejndpoebohhaaaGreat
/- The pattern of phases on the reference's side: tenths, the least period, the least rotation, runs. -/
namespace Go.Proofs.YtejndpoebohhaaaGreat
open Go.RowKit
theorem tenC_next {ps : List Ph} {k : Nat} {p : Ph} (h : ps[k]? = some p) : tenC (ps.take (k + 1)) = tenC (ps.take k) ++ List.replicate p.len.toNat (code p.c) := by
  rw [tenC, tenL_next h, List.map_append, List.map_replicate]; rfl
theorem tenC_len {ps : List Ph} (h : ∀ p ∈ ps, 0 ≤ p.len ∧ p.len ≤ 600) : (tenC ps).length ≤ 600 * ps.length := by
  rw [tenC, List.length_map]
  have h1 := tenL_len h
  have h2 := tot_bd h
  omega
theorem code_at {s : ByteArray} (h : 0 < s.size) : code s = (s[0].toNat : Int) := by rw [code, if_neg (by omega), bt_eq _ _ h]
set_option maxRecDepth 100000 in
set_option maxHeartbeats 2000000 in
theorem l06Tenths_c (A : Option Addr) (n c : Nat) (ps : List Ph) (w : World) (h : Sl w w.heap.size 2 A n (ps.flatMap Ph.cells)) (hm : n ≤ 200) (hb : ∀ p ∈ ps, 0 ≤ p.len ∧ p.len ≤ 600) :
    Calls Tryz.prog 134 #[.slice A n c] w fun e w' => ∃ v, e = .returned v ∧ w'.ownsRow w.heap.size 5 1 v (tenC ps).length ((tenC ps).flatMap u8C) ∧ Below w.heap.size w w' := by
  obtain ⟨p0, hp, hy0, hy1, hy2⟩ := info_parts u8Info
  have hl := h.len Ph.cells 2 Ph.cells_len (by omega)
  have hov := World.ownsRow_made (base := w.heap.size) (e := 5) (size := 1) w #[] 0 (Nat.le_refl _) (by simp [maxLen]) rfl
  have hbv : Below w.heap.size w (w.alloc (.cells #[] 5)) := (Below.refl _ _).alloc (Nat.le_refl _) _
  have Hl := Lib.hid hl; clear hl
  have Hb := Lib.hid hb; clear hb
  go_enter Tryz.func134, Tryz.ntmps134
  go_wp2_with fail
  go_loopw [3, 4] (fun v i wr => ∃ k : Nat, k ≤ n ∧ i = .int .i64 k ∧ wr.ownsRow w.heap.size 5 1 v (tenC (ps.take k)).length ((tenC (ps.take k)).flatMap u8C) ∧ Below w.heap.size w wr) (fun _ i _ => n - (intOf i).toNat)
  case atStart => exact ⟨0, Nat.zero_le _, rfl, hov, hbv⟩
  case round =>
    clear hov hbv
    obtain ⟨k, hk, rfl, hov, hbw⟩ := hrel
    by_cases hlt : k < n
    · obtain ⟨b, off, p, rfl, hb', hx, d0, d1⟩ := h.ph k hlt
      have q0 := keepC hbw b hb'
      obtain ⟨l0, l1⟩ := Hb.out p (List.mem_of_getElem? hx)
      have hnx := tenC_next hx
      have hlen : (tenC (ps.take k)).length ≤ 600 * k := by
        have := tenC_len (ps := ps.take k) fun p hp => Hb.out p (List.mem_of_mem_take hp)
        rw [List.length_take] at this
        omega
      obtain ⟨B, hB⟩ : ∃ B, tenC (ps.take k) = B := ⟨_, rfl⟩
      rw [hB] at hov hnx hlen
      obtain ⟨A3, c3, rfl⟩ := own_slice hov
      obtain ⟨L, hL⟩ : ∃ L : Nat, p.len = L := ⟨p.len.toNat, by omega⟩
      rw [hL, Int.toNat_natCast] at hnx
      rw [hL] at d1 l1
      have HB := Lib.hid hB; clear hB
      have Hx := Lib.hid hx; clear hx
      have HL := Lib.hid hL; clear hL
      have Hnx := Lib.hid hnx; clear hnx
      have j0 : (0 : Int) ≤ (k : Int) := by omega
      have j1 : (k : Int) < (n : Int) := by omega
      by_cases hs : 0 < p.c.size
      · have hE := isE_no hs
        have hcd := code_at hs
        have hs' : (0 : Int) < (p.c.size : Int) := by omega
        rw [hcd] at Hnx
        have Hcd := Lib.hid hcd; clear hcd
        go_wp2_with fail
        go_loopw [3, 6] (fun v i wr2 => ∃ j : Nat, j ≤ L ∧ i = .int .i64 j ∧ wr2.ownsRow w.heap.size 5 1 v (B.length + j) ((B ++ List.replicate j (p.c[0].toNat : Int)).flatMap u8C) ∧ Below w.heap.size w wr2) (fun _ i _ => L - (intOf i).toNat)
        case atStart => exact ⟨0, Nat.zero_le _, rfl, by simpa using hov, hbw⟩
        case round =>
          clear hov hbw q0
          obtain ⟨j, hj, rfl, hov, hbw⟩ := hrel
          obtain ⟨A3, c3, rfl⟩ := own_slice hov
          have q0 := keepC hbw b hb'
          have i0 : (0 : Int) ≤ (j : Int) := by omega
          by_cases hlj : j < L
          · have i1 : (j : Int) < (L : Int) := by omega
            have e63 : B.length + j + 1 ≤ maxLen := by unfold maxLen; omega
            have e32 : (B.length + j + 1) * 1 ≤ 140737488355328 := by omega
            have E63 := Lib.hid e63; clear e63
            have E32 := Lib.hid e32; clear e32
            go_wp2_with (at_builtin; refine wpl_append _ rfl (.tmp 35) (.tmp 37) _ rfl w.heap.size 5 p0 _ 1 1 Tryz.underlying36 hp hy0 hy1 hy2 rfl (by omega) _ (B.length + j) _ rfl (hov.alloc _) (wr.heap.size + 1) (some ⟨wr.heap.size, 0, none⟩) 1 1 (u8C (p.c[0].toNat : Int)) rfl (Sl.new wr 5 _ 1 1 rfl) (u8C_one _) E63.out E32.out (le_alloc hbw.size _) ?_; intro v4 w4 ho4 hg4 hat4)
            go_roundw
            case rel =>
              refine ⟨j + 1, by omega, by go_num, ?_, (hbw.alloc hbw.size _).grown hg4 (le_alloc hbw.size _) fun g hg => (hov.lt g hg).1⟩
              rw [List.replicate_succ', ← List.append_assoc, List.flatMap_append]
              simpa [Nat.add_assoc] using ho4
            case measure => simp [intOf]; omega
          · obtain rfl : j = L := by omega
            go_wp2_with fail
            go_roundw
            case rel =>
              refine ⟨k + 1, by omega, by go_num, ?_, hbw⟩
              rw [Hnx.out]
              simpa using hov
            case measure => simp [intOf]; omega
      · have hE : p.c.toList.isEmpty = true := by rw [(toList_nil _).2 (by omega)]; rfl
        have hcd : code p.c = 0 := by rw [code, if_pos (by omega)]
        rw [hcd] at Hnx
        have Hcd := Lib.hid hcd; clear hcd
        go_wp2_with fail
        go_loopw [3, 6] (fun v i wr2 => ∃ j : Nat, j ≤ L ∧ i = .int .i64 j ∧ wr2.ownsRow w.heap.size 5 1 v (B.length + j) ((B ++ List.replicate j (0 : Int)).flatMap u8C) ∧ Below w.heap.size w wr2) (fun _ i _ => L - (intOf i).toNat)
        case atStart => exact ⟨0, Nat.zero_le _, rfl, by simpa using hov, hbw⟩
        case round =>
          clear hov hbw q0
          obtain ⟨j, hj, rfl, hov, hbw⟩ := hrel
          obtain ⟨A3, c3, rfl⟩ := own_slice hov
          have q0 := keepC hbw b hb'
          have i0 : (0 : Int) ≤ (j : Int) := by omega
          by_cases hlj : j < L
          · have i1 : (j : Int) < (L : Int) := by omega
            have e63 : B.length + j + 1 ≤ maxLen := by unfold maxLen; omega
            have e32 : (B.length + j + 1) * 1 ≤ 140737488355328 := by omega
            have E63 := Lib.hid e63; clear e63
            have E32 := Lib.hid e32; clear e32
            go_wp2_with (at_builtin; refine wpl_append _ rfl (.tmp 35) (.tmp 37) _ rfl w.heap.size 5 p0 _ 1 1 Tryz.underlying36 hp hy0 hy1 hy2 rfl (by omega) _ (B.length + j) _ rfl (hov.alloc _) (wr.heap.size + 1) (some ⟨wr.heap.size, 0, none⟩) 1 1 (u8C (0 : Int)) rfl (Sl.new wr 5 _ 1 1 rfl) (u8C_one _) E63.out E32.out (le_alloc hbw.size _) ?_; intro v4 w4 ho4 hg4 hat4)
            go_roundw
            case rel =>
              refine ⟨j + 1, by omega, by go_num, ?_, (hbw.alloc hbw.size _).grown hg4 (le_alloc hbw.size _) fun g hg => (hov.lt g hg).1⟩
              rw [List.replicate_succ', ← List.append_assoc, List.flatMap_append]
              simpa [Nat.add_assoc] using ho4
            case measure => simp [intOf]; omega
          · obtain rfl : j = L := by omega
            go_wp2_with fail
            go_roundw
            case rel =>
              refine ⟨k + 1, by omega, by go_num, ?_, hbw⟩
              rw [Hnx.out]
              simpa using hov
            case measure => simp [intOf]; omega
    · obtain rfl : k = n := by omega
      rw [List.take_of_length_le (by rw [Hl.out]; omega)] at hov
      obtain ⟨A3, c3, rfl⟩ := own_slice hov
      go_wp2_with fail
      go_ret
      exact ⟨_, rfl, hov, hbw⟩
set_option maxRecDepth 100000 in
set_option maxHeartbeats 2000000 in
theorem l06Period_c (A : Option Addr) (n c : Nat) (B : List Int) (w : World) (h : Sl w w.heap.size 1 A n (B.flatMap u8C)) (h1 : 1 ≤ n) (hm : n ≤ 200000) :
    Calls Tryz.prog 135 #[.slice A n c] w fun e w' => e = .returned (.int .i64 (perN B)) ∧ Below w.heap.size w w' := by
  have hl := h.len u8C 1 u8C_len (by omega)
  have Hl := Lib.hid hl; clear hl
  go_enter Tryz.func135, Tryz.ntmps135
  go_wp2
  go_loopw [3] (fun i wr => ∃ k : Nat, 1 ≤ k ∧ k ≤ n ∧ i = .int .i64 k ∧ Hid (∀ m, 1 ≤ m → m < k → cycB B m = false) ∧ Below w.heap.size w wr) (fun i _ => n - (intOf i).toNat)
  case atStart => exact ⟨1, Nat.le_refl _, h1, rfl, Lib.hid (fun m a b => absurd b (by omega)), Below.refl _ _⟩
  case round =>
    obtain ⟨k, hk1, hk, rfl, Hno, hbw⟩ := hrel
    have k0 : (1 : Int) ≤ (k : Int) := by omega
    by_cases hlt : k < n
    · have k1 : (k : Int) < (n : Int) := by omega
      by_cases hd : n % k = 0
      · have hd' : ((n : Int) % (k : Int) != 0) = false := by
          have : (n : Int) % (k : Int) = 0 := by exact_mod_cast hd
          simp [this]
        have hcp := cyc_pre (B := B) hk1 (by rw [Hl.out]; omega) (by rw [Hl.out]; exact hd)
        have Hcp := Lib.hid hcp; clear hcp
        have Hd := Lib.hid hd; clear hd
        go_wp2
        go_loopw [4, 5] (fun t i wr2 => ∃ (j : Nat) (s : Bool), j + k ≤ n ∧ i = .int .i64 j ∧ t = .bool s ∧ Hid (s = true → ∀ r, r < j → B[r]? = B[r + k]?) ∧ Hid (s = false → preB B k = false) ∧ Below w.heap.size w wr2) (fun _ i _ => n - (intOf i).toNat)
        case atStart => exact ⟨0, true, by omega, rfl, rfl, Lib.hid (fun _ r hr => absurd hr (by omega)), Lib.hid (fun e => by cases e), hbw⟩
        case round =>
          clear hbw
          obtain ⟨j, s, hj, rfl, rfl, Ht, Hf, hbw⟩ := hrel
          have i0 : (0 : Int) ≤ (j : Int) := by omega
          have i2 : (0 : Int) ≤ (j : Int) + (k : Int) := by omega
          by_cases hlj : j + k < n
          · have i1 : (j : Int) + (k : Int) < (n : Int) := by omega
            have i3 : (j : Int) < (n : Int) := by omega
            cases s
            · have hcf := Hcp.out
              rw [Hf.out rfl] at hcf
              have Hcf := Lib.hid hcf; clear hcf
              go_wp2
              go_roundw
              case rel => exact ⟨k + 1, by omega, by omega, by go_num, Lib.hid (fun m a b => by
                rcases Nat.lt_or_ge m k with h2 | h2
                · exact Hno.out m a h2
                · obtain rfl : m = k := by omega
                  exact Hcf.out), hbw⟩
              case measure => simp [intOf]; omega
            · obtain ⟨b, off, x, rfl, hb, hx, c1⟩ := h.u8 j (by omega)
              obtain ⟨b2, off2, y, e2, _, hy, c2⟩ := h.u8 (j + k) hlj
              injection e2 with e2; injection e2 with e3 e4 _
              subst e3 e4
              have q0 := keepC hbw b hb
              have hjk : ((j : Int) + (k : Int)).toNat = j + k := by omega
              have hxy : decide (B[j]? = B[j + k]?) = (x == y) := by rw [hx, hy, Bool.eq_iff_iff]; simp
              have Hx := Lib.hid hx; clear hx
              have Hy := Lib.hid hy; clear hy
              have Hxy := Lib.hid hxy; clear hxy
              go_wp2
              go_quiet (fail)
              go_wp2
              go_roundw
              case rel =>
                refine ⟨j + 1, _, by omega, by go_num, rfl, Lib.hid (fun e r hr => ?_), Lib.hid (fun e => ?_), by (repeat (first | (with_reducible assumption) | (with_reducible exact Below.refl _ _) | exact Nat.le_refl _ | exact Below.size (by with_reducible assumption) | (with_reducible refine Below.drew ?_) | (with_reducible refine below_drewN ?_ _) | (with_reducible refine Below.alloc ?_ ?_ _) | (with_reducible refine Below.setCell ?_ ?_ _) | (with_reducible refine le_alloc ?_ _) | (with_reducible refine le_set ?_ _ _) | (with_reducible refine le_drew ?_) | (with_reducible refine le_drewN ?_ _) | omega | (dsimp only; omega)))⟩
                · rcases Nat.lt_or_ge r j with h2 | h2
                  · exact Ht.out (by simp) r h2
                  · obtain rfl : r = j := by omega
                    rw [← Hxy.out] at e; simpa using e
                · rw [preB]
                  refine allB_no (k := j) (by rw [Hl.out]; omega) ?_
                  rw [Hxy.out]; exact e
              case measure => simp [intOf]; omega
          · have i1 : ¬ (j : Int) + (k : Int) < (n : Int) := by omega
            cases s
            · have hcf := Hcp.out
              rw [Hf.out rfl] at hcf
              have Hcf := Lib.hid hcf; clear hcf
              go_wp2
              go_roundw
              case rel => exact ⟨k + 1, by omega, by omega, by go_num, Lib.hid (fun m a b => by
                rcases Nat.lt_or_ge m k with h2 | h2
                · exact Hno.out m a h2
                · obtain rfl : m = k := by omega
                  exact Hcf.out), hbw⟩
              case measure => simp [intOf]; omega
            · have hp : preB B k = true := pre_iff.2 fun r hr => Ht.out rfl r (by rw [Hl.out] at hr; omega)
              have hpi : PerIs B k := ⟨hk1, by rw [Hl.out]; omega, by rw [Hcp.out]; exact hp, Hno.out⟩
              go_wp2
              go_ret
              exact ⟨ret_eq (int_eq (by rw [per_uniq (per_is (by rw [Hl.out]; omega)) hpi])), hbw⟩
      · have hd' : ((n : Int) % (k : Int) != 0) = true := by
          have : (n : Int) % (k : Int) ≠ 0 := by exact_mod_cast hd
          simp [this]
        have hcn := cyc_not (B := B) hk1 (by rw [Hl.out]; omega) Hno.out (by rw [Hl.out]; exact hd)
        have Hcn := Lib.hid hcn; clear hcn
        have Hd := Lib.hid hd; clear hd
        go_wp2
        go_roundw
        case rel => exact ⟨k + 1, by omega, by omega, by go_num, Lib.hid (fun m a b => by
          rcases Nat.lt_or_ge m k with h2 | h2
          · exact Hno.out m a h2
          · obtain rfl : m = k := by omega
            exact Hcn.out), hbw⟩
        case measure => simp [intOf]; omega
    · obtain rfl : k = n := by omega
      go_wp2
      go_ret
      refine ⟨ret_eq (int_eq ?_), hbw⟩
      have hp : PerIs B B.length := ⟨by rw [Hl.out]; omega, Nat.le_refl _, cyc_len B, fun m a b => Hno.out m a (by rw [Hl.out] at b; exact b)⟩
      rw [per_uniq (per_is (by rw [Hl.out]; omega)) hp, Hl.out]
set_option maxHeartbeats 1000000 in
theorem l06Once_c (A : Option Addr) (n c : Nat) (ps : List Ph) (w : World) (h : Sl w w.heap.size 2 A n (ps.flatMap Ph.cells)) (hm : n ≤ 200) (hb : ∀ p ∈ ps, 0 ≤ p.len ∧ p.len ≤ 600) (h1 : 1 ≤ (tenC ps).length) :
    Calls Tryz.prog 110 #[.slice A n c] w fun e w' => ∃ A' m c', e = .returned (.slice A' m c') ∧ m = (onceB (tenC ps)).length ∧ Sl w' w'.heap.size 1 A' m ((onceB (tenC ps)).flatMap u8C) ∧ Below w.heap.size w w' := by
  have hl := h.len Ph.cells 2 Ph.cells_len (by omega)
  have hlen := tenC_len hb
  rw [hl] at hlen
  obtain ⟨B, hB⟩ : ∃ B, tenC ps = B := ⟨_, rfl⟩
  rw [hB] at hlen h1 ⊢
  go_enter Tryz.func110, Tryz.ntmps110
  go_wp2_with (go_at_call 134; refine (l06Tenths_c A n c ps _ (h.next (by (repeat (first | (with_reducible assumption) | (with_reducible exact Below.refl _ _) | exact Nat.le_refl _ | exact Below.size (by with_reducible assumption) | (with_reducible refine Below.drew ?_) | (with_reducible refine below_drewN ?_ _) | (with_reducible refine Below.alloc ?_ ?_ _) | (with_reducible refine Below.setCell ?_ ?_ _) | (with_reducible refine le_alloc ?_ _) | (with_reducible refine le_set ?_ _ _) | (with_reducible refine le_drew ?_) | (with_reducible refine le_drewN ?_ _) | omega | (dsimp only; omega))))) hm hb).mono ?_; rintro e w1 ⟨v, rfl, ho, hb1⟩)
  rw [hB] at ho
  obtain ⟨g, c1, rfl, hg, hg'⟩ := ho.form h1
  have hcap := own_cap ho
  have s1 := Sl.of_own ho
  have hpi := per_is h1
  have p1 := hpi.lo
  have p2 := hpi.hi
  have p3 : perN B ≤ c1 := by omega
  have p4 : c1 ≠ 0 := by omega
  go_wp2_with (go_at_call 135; refine (l06Period_c _ B.length c1 B _ s1 h1 (by omega)).mono ?_; rintro e w2 ⟨rfl, hb2⟩)
  go_ret
  have s2 := (s1.next hb2).pre u8C 1 u8C_len (perN B) p2
  have hol : (onceB B).length = perN B := by rw [onceB, List.length_take]; omega
  exact ⟨_, _, _, rfl, by rw [hol], s2, hb1.trans (hb2.mono hb1.size)⟩
set_option maxRecDepth 100000 in
set_option maxHeartbeats 2000000 in
theorem l06Least_c (A : Option Addr) (n c : Nat) (B : List Int) (w : World) (h : Sl w w.heap.size 1 A n (B.flatMap u8C)) (h1 : 1 ≤ n) (hm : n ≤ 200000) :
    Calls Tryz.prog 112 #[.slice A n c] w fun e w' => e = .returned (.int .i64 (leastN B n)) ∧ Below w.heap.size w w' := by
  have hl := h.len u8C 1 u8C_len (by omega)
  have Hl := Lib.hid hl; clear hl
  go_enter Tryz.func112, Tryz.ntmps112
  go_wp2
  go_loopw [3, 4] (fun t i wr => ∃ k : Nat, 1 ≤ k ∧ k ≤ n ∧ i = .int .i64 k ∧ t = .int .i64 (leastN B k) ∧ Below w.heap.size w wr) (fun _ i _ => n - (intOf i).toNat)
  case atStart => exact ⟨1, Nat.le_refl _, h1, rfl, by rw [least_one]; rfl, Below.refl _ _⟩
  case round =>
    obtain ⟨k, hk1, hk, rfl, rfl, hbw⟩ := hrel
    have k0 : (0 : Int) ≤ (k : Int) := by omega
    by_cases hlt : k < n
    · have k1 : (k : Int) < (n : Int) := by omega
      have hnx := leastN_next B k
      have hbl := leastN_lt B k
      obtain ⟨t, ht⟩ : ∃ t, leastN B k = t := ⟨_, rfl⟩
      rw [ht] at hnx hbl ⊢
      have ht' : t < n := by omega
      have Ht := Lib.hid ht; clear ht
      have Hnx := Lib.hid hnx; clear hnx
      go_wp2
      go_loopw [3, 5] (fun t' i wr2 => ∃ j : Nat, j ≤ n ∧ i = .int .i64 j ∧ t' = .int .i64 t ∧ Hid (∀ r, r < j → (rotB B k)[r]? = (rotB B t)[r]?) ∧ Below w.heap.size w wr2) (fun _ i _ => n - (intOf i).toNat)
      case atStart => exact ⟨0, Nat.zero_le _, rfl, rfl, Lib.hid (fun r hr => absurd hr (by omega)), hbw⟩
      case round =>
        clear hbw
        obtain ⟨j, hj, rfl, rfl, Hsm, hbw⟩ := hrel
        by_cases hlj : j < n
        · have i1 : (j : Int) < (n : Int) := by omega
          have m1 : (k + j) % n < n := Nat.mod_lt _ (by omega)
          have m2 : (t + j) % n < n := Nat.mod_lt _ (by omega)
          obtain ⟨b, off, x, rfl, hb, hx, c1⟩ := h.u8 ((k + j) % n) m1
          obtain ⟨b2, off2, y, e2, _, hy, c2⟩ := h.u8 ((t + j) % n) m2
          injection e2 with e2; injection e2 with e3 e4 _
          subst e3 e4
          have q0 := keepC hbw b hb
          have x1 : (rotB B k)[j]? = some x := by rw [rot_at (by rw [Hl.out]; exact hlt) (by rw [Hl.out]; exact hlj), Hl.out, hx]
          have y1 : (rotB B t)[j]? = some y := by rw [rot_at (by rw [Hl.out]; exact ht') (by rw [Hl.out]; exact hlj), Hl.out, hy]
          have em1 : ((k : Int) + (j : Int)) % (n : Int) = (((k + j) % n : Nat) : Int) := by push_cast; rfl
          have em2 : ((t : Int) + (j : Int)) % (n : Int) = (((t + j) % n : Nat) : Int) := by push_cast; rfl
          obtain ⟨r1, hr1⟩ : ∃ r, (k + j) % n = r := ⟨_, rfl⟩
          obtain ⟨r2, hr2⟩ : ∃ r, (t + j) % n = r := ⟨_, rfl⟩
          rw [hr1] at em1 m1 c1
          rw [hr2] at em2 m2 c2
          have i2 : (0 : Int) ≤ (r1 : Int) := by omega
          have i3 : (r1 : Int) < (n : Int) := by omega
          have i4 : (0 : Int) ≤ (r2 : Int) := by omega
          have i5 : (r2 : Int) < (n : Int) := by omega
          have Hx := Lib.hid hx; clear hx
          have Hy := Lib.hid hy; clear hy
          have Hr1 := Lib.hid hr1; clear hr1
          have Hr2 := Lib.hid hr2; clear hr2
          have X1 := Lib.hid x1; clear x1
          have Y1 := Lib.hid y1; clear y1
          by_cases hxy : x = y
          · subst hxy
            go_wp2
            go_roundw
            case rel =>
              refine ⟨j + 1, by omega, by go_num, rfl, Lib.hid (fun r hr => ?_), hbw⟩
              rcases Nat.lt_or_ge r j with h2 | h2
              · exact Hsm.out r h2
              · obtain rfl : r = j := by omega
                rw [X1.out, Y1.out]
            case measure => simp [intOf]; omega
          · have hlb := lt_at Hsm.out X1.out Y1.out hxy
            have hne : (x != y) = true := by simpa using hxy
            have Hlb := Lib.hid hlb; clear hlb
            have Hxy := Lib.hid hxy; clear hxy
            by_cases hls : x < y
            · go_wp2
              go_roundw
              case rel => exact ⟨k + 1, by omega, by omega, by go_num, int_eq (by rw [Hnx.out, Hlb.out, decide_eq_true hls]; rfl), hbw⟩
              case measure => simp [intOf]; omega
            · go_wp2
              go_roundw
              case rel => exact ⟨k + 1, by omega, by omega, by go_num, int_eq (by rw [Hnx.out, Hlb.out, decide_eq_false hls]; rfl), hbw⟩
              case measure => simp [intOf]; omega
        · obtain rfl : j = n := by omega
          have hls := lt_same Hsm.out (by rw [rot_len, Hl.out]) (by rw [rot_len, Hl.out])
          have Hls := Lib.hid hls; clear hls
          go_wp2
          go_roundw
          case rel => exact ⟨k + 1, by omega, by omega, by go_num, int_eq (by rw [Hnx.out, Hls.out]; rfl), hbw⟩
          case measure => simp [intOf]; omega
    · obtain rfl : k = n := by omega
      go_wp2
      go_ret
      exact ⟨rfl, hbw⟩
end Go.Proofs.YtejndpoebohhaaaGreat
/- The pattern of phases on the reference's side: runs of tenths. -/
namespace Go.Proofs.YtejndpoebohhaaaGreat
open Go.RowKit
theorem phInfo' : (Tryz.prog.info? 109).map (fun i => (i.zero, i.size, i.bytes)) = some (some (.agg #[.string ByteArray.empty, .int .i64 0]), 2, 24) := by kernel_rfl
theorem phC_one' (p : Ph) : ∀ u ∈ Ph.cells p, u.oneCell' = true := by simp [Ph.cells, Value.oneCell']
theorem toPh_cells (d : Int × Int) : Ph.cells (toPh d) = [.string (nameC d.1), .int .i64 d.2] := rfl
def runC (D : List (Int × Int)) : List Value := (D.map toPh).flatMap Ph.cells
theorem runC_len (D : List (Int × Int)) : (runC D).length = D.length * 2 := by rw [runC, flat_len Ph.cells 2 Ph.cells_len, List.length_map]
theorem runC_app (D : List (Int × Int)) (d : Int × Int) : runC (D ++ [d]) = runC D ++ [.string (nameC d.1), .int .i64 d.2] := by
  rw [runC, List.map_append, List.flatMap_append]; rfl
theorem runC_set (D : List (Int × Int)) (a n n' : Int) : (runC (D ++ [(a, n)])).set (D.length * 2 + 1) (.int .i64 n') = runC (D ++ [(a, n')]) := by
  rw [runC_app, runC_app, List.set_append_right _ _ (by rw [runC_len]; omega), runC_len, show D.length * 2 + 1 - D.length * 2 = 1 by omega]; rfl
theorem Sl.run {w : World} {B n : Nat} {A : Option Addr} {D : List (Int × Int)} (h : Sl w B 2 A n (runC D)) (k : Nat) (hk : k < n) :
    ∃ b off d, A = some ⟨b, off, none⟩ ∧ b < B ∧ D[k]? = some d ∧ w.cell? ⟨b, off + k * 2, none⟩ = some (.string (nameC d.1)) ∧ w.cell? ⟨b, off + k * 2 + 1, none⟩ = some (.int .i64 d.2) := by
  obtain ⟨b, off, p, hA, hb, hp, c1, c2⟩ := Sl.ph (xs := D.map toPh) h k hk
  rw [List.getElem?_map, Option.map_eq_some_iff] at hp
  obtain ⟨d, hd, rfl⟩ := hp
  exact ⟨b, off, d, hA, hb, hd, c1, c2⟩
theorem convN (w : World) (n : Int) : (convert 36 9 (.slice (some ⟨w.heap.size, 0, none⟩) 1 1)).run Tryz.prog (w.alloc (.cells #[.int .u8 n] 5)) = .ok (.string (strOfNums [n])) (w.alloc (.cells #[.int .u8 n] 5)) :=
  run_convert_bytes_arg _ 36 5 Tryz.underlying36 Tryz.underlying5 w.heap.size 0 1 1 [n] rfl (fun i hi => by
    obtain rfl : i = 0 := by omega
    simp) 9 Tryz.underlying9
set_option maxHeartbeats 1000000 in
theorem l06Name_c (x : Int) (w : World) : Calls Tryz.prog 136 #[.int .u8 x] w fun e w' => e = .returned (.string (nameC x)) ∧ Below w.heap.size w w' := by
  by_cases hx : x = 0
  · subst hx
    have hn : nameC 0 = ⟨#[]⟩ := rfl
    rw [hn]
    go_enter Tryz.func136, Tryz.ntmps136
    go_wp2
    go_ret
    exact ⟨rfl, Below.refl _ _⟩
  · have hn : nameC x = strOfNums [x] := by rw [nameC, if_neg hx]
    have hx' : (x == 0) = false := by simpa using hx
    rw [hn]
    have Hn := Lib.hid hn; clear hn
    go_enter Tryz.func136, Tryz.ntmps136
    have hcv := convN w x
    go_wp2
    go_ret
    exact ⟨rfl, by (repeat (first | (with_reducible assumption) | (with_reducible exact Below.refl _ _) | exact Nat.le_refl _ | exact Below.size (by with_reducible assumption) | (with_reducible refine Below.drew ?_) | (with_reducible refine below_drewN ?_ _) | (with_reducible refine Below.alloc ?_ ?_ _) | (with_reducible refine Below.setCell ?_ ?_ _) | (with_reducible refine le_alloc ?_ _) | (with_reducible refine le_set ?_ _ _) | (with_reducible refine le_drew ?_) | (with_reducible refine le_drewN ?_ _) | omega | (dsimp only; omega)))⟩
set_option maxRecDepth 100000 in
set_option maxHeartbeats 2000000 in
theorem l06Join_c (A : Option Addr) (n c : Nat) (B : List Int) (f : Nat) (w : World) (h : Sl w w.heap.size 1 A n (B.flatMap u8C)) (h1 : 1 ≤ n) (hm : n ≤ 200000) (hf : f < n) (hbb : ∀ b ∈ B, 0 ≤ b ∧ b ≤ 255) :
    Calls Tryz.prog 111 #[.slice A n c, .int .i64 f] w fun e w' => ∃ v, e = .returned v ∧ w'.ownsRow w.heap.size 109 2 v (joinB (rotB B f)).length (runC (joinB (rotB B f))) ∧ Below w.heap.size w w' := by
  obtain ⟨p0, hp, hy0, hy1, hy2⟩ := info_parts phInfo'
  have hl := h.len u8C 1 u8C_len (by omega)
  have hov : (w.alloc (.cells #[] 109)).ownsRow w.heap.size 109 2 (.slice (some ⟨w.heap.size, 0, none⟩) 0 0) 0 [] := World.ownsRow_made w #[] 0 (Nat.le_refl _) (by simp [maxLen]) rfl
  have hbv : Below w.heap.size w (w.alloc (.cells #[] 109)) := (Below.refl _ _).alloc (Nat.le_refl _) _
  have Hl := Lib.hid hl; clear hl
  have Hbb := Lib.hid hbb; clear hbb
  go_enter Tryz.func111, Tryz.ntmps111
  go_wp2
  go_loopw [5, 6] (fun v i wr => ∃ k : Nat, k ≤ n ∧ i = .int .i64 k ∧ wr.ownsRow w.heap.size 109 2 v (joinB ((rotB B f).take k)).length (runC (joinB ((rotB B f).take k))) ∧ Below w.heap.size w wr) (fun _ i _ => n - (intOf i).toNat)
  case atStart => exact ⟨0, Nat.zero_le _, rfl, hov, hbv⟩
  case round =>
    clear hov hbv
    obtain ⟨k, hk, rfl, hov, hbw⟩ := hrel
    by_cases hlt : k < n
    · have i1 : (k : Int) < (n : Int) := by omega
      have m1 : (f + k) % n < n := Nat.mod_lt _ (by omega)
      obtain ⟨b, off, x, rfl, hb, hx, c1⟩ := h.u8 ((f + k) % n) m1
      have q0 := keepC hbw b hb
      have x1 : (rotB B f)[k]? = some x := by rw [rot_at (by rw [Hl.out]; exact hf) (by rw [Hl.out]; exact hlt), Hl.out, hx]
      have hxb := Hbb.out x (List.mem_of_getElem? hx)
      have hnx := join_next x1
      have hjl := join_len (rotB B f) k (by rw [rot_len, Hl.out]; exact hk)
      have hjb := join_bd (rotB B f) k (by rw [rot_len, Hl.out]; exact hk)
      have em1 : ((f : Int) + (k : Int)) % (n : Int) = (((f + k) % n : Nat) : Int) := by push_cast; rfl
      obtain ⟨r1, hr1⟩ : ∃ r, (f + k) % n = r := ⟨_, rfl⟩
      rw [hr1] at em1 m1 c1
      have i2 : (0 : Int) ≤ (r1 : Int) := by omega
      have i3 : (r1 : Int) < (n : Int) := by omega
      obtain ⟨D, hD⟩ : ∃ D, joinB ((rotB B f).take k) = D := ⟨_, rfl⟩
      rw [hD] at hov hnx hjl hjb
      have hjb' : ∀ d ∈ D, (0 ≤ d.1 ∧ d.1 ≤ 255) ∧ 1 ≤ d.2 ∧ d.2 ≤ (k : Int) := fun d hd => ⟨Hbb.out _ (rot_mem (hjb d hd).1), (hjb d hd).2⟩
      clear hjb
      have Hx := Lib.hid hx; clear hx
      have Hr1 := Lib.hid hr1; clear hr1
      have X1 := Lib.hid x1; clear x1
      have HD := Lib.hid hD; clear hD
      rcases D.eq_nil_or_concat with h0 | ⟨D', d, h0⟩
      · have hD2 : joinB ((rotB B f).take (k + 1)) = D ++ [(x, 1)] := by rw [hnx, h0]; rfl
        have hl0 : D.length = 0 := by rw [h0]; rfl
        obtain ⟨m, hm0⟩ : ∃ m, D.length = m := ⟨_, rfl⟩
        rw [hm0] at hov hl0
        subst hl0
        obtain ⟨A3, c3, rfl⟩ := own_slice hov
        have HD2 := Lib.hid hD2; clear hD2
        have Hm0 := Lib.hid hm0; clear hm0
        clear hnx h0
        have e63 : 0 + 1 ≤ maxLen := by unfold maxLen; omega
        have e32 : (0 + 1) * 24 ≤ 140737488355328 := by omega
        have E63 := Lib.hid e63; clear e63
        have E32 := Lib.hid e32; clear e32
        go_wp2_with (first | (go_at_call 136; refine (l06Name_c x wr).mono ?_; rintro e w1 ⟨rfl, hb1⟩; have ho1 := own_next hov hb1; have hbw1 : Below w.heap.size w w1 := hbw.trans (hb1.mono hbw.size); skip) | (at_builtin; refine wpl_append _ rfl (.tmp 49) (.tmp 52) _ rfl w.heap.size 109 p0 _ 2 24 Tryz.underlying93 hp hy0 hy1 hy2 rfl (by omega) _ 0 _ rfl (ho1.alloc _) (w1.heap.size + 1) (some ⟨w1.heap.size, 0, none⟩) 1 1 [.string (nameC x), .int .i64 1] rfl (Sl.new w1 109 _ 1 2 rfl) (phC_one' (toPh (x, 1))) E63.out E32.out (le_alloc hbw1.size _) ?_; intro v2 w2 ho2 hg2 hat2))
        go_roundw
        case rel =>
          refine ⟨k + 1, by omega, by go_num, ?_, (hbw1.alloc hbw1.size _).grown hg2 (le_alloc hbw1.size _) fun g hg => (ho1.lt g hg).1⟩
          rw [HD2.out, runC_app, List.length_append, Hm0.out]
          exact ho2
        case measure => simp [intOf]; omega
      · rw [List.concat_eq_append] at h0
        obtain ⟨d1, d2⟩ := d
        have hdb := hjb' (d1, d2) (by rw [h0]; simp)
        obtain ⟨⟨z0, z1⟩, z2, z3⟩ := hdb
        dsimp only at z0 z1 z2 z3
        obtain ⟨l, hl1⟩ : ∃ l, D'.length = l := ⟨_, rfl⟩
        have hml : D.length = l + 1 := by rw [h0, ← hl1]; simp
        obtain ⟨m, hm0⟩ : ∃ m, D.length = m := ⟨_, rfl⟩
        rw [hm0] at hov hml hjl
        have em : (m : Int) - 1 = (l : Int) := by omega
        have g0 : (0 : Int) < (m : Int) := by omega
        have g1 : (0 : Int) ≤ (l : Int) := by omega
        have g2 : (l : Int) < (m : Int) := by omega
        obtain ⟨g, c3, rfl, hg, hg'⟩ := hov.form (by omega)
        have y0 := hov.cellAt (l * 2) (by omega)
        have y1 := hov.cellAt (l * 2 + 1) (by omega)
        have y2 := hov.frozenAt (l * 2 + 1)
        rw [h0, runC_app, List.getElem?_append_right (by rw [runC_len, hl1]; omega), runC_len, hl1, show l * 2 - l * 2 = 0 by omega] at y0
        rw [h0, runC_app, List.getElem?_append_right (by rw [runC_len, hl1]; omega), runC_len, hl1, show l * 2 + 1 - l * 2 = 1 by omega] at y1
        simp only [List.getElem?_cons_zero, List.getElem?_cons_succ] at y0 y1
        have Hml := Lib.hid hml; clear hml
        by_cases hc : d1 = x
        · have hD2 : joinB ((rotB B f).take (k + 1)) = D' ++ [(x, d2 + 1)] := by rw [hnx, h0, jstep]; simp [hc]
          subst hc
          have HD2 := Lib.hid hD2; clear hD2
          have Hm0 := Lib.hid hm0; clear hm0
          have Hl1 := Lib.hid hl1; clear hl1
          have H0 := Lib.hid h0; clear h0
          clear hnx
          go_wp2_with (go_at_call 136; refine (l06Name_c d1 wr).mono ?_; rintro e w1 ⟨rfl, hb1⟩; have q1 := keepC hb1 g hg'; have f1 := keepF hb1 g hg')
          have ho1 := own_next hov hb1
          have hbw1 : Below w.heap.size w w1 := hbw.trans (hb1.mono hbw.size)
          have hst := ho1.stored (l * 2 + 1) (.int .i64 (d2 + 1))
          rw [H0.out, ← Hl1.out, runC_set, Hl1.out] at hst
          go_roundw
          case rel =>
            refine ⟨k + 1, by omega, by go_num, ?_, by (repeat (first | (with_reducible assumption) | (with_reducible exact Below.refl _ _) | exact Nat.le_refl _ | exact Below.size (by with_reducible assumption) | (with_reducible refine Below.drew ?_) | (with_reducible refine below_drewN ?_ _) | (with_reducible refine Below.alloc ?_ ?_ _) | (with_reducible refine Below.setCell ?_ ?_ _) | (with_reducible refine le_alloc ?_ _) | (with_reducible refine le_set ?_ _ _) | (with_reducible refine le_drew ?_) | (with_reducible refine le_drewN ?_ _) | omega | (dsimp only; omega)))⟩
            rw [HD2.out, List.length_append, Hl1.out, show l + [(d1, d2 + 1)].length = m by have := Hml.out; simp; omega]
            exact hst.1
          case measure => simp [intOf]; omega
        · have hD2 : joinB ((rotB B f).take (k + 1)) = D ++ [(x, 1)] := by rw [hnx, h0, jstep]; simp [hc]
          have hne : nameC d1 ≠ nameC x := fun e => hc (by rw [← code_name z0 z1, e, code_name hxb.1 hxb.2])
          have hne' : ((nameC d1).toList == (nameC x).toList) = false := by rw [ba_beq, decide_eq_false hne]
          have Hne := Lib.hid hne; clear hne
          have HD2 := Lib.hid hD2; clear hD2
          have Hm0 := Lib.hid hm0; clear hm0
          have Hl1 := Lib.hid hl1; clear hl1
          have H0 := Lib.hid h0; clear h0
          clear hnx
          have e63 : m + 1 ≤ maxLen := by unfold maxLen; omega
          have e32 : (m + 1) * 24 ≤ 140737488355328 := by omega
          have E63 := Lib.hid e63; clear e63
          have E32 := Lib.hid e32; clear e32
          go_wp2_with (first | (go_at_call 136; refine (l06Name_c x wr).mono ?_; rintro e w1 ⟨rfl, hb1⟩; have ho1 := own_next hov hb1; have hbw1 : Below w.heap.size w w1 := hbw.trans (hb1.mono hbw.size); (have q1 := keepC hb1 g hg')) | (at_builtin; refine wpl_append _ rfl (.tmp 49) (.tmp 52) _ rfl w.heap.size 109 p0 _ 2 24 Tryz.underlying93 hp hy0 hy1 hy2 rfl (by omega) _ m _ rfl (ho1.alloc _) (w1.heap.size + 1) (some ⟨w1.heap.size, 0, none⟩) 1 1 [.string (nameC x), .int .i64 1] rfl (Sl.new w1 109 _ 1 2 rfl) (phC_one' (toPh (x, 1))) E63.out E32.out (le_alloc hbw1.size _) ?_; intro v2 w2 ho2 hg2 hat2))
          go_roundw
          case rel =>
            refine ⟨k + 1, by omega, by go_num, ?_, (hbw1.alloc hbw1.size _).grown hg2 (le_alloc hbw1.size _) fun g hg => (ho1.lt g hg).1⟩
            rw [HD2.out, runC_app, List.length_append, Hm0.out]
            exact ho2
          case measure => simp [intOf]; omega
    · obtain rfl : k = n := by omega
      rw [List.take_of_length_le (by rw [rot_len, Hl.out]; omega)] at hov
      obtain ⟨A3, c3, rfl⟩ := own_slice hov
      go_wp2
      go_ret
      exact ⟨_, rfl, hov, hbw⟩
end Go.Proofs.YtejndpoebohhaaaGreat
/- The pattern of phases on the reference's side: the normal pattern, and two rhythms that are alike. -/
namespace Go.Proofs.YtejndpoebohhaaaGreat
open Go.RowKit
set_option maxRecDepth 100000 in
set_option maxHeartbeats 1000000 in
theorem l06Normal_c (A : Option Addr) (n c : Nat) (ps : List Ph) (w : World) (h : Sl w w.heap.size 2 A n (ps.flatMap Ph.cells)) (hm : n ≤ 200) (hb : ∀ p ∈ ps, 0 ≤ p.len ∧ p.len ≤ 600) (h1 : 1 ≤ (tenC ps).length) :
    Calls Tryz.prog 82 #[.slice A n c] w fun e w' => ∃ v, e = .returned v ∧ w'.ownsRow w.heap.size 109 2 v (normP (tenC ps)).length (runC (normP (tenC ps))) ∧ Below w.heap.size w w' := by
  have hl := h.len Ph.cells 2 Ph.cells_len (by omega)
  have hlen := tenC_len hb
  rw [hl] at hlen
  have hon := once_len h1
  have hbo : ∀ b ∈ onceB (tenC ps), 0 ≤ b ∧ b ≤ 255 := fun b hx => tenC_bd ps b (List.mem_of_mem_take hx)
  have hll := leastN_lt (onceB (tenC ps)) (onceB (tenC ps)).length
  have hnm : normP (tenC ps) = joinB (rotB (onceB (tenC ps)) (leastN (onceB (tenC ps)) (onceB (tenC ps)).length)) := rfl
  rw [hnm]
  have hon1 := hon.1
  have hon2 : (onceB (tenC ps)).length ≤ 120000 := by omega
  obtain ⟨O, hO⟩ : ∃ O, onceB (tenC ps) = O := ⟨_, rfl⟩
  rw [hO] at hbo hll hon1 hon2 ⊢
  obtain ⟨m, hmO⟩ : ∃ m, O.length = m := ⟨_, rfl⟩
  rw [hmO] at hll hon1 hon2 ⊢
  obtain ⟨t, ht⟩ : ∃ t, leastN O m = t := ⟨_, rfl⟩
  rw [ht] at hll ⊢
  clear hon hlen hnm
  have ht' : t < m := by omega
  clear hll
  have Hbo := Lib.hid hbo; clear hbo
  have H1 := Lib.hid h1; clear h1
  have HO := Lib.hid hO; clear hO
  have HmO := Lib.hid hmO; clear hmO
  have Ht := Lib.hid ht; clear ht
  have Hb := Lib.hid hb; clear hb
  go_enter Tryz.func82, Tryz.ntmps82
  go_wp2_with (first | (go_at_call 110; refine (l06Once_c A n c ps w h hm Hb.out H1.out).mono ?_; rintro e w1 ⟨A1, m1, c1, rfl, hm1, s1, hb1⟩; obtain rfl : m1 = m := (by rw [hm1, HO.out, HmO.out]); clear hm1; rw [HO.out] at s1) | (go_at_call 112; refine (l06Least_c A1 m1 c1 O w1 s1 hon1 (by omega)).mono ?_; rw [Ht.out]; rintro e w2 ⟨rfl, hb2⟩) | (go_at_call 111; refine (l06Join_c A1 m1 c1 O t w2 (s1.next hb2) hon1 (by omega) ht' Hbo.out).mono ?_; rintro e w3 ⟨v, rfl, ho, hb3⟩))
  go_ret
  have hb12 := hb1.trans (hb2.mono hb1.size)
  exact ⟨_, rfl, own_base ho hb12.size, hb12.trans (hb3.mono hb12.size)⟩
end Go.Proofs.YtejndpoebohhaaaGreat
/- Two rhythms that are alike, on the reference's side. -/
namespace Go.Proofs.YtejndpoebohhaaaGreat
open Go.RowKit
theorem close1_at {a b : List (Int × Int)} {i j : Nat} {x y : Int × Int} (tol : Int) (hx : a[i]? = some x) (hy : b[j]? = some y) : close1 a b i j tol = (decide (x.1 = y.1) && inB (x.2 - y.2) (-tol) tol) := by rw [close1, hx, hy]; rfl
theorem turn_no {a b : List (Int × Int)} {tol : Int} {f i : Nat} (hi : i < a.length) (h : close1 a b i ((f + i) % b.length) tol = false) : turnB a b tol f = false := allB_no hi h
set_option maxRecDepth 100000 in
set_option maxHeartbeats 4000000 in
theorem l18Close_c (A1 : Option Addr) (n1 c1 : Nat) (ps : List Ph) (A2 : Option Addr) (n2 c2 : Nat) (qs : List Ph) (tol : Int) (w : World) (h1 : Sl w w.heap.size 2 A1 n1 (ps.flatMap Ph.cells)) (h2 : Sl w w.heap.size 2 A2 n2 (qs.flatMap Ph.cells))
    (m1 : n1 ≤ 200) (m2 : n2 ≤ 200) (hb1 : ∀ p ∈ ps, 0 ≤ p.len ∧ p.len ≤ 600) (hb2 : ∀ p ∈ qs, 0 ≤ p.len ∧ p.len ≤ 600) (l1 : 1 ≤ (tenC ps).length) (l2 : 1 ≤ (tenC qs).length) (t0 : 0 ≤ tol) (t1 : tol ≤ 1000) :
    Calls Tryz.prog 63 #[.slice A1 n1 c1, .slice A2 n2 c2, .int .i64 tol] w fun e w' => e = .returned (.bool (closeB (normP (tenC ps)) (normP (tenC qs)) tol)) ∧ Below w.heap.size w w' := by
  have k1 := tenC_len hb1
  have k2 := tenC_len hb2
  rw [h1.len Ph.cells 2 Ph.cells_len (by omega)] at k1
  rw [h2.len Ph.cells 2 Ph.cells_len (by omega)] at k2
  have g1 := norm_bd (B := tenC ps)
  have g2 := norm_bd (B := tenC qs)
  have u1 := normP_len (tenC ps) l1
  have u2 := normP_len (tenC qs) l2
  have ba : ∀ d ∈ normP (tenC ps), (0 ≤ d.1 ∧ d.1 ≤ 255) ∧ 1 ≤ d.2 ∧ d.2 ≤ 1000000 := fun d hd => ⟨tenC_bd ps _ (g1 d hd).1, (g1 d hd).2.1, by have := (g1 d hd).2.2; omega⟩
  have bb : ∀ d ∈ normP (tenC qs), (0 ≤ d.1 ∧ d.1 ≤ 255) ∧ 1 ≤ d.2 ∧ d.2 ≤ 1000000 := fun d hd => ⟨tenC_bd qs _ (g2 d hd).1, (g2 d hd).2.1, by have := (g2 d hd).2.2; omega⟩
  have e1 : 1 ≤ (normP (tenC ps)).length ∧ (normP (tenC ps)).length ≤ 200000 := by omega
  have e2 : 1 ≤ (normP (tenC qs)).length ∧ (normP (tenC qs)).length ≤ 200000 := by omega
  clear g1 g2 u1 u2 k1 k2
  obtain ⟨a, ha⟩ : ∃ a, normP (tenC ps) = a := ⟨_, rfl⟩
  obtain ⟨b, hb⟩ : ∃ b, normP (tenC qs) = b := ⟨_, rfl⟩
  rw [ha] at ba e1
  rw [hb] at bb e2
  rw [ha, hb]
  obtain ⟨na, hna⟩ : ∃ n, a.length = n := ⟨_, rfl⟩
  obtain ⟨nb, hnb⟩ : ∃ n, b.length = n := ⟨_, rfl⟩
  rw [hna] at e1
  rw [hnb] at e2
  obtain ⟨e3, e4⟩ := e1
  obtain ⟨e5, e6⟩ := e2
  have Hb1 := Lib.hid hb1; clear hb1
  have Hb2 := Lib.hid hb2; clear hb2
  have L1 := Lib.hid l1; clear l1
  have L2 := Lib.hid l2; clear l2
  have Ba := Lib.hid ba; clear ba
  have Bb := Lib.hid bb; clear bb
  have Ha := Lib.hid ha; clear ha
  have Hb := Lib.hid hb; clear hb
  have Hna := Lib.hid hna; clear hna
  have Hnb := Lib.hid hnb; clear hnb
  have hN1 := l06Normal_c A1 n1 c1 ps w h1 m1 Hb1.out L1.out
  rw [Ha.out, Hna.out] at hN1
  have hN2 : ∀ w1, Below w.heap.size w w1 → Calls Tryz.prog 82 #[.slice A2 n2 c2] w1 fun e w' => ∃ v, e = .returned v ∧ w'.ownsRow w1.heap.size 109 2 v nb (runC b) ∧ Below w1.heap.size w1 w' := fun w1 hw => by
    have := l06Normal_c A2 n2 c2 qs w1 (h2.next hw) m2 Hb2.out L2.out
    rwa [Hb.out, Hnb.out] at this
  have HN1 := Lib.hid hN1; clear hN1
  have HN2 := Lib.hid hN2; clear hN2
  clear h1 h2
  go_enter Tryz.func63, Tryz.ntmps63
  go_wp2_with fail
  refine HN1.out.mono ?_
  rintro e w1 ⟨v1, rfl, ho1, hw1⟩
  obtain ⟨Aa, ca, rfl⟩ := own_slice ho1
  go_wp2_with fail
  refine (HN2.out w1 hw1).mono ?_
  rintro e w2 ⟨v2, rfl, ho2, hw2⟩
  obtain ⟨Ab, cb, rfl⟩ := own_slice ho2
  have HA : Hid (∀ wr i, Below w2.heap.size w2 wr → i < na → ∃ bl off d, Aa = some ⟨bl, off, none⟩ ∧ bl < w2.heap.size ∧ a[i]? = some d ∧ wr.cell? ⟨bl, off + i * 2, none⟩ = some (.string (nameC d.1)) ∧ wr.cell? ⟨bl, off + i * 2 + 1, none⟩ = some (.int .i64 d.2)) := Lib.hid fun wr i hb hi => ((Sl.of_own ho1).next hw2 |>.below hb).run i hi
  have HB : Hid (∀ wr i, Below w2.heap.size w2 wr → i < nb → ∃ bl off d, Ab = some ⟨bl, off, none⟩ ∧ bl < w2.heap.size ∧ b[i]? = some d ∧ wr.cell? ⟨bl, off + i * 2, none⟩ = some (.string (nameC d.1)) ∧ wr.cell? ⟨bl, off + i * 2 + 1, none⟩ = some (.int .i64 d.2)) := Lib.hid fun wr i hb hi => ((Sl.of_own ho2).below hb).run i hi
  have hw12 := hw1.trans (hw2.mono hw1.size)
  clear ho1 ho2 hw1 hw2
  by_cases hlen : na = nb
  · subst hlen
    have hcl : closeB a b tol = (List.range na).any (turnB a b tol) := by rw [closeB, Hna.out, Hnb.out, decide_eq_true rfl]; rfl
    have Hcl := Lib.hid hcl; clear hcl
    go_wp2_with fail
    go_loopw [9] (fun i wr => ∃ f : Nat, f ≤ na ∧ i = .int .i64 f ∧ Hid (∀ r, r < f → turnB a b tol r = false) ∧ Below w2.heap.size w2 wr) (fun i _ => na - (intOf i).toNat)
    case atStart => exact ⟨0, Nat.zero_le _, rfl, Lib.hid (fun r hr => absurd hr (by omega)), Below.refl _ _⟩
    case round =>
      obtain ⟨f, hf, rfl, Hno, hbw⟩ := hrel
      have f0 : (0 : Int) ≤ (f : Int) := by omega
      by_cases hfn : f < na
      · have f1 : (f : Int) < (na : Int) := by omega
        go_wp2_with fail
        go_loopw [10, 11] (fun sv i wr2 => ∃ (j : Nat) (s : Bool), j ≤ na ∧ sv = .bool s ∧ i = .int .i64 j ∧ Hid (s = true → ∀ r, r < j → close1 a b r ((f + r) % na) tol = true) ∧ Hid (s = false → turnB a b tol f = false) ∧ Below w2.heap.size w2 wr2) (fun _ i _ => na - (intOf i).toNat)
        case atStart => exact ⟨0, true, Nat.zero_le _, rfl, rfl, Lib.hid (fun _ r hr => absurd hr (by omega)), Lib.hid (fun h => nomatch h), hbw⟩
        case round =>
          clear hbw
          obtain ⟨j, s, hj, rfl, rfl, Hs, Hf, hbw⟩ := hrel
          have j0 : (0 : Int) ≤ (j : Int) := by omega
          cases s
          · by_cases hjn : j < na
            · have j1 : (j : Int) < (na : Int) := by omega
              have htf := Hf.out rfl
              have Htf := Lib.hid htf; clear htf
              go_wp2_with fail
              go_roundw
              case rel => exact ⟨f + 1, by omega, by go_num, Lib.hid (fun r hr => by
                rcases Nat.lt_or_ge r f with h2 | h2
                · exact Hno.out r h2
                · obtain rfl : r = f := by omega
                  exact Htf.out), hbw⟩
              case measure => simp [intOf]; omega
            · have j1 : ¬ (j : Int) < (na : Int) := by omega
              have htf := Hf.out rfl
              have Htf := Lib.hid htf; clear htf
              go_wp2_with fail
              go_roundw
              case rel => exact ⟨f + 1, by omega, by go_num, Lib.hid (fun r hr => by
                rcases Nat.lt_or_ge r f with h2 | h2
                · exact Hno.out r h2
                · obtain rfl : r = f := by omega
                  exact Htf.out), hbw⟩
              case measure => simp [intOf]; omega
          · by_cases hjn : j < na
            · have j1 : (j : Int) < (na : Int) := by omega
              have m1 : (f + j) % na < na := Nat.mod_lt _ (by omega)
              have em1 : ((f : Int) + (j : Int)) % (na : Int) = (((f + j) % na : Nat) : Int) := by push_cast; rfl
              obtain ⟨r1, hr1⟩ : ∃ r, (f + j) % na = r := ⟨_, rfl⟩
              rw [hr1] at em1 m1
              have i2 : (0 : Int) ≤ (r1 : Int) := by omega
              have i3 : (r1 : Int) < (na : Int) := by omega
              obtain ⟨ba, offa, ⟨p1, p2⟩, rfl, hba, hpa, ca0, ca1⟩ := HA.out wr j hbw hjn
              obtain ⟨bb, offb, ⟨q1, q2⟩, rfl, hbb, hqb, cb0, cb1⟩ := HB.out wr r1 hbw m1
              obtain ⟨pb0, pb1, pb2⟩ := Ba.out _ (List.mem_of_getElem? hpa)
              obtain ⟨qb0, qb1, qb2⟩ := Bb.out _ (List.mem_of_getElem? hqb)
              dsimp only at pb0 pb1 pb2 qb0 qb1 qb2
              have hcl1 := close1_at tol hpa hqb
              dsimp only at hcl1 ca0 ca1 cb0 cb1
              have hbX : Below wr.heap.size wr (wr.alloc (.cells #[.string (nameC q1), .int .i64 q2] 109)) := (Below.refl _ _).alloc (Nat.le_refl _) _
              have hoX := lit_own wr w2.heap.size 109 #[.string (nameC q1), .int .i64 q2] 1 2 hbw.size (by decide) rfl
              have hbx := hbw.trans (hbX.mono hbw.size)
              have a0 := (keepC hbX ba (Nat.lt_of_lt_of_le hba hbw.size) _).trans ca0
              have a1 := (keepC hbX ba (Nat.lt_of_lt_of_le hba hbw.size) _).trans ca1
              obtain ⟨wx, hwx⟩ : ∃ wx, wr.alloc (.cells #[.string (nameC q1), .int .i64 q2] 109) = wx := ⟨_, rfl⟩
              obtain ⟨g, hg⟩ : ∃ g, wr.heap.size = g := ⟨_, rfl⟩
              rw [hwx] at hoX hbx a0 a1
              rw [hg] at hoX
              have x0 := hoX.cellAt 0 (by omega)
              have x1 := hoX.cellAt 1 (by omega)
              simp only [List.getElem?_cons_zero, List.getElem?_cons_succ] at x0 x1
              have hbq := name_beq pb0 qb0
              have e1 : IntKind.i64.wrap (p2 - q2) = p2 - q2 := IntWalk.i64_in _ (by omega)
              have e2 : IntKind.i64.wrap (-tol) = -tol := IntWalk.i64_in _ (by omega)
              obtain ⟨I, hI⟩ : ∃ I, inB (p2 - q2) (-tol) tol = I := ⟨_, rfl⟩
              rw [hI] at hcl1
              have hIn : ∀ m, Calls Tryz.prog 25 #[.int .i64 (p2 - q2), .int .i64 (-tol), .int .i64 tol] (wx.drewN m) fun e w' => e = .returned (.bool I) ∧ wx.drewN m = w' := fun m => hI ▸ l00In_c _ _ _ _
              have HIn := Lib.hid hIn; clear hIn
              have HI := Lib.hid hI; clear hI
              have Hpa := Lib.hid hpa; clear hpa
              have Hqb := Lib.hid hqb; clear hqb
              have Hr1 := Lib.hid hr1; clear hr1
              clear hbX hoX hbw
              by_cases hpq : p1 = q1
              · rw [decide_eq_true hpq] at hbq hcl1
                have Hcl1 := Lib.hid hcl1; clear hcl1
                clear hpq
                go_wp2_with fail
                try rw [hwx]
                try rw [hg]
                clear hwx hg ca0 ca1 cb0 cb1
                go_quiet ((go_at_call 25; exact quiet_c (HIn.out _)))
                go_wp2_with fail
                go_roundw
                case rel =>
                  refine ⟨j + 1, I, by omega, rfl, by go_num, Lib.hid (fun e r hr => ?_), Lib.hid (fun e => ?_), below_drewN hbx _⟩
                  · rcases Nat.lt_or_ge r j with h2 | h2
                    · exact Hs.out trivial r h2
                    · obtain rfl : r = j := by omega
                      rw [Hr1.out]
                      exact (by rw [Hcl1.out]; simpa using e)
                  · refine turn_no (i := j) (by rw [Hna.out]; exact hjn) ?_
                    rw [Hnb.out, Hr1.out]
                    exact (by rw [Hcl1.out, e]; rfl)
                case measure => simp [intOf]; omega
              · rw [decide_eq_false hpq] at hbq hcl1
                have Hcl1 := Lib.hid hcl1; clear hcl1
                clear hpq
                go_wp2_with fail
                try rw [hwx]
                try rw [hg]
                clear hwx hg ca0 ca1 cb0 cb1
                go_quiet (fail)
                go_wp2_with fail
                go_roundw
                case rel =>
                  refine ⟨j + 1, false, by omega, rfl, by go_num, Lib.hid (fun e r hr => ?_), Lib.hid (fun e => ?_), below_drewN hbx _⟩
                  · rcases Nat.lt_or_ge r j with h2 | h2
                    · exact Hs.out trivial r h2
                    · obtain rfl : r = j := by omega
                      rw [Hr1.out]
                      exact (by cases e)
                  · refine turn_no (i := j) (by rw [Hna.out]; exact hjn) ?_
                    rw [Hnb.out, Hr1.out]
                    exact Hcl1.out
                case measure => simp [intOf]; omega
            · obtain rfl : j = na := by omega
              have htr : turnB a b tol f = true := by
                rw [turnB, allB_iff, Hna.out, Hnb.out]
                exact Hs.out rfl
              have hany : closeB a b tol = true := by rw [Hcl.out]; exact List.any_eq_true.2 ⟨f, List.mem_range.2 hfn, htr⟩
              have Hany := Lib.hid hany; clear hany
              have Htr := Lib.hid htr; clear htr
              go_wp2_with fail
              go_ret
              exact ⟨ret_eq (bool_eq Hany.out.symm), hw12.trans (hbw.mono hw12.size)⟩
      · obtain rfl : f = na := by omega
        have hany : closeB a b tol = false := by
          rw [Hcl.out, List.any_eq_false]
          intro r hr
          rw [Hno.out r (List.mem_range.1 hr)]; simp
        have Hany := Lib.hid hany; clear hany
        go_wp2_with fail
        go_ret
        exact ⟨ret_eq (bool_eq Hany.out.symm), hw12.trans (hbw.mono hw12.size)⟩
  · have hne : ((na : Int) != (nb : Int)) = true := by simp; omega
    have hcl : closeB a b tol = false := by rw [closeB, Hna.out, Hnb.out, decide_eq_false hlen]; rfl
    have Hcl := Lib.hid hcl; clear hcl
    go_wp2_with fail
    go_ret
    exact ⟨ret_eq (bool_eq Hcl.out.symm), hw12⟩
end Go.Proofs.YtejndpoebohhaaaGreat
