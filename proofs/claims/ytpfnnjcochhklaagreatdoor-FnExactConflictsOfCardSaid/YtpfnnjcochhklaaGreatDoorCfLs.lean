/- CfLs: several of my texts in one. -/
import Derived.Test.YtpfnnjcochhklaaGreatDoorOwnG
import Derived.Test.YtpfnnjcochhklaaGreatDoorOwnJ
import Derived.Test.YtpfnnjcochhklaaGreatDoorAidsG
import Derived.Test.YtpfnnjcochhklaaGreatDoorMrkG

/- Lists of aids of their own: both sides. -/
namespace Go.Proofs.YtpfnnjcochhklaaGreatDoor
open Go.RowKit
theorem AidNew.base {w : World} {b b' : Nat} {z : AidG} (h : AidNew w b z) (hb : b' ≤ b) : AidNew w b' z := ⟨own_base h.g hb, own_base h.s hb⟩
theorem AidNew.grown {w w' : World} {base base' : Nat} {z : AidG} {sz n : Nat} {v : Value} {xs : List Value} (h : AidNew w base z) (hu : w.ownsRow base' 56 sz v n xs) (hg : w.grownBy w' v.ownBlock) : AidNew w' base z :=
  ⟨own_grown h.g hg (own_ne h.g hu (by decide)), own_grown h.s hg (own_ne h.s hu (by decide))⟩
/-- One aid is appended. -/
theorem AidOwn.push {w w0 w6 : World} {base k : Nat} {v v6 : Value} {zs : List AidG} {z : AidG} (h : AidOwn w base v k zs) (hz : AidNew w base z) (hb : Below w.heap.size w w0) (hg : w0.grownBy w6 v.ownBlock)
    (ho : w6.ownsRow base 56 16 v6 (k + 1) (zs.flatMap AidG.cells ++ z.cells)) : AidOwn w6 base v6 (k + 1) (zs ++ [z]) := by
  have h0 := h.next hb
  refine ⟨by rw [List.flatMap_append]; simpa using ho, fun y hy => ?_⟩
  rcases List.mem_append.1 hy with h2 | h2
  · exact (h0.new y h2).grown h0.own hg
  · simp only [List.mem_singleton] at h2
    subst h2
    exact (hz.next hb).grown h0.own hg
set_option maxRecDepth 100000 in
set_option maxHeartbeats 2000000 in
theorem l12OwnAll_c (A : Option Addr) (n c : Nat) (zs : List AidG) (w : World) (h : AidSl w A n zs) (hm : n ≤ 1048576) :
    Calls Tryz.prog 42 #[.slice A n c] w fun e w' => ∃ A' c' zs', e = .returned (.slice A' n c') ∧ zs'.map AidG.a = zs.map AidG.a ∧ AidOwn w' w.heap.size (.slice A' n c') n zs' ∧ Below w.heap.size w w' := by
  obtain ⟨i0, hi, hz0, hz1, hz2⟩ := info_parts aidInfo
  have hl := h.len
  have hov := World.ownsRow_made (base := w.heap.size) (e := 56) (size := 16) w #[] 0 (Nat.le_refl _) (by simp [maxLen]) rfl
  have hbv : Below w.heap.size w (w.alloc (.cells #[] 56)) := (Below.refl _ _).alloc (Nat.le_refl _) _
  have Hl := Lib.hid hl; clear hl
  go_enter Tryz.func42, Tryz.ntmps42
  go_wp2_with fail
  go_loopw [3, 4] (fun o i wr => ∃ (k : Nat) (ys : List AidG), k ≤ n ∧ i = .int .i64 k ∧ Hid (ys.map AidG.a = (zs.map AidG.a).take k) ∧ AidOwn wr w.heap.size o k ys ∧ Below w.heap.size w wr) (fun _ i _ => n - (intOf i).toNat)
  case atStart => exact ⟨0, [], Nat.zero_le _, rfl, Lib.hid (by simp), ⟨hov, fun z hz => by cases hz⟩, hbv⟩
  case round =>
    clear hov hbv
    obtain ⟨k, ys, hk, rfl, Hys, hO, hbw⟩ := hrel
    obtain ⟨A3, c3, rfl⟩ := own_slice hO.own
    have k0 : (0 : Int) ≤ (k : Int) := by omega
    by_cases hlt : k < n
    · have k1 : (k : Int) < (n : Int) := by omega
      obtain ⟨b, off, z, rfl, hx, hzo, hp⟩ := (h.next hbw).get k hlt
      have hOw := l12Own_c b (off + k * 16) z wr hzo hp
      have e63 : k + 1 ≤ maxLen := by unfold maxLen; omega
      have e32 : (k + 1) * 208 ≤ 140737488355328 := by omega
      clear hp hzo
      have HOw := Lib.hid hOw; clear hOw
      have Hx := Lib.hid hx; clear hx
      have E63 := Lib.hid e63; clear e63
      have E32 := Lib.hid e32; clear e32
      have HO := Lib.hid hO; clear hO
      go_wp2_with fail
      refine HOw.out.mono ?_
      rintro e w2 ⟨z2, rfl, ha2, hN2, hb2⟩
      have HO2 := Lib.hid (HO.out.next hb2)
      have HN2 := Lib.hid (hN2.base hbw.size)
      have hb2w := hbw.trans (hb2.mono hbw.size)
      have hbA : Below w2.heap.size w2 (w2.alloc (.cells z2.cells.toArray 56)) := (Below.refl _ _).alloc (Nat.le_refl _) _
      have HS2 := Lib.hid (Sl.new w2 56 z2.cells 1 16 rfl)
      have HA2 := Lib.hid (HO2.out.own.alloc (.cells z2.cells.toArray 56))
      have HLE := Lib.hid (le_alloc hb2w.size (.cells z2.cells.toArray 56))
      clear hN2 HO
      have Ha2 := Lib.hid ha2; clear ha2
      go_wp2_with (at_builtin; refine wpl_append _ rfl (.tmp 12) (.tmp 17) _ rfl w.heap.size 56 i0 _ 16 208 Tryz.underlying24 hi hz0 hz1 hz2 rfl (by omega) _ k _ rfl HA2.out (w2.heap.size + 1) (some ⟨w2.heap.size, 0, none⟩) 1 1 z2.cells rfl HS2.out (aidg_one z2) E63.out E32.out HLE.out ?_; intro v6 w6 ho6 hg6 hat6)
      have HOn := HO2.out.push HN2.out hbA hg6 ho6
      have hb6 : Below w.heap.size w w6 := (hb2w.trans (hbA.mono hb2w.size)).grown hg6 HLE.out fun g hg => (HO2.out.own.lt g hg).1
      go_roundw
      case rel => exact ⟨k + 1, ys ++ [z2], by omega, by go_num, Lib.hid (by rw [List.map_append, Hys.out, List.take_add_one, List.getElem?_map, Hx.out]; simp [Ha2.out]), HOn, hb6⟩
      case measure => simp [intOf]; omega
    · obtain rfl : k = n := by omega
      go_wp2_with fail
      go_ret
      exact ⟨A3, c3, ys, rfl, by rw [Hys.out, List.take_of_length_le (by rw [List.length_map, Hl.out]; omega)], hO, hbw⟩
end Go.Proofs.YtpfnnjcochhklaaGreatDoor

/- Lists of aids whose groups and sectors lie in blocks of their own, each another. -/
namespace Go.Proofs.YtpfnnjcochhklaaGreatDoor
open Go.RowKit
def difV (v v' : Value) : Prop := v.ownBlock = none ∨ v.ownBlock ≠ v'.ownBlock
/-- Different aids of the list hold different blocks. -/
def AidDif (zs : List AidG) : Prop := ∀ (i j : Nat) (z z' : AidG), i ≠ j → zs[i]? = some z → zs[j]? = some z' → difV (.slice z.A z.n z.c) (.slice z'.A z'.n z'.c) ∧ difV (.slice z.B z.m z.d) (.slice z'.B z'.m z'.d)
theorem AidDif.nil : AidDif [] := fun i j z z' _ h => by simp at h
theorem difV_lt {v v' : Value} {B : Nat} (h : ∀ k, v.ownBlock = some k → k < B) (h' : ∀ k, v'.ownBlock = some k → B ≤ k) : difV v v' ∧ difV v' v := by
  constructor
  · cases hv : v.ownBlock with
    | none => exact .inl hv
    | some k =>
      refine .inr fun e => ?_
      have := h k hv
      have := h' k (by rw [← e]; exact hv)
      omega
  · cases hv : v'.ownBlock with
    | none => exact .inl hv
    | some k =>
      refine .inr fun e => ?_
      have := h' k hv
      have := h k (by rw [← e]; exact hv)
      omega
/-- One aid more, whose blocks lie above all those of the others. -/
theorem AidDif.push {w w' : World} {base : Nat} {zs : List AidG} {z : AidG} (h : AidDif zs) (ho : ∀ y ∈ zs, AidNew w base y) (hz : AidNew w' w.heap.size z) : AidDif (zs ++ [z]) := by
  have one : ∀ y ∈ zs, (difV (.slice y.A y.n y.c) (.slice z.A z.n z.c) ∧ difV (.slice y.B y.m y.d) (.slice z.B z.m z.d)) ∧ (difV (.slice z.A z.n z.c) (.slice y.A y.n y.c) ∧ difV (.slice z.B z.m z.d) (.slice y.B y.m y.d)) := fun y hy => by
    have a := difV_lt (fun k hk => ((ho y hy).g.lt k hk).2) (fun k hk => (hz.g.lt k hk).1)
    have b := difV_lt (fun k hk => ((ho y hy).s.lt k hk).2) (fun k hk => (hz.s.lt k hk).1)
    exact ⟨⟨a.1, b.1⟩, ⟨a.2, b.2⟩⟩
  intro i j y y' hij hi hj
  rcases Nat.lt_or_ge i zs.length with h1 | h1
  · rw [List.getElem?_append_left h1] at hi
    rcases Nat.lt_or_ge j zs.length with h2 | h2
    · rw [List.getElem?_append_left h2] at hj
      exact h i j y y' hij hi hj
    · rw [List.getElem?_append_right h2] at hj
      obtain ⟨q, hq⟩ : ∃ q, j - zs.length = q := ⟨_, rfl⟩
      rw [hq] at hj
      cases q with
      | succ q => simp at hj
      | zero =>
        simp only [List.getElem?_cons_zero, Option.some.injEq] at hj
        subst hj
        exact (one y (List.mem_of_getElem? hi)).1
  · rw [List.getElem?_append_right h1] at hi
    obtain ⟨q, hq⟩ : ∃ q, i - zs.length = q := ⟨_, rfl⟩
    rw [hq] at hi
    cases q with
    | succ q => simp at hi
    | zero =>
      simp only [List.getElem?_cons_zero, Option.some.injEq] at hi
      subst hi
      rcases Nat.lt_or_ge j zs.length with h2 | h2
      · rw [List.getElem?_append_left h2] at hj
        exact (one y' (List.mem_of_getElem? hj)).2
      · rw [List.getElem?_append_right h2] at hj
        obtain ⟨q', hq'⟩ : ∃ q, j - zs.length = q := ⟨_, rfl⟩
        rw [hq'] at hj
        cases q' with
        | succ q => simp at hj
        | zero => omega
/-- One aid is written anew. -/
theorem AidDif.set {w w' : World} {base : Nat} {zs : List AidG} {z : AidG} {k : Nat} (h : AidDif zs) (ho : ∀ y ∈ zs, AidNew w base y) (hz : AidNew w' w.heap.size z) : AidDif (zs.set k z) := by
  have one : ∀ y ∈ zs, (difV (.slice y.A y.n y.c) (.slice z.A z.n z.c) ∧ difV (.slice y.B y.m y.d) (.slice z.B z.m z.d)) ∧ (difV (.slice z.A z.n z.c) (.slice y.A y.n y.c) ∧ difV (.slice z.B z.m z.d) (.slice y.B y.m y.d)) := fun y hy => by
    have a := difV_lt (fun k hk => ((ho y hy).g.lt k hk).2) (fun k hk => (hz.g.lt k hk).1)
    have b := difV_lt (fun k hk => ((ho y hy).s.lt k hk).2) (fun k hk => (hz.s.lt k hk).1)
    exact ⟨⟨a.1, b.1⟩, ⟨a.2, b.2⟩⟩
  intro i j y y' hij hi hj
  by_cases hik : i = k
  · subst hik
    have hil : i < zs.length := by have := (List.getElem?_eq_some_iff.1 hi).1; simpa using this
    rw [List.getElem?_set_self hil] at hi
    rw [List.getElem?_set_ne hij] at hj
    injection hi with hi
    subst hi
    exact (one y' (List.mem_of_getElem? hj)).2
  · rw [List.getElem?_set_ne (Ne.symm hik)] at hi
    by_cases hjk : j = k
    · subst hjk
      have hjl : j < zs.length := by have := (List.getElem?_eq_some_iff.1 hj).1; simpa using this
      rw [List.getElem?_set_self hjl] at hj
      injection hj with hj
      subst hj
      exact (one y (List.mem_of_getElem? hi)).1
    · rw [List.getElem?_set_ne (Ne.symm hjk)] at hj
      exact h i j y y' hij hi hj
end Go.Proofs.YtpfnnjcochhklaaGreatDoor

/- A list of aids that holds the marks. -/
namespace Go.Proofs.YtpfnnjcochhklaaGreatDoor
open Go.RowKit
def mkA (z : AidG) (K : Nat) : AidG := ⟨⟨(K : Nat), markT (K + 1), (K + 2 : Nat), (K + 3 : Nat), (K + 4 : Nat), ⟨(K + 5 : Nat), markT (K + 6), markT (K + 7), markT (K + 8)⟩, ⟨(K + 9 : Nat), markInts (K + 10) z.n, markT (K + 10 + z.n), markT (K + 10 + z.n + 1), (K + 10 + z.n + 1 + 1 : Nat)⟩, markSecs (K + 10 + z.n + 1 + 1 + 1) z.m, (K + 10 + z.n + 1 + 1 + 1 + 3 * z.m : Nat)⟩, z.A, z.c, z.B, z.d⟩
def mkNext (z : AidG) (K : Nat) : Nat := K + 10 + z.n + 1 + 1 + 1 + 3 * z.m + 1
def mkL : List AidG → Nat → List AidG
  | [], _ => []
  | z :: r, K => mkA z K :: mkL r (mkNext z K)
def mkK : List AidG → Nat → Nat
  | [], K => K
  | z :: r, K => mkK r (mkNext z K)
theorem mkL_len : ∀ (zs : List AidG) (K : Nat), (mkL zs K).length = zs.length
  | [], _ => rfl
  | z :: r, K => by rw [mkL, List.length_cons, List.length_cons, mkL_len r]
theorem mkL_at : ∀ (zs : List AidG) (K k : Nat) (z : AidG), zs[k]? = some z → (mkL zs K)[k]? = some (mkA z (mkK (zs.take k) K))
  | [], K, k, z, h => by simp at h
  | y :: r, K, 0, z, h => by
    simp only [List.getElem?_cons_zero, Option.some.injEq] at h
    subst h; rfl
  | y :: r, K, k + 1, z, h => by
    simp only [List.getElem?_cons_succ] at h
    rw [mkL, List.getElem?_cons_succ, List.take_succ_cons, mkK]
    exact mkL_at r _ k z h
theorem mkK_next : ∀ (zs : List AidG) (K k : Nat) (z : AidG), zs[k]? = some z → mkK (zs.take (k + 1)) K = mkNext z (mkK (zs.take k) K)
  | [], K, k, z, h => by simp at h
  | y :: r, K, 0, z, h => by
    simp only [List.getElem?_cons_zero, Option.some.injEq] at h
    subst h; rfl
  | y :: r, K, k + 1, z, h => by
    simp only [List.getElem?_cons_succ] at h
    rw [List.take_succ_cons, mkK, List.take_succ_cons, mkK]
    exact mkK_next r _ k z h
theorem mkA_n (z : AidG) (K : Nat) : (mkA z K).n = z.n := by
  show (markInts (K + 10) z.n).length = z.n
  simp [markInts]
theorem mkA_m (z : AidG) (K : Nat) : (mkA z K).m = z.m := by
  show (markSecs (K + 10 + z.n + 1 + 1 + 1) z.m).length = z.m
  simp [markSecs]
end Go.Proofs.YtpfnnjcochhklaaGreatDoor

/- The marks over a list of aids of their own: what they leave (plain part). -/
namespace Go.Proofs.YtpfnnjcochhklaaGreatDoor
open Go.RowKit
theorem row16 {ys cs : List Value} {o : Nat} (hl : cs.length = 16) (ho : o + 16 ≤ ys.length) (h : ∀ i, i < 16 → ys[o + i]? = cs[i]?) : ys.take (o + 16) = ys.take o ++ cs := by
  apply List.ext_getElem?
  intro i
  rw [List.getElem?_append, List.length_take, Nat.min_eq_left (by omega)]
  rcases Nat.lt_or_ge i o with h1 | h1
  · rw [if_pos h1, List.getElem?_take, if_pos (by omega), List.getElem?_take, if_pos h1]
  · rw [if_neg (by omega)]
    rcases Nat.lt_or_ge i (o + 16) with h2 | h2
    · rw [List.getElem?_take, if_pos h2]
      have := h (i - o) (by omega)
      rwa [show o + (i - o) = i by omega] at this
    · rw [List.getElem?_take, if_neg (by omega), List.getElem?_eq_none (by omega)]
/-- What has been written so far into one aid's sixteen cells. -/
def Got (ys : List Value) (o : Nat) (L : List (Nat × Value)) : Prop := ∀ p ∈ L, ys[o + p.1]? = some p.2
theorem Got.store {ys : List Value} {o i : Nat} {u : Value} {L : List (Nat × Value)} (h : Got ys o L) (hi : o + i < ys.length) (hn : ∀ p ∈ L, p.1 ≠ i) : Got (ys.set (o + i) u) o ((i, u) :: L) := by
  intro p hp
  rcases List.mem_cons.1 hp with rfl | h2
  · rw [List.getElem?_set_self hi]
  · rw [List.getElem?_set_ne (by have := hn p h2; omega)]
    exact h p h2
theorem mkL_take (zs : List AidG) (K k : Nat) (z : AidG) (h : zs[k]? = some z) : ((mkL zs K).take (k + 1)).flatMap AidG.cells = ((mkL zs K).take k).flatMap AidG.cells ++ (mkA z (mkK (zs.take k) K)).cells := by
  rw [List.take_add_one, mkL_at zs K k z h, List.flatMap_append]; simp
end Go.Proofs.YtpfnnjcochhklaaGreatDoor

/- The marks over a list of aids of their own: what they leave. -/
namespace Go.Proofs.YtpfnnjcochhklaaGreatDoor
open Go.RowKit
/-- Marked up to place k. -/
def mkT (zs : List AidG) (k : Nat) : List AidG := (mkL zs 1).take k ++ zs.drop k
theorem mkT_zero (zs : List AidG) : mkT zs 0 = zs := by simp [mkT]
theorem mkT_all (zs : List AidG) (k : Nat) (h : zs.length ≤ k) : mkT zs k = mkL zs 1 := by
  unfold mkT
  rw [List.take_of_length_le (by rw [mkL_len]; exact h), List.drop_eq_nil_of_le h, List.append_nil]
theorem mkT_len (zs : List AidG) (k : Nat) : (mkT zs k).length = zs.length := by
  unfold mkT
  rw [List.length_append, List.length_take, List.length_drop, mkL_len]; omega
theorem mkT_at {zs : List AidG} {k : Nat} {z : AidG} (h : zs[k]? = some z) : (mkT zs k)[k]? = some z := by
  have hk : k < zs.length := (List.getElem?_eq_some_iff.1 h).1
  unfold mkT
  rw [List.getElem?_append_right (by rw [List.length_take, mkL_len]; omega), List.length_take, mkL_len, List.getElem?_drop, show k + (k - min k zs.length) = k by omega]
  exact h
theorem mkT_next {zs : List AidG} {k : Nat} {z : AidG} (h : zs[k]? = some z) : (mkT zs k).set k (mkA z (mkK (zs.take k) 1)) = mkT zs (k + 1) := by
  have hk : k < zs.length := (List.getElem?_eq_some_iff.1 h).1
  have hd : zs.drop k = z :: zs.drop (k + 1) := by
    rw [List.drop_eq_getElem_cons hk]
    have := (List.getElem?_eq_some_iff.1 h).2
    rw [this]
  unfold mkT
  rw [List.take_add_one, mkL_at zs 1 k z h, hd, List.set_append_right _ _ (by rw [List.length_take, mkL_len]; omega), List.length_take, mkL_len, show k - min k zs.length = 0 by omega]
  simp
abbrev AidG.kk (z : AidG) : Option Addr × Nat × Nat × Option Addr × Nat × Nat := (z.A, z.n, z.c, z.B, z.m, z.d)
theorem mkA_kk (z : AidG) (K : Nat) : (mkA z K).kk = z.kk := by
  show (z.A, (mkA z K).n, z.c, z.B, (mkA z K).m, z.d) = _
  rw [mkA_n, mkA_m]
theorem mkL_kk : ∀ (zs : List AidG) (K : Nat), (mkL zs K).map AidG.kk = zs.map AidG.kk
  | [], _ => rfl
  | z :: r, K => by rw [mkL, List.map_cons, List.map_cons, mkA_kk, mkL_kk r]
theorem mkT_kk (zs : List AidG) (k : Nat) : (mkT zs k).map AidG.kk = zs.map AidG.kk := by
  unfold mkT
  rw [List.map_append, List.map_take, mkL_kk, List.map_drop, List.take_append_drop]
theorem AidDif.same {l l' : List AidG} (h : AidDif l) (e : l'.map AidG.kk = l.map AidG.kk) : AidDif l' := by
  have at_ : ∀ (i : Nat) (z : AidG), l'[i]? = some z → ∃ y, l[i]? = some y ∧ Value.slice y.A y.n y.c = .slice z.A z.n z.c ∧ Value.slice y.B y.m y.d = .slice z.B z.m z.d := fun i z hi => by
    have h1 : (l'.map AidG.kk)[i]? = some z.kk := by rw [List.getElem?_map, hi]; rfl
    rw [e, List.getElem?_map] at h1
    cases hl : l[i]? with
    | none => rw [hl] at h1; simp at h1
    | some y =>
      rw [hl] at h1
      have h2 : y.kk = z.kk := Option.some.inj h1
      simp only [AidG.kk, Prod.mk.injEq] at h2
      obtain ⟨a1, a2, a3, a4, a5, a6⟩ := h2
      exact ⟨y, rfl, by rw [a1, a2, a3], by rw [a4, a5, a6]⟩
  intro i j z z' hij hi hj
  obtain ⟨y, hy, e1, e2⟩ := at_ i z hi
  obtain ⟨y', hy', e3, e4⟩ := at_ j z' hj
  have := h i j y y' hij hy hy'
  rwa [e1, e2, e3, e4] at this
/-- What the marks have done so far in one round. -/
structure ANk (w0 w : World) (base g n c k : Nat) (z : AidG) (l : List AidG) (us vs : List Value) (L : List (Nat × Value)) : Prop where
  row : ∃ ys, w.ownsRow base 56 16 (.slice (some ⟨g, 0, none⟩) n c) n ys ∧ Got ys (k * 16) L ∧ ys.take (k * 16) = (l.flatMap AidG.cells).take (k * 16) ∧ ys.drop (k * 16 + 16) = (l.flatMap AidG.cells).drop (k * 16 + 16)
  gr : w.ownsRow base 2 1 (.slice z.A z.n z.c) z.n us
  se : w.ownsRow base 94 3 (.slice z.B z.m z.d) z.m vs
  oth : ∀ j y, j ≠ k → l[j]? = some y → AidNew w base y
  dif : ∀ j y, j ≠ k → l[j]? = some y → difV (.slice y.A y.n y.c) (.slice z.A z.n z.c) ∧ difV (.slice y.B y.m y.d) (.slice z.B z.m z.d)
  bel : Below base w0 w
  le : base ≤ w0.heap.size
  hk : k < n
section
variable {w0 w w' : World} {base g n c k : Nat} {z : AidG} {l : List AidG} {us vs : List Value} {L : List (Nat × Value)}
theorem ANk.start (h : AidOwn w base (.slice (some ⟨g, 0, none⟩) n c) n l) (hd : AidDif l) (hz : l[k]? = some z) (hb : Below base w0 w) (hl : base ≤ w0.heap.size) (hk : k < n) :
    ANk w0 w base g n c k z l (z.a.ch.gs.flatMap intC) (z.a.secs.flatMap Sec.cells) [(10, .slice z.A z.n z.c), (14, .slice z.B z.m z.d)] :=
  ⟨⟨_, h.own, fun p hp => by
      rcases List.mem_cons.1 hp with rfl | hp
      · rw [flat_at AidG.cells 16 AidG.cells_len l k 10 z hz (by decide)]; rfl
      · obtain rfl := List.mem_singleton.1 hp
        rw [flat_at AidG.cells 16 AidG.cells_len l k 14 z hz (by decide)]; rfl, rfl, rfl⟩,
    (h.new z (List.mem_of_getElem? hz)).g, (h.new z (List.mem_of_getElem? hz)).s, fun j y _ hy => h.new y (List.mem_of_getElem? hy), fun j y hj hy => hd j k y z hj hy hz, hb, hl, hk⟩
theorem ANk.next (h : ANk w0 w base g n c k z l us vs L) (hb : Below w.heap.size w w') : ANk w0 w' base g n c k z l us vs L := by
  obtain ⟨ys, h1, h2⟩ := h.row
  exact ⟨⟨ys, own_next h1 hb, h2⟩, own_next h.gr hb, own_next h.se hb, fun j y hj hy => (h.oth j y hj hy).next hb, h.dif, h.bel.trans (hb.mono (Nat.le_trans h.le h.bel.size)), h.le, h.hk⟩
theorem ANk.store (h : ANk w0 w base g n c k z l us vs L) (i : Nat) (u : Value) (hi : i < 16) (hn : ∀ p ∈ L, p.1 ≠ i) : ANk w0 (w.setCell ⟨g, k * 16 + i, none⟩ u) base g n c k z l us vs ((i, u) :: L) := by
  obtain ⟨ys, h1, h2, h3, h4⟩ := h.row
  have s := h1.stored (k * 16 + i) u
  have hk := h.hk
  refine ⟨⟨_, s.1, h2.store (by rw [h1.1]; omega) hn, ?_, by rw [List.drop_set, if_pos (by omega)]; exact h4⟩, own_grown h.gr s.2 (own_ne h.gr h1 (by decide)), own_grown h.se s.2 (own_ne h.se h1 (by decide)),
    fun j y hj hy => ⟨own_grown (h.oth j y hj hy).g s.2 (own_ne (h.oth j y hj hy).g h1 (by decide)), own_grown (h.oth j y hj hy).s s.2 (own_ne (h.oth j y hj hy).s h1 (by decide))⟩, h.dif, h.bel.grown s.2 (Nat.le_trans h.le h.bel.size) (fun q hq => (h1.lt q hq).1), h.le, hk⟩
  rw [List.take_set_of_le (by omega)]; exact h3
theorem ANk.y (h : ANk w0 w base g n c k z l us vs L) (i : Nat) (hi : i < 16) : ∃ v, w.cell? ⟨g, k * 16 + i, none⟩ = some v := by
  obtain ⟨ys, h1, _⟩ := h.row
  have hk := h.hk
  exact own_cell h1 (k * 16 + i) (by omega)
theorem ANk.fz (h : ANk w0 w base g n c k z l us vs L) : ∀ j, w.frozen? ⟨g, j, none⟩ = false := by
  obtain ⟨ys, h1, _⟩ := h.row
  exact h1.frozenAt
theorem ANk.at (h : ANk w0 w base g n c k z l us vs L) (i : Nat) (u : Value) (hi : i < 16) (hp : (i, u) ∈ L) : w.cell? ⟨g, k * 16 + i, none⟩ = some u := by
  obtain ⟨ys, h1, h2, _⟩ := h.row
  have hk := h.hk
  exact (h1.cellAt _ (by omega)).trans (h2 _ hp)
theorem ANk.markG {us' : List Value} (h : ANk w0 w base g n c k z l us vs L) (hu : w'.ownsRow base 2 1 (.slice z.A z.n z.c) z.n us') (hg : w.grownBy w' (Value.slice z.A z.n z.c).ownBlock) : ANk w0 w' base g n c k z l us' vs L := by
  obtain ⟨ys, h1, h2⟩ := h.row
  exact ⟨⟨ys, own_grown h1 hg (own_ne h1 h.gr (by decide)), h2⟩, hu, own_grown h.se hg (own_ne h.se h.gr (by decide)), fun j y hj hy => ⟨own_grown (h.oth j y hj hy).g hg (h.dif j y hj hy).1, own_grown (h.oth j y hj hy).s hg (own_ne (h.oth j y hj hy).s h.gr (by decide))⟩, h.dif,
    h.bel.grown hg (Nat.le_trans h.le h.bel.size) (fun q hq => (h.gr.lt q hq).1), h.le, h.hk⟩
theorem ANk.markS {vs' : List Value} (h : ANk w0 w base g n c k z l us vs L) (hu : w'.ownsRow base 94 3 (.slice z.B z.m z.d) z.m vs') (hg : w.grownBy w' (Value.slice z.B z.m z.d).ownBlock) : ANk w0 w' base g n c k z l us vs' L := by
  obtain ⟨ys, h1, h2⟩ := h.row
  exact ⟨⟨ys, own_grown h1 hg (own_ne h1 h.se (by decide)), h2⟩, own_grown h.gr hg (own_ne h.gr h.se (by decide)), hu, fun j y hj hy => ⟨own_grown (h.oth j y hj hy).g hg (own_ne (h.oth j y hj hy).g h.se (by decide)), own_grown (h.oth j y hj hy).s hg (h.dif j y hj hy).2⟩, h.dif,
    h.bel.grown hg (Nat.le_trans h.le h.bel.size) (fun q hq => (h.se.lt q hq).1), h.le, h.hk⟩
theorem mk_got {ys : List Value} {o K : Nat} {z : AidG} (h : Got ys o [(15, .int .i64 ((K + 10 + z.n + 1 + 1 + 1 + 3 * z.m : Nat) : Int)), (13, .int .i64 ((K + 10 + z.n + 1 + 1 : Nat) : Int)), (12, .string (markT (K + 10 + z.n + 1))), (11, .string (markT (K + 10 + z.n))), (9, .int .i64 ((K + 9 : Nat) : Int)), (8, .string (markT (K + 8))), (7, .string (markT (K + 7))), (6, .string (markT (K + 6))), (5, .int .i64 ((K + 5 : Nat) : Int)), (4, .int .i64 ((K + 4 : Nat) : Int)), (3, .int .i64 ((K + 3 : Nat) : Int)), (2, .int .i64 ((K + 2 : Nat) : Int)), (1, .string (markT (K + 1))), (0, .int .i64 (K : Int)), (10, .slice z.A z.n z.c), (14, .slice z.B z.m z.d)]) :
    ∀ i, i < 16 → ys[o + i]? = (mkA z K).cells[i]? := by
  intro i hi
  have hc : (mkA z K).cells = [.int .i64 (K : Int), .string (markT (K + 1)), .int .i64 ((K + 2 : Nat) : Int), .int .i64 ((K + 3 : Nat) : Int), .int .i64 ((K + 4 : Nat) : Int), .int .i64 ((K + 5 : Nat) : Int), .string (markT (K + 6)), .string (markT (K + 7)), .string (markT (K + 8)), .int .i64 ((K + 9 : Nat) : Int), .slice z.A z.n z.c, .string (markT (K + 10 + z.n)), .string (markT (K + 10 + z.n + 1)), .int .i64 ((K + 10 + z.n + 1 + 1 : Nat) : Int), .slice z.B z.m z.d, .int .i64 ((K + 10 + z.n + 1 + 1 + 1 + 3 * z.m : Nat) : Int)] := by
    have e1 : Value.slice (mkA z K).A (mkA z K).n (mkA z K).c = .slice z.A z.n z.c := by rw [mkA_n]; rfl
    have e2 : Value.slice (mkA z K).B (mkA z K).m (mkA z K).d = .slice z.B z.m z.d := by rw [mkA_m]; rfl
    unfold AidG.cells
    rw [e1, e2]
    rfl
  rw [hc]
  have : i = 0 ∨ i = 1 ∨ i = 2 ∨ i = 3 ∨ i = 4 ∨ i = 5 ∨ i = 6 ∨ i = 7 ∨ i = 8 ∨ i = 9 ∨ i = 10 ∨ i = 11 ∨ i = 12 ∨ i = 13 ∨ i = 14 ∨ i = 15 := by omega
  rcases this with rfl | rfl | rfl | rfl | rfl | rfl | rfl | rfl | rfl | rfl | rfl | rfl | rfl | rfl | rfl | rfl
  all_goals exact h (_, _) (by simp only [List.mem_cons, Prod.mk.injEq]; simp)
theorem flat_drop {α : Type} (enc : α → List Value) (sz : Nat) (hsz : ∀ x, (enc x).length = sz) (xs : List α) (k : Nat) (hk : k ≤ xs.length) : (xs.flatMap enc).drop (k * sz) = (xs.drop k).flatMap enc := by
  have e : xs.flatMap enc = (xs.take k).flatMap enc ++ (xs.drop k).flatMap enc := by rw [← List.flatMap_append, List.take_append_drop]
  rw [e, List.drop_left' (by rw [flat_len enc sz hsz, List.length_take, Nat.min_eq_left hk])]
theorem ANk.fin {K : Nat} (h : ANk w0 w base g n c k z l ((markInts (K + 10) z.n).flatMap intC) ((markSecs (K + 10 + z.n + 1 + 1 + 1) z.m).flatMap Sec.cells) [(15, .int .i64 ((K + 10 + z.n + 1 + 1 + 1 + 3 * z.m : Nat) : Int)), (13, .int .i64 ((K + 10 + z.n + 1 + 1 : Nat) : Int)), (12, .string (markT (K + 10 + z.n + 1))), (11, .string (markT (K + 10 + z.n))), (9, .int .i64 ((K + 9 : Nat) : Int)), (8, .string (markT (K + 8))), (7, .string (markT (K + 7))), (6, .string (markT (K + 6))), (5, .int .i64 ((K + 5 : Nat) : Int)), (4, .int .i64 ((K + 4 : Nat) : Int)), (3, .int .i64 ((K + 3 : Nat) : Int)), (2, .int .i64 ((K + 2 : Nat) : Int)), (1, .string (markT (K + 1))), (0, .int .i64 (K : Int)), (10, .slice z.A z.n z.c), (14, .slice z.B z.m z.d)]) (hl : l.length = n) :
    AidOwn w base (.slice (some ⟨g, 0, none⟩) n c) n (l.set k (mkA z K)) := by
  obtain ⟨ys, h1, h2, h3, h4⟩ := h.row
  have hk := h.hk
  have hyl : ys.length = n * 16 := h1.1
  have e1 := row16 (AidG.cells_len (mkA z K)) (by omega) (mk_got h2)
  have e2 : ys = (l.set k (mkA z K)).flatMap AidG.cells := by
    have e3 : ys = ys.take (k * 16 + 16) ++ ys.drop (k * 16 + 16) := (List.take_append_drop _ _).symm
    rw [e3, e1, h3, h4, flat_take AidG.cells 16 AidG.cells_len, show k * 16 + 16 = (k + 1) * 16 by omega, flat_drop AidG.cells 16 AidG.cells_len l (k + 1) (by omega), List.set_eq_take_append_cons_drop, if_pos (by omega), List.flatMap_append, List.flatMap_cons, List.append_assoc]
  rw [e2] at h1
  refine ⟨h1, fun y hy => ?_⟩
  obtain ⟨j, hj⟩ := List.getElem?_of_mem hy
  by_cases hjk : j = k
  · subst hjk
    rw [List.getElem?_set_self (by omega)] at hj
    obtain rfl := Option.some.inj hj
    refine ⟨?_, ?_⟩
    · show w.ownsRow base 2 1 (.slice z.A (mkA z K).n z.c) (mkA z K).n ((markInts (K + 10) z.n).flatMap intC)
      rw [mkA_n]; exact h.gr
    · show w.ownsRow base 94 3 (.slice z.B (mkA z K).m z.d) (mkA z K).m ((markSecs (K + 10 + z.n + 1 + 1 + 1) z.m).flatMap Sec.cells)
      rw [mkA_m]; exact h.se
  · rw [List.getElem?_set_ne (Ne.symm hjk)] at hj
    exact h.oth j y hjk hj
end
set_option maxRecDepth 100000 in
set_option maxHeartbeats 4000000 in
theorem markAidSW_c (A : Option Addr) (n c : Nat) (zs : List AidG) (base : Nat) (w : World) (h : AidOwn w base (.slice A n c) n zs) (hd : AidDif zs) (hm : n ≤ 1048576) (hz : ∀ z ∈ zs, z.n ≤ 1048576 ∧ z.m ≤ 1048576) (hb : base ≤ w.heap.size) :
    Calls Tryz.prog 18 #[.slice A n c, .int .i64 1] w fun e w' => e = .returned (.int .i64 (mkK zs 1 : Nat)) ∧ AidOwn w' base (.slice A n c) n (mkL zs 1) ∧ Below base w w' := by
  have hl : zs.length = n := (Sl.of_own h.own).len AidG.cells 16 AidG.cells_len (by omega)
  obtain ⟨R, hR⟩ : ∃ R, mkK zs 1 = R := ⟨_, rfl⟩
  rw [hR]
  have Hl := Lib.hid hl; clear hl
  have Hz := Lib.hid hz; clear hz
  have HR := Lib.hid hR; clear hR
  have Hd := Lib.hid hd; clear hd
  go_enter Tryz.func18, Tryz.ntmps18
  go_wp2
  go_loopw [1, 5] (fun q i wr => ∃ (k K : Nat), k ≤ n ∧ i = .int .i64 k ∧ q = .int .i64 (K : Int) ∧ Hid (mkK (zs.take k) 1 = K) ∧ 0 < K ∧ K ≤ 1 + k * 4194318 ∧ AidOwn wr base (.slice A n c) n (mkT zs k) ∧ Below base w wr) (fun _ i _ => n - (intOf i).toNat)
  case atStart => exact ⟨0, 1, Nat.zero_le _, rfl, rfl, Lib.hid rfl, by omega, by omega, by rw [mkT_zero]; exact h, Below.refl _ _⟩
  case round =>
    clear h
    obtain ⟨k, K, hk, rfl, rfl, HK, hK0, hK1, hO, hbw⟩ := hrel
    have k0 : (0 : Int) ≤ (k : Int) := by omega
    by_cases hlt : k < n
    · have k1 : (k : Int) < (n : Int) := by omega
      obtain ⟨g, rfl, hg1, hg2⟩ := own_form hO.own (by omega)
      obtain ⟨z, hx⟩ : ∃ z, zs[k]? = some z := ⟨_, List.getElem?_eq_getElem (by rw [Hl.out]; omega)⟩
      obtain ⟨hzn, hzs⟩ := Hz.out z (List.mem_of_getElem? hx)
      have hKn := mkK_next zs 1 k z hx
      have hTn := mkT_next hx
      rw [HK.out] at hKn hTn
      have h0 := ANk.start hO (Hd.out.same (mkT_kk zs k)) (mkT_at hx) hbw hb hlt
      have hTl : (mkT zs k).length = n := by rw [mkT_len]; exact Hl.out
      have fz := h0.fz
      obtain ⟨y0, f0⟩ := h0.y 0 (by omega)
      rw [Nat.add_zero] at f0
      have h1 := h0.store 0 (.int .i64 (K : Int)) (by omega) (by simp)
      clear h0 hO hbw
      have HKn := Lib.hid hKn; clear hKn
      have HTn := Lib.hid hTn; clear hTn
      have HTl := Lib.hid hTl; clear hTl
      have Hx := Lib.hid hx; clear hx
      have H1 := Lib.hid h1; clear h1
      go_wp2_with fail
      refine (markText_c (K + 1) _ (by omega) (by omega)).mono ?_
      rintro e w2 ⟨rfl, hb⟩
      have h2 := (H1.out).next hb
      have fz := (h2).fz
      clear hb
      obtain ⟨y1, f1⟩ := h2.y 1 (by omega)
      obtain ⟨y2, f2⟩ := h2.y 2 (by omega)
      obtain ⟨y3, f3⟩ := h2.y 3 (by omega)
      obtain ⟨y4, f4⟩ := h2.y 4 (by omega)
      obtain ⟨y5, f5⟩ := h2.y 5 (by omega)
      have h3 := ((((h2.store 1 (.string (markT (K + 1))) (by omega) (by simp)).store 2 (.int .i64 ((K + 2 : Nat) : Int)) (by omega) (by simp)).store 3 (.int .i64 ((K + 3 : Nat) : Int)) (by omega) (by simp)).store 4 (.int .i64 ((K + 4 : Nat) : Int)) (by omega) (by simp)).store 5 (.int .i64 ((K + 5 : Nat) : Int)) (by omega) (by simp)
      clear h2
      have H3 := Lib.hid h3; clear h3
      go_wp2_with fail
      clear f1 f2 f3 f4 f5 fz
      refine (markText_c (K + 6) _ (by omega) (by omega)).mono ?_
      rintro e w3 ⟨rfl, hb⟩
      have h4 := (H3.out).next hb
      have fz := (h4).fz
      clear hb
      obtain ⟨y6, f6⟩ := h4.y 6 (by omega)
      have h5 := h4.store 6 (.string (markT (K + 6))) (by omega) (by simp)
      clear h4
      have H5 := Lib.hid h5; clear h5
      go_wp2_with fail
      clear f6 fz
      refine (markText_c (K + 7) _ (by omega) (by omega)).mono ?_
      rintro e w4 ⟨rfl, hb⟩
      have h6 := (H5.out).next hb
      have fz := (h6).fz
      clear hb
      obtain ⟨y7, f7⟩ := h6.y 7 (by omega)
      have h7 := h6.store 7 (.string (markT (K + 7))) (by omega) (by simp)
      clear h6
      have H7 := Lib.hid h7; clear h7
      go_wp2_with fail
      clear f7 fz
      refine (markText_c (K + 8) _ (by omega) (by omega)).mono ?_
      rintro e w5 ⟨rfl, hb⟩
      have h8 := (H7.out).next hb
      have fz := (h8).fz
      clear hb
      obtain ⟨y8, f8⟩ := h8.y 8 (by omega)
      obtain ⟨y9, f9⟩ := h8.y 9 (by omega)
      have c10 := h8.at 10 (.slice z.A z.n z.c) (by omega) (by simp)
      have h9 := (h8.store 8 (.string (markT (K + 8))) (by omega) (by simp)).store 9 (.int .i64 ((K + 9 : Nat) : Int)) (by omega) (by simp)
      clear h8
      have H9 := Lib.hid h9; clear h9
      go_wp2_with fail
      clear f8 f9 fz c10
      refine (markInt64S_c z.A z.n z.c (K + 10) base _ _ H9.out.gr hzn (by omega)).mono ?_
      rintro e w6 ⟨rfl, hu', hgu⟩
      have h10 := H9.out.markG hu' hgu
      clear hu' hgu
      have H10 := Lib.hid h10; clear h10
      go_wp2_with fail
      refine (markText_c (K + 10 + z.n) _ (by omega) (by omega)).mono ?_
      rintro e w7 ⟨rfl, hb⟩
      have h11 := (H10.out).next hb
      have fz := (h11).fz
      clear hb
      obtain ⟨y11, f11⟩ := h11.y 11 (by omega)
      have h12 := h11.store 11 (.string (markT (K + 10 + z.n))) (by omega) (by simp)
      clear h11
      have H12 := Lib.hid h12; clear h12
      go_wp2_with fail
      clear f11 fz
      refine (markText_c (K + 10 + z.n + 1) _ (by omega) (by omega)).mono ?_
      rintro e w8 ⟨rfl, hb⟩
      have h13 := (H12.out).next hb
      have fz := (h13).fz
      clear hb
      obtain ⟨y12, f12⟩ := h13.y 12 (by omega)
      obtain ⟨y13, f13⟩ := h13.y 13 (by omega)
      have c14 := h13.at 14 (.slice z.B z.m z.d) (by omega) (by simp)
      have h14 := (h13.store 12 (.string (markT (K + 10 + z.n + 1))) (by omega) (by simp)).store 13 (.int .i64 ((K + 10 + z.n + 1 + 1 : Nat) : Int)) (by omega) (by simp)
      clear h13
      have H14 := Lib.hid h14; clear h14
      go_wp2_with fail
      clear f12 f13 fz c14
      refine (markSectorS_c z.B z.m z.d (K + 10 + z.n + 1 + 1 + 1) base _ _ H14.out.se hzs (by omega) (by omega)).mono ?_
      rintro e w9 ⟨rfl, hv', hgv⟩
      have h15 := H14.out.markS hv' hgv
      clear hv' hgv
      obtain ⟨y15, f15⟩ := h15.y 15 (by omega)
      have fz := h15.fz
      have h16 := h15.store 15 (.int .i64 ((K + 10 + z.n + 1 + 1 + 1 + 3 * z.m : Nat) : Int)) (by omega) (by simp)
      clear h15
      have H16 := Lib.hid h16; clear h16
      go_wp2_with fail
      go_roundw
      case rel =>
        exact ⟨k + 1, K + 10 + z.n + 1 + 1 + 1 + 3 * z.m + 1, by omega, by go_num, by first | rfl | go_num, Lib.hid HKn.out, by omega, by omega, by have := H16.out.fin HTl.out; rwa [HTn.out] at this, H16.out.bel⟩
      case measure => simp [intOf]; omega
    · go_wp2
      go_ret
      obtain rfl : k = n := by omega
      refine ⟨?_, by rw [mkT_all _ _ (by rw [Hl.out]; omega)] at hO; exact hO, hbw⟩
      rw [← HR.out, ← HK.out, List.take_of_length_le (by rw [Hl.out]; omega)]
      rfl
end Go.Proofs.YtpfnnjcochhklaaGreatDoor

/- Laws whose results are lists of aids: what the walk of such a law needs. -/
namespace Go.Proofs.YtpfnnjcochhklaaGreatDoor
open Go.RowKit
theorem own_le {w : World} {base : Nat} {e : TypeId} {sz n c : Nat} {A : Option Addr} {xs : List Value} (h : w.ownsRow base e sz (.slice A n c) n xs) : n ≤ c := by
  rcases h.2 with ⟨h', _⟩ | ⟨g, cap, cur, hv, _, _, h1, _⟩
  · injection h' with _ e1 _
    omega
  · injection hv with _ _ e1
    omega
/-- All of it lies below block B. -/
structure AidLt (B : Nat) (v : Value) (zs : List AidG) : Prop where
  v : ∀ k, v.ownBlock = some k → k < B
  z : ∀ z ∈ zs, (∀ k, (Value.slice z.A z.n z.c).ownBlock = some k → k < B) ∧ ∀ k, (Value.slice z.B z.m z.d).ownBlock = some k → k < B
theorem AidOwn.lt {w : World} {base n : Nat} {v : Value} {zs : List AidG} (h : AidOwn w base v n zs) : AidLt w.heap.size v zs :=
  ⟨fun k hk => (h.own.lt k hk).2, fun z hz => ⟨fun k hk => ((h.new z hz).g.lt k hk).2, fun k hk => ((h.new z hz).s.lt k hk).2⟩⟩
theorem AidOwn.rngLo {w w' : World} {base n lo hi : Nat} {v : Value} {zs : List AidG} (h : AidOwn w base v n zs) (hr : Rng lo hi w w') (hl : AidLt lo v zs) : AidOwn w' base v n zs :=
  ⟨own_rng h.own hr fun k hk => .inl (hl.v k hk), fun z hz => ⟨own_rng (h.new z hz).g hr fun k hk => .inl ((hl.z z hz).1 k hk), own_rng (h.new z hz).s hr fun k hk => .inl ((hl.z z hz).2 k hk)⟩⟩
theorem AidOwn.rngHi {w w' : World} {base n lo hi : Nat} {v : Value} {zs : List AidG} (h : AidOwn w base v n zs) (hr : Rng lo hi w w') (hb : hi ≤ base) : AidOwn w' base v n zs :=
  ⟨own_rng h.own hr fun k hk => .inr (Nat.le_trans hb (h.own.lt k hk).1), fun z hz => ⟨own_rng (h.new z hz).g hr fun k hk => .inr (Nat.le_trans hb ((h.new z hz).g.lt k hk).1), own_rng (h.new z hz).s hr fun k hk => .inr (Nat.le_trans hb ((h.new z hz).s.lt k hk).1)⟩⟩
theorem AidLt.more {B B' : Nat} {v : Value} {zs : List AidG} (h : AidLt B v zs) (hb : B ≤ B') : AidLt B' v zs := ⟨fun k hk => Nat.lt_of_lt_of_le (h.v k hk) hb, fun z hz => ⟨fun k hk => Nat.lt_of_lt_of_le ((h.z z hz).1 k hk) hb, fun k hk => Nat.lt_of_lt_of_le ((h.z z hz).2 k hk) hb⟩⟩
theorem own_belowB {w w' : World} {base B : Nat} {e : TypeId} {sz n : Nat} {v : Value} {xs : List Value} (h : w.ownsRow base e sz v n xs) (hb : Below B w w') (hl : ∀ k, v.ownBlock = some k → k < B) : w'.ownsRow base e sz v n xs := by
  obtain ⟨h1, h2⟩ := h
  refine ⟨h1, ?_⟩
  rcases h2 with h2 | ⟨g, cap, cur, hv, hbg, hg, r⟩
  · exact .inl h2
  · refine .inr ⟨g, cap, cur, hv, hbg, ?_, r⟩
    rw [hb.block g (hl g (by rw [hv]; rfl))]
    exact hg
theorem AidOwn.belowB {w w' : World} {base B n : Nat} {v : Value} {zs : List AidG} (h : AidOwn w base v n zs) (hb : Below B w w') (hl : AidLt B v zs) : AidOwn w' base v n zs :=
  ⟨own_belowB h.own hb hl.v, fun z hz => ⟨own_belowB (h.new z hz).g hb (hl.z z hz).1, own_belowB (h.new z hz).s hb (hl.z z hz).2⟩⟩
theorem bdOf {L : List AidX} {zs : List AidG} (hb : ∀ a ∈ L, AidBd a) (h : zs.map AidG.a = L) : ∀ z ∈ zs, AidBd z.a := fun z hz => hb _ (by rw [← h]; exact List.mem_map_of_mem hz)
theorem gmOf {zs : List AidG} (hb : ∀ z ∈ zs, AidBd z.a) : ∀ z ∈ zs, z.n ≤ 1048576 ∧ z.m ≤ 1048576 := fun z hz => ⟨(hb z hz).gs, (hb z hz).ss⟩
theorem AidF.rng {w w' : World} {b lo hi : Nat} {z : AidG} (h : AidF w b z) (hr : Rng lo hi w w') (hne : b < lo ∨ hi ≤ b) : AidF w' b z := by
  have e : w'.heap[b]? = w.heap[b]? := hr.block b h.p.hb hne
  have k := keepR hr b h.p.hb hne
  exact ⟨⟨(k _).trans h.p.c0, (k _).trans h.p.c1, (k _).trans h.p.c2, (k _).trans h.p.c3, (k _).trans h.p.c4, (k _).trans h.p.c5, (k _).trans h.p.c6, (k _).trans h.p.c7, (k _).trans h.p.c8, (k _).trans h.p.c9, (k _).trans h.p.c10, (k _).trans h.p.c11, (k _).trans h.p.c12, (k _).trans h.p.c13, (k _).trans h.p.c14, (k _).trans h.p.c15, Nat.lt_of_lt_of_le h.p.hb hr.size⟩, fun i => by
    have := h.f i
    simp only [World.frozen?] at this ⊢
    rw [e]; exact this⟩
theorem AidNew.rng {w w' : World} {base lo hi : Nat} {z : AidG} (h : AidNew w base z) (hr : Rng lo hi w w') (hb : hi ≤ base) : AidNew w' base z :=
  ⟨own_rng h.g hr fun k hk => .inr (Nat.le_trans hb (h.g.lt k hk).1), own_rng h.s hr fun k hk => .inr (Nat.le_trans hb (h.s.lt k hk).1)⟩
end Go.Proofs.YtpfnnjcochhklaaGreatDoor
