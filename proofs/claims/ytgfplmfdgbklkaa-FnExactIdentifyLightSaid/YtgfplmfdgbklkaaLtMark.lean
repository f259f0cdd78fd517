/- The marks that a law lays over a list of Characters. -/
import Derived.Test.YtgfplmfdgbklkaaRng
import Derived.Test.YtgfplmfdgbklkaaChars
namespace Go.Proofs.Ytgfplmfdgbklkaa
open Go.RowKit
theorem sumN_take (zs : List ChG) (k : Nat) : sumN (zs.take k) ≤ sumN zs := by
  have : sumN zs = sumN (zs.take k) + sumN (zs.drop k) := by
    unfold sumN
    rw [← List.sum_append, ← List.map_append, List.take_append_drop]
  omega
theorem drop_at {ys xs : List Value} {p q : Nat} (h : ys.drop p = xs.drop p) (hp : p ≤ q) : ys[q]? = xs[q]? := by
  have h1 : (ys.drop p)[q - p]? = (xs.drop p)[q - p]? := by rw [h]
  rw [List.getElem?_drop, List.getElem?_drop, show p + (q - p) = q by omega] at h1
  exact h1
theorem drop_set {ys xs : List Value} {p q : Nat} {v : Value} (h : ys.drop p = xs.drop p) (hq : q < p) : (ys.set q v).drop p = xs.drop p := by
  rw [List.drop_set, if_pos hq, h]
theorem drop_more {ys xs : List Value} {p q : Nat} (h : ys.drop p = xs.drop p) (hp : p ≤ q) : ys.drop q = xs.drop q := by
  have : ys.drop q = (ys.drop p).drop (q - p) := by rw [List.drop_drop]; congr 1; omega
  rw [this, h, List.drop_drop]; congr 1; omega
set_option maxRecDepth 100000 in
set_option maxHeartbeats 2000000 in
theorem markCharacterS_c (A : Option Addr) (n c : Nat) (zs : List ChG) (k0 base hi : Nat) (w : World) (h : ChOwn w base (.slice A n c) n zs) (hm : n ≤ 1048576) (hz : ∀ z ∈ zs, z.n ≤ 1048576)
    (hA : ∀ k, (Value.slice A n c).ownBlock = some k → k < hi) (hG : ∀ z ∈ zs, ∀ k, (Value.slice z.A z.n z.c).ownBlock = some k → k < hi) (hk0 : 0 < k0) (hk1 : k0 + 4 * n + sumN zs ≤ 10000000) :
    Calls Try.prog 35 #[.slice A n c, .int .i64 k0] w fun e w' => e = .returned (.int .i64 (k0 + 4 * n + sumN zs : Nat)) ∧ Rng base hi w w' := by
  have hl := h.len
  have hgr : ∀ z ∈ zs, OwnAny w base 2 1 z.n (.slice z.A z.n z.c) := fun z hz => ⟨_, h.grp z hz⟩
  have hfl := flat_len ChG.cells 5 ChG.cells_len zs
  rw [hl] at hfl
  have Hl := Lib.hid hl; clear hl
  have Hz := Lib.hid hz; clear hz
  have HG := Lib.hid hG; clear hG
  have HA := Lib.hid hA; clear hA
  have Hfl := Lib.hid hfl; clear hfl
  go_enter Try.func35, Try.ntmps35
  go_wp2
  go_loopw [1, 5] (fun q i wr => ∃ (k K : Nat) (ys : List Value), k ≤ n ∧ i = .int .i64 k ∧ q = .int .i64 K ∧ K = k0 + 4 * k + sumN (zs.take k) ∧ wr.ownsRow base 30 5 (.slice A n c) n ys ∧ ys.drop (k * 5) = (zs.flatMap ChG.cells).drop (k * 5) ∧ (∀ z ∈ zs, OwnAny wr base 2 1 z.n (.slice z.A z.n z.c)) ∧ Rng base hi w wr) (fun _ i _ => n - (intOf i).toNat)
  case atStart => exact ⟨0, k0, _, Nat.zero_le _, rfl, rfl, by simp [sumN], h.own, rfl, hgr, Rng.refl _ _ _⟩
  case round =>
    clear hgr
    obtain ⟨k, K, ys, hk, rfl, rfl, hK, hown, hys, hgr, hrw⟩ := hrel
    have Hgr := Lib.hid hgr; clear hgr
    have hst := sumN_take zs k
    by_cases hlt : k < n
    · obtain ⟨g, rfl, hg1, hg2⟩ := own_form hown (by omega)
      have hyl := hown.1
      obtain ⟨z, hx⟩ : ∃ z, zs[k]? = some z := ⟨_, List.getElem?_eq_getElem (by rw [Hl.out]; omega)⟩
      have hzm := List.mem_of_getElem? hx
      have hzn := Hz.out z hzm
      have hsn := sumN_next hx
      have hst1 := sumN_take zs (k + 1)
      rw [hsn] at hst1
      have f1 : wr.cell? ⟨g, k * 5 + 1, none⟩ = some (.slice z.A z.n z.c) := by
        rw [hown.cellAt _ (by omega), drop_at hys (by omega), flat_at ChG.cells 5 ChG.cells_len zs k 1 z hx (by decide)]; rfl
      obtain ⟨y0, f0⟩ := own_cell hown (k * 5) (by omega)
      obtain ⟨y2, f2⟩ := own_cell hown (k * 5 + 2) (by omega)
      obtain ⟨y3, f3⟩ := own_cell hown (k * 5 + 3) (by omega)
      obtain ⟨y4, f4⟩ := own_cell hown (k * 5 + 4) (by omega)
      have fz := hown.frozenAt
      have hgi := HA.out g rfl
      obtain ⟨gs, hgz⟩ := Hgr.out z hzm
      have s0 := hown.stored (k * 5) (.int .i64 (K : Nat))
      have hgz0 := own_grown hgz s0.2 (own_ne hgz hown (by decide))
      obtain ⟨Kb1, Kb2⟩ : 0 < K ∧ K + 4 + z.n ≤ 10000000 := by omega
      have Hys := Lib.hid hys; clear hys
      have Hyl := Lib.hid hyl; clear hyl
      have Hx := Lib.hid hx; clear hx
      have Hsn := Lib.hid hsn; clear hsn
      have HK := Lib.hid hK; clear hK
      go_wp2_with fail
      refine (markInt64S_c z.A z.n z.c (K + 1) base gs _ hgz0 hzn (by omega)).mono ?_
      rintro e w2 ⟨rfl, hoz, hg2⟩
      have ho2 := own_grown s0.1 hg2 (own_ne s0.1 hgz0 (by decide))
      obtain ⟨_, e2⟩ := own_cell ho2 (k * 5 + 2) (by omega)
      obtain ⟨_, e3⟩ := own_cell ho2 (k * 5 + 3) (by omega)
      obtain ⟨_, e4⟩ := own_cell ho2 (k * 5 + 4) (by omega)
      have ez := ho2.frozenAt
      go_wp2_with fail
      refine (markText_c (K + 1 + z.n) _ (by omega) (by omega)).mono ?_
      rintro e w3 ⟨rfl, hb3⟩
      have ho3 := own_next ho2 hb3
      have s2 := ho3.stored (k * 5 + 2) (.string (markT (K + 1 + z.n)))
      obtain ⟨_, e2⟩ := own_cell ho3 (k * 5 + 2) (by omega)
      obtain ⟨_, e3⟩ := own_cell s2.1 (k * 5 + 3) (by omega)
      have ez := ho3.frozenAt
      have ez2 := s2.1.frozenAt
      go_wp2_with fail
      refine (markText_c (K + 1 + z.n + 1) _ (by omega) (by omega)).mono ?_
      rintro e w4 ⟨rfl, hb4⟩
      have ho4 := own_next s2.1 hb4
      have s3 := ho4.stored (k * 5 + 3) (.string (markT (K + 1 + z.n + 1)))
      have s4 := s3.1.stored (k * 5 + 4) (.int .i64 (K + 1 + z.n + 1 + 1 : Nat))
      obtain ⟨_, e3⟩ := own_cell ho4 (k * 5 + 3) (by omega)
      obtain ⟨_, e4⟩ := own_cell s3.1 (k * 5 + 4) (by omega)
      have ez := ho4.frozenAt
      have ez2 := s3.1.frozenAt
      go_wp2_with fail
      go_roundw
      case rel =>
        have hr1 : ∀ k, (Value.slice (some ⟨g, 0, none⟩) n c).ownBlock = some k → base ≤ k ∧ k < hi := fun k' hk' => ⟨(hown.lt k' hk').1, HA.out k' hk'⟩
        have hr2 : ∀ k, (Value.slice z.A z.n z.c).ownBlock = some k → base ≤ k ∧ k < hi := fun k' hk' => ⟨(hgz.lt k' hk').1, HG.out z hzm k' hk'⟩
        refine ⟨k + 1, K + 1 + z.n + 1 + 1 + 1, _, by omega, by go_num, by first | rfl | go_num, by rw [Hsn.out, HK.out]; omega, s4.1, ?_, ?_, ?_⟩
        · rw [drop_set (xs := zs.flatMap ChG.cells) (drop_set (drop_set (drop_set (drop_more Hys.out (by omega)) (by omega)) (by omega)) (by omega)) (by omega)]
        · intro z' hz'
          have a0 := (Hgr.out z' hz').grown hown s0.2 (by decide)
          have a1 := ownAny_mark a0 hgz0 hoz hg2
          have a2 := (a1.next hb3).grown ho3 s2.2 (by decide)
          exact ((a2.next hb4).grown ho4 s3.2 (by decide)).grown s3.1 s4.2 (by decide)
        · exact (((((((hrw.trans (rng_grown s0.2 hr1)).trans (rng_grown hg2 hr2)).trans (rng_below hb3)).trans (rng_grown s2.2 hr1)).trans (rng_below hb4)).trans (rng_grown s3.2 hr1)).trans (rng_grown s4.2 hr1))
      case measure => simp [intOf]; omega
    · go_wp2
      go_ret
      obtain rfl : k = n := by omega
      rw [List.take_of_length_le (by rw [Hl.out]; omega)] at hK
      subst hK
      exact ⟨rfl, hrw⟩
end Go.Proofs.Ytgfplmfdgbklkaa
