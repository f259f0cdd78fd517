/- Lists of notices: how they lie, and the laws' own functions over them. -/
import Derived.Test.YtafojijhfbnehaaGreatDoorNotLaw
namespace Go.Proofs.YtafojijhfbnehaaGreatDoor
open Go.RowKit
structure NtG where
  x : NtX
  z : AidG
abbrev NtG.cells (g : NtG) : List Value := ntL g.x g.z
theorem NtG.cells_len (g : NtG) : g.cells.length = 20 := rfl
/-- What a notice says. -/
def NtG.a (g : NtG) : NtX × AidX := (g.x, g.z.a)
theorem nt_at {w : World} {B n : Nat} {A : Option Addr} {zs : List NtG} (h : Sl w B 20 A n (zs.flatMap NtG.cells)) (hB : B ≤ w.heap.size) (k : Nat) (hk : k < n) :
    ∃ b off g, A = some ⟨b, off, none⟩ ∧ b < B ∧ zs[k]? = some g ∧ NtP w b (off + k * 20) g.x g.z := by
  obtain ⟨b, off, g, hA, hb, hx, hc⟩ := h.get NtG.cells 20 NtG.cells_len (by omega) k hk
  exact ⟨b, off, g, hA, hb, hx, ntP_of hc (by omega)⟩
theorem ntInfo : (Tryz.prog.info? 55).map (fun i => (i.zero, i.size, i.bytes)) = some (some (.agg #[.int .i64 0, .int .i64 0, .int .i64 0, .int .i64 0, .int .i64 0, .string ByteArray.empty, .int .i64 0, .int .i64 0, .int .i64 0, .int .i64 0, .string ByteArray.empty, .string ByteArray.empty, .string ByteArray.empty, .int .i64 0, .slice none 0 0, .string ByteArray.empty, .string ByteArray.empty, .int .i64 0, .slice none 0 0, .int .i64 0]), 20, 240) := by kernel_rfl
/-- The slice .slice A n _ reads as the notices zs. -/
structure NtSl (w : World) (A : Option Addr) (n : Nat) (zs : List NtG) : Prop where
  sl : Sl w w.heap.size 20 A n (zs.flatMap NtG.cells)
  ok : ∀ z ∈ zs, AidOk w z.z
theorem NtSl.next {w w' : World} {A : Option Addr} {n : Nat} {zs : List NtG} (h : NtSl w A n zs) (hb : Below w.heap.size w w') : NtSl w' A n zs := ⟨h.sl.next hb, fun z hz => (h.ok z hz).next hb⟩
theorem NtSl.len {w : World} {A : Option Addr} {n : Nat} {zs : List NtG} (h : NtSl w A n zs) : zs.length = n := h.sl.len NtG.cells 20 NtG.cells_len (by omega)
theorem NtSl.get {w : World} {A : Option Addr} {n : Nat} {zs : List NtG} (h : NtSl w A n zs) (k : Nat) (hk : k < n) :
    ∃ b off z, A = some ⟨b, off, none⟩ ∧ zs[k]? = some z ∧ AidOk w z.z ∧ NtP w b (off + k * 20) z.x z.z := by
  obtain ⟨b, off, z, hA, hb, hx, hp⟩ := nt_at h.sl (Nat.le_refl _) k hk
  exact ⟨b, off, z, hA, hx, h.ok z (List.mem_of_getElem? hx), hp⟩
theorem rangeB {w w' : World} {B b o : Nat} {cs : List Value} (h : w.rangeAt b o cs) (hb : Below B w w') (hlt : b < B) : w'.rangeAt b o cs := fun j v hv => (World.cell?_of_block (w := w) (hb.block b hlt)).trans (h j v hv)
theorem ntr_at {w : World} {B n : Nat} {A : Option Addr} {zs : List NtG} (h : Sl w B 20 A n (zs.flatMap NtG.cells)) (k : Nat) (hk : k < n) :
    ∃ b off g, A = some ⟨b, off, none⟩ ∧ b < B ∧ zs[k]? = some g ∧ w.rangeAt b (off + k * 20) g.cells := by
  obtain ⟨b, off, g, hA, hb, hx, hc⟩ := h.get NtG.cells 20 NtG.cells_len (by omega) k hk
  exact ⟨b, off, g, hA, hb, hx, hc⟩
theorem NtSl.getR {w : World} {A : Option Addr} {n : Nat} {zs : List NtG} (h : NtSl w A n zs) (k : Nat) (hk : k < n) :
    ∃ b off z, A = some ⟨b, off, none⟩ ∧ b < w.heap.size ∧ zs[k]? = some z ∧ AidOk w z.z ∧ w.rangeAt b (off + k * 20) z.cells := by
  obtain ⟨b, off, z, hA, hb, hx, hp⟩ := ntr_at h.sl k hk
  exact ⟨b, off, z, hA, hb, hx, h.ok z (List.mem_of_getElem? hx), hp⟩
theorem ntg_one (g : NtG) : ∀ u ∈ g.cells, u.oneCell' = true := by simp [NtG.cells, AidG.cells, Value.oneCell']
theorem own_sets {base g n c sz : Nat} {e : TypeId} : ∀ (us : List Value) (p : Nat) (w : World) (ys : List Value), w.ownsRow base e sz (.slice (some ⟨g, 0, none⟩) n c) n ys → (w.setCells g p us).ownsRow base e sz (.slice (some ⟨g, 0, none⟩) n c) n (setAll ys p us) ∧ w.grownBy (w.setCells g p us) (some g)
  | [], _, _, _, h => ⟨h, grown_refl _ _⟩
  | u :: r, p, w, ys, h => by
    have s := h.stored p u
    have t := own_sets r (p + 1) _ _ s.1
    exact ⟨t.1, grown_trans s.2 t.2⟩
theorem own_thereN {w : World} {base g n c sz k : Nat} {e : TypeId} {xs : List Value} (h : w.ownsRow base e sz (.slice (some ⟨g, 0, none⟩) n c) n xs) (hk : k < n) : w.there g (k * sz) sz := fun j hj => by
  have e1 : k * sz + sz ≤ n * sz := by rw [← Nat.succ_mul]; exact Nat.mul_le_mul_right _ hk
  obtain ⟨v, hv⟩ := own_cell h (k * sz + j) (by omega)
  exact ⟨by rw [hv]; rfl, h.frozenAt _⟩
/-- They lie in memory of the call's own. -/
structure NtOwn (w : World) (base : Nat) (v : Value) (n : Nat) (zs : List NtG) : Prop where
  own : w.ownsRow base 55 20 v n (zs.flatMap NtG.cells)
  new : ∀ z ∈ zs, AidNew w base z.z
theorem NtOwn.next {w w' : World} {base n : Nat} {v : Value} {zs : List NtG} (h : NtOwn w base v n zs) (hb : Below w.heap.size w w') : NtOwn w' base v n zs := ⟨own_next h.own hb, fun z hz => (h.new z hz).next hb⟩
theorem NtOwn.sl {w : World} {base n c : Nat} {A : Option Addr} {zs : List NtG} (h : NtOwn w base (.slice A n c) n zs) (hb : ∀ z ∈ zs, AidBd z.z.a) : NtSl w A n zs := ⟨Sl.of_own h.own, fun z hz => (h.new z hz).ok (hb z hz)⟩
theorem nbd_of {zs zs' : List NtG} (h : zs'.map NtG.a = zs.map NtG.a) (hb : ∀ z ∈ zs, AidBd z.z.a) : ∀ z ∈ zs', AidBd z.z.a := fun z hz => by
  have : z.a ∈ zs'.map NtG.a := List.mem_map_of_mem hz
  rw [h] at this
  obtain ⟨y, hy, e⟩ := List.mem_map.1 this
  have e2 : y.z.a = z.z.a := congrArg Prod.snd e
  rw [← e2]; exact hb y hy
set_option maxRecDepth 100000 in
set_option maxHeartbeats 1000000 in
theorem szNoticeS_c (A : Option Addr) (n c : Nat) (zs : List NtG) (left : Int) (w : World) (h : Sl w w.heap.size 20 A n (zs.flatMap NtG.cells)) (hm : n ≤ maxLen) (hz : ∀ z ∈ zs, AidRd w z.z) (h0 : 0 ≤ left) (h1 : left ≤ 1048576) :
    Calls Tryz.prog 24 #[.slice A n c, .int .i64 left] w fun e w' => ∃ r : Int, e = .returned (.int .i64 r) ∧ (r = -1 ∨ 0 ≤ r ∧ r + n ≤ left ∧ ∀ z ∈ zs, AidBd z.z.a) ∧ Below w.heap.size w w' := by
  have hl := h.len NtG.cells 20 NtG.cells_len (by omega)
  unfold maxLen at hm
  have Hl := Lib.hid hl; clear hl
  have Hz := Lib.hid hz; clear hz
  go_enter Tryz.func24, Tryz.ntmps24
  go_wp2
  · go_ret
    exact ⟨-1, rfl, .inl rfl, by (repeat (first | (with_reducible assumption) | (with_reducible exact Below.refl _ _) | exact Nat.le_refl _ | exact Below.size (by with_reducible assumption) | (with_reducible refine Below.drew ?_) | (with_reducible refine below_drewN ?_ _) | (with_reducible refine Below.alloc ?_ ?_ _) | (with_reducible refine Below.setCell ?_ ?_ _) | (with_reducible refine le_alloc ?_ _) | (with_reducible refine le_set ?_ _ _) | (with_reducible refine le_drew ?_) | (with_reducible refine le_drewN ?_ _) | omega | (dsimp only; omega)))⟩
  · go_loopw [1, 5] (fun l i wr => ∃ (k : Nat) (r : Int), k ≤ n ∧ i = .int .i64 k ∧ l = .int .i64 r ∧ 0 ≤ r ∧ r + n ≤ left ∧ Hid (∀ z ∈ zs.take k, AidBd z.z.a) ∧ Below w.heap.size w wr) (fun _ i _ => n - (intOf i).toNat)
    case atStart => exact ⟨0, _, Nat.zero_le _, rfl, rfl, by omega, by omega, Lib.hid (by simp), Below.refl _ _⟩
    case round =>
      obtain ⟨k, r, hk, rfl, rfl, hr0, hr1, Hok, hbw⟩ := hrel
      by_cases hlt : k < n
      · obtain ⟨b, off, z, rfl, hb, hx, hp⟩ := ntr_at h k hlt
        have HP := Lib.hid (rangeB hp hbw hb)
        have Hr := Lib.hid ((Hz.out z (List.mem_of_getElem? hx)).next hbw)
        clear hp
        have Hx := Lib.hid hx; clear hx
        go_wp2_with (refine wpList_load_mid rfl _ _ rfl b (off + k * 20) rfl (NtG.cells z) _ HP.out Tryz.underlying45 rfl (by kernel_rfl) ?_)
        refine (szNotice_c z.x z.z r _ Hr.out hr0 (by omega)).mono ?_
        rintro e w2 ⟨q, rfl, hq, hb1⟩
        have Hq := Lib.hid hq; clear hq
        go_wp2_with fail
        · go_ret
          exact ⟨-1, rfl, .inl rfl, hbw.trans (hb1.mono hbw.size)⟩
        · have hq2 : 0 ≤ q ∧ q ≤ r ∧ AidBd z.z.a := by
            rcases Hq.out with h3 | h3
            · omega
            · exact h3
          obtain ⟨hq0, hq1, hbd⟩ := hq2
          go_roundw
          case rel =>
            refine ⟨k + 1, q, by omega, by go_num, rfl, by omega, by omega, Lib.hid (fun z' hz' => ?_), hbw.trans (hb1.mono hbw.size)⟩
            rcases (mem_take_next Hx.out z').1 hz' with h2 | h2
            · exact Hok.out z' h2
            · subst h2; exact hbd
          case measure => simp [intOf]; omega
      · go_wp2
        go_ret
        have hok := Hok.out
        rw [List.take_of_length_le (by rw [Hl.out]; omega)] at hok
        exact ⟨r, rfl, .inr ⟨by omega, by omega, hok⟩, hbw⟩
set_option maxRecDepth 100000 in
set_option maxHeartbeats 2000000 in
theorem toNoticeS_c (A : Option Addr) (n c : Nat) (zs : List NtG) (w : World) (h : NtSl w A n zs) (hm : n ≤ 1048576) :
    Calls Tryz.prog 26 #[.slice A n c] w fun e w' => ∃ v zs', e = .returned v ∧ zs'.map NtG.a = zs.map NtG.a ∧ NtOwn w' w.heap.size v n zs' ∧ Below w.heap.size w w' := by
  obtain ⟨i0, hi, hz0, hz1, hz2⟩ := info_parts ntInfo
  have hln := h.len
  have hB : i0.bytes * n ≤ 281474976710656 := by rw [hz2]; omega
  have hM : n ≤ maxLen := by unfold maxLen; omega
  have Hln := Lib.hid hln; clear hln
  have HB := Lib.hid hB; clear hB
  have HM := Lib.hid hM; clear hM
  go_enter Tryz.func26, Tryz.ntmps26
  go_wp2_with (at_make; refine wpList_make_full _ rfl _ _ _ rfl w.heap.size 55 i0 _ 20 Tryz.underlying62 hi hz0 hz1 _ _ _ _ n rfl rfl rfl rfl HB.out HM.out (Nat.le_refl _) ?_; intro w1 hown hgr)
  have hb0 : Below w.heap.size w w1 := (Below.refl _ _).grown hgr (Nat.le_refl _) (by simp)
  clear hgr
  go_loopw [4] (fun i wr => ∃ (k : Nat) (ys : List Value) (zs' : List NtG), k ≤ n ∧ i = .int .i64 k ∧ Hid (zs'.map NtG.a = (zs.take k).map NtG.a) ∧ wr.ownsRow w.heap.size 55 20 (.slice (some ⟨w.heap.size, 0, none⟩) n n) n ys ∧ Hid (ys.take (k * 20) = zs'.flatMap NtG.cells) ∧ Hid (∀ z ∈ zs', AidNew wr w.heap.size z.z) ∧ Below w.heap.size w wr) (fun i _ => n - (intOf i).toNat)
  case atStart => exact ⟨0, _, [], Nat.zero_le _, rfl, Lib.hid (by simp), hown, Lib.hid (by simp), Lib.hid (by simp), hb0⟩
  case round =>
    clear hown hb0
    obtain ⟨k, ys, zs', hk, rfl, Hzx, hown, Hys, Hgr, hbw⟩ := hrel
    by_cases hlt : k < n
    · obtain ⟨b, off, z, rfl, hb, hx, hzo, hp⟩ := h.getR k hlt
      have Hyl := Lib.hid hown.1
      have HP := Lib.hid (rangeB hp hbw hb)
      have Hzo := Lib.hid (hzo.next hbw)
      have k0 : (0 : Int) ≤ (k : Int) := by omega
      have k1 : (k : Int) < (n : Int) := by omega
      clear hp hzo
      have Hx := Lib.hid hx; clear hx
      have HOwn := Lib.hid hown; clear hown
      go_wp2_with (refine wpList_load_mid rfl _ _ rfl b (off + k * 20) rfl (NtG.cells z) _ HP.out Tryz.underlying45 rfl (by kernel_rfl) ?_)
      refine (toNotice_c z.x z.z _ Hzo.out).mono ?_
      rintro e w2 ⟨⟨a2, A2, c2', B2, d2⟩, rfl, ha2, ho2g, hb1⟩
      simp only at ha2
      subst ha2
      have ho2 := own_next HOwn.out hb1
      have HT := Lib.hid (own_thereN ho2 hlt)
      have hS := own_sets (NtG.cells ⟨z.x, ⟨z.z.a, A2, c2', B2, d2⟩⟩) (k * 20) w2 _ ho2
      have hb2 : Below w.heap.size w (w2.setCells w.heap.size (k * 20) (NtG.cells ⟨z.x, ⟨z.z.a, A2, c2', B2, d2⟩⟩)) := belowW w.heap.size (Nat.le_refl _) _ _ _ (hbw.trans (hb1.mono hbw.size))
      have HONE := Lib.hid (all_oneCell_toArray (ntg_one ⟨z.x, ⟨z.z.a, A2, c2', B2, d2⟩⟩))
      obtain ⟨w3, hw3⟩ : ∃ w3, w2.setCells w.heap.size (k * 20) (NtG.cells ⟨z.x, ⟨z.z.a, A2, c2', B2, d2⟩⟩) = w3 := ⟨_, rfl⟩
      rw [hw3] at hS hb2
      have HW3 := Lib.hid hw3; clear hw3
      have HS := Lib.hid hS; clear hS
      have HO2 := Lib.hid ho2; clear ho2
      go_wp2_with (refine wpList_store_mid rfl _ _ _ rfl w.heap.size (k * 20) (List.toArray (NtG.cells ⟨z.x, ⟨z.z.a, A2, c2', B2, d2⟩⟩)) rfl rfl HT.out (by kernel_rfl) HONE.out ?_; rw [show w2.setCells w.heap.size (k * 20) (List.toArray (NtG.cells ⟨z.x, ⟨z.z.a, A2, c2', B2, d2⟩⟩)).toList = w3 from HW3.out])
      go_roundw
      case rel =>
        refine ⟨k + 1, setAll ys (k * 20) (NtG.cells ⟨z.x, ⟨z.z.a, A2, c2', B2, d2⟩⟩), zs' ++ [⟨z.x, ⟨z.z.a, A2, c2', B2, d2⟩⟩], by omega, by go_num, Lib.hid ?_, HS.out.1, Lib.hid ?_, Lib.hid ?_, hb2⟩
        · rw [List.map_append, Hzx.out, List.take_add_one, Hx.out]; simp [NtG.a]
        · rw [setAll_take Hyl.out hlt (NtG.cells_len _), Hys.out, List.flatMap_append]; simp
        · intro z' hz'
          have sg := HS.out.2
          have ho2 := HO2.out
          rcases List.mem_append.1 hz' with h2 | h2
          · have hh := (Hgr.out z' h2).next hb1
            exact ⟨own_grown hh.g sg (own_ne hh.g ho2 (by decide)), own_grown hh.s sg (own_ne hh.s ho2 (by decide))⟩
          · simp only [List.mem_singleton] at h2
            subst h2
            have hg := own_base ho2g.g hbw.size
            have hs := own_base ho2g.s hbw.size
            exact ⟨own_grown hg sg (own_ne hg ho2 (by decide)), own_grown hs sg (own_ne hs ho2 (by decide))⟩
      case measure => simp [intOf]; omega
    · go_wp2_with fail
      go_ret
      obtain rfl : k = n := by omega
      have hyl := hown.1
      have hys := Hys.out
      have hzx := Hzx.out
      rw [List.take_of_length_le (by omega)] at hys
      rw [List.take_of_length_le (by rw [Hln.out]; omega)] at hzx
      subst hys
      exact ⟨_, zs', rfl, hzx, ⟨hown, Hgr.out⟩, hbw⟩
set_option maxRecDepth 100000 in
set_option maxHeartbeats 2000000 in
theorem eqNoticeS_c (A A' : Option Addr) (n c c' : Nat) (zs zs' : List NtG) (w : World) (h : NtSl w A n zs) (h' : NtSl w A' n zs') (hx : zs.map NtG.a = zs'.map NtG.a) (hm : n ≤ 1048576) :
    Calls Tryz.prog 28 #[.slice A n c, .slice A' n c'] w fun e w' => e = .returned (.bool true) ∧ Below w.heap.size w w' := by
  have Hx := Lib.hid hx; clear hx
  go_enter Tryz.func28, Tryz.ntmps28
  go_wp2
  go_loopw [5] (fun i wr => ∃ k : Nat, k ≤ n ∧ i = .int .i64 k ∧ Below w.heap.size w wr) (fun i _ => n - (intOf i).toNat)
  case atStart => exact ⟨0, Nat.zero_le _, rfl, Below.refl _ _⟩
  case round =>
    obtain ⟨k, hk, rfl, hbw⟩ := hrel
    by_cases hlt : k < n
    · obtain ⟨b, off, z, rfl, hb, hz, hzo, hp⟩ := h.getR k hlt
      obtain ⟨b', off', z', rfl, hb', hz', hzo', hp'⟩ := h'.getR k hlt
      have he : z.a = z'.a := by
        have h1 : (zs.map NtG.a)[k]? = some z.a := by rw [List.getElem?_map, hz]; rfl
        have h2 : (zs'.map NtG.a)[k]? = some z'.a := by rw [List.getElem?_map, hz']; rfl
        rw [Hx.out, h2] at h1
        exact (Option.some.inj h1).symm
      obtain ⟨x, a, Az, cz, Bz, dz⟩ := z
      obtain ⟨x', a', Az', cz', Bz', dz'⟩ := z'
      obtain ⟨rfl, rfl⟩ : x = x' ∧ a = a' := ⟨congrArg Prod.fst he, congrArg Prod.snd he⟩
      have hP : ∀ w', Below wr.heap.size wr w' → w'.rangeAt b (off + k * 20) (NtG.cells ⟨x, ⟨a, Az, cz, Bz, dz⟩⟩) := fun w' h2 => rangeB (rangeB hp hbw hb) h2 (Nat.lt_of_lt_of_le hb hbw.size)
      have hP' : ∀ w', Below wr.heap.size wr w' → w'.rangeAt b' (off' + k * 20) (NtG.cells ⟨x, ⟨a, Az', cz', Bz', dz'⟩⟩) := fun w' h2 => rangeB (rangeB hp' hbw hb') h2 (Nat.lt_of_lt_of_le hb' hbw.size)
      have j1 : (0 : Int) ≤ (k : Int) := by omega
      have j2 : (k : Int) < (n : Int) := by omega
      have hE : ∀ w', Below wr.heap.size wr w' → Calls Tryz.prog 23 #[ntV x ⟨a, Az, cz, Bz, dz⟩, ntV x ⟨a, Az', cz', Bz', dz'⟩] w' fun e w'' => e = .returned (.bool true) ∧ Below w'.heap.size w' w'' := fun w' hb => eqNotice_c x a Az Az' Bz Bz' cz cz' dz dz' w' ((hzo.next hbw).next hb) ((hzo'.next hbw).next hb)
      clear hp hp' hzo hzo' he
      have HE := Lib.hid hE; clear hE
      have Hz := Lib.hid hz; clear hz
      have Hz' := Lib.hid hz'; clear hz'
      have HP := Lib.hid hP; clear hP
      have HP' := Lib.hid hP'; clear hP'
      go_wp2
      refine wp_region_held_drew (S := fun w' => Below wr.heap.size wr w') (by kernel_rfl) (Below.refl _ _).drew (fun hHeld => ?_)
      (first
        | (refine wpAnyH_take (i := 0) (v := ?_) rfl (by kernel_rfl) (by kernel_rfl) (by kernel_rfl) (fun _ _ _ h => h) (Or.inl ⟨by rfl, ?_⟩) (by assumption) ?_
           rotate_left
           focus (intro wq hSq; (try dsimp only at hSq); go_simp; (try (with_reducible rfl)); done))
        | (refine wpAnyH_take (i := 0) (v := undef) rfl (by kernel_rfl) (by kernel_rfl) (by kernel_rfl) (fun _ _ _ h => h) (Or.inr ⟨by rfl, rfl⟩) (by assumption) ?_)
        | fail "take 0")
      try simp only [Act.put, List.setIfInBounds_toArray, List.set_cons_zero, List.set_cons_succ, List.getElem_toArray, List.getElem_cons_zero]
      (first
        | (refine wpAnyH_take (i := 1) (v := ?_) rfl (by kernel_rfl) (by kernel_rfl) (by kernel_rfl) (fun _ _ _ h => h) (Or.inl ⟨by rfl, ?_⟩) (by assumption) ?_
           rotate_left
           focus (intro wq hSq; (try dsimp only at hSq); go_simp; (try (with_reducible rfl)); done))
        | (refine wpAnyH_take (i := 1) (v := undef) rfl (by kernel_rfl) (by kernel_rfl) (by kernel_rfl) (fun _ _ _ h => h) (Or.inr ⟨by rfl, rfl⟩) (by assumption) ?_)
        | fail "take 1")
      try simp only [Act.put, List.setIfInBounds_toArray, List.set_cons_zero, List.set_cons_succ, List.getElem_toArray, List.getElem_cons_zero, List.getElem_cons_succ]
      (first
        | (refine wpAnyH_take (i := 2) (v := ?_) rfl (by kernel_rfl) (by kernel_rfl) (by kernel_rfl) (fun _ _ _ h => h) (Or.inl ⟨by rfl, ?_⟩) (by assumption) ?_
           rotate_left
           focus (intro wq hSq; (try dsimp only at hSq); go_simp; (try (with_reducible rfl)); done))
        | (refine wpAnyH_take (i := 2) (v := undef) rfl (by kernel_rfl) (by kernel_rfl) (by kernel_rfl) (fun _ _ _ h => h) (Or.inr ⟨by rfl, rfl⟩) (by assumption) ?_)
        | fail "take 2")
      try simp only [Act.put, List.setIfInBounds_toArray, List.set_cons_zero, List.set_cons_succ, List.getElem_toArray, List.getElem_cons_zero, List.getElem_cons_succ]
      refine wpAnyH_take (i := 3) (v := .agg (List.toArray (NtG.cells ⟨x, ⟨a, Az, cz, Bz, dz⟩⟩))) rfl (by kernel_rfl) (by kernel_rfl) (by kernel_rfl) (fun _ _ _ h => h) (yieldsIf_load_mid rfl _ _ rfl b (off + k * 20) rfl (NtG.cells ⟨x, ⟨a, Az, cz, Bz, dz⟩⟩) _ HP.out Tryz.underlying55 rfl (by kernel_rfl)) (by assumption) ?_
      try simp only [Act.put, List.setIfInBounds_toArray, List.set_cons_zero, List.set_cons_succ, List.getElem_toArray, List.getElem_cons_zero, List.getElem_cons_succ]
      (first
        | (refine wpAnyH_take (i := 4) (v := ?_) rfl (by kernel_rfl) (by kernel_rfl) (by kernel_rfl) (fun _ _ _ h => h) (Or.inl ⟨by rfl, ?_⟩) (by assumption) ?_
           rotate_left
           focus (intro wq hSq; (try dsimp only at hSq); go_simp; (try (with_reducible rfl)); done))
        | (refine wpAnyH_take (i := 4) (v := undef) rfl (by kernel_rfl) (by kernel_rfl) (by kernel_rfl) (fun _ _ _ h => h) (Or.inr ⟨by rfl, rfl⟩) (by assumption) ?_)
        | fail "take 4")
      try simp only [Act.put, List.setIfInBounds_toArray, List.set_cons_zero, List.set_cons_succ, List.getElem_toArray, List.getElem_cons_zero, List.getElem_cons_succ]
      (first
        | (refine wpAnyH_take (i := 5) (v := ?_) rfl (by kernel_rfl) (by kernel_rfl) (by kernel_rfl) (fun _ _ _ h => h) (Or.inl ⟨by rfl, ?_⟩) (by assumption) ?_
           rotate_left
           focus (intro wq hSq; (try dsimp only at hSq); go_simp; (try (with_reducible rfl)); done))
        | (refine wpAnyH_take (i := 5) (v := undef) rfl (by kernel_rfl) (by kernel_rfl) (by kernel_rfl) (fun _ _ _ h => h) (Or.inr ⟨by rfl, rfl⟩) (by assumption) ?_)
        | fail "take 5")
      try simp only [Act.put, List.setIfInBounds_toArray, List.set_cons_zero, List.set_cons_succ, List.getElem_toArray, List.getElem_cons_zero, List.getElem_cons_succ]
      (first
        | (refine wpAnyH_take (i := 6) (v := ?_) rfl (by kernel_rfl) (by kernel_rfl) (by kernel_rfl) (fun _ _ _ h => h) (Or.inl ⟨by rfl, ?_⟩) (by assumption) ?_
           rotate_left
           focus (intro wq hSq; (try dsimp only at hSq); go_simp; (try (with_reducible rfl)); done))
        | (refine wpAnyH_take (i := 6) (v := undef) rfl (by kernel_rfl) (by kernel_rfl) (by kernel_rfl) (fun _ _ _ h => h) (Or.inr ⟨by rfl, rfl⟩) (by assumption) ?_)
        | fail "take 6")
      try simp only [Act.put, List.setIfInBounds_toArray, List.set_cons_zero, List.set_cons_succ, List.getElem_toArray, List.getElem_cons_zero, List.getElem_cons_succ]
      refine wpAnyH_take (i := 7) (v := .agg (List.toArray (NtG.cells ⟨x, ⟨a, Az', cz', Bz', dz'⟩⟩))) rfl (by kernel_rfl) (by kernel_rfl) (by kernel_rfl) (fun _ _ _ h => h) (yieldsIf_load_mid rfl _ _ rfl b' (off' + k * 20) rfl (NtG.cells ⟨x, ⟨a, Az', cz', Bz', dz'⟩⟩) _ HP'.out Tryz.underlying55 rfl (by kernel_rfl)) (by assumption) ?_
      try simp only [Act.put, List.setIfInBounds_toArray, List.set_cons_zero, List.set_cons_succ, List.getElem_toArray, List.getElem_cons_zero, List.getElem_cons_succ]
      refine wpAnyH_ready (rs := [8]) (by kernel_rfl) (by simp) ?_
      refine AllReadyH.cons (o := _) rfl (fun K hK => ?_) AllReadyH.nil
      go_simp
      refine (HE.out _ (Below.refl _ _).drew).mono ?_; rintro e w2 ⟨rfl, hb2⟩; have hbr2 := (Below.refl wr.heap.size wr).drew.trans hb2
      refine hK.out _ _ ?_ (fun hHeld => ?_)
      · exact hbr2
      clear hK K
      try simp only [Act.put, List.setIfInBounds_toArray, List.set_cons_zero, List.set_cons_succ, List.getElem_toArray, List.getElem_cons_zero, List.getElem_cons_succ]
      (first
        | (refine wpAnyH_take (i := 9) (v := ?_) rfl (by kernel_rfl) (by kernel_rfl) (by kernel_rfl) (fun _ _ _ h => h) (Or.inl ⟨by rfl, ?_⟩) (by assumption) ?_
           rotate_left
           focus (intro wq hSq; (try dsimp only at hSq); go_simp; (try (with_reducible rfl)); done))
        | (refine wpAnyH_take (i := 9) (v := undef) rfl (by kernel_rfl) (by kernel_rfl) (by kernel_rfl) (fun _ _ _ h => h) (Or.inr ⟨by rfl, rfl⟩) (by assumption) ?_)
        | fail "take 9")
      try simp only [Act.put, List.setIfInBounds_toArray, List.set_cons_zero, List.set_cons_succ, List.getElem_toArray, List.getElem_cons_zero, List.getElem_cons_succ]
      refine wpAnyH_done (by kernel_rfl) ?_ _
      clear hHeld
      go_wp2_with fail
      go_roundw
      case rel => exact ⟨k + 1, by omega, by go_num, hbw.trans (hbr2.mono hbw.size)⟩
      case measure => simp [intOf]; omega
    · go_wp2_with fail
      go_ret
      exact ⟨rfl, hbw⟩
end Go.Proofs.YtafojijhfbnehaaGreatDoor
