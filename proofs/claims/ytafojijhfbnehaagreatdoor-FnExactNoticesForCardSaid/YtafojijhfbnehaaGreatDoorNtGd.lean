/- NtGd: several of my texts in one. -/
import Derived.Test.YtafojijhfbnehaaGreatDoorMrkH
import Derived.Test.YtafojijhfbnehaaGreatDoorNtsLaw
import Derived.Test.YtafojijhfbnehaaGreatDoorNtGc
/- The marks that a law lays over a list of notices: what they change. -/
namespace Go.Proofs.YtafojijhfbnehaaGreatDoor
open Go.RowKit
theorem dropSet {ys xs : List Value} {p q : Nat} {v : Value} (h : ys.drop p = xs.drop p) (hq : q < p) : (ys.set q v).drop p = xs.drop p := by
  rw [List.drop_set, if_pos hq, h]
theorem dropMore {ys xs : List Value} {p q : Nat} (h : ys.drop p = xs.drop p) (hp : p ≤ q) : ys.drop q = xs.drop q := by
  have : ys.drop q = (ys.drop p).drop (q - p) := by rw [List.drop_drop]; congr 1; omega
  rw [this, h, List.drop_drop]; congr 1; omega
theorem dropAt {ys xs : List Value} {p q : Nat} (h : ys.drop p = xs.drop p) (hp : p ≤ q) : ys[q]? = xs[q]? := by
  have h1 : (ys.drop p)[q - p]? = (xs.drop p)[q - p]? := by rw [h]
  rw [List.getElem?_drop, List.getElem?_drop, show p + (q - p) = q by omega] at h1
  exact h1
structure NMk (w0 w : World) (base hi g n c o : Nat) (z : AidG) (zs : List NtG) (ys : List Value) : Prop where
  own : w.ownsRow base 55 20 (.slice (some ⟨g, 0, none⟩) n c) n ys
  s14 : ys[o + 14]? = some (.slice z.A z.n z.c)
  s18 : ys[o + 18]? = some (.slice z.B z.m z.d)
  all : ∀ z' ∈ zs, OwnAny w base 2 1 z'.z.n (.slice z'.z.A z'.z.n z'.z.c) ∧ OwnAny w base 140 3 z'.z.m (.slice z'.z.B z'.z.m z'.z.d)
  tail : ys.drop (o + 20) = (zs.flatMap NtG.cells).drop (o + 20)
  rng : Rng base hi w0 w
  gb : base ≤ g ∧ g < hi
section
variable {w0 w w' : World} {base hi g n c o : Nat} {z : AidG} {zs : List NtG} {ys : List Value}
theorem NMk.next (h : NMk w0 w base hi g n c o z zs ys) (hb : Below w.heap.size w w') : NMk w0 w' base hi g n c o z zs ys :=
  ⟨own_next h.own hb, h.s14, h.s18, fun z' hz => ⟨(h.all z' hz).1.next hb, (h.all z' hz).2.next hb⟩, h.tail, h.rng.trans (rng_below hb), h.gb⟩
theorem NMk.store (h : NMk w0 w base hi g n c o z zs ys) (i : Nat) (u : Value) (h20 : i < 20) (h10 : i ≠ 14) (h14 : i ≠ 18) : NMk w0 (w.setCell ⟨g, o + i, none⟩ u) base hi g n c o z zs (ys.set (o + i) u) := by
  have s := h.own.stored (o + i) u
  refine ⟨s.1, by rw [List.getElem?_set_ne (by omega)]; exact h.s14, by rw [List.getElem?_set_ne (by omega)]; exact h.s18, fun z' hz => ⟨(h.all z' hz).1.grown h.own s.2 (by decide), (h.all z' hz).2.grown h.own s.2 (by decide)⟩, dropSet h.tail (by omega), h.rng.trans (rng_grown s.2 fun k hk => ?_), h.gb⟩
  have : g = k := by simpa using hk
  have := h.gb
  omega
theorem NMk.y (h : NMk w0 w base hi g n c o z zs ys) (i : Nat) (h20 : i < 20) (ho : o + 20 ≤ n * 20) : ∃ v, w.cell? ⟨g, o + i, none⟩ = some v := by
  obtain ⟨v, hv⟩ := own_cell h.own (o + i) (by omega)
  exact ⟨_, hv⟩
theorem NMk.c10 (h : NMk w0 w base hi g n c o z zs ys) (ho : o + 20 ≤ n * 20) : w.cell? ⟨g, o + 14, none⟩ = some (.slice z.A z.n z.c) := (h.own.cellAt _ (by omega)).trans h.s14
theorem NMk.c14 (h : NMk w0 w base hi g n c o z zs ys) (ho : o + 20 ≤ n * 20) : w.cell? ⟨g, o + 18, none⟩ = some (.slice z.B z.m z.d) := (h.own.cellAt _ (by omega)).trans h.s18
theorem NMk.mark (h : NMk w0 w base hi g n c o z zs ys) {e : TypeId} {sz m : Nat} {v : Value} {us us' : List Value} (hu : w.ownsRow base e sz v m us) (hu' : w'.ownsRow base e sz v m us') (hg : w.grownBy w' v.ownBlock) (hne : 55 ≠ e) (hr : ∀ k, v.ownBlock = some k → k < hi) : NMk w0 w' base hi g n c o z zs ys :=
  ⟨own_grown h.own hg (own_ne h.own hu hne), h.s14, h.s18, fun z' hz => ⟨ownAny_mark (h.all z' hz).1 hu hu' hg, ownAny_mark (h.all z' hz).2 hu hu' hg⟩, h.tail, h.rng.trans (rng_grown hg fun k hk => ⟨(hu.lt k hk).1, hr k hk⟩), h.gb⟩
end
set_option maxRecDepth 100000 in
set_option maxHeartbeats 4000000 in
theorem markNoticeS_c (A : Option Addr) (n c : Nat) (zs : List NtG) (base hi : Nat) (w : World) (h : NtOwn w base (.slice A n c) n zs) (hm : n ≤ 1048576) (hz : ∀ z ∈ zs, z.z.n ≤ 1048576 ∧ z.z.m ≤ 1048576)
    (hA : ∀ k, (Value.slice A n c).ownBlock = some k → k < hi) (hG : ∀ z ∈ zs, (∀ k, (Value.slice z.z.A z.z.n z.z.c).ownBlock = some k → k < hi) ∧ ∀ k, (Value.slice z.z.B z.z.m z.z.d).ownBlock = some k → k < hi) :
    Calls Tryz.prog 41 #[.slice A n c, .int .i64 1] w fun e w' => ∃ K : Nat, e = .returned (.int .i64 (K : Int)) ∧ Rng base hi w w' := by
  have hl : zs.length = n := (Sl.of_own h.own).len NtG.cells 20 NtG.cells_len (by omega)
  have hall : ∀ z' ∈ zs, OwnAny w base 2 1 z'.z.n (.slice z'.z.A z'.z.n z'.z.c) ∧ OwnAny w base 140 3 z'.z.m (.slice z'.z.B z'.z.m z'.z.d) := fun z hz => ⟨⟨_, (h.new z hz).g⟩, ⟨_, (h.new z hz).s⟩⟩
  have hown0 := h.own
  clear h
  have Hl := Lib.hid hl; clear hl
  have Hz := Lib.hid hz; clear hz
  have HG := Lib.hid hG; clear hG
  have HA := Lib.hid hA; clear hA
  have HAl := Lib.hid hall; clear hall
  go_enter Tryz.func41, Tryz.ntmps41
  go_wp2
  go_loopw [1, 5] (fun q i wr => ∃ (k K : Nat) (ys : List Value), k ≤ n ∧ i = .int .i64 k ∧ q = .int .i64 (K : Int) ∧ 0 < K ∧ K ≤ 1 + k * 4194322 ∧ wr.ownsRow base 55 20 (.slice A n c) n ys ∧ Hid (ys.drop (k * 20) = (zs.flatMap NtG.cells).drop (k * 20)) ∧ Hid (∀ z' ∈ zs, OwnAny wr base 2 1 z'.z.n (.slice z'.z.A z'.z.n z'.z.c) ∧ OwnAny wr base 140 3 z'.z.m (.slice z'.z.B z'.z.m z'.z.d)) ∧ Rng base hi w wr) (fun _ i _ => n - (intOf i).toNat)
  case atStart => exact ⟨0, 1, _, Nat.zero_le _, rfl, rfl, by omega, by omega, hown0, Lib.hid rfl, HAl, Rng.refl _ _ _⟩
  case round =>
    clear hown0 HAl
    obtain ⟨k, K, ys, hk, rfl, rfl, hK0, hK1, hown, Hys, Hgr, hrw⟩ := hrel
    have k0 : (0 : Int) ≤ (k : Int) := by omega
    by_cases hlt : k < n
    · have k1 : (k : Int) < (n : Int) := by omega
      obtain ⟨g, rfl, hg1, hg2⟩ := own_form hown (by omega)
      obtain ⟨z, hx⟩ : ∃ z, zs[k]? = some z := ⟨_, List.getElem?_eq_getElem (by rw [Hl.out]; omega)⟩
      have hzm := List.mem_of_getElem? hx
      obtain ⟨hzn, hzs⟩ := Hz.out z hzm
      obtain ⟨hGa, hGb⟩ := HG.out z hzm
      have ho20 : k * 20 + 20 ≤ n * 20 := by omega
      have h0 : NMk w wr base hi g n c (k * 20) z.z zs ys := ⟨hown, by rw [dropAt Hys.out (by omega), flat_at NtG.cells 20 NtG.cells_len zs k 14 z hx (by decide)]; rfl, by rw [dropAt Hys.out (by omega), flat_at NtG.cells 20 NtG.cells_len zs k 18 z hx (by decide)]; rfl, Hgr.out, dropMore Hys.out (by omega), hrw, hg1, HA.out g rfl⟩
      have fz := hown.frozenAt
      obtain ⟨y0, f0⟩ := h0.y 0 (by omega) ho20
      rw [Nat.add_zero] at f0
      obtain ⟨y1, f1⟩ := h0.y 1 (by omega) ho20
      obtain ⟨y2, f2⟩ := h0.y 2 (by omega) ho20
      obtain ⟨y3, f3⟩ := h0.y 3 (by omega) ho20
      obtain ⟨y4, f4⟩ := h0.y 4 (by omega) ho20
      have h1 := ((((h0.store 0 (.int .i64 (K : Int)) (by omega) (by omega) (by omega)).store 1 (.int .i64 ((K + 1 : Nat) : Int)) (by omega) (by omega) (by omega)).store 2 (.int .i64 ((K + 2 : Nat) : Int)) (by omega) (by omega) (by omega)).store 3 (.int .i64 ((K + 3 : Nat) : Int)) (by omega) (by omega) (by omega)).store 4 (.int .i64 ((K + 4 : Nat) : Int)) (by omega) (by omega) (by omega)
      clear h0 hown Hys Hgr hrw
      have Hx := Lib.hid hx; clear hx
      have H1 := Lib.hid h1; clear h1
      have HGa := Lib.hid hGa; clear hGa
      have HGb := Lib.hid hGb; clear hGb
      go_wp2_with fail
      clear f1 f2 f3 f4 f0 fz
      refine (markText_c (K + 5) _ (by omega) (by omega)).mono ?_
      rintro e w2 ⟨rfl, hb⟩
      have h2 := (H1.out).next hb
      have fz := (h2).own.frozenAt
      clear hb
      obtain ⟨y5, f5⟩ := h2.y 5 (by omega) ho20
      obtain ⟨y6, f6⟩ := h2.y 6 (by omega) ho20
      obtain ⟨y7, f7⟩ := h2.y 7 (by omega) ho20
      obtain ⟨y8, f8⟩ := h2.y 8 (by omega) ho20
      obtain ⟨y9, f9⟩ := h2.y 9 (by omega) ho20
      have h3 := ((((h2.store 5 (.string (markT (K + 5))) (by omega) (by omega) (by omega)).store 6 (.int .i64 ((K + 6 : Nat) : Int)) (by omega) (by omega) (by omega)).store 7 (.int .i64 ((K + 7 : Nat) : Int)) (by omega) (by omega) (by omega)).store 8 (.int .i64 ((K + 8 : Nat) : Int)) (by omega) (by omega) (by omega)).store 9 (.int .i64 ((K + 9 : Nat) : Int)) (by omega) (by omega) (by omega)
      clear h2
      have H3 := Lib.hid h3; clear h3
      go_wp2_with fail
      clear f5 f6 f7 f8 f9 fz
      refine (markText_c (K + 10) _ (by omega) (by omega)).mono ?_
      rintro e w3 ⟨rfl, hb⟩
      have h4 := (H3.out).next hb
      have fz := (h4).own.frozenAt
      clear hb
      obtain ⟨y10, f10⟩ := h4.y 10 (by omega) ho20
      have h5 := h4.store 10 (.string (markT (K + 10))) (by omega) (by omega) (by omega)
      clear h4
      have H5 := Lib.hid h5; clear h5
      go_wp2_with fail
      clear f10 fz
      refine (markText_c (K + 11) _ (by omega) (by omega)).mono ?_
      rintro e w4 ⟨rfl, hb⟩
      have h6 := (H5.out).next hb
      have fz := (h6).own.frozenAt
      clear hb
      obtain ⟨y11, f11⟩ := h6.y 11 (by omega) ho20
      have h7 := h6.store 11 (.string (markT (K + 11))) (by omega) (by omega) (by omega)
      clear h6
      have H7 := Lib.hid h7; clear h7
      go_wp2_with fail
      clear f11 fz
      refine (markText_c (K + 12) _ (by omega) (by omega)).mono ?_
      rintro e w5 ⟨rfl, hb⟩
      have h8 := (H7.out).next hb
      have fz := (h8).own.frozenAt
      clear hb
      obtain ⟨y12, f12⟩ := h8.y 12 (by omega) ho20
      obtain ⟨y13, f13⟩ := h8.y 13 (by omega) ho20
      have c10 := h8.c10 ho20
      have h9 := (h8.store 12 (.string (markT (K + 12))) (by omega) (by omega) (by omega)).store 13 (.int .i64 ((K + 13 : Nat) : Int)) (by omega) (by omega) (by omega)
      clear h8
      obtain ⟨us, hus⟩ := (h9.all z hzm).1
      have H9 := Lib.hid h9; clear h9
      have HUs := Lib.hid hus; clear hus
      go_wp2_with fail
      clear f12 f13 fz c10
      refine (markInt64S_c z.z.A z.z.n z.z.c (K + 14) base us _ HUs.out hzn (by omega)).mono ?_
      rintro e w6 ⟨rfl, hu', hgu⟩
      have h10 := H9.out.mark HUs.out hu' hgu (by decide) HGa.out
      clear hu' hgu
      have H10 := Lib.hid h10; clear h10
      go_wp2_with fail
      refine (markText_c (K + 14 + z.z.n) _ (by omega) (by omega)).mono ?_
      rintro e w7 ⟨rfl, hb⟩
      have h11 := (H10.out).next hb
      have fz := (h11).own.frozenAt
      clear hb
      obtain ⟨y15, f15⟩ := h11.y 15 (by omega) ho20
      have h12 := h11.store 15 (.string (markT (K + 14 + z.z.n))) (by omega) (by omega) (by omega)
      clear h11
      have H12 := Lib.hid h12; clear h12
      go_wp2_with fail
      clear f15 fz
      refine (markText_c (K + 14 + z.z.n + 1) _ (by omega) (by omega)).mono ?_
      rintro e w8 ⟨rfl, hb⟩
      have h13 := (H12.out).next hb
      have fz := (h13).own.frozenAt
      clear hb
      obtain ⟨y16, f16⟩ := h13.y 16 (by omega) ho20
      obtain ⟨y17, f17⟩ := h13.y 17 (by omega) ho20
      have c14 := h13.c14 ho20
      have h14 := (h13.store 16 (.string (markT (K + 14 + z.z.n + 1))) (by omega) (by omega) (by omega)).store 17 (.int .i64 ((K + 14 + z.z.n + 1 + 1 : Nat) : Int)) (by omega) (by omega) (by omega)
      clear h13
      obtain ⟨vs, hvs⟩ := (h14.all z hzm).2
      have H14 := Lib.hid h14; clear h14
      have HVs := Lib.hid hvs; clear hvs
      go_wp2_with fail
      clear f16 f17 fz c14
      refine (markSectorS_c z.z.B z.z.m z.z.d (K + 14 + z.z.n + 1 + 1 + 1) base vs _ HVs.out hzs (by omega) (by omega)).mono ?_
      rintro e w9 ⟨rfl, hv', hgv⟩
      have h15 := H14.out.mark HVs.out hv' hgv (by decide) HGb.out
      clear hv' hgv
      obtain ⟨y19, f19⟩ := h15.y 19 (by omega) ho20
      have fz := h15.own.frozenAt
      have h16 := h15.store 19 (.int .i64 ((K + 14 + z.z.n + 1 + 1 + 1 + 3 * z.z.m : Nat) : Int)) (by omega) (by omega) (by omega)
      clear h15
      have H16 := Lib.hid h16; clear h16
      go_wp2_with fail
      go_roundw
      case rel =>
        exact ⟨k + 1, K + 14 + z.z.n + 1 + 1 + 1 + 3 * z.z.m + 1, _, by omega, by go_num, by first | rfl | go_num, by omega, by omega, H16.out.own, Lib.hid (by have := H16.out.tail; rwa [show k * 20 + 20 = (k + 1) * 20 by omega] at this), Lib.hid H16.out.all, H16.out.rng⟩
      case measure => simp [intOf]; omega
    · go_wp2
      go_ret
      exact ⟨K, rfl, hrw⟩
end Go.Proofs.YtafojijhfbnehaaGreatDoor
/- NoticesFor: both sides. -/
namespace Go.Proofs.YtafojijhfbnehaaGreatDoor
open Go.RowKit
def abB (a : NtA) (v : Int) : Bool := (((a.1.k == 1) || (a.1.k == 2)) && (a.2.num == v)) || ((a.1.k == 3) && (a.1.t == v))
def nfP (l : List NtA) (v : Int) : List Int := (l.filter fun a => abB a v).map fun a => a.1.m
def nfL (l : List NtA) (v : Int) : List Int := bif ntsB l then nfP l v else []
def nfK (l : List NtA) : Int := bif ntsB l then 0 else 1
theorem nfP_len (l : List NtA) (v : Int) : (nfP l v).length ≤ l.length := by rw [nfP, List.length_map]; exact List.length_filter_le _ _
theorem nfP_next {l : List NtA} {k : Nat} {a : NtA} (h : l[k]? = some a) (v : Int) : nfP (l.take (k + 1)) v = nfP (l.take k) v ++ (bif abB a v then [a.1.m] else []) := by
  rw [nfP, List.take_add_one, h, List.filter_append, List.map_append, nfP]
  congr 1
  cases hb : abB a v
  · simp [hb]
  · simp [hb]
set_option maxRecDepth 100000 in
set_option maxHeartbeats 2000000 in
theorem l21About_c (b off : Nat) (x : NtX) (z : AidG) (v : Int) (w : World) (hp : NtP w b off x z) :
    Calls Tryz.prog 75 #[.pointer (some ⟨b, off, none⟩), .int .i64 v] w fun e w' => e = .returned (.bool (abB (x, z.a) v)) ∧ w = w' := by
  obtain ⟨m, d, k, t⟩ := x
  obtain ⟨_, _, k2, k3, hA⟩ := hp
  have k4 := hA.c0
  clear hA
  simp only at k2 k3
  show Calls _ _ _ _ fun e w' => e = .returned (.bool ((((k == 1) || (k == 2)) && (z.a.num == v)) || ((k == 3) && (t == v)))) ∧ w = w'
  cases h1 : (k == 1) <;> cases h2 : (k == 2) <;> cases h3 : (z.a.num == v) <;> cases h4 : (k == 3) <;> cases h5 : (t == v)
  all_goals
    go_enter Tryz.func75, Tryz.ntmps75
    go_wp2
    go_ret
    exact ⟨rfl, rfl⟩
set_option maxRecDepth 100000 in
set_option maxHeartbeats 4000000 in
theorem specNf_c (A : Option Addr) (n c : Nat) (zs : List NtG) (v : Int) (w : World) (h : NtSl w A n zs) (hm : n ≤ 1048576) (hc : n ≤ c) :
    Calls Tryz.prog 39 #[.slice A n c, .int .i64 v] w fun e w' => ∃ A' c', e = .returned (.tuple #[.slice A' (nfL (zs.map NtG.a) v).length c', .int .i64 (nfK (zs.map NtG.a))]) ∧ w'.ownsRow w.heap.size 2 1 (.slice A' (nfL (zs.map NtG.a) v).length c') (nfL (zs.map NtG.a) v).length ((nfL (zs.map NtG.a) v).flatMap intC) ∧ Below w.heap.size w w' := by
  have hl := h.len
  have hV := l21Ok_c A n c zs w h hm hc
  obtain ⟨V, hVd⟩ : ∃ V, ntsB (zs.map NtG.a) = V := ⟨_, rfl⟩
  obtain ⟨P, hP⟩ : ∃ P, nfL (zs.map NtG.a) v = P := ⟨_, rfl⟩
  obtain ⟨K, hK⟩ : ∃ K, nfK (zs.map NtG.a) = K := ⟨_, rfl⟩
  rw [hP, hK]
  rw [hVd] at hV
  obtain ⟨p0, hp, hy0, hy1, hy2⟩ := info_parts intInfo
  cases V
  · have eP : P = [] := by rw [← hP, nfL, hVd]; rfl
    have eK : K = 1 := by rw [← hK, nfK, hVd]; rfl
    subst eP eK
    clear hP hK
    have HV := Lib.hid hV; clear hV
    have HVd := Lib.hid hVd; clear hVd
    go_enter Tryz.func39, Tryz.ntmps39
    go_wp2_with fail
    refine HV.out.mono ?_
    rintro e w1 ⟨rfl, hb1⟩
    go_wp2_with fail
    go_ret2
    exact ⟨none, 0, rfl, World.ownsRow_nil _ _ _ _, hb1⟩
  have eP : P = nfP (zs.map NtG.a) v := by rw [← hP, nfL, hVd]; rfl
  have eK : K = 0 := by rw [← hK, nfK, hVd]; rfl
  subst eK
  clear hP hK
  have EP := Lib.hid eP; clear eP
  have HV := Lib.hid hV; clear hV
  have HVd := Lib.hid hVd; clear hVd
  have Hl := Lib.hid hl; clear hl
  go_enter Tryz.func39, Tryz.ntmps39
  go_wp2_with fail
  refine HV.out.mono ?_
  rintro e w1 ⟨rfl, hb1⟩
  have hov := World.ownsRow_made (base := w1.heap.size) (e := 2) (size := 1) w1 #[] 0 (Nat.le_refl _) (by simp [maxLen]) rfl
  have hbv : Below w1.heap.size w1 (w1.alloc (.cells #[] 2)) := (Below.refl _ _).alloc (Nat.le_refl _) _
  have h1 := h.next hb1
  go_wp2_with fail
  go_loopw [6, 7] (fun o i wr => ∃ (k : Nat) (ys : List Int), k ≤ n ∧ i = .int .i64 k ∧ Hid (ys = nfP ((zs.map NtG.a).take k) v) ∧ wr.ownsRow w1.heap.size 2 1 o ys.length (ys.flatMap intC) ∧ Below w1.heap.size w1 wr) (fun _ i _ => n - (intOf i).toNat)
  case atStart => exact ⟨0, [], Nat.zero_le _, rfl, Lib.hid rfl, hov, hbv⟩
  case round =>
    clear hov hbv
    obtain ⟨k, ys, hk, rfl, Hys, hov, hbw⟩ := hrel
    obtain ⟨A3, c3, rfl⟩ := own_slice hov
    have k0 : (0 : Int) ≤ (k : Int) := by omega
    by_cases hlt : k < n
    · have k1 : (k : Int) < (n : Int) := by omega
      obtain ⟨b, off, g, rfl, hb, hx, _, hpp⟩ := (h1.next hbw).getR k hlt
      have hP := ntP_of hpp hb
      have hAb := l21About_c b (off + k * 20) g.x g.z v wr hP
      have k0c := hP.k0
      have hxa : (zs.map NtG.a)[k]? = some (g.x, g.z.a) := by rw [List.getElem?_map, hx]; rfl
      have hnx := nfP_next hxa v
      have hyl : ys.length ≤ k := by rw [Hys.out]; exact Nat.le_trans (nfP_len _ _) (List.length_take_le _ _)
      have e63 : ys.length + 1 ≤ maxLen := by unfold maxLen; omega
      have e32 : (ys.length + 1) * 8 ≤ 140737488355328 := by omega
      have HLE := Lib.hid hbw.size
      clear hpp hP hyl
      have E63 := Lib.hid e63; clear e63
      have E32 := Lib.hid e32; clear e32
      have Hx := Lib.hid hx; clear hx
      have Hxa := Lib.hid hxa; clear hxa
      cases hB : abB (g.x, g.z.a) v
      · rw [hB] at hAb hnx
        have HAb := Lib.hid hAb; clear hAb
        have Hnx := Lib.hid hnx; clear hnx
        have HB := Lib.hid hB; clear hB
        go_wp2_with fail
        refine HAb.out.mono ?_
        rintro e w2 ⟨rfl, rfl⟩
        go_wp2_with fail
        go_roundw
        case rel => exact ⟨k + 1, ys, by omega, by go_num, Lib.hid (by rw [Hnx.out, ← Hys.out]; simp), hov, hbw⟩
        case measure => simp [intOf]; omega
      · rw [hB] at hAb hnx
        have HAb := Lib.hid hAb; clear hAb
        have Hnx := Lib.hid hnx; clear hnx
        have HB := Lib.hid hB; clear hB
        obtain ⟨yl, hyl⟩ : ∃ q, ys.length = q := ⟨_, rfl⟩
        rw [hyl] at hov E63 E32 ⊢
        have Hyl := Lib.hid hyl; clear hyl
        go_wp2_with fail
        refine HAb.out.mono ?_
        rintro e w2 ⟨rfl, rfl⟩
        go_wp2_with (at_builtin; refine wpl_append _ rfl (.tmp 23) (.tmp 29) _ rfl (w1.heap.size) 2 p0 _ 1 8 Tryz.underlying30 hp hy0 hy1 hy2 rfl (by omega) _ (yl) _ rfl ((hov).alloc _) ((wr).heap.size + 1) (some ⟨(wr).heap.size, 0, none⟩) 1 1 (intC (g.x.m)) rfl (Sl.new (wr) 2 _ 1 1 rfl) (intC_one _) E63.out E32.out (le_alloc HLE.out _) ?_; intro v2 w2 ho2 hg2 hat2)
        have hb2 : Below w1.heap.size w1 w2 := (hbw.alloc HLE.out _).grown hg2 (le_alloc HLE.out _) fun q hq => (hov.lt q hq).1
        go_roundw
        case rel => exact ⟨k + 1, ys ++ [g.x.m], by omega, by go_num, Lib.hid (by rw [Hnx.out, ← Hys.out]; rfl), by rw [List.length_append, Hyl.out, List.flatMap_append]; exact ho2, hb2⟩
        case measure => simp [intOf]; omega
    · obtain rfl : k = n := by omega
      go_wp2_with fail
      go_ret2
      refine ⟨A3, c3, ?_, ?_, hb1.trans (hbw.mono hb1.size)⟩
      · rw [EP.out, Hys.out, List.take_of_length_le (by rw [List.length_map, Hl.out]; omega)]
        rfl
      · have : ys = P := by rw [EP.out, Hys.out, List.take_of_length_le (by rw [List.length_map, Hl.out]; omega)]
        rw [← this]
        exact own_base hov hb1.size
set_option maxRecDepth 100000 in
set_option maxHeartbeats 4000000 in
theorem implNf_c (A : Option Addr) (n c : Nat) (zs : List NtG) (v : Int) (w : World) (h : NtSl w A n zs) (hm : n ≤ 1048576) (hc : n ≤ c) (ht : Tab w) :
    Calls Tryz.prog 40 #[.slice A n c, .int .i64 v] w fun e w' => ∃ A' c', e = .returned (.tuple #[.slice A' (nfL (zs.map NtG.a) v).length c', .int .i64 (nfK (zs.map NtG.a))]) ∧ w'.ownsRow w.heap.size 2 1 (.slice A' (nfL (zs.map NtG.a) v).length c') (nfL (zs.map NtG.a) v).length ((nfL (zs.map NtG.a) v).flatMap intC) ∧ Below w.heap.size w w' := by
  have hl := h.len
  have hV := implValidNotices_c A n c zs w h hm hc ht
  obtain ⟨V, hVd⟩ : ∃ V, ntsB (zs.map NtG.a) = V := ⟨_, rfl⟩
  obtain ⟨P, hP⟩ : ∃ P, nfL (zs.map NtG.a) v = P := ⟨_, rfl⟩
  obtain ⟨K, hK⟩ : ∃ K, nfK (zs.map NtG.a) = K := ⟨_, rfl⟩
  rw [hP, hK]
  rw [hVd] at hV
  obtain ⟨p0, hp, hy0, hy1, hy2⟩ := info_parts intInfo
  cases V
  · have eP : P = [] := by rw [← hP, nfL, hVd]; rfl
    have eK : K = 1 := by rw [← hK, nfK, hVd]; rfl
    subst eP eK
    clear hP hK
    have HV := Lib.hid hV; clear hV
    have HVd := Lib.hid hVd; clear hVd
    go_enter Tryz.func40, Tryz.ntmps40
    go_wp2_with fail
    refine HV.out.mono ?_
    rintro e w1 ⟨rfl, hb1⟩
    go_wp2_with fail
    go_ret2
    exact ⟨none, 0, rfl, World.ownsRow_nil _ _ _ _, hb1⟩
  have eP : P = nfP (zs.map NtG.a) v := by rw [← hP, nfL, hVd]; rfl
  have eK : K = 0 := by rw [← hK, nfK, hVd]; rfl
  subst eK
  clear hP hK
  have EP := Lib.hid eP; clear eP
  have HV := Lib.hid hV; clear hV
  have HVd := Lib.hid hVd; clear hVd
  have Hl := Lib.hid hl; clear hl
  go_enter Tryz.func40, Tryz.ntmps40
  go_wp2_with fail
  refine HV.out.mono ?_
  rintro e w1 ⟨rfl, hb1⟩
  have hov := World.ownsRow_made (base := w1.heap.size) (e := 2) (size := 1) w1 #[] 0 (Nat.le_refl _) (by simp [maxLen]) rfl
  have hbv : Below w1.heap.size w1 (w1.alloc (.cells #[] 2)) := (Below.refl _ _).alloc (Nat.le_refl _) _
  have h1 := h.next hb1
  go_wp2_with fail
  go_loopw [6, 15] (fun o i wr => ∃ (k : Nat) (ys : List Int), k ≤ n ∧ i = .int .i64 k ∧ Hid (ys = nfP ((zs.map NtG.a).take k) v) ∧ wr.ownsRow w1.heap.size 2 1 o ys.length (ys.flatMap intC) ∧ Below w1.heap.size w1 wr) (fun _ i _ => n - (intOf i).toNat)
  case atStart => exact ⟨0, [], Nat.zero_le _, rfl, Lib.hid rfl, hov, hbv⟩
  case round =>
    clear hov hbv
    obtain ⟨k, ys, hk, rfl, Hys, hov, hbw⟩ := hrel
    obtain ⟨A3, c3, rfl⟩ := own_slice hov
    have k0 : (0 : Int) ≤ (k : Int) := by omega
    by_cases hlt : k < n
    · have k1 : (k : Int) < (n : Int) := by omega
      obtain ⟨b, off, g, rfl, hb, hx, _, hpp⟩ := (h1.next hbw).getR k hlt
      have hR5 := World.rangeAt_setCells_same _ (wr).heap.size 0 (ntL (g.x) (g.z)) (nt_there0 wr 55)
      have hb5 := belowW (wr).heap.size (Nat.le_refl _) (ntL (g.x) (g.z)) 0 _ ((Below.refl (wr).heap.size wr).alloc (Nat.le_refl _) (ntZ 55))
      have TT := nt_there0 wr 55
      have SZ : (wr).heap.size < (((wr).alloc (ntZ 55)).setCells (wr).heap.size 0 (ntL (g.x) (g.z))).heap.size := by rw [sizeW]; simp
      obtain ⟨w5, hWW⟩ : ∃ v, ((wr).alloc (ntZ 55)).setCells (wr).heap.size 0 (ntL (g.x) (g.z)) = v := ⟨_, rfl⟩
      rw [hWW] at hR5 hb5 SZ
      have OO : (List.toArray (ntL (g.x) (g.z))).all (·.oneCell') = true := all_oneCell_toArray (ntg_one ⟨g.x, g.z⟩)
      have HTT := Lib.hid TT; clear TT
      have HWW := Lib.hid hWW; clear hWW
      have HOO := Lib.hid OO; clear OO
      have hH := hasAid_c g.x g.z w5
      obtain ⟨q0, _, q2, q3, qA⟩ := ntP_of hR5 SZ
      have q4 := qA.c0
      simp only [Nat.zero_add] at q2 q3 q4
      have hxa : (zs.map NtG.a)[k]? = some (g.x, g.z.a) := by rw [List.getElem?_map, hx]; rfl
      have hnx := nfP_next hxa v
      have hyl0 : ys.length ≤ k := by rw [Hys.out]; exact Nat.le_trans (nfP_len _ _) (List.length_take_le _ _)
      obtain ⟨yl, hyl⟩ : ∃ q, ys.length = q := ⟨_, rfl⟩
      rw [hyl] at hov hyl0
      have e63 : yl + 1 ≤ maxLen := by unfold maxLen; omega
      have e32 : (yl + 1) * 8 ≤ 140737488355328 := by omega
      have hO6 : ∀ w6, Below wr.heap.size wr w6 → w6.ownsRow w1.heap.size 2 1 (.slice A3 yl c3) yl (ys.flatMap intC) := fun w6 hb6 => own_next hov hb6
      have hab : abB (g.x, g.z.a) v = ((hasAB g.x.k && (g.z.a.num == v)) || ((g.x.k == 3) && (g.x.t == v))) := rfl
      rw [hyl]
      clear qA hyl0 hov
      have Hyl := Lib.hid hyl; clear hyl
      have HP := Lib.hid hpp; clear hpp
      have HR5 := Lib.hid hR5; clear hR5
      have HO6 := Lib.hid hO6; clear hO6
      have E63 := Lib.hid e63; clear e63
      have E32 := Lib.hid e32; clear e32
      have Hx := Lib.hid hx; clear hx
      have Hxa := Lib.hid hxa; clear hxa
      cases hH1 : hasAB g.x.k
      · rw [hH1] at hH hab
        cases h4 : (g.x.k == 3)
        · rw [hab, h4] at hnx
          have HH := Lib.hid hH; clear hH
          have HH1 := Lib.hid hH1; clear hH1
          have Hab := Lib.hid hab; clear hab
          have Hnx := Lib.hid hnx; clear hnx
          go_wp2_with (first | (refine wpList_store_mid rfl _ _ _ rfl (wr).heap.size 0 (List.toArray (ntL (g.x) (g.z))) rfl rfl HTT.out (by kernel_rfl) HOO.out ?_; rw [show ((wr).alloc (ntZ 55)).setCells (wr).heap.size 0 (List.toArray (ntL (g.x) (g.z))).toList = w5 from HWW.out]) | (refine wpList_load_mid rfl _ _ rfl b (off + k * 20) rfl (NtG.cells g) _ (HP.out) Tryz.underlying55 rfl (by kernel_rfl) ?_) | (refine wpList_load_mid rfl _ _ rfl wr.heap.size (0) rfl (ntL g.x g.z) _ (HR5.out) Tryz.underlying55 rfl (by kernel_rfl) ?_))
          clear HTT HWW HOO
          refine HH.out.mono ?_
          rintro e w6 ⟨rfl, hb6⟩
          have q6 := keepC hb6 wr.heap.size SZ
          have b6 := hbw.trans ((hb5.trans (hb6.mono hb5.size)).mono hbw.size)
          have HLE := Lib.hid b6.size
          go_wp2_with fail
          go_roundw
          case rel => exact ⟨k + 1, ys, by omega, by go_num, Lib.hid (by rw [Hnx.out, ← Hys.out]; simp), by rw [Hyl.out]; exact HO6.out w6 (hb5.trans (hb6.mono hb5.size)), b6⟩
          case measure => simp [intOf]; omega
        · cases h5 : (g.x.t == v)
          · rw [hab, h4, h5] at hnx
            have HH := Lib.hid hH; clear hH
            have HH1 := Lib.hid hH1; clear hH1
            have Hab := Lib.hid hab; clear hab
            have Hnx := Lib.hid hnx; clear hnx
            go_wp2_with (first | (refine wpList_store_mid rfl _ _ _ rfl (wr).heap.size 0 (List.toArray (ntL (g.x) (g.z))) rfl rfl HTT.out (by kernel_rfl) HOO.out ?_; rw [show ((wr).alloc (ntZ 55)).setCells (wr).heap.size 0 (List.toArray (ntL (g.x) (g.z))).toList = w5 from HWW.out]) | (refine wpList_load_mid rfl _ _ rfl b (off + k * 20) rfl (NtG.cells g) _ (HP.out) Tryz.underlying55 rfl (by kernel_rfl) ?_) | (refine wpList_load_mid rfl _ _ rfl wr.heap.size (0) rfl (ntL g.x g.z) _ (HR5.out) Tryz.underlying55 rfl (by kernel_rfl) ?_))
            clear HTT HWW HOO
            refine HH.out.mono ?_
            rintro e w6 ⟨rfl, hb6⟩
            have q6 := keepC hb6 wr.heap.size SZ
            have b6 := hbw.trans ((hb5.trans (hb6.mono hb5.size)).mono hbw.size)
            have HLE := Lib.hid b6.size
            go_wp2_with fail
            go_roundw
            case rel => exact ⟨k + 1, ys, by omega, by go_num, Lib.hid (by rw [Hnx.out, ← Hys.out]; simp), by rw [Hyl.out]; exact HO6.out w6 (hb5.trans (hb6.mono hb5.size)), b6⟩
            case measure => simp [intOf]; omega
          · rw [hab, h4, h5] at hnx
            have HH := Lib.hid hH; clear hH
            have HH1 := Lib.hid hH1; clear hH1
            have Hab := Lib.hid hab; clear hab
            have Hnx := Lib.hid hnx; clear hnx
            go_wp2_with (first | (refine wpList_store_mid rfl _ _ _ rfl (wr).heap.size 0 (List.toArray (ntL (g.x) (g.z))) rfl rfl HTT.out (by kernel_rfl) HOO.out ?_; rw [show ((wr).alloc (ntZ 55)).setCells (wr).heap.size 0 (List.toArray (ntL (g.x) (g.z))).toList = w5 from HWW.out]) | (refine wpList_load_mid rfl _ _ rfl b (off + k * 20) rfl (NtG.cells g) _ (HP.out) Tryz.underlying55 rfl (by kernel_rfl) ?_) | (refine wpList_load_mid rfl _ _ rfl wr.heap.size (0) rfl (ntL g.x g.z) _ (HR5.out) Tryz.underlying55 rfl (by kernel_rfl) ?_))
            clear HTT HWW HOO
            refine HH.out.mono ?_
            rintro e w6 ⟨rfl, hb6⟩
            have q6 := keepC hb6 wr.heap.size SZ
            have b6 := hbw.trans ((hb5.trans (hb6.mono hb5.size)).mono hbw.size)
            have HLE := Lib.hid b6.size
            have HOw := Lib.hid (HO6.out w6 (hb5.trans (hb6.mono hb5.size)))
            go_wp2_with (at_builtin; refine wpl_append _ rfl (.tmp 39) (.tmp 42) _ rfl (w1.heap.size) 2 p0 _ 1 8 Tryz.underlying30 hp hy0 hy1 hy2 rfl (by omega) _ (yl) _ rfl ((HOw.out).alloc _) ((w6).heap.size + 1) (some ⟨(w6).heap.size, 0, none⟩) 1 1 (intC (g.x.m)) rfl (Sl.new (w6) 2 _ 1 1 rfl) (intC_one _) E63.out E32.out (le_alloc HLE.out _) ?_; intro v2 w2 ho2 hg2 hat2)
            have hb2 : Below w1.heap.size w1 w2 := (b6.alloc HLE.out _).grown hg2 (le_alloc HLE.out _) fun q hq => (HOw.out.lt q hq).1
            go_roundw
            case rel => exact ⟨k + 1, ys ++ [g.x.m], by omega, by go_num, Lib.hid (by rw [Hnx.out, ← Hys.out]; rfl), by rw [List.length_append, Hyl.out, List.flatMap_append]; exact ho2, hb2⟩
            case measure => simp [intOf]; omega
      · rw [hH1] at hH hab
        cases h3 : (g.z.a.num == v)
        · cases h4 : (g.x.k == 3)
          · rw [hab, h3, h4] at hnx
            have HH := Lib.hid hH; clear hH
            have HH1 := Lib.hid hH1; clear hH1
            have Hab := Lib.hid hab; clear hab
            have Hnx := Lib.hid hnx; clear hnx
            go_wp2_with (first | (refine wpList_store_mid rfl _ _ _ rfl (wr).heap.size 0 (List.toArray (ntL (g.x) (g.z))) rfl rfl HTT.out (by kernel_rfl) HOO.out ?_; rw [show ((wr).alloc (ntZ 55)).setCells (wr).heap.size 0 (List.toArray (ntL (g.x) (g.z))).toList = w5 from HWW.out]) | (refine wpList_load_mid rfl _ _ rfl b (off + k * 20) rfl (NtG.cells g) _ (HP.out) Tryz.underlying55 rfl (by kernel_rfl) ?_) | (refine wpList_load_mid rfl _ _ rfl wr.heap.size (0) rfl (ntL g.x g.z) _ (HR5.out) Tryz.underlying55 rfl (by kernel_rfl) ?_))
            clear HTT HWW HOO
            refine HH.out.mono ?_
            rintro e w6 ⟨rfl, hb6⟩
            have q6 := keepC hb6 wr.heap.size SZ
            have b6 := hbw.trans ((hb5.trans (hb6.mono hb5.size)).mono hbw.size)
            have HLE := Lib.hid b6.size
            go_wp2_with fail
            go_roundw
            case rel => exact ⟨k + 1, ys, by omega, by go_num, Lib.hid (by rw [Hnx.out, ← Hys.out]; simp), by rw [Hyl.out]; exact HO6.out w6 (hb5.trans (hb6.mono hb5.size)), b6⟩
            case measure => simp [intOf]; omega
          · cases h5 : (g.x.t == v)
            · rw [hab, h3, h4, h5] at hnx
              have HH := Lib.hid hH; clear hH
              have HH1 := Lib.hid hH1; clear hH1
              have Hab := Lib.hid hab; clear hab
              have Hnx := Lib.hid hnx; clear hnx
              go_wp2_with (first | (refine wpList_store_mid rfl _ _ _ rfl (wr).heap.size 0 (List.toArray (ntL (g.x) (g.z))) rfl rfl HTT.out (by kernel_rfl) HOO.out ?_; rw [show ((wr).alloc (ntZ 55)).setCells (wr).heap.size 0 (List.toArray (ntL (g.x) (g.z))).toList = w5 from HWW.out]) | (refine wpList_load_mid rfl _ _ rfl b (off + k * 20) rfl (NtG.cells g) _ (HP.out) Tryz.underlying55 rfl (by kernel_rfl) ?_) | (refine wpList_load_mid rfl _ _ rfl wr.heap.size (0) rfl (ntL g.x g.z) _ (HR5.out) Tryz.underlying55 rfl (by kernel_rfl) ?_))
              clear HTT HWW HOO
              refine HH.out.mono ?_
              rintro e w6 ⟨rfl, hb6⟩
              have q6 := keepC hb6 wr.heap.size SZ
              have b6 := hbw.trans ((hb5.trans (hb6.mono hb5.size)).mono hbw.size)
              have HLE := Lib.hid b6.size
              go_wp2_with fail
              go_roundw
              case rel => exact ⟨k + 1, ys, by omega, by go_num, Lib.hid (by rw [Hnx.out, ← Hys.out]; simp), by rw [Hyl.out]; exact HO6.out w6 (hb5.trans (hb6.mono hb5.size)), b6⟩
              case measure => simp [intOf]; omega
            · rw [hab, h3, h4, h5] at hnx
              have HH := Lib.hid hH; clear hH
              have HH1 := Lib.hid hH1; clear hH1
              have Hab := Lib.hid hab; clear hab
              have Hnx := Lib.hid hnx; clear hnx
              go_wp2_with (first | (refine wpList_store_mid rfl _ _ _ rfl (wr).heap.size 0 (List.toArray (ntL (g.x) (g.z))) rfl rfl HTT.out (by kernel_rfl) HOO.out ?_; rw [show ((wr).alloc (ntZ 55)).setCells (wr).heap.size 0 (List.toArray (ntL (g.x) (g.z))).toList = w5 from HWW.out]) | (refine wpList_load_mid rfl _ _ rfl b (off + k * 20) rfl (NtG.cells g) _ (HP.out) Tryz.underlying55 rfl (by kernel_rfl) ?_) | (refine wpList_load_mid rfl _ _ rfl wr.heap.size (0) rfl (ntL g.x g.z) _ (HR5.out) Tryz.underlying55 rfl (by kernel_rfl) ?_))
              clear HTT HWW HOO
              refine HH.out.mono ?_
              rintro e w6 ⟨rfl, hb6⟩
              have q6 := keepC hb6 wr.heap.size SZ
              have b6 := hbw.trans ((hb5.trans (hb6.mono hb5.size)).mono hbw.size)
              have HLE := Lib.hid b6.size
              have HOw := Lib.hid (HO6.out w6 (hb5.trans (hb6.mono hb5.size)))
              go_wp2_with (at_builtin; refine wpl_append _ rfl (.tmp 39) (.tmp 42) _ rfl (w1.heap.size) 2 p0 _ 1 8 Tryz.underlying30 hp hy0 hy1 hy2 rfl (by omega) _ (yl) _ rfl ((HOw.out).alloc _) ((w6).heap.size + 1) (some ⟨(w6).heap.size, 0, none⟩) 1 1 (intC (g.x.m)) rfl (Sl.new (w6) 2 _ 1 1 rfl) (intC_one _) E63.out E32.out (le_alloc HLE.out _) ?_; intro v2 w2 ho2 hg2 hat2)
              have hb2 : Below w1.heap.size w1 w2 := (b6.alloc HLE.out _).grown hg2 (le_alloc HLE.out _) fun q hq => (HOw.out.lt q hq).1
              go_roundw
              case rel => exact ⟨k + 1, ys ++ [g.x.m], by omega, by go_num, Lib.hid (by rw [Hnx.out, ← Hys.out]; rfl), by rw [List.length_append, Hyl.out, List.flatMap_append]; exact ho2, hb2⟩
              case measure => simp [intOf]; omega
        · rw [hab, h3] at hnx
          have HH := Lib.hid hH; clear hH
          have HH1 := Lib.hid hH1; clear hH1
          have Hab := Lib.hid hab; clear hab
          have Hnx := Lib.hid hnx; clear hnx
          go_wp2_with (first | (refine wpList_store_mid rfl _ _ _ rfl (wr).heap.size 0 (List.toArray (ntL (g.x) (g.z))) rfl rfl HTT.out (by kernel_rfl) HOO.out ?_; rw [show ((wr).alloc (ntZ 55)).setCells (wr).heap.size 0 (List.toArray (ntL (g.x) (g.z))).toList = w5 from HWW.out]) | (refine wpList_load_mid rfl _ _ rfl b (off + k * 20) rfl (NtG.cells g) _ (HP.out) Tryz.underlying55 rfl (by kernel_rfl) ?_) | (refine wpList_load_mid rfl _ _ rfl wr.heap.size (0) rfl (ntL g.x g.z) _ (HR5.out) Tryz.underlying55 rfl (by kernel_rfl) ?_))
          clear HTT HWW HOO
          refine HH.out.mono ?_
          rintro e w6 ⟨rfl, hb6⟩
          have q6 := keepC hb6 wr.heap.size SZ
          have b6 := hbw.trans ((hb5.trans (hb6.mono hb5.size)).mono hbw.size)
          have HLE := Lib.hid b6.size
          have HOw := Lib.hid (HO6.out w6 (hb5.trans (hb6.mono hb5.size)))
          go_wp2_with (at_builtin; refine wpl_append _ rfl (.tmp 39) (.tmp 42) _ rfl (w1.heap.size) 2 p0 _ 1 8 Tryz.underlying30 hp hy0 hy1 hy2 rfl (by omega) _ (yl) _ rfl ((HOw.out).alloc _) ((w6).heap.size + 1) (some ⟨(w6).heap.size, 0, none⟩) 1 1 (intC (g.x.m)) rfl (Sl.new (w6) 2 _ 1 1 rfl) (intC_one _) E63.out E32.out (le_alloc HLE.out _) ?_; intro v2 w2 ho2 hg2 hat2)
          have hb2 : Below w1.heap.size w1 w2 := (b6.alloc HLE.out _).grown hg2 (le_alloc HLE.out _) fun q hq => (HOw.out.lt q hq).1
          go_roundw
          case rel => exact ⟨k + 1, ys ++ [g.x.m], by omega, by go_num, Lib.hid (by rw [Hnx.out, ← Hys.out]; rfl), by rw [List.length_append, Hyl.out, List.flatMap_append]; exact ho2, hb2⟩
          case measure => simp [intOf]; omega
    · obtain rfl : k = n := by omega
      go_wp2_with fail
      go_ret2
      refine ⟨A3, c3, ?_, ?_, hb1.trans (hbw.mono hb1.size)⟩
      · rw [EP.out, Hys.out, List.take_of_length_le (by rw [List.length_map, Hl.out]; omega)]
        rfl
      · have : ys = P := by rw [EP.out, Hys.out, List.take_of_length_le (by rw [List.length_map, Hl.out]; omega)]
        rw [← this]
        exact own_base hov hb1.size
end Go.Proofs.YtafojijhfbnehaaGreatDoor
/- The walk of the law FnExactNoticesFor. -/
namespace Go.Proofs.YtafojijhfbnehaaGreatDoor
open Go.RowKit
theorem own_bel {w w' : World} {base B : Nat} {e : TypeId} {sz n : Nat} {v : Value} {xs : List Value} (h : w.ownsRow base e sz v n xs) (hb : Below B w w') (hl : ∀ k, v.ownBlock = some k → k < B) : w'.ownsRow base e sz v n xs := by
  obtain ⟨h1, h2⟩ := h
  refine ⟨h1, ?_⟩
  rcases h2 with h2 | ⟨g, cap, cur, hv, hbg, hg, r⟩
  · exact .inl h2
  · refine .inr ⟨g, cap, cur, hv, hbg, ?_, r⟩
    rw [hb.block g (hl g (by rw [hv]; rfl))]
    exact hg
set_option maxRecDepth 100000 in
set_option maxHeartbeats 8000000 in
theorem lawNoticesFor_c (A : Option Addr) (n c : Nat) (zs : List NtG) (v : Int) (w : World) (h : Sl w w.heap.size 20 A n (zs.flatMap NtG.cells) ∧ ∀ z ∈ zs, AidRd w z.z) (hm : n ≤ maxLen) (ht : Tab w) :
    Calls Tryz.prog 8 #[.slice A n c, .int .i64 v] w fun e w' => e = .returned (.bool true) ∧ Below w.heap.size w w' := by
  go_enter Tryz.func8, Tryz.ntmps8
  go_wp2_with fail
  refine (szNoticeS_c A n c zs _ _ h.1 hm h.2 (by omega) (by omega)).mono ?_
  rintro e w1 ⟨r, rfl, hr, hb1⟩
  have Hr := Lib.hid hr; clear hr
  go_wp2_with fail
  · go_ret
    exact ⟨rfl, hb1⟩
  have hbd : (∀ z ∈ zs, AidBd z.z.a) ∧ n ≤ 1048576 := by
    rcases Hr.out with h3 | ⟨h3, h4, h5⟩
    · omega
    · exact ⟨h5, by omega⟩
  obtain ⟨bd, hn⟩ := hbd
  clear Hr
  have s0 : NtSl w A n zs := ⟨h.1, fun z hz => (h.2 z hz).ok (bd z hz)⟩
  obtain ⟨L, hL⟩ : ∃ L, nfL (zs.map NtG.a) v = L := ⟨_, rfl⟩
  obtain ⟨K0, hK0⟩ : ∃ K, nfK (zs.map NtG.a) = K := ⟨_, rfl⟩
  obtain ⟨R, hRL⟩ : ∃ R, L.length = R := ⟨_, rfl⟩
  have hR : R ≤ 1048576 := by
    rw [← hRL, ← hL, nfL]
    cases ntsB (zs.map NtG.a)
    · simp
    · rw [cond_true]
      have h1 := nfP_len (zs.map NtG.a) v
      rw [List.length_map, s0.len] at h1
      omega
  have hR2 : R ≤ maxLen := by unfold maxLen; omega
  have hT : ∀ w', Below w.heap.size w w' → Calls Tryz.prog 26 #[.slice A n c] w' fun e w'' => ∃ A' c' zs', e = .returned (.slice A' n c') ∧ Hid (zs'.map NtG.a = zs.map NtG.a) ∧ Hid (NtOwn w'' w'.heap.size (.slice A' n c') n zs') ∧ NtSl w'' A' n zs' ∧ Hid (n ≤ c') ∧ Below w'.heap.size w' w'' := fun w' hb => by
    refine (toNoticeS_c A n c zs w' (s0.next hb) hn).mono ?_
    rintro e w'' ⟨v', zs', he, hx, ho, hb'⟩
    obtain ⟨A', c', rfl⟩ := own_slice ho.own
    exact ⟨A', c', zs', he, Lib.hid hx, Lib.hid ho, ho.sl (nbd_of hx bd), Lib.hid (nt_le ho.own), hb'⟩
  have hS : ∀ w' A' c' zs', NtSl w' A' n zs' → n ≤ c' → zs'.map NtG.a = zs.map NtG.a → Calls Tryz.prog 39 #[.slice A' n c', .int .i64 v] w' fun e w'' => ∃ A1 c1, e = .returned (.tuple #[.slice A1 R c1, .int .i64 K0]) ∧ Hid (w''.ownsRow w'.heap.size 2 1 (.slice A1 R c1) R (L.flatMap intC)) ∧ Below w'.heap.size w' w'' := fun w' A' c' zs' hs hc hx => by
    have := specNf_c A' n c' zs' v w' hs hn hc
    rw [hx, hL, hK0, hRL] at this
    refine this.mono ?_
    rintro e w'' ⟨A1, c1, he, hO, hb⟩
    exact ⟨A1, c1, he, Lib.hid hO, hb⟩
  have hI : ∀ w' A' c' zs', NtSl w' A' n zs' → n ≤ c' → zs'.map NtG.a = zs.map NtG.a → Below w.heap.size w w' → Calls Tryz.prog 40 #[.slice A' n c', .int .i64 v] w' fun e w'' => ∃ A1 c1, e = .returned (.tuple #[.slice A1 R c1, .int .i64 K0]) ∧ Hid (w''.ownsRow w'.heap.size 2 1 (.slice A1 R c1) R (L.flatMap intC)) ∧ Below w'.heap.size w' w'' := fun w' A' c' zs' hs hc hx hbb => by
    have := implNf_c A' n c' zs' v w' hs hn hc (ht.next hbb)
    rw [hx, hL, hK0, hRL] at this
    refine this.mono ?_
    rintro e w'' ⟨A1, c1, he, hO, hb⟩
    exact ⟨A1, c1, he, Lib.hid hO, hb⟩
  have hbz : ∀ zs' : List NtG, zs'.map NtG.a = zs.map NtG.a → ∀ z ∈ zs', z.z.n ≤ 1048576 ∧ z.z.m ≤ 1048576 := fun zs' hx z hz => ⟨(nbd_of hx bd z hz).gs, (nbd_of hx bd z hz).ss⟩
  clear hL hK0 hRL bd ht s0 h
  have HT := Lib.hid hT; clear hT
  have HS := Lib.hid hS; clear hS
  have HI := Lib.hid hI; clear hI
  have HBz := Lib.hid hbz; clear hbz
  refine (HT.out _ hb1).mono ?_
  rintro e w2 ⟨A2, c2, zs2, rfl, E2, _, s2, HC2, hb2⟩
  replace hb2 := hb1.trans (hb2.mono hb1.size)
  clear hb1
  go_wp2_with fail
  refine (HS.out _ A2 c2 zs2 s2 HC2.out E2.out).mono ?_
  rintro e w3 ⟨AW, cW, rfl, HW, hb3⟩
  have HWl := Lib.hid (fun (k : Nat) (hk : (Value.slice AW R cW).ownBlock = some k) => (HW.out.lt k hk).2)
  replace hb3 := hb2.trans (hb3.mono hb2.size)
  clear hb2 s2 E2 HC2
  as_aux_lemma =>
    go_wp2_with fail
    refine (HT.out _ hb3).mono ?_
    rintro e w5 ⟨A5, c5, zs5, rfl, E5, HO5, s5, HC5, hb5⟩
    have HW5 := Lib.hid (own_next HW.out hb5)
    have HO5v := Lib.hid (fun (k : Nat) (hk : (Value.slice A5 n c5).ownBlock = some k) => (HO5.out.own.lt k hk).2)
    have HO5z := Lib.hid (fun (z : NtG) (hz : z ∈ zs5) => (⟨fun k hk => ((HO5.out.new z hz).g.lt k hk).2, fun k hk => ((HO5.out.new z hz).s.lt k hk).2⟩ : (∀ k, (Value.slice z.z.A z.z.n z.z.c).ownBlock = some k → k < w5.heap.size) ∧ ∀ k, (Value.slice z.z.B z.z.m z.z.d).ownBlock = some k → k < w5.heap.size))
    have hz35 := hb5.size
    have b5 := hb3.trans (hb5.mono hb3.size)
    clear HW hb5
    go_wp2_with fail
    refine (HI.out _ A5 c5 zs5 s5 HC5.out E5.out b5).mono ?_
    rintro e w6 ⟨AG, cG, rfl, HG, hb6⟩
    have HW6 := Lib.hid (own_next HW5.out hb6)
    have HO6 := Lib.hid (HO5.out.next hb6)
    have s6 := s5.next hb6
    have b6 := b5.trans (hb6.mono b5.size)
    have hz56 := hb6.size
    clear HW5 HO5 s5 hb6 HC5
    as_aux_lemma =>
      go_wp2_with fail
      refine (eqInt64S_c AG AW R cG cW L _ (Sl.of_own HG.out) (Sl.of_own HW6.out) hR2).mono ?_
      rintro e w7 ⟨rfl, hb7⟩
      have HW7 := Lib.hid (own_next HW6.out hb7)
      have HO7 := Lib.hid (HO6.out.next hb7)
      have HG7 := Lib.hid (own_next HG.out hb7)
      have s7 := s6.next hb7
      have b7 := b6.trans (hb7.mono b6.size)
      have hz57 := Nat.le_trans hz56 hb7.size
      clear HW6 HO6 HG s6 b6 hb7 hz56
      go_wp2_with fail
      refine (HT.out _ b7).mono ?_
      rintro e w8 ⟨A8, c8, zs8, rfl, E8, _, s8, _, hb8⟩
      have HW8 := Lib.hid (own_next HW7.out hb8)
      have HO8 := Lib.hid (HO7.out.next hb8)
      have HG8 := Lib.hid (own_next HG7.out hb8)
      replace s7 := s7.next hb8
      have b8 := b7.trans (hb8.mono b7.size)
      have hz58 := Nat.le_trans hz57 hb8.size
      clear HW7 HO7 HG7 b7 hb8 hz57
      go_wp2_with fail
      refine (eqNoticeS_c A5 A8 n c5 c8 zs5 zs8 _ s7 s8 (E5.out.trans E8.out.symm) hn).mono ?_
      rintro e w9 ⟨rfl, hb9⟩
      have HW9 := Lib.hid (own_next HW8.out hb9)
      have HO9 := Lib.hid (HO8.out.next hb9)
      have HG9 := Lib.hid (own_next HG8.out hb9)
      have b9 := b8.trans (hb9.mono b8.size)
      have hz59 := Nat.le_trans hz58 hb9.size
      clear HW8 HO8 HG8 b8 hb9 hz58 s7 s8 E8
      as_aux_lemma =>
        go_wp2_with fail
        refine (markNoticeS_c A5 n c5 zs5 w3.heap.size w5.heap.size _ HO9.out hn (HBz.out zs5 E5.out) HO5v.out HO5z.out).mono ?_
        rintro e w10 ⟨K1, rfl, hr⟩
        have HW10 := Lib.hid (own_rng HW9.out hr fun k hk => .inl (HWl.out k hk))
        have HG10 := Lib.hid (own_rng HG9.out hr fun k hk => .inr (HG9.out.lt k hk).1)
        have b10 := below_rng b9 hr hb3.size b9.size
        have hz510 := Nat.le_trans hz59 hr.size
        have hneg : ¬ ((K1 : Int) < 0) := by omega
        clear HW9 HG9 HO9 b9 hr HO5v HO5z E5 hz59
        go_wp2_with fail
        refine (eqInt64S_c AG AW R cG cW L _ (Sl.of_own HG10.out) (Sl.of_own HW10.out) hR2).mono ?_
        rintro e w11 ⟨rfl, hb11⟩
        have HW11 := Lib.hid (own_next HW10.out hb11)
        have HG11 := Lib.hid (own_next HG10.out hb11)
        have b11 := b10.trans (hb11.mono b10.size)
        have hz511 := Nat.le_trans hz510 hb11.size
        clear HW10 HG10 b10 hb11 hz510 hneg
        as_aux_lemma =>
          go_wp2_with fail
          refine (markInt64S_c AG R cG 1 w5.heap.size _ _ HG11.out hR (by omega)).mono ?_
          rintro e w12 ⟨rfl, hG12, hg12⟩
          have hb12 : Below w5.heap.size w11 w12 := (Below.refl _ _).grown hg12 hz511 fun g hg => (HG11.out.lt g hg).1
          have HW12 := Lib.hid (own_bel HW11.out hb12 fun k hk => Nat.lt_of_lt_of_le (HWl.out k hk) hz35)
          have b12 := b11.trans (hb12.mono b5.size)
          have HG12 := Lib.hid hG12; clear hG12
          clear HW11 HG11 b11 hb12 hg12 hz511 HWl
          have hneg : ¬ (((1 + R : Nat) : Int) < 0) := by omega
          go_wp2_with fail
          refine (heldInt64S_c AG R cG 1 _ (Sl.of_own HG12.out) hR (by omega)).mono ?_
          rintro e w13 ⟨rfl, rfl⟩
          as_aux_lemma =>
            go_wp2_with fail
            refine (HT.out _ b12).mono ?_
            rintro e w14 ⟨A14, c14, zs14, rfl, E14, _, s14, HC14, hb14⟩
            have HW14 := Lib.hid (own_next HW12.out hb14)
            have HG14 := Lib.hid (own_next HG12.out hb14)
            have b14 := b12.trans (hb14.mono b12.size)
            clear HW12 HG12 b12 hb14
            go_wp2_with fail
            refine (HI.out _ A14 c14 zs14 s14 HC14.out E14.out b14).mono ?_
            rintro e w15 ⟨AH, cH, rfl, HH', hb15⟩
            have HW15 := Lib.hid (own_next HW14.out hb15)
            have HG15 := Lib.hid (own_next HG14.out hb15)
            have b15 := b14.trans (hb15.mono b14.size)
            clear HW14 HG14 b14 hb15 s14 E14 HC14
            go_wp2_with fail
            refine (eqInt64S_c AH AW R cH cW L _ (Sl.of_own HH'.out) (Sl.of_own HW15.out) hR2).mono ?_
            rintro e w16 ⟨rfl, hb16⟩
            have HG16 := Lib.hid (own_next HG15.out hb16)
            have b16 := b15.trans (hb16.mono b15.size)
            clear HW15 HG15 b15 hb16 HH'
            go_wp2_with fail
            refine (heldInt64S_c AG R cG 1 _ (Sl.of_own HG16.out) hR (by omega)).mono ?_
            rintro e w17 ⟨rfl, rfl⟩
            go_wp2_with fail
            go_ret
            exact ⟨rfl, b16⟩
end Go.Proofs.YtafojijhfbnehaaGreatDoor
