/- RpG: several of my texts in one. -/
import Derived.Test.YtpfnnjcochhklaaGreatDoorOwnAll
import Derived.Test.YtpfnnjcochhklaaGreatDoorCfAn

/- ReplaceAid: one aid of a list is written anew; the reference's l12Replace. -/
namespace Go.Proofs.YtpfnnjcochhklaaGreatDoor
open Go.RowKit
theorem own_all {base g n c sz : Nat} {e : TypeId} : ∀ (us : List Value) (p : Nat) (w : World) (ys : List Value), w.ownsRow base e sz (.slice (some ⟨g, 0, none⟩) n c) n ys → (w.setCells g p us).ownsRow base e sz (.slice (some ⟨g, 0, none⟩) n c) n (setAll ys p us) ∧ w.grownBy (w.setCells g p us) (some g)
  | [], _, _, _, h => ⟨h, grown_refl _ _⟩
  | u :: r, p, w, ys, h => by
    have s := h.stored p u
    have t := own_all r (p + 1) _ _ s.1
    exact ⟨t.1, grown_trans s.2 t.2⟩
theorem AidOwn.len' {w : World} {base n c : Nat} {A : Option Addr} {zs : List AidG} (h : AidOwn w base (.slice A n c) n zs) : zs.length = n := (Sl.of_own h.own).len AidG.cells 16 AidG.cells_len (by omega)
theorem AidOwn.there {w : World} {base g n c : Nat} {zs : List AidG} (h : AidOwn w base (.slice (some ⟨g, 0, none⟩) n c) n zs) {k : Nat} (hk : k < n) : w.there g (k * 16) 16 := fun j hj => by
  obtain ⟨v, hv⟩ := own_cell h.own (k * 16 + j) (by omega)
  exact ⟨by rw [hv]; rfl, h.own.frozenAt _⟩
theorem AidOwn.setAt {w : World} {base g n c : Nat} {zs : List AidG} {z : AidG} (h : AidOwn w base (.slice (some ⟨g, 0, none⟩) n c) n zs) (hz : AidNew w base z) {k : Nat} (hk : k < n) :
    AidOwn (w.setCells g (k * 16) z.cells) base (.slice (some ⟨g, 0, none⟩) n c) n (zs.set k z) ∧ w.grownBy (w.setCells g (k * 16) z.cells) (some g) := by
  have t := own_all z.cells (k * 16) w _ h.own
  rw [flat_set AidG.cells 16 AidG.cells_len zs k z (by rw [h.len']; exact hk)] at t
  refine ⟨⟨t.1, fun y hy => ?_⟩, t.2⟩
  rcases List.mem_or_eq_of_mem_set hy with h2 | h2
  · exact (h.new y h2).grown h.own t.2
  · subst h2
    exact hz.grown h.own t.2
def rpL (l : List AidX) (a : AidX) : List AidX := (fdN l a.num).elim [] (fun k => l.set k a)
def rpK (l : List AidX) (a : AidX) : Int := (fdN l a.num).elim 3 (fun _ => 0)
set_option maxRecDepth 100000 in
set_option maxHeartbeats 2000000 in
theorem l12Replace_c (A : Option Addr) (n c : Nat) (zs : List AidG) (b o : Nat) (z : AidG) (w : World) (h : AidSl w A n zs) (hm : n ≤ 1048576) (hz : AidOk w z) (hp : AidP w b o z) :
    Calls Tryz.prog 75 #[.slice A n c, .pointer (some ⟨b, o, none⟩)] w fun e w' => ∃ A' n' c' zs', e = .returned (.tuple #[.slice A' n' c', .int .i64 (rpK (zs.map AidG.a) z.a)]) ∧ zs'.map AidG.a = rpL (zs.map AidG.a) z.a ∧ AidOwn w' w.heap.size (.slice A' n' c') n' zs' ∧ Below w.heap.size w w' := by
  have hl := h.len
  have hF := l12Find_c A n c zs z.a.num w h hm
  have hOA := l12OwnAll_c A n c zs w h hm
  obtain ⟨F, hFd⟩ : ∃ F, fdN (zs.map AidG.a) z.a.num = F := ⟨_, rfl⟩
  have hFl : ∀ k, F = some k → k < n := fun k hk => by
    obtain ⟨a, _, _, h3⟩ := fdN_at (hFd.trans hk)
    rw [List.length_map] at h3; omega
  have hL : rpL (zs.map AidG.a) z.a = F.elim [] (fun k => (zs.map AidG.a).set k z.a) := by rw [rpL, hFd]
  have hK : rpK (zs.map AidG.a) z.a = F.elim 3 (fun _ => 0) := by rw [rpK, hFd]
  rw [hL, hK]
  rw [hFd] at hF
  clear hL hK hFd
  have c0 := hp.c0
  have HF := Lib.hid hF; clear hF
  have HOA := Lib.hid hOA; clear hOA
  have Hl := Lib.hid hl; clear hl
  have HFl := Lib.hid hFl; clear hFl
  have HP := Lib.hid hp; clear hp
  have HZ := Lib.hid hz; clear hz
  cases F with
  | none =>
    go_enter Tryz.func75, Tryz.ntmps75
    go_wp2_with fail
    refine HF.out.mono ?_
    rintro e w1 ⟨rfl, rfl⟩
    simp only [Option.elim_none]
    go_wp2_with fail
    go_ret2
    exact ⟨none, 0, 0, [], rfl, rfl, ⟨World.ownsRow_nil _ _ _ _, fun y hy => by cases hy⟩, Below.refl _ _⟩
  | some k =>
    have hkn := HFl.out k rfl
    have k0 : (0 : Int) ≤ (k : Int) := by omega
    have k1 : (k : Int) < (n : Int) := by omega
    go_enter Tryz.func75, Tryz.ntmps75
    go_wp2_with fail
    refine HF.out.mono ?_
    rintro e w1 ⟨rfl, rfl⟩
    simp only [Option.elim_some]
    go_wp2_with fail
    refine HOA.out.mono ?_
    rintro e w2 ⟨A2, c2, zs2, rfl, hx2, hO2, hb2⟩
    obtain ⟨g, rfl, hg1, hg2⟩ := own_form hO2.own (by omega)
    have hOw := l12Own_c b o z w2 (HZ.out.next hb2) (HP.out.next hb2)
    have HOw := Lib.hid hOw; clear hOw
    have HO2 := Lib.hid hO2; clear hO2
    have Hx2 := Lib.hid hx2; clear hx2
    clear c0
    go_wp2_with fail
    refine HOw.out.mono ?_
    rintro e w3 ⟨z3, rfl, ha3, hN3, hb3⟩
    have hO3 := HO2.out.next hb3
    have T3 := hO3.there hkn
    have hS := hO3.setAt (hN3.base hb2.size) hkn
    have hb23 := hb2.trans (hb3.mono hb2.size)
    have hb4 : Below w.heap.size w (w3.setCells g (k * 16) z3.cells) := hb23.grown hS.2 hb23.size fun q hq => by
      injection hq with hq
      omega
    have ONE : (List.toArray z3.cells).all (·.oneCell') = true := all_oneCell_toArray (aidg_one _)
    obtain ⟨w4, hw4⟩ : ∃ w4, w3.setCells g (k * 16) z3.cells = w4 := ⟨_, rfl⟩
    rw [hw4] at hS hb4
    have HT3 := Lib.hid T3; clear T3
    have HONE := Lib.hid ONE; clear ONE
    have HW4 := Lib.hid hw4; clear hw4
    have HS := Lib.hid hS; clear hS
    clear hO3 hN3
    go_wp2_with (first | (refine wpList_store_mid rfl _ _ _ rfl g (k * 16) (List.toArray z3.cells) rfl rfl HT3.out (by kernel_rfl) HONE.out ?_; rw [show w3.setCells g (k * 16) (List.toArray z3.cells).toList = w4 from HW4.out]))
    go_ret2
    exact ⟨_, n, c2, zs2.set k z3, rfl, by rw [List.map_set, Hx2.out, ha3]; rfl, HS.out.1, hb4⟩
end Go.Proofs.YtpfnnjcochhklaaGreatDoor

/- ReplaceAid: both sides. -/
namespace Go.Proofs.YtpfnnjcochhklaaGreatDoor
open Go.RowKit
end Go.Proofs.YtpfnnjcochhklaaGreatDoor

/- DropAid: one aid of a list is left out; the reference. -/
namespace Go.Proofs.YtpfnnjcochhklaaGreatDoor
open Go.RowKit
def drL (l : List AidX) (v : Int) : List AidX := (fdN l v).elim [] (fun k => l.take k ++ l.drop (k + 1))
def drK (l : List AidX) (v : Int) : Int := (fdN l v).elim 3 (fun _ => 0)
theorem drop_aids (zs : List AidG) (k : Nat) : (zs.flatMap AidG.cells).drop (k * 16) = (zs.drop k).flatMap AidG.cells := by
  induction zs generalizing k with
  | nil => simp
  | cons y ys ih =>
    cases k with
    | zero => simp
    | succ k =>
      rw [List.flatMap_cons, List.drop_append, List.drop_eq_nil_of_le (by rw [AidG.cells_len]; omega), AidG.cells_len, show (k + 1) * 16 - 16 = k * 16 by omega, ih, List.drop_succ_cons, List.nil_append]
theorem aids_one (zs : List AidG) : ∀ u ∈ zs.flatMap AidG.cells, u.oneCell' = true := flat_one AidG.cells aidg_one zs
theorem AidSl.pre {w : World} {A : Option Addr} {n : Nat} {zs : List AidG} (h : AidSl w A n zs) (k : Nat) (hk : k ≤ n) : AidSl w A k (zs.take k) := ⟨h.sl.pre AidG.cells 16 AidG.cells_len k hk, fun z hz => h.ok z (List.mem_of_mem_take hz)⟩
theorem AidSl.suf {w : World} {b off n : Nat} {zs : List AidG} (h : AidSl w (some ⟨b, off, none⟩) n zs) (k : Nat) (hk : k ≤ n) : AidSl w (some ⟨b, off + k * 16, none⟩) (n - k) (zs.drop k) := by
  have hl := h.len
  refine ⟨⟨by rw [flat_len AidG.cells 16 AidG.cells_len, List.length_drop, hl], fun hn => ?_⟩, fun z hz => h.ok z (List.mem_of_mem_drop hz)⟩
  obtain ⟨b', off', e, hb, hc⟩ := h.sl.2 (by omega)
  injection e with e
  injection e with e1 e2
  subst e1 e2
  refine ⟨b, off + k * 16, rfl, hb, fun j u hu => ?_⟩
  rw [← drop_aids, List.getElem?_drop] at hu
  have := hc _ u hu
  rwa [← Nat.add_assoc] at this
theorem AidSl.nil (w : World) (A : Option Addr) : AidSl w A 0 [] := ⟨⟨by simp, fun h => absurd h (by omega)⟩, fun z hz => by cases hz⟩
theorem AidOwn.append {w w' : World} {base k m : Nat} {v v' : Value} {zs1 zs2 : List AidG} (h : AidOwn w base v k zs1) (h2 : ∀ z ∈ zs2, AidNew w base z) (hg : w.grownBy w' v.ownBlock)
    (ho : w'.ownsRow base 56 16 v' (k + m) (zs1.flatMap AidG.cells ++ zs2.flatMap AidG.cells)) : AidOwn w' base v' (k + m) (zs1 ++ zs2) := by
  refine ⟨by rw [List.flatMap_append]; exact ho, fun y hy => ?_⟩
  rcases List.mem_append.1 hy with h3 | h3
  · exact (h.new y h3).grown h.own hg
  · exact (h2 y h3).grown h.own hg
set_option maxRecDepth 100000 in
set_option maxHeartbeats 2000000 in
theorem l12Drop_c (A : Option Addr) (n c : Nat) (zs : List AidG) (v : Int) (w : World) (h : AidSl w A n zs) (hm : n ≤ 1048576) (hc : n ≤ c) :
    Calls Tryz.prog 77 #[.slice A n c, .int .i64 v] w fun e w' => ∃ A' n' c' zs', e = .returned (.tuple #[.slice A' n' c', .int .i64 (drK (zs.map AidG.a) v)]) ∧ zs'.map AidG.a = drL (zs.map AidG.a) v ∧ AidOwn w' w.heap.size (.slice A' n' c') n' zs' ∧ Below w.heap.size w w' := by
  obtain ⟨i0, hi, hz0, hz1, hz2⟩ := info_parts aidInfo
  have hl := h.len
  have hF := l12Find_c A n c zs v w h hm
  obtain ⟨F, hFd⟩ : ∃ F, fdN (zs.map AidG.a) v = F := ⟨_, rfl⟩
  have hFl : ∀ k, F = some k → k < n := fun k hk => by
    obtain ⟨a, _, _, h3⟩ := fdN_at (hFd.trans hk)
    rw [List.length_map] at h3; omega
  have hL : drL (zs.map AidG.a) v = F.elim [] (fun k => (zs.map AidG.a).take k ++ (zs.map AidG.a).drop (k + 1)) := by rw [drL, hFd]
  have hK : drK (zs.map AidG.a) v = F.elim 3 (fun _ => 0) := by rw [drK, hFd]
  rw [hL, hK]
  rw [hFd] at hF
  clear hL hK hFd
  have HF := Lib.hid hF; clear hF
  have Hl := Lib.hid hl; clear hl
  have HFl := Lib.hid hFl; clear hFl
  cases F with
  | none =>
    go_enter Tryz.func77, Tryz.ntmps77
    go_wp2_with fail
    refine HF.out.mono ?_
    rintro e w1 ⟨rfl, rfl⟩
    simp only [Option.elim_none]
    go_wp2_with fail
    go_ret2
    exact ⟨none, 0, 0, [], rfl, rfl, ⟨World.ownsRow_nil _ _ _ _, fun y hy => by cases hy⟩, Below.refl _ _⟩
  | some k =>
    have hkn := HFl.out k rfl
    obtain ⟨b, off, _, rfl, _, _, _⟩ := h.get k hkn
    obtain ⟨j, hj⟩ : ∃ j, k + 1 = j := ⟨_, rfl⟩
    simp only [Option.elim_some]
    rw [hj]
    have ej : (k : Int) + 1 = (j : Int) := by omega
    have k0 : (0 : Int) ≤ (k : Int) := by omega
    have k1 : (k : Int) < (n : Int) := by omega
    have k2 : (k : Int) ≤ (c : Int) := by omega
    have k3 : (k : Int) ≤ (n : Int) := by omega
    have j0 : (0 : Int) ≤ (j : Int) := by omega
    have j1 : (j : Int) ≤ (n : Int) := by omega
    have j2 : (j : Int) ≤ (c : Int) := by omega
    have j3 : (n : Int) ≤ (c : Int) := by omega
    have hjn : j ≤ n := by omega
    have hOA := l12OwnAll_c (some ⟨b, off, none⟩) k c (zs.take k) w (h.pre k (by omega)) (by omega)
    have e63 : k + (n - j) ≤ maxLen := by unfold maxLen; omega
    have e32 : (k + (n - j)) * 208 ≤ 140737488355328 := by omega
    have HOA := Lib.hid hOA; clear hOA
    have E63 := Lib.hid e63; clear e63
    have E32 := Lib.hid e32; clear e32
    have Hj := Lib.hid hj; clear hj
    by_cases hcj : c = j
    · obtain rfl : c = n := by omega
      subst hcj
      have f63 : k + 0 ≤ maxLen := by unfold maxLen; omega
      have f32 : (k + 0) * 208 ≤ 140737488355328 := by omega
      clear E63 E32
      have E63 := Lib.hid f63; clear f63
      have E32 := Lib.hid f32; clear f32
      have hsf : AidSl w (some ⟨b, off, none⟩) 0 (zs.drop c) := by
        rw [List.drop_eq_nil_of_le (by rw [Hl.out]; omega)]
        exact AidSl.nil _ _
      have HSF := Lib.hid hsf; clear hsf
      go_enter Tryz.func77, Tryz.ntmps77
      go_wp2_with fail
      refine HF.out.mono ?_
      rintro e w1 ⟨rfl, rfl⟩
      simp only [Option.elim_some]
      go_wp2_with fail
      refine HOA.out.mono ?_
      rintro e w2 ⟨A2, c2, zs2, rfl, hx2, hO2, hb2⟩
      have hOB := l12OwnAll_c (some ⟨b, off, none⟩) (0) (0) ((zs.drop c)) w2 (HSF.out.next hb2) (by omega)
      have HOB := Lib.hid hOB; clear hOB
      have HO2 := Lib.hid hO2; clear hO2
      have Hx2 := Lib.hid hx2; clear hx2
      go_wp2_with (first | ((with_reducible refine HOB.out.mono ?_); rintro e w3 ⟨A3, c3, zs3, rfl, hx3, hO3, hb3⟩; have HS3 := Lib.hid (Sl.of_own hO3.own); have HO23 := Lib.hid (HO2.out.next hb3); have HLE := Lib.hid (Nat.le_trans hb2.size hb3.size)) | (at_builtin; refine wpl_append _ rfl (.tmp 17) (.tmp 22) _ rfl w.heap.size 56 i0 _ 16 208 Tryz.underlying24 hi hz0 hz1 hz2 rfl (by omega) _ k _ rfl HO23.out.own w3.heap.size A3 (0) c3 _ rfl HS3.out (aids_one zs3) E63.out E32.out HLE.out ?_; intro v4 w4 ho4 hg4 hat4))
      have hbs := hb2.size
      have hO := HO23.out.append (fun z hz => (hO3.new z hz).base hbs) hg4 ho4
      have hb23 := hb2.trans (hb3.mono hb2.size)
      have hb4 : Below w.heap.size w w4 := hb23.grown hg4 hb23.size fun g hg => (HO23.out.own.lt g hg).1
      obtain ⟨A4, c4, rfl⟩ := own_slice ho4
      go_ret2
      exact ⟨A4, k + (0), c4, zs2 ++ zs3, rfl, by rw [List.map_append, Hx2.out, hx3]; simp [List.map_take, List.map_drop], hO, hb4⟩
    · have hsf := h.suf j hjn
      have HSF := Lib.hid hsf; clear hsf
      go_enter Tryz.func77, Tryz.ntmps77
      go_wp2_with fail
      refine HF.out.mono ?_
      rintro e w1 ⟨rfl, rfl⟩
      simp only [Option.elim_some]
      go_wp2_with fail
      refine HOA.out.mono ?_
      rintro e w2 ⟨A2, c2, zs2, rfl, hx2, hO2, hb2⟩
      have hOB := l12OwnAll_c (some ⟨b, off + j * 16, none⟩) ((n - j)) ((c - j)) ((zs.drop j)) w2 (HSF.out.next hb2) (by omega)
      have HOB := Lib.hid hOB; clear hOB
      have HO2 := Lib.hid hO2; clear hO2
      have Hx2 := Lib.hid hx2; clear hx2
      go_wp2_with (first | ((with_reducible refine HOB.out.mono ?_); rintro e w3 ⟨A3, c3, zs3, rfl, hx3, hO3, hb3⟩; have HS3 := Lib.hid (Sl.of_own hO3.own); have HO23 := Lib.hid (HO2.out.next hb3); have HLE := Lib.hid (Nat.le_trans hb2.size hb3.size)) | (at_builtin; refine wpl_append _ rfl (.tmp 17) (.tmp 22) _ rfl w.heap.size 56 i0 _ 16 208 Tryz.underlying24 hi hz0 hz1 hz2 rfl (by omega) _ k _ rfl HO23.out.own w3.heap.size A3 ((n - j)) c3 _ rfl HS3.out (aids_one zs3) E63.out E32.out HLE.out ?_; intro v4 w4 ho4 hg4 hat4))
      have hbs := hb2.size
      have hO := HO23.out.append (fun z hz => (hO3.new z hz).base hbs) hg4 ho4
      have hb23 := hb2.trans (hb3.mono hb2.size)
      have hb4 : Below w.heap.size w w4 := hb23.grown hg4 hb23.size fun g hg => (HO23.out.own.lt g hg).1
      obtain ⟨A4, c4, rfl⟩ := own_slice ho4
      go_ret2
      exact ⟨A4, k + ((n - j)), c4, zs2 ++ zs3, rfl, by rw [List.map_append, Hx2.out, hx3]; simp [List.map_take, List.map_drop], hO, hb4⟩
end Go.Proofs.YtpfnnjcochhklaaGreatDoor
