/- DpG: several of my texts in one. -/
import Derived.Test.YtafojijhfbnehaaGreatDoorRpG
import Derived.Test.YtafojijhfbnehaaGreatDoorMrkG
import Derived.Laws.CopyOwn
import Derived.Deep.RegionLaw
import Derived.Test.YtafojijhfbnehaaGreatDoorLsG
/- DropAid: one aid of a list is left out; the reference. -/
namespace Go.Proofs.YtafojijhfbnehaaGreatDoor
open Go.RowKit
def drL (l : List AidX) (v : Int) : List AidX := (fdN l v).elim [] (fun k => l.take k ++ l.drop (k + 1))
def drK (l : List AidX) (v : Int) : Int := (fdN l v).elim 3 (fun _ => 0)
def daL (l : List AidX) (v : Int) : List AidX := bif aidsB l then drL l v else []
def daK (l : List AidX) (v : Int) : Int := bif aidsB l then drK l v else 1
theorem drop_aids (zs : List AidG) (k : Nat) : (zs.flatMap AidG.cells).drop (k * 16) = (zs.drop k).flatMap AidG.cells := by
  induction zs generalizing k with
  | nil => simp
  | cons y ys ih =>
    cases k with
    | zero => simp
    | succ k =>
      rw [List.flatMap_cons, List.drop_append, List.drop_eq_nil_of_le (by rw [AidG.cells_len]; omega), AidG.cells_len, show (k + 1) * 16 - 16 = k * 16 by omega, ih, List.drop_succ_cons, List.nil_append]
theorem aids_one (zs : List AidG) : ∀ u ∈ zs.flatMap AidG.cells, u.oneCell' = true := flat_one AidG.cells aidg_one zs
theorem AidSl.pre {w : World} {A : Option Addr} {n : Nat} {zs : List AidG} (h : AidSl w A n zs) (k : Nat) (hk : k ≤ n) : AidSl w A k (zs.take k) := ⟨h.sl.pre AidG.cells 16 AidG.cells_len k hk, fun z hz => h.ok z (List.mem_of_mem_take hz)⟩
theorem AidSl.suf {w : World} {b off n : Nat} {zs : List AidG} (h : AidSl w (some ⟨b, off, none⟩) n zs) (k : Nat) (hk : k ≤ n) : AidSl w (some ⟨b, off + k * 16, none⟩) (n - k) (zs.drop k) := by
  have hl := h.len
  refine ⟨⟨by rw [flat_len AidG.cells 16 AidG.cells_len, List.length_drop, hl], fun hn => ?_⟩, fun z hz => h.ok z (List.mem_of_mem_drop hz)⟩
  obtain ⟨b', off', e, hb, hc⟩ := h.sl.2 (by omega)
  injection e with e
  injection e with e1 e2
  subst e1 e2
  refine ⟨b, off + k * 16, rfl, hb, fun j u hu => ?_⟩
  rw [← drop_aids, List.getElem?_drop] at hu
  have := hc _ u hu
  rwa [← Nat.add_assoc] at this
theorem AidSl.nil (w : World) (A : Option Addr) : AidSl w A 0 [] := ⟨⟨by simp, fun h => absurd h (by omega)⟩, fun z hz => by cases hz⟩
theorem AidOwn.append {w w' : World} {base k m : Nat} {v v' : Value} {zs1 zs2 : List AidG} (h : AidOwn w base v k zs1) (h2 : ∀ z ∈ zs2, AidNew w base z) (hg : w.grownBy w' v.ownBlock)
    (ho : w'.ownsRow base 53 16 v' (k + m) (zs1.flatMap AidG.cells ++ zs2.flatMap AidG.cells)) : AidOwn w' base v' (k + m) (zs1 ++ zs2) := by
  refine ⟨by rw [List.flatMap_append]; exact ho, fun y hy => ?_⟩
  rcases List.mem_append.1 hy with h3 | h3
  · exact (h.new y h3).grown h.own hg
  · exact (h2 y h3).grown h.own hg
set_option maxRecDepth 100000 in
set_option maxHeartbeats 2000000 in
theorem l12Drop_c (A : Option Addr) (n c : Nat) (zs : List AidG) (v : Int) (w : World) (h : AidSl w A n zs) (hm : n ≤ 1048576) (hc : n ≤ c) :
    Calls Tryz.prog 76 #[.slice A n c, .int .i64 v] w fun e w' => ∃ A' n' c' zs', e = .returned (.tuple #[.slice A' n' c', .int .i64 (drK (zs.map AidG.a) v)]) ∧ zs'.map AidG.a = drL (zs.map AidG.a) v ∧ AidOwn w' w.heap.size (.slice A' n' c') n' zs' ∧ Below w.heap.size w w' := by
  obtain ⟨i0, hi, hz0, hz1, hz2⟩ := info_parts aidInfo
  have hl := h.len
  have hF := l12Find_c A n c zs v w h hm
  obtain ⟨F, hFd⟩ : ∃ F, fdN (zs.map AidG.a) v = F := ⟨_, rfl⟩
  have hFl : ∀ k, F = some k → k < n := fun k hk => by
    obtain ⟨a, _, _, h3⟩ := fdN_at (hFd.trans hk)
    rw [List.length_map] at h3; omega
  have hL : drL (zs.map AidG.a) v = F.elim [] (fun k => (zs.map AidG.a).take k ++ (zs.map AidG.a).drop (k + 1)) := by rw [drL, hFd]
  have hK : drK (zs.map AidG.a) v = F.elim 3 (fun _ => 0) := by rw [drK, hFd]
  rw [hL, hK]
  rw [hFd] at hF
  clear hL hK hFd
  have HF := Lib.hid hF; clear hF
  have Hl := Lib.hid hl; clear hl
  have HFl := Lib.hid hFl; clear hFl
  cases F with
  | none =>
    go_enter Tryz.func76, Tryz.ntmps76
    go_wp2_with fail
    refine HF.out.mono ?_
    rintro e w1 ⟨rfl, rfl⟩
    simp only [Option.elim_none]
    go_wp2_with fail
    go_ret2
    exact ⟨none, 0, 0, [], rfl, rfl, ⟨World.ownsRow_nil _ _ _ _, fun y hy => by cases hy⟩, Below.refl _ _⟩
  | some k =>
    have hkn := HFl.out k rfl
    obtain ⟨b, off, _, rfl, _, _, _⟩ := h.get k hkn
    obtain ⟨j, hj⟩ : ∃ j, k + 1 = j := ⟨_, rfl⟩
    simp only [Option.elim_some]
    rw [hj]
    have ej : (k : Int) + 1 = (j : Int) := by omega
    have k0 : (0 : Int) ≤ (k : Int) := by omega
    have k1 : (k : Int) < (n : Int) := by omega
    have k2 : (k : Int) ≤ (c : Int) := by omega
    have k3 : (k : Int) ≤ (n : Int) := by omega
    have j0 : (0 : Int) ≤ (j : Int) := by omega
    have j1 : (j : Int) ≤ (n : Int) := by omega
    have j2 : (j : Int) ≤ (c : Int) := by omega
    have j3 : (n : Int) ≤ (c : Int) := by omega
    have hjn : j ≤ n := by omega
    have hOA := l12OwnAll_c (some ⟨b, off, none⟩) k c (zs.take k) w (h.pre k (by omega)) (by omega)
    have e63 : k + (n - j) ≤ maxLen := by unfold maxLen; omega
    have e32 : (k + (n - j)) * 208 ≤ 140737488355328 := by omega
    have HOA := Lib.hid hOA; clear hOA
    have E63 := Lib.hid e63; clear e63
    have E32 := Lib.hid e32; clear e32
    have Hj := Lib.hid hj; clear hj
    by_cases hcj : c = j
    · obtain rfl : c = n := by omega
      subst hcj
      have f63 : k + 0 ≤ maxLen := by unfold maxLen; omega
      have f32 : (k + 0) * 208 ≤ 140737488355328 := by omega
      clear E63 E32
      have E63 := Lib.hid f63; clear f63
      have E32 := Lib.hid f32; clear f32
      have hsf : AidSl w (some ⟨b, off, none⟩) 0 (zs.drop c) := by
        rw [List.drop_eq_nil_of_le (by rw [Hl.out]; omega)]
        exact AidSl.nil _ _
      have HSF := Lib.hid hsf; clear hsf
      go_enter Tryz.func76, Tryz.ntmps76
      go_wp2_with fail
      refine HF.out.mono ?_
      rintro e w1 ⟨rfl, rfl⟩
      simp only [Option.elim_some]
      go_wp2_with fail
      refine HOA.out.mono ?_
      rintro e w2 ⟨A2, c2, zs2, rfl, hx2, hO2, hb2⟩
      have hOB := l12OwnAll_c (some ⟨b, off, none⟩) (0) (0) ((zs.drop c)) w2 (HSF.out.next hb2) (by omega)
      have HOB := Lib.hid hOB; clear hOB
      have HO2 := Lib.hid hO2; clear hO2
      have Hx2 := Lib.hid hx2; clear hx2
      go_wp2_with (first | ((with_reducible refine HOB.out.mono ?_); rintro e w3 ⟨A3, c3, zs3, rfl, hx3, hO3, hb3⟩; have HS3 := Lib.hid (Sl.of_own hO3.own); have HO23 := Lib.hid (HO2.out.next hb3); have HLE := Lib.hid (Nat.le_trans hb2.size hb3.size)) | (at_builtin; refine wpl_append _ rfl (.tmp 17) (.tmp 22) _ rfl w.heap.size 53 i0 _ 16 208 Tryz.underlying24 hi hz0 hz1 hz2 rfl (by omega) _ k _ rfl HO23.out.own w3.heap.size A3 (0) c3 _ rfl HS3.out (aids_one zs3) E63.out E32.out HLE.out ?_; intro v4 w4 ho4 hg4 hat4))
      have hbs := hb2.size
      have hO := HO23.out.append (fun z hz => (hO3.new z hz).base hbs) hg4 ho4
      have hb23 := hb2.trans (hb3.mono hb2.size)
      have hb4 : Below w.heap.size w w4 := hb23.grown hg4 hb23.size fun g hg => (HO23.out.own.lt g hg).1
      obtain ⟨A4, c4, rfl⟩ := own_slice ho4
      go_ret2
      exact ⟨A4, k + (0), c4, zs2 ++ zs3, rfl, by rw [List.map_append, Hx2.out, hx3]; simp [List.map_take, List.map_drop], hO, hb4⟩
    · have hsf := h.suf j hjn
      have HSF := Lib.hid hsf; clear hsf
      go_enter Tryz.func76, Tryz.ntmps76
      go_wp2_with fail
      refine HF.out.mono ?_
      rintro e w1 ⟨rfl, rfl⟩
      simp only [Option.elim_some]
      go_wp2_with fail
      refine HOA.out.mono ?_
      rintro e w2 ⟨A2, c2, zs2, rfl, hx2, hO2, hb2⟩
      have hOB := l12OwnAll_c (some ⟨b, off + j * 16, none⟩) ((n - j)) ((c - j)) ((zs.drop j)) w2 (HSF.out.next hb2) (by omega)
      have HOB := Lib.hid hOB; clear hOB
      have HO2 := Lib.hid hO2; clear hO2
      have Hx2 := Lib.hid hx2; clear hx2
      go_wp2_with (first | ((with_reducible refine HOB.out.mono ?_); rintro e w3 ⟨A3, c3, zs3, rfl, hx3, hO3, hb3⟩; have HS3 := Lib.hid (Sl.of_own hO3.own); have HO23 := Lib.hid (HO2.out.next hb3); have HLE := Lib.hid (Nat.le_trans hb2.size hb3.size)) | (at_builtin; refine wpl_append _ rfl (.tmp 17) (.tmp 22) _ rfl w.heap.size 53 i0 _ 16 208 Tryz.underlying24 hi hz0 hz1 hz2 rfl (by omega) _ k _ rfl HO23.out.own w3.heap.size A3 ((n - j)) c3 _ rfl HS3.out (aids_one zs3) E63.out E32.out HLE.out ?_; intro v4 w4 ho4 hg4 hat4))
      have hbs := hb2.size
      have hO := HO23.out.append (fun z hz => (hO3.new z hz).base hbs) hg4 ho4
      have hb23 := hb2.trans (hb3.mono hb2.size)
      have hb4 : Below w.heap.size w w4 := hb23.grown hg4 hb23.size fun g hg => (HO23.out.own.lt g hg).1
      obtain ⟨A4, c4, rfl⟩ := own_slice ho4
      go_ret2
      exact ⟨A4, k + ((n - j)), c4, zs2 ++ zs3, rfl, by rw [List.map_append, Hx2.out, hx3]; simp [List.map_take, List.map_drop], hO, hb4⟩
set_option maxRecDepth 100000 in
set_option maxHeartbeats 1000000 in
theorem specDropAid_c (A : Option Addr) (n c : Nat) (zs : List AidG) (v : Int) (w : World) (h : AidSl w A n zs) (hm : n ≤ 1048576) (hc : n ≤ c) :
    Calls Tryz.prog 42 #[.slice A n c, .int .i64 v] w fun e w' => ∃ A' n' c' zs', e = .returned (.tuple #[.slice A' n' c', .int .i64 (daK (zs.map AidG.a) v)]) ∧ zs'.map AidG.a = daL (zs.map AidG.a) v ∧ AidOwn w' w.heap.size (.slice A' n' c') n' zs' ∧ Below w.heap.size w w' := by
  obtain ⟨V, hV⟩ : ∃ V, aidsB (zs.map AidG.a) = V := ⟨_, rfl⟩
  have c1 : Calls Tryz.prog 62 #[.slice A n c] w fun e w' => e = .returned (.bool V) ∧ Below w.heap.size w w' := hV ▸ l12Ok_c A n c zs w h hm
  have c2 : ∀ w1, Below w.heap.size w w1 → Calls Tryz.prog 76 #[.slice A n c, .int .i64 v] w1 fun e w' => ∃ A' n' c' zs', e = .returned (.tuple #[.slice A' n' c', .int .i64 (drK (zs.map AidG.a) v)]) ∧ zs'.map AidG.a = drL (zs.map AidG.a) v ∧ AidOwn w' w1.heap.size (.slice A' n' c') n' zs' ∧ Below w1.heap.size w1 w' := fun w1 hb => l12Drop_c A n c zs v w1 (h.next hb) hm hc
  rw [daL, daK, hV]
  clear hV h
  have C1 := Lib.hid c1; clear c1
  have C2 := Lib.hid c2; clear c2
  cases V
  · go_enter Tryz.func42, Tryz.ntmps42
    go_wp2_with fail
    refine C1.out.mono ?_
    rintro e w1 ⟨rfl, hb1⟩
    go_wp2_with fail
    go_ret2
    exact ⟨none, 0, 0, [], rfl, rfl, ⟨World.ownsRow_nil _ _ _ _, fun y hy => by cases hy⟩, hb1⟩
  · go_enter Tryz.func42, Tryz.ntmps42
    go_wp2_with fail
    refine C1.out.mono ?_
    rintro e w1 ⟨rfl, hb1⟩
    go_wp2_with fail
    refine (C2.out _ hb1).mono ?_
    rintro e w3 ⟨A', n', c', zs', rfl, hx, hO, hb3⟩
    go_wp2_with fail
    go_ret2
    exact ⟨A', n', c', zs', rfl, hx, ⟨own_base hO.own hb1.size, fun y hy => (hO.new y hy).base hb1.size⟩, hb1.trans (hb3.mono hb1.size)⟩
end Go.Proofs.YtafojijhfbnehaaGreatDoor
/- slices.Delete of one aid in a row of the call's own. -/
namespace Go.Proofs.YtafojijhfbnehaaGreatDoor
open Go.RowKit
theorem step_append_fits {P : Program} {ops : Array Oper} {o : Oper} {a : Act} {w : World} {K : Act → World → Prop} {Q : Exit → Act → World → Prop} {E : Prop} (hgd : o.guard = none) (s x : Operand) (t : TypeId)
    (ho : o.op = .call { callee := .builtin .append, args := #[s, x], argTypes := #[t, t] })
    (base : Nat) (e : TypeId) (i : TypeInfo) (size : Nat) (ht : P.underlying t = some (.slice e)) (hi : P.info? e = some i) (hsize : i.size = size)
    (g n cap : Nat) (xs : List Value) (hs : a.eval s = .slice (some ⟨g, 0, none⟩) n cap) (hown : w.ownsRow base e size (.slice (some ⟨g, 0, none⟩) n cap) n xs)
    (ad : Addr) (m c : Nat) (news : List Value) (hx : a.eval x = .slice (some ad) m c) (hl : news.length = m * size) (hnews : ∀ j u, news[j]? = some u → w.cell? (ad.add j) = some u) (h1 : ∀ u ∈ news, u.oneCell' = true) (hroom : n + m ≤ cap)
    (h : ∀ w', w'.ownsRow base e size (.slice (some ⟨g, 0, none⟩) (n + m) cap) (n + m) (xs ++ news) → w.grownBy w' (some g) → K (a.put o.dst (.slice (some ⟨g, 0, none⟩) (n + m) cap)) w') :
    if Region.wanted o (yielded ops a.tmps) = true then Oper.wp P o a w K Q else E := by
  have hw : Region.wanted o (yielded ops a.tmps) = true := by simp [Region.wanted, hgd]
  obtain ⟨w', hrun, h2, h3⟩ := run_append_fits (P := P) w base t o.type e i size ht hi hsize g n cap xs hown ad m c news hl hnews h1 hroom
  rw [if_pos hw]
  unfold Oper.wp execOp
  simp only [ho, resolve, invoke, builtin, Sem.run_bind, Sem.run_pure, Result.andThen_ok, List.map_toArray, List.map_cons, List.map_nil, hs, hx, hrun]
  exact h w' h2 h3
/-- A row cut short; a row read on up to its capacity. -/
theorem own_pre {w : World} {base : Nat} {e : TypeId} {sz n c g : Nat} {xs : List Value} (h : w.ownsRow base e sz (.slice (some ⟨g, 0, none⟩) n c) n xs) (k : Nat) (hk : k ≤ n) : w.ownsRow base e sz (.slice (some ⟨g, 0, none⟩) k c) k (xs.take (k * sz)) := by
  have e1 : k * sz ≤ n * sz := Nat.mul_le_mul_right _ hk
  rcases h.2 with ⟨h', _⟩ | ⟨g', cap, cur, hv, hb, hg, h1, h2, h3, h4⟩
  · cases h'
  · injection hv with a1 _ a3
    injection a1 with a1
    injection a1 with a1
    subst a1 a3
    exact ⟨by rw [List.length_take, h.1]; exact Nat.min_eq_left e1, .inr ⟨g, c, cur, rfl, hb, hg, by omega, h2, h3, by rw [← h4, List.take_take, Nat.min_eq_left e1]⟩⟩
theorem own_more {w : World} {base : Nat} {e : TypeId} {sz n c g : Nat} {xs : List Value} (h : w.ownsRow base e sz (.slice (some ⟨g, 0, none⟩) n c) n xs) (k : Nat) (hk : n ≤ k) (hc : k ≤ c) : ∃ ys, w.ownsRow base e sz (.slice (some ⟨g, 0, none⟩) k c) k ys ∧ ys.take (n * sz) = xs := by
  have e1 : n * sz ≤ k * sz := Nat.mul_le_mul_right _ hk
  have e2 : k * sz ≤ c * sz := Nat.mul_le_mul_right _ hc
  rcases h.2 with ⟨h', _⟩ | ⟨g', cap, cur, hv, hb, hg, h1, h2, h3, h4⟩
  · cases h'
  · injection hv with a1 _ a3
    injection a1 with a1
    injection a1 with a1
    subst a1 a3
    refine ⟨cur.toList.take (k * sz), ⟨by rw [List.length_take, Array.length_toList, h3]; exact Nat.min_eq_left e2, .inr ⟨g, c, cur, rfl, hb, hg, hc, h2, h3, rfl⟩⟩, ?_⟩
    rw [List.take_take, Nat.min_eq_left e1, h4]
theorem own_row {w : World} {base : Nat} {e : TypeId} {sz n c g : Nat} {xs : List Value} (h : w.ownsRow base e sz (.slice (some ⟨g, 0, none⟩) n c) n xs) : base ≤ g ∧ g < w.heap.size ∧ n ≤ c := by
  rcases h.2 with ⟨h', _⟩ | ⟨g', cap, cur, hv, hb, hg, h1, _⟩
  · cases h'
  · injection hv with a1 _ a3
    injection a1 with a1
    injection a1 with a1
    subst a1 a3
    exact ⟨hb, (Array.getElem?_eq_some_iff.1 hg).1, h1⟩
theorem aidZv (w : World) : (zeroValue 53).run Tryz.prog w = .ok (.agg #[.int .i64 0, .string ByteArray.empty, .int .i64 0, .int .i64 0, .int .i64 0, .int .i64 0, .string ByteArray.empty, .string ByteArray.empty, .string ByteArray.empty, .int .i64 0, .slice none 0 0, .string ByteArray.empty, .string ByteArray.empty, .int .i64 0, .slice none 0 0, .int .i64 0]) w := by kernel_rfl
set_option maxRecDepth 100000 in
set_option maxHeartbeats 2000000 in
theorem deleteA_c (base g n c i j : Nat) (hj0 : i + 1 = j) (zs : List AidG) (w : World) (h : w.ownsRow base 53 16 (.slice (some ⟨g, 0, none⟩) n c) n (zs.flatMap AidG.cells)) (hin : i < n) (hm : n ≤ 1048576) :
    Calls Tryz.prog 79 #[.slice (some ⟨g, 0, none⟩) n c, .int .i64 i, .int .i64 j] w fun e w' => e = .returned (.slice (some ⟨g, 0, none⟩) (n - 1) c) ∧ w'.ownsRow base 53 16 (.slice (some ⟨g, 0, none⟩) (n - 1) c) (n - 1) ((zs.take i ++ zs.drop j).flatMap AidG.cells) ∧ w.grownBy w' (some g) := by
  obtain ⟨i0, hi, hz0, hz1, hz2⟩ := info_parts aidInfo
  have hnc := (own_row h).2.2
  have hoA := own_next (own_pre h i (by omega)) (Below.refl _ _).drew
  rw [flat_take AidG.cells 16 AidG.cells_len] at hoA
  have hxl : zs.length = n := (Sl.of_own h).len AidG.cells 16 AidG.cells_len (by omega)
  have hl2 : ((zs.drop j).flatMap AidG.cells).length = (n - j) * 16 := by rw [flat_len AidG.cells 16 AidG.cells_len, List.length_drop, hxl]
  have hcs : ∀ q u, ((zs.drop j).flatMap AidG.cells)[q]? = some u → w.drew.cell? ⟨g, j * 16 + q, none⟩ = some u := fun q u hu => by
    rw [← drop_aids, List.getElem?_drop] at hu
    have hj : j * 16 + q < n * 16 := by rw [← h.1]; exact (List.getElem?_eq_some_iff.1 hu).1
    exact (h.cellAt (j * 16 + q) hj).trans hu
  have i1 : (i : Int) ≤ (j : Int) := by omega
  have i2 : (j : Int) ≤ (n : Int) := by omega
  have i3 : ¬ i = j := by omega
  have i4 : ((i : Int) == (j : Int)) = false := by simp; omega
  have i7 : (0 : Int) ≤ (i : Int) := by omega
  have i8 : (i : Int) ≤ (n : Int) := by omega
  have i9 : (0 : Int) ≤ (j : Int) := by omega
  have i10 : (n : Int) ≤ (c : Int) := by omega
  have i11 : (i : Int) ≤ (c : Int) := by omega
  have i12 : (j : Int) ≤ (c : Int) := by omega
  have i5 : ¬ c = i := by omega
  have hen : i + (n - j) = n - 1 := by omega
  have HoA := Lib.hid hoA; clear hoA
  have Hl2 := Lib.hid hl2; clear hl2
  have Hxl := Lib.hid hxl; clear hxl
  have Hen := Lib.hid hen; clear hen
  have Hj0 := Lib.hid hj0; clear hj0
  rcases Nat.lt_or_ge j c with hj | hj
  · have hc2 : ∀ q u, ((zs.drop j).flatMap AidG.cells)[q]? = some u → w.drew.cell? ((⟨g, j * 16, none⟩ : Addr).add q) = some u := fun q u hu => by rw [add_plain]; exact hcs q u hu
    have i6 : ¬ c = j := by omega
    have Hc2 := Lib.hid hc2; clear hc2
    clear hcs
    go_enter Tryz.func79, Tryz.ntmps79
    go_wp2_with fail
    refine wp_region_any (by kernel_rfl) (show wpAny _ _ _ _ _ _ _ (World.drew _) from ?_)
    (first
      | (refine wpAny_take (i := 0) (v := ?_) rfl (by kernel_rfl) (by kernel_rfl) (by kernel_rfl) (fun _ _ _ h => h) (Or.inl ⟨by rfl, ?_⟩) ?_
         rotate_left
         focus (intro wq; go_simp; (try (with_reducible rfl)); done))
      | fail "take 0")
    try simp only [Act.put, List.setIfInBounds_toArray, List.set_cons_zero, List.set_cons_succ, List.getElem_toArray, List.getElem_cons_zero]
    (first
      | (refine wpAny_take (i := 1) (v := ?_) rfl (by kernel_rfl) (by kernel_rfl) (by kernel_rfl) (fun _ _ _ h => h) (Or.inl ⟨by rfl, ?_⟩) ?_
         rotate_left
         focus (intro wq; go_simp; (try (with_reducible rfl)); done))
      | fail "take 1")
    try simp only [Act.put, List.setIfInBounds_toArray, List.set_cons_zero, List.set_cons_succ, List.getElem_toArray, List.getElem_cons_zero, List.getElem_cons_succ]
    (first
      | (refine wpAny_take (i := 2) (v := ?_) rfl (by kernel_rfl) (by kernel_rfl) (by kernel_rfl) (fun _ _ _ h => h) (Or.inl ⟨by rfl, ?_⟩) ?_
         rotate_left
         focus (intro wq; go_simp; (try (with_reducible rfl)); done))
      | fail "take 2")
    try simp only [Act.put, List.setIfInBounds_toArray, List.set_cons_zero, List.set_cons_succ, List.getElem_toArray, List.getElem_cons_zero, List.getElem_cons_succ]
    (first
      | (refine wpAny_take (i := 3) (v := ?_) rfl (by kernel_rfl) (by kernel_rfl) (by kernel_rfl) (fun _ _ _ h => h) (Or.inl ⟨by rfl, ?_⟩) ?_
         rotate_left
         focus (intro wq; go_simp; (try (with_reducible rfl)); done))
      | fail "take 3")
    try simp only [Act.put, List.setIfInBounds_toArray, List.set_cons_zero, List.set_cons_succ, List.getElem_toArray, List.getElem_cons_zero, List.getElem_cons_succ]
    (first
      | (refine wpAny_take (i := 4) (v := ?_) rfl (by kernel_rfl) (by kernel_rfl) (by kernel_rfl) (fun _ _ _ h => h) (Or.inl ⟨by rfl, ?_⟩) ?_
         rotate_left
         focus (intro wq; go_simp; (try (with_reducible rfl)); done))
      | fail "take 4")
    try simp only [Act.put, List.setIfInBounds_toArray, List.set_cons_zero, List.set_cons_succ, List.getElem_toArray, List.getElem_cons_zero, List.getElem_cons_succ]
    (first
      | (refine wpAny_take (i := 5) (v := ?_) rfl (by kernel_rfl) (by kernel_rfl) (by kernel_rfl) (fun _ _ _ h => h) (Or.inl ⟨by rfl, ?_⟩) ?_
         rotate_left
         focus (intro wq; go_simp; (try (with_reducible rfl)); done))
      | fail "take 5")
    try simp only [Act.put, List.setIfInBounds_toArray, List.set_cons_zero, List.set_cons_succ, List.getElem_toArray, List.getElem_cons_zero, List.getElem_cons_succ]
    refine wpAny_ready (rs := [6]) (by kernel_rfl) (by simp) ?_
    refine allReadyS_cons (o := _) rfl (fun K hK => ?_) AllReady.nil
    refine step_append_fits rfl (.tmp 22) (.tmp 25) _ rfl base 53 i0 16 Tryz.underlying24 hi hz1 g i c _ rfl HoA.out ⟨g, j * 16, none⟩ (n - j) (c - j) _ rfl Hl2.out Hc2.out (aids_one _) (by omega) ?_
    intro w2 ho2 hg2
    refine hK.out _ _ ?_
    clear hK K
    try simp only [Act.put, List.setIfInBounds_toArray, List.set_cons_zero, List.set_cons_succ, List.getElem_toArray, List.getElem_cons_zero, List.getElem_cons_succ]
    refine wpAny_ready (rs := [7]) (by kernel_rfl) (by simp) ?_
    refine allReadyS_cons (o := _) rfl (fun K hK => ?_) AllReady.nil
    go_simp
    skip
    refine hK.out _ _ ?_
    clear hK K
    try simp only [Act.put, List.setIfInBounds_toArray, List.set_cons_zero, List.set_cons_succ, List.getElem_toArray, List.getElem_cons_zero, List.getElem_cons_succ]
    refine wpAny_done (by kernel_rfl) ?_ _
    obtain ⟨m, hm'⟩ : ∃ m, i + (n - j) = m := ⟨_, rfl⟩
    rw [hm'] at ho2 ⊢
    have hme : m = n - 1 := by rw [← hm']; exact Hen.out
    have hj1 := Hj0.out
    have Hme := Lib.hid hme; clear hme
    have hmn : m < n := by have := Hme.out; omega
    have m1 : m < n := by omega
    obtain ⟨ys, ho3, hys⟩ := own_more ho2 n (by omega) (by omega)
    obtain ⟨w3, hrun, ho4, hg3⟩ := own_cleared (P := Tryz.prog) w2 base 24 53 _ 16 g n c m (c - m) ys Tryz.underlying24 aidZv rfl (by simp [Value.cells, Value.oneCell']) (by omega) ho3 m1
    rw [hys] at ho4
    have m2 : (m : Int) ≤ (n : Int) := by omega
    have m3 : ¬ m = n := by omega
    have m4 : ¬ c = m := by omega
    have Ho2 := Lib.hid ho2; clear ho2
    have Ho3 := Lib.hid ho3; clear ho3
    have Hys := Lib.hid hys; clear hys
    go_wp2_with fail
    go_ret
    refine ⟨by rw [← Hme.out]; rfl, ?_, grown_trans (grown_trans (grown_of_below (Below.refl _ _).drew) hg2) hg3⟩
    rw [← Hme.out, List.flatMap_append]
    exact ho4
  · obtain rfl : c = j := by omega
    obtain rfl : n = c := by have := Hj0.out; omega
    have hc2 : ∀ q u, ((zs.drop n).flatMap AidG.cells)[q]? = some u → w.drew.cell? ((⟨g, 0, none⟩ : Addr).add q) = some u := fun q u hu => by
      have : q < _ := (List.getElem?_eq_some_iff.1 hu).1
      rw [Hl2.out] at this; omega
    have Hc2 := Lib.hid hc2; clear hc2
    clear hcs
    have hl3 : ((zs.drop n).flatMap AidG.cells).length = 0 * 16 := by rw [Hl2.out, Nat.sub_self]
    have hen3 : i = n - 1 := by have := Hj0.out; omega
    have Hl3 := Lib.hid hl3; clear hl3
    have Hen3 := Lib.hid hen3; clear hen3
    go_enter Tryz.func79, Tryz.ntmps79
    go_wp2_with fail
    refine wp_region_any (by kernel_rfl) (show wpAny _ _ _ _ _ _ _ (World.drew _) from ?_)
    (first
      | (refine wpAny_take (i := 0) (v := ?_) rfl (by kernel_rfl) (by kernel_rfl) (by kernel_rfl) (fun _ _ _ h => h) (Or.inl ⟨by rfl, ?_⟩) ?_
         rotate_left
         focus (intro wq; go_simp; (try (with_reducible rfl)); done))
      | fail "take 0")
    try simp only [Act.put, List.setIfInBounds_toArray, List.set_cons_zero, List.set_cons_succ, List.getElem_toArray, List.getElem_cons_zero]
    (first
      | (refine wpAny_take (i := 1) (v := ?_) rfl (by kernel_rfl) (by kernel_rfl) (by kernel_rfl) (fun _ _ _ h => h) (Or.inl ⟨by rfl, ?_⟩) ?_
         rotate_left
         focus (intro wq; go_simp; (try (with_reducible rfl)); done))
      | fail "take 1")
    try simp only [Act.put, List.setIfInBounds_toArray, List.set_cons_zero, List.set_cons_succ, List.getElem_toArray, List.getElem_cons_zero, List.getElem_cons_succ]
    (first
      | (refine wpAny_take (i := 2) (v := ?_) rfl (by kernel_rfl) (by kernel_rfl) (by kernel_rfl) (fun _ _ _ h => h) (Or.inl ⟨by rfl, ?_⟩) ?_
         rotate_left
         focus (intro wq; go_simp; (try (with_reducible rfl)); done))
      | fail "take 2")
    try simp only [Act.put, List.setIfInBounds_toArray, List.set_cons_zero, List.set_cons_succ, List.getElem_toArray, List.getElem_cons_zero, List.getElem_cons_succ]
    (first
      | (refine wpAny_take (i := 3) (v := ?_) rfl (by kernel_rfl) (by kernel_rfl) (by kernel_rfl) (fun _ _ _ h => h) (Or.inl ⟨by rfl, ?_⟩) ?_
         rotate_left
         focus (intro wq; go_simp; (try (with_reducible rfl)); done))
      | fail "take 3")
    try simp only [Act.put, List.setIfInBounds_toArray, List.set_cons_zero, List.set_cons_succ, List.getElem_toArray, List.getElem_cons_zero, List.getElem_cons_succ]
    (first
      | (refine wpAny_take (i := 4) (v := ?_) rfl (by kernel_rfl) (by kernel_rfl) (by kernel_rfl) (fun _ _ _ h => h) (Or.inl ⟨by rfl, ?_⟩) ?_
         rotate_left
         focus (intro wq; go_simp; (try (with_reducible rfl)); done))
      | fail "take 4")
    try simp only [Act.put, List.setIfInBounds_toArray, List.set_cons_zero, List.set_cons_succ, List.getElem_toArray, List.getElem_cons_zero, List.getElem_cons_succ]
    (first
      | (refine wpAny_take (i := 5) (v := ?_) rfl (by kernel_rfl) (by kernel_rfl) (by kernel_rfl) (fun _ _ _ h => h) (Or.inl ⟨by rfl, ?_⟩) ?_
         rotate_left
         focus (intro wq; go_simp; (try (with_reducible rfl)); done))
      | fail "take 5")
    try simp only [Act.put, List.setIfInBounds_toArray, List.set_cons_zero, List.set_cons_succ, List.getElem_toArray, List.getElem_cons_zero, List.getElem_cons_succ]
    refine wpAny_ready (rs := [6]) (by kernel_rfl) (by simp) ?_
    refine allReadyS_cons (o := _) rfl (fun K hK => ?_) AllReady.nil
    refine step_append_fits rfl (.tmp 22) (.tmp 25) _ rfl base 53 i0 16 Tryz.underlying24 hi hz1 g i n _ rfl HoA.out ⟨g, 0, none⟩ 0 0 _ rfl Hl3.out Hc2.out (aids_one _) (by omega) ?_
    intro w2 ho2 hg2
    refine hK.out _ _ ?_
    clear hK K
    try simp only [Act.put, List.setIfInBounds_toArray, List.set_cons_zero, List.set_cons_succ, List.getElem_toArray, List.getElem_cons_zero, List.getElem_cons_succ]
    refine wpAny_ready (rs := [7]) (by kernel_rfl) (by simp) ?_
    refine allReadyS_cons (o := _) rfl (fun K hK => ?_) AllReady.nil
    go_simp
    skip
    refine hK.out _ _ ?_
    clear hK K
    try simp only [Act.put, List.setIfInBounds_toArray, List.set_cons_zero, List.set_cons_succ, List.getElem_toArray, List.getElem_cons_zero, List.getElem_cons_succ]
    refine wpAny_done (by kernel_rfl) ?_ _
    simp only [Nat.add_zero] at ho2
    have m1 : i < n := by omega
    obtain ⟨ys, ho3, hys⟩ := own_more ho2 n (by omega) (by omega)
    obtain ⟨w3, hrun, ho4, hg3⟩ := own_cleared (P := Tryz.prog) w2 base 24 53 _ 16 g n n i (n - i) ys Tryz.underlying24 aidZv rfl (by simp [Value.cells, Value.oneCell']) (by omega) ho3 m1
    rw [hys] at ho4
    have m2 : (i : Int) ≤ (n : Int) := by omega
    have m3 : ¬ i = n := by omega
    have m4 : ¬ n = i := by omega
    have Ho2 := Lib.hid ho2; clear ho2
    have Ho3 := Lib.hid ho3; clear ho3
    have Hys := Lib.hid hys; clear hys
    go_wp2_with fail
    go_ret
    refine ⟨by rw [← Hen3.out]; rfl, ?_, grown_trans (grown_trans (grown_of_below (Below.refl _ _).drew) hg2) hg3⟩
    rw [← Hen3.out, List.flatMap_append]
    exact ho4
end Go.Proofs.YtafojijhfbnehaaGreatDoor
/- DropAid: the program. -/
namespace Go.Proofs.YtafojijhfbnehaaGreatDoor
open Go.RowKit
theorem AidOwn.del {w w' : World} {base g n c i j : Nat} {zs : List AidG} (h : AidOwn w base (.slice (some ⟨g, 0, none⟩) n c) n zs)
    (ho : w'.ownsRow base 53 16 (.slice (some ⟨g, 0, none⟩) (n - 1) c) (n - 1) ((zs.take i ++ zs.drop j).flatMap AidG.cells)) (hg : w.grownBy w' (some g)) : AidOwn w' base (.slice (some ⟨g, 0, none⟩) (n - 1) c) (n - 1) (zs.take i ++ zs.drop j) :=
  ⟨ho, fun y hy => by
    rcases List.mem_append.1 hy with h2 | h2
    · exact (h.new y (List.mem_of_mem_take h2)).grown h.own hg
    · exact (h.new y (List.mem_of_mem_drop h2)).grown h.own hg⟩
theorem del_at {α : Type} {l : List α} {k i : Nat} {z : α} (hk : k < l.length) (h : (l.take k ++ l.drop (k + 1))[i]? = some z) : l[if i < k then i else i + 1]? = some z := by
  rw [List.getElem?_append, List.length_take, Nat.min_eq_left (by omega)] at h
  split at h
  · rename_i h1
    rw [if_pos h1]
    rwa [List.getElem?_take, if_pos h1] at h
  · rename_i h1
    rw [if_neg h1]
    rw [List.getElem?_drop] at h
    rwa [show k + 1 + (i - k) = i + 1 by omega] at h
theorem AidDif.del {zs : List AidG} {k : Nat} (h : AidDif zs) (hk : k < zs.length) : AidDif (zs.take k ++ zs.drop (k + 1)) := fun i j z z' hij hi hj =>
  h _ _ z z' (by split <;> split <;> omega) (del_at hk hi) (del_at hk hj)
set_option maxRecDepth 100000 in
set_option maxHeartbeats 2000000 in
theorem implDropAid_c (A : Option Addr) (n c : Nat) (zs : List AidG) (v : Int) (w : World) (h : AidSl w A n zs) (hm : n ≤ 1048576) (ht : Tab w) :
    Calls Tryz.prog 43 #[.slice A n c, .int .i64 v] w fun e w' => ∃ A' n' c' zs', e = .returned (.tuple #[.slice A' n' c', .int .i64 (daK (zs.map AidG.a) v)]) ∧ zs'.map AidG.a = daL (zs.map AidG.a) v ∧ AidOwn w' w.heap.size (.slice A' n' c') n' zs' ∧ AidDif zs' ∧ Below w.heap.size w w' := by
  have hl := h.len
  obtain ⟨V, hV⟩ : ∃ V, aidsB (zs.map AidG.a) = V := ⟨_, rfl⟩
  obtain ⟨F, hFd⟩ : ∃ F, fdN (zs.map AidG.a) v = F := ⟨_, rfl⟩
  have c1 : Calls Tryz.prog 77 #[.slice A n c] w fun e w' => e = .returned (.bool V) ∧ Below w.heap.size w w' := hV ▸ implValidAids_c A n c zs w h hm ht
  have c3 : V = true → ∀ w1, Below w.heap.size w w1 → Calls Tryz.prog 78 #[.slice A n c, .int .i64 v] w1 fun e w' => ∃ i : Nat, e = .returned (.tuple #[.int .i64 i, .bool F.isSome]) ∧ (∀ k, F = some k → i = k) ∧ Below w1.heap.size w1 w' := fun hv w1 hb => by
    have := aidOf_c A n c zs v w1 (h.next hb) hm (hV.trans hv)
    rwa [hFd] at this
  have c4 : ∀ w1, Below w.heap.size w w1 → Calls Tryz.prog 80 #[.slice A n c] w1 fun e w' => ∃ A' c' zs', e = .returned (.slice A' n c') ∧ zs'.map AidG.a = zs.map AidG.a ∧ AidOwn w' w1.heap.size (.slice A' n c') n zs' ∧ AidDif zs' ∧ Below w1.heap.size w1 w' := fun w1 hb => copyAids_c A n c zs w1 (h.next hb) hm
  have hFl : ∀ k, F = some k → k < n := fun k hk => by
    obtain ⟨a, _, _, h3⟩ := fdN_at (hFd.trans hk)
    rw [List.length_map] at h3; omega
  have hL : daL (zs.map AidG.a) v = bif V then F.elim [] (fun k => (zs.map AidG.a).take k ++ (zs.map AidG.a).drop (k + 1)) else [] := by rw [daL, hV, drL, hFd]
  have hK : daK (zs.map AidG.a) v = bif V then F.elim 3 (fun _ => 0) else 1 := by rw [daK, hV, drK, hFd]
  rw [hL, hK]
  clear hL hK hV hFd h ht
  have C1 := Lib.hid c1; clear c1
  have C3 := Lib.hid c3; clear c3
  have C4 := Lib.hid c4; clear c4
  have HFl := Lib.hid hFl; clear hFl
  have Hl := Lib.hid hl; clear hl
  cases V
  · go_enter Tryz.func43, Tryz.ntmps43
    go_wp2_with fail
    refine C1.out.mono ?_
    rintro e w1 ⟨rfl, hb1⟩
    go_wp2_with fail
    go_ret2
    exact ⟨none, 0, 0, [], rfl, rfl, ⟨World.ownsRow_nil _ _ _ _, fun y hy => by cases hy⟩, AidDif.nil, hb1⟩
  have C3b := Lib.hid (C3.out rfl)
  clear C3
  cases F with
  | none =>
    go_enter Tryz.func43, Tryz.ntmps43
    go_wp2_with fail
    refine C1.out.mono ?_
    rintro e w1 ⟨rfl, hb1⟩
    go_wp2_with fail
    refine (C3b.out _ hb1).mono ?_
    rintro e w3 ⟨i, rfl, _, hb3⟩
    replace hb3 := hb1.trans (hb3.mono hb1.size)
    simp only [Option.isSome_none]
    go_wp2_with fail
    go_ret2
    exact ⟨none, 0, 0, [], rfl, rfl, ⟨World.ownsRow_nil _ _ _ _, fun y hy => by cases hy⟩, AidDif.nil, hb3⟩
  | some k =>
    have hkn := HFl.out k rfl
    obtain ⟨j, hj⟩ : ∃ j, k + 1 = j := ⟨_, rfl⟩
    have k0 : (0 : Int) ≤ (k : Int) := by omega
    have k1 : (k : Int) < (n : Int) := by omega
    have ej : (k : Int) + 1 = (j : Int) := by omega
    have Hj := Lib.hid hj; clear hj
    go_enter Tryz.func43, Tryz.ntmps43
    go_wp2_with fail
    refine C1.out.mono ?_
    rintro e w1 ⟨rfl, hb1⟩
    go_wp2_with fail
    refine (C3b.out _ hb1).mono ?_
    rintro e w3 ⟨i, rfl, hik, hb3⟩
    obtain rfl := hik k rfl
    replace hb3 := hb1.trans (hb3.mono hb1.size)
    simp only [Option.isSome_some]
    go_wp2_with fail
    refine (C4.out _ hb3).mono ?_
    rintro e w4 ⟨A4, c4, zs4, rfl, hx4, hO4, hd4, hb4⟩
    obtain ⟨g, rfl, hg1, hg2⟩ := own_form hO4.own (by omega)
    have hb34 := hb3.trans (hb4.mono hb3.size)
    have hDel := deleteA_c w3.heap.size g n c4 i j Hj.out zs4 w4 hO4.own hkn hm
    have hl4 := hO4.len'
    have HDel := Lib.hid hDel; clear hDel
    have HO4 := Lib.hid hO4; clear hO4
    have Hx4 := Lib.hid hx4; clear hx4
    have Hl4 := Lib.hid hl4; clear hl4
    go_wp2_with fail
    refine HDel.out.mono ?_
    rintro e w5 ⟨rfl, ho5, hg5⟩
    have hO5 := HO4.out.del ho5 hg5
    have hb5 : Below w.heap.size w w5 := hb34.grown hg5 hb34.size fun q hq => by
      injection hq with hq
      have := hb3.size
      omega
    have hbs := hb3.size
    go_wp2_with fail
    go_ret2
    refine ⟨_, n - 1, c4, _, rfl, ?_, ⟨own_base hO5.own hbs, fun y hy => (hO5.new y hy).base hbs⟩, ?_, hb5⟩
    · rw [List.map_append, List.map_take, List.map_drop, Hx4.out, ← Hj.out]; rfl
    · rw [← Hj.out]; exact hd4.del (by rw [Hl4.out]; exact hkn)
end Go.Proofs.YtafojijhfbnehaaGreatDoor
/- The walk of the law FnExactDropAid. -/
namespace Go.Proofs.YtafojijhfbnehaaGreatDoor
open Go.RowKit
theorem dp_mem {l : List AidX} {v : Int} {a : AidX} (h : a ∈ daL l v) : a ∈ l := by
  unfold daL at h
  cases hB : aidsB l <;> rw [hB] at h
  · simp at h
  · simp only [cond_true] at h
    unfold drL at h
    cases hF : fdN l v with
    | none => rw [hF] at h; simp at h
    | some k =>
      rw [hF] at h
      simp only [Option.elim_some] at h
      rcases List.mem_append.1 h with h | h
      · exact List.mem_of_mem_take h
      · exact List.mem_of_mem_drop h
theorem dp_len (l : List AidX) (v : Int) : (daL l v).length ≤ l.length := by
  unfold daL
  cases aidsB l
  · simp
  · simp only [cond_true]
    unfold drL
    cases fdN l v with
    | none => simp
    | some k => simp only [Option.elim_some, List.length_append, List.length_take, List.length_drop]; omega
set_option maxRecDepth 100000 in
set_option maxHeartbeats 8000000 in
theorem lawDropAid_c (A : Option Addr) (n c : Nat) (zs : List AidG) (v : Int) (w : World) (h : Sl w w.heap.size 16 A n (zs.flatMap AidG.cells) ∧ ∀ z ∈ zs, AidRd w z) (hm : n ≤ maxLen) (ht : Tab w) :
    Calls Tryz.prog 9 #[.slice A n c, .int .i64 v] w fun e w' => e = .returned (.bool true) ∧ Below w.heap.size w w' := by
  go_enter Tryz.func9, Tryz.ntmps9
  go_wp2_with fail
  refine (szAidS_c A n c zs _ _ h.1 hm h.2 (by omega) (by omega)).mono ?_
  rintro e w1 ⟨r, rfl, hr, hb1⟩
  have Hr := Lib.hid hr; clear hr
  go_wp2_with fail
  · go_ret
    exact ⟨rfl, hb1⟩
  have hbd : (∀ z ∈ zs, AidBd z.a) ∧ n ≤ 1048576 := by
    rcases Hr.out with h3 | ⟨h3, h4, h5⟩
    · omega
    · exact ⟨h5, by omega⟩
  obtain ⟨bd, hn⟩ := hbd
  clear Hr
  have s0 : AidSl w A n zs := ⟨h.1, fun z hz => (h.2 z hz).ok (bd z hz)⟩
  obtain ⟨L, hL⟩ : ∃ L, daL (zs.map AidG.a) v = L := ⟨_, rfl⟩
  obtain ⟨K0, hK0⟩ : ∃ K, daK (zs.map AidG.a) v = K := ⟨_, rfl⟩
  obtain ⟨R, hRL⟩ : ∃ R, L.length = R := ⟨_, rfl⟩
  have bdL : ∀ a ∈ L, AidBd a := fun a ha => by
    rw [← hL] at ha
    obtain ⟨z, hz, rfl⟩ := List.mem_map.1 (dp_mem ha)
    exact bd z hz
  have hR : R ≤ 1048576 := by
    have h1 := dp_len (zs.map AidG.a) v
    rw [hL, hRL, List.length_map, s0.len] at h1
    omega
  have hT : ∀ w', Below w.heap.size w w' → Calls Tryz.prog 33 #[.slice A n c] w' fun e w'' => ∃ A' c' zs', e = .returned (.slice A' n c') ∧ Hid (zs'.map AidG.a = zs.map AidG.a) ∧ Hid (AidOwn w'' w'.heap.size (.slice A' n c') n zs') ∧ AidSl w'' A' n zs' ∧ Below w'.heap.size w' w'' := fun w' hb => by
    refine (toAidS_c A n c zs w' (s0.next hb) hn).mono ?_
    rintro e w'' ⟨v', zs', he, hx, ho, hb'⟩
    obtain ⟨A', c', rfl⟩ := own_slice ho.own
    exact ⟨A', c', zs', he, Lib.hid hx, Lib.hid ho, ho.sl (bd_of hx bd), hb'⟩
  have hS : ∀ w' A' c' zs', AidSl w' A' n zs' → n ≤ c' → zs'.map AidG.a = zs.map AidG.a → Calls Tryz.prog 42 #[.slice A' n c', .int .i64 v] w' fun e w'' => ∃ A1 c1 zs1, e = .returned (.tuple #[.slice A1 R c1, .int .i64 K0]) ∧ Hid (zs1.map AidG.a = L) ∧ Hid (AidOwn w'' w'.heap.size (.slice A1 R c1) R zs1) ∧ Below w'.heap.size w' w'' := fun w' A' c' zs' hs hc hx => by
    refine (specDropAid_c A' n c' zs' v w' hs hn hc).mono ?_
    rintro e w'' ⟨A1, n1, c1, zs1, he, ha, hO, hb⟩
    rw [hx, hL] at ha
    have hn1 : n1 = R := by rw [← hRL, ← ha, List.length_map, hO.len']
    subst hn1
    rw [hx, hK0] at he
    exact ⟨A1, c1, zs1, he, Lib.hid ha, Lib.hid hO, hb⟩
  have hI : ∀ w' A' c' zs', AidSl w' A' n zs' → zs'.map AidG.a = zs.map AidG.a → Below w.heap.size w w' → Calls Tryz.prog 43 #[.slice A' n c', .int .i64 v] w' fun e w'' => ∃ A1 c1 zs1, e = .returned (.tuple #[.slice A1 R c1, .int .i64 K0]) ∧ Hid (zs1.map AidG.a = L) ∧ Hid (AidOwn w'' w'.heap.size (.slice A1 R c1) R zs1) ∧ Hid (AidDif zs1) ∧ Below w'.heap.size w' w'' := fun w' A' c' zs' hs hx hbb => by
    refine (implDropAid_c A' n c' zs' v w' hs hn (ht.next hbb)).mono ?_
    rintro e w'' ⟨A1, n1, c1, zs1, he, ha, hO, hd, hb⟩
    rw [hx, hL] at ha
    have hn1 : n1 = R := by rw [← hRL, ← ha, List.length_map, hO.len']
    subst hn1
    rw [hx, hK0] at he
    exact ⟨A1, c1, zs1, he, Lib.hid ha, Lib.hid hO, Lib.hid hd, hb⟩
  have hbz : ∀ zs' : List AidG, zs'.map AidG.a = zs.map AidG.a → ∀ z ∈ zs', z.n ≤ 1048576 ∧ z.m ≤ 1048576 := fun zs' hx => gmOf (bd_of hx bd)
  clear hL hK0 hRL bd ht s0 h
  have HT := Lib.hid hT; clear hT
  have HS := Lib.hid hS; clear hS
  have HI := Lib.hid hI; clear hI
  have HBz := Lib.hid hbz; clear hbz
  have HBL := Lib.hid bdL; clear bdL
  refine (HT.out _ hb1).mono ?_
  rintro e w2 ⟨A2, c2, zs2, rfl, E2, O2, s2, hb2⟩
  have hc2 := own_le O2.out.own
  replace hb2 := hb1.trans (hb2.mono hb1.size)
  clear hb1 O2
  have HC2 := Lib.hid hc2; clear hc2
  go_wp2_with fail
  refine (HS.out _ A2 c2 zs2 s2 HC2.out E2.out).mono ?_
  rintro e w3 ⟨AW, cW, zsW, rfl, EW, HW, hb3⟩
  have HWl := Lib.hid HW.out.lt
  replace hb3 := hb2.trans (hb3.mono hb2.size)
  clear hb2 s2 E2 HC2
  as_aux_lemma =>
    go_wp2_with fail
    refine (HT.out _ hb3).mono ?_
    rintro e w5 ⟨A5, c5, zs5, rfl, E5, HO5, s5, hb5⟩
    have HW5 := Lib.hid (HW.out.next hb5)
    have HOl := Lib.hid HO5.out.lt
    have hz35 := hb5.size
    have b5 := hb3.trans (hb5.mono hb3.size)
    clear HW hb5
    go_wp2_with fail
    refine (HI.out _ A5 c5 zs5 s5 E5.out b5).mono ?_
    rintro e w6 ⟨AG, cG, zsG, rfl, EG, HG, HD, hb6⟩
    have HW6 := Lib.hid (HW5.out.next hb6)
    have HO6 := Lib.hid (HO5.out.next hb6)
    have s6 := s5.next hb6
    have b6 := b5.trans (hb6.mono b5.size)
    have hz56 := hb6.size
    clear HW5 HO5 s5 hb6
    as_aux_lemma =>
      go_wp2_with fail
      refine (eqAidS_c AG AW R cG cW zsG zsW _ (HG.out.sl (bdOf HBL.out EG.out)) (HW6.out.sl (bdOf HBL.out EW.out)) (EG.out.trans EW.out.symm) hR).mono ?_
      rintro e w7 ⟨rfl, hb7⟩
      have HW7 := Lib.hid (HW6.out.next hb7)
      have HO7 := Lib.hid (HO6.out.next hb7)
      have HG7 := Lib.hid (HG.out.next hb7)
      have s7 := s6.next hb7
      have b7 := b6.trans (hb7.mono b6.size)
      have hz57 := Nat.le_trans hz56 hb7.size
      clear HW6 HO6 HG s6 b6 hb7 hz56
      go_wp2_with fail
      refine (HT.out _ b7).mono ?_
      rintro e w8 ⟨A8, c8, zs8, rfl, E8, _, s8, hb8⟩
      have HW8 := Lib.hid (HW7.out.next hb8)
      have HO8 := Lib.hid (HO7.out.next hb8)
      have HG8 := Lib.hid (HG7.out.next hb8)
      replace s7 := s7.next hb8
      have b8 := b7.trans (hb8.mono b7.size)
      have hz58 := Nat.le_trans hz57 hb8.size
      clear HW7 HO7 HG7 b7 hb8 hz57
      go_wp2_with fail
      refine (eqAidS_c A5 A8 n c5 c8 zs5 zs8 _ s7 s8 (E5.out.trans E8.out.symm) hn).mono ?_
      rintro e w9 ⟨rfl, hb9⟩
      have HW9 := Lib.hid (HW8.out.next hb9)
      have HO9 := Lib.hid (HO8.out.next hb9)
      have HG9 := Lib.hid (HG8.out.next hb9)
      have b9 := b8.trans (hb9.mono b8.size)
      have hz59 := Nat.le_trans hz58 hb9.size
      clear HW8 HO8 HG8 b8 hb9 hz58 s7 s8 E8
      as_aux_lemma =>
        go_wp2_with fail
        refine (markAidS_c A5 n c5 zs5 w3.heap.size w5.heap.size _ HO9.out hn (HBz.out zs5 E5.out) HOl.out.v HOl.out.z).mono ?_
        rintro e w10 ⟨K1, rfl, hr, _, _⟩
        have HW10 := Lib.hid (HW9.out.rngLo hr HWl.out)
        have HG10 := Lib.hid (HG9.out.rngHi hr (Nat.le_refl _))
        have b10 := below_rng b9 hr hb3.size b9.size
        have hz510 := Nat.le_trans hz59 hr.size
        have hneg : ¬ ((K1 : Int) < 0) := by omega
        clear HW9 HG9 HO9 b9 hr HOl E5 hz59
        go_wp2_with fail
        refine (eqAidS_c AG AW R cG cW zsG zsW _ (HG10.out.sl (bdOf HBL.out EG.out)) (HW10.out.sl (bdOf HBL.out EW.out)) (EG.out.trans EW.out.symm) hR).mono ?_
        rintro e w11 ⟨rfl, hb11⟩
        have HW11 := Lib.hid (HW10.out.next hb11)
        have HG11 := Lib.hid (HG10.out.next hb11)
        have b11 := b10.trans (hb11.mono b10.size)
        have hz511 := Nat.le_trans hz510 hb11.size
        clear HW10 HG10 b10 hb11 hz510 hneg
        as_aux_lemma =>
          go_wp2_with fail
          refine (markAidSW_c AG R cG zsG w5.heap.size _ HG11.out HD.out hR (gmOf (bdOf HBL.out EG.out)) hz511).mono ?_
          rintro e w12 ⟨rfl, hG12, hb12⟩
          obtain ⟨M, hM⟩ : ∃ M, mkK zsG 1 = M := ⟨_, rfl⟩
          have hH : ∀ w', AidOwn w' w5.heap.size (.slice AG R cG) R (mkL zsG 1) → Calls Tryz.prog 44 #[.slice AG R cG, .int .i64 1] w' fun e w'' => e = .returned (.int .i64 (M : Nat)) ∧ Below w'.heap.size w' w'' := fun w' h => by
            have := heldAidS_c AG R cG zsG w5.heap.size w' h hR (gmOf (bdOf HBL.out EG.out))
            rwa [hM] at this
          rw [hM]
          clear hM
          have HW12 := Lib.hid (HW11.out.belowB hb12 (HWl.out.more hz35))
          have b12 := b11.trans (hb12.mono b5.size)
          have hneg : ¬ ((M : Int) < 0) := by omega
          have HG12 := Lib.hid hG12; clear hG12
          have HH := Lib.hid hH; clear hH
          clear HW11 HG11 b11 hb12 hz511 HWl
          go_wp2_with fail
          refine (HH.out _ HG12.out).mono ?_
          rintro e w13 ⟨rfl, hb13⟩
          have HW13 := Lib.hid (HW12.out.next hb13)
          have HG13 := Lib.hid (HG12.out.next hb13)
          have b13 := b12.trans (hb13.mono b12.size)
          clear HW12 HG12 b12 hb13
          as_aux_lemma =>
            go_wp2_with fail
            refine (HT.out _ b13).mono ?_
            rintro e w14 ⟨A14, c14, zs14, rfl, E14, _, s14, hb14⟩
            have HW14 := Lib.hid (HW13.out.next hb14)
            have HG14 := Lib.hid (HG13.out.next hb14)
            have b14 := b13.trans (hb14.mono b13.size)
            clear HW13 HG13 b13 hb14
            go_wp2_with fail
            refine (HI.out _ A14 c14 zs14 s14 E14.out b14).mono ?_
            rintro e w15 ⟨AH, cH, zsH, rfl, EH, HH', _, hb15⟩
            have HW15 := Lib.hid (HW14.out.next hb15)
            have HG15 := Lib.hid (HG14.out.next hb15)
            have b15 := b14.trans (hb15.mono b14.size)
            clear HW14 HG14 b14 hb15 s14 E14
            go_wp2_with fail
            refine (eqAidS_c AH AW R cH cW zsH zsW _ (HH'.out.sl (bdOf HBL.out EH.out)) (HW15.out.sl (bdOf HBL.out EW.out)) (EH.out.trans EW.out.symm) hR).mono ?_
            rintro e w16 ⟨rfl, hb16⟩
            have HG16 := Lib.hid (HG15.out.next hb16)
            have b16 := b15.trans (hb16.mono b15.size)
            clear HW15 HG15 b15 hb16 HH' EH
            go_wp2_with fail
            refine (HH.out _ HG16.out).mono ?_
            rintro e w17 ⟨rfl, hb17⟩
            have b17 := b16.trans (hb17.mono b16.size)
            go_wp2_with fail
            go_ret
            exact ⟨rfl, b17⟩
end Go.Proofs.YtafojijhfbnehaaGreatDoor
