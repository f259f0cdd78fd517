/- LikelyLight, both sides. -/
import Derived.Test.YtgfplmfdgbklkaaLtLike
namespace Go.Proofs.Ytgfplmfdgbklkaa
open Go.RowKit
theorem fold_next {α β : Type} {f : β → α → β} {L : List α} {k : Nat} {i : α} (h : L[k]? = some i) (s : β) : (L.take (k + 1)).foldl f s = f ((L.take k).foldl f s) i := by
  rw [List.take_add_one, h, List.foldl_append]; rfl
theorem least_next {x : Ch} {o : List Ph} {tol : Int} (k : Nat) : leastF x o ((List.range (k + 1)).filter (fun (i : Nat) => fromB x o (i : Int) tol)) =
    if fromB x o (k : Int) tol = true then lstep x o (leastF x o ((List.range k).filter (fun (i : Nat) => fromB x o (i : Int) tol))) k else leastF x o ((List.range k).filter (fun (i : Nat) => fromB x o (i : Int) tol)) := by
  rw [starts_next]
  split
  · rw [leastF, List.foldl_append]; rfl
  · rw [List.append_nil]
set_option maxRecDepth 100000 in
set_option maxHeartbeats 2000000 in
theorem l17Least_c (b off : Nat) (A : Option Addr) (n c : Nat) (x : Ch) (Ao : Option Addr) (no co : Nat) (o : List Ph) (tol : Int) (w : World) (h : ChP w b off A n c x) (hv : validB x = true)
    (ho : Sl w w.heap.size 2 Ao no (o.flatMap Ph.cells)) (ok : ObsOK o no) (t0 : 0 ≤ tol) (t1 : tol ≤ 1000000) :
    Calls Try.prog 87 #[.pointer (some ⟨b, off, none⟩), .slice Ao no co, .int .i64 tol] w fun e w' => e = .returned (.int .i64 (leastF x o (startsL x o tol))) ∧ Below w.heap.size w w' := by
  have hl40 := phases_len40 (co := ⟨#[87]⟩) (valid_shape hv)
  have hcE := colB_E2 ok.col
  have hall := starts_all (tol := tol) hcE ⟨#[87]⟩ hl40
  go_enter Try.func87, Try.ntmps87
  go_wp2_with fail
  refine (l05Phases_c b off A n c x ⟨#[87]⟩ _ h hv).mono ?_
  rintro e w1 ⟨v, rfl, hoT, hb1⟩
  obtain ⟨AT, cT, rfl⟩ := own_slice hoT
  obtain ⟨N, hN⟩ : ∃ N, (phasesL x ⟨#[87]⟩).length = N := ⟨_, rfl⟩
  rw [hN] at hl40 hall ⊢
  have HN := Lib.hid hN; clear hN
  have Hall := Lib.hid hall; clear hall
  clear hoT hcE
  go_wp2_with fail
  go_loopw [7, 9] (fun l i wr => ∃ (k : Nat) (m : Int), k ≤ N ∧ i = .int .i64 k ∧ l = .int .i64 m ∧ m = leastF x o ((List.range k).filter (fun (i : Nat) => fromB x o (i : Int) tol)) ∧ Below w.heap.size w wr) (fun _ i _ => N - (intOf i).toNat)
  case atStart => exact ⟨0, _, Nat.zero_le _, rfl, rfl, rfl, hb1⟩
  case round =>
    obtain ⟨k, m, hk, rfl, rfl, hm, hbw⟩ := hrel
    have hnx := least_next (x := x) (o := o) (tol := tol) k
    rw [← hm] at hnx
    have Hm := Lib.hid hm; clear hm
    by_cases hlt : k < N
    · cases hf : fromB x o (k : Int) tol
      · rw [if_neg (by rw [hf]; simp)] at hnx
        have Hnx := Lib.hid hnx; clear hnx
        go_wp2_with fail
        refine (l17From_c b off A n c x Ao no co o (k : Int) tol _ (h.next hbw) hv (ho.next hbw) ok t0 t1).mono ?_
        rw [hf]
        rintro e w2 ⟨rfl, hb2⟩
        have Hf := Lib.hid hf; clear hf
        go_wp2_with fail
        go_roundw
        case rel => exact ⟨k + 1, m, by omega, by go_num, rfl, Hnx.out.symm, hbw.trans (hb2.mono hbw.size)⟩
        case measure => simp [intOf]; omega
      · rw [if_pos hf] at hnx
        obtain ⟨E, hE⟩ : ∃ E, errI x o (k : Int) = E := ⟨_, rfl⟩
        have hl1 : (m < 0 ∨ E < m) → lstep x o m k = E := fun h => by rw [lstep, hE, if_pos h]
        have hl2 : ¬ (m < 0 ∨ E < m) → lstep x o m k = m := fun h => by rw [lstep, hE, if_neg h]
        rw [hnx.symm] at hl1 hl2
        have Hnx := Lib.hid hnx; clear hnx
        have Hl1 := Lib.hid hl1; clear hl1
        have Hl2 := Lib.hid hl2; clear hl2
        go_wp2_with fail
        refine (l17From_c b off A n c x Ao no co o (k : Int) tol _ (h.next hbw) hv (ho.next hbw) ok t0 t1).mono ?_
        rw [hf]
        rintro e w2 ⟨rfl, hb2⟩
        have Hf := Lib.hid hf; clear hf
        have hbw2 := hbw.trans (hb2.mono hbw.size)
        go_wp2_with fail
        refine (l17Error_c b off A n c x Ao no co o (k : Int) _ (h.next hbw2) hv (ho.next hbw2) ok (by omega) (by omega)).mono ?_
        rw [hE]
        rintro e w3 ⟨rfl, hb3⟩
        have HE := Lib.hid hE; clear hE
        have hbw3 := hbw2.trans (hb3.mono hbw2.size)
        by_cases h1 : m < 0
        · go_wp2_with fail
          go_roundw
          case rel => exact ⟨k + 1, E, by omega, by go_num, rfl, (Hl1.out (.inl h1)).symm, hbw3⟩
          case measure => simp [intOf]; omega
        · by_cases h2 : E < m
          · go_wp2_with fail
            go_roundw
            case rel => exact ⟨k + 1, E, by omega, by go_num, rfl, (Hl1.out (.inr h2)).symm, hbw3⟩
            case measure => simp [intOf]; omega
          · go_wp2_with fail
            go_roundw
            case rel => exact ⟨k + 1, m, by omega, by go_num, rfl, (Hl2.out (by omega)).symm, hbw3⟩
            case measure => simp [intOf]; omega
    · go_wp2_with fail
      go_ret
      obtain rfl : k = N := by omega
      exact ⟨ret_eq (int_eq (by rw [Hm.out, Hall.out])), hbw⟩
set_option maxRecDepth 100000 in
set_option maxHeartbeats 2000000 in
theorem specLikely_c (A : Option Addr) (n c : Nat) (zs : List ChG) (Ao : Option Addr) (no co : Nat) (o : List Ph) (tol : Int) (w : World) (h : ChS w A n zs) (hm : n ≤ 1048576)
    (ho : Sl w w.heap.size 2 Ao no (o.flatMap Ph.cells)) (hno : no ≤ 1048576) :
    Calls Try.prog 39 #[.slice A n c, .slice Ao no co, .int .i64 tol] w fun e w' => e = .returned (.tuple #[.int .i64 (likeV zs o tol), .int .i64 (likeK zs o tol)]) ∧ Below w.heap.size w w' := by
  have hl := h.len
  have hlo := ho.len Ph.cells 2 Ph.cells_len (by omega)
  have Hlo := Lib.hid hlo; clear hlo
  have Hl := Lib.hid hl; clear hl
  go_enter Try.func39, Try.ntmps39
  go_wp2_with fail
  refine (l17Ask_c A n c zs Ao no co o tol _ h hm ho hno).mono ?_
  rintro e w1 ⟨rfl, hb1⟩
  obtain ⟨a, hA⟩ : ∃ a, askI zs o tol = a := ⟨_, rfl⟩
  rw [hA]
  by_cases ha : a = 0
  · subst ha
    obtain ⟨hv, hob, hti⟩ := ask_ok hA
    obtain ⟨hvz, h64⟩ := lights_valid hv
    obtain ⟨t0, t1⟩ := inB_iff.1 hti
    rw [Hl.out] at h64
    have ok := obsB_ok hob Hlo.out
    have HA := Lib.hid hA; clear hA
    have Hv := Lib.hid hv; clear hv
    have Hob := Lib.hid hob; clear hob
    have Hti := Lib.hid hti; clear hti
    have Hvz := Lib.hid hvz; clear hvz
    go_wp2_with fail
    go_loopw [9, 10, 11] (fun b l i wr => ∃ (k : Nat) (s : Int × Int), k ≤ n ∧ i = .int .i64 k ∧ b = .int .i64 s.1 ∧ l = .int .i64 s.2 ∧ s = likeN zs o tol k ∧ Below w.heap.size w wr) (fun _ _ i _ => n - (intOf i).toNat)
    case atStart => exact ⟨0, (-1, 0), Nat.zero_le _, rfl, rfl, rfl, rfl, hb1⟩
    case round =>
      obtain ⟨k, ⟨s1, s2⟩, hk, rfl, rfl, rfl, hs, hbw⟩ := hrel
      dsimp only
      by_cases hlt : k < n
      · obtain ⟨b, off, z, rfl, hx, hpz⟩ := (h.next hbw).ptr k hlt
        have hvz := Hvz.out z (List.mem_of_getElem? hx)
        have hnx := likeN_next zs o tol k
        rw [← hs, likeAt_eq hx, likeIn_eq] at hnx
        obtain ⟨d, hd⟩ : ∃ d, leastF z.x o (startsL z.x o tol) = d := ⟨_, rfl⟩
        rw [hd] at hnx
        dsimp only at hnx
        have Hs := Lib.hid hs; clear hs
        have Hx := Lib.hid hx; clear hx
        have Hnx := Lib.hid hnx; clear hnx
        go_wp2_with fail
        refine (l17Least_c b (off + k * 5) z.A z.n z.c z.x Ao no co o tol _ hpz hvz (ho.next hbw) ok t0 (by omega)).mono ?_
        rw [hd]
        rintro e w2 ⟨rfl, hb2⟩
        have Hd := Lib.hid hd; clear hd
        have hbw2 := hbw.trans (hb2.mono hbw.size)
        by_cases h1 : 0 ≤ d
        · by_cases h2 : s1 < 0
          · go_wp2_with fail
            go_roundw
            case rel => exact ⟨k + 1, ((k : Int), d), by omega, by go_num, rfl, rfl, by rw [Hnx.out, if_pos ⟨h1, .inl h2⟩], hbw2⟩
            case measure => simp [intOf]; omega
          · by_cases h3 : d < s2
            · go_wp2_with fail
              go_roundw
              case rel => exact ⟨k + 1, ((k : Int), d), by omega, by go_num, rfl, rfl, by rw [Hnx.out, if_pos ⟨h1, .inr h3⟩], hbw2⟩
              case measure => simp [intOf]; omega
            · go_wp2_with fail
              go_roundw
              case rel => exact ⟨k + 1, (s1, s2), by omega, by go_num, rfl, rfl, by rw [Hnx.out, if_neg (by omega)], hbw2⟩
              case measure => simp [intOf]; omega
        · go_wp2_with fail
          go_roundw
          case rel => exact ⟨k + 1, (s1, s2), by omega, by go_num, rfl, rfl, by rw [Hnx.out, if_neg (by omega)], hbw2⟩
          case measure => simp [intOf]; omega
      · obtain rfl : k = n := by omega
        have e1 : (likeN zs o tol zs.length).1 = s1 := by rw [Hl.out, ← hs]
        have Hs := Lib.hid hs; clear hs
        have E1 := Lib.hid e1; clear e1
        by_cases h1 : s1 < 0
        · go_wp2_with fail
          go_ret2
          exact ⟨by simp [likeV, likeK, HA.out, E1.out, decide_eq_false (show ¬ 0 ≤ s1 by omega)], hbw⟩
        · go_wp2_with fail
          go_ret2
          exact ⟨by simp [likeV, likeK, HA.out, E1.out, decide_eq_true (show 0 ≤ s1 by omega)], hbw⟩
  · have hn0 : (a != 0) = true := by simpa using ha
    have hz0 : (a == 0) = false := by simpa using ha
    have HA := Lib.hid hA; clear hA
    have Hz0 := Lib.hid hz0; clear hz0
    go_wp2_with fail
    go_ret2
    exact ⟨by rw [likeV, likeK, HA.out, Hz0.out]; rfl, hb1⟩
set_option maxRecDepth 100000 in
set_option maxHeartbeats 2000000 in
theorem implLikely_c (A : Option Addr) (n c : Nat) (zs : List ChG) (Ao : Option Addr) (no co : Nat) (o : List Ph) (tol : Int) (w : World) (h : ChS w A n zs) (hm : n ≤ 1048576)
    (ho : Sl w w.heap.size 2 Ao no (o.flatMap Ph.cells)) (hno : no ≤ 1048576) (hsz : ∀ p ∈ o, p.c.size ≤ maxLen) :
    Calls Try.prog 40 #[.slice A n c, .slice Ao no co, .int .i64 tol] w fun e w' => e = .returned (.tuple #[.int .i64 (likeV zs o tol), .int .i64 (likeK zs o tol)]) ∧ Below w.heap.size w w' := by
  have hl := h.len
  have hlo := ho.len Ph.cells 2 Ph.cells_len (by omega)
  have Hlo := Lib.hid hlo; clear hlo
  have Hl := Lib.hid hl; clear hl
  have Hsz := Lib.hid hsz; clear hsz
  go_enter Try.func40, Try.ntmps40
  go_wp2_with fail
  refine (implIdent_c A n c zs Ao no co o tol _ h hm ho hno Hsz.out).mono ?_
  rintro e w1 ⟨v, rfl, hi, hb1⟩
  obtain ⟨a, hA⟩ : ∃ a, askI zs o tol = a := ⟨_, rfl⟩
  rw [IdAns, hA] at hi
  rw [hA]
  rcases hi with ⟨ha, rfl⟩ | ⟨ha, hov⟩
  · have hn0 : (a != 0) = true := by simpa using ha
    have hz0 : (a == 0) = false := by simpa using ha
    have HA := Lib.hid hA; clear hA
    have Hz0 := Lib.hid hz0; clear hz0
    go_wp2_with fail
    go_ret2
    exact ⟨by rw [likeV, likeK, HA.out, Hz0.out]; rfl, hb1⟩
  · subst ha
    rw [hitsL, Hl.out] at hov
    obtain ⟨hv, hob, hti⟩ := ask_ok hA
    obtain ⟨hvz, h64⟩ := lights_valid hv
    obtain ⟨t0, t1⟩ := inB_iff.1 hti
    rw [Hl.out] at h64
    have ok := obsB_ok hob Hlo.out
    have hh := like_hits zs o tol n
    have hin : ∀ i ∈ hitsN zs o tol n, i < n := fun i hi => by
      rw [hitsN] at hi
      exact List.mem_range.1 (List.mem_filter.1 hi).1
    have hll := hits_len zs o tol n
    generalize hitsN zs o tol n = L at *
    obtain ⟨A3, c3, rfl⟩ := own_slice hov
    have sL := Sl.of_own hov
    have HA := Lib.hid hA; clear hA
    have Hv := Lib.hid hv; clear hv
    have Hob := Lib.hid hob; clear hob
    have Hti := Lib.hid hti; clear hti
    have Hvz := Lib.hid hvz; clear hvz
    have Hh := Lib.hid hh; clear hh
    have Hin := Lib.hid hin; clear hin
    go_wp2_with fail
    go_loopw [10, 11, 29] (fun b l i wr => ∃ (k : Nat) (s : Int × Int), k ≤ L.length ∧ i = .int .i64 k ∧ b = .int .i64 s.1 ∧ l = .int .i64 s.2 ∧ s = (L.take k).foldl (likeAt zs o tol) (-1, 0) ∧ Below w1.heap.size w1 wr) (fun _ _ i _ => L.length - (intOf i).toNat)
    case atStart => exact ⟨0, (-1, 0), Nat.zero_le _, rfl, rfl, rfl, rfl, Below.refl _ _⟩
    case round =>
      obtain ⟨k, ⟨s1, s2⟩, hk, rfl, rfl, rfl, hs, hbw⟩ := hrel
      dsimp only
      have hbv := hb1.trans (hbw.mono hb1.size)
      by_cases hlt : k < L.length
      · obtain ⟨b4, off4, y, rfl, hb4, hy, d1⟩ := (sL.next hbw).int k hlt
        obtain ⟨i, hLi, rfl⟩ : ∃ i, L[k]? = some i ∧ y = (i : Int) := by
          rw [List.getElem?_map, Option.map_eq_some_iff] at hy
          obtain ⟨i, h1, h2⟩ := hy
          exact ⟨i, h1, h2.symm⟩
        clear hy
        have hi := Hin.out i (List.mem_of_getElem? hLi)
        obtain ⟨b5, off5, z, rfl, hb5, hx, hzo, c0, c1, c2, c3, c4⟩ := (h.next hbv).get i hi
        have hvz := Hvz.out z (List.mem_of_getElem? hx)
        have hnx := fold_next (f := likeAt zs o tol) hLi (-1, 0)
        rw [← hs, likeAt_eq hx] at hnx
        have hS40 : ∀ t ∈ startsL z.x o tol, t < 40 := fun t ht => by
          rw [startsL] at ht
          exact List.mem_range.1 (List.mem_filter.1 ht).1
        have hSl : (startsL z.x o tol).length ≤ 40 := by rw [startsL]; exact Nat.le_trans (List.length_filter_le _ _) (by simp)
        have j0 : (0 : Int) ≤ (i : Int) := by omega
        have j1 : (i : Int) < (n : Int) := by omega
        have Hs := Lib.hid hs; clear hs
        have HLi := Lib.hid hLi; clear hLi
        have Hx := Lib.hid hx; clear hx
        go_wp2_with fail
        refine (starts_c z.A z.n z.c z.x _ hzo.sl hzo.hn hzo.hl hzo.hs Ao no co o tol hvz (ho.next hbv) ok t0 (by omega)).mono ?_
        rintro e w2 ⟨v2, rfl, hov2, hb2⟩
        generalize startsL z.x o tol = S at *
        obtain ⟨A4, c4', rfl⟩ := own_slice hov2
        have sS := Sl.of_own hov2
        clear hov2
        have hbw2 := hbw.trans (hb2.mono hbw.size)
        have Hnx := Lib.hid hnx; clear hnx
        have HS40 := Lib.hid hS40; clear hS40
        go_wp2_with fail
        go_loopw [10, 11, 41] (fun b l i2 wr2 => ∃ (j : Nat) (s : Int × Int), j ≤ S.length ∧ i2 = .int .i64 j ∧ b = .int .i64 s.1 ∧ l = .int .i64 s.2 ∧ s = likeIn z.x o i (S.take j) (s1, s2) ∧ Below w2.heap.size w2 wr2) (fun _ _ i2 _ => S.length - (intOf i2).toNat)
        case atStart => exact ⟨0, (s1, s2), Nat.zero_le _, rfl, rfl, rfl, rfl, Below.refl _ _⟩
        case round =>
          obtain ⟨j, ⟨r1, r2⟩, hj, rfl, rfl, rfl, hr, hbr⟩ := hrel
          dsimp only
          have hbq := hb2.trans (hbr.mono hb2.size)
          have hbz := hbv.trans (hbq.mono hbv.size)
          by_cases hlj : j < S.length
          · obtain ⟨b6, off6, y, rfl, hb6, hy, d6⟩ := (sS.next hbr).int j hlj
            obtain ⟨t, hSt, rfl⟩ : ∃ t, S[j]? = some t ∧ y = (t : Int) := by
              rw [List.getElem?_map, Option.map_eq_some_iff] at hy
              obtain ⟨t, h1, h2⟩ := hy
              exact ⟨t, h1, h2.symm⟩
            clear hy
            have ht := HS40.out t (List.mem_of_getElem? hSt)
            have hnr : likeIn z.x o i (S.take (j + 1)) (s1, s2) = kstep z.x o i (r1, r2) t := by rw [hr]; exact fold_next hSt _
            obtain ⟨E, hE⟩ : ∃ E, errI z.x o (t : Int) = E := ⟨_, rfl⟩
            have hl1 : (r1 < 0 ∨ E < r2) → likeIn z.x o i (S.take (j + 1)) (s1, s2) = ((i : Int), E) := fun h => by rw [hnr, kstep, hE, if_pos h]
            have hl2 : ¬ (r1 < 0 ∨ E < r2) → likeIn z.x o i (S.take (j + 1)) (s1, s2) = (r1, r2) := fun h => by rw [hnr, kstep, hE, if_neg h]
            have q5 := keepC hbq b5 hb5
            have Hr := Lib.hid hr; clear hr
            have HSt := Lib.hid hSt; clear hSt
            have Hnr := Lib.hid hnr; clear hnr
            have Hl1 := Lib.hid hl1; clear hl1
            have Hl2 := Lib.hid hl2; clear hl2
            go_wp2_with fail
            refine (errorFrom_c z.A z.n z.c z.x _ (hzo.next hbq).sl hzo.hn hzo.hl hzo.hs Ao no co o (t : Int) hvz (ho.next hbz) ok (by omega) (by omega)).mono ?_
            rw [hE]
            rintro e w3 ⟨rfl, hb3⟩
            have HE := Lib.hid hE; clear hE
            have hbr3 := hbr.trans (hb3.mono hbr.size)
            by_cases h1 : r1 < 0
            · go_wp2_with fail
              go_roundw
              case rel => exact ⟨j + 1, ((i : Int), E), by omega, by go_num, rfl, rfl, (Hl1.out (.inl h1)).symm, hbr3⟩
              case measure => simp [intOf]; omega
            · by_cases h2 : E < r2
              · go_wp2_with fail
                go_roundw
                case rel => exact ⟨j + 1, ((i : Int), E), by omega, by go_num, rfl, rfl, (Hl1.out (.inr h2)).symm, hbr3⟩
                case measure => simp [intOf]; omega
              · go_wp2_with fail
                go_roundw
                case rel => exact ⟨j + 1, (r1, r2), by omega, by go_num, rfl, rfl, (Hl2.out (by omega)).symm, hbr3⟩
                case measure => simp [intOf]; omega
          · rw [List.take_of_length_le (by omega)] at hr
            have Hr := Lib.hid hr; clear hr
            go_wp2_with fail
            go_roundw
            case rel => exact ⟨k + 1, (r1, r2), by omega, by go_num, rfl, rfl, by rw [Hnx.out, Hr.out], hbw2.trans (hbr.mono hbw2.size)⟩
            case measure => simp [intOf]; omega
      · rw [List.take_of_length_le (by omega), Hh.out] at hs
        have e1 : (likeN zs o tol zs.length).1 = s1 := by rw [Hl.out, ← hs]
        have Hs := Lib.hid hs; clear hs
        have E1 := Lib.hid e1; clear e1
        by_cases h1 : s1 < 0
        · go_wp2_with fail
          go_ret2
          exact ⟨by simp [likeV, likeK, HA.out, E1.out, decide_eq_false (show ¬ 0 ≤ s1 by omega)], hbv⟩
        · go_wp2_with fail
          go_ret2
          exact ⟨by simp [likeV, likeK, HA.out, E1.out, decide_eq_true (show 0 ≤ s1 by omega)], hbv⟩
end Go.Proofs.Ytgfplmfdgbklkaa
