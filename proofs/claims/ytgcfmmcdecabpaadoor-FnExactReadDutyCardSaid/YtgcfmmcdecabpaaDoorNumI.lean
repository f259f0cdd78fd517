/- The number with a decimal form: the program's ReadDecimal. -/
import Derived.Test.YtgcfmmcdecabpaaDoorSplI
import Derived.Test.YtgcfmmcdecabpaaDoorDutR
namespace Go.Proofs.YtgcfmmcdecabpaaDoor
open Go.RowKit
theorem parse_bd {l : List UInt8} {v : Int} (h : Lib.parseIntB 64 l = .ok v) : -9223372036854775808 ≤ v ∧ v ≤ 9223372036854775807 := by
  unfold Lib.parseIntB at h
  split at h
  · cases h
  · rename_i c r
    dsimp only at h
    split at h
    · cases h
    · cases h
    · rename_i u _
      split at h
      · cases h
      · split at h
        · cases h
        · rename_i h1 h2
          have h3 : (if c.toNat = 45 then -(u : Int) else (u : Int)) = v := by injection h
          rw [← h3]
          split
          · rename_i hc; simp only [hc, true_and] at h2; omega
          · rename_i hc; simp only [hc, not_false_eq_true, true_and] at h1; omega
theorem below_bytes {w w' : World} {t : TypeId} (h : w' = w ∨ ∃ s, w' = Lib.bytesWorld w t s) : Below w.heap.size w w' := by
  rcases h with rfl | ⟨s, rfl⟩
  · exact Below.refl _ _
  · exact Joins.below_bytesWorld _ _ _ _ (Nat.le_refl _)
set_option maxRecDepth 100000 in
set_option maxHeartbeats 2000000 in
theorem readDecimal_c (s : ByteArray) (w : World) (hs : s.size ≤ 1048576) (hE : Env w) :
    Calls Tryd.prog 9 #[.string s] w fun e w' => e = .returned (.tuple #[.int .i64 (numX s), .bool (numOk (lst s))]) ∧ Below w.heap.size w w' := by
  obtain ⟨T, hT0⟩ : ∃ T : ByteArray, ⟨(Lib.trimPrefix s.data.toList [45]).toArray⟩ = T := ⟨_, rfl⟩
  have hTs : T.size = (digL (lst s)).length := by
    rw [← hT0, ← trim_dig]; simp [ByteArray.size, lst]
  have hT : ∀ w1, Calls Tryd.prog 15 #[.string s, .string ⟨#[45]⟩] w1 fun e w' => e = .returned (.string T) ∧ w' = w1 := fun w1 => hT0 ▸ Tryd.strings_TrimPrefix s ⟨#[45]⟩ w1
  obtain ⟨e1, c1, d1⟩ := hE.syn
  obtain ⟨e2, c2, d2⟩ := hE.rng
  have HT := Lib.hid hT; clear hT
  by_cases h18 : (digL (lst s)).length ≤ 18
  rotate_left
  · have hno : numOk (lst s) = false := by
      rw [Bool.eq_false_iff]
      intro h
      exact h18 (numOk_iff.1 h).2.1
    have hX := numX_no hno
    have ht18 : 18 < (T.size : Int) := by omega
    have Hno := Lib.hid hno; clear hno
    have HX := Lib.hid hX; clear hX
    clear h18 hTs hT0 c1 c2 d1 d2
    go_enter Tryd.func9, Tryd.ntmps9
    go_wp2_with fail
    refine (HT.out _).mono ?_
    rintro e w1 ⟨rfl, rfl⟩
    go_wp2_with fail
    go_ret2
    exact ⟨by rw [HX.out, Hno.out]; rfl, Below.refl _ _⟩
  have ht18 : ¬ 18 < (T.size : Int) := by omega
  rcases hp : Lib.parseIntB 64 (lst s) with v | _ | _
  · obtain ⟨v0, v1⟩ := parse_bd hp
    have hP := Tryd.strconv_ParseInt_10_at64_ok s (by omega) v hp w
    have hD : ∀ w1, Below w.heap.size w w1 → Calls Tryd.prog 17 #[.int .i64 v] w1 fun e w' => e = .returned (.string (decB v)) ∧ Below w1.heap.size w1 w' := fun w1 hbb => decimal_c v w1 v0 v1 (hE.next hbb).tab
    by_cases hd : decB v = s
    · have hi : Lib.itoa v = lst s := by rw [← hd]; rfl
      obtain ⟨hok, hv⟩ := itoa_num hi h18
      have hX : numX s = v := by rw [numX, hok, if_pos rfl, hv]
      have hse : (s.toList == s.toList) = true := by simp
      rw [hd] at hD
      have Hok := Lib.hid hok; clear hok
      have HX := Lib.hid hX; clear hX
      have HP := Lib.hid hP; clear hP
      have HD := Lib.hid hD; clear hD
      clear h18 hTs hT0 c1 c2 d1 d2 hp hi hv hd
      go_enter Tryd.func9, Tryd.ntmps9
      go_wp2_with fail
      refine (HT.out _).mono ?_
      rintro e w1 ⟨rfl, rfl⟩
      go_wp2_with fail
      refine HP.out.mono ?_
      rintro e w2 ⟨rfl, hb⟩
      have hb2 := below_bytes hb
      clear hb
      go_wp2_with fail
      refine (HD.out _ hb2).mono ?_
      rintro e w3 ⟨rfl, hb3⟩
      go_wp2_with fail
      go_ret2
      exact ⟨by rw [HX.out, Hok.out]; rfl, hb2.trans (hb3.mono hb2.size)⟩
    · have hno : numOk (lst s) = false := by
        rw [Bool.eq_false_iff]
        intro h
        have h2 := num_parse h
        rw [hp] at h2
        injection h2 with h2
        refine hd (ba_ext ?_)
        show Lib.itoa v = lst s
        rw [h2]
        exact num_itoa h
      have hX := numX_no hno
      have hse : ((decB v).toList == s.toList) = false := by
        rw [ba_beq]; simpa using hd
      have Hno := Lib.hid hno; clear hno
      have HX := Lib.hid hX; clear hX
      have HP := Lib.hid hP; clear hP
      have HD := Lib.hid hD; clear hD
      clear h18 hTs hT0 c1 c2 d1 d2 hp hd
      go_enter Tryd.func9, Tryd.ntmps9
      go_wp2_with fail
      refine (HT.out _).mono ?_
      rintro e w1 ⟨rfl, rfl⟩
      go_wp2_with fail
      refine HP.out.mono ?_
      rintro e w2 ⟨rfl, hb⟩
      have hb2 := below_bytes hb
      clear hb
      go_wp2_with fail
      refine (HD.out _ hb2).mono ?_
      rintro e w3 ⟨rfl, hb3⟩
      go_wp2_with fail
      go_ret2
      exact ⟨by rw [HX.out, Hno.out]; rfl, hb2.trans (hb3.mono hb2.size)⟩
  · have hno : numOk (lst s) = false := by
      rw [Bool.eq_false_iff]
      intro h
      rw [num_parse h] at hp
      cases hp
    have hX := numX_no hno
    have hP := Tryd.strconv_ParseInt_10_at64_syntax s (by omega) hp e1 w c1 d1
    have Hno := Lib.hid hno; clear hno
    have HX := Lib.hid hX; clear hX
    have HP := Lib.hid hP; clear hP
    clear h18 hTs hT0 c1 c2 d1 d2 hp
    go_enter Tryd.func9, Tryd.ntmps9
    go_wp2_with fail
    refine (HT.out _).mono ?_
    rintro e w1 ⟨rfl, rfl⟩
    go_wp2_with fail
    refine HP.out.mono ?_
    rintro e w2 ⟨N, rfl, -, -, hb2⟩
    go_wp2_with fail
    go_ret2
    exact ⟨by rw [HX.out, Hno.out]; rfl, hb2⟩
  · have hno : numOk (lst s) = false := by
      rw [Bool.eq_false_iff]
      intro h
      rw [num_parse h] at hp
      cases hp
    have hX := numX_no hno
    have hP := Tryd.strconv_ParseInt_10_at64_range s (by omega) hp e2 w c2 d2
    have Hno := Lib.hid hno; clear hno
    have HX := Lib.hid hX; clear hX
    have HP := Lib.hid hP; clear hP
    clear h18 hTs hT0 c1 c2 d1 d2 hp
    go_enter Tryd.func9, Tryd.ntmps9
    go_wp2_with fail
    refine (HT.out _).mono ?_
    rintro e w1 ⟨rfl, rfl⟩
    go_wp2_with fail
    refine HP.out.mono ?_
    rintro e w2 ⟨N, rfl, -, -, hb2⟩
    go_wp2_with fail
    go_ret2
    exact ⟨by rw [HX.out, Hno.out]; rfl, hb2⟩
end Go.Proofs.YtgcfmmcdecabpaaDoor
