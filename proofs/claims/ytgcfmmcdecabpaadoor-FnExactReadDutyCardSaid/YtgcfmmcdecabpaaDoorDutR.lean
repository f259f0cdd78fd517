/- A duty read from its text: plain. -/
import Derived.Test.YtgcfmmcdecabpaaDoorDutT
import Derived.Test.YtgcfmmcdecabpaaDoorNum
import Derived.Test.YtgcfmmcdecabpaaDoorPcs
namespace Go.Proofs.YtgcfmmcdecabpaaDoor
open Go.RowKit
theorem ba_ext {s t : ByteArray} (h : s.data.toList = t.data.toList) : s = t := by
  cases s; cases t
  simp only [ByteArray.mk.injEq]
  exact Array.ext' h
theorem trim_dig (l : List UInt8) : Lib.trimPrefix l [45] = digL l := by
  cases l with
  | nil => rfl
  | cons c r =>
    by_cases h : c = 45
    · subst h; simp [Lib.trimPrefix, Lib.hasPrefix, digL]
    · have h2 : ¬ (45 : UInt8) = c := fun e => h e.symm
      simp [Lib.trimPrefix, Lib.hasPrefix, digL, h, h2]
theorem dutyT_list (d : Duty) : (dutyT d).data.toList = d.keeper.data.toList ++ 32 :: (Lib.itoa d.fr ++ 32 :: Lib.itoa d.un) := by
  simp [dutyT, decB]
theorem dec_no (u : Nat) : (32 : UInt8) ∉ Lib.decDigits u := fun h => by
  have := List.all_eq_true.1 (dec_all u) _ h
  simp [isDg] at this
theorem itoa_no (n : Int) : (32 : UInt8) ∉ Lib.itoa n := fun h => by
  rw [Lib.itoa] at h
  split at h
  · rcases List.mem_cons.1 h with h | h
    · cases h
    · exact dec_no _ h
  · exact dec_no _ h
theorem name_no {s : ByteArray} (h : nameB s = true) : (32 : UInt8) ∉ s.data.toList := fun hm => by
  obtain ⟨_, _, h3⟩ := nameB_iff.1 h
  obtain ⟨j, hj⟩ := List.mem_iff_getElem?.1 hm
  have hlt : j < s.data.toList.length := (List.getElem?_eq_some_iff.1 hj).1
  have hl : j < s.size := by rw [Array.length_toList] at hlt; exact hlt
  have e : s[j] = 32 := by
    have := (List.getElem?_eq_some_iff.1 hj).2
    rw [Array.getElem_toList] at this
    exact this
  have := h3 j hl
  rw [okAt, bt_eq s j hl, e] at this
  simp at this
theorem dutyB_name {d : Duty} (h : dutyB d = true) : nameB d.keeper = true := by
  simp only [dutyB, Bool.and_eq_true] at h
  exact h.1
theorem duty_pcs {P : List (List UInt8)} {s : ByteArray} {d : Duty} (h : Pcs 32 P s.data.toList) (hs : dutyT d = s) (hd : dutyB d = true) : P = [d.keeper.data.toList, Lib.itoa d.fr, Lib.itoa d.un] := by
  subst hs
  rw [dutyT_list] at h
  exact h.three (name_no (dutyB_name hd)) (itoa_no _) (itoa_no _)
theorem duty_of {s a : ByteArray} {b c : List UInt8} (h : Pcs 32 [a.data.toList, b, c] s.data.toList) (hb : numOk b = true) (hc : numOk c = true) : dutyT ⟨a, numV b, numV c⟩ = s :=
  ba_ext (by rw [dutyT_list, num_itoa hb, num_itoa hc]; exact h.eq)
theorem num_of {n : Int} (h0 : 0 ≤ n) (h1 : n ≤ 143999999) : numOk (Lib.itoa n) = true ∧ numV (Lib.itoa n) = n := by
  refine itoa_num rfl ?_
  have hl : (Lib.decDigits n.toNat).length ≤ 18 := by
    have := dn_len 18 n.toNat (by omega)
    by_cases h : n.toNat = 0
    · rw [h, Lib.decDigits, dif_pos (by omega)]; simp
    · rw [dn, if_neg h, List.length_map] at this; exact this
  have e : Lib.itoa n = Lib.decDigits n.toNat := by rw [Lib.itoa, if_neg (by omega)]
  rw [e, digL]
  split
  · rw [List.length_tail]; omega
  · exact hl
theorem itoa_inj {a b : Int} (h : Lib.itoa a = Lib.itoa b) (ha : 0 ≤ a ∧ a ≤ 143999999) (hb : 0 ≤ b ∧ b ≤ 143999999) : a = b := by
  rw [← (num_of ha.1 ha.2).2, h, (num_of hb.1 hb.2).2]
theorem dutyT_inj {d e : Duty} (hd : dutyB d = true) (he : dutyB e = true) (h : dutyT d = dutyT e) : d = e := by
  have hp : Pcs 32 [d.keeper.data.toList, Lib.itoa d.fr, Lib.itoa d.un] (dutyT d).data.toList :=
    ⟨by simp, fun p hp => by
      simp only [List.mem_cons, List.not_mem_nil, or_false] at hp
      rcases hp with rfl | rfl | rfl
      · exact name_no (dutyB_name hd)
      · exact itoa_no _
      · exact itoa_no _, by rw [dutyT_list]; rfl⟩
  have h2 := duty_pcs hp h.symm he
  simp only [List.cons.injEq, and_true] at h2
  obtain ⟨e1, e2, e3⟩ := h2
  obtain ⟨_, d1, d2, d3, d4⟩ := dutyB_bd hd
  obtain ⟨_, f1, f2, f3, f4⟩ := dutyB_bd he
  cases d; cases e
  simp only [Duty.mk.injEq]
  exact ⟨ba_ext e1, itoa_inj e2 ⟨d1, d2⟩ ⟨f1, f2⟩, itoa_inj e3 ⟨d3, d4⟩ ⟨f3, f4⟩⟩
/-- What reading a text gives: the duty whose text it is; else the zero duty and false. -/
def RdAns (s : ByteArray) (e : Ending) : Prop := (∃ d, dutyB d = true ∧ dutyT d = s ∧ e = .returned (.tuple #[d.val, .bool true])) ∨ ((∀ d, dutyB d = true → dutyT d ≠ s) ∧ e = .returned (.tuple #[.agg #[.string ByteArray.empty, .int .i64 0, .int .i64 0], .bool false]))
theorem RdAns.same {s : ByteArray} {e f : Ending} (h : RdAns s e) (g : RdAns s f) : e = f := by
  rcases h with ⟨d, h1, h2, rfl⟩ | ⟨h1, rfl⟩
  · rcases g with ⟨d', g1, g2, rfl⟩ | ⟨g1, _⟩
    · rw [dutyT_inj h1 g1 (h2.trans g2.symm)]
    · exact absurd h2 (g1 d h1)
  · rcases g with ⟨d', g1, g2, _⟩ | ⟨_, rfl⟩
    · exact absurd g2 (h1 d' g1)
    · rfl
end Go.Proofs.YtgcfmmcdecabpaaDoor
