/- Characters: how long lit. -/
import Derived.Test.YtpgcgmbjlecnpaaGreatChPhI
namespace Go.Proofs.YtpgcgmbjlecnpaaGreat
open Go.RowKit
theorem eS_E : (⟨#[]⟩ : ByteArray).toList.isEmpty = true := by rw [(toList_nil _).2 rfl]; rfl
theorem wS_E : (⟨#[87]⟩ : ByteArray).toList.isEmpty = false := isE_no (by decide)
theorem litI_co (x : Ch) (co co' : ByteArray) (h : co.toList.isEmpty = co'.toList.isEmpty) : litI (phasesL x co) = litI (phasesL x co') := by
  have e0 : ∀ c : ByteArray, ∀ b : Bool, (bif b then c else (⟨#[]⟩ : ByteArray)).toList.isEmpty = (bif b then c.toList.isEmpty else true) := fun c b => by cases b <;> simp
  simp only [litI]
  congr 1
  unfold phasesL
  split
  · simp [h]
  split
  · simp [h]
  · apply List.ext_getElem?
    intro i
    simp only [altL, List.getElem?_map, List.getElem?_mapIdx]
    cases (timesL x ++ [if steadyB x = true then gapI x.k else x.p - (timesL x).sum])[i]? with
    | none => rfl
    | some t => simp only [Option.map_some, altP, e0, h]
theorem lit_bd : ∀ {ps : List Ph}, (∀ p ∈ ps, 0 ≤ p.len ∧ p.len ≤ 600) → 0 ≤ litI ps ∧ litI ps ≤ 600 * ps.length
  | [], _ => by simp [litI]
  | p :: ps, h => by
    have h1 := lit_bd (ps := ps) fun q hq => h q (List.mem_cons_of_mem _ hq)
    have h2 := h p List.mem_cons_self
    have e : litI (p :: ps) = (bif p.c.toList.isEmpty then 0 else p.len) + litI ps := by simp [litI]
    rw [e, List.length_cons]
    cases p.c.toList.isEmpty <;> simp <;> omega
theorem Sl.ph {w : World} {B n : Nat} {A : Option Addr} {xs : List Ph} (h : Sl w B 2 A n (xs.flatMap Ph.cells)) (k : Nat) (hk : k < n) :
    ∃ b off x, A = some ⟨b, off, none⟩ ∧ b < B ∧ xs[k]? = some x ∧ w.cell? ⟨b, off + k * 2, none⟩ = some (.string x.c) ∧ w.cell? ⟨b, off + k * 2 + 1, none⟩ = some (.int .i64 x.len) := by
  obtain ⟨b, off, s, hA, hb, hx, hc⟩ := h.get Ph.cells 2 Ph.cells_len (by omega) k hk
  exact ⟨b, off, s, hA, hb, hx, hc 0 _ rfl, hc 1 _ rfl⟩
set_option maxRecDepth 100000 in
set_option maxHeartbeats 1000000 in
theorem l05Lit_c (b off : Nat) (A : Option Addr) (n c : Nat) (x : Ch) (w : World) (h : ChP w b off A n c x) (hv : validB x = true) :
    Calls Tryz.prog 62 #[.pointer (some ⟨b, off, none⟩)] w fun e w' => e = .returned (.int .i64 (litI (phasesL x ⟨#[87]⟩))) ∧ Below w.heap.size w w' := by
  have hbd := phases_bd (co := ⟨#[87]⟩) hv
  have hlen := phases_len (co := ⟨#[87]⟩) (valid_shape hv)
  go_enter Tryz.func62, Tryz.ntmps62
  go_wp2_with fail
  refine (l05Phases_c b off A n c x _ w h hv).mono ?_
  rintro e w1 ⟨v, rfl, ho, hb1⟩
  obtain ⟨AT, cT, rfl⟩ := own_slice ho
  have sT := Sl.of_own ho
  obtain ⟨ps, hps⟩ : ∃ ps, phasesL x ⟨#[87]⟩ = ps := ⟨_, rfl⟩
  rw [hps] at sT hlen hbd ⊢
  clear ho
  have Hps := Lib.hid hps; clear hps
  have Hbd := Lib.hid hbd; clear hbd
  go_wp2_with fail
  go_loop [4, 5] (fun t i => ∃ k : Nat, k ≤ ps.length ∧ i = .int .i64 k ∧ t = .int .i64 (litI (ps.take k))) (fun _ i => ps.length - (intOf i).toNat)
  case atStart => exact ⟨0, Nat.zero_le _, rfl, rfl⟩
  case round =>
    obtain ⟨k, hk, rfl, rfl⟩ := hrel
    by_cases hlt : k < ps.length
    · obtain ⟨b4, off4, p, rfl, hb4, hp4, c1, c2⟩ := sT.ph k hlt
      have hpb := Hbd.out p (List.mem_of_getElem? hp4)
      have hlb := lit_bd (ps := ps.take k) fun q hq => Hbd.out q (List.mem_of_mem_take hq)
      rw [List.length_take_of_le (by omega)] at hlb
      have hnx := litI_next hp4
      obtain ⟨u1, u2⟩ := hlb
      obtain ⟨u3, u4⟩ := hpb
      have Hp4 := Lib.hid hp4; clear hp4
      cases hE : p.c.toList.isEmpty
      all_goals
        rw [hE] at hnx
        simp only [cond_true, cond_false] at hnx
        have Hnx := Lib.hid hnx; clear hnx
        go_wp2_with fail
        go_round
        case rel => exact ⟨k + 1, by omega, by go_num, int_eq (by rw [Hnx.out]; try omega)⟩
        case measure => simp [intOf]; omega
    · go_wp2_with fail
      go_ret
      exact ⟨ret_eq (int_eq (by rw [List.take_of_length_le (by omega), Hps.out])), hb1⟩
theorem colors_one {x : Ch} (h : validB x = true) : 1 ≤ x.cs.size ∧ x.cs.size ≤ 3 := by
  have hsh := valid_shape h
  simp only [shapeB, colorsB, Bool.and_eq_true, decide_eq_true_eq] at hsh
  exact hsh.1.2
theorem one_ne {s : ByteArray} (h : 1 ≤ s.size) : (s.extract 0 1).toList.isEmpty = false := by
  apply isE_no
  rw [ByteArray.size_extract]; omega
end Go.Proofs.YtpgcgmbjlecnpaaGreat
