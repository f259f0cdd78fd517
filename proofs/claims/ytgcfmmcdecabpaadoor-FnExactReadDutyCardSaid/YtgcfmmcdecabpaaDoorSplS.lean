/- Texts divided at one byte: the reference's l01Split. -/
import Derived.Test.YtgcfmmcdecabpaaDoorApp
import Derived.Test.YtgcfmmcdecabpaaDoorStrS
import Derived.Test.YtgcfmmcdecabpaaDoorPcs
import Derived.Test.YtgcfmmcdecabpaaDoorName
namespace Go.Proofs.YtgcfmmcdecabpaaDoor
open Go.RowKit
def lst (s : ByteArray) : List UInt8 := s.data.toList
theorem lst_len (s : ByteArray) : (lst s).length = s.size := by rw [lst, Array.length_toList]; rfl
theorem lst_cut (s : ByteArray) (m k : Nat) : lst (s.extract m k) = ((lst s).take k).drop m := by
  simp [lst, ByteArray.data_extract, List.drop_take]
/-- Where the reference's loop stands: from m on the text is not yet laid, up to k it is looked at. -/
structure SpSt (sp : UInt8) (s : ByteArray) (ws : List ByteArray) (m k : Nat) : Prop where
  le : m ≤ k
  ks : k ≤ s.size
  pre : (lst s).take m = ws.flatMap fun p => lst p ++ [sp]
  no : ∀ p ∈ ws, sp ∉ lst p
  cur : sp ∉ ((lst s).take k).drop m
theorem SpSt.start (sp : UInt8) (s : ByteArray) : SpSt sp s [] 0 0 := ⟨Nat.le_refl _, Nat.zero_le _, by simp, by simp, by simp⟩
theorem lst_at {s : ByteArray} {k : Nat} (h : k < s.size) : (lst s)[k]? = some s[k] := by
  rw [lst, Array.getElem?_toList, Array.getElem?_eq_getElem h]; rfl
theorem SpSt.hit {sp : UInt8} {s : ByteArray} {ws : List ByteArray} {m k : Nat} (h : SpSt sp s ws m k) (hk : k < s.size) (he : s[k] = sp) : SpSt sp s (ws ++ [s.extract m k]) (k + 1) (k + 1) := by
  refine ⟨Nat.le_refl _, hk, ?_, fun p hp => ?_, by rw [List.drop_of_length_le (by rw [List.length_take]; omega)]; simp⟩
  · have e : (lst s).take k = (lst s).take m ++ ((lst s).take k).drop m := by
      have h2 := List.take_append_drop m ((lst s).take k)
      rw [List.take_take, Nat.min_eq_left h.le] at h2
      exact h2.symm
    rw [List.take_add_one, lst_at hk, he, e, h.pre, List.flatMap_append, List.flatMap_cons, List.flatMap_nil, lst_cut]
    simp
  · rcases List.mem_append.1 hp with hp | hp
    · exact h.no p hp
    · obtain rfl : p = s.extract m k := by simpa using hp
      rw [lst_cut]; exact h.cur
theorem SpSt.miss {sp : UInt8} {s : ByteArray} {ws : List ByteArray} {m k : Nat} (h : SpSt sp s ws m k) (hk : k < s.size) (he : s[k] ≠ sp) : SpSt sp s ws m (k + 1) := by
  refine ⟨Nat.le_trans h.le (Nat.le_succ _), hk, h.pre, h.no, ?_⟩
  have hl : m ≤ ((lst s).take k).length := by rw [List.length_take, lst_len]; have := h.le; omega
  rw [List.take_add_one, lst_at hk, Option.toList_some, List.drop_append_of_le_length hl]
  intro hm
  rcases List.mem_append.1 hm with hm | hm
  · exact h.cur hm
  · exact he (List.mem_singleton.1 hm).symm
theorem SpSt.last {sp : UInt8} {s : ByteArray} {ws : List ByteArray} {m : Nat} (h : SpSt sp s ws m s.size) : Pcs sp ((ws ++ [s.extract m s.size]).map lst) (lst s) := by
  have hf : (lst s).take s.size = lst s := List.take_of_length_le (by rw [lst_len]; omega)
  refine ⟨by simp, fun p hp => ?_, ?_⟩
  · obtain ⟨q, hq, rfl⟩ := List.mem_map.1 hp
    rcases List.mem_append.1 hq with hq | hq
    · exact h.no q hq
    · obtain rfl : q = s.extract m s.size := by simpa using hq
      rw [lst_cut]; exact h.cur
  · rw [List.map_append, List.map_cons, List.map_nil, jn_pre, lst_cut, hf, List.flatMap_map, ← h.pre, List.take_append_drop]
theorem strInfoS : (Tryd.prog.info? 9).map (fun i => (i.zero, i.size, i.bytes)) = some (some (.string ByteArray.empty), 1, 16) := by kernel_rfl
set_option maxRecDepth 100000 in
set_option maxHeartbeats 2000000 in
theorem l01Split_c (sp : UInt8) (s : ByteArray) (w : World) (hs : s.size ≤ 1048576) :
    Calls Tryd.prog 11 #[.string s, .int .u8 (sp.toNat : Int)] w fun e w' => ∃ (v : Value) (ws : List ByteArray), e = .returned v ∧ w'.ownsRow w.heap.size 9 1 v ws.length (ws.flatMap strC) ∧ ws.length ≤ s.size + 1 ∧ Pcs sp (ws.map lst) (lst s) ∧ Below w.heap.size w w' := by
  obtain ⟨p0, hp, hy0, hy1, hy2⟩ := info_parts strInfoS
  have hov := World.ownsRow_made (base := w.heap.size) (e := 9) (size := 1) w #[] 0 (Nat.le_refl _) (by simp [maxLen]) rfl
  have hbv : Below w.heap.size w (w.alloc (.cells #[] 9)) := (Below.refl _ _).alloc (Nat.le_refl _) _
  obtain ⟨spI, hsp⟩ : ∃ x : Int, (sp.toNat : Int) = x := ⟨_, rfl⟩
  rw [hsp]
  have HSp := Lib.hid hsp; clear hsp
  go_enter Tryd.func11, Tryd.ntmps11
  go_wp2_with fail
  go_loopw [5, 6, 7] (fun y f i wr => ∃ (k m : Nat) (ws : List ByteArray), i = .int .i64 k ∧ f = .int .i64 m ∧ Hid (SpSt sp s ws m k) ∧ m ≤ k ∧ k ≤ s.size ∧ ws.length ≤ k ∧ wr.ownsRow w.heap.size 9 1 y ws.length (ws.flatMap strC) ∧ Below w.heap.size w wr) (fun _ _ i _ => s.size - (intOf i).toNat)
  case atStart => exact ⟨0, 0, [], rfl, rfl, Lib.hid (SpSt.start sp s), Nat.le_refl _, Nat.zero_le _, by simp, hov, hbv⟩
  case round =>
    clear hov hbv
    obtain ⟨k, m, ws, rfl, rfl, Hs, hmk, hks, hwl, hov, hbw⟩ := hrel
    obtain ⟨A3, c3, rfl⟩ := own_slice hov
    have e63 : ws.length + 1 ≤ maxLen := by unfold maxLen; omega
    have e32 : (ws.length + 1) * 16 ≤ 140737488355328 := by omega
    have E63 := Lib.hid e63; clear e63
    have E32 := Lib.hid e32; clear e32
    by_cases hlt : k < s.size
    · by_cases he : s[k] = sp
      · have hq : (s[k].toNat : Int) = spI := by rw [he]; exact HSp.out
        have hst := Hs.out.hit hlt he
        have Hst := Lib.hid hst; clear hst
        clear he
        go_wp2_with (at_builtin; refine wpl_append _ rfl (.tmp 20) (.tmp 25) _ rfl w.heap.size 9 p0 _ 1 16 Tryd.underlying28 hp hy0 hy1 hy2 rfl (by omega) _ (ws.length) _ rfl ((hov).alloc _) ((wr).heap.size + 1) (some ⟨(wr).heap.size, 0, none⟩) 1 1 (strC (s.extract m k)) rfl (Sl.new (wr) 9 _ 1 1 rfl) (strC_one _) E63.out E32.out (le_alloc (hbw).size _) ?_; intro v4 w4 ho4 hg4 hat4)
        go_roundw
        case rel =>
          refine ⟨k + 1, k + 1, ws ++ [s.extract m k], by go_num, by go_num, Lib.hid Hst.out, Nat.le_refl _, hlt, by simp; omega, ?_, (hbw.alloc hbw.size _).grown hg4 (le_alloc hbw.size _) fun g hg => (hov.lt g hg).1⟩
          rw [List.flatMap_append]
          simpa using ho4
        case measure => simp [intOf]; omega
      · have hq : ¬ (s[k].toNat : Int) = spI := fun e => he (UInt8.toNat.inj (by have := HSp.out; omega))
        have hst := Hs.out.miss hlt he
        have Hst := Lib.hid hst; clear hst
        clear he
        go_wp2_with fail
        go_roundw
        case rel => exact ⟨k + 1, m, ws, by go_num, rfl, Lib.hid Hst.out, by omega, hlt, by omega, hov, hbw⟩
        case measure => simp [intOf]; omega
    · obtain rfl : k = s.size := by omega
      have hst := Hs.out.last
      have Hst := Lib.hid hst; clear hst
      go_wp2_with (at_builtin; refine wpl_append _ rfl (.tmp 29) (.tmp 33) _ rfl w.heap.size 9 p0 _ 1 16 Tryd.underlying28 hp hy0 hy1 hy2 rfl (by omega) _ (ws.length) _ rfl ((hov).alloc _) ((wr).heap.size + 1) (some ⟨(wr).heap.size, 0, none⟩) 1 1 (strC (s.extract m s.size)) rfl (Sl.new (wr) 9 _ 1 1 rfl) (strC_one _) E63.out E32.out (le_alloc (hbw).size _) ?_; intro v4 w4 ho4 hg4 hat4)
      go_ret
      refine ⟨_, ws ++ [s.extract m s.size], rfl, ?_, by simp; omega, Hst.out, (hbw.alloc hbw.size _).grown hg4 (le_alloc hbw.size _) fun g hg => (hov.lt g hg).1⟩
      rw [List.flatMap_append]
      simpa using ho4
end Go.Proofs.YtgcfmmcdecabpaaDoor
