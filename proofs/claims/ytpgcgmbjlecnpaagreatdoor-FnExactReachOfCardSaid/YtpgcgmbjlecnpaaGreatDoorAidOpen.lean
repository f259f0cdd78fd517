/- What the reader gives of an Aid argument; what the listed table gives. -/
import Derived.Test.YtpgcgmbjlecnpaaGreatDoorChOpen
import Derived.Test.YtpgcgmbjlecnpaaGreatDoorAidLaw
import Derived.Test.YtpgcgmbjlecnpaaGreatDoorMarkI
import Derived.Test.YtpgcgmbjlecnpaaGreatDoorRows
import Derived.LaidMore
import Derived.Stop.LaidErr
import Derived.Stop.Joined
import Derived.Lib.LaidTab
namespace Go.Proofs.YtpgcgmbjlecnpaaGreatDoor
open Go.ChangeShapes Go.WideShapes Go.ChangeAt Go.RowKit Go.Deep
section
variable {H : Type} {en : TypeId × Value → H} {w : World} {base : Nat} {spare : Nat → Bool} {held : Bool}
theorem point_trod (m : Nat) (cs : List Value) (y : DataW H × List MemPlace) (h : DataW.trod en Tryz.prog w base spare held m 23 cs = some y) : ∃ a b : Int, cs = [.int .i64 a, .int .i64 b] := by
  have hl := struct_len Tryz.underlying23 h 2 (by kernel_rfl)
  match cs, hl with
  | [a, b], _ =>
    obtain ⟨_, _, g0⟩ := struct_field Tryz.underlying23 h 0 _ rfl 1 (by kernel_rfl) [a] rfl
    obtain ⟨_, _, g1⟩ := struct_field Tryz.underlying23 h 1 _ rfl 1 (by kernel_rfl) [b] rfl
    obtain ⟨x0, e0, _, _⟩ := DataW.trod_int Tryz.underlying2 g0
    obtain ⟨x1, e1, _, _⟩ := DataW.trod_int Tryz.underlying2 g1
    simp only [List.cons.injEq, and_true] at e0 e1
    subst e0 e1
    exact ⟨_, _, rfl⟩
theorem mark_trod (m : Nat) (cs : List Value) (y : DataW H × List MemPlace) (h : DataW.trod en Tryz.prog w base spare held m 27 cs = some y) : ∃ k : Mk, cs = k.cells ∧ k.cs.size ≤ maxLen ∧ k.sh.size ≤ maxLen ∧ k.tp.size ≤ maxLen := by
  have hl := struct_len Tryz.underlying27 h 4 (by kernel_rfl)
  match cs, hl with
  | [a, b, c, d], _ =>
    obtain ⟨_, _, g0⟩ := struct_field Tryz.underlying27 h 0 _ rfl 1 (by kernel_rfl) [a] rfl
    obtain ⟨_, _, g1⟩ := struct_field Tryz.underlying27 h 1 _ rfl 1 (by kernel_rfl) [b] rfl
    obtain ⟨_, _, g2⟩ := struct_field Tryz.underlying27 h 2 _ rfl 1 (by kernel_rfl) [c] rfl
    obtain ⟨_, _, g3⟩ := struct_field Tryz.underlying27 h 3 _ rfl 1 (by kernel_rfl) [d] rfl
    obtain ⟨x0, e0, _, _⟩ := DataW.trod_int Tryz.underlying2 g0
    obtain ⟨x1, e1, _, h1⟩ := DataW.trod_string Tryz.underlying9 g1
    obtain ⟨x2, e2, _, h2⟩ := DataW.trod_string Tryz.underlying9 g2
    obtain ⟨x3, e3, _, h3⟩ := DataW.trod_string Tryz.underlying9 g3
    simp only [List.cons.injEq, and_true] at e0 e1 e2 e3
    subst e0 e1 e2 e3
    exact ⟨⟨_, _, _, _⟩, rfl, h1, h2, h3⟩
theorem sector_trod (m : Nat) (cs : List Value) (y : DataW H × List MemPlace) (h : DataW.trod en Tryz.prog w base spare held m 98 cs = some y) : ∃ k : Sec, cs = k.cells ∧ k.c.size ≤ maxLen := by
  have hl := struct_len Tryz.underlying98 h 3 (by kernel_rfl)
  match cs, hl with
  | [a, b, c], _ =>
    obtain ⟨_, _, g0⟩ := struct_field Tryz.underlying98 h 0 _ rfl 1 (by kernel_rfl) [a] rfl
    obtain ⟨_, _, g1⟩ := struct_field Tryz.underlying98 h 1 _ rfl 1 (by kernel_rfl) [b] rfl
    obtain ⟨_, _, g2⟩ := struct_field Tryz.underlying98 h 2 _ rfl 1 (by kernel_rfl) [c] rfl
    obtain ⟨x0, e0, _, _⟩ := DataW.trod_int Tryz.underlying2 g0
    obtain ⟨x1, e1, _, _⟩ := DataW.trod_int Tryz.underlying2 g1
    obtain ⟨x2, e2, _, h2⟩ := DataW.trod_string Tryz.underlying9 g2
    simp only [List.cons.injEq, and_true] at e0 e1 e2
    subst e0 e1 e2
    exact ⟨⟨_, _, _⟩, rfl, h2⟩
theorem aid_trod (m : Nat) (cs : List Value) (y : DataW H × List MemPlace) (h : DataW.trod en Tryz.prog w base spare held m 33 cs = some y) : ∃ z : AidG, cs = z.cells ∧ AidRd w z := by
  have hl := struct_len Tryz.underlying33 h 16 (by kernel_rfl)
  match cs, hl with
  | [a0, a1, a2, a3, a4, a5, a6, a7, a8, a9, a10, a11, a12, a13, a14, a15], _ =>
    obtain ⟨_, _, g0⟩ := struct_field Tryz.underlying33 h 0 _ rfl 1 (by kernel_rfl) [a0] rfl
    obtain ⟨_, _, g1⟩ := struct_field Tryz.underlying33 h 1 _ rfl 1 (by kernel_rfl) [a1] rfl
    obtain ⟨n2, _, g2⟩ := struct_field Tryz.underlying33 h 2 _ rfl 2 (by kernel_rfl) [a2, a3] rfl
    obtain ⟨_, _, g3⟩ := struct_field Tryz.underlying33 h 3 _ rfl 1 (by kernel_rfl) [a4] rfl
    obtain ⟨n4, _, g4⟩ := struct_field Tryz.underlying33 h 4 _ rfl 4 (by kernel_rfl) [a5, a6, a7, a8] rfl
    obtain ⟨n5, _, g5⟩ := struct_field Tryz.underlying33 h 5 _ rfl 5 (by kernel_rfl) [a9, a10, a11, a12, a13] rfl
    obtain ⟨_, _, g6⟩ := struct_field Tryz.underlying33 h 6 _ rfl 1 (by kernel_rfl) [a14] rfl
    obtain ⟨_, _, g7⟩ := struct_field Tryz.underlying33 h 7 _ rfl 1 (by kernel_rfl) [a15] rfl
    obtain ⟨num, e0, _, _⟩ := DataW.trod_int Tryz.underlying2 g0
    obtain ⟨nm, e1, _, hnm⟩ := DataW.trod_string Tryz.underlying9 g1
    obtain ⟨px, py, e2⟩ := point_trod _ _ _ g2
    obtain ⟨hh, e3, _, _⟩ := DataW.trod_int Tryz.underlying2 g3
    obtain ⟨⟨mk, mcs, msh, mtp⟩, e4, m1, m2, m3⟩ := mark_trod _ _ _ g4
    obtain ⟨ck, A, n, c, l, s, p, gs, e5, sl, hn, hls, hss⟩ := character_trod _ _ _ g5
    obtain ⟨it, e7, _, _⟩ := DataW.trod_int Tryz.underlying2 g7
    obtain ⟨B, q, d, e6⟩ : ∃ B q d, a14 = .slice B q d := by
      rcases open_slice Tryz.underlying31 g6 with ⟨hcs, _⟩ | ⟨a, len, cap, m, fu, D, Pl, hcs, _⟩
      · simp at hcs; exact ⟨_, _, _, hcs⟩
      · simp at hcs; exact ⟨_, _, _, hcs⟩
    subst e6
    obtain ⟨mq, ss, sl2, hsc⟩ := open_Sl Sec.cells 3 Sec.cells_len (by omega) (fun s => s.c.size ≤ maxLen) Tryz.underlying31 (by kernel_rfl) sector_trod g6
    have hgl : gs.length = n := sl.len intC 1 intC_len (by omega)
    have hql : ss.length = q := sl2.len Sec.cells 3 Sec.cells_len (by omega)
    subst hgl hql
    simp only [List.cons.injEq, and_true, Mk.cells] at e0 e1 e2 e3 e4 e5 e7
    obtain ⟨rfl, rfl⟩ := e2
    obtain ⟨rfl, rfl, rfl, rfl⟩ := e4
    obtain ⟨rfl, rfl, rfl, rfl, rfl⟩ := e5
    subst e0 e1 e3 e7
    exact ⟨⟨⟨num, nm, px, py, hh, ⟨mk, mcs, msh, mtp⟩, ⟨ck, gs, l, s, p⟩, ss, it⟩, A, c, B, d⟩, rfl, ⟨sl, sl2, hnm, m1, m2, m3, hn, hls, hss, mq, hsc⟩⟩
end
theorem spaceData : (Rows.laid_strings_asciiSpace : DataW Unit) = Lib.tabData .u8 Lib.asciiSpaceTab := by kernel_rfl
theorem of_laid {W : World} (h : laidMetH Tryz.prog [("unicode.White_Space", Rows.laid_unicode_White_Space), ("strings.asciiSpace", Rows.laid_strings_asciiSpace)] W) : Tab W := by
  rw [MakeChecks.laidMetH_plain _ _ _ (by kernel_rfl), spaceData] at h
  exact Lib.tabIs_of_head (show Tryz.prog.globalNamed "strings.asciiSpace" = some 0 by kernel_rfl) (t := 157) (by kernel_rfl) Tryz.underlying157 Tryz.underlying5 (by kernel_rfl) (by kernel_rfl) (laidMet.tail h)
theorem andT {a b : Bool} (h1 : a = true) (h2 : b = true) : (a && b) = true := by rw [h1, h2]; rfl
end Go.Proofs.YtpgcgmbjlecnpaaGreatDoor
