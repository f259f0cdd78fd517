
/- The laws' own functions over []Sector. -/
import Derived.Test.YtpfnnjcochhklaaGreatDoorAiG
import Derived.Test.YtpfnnjcochhklaaGreatDoorChEq
namespace Go.Proofs.YtpfnnjcochhklaaGreatDoor
open Go.RowKit
abbrev Sec.val (s : Sec) : Value := .agg #[.int .i64 s.f, .int .i64 s.t, .string s.c]
theorem secInfo : (Tryz.prog.info? 94).map (fun i => (i.zero, i.size, i.bytes)) = some (some (.agg #[.int .i64 0, .int .i64 0, .string ByteArray.empty]), 3, 32) := by kernel_rfl
theorem Sl.sec {w : World} {B n : Nat} {A : Option Addr} {xs : List Sec} (h : Sl w B 3 A n (xs.flatMap Sec.cells)) (k : Nat) (hk : k < n) :
    ∃ b off x, A = some ⟨b, off, none⟩ ∧ b < B ∧ xs[k]? = some x ∧ w.cell? ⟨b, off + k * 3, none⟩ = some (.int .i64 x.f) ∧ w.cell? ⟨b, off + k * 3 + 1, none⟩ = some (.int .i64 x.t) ∧ w.cell? ⟨b, off + k * 3 + 2, none⟩ = some (.string x.c) := by
  obtain ⟨b, off, s, hA, hb, hx, hc⟩ := h.get Sec.cells 3 Sec.cells_len (by omega) k hk
  exact ⟨b, off, s, hA, hb, hx, hc 0 _ rfl, hc 1 _ rfl, hc 2 _ rfl⟩
end Go.Proofs.YtpfnnjcochhklaaGreatDoor
