/-
  DERIVED: THE SHELF's CONTRACTS AT THIS DUMP, IN PLAIN WORDS (tools/lay-plain.mjs out of 'TryzShelf.lean', which tools/lay-shelf.mjs wrote): THE SAME DECLARATIONS UNDER THE SAME NAMES: 'import', 'namespace', 'open', 'def', 'theorem' AND NOTHING ELSE: no command of the shelf's: FOR A HAND-IN. Each laying: the table of numbers ('.._ren') and one theorem, a field a fact of the dump's own or the kernel's comparison; each contract: ONE APPLICATION.
-/
import Derived.Shelf.Strings.Fields
import Derived.Test.YtaooidgmphbegaaGreatDoorProg
namespace Go.Proofs
open Go.Shelf
def Tryz.lays157_ren : Go.Shelf.Ren := ⟨fun | 157 => 159 | 229 => 204 | 199 => 205 | 261 => 231 | 311 => 236 | 312 => 237 | n => n, fun | 9 => 9 | 31 => 159 | 3 => 3 | 5 => 5 | 4 => 4 | 119 => 198 | 0 => 0 | 40 => 200 | 152 => 210 | 21 => 21 | 154 => 212 | 51 => 213 | 141 => 215 | 196 => 221 | 193 => 218 | 198 => 224 | 49 => 222 | 194 => 219 | 201 => 227 | 226 => 231 | 46 => 230 | 227 => 232 | n => n, fun | 0 => 0 | 6 => 1 | n => n⟩
theorem Tryz.lays157 : Go.Proofs.Lays.n157 Tryz.prog Tryz.lays157_ren := {
  mixed := by kernel_rfl
  f157 := Tryz.func159.trans (congrArg some (by kernel_rfl))
  f199 := Tryz.func205.trans (congrArg some (by kernel_rfl))
  f229 := Tryz.func204.trans (congrArg some (by kernel_rfl))
  f261 := Tryz.func231.trans (congrArg some (by kernel_rfl))
  f311 := Tryz.func236.trans (congrArg some (by kernel_rfl))
  f312 := Tryz.func237.trans (congrArg some (by kernel_rfl))
  t0 := Tryz.underlying0
  a0 := Tryz.isAgg0
  z0 := Tryz.sizeOf0
  v0 := Tryz.zeroValue0
  t3 := Tryz.underlying3
  a3 := Tryz.isAgg3
  z3 := Tryz.sizeOf3
  v3 := Tryz.zeroValue3
  t4 := Tryz.underlying4
  a4 := Tryz.isAgg4
  z4 := Tryz.sizeOf4
  v4 := Tryz.zeroValue4
  t5 := Tryz.underlying5
  a5 := Tryz.isAgg5
  z5 := Tryz.sizeOf5
  v5 := Tryz.zeroValue5
  t9 := Tryz.underlying9
  a9 := Tryz.isAgg9
  z9 := Tryz.sizeOf9
  v9 := Tryz.zeroValue9
  t21 := Tryz.underlying21
  a21 := Tryz.isAgg21
  z21 := Tryz.sizeOf21
  v21 := Tryz.zeroValue21
  t31 := Tryz.underlying159
  a31 := Tryz.isAgg159
  z31 := Tryz.sizeOf159
  v31 := Tryz.zeroValue159
  t40 := Tryz.underlying200
  a40 := Tryz.isAgg200
  z40 := Tryz.sizeOf200
  v40 := Tryz.zeroValue200
  t46 := Tryz.underlying230
  a46 := Tryz.isAgg230
  z46 := Tryz.sizeOf230
  v46 := Tryz.zeroValue230
  t49 := Tryz.underlying222
  a49 := Tryz.isAgg222
  z49 := Tryz.sizeOf222
  v49 := Tryz.zeroValue222
  t51 := Tryz.underlying213
  a51 := Tryz.isAgg213
  z51 := Tryz.sizeOf213
  v51 := Tryz.zeroValue213
  t119 := Tryz.underlying198
  a119 := Tryz.isAgg198
  z119 := Tryz.sizeOf198
  t141 := Tryz.underlying215
  a141 := Tryz.isAgg215
  z141 := Tryz.sizeOf215
  v141 := Tryz.zeroValue215
  t152 := Tryz.underlying210
  a152 := Tryz.isAgg210
  z152 := Tryz.sizeOf210
  v152 := Tryz.zeroValue210
  t154 := Tryz.underlying212
  a154 := Tryz.isAgg212
  z154 := Tryz.sizeOf212
  v154 := Tryz.zeroValue212
  t193 := Tryz.underlying218
  a193 := Tryz.isAgg218
  z193 := Tryz.sizeOf218
  v193 := Tryz.zeroValue218
  t194 := Tryz.underlying219
  a194 := Tryz.isAgg219
  z194 := Tryz.sizeOf219
  v194 := Tryz.zeroValue219
  t196 := Tryz.underlying221
  a196 := Tryz.isAgg221
  z196 := Tryz.sizeOf221
  v196 := Tryz.zeroValue221
  t198 := Tryz.underlying224
  a198 := Tryz.isAgg224
  z198 := Tryz.sizeOf224
  v198 := Tryz.zeroValue224
  t201 := Tryz.underlying227
  a201 := Tryz.isAgg227
  z201 := Tryz.sizeOf227
  v201 := Tryz.zeroValue227
  t226 := Tryz.underlying231
  a226 := Tryz.isAgg231
  z226 := Tryz.sizeOf231
  v226 := Tryz.zeroValue231
  t227 := Tryz.underlying232
  a227 := Tryz.isAgg232
  z227 := Tryz.sizeOf232
  v227 := Tryz.zeroValue232
  g0 := by kernel_rfl
  g6 := by kernel_rfl }
open Go.RowKit Go.Lib in
/-- strings.Fields, the table by 'Lib.TabIs' (as strings.TrimSpace's contract). 'hg': the table's number, by its name: at a dump 'by kernel_rfl'. (LAID: no walk: one application.) -/
theorem Tryz.strings_Fields (s : ByteArray) (w : World) (hs : s.size < 4294967281) (hascii : ∀ (j : Nat) b, s.data.toList[j]? = some b → b.toNat < 128) (htab : Lib.TabIs Tryz.prog w "strings.asciiSpace" .u8 Lib.asciiSpaceTab) :
    Calls Tryz.prog 159 #[.string s] w fun e w' =>
      e = .returned (.slice (some ⟨w.heap.size, 0, none⟩) (Lib.fields s.data.toList).length (Lib.fields s.data.toList).length) ∧ w' = w.alloc (.cells ((Lib.fields s.data.toList).map fun l => Value.string ⟨l.toArray⟩).toArray 9) := Any.strings_Fields Tryz.lays157 (by kernel_rfl) (by kernel_rfl) s w hs hascii htab
end Go.Proofs
