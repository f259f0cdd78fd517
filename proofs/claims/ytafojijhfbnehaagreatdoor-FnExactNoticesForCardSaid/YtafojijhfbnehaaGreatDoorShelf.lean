/-
  DERIVED: THE SHELF's CONTRACTS AT THIS DUMP, IN PLAIN WORDS (tools/lay-plain.mjs out of 'TryzShelf.lean', which tools/lay-shelf.mjs wrote): THE SAME DECLARATIONS UNDER THE SAME NAMES: 'import', 'namespace', 'open', 'def', 'theorem' AND NOTHING ELSE: no command of the shelf's: FOR A HAND-IN. Each laying: the table of numbers ('.._ren') and one theorem, a field a fact of the dump's own or the kernel's comparison; each contract: ONE APPLICATION.
-/
import Derived.Shelf.Strings.Fields
import Derived.Test.YtafojijhfbnehaaGreatDoorProg
namespace Go.Proofs
open Go.Shelf
def Tryz.lays157_ren : Go.Shelf.Ren := ⟨fun | 157 => 176 | 229 => 195 | 199 => 196 | 261 => 213 | 311 => 216 | 312 => 217 | n => n, fun | 9 => 9 | 31 => 161 | 3 => 3 | 5 => 5 | 4 => 4 | 119 => 193 | 0 => 0 | 40 => 195 | 152 => 204 | 21 => 21 | 154 => 206 | 51 => 207 | 141 => 209 | 196 => 214 | 193 => 211 | 198 => 217 | 49 => 215 | 194 => 212 | 201 => 220 | 226 => 223 | 46 => 182 | 227 => 224 | n => n, fun | 0 => 0 | 6 => 1 | n => n⟩
theorem Tryz.lays157 : Go.Proofs.Lays.n157 Tryz.prog Tryz.lays157_ren := {
  mixed := by kernel_rfl
  f157 := Tryz.func176.trans (congrArg some (by kernel_rfl))
  f199 := Tryz.func196.trans (congrArg some (by kernel_rfl))
  f229 := Tryz.func195.trans (congrArg some (by kernel_rfl))
  f261 := Tryz.func213.trans (congrArg some (by kernel_rfl))
  f311 := Tryz.func216.trans (congrArg some (by kernel_rfl))
  f312 := Tryz.func217.trans (congrArg some (by kernel_rfl))
  t0 := Tryz.underlying0
  a0 := Tryz.isAgg0
  z0 := Tryz.sizeOf0
  v0 := Tryz.zeroValue0
  t3 := Tryz.underlying3
  a3 := Tryz.isAgg3
  z3 := Tryz.sizeOf3
  v3 := Tryz.zeroValue3
  t4 := Tryz.underlying4
  a4 := Tryz.isAgg4
  z4 := Tryz.sizeOf4
  v4 := Tryz.zeroValue4
  t5 := Tryz.underlying5
  a5 := Tryz.isAgg5
  z5 := Tryz.sizeOf5
  v5 := Tryz.zeroValue5
  t9 := Tryz.underlying9
  a9 := Tryz.isAgg9
  z9 := Tryz.sizeOf9
  v9 := Tryz.zeroValue9
  t21 := Tryz.underlying21
  a21 := Tryz.isAgg21
  z21 := Tryz.sizeOf21
  v21 := Tryz.zeroValue21
  t31 := Tryz.underlying161
  a31 := Tryz.isAgg161
  z31 := Tryz.sizeOf161
  v31 := Tryz.zeroValue161
  t40 := Tryz.underlying195
  a40 := Tryz.isAgg195
  z40 := Tryz.sizeOf195
  v40 := Tryz.zeroValue195
  t46 := Tryz.underlying182
  a46 := Tryz.isAgg182
  z46 := Tryz.sizeOf182
  v46 := Tryz.zeroValue182
  t49 := Tryz.underlying215
  a49 := Tryz.isAgg215
  z49 := Tryz.sizeOf215
  v49 := Tryz.zeroValue215
  t51 := Tryz.underlying207
  a51 := Tryz.isAgg207
  z51 := Tryz.sizeOf207
  v51 := Tryz.zeroValue207
  t119 := Tryz.underlying193
  a119 := Tryz.isAgg193
  z119 := Tryz.sizeOf193
  t141 := Tryz.underlying209
  a141 := Tryz.isAgg209
  z141 := Tryz.sizeOf209
  v141 := Tryz.zeroValue209
  t152 := Tryz.underlying204
  a152 := Tryz.isAgg204
  z152 := Tryz.sizeOf204
  v152 := Tryz.zeroValue204
  t154 := Tryz.underlying206
  a154 := Tryz.isAgg206
  z154 := Tryz.sizeOf206
  v154 := Tryz.zeroValue206
  t193 := Tryz.underlying211
  a193 := Tryz.isAgg211
  z193 := Tryz.sizeOf211
  v193 := Tryz.zeroValue211
  t194 := Tryz.underlying212
  a194 := Tryz.isAgg212
  z194 := Tryz.sizeOf212
  v194 := Tryz.zeroValue212
  t196 := Tryz.underlying214
  a196 := Tryz.isAgg214
  z196 := Tryz.sizeOf214
  v196 := Tryz.zeroValue214
  t198 := Tryz.underlying217
  a198 := Tryz.isAgg217
  z198 := Tryz.sizeOf217
  v198 := Tryz.zeroValue217
  t201 := Tryz.underlying220
  a201 := Tryz.isAgg220
  z201 := Tryz.sizeOf220
  v201 := Tryz.zeroValue220
  t226 := Tryz.underlying223
  a226 := Tryz.isAgg223
  z226 := Tryz.sizeOf223
  v226 := Tryz.zeroValue223
  t227 := Tryz.underlying224
  a227 := Tryz.isAgg224
  z227 := Tryz.sizeOf224
  v227 := Tryz.zeroValue224
  g0 := by kernel_rfl
  g6 := by kernel_rfl }
open Go.RowKit Go.Lib in
/-- strings.Fields, the table by 'Lib.TabIs' (as strings.TrimSpace's contract). 'hg': the table's number, by its name: at a dump 'by kernel_rfl'. (LAID: no walk: one application.) -/
theorem Tryz.strings_Fields (s : ByteArray) (w : World) (hs : s.size < 4294967281) (hascii : ∀ (j : Nat) b, s.data.toList[j]? = some b → b.toNat < 128) (htab : Lib.TabIs Tryz.prog w "strings.asciiSpace" .u8 Lib.asciiSpaceTab) :
    Calls Tryz.prog 176 #[.string s] w fun e w' =>
      e = .returned (.slice (some ⟨w.heap.size, 0, none⟩) (Lib.fields s.data.toList).length (Lib.fields s.data.toList).length) ∧ w' = w.alloc (.cells ((Lib.fields s.data.toList).map fun l => Value.string ⟨l.toArray⟩).toArray 9) := Any.strings_Fields Tryz.lays157 (by kernel_rfl) (by kernel_rfl) s w hs hascii htab
end Go.Proofs
