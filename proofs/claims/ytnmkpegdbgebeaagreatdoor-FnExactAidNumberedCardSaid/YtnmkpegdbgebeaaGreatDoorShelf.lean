/-
  DERIVED: THE SHELF's CONTRACTS AT THIS DUMP, IN PLAIN WORDS (tools/lay-plain.mjs out of 'TryzShelf.lean', which tools/lay-shelf.mjs wrote): THE SAME DECLARATIONS UNDER THE SAME NAMES: 'import', 'namespace', 'open', 'def', 'theorem' AND NOTHING ELSE: no command of the shelf's: FOR A HAND-IN. Each laying: the table of numbers ('.._ren') and one theorem, a field a fact of the dump's own or the kernel's comparison; each contract: ONE APPLICATION.
-/
import Derived.Shelf.Strings.Fields
import Derived.Test.YtnmkpegdbgebeaaGreatDoorProg
namespace Go.Proofs
open Go.Shelf
def Tryz.lays157_ren : Go.Shelf.Ren := ⟨fun | 157 => 133 | 229 => 158 | 199 => 159 | 261 => 178 | 311 => 184 | 312 => 185 | n => n, fun | 9 => 9 | 31 => 129 | 3 => 3 | 5 => 5 | 4 => 4 | 119 => 154 | 0 => 0 | 40 => 156 | 152 => 166 | 21 => 21 | 154 => 168 | 51 => 169 | 141 => 171 | 196 => 176 | 193 => 173 | 198 => 179 | 49 => 177 | 194 => 174 | 201 => 182 | 226 => 187 | 46 => 185 | 227 => 188 | n => n, fun | 0 => 0 | 6 => 1 | n => n⟩
theorem Tryz.lays157 : Go.Proofs.Lays.n157 Tryz.prog Tryz.lays157_ren := {
  mixed := by kernel_rfl
  f157 := Tryz.func133.trans (congrArg some (by kernel_rfl))
  f199 := Tryz.func159.trans (congrArg some (by kernel_rfl))
  f229 := Tryz.func158.trans (congrArg some (by kernel_rfl))
  f261 := Tryz.func178.trans (congrArg some (by kernel_rfl))
  f311 := Tryz.func184.trans (congrArg some (by kernel_rfl))
  f312 := Tryz.func185.trans (congrArg some (by kernel_rfl))
  t0 := Tryz.underlying0
  a0 := Tryz.isAgg0
  z0 := Tryz.sizeOf0
  v0 := Tryz.zeroValue0
  t3 := Tryz.underlying3
  a3 := Tryz.isAgg3
  z3 := Tryz.sizeOf3
  v3 := Tryz.zeroValue3
  t4 := Tryz.underlying4
  a4 := Tryz.isAgg4
  z4 := Tryz.sizeOf4
  v4 := Tryz.zeroValue4
  t5 := Tryz.underlying5
  a5 := Tryz.isAgg5
  z5 := Tryz.sizeOf5
  v5 := Tryz.zeroValue5
  t9 := Tryz.underlying9
  a9 := Tryz.isAgg9
  z9 := Tryz.sizeOf9
  v9 := Tryz.zeroValue9
  t21 := Tryz.underlying21
  a21 := Tryz.isAgg21
  z21 := Tryz.sizeOf21
  v21 := Tryz.zeroValue21
  t31 := Tryz.underlying129
  a31 := Tryz.isAgg129
  z31 := Tryz.sizeOf129
  v31 := Tryz.zeroValue129
  t40 := Tryz.underlying156
  a40 := Tryz.isAgg156
  z40 := Tryz.sizeOf156
  v40 := Tryz.zeroValue156
  t46 := Tryz.underlying185
  a46 := Tryz.isAgg185
  z46 := Tryz.sizeOf185
  v46 := Tryz.zeroValue185
  t49 := Tryz.underlying177
  a49 := Tryz.isAgg177
  z49 := Tryz.sizeOf177
  v49 := Tryz.zeroValue177
  t51 := Tryz.underlying169
  a51 := Tryz.isAgg169
  z51 := Tryz.sizeOf169
  v51 := Tryz.zeroValue169
  t119 := Tryz.underlying154
  a119 := Tryz.isAgg154
  z119 := Tryz.sizeOf154
  t141 := Tryz.underlying171
  a141 := Tryz.isAgg171
  z141 := Tryz.sizeOf171
  v141 := Tryz.zeroValue171
  t152 := Tryz.underlying166
  a152 := Tryz.isAgg166
  z152 := Tryz.sizeOf166
  v152 := Tryz.zeroValue166
  t154 := Tryz.underlying168
  a154 := Tryz.isAgg168
  z154 := Tryz.sizeOf168
  v154 := Tryz.zeroValue168
  t193 := Tryz.underlying173
  a193 := Tryz.isAgg173
  z193 := Tryz.sizeOf173
  v193 := Tryz.zeroValue173
  t194 := Tryz.underlying174
  a194 := Tryz.isAgg174
  z194 := Tryz.sizeOf174
  v194 := Tryz.zeroValue174
  t196 := Tryz.underlying176
  a196 := Tryz.isAgg176
  z196 := Tryz.sizeOf176
  v196 := Tryz.zeroValue176
  t198 := Tryz.underlying179
  a198 := Tryz.isAgg179
  z198 := Tryz.sizeOf179
  v198 := Tryz.zeroValue179
  t201 := Tryz.underlying182
  a201 := Tryz.isAgg182
  z201 := Tryz.sizeOf182
  v201 := Tryz.zeroValue182
  t226 := Tryz.underlying187
  a226 := Tryz.isAgg187
  z226 := Tryz.sizeOf187
  v226 := Tryz.zeroValue187
  t227 := Tryz.underlying188
  a227 := Tryz.isAgg188
  z227 := Tryz.sizeOf188
  v227 := Tryz.zeroValue188
  g0 := by kernel_rfl
  g6 := by kernel_rfl }
open Go.RowKit Go.Lib in
/-- strings.Fields, the table by 'Lib.TabIs' (as strings.TrimSpace's contract). 'hg': the table's number, by its name: at a dump 'by kernel_rfl'. (LAID: no walk: one application.) -/
theorem Tryz.strings_Fields (s : ByteArray) (w : World) (hs : s.size < 4294967281) (hascii : ∀ (j : Nat) b, s.data.toList[j]? = some b → b.toNat < 128) (htab : Lib.TabIs Tryz.prog w "strings.asciiSpace" .u8 Lib.asciiSpaceTab) :
    Calls Tryz.prog 133 #[.string s] w fun e w' =>
      e = .returned (.slice (some ⟨w.heap.size, 0, none⟩) (Lib.fields s.data.toList).length (Lib.fields s.data.toList).length) ∧ w' = w.alloc (.cells ((Lib.fields s.data.toList).map fun l => Value.string ⟨l.toArray⟩).toArray 9) := Any.strings_Fields Tryz.lays157 (by kernel_rfl) (by kernel_rfl) s w hs hascii htab
end Go.Proofs
