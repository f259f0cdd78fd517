/-
  DERIVED: THE SHELF's CONTRACTS AT THIS DUMP, IN PLAIN WORDS (tools/lay-plain.mjs out of 'TryzShelf.lean', which tools/lay-shelf.mjs wrote): THE SAME DECLARATIONS UNDER THE SAME NAMES: 'import', 'namespace', 'open', 'def', 'theorem' AND NOTHING ELSE: no command of the shelf's: FOR A HAND-IN. Each laying: the table of numbers ('.._ren') and one theorem, a field a fact of the dump's own or the kernel's comparison; each contract: ONE APPLICATION.
-/
import Derived.Shelf.Strings.Fields
import Derived.Test.YtpfnnjcochhklaaGreatDoorProg
namespace Go.Proofs
open Go.Shelf
def Tryz.lays157_ren : Go.Shelf.Ren := ⟨fun | 157 => 144 | 229 => 155 | 199 => 156 | 261 => 169 | 311 => 172 | 312 => 173 | n => n, fun | 9 => 9 | 31 => 112 | 3 => 3 | 5 => 5 | 4 => 4 | 119 => 161 | 0 => 0 | 40 => 163 | 152 => 170 | 21 => 21 | 154 => 172 | 51 => 173 | 141 => 175 | 196 => 180 | 193 => 177 | 198 => 183 | 49 => 181 | 194 => 178 | 201 => 186 | 226 => 189 | 46 => 135 | 227 => 190 | n => n, fun | 0 => 0 | 6 => 1 | n => n⟩
theorem Tryz.lays157 : Go.Proofs.Lays.n157 Tryz.prog Tryz.lays157_ren := {
  mixed := by kernel_rfl
  f157 := Tryz.func144.trans (congrArg some (by kernel_rfl))
  f199 := Tryz.func156.trans (congrArg some (by kernel_rfl))
  f229 := Tryz.func155.trans (congrArg some (by kernel_rfl))
  f261 := Tryz.func169.trans (congrArg some (by kernel_rfl))
  f311 := Tryz.func172.trans (congrArg some (by kernel_rfl))
  f312 := Tryz.func173.trans (congrArg some (by kernel_rfl))
  t0 := Tryz.underlying0
  a0 := Tryz.isAgg0
  z0 := Tryz.sizeOf0
  v0 := Tryz.zeroValue0
  t3 := Tryz.underlying3
  a3 := Tryz.isAgg3
  z3 := Tryz.sizeOf3
  v3 := Tryz.zeroValue3
  t4 := Tryz.underlying4
  a4 := Tryz.isAgg4
  z4 := Tryz.sizeOf4
  v4 := Tryz.zeroValue4
  t5 := Tryz.underlying5
  a5 := Tryz.isAgg5
  z5 := Tryz.sizeOf5
  v5 := Tryz.zeroValue5
  t9 := Tryz.underlying9
  a9 := Tryz.isAgg9
  z9 := Tryz.sizeOf9
  v9 := Tryz.zeroValue9
  t21 := Tryz.underlying21
  a21 := Tryz.isAgg21
  z21 := Tryz.sizeOf21
  v21 := Tryz.zeroValue21
  t31 := Tryz.underlying112
  a31 := Tryz.isAgg112
  z31 := Tryz.sizeOf112
  v31 := Tryz.zeroValue112
  t40 := Tryz.underlying163
  a40 := Tryz.isAgg163
  z40 := Tryz.sizeOf163
  v40 := Tryz.zeroValue163
  t46 := Tryz.underlying135
  a46 := Tryz.isAgg135
  z46 := Tryz.sizeOf135
  v46 := Tryz.zeroValue135
  t49 := Tryz.underlying181
  a49 := Tryz.isAgg181
  z49 := Tryz.sizeOf181
  v49 := Tryz.zeroValue181
  t51 := Tryz.underlying173
  a51 := Tryz.isAgg173
  z51 := Tryz.sizeOf173
  v51 := Tryz.zeroValue173
  t119 := Tryz.underlying161
  a119 := Tryz.isAgg161
  z119 := Tryz.sizeOf161
  t141 := Tryz.underlying175
  a141 := Tryz.isAgg175
  z141 := Tryz.sizeOf175
  v141 := Tryz.zeroValue175
  t152 := Tryz.underlying170
  a152 := Tryz.isAgg170
  z152 := Tryz.sizeOf170
  v152 := Tryz.zeroValue170
  t154 := Tryz.underlying172
  a154 := Tryz.isAgg172
  z154 := Tryz.sizeOf172
  v154 := Tryz.zeroValue172
  t193 := Tryz.underlying177
  a193 := Tryz.isAgg177
  z193 := Tryz.sizeOf177
  v193 := Tryz.zeroValue177
  t194 := Tryz.underlying178
  a194 := Tryz.isAgg178
  z194 := Tryz.sizeOf178
  v194 := Tryz.zeroValue178
  t196 := Tryz.underlying180
  a196 := Tryz.isAgg180
  z196 := Tryz.sizeOf180
  v196 := Tryz.zeroValue180
  t198 := Tryz.underlying183
  a198 := Tryz.isAgg183
  z198 := Tryz.sizeOf183
  v198 := Tryz.zeroValue183
  t201 := Tryz.underlying186
  a201 := Tryz.isAgg186
  z201 := Tryz.sizeOf186
  v201 := Tryz.zeroValue186
  t226 := Tryz.underlying189
  a226 := Tryz.isAgg189
  z226 := Tryz.sizeOf189
  v226 := Tryz.zeroValue189
  t227 := Tryz.underlying190
  a227 := Tryz.isAgg190
  z227 := Tryz.sizeOf190
  v227 := Tryz.zeroValue190
  g0 := by kernel_rfl
  g6 := by kernel_rfl }
open Go.RowKit Go.Lib in
/-- strings.Fields, the table by 'Lib.TabIs' (as strings.TrimSpace's contract). 'hg': the table's number, by its name: at a dump 'by kernel_rfl'. (LAID: no walk: one application.) -/
theorem Tryz.strings_Fields (s : ByteArray) (w : World) (hs : s.size < 4294967281) (hascii : ∀ (j : Nat) b, s.data.toList[j]? = some b → b.toNat < 128) (htab : Lib.TabIs Tryz.prog w "strings.asciiSpace" .u8 Lib.asciiSpaceTab) :
    Calls Tryz.prog 144 #[.string s] w fun e w' =>
      e = .returned (.slice (some ⟨w.heap.size, 0, none⟩) (Lib.fields s.data.toList).length (Lib.fields s.data.toList).length) ∧ w' = w.alloc (.cells ((Lib.fields s.data.toList).map fun l => Value.string ⟨l.toArray⟩).toArray 9) := Any.strings_Fields Tryz.lays157 (by kernel_rfl) (by kernel_rfl) s w hs hascii htab
end Go.Proofs
