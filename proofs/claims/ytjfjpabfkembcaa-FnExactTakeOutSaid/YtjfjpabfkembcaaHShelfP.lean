/-
  DERIVED: THE SHELF's CONTRACTS AT THIS DUMP, IN PLAIN WORDS (tools/lay-plain.mjs out of 'YtjfjpabfkembcaaHShelf.lean', which tools/lay-shelf.mjs wrote): THE SAME DECLARATIONS UNDER THE SAME NAMES: 'import', 'namespace', 'open', 'def', 'theorem' AND NOTHING ELSE: no command of the shelf's: FOR A HAND-IN. Each laying: the table of numbers ('.._ren') and one theorem, a field a fact of the dump's own or the kernel's comparison; each contract: ONE APPLICATION.
-/
import Derived.Ground.NamesProg
import Derived.Ground.Names2Prog
import Derived.Shelf.Sort.Plain
import Derived.Shelf.Slices.CompactI
import Derived.Test.YtjfjpabfkembcaaProg
namespace Go.Proofs
open Go.Shelf
def Try.laysSort_ren : Go.Shelf.Ren := ⟨fun | 189 => 153 | 125 => 188 | 257 => 187 | 128 => 202 | 129 => 203 | 294 => 193 | 295 => 194 | 296 => 195 | 297 => 196 | 298 => 197 | 299 => 198 | 216 => 199 | 300 => 200 | 301 => 201 | 328 => 205 | 329 => 206 | 330 => 207 | 331 => 208 | 332 => 209 | 215 => 210 | 343 => 211 | n => n, fun | 28 => 25 | 3 => 3 | 46 => 138 | 0 => 0 | 51 => 85 | 53 => 200 | 4 => 4 | 183 => 191 | 182 => 190 | 131 => 196 | 5 => 5 | 9 => 9 | 218 => 202 | 222 => 206 | 228 => 208 | 229 => 209 | n => n, fun | n => n⟩
theorem Try.laysSort : Go.Proofs.Lays.n189 Try.prog Try.laysSort_ren := {
  mixed := by kernel_rfl
  f125 := Try.func188.trans (congrArg some (by kernel_rfl))
  f128 := Try.func202.trans (congrArg some (by kernel_rfl))
  f129 := Try.func203.trans (congrArg some (by kernel_rfl))
  f189 := Try.func153.trans (congrArg some (by kernel_rfl))
  f215 := Try.func210.trans (congrArg some (by kernel_rfl))
  f216 := Try.func199.trans (congrArg some (by kernel_rfl))
  f257 := Try.func187.trans (congrArg some (by kernel_rfl))
  f294 := Try.func193.trans (congrArg some (by kernel_rfl))
  f295 := Try.func194.trans (congrArg some (by kernel_rfl))
  f296 := Try.func195.trans (congrArg some (by kernel_rfl))
  f297 := Try.func196.trans (congrArg some (by kernel_rfl))
  f298 := Try.func197.trans (congrArg some (by kernel_rfl))
  f299 := Try.func198.trans (congrArg some (by kernel_rfl))
  f300 := Try.func200.trans (congrArg some (by kernel_rfl))
  f301 := Try.func201.trans (congrArg some (by kernel_rfl))
  f328 := Try.func205.trans (congrArg some (by kernel_rfl))
  f329 := Try.func206.trans (congrArg some (by kernel_rfl))
  f330 := Try.func207.trans (congrArg some (by kernel_rfl))
  f331 := Try.func208.trans (congrArg some (by kernel_rfl))
  f332 := Try.func209.trans (congrArg some (by kernel_rfl))
  f343 := Try.func211.trans (congrArg some (by kernel_rfl))
  t0 := Try.underlying0
  a0 := Try.isAgg0
  z0 := Try.sizeOf0
  v0 := Try.zeroValue0
  t3 := Try.underlying3
  a3 := Try.isAgg3
  z3 := Try.sizeOf3
  v3 := Try.zeroValue3
  t4 := Try.underlying4
  a4 := Try.isAgg4
  z4 := Try.sizeOf4
  v4 := Try.zeroValue4
  t5 := Try.underlying5
  a5 := Try.isAgg5
  z5 := Try.sizeOf5
  v5 := Try.zeroValue5
  t9 := Try.underlying9
  a9 := Try.isAgg9
  z9 := Try.sizeOf9
  v9 := Try.zeroValue9
  t28 := Try.underlying25
  a28 := Try.isAgg25
  z28 := Try.sizeOf25
  v28 := Try.zeroValue25
  t46 := Try.underlying138
  a46 := Try.isAgg138
  z46 := Try.sizeOf138
  v46 := Try.zeroValue138
  t51 := Try.underlying85
  a51 := Try.isAgg85
  z51 := Try.sizeOf85
  v51 := Try.zeroValue85
  t53 := Try.underlying200
  a53 := Try.isAgg200
  z53 := Try.sizeOf200
  v53 := Try.zeroValue200
  t131 := Try.underlying196
  a131 := Try.isAgg196
  z131 := Try.sizeOf196
  v131 := Try.zeroValue196
  t182 := Try.underlying190
  a182 := Try.isAgg190
  z182 := Try.sizeOf190
  v182 := Try.zeroValue190
  t183 := Try.underlying191
  a183 := Try.isAgg191
  z183 := Try.sizeOf191
  v183 := Try.zeroValue191
  t218 := Try.underlying202
  a218 := Try.isAgg202
  z218 := Try.sizeOf202
  v218 := Try.zeroValue202
  t222 := Try.underlying206
  a222 := Try.isAgg206
  z222 := Try.sizeOf206
  v222 := Try.zeroValue206
  t228 := Try.underlying208
  a228 := Try.isAgg208
  z228 := Try.sizeOf208
  v228 := Try.zeroValue208
  t229 := Try.underlying209
  a229 := Try.isAgg209
  z229 := Try.sizeOf209
  v229 := Try.zeroValue209 }
def Try.laysCompact_ren : Go.Shelf.Ren := ⟨fun | 20 => 154 | n => n, fun | 22 => 25 | 3 => 3 | 4 => 4 | 0 => 0 | n => n, fun | n => n⟩
theorem Try.laysCompact : Go.Proofs.Lays2.n20 Try.prog Try.laysCompact_ren := {
  mixed := by kernel_rfl
  f20 := Try.func154.trans (congrArg some (by kernel_rfl))
  t0 := Try.underlying0
  a0 := Try.isAgg0
  z0 := Try.sizeOf0
  v0 := Try.zeroValue0
  t3 := Try.underlying3
  a3 := Try.isAgg3
  z3 := Try.sizeOf3
  v3 := Try.zeroValue3
  t4 := Try.underlying4
  a4 := Try.isAgg4
  z4 := Try.sizeOf4
  v4 := Try.zeroValue4
  t22 := Try.underlying25
  a22 := Try.isAgg25
  z22 := Try.sizeOf25
  v22 := Try.zeroValue25
  i3 := by kernel_rfl }
end Go.Proofs
