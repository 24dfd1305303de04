/- Lemmas. -/
import Derived.Shelf.Sort.Plain
import Derived.Shelf.Slices.CompactI
import Derived.Shelf.Slices.In.SortNone
import Derived.Ground.NamesProg
import Derived.Ground.Names2Prog
import Derived.Test.YtmfpbafpnoomeaaGreatProg
set_option linter.unusedVariables false
set_option linter.unusedSimpArgs false
namespace Go.Proofs
open Go.Shelf
def Tryz.lays189_ren : Go.Shelf.Ren := ⟨fun | 189 => 71 | 125 => 98 | 257 => 97 | 128 => 145 | 129 => 146 | 294 => 136 | 295 => 137 | 296 => 138 | 297 => 139 | 298 => 140 | 299 => 141 | 216 => 142 | 300 => 143 | 301 => 144 | 328 => 187 | 329 => 188 | 330 => 189 | 331 => 190 | 332 => 191 | 215 => 192 | 343 => 241 | n => n, fun | 28 => 108 | 3 => 3 | 46 => 176 | 0 => 0 | 51 => 219 | 53 => 124 | 4 => 4 | 183 => 211 | 182 => 210 | 131 => 216 | 5 => 5 | 9 => 9 | 218 => 253 | 222 => 257 | 228 => 295 | 229 => 43 | n => n, fun | n => n⟩
theorem Tryz.lays189 : Go.Proofs.Lays.n189 Tryz.prog Tryz.lays189_ren := {
 mixed := by kernel_rfl
 f125 := Tryz.func98.trans (congrArg some (by kernel_rfl))
 f128 := Tryz.func145.trans (congrArg some (by kernel_rfl))
 f129 := Tryz.func146.trans (congrArg some (by kernel_rfl))
 f189 := Tryz.func71.trans (congrArg some (by kernel_rfl))
 f215 := Tryz.func192.trans (congrArg some (by kernel_rfl))
 f216 := Tryz.func142.trans (congrArg some (by kernel_rfl))
 f257 := Tryz.func97.trans (congrArg some (by kernel_rfl))
 f294 := Tryz.func136.trans (congrArg some (by kernel_rfl))
 f295 := Tryz.func137.trans (congrArg some (by kernel_rfl))
 f296 := Tryz.func138.trans (congrArg some (by kernel_rfl))
 f297 := Tryz.func139.trans (congrArg some (by kernel_rfl))
 f298 := Tryz.func140.trans (congrArg some (by kernel_rfl))
 f299 := Tryz.func141.trans (congrArg some (by kernel_rfl))
 f300 := Tryz.func143.trans (congrArg some (by kernel_rfl))
 f301 := Tryz.func144.trans (congrArg some (by kernel_rfl))
 f328 := Tryz.func187.trans (congrArg some (by kernel_rfl))
 f329 := Tryz.func188.trans (congrArg some (by kernel_rfl))
 f330 := Tryz.func189.trans (congrArg some (by kernel_rfl))
 f331 := Tryz.func190.trans (congrArg some (by kernel_rfl))
 f332 := Tryz.func191.trans (congrArg some (by kernel_rfl))
 f343 := Tryz.func241.trans (congrArg some (by kernel_rfl))
 t0 := Tryz.underlying0
 a0 := Tryz.isAgg0
 z0 := Tryz.sizeOf0
 v0 := Tryz.zeroValue0
 t3 := Tryz.underlying3
 a3 := Tryz.isAgg3
 z3 := Tryz.sizeOf3
 v3 := Tryz.zeroValue3
 t4 := Tryz.underlying4
 a4 := Tryz.isAgg4
 z4 := Tryz.sizeOf4
 v4 := Tryz.zeroValue4
 t5 := Tryz.underlying5
 a5 := Tryz.isAgg5
 z5 := Tryz.sizeOf5
 v5 := Tryz.zeroValue5
 t9 := Tryz.underlying9
 a9 := Tryz.isAgg9
 z9 := Tryz.sizeOf9
 v9 := Tryz.zeroValue9
 t28 := Tryz.underlying108
 a28 := Tryz.isAgg108
 z28 := Tryz.sizeOf108
 v28 := Tryz.zeroValue108
 t46 := Tryz.underlying176
 a46 := Tryz.isAgg176
 z46 := Tryz.sizeOf176
 v46 := Tryz.zeroValue176
 t51 := Tryz.underlying219
 a51 := Tryz.isAgg219
 z51 := Tryz.sizeOf219
 v51 := Tryz.zeroValue219
 t53 := Tryz.underlying124
 a53 := Tryz.isAgg124
 z53 := Tryz.sizeOf124
 v53 := Tryz.zeroValue124
 t131 := Tryz.underlying216
 a131 := Tryz.isAgg216
 z131 := Tryz.sizeOf216
 v131 := Tryz.zeroValue216
 t182 := Tryz.underlying210
 a182 := Tryz.isAgg210
 z182 := Tryz.sizeOf210
 v182 := Tryz.zeroValue210
 t183 := Tryz.underlying211
 a183 := Tryz.isAgg211
 z183 := Tryz.sizeOf211
 v183 := Tryz.zeroValue211
 t218 := Tryz.underlying253
 a218 := Tryz.isAgg253
 z218 := Tryz.sizeOf253
 v218 := Tryz.zeroValue253
 t222 := Tryz.underlying257
 a222 := Tryz.isAgg257
 z222 := Tryz.sizeOf257
 v222 := Tryz.zeroValue257
 t228 := Tryz.underlying295
 a228 := Tryz.isAgg295
 z228 := Tryz.sizeOf295
 v228 := Tryz.zeroValue295
 t229 := Tryz.underlying43
 a229 := Tryz.isAgg43
 z229 := Tryz.sizeOf43
 v229 := Tryz.zeroValue43 }
def Tryz.lays220_ren : Go.Shelf.Ren := ⟨fun | 20 => 72 | n => n, fun | 22 => 108 | 3 => 3 | 4 => 4 | 0 => 0 | n => n, fun | n => n⟩
theorem Tryz.lays220 : Go.Proofs.Lays2.n20 Tryz.prog Tryz.lays220_ren := {
 mixed := by kernel_rfl
 f20 := Tryz.func72.trans (congrArg some (by kernel_rfl))
 t0 := Tryz.underlying0
 a0 := Tryz.isAgg0
 z0 := Tryz.sizeOf0
 v0 := Tryz.zeroValue0
 t3 := Tryz.underlying3
 a3 := Tryz.isAgg3
 z3 := Tryz.sizeOf3
 v3 := Tryz.zeroValue3
 t4 := Tryz.underlying4
 a4 := Tryz.isAgg4
 z4 := Tryz.sizeOf4
 v4 := Tryz.zeroValue4
 t22 := Tryz.underlying108
 a22 := Tryz.isAgg108
 z22 := Tryz.sizeOf108
 v22 := Tryz.zeroValue108
 i3 := by kernel_rfl }
end Go.Proofs
