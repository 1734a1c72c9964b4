/-
  What the statement's proof leans on, several texts in one (packed by a program).
-/
import Derived.Test.YtpahnbgfmhcndaaGreatDoorBMT
import Derived.Shelf.Strings.SplitShaped
import Derived.Shelf.Strings.OnBuilder
import Derived.Shelf.Strconv.AtoiAll
import Derived.Shelf.Strconv.Itoa3
import Derived.Ground.NamesProg
import Derived.LaidLaws
import Derived.LaidSub
import Derived.MakeChecks
set_option linter.all false
set_option maxRecDepth 1000000
set_option maxHeartbeats 4000000
section
namespace Go.Proofs
open Go.Shelf Go.RowKit
def Tryz.laySplit_ren : Go.Shelf.Ren := ⟨fun | 147 => 66 | 221 => 83 | 268 => 103 | 138 => 104 | 143 => 105 | 195 => 139 | 197 => 140 | 218 => 141 | 219 => 142 | 260 => 174 | 217 => 175 | 225 => 176 | 224 => 177 | 267 => 178 | 266 => 194 | 314 => 195 | n => n, fun | 9 => 9 | 3 => 3 | 31 => 41 | 4 => 4 | 0 => 0 | 105 => 253 | 21 => 21 | 5 => 5 | 46 => 250 | 119 => 315 | 139 => 318 | 138 => 317 | 146 => 319 | 51 => 248 | n => n, fun | 1 => 3 | 3 => 6 | 4 => 7 | n => n⟩
theorem Tryz.laySplit : Go.Proofs.LaysM.n147 Tryz.prog Tryz.laySplit_ren := {
 mixed := by kernel_rfl
 f138 := Tryz.func104.trans (congrArg some (by kernel_rfl))
 f143 := Tryz.func105.trans (congrArg some (by kernel_rfl))
 f147 := Tryz.func66.trans (congrArg some (by kernel_rfl))
 f195 := Tryz.func139.trans (congrArg some (by kernel_rfl))
 f197 := Tryz.func140.trans (congrArg some (by kernel_rfl))
 f217 := Tryz.func175.trans (congrArg some (by kernel_rfl))
 f218 := Tryz.func141.trans (congrArg some (by kernel_rfl))
 f219 := Tryz.func142.trans (congrArg some (by kernel_rfl))
 f221 := Tryz.func83.trans (congrArg some (by kernel_rfl))
 f224 := Tryz.func177.trans (congrArg some (by kernel_rfl))
 f225 := Tryz.func176.trans (congrArg some (by kernel_rfl))
 f260 := Tryz.func174.trans (congrArg some (by kernel_rfl))
 f266 := Tryz.func194.trans (congrArg some (by kernel_rfl))
 f267 := Tryz.func178.trans (congrArg some (by kernel_rfl))
 f268 := Tryz.func103.trans (congrArg some (by kernel_rfl))
 f314 := Tryz.func195.trans (congrArg some (by kernel_rfl))
 t0 := Tryz.underlying0
 a0 := Tryz.isAgg0
 z0 := Tryz.sizeOf0
 v0 := Tryz.zeroValue0
 t3 := Tryz.underlying3
 a3 := Tryz.isAgg3
 z3 := Tryz.sizeOf3
 v3 := Tryz.zeroValue3
 t4 := Tryz.underlying4
 a4 := Tryz.isAgg4
 z4 := Tryz.sizeOf4
 v4 := Tryz.zeroValue4
 t5 := Tryz.underlying5
 a5 := Tryz.isAgg5
 z5 := Tryz.sizeOf5
 v5 := Tryz.zeroValue5
 t9 := Tryz.underlying9
 a9 := Tryz.isAgg9
 z9 := Tryz.sizeOf9
 v9 := Tryz.zeroValue9
 t21 := Tryz.underlying21
 a21 := Tryz.isAgg21
 z21 := Tryz.sizeOf21
 v21 := Tryz.zeroValue21
 t31 := Tryz.underlying41
 a31 := Tryz.isAgg41
 z31 := Tryz.sizeOf41
 v31 := Tryz.zeroValue41
 t46 := Tryz.underlying250
 a46 := Tryz.isAgg250
 z46 := Tryz.sizeOf250
 v46 := Tryz.zeroValue250
 t51 := Tryz.underlying248
 a51 := Tryz.isAgg248
 z51 := Tryz.sizeOf248
 v51 := Tryz.zeroValue248
 t105 := Tryz.underlying253
 a105 := Tryz.isAgg253
 z105 := Tryz.sizeOf253
 v105 := Tryz.zeroValue253
 t119 := Tryz.underlying315
 a119 := Tryz.isAgg315
 z119 := Tryz.sizeOf315
 t138 := Tryz.underlying317
 a138 := Tryz.isAgg317
 z138 := Tryz.sizeOf317
 v138 := Tryz.zeroValue317
 t139 := Tryz.underlying318
 a139 := Tryz.isAgg318
 z139 := Tryz.sizeOf318
 v139 := Tryz.zeroValue318
 t146 := Tryz.underlying319
 a146 := Tryz.isAgg319
 z146 := Tryz.sizeOf319
 v146 := Tryz.zeroValue319
 g1 := by kernel_rfl
 g3 := by kernel_rfl
 g4 := by kernel_rfl
 i0 := by kernel_rfl
 i3 := by kernel_rfl
 i4 := by kernel_rfl
 i5 := by kernel_rfl
 i9 := by kernel_rfl
 i21 := by kernel_rfl
 i31 := by kernel_rfl
 i46 := by kernel_rfl
 i51 := by kernel_rfl
 i105 := by kernel_rfl
 i138 := by kernel_rfl
 i139 := by kernel_rfl
 i146 := by kernel_rfl
 m1 := by kernel_rfl
 s1_3 := fun w h => Go.Proofs.cell_of_shapedOpen_int (zero := #[.int .i64 0]) (t := 3) h (of_decide_eq_true (by kernel_rfl)) (by kernel_rfl) rfl (by kernel_rfl) (by kernel_rfl) Tryz.underlying3
 m3 := by kernel_rfl
 m4 := by kernel_rfl }
def Tryz.layJoin_ren : Go.Shelf.Ren := ⟨fun | 156 => 86 | 165 => 111 | 166 => 112 | 169 => 113 | 240 => 146 | 241 => 147 | 276 => 181 | 277 => 182 | n => n, fun | 31 => 41 | 9 => 9 | 3 => 3 | 4 => 4 | 0 => 0 | 20 => 20 | 72 => 222 | 76 => 160 | 70 => 220 | 37 => 50 | 75 => 159 | 127 => 262 | 164 => 294 | 5 => 5 | 80 => 223 | n => n, fun | n => n⟩
theorem Tryz.layJoin : Go.Proofs.Lays.n156 Tryz.prog Tryz.layJoin_ren := {
 mixed := by kernel_rfl
 f156 := Tryz.func86.trans (congrArg some (by kernel_rfl))
 f165 := Tryz.func111.trans (congrArg some (by kernel_rfl))
 f166 := Tryz.func112.trans (congrArg some (by kernel_rfl))
 f169 := Tryz.func113.trans (congrArg some (by kernel_rfl))
 f240 := Tryz.func146.trans (congrArg some (by kernel_rfl))
 f241 := Tryz.func147.trans (congrArg some (by kernel_rfl))
 f276 := Tryz.func181.trans (congrArg some (by kernel_rfl))
 f277 := Tryz.func182.trans (congrArg some (by kernel_rfl))
 t0 := Tryz.underlying0
 a0 := Tryz.isAgg0
 z0 := Tryz.sizeOf0
 v0 := Tryz.zeroValue0
 t3 := Tryz.underlying3
 a3 := Tryz.isAgg3
 z3 := Tryz.sizeOf3
 v3 := Tryz.zeroValue3
 t4 := Tryz.underlying4
 a4 := Tryz.isAgg4
 z4 := Tryz.sizeOf4
 v4 := Tryz.zeroValue4
 t9 := Tryz.underlying9
 a9 := Tryz.isAgg9
 z9 := Tryz.sizeOf9
 v9 := Tryz.zeroValue9
 t20 := Tryz.underlying20
 a20 := Tryz.isAgg20
 z20 := Tryz.sizeOf20
 v20 := Tryz.zeroValue20
 t31 := Tryz.underlying41
 a31 := Tryz.isAgg41
 z31 := Tryz.sizeOf41
 v31 := Tryz.zeroValue41
 t37 := Tryz.underlying50
 a37 := Tryz.isAgg50
 z37 := Tryz.sizeOf50
 v37 := Tryz.zeroValue50
 t70 := Tryz.underlying220
 a70 := Tryz.isAgg220
 z70 := Tryz.sizeOf220
 v70 := Tryz.zeroValue220
 t72 := Tryz.underlying222
 a72 := Tryz.isAgg222
 z72 := Tryz.sizeOf222
 v72 := Tryz.zeroValue222
 t75 := Tryz.underlying159
 a75 := Tryz.isAgg159
 z75 := Tryz.sizeOf159
 v75 := Tryz.zeroValue159
 t76 := Tryz.underlying160
 a76 := Tryz.isAgg160
 z76 := Tryz.sizeOf160
 v76 := Tryz.zeroValue160
 t127 := Tryz.underlying262
 a127 := Tryz.isAgg262
 z127 := Tryz.sizeOf262
 v127 := Tryz.zeroValue262
 t164 := Tryz.underlying294
 a164 := Tryz.isAgg294
 z164 := Tryz.sizeOf294
 v164 := Tryz.zeroValue294 }
def Tryz.layItoa_ren : Go.Shelf.Ren := ⟨fun | 171 => 41 | 243 => 65 | 246 => 82 | 283 => 99 | 284 => 100 | 285 => 101 | 286 => 102 | 129 => 135 | 317 => 134 | 318 => 136 | 319 => 137 | 320 => 138 | 337 => 172 | 338 => 173 | n => n, fun | 3 => 3 | 9 => 9 | 2 => 2 | 4 => 4 | 171 => 207 | 0 => 0 | 53 => 48 | 37 => 50 | 5 => 5 | 173 => 210 | 212 => 247 | 51 => 248 | 20 => 20 | 213 => 249 | 46 => 250 | 232 => 313 | 233 => 314 | n => n, fun | 17 => 0 | 18 => 4 | 19 => 5 | n => n⟩
theorem Tryz.layItoa : Go.Proofs.LaysM.n171 Tryz.prog Tryz.layItoa_ren := {
 mixed := by kernel_rfl
 f129 := Tryz.func135.trans (congrArg some (by kernel_rfl))
 f171 := Tryz.func41.trans (congrArg some (by kernel_rfl))
 f243 := Tryz.func65.trans (congrArg some (by kernel_rfl))
 f246 := Tryz.func82.trans (congrArg some (by kernel_rfl))
 f283 := Tryz.func99.trans (congrArg some (by kernel_rfl))
 f284 := Tryz.func100.trans (congrArg some (by kernel_rfl))
 f285 := Tryz.func101.trans (congrArg some (by kernel_rfl))
 f286 := Tryz.func102.trans (congrArg some (by kernel_rfl))
 f317 := Tryz.func134.trans (congrArg some (by kernel_rfl))
 f318 := Tryz.func136.trans (congrArg some (by kernel_rfl))
 f319 := Tryz.func137.trans (congrArg some (by kernel_rfl))
 f320 := Tryz.func138.trans (congrArg some (by kernel_rfl))
 f337 := Tryz.func172.trans (congrArg some (by kernel_rfl))
 f338 := Tryz.func173.trans (congrArg some (by kernel_rfl))
 t0 := Tryz.underlying0
 a0 := Tryz.isAgg0
 z0 := Tryz.sizeOf0
 v0 := Tryz.zeroValue0
 t2 := Tryz.underlying2
 a2 := Tryz.isAgg2
 z2 := Tryz.sizeOf2
 v2 := Tryz.zeroValue2
 t3 := Tryz.underlying3
 a3 := Tryz.isAgg3
 z3 := Tryz.sizeOf3
 v3 := Tryz.zeroValue3
 t4 := Tryz.underlying4
 a4 := Tryz.isAgg4
 z4 := Tryz.sizeOf4
 v4 := Tryz.zeroValue4
 t5 := Tryz.underlying5
 a5 := Tryz.isAgg5
 z5 := Tryz.sizeOf5
 v5 := Tryz.zeroValue5
 t9 := Tryz.underlying9
 a9 := Tryz.isAgg9
 z9 := Tryz.sizeOf9
 v9 := Tryz.zeroValue9
 t20 := Tryz.underlying20
 a20 := Tryz.isAgg20
 z20 := Tryz.sizeOf20
 v20 := Tryz.zeroValue20
 t37 := Tryz.underlying50
 a37 := Tryz.isAgg50
 z37 := Tryz.sizeOf50
 v37 := Tryz.zeroValue50
 t46 := Tryz.underlying250
 a46 := Tryz.isAgg250
 z46 := Tryz.sizeOf250
 v46 := Tryz.zeroValue250
 t51 := Tryz.underlying248
 a51 := Tryz.isAgg248
 z51 := Tryz.sizeOf248
 v51 := Tryz.zeroValue248
 t53 := Tryz.underlying48
 a53 := Tryz.isAgg48
 z53 := Tryz.sizeOf48
 v53 := Tryz.zeroValue48
 t171 := Tryz.underlying207
 a171 := Tryz.isAgg207
 z171 := Tryz.sizeOf207
 v171 := Tryz.zeroValue207
 t173 := Tryz.underlying210
 a173 := Tryz.isAgg210
 z173 := Tryz.sizeOf210
 v173 := Tryz.zeroValue210
 t212 := Tryz.underlying247
 a212 := Tryz.isAgg247
 z212 := Tryz.sizeOf247
 v212 := Tryz.zeroValue247
 t213 := Tryz.underlying249
 a213 := Tryz.isAgg249
 z213 := Tryz.sizeOf249
 t232 := Tryz.underlying313
 a232 := Tryz.isAgg313
 z232 := Tryz.sizeOf313
 v232 := Tryz.zeroValue313
 t233 := Tryz.underlying314
 a233 := Tryz.isAgg314
 z233 := Tryz.sizeOf314
 v233 := Tryz.zeroValue314
 g17 := by kernel_rfl
 g18 := by kernel_rfl
 g19 := by kernel_rfl
 i0 := by kernel_rfl
 i2 := by kernel_rfl
 i3 := by kernel_rfl
 i4 := by kernel_rfl
 i5 := by kernel_rfl
 i9 := by kernel_rfl
 i20 := by kernel_rfl
 i37 := by kernel_rfl
 i46 := by kernel_rfl
 i51 := by kernel_rfl
 i53 := by kernel_rfl
 i171 := by kernel_rfl
 i173 := by kernel_rfl
 i212 := by kernel_rfl
 i232 := by kernel_rfl
 i233 := by kernel_rfl
 m17 := by kernel_rfl
 m18 := by kernel_rfl
 m19 := by kernel_rfl }
def Tryz.layAtoi_ren : Go.Shelf.Ren := ⟨fun | 172 => 67 | 244 => 84 | 245 => 85 | 247 => 106 | 279 => 107 | 280 => 108 | 281 => 109 | 282 => 110 | 287 => 143 | 316 => 144 | 171 => 41 | 205 => 145 | 321 => 179 | 322 => 180 | 243 => 65 | 246 => 82 | 283 => 99 | 284 => 100 | 285 => 101 | 286 => 102 | 129 => 135 | 317 => 134 | 318 => 136 | 319 => 137 | 320 => 138 | 337 => 172 | 338 => 173 | n => n, fun | 9 => 9 | 3 => 3 | 75 => 159 | 76 => 160 | 4 => 4 | 5 => 5 | 167 => 214 | 37 => 50 | 0 => 0 | 85 => 215 | 2 => 2 | 168 => 217 | 53 => 48 | 175 => 256 | 46 => 250 | 210 => 260 | 127 => 262 | 145 => 293 | 143 => 291 | 21 => 21 | 171 => 207 | 173 => 210 | 212 => 247 | 51 => 248 | 20 => 20 | 213 => 249 | 232 => 313 | 233 => 314 | 80 => 223 | n => n, fun | 15 => 1 | 16 => 2 | 17 => 0 | 18 => 4 | 19 => 5 | n => n⟩
theorem Tryz.layAtoi : Go.Proofs.LaysC.n172 Tryz.prog Tryz.layAtoi_ren := {
 mixed := by kernel_rfl
 f129 := Tryz.func135.trans (congrArg some (by kernel_rfl))
 f171 := Tryz.func41.trans (congrArg some (by kernel_rfl))
 f172 := Tryz.func67.trans (congrArg some (by kernel_rfl))
 f205 := Tryz.func145.trans (congrArg some (by kernel_rfl))
 f243 := Tryz.func65.trans (congrArg some (by kernel_rfl))
 f244 := Tryz.func84.trans (congrArg some (by kernel_rfl))
 f245 := Tryz.func85.trans (congrArg some (by kernel_rfl))
 f246 := Tryz.func82.trans (congrArg some (by kernel_rfl))
 f247 := Tryz.func106.trans (congrArg some (by kernel_rfl))
 f279 := Tryz.func107.trans (congrArg some (by kernel_rfl))
 f280 := Tryz.func108.trans (congrArg some (by kernel_rfl))
 f281 := Tryz.func109.trans (congrArg some (by kernel_rfl))
 f282 := Tryz.func110.trans (congrArg some (by kernel_rfl))
 f283 := Tryz.func99.trans (congrArg some (by kernel_rfl))
 f284 := Tryz.func100.trans (congrArg some (by kernel_rfl))
 f285 := Tryz.func101.trans (congrArg some (by kernel_rfl))
 f286 := Tryz.func102.trans (congrArg some (by kernel_rfl))
 f287 := Tryz.func143.trans (congrArg some (by kernel_rfl))
 f316 := Tryz.func144.trans (congrArg some (by kernel_rfl))
 f317 := Tryz.func134.trans (congrArg some (by kernel_rfl))
 f318 := Tryz.func136.trans (congrArg some (by kernel_rfl))
 f319 := Tryz.func137.trans (congrArg some (by kernel_rfl))
 f320 := Tryz.func138.trans (congrArg some (by kernel_rfl))
 f321 := Tryz.func179.trans (congrArg some (by kernel_rfl))
 f322 := Tryz.func180.trans (congrArg some (by kernel_rfl))
 f337 := Tryz.func172.trans (congrArg some (by kernel_rfl))
 f338 := Tryz.func173.trans (congrArg some (by kernel_rfl))
 t0 := Tryz.underlying0
 a0 := Tryz.isAgg0
 z0 := Tryz.sizeOf0
 v0 := Tryz.zeroValue0
 t2 := Tryz.underlying2
 a2 := Tryz.isAgg2
 z2 := Tryz.sizeOf2
 v2 := Tryz.zeroValue2
 t3 := Tryz.underlying3
 a3 := Tryz.isAgg3
 z3 := Tryz.sizeOf3
 v3 := Tryz.zeroValue3
 t4 := Tryz.underlying4
 a4 := Tryz.isAgg4
 z4 := Tryz.sizeOf4
 v4 := Tryz.zeroValue4
 t5 := Tryz.underlying5
 a5 := Tryz.isAgg5
 z5 := Tryz.sizeOf5
 v5 := Tryz.zeroValue5
 t9 := Tryz.underlying9
 a9 := Tryz.isAgg9
 z9 := Tryz.sizeOf9
 v9 := Tryz.zeroValue9
 t20 := Tryz.underlying20
 a20 := Tryz.isAgg20
 z20 := Tryz.sizeOf20
 v20 := Tryz.zeroValue20
 t21 := Tryz.underlying21
 a21 := Tryz.isAgg21
 z21 := Tryz.sizeOf21
 v21 := Tryz.zeroValue21
 t37 := Tryz.underlying50
 a37 := Tryz.isAgg50
 z37 := Tryz.sizeOf50
 v37 := Tryz.zeroValue50
 t46 := Tryz.underlying250
 a46 := Tryz.isAgg250
 z46 := Tryz.sizeOf250
 v46 := Tryz.zeroValue250
 t51 := Tryz.underlying248
 a51 := Tryz.isAgg248
 z51 := Tryz.sizeOf248
 v51 := Tryz.zeroValue248
 t53 := Tryz.underlying48
 a53 := Tryz.isAgg48
 z53 := Tryz.sizeOf48
 v53 := Tryz.zeroValue48
 t75 := Tryz.underlying159
 a75 := Tryz.isAgg159
 z75 := Tryz.sizeOf159
 v75 := Tryz.zeroValue159
 t76 := Tryz.underlying160
 a76 := Tryz.isAgg160
 z76 := Tryz.sizeOf160
 v76 := Tryz.zeroValue160
 t85 := Tryz.underlying215
 a85 := Tryz.isAgg215
 z85 := Tryz.sizeOf215
 v85 := Tryz.zeroValue215
 t127 := Tryz.underlying262
 a127 := Tryz.isAgg262
 z127 := Tryz.sizeOf262
 v127 := Tryz.zeroValue262
 t143 := Tryz.underlying291
 a143 := Tryz.isAgg291
 z143 := Tryz.sizeOf291
 v143 := Tryz.zeroValue291
 t145 := Tryz.underlying293
 a145 := Tryz.isAgg293
 z145 := Tryz.sizeOf293
 v145 := Tryz.zeroValue293
 t167 := Tryz.underlying214
 a167 := Tryz.isAgg214
 z167 := Tryz.sizeOf214
 v167 := Tryz.zeroValue214
 t168 := Tryz.underlying217
 a168 := Tryz.isAgg217
 z168 := Tryz.sizeOf217
 v168 := Tryz.zeroValue217
 t171 := Tryz.underlying207
 a171 := Tryz.isAgg207
 z171 := Tryz.sizeOf207
 v171 := Tryz.zeroValue207
 t173 := Tryz.underlying210
 a173 := Tryz.isAgg210
 z173 := Tryz.sizeOf210
 v173 := Tryz.zeroValue210
 t175 := Tryz.underlying256
 a175 := Tryz.isAgg256
 z175 := Tryz.sizeOf256
 v175 := Tryz.zeroValue256
 t210 := Tryz.underlying260
 a210 := Tryz.isAgg260
 z210 := Tryz.sizeOf260
 v210 := Tryz.zeroValue260
 t212 := Tryz.underlying247
 a212 := Tryz.isAgg247
 z212 := Tryz.sizeOf247
 v212 := Tryz.zeroValue247
 t213 := Tryz.underlying249
 a213 := Tryz.isAgg249
 z213 := Tryz.sizeOf249
 t232 := Tryz.underlying313
 a232 := Tryz.isAgg313
 z232 := Tryz.sizeOf313
 v232 := Tryz.zeroValue313
 t233 := Tryz.underlying314
 a233 := Tryz.isAgg314
 z233 := Tryz.sizeOf314
 v233 := Tryz.zeroValue314
 g15 := by kernel_rfl
 g16 := by kernel_rfl
 g17 := by kernel_rfl
 g18 := by kernel_rfl
 g19 := by kernel_rfl
 t80 := Tryz.underlying223
 a80 := Tryz.isAgg223
 z80 := Tryz.sizeOf223
 v80 := Tryz.zeroValue223
 i0 := by kernel_rfl
 i2 := by kernel_rfl
 i3 := by kernel_rfl
 i4 := by kernel_rfl
 i5 := by kernel_rfl
 i9 := by kernel_rfl
 i20 := by kernel_rfl
 i21 := by kernel_rfl
 i37 := by kernel_rfl
 i46 := by kernel_rfl
 i51 := by kernel_rfl
 i53 := by kernel_rfl
 i75 := by kernel_rfl
 i76 := by kernel_rfl
 i80 := by kernel_rfl
 i85 := by kernel_rfl
 i127 := by kernel_rfl
 i143 := by kernel_rfl
 i145 := by kernel_rfl
 i167 := by kernel_rfl
 i168 := by kernel_rfl
 i171 := by kernel_rfl
 i173 := by kernel_rfl
 i175 := by kernel_rfl
 i210 := by kernel_rfl
 i212 := by kernel_rfl
 i232 := by kernel_rfl
 i233 := by kernel_rfl
 m15 := by kernel_rfl
 m16 := by kernel_rfl
 m17 := by kernel_rfl
 m18 := by kernel_rfl
 m19 := by kernel_rfl
 c0 := by kernel_rfl
 c2 := by kernel_rfl
 c3 := by kernel_rfl
 c4 := by kernel_rfl
 c5 := by kernel_rfl
 c9 := by kernel_rfl
 c20 := by kernel_rfl
 c21 := by kernel_rfl
 c37 := by kernel_rfl
 c46 := by kernel_rfl
 c51 := by kernel_rfl
 c53 := by kernel_rfl
 c75 := by kernel_rfl
 c76 := by kernel_rfl
 c80 := by kernel_rfl
 c85 := by kernel_rfl
 c127 := by kernel_rfl
 c143 := by kernel_rfl
 c145 := by kernel_rfl
 c167 := by kernel_rfl
 c168 := by kernel_rfl
 c171 := by kernel_rfl
 c173 := by kernel_rfl
 c175 := by kernel_rfl
 c210 := by kernel_rfl
 c212 := by kernel_rfl
 c213 := by kernel_rfl
 c232 := by kernel_rfl
 c233 := by kernel_rfl }
theorem Tryz.layExtra : Builder.Extra Tryz.prog Tryz.layJoin_ren where
 sizeBuilder := by kernel_rfl
 liesBuilder := by kernel_rfl
 t5 := (show Tryz.prog.underlying 5 = some _ from Go.Hl.FU.out)
 a5 := Tryz.isAgg5
 z5 := Tryz.sizeOf5
 v5 := Tryz.zeroValue5
 infoByte := by kernel_rfl
 cellsByte := by kernel_rfl
 sizeByte := by kernel_rfl
 neB5 := by decide
end Go.Proofs
namespace Go.Hl
open Go.RowKit Go.Lib
def IfaceAt (w : World) (g : Nat) : Prop := ∃ ev, w.cell? ⟨g, 0, none⟩ = some ev ∧ (ev = .nilIface ∨ ∃ te pe, ev = .iface te pe)
def VarsP (P : Program) (gt gs gr : Nat) (S : BS) (w : World) : Prop :=
 S gt ∧ S gs ∧ S gr ∧ P.globalNamed "internal/strconv.uint64pow10" = some gt ∧ Lib.TabIs P w "internal/strconv.uint64pow10" .u64 Lib.pow10Tab ∧ IfaceAt w gs ∧ IfaceAt w gr
theorem VarsP.mono {P : Program} {gt gs gr : Nat} {S S' : BS} {w w' : World} (h1 : ∀ k, S k → S' k) (h2 : ∀ k, S k → w'.heap[k]? = w.heap[k]?) (h : VarsP P gt gs gr S w) : VarsP P gt gs gr S' w' := by
 obtain ⟨a, b, c, d, e, f, g⟩ := h
 refine ⟨h1 _ a, h1 _ b, h1 _ c, d, ?_, ?_, ?_⟩
 · unfold Lib.TabIs World.var? at *
   simp only [d, Option.bind_some] at e ⊢
   rw [h2 _ a]; exact e
 · obtain ⟨ev, h3, h4⟩ := f
   exact ⟨ev, by rw [cell_same (h2 _ b)]; exact h3, h4⟩
 · obtain ⟨ev, h3, h4⟩ := g
   exact ⟨ev, by rw [cell_same (h2 _ c)]; exact h3, h4⟩
def varsH (P : Program) (gt gs gr : Nat) : HP := ⟨fun F S w => VarsP P gt gs gr S w, fun h1 h2 h3 h4 h => h.mono h2 h4⟩
theorem Own.vars {P : Program} {gt gs gr : Nat} : ∀ {hs : List HP} {i : Nat} {F S : BS} {w : World}, Own hs F S w → hs[i]? = some (varsH P gt gs gr) → VarsP P gt gs gr S w
 | [], i, F, S, w, _, h => by simp at h
 | h0 :: hs, 0, F, S, w, ho, h => by
  obtain ⟨F1, F2, _, _, hp, _⟩ := ho
  simp only [List.getElem?_cons_zero, Option.some.injEq] at h
  subst h; exact hp
 | h0 :: hs, i + 1, F, S, w, ho, h => by
  obtain ⟨F1, F2, _, _, _, hr⟩ := ho
  exact Own.vars hr (by simpa using h)
section
variable {P : Program} {hs : List HP} {env : Env} {q : VP} {dst : Option Tmp} {ty : TypeId} {pos : String} {after : Array Edge} {g : Option (Nat × Bool)}
theorem opCallVars {i gt gs gr : Nat} {f : FuncId} {xs : List Operand} {ats : Array TypeId} {ps : List VP} (hf : FnE P f ps [varsH P gt gs gr] (γ := Unit) (fun _ => True) (fun _ => []) (fun _ => q)) (hb : callB P f = true) (hx : Opds env xs ps) (hi : hs[i]? = some (varsH P gt gs gr)) :
    OpP P hs env ⟨dst, .call ⟨.value (.func f), xs.toArray, ats⟩, ty, pos, after, g⟩ q := by
  intro a w S F h1 h2 h3 h4 h5 K Q hk
  unfold Oper.wp
  rw [run_call hb]
  refine (hf w S (fun _ => False) _ h1 (fun _ h => h.elim) (fun _ _ h => h) ⟨fun _ => False, fun _ => False, fun _ h => h.elim, fun _ h => h.elim, h4.vars hi, trivial⟩ (by simpa using hx S w a h5)).mono ?_
  rintro e w' ⟨v, S', F', _, rfl, hsit, _, _, hq⟩
  refine hk v w' S' ⟨hsit.os, hsit.tape, hsit.output, hsit.size, fun k hk => hsit.kept k hk (fun h => h), hsit.base, fun k hk => ?_⟩ hq
  rcases hsit.shr k hk with h | h | h
  · exact .inl h
  · exact h.elim
  · exact .inr ⟨h, hsit.domS k hk⟩
end
theorem below_grow' (w : World) (k : Nat) (os : Array Obj) : Below w.heap.size w (Go.Sort.grow (w.drewN k) os) :=
 ⟨rfl, rfl, rfl, by show w.heap.size ≤ (w.heap ++ os).size; rw [Array.size_append]; omega, fun j hj => by
  show (w.heap ++ os)[j]? = w.heap[j]?
  exact Array.getElem?_append_left hj⟩
theorem count_byte1 (s : ByteArray) (c : UInt8) : (countByte s.data.toList c : Int) = (countB s ⟨#[c]⟩ : Int) := by
 show _ = ((Lib.count s.data.toList [c] : Nat) : Int)
 rw [Lib.count_one]; rfl
theorem law_callsV {P : Program} {f : FuncId} {ps : List VP} {gt gs gr : Nat} (h : FnE P f ps [varsH P gt gs gr] (γ := Unit) (fun _ => True) (fun _ => []) (fun _ => propV True)) {W : World} {vs : Array Value}
    (hv : VarsP P gt gs gr (fun k => k < W.heap.size) W) (ha : All2 ps (fun k => k < W.heap.size) W vs.toList) : Calls P f vs W fun e W' => e = .returned (.bool true) ∧ Below W.heap.size W W' := by
  refine (h W (fun k => k < W.heap.size) (fun _ => False) vs (fun _ h => h) (fun _ h => h.elim) (fun _ _ h => h.elim) ⟨fun _ => False, fun _ => False, fun _ h => h.elim, fun _ h => h.elim, hv, trivial⟩ ha).mono fun e W' ⟨v, S', F', g, he, hsit, _, _, hq⟩ => ?_
  obtain ⟨b, rfl, hb⟩ := hq
  have : b = true := hb.2 trivial
  subst this
  exact ⟨he, hsit.os, hsit.tape, hsit.output, hsit.size, fun k hk => hsit.kept k hk (fun h => h.elim)⟩
theorem iface_laid {P : Program} {W : World} {name nm : String} {d : DataW Unit} {g : Nat} {t : TypeId} {ms : Array (String × TypeId)} (hg : P.globalNamed name = some g) (hty : (P.globals[g]?).map (·.type) = some t) (ht : P.underlying t = some (.interface ms))
    (h : laidMet P [(name, .iface nm d)] W) : IfaceAt W g := by
  obtain ⟨ps, ⟨g', t', cs, fuel, p, q, hg', ht', hvar, hd, _, _⟩, _⟩ := h
  obtain rfl := Option.some.inj (hg.symm.trans hg')
  obtain rfl := Option.some.inj (hty.symm.trans ht')
  obtain ⟨f1, u, v, hcs, _, _⟩ := iface_of_trod ht hd
  refine ⟨.iface u v, ?_, .inr ⟨u, v, rfl⟩⟩
  rw [World.var?_cell hg hvar 0]
  have : cs[0]? = cs.toList[0]? := by simp
  rw [this, hcs]; rfl
theorem lt_of_cell' {W : World} {g i : Nat} {v : Value} (h : W.cell? ⟨g, i, none⟩ = some v) : g < W.heap.size := World.block_lt_of_cell? _ _ h
theorem vars_laid {P : Program} {W : World} {gt gs gr : Nat} (hg : P.globalNamed "internal/strconv.uint64pow10" = some gt) (h1 : Lib.TabIs P W "internal/strconv.uint64pow10" .u64 Lib.pow10Tab) (h2 : IfaceAt W gs) (h3 : IfaceAt W gr) :
    VarsP P gt gs gr (fun k => k < W.heap.size) W := by
  refine ⟨lt_of_cell' (h1.cell hg 0 (by decide)), ?_, ?_, hg, h1, h2, h3⟩
  · obtain ⟨ev, h, _⟩ := h2; exact lt_of_cell' h
  · obtain ⟨ev, h, _⟩ := h3; exact lt_of_cell' h
theorem splitK_len (sep : List UInt8) : ∀ (k : Nat) (s : List UInt8), ∀ x ∈ splitK sep 0 k s, x.length ≤ s.length
 | 0, s, x, hx => by simp [splitK] at hx; subst hx; exact Nat.le_refl _
 | k + 1, s, x, hx => by
  unfold splitK at hx
  split at hx
  · simp at hx; subst hx; exact Nat.le_refl _
  · rcases List.mem_cons.1 hx with rfl | hx
    · simp; omega
    · have := splitK_len sep k _ x hx
      rw [List.length_drop] at this; omega
end Go.Hl
namespace Go.Proofs.YtpahnbgfmhcndaaGreatDoor
open Go.Hl Go.RowKit Go.Lib Go.Shelf
theorem gensplit_spec {s : List UInt8} (hl : s.length < 4294967281) : FnP Tryz.prog 83 [strV s, strV [32], iV 0, iV 5] (sliceV 1 encSt (partsL s)) := by
 refine FnE.ofBelow fun w S F vs hS _ hall => ?_
 obtain ⟨h1, h2⟩ := hall
 match vs, h1, h2 with
 | [u0, u1, u2, u3], _, h2 =>
  have e0 := (h2 0 _ u0 rfl rfl).1
  have e1 := (h2 1 _ u1 rfl rfl).1
  have e2 := h2 2 _ u2 rfl rfl; simp only [exactV] at e2
  have e3 := h2 3 _ u3 rfl rfl; simp only [exactV] at e3
  subst e0; subst e1; subst e2; subst e3
  have hsz : (⟨s.toArray⟩ : ByteArray).size = s.length := by simp [ByteArray.size]
  have hc := Any.strings_genSplit_core (P := Tryz.prog) (ρ := Tryz.laySplit_ren) { Tryz.laySplit with } Tryz.laySplit.i9 ⟨s.toArray⟩ ⟨#[32]⟩ 0 5 (min 5 (s.length + 1)) w (by rw [hsz]; exact hl) (by decide) (Nat.zero_le _)
   (fun x c hx => (Any.strings_Index_one { Tryz.laySplit with } x 32 _).mono fun e w' ⟨he, hw⟩ => ⟨by rw [he, indexB, index_one], hw⟩) ((Any.strings_Count_one { Tryz.laySplit with } ⟨s.toArray⟩ 32 w).mono fun e w' ⟨he, hw⟩ => ⟨by rw [he, count_byte1], hw⟩) (by decide) (by decide) (by rw [if_neg (by decide), hsz]; omega)
  change Calls Tryz.prog 83 _ _ _ at hc
  refine hc.mono ?_
  rintro e w' ⟨rfl, rfl⟩
  have hd : (splitB ⟨#[32]⟩ 0 (min 5 (s.length + 1) - 1) ⟨s.toArray⟩).map (·.data.toList) = partsL s := by rw [splitB_data]; rfl
  have hlen : (splitB ⟨#[32]⟩ 0 (min 5 (s.length + 1) - 1) ⟨s.toArray⟩).length = (partsL s).length := by rw [← hd, List.length_map]
  have hle := splitB_length_le ⟨#[32]⟩ 0 (min 5 (s.length + 1) - 1) ⟨s.toArray⟩
  refine ⟨_, fun k => S k ∨ k = w.heap.size, rfl, (Below.refl _ _).alloc (Nat.le_refl _) _, fun k h => .inl h, fun k h => ?_, ?_⟩
  · rcases h with h | h
    · exact .inl h
    · subst h; exact .inr ⟨Nat.le_refl _, by simp⟩
  · refine ⟨some ⟨w.heap.size, 0, none⟩, min 5 (s.length + 1), by rw [hlen], by omega, by have := nparts_len s; omega, fun _ => ⟨rfl, .inr rfl, fun i x hx => ?_⟩⟩
    have hx' : (splitB ⟨#[32]⟩ 0 (min 5 (s.length + 1) - 1) ⟨s.toArray⟩)[i]?.map (·.data.toList) = some x := by rw [← List.getElem?_map, hd]; exact hx
    obtain ⟨y, hy, rfl⟩ := Option.map_eq_some_iff.1 hx'
    intro j q hj
    simp only [encSt] at hj
    match j, hj with
    | 0, hj =>
     simp only [List.getElem?_cons_zero, Option.some.injEq] at hj
     subst hj
     refine ⟨.string y, ?_, by simp, ?_⟩
     · show (w.alloc _).cell? ⟨w.heap.size, 0 + i * 1 + 0, none⟩ = _
       rw [World.cell?_alloc_new]
       have hi := (List.getElem?_eq_some_iff.1 hy).1
       simp only [cellsOf, List.getElem?_toArray]
       rw [List.getElem?_append_left (by simp; omega), List.getElem?_map]
       simp [hy]
     · have := splitK_len [32] _ s _ (List.mem_of_getElem? hx)
       omega
    | j + 1, hj => simp at hj
theorem itoa_spec {v : Int} (h0 : -9223372036854775808 ≤ v) (h1 : v ≤ 9223372036854775807) : FnE Tryz.prog 41 [iV v] [varsH Tryz.prog 0 1 2] (γ := Unit) (fun _ => True) (fun _ => []) (fun _ => strV (itoa v)) := by
 refine FnE.ofBelow fun w S F vs hS hown hall => ?_
 have hv := hown.vars (i := 0) rfl
 obtain ⟨h1', h2⟩ := hall
 match vs, h1', h2 with
 | [u0], _, h2 =>
  have e0 := h2 0 _ u0 rfl rfl; simp only [exactV] at e0
  subst e0
  have hc := Any.strconv_Itoa Tryz.layItoa v h0 h1 w hv.2.2.2.2.1
  change Calls Tryz.prog 41 _ _ _ at hc
  refine hc.mono ?_
  rintro e w' ⟨rfl, k, os, rfl⟩
  refine ⟨_, S, rfl, below_grow' w k os, fun _ h => h, fun _ h => .inl h, rfl, ?_⟩
  have := itoa_len h0 h1; omega
theorem atoi_spec {l : List UInt8} : FnE Tryz.prog 67 [strV l] [varsH Tryz.prog 0 1 2] (γ := Unit) (fun _ => True) (fun _ => []) (fun _ => tupV [iV (atoiV l), anyV]) := by
 refine FnE.ofBelow fun w S F vs hS hown hall => ?_
 have hv := hown.vars (i := 0) rfl
 obtain ⟨evs, hs1, hs2⟩ := hv.2.2.2.2.2.1
 obtain ⟨evr, hr1, hr2⟩ := hv.2.2.2.2.2.2
 obtain ⟨h1', h2⟩ := hall
 match vs, h1', h2 with
 | [u0], _, h2 =>
  obtain ⟨e0, hm⟩ := h2 0 _ u0 rfl rfl
  subst e0
  have hsz : (⟨l.toArray⟩ : ByteArray).size = l.length := by simp [ByteArray.size]
  have htup : ∀ (S : BS) (w : World) (a b : Value), (iV (atoiV l)).p S w a → (tupV [iV (atoiV l), anyV]).p S w (.tuple #[a, b]) := fun S w a b h => ⟨#[a, b], rfl, rfl, fun j p v hj hv => by
   match j, hj, hv with
   | 0, hj, hv => simp at hj hv; subst hj; subst hv; exact h
   | 1, hj, hv => simp at hj; subst hj; trivial⟩
  cases h : atoiAll l with
  | ok v =>
   have hc := Any.strconv_Atoi_ok Tryz.layAtoi ⟨l.toArray⟩ (by rw [hsz]; omega) v (by simpa using h) w
   change Calls Tryz.prog 67 _ _ _ at hc
   refine hc.mono ?_
   rintro e w' ⟨rfl, hw⟩
   refine ⟨_, S, rfl, ?_, fun _ h => h, fun _ h => .inl h, htup _ _ _ _ (by unfold atoiV; rw [h]; rfl)⟩
   rcases hw with rfl | ⟨t, rfl⟩
   · exact Below.refl _ _
   · exact Lib.bytesWorld_below _ _ _
  | range =>
   have hc := Any.strconv_Atoi_range Tryz.layAtoi ⟨l.toArray⟩ (by rw [hsz]; exact hm) (by simpa using h) evr w hr1 hr2
   change Calls Tryz.prog 67 _ _ _ at hc
   refine hc.mono ?_
   rintro e w' ⟨N, rfl, -, -, hb⟩
   exact ⟨_, S, rfl, hb, fun _ h => h, fun _ h => .inl h, htup _ _ _ _ (by unfold atoiV; rw [h]; rfl)⟩
  | _ =>
   have hc := Any.strconv_Atoi_syntax Tryz.layAtoi ⟨l.toArray⟩ (by rw [hsz]; exact hm) (by simpa using h) evs w hs1 hs2
   change Calls Tryz.prog 67 _ _ _ at hc
   refine hc.mono ?_
   rintro e w' ⟨N, rfl, -, -, hb⟩
   exact ⟨_, S, rfl, hb, fun _ h => h, fun _ h => .inl h, htup _ _ _ _ (by unfold atoiV; rw [h]; rfl)⟩
theorem join_spec {xs : List (List UInt8)} (h0 : xs ≠ []) (hn : xs.length ≤ 1000) (hl : (Lib.join xs [32]).length ≤ 100000) : FnP Tryz.prog 86 [sliceV 1 encSt xs, strV [32]] (strV (Lib.join xs [32])) := by
 refine FnE.ofBelow fun w S F vs hS hown hall => ?_
 obtain ⟨h1', h2⟩ := hall
 match vs, h1', h2 with
 | [u0, u1], _, h2 =>
  obtain ⟨a, cap, e0, hcap, _, hel⟩ := h2 0 _ u0 rfl rfl
  have e1 := (h2 1 _ u1 rfl rfl).1
  subst e0; subst e1
  have hpos : 0 < xs.length := List.length_pos_iff.2 h0
  match a, hel with
  | none, hel => have : cap = 0 := hel; omega
  | some ⟨bk, o, sp⟩, hel =>
   obtain ⟨hsp, hSb, hcells⟩ := hel (by omega)
   simp only at hsp hSb hcells; subst hsp
   have hx : ∀ (j : Nat) x, (xs.map fun l => (⟨l.toArray⟩ : ByteArray))[j]? = some x → w.cell? ⟨bk, o + j, none⟩ = some (.string x) := fun j x hj => by
    rw [List.getElem?_map] at hj
    obtain ⟨l, hl, rfl⟩ := Option.map_eq_some_iff.1 hj
    obtain ⟨v, hv, hq⟩ := hcells j l hl 0 _ rfl
    have hq := hq.1
    subst hq
    simpa using hv
   have hmap : (xs.map fun l => (⟨l.toArray⟩ : ByteArray)).map (·.data.toList) = xs := by simp [Function.comp_def]
   have hc := Any.strings_Join Tryz.layJoin Tryz.layExtra bk o cap (xs.map fun l => (⟨l.toArray⟩ : ByteArray)) ⟨#[32]⟩ w hx (hS _ hSb) (by simp; omega) (by simpa using hcap) (by rw [hmap]; exact Nat.le_trans hl (by decide))
   rw [hmap, List.length_map] at hc
   change Calls Tryz.prog 86 _ _ _ at hc
   refine hc.mono ?_
   rintro e w' ⟨rfl, hb⟩
   exact ⟨_, S, rfl, hb, fun _ h => h, fun _ h => .inl h, rfl, Nat.le_trans hl (by decide)⟩
end Go.Proofs.YtpahnbgfmhcndaaGreatDoor
end
section
namespace Go.Proofs.YtpahnbgfmhcndaaGreatDoor
open Go.Hl Go.RowKit
variable {x : Nd}
theorem bof_spec : FnP Tryz.prog 69 [aggV (encNd x)] (aggV (encNd x)) := by
 refine In 14 Tryz.func69 fun _ _ _ => ?_
 refine Z3 ?_
 refine .n (opAlloc FZ.out) rfl fun b2 _ => ?_
 refine Z4 ?_
 refine .p (opIndexAddrA 0 FU.out FC.out rfl (.t rfl) (.c _) rfl (by omega)) rfl ?_
 refine Z1 ?_
 refine .p (opIndexAddrA 1 FU.out FC.out rfl (.t rfl) (.c _) rfl (by omega)) rfl ?_
 refine Z1 ?_
 refine .p (opIndexAddrA 2 FU.out FC.out rfl (.t rfl) (.c _) rfl (by omega)) rfl ?_
 refine Z1 ?_
 refine .p (opIndexAddrA 3 FU.out FC.out rfl (.t rfl) (.c _) rfl (by omega)) rfl ?_
 refine Z1 ?_
 refine .p (opIndexAddrA 4 FU.out FC.out rfl (.t rfl) (.c _) rfl (by omega)) rfl ?_
 refine Z6 ?_
 refine Post.retR1 rfl () trivial (fun _ _ _ _ => trivial) (.ra (i := 0) FA.out FC.out rfl rfl rfl rfl) ?_
 exact VLe.refl _
theorem blist_spec : FnP Tryz.prog 70 [aggV (encNd x)] (aggV (encNd x)) := by
 refine In 14 Tryz.func70 fun _ _ _ => ?_
 refine Z3 ?_
 refine .n (opAlloc FZ.out) rfl fun b2 _ => ?_
 refine Z14 ?_
 refine .p (opBuildArr FR.out FZ.out (.cons (.t rfl) (.cons (.t rfl) (.cons (.t rfl) (.cons (.t rfl) (.cons (.t rfl) .nil))))) rfl) rfl ?_
 refine Z4 ?_
 refine Post.retR1 rfl () trivial (fun _ _ _ _ => trivial) (.ra (i := 0) FA.out FC.out rfl rfl rfl rfl) ?_
 exact VLe.refl _
theorem bmax_spec {y : Nd} : FnP Tryz.prog 43 [aggV (encNd x), aggV (encNd y)] (aggV (encNd (x.mx y))) := by
 refine In 28 Tryz.func43 fun _ _ _ => ?_
 refine Z4 ?_
 refine .n (opAlloc FZ.out) rfl fun b4 _ => ?_
 refine Z3 ?_
 refine .allocs [(0, 0), (1, 0), (2, 0), (3, 0)] [] [(5, 6, [.int .i64 0, .int .i64 0, .int .i64 0, .int .i64 0, .int .i64 0]), (4, 5, [.int .i64 0, .int .i64 0, .int .i64 0, .int .i64 0, .int .i64 0])] 6 2 FM.out (by kernel_rfl) (by kernel_rfl) (by intro a ha; simp only [List.mem_cons, List.not_mem_nil, or_false] at ha; rcases ha with rfl | rfl <;> exact ⟨_, _, _, _, rfl, FZ.out⟩) (.p rfl (fun _ => opLoadA FA.out FC.out rfl (.t rfl) rfl) <| .p rfl (fun _ => opCall (blist_spec (x := x)) FB.out (.cons (.t rfl) .nil)) <| .p rfl (fun _ => opLoadA FA.out FC.out rfl (.t rfl) rfl) <| .p rfl (fun _ => opCall (blist_spec (x := y)) FB.out (.cons (.t rfl) .nil)) <| .alc fun ba => (.fin (.s (opStoreOA (i := 1) FC.out rfl (.t rfl) (.t rfl) rfl rfl rfl) <| .s (opStoreOA (i := 0) FC.out rfl (.t rfl) (.t rfl) rfl rfl rfl) <| .nil ?_)))
 refine Z1 ?_
 refine .share (t := 6) (i := 0) rfl rfl ?_
 refine Z8 ?_
 refine .own (arr_sl (n := 1) (N := 5) (enc := encI) (xs := mxK x y 0) rfl rfl rfl (by decide)) ?_
 refine .loopO (σ := Nat) (fun k => [sliceH (some (ba 4, 5)) 1 encI (mxK x y k), cellsH b4 [iV 0, iV 0, iV 0, iV 0, iV 0]]) (fun k => [(14, iV (k : Int))]) (fun k => k ≤ 5) (fun k => 5 - k) 0 (Nat.zero_le _) rfl ?_ ?_
 · exact (.get rfl (VLe.refl _) (.refl _ _))
 rintro k hk
 refine Z6 ?_
 refine Cd (fun c0 => ?_) fun c0 => ?_
 ·
  have hk5 : k < 5 := by omega
  refine Z7 ?_
  refine .p (opIndexA1 FU.out FC.out FA.out (.t rfl) rfl (.t rfl) rfl (nd_get hk5)) rfl ?_
  refine Z7 ?_
  refine .p (opIndexAddrAW k FU.out FC.out rfl (.t rfl) (.t rfl) rfl hk5) rfl ?_
  refine .p (opLoadW (i := 0) (r := 0) FA.out (.t rfl) rfl (mxK_get hk5) rfl) rfl ?_
  refine Z2 ?_
  refine .p (opIndexAddrAW k FU.out FC.out rfl (.t rfl) (.t rfl) rfl hk5) rfl ?_
  refine .s (opStoreW (i := 0) (r := 0) (max (x.toL.getD k 0) (y.toL.getD k 0)) rfl FC.out (.t rfl) (.t rfl) rfl (mxK_get hk5) rfl rfl) ?_
  refine Z7 ?_
  refine .round (k + 1) (by omega) (by omega) (by simp only [mxK_set hk5]; rfl) ?_
  exact (.get rfl (VLe.int (by (show (k : Int) + 1 = ((k + 1 : Nat) : Int); omega))) ((.keep 15 rfl rfl)))
 have hk5 : k = 5 := by omega
 subst hk5
 refine .own (sl_arr (cs := encNd (x.mx y)) rfl rfl) ?_
 refine Z8 ?_
 refine .p (cA (h := bof_spec (x := x.mx y))) rfl ?_
 refine Z4 ?_
 refine Post.retR1 rfl () trivial (fun _ _ _ _ => trivial) (.ra (i := 1) FA.out FC.out rfl rfl rfl rfl) ?_
 exact VLe.refl _
theorem splitn_spec {s : List UInt8} (hp0 : s.length < 4294967281) : FnP Tryz.prog 66 [strV s, strV [32], iV 5] (sliceV 1 encSt (partsL s)) := by
 refine In 11 Tryz.func66 fun _ _ _ => ?_
 refine Z10 ?_
 refine .p (cA (h := gensplit_spec hp0)) rfl ?_
 refine Z4 ?_
 refine Rt1 ?_
 exact VLe.refl _
theorem btext_spec (hp0 : x.ok) : FnE Tryz.prog 68 [aggV (encNd x)] [varsH Tryz.prog 0 1 2] (γ := Unit) (fun _ => True) (fun _ => []) (fun _ => strV (textL x.toL)) := by
 refine In 19 Tryz.func68 fun _ _ _ => ?_
 refine Z3 ?_
 refine .p (opAssign (.s [] rfl rfl)) rfl ?_
 refine Z11 ?_
 refine .p (cA (h := blist_spec (x := x))) rfl ?_
 refine Z4 ?_
 refine .ownNil 1 encSt ?_
 refine .loopO (σ := SB × Nat) (fun g => [sliceH g.1 1 encSt ((x.toL.take g.2).map Lib.itoa), varsH Tryz.prog 0 1 2]) (fun g => [(3, exactV (sval g.1 ((x.toL.take g.2).map Lib.itoa).length)), (8, iV (g.2 : Int))]) (fun g => g.2 ≤ 5) (fun g => 5 - g.2) (none, 0) (Nat.zero_le _) rfl ?_ ?_
 · exact (.get rfl (VLe.refl _) (.get rfl (VLe.refl _) (.refl _ _)))
 rintro ⟨sb, k⟩ hk
 simp only at hk ⊢
 refine Z6 ?_
 refine Cd (fun c0 => ?_) fun c0 => ?_
 ·
  have hk5 : k < 5 := by omega
  have hv1 := hp0 _ (List.mem_of_getElem? (toL_get hk5))
  have hlt : ((x.toL.take k).map Lib.itoa).length ≤ 5 := by (rw [List.length_map, List.length_take]; omega)
  refine Z6 ?_
  refine .p (opIndexA1 FU.out FC.out FA.out (.t rfl) rfl (.t rfl) rfl (nd_get hk5)) rfl ?_
  refine Z6 ?_
  refine .p (opCallVars (i := 1) (itoa_spec hv1.1 hv1.2) FB.out (.cons (.t rfl) .nil) rfl) rfl ?_
  refine .p (cB encSt [Lib.itoa (x.toL.getD k 0)]) rfl ?_
  refine .n (opAppend (i := 0) (xs := (x.toL.take k).map Lib.itoa) (ys := [Lib.itoa (x.toL.getD k 0)]) FU.out FU.out FC.out rfl FZ.out rfl FY.out (.t rfl) (.t rfl) rfl (by (simp only [List.length_cons, List.length_nil]; omega)) (by (simp only [List.length_cons, List.length_nil]; omega))) rfl fun g15 _ => ?_
  refine Z8 ?_
  refine .round (g15, k + 1) (by show k + 1 ≤ 5; omega) (by (show 5 - (k + 1) < 5 - k; omega)) (by simp only [nd_take hk5]; rfl) ?_
  exact (.get rfl (VLe.of_eq (by simp only [nd_take hk5])) (.get rfl (VLe.int (by (show (k : Int) + 1 = ((k + 1 : Nat) : Int); omega))) ((.keep 13 rfl rfl))))
 have hk5 : k = 5 := by omega
 subst hk5
 refine .shareS (t := 3) (i := 0) rfl rfl ?_
 refine Z8 ?_
 refine .p (opCall (join_spec (xs := x.toL.map Lib.itoa) (by simp [Nd.toL]) (by simp [Nd.toL]) (by have h9 := textL_len hp0; unfold textL at h9; omega)) FB.out (.cons (.t rfl) (.cons (.s [32] rfl rfl) .nil))) rfl ?_
 refine Z4 ?_
 refine Rt1 ?_
 exact VLe.refl _
theorem bparse_spec {s : List UInt8} (hp0 : s.length ≤ 1000) : FnE Tryz.prog 42 [strV s] [varsH Tryz.prog 0 1 2] (γ := Unit) (fun _ => True) (fun _ => []) (fun _ => tupV [aggV (encNd (parseN s)), iV (parseE s)]) := by
 refine In 45 Tryz.func42 fun _ _ _ => ?_
 have hp5 := nparts_len s
 refine Z2 ?_
 refine .n (opAlloc FZ.out) rfl fun b2 _ => ?_
 refine Z5 ?_
 refine .n (opAlloc FZ.out) rfl fun b4 _ => ?_
 refine Z6 ?_
 refine .p (opCall (splitn_spec (s := s) (by omega)) FB.out (.cons (.t rfl) (.cons (.s [32] rfl rfl) (.cons (.c _) .nil)))) rfl ?_
 refine Z5 ?_
 refine .own (arr_sl (n := 1) (N := 5) (enc := encI) (xs := [0, 0, 0, 0, 0]) rfl rfl rfl (by decide)) ?_
 refine .loopO (σ := Nat) (fun k => [sliceH (some (b4, 5)) 1 encI (numsK s k), cellsH b2 [exactV (.int .i64 0), exactV (.int .i64 0), exactV (.int .i64 0), exactV (.int .i64 0), exactV (.int .i64 0)], varsH Tryz.prog 0 1 2]) (fun k => [(12, iV (k : Int))]) (fun k => k ≤ (partsL s).length) (fun k => (partsL s).length - k) 0 (Nat.zero_le _) (by simp only [numsK_zero]; rfl) ?_ ?_
 · exact (.get rfl (VLe.refl _) (.refl _ _))
 rintro k hk
 refine Z6 ?_
 refine Cd (fun c0 => ?_) fun c0 => ?_
 ·
  have hkl : k < (partsL s).length := by omega
  obtain ⟨w, hx⟩ : ∃ w, (partsL s)[k]? = some w := ⟨_, List.getElem?_eq_getElem hkl⟩
  have hk5 : k < 5 := by omega
  refine Z7 ?_
  refine .p (cI k (h := hx)) rfl ?_
  refine Z8 ?_
  refine .p (opCallVars (i := 2) (atoi_spec (l := w)) FB.out (.cons (.t rfl) .nil) rfl) rfl ?_
  refine Z3 ?_
  refine .p (opIndexAddrAW k FU.out FC.out rfl (.t rfl) (.t rfl) rfl hk5) rfl ?_
  refine .s (opStoreW (i := 0) (r := 0) (atoiV w) rfl FC.out (.t rfl) (.t rfl) rfl (numsK_get hk5) rfl rfl) ?_
  refine Z7 ?_
  refine .round (k + 1) (by omega) (by omega) (by simp only [numsK_set hx]; rfl) ?_
  exact (.get rfl (VLe.int (by (show (k : Int) + 1 = ((k + 1 : Nat) : Int); omega))) ((.keep 16 rfl rfl)))
 have hkl : k = (partsL s).length := by omega
 subst hkl
 rw [numsK_all]
 refine .own (sl_arr (cs := encNd (numsN s)) (flat_nd (nums_len s)) rfl) ?_
 refine Z13 ?_
 refine .loopO (σ := Nat) (fun _ => _) (fun k => [(26, iV (k : Int))]) (fun k => k ≤ 5 ∧ okK (numsN s) k) (fun k => 5 - k) 0 ⟨Nat.zero_le _, okK_zero _⟩ rfl ?_ ?_
 · exact (.get rfl (VLe.refl _) (.refl _ _))
 rintro k hk
 refine Z6 ?_
 refine Cd (fun c1 => ?_) fun c1 => ?_
 ·
  have hk5 : k < 5 := by omega
  refine Z6 ?_
  refine .p (opIndexA1 FU.out FC.out FA.out (.t rfl) rfl (.t rfl) rfl (nd_get hk5)) rfl ?_
  refine Z13 ?_
  refine Cd (fun c2 => ?_) fun c2 => ?_
  ·
   have hno : ¬ okP s := fun h => (by have h9 := h.1 _ (List.mem_of_getElem? (toL_get hk5)); omega)
   refine Z2 ?_
   refine .p (OpP.le (opBuild FP.out FZ.out .nil rfl) (VLe.refl (aggV (encNd Nd.zero)))) rfl ?_
   refine Z10 ?_
   refine Post.retR rfl rfl () trivial (fun _ _ _ _ => trivial) rfl (.cons (.ra (i := 1) FA.out FC.out rfl rfl rfl rfl) ?_ (.cons (.rt rfl) ?_ .nil))
   · rw [(parse_neg hno).1]; exact VLe.refl _
   exact VLe.int (parse_neg hno).2.symm
  refine Z7 ?_
  refine .round (k + 1) ⟨by omega, (okK_step hk5).2 ⟨hk.2, by omega, by omega⟩⟩ (by omega) rfl ?_
  exact (.get rfl (VLe.int (by (show (k : Int) + 1 = ((k + 1 : Nat) : Int); omega))) ((.keep 12 rfl rfl)))
 have hk5 : k = 5 := by omega
 subst hk5
 have hokN : okN (numsN s) := hk.2
 refine Z9 ?_
 refine .p (cA (h := bof_spec (x := numsN s))) rfl ?_
 refine .p (opCallVars (i := 2) (btext_spec (numsN_ok s)) FB.out (.cons (.t rfl) .nil) rfl) rfl ?_
 refine Z4 ?_
 refine Cd (fun c3 => ?_) fun c3 => ?_
 ·
  have hno : ¬ okP s := fun h => c3 h.2
  refine Z2 ?_
  refine .p (OpP.le (opBuild FP.out FZ.out .nil rfl) (VLe.refl (aggV (encNd Nd.zero)))) rfl ?_
  refine Z6 ?_
  refine Post.retR rfl rfl () trivial (fun _ _ _ _ => trivial) rfl (.cons (.ra (i := 1) FA.out FC.out rfl rfl rfl rfl) ?_ (.cons (.rt rfl) ?_ .nil))
  · rw [(parse_neg hno).1]; exact VLe.refl _
  exact VLe.int (parse_neg hno).2.symm
 have hyes : okP s := ⟨hokN, Classical.not_not.1 c3⟩
 refine Z5 ?_
 refine .p (cA (h := bof_spec (x := numsN s))) rfl ?_
 refine Z5 ?_
 refine Post.retR rfl rfl () trivial (fun _ _ _ _ => trivial) rfl (.cons (.ra (i := 1) FA.out FC.out rfl rfl rfl rfl) ?_ (.cons (.rt rfl) ?_ .nil))
 · rw [(parse_pos hyes).1]; exact VLe.refl _
 exact VLe.int (parse_pos hyes).2.symm
theorem awake26_spec  : FnE Tryz.prog 15 [] [varsH Tryz.prog 0 1 2] (γ := Unit) (fun _ => True) (fun _ => []) (fun _ => propV True) := by
 refine In 16 Tryz.func15 fun _ _ _ => ?_
 have hex := okP_12345
 refine Z7 ?_
 refine .p (opCallVars (i := 0) (bparse_spec (s := [49, 32, 50, 32, 51, 32, 52, 32, 53]) (by decide)) FB.out (.cons (.s [49, 32, 50, 32, 51, 32, 52, 32, 53] rfl rfl) .nil) rfl) rfl ?_
 refine Z1 ?_
 refine .p ((opExtract (.t rfl) rfl).le ((show VLe (aggV (encNd (parseN [49, 32, 50, 32, 51, 32, 52, 32, 53]))) (aggV (encNd (⟨1, 2, 3, 4, 5⟩ : Nd))) from VLe.of_eq (by rw [(parse_pos hex.1).1, hex.2])))) rfl ?_
 refine .p ((opExtract (.t rfl) rfl).le ((show VLe (iV (parseE [49, 32, 50, 32, 51, 32, 52, 32, 53])) (iV 0) from VLe.int (parse_pos hex.1).2))) rfl ?_
 refine .n (opAlloc FZ.out) rfl fun b1 _ => ?_
 refine Z4 ?_
 refine .share (t := 1) (i := 0) rfl rfl ?_
 refine Z5 ?_
 refine .g (OpG.gT rfl rfl rfl rfl (fun hg => OpP.le (opLoadA FA.out FC.out rfl (.t rfl) rfl) (VLe.refl (aggV (encNd (⟨1, 2, 3, 4, 5⟩ : Nd)))))) rfl rfl ?_
 refine .g (OpG.gT rfl rfl rfl rfl (fun hg => OpP.le (opBuild FP.out FZ.out (.cons (.c _) (.cons (.c _) (.cons (.c _) (.cons (.c _) (.cons (.c _) .nil))))) rfl) (VLe.refl (aggV (encNd (⟨5, 4, 3, 2, 1⟩ : Nd)))))) rfl rfl ?_
 refine .g (OpG.gT rfl rfl rfl rfl (fun hg => opCall (bmax_spec (x := (⟨1, 2, 3, 4, 5⟩ : Nd)) (y := (⟨5, 4, 3, 2, 1⟩ : Nd))) FB.out (.cons (.when (.t rfl) hg) (.cons (.when (.t rfl) hg) .nil)))) rfl rfl ?_
 refine Z1 ?_
 refine .g (OpG.gT rfl rfl rfl rfl (fun hg => opEqlA Tryz.underlying60 Tryz.sh60 Tryz.eg60 (.when (.t rfl) hg) (.when (.t rfl) hg) (.cons (by decide) rfl rfl (.int FU.out) (.cons (by decide) rfl rfl (.int FU.out) (.cons (by decide) rfl rfl (.int FU.out) (.cons (by decide) rfl rfl (.int FU.out) (.cons (by decide) rfl rfl (.int FU.out) .nil))))))) rfl rfl ?_
 refine Z5 ?_
 refine Rt1 ?_
 exact VLe.prop (by simp [Nd.mx]; try decide)
theorem great17_spec {x : ModD} : FnP Tryz.prog 5 [aggV (encMod x)] (intV .i64 (greatM x + max ((x.Funcs.length : Int) - 12) 0 + max ((x.Datas.length : Int) - 4) 0)) := by
 refine In 17 Tryz.func5 fun _ _ _ => ?_
 refine .fact (t := 0) rfl (fun S w v h => modLens3 h) fun hlen => ?_
 have hall := hlen
 obtain ⟨⟨hl0, hl1, hl2, hl3, hl4, hl5, hl6, hl7⟩, ⟨hi0, hi1, hi2, hi3, hi4⟩, hi5⟩ := hlen
 have hgb := greatM_bnd (greatB_of hall)
 refine Z7 ?_
 refine .drawK 13 2 FM.out (by kernel_rfl) (k := ?_)
 refine Z1 ?_
 refine .p (cA (h := great_spec)) ?_
 refine Z17 ?_
 refine Rt1 ?_
 exact VLe.refl _
theorem BudgetModules0_spec {x : ModD} {fr bl ce ca : Int} (hp0 : ∀ f ∈ x.Funcs, ∀ y ∈ f.Body.L, InsW y) : FnE Tryz.prog 4 [aggV (encMod x), iV fr, iV bl, iV ce, iV ca] [varsH Tryz.prog 0 1 2] (γ := Unit) (fun _ => True) (fun _ => []) (fun _ => propV True) := by
 refine In 316 Tryz.func4 fun _ _ _ => ?_
 refine .fact (t := 0) rfl (fun S w v h => modLens3 h) fun hlen => ?_
 have hall := hlen
 obtain ⟨⟨hl0, hl1, hl2, hl3, hl4, hl5, hl6, hl7⟩, ⟨hi0, hi1, hi2, hi3, hi4⟩, hi5⟩ := hlen
 have hgm := greatM_bnd (greatB_of hall)
 refine Z10 ?_
 refine .p (cA (h := great17_spec)) rfl ?_
 refine Z2 ?_
 refine .g (OpG.gF rfl rfl rfl rfl (fun hg => opCallVars (i := 0) (awake26_spec) FB.out .nil rfl)) rfl rfl ?_
 refine Z4 ?_
 refine Cd (fun c0 => ?_) fun c0 => ?_
 ·
  refine Z2 ?_
  refine .p (opCallVars (i := 0) (awake26_spec) FB.out .nil rfl) rfl ?_
  refine Z5 ?_
  refine Rt1 ?_
  exact VLe.refl _
 obtain ⟨hsm, hmo, hfl⟩ := small17 hall hp0 (by omega)
 have hdb : ∀ d ∈ x.Datas, d.Bytes.length ≤ 5000 := fun d hd => by have := hsm.data d hd; omega
 have hgl := hsm.globals
 have hdd := hsm.datas
 refine Z9 ?_
 refine .loopO (σ := Nat) (fun _ => [varsH Tryz.prog 0 1 2]) (fun n => [(11, iV (n : Int))]) (fun n => n ≤ x.Datas.length) (fun n => x.Datas.length - n) 0 (Nat.zero_le _) rfl ?_ ?_
 · exact (.get rfl (VLe.refl _) (.refl _ _))
 rintro n hn
 refine Z10 ?_
 refine Cd (fun c1 => ?_) fun c1 => ?_
 ·
  obtain ⟨z, hz⟩ := getElem?_lt (xs := x.Datas) (k := n) (by omega)
  refine Z9 ?_
  refine .p (cI n (h := hz)) rfl ?_
  refine Z7 ?_
  refine .g (OpG.gF rfl rfl rfl rfl (fun hg => opIndexAddr (j := n) FU.out FC.out rfl (.when (.t rfl) hg) (.when (.t rfl) hg) rfl hz)) rfl rfl ?_
  refine Z7 ?_
  refine Cd (fun c2 => ?_) fun c2 => ?_
  ·
   refine Z11 ?_
   refine Rt1 ?_
   exact VLe.refl _
  refine Z8 ?_
  refine .round (n + 1) (by omega) (by omega) rfl ?_
  exact (.get rfl (VLe.int (by (show (n : Int) + 1 = ((n + 1 : Nat) : Int); omega))) ((.keep 26 rfl rfl)))
 refine Z18 ?_
 refine Cd (fun c3 => ?_) fun c3 => ?_
 ·
  refine Z7 ?_
  refine Rt1 ?_
  exact VLe.refl _
 refine Z5 ?_
 refine .p (cA (h := l13to_spec hsm)) rfl ?_
 refine Z10 ?_
 refine .p (cA (h := barena_spec (by omega))) rfl ?_
 refine Z8 ?_
 refine .cut (σ := Unit) (fun _ => [varsH Tryz.prog 0 1 2]) (fun _ => [(14, iV (arenaN x fr bl ce ca))]) (fun _ => True) ?_ ?_
 ·
  refine Z34 ?_
  refine Cd (fun c4 => ?_) fun c4 => ?_
  ·
   have y1 : inN fr := ⟨by omega, by omega⟩
   have y2 : inN bl := ⟨by omega, by omega⟩
   have y3 : inN ce := ⟨by omega, by omega⟩
   have y4 : inN ca := ⟨by omega, by omega⟩
   have hyes : inN fr ∧ inN bl ∧ inN ce ∧ inN ca := ⟨y1, y2, y3, y4⟩
   have hmc := mul_cls y1 bl.toNat
   have htb : ((tabN x : Nat) : Int) = max x.Table 0 ∧ tabN x ≤ 100000 := by unfold tabN; omega
   have q1 := clsN_le bl.toNat
   have q2 := clsN_le (8 * x.Globals.length)
   have q3 := clsN_le (4 * tabN x)
   have q4 := clsN_le (8 * ce.toNat)
   have q5 := clsN_le (12 * ca.toNat)
   refine .drawK 23 2 FM.out (by kernel_rfl) (k := ?_)
   refine Z1 ?_
   refine .p ((opMove (.t rfl)).le (VLe.int (show bl = ((bl.toNat : Nat) : Int) by omega))) ?_
   refine .p (cA (h := wclass_spec (n := bl.toNat) (by omega))) ?_
   refine Z4 ?_
   refine .p ((opMulF (.c _) (.t rfl) fits_z).le (VLe.int (show _ = ((8 * x.Globals.length : Nat) : Int) by omega))) ?_
   refine .p (cA (h := wclass_spec (n := 8 * x.Globals.length) (by omega))) ?_
   refine Z4 ?_
   refine .p ((opMulF (.c _) (.t rfl) fits_z).le (VLe.int (show _ = ((4 * tabN x : Nat) : Int) by omega))) ?_
   refine .p (cA (h := wclass_spec (n := 4 * tabN x) (by omega))) ?_
   refine Z2 ?_
   refine .p ((opMulF (.c _) (.t rfl) fits_z).le (VLe.int (show _ = ((8 * ce.toNat : Nat) : Int) by omega))) ?_
   refine .p (cA (h := wclass_spec (n := 8 * ce.toNat) (by omega))) ?_
   refine Z2 ?_
   refine .p ((opMulF (.c _) (.t rfl) fits_z).le (VLe.int (show _ = ((12 * ca.toNat : Nat) : Int) by omega))) ?_
   refine .p (cA (h := wclass_spec (n := 12 * ca.toNat) (by omega))) ?_
   refine Z4 ?_
   refine .meet () trivial rfl (.get rfl (VLe.int (by unfold arenaN; rw [if_pos hyes]; omega)) (.keep 55 rfl rfl))
  have hno : ¬ (inN fr ∧ inN bl ∧ inN ce ∧ inN ca) := fun h => (by obtain ⟨⟨a1, a2⟩, ⟨a3, a4⟩, ⟨a5, a6⟩, a7, a8⟩ := h; exact c4 ⟨⟨⟨⟨⟨⟨⟨a1, a2⟩, a3⟩, a4⟩, a5⟩, a6⟩, a7⟩, a8⟩)
  refine Z1 ?_
  refine .meet () trivial rfl (.get rfl (VLe.int (by unfold arenaN; rw [if_neg hno])) (.keep 30 rfl rfl))
 intro _ _
 refine Z8 ?_
 refine Cd (fun c5 => ?_) fun c5 => ?_
 · exact absurd rfl c5
 have hwb := u64_rng bl
 clear c0 c3 c5 hgm hall
 refine Z5 ?_
 refine .p (opConv FU.out FU.out (.t rfl)) rfl ?_
 refine .p (opRem (.t rfl) (.c _) hwb.1 (by decide)) rfl ?_
 refine Z6 ?_
 obtain ⟨sz, hsz⟩ : ∃ z, 1 + IntKind.u64.wrap bl % 100 = z := ⟨_, rfl⟩
 rw [hsz]
 have h100 : 1 ≤ sz ∧ sz ≤ 100 := by omega
 have hsp : 0 < sz := by omega
 refine Z11 ?_
 refine .loopO (σ := Nat) (fun _ => [varsH Tryz.prog 0 1 2]) (fun i => [(17, iV (i : Int)), (16, iV (pagesN (tchM x sz i) : Int))]) (fun i => i ≤ x.Datas.length) (fun i => x.Datas.length - i) 0 (Nat.zero_le _) rfl ?_ ?_
 · exact (.get rfl (VLe.refl _) (.get rfl (VLe.refl _) (.refl _ _)))
 rintro i hi
 refine Z10 ?_
 refine Cd (fun c6 => ?_) fun c6 => ?_
 ·
  obtain ⟨d, hd⟩ := getElem?_lt (xs := x.Datas) (k := i) (by omega)
  have hdl := hdb d (List.mem_of_getElem? hd)
  refine Z10 ?_
  refine .loopO (σ := Nat) (fun _ => [varsH Tryz.prog 0 1 2]) (fun k => [(18, iV (k : Int)), (16, iV (pagesN (tchM x sz i ++ tchD d sz k) : Int))]) (fun k => k ≤ d.Bytes.length) (fun k => d.Bytes.length - k) 0 (Nat.zero_le _) rfl ?_ ?_
  · exact (.get rfl (VLe.refl _) (.get rfl (VLe.int (by show _ = (pagesN (tchM x sz i ++ []) : Int); rw [List.append_nil])) (.refl _ _)))
  rintro k hk
  have hpl := pages_le (tchM x sz i ++ tchD d sz k)
  have hpm := tchM_len (sz := sz) (n := i) hdb
  have hpd := tchD_len (d := d) (sz := sz) (n := k)
  rw [List.length_append] at hpl
  refine Z7 ?_
  refine .p (cI i (h := hd)) rfl ?_
  refine Z6 ?_
  refine Cd (fun c7 => ?_) fun c7 => ?_
  ·
   obtain ⟨b, hb⟩ := getElem?_lt (xs := d.Bytes) (k := k) (by omega)
   refine Z10 ?_
   refine .p (cI i (h := hd)) rfl ?_
   refine Z3 ?_
   refine .p (cI k (h := hb)) rfl ?_
   refine Z4 ?_
   refine Cd (fun c8 => ?_) fun c8 => ?_
   ·
    have cz := c8
    refine Z9 ?_
    refine .round (k + 1) (by omega) (by omega) rfl ?_
    exact (.get rfl (VLe.int (by (show (k : Int) + 1 = ((k + 1 : Nat) : Int); omega))) (.get rfl (VLe.int (by show _ = (pagesN (tchM x sz i ++ (tchD d sz k ++ t1L d sz k)) : Int); rw [t1_no hb cz, List.append_nil])) ((.keep 24 rfl rfl))))
   have cz := c8
   have hwr := u64_rng (d.At + (k : Int))
   have hqf := quo_fits hwr hsp
   refine Z7 ?_
   refine .p (cI i (h := hd)) rfl ?_
   refine Z4 ?_
   refine .p (opAdd (.t rfl) (.t rfl)) rfl ?_
   refine Z2 ?_
   refine .p (opQuo (.t rfl) (.t rfl) hwr.1 (by omega) hqf) rfl ?_
   refine Z15 ?_
   refine .loopO (σ := Nat) (fun _ => [varsH Tryz.prog 0 1 2]) (fun j => [(21, iV (j : Int)), (20, propV (keyD d k sz ∉ preL x sz d i k j))]) (fun j => j ≤ i + 1) (fun j => i + 1 - j) 0 (Nat.zero_le _) rfl ?_ ?_
   · exact (.get rfl (VLe.refl _) (.get rfl (VLe.prop ⟨fun _ h => (by rw [show preL x sz d i k 0 = [] from if_pos (Nat.zero_le _)] at h; cases h), fun _ => trivial⟩) (.refl _ _)))
   rintro j hj
   refine Z11 ?_
   refine Cd (fun c9 => ?_) fun c9 => ?_
   ·
    have hji : j ≤ i := by omega
    obtain ⟨e, he⟩ := getElem?_lt (xs := x.Datas) (k := j) (by omega)
    have cj := c9
    have hel := hdb e (List.mem_of_getElem? he)
    refine Z10 ?_
    refine .loopO (σ := Nat) (fun _ => [varsH Tryz.prog 0 1 2]) (fun l => [(22, iV (l : Int))]) (fun l => l ≤ e.Bytes.length ∧ keyD d k sz ∉ tchD e sz l) (fun l => e.Bytes.length - l) 0 ⟨Nat.zero_le _, fun h => by cases h⟩ rfl ?_ ?_
    · exact (.get rfl (VLe.refl _) (.refl _ _))
    rintro l ⟨hl, nl⟩
    refine Z7 ?_
    refine .p (cI j (h := he)) rfl ?_
    refine Z16 ?_
    refine Cd (fun c10 => ?_) fun c10 => ?_
    ·
     obtain ⟨c, hc⟩ := getElem?_lt (xs := e.Bytes) (k := l) (by omega)
     have hwr2 := u64_rng (e.At + (l : Int))
     have hqf2 := quo_fits hwr2 hsp
     have clk : j < i ∨ l < k := by omega
     refine Z5 ?_
     refine .drawK 39 2 FM.out (by kernel_rfl) (k := ?_)
     refine Z3 ?_
     refine .p (cI j (h := he)) ?_
     refine Z5 ?_
     refine .p (cI i (h := hd)) ?_
     refine Z7 ?_
     refine .cons (OpG.gT rfl rfl rfl rfl (fun hg => opIndexAddr (j := j) FU.out FC.out rfl (.when (.t rfl) hg) (.when (.t rfl) hg) rfl he)) ?_
     refine Z3 ?_
     refine .cons (OpG.gT rfl rfl rfl rfl (fun hg => opIndexAddr (j := l) FU.out FC.out rfl (.when (.t rfl) hg) (.when (.t rfl) hg) rfl hc)) ?_
     refine Z7 ?_
     refine .cons (OpG.gT rfl rfl rfl rfl (fun hg => opIndexAddr (j := j) FU.out FC.out rfl (.when (.t rfl) hg) (.when (.t rfl) hg) rfl he)) ?_
     refine Z4 ?_
     refine .cons (OpG.gT rfl rfl rfl rfl (fun hg => opAdd (.when (.t rfl) hg) (.when (.t rfl) hg))) ?_
     refine Z2 ?_
     refine .cons (OpG.gT rfl rfl rfl rfl (fun hg => opQuo (.when (.t rfl) hg) (.when (.t rfl) hg) hwr2.1 (by omega) hqf2)) ?_
     refine Z6 ?_
     refine Cd (fun c11 => ?_) fun c11 => ?_
     ·
      have cnz := c11.1.2
      have chit : keyD e l sz = keyD d k sz := Prod.ext c11.1.1 c11.2
      refine Z17 ?_
      refine .round (j + 1) (by omega) (by omega) rfl ?_
      exact (.get rfl (VLe.int (by (show (j : Int) + 1 = ((j + 1 : Nat) : Int); omega))) (.get rfl (VLe.prop ⟨fun h => h.elim, fun h => (h (by rw [← chit]; exact preL_hit hji hd he hc cnz clk)).elim⟩) ((.keep 74 rfl rfl))))
     have hmiss : keyD d k sz ∉ t1L e sz l := fun h => (by by_cases q : (c.toNat : Int) = 0; (rw [t1_no hc q] at h; cases h); (rw [t1_yes hc q] at h; have h2 := List.mem_singleton.1 h; exact c11 ⟨⟨(congrArg Prod.fst h2).symm, q⟩, (congrArg Prod.snd h2).symm⟩))
     refine Z8 ?_
     refine .round (l + 1) ⟨by omega, fun h => (by rcases List.mem_append.1 (show keyD d k sz ∈ tchD e sz l ++ t1L e sz l from h) with h | h; exact nl h; exact hmiss h)⟩ (by omega) rfl ?_
     exact (.get rfl (VLe.int (by (show (l : Int) + 1 = ((l + 1 : Nat) : Int); omega))) ((.keep 64 rfl rfl)))
    have hl1 : j < i → e.Bytes.length ≤ l := fun h => by omega
    have hl2 : j = i → k ≤ l := fun h => (by have e1 : e = d := (by rw [h, hd] at he; exact (Option.some.inj he).symm); rw [e1] at hl c10; omega)
    refine Z11 ?_
    refine .round (j + 1) (by omega) (by omega) rfl ?_
    exact (.get rfl (VLe.int (by (show (j : Int) + 1 = ((j + 1 : Nat) : Int); omega))) (.get rfl (VLe.prop ⟨fun h => preL_next hji hd he h nl hl1 hl2, fun _ => cj.2⟩) ((.keep 32 rfl rfl))))
   have hfi : (keyD d k sz ∉ preL x sz d i k j) ↔ keyD d k sz ∉ tchM x sz i ++ tchD d sz k := ⟨fun h => (by have e : j = i + 1 := (by have h9 : ¬ ((j : Int) ≤ (i : Int)) := fun q => c9 ⟨q, h⟩; omega); rw [e, preL_all] at h; exact h), fun h h2 => h (preL_sub hj h2)⟩
   refine Z10 ?_
   refine Cd (fun c12 => ?_) fun c12 => ?_
   ·
    have cf := c12
    refine Z12 ?_
    refine .round (k + 1) (by omega) (by omega) rfl ?_
    exact (.get rfl (VLe.int (by (show (k : Int) + 1 = ((k + 1 : Nat) : Int); omega))) (.get rfl (VLe.int (by show _ = (pagesN (tchM x sz i ++ (tchD d sz k ++ t1L d sz k)) : Int); rw [t1_yes hb cz, ← List.append_assoc, pages_yes (hfi.1 cf)]; omega)) ((.keep 51 rfl rfl))))
   have cf := c12
   refine Z8 ?_
   refine .round (k + 1) (by omega) (by omega) rfl ?_
   exact (.get rfl (VLe.int (by (show (k : Int) + 1 = ((k + 1 : Nat) : Int); omega))) (.get rfl (VLe.int (by show _ = (pagesN (tchM x sz i ++ (tchD d sz k ++ t1L d sz k)) : Int); rw [t1_yes hb cz, ← List.append_assoc, pages_no (Classical.not_not.1 fun h => cf (hfi.2 h))])) ((.keep 48 rfl rfl))))
  have hke : k = d.Bytes.length := by omega
  subst hke
  refine Z11 ?_
  refine .round (i + 1) (by omega) (by omega) rfl ?_
  exact (.get rfl (VLe.int (by (show (i : Int) + 1 = ((i + 1 : Nat) : Int); omega))) (.get rfl (VLe.int (by rw [tchM_s hd])) ((.keep 22 rfl rfl))))
 have hie : i = x.Datas.length := by omega
 subst hie
 refine Z10 ?_
 refine .p (cA (h := bblocks_spec (by omega) (by omega) hdb)) rfl ?_
 refine Z4 ?_
 refine .g (OpG.gF rfl rfl rfl rfl (fun hg => opCall (bblocksNil_spec) FB.out (.cons (.c _) (.cons (.when (.t rfl) hg) .nil)))) rfl rfl ?_
 refine Z4 ?_
 refine .g (OpG.gF rfl rfl rfl rfl (fun hg => opCall (bblocksZ_spec (m := x)) FB.out (.cons (.when (.t rfl) hg) (.cons (.c _) .nil)))) rfl rfl ?_
 refine Z4 ?_
 refine Cd (fun c13 => ?_) fun c13 => ?_
 · exact absurd c13 (by simp)
 refine Z9 ?_
 refine .n (opAlloc FZ.out) rfl fun b23 _ => ?_
 refine Z4 ?_
 by_cases hv : ValidD x
 ·
  refine Z2 ?_
  refine .p (OpP.le (opLoadOA (i := 0) FA.out FC.out rfl (.t rfl) rfl rfl) (VLe.refl (aggV (encCf ⟨0, ce, ca, 7, 0⟩ fr sz)))) rfl ?_
  refine .p (cA (h := bmodule_spec (y := ⟨0, ce, ca, 7, 0⟩) (fr := fr) (bl := sz) hmo hfl hv (by omega) (by omega) (by omega) hdb)) rfl ?_
  refine Z3 ?_
  refine .n (opAlloc FZ.out) rfl fun b24 _ => ?_
  refine Z6 ?_
  refine .p (OpP.le (opLoadOA (i := 1) FA.out FC.out rfl (.t rfl) rfl rfl) (VLe.refl (aggV (encCf ⟨0, ce, ca, 7, 0⟩ fr sz)))) rfl ?_
  refine .p (cA (h := bmoduleNil_spec (y := ⟨0, ce, ca, 7, 0⟩) (fr := fr) (bl := sz))) rfl ?_
  refine Z3 ?_
  refine .n (opAlloc FZ.out) rfl fun b26 _ => ?_
  refine Z8 ?_
  refine .n (cE (h := dvalid_spec hmo hfl)) rfl fun g283 h283 => ?_
  refine Z3 ?_
  refine Cd (fun c14 => ?_) fun c14 => ?_
  · exact absurd (h283.2.2 hv) (by omega)
  refine Z3 ?_
  refine .drawK 18 3 FM.out (by kernel_rfl) (k := ?_)
  refine Z7 ?_
  refine .cons (OpG.gT rfl rfl rfl rfl (fun hg => OpP.le (opLoadOA (i := 1) FA.out FC.out rfl (.t rfl) rfl rfl) (VLe.refl (aggV (encNd (needN x ⟨0, ce, ca, 7, 0⟩ fr sz)))))) ?_
  refine Z5 ?_
  refine .cons (OpG.gT rfl rfl rfl rfl (fun hg => opCall (barena_spec (by omega)) FB.out (.cons (.when (.t rfl) hg) (.cons (.when (.t rfl) hg) (.cons (.when (.t rfl) hg) (.cons (.when (.t rfl) hg) (.cons (.when (.t rfl) hg) .nil))))))) ?_
  refine Z5 ?_
  refine .g (OpG.gT rfl rfl rfl rfl (fun hg => opEqlA Tryz.underlying60 Tryz.sh60 Tryz.eg60 (.when (.t rfl) hg) (.when (.t rfl) hg) (.cons (by decide) rfl rfl (.int FU.out) (.cons (by decide) rfl rfl (.int FU.out) (.cons (by decide) rfl rfl (.int FU.out) (.cons (by decide) rfl rfl (.int FU.out) (.cons (by decide) rfl rfl (.int FU.out) .nil))))))) rfl rfl ?_
  refine Z5 ?_
  refine Rt1 ?_
  exact VLe.prop (by simp [needN])
 refine Z2 ?_
 refine .p (OpP.le (opLoadOA (i := 0) FA.out FC.out rfl (.t rfl) rfl rfl) (VLe.refl (aggV (encCf ⟨0, ce, ca, 7, 0⟩ fr sz)))) rfl ?_
 refine .p (cA (h := bmoduleN_spec (y := ⟨0, ce, ca, 7, 0⟩) (fr := fr) (bl := sz) hmo hfl hv)) rfl ?_
 refine Z3 ?_
 refine .n (opAlloc FZ.out) rfl fun b24 _ => ?_
 refine Z6 ?_
 refine .p (OpP.le (opLoadOA (i := 1) FA.out FC.out rfl (.t rfl) rfl rfl) (VLe.refl (aggV (encCf ⟨0, ce, ca, 7, 0⟩ fr sz)))) rfl ?_
 refine .p (cA (h := bmoduleNil_spec (y := ⟨0, ce, ca, 7, 0⟩) (fr := fr) (bl := sz))) rfl ?_
 refine Z3 ?_
 refine .n (opAlloc FZ.out) rfl fun b26 _ => ?_
 refine Z8 ?_
 refine .n (cE (h := dvalid_spec hmo hfl)) rfl fun g283 h283 => ?_
 refine Z3 ?_
 refine Cd (fun c14 => ?_) fun c14 => ?_
 ·
  refine Z2 ?_
  refine .p (OpP.le (opLoadOA (i := 1) FA.out FC.out rfl (.t rfl) rfl rfl) (VLe.refl (aggV (encNd Nd.zero)))) rfl ?_
  refine .p (OpP.le (opBuild FP.out FZ.out .nil rfl) (VLe.refl (aggV (encNd Nd.zero)))) rfl ?_
  refine .p (opEqlA Tryz.underlying60 Tryz.sh60 Tryz.eg60 (.t rfl) (.t rfl) (.cons (by decide) rfl rfl (.int FU.out) (.cons (by decide) rfl rfl (.int FU.out) (.cons (by decide) rfl rfl (.int FU.out) (.cons (by decide) rfl rfl (.int FU.out) (.cons (by decide) rfl rfl (.int FU.out) .nil)))))) rfl ?_
  refine Z13 ?_
  refine Rt1 ?_
  exact VLe.prop (by simp [Nd.zero])
 exact (hv (h283.2.1 (by omega))).elim
end Go.Proofs.YtpahnbgfmhcndaaGreatDoor
end
section
namespace Go.Hl
open Go.RowKit
theorem VP.ext' {a b : VP} (h : ∀ S w v, a.p S w v ↔ b.p S w v) : a = b := by
 cases a; cases b
 congr
 funext S w v
 exact propext (h S w v)
theorem sliceV_map {α β : Type} {n : Nat} {enc : β → List VP} {f : α → β} {l : List α} : sliceV n (fun a => enc (f a)) l = sliceV n enc (l.map f) := by
 refine VP.ext' fun S w v => ⟨fun ⟨a, cap, h1, h2, h3, h4⟩ => ⟨a, cap, by rw [List.length_map]; exact h1, by rw [List.length_map]; exact h2, by rw [List.length_map]; exact h3, ?_⟩, fun ⟨a, cap, h1, h2, h3, h4⟩ => ⟨a, cap, by rw [List.length_map] at h1; exact h1, by rw [List.length_map] at h2; exact h2, by rw [List.length_map] at h3; exact h3, ?_⟩⟩
 · cases a with
   | none => exact h4
   | some ad =>
    intro h0
    obtain ⟨k1, k2, k3⟩ := h4 h0
    refine ⟨k1, k2, fun i x hx => ?_⟩
    rw [List.getElem?_map] at hx
    obtain ⟨y, hy, rfl⟩ := Option.map_eq_some_iff.1 hx
    exact k3 i y hy
 · cases a with
   | none => exact h4
   | some ad =>
    intro h0
    obtain ⟨k1, k2, k3⟩ := h4 h0
    exact ⟨k1, k2, fun i x hx => k3 i (f x) (by rw [List.getElem?_map, hx]; rfl)⟩
abbrev encU64W (n : IntOf .u64) : List VP := encU64 n.1
abbrev IWm := { x : InstrD // InsW x }
theorem u64_in (a : IntOf .u64) : 0 ≤ a.1 ∧ a.1 < 18446744073709551616 := by
 have h := a.2
 have e1 : IntKind.u64.min = 0 := by decide
 have e2 : IntKind.u64.max = 18446744073709551615 := by decide
 simp [Lit.wf] at h
 omega
def mkIWm (c : Int) (a b : IntOf .u64) (al : Int) (l : List (IntOf .u64)) : IWm := ⟨⟨c, a.1, b.1, al, l.map (·.1)⟩, u64_in a, u64_in b, fun n hn => by
 obtain ⟨y, _, rfl⟩ := List.mem_map.1 hn; exact (u64_in y).1⟩
abbrev encIWm (x : IWm) : List VP := encInstr x.1
instance : Enc 5 encIWm := ⟨fun x => (inferInstance : Enc 5 encInstr).len x.1, fun x q h => (inferInstance : Enc 5 encInstr).flat x.1 q h⟩
abbrev BodyW := { b : BodyD // ∀ y ∈ b.L, InsW y }
def mkBodyW (t : List UInt8) (l : List IWm) : BodyW := ⟨⟨t, l.map (·.1)⟩, fun y hy => by
 obtain ⟨z, _, rfl⟩ := List.mem_map.1 hy; exact z.2⟩
abbrev encBodyW (b : BodyW) : List VP := encBody b.1
instance : Enc 2 encBodyW := ⟨fun x => (inferInstance : Enc 2 encBody).len x.1, fun x q h => (inferInstance : Enc 2 encBody).flat x.1 q h⟩
abbrev FuncW := { f : FuncD // ∀ y ∈ f.Body.L, InsW y }
def mkFuncW (s : Int) (b : BodyW) : FuncW := ⟨⟨s, b.1⟩, b.2⟩
abbrev encFuncW (f : FuncW) : List VP := encFunc f.1
instance : Enc 3 encFuncW := ⟨fun x => (inferInstance : Enc 3 encFunc).len x.1, fun x q h => (inferInstance : Enc 3 encFunc).flat x.1 q h⟩
abbrev ModW := { m : ModD // ∀ f ∈ m.Funcs, ∀ y ∈ f.Body.L, InsW y }
def mkModW (a : List SigD) (b : List ImportD) (c : List FuncW) (d : Int) (e : List LimitsD) (f : List GlobalD) (g : List ExportD) (h : Int) (i : List ElemD) (j : List DataD) : ModW := ⟨⟨a, b, c.map (·.1), d, e, f, g, h, i, j⟩, fun f hf => by
 obtain ⟨z, _, rfl⟩ := List.mem_map.1 hf; exact z.2⟩
abbrev encModW (m : ModW) : List VP := encMod m.1
theorem mkIWm_enc (c : Int) (a b : IntOf .u64) (al : Int) (l : List (IntOf .u64)) : [intV .i64 c, intV .u64 a.1, intV .u64 b.1, intV .i64 al, sliceV 1 encU64W l] = encIWm (mkIWm c a b al l) := by
 rw [show sliceV 1 encU64W l = sliceV 1 encU64 (l.map (·.1)) from sliceV_map (enc := encU64) (f := Subtype.val)]; rfl
theorem mkBodyW_enc (t : List UInt8) (l : List IWm) : [sliceV 1 encU8 t, sliceV 5 encIWm l] = encBodyW (mkBodyW t l) := by
 rw [show sliceV 5 encIWm l = sliceV 5 encInstr (l.map (·.1)) from sliceV_map (enc := encInstr) (f := Subtype.val)]; rfl
theorem mkModW_enc (a : List SigD) (b : List ImportD) (c : List FuncW) (d : Int) (e : List LimitsD) (f : List GlobalD) (g : List ExportD) (h : Int) (i : List ElemD) (j : List DataD) :
    [sliceV 2 encSig a, sliceV 3 encImport b, sliceV 3 encFuncW c, intV .i64 d, sliceV 3 encLimits e, sliceV 3 encGlobal f, sliceV 3 encExport g, intV .i64 h, sliceV 2 encElem i, sliceV 3 encData j] = encModW (mkModW a b c d e f g h i j) := by
  rw [show sliceV 3 encFuncW c = sliceV 3 encFunc (c.map (·.1)) from sliceV_map (enc := encFunc) (f := Subtype.val)]; rfl
end Go.Hl
end
