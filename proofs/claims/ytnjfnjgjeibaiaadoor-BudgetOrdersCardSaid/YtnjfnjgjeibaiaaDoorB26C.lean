/-
  Go's library: parts of a text, numbers in texts, texts joined: as contracts. Package variables as what is shared.
-/
import Derived.Test.YtnjfnjgjeibaiaaDoorB26B
import Derived.Test.YtnjfnjgjeibaiaaDoorTab
import Derived.Shelf.Strings.SplitShaped
import Derived.Shelf.Strings.OnBuilder
import Derived.Shelf.Strconv.AtoiAll
import Derived.Shelf.Strconv.Itoa3
import Derived.Ground.NamesProg
import Derived.LaidLaws
import Derived.LaidSub
import Derived.MakeChecks
import Derived.Below
namespace Go.Proofs
open Go.Shelf Go.RowKit
set_option linter.unusedVariables false
def Tryd.laySplit_ren : Go.Shelf.Ren := ⟨fun | 147 => 15 | 221 => 22 | 268 => 29 | 138 => 30 | 143 => 31 | 195 => 40 | 197 => 41 | 218 => 42 | 219 => 43 | 260 => 53 | 217 => 54 | 225 => 55 | 224 => 56 | 267 => 57 | 266 => 65 | 314 => 66 | n => n, fun | 9 => 9 | 3 => 3 | 31 => 45 | 4 => 4 | 0 => 0 | 105 => 75 | 21 => 21 | 5 => 5 | 46 => 80 | 119 => 105 | 139 => 108 | 138 => 107 | 146 => 109 | 51 => 101 | n => n, fun | 1 => 2 | 3 => 4 | 4 => 5 | n => n⟩
theorem Tryd.laySplit : Go.Proofs.LaysM.n147 Tryd.prog Tryd.laySplit_ren := {
  mixed := by kernel_rfl
  f138 := Tryd.func30.trans (congrArg some (by kernel_rfl))
  f143 := Tryd.func31.trans (congrArg some (by kernel_rfl))
  f147 := Tryd.func15.trans (congrArg some (by kernel_rfl))
  f195 := Tryd.func40.trans (congrArg some (by kernel_rfl))
  f197 := Tryd.func41.trans (congrArg some (by kernel_rfl))
  f217 := Tryd.func54.trans (congrArg some (by kernel_rfl))
  f218 := Tryd.func42.trans (congrArg some (by kernel_rfl))
  f219 := Tryd.func43.trans (congrArg some (by kernel_rfl))
  f221 := Tryd.func22.trans (congrArg some (by kernel_rfl))
  f224 := Tryd.func56.trans (congrArg some (by kernel_rfl))
  f225 := Tryd.func55.trans (congrArg some (by kernel_rfl))
  f260 := Tryd.func53.trans (congrArg some (by kernel_rfl))
  f266 := Tryd.func65.trans (congrArg some (by kernel_rfl))
  f267 := Tryd.func57.trans (congrArg some (by kernel_rfl))
  f268 := Tryd.func29.trans (congrArg some (by kernel_rfl))
  f314 := Tryd.func66.trans (congrArg some (by kernel_rfl))
  t0 := Tryd.underlying0
  a0 := Tryd.isAgg0
  z0 := Tryd.sizeOf0
  v0 := Tryd.zeroValue0
  t3 := Tryd.underlying3
  a3 := Tryd.isAgg3
  z3 := Tryd.sizeOf3
  v3 := Tryd.zeroValue3
  t4 := Tryd.underlying4
  a4 := Tryd.isAgg4
  z4 := Tryd.sizeOf4
  v4 := Tryd.zeroValue4
  t5 := Tryd.underlying5
  a5 := Tryd.isAgg5
  z5 := Tryd.sizeOf5
  v5 := Tryd.zeroValue5
  t9 := Tryd.underlying9
  a9 := Tryd.isAgg9
  z9 := Tryd.sizeOf9
  v9 := Tryd.zeroValue9
  t21 := Tryd.underlying21
  a21 := Tryd.isAgg21
  z21 := Tryd.sizeOf21
  v21 := Tryd.zeroValue21
  t31 := Tryd.underlying45
  a31 := Tryd.isAgg45
  z31 := Tryd.sizeOf45
  v31 := Tryd.zeroValue45
  t46 := Tryd.underlying80
  a46 := Tryd.isAgg80
  z46 := Tryd.sizeOf80
  v46 := Tryd.zeroValue80
  t51 := Tryd.underlying101
  a51 := Tryd.isAgg101
  z51 := Tryd.sizeOf101
  v51 := Tryd.zeroValue101
  t105 := Tryd.underlying75
  a105 := Tryd.isAgg75
  z105 := Tryd.sizeOf75
  v105 := Tryd.zeroValue75
  t119 := Tryd.underlying105
  a119 := Tryd.isAgg105
  z119 := Tryd.sizeOf105
  t138 := Tryd.underlying107
  a138 := Tryd.isAgg107
  z138 := Tryd.sizeOf107
  v138 := Tryd.zeroValue107
  t139 := Tryd.underlying108
  a139 := Tryd.isAgg108
  z139 := Tryd.sizeOf108
  v139 := Tryd.zeroValue108
  t146 := Tryd.underlying109
  a146 := Tryd.isAgg109
  z146 := Tryd.sizeOf109
  v146 := Tryd.zeroValue109
  g1 := by kernel_rfl
  g3 := by kernel_rfl
  g4 := by kernel_rfl
  i0 := by kernel_rfl
  i3 := by kernel_rfl
  i4 := by kernel_rfl
  i5 := by kernel_rfl
  i9 := by kernel_rfl
  i21 := by kernel_rfl
  i31 := by kernel_rfl
  i46 := by kernel_rfl
  i51 := by kernel_rfl
  i105 := by kernel_rfl
  i138 := by kernel_rfl
  i139 := by kernel_rfl
  i146 := by kernel_rfl
  m1 := by kernel_rfl
  s1_3 := fun w h => Go.Proofs.cell_of_shapedOpen_int (zero := #[.int .i64 0]) (t := 3) h (of_decide_eq_true (by kernel_rfl)) (by kernel_rfl) rfl (by kernel_rfl) (by kernel_rfl) Tryd.underlying3
  m3 := by kernel_rfl
  m4 := by kernel_rfl }
def Tryd.layJoin_ren : Go.Shelf.Ren := ⟨fun | 156 => 20 | 165 => 26 | 166 => 27 | 169 => 28 | 240 => 38 | 241 => 39 | 276 => 51 | 277 => 52 | n => n, fun | 31 => 45 | 9 => 9 | 3 => 3 | 4 => 4 | 0 => 0 | 20 => 20 | 72 => 61 | 76 => 49 | 70 => 58 | 37 => 59 | 75 => 48 | 127 => 73 | 164 => 90 | 5 => 5 | 80 => 63 | n => n, fun | n => n⟩
theorem Tryd.layJoin : Go.Proofs.Lays.n156 Tryd.prog Tryd.layJoin_ren := {
  mixed := by kernel_rfl
  f156 := Tryd.func20.trans (congrArg some (by kernel_rfl))
  f165 := Tryd.func26.trans (congrArg some (by kernel_rfl))
  f166 := Tryd.func27.trans (congrArg some (by kernel_rfl))
  f169 := Tryd.func28.trans (congrArg some (by kernel_rfl))
  f240 := Tryd.func38.trans (congrArg some (by kernel_rfl))
  f241 := Tryd.func39.trans (congrArg some (by kernel_rfl))
  f276 := Tryd.func51.trans (congrArg some (by kernel_rfl))
  f277 := Tryd.func52.trans (congrArg some (by kernel_rfl))
  t0 := Tryd.underlying0
  a0 := Tryd.isAgg0
  z0 := Tryd.sizeOf0
  v0 := Tryd.zeroValue0
  t3 := Tryd.underlying3
  a3 := Tryd.isAgg3
  z3 := Tryd.sizeOf3
  v3 := Tryd.zeroValue3
  t4 := Tryd.underlying4
  a4 := Tryd.isAgg4
  z4 := Tryd.sizeOf4
  v4 := Tryd.zeroValue4
  t9 := Tryd.underlying9
  a9 := Tryd.isAgg9
  z9 := Tryd.sizeOf9
  v9 := Tryd.zeroValue9
  t20 := Tryd.underlying20
  a20 := Tryd.isAgg20
  z20 := Tryd.sizeOf20
  v20 := Tryd.zeroValue20
  t31 := Tryd.underlying45
  a31 := Tryd.isAgg45
  z31 := Tryd.sizeOf45
  v31 := Tryd.zeroValue45
  t37 := Tryd.underlying59
  a37 := Tryd.isAgg59
  z37 := Tryd.sizeOf59
  v37 := Tryd.zeroValue59
  t70 := Tryd.underlying58
  a70 := Tryd.isAgg58
  z70 := Tryd.sizeOf58
  v70 := Tryd.zeroValue58
  t72 := Tryd.underlying61
  a72 := Tryd.isAgg61
  z72 := Tryd.sizeOf61
  v72 := Tryd.zeroValue61
  t75 := Tryd.underlying48
  a75 := Tryd.isAgg48
  z75 := Tryd.sizeOf48
  v75 := Tryd.zeroValue48
  t76 := Tryd.underlying49
  a76 := Tryd.isAgg49
  z76 := Tryd.sizeOf49
  v76 := Tryd.zeroValue49
  t127 := Tryd.underlying73
  a127 := Tryd.isAgg73
  z127 := Tryd.sizeOf73
  v127 := Tryd.zeroValue73
  t164 := Tryd.underlying90
  a164 := Tryd.isAgg90
  z164 := Tryd.sizeOf90
  v164 := Tryd.zeroValue90 }
def Tryd.layItoa_ren : Go.Shelf.Ren := ⟨fun | 171 => 19 | 243 => 25 | 246 => 37 | 283 => 47 | 284 => 48 | 285 => 49 | 286 => 50 | 129 => 61 | 317 => 60 | 318 => 62 | 319 => 63 | 320 => 64 | 337 => 67 | 338 => 68 | n => n, fun | 3 => 3 | 9 => 9 | 2 => 2 | 4 => 4 | 171 => 85 | 0 => 0 | 53 => 27 | 37 => 59 | 5 => 5 | 173 => 88 | 212 => 100 | 51 => 101 | 20 => 20 | 213 => 102 | 46 => 80 | 232 => 112 | 233 => 113 | n => n, fun | 17 => 3 | 18 => 6 | 19 => 7 | n => n⟩
theorem Tryd.layItoa : Go.Proofs.LaysM.n171 Tryd.prog Tryd.layItoa_ren := {
  mixed := by kernel_rfl
  f129 := Tryd.func61.trans (congrArg some (by kernel_rfl))
  f171 := Tryd.func19.trans (congrArg some (by kernel_rfl))
  f243 := Tryd.func25.trans (congrArg some (by kernel_rfl))
  f246 := Tryd.func37.trans (congrArg some (by kernel_rfl))
  f283 := Tryd.func47.trans (congrArg some (by kernel_rfl))
  f284 := Tryd.func48.trans (congrArg some (by kernel_rfl))
  f285 := Tryd.func49.trans (congrArg some (by kernel_rfl))
  f286 := Tryd.func50.trans (congrArg some (by kernel_rfl))
  f317 := Tryd.func60.trans (congrArg some (by kernel_rfl))
  f318 := Tryd.func62.trans (congrArg some (by kernel_rfl))
  f319 := Tryd.func63.trans (congrArg some (by kernel_rfl))
  f320 := Tryd.func64.trans (congrArg some (by kernel_rfl))
  f337 := Tryd.func67.trans (congrArg some (by kernel_rfl))
  f338 := Tryd.func68.trans (congrArg some (by kernel_rfl))
  t0 := Tryd.underlying0
  a0 := Tryd.isAgg0
  z0 := Tryd.sizeOf0
  v0 := Tryd.zeroValue0
  t2 := Tryd.underlying2
  a2 := Tryd.isAgg2
  z2 := Tryd.sizeOf2
  v2 := Tryd.zeroValue2
  t3 := Tryd.underlying3
  a3 := Tryd.isAgg3
  z3 := Tryd.sizeOf3
  v3 := Tryd.zeroValue3
  t4 := Tryd.underlying4
  a4 := Tryd.isAgg4
  z4 := Tryd.sizeOf4
  v4 := Tryd.zeroValue4
  t5 := Tryd.underlying5
  a5 := Tryd.isAgg5
  z5 := Tryd.sizeOf5
  v5 := Tryd.zeroValue5
  t9 := Tryd.underlying9
  a9 := Tryd.isAgg9
  z9 := Tryd.sizeOf9
  v9 := Tryd.zeroValue9
  t20 := Tryd.underlying20
  a20 := Tryd.isAgg20
  z20 := Tryd.sizeOf20
  v20 := Tryd.zeroValue20
  t37 := Tryd.underlying59
  a37 := Tryd.isAgg59
  z37 := Tryd.sizeOf59
  v37 := Tryd.zeroValue59
  t46 := Tryd.underlying80
  a46 := Tryd.isAgg80
  z46 := Tryd.sizeOf80
  v46 := Tryd.zeroValue80
  t51 := Tryd.underlying101
  a51 := Tryd.isAgg101
  z51 := Tryd.sizeOf101
  v51 := Tryd.zeroValue101
  t53 := Tryd.underlying27
  a53 := Tryd.isAgg27
  z53 := Tryd.sizeOf27
  v53 := Tryd.zeroValue27
  t171 := Tryd.underlying85
  a171 := Tryd.isAgg85
  z171 := Tryd.sizeOf85
  v171 := Tryd.zeroValue85
  t173 := Tryd.underlying88
  a173 := Tryd.isAgg88
  z173 := Tryd.sizeOf88
  v173 := Tryd.zeroValue88
  t212 := Tryd.underlying100
  a212 := Tryd.isAgg100
  z212 := Tryd.sizeOf100
  v212 := Tryd.zeroValue100
  t213 := Tryd.underlying102
  a213 := Tryd.isAgg102
  z213 := Tryd.sizeOf102
  t232 := Tryd.underlying112
  a232 := Tryd.isAgg112
  z232 := Tryd.sizeOf112
  v232 := Tryd.zeroValue112
  t233 := Tryd.underlying113
  a233 := Tryd.isAgg113
  z233 := Tryd.sizeOf113
  v233 := Tryd.zeroValue113
  g17 := by kernel_rfl
  g18 := by kernel_rfl
  g19 := by kernel_rfl
  i0 := by kernel_rfl
  i2 := by kernel_rfl
  i3 := by kernel_rfl
  i4 := by kernel_rfl
  i5 := by kernel_rfl
  i9 := by kernel_rfl
  i20 := by kernel_rfl
  i37 := by kernel_rfl
  i46 := by kernel_rfl
  i51 := by kernel_rfl
  i53 := by kernel_rfl
  i171 := by kernel_rfl
  i173 := by kernel_rfl
  i212 := by kernel_rfl
  i232 := by kernel_rfl
  i233 := by kernel_rfl
  m17 := by kernel_rfl
  m18 := by kernel_rfl
  m19 := by kernel_rfl }
def Tryd.layAtoi_ren : Go.Shelf.Ren := ⟨fun | 172 => 16 | 244 => 23 | 245 => 24 | 247 => 32 | 279 => 33 | 280 => 34 | 281 => 35 | 282 => 36 | 287 => 44 | 316 => 45 | 171 => 19 | 205 => 46 | 321 => 58 | 322 => 59 | 243 => 25 | 246 => 37 | 283 => 47 | 284 => 48 | 285 => 49 | 286 => 50 | 129 => 61 | 317 => 60 | 318 => 62 | 319 => 63 | 320 => 64 | 337 => 67 | 338 => 68 | n => n, fun | 9 => 9 | 3 => 3 | 75 => 48 | 76 => 49 | 4 => 4 | 5 => 5 | 167 => 66 | 37 => 59 | 0 => 0 | 85 => 67 | 2 => 2 | 168 => 69 | 53 => 27 | 175 => 78 | 46 => 80 | 210 => 83 | 127 => 73 | 145 => 98 | 143 => 96 | 21 => 21 | 171 => 85 | 173 => 88 | 212 => 100 | 51 => 101 | 20 => 20 | 213 => 102 | 232 => 112 | 233 => 113 | 80 => 63 | n => n, fun | 15 => 0 | 16 => 1 | 17 => 3 | 18 => 6 | 19 => 7 | n => n⟩
theorem Tryd.layAtoi : Go.Proofs.LaysC.n172 Tryd.prog Tryd.layAtoi_ren := {
  mixed := by kernel_rfl
  f129 := Tryd.func61.trans (congrArg some (by kernel_rfl))
  f171 := Tryd.func19.trans (congrArg some (by kernel_rfl))
  f172 := Tryd.func16.trans (congrArg some (by kernel_rfl))
  f205 := Tryd.func46.trans (congrArg some (by kernel_rfl))
  f243 := Tryd.func25.trans (congrArg some (by kernel_rfl))
  f244 := Tryd.func23.trans (congrArg some (by kernel_rfl))
  f245 := Tryd.func24.trans (congrArg some (by kernel_rfl))
  f246 := Tryd.func37.trans (congrArg some (by kernel_rfl))
  f247 := Tryd.func32.trans (congrArg some (by kernel_rfl))
  f279 := Tryd.func33.trans (congrArg some (by kernel_rfl))
  f280 := Tryd.func34.trans (congrArg some (by kernel_rfl))
  f281 := Tryd.func35.trans (congrArg some (by kernel_rfl))
  f282 := Tryd.func36.trans (congrArg some (by kernel_rfl))
  f283 := Tryd.func47.trans (congrArg some (by kernel_rfl))
  f284 := Tryd.func48.trans (congrArg some (by kernel_rfl))
  f285 := Tryd.func49.trans (congrArg some (by kernel_rfl))
  f286 := Tryd.func50.trans (congrArg some (by kernel_rfl))
  f287 := Tryd.func44.trans (congrArg some (by kernel_rfl))
  f316 := Tryd.func45.trans (congrArg some (by kernel_rfl))
  f317 := Tryd.func60.trans (congrArg some (by kernel_rfl))
  f318 := Tryd.func62.trans (congrArg some (by kernel_rfl))
  f319 := Tryd.func63.trans (congrArg some (by kernel_rfl))
  f320 := Tryd.func64.trans (congrArg some (by kernel_rfl))
  f321 := Tryd.func58.trans (congrArg some (by kernel_rfl))
  f322 := Tryd.func59.trans (congrArg some (by kernel_rfl))
  f337 := Tryd.func67.trans (congrArg some (by kernel_rfl))
  f338 := Tryd.func68.trans (congrArg some (by kernel_rfl))
  t0 := Tryd.underlying0
  a0 := Tryd.isAgg0
  z0 := Tryd.sizeOf0
  v0 := Tryd.zeroValue0
  t2 := Tryd.underlying2
  a2 := Tryd.isAgg2
  z2 := Tryd.sizeOf2
  v2 := Tryd.zeroValue2
  t3 := Tryd.underlying3
  a3 := Tryd.isAgg3
  z3 := Tryd.sizeOf3
  v3 := Tryd.zeroValue3
  t4 := Tryd.underlying4
  a4 := Tryd.isAgg4
  z4 := Tryd.sizeOf4
  v4 := Tryd.zeroValue4
  t5 := Tryd.underlying5
  a5 := Tryd.isAgg5
  z5 := Tryd.sizeOf5
  v5 := Tryd.zeroValue5
  t9 := Tryd.underlying9
  a9 := Tryd.isAgg9
  z9 := Tryd.sizeOf9
  v9 := Tryd.zeroValue9
  t20 := Tryd.underlying20
  a20 := Tryd.isAgg20
  z20 := Tryd.sizeOf20
  v20 := Tryd.zeroValue20
  t21 := Tryd.underlying21
  a21 := Tryd.isAgg21
  z21 := Tryd.sizeOf21
  v21 := Tryd.zeroValue21
  t37 := Tryd.underlying59
  a37 := Tryd.isAgg59
  z37 := Tryd.sizeOf59
  v37 := Tryd.zeroValue59
  t46 := Tryd.underlying80
  a46 := Tryd.isAgg80
  z46 := Tryd.sizeOf80
  v46 := Tryd.zeroValue80
  t51 := Tryd.underlying101
  a51 := Tryd.isAgg101
  z51 := Tryd.sizeOf101
  v51 := Tryd.zeroValue101
  t53 := Tryd.underlying27
  a53 := Tryd.isAgg27
  z53 := Tryd.sizeOf27
  v53 := Tryd.zeroValue27
  t75 := Tryd.underlying48
  a75 := Tryd.isAgg48
  z75 := Tryd.sizeOf48
  v75 := Tryd.zeroValue48
  t76 := Tryd.underlying49
  a76 := Tryd.isAgg49
  z76 := Tryd.sizeOf49
  v76 := Tryd.zeroValue49
  t85 := Tryd.underlying67
  a85 := Tryd.isAgg67
  z85 := Tryd.sizeOf67
  v85 := Tryd.zeroValue67
  t127 := Tryd.underlying73
  a127 := Tryd.isAgg73
  z127 := Tryd.sizeOf73
  v127 := Tryd.zeroValue73
  t143 := Tryd.underlying96
  a143 := Tryd.isAgg96
  z143 := Tryd.sizeOf96
  v143 := Tryd.zeroValue96
  t145 := Tryd.underlying98
  a145 := Tryd.isAgg98
  z145 := Tryd.sizeOf98
  v145 := Tryd.zeroValue98
  t167 := Tryd.underlying66
  a167 := Tryd.isAgg66
  z167 := Tryd.sizeOf66
  v167 := Tryd.zeroValue66
  t168 := Tryd.underlying69
  a168 := Tryd.isAgg69
  z168 := Tryd.sizeOf69
  v168 := Tryd.zeroValue69
  t171 := Tryd.underlying85
  a171 := Tryd.isAgg85
  z171 := Tryd.sizeOf85
  v171 := Tryd.zeroValue85
  t173 := Tryd.underlying88
  a173 := Tryd.isAgg88
  z173 := Tryd.sizeOf88
  v173 := Tryd.zeroValue88
  t175 := Tryd.underlying78
  a175 := Tryd.isAgg78
  z175 := Tryd.sizeOf78
  v175 := Tryd.zeroValue78
  t210 := Tryd.underlying83
  a210 := Tryd.isAgg83
  z210 := Tryd.sizeOf83
  v210 := Tryd.zeroValue83
  t212 := Tryd.underlying100
  a212 := Tryd.isAgg100
  z212 := Tryd.sizeOf100
  v212 := Tryd.zeroValue100
  t213 := Tryd.underlying102
  a213 := Tryd.isAgg102
  z213 := Tryd.sizeOf102
  t232 := Tryd.underlying112
  a232 := Tryd.isAgg112
  z232 := Tryd.sizeOf112
  v232 := Tryd.zeroValue112
  t233 := Tryd.underlying113
  a233 := Tryd.isAgg113
  z233 := Tryd.sizeOf113
  v233 := Tryd.zeroValue113
  g15 := by kernel_rfl
  g16 := by kernel_rfl
  g17 := by kernel_rfl
  g18 := by kernel_rfl
  g19 := by kernel_rfl
  t80 := Tryd.underlying63
  a80 := Tryd.isAgg63
  z80 := Tryd.sizeOf63
  v80 := Tryd.zeroValue63
  i0 := by kernel_rfl
  i2 := by kernel_rfl
  i3 := by kernel_rfl
  i4 := by kernel_rfl
  i5 := by kernel_rfl
  i9 := by kernel_rfl
  i20 := by kernel_rfl
  i21 := by kernel_rfl
  i37 := by kernel_rfl
  i46 := by kernel_rfl
  i51 := by kernel_rfl
  i53 := by kernel_rfl
  i75 := by kernel_rfl
  i76 := by kernel_rfl
  i80 := by kernel_rfl
  i85 := by kernel_rfl
  i127 := by kernel_rfl
  i143 := by kernel_rfl
  i145 := by kernel_rfl
  i167 := by kernel_rfl
  i168 := by kernel_rfl
  i171 := by kernel_rfl
  i173 := by kernel_rfl
  i175 := by kernel_rfl
  i210 := by kernel_rfl
  i212 := by kernel_rfl
  i232 := by kernel_rfl
  i233 := by kernel_rfl
  m15 := by kernel_rfl
  m16 := by kernel_rfl
  m17 := by kernel_rfl
  m18 := by kernel_rfl
  m19 := by kernel_rfl
  c0 := by kernel_rfl
  c2 := by kernel_rfl
  c3 := by kernel_rfl
  c4 := by kernel_rfl
  c5 := by kernel_rfl
  c9 := by kernel_rfl
  c20 := by kernel_rfl
  c21 := by kernel_rfl
  c37 := by kernel_rfl
  c46 := by kernel_rfl
  c51 := by kernel_rfl
  c53 := by kernel_rfl
  c75 := by kernel_rfl
  c76 := by kernel_rfl
  c80 := by kernel_rfl
  c85 := by kernel_rfl
  c127 := by kernel_rfl
  c143 := by kernel_rfl
  c145 := by kernel_rfl
  c167 := by kernel_rfl
  c168 := by kernel_rfl
  c171 := by kernel_rfl
  c173 := by kernel_rfl
  c175 := by kernel_rfl
  c210 := by kernel_rfl
  c212 := by kernel_rfl
  c213 := by kernel_rfl
  c232 := by kernel_rfl
  c233 := by kernel_rfl }
theorem Tryd.layExtra : Builder.Extra Tryd.prog Tryd.layJoin_ren where
  sizeBuilder := by kernel_rfl
  liesBuilder := by kernel_rfl
  t5 := Tryd.underlying5
  a5 := Tryd.isAgg5
  z5 := Tryd.sizeOf5
  v5 := Tryd.zeroValue5
  infoByte := by kernel_rfl
  cellsByte := by kernel_rfl
  sizeByte := by kernel_rfl
  neB5 := by decide
end Go.Proofs
namespace Go.Hl
open Go.RowKit Go.Lib
set_option linter.unusedVariables false

/-- a variable of an interface's type -/
def IfaceAt (w : World) (g : Nat) : Prop := ∃ ev, w.cell? ⟨g, 0, none⟩ = some ev ∧ (ev = .nilIface ∨ ∃ te pe, ev = .iface te pe)
/-- the package variables that are read -/
def VarsP (P : Program) (gt gs gr : Nat) (S : BS) (w : World) : Prop :=
  S gt ∧ S gs ∧ S gr ∧ P.globalNamed "internal/strconv.uint64pow10" = some gt ∧ Lib.TabIs P w "internal/strconv.uint64pow10" .u64 Lib.pow10Tab ∧ IfaceAt w gs ∧ IfaceAt w gr
theorem VarsP.mono {P : Program} {gt gs gr : Nat} {S S' : BS} {w w' : World} (h1 : ∀ k, S k → S' k) (h2 : ∀ k, S k → w'.heap[k]? = w.heap[k]?) (h : VarsP P gt gs gr S w) : VarsP P gt gs gr S' w' := by
  obtain ⟨a, b, c, d, e, f, g⟩ := h
  refine ⟨h1 _ a, h1 _ b, h1 _ c, d, ?_, ?_, ?_⟩
  · unfold Lib.TabIs World.var? at *
    simp only [d, Option.bind_some] at e ⊢
    rw [h2 _ a]; exact e
  · obtain ⟨ev, h3, h4⟩ := f
    exact ⟨ev, by rw [cell_same (h2 _ b)]; exact h3, h4⟩
  · obtain ⟨ev, h3, h4⟩ := g
    exact ⟨ev, by rw [cell_same (h2 _ c)]; exact h3, h4⟩
def varsH (P : Program) (gt gs gr : Nat) : HP := ⟨fun F S w => VarsP P gt gs gr S w, fun h1 h2 h3 h4 h => h.mono h2 h4⟩
theorem Own.vars {P : Program} {gt gs gr : Nat} : ∀ {hs : List HP} {i : Nat} {F S : BS} {w : World}, Own hs F S w → hs[i]? = some (varsH P gt gs gr) → VarsP P gt gs gr S w
  | [], i, F, S, w, _, h => by simp at h
  | h0 :: hs, 0, F, S, w, ho, h => by
    obtain ⟨F1, F2, _, _, hp, _⟩ := ho
    simp only [List.getElem?_cons_zero, Option.some.injEq] at h
    subst h; exact hp
  | h0 :: hs, i + 1, F, S, w, ho, h => by
    obtain ⟨F1, F2, _, _, _, hr⟩ := ho
    exact Own.vars hr (by simpa using h)

section
variable {P : Program} {hs : List HP} {env : Env} {q : VP} {dst : Option Tmp} {ty : TypeId} {pos : String} {after : Array Edge} {g : Option (Nat × Bool)}
/-- a call of what reads the package variables -/
theorem opCallVars {i gt gs gr : Nat} {f : FuncId} {xs : List Operand} {ats : Array TypeId} {ps : List VP} (hf : FnE P f ps [varsH P gt gs gr] (γ := Unit) (fun _ => True) (fun _ => []) (fun _ => q)) (hb : callB P f = true) (hx : Opds env xs ps) (hi : hs[i]? = some (varsH P gt gs gr)) :
    OpP P hs env ⟨dst, .call ⟨.value (.func f), xs.toArray, ats⟩, ty, pos, after, g⟩ q := by
  intro a w S F h1 h2 h3 h4 h5 K Q hk
  unfold Oper.wp
  rw [run_call hb]
  refine (hf w S (fun _ => False) _ h1 (fun _ h => h.elim) (fun _ _ h => h) ⟨fun _ => False, fun _ => False, fun _ h => h.elim, fun _ h => h.elim, h4.vars hi, trivial⟩ (by simpa using hx S w a h5)).mono ?_
  rintro e w' ⟨v, S', F', _, rfl, hsit, _, _, hq⟩
  refine hk v w' S' ⟨hsit.os, hsit.tape, hsit.output, hsit.size, fun k hk => hsit.kept k hk (fun h => h), hsit.base, fun k hk => ?_⟩ hq
  rcases hsit.shr k hk with h | h | h
  · exact .inl h
  · exact h.elim
  · exact .inr ⟨h, hsit.domS k hk⟩
end

/-- from what stays below the heap's end -/
theorem FnE.ofBelow {P : Program} {f : FuncId} {ps : List VP} {hs : List HP} {q : VP}
    (h : ∀ (w : World) (S F : BS) (vs : List Value), (∀ k, S k → k < w.heap.size) → Own hs F S w → All2 ps S w vs → Calls P f vs.toArray w fun e w' => ∃ v S', e = .returned v ∧ Below w.heap.size w w' ∧ (∀ k, S k → S' k) ∧ (∀ k, S' k → S k ∨ w.heap.size ≤ k ∧ k < w'.heap.size) ∧ q.p S' w' v) :
    FnE P f ps hs (γ := Unit) (fun _ => True) (fun _ => []) (fun _ => q) := by
  intro w S F vs hS hF hSF hown hall
  have := h w S F vs.toList hS hown hall
  simp only [Array.toArray_toList] at this
  refine this.mono ?_
  rintro e w' ⟨v, S', rfl, hb, hs1, hs2, hq⟩
  refine ⟨v, S', fun _ => False, (), rfl, ⟨hb.os, hb.tape, hb.output, hb.size, fun k hk _ => hb.block k hk, fun _ _ h => h, fun k hk => ?_, fun _ h => h.elim, fun _ h => h.elim, fun k hk => ?_, hs1⟩, trivial, trivial, hq⟩
  · rcases hs2 k hk with h1 | h1
    · exact Nat.lt_of_lt_of_le (hS k h1) hb.size
    · exact h1.2
  · rcases hs2 k hk with h1 | h1
    · exact .inl h1
    · exact .inr (.inr h1.1)
theorem below_grow' (w : World) (k : Nat) (os : Array Obj) : Below w.heap.size w (Go.Sort.grow (w.drewN k) os) :=
  ⟨rfl, rfl, rfl, by show w.heap.size ≤ (w.heap ++ os).size; rw [Array.size_append]; omega, fun j hj => by
    show (w.heap ++ os)[j]? = w.heap[j]?
    exact Array.getElem?_append_left hj⟩
theorem count_byte1 (s : ByteArray) (c : UInt8) : (countByte s.data.toList c : Int) = (countB s ⟨#[c]⟩ : Int) := by
  show _ = ((Lib.count s.data.toList [c] : Nat) : Int)
  rw [Lib.count_one]; rfl
/-! ### from the statement's condition -/
theorem law_callsV {P : Program} {f : FuncId} {ps : List VP} {gt gs gr : Nat} (h : FnE P f ps [varsH P gt gs gr] (γ := Unit) (fun _ => True) (fun _ => []) (fun _ => propV True)) {W : World} {vs : Array Value}
    (hv : VarsP P gt gs gr (fun k => k < W.heap.size) W) (ha : All2 ps (fun k => k < W.heap.size) W vs.toList) : Calls P f vs W fun e W' => e = .returned (.bool true) ∧ Below W.heap.size W W' := by
  refine (h W (fun k => k < W.heap.size) (fun _ => False) vs (fun _ h => h) (fun _ h => h.elim) (fun _ _ h => h.elim) ⟨fun _ => False, fun _ => False, fun _ h => h.elim, fun _ h => h.elim, hv, trivial⟩ ha).mono fun e W' ⟨v, S', F', g, he, hsit, _, _, hq⟩ => ?_
  obtain ⟨b, rfl, hb⟩ := hq
  have : b = true := hb.2 trivial
  subst this
  exact ⟨he, hsit.os, hsit.tape, hsit.output, hsit.size, fun k hk => hsit.kept k hk (fun h => h.elim)⟩
theorem iface_laid {P : Program} {W : World} {name nm : String} {d : DataW Unit} {g : Nat} {t : TypeId} {ms : Array (String × TypeId)} (hg : P.globalNamed name = some g) (hty : (P.globals[g]?).map (·.type) = some t) (ht : P.underlying t = some (.interface ms))
    (h : laidMet P [(name, .iface nm d)] W) : IfaceAt W g := by
  obtain ⟨ps, ⟨g', t', cs, fuel, p, q, hg', ht', hvar, hd, _, _⟩, _⟩ := h
  obtain rfl := Option.some.inj (hg.symm.trans hg')
  obtain rfl := Option.some.inj (hty.symm.trans ht')
  obtain ⟨f1, u, v, hcs, _, _⟩ := iface_of_trod ht hd
  refine ⟨.iface u v, ?_, .inr ⟨u, v, rfl⟩⟩
  rw [World.var?_cell hg hvar 0]
  have : cs[0]? = cs.toList[0]? := by simp
  rw [this, hcs]; rfl
theorem lt_of_cell' {W : World} {g i : Nat} {v : Value} (h : W.cell? ⟨g, i, none⟩ = some v) : g < W.heap.size := World.block_lt_of_cell? _ _ h
theorem vars_laid {P : Program} {W : World} {gt gs gr : Nat} (hg : P.globalNamed "internal/strconv.uint64pow10" = some gt) (h1 : Lib.TabIs P W "internal/strconv.uint64pow10" .u64 Lib.pow10Tab) (h2 : IfaceAt W gs) (h3 : IfaceAt W gr) :
    VarsP P gt gs gr (fun k => k < W.heap.size) W := by
  refine ⟨lt_of_cell' (h1.cell hg 0 (by decide)), ?_, ?_, hg, h1, h2, h3⟩
  · obtain ⟨ev, h, _⟩ := h2; exact lt_of_cell' h
  · obtain ⟨ev, h, _⟩ := h3; exact lt_of_cell' h
def anyV : VP := ⟨fun _ _ _ => True, fun _ _ h => h⟩
theorem splitK_len (sep : List UInt8) : ∀ (k : Nat) (s : List UInt8), ∀ x ∈ splitK sep 0 k s, x.length ≤ s.length
  | 0, s, x, hx => by simp [splitK] at hx; subst hx; exact Nat.le_refl _
  | k + 1, s, x, hx => by
    unfold splitK at hx
    split at hx
    · simp at hx; subst hx; exact Nat.le_refl _
    · rcases List.mem_cons.1 hx with rfl | hx
      · simp; omega
      · have := splitK_len sep k _ x hx
        rw [List.length_drop] at this; omega
end Go.Hl
namespace Go.Proofs.YtnjfnjgjeibaiaaDoor
open Go.Hl Go.RowKit Go.Lib Go.Shelf
set_option linter.unusedVariables false

theorem gensplit_spec {s : List UInt8} (hl : s.length < 4294967281) : FnP Tryd.prog 22 [strV s, strV [32], iV 0, iV 5] (sliceV 1 encSt (partsL s)) := by
  refine FnE.ofBelow fun w S F vs hS _ hall => ?_
  obtain ⟨h1, h2⟩ := hall
  match vs, h1, h2 with
  | [u0, u1, u2, u3], _, h2 =>
    have e0 := (h2 0 _ u0 rfl rfl).1
    have e1 := (h2 1 _ u1 rfl rfl).1
    have e2 := h2 2 _ u2 rfl rfl; simp only [exactV] at e2
    have e3 := h2 3 _ u3 rfl rfl; simp only [exactV] at e3
    subst e0; subst e1; subst e2; subst e3
    have hsz : (⟨s.toArray⟩ : ByteArray).size = s.length := by simp [ByteArray.size]
    have hc := Any.strings_genSplit_core (P := Tryd.prog) (ρ := Tryd.laySplit_ren) { Tryd.laySplit with } Tryd.laySplit.i9 ⟨s.toArray⟩ ⟨#[32]⟩ 0 5 (min 5 (s.length + 1)) w (by rw [hsz]; exact hl) (by decide) (Nat.zero_le _)
      (fun x c hx => (Any.strings_Index_one { Tryd.laySplit with } x 32 _).mono fun e w' ⟨he, hw⟩ => ⟨by rw [he, indexB, index_one], hw⟩) ((Any.strings_Count_one { Tryd.laySplit with } ⟨s.toArray⟩ 32 w).mono fun e w' ⟨he, hw⟩ => ⟨by rw [he, count_byte1], hw⟩) (by decide) (by decide) (by rw [if_neg (by decide), hsz]; omega)
    change Calls Tryd.prog 22 _ _ _ at hc
    refine hc.mono ?_
    rintro e w' ⟨rfl, rfl⟩
    have hd : (splitB ⟨#[32]⟩ 0 (min 5 (s.length + 1) - 1) ⟨s.toArray⟩).map (·.data.toList) = partsL s := by rw [splitB_data]; rfl
    have hlen : (splitB ⟨#[32]⟩ 0 (min 5 (s.length + 1) - 1) ⟨s.toArray⟩).length = (partsL s).length := by rw [← hd, List.length_map]
    have hle := splitB_length_le ⟨#[32]⟩ 0 (min 5 (s.length + 1) - 1) ⟨s.toArray⟩
    refine ⟨_, fun k => S k ∨ k = w.heap.size, rfl, (Below.refl _ _).alloc (Nat.le_refl _) _, fun k h => .inl h, fun k h => ?_, ?_⟩
    · rcases h with h | h
      · exact .inl h
      · subst h; exact .inr ⟨Nat.le_refl _, by simp⟩
    · refine ⟨some ⟨w.heap.size, 0, none⟩, min 5 (s.length + 1), by rw [hlen], by omega, by have := parts_len s; omega, fun _ => ⟨rfl, .inr rfl, fun i x hx => ?_⟩⟩
      have hx' : (splitB ⟨#[32]⟩ 0 (min 5 (s.length + 1) - 1) ⟨s.toArray⟩)[i]?.map (·.data.toList) = some x := by rw [← List.getElem?_map, hd]; exact hx
      obtain ⟨y, hy, rfl⟩ := Option.map_eq_some_iff.1 hx'
      intro j q hj
      simp only [encSt] at hj
      match j, hj with
      | 0, hj =>
        simp only [List.getElem?_cons_zero, Option.some.injEq] at hj
        subst hj
        refine ⟨.string y, ?_, by simp, ?_⟩
        · show (w.alloc _).cell? ⟨w.heap.size, 0 + i * 1 + 0, none⟩ = _
          rw [World.cell?_alloc_new]
          have hi := (List.getElem?_eq_some_iff.1 hy).1
          simp only [cellsOf, List.getElem?_toArray]
          rw [List.getElem?_append_left (by simp; omega), List.getElem?_map]
          simp [hy]
        · have := splitK_len [32] _ s _ (List.mem_of_getElem? hx)
          omega
      | j + 1, hj => simp at hj

theorem itoa_spec {v : Int} (h0 : -9223372036854775808 ≤ v) (h1 : v ≤ 9223372036854775807) : FnE Tryd.prog 19 [iV v] [varsH Tryd.prog 3 0 1] (γ := Unit) (fun _ => True) (fun _ => []) (fun _ => strV (itoa v)) := by
  refine FnE.ofBelow fun w S F vs hS hown hall => ?_
  have hv := hown.vars (i := 0) rfl
  obtain ⟨h1', h2⟩ := hall
  match vs, h1', h2 with
  | [u0], _, h2 =>
    have e0 := h2 0 _ u0 rfl rfl; simp only [exactV] at e0
    subst e0
    have hc := Any.strconv_Itoa Tryd.layItoa v h0 h1 w hv.2.2.2.2.1
    change Calls Tryd.prog 19 _ _ _ at hc
    refine hc.mono ?_
    rintro e w' ⟨rfl, k, os, rfl⟩
    refine ⟨_, S, rfl, below_grow' w k os, fun _ h => h, fun _ h => .inl h, rfl, ?_⟩
    have := itoa_len h0 h1; omega

theorem atoi_spec {l : List UInt8} : FnE Tryd.prog 16 [strV l] [varsH Tryd.prog 3 0 1] (γ := Unit) (fun _ => True) (fun _ => []) (fun _ => tupV [iV (atoiV l), anyV]) := by
  refine FnE.ofBelow fun w S F vs hS hown hall => ?_
  have hv := hown.vars (i := 0) rfl
  obtain ⟨evs, hs1, hs2⟩ := hv.2.2.2.2.2.1
  obtain ⟨evr, hr1, hr2⟩ := hv.2.2.2.2.2.2
  obtain ⟨h1', h2⟩ := hall
  match vs, h1', h2 with
  | [u0], _, h2 =>
    obtain ⟨e0, hm⟩ := h2 0 _ u0 rfl rfl
    subst e0
    have hsz : (⟨l.toArray⟩ : ByteArray).size = l.length := by simp [ByteArray.size]
    have htup : ∀ (S : BS) (w : World) (a b : Value), (iV (atoiV l)).p S w a → (tupV [iV (atoiV l), anyV]).p S w (.tuple #[a, b]) := fun S w a b h => ⟨#[a, b], rfl, rfl, fun j p v hj hv => by
      match j, hj, hv with
      | 0, hj, hv => simp at hj hv; subst hj; subst hv; exact h
      | 1, hj, hv => simp at hj; subst hj; trivial⟩
    cases h : atoiAll l with
    | ok v =>
      have hc := Any.strconv_Atoi_ok Tryd.layAtoi ⟨l.toArray⟩ (by rw [hsz]; omega) v (by simpa using h) w
      change Calls Tryd.prog 16 _ _ _ at hc
      refine hc.mono ?_
      rintro e w' ⟨rfl, hw⟩
      refine ⟨_, S, rfl, ?_, fun _ h => h, fun _ h => .inl h, htup _ _ _ _ (by unfold atoiV; rw [h]; rfl)⟩
      rcases hw with rfl | ⟨t, rfl⟩
      · exact Below.refl _ _
      · exact Lib.bytesWorld_below _ _ _
    | range =>
      have hc := Any.strconv_Atoi_range Tryd.layAtoi ⟨l.toArray⟩ (by rw [hsz]; exact hm) (by simpa using h) evr w hr1 hr2
      change Calls Tryd.prog 16 _ _ _ at hc
      refine hc.mono ?_
      rintro e w' ⟨N, rfl, -, -, hb⟩
      exact ⟨_, S, rfl, hb, fun _ h => h, fun _ h => .inl h, htup _ _ _ _ (by unfold atoiV; rw [h]; rfl)⟩
    | _ =>
      have hc := Any.strconv_Atoi_syntax Tryd.layAtoi ⟨l.toArray⟩ (by rw [hsz]; exact hm) (by simpa using h) evs w hs1 hs2
      change Calls Tryd.prog 16 _ _ _ at hc
      refine hc.mono ?_
      rintro e w' ⟨N, rfl, -, -, hb⟩
      exact ⟨_, S, rfl, hb, fun _ h => h, fun _ h => .inl h, htup _ _ _ _ (by unfold atoiV; rw [h]; rfl)⟩

theorem join_spec {xs : List (List UInt8)} (h0 : xs ≠ []) (hn : xs.length ≤ 1000) (hl : (Lib.join xs [32]).length ≤ 100000) : FnP Tryd.prog 20 [sliceV 1 encSt xs, strV [32]] (strV (Lib.join xs [32])) := by
  refine FnE.ofBelow fun w S F vs hS hown hall => ?_
  obtain ⟨h1', h2⟩ := hall
  match vs, h1', h2 with
  | [u0, u1], _, h2 =>
    obtain ⟨a, cap, e0, hcap, _, hel⟩ := h2 0 _ u0 rfl rfl
    have e1 := (h2 1 _ u1 rfl rfl).1
    subst e0; subst e1
    have hpos : 0 < xs.length := List.length_pos_iff.2 h0
    match a, hel with
    | none, hel => have : cap = 0 := hel; omega
    | some ⟨bk, o, sp⟩, hel =>
      obtain ⟨hsp, hSb, hcells⟩ := hel (by omega)
      simp only at hsp hSb hcells; subst hsp
      have hx : ∀ (j : Nat) x, (xs.map fun l => (⟨l.toArray⟩ : ByteArray))[j]? = some x → w.cell? ⟨bk, o + j, none⟩ = some (.string x) := fun j x hj => by
        rw [List.getElem?_map] at hj
        obtain ⟨l, hl, rfl⟩ := Option.map_eq_some_iff.1 hj
        obtain ⟨v, hv, hq⟩ := hcells j l hl 0 _ rfl
        have hq := hq.1
        subst hq
        simpa using hv
      have hmap : (xs.map fun l => (⟨l.toArray⟩ : ByteArray)).map (·.data.toList) = xs := by simp [Function.comp_def]
      have hc := Any.strings_Join Tryd.layJoin Tryd.layExtra bk o cap (xs.map fun l => (⟨l.toArray⟩ : ByteArray)) ⟨#[32]⟩ w hx (hS _ hSb) (by simp; omega) (by simpa using hcap) (by rw [hmap]; exact Nat.le_trans hl (by decide))
      rw [hmap, List.length_map] at hc
      change Calls Tryd.prog 20 _ _ _ at hc
      refine hc.mono ?_
      rintro e w' ⟨rfl, hb⟩
      exact ⟨_, S, rfl, hb, fun _ h => h, fun _ h => .inl h, rfl, Nat.le_trans hl (by decide)⟩
end Go.Proofs.YtnjfnjgjeibaiaaDoor
