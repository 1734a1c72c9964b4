/-
  What the statement's proof leans on, several texts in one (packed by a program).
-/
import Derived.Test.YtmmdlhjcmlekfaaGreatDoorPNH
import Derived.Test.YtmmdlhjcmlekfaaGreatDoorChecked
set_option linter.all false
set_option maxRecDepth 1000000
set_option maxHeartbeats 4000000
section
namespace Go.Proofs
open Go.Hl
theorem Tryz.cb5 : callB Tryz.prog 5 = true := by kernel_rfl
theorem Tryz.cb6 : callB Tryz.prog 6 = true := by kernel_rfl
theorem Tryz.cb7 : callB Tryz.prog 7 = true := by kernel_rfl
theorem Tryz.cb8 : callB Tryz.prog 8 = true := by kernel_rfl
theorem Tryz.cb9 : callB Tryz.prog 9 = true := by kernel_rfl
theorem Tryz.cb11 : callB Tryz.prog 11 = true := by kernel_rfl
theorem Tryz.cb13 : callB Tryz.prog 13 = true := by kernel_rfl
theorem Tryz.cb14 : callB Tryz.prog 14 = true := by kernel_rfl
theorem Tryz.cb15 : callB Tryz.prog 15 = true := by kernel_rfl
theorem Tryz.cb16 : callB Tryz.prog 16 = true := by kernel_rfl
theorem Tryz.cb17 : callB Tryz.prog 17 = true := by kernel_rfl
theorem Tryz.cb18 : callB Tryz.prog 18 = true := by kernel_rfl
theorem Tryz.cb19 : callB Tryz.prog 19 = true := by kernel_rfl
theorem Tryz.cb20 : callB Tryz.prog 20 = true := by kernel_rfl
theorem Tryz.cb21 : callB Tryz.prog 21 = true := by kernel_rfl
theorem Tryz.cb22 : callB Tryz.prog 22 = true := by kernel_rfl
theorem Tryz.cb24 : callB Tryz.prog 24 = true := by kernel_rfl
theorem Tryz.cb40 : callB Tryz.prog 40 = true := by kernel_rfl
theorem Tryz.cb41 : callB Tryz.prog 41 = true := by kernel_rfl
theorem Tryz.cb42 : callB Tryz.prog 42 = true := by kernel_rfl
theorem Tryz.cb43 : callB Tryz.prog 43 = true := by kernel_rfl
theorem Tryz.cb44 : callB Tryz.prog 44 = true := by kernel_rfl
theorem Tryz.cb45 : callB Tryz.prog 45 = true := by kernel_rfl
theorem Tryz.cb46 : callB Tryz.prog 46 = true := by kernel_rfl
theorem Tryz.cb47 : callB Tryz.prog 47 = true := by kernel_rfl
theorem Tryz.cb48 : callB Tryz.prog 48 = true := by kernel_rfl
theorem Tryz.cb49 : callB Tryz.prog 49 = true := by kernel_rfl
theorem Tryz.cb50 : callB Tryz.prog 50 = true := by kernel_rfl
theorem Tryz.cb51 : callB Tryz.prog 51 = true := by kernel_rfl
theorem Tryz.cb52 : callB Tryz.prog 52 = true := by kernel_rfl
theorem Tryz.cb53 : callB Tryz.prog 53 = true := by kernel_rfl
theorem Tryz.cb54 : callB Tryz.prog 54 = true := by kernel_rfl
theorem Tryz.cb55 : callB Tryz.prog 55 = true := by kernel_rfl
theorem Tryz.cb56 : callB Tryz.prog 56 = true := by kernel_rfl
theorem Tryz.cb57 : callB Tryz.prog 57 = true := by kernel_rfl
theorem Tryz.cb58 : callB Tryz.prog 58 = true := by kernel_rfl
theorem Tryz.cb60 : callB Tryz.prog 60 = true := by kernel_rfl
theorem Tryz.cb61 : callB Tryz.prog 61 = true := by kernel_rfl
theorem Tryz.cb62 : callB Tryz.prog 62 = true := by kernel_rfl
theorem Tryz.cb63 : callB Tryz.prog 63 = true := by kernel_rfl
theorem Tryz.cb64 : callB Tryz.prog 64 = true := by kernel_rfl
theorem Tryz.cb65 : callB Tryz.prog 65 = true := by kernel_rfl
theorem Tryz.cb66 : callB Tryz.prog 66 = true := by kernel_rfl
theorem Tryz.cb67 : callB Tryz.prog 67 = true := by kernel_rfl
theorem Tryz.cb68 : callB Tryz.prog 68 = true := by kernel_rfl
theorem Tryz.cb69 : callB Tryz.prog 69 = true := by kernel_rfl
theorem Tryz.cb70 : callB Tryz.prog 70 = true := by kernel_rfl
theorem Tryz.cb71 : callB Tryz.prog 71 = true := by kernel_rfl
theorem Tryz.cb72 : callB Tryz.prog 72 = true := by kernel_rfl
theorem Tryz.cb73 : callB Tryz.prog 73 = true := by kernel_rfl
theorem Tryz.cb74 : callB Tryz.prog 74 = true := by kernel_rfl
theorem Tryz.cb75 : callB Tryz.prog 75 = true := by kernel_rfl
theorem Tryz.cb76 : callB Tryz.prog 76 = true := by kernel_rfl
theorem Tryz.cb77 : callB Tryz.prog 77 = true := by kernel_rfl
theorem Tryz.cb78 : callB Tryz.prog 78 = true := by kernel_rfl
theorem Tryz.cb79 : callB Tryz.prog 79 = true := by kernel_rfl
theorem Tryz.cb80 : callB Tryz.prog 80 = true := by kernel_rfl
theorem Tryz.cb81 : callB Tryz.prog 81 = true := by kernel_rfl
theorem Tryz.cb82 : callB Tryz.prog 82 = true := by kernel_rfl
theorem Tryz.cb92 : callB Tryz.prog 92 = true := by kernel_rfl
theorem Tryz.cb93 : callB Tryz.prog 93 = true := by kernel_rfl
theorem Tryz.cb94 : callB Tryz.prog 94 = true := by kernel_rfl
theorem Tryz.cb95 : callB Tryz.prog 95 = true := by kernel_rfl
theorem Tryz.cb96 : callB Tryz.prog 96 = true := by kernel_rfl
theorem Tryz.cb97 : callB Tryz.prog 97 = true := by kernel_rfl
theorem Tryz.cb98 : callB Tryz.prog 98 = true := by kernel_rfl
theorem Tryz.cb99 : callB Tryz.prog 99 = true := by kernel_rfl
theorem Tryz.cb100 : callB Tryz.prog 100 = true := by kernel_rfl
theorem Tryz.cb101 : callB Tryz.prog 101 = true := by kernel_rfl
theorem Tryz.cb102 : callB Tryz.prog 102 = true := by kernel_rfl
theorem Tryz.cb103 : callB Tryz.prog 103 = true := by kernel_rfl
theorem Tryz.cb104 : callB Tryz.prog 104 = true := by kernel_rfl
theorem Tryz.cb105 : callB Tryz.prog 105 = true := by kernel_rfl
theorem Tryz.cb106 : callB Tryz.prog 106 = true := by kernel_rfl
theorem Tryz.cb107 : callB Tryz.prog 107 = true := by kernel_rfl
theorem Tryz.cb108 : callB Tryz.prog 108 = true := by kernel_rfl
theorem Tryz.cb109 : callB Tryz.prog 109 = true := by kernel_rfl
theorem Tryz.cb110 : callB Tryz.prog 110 = true := by kernel_rfl
theorem Tryz.cb111 : callB Tryz.prog 111 = true := by kernel_rfl
theorem Tryz.cb112 : callB Tryz.prog 112 = true := by kernel_rfl
theorem Tryz.cb113 : callB Tryz.prog 113 = true := by kernel_rfl
theorem Tryz.cb114 : callB Tryz.prog 114 = true := by kernel_rfl
theorem Tryz.cb115 : callB Tryz.prog 115 = true := by kernel_rfl
theorem Tryz.cb116 : callB Tryz.prog 116 = true := by kernel_rfl
theorem Tryz.cb117 : callB Tryz.prog 117 = true := by kernel_rfl
theorem Tryz.cb118 : callB Tryz.prog 118 = true := by kernel_rfl
theorem Tryz.cb125 : callB Tryz.prog 125 = true := by kernel_rfl
theorem Tryz.cb126 : callB Tryz.prog 126 = true := by kernel_rfl
theorem Tryz.cb127 : callB Tryz.prog 127 = true := by kernel_rfl
theorem Tryz.cb128 : callB Tryz.prog 128 = true := by kernel_rfl
theorem Tryz.cb129 : callB Tryz.prog 129 = true := by kernel_rfl
theorem Tryz.cb130 : callB Tryz.prog 130 = true := by kernel_rfl
theorem Tryz.cb131 : callB Tryz.prog 131 = true := by kernel_rfl
theorem Tryz.cb132 : callB Tryz.prog 132 = true := by kernel_rfl
theorem Tryz.cb133 : callB Tryz.prog 133 = true := by kernel_rfl
theorem Tryz.cb134 : callB Tryz.prog 134 = true := by kernel_rfl
theorem Tryz.cb135 : callB Tryz.prog 135 = true := by kernel_rfl
theorem Tryz.cb136 : callB Tryz.prog 136 = true := by kernel_rfl
theorem Tryz.cb137 : callB Tryz.prog 137 = true := by kernel_rfl
theorem Tryz.cb138 : callB Tryz.prog 138 = true := by kernel_rfl
theorem Tryz.cb139 : callB Tryz.prog 139 = true := by kernel_rfl
theorem Tryz.cb140 : callB Tryz.prog 140 = true := by kernel_rfl
theorem Tryz.cb141 : callB Tryz.prog 141 = true := by kernel_rfl
theorem Tryz.cb142 : callB Tryz.prog 142 = true := by kernel_rfl
theorem Tryz.cb143 : callB Tryz.prog 143 = true := by kernel_rfl
theorem Tryz.cb144 : callB Tryz.prog 144 = true := by kernel_rfl
theorem Tryz.cb145 : callB Tryz.prog 145 = true := by kernel_rfl
theorem Tryz.cb146 : callB Tryz.prog 146 = true := by kernel_rfl
theorem Tryz.cb147 : callB Tryz.prog 147 = true := by kernel_rfl
theorem Tryz.cb148 : callB Tryz.prog 148 = true := by kernel_rfl
theorem Tryz.cb149 : callB Tryz.prog 149 = true := by kernel_rfl
theorem Tryz.cb150 : callB Tryz.prog 150 = true := by kernel_rfl
theorem Tryz.cb151 : callB Tryz.prog 151 = true := by kernel_rfl
theorem Tryz.cb152 : callB Tryz.prog 152 = true := by kernel_rfl
theorem Tryz.cb153 : callB Tryz.prog 153 = true := by kernel_rfl
theorem Tryz.cb154 : callB Tryz.prog 154 = true := by kernel_rfl
theorem Tryz.cb155 : callB Tryz.prog 155 = true := by kernel_rfl
theorem Tryz.cb156 : callB Tryz.prog 156 = true := by kernel_rfl
theorem Tryz.cb157 : callB Tryz.prog 157 = true := by kernel_rfl
theorem Tryz.cb158 : callB Tryz.prog 158 = true := by kernel_rfl
theorem Tryz.cb159 : callB Tryz.prog 159 = true := by kernel_rfl
theorem Tryz.cb160 : callB Tryz.prog 160 = true := by kernel_rfl
theorem Tryz.cb161 : callB Tryz.prog 161 = true := by kernel_rfl
theorem Tryz.cb163 : callB Tryz.prog 163 = true := by kernel_rfl
theorem Tryz.cb164 : callB Tryz.prog 164 = true := by kernel_rfl
theorem Tryz.cb165 : callB Tryz.prog 165 = true := by kernel_rfl
theorem Tryz.cb166 : callB Tryz.prog 166 = true := by kernel_rfl
theorem Tryz.cb167 : callB Tryz.prog 167 = true := by kernel_rfl
theorem Tryz.cb168 : callB Tryz.prog 168 = true := by kernel_rfl
theorem Tryz.cb169 : callB Tryz.prog 169 = true := by kernel_rfl
theorem Tryz.cb170 : callB Tryz.prog 170 = true := by kernel_rfl
theorem Tryz.cb171 : callB Tryz.prog 171 = true := by kernel_rfl
theorem Tryz.cb172 : callB Tryz.prog 172 = true := by kernel_rfl
theorem Tryz.cb173 : callB Tryz.prog 173 = true := by kernel_rfl
theorem Tryz.cb174 : callB Tryz.prog 174 = true := by kernel_rfl
theorem Tryz.cb175 : callB Tryz.prog 175 = true := by kernel_rfl
theorem Tryz.cb176 : callB Tryz.prog 176 = true := by kernel_rfl
theorem Tryz.cb177 : callB Tryz.prog 177 = true := by kernel_rfl
theorem Tryz.cb178 : callB Tryz.prog 178 = true := by kernel_rfl
theorem Tryz.cb179 : callB Tryz.prog 179 = true := by kernel_rfl
theorem Tryz.cb180 : callB Tryz.prog 180 = true := by kernel_rfl
theorem Tryz.cb181 : callB Tryz.prog 181 = true := by kernel_rfl
theorem Tryz.cb182 : callB Tryz.prog 182 = true := by kernel_rfl
theorem Tryz.cb183 : callB Tryz.prog 183 = true := by kernel_rfl
theorem Tryz.cb184 : callB Tryz.prog 184 = true := by kernel_rfl
theorem Tryz.cb185 : callB Tryz.prog 185 = true := by kernel_rfl
theorem Tryz.cb186 : callB Tryz.prog 186 = true := by kernel_rfl
theorem Tryz.cb187 : callB Tryz.prog 187 = true := by kernel_rfl
theorem Tryz.cb188 : callB Tryz.prog 188 = true := by kernel_rfl
theorem Tryz.cb189 : callB Tryz.prog 189 = true := by kernel_rfl
theorem Tryz.cb190 : callB Tryz.prog 190 = true := by kernel_rfl
theorem Tryz.cb191 : callB Tryz.prog 191 = true := by kernel_rfl
theorem Tryz.cb192 : callB Tryz.prog 192 = true := by kernel_rfl
theorem Tryz.cb193 : callB Tryz.prog 193 = true := by kernel_rfl
theorem Tryz.cb194 : callB Tryz.prog 194 = true := by kernel_rfl
theorem Tryz.cb195 : callB Tryz.prog 195 = true := by kernel_rfl
theorem Tryz.cb196 : callB Tryz.prog 196 = true := by kernel_rfl
theorem Tryz.cb197 : callB Tryz.prog 197 = true := by kernel_rfl
theorem Tryz.cb198 : callB Tryz.prog 198 = true := by kernel_rfl
theorem Tryz.cb199 : callB Tryz.prog 199 = true := by kernel_rfl
theorem Tryz.cb200 : callB Tryz.prog 200 = true := by kernel_rfl
theorem Tryz.cb201 : callB Tryz.prog 201 = true := by kernel_rfl
theorem Tryz.cb202 : callB Tryz.prog 202 = true := by kernel_rfl
theorem Tryz.cb203 : callB Tryz.prog 203 = true := by kernel_rfl
theorem Tryz.cb204 : callB Tryz.prog 204 = true := by kernel_rfl
theorem Tryz.cb205 : callB Tryz.prog 205 = true := by kernel_rfl
theorem Tryz.cb206 : callB Tryz.prog 206 = true := by kernel_rfl
theorem Tryz.cb207 : callB Tryz.prog 207 = true := by kernel_rfl
theorem Tryz.cb208 : callB Tryz.prog 208 = true := by kernel_rfl
theorem Tryz.cb209 : callB Tryz.prog 209 = true := by kernel_rfl
theorem Tryz.cb210 : callB Tryz.prog 210 = true := by kernel_rfl
theorem Tryz.cb211 : callB Tryz.prog 211 = true := by kernel_rfl
theorem Tryz.cb212 : callB Tryz.prog 212 = true := by kernel_rfl
theorem Tryz.cb213 : callB Tryz.prog 213 = true := by kernel_rfl
theorem Tryz.cb214 : callB Tryz.prog 214 = true := by kernel_rfl
theorem Tryz.cb215 : callB Tryz.prog 215 = true := by kernel_rfl
theorem Tryz.cb216 : callB Tryz.prog 216 = true := by kernel_rfl
theorem Tryz.cb217 : callB Tryz.prog 217 = true := by kernel_rfl
theorem Tryz.cb218 : callB Tryz.prog 218 = true := by kernel_rfl
theorem Tryz.cb219 : callB Tryz.prog 219 = true := by kernel_rfl
theorem Tryz.cb220 : callB Tryz.prog 220 = true := by kernel_rfl
theorem Tryz.cb221 : callB Tryz.prog 221 = true := by kernel_rfl
theorem Tryz.cb222 : callB Tryz.prog 222 = true := by kernel_rfl
theorem Tryz.cb223 : callB Tryz.prog 223 = true := by kernel_rfl
theorem Tryz.cb224 : callB Tryz.prog 224 = true := by kernel_rfl
theorem Tryz.cb225 : callB Tryz.prog 225 = true := by kernel_rfl
theorem Tryz.cb226 : callB Tryz.prog 226 = true := by kernel_rfl
theorem Tryz.cb227 : callB Tryz.prog 227 = true := by kernel_rfl
theorem Tryz.cb228 : callB Tryz.prog 228 = true := by kernel_rfl
theorem Tryz.cb229 : callB Tryz.prog 229 = true := by kernel_rfl
theorem Tryz.cb230 : callB Tryz.prog 230 = true := by kernel_rfl
theorem Tryz.cb231 : callB Tryz.prog 231 = true := by kernel_rfl
theorem Tryz.cb232 : callB Tryz.prog 232 = true := by kernel_rfl
theorem Tryz.cb233 : callB Tryz.prog 233 = true := by kernel_rfl
theorem Tryz.cb234 : callB Tryz.prog 234 = true := by kernel_rfl
theorem Tryz.cb235 : callB Tryz.prog 235 = true := by kernel_rfl
theorem Tryz.cb236 : callB Tryz.prog 236 = true := by kernel_rfl
theorem Tryz.cb237 : callB Tryz.prog 237 = true := by kernel_rfl
theorem Tryz.cb238 : callB Tryz.prog 238 = true := by kernel_rfl
theorem Tryz.cb239 : callB Tryz.prog 239 = true := by kernel_rfl
theorem Tryz.cb240 : callB Tryz.prog 240 = true := by kernel_rfl
theorem Tryz.cb241 : callB Tryz.prog 241 = true := by kernel_rfl
theorem Tryz.cb242 : callB Tryz.prog 242 = true := by kernel_rfl
theorem Tryz.cb243 : callB Tryz.prog 243 = true := by kernel_rfl
theorem Tryz.cb244 : callB Tryz.prog 244 = true := by kernel_rfl
theorem Tryz.cb245 : callB Tryz.prog 245 = true := by kernel_rfl
theorem Tryz.cb246 : callB Tryz.prog 246 = true := by kernel_rfl
theorem Tryz.cb247 : callB Tryz.prog 247 = true := by kernel_rfl
theorem Tryz.cb248 : callB Tryz.prog 248 = true := by kernel_rfl
theorem Tryz.cb249 : callB Tryz.prog 249 = true := by kernel_rfl
theorem Tryz.cb250 : callB Tryz.prog 250 = true := by kernel_rfl
theorem Tryz.cb251 : callB Tryz.prog 251 = true := by kernel_rfl
theorem Tryz.cb252 : callB Tryz.prog 252 = true := by kernel_rfl
theorem Tryz.cb253 : callB Tryz.prog 253 = true := by kernel_rfl
theorem Tryz.cb254 : callB Tryz.prog 254 = true := by kernel_rfl
theorem Tryz.cb255 : callB Tryz.prog 255 = true := by kernel_rfl
theorem Tryz.cb256 : callB Tryz.prog 256 = true := by kernel_rfl
theorem Tryz.cb257 : callB Tryz.prog 257 = true := by kernel_rfl
theorem Tryz.cb258 : callB Tryz.prog 258 = true := by kernel_rfl
theorem Tryz.cb259 : callB Tryz.prog 259 = true := by kernel_rfl
theorem Tryz.cb260 : callB Tryz.prog 260 = true := by kernel_rfl
theorem Tryz.cb261 : callB Tryz.prog 261 = true := by kernel_rfl
theorem Tryz.cb262 : callB Tryz.prog 262 = true := by kernel_rfl
theorem Tryz.xt266 : extB Tryz.prog 266 Extern.BytealgIndexByte.indexByte := fun args w => Go.run_callFunc_extern Tryz.func266 (by kernel_rfl) (by kernel_rfl) (by kernel_rfl) (by kernel_rfl) args w
theorem Tryz.ag3 : aggB Tryz.prog 3 = some false := by kernel_rfl
theorem Tryz.cz3 : Tryz.prog.cellsOf 3 = 1 := by kernel_rfl
theorem Tryz.by3 : Tryz.prog.bytesOf 3 = 8 := by kernel_rfl
theorem Tryz.zb3 : zeroB Tryz.prog 3 = some [.int .i64 0] := by kernel_rfl
theorem Tryz.ag4 : aggB Tryz.prog 4 = some false := by kernel_rfl
theorem Tryz.cz4 : Tryz.prog.cellsOf 4 = 1 := by kernel_rfl
theorem Tryz.by4 : Tryz.prog.bytesOf 4 = 1 := by kernel_rfl
theorem Tryz.zb4 : zeroB Tryz.prog 4 = some [.bool false] := by kernel_rfl
theorem Tryz.ag5 : aggB Tryz.prog 5 = some false := by kernel_rfl
theorem Tryz.cz5 : Tryz.prog.cellsOf 5 = 1 := by kernel_rfl
theorem Tryz.by5 : Tryz.prog.bytesOf 5 = 1 := by kernel_rfl
theorem Tryz.zb5 : zeroB Tryz.prog 5 = some [.int .u8 0] := by kernel_rfl
theorem Tryz.ag9 : aggB Tryz.prog 9 = some false := by kernel_rfl
theorem Tryz.cz9 : Tryz.prog.cellsOf 9 = 1 := by kernel_rfl
theorem Tryz.zb9 : zeroB Tryz.prog 9 = some [.string ⟨#[]⟩] := by kernel_rfl
theorem Tryz.ag22 : aggB Tryz.prog 22 = some false := by kernel_rfl
theorem Tryz.cz22 : Tryz.prog.cellsOf 22 = 1 := by kernel_rfl
theorem Tryz.ag23 : aggB Tryz.prog 23 = some false := by kernel_rfl
theorem Tryz.cz23 : Tryz.prog.cellsOf 23 = 1 := by kernel_rfl
theorem Tryz.ag24 : aggB Tryz.prog 24 = some false := by kernel_rfl
theorem Tryz.cz24 : Tryz.prog.cellsOf 24 = 1 := by kernel_rfl
theorem Tryz.ag25 : aggB Tryz.prog 25 = some false := by kernel_rfl
theorem Tryz.cz25 : Tryz.prog.cellsOf 25 = 1 := by kernel_rfl
theorem Tryz.ag26 : aggB Tryz.prog 26 = some false := by kernel_rfl
theorem Tryz.cz26 : Tryz.prog.cellsOf 26 = 1 := by kernel_rfl
theorem Tryz.ag27 : aggB Tryz.prog 27 = some false := by kernel_rfl
theorem Tryz.cz27 : Tryz.prog.cellsOf 27 = 1 := by kernel_rfl
theorem Tryz.ag28 : aggB Tryz.prog 28 = some false := by kernel_rfl
theorem Tryz.cz28 : Tryz.prog.cellsOf 28 = 1 := by kernel_rfl
theorem Tryz.ag29 : aggB Tryz.prog 29 = some false := by kernel_rfl
theorem Tryz.cz29 : Tryz.prog.cellsOf 29 = 1 := by kernel_rfl
theorem Tryz.ag31 : aggB Tryz.prog 31 = some true := by kernel_rfl
theorem Tryz.cz31 : Tryz.prog.cellsOf 31 = 10 := by kernel_rfl
theorem Tryz.fd31_0 : fieldB Tryz.prog 31 0 = some 0 := by kernel_rfl
theorem Tryz.fd31_1 : fieldB Tryz.prog 31 1 = some 1 := by kernel_rfl
theorem Tryz.fd31_2 : fieldB Tryz.prog 31 2 = some 2 := by kernel_rfl
theorem Tryz.fd31_3 : fieldB Tryz.prog 31 3 = some 3 := by kernel_rfl
theorem Tryz.fd31_4 : fieldB Tryz.prog 31 4 = some 4 := by kernel_rfl
theorem Tryz.fd31_5 : fieldB Tryz.prog 31 5 = some 5 := by kernel_rfl
theorem Tryz.fd31_6 : fieldB Tryz.prog 31 6 = some 6 := by kernel_rfl
theorem Tryz.fd31_7 : fieldB Tryz.prog 31 7 = some 7 := by kernel_rfl
theorem Tryz.fd31_8 : fieldB Tryz.prog 31 8 = some 8 := by kernel_rfl
theorem Tryz.fd31_9 : fieldB Tryz.prog 31 9 = some 9 := by kernel_rfl
theorem Tryz.ag34 : aggB Tryz.prog 34 = some false := by kernel_rfl
theorem Tryz.ag36 : aggB Tryz.prog 36 = some false := by kernel_rfl
theorem Tryz.cz36 : Tryz.prog.cellsOf 36 = 1 := by kernel_rfl
theorem Tryz.zb36 : zeroB Tryz.prog 36 = some [.int .i64 0] := by kernel_rfl
theorem Tryz.ag40 : aggB Tryz.prog 40 = some false := by kernel_rfl
theorem Tryz.cz40 : Tryz.prog.cellsOf 40 = 1 := by kernel_rfl
theorem Tryz.ag41 : aggB Tryz.prog 41 = some false := by kernel_rfl
theorem Tryz.cz41 : Tryz.prog.cellsOf 41 = 1 := by kernel_rfl
theorem Tryz.ag43 : aggB Tryz.prog 43 = some true := by kernel_rfl
theorem Tryz.cz43 : Tryz.prog.cellsOf 43 = 10 := by kernel_rfl
theorem Tryz.zb43 : zeroB Tryz.prog 43 = some [.slice none 0 0, .slice none 0 0, .slice none 0 0, .int .i64 0, .slice none 0 0, .slice none 0 0, .slice none 0 0, .int .i64 0, .slice none 0 0, .slice none 0 0] := by kernel_rfl
theorem Tryz.pl43 : placesB Tryz.prog 43 = some [(0, 1), (1, 1), (2, 1), (3, 1), (4, 1), (5, 1), (6, 1), (7, 1), (8, 1), (9, 1)] := by kernel_rfl
theorem Tryz.fd43_0 : fieldB Tryz.prog 43 0 = some 0 := by kernel_rfl
theorem Tryz.fd43_1 : fieldB Tryz.prog 43 1 = some 1 := by kernel_rfl
theorem Tryz.fd43_2 : fieldB Tryz.prog 43 2 = some 2 := by kernel_rfl
theorem Tryz.fd43_3 : fieldB Tryz.prog 43 3 = some 3 := by kernel_rfl
theorem Tryz.fd43_4 : fieldB Tryz.prog 43 4 = some 4 := by kernel_rfl
theorem Tryz.fd43_5 : fieldB Tryz.prog 43 5 = some 5 := by kernel_rfl
theorem Tryz.fd43_6 : fieldB Tryz.prog 43 6 = some 6 := by kernel_rfl
theorem Tryz.fd43_7 : fieldB Tryz.prog 43 7 = some 7 := by kernel_rfl
theorem Tryz.fd43_8 : fieldB Tryz.prog 43 8 = some 8 := by kernel_rfl
theorem Tryz.fd43_9 : fieldB Tryz.prog 43 9 = some 9 := by kernel_rfl
theorem Tryz.ag44 : aggB Tryz.prog 44 = some false := by kernel_rfl
theorem Tryz.cz44 : Tryz.prog.cellsOf 44 = 1 := by kernel_rfl
theorem Tryz.zb44 : zeroB Tryz.prog 44 = some [.slice none 0 0] := by kernel_rfl
theorem Tryz.ag45 : aggB Tryz.prog 45 = some false := by kernel_rfl
theorem Tryz.cz45 : Tryz.prog.cellsOf 45 = 1 := by kernel_rfl
theorem Tryz.zb45 : zeroB Tryz.prog 45 = some [.slice none 0 0] := by kernel_rfl
theorem Tryz.ag47 : aggB Tryz.prog 47 = some true := by kernel_rfl
theorem Tryz.cz47 : Tryz.prog.cellsOf 47 = 2 := by kernel_rfl
theorem Tryz.zb47 : zeroB Tryz.prog 47 = some [.slice none 0 0, .slice none 0 0] := by kernel_rfl
theorem Tryz.pl47 : placesB Tryz.prog 47 = some [(0, 1), (1, 1)] := by kernel_rfl
theorem Tryz.fd47_0 : fieldB Tryz.prog 47 0 = some 0 := by kernel_rfl
theorem Tryz.fd47_1 : fieldB Tryz.prog 47 1 = some 1 := by kernel_rfl
theorem Tryz.cz49 : Tryz.prog.cellsOf 49 = 3 := by kernel_rfl
theorem Tryz.by49 : Tryz.prog.bytesOf 49 = 56 := by kernel_rfl
theorem Tryz.zb49 : zeroB Tryz.prog 49 = some [.int .i64 0, .slice none 0 0, .slice none 0 0] := by kernel_rfl
theorem Tryz.pl49 : placesB Tryz.prog 49 = some [(0, 1), (1, 2)] := by kernel_rfl
theorem Tryz.fd49_0 : fieldB Tryz.prog 49 0 = some 0 := by kernel_rfl
theorem Tryz.fd49_1 : fieldB Tryz.prog 49 1 = some 1 := by kernel_rfl
theorem Tryz.ag53 : aggB Tryz.prog 53 = some false := by kernel_rfl
theorem Tryz.cz53 : Tryz.prog.cellsOf 53 = 1 := by kernel_rfl
theorem Tryz.ag58 : aggB Tryz.prog 58 = some false := by kernel_rfl
theorem Tryz.cz58 : Tryz.prog.cellsOf 58 = 1 := by kernel_rfl
theorem Tryz.by58 : Tryz.prog.bytesOf 58 = 8 := by kernel_rfl
theorem Tryz.zb58 : zeroB Tryz.prog 58 = some [.int .u64 0] := by kernel_rfl
theorem Tryz.ag59 : aggB Tryz.prog 59 = some false := by kernel_rfl
theorem Tryz.cz59 : Tryz.prog.cellsOf 59 = 1 := by kernel_rfl
theorem Tryz.ag61 : aggB Tryz.prog 61 = some true := by kernel_rfl
theorem Tryz.cz61 : Tryz.prog.cellsOf 61 = 5 := by kernel_rfl
theorem Tryz.by61 : Tryz.prog.bytesOf 61 = 56 := by kernel_rfl
theorem Tryz.zb61 : zeroB Tryz.prog 61 = some [.int .i64 0, .int .u64 0, .int .u64 0, .int .i64 0, .slice none 0 0] := by kernel_rfl
theorem Tryz.pl61 : placesB Tryz.prog 61 = some [(0, 1), (1, 1), (2, 1), (3, 1), (4, 1)] := by kernel_rfl
theorem Tryz.fd61_0 : fieldB Tryz.prog 61 0 = some 0 := by kernel_rfl
theorem Tryz.fd61_1 : fieldB Tryz.prog 61 1 = some 1 := by kernel_rfl
theorem Tryz.fd61_2 : fieldB Tryz.prog 61 2 = some 2 := by kernel_rfl
theorem Tryz.fd61_3 : fieldB Tryz.prog 61 3 = some 3 := by kernel_rfl
theorem Tryz.fd61_4 : fieldB Tryz.prog 61 4 = some 4 := by kernel_rfl
theorem Tryz.ag64 : aggB Tryz.prog 64 = some false := by kernel_rfl
theorem Tryz.cz64 : Tryz.prog.cellsOf 64 = 1 := by kernel_rfl
theorem Tryz.by64 : Tryz.prog.bytesOf 64 = 24 := by kernel_rfl
theorem Tryz.zb64 : zeroB Tryz.prog 64 = some [.slice none 0 0] := by kernel_rfl
theorem Tryz.ag66 : aggB Tryz.prog 66 = some true := by kernel_rfl
theorem Tryz.cz66 : Tryz.prog.cellsOf 66 = 2 := by kernel_rfl
theorem Tryz.zb66 : zeroB Tryz.prog 66 = some [.slice none 0 0, .slice none 0 0] := by kernel_rfl
theorem Tryz.fd66_0 : fieldB Tryz.prog 66 0 = some 0 := by kernel_rfl
theorem Tryz.fd66_1 : fieldB Tryz.prog 66 1 = some 1 := by kernel_rfl
theorem Tryz.ag68 : aggB Tryz.prog 68 = some true := by kernel_rfl
theorem Tryz.cz68 : Tryz.prog.cellsOf 68 = 2 := by kernel_rfl
theorem Tryz.by68 : Tryz.prog.bytesOf 68 = 48 := by kernel_rfl
theorem Tryz.zb68 : zeroB Tryz.prog 68 = some [.slice none 0 0, .slice none 0 0] := by kernel_rfl
theorem Tryz.pl68 : placesB Tryz.prog 68 = some [(0, 1), (1, 1)] := by kernel_rfl
theorem Tryz.fd68_0 : fieldB Tryz.prog 68 0 = some 0 := by kernel_rfl
theorem Tryz.fd68_1 : fieldB Tryz.prog 68 1 = some 1 := by kernel_rfl
theorem Tryz.ag69 : aggB Tryz.prog 69 = some false := by kernel_rfl
theorem Tryz.cz69 : Tryz.prog.cellsOf 69 = 1 := by kernel_rfl
theorem Tryz.ag71 : aggB Tryz.prog 71 = some true := by kernel_rfl
theorem Tryz.cz71 : Tryz.prog.cellsOf 71 = 2 := by kernel_rfl
theorem Tryz.fd71_0 : fieldB Tryz.prog 71 0 = some 0 := by kernel_rfl
theorem Tryz.fd71_1 : fieldB Tryz.prog 71 1 = some 1 := by kernel_rfl
theorem Tryz.cz73 : Tryz.prog.cellsOf 73 = 3 := by kernel_rfl
theorem Tryz.fd73_0 : fieldB Tryz.prog 73 0 = some 0 := by kernel_rfl
theorem Tryz.fd73_1 : fieldB Tryz.prog 73 1 = some 1 := by kernel_rfl
theorem Tryz.ag79 : aggB Tryz.prog 79 = some true := by kernel_rfl
theorem Tryz.cz79 : Tryz.prog.cellsOf 79 = 3 := by kernel_rfl
theorem Tryz.zb79 : zeroB Tryz.prog 79 = some [.int .i64 0, .int .i64 0, .slice none 0 0] := by kernel_rfl
theorem Tryz.pl79 : placesB Tryz.prog 79 = some [(0, 1), (1, 1), (2, 1)] := by kernel_rfl
theorem Tryz.fd79_0 : fieldB Tryz.prog 79 0 = some 0 := by kernel_rfl
theorem Tryz.fd79_1 : fieldB Tryz.prog 79 1 = some 1 := by kernel_rfl
theorem Tryz.fd79_2 : fieldB Tryz.prog 79 2 = some 2 := by kernel_rfl
theorem Tryz.ag82 : aggB Tryz.prog 82 = some true := by kernel_rfl
theorem Tryz.cz82 : Tryz.prog.cellsOf 82 = 4 := by kernel_rfl
theorem Tryz.by82 : Tryz.prog.bytesOf 82 = 40 := by kernel_rfl
theorem Tryz.zb82 : zeroB Tryz.prog 82 = some [.string ⟨#[]⟩, .int .i64 0, .int .i64 0, .int .i64 0] := by kernel_rfl
theorem Tryz.pl82 : placesB Tryz.prog 82 = some [(0, 1), (1, 1), (2, 1), (3, 1)] := by kernel_rfl
theorem Tryz.ag90 : aggB Tryz.prog 90 = some true := by kernel_rfl
theorem Tryz.cz90 : Tryz.prog.cellsOf 90 = 2 := by kernel_rfl
theorem Tryz.zb90 : zeroB Tryz.prog 90 = some [.int .u64 0, .slice none 0 0] := by kernel_rfl
theorem Tryz.fd90_0 : fieldB Tryz.prog 90 0 = some 0 := by kernel_rfl
theorem Tryz.fd90_1 : fieldB Tryz.prog 90 1 = some 1 := by kernel_rfl
theorem Tryz.ag95 : aggB Tryz.prog 95 = some true := by kernel_rfl
theorem Tryz.cz95 : Tryz.prog.cellsOf 95 = 3 := by kernel_rfl
theorem Tryz.zb95 : zeroB Tryz.prog 95 = some [.int .i64 0, .int .u64 0, .slice none 0 0] := by kernel_rfl
theorem Tryz.fd95_0 : fieldB Tryz.prog 95 0 = some 0 := by kernel_rfl
theorem Tryz.fd95_1 : fieldB Tryz.prog 95 1 = some 1 := by kernel_rfl
theorem Tryz.fd95_2 : fieldB Tryz.prog 95 2 = some 2 := by kernel_rfl
theorem Tryz.ag102 : aggB Tryz.prog 102 = some true := by kernel_rfl
theorem Tryz.cz102 : Tryz.prog.cellsOf 102 = 3 := by kernel_rfl
theorem Tryz.zb102 : zeroB Tryz.prog 102 = some [.string ⟨#[]⟩, .string ⟨#[]⟩, .int .i64 0] := by kernel_rfl
theorem Tryz.fd102_0 : fieldB Tryz.prog 102 0 = some 0 := by kernel_rfl
theorem Tryz.fd102_1 : fieldB Tryz.prog 102 1 = some 1 := by kernel_rfl
theorem Tryz.fd102_2 : fieldB Tryz.prog 102 2 = some 2 := by kernel_rfl
theorem Tryz.ag105 : aggB Tryz.prog 105 = some true := by kernel_rfl
theorem Tryz.cz105 : Tryz.prog.cellsOf 105 = 3 := by kernel_rfl
theorem Tryz.zb105 : zeroB Tryz.prog 105 = some [.int .i64 0, .int .i64 0, .bool false] := by kernel_rfl
theorem Tryz.fd105_0 : fieldB Tryz.prog 105 0 = some 0 := by kernel_rfl
theorem Tryz.fd105_1 : fieldB Tryz.prog 105 1 = some 1 := by kernel_rfl
theorem Tryz.fd105_2 : fieldB Tryz.prog 105 2 = some 2 := by kernel_rfl
theorem Tryz.ag107 : aggB Tryz.prog 107 = some false := by kernel_rfl
theorem Tryz.cz107 : Tryz.prog.cellsOf 107 = 1 := by kernel_rfl
theorem Tryz.by107 : Tryz.prog.bytesOf 107 = 1 := by kernel_rfl
theorem Tryz.zb107 : zeroB Tryz.prog 107 = some [.int .u8 0] := by kernel_rfl
theorem Tryz.ag109 : aggB Tryz.prog 109 = some true := by kernel_rfl
theorem Tryz.cz109 : Tryz.prog.cellsOf 109 = 3 := by kernel_rfl
theorem Tryz.zb109 : zeroB Tryz.prog 109 = some [.int .u8 0, .bool false, .int .u64 0] := by kernel_rfl
theorem Tryz.fd109_0 : fieldB Tryz.prog 109 0 = some 0 := by kernel_rfl
theorem Tryz.fd109_1 : fieldB Tryz.prog 109 1 = some 1 := by kernel_rfl
theorem Tryz.fd109_2 : fieldB Tryz.prog 109 2 = some 2 := by kernel_rfl
theorem Tryz.ag112 : aggB Tryz.prog 112 = some true := by kernel_rfl
theorem Tryz.cz112 : Tryz.prog.cellsOf 112 = 3 := by kernel_rfl
theorem Tryz.zb112 : zeroB Tryz.prog 112 = some [.string ⟨#[]⟩, .int .i64 0, .int .i64 0] := by kernel_rfl
theorem Tryz.fd112_0 : fieldB Tryz.prog 112 0 = some 0 := by kernel_rfl
theorem Tryz.fd112_1 : fieldB Tryz.prog 112 1 = some 1 := by kernel_rfl
theorem Tryz.fd112_2 : fieldB Tryz.prog 112 2 = some 2 := by kernel_rfl
theorem Tryz.ag130 : aggB Tryz.prog 130 = some false := by kernel_rfl
theorem Tryz.cz130 : Tryz.prog.cellsOf 130 = 1 := by kernel_rfl
theorem Tryz.ag131 : aggB Tryz.prog 131 = some false := by kernel_rfl
theorem Tryz.cz131 : Tryz.prog.cellsOf 131 = 1 := by kernel_rfl
theorem Tryz.ag132 : aggB Tryz.prog 132 = some true := by kernel_rfl
theorem Tryz.cz132 : Tryz.prog.cellsOf 132 = 2 := by kernel_rfl
theorem Tryz.by132 : Tryz.prog.bytesOf 132 = 48 := by kernel_rfl
theorem Tryz.zb132 : zeroB Tryz.prog 132 = some [.slice none 0 0, .slice none 0 0] := by kernel_rfl
theorem Tryz.pl132 : placesB Tryz.prog 132 = some [(0, 1), (1, 1)] := by kernel_rfl
theorem Tryz.fd132_0 : fieldB Tryz.prog 132 0 = some 0 := by kernel_rfl
theorem Tryz.fd132_1 : fieldB Tryz.prog 132 1 = some 1 := by kernel_rfl
theorem Tryz.ag134 : aggB Tryz.prog 134 = some true := by kernel_rfl
theorem Tryz.cz134 : Tryz.prog.cellsOf 134 = 9 := by kernel_rfl
theorem Tryz.zb134 : zeroB Tryz.prog 134 = some [.slice none 0 0, .slice none 0 0, .slice none 0 0, .slice none 0 0, .slice none 0 0, .bool false, .slice none 0 0, .slice none 0 0, .slice none 0 0] := by kernel_rfl
theorem Tryz.pl134 : placesB Tryz.prog 134 = some [(0, 1), (1, 1), (2, 1), (3, 1), (4, 1), (5, 1), (6, 2), (8, 1)] := by kernel_rfl
theorem Tryz.fd134_0 : fieldB Tryz.prog 134 0 = some 0 := by kernel_rfl
theorem Tryz.fd134_1 : fieldB Tryz.prog 134 1 = some 1 := by kernel_rfl
theorem Tryz.fd134_2 : fieldB Tryz.prog 134 2 = some 2 := by kernel_rfl
theorem Tryz.fd134_3 : fieldB Tryz.prog 134 3 = some 3 := by kernel_rfl
theorem Tryz.fd134_4 : fieldB Tryz.prog 134 4 = some 4 := by kernel_rfl
theorem Tryz.fd134_5 : fieldB Tryz.prog 134 5 = some 5 := by kernel_rfl
theorem Tryz.fd134_6 : fieldB Tryz.prog 134 6 = some 6 := by kernel_rfl
theorem Tryz.fd134_7 : fieldB Tryz.prog 134 7 = some 8 := by kernel_rfl
theorem Tryz.ag150 : aggB Tryz.prog 150 = some true := by kernel_rfl
theorem Tryz.cz150 : Tryz.prog.cellsOf 150 = 5 := by kernel_rfl
theorem Tryz.zb150 : zeroB Tryz.prog 150 = some [.int .i64 0, .int .u64 0, .int .u64 0, .int .i64 0, .slice none 0 0] := by kernel_rfl
theorem Tryz.fd150_0 : fieldB Tryz.prog 150 0 = some 0 := by kernel_rfl
theorem Tryz.fd150_1 : fieldB Tryz.prog 150 1 = some 1 := by kernel_rfl
theorem Tryz.fd150_2 : fieldB Tryz.prog 150 2 = some 2 := by kernel_rfl
theorem Tryz.fd150_3 : fieldB Tryz.prog 150 3 = some 3 := by kernel_rfl
theorem Tryz.fd150_4 : fieldB Tryz.prog 150 4 = some 4 := by kernel_rfl
theorem Tryz.ag151 : aggB Tryz.prog 151 = some false := by kernel_rfl
theorem Tryz.cz151 : Tryz.prog.cellsOf 151 = 1 := by kernel_rfl
theorem Tryz.ag152 : aggB Tryz.prog 152 = some true := by kernel_rfl
theorem Tryz.cz152 : Tryz.prog.cellsOf 152 = 6 := by kernel_rfl
theorem Tryz.zb152 : zeroB Tryz.prog 152 = some [.nilFunc, .nilFunc, .nilFunc, .nilFunc, .nilFunc, .nilFunc] := by kernel_rfl
theorem Tryz.ar152 : arrB Tryz.prog 152 = some (6, 1) := by kernel_rfl
theorem Tryz.ag193 : aggB Tryz.prog 193 = some true := by kernel_rfl
theorem Tryz.cz193 : Tryz.prog.cellsOf 193 = 3 := by kernel_rfl
theorem Tryz.zb193 : zeroB Tryz.prog 193 = some [.slice none 0 0, .bool false, .int .i64 0] := by kernel_rfl
theorem Tryz.pl193 : placesB Tryz.prog 193 = some [(0, 1), (1, 1), (2, 1)] := by kernel_rfl
theorem Tryz.fd193_0 : fieldB Tryz.prog 193 0 = some 0 := by kernel_rfl
theorem Tryz.fd193_1 : fieldB Tryz.prog 193 1 = some 1 := by kernel_rfl
theorem Tryz.fd193_2 : fieldB Tryz.prog 193 2 = some 2 := by kernel_rfl
theorem Tryz.ag198 : aggB Tryz.prog 198 = some false := by kernel_rfl
theorem Tryz.ag200 : aggB Tryz.prog 200 = some true := by kernel_rfl
theorem Tryz.cz200 : Tryz.prog.cellsOf 200 = 2 := by kernel_rfl
theorem Tryz.zb200 : zeroB Tryz.prog 200 = some [.string ⟨#[]⟩, .nilFunc] := by kernel_rfl
theorem Tryz.pl200 : placesB Tryz.prog 200 = some [(0, 1), (1, 1)] := by kernel_rfl
theorem Tryz.fd200_0 : fieldB Tryz.prog 200 0 = some 0 := by kernel_rfl
theorem Tryz.fd200_1 : fieldB Tryz.prog 200 1 = some 1 := by kernel_rfl
theorem Tryz.zb201 : zeroB Tryz.prog 201 = some [.string ⟨#[]⟩, .nilFunc, .string ⟨#[]⟩, .nilFunc, .string ⟨#[]⟩, .nilFunc, .string ⟨#[]⟩, .nilFunc, .string ⟨#[]⟩, .nilFunc, .string ⟨#[]⟩, .nilFunc, .string ⟨#[]⟩, .nilFunc, .string ⟨#[]⟩, .nilFunc, .string ⟨#[]⟩, .nilFunc, .string ⟨#[]⟩, .nilFunc] := by kernel_rfl
theorem Tryz.ar201 : arrB Tryz.prog 201 = some (10, 2) := by kernel_rfl
theorem Tryz.zb214 : zeroB Tryz.prog 214 = some [.pointer none, .slice none 0 0, .slice none 0 0, .slice none 0 0] := by kernel_rfl
theorem Tryz.pl214 : placesB Tryz.prog 214 = some [(0, 1), (1, 1), (2, 2)] := by kernel_rfl
theorem Tryz.fd214_0 : fieldB Tryz.prog 214 0 = some 0 := by kernel_rfl
theorem Tryz.fd214_1 : fieldB Tryz.prog 214 1 = some 1 := by kernel_rfl
theorem Tryz.fd214_2 : fieldB Tryz.prog 214 2 = some 2 := by kernel_rfl
theorem Tryz.ag216 : aggB Tryz.prog 216 = some true := by kernel_rfl
theorem Tryz.cz216 : Tryz.prog.cellsOf 216 = 5 := by kernel_rfl
theorem Tryz.by216 : Tryz.prog.bytesOf 216 = 48 := by kernel_rfl
theorem Tryz.zb216 : zeroB Tryz.prog 216 = some [.bool false, .bool false, .slice none 0 0, .int .i64 0, .bool false] := by kernel_rfl
theorem Tryz.pl216 : placesB Tryz.prog 216 = some [(0, 1), (1, 1), (2, 1), (3, 1), (4, 1)] := by kernel_rfl
theorem Tryz.fd216_0 : fieldB Tryz.prog 216 0 = some 0 := by kernel_rfl
theorem Tryz.fd216_1 : fieldB Tryz.prog 216 1 = some 1 := by kernel_rfl
theorem Tryz.fd216_2 : fieldB Tryz.prog 216 2 = some 2 := by kernel_rfl
theorem Tryz.fd216_3 : fieldB Tryz.prog 216 3 = some 3 := by kernel_rfl
theorem Tryz.fd216_4 : fieldB Tryz.prog 216 4 = some 4 := by kernel_rfl
theorem Tryz.ag217 : aggB Tryz.prog 217 = some false := by kernel_rfl
theorem Tryz.cz217 : Tryz.prog.cellsOf 217 = 1 := by kernel_rfl
theorem Tryz.zb219 : zeroB Tryz.prog 219 = some [.pointer none, .slice none 0 0, .slice none 0 0, .slice none 0 0, .slice none 0 0, .slice none 0 0] := by kernel_rfl
theorem Tryz.pl219 : placesB Tryz.prog 219 = some [(0, 4), (4, 1), (5, 1)] := by kernel_rfl
theorem Tryz.fd219_0 : fieldB Tryz.prog 219 0 = some 0 := by kernel_rfl
theorem Tryz.fd219_1 : fieldB Tryz.prog 219 1 = some 4 := by kernel_rfl
theorem Tryz.fd219_2 : fieldB Tryz.prog 219 2 = some 5 := by kernel_rfl
theorem Tryz.ag237 : aggB Tryz.prog 237 = some true := by kernel_rfl
theorem Tryz.cz237 : Tryz.prog.cellsOf 237 = 3 := by kernel_rfl
theorem Tryz.by237 : Tryz.prog.bytesOf 237 = 24 := by kernel_rfl
theorem Tryz.zb237 : zeroB Tryz.prog 237 = some [.int .i64 0, .int .i64 0, .int .i64 0] := by kernel_rfl
theorem Tryz.pl237 : placesB Tryz.prog 237 = some [(0, 1), (1, 1), (2, 1)] := by kernel_rfl
theorem Tryz.fd237_1 : fieldB Tryz.prog 237 1 = some 1 := by kernel_rfl
theorem Tryz.fd237_2 : fieldB Tryz.prog 237 2 = some 2 := by kernel_rfl
theorem Tryz.ag248 : aggB Tryz.prog 248 = some true := by kernel_rfl
theorem Tryz.cz248 : Tryz.prog.cellsOf 248 = 4 := by kernel_rfl
theorem Tryz.zb248 : zeroB Tryz.prog 248 = some [.int .i64 0, .int .i64 0, .int .i64 0, .int .i64 0] := by kernel_rfl
theorem Tryz.ar248 : arrB Tryz.prog 248 = some (4, 1) := by kernel_rfl
theorem Tryz.ag256 : aggB Tryz.prog 256 = some false := by kernel_rfl
theorem Tryz.cz256 : Tryz.prog.cellsOf 256 = 1 := by kernel_rfl
theorem Tryz.ag263 : aggB Tryz.prog 263 = some true := by kernel_rfl
theorem Tryz.cz263 : Tryz.prog.cellsOf 263 = 2 := by kernel_rfl
theorem Tryz.by263 : Tryz.prog.bytesOf 263 = 16 := by kernel_rfl
theorem Tryz.zb263 : zeroB Tryz.prog 263 = some [.int .i64 0, .int .u8 0] := by kernel_rfl
theorem Tryz.pl263 : placesB Tryz.prog 263 = some [(0, 1), (1, 1)] := by kernel_rfl
theorem Tryz.fd263_0 : fieldB Tryz.prog 263 0 = some 0 := by kernel_rfl
theorem Tryz.fd263_1 : fieldB Tryz.prog 263 1 = some 1 := by kernel_rfl
theorem Tryz.zb265 : zeroB Tryz.prog 265 = some [.int .i64 0] := by kernel_rfl
theorem Tryz.pl265 : placesB Tryz.prog 265 = some [(0, 1)] := by kernel_rfl
theorem Tryz.fd265_0 : fieldB Tryz.prog 265 0 = some 0 := by kernel_rfl
theorem Tryz.ag271 : aggB Tryz.prog 271 = some true := by kernel_rfl
theorem Tryz.cz271 : Tryz.prog.cellsOf 271 = 5 := by kernel_rfl
theorem Tryz.zb271 : zeroB Tryz.prog 271 = some [.int .i64 0, .string ⟨#[]⟩, .int .i64 0, .slice none 0 0, .slice none 0 0] := by kernel_rfl
theorem Tryz.pl271 : placesB Tryz.prog 271 = some [(0, 1), (1, 1), (2, 1), (3, 1), (4, 1)] := by kernel_rfl
theorem Tryz.fd271_1 : fieldB Tryz.prog 271 1 = some 1 := by kernel_rfl
theorem Tryz.fd271_2 : fieldB Tryz.prog 271 2 = some 2 := by kernel_rfl
theorem Tryz.fd271_3 : fieldB Tryz.prog 271 3 = some 3 := by kernel_rfl
theorem Tryz.fd271_4 : fieldB Tryz.prog 271 4 = some 4 := by kernel_rfl
theorem Tryz.ag276 : aggB Tryz.prog 276 = some true := by kernel_rfl
theorem Tryz.cz276 : Tryz.prog.cellsOf 276 = 5 := by kernel_rfl
theorem Tryz.zb276 : zeroB Tryz.prog 276 = some [.int .i64 0, .int .i64 0, .int .i64 0, .int .i64 0, .int .i64 0] := by kernel_rfl
theorem Tryz.pl276 : placesB Tryz.prog 276 = some [(0, 1), (1, 1), (2, 1), (3, 1), (4, 1)] := by kernel_rfl
theorem Tryz.fd276_0 : fieldB Tryz.prog 276 0 = some 0 := by kernel_rfl
theorem Tryz.fd276_1 : fieldB Tryz.prog 276 1 = some 1 := by kernel_rfl
theorem Tryz.fd276_2 : fieldB Tryz.prog 276 2 = some 2 := by kernel_rfl
theorem Tryz.fd276_3 : fieldB Tryz.prog 276 3 = some 3 := by kernel_rfl
theorem Tryz.fd276_4 : fieldB Tryz.prog 276 4 = some 4 := by kernel_rfl
theorem Tryz.ag277 : aggB Tryz.prog 277 = some true := by kernel_rfl
theorem Tryz.cz277 : Tryz.prog.cellsOf 277 = 40 := by kernel_rfl
theorem Tryz.zb277 : zeroB Tryz.prog 277 = some [.int .i64 0, .int .i64 0, .int .i64 0, .int .i64 0, .int .i64 0, .int .i64 0, .int .i64 0, .int .i64 0, .int .i64 0, .int .i64 0, .int .i64 0, .int .i64 0, .int .i64 0, .int .i64 0, .int .i64 0, .int .i64 0, .int .i64 0, .int .i64 0, .int .i64 0, .int .i64 0, .int .i64 0, .int .i64 0, .int .i64 0, .int .i64 0, .int .i64 0, .int .i64 0, .int .i64 0, .int .i64 0, .int .i64 0, .int .i64 0, .int .i64 0, .int .i64 0, .int .i64 0, .int .i64 0, .int .i64 0, .int .i64 0, .int .i64 0, .int .i64 0, .int .i64 0, .int .i64 0] := by kernel_rfl
theorem Tryz.ar277 : arrB Tryz.prog 277 = some (8, 5) := by kernel_rfl
theorem Tryz.cz280 : Tryz.prog.cellsOf 280 = 4 := by kernel_rfl
theorem Tryz.zb280 : zeroB Tryz.prog 280 = some [.int .u64 0, .int .u64 0, .int .u64 0, .int .u64 0] := by kernel_rfl
theorem Tryz.ar280 : arrB Tryz.prog 280 = some (4, 1) := by kernel_rfl
theorem Tryz.zb292 : zeroB Tryz.prog 292 = some [.slice none 0 0, .slice none 0 0, .slice none 0 0, .bool false, .int .i64 0] := by kernel_rfl
theorem Tryz.pl292 : placesB Tryz.prog 292 = some [(0, 1), (1, 1), (2, 1), (3, 1), (4, 1)] := by kernel_rfl
theorem Tryz.fd292_0 : fieldB Tryz.prog 292 0 = some 0 := by kernel_rfl
theorem Tryz.fd292_1 : fieldB Tryz.prog 292 1 = some 1 := by kernel_rfl
theorem Tryz.fd292_2 : fieldB Tryz.prog 292 2 = some 2 := by kernel_rfl
theorem Tryz.fd292_3 : fieldB Tryz.prog 292 3 = some 3 := by kernel_rfl
theorem Tryz.fd292_4 : fieldB Tryz.prog 292 4 = some 4 := by kernel_rfl
theorem Tryz.ag300 : aggB Tryz.prog 300 = some true := by kernel_rfl
theorem Tryz.cz300 : Tryz.prog.cellsOf 300 = 5 := by kernel_rfl
theorem Tryz.zb300 : zeroB Tryz.prog 300 = some [.int .i64 0, .string ⟨#[]⟩, .int .i64 0, .string ⟨#[]⟩, .string ⟨#[]⟩] := by kernel_rfl
theorem Tryz.pl300 : placesB Tryz.prog 300 = some [(0, 1), (1, 1), (2, 1), (3, 1), (4, 1)] := by kernel_rfl
theorem Tryz.fd300_0 : fieldB Tryz.prog 300 0 = some 0 := by kernel_rfl
theorem Tryz.fd300_1 : fieldB Tryz.prog 300 1 = some 1 := by kernel_rfl
theorem Tryz.fd300_2 : fieldB Tryz.prog 300 2 = some 2 := by kernel_rfl
theorem Tryz.fd300_3 : fieldB Tryz.prog 300 3 = some 3 := by kernel_rfl
theorem Tryz.fd300_4 : fieldB Tryz.prog 300 4 = some 4 := by kernel_rfl
theorem Tryz.ag323 : aggB Tryz.prog 323 = some true := by kernel_rfl
theorem Tryz.cz323 : Tryz.prog.cellsOf 323 = 235 := by kernel_rfl
theorem Tryz.zb323 : zeroB Tryz.prog 323 = some [.int .i64 0, .string ⟨#[]⟩, .int .i64 0, .string ⟨#[]⟩, .string ⟨#[]⟩, .int .i64 0, .string ⟨#[]⟩, .int .i64 0, .string ⟨#[]⟩, .string ⟨#[]⟩, .int .i64 0, .string ⟨#[]⟩, .int .i64 0, .string ⟨#[]⟩, .string ⟨#[]⟩, .int .i64 0, .string ⟨#[]⟩, .int .i64 0, .string ⟨#[]⟩, .string ⟨#[]⟩, .int .i64 0, .string ⟨#[]⟩, .int .i64 0, .string ⟨#[]⟩, .string ⟨#[]⟩, .int .i64 0, .string ⟨#[]⟩, .int .i64 0, .string ⟨#[]⟩, .string ⟨#[]⟩, .int .i64 0, .string ⟨#[]⟩, .int .i64 0, .string ⟨#[]⟩, .string ⟨#[]⟩, .int .i64 0, .string ⟨#[]⟩, .int .i64 0, .string ⟨#[]⟩, .string ⟨#[]⟩, .int .i64 0, .string ⟨#[]⟩, .int .i64 0, .string ⟨#[]⟩, .string ⟨#[]⟩, .int .i64 0, .string ⟨#[]⟩, .int .i64 0, .string ⟨#[]⟩, .string ⟨#[]⟩, .int .i64 0, .string ⟨#[]⟩, .int .i64 0, .string ⟨#[]⟩, .string ⟨#[]⟩, .int .i64 0, .string ⟨#[]⟩, .int .i64 0, .string ⟨#[]⟩, .string ⟨#[]⟩, .int .i64 0, .string ⟨#[]⟩, .int .i64 0, .string ⟨#[]⟩, .string ⟨#[]⟩, .int .i64 0, .string ⟨#[]⟩, .int .i64 0, .string ⟨#[]⟩, .string ⟨#[]⟩, .int .i64 0, .string ⟨#[]⟩, .int .i64 0, .string ⟨#[]⟩, .string ⟨#[]⟩, .int .i64 0, .string ⟨#[]⟩, .int .i64 0, .string ⟨#[]⟩, .string ⟨#[]⟩, .int .i64 0, .string ⟨#[]⟩, .int .i64 0, .string ⟨#[]⟩, .string ⟨#[]⟩, .int .i64 0, .string ⟨#[]⟩, .int .i64 0, .string ⟨#[]⟩, .string ⟨#[]⟩, .int .i64 0, .string ⟨#[]⟩, .int .i64 0, .string ⟨#[]⟩, .string ⟨#[]⟩, .int .i64 0, .string ⟨#[]⟩, .int .i64 0, .string ⟨#[]⟩, .string ⟨#[]⟩, .int .i64 0, .string ⟨#[]⟩, .int .i64 0, .string ⟨#[]⟩, .string ⟨#[]⟩, .int .i64 0, .string ⟨#[]⟩, .int .i64 0, .string ⟨#[]⟩, .string ⟨#[]⟩, .int .i64 0, .string ⟨#[]⟩, .int .i64 0, .string ⟨#[]⟩, .string ⟨#[]⟩, .int .i64 0, .string ⟨#[]⟩, .int .i64 0, .string ⟨#[]⟩, .string ⟨#[]⟩, .int .i64 0, .string ⟨#[]⟩, .int .i64 0, .string ⟨#[]⟩, .string ⟨#[]⟩, .int .i64 0, .string ⟨#[]⟩, .int .i64 0, .string ⟨#[]⟩, .string ⟨#[]⟩, .int .i64 0, .string ⟨#[]⟩, .int .i64 0, .string ⟨#[]⟩, .string ⟨#[]⟩, .int .i64 0, .string ⟨#[]⟩, .int .i64 0, .string ⟨#[]⟩, .string ⟨#[]⟩, .int .i64 0, .string ⟨#[]⟩, .int .i64 0, .string ⟨#[]⟩, .string ⟨#[]⟩, .int .i64 0, .string ⟨#[]⟩, .int .i64 0, .string ⟨#[]⟩, .string ⟨#[]⟩, .int .i64 0, .string ⟨#[]⟩, .int .i64 0, .string ⟨#[]⟩, .string ⟨#[]⟩, .int .i64 0, .string ⟨#[]⟩, .int .i64 0, .string ⟨#[]⟩, .string ⟨#[]⟩, .int .i64 0, .string ⟨#[]⟩, .int .i64 0, .string ⟨#[]⟩, .string ⟨#[]⟩, .int .i64 0, .string ⟨#[]⟩, .int .i64 0, .string ⟨#[]⟩, .string ⟨#[]⟩, .int .i64 0, .string ⟨#[]⟩, .int .i64 0, .string ⟨#[]⟩, .string ⟨#[]⟩, .int .i64 0, .string ⟨#[]⟩, .int .i64 0, .string ⟨#[]⟩, .string ⟨#[]⟩, .int .i64 0, .string ⟨#[]⟩, .int .i64 0, .string ⟨#[]⟩, .string ⟨#[]⟩, .int .i64 0, .string ⟨#[]⟩, .int .i64 0, .string ⟨#[]⟩, .string ⟨#[]⟩, .int .i64 0, .string ⟨#[]⟩, .int .i64 0, .string ⟨#[]⟩, .string ⟨#[]⟩, .int .i64 0, .string ⟨#[]⟩, .int .i64 0, .string ⟨#[]⟩, .string ⟨#[]⟩, .int .i64 0, .string ⟨#[]⟩, .int .i64 0, .string ⟨#[]⟩, .string ⟨#[]⟩, .int .i64 0, .string ⟨#[]⟩, .int .i64 0, .string ⟨#[]⟩, .string ⟨#[]⟩, .int .i64 0, .string ⟨#[]⟩, .int .i64 0, .string ⟨#[]⟩, .string ⟨#[]⟩, .int .i64 0, .string ⟨#[]⟩, .int .i64 0, .string ⟨#[]⟩, .string ⟨#[]⟩, .int .i64 0, .string ⟨#[]⟩, .int .i64 0, .string ⟨#[]⟩, .string ⟨#[]⟩, .int .i64 0, .string ⟨#[]⟩, .int .i64 0, .string ⟨#[]⟩, .string ⟨#[]⟩, .int .i64 0, .string ⟨#[]⟩, .int .i64 0, .string ⟨#[]⟩, .string ⟨#[]⟩] := by kernel_rfl
theorem Tryz.ar323 : arrB Tryz.prog 323 = some (47, 5) := by kernel_rfl
theorem Tryz.ag325 : aggB Tryz.prog 325 = some true := by kernel_rfl
theorem Tryz.cz325 : Tryz.prog.cellsOf 325 = 30 := by kernel_rfl
theorem Tryz.zb325 : zeroB Tryz.prog 325 = some [.int .i64 0, .string ⟨#[]⟩, .int .i64 0, .string ⟨#[]⟩, .string ⟨#[]⟩, .int .i64 0, .string ⟨#[]⟩, .int .i64 0, .string ⟨#[]⟩, .string ⟨#[]⟩, .int .i64 0, .string ⟨#[]⟩, .int .i64 0, .string ⟨#[]⟩, .string ⟨#[]⟩, .int .i64 0, .string ⟨#[]⟩, .int .i64 0, .string ⟨#[]⟩, .string ⟨#[]⟩, .int .i64 0, .string ⟨#[]⟩, .int .i64 0, .string ⟨#[]⟩, .string ⟨#[]⟩, .int .i64 0, .string ⟨#[]⟩, .int .i64 0, .string ⟨#[]⟩, .string ⟨#[]⟩] := by kernel_rfl
theorem Tryz.ar325 : arrB Tryz.prog 325 = some (6, 5) := by kernel_rfl
theorem Tryz.zb336 : zeroB Tryz.prog 336 = some [.string ⟨#[]⟩, .string ⟨#[]⟩, .string ⟨#[]⟩] := by kernel_rfl
theorem Tryz.ar336 : arrB Tryz.prog 336 = some (3, 1) := by kernel_rfl
theorem Tryz.ag341 : aggB Tryz.prog 341 = some true := by kernel_rfl
theorem Tryz.cz341 : Tryz.prog.cellsOf 341 = 15 := by kernel_rfl
theorem Tryz.zb341 : zeroB Tryz.prog 341 = some [.string ⟨#[]⟩, .string ⟨#[]⟩, .string ⟨#[]⟩, .string ⟨#[]⟩, .string ⟨#[]⟩, .string ⟨#[]⟩, .string ⟨#[]⟩, .string ⟨#[]⟩, .string ⟨#[]⟩, .string ⟨#[]⟩, .string ⟨#[]⟩, .string ⟨#[]⟩, .string ⟨#[]⟩, .string ⟨#[]⟩, .string ⟨#[]⟩] := by kernel_rfl
theorem Tryz.ar341 : arrB Tryz.prog 341 = some (15, 1) := by kernel_rfl
theorem Tryz.ag343 : aggB Tryz.prog 343 = some true := by kernel_rfl
theorem Tryz.cz343 : Tryz.prog.cellsOf 343 = 10 := by kernel_rfl
theorem Tryz.zb343 : zeroB Tryz.prog 343 = some [.string ⟨#[]⟩, .string ⟨#[]⟩, .string ⟨#[]⟩, .string ⟨#[]⟩, .string ⟨#[]⟩, .string ⟨#[]⟩, .string ⟨#[]⟩, .string ⟨#[]⟩, .string ⟨#[]⟩, .string ⟨#[]⟩] := by kernel_rfl
theorem Tryz.ar343 : arrB Tryz.prog 343 = some (10, 1) := by kernel_rfl
theorem Tryz.ag345 : aggB Tryz.prog 345 = some true := by kernel_rfl
theorem Tryz.cz345 : Tryz.prog.cellsOf 345 = 4 := by kernel_rfl
theorem Tryz.zb345 : zeroB Tryz.prog 345 = some [.string ⟨#[]⟩, .string ⟨#[]⟩, .string ⟨#[]⟩, .string ⟨#[]⟩] := by kernel_rfl
theorem Tryz.ar345 : arrB Tryz.prog 345 = some (4, 1) := by kernel_rfl
theorem Tryz.cz347 : Tryz.prog.cellsOf 347 = 3 := by kernel_rfl
theorem Tryz.by347 : Tryz.prog.bytesOf 347 = 24 := by kernel_rfl
theorem Tryz.zb347 : zeroB Tryz.prog 347 = some [.int .i64 0, .int .i64 0, .int .i64 0] := by kernel_rfl
theorem Tryz.pl347 : placesB Tryz.prog 347 = some [(0, 1), (1, 1), (2, 1)] := by kernel_rfl
theorem Tryz.fd347_0 : fieldB Tryz.prog 347 0 = some 0 := by kernel_rfl
theorem Tryz.fd347_1 : fieldB Tryz.prog 347 1 = some 1 := by kernel_rfl
theorem Tryz.fd347_2 : fieldB Tryz.prog 347 2 = some 2 := by kernel_rfl
theorem Tryz.mixed : Tryz.prog.follows .mixedOrders = true := by kernel_rfl
end Go.Proofs
end
section
namespace Go.Proofs
open Go.Hl
instance Tryz.iu2 : FU Tryz.prog 2 (.int .i64) := ⟨Tryz.underlying2⟩
instance Tryz.ia3 : FA Tryz.prog 3 false := ⟨Tryz.ag3⟩
instance Tryz.ic3 : FC Tryz.prog 3 1 := ⟨Tryz.cz3⟩
instance Tryz.iz3 : FZ Tryz.prog 3 [.int .i64 0] := ⟨Tryz.zb3⟩
instance Tryz.iu3 : FU Tryz.prog 3 (.int .i64) := ⟨Tryz.underlying3⟩
instance Tryz.ia4 : FA Tryz.prog 4 false := ⟨Tryz.ag4⟩
instance Tryz.ic4 : FC Tryz.prog 4 1 := ⟨Tryz.cz4⟩
instance Tryz.ia5 : FA Tryz.prog 5 false := ⟨Tryz.ag5⟩
instance Tryz.ic5 : FC Tryz.prog 5 1 := ⟨Tryz.cz5⟩
instance Tryz.iz5 : FZ Tryz.prog 5 [.int .u8 0] := ⟨Tryz.zb5⟩
instance Tryz.iu5 : FU Tryz.prog 5 (.int .u8) := ⟨Tryz.underlying5⟩
instance Tryz.ia9 : FA Tryz.prog 9 false := ⟨Tryz.ag9⟩
instance Tryz.ic9 : FC Tryz.prog 9 1 := ⟨Tryz.cz9⟩
instance Tryz.iu9 : FU Tryz.prog 9 .string := ⟨Tryz.underlying9⟩
instance Tryz.ia22 : FA Tryz.prog 22 false := ⟨Tryz.ag22⟩
instance Tryz.iu22 : FU Tryz.prog 22 (.slice 66) := ⟨Tryz.underlying22⟩
instance Tryz.ia23 : FA Tryz.prog 23 false := ⟨Tryz.ag23⟩
instance Tryz.iu23 : FU Tryz.prog 23 (.slice 102) := ⟨Tryz.underlying23⟩
instance Tryz.ia24 : FA Tryz.prog 24 false := ⟨Tryz.ag24⟩
instance Tryz.iu24 : FU Tryz.prog 24 (.slice 73) := ⟨Tryz.underlying24⟩
instance Tryz.ia25 : FA Tryz.prog 25 false := ⟨Tryz.ag25⟩
instance Tryz.iu25 : FU Tryz.prog 25 (.slice 105) := ⟨Tryz.underlying25⟩
instance Tryz.ia26 : FA Tryz.prog 26 false := ⟨Tryz.ag26⟩
instance Tryz.iu26 : FU Tryz.prog 26 (.slice 109) := ⟨Tryz.underlying26⟩
instance Tryz.ia27 : FA Tryz.prog 27 false := ⟨Tryz.ag27⟩
instance Tryz.iu27 : FU Tryz.prog 27 (.slice 112) := ⟨Tryz.underlying27⟩
instance Tryz.ia28 : FA Tryz.prog 28 false := ⟨Tryz.ag28⟩
instance Tryz.iu28 : FU Tryz.prog 28 (.slice 90) := ⟨Tryz.underlying28⟩
instance Tryz.ia29 : FA Tryz.prog 29 false := ⟨Tryz.ag29⟩
instance Tryz.iu29 : FU Tryz.prog 29 (.slice 95) := ⟨Tryz.underlying29⟩
instance Tryz.ia31 : FA Tryz.prog 31 true := ⟨Tryz.ag31⟩
instance Tryz.ic31 : FC Tryz.prog 31 10 := ⟨Tryz.cz31⟩
instance Tryz.if31_0 : FF Tryz.prog 31 0 0 := ⟨Tryz.fd31_0⟩
instance Tryz.if31_1 : FF Tryz.prog 31 1 1 := ⟨Tryz.fd31_1⟩
instance Tryz.if31_2 : FF Tryz.prog 31 2 2 := ⟨Tryz.fd31_2⟩
instance Tryz.if31_3 : FF Tryz.prog 31 3 3 := ⟨Tryz.fd31_3⟩
instance Tryz.if31_4 : FF Tryz.prog 31 4 4 := ⟨Tryz.fd31_4⟩
instance Tryz.if31_5 : FF Tryz.prog 31 5 5 := ⟨Tryz.fd31_5⟩
instance Tryz.if31_6 : FF Tryz.prog 31 6 6 := ⟨Tryz.fd31_6⟩
instance Tryz.if31_7 : FF Tryz.prog 31 7 7 := ⟨Tryz.fd31_7⟩
instance Tryz.if31_8 : FF Tryz.prog 31 8 8 := ⟨Tryz.fd31_8⟩
instance Tryz.if31_9 : FF Tryz.prog 31 9 9 := ⟨Tryz.fd31_9⟩
instance Tryz.ia34 : FA Tryz.prog 34 false := ⟨Tryz.ag34⟩
instance Tryz.iu34 : FU Tryz.prog 34 (.pointer 43) := ⟨Tryz.underlying34⟩
instance Tryz.ia40 : FA Tryz.prog 40 false := ⟨Tryz.ag40⟩
instance Tryz.ic40 : FC Tryz.prog 40 1 := ⟨Tryz.cz40⟩
instance Tryz.iu40 : FU Tryz.prog 40 (.slice 68) := ⟨Tryz.underlying40⟩
instance Tryz.ia41 : FA Tryz.prog 41 false := ⟨Tryz.ag41⟩
instance Tryz.ic41 : FC Tryz.prog 41 1 := ⟨Tryz.cz41⟩
instance Tryz.iu41 : FU Tryz.prog 41 (.slice 49) := ⟨Tryz.underlying41⟩
instance Tryz.ia43 : FA Tryz.prog 43 true := ⟨Tryz.ag43⟩
instance Tryz.ic43 : FC Tryz.prog 43 10 := ⟨Tryz.cz43⟩
instance Tryz.iz43 : FZ Tryz.prog 43 [.slice none 0 0, .slice none 0 0, .slice none 0 0, .int .i64 0, .slice none 0 0, .slice none 0 0, .slice none 0 0, .int .i64 0, .slice none 0 0, .slice none 0 0] := ⟨Tryz.zb43⟩
instance Tryz.ip43 : FP Tryz.prog 43 [(0, 1), (1, 1), (2, 1), (3, 1), (4, 1), (5, 1), (6, 1), (7, 1), (8, 1), (9, 1)] := ⟨Tryz.pl43⟩
instance Tryz.if43_0 : FF Tryz.prog 43 0 0 := ⟨Tryz.fd43_0⟩
instance Tryz.if43_1 : FF Tryz.prog 43 1 1 := ⟨Tryz.fd43_1⟩
instance Tryz.if43_2 : FF Tryz.prog 43 2 2 := ⟨Tryz.fd43_2⟩
instance Tryz.if43_3 : FF Tryz.prog 43 3 3 := ⟨Tryz.fd43_3⟩
instance Tryz.if43_4 : FF Tryz.prog 43 4 4 := ⟨Tryz.fd43_4⟩
instance Tryz.if43_5 : FF Tryz.prog 43 5 5 := ⟨Tryz.fd43_5⟩
instance Tryz.if43_6 : FF Tryz.prog 43 6 6 := ⟨Tryz.fd43_6⟩
instance Tryz.if43_7 : FF Tryz.prog 43 7 7 := ⟨Tryz.fd43_7⟩
instance Tryz.if43_8 : FF Tryz.prog 43 8 8 := ⟨Tryz.fd43_8⟩
instance Tryz.if43_9 : FF Tryz.prog 43 9 9 := ⟨Tryz.fd43_9⟩
instance Tryz.ia44 : FA Tryz.prog 44 false := ⟨Tryz.ag44⟩
instance Tryz.ic44 : FC Tryz.prog 44 1 := ⟨Tryz.cz44⟩
instance Tryz.iz44 : FZ Tryz.prog 44 [.slice none 0 0] := ⟨Tryz.zb44⟩
instance Tryz.iu44 : FU Tryz.prog 44 (.slice 107) := ⟨Tryz.underlying44⟩
instance Tryz.ia45 : FA Tryz.prog 45 false := ⟨Tryz.ag45⟩
instance Tryz.ic45 : FC Tryz.prog 45 1 := ⟨Tryz.cz45⟩
instance Tryz.iz45 : FZ Tryz.prog 45 [.slice none 0 0] := ⟨Tryz.zb45⟩
instance Tryz.iu45 : FU Tryz.prog 45 (.slice 61) := ⟨Tryz.underlying45⟩
instance Tryz.ia47 : FA Tryz.prog 47 true := ⟨Tryz.ag47⟩
instance Tryz.ic47 : FC Tryz.prog 47 2 := ⟨Tryz.cz47⟩
instance Tryz.iz47 : FZ Tryz.prog 47 [.slice none 0 0, .slice none 0 0] := ⟨Tryz.zb47⟩
instance Tryz.ip47 : FP Tryz.prog 47 [(0, 1), (1, 1)] := ⟨Tryz.pl47⟩
instance Tryz.if47_0 : FF Tryz.prog 47 0 0 := ⟨Tryz.fd47_0⟩
instance Tryz.if47_1 : FF Tryz.prog 47 1 1 := ⟨Tryz.fd47_1⟩
instance Tryz.ic49 : FC Tryz.prog 49 3 := ⟨Tryz.cz49⟩
instance Tryz.iz49 : FZ Tryz.prog 49 [.int .i64 0, .slice none 0 0, .slice none 0 0] := ⟨Tryz.zb49⟩
instance Tryz.ip49 : FP Tryz.prog 49 [(0, 1), (1, 2)] := ⟨Tryz.pl49⟩
instance Tryz.if49_0 : FF Tryz.prog 49 0 0 := ⟨Tryz.fd49_0⟩
instance Tryz.if49_1 : FF Tryz.prog 49 1 1 := ⟨Tryz.fd49_1⟩
instance Tryz.ia53 : FA Tryz.prog 53 false := ⟨Tryz.ag53⟩
instance Tryz.ic53 : FC Tryz.prog 53 1 := ⟨Tryz.cz53⟩
instance Tryz.iu53 : FU Tryz.prog 53 (.slice 3) := ⟨Tryz.underlying53⟩
instance Tryz.ia58 : FA Tryz.prog 58 false := ⟨Tryz.ag58⟩
instance Tryz.ic58 : FC Tryz.prog 58 1 := ⟨Tryz.cz58⟩
instance Tryz.iz58 : FZ Tryz.prog 58 [.int .u64 0] := ⟨Tryz.zb58⟩
instance Tryz.iu58 : FU Tryz.prog 58 (.int .u64) := ⟨Tryz.underlying58⟩
instance Tryz.ia59 : FA Tryz.prog 59 false := ⟨Tryz.ag59⟩
instance Tryz.iu59 : FU Tryz.prog 59 (.slice 58) := ⟨Tryz.underlying59⟩
instance Tryz.ia61 : FA Tryz.prog 61 true := ⟨Tryz.ag61⟩
instance Tryz.ic61 : FC Tryz.prog 61 5 := ⟨Tryz.cz61⟩
instance Tryz.iz61 : FZ Tryz.prog 61 [.int .i64 0, .int .u64 0, .int .u64 0, .int .i64 0, .slice none 0 0] := ⟨Tryz.zb61⟩
instance Tryz.ip61 : FP Tryz.prog 61 [(0, 1), (1, 1), (2, 1), (3, 1), (4, 1)] := ⟨Tryz.pl61⟩
instance Tryz.if61_0 : FF Tryz.prog 61 0 0 := ⟨Tryz.fd61_0⟩
instance Tryz.if61_1 : FF Tryz.prog 61 1 1 := ⟨Tryz.fd61_1⟩
instance Tryz.if61_2 : FF Tryz.prog 61 2 2 := ⟨Tryz.fd61_2⟩
instance Tryz.if61_3 : FF Tryz.prog 61 3 3 := ⟨Tryz.fd61_3⟩
instance Tryz.if61_4 : FF Tryz.prog 61 4 4 := ⟨Tryz.fd61_4⟩
instance Tryz.ia64 : FA Tryz.prog 64 false := ⟨Tryz.ag64⟩
instance Tryz.ic64 : FC Tryz.prog 64 1 := ⟨Tryz.cz64⟩
instance Tryz.iz64 : FZ Tryz.prog 64 [.slice none 0 0] := ⟨Tryz.zb64⟩
instance Tryz.iu64 : FU Tryz.prog 64 (.slice 5) := ⟨Tryz.underlying64⟩
instance Tryz.ia66 : FA Tryz.prog 66 true := ⟨Tryz.ag66⟩
instance Tryz.ic66 : FC Tryz.prog 66 2 := ⟨Tryz.cz66⟩
instance Tryz.if66_0 : FF Tryz.prog 66 0 0 := ⟨Tryz.fd66_0⟩
instance Tryz.if66_1 : FF Tryz.prog 66 1 1 := ⟨Tryz.fd66_1⟩
instance Tryz.ia68 : FA Tryz.prog 68 true := ⟨Tryz.ag68⟩
instance Tryz.ic68 : FC Tryz.prog 68 2 := ⟨Tryz.cz68⟩
instance Tryz.iz68 : FZ Tryz.prog 68 [.slice none 0 0, .slice none 0 0] := ⟨Tryz.zb68⟩
instance Tryz.ip68 : FP Tryz.prog 68 [(0, 1), (1, 1)] := ⟨Tryz.pl68⟩
instance Tryz.if68_0 : FF Tryz.prog 68 0 0 := ⟨Tryz.fd68_0⟩
instance Tryz.if68_1 : FF Tryz.prog 68 1 1 := ⟨Tryz.fd68_1⟩
instance Tryz.ia69 : FA Tryz.prog 69 false := ⟨Tryz.ag69⟩
instance Tryz.iu69 : FU Tryz.prog 69 (.slice 150) := ⟨Tryz.underlying69⟩
instance Tryz.ia71 : FA Tryz.prog 71 true := ⟨Tryz.ag71⟩
instance Tryz.ic71 : FC Tryz.prog 71 2 := ⟨Tryz.cz71⟩
instance Tryz.if71_0 : FF Tryz.prog 71 0 0 := ⟨Tryz.fd71_0⟩
instance Tryz.if71_1 : FF Tryz.prog 71 1 1 := ⟨Tryz.fd71_1⟩
instance Tryz.ic73 : FC Tryz.prog 73 3 := ⟨Tryz.cz73⟩
instance Tryz.if73_0 : FF Tryz.prog 73 0 0 := ⟨Tryz.fd73_0⟩
instance Tryz.if73_1 : FF Tryz.prog 73 1 1 := ⟨Tryz.fd73_1⟩
instance Tryz.ia79 : FA Tryz.prog 79 true := ⟨Tryz.ag79⟩
instance Tryz.ic79 : FC Tryz.prog 79 3 := ⟨Tryz.cz79⟩
instance Tryz.iz79 : FZ Tryz.prog 79 [.int .i64 0, .int .i64 0, .slice none 0 0] := ⟨Tryz.zb79⟩
instance Tryz.ip79 : FP Tryz.prog 79 [(0, 1), (1, 1), (2, 1)] := ⟨Tryz.pl79⟩
instance Tryz.if79_0 : FF Tryz.prog 79 0 0 := ⟨Tryz.fd79_0⟩
instance Tryz.if79_1 : FF Tryz.prog 79 1 1 := ⟨Tryz.fd79_1⟩
instance Tryz.if79_2 : FF Tryz.prog 79 2 2 := ⟨Tryz.fd79_2⟩
instance Tryz.ia82 : FA Tryz.prog 82 true := ⟨Tryz.ag82⟩
instance Tryz.ic82 : FC Tryz.prog 82 4 := ⟨Tryz.cz82⟩
instance Tryz.iz82 : FZ Tryz.prog 82 [.string ⟨#[]⟩, .int .i64 0, .int .i64 0, .int .i64 0] := ⟨Tryz.zb82⟩
instance Tryz.ip82 : FP Tryz.prog 82 [(0, 1), (1, 1), (2, 1), (3, 1)] := ⟨Tryz.pl82⟩
instance Tryz.ia90 : FA Tryz.prog 90 true := ⟨Tryz.ag90⟩
instance Tryz.ic90 : FC Tryz.prog 90 2 := ⟨Tryz.cz90⟩
instance Tryz.if90_0 : FF Tryz.prog 90 0 0 := ⟨Tryz.fd90_0⟩
instance Tryz.if90_1 : FF Tryz.prog 90 1 1 := ⟨Tryz.fd90_1⟩
instance Tryz.ia95 : FA Tryz.prog 95 true := ⟨Tryz.ag95⟩
instance Tryz.ic95 : FC Tryz.prog 95 3 := ⟨Tryz.cz95⟩
instance Tryz.if95_0 : FF Tryz.prog 95 0 0 := ⟨Tryz.fd95_0⟩
instance Tryz.if95_1 : FF Tryz.prog 95 1 1 := ⟨Tryz.fd95_1⟩
instance Tryz.if95_2 : FF Tryz.prog 95 2 2 := ⟨Tryz.fd95_2⟩
instance Tryz.ia102 : FA Tryz.prog 102 true := ⟨Tryz.ag102⟩
instance Tryz.ic102 : FC Tryz.prog 102 3 := ⟨Tryz.cz102⟩
instance Tryz.if102_0 : FF Tryz.prog 102 0 0 := ⟨Tryz.fd102_0⟩
instance Tryz.if102_1 : FF Tryz.prog 102 1 1 := ⟨Tryz.fd102_1⟩
instance Tryz.if102_2 : FF Tryz.prog 102 2 2 := ⟨Tryz.fd102_2⟩
instance Tryz.ia105 : FA Tryz.prog 105 true := ⟨Tryz.ag105⟩
instance Tryz.ic105 : FC Tryz.prog 105 3 := ⟨Tryz.cz105⟩
instance Tryz.if105_0 : FF Tryz.prog 105 0 0 := ⟨Tryz.fd105_0⟩
instance Tryz.if105_1 : FF Tryz.prog 105 1 1 := ⟨Tryz.fd105_1⟩
instance Tryz.if105_2 : FF Tryz.prog 105 2 2 := ⟨Tryz.fd105_2⟩
instance Tryz.ia107 : FA Tryz.prog 107 false := ⟨Tryz.ag107⟩
instance Tryz.ic107 : FC Tryz.prog 107 1 := ⟨Tryz.cz107⟩
instance Tryz.iz107 : FZ Tryz.prog 107 [.int .u8 0] := ⟨Tryz.zb107⟩
instance Tryz.ia109 : FA Tryz.prog 109 true := ⟨Tryz.ag109⟩
instance Tryz.ic109 : FC Tryz.prog 109 3 := ⟨Tryz.cz109⟩
instance Tryz.if109_0 : FF Tryz.prog 109 0 0 := ⟨Tryz.fd109_0⟩
instance Tryz.if109_1 : FF Tryz.prog 109 1 1 := ⟨Tryz.fd109_1⟩
instance Tryz.if109_2 : FF Tryz.prog 109 2 2 := ⟨Tryz.fd109_2⟩
instance Tryz.ia112 : FA Tryz.prog 112 true := ⟨Tryz.ag112⟩
instance Tryz.ic112 : FC Tryz.prog 112 3 := ⟨Tryz.cz112⟩
instance Tryz.if112_0 : FF Tryz.prog 112 0 0 := ⟨Tryz.fd112_0⟩
instance Tryz.if112_1 : FF Tryz.prog 112 1 1 := ⟨Tryz.fd112_1⟩
instance Tryz.if112_2 : FF Tryz.prog 112 2 2 := ⟨Tryz.fd112_2⟩
instance Tryz.ia130 : FA Tryz.prog 130 false := ⟨Tryz.ag130⟩
instance Tryz.ic130 : FC Tryz.prog 130 1 := ⟨Tryz.cz130⟩
instance Tryz.iu130 : FU Tryz.prog 130 (.slice 132) := ⟨Tryz.underlying130⟩
instance Tryz.ia131 : FA Tryz.prog 131 false := ⟨Tryz.ag131⟩
instance Tryz.ic131 : FC Tryz.prog 131 1 := ⟨Tryz.cz131⟩
instance Tryz.iu131 : FU Tryz.prog 131 (.slice 4) := ⟨Tryz.underlying131⟩
instance Tryz.ia132 : FA Tryz.prog 132 true := ⟨Tryz.ag132⟩
instance Tryz.ic132 : FC Tryz.prog 132 2 := ⟨Tryz.cz132⟩
instance Tryz.iz132 : FZ Tryz.prog 132 [.slice none 0 0, .slice none 0 0] := ⟨Tryz.zb132⟩
instance Tryz.ip132 : FP Tryz.prog 132 [(0, 1), (1, 1)] := ⟨Tryz.pl132⟩
instance Tryz.if132_0 : FF Tryz.prog 132 0 0 := ⟨Tryz.fd132_0⟩
instance Tryz.if132_1 : FF Tryz.prog 132 1 1 := ⟨Tryz.fd132_1⟩
instance Tryz.ia134 : FA Tryz.prog 134 true := ⟨Tryz.ag134⟩
instance Tryz.ic134 : FC Tryz.prog 134 9 := ⟨Tryz.cz134⟩
instance Tryz.iz134 : FZ Tryz.prog 134 [.slice none 0 0, .slice none 0 0, .slice none 0 0, .slice none 0 0, .slice none 0 0, .bool false, .slice none 0 0, .slice none 0 0, .slice none 0 0] := ⟨Tryz.zb134⟩
instance Tryz.ip134 : FP Tryz.prog 134 [(0, 1), (1, 1), (2, 1), (3, 1), (4, 1), (5, 1), (6, 2), (8, 1)] := ⟨Tryz.pl134⟩
instance Tryz.if134_0 : FF Tryz.prog 134 0 0 := ⟨Tryz.fd134_0⟩
instance Tryz.if134_1 : FF Tryz.prog 134 1 1 := ⟨Tryz.fd134_1⟩
instance Tryz.if134_2 : FF Tryz.prog 134 2 2 := ⟨Tryz.fd134_2⟩
instance Tryz.if134_3 : FF Tryz.prog 134 3 3 := ⟨Tryz.fd134_3⟩
instance Tryz.if134_4 : FF Tryz.prog 134 4 4 := ⟨Tryz.fd134_4⟩
instance Tryz.if134_5 : FF Tryz.prog 134 5 5 := ⟨Tryz.fd134_5⟩
instance Tryz.if134_6 : FF Tryz.prog 134 6 6 := ⟨Tryz.fd134_6⟩
instance Tryz.if134_7 : FF Tryz.prog 134 7 8 := ⟨Tryz.fd134_7⟩
instance Tryz.iu136 : FU Tryz.prog 136 (.slice 82) := ⟨Tryz.underlying136⟩
instance Tryz.ia150 : FA Tryz.prog 150 true := ⟨Tryz.ag150⟩
instance Tryz.ic150 : FC Tryz.prog 150 5 := ⟨Tryz.cz150⟩
instance Tryz.if150_0 : FF Tryz.prog 150 0 0 := ⟨Tryz.fd150_0⟩
instance Tryz.if150_1 : FF Tryz.prog 150 1 1 := ⟨Tryz.fd150_1⟩
instance Tryz.if150_2 : FF Tryz.prog 150 2 2 := ⟨Tryz.fd150_2⟩
instance Tryz.if150_3 : FF Tryz.prog 150 3 3 := ⟨Tryz.fd150_3⟩
instance Tryz.if150_4 : FF Tryz.prog 150 4 4 := ⟨Tryz.fd150_4⟩
instance Tryz.ia152 : FA Tryz.prog 152 true := ⟨Tryz.ag152⟩
instance Tryz.ic152 : FC Tryz.prog 152 6 := ⟨Tryz.cz152⟩
instance Tryz.iu156 : FU Tryz.prog 156 (.slice 237) := ⟨Tryz.underlying156⟩
instance Tryz.iu162 : FU Tryz.prog 162 (.slice 64) := ⟨Tryz.underlying162⟩
instance Tryz.iu175 : FU Tryz.prog 175 (.int .u32) := ⟨Tryz.underlying175⟩
instance Tryz.ia193 : FA Tryz.prog 193 true := ⟨Tryz.ag193⟩
instance Tryz.ic193 : FC Tryz.prog 193 3 := ⟨Tryz.cz193⟩
instance Tryz.iz193 : FZ Tryz.prog 193 [.slice none 0 0, .bool false, .int .i64 0] := ⟨Tryz.zb193⟩
instance Tryz.ip193 : FP Tryz.prog 193 [(0, 1), (1, 1), (2, 1)] := ⟨Tryz.pl193⟩
instance Tryz.if193_0 : FF Tryz.prog 193 0 0 := ⟨Tryz.fd193_0⟩
instance Tryz.if193_1 : FF Tryz.prog 193 1 1 := ⟨Tryz.fd193_1⟩
instance Tryz.if193_2 : FF Tryz.prog 193 2 2 := ⟨Tryz.fd193_2⟩
instance Tryz.ia198 : FA Tryz.prog 198 false := ⟨Tryz.ag198⟩
instance Tryz.ic200 : FC Tryz.prog 200 2 := ⟨Tryz.cz200⟩
instance Tryz.if200_0 : FF Tryz.prog 200 0 0 := ⟨Tryz.fd200_0⟩
instance Tryz.if200_1 : FF Tryz.prog 200 1 1 := ⟨Tryz.fd200_1⟩
instance Tryz.iu208 : FU Tryz.prog 208 (.slice 44) := ⟨Tryz.underlying208⟩
instance Tryz.iz214 : FZ Tryz.prog 214 [.pointer none, .slice none 0 0, .slice none 0 0, .slice none 0 0] := ⟨Tryz.zb214⟩
instance Tryz.ip214 : FP Tryz.prog 214 [(0, 1), (1, 1), (2, 2)] := ⟨Tryz.pl214⟩
instance Tryz.if214_0 : FF Tryz.prog 214 0 0 := ⟨Tryz.fd214_0⟩
instance Tryz.if214_1 : FF Tryz.prog 214 1 1 := ⟨Tryz.fd214_1⟩
instance Tryz.if214_2 : FF Tryz.prog 214 2 2 := ⟨Tryz.fd214_2⟩
instance Tryz.ia216 : FA Tryz.prog 216 true := ⟨Tryz.ag216⟩
instance Tryz.ic216 : FC Tryz.prog 216 5 := ⟨Tryz.cz216⟩
instance Tryz.iz216 : FZ Tryz.prog 216 [.bool false, .bool false, .slice none 0 0, .int .i64 0, .bool false] := ⟨Tryz.zb216⟩
instance Tryz.ip216 : FP Tryz.prog 216 [(0, 1), (1, 1), (2, 1), (3, 1), (4, 1)] := ⟨Tryz.pl216⟩
instance Tryz.if216_0 : FF Tryz.prog 216 0 0 := ⟨Tryz.fd216_0⟩
instance Tryz.if216_1 : FF Tryz.prog 216 1 1 := ⟨Tryz.fd216_1⟩
instance Tryz.if216_2 : FF Tryz.prog 216 2 2 := ⟨Tryz.fd216_2⟩
instance Tryz.if216_3 : FF Tryz.prog 216 3 3 := ⟨Tryz.fd216_3⟩
instance Tryz.if216_4 : FF Tryz.prog 216 4 4 := ⟨Tryz.fd216_4⟩
instance Tryz.ia217 : FA Tryz.prog 217 false := ⟨Tryz.ag217⟩
instance Tryz.ic217 : FC Tryz.prog 217 1 := ⟨Tryz.cz217⟩
instance Tryz.iu217 : FU Tryz.prog 217 (.slice 216) := ⟨Tryz.underlying217⟩
instance Tryz.if219_0 : FF Tryz.prog 219 0 0 := ⟨Tryz.fd219_0⟩
instance Tryz.if219_1 : FF Tryz.prog 219 1 4 := ⟨Tryz.fd219_1⟩
instance Tryz.if219_2 : FF Tryz.prog 219 2 5 := ⟨Tryz.fd219_2⟩
instance Tryz.iu235 : FU Tryz.prog 235 (.slice 9) := ⟨Tryz.underlying235⟩
instance Tryz.ia237 : FA Tryz.prog 237 true := ⟨Tryz.ag237⟩
instance Tryz.ic237 : FC Tryz.prog 237 3 := ⟨Tryz.cz237⟩
instance Tryz.iz237 : FZ Tryz.prog 237 [.int .i64 0, .int .i64 0, .int .i64 0] := ⟨Tryz.zb237⟩
instance Tryz.ip237 : FP Tryz.prog 237 [(0, 1), (1, 1), (2, 1)] := ⟨Tryz.pl237⟩
instance Tryz.if237_1 : FF Tryz.prog 237 1 1 := ⟨Tryz.fd237_1⟩
instance Tryz.if237_2 : FF Tryz.prog 237 2 2 := ⟨Tryz.fd237_2⟩
instance Tryz.ic248 : FC Tryz.prog 248 4 := ⟨Tryz.cz248⟩
instance Tryz.ia256 : FA Tryz.prog 256 false := ⟨Tryz.ag256⟩
instance Tryz.ic256 : FC Tryz.prog 256 1 := ⟨Tryz.cz256⟩
instance Tryz.iu256 : FU Tryz.prog 256 (.slice 347) := ⟨Tryz.underlying256⟩
instance Tryz.iu259 : FU Tryz.prog 259 (.slice 263) := ⟨Tryz.underlying259⟩
instance Tryz.ia263 : FA Tryz.prog 263 true := ⟨Tryz.ag263⟩
instance Tryz.ic263 : FC Tryz.prog 263 2 := ⟨Tryz.cz263⟩
instance Tryz.iz263 : FZ Tryz.prog 263 [.int .i64 0, .int .u8 0] := ⟨Tryz.zb263⟩
instance Tryz.ip263 : FP Tryz.prog 263 [(0, 1), (1, 1)] := ⟨Tryz.pl263⟩
instance Tryz.if263_0 : FF Tryz.prog 263 0 0 := ⟨Tryz.fd263_0⟩
instance Tryz.if263_1 : FF Tryz.prog 263 1 1 := ⟨Tryz.fd263_1⟩
instance Tryz.iu268 : FU Tryz.prog 268 (.slice 45) := ⟨Tryz.underlying268⟩
instance Tryz.ia271 : FA Tryz.prog 271 true := ⟨Tryz.ag271⟩
instance Tryz.ic271 : FC Tryz.prog 271 5 := ⟨Tryz.cz271⟩
instance Tryz.iz271 : FZ Tryz.prog 271 [.int .i64 0, .string ⟨#[]⟩, .int .i64 0, .slice none 0 0, .slice none 0 0] := ⟨Tryz.zb271⟩
instance Tryz.ip271 : FP Tryz.prog 271 [(0, 1), (1, 1), (2, 1), (3, 1), (4, 1)] := ⟨Tryz.pl271⟩
instance Tryz.if271_1 : FF Tryz.prog 271 1 1 := ⟨Tryz.fd271_1⟩
instance Tryz.if271_2 : FF Tryz.prog 271 2 2 := ⟨Tryz.fd271_2⟩
instance Tryz.if271_3 : FF Tryz.prog 271 3 3 := ⟨Tryz.fd271_3⟩
instance Tryz.if271_4 : FF Tryz.prog 271 4 4 := ⟨Tryz.fd271_4⟩
instance Tryz.ic276 : FC Tryz.prog 276 5 := ⟨Tryz.cz276⟩
instance Tryz.iz276 : FZ Tryz.prog 276 [.int .i64 0, .int .i64 0, .int .i64 0, .int .i64 0, .int .i64 0] := ⟨Tryz.zb276⟩
instance Tryz.ip276 : FP Tryz.prog 276 [(0, 1), (1, 1), (2, 1), (3, 1), (4, 1)] := ⟨Tryz.pl276⟩
instance Tryz.if276_0 : FF Tryz.prog 276 0 0 := ⟨Tryz.fd276_0⟩
instance Tryz.if276_1 : FF Tryz.prog 276 1 1 := ⟨Tryz.fd276_1⟩
instance Tryz.if276_2 : FF Tryz.prog 276 2 2 := ⟨Tryz.fd276_2⟩
instance Tryz.if276_3 : FF Tryz.prog 276 3 3 := ⟨Tryz.fd276_3⟩
instance Tryz.if276_4 : FF Tryz.prog 276 4 4 := ⟨Tryz.fd276_4⟩
instance Tryz.ic277 : FC Tryz.prog 277 40 := ⟨Tryz.cz277⟩
instance Tryz.ic280 : FC Tryz.prog 280 4 := ⟨Tryz.cz280⟩
instance Tryz.iz292 : FZ Tryz.prog 292 [.slice none 0 0, .slice none 0 0, .slice none 0 0, .bool false, .int .i64 0] := ⟨Tryz.zb292⟩
instance Tryz.ip292 : FP Tryz.prog 292 [(0, 1), (1, 1), (2, 1), (3, 1), (4, 1)] := ⟨Tryz.pl292⟩
instance Tryz.if292_0 : FF Tryz.prog 292 0 0 := ⟨Tryz.fd292_0⟩
instance Tryz.if292_1 : FF Tryz.prog 292 1 1 := ⟨Tryz.fd292_1⟩
instance Tryz.if292_2 : FF Tryz.prog 292 2 2 := ⟨Tryz.fd292_2⟩
instance Tryz.if292_3 : FF Tryz.prog 292 3 3 := ⟨Tryz.fd292_3⟩
instance Tryz.if292_4 : FF Tryz.prog 292 4 4 := ⟨Tryz.fd292_4⟩
instance Tryz.ia300 : FA Tryz.prog 300 true := ⟨Tryz.ag300⟩
instance Tryz.ic300 : FC Tryz.prog 300 5 := ⟨Tryz.cz300⟩
instance Tryz.iz300 : FZ Tryz.prog 300 [.int .i64 0, .string ⟨#[]⟩, .int .i64 0, .string ⟨#[]⟩, .string ⟨#[]⟩] := ⟨Tryz.zb300⟩
instance Tryz.ip300 : FP Tryz.prog 300 [(0, 1), (1, 1), (2, 1), (3, 1), (4, 1)] := ⟨Tryz.pl300⟩
instance Tryz.if300_0 : FF Tryz.prog 300 0 0 := ⟨Tryz.fd300_0⟩
instance Tryz.if300_1 : FF Tryz.prog 300 1 1 := ⟨Tryz.fd300_1⟩
instance Tryz.if300_2 : FF Tryz.prog 300 2 2 := ⟨Tryz.fd300_2⟩
instance Tryz.if300_3 : FF Tryz.prog 300 3 3 := ⟨Tryz.fd300_3⟩
instance Tryz.if300_4 : FF Tryz.prog 300 4 4 := ⟨Tryz.fd300_4⟩
instance Tryz.ic323 : FC Tryz.prog 323 235 := ⟨Tryz.cz323⟩
instance Tryz.ic325 : FC Tryz.prog 325 30 := ⟨Tryz.cz325⟩
instance Tryz.ic341 : FC Tryz.prog 341 15 := ⟨Tryz.cz341⟩
instance Tryz.ic343 : FC Tryz.prog 343 10 := ⟨Tryz.cz343⟩
instance Tryz.ic345 : FC Tryz.prog 345 4 := ⟨Tryz.cz345⟩
instance Tryz.ic347 : FC Tryz.prog 347 3 := ⟨Tryz.cz347⟩
instance Tryz.iz347 : FZ Tryz.prog 347 [.int .i64 0, .int .i64 0, .int .i64 0] := ⟨Tryz.zb347⟩
instance Tryz.ip347 : FP Tryz.prog 347 [(0, 1), (1, 1), (2, 1)] := ⟨Tryz.pl347⟩
instance Tryz.if347_0 : FF Tryz.prog 347 0 0 := ⟨Tryz.fd347_0⟩
instance Tryz.if347_1 : FF Tryz.prog 347 1 1 := ⟨Tryz.fd347_1⟩
instance Tryz.if347_2 : FF Tryz.prog 347 2 2 := ⟨Tryz.fd347_2⟩
instance Tryz.ib5 : FB Tryz.prog 5 := ⟨Tryz.cb5⟩
instance Tryz.ib6 : FB Tryz.prog 6 := ⟨Tryz.cb6⟩
instance Tryz.ib7 : FB Tryz.prog 7 := ⟨Tryz.cb7⟩
instance Tryz.ib8 : FB Tryz.prog 8 := ⟨Tryz.cb8⟩
instance Tryz.ib9 : FB Tryz.prog 9 := ⟨Tryz.cb9⟩
instance Tryz.ib11 : FB Tryz.prog 11 := ⟨Tryz.cb11⟩
instance Tryz.ib13 : FB Tryz.prog 13 := ⟨Tryz.cb13⟩
instance Tryz.ib15 : FB Tryz.prog 15 := ⟨Tryz.cb15⟩
instance Tryz.ib16 : FB Tryz.prog 16 := ⟨Tryz.cb16⟩
instance Tryz.ib18 : FB Tryz.prog 18 := ⟨Tryz.cb18⟩
instance Tryz.ib20 : FB Tryz.prog 20 := ⟨Tryz.cb20⟩
instance Tryz.ib21 : FB Tryz.prog 21 := ⟨Tryz.cb21⟩
instance Tryz.ib22 : FB Tryz.prog 22 := ⟨Tryz.cb22⟩
instance Tryz.ib24 : FB Tryz.prog 24 := ⟨Tryz.cb24⟩
instance Tryz.ib40 : FB Tryz.prog 40 := ⟨Tryz.cb40⟩
instance Tryz.ib41 : FB Tryz.prog 41 := ⟨Tryz.cb41⟩
instance Tryz.ib43 : FB Tryz.prog 43 := ⟨Tryz.cb43⟩
instance Tryz.ib44 : FB Tryz.prog 44 := ⟨Tryz.cb44⟩
instance Tryz.ib45 : FB Tryz.prog 45 := ⟨Tryz.cb45⟩
instance Tryz.ib46 : FB Tryz.prog 46 := ⟨Tryz.cb46⟩
instance Tryz.ib47 : FB Tryz.prog 47 := ⟨Tryz.cb47⟩
instance Tryz.ib49 : FB Tryz.prog 49 := ⟨Tryz.cb49⟩
instance Tryz.ib50 : FB Tryz.prog 50 := ⟨Tryz.cb50⟩
instance Tryz.ib51 : FB Tryz.prog 51 := ⟨Tryz.cb51⟩
instance Tryz.ib52 : FB Tryz.prog 52 := ⟨Tryz.cb52⟩
instance Tryz.ib53 : FB Tryz.prog 53 := ⟨Tryz.cb53⟩
instance Tryz.ib54 : FB Tryz.prog 54 := ⟨Tryz.cb54⟩
instance Tryz.ib55 : FB Tryz.prog 55 := ⟨Tryz.cb55⟩
instance Tryz.ib56 : FB Tryz.prog 56 := ⟨Tryz.cb56⟩
instance Tryz.ib57 : FB Tryz.prog 57 := ⟨Tryz.cb57⟩
instance Tryz.ib58 : FB Tryz.prog 58 := ⟨Tryz.cb58⟩
instance Tryz.ib60 : FB Tryz.prog 60 := ⟨Tryz.cb60⟩
instance Tryz.ib61 : FB Tryz.prog 61 := ⟨Tryz.cb61⟩
instance Tryz.ib62 : FB Tryz.prog 62 := ⟨Tryz.cb62⟩
instance Tryz.ib63 : FB Tryz.prog 63 := ⟨Tryz.cb63⟩
instance Tryz.ib64 : FB Tryz.prog 64 := ⟨Tryz.cb64⟩
instance Tryz.ib65 : FB Tryz.prog 65 := ⟨Tryz.cb65⟩
instance Tryz.ib66 : FB Tryz.prog 66 := ⟨Tryz.cb66⟩
instance Tryz.ib73 : FB Tryz.prog 73 := ⟨Tryz.cb73⟩
instance Tryz.ib74 : FB Tryz.prog 74 := ⟨Tryz.cb74⟩
instance Tryz.ib75 : FB Tryz.prog 75 := ⟨Tryz.cb75⟩
instance Tryz.ib76 : FB Tryz.prog 76 := ⟨Tryz.cb76⟩
instance Tryz.ib77 : FB Tryz.prog 77 := ⟨Tryz.cb77⟩
instance Tryz.ib78 : FB Tryz.prog 78 := ⟨Tryz.cb78⟩
instance Tryz.ib79 : FB Tryz.prog 79 := ⟨Tryz.cb79⟩
instance Tryz.ib80 : FB Tryz.prog 80 := ⟨Tryz.cb80⟩
instance Tryz.ib81 : FB Tryz.prog 81 := ⟨Tryz.cb81⟩
instance Tryz.ib82 : FB Tryz.prog 82 := ⟨Tryz.cb82⟩
instance Tryz.ib92 : FB Tryz.prog 92 := ⟨Tryz.cb92⟩
instance Tryz.ib93 : FB Tryz.prog 93 := ⟨Tryz.cb93⟩
instance Tryz.ib94 : FB Tryz.prog 94 := ⟨Tryz.cb94⟩
instance Tryz.ib95 : FB Tryz.prog 95 := ⟨Tryz.cb95⟩
instance Tryz.ib96 : FB Tryz.prog 96 := ⟨Tryz.cb96⟩
instance Tryz.ib98 : FB Tryz.prog 98 := ⟨Tryz.cb98⟩
instance Tryz.ib102 : FB Tryz.prog 102 := ⟨Tryz.cb102⟩
instance Tryz.ib103 : FB Tryz.prog 103 := ⟨Tryz.cb103⟩
instance Tryz.ib104 : FB Tryz.prog 104 := ⟨Tryz.cb104⟩
instance Tryz.ib105 : FB Tryz.prog 105 := ⟨Tryz.cb105⟩
instance Tryz.ib106 : FB Tryz.prog 106 := ⟨Tryz.cb106⟩
instance Tryz.ib107 : FB Tryz.prog 107 := ⟨Tryz.cb107⟩
instance Tryz.ib108 : FB Tryz.prog 108 := ⟨Tryz.cb108⟩
instance Tryz.ib125 : FB Tryz.prog 125 := ⟨Tryz.cb125⟩
instance Tryz.ib126 : FB Tryz.prog 126 := ⟨Tryz.cb126⟩
instance Tryz.ib127 : FB Tryz.prog 127 := ⟨Tryz.cb127⟩
instance Tryz.ib128 : FB Tryz.prog 128 := ⟨Tryz.cb128⟩
instance Tryz.ib129 : FB Tryz.prog 129 := ⟨Tryz.cb129⟩
instance Tryz.ib130 : FB Tryz.prog 130 := ⟨Tryz.cb130⟩
instance Tryz.ib131 : FB Tryz.prog 131 := ⟨Tryz.cb131⟩
instance Tryz.ib132 : FB Tryz.prog 132 := ⟨Tryz.cb132⟩
instance Tryz.ib133 : FB Tryz.prog 133 := ⟨Tryz.cb133⟩
instance Tryz.ib134 : FB Tryz.prog 134 := ⟨Tryz.cb134⟩
instance Tryz.ib135 : FB Tryz.prog 135 := ⟨Tryz.cb135⟩
instance Tryz.ib136 : FB Tryz.prog 136 := ⟨Tryz.cb136⟩
instance Tryz.ib137 : FB Tryz.prog 137 := ⟨Tryz.cb137⟩
instance Tryz.ib138 : FB Tryz.prog 138 := ⟨Tryz.cb138⟩
instance Tryz.ib139 : FB Tryz.prog 139 := ⟨Tryz.cb139⟩
instance Tryz.ib140 : FB Tryz.prog 140 := ⟨Tryz.cb140⟩
instance Tryz.ib141 : FB Tryz.prog 141 := ⟨Tryz.cb141⟩
instance Tryz.ib142 : FB Tryz.prog 142 := ⟨Tryz.cb142⟩
instance Tryz.ib144 : FB Tryz.prog 144 := ⟨Tryz.cb144⟩
instance Tryz.ib145 : FB Tryz.prog 145 := ⟨Tryz.cb145⟩
instance Tryz.ib147 : FB Tryz.prog 147 := ⟨Tryz.cb147⟩
instance Tryz.ib148 : FB Tryz.prog 148 := ⟨Tryz.cb148⟩
instance Tryz.ib151 : FB Tryz.prog 151 := ⟨Tryz.cb151⟩
instance Tryz.ib153 : FB Tryz.prog 153 := ⟨Tryz.cb153⟩
instance Tryz.ib154 : FB Tryz.prog 154 := ⟨Tryz.cb154⟩
instance Tryz.ib156 : FB Tryz.prog 156 := ⟨Tryz.cb156⟩
instance Tryz.ib159 : FB Tryz.prog 159 := ⟨Tryz.cb159⟩
instance Tryz.ib163 : FB Tryz.prog 163 := ⟨Tryz.cb163⟩
instance Tryz.ib164 : FB Tryz.prog 164 := ⟨Tryz.cb164⟩
instance Tryz.ib165 : FB Tryz.prog 165 := ⟨Tryz.cb165⟩
instance Tryz.ib166 : FB Tryz.prog 166 := ⟨Tryz.cb166⟩
instance Tryz.ib167 : FB Tryz.prog 167 := ⟨Tryz.cb167⟩
instance Tryz.ib170 : FB Tryz.prog 170 := ⟨Tryz.cb170⟩
instance Tryz.ib171 : FB Tryz.prog 171 := ⟨Tryz.cb171⟩
instance Tryz.ib172 : FB Tryz.prog 172 := ⟨Tryz.cb172⟩
instance Tryz.ib173 : FB Tryz.prog 173 := ⟨Tryz.cb173⟩
instance Tryz.ib174 : FB Tryz.prog 174 := ⟨Tryz.cb174⟩
instance Tryz.ib175 : FB Tryz.prog 175 := ⟨Tryz.cb175⟩
instance Tryz.ib176 : FB Tryz.prog 176 := ⟨Tryz.cb176⟩
instance Tryz.ib177 : FB Tryz.prog 177 := ⟨Tryz.cb177⟩
instance Tryz.ib178 : FB Tryz.prog 178 := ⟨Tryz.cb178⟩
instance Tryz.ib179 : FB Tryz.prog 179 := ⟨Tryz.cb179⟩
instance Tryz.ib180 : FB Tryz.prog 180 := ⟨Tryz.cb180⟩
instance Tryz.ib181 : FB Tryz.prog 181 := ⟨Tryz.cb181⟩
instance Tryz.ib184 : FB Tryz.prog 184 := ⟨Tryz.cb184⟩
instance Tryz.ib185 : FB Tryz.prog 185 := ⟨Tryz.cb185⟩
instance Tryz.ib186 : FB Tryz.prog 186 := ⟨Tryz.cb186⟩
instance Tryz.ib189 : FB Tryz.prog 189 := ⟨Tryz.cb189⟩
instance Tryz.ib192 : FB Tryz.prog 192 := ⟨Tryz.cb192⟩
instance Tryz.ib193 : FB Tryz.prog 193 := ⟨Tryz.cb193⟩
instance Tryz.ib194 : FB Tryz.prog 194 := ⟨Tryz.cb194⟩
instance Tryz.ib195 : FB Tryz.prog 195 := ⟨Tryz.cb195⟩
instance Tryz.ib196 : FB Tryz.prog 196 := ⟨Tryz.cb196⟩
instance Tryz.ib197 : FB Tryz.prog 197 := ⟨Tryz.cb197⟩
instance Tryz.ib198 : FB Tryz.prog 198 := ⟨Tryz.cb198⟩
instance Tryz.ib201 : FB Tryz.prog 201 := ⟨Tryz.cb201⟩
instance Tryz.ib202 : FB Tryz.prog 202 := ⟨Tryz.cb202⟩
instance Tryz.ib203 : FB Tryz.prog 203 := ⟨Tryz.cb203⟩
instance Tryz.ib204 : FB Tryz.prog 204 := ⟨Tryz.cb204⟩
instance Tryz.ib205 : FB Tryz.prog 205 := ⟨Tryz.cb205⟩
instance Tryz.ib206 : FB Tryz.prog 206 := ⟨Tryz.cb206⟩
instance Tryz.ib207 : FB Tryz.prog 207 := ⟨Tryz.cb207⟩
instance Tryz.ib208 : FB Tryz.prog 208 := ⟨Tryz.cb208⟩
instance Tryz.ib210 : FB Tryz.prog 210 := ⟨Tryz.cb210⟩
instance Tryz.ib212 : FB Tryz.prog 212 := ⟨Tryz.cb212⟩
instance Tryz.ib213 : FB Tryz.prog 213 := ⟨Tryz.cb213⟩
instance Tryz.ib216 : FB Tryz.prog 216 := ⟨Tryz.cb216⟩
instance Tryz.ib217 : FB Tryz.prog 217 := ⟨Tryz.cb217⟩
instance Tryz.ib218 : FB Tryz.prog 218 := ⟨Tryz.cb218⟩
instance Tryz.ib219 : FB Tryz.prog 219 := ⟨Tryz.cb219⟩
instance Tryz.ib220 : FB Tryz.prog 220 := ⟨Tryz.cb220⟩
instance Tryz.ib221 : FB Tryz.prog 221 := ⟨Tryz.cb221⟩
instance Tryz.ib222 : FB Tryz.prog 222 := ⟨Tryz.cb222⟩
instance Tryz.ib223 : FB Tryz.prog 223 := ⟨Tryz.cb223⟩
instance Tryz.ib224 : FB Tryz.prog 224 := ⟨Tryz.cb224⟩
instance Tryz.ib225 : FB Tryz.prog 225 := ⟨Tryz.cb225⟩
instance Tryz.ib226 : FB Tryz.prog 226 := ⟨Tryz.cb226⟩
instance Tryz.ib227 : FB Tryz.prog 227 := ⟨Tryz.cb227⟩
instance Tryz.ib228 : FB Tryz.prog 228 := ⟨Tryz.cb228⟩
instance Tryz.ib229 : FB Tryz.prog 229 := ⟨Tryz.cb229⟩
instance Tryz.ib230 : FB Tryz.prog 230 := ⟨Tryz.cb230⟩
instance Tryz.ib231 : FB Tryz.prog 231 := ⟨Tryz.cb231⟩
instance Tryz.ib232 : FB Tryz.prog 232 := ⟨Tryz.cb232⟩
instance Tryz.ib233 : FB Tryz.prog 233 := ⟨Tryz.cb233⟩
instance Tryz.ib234 : FB Tryz.prog 234 := ⟨Tryz.cb234⟩
instance Tryz.ib235 : FB Tryz.prog 235 := ⟨Tryz.cb235⟩
instance Tryz.ib236 : FB Tryz.prog 236 := ⟨Tryz.cb236⟩
instance Tryz.ib237 : FB Tryz.prog 237 := ⟨Tryz.cb237⟩
instance Tryz.ib238 : FB Tryz.prog 238 := ⟨Tryz.cb238⟩
instance Tryz.ib239 : FB Tryz.prog 239 := ⟨Tryz.cb239⟩
instance Tryz.ib240 : FB Tryz.prog 240 := ⟨Tryz.cb240⟩
instance Tryz.ib241 : FB Tryz.prog 241 := ⟨Tryz.cb241⟩
instance Tryz.ib242 : FB Tryz.prog 242 := ⟨Tryz.cb242⟩
instance Tryz.ib243 : FB Tryz.prog 243 := ⟨Tryz.cb243⟩
instance Tryz.ib244 : FB Tryz.prog 244 := ⟨Tryz.cb244⟩
instance Tryz.ib245 : FB Tryz.prog 245 := ⟨Tryz.cb245⟩
instance Tryz.ib246 : FB Tryz.prog 246 := ⟨Tryz.cb246⟩
instance Tryz.ib247 : FB Tryz.prog 247 := ⟨Tryz.cb247⟩
instance Tryz.ib250 : FB Tryz.prog 250 := ⟨Tryz.cb250⟩
instance Tryz.ib252 : FB Tryz.prog 252 := ⟨Tryz.cb252⟩
instance Tryz.ib253 : FB Tryz.prog 253 := ⟨Tryz.cb253⟩
instance Tryz.ib254 : FB Tryz.prog 254 := ⟨Tryz.cb254⟩
instance Tryz.ib255 : FB Tryz.prog 255 := ⟨Tryz.cb255⟩
instance Tryz.ib256 : FB Tryz.prog 256 := ⟨Tryz.cb256⟩
instance Tryz.ib257 : FB Tryz.prog 257 := ⟨Tryz.cb257⟩
instance Tryz.ib258 : FB Tryz.prog 258 := ⟨Tryz.cb258⟩
instance Tryz.ib259 : FB Tryz.prog 259 := ⟨Tryz.cb259⟩
instance Tryz.ib260 : FB Tryz.prog 260 := ⟨Tryz.cb260⟩
instance Tryz.ib261 : FB Tryz.prog 261 := ⟨Tryz.cb261⟩
instance Tryz.ib262 : FB Tryz.prog 262 := ⟨Tryz.cb262⟩
instance Tryz.im : FM Tryz.prog := ⟨Tryz.mixed⟩
end Go.Proofs
end
section
namespace Go.Hl
open Classical in
noncomputable def whenE (p : Prop) (e : Int) : Int := if p then e else 0
theorem whenE_eq {p : Prop} {e : Int} (he : e ≠ 0) : whenE p e = 0 ↔ ¬ p := by unfold whenE; split <;> simp_all
def firstE (g : Nat → Int) : Nat → Int
  | 0 => 0
  | n + 1 => if firstE g n ≠ 0 then firstE g n else g n
theorem firstE_zero {g : Nat → Int} : ∀ {n : Nat}, firstE g n = 0 ↔ ∀ i, i < n → g i = 0
  | 0 => by simp [firstE]
  | n + 1 => by
    simp only [firstE]
    split
    · rename_i h
      constructor
      · intro h'; exact absurd h' h
      · intro h'; exact absurd (firstE_zero.2 fun i hi => h' i (by omega)) h
    · rename_i h
      have h0 : firstE g n = 0 := by simpa using h
      constructor
      · intro h' i hi
        by_cases e : i = n
        · subst e; exact h'
        · exact firstE_zero.1 h0 i (by omega)
      · intro h'; exact h' n (by omega)
theorem firstE_at {g : Nat → Int} {k n : Nat} (h0 : firstE g k = 0) (hk : g k ≠ 0) (hn : k < n) : firstE g n = g k := by
  induction n with
  | zero => omega
  | succ n ih =>
    by_cases e : k = n
    · subst e; simp [firstE, h0]
    · have := ih (by omega)
      simp [firstE, this, hk]
def onI {α : Type} (xs : List α) (f : α → Int) (i : Nat) : Int := match xs[i]? with | some x => f x | none => 0
theorem onI_eq {α : Type} {xs : List α} {f : α → Int} {i : Nat} {x : α} (h : xs[i]? = some x) : onI xs f i = f x := by simp [onI, h]
theorem firstE_on {α : Type} {xs : List α} {f : α → Int} : firstE (onI xs f) xs.length = 0 ↔ ∀ x ∈ xs, f x = 0 := by
  rw [firstE_zero]
  constructor
  · intro h x hx
    obtain ⟨i, hi⟩ := List.mem_iff_getElem?.1 hx
    have := h i (List.getElem?_eq_some_iff.1 hi).1
    rwa [onI_eq hi] at this
  · intro h i hi
    obtain ⟨x, hx⟩ := getElem?_lt hi
    rw [onI_eq hx]; exact h x (List.mem_of_getElem? hx)
open Classical in
noncomputable def idxF {α : Type} (p : α → Prop) : List α → Int
  | [] => -1
  | x :: l => if p x then 0 else if idxF p l < 0 then -1 else idxF p l + 1
theorem idxF_ge {α : Type} (p : α → Prop) : ∀ l : List α, -1 ≤ idxF p l
  | [] => by simp [idxF]
  | x :: l => by unfold idxF; have := idxF_ge p l; split <;> (try split) <;> omega
theorem idxF_nonneg {α : Type} {p : α → Prop} : ∀ {l : List α}, 0 ≤ idxF p l ↔ ∃ x ∈ l, p x
  | [] => by simp [idxF]
  | x :: l => by
    unfold idxF
    have ih := idxF_nonneg (p := p) (l := l)
    split
    · rename_i h; simp [h]
    · rename_i h
      split
      · rename_i h2
        simp only [List.mem_cons, exists_eq_or_imp, h, false_or]
        rw [← ih]; omega
      · rename_i h2
        simp only [List.mem_cons, exists_eq_or_imp, h, false_or]
        rw [← ih]; omega
theorem idxF_none {α : Type} {p : α → Prop} {l : List α} (h : ∀ x ∈ l, ¬ p x) : idxF p l = -1 := by
  have h1 := idxF_ge p l
  have h2 : ¬ 0 ≤ idxF p l := fun h' => by obtain ⟨x, hx, hp⟩ := idxF_nonneg.1 h'; exact h x hx hp
  omega
theorem idxF_at {α : Type} {p : α → Prop} : ∀ {l : List α} {k : Nat} {x : α}, l[k]? = some x → p x → (∀ j y, j < k → l[j]? = some y → ¬ p y) → idxF p l = k
  | [], _, _, h, _, _ => by simp at h
  | y :: l, 0, x, h, hp, _ => by simp at h; subst h; simp [idxF, hp]
  | y :: l, k + 1, x, h, hp, hn => by
    have h1 := idxF_at (l := l) (k := k) (x := x) (by simpa using h) hp (fun j z hj hz => hn (j + 1) z (by omega) (by simpa using hz))
    have h2 := hn 0 y (by omega) rfl
    unfold idxF
    rw [if_neg h2, h1, if_neg (by omega)]; omega
def NotB {α : Type} (p : α → Prop) (l : List α) (k : Nat) : Prop := ∀ j y, j < k → l[j]? = some y → ¬ p y
theorem NotB.zero {α : Type} (p : α → Prop) (l : List α) : NotB p l 0 := fun j y h => by omega
theorem NotB.succ {α : Type} {p : α → Prop} {l : List α} {k : Nat} {x : α} (h : NotB p l k) (hx : l[k]? = some x) (hp : ¬ p x) : NotB p l (k + 1) := fun j y hj hy => by
  by_cases e : j = k
  · subst e; rw [hx] at hy; cases hy; exact hp
  · exact h j y (by omega) hy
theorem NotB.all {α : Type} {p : α → Prop} {l : List α} {k : Nat} (h : NotB p l k) (hk : l.length ≤ k) : ∀ x ∈ l, ¬ p x := fun x hx => by
  obtain ⟨j, hj⟩ := List.mem_iff_getElem?.1 hx
  exact h j x (by have := (List.getElem?_eq_some_iff.1 hj).1; omega) hj
theorem ptrV_at {cs : List VP} {j : Nat} {q : VP} (h : cs[j]? = some q) : VLe (ptrV (cs.drop (j * 1))) (ptrV [q]) := fun S w v ⟨b, off, hv, hb, hc⟩ => ⟨b, off, hv, hb, fun t p ht => by
  cases t with
  | zero => simp at ht; subst ht; exact hc 0 q (by rw [Nat.mul_one, List.getElem?_drop]; simpa using h)
  | succ t => simp at ht⟩
end Go.Hl
end
section
namespace Go.Hl
def toN (b : Bool) : Nat := if b then 1 else 0
theorem toN_le (b : Bool) : toN b ≤ 1 := by cases b <;> decide
end Go.Hl
end
section
namespace Go.Hl
theorem testBit_mod (A i : Nat) : toN (A.testBit i) = (A / 2 ^ i) % 2 := by
  rw [Nat.testBit, Nat.shiftRight_eq_div_pow, Nat.and_comm, Nat.and_one_is_mod]
  rcases Nat.mod_two_eq_zero_or_one (A / 2 ^ i) with h | h <;> rw [h] <;> rfl
theorem mod_succ_bit (B i : Nat) : B % 2 ^ (i + 1) = B % 2 ^ i + 2 ^ i * toN (B.testBit i) := by
  rw [testBit_mod, Nat.pow_succ, Nat.mod_mul]
end Go.Hl
end
