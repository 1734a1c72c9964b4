/-
  What the statement's proof leans on, several texts in one (packed by a program).
-/
import Derived.Test.YtpahnbgfmhcndaaGreatDoorBMI
import Derived.Test.YtpahnbgfmhcndaaGreatDoorChecked
set_option linter.all false
set_option maxRecDepth 1000000
set_option maxHeartbeats 4000000
section
namespace Go.Proofs
open Go.Hl
instance Tryz.cb5 : FB Tryz.prog 5 := ⟨by kernel_rfl⟩
instance Tryz.cb8 : FB Tryz.prog 8 := ⟨by kernel_rfl⟩
instance Tryz.cb9 : FB Tryz.prog 9 := ⟨by kernel_rfl⟩
instance Tryz.cb15 : FB Tryz.prog 15 := ⟨by kernel_rfl⟩
instance Tryz.cb16 : FB Tryz.prog 16 := ⟨by kernel_rfl⟩
instance Tryz.cb17 : FB Tryz.prog 17 := ⟨by kernel_rfl⟩
instance Tryz.cb18 : FB Tryz.prog 18 := ⟨by kernel_rfl⟩
instance Tryz.cb19 : FB Tryz.prog 19 := ⟨by kernel_rfl⟩
instance Tryz.cb20 : FB Tryz.prog 20 := ⟨by kernel_rfl⟩
instance Tryz.cb21 : FB Tryz.prog 21 := ⟨by kernel_rfl⟩
instance Tryz.cb25 : FB Tryz.prog 25 := ⟨by kernel_rfl⟩
instance Tryz.cb30 : FB Tryz.prog 30 := ⟨by kernel_rfl⟩
instance Tryz.cb31 : FB Tryz.prog 31 := ⟨by kernel_rfl⟩
instance Tryz.cb32 : FB Tryz.prog 32 := ⟨by kernel_rfl⟩
instance Tryz.cb33 : FB Tryz.prog 33 := ⟨by kernel_rfl⟩
instance Tryz.cb41 : FB Tryz.prog 41 := ⟨by kernel_rfl⟩
instance Tryz.cb42 : FB Tryz.prog 42 := ⟨by kernel_rfl⟩
instance Tryz.cb43 : FB Tryz.prog 43 := ⟨by kernel_rfl⟩
instance Tryz.cb44 : FB Tryz.prog 44 := ⟨by kernel_rfl⟩
instance Tryz.cb45 : FB Tryz.prog 45 := ⟨by kernel_rfl⟩
instance Tryz.cb46 : FB Tryz.prog 46 := ⟨by kernel_rfl⟩
instance Tryz.cb47 : FB Tryz.prog 47 := ⟨by kernel_rfl⟩
instance Tryz.cb48 : FB Tryz.prog 48 := ⟨by kernel_rfl⟩
instance Tryz.cb54 : FB Tryz.prog 54 := ⟨by kernel_rfl⟩
instance Tryz.cb55 : FB Tryz.prog 55 := ⟨by kernel_rfl⟩
instance Tryz.cb56 : FB Tryz.prog 56 := ⟨by kernel_rfl⟩
instance Tryz.cb57 : FB Tryz.prog 57 := ⟨by kernel_rfl⟩
instance Tryz.cb58 : FB Tryz.prog 58 := ⟨by kernel_rfl⟩
instance Tryz.cb59 : FB Tryz.prog 59 := ⟨by kernel_rfl⟩
instance Tryz.cb60 : FB Tryz.prog 60 := ⟨by kernel_rfl⟩
instance Tryz.cb61 : FB Tryz.prog 61 := ⟨by kernel_rfl⟩
instance Tryz.cb62 : FB Tryz.prog 62 := ⟨by kernel_rfl⟩
instance Tryz.cb63 : FB Tryz.prog 63 := ⟨by kernel_rfl⟩
instance Tryz.cb64 : FB Tryz.prog 64 := ⟨by kernel_rfl⟩
instance Tryz.cb66 : FB Tryz.prog 66 := ⟨by kernel_rfl⟩
instance Tryz.cb67 : FB Tryz.prog 67 := ⟨by kernel_rfl⟩
instance Tryz.cb68 : FB Tryz.prog 68 := ⟨by kernel_rfl⟩
instance Tryz.cb69 : FB Tryz.prog 69 := ⟨by kernel_rfl⟩
instance Tryz.cb70 : FB Tryz.prog 70 := ⟨by kernel_rfl⟩
instance Tryz.cb71 : FB Tryz.prog 71 := ⟨by kernel_rfl⟩
instance Tryz.cb72 : FB Tryz.prog 72 := ⟨by kernel_rfl⟩
instance Tryz.cb73 : FB Tryz.prog 73 := ⟨by kernel_rfl⟩
instance Tryz.cb74 : FB Tryz.prog 74 := ⟨by kernel_rfl⟩
instance Tryz.cb75 : FB Tryz.prog 75 := ⟨by kernel_rfl⟩
instance Tryz.cb76 : FB Tryz.prog 76 := ⟨by kernel_rfl⟩
instance Tryz.cb77 : FB Tryz.prog 77 := ⟨by kernel_rfl⟩
instance Tryz.cb78 : FB Tryz.prog 78 := ⟨by kernel_rfl⟩
instance Tryz.cb79 : FB Tryz.prog 79 := ⟨by kernel_rfl⟩
instance Tryz.cb80 : FB Tryz.prog 80 := ⟨by kernel_rfl⟩
instance Tryz.cb81 : FB Tryz.prog 81 := ⟨by kernel_rfl⟩
instance Tryz.cb83 : FB Tryz.prog 83 := ⟨by kernel_rfl⟩
instance Tryz.cb86 : FB Tryz.prog 86 := ⟨by kernel_rfl⟩
instance Tryz.cb87 : FB Tryz.prog 87 := ⟨by kernel_rfl⟩
instance Tryz.cb88 : FB Tryz.prog 88 := ⟨by kernel_rfl⟩
instance Tryz.cb89 : FB Tryz.prog 89 := ⟨by kernel_rfl⟩
instance Tryz.cb90 : FB Tryz.prog 90 := ⟨by kernel_rfl⟩
instance Tryz.cb91 : FB Tryz.prog 91 := ⟨by kernel_rfl⟩
instance Tryz.cb92 : FB Tryz.prog 92 := ⟨by kernel_rfl⟩
instance Tryz.cb93 : FB Tryz.prog 93 := ⟨by kernel_rfl⟩
instance Tryz.cb94 : FB Tryz.prog 94 := ⟨by kernel_rfl⟩
instance Tryz.cb95 : FB Tryz.prog 95 := ⟨by kernel_rfl⟩
instance Tryz.cb96 : FB Tryz.prog 96 := ⟨by kernel_rfl⟩
instance Tryz.cb97 : FB Tryz.prog 97 := ⟨by kernel_rfl⟩
instance Tryz.cb98 : FB Tryz.prog 98 := ⟨by kernel_rfl⟩
instance Tryz.cb114 : FB Tryz.prog 114 := ⟨by kernel_rfl⟩
instance Tryz.cb115 : FB Tryz.prog 115 := ⟨by kernel_rfl⟩
instance Tryz.cb116 : FB Tryz.prog 116 := ⟨by kernel_rfl⟩
instance Tryz.cb117 : FB Tryz.prog 117 := ⟨by kernel_rfl⟩
instance Tryz.cb118 : FB Tryz.prog 118 := ⟨by kernel_rfl⟩
instance Tryz.cb119 : FB Tryz.prog 119 := ⟨by kernel_rfl⟩
instance Tryz.cb120 : FB Tryz.prog 120 := ⟨by kernel_rfl⟩
instance Tryz.cb121 : FB Tryz.prog 121 := ⟨by kernel_rfl⟩
instance Tryz.cb122 : FB Tryz.prog 122 := ⟨by kernel_rfl⟩
instance Tryz.cb123 : FB Tryz.prog 123 := ⟨by kernel_rfl⟩
instance Tryz.cb124 : FB Tryz.prog 124 := ⟨by kernel_rfl⟩
instance Tryz.cb125 : FB Tryz.prog 125 := ⟨by kernel_rfl⟩
instance Tryz.cb126 : FB Tryz.prog 126 := ⟨by kernel_rfl⟩
instance Tryz.cb127 : FB Tryz.prog 127 := ⟨by kernel_rfl⟩
instance Tryz.cb128 : FB Tryz.prog 128 := ⟨by kernel_rfl⟩
instance Tryz.cb129 : FB Tryz.prog 129 := ⟨by kernel_rfl⟩
instance Tryz.cb130 : FB Tryz.prog 130 := ⟨by kernel_rfl⟩
instance Tryz.cb131 : FB Tryz.prog 131 := ⟨by kernel_rfl⟩
instance Tryz.cb132 : FB Tryz.prog 132 := ⟨by kernel_rfl⟩
instance Tryz.cb133 : FB Tryz.prog 133 := ⟨by kernel_rfl⟩
instance Tryz.cb135 : FB Tryz.prog 135 := ⟨by kernel_rfl⟩
instance Tryz.cb142 : FB Tryz.prog 142 := ⟨by kernel_rfl⟩
instance Tryz.cb148 : FB Tryz.prog 148 := ⟨by kernel_rfl⟩
instance Tryz.cb149 : FB Tryz.prog 149 := ⟨by kernel_rfl⟩
instance Tryz.cb150 : FB Tryz.prog 150 := ⟨by kernel_rfl⟩
instance Tryz.cb151 : FB Tryz.prog 151 := ⟨by kernel_rfl⟩
instance Tryz.cb152 : FB Tryz.prog 152 := ⟨by kernel_rfl⟩
instance Tryz.cb153 : FB Tryz.prog 153 := ⟨by kernel_rfl⟩
instance Tryz.cb154 : FB Tryz.prog 154 := ⟨by kernel_rfl⟩
instance Tryz.cb155 : FB Tryz.prog 155 := ⟨by kernel_rfl⟩
instance Tryz.cb156 : FB Tryz.prog 156 := ⟨by kernel_rfl⟩
instance Tryz.cb157 : FB Tryz.prog 157 := ⟨by kernel_rfl⟩
instance Tryz.cb158 : FB Tryz.prog 158 := ⟨by kernel_rfl⟩
instance Tryz.cb159 : FB Tryz.prog 159 := ⟨by kernel_rfl⟩
instance Tryz.cb160 : FB Tryz.prog 160 := ⟨by kernel_rfl⟩
instance Tryz.cb161 : FB Tryz.prog 161 := ⟨by kernel_rfl⟩
instance Tryz.cb162 : FB Tryz.prog 162 := ⟨by kernel_rfl⟩
instance Tryz.cb163 : FB Tryz.prog 163 := ⟨by kernel_rfl⟩
instance Tryz.cb164 : FB Tryz.prog 164 := ⟨by kernel_rfl⟩
instance Tryz.cb165 : FB Tryz.prog 165 := ⟨by kernel_rfl⟩
instance Tryz.cb166 : FB Tryz.prog 166 := ⟨by kernel_rfl⟩
instance Tryz.cb167 : FB Tryz.prog 167 := ⟨by kernel_rfl⟩
instance Tryz.cb168 : FB Tryz.prog 168 := ⟨by kernel_rfl⟩
instance Tryz.cb169 : FB Tryz.prog 169 := ⟨by kernel_rfl⟩
instance Tryz.cb170 : FB Tryz.prog 170 := ⟨by kernel_rfl⟩
instance Tryz.cb171 : FB Tryz.prog 171 := ⟨by kernel_rfl⟩
instance Tryz.cb175 : FB Tryz.prog 175 := ⟨by kernel_rfl⟩
instance Tryz.cb183 : FB Tryz.prog 183 := ⟨by kernel_rfl⟩
instance Tryz.cb184 : FB Tryz.prog 184 := ⟨by kernel_rfl⟩
instance Tryz.cb185 : FB Tryz.prog 185 := ⟨by kernel_rfl⟩
instance Tryz.cb186 : FB Tryz.prog 186 := ⟨by kernel_rfl⟩
instance Tryz.cb187 : FB Tryz.prog 187 := ⟨by kernel_rfl⟩
instance Tryz.cb188 : FB Tryz.prog 188 := ⟨by kernel_rfl⟩
instance Tryz.cb189 : FB Tryz.prog 189 := ⟨by kernel_rfl⟩
instance Tryz.cb190 : FB Tryz.prog 190 := ⟨by kernel_rfl⟩
instance Tryz.cb191 : FB Tryz.prog 191 := ⟨by kernel_rfl⟩
instance Tryz.cb192 : FB Tryz.prog 192 := ⟨by kernel_rfl⟩
instance Tryz.cb193 : FB Tryz.prog 193 := ⟨by kernel_rfl⟩
instance Tryz.cb196 : FB Tryz.prog 196 := ⟨by kernel_rfl⟩
instance Tryz.cb197 : FB Tryz.prog 197 := ⟨by kernel_rfl⟩
instance Tryz.cb198 : FB Tryz.prog 198 := ⟨by kernel_rfl⟩
instance Tryz.cb199 : FB Tryz.prog 199 := ⟨by kernel_rfl⟩
instance Tryz.cb200 : FB Tryz.prog 200 := ⟨by kernel_rfl⟩
instance Tryz.cb201 : FB Tryz.prog 201 := ⟨by kernel_rfl⟩
instance Tryz.cb202 : FB Tryz.prog 202 := ⟨by kernel_rfl⟩
instance Tryz.cb203 : FB Tryz.prog 203 := ⟨by kernel_rfl⟩
instance Tryz.cb204 : FB Tryz.prog 204 := ⟨by kernel_rfl⟩
instance Tryz.cb205 : FB Tryz.prog 205 := ⟨by kernel_rfl⟩
instance Tryz.cb206 : FB Tryz.prog 206 := ⟨by kernel_rfl⟩
instance Tryz.cb207 : FB Tryz.prog 207 := ⟨by kernel_rfl⟩
instance Tryz.cb208 : FB Tryz.prog 208 := ⟨by kernel_rfl⟩
instance Tryz.cb209 : FB Tryz.prog 209 := ⟨by kernel_rfl⟩
instance Tryz.cb210 : FB Tryz.prog 210 := ⟨by kernel_rfl⟩
instance Tryz.cb211 : FB Tryz.prog 211 := ⟨by kernel_rfl⟩
instance Tryz.cb212 : FB Tryz.prog 212 := ⟨by kernel_rfl⟩
instance Tryz.cb213 : FB Tryz.prog 213 := ⟨by kernel_rfl⟩
instance Tryz.cb214 : FB Tryz.prog 214 := ⟨by kernel_rfl⟩
instance Tryz.cb215 : FB Tryz.prog 215 := ⟨by kernel_rfl⟩
instance Tryz.cb216 : FB Tryz.prog 216 := ⟨by kernel_rfl⟩
instance Tryz.cb217 : FB Tryz.prog 217 := ⟨by kernel_rfl⟩
instance Tryz.cb218 : FB Tryz.prog 218 := ⟨by kernel_rfl⟩
instance Tryz.cb219 : FB Tryz.prog 219 := ⟨by kernel_rfl⟩
instance Tryz.cb220 : FB Tryz.prog 220 := ⟨by kernel_rfl⟩
instance Tryz.cb221 : FB Tryz.prog 221 := ⟨by kernel_rfl⟩
instance Tryz.cb222 : FB Tryz.prog 222 := ⟨by kernel_rfl⟩
instance Tryz.cb223 : FB Tryz.prog 223 := ⟨by kernel_rfl⟩
instance Tryz.cb224 : FB Tryz.prog 224 := ⟨by kernel_rfl⟩
instance Tryz.cb225 : FB Tryz.prog 225 := ⟨by kernel_rfl⟩
instance Tryz.cb226 : FB Tryz.prog 226 := ⟨by kernel_rfl⟩
instance Tryz.cb227 : FB Tryz.prog 227 := ⟨by kernel_rfl⟩
instance Tryz.cb228 : FB Tryz.prog 228 := ⟨by kernel_rfl⟩
instance Tryz.cb229 : FB Tryz.prog 229 := ⟨by kernel_rfl⟩
instance Tryz.cb230 : FB Tryz.prog 230 := ⟨by kernel_rfl⟩
instance Tryz.cb231 : FB Tryz.prog 231 := ⟨by kernel_rfl⟩
instance Tryz.cb232 : FB Tryz.prog 232 := ⟨by kernel_rfl⟩
instance Tryz.cb233 : FB Tryz.prog 233 := ⟨by kernel_rfl⟩
instance Tryz.cb234 : FB Tryz.prog 234 := ⟨by kernel_rfl⟩
instance Tryz.cb235 : FB Tryz.prog 235 := ⟨by kernel_rfl⟩
instance Tryz.cb236 : FB Tryz.prog 236 := ⟨by kernel_rfl⟩
instance Tryz.cb237 : FB Tryz.prog 237 := ⟨by kernel_rfl⟩
instance Tryz.cb238 : FB Tryz.prog 238 := ⟨by kernel_rfl⟩
instance Tryz.cb239 : FB Tryz.prog 239 := ⟨by kernel_rfl⟩
instance Tryz.cb240 : FB Tryz.prog 240 := ⟨by kernel_rfl⟩
instance Tryz.cb241 : FB Tryz.prog 241 := ⟨by kernel_rfl⟩
instance Tryz.cb242 : FB Tryz.prog 242 := ⟨by kernel_rfl⟩
instance Tryz.cb243 : FB Tryz.prog 243 := ⟨by kernel_rfl⟩
instance Tryz.cb244 : FB Tryz.prog 244 := ⟨by kernel_rfl⟩
instance Tryz.cb245 : FB Tryz.prog 245 := ⟨by kernel_rfl⟩
instance Tryz.cb246 : FB Tryz.prog 246 := ⟨by kernel_rfl⟩
instance Tryz.cb247 : FB Tryz.prog 247 := ⟨by kernel_rfl⟩
instance Tryz.cb248 : FB Tryz.prog 248 := ⟨by kernel_rfl⟩
instance Tryz.cb249 : FB Tryz.prog 249 := ⟨by kernel_rfl⟩
instance Tryz.cb250 : FB Tryz.prog 250 := ⟨by kernel_rfl⟩
instance Tryz.cb251 : FB Tryz.prog 251 := ⟨by kernel_rfl⟩
instance Tryz.cb252 : FB Tryz.prog 252 := ⟨by kernel_rfl⟩
instance Tryz.cb253 : FB Tryz.prog 253 := ⟨by kernel_rfl⟩
instance Tryz.cb254 : FB Tryz.prog 254 := ⟨by kernel_rfl⟩
instance Tryz.cb255 : FB Tryz.prog 255 := ⟨by kernel_rfl⟩
instance Tryz.cb256 : FB Tryz.prog 256 := ⟨by kernel_rfl⟩
instance Tryz.cb257 : FB Tryz.prog 257 := ⟨by kernel_rfl⟩
theorem Tryz.xt194 : extB Tryz.prog 194 Extern.BytealgIndexByte.indexByte := fun args w => Go.run_callFunc_extern Tryz.func194 (by kernel_rfl) (by kernel_rfl) (by kernel_rfl) (by kernel_rfl) args w
instance Tryz.iu2 : FU Tryz.prog 2 (.int .i64) := ⟨Tryz.underlying2⟩
instance Tryz.ag3 : FA Tryz.prog 3 false := ⟨by kernel_rfl⟩
instance Tryz.cz3 : FC Tryz.prog 3 1 := ⟨by kernel_rfl⟩
instance Tryz.iu3 : FU Tryz.prog 3 (.int .i64) := ⟨Tryz.underlying3⟩
instance Tryz.by3 : FY Tryz.prog 3 8 := ⟨by kernel_rfl⟩
instance Tryz.zb3 : FZ Tryz.prog 3 [.int .i64 0] := ⟨by kernel_rfl⟩
instance Tryz.ag4 : FA Tryz.prog 4 false := ⟨by kernel_rfl⟩
instance Tryz.cz4 : FC Tryz.prog 4 1 := ⟨by kernel_rfl⟩
instance Tryz.by4 : FY Tryz.prog 4 1 := ⟨by kernel_rfl⟩
instance Tryz.zb4 : FZ Tryz.prog 4 [.bool false] := ⟨by kernel_rfl⟩
instance Tryz.ag5 : FA Tryz.prog 5 false := ⟨by kernel_rfl⟩
instance Tryz.cz5 : FC Tryz.prog 5 1 := ⟨by kernel_rfl⟩
instance Tryz.iu5 : FU Tryz.prog 5 (.int .u8) := ⟨Tryz.underlying5⟩
instance Tryz.by5 : FY Tryz.prog 5 1 := ⟨by kernel_rfl⟩
instance Tryz.zb5 : FZ Tryz.prog 5 [.int .u8 0] := ⟨by kernel_rfl⟩
instance Tryz.ag9 : FA Tryz.prog 9 false := ⟨by kernel_rfl⟩
instance Tryz.cz9 : FC Tryz.prog 9 1 := ⟨by kernel_rfl⟩
instance Tryz.iu9 : FU Tryz.prog 9 .string := ⟨Tryz.underlying9⟩
instance Tryz.by9 : FY Tryz.prog 9 16 := ⟨by kernel_rfl⟩
instance Tryz.zb9 : FZ Tryz.prog 9 [.string ⟨#[]⟩] := ⟨by kernel_rfl⟩
instance Tryz.iu21 : FU Tryz.prog 21 (.int .i32) := ⟨Tryz.underlying21⟩
instance Tryz.ag22 : FA Tryz.prog 22 false := ⟨by kernel_rfl⟩
instance Tryz.cz22 : FC Tryz.prog 22 1 := ⟨by kernel_rfl⟩
instance Tryz.iu22 : FU Tryz.prog 22 (.slice 65) := ⟨Tryz.underlying22⟩
instance Tryz.ag23 : FA Tryz.prog 23 false := ⟨by kernel_rfl⟩
instance Tryz.cz23 : FC Tryz.prog 23 1 := ⟨by kernel_rfl⟩
instance Tryz.iu23 : FU Tryz.prog 23 (.slice 116) := ⟨Tryz.underlying23⟩
instance Tryz.ag24 : FA Tryz.prog 24 false := ⟨by kernel_rfl⟩
instance Tryz.cz24 : FC Tryz.prog 24 1 := ⟨by kernel_rfl⟩
instance Tryz.iu24 : FU Tryz.prog 24 (.slice 73) := ⟨Tryz.underlying24⟩
instance Tryz.ag25 : FA Tryz.prog 25 false := ⟨by kernel_rfl⟩
instance Tryz.cz25 : FC Tryz.prog 25 1 := ⟨by kernel_rfl⟩
instance Tryz.iu25 : FU Tryz.prog 25 (.slice 145) := ⟨Tryz.underlying25⟩
instance Tryz.ag26 : FA Tryz.prog 26 false := ⟨by kernel_rfl⟩
instance Tryz.cz26 : FC Tryz.prog 26 1 := ⟨by kernel_rfl⟩
instance Tryz.iu26 : FU Tryz.prog 26 (.slice 88) := ⟨Tryz.underlying26⟩
instance Tryz.ag27 : FA Tryz.prog 27 false := ⟨by kernel_rfl⟩
instance Tryz.cz27 : FC Tryz.prog 27 1 := ⟨by kernel_rfl⟩
instance Tryz.iu27 : FU Tryz.prog 27 (.slice 119) := ⟨Tryz.underlying27⟩
instance Tryz.ag28 : FA Tryz.prog 28 false := ⟨by kernel_rfl⟩
instance Tryz.cz28 : FC Tryz.prog 28 1 := ⟨by kernel_rfl⟩
instance Tryz.iu28 : FU Tryz.prog 28 (.slice 121) := ⟨Tryz.underlying28⟩
instance Tryz.ag29 : FA Tryz.prog 29 false := ⟨by kernel_rfl⟩
instance Tryz.cz29 : FC Tryz.prog 29 1 := ⟨by kernel_rfl⟩
instance Tryz.iu29 : FU Tryz.prog 29 (.slice 52) := ⟨Tryz.underlying29⟩
instance Tryz.ag31 : FA Tryz.prog 31 true := ⟨by kernel_rfl⟩
instance Tryz.cz31 : FC Tryz.prog 31 10 := ⟨by kernel_rfl⟩
instance Tryz.fd31_0 : FF Tryz.prog 31 0 0 := ⟨by kernel_rfl⟩
instance Tryz.fd31_1 : FF Tryz.prog 31 1 1 := ⟨by kernel_rfl⟩
instance Tryz.fd31_2 : FF Tryz.prog 31 2 2 := ⟨by kernel_rfl⟩
instance Tryz.fd31_3 : FF Tryz.prog 31 3 3 := ⟨by kernel_rfl⟩
instance Tryz.fd31_4 : FF Tryz.prog 31 4 4 := ⟨by kernel_rfl⟩
instance Tryz.fd31_5 : FF Tryz.prog 31 5 5 := ⟨by kernel_rfl⟩
instance Tryz.fd31_6 : FF Tryz.prog 31 6 6 := ⟨by kernel_rfl⟩
instance Tryz.fd31_7 : FF Tryz.prog 31 7 7 := ⟨by kernel_rfl⟩
instance Tryz.fd31_8 : FF Tryz.prog 31 8 8 := ⟨by kernel_rfl⟩
instance Tryz.fd31_9 : FF Tryz.prog 31 9 9 := ⟨by kernel_rfl⟩
instance Tryz.ag35 : FA Tryz.prog 35 false := ⟨by kernel_rfl⟩
instance Tryz.cz35 : FC Tryz.prog 35 1 := ⟨by kernel_rfl⟩
instance Tryz.zb35 : FZ Tryz.prog 35 [.int .i64 0] := ⟨by kernel_rfl⟩
instance Tryz.ag38 : FA Tryz.prog 38 false := ⟨by kernel_rfl⟩
instance Tryz.iu38 : FU Tryz.prog 38 (.pointer 83) := ⟨Tryz.underlying38⟩
instance Tryz.iu41 : FU Tryz.prog 41 (.slice 9) := ⟨Tryz.underlying41⟩
instance Tryz.ag48 : FA Tryz.prog 48 false := ⟨by kernel_rfl⟩
instance Tryz.cz48 : FC Tryz.prog 48 1 := ⟨by kernel_rfl⟩
instance Tryz.iu48 : FU Tryz.prog 48 (.int .u64) := ⟨Tryz.underlying48⟩
instance Tryz.by48 : FY Tryz.prog 48 8 := ⟨by kernel_rfl⟩
instance Tryz.zb48 : FZ Tryz.prog 48 [.int .u64 0] := ⟨by kernel_rfl⟩
instance Tryz.ag50 : FA Tryz.prog 50 false := ⟨by kernel_rfl⟩
instance Tryz.cz50 : FC Tryz.prog 50 1 := ⟨by kernel_rfl⟩
instance Tryz.iu50 : FU Tryz.prog 50 (.slice 5) := ⟨Tryz.underlying50⟩
instance Tryz.by50 : FY Tryz.prog 50 24 := ⟨by kernel_rfl⟩
instance Tryz.zb50 : FZ Tryz.prog 50 [.slice none 0 0] := ⟨by kernel_rfl⟩
instance Tryz.ag52 : FA Tryz.prog 52 true := ⟨by kernel_rfl⟩
instance Tryz.cz52 : FC Tryz.prog 52 3 := ⟨by kernel_rfl⟩
instance Tryz.zb52 : FZ Tryz.prog 52 [.int .i64 0, .int .u64 0, .slice none 0 0] := ⟨by kernel_rfl⟩
instance Tryz.fd52_0 : FF Tryz.prog 52 0 0 := ⟨by kernel_rfl⟩
instance Tryz.fd52_1 : FF Tryz.prog 52 1 1 := ⟨by kernel_rfl⟩
instance Tryz.fd52_2 : FF Tryz.prog 52 2 2 := ⟨by kernel_rfl⟩
instance Tryz.ag58 : FA Tryz.prog 58 true := ⟨by kernel_rfl⟩
instance Tryz.cz58 : FC Tryz.prog 58 8 := ⟨by kernel_rfl⟩
instance Tryz.zb58 : FZ Tryz.prog 58 [.int .i64 0, .int .i64 0, .int .i64 0, .int .i64 0, .int .i64 0, .int .i64 0, .int .i64 0, .slice none 0 0] := ⟨by kernel_rfl⟩
instance Tryz.pl58 : FP Tryz.prog 58 [(0, 1), (1, 1), (2, 1), (3, 1), (4, 1), (5, 1), (6, 1), (7, 1)] := ⟨by kernel_rfl⟩
instance Tryz.fd58_1 : FF Tryz.prog 58 1 1 := ⟨by kernel_rfl⟩
instance Tryz.fd58_2 : FF Tryz.prog 58 2 2 := ⟨by kernel_rfl⟩
instance Tryz.fd58_4 : FF Tryz.prog 58 4 4 := ⟨by kernel_rfl⟩
instance Tryz.fd58_5 : FF Tryz.prog 58 5 5 := ⟨by kernel_rfl⟩
instance Tryz.fd58_6 : FF Tryz.prog 58 6 6 := ⟨by kernel_rfl⟩
instance Tryz.ag60 : FA Tryz.prog 60 true := ⟨by kernel_rfl⟩
instance Tryz.cz60 : FC Tryz.prog 60 5 := ⟨by kernel_rfl⟩
instance Tryz.zb60 : FZ Tryz.prog 60 [.int .i64 0, .int .i64 0, .int .i64 0, .int .i64 0, .int .i64 0] := ⟨by kernel_rfl⟩
instance Tryz.pl60 : FP Tryz.prog 60 [(0, 1), (1, 1), (2, 1), (3, 1), (4, 1)] := ⟨by kernel_rfl⟩
theorem Tryz.sh60 : Tryz.prog.stoodInHeld 60 = false := by kernel_rfl
theorem Tryz.eg60 : Tryz.prog.eqGuardType Tryz.prog.depth 60 = false := by kernel_rfl
instance Tryz.fd60_0 : FF Tryz.prog 60 0 0 := ⟨by kernel_rfl⟩
instance Tryz.fd60_1 : FF Tryz.prog 60 1 1 := ⟨by kernel_rfl⟩
instance Tryz.fd60_2 : FF Tryz.prog 60 2 2 := ⟨by kernel_rfl⟩
instance Tryz.fd60_3 : FF Tryz.prog 60 3 3 := ⟨by kernel_rfl⟩
instance Tryz.fd60_4 : FF Tryz.prog 60 4 4 := ⟨by kernel_rfl⟩
instance Tryz.ag65 : FA Tryz.prog 65 true := ⟨by kernel_rfl⟩
instance Tryz.cz65 : FC Tryz.prog 65 2 := ⟨by kernel_rfl⟩
instance Tryz.zb65 : FZ Tryz.prog 65 [.slice none 0 0, .slice none 0 0] := ⟨by kernel_rfl⟩
instance Tryz.fd65_0 : FF Tryz.prog 65 0 0 := ⟨by kernel_rfl⟩
instance Tryz.fd65_1 : FF Tryz.prog 65 1 1 := ⟨by kernel_rfl⟩
instance Tryz.ag66 : FA Tryz.prog 66 false := ⟨by kernel_rfl⟩
instance Tryz.cz66 : FC Tryz.prog 66 1 := ⟨by kernel_rfl⟩
instance Tryz.iu66 : FU Tryz.prog 66 (.slice 48) := ⟨Tryz.underlying66⟩
instance Tryz.ag68 : FA Tryz.prog 68 true := ⟨by kernel_rfl⟩
instance Tryz.cz68 : FC Tryz.prog 68 5 := ⟨by kernel_rfl⟩
instance Tryz.zb68 : FZ Tryz.prog 68 [.int .i64 0, .int .u64 0, .int .u64 0, .int .i64 0, .slice none 0 0] := ⟨by kernel_rfl⟩
instance Tryz.fd68_0 : FF Tryz.prog 68 0 0 := ⟨by kernel_rfl⟩
instance Tryz.fd68_1 : FF Tryz.prog 68 1 1 := ⟨by kernel_rfl⟩
instance Tryz.fd68_2 : FF Tryz.prog 68 2 2 := ⟨by kernel_rfl⟩
instance Tryz.fd68_3 : FF Tryz.prog 68 3 3 := ⟨by kernel_rfl⟩
instance Tryz.fd68_4 : FF Tryz.prog 68 4 4 := ⟨by kernel_rfl⟩
instance Tryz.ag69 : FA Tryz.prog 69 false := ⟨by kernel_rfl⟩
instance Tryz.cz69 : FC Tryz.prog 69 1 := ⟨by kernel_rfl⟩
instance Tryz.iu69 : FU Tryz.prog 69 (.slice 68) := ⟨Tryz.underlying69⟩
instance Tryz.ag71 : FA Tryz.prog 71 true := ⟨by kernel_rfl⟩
instance Tryz.cz71 : FC Tryz.prog 71 2 := ⟨by kernel_rfl⟩
instance Tryz.fd71_0 : FF Tryz.prog 71 0 0 := ⟨by kernel_rfl⟩
instance Tryz.fd71_1 : FF Tryz.prog 71 1 1 := ⟨by kernel_rfl⟩
instance Tryz.cz73 : FC Tryz.prog 73 3 := ⟨by kernel_rfl⟩
instance Tryz.fd73_0 : FF Tryz.prog 73 0 0 := ⟨by kernel_rfl⟩
instance Tryz.fd73_1 : FF Tryz.prog 73 1 1 := ⟨by kernel_rfl⟩
instance Tryz.ag80 : FA Tryz.prog 80 false := ⟨by kernel_rfl⟩
instance Tryz.cz80 : FC Tryz.prog 80 1 := ⟨by kernel_rfl⟩
instance Tryz.iu80 : FU Tryz.prog 80 (.slice 93) := ⟨Tryz.underlying80⟩
instance Tryz.ag81 : FA Tryz.prog 81 false := ⟨by kernel_rfl⟩
instance Tryz.cz81 : FC Tryz.prog 81 1 := ⟨by kernel_rfl⟩
instance Tryz.iu81 : FU Tryz.prog 81 (.slice 99) := ⟨Tryz.underlying81⟩
instance Tryz.zb83 : FZ Tryz.prog 83 [.slice none 0 0, .slice none 0 0, .slice none 0 0, .int .i64 0, .slice none 0 0, .slice none 0 0, .slice none 0 0, .int .i64 0, .slice none 0 0, .slice none 0 0] := ⟨by kernel_rfl⟩
instance Tryz.pl83 : FP Tryz.prog 83 [(0, 1), (1, 1), (2, 1), (3, 1), (4, 1), (5, 1), (6, 1), (7, 1), (8, 1), (9, 1)] := ⟨by kernel_rfl⟩
instance Tryz.fd83_0 : FF Tryz.prog 83 0 0 := ⟨by kernel_rfl⟩
instance Tryz.fd83_1 : FF Tryz.prog 83 1 1 := ⟨by kernel_rfl⟩
instance Tryz.fd83_2 : FF Tryz.prog 83 2 2 := ⟨by kernel_rfl⟩
instance Tryz.fd83_3 : FF Tryz.prog 83 3 3 := ⟨by kernel_rfl⟩
instance Tryz.fd83_4 : FF Tryz.prog 83 4 4 := ⟨by kernel_rfl⟩
instance Tryz.fd83_5 : FF Tryz.prog 83 5 5 := ⟨by kernel_rfl⟩
instance Tryz.fd83_6 : FF Tryz.prog 83 6 6 := ⟨by kernel_rfl⟩
instance Tryz.fd83_7 : FF Tryz.prog 83 7 7 := ⟨by kernel_rfl⟩
instance Tryz.fd83_8 : FF Tryz.prog 83 8 8 := ⟨by kernel_rfl⟩
instance Tryz.fd83_9 : FF Tryz.prog 83 9 9 := ⟨by kernel_rfl⟩
instance Tryz.ag86 : FA Tryz.prog 86 false := ⟨by kernel_rfl⟩
instance Tryz.cz86 : FC Tryz.prog 86 1 := ⟨by kernel_rfl⟩
instance Tryz.iu86 : FU Tryz.prog 86 (.int .u8) := ⟨Tryz.underlying86⟩
instance Tryz.by86 : FY Tryz.prog 86 1 := ⟨by kernel_rfl⟩
instance Tryz.zb86 : FZ Tryz.prog 86 [.int .u8 0] := ⟨by kernel_rfl⟩
instance Tryz.ag88 : FA Tryz.prog 88 true := ⟨by kernel_rfl⟩
instance Tryz.cz88 : FC Tryz.prog 88 3 := ⟨by kernel_rfl⟩
instance Tryz.zb88 : FZ Tryz.prog 88 [.int .u8 0, .bool false, .int .u64 0] := ⟨by kernel_rfl⟩
instance Tryz.fd88_0 : FF Tryz.prog 88 0 0 := ⟨by kernel_rfl⟩
instance Tryz.fd88_1 : FF Tryz.prog 88 1 1 := ⟨by kernel_rfl⟩
instance Tryz.fd88_2 : FF Tryz.prog 88 2 2 := ⟨by kernel_rfl⟩
instance Tryz.ag90 : FA Tryz.prog 90 false := ⟨by kernel_rfl⟩
instance Tryz.cz90 : FC Tryz.prog 90 1 := ⟨by kernel_rfl⟩
instance Tryz.iu90 : FU Tryz.prog 90 (.slice 86) := ⟨Tryz.underlying90⟩
instance Tryz.zb90 : FZ Tryz.prog 90 [.slice none 0 0] := ⟨by kernel_rfl⟩
instance Tryz.ag93 : FA Tryz.prog 93 true := ⟨by kernel_rfl⟩
instance Tryz.cz93 : FC Tryz.prog 93 2 := ⟨by kernel_rfl⟩
instance Tryz.by93 : FY Tryz.prog 93 48 := ⟨by kernel_rfl⟩
instance Tryz.zb93 : FZ Tryz.prog 93 [.slice none 0 0, .slice none 0 0] := ⟨by kernel_rfl⟩
instance Tryz.pl93 : FP Tryz.prog 93 [(0, 1), (1, 1)] := ⟨by kernel_rfl⟩
instance Tryz.fd93_0 : FF Tryz.prog 93 0 0 := ⟨by kernel_rfl⟩
instance Tryz.fd93_1 : FF Tryz.prog 93 1 1 := ⟨by kernel_rfl⟩
instance Tryz.ag94 : FA Tryz.prog 94 false := ⟨by kernel_rfl⟩
instance Tryz.iu94 : FU Tryz.prog 94 (.slice 128) := ⟨Tryz.underlying94⟩
instance Tryz.ag96 : FA Tryz.prog 96 true := ⟨by kernel_rfl⟩
instance Tryz.cz96 : FC Tryz.prog 96 2 := ⟨by kernel_rfl⟩
instance Tryz.zb96 : FZ Tryz.prog 96 [.slice none 0 0, .slice none 0 0] := ⟨by kernel_rfl⟩
instance Tryz.pl96 : FP Tryz.prog 96 [(0, 1), (1, 1)] := ⟨by kernel_rfl⟩
instance Tryz.fd96_0 : FF Tryz.prog 96 0 0 := ⟨by kernel_rfl⟩
instance Tryz.fd96_1 : FF Tryz.prog 96 1 1 := ⟨by kernel_rfl⟩
instance Tryz.cz99 : FC Tryz.prog 99 3 := ⟨by kernel_rfl⟩
instance Tryz.by99 : FY Tryz.prog 99 56 := ⟨by kernel_rfl⟩
instance Tryz.zb99 : FZ Tryz.prog 99 [.int .i64 0, .slice none 0 0, .slice none 0 0] := ⟨by kernel_rfl⟩
instance Tryz.pl99 : FP Tryz.prog 99 [(0, 1), (1, 2)] := ⟨by kernel_rfl⟩
instance Tryz.fd99_0 : FF Tryz.prog 99 0 0 := ⟨by kernel_rfl⟩
instance Tryz.fd99_1 : FF Tryz.prog 99 1 1 := ⟨by kernel_rfl⟩
instance Tryz.ag102 : FA Tryz.prog 102 false := ⟨by kernel_rfl⟩
instance Tryz.cz102 : FC Tryz.prog 102 1 := ⟨by kernel_rfl⟩
instance Tryz.iu102 : FU Tryz.prog 102 (.slice 3) := ⟨Tryz.underlying102⟩
instance Tryz.ag104 : FA Tryz.prog 104 true := ⟨by kernel_rfl⟩
instance Tryz.cz104 : FC Tryz.prog 104 3 := ⟨by kernel_rfl⟩
instance Tryz.zb104 : FZ Tryz.prog 104 [.int .i64 0, .int .i64 0, .slice none 0 0] := ⟨by kernel_rfl⟩
instance Tryz.pl104 : FP Tryz.prog 104 [(0, 1), (1, 1), (2, 1)] := ⟨by kernel_rfl⟩
instance Tryz.fd104_0 : FF Tryz.prog 104 0 0 := ⟨by kernel_rfl⟩
instance Tryz.fd104_1 : FF Tryz.prog 104 1 1 := ⟨by kernel_rfl⟩
instance Tryz.fd104_2 : FF Tryz.prog 104 2 2 := ⟨by kernel_rfl⟩
instance Tryz.ag116 : FA Tryz.prog 116 true := ⟨by kernel_rfl⟩
instance Tryz.cz116 : FC Tryz.prog 116 3 := ⟨by kernel_rfl⟩
instance Tryz.zb116 : FZ Tryz.prog 116 [.string ⟨#[]⟩, .string ⟨#[]⟩, .int .i64 0] := ⟨by kernel_rfl⟩
instance Tryz.fd116_0 : FF Tryz.prog 116 0 0 := ⟨by kernel_rfl⟩
instance Tryz.fd116_1 : FF Tryz.prog 116 1 1 := ⟨by kernel_rfl⟩
instance Tryz.fd116_2 : FF Tryz.prog 116 2 2 := ⟨by kernel_rfl⟩
instance Tryz.ag119 : FA Tryz.prog 119 true := ⟨by kernel_rfl⟩
instance Tryz.cz119 : FC Tryz.prog 119 3 := ⟨by kernel_rfl⟩
instance Tryz.zb119 : FZ Tryz.prog 119 [.string ⟨#[]⟩, .int .i64 0, .int .i64 0] := ⟨by kernel_rfl⟩
instance Tryz.fd119_0 : FF Tryz.prog 119 0 0 := ⟨by kernel_rfl⟩
instance Tryz.fd119_1 : FF Tryz.prog 119 1 1 := ⟨by kernel_rfl⟩
instance Tryz.fd119_2 : FF Tryz.prog 119 2 2 := ⟨by kernel_rfl⟩
instance Tryz.ag121 : FA Tryz.prog 121 true := ⟨by kernel_rfl⟩
instance Tryz.cz121 : FC Tryz.prog 121 2 := ⟨by kernel_rfl⟩
instance Tryz.zb121 : FZ Tryz.prog 121 [.int .u64 0, .slice none 0 0] := ⟨by kernel_rfl⟩
instance Tryz.fd121_0 : FF Tryz.prog 121 0 0 := ⟨by kernel_rfl⟩
instance Tryz.fd121_1 : FF Tryz.prog 121 1 1 := ⟨by kernel_rfl⟩
instance Tryz.ag123 : FA Tryz.prog 123 true := ⟨by kernel_rfl⟩
instance Tryz.cz123 : FC Tryz.prog 123 4 := ⟨by kernel_rfl⟩
instance Tryz.by123 : FY Tryz.prog 123 40 := ⟨by kernel_rfl⟩
instance Tryz.zb123 : FZ Tryz.prog 123 [.string ⟨#[]⟩, .int .i64 0, .int .i64 0, .int .i64 0] := ⟨by kernel_rfl⟩
instance Tryz.pl123 : FP Tryz.prog 123 [(0, 1), (1, 1), (2, 1), (3, 1)] := ⟨by kernel_rfl⟩
instance Tryz.ag127 : FA Tryz.prog 127 true := ⟨by kernel_rfl⟩
instance Tryz.cz127 : FC Tryz.prog 127 4 := ⟨by kernel_rfl⟩
instance Tryz.iu127 : FU Tryz.prog 127 (.array 4 3) := ⟨Tryz.underlying127⟩
instance Tryz.zb127 : FZ Tryz.prog 127 [.int .i64 0, .int .i64 0, .int .i64 0, .int .i64 0] := ⟨by kernel_rfl⟩
instance Tryz.ar127 : FR Tryz.prog 127 (4, 1) := ⟨by kernel_rfl⟩
instance Tryz.ag128 : FA Tryz.prog 128 true := ⟨by kernel_rfl⟩
instance Tryz.cz128 : FC Tryz.prog 128 5 := ⟨by kernel_rfl⟩
instance Tryz.by128 : FY Tryz.prog 128 56 := ⟨by kernel_rfl⟩
instance Tryz.zb128 : FZ Tryz.prog 128 [.int .i64 0, .int .u64 0, .int .u64 0, .int .i64 0, .slice none 0 0] := ⟨by kernel_rfl⟩
instance Tryz.pl128 : FP Tryz.prog 128 [(0, 1), (1, 1), (2, 1), (3, 1), (4, 1)] := ⟨by kernel_rfl⟩
instance Tryz.fd128_0 : FF Tryz.prog 128 0 0 := ⟨by kernel_rfl⟩
instance Tryz.fd128_1 : FF Tryz.prog 128 1 1 := ⟨by kernel_rfl⟩
instance Tryz.fd128_2 : FF Tryz.prog 128 2 2 := ⟨by kernel_rfl⟩
instance Tryz.fd128_3 : FF Tryz.prog 128 3 3 := ⟨by kernel_rfl⟩
instance Tryz.fd128_4 : FF Tryz.prog 128 4 4 := ⟨by kernel_rfl⟩
instance Tryz.ag137 : FA Tryz.prog 137 true := ⟨by kernel_rfl⟩
instance Tryz.cz137 : FC Tryz.prog 137 5 := ⟨by kernel_rfl⟩
instance Tryz.zb137 : FZ Tryz.prog 137 [.int .i64 0, .string ⟨#[]⟩, .int .i64 0, .slice none 0 0, .slice none 0 0] := ⟨by kernel_rfl⟩
instance Tryz.pl137 : FP Tryz.prog 137 [(0, 1), (1, 1), (2, 1), (3, 1), (4, 1)] := ⟨by kernel_rfl⟩
instance Tryz.fd137_1 : FF Tryz.prog 137 1 1 := ⟨by kernel_rfl⟩
instance Tryz.fd137_2 : FF Tryz.prog 137 2 2 := ⟨by kernel_rfl⟩
instance Tryz.fd137_3 : FF Tryz.prog 137 3 3 := ⟨by kernel_rfl⟩
instance Tryz.fd137_4 : FF Tryz.prog 137 4 4 := ⟨by kernel_rfl⟩
instance Tryz.ag145 : FA Tryz.prog 145 true := ⟨by kernel_rfl⟩
instance Tryz.cz145 : FC Tryz.prog 145 3 := ⟨by kernel_rfl⟩
instance Tryz.zb145 : FZ Tryz.prog 145 [.int .i64 0, .int .i64 0, .bool false] := ⟨by kernel_rfl⟩
instance Tryz.fd145_0 : FF Tryz.prog 145 0 0 := ⟨by kernel_rfl⟩
instance Tryz.fd145_1 : FF Tryz.prog 145 1 1 := ⟨by kernel_rfl⟩
instance Tryz.fd145_2 : FF Tryz.prog 145 2 2 := ⟨by kernel_rfl⟩
instance Tryz.ag150 : FA Tryz.prog 150 false := ⟨by kernel_rfl⟩
instance Tryz.cz150 : FC Tryz.prog 150 1 := ⟨by kernel_rfl⟩
instance Tryz.iu150 : FU Tryz.prog 150 (.slice 152) := ⟨Tryz.underlying150⟩
instance Tryz.ag151 : FA Tryz.prog 151 false := ⟨by kernel_rfl⟩
instance Tryz.cz151 : FC Tryz.prog 151 1 := ⟨by kernel_rfl⟩
instance Tryz.iu151 : FU Tryz.prog 151 (.slice 4) := ⟨Tryz.underlying151⟩
instance Tryz.ag152 : FA Tryz.prog 152 true := ⟨by kernel_rfl⟩
instance Tryz.cz152 : FC Tryz.prog 152 2 := ⟨by kernel_rfl⟩
instance Tryz.by152 : FY Tryz.prog 152 48 := ⟨by kernel_rfl⟩
instance Tryz.zb152 : FZ Tryz.prog 152 [.slice none 0 0, .slice none 0 0] := ⟨by kernel_rfl⟩
instance Tryz.pl152 : FP Tryz.prog 152 [(0, 1), (1, 1)] := ⟨by kernel_rfl⟩
instance Tryz.fd152_0 : FF Tryz.prog 152 0 0 := ⟨by kernel_rfl⟩
instance Tryz.fd152_1 : FF Tryz.prog 152 1 1 := ⟨by kernel_rfl⟩
instance Tryz.ag154 : FA Tryz.prog 154 true := ⟨by kernel_rfl⟩
instance Tryz.cz154 : FC Tryz.prog 154 9 := ⟨by kernel_rfl⟩
instance Tryz.zb154 : FZ Tryz.prog 154 [.slice none 0 0, .slice none 0 0, .slice none 0 0, .slice none 0 0, .slice none 0 0, .bool false, .slice none 0 0, .slice none 0 0, .slice none 0 0] := ⟨by kernel_rfl⟩
instance Tryz.pl154 : FP Tryz.prog 154 [(0, 1), (1, 1), (2, 1), (3, 1), (4, 1), (5, 1), (6, 2), (8, 1)] := ⟨by kernel_rfl⟩
instance Tryz.fd154_0 : FF Tryz.prog 154 0 0 := ⟨by kernel_rfl⟩
instance Tryz.fd154_1 : FF Tryz.prog 154 1 1 := ⟨by kernel_rfl⟩
instance Tryz.fd154_2 : FF Tryz.prog 154 2 2 := ⟨by kernel_rfl⟩
instance Tryz.fd154_3 : FF Tryz.prog 154 3 3 := ⟨by kernel_rfl⟩
instance Tryz.fd154_4 : FF Tryz.prog 154 4 4 := ⟨by kernel_rfl⟩
instance Tryz.fd154_5 : FF Tryz.prog 154 5 5 := ⟨by kernel_rfl⟩
instance Tryz.fd154_6 : FF Tryz.prog 154 6 6 := ⟨by kernel_rfl⟩
instance Tryz.fd154_7 : FF Tryz.prog 154 7 8 := ⟨by kernel_rfl⟩
instance Tryz.ag156 : FA Tryz.prog 156 true := ⟨by kernel_rfl⟩
instance Tryz.cz156 : FC Tryz.prog 156 5 := ⟨by kernel_rfl⟩
instance Tryz.iu156 : FU Tryz.prog 156 (.array 5 3) := ⟨Tryz.underlying156⟩
instance Tryz.zb156 : FZ Tryz.prog 156 [.int .i64 0, .int .i64 0, .int .i64 0, .int .i64 0, .int .i64 0] := ⟨by kernel_rfl⟩
instance Tryz.ar156 : FR Tryz.prog 156 (5, 1) := ⟨by kernel_rfl⟩
instance Tryz.zb166 : FZ Tryz.prog 166 [.int .i64 0, .int .u64 0] := ⟨by kernel_rfl⟩
instance Tryz.pl166 : FP Tryz.prog 166 [(0, 1), (1, 1)] := ⟨by kernel_rfl⟩
theorem Tryz.sh166 : Tryz.prog.stoodInHeld 166 = false := by kernel_rfl
instance Tryz.iu167 : FU Tryz.prog 167 (.slice 123) := ⟨Tryz.underlying167⟩
instance Tryz.ag172 : FA Tryz.prog 172 true := ⟨by kernel_rfl⟩
instance Tryz.cz172 : FC Tryz.prog 172 5 := ⟨by kernel_rfl⟩
instance Tryz.zb172 : FZ Tryz.prog 172 [.int .i64 0, .string ⟨#[]⟩, .int .i64 0, .string ⟨#[]⟩, .string ⟨#[]⟩] := ⟨by kernel_rfl⟩
instance Tryz.pl172 : FP Tryz.prog 172 [(0, 1), (1, 1), (2, 1), (3, 1), (4, 1)] := ⟨by kernel_rfl⟩
instance Tryz.fd172_0 : FF Tryz.prog 172 0 0 := ⟨by kernel_rfl⟩
instance Tryz.fd172_1 : FF Tryz.prog 172 1 1 := ⟨by kernel_rfl⟩
instance Tryz.fd172_2 : FF Tryz.prog 172 2 2 := ⟨by kernel_rfl⟩
instance Tryz.fd172_3 : FF Tryz.prog 172 3 3 := ⟨by kernel_rfl⟩
instance Tryz.fd172_4 : FF Tryz.prog 172 4 4 := ⟨by kernel_rfl⟩
instance Tryz.iu178 : FU Tryz.prog 178 (.slice 239) := ⟨Tryz.underlying178⟩
instance Tryz.iu184 : FU Tryz.prog 184 (.slice 50) := ⟨Tryz.underlying184⟩
instance Tryz.ag193 : FA Tryz.prog 193 true := ⟨by kernel_rfl⟩
instance Tryz.cz193 : FC Tryz.prog 193 235 := ⟨by kernel_rfl⟩
instance Tryz.iu193 : FU Tryz.prog 193 (.array 47 172) := ⟨Tryz.underlying193⟩
instance Tryz.zb193 : FZ Tryz.prog 193 [.int .i64 0, .string ⟨#[]⟩, .int .i64 0, .string ⟨#[]⟩, .string ⟨#[]⟩, .int .i64 0, .string ⟨#[]⟩, .int .i64 0, .string ⟨#[]⟩, .string ⟨#[]⟩, .int .i64 0, .string ⟨#[]⟩, .int .i64 0, .string ⟨#[]⟩, .string ⟨#[]⟩, .int .i64 0, .string ⟨#[]⟩, .int .i64 0, .string ⟨#[]⟩, .string ⟨#[]⟩, .int .i64 0, .string ⟨#[]⟩, .int .i64 0, .string ⟨#[]⟩, .string ⟨#[]⟩, .int .i64 0, .string ⟨#[]⟩, .int .i64 0, .string ⟨#[]⟩, .string ⟨#[]⟩, .int .i64 0, .string ⟨#[]⟩, .int .i64 0, .string ⟨#[]⟩, .string ⟨#[]⟩, .int .i64 0, .string ⟨#[]⟩, .int .i64 0, .string ⟨#[]⟩, .string ⟨#[]⟩, .int .i64 0, .string ⟨#[]⟩, .int .i64 0, .string ⟨#[]⟩, .string ⟨#[]⟩, .int .i64 0, .string ⟨#[]⟩, .int .i64 0, .string ⟨#[]⟩, .string ⟨#[]⟩, .int .i64 0, .string ⟨#[]⟩, .int .i64 0, .string ⟨#[]⟩, .string ⟨#[]⟩, .int .i64 0, .string ⟨#[]⟩, .int .i64 0, .string ⟨#[]⟩, .string ⟨#[]⟩, .int .i64 0, .string ⟨#[]⟩, .int .i64 0, .string ⟨#[]⟩, .string ⟨#[]⟩, .int .i64 0, .string ⟨#[]⟩, .int .i64 0, .string ⟨#[]⟩, .string ⟨#[]⟩, .int .i64 0, .string ⟨#[]⟩, .int .i64 0, .string ⟨#[]⟩, .string ⟨#[]⟩, .int .i64 0, .string ⟨#[]⟩, .int .i64 0, .string ⟨#[]⟩, .string ⟨#[]⟩, .int .i64 0, .string ⟨#[]⟩, .int .i64 0, .string ⟨#[]⟩, .string ⟨#[]⟩, .int .i64 0, .string ⟨#[]⟩, .int .i64 0, .string ⟨#[]⟩, .string ⟨#[]⟩, .int .i64 0, .string ⟨#[]⟩, .int .i64 0, .string ⟨#[]⟩, .string ⟨#[]⟩, .int .i64 0, .string ⟨#[]⟩, .int .i64 0, .string ⟨#[]⟩, .string ⟨#[]⟩, .int .i64 0, .string ⟨#[]⟩, .int .i64 0, .string ⟨#[]⟩, .string ⟨#[]⟩, .int .i64 0, .string ⟨#[]⟩, .int .i64 0, .string ⟨#[]⟩, .string ⟨#[]⟩, .int .i64 0, .string ⟨#[]⟩, .int .i64 0, .string ⟨#[]⟩, .string ⟨#[]⟩, .int .i64 0, .string ⟨#[]⟩, .int .i64 0, .string ⟨#[]⟩, .string ⟨#[]⟩, .int .i64 0, .string ⟨#[]⟩, .int .i64 0, .string ⟨#[]⟩, .string ⟨#[]⟩, .int .i64 0, .string ⟨#[]⟩, .int .i64 0, .string ⟨#[]⟩, .string ⟨#[]⟩, .int .i64 0, .string ⟨#[]⟩, .int .i64 0, .string ⟨#[]⟩, .string ⟨#[]⟩, .int .i64 0, .string ⟨#[]⟩, .int .i64 0, .string ⟨#[]⟩, .string ⟨#[]⟩, .int .i64 0, .string ⟨#[]⟩, .int .i64 0, .string ⟨#[]⟩, .string ⟨#[]⟩, .int .i64 0, .string ⟨#[]⟩, .int .i64 0, .string ⟨#[]⟩, .string ⟨#[]⟩, .int .i64 0, .string ⟨#[]⟩, .int .i64 0, .string ⟨#[]⟩, .string ⟨#[]⟩, .int .i64 0, .string ⟨#[]⟩, .int .i64 0, .string ⟨#[]⟩, .string ⟨#[]⟩, .int .i64 0, .string ⟨#[]⟩, .int .i64 0, .string ⟨#[]⟩, .string ⟨#[]⟩, .int .i64 0, .string ⟨#[]⟩, .int .i64 0, .string ⟨#[]⟩, .string ⟨#[]⟩, .int .i64 0, .string ⟨#[]⟩, .int .i64 0, .string ⟨#[]⟩, .string ⟨#[]⟩, .int .i64 0, .string ⟨#[]⟩, .int .i64 0, .string ⟨#[]⟩, .string ⟨#[]⟩, .int .i64 0, .string ⟨#[]⟩, .int .i64 0, .string ⟨#[]⟩, .string ⟨#[]⟩, .int .i64 0, .string ⟨#[]⟩, .int .i64 0, .string ⟨#[]⟩, .string ⟨#[]⟩, .int .i64 0, .string ⟨#[]⟩, .int .i64 0, .string ⟨#[]⟩, .string ⟨#[]⟩, .int .i64 0, .string ⟨#[]⟩, .int .i64 0, .string ⟨#[]⟩, .string ⟨#[]⟩, .int .i64 0, .string ⟨#[]⟩, .int .i64 0, .string ⟨#[]⟩, .string ⟨#[]⟩, .int .i64 0, .string ⟨#[]⟩, .int .i64 0, .string ⟨#[]⟩, .string ⟨#[]⟩, .int .i64 0, .string ⟨#[]⟩, .int .i64 0, .string ⟨#[]⟩, .string ⟨#[]⟩, .int .i64 0, .string ⟨#[]⟩, .int .i64 0, .string ⟨#[]⟩, .string ⟨#[]⟩, .int .i64 0, .string ⟨#[]⟩, .int .i64 0, .string ⟨#[]⟩, .string ⟨#[]⟩, .int .i64 0, .string ⟨#[]⟩, .int .i64 0, .string ⟨#[]⟩, .string ⟨#[]⟩, .int .i64 0, .string ⟨#[]⟩, .int .i64 0, .string ⟨#[]⟩, .string ⟨#[]⟩] := ⟨by kernel_rfl⟩
instance Tryz.ar193 : FR Tryz.prog 193 (47, 5) := ⟨by kernel_rfl⟩
instance Tryz.ag195 : FA Tryz.prog 195 true := ⟨by kernel_rfl⟩
instance Tryz.cz195 : FC Tryz.prog 195 30 := ⟨by kernel_rfl⟩
instance Tryz.iu195 : FU Tryz.prog 195 (.array 6 172) := ⟨Tryz.underlying195⟩
instance Tryz.zb195 : FZ Tryz.prog 195 [.int .i64 0, .string ⟨#[]⟩, .int .i64 0, .string ⟨#[]⟩, .string ⟨#[]⟩, .int .i64 0, .string ⟨#[]⟩, .int .i64 0, .string ⟨#[]⟩, .string ⟨#[]⟩, .int .i64 0, .string ⟨#[]⟩, .int .i64 0, .string ⟨#[]⟩, .string ⟨#[]⟩, .int .i64 0, .string ⟨#[]⟩, .int .i64 0, .string ⟨#[]⟩, .string ⟨#[]⟩, .int .i64 0, .string ⟨#[]⟩, .int .i64 0, .string ⟨#[]⟩, .string ⟨#[]⟩, .int .i64 0, .string ⟨#[]⟩, .int .i64 0, .string ⟨#[]⟩, .string ⟨#[]⟩] := ⟨by kernel_rfl⟩
instance Tryz.ar195 : FR Tryz.prog 195 (6, 5) := ⟨by kernel_rfl⟩
instance Tryz.ag202 : FA Tryz.prog 202 true := ⟨by kernel_rfl⟩
instance Tryz.cz202 : FC Tryz.prog 202 3 := ⟨by kernel_rfl⟩
instance Tryz.zb202 : FZ Tryz.prog 202 [.slice none 0 0, .bool false, .int .i64 0] := ⟨by kernel_rfl⟩
instance Tryz.pl202 : FP Tryz.prog 202 [(0, 1), (1, 1), (2, 1)] := ⟨by kernel_rfl⟩
instance Tryz.fd202_0 : FF Tryz.prog 202 0 0 := ⟨by kernel_rfl⟩
instance Tryz.fd202_1 : FF Tryz.prog 202 1 1 := ⟨by kernel_rfl⟩
instance Tryz.fd202_2 : FF Tryz.prog 202 2 2 := ⟨by kernel_rfl⟩
instance Tryz.ag224 : FA Tryz.prog 224 false := ⟨by kernel_rfl⟩
instance Tryz.ag226 : FA Tryz.prog 226 true := ⟨by kernel_rfl⟩
instance Tryz.cz226 : FC Tryz.prog 226 2 := ⟨by kernel_rfl⟩
instance Tryz.zb226 : FZ Tryz.prog 226 [.string ⟨#[]⟩, .nilFunc] := ⟨by kernel_rfl⟩
instance Tryz.pl226 : FP Tryz.prog 226 [(0, 1), (1, 1)] := ⟨by kernel_rfl⟩
instance Tryz.fd226_0 : FF Tryz.prog 226 0 0 := ⟨by kernel_rfl⟩
instance Tryz.fd226_1 : FF Tryz.prog 226 1 1 := ⟨by kernel_rfl⟩
instance Tryz.iu227 : FU Tryz.prog 227 (.array 10 226) := ⟨Tryz.underlying227⟩
instance Tryz.zb227 : FZ Tryz.prog 227 [.string ⟨#[]⟩, .nilFunc, .string ⟨#[]⟩, .nilFunc, .string ⟨#[]⟩, .nilFunc, .string ⟨#[]⟩, .nilFunc, .string ⟨#[]⟩, .nilFunc, .string ⟨#[]⟩, .nilFunc, .string ⟨#[]⟩, .nilFunc, .string ⟨#[]⟩, .nilFunc, .string ⟨#[]⟩, .nilFunc, .string ⟨#[]⟩, .nilFunc] := ⟨by kernel_rfl⟩
instance Tryz.ar227 : FR Tryz.prog 227 (10, 2) := ⟨by kernel_rfl⟩
instance Tryz.ag232 : FA Tryz.prog 232 true := ⟨by kernel_rfl⟩
instance Tryz.cz232 : FC Tryz.prog 232 15 := ⟨by kernel_rfl⟩
instance Tryz.iu232 : FU Tryz.prog 232 (.array 15 9) := ⟨Tryz.underlying232⟩
instance Tryz.zb232 : FZ Tryz.prog 232 [.string ⟨#[]⟩, .string ⟨#[]⟩, .string ⟨#[]⟩, .string ⟨#[]⟩, .string ⟨#[]⟩, .string ⟨#[]⟩, .string ⟨#[]⟩, .string ⟨#[]⟩, .string ⟨#[]⟩, .string ⟨#[]⟩, .string ⟨#[]⟩, .string ⟨#[]⟩, .string ⟨#[]⟩, .string ⟨#[]⟩, .string ⟨#[]⟩] := ⟨by kernel_rfl⟩
instance Tryz.ar232 : FR Tryz.prog 232 (15, 1) := ⟨by kernel_rfl⟩
instance Tryz.ag234 : FA Tryz.prog 234 true := ⟨by kernel_rfl⟩
instance Tryz.cz234 : FC Tryz.prog 234 10 := ⟨by kernel_rfl⟩
instance Tryz.iu234 : FU Tryz.prog 234 (.array 10 9) := ⟨Tryz.underlying234⟩
instance Tryz.zb234 : FZ Tryz.prog 234 [.string ⟨#[]⟩, .string ⟨#[]⟩, .string ⟨#[]⟩, .string ⟨#[]⟩, .string ⟨#[]⟩, .string ⟨#[]⟩, .string ⟨#[]⟩, .string ⟨#[]⟩, .string ⟨#[]⟩, .string ⟨#[]⟩] := ⟨by kernel_rfl⟩
instance Tryz.ar234 : FR Tryz.prog 234 (10, 1) := ⟨by kernel_rfl⟩
instance Tryz.ag236 : FA Tryz.prog 236 true := ⟨by kernel_rfl⟩
instance Tryz.cz236 : FC Tryz.prog 236 4 := ⟨by kernel_rfl⟩
instance Tryz.iu236 : FU Tryz.prog 236 (.array 4 9) := ⟨Tryz.underlying236⟩
instance Tryz.zb236 : FZ Tryz.prog 236 [.string ⟨#[]⟩, .string ⟨#[]⟩, .string ⟨#[]⟩, .string ⟨#[]⟩] := ⟨by kernel_rfl⟩
instance Tryz.ar236 : FR Tryz.prog 236 (4, 1) := ⟨by kernel_rfl⟩
instance Tryz.ag239 : FA Tryz.prog 239 true := ⟨by kernel_rfl⟩
instance Tryz.cz239 : FC Tryz.prog 239 3 := ⟨by kernel_rfl⟩
instance Tryz.by239 : FY Tryz.prog 239 24 := ⟨by kernel_rfl⟩
instance Tryz.zb239 : FZ Tryz.prog 239 [.int .i64 0, .int .i64 0, .int .i64 0] := ⟨by kernel_rfl⟩
instance Tryz.pl239 : FP Tryz.prog 239 [(0, 1), (1, 1), (2, 1)] := ⟨by kernel_rfl⟩
instance Tryz.fd239_1 : FF Tryz.prog 239 1 1 := ⟨by kernel_rfl⟩
instance Tryz.fd239_2 : FF Tryz.prog 239 2 2 := ⟨by kernel_rfl⟩
instance Tryz.zb278 : FZ Tryz.prog 278 [.pointer none, .slice none 0 0, .slice none 0 0, .slice none 0 0] := ⟨by kernel_rfl⟩
instance Tryz.pl278 : FP Tryz.prog 278 [(0, 1), (1, 1), (2, 2)] := ⟨by kernel_rfl⟩
instance Tryz.fd278_0 : FF Tryz.prog 278 0 0 := ⟨by kernel_rfl⟩
instance Tryz.fd278_1 : FF Tryz.prog 278 1 1 := ⟨by kernel_rfl⟩
instance Tryz.fd278_2 : FF Tryz.prog 278 2 2 := ⟨by kernel_rfl⟩
instance Tryz.ag280 : FA Tryz.prog 280 true := ⟨by kernel_rfl⟩
instance Tryz.cz280 : FC Tryz.prog 280 5 := ⟨by kernel_rfl⟩
instance Tryz.by280 : FY Tryz.prog 280 48 := ⟨by kernel_rfl⟩
instance Tryz.zb280 : FZ Tryz.prog 280 [.bool false, .bool false, .slice none 0 0, .int .i64 0, .bool false] := ⟨by kernel_rfl⟩
instance Tryz.pl280 : FP Tryz.prog 280 [(0, 1), (1, 1), (2, 1), (3, 1), (4, 1)] := ⟨by kernel_rfl⟩
instance Tryz.fd280_0 : FF Tryz.prog 280 0 0 := ⟨by kernel_rfl⟩
instance Tryz.fd280_1 : FF Tryz.prog 280 1 1 := ⟨by kernel_rfl⟩
instance Tryz.fd280_2 : FF Tryz.prog 280 2 2 := ⟨by kernel_rfl⟩
instance Tryz.fd280_3 : FF Tryz.prog 280 3 3 := ⟨by kernel_rfl⟩
instance Tryz.fd280_4 : FF Tryz.prog 280 4 4 := ⟨by kernel_rfl⟩
instance Tryz.ag281 : FA Tryz.prog 281 false := ⟨by kernel_rfl⟩
instance Tryz.cz281 : FC Tryz.prog 281 1 := ⟨by kernel_rfl⟩
instance Tryz.iu281 : FU Tryz.prog 281 (.slice 280) := ⟨Tryz.underlying281⟩
instance Tryz.zb283 : FZ Tryz.prog 283 [.pointer none, .slice none 0 0, .slice none 0 0, .slice none 0 0, .slice none 0 0, .slice none 0 0] := ⟨by kernel_rfl⟩
instance Tryz.pl283 : FP Tryz.prog 283 [(0, 4), (4, 1), (5, 1)] := ⟨by kernel_rfl⟩
instance Tryz.fd283_0 : FF Tryz.prog 283 0 0 := ⟨by kernel_rfl⟩
instance Tryz.fd283_1 : FF Tryz.prog 283 1 4 := ⟨by kernel_rfl⟩
instance Tryz.fd283_2 : FF Tryz.prog 283 2 5 := ⟨by kernel_rfl⟩
instance Tryz.ag286 : FA Tryz.prog 286 true := ⟨by kernel_rfl⟩
instance Tryz.cz286 : FC Tryz.prog 286 5 := ⟨by kernel_rfl⟩
instance Tryz.zb286 : FZ Tryz.prog 286 [.int .i64 0, .int .i64 0, .int .i64 0, .int .i64 0, .int .i64 0] := ⟨by kernel_rfl⟩
instance Tryz.pl286 : FP Tryz.prog 286 [(0, 1), (1, 1), (2, 1), (3, 1), (4, 1)] := ⟨by kernel_rfl⟩
instance Tryz.fd286_0 : FF Tryz.prog 286 0 0 := ⟨by kernel_rfl⟩
instance Tryz.fd286_1 : FF Tryz.prog 286 1 1 := ⟨by kernel_rfl⟩
instance Tryz.fd286_2 : FF Tryz.prog 286 2 2 := ⟨by kernel_rfl⟩
instance Tryz.fd286_3 : FF Tryz.prog 286 3 3 := ⟨by kernel_rfl⟩
instance Tryz.fd286_4 : FF Tryz.prog 286 4 4 := ⟨by kernel_rfl⟩
instance Tryz.ag287 : FA Tryz.prog 287 true := ⟨by kernel_rfl⟩
instance Tryz.cz287 : FC Tryz.prog 287 40 := ⟨by kernel_rfl⟩
instance Tryz.iu287 : FU Tryz.prog 287 (.array 8 286) := ⟨Tryz.underlying287⟩
instance Tryz.zb287 : FZ Tryz.prog 287 [.int .i64 0, .int .i64 0, .int .i64 0, .int .i64 0, .int .i64 0, .int .i64 0, .int .i64 0, .int .i64 0, .int .i64 0, .int .i64 0, .int .i64 0, .int .i64 0, .int .i64 0, .int .i64 0, .int .i64 0, .int .i64 0, .int .i64 0, .int .i64 0, .int .i64 0, .int .i64 0, .int .i64 0, .int .i64 0, .int .i64 0, .int .i64 0, .int .i64 0, .int .i64 0, .int .i64 0, .int .i64 0, .int .i64 0, .int .i64 0, .int .i64 0, .int .i64 0, .int .i64 0, .int .i64 0, .int .i64 0, .int .i64 0, .int .i64 0, .int .i64 0, .int .i64 0, .int .i64 0] := ⟨by kernel_rfl⟩
instance Tryz.ar287 : FR Tryz.prog 287 (8, 5) := ⟨by kernel_rfl⟩
instance Tryz.ag301 : FA Tryz.prog 301 false := ⟨by kernel_rfl⟩
instance Tryz.cz301 : FC Tryz.prog 301 1 := ⟨by kernel_rfl⟩
instance Tryz.iu301 : FU Tryz.prog 301 (.slice 362) := ⟨Tryz.underlying301⟩
instance Tryz.iu304 : FU Tryz.prog 304 (.slice 308) := ⟨Tryz.underlying304⟩
instance Tryz.ag308 : FA Tryz.prog 308 true := ⟨by kernel_rfl⟩
instance Tryz.cz308 : FC Tryz.prog 308 2 := ⟨by kernel_rfl⟩
instance Tryz.by308 : FY Tryz.prog 308 16 := ⟨by kernel_rfl⟩
instance Tryz.zb308 : FZ Tryz.prog 308 [.int .i64 0, .int .u8 0] := ⟨by kernel_rfl⟩
instance Tryz.pl308 : FP Tryz.prog 308 [(0, 1), (1, 1)] := ⟨by kernel_rfl⟩
instance Tryz.fd308_0 : FF Tryz.prog 308 0 0 := ⟨by kernel_rfl⟩
instance Tryz.fd308_1 : FF Tryz.prog 308 1 1 := ⟨by kernel_rfl⟩
instance Tryz.zb310 : FZ Tryz.prog 310 [.int .i64 0] := ⟨by kernel_rfl⟩
instance Tryz.pl310 : FP Tryz.prog 310 [(0, 1)] := ⟨by kernel_rfl⟩
instance Tryz.fd310_0 : FF Tryz.prog 310 0 0 := ⟨by kernel_rfl⟩
instance Tryz.iu323 : FU Tryz.prog 323 (.slice 90) := ⟨Tryz.underlying323⟩
instance Tryz.zb329 : FZ Tryz.prog 329 [.slice none 0 0, .slice none 0 0, .slice none 0 0, .bool false, .int .i64 0] := ⟨by kernel_rfl⟩
instance Tryz.pl329 : FP Tryz.prog 329 [(0, 1), (1, 1), (2, 1), (3, 1), (4, 1)] := ⟨by kernel_rfl⟩
instance Tryz.fd329_0 : FF Tryz.prog 329 0 0 := ⟨by kernel_rfl⟩
instance Tryz.fd329_1 : FF Tryz.prog 329 1 1 := ⟨by kernel_rfl⟩
instance Tryz.fd329_2 : FF Tryz.prog 329 2 2 := ⟨by kernel_rfl⟩
instance Tryz.fd329_3 : FF Tryz.prog 329 3 3 := ⟨by kernel_rfl⟩
instance Tryz.fd329_4 : FF Tryz.prog 329 4 4 := ⟨by kernel_rfl⟩
instance Tryz.iu357 : FU Tryz.prog 357 (.array 3 9) := ⟨Tryz.underlying357⟩
instance Tryz.zb357 : FZ Tryz.prog 357 [.string ⟨#[]⟩, .string ⟨#[]⟩, .string ⟨#[]⟩] := ⟨by kernel_rfl⟩
instance Tryz.ar357 : FR Tryz.prog 357 (3, 1) := ⟨by kernel_rfl⟩
instance Tryz.cz362 : FC Tryz.prog 362 3 := ⟨by kernel_rfl⟩
instance Tryz.by362 : FY Tryz.prog 362 24 := ⟨by kernel_rfl⟩
instance Tryz.zb362 : FZ Tryz.prog 362 [.int .i64 0, .int .i64 0, .int .i64 0] := ⟨by kernel_rfl⟩
instance Tryz.pl362 : FP Tryz.prog 362 [(0, 1), (1, 1), (2, 1)] := ⟨by kernel_rfl⟩
instance Tryz.fd362_0 : FF Tryz.prog 362 0 0 := ⟨by kernel_rfl⟩
instance Tryz.fd362_1 : FF Tryz.prog 362 1 1 := ⟨by kernel_rfl⟩
instance Tryz.fd362_2 : FF Tryz.prog 362 2 2 := ⟨by kernel_rfl⟩
theorem Tryz.kt113 : KeyT Tryz.prog 166 (kpr .i64 .u64) := KeyT.pair Tryz.underlying166 Tryz.sh166 (by decide) (by decide) rfl rfl Tryz.underlying3 Tryz.underlying48
instance Tryz.mixed : FM Tryz.prog := ⟨by kernel_rfl⟩
end Go.Proofs
end
section
namespace Go.Hl
def opensC (c : Int) : Prop := c = 2 ∨ c = 3 ∨ c = 4
instance (c : Int) : Decidable (opensC c) := inferInstanceAs (Decidable (_ ∨ _))
def nrun : List Int → List (Int × Bool) → Prop
 | [], _ => False
 | c :: r, st =>
  if opensC c then st.length < 64 ∧ nrun r ((c, false) :: st)
  else if c = 5 then match st with
   | [] => False
   | (b, e) :: t => (b = 4 ∧ e = false) ∧ nrun r ((b, true) :: t)
  else if c = 11 then match st with
   | [] => r = []
   | _ :: t => nrun r t
  else nrun r st
theorem nrun_cons (c : Int) (r : List Int) (st : List (Int × Bool)) : nrun (c :: r) st = (if opensC c then st.length < 64 ∧ nrun r ((c, false) :: st)
    else if c = 5 then match st with
      | [] => False
      | (b, e) :: t => (b = 4 ∧ e = false) ∧ nrun r ((b, true) :: t)
    else if c = 11 then match st with
      | [] => r = []
      | _ :: t => nrun r t
    else nrun r st) := by
  rw [nrun.eq_def]
def rblk : Nat → List Int → Nat → Option (List Int)
 | 0, _, _ => none
 | _ + 1, [], _ => some []
 | f + 1, c :: r, d =>
  if c = 11 ∨ c = 5 then some (c :: r)
  else if opensC c then
   if 64 ≤ d then none else
   match rblk f r (d + 1) with
   | none => none
   | some [] => none
   | some (c2 :: r2) =>
    if c2 = 5 then
     if c = 4 then
      match rblk f r2 (d + 1) with
      | none => none
      | some [] => none
      | some (c3 :: r3) => if c3 = 5 then none else rblk f r3 d
     else none
    else rblk f r2 d
  else rblk f r d
theorem rblk_spec : ∀ (f : Nat) (s : List Int) (d : Nat), s.length < f → d ≤ 64 →
    (rblk f s d = none → ∀ st, st.length = d → ¬ nrun s st) ∧
    (∀ r, rblk f s d = some r → r.length ≤ s.length ∧ (∀ c r', r = c :: r' → c = 11 ∨ c = 5) ∧ ∀ st, st.length = d → (nrun s st ↔ nrun r st)) := by
  intro f
  induction f with
  | zero => intro s d h; omega
  | succ f ih =>
    intro s d h hd
    cases s with
    | nil => simp [rblk]
    | cons c r =>
      simp only [List.length_cons] at h
      by_cases h1 : c = 11 ∨ c = 5
      · simp only [rblk, h1, if_true]
        refine ⟨by simp, fun r' hr => ?_⟩
        cases hr
        exact ⟨Nat.le_refl _, fun c' r' e => by cases e; exact h1, fun st _ => Iff.rfl⟩
      by_cases h2 : opensC c
      · simp only [rblk, h1, if_false, h2, if_true]
        have hn : ∀ st, nrun (c :: r) st ↔ st.length < 64 ∧ nrun r ((c, false) :: st) := fun st => by rw [nrun_cons]; simp [h2]
        by_cases h3 : 64 ≤ d
        · simp only [h3, if_true]
          refine ⟨fun _ st hs hh => ?_, by simp⟩
          have := ((hn st).1 hh).1; omega
        simp only [h3, if_false]
        have i1 := ih r (d + 1) (by omega) (by omega)
        generalize rblk f r (d + 1) = o1 at i1
        have q : ∀ st, st.length = d → (nrun (c :: r) st ↔ nrun r ((c, false) :: st)) := fun st hs => (hn st).trans ⟨fun x => x.2, fun x => ⟨by omega, x⟩⟩
        match o1, i1 with
        | none, i1 => exact ⟨fun _ st hs hh => i1.1 rfl ((c, false) :: st) (by simp [hs]) ((q st hs).1 hh), by simp⟩
        | some [], i1 =>
          obtain ⟨_, _, i3⟩ := i1.2 [] rfl
          exact ⟨fun _ st hs hh => by have := (i3 ((c, false) :: st) (by simp [hs])).1 ((q st hs).1 hh); exact this, by simp⟩
        | some (c2 :: r2), i1 =>
          obtain ⟨l2, k2, i3⟩ := i1.2 _ rfl
          simp only [List.length_cons] at l2
          have q2 : ∀ st, st.length = d → (nrun (c :: r) st ↔ nrun (c2 :: r2) ((c, false) :: st)) := fun st hs => (q st hs).trans (i3 _ (by simp [hs]))
          rcases k2 c2 r2 rfl with e | e
          · subst e
            have hi := ih r2 d (by omega) hd
            have q3 : ∀ st, st.length = d → (nrun (c :: r) st ↔ nrun r2 st) := fun st hs => (q2 st hs).trans (by rw [nrun]; simp [opensC])
            simp only [show ¬ ((11 : Int) = 5) by decide, if_false]
            exact ⟨fun e st hs hh => hi.1 e st hs ((q3 st hs).1 hh), fun r' e => ⟨by have := (hi.2 r' e).1; simp; omega, (hi.2 r' e).2.1, fun st hs => (q3 st hs).trans ((hi.2 r' e).2.2 st hs)⟩⟩
          · subst e
            simp only [if_true]
            by_cases h4 : c = 4
            · subst h4
              simp only [if_true]
              have q3 : ∀ st, st.length = d → (nrun (4 :: r) st ↔ nrun r2 ((4, true) :: st)) := fun st hs => (q2 st hs).trans (by rw [nrun]; simp [opensC])
              have i4 := ih r2 (d + 1) (by omega) (by omega)
              generalize rblk f r2 (d + 1) = o2 at i4
              match o2, i4 with
              | none, i4 => exact ⟨fun _ st hs hh => i4.1 rfl _ (by simp [hs]) ((q3 st hs).1 hh), by simp⟩
              | some [], i4 =>
                obtain ⟨_, _, i5⟩ := i4.2 [] rfl
                exact ⟨fun _ st hs hh => (i5 ((4, true) :: st) (by simp [hs])).1 ((q3 st hs).1 hh), by simp⟩
              | some (c3 :: r3), i4 =>
                obtain ⟨l3, k3, i5⟩ := i4.2 _ rfl
                simp only [List.length_cons] at l3
                have q4 : ∀ st, st.length = d → (nrun (4 :: r) st ↔ nrun (c3 :: r3) ((4, true) :: st)) := fun st hs => (q3 st hs).trans (i5 _ (by simp [hs]))
                rcases k3 c3 r3 rfl with e | e
                · subst e
                  have hi := ih r3 d (by omega) hd
                  have q5 : ∀ st, st.length = d → (nrun (4 :: r) st ↔ nrun r3 st) := fun st hs => (q4 st hs).trans (by rw [nrun]; simp [opensC])
                  simp only [show ¬ ((11 : Int) = 5) by decide, if_false]
                  exact ⟨fun e st hs hh => hi.1 e st hs ((q5 st hs).1 hh), fun r' e => ⟨by have := (hi.2 r' e).1; simp; omega, (hi.2 r' e).2.1, fun st hs => (q5 st hs).trans ((hi.2 r' e).2.2 st hs)⟩⟩
                · subst e
                  simp only [if_true]
                  exact ⟨fun _ st hs hh => by have := (q4 st hs).1 hh; rw [nrun] at this; simp [opensC] at this, by simp⟩
            · simp only [h4, if_false]
              exact ⟨fun _ st hs hh => by have := (q2 st hs).1 hh; rw [nrun] at this; simp [opensC, h4] at this, by simp⟩
      · simp only [rblk, h1, if_false, h2]
        have hn : ∀ st, nrun (c :: r) st ↔ nrun r st := fun st => by
          rw [nrun_cons]; simp only [h2, if_false]
          rw [if_neg (fun e => h1 (.inr e)), if_neg (fun e => h1 (.inl e))]
        have hi := ih r d (by omega) hd
        exact ⟨fun e st hs hh => hi.1 e st hs ((hn st).1 hh), fun r' e => ⟨by have := (hi.2 r' e).1; simp; omega, (hi.2 r' e).2.1, fun st hs => (hn st).trans ((hi.2 r' e).2.2 st hs)⟩⟩
theorem nrun_rblk {f : Nat} {s : List Int} (h : s.length < f) : nrun s [] ↔ rblk f s 0 = some [11] := by
 have hi := rblk_spec f s 0 h (by omega)
 generalize rblk f s 0 = o at hi
 match o, hi with
 | none, hi => simp [hi.1 rfl [] rfl]
 | some [], hi => simp [(hi.2 [] rfl).2.2 [] rfl, nrun]
 | some (c :: r), hi =>
  obtain ⟨_, k, q⟩ := hi.2 _ rfl
  rw [q [] rfl]
  rcases k c r rfl with e | e <;> subst e <;> simp [nrun, opensC]
end Go.Hl
end
section
namespace Go.Hl
abbrev Stk := List UInt8 × Prop
open Classical in
noncomputable def tk1S (s : Stk) (want : UInt8) : Option (Stk × UInt8) :=
 match s.1.getLast? with
 | none => if s.2 then some (s, want) else none
 | some got => if got = want ∨ got = 0 ∨ want = 0 then some ((s.1.dropLast, s.2), if got = 0 then want else got) else none
noncomputable def tksR (s : Stk) : List UInt8 → Option Stk
 | [] => some s
 | t :: l => (tk1S s t).bind fun p => tksR p.1 l
noncomputable def tksS (s : Stk) (l : List UInt8) : Option Stk := tksR s l.reverse
def giveS (s : Stk) (l : List UInt8) : Stk := (s.1 ++ l, s.2)
def killS : Stk := ([], True)
structure FrC where
 loop : Prop
 is : Prop
 res : List UInt8
 st : Stk
open Classical in
noncomputable def labF (b : FrC) : List UInt8 := if b.loop then [] else b.res
def hgtF (fs : List FrC) : Nat := (fs.map fun b => b.st.1.length).sum
section
variable {ι : Type} (cd : ι → Int) (rr : ι → List UInt8) (pl : ι → Stk → List (List UInt8) → Option Stk)
open Classical
noncomputable def closeF (b : FrC) : Prop := ∃ s, tksS b.st b.res = some s ∧ s.1 = []
noncomputable def stepF (x : ι) (fs : List FrC) (b : FrC) : Option (List FrC) :=
 if cd x = 11 then
  if closeF b ∧ (b.is → b.res = []) then some (match fs.getLast? with
   | none => []
   | some t => fs.dropLast ++ [{ t with st := giveS t.st b.res }]) else none
 else if cd x = 5 then if closeF b then some (fs ++ [{ b with is := False, st := ([], False) }]) else none
 else if opensC (cd x) then (if cd x = 4 then tksS b.st [127] else some b.st).map fun s => fs ++ [{ b with st := s }] ++ [⟨cd x = 3, cd x = 4, rr x, ([], False)⟩]
 else (pl x b.st ((fs ++ [b]).map labF)).map fun s => fs ++ [{ b with st := s }]
noncomputable def crun : List ι → List FrC → Option (List Nat)
 | [], _ => some []
 | x :: r, fs => match fs.getLast? with
  | none => none
  | some b => (stepF cd rr pl x fs.dropLast b).bind fun fs' => (crun r fs').map (hgtF fs :: ·)
noncomputable def bchk : Nat → List ι → List (List UInt8) → List UInt8 → Stk → Nat → Option (List Nat × List ι)
 | 0, _, _, _, _, _ => none
 | _ + 1, [], _, _, _, _ => some ([], [])
 | f + 1, x :: r, labs, res, s, base =>
  if cd x = 11 ∨ cd x = 5 then
   if ∃ s', tksS s res = some s' ∧ s'.1 = [] then some ([base + s.1.length], x :: r) else none
  else if opensC (cd x) then
   (if cd x = 4 then tksS s [127] else some s).bind fun s1 =>
   (bchk f r (labs ++ [if cd x = 3 then [] else rr x]) (rr x) ([], False) (base + s1.1.length)).bind fun p =>
   match p.2 with
   | [] => none
   | x2 :: r2 =>
    if cd x2 = 5 then
     (bchk f r2 (labs ++ [if cd x = 3 then [] else rr x]) (rr x) ([], False) (base + s1.1.length)).bind fun p2 =>
     match p2.2 with
     | [] => none
     | _ :: r3 => (bchk f r3 labs res (giveS s1 (rr x)) base).map fun p3 => ((base + s.1.length) :: p.1 ++ p2.1 ++ p3.1, p3.2)
    else if cd x = 4 ∧ rr x ≠ [] then none
    else (bchk f r2 labs res (giveS s1 (rr x)) base).map fun p3 => ((base + s.1.length) :: p.1 ++ p3.1, p3.2)
  else (pl x s labs).bind fun s1 => (bchk f r labs res s1 base).map fun p => ((base + s.1.length) :: p.1, p.2)
theorem crun_cons (x : ι) (r : List ι) (fs : List FrC) (b : FrC) : crun cd rr pl (x :: r) (fs ++ [b]) = (stepF cd rr pl x fs b).bind fun fs' => (crun cd rr pl r fs').map (hgtF (fs ++ [b]) :: ·) := by
 simp [crun]
theorem hgtF_snoc (fs : List FrC) (b : FrC) : hgtF (fs ++ [b]) = hgtF fs + b.st.1.length := by simp [hgtF]
theorem bchk_spec : ∀ (f : Nat) (s : List ι) (d : Nat) (labs : List (List UInt8)) (res : List UInt8) (st : Stk) (base : Nat) (fs : List FrC) (loop is : Prop) (rest0 : List Int),
    s.length < f → rblk f (s.map cd) d = some rest0 → rest0 ≠ [] → labs = (fs ++ [FrC.mk loop is res st]).map labF → base = hgtF fs →
    (bchk cd rr pl f s labs res st base = none → crun cd rr pl s (fs ++ [FrC.mk loop is res st]) = none) ∧
    (∀ hs rest, bchk cd rr pl f s labs res st base = some (hs, rest) → rest.map cd = rest0 ∧ ∃ st', (∃ s', tksS st' res = some s' ∧ s'.1 = []) ∧
      ∀ x r, rest = x :: r → crun cd rr pl s (fs ++ [FrC.mk loop is res st]) = (stepF cd rr pl x fs ⟨loop, is, res, st'⟩).bind fun fs' => (crun cd rr pl r fs').map (hs ++ ·)) := by
  intro f
  induction f with
  | zero => intro s _ _ _ _ _ _ _ _ _ h; omega
  | succ f ih =>
    intro s d labs res st base fs loop is rest0 h hr hne hl hb
    cases s with
    | nil => simp [rblk] at hr; exact absurd hr hne
    | cons x r =>
      simp only [List.length_cons] at h
      rw [crun_cons, hgtF_snoc, ← hb]
      simp only [List.map_cons, rblk] at hr
      by_cases h1 : cd x = 11 ∨ cd x = 5
      · simp only [h1, if_true, Option.some.injEq] at hr
        simp only [bchk, h1, if_true]
        by_cases hc : ∃ s', tksS st res = some s' ∧ s'.1 = []
        · simp only [hc, if_true]
          refine ⟨by simp, fun hs rest e => ?_⟩
          simp only [Option.some.injEq, Prod.mk.injEq] at e
          obtain ⟨rfl, rfl⟩ := e
          refine ⟨by simpa using hr, st, hc, fun x' r' e => ?_⟩
          cases e
          rfl
        · simp only [hc, if_false]
          refine ⟨fun _ => ?_, by simp⟩
          have : stepF cd rr pl x fs ⟨loop, is, res, st⟩ = none := by
            unfold stepF
            rcases h1 with h1 | h1 <;> simp [h1, closeF] <;> intros <;> simp_all
          rw [this]; rfl
      simp only [h1, if_false] at hr
      have h11 : cd x ≠ 11 := fun e => h1 (.inl e)
      have h5 : cd x ≠ 5 := fun e => h1 (.inr e)
      by_cases h2 : opensC (cd x)
      · simp only [h2, if_true] at hr
        by_cases h3 : 64 ≤ d
        · simp [h3] at hr
        simp only [h3, if_false] at hr
        have hx0 : stepF cd rr pl x fs (FrC.mk loop is res st) = (if cd x = 4 then tksS st [127] else some st).map fun s => fs ++ [FrC.mk loop is res s] ++ [FrC.mk (cd x = 3) (cd x = 4) (rr x) ([], False)] := by
          simp only [stepF, h11, h5, h2, if_true, if_false]
        rw [hx0]
        simp only [bchk, h1, if_false, h2, if_true]
        generalize (if cd x = 4 then tksS st [127] else some st) = o1
        match o1 with
        | none => simp
        | some s1 =>
          simp only [Option.map_some, Option.bind_some]
          cases hr1 : rblk f (r.map cd) (d + 1) with
          | none => simp [hr1] at hr
          | some rest1 =>
            simp only [hr1] at hr
            have hne1 : rest1 ≠ [] := by intro e; simp [e] at hr
            have i1 := ih r (d + 1) (labs ++ [if cd x = 3 then [] else rr x]) (rr x) ([], False) (base + s1.1.length) (fs ++ [FrC.mk loop is res s1]) (cd x = 3) (cd x = 4) rest1 (by omega) hr1 hne1
              (by rw [hl]; simp [labF]) (by rw [hgtF_snoc, hb])
            obtain ⟨len1, k1, _⟩ := (rblk_spec f (r.map cd) (d + 1) (by simpa using (by omega : r.length < f)) (by omega)).2 rest1 hr1
            simp only [List.length_map] at len1
            generalize bchk cd rr pl f r (labs ++ [if cd x = 3 then [] else rr x]) (rr x) ([], False) (base + s1.1.length) = o2 at i1
            match o2, i1 with
            | none, i1 => rw [i1.1 rfl]; simp
            | some (hs1, []), i1 => exact absurd (i1.2 hs1 [] rfl).1.symm (by simpa using hne1)
            | some (hs1, x2 :: r2), i1 =>
              obtain ⟨e1, st1, hcl, q1⟩ := i1.2 _ _ rfl
              have q1 := q1 x2 r2 rfl
              simp only [Option.bind_some]
              rw [q1]
              subst e1
              simp only [List.map_cons, List.length_cons, List.length_map] at hr len1
              have key : ∀ (f' : Prop) (st2 : Stk) (r3 : List ι) (hsA : List Nat) (x3 : ι), cd x3 = 11 → (∃ s', tksS st2 (rr x) = some s' ∧ s'.1 = []) → r3.length < f → rblk f (r3.map cd) d = some rest0 →
                  ((f' ∧ rr x ≠ [] → (((stepF cd rr pl x3 (fs ++ [FrC.mk loop is res s1]) (FrC.mk (cd x = 3) f' (rr x) st2)).bind fun fs' => (crun cd rr pl r3 fs').map (hsA ++ ·)) = none)) ∧
                  (¬ (f' ∧ rr x ≠ []) → (bchk cd rr pl f r3 labs res (giveS s1 (rr x)) base = none → (((stepF cd rr pl x3 (fs ++ [FrC.mk loop is res s1]) (FrC.mk (cd x = 3) f' (rr x) st2)).bind fun fs' => (crun cd rr pl r3 fs').map (hsA ++ ·)) = none)) ∧
                    (∀ hs3 rest3, bchk cd rr pl f r3 labs res (giveS s1 (rr x)) base = some (hs3, rest3) → rest3.map cd = rest0 ∧ ∃ st', (∃ s', tksS st' res = some s' ∧ s'.1 = []) ∧
                      ∀ y r', rest3 = y :: r' → ((stepF cd rr pl x3 (fs ++ [FrC.mk loop is res s1]) (FrC.mk (cd x = 3) f' (rr x) st2)).bind fun fs' => (crun cd rr pl r3 fs').map (hsA ++ ·)) = (stepF cd rr pl y fs ⟨loop, is, res, st'⟩).bind fun fs' => (crun cd rr pl r' fs').map ((hsA ++ hs3) ++ ·)))) := by
                intro f' st2 r3 hsA x3 h3 hc3 hlen hr3
                have hst : stepF cd rr pl x3 (fs ++ [FrC.mk loop is res s1]) (FrC.mk (cd x = 3) f' (rr x) st2) = if (f' → rr x = []) then some (fs ++ [FrC.mk loop is res (giveS s1 (rr x))]) else none := by
                  have hcf : closeF (FrC.mk (cd x = 3) f' (rr x) st2) := hc3
                  simp [stepF, h3, hcf]
                rw [hst]
                refine ⟨fun hf => by rw [if_neg (fun e => hf.2 (e hf.1))]; rfl, fun hf => ?_⟩
                rw [if_pos (fun e => Classical.byContradiction fun e' => hf ⟨e, e'⟩)]
                simp only [Option.bind_some]
                have i3 := ih r3 d labs res (giveS s1 (rr x)) base fs loop is rest0 hlen hr3 hne (by rw [hl]; simp [labF]) hb
                refine ⟨fun e => by rw [i3.1 e]; rfl, fun hs3 rest3 e => ?_⟩
                obtain ⟨a1, st', a2, a3⟩ := i3.2 _ _ e
                refine ⟨a1, st', a2, fun y r' e' => ?_⟩
                rw [a3 y r' e']
                cases stepF cd rr pl y fs ⟨loop, is, res, st'⟩ with
                | none => rfl
                | some z => simp only [Option.bind_some, Option.map_map]; congr 1; funext l; simp
              have done : ∀ {o : Option (List Nat)} {z : Nat} {g : List Nat → List Nat}, (Option.map (z :: ·) (Option.map g o)) = Option.map (fun l => z :: g l) o := fun {o z g} => by cases o <;> rfl
              rcases k1 (cd x2) _ rfl with e | e
              · have hr' : rblk f (r2.map cd) d = some rest0 := by simpa [e] using hr
                obtain ⟨kA, kB⟩ := key (cd x = 4) st1 r2 hs1 x2 e hcl (by omega) hr'
                simp only [e, show ¬ ((11 : Int) = 5) by decide, if_false]
                by_cases hf : cd x = 4 ∧ rr x ≠ []
                · rw [if_pos hf, kA hf]
                  exact ⟨fun _ => rfl, by simp⟩
                · rw [if_neg hf]
                  obtain ⟨kC, kD⟩ := kB hf
                  refine ⟨fun e' => ?_, fun hs rest e' => ?_⟩
                  · rw [kC (by simpa using e')]; rfl
                  · obtain ⟨p3, e3, e4⟩ := Option.map_eq_some_iff.1 e'
                    simp only [Prod.mk.injEq] at e4
                    obtain ⟨rfl, rfl⟩ := e4
                    obtain ⟨a1, st', a2, a3⟩ := kD _ _ (by rw [e3])
                    refine ⟨a1, st', a2, fun y r' e5 => ?_⟩
                    rw [a3 y r' e5]
                    cases stepF cd rr pl y fs ⟨loop, is, res, st'⟩ with
                    | none => rfl
                    | some z => simp only [Option.bind_some]; rw [done]; rfl
              · simp only [e, if_true] at hr ⊢
                by_cases h4 : cd x = 4
                · simp only [h4, if_true] at hr
                  cases hr2 : rblk f (r2.map cd) (d + 1) with
                  | none => simp [hr2] at hr
                  | some rest2 =>
                    simp only [hr2] at hr
                    have hne2 : rest2 ≠ [] := by intro e; simp [e] at hr
                    have i2 := ih r2 (d + 1) (labs ++ [if cd x = 3 then [] else rr x]) (rr x) ([], False) (base + s1.1.length) (fs ++ [FrC.mk loop is res s1]) (cd x = 3) False rest2 (by omega) hr2 hne2
                      (by rw [hl]; simp [labF]) (by rw [hgtF_snoc, hb])
                    obtain ⟨len2, k2, _⟩ := (rblk_spec f (r2.map cd) (d + 1) (by simpa using (by omega : r2.length < f)) (by omega)).2 rest2 hr2
                    simp only [List.length_map] at len2
                    have hst5 : stepF cd rr pl x2 (fs ++ [FrC.mk loop is res s1]) (FrC.mk (cd x = 3) (cd x = 4) (rr x) st1) = some (fs ++ [FrC.mk loop is res s1] ++ [FrC.mk (cd x = 3) False (rr x) ([], False)]) := by
                      have hcf : closeF (FrC.mk (cd x = 3) (cd x = 4) (rr x) st1) := hcl
                      simp only [stepF, e, show ¬ ((5 : Int) = 11) by decide, if_false, if_true, hcf]
                    rw [hst5]
                    simp only [Option.bind_some]
                    generalize bchk cd rr pl f r2 (labs ++ [if cd x = 3 then [] else rr x]) (rr x) ([], False) (base + s1.1.length) = o3 at i2
                    match o3, i2 with
                    | none, i2 => rw [i2.1 rfl]; simp
                    | some (hs2, []), i2 => exact absurd (i2.2 hs2 [] rfl).1.symm (by simpa using hne2)
                    | some (hs2, x3 :: r3), i2 =>
                      obtain ⟨e2, st2, hcl2, q2⟩ := i2.2 _ _ rfl
                      rw [q2 x3 r3 rfl]
                      subst e2
                      simp only [List.map_cons, List.length_cons, List.length_map] at hr len2
                      rcases k2 (cd x3) _ rfl with e3 | e3
                      · have hr' : rblk f (r3.map cd) d = some rest0 := by simpa [e3] using hr
                        obtain ⟨kA, kB⟩ := key False st2 r3 (hs1 ++ hs2) x3 e3 hcl2 (by omega) hr'
                        obtain ⟨kC, kD⟩ := kB (fun h => h.1)
                        have hmm : (Option.map (hs1 ++ ·) ((stepF cd rr pl x3 (fs ++ [FrC.mk loop is res s1]) (FrC.mk (cd x = 3) False (rr x) st2)).bind fun fs' => (crun cd rr pl r3 fs').map (hs2 ++ ·))) =
                            ((stepF cd rr pl x3 (fs ++ [FrC.mk loop is res s1]) (FrC.mk (cd x = 3) False (rr x) st2)).bind fun fs' => (crun cd rr pl r3 fs').map (hs1 ++ hs2 ++ ·)) := by
                          cases stepF cd rr pl x3 (fs ++ [FrC.mk loop is res s1]) (FrC.mk (cd x = 3) False (rr x) st2) with
                          | none => rfl
                          | some z => simp only [Option.bind_some]; cases crun cd rr pl r3 z <;> simp
                        rw [hmm]
                        simp only [Option.bind_some]
                        refine ⟨fun e' => ?_, fun hs rest e' => ?_⟩
                        · rw [kC (by simpa using e')]; rfl
                        · obtain ⟨p3, e3, e4⟩ := Option.map_eq_some_iff.1 e'
                          simp only [Prod.mk.injEq] at e4
                          obtain ⟨rfl, rfl⟩ := e4
                          obtain ⟨a1, st', a2, a3⟩ := kD _ _ (by rw [e3])
                          refine ⟨a1, st', a2, fun y r' e5 => ?_⟩
                          rw [a3 y r' e5]
                          cases stepF cd rr pl y fs ⟨loop, is, res, st'⟩ with
                          | none => rfl
                          | some z => simp only [Option.bind_some]; rw [done]; rfl
                      · simp [e3] at hr
                · simp [h4] at hr
      · simp only [h2, if_false] at hr
        have hx0 : stepF cd rr pl x fs (FrC.mk loop is res st) = (pl x st labs).map fun s => fs ++ [FrC.mk loop is res s] := by
          simp only [stepF, h11, h5, h2, if_false, hl]
        rw [hx0]
        simp only [bchk, h1, if_false, h2]
        cases pl x st labs with
        | none => simp
        | some s1 =>
          simp only [Option.map_some, Option.bind_some]
          have i1 := ih r d labs res s1 base fs loop is rest0 (by omega) hr hne (by rw [hl]; simp [labF]) hb
          refine ⟨fun e' => ?_, fun hs rest e' => ?_⟩
          · rw [i1.1 (by simpa using e')]; rfl
          · obtain ⟨p3, e3, e4⟩ := Option.map_eq_some_iff.1 e'
            simp only [Prod.mk.injEq] at e4
            obtain ⟨rfl, rfl⟩ := e4
            obtain ⟨a1, st', a2, a3⟩ := i1.2 _ _ (by rw [e3])
            refine ⟨a1, st', a2, fun y r' e5 => ?_⟩
            rw [a3 y r' e5]
            cases stepF cd rr pl y fs ⟨loop, is, res, st'⟩ with
            | none => rfl
            | some z => simp only [Option.bind_some]; cases crun cd rr pl r' z <;> rfl
theorem crun_bchk {f : Nat} {s : List ι} {res : List UInt8} (h : s.length < f) (hr : rblk f (s.map cd) 0 = some [11]) :
    crun cd rr pl s [FrC.mk False False res ([], False)] = (bchk cd rr pl f s [res] res ([], False) 0).map Prod.fst := by
  have i := bchk_spec cd rr pl f s 0 [res] res ([], False) 0 [] False False [11] h hr (by simp) (by simp [labF]) rfl
  generalize bchk cd rr pl f s [res] res ([], False) 0 = o at i
  match o, i with
  | none, i => simpa using i.1 rfl
  | some (hs, rest), i =>
    obtain ⟨e, st', hc, q⟩ := i.2 _ _ rfl
    obtain ⟨x, rfl⟩ : ∃ x, rest = [x] := by
      cases rest with
      | nil => simp at e
      | cons x t => cases t with
        | nil => exact ⟨x, rfl⟩
        | cons y t => simp at e
    have q := q x [] rfl
    simp only [List.nil_append] at q
    have hx : cd x = 11 := by simpa using e
    have hcf : closeF (FrC.mk False False res st') := hc
    rw [q]
    simp [stepF, hx, hcf, crun]
end
end Go.Hl
end
section
namespace Go.Hl
abbrev iV (n : Int) : VP := intV .i64 n
def encB (b : Bool) : List VP := [propV (b = true)]
instance : Enc 1 encB := ⟨fun _ => rfl, fun x q h => by simp only [encB, List.mem_cons, List.not_mem_nil, or_false] at h; subst h; infer_instance⟩
def anyV : VP := ⟨fun _ _ _ => True, fun _ _ _ => trivial⟩
theorem VLe.any {q : VP} : VLe q anyV := fun _ _ _ _ => trivial
open Classical in
noncomputable def whenE (p : Prop) (e : Int) : Int := if p then e else 0
theorem whenE_eq {p : Prop} {e : Int} (he : e ≠ 0) : whenE p e = 0 ↔ ¬ p := by unfold whenE; split <;> simp_all
def firstE (g : Nat → Int) : Nat → Int
 | 0 => 0
 | n + 1 => if firstE g n ≠ 0 then firstE g n else g n
theorem firstE_zero {g : Nat → Int} : ∀ {n : Nat}, firstE g n = 0 ↔ ∀ i, i < n → g i = 0
 | 0 => by simp [firstE]
 | n + 1 => by
  simp only [firstE]
  split
  · rename_i h
    constructor
    · intro h'; exact absurd h' h
    · intro h'; exact absurd (firstE_zero.2 fun i hi => h' i (by omega)) h
  · rename_i h
    have h0 : firstE g n = 0 := by simpa using h
    constructor
    · intro h' i hi
      by_cases e : i = n
      · subst e; exact h'
      · exact firstE_zero.1 h0 i (by omega)
    · intro h'; exact h' n (by omega)
variable {k : Nat}
theorem firstE_at {g : Nat → Int} {n : Nat} (h0 : firstE g k = 0) (hk : g k ≠ 0) (hn : k < n) : firstE g n = g k := by
 induction n with
 | zero => omega
 | succ n ih =>
  by_cases e : k = n
  · subst e; simp [firstE, h0]
  · have := ih (by omega)
    simp [firstE, this, hk]
variable {α : Type}
def onI (xs : List α) (f : α → Int) (i : Nat) : Int := match xs[i]? with | some x => f x | none => 0
theorem onI_eq {xs : List α} {f : α → Int} {i : Nat} {x : α} (h : xs[i]? = some x) : onI xs f i = f x := by simp [onI, h]
theorem firstE_on {xs : List α} {f : α → Int} : firstE (onI xs f) xs.length = 0 ↔ ∀ x ∈ xs, f x = 0 := by
 rw [firstE_zero]
 constructor
 · intro h x hx
   obtain ⟨i, hi⟩ := List.mem_iff_getElem?.1 hx
   have := h i (List.getElem?_eq_some_iff.1 hi).1
   rwa [onI_eq hi] at this
 · intro h i hi
   obtain ⟨x, hx⟩ := getElem?_lt hi
   rw [onI_eq hx]; exact h x (List.mem_of_getElem? hx)
open Classical in
noncomputable def idxF {α : Type} (p : α → Prop) : List α → Int
 | [] => -1
 | x :: l => if p x then 0 else if idxF p l < 0 then -1 else idxF p l + 1
theorem idxF_ge {α : Type} (p : α → Prop) : ∀ l : List α, -1 ≤ idxF p l
 | [] => by simp [idxF]
 | x :: l => by unfold idxF; have := idxF_ge p l; split <;> (try split) <;> omega
theorem idxF_nonneg {α : Type} {p : α → Prop} : ∀ {l : List α}, 0 ≤ idxF p l ↔ ∃ x ∈ l, p x
 | [] => by simp [idxF]
 | x :: l => by
  unfold idxF
  have ih := idxF_nonneg (p := p) (l := l)
  split
  · rename_i h; simp [h]
  · rename_i h
    split
    · rename_i h2
      simp only [List.mem_cons, exists_eq_or_imp, h, false_or]
      rw [← ih]; omega
    · rename_i h2
      simp only [List.mem_cons, exists_eq_or_imp, h, false_or]
      rw [← ih]; omega
variable {p : α → Prop} {l : List α}
theorem idxF_none (h : ∀ x ∈ l, ¬ p x) : idxF p l = -1 := by
 have h1 := idxF_ge p l
 have h2 : ¬ 0 ≤ idxF p l := fun h' => by obtain ⟨x, hx, hp⟩ := idxF_nonneg.1 h'; exact h x hx hp
 omega
theorem idxF_at {α : Type} {p : α → Prop} : ∀ {l : List α} {k : Nat} {x : α}, l[k]? = some x → p x → (∀ j y, j < k → l[j]? = some y → ¬ p y) → idxF p l = k
 | [], _, _, h, _, _ => by simp at h
 | y :: l, 0, x, h, hp, _ => by simp at h; subst h; simp [idxF, hp]
 | y :: l, k + 1, x, h, hp, hn => by
  have h1 := idxF_at (l := l) (k := k) (x := x) (by simpa using h) hp (fun j z hj hz => hn (j + 1) z (by omega) (by simpa using hz))
  have h2 := hn 0 y (by omega) rfl
  unfold idxF
  rw [if_neg h2, h1, if_neg (by omega)]; omega
def NotB (p : α → Prop) (l : List α) (k : Nat) : Prop := ∀ j y, j < k → l[j]? = some y → ¬ p y
theorem NotB.zero (p : α → Prop) (l : List α) : NotB p l 0 := fun j y h => by omega
theorem NotB.succ {x : α} (h : NotB p l k) (hx : l[k]? = some x) (hp : ¬ p x) : NotB p l (k + 1) := fun j y hj hy => by
 by_cases e : j = k
 · subst e; rw [hx] at hy; cases hy; exact hp
 · exact h j y (by omega) hy
theorem NotB.all (h : NotB p l k) (hk : l.length ≤ k) : ∀ x ∈ l, ¬ p x := fun x hx => by
 obtain ⟨j, hj⟩ := List.mem_iff_getElem?.1 hx
 exact h j x (by have := (List.getElem?_eq_some_iff.1 hj).1; omega) hj
theorem ptrV_at {cs : List VP} {j : Nat} {q : VP} (h : cs[j]? = some q) : VLe (ptrV (cs.drop (j * 1))) (ptrV [q]) := fun S w v ⟨b, off, hv, hb, hc⟩ => ⟨b, off, hv, hb, fun t p ht => by
 cases t with
 | zero => simp at ht; subst ht; exact hc 0 q (by rw [Nat.mul_one, List.getElem?_drop]; simpa using h)
 | succ t => simp at ht⟩
end Go.Hl
end
section
namespace Go.Hl
structure InfoD where
 Code : Int
 Name : List UInt8
 Form : Int
 Takes : List UInt8
 Gives : List UInt8
 deriving DecidableEq
structure RowD where
 code : Int
 name : List UInt8
 form : Int
 takes : List UInt8
 gives : List UInt8
 deriving DecidableEq
structure SpanD where
 first : Int
 many : Int
 group : Int
 bits : Int
 from_ : Int
 deriving DecidableEq
def encInfo (x : InfoD) : List VP := [intV .i64 x.Code, strV x.Name, intV .i64 x.Form, sliceV 1 encU8 x.Takes, sliceV 1 encU8 x.Gives]
def encRow (x : RowD) : List VP := [intV .i64 x.code, strV x.name, intV .i64 x.form, strV x.takes, strV x.gives]
def encSpan (x : SpanD) : List VP := [intV .i64 x.first, intV .i64 x.many, intV .i64 x.group, intV .i64 x.bits, intV .i64 x.from_]
def encPairI (x : Int × Int) : List VP := [intV .i64 x.1, intV .i64 x.2]
def encStrD (x : List UInt8) : List VP := [strV x]
instance : Enc 5 encInfo := ⟨fun _ => rfl, fun x q h => by simp only [encInfo, List.mem_cons, List.not_mem_nil, or_false] at h; rcases h with h | h | h | h | h <;> rw [h] <;> infer_instance⟩
instance : Enc 5 encRow := ⟨fun _ => rfl, fun x q h => by simp only [encRow, List.mem_cons, List.not_mem_nil, or_false] at h; rcases h with h | h | h | h | h <;> rw [h] <;> infer_instance⟩
instance : Enc 5 encSpan := ⟨fun _ => rfl, fun x q h => by simp only [encSpan, List.mem_cons, List.not_mem_nil, or_false] at h; rcases h with h | h | h | h | h <;> rw [h] <;> infer_instance⟩
instance : Enc 2 encPairI := ⟨fun _ => rfl, fun x q h => by simp only [encPairI, List.mem_cons, List.not_mem_nil, or_false] at h; rcases h with h | h <;> rw [h] <;> infer_instance⟩
instance : Enc 1 encStrD := ⟨fun _ => rfl, fun x q h => by simp only [encStrD, List.mem_cons, List.not_mem_nil, or_false] at h; rw [h]; infer_instance⟩
instance (x : InfoD) : FlatL (encInfo x) := ⟨fun q h => (inferInstance : Enc 5 encInfo).flat x q h⟩
instance (x : RowD) : FlatL (encRow x) := ⟨fun q h => (inferInstance : Enc 5 encRow).flat x q h⟩
instance (x : SpanD) : FlatL (encSpan x) := ⟨fun q h => (inferInstance : Enc 5 encSpan).flat x q h⟩
instance (x : Int × Int) : FlatL (encPairI x) := ⟨fun q h => (inferInstance : Enc 2 encPairI).flat x q h⟩
def rowsT : List RowD := [
 ⟨0, [117, 110, 114, 101, 97, 99, 104, 97, 98, 108, 101], 0, [], []⟩,
 ⟨1, [110, 111, 112], 0, [], []⟩,
 ⟨2, [98, 108, 111, 99, 107], 1, [], []⟩,
 ⟨3, [108, 111, 111, 112], 1, [], []⟩,
 ⟨4, [105, 102], 1, [], []⟩,
 ⟨5, [101, 108, 115, 101], 0, [], []⟩,
 ⟨11, [101, 110, 100], 0, [], []⟩,
 ⟨12, [98, 114], 2, [], []⟩,
 ⟨13, [98, 114, 95, 105, 102], 2, [], []⟩,
 ⟨14, [98, 114, 95, 116, 97, 98, 108, 101], 3, [], []⟩,
 ⟨15, [114, 101, 116, 117, 114, 110], 0, [], []⟩,
 ⟨16, [99, 97, 108, 108], 4, [], []⟩,
 ⟨17, [99, 97, 108, 108, 95, 105, 110, 100, 105, 114, 101, 99, 116], 5, [], []⟩,
 ⟨26, [100, 114, 111, 112], 0, [], []⟩,
 ⟨27, [115, 101, 108, 101, 99, 116], 0, [], []⟩,
 ⟨32, [108, 111, 99, 97, 108, 46, 103, 101, 116], 6, [], []⟩,
 ⟨33, [108, 111, 99, 97, 108, 46, 115, 101, 116], 6, [], []⟩,
 ⟨34, [108, 111, 99, 97, 108, 46, 116, 101, 101], 6, [], []⟩,
 ⟨35, [103, 108, 111, 98, 97, 108, 46, 103, 101, 116], 7, [], []⟩,
 ⟨36, [103, 108, 111, 98, 97, 108, 46, 115, 101, 116], 7, [], []⟩,
 ⟨40, [105, 51, 50, 46, 108, 111, 97, 100], 8, [105], [105]⟩,
 ⟨41, [105, 54, 52, 46, 108, 111, 97, 100], 8, [105], [108]⟩,
 ⟨44, [105, 51, 50, 46, 108, 111, 97, 100, 56, 95, 115], 8, [105], [105]⟩,
 ⟨45, [105, 51, 50, 46, 108, 111, 97, 100, 56, 95, 117], 8, [105], [105]⟩,
 ⟨46, [105, 51, 50, 46, 108, 111, 97, 100, 49, 54, 95, 115], 8, [105], [105]⟩,
 ⟨47, [105, 51, 50, 46, 108, 111, 97, 100, 49, 54, 95, 117], 8, [105], [105]⟩,
 ⟨48, [105, 54, 52, 46, 108, 111, 97, 100, 56, 95, 115], 8, [105], [108]⟩,
 ⟨49, [105, 54, 52, 46, 108, 111, 97, 100, 56, 95, 117], 8, [105], [108]⟩,
 ⟨50, [105, 54, 52, 46, 108, 111, 97, 100, 49, 54, 95, 115], 8, [105], [108]⟩,
 ⟨51, [105, 54, 52, 46, 108, 111, 97, 100, 49, 54, 95, 117], 8, [105], [108]⟩,
 ⟨52, [105, 54, 52, 46, 108, 111, 97, 100, 51, 50, 95, 115], 8, [105], [108]⟩,
 ⟨53, [105, 54, 52, 46, 108, 111, 97, 100, 51, 50, 95, 117], 8, [105], [108]⟩,
 ⟨54, [105, 51, 50, 46, 115, 116, 111, 114, 101], 8, [105, 105], []⟩,
 ⟨55, [105, 54, 52, 46, 115, 116, 111, 114, 101], 8, [105, 108], []⟩,
 ⟨58, [105, 51, 50, 46, 115, 116, 111, 114, 101, 56], 8, [105, 105], []⟩,
 ⟨59, [105, 51, 50, 46, 115, 116, 111, 114, 101, 49, 54], 8, [105, 105], []⟩,
 ⟨60, [105, 54, 52, 46, 115, 116, 111, 114, 101, 56], 8, [105, 108], []⟩,
 ⟨61, [105, 54, 52, 46, 115, 116, 111, 114, 101, 49, 54], 8, [105, 108], []⟩,
 ⟨62, [105, 54, 52, 46, 115, 116, 111, 114, 101, 51, 50], 8, [105, 108], []⟩,
 ⟨63, [109, 101, 109, 111, 114, 121, 46, 115, 105, 122, 101], 9, [], [105]⟩,
 ⟨64, [109, 101, 109, 111, 114, 121, 46, 103, 114, 111, 119], 9, [105], [105]⟩,
 ⟨65, [105, 51, 50, 46, 99, 111, 110, 115, 116], 11, [], [105]⟩,
 ⟨66, [105, 54, 52, 46, 99, 111, 110, 115, 116], 11, [], [108]⟩,
 ⟨167, [105, 51, 50, 46, 119, 114, 97, 112, 95, 105, 54, 52], 0, [108], [105]⟩,
 ⟨172, [105, 54, 52, 46, 101, 120, 116, 101, 110, 100, 95, 105, 51, 50, 95, 115], 0, [105], [108]⟩,
 ⟨173, [105, 54, 52, 46, 101, 120, 116, 101, 110, 100, 95, 105, 51, 50, 95, 117], 0, [105], [108]⟩,
 ⟨192, [105, 51, 50, 46, 101, 120, 116, 101, 110, 100, 56, 95, 115], 0, [105], [105]⟩]
def lateT : List RowD := [
 ⟨193, [105, 51, 50, 46, 101, 120, 116, 101, 110, 100, 49, 54, 95, 115], 0, [105], [105]⟩,
 ⟨194, [105, 54, 52, 46, 101, 120, 116, 101, 110, 100, 56, 95, 115], 0, [108], [108]⟩,
 ⟨195, [105, 54, 52, 46, 101, 120, 116, 101, 110, 100, 49, 54, 95, 115], 0, [108], [108]⟩,
 ⟨196, [105, 54, 52, 46, 101, 120, 116, 101, 110, 100, 51, 50, 95, 115], 0, [108], [108]⟩,
 ⟨64522, [109, 101, 109, 111, 114, 121, 46, 99, 111, 112, 121], 10, [105, 105, 105], []⟩,
 ⟨64523, [109, 101, 109, 111, 114, 121, 46, 102, 105, 108, 108], 9, [105, 105, 105], []⟩]
def spansT : List SpanD := [⟨69, 1, 2, 32, 3⟩, ⟨70, 10, 1, 32, 0⟩, ⟨80, 1, 2, 64, 3⟩, ⟨81, 10, 1, 64, 0⟩, ⟨103, 3, 2, 32, 0⟩, ⟨106, 15, 0, 32, 0⟩, ⟨121, 3, 2, 64, 0⟩, ⟨124, 15, 0, 64, 0⟩]
def binT : List (List UInt8) := [[97, 100, 100], [115, 117, 98], [109, 117, 108], [100, 105, 118, 95, 115], [100, 105, 118, 95, 117], [114, 101, 109, 95, 115], [114, 101, 109, 95, 117], [97, 110, 100], [111, 114], [120, 111, 114], [115, 104, 108], [115, 104, 114, 95, 115], [115, 104, 114, 95, 117], [114, 111, 116, 108], [114, 111, 116, 114]]
def testT : List (List UInt8) := [[101, 113], [110, 101], [108, 116, 95, 115], [108, 116, 95, 117], [103, 116, 95, 115], [103, 116, 95, 117], [108, 101, 95, 115], [108, 101, 95, 117], [103, 101, 95, 115], [103, 101, 95, 117]]
def unT : List (List UInt8) := [[99, 108, 122], [99, 116, 122], [112, 111, 112, 99, 110, 116], [101, 113, 122]]
def namesT : List (List UInt8) := [[117, 110, 114, 101, 97, 99, 104, 97, 98, 108, 101],
 [110, 111, 112],
 [98, 108, 111, 99, 107],
 [108, 111, 111, 112],
 [105, 102],
 [101, 108, 115, 101],
 [],
 [],
 [],
 [],
 [],
 [101, 110, 100],
 [98, 114],
 [98, 114, 95, 105, 102],
 [98, 114, 95, 116, 97, 98, 108, 101],
 [114, 101, 116, 117, 114, 110],
 [99, 97, 108, 108],
 [99, 97, 108, 108, 95, 105, 110, 100, 105, 114, 101, 99, 116],
 [],
 [],
 [],
 [],
 [],
 [],
 [],
 [],
 [100, 114, 111, 112],
 [115, 101, 108, 101, 99, 116],
 [],
 [],
 [],
 [],
 [108, 111, 99, 97, 108, 46, 103, 101, 116],
 [108, 111, 99, 97, 108, 46, 115, 101, 116],
 [108, 111, 99, 97, 108, 46, 116, 101, 101],
 [103, 108, 111, 98, 97, 108, 46, 103, 101, 116],
 [103, 108, 111, 98, 97, 108, 46, 115, 101, 116],
 [],
 [],
 [],
 [105, 51, 50, 46, 108, 111, 97, 100],
 [105, 54, 52, 46, 108, 111, 97, 100],
 [],
 [],
 [105, 51, 50, 46, 108, 111, 97, 100, 56, 95, 115],
 [105, 51, 50, 46, 108, 111, 97, 100, 56, 95, 117],
 [105, 51, 50, 46, 108, 111, 97, 100, 49, 54, 95, 115],
 [105, 51, 50, 46, 108, 111, 97, 100, 49, 54, 95, 117],
 [105, 54, 52, 46, 108, 111, 97, 100, 56, 95, 115],
 [105, 54, 52, 46, 108, 111, 97, 100, 56, 95, 117],
 [105, 54, 52, 46, 108, 111, 97, 100, 49, 54, 95, 115],
 [105, 54, 52, 46, 108, 111, 97, 100, 49, 54, 95, 117],
 [105, 54, 52, 46, 108, 111, 97, 100, 51, 50, 95, 115],
 [105, 54, 52, 46, 108, 111, 97, 100, 51, 50, 95, 117],
 [105, 51, 50, 46, 115, 116, 111, 114, 101],
 [105, 54, 52, 46, 115, 116, 111, 114, 101],
 [],
 [],
 [105, 51, 50, 46, 115, 116, 111, 114, 101, 56],
 [105, 51, 50, 46, 115, 116, 111, 114, 101, 49, 54],
 [105, 54, 52, 46, 115, 116, 111, 114, 101, 56],
 [105, 54, 52, 46, 115, 116, 111, 114, 101, 49, 54],
 [105, 54, 52, 46, 115, 116, 111, 114, 101, 51, 50],
 [109, 101, 109, 111, 114, 121, 46, 115, 105, 122, 101],
 [109, 101, 109, 111, 114, 121, 46, 103, 114, 111, 119],
 [105, 51, 50, 46, 99, 111, 110, 115, 116],
 [105, 54, 52, 46, 99, 111, 110, 115, 116],
 [],
 [],
 [105, 51, 50, 46, 101, 113, 122],
 [105, 51, 50, 46, 101, 113],
 [105, 51, 50, 46, 110, 101],
 [105, 51, 50, 46, 108, 116, 95, 115],
 [105, 51, 50, 46, 108, 116, 95, 117],
 [105, 51, 50, 46, 103, 116, 95, 115],
 [105, 51, 50, 46, 103, 116, 95, 117],
 [105, 51, 50, 46, 108, 101, 95, 115],
 [105, 51, 50, 46, 108, 101, 95, 117],
 [105, 51, 50, 46, 103, 101, 95, 115],
 [105, 51, 50, 46, 103, 101, 95, 117],
 [105, 54, 52, 46, 101, 113, 122],
 [105, 54, 52, 46, 101, 113],
 [105, 54, 52, 46, 110, 101],
 [105, 54, 52, 46, 108, 116, 95, 115],
 [105, 54, 52, 46, 108, 116, 95, 117],
 [105, 54, 52, 46, 103, 116, 95, 115],
 [105, 54, 52, 46, 103, 116, 95, 117],
 [105, 54, 52, 46, 108, 101, 95, 115],
 [105, 54, 52, 46, 108, 101, 95, 117],
 [105, 54, 52, 46, 103, 101, 95, 115],
 [105, 54, 52, 46, 103, 101, 95, 117],
 [],
 [],
 [],
 [],
 [],
 [],
 [],
 [],
 [],
 [],
 [],
 [],
 [105, 51, 50, 46, 99, 108, 122],
 [105, 51, 50, 46, 99, 116, 122],
 [105, 51, 50, 46, 112, 111, 112, 99, 110, 116],
 [105, 51, 50, 46, 97, 100, 100],
 [105, 51, 50, 46, 115, 117, 98],
 [105, 51, 50, 46, 109, 117, 108],
 [105, 51, 50, 46, 100, 105, 118, 95, 115],
 [105, 51, 50, 46, 100, 105, 118, 95, 117],
 [105, 51, 50, 46, 114, 101, 109, 95, 115],
 [105, 51, 50, 46, 114, 101, 109, 95, 117],
 [105, 51, 50, 46, 97, 110, 100],
 [105, 51, 50, 46, 111, 114],
 [105, 51, 50, 46, 120, 111, 114],
 [105, 51, 50, 46, 115, 104, 108],
 [105, 51, 50, 46, 115, 104, 114, 95, 115],
 [105, 51, 50, 46, 115, 104, 114, 95, 117],
 [105, 51, 50, 46, 114, 111, 116, 108],
 [105, 51, 50, 46, 114, 111, 116, 114],
 [105, 54, 52, 46, 99, 108, 122],
 [105, 54, 52, 46, 99, 116, 122],
 [105, 54, 52, 46, 112, 111, 112, 99, 110, 116],
 [105, 54, 52, 46, 97, 100, 100],
 [105, 54, 52, 46, 115, 117, 98],
 [105, 54, 52, 46, 109, 117, 108],
 [105, 54, 52, 46, 100, 105, 118, 95, 115],
 [105, 54, 52, 46, 100, 105, 118, 95, 117],
 [105, 54, 52, 46, 114, 101, 109, 95, 115],
 [105, 54, 52, 46, 114, 101, 109, 95, 117],
 [105, 54, 52, 46, 97, 110, 100],
 [105, 54, 52, 46, 111, 114],
 [105, 54, 52, 46, 120, 111, 114],
 [105, 54, 52, 46, 115, 104, 108],
 [105, 54, 52, 46, 115, 104, 114, 95, 115],
 [105, 54, 52, 46, 115, 104, 114, 95, 117],
 [105, 54, 52, 46, 114, 111, 116, 108],
 [105, 54, 52, 46, 114, 111, 116, 114],
 [],
 [],
 [],
 [],
 [],
 [],
 [],
 [],
 [],
 [],
 [],
 [],
 [],
 [],
 [],
 [],
 [],
 [],
 [],
 [],
 [],
 [],
 [],
 [],
 [],
 [],
 [],
 [],
 [105, 51, 50, 46, 119, 114, 97, 112, 95, 105, 54, 52],
 [],
 [],
 [],
 [],
 [105, 54, 52, 46, 101, 120, 116, 101, 110, 100, 95, 105, 51, 50, 95, 115],
 [105, 54, 52, 46, 101, 120, 116, 101, 110, 100, 95, 105, 51, 50, 95, 117],
 [],
 [],
 [],
 [],
 [],
 [],
 [],
 [],
 [],
 [],
 [],
 [],
 [],
 [],
 [],
 [],
 [],
 [],
 [105, 51, 50, 46, 101, 120, 116, 101, 110, 100, 56, 95, 115],
 [105, 51, 50, 46, 101, 120, 116, 101, 110, 100, 49, 54, 95, 115],
 [105, 54, 52, 46, 101, 120, 116, 101, 110, 100, 56, 95, 115],
 [105, 54, 52, 46, 101, 120, 116, 101, 110, 100, 49, 54, 95, 115],
 [105, 54, 52, 46, 101, 120, 116, 101, 110, 100, 51, 50, 95, 115]]
def foreignT : List (Int × Int) := [(28, 28), (37, 38), (42, 43), (56, 57), (67, 68), (91, 102), (139, 166), (168, 171), (174, 191), (208, 210), (253, 253), (64512, 64519), (64520, 64521), (64524, 64526), (64527, 64529)]
theorem findE_at {α : Type} {p : α → Bool} : ∀ {l : List α} {k : Nat} {x : α}, l[k]? = some x → p x = true → (∀ j y, j < k → l[j]? = some y → p y = false) → l.find? p = some x
 | [], _, _, h, _, _ => by simp at h
 | y :: l, 0, x, h, hp, _ => by simp at h; subst h; simp [hp]
 | y :: l, k + 1, x, h, hp, hn => by
  rw [List.find?_cons_of_neg (by simpa using hn 0 y (by omega) rfl)]
  exact findE_at (l := l) (k := k) (by simpa using h) hp (fun j z hj hz => hn (j + 1) z (by omega) (by simpa using hz))
def typesF (l : List UInt8) : List UInt8 := l.map fun c => if c = 108 then 126 else 127
def Ascii (l : List UInt8) : Prop := ∀ b ∈ l, b < 128
instance (l : List UInt8) : Decidable (Ascii l) := inferInstanceAs (Decidable (∀ b ∈ l, b < 128))
def infoOf (r : RowD) : InfoD := ⟨r.code, r.name, r.form, typesF r.takes, typesF r.gives⟩
def zeroI : InfoD := ⟨0, [], 0, [], []⟩
def zeroR : RowD := ⟨0, [], 0, [], []⟩
def inSpan (code : Int) (s : SpanD) : Bool := decide (s.first ≤ code ∧ code < s.first + s.many)
def numO (code : Int) : Option (Int × Int × Int) := (spansT.find? (inSpan code)).map fun s => (s.group, s.from_ + code - s.first, s.bits)
def kindS (b : Int) : List UInt8 := if b = 64 then [105, 54, 52, 46] else [105, 51, 50, 46]
def oneS (b : Int) : List UInt8 := if b = 64 then [108] else [105]
def numRow (code g n b : Int) : RowD :=
 if g = 0 then ⟨code, kindS b ++ binT.getD n.toNat [], 0, oneS b ++ oneS b, oneS b⟩
 else if g = 1 then ⟨code, kindS b ++ testT.getD n.toNat [], 0, oneS b ++ oneS b, [105]⟩
 else if n = 3 then ⟨code, kindS b ++ unT.getD n.toNat [], 0, oneS b, [105]⟩
 else ⟨code, kindS b ++ unT.getD n.toNat [], 0, oneS b, oneS b⟩
def numberedO (code : Int) : Option RowD := (numO code).map fun p => numRow code p.1 p.2.1 p.2.2
def hasCode (code : Int) (r : RowD) : Bool := decide (r.code = code)
def rowO (code : Int) : Option RowD := match rowsT.find? (hasCode code) with | some r => some r | none => match lateT.find? (hasCode code) with | some r => some r | none => numberedO code
def findI (code : Int) : Option InfoD := (rowO code).map infoOf
def ForeignP (code : Int) : Prop := ∃ r ∈ foreignT, r.1 ≤ code ∧ code ≤ r.2
instance (code : Int) : Decidable (ForeignP code) := inferInstanceAs (Decidable (∃ r ∈ foreignT, r.1 ≤ code ∧ code ≤ r.2))
def widthsT : List (List UInt8) := [[56], [49, 54], [51, 50]]
def restW (name : List UInt8) : List UInt8 := trimSuf (trimSuf (cutB name 46).2.1 [95, 115]) [95, 117]
def widthF (name : List UInt8) : Int := if hasSuf (restW name) [56] then 1 else if hasSuf (restW name) [49, 54] then 2 else if hasSuf (restW name) [51, 50] then 4 else if hasPre name [105, 54, 52] then 8 else 4
def widthO (code : Int) : Option Int := match findI code with | none => none | some x => if x.Form = 8 then some (widthF x.Name) else none
def nameR (code : Int) : List UInt8 := if code = 64522 then [109, 101, 109, 111, 114, 121, 46, 99, 111, 112, 121] else if code = 64523 then [109, 101, 109, 111, 114, 121, 46, 102, 105, 108, 108] else if code < 0 ∨ 196 < code then [] else namesT.getD code.toNat []
def formR (c : Int) : Int :=
 if 2 ≤ c ∧ c ≤ 4 then 1 else if c = 12 ∨ c = 13 then 2 else if c = 14 then 3 else if c = 16 then 4 else if c = 17 then 5 else if 32 ≤ c ∧ c ≤ 34 then 6 else if c = 35 ∨ c = 36 then 7 else if 40 ≤ c ∧ c ≤ 62 then 8 else if (c = 63 ∨ c = 64) ∨ c = 64523 then 9 else if c = 64522 then 10 else if c = 65 ∨ c = 66 then 11 else 0
def takesR (c : Int) : List UInt8 × List UInt8 :=
 if c < 40 then ([], []) else if c = 40 ∨ 44 ≤ c ∧ c ≤ 47 then ([127], [127]) else if c = 41 ∨ 48 ≤ c ∧ c ≤ 53 then ([127], [126]) else if (c = 54 ∨ c = 58) ∨ c = 59 then ([127, 127], [])
 else if c ≤ 62 then ([127, 126], []) else if c = 63 ∨ c = 65 then ([], [127]) else if c = 66 then ([], [126]) else if c = 80 ∨ c = 167 then ([126], [127])
 else if (70 ≤ c ∧ c ≤ 79) ∨ 106 ≤ c ∧ c ≤ 120 then ([127, 127], [127]) else if 81 ≤ c ∧ c ≤ 90 then ([126, 126], [127]) else if 124 ≤ c ∧ c ≤ 138 then ([126, 126], [126])
 else if c = 172 ∨ c = 173 then ([127], [126]) else if (121 ≤ c ∧ c ≤ 123) ∨ 194 ≤ c ∧ c ≤ 196 then ([126], [126]) else if 64522 ≤ c then ([127, 127, 127], []) else ([127], [127])
def widthR (c : Int) : Int :=
 if c = 40 ∨ c = 52 ∨ c = 53 ∨ c = 54 ∨ c = 62 then 4 else if c = 41 ∨ c = 55 then 8 else if c = 44 ∨ c = 45 ∨ c = 48 ∨ c = 49 ∨ c = 58 ∨ c = 60 then 1 else if c = 46 ∨ c = 47 ∨ c = 50 ∨ c = 51 ∨ c = 59 ∨ c = 61 then 2 else 0
def foreignR (c : Int) : Prop :=
 (c = 28 ∨ c = 37 ∨ c = 38 ∨ c = 42 ∨ c = 43 ∨ c = 56 ∨ c = 57 ∨ c = 67 ∨ c = 68 ∨ c = 208 ∨ c = 209 ∨ c = 210 ∨ c = 253) ∨ (91 ≤ c ∧ c ≤ 102 ∨ 139 ≤ c ∧ c ≤ 166 ∨ 168 ≤ c ∧ c ≤ 171 ∨ 174 ≤ c ∧ c ≤ 191 ∨ 64512 ≤ c ∧ c ≤ 64521 ∨ 64524 ≤ c ∧ c ≤ 64529)
instance (c : Int) : Decidable (foreignR c) := inferInstanceAs (Decidable (_ ∨ _))
theorem rows_ascii : ∀ r ∈ rowsT, Ascii r.takes ∧ Ascii r.gives ∧ r.takes.length ≤ 3 ∧ r.gives.length ≤ 3 := by decide
theorem late_ascii : ∀ r ∈ lateT, Ascii r.takes ∧ Ascii r.gives ∧ r.takes.length ≤ 3 ∧ r.gives.length ≤ 3 := by decide
def RowOk (r : RowD) : Prop := Ascii r.takes ∧ Ascii r.gives ∧ r.takes.length ≤ 3 ∧ r.gives.length ≤ 3
theorem oneS_ok (b : Int) : Ascii (oneS b) ∧ (oneS b).length = 1 := by unfold oneS; split <;> exact ⟨by decide, rfl⟩
theorem one_one_ok (b : Int) : Ascii (oneS b ++ oneS b) := by unfold oneS; split <;> decide
theorem numRow_ok (code g n b : Int) : RowOk (numRow code g n b) := by
 have h := oneS_ok b
 have h2 := one_one_ok b
 have h3 : Ascii [105] := by decide
 unfold numRow RowOk
 split
 · exact ⟨h2, h.1, by simp [h.2], by simp [h.2]⟩
 split
 · exact ⟨h2, h3, by simp [h.2], by simp⟩
 split
 · exact ⟨h.1, h3, by simp [h.2], by simp⟩
 · exact ⟨h.1, h.1, by simp [h.2], by simp [h.2]⟩
theorem rowO_ok {code : Int} {r : RowD} (h : rowO code = some r) : RowOk r := by
 unfold rowO at h
 split at h
 · rename_i r' hr; cases h; exact rows_ascii r (List.mem_of_find?_eq_some hr)
 · split at h
   · rename_i r' hr; cases h; exact late_ascii r (List.mem_of_find?_eq_some hr)
   · unfold numberedO at h
     cases hn : numO code with
     | none => rw [hn] at h; cases h
     | some p => rw [hn] at h; cases h; exact numRow_ok _ _ _ _
theorem spans_num : ∀ s ∈ spansT, 0 ≤ s.from_ ∧ (s.group = 0 ∧ s.from_ + s.many ≤ 15 ∨ s.group = 1 ∧ s.from_ + s.many ≤ 10 ∨ s.group = 2 ∧ s.from_ + s.many ≤ 4) ∧ (s.bits = 32 ∨ s.bits = 64) := by decide
theorem numO_bounds {code g n b : Int} (h : numO code = some (g, n, b)) : 0 ≤ n ∧ (g = 0 ∧ n < 15 ∨ g = 1 ∧ n < 10 ∨ g = 2 ∧ n < 4) ∧ (b = 32 ∨ b = 64) := by
 unfold numO at h
 cases hs : spansT.find? (inSpan code) with
 | none => rw [hs] at h; cases h
 | some s =>
  rw [hs] at h; cases h
  have h1 := spans_num s (List.mem_of_find?_eq_some hs)
  have h2 := List.find?_some hs
  simp only [inSpan, decide_eq_true_eq] at h2
  omega
end Go.Hl
namespace Go.Hl
theorem spans_bd : ∀ s ∈ spansT, 0 ≤ s.first ∧ s.first ≤ 200 ∧ 0 ≤ s.many ∧ s.many ≤ 20 ∧ 0 ≤ s.from_ ∧ s.from_ ≤ 10 := by decide
theorem numO_at {code : Int} {k : Nat} {s : SpanD} (hx : spansT[k]? = some s) (hc : inSpan code s = true) (hn : NotB (fun s => inSpan code s = true) spansT k) : numO code = some (s.group, s.from_ + code - s.first, s.bits) := by
 unfold numO; rw [findE_at hx hc (fun j y hj hy => by simpa using hn j y hj hy)]; rfl
theorem numO_none {code : Int} (hn : NotB (fun s => inSpan code s = true) spansT spansT.length) : numO code = none := by
 unfold numO; rw [List.find?_eq_none.2 (fun x hx => hn.all (Nat.le_refl _) x hx)]; rfl
theorem rowO_1 {code : Int} {k : Nat} {r : RowD} (hx : rowsT[k]? = some r) (hc : r.code = code) (hn : NotB (fun r => r.code = code) rowsT k) : rowO code = some r := by
 unfold rowO; rw [findE_at hx (by simpa [hasCode] using hc) (fun j y hj hy => by simpa [hasCode] using hn j y hj hy)]
theorem rows_none {code : Int} (hn : NotB (fun r : RowD => r.code = code) rowsT rowsT.length) : rowsT.find? (hasCode code) = none :=
 List.find?_eq_none.2 (fun x hx => by have := hn.all (Nat.le_refl _) x hx; simpa [hasCode] using this)
theorem late_none {code : Int} (hn : NotB (fun r : RowD => r.code = code) lateT lateT.length) : lateT.find? (hasCode code) = none :=
 List.find?_eq_none.2 (fun x hx => by have := hn.all (Nat.le_refl _) x hx; simpa [hasCode] using this)
theorem rowO_2 {code : Int} {k : Nat} {r : RowD} (h1 : NotB (fun r : RowD => r.code = code) rowsT rowsT.length) (hx : lateT[k]? = some r) (hc : r.code = code) (hn : NotB (fun r => r.code = code) lateT k) : rowO code = some r := by
 unfold rowO; rw [rows_none h1]; simp only; rw [findE_at hx (by simpa [hasCode] using hc) (fun j y hj hy => by simpa [hasCode] using hn j y hj hy)]
theorem rowO_3 {code : Int} (h1 : NotB (fun r : RowD => r.code = code) rowsT rowsT.length) (h2 : NotB (fun r : RowD => r.code = code) lateT lateT.length) : rowO code = numberedO code := by
 unfold rowO; rw [rows_none h1]; simp only; rw [late_none h2]
theorem numbered_some {code : Int} {p : Int × Int × Int} (h : numO code = some p) : numberedO code = some (numRow code p.1 p.2.1 p.2.2) := by unfold numberedO; rw [h]; rfl
theorem numbered_none {code : Int} (h : numO code = none) : numberedO code = none := by unfold numberedO; rw [h]; rfl
theorem typesF_snoc {l : List UInt8} {k : Nat} {x : UInt8} (h : l[k]? = some x) : typesF (l.take (k + 1)) = typesF (l.take k) ++ [if x = 108 then 126 else 127] := by
 rw [← take_snoc h]; simp [typesF]
theorem typesF_l {l : List UInt8} {k : Nat} {x : UInt8} (h : l[k]? = some x) (hc : (x.toNat : Int) = 108) : typesF (l.take (k + 1)) = typesF (l.take k) ++ [126] := by
 have : x = 108 := UInt8.toNat_inj.1 (by simp; omega)
 rw [typesF_snoc h, if_pos this]
theorem typesF_i {l : List UInt8} {k : Nat} {x : UInt8} (h : l[k]? = some x) (hc : ¬ (x.toNat : Int) = 108) : typesF (l.take (k + 1)) = typesF (l.take k) ++ [127] := by
 have : ¬ x = 108 := fun e => hc (by subst e; rfl)
 rw [typesF_snoc h, if_neg this]
theorem typesF_len (l : List UInt8) : (typesF l).length = l.length := by simp [typesF]
theorem strs_map : ∀ l : List (List UInt8), l.flatMap encStrD = l.map strV
 | [] => rfl
 | x :: l => by rw [List.flatMap_cons, List.map_cons, strs_map l]; rfl
theorem strs_at {l : List (List UInt8)} {j : Nat} (h : j < l.length) : (l.flatMap encStrD)[j]? = some (strV (l.getD j [])) := by
 rw [strs_map, List.getElem?_map, List.getElem?_eq_getElem h, List.getD_eq_getElem?_getD, List.getElem?_eq_getElem h]; rfl
theorem kind_len (b : Int) : (kindS b).length = 4 := by unfold kindS; split <;> rfl
theorem binT_len : ∀ s ∈ binT, s.length ≤ 10 := by decide
theorem testT_len : ∀ s ∈ testT, s.length ≤ 10 := by decide
theorem unT_len : ∀ s ∈ unT, s.length ≤ 10 := by decide
theorem getD_len {l : List (List UInt8)} (h : ∀ s ∈ l, s.length ≤ 10) (j : Nat) : (l.getD j []).length ≤ 10 := by
 rw [List.getD_eq_getElem?_getD]
 cases hj : l[j]? with
 | none => simp
 | some s => exact h s (List.mem_of_getElem? hj)
end Go.Hl
namespace Go.Hl
theorem name_ok {code : Int} {x : InfoD} (h : findI code = some x) : x.Name ≠ [46] ∧ x.Name.length ≤ 20 := by
 unfold findI at h
 cases hr : rowO code with
 | none => rw [hr] at h; cases h
 | some r =>
  rw [hr] at h; cases h
  show r.name ≠ [46] ∧ r.name.length ≤ 20
  have h1 : ∀ r ∈ rowsT, r.name ≠ [46] ∧ r.name.length ≤ 20 := by decide
  have h2 : ∀ r ∈ lateT, r.name ≠ [46] ∧ r.name.length ≤ 20 := by decide
  unfold rowO at hr
  split at hr
  · rename_i r' hf; cases hr; exact h1 _ (List.mem_of_find?_eq_some hf)
  · split at hr
    · rename_i r' hf; cases hr; exact h2 _ (List.mem_of_find?_eq_some hf)
    · unfold numberedO at hr
      cases hn : numO code with
      | none => rw [hn] at hr; cases hr
      | some p =>
       rw [hn] at hr; cases hr
       have hk := kind_len p.2.2
       have key : ∀ (T : List (List UInt8)), (∀ s ∈ T, s.length ≤ 10) → kindS p.2.2 ++ T.getD p.2.1.toNat [] ≠ [46] ∧ (kindS p.2.2 ++ T.getD p.2.1.toNat []).length ≤ 20 := fun T hT => by
        have hl := getD_len hT p.2.1.toNat
        refine ⟨fun e => ?_, by rw [List.length_append]; omega⟩
        have := congrArg List.length e
        rw [List.length_append] at this
        simp at this; omega
       unfold numRow
       dsimp only
       split
       · exact key _ binT_len
       split
       · exact key _ testT_len
       split
       · exact key _ unT_len
       · exact key _ unT_len
theorem width_none1 {code : Int} (h : findI code = none) : widthO code = none := by unfold widthO; rw [h]
theorem width_none2 {code : Int} {x : InfoD} (h : findI code = some x) (hf : x.Form ≠ 8) : widthO code = none := by unfold widthO; rw [h]; simp [hf]
theorem width_some {code : Int} {x : InfoD} (h : findI code = some x) (hf : x.Form = 8) : widthO code = some (widthF x.Name) := by unfold widthO; rw [h]; simp [hf]
theorem widthF_at {name s : List UInt8} {k : Nat} (hs : widthsT[k]? = some s) (hc : hasSuf (restW name) s) (hn : NotB (fun s => hasSuf (restW name) s) widthsT k) : widthF name = 2 ^ k := by
 unfold widthF
 match k, hs with
 | 0, hs => cases hs; rw [if_pos hc]; rfl
 | 1, hs => cases hs; rw [if_neg (hn 0 _ (by omega) rfl), if_pos hc]; rfl
 | 2, hs => cases hs; rw [if_neg (hn 0 _ (by omega) rfl), if_neg (hn 1 _ (by omega) rfl), if_pos hc]; rfl
theorem widthF_no {name : List UInt8} (hn : NotB (fun s => hasSuf (restW name) s) widthsT widthsT.length) : widthF name = if hasPre name [105, 54, 52] then 8 else 4 := by
 unfold widthF
 rw [if_neg (hn 0 _ (by decide) rfl), if_neg (hn 1 _ (by decide) rfl), if_neg (hn 2 _ (by decide) rfl)]
theorem names_len : namesT.length = 197 := by decide +kernel
theorem shl3 : ∀ {k : Nat}, k < 3 → IntKind.i64.wrap (1 * 2 ^ k) = (2 : Int) ^ k
 | 0, _ => rfl
 | 1, _ => rfl
 | 2, _ => rfl
 | k + 3, h => by omega
end Go.Hl
end
section
namespace Go.Hl
def FactI (c : Int) : Prop := (widthO c = if 0 < widthR c then some (widthR c) else none) ∧ (ForeignP c ↔ foreignR c) ∧
 match findI c with
 | none => nameR c = []
 | some x => x.Code = c ∧ x.Name = nameR c ∧ nameR c ≠ [] ∧ x.Form = formR c ∧ x.Takes = (takesR c).1 ∧ x.Gives = (takesR c).2 ∧ ¬ ForeignP c
instance (c : Int) : Decidable (FactI c) := by unfold FactI; cases findI c <;> infer_instance
theorem fact_in : ∀ c : Fin 256, FactI (c.val : Int) := by decide +kernel
theorem fact_hi : ∀ c : Fin 18, FactI ((c.val : Int) + 64512) := by decide +kernel
variable {c : Int}
theorem find_out (h : c < 0 ∨ 196 < c ∧ c < 64522 ∨ 64523 < c) : findI c = none := by
 have h1 : ∀ r ∈ rowsT, 0 ≤ r.code ∧ r.code ≤ 196 := by decide
 have h2 : ∀ r ∈ lateT, 0 ≤ r.code ∧ r.code ≤ 196 ∨ 64522 ≤ r.code ∧ r.code ≤ 64523 := by decide
 have h3 : ∀ s ∈ spansT, 0 ≤ s.first ∧ s.first + s.many ≤ 197 := by decide
 unfold findI rowO numberedO numO
 rw [List.find?_eq_none.2 (fun r hr => by have := h1 r hr; simp [hasCode]; omega)]
 simp only
 rw [List.find?_eq_none.2 (fun r hr => by have := h2 r hr; simp [hasCode]; omega)]
 simp only
 rw [List.find?_eq_none.2 (fun s hs => by have := h3 s hs; simp [inSpan]; omega)]
 rfl
theorem fact_out (h : c < 0 ∨ 255 < c ∧ c < 64512 ∨ 64529 < c) : FactI c := by
 have hf : findI c = none := find_out (by omega)
 have h4 : ∀ r ∈ foreignT, 0 ≤ r.1 ∧ r.2 ≤ 255 ∨ 64512 ≤ r.1 ∧ r.2 ≤ 64529 := by decide
 have hno : ¬ ForeignP c := fun ⟨r, hr, hc⟩ => by have := h4 r hr; omega
 have hnr : ¬ foreignR c := by unfold foreignR; omega
 have hw : widthR c = 0 := by unfold widthR; repeat rw [if_neg (by omega)]
 refine ⟨?_, ⟨fun h => (hno h).elim, fun h => (hnr h).elim⟩, ?_⟩
 · rw [width_none1 hf, hw]; rfl
 · rw [hf]
   show nameR c = []
   unfold nameR
   rw [if_neg (by omega), if_neg (by omega)]
   by_cases h0 : c < 0 ∨ 196 < c
   · rw [if_pos h0]
   · omega
theorem fact_all (c : Int) : FactI c := by
 by_cases h1 : 0 ≤ c ∧ c < 256
 · have := fact_in ⟨c.toNat, by omega⟩
   rwa [show ((⟨c.toNat, by omega⟩ : Fin 256).val : Int) = c by simp; omega] at this
 by_cases h2 : 64512 ≤ c ∧ c < 64530
 · have := fact_hi ⟨(c - 64512).toNat, by omega⟩
   rwa [show ((⟨(c - 64512).toNat, by omega⟩ : Fin 18).val : Int) + 64512 = c by simp; omega] at this
 · exact fact_out (by omega)
theorem find_none_of (h : findI c = none) : nameR c = [] := by have := (fact_all c).2.2; rw [h] at this; exact this
theorem find_some_of {x : InfoD} (h : findI c = some x) : x.Code = c ∧ x.Name = nameR c ∧ nameR c ≠ [] ∧ x.Form = formR c ∧ x.Takes = (takesR c).1 ∧ x.Gives = (takesR c).2 ∧ ¬ ForeignP c := by
 have := (fact_all c).2.2; rw [h] at this; exact this
theorem find_iff : (findI c).isSome ↔ nameR c ≠ [] := by
 cases h : findI c with
 | none => simp [find_none_of h]
 | some x => simp [(find_some_of h).2.2.1]
theorem width_iff (c : Int) : (widthO c).getD 0 = widthR c ∧ ((widthO c).isSome ↔ 0 < widthR c) := by
 rw [(fact_all c).1]
 have h0 : 0 ≤ widthR c := by unfold widthR; repeat (first | split | omega)
 split
 · rename_i h; simp [h]
 · rename_i h; simp; omega
theorem ite_pred {α : Type} {P : α → Prop} {c : Prop} [Decidable c] {a b : α} (ha : P a) (hb : P b) : P (if c then a else b) := by split <;> assumption
theorem takes_len (c : Int) : (takesR c).1.length ≤ 3 ∧ (takesR c).2.length ≤ 3 := by
 suffices h : (fun p : List UInt8 × List UInt8 => p.1.length ≤ 3 ∧ p.2.length ≤ 3) (takesR c) from h
 unfold takesR
 iterate 14 refine ite_pred (P := fun p : List UInt8 × List UInt8 => p.1.length ≤ 3 ∧ p.2.length ≤ 3) ⟨by simp, by simp⟩ ?_
 exact ⟨by simp, by simp⟩
end Go.Hl
end
section
namespace Go.Hl
def encInt (n : Int) : List VP := [intV .i64 n]
def encU64 (n : Int) : List VP := [intV .u64 n]
structure SigD where
 P : List UInt8
 R : List UInt8
def encSig (s : SigD) : List VP := [sliceV 1 encU8 s.P, sliceV 1 encU8 s.R]
structure ImportD where
 Module : List UInt8
 Name : List UInt8
 Sig : Int
def encImport (x : ImportD) : List VP := [strV x.Module, strV x.Name, intV .i64 x.Sig]
structure InstrD where
 Code : Int
 A : Int
 B : Int
 Align : Int
 L : List Int
def encInstr (x : InstrD) : List VP := [intV .i64 x.Code, intV .u64 x.A, intV .u64 x.B, intV .i64 x.Align, sliceV 1 encU64 x.L]
structure BodyD where
 Locals : List UInt8
 L : List InstrD
def encBody (x : BodyD) : List VP := [sliceV 1 encU8 x.Locals, sliceV 5 encInstr x.L]
structure FuncD where
 Sig : Int
 Body : BodyD
def encFunc (x : FuncD) : List VP := [intV .i64 x.Sig, sliceV 1 encU8 x.Body.Locals, sliceV 5 encInstr x.Body.L]
structure LimitsD where
 Min : Int
 Max : Int
 Wide : Prop
def encLimits (x : LimitsD) : List VP := [intV .i64 x.Min, intV .i64 x.Max, propV x.Wide]
structure GlobalD where
 Ty : UInt8
 Mutable : Prop
 Value : Int
def encGlobal (x : GlobalD) : List VP := [intV .u8 (x.Ty.toNat : Int), propV x.Mutable, intV .u64 x.Value]
structure ExportD where
 Name : List UInt8
 Kind : Int
 Index : Int
def encExport (x : ExportD) : List VP := [strV x.Name, intV .i64 x.Kind, intV .i64 x.Index]
structure ElemD where
 At : Int
 Funcs : List Int
def encElem (x : ElemD) : List VP := [intV .u64 x.At, sliceV 1 encInt x.Funcs]
structure DataD where
 Mem : Int
 At : Int
 Bytes : List UInt8
def encData (x : DataD) : List VP := [intV .i64 x.Mem, intV .u64 x.At, sliceV 1 encU8 x.Bytes]
structure ModD where
 Sigs : List SigD
 Imports : List ImportD
 Funcs : List FuncD
 Table : Int
 Mems : List LimitsD
 Globals : List GlobalD
 Exports : List ExportD
 Start : Int
 Elems : List ElemD
 Datas : List DataD
def encMod (m : ModD) : List VP := [sliceV 2 encSig m.Sigs, sliceV 3 encImport m.Imports, sliceV 3 encFunc m.Funcs, intV .i64 m.Table, sliceV 3 encLimits m.Mems, sliceV 3 encGlobal m.Globals, sliceV 3 encExport m.Exports, intV .i64 m.Start, sliceV 2 encElem m.Elems, sliceV 3 encData m.Datas]
instance : Enc 1 encInt := ⟨fun _ => rfl, fun x q h => by simp only [encInt, List.mem_cons, List.not_mem_nil, or_false] at h; rw [h]; infer_instance⟩
instance : Enc 1 encU64 := ⟨fun _ => rfl, fun x q h => by simp only [encU64, List.mem_cons, List.not_mem_nil, or_false] at h; rw [h]; infer_instance⟩
instance : Enc 2 encSig := ⟨fun _ => rfl, fun x q h => by simp only [encSig, List.mem_cons, List.not_mem_nil, or_false] at h; rcases h with h | h <;> rw [h] <;> infer_instance⟩
instance : Enc 3 encImport := ⟨fun _ => rfl, fun x q h => by simp only [encImport, List.mem_cons, List.not_mem_nil, or_false] at h; rcases h with h | h | h <;> rw [h] <;> infer_instance⟩
instance : Enc 5 encInstr := ⟨fun _ => rfl, fun x q h => by simp only [encInstr, List.mem_cons, List.not_mem_nil, or_false] at h; rcases h with h | h | h | h | h <;> rw [h] <;> infer_instance⟩
instance : Enc 2 encBody := ⟨fun _ => rfl, fun x q h => by simp only [encBody, List.mem_cons, List.not_mem_nil, or_false] at h; rcases h with h | h <;> rw [h] <;> infer_instance⟩
instance : Enc 3 encFunc := ⟨fun _ => rfl, fun x q h => by simp only [encFunc, List.mem_cons, List.not_mem_nil, or_false] at h; rcases h with h | h | h <;> rw [h] <;> infer_instance⟩
instance : Enc 3 encLimits := ⟨fun _ => rfl, fun x q h => by simp only [encLimits, List.mem_cons, List.not_mem_nil, or_false] at h; rcases h with h | h | h <;> rw [h] <;> infer_instance⟩
instance : Enc 3 encGlobal := ⟨fun _ => rfl, fun x q h => by simp only [encGlobal, List.mem_cons, List.not_mem_nil, or_false] at h; rcases h with h | h | h <;> rw [h] <;> infer_instance⟩
instance : Enc 3 encExport := ⟨fun _ => rfl, fun x q h => by simp only [encExport, List.mem_cons, List.not_mem_nil, or_false] at h; rcases h with h | h | h <;> rw [h] <;> infer_instance⟩
instance : Enc 2 encElem := ⟨fun _ => rfl, fun x q h => by simp only [encElem, List.mem_cons, List.not_mem_nil, or_false] at h; rcases h with h | h <;> rw [h] <;> infer_instance⟩
instance : Enc 3 encData := ⟨fun _ => rfl, fun x q h => by simp only [encData, List.mem_cons, List.not_mem_nil, or_false] at h; rcases h with h | h | h <;> rw [h] <;> infer_instance⟩
theorem FlatL.of {α : Type} {n : Nat} {enc : α → List VP} [h : Enc n enc] (x : α) : FlatL (enc x) := ⟨fun q hq => h.flat x q hq⟩
instance (x : SigD) : FlatL (encSig x) := FlatL.of x
instance (x : ImportD) : FlatL (encImport x) := FlatL.of x
instance (x : InstrD) : FlatL (encInstr x) := FlatL.of x
instance (x : BodyD) : FlatL (encBody x) := FlatL.of x
instance (x : FuncD) : FlatL (encFunc x) := FlatL.of x
instance (x : LimitsD) : FlatL (encLimits x) := FlatL.of x
instance (x : GlobalD) : FlatL (encGlobal x) := FlatL.of x
instance (x : ExportD) : FlatL (encExport x) := FlatL.of x
instance (x : ElemD) : FlatL (encElem x) := FlatL.of x
instance (x : DataD) : FlatL (encData x) := FlatL.of x
def TypedP (l : List UInt8) : Prop := l.length ≤ 20 ∧ ∀ b ∈ l, b = 126 ∨ b = 127
def NamedP (l : List UInt8) : Prop := (∀ b ∈ l, 33 ≤ b.toNat ∧ b.toNat ≤ 126) ∧ l ≠ [] ∧ l.length ≤ 30
def InP (n many : Int) : Prop := 0 ≤ n ∧ n < many
def LimitsP (l : LimitsD) (most : Int) : Prop := 0 ≤ l.Min ∧ l.Min ≤ most ∧ (l.Max < 0 ∨ l.Min ≤ l.Max ∧ l.Max ≤ most)
end Go.Hl
namespace Go.Hl
def manyE (n : Nat) (most : Int) (g : Nat → Int) : Int := if most < (n : Int) then 15 else firstE g n
theorem manyE_zero {n : Nat} {most : Int} {g : Nat → Int} : manyE n most g = 0 ↔ (n : Int) ≤ most ∧ firstE g n = 0 := by
 unfold manyE; split
 · constructor
   · intro h; cases h
   · rintro ⟨h, _⟩; omega
 · constructor
   · intro h; exact ⟨by omega, h⟩
   · exact fun h => h.2
def countM (m : ModD) : Int := (m.Imports.length : Int) + (m.Funcs.length : Int)
def RightP (s : SigD) : Prop := TypedP s.P ∧ TypedP s.R
noncomputable def sigE (s : SigD) : Int := whenE (¬ RightP s) 5
noncomputable def sigsE (m : ModD) : Int := manyE m.Sigs.length 50 (onI m.Sigs sigE)
open Classical in
noncomputable def importE (m : ModD) (x : ImportD) : Int := if ¬ NamedP x.Module ∨ ¬ NamedP x.Name then 16 else whenE (¬ InP x.Sig m.Sigs.length) 2
noncomputable def importsE (m : ModD) : Int := manyE m.Imports.length 20 (onI m.Imports (importE m))
noncomputable def funcE (m : ModD) (x : FuncD) : Int := whenE (¬ InP x.Sig m.Sigs.length) 2
noncomputable def funcsE (m : ModD) : Int := if 100 < countM m then 15 else firstE (onI m.Funcs (funcE m)) m.Funcs.length
noncomputable def tableE (m : ModD) : Int := if m.Table < -1 then 2 else whenE (1000 < m.Table) 15
noncomputable def memE (x : LimitsD) : Int := whenE (¬ LimitsP x 65536) 5
noncomputable def memsE (m : ModD) : Int := manyE m.Mems.length 4 (onI m.Mems memE)
def bitsI (t : UInt8) : Int := if (t.toNat : Int) = 127 then 32 else if (t.toNat : Int) = 126 then 64 else 0
theorem bitsI_zero (b : UInt8) : bitsI b = 0 ↔ ¬ (b = 126 ∨ b = 127) := by
 unfold bitsI
 by_cases h1 : (b.toNat : Int) = 127
 · have e : b = 127 := UInt8.toNat_inj.1 (by simp; omega)
   subst e; simp
 · by_cases h2 : (b.toNat : Int) = 126
   · have e : b = 126 := UInt8.toNat_inj.1 (by simp; omega)
     subst e; simp
   · rw [if_neg h1, if_neg h2]
     simp only [true_iff]
     rintro (e | e) <;> subst e <;> simp at h1 h2
theorem typed_iff {l : List UInt8} : ((l.length : Int) ≤ 20 ∧ ¬ ∃ x ∈ l, bitsI x = 0) ↔ TypedP l := by
 unfold TypedP
 simp only [not_exists, not_and, bitsI_zero, Classical.not_not]
 constructor <;> (rintro ⟨h1, h2⟩; exact ⟨by omega, h2⟩)
noncomputable def globalE (x : GlobalD) : Int := whenE (bitsI x.Ty = 0 ∨ (x.Ty.toNat : Int) = 127 ∧ 4294967295 < x.Value) 5
noncomputable def globalsE (m : ModD) : Int := manyE m.Globals.length 50 (onI m.Globals globalE)
def cnt (m : ModD) : Nat → Int
 | 0 => countM m
 | 1 => min (IntKind.i64.wrap (m.Table + 1)) 1
 | 2 => (m.Mems.length : Int)
 | _ => (m.Globals.length : Int)
def kindJ (k : Int) : Nat := (max (min k 3) 0).toNat
def ExportP (m : ModD) (x : ExportD) : Prop := InP x.Kind 4 ∧ InP x.Index (cnt m (kindJ x.Kind))
open Classical in
noncomputable def exportE (m : ModD) (i : Nat) : Int := match m.Exports[i]? with
 | none => 0
 | some x => if ¬ NamedP x.Name ∨ (∃ y ∈ m.Exports.take i, y.Name = x.Name) then 16 else whenE (¬ ExportP m x) 2
noncomputable def exportsE (m : ModD) : Int := manyE m.Exports.length 50 (exportE m)
def numberO (m : ModD) (f : Int) : Option Int :=
 if f < 0 ∨ countM m ≤ f then none else if f < (m.Imports.length : Int) then (m.Imports[f.toNat]?).map (·.Sig) else (m.Funcs[(f - (m.Imports.length : Int)).toNat]?).map (·.Sig)
def sigO (m : ModD) (f : Int) : Option SigD := match numberO m f with
 | none => none
 | some n => if 0 ≤ n then m.Sigs[n.toNat]? else none
noncomputable def startE (m : ModD) : Int := if m.Start = -1 then 0 else match sigO m m.Start with
 | none => 2
 | some s => whenE (0 < (s.P.length : Int) + (s.R.length : Int)) 5
open Classical in
noncomputable def elemE (m : ModD) (x : ElemD) : Int := if 20 < (x.Funcs.length : Int) then 15 else whenE (m.Table = -1 ∨ (∃ f ∈ x.Funcs, ¬ InP f (countM m)) ∨ 4294967295 < x.At) 2
noncomputable def elemsE (m : ModD) : Int := manyE m.Elems.length 20 (onI m.Elems (elemE m))
open Classical in
noncomputable def dataE (m : ModD) (x : DataD) : Int := if 4096 < (x.Bytes.length : Int) then 15 else
 whenE (¬ InP x.Mem m.Mems.length ∨ (∃ y, m.Mems[x.Mem.toNat]? = some y ∧ ¬ y.Wide ∧ 4294967295 < x.At)) 2
noncomputable def datasE (m : ModD) : Int := manyE m.Datas.length 20 (onI m.Datas (dataE m))
end Go.Hl
namespace Go.Hl
theorem ptrV_len {cs : List VP} {S : BS} {w : World} {v : Value} (h : (ptrV cs).p S w v) {α : Type} {n : Nat} {enc : α → List VP} {xs : List α} (j : Nat) (hj : cs[j]? = some (sliceV n enc xs)) : xs.length ≤ 281474976710656 := by
 obtain ⟨b, off, _, _, hc⟩ := h
 obtain ⟨u, _, hq⟩ := hc j _ hj
 exact sliceV_len hq
theorem aggV_len {cs : List VP} {S : BS} {w : World} {v : Value} (h : (aggV cs).p S w v) {α : Type} {n : Nat} {enc : α → List VP} {xs : List α} (j : Nat) (hj : cs[j]? = some (sliceV n enc xs)) : xs.length ≤ 281474976710656 := by
 obtain ⟨arr, _, _, hc⟩ := h
 obtain ⟨u, _, hq⟩ := hc j _ hj
 exact sliceV_len hq
theorem ptrV_in {q : VP} {S : BS} {w : World} {v : Value} (h : (ptrV [q]).p S w v) : ∃ u, q.p S w u := by
 obtain ⟨b, off, _, _, hc⟩ := h
 obtain ⟨u, _, hq⟩ := hc 0 _ rfl
 exact ⟨u, hq⟩
structure ModLens (m : ModD) : Prop where
 sigs : m.Sigs.length ≤ 281474976710656
 imports : m.Imports.length ≤ 281474976710656
 funcs : m.Funcs.length ≤ 281474976710656
 mems : m.Mems.length ≤ 281474976710656
 globals : m.Globals.length ≤ 281474976710656
 exports : m.Exports.length ≤ 281474976710656
 elems : m.Elems.length ≤ 281474976710656
 datas : m.Datas.length ≤ 281474976710656
theorem modLens {m : ModD} {S : BS} {w : World} {v : Value} (h : (ptrV (encMod m)).p S w v) : ModLens m :=
 ⟨ptrV_len h 0 rfl, ptrV_len h 1 rfl, ptrV_len h 2 rfl, ptrV_len h 4 rfl, ptrV_len h 5 rfl, ptrV_len h 6 rfl, ptrV_len h 8 rfl, ptrV_len h 9 rfl⟩
theorem modLens2 {m : ModD} {S : BS} {w : World} {v : Value} (h : (ptrV [ptrV (encMod m)]).p S w v) : ModLens m := let ⟨_, h⟩ := ptrV_in h; modLens h
theorem modLensA {m : ModD} {S : BS} {w : World} {v : Value} (h : (aggV (encMod m)).p S w v) : ModLens m :=
 ⟨aggV_len h 0 rfl, aggV_len h 1 rfl, aggV_len h 2 rfl, aggV_len h 4 rfl, aggV_len h 5 rfl, aggV_len h 6 rfl, aggV_len h 8 rfl, aggV_len h 9 rfl⟩
end Go.Hl
namespace Go.Hl
theorem named_bad {l : List UInt8} {k : Nat} {x : UInt8} (hx : l[k]? = some x) (h : (x.toNat : Int) < 33 ∨ 126 < (x.toNat : Int)) : NamedP l ↔ False := by
 constructor
 · intro hn; have := hn.1 x (List.mem_of_getElem? hx); omega
 · exact False.elim
theorem named_all {l : List UInt8} (h : ∀ x ∈ l, ¬ ((x.toNat : Int) < 33 ∨ 126 < (x.toNat : Int))) : ∀ b ∈ l, 33 ≤ b.toNat ∧ b.toNat ≤ 126 := fun b hb => by have := h b hb; omega
theorem named_iff {l : List UInt8} (h : ∀ x ∈ l, ¬ ((x.toNat : Int) < 33 ∨ 126 < (x.toNat : Int))) : (l ≠ [] ∧ (l.length : Int) ≤ 30) ↔ NamedP l := by
 have := named_all h
 unfold NamedP
 constructor
 · rintro ⟨h1, h2⟩; exact ⟨this, h1, by omega⟩
 · rintro ⟨_, h1, h2⟩; exact ⟨h1, by omega⟩
theorem named_iff2 {l : List UInt8} (h : ∀ x ∈ l, ¬ ((x.toNat : Int) < 33 ∨ 126 < (x.toNat : Int))) : (0 < (l.length : Int) ∧ (l.length : Int) ≤ 30) ↔ NamedP l := by
 rw [← named_iff h]
 have : 0 < (l.length : Int) ↔ l ≠ [] := by
  rw [← List.length_pos_iff]; omega
 rw [this]
theorem typed_bad {l : List UInt8} {k : Nat} {x : UInt8} (hx : l[k]? = some x) (h : (x.toNat : Int) ≠ 126 ∧ (x.toNat : Int) ≠ 127) : TypedP l ↔ False := by
 constructor
 · intro hn; rcases hn.2 x (List.mem_of_getElem? hx) with e | e <;> subst e <;> simp at h
 · exact False.elim
theorem typed_iff2 {l : List UInt8} (h : ∀ x ∈ l, ¬ ((x.toNat : Int) ≠ 126 ∧ (x.toNat : Int) ≠ 127)) : (l.length : Int) ≤ 20 ↔ TypedP l := by
 unfold TypedP
 constructor
 · intro h1
   refine ⟨by omega, fun b hb => ?_⟩
   have := h b hb
   by_cases e : (b.toNat : Int) = 126
   · exact .inl (UInt8.toNat_inj.1 (by simp; omega))
   · exact .inr (UInt8.toNat_inj.1 (by simp; omega))
 · rintro ⟨h1, _⟩; omega
end Go.Hl
namespace Go.Hl
theorem numberO_import {m : ModD} {j : Nat} {x : ImportD} (hj : j < m.Imports.length) (hx : m.Imports[j]? = some x) : numberO m (j : Int) = some x.Sig := by
 unfold numberO countM
 rw [if_neg (by omega), if_pos (by omega)]
 simp [hx]
theorem numberO_func {m : ModD} {j : Nat} {x : FuncD} (hx : m.Funcs[j]? = some x) : numberO m ((m.Imports.length : Int) + (j : Int)) = some x.Sig := by
 have := (List.getElem?_eq_some_iff.1 hx).1
 unfold numberO countM
 rw [if_neg (by omega), if_neg (by omega)]
 rw [show ((m.Imports.length : Int) + (j : Int) - (m.Imports.length : Int)).toNat = j by omega]
 simp [hx]
theorem sigO_none {m : ModD} {f : Int} (h : ¬ (numberO m f).isSome ∨ ¬ InP ((numberO m f).getD 0) m.Sigs.length) : sigO m f = none := by
 unfold sigO
 cases hn : numberO m f with
 | none => rfl
 | some n =>
  rw [hn] at h
  simp only [Option.isSome_some, not_true, false_or, Option.getD_some] at h
  unfold InP at h
  simp only
  split
  · rw [List.getElem?_eq_none (by omega)]
  · rfl
theorem sigO_some {m : ModD} {f n : Int} {j : Nat} {x : SigD} (hn : numberO m f = some n) (hj : n = (j : Int)) (hx : m.Sigs[j]? = some x) : sigO m f = some x := by
 unfold sigO
 rw [hn]; subst hj; simp [hx]
theorem VLe.agg2 {a b c d : VP} (h1 : VLe a c) (h2 : VLe b d) : VLe (aggV [a, b]) (aggV [c, d]) := fun S w v ⟨arr, hv, hn, hc⟩ => ⟨arr, hv, hn, fun j q hj => by
 match j, hj with
 | 0, hj => simp at hj; subst hj; obtain ⟨u, hu, hq⟩ := hc 0 a rfl; exact ⟨u, hu, h1 _ _ _ hq⟩
 | 1, hj => simp at hj; subst hj; obtain ⟨u, hu, hq⟩ := hc 1 b rfl; exact ⟨u, hu, h2 _ _ _ hq⟩⟩
theorem startE_none {m : ModD} (h0 : ¬ m.Start = -1) (h : ¬ (sigO m m.Start).isSome) : startE m = 2 := by
 unfold startE
 rw [if_neg h0]
 cases hs : sigO m m.Start with
 | none => rfl
 | some s => rw [hs] at h; simp at h
theorem startE_some {m : ModD} (h0 : ¬ m.Start = -1) (h : ¬ ¬ (sigO m m.Start).isSome) : startE m = whenE (0 < ((((sigO m m.Start).getD ⟨[], []⟩).P.length : Int) + (((sigO m m.Start).getD ⟨[], []⟩).R.length : Int))) 5 := by
 unfold startE
 rw [if_neg h0]
 cases hs : sigO m m.Start with
 | none => rw [hs] at h; simp at h
 | some s => rfl
end Go.Hl
namespace Go.Hl
theorem cnt_at (m : ModD) (j : Nat) (hj : j < 4) : [intV .i64 (cnt m 0), intV .i64 (cnt m 1), intV .i64 (cnt m 2), intV .i64 (cnt m 3)][j]? = some (intV .i64 (cnt m j)) := by
 match j, hj with
 | 0, _ => rfl
 | 1, _ => rfl
 | 2, _ => rfl
 | 3, _ => rfl
theorem exportE_name {m : ModD} {i : Nat} {x : ExportD} (hx : m.Exports[i]? = some x) (h : ¬ NamedP x.Name ∨ ∃ y ∈ m.Exports.take i, y.Name = x.Name) : exportE m i = 16 := by
 unfold exportE; rw [hx]; simp only; rw [if_pos h]
theorem exportE_rest {m : ModD} {i : Nat} {x : ExportD} (hx : m.Exports[i]? = some x) (h : ¬ (¬ NamedP x.Name ∨ ∃ y ∈ m.Exports.take i, y.Name = x.Name)) : exportE m i = whenE (¬ InP x.Kind 4 ∨ ¬ InP x.Index (cnt m (kindJ x.Kind))) 2 := by
 unfold exportE; rw [hx]; simp only; rw [if_neg h]
 congr 1; unfold ExportP; exact propext (by rw [Classical.not_and_iff_not_or_not])
theorem elemE_rest {m : ModD} {x : ElemD} (h : ¬ 20 < (x.Funcs.length : Int)) : elemE m x = whenE ((m.Table = -1 ∨ ∃ f ∈ x.Funcs, ¬ InP f (countM m)) ∨ 4294967295 < x.At) 2 := by
 unfold elemE; rw [if_neg h]; congr 1; exact propext (by rw [or_assoc])
theorem data_at {x : DataD} {n : Nat} (h : InP x.Mem n) : max (min x.Mem ((n : Int) - 1)) 0 = (x.Mem.toNat : Int) := by
 obtain ⟨h1, h2⟩ := h; omega
end Go.Hl
namespace Go.Hl
def memAt (m : ModD) (k : Nat) : LimitsD := (m.Mems[k]?).getD ⟨0, 0, False⟩
theorem data_mem {m : ModD} {x : DataD} (h : InP x.Mem m.Mems.length) : m.Mems[x.Mem.toNat]? = some (memAt m x.Mem.toNat) := by
 obtain ⟨h1, h2⟩ := h
 obtain ⟨y, hy⟩ := getElem?_lt (xs := m.Mems) (k := x.Mem.toNat) (by omega)
 unfold memAt; rw [hy]; rfl
theorem dataE_rest {m : ModD} {x : DataD} (h : ¬ 4096 < (x.Bytes.length : Int)) : dataE m x = whenE (¬ InP x.Mem m.Mems.length ∨ ¬ (memAt m x.Mem.toNat).Wide ∧ 4294967295 < x.At) 2 := by
 unfold dataE; rw [if_neg h]; congr 1; apply propext
 by_cases hi : InP x.Mem m.Mems.length
 · have := data_mem hi
   simp only [hi, not_true, false_or, this, Option.some.injEq, exists_eq_left']
 · simp only [hi, not_false_iff, true_or]
end Go.Hl
namespace Go.Hl
def EqB {α : Type} (a b : List α) (k : Nat) : Prop := ∀ i, i < k → a[i]? = b[i]?
theorem EqB.zero {α : Type} (a b : List α) : EqB a b 0 := fun i h => by omega
theorem EqB.succ {α : Type} {a b : List α} {k : Nat} {x y : α} (h : EqB a b k) (hx : a[k]? = some x) (hy : b[k]? = some y) (e : x = y) : EqB a b (k + 1) := fun i hi => by
 by_cases e1 : i = k
 · subst e1; rw [hx, hy, e]
 · exact h i (by omega)
theorem EqB.all {α : Type} {a b : List α} {k : Nat} (h : EqB a b k) (hl : a.length = b.length) (hk : a.length ≤ k) : a = b := by
 apply List.ext_getElem?
 intro i
 by_cases hi : i < a.length
 · exact h i (by omega)
 · rw [List.getElem?_eq_none (by omega), List.getElem?_eq_none (by omega)]
theorem ne_at {α : Type} {a b : List α} {k : Nat} {x y : α} (hx : a[k]? = some x) (hy : b[k]? = some y) (e : x ≠ y) : a = b ↔ False := by
 constructor
 · intro h; subst h; rw [hx] at hy; exact e (Option.some.inj hy)
 · exact False.elim
theorem ne_len {α : Type} {a b : List α} (h : (a.length : Int) ≠ (b.length : Int)) : a = b ↔ False := by
 constructor
 · intro e; subst e; exact h rfl
 · exact False.elim
theorem u8_eq {x y : UInt8} : ((x.toNat : Int) = (y.toNat : Int)) ↔ x = y := by
 constructor
 · intro h; exact UInt8.toNat_inj.1 (by omega)
 · intro h; rw [h]
end Go.Hl
end
section
namespace Go.Hl
structure EnvD where
 Funcs : List SigD
 Sigs : List SigD
 Wide : List Prop
 Globals : List UInt8
 Mutable : List Prop
 Table : Prop
 Own : SigD
 Locals : List UInt8
open Classical
noncomputable def tgS (s : Stk) (i o : List UInt8) : Option Stk := (tksS s i).map (giveS · o)
noncomputable def adrW (w : Prop) : UInt8 := if w then 126 else 127
def labAt (labs : List (List UInt8)) (n : Int) : Option (List UInt8) := if n < (labs.length : Int) ∧ 0 ≤ n then labs[labs.length - 1 - n.toNat]? else none
def getI {α : Type} (l : List α) (n : Int) : Option α := if n < (l.length : Int) ∧ 0 ≤ n then l[n.toNat]? else none
noncomputable def memS (v : EnvD) (x : InstrD) (s : Stk) : Option Stk :=
 (getI v.Wide x.A).bind fun wa =>
 (if formR x.Code = 10 then getI v.Wide x.B else some wa).bind fun wb =>
 if formR x.Code = 8 then
  if (¬ wa ∧ 4294967295 < x.B) ∨ widthR x.Code < 2 ^ x.Align.toNat then none
  else tgS s (adrW wa :: (takesR x.Code).1.tail) (takesR x.Code).2
 else if x.Code = 63 then tgS s (takesR x.Code).1 [adrW wa]
 else if x.Code = 64 then tgS s [adrW wa] [adrW wa]
 else if x.Code = 64523 then tgS s [adrW wa, 127, adrW wa] (takesR x.Code).2
 else tgS s [adrW wa, adrW wb, adrW (wa ∧ wb)] (takesR x.Code).2
noncomputable def plS (v : EnvD) (x : InstrD) (s : Stk) (labs : List (List UInt8)) : Option Stk :=
 if x.Code = 0 then some killS
 else if x.Code = 12 then (labAt labs x.A).bind fun w => (tksS s w).map fun _ => killS
 else if x.Code = 13 then (labAt labs x.A).bind fun w => tgS s (w ++ [127]) w
 else if x.Code = 14 then (labAt labs x.A).bind fun w => if ∀ n ∈ x.L, labAt labs n = some w then (tksS s (w ++ [127])).map fun _ => killS else none
 else if x.Code = 15 then (tksS s v.Own.R).map fun _ => killS
 else if x.Code = 16 then (getI v.Funcs x.A).bind fun g => tgS s g.P g.R
 else if x.Code = 17 then (getI v.Sigs x.A).bind fun g => if x.B = 0 ∧ v.Table then tgS s (g.P ++ [127]) g.R else none
 else if x.Code = 26 then (tk1S s 0).map Prod.fst
 else if x.Code = 27 then (tksS s [127]).bind fun s => (tk1S s 0).bind fun p => (tk1S p.1 p.2).map fun p => giveS p.1 [p.2]
 else if x.Code = 32 then (getI v.Locals x.A).map fun t => giveS s [t]
 else if x.Code = 33 then (getI v.Locals x.A).bind fun t => tksS s [t]
 else if x.Code = 34 then (getI v.Locals x.A).bind fun t => tgS s [t] [t]
 else if x.Code = 35 then (getI v.Globals x.A).map fun t => giveS s [t]
 else if x.Code = 36 then (getI v.Globals x.A).bind fun t => (getI v.Mutable x.A).bind fun m => if m then tksS s [t] else none
 else if formR x.Code < 8 ∨ 10 < formR x.Code then tgS s (takesR x.Code).1 (takesR x.Code).2
 else memS v x s
end Go.Hl
end
