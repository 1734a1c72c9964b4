/-
  What the statement's proof leans on, several texts in one (packed by a program).
-/
import Derived.Test.YtpfobikpggmleaaGreatDoorSRI
import Derived.Test.YtpfobikpggmleaaGreatDoorChecked
set_option linter.all false
set_option maxRecDepth 1000000
set_option maxHeartbeats 4000000
section
namespace Go.Proofs
open Go.Hl
instance:FB Tryz.prog 7:={}
instance:FB Tryz.prog 8:={}
instance:FB Tryz.prog 9:={}
instance:FB Tryz.prog 10:={}
instance:FB Tryz.prog 11:={}
instance:FB Tryz.prog 12:={}
instance:FB Tryz.prog 13:={}
instance:FB Tryz.prog 14:={}
instance:FB Tryz.prog 15:={}
instance:FB Tryz.prog 16:={}
instance:FB Tryz.prog 18:={}
instance:FB Tryz.prog 22:={}
instance:FB Tryz.prog 25:={}
instance:FB Tryz.prog 31:={}
instance:FB Tryz.prog 32:={}
instance:FB Tryz.prog 33:={}
instance:FB Tryz.prog 34:={}
instance:FB Tryz.prog 35:={}
instance:FB Tryz.prog 36:={}
instance:FB Tryz.prog 37:={}
instance:FB Tryz.prog 38:={}
instance:FB Tryz.prog 39:={}
instance:FB Tryz.prog 40:={}
instance:FB Tryz.prog 41:={}
instance:FB Tryz.prog 42:={}
instance:FB Tryz.prog 45:={}
instance:FB Tryz.prog 46:={}
instance:FB Tryz.prog 47:={}
instance:FB Tryz.prog 48:={}
instance:FB Tryz.prog 49:={}
instance:FB Tryz.prog 50:={}
instance:FB Tryz.prog 51:={}
instance:FB Tryz.prog 52:={}
instance:FB Tryz.prog 53:={}
instance:FB Tryz.prog 57:={}
instance:FB Tryz.prog 75:={}
instance:FB Tryz.prog 76:={}
instance:FB Tryz.prog 77:={}
instance:FB Tryz.prog 78:={}
instance:FB Tryz.prog 79:={}
instance:FB Tryz.prog 80:={}
instance:FB Tryz.prog 81:={}
instance:FB Tryz.prog 82:={}
instance:FB Tryz.prog 83:={}
instance:FB Tryz.prog 84:={}
instance:FB Tryz.prog 85:={}
instance:FB Tryz.prog 86:={}
instance:FB Tryz.prog 87:={}
instance:FB Tryz.prog 88:={}
instance:FB Tryz.prog 89:={}
instance:FB Tryz.prog 93:={}
instance:FB Tryz.prog 94:={}
instance:FB Tryz.prog 95:={}
instance:FB Tryz.prog 96:={}
instance:FB Tryz.prog 97:={}
instance:FB Tryz.prog 101:={}
instance:FB Tryz.prog 103:={}
instance:FB Tryz.prog 105:={}
instance:FB Tryz.prog 108:={}
instance:FB Tryz.prog 109:={}
instance:FB Tryz.prog 110:={}
instance:FB Tryz.prog 111:={}
instance:FB Tryz.prog 112:={}
instance:FB Tryz.prog 113:={}
instance:FB Tryz.prog 114:={}
instance:FB Tryz.prog 116:={}
instance:FB Tryz.prog 117:={}
instance:FB Tryz.prog 118:={}
instance:FB Tryz.prog 119:={}
instance:FB Tryz.prog 120:={}
instance:FB Tryz.prog 121:={}
instance:FB Tryz.prog 122:={}
instance:FB Tryz.prog 124:={}
instance:FB Tryz.prog 127:={}
instance:FB Tryz.prog 129:={}
instance:FB Tryz.prog 130:={}
instance:FB Tryz.prog 131:={}
instance:FB Tryz.prog 132:={}
instance:FB Tryz.prog 133:={}
instance:FB Tryz.prog 134:={}
instance:FB Tryz.prog 135:={}
instance:FB Tryz.prog 136:={}
instance:FB Tryz.prog 137:={}
instance:FB Tryz.prog 138:={}
instance:FB Tryz.prog 139:={}
instance:FB Tryz.prog 140:={}
instance:FB Tryz.prog 141:={}
instance:FB Tryz.prog 142:={}
instance:FB Tryz.prog 145:={}
instance:FB Tryz.prog 146:={}
instance:FB Tryz.prog 147:={}
instance:FB Tryz.prog 148:={}
instance:FB Tryz.prog 149:={}
instance:FB Tryz.prog 150:={}
instance:FB Tryz.prog 151:={}
instance:FB Tryz.prog 152:={}
instance:FB Tryz.prog 153:={}
instance:FB Tryz.prog 154:={}
instance:FB Tryz.prog 155:={}
instance:FB Tryz.prog 156:={}
instance:FB Tryz.prog 157:={}
instance:FB Tryz.prog 158:={}
instance:FB Tryz.prog 159:={}
instance:FB Tryz.prog 160:={}
instance:FB Tryz.prog 161:={}
instance:FB Tryz.prog 162:={}
instance:FB Tryz.prog 163:={}
instance:FB Tryz.prog 169:={}
instance:FB Tryz.prog 170:={}
instance:FB Tryz.prog 171:={}
instance:FB Tryz.prog 172:={}
instance:FB Tryz.prog 173:={}
instance:FB Tryz.prog 174:={}
instance:FB Tryz.prog 175:={}
instance:FB Tryz.prog 185:={}
instance:FB Tryz.prog 186:={}
instance:FB Tryz.prog 187:={}
instance:FB Tryz.prog 188:={}
instance:FB Tryz.prog 189:={}
instance:FB Tryz.prog 190:={}
instance:FB Tryz.prog 191:={}
instance:FB Tryz.prog 192:={}
instance:FB Tryz.prog 193:={}
instance:FB Tryz.prog 194:={}
instance:FB Tryz.prog 195:={}
instance:FB Tryz.prog 196:={}
instance:FB Tryz.prog 197:={}
instance:FB Tryz.prog 198:={}
instance:FB Tryz.prog 199:={}
instance:FB Tryz.prog 200:={}
instance:FB Tryz.prog 201:={}
instance:FB Tryz.prog 202:={}
instance:FB Tryz.prog 203:={}
instance:FB Tryz.prog 204:={}
instance:FB Tryz.prog 205:={}
instance:FB Tryz.prog 206:={}
instance:FB Tryz.prog 207:={}
instance:FB Tryz.prog 208:={}
instance:FB Tryz.prog 209:={}
instance:FB Tryz.prog 210:={}
instance:FB Tryz.prog 211:={}
instance:FB Tryz.prog 221:={}
instance:FB Tryz.prog 222:={}
instance:FB Tryz.prog 223:={}
instance:FB Tryz.prog 224:={}
instance:FB Tryz.prog 225:={}
instance:FB Tryz.prog 226:={}
instance:FB Tryz.prog 227:={}
instance:FB Tryz.prog 228:={}
instance:FB Tryz.prog 229:={}
instance:FB Tryz.prog 230:={}
instance:FB Tryz.prog 231:={}
instance:FB Tryz.prog 232:={}
instance:FB Tryz.prog 233:={}
instance:FB Tryz.prog 238:={}
instance:FB Tryz.prog 239:={}
instance:FB Tryz.prog 240:={}
instance:FB Tryz.prog 241:={}
instance:FB Tryz.prog 242:={}
instance:FB Tryz.prog 243:={}
instance:FB Tryz.prog 244:={}
instance:FB Tryz.prog 245:={}
instance:FB Tryz.prog 246:={}
instance:FB Tryz.prog 247:={}
instance:FB Tryz.prog 248:={}
instance:FB Tryz.prog 249:={}
instance:FB Tryz.prog 250:={}
instance:FB Tryz.prog 251:={}
instance:FB Tryz.prog 252:={}
instance:FB Tryz.prog 253:={}
instance:FB Tryz.prog 254:={}
instance:FB Tryz.prog 255:={}
instance:FB Tryz.prog 256:={}
instance:FB Tryz.prog 257:={}
instance:FB Tryz.prog 258:={}
instance:FB Tryz.prog 259:={}
instance:FB Tryz.prog 260:={}
instance:FB Tryz.prog 261:={}
instance:FB Tryz.prog 262:={}
instance:FB Tryz.prog 263:={}
instance:FB Tryz.prog 264:={}
instance:FB Tryz.prog 265:={}
instance:FB Tryz.prog 266:={}
instance:FB Tryz.prog 267:={}
instance:FB Tryz.prog 268:={}
instance:FB Tryz.prog 269:={}
instance:FB Tryz.prog 270:={}
instance:FB Tryz.prog 271:={}
instance:FB Tryz.prog 272:={}
instance:FB Tryz.prog 273:={}
instance:FB Tryz.prog 274:={}
instance:FB Tryz.prog 275:={}
instance:FB Tryz.prog 276:={}
instance:FB Tryz.prog 277:={}
instance:FB Tryz.prog 278:={}
instance:FB Tryz.prog 279:={}
instance:FB Tryz.prog 280:={}
instance:FB Tryz.prog 281:={}
instance:FB Tryz.prog 282:={}
instance:FB Tryz.prog 283:={}
instance:FB Tryz.prog 284:={}
instance:FB Tryz.prog 285:={}
instance:FB Tryz.prog 286:={}
instance:FB Tryz.prog 287:={}
instance:FB Tryz.prog 288:={}
instance:FB Tryz.prog 289:={}
instance:FB Tryz.prog 290:={}
instance:FB Tryz.prog 291:={}
instance:FB Tryz.prog 292:={}
instance:FB Tryz.prog 293:={}
instance:FB Tryz.prog 294:={}
instance:FB Tryz.prog 295:={}
instance:FB Tryz.prog 296:={}
instance:FB Tryz.prog 297:={}
instance:FB Tryz.prog 298:={}
instance:FB Tryz.prog 299:={}
instance:FB Tryz.prog 300:={}
instance:FB Tryz.prog 301:={}
instance:FB Tryz.prog 302:={}
instance:FB Tryz.prog 303:={}
instance:FB Tryz.prog 304:={}
instance:FB Tryz.prog 305:={}
instance:FB Tryz.prog 306:={}
instance:FB Tryz.prog 307:={}
instance:FB Tryz.prog 308:={}
instance:FB Tryz.prog 309:={}
instance:FB Tryz.prog 310:={}
instance:FB Tryz.prog 311:={}
instance:FB Tryz.prog 312:={}
theorem Tryz.SE:Sr Tryz.prog 316 Extern.BytealgIndexByte.indexByte:=fun args w=>Go.run_callFunc_extern Tryz.func316 (by kernel_rfl) (by kernel_rfl) (by kernel_rfl) (by kernel_rfl) args w
instance:FU Tryz.prog 2 (.int .i64):=⟨Tryz.underlying2⟩
instance Tryz.ag3:FA Tryz.prog 3 false:={}
instance Tryz.J5:FC Tryz.prog 3 1:={}
instance:FU Tryz.prog 3 (.int .i64):=⟨Tryz.underlying3⟩
instance:FY Tryz.prog 3 8:={}
instance:FZ Tryz.prog 3 [.int .i64 0]:={}
instance:FA Tryz.prog 4 false:={}
instance Tryz.cz4:FC Tryz.prog 4 1:={}
instance:FY Tryz.prog 4 1:={}
instance:FZ Tryz.prog 4 [.bool false]:={}
instance:FA Tryz.prog 5 false:={}
instance Tryz.Uv:FC Tryz.prog 5 1:={}
instance:FU Tryz.prog 5 (.int .u8):=⟨Tryz.underlying5⟩
instance:FY Tryz.prog 5 1:={}
instance:FZ Tryz.prog 5 [.int .u8 0]:={}
instance:FA Tryz.prog 9 false:={}
instance Tryz.XJ:FC Tryz.prog 9 1:={}
instance:FU Tryz.prog 9 .string:=⟨Tryz.underlying9⟩
instance:FZ Tryz.prog 9 [.string ⟨#[]⟩]:={}
instance:FU Tryz.prog 21 (.int .i32):=⟨Tryz.underlying21⟩
instance:FA Tryz.prog 22 false:={}
instance Tryz.XK:FC Tryz.prog 22 1:={}
instance:FU Tryz.prog 22 (.slice 98):=⟨Tryz.underlying22⟩
instance:FA Tryz.prog 23 false:={}
instance Tryz.XL:FC Tryz.prog 23 1:={}
instance:FU Tryz.prog 23 (.slice 185):=⟨Tryz.underlying23⟩
instance:FA Tryz.prog 24 false:={}
instance Tryz.XM:FC Tryz.prog 24 1:={}
instance:FU Tryz.prog 24 (.slice 105):=⟨Tryz.underlying24⟩
instance:FA Tryz.prog 25 false:={}
instance Tryz.XN:FC Tryz.prog 25 1:={}
instance:FU Tryz.prog 25 (.slice 141):=⟨Tryz.underlying25⟩
instance:FA Tryz.prog 26 false:={}
instance Tryz.XO:FC Tryz.prog 26 1:={}
instance:FU Tryz.prog 26 (.slice 81):=⟨Tryz.underlying26⟩
instance:FA Tryz.prog 27 false:={}
instance Tryz.XP:FC Tryz.prog 27 1:={}
instance:FU Tryz.prog 27 (.slice 190):=⟨Tryz.underlying27⟩
instance:FA Tryz.prog 28 false:={}
instance Tryz.XQ:FC Tryz.prog 28 1:={}
instance:FU Tryz.prog 28 (.slice 147):=⟨Tryz.underlying28⟩
instance:FA Tryz.prog 29 false:={}
instance Tryz.XR:FC Tryz.prog 29 1:={}
instance:FU Tryz.prog 29 (.slice 151):=⟨Tryz.underlying29⟩
instance:FA Tryz.prog 31 true:={}
instance Tryz.XS:FC Tryz.prog 31 10:={}
instance:FF Tryz.prog 31 0 0:={}
instance:FF Tryz.prog 31 1 1:={}
instance:FF Tryz.prog 31 2 2:={}
instance:FF Tryz.prog 31 3 3:={}
instance:FF Tryz.prog 31 4 4:={}
instance:FF Tryz.prog 31 5 5:={}
instance:FF Tryz.prog 31 6 6:={}
instance:FF Tryz.prog 31 7 7:={}
instance:FF Tryz.prog 31 8 8:={}
instance:FF Tryz.prog 31 9 9:={}
instance Tryz.X3:FA Tryz.prog 32 false:={}
instance:FU Tryz.prog 32 (.int .u16):=⟨Tryz.underlying32⟩
instance:FA Tryz.prog 35 false:={}
instance:FU Tryz.prog 35 (.pointer 94):=⟨Tryz.underlying35⟩
instance:FA Tryz.prog 36 false:={}
instance:FC Tryz.prog 36 1:={}
instance:FZ Tryz.prog 36 [.int .i64 0]:={}
instance:FA Tryz.prog 39 false:={}
instance:FU Tryz.prog 39 (.pointer 88):=⟨Tryz.underlying39⟩
instance:FU Tryz.prog 41 (.pointer 115):=⟨Tryz.underlying41⟩
instance:FA Tryz.prog 45 false:={}
instance:FU Tryz.prog 45 (.pointer 133):=⟨Tryz.underlying45⟩
instance:FA Tryz.prog 50 false:={}
instance:FU Tryz.prog 50 (.pointer 129):=⟨Tryz.underlying50⟩
instance:FA Tryz.prog 56 false:={}
instance:FA Tryz.prog 58 false:={}
instance Tryz.HT:FC Tryz.prog 58 1:={}
instance:FU Tryz.prog 58 (.int .u64):=⟨Tryz.underlying58⟩
instance:FY Tryz.prog 58 8:={}
instance:FZ Tryz.prog 58 [.int .u64 0]:={}
instance:FA Tryz.prog 59 false:={}
instance Tryz.Nh:FC Tryz.prog 59 1:={}
instance:FU Tryz.prog 59 (.slice 5):=⟨Tryz.underlying59⟩
instance:FY Tryz.prog 59 24:={}
instance:FZ Tryz.prog 59 [.slice none 0 0]:={}
instance:FA Tryz.prog 60 false:={}
instance Tryz.X4:FC Tryz.prog 60 1:={}
instance:FU Tryz.prog 60 (.slice 58):=⟨Tryz.underlying60⟩
instance:FA Tryz.prog 61 false:={}
instance Tryz.X5:FC Tryz.prog 61 1:={}
instance:FU Tryz.prog 61 (.slice 3):=⟨Tryz.underlying61⟩
instance:FA Tryz.prog 68 false:={}
instance:FC Tryz.prog 68 1:={}
instance:FU Tryz.prog 68 (.pointer 160):=⟨Tryz.underlying68⟩
instance:FY Tryz.prog 68 8:={}
instance:FZ Tryz.prog 68 [.pointer none]:={}
instance Tryz.X6:FA Tryz.prog 79 false:={}
instance Tryz.X7:FC Tryz.prog 79 1:={}
instance:FU Tryz.prog 79 (.int .u8):=⟨Tryz.underlying79⟩
instance:FY Tryz.prog 79 1:={}
instance:FZ Tryz.prog 79 [.int .u8 0]:={}
instance:FA Tryz.prog 81 true:={}
instance Tryz.SF:FC Tryz.prog 81 3:={}
instance:FZ Tryz.prog 81 [.int .u8 0, .bool false, .int .u64 0]:={}
instance:FP Tryz.prog 81 [(0,1),(1,1),(2,1)]:={}
instance:FF Tryz.prog 81 0 0:={}
instance:FF Tryz.prog 81 1 1:={}
instance:FF Tryz.prog 81 2 2:={}
instance:FA Tryz.prog 85 false:={}
instance:FC Tryz.prog 85 1:={}
instance:FU Tryz.prog 85 (.slice 100):=⟨Tryz.underlying85⟩
instance:FA Tryz.prog 86 false:={}
instance:FC Tryz.prog 86 1:={}
instance:FU Tryz.prog 86 (.slice 111):=⟨Tryz.underlying86⟩
instance:FZ Tryz.prog 88 [.slice none 0 0, .slice none 0 0, .slice none 0 0, .int .i64 0, .slice none 0 0, .slice none 0 0, .slice none 0 0, .int .i64 0, .slice none 0 0, .slice none 0 0]:={}
instance:FP Tryz.prog 88 [(0,1),(1,1),(2,1),(3,1),(4,1),(5,1),(6,1),(7,1),(8,1),(9,1)]:={}
instance:FF Tryz.prog 88 0 0:={}
instance:FF Tryz.prog 88 1 1:={}
instance:FF Tryz.prog 88 2 2:={}
instance:FF Tryz.prog 88 3 3:={}
instance:FF Tryz.prog 88 4 4:={}
instance:FF Tryz.prog 88 5 5:={}
instance:FF Tryz.prog 88 6 6:={}
instance:FF Tryz.prog 88 7 7:={}
instance:FF Tryz.prog 88 8 8:={}
instance:FF Tryz.prog 88 9 9:={}
instance:FA Tryz.prog 91 false:={}
instance:FA Tryz.prog 92 false:={}
instance:FZ Tryz.prog 94 [.slice none 0 0, .int .i64 0, .int .i64 0, .map none, .map none]:={}
instance:FP Tryz.prog 94 [(0,1),(1,1),(2,1),(3,1),(4,1)]:={}
instance:FF Tryz.prog 94 0 0:={}
instance:FF Tryz.prog 94 1 1:={}
instance:FF Tryz.prog 94 2 2:={}
instance:FF Tryz.prog 94 3 3:={}
instance:FF Tryz.prog 94 4 4:={}
instance:FA Tryz.prog 95 false:={}
instance:FC Tryz.prog 95 1:={}
instance:FU Tryz.prog 95 (.slice 79):=⟨Tryz.underlying95⟩
instance:FZ Tryz.prog 95 [.slice none 0 0]:={}
instance:FA Tryz.prog 98 true:={}
instance Tryz.SG:FC Tryz.prog 98 2:={}
instance:FZ Tryz.prog 98 [.slice none 0 0, .slice none 0 0]:={}
instance:FF Tryz.prog 98 0 0:={}
instance:FF Tryz.prog 98 1 1:={}
instance:FA Tryz.prog 100 true:={}
instance:FC Tryz.prog 100 2:={}
instance:FY Tryz.prog 100 48:={}
instance:FZ Tryz.prog 100 [.slice none 0 0, .slice none 0 0]:={}
instance:FP Tryz.prog 100 [(0,1),(1,1)]:={}
instance:FF Tryz.prog 100 0 0:={}
instance:FF Tryz.prog 100 1 1:={}
instance:FA Tryz.prog 101 false:={}
instance Tryz.SH:FC Tryz.prog 101 1:={}
instance:FU Tryz.prog 101 (.slice 244):=⟨Tryz.underlying101⟩
instance:FA Tryz.prog 103 true:={}
instance Tryz.O1:FC Tryz.prog 103 2:={}
instance:FF Tryz.prog 103 0 0:={}
instance:FF Tryz.prog 103 1 1:={}
instance Tryz.O2:FC Tryz.prog 105 3:={}
instance:FF Tryz.prog 105 0 0:={}
instance:FF Tryz.prog 105 1 1:={}
instance:FA Tryz.prog 106 false:={}
instance:FU Tryz.prog 106 (.slice 242):=⟨Tryz.underlying106⟩
instance:FA Tryz.prog 108 true:={}
instance:FC Tryz.prog 108 2:={}
instance:FZ Tryz.prog 108 [.slice none 0 0, .slice none 0 0]:={}
instance:FP Tryz.prog 108 [(0,1),(1,1)]:={}
instance:FF Tryz.prog 108 0 0:={}
instance:FF Tryz.prog 108 1 1:={}
instance:FC Tryz.prog 111 3:={}
instance:FY Tryz.prog 111 56:={}
instance:FZ Tryz.prog 111 [.int .i64 0, .slice none 0 0, .slice none 0 0]:={}
instance:FP Tryz.prog 111 [(0,1),(1,2)]:={}
instance:FF Tryz.prog 111 0 0:={}
instance:FF Tryz.prog 111 1 1:={}
instance:FA Tryz.prog 113 false:={}
instance:FC Tryz.prog 113 1:={}
instance:FU Tryz.prog 113 (.slice 68):=⟨Tryz.underlying113⟩
instance:FZ Tryz.prog 115 [.pointer none, .pointer none, .pointer none, .int .i64 0, .int .i64 0, .int .i64 0, .slice none 0 0, .bool false]:={}
instance:FP Tryz.prog 115 [(0,1),(1,1),(2,1),(3,1),(4,1),(5,1),(6,1),(7,1)]:={}
instance:FF Tryz.prog 115 0 0:={}
instance:FF Tryz.prog 115 1 1:={}
instance:FF Tryz.prog 115 2 2:={}
instance:FF Tryz.prog 115 3 3:={}
instance:FF Tryz.prog 115 4 4:={}
instance:FF Tryz.prog 115 5 5:={}
instance:FF Tryz.prog 115 6 6:={}
instance:FF Tryz.prog 115 7 7:={}
instance:FA Tryz.prog 120 true:={}
instance:FC Tryz.prog 120 3:={}
instance:FZ Tryz.prog 120 [.int .i64 0, .int .i64 0, .slice none 0 0]:={}
instance:FP Tryz.prog 120 [(0,1),(1,1),(2,1)]:={}
instance:FF Tryz.prog 120 0 0:={}
instance:FF Tryz.prog 120 1 1:={}
instance:FF Tryz.prog 120 2 2:={}
instance:FA Tryz.prog 122 false:={}
instance:FF Tryz.prog 127 2 0:={}
instance:FZ Tryz.prog 129 [.int .i64 0, .int .i64 0, .int .i64 0, .map none, .int .i64 0, .int .i64 0, .bool false]:={}
instance:FP Tryz.prog 129 [(0,1),(1,1),(2,1),(3,1),(4,1),(5,1),(6,1)]:={}
instance:FF Tryz.prog 129 0 0:={}
instance:FF Tryz.prog 129 1 1:={}
instance:FF Tryz.prog 129 2 2:={}
instance:FF Tryz.prog 129 3 3:={}
instance:FF Tryz.prog 129 4 4:={}
instance:FF Tryz.prog 129 5 5:={}
instance:FF Tryz.prog 129 6 6:={}
instance:FA Tryz.prog 130 false:={}
instance:FA Tryz.prog 131 false:={}
instance:FC Tryz.prog 131 1:={}
instance:FU Tryz.prog 131 (.slice 139):=⟨Tryz.underlying131⟩
instance:FZ Tryz.prog 133 [.pointer none, .pointer none, .slice none 0 0, .int .i64 0, .map none, .map none, .int .i64 0, .bool false]:={}
instance:FP Tryz.prog 133 [(0,1),(1,1),(2,1),(3,1),(4,1),(5,1),(6,1),(7,1)]:={}
instance:FF Tryz.prog 133 0 0:={}
instance:FF Tryz.prog 133 1 1:={}
instance:FF Tryz.prog 133 2 2:={}
instance:FF Tryz.prog 133 3 3:={}
instance:FF Tryz.prog 133 4 4:={}
instance:FF Tryz.prog 133 5 5:={}
instance:FF Tryz.prog 133 6 6:={}
instance:FF Tryz.prog 133 7 7:={}
instance:FA Tryz.prog 137 true:={}
instance:FC Tryz.prog 137 2:={}
instance:FZ Tryz.prog 137 [.int .i64 0, .int .i64 0]:={}
instance:FP Tryz.prog 137 [(0,1),(1,1)]:={}
theorem Tryz.SI:Tryz.prog.stoodInHeld 137=false:=by kernel_rfl
instance:FF Tryz.prog 137 0 0:={}
instance:FF Tryz.prog 137 1 1:={}
instance:FA Tryz.prog 139 true:={}
instance:FC Tryz.prog 139 6:={}
instance:FY Tryz.prog 139 32:={}
instance:FZ Tryz.prog 139 [.int .i64 0, .int .i64 0, .int .i64 0, .bool false, .bool false, .bool false]:={}
instance:FP Tryz.prog 139 [(0,1),(1,2),(3,1),(4,1),(5,1)]:={}
instance:FF Tryz.prog 139 0 0:={}
instance:FF Tryz.prog 139 1 1:={}
instance:FF Tryz.prog 139 2 3:={}
instance:FF Tryz.prog 139 3 4:={}
instance:FF Tryz.prog 139 4 5:={}
instance:FA Tryz.prog 141 true:={}
instance Tryz.O3:FC Tryz.prog 141 3:={}
instance:FZ Tryz.prog 141 [.int .i64 0, .int .i64 0, .bool false]:={}
instance:FF Tryz.prog 141 0 0:={}
instance:FF Tryz.prog 141 1 1:={}
instance:FF Tryz.prog 141 2 2:={}
instance:FA Tryz.prog 147 true:={}
instance Tryz.O4:FC Tryz.prog 147 2:={}
instance:FZ Tryz.prog 147 [.int .u64 0, .slice none 0 0]:={}
instance:FF Tryz.prog 147 0 0:={}
instance:FF Tryz.prog 147 1 1:={}
instance:FA Tryz.prog 151 true:={}
instance Tryz.O5:FC Tryz.prog 151 3:={}
instance:FZ Tryz.prog 151 [.int .i64 0, .int .u64 0, .slice none 0 0]:={}
instance:FF Tryz.prog 151 0 0:={}
instance:FF Tryz.prog 151 1 1:={}
instance:FF Tryz.prog 151 2 2:={}
instance:FZ Tryz.prog 160 [.pointer none, .int .i64 0, .int .i64 0, .int .i64 0, .int .i64 0, .bool false]:={}
instance:FP Tryz.prog 160 [(0,1),(1,1),(2,1),(3,1),(4,1),(5,1)]:={}
instance:FF Tryz.prog 160 0 0:={}
instance:FF Tryz.prog 160 1 1:={}
instance:FF Tryz.prog 160 2 2:={}
instance:FA Tryz.prog 185 true:={}
instance Tryz.O6:FC Tryz.prog 185 3:={}
instance:FZ Tryz.prog 185 [.string ⟨#[]⟩, .string ⟨#[]⟩, .int .i64 0]:={}
instance:FF Tryz.prog 185 0 0:={}
instance:FF Tryz.prog 185 1 1:={}
instance:FF Tryz.prog 185 2 2:={}
instance:FA Tryz.prog 190 true:={}
instance Tryz.O7:FC Tryz.prog 190 3:={}
instance:FZ Tryz.prog 190 [.string ⟨#[]⟩, .int .i64 0, .int .i64 0]:={}
instance:FF Tryz.prog 190 0 0:={}
instance:FF Tryz.prog 190 1 1:={}
instance:FF Tryz.prog 190 2 2:={}
instance:FA Tryz.prog 195 true:={}
instance:FC Tryz.prog 195 4:={}
instance:FY Tryz.prog 195 40:={}
instance:FZ Tryz.prog 195 [.string ⟨#[]⟩, .int .i64 0, .int .i64 0, .int .i64 0]:={}
instance:FP Tryz.prog 195 [(0,1),(1,1),(2,1),(3,1)]:={}
instance:FA Tryz.prog 208 false:={}
instance:FC Tryz.prog 208 1:={}
instance:FU Tryz.prog 208 (.slice 210):=⟨Tryz.underlying208⟩
instance:FA Tryz.prog 209 false:={}
instance:FC Tryz.prog 209 1:={}
instance:FU Tryz.prog 209 (.slice 4):=⟨Tryz.underlying209⟩
instance:FA Tryz.prog 210 true:={}
instance:FC Tryz.prog 210 2:={}
instance:FY Tryz.prog 210 48:={}
instance:FZ Tryz.prog 210 [.slice none 0 0, .slice none 0 0]:={}
instance:FP Tryz.prog 210 [(0,1),(1,1)]:={}
instance:FF Tryz.prog 210 0 0:={}
instance:FF Tryz.prog 210 1 1:={}
instance:FA Tryz.prog 212 true:={}
instance:FC Tryz.prog 212 9:={}
instance:FZ Tryz.prog 212 [.slice none 0 0, .slice none 0 0, .slice none 0 0, .slice none 0 0, .slice none 0 0, .bool false, .slice none 0 0, .slice none 0 0, .slice none 0 0]:={}
instance:FP Tryz.prog 212 [(0,1),(1,1),(2,1),(3,1),(4,1),(5,1),(6,2),(8,1)]:={}
instance:FF Tryz.prog 212 0 0:={}
instance:FF Tryz.prog 212 1 1:={}
instance:FF Tryz.prog 212 2 2:={}
instance:FF Tryz.prog 212 3 3:={}
instance:FF Tryz.prog 212 4 4:={}
instance:FF Tryz.prog 212 5 5:={}
instance:FF Tryz.prog 212 6 6:={}
instance:FF Tryz.prog 212 7 8:={}
instance:FU Tryz.prog 222 (.int .u32):=⟨Tryz.underlying222⟩
instance:FC Tryz.prog 230 4:={}
instance:FZ Tryz.prog 230 [.int .i64 0, .int .i64 0, .int .i64 0, .int .i64 0]:={}
instance:FP Tryz.prog 230 [(0,1),(1,1),(2,1),(3,1)]:={}
instance:FF Tryz.prog 230 0 0:={}
instance:FF Tryz.prog 230 1 1:={}
instance:FF Tryz.prog 230 2 2:={}
instance:FF Tryz.prog 230 3 3:={}
instance:FA Tryz.prog 242 true:={}
instance:FC Tryz.prog 242 5:={}
instance:FY Tryz.prog 242 56:={}
instance:FZ Tryz.prog 242 [.int .i64 0, .int .u64 0, .int .u64 0, .int .i64 0, .slice none 0 0]:={}
instance:FP Tryz.prog 242 [(0,1),(1,1),(2,1),(3,1),(4,1)]:={}
instance:FF Tryz.prog 242 0 0:={}
instance:FF Tryz.prog 242 1 1:={}
instance:FF Tryz.prog 242 2 2:={}
instance:FF Tryz.prog 242 3 3:={}
instance:FF Tryz.prog 242 4 4:={}
instance:FA Tryz.prog 244 true:={}
instance Tryz.O8:FC Tryz.prog 244 5:={}
instance:FZ Tryz.prog 244 [.int .i64 0, .int .u64 0, .int .u64 0, .int .i64 0, .slice none 0 0]:={}
instance:FF Tryz.prog 244 0 0:={}
instance:FF Tryz.prog 244 1 1:={}
instance:FF Tryz.prog 244 2 2:={}
instance:FF Tryz.prog 244 3 3:={}
instance:FF Tryz.prog 244 4 4:={}
instance:FU Tryz.prog 246 (.slice 195):=⟨Tryz.underlying246⟩
instance:FU Tryz.prog 249 (.slice 291):=⟨Tryz.underlying249⟩
instance:FU Tryz.prog 255 (.slice 59):=⟨Tryz.underlying255⟩
instance:FA Tryz.prog 273 true:={}
instance:FC Tryz.prog 273 3:={}
instance:FZ Tryz.prog 273 [.slice none 0 0, .bool false, .int .i64 0]:={}
instance:FP Tryz.prog 273 [(0,1),(1,1),(2,1)]:={}
instance:FF Tryz.prog 273 0 0:={}
instance:FF Tryz.prog 273 1 1:={}
instance:FF Tryz.prog 273 2 2:={}
instance:FA Tryz.prog 285 true:={}
instance:FC Tryz.prog 285 2:={}
instance:FZ Tryz.prog 285 [.string ⟨#[]⟩, .nilFunc]:={}
instance:FP Tryz.prog 285 [(0,1),(1,1)]:={}
instance:FF Tryz.prog 285 0 0:={}
instance:FF Tryz.prog 285 1 1:={}
instance:FU Tryz.prog 286 (.array 10 285):=⟨Tryz.underlying286⟩
instance:FZ Tryz.prog 286 [.string ⟨#[]⟩, .nilFunc, .string ⟨#[]⟩, .nilFunc, .string ⟨#[]⟩, .nilFunc, .string ⟨#[]⟩, .nilFunc, .string ⟨#[]⟩, .nilFunc, .string ⟨#[]⟩, .nilFunc, .string ⟨#[]⟩, .nilFunc, .string ⟨#[]⟩, .nilFunc, .string ⟨#[]⟩, .nilFunc, .string ⟨#[]⟩, .nilFunc]:={}
instance:FR Tryz.prog 286 (10,2):={}
instance:FU Tryz.prog 289 (.slice 9):=⟨Tryz.underlying289⟩
instance:FA Tryz.prog 291 true:={}
instance:FC Tryz.prog 291 3:={}
instance:FY Tryz.prog 291 24:={}
instance:FZ Tryz.prog 291 [.int .i64 0, .int .i64 0, .int .i64 0]:={}
instance:FP Tryz.prog 291 [(0,1),(1,1),(2,1)]:={}
instance:FF Tryz.prog 291 1 1:={}
instance:FF Tryz.prog 291 2 2:={}
instance:FA Tryz.prog 323 true:={}
instance:FC Tryz.prog 323 4:={}
instance:FU Tryz.prog 323 (.array 4 3):=⟨Tryz.underlying323⟩
instance:FZ Tryz.prog 323 [.int .i64 0, .int .i64 0, .int .i64 0, .int .i64 0]:={}
instance:FR Tryz.prog 323 (4,1):={}
instance:FZ Tryz.prog 335 [.pointer none, .slice none 0 0, .slice none 0 0, .slice none 0 0]:={}
instance:FP Tryz.prog 335 [(0,1),(1,1),(2,2)]:={}
instance:FF Tryz.prog 335 0 0:={}
instance:FF Tryz.prog 335 1 1:={}
instance:FF Tryz.prog 335 2 2:={}
instance:FA Tryz.prog 337 true:={}
instance:FC Tryz.prog 337 5:={}
instance:FY Tryz.prog 337 48:={}
instance:FZ Tryz.prog 337 [.bool false, .bool false, .slice none 0 0, .int .i64 0, .bool false]:={}
instance:FP Tryz.prog 337 [(0,1),(1,1),(2,1),(3,1),(4,1)]:={}
instance:FF Tryz.prog 337 0 0:={}
instance:FF Tryz.prog 337 1 1:={}
instance:FF Tryz.prog 337 2 2:={}
instance:FF Tryz.prog 337 3 3:={}
instance:FF Tryz.prog 337 4 4:={}
instance:FA Tryz.prog 338 false:={}
instance:FC Tryz.prog 338 1:={}
instance:FU Tryz.prog 338 (.slice 337):=⟨Tryz.underlying338⟩
instance:FZ Tryz.prog 340 [.pointer none, .slice none 0 0, .slice none 0 0, .slice none 0 0, .slice none 0 0, .slice none 0 0]:={}
instance:FP Tryz.prog 340 [(0,4),(4,1),(5,1)]:={}
instance:FF Tryz.prog 340 0 0:={}
instance:FF Tryz.prog 340 1 4:={}
instance:FF Tryz.prog 340 2 5:={}
instance:FA Tryz.prog 357 false:={}
instance:FC Tryz.prog 357 1:={}
instance:FU Tryz.prog 357 (.slice 431):=⟨Tryz.underlying357⟩
instance:FU Tryz.prog 360 (.slice 364):=⟨Tryz.underlying360⟩
instance:FA Tryz.prog 364 true:={}
instance:FC Tryz.prog 364 2:={}
instance:FY Tryz.prog 364 16:={}
instance:FZ Tryz.prog 364 [.int .i64 0, .int .u8 0]:={}
instance:FP Tryz.prog 364 [(0,1),(1,1)]:={}
instance:FF Tryz.prog 364 0 0:={}
instance:FF Tryz.prog 364 1 1:={}
instance:FZ Tryz.prog 366 [.int .i64 0]:={}
instance:FP Tryz.prog 366 [(0,1)]:={}
instance:FF Tryz.prog 366 0 0:={}
instance:FU Tryz.prog 377 (.slice 95):=⟨Tryz.underlying377⟩
instance:FZ Tryz.prog 383 [.slice none 0 0, .slice none 0 0, .slice none 0 0, .bool false, .int .i64 0]:={}
instance:FP Tryz.prog 383 [(0,1),(1,1),(2,1),(3,1),(4,1)]:={}
instance:FF Tryz.prog 383 0 0:={}
instance:FF Tryz.prog 383 1 1:={}
instance:FF Tryz.prog 383 2 2:={}
instance:FF Tryz.prog 383 3 3:={}
instance:FF Tryz.prog 383 4 4:={}
instance:FA Tryz.prog 387 true:={}
instance:FC Tryz.prog 387 5:={}
instance:FZ Tryz.prog 387 [.int .i64 0, .string ⟨#[]⟩, .int .i64 0, .slice none 0 0, .slice none 0 0]:={}
instance:FP Tryz.prog 387 [(0,1),(1,1),(2,1),(3,1),(4,1)]:={}
instance:FF Tryz.prog 387 1 1:={}
instance:FF Tryz.prog 387 2 2:={}
instance:FF Tryz.prog 387 3 3:={}
instance:FF Tryz.prog 387 4 4:={}
instance:FA Tryz.prog 403 true:={}
instance:FC Tryz.prog 403 5:={}
instance:FZ Tryz.prog 403 [.int .i64 0, .string ⟨#[]⟩, .int .i64 0, .string ⟨#[]⟩, .string ⟨#[]⟩]:={}
instance:FP Tryz.prog 403 [(0,1),(1,1),(2,1),(3,1),(4,1)]:={}
instance:FF Tryz.prog 403 0 0:={}
instance:FF Tryz.prog 403 1 1:={}
instance:FF Tryz.prog 403 2 2:={}
instance:FF Tryz.prog 403 3 3:={}
instance:FF Tryz.prog 403 4 4:={}
instance:FA Tryz.prog 418 true:={}
instance:FC Tryz.prog 418 235:={}
instance:FU Tryz.prog 418 (.array 47 403):=⟨Tryz.underlying418⟩
instance:FZ Tryz.prog 418 [.int .i64 0, .string ⟨#[]⟩, .int .i64 0, .string ⟨#[]⟩, .string ⟨#[]⟩, .int .i64 0, .string ⟨#[]⟩, .int .i64 0, .string ⟨#[]⟩, .string ⟨#[]⟩, .int .i64 0, .string ⟨#[]⟩, .int .i64 0, .string ⟨#[]⟩, .string ⟨#[]⟩, .int .i64 0, .string ⟨#[]⟩, .int .i64 0, .string ⟨#[]⟩, .string ⟨#[]⟩, .int .i64 0, .string ⟨#[]⟩, .int .i64 0, .string ⟨#[]⟩, .string ⟨#[]⟩, .int .i64 0, .string ⟨#[]⟩, .int .i64 0, .string ⟨#[]⟩, .string ⟨#[]⟩, .int .i64 0, .string ⟨#[]⟩, .int .i64 0, .string ⟨#[]⟩, .string ⟨#[]⟩, .int .i64 0, .string ⟨#[]⟩, .int .i64 0, .string ⟨#[]⟩, .string ⟨#[]⟩, .int .i64 0, .string ⟨#[]⟩, .int .i64 0, .string ⟨#[]⟩, .string ⟨#[]⟩, .int .i64 0, .string ⟨#[]⟩, .int .i64 0, .string ⟨#[]⟩, .string ⟨#[]⟩, .int .i64 0, .string ⟨#[]⟩, .int .i64 0, .string ⟨#[]⟩, .string ⟨#[]⟩, .int .i64 0, .string ⟨#[]⟩, .int .i64 0, .string ⟨#[]⟩, .string ⟨#[]⟩, .int .i64 0, .string ⟨#[]⟩, .int .i64 0, .string ⟨#[]⟩, .string ⟨#[]⟩, .int .i64 0, .string ⟨#[]⟩, .int .i64 0, .string ⟨#[]⟩, .string ⟨#[]⟩, .int .i64 0, .string ⟨#[]⟩, .int .i64 0, .string ⟨#[]⟩, .string ⟨#[]⟩, .int .i64 0, .string ⟨#[]⟩, .int .i64 0, .string ⟨#[]⟩, .string ⟨#[]⟩, .int .i64 0, .string ⟨#[]⟩, .int .i64 0, .string ⟨#[]⟩, .string ⟨#[]⟩, .int .i64 0, .string ⟨#[]⟩, .int .i64 0, .string ⟨#[]⟩, .string ⟨#[]⟩, .int .i64 0, .string ⟨#[]⟩, .int .i64 0, .string ⟨#[]⟩, .string ⟨#[]⟩, .int .i64 0, .string ⟨#[]⟩, .int .i64 0, .string ⟨#[]⟩, .string ⟨#[]⟩, .int .i64 0, .string ⟨#[]⟩, .int .i64 0, .string ⟨#[]⟩, .string ⟨#[]⟩, .int .i64 0, .string ⟨#[]⟩, .int .i64 0, .string ⟨#[]⟩, .string ⟨#[]⟩, .int .i64 0, .string ⟨#[]⟩, .int .i64 0, .string ⟨#[]⟩, .string ⟨#[]⟩, .int .i64 0, .string ⟨#[]⟩, .int .i64 0, .string ⟨#[]⟩, .string ⟨#[]⟩, .int .i64 0, .string ⟨#[]⟩, .int .i64 0, .string ⟨#[]⟩, .string ⟨#[]⟩, .int .i64 0, .string ⟨#[]⟩, .int .i64 0, .string ⟨#[]⟩, .string ⟨#[]⟩, .int .i64 0, .string ⟨#[]⟩, .int .i64 0, .string ⟨#[]⟩, .string ⟨#[]⟩, .int .i64 0, .string ⟨#[]⟩, .int .i64 0, .string ⟨#[]⟩, .string ⟨#[]⟩, .int .i64 0, .string ⟨#[]⟩, .int .i64 0, .string ⟨#[]⟩, .string ⟨#[]⟩, .int .i64 0, .string ⟨#[]⟩, .int .i64 0, .string ⟨#[]⟩, .string ⟨#[]⟩, .int .i64 0, .string ⟨#[]⟩, .int .i64 0, .string ⟨#[]⟩, .string ⟨#[]⟩, .int .i64 0, .string ⟨#[]⟩, .int .i64 0, .string ⟨#[]⟩, .string ⟨#[]⟩, .int .i64 0, .string ⟨#[]⟩, .int .i64 0, .string ⟨#[]⟩, .string ⟨#[]⟩, .int .i64 0, .string ⟨#[]⟩, .int .i64 0, .string ⟨#[]⟩, .string ⟨#[]⟩, .int .i64 0, .string ⟨#[]⟩, .int .i64 0, .string ⟨#[]⟩, .string ⟨#[]⟩, .int .i64 0, .string ⟨#[]⟩, .int .i64 0, .string ⟨#[]⟩, .string ⟨#[]⟩, .int .i64 0, .string ⟨#[]⟩, .int .i64 0, .string ⟨#[]⟩, .string ⟨#[]⟩, .int .i64 0, .string ⟨#[]⟩, .int .i64 0, .string ⟨#[]⟩, .string ⟨#[]⟩, .int .i64 0, .string ⟨#[]⟩, .int .i64 0, .string ⟨#[]⟩, .string ⟨#[]⟩, .int .i64 0, .string ⟨#[]⟩, .int .i64 0, .string ⟨#[]⟩, .string ⟨#[]⟩, .int .i64 0, .string ⟨#[]⟩, .int .i64 0, .string ⟨#[]⟩, .string ⟨#[]⟩, .int .i64 0, .string ⟨#[]⟩, .int .i64 0, .string ⟨#[]⟩, .string ⟨#[]⟩, .int .i64 0, .string ⟨#[]⟩, .int .i64 0, .string ⟨#[]⟩, .string ⟨#[]⟩, .int .i64 0, .string ⟨#[]⟩, .int .i64 0, .string ⟨#[]⟩, .string ⟨#[]⟩, .int .i64 0, .string ⟨#[]⟩, .int .i64 0, .string ⟨#[]⟩, .string ⟨#[]⟩, .int .i64 0, .string ⟨#[]⟩, .int .i64 0, .string ⟨#[]⟩, .string ⟨#[]⟩, .int .i64 0, .string ⟨#[]⟩, .int .i64 0, .string ⟨#[]⟩, .string ⟨#[]⟩]:={}
instance:FR Tryz.prog 418 (47,5):={}
instance:FA Tryz.prog 420 true:={}
instance:FC Tryz.prog 420 30:={}
instance:FU Tryz.prog 420 (.array 6 403):=⟨Tryz.underlying420⟩
instance:FZ Tryz.prog 420 [.int .i64 0, .string ⟨#[]⟩, .int .i64 0, .string ⟨#[]⟩, .string ⟨#[]⟩, .int .i64 0, .string ⟨#[]⟩, .int .i64 0, .string ⟨#[]⟩, .string ⟨#[]⟩, .int .i64 0, .string ⟨#[]⟩, .int .i64 0, .string ⟨#[]⟩, .string ⟨#[]⟩, .int .i64 0, .string ⟨#[]⟩, .int .i64 0, .string ⟨#[]⟩, .string ⟨#[]⟩, .int .i64 0, .string ⟨#[]⟩, .int .i64 0, .string ⟨#[]⟩, .string ⟨#[]⟩, .int .i64 0, .string ⟨#[]⟩, .int .i64 0, .string ⟨#[]⟩, .string ⟨#[]⟩]:={}
instance:FR Tryz.prog 420 (6,5):={}
instance:FU Tryz.prog 426 (.array 3 9):=⟨Tryz.underlying426⟩
instance:FZ Tryz.prog 426 [.string ⟨#[]⟩, .string ⟨#[]⟩, .string ⟨#[]⟩]:={}
instance:FR Tryz.prog 426 (3,1):={}
instance:FC Tryz.prog 431 3:={}
instance:FY Tryz.prog 431 24:={}
instance:FZ Tryz.prog 431 [.int .i64 0, .int .i64 0, .int .i64 0]:={}
instance:FP Tryz.prog 431 [(0,1),(1,1),(2,1)]:={}
instance:FF Tryz.prog 431 0 0:={}
instance:FF Tryz.prog 431 1 1:={}
instance:FF Tryz.prog 431 2 2:={}
instance:FA Tryz.prog 437 true:={}
instance:FC Tryz.prog 437 15:={}
instance:FU Tryz.prog 437 (.array 15 9):=⟨Tryz.underlying437⟩
instance:FZ Tryz.prog 437 [.string ⟨#[]⟩, .string ⟨#[]⟩, .string ⟨#[]⟩, .string ⟨#[]⟩, .string ⟨#[]⟩, .string ⟨#[]⟩, .string ⟨#[]⟩, .string ⟨#[]⟩, .string ⟨#[]⟩, .string ⟨#[]⟩, .string ⟨#[]⟩, .string ⟨#[]⟩, .string ⟨#[]⟩, .string ⟨#[]⟩, .string ⟨#[]⟩]:={}
instance:FR Tryz.prog 437 (15,1):={}
instance:FA Tryz.prog 439 true:={}
instance:FC Tryz.prog 439 10:={}
instance:FU Tryz.prog 439 (.array 10 9):=⟨Tryz.underlying439⟩
instance:FZ Tryz.prog 439 [.string ⟨#[]⟩, .string ⟨#[]⟩, .string ⟨#[]⟩, .string ⟨#[]⟩, .string ⟨#[]⟩, .string ⟨#[]⟩, .string ⟨#[]⟩, .string ⟨#[]⟩, .string ⟨#[]⟩, .string ⟨#[]⟩]:={}
instance:FR Tryz.prog 439 (10,1):={}
instance:FA Tryz.prog 441 true:={}
instance:FC Tryz.prog 441 4:={}
instance:FU Tryz.prog 441 (.array 4 9):=⟨Tryz.underlying441⟩
instance:FZ Tryz.prog 441 [.string ⟨#[]⟩, .string ⟨#[]⟩, .string ⟨#[]⟩, .string ⟨#[]⟩]:={}
instance:FR Tryz.prog 441 (4,1):={}
instance:FA Tryz.prog 444 true:={}
instance:FC Tryz.prog 444 5:={}
instance:FZ Tryz.prog 444 [.int .i64 0, .int .i64 0, .int .i64 0, .int .i64 0, .int .i64 0]:={}
instance:FP Tryz.prog 444 [(0,1),(1,1),(2,1),(3,1),(4,1)]:={}
instance:FF Tryz.prog 444 0 0:={}
instance:FF Tryz.prog 444 1 1:={}
instance:FF Tryz.prog 444 2 2:={}
instance:FF Tryz.prog 444 3 3:={}
instance:FF Tryz.prog 444 4 4:={}
instance:FA Tryz.prog 445 true:={}
instance:FC Tryz.prog 445 40:={}
instance:FU Tryz.prog 445 (.array 8 444):=⟨Tryz.underlying445⟩
instance:FZ Tryz.prog 445 [.int .i64 0, .int .i64 0, .int .i64 0, .int .i64 0, .int .i64 0, .int .i64 0, .int .i64 0, .int .i64 0, .int .i64 0, .int .i64 0, .int .i64 0, .int .i64 0, .int .i64 0, .int .i64 0, .int .i64 0, .int .i64 0, .int .i64 0, .int .i64 0, .int .i64 0, .int .i64 0, .int .i64 0, .int .i64 0, .int .i64 0, .int .i64 0, .int .i64 0, .int .i64 0, .int .i64 0, .int .i64 0, .int .i64 0, .int .i64 0, .int .i64 0, .int .i64 0, .int .i64 0, .int .i64 0, .int .i64 0, .int .i64 0, .int .i64 0, .int .i64 0, .int .i64 0, .int .i64 0]:={}
instance:FR Tryz.prog 445 (8,5):={}
theorem Tryz.Qf:pM Tryz.prog 3 (Value.int .i64):=pM.int Tryz.underlying3
theorem Tryz.Qg:wz Tryz.prog 3=some (.int .i64 0):=by kernel_rfl
theorem Tryz.Qh:pM Tryz.prog 3 (Value.int .i64):=pM.int Tryz.underlying3
theorem Tryz.SJ:wz Tryz.prog 61=some (.slice none 0 0):=by kernel_rfl
theorem Tryz.yY:pM Tryz.prog 3 (Value.int .i64):=pM.int Tryz.underlying3
theorem Tryz.Ni:wz Tryz.prog 59=some (.slice none 0 0):=by kernel_rfl
theorem Tryz.qU:pM Tryz.prog 137 (J1 .i64 .i64):=pM.pair Tryz.underlying137 Tryz.SI (by decide) (by decide) rfl rfl Tryz.underlying3 Tryz.underlying3
instance:FM Tryz.prog:={}
end Go.Proofs
end
section
namespace Go.Hl
open Go.RowKit
section
variable {P:Program} {hs:List HP} {env:Env} {q:VP} {dst:Option Tmp} {ty T T' E:TypeId} {pos:String} {after:Array Edge} {gd:Option (Nat×Bool)} {x y z:Operand}
theorem wE {b off len:Nat} {k:IntKind} {i:Int} (j:Nat) (hT:P.underlying T=some (.slice E)) (hn:P.cellsOf E=1) (hx:bp env x (iI b off len)) (hy:bp env y (ag k i)) (hi:i=(j:Int)) (hj:j<len):
    bg P hs env ⟨dst, .indexAddr T x y,ty,pos,after,gd⟩ (aJ b (off+j)):=
  bg.aI fun ρ w S F _ he=>by
    obtain ⟨o,cap,hv,h1,h2,h3⟩:=he.o _ _ hx
    have h4:=he.o _ _ hy;simp only [af] at h4
    subst hi
    have ho:o=off:=h1.resolve_left (by omega)
    subst ho
    have hs:=run_sizeOf (T:=E) hn rfl w
    have m5:Addr.add ⟨b,o,none⟩ j=⟨b,o+j,none⟩:=by
      unfold Addr.add
      split<;>simp_all
    exact ⟨_,by simp [execOp,hv,h4,Instr.indexAt,asIntOf,run_underlying hT,Instr.sureAddr,hs,m5,hj],rfl⟩
theorem Nj {b k i:Nat} {l:List UInt8} {c:UInt8} (hT:kn P T=some false) (hx:bp env x (aJ b k)) (hi:hs[i]?=some (gk b l)) (hj:l[k]?=some c):bg P hs env ⟨dst, .load T x,ty,pos,after,gd⟩ (ag .u8 (c.toNat:Int)):=
 bg.aI fun ρ w S F ho oX=>by
  have hv:=oX.o _ _ hx;simp only [af] at hv
  obtain ⟨F1,_,_,T',hb⟩:=ho.get hi
  refine ⟨.int .u8 (c.toNat:Int), ?_,rfl⟩
  have hc:w.cell? ⟨b,k,none⟩=some (.int .u8 (c.toNat:Int)):=by simp [World.cell?,hb,nZ,hj]
  have h1:(loadVar T ⟨b,k,none⟩).run P w= .ok (.int .u8 (c.toNat:Int)) w:=by
   unfold loadVar
   rw [bk (er hT w)]
   simp [hc]
  simp [execOp,hv,Instr.loadAt,Instr.sureAddr,h1]
theorem KR {b k i:Nat} {l:List UInt8} (c:UInt8) (hn:P.cellsOf T=1) (hx:bp env x (aJ b k)) (hy:bp env y (ag .u8 (c.toNat:Int))) (hi:hs[i]?=some (gk b l)) (hj:k<l.length):
    gL P hs env ⟨none, .store T x y,ty,pos,after,gd⟩ (γ:=Unit) (fun _=>True) (fun _=>hs.set i (gk b (l.set k c))) (fun _=>af undef):=by
  intro cx a w S F aC hown oX Kp Q hk
  have hv:=hx S w a oX;simp only [af] at hv
  have hu:=hy S w a oX;simp only [af] at hu
  obtain ⟨F0,_,_,T',hb⟩:=hown.get hi
  have hsz:k<(nB l).toArray.size:=by simpa [nB] using hj
  have hr:(execOp a.eval ⟨none, .store T x y,ty,pos,after,gd⟩).run P w= .ok .skip (w.setCell ⟨b,k,none⟩ (a.eval y)):=by
    have hst:=m6 (v:=a.eval y) hn (by rw [hu];exact ⟨rfl,rfl⟩) hb hsz
    simp [execOp,hv,Instr.storeAt,Instr.sureAddr,hst]
  have hne:∀t,t≠b→(w.setCell ⟨b,k,none⟩ (a.eval y)).heap[t]?=w.heap[t]?:=fun t ht=>eN w _ _ t ht
  obtain ⟨F1,F2,f1,f2,f3,_,f4⟩:=hown.vv hi
  have hFb:F1 b:=f3.1
  have hag:∀t,S t→(w.setCell ⟨b,k,none⟩ (a.eval y)).heap[t]?=w.heap[t]?:=fun t ht=>hne t (fun e=>aC.di t ht (e▸(f1 b hFb).1))
  unfold Oper.wp
  rw [hr]
  refine hk () undef _ S F trivial (aC.write (f1 b hFb).1 rfl rfl rfl (by simp [World.setCell]) hne) (fun _ h=>h) hag ?_ rfl
  have :=f4 S F1 (w.setCell ⟨b,k,none⟩ (a.eval y)) (gk b (l.set k c)) (fun t ht=>(f1 t ht).2) (fun _ h=>h) (fun t ht=>hne t (fun e=>(f1 b hFb).2 (e▸ht))) hag
    ⟨hFb,T',by
      rw [hu]
      simp only [World.setCell,Array.getElem?_modify,hb,if_true,Option.map_some,Option.isSome_none,Bool.false_eq_true,if_false]
      congr 2
      apply Array.ext_getElem?
      intro t
      rw [Array.getElem?_setIfInBounds]
      simp only [List.getElem?_toArray,nZ,List.getElem?_set]
      by_cases e:k=t
      · subst e
        have Ys:k<(nB l).length:=by simpa using hsz
        simp [hj,Ys]
      · simp [e]⟩
  exact this.mono (fun t ht=>ht.elim (fun h=>(f1 t h).1) (f2 t)) (fun _ h=>h) (fun _ _=>rfl) (fun _ _=>rfl)
end
def RF (v:Nat) (i:Nat):UInt8:=UInt8.ofNat (v/2^(8*i)%256)
def DQ (v w:Nat):List UInt8:=(List.range w).map (RF v)
def BZ:List UInt8→Nat
 |[]=>0
 |c::l=>c.toNat+256*BZ l
theorem vG (v w:Nat):(DQ v w).length=w:=by simp [DQ]
theorem Ei:∀l:List UInt8,BZ l<2^(8*l.length)
 |[]=>by simp [BZ]
 |c::l=>by
  have h1:=Ei l
  have h2:=c.toNat_lt
  simp only [BZ,List.length_cons]
  have e:2^(8*(l.length+1))=256*2^(8*l.length):=by rw [Nat.mul_add,Nat.pow_add];omega
  rw [e];omega
theorem B1:∀(l:List UInt8) (c:UInt8),BZ (l++[c])=BZ l+c.toNat*2^(8*l.length)
 |[],c=>by simp [BZ]
 |d::l,c=>by
  have ih:=B1 l c
  simp only [List.cons_append,BZ,ih,List.length_cons]
  have e:2^(8*(l.length+1))=256*2^(8*l.length):=by rw [Nat.mul_add,Nat.pow_add];omega
  rw [e,Nat.mul_add,←Nat.mul_assoc,Nat.mul_comm 256 c.toNat,Nat.mul_assoc,Nat.add_assoc]
theorem Qi (l:List UInt8) (c:UInt8):(BZ l)|||(c.toNat*2^(8*l.length))=BZ (l++[c]):=by
 rw [B1,Nat.mul_comm c.toNat,Nat.or_comm,←Nat.two_pow_add_eq_or_of_lt (Ei l),Nat.add_comm]
end Go.Hl
end
section
namespace Go.Hl
abbrev bf (n:Int):VP:=ag .i64 n
structure yd where
 (ab db tm gm size:Nat)
structure eO where
 bytes:List UInt8
 height:Nat
 live:Nat
 taken:List (Int×Int)
def dS (X:yd) (a:eO):List HP:=
 [aF X.ab [iI X.db 0 X.size,ag .i64 (a.height:Int),ag .i64 (a.live:Int),af (.map (some X.tm)),af (.map (some X.gm))],
  gk X.db a.bytes,jb X.tm (Value.int .i64) bf a.taken,jb X.gm (Value.int .i64) (fun _:Unit=>nV) []]
structure eg (X:yd) (a:eO):Prop where
 len:a.bytes.length=X.size
 hi:a.height≤X.size
 most:X.size≤4194304
 live:a.live≤a.height
def vk:Nat→Nat→Nat→Nat
 |0,c,_=>c
 |k+1,c,n=>if c<n then vk k (c*2) n else c
def aR (n:Nat):Nat:=if 4194304<n then 0 else vk 19 16 n
theorem yZ:∀(k c n:Nat),vk k c n≤c*2^k
 |0,c,n=>by simp [vk]
 | k +1,c,n=>by
  unfold vk
  have:=yZ k (c*2) n
  have h2:0<2^k:=Nat.two_pow_pos k
  rw [Nat.pow_succ,Nat.mul_comm (2^k) 2,←Nat.mul_assoc]
  split
  · exact this
  · calc c≤c*2:=by omega
     _≤c*2*2^k:=Nat.le_mul_of_pos_right _ h2
theorem mN (n:Nat):aR n≤8388608:=by
 unfold aR
 split
 · omega
 · exact yZ 19 16 n
variable {k:Nat} {c:Nat}
theorem HU {n:Nat} (h:¬c<n):vk k c n=c:=by
 cases k with
 |zero=>rfl
 |succ k=>unfold vk;rw [if_neg h]
def n8 (size:Nat) (a:eO) (c:Nat):eO×Nat×Bool:=if size-a.height<c then (a,0,false) else ({a with height:=a.height+c},a.height,true)
variable {size:Nat} {a:eO}
theorem HV (h:¬(n8 size a c).2.2=true):n8 size a c=(a,0,false)∧size-a.height<c:=by
 unfold n8 at h ⊢
 by_cases hc:size-a.height<c
 · rw [if_pos hc];exact ⟨rfl,hc⟩
 · rw [if_neg hc] at h;exact absurd rfl h
theorem Ej (h:(n8 size a c).2.2=true):n8 size a c=({a with height:=a.height+c},a.height,true)∧¬size-a.height<c:=by
 unfold n8 at h ⊢
 by_cases hc:size-a.height<c
 · rw [if_pos hc] at h;cases h
 · rw [if_neg hc];exact ⟨rfl,hc⟩
def qV (size:Nat) (a:eO) (n:Nat):eO×Nat×Nat:=
 if 4194304<n then (a,0,1) else if size-a.height<aR n then (a,0,8)
 else ({bytes:=a.bytes.take a.height++List.replicate (aR n) 0++a.bytes.drop (a.height+aR n),height:=a.height+aR n,live:=a.live+aR n,taken:=fk a.taken (a.height:Int) (aR n:Int)},a.height,0)
def eO.get (a:eO) (at_ n:Nat):List UInt8:=(a.bytes.drop at_).take n
def eO.put (a:eO) (at_:Nat) (ys:List UInt8):eO:={a with bytes:=a.bytes.take at_++ys++a.bytes.drop (at_+ys.length)}
variable {r:List HP} {b:Nat}
theorem aB.cells {cs cs':List VP} (h:My cs cs'):aB (aF b cs::r) (aF b cs'::r):=fun F S w ⟨F1,F2,h1,h2,⟨f1,arr,T,hh,hn,hc⟩,h4⟩=>
 ⟨F1,F2,h1,h2,⟨f1,arr,T,hh,by rw [hn,h.len],fun j q' hj=>let ⟨q,k1,k2⟩:=h.get j q' hj;let ⟨u,hu,hq⟩:=hc j q k1;⟨u,hu,k2 _ _ _ hq⟩⟩,h4⟩
variable {l:List UInt8} {l':List UInt8}
theorem aB.Yt (h:l=l'):aB (gk b l::r) (gk b l'::r):=h▸aB.refl _
theorem lZ:aa (af (.bool false)) (ak False):=fun S w v h=>⟨false,h,by simp⟩
def BP:Bool→Prop
 |true=>True
 |false=>False
theorem pO (b:Bool):BP b↔b=true:=by cases b<;>simp [BP]
structure kE where
 size:Nat
 cap:Int
 wF:Int
 ops:Int
 fail:Int
 failed:Bool
 m:List (Int×List UInt8)
def jd (sb mb:Nat) (s:kE):HP:=aF sb [ag .i64 (s.size:Int),ag .i64 s.cap,ag .i64 s.wF,af (.map (some mb)),ag .i64 s.ops,ag .i64 s.fail,ak (BP s.failed)]
abbrev zW:=List (Int×Nat×List UInt8)
def gq (mb size:Nat) (E:zW):HP:=jb mb (Value.int .i64) (fun b=>iI b 0 size) (E.map fun e=>(e.1,e.2.1))
def cS (sb:Nat) (s:kE):HP:=Su fun x:Nat×zW=>jI (kq (x.2.map (fun e=>(e.1,e.2.2))=s.m)::jd sb x.1 s::gq x.1 s.size x.2::x.2.map fun e=>gk e.2.1 e.2.2)
structure oZ (s:kE):Prop where
 size:s.size≤1024
 cap:s.cap≤4096
 len:∀e∈s.m,e.2.length=s.size
 keys:∀e∈s.m,0≤e.1∧e.1<4096
 many:(s.m.length:Int)≤s.cap
 nodup:(s.m.map (·.1)).Nodup
def rC (s:kE):kE×Bool:=
 let k:=IntKind.i64.wrap (s.ops+1)
 if 0≤s.fail∧s.fail≤IntKind.i64.wrap (k-1) then ({s with ops:=k,failed:=true},false) else ({s with ops:=k},true)
def ei (s:kE) (id:Int) (right:Prop) [Decidable right]:kE×Nat:=
 match an s.m id with
 |none=>(s,2)
 |some _=>if ¬right then (s,1) else match rC s with|(s',true)=>(s',0)|(s',false)=>(s',9)
def eZ (E:zW):List HP:=E.map fun e=>gk e.2.1 e.2.2
theorem jT {κ α β:Type} [DecidableEq κ] (f:α→β) (a:κ):∀E:List (κ×α),an (E.map fun e=>(e.1,f e.2)) a=(an E a).map f
 |[]=>rfl
 |e::E=>by
  have ih:=jT f a E
  unfold an at ih ⊢
  rw [List.map_cons]
  by_cases h:e.1=a
  · rw [List.find?_cons_of_pos (by simpa using h),List.find?_cons_of_pos (by simpa using h)];rfl
  · rw [List.find?_cons_of_neg (by simpa using h),List.find?_cons_of_neg (by simpa using h)];exact ih
def fA {α:Type}:List (Int×α)→Int→α→List (Int×α)
 |[],_,_=>[]
 |e::E,id,l=>if e.1=id then (e.1,l)::E else e::fA E id l
variable {α:Type}
def gX (m:List (Int×α)) (id:Int):List (Int×α):=m.eraseP fun e=>decide (e.1=id)
theorem sJ {α β:Type} (f:α→β) (id:Int) (l:α):∀E:List (Int×α),(fA E id l).map (fun e=>(e.1,f e.2))=fA (E.map fun e=>(e.1,f e.2)) id (f l)
 |[]=>rfl
 |e::E=>by
  unfold fA
  rw [List.map_cons]
  by_cases h:e.1=id
  · simp [h,fA]
  · simp [h,fA,sJ f id l E]
theorem tU {α:Type} (id:Int) (l:α):∀E:List (Int×α),an E id=some l→fA E id l=E
 |[],h=>rfl
 |e::E,h=>by
  unfold an at h
  unfold fA
  by_cases he:e.1=id
  · rw [List.find?_cons_of_pos (by simpa using he)] at h
    simp at h;rw [if_pos he,←h]
  · rw [List.find?_cons_of_neg (by simpa using he)] at h
    rw [if_neg he,tU id l E h]
theorem wG (id:Int):∀{E:zW} {b:Nat} {l:List UInt8},an E id=some (b,l)→(eZ E).Perm (gk b l::eZ (gX E id))
 |[],b,l,h=>by cases h
 |e::E,b,l,h=>by
  unfold an at h
  by_cases he:e.1=id
  · rw [List.find?_cons_of_pos (by simpa using he)] at h
    simp at h
    unfold gX eZ
    rw [List.eraseP_cons_of_pos (by simpa using he),List.map_cons,h]
  · rw [List.find?_cons_of_neg (by simpa using he)] at h
    have ih:=wG id (E:=E) (b:=b) (l:=l) h
    unfold gX eZ at ih ⊢
    rw [List.eraseP_cons_of_neg (by simpa using he),List.map_cons,List.map_cons]
    exact (ih.cons _).trans (List.Perm.swap _ _ _)
theorem B2 (id:Int):∀{E:zW} {b:Nat} {l:List UInt8} (l':List UInt8),an E id=some (b,l)→(gk b l'::eZ (gX E id)).Perm (eZ (fA E id (b,l')))
 |[],b,l,l',h=>by cases h
 |e::E,b,l,l',h=>by
  unfold an at h
  by_cases he:e.1=id
  · rw [List.find?_cons_of_pos (by simpa using he)] at h
    simp at h
    unfold gX eZ fA
    rw [List.eraseP_cons_of_pos (by simpa using he),if_pos he,List.map_cons]
  · rw [List.find?_cons_of_neg (by simpa using he)] at h
    have ih:=B2 id (E:=E) (b:=b) (l:=l) l' h
    unfold eZ gX at ih ⊢
    unfold fA
    rw [List.eraseP_cons_of_neg (by simpa using he),if_neg he,List.map_cons,List.map_cons]
    exact (List.Perm.swap _ _ _).trans (ih.cons _)
theorem B3 (id:Int) (D:List (Int×α)):jc D id=gX D id:=by
 unfold jc gX
 induction D with
 |nil=>rfl
 |cons e D ih=>
  rw [List.map_cons,List.findIdx?_cons]
  by_cases he:e.1=id
  · rw [if_pos (by simpa using he),List.eraseP_cons_of_pos (by simpa using he)];rfl
  · rw [if_neg (by simpa using he),List.eraseP_cons_of_neg (by simpa using he),←ih]
    cases h:(D.map (·.1)).findIdx? (fun k=>decide (k=id))<;>simp
theorem zX {α β:Type} (f:α→β) (id:Int):∀E:List (Int×α),(gX E id).map (fun e=>(e.1,f e.2))=gX (E.map fun e=>(e.1,f e.2)) id
 |[]=>rfl
 |e::E=>by
  unfold gX
  rw [List.map_cons]
  by_cases h:e.1=id
  · rw [List.eraseP_cons_of_pos (by simpa using h),List.eraseP_cons_of_pos (by simpa using h)]
  · rw [List.eraseP_cons_of_neg (by simpa using h),List.eraseP_cons_of_neg (by simpa using h),List.map_cons]
    have:=zX f id E;unfold gX at this;rw [this]
theorem l5 {κ:Type} [DecidableEq κ] {D:List (κ×α)} {id:κ} (v:α) (h:an D id=none):fk D id v=D++[(id,v)]:=by
 unfold fk
 have hf:=nA id D
 cases hi:(D.map (·.1)).findIdx? (fun k=>decide (k=id)) with
 |none=>rfl
 |some i=>rw [hi] at hf;obtain ⟨u,_,hu⟩:=hf;rw [h] at hu;cases hu
def mO (E:zW):List (Int×List UInt8):=E.map fun e=>(e.1,e.2.2)
variable {s:kE} {E:zW} {sb:Nat} {mb:Nat} {sz:Nat}
theorem eo (hE:mO E=s.m) (hz:sz=s.size):aB (jd sb mb s::gq mb sz E::jI (eZ E)::r) (cS sb s::r):=by
 subst hz
 refine aB.trans ?_ (aB.ex (f:=fun x:Nat×zW=>jI (kq (x.2.map (fun e=>(e.1,e.2.2))=s.m)::jd sb x.1 s::gq x.1 s.size x.2::x.2.map fun e=>gk e.2.1 e.2.2)) (mb,E))
 refine aB.trans (aB.cons _ (aB.cons _ aB.unpack)) ?_
 refine aB.trans (aB.pure (p:=mO E=s.m) hE) ?_
 exact aB.pack (l:=kq (mO E=s.m)::jd sb mb s::gq mb s.size E::eZ E)
theorem aM.B4 {P:Program} {Q:Exit→Act→World→Prop} {c:Ctx} {x:Code} {env:Env} (k:∀mb E,mO E=s.m→aM P Q c x (jd sb mb s::gq mb s.size E::jI (eZ E)::r) env):aM P Q c x (cS sb s::r) env:=
 aM.opens fun ⟨mb,E⟩=>aM.own aB.unpack (aM.kq fun h=>aM.own (aB.cons _ (aB.cons _ (aB.pack (l:=eZ E)))) (k mb E h))
variable {id:Int}
theorem aM.Ek {P:Program} {Q:Exit→Act→World→Prop} {c:Ctx} {x:Code} {env:Env} {a b0:HP} (h:an E id=some (b,l)) (k:aM P Q c x (a::b0::gk b l::jI (eZ (gX E id))::r) env):aM P Q c x (a::b0::jI (eZ E)::r) env:=by
 refine aM.own (aB.trans (aB.cons a (aB.cons b0 (aB.trans aB.unpack (aB.perm ((wG id h).append_right r))))) ?_) k
 refine aB.cons a (aB.cons b0 (aB.cons _ ?_))
 exact aB.pack
theorem SK {a b0:HP} (l':List UInt8) (h:an E id=some (b,l)):aB (a::b0::gk b l'::jI (eZ (gX E id))::r) (a::b0::jI (eZ (fA E id (b,l')))::r):=by
 refine aB.trans (aB.cons a (aB.cons b0 (aB.cons _ aB.unpack))) ?_
 refine aB.trans (aB.perm (List.Perm.cons a (List.Perm.cons b0 ?_))) (aB.cons a (aB.cons b0 aB.pack))
 exact (B2 id l' h).append_right r
theorem El (h:an E id=some (b,l)):gq mb size (fA E id (b,l'))=gq mb size E:=by
 unfold gq
 congr 1
 have h1:=sJ (fun x:Nat×List UInt8=>x.1) id (b,l') E
 rw [h1]
 exact tU id b _ (by rw [jT (fun x:Nat×List UInt8=>x.1),h];rfl)
theorem HW:mO (fA E id (b,l'))=fA (mO E) id l':=sJ (fun x:Nat×List UInt8=>x.2) id (b,l') E
theorem jU:an (mO E) id=(an E id).map (·.2):=jT (fun x:Nat×List UInt8=>x.2) id E
theorem nC:an (E.map fun e=>(e.1,e.2.1)) id=(an E id).map (·.1):=jT (fun x:Nat×List UInt8=>x.1) id E
theorem Em {α:Type} [BEq α] [LawfulBEq α]:∀{l m:List α},l.Nodup→(∀x∈l,x∈m)→l.length≤m.length
 |[],m,_,_=>by simp
 | a::l,m,hn,hs=>by
  rw [List.nodup_cons] at hn
  have h1:a∈m:=hs a (List.mem_cons_self ..)
  have:=Em (l:=l) (m:=m.erase a) hn.2 fun x hx=>by
   have hne:x≠a:=fun e=>hn.1 (e▸hx)
   exact (List.mem_erase_of_ne hne).2 (hs x (List.mem_cons_of_mem _ hx))
  rw [List.length_erase_of_mem h1] at this
  have h2:0<m.length:=List.length_pos_of_mem h1
  simp only [List.length_cons];omega
theorem sK {m0:List (Int×List UInt8)} (h:an E id=some (b,l)) (hE:mO E=m0) (hm:s.m=fA m0 id l') (hz:sz=s.size):
    aB (jd sb mb s::gq mb sz E::gk b l'::jI (eZ (gX E id))::r) (cS sb s::r):=by
  refine (SK l' h).trans ?_
  rw [←El (mb:=mb) (size:=sz) (l':=l') h]
  exact eo (by rw [HW,hE,hm]) hz
theorem zY {m0:List (Int×List UInt8)} (h:an E id=some (b,l)) (hE:mO E=m0) (hm:s.m=m0) (hz:sz=s.size):
    aB (jd sb mb s::gq mb sz E::gk b l::jI (eZ (gX E id))::r) (cS sb s::r):=
  sK h hE (by rw [hm,tU id l m0 (by rw [←hE,jU,h];rfl)]) hz
theorem zZ (h:an E (k:Int)=none) (hm:s.m=mO E++[((k:Int),l)]) (hz:sz=s.size):
    aB (gk b l::jd sb mb s::jb mb (Value.int .i64) (fun b=>iI b 0 sz) (fk (E.map fun e=>(e.1,e.2.1)) (k:Int) b)::jI (eZ E)::r) (cS sb s::r):=by
  have e:jb mb (Value.int .i64) (fun b=>iI b 0 sz) (fk (E.map fun e=>(e.1,e.2.1)) (k:Int) b)=gq mb sz (E++[((k:Int),b,l)]):=by
    unfold gq
    rw [l5 b (by rw [nC,h];rfl)];simp
  rw [e]
  have e2:eZ (E++[((k:Int),b,l)])=eZ E++[gk b l]:=by simp [eZ]
  have h0:aB (jd sb mb s::gq mb sz (E++[((k:Int),b,l)])::jI (eZ (E++[((k:Int),b,l)]))::r) (cS sb s::r):=eo (by rw [hm];simp [mO]) hz
  refine aB.trans ?_ h0
  refine aB.trans (aB.perm (List.perm_middle (l₁:=[jd sb mb s,gq mb sz (E++[((k:Int),b,l)]),jI (eZ E)]) (a:=gk b l) (l₂:=r)).symm) ?_
  refine aB.cons _ (aB.cons _ (aB.trans aB.unpack ?_))
  rw [e2]
  have h3:eZ E++gk b l::r=(eZ E++[gk b l])++r:=by simp
  show aB (eZ E++gk b l::r) _
  rw [h3]
  exact aB.pack
theorem KS (s:kE):(rC s).1.m=s.m∧(rC s).1.size=s.size∧(rC s).1.cap=s.cap∧(rC s).1.fail=s.fail∧(rC s).1.wF=s.wF:=by
 unfold rC;dsimp only;split<;>exact ⟨rfl,rfl,rfl,rfl,rfl⟩
theorem wH (s:kE) (id:Int) (r:Prop) [Decidable r]:(ei s id r).1.m=s.m∧(ei s id r).1.size=s.size:=by
 unfold ei
 split
 · exact ⟨rfl,rfl⟩
 · split
   · exact ⟨rfl,rfl⟩
   · have h:=KS s
     split<;>rename_i h2<;>rw [h2] at h<;>exact ⟨h.1,h.2.1⟩
theorem z1 {r:Prop} [Decidable r] (h:(ei s id r).2=0):r∧∃l,an s.m id=some l:=by
 unfold ei at h
 split at h
 · cases h
 · split at h
   · cases h
   · rename_i l hl hr
     exact ⟨Classical.not_not.1 hr,l,hl⟩
theorem dQ:aB r (jI []::r):=fun F S w x=>⟨fun _=>False,F,fun _ h=>h.elim,fun _ h=>h,trivial,x⟩
theorem y2 {κ:Type} [DecidableEq κ] {D:List (κ×α)} {a:κ} {v:α} (h:an D a=some v):∃e∈D,e.2=v:=by
 unfold an at h
 cases hf:D.find? fun p=>decide (p.1=a) with
 |none=>rw [hf] at h;cases h
 |some p=>rw [hf] at h;cases h;exact ⟨p,List.mem_of_find?_eq_some hf,rfl⟩
theorem HX {r:Prop} [Decidable r] (h:an s.m id=none):ei s id r=(s,2):=by unfold ei;rw [h]
theorem En {r:Prop} [Decidable r] (h:an s.m id≠none) (hr:¬r):ei s id r=(s,1):=by
 unfold ei
 split
 · rename_i h2;exact absurd h2 h
 · rw [if_pos hr]
theorem z3 {r:Prop} [Decidable r] (h:an s.m id≠none) (hr:r):((rC s).2=true→ei s id r=((rC s).1,0))∧(¬(rC s).2=true→ei s id r=((rC s).1,9)):=by
 unfold ei
 split
 · rename_i h2;exact absurd h2 h
 · rw [if_neg (fun hn=>hn hr)]
   cases ho:rC s with
   |mk s1 b=>cases b<;>simp
def y3 (s:kE) (id:Int):kE×List UInt8×Nat:=match ei s id True with
 |(s1,0)=>(s1,(an s.m id).getD [],0)
 |(s1,e)=>(s1,[],e)
def jz (s:kE) (id:Int) (ys:List UInt8):kE×Nat:=match ei s id (ys.length=s.size) with
 |(s1,0)=>({s1 with m:=fA s1.m id ys},0)
 |(s1,e)=>(s1,e)
def qW (s:kE) (id:Int):kE×Nat:=match ei s id True with
 |(s1,0)=>({s1 with m:=gX s1.m id},0)
 |(s1,e)=>(s1,e)
def wI (s:kE) (g:kE×Int×Nat):Prop:=
 ((rC s).2=false∧g=((rC s).1,0,9))∨((rC s).2=true∧(s.m.length:Int)=s.cap∧g=((rC s).1,0,8))∨
 ((rC s).2=true∧(s.m.length:Int)≠s.cap∧∃id:Nat,id≤s.m.length∧an s.m (id:Int)=none∧g=({(rC s).1 with m:=s.m++[((id:Int),List.replicate s.size 0)],wF:=max s.wF ((s.m.length:Int)+1)},(id:Int),0))
theorem HY (h:(ei s id True).2≠0):y3 s id=((ei s id True).1,[],(ei s id True).2):=by
 unfold y3
 split
 · rename_i h2;rw [h2] at h;exact absurd rfl h
 · rename_i h2;rw [h2]
theorem B5 (h:(ei s id True).2=0) (hl:an s.m id=some l):y3 s id=((ei s id True).1,l,0):=by
 cases hu:ei s id True with
 |mk s1 e=>rw [hu] at h;simp only at h;subst h;simp [y3,hu,hl]
theorem Eo {ys:List UInt8} (h:(ei s id (ys.length=s.size)).2≠0):jz s id ys=((ei s id (ys.length=s.size)).1,(ei s id (ys.length=s.size)).2):=by
 unfold jz
 split
 · rename_i h2;rw [h2] at h;exact absurd rfl h
 · rename_i h2;rw [h2]
theorem y4 {ys:List UInt8} (h:(ei s id (ys.length=s.size)).2=0):jz s id ys=({(ei s id (ys.length=s.size)).1 with m:=fA s.m id ys},0):=by
 have hm:=(wH s id (ys.length=s.size)).1
 cases hu:ei s id (ys.length=s.size) with
 |mk s1 e=>rw [hu] at h hm;simp only at h hm;subst h;simp [jz,hu,hm]
theorem HZ (h:(ei s id True).2≠0):qW s id=((ei s id True).1,(ei s id True).2):=by
 unfold qW
 split
 · rename_i h2;rw [h2] at h;exact absurd rfl h
 · rename_i h2;rw [h2]
theorem B6 (h:(ei s id True).2=0):qW s id=({(ei s id True).1 with m:=gX s.m id},0):=by
 have hm:=(wH s id True).1
 cases hu:ei s id True with
 |mk s1 e=>rw [hu] at h hm;simp only at h hm;subst h;simp [qW,hu,hm]
theorem z4 {x:HP} (hm:s.m=gX (mO E) id) (hz:sz=s.size):
    aB (jd sb mb s::jb mb (Value.int .i64) (fun b=>iI b 0 sz) (jc (E.map fun e=>(e.1,e.2.1)) id)::x::jI (eZ (gX E id))::r) (cS sb s::r):=by
  have e:jb mb (Value.int .i64) (fun b=>iI b 0 sz) (jc (E.map fun e=>(e.1,e.2.1)) id)=gq mb sz (gX E id):=by
    unfold gq
    rw [B3,zX (fun x:Nat×List UInt8=>x.1)]
  rw [e]
  refine aB.trans (aB.cons _ (aB.cons _ (aB.drop (aB.refl _)))) (eo ?_ hz)
  rw [hm]
  exact zX (fun x:Nat×List UInt8=>x.2) id E
theorem KT (s:kE):∃k f,(rC s).1={s with ops:=k,failed:=f}:=by
 unfold rC;dsimp only;split
 · exact ⟨_,_,rfl⟩
 · exact ⟨_,s.failed,rfl⟩
theorem H6 {m:List (Int×α)} (h:∀j:Nat,j<k→an m (j:Int)≠none):k≤m.length:=by
 have h1:((List.range k).map fun j:Nat=>(j:Int)).Nodup:=by
  have h2:=List.nodup_range (n:=k)
  unfold List.Nodup at h2 ⊢
  rw [List.pairwise_map]
  exact h2.imp fun hab e=>hab (by omega)
 have h3:=Em (m:=m.map (·.1)) h1 fun x hx=>by
  obtain ⟨j,hj,rfl⟩:=List.mem_map.1 hx
  have h4:=h j (List.mem_range.1 hj)
  unfold an at h4
  cases hf:m.find? fun p=>decide (p.1=(j:Int)) with
  |none=>rw [hf] at h4;exact absurd rfl h4
  |some p=>
   have h5:=List.find?_some hf
   exact List.mem_map.2 ⟨p,List.mem_of_find?_eq_some hf,by simpa using h5⟩
 simpa using h3
abbrev iV (n:Int):VP:=ag .i64 n
def SL (b:Bool):List VP:=[ak (b=true)]
instance:gN 1 SL:=⟨fun _=>rfl,fun x q h=>by simp only [SL,List.mem_cons,List.not_mem_nil,or_false] at h;subst h;infer_instance⟩
def iC:VP:=⟨fun _ _ _=>True,fun _ _ _=>trivial⟩
theorem aa.any {q:VP}:aa q iC:=fun _ _ _ _=>trivial
open Classical in
noncomputable def jk (p:Prop) (e:Int):Int:=if p then e else 0
theorem cu {p:Prop} {e:Int} (he:e≠0):jk p e=0↔¬p:=by unfold jk;split<;>simp_all
def fK (g:Nat→Int):Nat→Int
 |0=>0
 |n+1=>if fK g n≠0 then fK g n else g n
theorem kG {g:Nat→Int}:∀{n:Nat},fK g n=0↔∀i,i<n→g i=0
 |0=>by simp [fK]
 |n+1=>by
  simp only [fK]
  split
  · rename_i h
    constructor
    · intro h';exact absurd h' h
    · intro h';exact absurd (kG.2 fun i hi=>h' i (by omega)) h
  · rename_i h
    have h0:fK g n=0:=by simpa using h
    constructor
    · intro h' i hi
      by_cases e:i=n
      · subst e;exact h'
      · exact kG.1 h0 i (by omega)
    · intro h';exact h' n (by omega)
theorem H7 {g:Nat→Int} {n:Nat} (h0:fK g k=0) (hk:g k≠0) (hn:k<n):fK g n=g k:=by
 induction n with
 |zero=>omega
 |succ n ih=>
  by_cases e:k=n
  · subst e;simp [fK,h0]
  · have:=ih (by omega)
    simp [fK,this,hk]
def mP (xs:List α) (f:α→Int) (i:Nat):Int:=match xs[i]? with|some x=>f x|none=>0
theorem jA {xs:List α} {f:α→Int} {i:Nat} {x:α} (h:xs[i]?=some x):mP xs f i=f x:=by simp [mP,h]
theorem eu {xs:List α} {f:α→Int}:fK (mP xs f) xs.length=0↔∀x∈xs,f x=0:=by
 rw [kG]
 constructor
 · intro h x hx
   obtain ⟨i,hi⟩:=List.mem_iff_getElem?.1 hx
   have:=h i (List.getElem?_eq_some_iff.1 hi).1
   rwa [jA hi] at this
 · intro h i hi
   obtain ⟨x,hx⟩:=ai hi
   rw [jA hx];exact h x (List.mem_of_getElem? hx)
open Classical in
noncomputable def l6 {α:Type} (p:α→Prop):List α→Int
 |[]=> -1
 |x::l=>if p x then 0 else if l6 p l<0 then-1 else l6 p l+1
theorem GM {α:Type} (p:α→Prop):∀l:List α,-1≤l6 p l
 |[]=>by simp [l6]
 |x::l=>by unfold l6;have:=GM p l;split<;>(try split)<;>omega
theorem gY {α:Type} {p:α→Prop}:∀{l:List α},0≤l6 p l↔∃x∈l,p x
 |[]=>by simp [l6]
 | x ::l=>by
  unfold l6
  have ih:=gY (p:=p) (l:=l)
  split
  · rename_i h;simp [h]
  · rename_i h
    split
    · rename_i h2
      simp only [List.mem_cons,exists_eq_or_imp,h,false_or]
      rw [←ih];omega
    · rename_i h2
      simp only [List.mem_cons,exists_eq_or_imp,h,false_or]
      rw [←ih];omega
theorem lM {p:α→Prop} {l:List α} (h:∀x∈l,¬p x):l6 p l= -1:=by
 have h1:=GM p l
 have h2:¬0≤l6 p l:=fun h'=>by obtain ⟨x,hx,hp⟩:=gY.1 h';exact h x hx hp
 omega
theorem oa {α:Type} {p:α→Prop}:∀{l:List α} {k:Nat} {x:α},l[k]?=some x→p x→(∀j y,j<k→l[j]?=some y→¬p y)→l6 p l=k
 |[],_,_,h,_,_=>by simp at h
 |y::l,0,x,h,hp,_=>by simp at h;subst h;simp [l6,hp]
 |y::l,k+1,x,h,hp,hn=>by
  have h1:=oa (l:=l) (k:=k) (x:=x) (by simpa using h) hp (fun j z hj hz=>hn (j+1) z (by omega) (by simpa using hz))
  have h2:=hn 0 y (by omega) rfl
  unfold l6
  rw [if_neg h2,h1,if_neg (by omega)];omega
def cD (p:α→Prop) (l:List α) (k:Nat):Prop:=∀j y,j<k→l[j]?=some y→¬p y
theorem cD.zero (p:α→Prop) (l:List α):cD p l 0:=fun j y h=>by omega
theorem cD.succ {p:α→Prop} {l:List α} {x:α} (h:cD p l k) (hx:l[k]?=some x) (hp:¬p x):cD p l (k+1):=fun j y hj hy=>by
 by_cases e:j=k
 · subst e;rw [hx] at hy;cases hy;exact hp
 · exact h j y (by omega) hy
theorem cD.all {p:α→Prop} {l:List α} (h:cD p l k) (hk:l.length≤k):∀x∈l,¬p x:=fun x hx=>by
 obtain ⟨j,hj⟩:=List.mem_iff_getElem?.1 hx
 exact h j x (by have:=(List.getElem?_eq_some_iff.1 hj).1;omega) hj
theorem Nk {cs:List VP} {j:Nat} {q:VP} (h:cs[j]?=some q):aa (cg (cs.drop (j*1))) (cg [q]):=fun S w v ⟨b,off,hv,hb,hc⟩=>⟨b,off,hv,hb,fun t p ht=>by
 cases t with
 |zero=>simp at ht;subst ht;exact hc 0 q (by rw [Nat.mul_one,List.getElem?_drop];simpa using h)
 |succ t=>simp at ht⟩
structure Fr where
 at_:Nat
 k:cW
 used:Bool
 seen:Bool
 cY:Bool
def qX (f:Fr):List VP:=[bf (f.at_:Int),bf f.k.1,bf f.k.2,ak (BP f.used),ak (BP f.seen),ak (BP f.cY)]
instance:gN 6 qX:=⟨fun _=>rfl,fun x q h=>by simp only [qX,List.mem_cons,List.not_mem_nil,or_false] at h;rcases h with h|h|h|h|h|h<;>subst h<;>infer_instance⟩
structure od where
 (pb sb fb cap m1 m2 n lo hi:Nat)
 Y:yd
structure kR where
 l:List Fr
 hand:Nat
 qY:List (cW×Int)
 bm:List (cW×Int)
 fault:Nat
 closed:Bool
def gu (X:od) (p:kR):HP:=aF X.pb [aJ X.Y.ab 0,aJ X.sb 0,af (br (some (X.fb,X.cap)) X.n),bf (p.hand:Int),af (.map (some X.m1)),af (.map (some X.m2)),bf (p.fault:Int),ak (BP p.closed)]
def l7 (X:od) (p:kR):HP:=av (some (X.fb,X.cap)) 6 qX p.l
def Ep (X:od) (p:kR):HP:=jb X.m1 yS bf p.qY
def rD (X:od) (p:kR):HP:=jb X.m2 yS bf p.bm
def wJ (p:kR):Prop:=p.closed=true∨p.fault≠0
instance (p:kR):Decidable (wJ p):=inferInstanceAs (Decidable (_∨_))
def ej (l:List UInt8):Prop:=∀x∈l,x=0
def rE (p:kR) (size:Nat) (k:cW) (at_ n:Int):Nat:=if wJ p then 12 else if k.1<0∨k.2<0 then 1 else if at_<0∨n<0∨(size:Int)<at_∨(size:Int)-at_<n then 2 else 0
def oe (p:kR) (s:kE) (k:cW):kR×kE×Nat:=match an p.bm k with
 |none=>(p,s,0)
 |some id=>({p with bm:=jc p.bm k},(qW s id).1,(qW s id).2)
def Er (p:kR) (k:cW):Prop:=(an p.qY k).isSome=true∨(an p.bm k).isSome=true
structure KU (X:od) (p:kR) (a:eO) (s:kE):Prop where
 n:p.l.length=X.n
 pos:0<X.n
 most:X.n≤64
 hand:p.hand<X.n
 room:∀f∈p.l,(X.lo≤f.at_∧f.at_+s.size≤X.hi)∧f.at_+s.size≤X.Y.size
 ar:eg X.Y a
 st:oZ s
theorem aB.wK {a b:HP} (h:a=b):aB (a::r) (b::r):=h▸aB.refl _
variable {X:od} {p:kR}
theorem H8 {q:kR} (h:p.l=q.l):l7 X p=l7 X q:=by unfold l7;rw [h]
theorem KV (p:kR) (s:kE) (k:cW):(oe p s k).1.l=p.l:=by unfold oe;split<;>rfl
def kR.z5 (p:kR) (i:Nat) (f:Fr):kR:={p with l:=p.l.set i f}
inductive wL (p:kR) (a:eO) (s:kE) (i:Nat) (fr:Fr):kR×kE×Nat→Prop
 |clean (h:¬(fr.used=true∧fr.cY=true)):wL p a s i fr (p,s,0)
 |zero (h:fr.used=true∧fr.cY=true) (hz:ej (a.get fr.at_ s.size)):wL p a s i fr (oe (p.z5 i {fr with cY:=false}) s fr.k)
 |has (h:fr.used=true∧fr.cY=true) (hz:¬ej (a.get fr.at_ s.size)) (id:Int) (hid:an p.bm fr.k=some id):wL p a s i fr (p.z5 i {fr with cY:=false},(jz s id (a.get fr.at_ s.size)).1,(jz s id (a.get fr.at_ s.size)).2)
 |full (h:fr.used=true∧fr.cY=true) (hz:¬ej (a.get fr.at_ s.size)) (hid:an p.bm fr.k=none) (ga:kE×Int×Nat) (RG:wI s ga) (he:ga.2.2≠0):wL p a s i fr (p,ga.1,ga.2.2)
 |new (h:fr.used=true∧fr.cY=true) (hz:¬ej (a.get fr.at_ s.size)) (hid:an p.bm fr.k=none) (ga:kE×Int×Nat) (RG:wI s ga) (he:ga.2.2=0):wL p a s i fr ({p with l:=p.l.set i {fr with cY:=false},bm:=fk p.bm fr.k ga.2.1},(jz ga.1 ga.2.1 (a.get fr.at_ s.size)).1,(jz ga.1 ga.2.1 (a.get fr.at_ s.size)).2)
theorem yf {m:List (Int×α)} {k:Int} (h:an m k=none):k∉m.map (fun e=>e.1):=by
 intro hk
 obtain ⟨e,he,M4⟩:=List.mem_map.1 hk
 unfold an at h
 cases hf:m.find? fun p=>decide (p.1=k) with
 |none=>have:=List.find?_eq_none.1 hf e he;simp [M4] at this
 |some p=>rw [hf] at h;cases h
theorem oZ.op (h:oZ s) {s':kE} (hm:s'.m=s.m) (hz:s'.size=s.size) (hc:s'.cap=s.cap):oZ s':=
 ⟨hz▸h.size,hc▸h.cap,by rw [hm,hz];exact h.len,by rw [hm];exact h.keys,by rw [hm,hc];exact h.many,by rw [hm];exact h.nodup⟩
theorem oZ.alloc (h:oZ s) {g:kE×Int×Nat} (hg:wI s g):oZ g.1∧g.1.size=s.size:=by
 have ho:=KS s
 rcases hg with ⟨_,rfl⟩|⟨_,_,rfl⟩|⟨_,hne,id,hid,hno,rfl⟩
 · exact ⟨h.op ho.1 ho.2.1 ho.2.2.1,ho.2.1⟩
 · exact ⟨h.op ho.1 ho.2.1 ho.2.2.1,ho.2.1⟩
 · have h1:=h.many
   have h2:=h.cap
   refine ⟨⟨?_, ?_, ?_, ?_, ?_, ?_⟩,ho.2.1⟩
   · show (rC s).1.size≤1024;rw [ho.2.1];exact h.size
   · show (rC s).1.cap≤4096;rw [ho.2.2.1];exact h.cap
   · intro e he
     show e.2.length=(rC s).1.size
     rw [ho.2.1]
     rcases List.mem_append.1 he with h3|h3
     · exact h.len e h3
     · simp at h3;subst h3;simp
   · intro e he
     rcases List.mem_append.1 he with h3|h3
     · exact h.keys e h3
     · simp at h3;subst h3;exact ⟨by simp,by show (id:Int)<4096;omega⟩
   · show ((s.m++[((id:Int),List.replicate s.size 0)]).length:Int)≤(rC s).1.cap
     rw [ho.2.2.1];simp;omega
   · show (List.map (fun e:Int×List UInt8=>e.1) (s.m++[((id:Int),List.replicate s.size 0)])).Nodup
     rw [List.map_append,List.nodup_append]
     refine ⟨h.nodup,by simp,fun a ha b hb e=> ?_⟩
     simp at hb
     subst e;subst hb
     exact yf hno ha
def eE (l:List UInt8) (c:UInt8):Nat→List UInt8
 |0=>[]
 |k+1=>if l.getD k 0=c then eE l c k else l.take (k+1)
theorem wM {l:List UInt8} {c:UInt8}:∀{k:Nat},k≤l.length→(eE l c k=[]↔∀j,j<k→l.getD j 0=c)
 |0,_=>by simp [eE]
 |k+1,hk=>by
  unfold eE
  by_cases h:l.getD k 0=c
  · rw [if_pos h,wM (by omega)]
    constructor
    · intro h2 j hj
      rcases Nat.lt_or_ge j k with h3|h3
      · exact h2 j h3
      · rw [show j=k by omega];exact h
    · intro h2 j hj;exact h2 j (by omega)
  · rw [if_neg h]
    constructor
    · intro h2
      have h3:(l.take (k+1)).length=0:=by rw [h2];rfl
      rw [List.length_take] at h3
      omega
    · intro h2;exact absurd (h2 k (by omega)) h
def oQ (l:List UInt8) (c:UInt8):List UInt8:=l.dropWhile fun b=>decide (b=c)
theorem H9 {c:UInt8}:oQ l c=[]↔∀b∈l,b=c:=by
 unfold oQ
 induction l with
 |nil=>simp
 |cons x l ih=>
  rw [List.dropWhile_cons]
  by_cases h:x=c
  · rw [if_pos (by simpa using h),ih];simp [h]
  · rw [if_neg (by simpa using h)];simp [h]
theorem Ia {c:UInt8}:eE l c l.length=[]↔∀b∈l,b=c:=by
 rw [wM (Nat.le_refl _)]
 constructor
 · intro h b hb
   obtain ⟨j,hj,rfl⟩:=List.mem_iff_getElem.1 hb
   have:=h j hj
   simpa [List.getD_eq_getElem?_getD,hj] using this
 · intro h j hj
   have:=h (l[j]) (List.getElem_mem hj)
   simpa [List.getD_eq_getElem?_getD,hj] using this
theorem wN {l:List UInt8} {c:UInt8}:∀{k:Nat},∀b,b∈eE l c k→b∈l
 |0,b,h=>by simp [eE] at h
 |k+1,b,h=>by
  unfold eE at h
  split at h
  · exact wN b h
  · exact List.mem_of_mem_take h
theorem Ib:oQ (eE l 0 l.length) 0=[]↔ej l:=by
 rw [H9]
 constructor
 · intro h
   by_cases hn:eE l 0 l.length=[]
   · exact Ia.1 hn
   · exfalso
     have key:∀k,k≤l.length→eE l 0 k≠[]→∃b∈eE l 0 k,b≠0:=by
      intro k
      induction k with
      |zero=>intro _ h;exact absurd rfl h
      |succ k ih=>
       intro hk hne
       unfold eE at hne ⊢
       by_cases hc:l.getD k 0=0
       · rw [if_pos hc] at hne ⊢;exact ih (by omega) hne
       · rw [if_neg hc]
         refine ⟨l.getD k 0, ?_,hc⟩
         have DO:k<l.length:=by omega
         rw [List.mem_iff_getElem?]
         exact ⟨k,by rw [List.getElem?_take,if_pos (by omega)];simp [List.getD_eq_getElem?_getD,DO]⟩
     obtain ⟨b,hb,hb0⟩:=key _ (Nat.le_refl _) hn
     exact hb0 (h b hb)
 · intro h b hb
   exact h b (wN b hb)
theorem GN {α:Type} (p:α→Prop):∀l:List α,l6 p l<l.length
 |[]=>by simp [l6]
 |x::l=>by unfold l6;have:=GN p l;simp only [List.length_cons];split<;>(try split)<;>omega
def rF (f:Fr):Fr:={f with seen:=false}
structure tV (X:od) (p p1:kR):Prop where
 l:p1.l.map rF=p.l.map rF
 len:p1.l.length=X.n
 hand:p1.hand<X.n
 rest:p1={p with l:=p1.l,hand:=p1.hand}
theorem tV.refl (h:KU X p a s):tV X p p:=⟨rfl,h.n,h.hand,rfl⟩
theorem tV.next {p1:kR} (h:tV X p p1) (h0:0<X.n):tV X p {p1 with hand:=(p1.hand+1)%X.n}:=
 ⟨h.l,h.len,Nat.mod_lt _ h0,by have:=h.rest;rw [this]⟩
theorem tV.step {p1:kR} {x:Fr} (h:tV X p p1) (hx:p1.l[p1.hand]?=some x) (h0:0<X.n):tV X p {p1 with l:=p1.l.set p1.hand {x with seen:=false},hand:=(p1.hand+1)%X.n}:=
 ⟨by
  show (p1.l.set p1.hand {x with seen:=false}).map rF=p.l.map rF
  rw [←h.l,List.map_set]
  apply List.ext_getElem?
  intro j
  rw [List.getElem?_set]
  by_cases hj:p1.hand=j
  · subst hj
    have hl:=(List.getElem?_eq_some_iff.1 hx).1
    rw [if_pos rfl,if_pos (by simpa using hl),List.getElem?_map,hx];rfl
  · rw [if_neg hj],by simpa using h.len,Nat.mod_lt _ h0,by have:=h.rest;rw [this]⟩
theorem y5:∀{l:List Fr} {k:Nat} {x:Fr},l[k]?=some x→x.seen=true→((l.set k {x with seen:=false}).filter (·.seen)).length<(l.filter (·.seen)).length
 |[],_,_,h,_=>by simp at h
 |f::l,0,x,h,hs=>by
  simp at h;subst h
  simp [hs]
 |f::l,k+1,x,h,hs=>by
  have:=y5 (l:=l) (k:=k) (x:=x) (by simpa using h) hs
  rw [List.set_cons_succ]
  cases hf:f.seen<;>simp [hf]<;>omega
end Go.Hl
end
