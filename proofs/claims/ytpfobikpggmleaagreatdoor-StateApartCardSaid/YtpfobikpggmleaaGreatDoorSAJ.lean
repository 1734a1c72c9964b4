/-
  What the statement's proof leans on, several texts in one (packed by a program).
-/
import Derived.Test.YtpfobikpggmleaaGreatDoorSAI
import Derived.Test.YtpfobikpggmleaaGreatDoorChecked
set_option linter.all false
set_option maxRecDepth 1000000
set_option maxHeartbeats 4000000
section
namespace Go.Proofs
open Go.Hl
instance:FB Tryz.prog 7:={}
instance:FB Tryz.prog 8:={}
instance:FB Tryz.prog 9:={}
instance:FB Tryz.prog 10:={}
instance:FB Tryz.prog 11:={}
instance:FB Tryz.prog 12:={}
instance:FB Tryz.prog 13:={}
instance:FB Tryz.prog 14:={}
instance:FB Tryz.prog 15:={}
instance:FB Tryz.prog 16:={}
instance:FB Tryz.prog 18:={}
instance:FB Tryz.prog 21:={}
instance:FB Tryz.prog 22:={}
instance:FB Tryz.prog 23:={}
instance:FB Tryz.prog 24:={}
instance:FB Tryz.prog 25:={}
instance:FB Tryz.prog 26:={}
instance:FB Tryz.prog 27:={}
instance:FB Tryz.prog 30:={}
instance:FB Tryz.prog 31:={}
instance:FB Tryz.prog 32:={}
instance:FB Tryz.prog 33:={}
instance:FB Tryz.prog 34:={}
instance:FB Tryz.prog 35:={}
instance:FB Tryz.prog 36:={}
instance:FB Tryz.prog 37:={}
instance:FB Tryz.prog 38:={}
instance:FB Tryz.prog 39:={}
instance:FB Tryz.prog 40:={}
instance:FB Tryz.prog 41:={}
instance:FB Tryz.prog 42:={}
instance:FB Tryz.prog 44:={}
instance:FB Tryz.prog 45:={}
instance:FB Tryz.prog 46:={}
instance:FB Tryz.prog 47:={}
instance:FB Tryz.prog 48:={}
instance:FB Tryz.prog 49:={}
instance:FB Tryz.prog 50:={}
instance:FB Tryz.prog 51:={}
instance:FB Tryz.prog 52:={}
instance:FB Tryz.prog 53:={}
instance:FB Tryz.prog 54:={}
instance:FB Tryz.prog 55:={}
instance:FB Tryz.prog 56:={}
instance:FB Tryz.prog 57:={}
instance:FB Tryz.prog 58:={}
instance:FB Tryz.prog 74:={}
instance:FB Tryz.prog 75:={}
instance:FB Tryz.prog 76:={}
instance:FB Tryz.prog 77:={}
instance:FB Tryz.prog 78:={}
instance:FB Tryz.prog 79:={}
instance:FB Tryz.prog 80:={}
instance:FB Tryz.prog 81:={}
instance:FB Tryz.prog 82:={}
instance:FB Tryz.prog 83:={}
instance:FB Tryz.prog 84:={}
instance:FB Tryz.prog 85:={}
instance:FB Tryz.prog 86:={}
instance:FB Tryz.prog 87:={}
instance:FB Tryz.prog 88:={}
instance:FB Tryz.prog 89:={}
instance:FB Tryz.prog 91:={}
instance:FB Tryz.prog 92:={}
instance:FB Tryz.prog 93:={}
instance:FB Tryz.prog 94:={}
instance:FB Tryz.prog 95:={}
instance:FB Tryz.prog 96:={}
instance:FB Tryz.prog 97:={}
instance:FB Tryz.prog 98:={}
instance:FB Tryz.prog 99:={}
instance:FB Tryz.prog 100:={}
instance:FB Tryz.prog 101:={}
instance:FB Tryz.prog 102:={}
instance:FB Tryz.prog 103:={}
instance:FB Tryz.prog 105:={}
instance:FB Tryz.prog 108:={}
instance:FB Tryz.prog 109:={}
instance:FB Tryz.prog 110:={}
instance:FB Tryz.prog 111:={}
instance:FB Tryz.prog 112:={}
instance:FB Tryz.prog 113:={}
instance:FB Tryz.prog 114:={}
instance:FB Tryz.prog 116:={}
instance:FB Tryz.prog 117:={}
instance:FB Tryz.prog 118:={}
instance:FB Tryz.prog 119:={}
instance:FB Tryz.prog 120:={}
instance:FB Tryz.prog 121:={}
instance:FB Tryz.prog 122:={}
instance:FB Tryz.prog 123:={}
instance:FB Tryz.prog 124:={}
instance:FB Tryz.prog 125:={}
instance:FB Tryz.prog 127:={}
instance:FB Tryz.prog 129:={}
instance:FB Tryz.prog 130:={}
instance:FB Tryz.prog 131:={}
instance:FB Tryz.prog 132:={}
instance:FB Tryz.prog 133:={}
instance:FB Tryz.prog 134:={}
instance:FB Tryz.prog 135:={}
instance:FB Tryz.prog 136:={}
instance:FB Tryz.prog 137:={}
instance:FB Tryz.prog 138:={}
instance:FB Tryz.prog 139:={}
instance:FB Tryz.prog 140:={}
instance:FB Tryz.prog 141:={}
instance:FB Tryz.prog 142:={}
instance:FB Tryz.prog 143:={}
instance:FB Tryz.prog 144:={}
instance:FB Tryz.prog 145:={}
instance:FB Tryz.prog 146:={}
instance:FB Tryz.prog 147:={}
instance:FB Tryz.prog 148:={}
instance:FB Tryz.prog 149:={}
instance:FB Tryz.prog 150:={}
instance:FB Tryz.prog 151:={}
instance:FB Tryz.prog 152:={}
instance:FB Tryz.prog 153:={}
instance:FB Tryz.prog 154:={}
instance:FB Tryz.prog 155:={}
instance:FB Tryz.prog 156:={}
instance:FB Tryz.prog 157:={}
instance:FB Tryz.prog 158:={}
instance:FB Tryz.prog 159:={}
instance:FB Tryz.prog 160:={}
instance:FB Tryz.prog 161:={}
instance:FB Tryz.prog 162:={}
instance:FB Tryz.prog 163:={}
instance:FB Tryz.prog 169:={}
instance:FB Tryz.prog 170:={}
instance:FB Tryz.prog 171:={}
instance:FB Tryz.prog 172:={}
instance:FB Tryz.prog 173:={}
instance:FB Tryz.prog 174:={}
instance:FB Tryz.prog 175:={}
instance:FB Tryz.prog 176:={}
instance:FB Tryz.prog 185:={}
instance:FB Tryz.prog 186:={}
instance:FB Tryz.prog 187:={}
instance:FB Tryz.prog 188:={}
instance:FB Tryz.prog 189:={}
instance:FB Tryz.prog 190:={}
instance:FB Tryz.prog 191:={}
instance:FB Tryz.prog 192:={}
instance:FB Tryz.prog 193:={}
instance:FB Tryz.prog 194:={}
instance:FB Tryz.prog 195:={}
instance:FB Tryz.prog 196:={}
instance:FB Tryz.prog 197:={}
instance:FB Tryz.prog 198:={}
instance:FB Tryz.prog 199:={}
instance:FB Tryz.prog 200:={}
instance:FB Tryz.prog 201:={}
instance:FB Tryz.prog 202:={}
instance:FB Tryz.prog 203:={}
instance:FB Tryz.prog 204:={}
instance:FB Tryz.prog 205:={}
instance:FB Tryz.prog 206:={}
instance:FB Tryz.prog 207:={}
instance:FB Tryz.prog 208:={}
instance:FB Tryz.prog 209:={}
instance:FB Tryz.prog 210:={}
instance:FB Tryz.prog 211:={}
instance:FB Tryz.prog 221:={}
instance:FB Tryz.prog 222:={}
instance:FB Tryz.prog 223:={}
instance:FB Tryz.prog 224:={}
instance:FB Tryz.prog 225:={}
instance:FB Tryz.prog 226:={}
instance:FB Tryz.prog 227:={}
instance:FB Tryz.prog 228:={}
instance:FB Tryz.prog 229:={}
instance:FB Tryz.prog 230:={}
instance:FB Tryz.prog 231:={}
instance:FB Tryz.prog 232:={}
instance:FB Tryz.prog 233:={}
instance:FB Tryz.prog 238:={}
instance:FB Tryz.prog 239:={}
instance:FB Tryz.prog 240:={}
instance:FB Tryz.prog 241:={}
instance:FB Tryz.prog 242:={}
instance:FB Tryz.prog 243:={}
instance:FB Tryz.prog 244:={}
instance:FB Tryz.prog 245:={}
instance:FB Tryz.prog 246:={}
instance:FB Tryz.prog 247:={}
instance:FB Tryz.prog 248:={}
instance:FB Tryz.prog 249:={}
instance:FB Tryz.prog 250:={}
instance:FB Tryz.prog 251:={}
instance:FB Tryz.prog 252:={}
instance:FB Tryz.prog 253:={}
instance:FB Tryz.prog 254:={}
instance:FB Tryz.prog 255:={}
instance:FB Tryz.prog 256:={}
instance:FB Tryz.prog 257:={}
instance:FB Tryz.prog 258:={}
instance:FB Tryz.prog 259:={}
instance:FB Tryz.prog 260:={}
instance:FB Tryz.prog 261:={}
instance:FB Tryz.prog 262:={}
instance:FB Tryz.prog 263:={}
instance:FB Tryz.prog 264:={}
instance:FB Tryz.prog 265:={}
instance:FB Tryz.prog 266:={}
instance:FB Tryz.prog 267:={}
instance:FB Tryz.prog 268:={}
instance:FB Tryz.prog 269:={}
instance:FB Tryz.prog 270:={}
instance:FB Tryz.prog 271:={}
instance:FB Tryz.prog 272:={}
instance:FB Tryz.prog 273:={}
instance:FB Tryz.prog 274:={}
instance:FB Tryz.prog 275:={}
instance:FB Tryz.prog 276:={}
instance:FB Tryz.prog 277:={}
instance:FB Tryz.prog 278:={}
instance:FB Tryz.prog 279:={}
instance:FB Tryz.prog 280:={}
instance:FB Tryz.prog 281:={}
instance:FB Tryz.prog 282:={}
instance:FB Tryz.prog 283:={}
instance:FB Tryz.prog 284:={}
instance:FB Tryz.prog 285:={}
instance:FB Tryz.prog 286:={}
instance:FB Tryz.prog 287:={}
instance:FB Tryz.prog 288:={}
instance:FB Tryz.prog 289:={}
instance:FB Tryz.prog 290:={}
instance:FB Tryz.prog 291:={}
instance:FB Tryz.prog 292:={}
instance:FB Tryz.prog 293:={}
instance:FB Tryz.prog 294:={}
instance:FB Tryz.prog 295:={}
instance:FB Tryz.prog 296:={}
instance:FB Tryz.prog 297:={}
instance:FB Tryz.prog 298:={}
instance:FB Tryz.prog 299:={}
instance:FB Tryz.prog 300:={}
instance:FB Tryz.prog 301:={}
instance:FB Tryz.prog 302:={}
instance:FB Tryz.prog 303:={}
instance:FB Tryz.prog 304:={}
instance:FB Tryz.prog 305:={}
instance:FB Tryz.prog 306:={}
instance:FB Tryz.prog 307:={}
instance:FB Tryz.prog 308:={}
instance:FB Tryz.prog 309:={}
instance:FB Tryz.prog 310:={}
instance:FB Tryz.prog 311:={}
instance:FB Tryz.prog 312:={}
theorem Tryz.Wi:V8 Tryz.prog 316 Extern.BytealgIndexByte.indexByte:=fun args w=>Go.run_callFunc_extern Tryz.func316 (by kernel_rfl) (by kernel_rfl) (by kernel_rfl) (by kernel_rfl) args w
instance:FU Tryz.prog 2 (.int .i64):=⟨Tryz.underlying2⟩
instance Tryz.ag3:FA Tryz.prog 3 false:={}
instance Tryz.Nj:FC Tryz.prog 3 1:={}
instance:FU Tryz.prog 3 (.int .i64):=⟨Tryz.underlying3⟩
instance:FY Tryz.prog 3 8:={}
instance:FZ Tryz.prog 3 [.int .i64 0]:={}
instance:FA Tryz.prog 4 false:={}
instance Tryz.cz4:FC Tryz.prog 4 1:={}
instance:FU Tryz.prog 4 .bool:=⟨Tryz.underlying4⟩
instance:FY Tryz.prog 4 1:={}
instance:FZ Tryz.prog 4 [.bool false]:={}
instance:FA Tryz.prog 5 false:={}
instance Tryz.Wj:FC Tryz.prog 5 1:={}
instance:FU Tryz.prog 5 (.int .u8):=⟨Tryz.underlying5⟩
instance:FY Tryz.prog 5 1:={}
instance:FZ Tryz.prog 5 [.int .u8 0]:={}
instance:FA Tryz.prog 9 false:={}
instance Tryz.cz9:FC Tryz.prog 9 1:={}
instance:FU Tryz.prog 9 .string:=⟨Tryz.underlying9⟩
instance:FZ Tryz.prog 9 [.string ⟨#[]⟩]:={}
instance:FU Tryz.prog 21 (.int .i32):=⟨Tryz.underlying21⟩
instance:FA Tryz.prog 22 false:={}
instance Tryz.af4:FC Tryz.prog 22 1:={}
instance:FU Tryz.prog 22 (.slice 98):=⟨Tryz.underlying22⟩
instance:FA Tryz.prog 23 false:={}
instance Tryz.af5:FC Tryz.prog 23 1:={}
instance:FU Tryz.prog 23 (.slice 185):=⟨Tryz.underlying23⟩
instance:FA Tryz.prog 24 false:={}
instance Tryz.af6:FC Tryz.prog 24 1:={}
instance:FU Tryz.prog 24 (.slice 105):=⟨Tryz.underlying24⟩
instance:FA Tryz.prog 25 false:={}
instance Tryz.af7:FC Tryz.prog 25 1:={}
instance:FU Tryz.prog 25 (.slice 141):=⟨Tryz.underlying25⟩
instance:FA Tryz.prog 26 false:={}
instance Tryz.af8:FC Tryz.prog 26 1:={}
instance:FU Tryz.prog 26 (.slice 81):=⟨Tryz.underlying26⟩
instance:FA Tryz.prog 27 false:={}
instance Tryz.af9:FC Tryz.prog 27 1:={}
instance:FU Tryz.prog 27 (.slice 190):=⟨Tryz.underlying27⟩
instance:FA Tryz.prog 28 false:={}
instance Tryz.ag0:FC Tryz.prog 28 1:={}
instance:FU Tryz.prog 28 (.slice 147):=⟨Tryz.underlying28⟩
instance:FA Tryz.prog 29 false:={}
instance Tryz.ag1:FC Tryz.prog 29 1:={}
instance:FU Tryz.prog 29 (.slice 151):=⟨Tryz.underlying29⟩
instance:FA Tryz.prog 31 true:={}
instance Tryz.ag2:FC Tryz.prog 31 10:={}
instance:FF Tryz.prog 31 0 0:={}
instance:FF Tryz.prog 31 1 1:={}
instance:FF Tryz.prog 31 2 2:={}
instance:FF Tryz.prog 31 3 3:={}
instance:FF Tryz.prog 31 4 4:={}
instance:FF Tryz.prog 31 5 5:={}
instance:FF Tryz.prog 31 6 6:={}
instance:FF Tryz.prog 31 7 7:={}
instance:FF Tryz.prog 31 8 8:={}
instance:FF Tryz.prog 31 9 9:={}
instance:FA Tryz.prog 35 false:={}
instance:FU Tryz.prog 35 (.pointer 94):=⟨Tryz.underlying35⟩
instance:FA Tryz.prog 36 false:={}
instance:FC Tryz.prog 36 1:={}
instance:FZ Tryz.prog 36 [.int .i64 0]:={}
instance:FA Tryz.prog 39 false:={}
instance:FU Tryz.prog 39 (.pointer 88):=⟨Tryz.underlying39⟩
instance:FU Tryz.prog 41 (.pointer 115):=⟨Tryz.underlying41⟩
instance:FA Tryz.prog 45 false:={}
instance:FU Tryz.prog 45 (.pointer 133):=⟨Tryz.underlying45⟩
instance:FA Tryz.prog 50 false:={}
instance:FU Tryz.prog 50 (.pointer 129):=⟨Tryz.underlying50⟩
instance:FA Tryz.prog 56 false:={}
instance Tryz.ah7:FA Tryz.prog 58 false:={}
instance Tryz.Lb:FC Tryz.prog 58 1:={}
instance:FU Tryz.prog 58 (.int .u64):=⟨Tryz.underlying58⟩
instance:FY Tryz.prog 58 8:={}
instance:FZ Tryz.prog 58 [.int .u64 0]:={}
instance Tryz.ah8:FA Tryz.prog 59 false:={}
instance Tryz.QK:FC Tryz.prog 59 1:={}
instance:FU Tryz.prog 59 (.slice 5):=⟨Tryz.underlying59⟩
instance:FY Tryz.prog 59 24:={}
instance:FZ Tryz.prog 59 [.slice none 0 0]:={}
instance:FA Tryz.prog 60 false:={}
instance Tryz.ah9:FC Tryz.prog 60 1:={}
instance:FU Tryz.prog 60 (.slice 58):=⟨Tryz.underlying60⟩
instance:FA Tryz.prog 61 false:={}
instance Tryz.ai0:FC Tryz.prog 61 1:={}
instance:FU Tryz.prog 61 (.slice 3):=⟨Tryz.underlying61⟩
instance:FA Tryz.prog 62 false:={}
instance:FC Tryz.prog 62 1:={}
instance:FU Tryz.prog 62 (.slice 144):=⟨Tryz.underlying62⟩
instance:FA Tryz.prog 64 true:={}
instance:FC Tryz.prog 64 3:={}
instance:FZ Tryz.prog 64 [.slice none 0 0, .slice none 0 0, .slice none 0 0]:={}
instance:FF Tryz.prog 64 0 0:={}
instance:FF Tryz.prog 64 1 1:={}
instance:FF Tryz.prog 64 2 2:={}
instance:FA Tryz.prog 68 false:={}
instance:FC Tryz.prog 68 1:={}
instance:FU Tryz.prog 68 (.pointer 160):=⟨Tryz.underlying68⟩
instance:FY Tryz.prog 68 8:={}
instance:FZ Tryz.prog 68 [.pointer none]:={}
instance Tryz.ai4:FA Tryz.prog 79 false:={}
instance Tryz.ai5:FC Tryz.prog 79 1:={}
instance:FU Tryz.prog 79 (.int .u8):=⟨Tryz.underlying79⟩
instance:FY Tryz.prog 79 1:={}
instance:FZ Tryz.prog 79 [.int .u8 0]:={}
instance:FA Tryz.prog 81 true:={}
instance Tryz.Wk:FC Tryz.prog 81 3:={}
instance:FZ Tryz.prog 81 [.int .u8 0, .bool false, .int .u64 0]:={}
instance:FP Tryz.prog 81 [(0,1),(1,1),(2,1)]:={}
instance:FF Tryz.prog 81 0 0:={}
instance:FF Tryz.prog 81 1 1:={}
instance:FF Tryz.prog 81 2 2:={}
instance:FA Tryz.prog 85 false:={}
instance:FC Tryz.prog 85 1:={}
instance:FU Tryz.prog 85 (.slice 100):=⟨Tryz.underlying85⟩
instance:FA Tryz.prog 86 false:={}
instance:FC Tryz.prog 86 1:={}
instance:FU Tryz.prog 86 (.slice 111):=⟨Tryz.underlying86⟩
instance:FZ Tryz.prog 88 [.slice none 0 0, .slice none 0 0, .slice none 0 0, .int .i64 0, .slice none 0 0, .slice none 0 0, .slice none 0 0, .int .i64 0, .slice none 0 0, .slice none 0 0]:={}
instance:FP Tryz.prog 88 [(0,1),(1,1),(2,1),(3,1),(4,1),(5,1),(6,1),(7,1),(8,1),(9,1)]:={}
instance:FF Tryz.prog 88 0 0:={}
instance:FF Tryz.prog 88 1 1:={}
instance:FF Tryz.prog 88 2 2:={}
instance:FF Tryz.prog 88 3 3:={}
instance:FF Tryz.prog 88 4 4:={}
instance:FF Tryz.prog 88 5 5:={}
instance:FF Tryz.prog 88 6 6:={}
instance:FF Tryz.prog 88 7 7:={}
instance:FF Tryz.prog 88 8 8:={}
instance:FF Tryz.prog 88 9 9:={}
instance:FA Tryz.prog 91 false:={}
instance:FA Tryz.prog 92 false:={}
instance:FZ Tryz.prog 94 [.slice none 0 0, .int .i64 0, .int .i64 0, .map none, .map none]:={}
instance:FP Tryz.prog 94 [(0,1),(1,1),(2,1),(3,1),(4,1)]:={}
instance:FF Tryz.prog 94 0 0:={}
instance:FF Tryz.prog 94 1 1:={}
instance:FF Tryz.prog 94 2 2:={}
instance:FF Tryz.prog 94 3 3:={}
instance:FF Tryz.prog 94 4 4:={}
instance:FA Tryz.prog 95 false:={}
instance:FC Tryz.prog 95 1:={}
instance:FU Tryz.prog 95 (.slice 79):=⟨Tryz.underlying95⟩
instance:FZ Tryz.prog 95 [.slice none 0 0]:={}
instance:FA Tryz.prog 98 true:={}
instance Tryz.Wl:FC Tryz.prog 98 2:={}
instance:FZ Tryz.prog 98 [.slice none 0 0, .slice none 0 0]:={}
instance:FF Tryz.prog 98 0 0:={}
instance:FF Tryz.prog 98 1 1:={}
instance:FA Tryz.prog 100 true:={}
instance:FC Tryz.prog 100 2:={}
instance:FY Tryz.prog 100 48:={}
instance:FZ Tryz.prog 100 [.slice none 0 0, .slice none 0 0]:={}
instance:FP Tryz.prog 100 [(0,1),(1,1)]:={}
instance:FF Tryz.prog 100 0 0:={}
instance:FF Tryz.prog 100 1 1:={}
instance:FA Tryz.prog 101 false:={}
instance Tryz.Wm:FC Tryz.prog 101 1:={}
instance:FU Tryz.prog 101 (.slice 244):=⟨Tryz.underlying101⟩
instance:FA Tryz.prog 103 true:={}
instance Tryz.SJ:FC Tryz.prog 103 2:={}
instance:FF Tryz.prog 103 0 0:={}
instance:FF Tryz.prog 103 1 1:={}
instance Tryz.SK:FC Tryz.prog 105 3:={}
instance:FF Tryz.prog 105 0 0:={}
instance:FF Tryz.prog 105 1 1:={}
instance:FA Tryz.prog 106 false:={}
instance:FU Tryz.prog 106 (.slice 242):=⟨Tryz.underlying106⟩
instance:FA Tryz.prog 108 true:={}
instance:FC Tryz.prog 108 2:={}
instance:FZ Tryz.prog 108 [.slice none 0 0, .slice none 0 0]:={}
instance:FP Tryz.prog 108 [(0,1),(1,1)]:={}
instance:FF Tryz.prog 108 0 0:={}
instance:FF Tryz.prog 108 1 1:={}
instance:FC Tryz.prog 111 3:={}
instance:FY Tryz.prog 111 56:={}
instance:FZ Tryz.prog 111 [.int .i64 0, .slice none 0 0, .slice none 0 0]:={}
instance:FP Tryz.prog 111 [(0,1),(1,2)]:={}
instance:FF Tryz.prog 111 0 0:={}
instance:FF Tryz.prog 111 1 1:={}
instance:FA Tryz.prog 113 false:={}
instance:FC Tryz.prog 113 1:={}
instance:FU Tryz.prog 113 (.slice 68):=⟨Tryz.underlying113⟩
instance:FZ Tryz.prog 115 [.pointer none, .pointer none, .pointer none, .int .i64 0, .int .i64 0, .int .i64 0, .slice none 0 0, .bool false]:={}
instance:FP Tryz.prog 115 [(0,1),(1,1),(2,1),(3,1),(4,1),(5,1),(6,1),(7,1)]:={}
instance:FF Tryz.prog 115 0 0:={}
instance:FF Tryz.prog 115 1 1:={}
instance:FF Tryz.prog 115 2 2:={}
instance:FF Tryz.prog 115 3 3:={}
instance:FF Tryz.prog 115 4 4:={}
instance:FF Tryz.prog 115 5 5:={}
instance:FF Tryz.prog 115 6 6:={}
instance:FF Tryz.prog 115 7 7:={}
instance:FA Tryz.prog 120 true:={}
instance:FC Tryz.prog 120 3:={}
instance:FZ Tryz.prog 120 [.int .i64 0, .int .i64 0, .slice none 0 0]:={}
instance:FP Tryz.prog 120 [(0,1),(1,1),(2,1)]:={}
instance:FF Tryz.prog 120 0 0:={}
instance:FF Tryz.prog 120 1 1:={}
instance:FF Tryz.prog 120 2 2:={}
instance:FA Tryz.prog 122 false:={}
instance:FF Tryz.prog 127 2 0:={}
instance:FZ Tryz.prog 129 [.int .i64 0, .int .i64 0, .int .i64 0, .map none, .int .i64 0, .int .i64 0, .bool false]:={}
instance:FP Tryz.prog 129 [(0,1),(1,1),(2,1),(3,1),(4,1),(5,1),(6,1)]:={}
instance:FF Tryz.prog 129 0 0:={}
instance:FF Tryz.prog 129 1 1:={}
instance:FF Tryz.prog 129 2 2:={}
instance:FF Tryz.prog 129 3 3:={}
instance:FF Tryz.prog 129 4 4:={}
instance:FF Tryz.prog 129 5 5:={}
instance:FF Tryz.prog 129 6 6:={}
instance:FA Tryz.prog 130 false:={}
instance:FA Tryz.prog 131 false:={}
instance:FC Tryz.prog 131 1:={}
instance:FU Tryz.prog 131 (.slice 139):=⟨Tryz.underlying131⟩
instance:FZ Tryz.prog 133 [.pointer none, .pointer none, .slice none 0 0, .int .i64 0, .map none, .map none, .int .i64 0, .bool false]:={}
instance:FP Tryz.prog 133 [(0,1),(1,1),(2,1),(3,1),(4,1),(5,1),(6,1),(7,1)]:={}
instance:FF Tryz.prog 133 0 0:={}
instance:FF Tryz.prog 133 1 1:={}
instance:FF Tryz.prog 133 2 2:={}
instance:FF Tryz.prog 133 3 3:={}
instance:FF Tryz.prog 133 4 4:={}
instance:FF Tryz.prog 133 5 5:={}
instance:FF Tryz.prog 133 6 6:={}
instance:FF Tryz.prog 133 7 7:={}
instance:FA Tryz.prog 137 true:={}
instance:FC Tryz.prog 137 2:={}
instance:FY Tryz.prog 137 16:={}
instance:FZ Tryz.prog 137 [.int .i64 0, .int .i64 0]:={}
instance:FP Tryz.prog 137 [(0,1),(1,1)]:={}
theorem Tryz.Wn:Tryz.prog.stoodInHeld 137=false:=by kernel_rfl
instance:FF Tryz.prog 137 0 0:={}
instance:FF Tryz.prog 137 1 1:={}
instance:FA Tryz.prog 139 true:={}
instance:FC Tryz.prog 139 6:={}
instance:FY Tryz.prog 139 32:={}
instance:FZ Tryz.prog 139 [.int .i64 0, .int .i64 0, .int .i64 0, .bool false, .bool false, .bool false]:={}
instance:FP Tryz.prog 139 [(0,1),(1,2),(3,1),(4,1),(5,1)]:={}
instance:FF Tryz.prog 139 0 0:={}
instance:FF Tryz.prog 139 1 1:={}
instance:FF Tryz.prog 139 2 3:={}
instance:FF Tryz.prog 139 3 4:={}
instance:FF Tryz.prog 139 4 5:={}
instance:FA Tryz.prog 141 true:={}
instance Tryz.SL:FC Tryz.prog 141 3:={}
instance:FZ Tryz.prog 141 [.int .i64 0, .int .i64 0, .bool false]:={}
instance:FF Tryz.prog 141 0 0:={}
instance:FF Tryz.prog 141 1 1:={}
instance:FF Tryz.prog 141 2 2:={}
instance:FA Tryz.prog 142 false:={}
instance:FC Tryz.prog 142 1:={}
instance:FU Tryz.prog 142 (.slice 167):=⟨Tryz.underlying142⟩
instance:FA Tryz.prog 144 true:={}
instance:FC Tryz.prog 144 3:={}
instance:FY Tryz.prog 144 40:={}
instance:FZ Tryz.prog 144 [.int .i64 0, .int .i64 0, .slice none 0 0]:={}
instance:FP Tryz.prog 144 [(0,1),(1,1),(2,1)]:={}
instance:FF Tryz.prog 144 0 0:={}
instance:FF Tryz.prog 144 2 2:={}
instance:FU Tryz.prog 145 (.slice 148):=⟨Tryz.underlying145⟩
instance:FA Tryz.prog 147 true:={}
instance Tryz.SM:FC Tryz.prog 147 2:={}
instance:FZ Tryz.prog 147 [.int .u64 0, .slice none 0 0]:={}
instance:FF Tryz.prog 147 0 0:={}
instance:FF Tryz.prog 147 1 1:={}
instance:FA Tryz.prog 148 true:={}
instance:FC Tryz.prog 148 2:={}
instance:FY Tryz.prog 148 32:={}
instance:FZ Tryz.prog 148 [.int .u64 0, .slice none 0 0]:={}
instance:FP Tryz.prog 148 [(0,1),(1,1)]:={}
instance:FF Tryz.prog 148 0 0:={}
instance:FF Tryz.prog 148 1 1:={}
instance:FU Tryz.prog 149 (.slice 153):=⟨Tryz.underlying149⟩
instance:FA Tryz.prog 151 true:={}
instance Tryz.SN:FC Tryz.prog 151 3:={}
instance:FZ Tryz.prog 151 [.int .i64 0, .int .u64 0, .slice none 0 0]:={}
instance:FF Tryz.prog 151 0 0:={}
instance:FF Tryz.prog 151 1 1:={}
instance:FF Tryz.prog 151 2 2:={}
instance:FA Tryz.prog 153 true:={}
instance:FC Tryz.prog 153 3:={}
instance:FY Tryz.prog 153 40:={}
instance:FZ Tryz.prog 153 [.int .i64 0, .int .u64 0, .slice none 0 0]:={}
instance:FP Tryz.prog 153 [(0,1),(1,1),(2,1)]:={}
instance:FF Tryz.prog 153 0 0:={}
instance:FF Tryz.prog 153 1 1:={}
instance:FF Tryz.prog 153 2 2:={}
instance:FZ Tryz.prog 160 [.pointer none, .int .i64 0, .int .i64 0, .int .i64 0, .int .i64 0, .bool false]:={}
instance:FP Tryz.prog 160 [(0,1),(1,1),(2,1),(3,1),(4,1),(5,1)]:={}
instance:FF Tryz.prog 160 0 0:={}
instance:FF Tryz.prog 160 1 1:={}
instance:FF Tryz.prog 160 2 2:={}
instance:FF Tryz.prog 160 4 4:={}
instance:FA Tryz.prog 167 true:={}
instance:FC Tryz.prog 167 2:={}
instance:FY Tryz.prog 167 32:={}
instance:FZ Tryz.prog 167 [.int .u64 0, .slice none 0 0]:={}
instance:FP Tryz.prog 167 [(0,1),(1,1)]:={}
instance:FF Tryz.prog 167 0 0:={}
instance:FF Tryz.prog 167 1 1:={}
instance:FA Tryz.prog 185 true:={}
instance Tryz.SO:FC Tryz.prog 185 3:={}
instance:FZ Tryz.prog 185 [.string ⟨#[]⟩, .string ⟨#[]⟩, .int .i64 0]:={}
instance:FF Tryz.prog 185 0 0:={}
instance:FF Tryz.prog 185 1 1:={}
instance:FF Tryz.prog 185 2 2:={}
instance:FA Tryz.prog 190 true:={}
instance Tryz.SP:FC Tryz.prog 190 3:={}
instance:FZ Tryz.prog 190 [.string ⟨#[]⟩, .int .i64 0, .int .i64 0]:={}
instance:FF Tryz.prog 190 0 0:={}
instance:FF Tryz.prog 190 1 1:={}
instance:FF Tryz.prog 190 2 2:={}
instance:FA Tryz.prog 195 true:={}
instance:FC Tryz.prog 195 4:={}
instance:FY Tryz.prog 195 40:={}
instance:FZ Tryz.prog 195 [.string ⟨#[]⟩, .int .i64 0, .int .i64 0, .int .i64 0]:={}
instance:FP Tryz.prog 195 [(0,1),(1,1),(2,1),(3,1)]:={}
instance:FA Tryz.prog 208 false:={}
instance:FC Tryz.prog 208 1:={}
instance:FU Tryz.prog 208 (.slice 210):=⟨Tryz.underlying208⟩
instance:FA Tryz.prog 209 false:={}
instance:FC Tryz.prog 209 1:={}
instance:FU Tryz.prog 209 (.slice 4):=⟨Tryz.underlying209⟩
instance:FA Tryz.prog 210 true:={}
instance:FC Tryz.prog 210 2:={}
instance:FY Tryz.prog 210 48:={}
instance:FZ Tryz.prog 210 [.slice none 0 0, .slice none 0 0]:={}
instance:FP Tryz.prog 210 [(0,1),(1,1)]:={}
instance:FF Tryz.prog 210 0 0:={}
instance:FF Tryz.prog 210 1 1:={}
instance:FA Tryz.prog 212 true:={}
instance:FC Tryz.prog 212 9:={}
instance:FZ Tryz.prog 212 [.slice none 0 0, .slice none 0 0, .slice none 0 0, .slice none 0 0, .slice none 0 0, .bool false, .slice none 0 0, .slice none 0 0, .slice none 0 0]:={}
instance:FP Tryz.prog 212 [(0,1),(1,1),(2,1),(3,1),(4,1),(5,1),(6,2),(8,1)]:={}
instance:FF Tryz.prog 212 0 0:={}
instance:FF Tryz.prog 212 1 1:={}
instance:FF Tryz.prog 212 2 2:={}
instance:FF Tryz.prog 212 3 3:={}
instance:FF Tryz.prog 212 4 4:={}
instance:FF Tryz.prog 212 5 5:={}
instance:FF Tryz.prog 212 6 6:={}
instance:FF Tryz.prog 212 7 8:={}
instance:FU Tryz.prog 222 (.int .u32):=⟨Tryz.underlying222⟩
instance:FC Tryz.prog 230 4:={}
instance:FZ Tryz.prog 230 [.int .i64 0, .int .i64 0, .int .i64 0, .int .i64 0]:={}
instance:FP Tryz.prog 230 [(0,1),(1,1),(2,1),(3,1)]:={}
instance:FF Tryz.prog 230 0 0:={}
instance:FF Tryz.prog 230 1 1:={}
instance:FF Tryz.prog 230 2 2:={}
instance:FF Tryz.prog 230 3 3:={}
instance:FU Tryz.prog 235 (.slice 137):=⟨Tryz.underlying235⟩
instance:FA Tryz.prog 242 true:={}
instance:FC Tryz.prog 242 5:={}
instance:FY Tryz.prog 242 56:={}
instance:FZ Tryz.prog 242 [.int .i64 0, .int .u64 0, .int .u64 0, .int .i64 0, .slice none 0 0]:={}
instance:FP Tryz.prog 242 [(0,1),(1,1),(2,1),(3,1),(4,1)]:={}
instance:FF Tryz.prog 242 0 0:={}
instance:FF Tryz.prog 242 1 1:={}
instance:FF Tryz.prog 242 2 2:={}
instance:FF Tryz.prog 242 3 3:={}
instance:FF Tryz.prog 242 4 4:={}
instance:FA Tryz.prog 244 true:={}
instance Tryz.SQ:FC Tryz.prog 244 5:={}
instance:FZ Tryz.prog 244 [.int .i64 0, .int .u64 0, .int .u64 0, .int .i64 0, .slice none 0 0]:={}
instance:FF Tryz.prog 244 0 0:={}
instance:FF Tryz.prog 244 1 1:={}
instance:FF Tryz.prog 244 2 2:={}
instance:FF Tryz.prog 244 3 3:={}
instance:FF Tryz.prog 244 4 4:={}
instance:FU Tryz.prog 246 (.slice 195):=⟨Tryz.underlying246⟩
instance:FU Tryz.prog 249 (.slice 291):=⟨Tryz.underlying249⟩
instance:FU Tryz.prog 255 (.slice 59):=⟨Tryz.underlying255⟩
instance:FA Tryz.prog 273 true:={}
instance:FC Tryz.prog 273 3:={}
instance:FZ Tryz.prog 273 [.slice none 0 0, .bool false, .int .i64 0]:={}
instance:FP Tryz.prog 273 [(0,1),(1,1),(2,1)]:={}
instance:FF Tryz.prog 273 0 0:={}
instance:FF Tryz.prog 273 1 1:={}
instance:FF Tryz.prog 273 2 2:={}
instance:FU Tryz.prog 282 (.int .u64):=⟨Tryz.underlying282⟩
instance:FA Tryz.prog 285 true:={}
instance:FC Tryz.prog 285 2:={}
instance:FZ Tryz.prog 285 [.string ⟨#[]⟩, .nilFunc]:={}
instance:FP Tryz.prog 285 [(0,1),(1,1)]:={}
instance:FF Tryz.prog 285 0 0:={}
instance:FF Tryz.prog 285 1 1:={}
instance:FU Tryz.prog 286 (.array 10 285):=⟨Tryz.underlying286⟩
instance:FZ Tryz.prog 286 [.string ⟨#[]⟩, .nilFunc, .string ⟨#[]⟩, .nilFunc, .string ⟨#[]⟩, .nilFunc, .string ⟨#[]⟩, .nilFunc, .string ⟨#[]⟩, .nilFunc, .string ⟨#[]⟩, .nilFunc, .string ⟨#[]⟩, .nilFunc, .string ⟨#[]⟩, .nilFunc, .string ⟨#[]⟩, .nilFunc, .string ⟨#[]⟩, .nilFunc]:={}
instance:FR Tryz.prog 286 (10,2):={}
instance:FU Tryz.prog 289 (.slice 9):=⟨Tryz.underlying289⟩
instance:FA Tryz.prog 291 true:={}
instance:FC Tryz.prog 291 3:={}
instance:FY Tryz.prog 291 24:={}
instance:FZ Tryz.prog 291 [.int .i64 0, .int .i64 0, .int .i64 0]:={}
instance:FP Tryz.prog 291 [(0,1),(1,1),(2,1)]:={}
instance:FF Tryz.prog 291 1 1:={}
instance:FF Tryz.prog 291 2 2:={}
instance:FA Tryz.prog 323 true:={}
instance:FC Tryz.prog 323 4:={}
instance:FU Tryz.prog 323 (.array 4 3):=⟨Tryz.underlying323⟩
instance:FZ Tryz.prog 323 [.int .i64 0, .int .i64 0, .int .i64 0, .int .i64 0]:={}
instance:FR Tryz.prog 323 (4,1):={}
instance:FZ Tryz.prog 335 [.pointer none, .slice none 0 0, .slice none 0 0, .slice none 0 0]:={}
instance:FP Tryz.prog 335 [(0,1),(1,1),(2,2)]:={}
instance:FF Tryz.prog 335 0 0:={}
instance:FF Tryz.prog 335 1 1:={}
instance:FF Tryz.prog 335 2 2:={}
instance:FA Tryz.prog 337 true:={}
instance:FC Tryz.prog 337 5:={}
instance:FY Tryz.prog 337 48:={}
instance:FZ Tryz.prog 337 [.bool false, .bool false, .slice none 0 0, .int .i64 0, .bool false]:={}
instance:FP Tryz.prog 337 [(0,1),(1,1),(2,1),(3,1),(4,1)]:={}
instance:FF Tryz.prog 337 0 0:={}
instance:FF Tryz.prog 337 1 1:={}
instance:FF Tryz.prog 337 2 2:={}
instance:FF Tryz.prog 337 3 3:={}
instance:FF Tryz.prog 337 4 4:={}
instance:FA Tryz.prog 338 false:={}
instance:FC Tryz.prog 338 1:={}
instance:FU Tryz.prog 338 (.slice 337):=⟨Tryz.underlying338⟩
instance:FZ Tryz.prog 340 [.pointer none, .slice none 0 0, .slice none 0 0, .slice none 0 0, .slice none 0 0, .slice none 0 0]:={}
instance:FP Tryz.prog 340 [(0,4),(4,1),(5,1)]:={}
instance:FF Tryz.prog 340 0 0:={}
instance:FF Tryz.prog 340 1 4:={}
instance:FF Tryz.prog 340 2 5:={}
instance:FA Tryz.prog 357 false:={}
instance:FC Tryz.prog 357 1:={}
instance:FU Tryz.prog 357 (.slice 431):=⟨Tryz.underlying357⟩
instance:FU Tryz.prog 360 (.slice 364):=⟨Tryz.underlying360⟩
instance:FA Tryz.prog 364 true:={}
instance:FC Tryz.prog 364 2:={}
instance:FY Tryz.prog 364 16:={}
instance:FZ Tryz.prog 364 [.int .i64 0, .int .u8 0]:={}
instance:FP Tryz.prog 364 [(0,1),(1,1)]:={}
instance:FF Tryz.prog 364 0 0:={}
instance:FF Tryz.prog 364 1 1:={}
instance:FZ Tryz.prog 366 [.int .i64 0]:={}
instance:FP Tryz.prog 366 [(0,1)]:={}
instance:FF Tryz.prog 366 0 0:={}
instance:FU Tryz.prog 377 (.slice 95):=⟨Tryz.underlying377⟩
instance:FZ Tryz.prog 383 [.slice none 0 0, .slice none 0 0, .slice none 0 0, .bool false, .int .i64 0]:={}
instance:FP Tryz.prog 383 [(0,1),(1,1),(2,1),(3,1),(4,1)]:={}
instance:FF Tryz.prog 383 0 0:={}
instance:FF Tryz.prog 383 1 1:={}
instance:FF Tryz.prog 383 2 2:={}
instance:FF Tryz.prog 383 3 3:={}
instance:FF Tryz.prog 383 4 4:={}
instance:FA Tryz.prog 387 true:={}
instance:FC Tryz.prog 387 5:={}
instance:FZ Tryz.prog 387 [.int .i64 0, .string ⟨#[]⟩, .int .i64 0, .slice none 0 0, .slice none 0 0]:={}
instance:FP Tryz.prog 387 [(0,1),(1,1),(2,1),(3,1),(4,1)]:={}
instance:FF Tryz.prog 387 1 1:={}
instance:FF Tryz.prog 387 2 2:={}
instance:FF Tryz.prog 387 3 3:={}
instance:FF Tryz.prog 387 4 4:={}
instance:FA Tryz.prog 403 true:={}
instance:FC Tryz.prog 403 5:={}
instance:FZ Tryz.prog 403 [.int .i64 0, .string ⟨#[]⟩, .int .i64 0, .string ⟨#[]⟩, .string ⟨#[]⟩]:={}
instance:FP Tryz.prog 403 [(0,1),(1,1),(2,1),(3,1),(4,1)]:={}
instance:FF Tryz.prog 403 0 0:={}
instance:FF Tryz.prog 403 1 1:={}
instance:FF Tryz.prog 403 2 2:={}
instance:FF Tryz.prog 403 3 3:={}
instance:FF Tryz.prog 403 4 4:={}
instance:FA Tryz.prog 418 true:={}
instance:FC Tryz.prog 418 235:={}
instance:FU Tryz.prog 418 (.array 47 403):=⟨Tryz.underlying418⟩
instance:FZ Tryz.prog 418 [.int .i64 0, .string ⟨#[]⟩, .int .i64 0, .string ⟨#[]⟩, .string ⟨#[]⟩, .int .i64 0, .string ⟨#[]⟩, .int .i64 0, .string ⟨#[]⟩, .string ⟨#[]⟩, .int .i64 0, .string ⟨#[]⟩, .int .i64 0, .string ⟨#[]⟩, .string ⟨#[]⟩, .int .i64 0, .string ⟨#[]⟩, .int .i64 0, .string ⟨#[]⟩, .string ⟨#[]⟩, .int .i64 0, .string ⟨#[]⟩, .int .i64 0, .string ⟨#[]⟩, .string ⟨#[]⟩, .int .i64 0, .string ⟨#[]⟩, .int .i64 0, .string ⟨#[]⟩, .string ⟨#[]⟩, .int .i64 0, .string ⟨#[]⟩, .int .i64 0, .string ⟨#[]⟩, .string ⟨#[]⟩, .int .i64 0, .string ⟨#[]⟩, .int .i64 0, .string ⟨#[]⟩, .string ⟨#[]⟩, .int .i64 0, .string ⟨#[]⟩, .int .i64 0, .string ⟨#[]⟩, .string ⟨#[]⟩, .int .i64 0, .string ⟨#[]⟩, .int .i64 0, .string ⟨#[]⟩, .string ⟨#[]⟩, .int .i64 0, .string ⟨#[]⟩, .int .i64 0, .string ⟨#[]⟩, .string ⟨#[]⟩, .int .i64 0, .string ⟨#[]⟩, .int .i64 0, .string ⟨#[]⟩, .string ⟨#[]⟩, .int .i64 0, .string ⟨#[]⟩, .int .i64 0, .string ⟨#[]⟩, .string ⟨#[]⟩, .int .i64 0, .string ⟨#[]⟩, .int .i64 0, .string ⟨#[]⟩, .string ⟨#[]⟩, .int .i64 0, .string ⟨#[]⟩, .int .i64 0, .string ⟨#[]⟩, .string ⟨#[]⟩, .int .i64 0, .string ⟨#[]⟩, .int .i64 0, .string ⟨#[]⟩, .string ⟨#[]⟩, .int .i64 0, .string ⟨#[]⟩, .int .i64 0, .string ⟨#[]⟩, .string ⟨#[]⟩, .int .i64 0, .string ⟨#[]⟩, .int .i64 0, .string ⟨#[]⟩, .string ⟨#[]⟩, .int .i64 0, .string ⟨#[]⟩, .int .i64 0, .string ⟨#[]⟩, .string ⟨#[]⟩, .int .i64 0, .string ⟨#[]⟩, .int .i64 0, .string ⟨#[]⟩, .string ⟨#[]⟩, .int .i64 0, .string ⟨#[]⟩, .int .i64 0, .string ⟨#[]⟩, .string ⟨#[]⟩, .int .i64 0, .string ⟨#[]⟩, .int .i64 0, .string ⟨#[]⟩, .string ⟨#[]⟩, .int .i64 0, .string ⟨#[]⟩, .int .i64 0, .string ⟨#[]⟩, .string ⟨#[]⟩, .int .i64 0, .string ⟨#[]⟩, .int .i64 0, .string ⟨#[]⟩, .string ⟨#[]⟩, .int .i64 0, .string ⟨#[]⟩, .int .i64 0, .string ⟨#[]⟩, .string ⟨#[]⟩, .int .i64 0, .string ⟨#[]⟩, .int .i64 0, .string ⟨#[]⟩, .string ⟨#[]⟩, .int .i64 0, .string ⟨#[]⟩, .int .i64 0, .string ⟨#[]⟩, .string ⟨#[]⟩, .int .i64 0, .string ⟨#[]⟩, .int .i64 0, .string ⟨#[]⟩, .string ⟨#[]⟩, .int .i64 0, .string ⟨#[]⟩, .int .i64 0, .string ⟨#[]⟩, .string ⟨#[]⟩, .int .i64 0, .string ⟨#[]⟩, .int .i64 0, .string ⟨#[]⟩, .string ⟨#[]⟩, .int .i64 0, .string ⟨#[]⟩, .int .i64 0, .string ⟨#[]⟩, .string ⟨#[]⟩, .int .i64 0, .string ⟨#[]⟩, .int .i64 0, .string ⟨#[]⟩, .string ⟨#[]⟩, .int .i64 0, .string ⟨#[]⟩, .int .i64 0, .string ⟨#[]⟩, .string ⟨#[]⟩, .int .i64 0, .string ⟨#[]⟩, .int .i64 0, .string ⟨#[]⟩, .string ⟨#[]⟩, .int .i64 0, .string ⟨#[]⟩, .int .i64 0, .string ⟨#[]⟩, .string ⟨#[]⟩, .int .i64 0, .string ⟨#[]⟩, .int .i64 0, .string ⟨#[]⟩, .string ⟨#[]⟩, .int .i64 0, .string ⟨#[]⟩, .int .i64 0, .string ⟨#[]⟩, .string ⟨#[]⟩, .int .i64 0, .string ⟨#[]⟩, .int .i64 0, .string ⟨#[]⟩, .string ⟨#[]⟩, .int .i64 0, .string ⟨#[]⟩, .int .i64 0, .string ⟨#[]⟩, .string ⟨#[]⟩, .int .i64 0, .string ⟨#[]⟩, .int .i64 0, .string ⟨#[]⟩, .string ⟨#[]⟩, .int .i64 0, .string ⟨#[]⟩, .int .i64 0, .string ⟨#[]⟩, .string ⟨#[]⟩, .int .i64 0, .string ⟨#[]⟩, .int .i64 0, .string ⟨#[]⟩, .string ⟨#[]⟩, .int .i64 0, .string ⟨#[]⟩, .int .i64 0, .string ⟨#[]⟩, .string ⟨#[]⟩, .int .i64 0, .string ⟨#[]⟩, .int .i64 0, .string ⟨#[]⟩, .string ⟨#[]⟩, .int .i64 0, .string ⟨#[]⟩, .int .i64 0, .string ⟨#[]⟩, .string ⟨#[]⟩, .int .i64 0, .string ⟨#[]⟩, .int .i64 0, .string ⟨#[]⟩, .string ⟨#[]⟩, .int .i64 0, .string ⟨#[]⟩, .int .i64 0, .string ⟨#[]⟩, .string ⟨#[]⟩]:={}
instance:FR Tryz.prog 418 (47,5):={}
instance:FA Tryz.prog 420 true:={}
instance:FC Tryz.prog 420 30:={}
instance:FU Tryz.prog 420 (.array 6 403):=⟨Tryz.underlying420⟩
instance:FZ Tryz.prog 420 [.int .i64 0, .string ⟨#[]⟩, .int .i64 0, .string ⟨#[]⟩, .string ⟨#[]⟩, .int .i64 0, .string ⟨#[]⟩, .int .i64 0, .string ⟨#[]⟩, .string ⟨#[]⟩, .int .i64 0, .string ⟨#[]⟩, .int .i64 0, .string ⟨#[]⟩, .string ⟨#[]⟩, .int .i64 0, .string ⟨#[]⟩, .int .i64 0, .string ⟨#[]⟩, .string ⟨#[]⟩, .int .i64 0, .string ⟨#[]⟩, .int .i64 0, .string ⟨#[]⟩, .string ⟨#[]⟩, .int .i64 0, .string ⟨#[]⟩, .int .i64 0, .string ⟨#[]⟩, .string ⟨#[]⟩]:={}
instance:FR Tryz.prog 420 (6,5):={}
instance:FU Tryz.prog 426 (.array 3 9):=⟨Tryz.underlying426⟩
instance:FZ Tryz.prog 426 [.string ⟨#[]⟩, .string ⟨#[]⟩, .string ⟨#[]⟩]:={}
instance:FR Tryz.prog 426 (3,1):={}
instance:FC Tryz.prog 431 3:={}
instance:FY Tryz.prog 431 24:={}
instance:FZ Tryz.prog 431 [.int .i64 0, .int .i64 0, .int .i64 0]:={}
instance:FP Tryz.prog 431 [(0,1),(1,1),(2,1)]:={}
instance:FF Tryz.prog 431 0 0:={}
instance:FF Tryz.prog 431 1 1:={}
instance:FF Tryz.prog 431 2 2:={}
instance:FA Tryz.prog 437 true:={}
instance:FC Tryz.prog 437 15:={}
instance:FU Tryz.prog 437 (.array 15 9):=⟨Tryz.underlying437⟩
instance:FZ Tryz.prog 437 [.string ⟨#[]⟩, .string ⟨#[]⟩, .string ⟨#[]⟩, .string ⟨#[]⟩, .string ⟨#[]⟩, .string ⟨#[]⟩, .string ⟨#[]⟩, .string ⟨#[]⟩, .string ⟨#[]⟩, .string ⟨#[]⟩, .string ⟨#[]⟩, .string ⟨#[]⟩, .string ⟨#[]⟩, .string ⟨#[]⟩, .string ⟨#[]⟩]:={}
instance:FR Tryz.prog 437 (15,1):={}
instance:FA Tryz.prog 439 true:={}
instance:FC Tryz.prog 439 10:={}
instance:FU Tryz.prog 439 (.array 10 9):=⟨Tryz.underlying439⟩
instance:FZ Tryz.prog 439 [.string ⟨#[]⟩, .string ⟨#[]⟩, .string ⟨#[]⟩, .string ⟨#[]⟩, .string ⟨#[]⟩, .string ⟨#[]⟩, .string ⟨#[]⟩, .string ⟨#[]⟩, .string ⟨#[]⟩, .string ⟨#[]⟩]:={}
instance:FR Tryz.prog 439 (10,1):={}
instance:FA Tryz.prog 441 true:={}
instance:FC Tryz.prog 441 4:={}
instance:FU Tryz.prog 441 (.array 4 9):=⟨Tryz.underlying441⟩
instance:FZ Tryz.prog 441 [.string ⟨#[]⟩, .string ⟨#[]⟩, .string ⟨#[]⟩, .string ⟨#[]⟩]:={}
instance:FR Tryz.prog 441 (4,1):={}
instance:FA Tryz.prog 444 true:={}
instance:FC Tryz.prog 444 5:={}
instance:FZ Tryz.prog 444 [.int .i64 0, .int .i64 0, .int .i64 0, .int .i64 0, .int .i64 0]:={}
instance:FP Tryz.prog 444 [(0,1),(1,1),(2,1),(3,1),(4,1)]:={}
instance:FF Tryz.prog 444 0 0:={}
instance:FF Tryz.prog 444 1 1:={}
instance:FF Tryz.prog 444 2 2:={}
instance:FF Tryz.prog 444 3 3:={}
instance:FF Tryz.prog 444 4 4:={}
instance:FA Tryz.prog 445 true:={}
instance:FC Tryz.prog 445 40:={}
instance:FU Tryz.prog 445 (.array 8 444):=⟨Tryz.underlying445⟩
instance:FZ Tryz.prog 445 [.int .i64 0, .int .i64 0, .int .i64 0, .int .i64 0, .int .i64 0, .int .i64 0, .int .i64 0, .int .i64 0, .int .i64 0, .int .i64 0, .int .i64 0, .int .i64 0, .int .i64 0, .int .i64 0, .int .i64 0, .int .i64 0, .int .i64 0, .int .i64 0, .int .i64 0, .int .i64 0, .int .i64 0, .int .i64 0, .int .i64 0, .int .i64 0, .int .i64 0, .int .i64 0, .int .i64 0, .int .i64 0, .int .i64 0, .int .i64 0, .int .i64 0, .int .i64 0, .int .i64 0, .int .i64 0, .int .i64 0, .int .i64 0, .int .i64 0, .int .i64 0, .int .i64 0, .int .i64 0]:={}
instance:FR Tryz.prog 445 (8,5):={}
theorem Tryz.TN:rM Tryz.prog 3 (Value.int .i64):=rM.int Tryz.underlying3
theorem Tryz.TO:zf Tryz.prog 3=some (.int .i64 0):=by kernel_rfl
theorem Tryz.TP:rM Tryz.prog 3 (Value.int .i64):=rM.int Tryz.underlying3
theorem Tryz.Wo:zf Tryz.prog 61=some (.slice none 0 0):=by kernel_rfl
theorem Tryz.Bx:rM Tryz.prog 3 (Value.int .i64):=rM.int Tryz.underlying3
theorem Tryz.QL:zf Tryz.prog 59=some (.slice none 0 0):=by kernel_rfl
theorem Tryz.rP:rM Tryz.prog 137 (Nh .i64 .i64):=rM.pair Tryz.underlying137 Tryz.Wn (by decide) (by decide) rfl rfl Tryz.underlying3 Tryz.underlying3
instance:FM Tryz.prog:={}
end Go.Proofs
end
section
namespace Go.Hl
open Go.RowKit
section
variable {P:Program} {hs:List HP} {env:Env} {q:VP} {dst:Option Tmp} {ty T T' E:TypeId} {pos:String} {after:Array Edge} {gd:Option (Nat×Bool)} {x y z:Operand}
theorem zl {b off len:Nat} {k:IntKind} {i:Int} (j:Nat) (hT:P.underlying T=some (.slice E)) (hn:P.cellsOf E=1) (hx:bu env x (jM b off len)) (hy:bu env y (ag k i)) (hi:i=(j:Int)) (hj:j<len):
    bl P hs env ⟨dst, .indexAddr T x y,ty,pos,after,gd⟩ (aI b (off+j)):=
  bl.aJ fun ρ w S F _ he=>by
    obtain ⟨o,cap,hv,h1,h2,h3⟩:=he.o _ _ hx
    have h4:=he.o _ _ hy;simp only [aa] at h4
    subst hi
    have ho:o=off:=h1.resolve_left (by omega)
    subst ho
    have hs:=run_sizeOf (T:=E) hn rfl w
    have oO:Addr.add ⟨b,o,none⟩ j=⟨b,o+j,none⟩:=by
      unfold Addr.add
      split<;>simp_all
    exact ⟨_,by simp [execOp,hv,h4,Instr.indexAt,asIntOf,run_underlying hT,Instr.sureAddr,hs,oO,hj],rfl⟩
theorem QM {b k i:Nat} {l:List UInt8} {c:UInt8} (hT:lZ P T=some false) (hx:bu env x (aI b k)) (hi:hs[i]?=some (iG b l)) (hj:l[k]?=some c):bl P hs env ⟨dst, .load T x,ty,pos,after,gd⟩ (ag .u8 (c.toNat:Int)):=
 bl.aJ fun ρ w S F ho qe=>by
  have hv:=qe.o _ _ hx;simp only [aa] at hv
  obtain ⟨F1,_,_,T',hb⟩:=ho.get hi
  refine ⟨.int .u8 (c.toNat:Int), ?_,rfl⟩
  have hc:w.cell? ⟨b,k,none⟩=some (.int .u8 (c.toNat:Int)):=by simp [World.cell?,hb,qo,hj]
  have h1:(loadVar T ⟨b,k,none⟩).run P w= .ok (.int .u8 (c.toNat:Int)) w:=by
   unfold loadVar
   rw [bw (eW hT w)]
   simp [hc]
  simp [execOp,hv,Instr.loadAt,Instr.sureAddr,h1]
theorem N6 {b k i:Nat} {l:List UInt8} (c:UInt8) (hn:P.cellsOf T=1) (hx:bu env x (aI b k)) (hy:bu env y (ag .u8 (c.toNat:Int))) (hi:hs[i]?=some (iG b l)) (hj:k<l.length):
    fV P hs env ⟨none, .store T x y,ty,pos,after,gd⟩ (γ:=Unit) (fun _=>True) (fun _=>hs.set i (iG b (l.set k c))) (fun _=>aa undef):=by
  intro cx a w S F aF hown qe Kp Q hk
  have hv:=hx S w a qe;simp only [aa] at hv
  have hu:=hy S w a qe;simp only [aa] at hu
  obtain ⟨F0,_,_,T',hb⟩:=hown.get hi
  have hsz:k<(mV l).toArray.size:=by simpa [mV] using hj
  have hr:(execOp a.eval ⟨none, .store T x y,ty,pos,after,gd⟩).run P w= .ok .skip (w.setCell ⟨b,k,none⟩ (a.eval y)):=by
    have hst:=oP (v:=a.eval y) hn (by rw [hu];exact ⟨rfl,rfl⟩) hb hsz
    simp [execOp,hv,Instr.storeAt,Instr.sureAddr,hst]
  have hne:∀t,t≠b→(w.setCell ⟨b,k,none⟩ (a.eval y)).heap[t]?=w.heap[t]?:=fun t ht=>fM w _ _ t ht
  obtain ⟨F1,F2,f1,f2,f3,_,f4⟩:=hown.xx hi
  have hFb:F1 b:=f3.1
  have hag:∀t,S t→(w.setCell ⟨b,k,none⟩ (a.eval y)).heap[t]?=w.heap[t]?:=fun t ht=>hne t (fun e=>aF.dG t ht (e▸(f1 b hFb).1))
  unfold Oper.wp
  rw [hr]
  refine hk () undef _ S F trivial (aF.write (f1 b hFb).1 rfl rfl rfl (by simp [World.setCell]) hne) (fun _ h=>h) hag ?_ rfl
  have :=f4 S F1 (w.setCell ⟨b,k,none⟩ (a.eval y)) (iG b (l.set k c)) (fun t ht=>(f1 t ht).2) (fun _ h=>h) (fun t ht=>hne t (fun e=>(f1 b hFb).2 (e▸ht))) hag
    ⟨hFb,T',by
      rw [hu]
      simp only [World.setCell,Array.getElem?_modify,hb,if_true,Option.map_some,Option.isSome_none,Bool.false_eq_true,if_false]
      congr 2
      apply Array.ext_getElem?
      intro t
      rw [Array.getElem?_setIfInBounds]
      simp only [List.getElem?_toArray,qo,List.getElem?_set]
      by_cases e:k=t
      · subst e
        have ak6:k<(mV l).length:=by simpa using hsz
        simp [hj,ak6]
      · simp [e]⟩
  exact this.mono (fun t ht=>ht.elim (fun h=>(f1 t h).1) (f2 t)) (fun _ h=>h) (fun _ _=>rfl) (fun _ _=>rfl)
end
def QN (v:Nat) (i:Nat):UInt8:=UInt8.ofNat (v/2^(8*i)%256)
def yg (v w:Nat):List UInt8:=(List.range w).map (QN v)
def rq:List UInt8→Nat
 |[]=>0
 |c::l=>c.toNat+256*rq l
theorem mW (v w:Nat):(yg v w).length=w:=by simp [yg]
theorem CB:∀l:List UInt8,rq l<2^(8*l.length)
 |[]=>by simp [rq]
 |c::l=>by
  have h1:=CB l
  have h2:=c.toNat_lt
  simp only [rq,List.length_cons]
  have e:2^(8*(l.length+1))=256*2^(8*l.length):=by rw [Nat.mul_add,Nat.pow_add];omega
  rw [e];omega
theorem zm:∀(l:List UInt8) (c:UInt8),rq (l++[c])=rq l+c.toNat*2^(8*l.length)
 |[],c=>by simp [rq]
 |d::l,c=>by
  have ih:=zm l c
  simp only [List.cons_append,rq,ih,List.length_cons]
  have e:2^(8*(l.length+1))=256*2^(8*l.length):=by rw [Nat.mul_add,Nat.pow_add];omega
  rw [e,Nat.mul_add,←Nat.mul_assoc,Nat.mul_comm 256 c.toNat,Nat.mul_assoc,Nat.add_assoc]
theorem TQ (l:List UInt8) (c:UInt8):(rq l)|||(c.toNat*2^(8*l.length))=rq (l++[c]):=by
 rw [zm,Nat.mul_comm c.toNat,Nat.or_comm,←Nat.two_pow_add_eq_or_of_lt (CB l),Nat.add_comm]
end Go.Hl
end
section
namespace Go.Hl
abbrev aS (n:Int):VP:=ag .i64 n
structure oT where
 (ab db tm gm size:Nat)
structure dX where
 bytes:List UInt8
 height:Nat
 live:Nat
 taken:List (Int×Int)
def ez (X:oT) (a:dX):List HP:=
 [az X.ab [jM X.db 0 X.size,ag .i64 (a.height:Int),ag .i64 (a.live:Int),aa (.map (some X.tm)),aa (.map (some X.gm))],
  iG X.db a.bytes,jL X.tm (Value.int .i64) aS a.taken,jL X.gm (Value.int .i64) (fun _:Unit=>qg) []]
structure dm (X:oT) (a:dX):Prop where
 len:a.bytes.length=X.size
 hi:a.height≤X.size
 most:X.size≤4194304
 live:a.live≤a.height
def rQ:Nat→Nat→Nat→Nat
 |0,c,_=>c
 |k+1,c,n=>if c<n then rQ k (c*2) n else c
def aW (n:Nat):Nat:=if 4194304<n then 0 else rQ 19 16 n
theorem By:∀(k c n:Nat),rQ k c n≤c*2^k
 |0,c,n=>by simp [rQ]
 | k +1,c,n=>by
  unfold rQ
  have:=By k (c*2) n
  have h2:0<2^k:=Nat.two_pow_pos k
  rw [Nat.pow_succ,Nat.mul_comm (2^k) 2,←Nat.mul_assoc]
  split
  · exact this
  · calc c≤c*2:=by omega
     _≤c*2*2^k:=Nat.le_mul_of_pos_right _ h2
theorem ox (n:Nat):aW n≤8388608:=by
 unfold aW
 split
 · omega
 · exact By 19 16 n
variable {k:Nat} {c:Nat}
theorem Lc {n:Nat} (h:¬c<n):rQ k c n=c:=by
 cases k with
 |zero=>rfl
 |succ k=>unfold rQ;rw [if_neg h]
def qq (size:Nat) (a:dX) (c:Nat):dX×Nat×Bool:=if size-a.height<c then (a,0,false) else ({a with height:=a.height+c},a.height,true)
variable {size:Nat} {a:dX}
theorem Ld (h:¬(qq size a c).2.2=true):qq size a c=(a,0,false)∧size-a.height<c:=by
 unfold qq at h ⊢
 by_cases hc:size-a.height<c
 · rw [if_pos hc];exact ⟨rfl,hc⟩
 · rw [if_neg hc] at h;exact absurd rfl h
theorem Hz (h:(qq size a c).2.2=true):qq size a c=({a with height:=a.height+c},a.height,true)∧¬size-a.height<c:=by
 unfold qq at h ⊢
 by_cases hc:size-a.height<c
 · rw [if_pos hc] at h;cases h
 · rw [if_neg hc];exact ⟨rfl,hc⟩
def xI (size:Nat) (a:dX) (n:Nat):dX×Nat×Nat:=
 if 4194304<n then (a,0,1) else if size-a.height<aW n then (a,0,8)
 else ({bytes:=a.bytes.take a.height++List.replicate (aW n) 0++a.bytes.drop (a.height+aW n),height:=a.height+aW n,live:=a.live+aW n,taken:=fF a.taken (a.height:Int) (aW n:Int)},a.height,0)
def dX.get (a:dX) (at_ n:Nat):List UInt8:=(a.bytes.drop at_).take n
def dX.put (a:dX) (at_:Nat) (ys:List UInt8):dX:={a with bytes:=a.bytes.take at_++ys++a.bytes.drop (at_+ys.length)}
variable {r:List HP} {b:Nat}
theorem aB.cells {cs cs':List VP} (h:Qb cs cs'):aB (az b cs::r) (az b cs'::r):=fun F S w ⟨F1,F2,h1,h2,⟨f1,arr,T,hh,hn,hc⟩,h4⟩=>
 ⟨F1,F2,h1,h2,⟨f1,arr,T,hh,by rw [hn,h.len],fun j q' hj=>let ⟨q,k1,k2⟩:=h.get j q' hj;let ⟨u,hu,hq⟩:=hc j q k1;⟨u,hu,k2 _ _ _ hq⟩⟩,h4⟩
variable {l:List UInt8} {l':List UInt8}
theorem aB.ak7 (h:l=l'):aB (iG b l::r) (iG b l'::r):=h▸aB.refl _
theorem lH:af (aa (.bool false)) (aq False):=fun S w v h=>⟨false,h,by simp⟩
def BP:Bool→Prop
 |true=>True
 |false=>False
theorem oU (b:Bool):BP b↔b=true:=by cases b<;>simp [BP]
structure jT where
 size:Nat
 cap:Int
 zn:Int
 ops:Int
 fail:Int
 failed:Bool
 m:List (Int×List UInt8)
def j5 (sb mb:Nat) (s:jT):HP:=az sb [ag .i64 (s.size:Int),ag .i64 s.cap,ag .i64 s.zn,aa (.map (some mb)),ag .i64 s.ops,ag .i64 s.fail,aq (BP s.failed)]
abbrev CC:=List (Int×Nat×List UInt8)
def iH (mb size:Nat) (E:CC):HP:=jL mb (Value.int .i64) (fun b=>jM b 0 size) (E.map fun e=>(e.1,e.2.1))
def dB (sb:Nat) (s:jT):HP:=Vb fun x:Nat×CC=>j4 (l6 (x.2.map (fun e=>(e.1,e.2.2))=s.m)::j5 sb x.1 s::iH x.1 s.size x.2::x.2.map fun e=>iG e.2.1 e.2.2)
structure qt (s:jT):Prop where
 size:s.size≤1024
 cap:s.cap≤4096
 len:∀e∈s.m,e.2.length=s.size
 keys:∀e∈s.m,0≤e.1∧e.1<4096
 many:(s.m.length:Int)≤s.cap
 nodup:(s.m.map (·.1)).Nodup
def tP (s:jT):jT×Bool:=
 let k:=IntKind.i64.wrap (s.ops+1)
 if 0≤s.fail∧s.fail≤IntKind.i64.wrap (k-1) then ({s with ops:=k,failed:=true},false) else ({s with ops:=k},true)
def eT (s:jT) (id:Int) (right:Prop) [Decidable right]:jT×Nat:=
 match ak s.m id with
 |none=>(s,2)
 |some _=>if ¬right then (s,1) else match tP s with|(s',true)=>(s',0)|(s',false)=>(s',9)
def fW (E:CC):List HP:=E.map fun e=>iG e.2.1 e.2.2
theorem lI {κ α β:Type} [DecidableEq κ] (f:α→β) (a:κ):∀E:List (κ×α),ak (E.map fun e=>(e.1,f e.2)) a=(ak E a).map f
 |[]=>rfl
 |e::E=>by
  have ih:=lI f a E
  unfold ak at ih ⊢
  rw [List.map_cons]
  by_cases h:e.1=a
  · rw [List.find?_cons_of_pos (by simpa using h),List.find?_cons_of_pos (by simpa using h)];rfl
  · rw [List.find?_cons_of_neg (by simpa using h),List.find?_cons_of_neg (by simpa using h)];exact ih
def gD {α:Type}:List (Int×α)→Int→α→List (Int×α)
 |[],_,_=>[]
 |e::E,id,l=>if e.1=id then (e.1,l)::E else e::gD E id l
variable {α:Type}
def jd (m:List (Int×α)) (id:Int):List (Int×α):=m.eraseP fun e=>decide (e.1=id)
theorem uR {α β:Type} (f:α→β) (id:Int) (l:α):∀E:List (Int×α),(gD E id l).map (fun e=>(e.1,f e.2))=gD (E.map fun e=>(e.1,f e.2)) id (f l)
 |[]=>rfl
 |e::E=>by
  unfold gD
  rw [List.map_cons]
  by_cases h:e.1=id
  · simp [h,gD]
  · simp [h,gD,uR f id l E]
theorem wq {α:Type} (id:Int) (l:α):∀E:List (Int×α),ak E id=some l→gD E id l=E
 |[],h=>rfl
 |e::E,h=>by
  unfold ak at h
  unfold gD
  by_cases he:e.1=id
  · rw [List.find?_cons_of_pos (by simpa using he)] at h
    simp at h;rw [if_pos he,←h]
  · rw [List.find?_cons_of_neg (by simpa using he)] at h
    rw [if_neg he,wq id l E h]
theorem zo (id:Int):∀{E:CC} {b:Nat} {l:List UInt8},ak E id=some (b,l)→(fW E).Perm (iG b l::fW (jd E id))
 |[],b,l,h=>by cases h
 |e::E,b,l,h=>by
  unfold ak at h
  by_cases he:e.1=id
  · rw [List.find?_cons_of_pos (by simpa using he)] at h
    simp at h
    unfold jd fW
    rw [List.eraseP_cons_of_pos (by simpa using he),List.map_cons,h]
  · rw [List.find?_cons_of_neg (by simpa using he)] at h
    have ih:=zo id (E:=E) (b:=b) (l:=l) h
    unfold jd fW at ih ⊢
    rw [List.eraseP_cons_of_neg (by simpa using he),List.map_cons,List.map_cons]
    exact (ih.cons _).trans (List.Perm.swap _ _ _)
theorem ED (id:Int):∀{E:CC} {b:Nat} {l:List UInt8} (l':List UInt8),ak E id=some (b,l)→(iG b l'::fW (jd E id)).Perm (fW (gD E id (b,l')))
 |[],b,l,l',h=>by cases h
 |e::E,b,l,l',h=>by
  unfold ak at h
  by_cases he:e.1=id
  · rw [List.find?_cons_of_pos (by simpa using he)] at h
    simp at h
    unfold jd fW gD
    rw [List.eraseP_cons_of_pos (by simpa using he),if_pos he,List.map_cons]
  · rw [List.find?_cons_of_neg (by simpa using he)] at h
    have ih:=ED id (E:=E) (b:=b) (l:=l) l' h
    unfold fW jd at ih ⊢
    unfold gD
    rw [List.eraseP_cons_of_neg (by simpa using he),if_neg he,List.map_cons,List.map_cons]
    exact (List.Perm.swap _ _ _).trans (ih.cons _)
theorem EE (id:Int) (D:List (Int×α)):fG D id=jd D id:=by
 unfold fG jd
 induction D with
 |nil=>rfl
 |cons e D ih=>
  rw [List.map_cons,List.findIdx?_cons]
  by_cases he:e.1=id
  · rw [if_pos (by simpa using he),List.eraseP_cons_of_pos (by simpa using he)];rfl
  · rw [if_neg (by simpa using he),List.eraseP_cons_of_neg (by simpa using he),←ih]
    cases h:(D.map (·.1)).findIdx? (fun k=>decide (k=id))<;>simp
theorem CD {α β:Type} (f:α→β) (id:Int):∀E:List (Int×α),(jd E id).map (fun e=>(e.1,f e.2))=jd (E.map fun e=>(e.1,f e.2)) id
 |[]=>rfl
 |e::E=>by
  unfold jd
  rw [List.map_cons]
  by_cases h:e.1=id
  · rw [List.eraseP_cons_of_pos (by simpa using h),List.eraseP_cons_of_pos (by simpa using h)]
  · rw [List.eraseP_cons_of_neg (by simpa using h),List.eraseP_cons_of_neg (by simpa using h),List.map_cons]
    have:=CD f id E;unfold jd at this;rw [this]
theorem kQ {κ:Type} [DecidableEq κ] {D:List (κ×α)} {id:κ} (v:α) (h:ak D id=none):fF D id v=D++[(id,v)]:=by
 unfold fF
 have hf:=pF id D
 cases hi:(D.map (·.1)).findIdx? (fun k=>decide (k=id)) with
 |none=>rfl
 |some i=>rw [hi] at hf;obtain ⟨u,_,hu⟩:=hf;rw [h] at hu;cases hu
def oy (E:CC):List (Int×List UInt8):=E.map fun e=>(e.1,e.2.2)
variable {s:jT} {E:CC} {sb:Nat} {mb:Nat} {sz:Nat}
theorem eU (hE:oy E=s.m) (hz:sz=s.size):aB (j5 sb mb s::iH mb sz E::j4 (fW E)::r) (dB sb s::r):=by
 subst hz
 refine aB.trans ?_ (aB.ex (f:=fun x:Nat×CC=>j4 (l6 (x.2.map (fun e=>(e.1,e.2.2))=s.m)::j5 sb x.1 s::iH x.1 s.size x.2::x.2.map fun e=>iG e.2.1 e.2.2)) (mb,E))
 refine aB.trans (aB.cons _ (aB.cons _ aB.unpack)) ?_
 refine aB.trans (aB.pure (p:=oy E=s.m) hE) ?_
 exact aB.pack (l:=l6 (oy E=s.m)::j5 sb mb s::iH mb s.size E::fW E)
theorem aM.EF {P:Program} {Q:Exit→Act→World→Prop} {c:Ctx} {x:Code} {env:Env} (k:∀mb E,oy E=s.m→aM P Q c x (j5 sb mb s::iH mb s.size E::j4 (fW E)::r) env):aM P Q c x (dB sb s::r) env:=
 aM.opens fun ⟨mb,E⟩=>aM.own aB.unpack (aM.l6 fun h=>aM.own (aB.cons _ (aB.cons _ (aB.pack (l:=fW E)))) (k mb E h))
variable {id:Int}
theorem aM.HA {P:Program} {Q:Exit→Act→World→Prop} {c:Ctx} {x:Code} {env:Env} {a b0:HP} (h:ak E id=some (b,l)) (k:aM P Q c x (a::b0::iG b l::j4 (fW (jd E id))::r) env):aM P Q c x (a::b0::j4 (fW E)::r) env:=by
 refine aM.own (aB.trans (aB.cons a (aB.cons b0 (aB.trans aB.unpack (aB.perm ((zo id h).append_right r))))) ?_) k
 refine aB.cons a (aB.cons b0 (aB.cons _ ?_))
 exact aB.pack
theorem Wp {a b0:HP} (l':List UInt8) (h:ak E id=some (b,l)):aB (a::b0::iG b l'::j4 (fW (jd E id))::r) (a::b0::j4 (fW (gD E id (b,l')))::r):=by
 refine aB.trans (aB.cons a (aB.cons b0 (aB.cons _ aB.unpack))) ?_
 refine aB.trans (aB.perm (List.Perm.cons a (List.Perm.cons b0 ?_))) (aB.cons a (aB.cons b0 aB.pack))
 exact (ED id l' h).append_right r
theorem HB (h:ak E id=some (b,l)):iH mb size (gD E id (b,l'))=iH mb size E:=by
 unfold iH
 congr 1
 have h1:=uR (fun x:Nat×List UInt8=>x.1) id (b,l') E
 rw [h1]
 exact wq id b _ (by rw [lI (fun x:Nat×List UInt8=>x.1),h];rfl)
theorem Le:oy (gD E id (b,l'))=gD (oy E) id l':=uR (fun x:Nat×List UInt8=>x.2) id (b,l') E
theorem lJ:ak (oy E) id=(ak E id).map (·.2):=lI (fun x:Nat×List UInt8=>x.2) id E
theorem pG:ak (E.map fun e=>(e.1,e.2.1)) id=(ak E id).map (·.1):=lI (fun x:Nat×List UInt8=>x.1) id E
theorem CE {α:Type} [BEq α] [LawfulBEq α]:∀{l m:List α},l.Nodup→(∀x∈l,x∈m)→l.length≤m.length
 |[],m,_,_=>by simp
 | a::l,m,hn,hs=>by
  rw [List.nodup_cons] at hn
  have h1:a∈m:=hs a (List.mem_cons_self ..)
  have:=CE (l:=l) (m:=m.erase a) hn.2 fun x hx=>by
   have hne:x≠a:=fun e=>hn.1 (e▸hx)
   exact (List.mem_erase_of_ne hne).2 (hs x (List.mem_cons_of_mem _ hx))
  rw [List.length_erase_of_mem h1] at this
  have h2:0<m.length:=List.length_pos_of_mem h1
  simp only [List.length_cons];omega
theorem uS {m0:List (Int×List UInt8)} (h:ak E id=some (b,l)) (hE:oy E=m0) (hm:s.m=gD m0 id l') (hz:sz=s.size):
    aB (j5 sb mb s::iH mb sz E::iG b l'::j4 (fW (jd E id))::r) (dB sb s::r):=by
  refine (Wp l' h).trans ?_
  rw [←HB (mb:=mb) (size:=sz) (l':=l') h]
  exact eU (by rw [Le,hE,hm]) hz
theorem CF {m0:List (Int×List UInt8)} (h:ak E id=some (b,l)) (hE:oy E=m0) (hm:s.m=m0) (hz:sz=s.size):
    aB (j5 sb mb s::iH mb sz E::iG b l::j4 (fW (jd E id))::r) (dB sb s::r):=
  uS h hE (by rw [hm,wq id l m0 (by rw [←hE,lJ,h];rfl)]) hz
theorem CG (h:ak E (k:Int)=none) (hm:s.m=oy E++[((k:Int),l)]) (hz:sz=s.size):
    aB (iG b l::j5 sb mb s::jL mb (Value.int .i64) (fun b=>jM b 0 sz) (fF (E.map fun e=>(e.1,e.2.1)) (k:Int) b)::j4 (fW E)::r) (dB sb s::r):=by
  have e:jL mb (Value.int .i64) (fun b=>jM b 0 sz) (fF (E.map fun e=>(e.1,e.2.1)) (k:Int) b)=iH mb sz (E++[((k:Int),b,l)]):=by
    unfold iH
    rw [kQ b (by rw [pG,h];rfl)];simp
  rw [e]
  have e2:fW (E++[((k:Int),b,l)])=fW E++[iG b l]:=by simp [fW]
  have h0:aB (j5 sb mb s::iH mb sz (E++[((k:Int),b,l)])::j4 (fW (E++[((k:Int),b,l)]))::r) (dB sb s::r):=eU (by rw [hm];simp [oy]) hz
  refine aB.trans ?_ h0
  refine aB.trans (aB.perm (List.perm_middle (l₁:=[j5 sb mb s,iH mb sz (E++[((k:Int),b,l)]),j4 (fW E)]) (a:=iG b l) (l₂:=r)).symm) ?_
  refine aB.cons _ (aB.cons _ (aB.trans aB.unpack ?_))
  rw [e2]
  have h3:fW E++iG b l::r=(fW E++[iG b l])++r:=by simp
  show aB (fW E++iG b l::r) _
  rw [h3]
  exact aB.pack
theorem N7 (s:jT):(tP s).1.m=s.m∧(tP s).1.size=s.size∧(tP s).1.cap=s.cap∧(tP s).1.fail=s.fail∧(tP s).1.zn=s.zn:=by
 unfold tP;dsimp only;split<;>exact ⟨rfl,rfl,rfl,rfl,rfl⟩
theorem zp (s:jT) (id:Int) (r:Prop) [Decidable r]:(eT s id r).1.m=s.m∧(eT s id r).1.size=s.size:=by
 unfold eT
 split
 · exact ⟨rfl,rfl⟩
 · split
   · exact ⟨rfl,rfl⟩
   · have h:=N7 s
     split<;>rename_i h2<;>rw [h2] at h<;>exact ⟨h.1,h.2.1⟩
theorem CH {r:Prop} [Decidable r] (h:(eT s id r).2=0):r∧∃l,ak s.m id=some l:=by
 unfold eT at h
 split at h
 · cases h
 · split at h
   · cases h
   · rename_i l hl hr
     exact ⟨Classical.not_not.1 hr,l,hl⟩
theorem eu:aB r (j4 []::r):=fun F S w x=>⟨fun _=>False,F,fun _ h=>h.elim,fun _ h=>h,trivial,x⟩
theorem wu {κ:Type} [DecidableEq κ] {D:List (κ×α)} {a:κ} {v:α} (h:ak D a=some v):∃e∈D,e.2=v:=by
 unfold ak at h
 cases hf:D.find? fun p=>decide (p.1=a) with
 |none=>rw [hf] at h;cases h
 |some p=>rw [hf] at h;cases h;exact ⟨p,List.mem_of_find?_eq_some hf,rfl⟩
theorem Lf {r:Prop} [Decidable r] (h:ak s.m id=none):eT s id r=(s,2):=by unfold eT;rw [h]
theorem HC {r:Prop} [Decidable r] (h:ak s.m id≠none) (hr:¬r):eT s id r=(s,1):=by
 unfold eT
 split
 · rename_i h2;exact absurd h2 h
 · rw [if_pos hr]
theorem CI {r:Prop} [Decidable r] (h:ak s.m id≠none) (hr:r):((tP s).2=true→eT s id r=((tP s).1,0))∧(¬(tP s).2=true→eT s id r=((tP s).1,9)):=by
 unfold eT
 split
 · rename_i h2;exact absurd h2 h
 · rw [if_neg (fun hn=>hn hr)]
   cases ho:tP s with
   |mk s1 b=>cases b<;>simp
def Bz (s:jT) (id:Int):jT×List UInt8×Nat:=match eT s id True with
 |(s1,0)=>(s1,(ak s.m id).getD [],0)
 |(s1,e)=>(s1,[],e)
def kR (s:jT) (id:Int) (ys:List UInt8):jT×Nat:=match eT s id (ys.length=s.size) with
 |(s1,0)=>({s1 with m:=gD s1.m id ys},0)
 |(s1,e)=>(s1,e)
def tn (s:jT) (id:Int):jT×Nat:=match eT s id True with
 |(s1,0)=>({s1 with m:=jd s1.m id},0)
 |(s1,e)=>(s1,e)
def zq (s:jT) (g:jT×Int×Nat):Prop:=
 ((tP s).2=false∧g=((tP s).1,0,9))∨((tP s).2=true∧(s.m.length:Int)=s.cap∧g=((tP s).1,0,8))∨
 ((tP s).2=true∧(s.m.length:Int)≠s.cap∧∃id:Nat,id≤s.m.length∧ak s.m (id:Int)=none∧g=({(tP s).1 with m:=s.m++[((id:Int),List.replicate s.size 0)],zn:=max s.zn ((s.m.length:Int)+1)},(id:Int),0))
theorem Lg (h:(eT s id True).2≠0):Bz s id=((eT s id True).1,[],(eT s id True).2):=by
 unfold Bz
 split
 · rename_i h2;rw [h2] at h;exact absurd rfl h
 · rename_i h2;rw [h2]
theorem EG (h:(eT s id True).2=0) (hl:ak s.m id=some l):Bz s id=((eT s id True).1,l,0):=by
 cases hu:eT s id True with
 |mk s1 e=>rw [hu] at h;simp only at h;subst h;simp [Bz,hu,hl]
theorem HD {ys:List UInt8} (h:(eT s id (ys.length=s.size)).2≠0):kR s id ys=((eT s id (ys.length=s.size)).1,(eT s id (ys.length=s.size)).2):=by
 unfold kR
 split
 · rename_i h2;rw [h2] at h;exact absurd rfl h
 · rename_i h2;rw [h2]
theorem BA {ys:List UInt8} (h:(eT s id (ys.length=s.size)).2=0):kR s id ys=({(eT s id (ys.length=s.size)).1 with m:=gD s.m id ys},0):=by
 have hm:=(zp s id (ys.length=s.size)).1
 cases hu:eT s id (ys.length=s.size) with
 |mk s1 e=>rw [hu] at h hm;simp only at h hm;subst h;simp [kR,hu,hm]
theorem Lh (h:(eT s id True).2≠0):tn s id=((eT s id True).1,(eT s id True).2):=by
 unfold tn
 split
 · rename_i h2;rw [h2] at h;exact absurd rfl h
 · rename_i h2;rw [h2]
theorem EH (h:(eT s id True).2=0):tn s id=({(eT s id True).1 with m:=jd s.m id},0):=by
 have hm:=(zp s id True).1
 cases hu:eT s id True with
 |mk s1 e=>rw [hu] at h hm;simp only at h hm;subst h;simp [tn,hu,hm]
theorem CJ {x:HP} (hm:s.m=jd (oy E) id) (hz:sz=s.size):
    aB (j5 sb mb s::jL mb (Value.int .i64) (fun b=>jM b 0 sz) (fG (E.map fun e=>(e.1,e.2.1)) id)::x::j4 (fW (jd E id))::r) (dB sb s::r):=by
  have e:jL mb (Value.int .i64) (fun b=>jM b 0 sz) (fG (E.map fun e=>(e.1,e.2.1)) id)=iH mb sz (jd E id):=by
    unfold iH
    rw [EE,CD (fun x:Nat×List UInt8=>x.1)]
  rw [e]
  refine aB.trans (aB.cons _ (aB.cons _ (aB.drop (aB.refl _)))) (eU ?_ hz)
  rw [hm]
  exact CD (fun x:Nat×List UInt8=>x.2) id E
theorem N8 (s:jT):∃k f,(tP s).1={s with ops:=k,failed:=f}:=by
 unfold tP;dsimp only;split
 · exact ⟨_,_,rfl⟩
 · exact ⟨_,s.failed,rfl⟩
theorem Li {m:List (Int×α)} (h:∀j:Nat,j<k→ak m (j:Int)≠none):k≤m.length:=by
 have h1:((List.range k).map fun j:Nat=>(j:Int)).Nodup:=by
  have h2:=List.nodup_range (n:=k)
  unfold List.Nodup at h2 ⊢
  rw [List.pairwise_map]
  exact h2.imp fun hab e=>hab (by omega)
 have h3:=CE (m:=m.map (·.1)) h1 fun x hx=>by
  obtain ⟨j,hj,rfl⟩:=List.mem_map.1 hx
  have h4:=h j (List.mem_range.1 hj)
  unfold ak at h4
  cases hf:m.find? fun p=>decide (p.1=(j:Int)) with
  |none=>rw [hf] at h4;exact absurd rfl h4
  |some p=>
   have h5:=List.find?_some hf
   exact List.mem_map.2 ⟨p,List.mem_of_find?_eq_some hf,by simpa using h5⟩
 simpa using h3
abbrev iV (n:Int):VP:=ag .i64 n
def Wq (b:Bool):List VP:=[aq (b=true)]
instance:hU 1 Wq:=⟨fun _=>rfl,fun x q h=>by simp only [Wq,List.mem_cons,List.not_mem_nil,or_false] at h;subst h;infer_instance⟩
def jA:VP:=⟨fun _ _ _=>True,fun _ _ _=>trivial⟩
theorem af.any {q:VP}:af q jA:=fun _ _ _ _=>trivial
open Classical in
noncomputable def ki (p:Prop) (e:Int):Int:=if p then e else 0
theorem cF {p:Prop} {e:Int} (he:e≠0):ki p e=0↔¬p:=by unfold ki;split<;>simp_all
def gR (g:Nat→Int):Nat→Int
 |0=>0
 |n+1=>if gR g n≠0 then gR g n else g n
theorem l9 {g:Nat→Int}:∀{n:Nat},gR g n=0↔∀i,i<n→g i=0
 |0=>by simp [gR]
 |n+1=>by
  simp only [gR]
  split
  · rename_i h
    constructor
    · intro h';exact absurd h' h
    · intro h';exact absurd (l9.2 fun i hi=>h' i (by omega)) h
  · rename_i h
    have h0:gR g n=0:=by simpa using h
    constructor
    · intro h' i hi
      by_cases e:i=n
      · subst e;exact h'
      · exact l9.1 h0 i (by omega)
    · intro h';exact h' n (by omega)
theorem Lj {g:Nat→Int} {n:Nat} (h0:gR g k=0) (hk:g k≠0) (hn:k<n):gR g n=g k:=by
 induction n with
 |zero=>omega
 |succ n ih=>
  by_cases e:k=n
  · subst e;simp [gR,h0]
  · have:=ih (by omega)
    simp [gR,this,hk]
def oA (xs:List α) (f:α→Int) (i:Nat):Int:=match xs[i]? with|some x=>f x|none=>0
theorem kS {xs:List α} {f:α→Int} {i:Nat} {x:α} (h:xs[i]?=some x):oA xs f i=f x:=by simp [oA,h]
theorem eX {xs:List α} {f:α→Int}:gR (oA xs f) xs.length=0↔∀x∈xs,f x=0:=by
 rw [l9]
 constructor
 · intro h x hx
   obtain ⟨i,hi⟩:=List.mem_iff_getElem?.1 hx
   have:=h i (List.getElem?_eq_some_iff.1 hi).1
   rwa [kS hi] at this
 · intro h i hi
   obtain ⟨x,hx⟩:=ah hi
   rw [kS hx];exact h x (List.mem_of_getElem? hx)
open Classical in
noncomputable def nC {α:Type} (p:α→Prop):List α→Int
 |[]=> -1
 |x::l=>if p x then 0 else if nC p l<0 then-1 else nC p l+1
theorem J3 {α:Type} (p:α→Prop):∀l:List α,-1≤nC p l
 |[]=>by simp [nC]
 |x::l=>by unfold nC;have:=J3 p l;split<;>(try split)<;>omega
theorem je {α:Type} {p:α→Prop}:∀{l:List α},0≤nC p l↔∃x∈l,p x
 |[]=>by simp [nC]
 | x ::l=>by
  unfold nC
  have ih:=je (p:=p) (l:=l)
  split
  · rename_i h;simp [h]
  · rename_i h
    split
    · rename_i h2
      simp only [List.mem_cons,exists_eq_or_imp,h,false_or]
      rw [←ih];omega
    · rename_i h2
      simp only [List.mem_cons,exists_eq_or_imp,h,false_or]
      rw [←ih];omega
theorem nh {p:α→Prop} {l:List α} (h:∀x∈l,¬p x):nC p l= -1:=by
 have h1:=J3 p l
 have h2:¬0≤nC p l:=fun h'=>by obtain ⟨x,hx,hp⟩:=je.1 h';exact h x hx hp
 omega
theorem qu {α:Type} {p:α→Prop}:∀{l:List α} {k:Nat} {x:α},l[k]?=some x→p x→(∀j y,j<k→l[j]?=some y→¬p y)→nC p l=k
 |[],_,_,h,_,_=>by simp at h
 |y::l,0,x,h,hp,_=>by simp at h;subst h;simp [nC,hp]
 |y::l,k+1,x,h,hp,hn=>by
  have h1:=qu (l:=l) (k:=k) (x:=x) (by simpa using h) hp (fun j z hj hz=>hn (j+1) z (by omega) (by simpa using hz))
  have h2:=hn 0 y (by omega) rfl
  unfold nC
  rw [if_neg h2,h1,if_neg (by omega)];omega
def cN (p:α→Prop) (l:List α) (k:Nat):Prop:=∀j y,j<k→l[j]?=some y→¬p y
theorem cN.zero (p:α→Prop) (l:List α):cN p l 0:=fun j y h=>by omega
theorem cN.succ {p:α→Prop} {l:List α} {x:α} (h:cN p l k) (hx:l[k]?=some x) (hp:¬p x):cN p l (k+1):=fun j y hj hy=>by
 by_cases e:j=k
 · subst e;rw [hx] at hy;cases hy;exact hp
 · exact h j y (by omega) hy
theorem cN.all {p:α→Prop} {l:List α} (h:cN p l k) (hk:l.length≤k):∀x∈l,¬p x:=fun x hx=>by
 obtain ⟨j,hj⟩:=List.mem_iff_getElem?.1 hx
 exact h j x (by have:=(List.getElem?_eq_some_iff.1 hj).1;omega) hj
theorem QO {cs:List VP} {j:Nat} {q:VP} (h:cs[j]?=some q):af (cr (cs.drop (j*1))) (cr [q]):=fun S w v ⟨b,off,hv,hb,hc⟩=>⟨b,off,hv,hb,fun t p ht=>by
 cases t with
 |zero=>simp at ht;subst ht;exact hc 0 q (by rw [Nat.mul_one,List.getElem?_drop];simpa using h)
 |succ t=>simp at ht⟩
structure Fr where
 at_:Nat
 k:bA
 used:Bool
 seen:Bool
 dy:Bool
def q6 (f:Fr):List VP:=[aS (f.at_:Int),aS f.k.1,aS f.k.2,aq (BP f.used),aq (BP f.seen),aq (BP f.dy)]
instance:hU 6 q6:=⟨fun _=>rfl,fun x q h=>by simp only [q6,List.mem_cons,List.not_mem_nil,or_false] at h;rcases h with h|h|h|h|h|h<;>subst h<;>infer_instance⟩
structure tq where
 (pb sb fb cap m1 m2 n lo hi:Nat)
 Y:oT
structure jP where
 l:List Fr
 hand:Nat
 nY:List (bA×Int)
 bm:List (bA×Int)
 fault:Nat
 closed:Bool
def fU (X:tq) (p:jP):HP:=az X.pb [aI X.Y.ab 0,aI X.sb 0,aa (bq (some (X.fb,X.cap)) X.n),aS (p.hand:Int),aa (.map (some X.m1)),aa (.map (some X.m2)),aS (p.fault:Int),aq (BP p.closed)]
def nD (X:tq) (p:jP):HP:=au (some (X.fb,X.cap)) 6 q6 p.l
def HE (X:tq) (p:jP):HP:=jL X.m1 xF aS p.nY
def qv (X:tq) (p:jP):HP:=jL X.m2 xF aS p.bm
def zu (p:jP):Prop:=p.closed=true∨p.fault≠0
instance (p:jP):Decidable (zu p):=inferInstanceAs (Decidable (_∨_))
def dH (l:List UInt8):Prop:=∀x∈l,x=0
def tQ (p:jP) (size:Nat) (k:bA) (at_ n:Int):Nat:=if zu p then 12 else if k.1<0∨k.2<0 then 1 else if at_<0∨n<0∨(size:Int)<at_∨(size:Int)-at_<n then 2 else 0
def j6 (p:jP) (s:jT) (k:bA):jP×jT×Nat:=match ak p.bm k with
 |none=>(p,s,0)
 |some id=>({p with bm:=fG p.bm k},(tn s id).1,(tn s id).2)
def HF (p:jP) (k:bA):Prop:=(ak p.nY k).isSome=true∨(ak p.bm k).isSome=true
structure N9 (X:tq) (p:jP) (a:dX) (s:jT):Prop where
 n:p.l.length=X.n
 pos:0<X.n
 most:X.n≤64
 hand:p.hand<X.n
 room:∀f∈p.l,(X.lo≤f.at_∧f.at_+s.size≤X.hi)∧f.at_+s.size≤X.Y.size
 ar:dm X.Y a
 st:qt s
theorem aB.xJ {a b:HP} (h:a=b):aB (a::r) (b::r):=h▸aB.refl _
variable {X:tq} {p:jP}
theorem Ll {q:jP} (h:p.l=q.l):nD X p=nD X q:=by unfold nD;rw [h]
theorem Oa (p:jP) (s:jT) (k:bA):(j6 p s k).1.l=p.l:=by unfold j6;split<;>rfl
def jP.CK (p:jP) (i:Nat) (f:Fr):jP:={p with l:=p.l.set i f}
inductive zw (p:jP) (a:dX) (s:jT) (i:Nat) (fr:Fr):jP×jT×Nat→Prop
 |clean (h:¬(fr.used=true∧fr.dy=true)):zw p a s i fr (p,s,0)
 |zero (h:fr.used=true∧fr.dy=true) (hz:dH (a.get fr.at_ s.size)):zw p a s i fr (j6 (p.CK i {fr with dy:=false}) s fr.k)
 |has (h:fr.used=true∧fr.dy=true) (hz:¬dH (a.get fr.at_ s.size)) (id:Int) (hid:ak p.bm fr.k=some id):zw p a s i fr (p.CK i {fr with dy:=false},(kR s id (a.get fr.at_ s.size)).1,(kR s id (a.get fr.at_ s.size)).2)
 |full (h:fr.used=true∧fr.dy=true) (hz:¬dH (a.get fr.at_ s.size)) (hid:ak p.bm fr.k=none) (ga:jT×Int×Nat) (Vh:zq s ga) (he:ga.2.2≠0):zw p a s i fr (p,ga.1,ga.2.2)
 |new (h:fr.used=true∧fr.dy=true) (hz:¬dH (a.get fr.at_ s.size)) (hid:ak p.bm fr.k=none) (ga:jT×Int×Nat) (Vh:zq s ga) (he:ga.2.2=0):zw p a s i fr ({p with l:=p.l.set i {fr with dy:=false},bm:=fF p.bm fr.k ga.2.1},(kR ga.1 ga.2.1 (a.get fr.at_ s.size)).1,(kR ga.1 ga.2.1 (a.get fr.at_ s.size)).2)
theorem AV {m:List (Int×α)} {k:Int} (h:ak m k=none):k∉m.map (fun e=>e.1):=by
 intro hk
 obtain ⟨e,he,NX⟩:=List.mem_map.1 hk
 unfold ak at h
 cases hf:m.find? fun p=>decide (p.1=k) with
 |none=>have:=List.find?_eq_none.1 hf e he;simp [NX] at this
 |some p=>rw [hf] at h;cases h
theorem qt.op (h:qt s) {s':jT} (hm:s'.m=s.m) (hz:s'.size=s.size) (hc:s'.cap=s.cap):qt s':=
 ⟨hz▸h.size,hc▸h.cap,by rw [hm,hz];exact h.len,by rw [hm];exact h.keys,by rw [hm,hc];exact h.many,by rw [hm];exact h.nodup⟩
theorem qt.alloc (h:qt s) {g:jT×Int×Nat} (hg:zq s g):qt g.1∧g.1.size=s.size:=by
 have ho:=N7 s
 rcases hg with ⟨_,rfl⟩|⟨_,_,rfl⟩|⟨_,hne,id,hid,hno,rfl⟩
 · exact ⟨h.op ho.1 ho.2.1 ho.2.2.1,ho.2.1⟩
 · exact ⟨h.op ho.1 ho.2.1 ho.2.2.1,ho.2.1⟩
 · have h1:=h.many
   have h2:=h.cap
   refine ⟨⟨?_, ?_, ?_, ?_, ?_, ?_⟩,ho.2.1⟩
   · show (tP s).1.size≤1024;rw [ho.2.1];exact h.size
   · show (tP s).1.cap≤4096;rw [ho.2.2.1];exact h.cap
   · intro e he
     show e.2.length=(tP s).1.size
     rw [ho.2.1]
     rcases List.mem_append.1 he with h3|h3
     · exact h.len e h3
     · simp at h3;subst h3;simp
   · intro e he
     rcases List.mem_append.1 he with h3|h3
     · exact h.keys e h3
     · simp at h3;subst h3;exact ⟨by simp,by show (id:Int)<4096;omega⟩
   · show ((s.m++[((id:Int),List.replicate s.size 0)]).length:Int)≤(tP s).1.cap
     rw [ho.2.2.1];simp;omega
   · show (List.map (fun e:Int×List UInt8=>e.1) (s.m++[((id:Int),List.replicate s.size 0)])).Nodup
     rw [List.map_append,List.nodup_append]
     refine ⟨h.nodup,by simp,fun a ha b hb e=> ?_⟩
     simp at hb
     subst e;subst hb
     exact AV hno ha
def fo (l:List UInt8) (c:UInt8):Nat→List UInt8
 |0=>[]
 |k+1=>if l.getD k 0=c then fo l c k else l.take (k+1)
theorem zx {l:List UInt8} {c:UInt8}:∀{k:Nat},k≤l.length→(fo l c k=[]↔∀j,j<k→l.getD j 0=c)
 |0,_=>by simp [fo]
 |k+1,hk=>by
  unfold fo
  by_cases h:l.getD k 0=c
  · rw [if_pos h,zx (by omega)]
    constructor
    · intro h2 j hj
      rcases Nat.lt_or_ge j k with h3|h3
      · exact h2 j h3
      · rw [show j=k by omega];exact h
    · intro h2 j hj;exact h2 j (by omega)
  · rw [if_neg h]
    constructor
    · intro h2
      have h3:(l.take (k+1)).length=0:=by rw [h2];rfl
      rw [List.length_take] at h3
      omega
    · intro h2;exact absurd (h2 k (by omega)) h
def q7 (l:List UInt8) (c:UInt8):List UInt8:=l.dropWhile fun b=>decide (b=c)
theorem Lm {c:UInt8}:q7 l c=[]↔∀b∈l,b=c:=by
 unfold q7
 induction l with
 |nil=>simp
 |cons x l ih=>
  rw [List.dropWhile_cons]
  by_cases h:x=c
  · rw [if_pos (by simpa using h),ih];simp [h]
  · rw [if_neg (by simpa using h)];simp [h]
theorem Lo {c:UInt8}:fo l c l.length=[]↔∀b∈l,b=c:=by
 rw [zx (Nat.le_refl _)]
 constructor
 · intro h b hb
   obtain ⟨j,hj,rfl⟩:=List.mem_iff_getElem.1 hb
   have:=h j hj
   simpa [List.getD_eq_getElem?_getD,hj] using this
 · intro h j hj
   have:=h (l[j]) (List.getElem_mem hj)
   simpa [List.getD_eq_getElem?_getD,hj] using this
theorem zy {l:List UInt8} {c:UInt8}:∀{k:Nat},∀b,b∈fo l c k→b∈l
 |0,b,h=>by simp [fo] at h
 |k+1,b,h=>by
  unfold fo at h
  split at h
  · exact zy b h
  · exact List.mem_of_mem_take h
theorem Lp:q7 (fo l 0 l.length) 0=[]↔dH l:=by
 rw [Lm]
 constructor
 · intro h
   by_cases hn:fo l 0 l.length=[]
   · exact Lo.1 hn
   · exfalso
     have key:∀k,k≤l.length→fo l 0 k≠[]→∃b∈fo l 0 k,b≠0:=by
      intro k
      induction k with
      |zero=>intro _ h;exact absurd rfl h
      |succ k ih=>
       intro hk hne
       unfold fo at hne ⊢
       by_cases hc:l.getD k 0=0
       · rw [if_pos hc] at hne ⊢;exact ih (by omega) hne
       · rw [if_neg hc]
         refine ⟨l.getD k 0, ?_,hc⟩
         have Hi:k<l.length:=by omega
         rw [List.mem_iff_getElem?]
         exact ⟨k,by rw [List.getElem?_take,if_pos (by omega)];simp [List.getD_eq_getElem?_getD,Hi]⟩
     obtain ⟨b,hb,hb0⟩:=key _ (Nat.le_refl _) hn
     exact hb0 (h b hb)
 · intro h b hb
   exact h b (zy b hb)
theorem J4 {α:Type} (p:α→Prop):∀l:List α,nC p l<l.length
 |[]=>by simp [nC]
 |x::l=>by unfold nC;have:=J4 p l;simp only [List.length_cons];split<;>(try split)<;>omega
def tR (f:Fr):Fr:={f with seen:=false}
structure wv (X:tq) (p p1:jP):Prop where
 l:p1.l.map tR=p.l.map tR
 len:p1.l.length=X.n
 hand:p1.hand<X.n
 rest:p1={p with l:=p1.l,hand:=p1.hand}
theorem wv.refl (h:N9 X p a s):wv X p p:=⟨rfl,h.n,h.hand,rfl⟩
theorem wv.next {p1:jP} (h:wv X p p1) (h0:0<X.n):wv X p {p1 with hand:=(p1.hand+1)%X.n}:=
 ⟨h.l,h.len,Nat.mod_lt _ h0,by have:=h.rest;rw [this]⟩
theorem wv.step {p1:jP} {x:Fr} (h:wv X p p1) (hx:p1.l[p1.hand]?=some x) (h0:0<X.n):wv X p {p1 with l:=p1.l.set p1.hand {x with seen:=false},hand:=(p1.hand+1)%X.n}:=
 ⟨by
  show (p1.l.set p1.hand {x with seen:=false}).map tR=p.l.map tR
  rw [←h.l,List.map_set]
  apply List.ext_getElem?
  intro j
  rw [List.getElem?_set]
  by_cases hj:p1.hand=j
  · subst hj
    have hl:=(List.getElem?_eq_some_iff.1 hx).1
    rw [if_pos rfl,if_pos (by simpa using hl),List.getElem?_map,hx];rfl
  · rw [if_neg hj],by simpa using h.len,Nat.mod_lt _ h0,by have:=h.rest;rw [this]⟩
theorem BB:∀{l:List Fr} {k:Nat} {x:Fr},l[k]?=some x→x.seen=true→((l.set k {x with seen:=false}).filter (·.seen)).length<(l.filter (·.seen)).length
 |[],_,_,h,_=>by simp at h
 |f::l,0,x,h,hs=>by
  simp at h;subst h
  simp [hs]
 |f::l,k+1,x,h,hs=>by
  have:=BB (l:=l) (k:=k) (x:=x) (by simpa using h) hs
  rw [List.set_cons_succ]
  cases hf:f.seen<;>simp [hf]<;>omega
end Go.Hl
end
