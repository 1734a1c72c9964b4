/-
  What the statement's proof leans on, several texts in one (packed by a program).
-/
import Derived.Test.YtpfobikpggmleaaGreatDoorSBI
import Derived.Test.YtpfobikpggmleaaGreatDoorChecked
set_option linter.all false
set_option maxRecDepth 1000000
set_option maxHeartbeats 4000000
section
namespace Go.Proofs
open Go.Hl
instance:FB Tryz.prog 7:={}
instance:FB Tryz.prog 8:={}
instance:FB Tryz.prog 9:={}
instance:FB Tryz.prog 10:={}
instance:FB Tryz.prog 11:={}
instance:FB Tryz.prog 12:={}
instance:FB Tryz.prog 13:={}
instance:FB Tryz.prog 14:={}
instance:FB Tryz.prog 15:={}
instance:FB Tryz.prog 16:={}
instance:FB Tryz.prog 18:={}
instance:FB Tryz.prog 21:={}
instance:FB Tryz.prog 22:={}
instance:FB Tryz.prog 23:={}
instance:FB Tryz.prog 25:={}
instance:FB Tryz.prog 26:={}
instance:FB Tryz.prog 27:={}
instance:FB Tryz.prog 28:={}
instance:FB Tryz.prog 29:={}
instance:FB Tryz.prog 30:={}
instance:FB Tryz.prog 31:={}
instance:FB Tryz.prog 32:={}
instance:FB Tryz.prog 33:={}
instance:FB Tryz.prog 34:={}
instance:FB Tryz.prog 35:={}
instance:FB Tryz.prog 36:={}
instance:FB Tryz.prog 37:={}
instance:FB Tryz.prog 38:={}
instance:FB Tryz.prog 39:={}
instance:FB Tryz.prog 40:={}
instance:FB Tryz.prog 41:={}
instance:FB Tryz.prog 42:={}
instance:FB Tryz.prog 44:={}
instance:FB Tryz.prog 45:={}
instance:FB Tryz.prog 46:={}
instance:FB Tryz.prog 47:={}
instance:FB Tryz.prog 48:={}
instance:FB Tryz.prog 49:={}
instance:FB Tryz.prog 50:={}
instance:FB Tryz.prog 51:={}
instance:FB Tryz.prog 52:={}
instance:FB Tryz.prog 53:={}
instance:FB Tryz.prog 54:={}
instance:FB Tryz.prog 55:={}
instance:FB Tryz.prog 56:={}
instance:FB Tryz.prog 57:={}
instance:FB Tryz.prog 58:={}
instance:FB Tryz.prog 59:={}
instance:FB Tryz.prog 60:={}
instance:FB Tryz.prog 61:={}
instance:FB Tryz.prog 62:={}
instance:FB Tryz.prog 63:={}
instance:FB Tryz.prog 64:={}
instance:FB Tryz.prog 65:={}
instance:FB Tryz.prog 66:={}
instance:FB Tryz.prog 67:={}
instance:FB Tryz.prog 68:={}
instance:FB Tryz.prog 69:={}
instance:FB Tryz.prog 70:={}
instance:FB Tryz.prog 71:={}
instance:FB Tryz.prog 72:={}
instance:FB Tryz.prog 73:={}
instance:FB Tryz.prog 74:={}
instance:FB Tryz.prog 75:={}
instance:FB Tryz.prog 76:={}
instance:FB Tryz.prog 77:={}
instance:FB Tryz.prog 78:={}
instance:FB Tryz.prog 79:={}
instance:FB Tryz.prog 80:={}
instance:FB Tryz.prog 81:={}
instance:FB Tryz.prog 82:={}
instance:FB Tryz.prog 83:={}
instance:FB Tryz.prog 84:={}
instance:FB Tryz.prog 85:={}
instance:FB Tryz.prog 86:={}
instance:FB Tryz.prog 87:={}
instance:FB Tryz.prog 88:={}
instance:FB Tryz.prog 89:={}
instance:FB Tryz.prog 91:={}
instance:FB Tryz.prog 92:={}
instance:FB Tryz.prog 93:={}
instance:FB Tryz.prog 94:={}
instance:FB Tryz.prog 95:={}
instance:FB Tryz.prog 96:={}
instance:FB Tryz.prog 97:={}
instance:FB Tryz.prog 98:={}
instance:FB Tryz.prog 99:={}
instance:FB Tryz.prog 100:={}
instance:FB Tryz.prog 101:={}
instance:FB Tryz.prog 102:={}
instance:FB Tryz.prog 103:={}
instance:FB Tryz.prog 105:={}
instance:FB Tryz.prog 106:={}
instance:FB Tryz.prog 107:={}
instance:FB Tryz.prog 108:={}
instance:FB Tryz.prog 109:={}
instance:FB Tryz.prog 110:={}
instance:FB Tryz.prog 111:={}
instance:FB Tryz.prog 112:={}
instance:FB Tryz.prog 113:={}
instance:FB Tryz.prog 114:={}
instance:FB Tryz.prog 116:={}
instance:FB Tryz.prog 117:={}
instance:FB Tryz.prog 118:={}
instance:FB Tryz.prog 119:={}
instance:FB Tryz.prog 120:={}
instance:FB Tryz.prog 121:={}
instance:FB Tryz.prog 122:={}
instance:FB Tryz.prog 123:={}
instance:FB Tryz.prog 124:={}
instance:FB Tryz.prog 125:={}
instance:FB Tryz.prog 127:={}
instance:FB Tryz.prog 128:={}
instance:FB Tryz.prog 129:={}
instance:FB Tryz.prog 130:={}
instance:FB Tryz.prog 131:={}
instance:FB Tryz.prog 132:={}
instance:FB Tryz.prog 133:={}
instance:FB Tryz.prog 134:={}
instance:FB Tryz.prog 135:={}
instance:FB Tryz.prog 136:={}
instance:FB Tryz.prog 137:={}
instance:FB Tryz.prog 138:={}
instance:FB Tryz.prog 139:={}
instance:FB Tryz.prog 140:={}
instance:FB Tryz.prog 141:={}
instance:FB Tryz.prog 142:={}
instance:FB Tryz.prog 143:={}
instance:FB Tryz.prog 144:={}
instance:FB Tryz.prog 145:={}
instance:FB Tryz.prog 146:={}
instance:FB Tryz.prog 147:={}
instance:FB Tryz.prog 148:={}
instance:FB Tryz.prog 149:={}
instance:FB Tryz.prog 150:={}
instance:FB Tryz.prog 151:={}
instance:FB Tryz.prog 152:={}
instance:FB Tryz.prog 153:={}
instance:FB Tryz.prog 154:={}
instance:FB Tryz.prog 155:={}
instance:FB Tryz.prog 156:={}
instance:FB Tryz.prog 157:={}
instance:FB Tryz.prog 158:={}
instance:FB Tryz.prog 159:={}
instance:FB Tryz.prog 160:={}
instance:FB Tryz.prog 161:={}
instance:FB Tryz.prog 162:={}
instance:FB Tryz.prog 163:={}
instance:FB Tryz.prog 169:={}
instance:FB Tryz.prog 170:={}
instance:FB Tryz.prog 171:={}
instance:FB Tryz.prog 172:={}
instance:FB Tryz.prog 173:={}
instance:FB Tryz.prog 174:={}
instance:FB Tryz.prog 175:={}
instance:FB Tryz.prog 176:={}
instance:FB Tryz.prog 185:={}
instance:FB Tryz.prog 186:={}
instance:FB Tryz.prog 187:={}
instance:FB Tryz.prog 188:={}
instance:FB Tryz.prog 189:={}
instance:FB Tryz.prog 190:={}
instance:FB Tryz.prog 191:={}
instance:FB Tryz.prog 192:={}
instance:FB Tryz.prog 193:={}
instance:FB Tryz.prog 194:={}
instance:FB Tryz.prog 195:={}
instance:FB Tryz.prog 196:={}
instance:FB Tryz.prog 197:={}
instance:FB Tryz.prog 198:={}
instance:FB Tryz.prog 199:={}
instance:FB Tryz.prog 200:={}
instance:FB Tryz.prog 201:={}
instance:FB Tryz.prog 202:={}
instance:FB Tryz.prog 203:={}
instance:FB Tryz.prog 204:={}
instance:FB Tryz.prog 205:={}
instance:FB Tryz.prog 206:={}
instance:FB Tryz.prog 207:={}
instance:FB Tryz.prog 208:={}
instance:FB Tryz.prog 209:={}
instance:FB Tryz.prog 210:={}
instance:FB Tryz.prog 211:={}
instance:FB Tryz.prog 221:={}
instance:FB Tryz.prog 222:={}
instance:FB Tryz.prog 223:={}
instance:FB Tryz.prog 224:={}
instance:FB Tryz.prog 225:={}
instance:FB Tryz.prog 226:={}
instance:FB Tryz.prog 227:={}
instance:FB Tryz.prog 228:={}
instance:FB Tryz.prog 229:={}
instance:FB Tryz.prog 230:={}
instance:FB Tryz.prog 231:={}
instance:FB Tryz.prog 232:={}
instance:FB Tryz.prog 233:={}
instance:FB Tryz.prog 238:={}
instance:FB Tryz.prog 239:={}
instance:FB Tryz.prog 240:={}
instance:FB Tryz.prog 241:={}
instance:FB Tryz.prog 242:={}
instance:FB Tryz.prog 243:={}
instance:FB Tryz.prog 244:={}
instance:FB Tryz.prog 245:={}
instance:FB Tryz.prog 246:={}
instance:FB Tryz.prog 247:={}
instance:FB Tryz.prog 248:={}
instance:FB Tryz.prog 249:={}
instance:FB Tryz.prog 250:={}
instance:FB Tryz.prog 251:={}
instance:FB Tryz.prog 252:={}
instance:FB Tryz.prog 253:={}
instance:FB Tryz.prog 254:={}
instance:FB Tryz.prog 255:={}
instance:FB Tryz.prog 256:={}
instance:FB Tryz.prog 257:={}
instance:FB Tryz.prog 258:={}
instance:FB Tryz.prog 259:={}
instance:FB Tryz.prog 260:={}
instance:FB Tryz.prog 261:={}
instance:FB Tryz.prog 262:={}
instance:FB Tryz.prog 263:={}
instance:FB Tryz.prog 264:={}
instance:FB Tryz.prog 265:={}
instance:FB Tryz.prog 266:={}
instance:FB Tryz.prog 267:={}
instance:FB Tryz.prog 268:={}
instance:FB Tryz.prog 269:={}
instance:FB Tryz.prog 270:={}
instance:FB Tryz.prog 271:={}
instance:FB Tryz.prog 272:={}
instance:FB Tryz.prog 273:={}
instance:FB Tryz.prog 274:={}
instance:FB Tryz.prog 275:={}
instance:FB Tryz.prog 276:={}
instance:FB Tryz.prog 277:={}
instance:FB Tryz.prog 278:={}
instance:FB Tryz.prog 279:={}
instance:FB Tryz.prog 280:={}
instance:FB Tryz.prog 281:={}
instance:FB Tryz.prog 282:={}
instance:FB Tryz.prog 283:={}
instance:FB Tryz.prog 284:={}
instance:FB Tryz.prog 285:={}
instance:FB Tryz.prog 286:={}
instance:FB Tryz.prog 287:={}
instance:FB Tryz.prog 288:={}
instance:FB Tryz.prog 289:={}
instance:FB Tryz.prog 290:={}
instance:FB Tryz.prog 291:={}
instance:FB Tryz.prog 292:={}
instance:FB Tryz.prog 293:={}
instance:FB Tryz.prog 294:={}
instance:FB Tryz.prog 295:={}
instance:FB Tryz.prog 296:={}
instance:FB Tryz.prog 297:={}
instance:FB Tryz.prog 298:={}
instance:FB Tryz.prog 299:={}
instance:FB Tryz.prog 300:={}
instance:FB Tryz.prog 301:={}
instance:FB Tryz.prog 302:={}
instance:FB Tryz.prog 303:={}
instance:FB Tryz.prog 304:={}
instance:FB Tryz.prog 305:={}
instance:FB Tryz.prog 306:={}
instance:FB Tryz.prog 307:={}
instance:FB Tryz.prog 308:={}
instance:FB Tryz.prog 309:={}
instance:FB Tryz.prog 310:={}
instance:FB Tryz.prog 311:={}
instance:FB Tryz.prog 312:={}
theorem Tryz.WZ:WO Tryz.prog 316 Extern.BytealgIndexByte.indexByte:=fun args w=>Go.run_callFunc_extern Tryz.func316 (by kernel_rfl) (by kernel_rfl) (by kernel_rfl) (by kernel_rfl) args w
instance:FU Tryz.prog 2 (.int .i64):=⟨Tryz.underlying2⟩
instance Tryz.ag3:FA Tryz.prog 3 false:={}
instance Tryz.NT:FC Tryz.prog 3 1:={}
instance:FU Tryz.prog 3 (.int .i64):=⟨Tryz.underlying3⟩
instance:FY Tryz.prog 3 8:={}
instance:FZ Tryz.prog 3 [.int .i64 0]:={}
instance:FA Tryz.prog 4 false:={}
instance Tryz.cz4:FC Tryz.prog 4 1:={}
instance:FU Tryz.prog 4 .bool:=⟨Tryz.underlying4⟩
instance:FY Tryz.prog 4 1:={}
instance:FZ Tryz.prog 4 [.bool false]:={}
instance:FA Tryz.prog 5 false:={}
instance Tryz.Y0:FC Tryz.prog 5 1:={}
instance:FU Tryz.prog 5 (.int .u8):=⟨Tryz.underlying5⟩
instance:FY Tryz.prog 5 1:={}
instance:FZ Tryz.prog 5 [.int .u8 0]:={}
instance:FA Tryz.prog 9 false:={}
instance Tryz.cz9:FC Tryz.prog 9 1:={}
instance:FU Tryz.prog 9 .string:=⟨Tryz.underlying9⟩
instance:FZ Tryz.prog 9 [.string ⟨#[]⟩]:={}
instance:FU Tryz.prog 21 (.int .i32):=⟨Tryz.underlying21⟩
instance:FA Tryz.prog 22 false:={}
instance Tryz.ak0:FC Tryz.prog 22 1:={}
instance:FU Tryz.prog 22 (.slice 98):=⟨Tryz.underlying22⟩
instance:FA Tryz.prog 23 false:={}
instance Tryz.ak1:FC Tryz.prog 23 1:={}
instance:FU Tryz.prog 23 (.slice 185):=⟨Tryz.underlying23⟩
instance:FA Tryz.prog 24 false:={}
instance Tryz.ak2:FC Tryz.prog 24 1:={}
instance:FU Tryz.prog 24 (.slice 105):=⟨Tryz.underlying24⟩
instance:FA Tryz.prog 25 false:={}
instance Tryz.ak3:FC Tryz.prog 25 1:={}
instance:FU Tryz.prog 25 (.slice 141):=⟨Tryz.underlying25⟩
instance:FA Tryz.prog 26 false:={}
instance Tryz.ak4:FC Tryz.prog 26 1:={}
instance:FU Tryz.prog 26 (.slice 81):=⟨Tryz.underlying26⟩
instance:FA Tryz.prog 27 false:={}
instance Tryz.ak5:FC Tryz.prog 27 1:={}
instance:FU Tryz.prog 27 (.slice 190):=⟨Tryz.underlying27⟩
instance:FA Tryz.prog 28 false:={}
instance Tryz.ak6:FC Tryz.prog 28 1:={}
instance:FU Tryz.prog 28 (.slice 147):=⟨Tryz.underlying28⟩
instance:FA Tryz.prog 29 false:={}
instance Tryz.ak7:FC Tryz.prog 29 1:={}
instance:FU Tryz.prog 29 (.slice 151):=⟨Tryz.underlying29⟩
instance:FA Tryz.prog 31 true:={}
instance Tryz.ak8:FC Tryz.prog 31 10:={}
instance:FF Tryz.prog 31 0 0:={}
instance:FF Tryz.prog 31 1 1:={}
instance:FF Tryz.prog 31 2 2:={}
instance:FF Tryz.prog 31 3 3:={}
instance:FF Tryz.prog 31 4 4:={}
instance:FF Tryz.prog 31 5 5:={}
instance:FF Tryz.prog 31 6 6:={}
instance:FF Tryz.prog 31 7 7:={}
instance:FF Tryz.prog 31 8 8:={}
instance:FF Tryz.prog 31 9 9:={}
instance:FA Tryz.prog 35 false:={}
instance:FU Tryz.prog 35 (.pointer 94):=⟨Tryz.underlying35⟩
instance:FA Tryz.prog 36 false:={}
instance:FC Tryz.prog 36 1:={}
instance:FZ Tryz.prog 36 [.int .i64 0]:={}
instance:FA Tryz.prog 39 false:={}
instance:FU Tryz.prog 39 (.pointer 88):=⟨Tryz.underlying39⟩
instance:FU Tryz.prog 41 (.pointer 115):=⟨Tryz.underlying41⟩
instance:FA Tryz.prog 45 false:={}
instance:FU Tryz.prog 45 (.pointer 133):=⟨Tryz.underlying45⟩
instance:FA Tryz.prog 50 false:={}
instance:FU Tryz.prog 50 (.pointer 129):=⟨Tryz.underlying50⟩
instance:FA Tryz.prog 56 false:={}
instance Tryz.al9:FA Tryz.prog 58 false:={}
instance Tryz.LJ:FC Tryz.prog 58 1:={}
instance:FU Tryz.prog 58 (.int .u64):=⟨Tryz.underlying58⟩
instance:FY Tryz.prog 58 8:={}
instance:FZ Tryz.prog 58 [.int .u64 0]:={}
instance:FA Tryz.prog 59 false:={}
instance Tryz.Rr:FC Tryz.prog 59 1:={}
instance:FU Tryz.prog 59 (.slice 5):=⟨Tryz.underlying59⟩
instance:FY Tryz.prog 59 24:={}
instance:FZ Tryz.prog 59 [.slice none 0 0]:={}
instance:FA Tryz.prog 60 false:={}
instance Tryz.am0:FC Tryz.prog 60 1:={}
instance:FU Tryz.prog 60 (.slice 58):=⟨Tryz.underlying60⟩
instance:FA Tryz.prog 61 false:={}
instance Tryz.am1:FC Tryz.prog 61 1:={}
instance:FU Tryz.prog 61 (.slice 3):=⟨Tryz.underlying61⟩
instance:FA Tryz.prog 62 false:={}
instance:FC Tryz.prog 62 1:={}
instance:FU Tryz.prog 62 (.slice 144):=⟨Tryz.underlying62⟩
instance:FA Tryz.prog 64 true:={}
instance:FC Tryz.prog 64 3:={}
instance:FZ Tryz.prog 64 [.slice none 0 0, .slice none 0 0, .slice none 0 0]:={}
instance:FF Tryz.prog 64 0 0:={}
instance:FF Tryz.prog 64 1 1:={}
instance:FF Tryz.prog 64 2 2:={}
instance:FA Tryz.prog 68 false:={}
instance:FC Tryz.prog 68 1:={}
instance:FU Tryz.prog 68 (.pointer 160):=⟨Tryz.underlying68⟩
instance:FY Tryz.prog 68 8:={}
instance:FZ Tryz.prog 68 [.pointer none]:={}
instance Tryz.am5:FA Tryz.prog 79 false:={}
instance Tryz.am6:FC Tryz.prog 79 1:={}
instance:FU Tryz.prog 79 (.int .u8):=⟨Tryz.underlying79⟩
instance:FY Tryz.prog 79 1:={}
instance:FZ Tryz.prog 79 [.int .u8 0]:={}
instance:FA Tryz.prog 81 true:={}
instance Tryz.W0:FC Tryz.prog 81 3:={}
instance:FZ Tryz.prog 81 [.int .u8 0, .bool false, .int .u64 0]:={}
instance:FP Tryz.prog 81 [(0,1),(1,1),(2,1)]:={}
theorem Tryz.am7:Tryz.prog.stoodInHeld 81=false:=by kernel_rfl
theorem Tryz.am8:Tryz.prog.eqGuardType Tryz.prog.depth 81=false:=by kernel_rfl
instance:FF Tryz.prog 81 0 0:={}
instance:FF Tryz.prog 81 1 1:={}
instance:FF Tryz.prog 81 2 2:={}
instance:FA Tryz.prog 85 false:={}
instance:FC Tryz.prog 85 1:={}
instance:FU Tryz.prog 85 (.slice 100):=⟨Tryz.underlying85⟩
instance:FA Tryz.prog 86 false:={}
instance:FC Tryz.prog 86 1:={}
instance:FU Tryz.prog 86 (.slice 111):=⟨Tryz.underlying86⟩
instance:FZ Tryz.prog 88 [.slice none 0 0, .slice none 0 0, .slice none 0 0, .int .i64 0, .slice none 0 0, .slice none 0 0, .slice none 0 0, .int .i64 0, .slice none 0 0, .slice none 0 0]:={}
instance:FP Tryz.prog 88 [(0,1),(1,1),(2,1),(3,1),(4,1),(5,1),(6,1),(7,1),(8,1),(9,1)]:={}
instance:FF Tryz.prog 88 0 0:={}
instance:FF Tryz.prog 88 1 1:={}
instance:FF Tryz.prog 88 2 2:={}
instance:FF Tryz.prog 88 3 3:={}
instance:FF Tryz.prog 88 4 4:={}
instance:FF Tryz.prog 88 5 5:={}
instance:FF Tryz.prog 88 6 6:={}
instance:FF Tryz.prog 88 7 7:={}
instance:FF Tryz.prog 88 8 8:={}
instance:FF Tryz.prog 88 9 9:={}
instance:FA Tryz.prog 91 false:={}
instance:FA Tryz.prog 92 false:={}
instance:FZ Tryz.prog 94 [.slice none 0 0, .int .i64 0, .int .i64 0, .map none, .map none]:={}
instance:FP Tryz.prog 94 [(0,1),(1,1),(2,1),(3,1),(4,1)]:={}
instance:FF Tryz.prog 94 0 0:={}
instance:FF Tryz.prog 94 1 1:={}
instance:FF Tryz.prog 94 2 2:={}
instance:FF Tryz.prog 94 3 3:={}
instance:FF Tryz.prog 94 4 4:={}
instance:FA Tryz.prog 95 false:={}
instance:FC Tryz.prog 95 1:={}
instance:FU Tryz.prog 95 (.slice 79):=⟨Tryz.underlying95⟩
instance:FZ Tryz.prog 95 [.slice none 0 0]:={}
instance:FA Tryz.prog 98 true:={}
instance Tryz.W1:FC Tryz.prog 98 2:={}
instance:FZ Tryz.prog 98 [.slice none 0 0, .slice none 0 0]:={}
instance:FF Tryz.prog 98 0 0:={}
instance:FF Tryz.prog 98 1 1:={}
instance:FA Tryz.prog 100 true:={}
instance:FC Tryz.prog 100 2:={}
instance:FY Tryz.prog 100 48:={}
instance:FZ Tryz.prog 100 [.slice none 0 0, .slice none 0 0]:={}
instance:FP Tryz.prog 100 [(0,1),(1,1)]:={}
instance:FF Tryz.prog 100 0 0:={}
instance:FF Tryz.prog 100 1 1:={}
instance:FA Tryz.prog 101 false:={}
instance Tryz.W2:FC Tryz.prog 101 1:={}
instance:FU Tryz.prog 101 (.slice 244):=⟨Tryz.underlying101⟩
instance:FA Tryz.prog 103 true:={}
instance Tryz.TB:FC Tryz.prog 103 2:={}
instance:FF Tryz.prog 103 0 0:={}
instance:FF Tryz.prog 103 1 1:={}
instance Tryz.TC:FC Tryz.prog 105 3:={}
instance:FF Tryz.prog 105 0 0:={}
instance:FF Tryz.prog 105 1 1:={}
instance:FA Tryz.prog 106 false:={}
instance:FU Tryz.prog 106 (.slice 242):=⟨Tryz.underlying106⟩
instance:FA Tryz.prog 108 true:={}
instance:FC Tryz.prog 108 2:={}
instance:FZ Tryz.prog 108 [.slice none 0 0, .slice none 0 0]:={}
instance:FP Tryz.prog 108 [(0,1),(1,1)]:={}
instance:FF Tryz.prog 108 0 0:={}
instance:FF Tryz.prog 108 1 1:={}
instance:FA Tryz.prog 111 true:={}
instance:FC Tryz.prog 111 3:={}
instance:FY Tryz.prog 111 56:={}
instance:FZ Tryz.prog 111 [.int .i64 0, .slice none 0 0, .slice none 0 0]:={}
instance:FP Tryz.prog 111 [(0,1),(1,2)]:={}
instance:FF Tryz.prog 111 0 0:={}
instance:FF Tryz.prog 111 1 1:={}
instance:FA Tryz.prog 113 false:={}
instance:FC Tryz.prog 113 1:={}
instance:FU Tryz.prog 113 (.slice 68):=⟨Tryz.underlying113⟩
instance:FZ Tryz.prog 115 [.pointer none, .pointer none, .pointer none, .int .i64 0, .int .i64 0, .int .i64 0, .slice none 0 0, .bool false]:={}
instance:FP Tryz.prog 115 [(0,1),(1,1),(2,1),(3,1),(4,1),(5,1),(6,1),(7,1)]:={}
instance:FF Tryz.prog 115 0 0:={}
instance:FF Tryz.prog 115 1 1:={}
instance:FF Tryz.prog 115 2 2:={}
instance:FF Tryz.prog 115 3 3:={}
instance:FF Tryz.prog 115 4 4:={}
instance:FF Tryz.prog 115 5 5:={}
instance:FF Tryz.prog 115 6 6:={}
instance:FF Tryz.prog 115 7 7:={}
instance:FA Tryz.prog 120 true:={}
instance:FC Tryz.prog 120 3:={}
instance:FZ Tryz.prog 120 [.int .i64 0, .int .i64 0, .slice none 0 0]:={}
instance:FP Tryz.prog 120 [(0,1),(1,1),(2,1)]:={}
instance:FF Tryz.prog 120 0 0:={}
instance:FF Tryz.prog 120 1 1:={}
instance:FF Tryz.prog 120 2 2:={}
instance:FA Tryz.prog 122 false:={}
instance:FF Tryz.prog 127 2 0:={}
instance:FZ Tryz.prog 129 [.int .i64 0, .int .i64 0, .int .i64 0, .map none, .int .i64 0, .int .i64 0, .bool false]:={}
instance:FP Tryz.prog 129 [(0,1),(1,1),(2,1),(3,1),(4,1),(5,1),(6,1)]:={}
instance:FF Tryz.prog 129 0 0:={}
instance:FF Tryz.prog 129 1 1:={}
instance:FF Tryz.prog 129 2 2:={}
instance:FF Tryz.prog 129 3 3:={}
instance:FF Tryz.prog 129 4 4:={}
instance:FF Tryz.prog 129 5 5:={}
instance:FF Tryz.prog 129 6 6:={}
instance:FA Tryz.prog 130 false:={}
instance:FA Tryz.prog 131 false:={}
instance:FC Tryz.prog 131 1:={}
instance:FU Tryz.prog 131 (.slice 139):=⟨Tryz.underlying131⟩
instance:FZ Tryz.prog 133 [.pointer none, .pointer none, .slice none 0 0, .int .i64 0, .map none, .map none, .int .i64 0, .bool false]:={}
instance:FP Tryz.prog 133 [(0,1),(1,1),(2,1),(3,1),(4,1),(5,1),(6,1),(7,1)]:={}
instance:FF Tryz.prog 133 0 0:={}
instance:FF Tryz.prog 133 1 1:={}
instance:FF Tryz.prog 133 2 2:={}
instance:FF Tryz.prog 133 3 3:={}
instance:FF Tryz.prog 133 4 4:={}
instance:FF Tryz.prog 133 5 5:={}
instance:FF Tryz.prog 133 6 6:={}
instance:FF Tryz.prog 133 7 7:={}
instance:FA Tryz.prog 137 true:={}
instance:FC Tryz.prog 137 2:={}
instance:FY Tryz.prog 137 16:={}
instance:FZ Tryz.prog 137 [.int .i64 0, .int .i64 0]:={}
instance:FP Tryz.prog 137 [(0,1),(1,1)]:={}
theorem Tryz.W3:Tryz.prog.stoodInHeld 137=false:=by kernel_rfl
instance:FF Tryz.prog 137 0 0:={}
instance:FF Tryz.prog 137 1 1:={}
instance:FA Tryz.prog 139 true:={}
instance:FC Tryz.prog 139 6:={}
instance:FY Tryz.prog 139 32:={}
instance:FZ Tryz.prog 139 [.int .i64 0, .int .i64 0, .int .i64 0, .bool false, .bool false, .bool false]:={}
instance:FP Tryz.prog 139 [(0,1),(1,2),(3,1),(4,1),(5,1)]:={}
instance:FF Tryz.prog 139 0 0:={}
instance:FF Tryz.prog 139 1 1:={}
instance:FF Tryz.prog 139 2 3:={}
instance:FF Tryz.prog 139 3 4:={}
instance:FF Tryz.prog 139 4 5:={}
instance:FA Tryz.prog 141 true:={}
instance Tryz.TD:FC Tryz.prog 141 3:={}
instance:FZ Tryz.prog 141 [.int .i64 0, .int .i64 0, .bool false]:={}
theorem Tryz.W4:Tryz.prog.stoodInHeld 141=false:=by kernel_rfl
theorem Tryz.W5:Tryz.prog.eqGuardType Tryz.prog.depth 141=false:=by kernel_rfl
instance:FF Tryz.prog 141 0 0:={}
instance:FF Tryz.prog 141 1 1:={}
instance:FF Tryz.prog 141 2 2:={}
instance:FA Tryz.prog 142 false:={}
instance:FC Tryz.prog 142 1:={}
instance:FU Tryz.prog 142 (.slice 167):=⟨Tryz.underlying142⟩
instance:FA Tryz.prog 144 true:={}
instance:FC Tryz.prog 144 3:={}
instance:FY Tryz.prog 144 40:={}
instance:FZ Tryz.prog 144 [.int .i64 0, .int .i64 0, .slice none 0 0]:={}
instance:FP Tryz.prog 144 [(0,1),(1,1),(2,1)]:={}
instance:FF Tryz.prog 144 0 0:={}
instance:FF Tryz.prog 144 2 2:={}
instance:FU Tryz.prog 145 (.slice 148):=⟨Tryz.underlying145⟩
instance:FA Tryz.prog 147 true:={}
instance Tryz.TE:FC Tryz.prog 147 2:={}
instance:FZ Tryz.prog 147 [.int .u64 0, .slice none 0 0]:={}
instance:FF Tryz.prog 147 0 0:={}
instance:FF Tryz.prog 147 1 1:={}
instance:FA Tryz.prog 148 true:={}
instance:FC Tryz.prog 148 2:={}
instance:FY Tryz.prog 148 32:={}
instance:FZ Tryz.prog 148 [.int .u64 0, .slice none 0 0]:={}
instance:FP Tryz.prog 148 [(0,1),(1,1)]:={}
instance:FF Tryz.prog 148 0 0:={}
instance:FF Tryz.prog 148 1 1:={}
instance:FU Tryz.prog 149 (.slice 153):=⟨Tryz.underlying149⟩
instance:FA Tryz.prog 151 true:={}
instance Tryz.TF:FC Tryz.prog 151 3:={}
instance:FZ Tryz.prog 151 [.int .i64 0, .int .u64 0, .slice none 0 0]:={}
instance:FF Tryz.prog 151 0 0:={}
instance:FF Tryz.prog 151 1 1:={}
instance:FF Tryz.prog 151 2 2:={}
instance:FA Tryz.prog 153 true:={}
instance:FC Tryz.prog 153 3:={}
instance:FY Tryz.prog 153 40:={}
instance:FZ Tryz.prog 153 [.int .i64 0, .int .u64 0, .slice none 0 0]:={}
instance:FP Tryz.prog 153 [(0,1),(1,1),(2,1)]:={}
instance:FF Tryz.prog 153 0 0:={}
instance:FF Tryz.prog 153 1 1:={}
instance:FF Tryz.prog 153 2 2:={}
instance:FZ Tryz.prog 160 [.pointer none, .int .i64 0, .int .i64 0, .int .i64 0, .int .i64 0, .bool false]:={}
instance:FP Tryz.prog 160 [(0,1),(1,1),(2,1),(3,1),(4,1),(5,1)]:={}
instance:FF Tryz.prog 160 0 0:={}
instance:FF Tryz.prog 160 1 1:={}
instance:FF Tryz.prog 160 2 2:={}
instance:FA Tryz.prog 167 true:={}
instance:FC Tryz.prog 167 2:={}
instance:FY Tryz.prog 167 32:={}
instance:FZ Tryz.prog 167 [.int .u64 0, .slice none 0 0]:={}
instance:FP Tryz.prog 167 [(0,1),(1,1)]:={}
instance:FF Tryz.prog 167 0 0:={}
instance:FF Tryz.prog 167 1 1:={}
instance:FA Tryz.prog 185 true:={}
instance Tryz.TG:FC Tryz.prog 185 3:={}
instance:FZ Tryz.prog 185 [.string ⟨#[]⟩, .string ⟨#[]⟩, .int .i64 0]:={}
theorem Tryz.W6:Tryz.prog.stoodInHeld 185=false:=by kernel_rfl
theorem Tryz.W7:Tryz.prog.eqGuardType Tryz.prog.depth 185=false:=by kernel_rfl
instance:FF Tryz.prog 185 0 0:={}
instance:FF Tryz.prog 185 1 1:={}
instance:FF Tryz.prog 185 2 2:={}
instance:FA Tryz.prog 190 true:={}
instance Tryz.TH:FC Tryz.prog 190 3:={}
instance:FZ Tryz.prog 190 [.string ⟨#[]⟩, .int .i64 0, .int .i64 0]:={}
theorem Tryz.W8:Tryz.prog.stoodInHeld 190=false:=by kernel_rfl
theorem Tryz.W9:Tryz.prog.eqGuardType Tryz.prog.depth 190=false:=by kernel_rfl
instance:FF Tryz.prog 190 0 0:={}
instance:FF Tryz.prog 190 1 1:={}
instance:FF Tryz.prog 190 2 2:={}
instance:FA Tryz.prog 195 true:={}
instance:FC Tryz.prog 195 4:={}
instance:FY Tryz.prog 195 40:={}
instance:FZ Tryz.prog 195 [.string ⟨#[]⟩, .int .i64 0, .int .i64 0, .int .i64 0]:={}
instance:FP Tryz.prog 195 [(0,1),(1,1),(2,1),(3,1)]:={}
instance:FA Tryz.prog 208 false:={}
instance:FC Tryz.prog 208 1:={}
instance:FU Tryz.prog 208 (.slice 210):=⟨Tryz.underlying208⟩
instance:FA Tryz.prog 209 false:={}
instance:FC Tryz.prog 209 1:={}
instance:FU Tryz.prog 209 (.slice 4):=⟨Tryz.underlying209⟩
instance:FA Tryz.prog 210 true:={}
instance:FC Tryz.prog 210 2:={}
instance:FY Tryz.prog 210 48:={}
instance:FZ Tryz.prog 210 [.slice none 0 0, .slice none 0 0]:={}
instance:FP Tryz.prog 210 [(0,1),(1,1)]:={}
instance:FF Tryz.prog 210 0 0:={}
instance:FF Tryz.prog 210 1 1:={}
instance:FA Tryz.prog 212 true:={}
instance:FC Tryz.prog 212 9:={}
instance:FZ Tryz.prog 212 [.slice none 0 0, .slice none 0 0, .slice none 0 0, .slice none 0 0, .slice none 0 0, .bool false, .slice none 0 0, .slice none 0 0, .slice none 0 0]:={}
instance:FP Tryz.prog 212 [(0,1),(1,1),(2,1),(3,1),(4,1),(5,1),(6,2),(8,1)]:={}
instance:FF Tryz.prog 212 0 0:={}
instance:FF Tryz.prog 212 1 1:={}
instance:FF Tryz.prog 212 2 2:={}
instance:FF Tryz.prog 212 3 3:={}
instance:FF Tryz.prog 212 4 4:={}
instance:FF Tryz.prog 212 5 5:={}
instance:FF Tryz.prog 212 6 6:={}
instance:FF Tryz.prog 212 7 8:={}
instance:FU Tryz.prog 222 (.int .u32):=⟨Tryz.underlying222⟩
instance:FC Tryz.prog 230 4:={}
instance:FZ Tryz.prog 230 [.int .i64 0, .int .i64 0, .int .i64 0, .int .i64 0]:={}
instance:FP Tryz.prog 230 [(0,1),(1,1),(2,1),(3,1)]:={}
instance:FF Tryz.prog 230 0 0:={}
instance:FF Tryz.prog 230 1 1:={}
instance:FF Tryz.prog 230 2 2:={}
instance:FF Tryz.prog 230 3 3:={}
instance:FU Tryz.prog 235 (.slice 137):=⟨Tryz.underlying235⟩
instance:FA Tryz.prog 242 true:={}
instance:FC Tryz.prog 242 5:={}
instance:FY Tryz.prog 242 56:={}
instance:FZ Tryz.prog 242 [.int .i64 0, .int .u64 0, .int .u64 0, .int .i64 0, .slice none 0 0]:={}
instance:FP Tryz.prog 242 [(0,1),(1,1),(2,1),(3,1),(4,1)]:={}
instance:FF Tryz.prog 242 0 0:={}
instance:FF Tryz.prog 242 1 1:={}
instance:FF Tryz.prog 242 2 2:={}
instance:FF Tryz.prog 242 3 3:={}
instance:FF Tryz.prog 242 4 4:={}
instance:FA Tryz.prog 244 true:={}
instance Tryz.TI:FC Tryz.prog 244 5:={}
instance:FZ Tryz.prog 244 [.int .i64 0, .int .u64 0, .int .u64 0, .int .i64 0, .slice none 0 0]:={}
instance:FF Tryz.prog 244 0 0:={}
instance:FF Tryz.prog 244 1 1:={}
instance:FF Tryz.prog 244 2 2:={}
instance:FF Tryz.prog 244 3 3:={}
instance:FF Tryz.prog 244 4 4:={}
instance:FU Tryz.prog 246 (.slice 195):=⟨Tryz.underlying246⟩
instance:FU Tryz.prog 249 (.slice 291):=⟨Tryz.underlying249⟩
instance:FU Tryz.prog 255 (.slice 59):=⟨Tryz.underlying255⟩
instance:FA Tryz.prog 273 true:={}
instance:FC Tryz.prog 273 3:={}
instance:FZ Tryz.prog 273 [.slice none 0 0, .bool false, .int .i64 0]:={}
instance:FP Tryz.prog 273 [(0,1),(1,1),(2,1)]:={}
instance:FF Tryz.prog 273 0 0:={}
instance:FF Tryz.prog 273 1 1:={}
instance:FF Tryz.prog 273 2 2:={}
instance:FU Tryz.prog 282 (.int .u64):=⟨Tryz.underlying282⟩
instance:FA Tryz.prog 285 true:={}
instance:FC Tryz.prog 285 2:={}
instance:FZ Tryz.prog 285 [.string ⟨#[]⟩, .nilFunc]:={}
instance:FP Tryz.prog 285 [(0,1),(1,1)]:={}
instance:FF Tryz.prog 285 0 0:={}
instance:FF Tryz.prog 285 1 1:={}
instance:FU Tryz.prog 286 (.array 10 285):=⟨Tryz.underlying286⟩
instance:FZ Tryz.prog 286 [.string ⟨#[]⟩, .nilFunc, .string ⟨#[]⟩, .nilFunc, .string ⟨#[]⟩, .nilFunc, .string ⟨#[]⟩, .nilFunc, .string ⟨#[]⟩, .nilFunc, .string ⟨#[]⟩, .nilFunc, .string ⟨#[]⟩, .nilFunc, .string ⟨#[]⟩, .nilFunc, .string ⟨#[]⟩, .nilFunc, .string ⟨#[]⟩, .nilFunc]:={}
instance:FR Tryz.prog 286 (10,2):={}
instance:FU Tryz.prog 289 (.slice 9):=⟨Tryz.underlying289⟩
instance:FA Tryz.prog 291 true:={}
instance:FC Tryz.prog 291 3:={}
instance:FY Tryz.prog 291 24:={}
instance:FZ Tryz.prog 291 [.int .i64 0, .int .i64 0, .int .i64 0]:={}
instance:FP Tryz.prog 291 [(0,1),(1,1),(2,1)]:={}
instance:FF Tryz.prog 291 1 1:={}
instance:FF Tryz.prog 291 2 2:={}
instance:FA Tryz.prog 323 true:={}
instance:FC Tryz.prog 323 4:={}
instance:FU Tryz.prog 323 (.array 4 3):=⟨Tryz.underlying323⟩
instance:FZ Tryz.prog 323 [.int .i64 0, .int .i64 0, .int .i64 0, .int .i64 0]:={}
instance:FR Tryz.prog 323 (4,1):={}
instance:FZ Tryz.prog 335 [.pointer none, .slice none 0 0, .slice none 0 0, .slice none 0 0]:={}
instance:FP Tryz.prog 335 [(0,1),(1,1),(2,2)]:={}
instance:FF Tryz.prog 335 0 0:={}
instance:FF Tryz.prog 335 1 1:={}
instance:FF Tryz.prog 335 2 2:={}
instance:FA Tryz.prog 337 true:={}
instance:FC Tryz.prog 337 5:={}
instance:FY Tryz.prog 337 48:={}
instance:FZ Tryz.prog 337 [.bool false, .bool false, .slice none 0 0, .int .i64 0, .bool false]:={}
instance:FP Tryz.prog 337 [(0,1),(1,1),(2,1),(3,1),(4,1)]:={}
instance:FF Tryz.prog 337 0 0:={}
instance:FF Tryz.prog 337 1 1:={}
instance:FF Tryz.prog 337 2 2:={}
instance:FF Tryz.prog 337 3 3:={}
instance:FF Tryz.prog 337 4 4:={}
instance:FA Tryz.prog 338 false:={}
instance:FC Tryz.prog 338 1:={}
instance:FU Tryz.prog 338 (.slice 337):=⟨Tryz.underlying338⟩
instance:FZ Tryz.prog 340 [.pointer none, .slice none 0 0, .slice none 0 0, .slice none 0 0, .slice none 0 0, .slice none 0 0]:={}
instance:FP Tryz.prog 340 [(0,4),(4,1),(5,1)]:={}
instance:FF Tryz.prog 340 0 0:={}
instance:FF Tryz.prog 340 1 4:={}
instance:FF Tryz.prog 340 2 5:={}
instance:FA Tryz.prog 357 false:={}
instance:FC Tryz.prog 357 1:={}
instance:FU Tryz.prog 357 (.slice 431):=⟨Tryz.underlying357⟩
instance:FU Tryz.prog 360 (.slice 364):=⟨Tryz.underlying360⟩
instance:FA Tryz.prog 364 true:={}
instance:FC Tryz.prog 364 2:={}
instance:FY Tryz.prog 364 16:={}
instance:FZ Tryz.prog 364 [.int .i64 0, .int .u8 0]:={}
instance:FP Tryz.prog 364 [(0,1),(1,1)]:={}
instance:FF Tryz.prog 364 0 0:={}
instance:FF Tryz.prog 364 1 1:={}
instance:FZ Tryz.prog 366 [.int .i64 0]:={}
instance:FP Tryz.prog 366 [(0,1)]:={}
instance:FF Tryz.prog 366 0 0:={}
instance:FU Tryz.prog 377 (.slice 95):=⟨Tryz.underlying377⟩
instance:FZ Tryz.prog 383 [.slice none 0 0, .slice none 0 0, .slice none 0 0, .bool false, .int .i64 0]:={}
instance:FP Tryz.prog 383 [(0,1),(1,1),(2,1),(3,1),(4,1)]:={}
instance:FF Tryz.prog 383 0 0:={}
instance:FF Tryz.prog 383 1 1:={}
instance:FF Tryz.prog 383 2 2:={}
instance:FF Tryz.prog 383 3 3:={}
instance:FF Tryz.prog 383 4 4:={}
instance:FA Tryz.prog 387 true:={}
instance:FC Tryz.prog 387 5:={}
instance:FZ Tryz.prog 387 [.int .i64 0, .string ⟨#[]⟩, .int .i64 0, .slice none 0 0, .slice none 0 0]:={}
instance:FP Tryz.prog 387 [(0,1),(1,1),(2,1),(3,1),(4,1)]:={}
instance:FF Tryz.prog 387 1 1:={}
instance:FF Tryz.prog 387 2 2:={}
instance:FF Tryz.prog 387 3 3:={}
instance:FF Tryz.prog 387 4 4:={}
instance:FA Tryz.prog 403 true:={}
instance:FC Tryz.prog 403 5:={}
instance:FZ Tryz.prog 403 [.int .i64 0, .string ⟨#[]⟩, .int .i64 0, .string ⟨#[]⟩, .string ⟨#[]⟩]:={}
instance:FP Tryz.prog 403 [(0,1),(1,1),(2,1),(3,1),(4,1)]:={}
instance:FF Tryz.prog 403 0 0:={}
instance:FF Tryz.prog 403 1 1:={}
instance:FF Tryz.prog 403 2 2:={}
instance:FF Tryz.prog 403 3 3:={}
instance:FF Tryz.prog 403 4 4:={}
instance:FA Tryz.prog 418 true:={}
instance:FC Tryz.prog 418 235:={}
instance:FU Tryz.prog 418 (.array 47 403):=⟨Tryz.underlying418⟩
instance:FZ Tryz.prog 418 [.int .i64 0, .string ⟨#[]⟩, .int .i64 0, .string ⟨#[]⟩, .string ⟨#[]⟩, .int .i64 0, .string ⟨#[]⟩, .int .i64 0, .string ⟨#[]⟩, .string ⟨#[]⟩, .int .i64 0, .string ⟨#[]⟩, .int .i64 0, .string ⟨#[]⟩, .string ⟨#[]⟩, .int .i64 0, .string ⟨#[]⟩, .int .i64 0, .string ⟨#[]⟩, .string ⟨#[]⟩, .int .i64 0, .string ⟨#[]⟩, .int .i64 0, .string ⟨#[]⟩, .string ⟨#[]⟩, .int .i64 0, .string ⟨#[]⟩, .int .i64 0, .string ⟨#[]⟩, .string ⟨#[]⟩, .int .i64 0, .string ⟨#[]⟩, .int .i64 0, .string ⟨#[]⟩, .string ⟨#[]⟩, .int .i64 0, .string ⟨#[]⟩, .int .i64 0, .string ⟨#[]⟩, .string ⟨#[]⟩, .int .i64 0, .string ⟨#[]⟩, .int .i64 0, .string ⟨#[]⟩, .string ⟨#[]⟩, .int .i64 0, .string ⟨#[]⟩, .int .i64 0, .string ⟨#[]⟩, .string ⟨#[]⟩, .int .i64 0, .string ⟨#[]⟩, .int .i64 0, .string ⟨#[]⟩, .string ⟨#[]⟩, .int .i64 0, .string ⟨#[]⟩, .int .i64 0, .string ⟨#[]⟩, .string ⟨#[]⟩, .int .i64 0, .string ⟨#[]⟩, .int .i64 0, .string ⟨#[]⟩, .string ⟨#[]⟩, .int .i64 0, .string ⟨#[]⟩, .int .i64 0, .string ⟨#[]⟩, .string ⟨#[]⟩, .int .i64 0, .string ⟨#[]⟩, .int .i64 0, .string ⟨#[]⟩, .string ⟨#[]⟩, .int .i64 0, .string ⟨#[]⟩, .int .i64 0, .string ⟨#[]⟩, .string ⟨#[]⟩, .int .i64 0, .string ⟨#[]⟩, .int .i64 0, .string ⟨#[]⟩, .string ⟨#[]⟩, .int .i64 0, .string ⟨#[]⟩, .int .i64 0, .string ⟨#[]⟩, .string ⟨#[]⟩, .int .i64 0, .string ⟨#[]⟩, .int .i64 0, .string ⟨#[]⟩, .string ⟨#[]⟩, .int .i64 0, .string ⟨#[]⟩, .int .i64 0, .string ⟨#[]⟩, .string ⟨#[]⟩, .int .i64 0, .string ⟨#[]⟩, .int .i64 0, .string ⟨#[]⟩, .string ⟨#[]⟩, .int .i64 0, .string ⟨#[]⟩, .int .i64 0, .string ⟨#[]⟩, .string ⟨#[]⟩, .int .i64 0, .string ⟨#[]⟩, .int .i64 0, .string ⟨#[]⟩, .string ⟨#[]⟩, .int .i64 0, .string ⟨#[]⟩, .int .i64 0, .string ⟨#[]⟩, .string ⟨#[]⟩, .int .i64 0, .string ⟨#[]⟩, .int .i64 0, .string ⟨#[]⟩, .string ⟨#[]⟩, .int .i64 0, .string ⟨#[]⟩, .int .i64 0, .string ⟨#[]⟩, .string ⟨#[]⟩, .int .i64 0, .string ⟨#[]⟩, .int .i64 0, .string ⟨#[]⟩, .string ⟨#[]⟩, .int .i64 0, .string ⟨#[]⟩, .int .i64 0, .string ⟨#[]⟩, .string ⟨#[]⟩, .int .i64 0, .string ⟨#[]⟩, .int .i64 0, .string ⟨#[]⟩, .string ⟨#[]⟩, .int .i64 0, .string ⟨#[]⟩, .int .i64 0, .string ⟨#[]⟩, .string ⟨#[]⟩, .int .i64 0, .string ⟨#[]⟩, .int .i64 0, .string ⟨#[]⟩, .string ⟨#[]⟩, .int .i64 0, .string ⟨#[]⟩, .int .i64 0, .string ⟨#[]⟩, .string ⟨#[]⟩, .int .i64 0, .string ⟨#[]⟩, .int .i64 0, .string ⟨#[]⟩, .string ⟨#[]⟩, .int .i64 0, .string ⟨#[]⟩, .int .i64 0, .string ⟨#[]⟩, .string ⟨#[]⟩, .int .i64 0, .string ⟨#[]⟩, .int .i64 0, .string ⟨#[]⟩, .string ⟨#[]⟩, .int .i64 0, .string ⟨#[]⟩, .int .i64 0, .string ⟨#[]⟩, .string ⟨#[]⟩, .int .i64 0, .string ⟨#[]⟩, .int .i64 0, .string ⟨#[]⟩, .string ⟨#[]⟩, .int .i64 0, .string ⟨#[]⟩, .int .i64 0, .string ⟨#[]⟩, .string ⟨#[]⟩, .int .i64 0, .string ⟨#[]⟩, .int .i64 0, .string ⟨#[]⟩, .string ⟨#[]⟩, .int .i64 0, .string ⟨#[]⟩, .int .i64 0, .string ⟨#[]⟩, .string ⟨#[]⟩, .int .i64 0, .string ⟨#[]⟩, .int .i64 0, .string ⟨#[]⟩, .string ⟨#[]⟩, .int .i64 0, .string ⟨#[]⟩, .int .i64 0, .string ⟨#[]⟩, .string ⟨#[]⟩, .int .i64 0, .string ⟨#[]⟩, .int .i64 0, .string ⟨#[]⟩, .string ⟨#[]⟩, .int .i64 0, .string ⟨#[]⟩, .int .i64 0, .string ⟨#[]⟩, .string ⟨#[]⟩, .int .i64 0, .string ⟨#[]⟩, .int .i64 0, .string ⟨#[]⟩, .string ⟨#[]⟩, .int .i64 0, .string ⟨#[]⟩, .int .i64 0, .string ⟨#[]⟩, .string ⟨#[]⟩, .int .i64 0, .string ⟨#[]⟩, .int .i64 0, .string ⟨#[]⟩, .string ⟨#[]⟩]:={}
instance:FR Tryz.prog 418 (47,5):={}
instance:FA Tryz.prog 420 true:={}
instance:FC Tryz.prog 420 30:={}
instance:FU Tryz.prog 420 (.array 6 403):=⟨Tryz.underlying420⟩
instance:FZ Tryz.prog 420 [.int .i64 0, .string ⟨#[]⟩, .int .i64 0, .string ⟨#[]⟩, .string ⟨#[]⟩, .int .i64 0, .string ⟨#[]⟩, .int .i64 0, .string ⟨#[]⟩, .string ⟨#[]⟩, .int .i64 0, .string ⟨#[]⟩, .int .i64 0, .string ⟨#[]⟩, .string ⟨#[]⟩, .int .i64 0, .string ⟨#[]⟩, .int .i64 0, .string ⟨#[]⟩, .string ⟨#[]⟩, .int .i64 0, .string ⟨#[]⟩, .int .i64 0, .string ⟨#[]⟩, .string ⟨#[]⟩, .int .i64 0, .string ⟨#[]⟩, .int .i64 0, .string ⟨#[]⟩, .string ⟨#[]⟩]:={}
instance:FR Tryz.prog 420 (6,5):={}
instance:FU Tryz.prog 426 (.array 3 9):=⟨Tryz.underlying426⟩
instance:FZ Tryz.prog 426 [.string ⟨#[]⟩, .string ⟨#[]⟩, .string ⟨#[]⟩]:={}
instance:FR Tryz.prog 426 (3,1):={}
instance:FC Tryz.prog 431 3:={}
instance:FY Tryz.prog 431 24:={}
instance:FZ Tryz.prog 431 [.int .i64 0, .int .i64 0, .int .i64 0]:={}
instance:FP Tryz.prog 431 [(0,1),(1,1),(2,1)]:={}
instance:FF Tryz.prog 431 0 0:={}
instance:FF Tryz.prog 431 1 1:={}
instance:FF Tryz.prog 431 2 2:={}
instance:FA Tryz.prog 437 true:={}
instance:FC Tryz.prog 437 15:={}
instance:FU Tryz.prog 437 (.array 15 9):=⟨Tryz.underlying437⟩
instance:FZ Tryz.prog 437 [.string ⟨#[]⟩, .string ⟨#[]⟩, .string ⟨#[]⟩, .string ⟨#[]⟩, .string ⟨#[]⟩, .string ⟨#[]⟩, .string ⟨#[]⟩, .string ⟨#[]⟩, .string ⟨#[]⟩, .string ⟨#[]⟩, .string ⟨#[]⟩, .string ⟨#[]⟩, .string ⟨#[]⟩, .string ⟨#[]⟩, .string ⟨#[]⟩]:={}
instance:FR Tryz.prog 437 (15,1):={}
instance:FA Tryz.prog 439 true:={}
instance:FC Tryz.prog 439 10:={}
instance:FU Tryz.prog 439 (.array 10 9):=⟨Tryz.underlying439⟩
instance:FZ Tryz.prog 439 [.string ⟨#[]⟩, .string ⟨#[]⟩, .string ⟨#[]⟩, .string ⟨#[]⟩, .string ⟨#[]⟩, .string ⟨#[]⟩, .string ⟨#[]⟩, .string ⟨#[]⟩, .string ⟨#[]⟩, .string ⟨#[]⟩]:={}
instance:FR Tryz.prog 439 (10,1):={}
instance:FA Tryz.prog 441 true:={}
instance:FC Tryz.prog 441 4:={}
instance:FU Tryz.prog 441 (.array 4 9):=⟨Tryz.underlying441⟩
instance:FZ Tryz.prog 441 [.string ⟨#[]⟩, .string ⟨#[]⟩, .string ⟨#[]⟩, .string ⟨#[]⟩]:={}
instance:FR Tryz.prog 441 (4,1):={}
instance:FA Tryz.prog 444 true:={}
instance:FC Tryz.prog 444 5:={}
instance:FZ Tryz.prog 444 [.int .i64 0, .int .i64 0, .int .i64 0, .int .i64 0, .int .i64 0]:={}
instance:FP Tryz.prog 444 [(0,1),(1,1),(2,1),(3,1),(4,1)]:={}
instance:FF Tryz.prog 444 0 0:={}
instance:FF Tryz.prog 444 1 1:={}
instance:FF Tryz.prog 444 2 2:={}
instance:FF Tryz.prog 444 3 3:={}
instance:FF Tryz.prog 444 4 4:={}
instance:FA Tryz.prog 445 true:={}
instance:FC Tryz.prog 445 40:={}
instance:FU Tryz.prog 445 (.array 8 444):=⟨Tryz.underlying445⟩
instance:FZ Tryz.prog 445 [.int .i64 0, .int .i64 0, .int .i64 0, .int .i64 0, .int .i64 0, .int .i64 0, .int .i64 0, .int .i64 0, .int .i64 0, .int .i64 0, .int .i64 0, .int .i64 0, .int .i64 0, .int .i64 0, .int .i64 0, .int .i64 0, .int .i64 0, .int .i64 0, .int .i64 0, .int .i64 0, .int .i64 0, .int .i64 0, .int .i64 0, .int .i64 0, .int .i64 0, .int .i64 0, .int .i64 0, .int .i64 0, .int .i64 0, .int .i64 0, .int .i64 0, .int .i64 0, .int .i64 0, .int .i64 0, .int .i64 0, .int .i64 0, .int .i64 0, .int .i64 0, .int .i64 0, .int .i64 0]:={}
instance:FR Tryz.prog 445 (8,5):={}
theorem Tryz.UE:rO Tryz.prog 3 (Value.int .i64):=rO.int Tryz.underlying3
theorem Tryz.UF:zi Tryz.prog 3=some (.int .i64 0):=by kernel_rfl
theorem Tryz.UG:rO Tryz.prog 3 (Value.int .i64):=rO.int Tryz.underlying3
theorem Tryz.Xa:zi Tryz.prog 61=some (.slice none 0 0):=by kernel_rfl
theorem Tryz.BG:rO Tryz.prog 3 (Value.int .i64):=rO.int Tryz.underlying3
theorem Tryz.Rs:zi Tryz.prog 59=some (.slice none 0 0):=by kernel_rfl
theorem Tryz.rR:rO Tryz.prog 137 (NR .i64 .i64):=rO.pair Tryz.underlying137 Tryz.W3 (by decide) (by decide) rfl rfl Tryz.underlying3 Tryz.underlying3
instance:FM Tryz.prog:={}
end Go.Proofs
end
section
namespace Go.Hl
open Go.RowKit
section
variable {P:Program} {hs:List HP} {env:Env} {q:VP} {dst:Option Tmp} {ty T T' E:TypeId} {pos:String} {after:Array Edge} {gd:Option (Nat×Bool)} {x y z:Operand}
theorem zo{b off len:Nat}{k:IntKind}{i:Int}(j:Nat)(hT:P.underlying T=some (.slice E))(hn:P.cellsOf E=1)(hx:bx env x (jM b off len))(hy:bx env y (ag k i))(hi:i=(j:Int))(hj:j<len):
    bp P hs env ⟨dst, .indexAddr T x y,ty,pos,after,gd⟩ (aD b (off+j)):=
  bp.aL fun ρ w S F _ he=>by
    obtain⟨o,cap,hv,h1,h2,h3⟩:=he.o _ _ hx;have h4:=he.o _ _ hy;simp only[aa] at h4
    subst hi;have ho:o=off:=h1.resolve_left (by omega);subst ho;have hs:=run_sizeOf (T:=E) hn rfl w
    have oS:Addr.add ⟨b,o,none⟩ j=⟨b,o+j,none⟩:=by
      unfold Addr.add
      split<;>simp_all
    exact⟨_,by simp[execOp,hv,h4,Instr.indexAt,asIntOf,run_underlying hT,Instr.sureAddr,hs,oS,hj],rfl⟩
theorem Rt{b k i:Nat}{l:List UInt8}{c:UInt8}(hT:kI P T=some false)(hx:bx env x (aD b k))(hi:hs[i]?=some (iM b l))(hj:l[k]?=some c):bp P hs env ⟨dst, .load T x,ty,pos,after,gd⟩ (ag .u8 (c.toNat:Int)):=
 bp.aL fun ρ w S F ho qe=>by
  have hv:=qe.o _ _ hx;simp only[aa] at hv
  obtain⟨F1,_,_,T',hb⟩:=ho.get hi;refine⟨.int .u8 (c.toNat:Int),?_,rfl⟩;have hc:w.cell? ⟨b,k,none⟩=some (.int .u8 (c.toNat:Int)):=by simp[World.cell?,hb,qo,hj]
  have h1:(loadVar T ⟨b,k,none⟩).run P w= .ok (.int .u8 (c.toNat:Int)) w:=by
   unfold loadVar;rw[bu (eN hT w)];simp[hc]
  simp[execOp,hv,Instr.loadAt,Instr.sureAddr,h1]
theorem OJ{b k i:Nat}{l:List UInt8}(c:UInt8)(hn:P.cellsOf T=1)(hx:bx env x (aD b k))(hy:bx env y (ag .u8 (c.toNat:Int)))(hi:hs[i]?=some (iM b l))(hj:k<l.length):
    fZ P hs env ⟨none, .store T x y,ty,pos,after,gd⟩ (γ:=Unit) (fun _=>True) (fun _=>hs.set i (iM b (l.set k c))) (fun _=>aa undef):=by
  intro cx a w S F aH hown qe Kp Q hk;have hv:=hx S w a qe;simp only[aa] at hv
  have hu:=hy S w a qe;simp only[aa] at hu
  obtain⟨F0,_,_,T',hb⟩:=hown.get hi;have hsz:k<(mZ l).toArray.size:=by simpa[mZ] using hj
  have hr:(execOp a.eval ⟨none, .store T x y,ty,pos,after,gd⟩).run P w= .ok .skip (w.setCell ⟨b,k,none⟩ (a.eval y)):=by
    have hst:=oT (v:=a.eval y) hn (by rw[hu];exact⟨rfl,rfl⟩) hb hsz;simp[execOp,hv,Instr.storeAt,Instr.sureAddr,hst]
  have hne:∀t,t≠b→(w.setCell ⟨b,k,none⟩ (a.eval y)).heap[t]?=w.heap[t]?:=fun t ht=>fQ w _ _ t ht;obtain⟨F1,F2,f1,f2,f3,_,f4⟩:=hown.xA hi;have hFb:F1 b:=f3.1;have hag:∀t,S t→(w.setCell ⟨b,k,none⟩ (a.eval y)).heap[t]?=w.heap[t]?:=fun t ht=>hne t (fun e=>aH.dJ t ht (e▸(f1 b hFb).1));unfold Oper.wp;rw[hr];refine hk () undef _ S F trivial (aH.write (f1 b hFb).1 rfl rfl rfl (by simp[World.setCell]) hne) (fun _ h=>h) hag ?_ rfl
  have :=f4 S F1 (w.setCell ⟨b,k,none⟩ (a.eval y)) (iM b (l.set k c)) (fun t ht=>(f1 t ht).2) (fun _ h=>h) (fun t ht=>hne t (fun e=>(f1 b hFb).2 (e▸ht))) hag
    ⟨hFb,T',by
      rw[hu];simp only[World.setCell,Array.getElem?_modify,hb,if_true,Option.map_some,Option.isSome_none,Bool.false_eq_true,if_false]
      congr 2
      apply Array.ext_getElem?;intro t;rw[Array.getElem?_setIfInBounds];simp only[List.getElem?_toArray,qo,List.getElem?_set];by_cases e:k=t
      · subst e
        have ao9:k<(mZ l).length:=by simpa using hsz
        simp[hj,ao9]
      · simp[e]⟩
  exact this.mono (fun t ht=>ht.elim (fun h=>(f1 t h).1) (f2 t)) (fun _ h=>h) (fun _ _=>rfl) (fun _ _=>rfl)
end
def Ru(v:Nat)(i:Nat):UInt8:=UInt8.ofNat (v/2^(8*i)%256)
def xK(v w:Nat):List UInt8:=(List.range w).map (Ru v)
def ry:List UInt8→Nat
 |[]=>0
 |c::l=>c.toNat+256*ry l
theorem nc(v w:Nat):(xK v w).length=w:=by simp[xK]
theorem CN:∀l:List UInt8,ry l<2^(8*l.length)
 |[]=>by simp[ry]
 |c::l=>by
  have h1:=CN l;have h2:=c.toNat_lt;simp only[ry,List.length_cons];have e:2^(8*(l.length+1))=256*2^(8*l.length):=by rw[Nat.mul_add,Nat.pow_add];omega
  rw[e];omega
theorem zp:∀(l:List UInt8) (c:UInt8),ry (l++[c])=ry l+c.toNat*2^(8*l.length)
 |[],c=>by simp[ry]
 |d::l,c=>by
  have ih:=zp l c;simp only[List.cons_append,ry,ih,List.length_cons];have e:2^(8*(l.length+1))=256*2^(8*l.length):=by rw[Nat.mul_add,Nat.pow_add];omega
  rw[e,Nat.mul_add,←Nat.mul_assoc,Nat.mul_comm 256 c.toNat,Nat.mul_assoc,Nat.add_assoc]
theorem UH(l:List UInt8)(c:UInt8):(ry l)|||(c.toNat*2^(8*l.length))=ry (l++[c]):=by
 rw[zp,Nat.mul_comm c.toNat,Nat.or_comm,←Nat.two_pow_add_eq_or_of_lt (CN l),Nat.add_comm]
end Go.Hl
end
section
namespace Go.Hl
abbrev aU(n:Int):VP:=ag .i64 n
structure ox where
 (ab db tm gm size:Nat)
structure ej where
 bytes:List UInt8
 height:Nat
 live:Nat
 taken:List (Int×Int)
def eW(X:ox)(a:ej):List HP:=
 [ax X.ab [jM X.db 0 X.size,ag .i64 (a.height:Int),ag .i64 (a.live:Int),aa (.map (some X.tm)),aa (.map (some X.gm))],
  iM X.db a.bytes,jL X.tm (Value.int .i64) aU a.taken,jL X.gm (Value.int .i64) (fun _:Unit=>qg) []]
structure dy(X:ox)(a:ej):Prop where
 len:a.bytes.length=X.size
 hi:a.height≤X.size
 most:X.size≤4194304
 live:a.live≤a.height
def rS:Nat→Nat→Nat→Nat
 |0,c,_=>c
 |k+1,c,n=>if c<n then rS k (c*2) n else c
def aY(n:Nat):Nat:=if 4194304<n then 0 else rS 19 16 n
theorem BH:∀(k c n:Nat),rS k c n≤c*2^k
 |0,c,n=>by simp[rS]
 | k +1,c,n=>by
  unfold rS;have:=BH k (c*2) n;have h2:0<2^k:=Nat.two_pow_pos k;rw[Nat.pow_succ,Nat.mul_comm (2^k) 2,←Nat.mul_assoc]
  split
  · exact this
  · calc c≤c*2:=by omega
     _≤c*2*2^k:=Nat.le_mul_of_pos_right _ h2
theorem oy(n:Nat):aY n≤8388608:=by
 unfold aY
 split
 · omega
 · exact BH 19 16 n
variable {k:Nat} {c:Nat}
theorem LK{n:Nat}(h:¬c<n):rS k c n=c:=by
 cases k with
 |zero=>rfl
 |succ k=>unfold rS;rw[if_neg h]
def qq(size:Nat)(a:ej)(c:Nat):ej×Nat×Bool:=if size-a.height<c then(a,0,false) else({a with height:=a.height+c},a.height,true)
variable {size:Nat} {a:ej}
theorem LL(h:¬(qq size a c).2.2=true):qq size a c=(a,0,false)∧size-a.height<c:=by
 unfold qq at h ⊢;by_cases hc:size-a.height<c
 · rw[if_pos hc];exact⟨rfl,hc⟩
 · rw[if_neg hc] at h;exact absurd rfl h
theorem HW(h:(qq size a c).2.2=true):qq size a c=({a with height:=a.height+c},a.height,true)∧¬size-a.height<c:=by
 unfold qq at h ⊢;by_cases hc:size-a.height<c
 · rw[if_pos hc] at h;cases h
 · rw[if_neg hc];exact⟨rfl,hc⟩
def xL(size:Nat)(a:ej)(n:Nat):ej×Nat×Nat:=
 if 4194304<n then(a,0,1) else if size-a.height<aY n then(a,0,8)
 else({bytes:=a.bytes.take a.height++List.replicate (aY n) 0++a.bytes.drop (a.height+aY n),height:=a.height+aY n,live:=a.live+aY n,taken:=eY a.taken (a.height:Int) (aY n:Int)},a.height,0)
def ej.get(a:ej)(at_ n:Nat):List UInt8:=(a.bytes.drop at_).take n
def ej.put(a:ej)(at_:Nat)(ys:List UInt8):ej:={a with bytes:=a.bytes.take at_++ys++a.bytes.drop (at_+ys.length)}
variable {r:List HP} {b:Nat}
theorem aB.cells{cs cs':List VP}(h:QN cs cs'):aB (ax b cs::r) (ax b cs'::r):=fun F S w ⟨F1,F2,h1,h2,⟨f1,arr,T,hh,hn,hc⟩,h4⟩=>
 ⟨F1,F2,h1,h2,⟨f1,arr,T,hh,by rw[hn,h.len],fun j q' hj=>let ⟨q,k1,k2⟩:=h.get j q' hj;let ⟨u,hu,hq⟩:=hc j q k1;⟨u,hu,k2 _ _ _ hq⟩⟩,h4⟩
variable {l:List UInt8} {l':List UInt8}
theorem aB.ap0(h:l=l'):aB (iM b l::r) (iM b l'::r):=h▸aB.refl _
theorem lP:af (aa (.bool false)) (ak False):=fun S w v h=>⟨false,h,by simp⟩
def BP:Bool→Prop
 |true=>True
 |false=>False
theorem oW(b:Bool):BP b↔b=true:=by cases b<;>simp[BP]
structure jU where
 size:Nat
 cap:Int
 zq:Int
 ops:Int
 fail:Int
 failed:Bool
 m:List (Int×List UInt8)
def j5(sb mb:Nat)(s:jU):HP:=ax sb [ag .i64 (s.size:Int),ag .i64 s.cap,ag .i64 s.zq,aa (.map (some mb)),ag .i64 s.ops,ag .i64 s.fail,ak (BP s.failed)]
abbrev CO:=List (Int×Nat×List UInt8)
def iN(mb size:Nat)(E:CO):HP:=jL mb (Value.int .i64) (fun b=>jM b 0 size) (E.map fun e=>(e.1,e.2.1))
def dB(sb:Nat)(s:jU):HP:=VZ fun x:Nat×CO=>kJ (me (x.2.map (fun e=>(e.1,e.2.2))=s.m)::j5 sb x.1 s::iN x.1 s.size x.2::x.2.map fun e=>iM e.2.1 e.2.2)
structure qt(s:jU):Prop where
 size:s.size≤1024
 cap:s.cap≤4096
 len:∀e∈s.m,e.2.length=s.size
 keys:∀e∈s.m,0≤e.1∧e.1<4096
 many:(s.m.length:Int)≤s.cap
 nodup:(s.m.map (·.1)).Nodup
def tY(s:jU):jU×Bool:=
 let k:=IntKind.i64.wrap (s.ops+1)
 if 0≤s.fail∧s.fail≤IntKind.i64.wrap (k-1) then({s with ops:=k,failed:=true},false) else({s with ops:=k},true)
def fm(s:jU)(id:Int)(right:Prop)[Decidable right]:jU×Nat:=
 match aq s.m id with
 |none=>(s,2)
 |some _=>if ¬right then(s,1) else match tY s with|(s',true)=>(s',0)|(s',false)=>(s',9)
def gq(E:CO):List HP:=E.map fun e=>iM e.2.1 e.2.2
theorem lQ{κ α β:Type}[DecidableEq κ](f:α→β)(a:κ):∀E:List (κ×α),aq (E.map fun e=>(e.1,f e.2)) a=(aq E a).map f
 |[]=>rfl
 |e::E=>by
  have ih:=lQ f a E;unfold aq at ih ⊢;rw[List.map_cons];by_cases h:e.1=a
  · rw[List.find?_cons_of_pos (by simpa using h),List.find?_cons_of_pos (by simpa using h)];rfl
  · rw[List.find?_cons_of_neg (by simpa using h),List.find?_cons_of_neg (by simpa using h)];exact ih
def gM{α:Type}:List (Int×α)→Int→α→List (Int×α)
 |[],_,_=>[]
 |e::E,id,l=>if e.1=id then(e.1,l)::E else e::gM E id l
variable {α:Type}
def jh(m:List (Int×α))(id:Int):List (Int×α):=m.eraseP fun e=>decide (e.1=id)
theorem uZ{α β:Type}(f:α→β)(id:Int)(l:α):∀E:List (Int×α),(gM E id l).map (fun e=>(e.1,f e.2))=gM (E.map fun e=>(e.1,f e.2)) id (f l)
 |[]=>rfl
 |e::E=>by
  unfold gM;rw[List.map_cons];by_cases h:e.1=id
  · simp[h,gM]
  · simp[h,gM,uZ f id l E]
theorem wF{α:Type}(id:Int)(l:α):∀E:List (Int×α),aq E id=some l→gM E id l=E
 |[],h=>rfl
 |e::E,h=>by
  unfold aq at h;unfold gM;by_cases he:e.1=id
  · rw[List.find?_cons_of_pos (by simpa using he)] at h
    simp at h;rw[if_pos he,←h]
  · rw[List.find?_cons_of_neg (by simpa using he)] at h
    rw[if_neg he,wF id l E h]
theorem zu(id:Int):∀{E:CO} {b:Nat} {l:List UInt8},aq E id=some (b,l)→(gq E).Perm (iM b l::gq (jh E id))
 |[],b,l,h=>by cases h
 |e::E,b,l,h=>by
  unfold aq at h;by_cases he:e.1=id
  · rw[List.find?_cons_of_pos (by simpa using he)] at h
    simp at h;unfold jh gq;rw[List.eraseP_cons_of_pos (by simpa using he),List.map_cons,h]
  · rw[List.find?_cons_of_neg (by simpa using he)] at h
    have ih:=zu id (E:=E) (b:=b) (l:=l) h;unfold jh gq at ih ⊢;rw[List.eraseP_cons_of_neg (by simpa using he),List.map_cons,List.map_cons];exact(ih.cons _).trans (List.Perm.swap _ _ _)
theorem EY(id:Int):∀{E:CO} {b:Nat} {l:List UInt8} (l':List UInt8),aq E id=some (b,l)→(iM b l'::gq (jh E id)).Perm (gq (gM E id (b,l')))
 |[],b,l,l',h=>by cases h
 |e::E,b,l,l',h=>by
  unfold aq at h;by_cases he:e.1=id
  · rw[List.find?_cons_of_pos (by simpa using he)] at h
    simp at h;unfold jh gq gM;rw[List.eraseP_cons_of_pos (by simpa using he),if_pos he,List.map_cons]
  · rw[List.find?_cons_of_neg (by simpa using he)] at h
    have ih:=EY id (E:=E) (b:=b) (l:=l) l' h;unfold gq jh at ih ⊢;unfold gM;rw[List.eraseP_cons_of_neg (by simpa using he),if_neg he,List.map_cons,List.map_cons];exact(List.Perm.swap _ _ _).trans (ih.cons _)
theorem EZ(id:Int)(D:List (Int×α)):gf D id=jh D id:=by
 unfold gf jh
 induction D with
 |nil=>rfl
 |cons e D ih=>
  rw[List.map_cons,List.findIdx?_cons];by_cases he:e.1=id
  · rw[if_pos (by simpa using he),List.eraseP_cons_of_pos (by simpa using he)];rfl
  · rw[if_neg (by simpa using he),List.eraseP_cons_of_neg (by simpa using he),←ih]
    cases h:(D.map (·.1)).findIdx? (fun k=>decide (k=id))<;>simp
theorem CP{α β:Type}(f:α→β)(id:Int):∀E:List (Int×α),(jh E id).map (fun e=>(e.1,f e.2))=jh (E.map fun e=>(e.1,f e.2)) id
 |[]=>rfl
 |e::E=>by
  unfold jh;rw[List.map_cons];by_cases h:e.1=id
  · rw[List.eraseP_cons_of_pos (by simpa using h),List.eraseP_cons_of_pos (by simpa using h)]
  · rw[List.eraseP_cons_of_neg (by simpa using h),List.eraseP_cons_of_neg (by simpa using h),List.map_cons]
    have:=CP f id E;unfold jh at this;rw[this]
theorem kS{κ:Type}[DecidableEq κ]{D:List (κ×α)}{id:κ}(v:α)(h:aq D id=none):eY D id v=D++[(id,v)]:=by
 unfold eY;have hf:=pG id D;cases hi:(D.map (·.1)).findIdx? (fun k=>decide (k=id)) with
 |none=>rfl
 |some i=>rw[hi] at hf;obtain⟨u,_,hu⟩:=hf;rw[h] at hu;cases hu
def oA(E:CO):List (Int×List UInt8):=E.map fun e=>(e.1,e.2.2)
variable {s:jU} {E:CO} {sb:Nat} {mb:Nat} {sz:Nat}
theorem fu(hE:oA E=s.m)(hz:sz=s.size):aB (j5 sb mb s::iN mb sz E::kJ (gq E)::r) (dB sb s::r):=by
 subst hz;refine aB.trans ?_ (aB.ex (f:=fun x:Nat×CO=>kJ (me (x.2.map (fun e=>(e.1,e.2.2))=s.m)::j5 sb x.1 s::iN x.1 s.size x.2::x.2.map fun e=>iM e.2.1 e.2.2)) (mb,E));refine aB.trans (aB.cons _ (aB.cons _ aB.unpack)) ?_;refine aB.trans (aB.pure (p:=oA E=s.m) hE) ?_;exact aB.pack (l:=me (oA E=s.m)::j5 sb mb s::iN mb s.size E::gq E)
theorem aM.E0{P:Program}{Q:Exit→Act→World→Prop}{c:Ctx}{x:Code}{env:Env}(k:∀mb E,oA E=s.m→aM P Q c x (j5 sb mb s::iN mb s.size E::kJ (gq E)::r) env):aM P Q c x (dB sb s::r) env:=
 aM.opens fun⟨mb,E⟩=>aM.own aB.unpack (aM.me fun h=>aM.own (aB.cons _ (aB.cons _ (aB.pack (l:=gq E)))) (k mb E h))
variable {id:Int}
theorem aM.HX{P:Program}{Q:Exit→Act→World→Prop}{c:Ctx}{x:Code}{env:Env}{a b0:HP}(h:aq E id=some (b,l))(k:aM P Q c x (a::b0::iM b l::kJ (gq (jh E id))::r) env):aM P Q c x (a::b0::kJ (gq E)::r) env:=by
 refine aM.own (aB.trans (aB.cons a (aB.cons b0 (aB.trans aB.unpack (aB.perm ((zu id h).append_right r))))) ?_) k;refine aB.cons a (aB.cons b0 (aB.cons _ ?_));exact aB.pack
theorem Xb{a b0:HP}(l':List UInt8)(h:aq E id=some (b,l)):aB (a::b0::iM b l'::kJ (gq (jh E id))::r) (a::b0::kJ (gq (gM E id (b,l')))::r):=by
 refine aB.trans (aB.cons a (aB.cons b0 (aB.cons _ aB.unpack))) ?_;refine aB.trans (aB.perm (List.Perm.cons a (List.Perm.cons b0 ?_))) (aB.cons a (aB.cons b0 aB.pack));exact(EY id l' h).append_right r
theorem HY(h:aq E id=some (b,l)):iN mb size (gM E id (b,l'))=iN mb size E:=by
 unfold iN
 congr 1
 have h1:=uZ (fun x:Nat×List UInt8=>x.1) id (b,l') E;rw[h1];exact wF id b _ (by rw[lQ (fun x:Nat×List UInt8=>x.1),h];rfl)
theorem LM:oA (gM E id (b,l'))=gM (oA E) id l':=uZ (fun x:Nat×List UInt8=>x.2) id (b,l') E
theorem lR:aq (oA E) id=(aq E id).map (·.2):=lQ (fun x:Nat×List UInt8=>x.2) id E
theorem pH:aq (E.map fun e=>(e.1,e.2.1)) id=(aq E id).map (·.1):=lQ (fun x:Nat×List UInt8=>x.1) id E
theorem CQ{α:Type}[BEq α][LawfulBEq α]:∀{l m:List α},l.Nodup→(∀x∈l,x∈m)→l.length≤m.length
 |[],m,_,_=>by simp
 | a::l,m,hn,hs=>by
  rw[List.nodup_cons] at hn;have h1:a∈m:=hs a (List.mem_cons_self ..)
  have:=CQ (l:=l) (m:=m.erase a) hn.2 fun x hx=>by
   have hne:x≠a:=fun e=>hn.1 (e▸hx);exact(List.mem_erase_of_ne hne).2 (hs x (List.mem_cons_of_mem _ hx))
  rw[List.length_erase_of_mem h1] at this;have h2:0<m.length:=List.length_pos_of_mem h1;simp only[List.length_cons];omega
theorem u5{m0:List (Int×List UInt8)}(h:aq E id=some (b,l))(hE:oA E=m0)(hm:s.m=gM m0 id l')(hz:sz=s.size):
    aB (j5 sb mb s::iN mb sz E::iM b l'::kJ (gq (jh E id))::r) (dB sb s::r):=by
  refine(Xb l' h).trans ?_;rw[←HY (mb:=mb) (size:=sz) (l':=l') h];exact fu (by rw[LM,hE,hm]) hz
theorem CR{m0:List (Int×List UInt8)}(h:aq E id=some (b,l))(hE:oA E=m0)(hm:s.m=m0)(hz:sz=s.size):
    aB (j5 sb mb s::iN mb sz E::iM b l::kJ (gq (jh E id))::r) (dB sb s::r):=
  u5 h hE (by rw[hm,wF id l m0 (by rw[←hE,lR,h];rfl)]) hz
theorem CS(h:aq E (k:Int)=none)(hm:s.m=oA E++[((k:Int),l)])(hz:sz=s.size):
    aB (iM b l::j5 sb mb s::jL mb (Value.int .i64) (fun b=>jM b 0 sz) (eY (E.map fun e=>(e.1,e.2.1)) (k:Int) b)::kJ (gq E)::r) (dB sb s::r):=by
  have e:jL mb (Value.int .i64) (fun b=>jM b 0 sz) (eY (E.map fun e=>(e.1,e.2.1)) (k:Int) b)=iN mb sz (E++[((k:Int),b,l)]):=by
    unfold iN;rw[kS b (by rw[pH,h];rfl)];simp
  rw[e];have e2:gq (E++[((k:Int),b,l)])=gq E++[iM b l]:=by simp[gq]
  have h0:aB (j5 sb mb s::iN mb sz (E++[((k:Int),b,l)])::kJ (gq (E++[((k:Int),b,l)]))::r) (dB sb s::r):=fu (by rw[hm];simp[oA]) hz;refine aB.trans ?_ h0;refine aB.trans (aB.perm (List.perm_middle (l₁:=[j5 sb mb s,iN mb sz (E++[((k:Int),b,l)]),kJ (gq E)]) (a:=iM b l) (l₂:=r)).symm) ?_;refine aB.cons _ (aB.cons _ (aB.trans aB.unpack ?_));rw[e2];have h3:gq E++iM b l::r=(gq E++[iM b l])++r:=by simp
  show aB (gq E++iM b l::r) _
  rw[h3];exact aB.pack
theorem OK(s:jU):(tY s).1.m=s.m∧(tY s).1.size=s.size∧(tY s).1.cap=s.cap∧(tY s).1.fail=s.fail∧(tY s).1.zq=s.zq:=by
 unfold tY;dsimp only;split<;>exact⟨rfl,rfl,rfl,rfl,rfl⟩
theorem zw(s:jU)(id:Int)(r:Prop)[Decidable r]:(fm s id r).1.m=s.m∧(fm s id r).1.size=s.size:=by
 unfold fm
 split
 · exact⟨rfl,rfl⟩
 · split
   · exact⟨rfl,rfl⟩
   · have h:=OK s
     split<;>rename_i h2<;>rw[h2] at h<;>exact⟨h.1,h.2.1⟩
theorem CU{r:Prop}[Decidable r](h:(fm s id r).2=0):r∧∃l,aq s.m id=some l:=by
 unfold fm at h
 split at h
 · cases h
 · split at h
   · cases h
   · rename_i l hl hr
     exact⟨Classical.not_not.1 hr,l,hl⟩
theorem eC:aB r (kJ []::r):=fun F S w x=>⟨fun _=>False,F,fun _ h=>h.elim,fun _ h=>h,trivial,x⟩
theorem wG{κ:Type}[DecidableEq κ]{D:List (κ×α)}{a:κ}{v:α}(h:aq D a=some v):∃e∈D,e.2=v:=by
 unfold aq at h;cases hf:D.find? fun p=>decide (p.1=a) with
 |none=>rw[hf] at h;cases h
 |some p=>rw[hf] at h;cases h;exact⟨p,List.mem_of_find?_eq_some hf,rfl⟩
theorem LN{r:Prop}[Decidable r](h:aq s.m id=none):fm s id r=(s,2):=by unfold fm;rw[h]
theorem HZ{r:Prop}[Decidable r](h:aq s.m id≠none)(hr:¬r):fm s id r=(s,1):=by
 unfold fm
 split
 · rename_i h2;exact absurd h2 h
 · rw[if_pos hr]
theorem CV{r:Prop}[Decidable r](h:aq s.m id≠none)(hr:r):((tY s).2=true→fm s id r=((tY s).1,0))∧(¬(tY s).2=true→fm s id r=((tY s).1,9)):=by
 unfold fm
 split
 · rename_i h2;exact absurd h2 h
 · rw[if_neg (fun hn=>hn hr)]
   cases ho:tY s with
   |mk s1 b=>cases b<;>simp
def BI(s:jU)(id:Int):jU×List UInt8×Nat:=match fm s id True with
 |(s1,0)=>(s1,(aq s.m id).getD [],0)
 |(s1,e)=>(s1,[],e)
def kU(s:jU)(id:Int)(ys:List UInt8):jU×Nat:=match fm s id (ys.length=s.size) with
 |(s1,0)=>({s1 with m:=gM s1.m id ys},0)
 |(s1,e)=>(s1,e)
def tE(s:jU)(id:Int):jU×Nat:=match fm s id True with
 |(s1,0)=>({s1 with m:=jh s1.m id},0)
 |(s1,e)=>(s1,e)
def zx(s:jU)(g:jU×Int×Nat):Prop:=
 ((tY s).2=false∧g=((tY s).1,0,9))∨((tY s).2=true∧(s.m.length:Int)=s.cap∧g=((tY s).1,0,8))∨
 ((tY s).2=true∧(s.m.length:Int)≠s.cap∧∃id:Nat,id≤s.m.length∧aq s.m (id:Int)=none∧g=({(tY s).1 with m:=s.m++[((id:Int),List.replicate s.size 0)],zq:=max s.zq ((s.m.length:Int)+1)},(id:Int),0))
theorem LO(h:(fm s id True).2≠0):BI s id=((fm s id True).1,[],(fm s id True).2):=by
 unfold BI
 split
 · rename_i h2;rw[h2] at h;exact absurd rfl h
 · rename_i h2;rw[h2]
theorem E1(h:(fm s id True).2=0)(hl:aq s.m id=some l):BI s id=((fm s id True).1,l,0):=by
 cases hu:fm s id True with
 |mk s1 e=>rw[hu] at h;simp only at h;subst h;simp[BI,hu,hl]
theorem H6{ys:List UInt8}(h:(fm s id (ys.length=s.size)).2≠0):kU s id ys=((fm s id (ys.length=s.size)).1,(fm s id (ys.length=s.size)).2):=by
 unfold kU
 split
 · rename_i h2;rw[h2] at h;exact absurd rfl h
 · rename_i h2;rw[h2]
theorem BJ{ys:List UInt8}(h:(fm s id (ys.length=s.size)).2=0):kU s id ys=({(fm s id (ys.length=s.size)).1 with m:=gM s.m id ys},0):=by
 have hm:=(zw s id (ys.length=s.size)).1;cases hu:fm s id (ys.length=s.size) with
 |mk s1 e=>rw[hu] at h hm;simp only at h hm;subst h;simp[kU,hu,hm]
theorem LP(h:(fm s id True).2≠0):tE s id=((fm s id True).1,(fm s id True).2):=by
 unfold tE
 split
 · rename_i h2;rw[h2] at h;exact absurd rfl h
 · rename_i h2;rw[h2]
theorem E3(h:(fm s id True).2=0):tE s id=({(fm s id True).1 with m:=jh s.m id},0):=by
 have hm:=(zw s id True).1;cases hu:fm s id True with
 |mk s1 e=>rw[hu] at h hm;simp only at h hm;subst h;simp[tE,hu,hm]
theorem CW{x:HP}(hm:s.m=jh (oA E) id)(hz:sz=s.size):
    aB (j5 sb mb s::jL mb (Value.int .i64) (fun b=>jM b 0 sz) (gf (E.map fun e=>(e.1,e.2.1)) id)::x::kJ (gq (jh E id))::r) (dB sb s::r):=by
  have e:jL mb (Value.int .i64) (fun b=>jM b 0 sz) (gf (E.map fun e=>(e.1,e.2.1)) id)=iN mb sz (jh E id):=by
    unfold iN;rw[EZ,CP (fun x:Nat×List UInt8=>x.1)]
  rw[e];refine aB.trans (aB.cons _ (aB.cons _ (aB.drop (aB.refl _)))) (fu ?_ hz);rw[hm];exact CP (fun x:Nat×List UInt8=>x.2) id E
theorem OL(s:jU):∃k f,(tY s).1={s with ops:=k,failed:=f}:=by
 unfold tY;dsimp only;split
 · exact⟨_,_,rfl⟩
 · exact⟨_,s.failed,rfl⟩
theorem LQ{m:List (Int×α)}(h:∀j:Nat,j<k→aq m (j:Int)≠none):k≤m.length:=by
 have h1:((List.range k).map fun j:Nat=>(j:Int)).Nodup:=by
  have h2:=List.nodup_range (n:=k);unfold List.Nodup at h2 ⊢;rw[List.pairwise_map];exact h2.imp fun hab e=>hab (by omega)
 have h3:=CQ (m:=m.map (·.1)) h1 fun x hx=>by
  obtain⟨j,hj,rfl⟩:=List.mem_map.1 hx;have h4:=h j (List.mem_range.1 hj);unfold aq at h4;cases hf:m.find? fun p=>decide (p.1=(j:Int)) with
  |none=>rw[hf] at h4;exact absurd rfl h4
  |some p=>
   have h5:=List.find?_some hf;exact List.mem_map.2 ⟨p,List.mem_of_find?_eq_some hf,by simpa using h5⟩
 simpa using h3
abbrev iV(n:Int):VP:=ag .i64 n
def Xc(b:Bool):List VP:=[ak (b=true)]
instance:gZ 1 Xc:=⟨fun _=>rfl,fun x q h=>by simp only[Xc,List.mem_cons,List.not_mem_nil,or_false] at h;subst h;infer_instance⟩
def jD:VP:=⟨fun _ _ _=>True,fun _ _ _=>trivial⟩
theorem af.any{q:VP}:af q jD:=fun _ _ _ _=>trivial
open Classical in
noncomputable def kn(p:Prop)(e:Int):Int:=if p then e else 0
theorem cM{p:Prop}{e:Int}(he:e≠0):kn p e=0↔¬p:=by unfold kn;split<;>simp_all
def ig(g:Nat→Int):Nat→Int
 |0=>0
 |n+1=>if ig g n≠0 then ig g n else g n
theorem mj{g:Nat→Int}:∀{n:Nat},ig g n=0↔∀i,i<n→g i=0
 |0=>by simp[ig]
 |n+1=>by
  simp only[ig]
  split
  · rename_i h
    constructor
    · intro h';exact absurd h' h
    · intro h';exact absurd (mj.2 fun i hi=>h' i (by omega)) h
  · rename_i h
    have h0:ig g n=0:=by simpa using h
    constructor
    · intro h' i hi
      by_cases e:i=n
      · subst e;exact h'
      · exact mj.1 h0 i (by omega)
    · intro h';exact h' n (by omega)
theorem LR{g:Nat→Int}{n:Nat}(h0:ig g k=0)(hk:g k≠0)(hn:k<n):ig g n=g k:=by
 induction n with
 |zero=>omega
 |succ n ih=>
  by_cases e:k=n
  · subst e;simp[ig,h0]
  · have:=ih (by omega)
    simp[ig,this,hk]
def oB(xs:List α)(f:α→Int)(i:Nat):Int:=match xs[i]? with|some x=>f x|none=>0
theorem kV{xs:List α}{f:α→Int}{i:Nat}{x:α}(h:xs[i]?=some x):oB xs f i=f x:=by simp[oB,h]
theorem fA{xs:List α}{f:α→Int}:ig (oB xs f) xs.length=0↔∀x∈xs,f x=0:=by
 rw[mj];constructor
 · intro h x hx
   obtain⟨i,hi⟩:=List.mem_iff_getElem?.1 hx;have:=h i (List.getElem?_eq_some_iff.1 hi).1
   rwa [kV hi] at this
 · intro h i hi
   obtain⟨x,hx⟩:=ah hi;rw[kV hx];exact h x (List.mem_of_getElem? hx)
open Classical in
noncomputable def nE{α:Type}(p:α→Prop):List α→Int
 |[]=> -1
 |x::l=>if p x then 0 else if nE p l<0 then-1 else nE p l+1
theorem Ky{α:Type}(p:α→Prop):∀l:List α,-1≤nE p l
 |[]=>by simp[nE]
 |x::l=>by unfold nE;have:=Ky p l;split<;>(try split)<;>omega
theorem ji{α:Type}{p:α→Prop}:∀{l:List α},0≤nE p l↔∃x∈l,p x
 |[]=>by simp[nE]
 | x ::l=>by
  unfold nE;have ih:=ji (p:=p) (l:=l)
  split
  · rename_i h;simp[h]
  · rename_i h
    split
    · rename_i h2
      simp only[List.mem_cons,exists_eq_or_imp,h,false_or];rw[←ih];omega
    · rename_i h2
      simp only[List.mem_cons,exists_eq_or_imp,h,false_or];rw[←ih];omega
theorem nk{p:α→Prop}{l:List α}(h:∀x∈l,¬p x):nE p l= -1:=by
 have h1:=Ky p l;have h2:¬0≤nE p l:=fun h'=>by obtain⟨x,hx,hp⟩:=ji.1 h';exact h x hx hp
 omega
theorem qu{α:Type}{p:α→Prop}:∀{l:List α} {k:Nat} {x:α},l[k]?=some x→p x→(∀j y,j<k→l[j]?=some y→¬p y)→nE p l=k
 |[],_,_,h,_,_=>by simp at h
 |y::l,0,x,h,hp,_=>by simp at h;subst h;simp[nE,hp]
 |y::l,k+1,x,h,hp,hn=>by
  have h1:=qu (l:=l) (k:=k) (x:=x) (by simpa using h) hp (fun j z hj hz=>hn (j+1) z (by omega) (by simpa using hz));have h2:=hn 0 y (by omega) rfl;unfold nE;rw[if_neg h2,h1,if_neg (by omega)];omega
def cT(p:α→Prop)(l:List α)(k:Nat):Prop:=∀j y,j<k→l[j]?=some y→¬p y
theorem cT.zero(p:α→Prop)(l:List α):cT p l 0:=fun j y h=>by omega
theorem cT.succ{p:α→Prop}{l:List α}{x:α}(h:cT p l k)(hx:l[k]?=some x)(hp:¬p x):cT p l (k+1):=fun j y hj hy=>by
 by_cases e:j=k
 · subst e;rw[hx] at hy;cases hy;exact hp
 · exact h j y (by omega) hy
theorem cT.all{p:α→Prop}{l:List α}(h:cT p l k)(hk:l.length≤k):∀x∈l,¬p x:=fun x hx=>by
 obtain⟨j,hj⟩:=List.mem_iff_getElem?.1 hx;exact h j x (by have:=(List.getElem?_eq_some_iff.1 hj).1;omega) hj
theorem Rv{cs:List VP}{j:Nat}{q:VP}(h:cs[j]?=some q):af (bT (cs.drop (j*1))) (bT [q]):=fun S w v ⟨b,off,hv,hb,hc⟩=>⟨b,off,hv,hb,fun t p ht=>by
 cases t with
 |zero=>simp at ht;subst ht;exact hc 0 q (by rw[Nat.mul_one,List.getElem?_drop];simpa using h)
 |succ t=>simp at ht⟩
structure Fr where
 at_:Nat
 k:bD
 used:Bool
 seen:Bool
 dz:Bool
def q7(f:Fr):List VP:=[aU (f.at_:Int),aU f.k.1,aU f.k.2,ak (BP f.used),ak (BP f.seen),ak (BP f.dz)]
instance:gZ 6 q7:=⟨fun _=>rfl,fun x q h=>by simp only[q7,List.mem_cons,List.not_mem_nil,or_false] at h;rcases h with h|h|h|h|h|h<;>subst h<;>infer_instance⟩
structure tF where
 (pb sb fb cap m1 m2 n lo hi:Nat)
 Y:ox
structure jQ where
 l:List Fr
 hand:Nat
 oa:List (bD×Int)
 bm:List (bD×Int)
 fault:Nat
 closed:Bool
def gj(X:tF)(p:jQ):HP:=ax X.pb [aD X.Y.ab 0,aD X.sb 0,aa (bt (some (X.fb,X.cap)) X.n),aU (p.hand:Int),aa (.map (some X.m1)),aa (.map (some X.m2)),aU (p.fault:Int),ak (BP p.closed)]
def nF(X:tF)(p:jQ):HP:=av (some (X.fb,X.cap)) 6 q7 p.l
def H7(X:tF)(p:jQ):HP:=jL X.m1 xH aU p.oa
def qv(X:tF)(p:jQ):HP:=jL X.m2 xH aU p.bm
def zy(p:jQ):Prop:=p.closed=true∨p.fault≠0
instance (p:jQ):Decidable (zy p):=inferInstanceAs (Decidable (_∨_))
def dK(l:List UInt8):Prop:=∀x∈l,x=0
def tZ(p:jQ)(size:Nat)(k:bD)(at_ n:Int):Nat:=if zy p then 12 else if k.1<0∨k.2<0 then 1 else if at_<0∨n<0∨(size:Int)<at_∨(size:Int)-at_<n then 2 else 0
def j6(p:jQ)(s:jU)(k:bD):jQ×jU×Nat:=match aq p.bm k with
 |none=>(p,s,0)
 |some id=>({p with bm:=gf p.bm k},(tE s id).1,(tE s id).2)
def H8(p:jQ)(k:bD):Prop:=(aq p.oa k).isSome=true∨(aq p.bm k).isSome=true
structure OM(X:tF)(p:jQ)(a:ej)(s:jU):Prop where
 n:p.l.length=X.n
 pos:0<X.n
 most:X.n≤64
 hand:p.hand<X.n
 room:∀f∈p.l,(X.lo≤f.at_∧f.at_+s.size≤X.hi)∧f.at_+s.size≤X.Y.size
 ar:dy X.Y a
 st:qt s
theorem aB.xM{a b:HP}(h:a=b):aB (a::r) (b::r):=h▸aB.refl _
variable {X:tF} {p:jQ}
theorem LS{q:jQ}(h:p.l=q.l):nF X p=nF X q:=by unfold nF;rw[h]
theorem ON(p:jQ)(s:jU)(k:bD):(j6 p s k).1.l=p.l:=by unfold j6;split<;>rfl
def jQ.CX(p:jQ)(i:Nat)(f:Fr):jQ:={p with l:=p.l.set i f}
inductive zz(p:jQ)(a:ej)(s:jU)(i:Nat)(fr:Fr):jQ×jU×Nat→Prop
 |clean (h:¬(fr.used=true∧fr.dz=true)):zz p a s i fr (p,s,0)
 |zero (h:fr.used=true∧fr.dz=true) (hz:dK (a.get fr.at_ s.size)):zz p a s i fr (j6 (p.CX i {fr with dz:=false}) s fr.k)
 |has (h:fr.used=true∧fr.dz=true) (hz:¬dK (a.get fr.at_ s.size)) (id:Int) (hid:aq p.bm fr.k=some id):zz p a s i fr (p.CX i {fr with dz:=false},(kU s id (a.get fr.at_ s.size)).1,(kU s id (a.get fr.at_ s.size)).2)
 |full (h:fr.used=true∧fr.dz=true) (hz:¬dK (a.get fr.at_ s.size)) (hid:aq p.bm fr.k=none) (ga:jU×Int×Nat) (V3:zx s ga) (he:ga.2.2≠0):zz p a s i fr (p,ga.1,ga.2.2)
 |new (h:fr.used=true∧fr.dz=true) (hz:¬dK (a.get fr.at_ s.size)) (hid:aq p.bm fr.k=none) (ga:jU×Int×Nat) (V3:zx s ga) (he:ga.2.2=0):zz p a s i fr ({p with l:=p.l.set i {fr with dz:=false},bm:=eY p.bm fr.k ga.2.1},(kU ga.1 ga.2.1 (a.get fr.at_ s.size)).1,(kU ga.1 ga.2.1 (a.get fr.at_ s.size)).2)
theorem AZ{m:List (Int×α)}{k:Int}(h:aq m k=none):k∉m.map (fun e=>e.1):=by
 intro hk;obtain⟨e,he,OA⟩:=List.mem_map.1 hk;unfold aq at h;cases hf:m.find? fun p=>decide (p.1=k) with
 |none=>have:=List.find?_eq_none.1 hf e he;simp[OA] at this
 |some p=>rw[hf] at h;cases h
theorem qt.op(h:qt s){s':jU}(hm:s'.m=s.m)(hz:s'.size=s.size)(hc:s'.cap=s.cap):qt s':=
 ⟨hz▸h.size,hc▸h.cap,by rw[hm,hz];exact h.len,by rw[hm];exact h.keys,by rw[hm,hc];exact h.many,by rw[hm];exact h.nodup⟩
theorem qt.alloc(h:qt s){g:jU×Int×Nat}(hg:zx s g):qt g.1∧g.1.size=s.size:=by
 have ho:=OK s;rcases hg with⟨_,rfl⟩|⟨_,_,rfl⟩|⟨_,hne,id,hid,hno,rfl⟩
 · exact⟨h.op ho.1 ho.2.1 ho.2.2.1,ho.2.1⟩
 · exact⟨h.op ho.1 ho.2.1 ho.2.2.1,ho.2.1⟩
 · have h1:=h.many
   have h2:=h.cap;refine⟨⟨?_,?_,?_,?_,?_,?_⟩,ho.2.1⟩
   · show(tY s).1.size≤1024;rw[ho.2.1];exact h.size
   · show(tY s).1.cap≤4096;rw[ho.2.2.1];exact h.cap
   · intro e he
     show e.2.length=(tY s).1.size
     rw[ho.2.1];rcases List.mem_append.1 he with h3|h3
     · exact h.len e h3
     · simp at h3;subst h3;simp
   · intro e he
     rcases List.mem_append.1 he with h3|h3
     · exact h.keys e h3
     · simp at h3;subst h3;exact⟨by simp,by show(id:Int)<4096;omega⟩
   · show((s.m++[((id:Int),List.replicate s.size 0)]).length:Int)≤(tY s).1.cap
     rw[ho.2.2.1];simp;omega
   · show(List.map (fun e:Int×List UInt8=>e.1) (s.m++[((id:Int),List.replicate s.size 0)])).Nodup
     rw[List.map_append,List.nodup_append];refine⟨h.nodup,by simp,fun a ha b hb e=>?_⟩;simp at hb;subst e;subst hb
     exact AZ hno ha
def fF(l:List UInt8)(c:UInt8):Nat→List UInt8
 |0=>[]
 |k+1=>if l.getD k 0=c then fF l c k else l.take (k+1)
theorem zA{l:List UInt8}{c:UInt8}:∀{k:Nat},k≤l.length→(fF l c k=[]↔∀j,j<k→l.getD j 0=c)
 |0,_=>by simp[fF]
 |k+1,hk=>by
  unfold fF;by_cases h:l.getD k 0=c
  · rw[if_pos h,zA (by omega)]
    constructor
    · intro h2 j hj
      rcases Nat.lt_or_ge j k with h3|h3
      · exact h2 j h3
      · rw[show j=k by omega];exact h
    · intro h2 j hj;exact h2 j (by omega)
  · rw[if_neg h]
    constructor
    · intro h2
      have h3:(l.take (k+1)).length=0:=by rw[h2];rfl
      rw[List.length_take] at h3;omega
    · intro h2;exact absurd (h2 k (by omega)) h
def q8(l:List UInt8)(c:UInt8):List UInt8:=l.dropWhile fun b=>decide (b=c)
theorem LU{c:UInt8}:q8 l c=[]↔∀b∈l,b=c:=by
 unfold q8
 induction l with
 |nil=>simp
 |cons x l ih=>
  rw[List.dropWhile_cons];by_cases h:x=c
  · rw[if_pos (by simpa using h),ih];simp[h]
  · rw[if_neg (by simpa using h)];simp[h]
theorem LV{c:UInt8}:fF l c l.length=[]↔∀b∈l,b=c:=by
 rw[zA (Nat.le_refl _)];constructor
 · intro h b hb
   obtain⟨j,hj,rfl⟩:=List.mem_iff_getElem.1 hb;have:=h j hj;simpa[List.getD_eq_getElem?_getD,hj] using this
 · intro h j hj
   have:=h (l[j]) (List.getElem_mem hj);simpa[List.getD_eq_getElem?_getD,hj] using this
theorem zC{l:List UInt8}{c:UInt8}:∀{k:Nat},∀b,b∈fF l c k→b∈l
 |0,b,h=>by simp[fF] at h
 |k+1,b,h=>by
  unfold fF at h
  split at h
  · exact zC b h
  · exact List.mem_of_mem_take h
theorem LW:q8 (fF l 0 l.length) 0=[]↔dK l:=by
 rw[LU];constructor
 · intro h
   by_cases hn:fF l 0 l.length=[]
   · exact LV.1 hn
   · exfalso
     have key:∀k,k≤l.length→fF l 0 k≠[]→∃b∈fF l 0 k,b≠0:=by
      intro k
      induction k with
      |zero=>intro _ h;exact absurd rfl h
      |succ k ih=>
       intro hk hne;unfold fF at hne ⊢;by_cases hc:l.getD k 0=0
       · rw[if_pos hc] at hne ⊢;exact ih (by omega) hne
       · rw[if_neg hc]
         refine⟨l.getD k 0,?_,hc⟩;have HJ:k<l.length:=by omega
         rw[List.mem_iff_getElem?];exact⟨k,by rw[List.getElem?_take,if_pos (by omega)];simp[List.getD_eq_getElem?_getD,HJ]⟩
     obtain⟨b,hb,hb0⟩:=key _ (Nat.le_refl _) hn;exact hb0 (h b hb)
 · intro h b hb
   exact h b (zC b hb)
theorem Kz{α:Type}(p:α→Prop):∀l:List α,nE p l<l.length
 |[]=>by simp[nE]
 |x::l=>by unfold nE;have:=Kz p l;simp only[List.length_cons];split<;>(try split)<;>omega
def ua(f:Fr):Fr:={f with seen:=false}
structure wH(X:tF)(p p1:jQ):Prop where
 l:p1.l.map ua=p.l.map ua
 len:p1.l.length=X.n
 hand:p1.hand<X.n
 rest:p1={p with l:=p1.l,hand:=p1.hand}
theorem wH.refl(h:OM X p a s):wH X p p:=⟨rfl,h.n,h.hand,rfl⟩
theorem wH.next{p1:jQ}(h:wH X p p1)(h0:0<X.n):wH X p {p1 with hand:=(p1.hand+1)%X.n}:=
 ⟨h.l,h.len,Nat.mod_lt _ h0,by have:=h.rest;rw[this]⟩
theorem wH.step{p1:jQ}{x:Fr}(h:wH X p p1)(hx:p1.l[p1.hand]?=some x)(h0:0<X.n):wH X p {p1 with l:=p1.l.set p1.hand {x with seen:=false},hand:=(p1.hand+1)%X.n}:=
 ⟨by
  show(p1.l.set p1.hand {x with seen:=false}).map ua=p.l.map ua
  rw[←h.l,List.map_set];apply List.ext_getElem?;intro j;rw[List.getElem?_set];by_cases hj:p1.hand=j
  · subst hj
    have hl:=(List.getElem?_eq_some_iff.1 hx).1;rw[if_pos rfl,if_pos (by simpa using hl),List.getElem?_map,hx];rfl
  · rw[if_neg hj],by simpa using h.len,Nat.mod_lt _ h0,by have:=h.rest;rw[this]⟩
theorem BK:∀{l:List Fr} {k:Nat} {x:Fr},l[k]?=some x→x.seen=true→((l.set k {x with seen:=false}).filter (·.seen)).length<(l.filter (·.seen)).length
 |[],_,_,h,_=>by simp at h
 |f::l,0,x,h,hs=>by
  simp at h;subst h
  simp[hs]
 |f::l,k+1,x,h,hs=>by
  have:=BK (l:=l) (k:=k) (x:=x) (by simpa using h) hs;rw[List.set_cons_succ];cases hf:f.seen<;>simp[hf]<;>omega
end Go.Hl
end
