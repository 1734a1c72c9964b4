/-
  What the statement's proof leans on, several texts in one (packed by a program).
-/
import Derived.Test.YtmacjbfbpjgmnaaGreatDoorRNI
import Derived.Test.YtmacjbfbpjgmnaaGreatDoorChecked
set_option linter.all false
set_option maxRecDepth 1000000
set_option maxHeartbeats 4000000
section
namespace Go.Proofs
open Go.Hl
instance:FB Tryz.prog 4:={}
instance:FB Tryz.prog 5:={}
instance:FB Tryz.prog 6:={}
instance:FB Tryz.prog 7:={}
instance:FB Tryz.prog 8:={}
instance:FB Tryz.prog 9:={}
instance:FB Tryz.prog 10:={}
instance:FB Tryz.prog 11:={}
instance:FB Tryz.prog 12:={}
instance:FB Tryz.prog 13:={}
instance:FB Tryz.prog 14:={}
instance:FB Tryz.prog 15:={}
instance:FB Tryz.prog 16:={}
instance:FB Tryz.prog 17:={}
instance:FB Tryz.prog 18:={}
instance:FB Tryz.prog 19:={}
instance:FB Tryz.prog 20:={}
instance:FB Tryz.prog 21:={}
instance:FB Tryz.prog 22:={}
instance:FB Tryz.prog 23:={}
instance:FB Tryz.prog 24:={}
instance:FB Tryz.prog 25:={}
instance:FB Tryz.prog 26:={}
instance:FB Tryz.prog 27:={}
instance:FB Tryz.prog 28:={}
instance:FB Tryz.prog 29:={}
instance:FB Tryz.prog 30:={}
instance:FB Tryz.prog 31:={}
instance:FB Tryz.prog 32:={}
instance:FB Tryz.prog 33:={}
instance:FB Tryz.prog 34:={}
instance:FB Tryz.prog 35:={}
instance:FB Tryz.prog 36:={}
instance:FB Tryz.prog 37:={}
instance:FB Tryz.prog 38:={}
instance:FB Tryz.prog 39:={}
instance:FB Tryz.prog 41:={}
instance:FB Tryz.prog 42:={}
instance:FB Tryz.prog 43:={}
instance:FB Tryz.prog 44:={}
instance:FB Tryz.prog 47:={}
instance:FB Tryz.prog 48:={}
instance:FB Tryz.prog 49:={}
instance:FB Tryz.prog 50:={}
instance:FB Tryz.prog 51:={}
instance:FB Tryz.prog 52:={}
instance:FB Tryz.prog 53:={}
instance:FB Tryz.prog 54:={}
instance:FB Tryz.prog 55:={}
instance:FB Tryz.prog 56:={}
instance:FB Tryz.prog 57:={}
instance:FB Tryz.prog 58:={}
instance:FB Tryz.prog 59:={}
instance:FB Tryz.prog 60:={}
instance:FB Tryz.prog 61:={}
instance:FB Tryz.prog 62:={}
instance:FB Tryz.prog 63:={}
instance:FB Tryz.prog 64:={}
instance:FB Tryz.prog 65:={}
instance:FB Tryz.prog 66:={}
instance:FB Tryz.prog 67:={}
instance:FB Tryz.prog 68:={}
instance:FB Tryz.prog 69:={}
instance:FB Tryz.prog 70:={}
instance:FB Tryz.prog 73:={}
instance:FB Tryz.prog 76:={}
instance:FB Tryz.prog 77:={}
instance:FB Tryz.prog 80:={}
instance:FB Tryz.prog 82:={}
instance:FB Tryz.prog 83:={}
instance:FB Tryz.prog 84:={}
instance:FB Tryz.prog 85:={}
instance:FB Tryz.prog 86:={}
instance:FB Tryz.prog 87:={}
instance:FB Tryz.prog 88:={}
instance:FB Tryz.prog 89:={}
instance:FB Tryz.prog 90:={}
instance:FB Tryz.prog 91:={}
instance:FB Tryz.prog 92:={}
instance:FB Tryz.prog 93:={}
instance:FB Tryz.prog 94:={}
instance:FB Tryz.prog 95:={}
instance:FB Tryz.prog 96:={}
instance:FB Tryz.prog 97:={}
instance:FB Tryz.prog 98:={}
instance:FB Tryz.prog 99:={}
instance:FB Tryz.prog 100:={}
instance:FB Tryz.prog 101:={}
instance:FB Tryz.prog 102:={}
instance:FB Tryz.prog 103:={}
instance:FB Tryz.prog 104:={}
instance:FB Tryz.prog 105:={}
instance:FB Tryz.prog 106:={}
instance:FB Tryz.prog 107:={}
instance:FB Tryz.prog 108:={}
instance:FB Tryz.prog 116:={}
instance:FB Tryz.prog 121:={}
instance:FB Tryz.prog 122:={}
instance:FB Tryz.prog 123:={}
instance:FB Tryz.prog 124:={}
instance:FB Tryz.prog 125:={}
instance:FB Tryz.prog 126:={}
instance:FB Tryz.prog 127:={}
instance:FB Tryz.prog 128:={}
instance:FB Tryz.prog 129:={}
instance:FB Tryz.prog 130:={}
instance:FB Tryz.prog 131:={}
instance:FB Tryz.prog 132:={}
instance:FB Tryz.prog 133:={}
instance:FB Tryz.prog 134:={}
instance:FB Tryz.prog 135:={}
instance:FB Tryz.prog 136:={}
instance:FB Tryz.prog 137:={}
instance:FB Tryz.prog 138:={}
instance:FB Tryz.prog 139:={}
instance:FB Tryz.prog 140:={}
instance:FB Tryz.prog 141:={}
instance:FB Tryz.prog 142:={}
instance:FB Tryz.prog 143:={}
instance:FB Tryz.prog 144:={}
instance:FB Tryz.prog 145:={}
instance:FB Tryz.prog 146:={}
instance:FB Tryz.prog 148:={}
instance:FB Tryz.prog 155:={}
instance:FB Tryz.prog 158:={}
instance:FB Tryz.prog 159:={}
instance:FB Tryz.prog 160:={}
instance:FB Tryz.prog 161:={}
instance:FB Tryz.prog 162:={}
instance:FB Tryz.prog 163:={}
instance:FB Tryz.prog 164:={}
instance:FB Tryz.prog 183:={}
instance:FB Tryz.prog 184:={}
instance:FB Tryz.prog 185:={}
instance:FB Tryz.prog 186:={}
instance:FB Tryz.prog 187:={}
instance:FB Tryz.prog 188:={}
instance:FB Tryz.prog 189:={}
instance:FB Tryz.prog 190:={}
instance:FB Tryz.prog 191:={}
instance:FB Tryz.prog 192:={}
instance:FB Tryz.prog 194:={}
instance:FB Tryz.prog 195:={}
instance:FB Tryz.prog 196:={}
instance:FB Tryz.prog 197:={}
instance:FB Tryz.prog 198:={}
instance:FB Tryz.prog 199:={}
instance:FB Tryz.prog 200:={}
instance:FB Tryz.prog 201:={}
instance:FB Tryz.prog 202:={}
instance:FB Tryz.prog 203:={}
instance:FB Tryz.prog 204:={}
instance:FB Tryz.prog 205:={}
instance:FB Tryz.prog 212:={}
instance:FB Tryz.prog 213:={}
instance:FB Tryz.prog 214:={}
instance:FB Tryz.prog 215:={}
instance:FB Tryz.prog 216:={}
instance:FB Tryz.prog 217:={}
instance:FB Tryz.prog 218:={}
instance:FB Tryz.prog 219:={}
instance:FB Tryz.prog 220:={}
instance:FB Tryz.prog 221:={}
instance:FB Tryz.prog 222:={}
instance:FB Tryz.prog 223:={}
instance:FB Tryz.prog 224:={}
instance:FB Tryz.prog 225:={}
instance:FB Tryz.prog 226:={}
instance:FB Tryz.prog 242:={}
instance:FB Tryz.prog 243:={}
instance:FB Tryz.prog 244:={}
instance:FB Tryz.prog 245:={}
instance:FB Tryz.prog 246:={}
instance:FB Tryz.prog 247:={}
instance:FB Tryz.prog 248:={}
instance:FB Tryz.prog 249:={}
instance:FB Tryz.prog 250:={}
instance:FB Tryz.prog 251:={}
instance:FB Tryz.prog 252:={}
instance:FB Tryz.prog 253:={}
instance:FB Tryz.prog 254:={}
instance:FB Tryz.prog 255:={}
instance:FB Tryz.prog 256:={}
instance:FB Tryz.prog 257:={}
instance:FB Tryz.prog 258:={}
instance:FB Tryz.prog 259:={}
instance:FB Tryz.prog 260:={}
instance:FB Tryz.prog 261:={}
instance:FB Tryz.prog 262:={}
instance:FB Tryz.prog 263:={}
instance:FB Tryz.prog 268:={}
instance:FB Tryz.prog 269:={}
instance:FB Tryz.prog 270:={}
instance:FB Tryz.prog 271:={}
instance:FB Tryz.prog 272:={}
instance:FB Tryz.prog 273:={}
instance:FB Tryz.prog 274:={}
instance:FB Tryz.prog 275:={}
instance:FB Tryz.prog 276:={}
instance:FB Tryz.prog 277:={}
instance:FB Tryz.prog 278:={}
instance:FB Tryz.prog 279:={}
instance:FB Tryz.prog 280:={}
instance:FB Tryz.prog 281:={}
instance:FB Tryz.prog 282:={}
instance:FB Tryz.prog 283:={}
instance:FB Tryz.prog 284:={}
instance:FB Tryz.prog 285:={}
instance:FB Tryz.prog 286:={}
instance:FB Tryz.prog 287:={}
instance:FB Tryz.prog 288:={}
instance:FB Tryz.prog 289:={}
instance:FB Tryz.prog 290:={}
instance:FB Tryz.prog 291:={}
instance:FB Tryz.prog 292:={}
instance:FB Tryz.prog 293:={}
instance:FB Tryz.prog 294:={}
instance:FB Tryz.prog 295:={}
instance:FB Tryz.prog 296:={}
instance:FB Tryz.prog 310:={}
instance:FB Tryz.prog 312:={}
instance:FB Tryz.prog 313:={}
instance:FB Tryz.prog 314:={}
instance:FB Tryz.prog 315:={}
instance:FB Tryz.prog 316:={}
instance:FB Tryz.prog 317:={}
instance:FB Tryz.prog 318:={}
instance:FB Tryz.prog 319:={}
instance:FB Tryz.prog 320:={}
instance:FB Tryz.prog 321:={}
instance:FB Tryz.prog 322:={}
instance:FB Tryz.prog 323:={}
instance:FB Tryz.prog 324:={}
instance:FB Tryz.prog 325:={}
instance:FB Tryz.prog 326:={}
instance:FB Tryz.prog 327:={}
instance:FB Tryz.prog 328:={}
instance:FB Tryz.prog 329:={}
instance:FB Tryz.prog 330:={}
instance:FB Tryz.prog 331:={}
instance:FB Tryz.prog 332:={}
instance:FB Tryz.prog 336:={}
instance:FB Tryz.prog 337:={}
instance:FB Tryz.prog 338:={}
instance:FB Tryz.prog 339:={}
instance:FB Tryz.prog 340:={}
instance:FB Tryz.prog 341:={}
instance:FB Tryz.prog 360:={}
instance:FB Tryz.prog 361:={}
instance:FB Tryz.prog 362:={}
instance:FB Tryz.prog 363:={}
instance:FB Tryz.prog 364:={}
instance:FB Tryz.prog 365:={}
instance:FB Tryz.prog 366:={}
instance:FB Tryz.prog 367:={}
instance:FB Tryz.prog 368:={}
instance:FB Tryz.prog 369:={}
instance:FB Tryz.prog 370:={}
instance:FB Tryz.prog 371:={}
instance:FB Tryz.prog 372:={}
instance:FB Tryz.prog 373:={}
instance:FB Tryz.prog 374:={}
instance:FB Tryz.prog 375:={}
instance:FB Tryz.prog 376:={}
instance:FB Tryz.prog 377:={}
instance:FB Tryz.prog 378:={}
instance:FB Tryz.prog 379:={}
instance:FB Tryz.prog 380:={}
instance:FB Tryz.prog 381:={}
instance:FB Tryz.prog 382:={}
instance:FB Tryz.prog 387:={}
instance:FB Tryz.prog 388:={}
instance:FB Tryz.prog 389:={}
instance:FB Tryz.prog 395:={}
instance:FB Tryz.prog 396:={}
instance:FB Tryz.prog 397:={}
instance:FB Tryz.prog 398:={}
instance:FB Tryz.prog 403:={}
theorem Tryz.Tj:S6 Tryz.prog 399 Extern.BytealgIndexByte.indexByte:=fun args w=>Go.run_callFunc_extern Tryz.func399 (by kernel_rfl) (by kernel_rfl) (by kernel_rfl) (by kernel_rfl) args w
instance:FU Tryz.prog 2 (.int .i64):=⟨Tryz.underlying2⟩
instance Tryz.XI:FA Tryz.prog 3 false:={}
instance Tryz.XJ:FC Tryz.prog 3 1:={}
instance:FU Tryz.prog 3 (.int .i64):=⟨Tryz.underlying3⟩
instance:FY Tryz.prog 3 8:={}
instance:FZ Tryz.prog 3 [.int .i64 0]:={}
instance:FA Tryz.prog 4 false:={}
instance:FC Tryz.prog 4 1:={}
instance:FU Tryz.prog 4 .bool:=⟨Tryz.underlying4⟩
instance:FA Tryz.prog 5 false:={}
instance:FC Tryz.prog 5 1:={}
instance:FU Tryz.prog 5 (.int .u8):=⟨Tryz.underlying5⟩
instance:FY Tryz.prog 5 1:={}
instance:FZ Tryz.prog 5 [.int .u8 0]:={}
instance:FA Tryz.prog 9 false:={}
instance:FC Tryz.prog 9 1:={}
instance:FU Tryz.prog 9 .string:=⟨Tryz.underlying9⟩
instance:FA Tryz.prog 21 false:={}
instance:FU Tryz.prog 21 (.int .i32):=⟨Tryz.underlying21⟩
instance:FA Tryz.prog 23 true:={}
instance Tryz.XK:FC Tryz.prog 23 3:={}
instance:FZ Tryz.prog 23 [.int .i64 0, .int .i64 0, .int .i64 0]:={}
instance:FP Tryz.prog 23 [(0,1),(1,1),(2,1)]:={}
instance:FF Tryz.prog 23 0 0:={}
instance:FF Tryz.prog 23 1 1:={}
instance:FF Tryz.prog 23 2 2:={}
instance Tryz.XO:FA Tryz.prog 24 false:={}
instance:FU Tryz.prog 24 (.slice 64):=⟨Tryz.underlying24⟩
instance:FA Tryz.prog 26 false:={}
instance:FU Tryz.prog 26 (.pointer 94):=⟨Tryz.underlying26⟩
instance:FA Tryz.prog 28 false:={}
instance:FC Tryz.prog 28 1:={}
instance:FZ Tryz.prog 28 [.int .i64 0]:={}
instance:FA Tryz.prog 30 true:={}
instance:FC Tryz.prog 30 5:={}
instance:FZ Tryz.prog 30 [.int .i64 0, .slice none 0 0, .int .i64 0, .int .i64 0, .int .i64 0]:={}
instance:FP Tryz.prog 30 [(0,1),(1,1),(2,1),(3,1),(4,1)]:={}
instance:FF Tryz.prog 30 0 0:={}
instance:FF Tryz.prog 30 1 1:={}
instance:FF Tryz.prog 30 4 4:={}
instance:FA Tryz.prog 38 false:={}
instance:FU Tryz.prog 38 (.pointer 117):=⟨Tryz.underlying38⟩
instance:FA Tryz.prog 41 false:={}
instance:FU Tryz.prog 41 (.pointer 121):=⟨Tryz.underlying41⟩
instance:FA Tryz.prog 44 false:={}
instance:FU Tryz.prog 44 (.pointer 127):=⟨Tryz.underlying44⟩
instance:FA Tryz.prog 46 false:={}
instance:FU Tryz.prog 46 (.slice 63):=⟨Tryz.underlying46⟩
instance:FA Tryz.prog 47 false:={}
instance:FU Tryz.prog 47 (.slice 203):=⟨Tryz.underlying47⟩
instance:FA Tryz.prog 48 false:={}
instance:FU Tryz.prog 48 (.slice 71):=⟨Tryz.underlying48⟩
instance:FA Tryz.prog 49 false:={}
instance:FU Tryz.prog 49 (.slice 175):=⟨Tryz.underlying49⟩
instance:FA Tryz.prog 50 false:={}
instance:FU Tryz.prog 50 (.slice 172):=⟨Tryz.underlying50⟩
instance:FA Tryz.prog 51 false:={}
instance:FU Tryz.prog 51 (.slice 420):=⟨Tryz.underlying51⟩
instance:FA Tryz.prog 52 false:={}
instance:FU Tryz.prog 52 (.slice 182):=⟨Tryz.underlying52⟩
instance:FA Tryz.prog 53 false:={}
instance:FU Tryz.prog 53 (.slice 185):=⟨Tryz.underlying53⟩
instance:FA Tryz.prog 55 true:={}
instance:FC Tryz.prog 55 10:={}
instance:FZ Tryz.prog 55 [.slice none 0 0, .slice none 0 0, .slice none 0 0, .int .i64 0, .slice none 0 0, .slice none 0 0, .slice none 0 0, .int .i64 0, .slice none 0 0, .slice none 0 0]:={}
instance:FP Tryz.prog 55 [(0,1),(1,1),(2,1),(3,1),(4,1),(5,1),(6,1),(7,1),(8,1),(9,1)]:={}
instance:FF Tryz.prog 55 0 0:={}
instance:FF Tryz.prog 55 1 1:={}
instance:FF Tryz.prog 55 2 2:={}
instance:FF Tryz.prog 55 3 3:={}
instance:FF Tryz.prog 55 4 4:={}
instance:FF Tryz.prog 55 5 5:={}
instance:FF Tryz.prog 55 6 6:={}
instance:FF Tryz.prog 55 7 7:={}
instance:FF Tryz.prog 55 8 8:={}
instance:FF Tryz.prog 55 9 9:={}
instance:FU Tryz.prog 56 (.pointer 194):=⟨Tryz.underlying56⟩
instance:FA Tryz.prog 59 false:={}
instance:FA Tryz.prog 61 false:={}
instance:FU Tryz.prog 61 (.slice 5):=⟨Tryz.underlying61⟩
instance:FC Tryz.prog 63 2:={}
instance:FZ Tryz.prog 63 [.slice none 0 0, .slice none 0 0]:={}
instance:FP Tryz.prog 63 [(0,1),(1,1)]:={}
instance:FF Tryz.prog 63 0 0:={}
instance:FF Tryz.prog 63 1 1:={}
instance:FA Tryz.prog 64 false:={}
instance Tryz.X4:FC Tryz.prog 64 1:={}
instance:FU Tryz.prog 64 (.int .u64):=⟨Tryz.underlying64⟩
instance:FY Tryz.prog 64 8:={}
instance:FZ Tryz.prog 64 [.int .u64 0]:={}
instance:FA Tryz.prog 66 true:={}
instance:FC Tryz.prog 66 5:={}
instance:FZ Tryz.prog 66 [.int .i64 0, .int .u64 0, .int .u64 0, .int .i64 0, .slice none 0 0]:={}
instance:FP Tryz.prog 66 [(0,1),(1,1),(2,1),(3,1),(4,1)]:={}
instance:FF Tryz.prog 66 0 0:={}
instance:FF Tryz.prog 66 1 1:={}
instance:FF Tryz.prog 66 2 2:={}
instance:FF Tryz.prog 66 3 3:={}
instance:FF Tryz.prog 66 4 4:={}
instance:FA Tryz.prog 67 false:={}
instance:FU Tryz.prog 67 (.slice 66):=⟨Tryz.underlying67⟩
instance:FA Tryz.prog 69 true:={}
instance:FC Tryz.prog 69 2:={}
instance:FZ Tryz.prog 69 [.slice none 0 0, .slice none 0 0]:={}
instance:FP Tryz.prog 69 [(0,1),(1,1)]:={}
instance:FF Tryz.prog 69 0 0:={}
instance:FF Tryz.prog 69 1 1:={}
instance:FC Tryz.prog 71 3:={}
instance:FZ Tryz.prog 71 [.int .i64 0, .slice none 0 0, .slice none 0 0]:={}
instance:FP Tryz.prog 71 [(0,1),(1,2)]:={}
instance:FF Tryz.prog 71 0 0:={}
instance:FF Tryz.prog 71 1 1:={}
instance:FA Tryz.prog 74 false:={}
instance:FU Tryz.prog 74 (.pointer 153):=⟨Tryz.underlying74⟩
instance:FA Tryz.prog 75 false:={}
instance:FU Tryz.prog 75 (.pointer 163):=⟨Tryz.underlying75⟩
instance:FU Tryz.prog 79 (.int .u32):=⟨Tryz.underlying79⟩
instance:FF Tryz.prog 81 1 0:={}
instance:FF Tryz.prog 83 0 0:={}
instance:FF Tryz.prog 85 1 0:={}
instance:FF Tryz.prog 87 1 0:={}
instance:FF Tryz.prog 87 2 1:={}
instance:FA Tryz.prog 88 false:={}
instance:FC Tryz.prog 88 1:={}
instance:FU Tryz.prog 88 (.slice 150):=⟨Tryz.underlying88⟩
instance:FF Tryz.prog 91 2 0:={}
instance:FC Tryz.prog 92 2:={}
instance:FU Tryz.prog 92 (.array 2 3):=⟨Tryz.underlying92⟩
instance:FZ Tryz.prog 92 [.int .i64 0, .int .i64 0]:={}
instance:FR Tryz.prog 92 (2,1):={}
instance:FZ Tryz.prog 94 [.pointer none, .int .i64 0, .int .i64 0, .int .i64 0, .pointer none, .pointer none, .int .u32 0, .int .i32 0, .int .u32 0, .slice none 0 0, .int .i64 0, .int .i64 0, .bool false, .int .i64 0, .int .i64 0, .bool false, .int .i64 0, .int .i64 0, .int .i64 0, .slice none 0 0, .int .i64 0, .int .i64 0, .int .i64 0, .bool false]:={}
instance:FP Tryz.prog 94 [(0,1),(1,3),(4,1),(5,1),(6,3),(9,1),(10,1),(11,1),(12,1),(13,1),(14,1),(15,1),(16,2),(18,5),(23,1)]:={}
instance:FF Tryz.prog 94 0 0:={}
instance:FF Tryz.prog 94 1 1:={}
instance:FF Tryz.prog 94 2 4:={}
instance:FF Tryz.prog 94 3 5:={}
instance:FF Tryz.prog 94 4 6:={}
instance:FF Tryz.prog 94 5 9:={}
instance:FF Tryz.prog 94 6 10:={}
instance:FF Tryz.prog 94 7 11:={}
instance:FF Tryz.prog 94 8 12:={}
instance:FF Tryz.prog 94 9 13:={}
instance:FF Tryz.prog 94 10 14:={}
instance:FF Tryz.prog 94 11 15:={}
instance:FF Tryz.prog 94 12 16:={}
instance:FF Tryz.prog 94 13 18:={}
instance:FF Tryz.prog 94 14 23:={}
instance:FA Tryz.prog 95 false:={}
instance:FC Tryz.prog 95 1:={}
instance:FU Tryz.prog 95 (.slice 156):=⟨Tryz.underlying95⟩
instance:FZ Tryz.prog 95 [.slice none 0 0]:={}
instance:FA Tryz.prog 97 true:={}
instance:FC Tryz.prog 97 2:={}
instance:FY Tryz.prog 97 48:={}
instance:FZ Tryz.prog 97 [.slice none 0 0, .slice none 0 0]:={}
instance:FP Tryz.prog 97 [(0,1),(1,1)]:={}
instance:FF Tryz.prog 97 0 0:={}
instance:FF Tryz.prog 97 1 1:={}
instance:FA Tryz.prog 114 false:={}
instance:FA Tryz.prog 115 false:={}
instance:FZ Tryz.prog 117 [.slice none 0 0, .int .i64 0, .int .i64 0, .map none, .map none]:={}
instance:FP Tryz.prog 117 [(0,1),(1,1),(2,1),(3,1),(4,1)]:={}
instance:FF Tryz.prog 117 0 0:={}
instance:FF Tryz.prog 117 1 1:={}
instance:FF Tryz.prog 117 2 2:={}
instance:FF Tryz.prog 117 3 3:={}
instance:FF Tryz.prog 117 4 4:={}
instance:FZ Tryz.prog 121 [.pointer none, .pointer none, .pointer none, .int .i64 0, .int .i64 0, .int .i64 0, .slice none 0 0, .bool false]:={}
instance:FP Tryz.prog 121 [(0,1),(1,1),(2,1),(3,1),(4,1),(5,1),(6,1),(7,1)]:={}
instance:FF Tryz.prog 121 0 0:={}
instance:FF Tryz.prog 121 1 1:={}
instance:FF Tryz.prog 121 4 4:={}
instance:FF Tryz.prog 121 5 5:={}
instance:FF Tryz.prog 121 7 7:={}
instance:FA Tryz.prog 124 false:={}
instance:FC Tryz.prog 124 1:={}
instance:FU Tryz.prog 124 (.slice 97):=⟨Tryz.underlying124⟩
instance:FA Tryz.prog 125 false:={}
instance:FC Tryz.prog 125 1:={}
instance:FU Tryz.prog 125 (.slice 134):=⟨Tryz.underlying125⟩
instance:FZ Tryz.prog 127 [.slice none 0 0, .slice none 0 0, .slice none 0 0, .int .i64 0, .slice none 0 0, .slice none 0 0, .slice none 0 0, .int .i64 0, .slice none 0 0, .slice none 0 0]:={}
instance:FP Tryz.prog 127 [(0,1),(1,1),(2,1),(3,1),(4,1),(5,1),(6,1),(7,1),(8,1),(9,1)]:={}
instance:FF Tryz.prog 127 0 0:={}
instance:FF Tryz.prog 127 1 1:={}
instance:FF Tryz.prog 127 2 2:={}
instance:FF Tryz.prog 127 3 3:={}
instance:FF Tryz.prog 127 4 4:={}
instance:FF Tryz.prog 127 5 5:={}
instance:FF Tryz.prog 127 6 6:={}
instance:FF Tryz.prog 127 7 7:={}
instance:FF Tryz.prog 127 8 8:={}
instance:FF Tryz.prog 127 9 9:={}
instance:FA Tryz.prog 129 false:={}
instance:FU Tryz.prog 129 (.slice 230):=⟨Tryz.underlying129⟩
instance:FA Tryz.prog 131 true:={}
instance:FC Tryz.prog 131 2:={}
instance:FZ Tryz.prog 131 [.slice none 0 0, .slice none 0 0]:={}
instance:FP Tryz.prog 131 [(0,1),(1,1)]:={}
instance:FF Tryz.prog 131 0 0:={}
instance:FF Tryz.prog 131 1 1:={}
instance:FA Tryz.prog 134 true:={}
instance:FC Tryz.prog 134 3:={}
instance:FY Tryz.prog 134 56:={}
instance:FZ Tryz.prog 134 [.int .i64 0, .slice none 0 0, .slice none 0 0]:={}
instance:FP Tryz.prog 134 [(0,1),(1,2)]:={}
instance:FF Tryz.prog 134 0 0:={}
instance:FF Tryz.prog 134 1 1:={}
instance:FU Tryz.prog 135 (.pointer 190):=⟨Tryz.underlying135⟩
instance:FA Tryz.prog 145 false:={}
instance:FU Tryz.prog 145 (.pointer 217):=⟨Tryz.underlying145⟩
instance:FA Tryz.prog 150 true:={}
instance:FC Tryz.prog 150 7:={}
instance:FY Tryz.prog 150 120:={}
instance:FZ Tryz.prog 150 [.slice none 0 0, .slice none 0 0, .pointer none, .slice none 0 0, .slice none 0 0, .int .i64 0, .int .i64 0]:={}
instance:FP Tryz.prog 150 [(0,2),(2,1),(3,2),(5,1),(6,1)]:={}
instance:FF Tryz.prog 150 0 0:={}
instance:FF Tryz.prog 150 1 2:={}
instance:FF Tryz.prog 150 2 3:={}
instance:FF Tryz.prog 150 3 5:={}
instance:FF Tryz.prog 150 4 6:={}
instance:FZ Tryz.prog 153 [.pointer none, .int .i64 0, .int .i64 0, .int .i64 0, .bool false]:={}
instance:FP Tryz.prog 153 [(0,1),(1,1),(2,1),(3,1),(4,1)]:={}
instance:FF Tryz.prog 153 0 0:={}
instance:FF Tryz.prog 153 1 1:={}
instance:FF Tryz.prog 153 2 2:={}
instance:FF Tryz.prog 153 3 3:={}
instance:FF Tryz.prog 153 4 4:={}
instance Tryz.Tk:FA Tryz.prog 156 false:={}
instance:FC Tryz.prog 156 1:={}
instance:FU Tryz.prog 156 (.int .u8):=⟨Tryz.underlying156⟩
instance:FY Tryz.prog 156 1:={}
instance:FZ Tryz.prog 156 [.int .u8 0]:={}
instance:FA Tryz.prog 161 true:={}
instance:FC Tryz.prog 161 3:={}
instance:FZ Tryz.prog 161 [.int .i64 0, .int .i64 0, .int .i64 0]:={}
instance:FP Tryz.prog 161 [(0,1),(1,1),(2,1)]:={}
theorem Tryz.Tl:Tryz.prog.stoodInHeld 161=false:=by kernel_rfl
theorem Tryz.Tm:Tryz.prog.eqGuardType Tryz.prog.depth 161=false:=by kernel_rfl
instance:FF Tryz.prog 161 0 0:={}
instance:FF Tryz.prog 161 1 1:={}
instance:FF Tryz.prog 161 2 2:={}
instance:FZ Tryz.prog 163 [.pointer none, .int .i64 0, .int .i64 0, .int .i64 0, .bool false]:={}
instance:FP Tryz.prog 163 [(0,1),(1,1),(2,1),(3,1),(4,1)]:={}
instance:FF Tryz.prog 163 0 0:={}
instance:FF Tryz.prog 163 1 1:={}
instance:FF Tryz.prog 163 2 2:={}
instance:FF Tryz.prog 163 3 3:={}
instance:FF Tryz.prog 163 4 4:={}
instance:FA Tryz.prog 168 true:={}
instance:FC Tryz.prog 168 4:={}
instance:FY Tryz.prog 168 40:={}
instance:FZ Tryz.prog 168 [.string ⟨#[]⟩, .int .i64 0, .int .i64 0, .int .i64 0]:={}
instance:FP Tryz.prog 168 [(0,1),(1,1),(2,1),(3,1)]:={}
instance:FA Tryz.prog 172 true:={}
instance:FC Tryz.prog 172 3:={}
instance:FZ Tryz.prog 172 [.int .u8 0, .bool false, .int .u64 0]:={}
instance:FF Tryz.prog 172 0 0:={}
instance:FF Tryz.prog 172 1 1:={}
instance:FF Tryz.prog 172 2 2:={}
instance:FA Tryz.prog 175 true:={}
instance:FC Tryz.prog 175 3:={}
instance:FZ Tryz.prog 175 [.int .i64 0, .int .i64 0, .bool false]:={}
instance:FF Tryz.prog 175 0 0:={}
instance:FF Tryz.prog 175 1 1:={}
instance:FF Tryz.prog 175 2 2:={}
instance:FA Tryz.prog 180 false:={}
instance:FC Tryz.prog 180 1:={}
instance:FU Tryz.prog 180 (.slice 3):=⟨Tryz.underlying180⟩
instance:FA Tryz.prog 182 true:={}
instance:FC Tryz.prog 182 2:={}
instance:FZ Tryz.prog 182 [.int .u64 0, .slice none 0 0]:={}
instance:FF Tryz.prog 182 0 0:={}
instance:FF Tryz.prog 182 1 1:={}
instance:FA Tryz.prog 185 true:={}
instance:FC Tryz.prog 185 3:={}
instance:FZ Tryz.prog 185 [.int .i64 0, .int .u64 0, .slice none 0 0]:={}
instance:FF Tryz.prog 185 0 0:={}
instance:FF Tryz.prog 185 1 1:={}
instance:FF Tryz.prog 185 2 2:={}
instance:FZ Tryz.prog 190 [.int .i64 0, .int .i64 0, .int .i64 0, .map none, .int .i64 0, .int .i64 0, .bool false]:={}
instance:FP Tryz.prog 190 [(0,1),(1,1),(2,1),(3,1),(4,1),(5,1),(6,1)]:={}
instance:FF Tryz.prog 190 0 0:={}
instance:FA Tryz.prog 192 false:={}
instance:FC Tryz.prog 192 1:={}
instance:FU Tryz.prog 192 (.slice 198):=⟨Tryz.underlying192⟩
instance:FZ Tryz.prog 194 [.pointer none, .pointer none, .slice none 0 0, .int .i64 0, .map none, .map none, .int .i64 0, .bool false]:={}
instance:FP Tryz.prog 194 [(0,1),(1,1),(2,1),(3,1),(4,1),(5,1),(6,1),(7,1)]:={}
instance:FF Tryz.prog 194 2 2:={}
instance:FC Tryz.prog 198 6:={}
instance:FY Tryz.prog 198 32:={}
instance:FZ Tryz.prog 198 [.int .i64 0, .int .i64 0, .int .i64 0, .bool false, .bool false, .bool false]:={}
instance:FP Tryz.prog 198 [(0,1),(1,2),(3,1),(4,1),(5,1)]:={}
instance:FA Tryz.prog 203 true:={}
instance:FC Tryz.prog 203 3:={}
instance:FZ Tryz.prog 203 [.string ⟨#[]⟩, .string ⟨#[]⟩, .int .i64 0]:={}
instance:FF Tryz.prog 203 0 0:={}
instance:FF Tryz.prog 203 1 1:={}
instance:FF Tryz.prog 203 2 2:={}
instance:FA Tryz.prog 210 false:={}
instance:FC Tryz.prog 210 1:={}
instance:FU Tryz.prog 210 (.slice 221):=⟨Tryz.underlying210⟩
instance:FZ Tryz.prog 210 [.slice none 0 0]:={}
instance:FA Tryz.prog 214 false:={}
instance:FA Tryz.prog 215 false:={}
instance:FC Tryz.prog 215 1:={}
instance:FU Tryz.prog 215 (.slice 267):=⟨Tryz.underlying215⟩
instance:FZ Tryz.prog 217 [.map none, .map none, .map none, .slice none 0 0]:={}
instance:FP Tryz.prog 217 [(0,1),(1,1),(2,1),(3,1)]:={}
instance:FF Tryz.prog 217 0 0:={}
instance:FF Tryz.prog 217 1 1:={}
instance:FF Tryz.prog 217 2 2:={}
instance:FF Tryz.prog 217 3 3:={}
instance:FZ Tryz.prog 219 [.slice none 0 0, .slice none 0 0, .slice none 0 0, .int .i64 0, .pointer none]:={}
instance:FP Tryz.prog 219 [(0,1),(1,1),(2,1),(3,1),(4,1)]:={}
instance:FF Tryz.prog 219 0 0:={}
instance:FF Tryz.prog 219 1 1:={}
instance:FF Tryz.prog 219 2 2:={}
instance:FF Tryz.prog 219 3 3:={}
instance:FF Tryz.prog 219 4 4:={}
instance:FA Tryz.prog 221 true:={}
instance:FC Tryz.prog 221 3:={}
instance:FY Tryz.prog 221 24:={}
instance:FZ Tryz.prog 221 [.int .i64 0, .int .i64 0, .int .i64 0]:={}
instance:FP Tryz.prog 221 [(0,1),(1,1),(2,1)]:={}
instance:FF Tryz.prog 221 0 0:={}
instance:FF Tryz.prog 221 1 1:={}
instance:FF Tryz.prog 221 2 2:={}
instance:FA Tryz.prog 230 true:={}
instance:FC Tryz.prog 230 5:={}
instance:FY Tryz.prog 230 56:={}
instance:FZ Tryz.prog 230 [.int .i64 0, .int .u64 0, .int .u64 0, .int .i64 0, .slice none 0 0]:={}
instance:FP Tryz.prog 230 [(0,1),(1,1),(2,1),(3,1),(4,1)]:={}
instance:FF Tryz.prog 230 0 0:={}
instance:FF Tryz.prog 230 1 1:={}
instance:FF Tryz.prog 230 2 2:={}
instance:FF Tryz.prog 230 3 3:={}
instance:FF Tryz.prog 230 4 4:={}
instance:FA Tryz.prog 232 false:={}
instance:FC Tryz.prog 232 1:={}
instance:FU Tryz.prog 233 (.array 4 232):=⟨Tryz.underlying233⟩
instance:FZ Tryz.prog 233 [.nilFunc, .nilFunc, .nilFunc, .nilFunc]:={}
instance:FR Tryz.prog 233 (4,1):={}
instance:FU Tryz.prog 234 (.slice 168):=⟨Tryz.underlying234⟩
instance:FZ Tryz.prog 259 [.slice none 0 0, .slice none 0 0, .slice none 0 0, .bool false, .int .i64 0]:={}
instance:FP Tryz.prog 259 [(0,1),(1,1),(2,1),(3,1),(4,1)]:={}
instance:FF Tryz.prog 259 0 0:={}
instance:FF Tryz.prog 259 1 1:={}
instance:FF Tryz.prog 259 2 2:={}
instance:FF Tryz.prog 259 3 3:={}
instance:FF Tryz.prog 259 4 4:={}
instance:FA Tryz.prog 264 true:={}
instance:FC Tryz.prog 264 3:={}
instance:FZ Tryz.prog 264 [.int .i64 0, .int .i64 0, .int .i64 0]:={}
instance:FP Tryz.prog 264 [(0,1),(1,1),(2,1)]:={}
instance:FF Tryz.prog 264 0 0:={}
instance:FF Tryz.prog 264 1 1:={}
instance:FF Tryz.prog 264 2 2:={}
instance:FC Tryz.prog 267 2:={}
instance:FY Tryz.prog 267 16:={}
instance:FZ Tryz.prog 267 [.int .i64 0, .int .i64 0]:={}
instance:FP Tryz.prog 267 [(0,1),(1,1)]:={}
theorem Tryz.Tn:Tryz.prog.stoodInHeld 267=false:=by kernel_rfl
instance:FU Tryz.prog 275 (.array 3 3):=⟨Tryz.underlying275⟩
instance:FZ Tryz.prog 275 [.int .i64 0, .int .i64 0, .int .i64 0]:={}
instance:FR Tryz.prog 275 (3,1):={}
instance:FA Tryz.prog 288 true:={}
instance:FC Tryz.prog 288 5:={}
instance:FZ Tryz.prog 288 [.int .i64 0, .string ⟨#[]⟩, .int .i64 0, .slice none 0 0, .slice none 0 0]:={}
instance:FP Tryz.prog 288 [(0,1),(1,1),(2,1),(3,1),(4,1)]:={}
instance:FF Tryz.prog 288 1 1:={}
instance:FF Tryz.prog 288 2 2:={}
instance:FF Tryz.prog 288 3 3:={}
instance:FF Tryz.prog 288 4 4:={}
instance:FU Tryz.prog 317 (.pointer 83):=⟨Tryz.underlying317⟩
instance:FZ Tryz.prog 327 [.pointer none, .slice none 0 0, .slice none 0 0, .slice none 0 0]:={}
instance:FP Tryz.prog 327 [(0,1),(1,1),(2,2)]:={}
instance:FF Tryz.prog 327 0 0:={}
instance:FF Tryz.prog 327 1 1:={}
instance:FF Tryz.prog 327 2 2:={}
instance:FA Tryz.prog 329 true:={}
instance:FC Tryz.prog 329 5:={}
instance:FY Tryz.prog 329 48:={}
instance:FZ Tryz.prog 329 [.bool false, .bool false, .slice none 0 0, .int .i64 0, .bool false]:={}
instance:FP Tryz.prog 329 [(0,1),(1,1),(2,1),(3,1),(4,1)]:={}
instance:FF Tryz.prog 329 0 0:={}
instance:FF Tryz.prog 329 1 1:={}
instance:FF Tryz.prog 329 2 2:={}
instance:FF Tryz.prog 329 3 3:={}
instance:FF Tryz.prog 329 4 4:={}
instance:FA Tryz.prog 330 false:={}
instance:FC Tryz.prog 330 1:={}
instance:FU Tryz.prog 330 (.slice 329):=⟨Tryz.underlying330⟩
instance:FZ Tryz.prog 332 [.pointer none, .slice none 0 0, .slice none 0 0, .slice none 0 0, .slice none 0 0, .slice none 0 0]:={}
instance:FP Tryz.prog 332 [(0,4),(4,1),(5,1)]:={}
instance:FF Tryz.prog 332 0 0:={}
instance:FF Tryz.prog 332 1 4:={}
instance:FF Tryz.prog 332 2 5:={}
instance:FU Tryz.prog 339 (.slice 95):=⟨Tryz.underlying339⟩
instance:FA Tryz.prog 350 true:={}
instance:FC Tryz.prog 350 5:={}
instance:FZ Tryz.prog 350 [.int .i64 0, .string ⟨#[]⟩, .int .i64 0, .string ⟨#[]⟩, .string ⟨#[]⟩]:={}
instance:FP Tryz.prog 350 [(0,1),(1,1),(2,1),(3,1),(4,1)]:={}
instance:FF Tryz.prog 350 0 0:={}
instance:FF Tryz.prog 350 1 1:={}
instance:FF Tryz.prog 350 2 2:={}
instance:FF Tryz.prog 350 3 3:={}
instance:FF Tryz.prog 350 4 4:={}
instance:FU Tryz.prog 354 (.array 3 9):=⟨Tryz.underlying354⟩
instance:FZ Tryz.prog 354 [.string ⟨#[]⟩, .string ⟨#[]⟩, .string ⟨#[]⟩]:={}
instance:FR Tryz.prog 354 (3,1):={}
instance:FA Tryz.prog 371 true:={}
instance:FC Tryz.prog 371 2:={}
instance:FZ Tryz.prog 371 [.string ⟨#[]⟩, .nilFunc]:={}
instance:FP Tryz.prog 371 [(0,1),(1,1)]:={}
instance:FF Tryz.prog 371 0 0:={}
instance:FF Tryz.prog 371 1 1:={}
instance:FU Tryz.prog 372 (.array 10 371):=⟨Tryz.underlying372⟩
instance:FZ Tryz.prog 372 [.string ⟨#[]⟩, .nilFunc, .string ⟨#[]⟩, .nilFunc, .string ⟨#[]⟩, .nilFunc, .string ⟨#[]⟩, .nilFunc, .string ⟨#[]⟩, .nilFunc, .string ⟨#[]⟩, .nilFunc, .string ⟨#[]⟩, .nilFunc, .string ⟨#[]⟩, .nilFunc, .string ⟨#[]⟩, .nilFunc, .string ⟨#[]⟩, .nilFunc]:={}
instance:FR Tryz.prog 372 (10,2):={}
instance:FU Tryz.prog 380 (.int .u64):=⟨Tryz.underlying380⟩
instance:FU Tryz.prog 384 (.slice 388):=⟨Tryz.underlying384⟩
instance:FA Tryz.prog 388 true:={}
instance:FC Tryz.prog 388 2:={}
instance:FY Tryz.prog 388 16:={}
instance:FZ Tryz.prog 388 [.int .i64 0, .int .u8 0]:={}
instance:FP Tryz.prog 388 [(0,1),(1,1)]:={}
instance:FF Tryz.prog 388 0 0:={}
instance:FF Tryz.prog 388 1 1:={}
instance:FZ Tryz.prog 390 [.int .i64 0]:={}
instance:FP Tryz.prog 390 [(0,1)]:={}
instance:FF Tryz.prog 390 0 0:={}
instance:FA Tryz.prog 395 true:={}
instance:FC Tryz.prog 395 235:={}
instance:FU Tryz.prog 395 (.array 47 350):=⟨Tryz.underlying395⟩
instance:FZ Tryz.prog 395 [.int .i64 0, .string ⟨#[]⟩, .int .i64 0, .string ⟨#[]⟩, .string ⟨#[]⟩, .int .i64 0, .string ⟨#[]⟩, .int .i64 0, .string ⟨#[]⟩, .string ⟨#[]⟩, .int .i64 0, .string ⟨#[]⟩, .int .i64 0, .string ⟨#[]⟩, .string ⟨#[]⟩, .int .i64 0, .string ⟨#[]⟩, .int .i64 0, .string ⟨#[]⟩, .string ⟨#[]⟩, .int .i64 0, .string ⟨#[]⟩, .int .i64 0, .string ⟨#[]⟩, .string ⟨#[]⟩, .int .i64 0, .string ⟨#[]⟩, .int .i64 0, .string ⟨#[]⟩, .string ⟨#[]⟩, .int .i64 0, .string ⟨#[]⟩, .int .i64 0, .string ⟨#[]⟩, .string ⟨#[]⟩, .int .i64 0, .string ⟨#[]⟩, .int .i64 0, .string ⟨#[]⟩, .string ⟨#[]⟩, .int .i64 0, .string ⟨#[]⟩, .int .i64 0, .string ⟨#[]⟩, .string ⟨#[]⟩, .int .i64 0, .string ⟨#[]⟩, .int .i64 0, .string ⟨#[]⟩, .string ⟨#[]⟩, .int .i64 0, .string ⟨#[]⟩, .int .i64 0, .string ⟨#[]⟩, .string ⟨#[]⟩, .int .i64 0, .string ⟨#[]⟩, .int .i64 0, .string ⟨#[]⟩, .string ⟨#[]⟩, .int .i64 0, .string ⟨#[]⟩, .int .i64 0, .string ⟨#[]⟩, .string ⟨#[]⟩, .int .i64 0, .string ⟨#[]⟩, .int .i64 0, .string ⟨#[]⟩, .string ⟨#[]⟩, .int .i64 0, .string ⟨#[]⟩, .int .i64 0, .string ⟨#[]⟩, .string ⟨#[]⟩, .int .i64 0, .string ⟨#[]⟩, .int .i64 0, .string ⟨#[]⟩, .string ⟨#[]⟩, .int .i64 0, .string ⟨#[]⟩, .int .i64 0, .string ⟨#[]⟩, .string ⟨#[]⟩, .int .i64 0, .string ⟨#[]⟩, .int .i64 0, .string ⟨#[]⟩, .string ⟨#[]⟩, .int .i64 0, .string ⟨#[]⟩, .int .i64 0, .string ⟨#[]⟩, .string ⟨#[]⟩, .int .i64 0, .string ⟨#[]⟩, .int .i64 0, .string ⟨#[]⟩, .string ⟨#[]⟩, .int .i64 0, .string ⟨#[]⟩, .int .i64 0, .string ⟨#[]⟩, .string ⟨#[]⟩, .int .i64 0, .string ⟨#[]⟩, .int .i64 0, .string ⟨#[]⟩, .string ⟨#[]⟩, .int .i64 0, .string ⟨#[]⟩, .int .i64 0, .string ⟨#[]⟩, .string ⟨#[]⟩, .int .i64 0, .string ⟨#[]⟩, .int .i64 0, .string ⟨#[]⟩, .string ⟨#[]⟩, .int .i64 0, .string ⟨#[]⟩, .int .i64 0, .string ⟨#[]⟩, .string ⟨#[]⟩, .int .i64 0, .string ⟨#[]⟩, .int .i64 0, .string ⟨#[]⟩, .string ⟨#[]⟩, .int .i64 0, .string ⟨#[]⟩, .int .i64 0, .string ⟨#[]⟩, .string ⟨#[]⟩, .int .i64 0, .string ⟨#[]⟩, .int .i64 0, .string ⟨#[]⟩, .string ⟨#[]⟩, .int .i64 0, .string ⟨#[]⟩, .int .i64 0, .string ⟨#[]⟩, .string ⟨#[]⟩, .int .i64 0, .string ⟨#[]⟩, .int .i64 0, .string ⟨#[]⟩, .string ⟨#[]⟩, .int .i64 0, .string ⟨#[]⟩, .int .i64 0, .string ⟨#[]⟩, .string ⟨#[]⟩, .int .i64 0, .string ⟨#[]⟩, .int .i64 0, .string ⟨#[]⟩, .string ⟨#[]⟩, .int .i64 0, .string ⟨#[]⟩, .int .i64 0, .string ⟨#[]⟩, .string ⟨#[]⟩, .int .i64 0, .string ⟨#[]⟩, .int .i64 0, .string ⟨#[]⟩, .string ⟨#[]⟩, .int .i64 0, .string ⟨#[]⟩, .int .i64 0, .string ⟨#[]⟩, .string ⟨#[]⟩, .int .i64 0, .string ⟨#[]⟩, .int .i64 0, .string ⟨#[]⟩, .string ⟨#[]⟩, .int .i64 0, .string ⟨#[]⟩, .int .i64 0, .string ⟨#[]⟩, .string ⟨#[]⟩, .int .i64 0, .string ⟨#[]⟩, .int .i64 0, .string ⟨#[]⟩, .string ⟨#[]⟩, .int .i64 0, .string ⟨#[]⟩, .int .i64 0, .string ⟨#[]⟩, .string ⟨#[]⟩, .int .i64 0, .string ⟨#[]⟩, .int .i64 0, .string ⟨#[]⟩, .string ⟨#[]⟩, .int .i64 0, .string ⟨#[]⟩, .int .i64 0, .string ⟨#[]⟩, .string ⟨#[]⟩, .int .i64 0, .string ⟨#[]⟩, .int .i64 0, .string ⟨#[]⟩, .string ⟨#[]⟩, .int .i64 0, .string ⟨#[]⟩, .int .i64 0, .string ⟨#[]⟩, .string ⟨#[]⟩, .int .i64 0, .string ⟨#[]⟩, .int .i64 0, .string ⟨#[]⟩, .string ⟨#[]⟩, .int .i64 0, .string ⟨#[]⟩, .int .i64 0, .string ⟨#[]⟩, .string ⟨#[]⟩, .int .i64 0, .string ⟨#[]⟩, .int .i64 0, .string ⟨#[]⟩, .string ⟨#[]⟩, .int .i64 0, .string ⟨#[]⟩, .int .i64 0, .string ⟨#[]⟩, .string ⟨#[]⟩]:={}
instance:FR Tryz.prog 395 (47,5):={}
instance:FA Tryz.prog 397 true:={}
instance:FC Tryz.prog 397 30:={}
instance:FU Tryz.prog 397 (.array 6 350):=⟨Tryz.underlying397⟩
instance:FZ Tryz.prog 397 [.int .i64 0, .string ⟨#[]⟩, .int .i64 0, .string ⟨#[]⟩, .string ⟨#[]⟩, .int .i64 0, .string ⟨#[]⟩, .int .i64 0, .string ⟨#[]⟩, .string ⟨#[]⟩, .int .i64 0, .string ⟨#[]⟩, .int .i64 0, .string ⟨#[]⟩, .string ⟨#[]⟩, .int .i64 0, .string ⟨#[]⟩, .int .i64 0, .string ⟨#[]⟩, .string ⟨#[]⟩, .int .i64 0, .string ⟨#[]⟩, .int .i64 0, .string ⟨#[]⟩, .string ⟨#[]⟩, .int .i64 0, .string ⟨#[]⟩, .int .i64 0, .string ⟨#[]⟩, .string ⟨#[]⟩]:={}
instance:FR Tryz.prog 397 (6,5):={}
instance:FA Tryz.prog 405 true:={}
instance:FC Tryz.prog 405 5:={}
instance:FZ Tryz.prog 405 [.int .i64 0, .int .i64 0, .int .i64 0, .int .i64 0, .int .i64 0]:={}
instance:FP Tryz.prog 405 [(0,1),(1,1),(2,1),(3,1),(4,1)]:={}
instance:FF Tryz.prog 405 0 0:={}
instance:FF Tryz.prog 405 1 1:={}
instance:FF Tryz.prog 405 2 2:={}
instance:FF Tryz.prog 405 3 3:={}
instance:FF Tryz.prog 405 4 4:={}
instance:FA Tryz.prog 406 true:={}
instance:FC Tryz.prog 406 40:={}
instance:FU Tryz.prog 406 (.array 8 405):=⟨Tryz.underlying406⟩
instance:FZ Tryz.prog 406 [.int .i64 0, .int .i64 0, .int .i64 0, .int .i64 0, .int .i64 0, .int .i64 0, .int .i64 0, .int .i64 0, .int .i64 0, .int .i64 0, .int .i64 0, .int .i64 0, .int .i64 0, .int .i64 0, .int .i64 0, .int .i64 0, .int .i64 0, .int .i64 0, .int .i64 0, .int .i64 0, .int .i64 0, .int .i64 0, .int .i64 0, .int .i64 0, .int .i64 0, .int .i64 0, .int .i64 0, .int .i64 0, .int .i64 0, .int .i64 0, .int .i64 0, .int .i64 0, .int .i64 0, .int .i64 0, .int .i64 0, .int .i64 0, .int .i64 0, .int .i64 0, .int .i64 0, .int .i64 0]:={}
instance:FR Tryz.prog 406 (8,5):={}
instance:FC Tryz.prog 409 4:={}
instance:FU Tryz.prog 409 (.array 4 64):=⟨Tryz.underlying409⟩
instance:FZ Tryz.prog 409 [.int .u64 0, .int .u64 0, .int .u64 0, .int .u64 0]:={}
instance:FR Tryz.prog 409 (4,1):={}
instance:FA Tryz.prog 417 true:={}
instance:FC Tryz.prog 417 4:={}
instance:FU Tryz.prog 417 (.array 4 3):=⟨Tryz.underlying417⟩
instance:FZ Tryz.prog 417 [.int .i64 0, .int .i64 0, .int .i64 0, .int .i64 0]:={}
instance:FR Tryz.prog 417 (4,1):={}
instance:FA Tryz.prog 420 true:={}
instance:FC Tryz.prog 420 3:={}
instance:FZ Tryz.prog 420 [.string ⟨#[]⟩, .int .i64 0, .int .i64 0]:={}
instance:FF Tryz.prog 420 0 0:={}
instance:FF Tryz.prog 420 1 1:={}
instance:FF Tryz.prog 420 2 2:={}
instance:FA Tryz.prog 444 true:={}
instance:FC Tryz.prog 444 15:={}
instance:FU Tryz.prog 444 (.array 15 9):=⟨Tryz.underlying444⟩
instance:FZ Tryz.prog 444 [.string ⟨#[]⟩, .string ⟨#[]⟩, .string ⟨#[]⟩, .string ⟨#[]⟩, .string ⟨#[]⟩, .string ⟨#[]⟩, .string ⟨#[]⟩, .string ⟨#[]⟩, .string ⟨#[]⟩, .string ⟨#[]⟩, .string ⟨#[]⟩, .string ⟨#[]⟩, .string ⟨#[]⟩, .string ⟨#[]⟩, .string ⟨#[]⟩]:={}
instance:FR Tryz.prog 444 (15,1):={}
instance:FA Tryz.prog 446 true:={}
instance:FC Tryz.prog 446 10:={}
instance:FU Tryz.prog 446 (.array 10 9):=⟨Tryz.underlying446⟩
instance:FZ Tryz.prog 446 [.string ⟨#[]⟩, .string ⟨#[]⟩, .string ⟨#[]⟩, .string ⟨#[]⟩, .string ⟨#[]⟩, .string ⟨#[]⟩, .string ⟨#[]⟩, .string ⟨#[]⟩, .string ⟨#[]⟩, .string ⟨#[]⟩]:={}
instance:FR Tryz.prog 446 (10,1):={}
instance:FA Tryz.prog 448 true:={}
instance:FC Tryz.prog 448 4:={}
instance:FU Tryz.prog 448 (.array 4 9):=⟨Tryz.underlying448⟩
instance:FZ Tryz.prog 448 [.string ⟨#[]⟩, .string ⟨#[]⟩, .string ⟨#[]⟩, .string ⟨#[]⟩]:={}
instance:FR Tryz.prog 448 (4,1):={}
instance:FU Tryz.prog 455 (.array 64 5):=⟨Tryz.underlying455⟩
theorem Tryz.ur:q6 Tryz.prog 3 (Value.int .i64):=q6.int Tryz.underlying3
theorem Tryz.zv3:Ak Tryz.prog 3=some (.int .i64 0):=by kernel_rfl
theorem Tryz.Lw:q6 Tryz.prog 3 (Value.int .i64):=q6.int Tryz.underlying3
theorem Tryz.PU:Ak Tryz.prog 180=some (.slice none 0 0):=by kernel_rfl
theorem Tryz.Lx:q6 Tryz.prog 267 (EW .i64 .i64):=q6.pair Tryz.underlying267 Tryz.Tn (by decide) (by decide) rfl rfl Tryz.underlying3 Tryz.underlying3
instance:FM Tryz.prog:={}
end Go.Proofs
end
section
namespace Go.Hl
open Go.RowKit
section
variable {P:Program} {hs:List HP} {env:Env} {q:VP} {dst:Option Tmp} {ty T T' E:TypeId} {pos:String} {after:Array Edge} {gd:Option (Nat×Bool)} {x y z:Operand}
theorem v8{b off len:Nat}{k:IntKind}{i:Int}(j:Nat)(hT:P.underlying T=some (.slice E))(hn:P.cellsOf E=1)(hx:aU env x (oW b off len))(hy:aU env y (aa k i))(hi:i=(j:Int))(hj:j<len):
    aT P hs env ⟨dst, .indexAddr T x y,ty,pos,after,gd⟩ (ai b (off+j)):=
  aT.aD fun ρ w S F _ he=>by
    obtain⟨o,cap,hv,h1,h2,h3⟩:=he.o _ _ hx;have h4:=he.o _ _ hy;simp only[af] at h4
    subst hi;have ho:o=off:=h1.resolve_left (by omega);subst ho;have hs:=run_sizeOf (T:=E) hn rfl w
    have mL:Addr.add ⟨b,o,none⟩ j=⟨b,o+j,none⟩:=by
      unfold Addr.add
      split<;>simp_all
    exact⟨_,by simp[execOp,hv,h4,Instr.indexAt,asIntOf,run_underlying hT,Instr.sureAddr,hs,mL,hj],rfl⟩
theorem N9{b k i:Nat}{l:List UInt8}{c:UInt8}(hT:jc P T=some false)(hx:aU env x (ai b k))(hi:hs[i]?=some (m6 b l))(hj:l[k]?=some c):aT P hs env ⟨dst, .load T x,ty,pos,after,gd⟩ (aa .u8 (c.toNat:Int)):=
 aT.aD fun ρ w S F ho lV=>by
  have hv:=lV.o _ _ hx;simp only[af] at hv
  obtain⟨F1,_,_,T',hb⟩:=ho.get hi;refine⟨.int .u8 (c.toNat:Int),?_,rfl⟩;have hc:w.cell? ⟨b,k,none⟩=some (.int .u8 (c.toNat:Int)):=by simp[World.cell?,hb,vk,hj]
  have h1:(loadVar T ⟨b,k,none⟩).run P w= .ok (.int .u8 (c.toNat:Int)) w:=by
   unfold loadVar;rw[bh (dz hT w)];simp[hc]
  simp[execOp,hv,Instr.loadAt,Instr.sureAddr,h1]
theorem Ly{b k i:Nat}{l:List UInt8}(c:UInt8)(hn:P.cellsOf T=1)(hx:aU env x (ai b k))(hy:aU env y (aa .u8 (c.toNat:Int)))(hi:hs[i]?=some (m6 b l))(hj:k<l.length):
    fN P hs env ⟨none, .store T x y,ty,pos,after,gd⟩ (γ:=Unit) (fun _=>True) (fun _=>hs.set i (m6 b (l.set k c))) (fun _=>af undef):=by
  intro cx a w S F ax hown lV Kp Q hk;have hv:=hx S w a lV;simp only[af] at hv
  have hu:=hy S w a lV;simp only[af] at hu
  obtain⟨F0,_,_,T',hb⟩:=hown.get hi;have hsz:k<(sq l).toArray.size:=by simpa[sq] using hj
  have hr:(execOp a.eval ⟨none, .store T x y,ty,pos,after,gd⟩).run P w= .ok .skip (w.setCell ⟨b,k,none⟩ (a.eval y)):=by
    have hst:=mN (v:=a.eval y) hn (by rw[hu];exact⟨rfl,rfl⟩) hb hsz;simp[execOp,hv,Instr.storeAt,Instr.sureAddr,hst]
  have hne:∀t,t≠b→(w.setCell ⟨b,k,none⟩ (a.eval y)).heap[t]?=w.heap[t]?:=fun t ht=>dh w _ _ t ht;obtain⟨F1,F2,f1,f2,f3,_,f4⟩:=hown.ue hi;have hFb:F1 b:=f3.1;have hag:∀t,S t→(w.setCell ⟨b,k,none⟩ (a.eval y)).heap[t]?=w.heap[t]?:=fun t ht=>hne t (fun e=>ax.cR t ht (e▸(f1 b hFb).1));unfold Oper.wp;rw[hr];refine hk () undef _ S F trivial (ax.write (f1 b hFb).1 rfl rfl rfl (by simp[World.setCell]) hne) (fun _ h=>h) hag ?_ rfl
  have :=f4 S F1 (w.setCell ⟨b,k,none⟩ (a.eval y)) (m6 b (l.set k c)) (fun t ht=>(f1 t ht).2) (fun _ h=>h) (fun t ht=>hne t (fun e=>(f1 b hFb).2 (e▸ht))) hag
    ⟨hFb,T',by
      rw[hu];simp only[World.setCell,Array.getElem?_modify,hb,if_true,Option.map_some,Option.isSome_none,Bool.false_eq_true,if_false]
      congr 2
      apply Array.ext_getElem?;intro t;rw[Array.getElem?_setIfInBounds];simp only[List.getElem?_toArray,vk,List.getElem?_set];by_cases e:k=t
      · subst e
        have Yw:k<(sq l).length:=by simpa using hsz
        simp[hj,Yw]
      · simp[e]⟩
  exact this.mono (fun t ht=>ht.elim (fun h=>(f1 t h).1) (f2 t)) (fun _ h=>h) (fun _ _=>rfl) (fun _ _=>rfl)
end
def Oa(v:Nat)(i:Nat):UInt8:=UInt8.ofNat (v/2^(8*i)%256)
def kO(v w:Nat):List UInt8:=(List.range w).map (Oa v)
def oI:List UInt8→Nat
 |[]=>0
 |c::l=>c.toNat+256*oI l
theorem kP(v w:Nat):(kO v w).length=w:=by simp[kO]
theorem v9:∀l:List UInt8,oI l<2^(8*l.length)
 |[]=>by simp[oI]
 |c::l=>by
  have h1:=v9 l;have h2:=c.toNat_lt;simp only[oI,List.length_cons];have e:2^(8*(l.length+1))=256*2^(8*l.length):=by rw[Nat.mul_add,Nat.pow_add];omega
  rw[e];omega
theorem we:∀(l:List UInt8) (c:UInt8),oI (l++[c])=oI l+c.toNat*2^(8*l.length)
 |[],c=>by simp[oI]
 |d::l,c=>by
  have ih:=we l c;simp only[List.cons_append,oI,ih,List.length_cons];have e:2^(8*(l.length+1))=256*2^(8*l.length):=by rw[Nat.mul_add,Nat.pow_add];omega
  rw[e,Nat.mul_add,←Nat.mul_assoc,Nat.mul_comm 256 c.toNat,Nat.mul_assoc,Nat.add_assoc]
theorem QO(l:List UInt8)(c:UInt8):(oI l)|||(c.toNat*2^(8*l.length))=oI (l++[c]):=by
 rw[we,Nat.mul_comm c.toNat,Nat.or_comm,←Nat.two_pow_add_eq_or_of_lt (v9 l),Nat.add_comm]
end Go.Hl
end
section
namespace Go.Hl
abbrev dP(n:Int):VP:=aa .i64 n
structure m7 where
 (ab db tm gm size:Nat)
structure cS where
 bytes:List UInt8
 height:Nat
 live:Nat
 taken:List (Int×Int)
def eo(X:m7)(a:cS):List HP:=
 [aF X.ab [oW X.db 0 X.size,aa .i64 (a.height:Int),aa .i64 (a.live:Int),af (.map (some X.tm)),af (.map (some X.gm))],
  m6 X.db a.bytes,iD X.tm (Value.int .i64) dP a.taken,iD X.gm (Value.int .i64) (fun _:Unit=>oR) []]
structure cC(X:m7)(a:cS):Prop where
 len:a.bytes.length=X.size
 hi:a.height≤X.size
 most:X.size≤4194304
 live:a.live≤a.height
def q8:Nat→Nat→Nat→Nat
 |0,c,_=>c
 |k+1,c,n=>if c<n then q8 k (c*2) n else c
def aG(n:Nat):Nat:=if 4194304<n then 0 else q8 19 16 n
theorem za:∀(k c n:Nat),q8 k c n≤c*2^k
 |0,c,n=>by simp[q8]
 | k +1,c,n=>by
  unfold q8;have:=za k (c*2) n;have h2:0<2^k:=Nat.two_pow_pos k;rw[Nat.pow_succ,Nat.mul_comm (2^k) 2,←Nat.mul_assoc]
  split
  · exact this
  · calc c≤c*2:=by omega
     _≤c*2*2^k:=Nat.le_mul_of_pos_right _ h2
theorem me(n:Nat):aG n≤8388608:=by
 unfold aG
 split
 · omega
 · exact za 19 16 n
variable {n:Nat} {c:Nat} {k:Nat}
theorem Je(h:¬c<n):q8 k c n=c:=by
 cases k with
 |zero=>rfl
 |succ k=>unfold q8;rw[if_neg h]
def nM(size:Nat)(a:cS)(c:Nat):cS×Nat×Bool:=if size-a.height<c then(a,0,false) else({a with height:=a.height+c},a.height,true)
variable {a:cS}
theorem Jf{size:Nat}(h:¬(nM size a c).2.2=true):nM size a c=(a,0,false)∧size-a.height<c:=by
 unfold nM at h ⊢;by_cases hc:size-a.height<c
 · rw[if_pos hc];exact⟨rfl,hc⟩
 · rw[if_neg hc] at h;exact absurd rfl h
theorem E8{size:Nat}(h:(nM size a c).2.2=true):nM size a c=({a with height:=a.height+c},a.height,true)∧¬size-a.height<c:=by
 unfold nM at h ⊢;by_cases hc:size-a.height<c
 · rw[if_pos hc] at h;cases h
 · rw[if_neg hc];exact⟨rfl,hc⟩
def uu(size:Nat)(a:cS)(n:Nat):cS×Nat×Nat:=
 if 4194304<n then(a,0,1) else if size-a.height<aG n then(a,0,8)
 else({bytes:=a.bytes.take a.height++List.replicate (aG n) 0++a.bytes.drop (a.height+aG n),height:=a.height+aG n,live:=a.live+aG n,taken:=ew a.taken (a.height:Int) (aG n:Int)},a.height,0)
def cS.get(a:cS)(at_ n:Nat):List UInt8:=(a.bytes.drop at_).take n
def cS.put(a:cS)(at_:Nat)(ys:List UInt8):cS:={a with bytes:=a.bytes.take at_++ys++a.bytes.drop (at_+ys.length)}
variable {r:List HP}
theorem aA.cells{b:Nat}{cs cs':List VP}(h:Nw cs cs'):aA (aF b cs::r) (aF b cs'::r):=fun F S w ⟨F1,F2,h1,h2,⟨f1,arr,T,hh,hn,hc⟩,h4⟩=>
 ⟨F1,F2,h1,h2,⟨f1,arr,T,hh,by rw[hn,h.len],fun j q' hj=>let ⟨q,k1,k2⟩:=h.get j q' hj;let ⟨u,hu,hq⟩:=hc j q k1;⟨u,hu,k2 _ _ _ hq⟩⟩,h4⟩
theorem lD:ag (af (.bool false)) (ak False):=fun S w v h=>⟨false,h,by simp⟩
def BP:Bool→Prop
 |true=>True
 |false=>False
structure KS where
 size:Nat
 cap:Int
 lE:Int
 ops:Int
 fail:Int
 failed:Bool
 m:List (Int×List UInt8)
def wg(sb mb:Nat)(s:KS):HP:=aF sb [aa .i64 (s.size:Int),aa .i64 s.cap,aa .i64 s.lE,af (.map (some mb)),aa .i64 s.ops,aa .i64 s.fail,ak (BP s.failed)]
abbrev Jg:=List (Int×Nat×List UInt8)
def wh(mb size:Nat)(E:Jg):HP:=iD mb (Value.int .i64) (fun b=>oW b 0 size) (E.map fun e=>(e.1,e.2.1))
def o4(sb:Nat)(s:KS):HP:=NZ fun x:Nat×Jg=>ku (eY (x.2.map (fun e=>(e.1,e.2.2))=s.m)::wg sb x.1 s::wh x.1 s.size x.2::x.2.map fun e=>m6 e.2.1 e.2.2)
structure Yx(s:KS):Prop where
 size:s.size≤1024
 cap:s.cap≤4096
 len:∀e∈s.m,e.2.length=s.size
 keys:∀e∈s.m,0≤e.1∧e.1<4096
 many:(s.m.length:Int)≤s.cap
 nodup:(s.m.map (·.1)).Nodup
def HK(E:Jg):List HP:=E.map fun e=>m6 e.2.1 e.2.2
theorem qd{κ α β:Type}[DecidableEq κ](f:α→β)(a:κ):∀E:List (κ×α),br (E.map fun e=>(e.1,f e.2)) a=(br E a).map f
 |[]=>rfl
 |e::E=>by
  have ih:=qd f a E;unfold br at ih ⊢;rw[List.map_cons];by_cases h:e.1=a
  · rw[List.find?_cons_of_pos (by simpa using h),List.find?_cons_of_pos (by simpa using h)];rfl
  · rw[List.find?_cons_of_neg (by simpa using h),List.find?_cons_of_neg (by simpa using h)];exact ih
def wj{α:Type}:List (Int×α)→Int→α→List (Int×α)
 |[],_,_=>[]
 |e::E,id,l=>if e.1=id then(e.1,l)::E else e::wj E id l
variable {α:Type}
def u5(m:List (Int×α))(id:Int):List (Int×α):=m.eraseP fun e=>decide (e.1=id)
theorem Cf{α β:Type}(f:α→β)(id:Int)(l:α):∀E:List (Int×α),(wj E id l).map (fun e=>(e.1,f e.2))=wj (E.map fun e=>(e.1,f e.2)) id (f l)
 |[]=>rfl
 |e::E=>by
  unfold wj;rw[List.map_cons];by_cases h:e.1=id
  · simp[h,wj]
  · simp[h,wj,Cf f id l E]
theorem Cg{κ:Type}[DecidableEq κ]{D:List (κ×α)}{id:κ}(v:α)(h:br D id=none):ew D id v=D++[(id,v)]:=by
 unfold ew;have hf:=m5 id D;cases hi:(D.map (·.1)).findIdx? (fun k=>decide (k=id)) with
 |none=>rfl
 |some i=>rw[hi] at hf;obtain⟨u,_,hu⟩:=hf;rw[h] at hu;cases hu
def HL(E:Jg):List (Int×List UInt8):=E.map fun e=>(e.1,e.2.2)
variable {s:KS}
theorem uv{sb mb sz:Nat}{E:Jg}(hE:HL E=s.m)(hz:sz=s.size):aA (wg sb mb s::wh mb sz E::ku (HK E)::r) (o4 sb s::r):=by
 subst hz;refine aA.trans ?_ (aA.ex (f:=fun x:Nat×Jg=>ku (eY (x.2.map (fun e=>(e.1,e.2.2))=s.m)::wg sb x.1 s::wh x.1 s.size x.2::x.2.map fun e=>m6 e.2.1 e.2.2)) (mb,E));refine aA.trans (aA.cons _ (aA.cons _ aA.unpack)) ?_;refine aA.trans (aA.pure (p:=HL E=s.m) hE) ?_;exact aA.pack (l:=eY (HL E=s.m)::wg sb mb s::wh mb s.size E::HK E)
theorem aJ.To{P:Program}{Q:Exit→Act→World→Prop}{c:Ctx}{x:Code}{env:Env}{sb:Nat}(k:∀mb E,HL E=s.m→aJ P Q c x (wg sb mb s::wh mb s.size E::ku (HK E)::r) env):aJ P Q c x (o4 sb s::r) env:=
 aJ.opens fun⟨mb,E⟩=>aJ.own aA.unpack (aJ.eY fun h=>aJ.own (aA.cons _ (aA.cons _ (aA.pack (l:=HK E)))) (k mb E h))
theorem iO:aA r (ku []::r):=fun F S w x=>⟨fun _=>False,F,fun _ h=>h.elim,fun _ h=>h,trivial,x⟩
abbrev iV(n:Int):VP:=aa .i64 n
def Tp(b:Bool):List VP:=[ak (b=true)]
instance:iy 1 Tp:=⟨fun _=>rfl,fun x q h=>by simp only[Tp,List.mem_cons,List.not_mem_nil,or_false] at h;subst h;infer_instance⟩
def dg:VP:=⟨fun _ _ _=>True,fun _ _ _=>trivial⟩
theorem ag.any{q:VP}:ag q dg:=fun _ _ _ _=>trivial
open Classical in
noncomputable def iE(p:Prop)(e:Int):Int:=if p then e else 0
theorem m8{p:Prop}{e:Int}(he:e≠0):iE p e=0↔¬p:=by unfold iE;split<;>simp_all
def fO(g:Nat→Int):Nat→Int
 |0=>0
 |n+1=>if fO g n≠0 then fO g n else g n
theorem o5{g:Nat→Int}:∀{n:Nat},fO g n=0↔∀i,i<n→g i=0
 |0=>by simp[fO]
 |n+1=>by
  simp only[fO]
  split
  · rename_i h
    constructor
    · intro h';exact absurd h' h
    · intro h';exact absurd (o5.2 fun i hi=>h' i (by omega)) h
  · rename_i h
    have h0:fO g n=0:=by simpa using h
    constructor
    · intro h' i hi
      by_cases e:i=n
      · subst e;exact h'
      · exact o5.1 h0 i (by omega)
    · intro h';exact h' n (by omega)
theorem Jh{g:Nat→Int}(h0:fO g k=0)(hk:g k≠0)(hn:k<n):fO g n=g k:=by
 induction n with
 |zero=>omega
 |succ n ih=>
  by_cases e:k=n
  · subst e;simp[fO,h0]
  · have:=ih (by omega)
    simp[fO,this,hk]
def u6(xs:List α)(f:α→Int)(i:Nat):Int:=match xs[i]? with|some x=>f x|none=>0
variable {i:Nat} {x:α}
theorem kA{xs:List α}{f:α→Int}(h:xs[i]?=some x):u6 xs f i=f x:=by simp[u6,h]
theorem qe{xs:List α}{f:α→Int}:fO (u6 xs f) xs.length=0↔∀x∈xs,f x=0:=by
 rw[o5];constructor
 · intro h x hx
   obtain⟨i,hi⟩:=List.mem_iff_getElem?.1 hx;have:=h i (List.getElem?_eq_some_iff.1 hi).1
   rwa [kA hi] at this
 · intro h i hi
   obtain⟨x,hx⟩:=ah hi;rw[kA hx];exact h x (List.mem_of_getElem? hx)
open Classical in
noncomputable def oE{α:Type}(p:α→Prop):List α→Int
 |[]=> -1
 |x::l=>if p x then 0 else if oE p l<0 then-1 else oE p l+1
theorem HM{α:Type}(p:α→Prop):∀l:List α,-1≤oE p l
 |[]=>by simp[oE]
 |x::l=>by unfold oE;have:=HM p l;split<;>(try split)<;>omega
theorem gL{α:Type}{p:α→Prop}:∀{l:List α},0≤oE p l↔∃x∈l,p x
 |[]=>by simp[oE]
 | x ::l=>by
  unfold oE;have ih:=gL (p:=p) (l:=l)
  split
  · rename_i h;simp[h]
  · rename_i h
    split
    · rename_i h2
      simp only[List.mem_cons,exists_eq_or_imp,h,false_or];rw[←ih];omega
    · rename_i h2
      simp only[List.mem_cons,exists_eq_or_imp,h,false_or];rw[←ih];omega
variable {l:List α} {p:α→Prop}
theorem m9(h:∀x∈l,¬p x):oE p l= -1:=by
 have h1:=HM p l;have h2:¬0≤oE p l:=fun h'=>by obtain⟨x,hx,hp⟩:=gL.1 h';exact h x hx hp
 omega
theorem qf{α:Type}{p:α→Prop}:∀{l:List α} {k:Nat} {x:α},l[k]?=some x→p x→(∀j y,j<k→l[j]?=some y→¬p y)→oE p l=k
 |[],_,_,h,_,_=>by simp at h
 |y::l,0,x,h,hp,_=>by simp at h;subst h;simp[oE,hp]
 |y::l,k+1,x,h,hp,hn=>by
  have h1:=qf (l:=l) (k:=k) (x:=x) (by simpa using h) hp (fun j z hj hz=>hn (j+1) z (by omega) (by simpa using hz));have h2:=hn 0 y (by omega) rfl;unfold oE;rw[if_neg h2,h1,if_neg (by omega)];omega
def fc(p:α→Prop)(l:List α)(k:Nat):Prop:=∀j y,j<k→l[j]?=some y→¬p y
theorem fc.zero(p:α→Prop)(l:List α):fc p l 0:=fun j y h=>by omega
theorem fc.succ(h:fc p l k)(hx:l[k]?=some x)(hp:¬p x):fc p l (k+1):=fun j y hj hy=>by
 by_cases e:j=k
 · subst e;rw[hx] at hy;cases hy;exact hp
 · exact h j y (by omega) hy
theorem fc.all(h:fc p l k)(hk:l.length≤k):∀x∈l,¬p x:=fun x hx=>by
 obtain⟨j,hj⟩:=List.mem_iff_getElem?.1 hx;exact h j x (by have:=(List.getElem?_eq_some_iff.1 hj).1;omega) hj
variable {j:Nat}
theorem Ob{cs:List VP}{q:VP}(h:cs[j]?=some q):ag (bH (cs.drop (j*1))) (bH [q]):=fun S w v ⟨b,off,hv,hb,hc⟩=>⟨b,off,hv,hb,fun t p ht=>by
 cases t with
 |zero=>simp at ht;subst ht;exact hc 0 q (by rw[Nat.mul_one,List.getElem?_drop];simpa using h)
 |succ t=>simp at ht⟩
structure Fr where
 at_:Nat
 k:cP
 used:Bool
 seen:Bool
 Lz:Bool
def zc(f:Fr):List VP:=[dP (f.at_:Int),dP f.k.1,dP f.k.2,ak (BP f.used),ak (BP f.seen),ak (BP f.Lz)]
instance:iy 6 zc:=⟨fun _=>rfl,fun x q h=>by simp only[zc,List.mem_cons,List.not_mem_nil,or_false] at h;rcases h with h|h|h|h|h|h<;>subst h<;>infer_instance⟩
structure Ch where
 (pb sb fb cap m1 m2 n lo hi:Nat)
 Y:m7
structure zd where
 l:List Fr
 hand:Nat
 WS:List (cP×Int)
 bm:List (cP×Int)
 fault:Nat
 closed:Bool
def QS(X:Ch)(p:zd):HP:=aF X.pb [ai X.Y.ab 0,ai X.sb 0,af (bA (some (X.fb,X.cap)) X.n),dP (p.hand:Int),af (.map (some X.m1)),af (.map (some X.m2)),dP (p.fault:Int),ak (BP p.closed)]
def QT(X:Ch)(p:zd):HP:=aI (some (X.fb,X.cap)) 6 zc p.l
def QU(X:Ch)(p:zd):HP:=iD X.m1 y4 dP p.WS
def QV(X:Ch)(p:zd):HP:=iD X.m2 y4 dP p.bm
def QW(p:zd):Prop:=p.closed=true∨p.fault≠0
instance (p:zd):Decidable (QW p):=inferInstanceAs (Decidable (_∨_))
def wk(l:List UInt8):Prop:=∀x∈l,x=0
structure Yy(X:Ch)(p:zd)(a:cS)(s:KS):Prop where
 n:p.l.length=X.n
 pos:0<X.n
 most:X.n≤64
 hand:p.hand<X.n
 room:∀f∈p.l,(X.lo≤f.at_∧f.at_+s.size≤X.hi)∧f.at_+s.size≤X.Y.size
 ar:cC X.Y a
 st:Yx s
theorem aA.HN{a b:HP}(h:a=b):aA (a::r) (b::r):=h▸aA.refl _
section maps
variable {κ ν:Type} [DecidableEq κ]
theorem E9(p:κ×ν)(D:List (κ×ν))(a:κ):br (p::D) a=if p.1=a then some p.2 else br D a:=by
 unfold br;by_cases h:p.1=a
 · rw[List.find?_cons_of_pos (by simpa using h),if_pos h];rfl
 · rw[List.find?_cons_of_neg (by simpa using h),if_neg h]
theorem wm:∀{D:List (κ×ν)} {a:κ} {v:ν},br D a=some v→(a,v)∈D
 |[],_,_,h=>by cases h
 |p::D,a,v,h=>by
  rw[E9] at h;by_cases hp:p.1=a
  · rw[if_pos hp] at h;cases h;subst hp;exact List.mem_cons_self
  · rw[if_neg hp] at h;exact List.mem_cons_of_mem _ (wm h)
end maps
theorem Fa{x o:Nat}{ys:List UInt8}(h:x+n≤a.bytes.length)(ho:o+ys.length≤n):(a.put (x+o) ys).get x n=(a.get x n).take o++ys++(a.get x n).drop (o+ys.length):=by
 unfold cS.put cS.get;apply List.ext_getElem?;intro j;simp only[List.getElem?_take,List.getElem?_drop,List.getElem?_append,List.length_append,List.length_take,List.length_drop];by_cases h1:j<n
 · rw [if_pos h1]
   by_cases h2:j<o
   · rw[if_pos (by omega),if_pos (by omega),if_pos (by omega),if_pos (by omega),if_pos (by omega),if_pos h2,if_pos (by omega)]
   · by_cases h3:j<o+ys.length
     · rw[if_pos (by omega),if_neg (by omega),if_pos (by omega),if_neg (by omega)]
       congr 1;omega
     · rw[if_neg (by omega),if_neg (by omega),if_pos (by omega)]
       congr 1;omega
 · rw[if_neg h1]
   by_cases h3:j<o+ys.length
   · omega
   · rw[if_neg (by omega),if_neg (by omega)]
theorem Ci{x y:Nat}{ys:List UInt8}(hx:x+ys.length≤a.bytes.length)(h:y+n≤x∨x+ys.length≤y):(a.put x ys).get y n=a.get y n:=by
 unfold cS.put cS.get;apply List.ext_getElem?;intro j;simp only[List.getElem?_take,List.getElem?_drop,List.getElem?_append,List.length_append,List.length_take,List.length_drop];by_cases h1:j<n
 · rw[if_pos h1,if_pos h1]
   rcases h with h|h
   · rw[if_pos (by omega),if_pos (by omega),if_pos (by omega)]
   · rw[if_neg (by omega)]
     congr 1;omega
 · rw[if_neg h1,if_neg h1]
theorem cC.put{Y:m7}{a:cS}(h:cC Y a){x:Nat}{ys:List UInt8}(hx:x+ys.length≤Y.size):cC Y (a.put x ys):=
 ⟨by have:=h.len;show(a.bytes.take x++ys++a.bytes.drop (x+ys.length)).length=Y.size;simp;omega,h.hi,h.most,h.live⟩
theorem su:wk (List.replicate n 0):=fun x hx=>(List.mem_replicate.1 hx).2
theorem Am{y:α}(h:(l.set i x)[j]?=some y):(i=j∧y=x)∨(i≠j∧l[j]?=some y):=by
 rw[List.getElem?_set] at h;by_cases e:i=j
 · rw[if_pos e] at h
   by_cases h2:i<l.length
   · rw[if_pos h2] at h;cases h;exact .inl ⟨e,rfl⟩
   · rw[if_neg h2] at h;cases h
 · rw[if_neg e] at h;exact .inr ⟨e,h⟩
abbrev Cont:=cP→List UInt8
structure Inv(X:Ch)(p:zd)(a:cS)(s:KS)(C:Cont)(D:List cP):Prop where
 ok:Yy X p a s
 opn:p.fault=0∧p.closed=false
 nf:s.fail<0
 bf9:∀k,(C k).length=s.size
 inK:(p.WS.map (·.1)).Nodup
 in1:∀k i,br p.WS k=some i→∃(j:Nat) (f:Fr),i=(j:Int)∧p.l[j]?=some f∧f.used=true∧f.k=k
 in2:∀(j:Nat) (f:Fr),p.l[j]?=some f→f.used=true→br p.WS f.k=some (j:Int)
 apart:∀(i j:Nat) (f g:Fr),p.l[i]?=some f→p.l[j]?=some g→i≠j→f.at_+s.size≤g.at_∨g.at_+s.size≤f.at_
 bmK:(p.bm.map (·.1)).Nodup
 inj:∀k k' id,br p.bm k=some id→br p.bm k'=some id→k=k'
 num:p.bm.length=s.m.length
 has:∀k id,br p.bm k=some id→∃l,br s.m id=some l∧¬wk l
 cnt:∀k id,br p.bm k=some id→k∈D
 EB:(D.length:Int)≤s.cap
 nzD:∀k,¬wk (C k)→k∈D
 fr:∀(j:Nat) (f:Fr),p.l[j]?=some f→f.used=true→a.get f.at_ s.size=C f.k
 cl:∀k,(∀(j:Nat) (f:Fr),p.l[j]?=some f→f.used=true→f.k=k→f.Lz=false)→(br p.bm k=none∧wk (C k))∨∃id,br p.bm k=some id∧br s.m id=some (C k)∧¬wk (C k)
section
variable {X:Ch} {p:zd} {a:cS} {s:KS} {C:Cont} {D:List cP} {i:Nat} {fr:Fr}
def LA(p:zd):Prop:=∀(j:Nat) (f:Fr),p.l[j]?=some f→f.used=true→f.Lz=false
end
def Cj(X:Ch)(p:zd)(a:cS)(s:KS):List HP:=QS X p::QT X p::QU X p::QV X p::o4 X.sb s::eo X.Y a
def Tq(k:cP):Prop:=0≤k.1∧0≤k.2∧k.2≤9223372036854775807
structure Ji(X:Ch)(z q:Nat)(T:zd→Prop)(p:zd)(a:cS)(s:KS)(C:Cont)(m:Nat):Prop where
 ex:∃D:List cP,D.length≤m∧(∀k∈D,Tq k)∧Inv X p a s C D
 sz:s.size=z
 cp:s.cap=(q:Int)
 cln:T p
structure sw(X:Ch)(a a':cS):Prop where
 ok:cC X.Y a→cC X.Y a'
 get:cC X.Y a→∀y n,y+n≤X.lo∨X.hi≤y→a'.get y n=a.get y n
theorem sw.refl(X:Ch)(a:cS):sw X a a:=⟨id,fun _ _ _ _=>rfl⟩
def LB(X:Ch)(R:cS→HP):Prop:=∀a a',cC X.Y a→sw X a a'→aA [R a] [R a']
def WT:cS→HP:=fun _=>ku []
theorem QX(X:Ch):LB X WT:=fun _ _ _ _=>aA.refl _
def LC(X:Ch)(z q:Nat)(T:zd→Prop)(C:Cont)(m:Nat)(R:cS→HP):HP:=NZ fun x:zd×cS×KS=>ku (eY (Ji X z q T x.1 x.2.1 x.2.2 C m)::(Cj X x.1 x.2.1 x.2.2++[R x.2.1]))
theorem aA.frame{a b:List HP}(h:aA a b):aA (a++r) (b++r):=fun F S w x=>by
 obtain⟨F1,F2,h1,h2,h3,h4⟩:=cT.append.1 x;exact cT.append.2 ⟨F1,F2,h1,h2,h _ _ _ h3,h4⟩
theorem aA.behind{a b:List HP}(h:aA a b):aA (r++a) (r++b):=fun F S w x=>by
 obtain⟨F1,F2,h1,h2,h3,h4⟩:=cT.append.1 x;exact cT.append.2 ⟨F1,F2,h1,h2,h3,h _ _ _ h4⟩
variable {X:Ch} {z:Nat} {q:Nat} {m:Nat} {T:zd→Prop} {C:Cont}
theorem Jj{p:zd}{a0:cS}{R:cS→HP}(hR:LB X R)(h0:cC X.Y a0)(hs:sw X a0 a)(h:Ji X z q T p a s C m):aA ((Cj X p a s++[R a0])++r) (LC X z q T C m R::r):=
 (aA.frame (aA.behind (hR a0 a h0 hs))).trans ((aA.pure h).trans ((aA.pack (l:=eY _::(Cj X p a s++[R a]))).trans (aA.ex (f:=fun x:zd×cS×KS=>ku (eY (Ji X z q T x.1 x.2.1 x.2.2 C m)::(Cj X x.1 x.2.1 x.2.2++[R x.2.1]))) (p,a,s))))
theorem Oc{p:zd}(h:Ji X z q T p a s C m):aA (Cj X p a s++r) (LC X z q T C m WT::r):=
 aA.trans (aA.frame (show aA (Cj X p a s) (Cj X p a s++[WT a]) from fun F S w x=>cT.append.2 ⟨F,fun _=>False,fun k hk=>⟨hk,id⟩,fun _ h=>h.elim,x,iO _ _ _ trivial⟩)) (Jj (QX X) h.ex.choose_spec.2.2.ok.ar (sw.refl _ _) h)
def cN(b c:Nat)(j:Nat):List Fr:=(List.range j).map fun i=>⟨b+i*c,(0,0),false,false,false⟩
theorem qg(b c j:Nat):(cN b c j).length=j:=by simp[cN]
theorem LD(b c j:Nat):cN b c (j+1)=cN b c j++[⟨b+j*c,(0,0),false,false,false⟩]:=by simp[cN,List.range_succ]
theorem qh{b:Nat}{f:Fr}(h:(cN b c j)[i]?=some f):i<j∧f=⟨b+i*c,(0,0),false,false,false⟩:=by
 unfold cN at h;rw[List.getElem?_map] at h;by_cases hi:i<j
 · rw[List.getElem?_range hi] at h;cases h;exact⟨hi,rfl⟩
 · rw[List.getElem?_eq_none (by simp;omega)] at h;cases h
theorem HO:∀(k c n:Nat),n≤c*2^k→n≤q8 k c n
 |0,c,n,h=>by simpa[q8] using h
 |k+1,c,n,h=>by
  unfold q8
  split
  · exact HO k (c*2) n (by rw[Nat.mul_assoc,←Nat.pow_succ'];exact h)
  · omega
theorem tH(h:n≤4194304):n≤aG n:=by
 unfold aG;rw[if_neg (by omega)];exact HO 19 16 n (by omega)
structure PV(Y:m7)(a0 a:cS)(c j:Nat):Prop where
 ok:cC Y a
 hi:a.height=a0.height+j*c
 same:∀y n,y+n≤a0.height→a.get y n=a0.get y n
theorem PV.take{Y:m7}{a0 a:cS}{n j:Nat}(h:PV Y a0 a (aG n) j)(hn:n≤4194304)(hr:a0.height+(j+1)*aG n≤Y.size){g:cS×Nat×Nat}(hg:g=uu Y.size a n):g.2.2=0∧g.2.1=a0.height+j*aG n∧PV Y a0 g.1 (aG n) (j+1):=by
 have h1:=h.hi;have h2:=h.ok.len;have h3:=h.ok.live;rw[Nat.add_mul,Nat.one_mul] at hr;unfold uu at hg;rw[if_neg (by omega),if_neg (by omega)] at hg;subst hg;refine⟨rfl,h1,⟨?_,?_,h.ok.most,?_⟩,?_,fun y m hy=>?_⟩
 · show(a.bytes.take a.height++List.replicate (aG n) 0++a.bytes.drop (a.height+aG n)).length=Y.size
   simp;omega
 · show a.height+aG n≤Y.size;omega
 · show a.live+aG n≤a.height+aG n;omega
 · show a.height+aG n=a0.height+(j+1)*aG n
   rw[Nat.add_mul,Nat.one_mul,h1];omega
 · rw[←h.same y m hy]
   show((a.bytes.take a.height++List.replicate (aG n) 0++a.bytes.drop (a.height+aG n)).drop y).take m=(a.bytes.drop y).take m
   apply List.ext_getElem?;intro t;simp only[List.getElem?_take,List.getElem?_drop,List.getElem?_append,List.length_append,List.length_take,List.length_replicate];by_cases h4:t<m
   · rw[if_pos h4,if_pos h4,if_pos (by omega),if_pos (by omega),if_pos (by omega)]
   · rw[if_neg h4,if_neg h4]
def Ck(z:Nat):Cont:=fun _=>List.replicate z 0
theorem uw{enc:α→List VP}:aA r (aI none n enc []::r):=fun F S w x=>⟨fun _=>False,F,fun _ h=>h.elim,fun _ h=>h,rfl,x⟩
theorem Od{a0:cS}(hn:0<X.n)(hm:X.n≤64)(hz:z≤1024)(hq:q≤4096)(ha:PV X.Y a0 a (aG z) X.n)(hlo:X.lo=a0.height)(hhi:X.hi=a0.height+X.n*aG z):Ji X z q LA ⟨cN a0.height (aG z) X.n,0,[],[],0,false⟩ a ⟨z,(q:Int),0,0,-1,false,[]⟩ (Ck z) 0:=by
 have hc:=tH (n:=z) (by omega);have hh:=ha.ok.hi;have hh2:=ha.hi;refine⟨⟨[],Nat.le_refl _,fun k h=>(by cases h),⟨⟨qg _ _ _,hn,hm,hn,fun f hf=>?_,ha.ok,⟨hz,by(show(q:Int)≤4096;omega),fun e he=>(by cases he),fun e he=>(by cases he),by(show((0:Nat):Int)≤(q:Int);omega),List.nodup_nil⟩⟩,⟨rfl,rfl⟩,(show(-1:Int)<0 by decide),fun k=>(by simp[Ck]),List.nodup_nil,fun k i h=>(by cases h),fun j f hj hu=>?_,fun i j f g hi hj hne=>?_,List.nodup_nil,fun k k' id h=>(by cases h),rfl,fun k id h=>(by cases h),fun k id h=>(by cases h),by(show((0:Nat):Int)≤(q:Int);omega),fun k h=>absurd su h,fun j f hj hu=>?_,fun k _=> .inl ⟨rfl,su⟩⟩⟩,rfl,rfl,fun j f hj hu=>?_⟩
 · obtain⟨j,hj⟩:=List.mem_iff_getElem?.1 hf
   obtain⟨h1,rfl⟩:=qh hj;have h2:(j+1)*aG z≤X.n*aG z:=Nat.mul_le_mul_right _ h1;rw[Nat.add_mul,Nat.one_mul] at h2
   show(X.lo≤a0.height+j*aG z∧a0.height+j*aG z+z≤X.hi)∧a0.height+j*aG z+z≤X.Y.size
   omega
 · obtain⟨_,rfl⟩:=qh hj;cases hu
 · obtain⟨h1,rfl⟩:=qh hi
   obtain⟨h2,rfl⟩:=qh hj
   show a0.height+i*aG z+z≤a0.height+j*aG z∨a0.height+j*aG z+z≤a0.height+i*aG z
   rcases Nat.lt_or_gt_of_ne hne with h3|h3
   · have h4:(i+1)*aG z≤j*aG z:=Nat.mul_le_mul_right _ h3
     rw[Nat.add_mul,Nat.one_mul] at h4;omega
   · have h4:(j+1)*aG z≤i*aG z:=Nat.mul_le_mul_right _ h3
     rw[Nat.add_mul,Nat.one_mul] at h4;omega
 · obtain⟨_,rfl⟩:=qh hj;cases hu
 · obtain⟨_,rfl⟩:=qh hj;cases hu
theorem Oe{T':zd→Prop}{R:cS→HP}(hT:∀p,T p→T' p):aA (LC X z q T C m R::r) (LC X z q T' C m R::r):=fun F S w ⟨F1,F2,h1,h2,⟨x,h3⟩,h4⟩=>
 ⟨F1,F2,h1,h2,⟨x,by
  obtain⟨G1,G2,g1,g2,g3,g4⟩:=h3;exact⟨G1,G2,g1,g2,⟨g3.ex,g3.sz,g3.cp,hT _ g3.cln⟩,g4⟩⟩,h4⟩
theorem HQ{X:m7}(h:X.size=n)(hn:n≤4194304):PV X ⟨List.replicate n 0,0,0,[]⟩ ⟨List.replicate n 0,0,0,[]⟩ c 0:=
 ⟨⟨by rw[h];simp,Nat.zero_le _,by omega,Nat.le_refl _⟩,by simp,fun _ _ _=>rfl⟩
def Yz(z:Nat)(C:Cont)(num:Int)(a:Nat):UInt8:=(C (num,((a/z:Nat):Int))).getD (a%z) 0
def Tr(z:Nat)(C:Cont)(num:Int)(at_ n:Nat):List UInt8:=(List.range n).map fun i=>Yz z C num (at_+i)
def YA(z:Nat)(C:Cont)(num:Int)(at_:Nat)(ys:List UInt8):Cont:=fun k=>if k.1=num∧0≤k.2 then(List.range z).map fun o=>if at_≤k.2.toNat*z+o∧k.2.toNat*z+o<at_+ys.length then ys.getD (k.2.toNat*z+o-at_) 0 else(C k).getD o 0 else C k
end Go.Hl
end
