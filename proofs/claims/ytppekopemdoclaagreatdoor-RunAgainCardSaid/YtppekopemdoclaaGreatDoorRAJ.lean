/-
  Parts of the proof.
-/
import Derived.Test.YtppekopemdoclaaGreatDoorRAI
import Derived.Test.YtppekopemdoclaaGreatDoorChecked
set_option linter.all false
set_option maxRecDepth 1000000
set_option maxHeartbeats 4000000
namespace Go.Proofs
noncomputable abbrev Wo:=Tryz.prog
end Go.Proofs
section
namespace Go.Proofs
open Go.Hl
instance:FB Wo 4:={}
instance:FB Wo 5:={}
instance:FB Wo 6:={}
instance:FB Wo 7:={}
instance:FB Wo 8:={}
instance:FB Wo 9:={}
instance:FB Wo 10:={}
instance:FB Wo 11:={}
instance:FB Wo 12:={}
instance:FB Wo 13:={}
instance:FB Wo 14:={}
instance:FB Wo 15:={}
instance:FB Wo 16:={}
instance:FB Wo 17:={}
instance:FB Wo 18:={}
instance:FB Wo 19:={}
instance:FB Wo 20:={}
instance:FB Wo 21:={}
instance:FB Wo 22:={}
instance:FB Wo 23:={}
instance:FB Wo 24:={}
instance:FB Wo 25:={}
instance:FB Wo 26:={}
instance:FB Wo 27:={}
instance:FB Wo 28:={}
instance:FB Wo 29:={}
instance:FB Wo 30:={}
instance:FB Wo 31:={}
instance:FB Wo 32:={}
instance:FB Wo 33:={}
instance:FB Wo 34:={}
instance:FB Wo 35:={}
instance:FB Wo 36:={}
instance:FB Wo 37:={}
instance:FB Wo 38:={}
instance:FB Wo 39:={}
instance:FB Wo 40:={}
instance:FB Wo 41:={}
instance:FB Wo 42:={}
instance:FB Wo 43:={}
instance:FB Wo 44:={}
instance:FB Wo 45:={}
instance:FB Wo 47:={}
instance:FB Wo 48:={}
instance:FB Wo 49:={}
instance:FB Wo 50:={}
instance:FB Wo 51:={}
instance:FB Wo 52:={}
instance:FB Wo 54:={}
instance:FB Wo 55:={}
instance:FB Wo 56:={}
instance:FB Wo 57:={}
instance:FB Wo 58:={}
instance:FB Wo 59:={}
instance:FB Wo 60:={}
instance:FB Wo 61:={}
instance:FB Wo 62:={}
instance:FB Wo 63:={}
instance:FB Wo 64:={}
instance:FB Wo 65:={}
instance:FB Wo 66:={}
instance:FB Wo 67:={}
instance:FB Wo 68:={}
instance:FB Wo 69:={}
instance:FB Wo 70:={}
instance:FB Wo 71:={}
instance:FB Wo 72:={}
instance:FB Wo 73:={}
instance:FB Wo 75:={}
instance:FB Wo 76:={}
instance:FB Wo 77:={}
instance:FB Wo 78:={}
instance:FB Wo 79:={}
instance:FB Wo 80:={}
instance:FB Wo 81:={}
instance:FB Wo 83:={}
instance:FB Wo 86:={}
instance:FB Wo 89:={}
instance:FB Wo 90:={}
instance:FB Wo 92:={}
instance:FB Wo 94:={}
instance:FB Wo 95:={}
instance:FB Wo 96:={}
instance:FB Wo 97:={}
instance:FB Wo 98:={}
instance:FB Wo 99:={}
instance:FB Wo 100:={}
instance:FB Wo 101:={}
instance:FB Wo 102:={}
instance:FB Wo 103:={}
instance:FB Wo 104:={}
instance:FB Wo 105:={}
instance:FB Wo 106:={}
instance:FB Wo 107:={}
instance:FB Wo 108:={}
instance:FB Wo 109:={}
instance:FB Wo 110:={}
instance:FB Wo 111:={}
instance:FB Wo 112:={}
instance:FB Wo 113:={}
instance:FB Wo 114:={}
instance:FB Wo 115:={}
instance:FB Wo 116:={}
instance:FB Wo 117:={}
instance:FB Wo 118:={}
instance:FB Wo 119:={}
instance:FB Wo 120:={}
instance:FB Wo 121:={}
instance:FB Wo 122:={}
instance:FB Wo 123:={}
instance:FB Wo 124:={}
instance:FB Wo 125:={}
instance:FB Wo 126:={}
instance:FB Wo 127:={}
instance:FB Wo 128:={}
instance:FB Wo 129:={}
instance:FB Wo 137:={}
instance:FB Wo 142:={}
instance:FB Wo 143:={}
instance:FB Wo 144:={}
instance:FB Wo 145:={}
instance:FB Wo 146:={}
instance:FB Wo 147:={}
instance:FB Wo 148:={}
instance:FB Wo 149:={}
instance:FB Wo 150:={}
instance:FB Wo 151:={}
instance:FB Wo 152:={}
instance:FB Wo 153:={}
instance:FB Wo 154:={}
instance:FB Wo 155:={}
instance:FB Wo 156:={}
instance:FB Wo 157:={}
instance:FB Wo 158:={}
instance:FB Wo 159:={}
instance:FB Wo 160:={}
instance:FB Wo 161:={}
instance:FB Wo 162:={}
instance:FB Wo 163:={}
instance:FB Wo 164:={}
instance:FB Wo 165:={}
instance:FB Wo 166:={}
instance:FB Wo 167:={}
instance:FB Wo 169:={}
instance:FB Wo 176:={}
instance:FB Wo 179:={}
instance:FB Wo 180:={}
instance:FB Wo 181:={}
instance:FB Wo 182:={}
instance:FB Wo 183:={}
instance:FB Wo 184:={}
instance:FB Wo 185:={}
instance:FB Wo 186:={}
instance:FB Wo 187:={}
instance:FB Wo 188:={}
instance:FB Wo 189:={}
instance:FB Wo 190:={}
instance:FB Wo 209:={}
instance:FB Wo 210:={}
instance:FB Wo 211:={}
instance:FB Wo 212:={}
instance:FB Wo 213:={}
instance:FB Wo 214:={}
instance:FB Wo 215:={}
instance:FB Wo 216:={}
instance:FB Wo 217:={}
instance:FB Wo 218:={}
instance:FB Wo 220:={}
instance:FB Wo 221:={}
instance:FB Wo 222:={}
instance:FB Wo 223:={}
instance:FB Wo 224:={}
instance:FB Wo 225:={}
instance:FB Wo 226:={}
instance:FB Wo 227:={}
instance:FB Wo 228:={}
instance:FB Wo 229:={}
instance:FB Wo 230:={}
instance:FB Wo 231:={}
instance:FB Wo 238:={}
instance:FB Wo 239:={}
instance:FB Wo 240:={}
instance:FB Wo 241:={}
instance:FB Wo 242:={}
instance:FB Wo 243:={}
instance:FB Wo 244:={}
instance:FB Wo 245:={}
instance:FB Wo 246:={}
instance:FB Wo 247:={}
instance:FB Wo 248:={}
instance:FB Wo 249:={}
instance:FB Wo 250:={}
instance:FB Wo 251:={}
instance:FB Wo 252:={}
instance:FB Wo 268:={}
instance:FB Wo 269:={}
instance:FB Wo 270:={}
instance:FB Wo 271:={}
instance:FB Wo 272:={}
instance:FB Wo 273:={}
instance:FB Wo 274:={}
instance:FB Wo 275:={}
instance:FB Wo 276:={}
instance:FB Wo 277:={}
instance:FB Wo 278:={}
instance:FB Wo 279:={}
instance:FB Wo 280:={}
instance:FB Wo 281:={}
instance:FB Wo 282:={}
instance:FB Wo 283:={}
instance:FB Wo 284:={}
instance:FB Wo 285:={}
instance:FB Wo 286:={}
instance:FB Wo 287:={}
instance:FB Wo 288:={}
instance:FB Wo 289:={}
instance:FB Wo 294:={}
instance:FB Wo 295:={}
instance:FB Wo 296:={}
instance:FB Wo 297:={}
instance:FB Wo 298:={}
instance:FB Wo 299:={}
instance:FB Wo 300:={}
instance:FB Wo 301:={}
instance:FB Wo 302:={}
instance:FB Wo 303:={}
instance:FB Wo 304:={}
instance:FB Wo 305:={}
instance:FB Wo 306:={}
instance:FB Wo 307:={}
instance:FB Wo 308:={}
instance:FB Wo 309:={}
instance:FB Wo 310:={}
instance:FB Wo 311:={}
instance:FB Wo 312:={}
instance:FB Wo 313:={}
instance:FB Wo 314:={}
instance:FB Wo 315:={}
instance:FB Wo 316:={}
instance:FB Wo 317:={}
instance:FB Wo 318:={}
instance:FB Wo 319:={}
instance:FB Wo 320:={}
instance:FB Wo 321:={}
instance:FB Wo 322:={}
instance:FB Wo 336:={}
instance:FB Wo 338:={}
instance:FB Wo 339:={}
instance:FB Wo 340:={}
instance:FB Wo 341:={}
instance:FB Wo 342:={}
instance:FB Wo 343:={}
instance:FB Wo 344:={}
instance:FB Wo 345:={}
instance:FB Wo 346:={}
instance:FB Wo 347:={}
instance:FB Wo 348:={}
instance:FB Wo 349:={}
instance:FB Wo 350:={}
instance:FB Wo 351:={}
instance:FB Wo 352:={}
instance:FB Wo 353:={}
instance:FB Wo 354:={}
instance:FB Wo 355:={}
instance:FB Wo 356:={}
instance:FB Wo 357:={}
instance:FB Wo 358:={}
instance:FB Wo 362:={}
instance:FB Wo 363:={}
instance:FB Wo 364:={}
instance:FB Wo 365:={}
instance:FB Wo 366:={}
instance:FB Wo 367:={}
instance:FB Wo 386:={}
instance:FB Wo 387:={}
instance:FB Wo 388:={}
instance:FB Wo 389:={}
instance:FB Wo 390:={}
instance:FB Wo 391:={}
instance:FB Wo 392:={}
instance:FB Wo 393:={}
instance:FB Wo 394:={}
instance:FB Wo 395:={}
instance:FB Wo 396:={}
instance:FB Wo 397:={}
instance:FB Wo 398:={}
instance:FB Wo 399:={}
instance:FB Wo 400:={}
instance:FB Wo 401:={}
instance:FB Wo 402:={}
instance:FB Wo 403:={}
instance:FB Wo 404:={}
instance:FB Wo 405:={}
instance:FB Wo 406:={}
instance:FB Wo 407:={}
instance:FB Wo 408:={}
instance:FB Wo 413:={}
instance:FB Wo 414:={}
instance:FB Wo 415:={}
instance:FB Wo 421:={}
instance:FB Wo 422:={}
instance:FB Wo 423:={}
instance:FB Wo 424:={}
instance:FB Wo 429:={}
theorem Tryz.ac5:ab8 Wo 425 Extern.BytealgIndexByte.indexByte:=λargs w=>Go.run_callFunc_extern Tryz.func425 (by kernel_rfl) (by kernel_rfl) (by kernel_rfl) (by kernel_rfl) args w
instance:FU Wo 2 (.int .i64):=⟨Tryz.underlying2⟩
instance Tryz.ag3:FA Wo 3 false:={}
instance Tryz.Oc:FC Wo 3 1:={}
instance:FU Wo 3 (.int .i64):=⟨Tryz.underlying3⟩
instance:FY Wo 3 8:={}
instance:FZ Wo 3 [.int .i64 0]:={}
instance:FA Wo 4 false:={}
instance Tryz.cz4:FC Wo 4 1:={}
instance:FU Wo 4 .bool:=⟨Tryz.underlying4⟩
instance:FY Wo 4 1:={}
instance:FZ Wo 4 [.bool false]:={}
instance:FA Wo 5 false:={}
instance Tryz.cz5:FC Wo 5 1:={}
instance:FU Wo 5 (.int .u8):=⟨Tryz.underlying5⟩
instance:FY Wo 5 1:={}
instance:FZ Wo 5 [.int .u8 0]:={}
instance:FA Wo 9 false:={}
instance Tryz.cz9:FC Wo 9 1:={}
instance:FU Wo 9 .string:=⟨Tryz.underlying9⟩
instance:FZ Wo 9 [.string ⟨#[]⟩]:={}
instance:FA Wo 21 false:={}
instance:FU Wo 21 (.int .i32):=⟨Tryz.underlying21⟩
instance:FA Wo 22 false:={}
instance Tryz.aE2:FC Wo 22 1:={}
instance:FU Wo 22 (.slice 60):=⟨Tryz.underlying22⟩
instance:FA Wo 23 false:={}
instance Tryz.aE3:FC Wo 23 1:={}
instance:FU Wo 23 (.slice 120):=⟨Tryz.underlying23⟩
instance:FA Wo 24 false:={}
instance Tryz.aE4:FC Wo 24 1:={}
instance:FU Wo 24 (.slice 67):=⟨Tryz.underlying24⟩
instance:FA Wo 25 false:={}
instance Tryz.aE5:FC Wo 25 1:={}
instance:FU Wo 25 (.slice 132):=⟨Tryz.underlying25⟩
instance:FA Wo 26 false:={}
instance Tryz.aE6:FC Wo 26 1:={}
instance:FU Wo 26 (.slice 40):=⟨Tryz.underlying26⟩
instance:FA Wo 27 false:={}
instance Tryz.aE7:FC Wo 27 1:={}
instance:FU Wo 27 (.slice 123):=⟨Tryz.underlying27⟩
instance:FA Wo 28 false:={}
instance Tryz.aE8:FC Wo 28 1:={}
instance:FU Wo 28 (.slice 125):=⟨Tryz.underlying28⟩
instance:FA Wo 29 false:={}
instance Tryz.aE9:FC Wo 29 1:={}
instance:FU Wo 29 (.slice 127):=⟨Tryz.underlying29⟩
instance:FA Wo 31 true:={}
instance Tryz.aF0:FC Wo 31 10:={}
instance:FZ Wo 31 [.slice none 0 0, .slice none 0 0, .slice none 0 0, .int .i64 0, .slice none 0 0, .slice none 0 0, .slice none 0 0, .int .i64 0, .slice none 0 0, .slice none 0 0]:={}
instance:FP Wo 31 [(0,1),(1,1),(2,1),(3,1),(4,1),(5,1),(6,1),(7,1),(8,1),(9,1)]:={}
instance:FF Wo 31 0 0:={}
instance:FF Wo 31 1 1:={}
instance:FF Wo 31 2 2:={}
instance:FF Wo 31 3 3:={}
instance:FF Wo 31 4 4:={}
instance:FF Wo 31 5 5:={}
instance:FF Wo 31 6 6:={}
instance:FF Wo 31 7 7:={}
instance:FF Wo 31 8 8:={}
instance:FF Wo 31 9 9:={}
instance:FA Wo 32 false:={}
instance Tryz.ac6:FC Wo 32 1:={}
instance:FU Wo 32 (.slice 38):=⟨Tryz.underlying32⟩
instance Tryz.aG1:FC Wo 34 2:={}
instance:FF Wo 34 0 0:={}
instance:FF Wo 34 1 1:={}
instance Tryz.aG4:FA Wo 37 false:={}
instance Tryz.aG5:FC Wo 37 1:={}
instance:FU Wo 37 (.int .u8):=⟨Tryz.underlying37⟩
instance:FY Wo 37 1:={}
instance:FZ Wo 37 [.int .u8 0]:={}
instance:FA Wo 38 false:={}
instance Tryz.J3:FC Wo 38 1:={}
instance:FU Wo 38 (.int .u64):=⟨Tryz.underlying38⟩
instance:FY Wo 38 8:={}
instance:FZ Wo 38 [.int .u64 0]:={}
instance:FA Wo 40 true:={}
instance Tryz.ac7:FC Wo 40 3:={}
instance:FZ Wo 40 [.int .u8 0, .bool false, .int .u64 0]:={}
instance:FF Wo 40 0 0:={}
instance:FF Wo 40 1 1:={}
instance:FF Wo 40 2 2:={}
instance:FA Wo 41 false:={}
instance:FU Wo 41 (.pointer 104):=⟨Tryz.underlying41⟩
instance:FA Wo 42 false:={}
instance:FU Wo 42 (.pointer 150):=⟨Tryz.underlying42⟩
instance:FA Wo 43 false:={}
instance:FU Wo 43 (.pointer 146):=⟨Tryz.underlying43⟩
instance:FA Wo 47 true:={}
instance:FC Wo 47 3:={}
instance:FZ Wo 47 [.int .i64 0, .int .i64 0, .int .i64 0]:={}
instance:FP Wo 47 [(0,1),(1,1),(2,1)]:={}
instance:FF Wo 47 0 0:={}
instance:FF Wo 47 1 1:={}
instance:FF Wo 47 2 2:={}
instance:FA Wo 49 false:={}
instance:FA Wo 50 false:={}
instance:FC Wo 50 1:={}
instance:FZ Wo 50 [.int .i64 0]:={}
instance:FA Wo 52 true:={}
instance:FC Wo 52 5:={}
instance:FZ Wo 52 [.int .i64 0, .slice none 0 0, .int .i64 0, .int .i64 0, .int .i64 0]:={}
instance:FP Wo 52 [(0,1),(1,1),(2,1),(3,1),(4,1)]:={}
instance:FF Wo 52 0 0:={}
instance:FF Wo 52 1 1:={}
instance:FF Wo 52 2 2:={}
instance:FF Wo 52 4 4:={}
instance:FA Wo 58 false:={}
instance Tryz.UF:FC Wo 58 1:={}
instance:FU Wo 58 (.slice 5):=⟨Tryz.underlying58⟩
instance:FY Wo 58 24:={}
instance:FZ Wo 58 [.slice none 0 0]:={}
instance:FA Wo 60 true:={}
instance Tryz.ac8:FC Wo 60 2:={}
instance:FZ Wo 60 [.slice none 0 0, .slice none 0 0]:={}
instance:FP Wo 60 [(0,1),(1,1)]:={}
instance:FF Wo 60 0 0:={}
instance:FF Wo 60 1 1:={}
instance:FA Wo 62 true:={}
instance Tryz.ac9:FC Wo 62 5:={}
instance:FZ Wo 62 [.int .i64 0, .int .u64 0, .int .u64 0, .int .i64 0, .slice none 0 0]:={}
instance:FP Wo 62 [(0,1),(1,1),(2,1),(3,1),(4,1)]:={}
instance:FF Wo 62 0 0:={}
instance:FF Wo 62 1 1:={}
instance:FF Wo 62 2 2:={}
instance:FF Wo 62 3 3:={}
instance:FF Wo 62 4 4:={}
instance:FA Wo 63 false:={}
instance Tryz.aI3:FC Wo 63 1:={}
instance:FU Wo 63 (.slice 62):=⟨Tryz.underlying63⟩
instance:FA Wo 65 true:={}
instance Tryz.ad0:FC Wo 65 2:={}
instance:FZ Wo 65 [.slice none 0 0, .slice none 0 0]:={}
instance:FP Wo 65 [(0,1),(1,1)]:={}
instance:FF Wo 65 0 0:={}
instance:FF Wo 65 1 1:={}
instance Tryz.ad1:FC Wo 67 3:={}
instance:FZ Wo 67 [.int .i64 0, .slice none 0 0, .slice none 0 0]:={}
instance:FP Wo 67 [(0,1),(1,2)]:={}
instance:FF Wo 67 0 0:={}
instance:FF Wo 67 1 1:={}
instance:FA Wo 70 false:={}
instance Tryz.aI8:FC Wo 70 1:={}
instance:FU Wo 70 (.slice 3):=⟨Tryz.underlying70⟩
instance:FA Wo 72 true:={}
instance:FC Wo 72 3:={}
instance:FZ Wo 72 [.int .i64 0, .int .i64 0, .slice none 0 0]:={}
instance:FP Wo 72 [(0,1),(1,1),(2,1)]:={}
instance:FF Wo 72 0 0:={}
instance:FF Wo 72 1 1:={}
instance:FF Wo 72 2 2:={}
instance:FA Wo 78 false:={}
instance:FU Wo 78 (.pointer 157):=⟨Tryz.underlying78⟩
instance:FU Wo 80 (.pointer 227):=⟨Tryz.underlying80⟩
instance:FA Wo 84 false:={}
instance:FU Wo 84 (.pointer 185):=⟨Tryz.underlying84⟩
instance:FA Wo 85 false:={}
instance:FU Wo 85 (.pointer 233):=⟨Tryz.underlying85⟩
instance:FU Wo 89 (.int .u32):=⟨Tryz.underlying89⟩
instance:FF Wo 91 1 0:={}
instance:FF Wo 93 0 0:={}
instance:FF Wo 95 1 0:={}
instance:FF Wo 97 1 0:={}
instance:FF Wo 97 2 1:={}
instance:FA Wo 98 false:={}
instance:FC Wo 98 1:={}
instance:FU Wo 98 (.slice 182):=⟨Tryz.underlying98⟩
instance:FF Wo 101 2 0:={}
instance:FC Wo 102 2:={}
instance:FU Wo 102 (.array 2 3):=⟨Tryz.underlying102⟩
instance:FZ Wo 102 [.int .i64 0, .int .i64 0]:={}
instance:FR Wo 102 (2,1):={}
instance:FZ Wo 104 [.pointer none, .int .i64 0, .int .i64 0, .int .i64 0, .pointer none, .pointer none, .int .u32 0, .int .i32 0, .int .u32 0, .slice none 0 0, .int .i64 0, .int .i64 0, .bool false, .int .i64 0, .int .i64 0, .bool false, .int .i64 0, .int .i64 0, .int .i64 0, .slice none 0 0, .int .i64 0, .int .i64 0, .int .i64 0, .bool false]:={}
instance:FP Wo 104 [(0,1),(1,3),(4,1),(5,1),(6,3),(9,1),(10,1),(11,1),(12,1),(13,1),(14,1),(15,1),(16,2),(18,5),(23,1)]:={}
instance:FF Wo 104 0 0:={}
instance:FF Wo 104 1 1:={}
instance:FF Wo 104 2 4:={}
instance:FF Wo 104 3 5:={}
instance:FF Wo 104 4 6:={}
instance:FF Wo 104 5 9:={}
instance:FF Wo 104 6 10:={}
instance:FF Wo 104 7 11:={}
instance:FF Wo 104 8 12:={}
instance:FF Wo 104 9 13:={}
instance:FF Wo 104 10 14:={}
instance:FF Wo 104 11 15:={}
instance:FF Wo 104 12 16:={}
instance:FF Wo 104 13 18:={}
instance:FF Wo 104 14 23:={}
instance:FA Wo 105 false:={}
instance:FC Wo 105 1:={}
instance:FU Wo 105 (.slice 37):=⟨Tryz.underlying105⟩
instance:FZ Wo 105 [.slice none 0 0]:={}
instance:FA Wo 107 true:={}
instance:FC Wo 107 2:={}
instance:FY Wo 107 48:={}
instance:FZ Wo 107 [.slice none 0 0, .slice none 0 0]:={}
instance:FP Wo 107 [(0,1),(1,1)]:={}
instance:FF Wo 107 0 0:={}
instance:FF Wo 107 1 1:={}
instance:FA Wo 120 true:={}
instance Tryz.WQ:FC Wo 120 3:={}
instance:FZ Wo 120 [.string ⟨#[]⟩, .string ⟨#[]⟩, .int .i64 0]:={}
instance:FF Wo 120 0 0:={}
instance:FF Wo 120 1 1:={}
instance:FF Wo 120 2 2:={}
instance:FA Wo 123 true:={}
instance Tryz.WR:FC Wo 123 3:={}
instance:FZ Wo 123 [.string ⟨#[]⟩, .int .i64 0, .int .i64 0]:={}
instance:FF Wo 123 0 0:={}
instance:FF Wo 123 1 1:={}
instance:FF Wo 123 2 2:={}
instance:FA Wo 125 true:={}
instance Tryz.WS:FC Wo 125 2:={}
instance:FZ Wo 125 [.int .u64 0, .slice none 0 0]:={}
instance:FF Wo 125 0 0:={}
instance:FF Wo 125 1 1:={}
instance:FA Wo 127 true:={}
instance Tryz.WT:FC Wo 127 3:={}
instance:FZ Wo 127 [.int .i64 0, .int .u64 0, .slice none 0 0]:={}
instance:FF Wo 127 0 0:={}
instance:FF Wo 127 1 1:={}
instance:FF Wo 127 2 2:={}
instance:FA Wo 132 true:={}
instance Tryz.WU:FC Wo 132 3:={}
instance:FZ Wo 132 [.int .i64 0, .int .i64 0, .bool false]:={}
instance:FF Wo 132 0 0:={}
instance:FF Wo 132 1 1:={}
instance:FF Wo 132 2 2:={}
instance:FA Wo 137 false:={}
instance:FC Wo 137 1:={}
instance:FU Wo 137 (.slice 139):=⟨Tryz.underlying137⟩
instance:FA Wo 138 false:={}
instance:FC Wo 138 1:={}
instance:FU Wo 138 (.slice 4):=⟨Tryz.underlying138⟩
instance:FA Wo 139 true:={}
instance:FC Wo 139 2:={}
instance:FY Wo 139 48:={}
instance:FZ Wo 139 [.slice none 0 0, .slice none 0 0]:={}
instance:FP Wo 139 [(0,1),(1,1)]:={}
instance:FF Wo 139 0 0:={}
instance:FF Wo 139 1 1:={}
instance:FA Wo 141 true:={}
instance:FC Wo 141 9:={}
instance:FZ Wo 141 [.slice none 0 0, .slice none 0 0, .slice none 0 0, .slice none 0 0, .slice none 0 0, .bool false, .slice none 0 0, .slice none 0 0, .slice none 0 0]:={}
instance:FP Wo 141 [(0,1),(1,1),(2,1),(3,1),(4,1),(5,1),(6,2),(8,1)]:={}
instance:FF Wo 141 0 0:={}
instance:FF Wo 141 1 1:={}
instance:FF Wo 141 2 2:={}
instance:FF Wo 141 3 3:={}
instance:FF Wo 141 4 4:={}
instance:FF Wo 141 5 5:={}
instance:FF Wo 141 6 6:={}
instance:FF Wo 141 7 8:={}
instance:FA Wo 143 false:={}
instance:FA Wo 144 false:={}
instance:FZ Wo 146 [.slice none 0 0, .int .i64 0, .int .i64 0, .map none, .map none]:={}
instance:FP Wo 146 [(0,1),(1,1),(2,1),(3,1),(4,1)]:={}
instance:FF Wo 146 0 0:={}
instance:FF Wo 146 1 1:={}
instance:FF Wo 146 2 2:={}
instance:FF Wo 146 3 3:={}
instance:FF Wo 146 4 4:={}
instance:FZ Wo 150 [.pointer none, .pointer none, .pointer none, .int .i64 0, .int .i64 0, .int .i64 0, .slice none 0 0, .bool false]:={}
instance:FP Wo 150 [(0,1),(1,1),(2,1),(3,1),(4,1),(5,1),(6,1),(7,1)]:={}
instance:FF Wo 150 0 0:={}
instance:FF Wo 150 1 1:={}
instance:FF Wo 150 4 4:={}
instance:FF Wo 150 5 5:={}
instance:FF Wo 150 7 7:={}
instance:FA Wo 151 false:={}
instance:FA Wo 154 false:={}
instance:FC Wo 154 1:={}
instance:FU Wo 154 (.slice 107):=⟨Tryz.underlying154⟩
instance:FA Wo 155 false:={}
instance:FC Wo 155 1:={}
instance:FU Wo 155 (.slice 164):=⟨Tryz.underlying155⟩
instance:FZ Wo 157 [.slice none 0 0, .slice none 0 0, .slice none 0 0, .int .i64 0, .slice none 0 0, .slice none 0 0, .slice none 0 0, .int .i64 0, .slice none 0 0, .slice none 0 0]:={}
instance:FP Wo 157 [(0,1),(1,1),(2,1),(3,1),(4,1),(5,1),(6,1),(7,1),(8,1),(9,1)]:={}
instance:FF Wo 157 0 0:={}
instance:FF Wo 157 1 1:={}
instance:FF Wo 157 2 2:={}
instance:FF Wo 157 3 3:={}
instance:FF Wo 157 4 4:={}
instance:FF Wo 157 5 5:={}
instance:FF Wo 157 6 6:={}
instance:FF Wo 157 7 7:={}
instance:FF Wo 157 8 8:={}
instance:FF Wo 157 9 9:={}
instance:FA Wo 159 false:={}
instance:FU Wo 159 (.slice 260):=⟨Tryz.underlying159⟩
instance:FA Wo 161 true:={}
instance:FC Wo 161 2:={}
instance:FZ Wo 161 [.slice none 0 0, .slice none 0 0]:={}
instance:FP Wo 161 [(0,1),(1,1)]:={}
instance:FF Wo 161 0 0:={}
instance:FF Wo 161 1 1:={}
instance:FA Wo 164 true:={}
instance:FC Wo 164 3:={}
instance:FY Wo 164 56:={}
instance:FZ Wo 164 [.int .i64 0, .slice none 0 0, .slice none 0 0]:={}
instance:FP Wo 164 [(0,1),(1,2)]:={}
instance:FF Wo 164 0 0:={}
instance:FF Wo 164 1 1:={}
instance:FU Wo 165 (.pointer 223):=⟨Tryz.underlying165⟩
instance:FA Wo 177 false:={}
instance:FU Wo 177 (.pointer 247):=⟨Tryz.underlying177⟩
instance:FA Wo 182 true:={}
instance:FC Wo 182 7:={}
instance:FY Wo 182 120:={}
instance:FZ Wo 182 [.slice none 0 0, .slice none 0 0, .pointer none, .slice none 0 0, .slice none 0 0, .int .i64 0, .int .i64 0]:={}
instance:FP Wo 182 [(0,2),(2,1),(3,2),(5,1),(6,1)]:={}
instance:FF Wo 182 0 0:={}
instance:FF Wo 182 1 2:={}
instance:FF Wo 182 2 3:={}
instance:FF Wo 182 3 5:={}
instance:FF Wo 182 4 6:={}
instance:FZ Wo 185 [.pointer none, .int .i64 0, .int .i64 0, .int .i64 0, .bool false]:={}
instance:FP Wo 185 [(0,1),(1,1),(2,1),(3,1),(4,1)]:={}
instance:FF Wo 185 0 0:={}
instance:FF Wo 185 1 1:={}
instance:FF Wo 185 2 2:={}
instance:FF Wo 185 3 3:={}
instance:FF Wo 185 4 4:={}
instance:FA Wo 193 true:={}
instance:FC Wo 193 3:={}
instance:FZ Wo 193 [.int .i64 0, .int .i64 0, .int .i64 0]:={}
instance:FP Wo 193 [(0,1),(1,1),(2,1)]:={}
theorem Tryz.ad7:Tryz.prog.stoodInHeld 193=false:=by kernel_rfl
theorem Tryz.ad8:Tryz.prog.eqGuardType Tryz.prog.depth 193=false:=by kernel_rfl
instance:FF Wo 193 0 0:={}
instance:FF Wo 193 1 1:={}
instance:FF Wo 193 2 2:={}
instance:FU Wo 199 (.slice 343):=⟨Tryz.underlying199⟩
instance:FU Wo 205 (.slice 58):=⟨Tryz.underlying205⟩
instance:FA Wo 207 true:={}
instance:FC Wo 207 4:={}
instance:FY Wo 207 40:={}
instance:FZ Wo 207 [.string ⟨#[]⟩, .int .i64 0, .int .i64 0, .int .i64 0]:={}
instance:FP Wo 207 [(0,1),(1,1),(2,1),(3,1)]:={}
instance:FZ Wo 223 [.int .i64 0, .int .i64 0, .int .i64 0, .map none, .int .i64 0, .int .i64 0, .bool false]:={}
instance:FP Wo 223 [(0,1),(1,1),(2,1),(3,1),(4,1),(5,1),(6,1)]:={}
instance:FF Wo 223 0 0:={}
instance:FA Wo 225 false:={}
instance:FC Wo 225 1:={}
instance:FU Wo 225 (.slice 231):=⟨Tryz.underlying225⟩
instance:FZ Wo 227 [.pointer none, .pointer none, .slice none 0 0, .int .i64 0, .map none, .map none, .int .i64 0, .bool false]:={}
instance:FP Wo 227 [(0,1),(1,1),(2,1),(3,1),(4,1),(5,1),(6,1),(7,1)]:={}
instance:FF Wo 227 2 2:={}
instance:FC Wo 231 6:={}
instance:FY Wo 231 32:={}
instance:FZ Wo 231 [.int .i64 0, .int .i64 0, .int .i64 0, .bool false, .bool false, .bool false]:={}
instance:FP Wo 231 [(0,1),(1,2),(3,1),(4,1),(5,1)]:={}
instance:FZ Wo 233 [.pointer none, .int .i64 0, .int .i64 0, .int .i64 0, .bool false]:={}
instance:FP Wo 233 [(0,1),(1,1),(2,1),(3,1),(4,1)]:={}
instance:FF Wo 233 0 0:={}
instance:FF Wo 233 1 1:={}
instance:FF Wo 233 2 2:={}
instance:FF Wo 233 3 3:={}
instance:FF Wo 233 4 4:={}
instance:FA Wo 240 false:={}
instance:FC Wo 240 1:={}
instance:FU Wo 240 (.slice 251):=⟨Tryz.underlying240⟩
instance:FZ Wo 240 [.slice none 0 0]:={}
instance:FA Wo 244 false:={}
instance:FA Wo 245 false:={}
instance:FC Wo 245 1:={}
instance:FU Wo 245 (.slice 307):=⟨Tryz.underlying245⟩
instance:FZ Wo 247 [.map none, .map none, .map none, .slice none 0 0]:={}
instance:FP Wo 247 [(0,1),(1,1),(2,1),(3,1)]:={}
instance:FF Wo 247 0 0:={}
instance:FF Wo 247 1 1:={}
instance:FF Wo 247 2 2:={}
instance:FF Wo 247 3 3:={}
instance:FZ Wo 249 [.slice none 0 0, .slice none 0 0, .slice none 0 0, .int .i64 0, .pointer none]:={}
instance:FP Wo 249 [(0,1),(1,1),(2,1),(3,1),(4,1)]:={}
instance:FF Wo 249 0 0:={}
instance:FF Wo 249 1 1:={}
instance:FF Wo 249 2 2:={}
instance:FF Wo 249 3 3:={}
instance:FF Wo 249 4 4:={}
instance:FA Wo 251 true:={}
instance:FC Wo 251 3:={}
instance:FY Wo 251 24:={}
instance:FZ Wo 251 [.int .i64 0, .int .i64 0, .int .i64 0]:={}
instance:FP Wo 251 [(0,1),(1,1),(2,1)]:={}
instance:FF Wo 251 0 0:={}
instance:FF Wo 251 1 1:={}
instance:FF Wo 251 2 2:={}
instance:FA Wo 260 true:={}
instance:FC Wo 260 5:={}
instance:FY Wo 260 56:={}
instance:FZ Wo 260 [.int .i64 0, .int .u64 0, .int .u64 0, .int .i64 0, .slice none 0 0]:={}
instance:FP Wo 260 [(0,1),(1,1),(2,1),(3,1),(4,1)]:={}
instance:FF Wo 260 0 0:={}
instance:FF Wo 260 1 1:={}
instance:FF Wo 260 2 2:={}
instance:FF Wo 260 3 3:={}
instance:FF Wo 260 4 4:={}
instance:FA Wo 262 false:={}
instance:FC Wo 262 1:={}
instance:FU Wo 263 (.array 4 262):=⟨Tryz.underlying263⟩
instance:FZ Wo 263 [.nilFunc, .nilFunc, .nilFunc, .nilFunc]:={}
instance:FR Wo 263 (4,1):={}
instance:FA Wo 269 true:={}
instance:FC Wo 269 3:={}
instance:FZ Wo 269 [.slice none 0 0, .bool false, .int .i64 0]:={}
instance:FP Wo 269 [(0,1),(1,1),(2,1)]:={}
instance:FF Wo 269 0 0:={}
instance:FF Wo 269 1 1:={}
instance:FF Wo 269 2 2:={}
instance:FU Wo 274 (.slice 207):=⟨Tryz.underlying274⟩
instance:FZ Wo 299 [.slice none 0 0, .slice none 0 0, .slice none 0 0, .bool false, .int .i64 0]:={}
instance:FP Wo 299 [(0,1),(1,1),(2,1),(3,1),(4,1)]:={}
instance:FF Wo 299 0 0:={}
instance:FF Wo 299 1 1:={}
instance:FF Wo 299 2 2:={}
instance:FF Wo 299 3 3:={}
instance:FF Wo 299 4 4:={}
instance:FA Wo 304 true:={}
instance:FC Wo 304 3:={}
instance:FZ Wo 304 [.int .i64 0, .int .i64 0, .int .i64 0]:={}
instance:FP Wo 304 [(0,1),(1,1),(2,1)]:={}
instance:FF Wo 304 0 0:={}
instance:FF Wo 304 1 1:={}
instance:FF Wo 304 2 2:={}
instance:FC Wo 307 2:={}
instance:FY Wo 307 16:={}
instance:FZ Wo 307 [.int .i64 0, .int .i64 0]:={}
instance:FP Wo 307 [(0,1),(1,1)]:={}
theorem Tryz.ad9:Tryz.prog.stoodInHeld 307=false:=by kernel_rfl
instance:FU Wo 315 (.array 3 3):=⟨Tryz.underlying315⟩
instance:FZ Wo 315 [.int .i64 0, .int .i64 0, .int .i64 0]:={}
instance:FR Wo 315 (3,1):={}
instance:FA Wo 328 true:={}
instance:FC Wo 328 5:={}
instance:FZ Wo 328 [.int .i64 0, .string ⟨#[]⟩, .int .i64 0, .slice none 0 0, .slice none 0 0]:={}
instance:FP Wo 328 [(0,1),(1,1),(2,1),(3,1),(4,1)]:={}
instance:FF Wo 328 1 1:={}
instance:FF Wo 328 2 2:={}
instance:FF Wo 328 3 3:={}
instance:FF Wo 328 4 4:={}
instance:FU Wo 342 (.slice 9):=⟨Tryz.underlying342⟩
instance:FA Wo 343 true:={}
instance:FC Wo 343 3:={}
instance:FY Wo 343 24:={}
instance:FZ Wo 343 [.int .i64 0, .int .i64 0, .int .i64 0]:={}
instance:FP Wo 343 [(0,1),(1,1),(2,1)]:={}
instance:FF Wo 343 1 1:={}
instance:FF Wo 343 2 2:={}
instance:FU Wo 365 (.pointer 93):=⟨Tryz.underlying365⟩
instance:FZ Wo 375 [.pointer none, .slice none 0 0, .slice none 0 0, .slice none 0 0]:={}
instance:FP Wo 375 [(0,1),(1,1),(2,2)]:={}
instance:FF Wo 375 0 0:={}
instance:FF Wo 375 1 1:={}
instance:FF Wo 375 2 2:={}
instance:FA Wo 377 true:={}
instance:FC Wo 377 5:={}
instance:FY Wo 377 48:={}
instance:FZ Wo 377 [.bool false, .bool false, .slice none 0 0, .int .i64 0, .bool false]:={}
instance:FP Wo 377 [(0,1),(1,1),(2,1),(3,1),(4,1)]:={}
instance:FF Wo 377 0 0:={}
instance:FF Wo 377 1 1:={}
instance:FF Wo 377 2 2:={}
instance:FF Wo 377 3 3:={}
instance:FF Wo 377 4 4:={}
instance:FA Wo 378 false:={}
instance:FC Wo 378 1:={}
instance:FU Wo 378 (.slice 377):=⟨Tryz.underlying378⟩
instance:FZ Wo 380 [.pointer none, .slice none 0 0, .slice none 0 0, .slice none 0 0, .slice none 0 0, .slice none 0 0]:={}
instance:FP Wo 380 [(0,4),(4,1),(5,1)]:={}
instance:FF Wo 380 0 0:={}
instance:FF Wo 380 1 4:={}
instance:FF Wo 380 2 5:={}
instance:FU Wo 387 (.slice 105):=⟨Tryz.underlying387⟩
instance:FA Wo 398 true:={}
instance:FC Wo 398 5:={}
instance:FZ Wo 398 [.int .i64 0, .string ⟨#[]⟩, .int .i64 0, .string ⟨#[]⟩, .string ⟨#[]⟩]:={}
instance:FP Wo 398 [(0,1),(1,1),(2,1),(3,1),(4,1)]:={}
instance:FF Wo 398 0 0:={}
instance:FF Wo 398 1 1:={}
instance:FF Wo 398 2 2:={}
instance:FF Wo 398 3 3:={}
instance:FF Wo 398 4 4:={}
instance:FU Wo 402 (.array 3 9):=⟨Tryz.underlying402⟩
instance:FZ Wo 402 [.string ⟨#[]⟩, .string ⟨#[]⟩, .string ⟨#[]⟩]:={}
instance:FR Wo 402 (3,1):={}
instance:FA Wo 419 true:={}
instance:FC Wo 419 2:={}
instance:FZ Wo 419 [.string ⟨#[]⟩, .nilFunc]:={}
instance:FP Wo 419 [(0,1),(1,1)]:={}
instance:FF Wo 419 0 0:={}
instance:FF Wo 419 1 1:={}
instance:FU Wo 420 (.array 10 419):=⟨Tryz.underlying420⟩
instance:FZ Wo 420 [.string ⟨#[]⟩, .nilFunc, .string ⟨#[]⟩, .nilFunc, .string ⟨#[]⟩, .nilFunc, .string ⟨#[]⟩, .nilFunc, .string ⟨#[]⟩, .nilFunc, .string ⟨#[]⟩, .nilFunc, .string ⟨#[]⟩, .nilFunc, .string ⟨#[]⟩, .nilFunc, .string ⟨#[]⟩, .nilFunc, .string ⟨#[]⟩, .nilFunc]:={}
instance:FR Wo 420 (10,2):={}
instance:FU Wo 427 (.int .u64):=⟨Tryz.underlying427⟩
instance:FU Wo 431 (.slice 435):=⟨Tryz.underlying431⟩
instance:FA Wo 435 true:={}
instance:FC Wo 435 2:={}
instance:FY Wo 435 16:={}
instance:FZ Wo 435 [.int .i64 0, .int .u8 0]:={}
instance:FP Wo 435 [(0,1),(1,1)]:={}
instance:FF Wo 435 0 0:={}
instance:FF Wo 435 1 1:={}
instance:FZ Wo 437 [.int .i64 0]:={}
instance:FP Wo 437 [(0,1)]:={}
instance:FF Wo 437 0 0:={}
instance:FA Wo 442 true:={}
instance:FC Wo 442 235:={}
instance:FU Wo 442 (.array 47 398):=⟨Tryz.underlying442⟩
instance:FZ Wo 442 [.int .i64 0, .string ⟨#[]⟩, .int .i64 0, .string ⟨#[]⟩, .string ⟨#[]⟩, .int .i64 0, .string ⟨#[]⟩, .int .i64 0, .string ⟨#[]⟩, .string ⟨#[]⟩, .int .i64 0, .string ⟨#[]⟩, .int .i64 0, .string ⟨#[]⟩, .string ⟨#[]⟩, .int .i64 0, .string ⟨#[]⟩, .int .i64 0, .string ⟨#[]⟩, .string ⟨#[]⟩, .int .i64 0, .string ⟨#[]⟩, .int .i64 0, .string ⟨#[]⟩, .string ⟨#[]⟩, .int .i64 0, .string ⟨#[]⟩, .int .i64 0, .string ⟨#[]⟩, .string ⟨#[]⟩, .int .i64 0, .string ⟨#[]⟩, .int .i64 0, .string ⟨#[]⟩, .string ⟨#[]⟩, .int .i64 0, .string ⟨#[]⟩, .int .i64 0, .string ⟨#[]⟩, .string ⟨#[]⟩, .int .i64 0, .string ⟨#[]⟩, .int .i64 0, .string ⟨#[]⟩, .string ⟨#[]⟩, .int .i64 0, .string ⟨#[]⟩, .int .i64 0, .string ⟨#[]⟩, .string ⟨#[]⟩, .int .i64 0, .string ⟨#[]⟩, .int .i64 0, .string ⟨#[]⟩, .string ⟨#[]⟩, .int .i64 0, .string ⟨#[]⟩, .int .i64 0, .string ⟨#[]⟩, .string ⟨#[]⟩, .int .i64 0, .string ⟨#[]⟩, .int .i64 0, .string ⟨#[]⟩, .string ⟨#[]⟩, .int .i64 0, .string ⟨#[]⟩, .int .i64 0, .string ⟨#[]⟩, .string ⟨#[]⟩, .int .i64 0, .string ⟨#[]⟩, .int .i64 0, .string ⟨#[]⟩, .string ⟨#[]⟩, .int .i64 0, .string ⟨#[]⟩, .int .i64 0, .string ⟨#[]⟩, .string ⟨#[]⟩, .int .i64 0, .string ⟨#[]⟩, .int .i64 0, .string ⟨#[]⟩, .string ⟨#[]⟩, .int .i64 0, .string ⟨#[]⟩, .int .i64 0, .string ⟨#[]⟩, .string ⟨#[]⟩, .int .i64 0, .string ⟨#[]⟩, .int .i64 0, .string ⟨#[]⟩, .string ⟨#[]⟩, .int .i64 0, .string ⟨#[]⟩, .int .i64 0, .string ⟨#[]⟩, .string ⟨#[]⟩, .int .i64 0, .string ⟨#[]⟩, .int .i64 0, .string ⟨#[]⟩, .string ⟨#[]⟩, .int .i64 0, .string ⟨#[]⟩, .int .i64 0, .string ⟨#[]⟩, .string ⟨#[]⟩, .int .i64 0, .string ⟨#[]⟩, .int .i64 0, .string ⟨#[]⟩, .string ⟨#[]⟩, .int .i64 0, .string ⟨#[]⟩, .int .i64 0, .string ⟨#[]⟩, .string ⟨#[]⟩, .int .i64 0, .string ⟨#[]⟩, .int .i64 0, .string ⟨#[]⟩, .string ⟨#[]⟩, .int .i64 0, .string ⟨#[]⟩, .int .i64 0, .string ⟨#[]⟩, .string ⟨#[]⟩, .int .i64 0, .string ⟨#[]⟩, .int .i64 0, .string ⟨#[]⟩, .string ⟨#[]⟩, .int .i64 0, .string ⟨#[]⟩, .int .i64 0, .string ⟨#[]⟩, .string ⟨#[]⟩, .int .i64 0, .string ⟨#[]⟩, .int .i64 0, .string ⟨#[]⟩, .string ⟨#[]⟩, .int .i64 0, .string ⟨#[]⟩, .int .i64 0, .string ⟨#[]⟩, .string ⟨#[]⟩, .int .i64 0, .string ⟨#[]⟩, .int .i64 0, .string ⟨#[]⟩, .string ⟨#[]⟩, .int .i64 0, .string ⟨#[]⟩, .int .i64 0, .string ⟨#[]⟩, .string ⟨#[]⟩, .int .i64 0, .string ⟨#[]⟩, .int .i64 0, .string ⟨#[]⟩, .string ⟨#[]⟩, .int .i64 0, .string ⟨#[]⟩, .int .i64 0, .string ⟨#[]⟩, .string ⟨#[]⟩, .int .i64 0, .string ⟨#[]⟩, .int .i64 0, .string ⟨#[]⟩, .string ⟨#[]⟩, .int .i64 0, .string ⟨#[]⟩, .int .i64 0, .string ⟨#[]⟩, .string ⟨#[]⟩, .int .i64 0, .string ⟨#[]⟩, .int .i64 0, .string ⟨#[]⟩, .string ⟨#[]⟩, .int .i64 0, .string ⟨#[]⟩, .int .i64 0, .string ⟨#[]⟩, .string ⟨#[]⟩, .int .i64 0, .string ⟨#[]⟩, .int .i64 0, .string ⟨#[]⟩, .string ⟨#[]⟩, .int .i64 0, .string ⟨#[]⟩, .int .i64 0, .string ⟨#[]⟩, .string ⟨#[]⟩, .int .i64 0, .string ⟨#[]⟩, .int .i64 0, .string ⟨#[]⟩, .string ⟨#[]⟩, .int .i64 0, .string ⟨#[]⟩, .int .i64 0, .string ⟨#[]⟩, .string ⟨#[]⟩, .int .i64 0, .string ⟨#[]⟩, .int .i64 0, .string ⟨#[]⟩, .string ⟨#[]⟩, .int .i64 0, .string ⟨#[]⟩, .int .i64 0, .string ⟨#[]⟩, .string ⟨#[]⟩, .int .i64 0, .string ⟨#[]⟩, .int .i64 0, .string ⟨#[]⟩, .string ⟨#[]⟩, .int .i64 0, .string ⟨#[]⟩, .int .i64 0, .string ⟨#[]⟩, .string ⟨#[]⟩, .int .i64 0, .string ⟨#[]⟩, .int .i64 0, .string ⟨#[]⟩, .string ⟨#[]⟩]:={}
instance:FR Wo 442 (47,5):={}
instance:FA Wo 444 true:={}
instance:FC Wo 444 30:={}
instance:FU Wo 444 (.array 6 398):=⟨Tryz.underlying444⟩
instance:FZ Wo 444 [.int .i64 0, .string ⟨#[]⟩, .int .i64 0, .string ⟨#[]⟩, .string ⟨#[]⟩, .int .i64 0, .string ⟨#[]⟩, .int .i64 0, .string ⟨#[]⟩, .string ⟨#[]⟩, .int .i64 0, .string ⟨#[]⟩, .int .i64 0, .string ⟨#[]⟩, .string ⟨#[]⟩, .int .i64 0, .string ⟨#[]⟩, .int .i64 0, .string ⟨#[]⟩, .string ⟨#[]⟩, .int .i64 0, .string ⟨#[]⟩, .int .i64 0, .string ⟨#[]⟩, .string ⟨#[]⟩, .int .i64 0, .string ⟨#[]⟩, .int .i64 0, .string ⟨#[]⟩, .string ⟨#[]⟩]:={}
instance:FR Wo 444 (6,5):={}
instance:FA Wo 452 true:={}
instance:FC Wo 452 5:={}
instance:FZ Wo 452 [.int .i64 0, .int .i64 0, .int .i64 0, .int .i64 0, .int .i64 0]:={}
instance:FP Wo 452 [(0,1),(1,1),(2,1),(3,1),(4,1)]:={}
instance:FF Wo 452 0 0:={}
instance:FF Wo 452 1 1:={}
instance:FF Wo 452 2 2:={}
instance:FF Wo 452 3 3:={}
instance:FF Wo 452 4 4:={}
instance:FA Wo 453 true:={}
instance:FC Wo 453 40:={}
instance:FU Wo 453 (.array 8 452):=⟨Tryz.underlying453⟩
instance:FZ Wo 453 [.int .i64 0, .int .i64 0, .int .i64 0, .int .i64 0, .int .i64 0, .int .i64 0, .int .i64 0, .int .i64 0, .int .i64 0, .int .i64 0, .int .i64 0, .int .i64 0, .int .i64 0, .int .i64 0, .int .i64 0, .int .i64 0, .int .i64 0, .int .i64 0, .int .i64 0, .int .i64 0, .int .i64 0, .int .i64 0, .int .i64 0, .int .i64 0, .int .i64 0, .int .i64 0, .int .i64 0, .int .i64 0, .int .i64 0, .int .i64 0, .int .i64 0, .int .i64 0, .int .i64 0, .int .i64 0, .int .i64 0, .int .i64 0, .int .i64 0, .int .i64 0, .int .i64 0, .int .i64 0]:={}
instance:FR Wo 453 (8,5):={}
instance:FC Wo 456 4:={}
instance:FU Wo 456 (.array 4 38):=⟨Tryz.underlying456⟩
instance:FZ Wo 456 [.int .u64 0, .int .u64 0, .int .u64 0, .int .u64 0]:={}
instance:FR Wo 456 (4,1):={}
instance:FA Wo 463 true:={}
instance:FC Wo 463 4:={}
instance:FU Wo 463 (.array 4 3):=⟨Tryz.underlying463⟩
instance:FZ Wo 463 [.int .i64 0, .int .i64 0, .int .i64 0, .int .i64 0]:={}
instance:FR Wo 463 (4,1):={}
instance:FA Wo 488 true:={}
instance:FC Wo 488 15:={}
instance:FU Wo 488 (.array 15 9):=⟨Tryz.underlying488⟩
instance:FZ Wo 488 [.string ⟨#[]⟩, .string ⟨#[]⟩, .string ⟨#[]⟩, .string ⟨#[]⟩, .string ⟨#[]⟩, .string ⟨#[]⟩, .string ⟨#[]⟩, .string ⟨#[]⟩, .string ⟨#[]⟩, .string ⟨#[]⟩, .string ⟨#[]⟩, .string ⟨#[]⟩, .string ⟨#[]⟩, .string ⟨#[]⟩, .string ⟨#[]⟩]:={}
instance:FR Wo 488 (15,1):={}
instance:FA Wo 490 true:={}
instance:FC Wo 490 10:={}
instance:FU Wo 490 (.array 10 9):=⟨Tryz.underlying490⟩
instance:FZ Wo 490 [.string ⟨#[]⟩, .string ⟨#[]⟩, .string ⟨#[]⟩, .string ⟨#[]⟩, .string ⟨#[]⟩, .string ⟨#[]⟩, .string ⟨#[]⟩, .string ⟨#[]⟩, .string ⟨#[]⟩, .string ⟨#[]⟩]:={}
instance:FR Wo 490 (10,1):={}
instance:FA Wo 492 true:={}
instance:FC Wo 492 4:={}
instance:FU Wo 492 (.array 4 9):=⟨Tryz.underlying492⟩
instance:FZ Wo 492 [.string ⟨#[]⟩, .string ⟨#[]⟩, .string ⟨#[]⟩, .string ⟨#[]⟩]:={}
instance:FR Wo 492 (4,1):={}
instance:FU Wo 499 (.array 64 5):=⟨Tryz.underlying499⟩
theorem Tryz.Dj:wz Wo 3 (Value.int .i64):=wz.int Tryz.underlying3
theorem Tryz.zv3:Eg Wo 3=some (.int .i64 0):=by kernel_rfl
theorem Tryz.ae0:wz Wo 3 (Value.int .i64):=wz.int Tryz.underlying3
theorem Tryz.aJ7:Eg Wo 70=some (.slice none 0 0):=by kernel_rfl
theorem Tryz.Ro:wz Wo 307 (JT .i64 .i64):=wz.pair Tryz.underlying307 Tryz.ad9 (by decide) (by decide) rfl rfl Tryz.underlying3 Tryz.underlying3
instance:FM Wo:={}
end Go.Proofs
end
section
namespace Go.Hl
open Go.RowKit
section
variable {P:Program} {hs:List HP} {env:Env} {q:VP} {dst:Option Tmp} {ty T T' E:TypeId} {pos:String} {after:Array Edge} {gd:Option (Nat×Bool)} {x y z:Operand}
theorem Au{b off len:Nat}{k:IntKind}{i:Int}(j:Nat)(hT:P.underlying T=some (.slice E))(hn:P.cellsOf E=1)(hx:bA env x (sK b off len))(hy:bA env y (af k i))(hi:i=(j:Int))(hj:j<len):
    bw P hs env ⟨dst, .indexAddr T x y,ty,pos,after,gd⟩ (ax b (off+j)):=
  bw.aM λρ w S F _ he=>by
    obtain⟨o,cap,hv,h1,h2,h3⟩:=he.o _ _ hx;have h4:=he.o _ _ hy;simp only[ag] at h4
    subst hi;have ho:o=off:=h1.resolve_left (by omega);subst ho;have hs:=run_sizeOf (T:=E) hn rfl w
    have oo:Addr.add ⟨b,o,none⟩ j=⟨b,o+j,none⟩:=by
      unfold Addr.add
      split<;>simp_all
    exact⟨_,by simp[execOp,hv,h4,Instr.indexAt,asIntOf,run_underlying hT,Instr.sureAddr,hs,oo,hj],rfl⟩
theorem UG{b k i:Nat}{l:List UInt8}{c:UInt8}(hT:l9 P T=some false)(hx:bA env x (ax b k))(hi:hs[i]?=some (qV b l))(hj:l[k]?=some c):bw P hs env ⟨dst, .load T x,ty,pos,after,gd⟩ (af .u8 (c.toNat:Int)):=
 bw.aM λρ w S F ho oT=>by
  have hv:=oT.o _ _ hx;simp only[ag] at hv
  obtain⟨F1,_,_,T',hb⟩:=ho.get hi;refine⟨.int .u8 (c.toNat:Int),?_,rfl⟩;have hc:w.cell? ⟨b,k,none⟩=some (.int .u8 (c.toNat:Int)):=by simp[World.cell?,hb,zA,hj]
  have h1:(loadVar T ⟨b,k,none⟩).run P w= .ok (.int .u8 (c.toNat:Int)) w:=by
   unfold loadVar;rw[bH (fq hT w)];simp[hc]
  simp[execOp,hv,Instr.loadAt,Instr.sureAddr,h1]
theorem Rp{b k i:Nat}{l:List UInt8}(c:UInt8)(hn:P.cellsOf T=1)(hx:bA env x (ax b k))(hy:bA env y (af .u8 (c.toNat:Int)))(hi:hs[i]?=some (qV b l))(hj:k<l.length):
    gW P hs env ⟨none, .store T x y,ty,pos,after,gd⟩ (γ:=Unit) (λ_=>True) (λ_=>hs.set i (qV b (l.set k c))) (λ_=>ag undef):=by
  intro cx a w S F aI hown oT Kp Q hk;have hv:=hx S w a oT;simp only[ag] at hv
  have hu:=hy S w a oT;simp only[ag] at hu
  obtain⟨F0,_,_,T',hb⟩:=hown.get hi;have hsz:k<(wB l).toArray.size:=by simpa[wB] using hj
  have hr:(execOp a.eval ⟨none, .store T x y,ty,pos,after,gd⟩).run P w= .ok .skip (w.setCell ⟨b,k,none⟩ (a.eval y)):=by
    have hst:=pW (v:=a.eval y) hn (by rw[hu];exact⟨rfl,rfl⟩) hb hsz;simp[execOp,hv,Instr.storeAt,Instr.sureAddr,hst]
  have hne:∀t,t≠b->(w.setCell ⟨b,k,none⟩ (a.eval y)).heap[t]?=w.heap[t]?:=λt ht=>eN w _ _ t ht;obtain⟨F1,F2,f1,f2,f3,_,f4⟩:=hown.zj hi;have hFb:F1 b:=f3.1;have hag:∀t,S t->(w.setCell ⟨b,k,none⟩ (a.eval y)).heap[t]?=w.heap[t]?:=λt ht=>hne t (λe=>aI.eg t ht (e▸(f1 b hFb).1));unfold Oper.wp;rw[hr];refine hk () undef _ S F trivial (aI.write (f1 b hFb).1 rfl rfl rfl (by simp[World.setCell]) hne) (λ_ h=>h) hag ?_ rfl
  have :=f4 S F1 (w.setCell ⟨b,k,none⟩ (a.eval y)) (qV b (l.set k c)) (λt ht=>(f1 t ht).2) (λ_ h=>h) (λt ht=>hne t (λe=>(f1 b hFb).2 (e▸ht))) hag
    ⟨hFb,T',by
      rw[hu];simp only[World.setCell,Array.getElem?_modify,hb,if_true,Option.map_some,Option.isSome_none,Bool.false_eq_true,if_false]
      congr 2
      apply Array.ext_getElem?;intro t;rw[Array.getElem?_setIfInBounds];simp only[List.getElem?_toArray,zA,List.getElem?_set];by_cases e:k=t
      · subst e
        have aJ8:k<(wB l).length:=by simpa using hsz
        simp[hj,aJ8]
      · simp[e]⟩
  exact this.mono (λt ht=>ht.elim (λh=>(f1 t h).1) (f2 t)) (λ_ h=>h) (λ_ _=>rfl) (λ_ _=>rfl)
end
def UH(v:Nat)(i:Nat):UInt8:=UInt8.ofNat (v/2^(8*i)%256)
def nO(v w:Nat):List UInt8:=(List.range w).map (UH v)
def nv:List UInt8->Nat
 |[]=>0
 |c::l=>c.toNat+256*nv l
theorem nP(v w:Nat):(nO v w).length=w:=by simp[nO]
theorem Av:∀l:List UInt8,nv l<2^(8*l.length)
 |[]=>by simp[nv]
 |c::l=>by
  have h1:=Av l;have h2:=c.toNat_lt;simp only[nv,List.length_cons];have e:2^(8*(l.length+1))=256*2^(8*l.length):=by rw[Nat.mul_add,Nat.pow_add];omega
  rw[e];omega
theorem Aw:∀(l:List UInt8) (c:UInt8),nv (l++[c])=nv l+c.toNat*2^(8*l.length)
 |[],c=>by simp[nv]
 |d::l,c=>by
  have ih:=Aw l c;simp only[List.cons_append,nv,ih,List.length_cons];have e:2^(8*(l.length+1))=256*2^(8*l.length):=by rw[Nat.mul_add,Nat.pow_add];omega
  rw[e,Nat.mul_add,<-Nat.mul_assoc,Nat.mul_comm 256 c.toNat,Nat.mul_assoc,Nat.add_assoc]
theorem XS(l:List UInt8)(c:UInt8):(nv l)|||(c.toNat*2^(8*l.length))=nv (l++[c]):=by
 rw[Aw,Nat.mul_comm c.toNat,Nat.or_comm,<-Nat.two_pow_add_eq_or_of_lt (Av l),Nat.add_comm]
end Go.Hl
end
section
namespace Go.Hl
abbrev fP(n:Int):VP:=af .i64 n
structure oB where
 (ab db tm gm size:Nat)
structure ep where
 bytes:List UInt8
 height:Nat
 live:Nat
 taken:List (Int×Int)
def iR(X:oB)(a:ep):List HP:=
 [az X.ab [sK X.db 0 X.size,af .i64 (a.height:Int),af .i64 (a.live:Int),ag (.map (some X.tm)),ag (.map (some X.gm))],
  qV X.db a.bytes,oW X.tm (Value.int .i64) fP a.taken,oW X.gm (Value.int .i64) (λ_:Unit=>uY) []]
structure dz(X:oB)(a:ep):Prop where
 len:a.bytes.length=X.size
 hi:a.height<=X.size
 most:X.size<=4194304
 live:a.live<=a.height
def vc:Nat->Nat->Nat->Nat
 |0,c,_=>c
 |k+1,c,n=>if c<n then vc k (c*2) n else c
def aJ(n:Nat):Nat:=if 4194304<n then 0 else vc 19 16 n
theorem Dk:∀(k c n:Nat),vc k c n<=c*2^k
 |0,c,n=>by simp[vc]
 | k +1,c,n=>by
  unfold vc;have:=Dk k (c*2) n;have h2:0<2^k:=Nat.two_pow_pos k;rw[Nat.pow_succ,Nat.mul_comm (2^k) 2,<-Nat.mul_assoc]
  split
  · exact this
  · calc c<=c*2:=by omega
     _<=c*2*2^k:=Nat.le_mul_of_pos_right _ h2
theorem o9(n:Nat):aJ n<=8388608:=by
 unfold aJ
 split
 · omega
 · exact Dk 19 16 n
variable {n:Nat} {c:Nat} {k:Nat}
theorem Od(h:¬c<n):vc k c n=c:=by
 cases k with
 |zero=>rfl
 |succ k=>unfold vc;rw[if_neg h]
def qX(size:Nat)(a:ep)(c:Nat):ep×Nat×Bool:=if size-a.height<c then(a,0,false) else({a with height:=a.height+c},a.height,true)
variable {a:ep}
theorem Oe{size:Nat}(h:¬(qX size a c).2.2=true):qX size a c=(a,0,false)/\size-a.height<c:=by
 unfold qX at h ⊢;by_cases hc:size-a.height<c
 · rw[if_pos hc];exact⟨rfl,hc⟩
 · rw[if_neg hc] at h;exact absurd rfl h
theorem J4{size:Nat}(h:(qX size a c).2.2=true):qX size a c=({a with height:=a.height+c},a.height,true)/\¬size-a.height<c:=by
 unfold qX at h ⊢;by_cases hc:size-a.height<c
 · rw[if_pos hc] at h;cases h
 · rw[if_neg hc];exact⟨rfl,hc⟩
def yK(size:Nat)(a:ep)(n:Nat):ep×Nat×Nat:=
 if 4194304<n then(a,0,1) else if size-a.height<aJ n then(a,0,8)
 else({bytes:=a.bytes.take a.height++List.replicate (aJ n) 0++a.bytes.drop (a.height+aJ n),height:=a.height+aJ n,live:=a.live+aJ n,taken:=ki a.taken (a.height:Int) (aJ n:Int)},a.height,0)
def ep.get(a:ep)(at_ n:Nat):List UInt8:=(a.bytes.drop at_).take n
def ep.put(a:ep)(at_:Nat)(ys:List UInt8):ep:={a with bytes:=a.bytes.take at_++ys++a.bytes.drop (at_+ys.length)}
variable {r:List HP}
theorem aF.cells{b:Nat}{cs cs':List VP}(h:TS cs cs'):aF (az b cs::r) (az b cs'::r):=λF S w ⟨F1,F2,h1,h2,⟨f1,arr,T,hh,hn,hc⟩,h4⟩=>
 ⟨F1,F2,h1,h2,⟨f1,arr,T,hh,by rw[hn,h.len],λj q' hj=>let ⟨q,k1,k2⟩:=h.get j q' hj;let ⟨u,hu,hq⟩:=hc j q k1;⟨u,hu,k2 _ _ _ hq⟩⟩,h4⟩
theorem oC:aa (ag (.bool false)) (av False):=λS w v h=>⟨false,h,by simp⟩
def BP:Bool->Prop
 |true=>True
 |false=>False
structure Rq where
 size:Nat
 cap:Int
 ku:Int
 ops:Int
 fail:Int
 failed:Bool
 m:List (Int×List UInt8)
def Ax(sb mb:Nat)(s:Rq):HP:=az sb [af .i64 (s.size:Int),af .i64 s.cap,af .i64 s.ku,ag (.map (some mb)),af .i64 s.ops,af .i64 s.fail,av (BP s.failed)]
abbrev Of:=List (Int×Nat×List UInt8)
def Ay(mb size:Nat)(E:Of):HP:=oW mb (Value.int .i64) (λb=>sK b 0 size) (E.map λe=>(e.1,e.2.1))
def sP(sb:Nat)(s:Rq):HP:=XI λx:Nat×Of=>sM (lK (x.2.map (λe=>(e.1,e.2.2))=s.m)::Ax sb x.1 s::Ay x.1 s.size x.2::x.2.map λe=>qV e.2.1 e.2.2)
structure aJ9(s:Rq):Prop where
 size:s.size<=1024
 cap:s.cap<=4096
 len:∀e∈s.m,e.2.length=s.size
 keys:∀e∈s.m,0<=e.1/\e.1<4096
 many:(s.m.length:Int)<=s.cap
 nodup:(s.m.map (·.1)).Nodup
def MD(E:Of):List HP:=E.map λe=>qV e.2.1 e.2.2
def ME(E:Of):List (Int×List UInt8):=E.map λe=>(e.1,e.2.2)
theorem yL{sb mb sz:Nat}{s:Rq}{E:Of}(hE:ME E=s.m)(hz:sz=s.size):aF (Ax sb mb s::Ay mb sz E::sM (MD E)::r) (sP sb s::r):=by
 subst hz;refine aF.trans ?_ (aF.ex (f:=λx:Nat×Of=>sM (lK (x.2.map (λe=>(e.1,e.2.2))=s.m)::Ax sb x.1 s::Ay x.1 s.size x.2::x.2.map λe=>qV e.2.1 e.2.2)) (mb,E));refine aF.trans (aF.cons _ (aF.cons _ aF.unpack)) ?_;refine aF.trans (aF.pure (p:=ME E=s.m) hE) ?_;exact aF.pack (l:=lK (ME E=s.m)::Ax sb mb s::Ay mb s.size E::MD E)
theorem aU.ae1{P:Program}{Q:Exit->Act->World->Prop}{c:Ctx}{x:Code}{env:Env}{sb:Nat}{s:Rq}(k:∀mb E,ME E=s.m->aU P Q c x (Ax sb mb s::Ay mb s.size E::sM (MD E)::r) env):aU P Q c x (sP sb s::r) env:=
 aU.opens λ⟨mb,E⟩=>aU.own aF.unpack (aU.lK λh=>aU.own (aF.cons _ (aF.cons _ (aF.pack (l:=MD E)))) (k mb E h))
theorem fO:aF r (sM []::r):=λF S w x=>⟨λ_=>False,F,λ_ h=>h.elim,λ_ h=>h,trivial,x⟩
abbrev iV(n:Int):VP:=af .i64 n
def ae2(b:Bool):List VP:=[av (b=true)]
instance:gX 1 ae2:=⟨λ_=>rfl,λx q h=>by simp only[ae2,List.mem_cons,List.not_mem_nil,or_false] at h;subst h;infer_instance⟩
def fS:VP:=⟨λ_ _ _=>True,λ_ _ _=>trivial⟩
theorem aa.any{q:VP}:aa q fS:=λ_ _ _ _=>trivial
open Classical in
noncomputable def lp(p:Prop)(e:Int):Int:=if p then e else 0
theorem cW{p:Prop}{e:Int}(he:e≠0):lp p e=0↔¬p:=by unfold lp;split<;>simp_all
def iS(g:Nat->Int):Nat->Int
 |0=>0
 |n+1=>if iS g n≠0 then iS g n else g n
theorem mU{g:Nat->Int}:∀{n:Nat},iS g n=0↔∀i,i<n->g i=0
 |0=>by simp[iS]
 |n+1=>by
  simp only[iS]
  split
  · rename_i h
    constructor
    · intro h';exact absurd h' h
    · intro h';exact absurd (mU.2 λi hi=>h' i (by omega)) h
  · rename_i h
    have h0:iS g n=0:=by simpa using h
    constructor
    · intro h' i hi
      by_cases e:i=n
      · subst e;exact h'
      · exact mU.1 h0 i (by omega)
    · intro h';exact h' n (by omega)
theorem Og{g:Nat->Int}(h0:iS g k=0)(hk:g k≠0)(hn:k<n):iS g n=g k:=by
 induction n with
 |zero=>omega
 |succ n ih=>
  by_cases e:k=n
  · subst e;simp[iS,h0]
  · have:=ih (by omega)
    simp[iS,this,hk]
variable {α:Type}
def pg(xs:List α)(f:α->Int)(i:Nat):Int:=match xs[i]? with|some x=>f x|none=>0
variable {i:Nat} {x:α}
theorem lN{xs:List α}{f:α->Int}(h:xs[i]?=some x):pg xs f i=f x:=by simp[pg,h]
theorem fM{xs:List α}{f:α->Int}:iS (pg xs f) xs.length=0↔∀x∈xs,f x=0:=by
 rw[mU];constructor
 · intro h x hx
   obtain⟨i,hi⟩:=List.mem_iff_getElem?.1 hx;have:=h i (List.getElem?_eq_some_iff.1 hi).1
   rwa [lN hi] at this
 · intro h i hi
   obtain⟨x,hx⟩:=ah hi;rw[lN hx];exact h x (List.mem_of_getElem? hx)
open Classical in
noncomputable def sr{α:Type}(p:α->Prop):List α->Int
 |[]=> -1
 |x::l=>if p x then 0 else if sr p l<0 then-1 else sr p l+1
theorem MF{α:Type}(p:α->Prop):∀l:List α,-1<=sr p l
 |[]=>by simp[sr]
 |x::l=>by unfold sr;have:=MF p l;split<;>(try split)<;>omega
theorem jI{α:Type}{p:α->Prop}:∀{l:List α},0<=sr p l↔∃x∈l,p x
 |[]=>by simp[sr]
 | x ::l=>by
  unfold sr;have ih:=jI (p:=p) (l:=l)
  split
  · rename_i h;simp[h]
  · rename_i h
    split
    · rename_i h2
      simp only[List.mem_cons,exists_eq_or_imp,h,false_or];rw[<-ih];omega
    · rename_i h2
      simp only[List.mem_cons,exists_eq_or_imp,h,false_or];rw[<-ih];omega
variable {l:List α} {p:α->Prop}
theorem qn(h:∀x∈l,¬p x):sr p l= -1:=by
 have h1:=MF p l;have h2:¬0<=sr p l:=λh'=>by obtain⟨x,hx,hp⟩:=jI.1 h';exact h x hx hp
 omega
theorem ud{α:Type}{p:α->Prop}:∀{l:List α} {k:Nat} {x:α},l[k]?=some x->p x->(∀j y,j<k->l[j]?=some y->¬p y)->sr p l=k
 |[],_,_,h,_,_=>by simp at h
 |y::l,0,x,h,hp,_=>by simp at h;subst h;simp[sr,hp]
 |y::l,k+1,x,h,hp,hn=>by
  have h1:=ud (l:=l) (k:=k) (x:=x) (by simpa using h) hp (λj z hj hz=>hn (j+1) z (by omega) (by simpa using hz));have h2:=hn 0 y (by omega) rfl;unfold sr;rw[if_neg h2,h1,if_neg (by omega)];omega
def dJ(p:α->Prop)(l:List α)(k:Nat):Prop:=∀j y,j<k->l[j]?=some y->¬p y
theorem dJ.zero(p:α->Prop)(l:List α):dJ p l 0:=λj y h=>by omega
theorem dJ.succ(h:dJ p l k)(hx:l[k]?=some x)(hp:¬p x):dJ p l (k+1):=λj y hj hy=>by
 by_cases e:j=k
 · subst e;rw[hx] at hy;cases hy;exact hp
 · exact h j y (by omega) hy
theorem dJ.all(h:dJ p l k)(hk:l.length<=k):∀x∈l,¬p x:=λx hx=>by
 obtain⟨j,hj⟩:=List.mem_iff_getElem?.1 hx;exact h j x (by have:=(List.getElem?_eq_some_iff.1 hj).1;omega) hj
variable {j:Nat}
theorem UI{cs:List VP}{q:VP}(h:cs[j]?=some q):aa (ck (cs.drop (j*1))) (ck [q]):=λS w v ⟨b,off,hv,hb,hc⟩=>⟨b,off,hv,hb,λt p ht=>by
 cases t with
 |zero=>simp at ht;subst ht;exact hc 0 q (by rw[Nat.mul_one,List.getElem?_drop];simpa using h)
 |succ t=>simp at ht⟩
structure Fr where
 at_:Nat
 k:dX
 used:Bool
 seen:Bool
 Rr:Bool
def Dl(f:Fr):List VP:=[fP (f.at_:Int),fP f.k.1,fP f.k.2,av (BP f.used),av (BP f.seen),av (BP f.Rr)]
instance:gX 6 Dl:=⟨λ_=>rfl,λx q h=>by simp only[Dl,List.mem_cons,List.not_mem_nil,or_false] at h;rcases h with h|h|h|h|h|h<;>subst h<;>infer_instance⟩
structure Rs where
 (pb sb fb cap m1 m2 n lo hi:Nat)
 Y:oB
structure Oh where
 l:List Fr
 hand:Nat
 inm:List (dX×Int)
 bm:List (dX×Int)
 fault:Nat
 closed:Bool
def XT(X:Rs)(p:Oh):HP:=az X.pb [ax X.Y.ab 0,ax X.sb 0,ag (bI (some (X.fb,X.cap)) X.n),fP (p.hand:Int),ag (.map (some X.m1)),ag (.map (some X.m2)),fP (p.fault:Int),av (BP p.closed)]
def XU(X:Rs)(p:Oh):HP:=aH (some (X.fb,X.cap)) 6 Dl p.l
def XV(X:Rs)(p:Oh):HP:=oW X.m1 Dd fP p.inm
def XW(X:Rs)(p:Oh):HP:=oW X.m2 Dd fP p.bm
def XX(p:Oh):Prop:=p.closed=true\/p.fault≠0
instance (p:Oh):Decidable (XX p):=inferInstanceAs (Decidable (_\/_))
def Az(l:List UInt8):Prop:=∀x∈l,x=0
structure aK0(X:Rs)(p:Oh)(a:ep)(s:Rq):Prop where
 n:p.l.length=X.n
 pos:0<X.n
 most:X.n<=64
 hand:p.hand<X.n
 room:∀f∈p.l,(X.lo<=f.at_/\f.at_+s.size<=X.hi)/\f.at_+s.size<=X.Y.size
 ar:dz X.Y a
 st:aJ9 s
theorem aF.GG{a b:HP}(h:a=b):aF (a::r) (b::r):=h▸aF.refl _
theorem J5{x o:Nat}{ys:List UInt8}(h:x+n<=a.bytes.length)(ho:o+ys.length<=n):(a.put (x+o) ys).get x n=(a.get x n).take o++ys++(a.get x n).drop (o+ys.length):=by
 unfold ep.put ep.get;apply List.ext_getElem?;intro j;simp only[List.getElem?_take,List.getElem?_drop,List.getElem?_append,List.length_append,List.length_take,List.length_drop];by_cases h1:j<n
 · rw [if_pos h1]
   by_cases h2:j<o
   · rw[if_pos (by omega),if_pos (by omega),if_pos (by omega),if_pos (by omega),if_pos (by omega),if_pos h2,if_pos (by omega)]
   · by_cases h3:j<o+ys.length
     · rw[if_pos (by omega),if_neg (by omega),if_pos (by omega),if_neg (by omega)]
       congr 1;omega
     · rw[if_neg (by omega),if_neg (by omega),if_pos (by omega)]
       congr 1;omega
 · rw[if_neg h1]
   by_cases h3:j<o+ys.length
   · omega
   · rw[if_neg (by omega),if_neg (by omega)]
theorem GH{x y:Nat}{ys:List UInt8}(hx:x+ys.length<=a.bytes.length)(h:y+n<=x\/x+ys.length<=y):(a.put x ys).get y n=a.get y n:=by
 unfold ep.put ep.get;apply List.ext_getElem?;intro j;simp only[List.getElem?_take,List.getElem?_drop,List.getElem?_append,List.length_append,List.length_take,List.length_drop];by_cases h1:j<n
 · rw[if_pos h1,if_pos h1]
   rcases h with h|h
   · rw[if_pos (by omega),if_pos (by omega),if_pos (by omega)]
   · rw[if_neg (by omega)]
     congr 1;omega
 · rw[if_neg h1,if_neg h1]
theorem dz.put{Y:oB}{a:ep}(h:dz Y a){x:Nat}{ys:List UInt8}(hx:x+ys.length<=Y.size):dz Y (a.put x ys):=
 ⟨by have:=h.len;show(a.bytes.take x++ys++a.bytes.drop (x+ys.length)).length=Y.size;simp;omega,h.hi,h.most,h.live⟩
theorem wE:Az (List.replicate n 0):=λx hx=>(List.mem_replicate.1 hx).2
theorem zF{y:α}(h:(l.set i x)[j]?=some y):(i=j/\y=x)\/(i≠j/\l[j]?=some y):=by
 rw[List.getElem?_set] at h;by_cases e:i=j
 · rw[if_pos e] at h
   by_cases h2:i<l.length
   · rw[if_pos h2] at h;cases h;exact .inl ⟨e,rfl⟩
   · rw[if_neg h2] at h;cases h
 · rw[if_neg e] at h;exact .inr ⟨e,h⟩
abbrev Cont:=dX->List UInt8
structure Inv(X:Rs)(p:Oh)(a:ep)(s:Rq)(C:Cont)(D:List dX):Prop where
 ok:aK0 X p a s
 opn:p.fault=0/\p.closed=false
 nf:s.fail<0
 cc3:∀k,(C k).length=s.size
 inK:(p.inm.map (·.1)).Nodup
 in1:∀k i,er p.inm k=some i->∃(j:Nat) (f:Fr),i=(j:Int)/\p.l[j]?=some f/\f.used=true/\f.k=k
 in2:∀(j:Nat) (f:Fr),p.l[j]?=some f->f.used=true->er p.inm f.k=some (j:Int)
 apart:∀(i j:Nat) (f g:Fr),p.l[i]?=some f->p.l[j]?=some g->i≠j->f.at_+s.size<=g.at_\/g.at_+s.size<=f.at_
 bmK:(p.bm.map (·.1)).Nodup
 inj:∀k k' id,er p.bm k=some id->er p.bm k'=some id->k=k'
 num:p.bm.length=s.m.length
 has:∀k id,er p.bm k=some id->∃l,er s.m id=some l/\¬Az l
 cnt:∀k id,er p.bm k=some id->k∈D
 Co:(D.length:Int)<=s.cap
 nzD:∀k,¬Az (C k)->k∈D
 fr:∀(j:Nat) (f:Fr),p.l[j]?=some f->f.used=true->a.get f.at_ s.size=C f.k
 cl:∀k,(∀(j:Nat) (f:Fr),p.l[j]?=some f->f.used=true->f.k=k->f.Rr=false)->(er p.bm k=none/\Az (C k))\/∃id,er p.bm k=some id/\er s.m id=some (C k)/\¬Az (C k)
section
variable {X:Rs} {p:Oh} {a:ep} {s:Rq} {C:Cont} {D:List dX} {i:Nat} {fr:Fr}
def Rt(p:Oh):Prop:=∀(j:Nat) (f:Fr),p.l[j]?=some f->f.used=true->f.Rr=false
end
def aK1(X:Rs)(p:Oh)(a:ep)(s:Rq):List HP:=XT X p::XU X p::XV X p::XW X p::sP X.sb s::iR X.Y a
def ae3(k:dX):Prop:=0<=k.1/\0<=k.2/\k.2<=9223372036854775807
structure ae4(X:Rs)(z q:Nat)(T:Oh->Prop)(p:Oh)(a:ep)(s:Rq)(C:Cont)(m:Nat):Prop where
 ex:∃D:List dX,D.length<=m/\(∀k∈D,ae3 k)/\Inv X p a s C D
 sz:s.size=z
 cp:s.cap=(q:Int)
 cln:T p
def dS(b c:Nat)(j:Nat):List Fr:=(List.range j).map λi=>⟨b+i*c,(0,0),false,false,false⟩
theorem ue(b c j:Nat):(dS b c j).length=j:=by simp[dS]
theorem Ru(b c j:Nat):dS b c (j+1)=dS b c j++[⟨b+j*c,(0,0),false,false,false⟩]:=by simp[dS,List.range_succ]
theorem uf{b:Nat}{f:Fr}(h:(dS b c j)[i]?=some f):i<j/\f=⟨b+i*c,(0,0),false,false,false⟩:=by
 unfold dS at h;rw[List.getElem?_map] at h;by_cases hi:i<j
 · rw[List.getElem?_range hi] at h;cases h;exact⟨hi,rfl⟩
 · rw[List.getElem?_eq_none (by simp;omega)] at h;cases h
theorem MG:∀(k c n:Nat),n<=c*2^k->n<=vc k c n
 |0,c,n,h=>by simpa[vc] using h
 |k+1,c,n,h=>by
  unfold vc
  split
  · exact MG k (c*2) n (by rw[Nat.mul_assoc,<-Nat.pow_succ'];exact h)
  · omega
theorem qo(h:n<=4194304):n<=aJ n:=by
 unfold aJ;rw[if_neg (by omega)];exact MG 19 16 n (by omega)
structure WV(Y:oB)(a0 a:ep)(c j:Nat):Prop where
 ok:dz Y a
 hi:a.height=a0.height+j*c
 same:∀y n,y+n<=a0.height->a.get y n=a0.get y n
theorem WV.take{Y:oB}{a0 a:ep}{n j:Nat}(h:WV Y a0 a (aJ n) j)(hn:n<=4194304)(hr:a0.height+(j+1)*aJ n<=Y.size){g:ep×Nat×Nat}(hg:g=yK Y.size a n):g.2.2=0/\g.2.1=a0.height+j*aJ n/\WV Y a0 g.1 (aJ n) (j+1):=by
 have h1:=h.hi;have h2:=h.ok.len;have h3:=h.ok.live;rw[Nat.add_mul,Nat.one_mul] at hr;unfold yK at hg;rw[if_neg (by omega),if_neg (by omega)] at hg;subst hg;refine⟨rfl,h1,⟨?_,?_,h.ok.most,?_⟩,?_,λy m hy=>?_⟩
 · show(a.bytes.take a.height++List.replicate (aJ n) 0++a.bytes.drop (a.height+aJ n)).length=Y.size
   simp;omega
 · show a.height+aJ n<=Y.size;omega
 · show a.live+aJ n<=a.height+aJ n;omega
 · show a.height+aJ n=a0.height+(j+1)*aJ n
   rw[Nat.add_mul,Nat.one_mul,h1];omega
 · rw[<-h.same y m hy]
   show((a.bytes.take a.height++List.replicate (aJ n) 0++a.bytes.drop (a.height+aJ n)).drop y).take m=(a.bytes.drop y).take m
   apply List.ext_getElem?;intro t;simp only[List.getElem?_take,List.getElem?_drop,List.getElem?_append,List.length_append,List.length_take,List.length_replicate];by_cases h4:t<m
   · rw[if_pos h4,if_pos h4,if_pos (by omega),if_pos (by omega),if_pos (by omega)]
   · rw[if_neg h4,if_neg h4]
def GI(z:Nat):Cont:=λ_=>List.replicate z 0
theorem AA{enc:α->List VP}:aF r (aH none n enc []::r):=λF S w x=>⟨λ_=>False,F,λ_ h=>h.elim,λ_ h=>h,rfl,x⟩
theorem UJ{X:Rs}{z q:Nat}{a0:ep}(hn:0<X.n)(hm:X.n<=64)(hz:z<=1024)(hq:q<=4096)(ha:WV X.Y a0 a (aJ z) X.n)(hlo:X.lo=a0.height)(hhi:X.hi=a0.height+X.n*aJ z):ae4 X z q Rt ⟨dS a0.height (aJ z) X.n,0,[],[],0,false⟩ a ⟨z,(q:Int),0,0,-1,false,[]⟩ (GI z) 0:=by
 have hc:=qo (n:=z) (by omega);have hh:=ha.ok.hi;have hh2:=ha.hi;refine⟨⟨[],Nat.le_refl _,λk h=>(by cases h),⟨⟨ue _ _ _,hn,hm,hn,λf hf=>?_,ha.ok,⟨hz,by(show(q:Int)<=4096;omega),λe he=>(by cases he),λe he=>(by cases he),by(show((0:Nat):Int)<=(q:Int);omega),List.nodup_nil⟩⟩,⟨rfl,rfl⟩,(show(-1:Int)<0 by decide),λk=>(by simp[GI]),List.nodup_nil,λk i h=>(by cases h),λj f hj hu=>?_,λi j f g hi hj hne=>?_,List.nodup_nil,λk k' id h=>(by cases h),rfl,λk id h=>(by cases h),λk id h=>(by cases h),by(show((0:Nat):Int)<=(q:Int);omega),λk h=>absurd wE h,λj f hj hu=>?_,λk _=> .inl ⟨rfl,wE⟩⟩⟩,rfl,rfl,λj f hj hu=>?_⟩
 · obtain⟨j,hj⟩:=List.mem_iff_getElem?.1 hf
   obtain⟨h1,rfl⟩:=uf hj;have h2:(j+1)*aJ z<=X.n*aJ z:=Nat.mul_le_mul_right _ h1;rw[Nat.add_mul,Nat.one_mul] at h2
   show(X.lo<=a0.height+j*aJ z/\a0.height+j*aJ z+z<=X.hi)/\a0.height+j*aJ z+z<=X.Y.size
   omega
 · obtain⟨_,rfl⟩:=uf hj;cases hu
 · obtain⟨h1,rfl⟩:=uf hi
   obtain⟨h2,rfl⟩:=uf hj
   show a0.height+i*aJ z+z<=a0.height+j*aJ z\/a0.height+j*aJ z+z<=a0.height+i*aJ z
   rcases Nat.lt_or_gt_of_ne hne with h3|h3
   · have h4:(i+1)*aJ z<=j*aJ z:=Nat.mul_le_mul_right _ h3
     rw[Nat.add_mul,Nat.one_mul] at h4;omega
   · have h4:(j+1)*aJ z<=i*aJ z:=Nat.mul_le_mul_right _ h3
     rw[Nat.add_mul,Nat.one_mul] at h4;omega
 · obtain⟨_,rfl⟩:=uf hj;cases hu
 · obtain⟨_,rfl⟩:=uf hj;cases hu
theorem UK{X:oB}(h:X.size=n)(hn:n<=4194304):WV X ⟨List.replicate n 0,0,0,[]⟩ ⟨List.replicate n 0,0,0,[]⟩ c 0:=
 ⟨⟨by rw[h];simp,Nat.zero_le _,by omega,Nat.le_refl _⟩,by simp,λ_ _ _=>rfl⟩
def aK2(z:Nat)(C:Cont)(num:Int)(a:Nat):UInt8:=(C (num,((a/z:Nat):Int))).getD (a%z) 0
def ae5(z:Nat)(C:Cont)(num:Int)(at_ n:Nat):List UInt8:=(List.range n).map λi=>aK2 z C num (at_+i)
def wrC(z:Nat)(C:Cont)(num:Int)(at_:Nat)(ys:List UInt8):Cont:=λk=>if k.1=num/\0<=k.2 then(List.range z).map λo=>if at_<=k.2.toNat*z+o/\k.2.toNat*z+o<at_+ys.length then ys.getD (k.2.toNat*z+o-at_) 0 else(C k).getD o 0 else C k
end Go.Hl
end
