/-
  What the statement's proof leans on, several texts in one (packed by a program).
-/
import Derived.Test.YtgboekefmedapaaGreatDoorSNI
import Derived.Test.YtgboekefmedapaaGreatDoorChecked
set_option linter.all false
set_option maxRecDepth 1000000
set_option maxHeartbeats 4000000
section
namespace Go.Proofs
open Go.Hl
instance Tryz.cb4 : FB Tryz.prog 4 := ⟨by kernel_rfl⟩
instance Tryz.cb5 : FB Tryz.prog 5 := ⟨by kernel_rfl⟩
instance Tryz.cb6 : FB Tryz.prog 6 := ⟨by kernel_rfl⟩
instance Tryz.cb7 : FB Tryz.prog 7 := ⟨by kernel_rfl⟩
instance Tryz.cb8 : FB Tryz.prog 8 := ⟨by kernel_rfl⟩
instance Tryz.cb9 : FB Tryz.prog 9 := ⟨by kernel_rfl⟩
instance Tryz.cb10 : FB Tryz.prog 10 := ⟨by kernel_rfl⟩
instance Tryz.cb11 : FB Tryz.prog 11 := ⟨by kernel_rfl⟩
instance Tryz.cb12 : FB Tryz.prog 12 := ⟨by kernel_rfl⟩
instance Tryz.cb13 : FB Tryz.prog 13 := ⟨by kernel_rfl⟩
instance Tryz.cb14 : FB Tryz.prog 14 := ⟨by kernel_rfl⟩
instance Tryz.cb15 : FB Tryz.prog 15 := ⟨by kernel_rfl⟩
instance Tryz.cb16 : FB Tryz.prog 16 := ⟨by kernel_rfl⟩
instance Tryz.cb17 : FB Tryz.prog 17 := ⟨by kernel_rfl⟩
instance Tryz.cb18 : FB Tryz.prog 18 := ⟨by kernel_rfl⟩
instance Tryz.cb20 : FB Tryz.prog 20 := ⟨by kernel_rfl⟩
instance Tryz.cb21 : FB Tryz.prog 21 := ⟨by kernel_rfl⟩
instance Tryz.cb22 : FB Tryz.prog 22 := ⟨by kernel_rfl⟩
instance Tryz.cb23 : FB Tryz.prog 23 := ⟨by kernel_rfl⟩
instance Tryz.cb24 : FB Tryz.prog 24 := ⟨by kernel_rfl⟩
instance Tryz.cb25 : FB Tryz.prog 25 := ⟨by kernel_rfl⟩
instance Tryz.cb26 : FB Tryz.prog 26 := ⟨by kernel_rfl⟩
instance Tryz.cb27 : FB Tryz.prog 27 := ⟨by kernel_rfl⟩
instance Tryz.cb28 : FB Tryz.prog 28 := ⟨by kernel_rfl⟩
instance Tryz.cb29 : FB Tryz.prog 29 := ⟨by kernel_rfl⟩
instance Tryz.cb33 : FB Tryz.prog 33 := ⟨by kernel_rfl⟩
instance Tryz.cb34 : FB Tryz.prog 34 := ⟨by kernel_rfl⟩
instance Tryz.cb35 : FB Tryz.prog 35 := ⟨by kernel_rfl⟩
instance Tryz.cb40 : FB Tryz.prog 40 := ⟨by kernel_rfl⟩
instance Tryz.cb46 : FB Tryz.prog 46 := ⟨by kernel_rfl⟩
instance Tryz.cb47 : FB Tryz.prog 47 := ⟨by kernel_rfl⟩
instance Tryz.cb48 : FB Tryz.prog 48 := ⟨by kernel_rfl⟩
instance Tryz.cb49 : FB Tryz.prog 49 := ⟨by kernel_rfl⟩
instance Tryz.cb59 : FB Tryz.prog 59 := ⟨by kernel_rfl⟩
instance Tryz.cb69 : FB Tryz.prog 69 := ⟨by kernel_rfl⟩
instance Tryz.cb70 : FB Tryz.prog 70 := ⟨by kernel_rfl⟩
instance Tryz.cb71 : FB Tryz.prog 71 := ⟨by kernel_rfl⟩
instance Tryz.cb72 : FB Tryz.prog 72 := ⟨by kernel_rfl⟩
instance Tryz.cb73 : FB Tryz.prog 73 := ⟨by kernel_rfl⟩
instance Tryz.cb74 : FB Tryz.prog 74 := ⟨by kernel_rfl⟩
instance Tryz.cb75 : FB Tryz.prog 75 := ⟨by kernel_rfl⟩
instance Tryz.cb76 : FB Tryz.prog 76 := ⟨by kernel_rfl⟩
instance Tryz.cb77 : FB Tryz.prog 77 := ⟨by kernel_rfl⟩
instance Tryz.cb78 : FB Tryz.prog 78 := ⟨by kernel_rfl⟩
instance Tryz.cb96 : FB Tryz.prog 96 := ⟨by kernel_rfl⟩
instance Tryz.cb97 : FB Tryz.prog 97 := ⟨by kernel_rfl⟩
instance Tryz.cb98 : FB Tryz.prog 98 := ⟨by kernel_rfl⟩
instance Tryz.cb99 : FB Tryz.prog 99 := ⟨by kernel_rfl⟩
instance Tryz.cb100 : FB Tryz.prog 100 := ⟨by kernel_rfl⟩
instance Tryz.cb101 : FB Tryz.prog 101 := ⟨by kernel_rfl⟩
instance Tryz.cb102 : FB Tryz.prog 102 := ⟨by kernel_rfl⟩
instance Tryz.cb103 : FB Tryz.prog 103 := ⟨by kernel_rfl⟩
instance Tryz.cb104 : FB Tryz.prog 104 := ⟨by kernel_rfl⟩
instance Tryz.cb105 : FB Tryz.prog 105 := ⟨by kernel_rfl⟩
instance Tryz.cb106 : FB Tryz.prog 106 := ⟨by kernel_rfl⟩
instance Tryz.cb107 : FB Tryz.prog 107 := ⟨by kernel_rfl⟩
instance Tryz.cb108 : FB Tryz.prog 108 := ⟨by kernel_rfl⟩
instance Tryz.cb109 : FB Tryz.prog 109 := ⟨by kernel_rfl⟩
instance Tryz.cb110 : FB Tryz.prog 110 := ⟨by kernel_rfl⟩
instance Tryz.cb111 : FB Tryz.prog 111 := ⟨by kernel_rfl⟩
instance Tryz.cb112 : FB Tryz.prog 112 := ⟨by kernel_rfl⟩
instance Tryz.cb113 : FB Tryz.prog 113 := ⟨by kernel_rfl⟩
instance Tryz.cb114 : FB Tryz.prog 114 := ⟨by kernel_rfl⟩
instance Tryz.cb115 : FB Tryz.prog 115 := ⟨by kernel_rfl⟩
instance Tryz.cb116 : FB Tryz.prog 116 := ⟨by kernel_rfl⟩
instance Tryz.cb117 : FB Tryz.prog 117 := ⟨by kernel_rfl⟩
instance Tryz.cb131 : FB Tryz.prog 131 := ⟨by kernel_rfl⟩
instance Tryz.cb132 : FB Tryz.prog 132 := ⟨by kernel_rfl⟩
instance Tryz.cb133 : FB Tryz.prog 133 := ⟨by kernel_rfl⟩
instance Tryz.cb134 : FB Tryz.prog 134 := ⟨by kernel_rfl⟩
instance Tryz.cb158 : FB Tryz.prog 158 := ⟨by kernel_rfl⟩
instance Tryz.cb159 : FB Tryz.prog 159 := ⟨by kernel_rfl⟩
instance Tryz.cb184 : FB Tryz.prog 184 := ⟨by kernel_rfl⟩
instance Tryz.ag3 : FA Tryz.prog 3 false := ⟨by kernel_rfl⟩
instance Tryz.cz3 : FC Tryz.prog 3 1 := ⟨by kernel_rfl⟩
instance Tryz.ag4 : FA Tryz.prog 4 false := ⟨by kernel_rfl⟩
instance Tryz.ag5 : FA Tryz.prog 5 false := ⟨by kernel_rfl⟩
instance Tryz.cz5 : FC Tryz.prog 5 1 := ⟨by kernel_rfl⟩
instance Tryz.iu5 : FU Tryz.prog 5 (.int .u8) := ⟨Tryz.underlying5⟩
instance Tryz.by5 : FY Tryz.prog 5 1 := ⟨by kernel_rfl⟩
instance Tryz.zb5 : FZ Tryz.prog 5 [.int .u8 0] := ⟨by kernel_rfl⟩
instance Tryz.ag9 : FA Tryz.prog 9 false := ⟨by kernel_rfl⟩
instance Tryz.iu9 : FU Tryz.prog 9 .string := ⟨Tryz.underlying9⟩
instance Tryz.ag22 : FA Tryz.prog 22 false := ⟨by kernel_rfl⟩
instance Tryz.iu22 : FU Tryz.prog 22 (.int .u64) := ⟨Tryz.underlying22⟩
instance Tryz.iu24 : FU Tryz.prog 24 (.pointer 65) := ⟨Tryz.underlying24⟩
instance Tryz.ag33 : FA Tryz.prog 33 false := ⟨by kernel_rfl⟩
instance Tryz.iu33 : FU Tryz.prog 33 (.pointer 71) := ⟨Tryz.underlying33⟩
instance Tryz.ag39 : FA Tryz.prog 39 false := ⟨by kernel_rfl⟩
instance Tryz.iu39 : FU Tryz.prog 39 (.pointer 60) := ⟨Tryz.underlying39⟩
instance Tryz.iu41 : FU Tryz.prog 41 (.pointer 114) := ⟨Tryz.underlying41⟩
instance Tryz.ag44 : FA Tryz.prog 44 false := ⟨by kernel_rfl⟩
instance Tryz.iu44 : FU Tryz.prog 44 (.slice 3) := ⟨Tryz.underlying44⟩
instance Tryz.ag46 : FA Tryz.prog 46 false := ⟨by kernel_rfl⟩
instance Tryz.ag48 : FA Tryz.prog 48 false := ⟨by kernel_rfl⟩
instance Tryz.cz48 : FC Tryz.prog 48 1 := ⟨by kernel_rfl⟩
instance Tryz.ag50 : FA Tryz.prog 50 true := ⟨by kernel_rfl⟩
instance Tryz.cz50 : FC Tryz.prog 50 3 := ⟨by kernel_rfl⟩
instance Tryz.zb50 : FZ Tryz.prog 50 [.int .u8 0, .bool false, .int .u64 0] := ⟨by kernel_rfl⟩
instance Tryz.pl50 : FP Tryz.prog 50 [(0, 1), (1, 1), (2, 1)] := ⟨by kernel_rfl⟩
instance Tryz.fd50_0 : FF Tryz.prog 50 0 0 := ⟨by kernel_rfl⟩
instance Tryz.fd50_2 : FF Tryz.prog 50 2 2 := ⟨by kernel_rfl⟩
instance Tryz.ag51 : FA Tryz.prog 51 false := ⟨by kernel_rfl⟩
instance Tryz.iu51 : FU Tryz.prog 51 (.slice 50) := ⟨Tryz.underlying51⟩
instance Tryz.ag52 : FA Tryz.prog 52 false := ⟨by kernel_rfl⟩
instance Tryz.iu52 : FU Tryz.prog 52 (.slice 180) := ⟨Tryz.underlying52⟩
instance Tryz.ag53 : FA Tryz.prog 53 false := ⟨by kernel_rfl⟩
instance Tryz.iu53 : FU Tryz.prog 53 (.slice 182) := ⟨Tryz.underlying53⟩
instance Tryz.ag54 : FA Tryz.prog 54 false := ⟨by kernel_rfl⟩
instance Tryz.iu54 : FU Tryz.prog 54 (.slice 190) := ⟨Tryz.underlying54⟩
instance Tryz.ag55 : FA Tryz.prog 55 false := ⟨by kernel_rfl⟩
instance Tryz.iu55 : FU Tryz.prog 55 (.slice 93) := ⟨Tryz.underlying55⟩
instance Tryz.ag56 : FA Tryz.prog 56 false := ⟨by kernel_rfl⟩
instance Tryz.iu56 : FU Tryz.prog 56 (.slice 195) := ⟨Tryz.underlying56⟩
instance Tryz.ag57 : FA Tryz.prog 57 false := ⟨by kernel_rfl⟩
instance Tryz.iu57 : FU Tryz.prog 57 (.slice 98) := ⟨Tryz.underlying57⟩
instance Tryz.ag58 : FA Tryz.prog 58 false := ⟨by kernel_rfl⟩
instance Tryz.iu58 : FU Tryz.prog 58 (.slice 101) := ⟨Tryz.underlying58⟩
instance Tryz.zb60 : FZ Tryz.prog 60 [.slice none 0 0, .slice none 0 0, .slice none 0 0, .int .i64 0, .slice none 0 0, .slice none 0 0, .slice none 0 0, .int .i64 0, .slice none 0 0, .slice none 0 0] := ⟨by kernel_rfl⟩
instance Tryz.pl60 : FP Tryz.prog 60 [(0, 1), (1, 1), (2, 1), (3, 1), (4, 1), (5, 1), (6, 1), (7, 1), (8, 1), (9, 1)] := ⟨by kernel_rfl⟩
instance Tryz.fd60_0 : FF Tryz.prog 60 0 0 := ⟨by kernel_rfl⟩
instance Tryz.fd60_1 : FF Tryz.prog 60 1 1 := ⟨by kernel_rfl⟩
instance Tryz.fd60_2 : FF Tryz.prog 60 2 2 := ⟨by kernel_rfl⟩
instance Tryz.fd60_3 : FF Tryz.prog 60 3 3 := ⟨by kernel_rfl⟩
instance Tryz.fd60_4 : FF Tryz.prog 60 4 4 := ⟨by kernel_rfl⟩
instance Tryz.fd60_5 : FF Tryz.prog 60 5 5 := ⟨by kernel_rfl⟩
instance Tryz.fd60_6 : FF Tryz.prog 60 6 6 := ⟨by kernel_rfl⟩
instance Tryz.fd60_7 : FF Tryz.prog 60 7 7 := ⟨by kernel_rfl⟩
instance Tryz.fd60_8 : FF Tryz.prog 60 8 8 := ⟨by kernel_rfl⟩
instance Tryz.fd60_9 : FF Tryz.prog 60 9 9 := ⟨by kernel_rfl⟩
instance Tryz.zb65 : FZ Tryz.prog 65 [.pointer none, .pointer none, .pointer none, .int .i64 0, .int .i64 0, .int .i64 0, .slice none 0 0, .bool false] := ⟨by kernel_rfl⟩
instance Tryz.pl65 : FP Tryz.prog 65 [(0, 1), (1, 1), (2, 1), (3, 1), (4, 1), (5, 1), (6, 1), (7, 1)] := ⟨by kernel_rfl⟩
instance Tryz.fd65_0 : FF Tryz.prog 65 0 0 := ⟨by kernel_rfl⟩
instance Tryz.fd65_1 : FF Tryz.prog 65 1 1 := ⟨by kernel_rfl⟩
instance Tryz.fd65_4 : FF Tryz.prog 65 4 4 := ⟨by kernel_rfl⟩
instance Tryz.fd65_5 : FF Tryz.prog 65 5 5 := ⟨by kernel_rfl⟩
instance Tryz.fd65_7 : FF Tryz.prog 65 7 7 := ⟨by kernel_rfl⟩
instance Tryz.ag67 : FA Tryz.prog 67 false := ⟨by kernel_rfl⟩
instance Tryz.iu67 : FU Tryz.prog 67 (.slice 5) := ⟨Tryz.underlying67⟩
instance Tryz.ag68 : FA Tryz.prog 68 false := ⟨by kernel_rfl⟩
instance Tryz.ag69 : FA Tryz.prog 69 false := ⟨by kernel_rfl⟩
instance Tryz.zb71 : FZ Tryz.prog 71 [.slice none 0 0, .int .i64 0, .int .i64 0, .map none, .map none] := ⟨by kernel_rfl⟩
instance Tryz.pl71 : FP Tryz.prog 71 [(0, 1), (1, 1), (2, 1), (3, 1), (4, 1)] := ⟨by kernel_rfl⟩
instance Tryz.fd71_0 : FF Tryz.prog 71 0 0 := ⟨by kernel_rfl⟩
instance Tryz.fd71_1 : FF Tryz.prog 71 1 1 := ⟨by kernel_rfl⟩
instance Tryz.fd71_2 : FF Tryz.prog 71 2 2 := ⟨by kernel_rfl⟩
instance Tryz.fd71_3 : FF Tryz.prog 71 3 3 := ⟨by kernel_rfl⟩
instance Tryz.fd71_4 : FF Tryz.prog 71 4 4 := ⟨by kernel_rfl⟩
instance Tryz.iu75 : FU Tryz.prog 75 (.pointer 110) := ⟨Tryz.underlying75⟩
instance Tryz.ag87 : FA Tryz.prog 87 true := ⟨by kernel_rfl⟩
instance Tryz.cz87 : FC Tryz.prog 87 4 := ⟨by kernel_rfl⟩
instance Tryz.zb87 : FZ Tryz.prog 87 [.string ⟨#[]⟩, .int .i64 0, .int .i64 0, .int .i64 0] := ⟨by kernel_rfl⟩
instance Tryz.pl87 : FP Tryz.prog 87 [(0, 1), (1, 1), (2, 1), (3, 1)] := ⟨by kernel_rfl⟩
instance Tryz.ag93 : FA Tryz.prog 93 true := ⟨by kernel_rfl⟩
instance Tryz.cz93 : FC Tryz.prog 93 3 := ⟨by kernel_rfl⟩
instance Tryz.fd93_0 : FF Tryz.prog 93 0 0 := ⟨by kernel_rfl⟩
instance Tryz.fd93_1 : FF Tryz.prog 93 1 1 := ⟨by kernel_rfl⟩
instance Tryz.fd93_2 : FF Tryz.prog 93 2 2 := ⟨by kernel_rfl⟩
instance Tryz.ag98 : FA Tryz.prog 98 true := ⟨by kernel_rfl⟩
instance Tryz.cz98 : FC Tryz.prog 98 2 := ⟨by kernel_rfl⟩
instance Tryz.zb98 : FZ Tryz.prog 98 [.int .u64 0, .slice none 0 0] := ⟨by kernel_rfl⟩
instance Tryz.fd98_0 : FF Tryz.prog 98 0 0 := ⟨by kernel_rfl⟩
instance Tryz.fd98_1 : FF Tryz.prog 98 1 1 := ⟨by kernel_rfl⟩
instance Tryz.ag101 : FA Tryz.prog 101 true := ⟨by kernel_rfl⟩
instance Tryz.cz101 : FC Tryz.prog 101 3 := ⟨by kernel_rfl⟩
instance Tryz.zb101 : FZ Tryz.prog 101 [.int .i64 0, .int .u64 0, .slice none 0 0] := ⟨by kernel_rfl⟩
instance Tryz.fd101_0 : FF Tryz.prog 101 0 0 := ⟨by kernel_rfl⟩
instance Tryz.fd101_1 : FF Tryz.prog 101 1 1 := ⟨by kernel_rfl⟩
instance Tryz.fd101_2 : FF Tryz.prog 101 2 2 := ⟨by kernel_rfl⟩
instance Tryz.zb110 : FZ Tryz.prog 110 [.int .i64 0, .int .i64 0, .int .i64 0, .map none, .int .i64 0, .int .i64 0, .bool false] := ⟨by kernel_rfl⟩
instance Tryz.pl110 : FP Tryz.prog 110 [(0, 1), (1, 1), (2, 1), (3, 1), (4, 1), (5, 1), (6, 1)] := ⟨by kernel_rfl⟩
instance Tryz.fd110_0 : FF Tryz.prog 110 0 0 := ⟨by kernel_rfl⟩
instance Tryz.ag112 : FA Tryz.prog 112 false := ⟨by kernel_rfl⟩
instance Tryz.cz112 : FC Tryz.prog 112 1 := ⟨by kernel_rfl⟩
instance Tryz.iu112 : FU Tryz.prog 112 (.slice 118) := ⟨Tryz.underlying112⟩
instance Tryz.zb114 : FZ Tryz.prog 114 [.pointer none, .pointer none, .slice none 0 0, .int .i64 0, .map none, .map none, .int .i64 0, .bool false] := ⟨by kernel_rfl⟩
instance Tryz.pl114 : FP Tryz.prog 114 [(0, 1), (1, 1), (2, 1), (3, 1), (4, 1), (5, 1), (6, 1), (7, 1)] := ⟨by kernel_rfl⟩
instance Tryz.fd114_2 : FF Tryz.prog 114 2 2 := ⟨by kernel_rfl⟩
instance Tryz.cz118 : FC Tryz.prog 118 6 := ⟨by kernel_rfl⟩
instance Tryz.by118 : FY Tryz.prog 118 32 := ⟨by kernel_rfl⟩
instance Tryz.zb118 : FZ Tryz.prog 118 [.int .i64 0, .int .i64 0, .int .i64 0, .bool false, .bool false, .bool false] := ⟨by kernel_rfl⟩
instance Tryz.pl118 : FP Tryz.prog 118 [(0, 1), (1, 2), (3, 1), (4, 1), (5, 1)] := ⟨by kernel_rfl⟩
instance Tryz.iu119 : FU Tryz.prog 119 (.int .u32) := ⟨Tryz.underlying119⟩
instance Tryz.iu128 : FU Tryz.prog 128 (.slice 87) := ⟨Tryz.underlying128⟩
instance Tryz.ag158 : FA Tryz.prog 158 true := ⟨by kernel_rfl⟩
instance Tryz.cz158 : FC Tryz.prog 158 2 := ⟨by kernel_rfl⟩
instance Tryz.zb158 : FZ Tryz.prog 158 [.string ⟨#[]⟩, .nilFunc] := ⟨by kernel_rfl⟩
instance Tryz.pl158 : FP Tryz.prog 158 [(0, 1), (1, 1)] := ⟨by kernel_rfl⟩
instance Tryz.fd158_0 : FF Tryz.prog 158 0 0 := ⟨by kernel_rfl⟩
instance Tryz.fd158_1 : FF Tryz.prog 158 1 1 := ⟨by kernel_rfl⟩
instance Tryz.iu159 : FU Tryz.prog 159 (.array 10 158) := ⟨Tryz.underlying159⟩
instance Tryz.zb159 : FZ Tryz.prog 159 [.string ⟨#[]⟩, .nilFunc, .string ⟨#[]⟩, .nilFunc, .string ⟨#[]⟩, .nilFunc, .string ⟨#[]⟩, .nilFunc, .string ⟨#[]⟩, .nilFunc, .string ⟨#[]⟩, .nilFunc, .string ⟨#[]⟩, .nilFunc, .string ⟨#[]⟩, .nilFunc, .string ⟨#[]⟩, .nilFunc, .string ⟨#[]⟩, .nilFunc] := ⟨by kernel_rfl⟩
instance Tryz.ar159 : FR Tryz.prog 159 (10, 2) := ⟨by kernel_rfl⟩
instance Tryz.ag178 : FA Tryz.prog 178 false := ⟨by kernel_rfl⟩
instance Tryz.iu178 : FU Tryz.prog 178 (.slice 48) := ⟨Tryz.underlying178⟩
instance Tryz.ag180 : FA Tryz.prog 180 true := ⟨by kernel_rfl⟩
instance Tryz.cz180 : FC Tryz.prog 180 2 := ⟨by kernel_rfl⟩
instance Tryz.zb180 : FZ Tryz.prog 180 [.slice none 0 0, .slice none 0 0] := ⟨by kernel_rfl⟩
instance Tryz.pl180 : FP Tryz.prog 180 [(0, 1), (1, 1)] := ⟨by kernel_rfl⟩
instance Tryz.fd180_0 : FF Tryz.prog 180 0 0 := ⟨by kernel_rfl⟩
instance Tryz.fd180_1 : FF Tryz.prog 180 1 1 := ⟨by kernel_rfl⟩
instance Tryz.ag182 : FA Tryz.prog 182 true := ⟨by kernel_rfl⟩
instance Tryz.cz182 : FC Tryz.prog 182 3 := ⟨by kernel_rfl⟩
instance Tryz.zb182 : FZ Tryz.prog 182 [.string ⟨#[]⟩, .string ⟨#[]⟩, .int .i64 0] := ⟨by kernel_rfl⟩
instance Tryz.fd182_0 : FF Tryz.prog 182 0 0 := ⟨by kernel_rfl⟩
instance Tryz.fd182_1 : FF Tryz.prog 182 1 1 := ⟨by kernel_rfl⟩
instance Tryz.fd182_2 : FF Tryz.prog 182 2 2 := ⟨by kernel_rfl⟩
instance Tryz.cz190 : FC Tryz.prog 190 3 := ⟨by kernel_rfl⟩
instance Tryz.fd190_0 : FF Tryz.prog 190 0 0 := ⟨by kernel_rfl⟩
instance Tryz.ag192 : FA Tryz.prog 192 true := ⟨by kernel_rfl⟩
instance Tryz.cz192 : FC Tryz.prog 192 4 := ⟨by kernel_rfl⟩
instance Tryz.iu192 : FU Tryz.prog 192 (.array 4 3) := ⟨Tryz.underlying192⟩
instance Tryz.zb192 : FZ Tryz.prog 192 [.int .i64 0, .int .i64 0, .int .i64 0, .int .i64 0] := ⟨by kernel_rfl⟩
instance Tryz.ar192 : FR Tryz.prog 192 (4, 1) := ⟨by kernel_rfl⟩
instance Tryz.ag195 : FA Tryz.prog 195 true := ⟨by kernel_rfl⟩
instance Tryz.cz195 : FC Tryz.prog 195 3 := ⟨by kernel_rfl⟩
instance Tryz.zb195 : FZ Tryz.prog 195 [.string ⟨#[]⟩, .int .i64 0, .int .i64 0] := ⟨by kernel_rfl⟩
instance Tryz.fd195_0 : FF Tryz.prog 195 0 0 := ⟨by kernel_rfl⟩
instance Tryz.fd195_1 : FF Tryz.prog 195 1 1 := ⟨by kernel_rfl⟩
instance Tryz.fd195_2 : FF Tryz.prog 195 2 2 := ⟨by kernel_rfl⟩
theorem Tryz.kt68 : KeyT Tryz.prog 3 (Value.int .i64) := KeyT.int Tryz.underlying3
theorem Tryz.kt69 : KeyT Tryz.prog 3 (Value.int .i64) := KeyT.int Tryz.underlying3
theorem Tryz.zv44 : zeroV1 Tryz.prog 44 = some (.slice none 0 0) := by kernel_rfl
instance Tryz.mixed : FM Tryz.prog := ⟨by kernel_rfl⟩
end Go.Proofs
end
section
namespace Go.Hl
abbrev i64V (n : Int) : VP := intV .i64 n
structure ArI where
 (ab db tm gm size : Nat)
structure ArD where
 bytes : List UInt8
 height : Nat
 live : Nat
 taken : List (Int × Int)
def arenaL (X : ArI) (a : ArD) : List HP :=
 [cellsH X.ab [subV X.db 0 X.size, intV .i64 (a.height : Int), intV .i64 (a.live : Int), exactV (.map (some X.tm)), exactV (.map (some X.gm))],
  bufH X.db a.bytes, mapH X.tm (Value.int .i64) i64V a.taken, mapH X.gm (Value.int .i64) (fun _ : Unit => emptyV) []]
structure ArOk (X : ArI) (a : ArD) : Prop where
 len : a.bytes.length = X.size
 hi : a.height ≤ X.size
 most : X.size ≤ 4194304
 live : a.live ≤ a.height
def dblN : Nat → Nat → Nat → Nat
 | 0, c, _ => c
 | k + 1, c, n => if c < n then dblN k (c * 2) n else c
def classN (n : Nat) : Nat := if 4194304 < n then 0 else dblN 19 16 n
theorem dblN_most : ∀ (k c n : Nat), dblN k c n ≤ c * 2 ^ k
 | 0, c, n => by simp [dblN]
 | k + 1, c, n => by
  unfold dblN
  have := dblN_most k (c * 2) n
  have h2 : 0 < 2 ^ k := Nat.two_pow_pos k
  rw [Nat.pow_succ, Nat.mul_comm (2 ^ k) 2, ← Nat.mul_assoc]
  split
  · exact this
  · calc c ≤ c * 2 := by omega
     _ ≤ c * 2 * 2 ^ k := Nat.le_mul_of_pos_right _ h2
theorem classN_most (n : Nat) : classN n ≤ 8388608 := by
 unfold classN
 split
 · omega
 · exact dblN_most 19 16 n
variable {c : Nat}
theorem dblN_done {k n : Nat} (h : ¬ c < n) : dblN k c n = c := by
 cases k with
 | zero => rfl
 | succ k => unfold dblN; rw [if_neg h]
def placeF (size : Nat) (a : ArD) (c : Nat) : ArD × Nat × Bool := if size - a.height < c then (a, 0, false) else ({ a with height := a.height + c }, a.height, true)
theorem placeF_no {size : Nat} {a : ArD} (h : ¬ (placeF size a c).2.2 = true) : placeF size a c = (a, 0, false) ∧ size - a.height < c := by
 unfold placeF at h ⊢
 by_cases hc : size - a.height < c
 · rw [if_pos hc]; exact ⟨rfl, hc⟩
 · rw [if_neg hc] at h; exact absurd rfl h
theorem placeF_yes {size : Nat} {a : ArD} (h : (placeF size a c).2.2 = true) : placeF size a c = ({ a with height := a.height + c }, a.height, true) ∧ ¬ size - a.height < c := by
 unfold placeF at h ⊢
 by_cases hc : size - a.height < c
 · rw [if_pos hc] at h; cases h
 · rw [if_neg hc]; exact ⟨rfl, hc⟩
def takeF (size : Nat) (a : ArD) (n : Nat) : ArD × Nat × Nat :=
 if 4194304 < n then (a, 0, 1) else if size - a.height < classN n then (a, 0, 8)
 else ({ bytes := a.bytes.take a.height ++ List.replicate (classN n) 0 ++ a.bytes.drop (a.height + classN n), height := a.height + classN n, live := a.live + classN n, taken := updD a.taken (a.height : Int) (classN n : Int) }, a.height, 0)
def ArD.get (a : ArD) (at_ n : Nat) : List UInt8 := (a.bytes.drop at_).take n
def ArD.put (a : ArD) (at_ : Nat) (ys : List UInt8) : ArD := { a with bytes := a.bytes.take at_ ++ ys ++ a.bytes.drop (at_ + ys.length) }
variable {r : List HP}
theorem OLe.cells {b : Nat} {cs cs' : List VP} (h : LeL cs cs') : OLe (cellsH b cs :: r) (cellsH b cs' :: r) := fun F S w ⟨F1, F2, h1, h2, ⟨f1, arr, T, hh, hn, hc⟩, h4⟩ =>
 ⟨F1, F2, h1, h2, ⟨f1, arr, T, hh, by rw [hn, h.len], fun j q' hj => let ⟨q, k1, k2⟩ := h.get j q' hj; let ⟨u, hu, hq⟩ := hc j q k1; ⟨u, hu, k2 _ _ _ hq⟩⟩, h4⟩
theorem falseV : VLe (exactV (.bool false)) (propV False) := fun S w v h => ⟨false, h, by simp⟩
def BP : Bool → Prop
 | true => True
 | false => False
structure StD where
 size : Nat
 cap : Int
 peak : Int
 ops : Int
 fail : Int
 failed : Bool
 m : List (Int × List UInt8)
def storeC (sb mb : Nat) (s : StD) : HP := cellsH sb [intV .i64 (s.size : Int), intV .i64 s.cap, intV .i64 s.peak, exactV (.map (some mb)), intV .i64 s.ops, intV .i64 s.fail, propV (BP s.failed)]
abbrev BlkE := List (Int × Nat × List UInt8)
def storeM (mb size : Nat) (E : BlkE) : HP := mapH mb (Value.int .i64) (fun b => subV b 0 size) (E.map fun e => (e.1, e.2.1))
def storeH (sb : Nat) (s : StD) : HP := exH fun x : Nat × BlkE => ownH (pureH (x.2.map (fun e => (e.1, e.2.2)) = s.m) :: storeC sb x.1 s :: storeM x.1 s.size x.2 :: x.2.map fun e => bufH e.2.1 e.2.2)
structure StOk (s : StD) : Prop where
 size : s.size ≤ 1024
 cap : s.cap ≤ 4096
 len : ∀ e ∈ s.m, e.2.length = s.size
 keys : ∀ e ∈ s.m, 0 ≤ e.1 ∧ e.1 < 4096
 many : (s.m.length : Int) ≤ s.cap
 nodup : (s.m.map (·.1)).Nodup
def bufsH (E : BlkE) : List HP := E.map fun e => bufH e.2.1 e.2.2
def contM (E : BlkE) : List (Int × List UInt8) := E.map fun e => (e.1, e.2.2)
theorem store_close {sb mb sz : Nat} {s : StD} {E : BlkE} (hE : contM E = s.m) (hz : sz = s.size) : OLe (storeC sb mb s :: storeM mb sz E :: ownH (bufsH E) :: r) (storeH sb s :: r) := by
 subst hz
 refine OLe.trans ?_ (OLe.ex (f := fun x : Nat × BlkE => ownH (pureH (x.2.map (fun e => (e.1, e.2.2)) = s.m) :: storeC sb x.1 s :: storeM x.1 s.size x.2 :: x.2.map fun e => bufH e.2.1 e.2.2)) (mb, E))
 refine OLe.trans (OLe.cons _ (OLe.cons _ OLe.unpack)) ?_
 refine OLe.trans (OLe.pure (p := contM E = s.m) hE) ?_
 exact OLe.pack (l := pureH (contM E = s.m) :: storeC sb mb s :: storeM mb s.size E :: bufsH E)
theorem CodeT.openS {P : Program} {Q : Exit → Act → World → Prop} {c : Ctx} {x : Code} {env : Env} {sb : Nat} {s : StD} (k : ∀ mb E, contM E = s.m → CodeT P Q c x (storeC sb mb s :: storeM mb s.size E :: ownH (bufsH E) :: r) env) : CodeT P Q c x (storeH sb s :: r) env :=
 CodeT.opens fun ⟨mb, E⟩ => CodeT.own OLe.unpack (CodeT.pureH fun h => CodeT.own (OLe.cons _ (OLe.cons _ (OLe.pack (l := bufsH E)))) (k mb E h))
theorem ownNil : OLe r (ownH [] :: r) := fun F S w x => ⟨fun _ => False, F, fun _ h => h.elim, fun _ h => h, trivial, x⟩
end Go.Hl
end
section
namespace Go.Proofs.YtgboekefmedapaaGreatDoor
open Go.Hl Go.RowKit
variable {n : Nat}
theorem aclass_spec : FnP Tryz.prog 48 [i64V (n : Int)] (i64V (classN n : Int)) := by
 refine In 12 Tryz.func48 fun _ _ _ => ?_
 refine Z12 ?_
 refine Cd (fun c0 => ?_) fun c0 => ?_
 ·
  refine Z7 ?_
  refine Rt1 ?_
  exact VLe.int (by unfold classN; rw [if_pos (by omega)]; rfl)
 refine Z9 ?_
 refine .loopO (σ := Nat × Nat) (fun _ => []) (fun s => [(3, i64V (s.1 : Int))]) (fun s => s.1 * 2 ^ s.2 = 16 * 2 ^ 19 ∧ 16 ≤ s.1 ∧ dblN s.2 s.1 n = classN n) (fun s => s.2) (16, 19) ⟨rfl, by decide, by unfold classN; rw [if_neg (by omega)]⟩ rfl ?_ ?_
 · exact (.get rfl (VLe.refl _) (.refl _ _))
 rintro ⟨c, k⟩ ⟨hk, h16, hd⟩
 simp only at hk h16 hd ⊢
 have hcm : c ≤ 8388608 := by (have h2 : 0 < 2 ^ k := Nat.two_pow_pos k; have h3 : c ≤ c * 2 ^ k := Nat.le_mul_of_pos_right _ h2; omega)
 refine Z8 ?_
 refine Cd (fun c1 => ?_) fun c1 => ?_
 ·
  refine Z9 ?_
  refine .round (c * 2, k - 1) (by obtain ⟨k, rfl⟩ : ∃ j, k = j + 1 := ⟨k - 1, by (cases k with | zero => simp at hk; omega | succ k => omega)⟩; simp only [Nat.add_sub_cancel]; exact ⟨by rw [← hk, Nat.pow_succ]; simp only [Nat.mul_assoc, Nat.mul_comm, Nat.mul_left_comm], by omega, by (unfold dblN at hd; rw [if_pos (by omega)] at hd; exact hd)⟩) (by cases k with | zero => simp at hk; omega | succ k => simp) rfl ?_
  exact (.get rfl (VLe.int (by simp)) (.keep 7 rfl rfl))
 refine Z12 ?_
 refine Rt1 ?_
 exact VLe.int (by rw [← hd, dblN_done (by omega)])
variable {X : ArI} {a : ArD}
theorem aplace_spec {c : Nat} (hp0 : ArOk X a) (hp1 : c ≤ 8388608) : FnE Tryz.prog 49 [addrV X.ab 0, i64V (c : Int)] (arenaL X a) (γ := ArD × Nat × Bool) (fun g => g = placeF X.size a c) (fun g => arenaL X g.1) (fun g => tupV [i64V (g.2.1 : Int), propV (g.2.2 = true)]) := by
 refine In 58 Tryz.func49 fun _ _ _ => ?_
 have hk1 := hp0.hi; have hk2 := hp0.most
 refine Z14 ?_
 refine .p (opLook (i := 3) Tryz.kt69 Tryz.underlying69 (fun w => run_zv Tryz.zv44 w) (.t rfl) (.t rfl) rfl) rfl ?_
 refine Z6 ?_
 refine .p (opLen rfl Tryz.underlying44 (.le (.t rfl) (sliceV_nil 1 (fun n : Int => [i64V n])))) rfl ?_
 refine Z3 ?_
 refine Cd (fun c0 => ?_) fun c0 => ?_
 · simp at c0
 refine Z4 ?_
 refine .drawK 11 1 FM.out (by kernel_rfl) (k := ?_)
 refine Z5 ?_
 refine .p (opLenSub rfl Tryz.underlying67 (.t rfl)) ?_
 refine Z9 ?_
 refine Cd (fun c1 => ?_) fun c1 => ?_
 ·
  refine Z8 ?_
  refine Post.retR rfl rfl ((a, 0, false)) (by unfold placeF; rw [if_pos (by omega)]) (fun _ _ _ h => h) rfl (.cons (.rt rfl) ?_ (.cons (.rt rfl) ?_ .nil))
  · exact VLe.refl _
  exact VLe.prop (by simp)
 refine Z32 ?_
 refine Post.retR rfl rfl (({ a with height := a.height + c }, a.height, true)) (by unfold placeF; rw [if_neg (by omega)]) (fun _ _ _ h => h) rfl (.cons (.rt rfl) ?_ (.cons (.rt rfl) ?_ .nil))
 · exact VLe.refl _
 exact VLe.prop (by simp)
theorem atake_spec (hp0 : ArOk X a) : FnE Tryz.prog 35 [addrV X.ab 0, i64V (n : Int)] (arenaL X a) (γ := ArD × Nat × Nat) (fun g => g = takeF X.size a n) (fun g => arenaL X g.1) (fun g => tupV [i64V (g.2.1 : Int), i64V (g.2.2 : Int)]) := by
 refine In 53 Tryz.func35 fun _ _ _ => ?_
 have hk1 := hp0.hi; have hk2 := hp0.most; have hk3 := hp0.len; have hk4 := hp0.live; have hk5 := classN_most n
 refine Z11 ?_
 refine .p (opEqlNilO FU.out (.t rfl)) rfl ?_
 refine Z3 ?_
 refine Cd (fun c0 => ?_) fun c0 => ?_
 · exact c0.elim
 refine Z11 ?_
 refine Cd (fun c1 => ?_) fun c1 => ?_
 ·
  refine Z9 ?_
  refine Post.retR rfl rfl ((a, 0, 1)) (by unfold takeF; rw [if_pos (by omega)]) (fun _ _ _ h => h) rfl (.cons (.rt rfl) ?_ (.cons (.rt rfl) ?_ .nil))
  · first | exact VLe.refl _ | exact VLe.int (by omega) | exact VLe.prop (by omega) | exact VLe.prop (by simp_all) | exact VLe.prop (by simp; omega)
  first | exact VLe.refl _ | exact VLe.int (by omega) | exact VLe.prop (by omega) | exact VLe.prop (by simp_all) | exact VLe.prop (by simp; omega)
 have hk6 : ¬ 4194304 < n := by omega
 refine Z6 ?_
 refine .p (cA (h := aclass_spec)) rfl ?_
 refine Z7 ?_
 refine .n (cE (h := aplace_spec (by assumption) (by first | assumption | exact classN_most _))) rfl fun g24 h24 => ?_
 refine Z14 ?_
 refine Cd (fun c2 => ?_) fun c2 => ?_
 ·
  obtain ⟨e24, hc24⟩ := placeF_no (by rw [← h24]; exact c2)
  rw [e24] at h24; subst h24; dsimp only
  refine Z8 ?_
  refine Post.retR rfl rfl ((a, 0, 8)) (by unfold takeF; rw [if_neg hk6, if_pos hc24]) (fun _ _ _ h => h) rfl (.cons (.rt rfl) ?_ (.cons (.rt rfl) ?_ .nil))
  · first | exact VLe.refl _ | exact VLe.int (by omega) | exact VLe.prop (by omega) | exact VLe.prop (by simp_all) | exact VLe.prop (by simp; omega)
  first | exact VLe.refl _ | exact VLe.int (by omega) | exact VLe.prop (by omega) | exact VLe.prop (by simp_all) | exact VLe.prop (by simp; omega)
 obtain ⟨e24, hc24⟩ := placeF_yes (by rw [← h24]; exact Classical.not_not.1 c2)
 rw [e24] at h24; subst h24; dsimp only
 refine Z12 ?_
 refine .p ((opSliceSub (l := a.height) (h := a.height + classN n) FU.out FC.out (.t rfl) (.t rfl) (.t rfl) rfl rfl (by omega) (by omega)).le (VLe.of_eq (show subV _ _ _ = subV X.db a.height (classN n) by rw [Nat.zero_add, Nat.add_sub_cancel_left]))) rfl ?_
 refine .s (opClearSub (i := 1) rfl Tryz.underlying67 FC.out FZ.out (.t rfl) rfl (by dsimp only; omega)) ?_
 refine Z10 ?_
 refine .s (opUpd (i := 2) _ Tryz.kt68 Tryz.underlying68 (.t rfl) (.t rfl) (.t rfl) rfl) ?_
 refine Z9 ?_
 refine .p (opAddF (.t rfl) (.t rfl) (fits_i64 (by dsimp only; omega) (by dsimp only; omega))) rfl ?_
 refine Z13 ?_
 refine Post.retR rfl rfl (({ bytes := a.bytes.take a.height ++ List.replicate (classN n) 0 ++ a.bytes.drop (a.height + classN n), height := a.height + classN n, live := a.live + classN n, taken := updD a.taken (a.height : Int) (classN n : Int) }, a.height, 0)) (by unfold takeF; rw [if_neg hk6, if_neg hc24]) (fun _ _ _ h => h) rfl (.cons (.rt rfl) ?_ (.cons (.rt rfl) ?_ .nil))
 · first | exact VLe.refl _ | exact VLe.int (by omega) | exact VLe.prop (by omega) | exact VLe.prop (by simp_all) | exact VLe.prop (by simp; omega)
 first | exact VLe.refl _ | exact VLe.int (by omega) | exact VLe.prop (by omega) | exact VLe.prop (by simp_all) | exact VLe.prop (by simp; omega)
theorem apart_spec {at_ : Nat} (hp0 : ArOk X a) (hp1 : at_ + n ≤ X.size) : FnE Tryz.prog 46 [addrV X.ab 0, i64V (at_ : Int), i64V (n : Int)] (arenaL X a) (γ := Unit) (fun _ => True) (fun _ => arenaL X a) (fun _ => tupV [subV X.db at_ n, i64V 0]) := by
 refine In 47 Tryz.func46 fun _ _ _ => ?_
 have hk2 := hp0.most
 refine Z11 ?_
 refine .p (opEqlNilO FU.out (.t rfl)) rfl ?_
 refine Z3 ?_
 refine Cd (fun c0 => ?_) fun c0 => ?_
 · exact c0.elim
 refine Z14 ?_
 refine .g (OpG.gF rfl rfl rfl rfl (fun hg => opLenSub rfl Tryz.underlying67 (.when (.t rfl) hg))) rfl rfl ?_
 refine Z8 ?_
 refine .g (OpG.gF rfl rfl rfl rfl (fun hg => opLenSub rfl Tryz.underlying67 (.when (.t rfl) hg))) rfl rfl ?_
 refine Z7 ?_
 refine Cd (fun c1 => ?_) fun c1 => ?_
 · exfalso; omega
 refine Z13 ?_
 refine .p ((opSliceSub (l := at_) (h := at_ + n) FU.out FC.out (.t rfl) (.t rfl) (.t rfl) rfl rfl (by omega) (by omega)).le (VLe.of_eq (show subV _ _ _ = subV X.db at_ n by rw [Nat.zero_add, Nat.add_sub_cancel_left]))) rfl ?_
 refine Z5 ?_
 refine Rt2 ?_ ?_
 · first | exact VLe.refl _ | exact VLe.int (by omega) | exact VLe.prop (by omega) | exact VLe.prop (by simp_all) | exact VLe.prop (by simp; omega)
 first | exact VLe.refl _ | exact VLe.int (by omega) | exact VLe.prop (by omega) | exact VLe.prop (by simp_all) | exact VLe.prop (by simp; omega)
end Go.Proofs.YtgboekefmedapaaGreatDoor
end
section
namespace Go.Hl
open Go.RowKit
section
variable {P : Program} {hs : List HP} {env : Env} {q : VP} {dst : Option Tmp} {ty T T' E : TypeId} {pos : String} {after : Array Edge} {gd : Option (Nat × Bool)} {x y z : Operand}
theorem opIndexSub {b off len : Nat} {k : IntKind} {i : Int} (j : Nat) (hT : P.underlying T = some (.slice E)) (hn : P.cellsOf E = 1) (hx : Opd env x (subV b off len)) (hy : Opd env y (intV k i)) (hi : i = (j : Int)) (hj : j < len) :
    OpP P hs env ⟨dst, .indexAddr T x y, ty, pos, after, gd⟩ (addrV b (off + j)) :=
  OpP.of_read fun ρ w S F _ he => by
    obtain ⟨o, cap, hv, h1, h2, h3⟩ := he.o _ _ hx
    have h4 := he.o _ _ hy; simp only [exactV] at h4
    subst hi
    have ho : o = off := h1.resolve_left (by omega)
    subst ho
    have hs := run_sizeOf (T := E) hn rfl w
    have hadd : Addr.add ⟨b, o, none⟩ j = ⟨b, o + j, none⟩ := by
      unfold Addr.add
      split <;> simp_all
    exact ⟨_, by simp [execOp, hv, h4, Instr.indexAt, asIntOf, run_underlying hT, Instr.sureAddr, hs, hadd, hj], rfl⟩
theorem opLoadB {b k i : Nat} {l : List UInt8} {c : UInt8} (hT : aggB P T = some false) (hx : Opd env x (addrV b k)) (hi : hs[i]? = some (bufH b l)) (hj : l[k]? = some c) : OpP P hs env ⟨dst, .load T x, ty, pos, after, gd⟩ (intV .u8 (c.toNat : Int)) :=
 OpP.of_read fun ρ w S F ho hev => by
  have hv := hev.o _ _ hx; simp only [exactV] at hv
  obtain ⟨F1, _, _, T', hb⟩ := ho.get hi
  refine ⟨.int .u8 (c.toNat : Int), ?_, rfl⟩
  have hc : w.cell? ⟨b, k, none⟩ = some (.int .u8 (c.toNat : Int)) := by simp [World.cell?, hb, u8s_get, hj]
  have h1 : (loadVar T ⟨b, k, none⟩).run P w = .ok (.int .u8 (c.toNat : Int)) w := by
   unfold loadVar
   rw [run_bind_ok (run_isAgg hT w)]
   simp [hc]
  simp [execOp, hv, Instr.loadAt, Instr.sureAddr, h1]
theorem opStoreB {b k i : Nat} {l : List UInt8} (c : UInt8) (hn : P.cellsOf T = 1) (hx : Opd env x (addrV b k)) (hy : Opd env y (intV .u8 (c.toNat : Int))) (hi : hs[i]? = some (bufH b l)) (hj : k < l.length) :
    OpE P hs env ⟨none, .store T x y, ty, pos, after, gd⟩ (γ := Unit) (fun _ => True) (fun _ => hs.set i (bufH b (l.set k c))) (fun _ => exactV undef) := by
  intro cx a w S F hsit hown hev Kp Q hk
  have hv := hx S w a hev; simp only [exactV] at hv
  have hu := hy S w a hev; simp only [exactV] at hu
  obtain ⟨F0, _, _, T', hb⟩ := hown.get hi
  have hsz : k < (u8s l).toArray.size := by simpa [u8s] using hj
  have hr : (execOp a.eval ⟨none, .store T x y, ty, pos, after, gd⟩).run P w = .ok .skip (w.setCell ⟨b, k, none⟩ (a.eval y)) := by
    have hst := run_storeVar1 (v := a.eval y) hn (by rw [hu]; exact ⟨rfl, rfl⟩) hb hsz
    simp [execOp, hv, Instr.storeAt, Instr.sureAddr, hst]
  have hne : ∀ t, t ≠ b → (w.setCell ⟨b, k, none⟩ (a.eval y)).heap[t]? = w.heap[t]? := fun t ht => heap_setCell_ne w _ _ t ht
  obtain ⟨F1, F2, f1, f2, f3, _, f4⟩ := hown.upd hi
  have hFb : F1 b := f3.1
  have hag : ∀ t, S t → (w.setCell ⟨b, k, none⟩ (a.eval y)).heap[t]? = w.heap[t]? := fun t ht => hne t (fun e => hsit.disj t ht (e ▸ (f1 b hFb).1))
  unfold Oper.wp
  rw [hr]
  refine hk () undef _ S F trivial (hsit.write (f1 b hFb).1 rfl rfl rfl (by simp [World.setCell]) hne) (fun _ h => h) hag ?_ rfl
  have := f4 S F1 (w.setCell ⟨b, k, none⟩ (a.eval y)) (bufH b (l.set k c)) (fun t ht => (f1 t ht).2) (fun _ h => h) (fun t ht => hne t (fun e => (f1 b hFb).2 (e ▸ ht))) hag
    ⟨hFb, T', by
      rw [hu]
      simp only [World.setCell, Array.getElem?_modify, hb, if_true, Option.map_some, Option.isSome_none, Bool.false_eq_true, if_false]
      congr 2
      apply Array.ext_getElem?
      intro t
      rw [Array.getElem?_setIfInBounds]
      simp only [List.getElem?_toArray, u8s_get, List.getElem?_set]
      by_cases e : k = t
      · subst e
        have hsz' : k < (u8s l).length := by simpa using hsz
        simp [hj, hsz']
      · simp [e]⟩
  exact this.mono (fun t ht => ht.elim (fun h => (f1 t h).1) (f2 t)) (fun _ h => h) (fun _ _ => rfl) (fun _ _ => rfl)
end
def leB (v : Nat) (i : Nat) : UInt8 := UInt8.ofNat (v / 2 ^ (8 * i) % 256)
def leL (v w : Nat) : List UInt8 := (List.range w).map (leB v)
def leN : List UInt8 → Nat
 | [] => 0
 | c :: l => c.toNat + 256 * leN l
theorem leL_len (v w : Nat) : (leL v w).length = w := by simp [leL]
theorem leN_lt : ∀ l : List UInt8, leN l < 2 ^ (8 * l.length)
 | [] => by simp [leN]
 | c :: l => by
  have h1 := leN_lt l
  have h2 := c.toNat_lt
  simp only [leN, List.length_cons]
  have e : 2 ^ (8 * (l.length + 1)) = 256 * 2 ^ (8 * l.length) := by rw [Nat.mul_add, Nat.pow_add]; omega
  rw [e]; omega
theorem leN_snoc : ∀ (l : List UInt8) (c : UInt8), leN (l ++ [c]) = leN l + c.toNat * 2 ^ (8 * l.length)
 | [], c => by simp [leN]
 | d :: l, c => by
  have ih := leN_snoc l c
  simp only [List.cons_append, leN, ih, List.length_cons]
  have e : 2 ^ (8 * (l.length + 1)) = 256 * 2 ^ (8 * l.length) := by rw [Nat.mul_add, Nat.pow_add]; omega
  rw [e, Nat.mul_add, ← Nat.mul_assoc, Nat.mul_comm 256 c.toNat, Nat.mul_assoc, Nat.add_assoc]
theorem leN_or (l : List UInt8) (c : UInt8) : (leN l) ||| (c.toNat * 2 ^ (8 * l.length)) = leN (l ++ [c]) := by
 rw [leN_snoc, Nat.mul_comm c.toNat, Nat.or_comm, ← Nat.two_pow_add_eq_or_of_lt (leN_lt l), Nat.add_comm]
end Go.Hl
end
section
namespace Go.Hl
def encB (b : Bool) : List VP := [propV (b = true)]
instance : Enc 1 encB := ⟨fun _ => rfl, fun x q h => by simp only [encB, List.mem_cons, List.not_mem_nil, or_false] at h; subst h; infer_instance⟩
def anyV : VP := ⟨fun _ _ _ => True, fun _ _ _ => trivial⟩
theorem VLe.any {q : VP} : VLe q anyV := fun _ _ _ _ => trivial
open Classical in
noncomputable def whenE (p : Prop) (e : Int) : Int := if p then e else 0
def firstE (g : Nat → Int) : Nat → Int
 | 0 => 0
 | n + 1 => if firstE g n ≠ 0 then firstE g n else g n
variable {k : Nat}
theorem firstE_at {g : Nat → Int} {n : Nat} (h0 : firstE g k = 0) (hk : g k ≠ 0) (hn : k < n) : firstE g n = g k := by
 induction n with
 | zero => omega
 | succ n ih =>
  by_cases e : k = n
  · subst e; simp [firstE, h0]
  · have := ih (by omega)
    simp [firstE, this, hk]
variable {α : Type}
def onI (xs : List α) (f : α → Int) (i : Nat) : Int := match xs[i]? with | some x => f x | none => 0
theorem onI_eq {xs : List α} {f : α → Int} {i : Nat} {x : α} (h : xs[i]? = some x) : onI xs f i = f x := by simp [onI, h]
open Classical in
noncomputable def idxF {α : Type} (p : α → Prop) : List α → Int
 | [] => -1
 | x :: l => if p x then 0 else if idxF p l < 0 then -1 else idxF p l + 1
theorem idxF_ge {α : Type} (p : α → Prop) : ∀ l : List α, -1 ≤ idxF p l
 | [] => by simp [idxF]
 | x :: l => by unfold idxF; have := idxF_ge p l; split <;> (try split) <;> omega
theorem idxF_nonneg {α : Type} {p : α → Prop} : ∀ {l : List α}, 0 ≤ idxF p l ↔ ∃ x ∈ l, p x
 | [] => by simp [idxF]
 | x :: l => by
  unfold idxF
  have ih := idxF_nonneg (p := p) (l := l)
  split
  · rename_i h; simp [h]
  · rename_i h
    split
    · rename_i h2
      simp only [List.mem_cons, exists_eq_or_imp, h, false_or]
      rw [← ih]; omega
    · rename_i h2
      simp only [List.mem_cons, exists_eq_or_imp, h, false_or]
      rw [← ih]; omega
variable {p : α → Prop} {l : List α}
theorem idxF_none (h : ∀ x ∈ l, ¬ p x) : idxF p l = -1 := by
 have h1 := idxF_ge p l
 have h2 : ¬ 0 ≤ idxF p l := fun h' => by obtain ⟨x, hx, hp⟩ := idxF_nonneg.1 h'; exact h x hx hp
 omega
theorem idxF_at {α : Type} {p : α → Prop} : ∀ {l : List α} {k : Nat} {x : α}, l[k]? = some x → p x → (∀ j y, j < k → l[j]? = some y → ¬ p y) → idxF p l = k
 | [], _, _, h, _, _ => by simp at h
 | y :: l, 0, x, h, hp, _ => by simp at h; subst h; simp [idxF, hp]
 | y :: l, k + 1, x, h, hp, hn => by
  have h1 := idxF_at (l := l) (k := k) (x := x) (by simpa using h) hp (fun j z hj hz => hn (j + 1) z (by omega) (by simpa using hz))
  have h2 := hn 0 y (by omega) rfl
  unfold idxF
  rw [if_neg h2, h1, if_neg (by omega)]; omega
def NotB (p : α → Prop) (l : List α) (k : Nat) : Prop := ∀ j y, j < k → l[j]? = some y → ¬ p y
theorem NotB.zero (p : α → Prop) (l : List α) : NotB p l 0 := fun j y h => by omega
theorem NotB.succ {x : α} (h : NotB p l k) (hx : l[k]? = some x) (hp : ¬ p x) : NotB p l (k + 1) := fun j y hj hy => by
 by_cases e : j = k
 · subst e; rw [hx] at hy; cases hy; exact hp
 · exact h j y (by omega) hy
theorem NotB.all (h : NotB p l k) (hk : l.length ≤ k) : ∀ x ∈ l, ¬ p x := fun x hx => by
 obtain ⟨j, hj⟩ := List.mem_iff_getElem?.1 hx
 exact h j x (by have := (List.getElem?_eq_some_iff.1 hj).1; omega) hj
theorem ptrV_at {cs : List VP} {j : Nat} {q : VP} (h : cs[j]? = some q) : VLe (ptrV (cs.drop (j * 1))) (ptrV [q]) := fun S w v ⟨b, off, hv, hb, hc⟩ => ⟨b, off, hv, hb, fun t p ht => by
 cases t with
 | zero => simp at ht; subst ht; exact hc 0 q (by rw [Nat.mul_one, List.getElem?_drop]; simpa using h)
 | succ t => simp at ht⟩
end Go.Hl
end
section
namespace Go.Hl
def encInt (n : Int) : List VP := [intV .i64 n]
def encU64 (n : Int) : List VP := [intV .u64 n]
structure SigD where
 P : List UInt8
 R : List UInt8
def encSig (s : SigD) : List VP := [sliceV 1 encU8 s.P, sliceV 1 encU8 s.R]
structure ImportD where
 Module : List UInt8
 Name : List UInt8
 Sig : Int
def encImport (x : ImportD) : List VP := [strV x.Module, strV x.Name, intV .i64 x.Sig]
structure InstrD where
 Code : Int
 A : Int
 B : Int
 Align : Int
 L : List Int
def encInstr (x : InstrD) : List VP := [intV .i64 x.Code, intV .u64 x.A, intV .u64 x.B, intV .i64 x.Align, sliceV 1 encU64 x.L]
structure BodyD where
 Locals : List UInt8
 L : List InstrD
def encBody (x : BodyD) : List VP := [sliceV 1 encU8 x.Locals, sliceV 5 encInstr x.L]
structure FuncD where
 Sig : Int
 Body : BodyD
def encFunc (x : FuncD) : List VP := [intV .i64 x.Sig, sliceV 1 encU8 x.Body.Locals, sliceV 5 encInstr x.Body.L]
structure LimitsD where
 Min : Int
 Max : Int
 Wide : Prop
def encLimits (x : LimitsD) : List VP := [intV .i64 x.Min, intV .i64 x.Max, propV x.Wide]
structure GlobalD where
 Ty : UInt8
 Mutable : Prop
 Value : Int
def encGlobal (x : GlobalD) : List VP := [intV .u8 (x.Ty.toNat : Int), propV x.Mutable, intV .u64 x.Value]
structure ExportD where
 Name : List UInt8
 Kind : Int
 Index : Int
def encExport (x : ExportD) : List VP := [strV x.Name, intV .i64 x.Kind, intV .i64 x.Index]
structure ElemD where
 At : Int
 Funcs : List Int
def encElem (x : ElemD) : List VP := [intV .u64 x.At, sliceV 1 encInt x.Funcs]
structure DataD where
 Mem : Int
 At : Int
 Bytes : List UInt8
def encData (x : DataD) : List VP := [intV .i64 x.Mem, intV .u64 x.At, sliceV 1 encU8 x.Bytes]
structure ModD where
 Sigs : List SigD
 Imports : List ImportD
 Funcs : List FuncD
 Table : Int
 Mems : List LimitsD
 Globals : List GlobalD
 Exports : List ExportD
 Start : Int
 Elems : List ElemD
 Datas : List DataD
def encMod (m : ModD) : List VP := [sliceV 2 encSig m.Sigs, sliceV 3 encImport m.Imports, sliceV 3 encFunc m.Funcs, intV .i64 m.Table, sliceV 3 encLimits m.Mems, sliceV 3 encGlobal m.Globals, sliceV 3 encExport m.Exports, intV .i64 m.Start, sliceV 2 encElem m.Elems, sliceV 3 encData m.Datas]
instance : Enc 1 encInt := ⟨fun _ => rfl, fun x q h => by simp only [encInt, List.mem_cons, List.not_mem_nil, or_false] at h; rw [h]; infer_instance⟩
instance : Enc 1 encU64 := ⟨fun _ => rfl, fun x q h => by simp only [encU64, List.mem_cons, List.not_mem_nil, or_false] at h; rw [h]; infer_instance⟩
instance : Enc 2 encSig := ⟨fun _ => rfl, fun x q h => by simp only [encSig, List.mem_cons, List.not_mem_nil, or_false] at h; rcases h with h | h <;> rw [h] <;> infer_instance⟩
instance : Enc 3 encImport := ⟨fun _ => rfl, fun x q h => by simp only [encImport, List.mem_cons, List.not_mem_nil, or_false] at h; rcases h with h | h | h <;> rw [h] <;> infer_instance⟩
instance : Enc 5 encInstr := ⟨fun _ => rfl, fun x q h => by simp only [encInstr, List.mem_cons, List.not_mem_nil, or_false] at h; rcases h with h | h | h | h | h <;> rw [h] <;> infer_instance⟩
instance : Enc 2 encBody := ⟨fun _ => rfl, fun x q h => by simp only [encBody, List.mem_cons, List.not_mem_nil, or_false] at h; rcases h with h | h <;> rw [h] <;> infer_instance⟩
instance : Enc 3 encFunc := ⟨fun _ => rfl, fun x q h => by simp only [encFunc, List.mem_cons, List.not_mem_nil, or_false] at h; rcases h with h | h | h <;> rw [h] <;> infer_instance⟩
instance : Enc 3 encLimits := ⟨fun _ => rfl, fun x q h => by simp only [encLimits, List.mem_cons, List.not_mem_nil, or_false] at h; rcases h with h | h | h <;> rw [h] <;> infer_instance⟩
instance : Enc 3 encGlobal := ⟨fun _ => rfl, fun x q h => by simp only [encGlobal, List.mem_cons, List.not_mem_nil, or_false] at h; rcases h with h | h | h <;> rw [h] <;> infer_instance⟩
instance : Enc 3 encExport := ⟨fun _ => rfl, fun x q h => by simp only [encExport, List.mem_cons, List.not_mem_nil, or_false] at h; rcases h with h | h | h <;> rw [h] <;> infer_instance⟩
instance : Enc 2 encElem := ⟨fun _ => rfl, fun x q h => by simp only [encElem, List.mem_cons, List.not_mem_nil, or_false] at h; rcases h with h | h <;> rw [h] <;> infer_instance⟩
instance : Enc 3 encData := ⟨fun _ => rfl, fun x q h => by simp only [encData, List.mem_cons, List.not_mem_nil, or_false] at h; rcases h with h | h | h <;> rw [h] <;> infer_instance⟩
theorem FlatL.of {α : Type} {n : Nat} {enc : α → List VP} [h : Enc n enc] (x : α) : FlatL (enc x) := ⟨fun q hq => h.flat x q hq⟩
instance (x : SigD) : FlatL (encSig x) := FlatL.of x
instance (x : ImportD) : FlatL (encImport x) := FlatL.of x
instance (x : InstrD) : FlatL (encInstr x) := FlatL.of x
instance (x : BodyD) : FlatL (encBody x) := FlatL.of x
instance (x : FuncD) : FlatL (encFunc x) := FlatL.of x
instance (x : LimitsD) : FlatL (encLimits x) := FlatL.of x
instance (x : GlobalD) : FlatL (encGlobal x) := FlatL.of x
instance (x : ExportD) : FlatL (encExport x) := FlatL.of x
instance (x : ElemD) : FlatL (encElem x) := FlatL.of x
instance (x : DataD) : FlatL (encData x) := FlatL.of x
def TypedP (l : List UInt8) : Prop := l.length ≤ 20 ∧ ∀ b ∈ l, b = 126 ∨ b = 127
def NamedP (l : List UInt8) : Prop := (∀ b ∈ l, 33 ≤ b.toNat ∧ b.toNat ≤ 126) ∧ l ≠ [] ∧ l.length ≤ 30
def InP (n many : Int) : Prop := 0 ≤ n ∧ n < many
def LimitsP (l : LimitsD) (most : Int) : Prop := 0 ≤ l.Min ∧ l.Min ≤ most ∧ (l.Max < 0 ∨ l.Min ≤ l.Max ∧ l.Max ≤ most)
end Go.Hl
namespace Go.Hl
def manyE (n : Nat) (most : Int) (g : Nat → Int) : Int := if most < (n : Int) then 15 else firstE g n
def countM (m : ModD) : Int := (m.Imports.length : Int) + (m.Funcs.length : Int)
def RightP (s : SigD) : Prop := TypedP s.P ∧ TypedP s.R
noncomputable def sigE (s : SigD) : Int := whenE (¬ RightP s) 5
noncomputable def sigsE (m : ModD) : Int := manyE m.Sigs.length 50 (onI m.Sigs sigE)
open Classical in
noncomputable def importE (m : ModD) (x : ImportD) : Int := if ¬ NamedP x.Module ∨ ¬ NamedP x.Name then 16 else whenE (¬ InP x.Sig m.Sigs.length) 2
noncomputable def importsE (m : ModD) : Int := manyE m.Imports.length 20 (onI m.Imports (importE m))
noncomputable def funcE (m : ModD) (x : FuncD) : Int := whenE (¬ InP x.Sig m.Sigs.length) 2
noncomputable def funcsE (m : ModD) : Int := if 100 < countM m then 15 else firstE (onI m.Funcs (funcE m)) m.Funcs.length
noncomputable def tableE (m : ModD) : Int := if m.Table < -1 then 2 else whenE (1000 < m.Table) 15
noncomputable def memE (x : LimitsD) : Int := whenE (¬ LimitsP x 65536) 5
noncomputable def memsE (m : ModD) : Int := manyE m.Mems.length 4 (onI m.Mems memE)
def bitsI (t : UInt8) : Int := if (t.toNat : Int) = 127 then 32 else if (t.toNat : Int) = 126 then 64 else 0
theorem bitsI_zero (b : UInt8) : bitsI b = 0 ↔ ¬ (b = 126 ∨ b = 127) := by
 unfold bitsI
 by_cases h1 : (b.toNat : Int) = 127
 · have e : b = 127 := UInt8.toNat_inj.1 (by simp; omega)
   subst e; simp
 · by_cases h2 : (b.toNat : Int) = 126
   · have e : b = 126 := UInt8.toNat_inj.1 (by simp; omega)
     subst e; simp
   · rw [if_neg h1, if_neg h2]
     simp only [true_iff]
     rintro (e | e) <;> subst e <;> simp at h1 h2
theorem typed_iff {l : List UInt8} : ((l.length : Int) ≤ 20 ∧ ¬ ∃ x ∈ l, bitsI x = 0) ↔ TypedP l := by
 unfold TypedP
 simp only [not_exists, not_and, bitsI_zero, Classical.not_not]
 constructor <;> (rintro ⟨h1, h2⟩; exact ⟨by omega, h2⟩)
noncomputable def globalE (x : GlobalD) : Int := whenE (bitsI x.Ty = 0 ∨ (x.Ty.toNat : Int) = 127 ∧ 4294967295 < x.Value) 5
noncomputable def globalsE (m : ModD) : Int := manyE m.Globals.length 50 (onI m.Globals globalE)
def cnt (m : ModD) : Nat → Int
 | 0 => countM m
 | 1 => min (IntKind.i64.wrap (m.Table + 1)) 1
 | 2 => (m.Mems.length : Int)
 | _ => (m.Globals.length : Int)
def kindJ (k : Int) : Nat := (max (min k 3) 0).toNat
def ExportP (m : ModD) (x : ExportD) : Prop := InP x.Kind 4 ∧ InP x.Index (cnt m (kindJ x.Kind))
open Classical in
noncomputable def exportE (m : ModD) (i : Nat) : Int := match m.Exports[i]? with
 | none => 0
 | some x => if ¬ NamedP x.Name ∨ (∃ y ∈ m.Exports.take i, y.Name = x.Name) then 16 else whenE (¬ ExportP m x) 2
noncomputable def exportsE (m : ModD) : Int := manyE m.Exports.length 50 (exportE m)
def numberO (m : ModD) (f : Int) : Option Int :=
 if f < 0 ∨ countM m ≤ f then none else if f < (m.Imports.length : Int) then (m.Imports[f.toNat]?).map (·.Sig) else (m.Funcs[(f - (m.Imports.length : Int)).toNat]?).map (·.Sig)
def sigO (m : ModD) (f : Int) : Option SigD := match numberO m f with
 | none => none
 | some n => if 0 ≤ n then m.Sigs[n.toNat]? else none
noncomputable def startE (m : ModD) : Int := if m.Start = -1 then 0 else match sigO m m.Start with
 | none => 2
 | some s => whenE (0 < (s.P.length : Int) + (s.R.length : Int)) 5
open Classical in
noncomputable def elemE (m : ModD) (x : ElemD) : Int := if 20 < (x.Funcs.length : Int) then 15 else whenE (m.Table = -1 ∨ (∃ f ∈ x.Funcs, ¬ InP f (countM m)) ∨ 4294967295 < x.At) 2
noncomputable def elemsE (m : ModD) : Int := manyE m.Elems.length 20 (onI m.Elems (elemE m))
open Classical in
noncomputable def dataE (m : ModD) (x : DataD) : Int := if 4096 < (x.Bytes.length : Int) then 15 else
 whenE (¬ InP x.Mem m.Mems.length ∨ (∃ y, m.Mems[x.Mem.toNat]? = some y ∧ ¬ y.Wide ∧ 4294967295 < x.At)) 2
noncomputable def datasE (m : ModD) : Int := manyE m.Datas.length 20 (onI m.Datas (dataE m))
end Go.Hl
namespace Go.Hl
theorem ptrV_len {cs : List VP} {S : BS} {w : World} {v : Value} (h : (ptrV cs).p S w v) {α : Type} {n : Nat} {enc : α → List VP} {xs : List α} (j : Nat) (hj : cs[j]? = some (sliceV n enc xs)) : xs.length ≤ 281474976710656 := by
 obtain ⟨b, off, _, _, hc⟩ := h
 obtain ⟨u, _, hq⟩ := hc j _ hj
 exact sliceV_len hq
theorem aggV_len {cs : List VP} {S : BS} {w : World} {v : Value} (h : (aggV cs).p S w v) {α : Type} {n : Nat} {enc : α → List VP} {xs : List α} (j : Nat) (hj : cs[j]? = some (sliceV n enc xs)) : xs.length ≤ 281474976710656 := by
 obtain ⟨arr, _, _, hc⟩ := h
 obtain ⟨u, _, hq⟩ := hc j _ hj
 exact sliceV_len hq
theorem ptrV_in {q : VP} {S : BS} {w : World} {v : Value} (h : (ptrV [q]).p S w v) : ∃ u, q.p S w u := by
 obtain ⟨b, off, _, _, hc⟩ := h
 obtain ⟨u, _, hq⟩ := hc 0 _ rfl
 exact ⟨u, hq⟩
structure ModLens (m : ModD) : Prop where
 sigs : m.Sigs.length ≤ 281474976710656
 imports : m.Imports.length ≤ 281474976710656
 funcs : m.Funcs.length ≤ 281474976710656
 mems : m.Mems.length ≤ 281474976710656
 globals : m.Globals.length ≤ 281474976710656
 exports : m.Exports.length ≤ 281474976710656
 elems : m.Elems.length ≤ 281474976710656
 datas : m.Datas.length ≤ 281474976710656
theorem modLens {m : ModD} {S : BS} {w : World} {v : Value} (h : (ptrV (encMod m)).p S w v) : ModLens m :=
 ⟨ptrV_len h 0 rfl, ptrV_len h 1 rfl, ptrV_len h 2 rfl, ptrV_len h 4 rfl, ptrV_len h 5 rfl, ptrV_len h 6 rfl, ptrV_len h 8 rfl, ptrV_len h 9 rfl⟩
theorem modLens2 {m : ModD} {S : BS} {w : World} {v : Value} (h : (ptrV [ptrV (encMod m)]).p S w v) : ModLens m := let ⟨_, h⟩ := ptrV_in h; modLens h
end Go.Hl
namespace Go.Hl
theorem named_bad {l : List UInt8} {k : Nat} {x : UInt8} (hx : l[k]? = some x) (h : (x.toNat : Int) < 33 ∨ 126 < (x.toNat : Int)) : NamedP l ↔ False := by
 constructor
 · intro hn; have := hn.1 x (List.mem_of_getElem? hx); omega
 · exact False.elim
theorem named_all {l : List UInt8} (h : ∀ x ∈ l, ¬ ((x.toNat : Int) < 33 ∨ 126 < (x.toNat : Int))) : ∀ b ∈ l, 33 ≤ b.toNat ∧ b.toNat ≤ 126 := fun b hb => by have := h b hb; omega
theorem named_iff {l : List UInt8} (h : ∀ x ∈ l, ¬ ((x.toNat : Int) < 33 ∨ 126 < (x.toNat : Int))) : (l ≠ [] ∧ (l.length : Int) ≤ 30) ↔ NamedP l := by
 have := named_all h
 unfold NamedP
 constructor
 · rintro ⟨h1, h2⟩; exact ⟨this, h1, by omega⟩
 · rintro ⟨_, h1, h2⟩; exact ⟨h1, by omega⟩
end Go.Hl
namespace Go.Hl
theorem numberO_import {m : ModD} {j : Nat} {x : ImportD} (hj : j < m.Imports.length) (hx : m.Imports[j]? = some x) : numberO m (j : Int) = some x.Sig := by
 unfold numberO countM
 rw [if_neg (by omega), if_pos (by omega)]
 simp [hx]
theorem numberO_func {m : ModD} {j : Nat} {x : FuncD} (hx : m.Funcs[j]? = some x) : numberO m ((m.Imports.length : Int) + (j : Int)) = some x.Sig := by
 have := (List.getElem?_eq_some_iff.1 hx).1
 unfold numberO countM
 rw [if_neg (by omega), if_neg (by omega)]
 rw [show ((m.Imports.length : Int) + (j : Int) - (m.Imports.length : Int)).toNat = j by omega]
 simp [hx]
theorem sigO_none {m : ModD} {f : Int} (h : ¬ (numberO m f).isSome ∨ ¬ InP ((numberO m f).getD 0) m.Sigs.length) : sigO m f = none := by
 unfold sigO
 cases hn : numberO m f with
 | none => rfl
 | some n =>
  rw [hn] at h
  simp only [Option.isSome_some, not_true, false_or, Option.getD_some] at h
  unfold InP at h
  simp only
  split
  · rw [List.getElem?_eq_none (by omega)]
  · rfl
theorem sigO_some {m : ModD} {f n : Int} {j : Nat} {x : SigD} (hn : numberO m f = some n) (hj : n = (j : Int)) (hx : m.Sigs[j]? = some x) : sigO m f = some x := by
 unfold sigO
 rw [hn]; subst hj; simp [hx]
theorem VLe.agg2 {a b c d : VP} (h1 : VLe a c) (h2 : VLe b d) : VLe (aggV [a, b]) (aggV [c, d]) := fun S w v ⟨arr, hv, hn, hc⟩ => ⟨arr, hv, hn, fun j q hj => by
 match j, hj with
 | 0, hj => simp at hj; subst hj; obtain ⟨u, hu, hq⟩ := hc 0 a rfl; exact ⟨u, hu, h1 _ _ _ hq⟩
 | 1, hj => simp at hj; subst hj; obtain ⟨u, hu, hq⟩ := hc 1 b rfl; exact ⟨u, hu, h2 _ _ _ hq⟩⟩
theorem startE_none {m : ModD} (h0 : ¬ m.Start = -1) (h : ¬ (sigO m m.Start).isSome) : startE m = 2 := by
 unfold startE
 rw [if_neg h0]
 cases hs : sigO m m.Start with
 | none => rfl
 | some s => rw [hs] at h; simp at h
theorem startE_some {m : ModD} (h0 : ¬ m.Start = -1) (h : ¬ ¬ (sigO m m.Start).isSome) : startE m = whenE (0 < ((((sigO m m.Start).getD ⟨[], []⟩).P.length : Int) + (((sigO m m.Start).getD ⟨[], []⟩).R.length : Int))) 5 := by
 unfold startE
 rw [if_neg h0]
 cases hs : sigO m m.Start with
 | none => rw [hs] at h; simp at h
 | some s => rfl
end Go.Hl
namespace Go.Hl
theorem cnt_at (m : ModD) (j : Nat) (hj : j < 4) : [intV .i64 (cnt m 0), intV .i64 (cnt m 1), intV .i64 (cnt m 2), intV .i64 (cnt m 3)][j]? = some (intV .i64 (cnt m j)) := by
 match j, hj with
 | 0, _ => rfl
 | 1, _ => rfl
 | 2, _ => rfl
 | 3, _ => rfl
theorem exportE_name {m : ModD} {i : Nat} {x : ExportD} (hx : m.Exports[i]? = some x) (h : ¬ NamedP x.Name ∨ ∃ y ∈ m.Exports.take i, y.Name = x.Name) : exportE m i = 16 := by
 unfold exportE; rw [hx]; simp only; rw [if_pos h]
theorem exportE_rest {m : ModD} {i : Nat} {x : ExportD} (hx : m.Exports[i]? = some x) (h : ¬ (¬ NamedP x.Name ∨ ∃ y ∈ m.Exports.take i, y.Name = x.Name)) : exportE m i = whenE (¬ InP x.Kind 4 ∨ ¬ InP x.Index (cnt m (kindJ x.Kind))) 2 := by
 unfold exportE; rw [hx]; simp only; rw [if_neg h]
 congr 1; unfold ExportP; exact propext (by rw [Classical.not_and_iff_not_or_not])
theorem elemE_rest {m : ModD} {x : ElemD} (h : ¬ 20 < (x.Funcs.length : Int)) : elemE m x = whenE ((m.Table = -1 ∨ ∃ f ∈ x.Funcs, ¬ InP f (countM m)) ∨ 4294967295 < x.At) 2 := by
 unfold elemE; rw [if_neg h]; congr 1; exact propext (by rw [or_assoc])
theorem data_at {x : DataD} {n : Nat} (h : InP x.Mem n) : max (min x.Mem ((n : Int) - 1)) 0 = (x.Mem.toNat : Int) := by
 obtain ⟨h1, h2⟩ := h; omega
end Go.Hl
namespace Go.Hl
def memAt (m : ModD) (k : Nat) : LimitsD := (m.Mems[k]?).getD ⟨0, 0, False⟩
theorem data_mem {m : ModD} {x : DataD} (h : InP x.Mem m.Mems.length) : m.Mems[x.Mem.toNat]? = some (memAt m x.Mem.toNat) := by
 obtain ⟨h1, h2⟩ := h
 obtain ⟨y, hy⟩ := getElem?_lt (xs := m.Mems) (k := x.Mem.toNat) (by omega)
 unfold memAt; rw [hy]; rfl
theorem dataE_rest {m : ModD} {x : DataD} (h : ¬ 4096 < (x.Bytes.length : Int)) : dataE m x = whenE (¬ InP x.Mem m.Mems.length ∨ ¬ (memAt m x.Mem.toNat).Wide ∧ 4294967295 < x.At) 2 := by
 unfold dataE; rw [if_neg h]; congr 1; apply propext
 by_cases hi : InP x.Mem m.Mems.length
 · have := data_mem hi
   simp only [hi, not_true, false_or, this, Option.some.injEq, exists_eq_left']
 · simp only [hi, not_false_iff, true_or]
end Go.Hl
end
section
namespace Go.Proofs.YtgboekefmedapaaGreatDoor
open Go.Hl
def encPart (p : List UInt8 × Int) : List VP := [strV p.1, funV Tryz.prog (fun _ : Unit => True) (fun _ => []) (fun _ => intV .i64 p.2)]
instance : Enc 2 encPart := ⟨fun _ => rfl, fun x q h => by simp only [encPart, List.mem_cons, List.not_mem_nil, or_false] at h; rcases h with h | h <;> rw [h] <;> infer_instance⟩
instance (x : List UInt8 × Int) : FlatL (encPart x) := FlatL.of x
noncomputable def partsM (m : ModD) : List (List UInt8 × Int) := [([115, 105, 103, 115], sigsE m), ([105, 109, 112, 111, 114, 116, 115], importsE m), ([102, 117, 110, 99, 115], funcsE m), ([116, 97, 98, 108, 101], tableE m), ([109, 101, 109, 115], memsE m), ([103, 108, 111, 98, 97, 108, 115], globalsE m), ([101, 120, 112, 111, 114, 116, 115], exportsE m), ([115, 116, 97, 114, 116], startE m), ([101, 108, 101, 109, 115], elemsE m), ([100, 97, 116, 97], datasE m)]
noncomputable def fitP (m : ModD) : List UInt8 × Int := ((partsM m).find? fun p => p.2 != 0).getD ([], 0)
variable {m : ModD}
theorem fit_at {k : Nat} {p : List UInt8 × Int} (h : NotB (fun p : List UInt8 × Int => p.2 ≠ 0) (partsM m) k) (hp : (partsM m)[k]? = some p) (hn : p.2 ≠ 0) : fitP m = p := by
 unfold fitP
 have key : ∀ (l : List (List UInt8 × Int)) (k : Nat), NotB (fun p : List UInt8 × Int => p.2 ≠ 0) l k → l[k]? = some p → l.find? (fun p => p.2 != 0) = some p := by
  intro l
  induction l with
  | nil => intro k _ h; simp at h
  | cons x l ih =>
   intro k h hk
   cases k with
   | zero => simp at hk; subst hk; simp [hn]
   | succ k =>
    have h0 := h 0 x (by omega) rfl
    simp only [ne_eq, Classical.not_not] at h0
    rw [List.find?_cons_of_neg (by simp [h0])]
    exact ih k (fun j y hj hy => h (j + 1) y (by omega) (by simpa using hy)) (by simpa using hk)
 rw [key _ k h hp]; rfl
theorem fit_none (h : ∀ p ∈ partsM m, ¬ p.2 ≠ 0) : fitP m = ([], 0) := by
 unfold fitP
 rw [List.find?_eq_none.2 (fun p hp => by have := h p hp; simpa using this)]; rfl
theorem parts_len : (partsM m).length = 10 := rfl
end Go.Proofs.YtgboekefmedapaaGreatDoor
end
section
namespace Go.Hl
open Go.RowKit
section
variable {P : Program} {hs : List HP} {env : Env} {q : VP} {dst : Option Tmp} {ty T T' E : TypeId} {pos : String} {after : Array Edge} {gd : Option (Nat × Bool)} {x y z : Operand}
theorem opBound {f : FuncId} {v : Value} (hx : Opd env x (exactV v)) : OpP P hs env ⟨dst, .makeFunc (.func f) #[x] #[], ty, pos, after, gd⟩ (exactV (.func (.func f) #[v] #[])) := by
 intro a w S F _ _ _ _ he K Q hk
 unfold Oper.wp
 have hv := hx S w a he; simp only [exactV] at hv
 exact hk _ w S (Grow.refl _ _) (by simp [exactV, hv])
theorem opCallXE {f : FuncId} {v : Value} {ats : Array TypeId} {hs0 rest : List HP} {γ : Type} {φ : γ → Prop} {hs' : γ → List HP} {q : γ → VP} (hf : FnE P f [exactV v] hs0 φ hs' q) (hb : callB P f = true) (hx : Opd env x (exactV (.func (.func f) #[v] #[]))) (hp : hs.Perm (hs0 ++ rest)) :
    OpE P hs env ⟨dst, .call ⟨.value x, #[], ats⟩, ty, pos, after, gd⟩ φ (fun g => hs' g ++ rest) q := by
  intro c a w S F hsit hown he K Q hk
  have h0 := opCallE (xs := [.const v]) (ats := ats) (dst := dst) (ty := ty) (pos := pos) (after := after) (gd := gd) hf hb (.cons (.c _) .nil) hp c a w S F hsit hown he K Q hk
  have hv := hx S w a he; simp only [exactV] at hv
  unfold Oper.wp at h0 ⊢
  rw [run_call hb] at h0
  have e : (execOp a.eval ⟨dst, .call ⟨.value x, #[], ats⟩, ty, pos, after, gd⟩).run P w = .ok (.enter f #[v]) w := by
    have h := run_callFunc hb #[v] w
    simp [execOp, resolve, hv, Deferred.ofValue, invoke] at h ⊢; exact h
  rw [e]
  exact h0
end
def modS : ModD := ⟨[], [], [], -1, [], [⟨127, False, 5⟩, ⟨126, False, 6⟩], [], -1, [], []⟩
instance (m : ModD) : FlatL (encMod m) := by unfold encMod; infer_instance
abbrev stH (sb : Nat) (X : ArI) (pb : Nat) (g t : Int) : HP := cellsH sb [ptrV (encMod modS), addrV X.ab 0, addrV pb 0, intV .i64 0, intV .i64 g, intV .i64 t, exactV (.slice none 0 0), propV False]
abbrev bndV (f sb : Nat) : VP := exactV (.func (.func f) #[.pointer (some ⟨sb, 0, none⟩)] #[])
theorem put_set {l : List UInt8} {at_ w k v : Nat} (hl : at_ + w ≤ l.length) (hk : k < w) : (l.take at_ ++ leL v k ++ l.drop (at_ + k)).set (at_ + k) (leB v k) = l.take at_ ++ leL v (k + 1) ++ l.drop (at_ + (k + 1)) := by
 have h1 : (l.take at_ ++ leL v k).length = at_ + k := by rw [List.length_append, leL_len, List.length_take]; omega
 have h2 : l.drop (at_ + k) = l[at_ + k]'(by omega) :: l.drop (at_ + k + 1) := List.drop_eq_getElem_cons (by omega)
 rw [List.set_append_right _ _ (by omega), h1, Nat.sub_self, h2, List.set_cons_zero]
 have h3 : leL v (k + 1) = leL v k ++ [leB v k] := by unfold leL; rw [List.range_succ, List.map_append]; rfl
 rw [h3]
 simp only [List.append_assoc, List.singleton_append]
 rfl
theorem leB_wrap (v k : Nat) : IntKind.u8.wrap ((v / 2 ^ (8 * k) : Nat) : Int) = ((leB v k).toNat : Int) := by
 have e : ∀ n : Int, IntKind.u8.wrap n = n % 256 := fun _ => rfl
 rw [e]
 unfold leB
 rw [UInt8.toNat_ofNat']
 omega
theorem get_or {l : List UInt8} {at_ k : Nat} {c : UInt8} (hc : l[at_ + k]? = some c) (hk : k < 8) : ((leN ((l.drop at_).take k)) ||| (c.toNat * 2 ^ (8 * k) % 18446744073709551616)) = leN ((l.drop at_).take (k + 1)) ∧ leN ((l.drop at_).take k) < 18446744073709551616 := by
 have hd : (l.drop at_)[k]? = some c := by rw [List.getElem?_drop]; exact hc
 have hlen : ((l.drop at_).take k).length = k := by
  have := (List.getElem?_eq_some_iff.1 hd).1
  rw [List.length_take]; omega
 have h1 := leN_lt ((l.drop at_).take k)
 rw [hlen] at h1
 have h2 : 2 ^ (8 * k) ≤ 2 ^ 56 := Nat.pow_le_pow_right (by decide) (by omega)
 have h3 := c.toNat_lt
 have h4 : c.toNat * 2 ^ (8 * k) ≤ 255 * 2 ^ 56 := Nat.mul_le_mul (by omega) h2
 refine ⟨?_, by omega⟩
 rw [Nat.mod_eq_of_lt (by omega)]
 have h5 := leN_or ((l.drop at_).take k) c
 rw [hlen] at h5
 rw [h5, ← take_snoc hd]
def arZ : ArD := ⟨List.replicate 1000 0, 0, 0, []⟩
def arS : ArD := ⟨List.replicate 1000 0, 32, 32, [(0, 16), (16, 16)]⟩
def arK : Nat → ArD
 | 0 => arS
 | 1 => arS.put 0 (leL 5 8)
 | _ => (arS.put 0 (leL 5 8)).put 8 (leL 6 8)
instance : DecidableEq ArD := fun a b => decidable_of_iff (a.bytes = b.bytes ∧ a.height = b.height ∧ a.live = b.live ∧ a.taken = b.taken) ⟨fun h => by cases a; cases b; simp_all, fun h => by subst h; simp⟩
theorem take1 : takeF 1000 arZ 16 = (⟨List.replicate 1000 0, 16, 16, [(0, 16)]⟩, 0, 0) := by decide +kernel
theorem take2 : takeF 1000 ⟨List.replicate 1000 0, 16, 16, [(0, 16)]⟩ 0 = (arS, 16, 0) := by decide +kernel
theorem get6 : leN (((arK 2).bytes.drop 8).take 8) = 6 := by decide +kernel
theorem arK_ok {X : ArI} (h : X.size = 1000) (k : Nat) : ArOk X (arK k) := by
 match k with
 | 0 => exact ⟨by rw [h]; exact List.length_replicate, by rw [h]; decide, by rw [h]; decide, by decide⟩
 | 1 => exact ⟨by rw [h]; decide +kernel, by rw [h]; decide, by rw [h]; decide, by decide⟩
 | k + 2 => exact ⟨by rw [h]; show ((arS.put 0 (leL 5 8)).put 8 (leL 6 8)).bytes.length = 1000; decide +kernel, by rw [h]; show (32 : Nat) ≤ 1000; decide, by rw [h]; decide, by show (32 : Nat) ≤ 32; decide⟩
theorem arZ_ok {X : ArI} (h : X.size = 1000) : ArOk X arZ := ⟨by rw [h]; exact List.length_replicate, by rw [h]; decide, by rw [h]; decide, by decide⟩
theorem arM_ok {X : ArI} (h : X.size = 1000) : ArOk X ⟨List.replicate 1000 0, 16, 16, [(0, 16)]⟩ := ⟨by rw [h]; exact List.length_replicate, by rw [h]; decide, by rw [h]; decide, by decide⟩
theorem glS {k : Nat} (h : k < 2) : ∃ (gl : GlobalD) (v : Nat), modS.Globals[k]? = some gl ∧ gl.Value = (v : Int) ∧ v < 4294967296 ∧ (arK k).put (8 * k) (leL v 8) = arK (k + 1) := by
 match k, h with
 | 0, _ => exact ⟨_, 5, rfl, rfl, by decide, rfl⟩
 | 1, _ => exact ⟨_, 6, rfl, rfl, by decide, rfl⟩
def encVf (x : List UInt8 × Int × Int × Int) : List VP := [strV x.1, intV .i64 x.2.1, intV .i64 x.2.2.1, intV .i64 x.2.2.2]
instance : Enc 4 encVf := ⟨fun _ => rfl, fun x q h => by simp only [encVf, List.mem_cons, List.not_mem_nil, or_false] at h; rcases h with h | h | h | h <;> rw [h] <;> infer_instance⟩
instance (x : List UInt8 × Int × Int × Int) : FlatL (encVf x) := FlatL.of x
end Go.Hl
namespace Go.Proofs.YtgboekefmedapaaGreatDoor
open Go.Hl
theorem fit_modS : fitP modS = ([], 0) := by
 refine fit_none fun p hp => ?_
 simp only [partsM, List.mem_cons, List.not_mem_nil, or_false] at hp
 simp only [ne_eq, Classical.not_not]
 rcases hp with rfl | rfl | rfl | rfl | rfl | rfl | rfl | rfl | rfl | rfl <;> simp [modS, sigsE, importsE, funcsE, tableE, memsE, globalsE, exportsE, startE, elemsE, datasE, manyE, firstE, countM, whenE, onI, sigE, funcE, RightP, TypedP, InP, globalE, bitsI]
end Go.Proofs.YtgboekefmedapaaGreatDoor
end
section
namespace Go.Proofs.YtgboekefmedapaaGreatDoor
open Go.Hl Go.RowKit
variable {X : ArI} {a : ArD} {at_ : Nat} {w : Nat}
theorem aword_spec (hp0 : ArOk X a) (hp1 : at_ + w ≤ X.size) (hp2 : w = 8 ∨ w = 4) : FnE Tryz.prog 33 [addrV X.ab 0, intV .i64 ((at_ : Int)), intV .i64 ((w : Int))] (arenaL X a) (γ := Unit) (fun _ => True) (fun _ => arenaL X a) (fun _ => tupV [subV X.db at_ w, intV .i64 0]) := by
 refine In 32 Tryz.func33 fun _ _ _ => ?_
 refine Z10 ?_
 refine .p (opNeqNilO FU.out (.t rfl)) rfl ?_
 refine Z18 ?_
 refine Cd (fun c0 => ?_) fun c0 => ?_
 · exfalso; omega
 refine Z7 ?_
 refine .n (cE (h := apart_spec (at_ := at_) (n := w) hp0 hp1)) rfl fun g29 h29 => ?_
 refine Z7 ?_
 refine Rt2 ?_ ?_
 · first | exact VLe.refl _ | exact VLe.int (by omega) | exact VLe.prop (by omega) | exact VLe.prop (by simp_all) | exact VLe.prop (by simp; omega)
 first | exact VLe.refl _ | exact VLe.int (by omega) | exact VLe.prop (by omega) | exact VLe.prop (by simp_all) | exact VLe.prop (by simp; omega)
variable {v : Nat}
theorem aput_spec (hp0 : ArOk X a) (hp1 : at_ + w ≤ X.size) (hp2 : w = 8 ∨ w = 4) (hp3 : v < 18446744073709551616) : FnE Tryz.prog 27 [addrV X.ab 0, intV .i64 ((at_ : Int)), intV .i64 ((w : Int)), intV .u64 (v : Int)] (arenaL X a) (γ := Unit) (fun _ => True) (fun _ => arenaL X (a.put at_ (leL v w))) (fun _ => intV .i64 0) := by
 refine In 34 Tryz.func27 fun _ _ _ => ?_
 have hk3 := hp0.len
 have hk2 := hp0.most
 refine Z10 ?_
 refine .n (cE (h := aword_spec (at_ := at_) (w := w) hp0 hp1 hp2)) rfl fun g16 h16 => ?_
 refine Z11 ?_
 refine .p (opLenSub rfl Tryz.underlying67 (.t rfl)) rfl ?_
 refine Z4 ?_
 refine .loopO (σ := Nat) (fun k => arenaL X (a.put at_ (leL v k))) (fun k => [(21, intV .i64 (k : Int))]) (fun k => k ≤ w) (fun k => w - k) 0 (Nat.zero_le _) (by show arenaL X a = arenaL X (a.put at_ []); unfold ArD.put; simp only [List.append_nil, List.length_nil, Nat.add_zero, List.take_append_drop]) ?_ ?_
 · exact (.get rfl (VLe.refl _) (.refl _ _))
 rintro k hk
 refine Z6 ?_
 refine Cd (fun c0 => ?_) fun c0 => ?_
 ·
  refine Z16 ?_
  refine .p (opShrN (s := 8 * k) (.t rfl) (.le (.t rfl) (VLe.int (by omega))) (by show 8 * k ≤ 64; omega)) rfl ?_
  refine .p ((opConv FU.out FU.out (.t rfl)).le (VLe.int (leB_wrap v k))) rfl ?_
  refine .p (opIndexSub (j := k) FU.out FC.out (.t rfl) (.t rfl) rfl (by omega)) rfl ?_
  refine .s (opStoreB (i := 1) (leB v k) FC.out (.t rfl) (.t rfl) rfl (by unfold ArD.put; simp only [List.length_append, leL_len, List.length_take, List.length_drop]; omega)) ?_
  refine Z7 ?_
  refine .round (k + 1) (by omega) (by omega) (by unfold ArD.put; simp only [leL_len, ← put_set (v := v) (show at_ + w ≤ a.bytes.length by omega) (show k < w by omega)]; rfl) ?_
  exact (.get rfl (VLe.int (by (show (k : Int) + 1 = ((k + 1 : Nat) : Int); omega))) ((.keep 14 rfl rfl)))
 have hke : k = w := by omega
 subst hke
 refine Z12 ?_
 refine Rt1 ?_
 first | exact VLe.refl _ | exact VLe.int (by omega) | exact VLe.prop (by omega) | exact VLe.prop (by simp_all) | exact VLe.prop (by simp; omega)
theorem aget_spec (hp0 : ArOk X a) (hp1 : at_ + w ≤ X.size) (hp2 : w = 8 ∨ w = 4) : FnE Tryz.prog 18 [addrV X.ab 0, intV .i64 ((at_ : Int)), intV .i64 ((w : Int))] (arenaL X a) (γ := Unit) (fun _ => True) (fun _ => arenaL X a) (fun _ => tupV [intV .u64 (leN ((a.bytes.drop at_).take w) : Int), intV .i64 0]) := by
 refine In 39 Tryz.func18 fun _ _ _ => ?_
 have hk3 := hp0.len
 have hk2 := hp0.most
 refine Z11 ?_
 refine .n (cE (h := aword_spec (at_ := at_) (w := w) hp0 hp1 hp2)) rfl fun g17 h17 => ?_
 refine Z14 ?_
 refine Cd (fun c0 => ?_) fun c0 => ?_
 · exact absurd rfl c0
 refine Z11 ?_
 refine .p (opLenSub rfl Tryz.underlying67 (.t rfl)) rfl ?_
 refine Z4 ?_
 refine .loopO (σ := Nat) (fun _ => arenaL X a) (fun k => [(10, intV .u64 (leN ((a.bytes.drop at_).take k) : Int)), (25, intV .i64 (k : Int))]) (fun k => k ≤ w) (fun k => w - k) 0 (Nat.zero_le _) rfl ?_ ?_
 · exact (.get rfl (VLe.refl _) (.get rfl (VLe.refl _) (.refl _ _)))
 rintro k hk
 refine Z6 ?_
 refine Cd (fun c1 => ?_) fun c1 => ?_
 ·
  obtain ⟨c, hc⟩ := getElem?_lt (xs := a.bytes) (k := at_ + k) (by omega)
  have hcs := get_or hc (by omega)
  have hcl := c.toNat_lt
  refine Z7 ?_
  refine .p (opIndexSub (j := k) FU.out FC.out (.t rfl) (.t rfl) rfl (by omega)) rfl ?_
  refine .p (opLoadB (i := 1) FA.out (.t rfl) rfl hc) rfl ?_
  refine Z10 ?_
  refine .p (opShl_u64 (.t rfl) (.le (.t rfl) (VLe.int (show _ = ((8 * k : Nat) : Int) by omega))) (by omega)) rfl ?_
  refine .p ((opOr_u64 hcs.2 (by omega) (.t rfl) (.t rfl)).le (VLe.int (by rw [hcs.1]))) rfl ?_
  refine Z8 ?_
  refine .round (k + 1) (by omega) (by omega) rfl ?_
  exact (.get rfl (VLe.refl _) (.get rfl (VLe.int (by (show (k : Int) + 1 = ((k + 1 : Nat) : Int); omega))) ((.keep 18 rfl rfl))))
 have hke : k = w := by omega
 subst hke
 refine Z13 ?_
 refine Rt2 ?_ ?_
 · first | exact VLe.refl _ | exact VLe.int (by omega) | exact VLe.prop (by omega) | exact VLe.prop (by simp_all) | exact VLe.prop (by simp; omega)
 first | exact VLe.refl _ | exact VLe.int (by omega) | exact VLe.prop (by omega) | exact VLe.prop (by simp_all) | exact VLe.prop (by simp; omega)
theorem has_spec {n m : Int} : FnP Tryz.prog 102 [intV .i64 n, intV .i64 m] (propV (InP n m)) := by
 refine In 12 Tryz.func102 fun _ _ _ => ?_
 refine Z18 ?_
 refine Rt1 ?_
 first | exact VLe.refl _ | exact VLe.int (by omega) | exact VLe.prop (by omega) | exact VLe.prop (by simp_all) | exact VLe.prop (by simp; omega)
theorem when_spec {p : Prop} {e : Int} : FnP Tryz.prog 98 [propV p, intV .i64 e] (intV .i64 (whenE p e)) := by
 refine In 7 Tryz.func98 fun _ _ _ => ?_
 refine Z11 ?_
 refine Cd (fun c0 => ?_) fun c0 => ?_
 ·
  refine Z8 ?_
  refine Rt1 ?_
  exact VLe.int (by simp [whenE, *])
 refine Z8 ?_
 refine Rt1 ?_
 exact VLe.int (by simp [whenE, *])
theorem bits_spec {t : UInt8} : FnP Tryz.prog 29 [intV .u8 (t.toNat : Int)] (intV .i64 (bitsI t)) := by
 refine In 8 Tryz.func29 fun _ _ _ => ?_
 refine Z18 ?_
 refine Cd (fun c0 => ?_) fun c0 => ?_
 ·
  refine Z8 ?_
  refine Rt1 ?_
  exact VLe.int (by simp [bitsI, *])
 refine Z6 ?_
 refine Cd (fun c1 => ?_) fun c1 => ?_
 ·
  refine Z8 ?_
  refine Rt1 ?_
  exact VLe.int (by simp [bitsI, *])
 refine Z9 ?_
 refine Rt1 ?_
 exact VLe.int (by simp [bitsI, *])
theorem fewc_spec {t : UInt8} : FnP Tryz.prog 159 [intV .u8 (t.toNat : Int)] (propV (bitsI t = 0)) := by
 refine In 6 Tryz.func159 fun _ _ _ => ?_
 refine Z8 ?_
 refine .p (cA (h := bits_spec)) rfl ?_
 refine Z5 ?_
 refine Rt1 ?_
 first | exact VLe.refl _ | exact VLe.int (by omega) | exact VLe.prop (by omega) | exact VLe.prop (by simp_all) | exact VLe.prop (by simp; omega)
variable {l : List UInt8}
theorem idxType_spec {p : UInt8 → Prop} : FnP Tryz.prog 184 [sliceV 1 encU8 l, funV Tryz.prog (fun _ : UInt8 => True) (fun x => [intV .u8 (x.toNat : Int)]) (fun x => propV (p x))] (intV .i64 (idxF p l)) := by
 refine In 19 Tryz.func184 fun _ _ _ => ?_
 refine .fact (t := 0) rfl (fun S w v h => sliceV_len h) fun hlen => ?_
 refine Z14 ?_
 refine .loopO (σ := Nat) (fun _ => []) (fun k => [(8, intV .i64 (k : Int))]) (fun k => k ≤ l.length ∧ NotB p l k) (fun k => l.length - k) 0 ⟨by omega, NotB.zero p l⟩ rfl ?_ ?_
 · exact (.get rfl (VLe.refl _) (.refl _ _))
 rintro k ⟨hk, hnot⟩
 refine Z6 ?_
 refine Cd (fun c0 => ?_) fun c0 => ?_
 ·
  obtain ⟨x, hx⟩ := getElem?_lt (xs := l) (k := k) (by omega)
  refine Z15 ?_
  refine .p (cI _) rfl ?_
  refine Z1 ?_
  refine .p (cV x) rfl ?_
  refine Z2 ?_
  refine Cd (fun c1 => ?_) fun c1 => ?_
  ·
   refine Z12 ?_
   refine Rt1 ?_
   exact VLe.int (idxF_at hx (by assumption) hnot).symm
  refine Z7 ?_
  refine .round (k + 1) ⟨by omega, hnot.succ hx (by assumption)⟩ (by omega) rfl ?_
  exact (.get rfl (VLe.int (by omega)) (.keep 12 rfl rfl))
 refine Z11 ?_
 refine Rt1 ?_
 exact VLe.int (idxF_none (hnot.all (by omega))).symm
theorem conType_spec {p : UInt8 → Prop} : FnP Tryz.prog 158 [sliceV 1 encU8 l, funV Tryz.prog (fun _ : UInt8 => True) (fun x => [intV .u8 (x.toNat : Int)]) (fun x => propV (p x))] (propV (∃ x ∈ l, p x)) := by
 refine In 9 Tryz.func158 fun _ _ _ => ?_
 refine Z9 ?_
 refine .p (cA (h := idxType_spec)) rfl ?_
 refine Z5 ?_
 refine Rt1 ?_
 exact VLe.prop idxF_nonneg
theorem idxInt_spec {l : List Int} {p : Int → Prop} : FnP Tryz.prog 134 [sliceV 1 encInt l, funV Tryz.prog (fun _ : Int => True) (fun x => [intV .i64 x]) (fun x => propV (p x))] (intV .i64 (idxF p l)) := by
 refine In 19 Tryz.func134 fun _ _ _ => ?_
 refine .fact (t := 0) rfl (fun S w v h => sliceV_len h) fun hlen => ?_
 refine Z14 ?_
 refine .loopO (σ := Nat) (fun _ => []) (fun k => [(8, intV .i64 (k : Int))]) (fun k => k ≤ l.length ∧ NotB p l k) (fun k => l.length - k) 0 ⟨by omega, NotB.zero p l⟩ rfl ?_ ?_
 · exact (.get rfl (VLe.refl _) (.refl _ _))
 rintro k ⟨hk, hnot⟩
 refine Z6 ?_
 refine Cd (fun c0 => ?_) fun c0 => ?_
 ·
  obtain ⟨x, hx⟩ := getElem?_lt (xs := l) (k := k) (by omega)
  refine Z15 ?_
  refine .p (cI _) rfl ?_
  refine Z1 ?_
  refine .p (cV x) rfl ?_
  refine Z2 ?_
  refine Cd (fun c1 => ?_) fun c1 => ?_
  ·
   refine Z12 ?_
   refine Rt1 ?_
   exact VLe.int (idxF_at hx (by assumption) hnot).symm
  refine Z7 ?_
  refine .round (k + 1) ⟨by omega, hnot.succ hx (by assumption)⟩ (by omega) rfl ?_
  exact (.get rfl (VLe.int (by omega)) (.keep 12 rfl rfl))
 refine Z11 ?_
 refine Rt1 ?_
 exact VLe.int (idxF_none (hnot.all (by omega))).symm
theorem conInt_spec {l : List Int} {p : Int → Prop} : FnP Tryz.prog 115 [sliceV 1 encInt l, funV Tryz.prog (fun _ : Int => True) (fun x => [intV .i64 x]) (fun x => propV (p x))] (propV (∃ x ∈ l, p x)) := by
 refine In 9 Tryz.func115 fun _ _ _ => ?_
 refine Z9 ?_
 refine .p (cA (h := idxInt_spec)) rfl ?_
 refine Z5 ?_
 refine Rt1 ?_
 exact VLe.prop idxF_nonneg
theorem idxExport_spec {l : List ExportD} {p : ExportD → Prop} : FnP Tryz.prog 132 [sliceV 3 encExport l, funV Tryz.prog (fun _ : ExportD => True) (fun x => [aggV (encExport x)]) (fun x => propV (p x))] (intV .i64 (idxF p l)) := by
 refine In 19 Tryz.func132 fun _ _ _ => ?_
 refine .fact (t := 0) rfl (fun S w v h => sliceV_len h) fun hlen => ?_
 refine Z14 ?_
 refine .loopO (σ := Nat) (fun _ => []) (fun k => [(8, intV .i64 (k : Int))]) (fun k => k ≤ l.length ∧ NotB p l k) (fun k => l.length - k) 0 ⟨by omega, NotB.zero p l⟩ rfl ?_ ?_
 · exact (.get rfl (VLe.refl _) (.refl _ _))
 rintro k ⟨hk, hnot⟩
 refine Z6 ?_
 refine Cd (fun c0 => ?_) fun c0 => ?_
 ·
  obtain ⟨x, hx⟩ := getElem?_lt (xs := l) (k := k) (by omega)
  refine Z15 ?_
  refine .p (cI _) rfl ?_
  refine Z1 ?_
  refine .p (cV x) rfl ?_
  refine Z2 ?_
  refine Cd (fun c1 => ?_) fun c1 => ?_
  ·
   refine Z12 ?_
   refine Rt1 ?_
   exact VLe.int (idxF_at hx (by assumption) hnot).symm
  refine Z7 ?_
  refine .round (k + 1) ⟨by omega, hnot.succ hx (by assumption)⟩ (by omega) rfl ?_
  exact (.get rfl (VLe.int (by omega)) (.keep 12 rfl rfl))
 refine Z11 ?_
 refine Rt1 ?_
 exact VLe.int (idxF_none (hnot.all (by omega))).symm
theorem conExport_spec {l : List ExportD} {p : ExportD → Prop} : FnP Tryz.prog 111 [sliceV 3 encExport l, funV Tryz.prog (fun _ : ExportD => True) (fun x => [aggV (encExport x)]) (fun x => propV (p x))] (propV (∃ x ∈ l, p x)) := by
 refine In 9 Tryz.func111 fun _ _ _ => ?_
 refine Z9 ?_
 refine .p (cA (h := idxExport_spec)) rfl ?_
 refine Z5 ?_
 refine Rt1 ?_
 exact VLe.prop idxF_nonneg
theorem few_spec : FnP Tryz.prog 131 [sliceV 1 encU8 l] (propV (TypedP l)) := by
 refine In 11 Tryz.func131 fun _ _ _ => ?_
 refine Z12 ?_
 refine .g (OpG.gT rfl rfl rfl rfl (fun hg => opCall (conType_spec) FB.out (.cons (.when (.t rfl) hg) (.cons (.le (.f _) (funV_of FB.out (fun (b : UInt8) (_ : True) => fewc_spec (t := b)))) .nil)))) rfl rfl ?_
 refine Z6 ?_
 refine Rt1 ?_
 exact VLe.prop typed_iff
theorem right_spec {s : SigD} : FnP Tryz.prog 99 [aggV (encSig s)] (propV (RightP s)) := by
 refine In 11 Tryz.func99 fun _ _ _ => ?_
 refine Z10 ?_
 refine .p (cA (h := few_spec)) rfl ?_
 refine Z3 ?_
 refine .g (OpG.gT rfl rfl rfl rfl (fun hg => opCall (few_spec) FB.out (.cons (.when (.t rfl) hg) .nil))) rfl rfl ?_
 refine Z5 ?_
 refine Rt1 ?_
 first | exact VLe.refl _ | exact VLe.int (by omega) | exact VLe.prop (by omega) | exact VLe.prop (by simp_all) | exact VLe.prop (by simp; omega)
theorem lright_spec {l : LimitsD} {most : Int} : FnP Tryz.prog 107 [aggV (encLimits l), intV .i64 most] (propV (LimitsP l most)) := by
 refine In 32 Tryz.func107 fun _ _ _ => ?_
 refine Z39 ?_
 refine Rt1 ?_
 exact VLe.prop (by unfold LimitsP; constructor <;> (intro h; omega))
theorem named_spec : FnP Tryz.prog 101 [strV l] (propV (NamedP l)) := by
 refine In 27 Tryz.func101 fun _ _ _ => ?_
 refine .fact (t := 0) rfl (fun S w v h => strV_len h) fun hlen => ?_
 refine Z14 ?_
 refine .loopO (σ := Nat) (fun _ => []) (fun k => [(6, intV .i64 (k : Int))]) (fun k => k ≤ l.length ∧ NotB (fun b : UInt8 => (b.toNat : Int) < 33 ∨ 126 < (b.toNat : Int)) l k) (fun k => l.length - k) 0 ⟨by omega, NotB.zero _ l⟩ rfl ?_ ?_
 · exact (.get rfl (VLe.refl _) (.refl _ _))
 rintro k ⟨hk, hnot⟩
 refine Z6 ?_
 refine Cd (fun c0 => ?_) fun c0 => ?_
 ·
  obtain ⟨x, hx⟩ := getElem?_lt (xs := l) (k := k) (by omega)
  refine Z14 ?_
  refine .p (opIndexS FU.out (.t rfl) (.t rfl) rfl (by assumption)) rfl ?_
  refine Z4 ?_
  refine .g (OpG.gF rfl rfl rfl rfl (fun hg => opIndexS FU.out (.when (.t rfl) hg) (.when (.t rfl) hg) rfl (by assumption))) rfl rfl ?_
  refine Z4 ?_
  refine Cd (fun c1 => ?_) fun c1 => ?_
  ·
   refine Z11 ?_
   refine Rt1 ?_
   exact VLe.prop (named_bad hx (by assumption)).symm
  refine Z7 ?_
  refine .round (k + 1) ⟨by omega, hnot.succ hx (by assumption)⟩ (by omega) rfl ?_
  exact (.get rfl (VLe.int (by omega)) (.keep 16 rfl rfl))
 refine Z8 ?_
 refine .p (opNeqS (.t rfl) (.s [] rfl rfl)) rfl ?_
 refine Z9 ?_
 refine Rt1 ?_
 exact VLe.prop (named_iff (hnot.all (by omega)))
theorem first_spec {n : Nat} {g : Nat → Int} (hp0 : n ≤ 281474976710656) : FnP Tryz.prog 104 [intV .i64 (n : Int), funV Tryz.prog (fun i : Nat => i < n) (fun i => [intV .i64 (i : Int)]) (fun i => intV .i64 (g i))] (intV .i64 (firstE g n)) := by
 refine In 18 Tryz.func104 fun _ _ _ => ?_
 refine Z13 ?_
 refine .loopO (σ := Nat) (fun _ => []) (fun k => [(8, intV .i64 (k : Int))]) (fun k => k ≤ n ∧ firstE g k = 0) (fun k => n - k) 0 ⟨by omega, rfl⟩ rfl ?_ ?_
 · exact (.get rfl (VLe.refl _) (.refl _ _))
 rintro k ⟨hk, hg⟩
 refine Z6 ?_
 refine Cd (fun c0 => ?_) fun c0 => ?_
 ·
  refine Z14 ?_
  refine .p (cV k (h := by show k < n; omega)) rfl ?_
  refine Z9 ?_
  refine Cd (fun c1 => ?_) fun c1 => ?_
  ·
   refine Z12 ?_
   refine Rt1 ?_
   exact VLe.int (firstE_at hg c1 (by omega)).symm
  refine Z7 ?_
  refine .round (k + 1) ⟨by omega, by simp only [firstE, hg]; simpa using c1⟩ (by omega) rfl ?_
  exact (.get rfl (VLe.int (by omega)) (.keep 12 rfl rfl))
 refine Z11 ?_
 refine Rt1 ?_
 exact VLe.int (by rw [show n = k by omega]; exact hg.symm)
theorem many_spec {n : Nat} {most : Int} {g : Nat → Int} (hp0 : n ≤ 281474976710656) : FnP Tryz.prog 96 [intV .i64 (n : Int), intV .i64 most, funV Tryz.prog (fun i : Nat => i < n) (fun i => [intV .i64 (i : Int)]) (fun i => intV .i64 (g i))] (intV .i64 (manyE n most g)) := by
 refine In 13 Tryz.func96 fun _ _ _ => ?_
 refine Z13 ?_
 refine Cd (fun c0 => ?_) fun c0 => ?_
 ·
  refine Z7 ?_
  refine Rt1 ?_
  exact VLe.int (by simp [manyE, *])
 refine Z6 ?_
 refine .p (cA (h := first_spec (by first | assumption | omega))) rfl ?_
 refine Z4 ?_
 refine Rt1 ?_
 exact VLe.int (by simp [manyE, *])
variable {m : ModD}
theorem count_spec : FnP Tryz.prog 103 [ptrV (encMod m)] (intV .i64 (countM m)) := by
 refine In 16 Tryz.func103 fun _ _ _ => ?_
 refine .fact (t := 0) rfl (fun S w v h => modLens h) fun hl => ?_
 have hl1 := hl.sigs; have hl2 := hl.imports; have hl3 := hl.funcs; have hl4 := hl.mems; have hl5 := hl.globals; have hl6 := hl.exports; have hl7 := hl.elems; have hl8 := hl.datas
 refine Z12 ?_
 refine Cd (fun c0 => ?_) fun c0 => ?_
 · exact c0.elim
 refine Z3 ?_
 refine .drawK 10 2 FM.out (by kernel_rfl) (k := ?_)
 refine Z16 ?_
 refine Rt1 ?_
 first | exact VLe.refl _ | exact VLe.int (by omega) | exact VLe.prop (by omega) | exact VLe.prop (by simp_all) | exact VLe.prop (by simp; omega)
variable {i : Nat}
theorem sigsc_spec (hp0 : i < m.Sigs.length) : FnP Tryz.prog 97 [intV .i64 (i : Int), ptrV [ptrV (encMod m)]] (intV .i64 (onI m.Sigs sigE i)) := by
 refine In 14 Tryz.func97 fun _ _ _ => ?_
 refine .fact (t := 1) rfl (fun S w v h => modLens2 h) fun hl => ?_
 have hl1 := hl.sigs; have hl2 := hl.imports; have hl3 := hl.funcs; have hl4 := hl.mems; have hl5 := hl.globals; have hl6 := hl.exports; have hl7 := hl.elems; have hl8 := hl.datas
 obtain ⟨x, hx⟩ := getElem?_lt hp0
 refine Z12 ?_
 refine .p (cI _) rfl ?_
 refine Z1 ?_
 refine .p (cA (h := right_spec)) rfl ?_
 refine Z1 ?_
 refine .p (cA (h := when_spec)) rfl ?_
 refine Z4 ?_
 refine Rt1 ?_
 exact VLe.int (by rw [onI_eq hx]; rfl)
theorem importsc_spec (hp0 : i < m.Imports.length) : FnP Tryz.prog 100 [intV .i64 (i : Int), ptrV [ptrV (encMod m)]] (intV .i64 (onI m.Imports (importE m) i)) := by
 refine In 32 Tryz.func100 fun _ _ _ => ?_
 refine .fact (t := 1) rfl (fun S w v h => modLens2 h) fun hl => ?_
 have hl1 := hl.sigs; have hl2 := hl.imports; have hl3 := hl.funcs; have hl4 := hl.mems; have hl5 := hl.globals; have hl6 := hl.exports; have hl7 := hl.elems; have hl8 := hl.datas
 obtain ⟨x, hx⟩ := getElem?_lt hp0
 refine Z12 ?_
 refine .p (cI _) rfl ?_
 refine Z1 ?_
 refine .n (opAlloc FZ.out) rfl fun b4 _ => ?_
 refine Z3 ?_
 refine .share (t := 4) (i := 0) rfl rfl ?_
 refine Z5 ?_
 refine .p (cA (h := named_spec)) rfl ?_
 refine Z4 ?_
 refine .g (OpG.gF rfl rfl rfl rfl (fun hg => opCall (named_spec) FB.out (.cons (.when (.t rfl) hg) .nil))) rfl rfl ?_
 refine Z4 ?_
 refine Cd (fun c0 => ?_) fun c0 => ?_
 ·
  refine Z7 ?_
  refine Rt1 ?_
  exact VLe.int (by rw [onI_eq hx]; simp only [importE]; first | rw [if_pos (by assumption)] | rw [if_neg (by assumption)])
 refine Z3 ?_
 refine .drawK 7 4 FM.out (by kernel_rfl) (k := ?_)
 refine Z8 ?_
 refine .p (cA (h := has_spec)) rfl ?_
 refine Z1 ?_
 refine .p (cA (h := when_spec)) rfl ?_
 refine Z4 ?_
 refine Rt1 ?_
 exact VLe.int (by rw [onI_eq hx]; simp only [importE]; first | rw [if_pos (by assumption)] | rw [if_neg (by assumption)])
theorem funcsc_spec (hp0 : i < m.Funcs.length) : FnP Tryz.prog 105 [intV .i64 (i : Int), ptrV [ptrV (encMod m)]] (intV .i64 (onI m.Funcs (funcE m) i)) := by
 refine In 20 Tryz.func105 fun _ _ _ => ?_
 refine .fact (t := 1) rfl (fun S w v h => modLens2 h) fun hl => ?_
 have hl1 := hl.sigs; have hl2 := hl.imports; have hl3 := hl.funcs; have hl4 := hl.mems; have hl5 := hl.globals; have hl6 := hl.exports; have hl7 := hl.elems; have hl8 := hl.datas
 obtain ⟨x, hx⟩ := getElem?_lt hp0
 refine Z6 ?_
 refine .drawK 13 4 FM.out (by kernel_rfl) (k := ?_)
 refine Z5 ?_
 refine .p (cI _) ?_
 refine Z8 ?_
 refine .p (cA (h := has_spec)) rfl ?_
 refine Z1 ?_
 refine .p (cA (h := when_spec)) rfl ?_
 refine Z4 ?_
 refine Rt1 ?_
 exact VLe.int (by rw [onI_eq hx]; rfl)
theorem memsc_spec (hp0 : i < m.Mems.length) : FnP Tryz.prog 106 [intV .i64 (i : Int), ptrV [ptrV (encMod m)]] (intV .i64 (onI m.Mems memE i)) := by
 refine In 14 Tryz.func106 fun _ _ _ => ?_
 refine .fact (t := 1) rfl (fun S w v h => modLens2 h) fun hl => ?_
 have hl1 := hl.sigs; have hl2 := hl.imports; have hl3 := hl.funcs; have hl4 := hl.mems; have hl5 := hl.globals; have hl6 := hl.exports; have hl7 := hl.elems; have hl8 := hl.datas
 obtain ⟨x, hx⟩ := getElem?_lt hp0
 refine Z12 ?_
 refine .p (cI _) rfl ?_
 refine Z1 ?_
 refine .p (cA (h := lright_spec)) rfl ?_
 refine Z1 ?_
 refine .p (cA (h := when_spec)) rfl ?_
 refine Z4 ?_
 refine Rt1 ?_
 exact VLe.int (by rw [onI_eq hx]; rfl)
theorem globalsc_spec (hp0 : i < m.Globals.length) : FnP Tryz.prog 108 [intV .i64 (i : Int), ptrV [ptrV (encMod m)]] (intV .i64 (onI m.Globals globalE i)) := by
 refine In 27 Tryz.func108 fun _ _ _ => ?_
 refine .fact (t := 1) rfl (fun S w v h => modLens2 h) fun hl => ?_
 have hl1 := hl.sigs; have hl2 := hl.imports; have hl3 := hl.funcs; have hl4 := hl.mems; have hl5 := hl.globals; have hl6 := hl.exports; have hl7 := hl.elems; have hl8 := hl.datas
 obtain ⟨x, hx⟩ := getElem?_lt hp0
 refine Z12 ?_
 refine .p (cI _) rfl ?_
 refine Z1 ?_
 refine .n (opAlloc FZ.out) rfl fun b4 _ => ?_
 refine Z3 ?_
 refine .share (t := 4) (i := 0) rfl rfl ?_
 refine Z4 ?_
 refine .p (cA (h := bits_spec)) rfl ?_
 refine Z11 ?_
 refine .p (cA (h := when_spec)) rfl ?_
 refine Z4 ?_
 refine Rt1 ?_
 exact VLe.int (by rw [onI_eq hx]; rfl)
theorem sigs_spec : FnP Tryz.prog 69 [ptrV (encMod m)] (intV .i64 (sigsE m)) := by
 refine In 10 Tryz.func69 fun _ _ _ => ?_
 refine .fact (t := 0) rfl (fun S w v h => modLens h) fun hl => ?_
 have hl1 := hl.sigs; have hl2 := hl.imports; have hl3 := hl.funcs; have hl4 := hl.mems; have hl5 := hl.globals; have hl6 := hl.exports; have hl7 := hl.elems; have hl8 := hl.datas
 refine Z13 ?_
 refine .p (opMakeFunc (A := Nat) (ok := fun i => i < m.Sigs.length) (arg := fun i => [intV .i64 (i : Int)]) (res := fun i => intV .i64 (onI m.Sigs sigE i)) FB.out .nil (.cons (.t rfl) .nil) (fun i hi => sigsc_spec hi)) rfl ?_
 refine .p (cA (h := many_spec (by first | assumption | omega))) rfl ?_
 refine Z4 ?_
 refine Rt1 ?_
 exact VLe.refl _
theorem imports_spec : FnP Tryz.prog 70 [ptrV (encMod m)] (intV .i64 (importsE m)) := by
 refine In 10 Tryz.func70 fun _ _ _ => ?_
 refine .fact (t := 0) rfl (fun S w v h => modLens h) fun hl => ?_
 have hl1 := hl.sigs; have hl2 := hl.imports; have hl3 := hl.funcs; have hl4 := hl.mems; have hl5 := hl.globals; have hl6 := hl.exports; have hl7 := hl.elems; have hl8 := hl.datas
 refine Z13 ?_
 refine .p (opMakeFunc (A := Nat) (ok := fun i => i < m.Imports.length) (arg := fun i => [intV .i64 (i : Int)]) (res := fun i => intV .i64 (onI m.Imports (importE m) i)) FB.out .nil (.cons (.t rfl) .nil) (fun i hi => importsc_spec hi)) rfl ?_
 refine .p (cA (h := many_spec (by first | assumption | omega))) rfl ?_
 refine Z4 ?_
 refine Rt1 ?_
 exact VLe.refl _
theorem mems_spec : FnP Tryz.prog 73 [ptrV (encMod m)] (intV .i64 (memsE m)) := by
 refine In 10 Tryz.func73 fun _ _ _ => ?_
 refine .fact (t := 0) rfl (fun S w v h => modLens h) fun hl => ?_
 have hl1 := hl.sigs; have hl2 := hl.imports; have hl3 := hl.funcs; have hl4 := hl.mems; have hl5 := hl.globals; have hl6 := hl.exports; have hl7 := hl.elems; have hl8 := hl.datas
 refine Z13 ?_
 refine .p (opMakeFunc (A := Nat) (ok := fun i => i < m.Mems.length) (arg := fun i => [intV .i64 (i : Int)]) (res := fun i => intV .i64 (onI m.Mems memE i)) FB.out .nil (.cons (.t rfl) .nil) (fun i hi => memsc_spec hi)) rfl ?_
 refine .p (cA (h := many_spec (by first | assumption | omega))) rfl ?_
 refine Z4 ?_
 refine Rt1 ?_
 exact VLe.refl _
theorem globals_spec : FnP Tryz.prog 74 [ptrV (encMod m)] (intV .i64 (globalsE m)) := by
 refine In 10 Tryz.func74 fun _ _ _ => ?_
 refine .fact (t := 0) rfl (fun S w v h => modLens h) fun hl => ?_
 have hl1 := hl.sigs; have hl2 := hl.imports; have hl3 := hl.funcs; have hl4 := hl.mems; have hl5 := hl.globals; have hl6 := hl.exports; have hl7 := hl.elems; have hl8 := hl.datas
 refine Z13 ?_
 refine .p (opMakeFunc (A := Nat) (ok := fun i => i < m.Globals.length) (arg := fun i => [intV .i64 (i : Int)]) (res := fun i => intV .i64 (onI m.Globals globalE i)) FB.out .nil (.cons (.t rfl) .nil) (fun i hi => globalsc_spec hi)) rfl ?_
 refine .p (cA (h := many_spec (by first | assumption | omega))) rfl ?_
 refine Z4 ?_
 refine Rt1 ?_
 exact VLe.refl _
theorem funcs_spec : FnP Tryz.prog 71 [ptrV (encMod m)] (intV .i64 (funcsE m)) := by
 refine In 13 Tryz.func71 fun _ _ _ => ?_
 refine .fact (t := 0) rfl (fun S w v h => modLens h) fun hl => ?_
 have hl1 := hl.sigs; have hl2 := hl.imports; have hl3 := hl.funcs; have hl4 := hl.mems; have hl5 := hl.globals; have hl6 := hl.exports; have hl7 := hl.elems; have hl8 := hl.datas
 refine Z10 ?_
 refine .p (cA (h := count_spec)) rfl ?_
 refine Z3 ?_
 refine Cd (fun c0 => ?_) fun c0 => ?_
 ·
  refine Z7 ?_
  refine Rt1 ?_
  exact VLe.int (by simp [funcsE, *])
 refine Z9 ?_
 refine .p (opMakeFunc (A := Nat) (ok := fun i => i < m.Funcs.length) (arg := fun i => [intV .i64 (i : Int)]) (res := fun i => intV .i64 (onI m.Funcs (funcE m) i)) FB.out .nil (.cons (.t rfl) .nil) (fun i hi => funcsc_spec hi)) rfl ?_
 refine .p (cA (h := first_spec (by first | assumption | omega))) rfl ?_
 refine Z4 ?_
 refine Rt1 ?_
 exact VLe.int (by simp [funcsE, *])
theorem table_spec : FnP Tryz.prog 72 [ptrV (encMod m)] (intV .i64 (tableE m)) := by
 refine In 14 Tryz.func72 fun _ _ _ => ?_
 refine Z15 ?_
 refine Cd (fun c0 => ?_) fun c0 => ?_
 ·
  refine Z7 ?_
  refine Rt1 ?_
  exact VLe.int (by simp [tableE, *])
 refine Z9 ?_
 refine .p (cA (h := when_spec)) rfl ?_
 refine Z4 ?_
 refine Rt1 ?_
 exact VLe.int (by simp [tableE, *])
variable {f : Int}
theorem number_spec : FnP Tryz.prog 133 [ptrV (encMod m), intV .i64 f] (tupV [intV .i64 ((numberO m f).getD 0), propV (numberO m f).isSome]) := by
 refine In 43 Tryz.func133 fun _ _ _ => ?_
 refine .fact (t := 0) rfl (fun S w v h => modLens h) fun hl => ?_
 have hl1 := hl.sigs; have hl2 := hl.imports; have hl3 := hl.funcs; have hl4 := hl.mems; have hl5 := hl.globals; have hl6 := hl.exports; have hl7 := hl.elems; have hl8 := hl.datas
 refine Z24 ?_
 refine .g (OpG.gF rfl rfl rfl rfl (fun hg => opCall (count_spec) FB.out (.cons (.when (.t rfl) hg) .nil))) rfl rfl ?_
 refine Z5 ?_
 refine Cd (fun c0 => ?_) fun c0 => ?_
 ·
  refine Z8 ?_
  refine Rt2 ?_ ?_
  · exact VLe.int (by simp [numberO, *])
  exact VLe.prop (by simp [numberO, *])
 refine Z8 ?_
 refine Cd (fun c1 => ?_) fun c1 => ?_
 ·
  refine Z1 ?_
  obtain ⟨j, rfl⟩ : ∃ j : Nat, f = (j : Int) := ⟨f.toNat, by omega⟩
  obtain ⟨x, hx⟩ := getElem?_lt (xs := m.Imports) (k := j) (by omega)
  refine Z6 ?_
  refine .p (cI _) rfl ?_
  refine Z8 ?_
  refine Rt2 ?_ ?_
  · exact VLe.int (by rw [numberO_import (by omega) hx]; rfl)
  exact VLe.prop (by rw [numberO_import (by omega) hx]; simp)
 refine Z1 ?_
 obtain ⟨j, rfl⟩ : ∃ j : Nat, f = (m.Imports.length : Int) + (j : Int) := ⟨(f - m.Imports.length).toNat, by omega⟩
 have hcm : countM m = (m.Imports.length : Int) + (m.Funcs.length : Int) := rfl
 obtain ⟨x, hx⟩ := getElem?_lt (xs := m.Funcs) (k := j) (by omega)
 refine Z8 ?_
 refine .p (cI j) rfl ?_
 refine Z8 ?_
 refine Rt2 ?_ ?_
 · exact VLe.int (by rw [numberO_func hx]; rfl)
 exact VLe.prop (by rw [numberO_func hx]; simp)
theorem msig_spec : FnP Tryz.prog 113 [ptrV (encMod m), intV .i64 f] (tupV [aggV (encSig ((sigO m f).getD ⟨[], []⟩)), propV (sigO m f).isSome]) := by
 refine In 37 Tryz.func113 fun _ _ _ => ?_
 refine .fact (t := 0) rfl (fun S w v h => modLens h) fun hl => ?_
 have hl1 := hl.sigs; have hl2 := hl.imports; have hl3 := hl.funcs; have hl4 := hl.mems; have hl5 := hl.globals; have hl6 := hl.exports; have hl7 := hl.elems; have hl8 := hl.datas
 refine Z2 ?_
 refine .n (opAlloc FZ.out) rfl fun b4 _ => ?_
 refine Z10 ?_
 refine Cd (fun c0 => ?_) fun c0 => ?_
 · exact c0.elim
 refine Z6 ?_
 refine .p (cA (h := number_spec)) rfl ?_
 refine Z19 ?_
 refine .g (OpG.gF rfl rfl rfl rfl (fun hg => opCall (has_spec) FB.out (.cons (.when (.t rfl) hg) (.cons (.when (.t rfl) hg) .nil)))) rfl rfl ?_
 refine Z4 ?_
 refine Cd (fun c1 => ?_) fun c1 => ?_
 ·
  refine Z9 ?_
  refine Post.retR rfl rfl () trivial (fun _ _ _ _ => trivial) rfl (.cons (.ra (i := 0) FA.out FC.out rfl rfl rfl rfl) ?_ (.cons (.rt rfl) ?_ .nil))
  · rw [sigO_none c1]; exact VLe.agg2 (sliceV_nil _ _) (sliceV_nil _ _)
  exact VLe.prop (by rw [sigO_none c1]; simp)
 refine Z3 ?_
 obtain ⟨n, hn⟩ : ∃ n, numberO m f = some n := Option.isSome_iff_exists.1 (Classical.byContradiction fun h => c1 (.inl h))
 have hin : InP n m.Sigs.length := Classical.byContradiction fun h => c1 (.inr (by rw [hn]; exact h))
 obtain ⟨j, hj⟩ : ∃ j : Nat, n = (j : Int) := ⟨n.toNat, by have := hin.1; omega⟩
 obtain ⟨x, hx⟩ := getElem?_lt (xs := m.Sigs) (k := j) (by have := hin.2; omega)
 refine Z6 ?_
 refine .p (cI j (h := by assumption) (hi := by rw [hn, hj]; rfl)) rfl ?_
 refine Z6 ?_
 refine Post.retR rfl rfl () trivial (fun _ _ _ _ => trivial) rfl (.cons (.ra (i := 0) FA.out FC.out rfl rfl rfl rfl) ?_ (.cons (.rt rfl) ?_ .nil))
 · rw [sigO_some hn hj hx]; exact VLe.refl _
 exact VLe.prop (by rw [sigO_some hn hj hx]; simp)
theorem start_spec : FnP Tryz.prog 76 [ptrV (encMod m)] (intV .i64 (startE m)) := by
 refine In 30 Tryz.func76 fun _ _ _ => ?_
 refine .fact (t := 0) rfl (fun S w v h => modLens h) fun hl => ?_
 have hl1 := hl.sigs; have hl2 := hl.imports; have hl3 := hl.funcs; have hl4 := hl.mems; have hl5 := hl.globals; have hl6 := hl.exports; have hl7 := hl.elems; have hl8 := hl.datas
 refine Z15 ?_
 refine Cd (fun c0 => ?_) fun c0 => ?_
 ·
  refine Z7 ?_
  refine Rt1 ?_
  exact VLe.int (by simp [startE, *])
 refine Z9 ?_
 refine .p (cA (h := msig_spec)) rfl ?_
 refine Z3 ?_
 refine .n (opAlloc FZ.out) rfl fun b3 _ => ?_
 refine Z4 ?_
 refine .share (t := 3) (i := 0) rfl rfl ?_
 refine .fact (t := 17) rfl (fun S w v h => And.intro (aggV_len h 0 rfl) (aggV_len h 1 rfl)) fun hs2 => ?_
 obtain ⟨hs3, hs4⟩ := hs2
 refine Z7 ?_
 refine Cd (fun c1 => ?_) fun c1 => ?_
 ·
  refine Z7 ?_
  refine Rt1 ?_
  exact VLe.int (startE_none c0 c1).symm
 refine Z12 ?_
 refine .p (cA (h := when_spec)) rfl ?_
 refine Z4 ?_
 refine Rt1 ?_
 exact VLe.int (startE_some c0 c1).symm
theorem counts_spec : FnP Tryz.prog 109 [ptrV (encMod m)] (aggV [intV .i64 (cnt m 0), intV .i64 (cnt m 1), intV .i64 (cnt m 2), intV .i64 (cnt m 3)]) := by
 refine In 22 Tryz.func109 fun _ _ _ => ?_
 refine .fact (t := 0) rfl (fun S w v h => modLens h) fun hl => ?_
 have hl1 := hl.sigs; have hl2 := hl.imports; have hl3 := hl.funcs; have hl4 := hl.mems; have hl5 := hl.globals; have hl6 := hl.exports; have hl7 := hl.elems; have hl8 := hl.datas
 refine Z2 ?_
 refine .n (opAlloc FZ.out) rfl fun b2 _ => ?_
 refine Z3 ?_
 refine .drawK 18 2 FM.out (by kernel_rfl) (k := ?_)
 refine Z1 ?_
 refine .p (cA (h := count_spec)) ?_
 refine Z4 ?_
 refine .p (opAdd (.t rfl) (.c _)) ?_
 refine .p (opMin (.t rfl) (.c _)) ?_
 refine Z11 ?_
 refine .p (opBuildArr FR.out FZ.out (.cons (.t rfl) (.cons (.t rfl) (.cons (.t rfl) (.cons (.t rfl) .nil)))) rfl) rfl ?_
 refine Z4 ?_
 refine Post.retR1 rfl () trivial (fun _ _ _ _ => trivial) (.ra (i := 0) FA.out FC.out rfl rfl rfl rfl) ?_
 exact VLe.refl _
theorem exportscc_spec {x y : ExportD} : FnP Tryz.prog 112 [aggV (encExport y), ptrV (encExport x)] (propV (y.Name = x.Name)) := by
 refine In 9 Tryz.func112 fun _ _ _ => ?_
 refine Z17 ?_
 refine Rt1 ?_
 first | exact VLe.refl _ | exact VLe.int (by omega) | exact VLe.prop (by omega) | exact VLe.prop (by simp_all) | exact VLe.prop (by simp; omega)
theorem exportsc_spec (hp0 : i < m.Exports.length) : FnP Tryz.prog 110 [intV .i64 (i : Int), ptrV [ptrV (encMod m)], ptrV [intV .i64 (cnt m 0), intV .i64 (cnt m 1), intV .i64 (cnt m 2), intV .i64 (cnt m 3)]] (intV .i64 (exportE m i)) := by
 refine In 46 Tryz.func110 fun _ _ _ => ?_
 refine .fact (t := 1) rfl (fun S w v h => modLens2 h) fun hl => ?_
 have hl1 := hl.sigs; have hl2 := hl.imports; have hl3 := hl.funcs; have hl4 := hl.mems; have hl5 := hl.globals; have hl6 := hl.exports; have hl7 := hl.elems; have hl8 := hl.datas
 obtain ⟨x, hx⟩ := getElem?_lt hp0
 refine Z12 ?_
 refine .p (cI _) rfl ?_
 refine Z1 ?_
 refine .n (opAlloc FZ.out) rfl fun b5 _ => ?_
 refine Z3 ?_
 refine .share (t := 5) (i := 0) rfl rfl ?_
 refine Z7 ?_
 refine .p (opSliceHi FU.out FC.out rfl (.t rfl) (.t rfl) rfl (by omega)) rfl ?_
 refine .p (opMakeFunc (A := ExportD) (ok := fun _ => True) (arg := fun y => [aggV (encExport y)]) (res := fun y => propV (y.Name = x.Name)) FB.out .nil (.cons (.t rfl) .nil) (fun y _ => exportscc_spec)) rfl ?_
 refine .p (cA (h := conExport_spec)) rfl ?_
 refine Z8 ?_
 refine .p (cA (h := named_spec)) rfl ?_
 refine Z6 ?_
 refine Cd (fun c0 => ?_) fun c0 => ?_
 ·
  refine Z7 ?_
  refine Rt1 ?_
  exact VLe.int (exportE_name hx c0).symm
 refine Z3 ?_
 refine .drawK 13 5 FM.out (by kernel_rfl) (k := ?_)
 refine Z2 ?_
 refine .p (cA (h := has_spec)) ?_
 refine Z6 ?_
 refine .cons (OpG.gF rfl rfl rfl rfl (fun hg => opMin (.when (.t rfl) hg) (.c _))) ?_
 refine Z1 ?_
 refine .cons (OpG.gF rfl rfl rfl rfl (fun hg => opIndexAddrA (kindJ x.Kind) FU.out FC.out rfl (.t rfl) (.when (.t rfl) hg) (by unfold kindJ; omega) (by unfold kindJ; omega))) ?_
 refine .cons (OpG.gF rfl rfl rfl rfl (fun hg => opLoad FA.out (.le (.when (.t rfl) hg) (ptrV_at (cnt_at m (kindJ x.Kind) (by unfold kindJ; omega)))))) ?_
 refine Z1 ?_
 refine .g (OpG.gF rfl rfl rfl rfl (fun hg => opCall (has_spec) FB.out (.cons (.when (.t rfl) hg) (.cons (.when (.t rfl) hg) .nil)))) rfl rfl ?_
 refine Z2 ?_
 refine .p (cA (h := when_spec)) rfl ?_
 refine Z4 ?_
 refine Rt1 ?_
 exact VLe.int (exportE_rest hx c0).symm
theorem exports_spec : FnP Tryz.prog 75 [ptrV (encMod m)] (intV .i64 (exportsE m)) := by
 refine In 13 Tryz.func75 fun _ _ _ => ?_
 refine .fact (t := 0) rfl (fun S w v h => modLens h) fun hl => ?_
 have hl1 := hl.sigs; have hl2 := hl.imports; have hl3 := hl.funcs; have hl4 := hl.mems; have hl5 := hl.globals; have hl6 := hl.exports; have hl7 := hl.elems; have hl8 := hl.datas
 refine Z9 ?_
 refine .p (cA (h := counts_spec)) rfl ?_
 refine .n (opAlloc FZ.out) rfl fun b3 _ => ?_
 refine Z3 ?_
 refine .share (t := 3) (i := 0) rfl rfl ?_
 refine Z7 ?_
 refine .p (opMakeFunc (A := Nat) (ok := fun i => i < m.Exports.length) (arg := fun i => [intV .i64 (i : Int)]) (res := fun i => intV .i64 (exportE m i)) FB.out .nil (.cons (.t rfl) (.cons (.t rfl) .nil)) (fun i hi => exportsc_spec hi)) rfl ?_
 refine .p (cA (h := many_spec (by first | assumption | omega))) rfl ?_
 refine Z4 ?_
 refine Rt1 ?_
 exact VLe.refl _
theorem elemscc_spec : FnP Tryz.prog 116 [intV .i64 f, ptrV [ptrV (encMod m)]] (propV (¬ InP f (countM m))) := by
 refine In 9 Tryz.func116 fun _ _ _ => ?_
 refine Z9 ?_
 refine .p (cA (h := count_spec)) rfl ?_
 refine .p (cA (h := has_spec)) rfl ?_
 refine Z5 ?_
 refine Rt1 ?_
 first | exact VLe.refl _ | exact VLe.int (by omega) | exact VLe.prop (by omega) | exact VLe.prop (by simp_all) | exact VLe.prop (by simp; omega)
theorem elemsc_spec (hp0 : i < m.Elems.length) : FnP Tryz.prog 114 [intV .i64 (i : Int), ptrV [ptrV (encMod m)]] (intV .i64 (onI m.Elems (elemE m) i)) := by
 refine In 35 Tryz.func114 fun _ _ _ => ?_
 refine .fact (t := 1) rfl (fun S w v h => modLens2 h) fun hl => ?_
 have hl1 := hl.sigs; have hl2 := hl.imports; have hl3 := hl.funcs; have hl4 := hl.mems; have hl5 := hl.globals; have hl6 := hl.exports; have hl7 := hl.elems; have hl8 := hl.datas
 obtain ⟨x, hx⟩ := getElem?_lt hp0
 refine Z12 ?_
 refine .p (cI _) rfl ?_
 refine Z1 ?_
 refine .n (opAlloc FZ.out) rfl fun b4 _ => ?_
 refine Z3 ?_
 refine .share (t := 4) (i := 0) rfl rfl ?_
 refine Z9 ?_
 refine Cd (fun c0 => ?_) fun c0 => ?_
 ·
  refine Z7 ?_
  refine Rt1 ?_
  exact VLe.int (by rw [onI_eq hx]; simp [elemE, *])
 refine Z6 ?_
 refine .p (opMakeFunc (A := Int) (ok := fun _ => True) (arg := fun f => [intV .i64 f]) (res := fun f => propV (¬ InP f (countM m))) FB.out .nil (.cons (.t rfl) .nil) (fun f _ => elemscc_spec)) rfl ?_
 refine .p (cA (h := conInt_spec)) rfl ?_
 refine Z18 ?_
 refine .p (cA (h := when_spec)) rfl ?_
 refine Z4 ?_
 refine Rt1 ?_
 exact VLe.int (by rw [onI_eq hx]; exact (elemE_rest c0).symm)
theorem elems_spec : FnP Tryz.prog 77 [ptrV (encMod m)] (intV .i64 (elemsE m)) := by
 refine In 10 Tryz.func77 fun _ _ _ => ?_
 refine .fact (t := 0) rfl (fun S w v h => modLens h) fun hl => ?_
 have hl1 := hl.sigs; have hl2 := hl.imports; have hl3 := hl.funcs; have hl4 := hl.mems; have hl5 := hl.globals; have hl6 := hl.exports; have hl7 := hl.elems; have hl8 := hl.datas
 refine Z13 ?_
 refine .p (opMakeFunc (A := Nat) (ok := fun i => i < m.Elems.length) (arg := fun i => [intV .i64 (i : Int)]) (res := fun i => intV .i64 (onI m.Elems (elemE m) i)) FB.out .nil (.cons (.t rfl) .nil) (fun i hi => elemsc_spec hi)) rfl ?_
 refine .p (cA (h := many_spec (by first | assumption | omega))) rfl ?_
 refine Z4 ?_
 refine Rt1 ?_
 exact VLe.refl _
theorem datasc_spec (hp0 : i < m.Datas.length) : FnP Tryz.prog 117 [intV .i64 (i : Int), ptrV [ptrV (encMod m)]] (intV .i64 (onI m.Datas (dataE m) i)) := by
 refine In 51 Tryz.func117 fun _ _ _ => ?_
 refine .fact (t := 1) rfl (fun S w v h => modLens2 h) fun hl => ?_
 have hl1 := hl.sigs; have hl2 := hl.imports; have hl3 := hl.funcs; have hl4 := hl.mems; have hl5 := hl.globals; have hl6 := hl.exports; have hl7 := hl.elems; have hl8 := hl.datas
 obtain ⟨x, hx⟩ := getElem?_lt hp0
 refine Z12 ?_
 refine .p (cI _) rfl ?_
 refine Z1 ?_
 refine .n (opAlloc FZ.out) rfl fun b4 _ => ?_
 refine Z3 ?_
 refine .share (t := 4) (i := 0) rfl rfl ?_
 refine Z9 ?_
 refine Cd (fun c0 => ?_) fun c0 => ?_
 ·
  refine Z7 ?_
  refine Rt1 ?_
  exact VLe.int (by rw [onI_eq hx]; simp [dataE, *])
 refine Z3 ?_
 refine .drawK 24 12 FM.out (by kernel_rfl) (k := ?_)
 refine Z7 ?_
 refine .p (cA (h := has_spec)) ?_
 refine Z14 ?_
 refine .cons (OpG.gF rfl rfl rfl rfl (fun hg => opMin (.when (.t rfl) hg) (.when (.t rfl) hg))) ?_
 refine Z2 ?_
 refine .g (OpG.gF rfl rfl rfl rfl (fun hg => opIndexAddr (j := x.Mem.toNat) FU.out FC.out rfl (.when (.t rfl) hg) (.when (.t rfl) hg) (data_at (Classical.not_not.1 hg)) (data_mem (Classical.not_not.1 hg)))) rfl rfl ?_
 refine Z9 ?_
 refine .p (cA (h := when_spec)) rfl ?_
 refine Z4 ?_
 refine Rt1 ?_
 exact VLe.int (by rw [onI_eq hx]; exact (dataE_rest c0).symm)
theorem datas_spec : FnP Tryz.prog 78 [ptrV (encMod m)] (intV .i64 (datasE m)) := by
 refine In 10 Tryz.func78 fun _ _ _ => ?_
 refine .fact (t := 0) rfl (fun S w v h => modLens h) fun hl => ?_
 have hl1 := hl.sigs; have hl2 := hl.imports; have hl3 := hl.funcs; have hl4 := hl.mems; have hl5 := hl.globals; have hl6 := hl.exports; have hl7 := hl.elems; have hl8 := hl.datas
 refine Z13 ?_
 refine .p (opMakeFunc (A := Nat) (ok := fun i => i < m.Datas.length) (arg := fun i => [intV .i64 (i : Int)]) (res := fun i => intV .i64 (onI m.Datas (dataE m) i)) FB.out .nil (.cons (.t rfl) .nil) (fun i hi => datasc_spec hi)) rfl ?_
 refine .p (cA (h := many_spec (by first | assumption | omega))) rfl ?_
 refine Z4 ?_
 refine Rt1 ?_
 exact VLe.refl _
theorem fit_spec : FnP Tryz.prog 59 [ptrV (encMod m)] (tupV [strV (fitP m).1, intV .i64 (fitP m).2]) := by
 refine In 52 Tryz.func59 fun _ _ _ => ?_
 refine Z2 ?_
 refine .p (opAssign (.s [] rfl rfl)) rfl ?_
 refine Z10 ?_
 refine Cd (fun c0 => ?_) fun c0 => ?_
 · exact c0.elim
 refine Z6 ?_
 refine .p (opMakeFunc (A := Unit) (ok := fun _ => True) (arg := fun _ => []) (res := fun _ => intV .i64 (sigsE m)) FB.out (.cons (.t rfl) .nil) .nil (fun _ _ => sigs_spec)) rfl ?_
 refine .p (opBuild FP.out FZ.out (.cons (.s [115, 105, 103, 115] rfl rfl) (.cons (.t rfl) .nil)) rfl) rfl ?_
 refine Z1 ?_
 refine .p (opMakeFunc (A := Unit) (ok := fun _ => True) (arg := fun _ => []) (res := fun _ => intV .i64 (importsE m)) FB.out (.cons (.t rfl) .nil) .nil (fun _ _ => imports_spec)) rfl ?_
 refine .p (opBuild FP.out FZ.out (.cons (.s [105, 109, 112, 111, 114, 116, 115] rfl rfl) (.cons (.t rfl) .nil)) rfl) rfl ?_
 refine Z1 ?_
 refine .p (opMakeFunc (A := Unit) (ok := fun _ => True) (arg := fun _ => []) (res := fun _ => intV .i64 (funcsE m)) FB.out (.cons (.t rfl) .nil) .nil (fun _ _ => funcs_spec)) rfl ?_
 refine .p (opBuild FP.out FZ.out (.cons (.s [102, 117, 110, 99, 115] rfl rfl) (.cons (.t rfl) .nil)) rfl) rfl ?_
 refine Z1 ?_
 refine .p (opMakeFunc (A := Unit) (ok := fun _ => True) (arg := fun _ => []) (res := fun _ => intV .i64 (tableE m)) FB.out (.cons (.t rfl) .nil) .nil (fun _ _ => table_spec)) rfl ?_
 refine .p (opBuild FP.out FZ.out (.cons (.s [116, 97, 98, 108, 101] rfl rfl) (.cons (.t rfl) .nil)) rfl) rfl ?_
 refine Z1 ?_
 refine .p (opMakeFunc (A := Unit) (ok := fun _ => True) (arg := fun _ => []) (res := fun _ => intV .i64 (memsE m)) FB.out (.cons (.t rfl) .nil) .nil (fun _ _ => mems_spec)) rfl ?_
 refine .p (opBuild FP.out FZ.out (.cons (.s [109, 101, 109, 115] rfl rfl) (.cons (.t rfl) .nil)) rfl) rfl ?_
 refine Z1 ?_
 refine .p (opMakeFunc (A := Unit) (ok := fun _ => True) (arg := fun _ => []) (res := fun _ => intV .i64 (globalsE m)) FB.out (.cons (.t rfl) .nil) .nil (fun _ _ => globals_spec)) rfl ?_
 refine .p (opBuild FP.out FZ.out (.cons (.s [103, 108, 111, 98, 97, 108, 115] rfl rfl) (.cons (.t rfl) .nil)) rfl) rfl ?_
 refine Z1 ?_
 refine .p (opMakeFunc (A := Unit) (ok := fun _ => True) (arg := fun _ => []) (res := fun _ => intV .i64 (exportsE m)) FB.out (.cons (.t rfl) .nil) .nil (fun _ _ => exports_spec)) rfl ?_
 refine .p (opBuild FP.out FZ.out (.cons (.s [101, 120, 112, 111, 114, 116, 115] rfl rfl) (.cons (.t rfl) .nil)) rfl) rfl ?_
 refine Z1 ?_
 refine .p (opMakeFunc (A := Unit) (ok := fun _ => True) (arg := fun _ => []) (res := fun _ => intV .i64 (startE m)) FB.out (.cons (.t rfl) .nil) .nil (fun _ _ => start_spec)) rfl ?_
 refine .p (opBuild FP.out FZ.out (.cons (.s [115, 116, 97, 114, 116] rfl rfl) (.cons (.t rfl) .nil)) rfl) rfl ?_
 refine Z1 ?_
 refine .p (opMakeFunc (A := Unit) (ok := fun _ => True) (arg := fun _ => []) (res := fun _ => intV .i64 (elemsE m)) FB.out (.cons (.t rfl) .nil) .nil (fun _ _ => elems_spec)) rfl ?_
 refine .p (opBuild FP.out FZ.out (.cons (.s [101, 108, 101, 109, 115] rfl rfl) (.cons (.t rfl) .nil)) rfl) rfl ?_
 refine Z1 ?_
 refine .p (opMakeFunc (A := Unit) (ok := fun _ => True) (arg := fun _ => []) (res := fun _ => intV .i64 (datasE m)) FB.out (.cons (.t rfl) .nil) .nil (fun _ _ => datas_spec)) rfl ?_
 refine .p (opBuild FP.out FZ.out (.cons (.s [100, 97, 116, 97] rfl rfl) (.cons (.t rfl) .nil)) rfl) rfl ?_
 refine .p (opBuildArr FR.out FZ.out (.cons (.t rfl) (.cons (.t rfl) (.cons (.t rfl) (.cons (.t rfl) (.cons (.t rfl) (.cons (.t rfl) (.cons (.t rfl) (.cons (.t rfl) (.cons (.t rfl) (.cons (.t rfl) .nil)))))))))) rfl) rfl ?_
 refine Z4 ?_
 refine .loopO (σ := Nat) (fun _ => []) (fun k => [(40, intV .i64 (k : Int))]) (fun k => k ≤ 10 ∧ NotB (fun p : List UInt8 × Int => p.2 ≠ 0) (partsM m) k) (fun k => 10 - k) 0 ⟨by omega, NotB.zero _ _⟩ rfl ?_ ?_
 · exact (.get rfl (VLe.refl _) (.refl _ _))
 rintro k ⟨hk, hnot⟩
 refine Z6 ?_
 refine Cd (fun c1 => ?_) fun c1 => ?_
 ·
  obtain ⟨p, hp⟩ := getElem?_lt (xs := partsM m) (k := k) (by rw [parts_len]; omega)
  refine Z6 ?_
  refine .p (opIndexA (enc := encPart) (partsM m) FU.out FC.out rfl FA.out (.t rfl) rfl rfl (.t rfl) rfl (by assumption)) rfl ?_
  refine .n (opAlloc FZ.out) rfl fun b5 _ => ?_
  refine Z3 ?_
  refine .share (t := 5) (i := 0) rfl rfl ?_
  refine Z4 ?_
  refine .p (cV ()) rfl ?_
  refine Z9 ?_
  refine Cd (fun c2 => ?_) fun c2 => ?_
  ·
   refine Z15 ?_
   refine Rt2 ?_ ?_
   · exact VLe.of_eq (by rw [fit_at hnot hp c2])
   exact VLe.of_eq (by rw [fit_at hnot hp c2])
  refine Z7 ?_
  refine .round (k + 1) ⟨by omega, hnot.succ hp (by assumption)⟩ (by omega) rfl ?_
  exact (.get rfl (VLe.int (by omega)) (.keep 13 rfl rfl))
 refine Z7 ?_
 refine .p (opAssign (.s [] rfl rfl)) rfl ?_
 refine Z4 ?_
 refine Rt2 ?_ ?_
 · exact VLe.of_eq (by rw [fit_none (hnot.all (by rw [parts_len]; omega))])
 exact VLe.of_eq (by rw [fit_none (hnot.all (by rw [parts_len]; omega))])
theorem fitNil_spec  : FnP Tryz.prog 59 [nilV] (tupV [strV [], intV .i64 12]) := by
 refine In 52 Tryz.func59 fun _ _ _ => ?_
 refine Z2 ?_
 refine .p (opAssign (.s [] rfl rfl)) rfl ?_
 refine Z10 ?_
 refine Cd (fun c0 => ?_) fun c0 => ?_
 ·
  refine Z2 ?_
  refine .p (opAssign (.s [] rfl rfl)) rfl ?_
  refine Z5 ?_
  refine Rt2 ?_ ?_
  · first | exact VLe.refl _ | exact VLe.int (by omega) | exact VLe.prop (by omega) | exact VLe.prop (by simp_all) | exact VLe.prop (by simp; omega)
  first | exact VLe.refl _ | exact VLe.int (by omega) | exact VLe.prop (by omega) | exact VLe.prop (by simp_all) | exact VLe.prop (by simp; omega)
 exact (c0 trivial).elim
variable {sb : Nat} {pb : Nat} {t : Int} {g : Int}
theorem sgone_spec : FnE Tryz.prog 20 [addrV sb 0] [stH sb X pb g t] (γ := Unit) (fun _ => True) (fun _ => [stH sb X pb g t]) (fun _ => propV False) := by
 refine In 11 Tryz.func20 fun _ _ _ => ?_
 refine Z8 ?_
 refine .p (opEqlNilO FU.out (.t rfl)) rfl ?_
 refine Z10 ?_
 refine Rt1 ?_
 exact VLe.prop (by simp)
theorem sgoneNil_spec  : FnP Tryz.prog 20 [nilV] (propV True) := by
 refine In 11 Tryz.func20 fun _ _ _ => ?_
 refine Z11 ?_
 refine .g (OpG.gF rfl rfl rfl rfl (fun hg => opNo (q := anyV) (hg trivial))) rfl rfl ?_
 refine .g (OpG.gF rfl rfl rfl rfl (fun hg => opNo (q := anyV) (hg trivial))) rfl rfl ?_
 refine .g (OpG.gF rfl rfl rfl rfl (fun hg => opNo (q := propV True) (hg trivial))) rfl rfl ?_
 refine Z5 ?_
 refine Rt1 ?_
 exact VLe.prop (by simp)
theorem scount_spec : FnE Tryz.prog 17 [addrV sb 0] [stH sb X pb g t] (γ := Unit) (fun _ => True) (fun _ => [stH sb X pb g t]) (fun _ => intV .i64 2) := by
 refine In 11 Tryz.func17 fun _ _ _ => ?_
 refine Z19 ?_
 refine Rt1 ?_
 first | exact VLe.refl _ | exact VLe.int (by omega) | exact VLe.prop (by omega) | exact VLe.prop (by simp_all) | exact VLe.prop (by simp; omega)
theorem suse21_spec {i : Int} (hp0 : 0 ≤ i) (hp1 : i < 2) : FnE Tryz.prog 16 [addrV sb 0, intV .i64 i, bndV 17 sb] [stH sb X pb g t] (γ := Unit) (fun _ => True) (fun _ => [stH sb X pb g t]) (fun _ => intV .i64 0) := by
 refine In 19 Tryz.func16 fun _ _ _ => ?_
 refine Z10 ?_
 refine .n ((cE (h := sgone_spec)).same (fun _ _ => OLe.refl _) (fun _ _ => VLe.refl _)) rfl fun _ _ => ?_
 refine Z3 ?_
 refine Cd (fun c0 => ?_) fun c0 => ?_
 · exact c0.elim
 refine Z7 ?_
 refine .egF rfl rfl rfl rfl (fun hg => ((opCallXE (rest := []) (scount_spec (sb := sb) (X := X) (pb := pb) (g := g) (t := t)) FB.out (.when (.t rfl) hg) (Perm.idx [0] rfl rfl)).same (fun _ _ => OLe.refl _) (fun _ _ => VLe.refl _)).same (fun _ _ => OLe.refl _) (fun _ _ => VLe.refl _)) rfl rfl ?_
 refine Z5 ?_
 refine Cd (fun c1 => ?_) fun c1 => ?_
 · exfalso; omega
 refine Z9 ?_
 refine Rt1 ?_
 first | exact VLe.refl _ | exact VLe.int (by omega) | exact VLe.prop (by omega) | exact VLe.prop (by simp_all) | exact VLe.prop (by simp; omega)
theorem suseNil_spec {i : Int} {c : VP} : FnP Tryz.prog 16 [nilV, intV .i64 i, c] (intV .i64 12) := by
 refine In 19 Tryz.func16 fun _ _ _ => ?_
 refine Z10 ?_
 refine .p (cA (h := sgoneNil_spec)) rfl ?_
 refine Z3 ?_
 refine Cd (fun c0 => ?_) fun c0 => ?_
 ·
  refine Z8 ?_
  refine Rt1 ?_
  exact VLe.refl _
 exact (c0 trivial).elim
theorem wcut21_spec {n : Int} (hp0 : v < 4294967296) : FnP Tryz.prog 28 [intV .i64 n, intV .u64 (v : Int)] (intV .u64 (v : Int)) := by
 refine In 11 Tryz.func28 fun _ _ _ => ?_
 refine Z12 ?_
 refine Cd (fun c0 => ?_) fun c0 => ?_
 ·
  refine Z10 ?_
  refine Rt1 ?_
  exact VLe.refl _
 refine Z9 ?_
 refine Rt1 ?_
 exact VLe.refl _
theorem sset_spec (hp0 : i < 2) (hp1 : ArOk X a) (hp2 : X.size = 1000) (hp3 : v < 4294967296) : FnE Tryz.prog 12 [addrV sb 0, intV .i64 (i : Int), intV .u64 (v : Int)] (stH sb X pb 0 t :: arenaL X a) (γ := Unit) (fun _ => True) (fun _ => (stH sb X pb 0 t :: arenaL X (a.put (8 * i) (leL v 8)))) (fun _ => intV .i64 0) := by
 refine In 42 Tryz.func12 fun _ _ _ => ?_
 obtain ⟨gl, hgl⟩ := getElem?_lt (xs := modS.Globals) (k := i) (by simpa [modS] using hp0)
 refine Z11 ?_
 refine .p (opBound (.t rfl)) rfl ?_
 refine .n ((cE (h := suse21_spec (i := (i : Int)) (by omega) (by omega))).same (fun _ _ => OLe.refl _) (fun _ _ => VLe.refl _)) rfl fun _ _ => ?_
 refine Z9 ?_
 refine Cd (fun c0 => ?_) fun c0 => ?_
 · exact absurd rfl c0
 refine Z3 ?_
 refine .drawK 25 2 FM.out (by kernel_rfl) (k := ?_)
 refine Z10 ?_
 refine .p ((opAddF (.t rfl) (.t rfl) fits_z).le (VLe.int (show _ = ((8 * i : Nat) : Int) by omega))) ?_
 refine Z8 ?_
 refine .p (cI i (h := hgl)) ?_
 refine Z2 ?_
 refine .p (cA (h := bits_spec)) ?_
 refine Z1 ?_
 refine .p (cA (h := wcut21_spec hp3)) ?_
 refine Z1 ?_
 refine .n (cEi [_] [1,2,3,4,0] (h := aput_spec (at_ := 8 * i) (w := 8) hp1 (by omega) (by omega) (by omega))) rfl fun g41 h41 => ?_
 refine Z4 ?_
 refine Post.retR1 rfl (()) (by trivial) (OLe.sel [4, 0, 1, 2, 3] [] rfl rfl) (.rt rfl) ?_
 first | exact VLe.refl _ | exact VLe.int (by omega) | exact VLe.prop (by omega) | exact VLe.prop (by simp_all) | exact VLe.prop (by simp; omega)
theorem sglobal_spec (hp0 : i < 2) (hp1 : ArOk X a) (hp2 : X.size = 1000) : FnE Tryz.prog 5 [addrV sb 0, intV .i64 (i : Int)] (stH sb X pb 0 t :: arenaL X a) (γ := Unit) (fun _ => True) (fun _ => (stH sb X pb 0 t :: arenaL X a)) (fun _ => tupV [intV .u64 (leN ((a.bytes.drop (8 * i)).take 8) : Int), intV .i64 0]) := by
 refine In 29 Tryz.func5 fun _ _ _ => ?_
 refine Z12 ?_
 refine .p (opBound (.t rfl)) rfl ?_
 refine .n ((cE (h := suse21_spec (i := (i : Int)) (by omega) (by omega))).same (fun _ _ => OLe.refl _) (fun _ _ => VLe.refl _)) rfl fun _ _ => ?_
 refine Z9 ?_
 refine Cd (fun c0 => ?_) fun c0 => ?_
 · exact absurd rfl c0
 refine Z3 ?_
 refine .stagedK [(0, 0), (1, 0), (2, 0), (3, 1), (4, 0), (5, 0), (6, 0), (7, 1), (8, 0), (9, 0), (10, 0), (11, 4), (12, 0), (13, 0)] 14 2 FM.out (by kernel_rfl) (k := ?_)
 refine Z10 ?_
 refine .p rfl (fun _ => (opAddF (.t rfl) (.t rfl) fits_z).le (VLe.int (show _ = ((8 * i : Nat) : Int) by omega))) ?_
 refine .a rfl ((cEi [_] [1,2,3,4,0] (h := aget_spec (at_ := 8 * i) (w := 8) hp1 (by omega) (by omega))).same (fun _ _ => OLe.perm (Perm.idx [4, 0, 1, 2, 3] rfl rfl)) (fun _ _ => VLe.refl _)) (fun _ _ => OLe.refl _) fun _ _ => ?_
 refine Z2 ?_
 refine .fin ?_
 refine Z5 ?_
 refine Rt2 ?_ ?_
 · first | exact VLe.refl _ | exact VLe.int (by omega) | exact VLe.prop (by omega) | exact VLe.prop (by simp_all) | exact VLe.prop (by simp; omega)
 first | exact VLe.refl _ | exact VLe.int (by omega) | exact VLe.prop (by omega) | exact VLe.prop (by simp_all) | exact VLe.prop (by simp; omega)
theorem srooms_spec (hp0 : X.size = 1000) : FnE Tryz.prog 22 [addrV sb 0] (stH sb X pb 0 0 :: arenaL X arZ) (γ := Unit) (fun _ => True) (fun _ => (stH sb X pb 0 16 :: arenaL X arS)) (fun _ => intV .i64 0) := by
 refine In 59 Tryz.func22 fun _ _ _ => ?_
 refine Z12 ?_
 refine .stagedK [(0, 0), (1, 0), (2, 0), (3, 0), (4, 1), (5, 0), (6, 0), (7, 0), (8, 1), (9, 0), (10, 0), (11, 0), (12, 0), (13, 0), (14, 2), (15, 0), (16, 0), (17, 0), (18, 0), (19, 0), (20, 3)] 21 1 FM.out (by kernel_rfl) (k := ?_)
 refine Z13 ?_
 refine .p rfl (fun _ => (opMulF (.c _) (.t rfl) (fits_i64 (by decide) (by decide))).le (VLe.int (show _ = ((16 : Nat) : Int) by simp [modS]))) ?_
 refine .e rfl (cEi [_] [1,2,3,4,0] (h := atake_spec (X := X) (a := arZ) (n := 16) (arZ_ok hp0))) fun g19 h19 => ?_
 refine Z5 ?_
 refine .s rfl (opStoreO (i := 4) FC.out (.t rfl) (.t rfl) rfl rfl) ?_
 refine .fin ?_
 refine Z3 ?_
 rw [hp0, take1] at h19
 subst h19
 refine Z6 ?_
 refine Cd (fun c0 => ?_) fun c0 => ?_
 · exact absurd rfl c0
 refine Z4 ?_
 refine .stagedK [(0, 0), (1, 0), (2, 0), (3, 0), (4, 1), (5, 0), (6, 0), (7, 0), (8, 1), (9, 0), (10, 0), (11, 0), (12, 0), (13, 0), (14, 2), (15, 0), (16, 0), (17, 0), (18, 0), (19, 0), (20, 3)] 21 1 FM.out (by kernel_rfl) (k := ?_)
 refine Z4 ?_
 refine .o rfl (opLoadO (i := 4) FA.out (.t rfl) rfl rfl) ?_
 refine Z3 ?_
 refine .o rfl (opLoadO (i := 4) FA.out (.t rfl) rfl rfl) ?_
 refine Z4 ?_
 refine .p rfl (fun _ => (opMulF (.c _) (.t rfl) (fits_i64 (by decide) (by decide))).le (VLe.int (show _ = ((0 : Nat) : Int) by decide))) ?_
 refine .e rfl (cE (h := atake_spec (X := X) (a := ⟨List.replicate 1000 0, 16, 16, [(0, 16)]⟩) (n := 0) (arM_ok hp0))) fun g42 h42 => ?_
 refine Z5 ?_
 refine .s rfl (opStoreO (i := 4) FC.out (.t rfl) (.t rfl) rfl rfl) ?_
 refine .fin ?_
 refine Z3 ?_
 rw [hp0, take2] at h42
 subst h42
 refine Z6 ?_
 refine Cd (fun c1 => ?_) fun c1 => ?_
 · exact absurd rfl c1
 refine Z9 ?_
 refine Post.retR1 rfl (()) (by trivial) (OLe.sel [4, 0, 1, 2, 3] [] rfl rfl) (.rt rfl) ?_
 first | exact VLe.refl _ | exact VLe.int (by omega) | exact VLe.prop (by omega) | exact VLe.prop (by simp_all) | exact VLe.prop (by simp; omega)
theorem sfill_spec (hp0 : X.size = 1000) : FnE Tryz.prog 23 [addrV sb 0] (stH sb X pb 0 16 :: arenaL X arS) (γ := Unit) (fun _ => True) (fun _ => (stH sb X pb 0 16 :: arenaL X (arK 2))) (fun _ => tupV []) := by
 refine In 71 Tryz.func23 fun _ _ _ => ?_
 refine Z15 ?_
 refine .loopO (σ := Nat) (fun k => (stH sb X pb 0 16 :: arenaL X (arK k))) (fun k => [(16, intV .i64 (k : Int))]) (fun k => k ≤ 2) (fun k => 2 - k) 0 (Nat.zero_le _) rfl ?_ ?_
 · exact (.get rfl (VLe.refl _) (.refl _ _))
 rintro k hk
 refine Z6 ?_
 refine Cd (fun c0 => ?_) fun c0 => ?_
 ·
  have hk2 : k < 2 := by (revert c0; simp [modS]; omega)
  obtain ⟨gl, v, hgl, hgv, hv, hput⟩ := glS hk2
  refine Z7 ?_
  refine .p (cI k (h := hgl)) rfl ?_
  refine Z1 ?_
  refine .n (opAlloc FZ.out) rfl fun b3 _ => ?_
  refine Z4 ?_
  refine .share (t := 3) (i := 0) rfl rfl ?_
  refine Z4 ?_
  refine .p ((opLoad FA.out (.t rfl)).le (VLe.int hgv)) rfl ?_
  refine .n (cE (h := sset_spec (i := k) (v := v) hk2 (arK_ok hp0 k) hp0 hv)) rfl fun g25 h25 => ?_
  refine Z7 ?_
  refine .round (k + 1) (by omega) (by omega) (by rw [hput]; try rfl) ?_
  exact (.get rfl (VLe.int (by (show (k : Int) + 1 = ((k + 1 : Nat) : Int); omega))) ((.keep 15 rfl rfl)))
 have hke : k = 2 := by (revert c0; simp [modS]; omega)
 subst hke
 refine Z19 ?_
 refine .loopO (σ := Nat) (fun _ => (stH sb X pb 0 16 :: arenaL X (arK 2))) (fun k => [(35, intV .i64 (k : Int))]) (fun k => k = 0) (fun k => 0) 0 rfl rfl ?_ ?_
 · exact (.get rfl (VLe.refl _) (.refl _ _))
 rintro k hk
 refine Z6 ?_
 refine Cd (fun c1 => ?_) fun c1 => ?_
 · exfalso; subst hk; revert c1; simp [modS]
 refine Z4 ?_
 refine Post.retR0 rfl (()) (by trivial) (fun _ _ _ h => h) rfl
theorem ssegs_spec : FnE Tryz.prog 24 [addrV sb 0] (stH sb X pb 0 16 :: arenaL X (arK 2)) (γ := Unit) (fun _ => True) (fun _ => (stH sb X pb 0 16 :: arenaL X (arK 2))) (fun _ => tupV [intV .i64 0, intV .i64 0]) := by
 refine In 67 Tryz.func24 fun _ _ _ => ?_
 refine Z21 ?_
 refine .loopO (σ := Nat) (fun _ => (stH sb X pb 0 16 :: arenaL X (arK 2))) (fun k => [(19, intV .i64 (k : Int))]) (fun k => k = 0) (fun k => 0) 0 rfl rfl ?_ ?_
 · exact (.get rfl (VLe.refl _) (.refl _ _))
 rintro k hk
 refine Z6 ?_
 refine Cd (fun c0 => ?_) fun c0 => ?_
 · exfalso; subst hk; revert c0; simp [modS]
 refine Z20 ?_
 refine .loopO (σ := Nat) (fun _ => (stH sb X pb 0 16 :: arenaL X (arK 2))) (fun k => [(38, intV .i64 (k : Int))]) (fun k => k = 0) (fun k => 0) 0 rfl rfl ?_ ?_
 · exact (.get rfl (VLe.refl _) (.refl _ _))
 rintro k hk
 refine Z6 ?_
 refine Cd (fun c1 => ?_) fun c1 => ?_
 · exfalso; subst hk; revert c1; simp [modS]
 refine Z12 ?_
 refine Rt2 ?_ ?_
 · first | exact VLe.refl _ | exact VLe.int (by omega) | exact VLe.prop (by omega) | exact VLe.prop (by simp_all) | exact VLe.prop (by simp; omega)
 first | exact VLe.refl _ | exact VLe.int (by omega) | exact VLe.prop (by omega) | exact VLe.prop (by simp_all) | exact VLe.prop (by simp; omega)
theorem vallS_spec  : FnP Tryz.prog 47 [ptrV (encMod modS)] (exactV (.slice none 0 0)) := by
 refine In 45 Tryz.func47 fun _ _ _ => ?_
 refine Z9 ?_
 refine .p (cA (h := fit_spec (m := modS))) rfl ?_
 refine Z2 ?_
 refine .p ((opExtract (.t rfl) rfl).le (VLe.int (show (fitP modS).2 = 0 by rw [fit_modS]))) rfl ?_
 refine Z10 ?_
 refine Cd (fun c0 => ?_) fun c0 => ?_
 · exact absurd rfl c0
 refine Z19 ?_
 refine .loopO (σ := Nat) (fun _ => []) (fun k => [(25, intV .i64 (k : Int))]) (fun k => k = 0) (fun k => 0) 0 rfl rfl ?_ ?_
 · exact (.get rfl (VLe.refl _) (.refl _ _))
 rintro k hk
 refine Z6 ?_
 refine Cd (fun c1 => ?_) fun c1 => ?_
 · exfalso; subst hk; revert c1; simp [modS]
 refine Z12 ?_
 refine Rt1 ?_
 exact VLe.refl _
theorem vfirstS_spec  : FnP Tryz.prog 34 [ptrV (encMod modS)] (tupV [aggV [exactV (.string ⟨#[]⟩), exactV (.int .i64 0), exactV (.int .i64 0), exactV (.int .i64 0)], propV False]) := by
 refine In 14 Tryz.func34 fun _ _ _ => ?_
 refine Z2 ?_
 refine .n (opAlloc FZ.out) rfl fun b2 _ => ?_
 refine Z6 ?_
 refine .p (cA (h := vallS_spec)) rfl ?_
 refine Z7 ?_
 refine .p (opLen rfl Tryz.underlying128 (.le (.t rfl) (sliceV_nil 1 encU8))) rfl ?_
 refine Z3 ?_
 refine Cd (fun c0 => ?_) fun c0 => ?_
 ·
  refine Z9 ?_
  refine Post.retR rfl rfl () trivial (fun _ _ _ _ => trivial) rfl (.cons (.ra (i := 0) FA.out FC.out rfl rfl rfl rfl) ?_ (.cons (.rt rfl) ?_ .nil))
  · exact VLe.refl _
  exact VLe.refl _
 exact absurd rfl c0
theorem visS_spec  : FnP Tryz.prog 21 [ptrV (encMod modS)] (propV True) := by
 refine In 12 Tryz.func21 fun _ _ _ => ?_
 refine Z8 ?_
 refine .p (cA (h := vfirstS_spec)) rfl ?_
 refine Z3 ?_
 refine .n (opAlloc FZ.out) rfl fun b3 _ => ?_
 refine Z4 ?_
 refine .share (t := 3) (i := 0) rfl rfl ?_
 refine Z8 ?_
 refine Rt1 ?_
 exact VLe.prop (by simp)
theorem vallN_spec  : FnP Tryz.prog 47 [nilV] (sliceV 4 encVf [([], -1, 0, 12)]) := by
 refine In 45 Tryz.func47 fun _ _ _ => ?_
 refine Z9 ?_
 refine .p (cA (h := fitNil_spec)) rfl ?_
 refine Z13 ?_
 refine Cd (fun c0 => ?_) fun c0 => ?_
 ·
  refine Z5 ?_
  refine .p (cB encVf [([], -1, 0, 12)]) rfl ?_
  refine Z5 ?_
  refine Rt1 ?_
  exact VLe.refl _
 exact absurd (show (12 : Int) ≠ 0 by decide) c0
theorem vfirstN_spec  : FnP Tryz.prog 34 [nilV] (tupV [aggV (encVf ([], -1, 0, 12)), propV True]) := by
 refine In 14 Tryz.func34 fun _ _ _ => ?_
 refine Z2 ?_
 refine .n (opAlloc FZ.out) rfl fun b2 _ => ?_
 refine Z6 ?_
 refine .p (cA (h := vallN_spec)) rfl ?_
 refine Z11 ?_
 refine Cd (fun c0 => ?_) fun c0 => ?_
 · exact absurd c0 (by decide)
 refine Z5 ?_
 refine .p (cI 0 (h := show ([([], -1, 0, 12)] : List (List UInt8 × Int × Int × Int))[0]? = some ([], -1, 0, 12) from rfl)) rfl ?_
 refine Z6 ?_
 refine Post.retR rfl rfl () trivial (fun _ _ _ _ => trivial) rfl (.cons (.ra (i := 0) FA.out FC.out rfl rfl rfl rfl) ?_ (.cons (.rt rfl) ?_ .nil))
 · exact VLe.refl _
 exact VLe.prop (by simp)
theorem visN_spec  : FnP Tryz.prog 21 [nilV] (propV False) := by
 refine In 12 Tryz.func21 fun _ _ _ => ?_
 refine Z8 ?_
 refine .p (cA (h := vfirstN_spec)) rfl ?_
 refine Z3 ?_
 refine .n (opAlloc FZ.out) rfl fun b3 _ => ?_
 refine Z4 ?_
 refine .share (t := 3) (i := 0) rfl rfl ?_
 refine Z8 ?_
 refine Rt1 ?_
 exact VLe.prop (by simp)
end Go.Proofs.YtgboekefmedapaaGreatDoor
end
