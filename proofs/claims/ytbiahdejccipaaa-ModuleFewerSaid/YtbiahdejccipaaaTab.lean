/-
  CLOSED FACTS of the translation, by program. No macro, no axiom.
-/
import Derived.Test.YtbiahdejccipaaaHlF
import Derived.Test.YtbiahdejccipaaaChecked
namespace Go.Proofs
open Go.Hl

theorem Try.cb3 : callB Try.prog 3 = true := by kernel_rfl
theorem Try.cb4 : callB Try.prog 4 = true := by kernel_rfl
theorem Try.cb5 : callB Try.prog 5 = true := by kernel_rfl
theorem Try.cb6 : callB Try.prog 6 = true := by kernel_rfl
theorem Try.cb7 : callB Try.prog 7 = true := by kernel_rfl
theorem Try.cb8 : callB Try.prog 8 = true := by kernel_rfl
theorem Try.cb9 : callB Try.prog 9 = true := by kernel_rfl
theorem Try.cb10 : callB Try.prog 10 = true := by kernel_rfl
theorem Try.cb11 : callB Try.prog 11 = true := by kernel_rfl
theorem Try.cb12 : callB Try.prog 12 = true := by kernel_rfl
theorem Try.cb13 : callB Try.prog 13 = true := by kernel_rfl
theorem Try.cb14 : callB Try.prog 14 = true := by kernel_rfl
theorem Try.cb15 : callB Try.prog 15 = true := by kernel_rfl
theorem Try.cb16 : callB Try.prog 16 = true := by kernel_rfl
theorem Try.cb17 : callB Try.prog 17 = true := by kernel_rfl
theorem Try.cb18 : callB Try.prog 18 = true := by kernel_rfl
theorem Try.cb19 : callB Try.prog 19 = true := by kernel_rfl
theorem Try.cb20 : callB Try.prog 20 = true := by kernel_rfl
theorem Try.cb21 : callB Try.prog 21 = true := by kernel_rfl
theorem Try.cb22 : callB Try.prog 22 = true := by kernel_rfl
theorem Try.cb23 : callB Try.prog 23 = true := by kernel_rfl
theorem Try.cb24 : callB Try.prog 24 = true := by kernel_rfl
theorem Try.cb25 : callB Try.prog 25 = true := by kernel_rfl
theorem Try.cb26 : callB Try.prog 26 = true := by kernel_rfl
theorem Try.cb27 : callB Try.prog 27 = true := by kernel_rfl
theorem Try.cb28 : callB Try.prog 28 = true := by kernel_rfl
theorem Try.cb29 : callB Try.prog 29 = true := by kernel_rfl
theorem Try.cb30 : callB Try.prog 30 = true := by kernel_rfl
theorem Try.cb31 : callB Try.prog 31 = true := by kernel_rfl
theorem Try.cb32 : callB Try.prog 32 = true := by kernel_rfl
theorem Try.cb33 : callB Try.prog 33 = true := by kernel_rfl
theorem Try.cb34 : callB Try.prog 34 = true := by kernel_rfl
theorem Try.cb35 : callB Try.prog 35 = true := by kernel_rfl
theorem Try.cb36 : callB Try.prog 36 = true := by kernel_rfl
theorem Try.cb37 : callB Try.prog 37 = true := by kernel_rfl
theorem Try.cb38 : callB Try.prog 38 = true := by kernel_rfl
theorem Try.cb39 : callB Try.prog 39 = true := by kernel_rfl
theorem Try.cb40 : callB Try.prog 40 = true := by kernel_rfl
theorem Try.cb41 : callB Try.prog 41 = true := by kernel_rfl
theorem Try.cb42 : callB Try.prog 42 = true := by kernel_rfl
theorem Try.cb43 : callB Try.prog 43 = true := by kernel_rfl
theorem Try.cb44 : callB Try.prog 44 = true := by kernel_rfl
theorem Try.cb45 : callB Try.prog 45 = true := by kernel_rfl
theorem Try.cb46 : callB Try.prog 46 = true := by kernel_rfl
theorem Try.cb47 : callB Try.prog 47 = true := by kernel_rfl
theorem Try.cb48 : callB Try.prog 48 = true := by kernel_rfl
theorem Try.cb49 : callB Try.prog 49 = true := by kernel_rfl
theorem Try.cb50 : callB Try.prog 50 = true := by kernel_rfl
theorem Try.cb51 : callB Try.prog 51 = true := by kernel_rfl
theorem Try.cb52 : callB Try.prog 52 = true := by kernel_rfl
theorem Try.cb53 : callB Try.prog 53 = true := by kernel_rfl
theorem Try.cb54 : callB Try.prog 54 = true := by kernel_rfl
theorem Try.cb55 : callB Try.prog 55 = true := by kernel_rfl
theorem Try.cb56 : callB Try.prog 56 = true := by kernel_rfl
theorem Try.cb57 : callB Try.prog 57 = true := by kernel_rfl
theorem Try.cb58 : callB Try.prog 58 = true := by kernel_rfl
theorem Try.cb59 : callB Try.prog 59 = true := by kernel_rfl
theorem Try.cb60 : callB Try.prog 60 = true := by kernel_rfl
theorem Try.cb61 : callB Try.prog 61 = true := by kernel_rfl
theorem Try.cb62 : callB Try.prog 62 = true := by kernel_rfl
theorem Try.cb63 : callB Try.prog 63 = true := by kernel_rfl
theorem Try.cb64 : callB Try.prog 64 = true := by kernel_rfl
theorem Try.cb65 : callB Try.prog 65 = true := by kernel_rfl
theorem Try.cb66 : callB Try.prog 66 = true := by kernel_rfl
theorem Try.cb67 : callB Try.prog 67 = true := by kernel_rfl
theorem Try.cb68 : callB Try.prog 68 = true := by kernel_rfl
theorem Try.cb69 : callB Try.prog 69 = true := by kernel_rfl
theorem Try.cb70 : callB Try.prog 70 = true := by kernel_rfl
theorem Try.cb71 : callB Try.prog 71 = true := by kernel_rfl
theorem Try.cb72 : callB Try.prog 72 = true := by kernel_rfl
theorem Try.cb73 : callB Try.prog 73 = true := by kernel_rfl
theorem Try.cb74 : callB Try.prog 74 = true := by kernel_rfl
theorem Try.cb75 : callB Try.prog 75 = true := by kernel_rfl
theorem Try.cb76 : callB Try.prog 76 = true := by kernel_rfl
theorem Try.cb77 : callB Try.prog 77 = true := by kernel_rfl
theorem Try.cb78 : callB Try.prog 78 = true := by kernel_rfl
theorem Try.cb79 : callB Try.prog 79 = true := by kernel_rfl
theorem Try.cb80 : callB Try.prog 80 = true := by kernel_rfl
theorem Try.cb81 : callB Try.prog 81 = true := by kernel_rfl
theorem Try.cb82 : callB Try.prog 82 = true := by kernel_rfl
theorem Try.ag1 : aggB Try.prog 1 = some false := by kernel_rfl
theorem Try.cz1 : Try.prog.cellsOf 1 = 1 := by kernel_rfl
theorem Try.by1 : Try.prog.bytesOf 1 = 8 := by kernel_rfl
theorem Try.zb1 : zeroB Try.prog 1 = some [.nilFunc] := by kernel_rfl
theorem Try.ag2 : aggB Try.prog 2 = some false := by kernel_rfl
theorem Try.cz2 : Try.prog.cellsOf 2 = 1 := by kernel_rfl
theorem Try.by2 : Try.prog.bytesOf 2 = 8 := by kernel_rfl
theorem Try.zb2 : zeroB Try.prog 2 = some [.int .i64 0] := by kernel_rfl
theorem Try.ag3 : aggB Try.prog 3 = some false := by kernel_rfl
theorem Try.cz3 : Try.prog.cellsOf 3 = 1 := by kernel_rfl
theorem Try.by3 : Try.prog.bytesOf 3 = 8 := by kernel_rfl
theorem Try.zb3 : zeroB Try.prog 3 = some [.int .i64 0] := by kernel_rfl
theorem Try.ag4 : aggB Try.prog 4 = some false := by kernel_rfl
theorem Try.cz4 : Try.prog.cellsOf 4 = 1 := by kernel_rfl
theorem Try.by4 : Try.prog.bytesOf 4 = 1 := by kernel_rfl
theorem Try.zb4 : zeroB Try.prog 4 = some [.bool false] := by kernel_rfl
theorem Try.ag5 : aggB Try.prog 5 = some false := by kernel_rfl
theorem Try.cz5 : Try.prog.cellsOf 5 = 1 := by kernel_rfl
theorem Try.by5 : Try.prog.bytesOf 5 = 1 := by kernel_rfl
theorem Try.zb5 : zeroB Try.prog 5 = some [.int .u8 0] := by kernel_rfl
theorem Try.ag6 : aggB Try.prog 6 = some false := by kernel_rfl
theorem Try.cz6 : Try.prog.cellsOf 6 = 1 := by kernel_rfl
theorem Try.by6 : Try.prog.bytesOf 6 = 1 := by kernel_rfl
theorem Try.zb6 : zeroB Try.prog 6 = some [.int .u8 0] := by kernel_rfl
theorem Try.ag7 : aggB Try.prog 7 = some true := by kernel_rfl
theorem Try.cz7 : Try.prog.cellsOf 7 = 4 := by kernel_rfl
theorem Try.by7 : Try.prog.bytesOf 7 = 24 := by kernel_rfl
theorem Try.zb7 : zeroB Try.prog 7 = some [.int .i64 0, .int .i64 0, .bool false, .int .u8 0] := by kernel_rfl
theorem Try.pl7 : placesB Try.prog 7 = some [(0, 1), (1, 1), (2, 1), (3, 1)] := by kernel_rfl
theorem Try.fd7_0 : fieldB Try.prog 7 0 = some 0 := by kernel_rfl
theorem Try.fd7_1 : fieldB Try.prog 7 1 = some 1 := by kernel_rfl
theorem Try.fd7_2 : fieldB Try.prog 7 2 = some 2 := by kernel_rfl
theorem Try.fd7_3 : fieldB Try.prog 7 3 = some 3 := by kernel_rfl
theorem Try.ag8 : aggB Try.prog 8 = some true := by kernel_rfl
theorem Try.cz8 : Try.prog.cellsOf 8 = 4 := by kernel_rfl
theorem Try.by8 : Try.prog.bytesOf 8 = 24 := by kernel_rfl
theorem Try.zb8 : zeroB Try.prog 8 = some [.int .i64 0, .int .i64 0, .bool false, .int .u8 0] := by kernel_rfl
theorem Try.pl8 : placesB Try.prog 8 = some [(0, 1), (1, 1), (2, 1), (3, 1)] := by kernel_rfl
theorem Try.fd8_0 : fieldB Try.prog 8 0 = some 0 := by kernel_rfl
theorem Try.fd8_1 : fieldB Try.prog 8 1 = some 1 := by kernel_rfl
theorem Try.fd8_2 : fieldB Try.prog 8 2 = some 2 := by kernel_rfl
theorem Try.fd8_3 : fieldB Try.prog 8 3 = some 3 := by kernel_rfl
theorem Try.ag9 : aggB Try.prog 9 = some false := by kernel_rfl
theorem Try.cz9 : Try.prog.cellsOf 9 = 1 := by kernel_rfl
theorem Try.by9 : Try.prog.bytesOf 9 = 16 := by kernel_rfl
theorem Try.zb9 : zeroB Try.prog 9 = some [.string ⟨#[]⟩] := by kernel_rfl
theorem Try.ag10 : aggB Try.prog 10 = some false := by kernel_rfl
theorem Try.cz10 : Try.prog.cellsOf 10 = 1 := by kernel_rfl
theorem Try.by10 : Try.prog.bytesOf 10 = 16 := by kernel_rfl
theorem Try.zb10 : zeroB Try.prog 10 = some [.string ⟨#[]⟩] := by kernel_rfl
theorem Try.ag11 : aggB Try.prog 11 = some false := by kernel_rfl
theorem Try.cz11 : Try.prog.cellsOf 11 = 1 := by kernel_rfl
theorem Try.by11 : Try.prog.bytesOf 11 = 16 := by kernel_rfl
theorem Try.zb11 : zeroB Try.prog 11 = some [.string ⟨#[]⟩] := by kernel_rfl
theorem Try.ag12 : aggB Try.prog 12 = some false := by kernel_rfl
theorem Try.cz12 : Try.prog.cellsOf 12 = 1 := by kernel_rfl
theorem Try.by12 : Try.prog.bytesOf 12 = 8 := by kernel_rfl
theorem Try.zb12 : zeroB Try.prog 12 = some [.int .u64 0] := by kernel_rfl
theorem Try.ag13 : aggB Try.prog 13 = some true := by kernel_rfl
theorem Try.cz13 : Try.prog.cellsOf 13 = 2 := by kernel_rfl
theorem Try.by13 : Try.prog.bytesOf 13 = 24 := by kernel_rfl
theorem Try.zb13 : zeroB Try.prog 13 = some [.string ⟨#[]⟩, .int .u64 0] := by kernel_rfl
theorem Try.pl13 : placesB Try.prog 13 = some [(0, 1), (1, 1)] := by kernel_rfl
theorem Try.fd13_0 : fieldB Try.prog 13 0 = some 0 := by kernel_rfl
theorem Try.fd13_1 : fieldB Try.prog 13 1 = some 1 := by kernel_rfl
theorem Try.ag14 : aggB Try.prog 14 = some true := by kernel_rfl
theorem Try.cz14 : Try.prog.cellsOf 14 = 2 := by kernel_rfl
theorem Try.by14 : Try.prog.bytesOf 14 = 24 := by kernel_rfl
theorem Try.zb14 : zeroB Try.prog 14 = some [.string ⟨#[]⟩, .int .u64 0] := by kernel_rfl
theorem Try.pl14 : placesB Try.prog 14 = some [(0, 1), (1, 1)] := by kernel_rfl
theorem Try.fd14_0 : fieldB Try.prog 14 0 = some 0 := by kernel_rfl
theorem Try.fd14_1 : fieldB Try.prog 14 1 = some 1 := by kernel_rfl
theorem Try.ag15 : aggB Try.prog 15 = some false := by kernel_rfl
theorem Try.cz15 : Try.prog.cellsOf 15 = 1 := by kernel_rfl
theorem Try.by15 : Try.prog.bytesOf 15 = 8 := by kernel_rfl
theorem Try.zb15 : zeroB Try.prog 15 = some [.pointer none] := by kernel_rfl
theorem Try.ag16 : aggB Try.prog 16 = some false := by kernel_rfl
theorem Try.cz16 : Try.prog.cellsOf 16 = 1 := by kernel_rfl
theorem Try.by16 : Try.prog.bytesOf 16 = 8 := by kernel_rfl
theorem Try.zb16 : zeroB Try.prog 16 = some [.pointer none] := by kernel_rfl
theorem Try.ag17 : aggB Try.prog 17 = some false := by kernel_rfl
theorem Try.cz17 : Try.prog.cellsOf 17 = 1 := by kernel_rfl
theorem Try.by17 : Try.prog.bytesOf 17 = 8 := by kernel_rfl
theorem Try.zb17 : zeroB Try.prog 17 = some [.pointer none] := by kernel_rfl
theorem Try.ag18 : aggB Try.prog 18 = some true := by kernel_rfl
theorem Try.cz18 : Try.prog.cellsOf 18 = 1 := by kernel_rfl
theorem Try.by18 : Try.prog.bytesOf 18 = 8 := by kernel_rfl
theorem Try.zb18 : zeroB Try.prog 18 = some [.pointer none] := by kernel_rfl
theorem Try.pl18 : placesB Try.prog 18 = some [(0, 1)] := by kernel_rfl
theorem Try.fd18_0 : fieldB Try.prog 18 0 = some 0 := by kernel_rfl
theorem Try.ag19 : aggB Try.prog 19 = some true := by kernel_rfl
theorem Try.cz19 : Try.prog.cellsOf 19 = 1 := by kernel_rfl
theorem Try.by19 : Try.prog.bytesOf 19 = 8 := by kernel_rfl
theorem Try.zb19 : zeroB Try.prog 19 = some [.pointer none] := by kernel_rfl
theorem Try.pl19 : placesB Try.prog 19 = some [(0, 1)] := by kernel_rfl
theorem Try.fd19_0 : fieldB Try.prog 19 0 = some 0 := by kernel_rfl
theorem Try.ag20 : aggB Try.prog 20 = some false := by kernel_rfl
theorem Try.cz20 : Try.prog.cellsOf 20 = 1 := by kernel_rfl
theorem Try.by20 : Try.prog.bytesOf 20 = 16 := by kernel_rfl
theorem Try.zb20 : zeroB Try.prog 20 = some [.nilIface] := by kernel_rfl
theorem Try.ag21 : aggB Try.prog 21 = some false := by kernel_rfl
theorem Try.cz21 : Try.prog.cellsOf 21 = 1 := by kernel_rfl
theorem Try.by21 : Try.prog.bytesOf 21 = 4 := by kernel_rfl
theorem Try.zb21 : zeroB Try.prog 21 = some [.int .i32 0] := by kernel_rfl
theorem Try.ag22 : aggB Try.prog 22 = some false := by kernel_rfl
theorem Try.cz22 : Try.prog.cellsOf 22 = 1 := by kernel_rfl
theorem Try.by22 : Try.prog.bytesOf 22 = 24 := by kernel_rfl
theorem Try.zb22 : zeroB Try.prog 22 = some [.slice none 0 0] := by kernel_rfl
theorem Try.ag23 : aggB Try.prog 23 = some false := by kernel_rfl
theorem Try.cz23 : Try.prog.cellsOf 23 = 1 := by kernel_rfl
theorem Try.by23 : Try.prog.bytesOf 23 = 24 := by kernel_rfl
theorem Try.zb23 : zeroB Try.prog 23 = some [.slice none 0 0] := by kernel_rfl
theorem Try.ag24 : aggB Try.prog 24 = some false := by kernel_rfl
theorem Try.cz24 : Try.prog.cellsOf 24 = 1 := by kernel_rfl
theorem Try.by24 : Try.prog.bytesOf 24 = 24 := by kernel_rfl
theorem Try.zb24 : zeroB Try.prog 24 = some [.slice none 0 0] := by kernel_rfl
theorem Try.ag25 : aggB Try.prog 25 = some false := by kernel_rfl
theorem Try.cz25 : Try.prog.cellsOf 25 = 1 := by kernel_rfl
theorem Try.by25 : Try.prog.bytesOf 25 = 24 := by kernel_rfl
theorem Try.zb25 : zeroB Try.prog 25 = some [.slice none 0 0] := by kernel_rfl
theorem Try.ag26 : aggB Try.prog 26 = some false := by kernel_rfl
theorem Try.cz26 : Try.prog.cellsOf 26 = 1 := by kernel_rfl
theorem Try.by26 : Try.prog.bytesOf 26 = 24 := by kernel_rfl
theorem Try.zb26 : zeroB Try.prog 26 = some [.slice none 0 0] := by kernel_rfl
theorem Try.ag27 : aggB Try.prog 27 = some false := by kernel_rfl
theorem Try.cz27 : Try.prog.cellsOf 27 = 1 := by kernel_rfl
theorem Try.by27 : Try.prog.bytesOf 27 = 24 := by kernel_rfl
theorem Try.zb27 : zeroB Try.prog 27 = some [.slice none 0 0] := by kernel_rfl
theorem Try.ag28 : aggB Try.prog 28 = some false := by kernel_rfl
theorem Try.cz28 : Try.prog.cellsOf 28 = 1 := by kernel_rfl
theorem Try.by28 : Try.prog.bytesOf 28 = 24 := by kernel_rfl
theorem Try.zb28 : zeroB Try.prog 28 = some [.slice none 0 0] := by kernel_rfl
theorem Try.ag29 : aggB Try.prog 29 = some false := by kernel_rfl
theorem Try.cz29 : Try.prog.cellsOf 29 = 1 := by kernel_rfl
theorem Try.by29 : Try.prog.bytesOf 29 = 24 := by kernel_rfl
theorem Try.zb29 : zeroB Try.prog 29 = some [.slice none 0 0] := by kernel_rfl
theorem Try.ag30 : aggB Try.prog 30 = some true := by kernel_rfl
theorem Try.cz30 : Try.prog.cellsOf 30 = 10 := by kernel_rfl
theorem Try.by30 : Try.prog.bytesOf 30 = 208 := by kernel_rfl
theorem Try.zb30 : zeroB Try.prog 30 = some [.slice none 0 0, .slice none 0 0, .slice none 0 0, .int .i64 0, .slice none 0 0, .slice none 0 0, .slice none 0 0, .int .i64 0, .slice none 0 0, .slice none 0 0] := by kernel_rfl
theorem Try.pl30 : placesB Try.prog 30 = some [(0, 1), (1, 1), (2, 1), (3, 1), (4, 1), (5, 1), (6, 1), (7, 1), (8, 1), (9, 1)] := by kernel_rfl
theorem Try.fd30_0 : fieldB Try.prog 30 0 = some 0 := by kernel_rfl
theorem Try.fd30_1 : fieldB Try.prog 30 1 = some 1 := by kernel_rfl
theorem Try.fd30_2 : fieldB Try.prog 30 2 = some 2 := by kernel_rfl
theorem Try.fd30_3 : fieldB Try.prog 30 3 = some 3 := by kernel_rfl
theorem Try.fd30_4 : fieldB Try.prog 30 4 = some 4 := by kernel_rfl
theorem Try.fd30_5 : fieldB Try.prog 30 5 = some 5 := by kernel_rfl
theorem Try.fd30_6 : fieldB Try.prog 30 6 = some 6 := by kernel_rfl
theorem Try.fd30_7 : fieldB Try.prog 30 7 = some 7 := by kernel_rfl
theorem Try.fd30_8 : fieldB Try.prog 30 8 = some 8 := by kernel_rfl
theorem Try.fd30_9 : fieldB Try.prog 30 9 = some 9 := by kernel_rfl
theorem Try.ag31 : aggB Try.prog 31 = some true := by kernel_rfl
theorem Try.cz31 : Try.prog.cellsOf 31 = 10 := by kernel_rfl
theorem Try.by31 : Try.prog.bytesOf 31 = 208 := by kernel_rfl
theorem Try.zb31 : zeroB Try.prog 31 = some [.slice none 0 0, .slice none 0 0, .slice none 0 0, .int .i64 0, .slice none 0 0, .slice none 0 0, .slice none 0 0, .int .i64 0, .slice none 0 0, .slice none 0 0] := by kernel_rfl
theorem Try.pl31 : placesB Try.prog 31 = some [(0, 1), (1, 1), (2, 1), (3, 1), (4, 1), (5, 1), (6, 1), (7, 1), (8, 1), (9, 1)] := by kernel_rfl
theorem Try.sh31 : Try.prog.stoodInHeld 31 = false := by kernel_rfl
theorem Try.eg31 : Try.prog.eqGuardType Try.prog.depth 31 = false := by kernel_rfl
theorem Try.fd31_0 : fieldB Try.prog 31 0 = some 0 := by kernel_rfl
theorem Try.fd31_1 : fieldB Try.prog 31 1 = some 1 := by kernel_rfl
theorem Try.fd31_2 : fieldB Try.prog 31 2 = some 2 := by kernel_rfl
theorem Try.fd31_3 : fieldB Try.prog 31 3 = some 3 := by kernel_rfl
theorem Try.fd31_4 : fieldB Try.prog 31 4 = some 4 := by kernel_rfl
theorem Try.fd31_5 : fieldB Try.prog 31 5 = some 5 := by kernel_rfl
theorem Try.fd31_6 : fieldB Try.prog 31 6 = some 6 := by kernel_rfl
theorem Try.fd31_7 : fieldB Try.prog 31 7 = some 7 := by kernel_rfl
theorem Try.fd31_8 : fieldB Try.prog 31 8 = some 8 := by kernel_rfl
theorem Try.fd31_9 : fieldB Try.prog 31 9 = some 9 := by kernel_rfl
theorem Try.ag32 : aggB Try.prog 32 = some false := by kernel_rfl
theorem Try.cz32 : Try.prog.cellsOf 32 = 1 := by kernel_rfl
theorem Try.by32 : Try.prog.bytesOf 32 = 8 := by kernel_rfl
theorem Try.zb32 : zeroB Try.prog 32 = some [.nilFunc] := by kernel_rfl
theorem Try.ag33 : aggB Try.prog 33 = some false := by kernel_rfl
theorem Try.cz33 : Try.prog.cellsOf 33 = 1 := by kernel_rfl
theorem Try.by33 : Try.prog.bytesOf 33 = 8 := by kernel_rfl
theorem Try.zb33 : zeroB Try.prog 33 = some [.nilFunc] := by kernel_rfl
theorem Try.ag35 : aggB Try.prog 35 = some false := by kernel_rfl
theorem Try.cz35 : Try.prog.cellsOf 35 = 1 := by kernel_rfl
theorem Try.by35 : Try.prog.bytesOf 35 = 8 := by kernel_rfl
theorem Try.zb35 : zeroB Try.prog 35 = some [.nilFunc] := by kernel_rfl
theorem Try.ag36 : aggB Try.prog 36 = some false := by kernel_rfl
theorem Try.cz36 : Try.prog.cellsOf 36 = 1 := by kernel_rfl
theorem Try.by36 : Try.prog.bytesOf 36 = 8 := by kernel_rfl
theorem Try.zb36 : zeroB Try.prog 36 = some [.int .i64 0] := by kernel_rfl
theorem Try.ag38 : aggB Try.prog 38 = some false := by kernel_rfl
theorem Try.cz38 : Try.prog.cellsOf 38 = 1 := by kernel_rfl
theorem Try.by38 : Try.prog.bytesOf 38 = 8 := by kernel_rfl
theorem Try.zb38 : zeroB Try.prog 38 = some [.pointer none] := by kernel_rfl
theorem Try.ag39 : aggB Try.prog 39 = some false := by kernel_rfl
theorem Try.cz39 : Try.prog.cellsOf 39 = 1 := by kernel_rfl
theorem Try.by39 : Try.prog.bytesOf 39 = 8 := by kernel_rfl
theorem Try.zb39 : zeroB Try.prog 39 = some [.nilFunc] := by kernel_rfl
theorem Try.ag40 : aggB Try.prog 40 = some false := by kernel_rfl
theorem Try.cz40 : Try.prog.cellsOf 40 = 1 := by kernel_rfl
theorem Try.by40 : Try.prog.bytesOf 40 = 8 := by kernel_rfl
theorem Try.zb40 : zeroB Try.prog 40 = some [.nilFunc] := by kernel_rfl
theorem Try.ag41 : aggB Try.prog 41 = some false := by kernel_rfl
theorem Try.cz41 : Try.prog.cellsOf 41 = 1 := by kernel_rfl
theorem Try.by41 : Try.prog.bytesOf 41 = 8 := by kernel_rfl
theorem Try.zb41 : zeroB Try.prog 41 = some [.nilFunc] := by kernel_rfl
theorem Try.ag42 : aggB Try.prog 42 = some false := by kernel_rfl
theorem Try.cz42 : Try.prog.cellsOf 42 = 1 := by kernel_rfl
theorem Try.by42 : Try.prog.bytesOf 42 = 8 := by kernel_rfl
theorem Try.zb42 : zeroB Try.prog 42 = some [.nilFunc] := by kernel_rfl
theorem Try.ag43 : aggB Try.prog 43 = some false := by kernel_rfl
theorem Try.cz43 : Try.prog.cellsOf 43 = 1 := by kernel_rfl
theorem Try.by43 : Try.prog.bytesOf 43 = 8 := by kernel_rfl
theorem Try.zb43 : zeroB Try.prog 43 = some [.nilFunc] := by kernel_rfl
theorem Try.ag44 : aggB Try.prog 44 = some false := by kernel_rfl
theorem Try.cz44 : Try.prog.cellsOf 44 = 1 := by kernel_rfl
theorem Try.by44 : Try.prog.bytesOf 44 = 24 := by kernel_rfl
theorem Try.zb44 : zeroB Try.prog 44 = some [.slice none 0 0] := by kernel_rfl
theorem Try.ag45 : aggB Try.prog 45 = some true := by kernel_rfl
theorem Try.cz45 : Try.prog.cellsOf 45 = 2 := by kernel_rfl
theorem Try.by45 : Try.prog.bytesOf 45 = 48 := by kernel_rfl
theorem Try.zb45 : zeroB Try.prog 45 = some [.slice none 0 0, .slice none 0 0] := by kernel_rfl
theorem Try.pl45 : placesB Try.prog 45 = some [(0, 1), (1, 1)] := by kernel_rfl
theorem Try.fd45_0 : fieldB Try.prog 45 0 = some 0 := by kernel_rfl
theorem Try.fd45_1 : fieldB Try.prog 45 1 = some 1 := by kernel_rfl
theorem Try.ag46 : aggB Try.prog 46 = some true := by kernel_rfl
theorem Try.cz46 : Try.prog.cellsOf 46 = 2 := by kernel_rfl
theorem Try.by46 : Try.prog.bytesOf 46 = 48 := by kernel_rfl
theorem Try.zb46 : zeroB Try.prog 46 = some [.slice none 0 0, .slice none 0 0] := by kernel_rfl
theorem Try.pl46 : placesB Try.prog 46 = some [(0, 1), (1, 1)] := by kernel_rfl
theorem Try.sh46 : Try.prog.stoodInHeld 46 = false := by kernel_rfl
theorem Try.eg46 : Try.prog.eqGuardType Try.prog.depth 46 = false := by kernel_rfl
theorem Try.fd46_0 : fieldB Try.prog 46 0 = some 0 := by kernel_rfl
theorem Try.fd46_1 : fieldB Try.prog 46 1 = some 1 := by kernel_rfl
theorem Try.ag48 : aggB Try.prog 48 = some false := by kernel_rfl
theorem Try.cz48 : Try.prog.cellsOf 48 = 1 := by kernel_rfl
theorem Try.by48 : Try.prog.bytesOf 48 = 8 := by kernel_rfl
theorem Try.zb48 : zeroB Try.prog 48 = some [.nilFunc] := by kernel_rfl
theorem Try.ag49 : aggB Try.prog 49 = some false := by kernel_rfl
theorem Try.cz49 : Try.prog.cellsOf 49 = 1 := by kernel_rfl
theorem Try.by49 : Try.prog.bytesOf 49 = 8 := by kernel_rfl
theorem Try.zb49 : zeroB Try.prog 49 = some [.nilFunc] := by kernel_rfl
theorem Try.ag50 : aggB Try.prog 50 = some false := by kernel_rfl
theorem Try.cz50 : Try.prog.cellsOf 50 = 1 := by kernel_rfl
theorem Try.by50 : Try.prog.bytesOf 50 = 24 := by kernel_rfl
theorem Try.zb50 : zeroB Try.prog 50 = some [.slice none 0 0] := by kernel_rfl
theorem Try.ag51 : aggB Try.prog 51 = some true := by kernel_rfl
theorem Try.cz51 : Try.prog.cellsOf 51 = 2 := by kernel_rfl
theorem Try.by51 : Try.prog.bytesOf 51 = 48 := by kernel_rfl
theorem Try.zb51 : zeroB Try.prog 51 = some [.slice none 0 0, .slice none 0 0] := by kernel_rfl
theorem Try.pl51 : placesB Try.prog 51 = some [(0, 1), (1, 1)] := by kernel_rfl
theorem Try.fd51_0 : fieldB Try.prog 51 0 = some 0 := by kernel_rfl
theorem Try.fd51_1 : fieldB Try.prog 51 1 = some 1 := by kernel_rfl
theorem Try.ag52 : aggB Try.prog 52 = some true := by kernel_rfl
theorem Try.cz52 : Try.prog.cellsOf 52 = 2 := by kernel_rfl
theorem Try.by52 : Try.prog.bytesOf 52 = 48 := by kernel_rfl
theorem Try.zb52 : zeroB Try.prog 52 = some [.slice none 0 0, .slice none 0 0] := by kernel_rfl
theorem Try.pl52 : placesB Try.prog 52 = some [(0, 1), (1, 1)] := by kernel_rfl
theorem Try.sh52 : Try.prog.stoodInHeld 52 = false := by kernel_rfl
theorem Try.eg52 : Try.prog.eqGuardType Try.prog.depth 52 = false := by kernel_rfl
theorem Try.fd52_0 : fieldB Try.prog 52 0 = some 0 := by kernel_rfl
theorem Try.fd52_1 : fieldB Try.prog 52 1 = some 1 := by kernel_rfl
theorem Try.ag53 : aggB Try.prog 53 = some false := by kernel_rfl
theorem Try.cz53 : Try.prog.cellsOf 53 = 1 := by kernel_rfl
theorem Try.by53 : Try.prog.bytesOf 53 = 8 := by kernel_rfl
theorem Try.zb53 : zeroB Try.prog 53 = some [.nilFunc] := by kernel_rfl
theorem Try.ag54 : aggB Try.prog 54 = some false := by kernel_rfl
theorem Try.cz54 : Try.prog.cellsOf 54 = 1 := by kernel_rfl
theorem Try.by54 : Try.prog.bytesOf 54 = 8 := by kernel_rfl
theorem Try.zb54 : zeroB Try.prog 54 = some [.nilFunc] := by kernel_rfl
theorem Try.ag55 : aggB Try.prog 55 = some false := by kernel_rfl
theorem Try.cz55 : Try.prog.cellsOf 55 = 1 := by kernel_rfl
theorem Try.by55 : Try.prog.bytesOf 55 = 8 := by kernel_rfl
theorem Try.zb55 : zeroB Try.prog 55 = some [.nilFunc] := by kernel_rfl
theorem Try.ag56 : aggB Try.prog 56 = some true := by kernel_rfl
theorem Try.cz56 : Try.prog.cellsOf 56 = 3 := by kernel_rfl
theorem Try.by56 : Try.prog.bytesOf 56 = 32 := by kernel_rfl
theorem Try.zb56 : zeroB Try.prog 56 = some [.string ⟨#[]⟩, .int .i64 0, .int .i64 0] := by kernel_rfl
theorem Try.pl56 : placesB Try.prog 56 = some [(0, 1), (1, 1), (2, 1)] := by kernel_rfl
theorem Try.fd56_0 : fieldB Try.prog 56 0 = some 0 := by kernel_rfl
theorem Try.fd56_1 : fieldB Try.prog 56 1 = some 1 := by kernel_rfl
theorem Try.fd56_2 : fieldB Try.prog 56 2 = some 2 := by kernel_rfl
theorem Try.ag57 : aggB Try.prog 57 = some true := by kernel_rfl
theorem Try.cz57 : Try.prog.cellsOf 57 = 3 := by kernel_rfl
theorem Try.by57 : Try.prog.bytesOf 57 = 32 := by kernel_rfl
theorem Try.zb57 : zeroB Try.prog 57 = some [.string ⟨#[]⟩, .int .i64 0, .int .i64 0] := by kernel_rfl
theorem Try.pl57 : placesB Try.prog 57 = some [(0, 1), (1, 1), (2, 1)] := by kernel_rfl
theorem Try.sh57 : Try.prog.stoodInHeld 57 = false := by kernel_rfl
theorem Try.eg57 : Try.prog.eqGuardType Try.prog.depth 57 = false := by kernel_rfl
theorem Try.fd57_0 : fieldB Try.prog 57 0 = some 0 := by kernel_rfl
theorem Try.fd57_1 : fieldB Try.prog 57 1 = some 1 := by kernel_rfl
theorem Try.fd57_2 : fieldB Try.prog 57 2 = some 2 := by kernel_rfl
theorem Try.ag59 : aggB Try.prog 59 = some false := by kernel_rfl
theorem Try.cz59 : Try.prog.cellsOf 59 = 1 := by kernel_rfl
theorem Try.by59 : Try.prog.bytesOf 59 = 8 := by kernel_rfl
theorem Try.zb59 : zeroB Try.prog 59 = some [.nilFunc] := by kernel_rfl
theorem Try.ag60 : aggB Try.prog 60 = some false := by kernel_rfl
theorem Try.cz60 : Try.prog.cellsOf 60 = 1 := by kernel_rfl
theorem Try.by60 : Try.prog.bytesOf 60 = 8 := by kernel_rfl
theorem Try.zb60 : zeroB Try.prog 60 = some [.nilFunc] := by kernel_rfl
theorem Try.ag61 : aggB Try.prog 61 = some true := by kernel_rfl
theorem Try.cz61 : Try.prog.cellsOf 61 = 3 := by kernel_rfl
theorem Try.by61 : Try.prog.bytesOf 61 = 40 := by kernel_rfl
theorem Try.zb61 : zeroB Try.prog 61 = some [.string ⟨#[]⟩, .string ⟨#[]⟩, .int .i64 0] := by kernel_rfl
theorem Try.pl61 : placesB Try.prog 61 = some [(0, 1), (1, 1), (2, 1)] := by kernel_rfl
theorem Try.fd61_0 : fieldB Try.prog 61 0 = some 0 := by kernel_rfl
theorem Try.fd61_1 : fieldB Try.prog 61 1 = some 1 := by kernel_rfl
theorem Try.fd61_2 : fieldB Try.prog 61 2 = some 2 := by kernel_rfl
theorem Try.ag62 : aggB Try.prog 62 = some true := by kernel_rfl
theorem Try.cz62 : Try.prog.cellsOf 62 = 3 := by kernel_rfl
theorem Try.by62 : Try.prog.bytesOf 62 = 40 := by kernel_rfl
theorem Try.zb62 : zeroB Try.prog 62 = some [.string ⟨#[]⟩, .string ⟨#[]⟩, .int .i64 0] := by kernel_rfl
theorem Try.pl62 : placesB Try.prog 62 = some [(0, 1), (1, 1), (2, 1)] := by kernel_rfl
theorem Try.sh62 : Try.prog.stoodInHeld 62 = false := by kernel_rfl
theorem Try.eg62 : Try.prog.eqGuardType Try.prog.depth 62 = false := by kernel_rfl
theorem Try.fd62_0 : fieldB Try.prog 62 0 = some 0 := by kernel_rfl
theorem Try.fd62_1 : fieldB Try.prog 62 1 = some 1 := by kernel_rfl
theorem Try.fd62_2 : fieldB Try.prog 62 2 = some 2 := by kernel_rfl
theorem Try.ag63 : aggB Try.prog 63 = some false := by kernel_rfl
theorem Try.cz63 : Try.prog.cellsOf 63 = 1 := by kernel_rfl
theorem Try.by63 : Try.prog.bytesOf 63 = 24 := by kernel_rfl
theorem Try.zb63 : zeroB Try.prog 63 = some [.slice none 0 0] := by kernel_rfl
theorem Try.ag64 : aggB Try.prog 64 = some true := by kernel_rfl
theorem Try.cz64 : Try.prog.cellsOf 64 = 2 := by kernel_rfl
theorem Try.by64 : Try.prog.bytesOf 64 = 48 := by kernel_rfl
theorem Try.zb64 : zeroB Try.prog 64 = some [.slice none 0 0, .slice none 0 0] := by kernel_rfl
theorem Try.pl64 : placesB Try.prog 64 = some [(0, 1), (1, 1)] := by kernel_rfl
theorem Try.fd64_0 : fieldB Try.prog 64 0 = some 0 := by kernel_rfl
theorem Try.fd64_1 : fieldB Try.prog 64 1 = some 1 := by kernel_rfl
theorem Try.ag65 : aggB Try.prog 65 = some true := by kernel_rfl
theorem Try.cz65 : Try.prog.cellsOf 65 = 2 := by kernel_rfl
theorem Try.by65 : Try.prog.bytesOf 65 = 48 := by kernel_rfl
theorem Try.zb65 : zeroB Try.prog 65 = some [.slice none 0 0, .slice none 0 0] := by kernel_rfl
theorem Try.pl65 : placesB Try.prog 65 = some [(0, 1), (1, 1)] := by kernel_rfl
theorem Try.sh65 : Try.prog.stoodInHeld 65 = false := by kernel_rfl
theorem Try.eg65 : Try.prog.eqGuardType Try.prog.depth 65 = false := by kernel_rfl
theorem Try.fd65_0 : fieldB Try.prog 65 0 = some 0 := by kernel_rfl
theorem Try.fd65_1 : fieldB Try.prog 65 1 = some 1 := by kernel_rfl
theorem Try.ag66 : aggB Try.prog 66 = some true := by kernel_rfl
theorem Try.cz66 : Try.prog.cellsOf 66 = 3 := by kernel_rfl
theorem Try.by66 : Try.prog.bytesOf 66 = 56 := by kernel_rfl
theorem Try.zb66 : zeroB Try.prog 66 = some [.int .i64 0, .slice none 0 0, .slice none 0 0] := by kernel_rfl
theorem Try.pl66 : placesB Try.prog 66 = some [(0, 1), (1, 2)] := by kernel_rfl
theorem Try.fd66_0 : fieldB Try.prog 66 0 = some 0 := by kernel_rfl
theorem Try.fd66_1 : fieldB Try.prog 66 1 = some 1 := by kernel_rfl
theorem Try.ag67 : aggB Try.prog 67 = some true := by kernel_rfl
theorem Try.cz67 : Try.prog.cellsOf 67 = 3 := by kernel_rfl
theorem Try.by67 : Try.prog.bytesOf 67 = 56 := by kernel_rfl
theorem Try.zb67 : zeroB Try.prog 67 = some [.int .i64 0, .slice none 0 0, .slice none 0 0] := by kernel_rfl
theorem Try.pl67 : placesB Try.prog 67 = some [(0, 1), (1, 2)] := by kernel_rfl
theorem Try.sh67 : Try.prog.stoodInHeld 67 = false := by kernel_rfl
theorem Try.eg67 : Try.prog.eqGuardType Try.prog.depth 67 = false := by kernel_rfl
theorem Try.fd67_0 : fieldB Try.prog 67 0 = some 0 := by kernel_rfl
theorem Try.fd67_1 : fieldB Try.prog 67 1 = some 1 := by kernel_rfl
theorem Try.ag68 : aggB Try.prog 68 = some false := by kernel_rfl
theorem Try.cz68 : Try.prog.cellsOf 68 = 1 := by kernel_rfl
theorem Try.by68 : Try.prog.bytesOf 68 = 8 := by kernel_rfl
theorem Try.zb68 : zeroB Try.prog 68 = some [.nilFunc] := by kernel_rfl
theorem Try.ag69 : aggB Try.prog 69 = some false := by kernel_rfl
theorem Try.cz69 : Try.prog.cellsOf 69 = 1 := by kernel_rfl
theorem Try.by69 : Try.prog.bytesOf 69 = 24 := by kernel_rfl
theorem Try.zb69 : zeroB Try.prog 69 = some [.slice none 0 0] := by kernel_rfl
theorem Try.ag70 : aggB Try.prog 70 = some true := by kernel_rfl
theorem Try.cz70 : Try.prog.cellsOf 70 = 2 := by kernel_rfl
theorem Try.by70 : Try.prog.bytesOf 70 = 48 := by kernel_rfl
theorem Try.zb70 : zeroB Try.prog 70 = some [.slice none 0 0, .slice none 0 0] := by kernel_rfl
theorem Try.pl70 : placesB Try.prog 70 = some [(0, 1), (1, 1)] := by kernel_rfl
theorem Try.fd70_0 : fieldB Try.prog 70 0 = some 0 := by kernel_rfl
theorem Try.fd70_1 : fieldB Try.prog 70 1 = some 1 := by kernel_rfl
theorem Try.ag71 : aggB Try.prog 71 = some true := by kernel_rfl
theorem Try.cz71 : Try.prog.cellsOf 71 = 2 := by kernel_rfl
theorem Try.by71 : Try.prog.bytesOf 71 = 48 := by kernel_rfl
theorem Try.zb71 : zeroB Try.prog 71 = some [.slice none 0 0, .slice none 0 0] := by kernel_rfl
theorem Try.pl71 : placesB Try.prog 71 = some [(0, 1), (1, 1)] := by kernel_rfl
theorem Try.sh71 : Try.prog.stoodInHeld 71 = false := by kernel_rfl
theorem Try.eg71 : Try.prog.eqGuardType Try.prog.depth 71 = false := by kernel_rfl
theorem Try.fd71_0 : fieldB Try.prog 71 0 = some 0 := by kernel_rfl
theorem Try.fd71_1 : fieldB Try.prog 71 1 = some 1 := by kernel_rfl
theorem Try.ag72 : aggB Try.prog 72 = some true := by kernel_rfl
theorem Try.cz72 : Try.prog.cellsOf 72 = 3 := by kernel_rfl
theorem Try.by72 : Try.prog.bytesOf 72 = 56 := by kernel_rfl
theorem Try.zb72 : zeroB Try.prog 72 = some [.int .i64 0, .slice none 0 0, .slice none 0 0] := by kernel_rfl
theorem Try.pl72 : placesB Try.prog 72 = some [(0, 1), (1, 2)] := by kernel_rfl
theorem Try.fd72_0 : fieldB Try.prog 72 0 = some 0 := by kernel_rfl
theorem Try.fd72_1 : fieldB Try.prog 72 1 = some 1 := by kernel_rfl
theorem Try.ag73 : aggB Try.prog 73 = some true := by kernel_rfl
theorem Try.cz73 : Try.prog.cellsOf 73 = 3 := by kernel_rfl
theorem Try.by73 : Try.prog.bytesOf 73 = 56 := by kernel_rfl
theorem Try.zb73 : zeroB Try.prog 73 = some [.int .i64 0, .slice none 0 0, .slice none 0 0] := by kernel_rfl
theorem Try.pl73 : placesB Try.prog 73 = some [(0, 1), (1, 2)] := by kernel_rfl
theorem Try.sh73 : Try.prog.stoodInHeld 73 = false := by kernel_rfl
theorem Try.eg73 : Try.prog.eqGuardType Try.prog.depth 73 = false := by kernel_rfl
theorem Try.fd73_0 : fieldB Try.prog 73 0 = some 0 := by kernel_rfl
theorem Try.fd73_1 : fieldB Try.prog 73 1 = some 1 := by kernel_rfl
theorem Try.ag74 : aggB Try.prog 74 = some false := by kernel_rfl
theorem Try.cz74 : Try.prog.cellsOf 74 = 1 := by kernel_rfl
theorem Try.by74 : Try.prog.bytesOf 74 = 24 := by kernel_rfl
theorem Try.zb74 : zeroB Try.prog 74 = some [.slice none 0 0] := by kernel_rfl
theorem Try.ag75 : aggB Try.prog 75 = some false := by kernel_rfl
theorem Try.cz75 : Try.prog.cellsOf 75 = 1 := by kernel_rfl
theorem Try.by75 : Try.prog.bytesOf 75 = 24 := by kernel_rfl
theorem Try.zb75 : zeroB Try.prog 75 = some [.slice none 0 0] := by kernel_rfl
theorem Try.ag76 : aggB Try.prog 76 = some true := by kernel_rfl
theorem Try.cz76 : Try.prog.cellsOf 76 = 10 := by kernel_rfl
theorem Try.by76 : Try.prog.bytesOf 76 = 208 := by kernel_rfl
theorem Try.zb76 : zeroB Try.prog 76 = some [.slice none 0 0, .slice none 0 0, .slice none 0 0, .int .i64 0, .slice none 0 0, .slice none 0 0, .slice none 0 0, .int .i64 0, .slice none 0 0, .slice none 0 0] := by kernel_rfl
theorem Try.pl76 : placesB Try.prog 76 = some [(0, 1), (1, 1), (2, 1), (3, 1), (4, 1), (5, 1), (6, 1), (7, 1), (8, 1), (9, 1)] := by kernel_rfl
theorem Try.fd76_0 : fieldB Try.prog 76 0 = some 0 := by kernel_rfl
theorem Try.fd76_1 : fieldB Try.prog 76 1 = some 1 := by kernel_rfl
theorem Try.fd76_2 : fieldB Try.prog 76 2 = some 2 := by kernel_rfl
theorem Try.fd76_3 : fieldB Try.prog 76 3 = some 3 := by kernel_rfl
theorem Try.fd76_4 : fieldB Try.prog 76 4 = some 4 := by kernel_rfl
theorem Try.fd76_5 : fieldB Try.prog 76 5 = some 5 := by kernel_rfl
theorem Try.fd76_6 : fieldB Try.prog 76 6 = some 6 := by kernel_rfl
theorem Try.fd76_7 : fieldB Try.prog 76 7 = some 7 := by kernel_rfl
theorem Try.fd76_8 : fieldB Try.prog 76 8 = some 8 := by kernel_rfl
theorem Try.fd76_9 : fieldB Try.prog 76 9 = some 9 := by kernel_rfl
theorem Try.ag77 : aggB Try.prog 77 = some true := by kernel_rfl
theorem Try.cz77 : Try.prog.cellsOf 77 = 10 := by kernel_rfl
theorem Try.by77 : Try.prog.bytesOf 77 = 208 := by kernel_rfl
theorem Try.zb77 : zeroB Try.prog 77 = some [.slice none 0 0, .slice none 0 0, .slice none 0 0, .int .i64 0, .slice none 0 0, .slice none 0 0, .slice none 0 0, .int .i64 0, .slice none 0 0, .slice none 0 0] := by kernel_rfl
theorem Try.pl77 : placesB Try.prog 77 = some [(0, 1), (1, 1), (2, 1), (3, 1), (4, 1), (5, 1), (6, 1), (7, 1), (8, 1), (9, 1)] := by kernel_rfl
theorem Try.sh77 : Try.prog.stoodInHeld 77 = false := by kernel_rfl
theorem Try.eg77 : Try.prog.eqGuardType Try.prog.depth 77 = false := by kernel_rfl
theorem Try.fd77_0 : fieldB Try.prog 77 0 = some 0 := by kernel_rfl
theorem Try.fd77_1 : fieldB Try.prog 77 1 = some 1 := by kernel_rfl
theorem Try.fd77_2 : fieldB Try.prog 77 2 = some 2 := by kernel_rfl
theorem Try.fd77_3 : fieldB Try.prog 77 3 = some 3 := by kernel_rfl
theorem Try.fd77_4 : fieldB Try.prog 77 4 = some 4 := by kernel_rfl
theorem Try.fd77_5 : fieldB Try.prog 77 5 = some 5 := by kernel_rfl
theorem Try.fd77_6 : fieldB Try.prog 77 6 = some 6 := by kernel_rfl
theorem Try.fd77_7 : fieldB Try.prog 77 7 = some 7 := by kernel_rfl
theorem Try.fd77_8 : fieldB Try.prog 77 8 = some 8 := by kernel_rfl
theorem Try.fd77_9 : fieldB Try.prog 77 9 = some 9 := by kernel_rfl
theorem Try.ag78 : aggB Try.prog 78 = some true := by kernel_rfl
theorem Try.cz78 : Try.prog.cellsOf 78 = 3 := by kernel_rfl
theorem Try.by78 : Try.prog.bytesOf 78 = 24 := by kernel_rfl
theorem Try.zb78 : zeroB Try.prog 78 = some [.int .i64 0, .int .i64 0, .bool false] := by kernel_rfl
theorem Try.pl78 : placesB Try.prog 78 = some [(0, 1), (1, 1), (2, 1)] := by kernel_rfl
theorem Try.fd78_0 : fieldB Try.prog 78 0 = some 0 := by kernel_rfl
theorem Try.fd78_1 : fieldB Try.prog 78 1 = some 1 := by kernel_rfl
theorem Try.fd78_2 : fieldB Try.prog 78 2 = some 2 := by kernel_rfl
theorem Try.ag79 : aggB Try.prog 79 = some true := by kernel_rfl
theorem Try.cz79 : Try.prog.cellsOf 79 = 3 := by kernel_rfl
theorem Try.by79 : Try.prog.bytesOf 79 = 24 := by kernel_rfl
theorem Try.zb79 : zeroB Try.prog 79 = some [.int .i64 0, .int .i64 0, .bool false] := by kernel_rfl
theorem Try.pl79 : placesB Try.prog 79 = some [(0, 1), (1, 1), (2, 1)] := by kernel_rfl
theorem Try.sh79 : Try.prog.stoodInHeld 79 = false := by kernel_rfl
theorem Try.eg79 : Try.prog.eqGuardType Try.prog.depth 79 = false := by kernel_rfl
theorem Try.fd79_0 : fieldB Try.prog 79 0 = some 0 := by kernel_rfl
theorem Try.fd79_1 : fieldB Try.prog 79 1 = some 1 := by kernel_rfl
theorem Try.fd79_2 : fieldB Try.prog 79 2 = some 2 := by kernel_rfl
theorem Try.ag80 : aggB Try.prog 80 = some false := by kernel_rfl
theorem Try.cz80 : Try.prog.cellsOf 80 = 1 := by kernel_rfl
theorem Try.by80 : Try.prog.bytesOf 80 = 1 := by kernel_rfl
theorem Try.zb80 : zeroB Try.prog 80 = some [.int .u8 0] := by kernel_rfl
theorem Try.ag81 : aggB Try.prog 81 = some false := by kernel_rfl
theorem Try.cz81 : Try.prog.cellsOf 81 = 1 := by kernel_rfl
theorem Try.by81 : Try.prog.bytesOf 81 = 8 := by kernel_rfl
theorem Try.zb81 : zeroB Try.prog 81 = some [.int .u64 0] := by kernel_rfl
theorem Try.ag82 : aggB Try.prog 82 = some true := by kernel_rfl
theorem Try.cz82 : Try.prog.cellsOf 82 = 3 := by kernel_rfl
theorem Try.by82 : Try.prog.bytesOf 82 = 16 := by kernel_rfl
theorem Try.zb82 : zeroB Try.prog 82 = some [.int .u8 0, .bool false, .int .u64 0] := by kernel_rfl
theorem Try.pl82 : placesB Try.prog 82 = some [(0, 1), (1, 1), (2, 1)] := by kernel_rfl
theorem Try.fd82_0 : fieldB Try.prog 82 0 = some 0 := by kernel_rfl
theorem Try.fd82_1 : fieldB Try.prog 82 1 = some 1 := by kernel_rfl
theorem Try.fd82_2 : fieldB Try.prog 82 2 = some 2 := by kernel_rfl
theorem Try.ag83 : aggB Try.prog 83 = some true := by kernel_rfl
theorem Try.cz83 : Try.prog.cellsOf 83 = 3 := by kernel_rfl
theorem Try.by83 : Try.prog.bytesOf 83 = 16 := by kernel_rfl
theorem Try.zb83 : zeroB Try.prog 83 = some [.int .u8 0, .bool false, .int .u64 0] := by kernel_rfl
theorem Try.pl83 : placesB Try.prog 83 = some [(0, 1), (1, 1), (2, 1)] := by kernel_rfl
theorem Try.sh83 : Try.prog.stoodInHeld 83 = false := by kernel_rfl
theorem Try.eg83 : Try.prog.eqGuardType Try.prog.depth 83 = false := by kernel_rfl
theorem Try.fd83_0 : fieldB Try.prog 83 0 = some 0 := by kernel_rfl
theorem Try.fd83_1 : fieldB Try.prog 83 1 = some 1 := by kernel_rfl
theorem Try.fd83_2 : fieldB Try.prog 83 2 = some 2 := by kernel_rfl
theorem Try.ag84 : aggB Try.prog 84 = some false := by kernel_rfl
theorem Try.cz84 : Try.prog.cellsOf 84 = 1 := by kernel_rfl
theorem Try.by84 : Try.prog.bytesOf 84 = 24 := by kernel_rfl
theorem Try.zb84 : zeroB Try.prog 84 = some [.slice none 0 0] := by kernel_rfl
theorem Try.ag85 : aggB Try.prog 85 = some true := by kernel_rfl
theorem Try.cz85 : Try.prog.cellsOf 85 = 2 := by kernel_rfl
theorem Try.by85 : Try.prog.bytesOf 85 = 32 := by kernel_rfl
theorem Try.zb85 : zeroB Try.prog 85 = some [.int .u64 0, .slice none 0 0] := by kernel_rfl
theorem Try.pl85 : placesB Try.prog 85 = some [(0, 1), (1, 1)] := by kernel_rfl
theorem Try.fd85_0 : fieldB Try.prog 85 0 = some 0 := by kernel_rfl
theorem Try.fd85_1 : fieldB Try.prog 85 1 = some 1 := by kernel_rfl
theorem Try.ag86 : aggB Try.prog 86 = some true := by kernel_rfl
theorem Try.cz86 : Try.prog.cellsOf 86 = 2 := by kernel_rfl
theorem Try.by86 : Try.prog.bytesOf 86 = 32 := by kernel_rfl
theorem Try.zb86 : zeroB Try.prog 86 = some [.int .u64 0, .slice none 0 0] := by kernel_rfl
theorem Try.pl86 : placesB Try.prog 86 = some [(0, 1), (1, 1)] := by kernel_rfl
theorem Try.sh86 : Try.prog.stoodInHeld 86 = false := by kernel_rfl
theorem Try.eg86 : Try.prog.eqGuardType Try.prog.depth 86 = false := by kernel_rfl
theorem Try.fd86_0 : fieldB Try.prog 86 0 = some 0 := by kernel_rfl
theorem Try.fd86_1 : fieldB Try.prog 86 1 = some 1 := by kernel_rfl
theorem Try.ag87 : aggB Try.prog 87 = some true := by kernel_rfl
theorem Try.cz87 : Try.prog.cellsOf 87 = 3 := by kernel_rfl
theorem Try.by87 : Try.prog.bytesOf 87 = 40 := by kernel_rfl
theorem Try.zb87 : zeroB Try.prog 87 = some [.int .i64 0, .int .u64 0, .slice none 0 0] := by kernel_rfl
theorem Try.pl87 : placesB Try.prog 87 = some [(0, 1), (1, 1), (2, 1)] := by kernel_rfl
theorem Try.fd87_0 : fieldB Try.prog 87 0 = some 0 := by kernel_rfl
theorem Try.fd87_1 : fieldB Try.prog 87 1 = some 1 := by kernel_rfl
theorem Try.fd87_2 : fieldB Try.prog 87 2 = some 2 := by kernel_rfl
theorem Try.ag88 : aggB Try.prog 88 = some true := by kernel_rfl
theorem Try.cz88 : Try.prog.cellsOf 88 = 3 := by kernel_rfl
theorem Try.by88 : Try.prog.bytesOf 88 = 40 := by kernel_rfl
theorem Try.zb88 : zeroB Try.prog 88 = some [.int .i64 0, .int .u64 0, .slice none 0 0] := by kernel_rfl
theorem Try.pl88 : placesB Try.prog 88 = some [(0, 1), (1, 1), (2, 1)] := by kernel_rfl
theorem Try.sh88 : Try.prog.stoodInHeld 88 = false := by kernel_rfl
theorem Try.eg88 : Try.prog.eqGuardType Try.prog.depth 88 = false := by kernel_rfl
theorem Try.fd88_0 : fieldB Try.prog 88 0 = some 0 := by kernel_rfl
theorem Try.fd88_1 : fieldB Try.prog 88 1 = some 1 := by kernel_rfl
theorem Try.fd88_2 : fieldB Try.prog 88 2 = some 2 := by kernel_rfl
theorem Try.ag89 : aggB Try.prog 89 = some false := by kernel_rfl
theorem Try.cz89 : Try.prog.cellsOf 89 = 1 := by kernel_rfl
theorem Try.by89 : Try.prog.bytesOf 89 = 8 := by kernel_rfl
theorem Try.zb89 : zeroB Try.prog 89 = some [.nilFunc] := by kernel_rfl
theorem Try.ag90 : aggB Try.prog 90 = some false := by kernel_rfl
theorem Try.cz90 : Try.prog.cellsOf 90 = 1 := by kernel_rfl
theorem Try.by90 : Try.prog.bytesOf 90 = 8 := by kernel_rfl
theorem Try.zb90 : zeroB Try.prog 90 = some [.nilFunc] := by kernel_rfl
theorem Try.ag91 : aggB Try.prog 91 = some false := by kernel_rfl
theorem Try.cz91 : Try.prog.cellsOf 91 = 1 := by kernel_rfl
theorem Try.by91 : Try.prog.bytesOf 91 = 8 := by kernel_rfl
theorem Try.zb91 : zeroB Try.prog 91 = some [.nilFunc] := by kernel_rfl
theorem Try.ag92 : aggB Try.prog 92 = some false := by kernel_rfl
theorem Try.cz92 : Try.prog.cellsOf 92 = 1 := by kernel_rfl
theorem Try.by92 : Try.prog.bytesOf 92 = 8 := by kernel_rfl
theorem Try.zb92 : zeroB Try.prog 92 = some [.nilFunc] := by kernel_rfl
theorem Try.ag93 : aggB Try.prog 93 = some false := by kernel_rfl
theorem Try.cz93 : Try.prog.cellsOf 93 = 1 := by kernel_rfl
theorem Try.by93 : Try.prog.bytesOf 93 = 8 := by kernel_rfl
theorem Try.zb93 : zeroB Try.prog 93 = some [.nilFunc] := by kernel_rfl
theorem Try.ag94 : aggB Try.prog 94 = some false := by kernel_rfl
theorem Try.cz94 : Try.prog.cellsOf 94 = 1 := by kernel_rfl
theorem Try.by94 : Try.prog.bytesOf 94 = 8 := by kernel_rfl
theorem Try.zb94 : zeroB Try.prog 94 = some [.nilFunc] := by kernel_rfl
theorem Try.ag95 : aggB Try.prog 95 = some false := by kernel_rfl
theorem Try.cz95 : Try.prog.cellsOf 95 = 1 := by kernel_rfl
theorem Try.by95 : Try.prog.bytesOf 95 = 8 := by kernel_rfl
theorem Try.zb95 : zeroB Try.prog 95 = some [.nilFunc] := by kernel_rfl
theorem Try.ag96 : aggB Try.prog 96 = some false := by kernel_rfl
theorem Try.cz96 : Try.prog.cellsOf 96 = 1 := by kernel_rfl
theorem Try.by96 : Try.prog.bytesOf 96 = 8 := by kernel_rfl
theorem Try.zb96 : zeroB Try.prog 96 = some [.nilFunc] := by kernel_rfl
theorem Try.ag97 : aggB Try.prog 97 = some true := by kernel_rfl
theorem Try.cz97 : Try.prog.cellsOf 97 = 2 := by kernel_rfl
theorem Try.by97 : Try.prog.bytesOf 97 = 24 := by kernel_rfl
theorem Try.zb97 : zeroB Try.prog 97 = some [.string ⟨#[]⟩, .nilFunc] := by kernel_rfl
theorem Try.pl97 : placesB Try.prog 97 = some [(0, 1), (1, 1)] := by kernel_rfl
theorem Try.fd97_0 : fieldB Try.prog 97 0 = some 0 := by kernel_rfl
theorem Try.fd97_1 : fieldB Try.prog 97 1 = some 1 := by kernel_rfl
theorem Try.ag98 : aggB Try.prog 98 = some true := by kernel_rfl
theorem Try.cz98 : Try.prog.cellsOf 98 = 2 := by kernel_rfl
theorem Try.by98 : Try.prog.bytesOf 98 = 24 := by kernel_rfl
theorem Try.zb98 : zeroB Try.prog 98 = some [.string ⟨#[]⟩, .nilFunc] := by kernel_rfl
theorem Try.pl98 : placesB Try.prog 98 = some [(0, 1), (1, 1)] := by kernel_rfl
theorem Try.sh98 : Try.prog.stoodInHeld 98 = false := by kernel_rfl
theorem Try.eg98 : Try.prog.eqGuardType Try.prog.depth 98 = false := by kernel_rfl
theorem Try.fd98_0 : fieldB Try.prog 98 0 = some 0 := by kernel_rfl
theorem Try.fd98_1 : fieldB Try.prog 98 1 = some 1 := by kernel_rfl
theorem Try.ag99 : aggB Try.prog 99 = some true := by kernel_rfl
theorem Try.cz99 : Try.prog.cellsOf 99 = 20 := by kernel_rfl
theorem Try.by99 : Try.prog.bytesOf 99 = 240 := by kernel_rfl
theorem Try.zb99 : zeroB Try.prog 99 = some [.string ⟨#[]⟩, .nilFunc, .string ⟨#[]⟩, .nilFunc, .string ⟨#[]⟩, .nilFunc, .string ⟨#[]⟩, .nilFunc, .string ⟨#[]⟩, .nilFunc, .string ⟨#[]⟩, .nilFunc, .string ⟨#[]⟩, .nilFunc, .string ⟨#[]⟩, .nilFunc, .string ⟨#[]⟩, .nilFunc, .string ⟨#[]⟩, .nilFunc] := by kernel_rfl
theorem Try.ar99 : arrB Try.prog 99 = some (10, 2) := by kernel_rfl
theorem Try.ag101 : aggB Try.prog 101 = some false := by kernel_rfl
theorem Try.cz101 : Try.prog.cellsOf 101 = 1 := by kernel_rfl
theorem Try.by101 : Try.prog.bytesOf 101 = 8 := by kernel_rfl
theorem Try.zb101 : zeroB Try.prog 101 = some [.nilFunc] := by kernel_rfl
theorem Try.ag102 : aggB Try.prog 102 = some false := by kernel_rfl
theorem Try.cz102 : Try.prog.cellsOf 102 = 1 := by kernel_rfl
theorem Try.by102 : Try.prog.bytesOf 102 = 8 := by kernel_rfl
theorem Try.zb102 : zeroB Try.prog 102 = some [.nilFunc] := by kernel_rfl
theorem Try.ag103 : aggB Try.prog 103 = some false := by kernel_rfl
theorem Try.cz103 : Try.prog.cellsOf 103 = 1 := by kernel_rfl
theorem Try.by103 : Try.prog.bytesOf 103 = 8 := by kernel_rfl
theorem Try.zb103 : zeroB Try.prog 103 = some [.nilFunc] := by kernel_rfl
theorem Try.ag104 : aggB Try.prog 104 = some false := by kernel_rfl
theorem Try.cz104 : Try.prog.cellsOf 104 = 1 := by kernel_rfl
theorem Try.by104 : Try.prog.bytesOf 104 = 24 := by kernel_rfl
theorem Try.zb104 : zeroB Try.prog 104 = some [.slice none 0 0] := by kernel_rfl
theorem Try.ag105 : aggB Try.prog 105 = some true := by kernel_rfl
theorem Try.cz105 : Try.prog.cellsOf 105 = 5 := by kernel_rfl
theorem Try.by105 : Try.prog.bytesOf 105 = 56 := by kernel_rfl
theorem Try.zb105 : zeroB Try.prog 105 = some [.int .i64 0, .int .u64 0, .int .u64 0, .int .i64 0, .slice none 0 0] := by kernel_rfl
theorem Try.pl105 : placesB Try.prog 105 = some [(0, 1), (1, 1), (2, 1), (3, 1), (4, 1)] := by kernel_rfl
theorem Try.fd105_0 : fieldB Try.prog 105 0 = some 0 := by kernel_rfl
theorem Try.fd105_1 : fieldB Try.prog 105 1 = some 1 := by kernel_rfl
theorem Try.fd105_2 : fieldB Try.prog 105 2 = some 2 := by kernel_rfl
theorem Try.fd105_3 : fieldB Try.prog 105 3 = some 3 := by kernel_rfl
theorem Try.fd105_4 : fieldB Try.prog 105 4 = some 4 := by kernel_rfl
theorem Try.ag106 : aggB Try.prog 106 = some true := by kernel_rfl
theorem Try.cz106 : Try.prog.cellsOf 106 = 5 := by kernel_rfl
theorem Try.by106 : Try.prog.bytesOf 106 = 56 := by kernel_rfl
theorem Try.zb106 : zeroB Try.prog 106 = some [.int .i64 0, .int .u64 0, .int .u64 0, .int .i64 0, .slice none 0 0] := by kernel_rfl
theorem Try.pl106 : placesB Try.prog 106 = some [(0, 1), (1, 1), (2, 1), (3, 1), (4, 1)] := by kernel_rfl
theorem Try.sh106 : Try.prog.stoodInHeld 106 = false := by kernel_rfl
theorem Try.eg106 : Try.prog.eqGuardType Try.prog.depth 106 = false := by kernel_rfl
theorem Try.fd106_0 : fieldB Try.prog 106 0 = some 0 := by kernel_rfl
theorem Try.fd106_1 : fieldB Try.prog 106 1 = some 1 := by kernel_rfl
theorem Try.fd106_2 : fieldB Try.prog 106 2 = some 2 := by kernel_rfl
theorem Try.fd106_3 : fieldB Try.prog 106 3 = some 3 := by kernel_rfl
theorem Try.fd106_4 : fieldB Try.prog 106 4 = some 4 := by kernel_rfl
theorem Try.ag107 : aggB Try.prog 107 = some false := by kernel_rfl
theorem Try.cz107 : Try.prog.cellsOf 107 = 1 := by kernel_rfl
theorem Try.by107 : Try.prog.bytesOf 107 = 8 := by kernel_rfl
theorem Try.zb107 : zeroB Try.prog 107 = some [.nilFunc] := by kernel_rfl
theorem Try.ag108 : aggB Try.prog 108 = some false := by kernel_rfl
theorem Try.cz108 : Try.prog.cellsOf 108 = 1 := by kernel_rfl
theorem Try.by108 : Try.prog.bytesOf 108 = 8 := by kernel_rfl
theorem Try.zb108 : zeroB Try.prog 108 = some [.nilFunc] := by kernel_rfl
theorem Try.ag109 : aggB Try.prog 109 = some false := by kernel_rfl
theorem Try.cz109 : Try.prog.cellsOf 109 = 1 := by kernel_rfl
theorem Try.by109 : Try.prog.bytesOf 109 = 8 := by kernel_rfl
theorem Try.zb109 : zeroB Try.prog 109 = some [.nilFunc] := by kernel_rfl
theorem Try.ag110 : aggB Try.prog 110 = some false := by kernel_rfl
theorem Try.cz110 : Try.prog.cellsOf 110 = 1 := by kernel_rfl
theorem Try.by110 : Try.prog.bytesOf 110 = 8 := by kernel_rfl
theorem Try.zb110 : zeroB Try.prog 110 = some [.nilFunc] := by kernel_rfl
theorem Try.ag111 : aggB Try.prog 111 = some false := by kernel_rfl
theorem Try.cz111 : Try.prog.cellsOf 111 = 1 := by kernel_rfl
theorem Try.by111 : Try.prog.bytesOf 111 = 8 := by kernel_rfl
theorem Try.zb111 : zeroB Try.prog 111 = some [.nilFunc] := by kernel_rfl
theorem Try.ag112 : aggB Try.prog 112 = some false := by kernel_rfl
theorem Try.cz112 : Try.prog.cellsOf 112 = 1 := by kernel_rfl
theorem Try.by112 : Try.prog.bytesOf 112 = 8 := by kernel_rfl
theorem Try.zb112 : zeroB Try.prog 112 = some [.nilFunc] := by kernel_rfl
theorem Try.ag113 : aggB Try.prog 113 = some false := by kernel_rfl
theorem Try.cz113 : Try.prog.cellsOf 113 = 1 := by kernel_rfl
theorem Try.by113 : Try.prog.bytesOf 113 = 8 := by kernel_rfl
theorem Try.zb113 : zeroB Try.prog 113 = some [.nilFunc] := by kernel_rfl
theorem Try.ag114 : aggB Try.prog 114 = some false := by kernel_rfl
theorem Try.cz114 : Try.prog.cellsOf 114 = 1 := by kernel_rfl
theorem Try.by114 : Try.prog.bytesOf 114 = 8 := by kernel_rfl
theorem Try.zb114 : zeroB Try.prog 114 = some [.nilFunc] := by kernel_rfl
theorem Try.ag115 : aggB Try.prog 115 = some false := by kernel_rfl
theorem Try.cz115 : Try.prog.cellsOf 115 = 1 := by kernel_rfl
theorem Try.by115 : Try.prog.bytesOf 115 = 8 := by kernel_rfl
theorem Try.zb115 : zeroB Try.prog 115 = some [.nilFunc] := by kernel_rfl
theorem Try.ag116 : aggB Try.prog 116 = some false := by kernel_rfl
theorem Try.cz116 : Try.prog.cellsOf 116 = 1 := by kernel_rfl
theorem Try.by116 : Try.prog.bytesOf 116 = 8 := by kernel_rfl
theorem Try.zb116 : zeroB Try.prog 116 = some [.nilFunc] := by kernel_rfl
theorem Try.ag117 : aggB Try.prog 117 = some false := by kernel_rfl
theorem Try.cz117 : Try.prog.cellsOf 117 = 1 := by kernel_rfl
theorem Try.by117 : Try.prog.bytesOf 117 = 8 := by kernel_rfl
theorem Try.zb117 : zeroB Try.prog 117 = some [.nilFunc] := by kernel_rfl
theorem Try.ag118 : aggB Try.prog 118 = some false := by kernel_rfl
theorem Try.cz118 : Try.prog.cellsOf 118 = 1 := by kernel_rfl
theorem Try.by118 : Try.prog.bytesOf 118 = 8 := by kernel_rfl
theorem Try.zb118 : zeroB Try.prog 118 = some [.nilFunc] := by kernel_rfl
theorem Try.ag119 : aggB Try.prog 119 = some false := by kernel_rfl
theorem Try.cz119 : Try.prog.cellsOf 119 = 1 := by kernel_rfl
theorem Try.by119 : Try.prog.bytesOf 119 = 8 := by kernel_rfl
theorem Try.zb119 : zeroB Try.prog 119 = some [.nilFunc] := by kernel_rfl
theorem Try.ag120 : aggB Try.prog 120 = some false := by kernel_rfl
theorem Try.cz120 : Try.prog.cellsOf 120 = 1 := by kernel_rfl
theorem Try.by120 : Try.prog.bytesOf 120 = 8 := by kernel_rfl
theorem Try.zb120 : zeroB Try.prog 120 = some [.nilFunc] := by kernel_rfl
theorem Try.ag121 : aggB Try.prog 121 = some true := by kernel_rfl
theorem Try.cz121 : Try.prog.cellsOf 121 = 5 := by kernel_rfl
theorem Try.by121 : Try.prog.bytesOf 121 = 56 := by kernel_rfl
theorem Try.zb121 : zeroB Try.prog 121 = some [.int .i64 0, .int .u64 0, .int .u64 0, .int .i64 0, .slice none 0 0] := by kernel_rfl
theorem Try.pl121 : placesB Try.prog 121 = some [(0, 1), (1, 1), (2, 1), (3, 1), (4, 1)] := by kernel_rfl
theorem Try.sh121 : Try.prog.stoodInHeld 121 = false := by kernel_rfl
theorem Try.eg121 : Try.prog.eqGuardType Try.prog.depth 121 = false := by kernel_rfl
theorem Try.fd121_0 : fieldB Try.prog 121 0 = some 0 := by kernel_rfl
theorem Try.fd121_1 : fieldB Try.prog 121 1 = some 1 := by kernel_rfl
theorem Try.fd121_2 : fieldB Try.prog 121 2 = some 2 := by kernel_rfl
theorem Try.fd121_3 : fieldB Try.prog 121 3 = some 3 := by kernel_rfl
theorem Try.fd121_4 : fieldB Try.prog 121 4 = some 4 := by kernel_rfl
theorem Try.ag122 : aggB Try.prog 122 = some false := by kernel_rfl
theorem Try.cz122 : Try.prog.cellsOf 122 = 1 := by kernel_rfl
theorem Try.by122 : Try.prog.bytesOf 122 = 8 := by kernel_rfl
theorem Try.zb122 : zeroB Try.prog 122 = some [.nilFunc] := by kernel_rfl
theorem Try.ag123 : aggB Try.prog 123 = some false := by kernel_rfl
theorem Try.cz123 : Try.prog.cellsOf 123 = 1 := by kernel_rfl
theorem Try.by123 : Try.prog.bytesOf 123 = 8 := by kernel_rfl
theorem Try.zb123 : zeroB Try.prog 123 = some [.nilFunc] := by kernel_rfl
theorem Try.ag124 : aggB Try.prog 124 = some false := by kernel_rfl
theorem Try.cz124 : Try.prog.cellsOf 124 = 1 := by kernel_rfl
theorem Try.by124 : Try.prog.bytesOf 124 = 8 := by kernel_rfl
theorem Try.zb124 : zeroB Try.prog 124 = some [.nilFunc] := by kernel_rfl
theorem Try.ag125 : aggB Try.prog 125 = some false := by kernel_rfl
theorem Try.cz125 : Try.prog.cellsOf 125 = 1 := by kernel_rfl
theorem Try.by125 : Try.prog.bytesOf 125 = 8 := by kernel_rfl
theorem Try.zb125 : zeroB Try.prog 125 = some [.nilFunc] := by kernel_rfl
theorem Try.ag126 : aggB Try.prog 126 = some false := by kernel_rfl
theorem Try.cz126 : Try.prog.cellsOf 126 = 1 := by kernel_rfl
theorem Try.by126 : Try.prog.bytesOf 126 = 8 := by kernel_rfl
theorem Try.zb126 : zeroB Try.prog 126 = some [.nilFunc] := by kernel_rfl
theorem Try.ag127 : aggB Try.prog 127 = some false := by kernel_rfl
theorem Try.cz127 : Try.prog.cellsOf 127 = 1 := by kernel_rfl
theorem Try.by127 : Try.prog.bytesOf 127 = 8 := by kernel_rfl
theorem Try.zb127 : zeroB Try.prog 127 = some [.nilFunc] := by kernel_rfl
theorem Try.ag128 : aggB Try.prog 128 = some false := by kernel_rfl
theorem Try.cz128 : Try.prog.cellsOf 128 = 1 := by kernel_rfl
theorem Try.by128 : Try.prog.bytesOf 128 = 8 := by kernel_rfl
theorem Try.zb128 : zeroB Try.prog 128 = some [.nilFunc] := by kernel_rfl
theorem Try.ag129 : aggB Try.prog 129 = some true := by kernel_rfl
theorem Try.cz129 : Try.prog.cellsOf 129 = 4 := by kernel_rfl
theorem Try.by129 : Try.prog.bytesOf 129 = 32 := by kernel_rfl
theorem Try.zb129 : zeroB Try.prog 129 = some [.int .i64 0, .int .i64 0, .int .i64 0, .int .i64 0] := by kernel_rfl
theorem Try.ar129 : arrB Try.prog 129 = some (4, 1) := by kernel_rfl
theorem Try.ag130 : aggB Try.prog 130 = some false := by kernel_rfl
theorem Try.cz130 : Try.prog.cellsOf 130 = 1 := by kernel_rfl
theorem Try.by130 : Try.prog.bytesOf 130 = 8 := by kernel_rfl
theorem Try.zb130 : zeroB Try.prog 130 = some [.nilFunc] := by kernel_rfl
theorem Try.ag131 : aggB Try.prog 131 = some false := by kernel_rfl
theorem Try.cz131 : Try.prog.cellsOf 131 = 1 := by kernel_rfl
theorem Try.by131 : Try.prog.bytesOf 131 = 8 := by kernel_rfl
theorem Try.zb131 : zeroB Try.prog 131 = some [.nilFunc] := by kernel_rfl
theorem Try.ag132 : aggB Try.prog 132 = some false := by kernel_rfl
theorem Try.cz132 : Try.prog.cellsOf 132 = 1 := by kernel_rfl
theorem Try.by132 : Try.prog.bytesOf 132 = 8 := by kernel_rfl
theorem Try.zb132 : zeroB Try.prog 132 = some [.nilFunc] := by kernel_rfl
theorem Try.ag133 : aggB Try.prog 133 = some false := by kernel_rfl
theorem Try.cz133 : Try.prog.cellsOf 133 = 1 := by kernel_rfl
theorem Try.by133 : Try.prog.bytesOf 133 = 8 := by kernel_rfl
theorem Try.zb133 : zeroB Try.prog 133 = some [.nilFunc] := by kernel_rfl
theorem Try.ag134 : aggB Try.prog 134 = some false := by kernel_rfl
theorem Try.cz134 : Try.prog.cellsOf 134 = 1 := by kernel_rfl
theorem Try.by134 : Try.prog.bytesOf 134 = 8 := by kernel_rfl
theorem Try.zb134 : zeroB Try.prog 134 = some [.nilFunc] := by kernel_rfl
theorem Try.ag135 : aggB Try.prog 135 = some false := by kernel_rfl
theorem Try.cz135 : Try.prog.cellsOf 135 = 1 := by kernel_rfl
theorem Try.by135 : Try.prog.bytesOf 135 = 8 := by kernel_rfl
theorem Try.zb135 : zeroB Try.prog 135 = some [.nilFunc] := by kernel_rfl
theorem Try.ag136 : aggB Try.prog 136 = some false := by kernel_rfl
theorem Try.cz136 : Try.prog.cellsOf 136 = 1 := by kernel_rfl
theorem Try.by136 : Try.prog.bytesOf 136 = 8 := by kernel_rfl
theorem Try.zb136 : zeroB Try.prog 136 = some [.nilFunc] := by kernel_rfl
theorem Try.ag137 : aggB Try.prog 137 = some false := by kernel_rfl
theorem Try.cz137 : Try.prog.cellsOf 137 = 1 := by kernel_rfl
theorem Try.by137 : Try.prog.bytesOf 137 = 8 := by kernel_rfl
theorem Try.zb137 : zeroB Try.prog 137 = some [.nilFunc] := by kernel_rfl
theorem Try.ag138 : aggB Try.prog 138 = some false := by kernel_rfl
theorem Try.cz138 : Try.prog.cellsOf 138 = 1 := by kernel_rfl
theorem Try.by138 : Try.prog.bytesOf 138 = 8 := by kernel_rfl
theorem Try.zb138 : zeroB Try.prog 138 = some [.nilFunc] := by kernel_rfl
theorem Try.ag139 : aggB Try.prog 139 = some false := by kernel_rfl
theorem Try.cz139 : Try.prog.cellsOf 139 = 1 := by kernel_rfl
theorem Try.by139 : Try.prog.bytesOf 139 = 8 := by kernel_rfl
theorem Try.zb139 : zeroB Try.prog 139 = some [.nilFunc] := by kernel_rfl
theorem Try.ag140 : aggB Try.prog 140 = some false := by kernel_rfl
theorem Try.cz140 : Try.prog.cellsOf 140 = 1 := by kernel_rfl
theorem Try.by140 : Try.prog.bytesOf 140 = 8 := by kernel_rfl
theorem Try.zb140 : zeroB Try.prog 140 = some [.nilFunc] := by kernel_rfl
theorem Try.ag141 : aggB Try.prog 141 = some false := by kernel_rfl
theorem Try.cz141 : Try.prog.cellsOf 141 = 1 := by kernel_rfl
theorem Try.by141 : Try.prog.bytesOf 141 = 8 := by kernel_rfl
theorem Try.zb141 : zeroB Try.prog 141 = some [.nilFunc] := by kernel_rfl
theorem Try.ag142 : aggB Try.prog 142 = some false := by kernel_rfl
theorem Try.cz142 : Try.prog.cellsOf 142 = 1 := by kernel_rfl
theorem Try.by142 : Try.prog.bytesOf 142 = 8 := by kernel_rfl
theorem Try.zb142 : zeroB Try.prog 142 = some [.nilFunc] := by kernel_rfl
theorem Try.ag143 : aggB Try.prog 143 = some true := by kernel_rfl
theorem Try.cz143 : Try.prog.cellsOf 143 = 4 := by kernel_rfl
theorem Try.by143 : Try.prog.bytesOf 143 = 40 := by kernel_rfl
theorem Try.zb143 : zeroB Try.prog 143 = some [.pointer none, .pointer none, .pointer none, .string ⟨#[]⟩] := by kernel_rfl
theorem Try.pl143 : placesB Try.prog 143 = some [(0, 1), (1, 1), (2, 1), (3, 1)] := by kernel_rfl
theorem Try.fd143_0 : fieldB Try.prog 143 0 = some 0 := by kernel_rfl
theorem Try.fd143_1 : fieldB Try.prog 143 1 = some 1 := by kernel_rfl
theorem Try.fd143_2 : fieldB Try.prog 143 2 = some 2 := by kernel_rfl
theorem Try.fd143_3 : fieldB Try.prog 143 3 = some 3 := by kernel_rfl
theorem Try.ag144 : aggB Try.prog 144 = some true := by kernel_rfl
theorem Try.cz144 : Try.prog.cellsOf 144 = 4 := by kernel_rfl
theorem Try.by144 : Try.prog.bytesOf 144 = 40 := by kernel_rfl
theorem Try.zb144 : zeroB Try.prog 144 = some [.pointer none, .pointer none, .pointer none, .string ⟨#[]⟩] := by kernel_rfl
theorem Try.pl144 : placesB Try.prog 144 = some [(0, 1), (1, 1), (2, 1), (3, 1)] := by kernel_rfl
theorem Try.fd144_0 : fieldB Try.prog 144 0 = some 0 := by kernel_rfl
theorem Try.fd144_1 : fieldB Try.prog 144 1 = some 1 := by kernel_rfl
theorem Try.fd144_2 : fieldB Try.prog 144 2 = some 2 := by kernel_rfl
theorem Try.fd144_3 : fieldB Try.prog 144 3 = some 3 := by kernel_rfl
theorem Try.ag145 : aggB Try.prog 145 = some true := by kernel_rfl
theorem Try.cz145 : Try.prog.cellsOf 145 = 0 := by kernel_rfl
theorem Try.zb145 : zeroB Try.prog 145 = some [] := by kernel_rfl
theorem Try.ar145 : arrB Try.prog 145 = some (0, 1) := by kernel_rfl
theorem Try.ag146 : aggB Try.prog 146 = some true := by kernel_rfl
theorem Try.cz146 : Try.prog.cellsOf 146 = 0 := by kernel_rfl
theorem Try.zb146 : zeroB Try.prog 146 = some [] := by kernel_rfl
theorem Try.ag147 : aggB Try.prog 147 = some true := by kernel_rfl
theorem Try.cz147 : Try.prog.cellsOf 147 = 0 := by kernel_rfl
theorem Try.zb147 : zeroB Try.prog 147 = some [] := by kernel_rfl
theorem Try.ag148 : aggB Try.prog 148 = some false := by kernel_rfl
theorem Try.cz148 : Try.prog.cellsOf 148 = 1 := by kernel_rfl
theorem Try.by148 : Try.prog.bytesOf 148 = 4 := by kernel_rfl
theorem Try.zb148 : zeroB Try.prog 148 = some [.int .u32 0] := by kernel_rfl
theorem Try.ag149 : aggB Try.prog 149 = some false := by kernel_rfl
theorem Try.cz149 : Try.prog.cellsOf 149 = 1 := by kernel_rfl
theorem Try.by149 : Try.prog.bytesOf 149 = 1 := by kernel_rfl
theorem Try.zb149 : zeroB Try.prog 149 = some [.int .u8 0] := by kernel_rfl
theorem Try.ag150 : aggB Try.prog 150 = some false := by kernel_rfl
theorem Try.cz150 : Try.prog.cellsOf 150 = 1 := by kernel_rfl
theorem Try.by150 : Try.prog.bytesOf 150 = 1 := by kernel_rfl
theorem Try.zb150 : zeroB Try.prog 150 = some [.int .u8 0] := by kernel_rfl
theorem Try.ag151 : aggB Try.prog 151 = some false := by kernel_rfl
theorem Try.cz151 : Try.prog.cellsOf 151 = 1 := by kernel_rfl
theorem Try.by151 : Try.prog.bytesOf 151 = 8 := by kernel_rfl
theorem Try.zb151 : zeroB Try.prog 151 = some [.nilFunc] := by kernel_rfl
theorem Try.ag152 : aggB Try.prog 152 = some false := by kernel_rfl
theorem Try.cz152 : Try.prog.cellsOf 152 = 1 := by kernel_rfl
theorem Try.by152 : Try.prog.bytesOf 152 = 8 := by kernel_rfl
theorem Try.zb152 : zeroB Try.prog 152 = some [.pointer none] := by kernel_rfl
theorem Try.ag153 : aggB Try.prog 153 = some false := by kernel_rfl
theorem Try.cz153 : Try.prog.cellsOf 153 = 1 := by kernel_rfl
theorem Try.by153 : Try.prog.bytesOf 153 = 4 := by kernel_rfl
theorem Try.zb153 : zeroB Try.prog 153 = some [.int .i32 0] := by kernel_rfl
theorem Try.ag154 : aggB Try.prog 154 = some false := by kernel_rfl
theorem Try.cz154 : Try.prog.cellsOf 154 = 1 := by kernel_rfl
theorem Try.by154 : Try.prog.bytesOf 154 = 4 := by kernel_rfl
theorem Try.zb154 : zeroB Try.prog 154 = some [.int .i32 0] := by kernel_rfl
theorem Try.ag155 : aggB Try.prog 155 = some true := by kernel_rfl
theorem Try.cz155 : Try.prog.cellsOf 155 = 11 := by kernel_rfl
theorem Try.by155 : Try.prog.bytesOf 155 = 48 := by kernel_rfl
theorem Try.zb155 : zeroB Try.prog 155 = some [.int .u64 0, .int .u64 0, .int .u32 0, .int .u8 0, .int .u8 0, .int .u8 0, .int .u8 0, .nilFunc, .pointer none, .int .i32 0, .int .i32 0] := by kernel_rfl
theorem Try.pl155 : placesB Try.prog 155 = some [(0, 1), (1, 1), (2, 1), (3, 1), (4, 1), (5, 1), (6, 1), (7, 1), (8, 1), (9, 1), (10, 1)] := by kernel_rfl
theorem Try.fd155_0 : fieldB Try.prog 155 0 = some 0 := by kernel_rfl
theorem Try.fd155_1 : fieldB Try.prog 155 1 = some 1 := by kernel_rfl
theorem Try.fd155_2 : fieldB Try.prog 155 2 = some 2 := by kernel_rfl
theorem Try.fd155_3 : fieldB Try.prog 155 3 = some 3 := by kernel_rfl
theorem Try.fd155_4 : fieldB Try.prog 155 4 = some 4 := by kernel_rfl
theorem Try.fd155_5 : fieldB Try.prog 155 5 = some 5 := by kernel_rfl
theorem Try.fd155_6 : fieldB Try.prog 155 6 = some 6 := by kernel_rfl
theorem Try.fd155_7 : fieldB Try.prog 155 7 = some 7 := by kernel_rfl
theorem Try.fd155_8 : fieldB Try.prog 155 8 = some 8 := by kernel_rfl
theorem Try.fd155_9 : fieldB Try.prog 155 9 = some 9 := by kernel_rfl
theorem Try.fd155_10 : fieldB Try.prog 155 10 = some 10 := by kernel_rfl
theorem Try.ag156 : aggB Try.prog 156 = some true := by kernel_rfl
theorem Try.cz156 : Try.prog.cellsOf 156 = 11 := by kernel_rfl
theorem Try.by156 : Try.prog.bytesOf 156 = 48 := by kernel_rfl
theorem Try.zb156 : zeroB Try.prog 156 = some [.int .u64 0, .int .u64 0, .int .u32 0, .int .u8 0, .int .u8 0, .int .u8 0, .int .u8 0, .nilFunc, .pointer none, .int .i32 0, .int .i32 0] := by kernel_rfl
theorem Try.pl156 : placesB Try.prog 156 = some [(0, 1), (1, 1), (2, 1), (3, 1), (4, 1), (5, 1), (6, 1), (7, 1), (8, 1), (9, 1), (10, 1)] := by kernel_rfl
theorem Try.fd156_0 : fieldB Try.prog 156 0 = some 0 := by kernel_rfl
theorem Try.fd156_1 : fieldB Try.prog 156 1 = some 1 := by kernel_rfl
theorem Try.fd156_2 : fieldB Try.prog 156 2 = some 2 := by kernel_rfl
theorem Try.fd156_3 : fieldB Try.prog 156 3 = some 3 := by kernel_rfl
theorem Try.fd156_4 : fieldB Try.prog 156 4 = some 4 := by kernel_rfl
theorem Try.fd156_5 : fieldB Try.prog 156 5 = some 5 := by kernel_rfl
theorem Try.fd156_6 : fieldB Try.prog 156 6 = some 6 := by kernel_rfl
theorem Try.fd156_7 : fieldB Try.prog 156 7 = some 7 := by kernel_rfl
theorem Try.fd156_8 : fieldB Try.prog 156 8 = some 8 := by kernel_rfl
theorem Try.fd156_9 : fieldB Try.prog 156 9 = some 9 := by kernel_rfl
theorem Try.fd156_10 : fieldB Try.prog 156 10 = some 10 := by kernel_rfl
theorem Try.ag157 : aggB Try.prog 157 = some false := by kernel_rfl
theorem Try.cz157 : Try.prog.cellsOf 157 = 1 := by kernel_rfl
theorem Try.by157 : Try.prog.bytesOf 157 = 8 := by kernel_rfl
theorem Try.zb157 : zeroB Try.prog 157 = some [.pointer none] := by kernel_rfl
theorem Try.mixed : Try.prog.follows .mixedOrders = true := by kernel_rfl

end Go.Proofs
