/-
  CLOSED FACTS of the translation, by program. No macro, no axiom.
-/
import Derived.Test.YtnjfnjgjeibaiaaDoorHlP
import Derived.Test.YtnjfnjgjeibaiaaDoorChecked
namespace Go.Proofs
open Go.Hl

theorem Tryd.cb3 : callB Tryd.prog 3 = true := by kernel_rfl
theorem Tryd.cb4 : callB Tryd.prog 4 = true := by kernel_rfl
theorem Tryd.cb5 : callB Tryd.prog 5 = true := by kernel_rfl
theorem Tryd.cb6 : callB Tryd.prog 6 = true := by kernel_rfl
theorem Tryd.cb7 : callB Tryd.prog 7 = true := by kernel_rfl
theorem Tryd.cb8 : callB Tryd.prog 8 = true := by kernel_rfl
theorem Tryd.cb9 : callB Tryd.prog 9 = true := by kernel_rfl
theorem Tryd.cb10 : callB Tryd.prog 10 = true := by kernel_rfl
theorem Tryd.cb11 : callB Tryd.prog 11 = true := by kernel_rfl
theorem Tryd.cb12 : callB Tryd.prog 12 = true := by kernel_rfl
theorem Tryd.cb13 : callB Tryd.prog 13 = true := by kernel_rfl
theorem Tryd.cb14 : callB Tryd.prog 14 = true := by kernel_rfl
theorem Tryd.cb15 : callB Tryd.prog 15 = true := by kernel_rfl
theorem Tryd.cb16 : callB Tryd.prog 16 = true := by kernel_rfl
theorem Tryd.cb17 : callB Tryd.prog 17 = true := by kernel_rfl
theorem Tryd.cb18 : callB Tryd.prog 18 = true := by kernel_rfl
theorem Tryd.cb19 : callB Tryd.prog 19 = true := by kernel_rfl
theorem Tryd.cb20 : callB Tryd.prog 20 = true := by kernel_rfl
theorem Tryd.cb21 : callB Tryd.prog 21 = true := by kernel_rfl
theorem Tryd.cb22 : callB Tryd.prog 22 = true := by kernel_rfl
theorem Tryd.cb23 : callB Tryd.prog 23 = true := by kernel_rfl
theorem Tryd.cb24 : callB Tryd.prog 24 = true := by kernel_rfl
theorem Tryd.cb25 : callB Tryd.prog 25 = true := by kernel_rfl
theorem Tryd.cb26 : callB Tryd.prog 26 = true := by kernel_rfl
theorem Tryd.cb27 : callB Tryd.prog 27 = true := by kernel_rfl
theorem Tryd.cb28 : callB Tryd.prog 28 = true := by kernel_rfl
theorem Tryd.cb29 : callB Tryd.prog 29 = true := by kernel_rfl
theorem Tryd.cb30 : callB Tryd.prog 30 = true := by kernel_rfl
theorem Tryd.cb31 : callB Tryd.prog 31 = true := by kernel_rfl
theorem Tryd.cb32 : callB Tryd.prog 32 = true := by kernel_rfl
theorem Tryd.cb33 : callB Tryd.prog 33 = true := by kernel_rfl
theorem Tryd.cb34 : callB Tryd.prog 34 = true := by kernel_rfl
theorem Tryd.cb35 : callB Tryd.prog 35 = true := by kernel_rfl
theorem Tryd.cb36 : callB Tryd.prog 36 = true := by kernel_rfl
theorem Tryd.cb37 : callB Tryd.prog 37 = true := by kernel_rfl
theorem Tryd.cb38 : callB Tryd.prog 38 = true := by kernel_rfl
theorem Tryd.cb39 : callB Tryd.prog 39 = true := by kernel_rfl
theorem Tryd.cb40 : callB Tryd.prog 40 = true := by kernel_rfl
theorem Tryd.cb41 : callB Tryd.prog 41 = true := by kernel_rfl
theorem Tryd.cb43 : callB Tryd.prog 43 = true := by kernel_rfl
theorem Tryd.cb44 : callB Tryd.prog 44 = true := by kernel_rfl
theorem Tryd.cb45 : callB Tryd.prog 45 = true := by kernel_rfl
theorem Tryd.cb46 : callB Tryd.prog 46 = true := by kernel_rfl
theorem Tryd.cb47 : callB Tryd.prog 47 = true := by kernel_rfl
theorem Tryd.cb48 : callB Tryd.prog 48 = true := by kernel_rfl
theorem Tryd.cb49 : callB Tryd.prog 49 = true := by kernel_rfl
theorem Tryd.cb50 : callB Tryd.prog 50 = true := by kernel_rfl
theorem Tryd.cb53 : callB Tryd.prog 53 = true := by kernel_rfl
theorem Tryd.cb54 : callB Tryd.prog 54 = true := by kernel_rfl
theorem Tryd.cb56 : callB Tryd.prog 56 = true := by kernel_rfl
theorem Tryd.cb57 : callB Tryd.prog 57 = true := by kernel_rfl
theorem Tryd.cb58 : callB Tryd.prog 58 = true := by kernel_rfl
theorem Tryd.cb59 : callB Tryd.prog 59 = true := by kernel_rfl
theorem Tryd.cb60 : callB Tryd.prog 60 = true := by kernel_rfl
theorem Tryd.cb61 : callB Tryd.prog 61 = true := by kernel_rfl
theorem Tryd.cb62 : callB Tryd.prog 62 = true := by kernel_rfl
theorem Tryd.cb63 : callB Tryd.prog 63 = true := by kernel_rfl
theorem Tryd.cb64 : callB Tryd.prog 64 = true := by kernel_rfl
theorem Tryd.cb66 : callB Tryd.prog 66 = true := by kernel_rfl
theorem Tryd.cb67 : callB Tryd.prog 67 = true := by kernel_rfl
theorem Tryd.cb68 : callB Tryd.prog 68 = true := by kernel_rfl
theorem Tryd.cb99 : callB Tryd.prog 99 = true := by kernel_rfl
theorem Tryd.xt65 : extB Tryd.prog 65 Extern.BytealgIndexByte.indexByte := fun args w => Go.run_callFunc_extern Tryd.func65 (by kernel_rfl) (by kernel_rfl) (by kernel_rfl) (by kernel_rfl) args w
theorem Tryd.ag1 : aggB Tryd.prog 1 = some false := by kernel_rfl
theorem Tryd.cz1 : Tryd.prog.cellsOf 1 = 1 := by kernel_rfl
theorem Tryd.by1 : Tryd.prog.bytesOf 1 = 8 := by kernel_rfl
theorem Tryd.zb1 : zeroB Tryd.prog 1 = some [.nilFunc] := by kernel_rfl
theorem Tryd.ag2 : aggB Tryd.prog 2 = some false := by kernel_rfl
theorem Tryd.cz2 : Tryd.prog.cellsOf 2 = 1 := by kernel_rfl
theorem Tryd.by2 : Tryd.prog.bytesOf 2 = 8 := by kernel_rfl
theorem Tryd.zb2 : zeroB Tryd.prog 2 = some [.int .i64 0] := by kernel_rfl
theorem Tryd.ag3 : aggB Tryd.prog 3 = some false := by kernel_rfl
theorem Tryd.cz3 : Tryd.prog.cellsOf 3 = 1 := by kernel_rfl
theorem Tryd.by3 : Tryd.prog.bytesOf 3 = 8 := by kernel_rfl
theorem Tryd.zb3 : zeroB Tryd.prog 3 = some [.int .i64 0] := by kernel_rfl
theorem Tryd.ag4 : aggB Tryd.prog 4 = some false := by kernel_rfl
theorem Tryd.cz4 : Tryd.prog.cellsOf 4 = 1 := by kernel_rfl
theorem Tryd.by4 : Tryd.prog.bytesOf 4 = 1 := by kernel_rfl
theorem Tryd.zb4 : zeroB Tryd.prog 4 = some [.bool false] := by kernel_rfl
theorem Tryd.ag5 : aggB Tryd.prog 5 = some false := by kernel_rfl
theorem Tryd.cz5 : Tryd.prog.cellsOf 5 = 1 := by kernel_rfl
theorem Tryd.by5 : Tryd.prog.bytesOf 5 = 1 := by kernel_rfl
theorem Tryd.zb5 : zeroB Tryd.prog 5 = some [.int .u8 0] := by kernel_rfl
theorem Tryd.ag6 : aggB Tryd.prog 6 = some false := by kernel_rfl
theorem Tryd.cz6 : Tryd.prog.cellsOf 6 = 1 := by kernel_rfl
theorem Tryd.by6 : Tryd.prog.bytesOf 6 = 1 := by kernel_rfl
theorem Tryd.zb6 : zeroB Tryd.prog 6 = some [.int .u8 0] := by kernel_rfl
theorem Tryd.ag7 : aggB Tryd.prog 7 = some true := by kernel_rfl
theorem Tryd.cz7 : Tryd.prog.cellsOf 7 = 4 := by kernel_rfl
theorem Tryd.by7 : Tryd.prog.bytesOf 7 = 24 := by kernel_rfl
theorem Tryd.zb7 : zeroB Tryd.prog 7 = some [.int .i64 0, .int .i64 0, .bool false, .int .u8 0] := by kernel_rfl
theorem Tryd.pl7 : placesB Tryd.prog 7 = some [(0, 1), (1, 1), (2, 1), (3, 1)] := by kernel_rfl
theorem Tryd.fd7_0 : fieldB Tryd.prog 7 0 = some 0 := by kernel_rfl
theorem Tryd.fd7_1 : fieldB Tryd.prog 7 1 = some 1 := by kernel_rfl
theorem Tryd.fd7_2 : fieldB Tryd.prog 7 2 = some 2 := by kernel_rfl
theorem Tryd.fd7_3 : fieldB Tryd.prog 7 3 = some 3 := by kernel_rfl
theorem Tryd.ag8 : aggB Tryd.prog 8 = some true := by kernel_rfl
theorem Tryd.cz8 : Tryd.prog.cellsOf 8 = 4 := by kernel_rfl
theorem Tryd.by8 : Tryd.prog.bytesOf 8 = 24 := by kernel_rfl
theorem Tryd.zb8 : zeroB Tryd.prog 8 = some [.int .i64 0, .int .i64 0, .bool false, .int .u8 0] := by kernel_rfl
theorem Tryd.pl8 : placesB Tryd.prog 8 = some [(0, 1), (1, 1), (2, 1), (3, 1)] := by kernel_rfl
theorem Tryd.fd8_0 : fieldB Tryd.prog 8 0 = some 0 := by kernel_rfl
theorem Tryd.fd8_1 : fieldB Tryd.prog 8 1 = some 1 := by kernel_rfl
theorem Tryd.fd8_2 : fieldB Tryd.prog 8 2 = some 2 := by kernel_rfl
theorem Tryd.fd8_3 : fieldB Tryd.prog 8 3 = some 3 := by kernel_rfl
theorem Tryd.ag9 : aggB Tryd.prog 9 = some false := by kernel_rfl
theorem Tryd.cz9 : Tryd.prog.cellsOf 9 = 1 := by kernel_rfl
theorem Tryd.by9 : Tryd.prog.bytesOf 9 = 16 := by kernel_rfl
theorem Tryd.zb9 : zeroB Tryd.prog 9 = some [.string ⟨#[]⟩] := by kernel_rfl
theorem Tryd.ag10 : aggB Tryd.prog 10 = some false := by kernel_rfl
theorem Tryd.cz10 : Tryd.prog.cellsOf 10 = 1 := by kernel_rfl
theorem Tryd.by10 : Tryd.prog.bytesOf 10 = 16 := by kernel_rfl
theorem Tryd.zb10 : zeroB Tryd.prog 10 = some [.string ⟨#[]⟩] := by kernel_rfl
theorem Tryd.ag11 : aggB Tryd.prog 11 = some false := by kernel_rfl
theorem Tryd.cz11 : Tryd.prog.cellsOf 11 = 1 := by kernel_rfl
theorem Tryd.by11 : Tryd.prog.bytesOf 11 = 16 := by kernel_rfl
theorem Tryd.zb11 : zeroB Tryd.prog 11 = some [.string ⟨#[]⟩] := by kernel_rfl
theorem Tryd.ag12 : aggB Tryd.prog 12 = some false := by kernel_rfl
theorem Tryd.cz12 : Tryd.prog.cellsOf 12 = 1 := by kernel_rfl
theorem Tryd.by12 : Tryd.prog.bytesOf 12 = 8 := by kernel_rfl
theorem Tryd.zb12 : zeroB Tryd.prog 12 = some [.int .u64 0] := by kernel_rfl
theorem Tryd.ag13 : aggB Tryd.prog 13 = some true := by kernel_rfl
theorem Tryd.cz13 : Tryd.prog.cellsOf 13 = 2 := by kernel_rfl
theorem Tryd.by13 : Tryd.prog.bytesOf 13 = 24 := by kernel_rfl
theorem Tryd.zb13 : zeroB Tryd.prog 13 = some [.string ⟨#[]⟩, .int .u64 0] := by kernel_rfl
theorem Tryd.pl13 : placesB Tryd.prog 13 = some [(0, 1), (1, 1)] := by kernel_rfl
theorem Tryd.fd13_0 : fieldB Tryd.prog 13 0 = some 0 := by kernel_rfl
theorem Tryd.fd13_1 : fieldB Tryd.prog 13 1 = some 1 := by kernel_rfl
theorem Tryd.ag14 : aggB Tryd.prog 14 = some true := by kernel_rfl
theorem Tryd.cz14 : Tryd.prog.cellsOf 14 = 2 := by kernel_rfl
theorem Tryd.by14 : Tryd.prog.bytesOf 14 = 24 := by kernel_rfl
theorem Tryd.zb14 : zeroB Tryd.prog 14 = some [.string ⟨#[]⟩, .int .u64 0] := by kernel_rfl
theorem Tryd.pl14 : placesB Tryd.prog 14 = some [(0, 1), (1, 1)] := by kernel_rfl
theorem Tryd.fd14_0 : fieldB Tryd.prog 14 0 = some 0 := by kernel_rfl
theorem Tryd.fd14_1 : fieldB Tryd.prog 14 1 = some 1 := by kernel_rfl
theorem Tryd.ag15 : aggB Tryd.prog 15 = some false := by kernel_rfl
theorem Tryd.cz15 : Tryd.prog.cellsOf 15 = 1 := by kernel_rfl
theorem Tryd.by15 : Tryd.prog.bytesOf 15 = 8 := by kernel_rfl
theorem Tryd.zb15 : zeroB Tryd.prog 15 = some [.pointer none] := by kernel_rfl
theorem Tryd.ag16 : aggB Tryd.prog 16 = some false := by kernel_rfl
theorem Tryd.cz16 : Tryd.prog.cellsOf 16 = 1 := by kernel_rfl
theorem Tryd.by16 : Tryd.prog.bytesOf 16 = 8 := by kernel_rfl
theorem Tryd.zb16 : zeroB Tryd.prog 16 = some [.pointer none] := by kernel_rfl
theorem Tryd.ag17 : aggB Tryd.prog 17 = some false := by kernel_rfl
theorem Tryd.cz17 : Tryd.prog.cellsOf 17 = 1 := by kernel_rfl
theorem Tryd.by17 : Tryd.prog.bytesOf 17 = 8 := by kernel_rfl
theorem Tryd.zb17 : zeroB Tryd.prog 17 = some [.pointer none] := by kernel_rfl
theorem Tryd.ag18 : aggB Tryd.prog 18 = some true := by kernel_rfl
theorem Tryd.cz18 : Tryd.prog.cellsOf 18 = 1 := by kernel_rfl
theorem Tryd.by18 : Tryd.prog.bytesOf 18 = 8 := by kernel_rfl
theorem Tryd.zb18 : zeroB Tryd.prog 18 = some [.pointer none] := by kernel_rfl
theorem Tryd.pl18 : placesB Tryd.prog 18 = some [(0, 1)] := by kernel_rfl
theorem Tryd.fd18_0 : fieldB Tryd.prog 18 0 = some 0 := by kernel_rfl
theorem Tryd.ag19 : aggB Tryd.prog 19 = some true := by kernel_rfl
theorem Tryd.cz19 : Tryd.prog.cellsOf 19 = 1 := by kernel_rfl
theorem Tryd.by19 : Tryd.prog.bytesOf 19 = 8 := by kernel_rfl
theorem Tryd.zb19 : zeroB Tryd.prog 19 = some [.pointer none] := by kernel_rfl
theorem Tryd.pl19 : placesB Tryd.prog 19 = some [(0, 1)] := by kernel_rfl
theorem Tryd.fd19_0 : fieldB Tryd.prog 19 0 = some 0 := by kernel_rfl
theorem Tryd.ag20 : aggB Tryd.prog 20 = some false := by kernel_rfl
theorem Tryd.cz20 : Tryd.prog.cellsOf 20 = 1 := by kernel_rfl
theorem Tryd.by20 : Tryd.prog.bytesOf 20 = 16 := by kernel_rfl
theorem Tryd.zb20 : zeroB Tryd.prog 20 = some [.nilIface] := by kernel_rfl
theorem Tryd.ag21 : aggB Tryd.prog 21 = some false := by kernel_rfl
theorem Tryd.cz21 : Tryd.prog.cellsOf 21 = 1 := by kernel_rfl
theorem Tryd.by21 : Tryd.prog.bytesOf 21 = 4 := by kernel_rfl
theorem Tryd.zb21 : zeroB Tryd.prog 21 = some [.int .i32 0] := by kernel_rfl
theorem Tryd.ag22 : aggB Tryd.prog 22 = some true := by kernel_rfl
theorem Tryd.cz22 : Tryd.prog.cellsOf 22 = 5 := by kernel_rfl
theorem Tryd.by22 : Tryd.prog.bytesOf 22 = 40 := by kernel_rfl
theorem Tryd.zb22 : zeroB Tryd.prog 22 = some [.int .i64 0, .int .i64 0, .int .i64 0, .int .i64 0, .int .i64 0] := by kernel_rfl
theorem Tryd.pl22 : placesB Tryd.prog 22 = some [(0, 1), (1, 1), (2, 1), (3, 1), (4, 1)] := by kernel_rfl
theorem Tryd.fd22_0 : fieldB Tryd.prog 22 0 = some 0 := by kernel_rfl
theorem Tryd.fd22_1 : fieldB Tryd.prog 22 1 = some 1 := by kernel_rfl
theorem Tryd.fd22_2 : fieldB Tryd.prog 22 2 = some 2 := by kernel_rfl
theorem Tryd.fd22_3 : fieldB Tryd.prog 22 3 = some 3 := by kernel_rfl
theorem Tryd.fd22_4 : fieldB Tryd.prog 22 4 = some 4 := by kernel_rfl
theorem Tryd.ag23 : aggB Tryd.prog 23 = some true := by kernel_rfl
theorem Tryd.cz23 : Tryd.prog.cellsOf 23 = 5 := by kernel_rfl
theorem Tryd.by23 : Tryd.prog.bytesOf 23 = 40 := by kernel_rfl
theorem Tryd.zb23 : zeroB Tryd.prog 23 = some [.int .i64 0, .int .i64 0, .int .i64 0, .int .i64 0, .int .i64 0] := by kernel_rfl
theorem Tryd.pl23 : placesB Tryd.prog 23 = some [(0, 1), (1, 1), (2, 1), (3, 1), (4, 1)] := by kernel_rfl
theorem Tryd.sh23 : Tryd.prog.stoodInHeld 23 = false := by kernel_rfl
theorem Tryd.eg23 : Tryd.prog.eqGuardType Tryd.prog.depth 23 = false := by kernel_rfl
theorem Tryd.fd23_0 : fieldB Tryd.prog 23 0 = some 0 := by kernel_rfl
theorem Tryd.fd23_1 : fieldB Tryd.prog 23 1 = some 1 := by kernel_rfl
theorem Tryd.fd23_2 : fieldB Tryd.prog 23 2 = some 2 := by kernel_rfl
theorem Tryd.fd23_3 : fieldB Tryd.prog 23 3 = some 3 := by kernel_rfl
theorem Tryd.fd23_4 : fieldB Tryd.prog 23 4 = some 4 := by kernel_rfl
theorem Tryd.ag24 : aggB Tryd.prog 24 = some false := by kernel_rfl
theorem Tryd.cz24 : Tryd.prog.cellsOf 24 = 1 := by kernel_rfl
theorem Tryd.by24 : Tryd.prog.bytesOf 24 = 8 := by kernel_rfl
theorem Tryd.zb24 : zeroB Tryd.prog 24 = some [.nilFunc] := by kernel_rfl
theorem Tryd.ag25 : aggB Tryd.prog 25 = some false := by kernel_rfl
theorem Tryd.cz25 : Tryd.prog.cellsOf 25 = 1 := by kernel_rfl
theorem Tryd.by25 : Tryd.prog.bytesOf 25 = 24 := by kernel_rfl
theorem Tryd.zb25 : zeroB Tryd.prog 25 = some [.slice none 0 0] := by kernel_rfl
theorem Tryd.ag26 : aggB Tryd.prog 26 = some false := by kernel_rfl
theorem Tryd.cz26 : Tryd.prog.cellsOf 26 = 1 := by kernel_rfl
theorem Tryd.by26 : Tryd.prog.bytesOf 26 = 8 := by kernel_rfl
theorem Tryd.zb26 : zeroB Tryd.prog 26 = some [.nilFunc] := by kernel_rfl
theorem Tryd.ag27 : aggB Tryd.prog 27 = some false := by kernel_rfl
theorem Tryd.cz27 : Tryd.prog.cellsOf 27 = 1 := by kernel_rfl
theorem Tryd.by27 : Tryd.prog.bytesOf 27 = 8 := by kernel_rfl
theorem Tryd.zb27 : zeroB Tryd.prog 27 = some [.int .u64 0] := by kernel_rfl
theorem Tryd.ag28 : aggB Tryd.prog 28 = some false := by kernel_rfl
theorem Tryd.cz28 : Tryd.prog.cellsOf 28 = 1 := by kernel_rfl
theorem Tryd.by28 : Tryd.prog.bytesOf 28 = 8 := by kernel_rfl
theorem Tryd.zb28 : zeroB Tryd.prog 28 = some [.int .i64 0] := by kernel_rfl
theorem Tryd.ag30 : aggB Tryd.prog 30 = some false := by kernel_rfl
theorem Tryd.cz30 : Tryd.prog.cellsOf 30 = 1 := by kernel_rfl
theorem Tryd.by30 : Tryd.prog.bytesOf 30 = 8 := by kernel_rfl
theorem Tryd.zb30 : zeroB Tryd.prog 30 = some [.nilFunc] := by kernel_rfl
theorem Tryd.ag31 : aggB Tryd.prog 31 = some false := by kernel_rfl
theorem Tryd.cz31 : Tryd.prog.cellsOf 31 = 1 := by kernel_rfl
theorem Tryd.by31 : Tryd.prog.bytesOf 31 = 8 := by kernel_rfl
theorem Tryd.zb31 : zeroB Tryd.prog 31 = some [.nilFunc] := by kernel_rfl
theorem Tryd.ag32 : aggB Tryd.prog 32 = some false := by kernel_rfl
theorem Tryd.cz32 : Tryd.prog.cellsOf 32 = 1 := by kernel_rfl
theorem Tryd.by32 : Tryd.prog.bytesOf 32 = 24 := by kernel_rfl
theorem Tryd.zb32 : zeroB Tryd.prog 32 = some [.slice none 0 0] := by kernel_rfl
theorem Tryd.ag33 : aggB Tryd.prog 33 = some true := by kernel_rfl
theorem Tryd.cz33 : Tryd.prog.cellsOf 33 = 8 := by kernel_rfl
theorem Tryd.by33 : Tryd.prog.bytesOf 33 = 80 := by kernel_rfl
theorem Tryd.zb33 : zeroB Tryd.prog 33 = some [.int .i64 0, .int .i64 0, .int .i64 0, .int .i64 0, .int .i64 0, .int .i64 0, .int .i64 0, .slice none 0 0] := by kernel_rfl
theorem Tryd.pl33 : placesB Tryd.prog 33 = some [(0, 1), (1, 1), (2, 1), (3, 1), (4, 1), (5, 1), (6, 1), (7, 1)] := by kernel_rfl
theorem Tryd.fd33_0 : fieldB Tryd.prog 33 0 = some 0 := by kernel_rfl
theorem Tryd.fd33_1 : fieldB Tryd.prog 33 1 = some 1 := by kernel_rfl
theorem Tryd.fd33_2 : fieldB Tryd.prog 33 2 = some 2 := by kernel_rfl
theorem Tryd.fd33_3 : fieldB Tryd.prog 33 3 = some 3 := by kernel_rfl
theorem Tryd.fd33_4 : fieldB Tryd.prog 33 4 = some 4 := by kernel_rfl
theorem Tryd.fd33_5 : fieldB Tryd.prog 33 5 = some 5 := by kernel_rfl
theorem Tryd.fd33_6 : fieldB Tryd.prog 33 6 = some 6 := by kernel_rfl
theorem Tryd.fd33_7 : fieldB Tryd.prog 33 7 = some 7 := by kernel_rfl
theorem Tryd.ag34 : aggB Tryd.prog 34 = some true := by kernel_rfl
theorem Tryd.cz34 : Tryd.prog.cellsOf 34 = 8 := by kernel_rfl
theorem Tryd.by34 : Tryd.prog.bytesOf 34 = 80 := by kernel_rfl
theorem Tryd.zb34 : zeroB Tryd.prog 34 = some [.int .i64 0, .int .i64 0, .int .i64 0, .int .i64 0, .int .i64 0, .int .i64 0, .int .i64 0, .slice none 0 0] := by kernel_rfl
theorem Tryd.pl34 : placesB Tryd.prog 34 = some [(0, 1), (1, 1), (2, 1), (3, 1), (4, 1), (5, 1), (6, 1), (7, 1)] := by kernel_rfl
theorem Tryd.sh34 : Tryd.prog.stoodInHeld 34 = false := by kernel_rfl
theorem Tryd.eg34 : Tryd.prog.eqGuardType Tryd.prog.depth 34 = false := by kernel_rfl
theorem Tryd.fd34_0 : fieldB Tryd.prog 34 0 = some 0 := by kernel_rfl
theorem Tryd.fd34_1 : fieldB Tryd.prog 34 1 = some 1 := by kernel_rfl
theorem Tryd.fd34_2 : fieldB Tryd.prog 34 2 = some 2 := by kernel_rfl
theorem Tryd.fd34_3 : fieldB Tryd.prog 34 3 = some 3 := by kernel_rfl
theorem Tryd.fd34_4 : fieldB Tryd.prog 34 4 = some 4 := by kernel_rfl
theorem Tryd.fd34_5 : fieldB Tryd.prog 34 5 = some 5 := by kernel_rfl
theorem Tryd.fd34_6 : fieldB Tryd.prog 34 6 = some 6 := by kernel_rfl
theorem Tryd.fd34_7 : fieldB Tryd.prog 34 7 = some 7 := by kernel_rfl
theorem Tryd.ag35 : aggB Tryd.prog 35 = some false := by kernel_rfl
theorem Tryd.cz35 : Tryd.prog.cellsOf 35 = 1 := by kernel_rfl
theorem Tryd.by35 : Tryd.prog.bytesOf 35 = 8 := by kernel_rfl
theorem Tryd.zb35 : zeroB Tryd.prog 35 = some [.nilFunc] := by kernel_rfl
theorem Tryd.ag36 : aggB Tryd.prog 36 = some false := by kernel_rfl
theorem Tryd.cz36 : Tryd.prog.cellsOf 36 = 1 := by kernel_rfl
theorem Tryd.by36 : Tryd.prog.bytesOf 36 = 8 := by kernel_rfl
theorem Tryd.zb36 : zeroB Tryd.prog 36 = some [.nilFunc] := by kernel_rfl
theorem Tryd.ag37 : aggB Tryd.prog 37 = some false := by kernel_rfl
theorem Tryd.cz37 : Tryd.prog.cellsOf 37 = 1 := by kernel_rfl
theorem Tryd.by37 : Tryd.prog.bytesOf 37 = 8 := by kernel_rfl
theorem Tryd.zb37 : zeroB Tryd.prog 37 = some [.nilFunc] := by kernel_rfl
theorem Tryd.ag38 : aggB Tryd.prog 38 = some false := by kernel_rfl
theorem Tryd.cz38 : Tryd.prog.cellsOf 38 = 1 := by kernel_rfl
theorem Tryd.by38 : Tryd.prog.bytesOf 38 = 8 := by kernel_rfl
theorem Tryd.zb38 : zeroB Tryd.prog 38 = some [.nilFunc] := by kernel_rfl
theorem Tryd.ag39 : aggB Tryd.prog 39 = some false := by kernel_rfl
theorem Tryd.cz39 : Tryd.prog.cellsOf 39 = 1 := by kernel_rfl
theorem Tryd.by39 : Tryd.prog.bytesOf 39 = 8 := by kernel_rfl
theorem Tryd.zb39 : zeroB Tryd.prog 39 = some [.nilFunc] := by kernel_rfl
theorem Tryd.ag40 : aggB Tryd.prog 40 = some false := by kernel_rfl
theorem Tryd.cz40 : Tryd.prog.cellsOf 40 = 1 := by kernel_rfl
theorem Tryd.by40 : Tryd.prog.bytesOf 40 = 24 := by kernel_rfl
theorem Tryd.zb40 : zeroB Tryd.prog 40 = some [.slice none 0 0] := by kernel_rfl
theorem Tryd.ag41 : aggB Tryd.prog 41 = some false := by kernel_rfl
theorem Tryd.cz41 : Tryd.prog.cellsOf 41 = 1 := by kernel_rfl
theorem Tryd.by41 : Tryd.prog.bytesOf 41 = 8 := by kernel_rfl
theorem Tryd.zb41 : zeroB Tryd.prog 41 = some [.nilFunc] := by kernel_rfl
theorem Tryd.ag42 : aggB Tryd.prog 42 = some false := by kernel_rfl
theorem Tryd.cz42 : Tryd.prog.cellsOf 42 = 1 := by kernel_rfl
theorem Tryd.by42 : Tryd.prog.bytesOf 42 = 8 := by kernel_rfl
theorem Tryd.zb42 : zeroB Tryd.prog 42 = some [.nilFunc] := by kernel_rfl
theorem Tryd.ag43 : aggB Tryd.prog 43 = some false := by kernel_rfl
theorem Tryd.cz43 : Tryd.prog.cellsOf 43 = 1 := by kernel_rfl
theorem Tryd.by43 : Tryd.prog.bytesOf 43 = 8 := by kernel_rfl
theorem Tryd.zb43 : zeroB Tryd.prog 43 = some [.nilFunc] := by kernel_rfl
theorem Tryd.ag44 : aggB Tryd.prog 44 = some true := by kernel_rfl
theorem Tryd.cz44 : Tryd.prog.cellsOf 44 = 5 := by kernel_rfl
theorem Tryd.by44 : Tryd.prog.bytesOf 44 = 40 := by kernel_rfl
theorem Tryd.zb44 : zeroB Tryd.prog 44 = some [.int .i64 0, .int .i64 0, .int .i64 0, .int .i64 0, .int .i64 0] := by kernel_rfl
theorem Tryd.ar44 : arrB Tryd.prog 44 = some (5, 1) := by kernel_rfl
theorem Tryd.ag45 : aggB Tryd.prog 45 = some false := by kernel_rfl
theorem Tryd.cz45 : Tryd.prog.cellsOf 45 = 1 := by kernel_rfl
theorem Tryd.by45 : Tryd.prog.bytesOf 45 = 24 := by kernel_rfl
theorem Tryd.zb45 : zeroB Tryd.prog 45 = some [.slice none 0 0] := by kernel_rfl
theorem Tryd.ag46 : aggB Tryd.prog 46 = some false := by kernel_rfl
theorem Tryd.cz46 : Tryd.prog.cellsOf 46 = 1 := by kernel_rfl
theorem Tryd.by46 : Tryd.prog.bytesOf 46 = 8 := by kernel_rfl
theorem Tryd.zb46 : zeroB Tryd.prog 46 = some [.nilFunc] := by kernel_rfl
theorem Tryd.ag47 : aggB Tryd.prog 47 = some false := by kernel_rfl
theorem Tryd.cz47 : Tryd.prog.cellsOf 47 = 1 := by kernel_rfl
theorem Tryd.by47 : Tryd.prog.bytesOf 47 = 16 := by kernel_rfl
theorem Tryd.zb47 : zeroB Tryd.prog 47 = some [.nilIface] := by kernel_rfl
theorem Tryd.ag48 : aggB Tryd.prog 48 = some false := by kernel_rfl
theorem Tryd.cz48 : Tryd.prog.cellsOf 48 = 1 := by kernel_rfl
theorem Tryd.by48 : Tryd.prog.bytesOf 48 = 16 := by kernel_rfl
theorem Tryd.zb48 : zeroB Tryd.prog 48 = some [.nilIface] := by kernel_rfl
theorem Tryd.ag50 : aggB Tryd.prog 50 = some false := by kernel_rfl
theorem Tryd.cz50 : Tryd.prog.cellsOf 50 = 1 := by kernel_rfl
theorem Tryd.by50 : Tryd.prog.bytesOf 50 = 8 := by kernel_rfl
theorem Tryd.zb50 : zeroB Tryd.prog 50 = some [.nilFunc] := by kernel_rfl
theorem Tryd.ag51 : aggB Tryd.prog 51 = some false := by kernel_rfl
theorem Tryd.cz51 : Tryd.prog.cellsOf 51 = 1 := by kernel_rfl
theorem Tryd.by51 : Tryd.prog.bytesOf 51 = 8 := by kernel_rfl
theorem Tryd.zb51 : zeroB Tryd.prog 51 = some [.nilFunc] := by kernel_rfl
theorem Tryd.ag52 : aggB Tryd.prog 52 = some false := by kernel_rfl
theorem Tryd.cz52 : Tryd.prog.cellsOf 52 = 1 := by kernel_rfl
theorem Tryd.by52 : Tryd.prog.bytesOf 52 = 8 := by kernel_rfl
theorem Tryd.zb52 : zeroB Tryd.prog 52 = some [.nilFunc] := by kernel_rfl
theorem Tryd.ag53 : aggB Tryd.prog 53 = some false := by kernel_rfl
theorem Tryd.cz53 : Tryd.prog.cellsOf 53 = 1 := by kernel_rfl
theorem Tryd.by53 : Tryd.prog.bytesOf 53 = 8 := by kernel_rfl
theorem Tryd.zb53 : zeroB Tryd.prog 53 = some [.nilFunc] := by kernel_rfl
theorem Tryd.ag54 : aggB Tryd.prog 54 = some false := by kernel_rfl
theorem Tryd.cz54 : Tryd.prog.cellsOf 54 = 1 := by kernel_rfl
theorem Tryd.by54 : Tryd.prog.bytesOf 54 = 8 := by kernel_rfl
theorem Tryd.zb54 : zeroB Tryd.prog 54 = some [.nilFunc] := by kernel_rfl
theorem Tryd.ag55 : aggB Tryd.prog 55 = some false := by kernel_rfl
theorem Tryd.cz55 : Tryd.prog.cellsOf 55 = 1 := by kernel_rfl
theorem Tryd.by55 : Tryd.prog.bytesOf 55 = 8 := by kernel_rfl
theorem Tryd.zb55 : zeroB Tryd.prog 55 = some [.nilFunc] := by kernel_rfl
theorem Tryd.ag56 : aggB Tryd.prog 56 = some false := by kernel_rfl
theorem Tryd.cz56 : Tryd.prog.cellsOf 56 = 1 := by kernel_rfl
theorem Tryd.by56 : Tryd.prog.bytesOf 56 = 8 := by kernel_rfl
theorem Tryd.zb56 : zeroB Tryd.prog 56 = some [.nilFunc] := by kernel_rfl
theorem Tryd.ag57 : aggB Tryd.prog 57 = some false := by kernel_rfl
theorem Tryd.cz57 : Tryd.prog.cellsOf 57 = 1 := by kernel_rfl
theorem Tryd.by57 : Tryd.prog.bytesOf 57 = 8 := by kernel_rfl
theorem Tryd.zb57 : zeroB Tryd.prog 57 = some [.nilFunc] := by kernel_rfl
theorem Tryd.ag58 : aggB Tryd.prog 58 = some false := by kernel_rfl
theorem Tryd.cz58 : Tryd.prog.cellsOf 58 = 1 := by kernel_rfl
theorem Tryd.by58 : Tryd.prog.bytesOf 58 = 8 := by kernel_rfl
theorem Tryd.zb58 : zeroB Tryd.prog 58 = some [.pointer none] := by kernel_rfl
theorem Tryd.ag59 : aggB Tryd.prog 59 = some false := by kernel_rfl
theorem Tryd.cz59 : Tryd.prog.cellsOf 59 = 1 := by kernel_rfl
theorem Tryd.by59 : Tryd.prog.bytesOf 59 = 24 := by kernel_rfl
theorem Tryd.zb59 : zeroB Tryd.prog 59 = some [.slice none 0 0] := by kernel_rfl
theorem Tryd.ag60 : aggB Tryd.prog 60 = some true := by kernel_rfl
theorem Tryd.cz60 : Tryd.prog.cellsOf 60 = 2 := by kernel_rfl
theorem Tryd.by60 : Tryd.prog.bytesOf 60 = 32 := by kernel_rfl
theorem Tryd.zb60 : zeroB Tryd.prog 60 = some [.pointer none, .slice none 0 0] := by kernel_rfl
theorem Tryd.pl60 : placesB Tryd.prog 60 = some [(0, 1), (1, 1)] := by kernel_rfl
theorem Tryd.fd60_0 : fieldB Tryd.prog 60 0 = some 0 := by kernel_rfl
theorem Tryd.fd60_1 : fieldB Tryd.prog 60 1 = some 1 := by kernel_rfl
theorem Tryd.ag61 : aggB Tryd.prog 61 = some true := by kernel_rfl
theorem Tryd.cz61 : Tryd.prog.cellsOf 61 = 2 := by kernel_rfl
theorem Tryd.by61 : Tryd.prog.bytesOf 61 = 32 := by kernel_rfl
theorem Tryd.zb61 : zeroB Tryd.prog 61 = some [.pointer none, .slice none 0 0] := by kernel_rfl
theorem Tryd.pl61 : placesB Tryd.prog 61 = some [(0, 1), (1, 1)] := by kernel_rfl
theorem Tryd.sh61 : Tryd.prog.stoodInHeld 61 = false := by kernel_rfl
theorem Tryd.eg61 : Tryd.prog.eqGuardType Tryd.prog.depth 61 = false := by kernel_rfl
theorem Tryd.fd61_0 : fieldB Tryd.prog 61 0 = some 0 := by kernel_rfl
theorem Tryd.fd61_1 : fieldB Tryd.prog 61 1 = some 1 := by kernel_rfl
theorem Tryd.ag62 : aggB Tryd.prog 62 = some false := by kernel_rfl
theorem Tryd.cz62 : Tryd.prog.cellsOf 62 = 1 := by kernel_rfl
theorem Tryd.by62 : Tryd.prog.bytesOf 62 = 8 := by kernel_rfl
theorem Tryd.zb62 : zeroB Tryd.prog 62 = some [.nilFunc] := by kernel_rfl
theorem Tryd.ag63 : aggB Tryd.prog 63 = some false := by kernel_rfl
theorem Tryd.cz63 : Tryd.prog.cellsOf 63 = 1 := by kernel_rfl
theorem Tryd.by63 : Tryd.prog.bytesOf 63 = 8 := by kernel_rfl
theorem Tryd.zb63 : zeroB Tryd.prog 63 = some [.nilFunc] := by kernel_rfl
theorem Tryd.ag64 : aggB Tryd.prog 64 = some false := by kernel_rfl
theorem Tryd.cz64 : Tryd.prog.cellsOf 64 = 1 := by kernel_rfl
theorem Tryd.by64 : Tryd.prog.bytesOf 64 = 8 := by kernel_rfl
theorem Tryd.zb64 : zeroB Tryd.prog 64 = some [.nilFunc] := by kernel_rfl
theorem Tryd.ag65 : aggB Tryd.prog 65 = some false := by kernel_rfl
theorem Tryd.cz65 : Tryd.prog.cellsOf 65 = 1 := by kernel_rfl
theorem Tryd.by65 : Tryd.prog.bytesOf 65 = 8 := by kernel_rfl
theorem Tryd.zb65 : zeroB Tryd.prog 65 = some [.nilFunc] := by kernel_rfl
theorem Tryd.ag66 : aggB Tryd.prog 66 = some false := by kernel_rfl
theorem Tryd.cz66 : Tryd.prog.cellsOf 66 = 1 := by kernel_rfl
theorem Tryd.by66 : Tryd.prog.bytesOf 66 = 8 := by kernel_rfl
theorem Tryd.zb66 : zeroB Tryd.prog 66 = some [.int .i64 0] := by kernel_rfl
theorem Tryd.ag68 : aggB Tryd.prog 68 = some false := by kernel_rfl
theorem Tryd.cz68 : Tryd.prog.cellsOf 68 = 1 := by kernel_rfl
theorem Tryd.by68 : Tryd.prog.bytesOf 68 = 8 := by kernel_rfl
theorem Tryd.zb68 : zeroB Tryd.prog 68 = some [.nilFunc] := by kernel_rfl
theorem Tryd.ag69 : aggB Tryd.prog 69 = some false := by kernel_rfl
theorem Tryd.cz69 : Tryd.prog.cellsOf 69 = 1 := by kernel_rfl
theorem Tryd.by69 : Tryd.prog.bytesOf 69 = 8 := by kernel_rfl
theorem Tryd.zb69 : zeroB Tryd.prog 69 = some [.pointer none] := by kernel_rfl
theorem Tryd.ag70 : aggB Tryd.prog 70 = some false := by kernel_rfl
theorem Tryd.cz70 : Tryd.prog.cellsOf 70 = 1 := by kernel_rfl
theorem Tryd.by70 : Tryd.prog.bytesOf 70 = 8 := by kernel_rfl
theorem Tryd.zb70 : zeroB Tryd.prog 70 = some [.nilFunc] := by kernel_rfl
theorem Tryd.ag71 : aggB Tryd.prog 71 = some false := by kernel_rfl
theorem Tryd.cz71 : Tryd.prog.cellsOf 71 = 1 := by kernel_rfl
theorem Tryd.by71 : Tryd.prog.bytesOf 71 = 8 := by kernel_rfl
theorem Tryd.zb71 : zeroB Tryd.prog 71 = some [.nilFunc] := by kernel_rfl
theorem Tryd.ag72 : aggB Tryd.prog 72 = some false := by kernel_rfl
theorem Tryd.cz72 : Tryd.prog.cellsOf 72 = 1 := by kernel_rfl
theorem Tryd.by72 : Tryd.prog.bytesOf 72 = 8 := by kernel_rfl
theorem Tryd.zb72 : zeroB Tryd.prog 72 = some [.nilFunc] := by kernel_rfl
theorem Tryd.ag73 : aggB Tryd.prog 73 = some false := by kernel_rfl
theorem Tryd.cz73 : Tryd.prog.cellsOf 73 = 1 := by kernel_rfl
theorem Tryd.by73 : Tryd.prog.bytesOf 73 = 8 := by kernel_rfl
theorem Tryd.zb73 : zeroB Tryd.prog 73 = some [.pointer none] := by kernel_rfl
theorem Tryd.ag74 : aggB Tryd.prog 74 = some false := by kernel_rfl
theorem Tryd.cz74 : Tryd.prog.cellsOf 74 = 1 := by kernel_rfl
theorem Tryd.by74 : Tryd.prog.bytesOf 74 = 8 := by kernel_rfl
theorem Tryd.zb74 : zeroB Tryd.prog 74 = some [.nilFunc] := by kernel_rfl
theorem Tryd.ag76 : aggB Tryd.prog 76 = some false := by kernel_rfl
theorem Tryd.cz76 : Tryd.prog.cellsOf 76 = 1 := by kernel_rfl
theorem Tryd.by76 : Tryd.prog.bytesOf 76 = 8 := by kernel_rfl
theorem Tryd.zb76 : zeroB Tryd.prog 76 = some [.nilFunc] := by kernel_rfl
theorem Tryd.ag77 : aggB Tryd.prog 77 = some false := by kernel_rfl
theorem Tryd.cz77 : Tryd.prog.cellsOf 77 = 1 := by kernel_rfl
theorem Tryd.by77 : Tryd.prog.bytesOf 77 = 8 := by kernel_rfl
theorem Tryd.zb77 : zeroB Tryd.prog 77 = some [.nilFunc] := by kernel_rfl
theorem Tryd.ag79 : aggB Tryd.prog 79 = some false := by kernel_rfl
theorem Tryd.cz79 : Tryd.prog.cellsOf 79 = 1 := by kernel_rfl
theorem Tryd.by79 : Tryd.prog.bytesOf 79 = 8 := by kernel_rfl
theorem Tryd.zb79 : zeroB Tryd.prog 79 = some [.nilFunc] := by kernel_rfl
theorem Tryd.ag80 : aggB Tryd.prog 80 = some false := by kernel_rfl
theorem Tryd.cz80 : Tryd.prog.cellsOf 80 = 1 := by kernel_rfl
theorem Tryd.by80 : Tryd.prog.bytesOf 80 = 8 := by kernel_rfl
theorem Tryd.zb80 : zeroB Tryd.prog 80 = some [.int .u64 0] := by kernel_rfl
theorem Tryd.ag81 : aggB Tryd.prog 81 = some false := by kernel_rfl
theorem Tryd.cz81 : Tryd.prog.cellsOf 81 = 1 := by kernel_rfl
theorem Tryd.by81 : Tryd.prog.bytesOf 81 = 8 := by kernel_rfl
theorem Tryd.zb81 : zeroB Tryd.prog 81 = some [.nilFunc] := by kernel_rfl
theorem Tryd.ag82 : aggB Tryd.prog 82 = some true := by kernel_rfl
theorem Tryd.cz82 : Tryd.prog.cellsOf 82 = 3 := by kernel_rfl
theorem Tryd.by82 : Tryd.prog.bytesOf 82 = 48 := by kernel_rfl
theorem Tryd.zb82 : zeroB Tryd.prog 82 = some [.string ⟨#[]⟩, .string ⟨#[]⟩, .nilIface] := by kernel_rfl
theorem Tryd.pl82 : placesB Tryd.prog 82 = some [(0, 1), (1, 1), (2, 1)] := by kernel_rfl
theorem Tryd.fd82_0 : fieldB Tryd.prog 82 0 = some 0 := by kernel_rfl
theorem Tryd.fd82_1 : fieldB Tryd.prog 82 1 = some 1 := by kernel_rfl
theorem Tryd.fd82_2 : fieldB Tryd.prog 82 2 = some 2 := by kernel_rfl
theorem Tryd.ag83 : aggB Tryd.prog 83 = some true := by kernel_rfl
theorem Tryd.cz83 : Tryd.prog.cellsOf 83 = 3 := by kernel_rfl
theorem Tryd.by83 : Tryd.prog.bytesOf 83 = 48 := by kernel_rfl
theorem Tryd.zb83 : zeroB Tryd.prog 83 = some [.string ⟨#[]⟩, .string ⟨#[]⟩, .nilIface] := by kernel_rfl
theorem Tryd.pl83 : placesB Tryd.prog 83 = some [(0, 1), (1, 1), (2, 1)] := by kernel_rfl
theorem Tryd.fd83_0 : fieldB Tryd.prog 83 0 = some 0 := by kernel_rfl
theorem Tryd.fd83_1 : fieldB Tryd.prog 83 1 = some 1 := by kernel_rfl
theorem Tryd.fd83_2 : fieldB Tryd.prog 83 2 = some 2 := by kernel_rfl
theorem Tryd.ag84 : aggB Tryd.prog 84 = some false := by kernel_rfl
theorem Tryd.cz84 : Tryd.prog.cellsOf 84 = 1 := by kernel_rfl
theorem Tryd.by84 : Tryd.prog.bytesOf 84 = 8 := by kernel_rfl
theorem Tryd.zb84 : zeroB Tryd.prog 84 = some [.nilFunc] := by kernel_rfl
theorem Tryd.ag85 : aggB Tryd.prog 85 = some true := by kernel_rfl
theorem Tryd.cz85 : Tryd.prog.cellsOf 85 = 24 := by kernel_rfl
theorem Tryd.by85 : Tryd.prog.bytesOf 85 = 24 := by kernel_rfl
theorem Tryd.zb85 : zeroB Tryd.prog 85 = some [.int .u8 0, .int .u8 0, .int .u8 0, .int .u8 0, .int .u8 0, .int .u8 0, .int .u8 0, .int .u8 0, .int .u8 0, .int .u8 0, .int .u8 0, .int .u8 0, .int .u8 0, .int .u8 0, .int .u8 0, .int .u8 0, .int .u8 0, .int .u8 0, .int .u8 0, .int .u8 0, .int .u8 0, .int .u8 0, .int .u8 0, .int .u8 0] := by kernel_rfl
theorem Tryd.ar85 : arrB Tryd.prog 85 = some (24, 1) := by kernel_rfl
theorem Tryd.ag86 : aggB Tryd.prog 86 = some false := by kernel_rfl
theorem Tryd.cz86 : Tryd.prog.cellsOf 86 = 1 := by kernel_rfl
theorem Tryd.by86 : Tryd.prog.bytesOf 86 = 8 := by kernel_rfl
theorem Tryd.zb86 : zeroB Tryd.prog 86 = some [.nilFunc] := by kernel_rfl
theorem Tryd.ag87 : aggB Tryd.prog 87 = some false := by kernel_rfl
theorem Tryd.cz87 : Tryd.prog.cellsOf 87 = 1 := by kernel_rfl
theorem Tryd.by87 : Tryd.prog.bytesOf 87 = 8 := by kernel_rfl
theorem Tryd.zb87 : zeroB Tryd.prog 87 = some [.nilFunc] := by kernel_rfl
theorem Tryd.ag89 : aggB Tryd.prog 89 = some false := by kernel_rfl
theorem Tryd.cz89 : Tryd.prog.cellsOf 89 = 1 := by kernel_rfl
theorem Tryd.by89 : Tryd.prog.bytesOf 89 = 8 := by kernel_rfl
theorem Tryd.zb89 : zeroB Tryd.prog 89 = some [.nilFunc] := by kernel_rfl
theorem Tryd.ag90 : aggB Tryd.prog 90 = some false := by kernel_rfl
theorem Tryd.cz90 : Tryd.prog.cellsOf 90 = 1 := by kernel_rfl
theorem Tryd.by90 : Tryd.prog.bytesOf 90 = 8 := by kernel_rfl
theorem Tryd.zb90 : zeroB Tryd.prog 90 = some [.pointer none] := by kernel_rfl
theorem Tryd.ag91 : aggB Tryd.prog 91 = some false := by kernel_rfl
theorem Tryd.cz91 : Tryd.prog.cellsOf 91 = 1 := by kernel_rfl
theorem Tryd.by91 : Tryd.prog.bytesOf 91 = 8 := by kernel_rfl
theorem Tryd.zb91 : zeroB Tryd.prog 91 = some [.nilFunc] := by kernel_rfl
theorem Tryd.ag92 : aggB Tryd.prog 92 = some false := by kernel_rfl
theorem Tryd.cz92 : Tryd.prog.cellsOf 92 = 1 := by kernel_rfl
theorem Tryd.by92 : Tryd.prog.bytesOf 92 = 8 := by kernel_rfl
theorem Tryd.zb92 : zeroB Tryd.prog 92 = some [.nilFunc] := by kernel_rfl
theorem Tryd.ag93 : aggB Tryd.prog 93 = some false := by kernel_rfl
theorem Tryd.cz93 : Tryd.prog.cellsOf 93 = 1 := by kernel_rfl
theorem Tryd.by93 : Tryd.prog.bytesOf 93 = 8 := by kernel_rfl
theorem Tryd.zb93 : zeroB Tryd.prog 93 = some [.nilFunc] := by kernel_rfl
theorem Tryd.ag94 : aggB Tryd.prog 94 = some false := by kernel_rfl
theorem Tryd.cz94 : Tryd.prog.cellsOf 94 = 1 := by kernel_rfl
theorem Tryd.by94 : Tryd.prog.bytesOf 94 = 8 := by kernel_rfl
theorem Tryd.zb94 : zeroB Tryd.prog 94 = some [.nilFunc] := by kernel_rfl
theorem Tryd.ag95 : aggB Tryd.prog 95 = some false := by kernel_rfl
theorem Tryd.cz95 : Tryd.prog.cellsOf 95 = 1 := by kernel_rfl
theorem Tryd.by95 : Tryd.prog.bytesOf 95 = 8 := by kernel_rfl
theorem Tryd.zb95 : zeroB Tryd.prog 95 = some [.nilFunc] := by kernel_rfl
theorem Tryd.ag96 : aggB Tryd.prog 96 = some false := by kernel_rfl
theorem Tryd.cz96 : Tryd.prog.cellsOf 96 = 1 := by kernel_rfl
theorem Tryd.by96 : Tryd.prog.bytesOf 96 = 8 := by kernel_rfl
theorem Tryd.zb96 : zeroB Tryd.prog 96 = some [.pointer none] := by kernel_rfl
theorem Tryd.ag97 : aggB Tryd.prog 97 = some true := by kernel_rfl
theorem Tryd.cz97 : Tryd.prog.cellsOf 97 = 1 := by kernel_rfl
theorem Tryd.by97 : Tryd.prog.bytesOf 97 = 16 := by kernel_rfl
theorem Tryd.zb97 : zeroB Tryd.prog 97 = some [.string ⟨#[]⟩] := by kernel_rfl
theorem Tryd.pl97 : placesB Tryd.prog 97 = some [(0, 1)] := by kernel_rfl
theorem Tryd.fd97_0 : fieldB Tryd.prog 97 0 = some 0 := by kernel_rfl
theorem Tryd.ag98 : aggB Tryd.prog 98 = some true := by kernel_rfl
theorem Tryd.cz98 : Tryd.prog.cellsOf 98 = 1 := by kernel_rfl
theorem Tryd.by98 : Tryd.prog.bytesOf 98 = 16 := by kernel_rfl
theorem Tryd.zb98 : zeroB Tryd.prog 98 = some [.string ⟨#[]⟩] := by kernel_rfl
theorem Tryd.pl98 : placesB Tryd.prog 98 = some [(0, 1)] := by kernel_rfl
theorem Tryd.sh98 : Tryd.prog.stoodInHeld 98 = false := by kernel_rfl
theorem Tryd.eg98 : Tryd.prog.eqGuardType Tryd.prog.depth 98 = false := by kernel_rfl
theorem Tryd.fd98_0 : fieldB Tryd.prog 98 0 = some 0 := by kernel_rfl
theorem Tryd.ag99 : aggB Tryd.prog 99 = some false := by kernel_rfl
theorem Tryd.cz99 : Tryd.prog.cellsOf 99 = 1 := by kernel_rfl
theorem Tryd.by99 : Tryd.prog.bytesOf 99 = 8 := by kernel_rfl
theorem Tryd.zb99 : zeroB Tryd.prog 99 = some [.nilFunc] := by kernel_rfl
theorem Tryd.ag100 : aggB Tryd.prog 100 = some true := by kernel_rfl
theorem Tryd.cz100 : Tryd.prog.cellsOf 100 = 20 := by kernel_rfl
theorem Tryd.by100 : Tryd.prog.bytesOf 100 = 160 := by kernel_rfl
theorem Tryd.zb100 : zeroB Tryd.prog 100 = some [.int .u64 0, .int .u64 0, .int .u64 0, .int .u64 0, .int .u64 0, .int .u64 0, .int .u64 0, .int .u64 0, .int .u64 0, .int .u64 0, .int .u64 0, .int .u64 0, .int .u64 0, .int .u64 0, .int .u64 0, .int .u64 0, .int .u64 0, .int .u64 0, .int .u64 0, .int .u64 0] := by kernel_rfl
theorem Tryd.ar100 : arrB Tryd.prog 100 = some (20, 1) := by kernel_rfl
theorem Tryd.ag101 : aggB Tryd.prog 101 = some false := by kernel_rfl
theorem Tryd.cz101 : Tryd.prog.cellsOf 101 = 1 := by kernel_rfl
theorem Tryd.by101 : Tryd.prog.bytesOf 101 = 4 := by kernel_rfl
theorem Tryd.zb101 : zeroB Tryd.prog 101 = some [.int .u32 0] := by kernel_rfl
theorem Tryd.ag102 : aggB Tryd.prog 102 = some true := by kernel_rfl
theorem Tryd.cz102 : Tryd.prog.cellsOf 102 = 65 := by kernel_rfl
theorem Tryd.by102 : Tryd.prog.bytesOf 102 = 65 := by kernel_rfl
theorem Tryd.zb102 : zeroB Tryd.prog 102 = some [.int .u8 0, .int .u8 0, .int .u8 0, .int .u8 0, .int .u8 0, .int .u8 0, .int .u8 0, .int .u8 0, .int .u8 0, .int .u8 0, .int .u8 0, .int .u8 0, .int .u8 0, .int .u8 0, .int .u8 0, .int .u8 0, .int .u8 0, .int .u8 0, .int .u8 0, .int .u8 0, .int .u8 0, .int .u8 0, .int .u8 0, .int .u8 0, .int .u8 0, .int .u8 0, .int .u8 0, .int .u8 0, .int .u8 0, .int .u8 0, .int .u8 0, .int .u8 0, .int .u8 0, .int .u8 0, .int .u8 0, .int .u8 0, .int .u8 0, .int .u8 0, .int .u8 0, .int .u8 0, .int .u8 0, .int .u8 0, .int .u8 0, .int .u8 0, .int .u8 0, .int .u8 0, .int .u8 0, .int .u8 0, .int .u8 0, .int .u8 0, .int .u8 0, .int .u8 0, .int .u8 0, .int .u8 0, .int .u8 0, .int .u8 0, .int .u8 0, .int .u8 0, .int .u8 0, .int .u8 0, .int .u8 0, .int .u8 0, .int .u8 0, .int .u8 0, .int .u8 0] := by kernel_rfl
theorem Tryd.ar102 : arrB Tryd.prog 102 = some (65, 1) := by kernel_rfl
theorem Tryd.ag103 : aggB Tryd.prog 103 = some false := by kernel_rfl
theorem Tryd.cz103 : Tryd.prog.cellsOf 103 = 1 := by kernel_rfl
theorem Tryd.by103 : Tryd.prog.bytesOf 103 = 8 := by kernel_rfl
theorem Tryd.zb103 : zeroB Tryd.prog 103 = some [.nilFunc] := by kernel_rfl
theorem Tryd.ag104 : aggB Tryd.prog 104 = some false := by kernel_rfl
theorem Tryd.cz104 : Tryd.prog.cellsOf 104 = 1 := by kernel_rfl
theorem Tryd.by104 : Tryd.prog.bytesOf 104 = 8 := by kernel_rfl
theorem Tryd.zb104 : zeroB Tryd.prog 104 = some [.nilFunc] := by kernel_rfl
theorem Tryd.ag105 : aggB Tryd.prog 105 = some true := by kernel_rfl
theorem Tryd.cz105 : Tryd.prog.cellsOf 105 = 256 := by kernel_rfl
theorem Tryd.by105 : Tryd.prog.bytesOf 105 = 256 := by kernel_rfl
theorem Tryd.zb105 : zeroB Tryd.prog 105 = some [.int .u8 0, .int .u8 0, .int .u8 0, .int .u8 0, .int .u8 0, .int .u8 0, .int .u8 0, .int .u8 0, .int .u8 0, .int .u8 0, .int .u8 0, .int .u8 0, .int .u8 0, .int .u8 0, .int .u8 0, .int .u8 0, .int .u8 0, .int .u8 0, .int .u8 0, .int .u8 0, .int .u8 0, .int .u8 0, .int .u8 0, .int .u8 0, .int .u8 0, .int .u8 0, .int .u8 0, .int .u8 0, .int .u8 0, .int .u8 0, .int .u8 0, .int .u8 0, .int .u8 0, .int .u8 0, .int .u8 0, .int .u8 0, .int .u8 0, .int .u8 0, .int .u8 0, .int .u8 0, .int .u8 0, .int .u8 0, .int .u8 0, .int .u8 0, .int .u8 0, .int .u8 0, .int .u8 0, .int .u8 0, .int .u8 0, .int .u8 0, .int .u8 0, .int .u8 0, .int .u8 0, .int .u8 0, .int .u8 0, .int .u8 0, .int .u8 0, .int .u8 0, .int .u8 0, .int .u8 0, .int .u8 0, .int .u8 0, .int .u8 0, .int .u8 0, .int .u8 0, .int .u8 0, .int .u8 0, .int .u8 0, .int .u8 0, .int .u8 0, .int .u8 0, .int .u8 0, .int .u8 0, .int .u8 0, .int .u8 0, .int .u8 0, .int .u8 0, .int .u8 0, .int .u8 0, .int .u8 0, .int .u8 0, .int .u8 0, .int .u8 0, .int .u8 0, .int .u8 0, .int .u8 0, .int .u8 0, .int .u8 0, .int .u8 0, .int .u8 0, .int .u8 0, .int .u8 0, .int .u8 0, .int .u8 0, .int .u8 0, .int .u8 0, .int .u8 0, .int .u8 0, .int .u8 0, .int .u8 0, .int .u8 0, .int .u8 0, .int .u8 0, .int .u8 0, .int .u8 0, .int .u8 0, .int .u8 0, .int .u8 0, .int .u8 0, .int .u8 0, .int .u8 0, .int .u8 0, .int .u8 0, .int .u8 0, .int .u8 0, .int .u8 0, .int .u8 0, .int .u8 0, .int .u8 0, .int .u8 0, .int .u8 0, .int .u8 0, .int .u8 0, .int .u8 0, .int .u8 0, .int .u8 0, .int .u8 0, .int .u8 0, .int .u8 0, .int .u8 0, .int .u8 0, .int .u8 0, .int .u8 0, .int .u8 0, .int .u8 0, .int .u8 0, .int .u8 0, .int .u8 0, .int .u8 0, .int .u8 0, .int .u8 0, .int .u8 0, .int .u8 0, .int .u8 0, .int .u8 0, .int .u8 0, .int .u8 0, .int .u8 0, .int .u8 0, .int .u8 0, .int .u8 0, .int .u8 0, .int .u8 0, .int .u8 0, .int .u8 0, .int .u8 0, .int .u8 0, .int .u8 0, .int .u8 0, .int .u8 0, .int .u8 0, .int .u8 0, .int .u8 0, .int .u8 0, .int .u8 0, .int .u8 0, .int .u8 0, .int .u8 0, .int .u8 0, .int .u8 0, .int .u8 0, .int .u8 0, .int .u8 0, .int .u8 0, .int .u8 0, .int .u8 0, .int .u8 0, .int .u8 0, .int .u8 0, .int .u8 0, .int .u8 0, .int .u8 0, .int .u8 0, .int .u8 0, .int .u8 0, .int .u8 0, .int .u8 0, .int .u8 0, .int .u8 0, .int .u8 0, .int .u8 0, .int .u8 0, .int .u8 0, .int .u8 0, .int .u8 0, .int .u8 0, .int .u8 0, .int .u8 0, .int .u8 0, .int .u8 0, .int .u8 0, .int .u8 0, .int .u8 0, .int .u8 0, .int .u8 0, .int .u8 0, .int .u8 0, .int .u8 0, .int .u8 0, .int .u8 0, .int .u8 0, .int .u8 0, .int .u8 0, .int .u8 0, .int .u8 0, .int .u8 0, .int .u8 0, .int .u8 0, .int .u8 0, .int .u8 0, .int .u8 0, .int .u8 0, .int .u8 0, .int .u8 0, .int .u8 0, .int .u8 0, .int .u8 0, .int .u8 0, .int .u8 0, .int .u8 0, .int .u8 0, .int .u8 0, .int .u8 0, .int .u8 0, .int .u8 0, .int .u8 0, .int .u8 0, .int .u8 0, .int .u8 0, .int .u8 0, .int .u8 0, .int .u8 0, .int .u8 0, .int .u8 0, .int .u8 0, .int .u8 0, .int .u8 0, .int .u8 0, .int .u8 0, .int .u8 0, .int .u8 0, .int .u8 0, .int .u8 0, .int .u8 0, .int .u8 0, .int .u8 0] := by kernel_rfl
theorem Tryd.ar105 : arrB Tryd.prog 105 = some (256, 1) := by kernel_rfl
theorem Tryd.ag106 : aggB Tryd.prog 106 = some true := by kernel_rfl
theorem Tryd.cz106 : Tryd.prog.cellsOf 106 = 2 := by kernel_rfl
theorem Tryd.by106 : Tryd.prog.bytesOf 106 = 2 := by kernel_rfl
theorem Tryd.zb106 : zeroB Tryd.prog 106 = some [.int .u8 0, .int .u8 0] := by kernel_rfl
theorem Tryd.pl106 : placesB Tryd.prog 106 = some [(0, 1), (1, 1)] := by kernel_rfl
theorem Tryd.fd106_0 : fieldB Tryd.prog 106 0 = some 0 := by kernel_rfl
theorem Tryd.fd106_1 : fieldB Tryd.prog 106 1 = some 1 := by kernel_rfl
theorem Tryd.ag107 : aggB Tryd.prog 107 = some true := by kernel_rfl
theorem Tryd.cz107 : Tryd.prog.cellsOf 107 = 2 := by kernel_rfl
theorem Tryd.by107 : Tryd.prog.bytesOf 107 = 2 := by kernel_rfl
theorem Tryd.zb107 : zeroB Tryd.prog 107 = some [.int .u8 0, .int .u8 0] := by kernel_rfl
theorem Tryd.pl107 : placesB Tryd.prog 107 = some [(0, 1), (1, 1)] := by kernel_rfl
theorem Tryd.sh107 : Tryd.prog.stoodInHeld 107 = false := by kernel_rfl
theorem Tryd.eg107 : Tryd.prog.eqGuardType Tryd.prog.depth 107 = false := by kernel_rfl
theorem Tryd.fd107_0 : fieldB Tryd.prog 107 0 = some 0 := by kernel_rfl
theorem Tryd.fd107_1 : fieldB Tryd.prog 107 1 = some 1 := by kernel_rfl
theorem Tryd.ag108 : aggB Tryd.prog 108 = some true := by kernel_rfl
theorem Tryd.cz108 : Tryd.prog.cellsOf 108 = 32 := by kernel_rfl
theorem Tryd.by108 : Tryd.prog.bytesOf 108 = 32 := by kernel_rfl
theorem Tryd.zb108 : zeroB Tryd.prog 108 = some [.int .u8 0, .int .u8 0, .int .u8 0, .int .u8 0, .int .u8 0, .int .u8 0, .int .u8 0, .int .u8 0, .int .u8 0, .int .u8 0, .int .u8 0, .int .u8 0, .int .u8 0, .int .u8 0, .int .u8 0, .int .u8 0, .int .u8 0, .int .u8 0, .int .u8 0, .int .u8 0, .int .u8 0, .int .u8 0, .int .u8 0, .int .u8 0, .int .u8 0, .int .u8 0, .int .u8 0, .int .u8 0, .int .u8 0, .int .u8 0, .int .u8 0, .int .u8 0] := by kernel_rfl
theorem Tryd.ar108 : arrB Tryd.prog 108 = some (16, 2) := by kernel_rfl
theorem Tryd.ag110 : aggB Tryd.prog 110 = some false := by kernel_rfl
theorem Tryd.cz110 : Tryd.prog.cellsOf 110 = 1 := by kernel_rfl
theorem Tryd.by110 : Tryd.prog.bytesOf 110 = 8 := by kernel_rfl
theorem Tryd.zb110 : zeroB Tryd.prog 110 = some [.nilFunc] := by kernel_rfl
theorem Tryd.ag111 : aggB Tryd.prog 111 = some false := by kernel_rfl
theorem Tryd.cz111 : Tryd.prog.cellsOf 111 = 1 := by kernel_rfl
theorem Tryd.by111 : Tryd.prog.bytesOf 111 = 8 := by kernel_rfl
theorem Tryd.zb111 : zeroB Tryd.prog 111 = some [.nilFunc] := by kernel_rfl
theorem Tryd.ag112 : aggB Tryd.prog 112 = some true := by kernel_rfl
theorem Tryd.cz112 : Tryd.prog.cellsOf 112 = 32 := by kernel_rfl
theorem Tryd.by112 : Tryd.prog.bytesOf 112 = 32 := by kernel_rfl
theorem Tryd.zb112 : zeroB Tryd.prog 112 = some [.int .u8 0, .int .u8 0, .int .u8 0, .int .u8 0, .int .u8 0, .int .u8 0, .int .u8 0, .int .u8 0, .int .u8 0, .int .u8 0, .int .u8 0, .int .u8 0, .int .u8 0, .int .u8 0, .int .u8 0, .int .u8 0, .int .u8 0, .int .u8 0, .int .u8 0, .int .u8 0, .int .u8 0, .int .u8 0, .int .u8 0, .int .u8 0, .int .u8 0, .int .u8 0, .int .u8 0, .int .u8 0, .int .u8 0, .int .u8 0, .int .u8 0, .int .u8 0] := by kernel_rfl
theorem Tryd.ar112 : arrB Tryd.prog 112 = some (32, 1) := by kernel_rfl
theorem Tryd.ag113 : aggB Tryd.prog 113 = some true := by kernel_rfl
theorem Tryd.cz113 : Tryd.prog.cellsOf 113 = 64 := by kernel_rfl
theorem Tryd.by113 : Tryd.prog.bytesOf 113 = 64 := by kernel_rfl
theorem Tryd.zb113 : zeroB Tryd.prog 113 = some [.int .u8 0, .int .u8 0, .int .u8 0, .int .u8 0, .int .u8 0, .int .u8 0, .int .u8 0, .int .u8 0, .int .u8 0, .int .u8 0, .int .u8 0, .int .u8 0, .int .u8 0, .int .u8 0, .int .u8 0, .int .u8 0, .int .u8 0, .int .u8 0, .int .u8 0, .int .u8 0, .int .u8 0, .int .u8 0, .int .u8 0, .int .u8 0, .int .u8 0, .int .u8 0, .int .u8 0, .int .u8 0, .int .u8 0, .int .u8 0, .int .u8 0, .int .u8 0, .int .u8 0, .int .u8 0, .int .u8 0, .int .u8 0, .int .u8 0, .int .u8 0, .int .u8 0, .int .u8 0, .int .u8 0, .int .u8 0, .int .u8 0, .int .u8 0, .int .u8 0, .int .u8 0, .int .u8 0, .int .u8 0, .int .u8 0, .int .u8 0, .int .u8 0, .int .u8 0, .int .u8 0, .int .u8 0, .int .u8 0, .int .u8 0, .int .u8 0, .int .u8 0, .int .u8 0, .int .u8 0, .int .u8 0, .int .u8 0, .int .u8 0, .int .u8 0] := by kernel_rfl
theorem Tryd.ar113 : arrB Tryd.prog 113 = some (64, 1) := by kernel_rfl
theorem Tryd.ag114 : aggB Tryd.prog 114 = some true := by kernel_rfl
theorem Tryd.cz114 : Tryd.prog.cellsOf 114 = 4 := by kernel_rfl
theorem Tryd.by114 : Tryd.prog.bytesOf 114 = 40 := by kernel_rfl
theorem Tryd.zb114 : zeroB Tryd.prog 114 = some [.pointer none, .pointer none, .pointer none, .string ⟨#[]⟩] := by kernel_rfl
theorem Tryd.pl114 : placesB Tryd.prog 114 = some [(0, 1), (1, 1), (2, 1), (3, 1)] := by kernel_rfl
theorem Tryd.fd114_0 : fieldB Tryd.prog 114 0 = some 0 := by kernel_rfl
theorem Tryd.fd114_1 : fieldB Tryd.prog 114 1 = some 1 := by kernel_rfl
theorem Tryd.fd114_2 : fieldB Tryd.prog 114 2 = some 2 := by kernel_rfl
theorem Tryd.fd114_3 : fieldB Tryd.prog 114 3 = some 3 := by kernel_rfl
theorem Tryd.ag115 : aggB Tryd.prog 115 = some true := by kernel_rfl
theorem Tryd.cz115 : Tryd.prog.cellsOf 115 = 4 := by kernel_rfl
theorem Tryd.by115 : Tryd.prog.bytesOf 115 = 40 := by kernel_rfl
theorem Tryd.zb115 : zeroB Tryd.prog 115 = some [.pointer none, .pointer none, .pointer none, .string ⟨#[]⟩] := by kernel_rfl
theorem Tryd.pl115 : placesB Tryd.prog 115 = some [(0, 1), (1, 1), (2, 1), (3, 1)] := by kernel_rfl
theorem Tryd.fd115_0 : fieldB Tryd.prog 115 0 = some 0 := by kernel_rfl
theorem Tryd.fd115_1 : fieldB Tryd.prog 115 1 = some 1 := by kernel_rfl
theorem Tryd.fd115_2 : fieldB Tryd.prog 115 2 = some 2 := by kernel_rfl
theorem Tryd.fd115_3 : fieldB Tryd.prog 115 3 = some 3 := by kernel_rfl
theorem Tryd.ag116 : aggB Tryd.prog 116 = some true := by kernel_rfl
theorem Tryd.cz116 : Tryd.prog.cellsOf 116 = 0 := by kernel_rfl
theorem Tryd.zb116 : zeroB Tryd.prog 116 = some [] := by kernel_rfl
theorem Tryd.ar116 : arrB Tryd.prog 116 = some (0, 1) := by kernel_rfl
theorem Tryd.ag117 : aggB Tryd.prog 117 = some true := by kernel_rfl
theorem Tryd.cz117 : Tryd.prog.cellsOf 117 = 0 := by kernel_rfl
theorem Tryd.zb117 : zeroB Tryd.prog 117 = some [] := by kernel_rfl
theorem Tryd.ag118 : aggB Tryd.prog 118 = some true := by kernel_rfl
theorem Tryd.cz118 : Tryd.prog.cellsOf 118 = 0 := by kernel_rfl
theorem Tryd.zb118 : zeroB Tryd.prog 118 = some [] := by kernel_rfl
theorem Tryd.ag119 : aggB Tryd.prog 119 = some false := by kernel_rfl
theorem Tryd.cz119 : Tryd.prog.cellsOf 119 = 1 := by kernel_rfl
theorem Tryd.by119 : Tryd.prog.bytesOf 119 = 8 := by kernel_rfl
theorem Tryd.zb119 : zeroB Tryd.prog 119 = some [.nilFunc] := by kernel_rfl
theorem Tryd.ag120 : aggB Tryd.prog 120 = some false := by kernel_rfl
theorem Tryd.cz120 : Tryd.prog.cellsOf 120 = 1 := by kernel_rfl
theorem Tryd.by120 : Tryd.prog.bytesOf 120 = 1 := by kernel_rfl
theorem Tryd.zb120 : zeroB Tryd.prog 120 = some [.int .u8 0] := by kernel_rfl
theorem Tryd.ag121 : aggB Tryd.prog 121 = some false := by kernel_rfl
theorem Tryd.cz121 : Tryd.prog.cellsOf 121 = 1 := by kernel_rfl
theorem Tryd.by121 : Tryd.prog.bytesOf 121 = 1 := by kernel_rfl
theorem Tryd.zb121 : zeroB Tryd.prog 121 = some [.int .u8 0] := by kernel_rfl
theorem Tryd.ag122 : aggB Tryd.prog 122 = some false := by kernel_rfl
theorem Tryd.cz122 : Tryd.prog.cellsOf 122 = 1 := by kernel_rfl
theorem Tryd.by122 : Tryd.prog.bytesOf 122 = 8 := by kernel_rfl
theorem Tryd.zb122 : zeroB Tryd.prog 122 = some [.nilFunc] := by kernel_rfl
theorem Tryd.ag123 : aggB Tryd.prog 123 = some false := by kernel_rfl
theorem Tryd.cz123 : Tryd.prog.cellsOf 123 = 1 := by kernel_rfl
theorem Tryd.by123 : Tryd.prog.bytesOf 123 = 4 := by kernel_rfl
theorem Tryd.zb123 : zeroB Tryd.prog 123 = some [.int .i32 0] := by kernel_rfl
theorem Tryd.ag124 : aggB Tryd.prog 124 = some false := by kernel_rfl
theorem Tryd.cz124 : Tryd.prog.cellsOf 124 = 1 := by kernel_rfl
theorem Tryd.by124 : Tryd.prog.bytesOf 124 = 4 := by kernel_rfl
theorem Tryd.zb124 : zeroB Tryd.prog 124 = some [.int .i32 0] := by kernel_rfl
theorem Tryd.ag125 : aggB Tryd.prog 125 = some true := by kernel_rfl
theorem Tryd.cz125 : Tryd.prog.cellsOf 125 = 11 := by kernel_rfl
theorem Tryd.by125 : Tryd.prog.bytesOf 125 = 48 := by kernel_rfl
theorem Tryd.zb125 : zeroB Tryd.prog 125 = some [.int .u64 0, .int .u64 0, .int .u32 0, .int .u8 0, .int .u8 0, .int .u8 0, .int .u8 0, .nilFunc, .pointer none, .int .i32 0, .int .i32 0] := by kernel_rfl
theorem Tryd.pl125 : placesB Tryd.prog 125 = some [(0, 1), (1, 1), (2, 1), (3, 1), (4, 1), (5, 1), (6, 1), (7, 1), (8, 1), (9, 1), (10, 1)] := by kernel_rfl
theorem Tryd.fd125_0 : fieldB Tryd.prog 125 0 = some 0 := by kernel_rfl
theorem Tryd.fd125_1 : fieldB Tryd.prog 125 1 = some 1 := by kernel_rfl
theorem Tryd.fd125_2 : fieldB Tryd.prog 125 2 = some 2 := by kernel_rfl
theorem Tryd.fd125_3 : fieldB Tryd.prog 125 3 = some 3 := by kernel_rfl
theorem Tryd.fd125_4 : fieldB Tryd.prog 125 4 = some 4 := by kernel_rfl
theorem Tryd.fd125_5 : fieldB Tryd.prog 125 5 = some 5 := by kernel_rfl
theorem Tryd.fd125_6 : fieldB Tryd.prog 125 6 = some 6 := by kernel_rfl
theorem Tryd.fd125_7 : fieldB Tryd.prog 125 7 = some 7 := by kernel_rfl
theorem Tryd.fd125_8 : fieldB Tryd.prog 125 8 = some 8 := by kernel_rfl
theorem Tryd.fd125_9 : fieldB Tryd.prog 125 9 = some 9 := by kernel_rfl
theorem Tryd.fd125_10 : fieldB Tryd.prog 125 10 = some 10 := by kernel_rfl
theorem Tryd.ag126 : aggB Tryd.prog 126 = some true := by kernel_rfl
theorem Tryd.cz126 : Tryd.prog.cellsOf 126 = 11 := by kernel_rfl
theorem Tryd.by126 : Tryd.prog.bytesOf 126 = 48 := by kernel_rfl
theorem Tryd.zb126 : zeroB Tryd.prog 126 = some [.int .u64 0, .int .u64 0, .int .u32 0, .int .u8 0, .int .u8 0, .int .u8 0, .int .u8 0, .nilFunc, .pointer none, .int .i32 0, .int .i32 0] := by kernel_rfl
theorem Tryd.pl126 : placesB Tryd.prog 126 = some [(0, 1), (1, 1), (2, 1), (3, 1), (4, 1), (5, 1), (6, 1), (7, 1), (8, 1), (9, 1), (10, 1)] := by kernel_rfl
theorem Tryd.fd126_0 : fieldB Tryd.prog 126 0 = some 0 := by kernel_rfl
theorem Tryd.fd126_1 : fieldB Tryd.prog 126 1 = some 1 := by kernel_rfl
theorem Tryd.fd126_2 : fieldB Tryd.prog 126 2 = some 2 := by kernel_rfl
theorem Tryd.fd126_3 : fieldB Tryd.prog 126 3 = some 3 := by kernel_rfl
theorem Tryd.fd126_4 : fieldB Tryd.prog 126 4 = some 4 := by kernel_rfl
theorem Tryd.fd126_5 : fieldB Tryd.prog 126 5 = some 5 := by kernel_rfl
theorem Tryd.fd126_6 : fieldB Tryd.prog 126 6 = some 6 := by kernel_rfl
theorem Tryd.fd126_7 : fieldB Tryd.prog 126 7 = some 7 := by kernel_rfl
theorem Tryd.fd126_8 : fieldB Tryd.prog 126 8 = some 8 := by kernel_rfl
theorem Tryd.fd126_9 : fieldB Tryd.prog 126 9 = some 9 := by kernel_rfl
theorem Tryd.fd126_10 : fieldB Tryd.prog 126 10 = some 10 := by kernel_rfl
theorem Tryd.ag127 : aggB Tryd.prog 127 = some true := by kernel_rfl
theorem Tryd.cz127 : Tryd.prog.cellsOf 127 = 4 := by kernel_rfl
theorem Tryd.by127 : Tryd.prog.bytesOf 127 = 48 := by kernel_rfl
theorem Tryd.zb127 : zeroB Tryd.prog 127 = some [.string ⟨#[]⟩, .string ⟨#[]⟩, .int .i64 0, .int .u64 0] := by kernel_rfl
theorem Tryd.pl127 : placesB Tryd.prog 127 = some [(0, 1), (1, 1), (2, 1), (3, 1)] := by kernel_rfl
theorem Tryd.fd127_0 : fieldB Tryd.prog 127 0 = some 0 := by kernel_rfl
theorem Tryd.fd127_1 : fieldB Tryd.prog 127 1 = some 1 := by kernel_rfl
theorem Tryd.fd127_2 : fieldB Tryd.prog 127 2 = some 2 := by kernel_rfl
theorem Tryd.fd127_3 : fieldB Tryd.prog 127 3 = some 3 := by kernel_rfl
theorem Tryd.ag128 : aggB Tryd.prog 128 = some true := by kernel_rfl
theorem Tryd.cz128 : Tryd.prog.cellsOf 128 = 4 := by kernel_rfl
theorem Tryd.by128 : Tryd.prog.bytesOf 128 = 48 := by kernel_rfl
theorem Tryd.zb128 : zeroB Tryd.prog 128 = some [.string ⟨#[]⟩, .string ⟨#[]⟩, .int .i64 0, .int .u64 0] := by kernel_rfl
theorem Tryd.pl128 : placesB Tryd.prog 128 = some [(0, 1), (1, 1), (2, 1), (3, 1)] := by kernel_rfl
theorem Tryd.sh128 : Tryd.prog.stoodInHeld 128 = false := by kernel_rfl
theorem Tryd.eg128 : Tryd.prog.eqGuardType Tryd.prog.depth 128 = false := by kernel_rfl
theorem Tryd.fd128_0 : fieldB Tryd.prog 128 0 = some 0 := by kernel_rfl
theorem Tryd.fd128_1 : fieldB Tryd.prog 128 1 = some 1 := by kernel_rfl
theorem Tryd.fd128_2 : fieldB Tryd.prog 128 2 = some 2 := by kernel_rfl
theorem Tryd.fd128_3 : fieldB Tryd.prog 128 3 = some 3 := by kernel_rfl
theorem Tryd.ag129 : aggB Tryd.prog 129 = some false := by kernel_rfl
theorem Tryd.cz129 : Tryd.prog.cellsOf 129 = 1 := by kernel_rfl
theorem Tryd.by129 : Tryd.prog.bytesOf 129 = 8 := by kernel_rfl
theorem Tryd.zb129 : zeroB Tryd.prog 129 = some [.nilFunc] := by kernel_rfl
theorem Tryd.ag130 : aggB Tryd.prog 130 = some true := by kernel_rfl
theorem Tryd.cz130 : Tryd.prog.cellsOf 130 = 3 := by kernel_rfl
theorem Tryd.by130 : Tryd.prog.bytesOf 130 = 40 := by kernel_rfl
theorem Tryd.zb130 : zeroB Tryd.prog 130 = some [.string ⟨#[]⟩, .string ⟨#[]⟩, .int .i64 0] := by kernel_rfl
theorem Tryd.pl130 : placesB Tryd.prog 130 = some [(0, 1), (1, 1), (2, 1)] := by kernel_rfl
theorem Tryd.fd130_0 : fieldB Tryd.prog 130 0 = some 0 := by kernel_rfl
theorem Tryd.fd130_1 : fieldB Tryd.prog 130 1 = some 1 := by kernel_rfl
theorem Tryd.fd130_2 : fieldB Tryd.prog 130 2 = some 2 := by kernel_rfl
theorem Tryd.ag131 : aggB Tryd.prog 131 = some true := by kernel_rfl
theorem Tryd.cz131 : Tryd.prog.cellsOf 131 = 3 := by kernel_rfl
theorem Tryd.by131 : Tryd.prog.bytesOf 131 = 40 := by kernel_rfl
theorem Tryd.zb131 : zeroB Tryd.prog 131 = some [.string ⟨#[]⟩, .string ⟨#[]⟩, .int .i64 0] := by kernel_rfl
theorem Tryd.pl131 : placesB Tryd.prog 131 = some [(0, 1), (1, 1), (2, 1)] := by kernel_rfl
theorem Tryd.sh131 : Tryd.prog.stoodInHeld 131 = false := by kernel_rfl
theorem Tryd.eg131 : Tryd.prog.eqGuardType Tryd.prog.depth 131 = false := by kernel_rfl
theorem Tryd.fd131_0 : fieldB Tryd.prog 131 0 = some 0 := by kernel_rfl
theorem Tryd.fd131_1 : fieldB Tryd.prog 131 1 = some 1 := by kernel_rfl
theorem Tryd.fd131_2 : fieldB Tryd.prog 131 2 = some 2 := by kernel_rfl
theorem Tryd.mixed : Tryd.prog.follows .mixedOrders = true := by kernel_rfl

end Go.Proofs
