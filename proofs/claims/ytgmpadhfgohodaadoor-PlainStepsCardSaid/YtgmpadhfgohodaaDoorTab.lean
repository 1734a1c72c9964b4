/-
  CLOSED FACTS of the translation, by program. No macro, no axiom.
-/
import Derived.Test.YtgmpadhfgohodaaDoorHlP
import Derived.Test.YtgmpadhfgohodaaDoorChecked
namespace Go.Proofs
open Go.Hl

theorem Tryd.cb3 : callB Tryd.prog 3 = true := by kernel_rfl
theorem Tryd.cb4 : callB Tryd.prog 4 = true := by kernel_rfl
theorem Tryd.cb5 : callB Tryd.prog 5 = true := by kernel_rfl
theorem Tryd.cb6 : callB Tryd.prog 6 = true := by kernel_rfl
theorem Tryd.cb7 : callB Tryd.prog 7 = true := by kernel_rfl
theorem Tryd.cb8 : callB Tryd.prog 8 = true := by kernel_rfl
theorem Tryd.cb9 : callB Tryd.prog 9 = true := by kernel_rfl
theorem Tryd.cb10 : callB Tryd.prog 10 = true := by kernel_rfl
theorem Tryd.cb11 : callB Tryd.prog 11 = true := by kernel_rfl
theorem Tryd.cb12 : callB Tryd.prog 12 = true := by kernel_rfl
theorem Tryd.cb13 : callB Tryd.prog 13 = true := by kernel_rfl
theorem Tryd.cb14 : callB Tryd.prog 14 = true := by kernel_rfl
theorem Tryd.cb15 : callB Tryd.prog 15 = true := by kernel_rfl
theorem Tryd.cb16 : callB Tryd.prog 16 = true := by kernel_rfl
theorem Tryd.cb17 : callB Tryd.prog 17 = true := by kernel_rfl
theorem Tryd.cb18 : callB Tryd.prog 18 = true := by kernel_rfl
theorem Tryd.cb19 : callB Tryd.prog 19 = true := by kernel_rfl
theorem Tryd.cb20 : callB Tryd.prog 20 = true := by kernel_rfl
theorem Tryd.cb21 : callB Tryd.prog 21 = true := by kernel_rfl
theorem Tryd.cb22 : callB Tryd.prog 22 = true := by kernel_rfl
theorem Tryd.cb23 : callB Tryd.prog 23 = true := by kernel_rfl
theorem Tryd.cb24 : callB Tryd.prog 24 = true := by kernel_rfl
theorem Tryd.cb25 : callB Tryd.prog 25 = true := by kernel_rfl
theorem Tryd.cb26 : callB Tryd.prog 26 = true := by kernel_rfl
theorem Tryd.cb27 : callB Tryd.prog 27 = true := by kernel_rfl
theorem Tryd.cb28 : callB Tryd.prog 28 = true := by kernel_rfl
theorem Tryd.cb29 : callB Tryd.prog 29 = true := by kernel_rfl
theorem Tryd.cb30 : callB Tryd.prog 30 = true := by kernel_rfl
theorem Tryd.cb31 : callB Tryd.prog 31 = true := by kernel_rfl
theorem Tryd.cb32 : callB Tryd.prog 32 = true := by kernel_rfl
theorem Tryd.cb33 : callB Tryd.prog 33 = true := by kernel_rfl
theorem Tryd.cb34 : callB Tryd.prog 34 = true := by kernel_rfl
theorem Tryd.cb35 : callB Tryd.prog 35 = true := by kernel_rfl
theorem Tryd.cb36 : callB Tryd.prog 36 = true := by kernel_rfl
theorem Tryd.cb37 : callB Tryd.prog 37 = true := by kernel_rfl
theorem Tryd.cb38 : callB Tryd.prog 38 = true := by kernel_rfl
theorem Tryd.cb39 : callB Tryd.prog 39 = true := by kernel_rfl
theorem Tryd.cb40 : callB Tryd.prog 40 = true := by kernel_rfl
theorem Tryd.cb41 : callB Tryd.prog 41 = true := by kernel_rfl
theorem Tryd.cb42 : callB Tryd.prog 42 = true := by kernel_rfl
theorem Tryd.cb43 : callB Tryd.prog 43 = true := by kernel_rfl
theorem Tryd.cb44 : callB Tryd.prog 44 = true := by kernel_rfl
theorem Tryd.cb45 : callB Tryd.prog 45 = true := by kernel_rfl
theorem Tryd.cb46 : callB Tryd.prog 46 = true := by kernel_rfl
theorem Tryd.cb47 : callB Tryd.prog 47 = true := by kernel_rfl
theorem Tryd.cb48 : callB Tryd.prog 48 = true := by kernel_rfl
theorem Tryd.cb49 : callB Tryd.prog 49 = true := by kernel_rfl
theorem Tryd.cb50 : callB Tryd.prog 50 = true := by kernel_rfl
theorem Tryd.cb51 : callB Tryd.prog 51 = true := by kernel_rfl
theorem Tryd.cb52 : callB Tryd.prog 52 = true := by kernel_rfl
theorem Tryd.cb53 : callB Tryd.prog 53 = true := by kernel_rfl
theorem Tryd.cb54 : callB Tryd.prog 54 = true := by kernel_rfl
theorem Tryd.cb55 : callB Tryd.prog 55 = true := by kernel_rfl
theorem Tryd.cb56 : callB Tryd.prog 56 = true := by kernel_rfl
theorem Tryd.cb57 : callB Tryd.prog 57 = true := by kernel_rfl
theorem Tryd.cb58 : callB Tryd.prog 58 = true := by kernel_rfl
theorem Tryd.cb59 : callB Tryd.prog 59 = true := by kernel_rfl
theorem Tryd.cb60 : callB Tryd.prog 60 = true := by kernel_rfl
theorem Tryd.cb61 : callB Tryd.prog 61 = true := by kernel_rfl
theorem Tryd.cb62 : callB Tryd.prog 62 = true := by kernel_rfl
theorem Tryd.cb63 : callB Tryd.prog 63 = true := by kernel_rfl
theorem Tryd.cb64 : callB Tryd.prog 64 = true := by kernel_rfl
theorem Tryd.cb65 : callB Tryd.prog 65 = true := by kernel_rfl
theorem Tryd.cb66 : callB Tryd.prog 66 = true := by kernel_rfl
theorem Tryd.cb67 : callB Tryd.prog 67 = true := by kernel_rfl
theorem Tryd.cb68 : callB Tryd.prog 68 = true := by kernel_rfl
theorem Tryd.cb69 : callB Tryd.prog 69 = true := by kernel_rfl
theorem Tryd.cb70 : callB Tryd.prog 70 = true := by kernel_rfl
theorem Tryd.cb71 : callB Tryd.prog 71 = true := by kernel_rfl
theorem Tryd.cb72 : callB Tryd.prog 72 = true := by kernel_rfl
theorem Tryd.cb73 : callB Tryd.prog 73 = true := by kernel_rfl
theorem Tryd.cb74 : callB Tryd.prog 74 = true := by kernel_rfl
theorem Tryd.cb75 : callB Tryd.prog 75 = true := by kernel_rfl
theorem Tryd.cb76 : callB Tryd.prog 76 = true := by kernel_rfl
theorem Tryd.cb77 : callB Tryd.prog 77 = true := by kernel_rfl
theorem Tryd.cb78 : callB Tryd.prog 78 = true := by kernel_rfl
theorem Tryd.cb79 : callB Tryd.prog 79 = true := by kernel_rfl
theorem Tryd.cb80 : callB Tryd.prog 80 = true := by kernel_rfl
theorem Tryd.cb81 : callB Tryd.prog 81 = true := by kernel_rfl
theorem Tryd.cb82 : callB Tryd.prog 82 = true := by kernel_rfl
theorem Tryd.cb83 : callB Tryd.prog 83 = true := by kernel_rfl
theorem Tryd.cb84 : callB Tryd.prog 84 = true := by kernel_rfl
theorem Tryd.cb85 : callB Tryd.prog 85 = true := by kernel_rfl
theorem Tryd.cb86 : callB Tryd.prog 86 = true := by kernel_rfl
theorem Tryd.cb87 : callB Tryd.prog 87 = true := by kernel_rfl
theorem Tryd.cb108 : callB Tryd.prog 108 = true := by kernel_rfl
theorem Tryd.ag1 : aggB Tryd.prog 1 = some false := by kernel_rfl
theorem Tryd.cz1 : Tryd.prog.cellsOf 1 = 1 := by kernel_rfl
theorem Tryd.by1 : Tryd.prog.bytesOf 1 = 8 := by kernel_rfl
theorem Tryd.zb1 : zeroB Tryd.prog 1 = some [.nilFunc] := by kernel_rfl
theorem Tryd.ag2 : aggB Tryd.prog 2 = some false := by kernel_rfl
theorem Tryd.cz2 : Tryd.prog.cellsOf 2 = 1 := by kernel_rfl
theorem Tryd.by2 : Tryd.prog.bytesOf 2 = 8 := by kernel_rfl
theorem Tryd.zb2 : zeroB Tryd.prog 2 = some [.int .i64 0] := by kernel_rfl
theorem Tryd.ag3 : aggB Tryd.prog 3 = some false := by kernel_rfl
theorem Tryd.cz3 : Tryd.prog.cellsOf 3 = 1 := by kernel_rfl
theorem Tryd.by3 : Tryd.prog.bytesOf 3 = 8 := by kernel_rfl
theorem Tryd.zb3 : zeroB Tryd.prog 3 = some [.int .i64 0] := by kernel_rfl
theorem Tryd.ag4 : aggB Tryd.prog 4 = some false := by kernel_rfl
theorem Tryd.cz4 : Tryd.prog.cellsOf 4 = 1 := by kernel_rfl
theorem Tryd.by4 : Tryd.prog.bytesOf 4 = 1 := by kernel_rfl
theorem Tryd.zb4 : zeroB Tryd.prog 4 = some [.bool false] := by kernel_rfl
theorem Tryd.ag5 : aggB Tryd.prog 5 = some false := by kernel_rfl
theorem Tryd.cz5 : Tryd.prog.cellsOf 5 = 1 := by kernel_rfl
theorem Tryd.by5 : Tryd.prog.bytesOf 5 = 1 := by kernel_rfl
theorem Tryd.zb5 : zeroB Tryd.prog 5 = some [.int .u8 0] := by kernel_rfl
theorem Tryd.ag6 : aggB Tryd.prog 6 = some false := by kernel_rfl
theorem Tryd.cz6 : Tryd.prog.cellsOf 6 = 1 := by kernel_rfl
theorem Tryd.by6 : Tryd.prog.bytesOf 6 = 1 := by kernel_rfl
theorem Tryd.zb6 : zeroB Tryd.prog 6 = some [.int .u8 0] := by kernel_rfl
theorem Tryd.ag7 : aggB Tryd.prog 7 = some true := by kernel_rfl
theorem Tryd.cz7 : Tryd.prog.cellsOf 7 = 4 := by kernel_rfl
theorem Tryd.by7 : Tryd.prog.bytesOf 7 = 24 := by kernel_rfl
theorem Tryd.zb7 : zeroB Tryd.prog 7 = some [.int .i64 0, .int .i64 0, .bool false, .int .u8 0] := by kernel_rfl
theorem Tryd.pl7 : placesB Tryd.prog 7 = some [(0, 1), (1, 1), (2, 1), (3, 1)] := by kernel_rfl
theorem Tryd.fd7_0 : fieldB Tryd.prog 7 0 = some 0 := by kernel_rfl
theorem Tryd.fd7_1 : fieldB Tryd.prog 7 1 = some 1 := by kernel_rfl
theorem Tryd.fd7_2 : fieldB Tryd.prog 7 2 = some 2 := by kernel_rfl
theorem Tryd.fd7_3 : fieldB Tryd.prog 7 3 = some 3 := by kernel_rfl
theorem Tryd.ag8 : aggB Tryd.prog 8 = some true := by kernel_rfl
theorem Tryd.cz8 : Tryd.prog.cellsOf 8 = 4 := by kernel_rfl
theorem Tryd.by8 : Tryd.prog.bytesOf 8 = 24 := by kernel_rfl
theorem Tryd.zb8 : zeroB Tryd.prog 8 = some [.int .i64 0, .int .i64 0, .bool false, .int .u8 0] := by kernel_rfl
theorem Tryd.pl8 : placesB Tryd.prog 8 = some [(0, 1), (1, 1), (2, 1), (3, 1)] := by kernel_rfl
theorem Tryd.fd8_0 : fieldB Tryd.prog 8 0 = some 0 := by kernel_rfl
theorem Tryd.fd8_1 : fieldB Tryd.prog 8 1 = some 1 := by kernel_rfl
theorem Tryd.fd8_2 : fieldB Tryd.prog 8 2 = some 2 := by kernel_rfl
theorem Tryd.fd8_3 : fieldB Tryd.prog 8 3 = some 3 := by kernel_rfl
theorem Tryd.ag9 : aggB Tryd.prog 9 = some false := by kernel_rfl
theorem Tryd.cz9 : Tryd.prog.cellsOf 9 = 1 := by kernel_rfl
theorem Tryd.by9 : Tryd.prog.bytesOf 9 = 16 := by kernel_rfl
theorem Tryd.zb9 : zeroB Tryd.prog 9 = some [.string ⟨#[]⟩] := by kernel_rfl
theorem Tryd.ag10 : aggB Tryd.prog 10 = some false := by kernel_rfl
theorem Tryd.cz10 : Tryd.prog.cellsOf 10 = 1 := by kernel_rfl
theorem Tryd.by10 : Tryd.prog.bytesOf 10 = 16 := by kernel_rfl
theorem Tryd.zb10 : zeroB Tryd.prog 10 = some [.string ⟨#[]⟩] := by kernel_rfl
theorem Tryd.ag11 : aggB Tryd.prog 11 = some false := by kernel_rfl
theorem Tryd.cz11 : Tryd.prog.cellsOf 11 = 1 := by kernel_rfl
theorem Tryd.by11 : Tryd.prog.bytesOf 11 = 16 := by kernel_rfl
theorem Tryd.zb11 : zeroB Tryd.prog 11 = some [.string ⟨#[]⟩] := by kernel_rfl
theorem Tryd.ag12 : aggB Tryd.prog 12 = some false := by kernel_rfl
theorem Tryd.cz12 : Tryd.prog.cellsOf 12 = 1 := by kernel_rfl
theorem Tryd.by12 : Tryd.prog.bytesOf 12 = 8 := by kernel_rfl
theorem Tryd.zb12 : zeroB Tryd.prog 12 = some [.int .u64 0] := by kernel_rfl
theorem Tryd.ag13 : aggB Tryd.prog 13 = some true := by kernel_rfl
theorem Tryd.cz13 : Tryd.prog.cellsOf 13 = 2 := by kernel_rfl
theorem Tryd.by13 : Tryd.prog.bytesOf 13 = 24 := by kernel_rfl
theorem Tryd.zb13 : zeroB Tryd.prog 13 = some [.string ⟨#[]⟩, .int .u64 0] := by kernel_rfl
theorem Tryd.pl13 : placesB Tryd.prog 13 = some [(0, 1), (1, 1)] := by kernel_rfl
theorem Tryd.fd13_0 : fieldB Tryd.prog 13 0 = some 0 := by kernel_rfl
theorem Tryd.fd13_1 : fieldB Tryd.prog 13 1 = some 1 := by kernel_rfl
theorem Tryd.ag14 : aggB Tryd.prog 14 = some true := by kernel_rfl
theorem Tryd.cz14 : Tryd.prog.cellsOf 14 = 2 := by kernel_rfl
theorem Tryd.by14 : Tryd.prog.bytesOf 14 = 24 := by kernel_rfl
theorem Tryd.zb14 : zeroB Tryd.prog 14 = some [.string ⟨#[]⟩, .int .u64 0] := by kernel_rfl
theorem Tryd.pl14 : placesB Tryd.prog 14 = some [(0, 1), (1, 1)] := by kernel_rfl
theorem Tryd.fd14_0 : fieldB Tryd.prog 14 0 = some 0 := by kernel_rfl
theorem Tryd.fd14_1 : fieldB Tryd.prog 14 1 = some 1 := by kernel_rfl
theorem Tryd.ag15 : aggB Tryd.prog 15 = some false := by kernel_rfl
theorem Tryd.cz15 : Tryd.prog.cellsOf 15 = 1 := by kernel_rfl
theorem Tryd.by15 : Tryd.prog.bytesOf 15 = 8 := by kernel_rfl
theorem Tryd.zb15 : zeroB Tryd.prog 15 = some [.pointer none] := by kernel_rfl
theorem Tryd.ag16 : aggB Tryd.prog 16 = some false := by kernel_rfl
theorem Tryd.cz16 : Tryd.prog.cellsOf 16 = 1 := by kernel_rfl
theorem Tryd.by16 : Tryd.prog.bytesOf 16 = 8 := by kernel_rfl
theorem Tryd.zb16 : zeroB Tryd.prog 16 = some [.pointer none] := by kernel_rfl
theorem Tryd.ag17 : aggB Tryd.prog 17 = some false := by kernel_rfl
theorem Tryd.cz17 : Tryd.prog.cellsOf 17 = 1 := by kernel_rfl
theorem Tryd.by17 : Tryd.prog.bytesOf 17 = 8 := by kernel_rfl
theorem Tryd.zb17 : zeroB Tryd.prog 17 = some [.pointer none] := by kernel_rfl
theorem Tryd.ag18 : aggB Tryd.prog 18 = some true := by kernel_rfl
theorem Tryd.cz18 : Tryd.prog.cellsOf 18 = 1 := by kernel_rfl
theorem Tryd.by18 : Tryd.prog.bytesOf 18 = 8 := by kernel_rfl
theorem Tryd.zb18 : zeroB Tryd.prog 18 = some [.pointer none] := by kernel_rfl
theorem Tryd.pl18 : placesB Tryd.prog 18 = some [(0, 1)] := by kernel_rfl
theorem Tryd.fd18_0 : fieldB Tryd.prog 18 0 = some 0 := by kernel_rfl
theorem Tryd.ag19 : aggB Tryd.prog 19 = some true := by kernel_rfl
theorem Tryd.cz19 : Tryd.prog.cellsOf 19 = 1 := by kernel_rfl
theorem Tryd.by19 : Tryd.prog.bytesOf 19 = 8 := by kernel_rfl
theorem Tryd.zb19 : zeroB Tryd.prog 19 = some [.pointer none] := by kernel_rfl
theorem Tryd.pl19 : placesB Tryd.prog 19 = some [(0, 1)] := by kernel_rfl
theorem Tryd.fd19_0 : fieldB Tryd.prog 19 0 = some 0 := by kernel_rfl
theorem Tryd.ag20 : aggB Tryd.prog 20 = some false := by kernel_rfl
theorem Tryd.cz20 : Tryd.prog.cellsOf 20 = 1 := by kernel_rfl
theorem Tryd.by20 : Tryd.prog.bytesOf 20 = 16 := by kernel_rfl
theorem Tryd.zb20 : zeroB Tryd.prog 20 = some [.nilIface] := by kernel_rfl
theorem Tryd.ag21 : aggB Tryd.prog 21 = some false := by kernel_rfl
theorem Tryd.cz21 : Tryd.prog.cellsOf 21 = 1 := by kernel_rfl
theorem Tryd.by21 : Tryd.prog.bytesOf 21 = 4 := by kernel_rfl
theorem Tryd.zb21 : zeroB Tryd.prog 21 = some [.int .i32 0] := by kernel_rfl
theorem Tryd.ag22 : aggB Tryd.prog 22 = some false := by kernel_rfl
theorem Tryd.cz22 : Tryd.prog.cellsOf 22 = 1 := by kernel_rfl
theorem Tryd.by22 : Tryd.prog.bytesOf 22 = 24 := by kernel_rfl
theorem Tryd.zb22 : zeroB Tryd.prog 22 = some [.slice none 0 0] := by kernel_rfl
theorem Tryd.ag23 : aggB Tryd.prog 23 = some false := by kernel_rfl
theorem Tryd.cz23 : Tryd.prog.cellsOf 23 = 1 := by kernel_rfl
theorem Tryd.by23 : Tryd.prog.bytesOf 23 = 8 := by kernel_rfl
theorem Tryd.zb23 : zeroB Tryd.prog 23 = some [.nilFunc] := by kernel_rfl
theorem Tryd.ag24 : aggB Tryd.prog 24 = some false := by kernel_rfl
theorem Tryd.cz24 : Tryd.prog.cellsOf 24 = 1 := by kernel_rfl
theorem Tryd.by24 : Tryd.prog.bytesOf 24 = 24 := by kernel_rfl
theorem Tryd.zb24 : zeroB Tryd.prog 24 = some [.slice none 0 0] := by kernel_rfl
theorem Tryd.ag25 : aggB Tryd.prog 25 = some true := by kernel_rfl
theorem Tryd.cz25 : Tryd.prog.cellsOf 25 = 2 := by kernel_rfl
theorem Tryd.by25 : Tryd.prog.bytesOf 25 = 48 := by kernel_rfl
theorem Tryd.zb25 : zeroB Tryd.prog 25 = some [.slice none 0 0, .slice none 0 0] := by kernel_rfl
theorem Tryd.pl25 : placesB Tryd.prog 25 = some [(0, 1), (1, 1)] := by kernel_rfl
theorem Tryd.fd25_0 : fieldB Tryd.prog 25 0 = some 0 := by kernel_rfl
theorem Tryd.fd25_1 : fieldB Tryd.prog 25 1 = some 1 := by kernel_rfl
theorem Tryd.ag26 : aggB Tryd.prog 26 = some true := by kernel_rfl
theorem Tryd.cz26 : Tryd.prog.cellsOf 26 = 2 := by kernel_rfl
theorem Tryd.by26 : Tryd.prog.bytesOf 26 = 48 := by kernel_rfl
theorem Tryd.zb26 : zeroB Tryd.prog 26 = some [.slice none 0 0, .slice none 0 0] := by kernel_rfl
theorem Tryd.pl26 : placesB Tryd.prog 26 = some [(0, 1), (1, 1)] := by kernel_rfl
theorem Tryd.sh26 : Tryd.prog.stoodInHeld 26 = false := by kernel_rfl
theorem Tryd.eg26 : Tryd.prog.eqGuardType Tryd.prog.depth 26 = false := by kernel_rfl
theorem Tryd.fd26_0 : fieldB Tryd.prog 26 0 = some 0 := by kernel_rfl
theorem Tryd.fd26_1 : fieldB Tryd.prog 26 1 = some 1 := by kernel_rfl
theorem Tryd.ag27 : aggB Tryd.prog 27 = some false := by kernel_rfl
theorem Tryd.cz27 : Tryd.prog.cellsOf 27 = 1 := by kernel_rfl
theorem Tryd.by27 : Tryd.prog.bytesOf 27 = 8 := by kernel_rfl
theorem Tryd.zb27 : zeroB Tryd.prog 27 = some [.nilFunc] := by kernel_rfl
theorem Tryd.ag28 : aggB Tryd.prog 28 = some false := by kernel_rfl
theorem Tryd.cz28 : Tryd.prog.cellsOf 28 = 1 := by kernel_rfl
theorem Tryd.by28 : Tryd.prog.bytesOf 28 = 24 := by kernel_rfl
theorem Tryd.zb28 : zeroB Tryd.prog 28 = some [.slice none 0 0] := by kernel_rfl
theorem Tryd.ag30 : aggB Tryd.prog 30 = some false := by kernel_rfl
theorem Tryd.cz30 : Tryd.prog.cellsOf 30 = 1 := by kernel_rfl
theorem Tryd.by30 : Tryd.prog.bytesOf 30 = 8 := by kernel_rfl
theorem Tryd.zb30 : zeroB Tryd.prog 30 = some [.nilFunc] := by kernel_rfl
theorem Tryd.ag31 : aggB Tryd.prog 31 = some false := by kernel_rfl
theorem Tryd.cz31 : Tryd.prog.cellsOf 31 = 1 := by kernel_rfl
theorem Tryd.by31 : Tryd.prog.bytesOf 31 = 8 := by kernel_rfl
theorem Tryd.zb31 : zeroB Tryd.prog 31 = some [.nilFunc] := by kernel_rfl
theorem Tryd.ag33 : aggB Tryd.prog 33 = some false := by kernel_rfl
theorem Tryd.cz33 : Tryd.prog.cellsOf 33 = 1 := by kernel_rfl
theorem Tryd.by33 : Tryd.prog.bytesOf 33 = 8 := by kernel_rfl
theorem Tryd.zb33 : zeroB Tryd.prog 33 = some [.nilFunc] := by kernel_rfl
theorem Tryd.ag34 : aggB Tryd.prog 34 = some false := by kernel_rfl
theorem Tryd.cz34 : Tryd.prog.cellsOf 34 = 1 := by kernel_rfl
theorem Tryd.by34 : Tryd.prog.bytesOf 34 = 8 := by kernel_rfl
theorem Tryd.zb34 : zeroB Tryd.prog 34 = some [.nilFunc] := by kernel_rfl
theorem Tryd.ag35 : aggB Tryd.prog 35 = some false := by kernel_rfl
theorem Tryd.cz35 : Tryd.prog.cellsOf 35 = 1 := by kernel_rfl
theorem Tryd.by35 : Tryd.prog.bytesOf 35 = 8 := by kernel_rfl
theorem Tryd.zb35 : zeroB Tryd.prog 35 = some [.nilFunc] := by kernel_rfl
theorem Tryd.ag36 : aggB Tryd.prog 36 = some false := by kernel_rfl
theorem Tryd.cz36 : Tryd.prog.cellsOf 36 = 1 := by kernel_rfl
theorem Tryd.by36 : Tryd.prog.bytesOf 36 = 8 := by kernel_rfl
theorem Tryd.zb36 : zeroB Tryd.prog 36 = some [.nilFunc] := by kernel_rfl
theorem Tryd.ag37 : aggB Tryd.prog 37 = some false := by kernel_rfl
theorem Tryd.cz37 : Tryd.prog.cellsOf 37 = 1 := by kernel_rfl
theorem Tryd.by37 : Tryd.prog.bytesOf 37 = 8 := by kernel_rfl
theorem Tryd.zb37 : zeroB Tryd.prog 37 = some [.int .u64 0] := by kernel_rfl
theorem Tryd.ag38 : aggB Tryd.prog 38 = some false := by kernel_rfl
theorem Tryd.cz38 : Tryd.prog.cellsOf 38 = 1 := by kernel_rfl
theorem Tryd.by38 : Tryd.prog.bytesOf 38 = 24 := by kernel_rfl
theorem Tryd.zb38 : zeroB Tryd.prog 38 = some [.slice none 0 0] := by kernel_rfl
theorem Tryd.ag39 : aggB Tryd.prog 39 = some true := by kernel_rfl
theorem Tryd.cz39 : Tryd.prog.cellsOf 39 = 5 := by kernel_rfl
theorem Tryd.by39 : Tryd.prog.bytesOf 39 = 56 := by kernel_rfl
theorem Tryd.zb39 : zeroB Tryd.prog 39 = some [.int .i64 0, .int .u64 0, .int .u64 0, .int .i64 0, .slice none 0 0] := by kernel_rfl
theorem Tryd.pl39 : placesB Tryd.prog 39 = some [(0, 1), (1, 1), (2, 1), (3, 1), (4, 1)] := by kernel_rfl
theorem Tryd.fd39_0 : fieldB Tryd.prog 39 0 = some 0 := by kernel_rfl
theorem Tryd.fd39_1 : fieldB Tryd.prog 39 1 = some 1 := by kernel_rfl
theorem Tryd.fd39_2 : fieldB Tryd.prog 39 2 = some 2 := by kernel_rfl
theorem Tryd.fd39_3 : fieldB Tryd.prog 39 3 = some 3 := by kernel_rfl
theorem Tryd.fd39_4 : fieldB Tryd.prog 39 4 = some 4 := by kernel_rfl
theorem Tryd.ag40 : aggB Tryd.prog 40 = some true := by kernel_rfl
theorem Tryd.cz40 : Tryd.prog.cellsOf 40 = 5 := by kernel_rfl
theorem Tryd.by40 : Tryd.prog.bytesOf 40 = 56 := by kernel_rfl
theorem Tryd.zb40 : zeroB Tryd.prog 40 = some [.int .i64 0, .int .u64 0, .int .u64 0, .int .i64 0, .slice none 0 0] := by kernel_rfl
theorem Tryd.pl40 : placesB Tryd.prog 40 = some [(0, 1), (1, 1), (2, 1), (3, 1), (4, 1)] := by kernel_rfl
theorem Tryd.sh40 : Tryd.prog.stoodInHeld 40 = false := by kernel_rfl
theorem Tryd.eg40 : Tryd.prog.eqGuardType Tryd.prog.depth 40 = false := by kernel_rfl
theorem Tryd.fd40_0 : fieldB Tryd.prog 40 0 = some 0 := by kernel_rfl
theorem Tryd.fd40_1 : fieldB Tryd.prog 40 1 = some 1 := by kernel_rfl
theorem Tryd.fd40_2 : fieldB Tryd.prog 40 2 = some 2 := by kernel_rfl
theorem Tryd.fd40_3 : fieldB Tryd.prog 40 3 = some 3 := by kernel_rfl
theorem Tryd.fd40_4 : fieldB Tryd.prog 40 4 = some 4 := by kernel_rfl
theorem Tryd.ag41 : aggB Tryd.prog 41 = some true := by kernel_rfl
theorem Tryd.cz41 : Tryd.prog.cellsOf 41 = 5 := by kernel_rfl
theorem Tryd.by41 : Tryd.prog.bytesOf 41 = 56 := by kernel_rfl
theorem Tryd.zb41 : zeroB Tryd.prog 41 = some [.int .i64 0, .int .u64 0, .int .u64 0, .int .i64 0, .slice none 0 0] := by kernel_rfl
theorem Tryd.pl41 : placesB Tryd.prog 41 = some [(0, 1), (1, 1), (2, 1), (3, 1), (4, 1)] := by kernel_rfl
theorem Tryd.sh41 : Tryd.prog.stoodInHeld 41 = false := by kernel_rfl
theorem Tryd.eg41 : Tryd.prog.eqGuardType Tryd.prog.depth 41 = false := by kernel_rfl
theorem Tryd.fd41_0 : fieldB Tryd.prog 41 0 = some 0 := by kernel_rfl
theorem Tryd.fd41_1 : fieldB Tryd.prog 41 1 = some 1 := by kernel_rfl
theorem Tryd.fd41_2 : fieldB Tryd.prog 41 2 = some 2 := by kernel_rfl
theorem Tryd.fd41_3 : fieldB Tryd.prog 41 3 = some 3 := by kernel_rfl
theorem Tryd.fd41_4 : fieldB Tryd.prog 41 4 = some 4 := by kernel_rfl
theorem Tryd.ag42 : aggB Tryd.prog 42 = some false := by kernel_rfl
theorem Tryd.cz42 : Tryd.prog.cellsOf 42 = 1 := by kernel_rfl
theorem Tryd.by42 : Tryd.prog.bytesOf 42 = 8 := by kernel_rfl
theorem Tryd.zb42 : zeroB Tryd.prog 42 = some [.nilFunc] := by kernel_rfl
theorem Tryd.ag43 : aggB Tryd.prog 43 = some false := by kernel_rfl
theorem Tryd.cz43 : Tryd.prog.cellsOf 43 = 1 := by kernel_rfl
theorem Tryd.by43 : Tryd.prog.bytesOf 43 = 8 := by kernel_rfl
theorem Tryd.zb43 : zeroB Tryd.prog 43 = some [.nilFunc] := by kernel_rfl
theorem Tryd.ag44 : aggB Tryd.prog 44 = some true := by kernel_rfl
theorem Tryd.cz44 : Tryd.prog.cellsOf 44 = 6 := by kernel_rfl
theorem Tryd.by44 : Tryd.prog.bytesOf 44 = 48 := by kernel_rfl
theorem Tryd.zb44 : zeroB Tryd.prog 44 = some [.nilFunc, .nilFunc, .nilFunc, .nilFunc, .nilFunc, .nilFunc] := by kernel_rfl
theorem Tryd.ar44 : arrB Tryd.prog 44 = some (6, 1) := by kernel_rfl
theorem Tryd.ag46 : aggB Tryd.prog 46 = some false := by kernel_rfl
theorem Tryd.cz46 : Tryd.prog.cellsOf 46 = 1 := by kernel_rfl
theorem Tryd.by46 : Tryd.prog.bytesOf 46 = 8 := by kernel_rfl
theorem Tryd.zb46 : zeroB Tryd.prog 46 = some [.nilFunc] := by kernel_rfl
theorem Tryd.ag47 : aggB Tryd.prog 47 = some false := by kernel_rfl
theorem Tryd.cz47 : Tryd.prog.cellsOf 47 = 1 := by kernel_rfl
theorem Tryd.by47 : Tryd.prog.bytesOf 47 = 8 := by kernel_rfl
theorem Tryd.zb47 : zeroB Tryd.prog 47 = some [.nilFunc] := by kernel_rfl
theorem Tryd.ag49 : aggB Tryd.prog 49 = some false := by kernel_rfl
theorem Tryd.cz49 : Tryd.prog.cellsOf 49 = 1 := by kernel_rfl
theorem Tryd.by49 : Tryd.prog.bytesOf 49 = 8 := by kernel_rfl
theorem Tryd.zb49 : zeroB Tryd.prog 49 = some [.nilFunc] := by kernel_rfl
theorem Tryd.ag50 : aggB Tryd.prog 50 = some false := by kernel_rfl
theorem Tryd.cz50 : Tryd.prog.cellsOf 50 = 1 := by kernel_rfl
theorem Tryd.by50 : Tryd.prog.bytesOf 50 = 8 := by kernel_rfl
theorem Tryd.zb50 : zeroB Tryd.prog 50 = some [.nilFunc] := by kernel_rfl
theorem Tryd.ag51 : aggB Tryd.prog 51 = some false := by kernel_rfl
theorem Tryd.cz51 : Tryd.prog.cellsOf 51 = 1 := by kernel_rfl
theorem Tryd.by51 : Tryd.prog.bytesOf 51 = 8 := by kernel_rfl
theorem Tryd.zb51 : zeroB Tryd.prog 51 = some [.nilFunc] := by kernel_rfl
theorem Tryd.ag52 : aggB Tryd.prog 52 = some false := by kernel_rfl
theorem Tryd.cz52 : Tryd.prog.cellsOf 52 = 1 := by kernel_rfl
theorem Tryd.by52 : Tryd.prog.bytesOf 52 = 8 := by kernel_rfl
theorem Tryd.zb52 : zeroB Tryd.prog 52 = some [.nilFunc] := by kernel_rfl
theorem Tryd.ag53 : aggB Tryd.prog 53 = some false := by kernel_rfl
theorem Tryd.cz53 : Tryd.prog.cellsOf 53 = 1 := by kernel_rfl
theorem Tryd.by53 : Tryd.prog.bytesOf 53 = 8 := by kernel_rfl
theorem Tryd.zb53 : zeroB Tryd.prog 53 = some [.nilFunc] := by kernel_rfl
theorem Tryd.ag54 : aggB Tryd.prog 54 = some false := by kernel_rfl
theorem Tryd.cz54 : Tryd.prog.cellsOf 54 = 1 := by kernel_rfl
theorem Tryd.by54 : Tryd.prog.bytesOf 54 = 8 := by kernel_rfl
theorem Tryd.zb54 : zeroB Tryd.prog 54 = some [.nilFunc] := by kernel_rfl
theorem Tryd.ag56 : aggB Tryd.prog 56 = some false := by kernel_rfl
theorem Tryd.cz56 : Tryd.prog.cellsOf 56 = 1 := by kernel_rfl
theorem Tryd.by56 : Tryd.prog.bytesOf 56 = 8 := by kernel_rfl
theorem Tryd.zb56 : zeroB Tryd.prog 56 = some [.nilFunc] := by kernel_rfl
theorem Tryd.ag57 : aggB Tryd.prog 57 = some false := by kernel_rfl
theorem Tryd.cz57 : Tryd.prog.cellsOf 57 = 1 := by kernel_rfl
theorem Tryd.by57 : Tryd.prog.bytesOf 57 = 8 := by kernel_rfl
theorem Tryd.zb57 : zeroB Tryd.prog 57 = some [.nilFunc] := by kernel_rfl
theorem Tryd.ag58 : aggB Tryd.prog 58 = some false := by kernel_rfl
theorem Tryd.cz58 : Tryd.prog.cellsOf 58 = 1 := by kernel_rfl
theorem Tryd.by58 : Tryd.prog.bytesOf 58 = 8 := by kernel_rfl
theorem Tryd.zb58 : zeroB Tryd.prog 58 = some [.nilFunc] := by kernel_rfl
theorem Tryd.ag59 : aggB Tryd.prog 59 = some false := by kernel_rfl
theorem Tryd.cz59 : Tryd.prog.cellsOf 59 = 1 := by kernel_rfl
theorem Tryd.by59 : Tryd.prog.bytesOf 59 = 8 := by kernel_rfl
theorem Tryd.zb59 : zeroB Tryd.prog 59 = some [.nilFunc] := by kernel_rfl
theorem Tryd.ag60 : aggB Tryd.prog 60 = some false := by kernel_rfl
theorem Tryd.cz60 : Tryd.prog.cellsOf 60 = 1 := by kernel_rfl
theorem Tryd.by60 : Tryd.prog.bytesOf 60 = 8 := by kernel_rfl
theorem Tryd.zb60 : zeroB Tryd.prog 60 = some [.nilFunc] := by kernel_rfl
theorem Tryd.ag61 : aggB Tryd.prog 61 = some false := by kernel_rfl
theorem Tryd.cz61 : Tryd.prog.cellsOf 61 = 1 := by kernel_rfl
theorem Tryd.by61 : Tryd.prog.bytesOf 61 = 8 := by kernel_rfl
theorem Tryd.zb61 : zeroB Tryd.prog 61 = some [.nilFunc] := by kernel_rfl
theorem Tryd.ag63 : aggB Tryd.prog 63 = some false := by kernel_rfl
theorem Tryd.cz63 : Tryd.prog.cellsOf 63 = 1 := by kernel_rfl
theorem Tryd.by63 : Tryd.prog.bytesOf 63 = 8 := by kernel_rfl
theorem Tryd.zb63 : zeroB Tryd.prog 63 = some [.nilFunc] := by kernel_rfl
theorem Tryd.ag64 : aggB Tryd.prog 64 = some false := by kernel_rfl
theorem Tryd.cz64 : Tryd.prog.cellsOf 64 = 1 := by kernel_rfl
theorem Tryd.by64 : Tryd.prog.bytesOf 64 = 8 := by kernel_rfl
theorem Tryd.zb64 : zeroB Tryd.prog 64 = some [.nilFunc] := by kernel_rfl
theorem Tryd.ag66 : aggB Tryd.prog 66 = some false := by kernel_rfl
theorem Tryd.cz66 : Tryd.prog.cellsOf 66 = 1 := by kernel_rfl
theorem Tryd.by66 : Tryd.prog.bytesOf 66 = 8 := by kernel_rfl
theorem Tryd.zb66 : zeroB Tryd.prog 66 = some [.nilFunc] := by kernel_rfl
theorem Tryd.ag67 : aggB Tryd.prog 67 = some false := by kernel_rfl
theorem Tryd.cz67 : Tryd.prog.cellsOf 67 = 1 := by kernel_rfl
theorem Tryd.by67 : Tryd.prog.bytesOf 67 = 8 := by kernel_rfl
theorem Tryd.zb67 : zeroB Tryd.prog 67 = some [.nilFunc] := by kernel_rfl
theorem Tryd.ag68 : aggB Tryd.prog 68 = some false := by kernel_rfl
theorem Tryd.cz68 : Tryd.prog.cellsOf 68 = 1 := by kernel_rfl
theorem Tryd.by68 : Tryd.prog.bytesOf 68 = 8 := by kernel_rfl
theorem Tryd.zb68 : zeroB Tryd.prog 68 = some [.nilFunc] := by kernel_rfl
theorem Tryd.ag69 : aggB Tryd.prog 69 = some false := by kernel_rfl
theorem Tryd.cz69 : Tryd.prog.cellsOf 69 = 1 := by kernel_rfl
theorem Tryd.by69 : Tryd.prog.bytesOf 69 = 8 := by kernel_rfl
theorem Tryd.zb69 : zeroB Tryd.prog 69 = some [.nilFunc] := by kernel_rfl
theorem Tryd.ag71 : aggB Tryd.prog 71 = some false := by kernel_rfl
theorem Tryd.cz71 : Tryd.prog.cellsOf 71 = 1 := by kernel_rfl
theorem Tryd.by71 : Tryd.prog.bytesOf 71 = 8 := by kernel_rfl
theorem Tryd.zb71 : zeroB Tryd.prog 71 = some [.nilFunc] := by kernel_rfl
theorem Tryd.ag72 : aggB Tryd.prog 72 = some false := by kernel_rfl
theorem Tryd.cz72 : Tryd.prog.cellsOf 72 = 1 := by kernel_rfl
theorem Tryd.by72 : Tryd.prog.bytesOf 72 = 8 := by kernel_rfl
theorem Tryd.zb72 : zeroB Tryd.prog 72 = some [.int .i64 0] := by kernel_rfl
theorem Tryd.ag74 : aggB Tryd.prog 74 = some false := by kernel_rfl
theorem Tryd.cz74 : Tryd.prog.cellsOf 74 = 1 := by kernel_rfl
theorem Tryd.by74 : Tryd.prog.bytesOf 74 = 8 := by kernel_rfl
theorem Tryd.zb74 : zeroB Tryd.prog 74 = some [.nilFunc] := by kernel_rfl
theorem Tryd.ag76 : aggB Tryd.prog 76 = some false := by kernel_rfl
theorem Tryd.cz76 : Tryd.prog.cellsOf 76 = 1 := by kernel_rfl
theorem Tryd.by76 : Tryd.prog.bytesOf 76 = 8 := by kernel_rfl
theorem Tryd.zb76 : zeroB Tryd.prog 76 = some [.nilFunc] := by kernel_rfl
theorem Tryd.ag77 : aggB Tryd.prog 77 = some false := by kernel_rfl
theorem Tryd.cz77 : Tryd.prog.cellsOf 77 = 1 := by kernel_rfl
theorem Tryd.by77 : Tryd.prog.bytesOf 77 = 8 := by kernel_rfl
theorem Tryd.zb77 : zeroB Tryd.prog 77 = some [.nilFunc] := by kernel_rfl
theorem Tryd.ag78 : aggB Tryd.prog 78 = some false := by kernel_rfl
theorem Tryd.cz78 : Tryd.prog.cellsOf 78 = 1 := by kernel_rfl
theorem Tryd.by78 : Tryd.prog.bytesOf 78 = 8 := by kernel_rfl
theorem Tryd.zb78 : zeroB Tryd.prog 78 = some [.nilFunc] := by kernel_rfl
theorem Tryd.ag79 : aggB Tryd.prog 79 = some false := by kernel_rfl
theorem Tryd.cz79 : Tryd.prog.cellsOf 79 = 1 := by kernel_rfl
theorem Tryd.by79 : Tryd.prog.bytesOf 79 = 8 := by kernel_rfl
theorem Tryd.zb79 : zeroB Tryd.prog 79 = some [.int .i64 0] := by kernel_rfl
theorem Tryd.ag81 : aggB Tryd.prog 81 = some false := by kernel_rfl
theorem Tryd.cz81 : Tryd.prog.cellsOf 81 = 1 := by kernel_rfl
theorem Tryd.by81 : Tryd.prog.bytesOf 81 = 8 := by kernel_rfl
theorem Tryd.zb81 : zeroB Tryd.prog 81 = some [.nilFunc] := by kernel_rfl
theorem Tryd.ag82 : aggB Tryd.prog 82 = some false := by kernel_rfl
theorem Tryd.cz82 : Tryd.prog.cellsOf 82 = 1 := by kernel_rfl
theorem Tryd.by82 : Tryd.prog.bytesOf 82 = 24 := by kernel_rfl
theorem Tryd.zb82 : zeroB Tryd.prog 82 = some [.slice none 0 0] := by kernel_rfl
theorem Tryd.ag83 : aggB Tryd.prog 83 = some false := by kernel_rfl
theorem Tryd.cz83 : Tryd.prog.cellsOf 83 = 1 := by kernel_rfl
theorem Tryd.by83 : Tryd.prog.bytesOf 83 = 8 := by kernel_rfl
theorem Tryd.zb83 : zeroB Tryd.prog 83 = some [.nilFunc] := by kernel_rfl
theorem Tryd.ag84 : aggB Tryd.prog 84 = some false := by kernel_rfl
theorem Tryd.cz84 : Tryd.prog.cellsOf 84 = 1 := by kernel_rfl
theorem Tryd.by84 : Tryd.prog.bytesOf 84 = 8 := by kernel_rfl
theorem Tryd.zb84 : zeroB Tryd.prog 84 = some [.nilFunc] := by kernel_rfl
theorem Tryd.ag85 : aggB Tryd.prog 85 = some false := by kernel_rfl
theorem Tryd.cz85 : Tryd.prog.cellsOf 85 = 1 := by kernel_rfl
theorem Tryd.by85 : Tryd.prog.bytesOf 85 = 8 := by kernel_rfl
theorem Tryd.zb85 : zeroB Tryd.prog 85 = some [.nilFunc] := by kernel_rfl
theorem Tryd.ag86 : aggB Tryd.prog 86 = some false := by kernel_rfl
theorem Tryd.cz86 : Tryd.prog.cellsOf 86 = 1 := by kernel_rfl
theorem Tryd.by86 : Tryd.prog.bytesOf 86 = 8 := by kernel_rfl
theorem Tryd.zb86 : zeroB Tryd.prog 86 = some [.nilFunc] := by kernel_rfl
theorem Tryd.ag87 : aggB Tryd.prog 87 = some false := by kernel_rfl
theorem Tryd.cz87 : Tryd.prog.cellsOf 87 = 1 := by kernel_rfl
theorem Tryd.by87 : Tryd.prog.bytesOf 87 = 8 := by kernel_rfl
theorem Tryd.zb87 : zeroB Tryd.prog 87 = some [.nilFunc] := by kernel_rfl
theorem Tryd.ag88 : aggB Tryd.prog 88 = some false := by kernel_rfl
theorem Tryd.cz88 : Tryd.prog.cellsOf 88 = 1 := by kernel_rfl
theorem Tryd.by88 : Tryd.prog.bytesOf 88 = 8 := by kernel_rfl
theorem Tryd.zb88 : zeroB Tryd.prog 88 = some [.nilFunc] := by kernel_rfl
theorem Tryd.ag89 : aggB Tryd.prog 89 = some false := by kernel_rfl
theorem Tryd.cz89 : Tryd.prog.cellsOf 89 = 1 := by kernel_rfl
theorem Tryd.by89 : Tryd.prog.bytesOf 89 = 8 := by kernel_rfl
theorem Tryd.zb89 : zeroB Tryd.prog 89 = some [.nilFunc] := by kernel_rfl
theorem Tryd.ag91 : aggB Tryd.prog 91 = some false := by kernel_rfl
theorem Tryd.cz91 : Tryd.prog.cellsOf 91 = 1 := by kernel_rfl
theorem Tryd.by91 : Tryd.prog.bytesOf 91 = 8 := by kernel_rfl
theorem Tryd.zb91 : zeroB Tryd.prog 91 = some [.nilFunc] := by kernel_rfl
theorem Tryd.ag92 : aggB Tryd.prog 92 = some false := by kernel_rfl
theorem Tryd.cz92 : Tryd.prog.cellsOf 92 = 1 := by kernel_rfl
theorem Tryd.by92 : Tryd.prog.bytesOf 92 = 8 := by kernel_rfl
theorem Tryd.zb92 : zeroB Tryd.prog 92 = some [.nilFunc] := by kernel_rfl
theorem Tryd.ag93 : aggB Tryd.prog 93 = some false := by kernel_rfl
theorem Tryd.cz93 : Tryd.prog.cellsOf 93 = 1 := by kernel_rfl
theorem Tryd.by93 : Tryd.prog.bytesOf 93 = 8 := by kernel_rfl
theorem Tryd.zb93 : zeroB Tryd.prog 93 = some [.nilFunc] := by kernel_rfl
theorem Tryd.ag94 : aggB Tryd.prog 94 = some false := by kernel_rfl
theorem Tryd.cz94 : Tryd.prog.cellsOf 94 = 1 := by kernel_rfl
theorem Tryd.by94 : Tryd.prog.bytesOf 94 = 24 := by kernel_rfl
theorem Tryd.zb94 : zeroB Tryd.prog 94 = some [.slice none 0 0] := by kernel_rfl
theorem Tryd.ag95 : aggB Tryd.prog 95 = some false := by kernel_rfl
theorem Tryd.cz95 : Tryd.prog.cellsOf 95 = 1 := by kernel_rfl
theorem Tryd.by95 : Tryd.prog.bytesOf 95 = 8 := by kernel_rfl
theorem Tryd.zb95 : zeroB Tryd.prog 95 = some [.nilFunc] := by kernel_rfl
theorem Tryd.ag96 : aggB Tryd.prog 96 = some false := by kernel_rfl
theorem Tryd.cz96 : Tryd.prog.cellsOf 96 = 1 := by kernel_rfl
theorem Tryd.by96 : Tryd.prog.bytesOf 96 = 24 := by kernel_rfl
theorem Tryd.zb96 : zeroB Tryd.prog 96 = some [.slice none 0 0] := by kernel_rfl
theorem Tryd.ag97 : aggB Tryd.prog 97 = some true := by kernel_rfl
theorem Tryd.cz97 : Tryd.prog.cellsOf 97 = 5 := by kernel_rfl
theorem Tryd.by97 : Tryd.prog.bytesOf 97 = 80 := by kernel_rfl
theorem Tryd.zb97 : zeroB Tryd.prog 97 = some [.int .i64 0, .string ⟨#[]⟩, .int .i64 0, .slice none 0 0, .slice none 0 0] := by kernel_rfl
theorem Tryd.pl97 : placesB Tryd.prog 97 = some [(0, 1), (1, 1), (2, 1), (3, 1), (4, 1)] := by kernel_rfl
theorem Tryd.fd97_0 : fieldB Tryd.prog 97 0 = some 0 := by kernel_rfl
theorem Tryd.fd97_1 : fieldB Tryd.prog 97 1 = some 1 := by kernel_rfl
theorem Tryd.fd97_2 : fieldB Tryd.prog 97 2 = some 2 := by kernel_rfl
theorem Tryd.fd97_3 : fieldB Tryd.prog 97 3 = some 3 := by kernel_rfl
theorem Tryd.fd97_4 : fieldB Tryd.prog 97 4 = some 4 := by kernel_rfl
theorem Tryd.ag98 : aggB Tryd.prog 98 = some true := by kernel_rfl
theorem Tryd.cz98 : Tryd.prog.cellsOf 98 = 5 := by kernel_rfl
theorem Tryd.by98 : Tryd.prog.bytesOf 98 = 80 := by kernel_rfl
theorem Tryd.zb98 : zeroB Tryd.prog 98 = some [.int .i64 0, .string ⟨#[]⟩, .int .i64 0, .slice none 0 0, .slice none 0 0] := by kernel_rfl
theorem Tryd.pl98 : placesB Tryd.prog 98 = some [(0, 1), (1, 1), (2, 1), (3, 1), (4, 1)] := by kernel_rfl
theorem Tryd.sh98 : Tryd.prog.stoodInHeld 98 = false := by kernel_rfl
theorem Tryd.eg98 : Tryd.prog.eqGuardType Tryd.prog.depth 98 = false := by kernel_rfl
theorem Tryd.fd98_0 : fieldB Tryd.prog 98 0 = some 0 := by kernel_rfl
theorem Tryd.fd98_1 : fieldB Tryd.prog 98 1 = some 1 := by kernel_rfl
theorem Tryd.fd98_2 : fieldB Tryd.prog 98 2 = some 2 := by kernel_rfl
theorem Tryd.fd98_3 : fieldB Tryd.prog 98 3 = some 3 := by kernel_rfl
theorem Tryd.fd98_4 : fieldB Tryd.prog 98 4 = some 4 := by kernel_rfl
theorem Tryd.ag100 : aggB Tryd.prog 100 = some false := by kernel_rfl
theorem Tryd.cz100 : Tryd.prog.cellsOf 100 = 1 := by kernel_rfl
theorem Tryd.by100 : Tryd.prog.bytesOf 100 = 8 := by kernel_rfl
theorem Tryd.zb100 : zeroB Tryd.prog 100 = some [.nilFunc] := by kernel_rfl
theorem Tryd.ag101 : aggB Tryd.prog 101 = some false := by kernel_rfl
theorem Tryd.cz101 : Tryd.prog.cellsOf 101 = 1 := by kernel_rfl
theorem Tryd.by101 : Tryd.prog.bytesOf 101 = 1 := by kernel_rfl
theorem Tryd.zb101 : zeroB Tryd.prog 101 = some [.int .u8 0] := by kernel_rfl
theorem Tryd.ag102 : aggB Tryd.prog 102 = some false := by kernel_rfl
theorem Tryd.cz102 : Tryd.prog.cellsOf 102 = 1 := by kernel_rfl
theorem Tryd.by102 : Tryd.prog.bytesOf 102 = 8 := by kernel_rfl
theorem Tryd.zb102 : zeroB Tryd.prog 102 = some [.nilFunc] := by kernel_rfl
theorem Tryd.ag103 : aggB Tryd.prog 103 = some false := by kernel_rfl
theorem Tryd.cz103 : Tryd.prog.cellsOf 103 = 1 := by kernel_rfl
theorem Tryd.by103 : Tryd.prog.bytesOf 103 = 8 := by kernel_rfl
theorem Tryd.zb103 : zeroB Tryd.prog 103 = some [.nilFunc] := by kernel_rfl
theorem Tryd.ag104 : aggB Tryd.prog 104 = some true := by kernel_rfl
theorem Tryd.cz104 : Tryd.prog.cellsOf 104 = 5 := by kernel_rfl
theorem Tryd.by104 : Tryd.prog.bytesOf 104 = 40 := by kernel_rfl
theorem Tryd.zb104 : zeroB Tryd.prog 104 = some [.int .i64 0, .int .i64 0, .int .i64 0, .int .i64 0, .int .i64 0] := by kernel_rfl
theorem Tryd.pl104 : placesB Tryd.prog 104 = some [(0, 1), (1, 1), (2, 1), (3, 1), (4, 1)] := by kernel_rfl
theorem Tryd.fd104_0 : fieldB Tryd.prog 104 0 = some 0 := by kernel_rfl
theorem Tryd.fd104_1 : fieldB Tryd.prog 104 1 = some 1 := by kernel_rfl
theorem Tryd.fd104_2 : fieldB Tryd.prog 104 2 = some 2 := by kernel_rfl
theorem Tryd.fd104_3 : fieldB Tryd.prog 104 3 = some 3 := by kernel_rfl
theorem Tryd.fd104_4 : fieldB Tryd.prog 104 4 = some 4 := by kernel_rfl
theorem Tryd.ag105 : aggB Tryd.prog 105 = some true := by kernel_rfl
theorem Tryd.cz105 : Tryd.prog.cellsOf 105 = 5 := by kernel_rfl
theorem Tryd.by105 : Tryd.prog.bytesOf 105 = 40 := by kernel_rfl
theorem Tryd.zb105 : zeroB Tryd.prog 105 = some [.int .i64 0, .int .i64 0, .int .i64 0, .int .i64 0, .int .i64 0] := by kernel_rfl
theorem Tryd.pl105 : placesB Tryd.prog 105 = some [(0, 1), (1, 1), (2, 1), (3, 1), (4, 1)] := by kernel_rfl
theorem Tryd.sh105 : Tryd.prog.stoodInHeld 105 = false := by kernel_rfl
theorem Tryd.eg105 : Tryd.prog.eqGuardType Tryd.prog.depth 105 = false := by kernel_rfl
theorem Tryd.fd105_0 : fieldB Tryd.prog 105 0 = some 0 := by kernel_rfl
theorem Tryd.fd105_1 : fieldB Tryd.prog 105 1 = some 1 := by kernel_rfl
theorem Tryd.fd105_2 : fieldB Tryd.prog 105 2 = some 2 := by kernel_rfl
theorem Tryd.fd105_3 : fieldB Tryd.prog 105 3 = some 3 := by kernel_rfl
theorem Tryd.fd105_4 : fieldB Tryd.prog 105 4 = some 4 := by kernel_rfl
theorem Tryd.ag106 : aggB Tryd.prog 106 = some true := by kernel_rfl
theorem Tryd.cz106 : Tryd.prog.cellsOf 106 = 40 := by kernel_rfl
theorem Tryd.by106 : Tryd.prog.bytesOf 106 = 320 := by kernel_rfl
theorem Tryd.zb106 : zeroB Tryd.prog 106 = some [.int .i64 0, .int .i64 0, .int .i64 0, .int .i64 0, .int .i64 0, .int .i64 0, .int .i64 0, .int .i64 0, .int .i64 0, .int .i64 0, .int .i64 0, .int .i64 0, .int .i64 0, .int .i64 0, .int .i64 0, .int .i64 0, .int .i64 0, .int .i64 0, .int .i64 0, .int .i64 0, .int .i64 0, .int .i64 0, .int .i64 0, .int .i64 0, .int .i64 0, .int .i64 0, .int .i64 0, .int .i64 0, .int .i64 0, .int .i64 0, .int .i64 0, .int .i64 0, .int .i64 0, .int .i64 0, .int .i64 0, .int .i64 0, .int .i64 0, .int .i64 0, .int .i64 0, .int .i64 0] := by kernel_rfl
theorem Tryd.ar106 : arrB Tryd.prog 106 = some (8, 5) := by kernel_rfl
theorem Tryd.ag107 : aggB Tryd.prog 107 = some false := by kernel_rfl
theorem Tryd.cz107 : Tryd.prog.cellsOf 107 = 1 := by kernel_rfl
theorem Tryd.by107 : Tryd.prog.bytesOf 107 = 8 := by kernel_rfl
theorem Tryd.zb107 : zeroB Tryd.prog 107 = some [.nilFunc] := by kernel_rfl
theorem Tryd.ag108 : aggB Tryd.prog 108 = some false := by kernel_rfl
theorem Tryd.cz108 : Tryd.prog.cellsOf 108 = 1 := by kernel_rfl
theorem Tryd.by108 : Tryd.prog.bytesOf 108 = 8 := by kernel_rfl
theorem Tryd.zb108 : zeroB Tryd.prog 108 = some [.nilFunc] := by kernel_rfl
theorem Tryd.ag109 : aggB Tryd.prog 109 = some false := by kernel_rfl
theorem Tryd.cz109 : Tryd.prog.cellsOf 109 = 1 := by kernel_rfl
theorem Tryd.by109 : Tryd.prog.bytesOf 109 = 8 := by kernel_rfl
theorem Tryd.zb109 : zeroB Tryd.prog 109 = some [.nilFunc] := by kernel_rfl
theorem Tryd.ag110 : aggB Tryd.prog 110 = some true := by kernel_rfl
theorem Tryd.cz110 : Tryd.prog.cellsOf 110 = 4 := by kernel_rfl
theorem Tryd.by110 : Tryd.prog.bytesOf 110 = 32 := by kernel_rfl
theorem Tryd.zb110 : zeroB Tryd.prog 110 = some [.int .u64 0, .int .u64 0, .int .u64 0, .int .u64 0] := by kernel_rfl
theorem Tryd.ar110 : arrB Tryd.prog 110 = some (4, 1) := by kernel_rfl
theorem Tryd.ag111 : aggB Tryd.prog 111 = some false := by kernel_rfl
theorem Tryd.cz111 : Tryd.prog.cellsOf 111 = 1 := by kernel_rfl
theorem Tryd.by111 : Tryd.prog.bytesOf 111 = 8 := by kernel_rfl
theorem Tryd.zb111 : zeroB Tryd.prog 111 = some [.nilFunc] := by kernel_rfl
theorem Tryd.ag112 : aggB Tryd.prog 112 = some false := by kernel_rfl
theorem Tryd.cz112 : Tryd.prog.cellsOf 112 = 1 := by kernel_rfl
theorem Tryd.by112 : Tryd.prog.bytesOf 112 = 8 := by kernel_rfl
theorem Tryd.zb112 : zeroB Tryd.prog 112 = some [.nilFunc] := by kernel_rfl
theorem Tryd.ag113 : aggB Tryd.prog 113 = some false := by kernel_rfl
theorem Tryd.cz113 : Tryd.prog.cellsOf 113 = 1 := by kernel_rfl
theorem Tryd.by113 : Tryd.prog.bytesOf 113 = 8 := by kernel_rfl
theorem Tryd.zb113 : zeroB Tryd.prog 113 = some [.nilFunc] := by kernel_rfl
theorem Tryd.ag114 : aggB Tryd.prog 114 = some true := by kernel_rfl
theorem Tryd.cz114 : Tryd.prog.cellsOf 114 = 5 := by kernel_rfl
theorem Tryd.by114 : Tryd.prog.bytesOf 114 = 64 := by kernel_rfl
theorem Tryd.zb114 : zeroB Tryd.prog 114 = some [.int .i64 0, .string ⟨#[]⟩, .int .i64 0, .string ⟨#[]⟩, .string ⟨#[]⟩] := by kernel_rfl
theorem Tryd.pl114 : placesB Tryd.prog 114 = some [(0, 1), (1, 1), (2, 1), (3, 1), (4, 1)] := by kernel_rfl
theorem Tryd.fd114_0 : fieldB Tryd.prog 114 0 = some 0 := by kernel_rfl
theorem Tryd.fd114_1 : fieldB Tryd.prog 114 1 = some 1 := by kernel_rfl
theorem Tryd.fd114_2 : fieldB Tryd.prog 114 2 = some 2 := by kernel_rfl
theorem Tryd.fd114_3 : fieldB Tryd.prog 114 3 = some 3 := by kernel_rfl
theorem Tryd.fd114_4 : fieldB Tryd.prog 114 4 = some 4 := by kernel_rfl
theorem Tryd.ag115 : aggB Tryd.prog 115 = some true := by kernel_rfl
theorem Tryd.cz115 : Tryd.prog.cellsOf 115 = 5 := by kernel_rfl
theorem Tryd.by115 : Tryd.prog.bytesOf 115 = 64 := by kernel_rfl
theorem Tryd.zb115 : zeroB Tryd.prog 115 = some [.int .i64 0, .string ⟨#[]⟩, .int .i64 0, .string ⟨#[]⟩, .string ⟨#[]⟩] := by kernel_rfl
theorem Tryd.pl115 : placesB Tryd.prog 115 = some [(0, 1), (1, 1), (2, 1), (3, 1), (4, 1)] := by kernel_rfl
theorem Tryd.sh115 : Tryd.prog.stoodInHeld 115 = false := by kernel_rfl
theorem Tryd.eg115 : Tryd.prog.eqGuardType Tryd.prog.depth 115 = false := by kernel_rfl
theorem Tryd.fd115_0 : fieldB Tryd.prog 115 0 = some 0 := by kernel_rfl
theorem Tryd.fd115_1 : fieldB Tryd.prog 115 1 = some 1 := by kernel_rfl
theorem Tryd.fd115_2 : fieldB Tryd.prog 115 2 = some 2 := by kernel_rfl
theorem Tryd.fd115_3 : fieldB Tryd.prog 115 3 = some 3 := by kernel_rfl
theorem Tryd.fd115_4 : fieldB Tryd.prog 115 4 = some 4 := by kernel_rfl
theorem Tryd.ag117 : aggB Tryd.prog 117 = some false := by kernel_rfl
theorem Tryd.cz117 : Tryd.prog.cellsOf 117 = 1 := by kernel_rfl
theorem Tryd.by117 : Tryd.prog.bytesOf 117 = 8 := by kernel_rfl
theorem Tryd.zb117 : zeroB Tryd.prog 117 = some [.nilFunc] := by kernel_rfl
theorem Tryd.ag118 : aggB Tryd.prog 118 = some false := by kernel_rfl
theorem Tryd.cz118 : Tryd.prog.cellsOf 118 = 1 := by kernel_rfl
theorem Tryd.by118 : Tryd.prog.bytesOf 118 = 8 := by kernel_rfl
theorem Tryd.zb118 : zeroB Tryd.prog 118 = some [.nilFunc] := by kernel_rfl
theorem Tryd.ag119 : aggB Tryd.prog 119 = some false := by kernel_rfl
theorem Tryd.cz119 : Tryd.prog.cellsOf 119 = 1 := by kernel_rfl
theorem Tryd.by119 : Tryd.prog.bytesOf 119 = 4 := by kernel_rfl
theorem Tryd.zb119 : zeroB Tryd.prog 119 = some [.int .u32 0] := by kernel_rfl
theorem Tryd.ag120 : aggB Tryd.prog 120 = some true := by kernel_rfl
theorem Tryd.cz120 : Tryd.prog.cellsOf 120 = 64 := by kernel_rfl
theorem Tryd.by120 : Tryd.prog.bytesOf 120 = 64 := by kernel_rfl
theorem Tryd.zb120 : zeroB Tryd.prog 120 = some [.int .u8 0, .int .u8 0, .int .u8 0, .int .u8 0, .int .u8 0, .int .u8 0, .int .u8 0, .int .u8 0, .int .u8 0, .int .u8 0, .int .u8 0, .int .u8 0, .int .u8 0, .int .u8 0, .int .u8 0, .int .u8 0, .int .u8 0, .int .u8 0, .int .u8 0, .int .u8 0, .int .u8 0, .int .u8 0, .int .u8 0, .int .u8 0, .int .u8 0, .int .u8 0, .int .u8 0, .int .u8 0, .int .u8 0, .int .u8 0, .int .u8 0, .int .u8 0, .int .u8 0, .int .u8 0, .int .u8 0, .int .u8 0, .int .u8 0, .int .u8 0, .int .u8 0, .int .u8 0, .int .u8 0, .int .u8 0, .int .u8 0, .int .u8 0, .int .u8 0, .int .u8 0, .int .u8 0, .int .u8 0, .int .u8 0, .int .u8 0, .int .u8 0, .int .u8 0, .int .u8 0, .int .u8 0, .int .u8 0, .int .u8 0, .int .u8 0, .int .u8 0, .int .u8 0, .int .u8 0, .int .u8 0, .int .u8 0, .int .u8 0, .int .u8 0] := by kernel_rfl
theorem Tryd.ar120 : arrB Tryd.prog 120 = some (64, 1) := by kernel_rfl
theorem Tryd.ag121 : aggB Tryd.prog 121 = some false := by kernel_rfl
theorem Tryd.cz121 : Tryd.prog.cellsOf 121 = 1 := by kernel_rfl
theorem Tryd.by121 : Tryd.prog.bytesOf 121 = 8 := by kernel_rfl
theorem Tryd.zb121 : zeroB Tryd.prog 121 = some [.int .u64 0] := by kernel_rfl
theorem Tryd.ag122 : aggB Tryd.prog 122 = some false := by kernel_rfl
theorem Tryd.cz122 : Tryd.prog.cellsOf 122 = 1 := by kernel_rfl
theorem Tryd.by122 : Tryd.prog.bytesOf 122 = 8 := by kernel_rfl
theorem Tryd.zb122 : zeroB Tryd.prog 122 = some [.nilFunc] := by kernel_rfl
theorem Tryd.ag123 : aggB Tryd.prog 123 = some false := by kernel_rfl
theorem Tryd.cz123 : Tryd.prog.cellsOf 123 = 1 := by kernel_rfl
theorem Tryd.by123 : Tryd.prog.bytesOf 123 = 8 := by kernel_rfl
theorem Tryd.zb123 : zeroB Tryd.prog 123 = some [.nilFunc] := by kernel_rfl
theorem Tryd.ag124 : aggB Tryd.prog 124 = some false := by kernel_rfl
theorem Tryd.cz124 : Tryd.prog.cellsOf 124 = 1 := by kernel_rfl
theorem Tryd.by124 : Tryd.prog.bytesOf 124 = 8 := by kernel_rfl
theorem Tryd.zb124 : zeroB Tryd.prog 124 = some [.nilFunc] := by kernel_rfl
theorem Tryd.ag125 : aggB Tryd.prog 125 = some true := by kernel_rfl
theorem Tryd.cz125 : Tryd.prog.cellsOf 125 = 235 := by kernel_rfl
theorem Tryd.by125 : Tryd.prog.bytesOf 125 = 3008 := by kernel_rfl
theorem Tryd.zb125 : zeroB Tryd.prog 125 = some [.int .i64 0, .string ⟨#[]⟩, .int .i64 0, .string ⟨#[]⟩, .string ⟨#[]⟩, .int .i64 0, .string ⟨#[]⟩, .int .i64 0, .string ⟨#[]⟩, .string ⟨#[]⟩, .int .i64 0, .string ⟨#[]⟩, .int .i64 0, .string ⟨#[]⟩, .string ⟨#[]⟩, .int .i64 0, .string ⟨#[]⟩, .int .i64 0, .string ⟨#[]⟩, .string ⟨#[]⟩, .int .i64 0, .string ⟨#[]⟩, .int .i64 0, .string ⟨#[]⟩, .string ⟨#[]⟩, .int .i64 0, .string ⟨#[]⟩, .int .i64 0, .string ⟨#[]⟩, .string ⟨#[]⟩, .int .i64 0, .string ⟨#[]⟩, .int .i64 0, .string ⟨#[]⟩, .string ⟨#[]⟩, .int .i64 0, .string ⟨#[]⟩, .int .i64 0, .string ⟨#[]⟩, .string ⟨#[]⟩, .int .i64 0, .string ⟨#[]⟩, .int .i64 0, .string ⟨#[]⟩, .string ⟨#[]⟩, .int .i64 0, .string ⟨#[]⟩, .int .i64 0, .string ⟨#[]⟩, .string ⟨#[]⟩, .int .i64 0, .string ⟨#[]⟩, .int .i64 0, .string ⟨#[]⟩, .string ⟨#[]⟩, .int .i64 0, .string ⟨#[]⟩, .int .i64 0, .string ⟨#[]⟩, .string ⟨#[]⟩, .int .i64 0, .string ⟨#[]⟩, .int .i64 0, .string ⟨#[]⟩, .string ⟨#[]⟩, .int .i64 0, .string ⟨#[]⟩, .int .i64 0, .string ⟨#[]⟩, .string ⟨#[]⟩, .int .i64 0, .string ⟨#[]⟩, .int .i64 0, .string ⟨#[]⟩, .string ⟨#[]⟩, .int .i64 0, .string ⟨#[]⟩, .int .i64 0, .string ⟨#[]⟩, .string ⟨#[]⟩, .int .i64 0, .string ⟨#[]⟩, .int .i64 0, .string ⟨#[]⟩, .string ⟨#[]⟩, .int .i64 0, .string ⟨#[]⟩, .int .i64 0, .string ⟨#[]⟩, .string ⟨#[]⟩, .int .i64 0, .string ⟨#[]⟩, .int .i64 0, .string ⟨#[]⟩, .string ⟨#[]⟩, .int .i64 0, .string ⟨#[]⟩, .int .i64 0, .string ⟨#[]⟩, .string ⟨#[]⟩, .int .i64 0, .string ⟨#[]⟩, .int .i64 0, .string ⟨#[]⟩, .string ⟨#[]⟩, .int .i64 0, .string ⟨#[]⟩, .int .i64 0, .string ⟨#[]⟩, .string ⟨#[]⟩, .int .i64 0, .string ⟨#[]⟩, .int .i64 0, .string ⟨#[]⟩, .string ⟨#[]⟩, .int .i64 0, .string ⟨#[]⟩, .int .i64 0, .string ⟨#[]⟩, .string ⟨#[]⟩, .int .i64 0, .string ⟨#[]⟩, .int .i64 0, .string ⟨#[]⟩, .string ⟨#[]⟩, .int .i64 0, .string ⟨#[]⟩, .int .i64 0, .string ⟨#[]⟩, .string ⟨#[]⟩, .int .i64 0, .string ⟨#[]⟩, .int .i64 0, .string ⟨#[]⟩, .string ⟨#[]⟩, .int .i64 0, .string ⟨#[]⟩, .int .i64 0, .string ⟨#[]⟩, .string ⟨#[]⟩, .int .i64 0, .string ⟨#[]⟩, .int .i64 0, .string ⟨#[]⟩, .string ⟨#[]⟩, .int .i64 0, .string ⟨#[]⟩, .int .i64 0, .string ⟨#[]⟩, .string ⟨#[]⟩, .int .i64 0, .string ⟨#[]⟩, .int .i64 0, .string ⟨#[]⟩, .string ⟨#[]⟩, .int .i64 0, .string ⟨#[]⟩, .int .i64 0, .string ⟨#[]⟩, .string ⟨#[]⟩, .int .i64 0, .string ⟨#[]⟩, .int .i64 0, .string ⟨#[]⟩, .string ⟨#[]⟩, .int .i64 0, .string ⟨#[]⟩, .int .i64 0, .string ⟨#[]⟩, .string ⟨#[]⟩, .int .i64 0, .string ⟨#[]⟩, .int .i64 0, .string ⟨#[]⟩, .string ⟨#[]⟩, .int .i64 0, .string ⟨#[]⟩, .int .i64 0, .string ⟨#[]⟩, .string ⟨#[]⟩, .int .i64 0, .string ⟨#[]⟩, .int .i64 0, .string ⟨#[]⟩, .string ⟨#[]⟩, .int .i64 0, .string ⟨#[]⟩, .int .i64 0, .string ⟨#[]⟩, .string ⟨#[]⟩, .int .i64 0, .string ⟨#[]⟩, .int .i64 0, .string ⟨#[]⟩, .string ⟨#[]⟩, .int .i64 0, .string ⟨#[]⟩, .int .i64 0, .string ⟨#[]⟩, .string ⟨#[]⟩, .int .i64 0, .string ⟨#[]⟩, .int .i64 0, .string ⟨#[]⟩, .string ⟨#[]⟩, .int .i64 0, .string ⟨#[]⟩, .int .i64 0, .string ⟨#[]⟩, .string ⟨#[]⟩, .int .i64 0, .string ⟨#[]⟩, .int .i64 0, .string ⟨#[]⟩, .string ⟨#[]⟩, .int .i64 0, .string ⟨#[]⟩, .int .i64 0, .string ⟨#[]⟩, .string ⟨#[]⟩, .int .i64 0, .string ⟨#[]⟩, .int .i64 0, .string ⟨#[]⟩, .string ⟨#[]⟩, .int .i64 0, .string ⟨#[]⟩, .int .i64 0, .string ⟨#[]⟩, .string ⟨#[]⟩, .int .i64 0, .string ⟨#[]⟩, .int .i64 0, .string ⟨#[]⟩, .string ⟨#[]⟩] := by kernel_rfl
theorem Tryd.ar125 : arrB Tryd.prog 125 = some (47, 5) := by kernel_rfl
theorem Tryd.ag126 : aggB Tryd.prog 126 = some false := by kernel_rfl
theorem Tryd.cz126 : Tryd.prog.cellsOf 126 = 1 := by kernel_rfl
theorem Tryd.by126 : Tryd.prog.bytesOf 126 = 8 := by kernel_rfl
theorem Tryd.zb126 : zeroB Tryd.prog 126 = some [.nilFunc] := by kernel_rfl
theorem Tryd.ag127 : aggB Tryd.prog 127 = some true := by kernel_rfl
theorem Tryd.cz127 : Tryd.prog.cellsOf 127 = 30 := by kernel_rfl
theorem Tryd.by127 : Tryd.prog.bytesOf 127 = 384 := by kernel_rfl
theorem Tryd.zb127 : zeroB Tryd.prog 127 = some [.int .i64 0, .string ⟨#[]⟩, .int .i64 0, .string ⟨#[]⟩, .string ⟨#[]⟩, .int .i64 0, .string ⟨#[]⟩, .int .i64 0, .string ⟨#[]⟩, .string ⟨#[]⟩, .int .i64 0, .string ⟨#[]⟩, .int .i64 0, .string ⟨#[]⟩, .string ⟨#[]⟩, .int .i64 0, .string ⟨#[]⟩, .int .i64 0, .string ⟨#[]⟩, .string ⟨#[]⟩, .int .i64 0, .string ⟨#[]⟩, .int .i64 0, .string ⟨#[]⟩, .string ⟨#[]⟩, .int .i64 0, .string ⟨#[]⟩, .int .i64 0, .string ⟨#[]⟩, .string ⟨#[]⟩] := by kernel_rfl
theorem Tryd.ar127 : arrB Tryd.prog 127 = some (6, 5) := by kernel_rfl
theorem Tryd.ag128 : aggB Tryd.prog 128 = some false := by kernel_rfl
theorem Tryd.cz128 : Tryd.prog.cellsOf 128 = 1 := by kernel_rfl
theorem Tryd.by128 : Tryd.prog.bytesOf 128 = 8 := by kernel_rfl
theorem Tryd.zb128 : zeroB Tryd.prog 128 = some [.nilFunc] := by kernel_rfl
theorem Tryd.ag129 : aggB Tryd.prog 129 = some false := by kernel_rfl
theorem Tryd.cz129 : Tryd.prog.cellsOf 129 = 1 := by kernel_rfl
theorem Tryd.by129 : Tryd.prog.bytesOf 129 = 8 := by kernel_rfl
theorem Tryd.zb129 : zeroB Tryd.prog 129 = some [.nilFunc] := by kernel_rfl
theorem Tryd.ag130 : aggB Tryd.prog 130 = some false := by kernel_rfl
theorem Tryd.cz130 : Tryd.prog.cellsOf 130 = 1 := by kernel_rfl
theorem Tryd.by130 : Tryd.prog.bytesOf 130 = 8 := by kernel_rfl
theorem Tryd.zb130 : zeroB Tryd.prog 130 = some [.nilFunc] := by kernel_rfl
theorem Tryd.ag131 : aggB Tryd.prog 131 = some false := by kernel_rfl
theorem Tryd.cz131 : Tryd.prog.cellsOf 131 = 1 := by kernel_rfl
theorem Tryd.by131 : Tryd.prog.bytesOf 131 = 8 := by kernel_rfl
theorem Tryd.zb131 : zeroB Tryd.prog 131 = some [.nilFunc] := by kernel_rfl
theorem Tryd.ag132 : aggB Tryd.prog 132 = some true := by kernel_rfl
theorem Tryd.cz132 : Tryd.prog.cellsOf 132 = 15 := by kernel_rfl
theorem Tryd.by132 : Tryd.prog.bytesOf 132 = 240 := by kernel_rfl
theorem Tryd.zb132 : zeroB Tryd.prog 132 = some [.string ⟨#[]⟩, .string ⟨#[]⟩, .string ⟨#[]⟩, .string ⟨#[]⟩, .string ⟨#[]⟩, .string ⟨#[]⟩, .string ⟨#[]⟩, .string ⟨#[]⟩, .string ⟨#[]⟩, .string ⟨#[]⟩, .string ⟨#[]⟩, .string ⟨#[]⟩, .string ⟨#[]⟩, .string ⟨#[]⟩, .string ⟨#[]⟩] := by kernel_rfl
theorem Tryd.ar132 : arrB Tryd.prog 132 = some (15, 1) := by kernel_rfl
theorem Tryd.ag133 : aggB Tryd.prog 133 = some false := by kernel_rfl
theorem Tryd.cz133 : Tryd.prog.cellsOf 133 = 1 := by kernel_rfl
theorem Tryd.by133 : Tryd.prog.bytesOf 133 = 8 := by kernel_rfl
theorem Tryd.zb133 : zeroB Tryd.prog 133 = some [.nilFunc] := by kernel_rfl
theorem Tryd.ag134 : aggB Tryd.prog 134 = some true := by kernel_rfl
theorem Tryd.cz134 : Tryd.prog.cellsOf 134 = 10 := by kernel_rfl
theorem Tryd.by134 : Tryd.prog.bytesOf 134 = 160 := by kernel_rfl
theorem Tryd.zb134 : zeroB Tryd.prog 134 = some [.string ⟨#[]⟩, .string ⟨#[]⟩, .string ⟨#[]⟩, .string ⟨#[]⟩, .string ⟨#[]⟩, .string ⟨#[]⟩, .string ⟨#[]⟩, .string ⟨#[]⟩, .string ⟨#[]⟩, .string ⟨#[]⟩] := by kernel_rfl
theorem Tryd.ar134 : arrB Tryd.prog 134 = some (10, 1) := by kernel_rfl
theorem Tryd.ag135 : aggB Tryd.prog 135 = some false := by kernel_rfl
theorem Tryd.cz135 : Tryd.prog.cellsOf 135 = 1 := by kernel_rfl
theorem Tryd.by135 : Tryd.prog.bytesOf 135 = 8 := by kernel_rfl
theorem Tryd.zb135 : zeroB Tryd.prog 135 = some [.nilFunc] := by kernel_rfl
theorem Tryd.ag136 : aggB Tryd.prog 136 = some true := by kernel_rfl
theorem Tryd.cz136 : Tryd.prog.cellsOf 136 = 4 := by kernel_rfl
theorem Tryd.by136 : Tryd.prog.bytesOf 136 = 64 := by kernel_rfl
theorem Tryd.zb136 : zeroB Tryd.prog 136 = some [.string ⟨#[]⟩, .string ⟨#[]⟩, .string ⟨#[]⟩, .string ⟨#[]⟩] := by kernel_rfl
theorem Tryd.ar136 : arrB Tryd.prog 136 = some (4, 1) := by kernel_rfl
theorem Tryd.ag137 : aggB Tryd.prog 137 = some false := by kernel_rfl
theorem Tryd.cz137 : Tryd.prog.cellsOf 137 = 1 := by kernel_rfl
theorem Tryd.by137 : Tryd.prog.bytesOf 137 = 8 := by kernel_rfl
theorem Tryd.zb137 : zeroB Tryd.prog 137 = some [.nilFunc] := by kernel_rfl
theorem Tryd.ag138 : aggB Tryd.prog 138 = some false := by kernel_rfl
theorem Tryd.cz138 : Tryd.prog.cellsOf 138 = 1 := by kernel_rfl
theorem Tryd.by138 : Tryd.prog.bytesOf 138 = 8 := by kernel_rfl
theorem Tryd.zb138 : zeroB Tryd.prog 138 = some [.nilFunc] := by kernel_rfl
theorem Tryd.ag139 : aggB Tryd.prog 139 = some true := by kernel_rfl
theorem Tryd.cz139 : Tryd.prog.cellsOf 139 = 4 := by kernel_rfl
theorem Tryd.by139 : Tryd.prog.bytesOf 139 = 40 := by kernel_rfl
theorem Tryd.zb139 : zeroB Tryd.prog 139 = some [.pointer none, .pointer none, .pointer none, .string ⟨#[]⟩] := by kernel_rfl
theorem Tryd.pl139 : placesB Tryd.prog 139 = some [(0, 1), (1, 1), (2, 1), (3, 1)] := by kernel_rfl
theorem Tryd.fd139_0 : fieldB Tryd.prog 139 0 = some 0 := by kernel_rfl
theorem Tryd.fd139_1 : fieldB Tryd.prog 139 1 = some 1 := by kernel_rfl
theorem Tryd.fd139_2 : fieldB Tryd.prog 139 2 = some 2 := by kernel_rfl
theorem Tryd.fd139_3 : fieldB Tryd.prog 139 3 = some 3 := by kernel_rfl
theorem Tryd.ag140 : aggB Tryd.prog 140 = some true := by kernel_rfl
theorem Tryd.cz140 : Tryd.prog.cellsOf 140 = 4 := by kernel_rfl
theorem Tryd.by140 : Tryd.prog.bytesOf 140 = 40 := by kernel_rfl
theorem Tryd.zb140 : zeroB Tryd.prog 140 = some [.pointer none, .pointer none, .pointer none, .string ⟨#[]⟩] := by kernel_rfl
theorem Tryd.pl140 : placesB Tryd.prog 140 = some [(0, 1), (1, 1), (2, 1), (3, 1)] := by kernel_rfl
theorem Tryd.fd140_0 : fieldB Tryd.prog 140 0 = some 0 := by kernel_rfl
theorem Tryd.fd140_1 : fieldB Tryd.prog 140 1 = some 1 := by kernel_rfl
theorem Tryd.fd140_2 : fieldB Tryd.prog 140 2 = some 2 := by kernel_rfl
theorem Tryd.fd140_3 : fieldB Tryd.prog 140 3 = some 3 := by kernel_rfl
theorem Tryd.ag141 : aggB Tryd.prog 141 = some true := by kernel_rfl
theorem Tryd.cz141 : Tryd.prog.cellsOf 141 = 0 := by kernel_rfl
theorem Tryd.zb141 : zeroB Tryd.prog 141 = some [] := by kernel_rfl
theorem Tryd.ar141 : arrB Tryd.prog 141 = some (0, 1) := by kernel_rfl
theorem Tryd.ag142 : aggB Tryd.prog 142 = some true := by kernel_rfl
theorem Tryd.cz142 : Tryd.prog.cellsOf 142 = 0 := by kernel_rfl
theorem Tryd.zb142 : zeroB Tryd.prog 142 = some [] := by kernel_rfl
theorem Tryd.ag143 : aggB Tryd.prog 143 = some true := by kernel_rfl
theorem Tryd.cz143 : Tryd.prog.cellsOf 143 = 0 := by kernel_rfl
theorem Tryd.zb143 : zeroB Tryd.prog 143 = some [] := by kernel_rfl
theorem Tryd.ag144 : aggB Tryd.prog 144 = some false := by kernel_rfl
theorem Tryd.cz144 : Tryd.prog.cellsOf 144 = 1 := by kernel_rfl
theorem Tryd.by144 : Tryd.prog.bytesOf 144 = 8 := by kernel_rfl
theorem Tryd.zb144 : zeroB Tryd.prog 144 = some [.nilFunc] := by kernel_rfl
theorem Tryd.ag145 : aggB Tryd.prog 145 = some false := by kernel_rfl
theorem Tryd.cz145 : Tryd.prog.cellsOf 145 = 1 := by kernel_rfl
theorem Tryd.by145 : Tryd.prog.bytesOf 145 = 1 := by kernel_rfl
theorem Tryd.zb145 : zeroB Tryd.prog 145 = some [.int .u8 0] := by kernel_rfl
theorem Tryd.ag146 : aggB Tryd.prog 146 = some false := by kernel_rfl
theorem Tryd.cz146 : Tryd.prog.cellsOf 146 = 1 := by kernel_rfl
theorem Tryd.by146 : Tryd.prog.bytesOf 146 = 1 := by kernel_rfl
theorem Tryd.zb146 : zeroB Tryd.prog 146 = some [.int .u8 0] := by kernel_rfl
theorem Tryd.ag147 : aggB Tryd.prog 147 = some false := by kernel_rfl
theorem Tryd.cz147 : Tryd.prog.cellsOf 147 = 1 := by kernel_rfl
theorem Tryd.by147 : Tryd.prog.bytesOf 147 = 8 := by kernel_rfl
theorem Tryd.zb147 : zeroB Tryd.prog 147 = some [.nilFunc] := by kernel_rfl
theorem Tryd.ag148 : aggB Tryd.prog 148 = some false := by kernel_rfl
theorem Tryd.cz148 : Tryd.prog.cellsOf 148 = 1 := by kernel_rfl
theorem Tryd.by148 : Tryd.prog.bytesOf 148 = 8 := by kernel_rfl
theorem Tryd.zb148 : zeroB Tryd.prog 148 = some [.pointer none] := by kernel_rfl
theorem Tryd.ag149 : aggB Tryd.prog 149 = some false := by kernel_rfl
theorem Tryd.cz149 : Tryd.prog.cellsOf 149 = 1 := by kernel_rfl
theorem Tryd.by149 : Tryd.prog.bytesOf 149 = 4 := by kernel_rfl
theorem Tryd.zb149 : zeroB Tryd.prog 149 = some [.int .i32 0] := by kernel_rfl
theorem Tryd.ag150 : aggB Tryd.prog 150 = some false := by kernel_rfl
theorem Tryd.cz150 : Tryd.prog.cellsOf 150 = 1 := by kernel_rfl
theorem Tryd.by150 : Tryd.prog.bytesOf 150 = 4 := by kernel_rfl
theorem Tryd.zb150 : zeroB Tryd.prog 150 = some [.int .i32 0] := by kernel_rfl
theorem Tryd.ag151 : aggB Tryd.prog 151 = some true := by kernel_rfl
theorem Tryd.cz151 : Tryd.prog.cellsOf 151 = 11 := by kernel_rfl
theorem Tryd.by151 : Tryd.prog.bytesOf 151 = 48 := by kernel_rfl
theorem Tryd.zb151 : zeroB Tryd.prog 151 = some [.int .u64 0, .int .u64 0, .int .u32 0, .int .u8 0, .int .u8 0, .int .u8 0, .int .u8 0, .nilFunc, .pointer none, .int .i32 0, .int .i32 0] := by kernel_rfl
theorem Tryd.pl151 : placesB Tryd.prog 151 = some [(0, 1), (1, 1), (2, 1), (3, 1), (4, 1), (5, 1), (6, 1), (7, 1), (8, 1), (9, 1), (10, 1)] := by kernel_rfl
theorem Tryd.fd151_0 : fieldB Tryd.prog 151 0 = some 0 := by kernel_rfl
theorem Tryd.fd151_1 : fieldB Tryd.prog 151 1 = some 1 := by kernel_rfl
theorem Tryd.fd151_2 : fieldB Tryd.prog 151 2 = some 2 := by kernel_rfl
theorem Tryd.fd151_3 : fieldB Tryd.prog 151 3 = some 3 := by kernel_rfl
theorem Tryd.fd151_4 : fieldB Tryd.prog 151 4 = some 4 := by kernel_rfl
theorem Tryd.fd151_5 : fieldB Tryd.prog 151 5 = some 5 := by kernel_rfl
theorem Tryd.fd151_6 : fieldB Tryd.prog 151 6 = some 6 := by kernel_rfl
theorem Tryd.fd151_7 : fieldB Tryd.prog 151 7 = some 7 := by kernel_rfl
theorem Tryd.fd151_8 : fieldB Tryd.prog 151 8 = some 8 := by kernel_rfl
theorem Tryd.fd151_9 : fieldB Tryd.prog 151 9 = some 9 := by kernel_rfl
theorem Tryd.fd151_10 : fieldB Tryd.prog 151 10 = some 10 := by kernel_rfl
theorem Tryd.ag152 : aggB Tryd.prog 152 = some true := by kernel_rfl
theorem Tryd.cz152 : Tryd.prog.cellsOf 152 = 11 := by kernel_rfl
theorem Tryd.by152 : Tryd.prog.bytesOf 152 = 48 := by kernel_rfl
theorem Tryd.zb152 : zeroB Tryd.prog 152 = some [.int .u64 0, .int .u64 0, .int .u32 0, .int .u8 0, .int .u8 0, .int .u8 0, .int .u8 0, .nilFunc, .pointer none, .int .i32 0, .int .i32 0] := by kernel_rfl
theorem Tryd.pl152 : placesB Tryd.prog 152 = some [(0, 1), (1, 1), (2, 1), (3, 1), (4, 1), (5, 1), (6, 1), (7, 1), (8, 1), (9, 1), (10, 1)] := by kernel_rfl
theorem Tryd.fd152_0 : fieldB Tryd.prog 152 0 = some 0 := by kernel_rfl
theorem Tryd.fd152_1 : fieldB Tryd.prog 152 1 = some 1 := by kernel_rfl
theorem Tryd.fd152_2 : fieldB Tryd.prog 152 2 = some 2 := by kernel_rfl
theorem Tryd.fd152_3 : fieldB Tryd.prog 152 3 = some 3 := by kernel_rfl
theorem Tryd.fd152_4 : fieldB Tryd.prog 152 4 = some 4 := by kernel_rfl
theorem Tryd.fd152_5 : fieldB Tryd.prog 152 5 = some 5 := by kernel_rfl
theorem Tryd.fd152_6 : fieldB Tryd.prog 152 6 = some 6 := by kernel_rfl
theorem Tryd.fd152_7 : fieldB Tryd.prog 152 7 = some 7 := by kernel_rfl
theorem Tryd.fd152_8 : fieldB Tryd.prog 152 8 = some 8 := by kernel_rfl
theorem Tryd.fd152_9 : fieldB Tryd.prog 152 9 = some 9 := by kernel_rfl
theorem Tryd.fd152_10 : fieldB Tryd.prog 152 10 = some 10 := by kernel_rfl
theorem Tryd.ag153 : aggB Tryd.prog 153 = some false := by kernel_rfl
theorem Tryd.cz153 : Tryd.prog.cellsOf 153 = 1 := by kernel_rfl
theorem Tryd.by153 : Tryd.prog.bytesOf 153 = 8 := by kernel_rfl
theorem Tryd.zb153 : zeroB Tryd.prog 153 = some [.pointer none] := by kernel_rfl
theorem Tryd.mixed : Tryd.prog.follows .mixedOrders = true := by kernel_rfl

end Go.Proofs
