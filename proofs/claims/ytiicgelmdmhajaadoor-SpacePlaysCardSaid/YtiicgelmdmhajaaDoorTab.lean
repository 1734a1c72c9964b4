/-
  CLOSED FACTS of the translation, by program. No macro, no axiom.
-/
import Derived.Test.YtiicgelmdmhajaaDoorHlP
import Derived.Test.YtiicgelmdmhajaaDoorChecked
namespace Go.Proofs
open Go.Hl

theorem Tryd.cb3 : callB Tryd.prog 3 = true := by kernel_rfl
theorem Tryd.cb4 : callB Tryd.prog 4 = true := by kernel_rfl
theorem Tryd.cb5 : callB Tryd.prog 5 = true := by kernel_rfl
theorem Tryd.cb6 : callB Tryd.prog 6 = true := by kernel_rfl
theorem Tryd.cb7 : callB Tryd.prog 7 = true := by kernel_rfl
theorem Tryd.cb8 : callB Tryd.prog 8 = true := by kernel_rfl
theorem Tryd.cb9 : callB Tryd.prog 9 = true := by kernel_rfl
theorem Tryd.cb10 : callB Tryd.prog 10 = true := by kernel_rfl
theorem Tryd.cb11 : callB Tryd.prog 11 = true := by kernel_rfl
theorem Tryd.cb12 : callB Tryd.prog 12 = true := by kernel_rfl
theorem Tryd.cb13 : callB Tryd.prog 13 = true := by kernel_rfl
theorem Tryd.cb14 : callB Tryd.prog 14 = true := by kernel_rfl
theorem Tryd.cb15 : callB Tryd.prog 15 = true := by kernel_rfl
theorem Tryd.cb16 : callB Tryd.prog 16 = true := by kernel_rfl
theorem Tryd.cb17 : callB Tryd.prog 17 = true := by kernel_rfl
theorem Tryd.cb18 : callB Tryd.prog 18 = true := by kernel_rfl
theorem Tryd.cb19 : callB Tryd.prog 19 = true := by kernel_rfl
theorem Tryd.cb20 : callB Tryd.prog 20 = true := by kernel_rfl
theorem Tryd.cb21 : callB Tryd.prog 21 = true := by kernel_rfl
theorem Tryd.cb22 : callB Tryd.prog 22 = true := by kernel_rfl
theorem Tryd.cb23 : callB Tryd.prog 23 = true := by kernel_rfl
theorem Tryd.cb24 : callB Tryd.prog 24 = true := by kernel_rfl
theorem Tryd.cb25 : callB Tryd.prog 25 = true := by kernel_rfl
theorem Tryd.cb26 : callB Tryd.prog 26 = true := by kernel_rfl
theorem Tryd.cb27 : callB Tryd.prog 27 = true := by kernel_rfl
theorem Tryd.cb28 : callB Tryd.prog 28 = true := by kernel_rfl
theorem Tryd.cb29 : callB Tryd.prog 29 = true := by kernel_rfl
theorem Tryd.cb30 : callB Tryd.prog 30 = true := by kernel_rfl
theorem Tryd.cb31 : callB Tryd.prog 31 = true := by kernel_rfl
theorem Tryd.cb32 : callB Tryd.prog 32 = true := by kernel_rfl
theorem Tryd.cb33 : callB Tryd.prog 33 = true := by kernel_rfl
theorem Tryd.cb34 : callB Tryd.prog 34 = true := by kernel_rfl
theorem Tryd.cb35 : callB Tryd.prog 35 = true := by kernel_rfl
theorem Tryd.cb36 : callB Tryd.prog 36 = true := by kernel_rfl
theorem Tryd.cb37 : callB Tryd.prog 37 = true := by kernel_rfl
theorem Tryd.cb38 : callB Tryd.prog 38 = true := by kernel_rfl
theorem Tryd.cb39 : callB Tryd.prog 39 = true := by kernel_rfl
theorem Tryd.cb40 : callB Tryd.prog 40 = true := by kernel_rfl
theorem Tryd.cb41 : callB Tryd.prog 41 = true := by kernel_rfl
theorem Tryd.cb42 : callB Tryd.prog 42 = true := by kernel_rfl
theorem Tryd.cb43 : callB Tryd.prog 43 = true := by kernel_rfl
theorem Tryd.cb44 : callB Tryd.prog 44 = true := by kernel_rfl
theorem Tryd.cb45 : callB Tryd.prog 45 = true := by kernel_rfl
theorem Tryd.cb46 : callB Tryd.prog 46 = true := by kernel_rfl
theorem Tryd.cb47 : callB Tryd.prog 47 = true := by kernel_rfl
theorem Tryd.cb48 : callB Tryd.prog 48 = true := by kernel_rfl
theorem Tryd.cb49 : callB Tryd.prog 49 = true := by kernel_rfl
theorem Tryd.cb50 : callB Tryd.prog 50 = true := by kernel_rfl
theorem Tryd.cb51 : callB Tryd.prog 51 = true := by kernel_rfl
theorem Tryd.cb52 : callB Tryd.prog 52 = true := by kernel_rfl
theorem Tryd.cb53 : callB Tryd.prog 53 = true := by kernel_rfl
theorem Tryd.cb54 : callB Tryd.prog 54 = true := by kernel_rfl
theorem Tryd.cb55 : callB Tryd.prog 55 = true := by kernel_rfl
theorem Tryd.cb56 : callB Tryd.prog 56 = true := by kernel_rfl
theorem Tryd.cb57 : callB Tryd.prog 57 = true := by kernel_rfl
theorem Tryd.cb58 : callB Tryd.prog 58 = true := by kernel_rfl
theorem Tryd.cb59 : callB Tryd.prog 59 = true := by kernel_rfl
theorem Tryd.cb60 : callB Tryd.prog 60 = true := by kernel_rfl
theorem Tryd.cb61 : callB Tryd.prog 61 = true := by kernel_rfl
theorem Tryd.cb62 : callB Tryd.prog 62 = true := by kernel_rfl
theorem Tryd.cb63 : callB Tryd.prog 63 = true := by kernel_rfl
theorem Tryd.cb64 : callB Tryd.prog 64 = true := by kernel_rfl
theorem Tryd.cb65 : callB Tryd.prog 65 = true := by kernel_rfl
theorem Tryd.cb66 : callB Tryd.prog 66 = true := by kernel_rfl
theorem Tryd.cb67 : callB Tryd.prog 67 = true := by kernel_rfl
theorem Tryd.cb68 : callB Tryd.prog 68 = true := by kernel_rfl
theorem Tryd.cb69 : callB Tryd.prog 69 = true := by kernel_rfl
theorem Tryd.cb70 : callB Tryd.prog 70 = true := by kernel_rfl
theorem Tryd.cb71 : callB Tryd.prog 71 = true := by kernel_rfl
theorem Tryd.cb72 : callB Tryd.prog 72 = true := by kernel_rfl
theorem Tryd.cb73 : callB Tryd.prog 73 = true := by kernel_rfl
theorem Tryd.cb75 : callB Tryd.prog 75 = true := by kernel_rfl
theorem Tryd.cb76 : callB Tryd.prog 76 = true := by kernel_rfl
theorem Tryd.cb77 : callB Tryd.prog 77 = true := by kernel_rfl
theorem Tryd.cb78 : callB Tryd.prog 78 = true := by kernel_rfl
theorem Tryd.cb79 : callB Tryd.prog 79 = true := by kernel_rfl
theorem Tryd.cb80 : callB Tryd.prog 80 = true := by kernel_rfl
theorem Tryd.cb81 : callB Tryd.prog 81 = true := by kernel_rfl
theorem Tryd.cb82 : callB Tryd.prog 82 = true := by kernel_rfl
theorem Tryd.cb83 : callB Tryd.prog 83 = true := by kernel_rfl
theorem Tryd.cb84 : callB Tryd.prog 84 = true := by kernel_rfl
theorem Tryd.cb85 : callB Tryd.prog 85 = true := by kernel_rfl
theorem Tryd.cb86 : callB Tryd.prog 86 = true := by kernel_rfl
theorem Tryd.cb87 : callB Tryd.prog 87 = true := by kernel_rfl
theorem Tryd.cb88 : callB Tryd.prog 88 = true := by kernel_rfl
theorem Tryd.cb89 : callB Tryd.prog 89 = true := by kernel_rfl
theorem Tryd.cb90 : callB Tryd.prog 90 = true := by kernel_rfl
theorem Tryd.cb91 : callB Tryd.prog 91 = true := by kernel_rfl
theorem Tryd.cb92 : callB Tryd.prog 92 = true := by kernel_rfl
theorem Tryd.cb93 : callB Tryd.prog 93 = true := by kernel_rfl
theorem Tryd.cb94 : callB Tryd.prog 94 = true := by kernel_rfl
theorem Tryd.cb95 : callB Tryd.prog 95 = true := by kernel_rfl
theorem Tryd.cb96 : callB Tryd.prog 96 = true := by kernel_rfl
theorem Tryd.cb97 : callB Tryd.prog 97 = true := by kernel_rfl
theorem Tryd.cb98 : callB Tryd.prog 98 = true := by kernel_rfl
theorem Tryd.cb99 : callB Tryd.prog 99 = true := by kernel_rfl
theorem Tryd.cb100 : callB Tryd.prog 100 = true := by kernel_rfl
theorem Tryd.cb101 : callB Tryd.prog 101 = true := by kernel_rfl
theorem Tryd.cb102 : callB Tryd.prog 102 = true := by kernel_rfl
theorem Tryd.cb103 : callB Tryd.prog 103 = true := by kernel_rfl
theorem Tryd.cb104 : callB Tryd.prog 104 = true := by kernel_rfl
theorem Tryd.cb105 : callB Tryd.prog 105 = true := by kernel_rfl
theorem Tryd.cb106 : callB Tryd.prog 106 = true := by kernel_rfl
theorem Tryd.cb107 : callB Tryd.prog 107 = true := by kernel_rfl
theorem Tryd.cb108 : callB Tryd.prog 108 = true := by kernel_rfl
theorem Tryd.cb109 : callB Tryd.prog 109 = true := by kernel_rfl
theorem Tryd.cb110 : callB Tryd.prog 110 = true := by kernel_rfl
theorem Tryd.cb111 : callB Tryd.prog 111 = true := by kernel_rfl
theorem Tryd.cb112 : callB Tryd.prog 112 = true := by kernel_rfl
theorem Tryd.cb113 : callB Tryd.prog 113 = true := by kernel_rfl
theorem Tryd.cb115 : callB Tryd.prog 115 = true := by kernel_rfl
theorem Tryd.cb116 : callB Tryd.prog 116 = true := by kernel_rfl
theorem Tryd.cb117 : callB Tryd.prog 117 = true := by kernel_rfl
theorem Tryd.cb118 : callB Tryd.prog 118 = true := by kernel_rfl
theorem Tryd.cb119 : callB Tryd.prog 119 = true := by kernel_rfl
theorem Tryd.cb120 : callB Tryd.prog 120 = true := by kernel_rfl
theorem Tryd.cb144 : callB Tryd.prog 144 = true := by kernel_rfl
theorem Tryd.ag1 : aggB Tryd.prog 1 = some false := by kernel_rfl
theorem Tryd.cz1 : Tryd.prog.cellsOf 1 = 1 := by kernel_rfl
theorem Tryd.by1 : Tryd.prog.bytesOf 1 = 8 := by kernel_rfl
theorem Tryd.zb1 : zeroB Tryd.prog 1 = some [.nilFunc] := by kernel_rfl
theorem Tryd.ag2 : aggB Tryd.prog 2 = some false := by kernel_rfl
theorem Tryd.cz2 : Tryd.prog.cellsOf 2 = 1 := by kernel_rfl
theorem Tryd.by2 : Tryd.prog.bytesOf 2 = 8 := by kernel_rfl
theorem Tryd.zb2 : zeroB Tryd.prog 2 = some [.int .i64 0] := by kernel_rfl
theorem Tryd.ag3 : aggB Tryd.prog 3 = some false := by kernel_rfl
theorem Tryd.cz3 : Tryd.prog.cellsOf 3 = 1 := by kernel_rfl
theorem Tryd.by3 : Tryd.prog.bytesOf 3 = 8 := by kernel_rfl
theorem Tryd.zb3 : zeroB Tryd.prog 3 = some [.int .i64 0] := by kernel_rfl
theorem Tryd.ag4 : aggB Tryd.prog 4 = some false := by kernel_rfl
theorem Tryd.cz4 : Tryd.prog.cellsOf 4 = 1 := by kernel_rfl
theorem Tryd.by4 : Tryd.prog.bytesOf 4 = 1 := by kernel_rfl
theorem Tryd.zb4 : zeroB Tryd.prog 4 = some [.bool false] := by kernel_rfl
theorem Tryd.ag5 : aggB Tryd.prog 5 = some false := by kernel_rfl
theorem Tryd.cz5 : Tryd.prog.cellsOf 5 = 1 := by kernel_rfl
theorem Tryd.by5 : Tryd.prog.bytesOf 5 = 1 := by kernel_rfl
theorem Tryd.zb5 : zeroB Tryd.prog 5 = some [.int .u8 0] := by kernel_rfl
theorem Tryd.ag6 : aggB Tryd.prog 6 = some false := by kernel_rfl
theorem Tryd.cz6 : Tryd.prog.cellsOf 6 = 1 := by kernel_rfl
theorem Tryd.by6 : Tryd.prog.bytesOf 6 = 1 := by kernel_rfl
theorem Tryd.zb6 : zeroB Tryd.prog 6 = some [.int .u8 0] := by kernel_rfl
theorem Tryd.ag7 : aggB Tryd.prog 7 = some true := by kernel_rfl
theorem Tryd.cz7 : Tryd.prog.cellsOf 7 = 4 := by kernel_rfl
theorem Tryd.by7 : Tryd.prog.bytesOf 7 = 24 := by kernel_rfl
theorem Tryd.zb7 : zeroB Tryd.prog 7 = some [.int .i64 0, .int .i64 0, .bool false, .int .u8 0] := by kernel_rfl
theorem Tryd.pl7 : placesB Tryd.prog 7 = some [(0, 1), (1, 1), (2, 1), (3, 1)] := by kernel_rfl
theorem Tryd.fd7_0 : fieldB Tryd.prog 7 0 = some 0 := by kernel_rfl
theorem Tryd.fd7_1 : fieldB Tryd.prog 7 1 = some 1 := by kernel_rfl
theorem Tryd.fd7_2 : fieldB Tryd.prog 7 2 = some 2 := by kernel_rfl
theorem Tryd.fd7_3 : fieldB Tryd.prog 7 3 = some 3 := by kernel_rfl
theorem Tryd.ag8 : aggB Tryd.prog 8 = some true := by kernel_rfl
theorem Tryd.cz8 : Tryd.prog.cellsOf 8 = 4 := by kernel_rfl
theorem Tryd.by8 : Tryd.prog.bytesOf 8 = 24 := by kernel_rfl
theorem Tryd.zb8 : zeroB Tryd.prog 8 = some [.int .i64 0, .int .i64 0, .bool false, .int .u8 0] := by kernel_rfl
theorem Tryd.pl8 : placesB Tryd.prog 8 = some [(0, 1), (1, 1), (2, 1), (3, 1)] := by kernel_rfl
theorem Tryd.fd8_0 : fieldB Tryd.prog 8 0 = some 0 := by kernel_rfl
theorem Tryd.fd8_1 : fieldB Tryd.prog 8 1 = some 1 := by kernel_rfl
theorem Tryd.fd8_2 : fieldB Tryd.prog 8 2 = some 2 := by kernel_rfl
theorem Tryd.fd8_3 : fieldB Tryd.prog 8 3 = some 3 := by kernel_rfl
theorem Tryd.ag9 : aggB Tryd.prog 9 = some false := by kernel_rfl
theorem Tryd.cz9 : Tryd.prog.cellsOf 9 = 1 := by kernel_rfl
theorem Tryd.by9 : Tryd.prog.bytesOf 9 = 16 := by kernel_rfl
theorem Tryd.zb9 : zeroB Tryd.prog 9 = some [.string ⟨#[]⟩] := by kernel_rfl
theorem Tryd.ag10 : aggB Tryd.prog 10 = some false := by kernel_rfl
theorem Tryd.cz10 : Tryd.prog.cellsOf 10 = 1 := by kernel_rfl
theorem Tryd.by10 : Tryd.prog.bytesOf 10 = 16 := by kernel_rfl
theorem Tryd.zb10 : zeroB Tryd.prog 10 = some [.string ⟨#[]⟩] := by kernel_rfl
theorem Tryd.ag11 : aggB Tryd.prog 11 = some false := by kernel_rfl
theorem Tryd.cz11 : Tryd.prog.cellsOf 11 = 1 := by kernel_rfl
theorem Tryd.by11 : Tryd.prog.bytesOf 11 = 16 := by kernel_rfl
theorem Tryd.zb11 : zeroB Tryd.prog 11 = some [.string ⟨#[]⟩] := by kernel_rfl
theorem Tryd.ag12 : aggB Tryd.prog 12 = some false := by kernel_rfl
theorem Tryd.cz12 : Tryd.prog.cellsOf 12 = 1 := by kernel_rfl
theorem Tryd.by12 : Tryd.prog.bytesOf 12 = 8 := by kernel_rfl
theorem Tryd.zb12 : zeroB Tryd.prog 12 = some [.int .u64 0] := by kernel_rfl
theorem Tryd.ag13 : aggB Tryd.prog 13 = some true := by kernel_rfl
theorem Tryd.cz13 : Tryd.prog.cellsOf 13 = 2 := by kernel_rfl
theorem Tryd.by13 : Tryd.prog.bytesOf 13 = 24 := by kernel_rfl
theorem Tryd.zb13 : zeroB Tryd.prog 13 = some [.string ⟨#[]⟩, .int .u64 0] := by kernel_rfl
theorem Tryd.pl13 : placesB Tryd.prog 13 = some [(0, 1), (1, 1)] := by kernel_rfl
theorem Tryd.fd13_0 : fieldB Tryd.prog 13 0 = some 0 := by kernel_rfl
theorem Tryd.fd13_1 : fieldB Tryd.prog 13 1 = some 1 := by kernel_rfl
theorem Tryd.ag14 : aggB Tryd.prog 14 = some true := by kernel_rfl
theorem Tryd.cz14 : Tryd.prog.cellsOf 14 = 2 := by kernel_rfl
theorem Tryd.by14 : Tryd.prog.bytesOf 14 = 24 := by kernel_rfl
theorem Tryd.zb14 : zeroB Tryd.prog 14 = some [.string ⟨#[]⟩, .int .u64 0] := by kernel_rfl
theorem Tryd.pl14 : placesB Tryd.prog 14 = some [(0, 1), (1, 1)] := by kernel_rfl
theorem Tryd.fd14_0 : fieldB Tryd.prog 14 0 = some 0 := by kernel_rfl
theorem Tryd.fd14_1 : fieldB Tryd.prog 14 1 = some 1 := by kernel_rfl
theorem Tryd.ag15 : aggB Tryd.prog 15 = some false := by kernel_rfl
theorem Tryd.cz15 : Tryd.prog.cellsOf 15 = 1 := by kernel_rfl
theorem Tryd.by15 : Tryd.prog.bytesOf 15 = 8 := by kernel_rfl
theorem Tryd.zb15 : zeroB Tryd.prog 15 = some [.pointer none] := by kernel_rfl
theorem Tryd.ag16 : aggB Tryd.prog 16 = some false := by kernel_rfl
theorem Tryd.cz16 : Tryd.prog.cellsOf 16 = 1 := by kernel_rfl
theorem Tryd.by16 : Tryd.prog.bytesOf 16 = 8 := by kernel_rfl
theorem Tryd.zb16 : zeroB Tryd.prog 16 = some [.pointer none] := by kernel_rfl
theorem Tryd.ag17 : aggB Tryd.prog 17 = some false := by kernel_rfl
theorem Tryd.cz17 : Tryd.prog.cellsOf 17 = 1 := by kernel_rfl
theorem Tryd.by17 : Tryd.prog.bytesOf 17 = 8 := by kernel_rfl
theorem Tryd.zb17 : zeroB Tryd.prog 17 = some [.pointer none] := by kernel_rfl
theorem Tryd.ag18 : aggB Tryd.prog 18 = some true := by kernel_rfl
theorem Tryd.cz18 : Tryd.prog.cellsOf 18 = 1 := by kernel_rfl
theorem Tryd.by18 : Tryd.prog.bytesOf 18 = 8 := by kernel_rfl
theorem Tryd.zb18 : zeroB Tryd.prog 18 = some [.pointer none] := by kernel_rfl
theorem Tryd.pl18 : placesB Tryd.prog 18 = some [(0, 1)] := by kernel_rfl
theorem Tryd.fd18_0 : fieldB Tryd.prog 18 0 = some 0 := by kernel_rfl
theorem Tryd.ag19 : aggB Tryd.prog 19 = some true := by kernel_rfl
theorem Tryd.cz19 : Tryd.prog.cellsOf 19 = 1 := by kernel_rfl
theorem Tryd.by19 : Tryd.prog.bytesOf 19 = 8 := by kernel_rfl
theorem Tryd.zb19 : zeroB Tryd.prog 19 = some [.pointer none] := by kernel_rfl
theorem Tryd.pl19 : placesB Tryd.prog 19 = some [(0, 1)] := by kernel_rfl
theorem Tryd.fd19_0 : fieldB Tryd.prog 19 0 = some 0 := by kernel_rfl
theorem Tryd.ag20 : aggB Tryd.prog 20 = some false := by kernel_rfl
theorem Tryd.cz20 : Tryd.prog.cellsOf 20 = 1 := by kernel_rfl
theorem Tryd.by20 : Tryd.prog.bytesOf 20 = 16 := by kernel_rfl
theorem Tryd.zb20 : zeroB Tryd.prog 20 = some [.nilIface] := by kernel_rfl
theorem Tryd.ag21 : aggB Tryd.prog 21 = some false := by kernel_rfl
theorem Tryd.cz21 : Tryd.prog.cellsOf 21 = 1 := by kernel_rfl
theorem Tryd.by21 : Tryd.prog.bytesOf 21 = 4 := by kernel_rfl
theorem Tryd.zb21 : zeroB Tryd.prog 21 = some [.int .i32 0] := by kernel_rfl
theorem Tryd.ag22 : aggB Tryd.prog 22 = some false := by kernel_rfl
theorem Tryd.cz22 : Tryd.prog.cellsOf 22 = 1 := by kernel_rfl
theorem Tryd.by22 : Tryd.prog.bytesOf 22 = 24 := by kernel_rfl
theorem Tryd.zb22 : zeroB Tryd.prog 22 = some [.slice none 0 0] := by kernel_rfl
theorem Tryd.ag23 : aggB Tryd.prog 23 = some false := by kernel_rfl
theorem Tryd.cz23 : Tryd.prog.cellsOf 23 = 1 := by kernel_rfl
theorem Tryd.by23 : Tryd.prog.bytesOf 23 = 8 := by kernel_rfl
theorem Tryd.zb23 : zeroB Tryd.prog 23 = some [.nilFunc] := by kernel_rfl
theorem Tryd.ag24 : aggB Tryd.prog 24 = some false := by kernel_rfl
theorem Tryd.cz24 : Tryd.prog.cellsOf 24 = 1 := by kernel_rfl
theorem Tryd.by24 : Tryd.prog.bytesOf 24 = 8 := by kernel_rfl
theorem Tryd.zb24 : zeroB Tryd.prog 24 = some [.pointer none] := by kernel_rfl
theorem Tryd.ag25 : aggB Tryd.prog 25 = some false := by kernel_rfl
theorem Tryd.cz25 : Tryd.prog.cellsOf 25 = 1 := by kernel_rfl
theorem Tryd.by25 : Tryd.prog.bytesOf 25 = 8 := by kernel_rfl
theorem Tryd.zb25 : zeroB Tryd.prog 25 = some [.int .i64 0] := by kernel_rfl
theorem Tryd.ag27 : aggB Tryd.prog 27 = some false := by kernel_rfl
theorem Tryd.cz27 : Tryd.prog.cellsOf 27 = 1 := by kernel_rfl
theorem Tryd.by27 : Tryd.prog.bytesOf 27 = 8 := by kernel_rfl
theorem Tryd.zb27 : zeroB Tryd.prog 27 = some [.nilFunc] := by kernel_rfl
theorem Tryd.ag28 : aggB Tryd.prog 28 = some false := by kernel_rfl
theorem Tryd.cz28 : Tryd.prog.cellsOf 28 = 1 := by kernel_rfl
theorem Tryd.by28 : Tryd.prog.bytesOf 28 = 8 := by kernel_rfl
theorem Tryd.zb28 : zeroB Tryd.prog 28 = some [.pointer none] := by kernel_rfl
theorem Tryd.ag30 : aggB Tryd.prog 30 = some false := by kernel_rfl
theorem Tryd.cz30 : Tryd.prog.cellsOf 30 = 1 := by kernel_rfl
theorem Tryd.by30 : Tryd.prog.bytesOf 30 = 8 := by kernel_rfl
theorem Tryd.zb30 : zeroB Tryd.prog 30 = some [.nilFunc] := by kernel_rfl
theorem Tryd.ag31 : aggB Tryd.prog 31 = some false := by kernel_rfl
theorem Tryd.cz31 : Tryd.prog.cellsOf 31 = 1 := by kernel_rfl
theorem Tryd.by31 : Tryd.prog.bytesOf 31 = 8 := by kernel_rfl
theorem Tryd.zb31 : zeroB Tryd.prog 31 = some [.pointer none] := by kernel_rfl
theorem Tryd.ag33 : aggB Tryd.prog 33 = some false := by kernel_rfl
theorem Tryd.cz33 : Tryd.prog.cellsOf 33 = 1 := by kernel_rfl
theorem Tryd.by33 : Tryd.prog.bytesOf 33 = 8 := by kernel_rfl
theorem Tryd.zb33 : zeroB Tryd.prog 33 = some [.nilFunc] := by kernel_rfl
theorem Tryd.ag34 : aggB Tryd.prog 34 = some false := by kernel_rfl
theorem Tryd.cz34 : Tryd.prog.cellsOf 34 = 1 := by kernel_rfl
theorem Tryd.by34 : Tryd.prog.bytesOf 34 = 8 := by kernel_rfl
theorem Tryd.zb34 : zeroB Tryd.prog 34 = some [.nilFunc] := by kernel_rfl
theorem Tryd.ag35 : aggB Tryd.prog 35 = some false := by kernel_rfl
theorem Tryd.cz35 : Tryd.prog.cellsOf 35 = 1 := by kernel_rfl
theorem Tryd.by35 : Tryd.prog.bytesOf 35 = 8 := by kernel_rfl
theorem Tryd.zb35 : zeroB Tryd.prog 35 = some [.nilFunc] := by kernel_rfl
theorem Tryd.ag36 : aggB Tryd.prog 36 = some false := by kernel_rfl
theorem Tryd.cz36 : Tryd.prog.cellsOf 36 = 1 := by kernel_rfl
theorem Tryd.by36 : Tryd.prog.bytesOf 36 = 8 := by kernel_rfl
theorem Tryd.zb36 : zeroB Tryd.prog 36 = some [.nilFunc] := by kernel_rfl
theorem Tryd.ag37 : aggB Tryd.prog 37 = some false := by kernel_rfl
theorem Tryd.cz37 : Tryd.prog.cellsOf 37 = 1 := by kernel_rfl
theorem Tryd.by37 : Tryd.prog.bytesOf 37 = 8 := by kernel_rfl
theorem Tryd.zb37 : zeroB Tryd.prog 37 = some [.nilFunc] := by kernel_rfl
theorem Tryd.ag38 : aggB Tryd.prog 38 = some false := by kernel_rfl
theorem Tryd.cz38 : Tryd.prog.cellsOf 38 = 1 := by kernel_rfl
theorem Tryd.by38 : Tryd.prog.bytesOf 38 = 2 := by kernel_rfl
theorem Tryd.zb38 : zeroB Tryd.prog 38 = some [.int .u16 0] := by kernel_rfl
theorem Tryd.ag39 : aggB Tryd.prog 39 = some false := by kernel_rfl
theorem Tryd.cz39 : Tryd.prog.cellsOf 39 = 1 := by kernel_rfl
theorem Tryd.by39 : Tryd.prog.bytesOf 39 = 8 := by kernel_rfl
theorem Tryd.zb39 : zeroB Tryd.prog 39 = some [.pointer none] := by kernel_rfl
theorem Tryd.ag41 : aggB Tryd.prog 41 = some false := by kernel_rfl
theorem Tryd.cz41 : Tryd.prog.cellsOf 41 = 1 := by kernel_rfl
theorem Tryd.by41 : Tryd.prog.bytesOf 41 = 8 := by kernel_rfl
theorem Tryd.zb41 : zeroB Tryd.prog 41 = some [.nilFunc] := by kernel_rfl
theorem Tryd.ag42 : aggB Tryd.prog 42 = some false := by kernel_rfl
theorem Tryd.cz42 : Tryd.prog.cellsOf 42 = 1 := by kernel_rfl
theorem Tryd.by42 : Tryd.prog.bytesOf 42 = 8 := by kernel_rfl
theorem Tryd.zb42 : zeroB Tryd.prog 42 = some [.nilFunc] := by kernel_rfl
theorem Tryd.ag43 : aggB Tryd.prog 43 = some false := by kernel_rfl
theorem Tryd.cz43 : Tryd.prog.cellsOf 43 = 1 := by kernel_rfl
theorem Tryd.by43 : Tryd.prog.bytesOf 43 = 8 := by kernel_rfl
theorem Tryd.zb43 : zeroB Tryd.prog 43 = some [.int .i64 0] := by kernel_rfl
theorem Tryd.ag45 : aggB Tryd.prog 45 = some false := by kernel_rfl
theorem Tryd.cz45 : Tryd.prog.cellsOf 45 = 1 := by kernel_rfl
theorem Tryd.by45 : Tryd.prog.bytesOf 45 = 8 := by kernel_rfl
theorem Tryd.zb45 : zeroB Tryd.prog 45 = some [.nilFunc] := by kernel_rfl
theorem Tryd.ag46 : aggB Tryd.prog 46 = some false := by kernel_rfl
theorem Tryd.cz46 : Tryd.prog.cellsOf 46 = 1 := by kernel_rfl
theorem Tryd.by46 : Tryd.prog.bytesOf 46 = 8 := by kernel_rfl
theorem Tryd.zb46 : zeroB Tryd.prog 46 = some [.int .u64 0] := by kernel_rfl
theorem Tryd.ag48 : aggB Tryd.prog 48 = some false := by kernel_rfl
theorem Tryd.cz48 : Tryd.prog.cellsOf 48 = 1 := by kernel_rfl
theorem Tryd.by48 : Tryd.prog.bytesOf 48 = 8 := by kernel_rfl
theorem Tryd.zb48 : zeroB Tryd.prog 48 = some [.nilFunc] := by kernel_rfl
theorem Tryd.ag50 : aggB Tryd.prog 50 = some false := by kernel_rfl
theorem Tryd.cz50 : Tryd.prog.cellsOf 50 = 1 := by kernel_rfl
theorem Tryd.by50 : Tryd.prog.bytesOf 50 = 8 := by kernel_rfl
theorem Tryd.zb50 : zeroB Tryd.prog 50 = some [.nilFunc] := by kernel_rfl
theorem Tryd.ag51 : aggB Tryd.prog 51 = some false := by kernel_rfl
theorem Tryd.cz51 : Tryd.prog.cellsOf 51 = 1 := by kernel_rfl
theorem Tryd.by51 : Tryd.prog.bytesOf 51 = 8 := by kernel_rfl
theorem Tryd.zb51 : zeroB Tryd.prog 51 = some [.nilFunc] := by kernel_rfl
theorem Tryd.ag52 : aggB Tryd.prog 52 = some false := by kernel_rfl
theorem Tryd.cz52 : Tryd.prog.cellsOf 52 = 1 := by kernel_rfl
theorem Tryd.by52 : Tryd.prog.bytesOf 52 = 8 := by kernel_rfl
theorem Tryd.zb52 : zeroB Tryd.prog 52 = some [.nilFunc] := by kernel_rfl
theorem Tryd.ag53 : aggB Tryd.prog 53 = some false := by kernel_rfl
theorem Tryd.cz53 : Tryd.prog.cellsOf 53 = 1 := by kernel_rfl
theorem Tryd.by53 : Tryd.prog.bytesOf 53 = 8 := by kernel_rfl
theorem Tryd.zb53 : zeroB Tryd.prog 53 = some [.nilFunc] := by kernel_rfl
theorem Tryd.ag54 : aggB Tryd.prog 54 = some false := by kernel_rfl
theorem Tryd.cz54 : Tryd.prog.cellsOf 54 = 1 := by kernel_rfl
theorem Tryd.by54 : Tryd.prog.bytesOf 54 = 8 := by kernel_rfl
theorem Tryd.zb54 : zeroB Tryd.prog 54 = some [.nilFunc] := by kernel_rfl
theorem Tryd.ag55 : aggB Tryd.prog 55 = some false := by kernel_rfl
theorem Tryd.cz55 : Tryd.prog.cellsOf 55 = 1 := by kernel_rfl
theorem Tryd.by55 : Tryd.prog.bytesOf 55 = 8 := by kernel_rfl
theorem Tryd.zb55 : zeroB Tryd.prog 55 = some [.nilFunc] := by kernel_rfl
theorem Tryd.ag56 : aggB Tryd.prog 56 = some false := by kernel_rfl
theorem Tryd.cz56 : Tryd.prog.cellsOf 56 = 1 := by kernel_rfl
theorem Tryd.by56 : Tryd.prog.bytesOf 56 = 8 := by kernel_rfl
theorem Tryd.zb56 : zeroB Tryd.prog 56 = some [.nilFunc] := by kernel_rfl
theorem Tryd.ag57 : aggB Tryd.prog 57 = some false := by kernel_rfl
theorem Tryd.cz57 : Tryd.prog.cellsOf 57 = 1 := by kernel_rfl
theorem Tryd.by57 : Tryd.prog.bytesOf 57 = 8 := by kernel_rfl
theorem Tryd.zb57 : zeroB Tryd.prog 57 = some [.nilFunc] := by kernel_rfl
theorem Tryd.ag58 : aggB Tryd.prog 58 = some true := by kernel_rfl
theorem Tryd.cz58 : Tryd.prog.cellsOf 58 = 2 := by kernel_rfl
theorem Tryd.by58 : Tryd.prog.bytesOf 58 = 2 := by kernel_rfl
theorem Tryd.zb58 : zeroB Tryd.prog 58 = some [.int .u8 0, .int .u8 0] := by kernel_rfl
theorem Tryd.ar58 : arrB Tryd.prog 58 = some (2, 1) := by kernel_rfl
theorem Tryd.ag59 : aggB Tryd.prog 59 = some false := by kernel_rfl
theorem Tryd.cz59 : Tryd.prog.cellsOf 59 = 1 := by kernel_rfl
theorem Tryd.by59 : Tryd.prog.bytesOf 59 = 24 := by kernel_rfl
theorem Tryd.zb59 : zeroB Tryd.prog 59 = some [.slice none 0 0] := by kernel_rfl
theorem Tryd.ag60 : aggB Tryd.prog 60 = some true := by kernel_rfl
theorem Tryd.cz60 : Tryd.prog.cellsOf 60 = 2 := by kernel_rfl
theorem Tryd.by60 : Tryd.prog.bytesOf 60 = 16 := by kernel_rfl
theorem Tryd.zb60 : zeroB Tryd.prog 60 = some [.pointer none, .pointer none] := by kernel_rfl
theorem Tryd.ar60 : arrB Tryd.prog 60 = some (2, 1) := by kernel_rfl
theorem Tryd.ag61 : aggB Tryd.prog 61 = some false := by kernel_rfl
theorem Tryd.cz61 : Tryd.prog.cellsOf 61 = 1 := by kernel_rfl
theorem Tryd.by61 : Tryd.prog.bytesOf 61 = 24 := by kernel_rfl
theorem Tryd.zb61 : zeroB Tryd.prog 61 = some [.slice none 0 0] := by kernel_rfl
theorem Tryd.ag62 : aggB Tryd.prog 62 = some true := by kernel_rfl
theorem Tryd.cz62 : Tryd.prog.cellsOf 62 = 3 := by kernel_rfl
theorem Tryd.by62 : Tryd.prog.bytesOf 62 = 40 := by kernel_rfl
theorem Tryd.zb62 : zeroB Tryd.prog 62 = some [.int .i64 0, .int .i64 0, .slice none 0 0] := by kernel_rfl
theorem Tryd.pl62 : placesB Tryd.prog 62 = some [(0, 1), (1, 1), (2, 1)] := by kernel_rfl
theorem Tryd.fd62_0 : fieldB Tryd.prog 62 0 = some 0 := by kernel_rfl
theorem Tryd.fd62_1 : fieldB Tryd.prog 62 1 = some 1 := by kernel_rfl
theorem Tryd.fd62_2 : fieldB Tryd.prog 62 2 = some 2 := by kernel_rfl
theorem Tryd.ag63 : aggB Tryd.prog 63 = some true := by kernel_rfl
theorem Tryd.cz63 : Tryd.prog.cellsOf 63 = 3 := by kernel_rfl
theorem Tryd.by63 : Tryd.prog.bytesOf 63 = 40 := by kernel_rfl
theorem Tryd.zb63 : zeroB Tryd.prog 63 = some [.int .i64 0, .int .i64 0, .slice none 0 0] := by kernel_rfl
theorem Tryd.pl63 : placesB Tryd.prog 63 = some [(0, 1), (1, 1), (2, 1)] := by kernel_rfl
theorem Tryd.sh63 : Tryd.prog.stoodInHeld 63 = false := by kernel_rfl
theorem Tryd.eg63 : Tryd.prog.eqGuardType Tryd.prog.depth 63 = false := by kernel_rfl
theorem Tryd.fd63_0 : fieldB Tryd.prog 63 0 = some 0 := by kernel_rfl
theorem Tryd.fd63_1 : fieldB Tryd.prog 63 1 = some 1 := by kernel_rfl
theorem Tryd.fd63_2 : fieldB Tryd.prog 63 2 = some 2 := by kernel_rfl
theorem Tryd.ag64 : aggB Tryd.prog 64 = some true := by kernel_rfl
theorem Tryd.cz64 : Tryd.prog.cellsOf 64 = 6 := by kernel_rfl
theorem Tryd.by64 : Tryd.prog.bytesOf 64 = 80 := by kernel_rfl
theorem Tryd.zb64 : zeroB Tryd.prog 64 = some [.int .i64 0, .int .i64 0, .slice none 0 0, .int .i64 0, .int .i64 0, .slice none 0 0] := by kernel_rfl
theorem Tryd.ar64 : arrB Tryd.prog 64 = some (2, 3) := by kernel_rfl
theorem Tryd.ag65 : aggB Tryd.prog 65 = some true := by kernel_rfl
theorem Tryd.cz65 : Tryd.prog.cellsOf 65 = 7 := by kernel_rfl
theorem Tryd.by65 : Tryd.prog.bytesOf 65 = 56 := by kernel_rfl
theorem Tryd.zb65 : zeroB Tryd.prog 65 = some [.int .u8 0, .bool false, .bool false, .int .u64 0, .int .u64 0, .int .i64 0, .slice none 0 0] := by kernel_rfl
theorem Tryd.pl65 : placesB Tryd.prog 65 = some [(0, 1), (1, 1), (2, 1), (3, 1), (4, 1), (5, 1), (6, 1)] := by kernel_rfl
theorem Tryd.fd65_0 : fieldB Tryd.prog 65 0 = some 0 := by kernel_rfl
theorem Tryd.fd65_1 : fieldB Tryd.prog 65 1 = some 1 := by kernel_rfl
theorem Tryd.fd65_2 : fieldB Tryd.prog 65 2 = some 2 := by kernel_rfl
theorem Tryd.fd65_3 : fieldB Tryd.prog 65 3 = some 3 := by kernel_rfl
theorem Tryd.fd65_4 : fieldB Tryd.prog 65 4 = some 4 := by kernel_rfl
theorem Tryd.fd65_5 : fieldB Tryd.prog 65 5 = some 5 := by kernel_rfl
theorem Tryd.fd65_6 : fieldB Tryd.prog 65 6 = some 6 := by kernel_rfl
theorem Tryd.ag66 : aggB Tryd.prog 66 = some true := by kernel_rfl
theorem Tryd.cz66 : Tryd.prog.cellsOf 66 = 7 := by kernel_rfl
theorem Tryd.by66 : Tryd.prog.bytesOf 66 = 56 := by kernel_rfl
theorem Tryd.zb66 : zeroB Tryd.prog 66 = some [.int .u8 0, .bool false, .bool false, .int .u64 0, .int .u64 0, .int .i64 0, .slice none 0 0] := by kernel_rfl
theorem Tryd.pl66 : placesB Tryd.prog 66 = some [(0, 1), (1, 1), (2, 1), (3, 1), (4, 1), (5, 1), (6, 1)] := by kernel_rfl
theorem Tryd.sh66 : Tryd.prog.stoodInHeld 66 = false := by kernel_rfl
theorem Tryd.eg66 : Tryd.prog.eqGuardType Tryd.prog.depth 66 = false := by kernel_rfl
theorem Tryd.fd66_0 : fieldB Tryd.prog 66 0 = some 0 := by kernel_rfl
theorem Tryd.fd66_1 : fieldB Tryd.prog 66 1 = some 1 := by kernel_rfl
theorem Tryd.fd66_2 : fieldB Tryd.prog 66 2 = some 2 := by kernel_rfl
theorem Tryd.fd66_3 : fieldB Tryd.prog 66 3 = some 3 := by kernel_rfl
theorem Tryd.fd66_4 : fieldB Tryd.prog 66 4 = some 4 := by kernel_rfl
theorem Tryd.fd66_5 : fieldB Tryd.prog 66 5 = some 5 := by kernel_rfl
theorem Tryd.fd66_6 : fieldB Tryd.prog 66 6 = some 6 := by kernel_rfl
theorem Tryd.ag67 : aggB Tryd.prog 67 = some false := by kernel_rfl
theorem Tryd.cz67 : Tryd.prog.cellsOf 67 = 1 := by kernel_rfl
theorem Tryd.by67 : Tryd.prog.bytesOf 67 = 8 := by kernel_rfl
theorem Tryd.zb67 : zeroB Tryd.prog 67 = some [.nilFunc] := by kernel_rfl
theorem Tryd.ag68 : aggB Tryd.prog 68 = some false := by kernel_rfl
theorem Tryd.cz68 : Tryd.prog.cellsOf 68 = 1 := by kernel_rfl
theorem Tryd.by68 : Tryd.prog.bytesOf 68 = 8 := by kernel_rfl
theorem Tryd.zb68 : zeroB Tryd.prog 68 = some [.nilFunc] := by kernel_rfl
theorem Tryd.ag69 : aggB Tryd.prog 69 = some false := by kernel_rfl
theorem Tryd.cz69 : Tryd.prog.cellsOf 69 = 1 := by kernel_rfl
theorem Tryd.by69 : Tryd.prog.bytesOf 69 = 8 := by kernel_rfl
theorem Tryd.zb69 : zeroB Tryd.prog 69 = some [.nilFunc] := by kernel_rfl
theorem Tryd.ag70 : aggB Tryd.prog 70 = some false := by kernel_rfl
theorem Tryd.cz70 : Tryd.prog.cellsOf 70 = 1 := by kernel_rfl
theorem Tryd.by70 : Tryd.prog.bytesOf 70 = 8 := by kernel_rfl
theorem Tryd.zb70 : zeroB Tryd.prog 70 = some [.nilFunc] := by kernel_rfl
theorem Tryd.ag72 : aggB Tryd.prog 72 = some false := by kernel_rfl
theorem Tryd.cz72 : Tryd.prog.cellsOf 72 = 1 := by kernel_rfl
theorem Tryd.by72 : Tryd.prog.bytesOf 72 = 8 := by kernel_rfl
theorem Tryd.zb72 : zeroB Tryd.prog 72 = some [.nilFunc] := by kernel_rfl
theorem Tryd.ag73 : aggB Tryd.prog 73 = some false := by kernel_rfl
theorem Tryd.cz73 : Tryd.prog.cellsOf 73 = 1 := by kernel_rfl
theorem Tryd.by73 : Tryd.prog.bytesOf 73 = 8 := by kernel_rfl
theorem Tryd.zb73 : zeroB Tryd.prog 73 = some [.nilFunc] := by kernel_rfl
theorem Tryd.ag74 : aggB Tryd.prog 74 = some false := by kernel_rfl
theorem Tryd.cz74 : Tryd.prog.cellsOf 74 = 1 := by kernel_rfl
theorem Tryd.by74 : Tryd.prog.bytesOf 74 = 24 := by kernel_rfl
theorem Tryd.zb74 : zeroB Tryd.prog 74 = some [.slice none 0 0] := by kernel_rfl
theorem Tryd.ag75 : aggB Tryd.prog 75 = some true := by kernel_rfl
theorem Tryd.cz75 : Tryd.prog.cellsOf 75 = 6 := by kernel_rfl
theorem Tryd.by75 : Tryd.prog.bytesOf 75 = 64 := by kernel_rfl
theorem Tryd.zb75 : zeroB Tryd.prog 75 = some [.int .u8 0, .int .i64 0, .int .i64 0, .int .i64 0, .int .i64 0, .slice none 0 0] := by kernel_rfl
theorem Tryd.pl75 : placesB Tryd.prog 75 = some [(0, 1), (1, 1), (2, 1), (3, 1), (4, 1), (5, 1)] := by kernel_rfl
theorem Tryd.fd75_0 : fieldB Tryd.prog 75 0 = some 0 := by kernel_rfl
theorem Tryd.fd75_1 : fieldB Tryd.prog 75 1 = some 1 := by kernel_rfl
theorem Tryd.fd75_2 : fieldB Tryd.prog 75 2 = some 2 := by kernel_rfl
theorem Tryd.fd75_3 : fieldB Tryd.prog 75 3 = some 3 := by kernel_rfl
theorem Tryd.fd75_4 : fieldB Tryd.prog 75 4 = some 4 := by kernel_rfl
theorem Tryd.fd75_5 : fieldB Tryd.prog 75 5 = some 5 := by kernel_rfl
theorem Tryd.ag76 : aggB Tryd.prog 76 = some true := by kernel_rfl
theorem Tryd.cz76 : Tryd.prog.cellsOf 76 = 6 := by kernel_rfl
theorem Tryd.by76 : Tryd.prog.bytesOf 76 = 64 := by kernel_rfl
theorem Tryd.zb76 : zeroB Tryd.prog 76 = some [.int .u8 0, .int .i64 0, .int .i64 0, .int .i64 0, .int .i64 0, .slice none 0 0] := by kernel_rfl
theorem Tryd.pl76 : placesB Tryd.prog 76 = some [(0, 1), (1, 1), (2, 1), (3, 1), (4, 1), (5, 1)] := by kernel_rfl
theorem Tryd.sh76 : Tryd.prog.stoodInHeld 76 = false := by kernel_rfl
theorem Tryd.eg76 : Tryd.prog.eqGuardType Tryd.prog.depth 76 = false := by kernel_rfl
theorem Tryd.fd76_0 : fieldB Tryd.prog 76 0 = some 0 := by kernel_rfl
theorem Tryd.fd76_1 : fieldB Tryd.prog 76 1 = some 1 := by kernel_rfl
theorem Tryd.fd76_2 : fieldB Tryd.prog 76 2 = some 2 := by kernel_rfl
theorem Tryd.fd76_3 : fieldB Tryd.prog 76 3 = some 3 := by kernel_rfl
theorem Tryd.fd76_4 : fieldB Tryd.prog 76 4 = some 4 := by kernel_rfl
theorem Tryd.fd76_5 : fieldB Tryd.prog 76 5 = some 5 := by kernel_rfl
theorem Tryd.ag78 : aggB Tryd.prog 78 = some false := by kernel_rfl
theorem Tryd.cz78 : Tryd.prog.cellsOf 78 = 1 := by kernel_rfl
theorem Tryd.by78 : Tryd.prog.bytesOf 78 = 8 := by kernel_rfl
theorem Tryd.zb78 : zeroB Tryd.prog 78 = some [.nilFunc] := by kernel_rfl
theorem Tryd.ag79 : aggB Tryd.prog 79 = some false := by kernel_rfl
theorem Tryd.cz79 : Tryd.prog.cellsOf 79 = 1 := by kernel_rfl
theorem Tryd.by79 : Tryd.prog.bytesOf 79 = 8 := by kernel_rfl
theorem Tryd.zb79 : zeroB Tryd.prog 79 = some [.nilFunc] := by kernel_rfl
theorem Tryd.ag80 : aggB Tryd.prog 80 = some false := by kernel_rfl
theorem Tryd.cz80 : Tryd.prog.cellsOf 80 = 1 := by kernel_rfl
theorem Tryd.by80 : Tryd.prog.bytesOf 80 = 8 := by kernel_rfl
theorem Tryd.zb80 : zeroB Tryd.prog 80 = some [.nilFunc] := by kernel_rfl
theorem Tryd.ag81 : aggB Tryd.prog 81 = some false := by kernel_rfl
theorem Tryd.cz81 : Tryd.prog.cellsOf 81 = 1 := by kernel_rfl
theorem Tryd.by81 : Tryd.prog.bytesOf 81 = 8 := by kernel_rfl
theorem Tryd.zb81 : zeroB Tryd.prog 81 = some [.map none] := by kernel_rfl
theorem Tryd.ag82 : aggB Tryd.prog 82 = some false := by kernel_rfl
theorem Tryd.cz82 : Tryd.prog.cellsOf 82 = 1 := by kernel_rfl
theorem Tryd.by82 : Tryd.prog.bytesOf 82 = 8 := by kernel_rfl
theorem Tryd.zb82 : zeroB Tryd.prog 82 = some [.map none] := by kernel_rfl
theorem Tryd.ag83 : aggB Tryd.prog 83 = some true := by kernel_rfl
theorem Tryd.cz83 : Tryd.prog.cellsOf 83 = 5 := by kernel_rfl
theorem Tryd.by83 : Tryd.prog.bytesOf 83 = 56 := by kernel_rfl
theorem Tryd.zb83 : zeroB Tryd.prog 83 = some [.slice none 0 0, .int .i64 0, .int .i64 0, .map none, .map none] := by kernel_rfl
theorem Tryd.pl83 : placesB Tryd.prog 83 = some [(0, 1), (1, 1), (2, 1), (3, 1), (4, 1)] := by kernel_rfl
theorem Tryd.fd83_0 : fieldB Tryd.prog 83 0 = some 0 := by kernel_rfl
theorem Tryd.fd83_1 : fieldB Tryd.prog 83 1 = some 1 := by kernel_rfl
theorem Tryd.fd83_2 : fieldB Tryd.prog 83 2 = some 2 := by kernel_rfl
theorem Tryd.fd83_3 : fieldB Tryd.prog 83 3 = some 3 := by kernel_rfl
theorem Tryd.fd83_4 : fieldB Tryd.prog 83 4 = some 4 := by kernel_rfl
theorem Tryd.ag84 : aggB Tryd.prog 84 = some true := by kernel_rfl
theorem Tryd.cz84 : Tryd.prog.cellsOf 84 = 5 := by kernel_rfl
theorem Tryd.by84 : Tryd.prog.bytesOf 84 = 56 := by kernel_rfl
theorem Tryd.zb84 : zeroB Tryd.prog 84 = some [.slice none 0 0, .int .i64 0, .int .i64 0, .map none, .map none] := by kernel_rfl
theorem Tryd.pl84 : placesB Tryd.prog 84 = some [(0, 1), (1, 1), (2, 1), (3, 1), (4, 1)] := by kernel_rfl
theorem Tryd.sh84 : Tryd.prog.stoodInHeld 84 = false := by kernel_rfl
theorem Tryd.eg84 : Tryd.prog.eqGuardType Tryd.prog.depth 84 = false := by kernel_rfl
theorem Tryd.fd84_0 : fieldB Tryd.prog 84 0 = some 0 := by kernel_rfl
theorem Tryd.fd84_1 : fieldB Tryd.prog 84 1 = some 1 := by kernel_rfl
theorem Tryd.fd84_2 : fieldB Tryd.prog 84 2 = some 2 := by kernel_rfl
theorem Tryd.fd84_3 : fieldB Tryd.prog 84 3 = some 3 := by kernel_rfl
theorem Tryd.fd84_4 : fieldB Tryd.prog 84 4 = some 4 := by kernel_rfl
theorem Tryd.ag85 : aggB Tryd.prog 85 = some false := by kernel_rfl
theorem Tryd.cz85 : Tryd.prog.cellsOf 85 = 1 := by kernel_rfl
theorem Tryd.by85 : Tryd.prog.bytesOf 85 = 8 := by kernel_rfl
theorem Tryd.zb85 : zeroB Tryd.prog 85 = some [.map none] := by kernel_rfl
theorem Tryd.ag86 : aggB Tryd.prog 86 = some true := by kernel_rfl
theorem Tryd.cz86 : Tryd.prog.cellsOf 86 = 0 := by kernel_rfl
theorem Tryd.zb86 : zeroB Tryd.prog 86 = some [] := by kernel_rfl
theorem Tryd.pl86 : placesB Tryd.prog 86 = some [] := by kernel_rfl
theorem Tryd.ag87 : aggB Tryd.prog 87 = some true := by kernel_rfl
theorem Tryd.cz87 : Tryd.prog.cellsOf 87 = 0 := by kernel_rfl
theorem Tryd.zb87 : zeroB Tryd.prog 87 = some [] := by kernel_rfl
theorem Tryd.pl87 : placesB Tryd.prog 87 = some [] := by kernel_rfl
theorem Tryd.ag88 : aggB Tryd.prog 88 = some true := by kernel_rfl
theorem Tryd.cz88 : Tryd.prog.cellsOf 88 = 0 := by kernel_rfl
theorem Tryd.zb88 : zeroB Tryd.prog 88 = some [] := by kernel_rfl
theorem Tryd.pl88 : placesB Tryd.prog 88 = some [] := by kernel_rfl
theorem Tryd.ag89 : aggB Tryd.prog 89 = some true := by kernel_rfl
theorem Tryd.cz89 : Tryd.prog.cellsOf 89 = 1 := by kernel_rfl
theorem Tryd.by89 : Tryd.prog.bytesOf 89 = 8 := by kernel_rfl
theorem Tryd.zb89 : zeroB Tryd.prog 89 = some [.int .i64 0] := by kernel_rfl
theorem Tryd.fd89_2 : fieldB Tryd.prog 89 2 = some 0 := by kernel_rfl
theorem Tryd.ag90 : aggB Tryd.prog 90 = some true := by kernel_rfl
theorem Tryd.cz90 : Tryd.prog.cellsOf 90 = 1 := by kernel_rfl
theorem Tryd.by90 : Tryd.prog.bytesOf 90 = 8 := by kernel_rfl
theorem Tryd.zb90 : zeroB Tryd.prog 90 = some [.int .i64 0] := by kernel_rfl
theorem Tryd.sh90 : Tryd.prog.stoodInHeld 90 = false := by kernel_rfl
theorem Tryd.eg90 : Tryd.prog.eqGuardType Tryd.prog.depth 90 = false := by kernel_rfl
theorem Tryd.fd90_2 : fieldB Tryd.prog 90 2 = some 0 := by kernel_rfl
theorem Tryd.ag91 : aggB Tryd.prog 91 = some true := by kernel_rfl
theorem Tryd.cz91 : Tryd.prog.cellsOf 91 = 7 := by kernel_rfl
theorem Tryd.by91 : Tryd.prog.bytesOf 91 = 56 := by kernel_rfl
theorem Tryd.zb91 : zeroB Tryd.prog 91 = some [.int .i64 0, .int .i64 0, .int .i64 0, .map none, .int .i64 0, .int .i64 0, .bool false] := by kernel_rfl
theorem Tryd.pl91 : placesB Tryd.prog 91 = some [(0, 1), (1, 1), (2, 1), (3, 1), (4, 1), (5, 1), (6, 1)] := by kernel_rfl
theorem Tryd.fd91_0 : fieldB Tryd.prog 91 0 = some 0 := by kernel_rfl
theorem Tryd.fd91_1 : fieldB Tryd.prog 91 1 = some 1 := by kernel_rfl
theorem Tryd.fd91_2 : fieldB Tryd.prog 91 2 = some 2 := by kernel_rfl
theorem Tryd.fd91_3 : fieldB Tryd.prog 91 3 = some 3 := by kernel_rfl
theorem Tryd.fd91_4 : fieldB Tryd.prog 91 4 = some 4 := by kernel_rfl
theorem Tryd.fd91_5 : fieldB Tryd.prog 91 5 = some 5 := by kernel_rfl
theorem Tryd.fd91_6 : fieldB Tryd.prog 91 6 = some 6 := by kernel_rfl
theorem Tryd.ag92 : aggB Tryd.prog 92 = some true := by kernel_rfl
theorem Tryd.cz92 : Tryd.prog.cellsOf 92 = 7 := by kernel_rfl
theorem Tryd.by92 : Tryd.prog.bytesOf 92 = 56 := by kernel_rfl
theorem Tryd.zb92 : zeroB Tryd.prog 92 = some [.int .i64 0, .int .i64 0, .int .i64 0, .map none, .int .i64 0, .int .i64 0, .bool false] := by kernel_rfl
theorem Tryd.pl92 : placesB Tryd.prog 92 = some [(0, 1), (1, 1), (2, 1), (3, 1), (4, 1), (5, 1), (6, 1)] := by kernel_rfl
theorem Tryd.sh92 : Tryd.prog.stoodInHeld 92 = false := by kernel_rfl
theorem Tryd.eg92 : Tryd.prog.eqGuardType Tryd.prog.depth 92 = false := by kernel_rfl
theorem Tryd.fd92_0 : fieldB Tryd.prog 92 0 = some 0 := by kernel_rfl
theorem Tryd.fd92_1 : fieldB Tryd.prog 92 1 = some 1 := by kernel_rfl
theorem Tryd.fd92_2 : fieldB Tryd.prog 92 2 = some 2 := by kernel_rfl
theorem Tryd.fd92_3 : fieldB Tryd.prog 92 3 = some 3 := by kernel_rfl
theorem Tryd.fd92_4 : fieldB Tryd.prog 92 4 = some 4 := by kernel_rfl
theorem Tryd.fd92_5 : fieldB Tryd.prog 92 5 = some 5 := by kernel_rfl
theorem Tryd.fd92_6 : fieldB Tryd.prog 92 6 = some 6 := by kernel_rfl
theorem Tryd.ag93 : aggB Tryd.prog 93 = some false := by kernel_rfl
theorem Tryd.cz93 : Tryd.prog.cellsOf 93 = 1 := by kernel_rfl
theorem Tryd.by93 : Tryd.prog.bytesOf 93 = 8 := by kernel_rfl
theorem Tryd.zb93 : zeroB Tryd.prog 93 = some [.map none] := by kernel_rfl
theorem Tryd.ag94 : aggB Tryd.prog 94 = some false := by kernel_rfl
theorem Tryd.cz94 : Tryd.prog.cellsOf 94 = 1 := by kernel_rfl
theorem Tryd.by94 : Tryd.prog.bytesOf 94 = 24 := by kernel_rfl
theorem Tryd.zb94 : zeroB Tryd.prog 94 = some [.slice none 0 0] := by kernel_rfl
theorem Tryd.ag95 : aggB Tryd.prog 95 = some true := by kernel_rfl
theorem Tryd.cz95 : Tryd.prog.cellsOf 95 = 8 := by kernel_rfl
theorem Tryd.by95 : Tryd.prog.bytesOf 95 = 80 := by kernel_rfl
theorem Tryd.zb95 : zeroB Tryd.prog 95 = some [.pointer none, .pointer none, .slice none 0 0, .int .i64 0, .map none, .map none, .int .i64 0, .bool false] := by kernel_rfl
theorem Tryd.pl95 : placesB Tryd.prog 95 = some [(0, 1), (1, 1), (2, 1), (3, 1), (4, 1), (5, 1), (6, 1), (7, 1)] := by kernel_rfl
theorem Tryd.fd95_0 : fieldB Tryd.prog 95 0 = some 0 := by kernel_rfl
theorem Tryd.fd95_1 : fieldB Tryd.prog 95 1 = some 1 := by kernel_rfl
theorem Tryd.fd95_2 : fieldB Tryd.prog 95 2 = some 2 := by kernel_rfl
theorem Tryd.fd95_3 : fieldB Tryd.prog 95 3 = some 3 := by kernel_rfl
theorem Tryd.fd95_4 : fieldB Tryd.prog 95 4 = some 4 := by kernel_rfl
theorem Tryd.fd95_5 : fieldB Tryd.prog 95 5 = some 5 := by kernel_rfl
theorem Tryd.fd95_6 : fieldB Tryd.prog 95 6 = some 6 := by kernel_rfl
theorem Tryd.fd95_7 : fieldB Tryd.prog 95 7 = some 7 := by kernel_rfl
theorem Tryd.ag96 : aggB Tryd.prog 96 = some true := by kernel_rfl
theorem Tryd.cz96 : Tryd.prog.cellsOf 96 = 8 := by kernel_rfl
theorem Tryd.by96 : Tryd.prog.bytesOf 96 = 80 := by kernel_rfl
theorem Tryd.zb96 : zeroB Tryd.prog 96 = some [.pointer none, .pointer none, .slice none 0 0, .int .i64 0, .map none, .map none, .int .i64 0, .bool false] := by kernel_rfl
theorem Tryd.pl96 : placesB Tryd.prog 96 = some [(0, 1), (1, 1), (2, 1), (3, 1), (4, 1), (5, 1), (6, 1), (7, 1)] := by kernel_rfl
theorem Tryd.sh96 : Tryd.prog.stoodInHeld 96 = false := by kernel_rfl
theorem Tryd.eg96 : Tryd.prog.eqGuardType Tryd.prog.depth 96 = false := by kernel_rfl
theorem Tryd.fd96_0 : fieldB Tryd.prog 96 0 = some 0 := by kernel_rfl
theorem Tryd.fd96_1 : fieldB Tryd.prog 96 1 = some 1 := by kernel_rfl
theorem Tryd.fd96_2 : fieldB Tryd.prog 96 2 = some 2 := by kernel_rfl
theorem Tryd.fd96_3 : fieldB Tryd.prog 96 3 = some 3 := by kernel_rfl
theorem Tryd.fd96_4 : fieldB Tryd.prog 96 4 = some 4 := by kernel_rfl
theorem Tryd.fd96_5 : fieldB Tryd.prog 96 5 = some 5 := by kernel_rfl
theorem Tryd.fd96_6 : fieldB Tryd.prog 96 6 = some 6 := by kernel_rfl
theorem Tryd.fd96_7 : fieldB Tryd.prog 96 7 = some 7 := by kernel_rfl
theorem Tryd.ag98 : aggB Tryd.prog 98 = some false := by kernel_rfl
theorem Tryd.cz98 : Tryd.prog.cellsOf 98 = 1 := by kernel_rfl
theorem Tryd.by98 : Tryd.prog.bytesOf 98 = 8 := by kernel_rfl
theorem Tryd.zb98 : zeroB Tryd.prog 98 = some [.nilFunc] := by kernel_rfl
theorem Tryd.ag99 : aggB Tryd.prog 99 = some true := by kernel_rfl
theorem Tryd.cz99 : Tryd.prog.cellsOf 99 = 2 := by kernel_rfl
theorem Tryd.by99 : Tryd.prog.bytesOf 99 = 16 := by kernel_rfl
theorem Tryd.zb99 : zeroB Tryd.prog 99 = some [.int .i64 0, .int .i64 0] := by kernel_rfl
theorem Tryd.pl99 : placesB Tryd.prog 99 = some [(0, 1), (1, 1)] := by kernel_rfl
theorem Tryd.fd99_0 : fieldB Tryd.prog 99 0 = some 0 := by kernel_rfl
theorem Tryd.fd99_1 : fieldB Tryd.prog 99 1 = some 1 := by kernel_rfl
theorem Tryd.ag100 : aggB Tryd.prog 100 = some true := by kernel_rfl
theorem Tryd.cz100 : Tryd.prog.cellsOf 100 = 2 := by kernel_rfl
theorem Tryd.by100 : Tryd.prog.bytesOf 100 = 16 := by kernel_rfl
theorem Tryd.zb100 : zeroB Tryd.prog 100 = some [.int .i64 0, .int .i64 0] := by kernel_rfl
theorem Tryd.pl100 : placesB Tryd.prog 100 = some [(0, 1), (1, 1)] := by kernel_rfl
theorem Tryd.sh100 : Tryd.prog.stoodInHeld 100 = false := by kernel_rfl
theorem Tryd.eg100 : Tryd.prog.eqGuardType Tryd.prog.depth 100 = false := by kernel_rfl
theorem Tryd.fd100_0 : fieldB Tryd.prog 100 0 = some 0 := by kernel_rfl
theorem Tryd.fd100_1 : fieldB Tryd.prog 100 1 = some 1 := by kernel_rfl
theorem Tryd.ag101 : aggB Tryd.prog 101 = some true := by kernel_rfl
theorem Tryd.cz101 : Tryd.prog.cellsOf 101 = 6 := by kernel_rfl
theorem Tryd.by101 : Tryd.prog.bytesOf 101 = 32 := by kernel_rfl
theorem Tryd.zb101 : zeroB Tryd.prog 101 = some [.int .i64 0, .int .i64 0, .int .i64 0, .bool false, .bool false, .bool false] := by kernel_rfl
theorem Tryd.pl101 : placesB Tryd.prog 101 = some [(0, 1), (1, 2), (3, 1), (4, 1), (5, 1)] := by kernel_rfl
theorem Tryd.fd101_0 : fieldB Tryd.prog 101 0 = some 0 := by kernel_rfl
theorem Tryd.fd101_1 : fieldB Tryd.prog 101 1 = some 1 := by kernel_rfl
theorem Tryd.fd101_2 : fieldB Tryd.prog 101 2 = some 3 := by kernel_rfl
theorem Tryd.fd101_3 : fieldB Tryd.prog 101 3 = some 4 := by kernel_rfl
theorem Tryd.fd101_4 : fieldB Tryd.prog 101 4 = some 5 := by kernel_rfl
theorem Tryd.ag102 : aggB Tryd.prog 102 = some true := by kernel_rfl
theorem Tryd.cz102 : Tryd.prog.cellsOf 102 = 6 := by kernel_rfl
theorem Tryd.by102 : Tryd.prog.bytesOf 102 = 32 := by kernel_rfl
theorem Tryd.zb102 : zeroB Tryd.prog 102 = some [.int .i64 0, .int .i64 0, .int .i64 0, .bool false, .bool false, .bool false] := by kernel_rfl
theorem Tryd.pl102 : placesB Tryd.prog 102 = some [(0, 1), (1, 2), (3, 1), (4, 1), (5, 1)] := by kernel_rfl
theorem Tryd.sh102 : Tryd.prog.stoodInHeld 102 = false := by kernel_rfl
theorem Tryd.eg102 : Tryd.prog.eqGuardType Tryd.prog.depth 102 = false := by kernel_rfl
theorem Tryd.fd102_0 : fieldB Tryd.prog 102 0 = some 0 := by kernel_rfl
theorem Tryd.fd102_1 : fieldB Tryd.prog 102 1 = some 1 := by kernel_rfl
theorem Tryd.fd102_2 : fieldB Tryd.prog 102 2 = some 3 := by kernel_rfl
theorem Tryd.fd102_3 : fieldB Tryd.prog 102 3 = some 4 := by kernel_rfl
theorem Tryd.fd102_4 : fieldB Tryd.prog 102 4 = some 5 := by kernel_rfl
theorem Tryd.ag103 : aggB Tryd.prog 103 = some false := by kernel_rfl
theorem Tryd.cz103 : Tryd.prog.cellsOf 103 = 1 := by kernel_rfl
theorem Tryd.by103 : Tryd.prog.bytesOf 103 = 8 := by kernel_rfl
theorem Tryd.zb103 : zeroB Tryd.prog 103 = some [.nilFunc] := by kernel_rfl
theorem Tryd.ag104 : aggB Tryd.prog 104 = some false := by kernel_rfl
theorem Tryd.cz104 : Tryd.prog.cellsOf 104 = 1 := by kernel_rfl
theorem Tryd.by104 : Tryd.prog.bytesOf 104 = 8 := by kernel_rfl
theorem Tryd.zb104 : zeroB Tryd.prog 104 = some [.nilFunc] := by kernel_rfl
theorem Tryd.ag105 : aggB Tryd.prog 105 = some false := by kernel_rfl
theorem Tryd.cz105 : Tryd.prog.cellsOf 105 = 1 := by kernel_rfl
theorem Tryd.by105 : Tryd.prog.bytesOf 105 = 8 := by kernel_rfl
theorem Tryd.zb105 : zeroB Tryd.prog 105 = some [.nilFunc] := by kernel_rfl
theorem Tryd.ag106 : aggB Tryd.prog 106 = some false := by kernel_rfl
theorem Tryd.cz106 : Tryd.prog.cellsOf 106 = 1 := by kernel_rfl
theorem Tryd.by106 : Tryd.prog.bytesOf 106 = 8 := by kernel_rfl
theorem Tryd.zb106 : zeroB Tryd.prog 106 = some [.nilFunc] := by kernel_rfl
theorem Tryd.ag107 : aggB Tryd.prog 107 = some false := by kernel_rfl
theorem Tryd.cz107 : Tryd.prog.cellsOf 107 = 1 := by kernel_rfl
theorem Tryd.by107 : Tryd.prog.bytesOf 107 = 8 := by kernel_rfl
theorem Tryd.zb107 : zeroB Tryd.prog 107 = some [.nilFunc] := by kernel_rfl
theorem Tryd.ag108 : aggB Tryd.prog 108 = some false := by kernel_rfl
theorem Tryd.cz108 : Tryd.prog.cellsOf 108 = 1 := by kernel_rfl
theorem Tryd.by108 : Tryd.prog.bytesOf 108 = 8 := by kernel_rfl
theorem Tryd.zb108 : zeroB Tryd.prog 108 = some [.nilFunc] := by kernel_rfl
theorem Tryd.ag109 : aggB Tryd.prog 109 = some true := by kernel_rfl
theorem Tryd.cz109 : Tryd.prog.cellsOf 109 = 6 := by kernel_rfl
theorem Tryd.by109 : Tryd.prog.bytesOf 109 = 48 := by kernel_rfl
theorem Tryd.zb109 : zeroB Tryd.prog 109 = some [.pointer none, .int .i64 0, .int .i64 0, .int .i64 0, .int .i64 0, .bool false] := by kernel_rfl
theorem Tryd.pl109 : placesB Tryd.prog 109 = some [(0, 1), (1, 1), (2, 1), (3, 1), (4, 1), (5, 1)] := by kernel_rfl
theorem Tryd.fd109_0 : fieldB Tryd.prog 109 0 = some 0 := by kernel_rfl
theorem Tryd.fd109_1 : fieldB Tryd.prog 109 1 = some 1 := by kernel_rfl
theorem Tryd.fd109_2 : fieldB Tryd.prog 109 2 = some 2 := by kernel_rfl
theorem Tryd.fd109_3 : fieldB Tryd.prog 109 3 = some 3 := by kernel_rfl
theorem Tryd.fd109_4 : fieldB Tryd.prog 109 4 = some 4 := by kernel_rfl
theorem Tryd.fd109_5 : fieldB Tryd.prog 109 5 = some 5 := by kernel_rfl
theorem Tryd.ag110 : aggB Tryd.prog 110 = some true := by kernel_rfl
theorem Tryd.cz110 : Tryd.prog.cellsOf 110 = 6 := by kernel_rfl
theorem Tryd.by110 : Tryd.prog.bytesOf 110 = 48 := by kernel_rfl
theorem Tryd.zb110 : zeroB Tryd.prog 110 = some [.pointer none, .int .i64 0, .int .i64 0, .int .i64 0, .int .i64 0, .bool false] := by kernel_rfl
theorem Tryd.pl110 : placesB Tryd.prog 110 = some [(0, 1), (1, 1), (2, 1), (3, 1), (4, 1), (5, 1)] := by kernel_rfl
theorem Tryd.sh110 : Tryd.prog.stoodInHeld 110 = false := by kernel_rfl
theorem Tryd.eg110 : Tryd.prog.eqGuardType Tryd.prog.depth 110 = false := by kernel_rfl
theorem Tryd.fd110_0 : fieldB Tryd.prog 110 0 = some 0 := by kernel_rfl
theorem Tryd.fd110_1 : fieldB Tryd.prog 110 1 = some 1 := by kernel_rfl
theorem Tryd.fd110_2 : fieldB Tryd.prog 110 2 = some 2 := by kernel_rfl
theorem Tryd.fd110_3 : fieldB Tryd.prog 110 3 = some 3 := by kernel_rfl
theorem Tryd.fd110_4 : fieldB Tryd.prog 110 4 = some 4 := by kernel_rfl
theorem Tryd.fd110_5 : fieldB Tryd.prog 110 5 = some 5 := by kernel_rfl
theorem Tryd.ag112 : aggB Tryd.prog 112 = some false := by kernel_rfl
theorem Tryd.cz112 : Tryd.prog.cellsOf 112 = 1 := by kernel_rfl
theorem Tryd.by112 : Tryd.prog.bytesOf 112 = 8 := by kernel_rfl
theorem Tryd.zb112 : zeroB Tryd.prog 112 = some [.nilFunc] := by kernel_rfl
theorem Tryd.ag113 : aggB Tryd.prog 113 = some false := by kernel_rfl
theorem Tryd.cz113 : Tryd.prog.cellsOf 113 = 1 := by kernel_rfl
theorem Tryd.by113 : Tryd.prog.bytesOf 113 = 8 := by kernel_rfl
theorem Tryd.zb113 : zeroB Tryd.prog 113 = some [.nilFunc] := by kernel_rfl
theorem Tryd.ag114 : aggB Tryd.prog 114 = some false := by kernel_rfl
theorem Tryd.cz114 : Tryd.prog.cellsOf 114 = 1 := by kernel_rfl
theorem Tryd.by114 : Tryd.prog.bytesOf 114 = 8 := by kernel_rfl
theorem Tryd.zb114 : zeroB Tryd.prog 114 = some [.nilFunc] := by kernel_rfl
theorem Tryd.ag115 : aggB Tryd.prog 115 = some false := by kernel_rfl
theorem Tryd.cz115 : Tryd.prog.cellsOf 115 = 1 := by kernel_rfl
theorem Tryd.by115 : Tryd.prog.bytesOf 115 = 8 := by kernel_rfl
theorem Tryd.zb115 : zeroB Tryd.prog 115 = some [.nilFunc] := by kernel_rfl
theorem Tryd.ag116 : aggB Tryd.prog 116 = some false := by kernel_rfl
theorem Tryd.cz116 : Tryd.prog.cellsOf 116 = 1 := by kernel_rfl
theorem Tryd.by116 : Tryd.prog.bytesOf 116 = 8 := by kernel_rfl
theorem Tryd.zb116 : zeroB Tryd.prog 116 = some [.nilFunc] := by kernel_rfl
theorem Tryd.ag117 : aggB Tryd.prog 117 = some false := by kernel_rfl
theorem Tryd.cz117 : Tryd.prog.cellsOf 117 = 1 := by kernel_rfl
theorem Tryd.by117 : Tryd.prog.bytesOf 117 = 8 := by kernel_rfl
theorem Tryd.zb117 : zeroB Tryd.prog 117 = some [.nilFunc] := by kernel_rfl
theorem Tryd.ag118 : aggB Tryd.prog 118 = some false := by kernel_rfl
theorem Tryd.cz118 : Tryd.prog.cellsOf 118 = 1 := by kernel_rfl
theorem Tryd.by118 : Tryd.prog.bytesOf 118 = 8 := by kernel_rfl
theorem Tryd.zb118 : zeroB Tryd.prog 118 = some [.nilFunc] := by kernel_rfl
theorem Tryd.ag119 : aggB Tryd.prog 119 = some true := by kernel_rfl
theorem Tryd.cz119 : Tryd.prog.cellsOf 119 = 2 := by kernel_rfl
theorem Tryd.by119 : Tryd.prog.bytesOf 119 = 32 := by kernel_rfl
theorem Tryd.zb119 : zeroB Tryd.prog 119 = some [.int .u64 0, .slice none 0 0] := by kernel_rfl
theorem Tryd.pl119 : placesB Tryd.prog 119 = some [(0, 1), (1, 1)] := by kernel_rfl
theorem Tryd.fd119_0 : fieldB Tryd.prog 119 0 = some 0 := by kernel_rfl
theorem Tryd.fd119_1 : fieldB Tryd.prog 119 1 = some 1 := by kernel_rfl
theorem Tryd.ag120 : aggB Tryd.prog 120 = some true := by kernel_rfl
theorem Tryd.cz120 : Tryd.prog.cellsOf 120 = 2 := by kernel_rfl
theorem Tryd.by120 : Tryd.prog.bytesOf 120 = 32 := by kernel_rfl
theorem Tryd.zb120 : zeroB Tryd.prog 120 = some [.int .u64 0, .slice none 0 0] := by kernel_rfl
theorem Tryd.pl120 : placesB Tryd.prog 120 = some [(0, 1), (1, 1)] := by kernel_rfl
theorem Tryd.sh120 : Tryd.prog.stoodInHeld 120 = false := by kernel_rfl
theorem Tryd.eg120 : Tryd.prog.eqGuardType Tryd.prog.depth 120 = false := by kernel_rfl
theorem Tryd.fd120_0 : fieldB Tryd.prog 120 0 = some 0 := by kernel_rfl
theorem Tryd.fd120_1 : fieldB Tryd.prog 120 1 = some 1 := by kernel_rfl
theorem Tryd.ag121 : aggB Tryd.prog 121 = some false := by kernel_rfl
theorem Tryd.cz121 : Tryd.prog.cellsOf 121 = 1 := by kernel_rfl
theorem Tryd.by121 : Tryd.prog.bytesOf 121 = 8 := by kernel_rfl
theorem Tryd.zb121 : zeroB Tryd.prog 121 = some [.nilFunc] := by kernel_rfl
theorem Tryd.ag122 : aggB Tryd.prog 122 = some false := by kernel_rfl
theorem Tryd.cz122 : Tryd.prog.cellsOf 122 = 1 := by kernel_rfl
theorem Tryd.by122 : Tryd.prog.bytesOf 122 = 24 := by kernel_rfl
theorem Tryd.zb122 : zeroB Tryd.prog 122 = some [.slice none 0 0] := by kernel_rfl
theorem Tryd.ag123 : aggB Tryd.prog 123 = some false := by kernel_rfl
theorem Tryd.cz123 : Tryd.prog.cellsOf 123 = 1 := by kernel_rfl
theorem Tryd.by123 : Tryd.prog.bytesOf 123 = 8 := by kernel_rfl
theorem Tryd.zb123 : zeroB Tryd.prog 123 = some [.nilFunc] := by kernel_rfl
theorem Tryd.ag124 : aggB Tryd.prog 124 = some false := by kernel_rfl
theorem Tryd.cz124 : Tryd.prog.cellsOf 124 = 1 := by kernel_rfl
theorem Tryd.by124 : Tryd.prog.bytesOf 124 = 8 := by kernel_rfl
theorem Tryd.zb124 : zeroB Tryd.prog 124 = some [.nilFunc] := by kernel_rfl
theorem Tryd.ag125 : aggB Tryd.prog 125 = some false := by kernel_rfl
theorem Tryd.cz125 : Tryd.prog.cellsOf 125 = 1 := by kernel_rfl
theorem Tryd.by125 : Tryd.prog.bytesOf 125 = 8 := by kernel_rfl
theorem Tryd.zb125 : zeroB Tryd.prog 125 = some [.nilFunc] := by kernel_rfl
theorem Tryd.ag126 : aggB Tryd.prog 126 = some false := by kernel_rfl
theorem Tryd.cz126 : Tryd.prog.cellsOf 126 = 1 := by kernel_rfl
theorem Tryd.by126 : Tryd.prog.bytesOf 126 = 8 := by kernel_rfl
theorem Tryd.zb126 : zeroB Tryd.prog 126 = some [.nilFunc] := by kernel_rfl
theorem Tryd.ag127 : aggB Tryd.prog 127 = some false := by kernel_rfl
theorem Tryd.cz127 : Tryd.prog.cellsOf 127 = 1 := by kernel_rfl
theorem Tryd.by127 : Tryd.prog.bytesOf 127 = 8 := by kernel_rfl
theorem Tryd.zb127 : zeroB Tryd.prog 127 = some [.nilFunc] := by kernel_rfl
theorem Tryd.ag128 : aggB Tryd.prog 128 = some false := by kernel_rfl
theorem Tryd.cz128 : Tryd.prog.cellsOf 128 = 1 := by kernel_rfl
theorem Tryd.by128 : Tryd.prog.bytesOf 128 = 8 := by kernel_rfl
theorem Tryd.zb128 : zeroB Tryd.prog 128 = some [.nilFunc] := by kernel_rfl
theorem Tryd.ag129 : aggB Tryd.prog 129 = some false := by kernel_rfl
theorem Tryd.cz129 : Tryd.prog.cellsOf 129 = 1 := by kernel_rfl
theorem Tryd.by129 : Tryd.prog.bytesOf 129 = 8 := by kernel_rfl
theorem Tryd.zb129 : zeroB Tryd.prog 129 = some [.nilFunc] := by kernel_rfl
theorem Tryd.ag130 : aggB Tryd.prog 130 = some false := by kernel_rfl
theorem Tryd.cz130 : Tryd.prog.cellsOf 130 = 1 := by kernel_rfl
theorem Tryd.by130 : Tryd.prog.bytesOf 130 = 8 := by kernel_rfl
theorem Tryd.zb130 : zeroB Tryd.prog 130 = some [.nilFunc] := by kernel_rfl
theorem Tryd.ag131 : aggB Tryd.prog 131 = some false := by kernel_rfl
theorem Tryd.cz131 : Tryd.prog.cellsOf 131 = 1 := by kernel_rfl
theorem Tryd.by131 : Tryd.prog.bytesOf 131 = 8 := by kernel_rfl
theorem Tryd.zb131 : zeroB Tryd.prog 131 = some [.nilFunc] := by kernel_rfl
theorem Tryd.ag132 : aggB Tryd.prog 132 = some false := by kernel_rfl
theorem Tryd.cz132 : Tryd.prog.cellsOf 132 = 1 := by kernel_rfl
theorem Tryd.by132 : Tryd.prog.bytesOf 132 = 8 := by kernel_rfl
theorem Tryd.zb132 : zeroB Tryd.prog 132 = some [.pointer none] := by kernel_rfl
theorem Tryd.ag133 : aggB Tryd.prog 133 = some false := by kernel_rfl
theorem Tryd.cz133 : Tryd.prog.cellsOf 133 = 1 := by kernel_rfl
theorem Tryd.by133 : Tryd.prog.bytesOf 133 = 8 := by kernel_rfl
theorem Tryd.zb133 : zeroB Tryd.prog 133 = some [.nilFunc] := by kernel_rfl
theorem Tryd.ag134 : aggB Tryd.prog 134 = some false := by kernel_rfl
theorem Tryd.cz134 : Tryd.prog.cellsOf 134 = 1 := by kernel_rfl
theorem Tryd.by134 : Tryd.prog.bytesOf 134 = 8 := by kernel_rfl
theorem Tryd.zb134 : zeroB Tryd.prog 134 = some [.nilFunc] := by kernel_rfl
theorem Tryd.ag136 : aggB Tryd.prog 136 = some false := by kernel_rfl
theorem Tryd.cz136 : Tryd.prog.cellsOf 136 = 1 := by kernel_rfl
theorem Tryd.by136 : Tryd.prog.bytesOf 136 = 8 := by kernel_rfl
theorem Tryd.zb136 : zeroB Tryd.prog 136 = some [.nilFunc] := by kernel_rfl
theorem Tryd.ag137 : aggB Tryd.prog 137 = some false := by kernel_rfl
theorem Tryd.cz137 : Tryd.prog.cellsOf 137 = 1 := by kernel_rfl
theorem Tryd.by137 : Tryd.prog.bytesOf 137 = 8 := by kernel_rfl
theorem Tryd.zb137 : zeroB Tryd.prog 137 = some [.nilFunc] := by kernel_rfl
theorem Tryd.ag138 : aggB Tryd.prog 138 = some false := by kernel_rfl
theorem Tryd.cz138 : Tryd.prog.cellsOf 138 = 1 := by kernel_rfl
theorem Tryd.by138 : Tryd.prog.bytesOf 138 = 8 := by kernel_rfl
theorem Tryd.zb138 : zeroB Tryd.prog 138 = some [.nilFunc] := by kernel_rfl
theorem Tryd.ag139 : aggB Tryd.prog 139 = some false := by kernel_rfl
theorem Tryd.cz139 : Tryd.prog.cellsOf 139 = 1 := by kernel_rfl
theorem Tryd.by139 : Tryd.prog.bytesOf 139 = 8 := by kernel_rfl
theorem Tryd.zb139 : zeroB Tryd.prog 139 = some [.nilFunc] := by kernel_rfl
theorem Tryd.ag140 : aggB Tryd.prog 140 = some true := by kernel_rfl
theorem Tryd.cz140 : Tryd.prog.cellsOf 140 = 4 := by kernel_rfl
theorem Tryd.by140 : Tryd.prog.bytesOf 140 = 32 := by kernel_rfl
theorem Tryd.zb140 : zeroB Tryd.prog 140 = some [.int .i64 0, .int .i64 0, .int .i64 0, .int .i64 0] := by kernel_rfl
theorem Tryd.pl140 : placesB Tryd.prog 140 = some [(0, 1), (1, 1), (2, 1), (3, 1)] := by kernel_rfl
theorem Tryd.fd140_0 : fieldB Tryd.prog 140 0 = some 0 := by kernel_rfl
theorem Tryd.fd140_1 : fieldB Tryd.prog 140 1 = some 1 := by kernel_rfl
theorem Tryd.fd140_2 : fieldB Tryd.prog 140 2 = some 2 := by kernel_rfl
theorem Tryd.fd140_3 : fieldB Tryd.prog 140 3 = some 3 := by kernel_rfl
theorem Tryd.ag141 : aggB Tryd.prog 141 = some true := by kernel_rfl
theorem Tryd.cz141 : Tryd.prog.cellsOf 141 = 4 := by kernel_rfl
theorem Tryd.by141 : Tryd.prog.bytesOf 141 = 32 := by kernel_rfl
theorem Tryd.zb141 : zeroB Tryd.prog 141 = some [.int .i64 0, .int .i64 0, .int .i64 0, .int .i64 0] := by kernel_rfl
theorem Tryd.pl141 : placesB Tryd.prog 141 = some [(0, 1), (1, 1), (2, 1), (3, 1)] := by kernel_rfl
theorem Tryd.sh141 : Tryd.prog.stoodInHeld 141 = false := by kernel_rfl
theorem Tryd.eg141 : Tryd.prog.eqGuardType Tryd.prog.depth 141 = false := by kernel_rfl
theorem Tryd.fd141_0 : fieldB Tryd.prog 141 0 = some 0 := by kernel_rfl
theorem Tryd.fd141_1 : fieldB Tryd.prog 141 1 = some 1 := by kernel_rfl
theorem Tryd.fd141_2 : fieldB Tryd.prog 141 2 = some 2 := by kernel_rfl
theorem Tryd.fd141_3 : fieldB Tryd.prog 141 3 = some 3 := by kernel_rfl
theorem Tryd.ag142 : aggB Tryd.prog 142 = some false := by kernel_rfl
theorem Tryd.cz142 : Tryd.prog.cellsOf 142 = 1 := by kernel_rfl
theorem Tryd.by142 : Tryd.prog.bytesOf 142 = 8 := by kernel_rfl
theorem Tryd.zb142 : zeroB Tryd.prog 142 = some [.int .u64 0] := by kernel_rfl
theorem Tryd.ag144 : aggB Tryd.prog 144 = some false := by kernel_rfl
theorem Tryd.cz144 : Tryd.prog.cellsOf 144 = 1 := by kernel_rfl
theorem Tryd.by144 : Tryd.prog.bytesOf 144 = 8 := by kernel_rfl
theorem Tryd.zb144 : zeroB Tryd.prog 144 = some [.nilFunc] := by kernel_rfl
theorem Tryd.ag145 : aggB Tryd.prog 145 = some false := by kernel_rfl
theorem Tryd.cz145 : Tryd.prog.cellsOf 145 = 1 := by kernel_rfl
theorem Tryd.by145 : Tryd.prog.bytesOf 145 = 8 := by kernel_rfl
theorem Tryd.zb145 : zeroB Tryd.prog 145 = some [.nilFunc] := by kernel_rfl
theorem Tryd.ag146 : aggB Tryd.prog 146 = some false := by kernel_rfl
theorem Tryd.cz146 : Tryd.prog.cellsOf 146 = 1 := by kernel_rfl
theorem Tryd.by146 : Tryd.prog.bytesOf 146 = 8 := by kernel_rfl
theorem Tryd.zb146 : zeroB Tryd.prog 146 = some [.nilFunc] := by kernel_rfl
theorem Tryd.ag147 : aggB Tryd.prog 147 = some false := by kernel_rfl
theorem Tryd.cz147 : Tryd.prog.cellsOf 147 = 1 := by kernel_rfl
theorem Tryd.by147 : Tryd.prog.bytesOf 147 = 24 := by kernel_rfl
theorem Tryd.zb147 : zeroB Tryd.prog 147 = some [.slice none 0 0] := by kernel_rfl
theorem Tryd.ag148 : aggB Tryd.prog 148 = some false := by kernel_rfl
theorem Tryd.cz148 : Tryd.prog.cellsOf 148 = 1 := by kernel_rfl
theorem Tryd.by148 : Tryd.prog.bytesOf 148 = 8 := by kernel_rfl
theorem Tryd.zb148 : zeroB Tryd.prog 148 = some [.nilFunc] := by kernel_rfl
theorem Tryd.ag149 : aggB Tryd.prog 149 = some false := by kernel_rfl
theorem Tryd.cz149 : Tryd.prog.cellsOf 149 = 1 := by kernel_rfl
theorem Tryd.by149 : Tryd.prog.bytesOf 149 = 8 := by kernel_rfl
theorem Tryd.zb149 : zeroB Tryd.prog 149 = some [.nilFunc] := by kernel_rfl
theorem Tryd.ag150 : aggB Tryd.prog 150 = some true := by kernel_rfl
theorem Tryd.cz150 : Tryd.prog.cellsOf 150 = 256 := by kernel_rfl
theorem Tryd.by150 : Tryd.prog.bytesOf 150 = 256 := by kernel_rfl
theorem Tryd.zb150 : zeroB Tryd.prog 150 = some [.bool false, .bool false, .bool false, .bool false, .bool false, .bool false, .bool false, .bool false, .bool false, .bool false, .bool false, .bool false, .bool false, .bool false, .bool false, .bool false, .bool false, .bool false, .bool false, .bool false, .bool false, .bool false, .bool false, .bool false, .bool false, .bool false, .bool false, .bool false, .bool false, .bool false, .bool false, .bool false, .bool false, .bool false, .bool false, .bool false, .bool false, .bool false, .bool false, .bool false, .bool false, .bool false, .bool false, .bool false, .bool false, .bool false, .bool false, .bool false, .bool false, .bool false, .bool false, .bool false, .bool false, .bool false, .bool false, .bool false, .bool false, .bool false, .bool false, .bool false, .bool false, .bool false, .bool false, .bool false, .bool false, .bool false, .bool false, .bool false, .bool false, .bool false, .bool false, .bool false, .bool false, .bool false, .bool false, .bool false, .bool false, .bool false, .bool false, .bool false, .bool false, .bool false, .bool false, .bool false, .bool false, .bool false, .bool false, .bool false, .bool false, .bool false, .bool false, .bool false, .bool false, .bool false, .bool false, .bool false, .bool false, .bool false, .bool false, .bool false, .bool false, .bool false, .bool false, .bool false, .bool false, .bool false, .bool false, .bool false, .bool false, .bool false, .bool false, .bool false, .bool false, .bool false, .bool false, .bool false, .bool false, .bool false, .bool false, .bool false, .bool false, .bool false, .bool false, .bool false, .bool false, .bool false, .bool false, .bool false, .bool false, .bool false, .bool false, .bool false, .bool false, .bool false, .bool false, .bool false, .bool false, .bool false, .bool false, .bool false, .bool false, .bool false, .bool false, .bool false, .bool false, .bool false, .bool false, .bool false, .bool false, .bool false, .bool false, .bool false, .bool false, .bool false, .bool false, .bool false, .bool false, .bool false, .bool false, .bool false, .bool false, .bool false, .bool false, .bool false, .bool false, .bool false, .bool false, .bool false, .bool false, .bool false, .bool false, .bool false, .bool false, .bool false, .bool false, .bool false, .bool false, .bool false, .bool false, .bool false, .bool false, .bool false, .bool false, .bool false, .bool false, .bool false, .bool false, .bool false, .bool false, .bool false, .bool false, .bool false, .bool false, .bool false, .bool false, .bool false, .bool false, .bool false, .bool false, .bool false, .bool false, .bool false, .bool false, .bool false, .bool false, .bool false, .bool false, .bool false, .bool false, .bool false, .bool false, .bool false, .bool false, .bool false, .bool false, .bool false, .bool false, .bool false, .bool false, .bool false, .bool false, .bool false, .bool false, .bool false, .bool false, .bool false, .bool false, .bool false, .bool false, .bool false, .bool false, .bool false, .bool false, .bool false, .bool false, .bool false, .bool false, .bool false, .bool false, .bool false, .bool false, .bool false, .bool false, .bool false, .bool false, .bool false, .bool false, .bool false, .bool false, .bool false, .bool false, .bool false, .bool false, .bool false, .bool false, .bool false] := by kernel_rfl
theorem Tryd.ar150 : arrB Tryd.prog 150 = some (256, 1) := by kernel_rfl
theorem Tryd.ag151 : aggB Tryd.prog 151 = some true := by kernel_rfl
theorem Tryd.cz151 : Tryd.prog.cellsOf 151 = 256 := by kernel_rfl
theorem Tryd.by151 : Tryd.prog.bytesOf 151 = 256 := by kernel_rfl
theorem Tryd.zb151 : zeroB Tryd.prog 151 = some [.bool false, .bool false, .bool false, .bool false, .bool false, .bool false, .bool false, .bool false, .bool false, .bool false, .bool false, .bool false, .bool false, .bool false, .bool false, .bool false, .bool false, .bool false, .bool false, .bool false, .bool false, .bool false, .bool false, .bool false, .bool false, .bool false, .bool false, .bool false, .bool false, .bool false, .bool false, .bool false, .bool false, .bool false, .bool false, .bool false, .bool false, .bool false, .bool false, .bool false, .bool false, .bool false, .bool false, .bool false, .bool false, .bool false, .bool false, .bool false, .bool false, .bool false, .bool false, .bool false, .bool false, .bool false, .bool false, .bool false, .bool false, .bool false, .bool false, .bool false, .bool false, .bool false, .bool false, .bool false, .bool false, .bool false, .bool false, .bool false, .bool false, .bool false, .bool false, .bool false, .bool false, .bool false, .bool false, .bool false, .bool false, .bool false, .bool false, .bool false, .bool false, .bool false, .bool false, .bool false, .bool false, .bool false, .bool false, .bool false, .bool false, .bool false, .bool false, .bool false, .bool false, .bool false, .bool false, .bool false, .bool false, .bool false, .bool false, .bool false, .bool false, .bool false, .bool false, .bool false, .bool false, .bool false, .bool false, .bool false, .bool false, .bool false, .bool false, .bool false, .bool false, .bool false, .bool false, .bool false, .bool false, .bool false, .bool false, .bool false, .bool false, .bool false, .bool false, .bool false, .bool false, .bool false, .bool false, .bool false, .bool false, .bool false, .bool false, .bool false, .bool false, .bool false, .bool false, .bool false, .bool false, .bool false, .bool false, .bool false, .bool false, .bool false, .bool false, .bool false, .bool false, .bool false, .bool false, .bool false, .bool false, .bool false, .bool false, .bool false, .bool false, .bool false, .bool false, .bool false, .bool false, .bool false, .bool false, .bool false, .bool false, .bool false, .bool false, .bool false, .bool false, .bool false, .bool false, .bool false, .bool false, .bool false, .bool false, .bool false, .bool false, .bool false, .bool false, .bool false, .bool false, .bool false, .bool false, .bool false, .bool false, .bool false, .bool false, .bool false, .bool false, .bool false, .bool false, .bool false, .bool false, .bool false, .bool false, .bool false, .bool false, .bool false, .bool false, .bool false, .bool false, .bool false, .bool false, .bool false, .bool false, .bool false, .bool false, .bool false, .bool false, .bool false, .bool false, .bool false, .bool false, .bool false, .bool false, .bool false, .bool false, .bool false, .bool false, .bool false, .bool false, .bool false, .bool false, .bool false, .bool false, .bool false, .bool false, .bool false, .bool false, .bool false, .bool false, .bool false, .bool false, .bool false, .bool false, .bool false, .bool false, .bool false, .bool false, .bool false, .bool false, .bool false, .bool false, .bool false, .bool false, .bool false, .bool false, .bool false, .bool false, .bool false, .bool false, .bool false, .bool false, .bool false, .bool false, .bool false, .bool false, .bool false, .bool false, .bool false] := by kernel_rfl
theorem Tryd.ar151 : arrB Tryd.prog 151 = some (256, 1) := by kernel_rfl
theorem Tryd.ag153 : aggB Tryd.prog 153 = some false := by kernel_rfl
theorem Tryd.cz153 : Tryd.prog.cellsOf 153 = 1 := by kernel_rfl
theorem Tryd.by153 : Tryd.prog.bytesOf 153 = 8 := by kernel_rfl
theorem Tryd.zb153 : zeroB Tryd.prog 153 = some [.nilFunc] := by kernel_rfl
theorem Tryd.ag154 : aggB Tryd.prog 154 = some false := by kernel_rfl
theorem Tryd.cz154 : Tryd.prog.cellsOf 154 = 1 := by kernel_rfl
theorem Tryd.by154 : Tryd.prog.bytesOf 154 = 8 := by kernel_rfl
theorem Tryd.zb154 : zeroB Tryd.prog 154 = some [.nilFunc] := by kernel_rfl
theorem Tryd.ag155 : aggB Tryd.prog 155 = some false := by kernel_rfl
theorem Tryd.cz155 : Tryd.prog.cellsOf 155 = 1 := by kernel_rfl
theorem Tryd.by155 : Tryd.prog.bytesOf 155 = 8 := by kernel_rfl
theorem Tryd.zb155 : zeroB Tryd.prog 155 = some [.pointer none] := by kernel_rfl
theorem Tryd.ag156 : aggB Tryd.prog 156 = some false := by kernel_rfl
theorem Tryd.cz156 : Tryd.prog.cellsOf 156 = 1 := by kernel_rfl
theorem Tryd.by156 : Tryd.prog.bytesOf 156 = 8 := by kernel_rfl
theorem Tryd.zb156 : zeroB Tryd.prog 156 = some [.nilFunc] := by kernel_rfl
theorem Tryd.ag157 : aggB Tryd.prog 157 = some false := by kernel_rfl
theorem Tryd.cz157 : Tryd.prog.cellsOf 157 = 1 := by kernel_rfl
theorem Tryd.by157 : Tryd.prog.bytesOf 157 = 8 := by kernel_rfl
theorem Tryd.zb157 : zeroB Tryd.prog 157 = some [.nilFunc] := by kernel_rfl
theorem Tryd.ag158 : aggB Tryd.prog 158 = some false := by kernel_rfl
theorem Tryd.cz158 : Tryd.prog.cellsOf 158 = 1 := by kernel_rfl
theorem Tryd.by158 : Tryd.prog.bytesOf 158 = 8 := by kernel_rfl
theorem Tryd.zb158 : zeroB Tryd.prog 158 = some [.nilFunc] := by kernel_rfl
theorem Tryd.ag159 : aggB Tryd.prog 159 = some false := by kernel_rfl
theorem Tryd.cz159 : Tryd.prog.cellsOf 159 = 1 := by kernel_rfl
theorem Tryd.by159 : Tryd.prog.bytesOf 159 = 8 := by kernel_rfl
theorem Tryd.zb159 : zeroB Tryd.prog 159 = some [.nilFunc] := by kernel_rfl
theorem Tryd.ag160 : aggB Tryd.prog 160 = some false := by kernel_rfl
theorem Tryd.cz160 : Tryd.prog.cellsOf 160 = 1 := by kernel_rfl
theorem Tryd.by160 : Tryd.prog.bytesOf 160 = 8 := by kernel_rfl
theorem Tryd.zb160 : zeroB Tryd.prog 160 = some [.nilFunc] := by kernel_rfl
theorem Tryd.ag161 : aggB Tryd.prog 161 = some false := by kernel_rfl
theorem Tryd.cz161 : Tryd.prog.cellsOf 161 = 1 := by kernel_rfl
theorem Tryd.by161 : Tryd.prog.bytesOf 161 = 4 := by kernel_rfl
theorem Tryd.zb161 : zeroB Tryd.prog 161 = some [.int .u32 0] := by kernel_rfl
theorem Tryd.ag163 : aggB Tryd.prog 163 = some false := by kernel_rfl
theorem Tryd.cz163 : Tryd.prog.cellsOf 163 = 1 := by kernel_rfl
theorem Tryd.by163 : Tryd.prog.bytesOf 163 = 8 := by kernel_rfl
theorem Tryd.zb163 : zeroB Tryd.prog 163 = some [.nilFunc] := by kernel_rfl
theorem Tryd.ag165 : aggB Tryd.prog 165 = some false := by kernel_rfl
theorem Tryd.cz165 : Tryd.prog.cellsOf 165 = 1 := by kernel_rfl
theorem Tryd.by165 : Tryd.prog.bytesOf 165 = 8 := by kernel_rfl
theorem Tryd.zb165 : zeroB Tryd.prog 165 = some [.nilFunc] := by kernel_rfl
theorem Tryd.ag166 : aggB Tryd.prog 166 = some false := by kernel_rfl
theorem Tryd.cz166 : Tryd.prog.cellsOf 166 = 1 := by kernel_rfl
theorem Tryd.by166 : Tryd.prog.bytesOf 166 = 8 := by kernel_rfl
theorem Tryd.zb166 : zeroB Tryd.prog 166 = some [.nilFunc] := by kernel_rfl
theorem Tryd.ag167 : aggB Tryd.prog 167 = some false := by kernel_rfl
theorem Tryd.cz167 : Tryd.prog.cellsOf 167 = 1 := by kernel_rfl
theorem Tryd.by167 : Tryd.prog.bytesOf 167 = 8 := by kernel_rfl
theorem Tryd.zb167 : zeroB Tryd.prog 167 = some [.nilFunc] := by kernel_rfl
theorem Tryd.ag168 : aggB Tryd.prog 168 = some false := by kernel_rfl
theorem Tryd.cz168 : Tryd.prog.cellsOf 168 = 1 := by kernel_rfl
theorem Tryd.by168 : Tryd.prog.bytesOf 168 = 8 := by kernel_rfl
theorem Tryd.zb168 : zeroB Tryd.prog 168 = some [.nilFunc] := by kernel_rfl
theorem Tryd.ag170 : aggB Tryd.prog 170 = some false := by kernel_rfl
theorem Tryd.cz170 : Tryd.prog.cellsOf 170 = 1 := by kernel_rfl
theorem Tryd.by170 : Tryd.prog.bytesOf 170 = 8 := by kernel_rfl
theorem Tryd.zb170 : zeroB Tryd.prog 170 = some [.nilFunc] := by kernel_rfl
theorem Tryd.ag171 : aggB Tryd.prog 171 = some false := by kernel_rfl
theorem Tryd.cz171 : Tryd.prog.cellsOf 171 = 1 := by kernel_rfl
theorem Tryd.by171 : Tryd.prog.bytesOf 171 = 8 := by kernel_rfl
theorem Tryd.zb171 : zeroB Tryd.prog 171 = some [.nilFunc] := by kernel_rfl
theorem Tryd.ag172 : aggB Tryd.prog 172 = some false := by kernel_rfl
theorem Tryd.cz172 : Tryd.prog.cellsOf 172 = 1 := by kernel_rfl
theorem Tryd.by172 : Tryd.prog.bytesOf 172 = 8 := by kernel_rfl
theorem Tryd.zb172 : zeroB Tryd.prog 172 = some [.nilFunc] := by kernel_rfl
theorem Tryd.ag173 : aggB Tryd.prog 173 = some false := by kernel_rfl
theorem Tryd.cz173 : Tryd.prog.cellsOf 173 = 1 := by kernel_rfl
theorem Tryd.by173 : Tryd.prog.bytesOf 173 = 8 := by kernel_rfl
theorem Tryd.zb173 : zeroB Tryd.prog 173 = some [.nilFunc] := by kernel_rfl
theorem Tryd.ag174 : aggB Tryd.prog 174 = some false := by kernel_rfl
theorem Tryd.cz174 : Tryd.prog.cellsOf 174 = 1 := by kernel_rfl
theorem Tryd.by174 : Tryd.prog.bytesOf 174 = 8 := by kernel_rfl
theorem Tryd.zb174 : zeroB Tryd.prog 174 = some [.int .i64 0] := by kernel_rfl
theorem Tryd.ag176 : aggB Tryd.prog 176 = some false := by kernel_rfl
theorem Tryd.cz176 : Tryd.prog.cellsOf 176 = 1 := by kernel_rfl
theorem Tryd.by176 : Tryd.prog.bytesOf 176 = 8 := by kernel_rfl
theorem Tryd.zb176 : zeroB Tryd.prog 176 = some [.nilFunc] := by kernel_rfl
theorem Tryd.ag177 : aggB Tryd.prog 177 = some false := by kernel_rfl
theorem Tryd.cz177 : Tryd.prog.cellsOf 177 = 1 := by kernel_rfl
theorem Tryd.by177 : Tryd.prog.bytesOf 177 = 8 := by kernel_rfl
theorem Tryd.zb177 : zeroB Tryd.prog 177 = some [.nilFunc] := by kernel_rfl
theorem Tryd.ag178 : aggB Tryd.prog 178 = some false := by kernel_rfl
theorem Tryd.cz178 : Tryd.prog.cellsOf 178 = 1 := by kernel_rfl
theorem Tryd.by178 : Tryd.prog.bytesOf 178 = 8 := by kernel_rfl
theorem Tryd.zb178 : zeroB Tryd.prog 178 = some [.nilFunc] := by kernel_rfl
theorem Tryd.ag179 : aggB Tryd.prog 179 = some false := by kernel_rfl
theorem Tryd.cz179 : Tryd.prog.cellsOf 179 = 1 := by kernel_rfl
theorem Tryd.by179 : Tryd.prog.bytesOf 179 = 8 := by kernel_rfl
theorem Tryd.zb179 : zeroB Tryd.prog 179 = some [.nilFunc] := by kernel_rfl
theorem Tryd.ag180 : aggB Tryd.prog 180 = some false := by kernel_rfl
theorem Tryd.cz180 : Tryd.prog.cellsOf 180 = 1 := by kernel_rfl
theorem Tryd.by180 : Tryd.prog.bytesOf 180 = 8 := by kernel_rfl
theorem Tryd.zb180 : zeroB Tryd.prog 180 = some [.nilFunc] := by kernel_rfl
theorem Tryd.ag181 : aggB Tryd.prog 181 = some false := by kernel_rfl
theorem Tryd.cz181 : Tryd.prog.cellsOf 181 = 1 := by kernel_rfl
theorem Tryd.by181 : Tryd.prog.bytesOf 181 = 8 := by kernel_rfl
theorem Tryd.zb181 : zeroB Tryd.prog 181 = some [.nilFunc] := by kernel_rfl
theorem Tryd.ag182 : aggB Tryd.prog 182 = some false := by kernel_rfl
theorem Tryd.cz182 : Tryd.prog.cellsOf 182 = 1 := by kernel_rfl
theorem Tryd.by182 : Tryd.prog.bytesOf 182 = 8 := by kernel_rfl
theorem Tryd.zb182 : zeroB Tryd.prog 182 = some [.pointer none] := by kernel_rfl
theorem Tryd.ag183 : aggB Tryd.prog 183 = some false := by kernel_rfl
theorem Tryd.cz183 : Tryd.prog.cellsOf 183 = 1 := by kernel_rfl
theorem Tryd.by183 : Tryd.prog.bytesOf 183 = 8 := by kernel_rfl
theorem Tryd.zb183 : zeroB Tryd.prog 183 = some [.nilFunc] := by kernel_rfl
theorem Tryd.ag184 : aggB Tryd.prog 184 = some false := by kernel_rfl
theorem Tryd.cz184 : Tryd.prog.cellsOf 184 = 1 := by kernel_rfl
theorem Tryd.by184 : Tryd.prog.bytesOf 184 = 8 := by kernel_rfl
theorem Tryd.zb184 : zeroB Tryd.prog 184 = some [.pointer none] := by kernel_rfl
theorem Tryd.ag185 : aggB Tryd.prog 185 = some false := by kernel_rfl
theorem Tryd.cz185 : Tryd.prog.cellsOf 185 = 1 := by kernel_rfl
theorem Tryd.by185 : Tryd.prog.bytesOf 185 = 8 := by kernel_rfl
theorem Tryd.zb185 : zeroB Tryd.prog 185 = some [.int .u64 0] := by kernel_rfl
theorem Tryd.ag186 : aggB Tryd.prog 186 = some false := by kernel_rfl
theorem Tryd.cz186 : Tryd.prog.cellsOf 186 = 1 := by kernel_rfl
theorem Tryd.by186 : Tryd.prog.bytesOf 186 = 8 := by kernel_rfl
theorem Tryd.zb186 : zeroB Tryd.prog 186 = some [.nilFunc] := by kernel_rfl
theorem Tryd.ag187 : aggB Tryd.prog 187 = some false := by kernel_rfl
theorem Tryd.cz187 : Tryd.prog.cellsOf 187 = 1 := by kernel_rfl
theorem Tryd.by187 : Tryd.prog.bytesOf 187 = 8 := by kernel_rfl
theorem Tryd.zb187 : zeroB Tryd.prog 187 = some [.nilFunc] := by kernel_rfl
theorem Tryd.ag188 : aggB Tryd.prog 188 = some false := by kernel_rfl
theorem Tryd.cz188 : Tryd.prog.cellsOf 188 = 1 := by kernel_rfl
theorem Tryd.by188 : Tryd.prog.bytesOf 188 = 8 := by kernel_rfl
theorem Tryd.zb188 : zeroB Tryd.prog 188 = some [.nilFunc] := by kernel_rfl
theorem Tryd.ag189 : aggB Tryd.prog 189 = some false := by kernel_rfl
theorem Tryd.cz189 : Tryd.prog.cellsOf 189 = 1 := by kernel_rfl
theorem Tryd.by189 : Tryd.prog.bytesOf 189 = 8 := by kernel_rfl
theorem Tryd.zb189 : zeroB Tryd.prog 189 = some [.pointer none] := by kernel_rfl
theorem Tryd.ag190 : aggB Tryd.prog 190 = some false := by kernel_rfl
theorem Tryd.cz190 : Tryd.prog.cellsOf 190 = 1 := by kernel_rfl
theorem Tryd.by190 : Tryd.prog.bytesOf 190 = 8 := by kernel_rfl
theorem Tryd.zb190 : zeroB Tryd.prog 190 = some [.nilFunc] := by kernel_rfl
theorem Tryd.ag191 : aggB Tryd.prog 191 = some true := by kernel_rfl
theorem Tryd.cz191 : Tryd.prog.cellsOf 191 = 256 := by kernel_rfl
theorem Tryd.by191 : Tryd.prog.bytesOf 191 = 256 := by kernel_rfl
theorem Tryd.zb191 : zeroB Tryd.prog 191 = some [.int .u8 0, .int .u8 0, .int .u8 0, .int .u8 0, .int .u8 0, .int .u8 0, .int .u8 0, .int .u8 0, .int .u8 0, .int .u8 0, .int .u8 0, .int .u8 0, .int .u8 0, .int .u8 0, .int .u8 0, .int .u8 0, .int .u8 0, .int .u8 0, .int .u8 0, .int .u8 0, .int .u8 0, .int .u8 0, .int .u8 0, .int .u8 0, .int .u8 0, .int .u8 0, .int .u8 0, .int .u8 0, .int .u8 0, .int .u8 0, .int .u8 0, .int .u8 0, .int .u8 0, .int .u8 0, .int .u8 0, .int .u8 0, .int .u8 0, .int .u8 0, .int .u8 0, .int .u8 0, .int .u8 0, .int .u8 0, .int .u8 0, .int .u8 0, .int .u8 0, .int .u8 0, .int .u8 0, .int .u8 0, .int .u8 0, .int .u8 0, .int .u8 0, .int .u8 0, .int .u8 0, .int .u8 0, .int .u8 0, .int .u8 0, .int .u8 0, .int .u8 0, .int .u8 0, .int .u8 0, .int .u8 0, .int .u8 0, .int .u8 0, .int .u8 0, .int .u8 0, .int .u8 0, .int .u8 0, .int .u8 0, .int .u8 0, .int .u8 0, .int .u8 0, .int .u8 0, .int .u8 0, .int .u8 0, .int .u8 0, .int .u8 0, .int .u8 0, .int .u8 0, .int .u8 0, .int .u8 0, .int .u8 0, .int .u8 0, .int .u8 0, .int .u8 0, .int .u8 0, .int .u8 0, .int .u8 0, .int .u8 0, .int .u8 0, .int .u8 0, .int .u8 0, .int .u8 0, .int .u8 0, .int .u8 0, .int .u8 0, .int .u8 0, .int .u8 0, .int .u8 0, .int .u8 0, .int .u8 0, .int .u8 0, .int .u8 0, .int .u8 0, .int .u8 0, .int .u8 0, .int .u8 0, .int .u8 0, .int .u8 0, .int .u8 0, .int .u8 0, .int .u8 0, .int .u8 0, .int .u8 0, .int .u8 0, .int .u8 0, .int .u8 0, .int .u8 0, .int .u8 0, .int .u8 0, .int .u8 0, .int .u8 0, .int .u8 0, .int .u8 0, .int .u8 0, .int .u8 0, .int .u8 0, .int .u8 0, .int .u8 0, .int .u8 0, .int .u8 0, .int .u8 0, .int .u8 0, .int .u8 0, .int .u8 0, .int .u8 0, .int .u8 0, .int .u8 0, .int .u8 0, .int .u8 0, .int .u8 0, .int .u8 0, .int .u8 0, .int .u8 0, .int .u8 0, .int .u8 0, .int .u8 0, .int .u8 0, .int .u8 0, .int .u8 0, .int .u8 0, .int .u8 0, .int .u8 0, .int .u8 0, .int .u8 0, .int .u8 0, .int .u8 0, .int .u8 0, .int .u8 0, .int .u8 0, .int .u8 0, .int .u8 0, .int .u8 0, .int .u8 0, .int .u8 0, .int .u8 0, .int .u8 0, .int .u8 0, .int .u8 0, .int .u8 0, .int .u8 0, .int .u8 0, .int .u8 0, .int .u8 0, .int .u8 0, .int .u8 0, .int .u8 0, .int .u8 0, .int .u8 0, .int .u8 0, .int .u8 0, .int .u8 0, .int .u8 0, .int .u8 0, .int .u8 0, .int .u8 0, .int .u8 0, .int .u8 0, .int .u8 0, .int .u8 0, .int .u8 0, .int .u8 0, .int .u8 0, .int .u8 0, .int .u8 0, .int .u8 0, .int .u8 0, .int .u8 0, .int .u8 0, .int .u8 0, .int .u8 0, .int .u8 0, .int .u8 0, .int .u8 0, .int .u8 0, .int .u8 0, .int .u8 0, .int .u8 0, .int .u8 0, .int .u8 0, .int .u8 0, .int .u8 0, .int .u8 0, .int .u8 0, .int .u8 0, .int .u8 0, .int .u8 0, .int .u8 0, .int .u8 0, .int .u8 0, .int .u8 0, .int .u8 0, .int .u8 0, .int .u8 0, .int .u8 0, .int .u8 0, .int .u8 0, .int .u8 0, .int .u8 0, .int .u8 0, .int .u8 0, .int .u8 0, .int .u8 0, .int .u8 0, .int .u8 0, .int .u8 0, .int .u8 0, .int .u8 0, .int .u8 0, .int .u8 0, .int .u8 0, .int .u8 0, .int .u8 0, .int .u8 0, .int .u8 0, .int .u8 0, .int .u8 0, .int .u8 0, .int .u8 0, .int .u8 0, .int .u8 0, .int .u8 0, .int .u8 0, .int .u8 0, .int .u8 0, .int .u8 0, .int .u8 0] := by kernel_rfl
theorem Tryd.ar191 : arrB Tryd.prog 191 = some (256, 1) := by kernel_rfl
theorem Tryd.ag192 : aggB Tryd.prog 192 = some true := by kernel_rfl
theorem Tryd.cz192 : Tryd.prog.cellsOf 192 = 2 := by kernel_rfl
theorem Tryd.by192 : Tryd.prog.bytesOf 192 = 2 := by kernel_rfl
theorem Tryd.zb192 : zeroB Tryd.prog 192 = some [.int .u8 0, .int .u8 0] := by kernel_rfl
theorem Tryd.pl192 : placesB Tryd.prog 192 = some [(0, 1), (1, 1)] := by kernel_rfl
theorem Tryd.fd192_0 : fieldB Tryd.prog 192 0 = some 0 := by kernel_rfl
theorem Tryd.fd192_1 : fieldB Tryd.prog 192 1 = some 1 := by kernel_rfl
theorem Tryd.ag193 : aggB Tryd.prog 193 = some true := by kernel_rfl
theorem Tryd.cz193 : Tryd.prog.cellsOf 193 = 2 := by kernel_rfl
theorem Tryd.by193 : Tryd.prog.bytesOf 193 = 2 := by kernel_rfl
theorem Tryd.zb193 : zeroB Tryd.prog 193 = some [.int .u8 0, .int .u8 0] := by kernel_rfl
theorem Tryd.pl193 : placesB Tryd.prog 193 = some [(0, 1), (1, 1)] := by kernel_rfl
theorem Tryd.sh193 : Tryd.prog.stoodInHeld 193 = false := by kernel_rfl
theorem Tryd.eg193 : Tryd.prog.eqGuardType Tryd.prog.depth 193 = false := by kernel_rfl
theorem Tryd.fd193_0 : fieldB Tryd.prog 193 0 = some 0 := by kernel_rfl
theorem Tryd.fd193_1 : fieldB Tryd.prog 193 1 = some 1 := by kernel_rfl
theorem Tryd.ag194 : aggB Tryd.prog 194 = some true := by kernel_rfl
theorem Tryd.cz194 : Tryd.prog.cellsOf 194 = 32 := by kernel_rfl
theorem Tryd.by194 : Tryd.prog.bytesOf 194 = 32 := by kernel_rfl
theorem Tryd.zb194 : zeroB Tryd.prog 194 = some [.int .u8 0, .int .u8 0, .int .u8 0, .int .u8 0, .int .u8 0, .int .u8 0, .int .u8 0, .int .u8 0, .int .u8 0, .int .u8 0, .int .u8 0, .int .u8 0, .int .u8 0, .int .u8 0, .int .u8 0, .int .u8 0, .int .u8 0, .int .u8 0, .int .u8 0, .int .u8 0, .int .u8 0, .int .u8 0, .int .u8 0, .int .u8 0, .int .u8 0, .int .u8 0, .int .u8 0, .int .u8 0, .int .u8 0, .int .u8 0, .int .u8 0, .int .u8 0] := by kernel_rfl
theorem Tryd.ar194 : arrB Tryd.prog 194 = some (16, 2) := by kernel_rfl
theorem Tryd.ag195 : aggB Tryd.prog 195 = some false := by kernel_rfl
theorem Tryd.cz195 : Tryd.prog.cellsOf 195 = 1 := by kernel_rfl
theorem Tryd.by195 : Tryd.prog.bytesOf 195 = 8 := by kernel_rfl
theorem Tryd.zb195 : zeroB Tryd.prog 195 = some [.pointer none] := by kernel_rfl
theorem Tryd.ag197 : aggB Tryd.prog 197 = some false := by kernel_rfl
theorem Tryd.cz197 : Tryd.prog.cellsOf 197 = 1 := by kernel_rfl
theorem Tryd.by197 : Tryd.prog.bytesOf 197 = 8 := by kernel_rfl
theorem Tryd.zb197 : zeroB Tryd.prog 197 = some [.nilFunc] := by kernel_rfl
theorem Tryd.ag198 : aggB Tryd.prog 198 = some false := by kernel_rfl
theorem Tryd.cz198 : Tryd.prog.cellsOf 198 = 1 := by kernel_rfl
theorem Tryd.by198 : Tryd.prog.bytesOf 198 = 8 := by kernel_rfl
theorem Tryd.zb198 : zeroB Tryd.prog 198 = some [.nilFunc] := by kernel_rfl
theorem Tryd.ag199 : aggB Tryd.prog 199 = some true := by kernel_rfl
theorem Tryd.cz199 : Tryd.prog.cellsOf 199 = 4 := by kernel_rfl
theorem Tryd.by199 : Tryd.prog.bytesOf 199 = 40 := by kernel_rfl
theorem Tryd.zb199 : zeroB Tryd.prog 199 = some [.pointer none, .pointer none, .pointer none, .string ⟨#[]⟩] := by kernel_rfl
theorem Tryd.pl199 : placesB Tryd.prog 199 = some [(0, 1), (1, 1), (2, 1), (3, 1)] := by kernel_rfl
theorem Tryd.fd199_0 : fieldB Tryd.prog 199 0 = some 0 := by kernel_rfl
theorem Tryd.fd199_1 : fieldB Tryd.prog 199 1 = some 1 := by kernel_rfl
theorem Tryd.fd199_2 : fieldB Tryd.prog 199 2 = some 2 := by kernel_rfl
theorem Tryd.fd199_3 : fieldB Tryd.prog 199 3 = some 3 := by kernel_rfl
theorem Tryd.ag200 : aggB Tryd.prog 200 = some true := by kernel_rfl
theorem Tryd.cz200 : Tryd.prog.cellsOf 200 = 4 := by kernel_rfl
theorem Tryd.by200 : Tryd.prog.bytesOf 200 = 40 := by kernel_rfl
theorem Tryd.zb200 : zeroB Tryd.prog 200 = some [.pointer none, .pointer none, .pointer none, .string ⟨#[]⟩] := by kernel_rfl
theorem Tryd.pl200 : placesB Tryd.prog 200 = some [(0, 1), (1, 1), (2, 1), (3, 1)] := by kernel_rfl
theorem Tryd.fd200_0 : fieldB Tryd.prog 200 0 = some 0 := by kernel_rfl
theorem Tryd.fd200_1 : fieldB Tryd.prog 200 1 = some 1 := by kernel_rfl
theorem Tryd.fd200_2 : fieldB Tryd.prog 200 2 = some 2 := by kernel_rfl
theorem Tryd.fd200_3 : fieldB Tryd.prog 200 3 = some 3 := by kernel_rfl
theorem Tryd.ag201 : aggB Tryd.prog 201 = some true := by kernel_rfl
theorem Tryd.cz201 : Tryd.prog.cellsOf 201 = 0 := by kernel_rfl
theorem Tryd.zb201 : zeroB Tryd.prog 201 = some [] := by kernel_rfl
theorem Tryd.ar201 : arrB Tryd.prog 201 = some (0, 1) := by kernel_rfl
theorem Tryd.ag202 : aggB Tryd.prog 202 = some true := by kernel_rfl
theorem Tryd.cz202 : Tryd.prog.cellsOf 202 = 0 := by kernel_rfl
theorem Tryd.zb202 : zeroB Tryd.prog 202 = some [] := by kernel_rfl
theorem Tryd.ag203 : aggB Tryd.prog 203 = some true := by kernel_rfl
theorem Tryd.cz203 : Tryd.prog.cellsOf 203 = 0 := by kernel_rfl
theorem Tryd.zb203 : zeroB Tryd.prog 203 = some [] := by kernel_rfl
theorem Tryd.ag204 : aggB Tryd.prog 204 = some false := by kernel_rfl
theorem Tryd.cz204 : Tryd.prog.cellsOf 204 = 1 := by kernel_rfl
theorem Tryd.by204 : Tryd.prog.bytesOf 204 = 1 := by kernel_rfl
theorem Tryd.zb204 : zeroB Tryd.prog 204 = some [.int .u8 0] := by kernel_rfl
theorem Tryd.ag205 : aggB Tryd.prog 205 = some false := by kernel_rfl
theorem Tryd.cz205 : Tryd.prog.cellsOf 205 = 1 := by kernel_rfl
theorem Tryd.by205 : Tryd.prog.bytesOf 205 = 1 := by kernel_rfl
theorem Tryd.zb205 : zeroB Tryd.prog 205 = some [.int .u8 0] := by kernel_rfl
theorem Tryd.ag206 : aggB Tryd.prog 206 = some false := by kernel_rfl
theorem Tryd.cz206 : Tryd.prog.cellsOf 206 = 1 := by kernel_rfl
theorem Tryd.by206 : Tryd.prog.bytesOf 206 = 8 := by kernel_rfl
theorem Tryd.zb206 : zeroB Tryd.prog 206 = some [.nilFunc] := by kernel_rfl
theorem Tryd.ag207 : aggB Tryd.prog 207 = some false := by kernel_rfl
theorem Tryd.cz207 : Tryd.prog.cellsOf 207 = 1 := by kernel_rfl
theorem Tryd.by207 : Tryd.prog.bytesOf 207 = 8 := by kernel_rfl
theorem Tryd.zb207 : zeroB Tryd.prog 207 = some [.pointer none] := by kernel_rfl
theorem Tryd.ag208 : aggB Tryd.prog 208 = some false := by kernel_rfl
theorem Tryd.cz208 : Tryd.prog.cellsOf 208 = 1 := by kernel_rfl
theorem Tryd.by208 : Tryd.prog.bytesOf 208 = 4 := by kernel_rfl
theorem Tryd.zb208 : zeroB Tryd.prog 208 = some [.int .i32 0] := by kernel_rfl
theorem Tryd.ag209 : aggB Tryd.prog 209 = some false := by kernel_rfl
theorem Tryd.cz209 : Tryd.prog.cellsOf 209 = 1 := by kernel_rfl
theorem Tryd.by209 : Tryd.prog.bytesOf 209 = 4 := by kernel_rfl
theorem Tryd.zb209 : zeroB Tryd.prog 209 = some [.int .i32 0] := by kernel_rfl
theorem Tryd.ag210 : aggB Tryd.prog 210 = some true := by kernel_rfl
theorem Tryd.cz210 : Tryd.prog.cellsOf 210 = 11 := by kernel_rfl
theorem Tryd.by210 : Tryd.prog.bytesOf 210 = 48 := by kernel_rfl
theorem Tryd.zb210 : zeroB Tryd.prog 210 = some [.int .u64 0, .int .u64 0, .int .u32 0, .int .u8 0, .int .u8 0, .int .u8 0, .int .u8 0, .nilFunc, .pointer none, .int .i32 0, .int .i32 0] := by kernel_rfl
theorem Tryd.pl210 : placesB Tryd.prog 210 = some [(0, 1), (1, 1), (2, 1), (3, 1), (4, 1), (5, 1), (6, 1), (7, 1), (8, 1), (9, 1), (10, 1)] := by kernel_rfl
theorem Tryd.fd210_0 : fieldB Tryd.prog 210 0 = some 0 := by kernel_rfl
theorem Tryd.fd210_1 : fieldB Tryd.prog 210 1 = some 1 := by kernel_rfl
theorem Tryd.fd210_2 : fieldB Tryd.prog 210 2 = some 2 := by kernel_rfl
theorem Tryd.fd210_3 : fieldB Tryd.prog 210 3 = some 3 := by kernel_rfl
theorem Tryd.fd210_4 : fieldB Tryd.prog 210 4 = some 4 := by kernel_rfl
theorem Tryd.fd210_5 : fieldB Tryd.prog 210 5 = some 5 := by kernel_rfl
theorem Tryd.fd210_6 : fieldB Tryd.prog 210 6 = some 6 := by kernel_rfl
theorem Tryd.fd210_7 : fieldB Tryd.prog 210 7 = some 7 := by kernel_rfl
theorem Tryd.fd210_8 : fieldB Tryd.prog 210 8 = some 8 := by kernel_rfl
theorem Tryd.fd210_9 : fieldB Tryd.prog 210 9 = some 9 := by kernel_rfl
theorem Tryd.fd210_10 : fieldB Tryd.prog 210 10 = some 10 := by kernel_rfl
theorem Tryd.ag211 : aggB Tryd.prog 211 = some true := by kernel_rfl
theorem Tryd.cz211 : Tryd.prog.cellsOf 211 = 11 := by kernel_rfl
theorem Tryd.by211 : Tryd.prog.bytesOf 211 = 48 := by kernel_rfl
theorem Tryd.zb211 : zeroB Tryd.prog 211 = some [.int .u64 0, .int .u64 0, .int .u32 0, .int .u8 0, .int .u8 0, .int .u8 0, .int .u8 0, .nilFunc, .pointer none, .int .i32 0, .int .i32 0] := by kernel_rfl
theorem Tryd.pl211 : placesB Tryd.prog 211 = some [(0, 1), (1, 1), (2, 1), (3, 1), (4, 1), (5, 1), (6, 1), (7, 1), (8, 1), (9, 1), (10, 1)] := by kernel_rfl
theorem Tryd.fd211_0 : fieldB Tryd.prog 211 0 = some 0 := by kernel_rfl
theorem Tryd.fd211_1 : fieldB Tryd.prog 211 1 = some 1 := by kernel_rfl
theorem Tryd.fd211_2 : fieldB Tryd.prog 211 2 = some 2 := by kernel_rfl
theorem Tryd.fd211_3 : fieldB Tryd.prog 211 3 = some 3 := by kernel_rfl
theorem Tryd.fd211_4 : fieldB Tryd.prog 211 4 = some 4 := by kernel_rfl
theorem Tryd.fd211_5 : fieldB Tryd.prog 211 5 = some 5 := by kernel_rfl
theorem Tryd.fd211_6 : fieldB Tryd.prog 211 6 = some 6 := by kernel_rfl
theorem Tryd.fd211_7 : fieldB Tryd.prog 211 7 = some 7 := by kernel_rfl
theorem Tryd.fd211_8 : fieldB Tryd.prog 211 8 = some 8 := by kernel_rfl
theorem Tryd.fd211_9 : fieldB Tryd.prog 211 9 = some 9 := by kernel_rfl
theorem Tryd.fd211_10 : fieldB Tryd.prog 211 10 = some 10 := by kernel_rfl
theorem Tryd.ag212 : aggB Tryd.prog 212 = some false := by kernel_rfl
theorem Tryd.cz212 : Tryd.prog.cellsOf 212 = 1 := by kernel_rfl
theorem Tryd.by212 : Tryd.prog.bytesOf 212 = 8 := by kernel_rfl
theorem Tryd.zb212 : zeroB Tryd.prog 212 = some [.nilFunc] := by kernel_rfl
theorem Tryd.ag213 : aggB Tryd.prog 213 = some false := by kernel_rfl
theorem Tryd.cz213 : Tryd.prog.cellsOf 213 = 1 := by kernel_rfl
theorem Tryd.by213 : Tryd.prog.bytesOf 213 = 8 := by kernel_rfl
theorem Tryd.zb213 : zeroB Tryd.prog 213 = some [.pointer none] := by kernel_rfl
theorem Tryd.kt81 : KeyT Tryd.prog 3 (Value.int .i64) := KeyT.int Tryd.underlying3
theorem Tryd.zv3 : zeroV1 Tryd.prog 3 = some (.int .i64 0) := by kernel_rfl
theorem Tryd.kt82 : KeyT Tryd.prog 3 (Value.int .i64) := KeyT.int Tryd.underlying3
theorem Tryd.zv147 : zeroV1 Tryd.prog 147 = some (.slice none 0 0) := by kernel_rfl
theorem Tryd.kt85 : KeyT Tryd.prog 3 (Value.int .i64) := KeyT.int Tryd.underlying3
theorem Tryd.zv22 : zeroV1 Tryd.prog 22 = some (.slice none 0 0) := by kernel_rfl
theorem Tryd.kt93 : KeyT Tryd.prog 100 kpair := KeyT.pair Tryd.underlying100 Tryd.sh100 (by decide) (by decide) rfl rfl Tryd.underlying3 Tryd.underlying3
theorem Tryd.mixed : Tryd.prog.follows .mixedOrders = true := by kernel_rfl

end Go.Proofs
