/-
  CLOSED FACTS of the translation, by program. No macro, no axiom.
-/
import Derived.Test.YtjojlppmnebhgaaHlS
import Derived.Test.YtjojlppmnebhgaaChecked
namespace Go.Proofs
open Go.Hl

theorem Try.cb3 : callB Try.prog 3 = true := by kernel_rfl
theorem Try.cb4 : callB Try.prog 4 = true := by kernel_rfl
theorem Try.cb5 : callB Try.prog 5 = true := by kernel_rfl
theorem Try.cb6 : callB Try.prog 6 = true := by kernel_rfl
theorem Try.cb7 : callB Try.prog 7 = true := by kernel_rfl
theorem Try.cb8 : callB Try.prog 8 = true := by kernel_rfl
theorem Try.cb9 : callB Try.prog 9 = true := by kernel_rfl
theorem Try.cb10 : callB Try.prog 10 = true := by kernel_rfl
theorem Try.cb11 : callB Try.prog 11 = true := by kernel_rfl
theorem Try.cb12 : callB Try.prog 12 = true := by kernel_rfl
theorem Try.cb13 : callB Try.prog 13 = true := by kernel_rfl
theorem Try.cb14 : callB Try.prog 14 = true := by kernel_rfl
theorem Try.cb15 : callB Try.prog 15 = true := by kernel_rfl
theorem Try.cb16 : callB Try.prog 16 = true := by kernel_rfl
theorem Try.cb17 : callB Try.prog 17 = true := by kernel_rfl
theorem Try.cb18 : callB Try.prog 18 = true := by kernel_rfl
theorem Try.cb19 : callB Try.prog 19 = true := by kernel_rfl
theorem Try.cb20 : callB Try.prog 20 = true := by kernel_rfl
theorem Try.cb21 : callB Try.prog 21 = true := by kernel_rfl
theorem Try.cb22 : callB Try.prog 22 = true := by kernel_rfl
theorem Try.cb23 : callB Try.prog 23 = true := by kernel_rfl
theorem Try.cb24 : callB Try.prog 24 = true := by kernel_rfl
theorem Try.cb25 : callB Try.prog 25 = true := by kernel_rfl
theorem Try.cb26 : callB Try.prog 26 = true := by kernel_rfl
theorem Try.cb27 : callB Try.prog 27 = true := by kernel_rfl
theorem Try.cb28 : callB Try.prog 28 = true := by kernel_rfl
theorem Try.cb29 : callB Try.prog 29 = true := by kernel_rfl
theorem Try.cb30 : callB Try.prog 30 = true := by kernel_rfl
theorem Try.cb31 : callB Try.prog 31 = true := by kernel_rfl
theorem Try.cb32 : callB Try.prog 32 = true := by kernel_rfl
theorem Try.cb33 : callB Try.prog 33 = true := by kernel_rfl
theorem Try.cb34 : callB Try.prog 34 = true := by kernel_rfl
theorem Try.cb35 : callB Try.prog 35 = true := by kernel_rfl
theorem Try.cb36 : callB Try.prog 36 = true := by kernel_rfl
theorem Try.cb37 : callB Try.prog 37 = true := by kernel_rfl
theorem Try.cb38 : callB Try.prog 38 = true := by kernel_rfl
theorem Try.cb39 : callB Try.prog 39 = true := by kernel_rfl
theorem Try.cb40 : callB Try.prog 40 = true := by kernel_rfl
theorem Try.cb41 : callB Try.prog 41 = true := by kernel_rfl
theorem Try.cb42 : callB Try.prog 42 = true := by kernel_rfl
theorem Try.cb43 : callB Try.prog 43 = true := by kernel_rfl
theorem Try.cb44 : callB Try.prog 44 = true := by kernel_rfl
theorem Try.cb45 : callB Try.prog 45 = true := by kernel_rfl
theorem Try.cb46 : callB Try.prog 46 = true := by kernel_rfl
theorem Try.cb47 : callB Try.prog 47 = true := by kernel_rfl
theorem Try.cb48 : callB Try.prog 48 = true := by kernel_rfl
theorem Try.cb49 : callB Try.prog 49 = true := by kernel_rfl
theorem Try.cb50 : callB Try.prog 50 = true := by kernel_rfl
theorem Try.cb51 : callB Try.prog 51 = true := by kernel_rfl
theorem Try.cb52 : callB Try.prog 52 = true := by kernel_rfl
theorem Try.cb53 : callB Try.prog 53 = true := by kernel_rfl
theorem Try.cb54 : callB Try.prog 54 = true := by kernel_rfl
theorem Try.cb55 : callB Try.prog 55 = true := by kernel_rfl
theorem Try.cb56 : callB Try.prog 56 = true := by kernel_rfl
theorem Try.cb57 : callB Try.prog 57 = true := by kernel_rfl
theorem Try.cb58 : callB Try.prog 58 = true := by kernel_rfl
theorem Try.cb59 : callB Try.prog 59 = true := by kernel_rfl
theorem Try.cb60 : callB Try.prog 60 = true := by kernel_rfl
theorem Try.cb61 : callB Try.prog 61 = true := by kernel_rfl
theorem Try.cb62 : callB Try.prog 62 = true := by kernel_rfl
theorem Try.cb63 : callB Try.prog 63 = true := by kernel_rfl
theorem Try.cb65 : callB Try.prog 65 = true := by kernel_rfl
theorem Try.cb66 : callB Try.prog 66 = true := by kernel_rfl
theorem Try.cb67 : callB Try.prog 67 = true := by kernel_rfl
theorem Try.cb69 : callB Try.prog 69 = true := by kernel_rfl
theorem Try.xt68 : extB Try.prog 68 Extern.BytealgIndexByte.indexByte := fun args w => Go.run_callFunc_extern Try.func68 (by kernel_rfl) (by kernel_rfl) (by kernel_rfl) (by kernel_rfl) args w
theorem Try.ag1 : aggB Try.prog 1 = some false := by kernel_rfl
theorem Try.cz1 : Try.prog.cellsOf 1 = 1 := by kernel_rfl
theorem Try.by1 : Try.prog.bytesOf 1 = 8 := by kernel_rfl
theorem Try.zb1 : zeroB Try.prog 1 = some [.nilFunc] := by kernel_rfl
theorem Try.ag2 : aggB Try.prog 2 = some false := by kernel_rfl
theorem Try.cz2 : Try.prog.cellsOf 2 = 1 := by kernel_rfl
theorem Try.by2 : Try.prog.bytesOf 2 = 8 := by kernel_rfl
theorem Try.zb2 : zeroB Try.prog 2 = some [.int .i64 0] := by kernel_rfl
theorem Try.ag3 : aggB Try.prog 3 = some false := by kernel_rfl
theorem Try.cz3 : Try.prog.cellsOf 3 = 1 := by kernel_rfl
theorem Try.by3 : Try.prog.bytesOf 3 = 8 := by kernel_rfl
theorem Try.zb3 : zeroB Try.prog 3 = some [.int .i64 0] := by kernel_rfl
theorem Try.ag4 : aggB Try.prog 4 = some false := by kernel_rfl
theorem Try.cz4 : Try.prog.cellsOf 4 = 1 := by kernel_rfl
theorem Try.by4 : Try.prog.bytesOf 4 = 1 := by kernel_rfl
theorem Try.zb4 : zeroB Try.prog 4 = some [.bool false] := by kernel_rfl
theorem Try.ag5 : aggB Try.prog 5 = some false := by kernel_rfl
theorem Try.cz5 : Try.prog.cellsOf 5 = 1 := by kernel_rfl
theorem Try.by5 : Try.prog.bytesOf 5 = 1 := by kernel_rfl
theorem Try.zb5 : zeroB Try.prog 5 = some [.int .u8 0] := by kernel_rfl
theorem Try.ag6 : aggB Try.prog 6 = some false := by kernel_rfl
theorem Try.cz6 : Try.prog.cellsOf 6 = 1 := by kernel_rfl
theorem Try.by6 : Try.prog.bytesOf 6 = 1 := by kernel_rfl
theorem Try.zb6 : zeroB Try.prog 6 = some [.int .u8 0] := by kernel_rfl
theorem Try.ag7 : aggB Try.prog 7 = some true := by kernel_rfl
theorem Try.cz7 : Try.prog.cellsOf 7 = 4 := by kernel_rfl
theorem Try.by7 : Try.prog.bytesOf 7 = 24 := by kernel_rfl
theorem Try.zb7 : zeroB Try.prog 7 = some [.int .i64 0, .int .i64 0, .bool false, .int .u8 0] := by kernel_rfl
theorem Try.pl7 : placesB Try.prog 7 = some [(0, 1), (1, 1), (2, 1), (3, 1)] := by kernel_rfl
theorem Try.fd7_0 : fieldB Try.prog 7 0 = some 0 := by kernel_rfl
theorem Try.fd7_1 : fieldB Try.prog 7 1 = some 1 := by kernel_rfl
theorem Try.fd7_2 : fieldB Try.prog 7 2 = some 2 := by kernel_rfl
theorem Try.fd7_3 : fieldB Try.prog 7 3 = some 3 := by kernel_rfl
theorem Try.ag8 : aggB Try.prog 8 = some true := by kernel_rfl
theorem Try.cz8 : Try.prog.cellsOf 8 = 4 := by kernel_rfl
theorem Try.by8 : Try.prog.bytesOf 8 = 24 := by kernel_rfl
theorem Try.zb8 : zeroB Try.prog 8 = some [.int .i64 0, .int .i64 0, .bool false, .int .u8 0] := by kernel_rfl
theorem Try.pl8 : placesB Try.prog 8 = some [(0, 1), (1, 1), (2, 1), (3, 1)] := by kernel_rfl
theorem Try.fd8_0 : fieldB Try.prog 8 0 = some 0 := by kernel_rfl
theorem Try.fd8_1 : fieldB Try.prog 8 1 = some 1 := by kernel_rfl
theorem Try.fd8_2 : fieldB Try.prog 8 2 = some 2 := by kernel_rfl
theorem Try.fd8_3 : fieldB Try.prog 8 3 = some 3 := by kernel_rfl
theorem Try.ag9 : aggB Try.prog 9 = some false := by kernel_rfl
theorem Try.cz9 : Try.prog.cellsOf 9 = 1 := by kernel_rfl
theorem Try.by9 : Try.prog.bytesOf 9 = 16 := by kernel_rfl
theorem Try.zb9 : zeroB Try.prog 9 = some [.string ⟨#[]⟩] := by kernel_rfl
theorem Try.ag10 : aggB Try.prog 10 = some false := by kernel_rfl
theorem Try.cz10 : Try.prog.cellsOf 10 = 1 := by kernel_rfl
theorem Try.by10 : Try.prog.bytesOf 10 = 16 := by kernel_rfl
theorem Try.zb10 : zeroB Try.prog 10 = some [.string ⟨#[]⟩] := by kernel_rfl
theorem Try.ag11 : aggB Try.prog 11 = some false := by kernel_rfl
theorem Try.cz11 : Try.prog.cellsOf 11 = 1 := by kernel_rfl
theorem Try.by11 : Try.prog.bytesOf 11 = 16 := by kernel_rfl
theorem Try.zb11 : zeroB Try.prog 11 = some [.string ⟨#[]⟩] := by kernel_rfl
theorem Try.ag12 : aggB Try.prog 12 = some false := by kernel_rfl
theorem Try.cz12 : Try.prog.cellsOf 12 = 1 := by kernel_rfl
theorem Try.by12 : Try.prog.bytesOf 12 = 8 := by kernel_rfl
theorem Try.zb12 : zeroB Try.prog 12 = some [.int .u64 0] := by kernel_rfl
theorem Try.ag13 : aggB Try.prog 13 = some true := by kernel_rfl
theorem Try.cz13 : Try.prog.cellsOf 13 = 2 := by kernel_rfl
theorem Try.by13 : Try.prog.bytesOf 13 = 24 := by kernel_rfl
theorem Try.zb13 : zeroB Try.prog 13 = some [.string ⟨#[]⟩, .int .u64 0] := by kernel_rfl
theorem Try.pl13 : placesB Try.prog 13 = some [(0, 1), (1, 1)] := by kernel_rfl
theorem Try.fd13_0 : fieldB Try.prog 13 0 = some 0 := by kernel_rfl
theorem Try.fd13_1 : fieldB Try.prog 13 1 = some 1 := by kernel_rfl
theorem Try.ag14 : aggB Try.prog 14 = some true := by kernel_rfl
theorem Try.cz14 : Try.prog.cellsOf 14 = 2 := by kernel_rfl
theorem Try.by14 : Try.prog.bytesOf 14 = 24 := by kernel_rfl
theorem Try.zb14 : zeroB Try.prog 14 = some [.string ⟨#[]⟩, .int .u64 0] := by kernel_rfl
theorem Try.pl14 : placesB Try.prog 14 = some [(0, 1), (1, 1)] := by kernel_rfl
theorem Try.fd14_0 : fieldB Try.prog 14 0 = some 0 := by kernel_rfl
theorem Try.fd14_1 : fieldB Try.prog 14 1 = some 1 := by kernel_rfl
theorem Try.ag15 : aggB Try.prog 15 = some false := by kernel_rfl
theorem Try.cz15 : Try.prog.cellsOf 15 = 1 := by kernel_rfl
theorem Try.by15 : Try.prog.bytesOf 15 = 8 := by kernel_rfl
theorem Try.zb15 : zeroB Try.prog 15 = some [.pointer none] := by kernel_rfl
theorem Try.ag16 : aggB Try.prog 16 = some false := by kernel_rfl
theorem Try.cz16 : Try.prog.cellsOf 16 = 1 := by kernel_rfl
theorem Try.by16 : Try.prog.bytesOf 16 = 8 := by kernel_rfl
theorem Try.zb16 : zeroB Try.prog 16 = some [.pointer none] := by kernel_rfl
theorem Try.ag17 : aggB Try.prog 17 = some false := by kernel_rfl
theorem Try.cz17 : Try.prog.cellsOf 17 = 1 := by kernel_rfl
theorem Try.by17 : Try.prog.bytesOf 17 = 8 := by kernel_rfl
theorem Try.zb17 : zeroB Try.prog 17 = some [.pointer none] := by kernel_rfl
theorem Try.ag18 : aggB Try.prog 18 = some true := by kernel_rfl
theorem Try.cz18 : Try.prog.cellsOf 18 = 1 := by kernel_rfl
theorem Try.by18 : Try.prog.bytesOf 18 = 8 := by kernel_rfl
theorem Try.zb18 : zeroB Try.prog 18 = some [.pointer none] := by kernel_rfl
theorem Try.pl18 : placesB Try.prog 18 = some [(0, 1)] := by kernel_rfl
theorem Try.fd18_0 : fieldB Try.prog 18 0 = some 0 := by kernel_rfl
theorem Try.ag19 : aggB Try.prog 19 = some true := by kernel_rfl
theorem Try.cz19 : Try.prog.cellsOf 19 = 1 := by kernel_rfl
theorem Try.by19 : Try.prog.bytesOf 19 = 8 := by kernel_rfl
theorem Try.zb19 : zeroB Try.prog 19 = some [.pointer none] := by kernel_rfl
theorem Try.pl19 : placesB Try.prog 19 = some [(0, 1)] := by kernel_rfl
theorem Try.fd19_0 : fieldB Try.prog 19 0 = some 0 := by kernel_rfl
theorem Try.ag20 : aggB Try.prog 20 = some false := by kernel_rfl
theorem Try.cz20 : Try.prog.cellsOf 20 = 1 := by kernel_rfl
theorem Try.by20 : Try.prog.bytesOf 20 = 16 := by kernel_rfl
theorem Try.zb20 : zeroB Try.prog 20 = some [.nilIface] := by kernel_rfl
theorem Try.ag21 : aggB Try.prog 21 = some false := by kernel_rfl
theorem Try.cz21 : Try.prog.cellsOf 21 = 1 := by kernel_rfl
theorem Try.by21 : Try.prog.bytesOf 21 = 4 := by kernel_rfl
theorem Try.zb21 : zeroB Try.prog 21 = some [.int .i32 0] := by kernel_rfl
theorem Try.ag23 : aggB Try.prog 23 = some false := by kernel_rfl
theorem Try.cz23 : Try.prog.cellsOf 23 = 1 := by kernel_rfl
theorem Try.by23 : Try.prog.bytesOf 23 = 8 := by kernel_rfl
theorem Try.zb23 : zeroB Try.prog 23 = some [.nilFunc] := by kernel_rfl
theorem Try.ag24 : aggB Try.prog 24 = some false := by kernel_rfl
theorem Try.cz24 : Try.prog.cellsOf 24 = 1 := by kernel_rfl
theorem Try.by24 : Try.prog.bytesOf 24 = 8 := by kernel_rfl
theorem Try.zb24 : zeroB Try.prog 24 = some [.nilFunc] := by kernel_rfl
theorem Try.ag25 : aggB Try.prog 25 = some false := by kernel_rfl
theorem Try.cz25 : Try.prog.cellsOf 25 = 1 := by kernel_rfl
theorem Try.by25 : Try.prog.bytesOf 25 = 8 := by kernel_rfl
theorem Try.zb25 : zeroB Try.prog 25 = some [.nilFunc] := by kernel_rfl
theorem Try.ag26 : aggB Try.prog 26 = some false := by kernel_rfl
theorem Try.cz26 : Try.prog.cellsOf 26 = 1 := by kernel_rfl
theorem Try.by26 : Try.prog.bytesOf 26 = 24 := by kernel_rfl
theorem Try.zb26 : zeroB Try.prog 26 = some [.slice none 0 0] := by kernel_rfl
theorem Try.ag27 : aggB Try.prog 27 = some false := by kernel_rfl
theorem Try.cz27 : Try.prog.cellsOf 27 = 1 := by kernel_rfl
theorem Try.by27 : Try.prog.bytesOf 27 = 24 := by kernel_rfl
theorem Try.zb27 : zeroB Try.prog 27 = some [.slice none 0 0] := by kernel_rfl
theorem Try.ag28 : aggB Try.prog 28 = some false := by kernel_rfl
theorem Try.cz28 : Try.prog.cellsOf 28 = 1 := by kernel_rfl
theorem Try.by28 : Try.prog.bytesOf 28 = 8 := by kernel_rfl
theorem Try.zb28 : zeroB Try.prog 28 = some [.nilFunc] := by kernel_rfl
theorem Try.ag29 : aggB Try.prog 29 = some false := by kernel_rfl
theorem Try.cz29 : Try.prog.cellsOf 29 = 1 := by kernel_rfl
theorem Try.by29 : Try.prog.bytesOf 29 = 24 := by kernel_rfl
theorem Try.zb29 : zeroB Try.prog 29 = some [.slice none 0 0] := by kernel_rfl
theorem Try.ag30 : aggB Try.prog 30 = some true := by kernel_rfl
theorem Try.cz30 : Try.prog.cellsOf 30 = 5 := by kernel_rfl
theorem Try.by30 : Try.prog.bytesOf 30 = 80 := by kernel_rfl
theorem Try.zb30 : zeroB Try.prog 30 = some [.int .i64 0, .string ⟨#[]⟩, .int .i64 0, .slice none 0 0, .slice none 0 0] := by kernel_rfl
theorem Try.pl30 : placesB Try.prog 30 = some [(0, 1), (1, 1), (2, 1), (3, 1), (4, 1)] := by kernel_rfl
theorem Try.fd30_0 : fieldB Try.prog 30 0 = some 0 := by kernel_rfl
theorem Try.fd30_1 : fieldB Try.prog 30 1 = some 1 := by kernel_rfl
theorem Try.fd30_2 : fieldB Try.prog 30 2 = some 2 := by kernel_rfl
theorem Try.fd30_3 : fieldB Try.prog 30 3 = some 3 := by kernel_rfl
theorem Try.fd30_4 : fieldB Try.prog 30 4 = some 4 := by kernel_rfl
theorem Try.ag31 : aggB Try.prog 31 = some true := by kernel_rfl
theorem Try.cz31 : Try.prog.cellsOf 31 = 5 := by kernel_rfl
theorem Try.by31 : Try.prog.bytesOf 31 = 80 := by kernel_rfl
theorem Try.zb31 : zeroB Try.prog 31 = some [.int .i64 0, .string ⟨#[]⟩, .int .i64 0, .slice none 0 0, .slice none 0 0] := by kernel_rfl
theorem Try.pl31 : placesB Try.prog 31 = some [(0, 1), (1, 1), (2, 1), (3, 1), (4, 1)] := by kernel_rfl
theorem Try.sh31 : Try.prog.stoodInHeld 31 = false := by kernel_rfl
theorem Try.eg31 : Try.prog.eqGuardType Try.prog.depth 31 = false := by kernel_rfl
theorem Try.fd31_0 : fieldB Try.prog 31 0 = some 0 := by kernel_rfl
theorem Try.fd31_1 : fieldB Try.prog 31 1 = some 1 := by kernel_rfl
theorem Try.fd31_2 : fieldB Try.prog 31 2 = some 2 := by kernel_rfl
theorem Try.fd31_3 : fieldB Try.prog 31 3 = some 3 := by kernel_rfl
theorem Try.fd31_4 : fieldB Try.prog 31 4 = some 4 := by kernel_rfl
theorem Try.ag33 : aggB Try.prog 33 = some false := by kernel_rfl
theorem Try.cz33 : Try.prog.cellsOf 33 = 1 := by kernel_rfl
theorem Try.by33 : Try.prog.bytesOf 33 = 8 := by kernel_rfl
theorem Try.zb33 : zeroB Try.prog 33 = some [.nilFunc] := by kernel_rfl
theorem Try.ag34 : aggB Try.prog 34 = some false := by kernel_rfl
theorem Try.cz34 : Try.prog.cellsOf 34 = 1 := by kernel_rfl
theorem Try.by34 : Try.prog.bytesOf 34 = 1 := by kernel_rfl
theorem Try.zb34 : zeroB Try.prog 34 = some [.int .u8 0] := by kernel_rfl
theorem Try.ag35 : aggB Try.prog 35 = some false := by kernel_rfl
theorem Try.cz35 : Try.prog.cellsOf 35 = 1 := by kernel_rfl
theorem Try.by35 : Try.prog.bytesOf 35 = 24 := by kernel_rfl
theorem Try.zb35 : zeroB Try.prog 35 = some [.slice none 0 0] := by kernel_rfl
theorem Try.ag36 : aggB Try.prog 36 = some false := by kernel_rfl
theorem Try.cz36 : Try.prog.cellsOf 36 = 1 := by kernel_rfl
theorem Try.by36 : Try.prog.bytesOf 36 = 8 := by kernel_rfl
theorem Try.zb36 : zeroB Try.prog 36 = some [.nilFunc] := by kernel_rfl
theorem Try.ag37 : aggB Try.prog 37 = some false := by kernel_rfl
theorem Try.cz37 : Try.prog.cellsOf 37 = 1 := by kernel_rfl
theorem Try.by37 : Try.prog.bytesOf 37 = 24 := by kernel_rfl
theorem Try.zb37 : zeroB Try.prog 37 = some [.slice none 0 0] := by kernel_rfl
theorem Try.ag39 : aggB Try.prog 39 = some false := by kernel_rfl
theorem Try.cz39 : Try.prog.cellsOf 39 = 1 := by kernel_rfl
theorem Try.by39 : Try.prog.bytesOf 39 = 8 := by kernel_rfl
theorem Try.zb39 : zeroB Try.prog 39 = some [.nilFunc] := by kernel_rfl
theorem Try.ag40 : aggB Try.prog 40 = some false := by kernel_rfl
theorem Try.cz40 : Try.prog.cellsOf 40 = 1 := by kernel_rfl
theorem Try.by40 : Try.prog.bytesOf 40 = 8 := by kernel_rfl
theorem Try.zb40 : zeroB Try.prog 40 = some [.nilFunc] := by kernel_rfl
theorem Try.ag41 : aggB Try.prog 41 = some false := by kernel_rfl
theorem Try.cz41 : Try.prog.cellsOf 41 = 1 := by kernel_rfl
theorem Try.by41 : Try.prog.bytesOf 41 = 8 := by kernel_rfl
theorem Try.zb41 : zeroB Try.prog 41 = some [.nilFunc] := by kernel_rfl
theorem Try.ag42 : aggB Try.prog 42 = some false := by kernel_rfl
theorem Try.cz42 : Try.prog.cellsOf 42 = 1 := by kernel_rfl
theorem Try.by42 : Try.prog.bytesOf 42 = 8 := by kernel_rfl
theorem Try.zb42 : zeroB Try.prog 42 = some [.int .u64 0] := by kernel_rfl
theorem Try.ag43 : aggB Try.prog 43 = some false := by kernel_rfl
theorem Try.cz43 : Try.prog.cellsOf 43 = 1 := by kernel_rfl
theorem Try.by43 : Try.prog.bytesOf 43 = 8 := by kernel_rfl
theorem Try.zb43 : zeroB Try.prog 43 = some [.nilFunc] := by kernel_rfl
theorem Try.ag44 : aggB Try.prog 44 = some false := by kernel_rfl
theorem Try.cz44 : Try.prog.cellsOf 44 = 1 := by kernel_rfl
theorem Try.by44 : Try.prog.bytesOf 44 = 8 := by kernel_rfl
theorem Try.zb44 : zeroB Try.prog 44 = some [.nilFunc] := by kernel_rfl
theorem Try.ag46 : aggB Try.prog 46 = some false := by kernel_rfl
theorem Try.cz46 : Try.prog.cellsOf 46 = 1 := by kernel_rfl
theorem Try.by46 : Try.prog.bytesOf 46 = 8 := by kernel_rfl
theorem Try.zb46 : zeroB Try.prog 46 = some [.nilFunc] := by kernel_rfl
theorem Try.ag47 : aggB Try.prog 47 = some false := by kernel_rfl
theorem Try.cz47 : Try.prog.cellsOf 47 = 1 := by kernel_rfl
theorem Try.by47 : Try.prog.bytesOf 47 = 8 := by kernel_rfl
theorem Try.zb47 : zeroB Try.prog 47 = some [.nilFunc] := by kernel_rfl
theorem Try.ag48 : aggB Try.prog 48 = some true := by kernel_rfl
theorem Try.cz48 : Try.prog.cellsOf 48 = 5 := by kernel_rfl
theorem Try.by48 : Try.prog.bytesOf 48 = 40 := by kernel_rfl
theorem Try.zb48 : zeroB Try.prog 48 = some [.int .i64 0, .int .i64 0, .int .i64 0, .int .i64 0, .int .i64 0] := by kernel_rfl
theorem Try.pl48 : placesB Try.prog 48 = some [(0, 1), (1, 1), (2, 1), (3, 1), (4, 1)] := by kernel_rfl
theorem Try.fd48_0 : fieldB Try.prog 48 0 = some 0 := by kernel_rfl
theorem Try.fd48_1 : fieldB Try.prog 48 1 = some 1 := by kernel_rfl
theorem Try.fd48_2 : fieldB Try.prog 48 2 = some 2 := by kernel_rfl
theorem Try.fd48_3 : fieldB Try.prog 48 3 = some 3 := by kernel_rfl
theorem Try.fd48_4 : fieldB Try.prog 48 4 = some 4 := by kernel_rfl
theorem Try.ag49 : aggB Try.prog 49 = some true := by kernel_rfl
theorem Try.cz49 : Try.prog.cellsOf 49 = 5 := by kernel_rfl
theorem Try.by49 : Try.prog.bytesOf 49 = 40 := by kernel_rfl
theorem Try.zb49 : zeroB Try.prog 49 = some [.int .i64 0, .int .i64 0, .int .i64 0, .int .i64 0, .int .i64 0] := by kernel_rfl
theorem Try.pl49 : placesB Try.prog 49 = some [(0, 1), (1, 1), (2, 1), (3, 1), (4, 1)] := by kernel_rfl
theorem Try.sh49 : Try.prog.stoodInHeld 49 = false := by kernel_rfl
theorem Try.eg49 : Try.prog.eqGuardType Try.prog.depth 49 = false := by kernel_rfl
theorem Try.fd49_0 : fieldB Try.prog 49 0 = some 0 := by kernel_rfl
theorem Try.fd49_1 : fieldB Try.prog 49 1 = some 1 := by kernel_rfl
theorem Try.fd49_2 : fieldB Try.prog 49 2 = some 2 := by kernel_rfl
theorem Try.fd49_3 : fieldB Try.prog 49 3 = some 3 := by kernel_rfl
theorem Try.fd49_4 : fieldB Try.prog 49 4 = some 4 := by kernel_rfl
theorem Try.ag50 : aggB Try.prog 50 = some true := by kernel_rfl
theorem Try.cz50 : Try.prog.cellsOf 50 = 40 := by kernel_rfl
theorem Try.by50 : Try.prog.bytesOf 50 = 320 := by kernel_rfl
theorem Try.zb50 : zeroB Try.prog 50 = some [.int .i64 0, .int .i64 0, .int .i64 0, .int .i64 0, .int .i64 0, .int .i64 0, .int .i64 0, .int .i64 0, .int .i64 0, .int .i64 0, .int .i64 0, .int .i64 0, .int .i64 0, .int .i64 0, .int .i64 0, .int .i64 0, .int .i64 0, .int .i64 0, .int .i64 0, .int .i64 0, .int .i64 0, .int .i64 0, .int .i64 0, .int .i64 0, .int .i64 0, .int .i64 0, .int .i64 0, .int .i64 0, .int .i64 0, .int .i64 0, .int .i64 0, .int .i64 0, .int .i64 0, .int .i64 0, .int .i64 0, .int .i64 0, .int .i64 0, .int .i64 0, .int .i64 0, .int .i64 0] := by kernel_rfl
theorem Try.ar50 : arrB Try.prog 50 = some (8, 5) := by kernel_rfl
theorem Try.ag51 : aggB Try.prog 51 = some false := by kernel_rfl
theorem Try.cz51 : Try.prog.cellsOf 51 = 1 := by kernel_rfl
theorem Try.by51 : Try.prog.bytesOf 51 = 8 := by kernel_rfl
theorem Try.zb51 : zeroB Try.prog 51 = some [.nilFunc] := by kernel_rfl
theorem Try.ag52 : aggB Try.prog 52 = some true := by kernel_rfl
theorem Try.cz52 : Try.prog.cellsOf 52 = 5 := by kernel_rfl
theorem Try.by52 : Try.prog.bytesOf 52 = 64 := by kernel_rfl
theorem Try.zb52 : zeroB Try.prog 52 = some [.int .i64 0, .string ⟨#[]⟩, .int .i64 0, .string ⟨#[]⟩, .string ⟨#[]⟩] := by kernel_rfl
theorem Try.pl52 : placesB Try.prog 52 = some [(0, 1), (1, 1), (2, 1), (3, 1), (4, 1)] := by kernel_rfl
theorem Try.fd52_0 : fieldB Try.prog 52 0 = some 0 := by kernel_rfl
theorem Try.fd52_1 : fieldB Try.prog 52 1 = some 1 := by kernel_rfl
theorem Try.fd52_2 : fieldB Try.prog 52 2 = some 2 := by kernel_rfl
theorem Try.fd52_3 : fieldB Try.prog 52 3 = some 3 := by kernel_rfl
theorem Try.fd52_4 : fieldB Try.prog 52 4 = some 4 := by kernel_rfl
theorem Try.ag53 : aggB Try.prog 53 = some true := by kernel_rfl
theorem Try.cz53 : Try.prog.cellsOf 53 = 5 := by kernel_rfl
theorem Try.by53 : Try.prog.bytesOf 53 = 64 := by kernel_rfl
theorem Try.zb53 : zeroB Try.prog 53 = some [.int .i64 0, .string ⟨#[]⟩, .int .i64 0, .string ⟨#[]⟩, .string ⟨#[]⟩] := by kernel_rfl
theorem Try.pl53 : placesB Try.prog 53 = some [(0, 1), (1, 1), (2, 1), (3, 1), (4, 1)] := by kernel_rfl
theorem Try.sh53 : Try.prog.stoodInHeld 53 = false := by kernel_rfl
theorem Try.eg53 : Try.prog.eqGuardType Try.prog.depth 53 = false := by kernel_rfl
theorem Try.fd53_0 : fieldB Try.prog 53 0 = some 0 := by kernel_rfl
theorem Try.fd53_1 : fieldB Try.prog 53 1 = some 1 := by kernel_rfl
theorem Try.fd53_2 : fieldB Try.prog 53 2 = some 2 := by kernel_rfl
theorem Try.fd53_3 : fieldB Try.prog 53 3 = some 3 := by kernel_rfl
theorem Try.fd53_4 : fieldB Try.prog 53 4 = some 4 := by kernel_rfl
theorem Try.ag55 : aggB Try.prog 55 = some false := by kernel_rfl
theorem Try.cz55 : Try.prog.cellsOf 55 = 1 := by kernel_rfl
theorem Try.by55 : Try.prog.bytesOf 55 = 8 := by kernel_rfl
theorem Try.zb55 : zeroB Try.prog 55 = some [.nilFunc] := by kernel_rfl
theorem Try.ag56 : aggB Try.prog 56 = some false := by kernel_rfl
theorem Try.cz56 : Try.prog.cellsOf 56 = 1 := by kernel_rfl
theorem Try.by56 : Try.prog.bytesOf 56 = 8 := by kernel_rfl
theorem Try.zb56 : zeroB Try.prog 56 = some [.nilFunc] := by kernel_rfl
theorem Try.ag57 : aggB Try.prog 57 = some true := by kernel_rfl
theorem Try.cz57 : Try.prog.cellsOf 57 = 235 := by kernel_rfl
theorem Try.by57 : Try.prog.bytesOf 57 = 3008 := by kernel_rfl
theorem Try.zb57 : zeroB Try.prog 57 = some [.int .i64 0, .string ⟨#[]⟩, .int .i64 0, .string ⟨#[]⟩, .string ⟨#[]⟩, .int .i64 0, .string ⟨#[]⟩, .int .i64 0, .string ⟨#[]⟩, .string ⟨#[]⟩, .int .i64 0, .string ⟨#[]⟩, .int .i64 0, .string ⟨#[]⟩, .string ⟨#[]⟩, .int .i64 0, .string ⟨#[]⟩, .int .i64 0, .string ⟨#[]⟩, .string ⟨#[]⟩, .int .i64 0, .string ⟨#[]⟩, .int .i64 0, .string ⟨#[]⟩, .string ⟨#[]⟩, .int .i64 0, .string ⟨#[]⟩, .int .i64 0, .string ⟨#[]⟩, .string ⟨#[]⟩, .int .i64 0, .string ⟨#[]⟩, .int .i64 0, .string ⟨#[]⟩, .string ⟨#[]⟩, .int .i64 0, .string ⟨#[]⟩, .int .i64 0, .string ⟨#[]⟩, .string ⟨#[]⟩, .int .i64 0, .string ⟨#[]⟩, .int .i64 0, .string ⟨#[]⟩, .string ⟨#[]⟩, .int .i64 0, .string ⟨#[]⟩, .int .i64 0, .string ⟨#[]⟩, .string ⟨#[]⟩, .int .i64 0, .string ⟨#[]⟩, .int .i64 0, .string ⟨#[]⟩, .string ⟨#[]⟩, .int .i64 0, .string ⟨#[]⟩, .int .i64 0, .string ⟨#[]⟩, .string ⟨#[]⟩, .int .i64 0, .string ⟨#[]⟩, .int .i64 0, .string ⟨#[]⟩, .string ⟨#[]⟩, .int .i64 0, .string ⟨#[]⟩, .int .i64 0, .string ⟨#[]⟩, .string ⟨#[]⟩, .int .i64 0, .string ⟨#[]⟩, .int .i64 0, .string ⟨#[]⟩, .string ⟨#[]⟩, .int .i64 0, .string ⟨#[]⟩, .int .i64 0, .string ⟨#[]⟩, .string ⟨#[]⟩, .int .i64 0, .string ⟨#[]⟩, .int .i64 0, .string ⟨#[]⟩, .string ⟨#[]⟩, .int .i64 0, .string ⟨#[]⟩, .int .i64 0, .string ⟨#[]⟩, .string ⟨#[]⟩, .int .i64 0, .string ⟨#[]⟩, .int .i64 0, .string ⟨#[]⟩, .string ⟨#[]⟩, .int .i64 0, .string ⟨#[]⟩, .int .i64 0, .string ⟨#[]⟩, .string ⟨#[]⟩, .int .i64 0, .string ⟨#[]⟩, .int .i64 0, .string ⟨#[]⟩, .string ⟨#[]⟩, .int .i64 0, .string ⟨#[]⟩, .int .i64 0, .string ⟨#[]⟩, .string ⟨#[]⟩, .int .i64 0, .string ⟨#[]⟩, .int .i64 0, .string ⟨#[]⟩, .string ⟨#[]⟩, .int .i64 0, .string ⟨#[]⟩, .int .i64 0, .string ⟨#[]⟩, .string ⟨#[]⟩, .int .i64 0, .string ⟨#[]⟩, .int .i64 0, .string ⟨#[]⟩, .string ⟨#[]⟩, .int .i64 0, .string ⟨#[]⟩, .int .i64 0, .string ⟨#[]⟩, .string ⟨#[]⟩, .int .i64 0, .string ⟨#[]⟩, .int .i64 0, .string ⟨#[]⟩, .string ⟨#[]⟩, .int .i64 0, .string ⟨#[]⟩, .int .i64 0, .string ⟨#[]⟩, .string ⟨#[]⟩, .int .i64 0, .string ⟨#[]⟩, .int .i64 0, .string ⟨#[]⟩, .string ⟨#[]⟩, .int .i64 0, .string ⟨#[]⟩, .int .i64 0, .string ⟨#[]⟩, .string ⟨#[]⟩, .int .i64 0, .string ⟨#[]⟩, .int .i64 0, .string ⟨#[]⟩, .string ⟨#[]⟩, .int .i64 0, .string ⟨#[]⟩, .int .i64 0, .string ⟨#[]⟩, .string ⟨#[]⟩, .int .i64 0, .string ⟨#[]⟩, .int .i64 0, .string ⟨#[]⟩, .string ⟨#[]⟩, .int .i64 0, .string ⟨#[]⟩, .int .i64 0, .string ⟨#[]⟩, .string ⟨#[]⟩, .int .i64 0, .string ⟨#[]⟩, .int .i64 0, .string ⟨#[]⟩, .string ⟨#[]⟩, .int .i64 0, .string ⟨#[]⟩, .int .i64 0, .string ⟨#[]⟩, .string ⟨#[]⟩, .int .i64 0, .string ⟨#[]⟩, .int .i64 0, .string ⟨#[]⟩, .string ⟨#[]⟩, .int .i64 0, .string ⟨#[]⟩, .int .i64 0, .string ⟨#[]⟩, .string ⟨#[]⟩, .int .i64 0, .string ⟨#[]⟩, .int .i64 0, .string ⟨#[]⟩, .string ⟨#[]⟩, .int .i64 0, .string ⟨#[]⟩, .int .i64 0, .string ⟨#[]⟩, .string ⟨#[]⟩, .int .i64 0, .string ⟨#[]⟩, .int .i64 0, .string ⟨#[]⟩, .string ⟨#[]⟩, .int .i64 0, .string ⟨#[]⟩, .int .i64 0, .string ⟨#[]⟩, .string ⟨#[]⟩, .int .i64 0, .string ⟨#[]⟩, .int .i64 0, .string ⟨#[]⟩, .string ⟨#[]⟩, .int .i64 0, .string ⟨#[]⟩, .int .i64 0, .string ⟨#[]⟩, .string ⟨#[]⟩, .int .i64 0, .string ⟨#[]⟩, .int .i64 0, .string ⟨#[]⟩, .string ⟨#[]⟩, .int .i64 0, .string ⟨#[]⟩, .int .i64 0, .string ⟨#[]⟩, .string ⟨#[]⟩, .int .i64 0, .string ⟨#[]⟩, .int .i64 0, .string ⟨#[]⟩, .string ⟨#[]⟩] := by kernel_rfl
theorem Try.ar57 : arrB Try.prog 57 = some (47, 5) := by kernel_rfl
theorem Try.ag58 : aggB Try.prog 58 = some false := by kernel_rfl
theorem Try.cz58 : Try.prog.cellsOf 58 = 1 := by kernel_rfl
theorem Try.by58 : Try.prog.bytesOf 58 = 8 := by kernel_rfl
theorem Try.zb58 : zeroB Try.prog 58 = some [.nilFunc] := by kernel_rfl
theorem Try.ag59 : aggB Try.prog 59 = some true := by kernel_rfl
theorem Try.cz59 : Try.prog.cellsOf 59 = 30 := by kernel_rfl
theorem Try.by59 : Try.prog.bytesOf 59 = 384 := by kernel_rfl
theorem Try.zb59 : zeroB Try.prog 59 = some [.int .i64 0, .string ⟨#[]⟩, .int .i64 0, .string ⟨#[]⟩, .string ⟨#[]⟩, .int .i64 0, .string ⟨#[]⟩, .int .i64 0, .string ⟨#[]⟩, .string ⟨#[]⟩, .int .i64 0, .string ⟨#[]⟩, .int .i64 0, .string ⟨#[]⟩, .string ⟨#[]⟩, .int .i64 0, .string ⟨#[]⟩, .int .i64 0, .string ⟨#[]⟩, .string ⟨#[]⟩, .int .i64 0, .string ⟨#[]⟩, .int .i64 0, .string ⟨#[]⟩, .string ⟨#[]⟩, .int .i64 0, .string ⟨#[]⟩, .int .i64 0, .string ⟨#[]⟩, .string ⟨#[]⟩] := by kernel_rfl
theorem Try.ar59 : arrB Try.prog 59 = some (6, 5) := by kernel_rfl
theorem Try.ag60 : aggB Try.prog 60 = some false := by kernel_rfl
theorem Try.cz60 : Try.prog.cellsOf 60 = 1 := by kernel_rfl
theorem Try.by60 : Try.prog.bytesOf 60 = 8 := by kernel_rfl
theorem Try.zb60 : zeroB Try.prog 60 = some [.nilFunc] := by kernel_rfl
theorem Try.ag61 : aggB Try.prog 61 = some false := by kernel_rfl
theorem Try.cz61 : Try.prog.cellsOf 61 = 1 := by kernel_rfl
theorem Try.by61 : Try.prog.bytesOf 61 = 8 := by kernel_rfl
theorem Try.zb61 : zeroB Try.prog 61 = some [.nilFunc] := by kernel_rfl
theorem Try.ag62 : aggB Try.prog 62 = some false := by kernel_rfl
theorem Try.cz62 : Try.prog.cellsOf 62 = 1 := by kernel_rfl
theorem Try.by62 : Try.prog.bytesOf 62 = 8 := by kernel_rfl
theorem Try.zb62 : zeroB Try.prog 62 = some [.nilFunc] := by kernel_rfl
theorem Try.ag63 : aggB Try.prog 63 = some false := by kernel_rfl
theorem Try.cz63 : Try.prog.cellsOf 63 = 1 := by kernel_rfl
theorem Try.by63 : Try.prog.bytesOf 63 = 8 := by kernel_rfl
theorem Try.zb63 : zeroB Try.prog 63 = some [.nilFunc] := by kernel_rfl
theorem Try.ag64 : aggB Try.prog 64 = some false := by kernel_rfl
theorem Try.cz64 : Try.prog.cellsOf 64 = 1 := by kernel_rfl
theorem Try.by64 : Try.prog.bytesOf 64 = 8 := by kernel_rfl
theorem Try.zb64 : zeroB Try.prog 64 = some [.nilFunc] := by kernel_rfl
theorem Try.ag65 : aggB Try.prog 65 = some false := by kernel_rfl
theorem Try.cz65 : Try.prog.cellsOf 65 = 1 := by kernel_rfl
theorem Try.by65 : Try.prog.bytesOf 65 = 8 := by kernel_rfl
theorem Try.zb65 : zeroB Try.prog 65 = some [.nilFunc] := by kernel_rfl
theorem Try.ag66 : aggB Try.prog 66 = some true := by kernel_rfl
theorem Try.cz66 : Try.prog.cellsOf 66 = 3 := by kernel_rfl
theorem Try.by66 : Try.prog.bytesOf 66 = 48 := by kernel_rfl
theorem Try.zb66 : zeroB Try.prog 66 = some [.string ⟨#[]⟩, .string ⟨#[]⟩, .string ⟨#[]⟩] := by kernel_rfl
theorem Try.ar66 : arrB Try.prog 66 = some (3, 1) := by kernel_rfl
theorem Try.ag68 : aggB Try.prog 68 = some false := by kernel_rfl
theorem Try.cz68 : Try.prog.cellsOf 68 = 1 := by kernel_rfl
theorem Try.by68 : Try.prog.bytesOf 68 = 8 := by kernel_rfl
theorem Try.zb68 : zeroB Try.prog 68 = some [.nilFunc] := by kernel_rfl
theorem Try.ag69 : aggB Try.prog 69 = some false := by kernel_rfl
theorem Try.cz69 : Try.prog.cellsOf 69 = 1 := by kernel_rfl
theorem Try.by69 : Try.prog.bytesOf 69 = 8 := by kernel_rfl
theorem Try.zb69 : zeroB Try.prog 69 = some [.nilFunc] := by kernel_rfl
theorem Try.ag70 : aggB Try.prog 70 = some false := by kernel_rfl
theorem Try.cz70 : Try.prog.cellsOf 70 = 1 := by kernel_rfl
theorem Try.by70 : Try.prog.bytesOf 70 = 8 := by kernel_rfl
theorem Try.zb70 : zeroB Try.prog 70 = some [.nilFunc] := by kernel_rfl
theorem Try.ag71 : aggB Try.prog 71 = some true := by kernel_rfl
theorem Try.cz71 : Try.prog.cellsOf 71 = 2 := by kernel_rfl
theorem Try.by71 : Try.prog.bytesOf 71 = 16 := by kernel_rfl
theorem Try.zb71 : zeroB Try.prog 71 = some [.int .i64 0, .int .i64 0] := by kernel_rfl
theorem Try.ar71 : arrB Try.prog 71 = some (2, 1) := by kernel_rfl
theorem Try.ag72 : aggB Try.prog 72 = some true := by kernel_rfl
theorem Try.cz72 : Try.prog.cellsOf 72 = 30 := by kernel_rfl
theorem Try.by72 : Try.prog.bytesOf 72 = 240 := by kernel_rfl
theorem Try.zb72 : zeroB Try.prog 72 = some [.int .i64 0, .int .i64 0, .int .i64 0, .int .i64 0, .int .i64 0, .int .i64 0, .int .i64 0, .int .i64 0, .int .i64 0, .int .i64 0, .int .i64 0, .int .i64 0, .int .i64 0, .int .i64 0, .int .i64 0, .int .i64 0, .int .i64 0, .int .i64 0, .int .i64 0, .int .i64 0, .int .i64 0, .int .i64 0, .int .i64 0, .int .i64 0, .int .i64 0, .int .i64 0, .int .i64 0, .int .i64 0, .int .i64 0, .int .i64 0] := by kernel_rfl
theorem Try.ar72 : arrB Try.prog 72 = some (15, 2) := by kernel_rfl
theorem Try.ag73 : aggB Try.prog 73 = some false := by kernel_rfl
theorem Try.cz73 : Try.prog.cellsOf 73 = 1 := by kernel_rfl
theorem Try.by73 : Try.prog.bytesOf 73 = 8 := by kernel_rfl
theorem Try.zb73 : zeroB Try.prog 73 = some [.nilFunc] := by kernel_rfl
theorem Try.ag74 : aggB Try.prog 74 = some false := by kernel_rfl
theorem Try.cz74 : Try.prog.cellsOf 74 = 1 := by kernel_rfl
theorem Try.by74 : Try.prog.bytesOf 74 = 8 := by kernel_rfl
theorem Try.zb74 : zeroB Try.prog 74 = some [.nilFunc] := by kernel_rfl
theorem Try.ag75 : aggB Try.prog 75 = some true := by kernel_rfl
theorem Try.cz75 : Try.prog.cellsOf 75 = 15 := by kernel_rfl
theorem Try.by75 : Try.prog.bytesOf 75 = 240 := by kernel_rfl
theorem Try.zb75 : zeroB Try.prog 75 = some [.string ⟨#[]⟩, .string ⟨#[]⟩, .string ⟨#[]⟩, .string ⟨#[]⟩, .string ⟨#[]⟩, .string ⟨#[]⟩, .string ⟨#[]⟩, .string ⟨#[]⟩, .string ⟨#[]⟩, .string ⟨#[]⟩, .string ⟨#[]⟩, .string ⟨#[]⟩, .string ⟨#[]⟩, .string ⟨#[]⟩, .string ⟨#[]⟩] := by kernel_rfl
theorem Try.ar75 : arrB Try.prog 75 = some (15, 1) := by kernel_rfl
theorem Try.ag76 : aggB Try.prog 76 = some false := by kernel_rfl
theorem Try.cz76 : Try.prog.cellsOf 76 = 1 := by kernel_rfl
theorem Try.by76 : Try.prog.bytesOf 76 = 8 := by kernel_rfl
theorem Try.zb76 : zeroB Try.prog 76 = some [.nilFunc] := by kernel_rfl
theorem Try.ag77 : aggB Try.prog 77 = some true := by kernel_rfl
theorem Try.cz77 : Try.prog.cellsOf 77 = 10 := by kernel_rfl
theorem Try.by77 : Try.prog.bytesOf 77 = 160 := by kernel_rfl
theorem Try.zb77 : zeroB Try.prog 77 = some [.string ⟨#[]⟩, .string ⟨#[]⟩, .string ⟨#[]⟩, .string ⟨#[]⟩, .string ⟨#[]⟩, .string ⟨#[]⟩, .string ⟨#[]⟩, .string ⟨#[]⟩, .string ⟨#[]⟩, .string ⟨#[]⟩] := by kernel_rfl
theorem Try.ar77 : arrB Try.prog 77 = some (10, 1) := by kernel_rfl
theorem Try.ag78 : aggB Try.prog 78 = some false := by kernel_rfl
theorem Try.cz78 : Try.prog.cellsOf 78 = 1 := by kernel_rfl
theorem Try.by78 : Try.prog.bytesOf 78 = 8 := by kernel_rfl
theorem Try.zb78 : zeroB Try.prog 78 = some [.nilFunc] := by kernel_rfl
theorem Try.ag79 : aggB Try.prog 79 = some true := by kernel_rfl
theorem Try.cz79 : Try.prog.cellsOf 79 = 4 := by kernel_rfl
theorem Try.by79 : Try.prog.bytesOf 79 = 64 := by kernel_rfl
theorem Try.zb79 : zeroB Try.prog 79 = some [.string ⟨#[]⟩, .string ⟨#[]⟩, .string ⟨#[]⟩, .string ⟨#[]⟩] := by kernel_rfl
theorem Try.ar79 : arrB Try.prog 79 = some (4, 1) := by kernel_rfl
theorem Try.ag80 : aggB Try.prog 80 = some false := by kernel_rfl
theorem Try.cz80 : Try.prog.cellsOf 80 = 1 := by kernel_rfl
theorem Try.by80 : Try.prog.bytesOf 80 = 8 := by kernel_rfl
theorem Try.zb80 : zeroB Try.prog 80 = some [.nilFunc] := by kernel_rfl
theorem Try.ag81 : aggB Try.prog 81 = some false := by kernel_rfl
theorem Try.cz81 : Try.prog.cellsOf 81 = 1 := by kernel_rfl
theorem Try.by81 : Try.prog.bytesOf 81 = 8 := by kernel_rfl
theorem Try.zb81 : zeroB Try.prog 81 = some [.nilFunc] := by kernel_rfl
theorem Try.ag82 : aggB Try.prog 82 = some false := by kernel_rfl
theorem Try.cz82 : Try.prog.cellsOf 82 = 1 := by kernel_rfl
theorem Try.by82 : Try.prog.bytesOf 82 = 8 := by kernel_rfl
theorem Try.zb82 : zeroB Try.prog 82 = some [.nilFunc] := by kernel_rfl
theorem Try.ag83 : aggB Try.prog 83 = some false := by kernel_rfl
theorem Try.cz83 : Try.prog.cellsOf 83 = 1 := by kernel_rfl
theorem Try.by83 : Try.prog.bytesOf 83 = 8 := by kernel_rfl
theorem Try.zb83 : zeroB Try.prog 83 = some [.int .u64 0] := by kernel_rfl
theorem Try.ag84 : aggB Try.prog 84 = some false := by kernel_rfl
theorem Try.cz84 : Try.prog.cellsOf 84 = 1 := by kernel_rfl
theorem Try.by84 : Try.prog.bytesOf 84 = 8 := by kernel_rfl
theorem Try.zb84 : zeroB Try.prog 84 = some [.nilFunc] := by kernel_rfl
theorem Try.ag85 : aggB Try.prog 85 = some false := by kernel_rfl
theorem Try.cz85 : Try.prog.cellsOf 85 = 1 := by kernel_rfl
theorem Try.by85 : Try.prog.bytesOf 85 = 8 := by kernel_rfl
theorem Try.zb85 : zeroB Try.prog 85 = some [.int .i64 0] := by kernel_rfl
theorem Try.ag87 : aggB Try.prog 87 = some false := by kernel_rfl
theorem Try.cz87 : Try.prog.cellsOf 87 = 1 := by kernel_rfl
theorem Try.by87 : Try.prog.bytesOf 87 = 8 := by kernel_rfl
theorem Try.zb87 : zeroB Try.prog 87 = some [.nilFunc] := by kernel_rfl
theorem Try.ag88 : aggB Try.prog 88 = some false := by kernel_rfl
theorem Try.cz88 : Try.prog.cellsOf 88 = 1 := by kernel_rfl
theorem Try.by88 : Try.prog.bytesOf 88 = 8 := by kernel_rfl
theorem Try.zb88 : zeroB Try.prog 88 = some [.nilFunc] := by kernel_rfl
theorem Try.ag89 : aggB Try.prog 89 = some false := by kernel_rfl
theorem Try.cz89 : Try.prog.cellsOf 89 = 1 := by kernel_rfl
theorem Try.by89 : Try.prog.bytesOf 89 = 8 := by kernel_rfl
theorem Try.zb89 : zeroB Try.prog 89 = some [.nilFunc] := by kernel_rfl
theorem Try.ag90 : aggB Try.prog 90 = some false := by kernel_rfl
theorem Try.cz90 : Try.prog.cellsOf 90 = 1 := by kernel_rfl
theorem Try.by90 : Try.prog.bytesOf 90 = 8 := by kernel_rfl
theorem Try.zb90 : zeroB Try.prog 90 = some [.nilFunc] := by kernel_rfl
theorem Try.ag91 : aggB Try.prog 91 = some false := by kernel_rfl
theorem Try.cz91 : Try.prog.cellsOf 91 = 1 := by kernel_rfl
theorem Try.by91 : Try.prog.bytesOf 91 = 8 := by kernel_rfl
theorem Try.zb91 : zeroB Try.prog 91 = some [.nilFunc] := by kernel_rfl
theorem Try.ag92 : aggB Try.prog 92 = some false := by kernel_rfl
theorem Try.cz92 : Try.prog.cellsOf 92 = 1 := by kernel_rfl
theorem Try.by92 : Try.prog.bytesOf 92 = 4 := by kernel_rfl
theorem Try.zb92 : zeroB Try.prog 92 = some [.int .u32 0] := by kernel_rfl
theorem Try.ag93 : aggB Try.prog 93 = some false := by kernel_rfl
theorem Try.cz93 : Try.prog.cellsOf 93 = 1 := by kernel_rfl
theorem Try.by93 : Try.prog.bytesOf 93 = 8 := by kernel_rfl
theorem Try.zb93 : zeroB Try.prog 93 = some [.nilFunc] := by kernel_rfl
theorem Try.ag94 : aggB Try.prog 94 = some false := by kernel_rfl
theorem Try.cz94 : Try.prog.cellsOf 94 = 1 := by kernel_rfl
theorem Try.by94 : Try.prog.bytesOf 94 = 8 := by kernel_rfl
theorem Try.zb94 : zeroB Try.prog 94 = some [.nilFunc] := by kernel_rfl
theorem Try.ag95 : aggB Try.prog 95 = some false := by kernel_rfl
theorem Try.cz95 : Try.prog.cellsOf 95 = 1 := by kernel_rfl
theorem Try.by95 : Try.prog.bytesOf 95 = 8 := by kernel_rfl
theorem Try.zb95 : zeroB Try.prog 95 = some [.int .u64 0] := by kernel_rfl
theorem Try.ag96 : aggB Try.prog 96 = some false := by kernel_rfl
theorem Try.cz96 : Try.prog.cellsOf 96 = 1 := by kernel_rfl
theorem Try.by96 : Try.prog.bytesOf 96 = 8 := by kernel_rfl
theorem Try.zb96 : zeroB Try.prog 96 = some [.nilFunc] := by kernel_rfl
theorem Try.ag97 : aggB Try.prog 97 = some false := by kernel_rfl
theorem Try.cz97 : Try.prog.cellsOf 97 = 1 := by kernel_rfl
theorem Try.by97 : Try.prog.bytesOf 97 = 8 := by kernel_rfl
theorem Try.zb97 : zeroB Try.prog 97 = some [.nilFunc] := by kernel_rfl
theorem Try.ag98 : aggB Try.prog 98 = some false := by kernel_rfl
theorem Try.cz98 : Try.prog.cellsOf 98 = 1 := by kernel_rfl
theorem Try.by98 : Try.prog.bytesOf 98 = 8 := by kernel_rfl
theorem Try.zb98 : zeroB Try.prog 98 = some [.nilFunc] := by kernel_rfl
theorem Try.ag99 : aggB Try.prog 99 = some false := by kernel_rfl
theorem Try.cz99 : Try.prog.cellsOf 99 = 1 := by kernel_rfl
theorem Try.by99 : Try.prog.bytesOf 99 = 8 := by kernel_rfl
theorem Try.zb99 : zeroB Try.prog 99 = some [.pointer none] := by kernel_rfl
theorem Try.ag100 : aggB Try.prog 100 = some false := by kernel_rfl
theorem Try.cz100 : Try.prog.cellsOf 100 = 1 := by kernel_rfl
theorem Try.by100 : Try.prog.bytesOf 100 = 8 := by kernel_rfl
theorem Try.zb100 : zeroB Try.prog 100 = some [.nilFunc] := by kernel_rfl
theorem Try.ag101 : aggB Try.prog 101 = some false := by kernel_rfl
theorem Try.cz101 : Try.prog.cellsOf 101 = 1 := by kernel_rfl
theorem Try.by101 : Try.prog.bytesOf 101 = 8 := by kernel_rfl
theorem Try.zb101 : zeroB Try.prog 101 = some [.nilFunc] := by kernel_rfl
theorem Try.ag102 : aggB Try.prog 102 = some false := by kernel_rfl
theorem Try.cz102 : Try.prog.cellsOf 102 = 1 := by kernel_rfl
theorem Try.by102 : Try.prog.bytesOf 102 = 8 := by kernel_rfl
theorem Try.zb102 : zeroB Try.prog 102 = some [.pointer none] := by kernel_rfl
theorem Try.ag104 : aggB Try.prog 104 = some false := by kernel_rfl
theorem Try.cz104 : Try.prog.cellsOf 104 = 1 := by kernel_rfl
theorem Try.by104 : Try.prog.bytesOf 104 = 8 := by kernel_rfl
theorem Try.zb104 : zeroB Try.prog 104 = some [.nilFunc] := by kernel_rfl
theorem Try.ag106 : aggB Try.prog 106 = some false := by kernel_rfl
theorem Try.cz106 : Try.prog.cellsOf 106 = 1 := by kernel_rfl
theorem Try.by106 : Try.prog.bytesOf 106 = 8 := by kernel_rfl
theorem Try.zb106 : zeroB Try.prog 106 = some [.nilFunc] := by kernel_rfl
theorem Try.ag107 : aggB Try.prog 107 = some false := by kernel_rfl
theorem Try.cz107 : Try.prog.cellsOf 107 = 1 := by kernel_rfl
theorem Try.by107 : Try.prog.bytesOf 107 = 8 := by kernel_rfl
theorem Try.zb107 : zeroB Try.prog 107 = some [.nilFunc] := by kernel_rfl
theorem Try.ag108 : aggB Try.prog 108 = some true := by kernel_rfl
theorem Try.cz108 : Try.prog.cellsOf 108 = 4 := by kernel_rfl
theorem Try.by108 : Try.prog.bytesOf 108 = 40 := by kernel_rfl
theorem Try.zb108 : zeroB Try.prog 108 = some [.pointer none, .pointer none, .pointer none, .string ⟨#[]⟩] := by kernel_rfl
theorem Try.pl108 : placesB Try.prog 108 = some [(0, 1), (1, 1), (2, 1), (3, 1)] := by kernel_rfl
theorem Try.fd108_0 : fieldB Try.prog 108 0 = some 0 := by kernel_rfl
theorem Try.fd108_1 : fieldB Try.prog 108 1 = some 1 := by kernel_rfl
theorem Try.fd108_2 : fieldB Try.prog 108 2 = some 2 := by kernel_rfl
theorem Try.fd108_3 : fieldB Try.prog 108 3 = some 3 := by kernel_rfl
theorem Try.ag109 : aggB Try.prog 109 = some true := by kernel_rfl
theorem Try.cz109 : Try.prog.cellsOf 109 = 4 := by kernel_rfl
theorem Try.by109 : Try.prog.bytesOf 109 = 40 := by kernel_rfl
theorem Try.zb109 : zeroB Try.prog 109 = some [.pointer none, .pointer none, .pointer none, .string ⟨#[]⟩] := by kernel_rfl
theorem Try.pl109 : placesB Try.prog 109 = some [(0, 1), (1, 1), (2, 1), (3, 1)] := by kernel_rfl
theorem Try.fd109_0 : fieldB Try.prog 109 0 = some 0 := by kernel_rfl
theorem Try.fd109_1 : fieldB Try.prog 109 1 = some 1 := by kernel_rfl
theorem Try.fd109_2 : fieldB Try.prog 109 2 = some 2 := by kernel_rfl
theorem Try.fd109_3 : fieldB Try.prog 109 3 = some 3 := by kernel_rfl
theorem Try.ag110 : aggB Try.prog 110 = some true := by kernel_rfl
theorem Try.cz110 : Try.prog.cellsOf 110 = 0 := by kernel_rfl
theorem Try.zb110 : zeroB Try.prog 110 = some [] := by kernel_rfl
theorem Try.ar110 : arrB Try.prog 110 = some (0, 1) := by kernel_rfl
theorem Try.ag111 : aggB Try.prog 111 = some true := by kernel_rfl
theorem Try.cz111 : Try.prog.cellsOf 111 = 0 := by kernel_rfl
theorem Try.zb111 : zeroB Try.prog 111 = some [] := by kernel_rfl
theorem Try.ag112 : aggB Try.prog 112 = some true := by kernel_rfl
theorem Try.cz112 : Try.prog.cellsOf 112 = 0 := by kernel_rfl
theorem Try.zb112 : zeroB Try.prog 112 = some [] := by kernel_rfl
theorem Try.ag113 : aggB Try.prog 113 = some false := by kernel_rfl
theorem Try.cz113 : Try.prog.cellsOf 113 = 1 := by kernel_rfl
theorem Try.by113 : Try.prog.bytesOf 113 = 8 := by kernel_rfl
theorem Try.zb113 : zeroB Try.prog 113 = some [.nilFunc] := by kernel_rfl
theorem Try.ag114 : aggB Try.prog 114 = some false := by kernel_rfl
theorem Try.cz114 : Try.prog.cellsOf 114 = 1 := by kernel_rfl
theorem Try.by114 : Try.prog.bytesOf 114 = 1 := by kernel_rfl
theorem Try.zb114 : zeroB Try.prog 114 = some [.int .u8 0] := by kernel_rfl
theorem Try.ag115 : aggB Try.prog 115 = some false := by kernel_rfl
theorem Try.cz115 : Try.prog.cellsOf 115 = 1 := by kernel_rfl
theorem Try.by115 : Try.prog.bytesOf 115 = 1 := by kernel_rfl
theorem Try.zb115 : zeroB Try.prog 115 = some [.int .u8 0] := by kernel_rfl
theorem Try.ag116 : aggB Try.prog 116 = some false := by kernel_rfl
theorem Try.cz116 : Try.prog.cellsOf 116 = 1 := by kernel_rfl
theorem Try.by116 : Try.prog.bytesOf 116 = 8 := by kernel_rfl
theorem Try.zb116 : zeroB Try.prog 116 = some [.nilFunc] := by kernel_rfl
theorem Try.ag117 : aggB Try.prog 117 = some false := by kernel_rfl
theorem Try.cz117 : Try.prog.cellsOf 117 = 1 := by kernel_rfl
theorem Try.by117 : Try.prog.bytesOf 117 = 8 := by kernel_rfl
theorem Try.zb117 : zeroB Try.prog 117 = some [.pointer none] := by kernel_rfl
theorem Try.ag118 : aggB Try.prog 118 = some false := by kernel_rfl
theorem Try.cz118 : Try.prog.cellsOf 118 = 1 := by kernel_rfl
theorem Try.by118 : Try.prog.bytesOf 118 = 4 := by kernel_rfl
theorem Try.zb118 : zeroB Try.prog 118 = some [.int .i32 0] := by kernel_rfl
theorem Try.ag119 : aggB Try.prog 119 = some false := by kernel_rfl
theorem Try.cz119 : Try.prog.cellsOf 119 = 1 := by kernel_rfl
theorem Try.by119 : Try.prog.bytesOf 119 = 4 := by kernel_rfl
theorem Try.zb119 : zeroB Try.prog 119 = some [.int .i32 0] := by kernel_rfl
theorem Try.ag120 : aggB Try.prog 120 = some true := by kernel_rfl
theorem Try.cz120 : Try.prog.cellsOf 120 = 11 := by kernel_rfl
theorem Try.by120 : Try.prog.bytesOf 120 = 48 := by kernel_rfl
theorem Try.zb120 : zeroB Try.prog 120 = some [.int .u64 0, .int .u64 0, .int .u32 0, .int .u8 0, .int .u8 0, .int .u8 0, .int .u8 0, .nilFunc, .pointer none, .int .i32 0, .int .i32 0] := by kernel_rfl
theorem Try.pl120 : placesB Try.prog 120 = some [(0, 1), (1, 1), (2, 1), (3, 1), (4, 1), (5, 1), (6, 1), (7, 1), (8, 1), (9, 1), (10, 1)] := by kernel_rfl
theorem Try.fd120_0 : fieldB Try.prog 120 0 = some 0 := by kernel_rfl
theorem Try.fd120_1 : fieldB Try.prog 120 1 = some 1 := by kernel_rfl
theorem Try.fd120_2 : fieldB Try.prog 120 2 = some 2 := by kernel_rfl
theorem Try.fd120_3 : fieldB Try.prog 120 3 = some 3 := by kernel_rfl
theorem Try.fd120_4 : fieldB Try.prog 120 4 = some 4 := by kernel_rfl
theorem Try.fd120_5 : fieldB Try.prog 120 5 = some 5 := by kernel_rfl
theorem Try.fd120_6 : fieldB Try.prog 120 6 = some 6 := by kernel_rfl
theorem Try.fd120_7 : fieldB Try.prog 120 7 = some 7 := by kernel_rfl
theorem Try.fd120_8 : fieldB Try.prog 120 8 = some 8 := by kernel_rfl
theorem Try.fd120_9 : fieldB Try.prog 120 9 = some 9 := by kernel_rfl
theorem Try.fd120_10 : fieldB Try.prog 120 10 = some 10 := by kernel_rfl
theorem Try.ag121 : aggB Try.prog 121 = some true := by kernel_rfl
theorem Try.cz121 : Try.prog.cellsOf 121 = 11 := by kernel_rfl
theorem Try.by121 : Try.prog.bytesOf 121 = 48 := by kernel_rfl
theorem Try.zb121 : zeroB Try.prog 121 = some [.int .u64 0, .int .u64 0, .int .u32 0, .int .u8 0, .int .u8 0, .int .u8 0, .int .u8 0, .nilFunc, .pointer none, .int .i32 0, .int .i32 0] := by kernel_rfl
theorem Try.pl121 : placesB Try.prog 121 = some [(0, 1), (1, 1), (2, 1), (3, 1), (4, 1), (5, 1), (6, 1), (7, 1), (8, 1), (9, 1), (10, 1)] := by kernel_rfl
theorem Try.fd121_0 : fieldB Try.prog 121 0 = some 0 := by kernel_rfl
theorem Try.fd121_1 : fieldB Try.prog 121 1 = some 1 := by kernel_rfl
theorem Try.fd121_2 : fieldB Try.prog 121 2 = some 2 := by kernel_rfl
theorem Try.fd121_3 : fieldB Try.prog 121 3 = some 3 := by kernel_rfl
theorem Try.fd121_4 : fieldB Try.prog 121 4 = some 4 := by kernel_rfl
theorem Try.fd121_5 : fieldB Try.prog 121 5 = some 5 := by kernel_rfl
theorem Try.fd121_6 : fieldB Try.prog 121 6 = some 6 := by kernel_rfl
theorem Try.fd121_7 : fieldB Try.prog 121 7 = some 7 := by kernel_rfl
theorem Try.fd121_8 : fieldB Try.prog 121 8 = some 8 := by kernel_rfl
theorem Try.fd121_9 : fieldB Try.prog 121 9 = some 9 := by kernel_rfl
theorem Try.fd121_10 : fieldB Try.prog 121 10 = some 10 := by kernel_rfl
theorem Try.ag122 : aggB Try.prog 122 = some false := by kernel_rfl
theorem Try.cz122 : Try.prog.cellsOf 122 = 1 := by kernel_rfl
theorem Try.by122 : Try.prog.bytesOf 122 = 8 := by kernel_rfl
theorem Try.zb122 : zeroB Try.prog 122 = some [.pointer none] := by kernel_rfl
theorem Try.mixed : Try.prog.follows .mixedOrders = true := by kernel_rfl

end Go.Proofs
