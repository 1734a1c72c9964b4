/-
  CLOSED FACTS of the translation, by program. No macro, no axiom.
-/
import Derived.Test.YtghmenjcnopibaaGreatDoorHlP
import Derived.Test.YtghmenjcnopibaaGreatDoorChecked
namespace Go.Proofs
open Go.Hl

theorem Tryz.cb3 : callB Tryz.prog 3 = true := by kernel_rfl
theorem Tryz.cb4 : callB Tryz.prog 4 = true := by kernel_rfl
theorem Tryz.cb5 : callB Tryz.prog 5 = true := by kernel_rfl
theorem Tryz.cb6 : callB Tryz.prog 6 = true := by kernel_rfl
theorem Tryz.cb7 : callB Tryz.prog 7 = true := by kernel_rfl
theorem Tryz.cb8 : callB Tryz.prog 8 = true := by kernel_rfl
theorem Tryz.cb9 : callB Tryz.prog 9 = true := by kernel_rfl
theorem Tryz.cb10 : callB Tryz.prog 10 = true := by kernel_rfl
theorem Tryz.cb11 : callB Tryz.prog 11 = true := by kernel_rfl
theorem Tryz.cb12 : callB Tryz.prog 12 = true := by kernel_rfl
theorem Tryz.cb13 : callB Tryz.prog 13 = true := by kernel_rfl
theorem Tryz.cb14 : callB Tryz.prog 14 = true := by kernel_rfl
theorem Tryz.cb15 : callB Tryz.prog 15 = true := by kernel_rfl
theorem Tryz.cb16 : callB Tryz.prog 16 = true := by kernel_rfl
theorem Tryz.cb17 : callB Tryz.prog 17 = true := by kernel_rfl
theorem Tryz.cb18 : callB Tryz.prog 18 = true := by kernel_rfl
theorem Tryz.cb19 : callB Tryz.prog 19 = true := by kernel_rfl
theorem Tryz.cb20 : callB Tryz.prog 20 = true := by kernel_rfl
theorem Tryz.cb21 : callB Tryz.prog 21 = true := by kernel_rfl
theorem Tryz.cb22 : callB Tryz.prog 22 = true := by kernel_rfl
theorem Tryz.cb23 : callB Tryz.prog 23 = true := by kernel_rfl
theorem Tryz.cb24 : callB Tryz.prog 24 = true := by kernel_rfl
theorem Tryz.cb25 : callB Tryz.prog 25 = true := by kernel_rfl
theorem Tryz.cb26 : callB Tryz.prog 26 = true := by kernel_rfl
theorem Tryz.cb27 : callB Tryz.prog 27 = true := by kernel_rfl
theorem Tryz.cb28 : callB Tryz.prog 28 = true := by kernel_rfl
theorem Tryz.cb29 : callB Tryz.prog 29 = true := by kernel_rfl
theorem Tryz.cb30 : callB Tryz.prog 30 = true := by kernel_rfl
theorem Tryz.cb31 : callB Tryz.prog 31 = true := by kernel_rfl
theorem Tryz.cb32 : callB Tryz.prog 32 = true := by kernel_rfl
theorem Tryz.cb33 : callB Tryz.prog 33 = true := by kernel_rfl
theorem Tryz.cb34 : callB Tryz.prog 34 = true := by kernel_rfl
theorem Tryz.cb35 : callB Tryz.prog 35 = true := by kernel_rfl
theorem Tryz.cb36 : callB Tryz.prog 36 = true := by kernel_rfl
theorem Tryz.cb37 : callB Tryz.prog 37 = true := by kernel_rfl
theorem Tryz.cb38 : callB Tryz.prog 38 = true := by kernel_rfl
theorem Tryz.cb39 : callB Tryz.prog 39 = true := by kernel_rfl
theorem Tryz.cb40 : callB Tryz.prog 40 = true := by kernel_rfl
theorem Tryz.cb41 : callB Tryz.prog 41 = true := by kernel_rfl
theorem Tryz.cb42 : callB Tryz.prog 42 = true := by kernel_rfl
theorem Tryz.cb43 : callB Tryz.prog 43 = true := by kernel_rfl
theorem Tryz.cb44 : callB Tryz.prog 44 = true := by kernel_rfl
theorem Tryz.cb45 : callB Tryz.prog 45 = true := by kernel_rfl
theorem Tryz.cb46 : callB Tryz.prog 46 = true := by kernel_rfl
theorem Tryz.cb47 : callB Tryz.prog 47 = true := by kernel_rfl
theorem Tryz.cb48 : callB Tryz.prog 48 = true := by kernel_rfl
theorem Tryz.cb49 : callB Tryz.prog 49 = true := by kernel_rfl
theorem Tryz.cb50 : callB Tryz.prog 50 = true := by kernel_rfl
theorem Tryz.cb51 : callB Tryz.prog 51 = true := by kernel_rfl
theorem Tryz.cb52 : callB Tryz.prog 52 = true := by kernel_rfl
theorem Tryz.cb53 : callB Tryz.prog 53 = true := by kernel_rfl
theorem Tryz.cb54 : callB Tryz.prog 54 = true := by kernel_rfl
theorem Tryz.cb55 : callB Tryz.prog 55 = true := by kernel_rfl
theorem Tryz.cb56 : callB Tryz.prog 56 = true := by kernel_rfl
theorem Tryz.cb57 : callB Tryz.prog 57 = true := by kernel_rfl
theorem Tryz.cb58 : callB Tryz.prog 58 = true := by kernel_rfl
theorem Tryz.cb59 : callB Tryz.prog 59 = true := by kernel_rfl
theorem Tryz.cb60 : callB Tryz.prog 60 = true := by kernel_rfl
theorem Tryz.cb61 : callB Tryz.prog 61 = true := by kernel_rfl
theorem Tryz.cb62 : callB Tryz.prog 62 = true := by kernel_rfl
theorem Tryz.cb63 : callB Tryz.prog 63 = true := by kernel_rfl
theorem Tryz.cb64 : callB Tryz.prog 64 = true := by kernel_rfl
theorem Tryz.cb65 : callB Tryz.prog 65 = true := by kernel_rfl
theorem Tryz.cb66 : callB Tryz.prog 66 = true := by kernel_rfl
theorem Tryz.cb67 : callB Tryz.prog 67 = true := by kernel_rfl
theorem Tryz.cb68 : callB Tryz.prog 68 = true := by kernel_rfl
theorem Tryz.cb69 : callB Tryz.prog 69 = true := by kernel_rfl
theorem Tryz.cb70 : callB Tryz.prog 70 = true := by kernel_rfl
theorem Tryz.cb71 : callB Tryz.prog 71 = true := by kernel_rfl
theorem Tryz.cb72 : callB Tryz.prog 72 = true := by kernel_rfl
theorem Tryz.cb73 : callB Tryz.prog 73 = true := by kernel_rfl
theorem Tryz.cb74 : callB Tryz.prog 74 = true := by kernel_rfl
theorem Tryz.cb75 : callB Tryz.prog 75 = true := by kernel_rfl
theorem Tryz.cb76 : callB Tryz.prog 76 = true := by kernel_rfl
theorem Tryz.cb77 : callB Tryz.prog 77 = true := by kernel_rfl
theorem Tryz.cb78 : callB Tryz.prog 78 = true := by kernel_rfl
theorem Tryz.cb79 : callB Tryz.prog 79 = true := by kernel_rfl
theorem Tryz.cb80 : callB Tryz.prog 80 = true := by kernel_rfl
theorem Tryz.cb81 : callB Tryz.prog 81 = true := by kernel_rfl
theorem Tryz.cb82 : callB Tryz.prog 82 = true := by kernel_rfl
theorem Tryz.cb83 : callB Tryz.prog 83 = true := by kernel_rfl
theorem Tryz.cb84 : callB Tryz.prog 84 = true := by kernel_rfl
theorem Tryz.cb85 : callB Tryz.prog 85 = true := by kernel_rfl
theorem Tryz.cb86 : callB Tryz.prog 86 = true := by kernel_rfl
theorem Tryz.cb87 : callB Tryz.prog 87 = true := by kernel_rfl
theorem Tryz.cb88 : callB Tryz.prog 88 = true := by kernel_rfl
theorem Tryz.cb89 : callB Tryz.prog 89 = true := by kernel_rfl
theorem Tryz.cb90 : callB Tryz.prog 90 = true := by kernel_rfl
theorem Tryz.cb91 : callB Tryz.prog 91 = true := by kernel_rfl
theorem Tryz.cb92 : callB Tryz.prog 92 = true := by kernel_rfl
theorem Tryz.cb93 : callB Tryz.prog 93 = true := by kernel_rfl
theorem Tryz.cb94 : callB Tryz.prog 94 = true := by kernel_rfl
theorem Tryz.cb95 : callB Tryz.prog 95 = true := by kernel_rfl
theorem Tryz.cb96 : callB Tryz.prog 96 = true := by kernel_rfl
theorem Tryz.cb97 : callB Tryz.prog 97 = true := by kernel_rfl
theorem Tryz.cb98 : callB Tryz.prog 98 = true := by kernel_rfl
theorem Tryz.cb99 : callB Tryz.prog 99 = true := by kernel_rfl
theorem Tryz.cb100 : callB Tryz.prog 100 = true := by kernel_rfl
theorem Tryz.cb101 : callB Tryz.prog 101 = true := by kernel_rfl
theorem Tryz.cb102 : callB Tryz.prog 102 = true := by kernel_rfl
theorem Tryz.cb103 : callB Tryz.prog 103 = true := by kernel_rfl
theorem Tryz.cb104 : callB Tryz.prog 104 = true := by kernel_rfl
theorem Tryz.cb105 : callB Tryz.prog 105 = true := by kernel_rfl
theorem Tryz.cb106 : callB Tryz.prog 106 = true := by kernel_rfl
theorem Tryz.cb107 : callB Tryz.prog 107 = true := by kernel_rfl
theorem Tryz.cb108 : callB Tryz.prog 108 = true := by kernel_rfl
theorem Tryz.cb109 : callB Tryz.prog 109 = true := by kernel_rfl
theorem Tryz.cb110 : callB Tryz.prog 110 = true := by kernel_rfl
theorem Tryz.cb111 : callB Tryz.prog 111 = true := by kernel_rfl
theorem Tryz.cb112 : callB Tryz.prog 112 = true := by kernel_rfl
theorem Tryz.cb113 : callB Tryz.prog 113 = true := by kernel_rfl
theorem Tryz.cb114 : callB Tryz.prog 114 = true := by kernel_rfl
theorem Tryz.cb115 : callB Tryz.prog 115 = true := by kernel_rfl
theorem Tryz.cb116 : callB Tryz.prog 116 = true := by kernel_rfl
theorem Tryz.cb117 : callB Tryz.prog 117 = true := by kernel_rfl
theorem Tryz.cb118 : callB Tryz.prog 118 = true := by kernel_rfl
theorem Tryz.cb119 : callB Tryz.prog 119 = true := by kernel_rfl
theorem Tryz.cb120 : callB Tryz.prog 120 = true := by kernel_rfl
theorem Tryz.cb121 : callB Tryz.prog 121 = true := by kernel_rfl
theorem Tryz.cb122 : callB Tryz.prog 122 = true := by kernel_rfl
theorem Tryz.cb123 : callB Tryz.prog 123 = true := by kernel_rfl
theorem Tryz.cb124 : callB Tryz.prog 124 = true := by kernel_rfl
theorem Tryz.cb125 : callB Tryz.prog 125 = true := by kernel_rfl
theorem Tryz.cb126 : callB Tryz.prog 126 = true := by kernel_rfl
theorem Tryz.cb127 : callB Tryz.prog 127 = true := by kernel_rfl
theorem Tryz.cb128 : callB Tryz.prog 128 = true := by kernel_rfl
theorem Tryz.cb129 : callB Tryz.prog 129 = true := by kernel_rfl
theorem Tryz.cb130 : callB Tryz.prog 130 = true := by kernel_rfl
theorem Tryz.cb131 : callB Tryz.prog 131 = true := by kernel_rfl
theorem Tryz.cb132 : callB Tryz.prog 132 = true := by kernel_rfl
theorem Tryz.cb133 : callB Tryz.prog 133 = true := by kernel_rfl
theorem Tryz.cb134 : callB Tryz.prog 134 = true := by kernel_rfl
theorem Tryz.cb135 : callB Tryz.prog 135 = true := by kernel_rfl
theorem Tryz.cb136 : callB Tryz.prog 136 = true := by kernel_rfl
theorem Tryz.cb137 : callB Tryz.prog 137 = true := by kernel_rfl
theorem Tryz.cb138 : callB Tryz.prog 138 = true := by kernel_rfl
theorem Tryz.cb139 : callB Tryz.prog 139 = true := by kernel_rfl
theorem Tryz.cb140 : callB Tryz.prog 140 = true := by kernel_rfl
theorem Tryz.cb141 : callB Tryz.prog 141 = true := by kernel_rfl
theorem Tryz.cb142 : callB Tryz.prog 142 = true := by kernel_rfl
theorem Tryz.cb143 : callB Tryz.prog 143 = true := by kernel_rfl
theorem Tryz.cb144 : callB Tryz.prog 144 = true := by kernel_rfl
theorem Tryz.cb145 : callB Tryz.prog 145 = true := by kernel_rfl
theorem Tryz.cb146 : callB Tryz.prog 146 = true := by kernel_rfl
theorem Tryz.cb147 : callB Tryz.prog 147 = true := by kernel_rfl
theorem Tryz.cb148 : callB Tryz.prog 148 = true := by kernel_rfl
theorem Tryz.cb149 : callB Tryz.prog 149 = true := by kernel_rfl
theorem Tryz.cb150 : callB Tryz.prog 150 = true := by kernel_rfl
theorem Tryz.cb151 : callB Tryz.prog 151 = true := by kernel_rfl
theorem Tryz.cb152 : callB Tryz.prog 152 = true := by kernel_rfl
theorem Tryz.cb153 : callB Tryz.prog 153 = true := by kernel_rfl
theorem Tryz.cb154 : callB Tryz.prog 154 = true := by kernel_rfl
theorem Tryz.cb155 : callB Tryz.prog 155 = true := by kernel_rfl
theorem Tryz.cb156 : callB Tryz.prog 156 = true := by kernel_rfl
theorem Tryz.cb157 : callB Tryz.prog 157 = true := by kernel_rfl
theorem Tryz.cb158 : callB Tryz.prog 158 = true := by kernel_rfl
theorem Tryz.cb159 : callB Tryz.prog 159 = true := by kernel_rfl
theorem Tryz.cb160 : callB Tryz.prog 160 = true := by kernel_rfl
theorem Tryz.cb161 : callB Tryz.prog 161 = true := by kernel_rfl
theorem Tryz.cb162 : callB Tryz.prog 162 = true := by kernel_rfl
theorem Tryz.cb163 : callB Tryz.prog 163 = true := by kernel_rfl
theorem Tryz.cb164 : callB Tryz.prog 164 = true := by kernel_rfl
theorem Tryz.cb165 : callB Tryz.prog 165 = true := by kernel_rfl
theorem Tryz.cb166 : callB Tryz.prog 166 = true := by kernel_rfl
theorem Tryz.cb167 : callB Tryz.prog 167 = true := by kernel_rfl
theorem Tryz.cb168 : callB Tryz.prog 168 = true := by kernel_rfl
theorem Tryz.cb169 : callB Tryz.prog 169 = true := by kernel_rfl
theorem Tryz.cb171 : callB Tryz.prog 171 = true := by kernel_rfl
theorem Tryz.cb172 : callB Tryz.prog 172 = true := by kernel_rfl
theorem Tryz.cb174 : callB Tryz.prog 174 = true := by kernel_rfl
theorem Tryz.cb199 : callB Tryz.prog 199 = true := by kernel_rfl
theorem Tryz.xt173 : extB Tryz.prog 173 Extern.BytealgIndexByte.indexByte := fun args w => Go.run_callFunc_extern Tryz.func173 (by kernel_rfl) (by kernel_rfl) (by kernel_rfl) (by kernel_rfl) args w
theorem Tryz.ag1 : aggB Tryz.prog 1 = some false := by kernel_rfl
theorem Tryz.cz1 : Tryz.prog.cellsOf 1 = 1 := by kernel_rfl
theorem Tryz.by1 : Tryz.prog.bytesOf 1 = 8 := by kernel_rfl
theorem Tryz.zb1 : zeroB Tryz.prog 1 = some [.nilFunc] := by kernel_rfl
theorem Tryz.ag2 : aggB Tryz.prog 2 = some false := by kernel_rfl
theorem Tryz.cz2 : Tryz.prog.cellsOf 2 = 1 := by kernel_rfl
theorem Tryz.by2 : Tryz.prog.bytesOf 2 = 8 := by kernel_rfl
theorem Tryz.zb2 : zeroB Tryz.prog 2 = some [.int .i64 0] := by kernel_rfl
theorem Tryz.ag3 : aggB Tryz.prog 3 = some false := by kernel_rfl
theorem Tryz.cz3 : Tryz.prog.cellsOf 3 = 1 := by kernel_rfl
theorem Tryz.by3 : Tryz.prog.bytesOf 3 = 8 := by kernel_rfl
theorem Tryz.zb3 : zeroB Tryz.prog 3 = some [.int .i64 0] := by kernel_rfl
theorem Tryz.ag4 : aggB Tryz.prog 4 = some false := by kernel_rfl
theorem Tryz.cz4 : Tryz.prog.cellsOf 4 = 1 := by kernel_rfl
theorem Tryz.by4 : Tryz.prog.bytesOf 4 = 1 := by kernel_rfl
theorem Tryz.zb4 : zeroB Tryz.prog 4 = some [.bool false] := by kernel_rfl
theorem Tryz.ag5 : aggB Tryz.prog 5 = some false := by kernel_rfl
theorem Tryz.cz5 : Tryz.prog.cellsOf 5 = 1 := by kernel_rfl
theorem Tryz.by5 : Tryz.prog.bytesOf 5 = 1 := by kernel_rfl
theorem Tryz.zb5 : zeroB Tryz.prog 5 = some [.int .u8 0] := by kernel_rfl
theorem Tryz.ag6 : aggB Tryz.prog 6 = some false := by kernel_rfl
theorem Tryz.cz6 : Tryz.prog.cellsOf 6 = 1 := by kernel_rfl
theorem Tryz.by6 : Tryz.prog.bytesOf 6 = 1 := by kernel_rfl
theorem Tryz.zb6 : zeroB Tryz.prog 6 = some [.int .u8 0] := by kernel_rfl
theorem Tryz.ag7 : aggB Tryz.prog 7 = some true := by kernel_rfl
theorem Tryz.cz7 : Tryz.prog.cellsOf 7 = 4 := by kernel_rfl
theorem Tryz.by7 : Tryz.prog.bytesOf 7 = 24 := by kernel_rfl
theorem Tryz.zb7 : zeroB Tryz.prog 7 = some [.int .i64 0, .int .i64 0, .bool false, .int .u8 0] := by kernel_rfl
theorem Tryz.pl7 : placesB Tryz.prog 7 = some [(0, 1), (1, 1), (2, 1), (3, 1)] := by kernel_rfl
theorem Tryz.fd7_0 : fieldB Tryz.prog 7 0 = some 0 := by kernel_rfl
theorem Tryz.fd7_1 : fieldB Tryz.prog 7 1 = some 1 := by kernel_rfl
theorem Tryz.fd7_2 : fieldB Tryz.prog 7 2 = some 2 := by kernel_rfl
theorem Tryz.fd7_3 : fieldB Tryz.prog 7 3 = some 3 := by kernel_rfl
theorem Tryz.ag8 : aggB Tryz.prog 8 = some true := by kernel_rfl
theorem Tryz.cz8 : Tryz.prog.cellsOf 8 = 4 := by kernel_rfl
theorem Tryz.by8 : Tryz.prog.bytesOf 8 = 24 := by kernel_rfl
theorem Tryz.zb8 : zeroB Tryz.prog 8 = some [.int .i64 0, .int .i64 0, .bool false, .int .u8 0] := by kernel_rfl
theorem Tryz.pl8 : placesB Tryz.prog 8 = some [(0, 1), (1, 1), (2, 1), (3, 1)] := by kernel_rfl
theorem Tryz.fd8_0 : fieldB Tryz.prog 8 0 = some 0 := by kernel_rfl
theorem Tryz.fd8_1 : fieldB Tryz.prog 8 1 = some 1 := by kernel_rfl
theorem Tryz.fd8_2 : fieldB Tryz.prog 8 2 = some 2 := by kernel_rfl
theorem Tryz.fd8_3 : fieldB Tryz.prog 8 3 = some 3 := by kernel_rfl
theorem Tryz.ag9 : aggB Tryz.prog 9 = some false := by kernel_rfl
theorem Tryz.cz9 : Tryz.prog.cellsOf 9 = 1 := by kernel_rfl
theorem Tryz.by9 : Tryz.prog.bytesOf 9 = 16 := by kernel_rfl
theorem Tryz.zb9 : zeroB Tryz.prog 9 = some [.string ⟨#[]⟩] := by kernel_rfl
theorem Tryz.ag10 : aggB Tryz.prog 10 = some false := by kernel_rfl
theorem Tryz.cz10 : Tryz.prog.cellsOf 10 = 1 := by kernel_rfl
theorem Tryz.by10 : Tryz.prog.bytesOf 10 = 16 := by kernel_rfl
theorem Tryz.zb10 : zeroB Tryz.prog 10 = some [.string ⟨#[]⟩] := by kernel_rfl
theorem Tryz.ag11 : aggB Tryz.prog 11 = some false := by kernel_rfl
theorem Tryz.cz11 : Tryz.prog.cellsOf 11 = 1 := by kernel_rfl
theorem Tryz.by11 : Tryz.prog.bytesOf 11 = 16 := by kernel_rfl
theorem Tryz.zb11 : zeroB Tryz.prog 11 = some [.string ⟨#[]⟩] := by kernel_rfl
theorem Tryz.ag12 : aggB Tryz.prog 12 = some false := by kernel_rfl
theorem Tryz.cz12 : Tryz.prog.cellsOf 12 = 1 := by kernel_rfl
theorem Tryz.by12 : Tryz.prog.bytesOf 12 = 8 := by kernel_rfl
theorem Tryz.zb12 : zeroB Tryz.prog 12 = some [.int .u64 0] := by kernel_rfl
theorem Tryz.ag13 : aggB Tryz.prog 13 = some true := by kernel_rfl
theorem Tryz.cz13 : Tryz.prog.cellsOf 13 = 2 := by kernel_rfl
theorem Tryz.by13 : Tryz.prog.bytesOf 13 = 24 := by kernel_rfl
theorem Tryz.zb13 : zeroB Tryz.prog 13 = some [.string ⟨#[]⟩, .int .u64 0] := by kernel_rfl
theorem Tryz.pl13 : placesB Tryz.prog 13 = some [(0, 1), (1, 1)] := by kernel_rfl
theorem Tryz.fd13_0 : fieldB Tryz.prog 13 0 = some 0 := by kernel_rfl
theorem Tryz.fd13_1 : fieldB Tryz.prog 13 1 = some 1 := by kernel_rfl
theorem Tryz.ag14 : aggB Tryz.prog 14 = some true := by kernel_rfl
theorem Tryz.cz14 : Tryz.prog.cellsOf 14 = 2 := by kernel_rfl
theorem Tryz.by14 : Tryz.prog.bytesOf 14 = 24 := by kernel_rfl
theorem Tryz.zb14 : zeroB Tryz.prog 14 = some [.string ⟨#[]⟩, .int .u64 0] := by kernel_rfl
theorem Tryz.pl14 : placesB Tryz.prog 14 = some [(0, 1), (1, 1)] := by kernel_rfl
theorem Tryz.fd14_0 : fieldB Tryz.prog 14 0 = some 0 := by kernel_rfl
theorem Tryz.fd14_1 : fieldB Tryz.prog 14 1 = some 1 := by kernel_rfl
theorem Tryz.ag15 : aggB Tryz.prog 15 = some false := by kernel_rfl
theorem Tryz.cz15 : Tryz.prog.cellsOf 15 = 1 := by kernel_rfl
theorem Tryz.by15 : Tryz.prog.bytesOf 15 = 8 := by kernel_rfl
theorem Tryz.zb15 : zeroB Tryz.prog 15 = some [.pointer none] := by kernel_rfl
theorem Tryz.ag16 : aggB Tryz.prog 16 = some false := by kernel_rfl
theorem Tryz.cz16 : Tryz.prog.cellsOf 16 = 1 := by kernel_rfl
theorem Tryz.by16 : Tryz.prog.bytesOf 16 = 8 := by kernel_rfl
theorem Tryz.zb16 : zeroB Tryz.prog 16 = some [.pointer none] := by kernel_rfl
theorem Tryz.ag17 : aggB Tryz.prog 17 = some false := by kernel_rfl
theorem Tryz.cz17 : Tryz.prog.cellsOf 17 = 1 := by kernel_rfl
theorem Tryz.by17 : Tryz.prog.bytesOf 17 = 8 := by kernel_rfl
theorem Tryz.zb17 : zeroB Tryz.prog 17 = some [.pointer none] := by kernel_rfl
theorem Tryz.ag18 : aggB Tryz.prog 18 = some true := by kernel_rfl
theorem Tryz.cz18 : Tryz.prog.cellsOf 18 = 1 := by kernel_rfl
theorem Tryz.by18 : Tryz.prog.bytesOf 18 = 8 := by kernel_rfl
theorem Tryz.zb18 : zeroB Tryz.prog 18 = some [.pointer none] := by kernel_rfl
theorem Tryz.pl18 : placesB Tryz.prog 18 = some [(0, 1)] := by kernel_rfl
theorem Tryz.fd18_0 : fieldB Tryz.prog 18 0 = some 0 := by kernel_rfl
theorem Tryz.ag19 : aggB Tryz.prog 19 = some true := by kernel_rfl
theorem Tryz.cz19 : Tryz.prog.cellsOf 19 = 1 := by kernel_rfl
theorem Tryz.by19 : Tryz.prog.bytesOf 19 = 8 := by kernel_rfl
theorem Tryz.zb19 : zeroB Tryz.prog 19 = some [.pointer none] := by kernel_rfl
theorem Tryz.pl19 : placesB Tryz.prog 19 = some [(0, 1)] := by kernel_rfl
theorem Tryz.fd19_0 : fieldB Tryz.prog 19 0 = some 0 := by kernel_rfl
theorem Tryz.ag20 : aggB Tryz.prog 20 = some false := by kernel_rfl
theorem Tryz.cz20 : Tryz.prog.cellsOf 20 = 1 := by kernel_rfl
theorem Tryz.by20 : Tryz.prog.bytesOf 20 = 16 := by kernel_rfl
theorem Tryz.zb20 : zeroB Tryz.prog 20 = some [.nilIface] := by kernel_rfl
theorem Tryz.ag21 : aggB Tryz.prog 21 = some false := by kernel_rfl
theorem Tryz.cz21 : Tryz.prog.cellsOf 21 = 1 := by kernel_rfl
theorem Tryz.by21 : Tryz.prog.bytesOf 21 = 4 := by kernel_rfl
theorem Tryz.zb21 : zeroB Tryz.prog 21 = some [.int .i32 0] := by kernel_rfl
theorem Tryz.ag22 : aggB Tryz.prog 22 = some false := by kernel_rfl
theorem Tryz.cz22 : Tryz.prog.cellsOf 22 = 1 := by kernel_rfl
theorem Tryz.by22 : Tryz.prog.bytesOf 22 = 24 := by kernel_rfl
theorem Tryz.zb22 : zeroB Tryz.prog 22 = some [.slice none 0 0] := by kernel_rfl
theorem Tryz.ag23 : aggB Tryz.prog 23 = some false := by kernel_rfl
theorem Tryz.cz23 : Tryz.prog.cellsOf 23 = 1 := by kernel_rfl
theorem Tryz.by23 : Tryz.prog.bytesOf 23 = 8 := by kernel_rfl
theorem Tryz.zb23 : zeroB Tryz.prog 23 = some [.nilFunc] := by kernel_rfl
theorem Tryz.ag24 : aggB Tryz.prog 24 = some false := by kernel_rfl
theorem Tryz.cz24 : Tryz.prog.cellsOf 24 = 1 := by kernel_rfl
theorem Tryz.by24 : Tryz.prog.bytesOf 24 = 8 := by kernel_rfl
theorem Tryz.zb24 : zeroB Tryz.prog 24 = some [.nilFunc] := by kernel_rfl
theorem Tryz.ag25 : aggB Tryz.prog 25 = some false := by kernel_rfl
theorem Tryz.cz25 : Tryz.prog.cellsOf 25 = 1 := by kernel_rfl
theorem Tryz.by25 : Tryz.prog.bytesOf 25 = 8 := by kernel_rfl
theorem Tryz.zb25 : zeroB Tryz.prog 25 = some [.nilFunc] := by kernel_rfl
theorem Tryz.ag26 : aggB Tryz.prog 26 = some false := by kernel_rfl
theorem Tryz.cz26 : Tryz.prog.cellsOf 26 = 1 := by kernel_rfl
theorem Tryz.by26 : Tryz.prog.bytesOf 26 = 8 := by kernel_rfl
theorem Tryz.zb26 : zeroB Tryz.prog 26 = some [.nilFunc] := by kernel_rfl
theorem Tryz.ag27 : aggB Tryz.prog 27 = some false := by kernel_rfl
theorem Tryz.cz27 : Tryz.prog.cellsOf 27 = 1 := by kernel_rfl
theorem Tryz.by27 : Tryz.prog.bytesOf 27 = 8 := by kernel_rfl
theorem Tryz.zb27 : zeroB Tryz.prog 27 = some [.nilFunc] := by kernel_rfl
theorem Tryz.ag28 : aggB Tryz.prog 28 = some true := by kernel_rfl
theorem Tryz.cz28 : Tryz.prog.cellsOf 28 = 6 := by kernel_rfl
theorem Tryz.by28 : Tryz.prog.bytesOf 28 = 96 := by kernel_rfl
theorem Tryz.zb28 : zeroB Tryz.prog 28 = some [.string ⟨#[]⟩, .string ⟨#[]⟩, .string ⟨#[]⟩, .string ⟨#[]⟩, .string ⟨#[]⟩, .string ⟨#[]⟩] := by kernel_rfl
theorem Tryz.ar28 : arrB Tryz.prog 28 = some (6, 1) := by kernel_rfl
theorem Tryz.ag29 : aggB Tryz.prog 29 = some false := by kernel_rfl
theorem Tryz.cz29 : Tryz.prog.cellsOf 29 = 1 := by kernel_rfl
theorem Tryz.by29 : Tryz.prog.bytesOf 29 = 24 := by kernel_rfl
theorem Tryz.zb29 : zeroB Tryz.prog 29 = some [.slice none 0 0] := by kernel_rfl
theorem Tryz.ag30 : aggB Tryz.prog 30 = some true := by kernel_rfl
theorem Tryz.cz30 : Tryz.prog.cellsOf 30 = 3 := by kernel_rfl
theorem Tryz.by30 : Tryz.prog.bytesOf 30 = 24 := by kernel_rfl
theorem Tryz.zb30 : zeroB Tryz.prog 30 = some [.int .i64 0, .int .i64 0, .int .i64 0] := by kernel_rfl
theorem Tryz.pl30 : placesB Tryz.prog 30 = some [(0, 1), (1, 1), (2, 1)] := by kernel_rfl
theorem Tryz.fd30_0 : fieldB Tryz.prog 30 0 = some 0 := by kernel_rfl
theorem Tryz.fd30_1 : fieldB Tryz.prog 30 1 = some 1 := by kernel_rfl
theorem Tryz.fd30_2 : fieldB Tryz.prog 30 2 = some 2 := by kernel_rfl
theorem Tryz.ag31 : aggB Tryz.prog 31 = some true := by kernel_rfl
theorem Tryz.cz31 : Tryz.prog.cellsOf 31 = 3 := by kernel_rfl
theorem Tryz.by31 : Tryz.prog.bytesOf 31 = 24 := by kernel_rfl
theorem Tryz.zb31 : zeroB Tryz.prog 31 = some [.int .i64 0, .int .i64 0, .int .i64 0] := by kernel_rfl
theorem Tryz.pl31 : placesB Tryz.prog 31 = some [(0, 1), (1, 1), (2, 1)] := by kernel_rfl
theorem Tryz.sh31 : Tryz.prog.stoodInHeld 31 = false := by kernel_rfl
theorem Tryz.eg31 : Tryz.prog.eqGuardType Tryz.prog.depth 31 = false := by kernel_rfl
theorem Tryz.fd31_0 : fieldB Tryz.prog 31 0 = some 0 := by kernel_rfl
theorem Tryz.fd31_1 : fieldB Tryz.prog 31 1 = some 1 := by kernel_rfl
theorem Tryz.fd31_2 : fieldB Tryz.prog 31 2 = some 2 := by kernel_rfl
theorem Tryz.ag32 : aggB Tryz.prog 32 = some false := by kernel_rfl
theorem Tryz.cz32 : Tryz.prog.cellsOf 32 = 1 := by kernel_rfl
theorem Tryz.by32 : Tryz.prog.bytesOf 32 = 24 := by kernel_rfl
theorem Tryz.zb32 : zeroB Tryz.prog 32 = some [.slice none 0 0] := by kernel_rfl
theorem Tryz.ag33 : aggB Tryz.prog 33 = some true := by kernel_rfl
theorem Tryz.cz33 : Tryz.prog.cellsOf 33 = 2 := by kernel_rfl
theorem Tryz.by33 : Tryz.prog.bytesOf 33 = 48 := by kernel_rfl
theorem Tryz.zb33 : zeroB Tryz.prog 33 = some [.slice none 0 0, .slice none 0 0] := by kernel_rfl
theorem Tryz.pl33 : placesB Tryz.prog 33 = some [(0, 1), (1, 1)] := by kernel_rfl
theorem Tryz.fd33_0 : fieldB Tryz.prog 33 0 = some 0 := by kernel_rfl
theorem Tryz.fd33_1 : fieldB Tryz.prog 33 1 = some 1 := by kernel_rfl
theorem Tryz.ag34 : aggB Tryz.prog 34 = some true := by kernel_rfl
theorem Tryz.cz34 : Tryz.prog.cellsOf 34 = 2 := by kernel_rfl
theorem Tryz.by34 : Tryz.prog.bytesOf 34 = 48 := by kernel_rfl
theorem Tryz.zb34 : zeroB Tryz.prog 34 = some [.slice none 0 0, .slice none 0 0] := by kernel_rfl
theorem Tryz.pl34 : placesB Tryz.prog 34 = some [(0, 1), (1, 1)] := by kernel_rfl
theorem Tryz.sh34 : Tryz.prog.stoodInHeld 34 = false := by kernel_rfl
theorem Tryz.eg34 : Tryz.prog.eqGuardType Tryz.prog.depth 34 = false := by kernel_rfl
theorem Tryz.fd34_0 : fieldB Tryz.prog 34 0 = some 0 := by kernel_rfl
theorem Tryz.fd34_1 : fieldB Tryz.prog 34 1 = some 1 := by kernel_rfl
theorem Tryz.ag35 : aggB Tryz.prog 35 = some false := by kernel_rfl
theorem Tryz.cz35 : Tryz.prog.cellsOf 35 = 1 := by kernel_rfl
theorem Tryz.by35 : Tryz.prog.bytesOf 35 = 24 := by kernel_rfl
theorem Tryz.zb35 : zeroB Tryz.prog 35 = some [.slice none 0 0] := by kernel_rfl
theorem Tryz.ag36 : aggB Tryz.prog 36 = some false := by kernel_rfl
theorem Tryz.cz36 : Tryz.prog.cellsOf 36 = 1 := by kernel_rfl
theorem Tryz.by36 : Tryz.prog.bytesOf 36 = 8 := by kernel_rfl
theorem Tryz.zb36 : zeroB Tryz.prog 36 = some [.int .u64 0] := by kernel_rfl
theorem Tryz.ag37 : aggB Tryz.prog 37 = some false := by kernel_rfl
theorem Tryz.cz37 : Tryz.prog.cellsOf 37 = 1 := by kernel_rfl
theorem Tryz.by37 : Tryz.prog.bytesOf 37 = 24 := by kernel_rfl
theorem Tryz.zb37 : zeroB Tryz.prog 37 = some [.slice none 0 0] := by kernel_rfl
theorem Tryz.ag38 : aggB Tryz.prog 38 = some true := by kernel_rfl
theorem Tryz.cz38 : Tryz.prog.cellsOf 38 = 5 := by kernel_rfl
theorem Tryz.by38 : Tryz.prog.bytesOf 38 = 56 := by kernel_rfl
theorem Tryz.zb38 : zeroB Tryz.prog 38 = some [.int .i64 0, .int .u64 0, .int .u64 0, .int .i64 0, .slice none 0 0] := by kernel_rfl
theorem Tryz.pl38 : placesB Tryz.prog 38 = some [(0, 1), (1, 1), (2, 1), (3, 1), (4, 1)] := by kernel_rfl
theorem Tryz.fd38_0 : fieldB Tryz.prog 38 0 = some 0 := by kernel_rfl
theorem Tryz.fd38_1 : fieldB Tryz.prog 38 1 = some 1 := by kernel_rfl
theorem Tryz.fd38_2 : fieldB Tryz.prog 38 2 = some 2 := by kernel_rfl
theorem Tryz.fd38_3 : fieldB Tryz.prog 38 3 = some 3 := by kernel_rfl
theorem Tryz.fd38_4 : fieldB Tryz.prog 38 4 = some 4 := by kernel_rfl
theorem Tryz.ag39 : aggB Tryz.prog 39 = some true := by kernel_rfl
theorem Tryz.cz39 : Tryz.prog.cellsOf 39 = 5 := by kernel_rfl
theorem Tryz.by39 : Tryz.prog.bytesOf 39 = 56 := by kernel_rfl
theorem Tryz.zb39 : zeroB Tryz.prog 39 = some [.int .i64 0, .int .u64 0, .int .u64 0, .int .i64 0, .slice none 0 0] := by kernel_rfl
theorem Tryz.pl39 : placesB Tryz.prog 39 = some [(0, 1), (1, 1), (2, 1), (3, 1), (4, 1)] := by kernel_rfl
theorem Tryz.sh39 : Tryz.prog.stoodInHeld 39 = false := by kernel_rfl
theorem Tryz.eg39 : Tryz.prog.eqGuardType Tryz.prog.depth 39 = false := by kernel_rfl
theorem Tryz.fd39_0 : fieldB Tryz.prog 39 0 = some 0 := by kernel_rfl
theorem Tryz.fd39_1 : fieldB Tryz.prog 39 1 = some 1 := by kernel_rfl
theorem Tryz.fd39_2 : fieldB Tryz.prog 39 2 = some 2 := by kernel_rfl
theorem Tryz.fd39_3 : fieldB Tryz.prog 39 3 = some 3 := by kernel_rfl
theorem Tryz.fd39_4 : fieldB Tryz.prog 39 4 = some 4 := by kernel_rfl
theorem Tryz.ag40 : aggB Tryz.prog 40 = some false := by kernel_rfl
theorem Tryz.cz40 : Tryz.prog.cellsOf 40 = 1 := by kernel_rfl
theorem Tryz.by40 : Tryz.prog.bytesOf 40 = 24 := by kernel_rfl
theorem Tryz.zb40 : zeroB Tryz.prog 40 = some [.slice none 0 0] := by kernel_rfl
theorem Tryz.ag41 : aggB Tryz.prog 41 = some true := by kernel_rfl
theorem Tryz.cz41 : Tryz.prog.cellsOf 41 = 2 := by kernel_rfl
theorem Tryz.by41 : Tryz.prog.bytesOf 41 = 48 := by kernel_rfl
theorem Tryz.zb41 : zeroB Tryz.prog 41 = some [.slice none 0 0, .slice none 0 0] := by kernel_rfl
theorem Tryz.pl41 : placesB Tryz.prog 41 = some [(0, 1), (1, 1)] := by kernel_rfl
theorem Tryz.fd41_0 : fieldB Tryz.prog 41 0 = some 0 := by kernel_rfl
theorem Tryz.fd41_1 : fieldB Tryz.prog 41 1 = some 1 := by kernel_rfl
theorem Tryz.ag42 : aggB Tryz.prog 42 = some true := by kernel_rfl
theorem Tryz.cz42 : Tryz.prog.cellsOf 42 = 2 := by kernel_rfl
theorem Tryz.by42 : Tryz.prog.bytesOf 42 = 48 := by kernel_rfl
theorem Tryz.zb42 : zeroB Tryz.prog 42 = some [.slice none 0 0, .slice none 0 0] := by kernel_rfl
theorem Tryz.pl42 : placesB Tryz.prog 42 = some [(0, 1), (1, 1)] := by kernel_rfl
theorem Tryz.sh42 : Tryz.prog.stoodInHeld 42 = false := by kernel_rfl
theorem Tryz.eg42 : Tryz.prog.eqGuardType Tryz.prog.depth 42 = false := by kernel_rfl
theorem Tryz.fd42_0 : fieldB Tryz.prog 42 0 = some 0 := by kernel_rfl
theorem Tryz.fd42_1 : fieldB Tryz.prog 42 1 = some 1 := by kernel_rfl
theorem Tryz.ag43 : aggB Tryz.prog 43 = some true := by kernel_rfl
theorem Tryz.cz43 : Tryz.prog.cellsOf 43 = 3 := by kernel_rfl
theorem Tryz.by43 : Tryz.prog.bytesOf 43 = 56 := by kernel_rfl
theorem Tryz.zb43 : zeroB Tryz.prog 43 = some [.int .i64 0, .slice none 0 0, .slice none 0 0] := by kernel_rfl
theorem Tryz.pl43 : placesB Tryz.prog 43 = some [(0, 1), (1, 2)] := by kernel_rfl
theorem Tryz.fd43_0 : fieldB Tryz.prog 43 0 = some 0 := by kernel_rfl
theorem Tryz.fd43_1 : fieldB Tryz.prog 43 1 = some 1 := by kernel_rfl
theorem Tryz.ag44 : aggB Tryz.prog 44 = some true := by kernel_rfl
theorem Tryz.cz44 : Tryz.prog.cellsOf 44 = 3 := by kernel_rfl
theorem Tryz.by44 : Tryz.prog.bytesOf 44 = 56 := by kernel_rfl
theorem Tryz.zb44 : zeroB Tryz.prog 44 = some [.int .i64 0, .slice none 0 0, .slice none 0 0] := by kernel_rfl
theorem Tryz.pl44 : placesB Tryz.prog 44 = some [(0, 1), (1, 2)] := by kernel_rfl
theorem Tryz.sh44 : Tryz.prog.stoodInHeld 44 = false := by kernel_rfl
theorem Tryz.eg44 : Tryz.prog.eqGuardType Tryz.prog.depth 44 = false := by kernel_rfl
theorem Tryz.fd44_0 : fieldB Tryz.prog 44 0 = some 0 := by kernel_rfl
theorem Tryz.fd44_1 : fieldB Tryz.prog 44 1 = some 1 := by kernel_rfl
theorem Tryz.ag45 : aggB Tryz.prog 45 = some false := by kernel_rfl
theorem Tryz.cz45 : Tryz.prog.cellsOf 45 = 1 := by kernel_rfl
theorem Tryz.by45 : Tryz.prog.bytesOf 45 = 24 := by kernel_rfl
theorem Tryz.zb45 : zeroB Tryz.prog 45 = some [.slice none 0 0] := by kernel_rfl
theorem Tryz.ag46 : aggB Tryz.prog 46 = some false := by kernel_rfl
theorem Tryz.cz46 : Tryz.prog.cellsOf 46 = 1 := by kernel_rfl
theorem Tryz.by46 : Tryz.prog.bytesOf 46 = 24 := by kernel_rfl
theorem Tryz.zb46 : zeroB Tryz.prog 46 = some [.slice none 0 0] := by kernel_rfl
theorem Tryz.ag47 : aggB Tryz.prog 47 = some false := by kernel_rfl
theorem Tryz.cz47 : Tryz.prog.cellsOf 47 = 1 := by kernel_rfl
theorem Tryz.by47 : Tryz.prog.bytesOf 47 = 24 := by kernel_rfl
theorem Tryz.zb47 : zeroB Tryz.prog 47 = some [.slice none 0 0] := by kernel_rfl
theorem Tryz.ag48 : aggB Tryz.prog 48 = some false := by kernel_rfl
theorem Tryz.cz48 : Tryz.prog.cellsOf 48 = 1 := by kernel_rfl
theorem Tryz.by48 : Tryz.prog.bytesOf 48 = 24 := by kernel_rfl
theorem Tryz.zb48 : zeroB Tryz.prog 48 = some [.slice none 0 0] := by kernel_rfl
theorem Tryz.ag49 : aggB Tryz.prog 49 = some false := by kernel_rfl
theorem Tryz.cz49 : Tryz.prog.cellsOf 49 = 1 := by kernel_rfl
theorem Tryz.by49 : Tryz.prog.bytesOf 49 = 24 := by kernel_rfl
theorem Tryz.zb49 : zeroB Tryz.prog 49 = some [.slice none 0 0] := by kernel_rfl
theorem Tryz.ag50 : aggB Tryz.prog 50 = some false := by kernel_rfl
theorem Tryz.cz50 : Tryz.prog.cellsOf 50 = 1 := by kernel_rfl
theorem Tryz.by50 : Tryz.prog.bytesOf 50 = 24 := by kernel_rfl
theorem Tryz.zb50 : zeroB Tryz.prog 50 = some [.slice none 0 0] := by kernel_rfl
theorem Tryz.ag51 : aggB Tryz.prog 51 = some false := by kernel_rfl
theorem Tryz.cz51 : Tryz.prog.cellsOf 51 = 1 := by kernel_rfl
theorem Tryz.by51 : Tryz.prog.bytesOf 51 = 24 := by kernel_rfl
theorem Tryz.zb51 : zeroB Tryz.prog 51 = some [.slice none 0 0] := by kernel_rfl
theorem Tryz.ag52 : aggB Tryz.prog 52 = some true := by kernel_rfl
theorem Tryz.cz52 : Tryz.prog.cellsOf 52 = 10 := by kernel_rfl
theorem Tryz.by52 : Tryz.prog.bytesOf 52 = 208 := by kernel_rfl
theorem Tryz.zb52 : zeroB Tryz.prog 52 = some [.slice none 0 0, .slice none 0 0, .slice none 0 0, .int .i64 0, .slice none 0 0, .slice none 0 0, .slice none 0 0, .int .i64 0, .slice none 0 0, .slice none 0 0] := by kernel_rfl
theorem Tryz.pl52 : placesB Tryz.prog 52 = some [(0, 1), (1, 1), (2, 1), (3, 1), (4, 1), (5, 1), (6, 1), (7, 1), (8, 1), (9, 1)] := by kernel_rfl
theorem Tryz.fd52_0 : fieldB Tryz.prog 52 0 = some 0 := by kernel_rfl
theorem Tryz.fd52_1 : fieldB Tryz.prog 52 1 = some 1 := by kernel_rfl
theorem Tryz.fd52_2 : fieldB Tryz.prog 52 2 = some 2 := by kernel_rfl
theorem Tryz.fd52_3 : fieldB Tryz.prog 52 3 = some 3 := by kernel_rfl
theorem Tryz.fd52_4 : fieldB Tryz.prog 52 4 = some 4 := by kernel_rfl
theorem Tryz.fd52_5 : fieldB Tryz.prog 52 5 = some 5 := by kernel_rfl
theorem Tryz.fd52_6 : fieldB Tryz.prog 52 6 = some 6 := by kernel_rfl
theorem Tryz.fd52_7 : fieldB Tryz.prog 52 7 = some 7 := by kernel_rfl
theorem Tryz.fd52_8 : fieldB Tryz.prog 52 8 = some 8 := by kernel_rfl
theorem Tryz.fd52_9 : fieldB Tryz.prog 52 9 = some 9 := by kernel_rfl
theorem Tryz.ag53 : aggB Tryz.prog 53 = some true := by kernel_rfl
theorem Tryz.cz53 : Tryz.prog.cellsOf 53 = 10 := by kernel_rfl
theorem Tryz.by53 : Tryz.prog.bytesOf 53 = 208 := by kernel_rfl
theorem Tryz.zb53 : zeroB Tryz.prog 53 = some [.slice none 0 0, .slice none 0 0, .slice none 0 0, .int .i64 0, .slice none 0 0, .slice none 0 0, .slice none 0 0, .int .i64 0, .slice none 0 0, .slice none 0 0] := by kernel_rfl
theorem Tryz.pl53 : placesB Tryz.prog 53 = some [(0, 1), (1, 1), (2, 1), (3, 1), (4, 1), (5, 1), (6, 1), (7, 1), (8, 1), (9, 1)] := by kernel_rfl
theorem Tryz.sh53 : Tryz.prog.stoodInHeld 53 = false := by kernel_rfl
theorem Tryz.eg53 : Tryz.prog.eqGuardType Tryz.prog.depth 53 = false := by kernel_rfl
theorem Tryz.fd53_0 : fieldB Tryz.prog 53 0 = some 0 := by kernel_rfl
theorem Tryz.fd53_1 : fieldB Tryz.prog 53 1 = some 1 := by kernel_rfl
theorem Tryz.fd53_2 : fieldB Tryz.prog 53 2 = some 2 := by kernel_rfl
theorem Tryz.fd53_3 : fieldB Tryz.prog 53 3 = some 3 := by kernel_rfl
theorem Tryz.fd53_4 : fieldB Tryz.prog 53 4 = some 4 := by kernel_rfl
theorem Tryz.fd53_5 : fieldB Tryz.prog 53 5 = some 5 := by kernel_rfl
theorem Tryz.fd53_6 : fieldB Tryz.prog 53 6 = some 6 := by kernel_rfl
theorem Tryz.fd53_7 : fieldB Tryz.prog 53 7 = some 7 := by kernel_rfl
theorem Tryz.fd53_8 : fieldB Tryz.prog 53 8 = some 8 := by kernel_rfl
theorem Tryz.fd53_9 : fieldB Tryz.prog 53 9 = some 9 := by kernel_rfl
theorem Tryz.ag54 : aggB Tryz.prog 54 = some false := by kernel_rfl
theorem Tryz.cz54 : Tryz.prog.cellsOf 54 = 1 := by kernel_rfl
theorem Tryz.by54 : Tryz.prog.bytesOf 54 = 8 := by kernel_rfl
theorem Tryz.zb54 : zeroB Tryz.prog 54 = some [.int .i64 0] := by kernel_rfl
theorem Tryz.ag56 : aggB Tryz.prog 56 = some false := by kernel_rfl
theorem Tryz.cz56 : Tryz.prog.cellsOf 56 = 1 := by kernel_rfl
theorem Tryz.by56 : Tryz.prog.bytesOf 56 = 8 := by kernel_rfl
theorem Tryz.zb56 : zeroB Tryz.prog 56 = some [.nilFunc] := by kernel_rfl
theorem Tryz.ag57 : aggB Tryz.prog 57 = some false := by kernel_rfl
theorem Tryz.cz57 : Tryz.prog.cellsOf 57 = 1 := by kernel_rfl
theorem Tryz.by57 : Tryz.prog.bytesOf 57 = 8 := by kernel_rfl
theorem Tryz.zb57 : zeroB Tryz.prog 57 = some [.pointer none] := by kernel_rfl
theorem Tryz.ag58 : aggB Tryz.prog 58 = some false := by kernel_rfl
theorem Tryz.cz58 : Tryz.prog.cellsOf 58 = 1 := by kernel_rfl
theorem Tryz.by58 : Tryz.prog.bytesOf 58 = 8 := by kernel_rfl
theorem Tryz.zb58 : zeroB Tryz.prog 58 = some [.nilFunc] := by kernel_rfl
theorem Tryz.ag59 : aggB Tryz.prog 59 = some false := by kernel_rfl
theorem Tryz.cz59 : Tryz.prog.cellsOf 59 = 1 := by kernel_rfl
theorem Tryz.by59 : Tryz.prog.bytesOf 59 = 8 := by kernel_rfl
theorem Tryz.zb59 : zeroB Tryz.prog 59 = some [.nilFunc] := by kernel_rfl
theorem Tryz.ag60 : aggB Tryz.prog 60 = some false := by kernel_rfl
theorem Tryz.cz60 : Tryz.prog.cellsOf 60 = 1 := by kernel_rfl
theorem Tryz.by60 : Tryz.prog.bytesOf 60 = 8 := by kernel_rfl
theorem Tryz.zb60 : zeroB Tryz.prog 60 = some [.pointer none] := by kernel_rfl
theorem Tryz.ag61 : aggB Tryz.prog 61 = some false := by kernel_rfl
theorem Tryz.cz61 : Tryz.prog.cellsOf 61 = 1 := by kernel_rfl
theorem Tryz.by61 : Tryz.prog.bytesOf 61 = 8 := by kernel_rfl
theorem Tryz.zb61 : zeroB Tryz.prog 61 = some [.map none] := by kernel_rfl
theorem Tryz.ag62 : aggB Tryz.prog 62 = some true := by kernel_rfl
theorem Tryz.cz62 : Tryz.prog.cellsOf 62 = 3 := by kernel_rfl
theorem Tryz.by62 : Tryz.prog.bytesOf 62 = 40 := by kernel_rfl
theorem Tryz.zb62 : zeroB Tryz.prog 62 = some [.pointer none, .map none, .slice none 0 0] := by kernel_rfl
theorem Tryz.pl62 : placesB Tryz.prog 62 = some [(0, 1), (1, 1), (2, 1)] := by kernel_rfl
theorem Tryz.fd62_0 : fieldB Tryz.prog 62 0 = some 0 := by kernel_rfl
theorem Tryz.fd62_1 : fieldB Tryz.prog 62 1 = some 1 := by kernel_rfl
theorem Tryz.fd62_2 : fieldB Tryz.prog 62 2 = some 2 := by kernel_rfl
theorem Tryz.ag63 : aggB Tryz.prog 63 = some true := by kernel_rfl
theorem Tryz.cz63 : Tryz.prog.cellsOf 63 = 3 := by kernel_rfl
theorem Tryz.by63 : Tryz.prog.bytesOf 63 = 40 := by kernel_rfl
theorem Tryz.zb63 : zeroB Tryz.prog 63 = some [.pointer none, .map none, .slice none 0 0] := by kernel_rfl
theorem Tryz.pl63 : placesB Tryz.prog 63 = some [(0, 1), (1, 1), (2, 1)] := by kernel_rfl
theorem Tryz.sh63 : Tryz.prog.stoodInHeld 63 = false := by kernel_rfl
theorem Tryz.eg63 : Tryz.prog.eqGuardType Tryz.prog.depth 63 = false := by kernel_rfl
theorem Tryz.fd63_0 : fieldB Tryz.prog 63 0 = some 0 := by kernel_rfl
theorem Tryz.fd63_1 : fieldB Tryz.prog 63 1 = some 1 := by kernel_rfl
theorem Tryz.fd63_2 : fieldB Tryz.prog 63 2 = some 2 := by kernel_rfl
theorem Tryz.ag64 : aggB Tryz.prog 64 = some false := by kernel_rfl
theorem Tryz.cz64 : Tryz.prog.cellsOf 64 = 1 := by kernel_rfl
theorem Tryz.by64 : Tryz.prog.bytesOf 64 = 8 := by kernel_rfl
theorem Tryz.zb64 : zeroB Tryz.prog 64 = some [.nilFunc] := by kernel_rfl
theorem Tryz.ag65 : aggB Tryz.prog 65 = some false := by kernel_rfl
theorem Tryz.cz65 : Tryz.prog.cellsOf 65 = 1 := by kernel_rfl
theorem Tryz.by65 : Tryz.prog.bytesOf 65 = 24 := by kernel_rfl
theorem Tryz.zb65 : zeroB Tryz.prog 65 = some [.slice none 0 0] := by kernel_rfl
theorem Tryz.ag66 : aggB Tryz.prog 66 = some false := by kernel_rfl
theorem Tryz.cz66 : Tryz.prog.cellsOf 66 = 1 := by kernel_rfl
theorem Tryz.by66 : Tryz.prog.bytesOf 66 = 24 := by kernel_rfl
theorem Tryz.zb66 : zeroB Tryz.prog 66 = some [.slice none 0 0] := by kernel_rfl
theorem Tryz.ag67 : aggB Tryz.prog 67 = some true := by kernel_rfl
theorem Tryz.cz67 : Tryz.prog.cellsOf 67 = 10 := by kernel_rfl
theorem Tryz.by67 : Tryz.prog.bytesOf 67 = 208 := by kernel_rfl
theorem Tryz.zb67 : zeroB Tryz.prog 67 = some [.slice none 0 0, .slice none 0 0, .slice none 0 0, .int .i64 0, .slice none 0 0, .slice none 0 0, .slice none 0 0, .int .i64 0, .slice none 0 0, .slice none 0 0] := by kernel_rfl
theorem Tryz.pl67 : placesB Tryz.prog 67 = some [(0, 1), (1, 1), (2, 1), (3, 1), (4, 1), (5, 1), (6, 1), (7, 1), (8, 1), (9, 1)] := by kernel_rfl
theorem Tryz.fd67_0 : fieldB Tryz.prog 67 0 = some 0 := by kernel_rfl
theorem Tryz.fd67_1 : fieldB Tryz.prog 67 1 = some 1 := by kernel_rfl
theorem Tryz.fd67_2 : fieldB Tryz.prog 67 2 = some 2 := by kernel_rfl
theorem Tryz.fd67_3 : fieldB Tryz.prog 67 3 = some 3 := by kernel_rfl
theorem Tryz.fd67_4 : fieldB Tryz.prog 67 4 = some 4 := by kernel_rfl
theorem Tryz.fd67_5 : fieldB Tryz.prog 67 5 = some 5 := by kernel_rfl
theorem Tryz.fd67_6 : fieldB Tryz.prog 67 6 = some 6 := by kernel_rfl
theorem Tryz.fd67_7 : fieldB Tryz.prog 67 7 = some 7 := by kernel_rfl
theorem Tryz.fd67_8 : fieldB Tryz.prog 67 8 = some 8 := by kernel_rfl
theorem Tryz.fd67_9 : fieldB Tryz.prog 67 9 = some 9 := by kernel_rfl
theorem Tryz.ag68 : aggB Tryz.prog 68 = some true := by kernel_rfl
theorem Tryz.cz68 : Tryz.prog.cellsOf 68 = 10 := by kernel_rfl
theorem Tryz.by68 : Tryz.prog.bytesOf 68 = 208 := by kernel_rfl
theorem Tryz.zb68 : zeroB Tryz.prog 68 = some [.slice none 0 0, .slice none 0 0, .slice none 0 0, .int .i64 0, .slice none 0 0, .slice none 0 0, .slice none 0 0, .int .i64 0, .slice none 0 0, .slice none 0 0] := by kernel_rfl
theorem Tryz.pl68 : placesB Tryz.prog 68 = some [(0, 1), (1, 1), (2, 1), (3, 1), (4, 1), (5, 1), (6, 1), (7, 1), (8, 1), (9, 1)] := by kernel_rfl
theorem Tryz.sh68 : Tryz.prog.stoodInHeld 68 = false := by kernel_rfl
theorem Tryz.eg68 : Tryz.prog.eqGuardType Tryz.prog.depth 68 = false := by kernel_rfl
theorem Tryz.fd68_0 : fieldB Tryz.prog 68 0 = some 0 := by kernel_rfl
theorem Tryz.fd68_1 : fieldB Tryz.prog 68 1 = some 1 := by kernel_rfl
theorem Tryz.fd68_2 : fieldB Tryz.prog 68 2 = some 2 := by kernel_rfl
theorem Tryz.fd68_3 : fieldB Tryz.prog 68 3 = some 3 := by kernel_rfl
theorem Tryz.fd68_4 : fieldB Tryz.prog 68 4 = some 4 := by kernel_rfl
theorem Tryz.fd68_5 : fieldB Tryz.prog 68 5 = some 5 := by kernel_rfl
theorem Tryz.fd68_6 : fieldB Tryz.prog 68 6 = some 6 := by kernel_rfl
theorem Tryz.fd68_7 : fieldB Tryz.prog 68 7 = some 7 := by kernel_rfl
theorem Tryz.fd68_8 : fieldB Tryz.prog 68 8 = some 8 := by kernel_rfl
theorem Tryz.fd68_9 : fieldB Tryz.prog 68 9 = some 9 := by kernel_rfl
theorem Tryz.ag69 : aggB Tryz.prog 69 = some false := by kernel_rfl
theorem Tryz.cz69 : Tryz.prog.cellsOf 69 = 1 := by kernel_rfl
theorem Tryz.by69 : Tryz.prog.bytesOf 69 = 8 := by kernel_rfl
theorem Tryz.zb69 : zeroB Tryz.prog 69 = some [.nilFunc] := by kernel_rfl
theorem Tryz.ag70 : aggB Tryz.prog 70 = some false := by kernel_rfl
theorem Tryz.cz70 : Tryz.prog.cellsOf 70 = 1 := by kernel_rfl
theorem Tryz.by70 : Tryz.prog.bytesOf 70 = 1 := by kernel_rfl
theorem Tryz.zb70 : zeroB Tryz.prog 70 = some [.int .u8 0] := by kernel_rfl
theorem Tryz.ag71 : aggB Tryz.prog 71 = some true := by kernel_rfl
theorem Tryz.cz71 : Tryz.prog.cellsOf 71 = 3 := by kernel_rfl
theorem Tryz.by71 : Tryz.prog.bytesOf 71 = 16 := by kernel_rfl
theorem Tryz.zb71 : zeroB Tryz.prog 71 = some [.int .u8 0, .bool false, .int .u64 0] := by kernel_rfl
theorem Tryz.pl71 : placesB Tryz.prog 71 = some [(0, 1), (1, 1), (2, 1)] := by kernel_rfl
theorem Tryz.fd71_0 : fieldB Tryz.prog 71 0 = some 0 := by kernel_rfl
theorem Tryz.fd71_1 : fieldB Tryz.prog 71 1 = some 1 := by kernel_rfl
theorem Tryz.fd71_2 : fieldB Tryz.prog 71 2 = some 2 := by kernel_rfl
theorem Tryz.ag72 : aggB Tryz.prog 72 = some true := by kernel_rfl
theorem Tryz.cz72 : Tryz.prog.cellsOf 72 = 3 := by kernel_rfl
theorem Tryz.by72 : Tryz.prog.bytesOf 72 = 16 := by kernel_rfl
theorem Tryz.zb72 : zeroB Tryz.prog 72 = some [.int .u8 0, .bool false, .int .u64 0] := by kernel_rfl
theorem Tryz.pl72 : placesB Tryz.prog 72 = some [(0, 1), (1, 1), (2, 1)] := by kernel_rfl
theorem Tryz.sh72 : Tryz.prog.stoodInHeld 72 = false := by kernel_rfl
theorem Tryz.eg72 : Tryz.prog.eqGuardType Tryz.prog.depth 72 = false := by kernel_rfl
theorem Tryz.fd72_0 : fieldB Tryz.prog 72 0 = some 0 := by kernel_rfl
theorem Tryz.fd72_1 : fieldB Tryz.prog 72 1 = some 1 := by kernel_rfl
theorem Tryz.fd72_2 : fieldB Tryz.prog 72 2 = some 2 := by kernel_rfl
theorem Tryz.ag73 : aggB Tryz.prog 73 = some false := by kernel_rfl
theorem Tryz.cz73 : Tryz.prog.cellsOf 73 = 1 := by kernel_rfl
theorem Tryz.by73 : Tryz.prog.bytesOf 73 = 8 := by kernel_rfl
theorem Tryz.zb73 : zeroB Tryz.prog 73 = some [.nilFunc] := by kernel_rfl
theorem Tryz.ag74 : aggB Tryz.prog 74 = some false := by kernel_rfl
theorem Tryz.cz74 : Tryz.prog.cellsOf 74 = 1 := by kernel_rfl
theorem Tryz.by74 : Tryz.prog.bytesOf 74 = 24 := by kernel_rfl
theorem Tryz.zb74 : zeroB Tryz.prog 74 = some [.slice none 0 0] := by kernel_rfl
theorem Tryz.ag75 : aggB Tryz.prog 75 = some false := by kernel_rfl
theorem Tryz.cz75 : Tryz.prog.cellsOf 75 = 1 := by kernel_rfl
theorem Tryz.by75 : Tryz.prog.bytesOf 75 = 8 := by kernel_rfl
theorem Tryz.zb75 : zeroB Tryz.prog 75 = some [.nilFunc] := by kernel_rfl
theorem Tryz.ag76 : aggB Tryz.prog 76 = some true := by kernel_rfl
theorem Tryz.cz76 : Tryz.prog.cellsOf 76 = 2 := by kernel_rfl
theorem Tryz.by76 : Tryz.prog.bytesOf 76 = 48 := by kernel_rfl
theorem Tryz.zb76 : zeroB Tryz.prog 76 = some [.slice none 0 0, .slice none 0 0] := by kernel_rfl
theorem Tryz.pl76 : placesB Tryz.prog 76 = some [(0, 1), (1, 1)] := by kernel_rfl
theorem Tryz.fd76_0 : fieldB Tryz.prog 76 0 = some 0 := by kernel_rfl
theorem Tryz.fd76_1 : fieldB Tryz.prog 76 1 = some 1 := by kernel_rfl
theorem Tryz.ag77 : aggB Tryz.prog 77 = some true := by kernel_rfl
theorem Tryz.cz77 : Tryz.prog.cellsOf 77 = 2 := by kernel_rfl
theorem Tryz.by77 : Tryz.prog.bytesOf 77 = 48 := by kernel_rfl
theorem Tryz.zb77 : zeroB Tryz.prog 77 = some [.slice none 0 0, .slice none 0 0] := by kernel_rfl
theorem Tryz.pl77 : placesB Tryz.prog 77 = some [(0, 1), (1, 1)] := by kernel_rfl
theorem Tryz.sh77 : Tryz.prog.stoodInHeld 77 = false := by kernel_rfl
theorem Tryz.eg77 : Tryz.prog.eqGuardType Tryz.prog.depth 77 = false := by kernel_rfl
theorem Tryz.fd77_0 : fieldB Tryz.prog 77 0 = some 0 := by kernel_rfl
theorem Tryz.fd77_1 : fieldB Tryz.prog 77 1 = some 1 := by kernel_rfl
theorem Tryz.ag78 : aggB Tryz.prog 78 = some false := by kernel_rfl
theorem Tryz.cz78 : Tryz.prog.cellsOf 78 = 1 := by kernel_rfl
theorem Tryz.by78 : Tryz.prog.bytesOf 78 = 24 := by kernel_rfl
theorem Tryz.zb78 : zeroB Tryz.prog 78 = some [.slice none 0 0] := by kernel_rfl
theorem Tryz.ag79 : aggB Tryz.prog 79 = some true := by kernel_rfl
theorem Tryz.cz79 : Tryz.prog.cellsOf 79 = 2 := by kernel_rfl
theorem Tryz.by79 : Tryz.prog.bytesOf 79 = 48 := by kernel_rfl
theorem Tryz.zb79 : zeroB Tryz.prog 79 = some [.slice none 0 0, .slice none 0 0] := by kernel_rfl
theorem Tryz.pl79 : placesB Tryz.prog 79 = some [(0, 1), (1, 1)] := by kernel_rfl
theorem Tryz.fd79_0 : fieldB Tryz.prog 79 0 = some 0 := by kernel_rfl
theorem Tryz.fd79_1 : fieldB Tryz.prog 79 1 = some 1 := by kernel_rfl
theorem Tryz.ag80 : aggB Tryz.prog 80 = some true := by kernel_rfl
theorem Tryz.cz80 : Tryz.prog.cellsOf 80 = 2 := by kernel_rfl
theorem Tryz.by80 : Tryz.prog.bytesOf 80 = 48 := by kernel_rfl
theorem Tryz.zb80 : zeroB Tryz.prog 80 = some [.slice none 0 0, .slice none 0 0] := by kernel_rfl
theorem Tryz.pl80 : placesB Tryz.prog 80 = some [(0, 1), (1, 1)] := by kernel_rfl
theorem Tryz.sh80 : Tryz.prog.stoodInHeld 80 = false := by kernel_rfl
theorem Tryz.eg80 : Tryz.prog.eqGuardType Tryz.prog.depth 80 = false := by kernel_rfl
theorem Tryz.fd80_0 : fieldB Tryz.prog 80 0 = some 0 := by kernel_rfl
theorem Tryz.fd80_1 : fieldB Tryz.prog 80 1 = some 1 := by kernel_rfl
theorem Tryz.ag81 : aggB Tryz.prog 81 = some false := by kernel_rfl
theorem Tryz.cz81 : Tryz.prog.cellsOf 81 = 1 := by kernel_rfl
theorem Tryz.by81 : Tryz.prog.bytesOf 81 = 8 := by kernel_rfl
theorem Tryz.zb81 : zeroB Tryz.prog 81 = some [.nilFunc] := by kernel_rfl
theorem Tryz.ag82 : aggB Tryz.prog 82 = some true := by kernel_rfl
theorem Tryz.cz82 : Tryz.prog.cellsOf 82 = 3 := by kernel_rfl
theorem Tryz.by82 : Tryz.prog.bytesOf 82 = 56 := by kernel_rfl
theorem Tryz.zb82 : zeroB Tryz.prog 82 = some [.int .i64 0, .slice none 0 0, .slice none 0 0] := by kernel_rfl
theorem Tryz.pl82 : placesB Tryz.prog 82 = some [(0, 1), (1, 2)] := by kernel_rfl
theorem Tryz.fd82_0 : fieldB Tryz.prog 82 0 = some 0 := by kernel_rfl
theorem Tryz.fd82_1 : fieldB Tryz.prog 82 1 = some 1 := by kernel_rfl
theorem Tryz.ag83 : aggB Tryz.prog 83 = some true := by kernel_rfl
theorem Tryz.cz83 : Tryz.prog.cellsOf 83 = 3 := by kernel_rfl
theorem Tryz.by83 : Tryz.prog.bytesOf 83 = 56 := by kernel_rfl
theorem Tryz.zb83 : zeroB Tryz.prog 83 = some [.int .i64 0, .slice none 0 0, .slice none 0 0] := by kernel_rfl
theorem Tryz.pl83 : placesB Tryz.prog 83 = some [(0, 1), (1, 2)] := by kernel_rfl
theorem Tryz.sh83 : Tryz.prog.stoodInHeld 83 = false := by kernel_rfl
theorem Tryz.eg83 : Tryz.prog.eqGuardType Tryz.prog.depth 83 = false := by kernel_rfl
theorem Tryz.fd83_0 : fieldB Tryz.prog 83 0 = some 0 := by kernel_rfl
theorem Tryz.fd83_1 : fieldB Tryz.prog 83 1 = some 1 := by kernel_rfl
theorem Tryz.ag84 : aggB Tryz.prog 84 = some false := by kernel_rfl
theorem Tryz.cz84 : Tryz.prog.cellsOf 84 = 1 := by kernel_rfl
theorem Tryz.by84 : Tryz.prog.bytesOf 84 = 8 := by kernel_rfl
theorem Tryz.zb84 : zeroB Tryz.prog 84 = some [.nilFunc] := by kernel_rfl
theorem Tryz.ag85 : aggB Tryz.prog 85 = some true := by kernel_rfl
theorem Tryz.cz85 : Tryz.prog.cellsOf 85 = 4 := by kernel_rfl
theorem Tryz.by85 : Tryz.prog.bytesOf 85 = 40 := by kernel_rfl
theorem Tryz.zb85 : zeroB Tryz.prog 85 = some [.string ⟨#[]⟩, .int .i64 0, .int .i64 0, .int .i64 0] := by kernel_rfl
theorem Tryz.pl85 : placesB Tryz.prog 85 = some [(0, 1), (1, 1), (2, 1), (3, 1)] := by kernel_rfl
theorem Tryz.fd85_0 : fieldB Tryz.prog 85 0 = some 0 := by kernel_rfl
theorem Tryz.fd85_1 : fieldB Tryz.prog 85 1 = some 1 := by kernel_rfl
theorem Tryz.fd85_2 : fieldB Tryz.prog 85 2 = some 2 := by kernel_rfl
theorem Tryz.fd85_3 : fieldB Tryz.prog 85 3 = some 3 := by kernel_rfl
theorem Tryz.ag86 : aggB Tryz.prog 86 = some true := by kernel_rfl
theorem Tryz.cz86 : Tryz.prog.cellsOf 86 = 4 := by kernel_rfl
theorem Tryz.by86 : Tryz.prog.bytesOf 86 = 40 := by kernel_rfl
theorem Tryz.zb86 : zeroB Tryz.prog 86 = some [.string ⟨#[]⟩, .int .i64 0, .int .i64 0, .int .i64 0] := by kernel_rfl
theorem Tryz.pl86 : placesB Tryz.prog 86 = some [(0, 1), (1, 1), (2, 1), (3, 1)] := by kernel_rfl
theorem Tryz.sh86 : Tryz.prog.stoodInHeld 86 = false := by kernel_rfl
theorem Tryz.eg86 : Tryz.prog.eqGuardType Tryz.prog.depth 86 = false := by kernel_rfl
theorem Tryz.fd86_0 : fieldB Tryz.prog 86 0 = some 0 := by kernel_rfl
theorem Tryz.fd86_1 : fieldB Tryz.prog 86 1 = some 1 := by kernel_rfl
theorem Tryz.fd86_2 : fieldB Tryz.prog 86 2 = some 2 := by kernel_rfl
theorem Tryz.fd86_3 : fieldB Tryz.prog 86 3 = some 3 := by kernel_rfl
theorem Tryz.ag88 : aggB Tryz.prog 88 = some false := by kernel_rfl
theorem Tryz.cz88 : Tryz.prog.cellsOf 88 = 1 := by kernel_rfl
theorem Tryz.by88 : Tryz.prog.bytesOf 88 = 8 := by kernel_rfl
theorem Tryz.zb88 : zeroB Tryz.prog 88 = some [.nilFunc] := by kernel_rfl
theorem Tryz.ag89 : aggB Tryz.prog 89 = some true := by kernel_rfl
theorem Tryz.cz89 : Tryz.prog.cellsOf 89 = 3 := by kernel_rfl
theorem Tryz.by89 : Tryz.prog.bytesOf 89 = 32 := by kernel_rfl
theorem Tryz.zb89 : zeroB Tryz.prog 89 = some [.string ⟨#[]⟩, .int .i64 0, .int .i64 0] := by kernel_rfl
theorem Tryz.pl89 : placesB Tryz.prog 89 = some [(0, 1), (1, 1), (2, 1)] := by kernel_rfl
theorem Tryz.fd89_0 : fieldB Tryz.prog 89 0 = some 0 := by kernel_rfl
theorem Tryz.fd89_1 : fieldB Tryz.prog 89 1 = some 1 := by kernel_rfl
theorem Tryz.fd89_2 : fieldB Tryz.prog 89 2 = some 2 := by kernel_rfl
theorem Tryz.ag90 : aggB Tryz.prog 90 = some true := by kernel_rfl
theorem Tryz.cz90 : Tryz.prog.cellsOf 90 = 3 := by kernel_rfl
theorem Tryz.by90 : Tryz.prog.bytesOf 90 = 32 := by kernel_rfl
theorem Tryz.zb90 : zeroB Tryz.prog 90 = some [.string ⟨#[]⟩, .int .i64 0, .int .i64 0] := by kernel_rfl
theorem Tryz.pl90 : placesB Tryz.prog 90 = some [(0, 1), (1, 1), (2, 1)] := by kernel_rfl
theorem Tryz.sh90 : Tryz.prog.stoodInHeld 90 = false := by kernel_rfl
theorem Tryz.eg90 : Tryz.prog.eqGuardType Tryz.prog.depth 90 = false := by kernel_rfl
theorem Tryz.fd90_0 : fieldB Tryz.prog 90 0 = some 0 := by kernel_rfl
theorem Tryz.fd90_1 : fieldB Tryz.prog 90 1 = some 1 := by kernel_rfl
theorem Tryz.fd90_2 : fieldB Tryz.prog 90 2 = some 2 := by kernel_rfl
theorem Tryz.ag91 : aggB Tryz.prog 91 = some false := by kernel_rfl
theorem Tryz.cz91 : Tryz.prog.cellsOf 91 = 1 := by kernel_rfl
theorem Tryz.by91 : Tryz.prog.bytesOf 91 = 8 := by kernel_rfl
theorem Tryz.zb91 : zeroB Tryz.prog 91 = some [.nilFunc] := by kernel_rfl
theorem Tryz.ag92 : aggB Tryz.prog 92 = some true := by kernel_rfl
theorem Tryz.cz92 : Tryz.prog.cellsOf 92 = 4 := by kernel_rfl
theorem Tryz.by92 : Tryz.prog.bytesOf 92 = 32 := by kernel_rfl
theorem Tryz.zb92 : zeroB Tryz.prog 92 = some [.int .i64 0, .int .i64 0, .int .i64 0, .int .i64 0] := by kernel_rfl
theorem Tryz.ar92 : arrB Tryz.prog 92 = some (4, 1) := by kernel_rfl
theorem Tryz.ag93 : aggB Tryz.prog 93 = some false := by kernel_rfl
theorem Tryz.cz93 : Tryz.prog.cellsOf 93 = 1 := by kernel_rfl
theorem Tryz.by93 : Tryz.prog.bytesOf 93 = 24 := by kernel_rfl
theorem Tryz.zb93 : zeroB Tryz.prog 93 = some [.slice none 0 0] := by kernel_rfl
theorem Tryz.ag94 : aggB Tryz.prog 94 = some true := by kernel_rfl
theorem Tryz.cz94 : Tryz.prog.cellsOf 94 = 2 := by kernel_rfl
theorem Tryz.by94 : Tryz.prog.bytesOf 94 = 32 := by kernel_rfl
theorem Tryz.zb94 : zeroB Tryz.prog 94 = some [.int .u64 0, .slice none 0 0] := by kernel_rfl
theorem Tryz.pl94 : placesB Tryz.prog 94 = some [(0, 1), (1, 1)] := by kernel_rfl
theorem Tryz.fd94_0 : fieldB Tryz.prog 94 0 = some 0 := by kernel_rfl
theorem Tryz.fd94_1 : fieldB Tryz.prog 94 1 = some 1 := by kernel_rfl
theorem Tryz.ag95 : aggB Tryz.prog 95 = some true := by kernel_rfl
theorem Tryz.cz95 : Tryz.prog.cellsOf 95 = 2 := by kernel_rfl
theorem Tryz.by95 : Tryz.prog.bytesOf 95 = 32 := by kernel_rfl
theorem Tryz.zb95 : zeroB Tryz.prog 95 = some [.int .u64 0, .slice none 0 0] := by kernel_rfl
theorem Tryz.pl95 : placesB Tryz.prog 95 = some [(0, 1), (1, 1)] := by kernel_rfl
theorem Tryz.sh95 : Tryz.prog.stoodInHeld 95 = false := by kernel_rfl
theorem Tryz.eg95 : Tryz.prog.eqGuardType Tryz.prog.depth 95 = false := by kernel_rfl
theorem Tryz.fd95_0 : fieldB Tryz.prog 95 0 = some 0 := by kernel_rfl
theorem Tryz.fd95_1 : fieldB Tryz.prog 95 1 = some 1 := by kernel_rfl
theorem Tryz.ag96 : aggB Tryz.prog 96 = some true := by kernel_rfl
theorem Tryz.cz96 : Tryz.prog.cellsOf 96 = 3 := by kernel_rfl
theorem Tryz.by96 : Tryz.prog.bytesOf 96 = 40 := by kernel_rfl
theorem Tryz.zb96 : zeroB Tryz.prog 96 = some [.int .i64 0, .int .u64 0, .slice none 0 0] := by kernel_rfl
theorem Tryz.pl96 : placesB Tryz.prog 96 = some [(0, 1), (1, 1), (2, 1)] := by kernel_rfl
theorem Tryz.fd96_0 : fieldB Tryz.prog 96 0 = some 0 := by kernel_rfl
theorem Tryz.fd96_1 : fieldB Tryz.prog 96 1 = some 1 := by kernel_rfl
theorem Tryz.fd96_2 : fieldB Tryz.prog 96 2 = some 2 := by kernel_rfl
theorem Tryz.ag97 : aggB Tryz.prog 97 = some true := by kernel_rfl
theorem Tryz.cz97 : Tryz.prog.cellsOf 97 = 3 := by kernel_rfl
theorem Tryz.by97 : Tryz.prog.bytesOf 97 = 40 := by kernel_rfl
theorem Tryz.zb97 : zeroB Tryz.prog 97 = some [.int .i64 0, .int .u64 0, .slice none 0 0] := by kernel_rfl
theorem Tryz.pl97 : placesB Tryz.prog 97 = some [(0, 1), (1, 1), (2, 1)] := by kernel_rfl
theorem Tryz.sh97 : Tryz.prog.stoodInHeld 97 = false := by kernel_rfl
theorem Tryz.eg97 : Tryz.prog.eqGuardType Tryz.prog.depth 97 = false := by kernel_rfl
theorem Tryz.fd97_0 : fieldB Tryz.prog 97 0 = some 0 := by kernel_rfl
theorem Tryz.fd97_1 : fieldB Tryz.prog 97 1 = some 1 := by kernel_rfl
theorem Tryz.fd97_2 : fieldB Tryz.prog 97 2 = some 2 := by kernel_rfl
theorem Tryz.ag98 : aggB Tryz.prog 98 = some true := by kernel_rfl
theorem Tryz.cz98 : Tryz.prog.cellsOf 98 = 3 := by kernel_rfl
theorem Tryz.by98 : Tryz.prog.bytesOf 98 = 40 := by kernel_rfl
theorem Tryz.zb98 : zeroB Tryz.prog 98 = some [.string ⟨#[]⟩, .string ⟨#[]⟩, .int .i64 0] := by kernel_rfl
theorem Tryz.pl98 : placesB Tryz.prog 98 = some [(0, 1), (1, 1), (2, 1)] := by kernel_rfl
theorem Tryz.fd98_0 : fieldB Tryz.prog 98 0 = some 0 := by kernel_rfl
theorem Tryz.fd98_1 : fieldB Tryz.prog 98 1 = some 1 := by kernel_rfl
theorem Tryz.fd98_2 : fieldB Tryz.prog 98 2 = some 2 := by kernel_rfl
theorem Tryz.ag99 : aggB Tryz.prog 99 = some true := by kernel_rfl
theorem Tryz.cz99 : Tryz.prog.cellsOf 99 = 3 := by kernel_rfl
theorem Tryz.by99 : Tryz.prog.bytesOf 99 = 40 := by kernel_rfl
theorem Tryz.zb99 : zeroB Tryz.prog 99 = some [.string ⟨#[]⟩, .string ⟨#[]⟩, .int .i64 0] := by kernel_rfl
theorem Tryz.pl99 : placesB Tryz.prog 99 = some [(0, 1), (1, 1), (2, 1)] := by kernel_rfl
theorem Tryz.sh99 : Tryz.prog.stoodInHeld 99 = false := by kernel_rfl
theorem Tryz.eg99 : Tryz.prog.eqGuardType Tryz.prog.depth 99 = false := by kernel_rfl
theorem Tryz.fd99_0 : fieldB Tryz.prog 99 0 = some 0 := by kernel_rfl
theorem Tryz.fd99_1 : fieldB Tryz.prog 99 1 = some 1 := by kernel_rfl
theorem Tryz.fd99_2 : fieldB Tryz.prog 99 2 = some 2 := by kernel_rfl
theorem Tryz.ag100 : aggB Tryz.prog 100 = some true := by kernel_rfl
theorem Tryz.cz100 : Tryz.prog.cellsOf 100 = 5 := by kernel_rfl
theorem Tryz.by100 : Tryz.prog.bytesOf 100 = 56 := by kernel_rfl
theorem Tryz.zb100 : zeroB Tryz.prog 100 = some [.int .i64 0, .int .u64 0, .int .u64 0, .int .i64 0, .slice none 0 0] := by kernel_rfl
theorem Tryz.pl100 : placesB Tryz.prog 100 = some [(0, 1), (1, 1), (2, 1), (3, 1), (4, 1)] := by kernel_rfl
theorem Tryz.sh100 : Tryz.prog.stoodInHeld 100 = false := by kernel_rfl
theorem Tryz.eg100 : Tryz.prog.eqGuardType Tryz.prog.depth 100 = false := by kernel_rfl
theorem Tryz.fd100_0 : fieldB Tryz.prog 100 0 = some 0 := by kernel_rfl
theorem Tryz.fd100_1 : fieldB Tryz.prog 100 1 = some 1 := by kernel_rfl
theorem Tryz.fd100_2 : fieldB Tryz.prog 100 2 = some 2 := by kernel_rfl
theorem Tryz.fd100_3 : fieldB Tryz.prog 100 3 = some 3 := by kernel_rfl
theorem Tryz.fd100_4 : fieldB Tryz.prog 100 4 = some 4 := by kernel_rfl
theorem Tryz.ag101 : aggB Tryz.prog 101 = some false := by kernel_rfl
theorem Tryz.cz101 : Tryz.prog.cellsOf 101 = 1 := by kernel_rfl
theorem Tryz.by101 : Tryz.prog.bytesOf 101 = 8 := by kernel_rfl
theorem Tryz.zb101 : zeroB Tryz.prog 101 = some [.nilFunc] := by kernel_rfl
theorem Tryz.ag102 : aggB Tryz.prog 102 = some true := by kernel_rfl
theorem Tryz.cz102 : Tryz.prog.cellsOf 102 = 2 := by kernel_rfl
theorem Tryz.by102 : Tryz.prog.bytesOf 102 = 16 := by kernel_rfl
theorem Tryz.zb102 : zeroB Tryz.prog 102 = some [.int .i64 0, .int .i64 0] := by kernel_rfl
theorem Tryz.pl102 : placesB Tryz.prog 102 = some [(0, 1), (1, 1)] := by kernel_rfl
theorem Tryz.fd102_0 : fieldB Tryz.prog 102 0 = some 0 := by kernel_rfl
theorem Tryz.fd102_1 : fieldB Tryz.prog 102 1 = some 1 := by kernel_rfl
theorem Tryz.ag103 : aggB Tryz.prog 103 = some true := by kernel_rfl
theorem Tryz.cz103 : Tryz.prog.cellsOf 103 = 2 := by kernel_rfl
theorem Tryz.by103 : Tryz.prog.bytesOf 103 = 16 := by kernel_rfl
theorem Tryz.zb103 : zeroB Tryz.prog 103 = some [.int .i64 0, .int .i64 0] := by kernel_rfl
theorem Tryz.pl103 : placesB Tryz.prog 103 = some [(0, 1), (1, 1)] := by kernel_rfl
theorem Tryz.sh103 : Tryz.prog.stoodInHeld 103 = false := by kernel_rfl
theorem Tryz.eg103 : Tryz.prog.eqGuardType Tryz.prog.depth 103 = false := by kernel_rfl
theorem Tryz.fd103_0 : fieldB Tryz.prog 103 0 = some 0 := by kernel_rfl
theorem Tryz.fd103_1 : fieldB Tryz.prog 103 1 = some 1 := by kernel_rfl
theorem Tryz.ag104 : aggB Tryz.prog 104 = some false := by kernel_rfl
theorem Tryz.cz104 : Tryz.prog.cellsOf 104 = 1 := by kernel_rfl
theorem Tryz.by104 : Tryz.prog.bytesOf 104 = 8 := by kernel_rfl
theorem Tryz.zb104 : zeroB Tryz.prog 104 = some [.nilFunc] := by kernel_rfl
theorem Tryz.ag106 : aggB Tryz.prog 106 = some false := by kernel_rfl
theorem Tryz.cz106 : Tryz.prog.cellsOf 106 = 1 := by kernel_rfl
theorem Tryz.by106 : Tryz.prog.bytesOf 106 = 8 := by kernel_rfl
theorem Tryz.zb106 : zeroB Tryz.prog 106 = some [.nilFunc] := by kernel_rfl
theorem Tryz.ag107 : aggB Tryz.prog 107 = some false := by kernel_rfl
theorem Tryz.cz107 : Tryz.prog.cellsOf 107 = 1 := by kernel_rfl
theorem Tryz.by107 : Tryz.prog.bytesOf 107 = 8 := by kernel_rfl
theorem Tryz.zb107 : zeroB Tryz.prog 107 = some [.map none] := by kernel_rfl
theorem Tryz.ag108 : aggB Tryz.prog 108 = some true := by kernel_rfl
theorem Tryz.cz108 : Tryz.prog.cellsOf 108 = 5 := by kernel_rfl
theorem Tryz.by108 : Tryz.prog.bytesOf 108 = 80 := by kernel_rfl
theorem Tryz.zb108 : zeroB Tryz.prog 108 = some [.int .i64 0, .string ⟨#[]⟩, .int .i64 0, .slice none 0 0, .slice none 0 0] := by kernel_rfl
theorem Tryz.pl108 : placesB Tryz.prog 108 = some [(0, 1), (1, 1), (2, 1), (3, 1), (4, 1)] := by kernel_rfl
theorem Tryz.fd108_0 : fieldB Tryz.prog 108 0 = some 0 := by kernel_rfl
theorem Tryz.fd108_1 : fieldB Tryz.prog 108 1 = some 1 := by kernel_rfl
theorem Tryz.fd108_2 : fieldB Tryz.prog 108 2 = some 2 := by kernel_rfl
theorem Tryz.fd108_3 : fieldB Tryz.prog 108 3 = some 3 := by kernel_rfl
theorem Tryz.fd108_4 : fieldB Tryz.prog 108 4 = some 4 := by kernel_rfl
theorem Tryz.ag109 : aggB Tryz.prog 109 = some true := by kernel_rfl
theorem Tryz.cz109 : Tryz.prog.cellsOf 109 = 5 := by kernel_rfl
theorem Tryz.by109 : Tryz.prog.bytesOf 109 = 80 := by kernel_rfl
theorem Tryz.zb109 : zeroB Tryz.prog 109 = some [.int .i64 0, .string ⟨#[]⟩, .int .i64 0, .slice none 0 0, .slice none 0 0] := by kernel_rfl
theorem Tryz.pl109 : placesB Tryz.prog 109 = some [(0, 1), (1, 1), (2, 1), (3, 1), (4, 1)] := by kernel_rfl
theorem Tryz.sh109 : Tryz.prog.stoodInHeld 109 = false := by kernel_rfl
theorem Tryz.eg109 : Tryz.prog.eqGuardType Tryz.prog.depth 109 = false := by kernel_rfl
theorem Tryz.fd109_0 : fieldB Tryz.prog 109 0 = some 0 := by kernel_rfl
theorem Tryz.fd109_1 : fieldB Tryz.prog 109 1 = some 1 := by kernel_rfl
theorem Tryz.fd109_2 : fieldB Tryz.prog 109 2 = some 2 := by kernel_rfl
theorem Tryz.fd109_3 : fieldB Tryz.prog 109 3 = some 3 := by kernel_rfl
theorem Tryz.fd109_4 : fieldB Tryz.prog 109 4 = some 4 := by kernel_rfl
theorem Tryz.ag111 : aggB Tryz.prog 111 = some false := by kernel_rfl
theorem Tryz.cz111 : Tryz.prog.cellsOf 111 = 1 := by kernel_rfl
theorem Tryz.by111 : Tryz.prog.bytesOf 111 = 8 := by kernel_rfl
theorem Tryz.zb111 : zeroB Tryz.prog 111 = some [.nilFunc] := by kernel_rfl
theorem Tryz.ag112 : aggB Tryz.prog 112 = some false := by kernel_rfl
theorem Tryz.cz112 : Tryz.prog.cellsOf 112 = 1 := by kernel_rfl
theorem Tryz.by112 : Tryz.prog.bytesOf 112 = 8 := by kernel_rfl
theorem Tryz.zb112 : zeroB Tryz.prog 112 = some [.nilFunc] := by kernel_rfl
theorem Tryz.ag113 : aggB Tryz.prog 113 = some true := by kernel_rfl
theorem Tryz.cz113 : Tryz.prog.cellsOf 113 = 24 := by kernel_rfl
theorem Tryz.by113 : Tryz.prog.bytesOf 113 = 24 := by kernel_rfl
theorem Tryz.zb113 : zeroB Tryz.prog 113 = some [.int .u8 0, .int .u8 0, .int .u8 0, .int .u8 0, .int .u8 0, .int .u8 0, .int .u8 0, .int .u8 0, .int .u8 0, .int .u8 0, .int .u8 0, .int .u8 0, .int .u8 0, .int .u8 0, .int .u8 0, .int .u8 0, .int .u8 0, .int .u8 0, .int .u8 0, .int .u8 0, .int .u8 0, .int .u8 0, .int .u8 0, .int .u8 0] := by kernel_rfl
theorem Tryz.ar113 : arrB Tryz.prog 113 = some (24, 1) := by kernel_rfl
theorem Tryz.ag114 : aggB Tryz.prog 114 = some false := by kernel_rfl
theorem Tryz.cz114 : Tryz.prog.cellsOf 114 = 1 := by kernel_rfl
theorem Tryz.by114 : Tryz.prog.bytesOf 114 = 8 := by kernel_rfl
theorem Tryz.zb114 : zeroB Tryz.prog 114 = some [.nilFunc] := by kernel_rfl
theorem Tryz.ag115 : aggB Tryz.prog 115 = some false := by kernel_rfl
theorem Tryz.cz115 : Tryz.prog.cellsOf 115 = 1 := by kernel_rfl
theorem Tryz.by115 : Tryz.prog.bytesOf 115 = 8 := by kernel_rfl
theorem Tryz.zb115 : zeroB Tryz.prog 115 = some [.nilFunc] := by kernel_rfl
theorem Tryz.ag117 : aggB Tryz.prog 117 = some false := by kernel_rfl
theorem Tryz.cz117 : Tryz.prog.cellsOf 117 = 1 := by kernel_rfl
theorem Tryz.by117 : Tryz.prog.bytesOf 117 = 8 := by kernel_rfl
theorem Tryz.zb117 : zeroB Tryz.prog 117 = some [.nilFunc] := by kernel_rfl
theorem Tryz.ag118 : aggB Tryz.prog 118 = some false := by kernel_rfl
theorem Tryz.cz118 : Tryz.prog.cellsOf 118 = 1 := by kernel_rfl
theorem Tryz.by118 : Tryz.prog.bytesOf 118 = 24 := by kernel_rfl
theorem Tryz.zb118 : zeroB Tryz.prog 118 = some [.slice none 0 0] := by kernel_rfl
theorem Tryz.ag119 : aggB Tryz.prog 119 = some false := by kernel_rfl
theorem Tryz.cz119 : Tryz.prog.cellsOf 119 = 1 := by kernel_rfl
theorem Tryz.by119 : Tryz.prog.bytesOf 119 = 8 := by kernel_rfl
theorem Tryz.zb119 : zeroB Tryz.prog 119 = some [.nilFunc] := by kernel_rfl
theorem Tryz.ag121 : aggB Tryz.prog 121 = some false := by kernel_rfl
theorem Tryz.cz121 : Tryz.prog.cellsOf 121 = 1 := by kernel_rfl
theorem Tryz.by121 : Tryz.prog.bytesOf 121 = 8 := by kernel_rfl
theorem Tryz.zb121 : zeroB Tryz.prog 121 = some [.nilFunc] := by kernel_rfl
theorem Tryz.ag122 : aggB Tryz.prog 122 = some false := by kernel_rfl
theorem Tryz.cz122 : Tryz.prog.cellsOf 122 = 1 := by kernel_rfl
theorem Tryz.by122 : Tryz.prog.bytesOf 122 = 8 := by kernel_rfl
theorem Tryz.zb122 : zeroB Tryz.prog 122 = some [.nilFunc] := by kernel_rfl
theorem Tryz.ag123 : aggB Tryz.prog 123 = some true := by kernel_rfl
theorem Tryz.cz123 : Tryz.prog.cellsOf 123 = 5 := by kernel_rfl
theorem Tryz.by123 : Tryz.prog.bytesOf 123 = 64 := by kernel_rfl
theorem Tryz.zb123 : zeroB Tryz.prog 123 = some [.int .i64 0, .string ⟨#[]⟩, .int .i64 0, .string ⟨#[]⟩, .string ⟨#[]⟩] := by kernel_rfl
theorem Tryz.pl123 : placesB Tryz.prog 123 = some [(0, 1), (1, 1), (2, 1), (3, 1), (4, 1)] := by kernel_rfl
theorem Tryz.fd123_0 : fieldB Tryz.prog 123 0 = some 0 := by kernel_rfl
theorem Tryz.fd123_1 : fieldB Tryz.prog 123 1 = some 1 := by kernel_rfl
theorem Tryz.fd123_2 : fieldB Tryz.prog 123 2 = some 2 := by kernel_rfl
theorem Tryz.fd123_3 : fieldB Tryz.prog 123 3 = some 3 := by kernel_rfl
theorem Tryz.fd123_4 : fieldB Tryz.prog 123 4 = some 4 := by kernel_rfl
theorem Tryz.ag124 : aggB Tryz.prog 124 = some true := by kernel_rfl
theorem Tryz.cz124 : Tryz.prog.cellsOf 124 = 5 := by kernel_rfl
theorem Tryz.by124 : Tryz.prog.bytesOf 124 = 64 := by kernel_rfl
theorem Tryz.zb124 : zeroB Tryz.prog 124 = some [.int .i64 0, .string ⟨#[]⟩, .int .i64 0, .string ⟨#[]⟩, .string ⟨#[]⟩] := by kernel_rfl
theorem Tryz.pl124 : placesB Tryz.prog 124 = some [(0, 1), (1, 1), (2, 1), (3, 1), (4, 1)] := by kernel_rfl
theorem Tryz.sh124 : Tryz.prog.stoodInHeld 124 = false := by kernel_rfl
theorem Tryz.eg124 : Tryz.prog.eqGuardType Tryz.prog.depth 124 = false := by kernel_rfl
theorem Tryz.fd124_0 : fieldB Tryz.prog 124 0 = some 0 := by kernel_rfl
theorem Tryz.fd124_1 : fieldB Tryz.prog 124 1 = some 1 := by kernel_rfl
theorem Tryz.fd124_2 : fieldB Tryz.prog 124 2 = some 2 := by kernel_rfl
theorem Tryz.fd124_3 : fieldB Tryz.prog 124 3 = some 3 := by kernel_rfl
theorem Tryz.fd124_4 : fieldB Tryz.prog 124 4 = some 4 := by kernel_rfl
theorem Tryz.ag126 : aggB Tryz.prog 126 = some false := by kernel_rfl
theorem Tryz.cz126 : Tryz.prog.cellsOf 126 = 1 := by kernel_rfl
theorem Tryz.by126 : Tryz.prog.bytesOf 126 = 8 := by kernel_rfl
theorem Tryz.zb126 : zeroB Tryz.prog 126 = some [.nilFunc] := by kernel_rfl
theorem Tryz.ag127 : aggB Tryz.prog 127 = some false := by kernel_rfl
theorem Tryz.cz127 : Tryz.prog.cellsOf 127 = 1 := by kernel_rfl
theorem Tryz.by127 : Tryz.prog.bytesOf 127 = 8 := by kernel_rfl
theorem Tryz.zb127 : zeroB Tryz.prog 127 = some [.nilFunc] := by kernel_rfl
theorem Tryz.ag128 : aggB Tryz.prog 128 = some false := by kernel_rfl
theorem Tryz.cz128 : Tryz.prog.cellsOf 128 = 1 := by kernel_rfl
theorem Tryz.by128 : Tryz.prog.bytesOf 128 = 8 := by kernel_rfl
theorem Tryz.zb128 : zeroB Tryz.prog 128 = some [.nilFunc] := by kernel_rfl
theorem Tryz.ag129 : aggB Tryz.prog 129 = some false := by kernel_rfl
theorem Tryz.cz129 : Tryz.prog.cellsOf 129 = 1 := by kernel_rfl
theorem Tryz.by129 : Tryz.prog.bytesOf 129 = 8 := by kernel_rfl
theorem Tryz.zb129 : zeroB Tryz.prog 129 = some [.nilFunc] := by kernel_rfl
theorem Tryz.ag130 : aggB Tryz.prog 130 = some false := by kernel_rfl
theorem Tryz.cz130 : Tryz.prog.cellsOf 130 = 1 := by kernel_rfl
theorem Tryz.by130 : Tryz.prog.bytesOf 130 = 8 := by kernel_rfl
theorem Tryz.zb130 : zeroB Tryz.prog 130 = some [.nilFunc] := by kernel_rfl
theorem Tryz.ag131 : aggB Tryz.prog 131 = some true := by kernel_rfl
theorem Tryz.cz131 : Tryz.prog.cellsOf 131 = 20 := by kernel_rfl
theorem Tryz.by131 : Tryz.prog.bytesOf 131 = 160 := by kernel_rfl
theorem Tryz.zb131 : zeroB Tryz.prog 131 = some [.int .u64 0, .int .u64 0, .int .u64 0, .int .u64 0, .int .u64 0, .int .u64 0, .int .u64 0, .int .u64 0, .int .u64 0, .int .u64 0, .int .u64 0, .int .u64 0, .int .u64 0, .int .u64 0, .int .u64 0, .int .u64 0, .int .u64 0, .int .u64 0, .int .u64 0, .int .u64 0] := by kernel_rfl
theorem Tryz.ar131 : arrB Tryz.prog 131 = some (20, 1) := by kernel_rfl
theorem Tryz.ag132 : aggB Tryz.prog 132 = some false := by kernel_rfl
theorem Tryz.cz132 : Tryz.prog.cellsOf 132 = 1 := by kernel_rfl
theorem Tryz.by132 : Tryz.prog.bytesOf 132 = 4 := by kernel_rfl
theorem Tryz.zb132 : zeroB Tryz.prog 132 = some [.int .u32 0] := by kernel_rfl
theorem Tryz.ag133 : aggB Tryz.prog 133 = some true := by kernel_rfl
theorem Tryz.cz133 : Tryz.prog.cellsOf 133 = 65 := by kernel_rfl
theorem Tryz.by133 : Tryz.prog.bytesOf 133 = 65 := by kernel_rfl
theorem Tryz.zb133 : zeroB Tryz.prog 133 = some [.int .u8 0, .int .u8 0, .int .u8 0, .int .u8 0, .int .u8 0, .int .u8 0, .int .u8 0, .int .u8 0, .int .u8 0, .int .u8 0, .int .u8 0, .int .u8 0, .int .u8 0, .int .u8 0, .int .u8 0, .int .u8 0, .int .u8 0, .int .u8 0, .int .u8 0, .int .u8 0, .int .u8 0, .int .u8 0, .int .u8 0, .int .u8 0, .int .u8 0, .int .u8 0, .int .u8 0, .int .u8 0, .int .u8 0, .int .u8 0, .int .u8 0, .int .u8 0, .int .u8 0, .int .u8 0, .int .u8 0, .int .u8 0, .int .u8 0, .int .u8 0, .int .u8 0, .int .u8 0, .int .u8 0, .int .u8 0, .int .u8 0, .int .u8 0, .int .u8 0, .int .u8 0, .int .u8 0, .int .u8 0, .int .u8 0, .int .u8 0, .int .u8 0, .int .u8 0, .int .u8 0, .int .u8 0, .int .u8 0, .int .u8 0, .int .u8 0, .int .u8 0, .int .u8 0, .int .u8 0, .int .u8 0, .int .u8 0, .int .u8 0, .int .u8 0, .int .u8 0] := by kernel_rfl
theorem Tryz.ar133 : arrB Tryz.prog 133 = some (65, 1) := by kernel_rfl
theorem Tryz.ag134 : aggB Tryz.prog 134 = some false := by kernel_rfl
theorem Tryz.cz134 : Tryz.prog.cellsOf 134 = 1 := by kernel_rfl
theorem Tryz.by134 : Tryz.prog.bytesOf 134 = 8 := by kernel_rfl
theorem Tryz.zb134 : zeroB Tryz.prog 134 = some [.int .u64 0] := by kernel_rfl
theorem Tryz.ag135 : aggB Tryz.prog 135 = some false := by kernel_rfl
theorem Tryz.cz135 : Tryz.prog.cellsOf 135 = 1 := by kernel_rfl
theorem Tryz.by135 : Tryz.prog.bytesOf 135 = 8 := by kernel_rfl
theorem Tryz.zb135 : zeroB Tryz.prog 135 = some [.nilFunc] := by kernel_rfl
theorem Tryz.ag137 : aggB Tryz.prog 137 = some false := by kernel_rfl
theorem Tryz.cz137 : Tryz.prog.cellsOf 137 = 1 := by kernel_rfl
theorem Tryz.by137 : Tryz.prog.bytesOf 137 = 8 := by kernel_rfl
theorem Tryz.zb137 : zeroB Tryz.prog 137 = some [.nilFunc] := by kernel_rfl
theorem Tryz.ag139 : aggB Tryz.prog 139 = some false := by kernel_rfl
theorem Tryz.cz139 : Tryz.prog.cellsOf 139 = 1 := by kernel_rfl
theorem Tryz.by139 : Tryz.prog.bytesOf 139 = 8 := by kernel_rfl
theorem Tryz.zb139 : zeroB Tryz.prog 139 = some [.nilFunc] := by kernel_rfl
theorem Tryz.ag140 : aggB Tryz.prog 140 = some true := by kernel_rfl
theorem Tryz.cz140 : Tryz.prog.cellsOf 140 = 235 := by kernel_rfl
theorem Tryz.by140 : Tryz.prog.bytesOf 140 = 3008 := by kernel_rfl
theorem Tryz.zb140 : zeroB Tryz.prog 140 = some [.int .i64 0, .string ⟨#[]⟩, .int .i64 0, .string ⟨#[]⟩, .string ⟨#[]⟩, .int .i64 0, .string ⟨#[]⟩, .int .i64 0, .string ⟨#[]⟩, .string ⟨#[]⟩, .int .i64 0, .string ⟨#[]⟩, .int .i64 0, .string ⟨#[]⟩, .string ⟨#[]⟩, .int .i64 0, .string ⟨#[]⟩, .int .i64 0, .string ⟨#[]⟩, .string ⟨#[]⟩, .int .i64 0, .string ⟨#[]⟩, .int .i64 0, .string ⟨#[]⟩, .string ⟨#[]⟩, .int .i64 0, .string ⟨#[]⟩, .int .i64 0, .string ⟨#[]⟩, .string ⟨#[]⟩, .int .i64 0, .string ⟨#[]⟩, .int .i64 0, .string ⟨#[]⟩, .string ⟨#[]⟩, .int .i64 0, .string ⟨#[]⟩, .int .i64 0, .string ⟨#[]⟩, .string ⟨#[]⟩, .int .i64 0, .string ⟨#[]⟩, .int .i64 0, .string ⟨#[]⟩, .string ⟨#[]⟩, .int .i64 0, .string ⟨#[]⟩, .int .i64 0, .string ⟨#[]⟩, .string ⟨#[]⟩, .int .i64 0, .string ⟨#[]⟩, .int .i64 0, .string ⟨#[]⟩, .string ⟨#[]⟩, .int .i64 0, .string ⟨#[]⟩, .int .i64 0, .string ⟨#[]⟩, .string ⟨#[]⟩, .int .i64 0, .string ⟨#[]⟩, .int .i64 0, .string ⟨#[]⟩, .string ⟨#[]⟩, .int .i64 0, .string ⟨#[]⟩, .int .i64 0, .string ⟨#[]⟩, .string ⟨#[]⟩, .int .i64 0, .string ⟨#[]⟩, .int .i64 0, .string ⟨#[]⟩, .string ⟨#[]⟩, .int .i64 0, .string ⟨#[]⟩, .int .i64 0, .string ⟨#[]⟩, .string ⟨#[]⟩, .int .i64 0, .string ⟨#[]⟩, .int .i64 0, .string ⟨#[]⟩, .string ⟨#[]⟩, .int .i64 0, .string ⟨#[]⟩, .int .i64 0, .string ⟨#[]⟩, .string ⟨#[]⟩, .int .i64 0, .string ⟨#[]⟩, .int .i64 0, .string ⟨#[]⟩, .string ⟨#[]⟩, .int .i64 0, .string ⟨#[]⟩, .int .i64 0, .string ⟨#[]⟩, .string ⟨#[]⟩, .int .i64 0, .string ⟨#[]⟩, .int .i64 0, .string ⟨#[]⟩, .string ⟨#[]⟩, .int .i64 0, .string ⟨#[]⟩, .int .i64 0, .string ⟨#[]⟩, .string ⟨#[]⟩, .int .i64 0, .string ⟨#[]⟩, .int .i64 0, .string ⟨#[]⟩, .string ⟨#[]⟩, .int .i64 0, .string ⟨#[]⟩, .int .i64 0, .string ⟨#[]⟩, .string ⟨#[]⟩, .int .i64 0, .string ⟨#[]⟩, .int .i64 0, .string ⟨#[]⟩, .string ⟨#[]⟩, .int .i64 0, .string ⟨#[]⟩, .int .i64 0, .string ⟨#[]⟩, .string ⟨#[]⟩, .int .i64 0, .string ⟨#[]⟩, .int .i64 0, .string ⟨#[]⟩, .string ⟨#[]⟩, .int .i64 0, .string ⟨#[]⟩, .int .i64 0, .string ⟨#[]⟩, .string ⟨#[]⟩, .int .i64 0, .string ⟨#[]⟩, .int .i64 0, .string ⟨#[]⟩, .string ⟨#[]⟩, .int .i64 0, .string ⟨#[]⟩, .int .i64 0, .string ⟨#[]⟩, .string ⟨#[]⟩, .int .i64 0, .string ⟨#[]⟩, .int .i64 0, .string ⟨#[]⟩, .string ⟨#[]⟩, .int .i64 0, .string ⟨#[]⟩, .int .i64 0, .string ⟨#[]⟩, .string ⟨#[]⟩, .int .i64 0, .string ⟨#[]⟩, .int .i64 0, .string ⟨#[]⟩, .string ⟨#[]⟩, .int .i64 0, .string ⟨#[]⟩, .int .i64 0, .string ⟨#[]⟩, .string ⟨#[]⟩, .int .i64 0, .string ⟨#[]⟩, .int .i64 0, .string ⟨#[]⟩, .string ⟨#[]⟩, .int .i64 0, .string ⟨#[]⟩, .int .i64 0, .string ⟨#[]⟩, .string ⟨#[]⟩, .int .i64 0, .string ⟨#[]⟩, .int .i64 0, .string ⟨#[]⟩, .string ⟨#[]⟩, .int .i64 0, .string ⟨#[]⟩, .int .i64 0, .string ⟨#[]⟩, .string ⟨#[]⟩, .int .i64 0, .string ⟨#[]⟩, .int .i64 0, .string ⟨#[]⟩, .string ⟨#[]⟩, .int .i64 0, .string ⟨#[]⟩, .int .i64 0, .string ⟨#[]⟩, .string ⟨#[]⟩, .int .i64 0, .string ⟨#[]⟩, .int .i64 0, .string ⟨#[]⟩, .string ⟨#[]⟩, .int .i64 0, .string ⟨#[]⟩, .int .i64 0, .string ⟨#[]⟩, .string ⟨#[]⟩, .int .i64 0, .string ⟨#[]⟩, .int .i64 0, .string ⟨#[]⟩, .string ⟨#[]⟩, .int .i64 0, .string ⟨#[]⟩, .int .i64 0, .string ⟨#[]⟩, .string ⟨#[]⟩, .int .i64 0, .string ⟨#[]⟩, .int .i64 0, .string ⟨#[]⟩, .string ⟨#[]⟩, .int .i64 0, .string ⟨#[]⟩, .int .i64 0, .string ⟨#[]⟩, .string ⟨#[]⟩, .int .i64 0, .string ⟨#[]⟩, .int .i64 0, .string ⟨#[]⟩, .string ⟨#[]⟩] := by kernel_rfl
theorem Tryz.ar140 : arrB Tryz.prog 140 = some (47, 5) := by kernel_rfl
theorem Tryz.ag141 : aggB Tryz.prog 141 = some false := by kernel_rfl
theorem Tryz.cz141 : Tryz.prog.cellsOf 141 = 1 := by kernel_rfl
theorem Tryz.by141 : Tryz.prog.bytesOf 141 = 8 := by kernel_rfl
theorem Tryz.zb141 : zeroB Tryz.prog 141 = some [.nilFunc] := by kernel_rfl
theorem Tryz.ag142 : aggB Tryz.prog 142 = some true := by kernel_rfl
theorem Tryz.cz142 : Tryz.prog.cellsOf 142 = 30 := by kernel_rfl
theorem Tryz.by142 : Tryz.prog.bytesOf 142 = 384 := by kernel_rfl
theorem Tryz.zb142 : zeroB Tryz.prog 142 = some [.int .i64 0, .string ⟨#[]⟩, .int .i64 0, .string ⟨#[]⟩, .string ⟨#[]⟩, .int .i64 0, .string ⟨#[]⟩, .int .i64 0, .string ⟨#[]⟩, .string ⟨#[]⟩, .int .i64 0, .string ⟨#[]⟩, .int .i64 0, .string ⟨#[]⟩, .string ⟨#[]⟩, .int .i64 0, .string ⟨#[]⟩, .int .i64 0, .string ⟨#[]⟩, .string ⟨#[]⟩, .int .i64 0, .string ⟨#[]⟩, .int .i64 0, .string ⟨#[]⟩, .string ⟨#[]⟩, .int .i64 0, .string ⟨#[]⟩, .int .i64 0, .string ⟨#[]⟩, .string ⟨#[]⟩] := by kernel_rfl
theorem Tryz.ar142 : arrB Tryz.prog 142 = some (6, 5) := by kernel_rfl
theorem Tryz.ag143 : aggB Tryz.prog 143 = some false := by kernel_rfl
theorem Tryz.cz143 : Tryz.prog.cellsOf 143 = 1 := by kernel_rfl
theorem Tryz.by143 : Tryz.prog.bytesOf 143 = 8 := by kernel_rfl
theorem Tryz.zb143 : zeroB Tryz.prog 143 = some [.nilFunc] := by kernel_rfl
theorem Tryz.ag144 : aggB Tryz.prog 144 = some false := by kernel_rfl
theorem Tryz.cz144 : Tryz.prog.cellsOf 144 = 1 := by kernel_rfl
theorem Tryz.by144 : Tryz.prog.bytesOf 144 = 8 := by kernel_rfl
theorem Tryz.zb144 : zeroB Tryz.prog 144 = some [.nilFunc] := by kernel_rfl
theorem Tryz.ag145 : aggB Tryz.prog 145 = some false := by kernel_rfl
theorem Tryz.cz145 : Tryz.prog.cellsOf 145 = 1 := by kernel_rfl
theorem Tryz.by145 : Tryz.prog.bytesOf 145 = 8 := by kernel_rfl
theorem Tryz.zb145 : zeroB Tryz.prog 145 = some [.nilFunc] := by kernel_rfl
theorem Tryz.ag146 : aggB Tryz.prog 146 = some false := by kernel_rfl
theorem Tryz.cz146 : Tryz.prog.cellsOf 146 = 1 := by kernel_rfl
theorem Tryz.by146 : Tryz.prog.bytesOf 146 = 8 := by kernel_rfl
theorem Tryz.zb146 : zeroB Tryz.prog 146 = some [.nilFunc] := by kernel_rfl
theorem Tryz.ag147 : aggB Tryz.prog 147 = some true := by kernel_rfl
theorem Tryz.cz147 : Tryz.prog.cellsOf 147 = 2 := by kernel_rfl
theorem Tryz.by147 : Tryz.prog.bytesOf 147 = 24 := by kernel_rfl
theorem Tryz.zb147 : zeroB Tryz.prog 147 = some [.string ⟨#[]⟩, .nilFunc] := by kernel_rfl
theorem Tryz.pl147 : placesB Tryz.prog 147 = some [(0, 1), (1, 1)] := by kernel_rfl
theorem Tryz.fd147_0 : fieldB Tryz.prog 147 0 = some 0 := by kernel_rfl
theorem Tryz.fd147_1 : fieldB Tryz.prog 147 1 = some 1 := by kernel_rfl
theorem Tryz.ag148 : aggB Tryz.prog 148 = some true := by kernel_rfl
theorem Tryz.cz148 : Tryz.prog.cellsOf 148 = 2 := by kernel_rfl
theorem Tryz.by148 : Tryz.prog.bytesOf 148 = 24 := by kernel_rfl
theorem Tryz.zb148 : zeroB Tryz.prog 148 = some [.string ⟨#[]⟩, .nilFunc] := by kernel_rfl
theorem Tryz.pl148 : placesB Tryz.prog 148 = some [(0, 1), (1, 1)] := by kernel_rfl
theorem Tryz.sh148 : Tryz.prog.stoodInHeld 148 = false := by kernel_rfl
theorem Tryz.eg148 : Tryz.prog.eqGuardType Tryz.prog.depth 148 = false := by kernel_rfl
theorem Tryz.fd148_0 : fieldB Tryz.prog 148 0 = some 0 := by kernel_rfl
theorem Tryz.fd148_1 : fieldB Tryz.prog 148 1 = some 1 := by kernel_rfl
theorem Tryz.ag149 : aggB Tryz.prog 149 = some true := by kernel_rfl
theorem Tryz.cz149 : Tryz.prog.cellsOf 149 = 20 := by kernel_rfl
theorem Tryz.by149 : Tryz.prog.bytesOf 149 = 240 := by kernel_rfl
theorem Tryz.zb149 : zeroB Tryz.prog 149 = some [.string ⟨#[]⟩, .nilFunc, .string ⟨#[]⟩, .nilFunc, .string ⟨#[]⟩, .nilFunc, .string ⟨#[]⟩, .nilFunc, .string ⟨#[]⟩, .nilFunc, .string ⟨#[]⟩, .nilFunc, .string ⟨#[]⟩, .nilFunc, .string ⟨#[]⟩, .nilFunc, .string ⟨#[]⟩, .nilFunc, .string ⟨#[]⟩, .nilFunc] := by kernel_rfl
theorem Tryz.ar149 : arrB Tryz.prog 149 = some (10, 2) := by kernel_rfl
theorem Tryz.ag151 : aggB Tryz.prog 151 = some false := by kernel_rfl
theorem Tryz.cz151 : Tryz.prog.cellsOf 151 = 1 := by kernel_rfl
theorem Tryz.by151 : Tryz.prog.bytesOf 151 = 8 := by kernel_rfl
theorem Tryz.zb151 : zeroB Tryz.prog 151 = some [.nilFunc] := by kernel_rfl
theorem Tryz.ag153 : aggB Tryz.prog 153 = some false := by kernel_rfl
theorem Tryz.cz153 : Tryz.prog.cellsOf 153 = 1 := by kernel_rfl
theorem Tryz.by153 : Tryz.prog.bytesOf 153 = 8 := by kernel_rfl
theorem Tryz.zb153 : zeroB Tryz.prog 153 = some [.nilFunc] := by kernel_rfl
theorem Tryz.ag154 : aggB Tryz.prog 154 = some true := by kernel_rfl
theorem Tryz.cz154 : Tryz.prog.cellsOf 154 = 15 := by kernel_rfl
theorem Tryz.by154 : Tryz.prog.bytesOf 154 = 240 := by kernel_rfl
theorem Tryz.zb154 : zeroB Tryz.prog 154 = some [.string ⟨#[]⟩, .string ⟨#[]⟩, .string ⟨#[]⟩, .string ⟨#[]⟩, .string ⟨#[]⟩, .string ⟨#[]⟩, .string ⟨#[]⟩, .string ⟨#[]⟩, .string ⟨#[]⟩, .string ⟨#[]⟩, .string ⟨#[]⟩, .string ⟨#[]⟩, .string ⟨#[]⟩, .string ⟨#[]⟩, .string ⟨#[]⟩] := by kernel_rfl
theorem Tryz.ar154 : arrB Tryz.prog 154 = some (15, 1) := by kernel_rfl
theorem Tryz.ag155 : aggB Tryz.prog 155 = some false := by kernel_rfl
theorem Tryz.cz155 : Tryz.prog.cellsOf 155 = 1 := by kernel_rfl
theorem Tryz.by155 : Tryz.prog.bytesOf 155 = 8 := by kernel_rfl
theorem Tryz.zb155 : zeroB Tryz.prog 155 = some [.nilFunc] := by kernel_rfl
theorem Tryz.ag156 : aggB Tryz.prog 156 = some true := by kernel_rfl
theorem Tryz.cz156 : Tryz.prog.cellsOf 156 = 10 := by kernel_rfl
theorem Tryz.by156 : Tryz.prog.bytesOf 156 = 160 := by kernel_rfl
theorem Tryz.zb156 : zeroB Tryz.prog 156 = some [.string ⟨#[]⟩, .string ⟨#[]⟩, .string ⟨#[]⟩, .string ⟨#[]⟩, .string ⟨#[]⟩, .string ⟨#[]⟩, .string ⟨#[]⟩, .string ⟨#[]⟩, .string ⟨#[]⟩, .string ⟨#[]⟩] := by kernel_rfl
theorem Tryz.ar156 : arrB Tryz.prog 156 = some (10, 1) := by kernel_rfl
theorem Tryz.ag157 : aggB Tryz.prog 157 = some false := by kernel_rfl
theorem Tryz.cz157 : Tryz.prog.cellsOf 157 = 1 := by kernel_rfl
theorem Tryz.by157 : Tryz.prog.bytesOf 157 = 8 := by kernel_rfl
theorem Tryz.zb157 : zeroB Tryz.prog 157 = some [.nilFunc] := by kernel_rfl
theorem Tryz.ag158 : aggB Tryz.prog 158 = some true := by kernel_rfl
theorem Tryz.cz158 : Tryz.prog.cellsOf 158 = 4 := by kernel_rfl
theorem Tryz.by158 : Tryz.prog.bytesOf 158 = 64 := by kernel_rfl
theorem Tryz.zb158 : zeroB Tryz.prog 158 = some [.string ⟨#[]⟩, .string ⟨#[]⟩, .string ⟨#[]⟩, .string ⟨#[]⟩] := by kernel_rfl
theorem Tryz.ar158 : arrB Tryz.prog 158 = some (4, 1) := by kernel_rfl
theorem Tryz.ag159 : aggB Tryz.prog 159 = some false := by kernel_rfl
theorem Tryz.cz159 : Tryz.prog.cellsOf 159 = 1 := by kernel_rfl
theorem Tryz.by159 : Tryz.prog.bytesOf 159 = 8 := by kernel_rfl
theorem Tryz.zb159 : zeroB Tryz.prog 159 = some [.nilFunc] := by kernel_rfl
theorem Tryz.ag160 : aggB Tryz.prog 160 = some true := by kernel_rfl
theorem Tryz.cz160 : Tryz.prog.cellsOf 160 = 32 := by kernel_rfl
theorem Tryz.by160 : Tryz.prog.bytesOf 160 = 32 := by kernel_rfl
theorem Tryz.zb160 : zeroB Tryz.prog 160 = some [.int .u8 0, .int .u8 0, .int .u8 0, .int .u8 0, .int .u8 0, .int .u8 0, .int .u8 0, .int .u8 0, .int .u8 0, .int .u8 0, .int .u8 0, .int .u8 0, .int .u8 0, .int .u8 0, .int .u8 0, .int .u8 0, .int .u8 0, .int .u8 0, .int .u8 0, .int .u8 0, .int .u8 0, .int .u8 0, .int .u8 0, .int .u8 0, .int .u8 0, .int .u8 0, .int .u8 0, .int .u8 0, .int .u8 0, .int .u8 0, .int .u8 0, .int .u8 0] := by kernel_rfl
theorem Tryz.ar160 : arrB Tryz.prog 160 = some (32, 1) := by kernel_rfl
theorem Tryz.ag161 : aggB Tryz.prog 161 = some true := by kernel_rfl
theorem Tryz.cz161 : Tryz.prog.cellsOf 161 = 64 := by kernel_rfl
theorem Tryz.by161 : Tryz.prog.bytesOf 161 = 64 := by kernel_rfl
theorem Tryz.zb161 : zeroB Tryz.prog 161 = some [.int .u8 0, .int .u8 0, .int .u8 0, .int .u8 0, .int .u8 0, .int .u8 0, .int .u8 0, .int .u8 0, .int .u8 0, .int .u8 0, .int .u8 0, .int .u8 0, .int .u8 0, .int .u8 0, .int .u8 0, .int .u8 0, .int .u8 0, .int .u8 0, .int .u8 0, .int .u8 0, .int .u8 0, .int .u8 0, .int .u8 0, .int .u8 0, .int .u8 0, .int .u8 0, .int .u8 0, .int .u8 0, .int .u8 0, .int .u8 0, .int .u8 0, .int .u8 0, .int .u8 0, .int .u8 0, .int .u8 0, .int .u8 0, .int .u8 0, .int .u8 0, .int .u8 0, .int .u8 0, .int .u8 0, .int .u8 0, .int .u8 0, .int .u8 0, .int .u8 0, .int .u8 0, .int .u8 0, .int .u8 0, .int .u8 0, .int .u8 0, .int .u8 0, .int .u8 0, .int .u8 0, .int .u8 0, .int .u8 0, .int .u8 0, .int .u8 0, .int .u8 0, .int .u8 0, .int .u8 0, .int .u8 0, .int .u8 0, .int .u8 0, .int .u8 0] := by kernel_rfl
theorem Tryz.ar161 : arrB Tryz.prog 161 = some (64, 1) := by kernel_rfl
theorem Tryz.ag162 : aggB Tryz.prog 162 = some false := by kernel_rfl
theorem Tryz.cz162 : Tryz.prog.cellsOf 162 = 1 := by kernel_rfl
theorem Tryz.by162 : Tryz.prog.bytesOf 162 = 8 := by kernel_rfl
theorem Tryz.zb162 : zeroB Tryz.prog 162 = some [.nilFunc] := by kernel_rfl
theorem Tryz.ag163 : aggB Tryz.prog 163 = some false := by kernel_rfl
theorem Tryz.cz163 : Tryz.prog.cellsOf 163 = 1 := by kernel_rfl
theorem Tryz.by163 : Tryz.prog.bytesOf 163 = 8 := by kernel_rfl
theorem Tryz.zb163 : zeroB Tryz.prog 163 = some [.nilFunc] := by kernel_rfl
theorem Tryz.ag164 : aggB Tryz.prog 164 = some false := by kernel_rfl
theorem Tryz.cz164 : Tryz.prog.cellsOf 164 = 1 := by kernel_rfl
theorem Tryz.by164 : Tryz.prog.bytesOf 164 = 8 := by kernel_rfl
theorem Tryz.zb164 : zeroB Tryz.prog 164 = some [.nilFunc] := by kernel_rfl
theorem Tryz.ag165 : aggB Tryz.prog 165 = some false := by kernel_rfl
theorem Tryz.cz165 : Tryz.prog.cellsOf 165 = 1 := by kernel_rfl
theorem Tryz.by165 : Tryz.prog.bytesOf 165 = 8 := by kernel_rfl
theorem Tryz.zb165 : zeroB Tryz.prog 165 = some [.nilFunc] := by kernel_rfl
theorem Tryz.ag166 : aggB Tryz.prog 166 = some false := by kernel_rfl
theorem Tryz.cz166 : Tryz.prog.cellsOf 166 = 1 := by kernel_rfl
theorem Tryz.by166 : Tryz.prog.bytesOf 166 = 8 := by kernel_rfl
theorem Tryz.zb166 : zeroB Tryz.prog 166 = some [.nilFunc] := by kernel_rfl
theorem Tryz.ag167 : aggB Tryz.prog 167 = some true := by kernel_rfl
theorem Tryz.cz167 : Tryz.prog.cellsOf 167 = 3 := by kernel_rfl
theorem Tryz.by167 : Tryz.prog.bytesOf 167 = 24 := by kernel_rfl
theorem Tryz.zb167 : zeroB Tryz.prog 167 = some [.int .i64 0, .int .i64 0, .bool false] := by kernel_rfl
theorem Tryz.pl167 : placesB Tryz.prog 167 = some [(0, 1), (1, 1), (2, 1)] := by kernel_rfl
theorem Tryz.fd167_0 : fieldB Tryz.prog 167 0 = some 0 := by kernel_rfl
theorem Tryz.fd167_1 : fieldB Tryz.prog 167 1 = some 1 := by kernel_rfl
theorem Tryz.fd167_2 : fieldB Tryz.prog 167 2 = some 2 := by kernel_rfl
theorem Tryz.ag168 : aggB Tryz.prog 168 = some true := by kernel_rfl
theorem Tryz.cz168 : Tryz.prog.cellsOf 168 = 3 := by kernel_rfl
theorem Tryz.by168 : Tryz.prog.bytesOf 168 = 24 := by kernel_rfl
theorem Tryz.zb168 : zeroB Tryz.prog 168 = some [.int .i64 0, .int .i64 0, .bool false] := by kernel_rfl
theorem Tryz.pl168 : placesB Tryz.prog 168 = some [(0, 1), (1, 1), (2, 1)] := by kernel_rfl
theorem Tryz.sh168 : Tryz.prog.stoodInHeld 168 = false := by kernel_rfl
theorem Tryz.eg168 : Tryz.prog.eqGuardType Tryz.prog.depth 168 = false := by kernel_rfl
theorem Tryz.fd168_0 : fieldB Tryz.prog 168 0 = some 0 := by kernel_rfl
theorem Tryz.fd168_1 : fieldB Tryz.prog 168 1 = some 1 := by kernel_rfl
theorem Tryz.fd168_2 : fieldB Tryz.prog 168 2 = some 2 := by kernel_rfl
theorem Tryz.ag169 : aggB Tryz.prog 169 = some false := by kernel_rfl
theorem Tryz.cz169 : Tryz.prog.cellsOf 169 = 1 := by kernel_rfl
theorem Tryz.by169 : Tryz.prog.bytesOf 169 = 8 := by kernel_rfl
theorem Tryz.zb169 : zeroB Tryz.prog 169 = some [.nilFunc] := by kernel_rfl
theorem Tryz.ag170 : aggB Tryz.prog 170 = some false := by kernel_rfl
theorem Tryz.cz170 : Tryz.prog.cellsOf 170 = 1 := by kernel_rfl
theorem Tryz.by170 : Tryz.prog.bytesOf 170 = 8 := by kernel_rfl
theorem Tryz.zb170 : zeroB Tryz.prog 170 = some [.nilFunc] := by kernel_rfl
theorem Tryz.ag171 : aggB Tryz.prog 171 = some false := by kernel_rfl
theorem Tryz.cz171 : Tryz.prog.cellsOf 171 = 1 := by kernel_rfl
theorem Tryz.by171 : Tryz.prog.bytesOf 171 = 8 := by kernel_rfl
theorem Tryz.zb171 : zeroB Tryz.prog 171 = some [.nilFunc] := by kernel_rfl
theorem Tryz.ag172 : aggB Tryz.prog 172 = some false := by kernel_rfl
theorem Tryz.cz172 : Tryz.prog.cellsOf 172 = 1 := by kernel_rfl
theorem Tryz.by172 : Tryz.prog.bytesOf 172 = 8 := by kernel_rfl
theorem Tryz.zb172 : zeroB Tryz.prog 172 = some [.nilFunc] := by kernel_rfl
theorem Tryz.ag173 : aggB Tryz.prog 173 = some false := by kernel_rfl
theorem Tryz.cz173 : Tryz.prog.cellsOf 173 = 1 := by kernel_rfl
theorem Tryz.by173 : Tryz.prog.bytesOf 173 = 8 := by kernel_rfl
theorem Tryz.zb173 : zeroB Tryz.prog 173 = some [.nilFunc] := by kernel_rfl
theorem Tryz.ag175 : aggB Tryz.prog 175 = some false := by kernel_rfl
theorem Tryz.cz175 : Tryz.prog.cellsOf 175 = 1 := by kernel_rfl
theorem Tryz.by175 : Tryz.prog.bytesOf 175 = 8 := by kernel_rfl
theorem Tryz.zb175 : zeroB Tryz.prog 175 = some [.nilFunc] := by kernel_rfl
theorem Tryz.ag177 : aggB Tryz.prog 177 = some false := by kernel_rfl
theorem Tryz.cz177 : Tryz.prog.cellsOf 177 = 1 := by kernel_rfl
theorem Tryz.by177 : Tryz.prog.bytesOf 177 = 8 := by kernel_rfl
theorem Tryz.zb177 : zeroB Tryz.prog 177 = some [.nilFunc] := by kernel_rfl
theorem Tryz.ag178 : aggB Tryz.prog 178 = some false := by kernel_rfl
theorem Tryz.cz178 : Tryz.prog.cellsOf 178 = 1 := by kernel_rfl
theorem Tryz.by178 : Tryz.prog.bytesOf 178 = 8 := by kernel_rfl
theorem Tryz.zb178 : zeroB Tryz.prog 178 = some [.pointer none] := by kernel_rfl
theorem Tryz.ag179 : aggB Tryz.prog 179 = some true := by kernel_rfl
theorem Tryz.cz179 : Tryz.prog.cellsOf 179 = 4 := by kernel_rfl
theorem Tryz.by179 : Tryz.prog.bytesOf 179 = 80 := by kernel_rfl
theorem Tryz.zb179 : zeroB Tryz.prog 179 = some [.pointer none, .slice none 0 0, .slice none 0 0, .slice none 0 0] := by kernel_rfl
theorem Tryz.pl179 : placesB Tryz.prog 179 = some [(0, 1), (1, 1), (2, 2)] := by kernel_rfl
theorem Tryz.fd179_0 : fieldB Tryz.prog 179 0 = some 0 := by kernel_rfl
theorem Tryz.fd179_1 : fieldB Tryz.prog 179 1 = some 1 := by kernel_rfl
theorem Tryz.fd179_2 : fieldB Tryz.prog 179 2 = some 2 := by kernel_rfl
theorem Tryz.ag180 : aggB Tryz.prog 180 = some true := by kernel_rfl
theorem Tryz.cz180 : Tryz.prog.cellsOf 180 = 4 := by kernel_rfl
theorem Tryz.by180 : Tryz.prog.bytesOf 180 = 80 := by kernel_rfl
theorem Tryz.zb180 : zeroB Tryz.prog 180 = some [.pointer none, .slice none 0 0, .slice none 0 0, .slice none 0 0] := by kernel_rfl
theorem Tryz.pl180 : placesB Tryz.prog 180 = some [(0, 1), (1, 1), (2, 2)] := by kernel_rfl
theorem Tryz.sh180 : Tryz.prog.stoodInHeld 180 = false := by kernel_rfl
theorem Tryz.eg180 : Tryz.prog.eqGuardType Tryz.prog.depth 180 = false := by kernel_rfl
theorem Tryz.fd180_0 : fieldB Tryz.prog 180 0 = some 0 := by kernel_rfl
theorem Tryz.fd180_1 : fieldB Tryz.prog 180 1 = some 1 := by kernel_rfl
theorem Tryz.fd180_2 : fieldB Tryz.prog 180 2 = some 2 := by kernel_rfl
theorem Tryz.ag181 : aggB Tryz.prog 181 = some true := by kernel_rfl
theorem Tryz.cz181 : Tryz.prog.cellsOf 181 = 5 := by kernel_rfl
theorem Tryz.by181 : Tryz.prog.bytesOf 181 = 48 := by kernel_rfl
theorem Tryz.zb181 : zeroB Tryz.prog 181 = some [.bool false, .bool false, .slice none 0 0, .int .i64 0, .bool false] := by kernel_rfl
theorem Tryz.pl181 : placesB Tryz.prog 181 = some [(0, 1), (1, 1), (2, 1), (3, 1), (4, 1)] := by kernel_rfl
theorem Tryz.fd181_0 : fieldB Tryz.prog 181 0 = some 0 := by kernel_rfl
theorem Tryz.fd181_1 : fieldB Tryz.prog 181 1 = some 1 := by kernel_rfl
theorem Tryz.fd181_2 : fieldB Tryz.prog 181 2 = some 2 := by kernel_rfl
theorem Tryz.fd181_3 : fieldB Tryz.prog 181 3 = some 3 := by kernel_rfl
theorem Tryz.fd181_4 : fieldB Tryz.prog 181 4 = some 4 := by kernel_rfl
theorem Tryz.ag182 : aggB Tryz.prog 182 = some true := by kernel_rfl
theorem Tryz.cz182 : Tryz.prog.cellsOf 182 = 5 := by kernel_rfl
theorem Tryz.by182 : Tryz.prog.bytesOf 182 = 48 := by kernel_rfl
theorem Tryz.zb182 : zeroB Tryz.prog 182 = some [.bool false, .bool false, .slice none 0 0, .int .i64 0, .bool false] := by kernel_rfl
theorem Tryz.pl182 : placesB Tryz.prog 182 = some [(0, 1), (1, 1), (2, 1), (3, 1), (4, 1)] := by kernel_rfl
theorem Tryz.sh182 : Tryz.prog.stoodInHeld 182 = false := by kernel_rfl
theorem Tryz.eg182 : Tryz.prog.eqGuardType Tryz.prog.depth 182 = false := by kernel_rfl
theorem Tryz.fd182_0 : fieldB Tryz.prog 182 0 = some 0 := by kernel_rfl
theorem Tryz.fd182_1 : fieldB Tryz.prog 182 1 = some 1 := by kernel_rfl
theorem Tryz.fd182_2 : fieldB Tryz.prog 182 2 = some 2 := by kernel_rfl
theorem Tryz.fd182_3 : fieldB Tryz.prog 182 3 = some 3 := by kernel_rfl
theorem Tryz.fd182_4 : fieldB Tryz.prog 182 4 = some 4 := by kernel_rfl
theorem Tryz.ag183 : aggB Tryz.prog 183 = some false := by kernel_rfl
theorem Tryz.cz183 : Tryz.prog.cellsOf 183 = 1 := by kernel_rfl
theorem Tryz.by183 : Tryz.prog.bytesOf 183 = 24 := by kernel_rfl
theorem Tryz.zb183 : zeroB Tryz.prog 183 = some [.slice none 0 0] := by kernel_rfl
theorem Tryz.ag184 : aggB Tryz.prog 184 = some true := by kernel_rfl
theorem Tryz.cz184 : Tryz.prog.cellsOf 184 = 6 := by kernel_rfl
theorem Tryz.by184 : Tryz.prog.bytesOf 184 = 128 := by kernel_rfl
theorem Tryz.zb184 : zeroB Tryz.prog 184 = some [.pointer none, .slice none 0 0, .slice none 0 0, .slice none 0 0, .slice none 0 0, .slice none 0 0] := by kernel_rfl
theorem Tryz.pl184 : placesB Tryz.prog 184 = some [(0, 4), (4, 1), (5, 1)] := by kernel_rfl
theorem Tryz.fd184_0 : fieldB Tryz.prog 184 0 = some 0 := by kernel_rfl
theorem Tryz.fd184_1 : fieldB Tryz.prog 184 1 = some 4 := by kernel_rfl
theorem Tryz.fd184_2 : fieldB Tryz.prog 184 2 = some 5 := by kernel_rfl
theorem Tryz.ag185 : aggB Tryz.prog 185 = some true := by kernel_rfl
theorem Tryz.cz185 : Tryz.prog.cellsOf 185 = 6 := by kernel_rfl
theorem Tryz.by185 : Tryz.prog.bytesOf 185 = 128 := by kernel_rfl
theorem Tryz.zb185 : zeroB Tryz.prog 185 = some [.pointer none, .slice none 0 0, .slice none 0 0, .slice none 0 0, .slice none 0 0, .slice none 0 0] := by kernel_rfl
theorem Tryz.pl185 : placesB Tryz.prog 185 = some [(0, 4), (4, 1), (5, 1)] := by kernel_rfl
theorem Tryz.sh185 : Tryz.prog.stoodInHeld 185 = false := by kernel_rfl
theorem Tryz.eg185 : Tryz.prog.eqGuardType Tryz.prog.depth 185 = false := by kernel_rfl
theorem Tryz.fd185_0 : fieldB Tryz.prog 185 0 = some 0 := by kernel_rfl
theorem Tryz.fd185_1 : fieldB Tryz.prog 185 1 = some 4 := by kernel_rfl
theorem Tryz.fd185_2 : fieldB Tryz.prog 185 2 = some 5 := by kernel_rfl
theorem Tryz.ag186 : aggB Tryz.prog 186 = some false := by kernel_rfl
theorem Tryz.cz186 : Tryz.prog.cellsOf 186 = 1 := by kernel_rfl
theorem Tryz.by186 : Tryz.prog.bytesOf 186 = 8 := by kernel_rfl
theorem Tryz.zb186 : zeroB Tryz.prog 186 = some [.nilFunc] := by kernel_rfl
theorem Tryz.ag187 : aggB Tryz.prog 187 = some true := by kernel_rfl
theorem Tryz.cz187 : Tryz.prog.cellsOf 187 = 5 := by kernel_rfl
theorem Tryz.by187 : Tryz.prog.bytesOf 187 = 40 := by kernel_rfl
theorem Tryz.zb187 : zeroB Tryz.prog 187 = some [.int .i64 0, .int .i64 0, .int .i64 0, .int .i64 0, .int .i64 0] := by kernel_rfl
theorem Tryz.pl187 : placesB Tryz.prog 187 = some [(0, 1), (1, 1), (2, 1), (3, 1), (4, 1)] := by kernel_rfl
theorem Tryz.fd187_0 : fieldB Tryz.prog 187 0 = some 0 := by kernel_rfl
theorem Tryz.fd187_1 : fieldB Tryz.prog 187 1 = some 1 := by kernel_rfl
theorem Tryz.fd187_2 : fieldB Tryz.prog 187 2 = some 2 := by kernel_rfl
theorem Tryz.fd187_3 : fieldB Tryz.prog 187 3 = some 3 := by kernel_rfl
theorem Tryz.fd187_4 : fieldB Tryz.prog 187 4 = some 4 := by kernel_rfl
theorem Tryz.ag188 : aggB Tryz.prog 188 = some true := by kernel_rfl
theorem Tryz.cz188 : Tryz.prog.cellsOf 188 = 5 := by kernel_rfl
theorem Tryz.by188 : Tryz.prog.bytesOf 188 = 40 := by kernel_rfl
theorem Tryz.zb188 : zeroB Tryz.prog 188 = some [.int .i64 0, .int .i64 0, .int .i64 0, .int .i64 0, .int .i64 0] := by kernel_rfl
theorem Tryz.pl188 : placesB Tryz.prog 188 = some [(0, 1), (1, 1), (2, 1), (3, 1), (4, 1)] := by kernel_rfl
theorem Tryz.sh188 : Tryz.prog.stoodInHeld 188 = false := by kernel_rfl
theorem Tryz.eg188 : Tryz.prog.eqGuardType Tryz.prog.depth 188 = false := by kernel_rfl
theorem Tryz.fd188_0 : fieldB Tryz.prog 188 0 = some 0 := by kernel_rfl
theorem Tryz.fd188_1 : fieldB Tryz.prog 188 1 = some 1 := by kernel_rfl
theorem Tryz.fd188_2 : fieldB Tryz.prog 188 2 = some 2 := by kernel_rfl
theorem Tryz.fd188_3 : fieldB Tryz.prog 188 3 = some 3 := by kernel_rfl
theorem Tryz.fd188_4 : fieldB Tryz.prog 188 4 = some 4 := by kernel_rfl
theorem Tryz.ag189 : aggB Tryz.prog 189 = some true := by kernel_rfl
theorem Tryz.cz189 : Tryz.prog.cellsOf 189 = 40 := by kernel_rfl
theorem Tryz.by189 : Tryz.prog.bytesOf 189 = 320 := by kernel_rfl
theorem Tryz.zb189 : zeroB Tryz.prog 189 = some [.int .i64 0, .int .i64 0, .int .i64 0, .int .i64 0, .int .i64 0, .int .i64 0, .int .i64 0, .int .i64 0, .int .i64 0, .int .i64 0, .int .i64 0, .int .i64 0, .int .i64 0, .int .i64 0, .int .i64 0, .int .i64 0, .int .i64 0, .int .i64 0, .int .i64 0, .int .i64 0, .int .i64 0, .int .i64 0, .int .i64 0, .int .i64 0, .int .i64 0, .int .i64 0, .int .i64 0, .int .i64 0, .int .i64 0, .int .i64 0, .int .i64 0, .int .i64 0, .int .i64 0, .int .i64 0, .int .i64 0, .int .i64 0, .int .i64 0, .int .i64 0, .int .i64 0, .int .i64 0] := by kernel_rfl
theorem Tryz.ar189 : arrB Tryz.prog 189 = some (8, 5) := by kernel_rfl
theorem Tryz.ag190 : aggB Tryz.prog 190 = some false := by kernel_rfl
theorem Tryz.cz190 : Tryz.prog.cellsOf 190 = 1 := by kernel_rfl
theorem Tryz.by190 : Tryz.prog.bytesOf 190 = 8 := by kernel_rfl
theorem Tryz.zb190 : zeroB Tryz.prog 190 = some [.nilFunc] := by kernel_rfl
theorem Tryz.ag191 : aggB Tryz.prog 191 = some false := by kernel_rfl
theorem Tryz.cz191 : Tryz.prog.cellsOf 191 = 1 := by kernel_rfl
theorem Tryz.by191 : Tryz.prog.bytesOf 191 = 8 := by kernel_rfl
theorem Tryz.zb191 : zeroB Tryz.prog 191 = some [.nilFunc] := by kernel_rfl
theorem Tryz.ag192 : aggB Tryz.prog 192 = some false := by kernel_rfl
theorem Tryz.cz192 : Tryz.prog.cellsOf 192 = 1 := by kernel_rfl
theorem Tryz.by192 : Tryz.prog.bytesOf 192 = 8 := by kernel_rfl
theorem Tryz.zb192 : zeroB Tryz.prog 192 = some [.nilFunc] := by kernel_rfl
theorem Tryz.ag193 : aggB Tryz.prog 193 = some false := by kernel_rfl
theorem Tryz.cz193 : Tryz.prog.cellsOf 193 = 1 := by kernel_rfl
theorem Tryz.by193 : Tryz.prog.bytesOf 193 = 8 := by kernel_rfl
theorem Tryz.zb193 : zeroB Tryz.prog 193 = some [.nilFunc] := by kernel_rfl
theorem Tryz.ag194 : aggB Tryz.prog 194 = some false := by kernel_rfl
theorem Tryz.cz194 : Tryz.prog.cellsOf 194 = 1 := by kernel_rfl
theorem Tryz.by194 : Tryz.prog.bytesOf 194 = 8 := by kernel_rfl
theorem Tryz.zb194 : zeroB Tryz.prog 194 = some [.nilFunc] := by kernel_rfl
theorem Tryz.ag195 : aggB Tryz.prog 195 = some false := by kernel_rfl
theorem Tryz.cz195 : Tryz.prog.cellsOf 195 = 1 := by kernel_rfl
theorem Tryz.by195 : Tryz.prog.bytesOf 195 = 24 := by kernel_rfl
theorem Tryz.zb195 : zeroB Tryz.prog 195 = some [.slice none 0 0] := by kernel_rfl
theorem Tryz.ag197 : aggB Tryz.prog 197 = some false := by kernel_rfl
theorem Tryz.cz197 : Tryz.prog.cellsOf 197 = 1 := by kernel_rfl
theorem Tryz.by197 : Tryz.prog.bytesOf 197 = 8 := by kernel_rfl
theorem Tryz.zb197 : zeroB Tryz.prog 197 = some [.nilFunc] := by kernel_rfl
theorem Tryz.ag198 : aggB Tryz.prog 198 = some false := by kernel_rfl
theorem Tryz.cz198 : Tryz.prog.cellsOf 198 = 1 := by kernel_rfl
theorem Tryz.by198 : Tryz.prog.bytesOf 198 = 24 := by kernel_rfl
theorem Tryz.zb198 : zeroB Tryz.prog 198 = some [.slice none 0 0] := by kernel_rfl
theorem Tryz.ag199 : aggB Tryz.prog 199 = some false := by kernel_rfl
theorem Tryz.cz199 : Tryz.prog.cellsOf 199 = 1 := by kernel_rfl
theorem Tryz.by199 : Tryz.prog.bytesOf 199 = 8 := by kernel_rfl
theorem Tryz.zb199 : zeroB Tryz.prog 199 = some [.nilFunc] := by kernel_rfl
theorem Tryz.ag200 : aggB Tryz.prog 200 = some false := by kernel_rfl
theorem Tryz.cz200 : Tryz.prog.cellsOf 200 = 1 := by kernel_rfl
theorem Tryz.by200 : Tryz.prog.bytesOf 200 = 8 := by kernel_rfl
theorem Tryz.zb200 : zeroB Tryz.prog 200 = some [.nilFunc] := by kernel_rfl
theorem Tryz.ag201 : aggB Tryz.prog 201 = some true := by kernel_rfl
theorem Tryz.cz201 : Tryz.prog.cellsOf 201 = 2 := by kernel_rfl
theorem Tryz.by201 : Tryz.prog.bytesOf 201 = 16 := by kernel_rfl
theorem Tryz.zb201 : zeroB Tryz.prog 201 = some [.int .i64 0, .int .u8 0] := by kernel_rfl
theorem Tryz.pl201 : placesB Tryz.prog 201 = some [(0, 1), (1, 1)] := by kernel_rfl
theorem Tryz.fd201_0 : fieldB Tryz.prog 201 0 = some 0 := by kernel_rfl
theorem Tryz.fd201_1 : fieldB Tryz.prog 201 1 = some 1 := by kernel_rfl
theorem Tryz.ag202 : aggB Tryz.prog 202 = some true := by kernel_rfl
theorem Tryz.cz202 : Tryz.prog.cellsOf 202 = 2 := by kernel_rfl
theorem Tryz.by202 : Tryz.prog.bytesOf 202 = 16 := by kernel_rfl
theorem Tryz.zb202 : zeroB Tryz.prog 202 = some [.int .i64 0, .int .u8 0] := by kernel_rfl
theorem Tryz.pl202 : placesB Tryz.prog 202 = some [(0, 1), (1, 1)] := by kernel_rfl
theorem Tryz.sh202 : Tryz.prog.stoodInHeld 202 = false := by kernel_rfl
theorem Tryz.eg202 : Tryz.prog.eqGuardType Tryz.prog.depth 202 = false := by kernel_rfl
theorem Tryz.fd202_0 : fieldB Tryz.prog 202 0 = some 0 := by kernel_rfl
theorem Tryz.fd202_1 : fieldB Tryz.prog 202 1 = some 1 := by kernel_rfl
theorem Tryz.ag203 : aggB Tryz.prog 203 = some true := by kernel_rfl
theorem Tryz.cz203 : Tryz.prog.cellsOf 203 = 1 := by kernel_rfl
theorem Tryz.by203 : Tryz.prog.bytesOf 203 = 8 := by kernel_rfl
theorem Tryz.zb203 : zeroB Tryz.prog 203 = some [.int .i64 0] := by kernel_rfl
theorem Tryz.pl203 : placesB Tryz.prog 203 = some [(0, 1)] := by kernel_rfl
theorem Tryz.fd203_0 : fieldB Tryz.prog 203 0 = some 0 := by kernel_rfl
theorem Tryz.ag204 : aggB Tryz.prog 204 = some true := by kernel_rfl
theorem Tryz.cz204 : Tryz.prog.cellsOf 204 = 1 := by kernel_rfl
theorem Tryz.by204 : Tryz.prog.bytesOf 204 = 8 := by kernel_rfl
theorem Tryz.zb204 : zeroB Tryz.prog 204 = some [.int .i64 0] := by kernel_rfl
theorem Tryz.pl204 : placesB Tryz.prog 204 = some [(0, 1)] := by kernel_rfl
theorem Tryz.sh204 : Tryz.prog.stoodInHeld 204 = false := by kernel_rfl
theorem Tryz.eg204 : Tryz.prog.eqGuardType Tryz.prog.depth 204 = false := by kernel_rfl
theorem Tryz.fd204_0 : fieldB Tryz.prog 204 0 = some 0 := by kernel_rfl
theorem Tryz.ag206 : aggB Tryz.prog 206 = some false := by kernel_rfl
theorem Tryz.cz206 : Tryz.prog.cellsOf 206 = 1 := by kernel_rfl
theorem Tryz.by206 : Tryz.prog.bytesOf 206 = 8 := by kernel_rfl
theorem Tryz.zb206 : zeroB Tryz.prog 206 = some [.nilFunc] := by kernel_rfl
theorem Tryz.ag207 : aggB Tryz.prog 207 = some false := by kernel_rfl
theorem Tryz.cz207 : Tryz.prog.cellsOf 207 = 1 := by kernel_rfl
theorem Tryz.by207 : Tryz.prog.bytesOf 207 = 8 := by kernel_rfl
theorem Tryz.zb207 : zeroB Tryz.prog 207 = some [.nilFunc] := by kernel_rfl
theorem Tryz.ag208 : aggB Tryz.prog 208 = some false := by kernel_rfl
theorem Tryz.cz208 : Tryz.prog.cellsOf 208 = 1 := by kernel_rfl
theorem Tryz.by208 : Tryz.prog.bytesOf 208 = 8 := by kernel_rfl
theorem Tryz.zb208 : zeroB Tryz.prog 208 = some [.nilFunc] := by kernel_rfl
theorem Tryz.ag209 : aggB Tryz.prog 209 = some false := by kernel_rfl
theorem Tryz.cz209 : Tryz.prog.cellsOf 209 = 1 := by kernel_rfl
theorem Tryz.by209 : Tryz.prog.bytesOf 209 = 24 := by kernel_rfl
theorem Tryz.zb209 : zeroB Tryz.prog 209 = some [.slice none 0 0] := by kernel_rfl
theorem Tryz.ag210 : aggB Tryz.prog 210 = some false := by kernel_rfl
theorem Tryz.cz210 : Tryz.prog.cellsOf 210 = 1 := by kernel_rfl
theorem Tryz.by210 : Tryz.prog.bytesOf 210 = 8 := by kernel_rfl
theorem Tryz.zb210 : zeroB Tryz.prog 210 = some [.nilFunc] := by kernel_rfl
theorem Tryz.ag211 : aggB Tryz.prog 211 = some false := by kernel_rfl
theorem Tryz.cz211 : Tryz.prog.cellsOf 211 = 1 := by kernel_rfl
theorem Tryz.by211 : Tryz.prog.bytesOf 211 = 8 := by kernel_rfl
theorem Tryz.zb211 : zeroB Tryz.prog 211 = some [.nilFunc] := by kernel_rfl
theorem Tryz.ag212 : aggB Tryz.prog 212 = some false := by kernel_rfl
theorem Tryz.cz212 : Tryz.prog.cellsOf 212 = 1 := by kernel_rfl
theorem Tryz.by212 : Tryz.prog.bytesOf 212 = 8 := by kernel_rfl
theorem Tryz.zb212 : zeroB Tryz.prog 212 = some [.nilFunc] := by kernel_rfl
theorem Tryz.ag213 : aggB Tryz.prog 213 = some false := by kernel_rfl
theorem Tryz.cz213 : Tryz.prog.cellsOf 213 = 1 := by kernel_rfl
theorem Tryz.by213 : Tryz.prog.bytesOf 213 = 8 := by kernel_rfl
theorem Tryz.zb213 : zeroB Tryz.prog 213 = some [.pointer none] := by kernel_rfl
theorem Tryz.ag214 : aggB Tryz.prog 214 = some true := by kernel_rfl
theorem Tryz.cz214 : Tryz.prog.cellsOf 214 = 5 := by kernel_rfl
theorem Tryz.by214 : Tryz.prog.bytesOf 214 = 88 := by kernel_rfl
theorem Tryz.zb214 : zeroB Tryz.prog 214 = some [.slice none 0 0, .slice none 0 0, .slice none 0 0, .bool false, .int .i64 0] := by kernel_rfl
theorem Tryz.pl214 : placesB Tryz.prog 214 = some [(0, 1), (1, 1), (2, 1), (3, 1), (4, 1)] := by kernel_rfl
theorem Tryz.fd214_0 : fieldB Tryz.prog 214 0 = some 0 := by kernel_rfl
theorem Tryz.fd214_1 : fieldB Tryz.prog 214 1 = some 1 := by kernel_rfl
theorem Tryz.fd214_2 : fieldB Tryz.prog 214 2 = some 2 := by kernel_rfl
theorem Tryz.fd214_3 : fieldB Tryz.prog 214 3 = some 3 := by kernel_rfl
theorem Tryz.fd214_4 : fieldB Tryz.prog 214 4 = some 4 := by kernel_rfl
theorem Tryz.ag215 : aggB Tryz.prog 215 = some true := by kernel_rfl
theorem Tryz.cz215 : Tryz.prog.cellsOf 215 = 5 := by kernel_rfl
theorem Tryz.by215 : Tryz.prog.bytesOf 215 = 88 := by kernel_rfl
theorem Tryz.zb215 : zeroB Tryz.prog 215 = some [.slice none 0 0, .slice none 0 0, .slice none 0 0, .bool false, .int .i64 0] := by kernel_rfl
theorem Tryz.pl215 : placesB Tryz.prog 215 = some [(0, 1), (1, 1), (2, 1), (3, 1), (4, 1)] := by kernel_rfl
theorem Tryz.sh215 : Tryz.prog.stoodInHeld 215 = false := by kernel_rfl
theorem Tryz.eg215 : Tryz.prog.eqGuardType Tryz.prog.depth 215 = false := by kernel_rfl
theorem Tryz.fd215_0 : fieldB Tryz.prog 215 0 = some 0 := by kernel_rfl
theorem Tryz.fd215_1 : fieldB Tryz.prog 215 1 = some 1 := by kernel_rfl
theorem Tryz.fd215_2 : fieldB Tryz.prog 215 2 = some 2 := by kernel_rfl
theorem Tryz.fd215_3 : fieldB Tryz.prog 215 3 = some 3 := by kernel_rfl
theorem Tryz.fd215_4 : fieldB Tryz.prog 215 4 = some 4 := by kernel_rfl
theorem Tryz.ag216 : aggB Tryz.prog 216 = some false := by kernel_rfl
theorem Tryz.cz216 : Tryz.prog.cellsOf 216 = 1 := by kernel_rfl
theorem Tryz.by216 : Tryz.prog.bytesOf 216 = 8 := by kernel_rfl
theorem Tryz.zb216 : zeroB Tryz.prog 216 = some [.nilFunc] := by kernel_rfl
theorem Tryz.ag217 : aggB Tryz.prog 217 = some false := by kernel_rfl
theorem Tryz.cz217 : Tryz.prog.cellsOf 217 = 1 := by kernel_rfl
theorem Tryz.by217 : Tryz.prog.bytesOf 217 = 8 := by kernel_rfl
theorem Tryz.zb217 : zeroB Tryz.prog 217 = some [.nilFunc] := by kernel_rfl
theorem Tryz.ag218 : aggB Tryz.prog 218 = some false := by kernel_rfl
theorem Tryz.cz218 : Tryz.prog.cellsOf 218 = 1 := by kernel_rfl
theorem Tryz.by218 : Tryz.prog.bytesOf 218 = 8 := by kernel_rfl
theorem Tryz.zb218 : zeroB Tryz.prog 218 = some [.nilFunc] := by kernel_rfl
theorem Tryz.ag219 : aggB Tryz.prog 219 = some false := by kernel_rfl
theorem Tryz.cz219 : Tryz.prog.cellsOf 219 = 1 := by kernel_rfl
theorem Tryz.by219 : Tryz.prog.bytesOf 219 = 8 := by kernel_rfl
theorem Tryz.zb219 : zeroB Tryz.prog 219 = some [.nilFunc] := by kernel_rfl
theorem Tryz.ag220 : aggB Tryz.prog 220 = some false := by kernel_rfl
theorem Tryz.cz220 : Tryz.prog.cellsOf 220 = 1 := by kernel_rfl
theorem Tryz.by220 : Tryz.prog.bytesOf 220 = 8 := by kernel_rfl
theorem Tryz.zb220 : zeroB Tryz.prog 220 = some [.nilFunc] := by kernel_rfl
theorem Tryz.ag221 : aggB Tryz.prog 221 = some false := by kernel_rfl
theorem Tryz.cz221 : Tryz.prog.cellsOf 221 = 1 := by kernel_rfl
theorem Tryz.by221 : Tryz.prog.bytesOf 221 = 8 := by kernel_rfl
theorem Tryz.zb221 : zeroB Tryz.prog 221 = some [.nilFunc] := by kernel_rfl
theorem Tryz.ag222 : aggB Tryz.prog 222 = some false := by kernel_rfl
theorem Tryz.cz222 : Tryz.prog.cellsOf 222 = 1 := by kernel_rfl
theorem Tryz.by222 : Tryz.prog.bytesOf 222 = 8 := by kernel_rfl
theorem Tryz.zb222 : zeroB Tryz.prog 222 = some [.nilFunc] := by kernel_rfl
theorem Tryz.ag223 : aggB Tryz.prog 223 = some false := by kernel_rfl
theorem Tryz.cz223 : Tryz.prog.cellsOf 223 = 1 := by kernel_rfl
theorem Tryz.by223 : Tryz.prog.bytesOf 223 = 8 := by kernel_rfl
theorem Tryz.zb223 : zeroB Tryz.prog 223 = some [.nilFunc] := by kernel_rfl
theorem Tryz.ag224 : aggB Tryz.prog 224 = some false := by kernel_rfl
theorem Tryz.cz224 : Tryz.prog.cellsOf 224 = 1 := by kernel_rfl
theorem Tryz.by224 : Tryz.prog.bytesOf 224 = 8 := by kernel_rfl
theorem Tryz.zb224 : zeroB Tryz.prog 224 = some [.nilFunc] := by kernel_rfl
theorem Tryz.ag225 : aggB Tryz.prog 225 = some false := by kernel_rfl
theorem Tryz.cz225 : Tryz.prog.cellsOf 225 = 1 := by kernel_rfl
theorem Tryz.by225 : Tryz.prog.bytesOf 225 = 8 := by kernel_rfl
theorem Tryz.zb225 : zeroB Tryz.prog 225 = some [.nilFunc] := by kernel_rfl
theorem Tryz.ag226 : aggB Tryz.prog 226 = some false := by kernel_rfl
theorem Tryz.cz226 : Tryz.prog.cellsOf 226 = 1 := by kernel_rfl
theorem Tryz.by226 : Tryz.prog.bytesOf 226 = 8 := by kernel_rfl
theorem Tryz.zb226 : zeroB Tryz.prog 226 = some [.nilFunc] := by kernel_rfl
theorem Tryz.ag227 : aggB Tryz.prog 227 = some false := by kernel_rfl
theorem Tryz.cz227 : Tryz.prog.cellsOf 227 = 1 := by kernel_rfl
theorem Tryz.by227 : Tryz.prog.bytesOf 227 = 8 := by kernel_rfl
theorem Tryz.zb227 : zeroB Tryz.prog 227 = some [.nilFunc] := by kernel_rfl
theorem Tryz.ag228 : aggB Tryz.prog 228 = some false := by kernel_rfl
theorem Tryz.cz228 : Tryz.prog.cellsOf 228 = 1 := by kernel_rfl
theorem Tryz.by228 : Tryz.prog.bytesOf 228 = 8 := by kernel_rfl
theorem Tryz.zb228 : zeroB Tryz.prog 228 = some [.nilFunc] := by kernel_rfl
theorem Tryz.ag229 : aggB Tryz.prog 229 = some false := by kernel_rfl
theorem Tryz.cz229 : Tryz.prog.cellsOf 229 = 1 := by kernel_rfl
theorem Tryz.by229 : Tryz.prog.bytesOf 229 = 8 := by kernel_rfl
theorem Tryz.zb229 : zeroB Tryz.prog 229 = some [.nilFunc] := by kernel_rfl
theorem Tryz.ag230 : aggB Tryz.prog 230 = some false := by kernel_rfl
theorem Tryz.cz230 : Tryz.prog.cellsOf 230 = 1 := by kernel_rfl
theorem Tryz.by230 : Tryz.prog.bytesOf 230 = 8 := by kernel_rfl
theorem Tryz.zb230 : zeroB Tryz.prog 230 = some [.nilFunc] := by kernel_rfl
theorem Tryz.ag231 : aggB Tryz.prog 231 = some false := by kernel_rfl
theorem Tryz.cz231 : Tryz.prog.cellsOf 231 = 1 := by kernel_rfl
theorem Tryz.by231 : Tryz.prog.bytesOf 231 = 8 := by kernel_rfl
theorem Tryz.zb231 : zeroB Tryz.prog 231 = some [.nilFunc] := by kernel_rfl
theorem Tryz.ag232 : aggB Tryz.prog 232 = some false := by kernel_rfl
theorem Tryz.cz232 : Tryz.prog.cellsOf 232 = 1 := by kernel_rfl
theorem Tryz.by232 : Tryz.prog.bytesOf 232 = 8 := by kernel_rfl
theorem Tryz.zb232 : zeroB Tryz.prog 232 = some [.nilFunc] := by kernel_rfl
theorem Tryz.ag233 : aggB Tryz.prog 233 = some false := by kernel_rfl
theorem Tryz.cz233 : Tryz.prog.cellsOf 233 = 1 := by kernel_rfl
theorem Tryz.by233 : Tryz.prog.bytesOf 233 = 8 := by kernel_rfl
theorem Tryz.zb233 : zeroB Tryz.prog 233 = some [.nilFunc] := by kernel_rfl
theorem Tryz.ag234 : aggB Tryz.prog 234 = some false := by kernel_rfl
theorem Tryz.cz234 : Tryz.prog.cellsOf 234 = 1 := by kernel_rfl
theorem Tryz.by234 : Tryz.prog.bytesOf 234 = 8 := by kernel_rfl
theorem Tryz.zb234 : zeroB Tryz.prog 234 = some [.nilFunc] := by kernel_rfl
theorem Tryz.ag235 : aggB Tryz.prog 235 = some false := by kernel_rfl
theorem Tryz.cz235 : Tryz.prog.cellsOf 235 = 1 := by kernel_rfl
theorem Tryz.by235 : Tryz.prog.bytesOf 235 = 8 := by kernel_rfl
theorem Tryz.zb235 : zeroB Tryz.prog 235 = some [.nilFunc] := by kernel_rfl
theorem Tryz.ag236 : aggB Tryz.prog 236 = some false := by kernel_rfl
theorem Tryz.cz236 : Tryz.prog.cellsOf 236 = 1 := by kernel_rfl
theorem Tryz.by236 : Tryz.prog.bytesOf 236 = 8 := by kernel_rfl
theorem Tryz.zb236 : zeroB Tryz.prog 236 = some [.nilFunc] := by kernel_rfl
theorem Tryz.ag237 : aggB Tryz.prog 237 = some false := by kernel_rfl
theorem Tryz.cz237 : Tryz.prog.cellsOf 237 = 1 := by kernel_rfl
theorem Tryz.by237 : Tryz.prog.bytesOf 237 = 8 := by kernel_rfl
theorem Tryz.zb237 : zeroB Tryz.prog 237 = some [.nilFunc] := by kernel_rfl
theorem Tryz.ag238 : aggB Tryz.prog 238 = some false := by kernel_rfl
theorem Tryz.cz238 : Tryz.prog.cellsOf 238 = 1 := by kernel_rfl
theorem Tryz.by238 : Tryz.prog.bytesOf 238 = 8 := by kernel_rfl
theorem Tryz.zb238 : zeroB Tryz.prog 238 = some [.nilFunc] := by kernel_rfl
theorem Tryz.ag239 : aggB Tryz.prog 239 = some false := by kernel_rfl
theorem Tryz.cz239 : Tryz.prog.cellsOf 239 = 1 := by kernel_rfl
theorem Tryz.by239 : Tryz.prog.bytesOf 239 = 8 := by kernel_rfl
theorem Tryz.zb239 : zeroB Tryz.prog 239 = some [.pointer none] := by kernel_rfl
theorem Tryz.ag240 : aggB Tryz.prog 240 = some false := by kernel_rfl
theorem Tryz.cz240 : Tryz.prog.cellsOf 240 = 1 := by kernel_rfl
theorem Tryz.by240 : Tryz.prog.bytesOf 240 = 8 := by kernel_rfl
theorem Tryz.zb240 : zeroB Tryz.prog 240 = some [.nilFunc] := by kernel_rfl
theorem Tryz.ag241 : aggB Tryz.prog 241 = some false := by kernel_rfl
theorem Tryz.cz241 : Tryz.prog.cellsOf 241 = 1 := by kernel_rfl
theorem Tryz.by241 : Tryz.prog.bytesOf 241 = 8 := by kernel_rfl
theorem Tryz.zb241 : zeroB Tryz.prog 241 = some [.nilFunc] := by kernel_rfl
theorem Tryz.ag242 : aggB Tryz.prog 242 = some false := by kernel_rfl
theorem Tryz.cz242 : Tryz.prog.cellsOf 242 = 1 := by kernel_rfl
theorem Tryz.by242 : Tryz.prog.bytesOf 242 = 8 := by kernel_rfl
theorem Tryz.zb242 : zeroB Tryz.prog 242 = some [.nilFunc] := by kernel_rfl
theorem Tryz.ag243 : aggB Tryz.prog 243 = some true := by kernel_rfl
theorem Tryz.cz243 : Tryz.prog.cellsOf 243 = 3 := by kernel_rfl
theorem Tryz.by243 : Tryz.prog.bytesOf 243 = 48 := by kernel_rfl
theorem Tryz.zb243 : zeroB Tryz.prog 243 = some [.string ⟨#[]⟩, .string ⟨#[]⟩, .string ⟨#[]⟩] := by kernel_rfl
theorem Tryz.ar243 : arrB Tryz.prog 243 = some (3, 1) := by kernel_rfl
theorem Tryz.ag245 : aggB Tryz.prog 245 = some false := by kernel_rfl
theorem Tryz.cz245 : Tryz.prog.cellsOf 245 = 1 := by kernel_rfl
theorem Tryz.by245 : Tryz.prog.bytesOf 245 = 8 := by kernel_rfl
theorem Tryz.zb245 : zeroB Tryz.prog 245 = some [.nilFunc] := by kernel_rfl
theorem Tryz.ag246 : aggB Tryz.prog 246 = some false := by kernel_rfl
theorem Tryz.cz246 : Tryz.prog.cellsOf 246 = 1 := by kernel_rfl
theorem Tryz.by246 : Tryz.prog.bytesOf 246 = 8 := by kernel_rfl
theorem Tryz.zb246 : zeroB Tryz.prog 246 = some [.nilFunc] := by kernel_rfl
theorem Tryz.ag247 : aggB Tryz.prog 247 = some false := by kernel_rfl
theorem Tryz.cz247 : Tryz.prog.cellsOf 247 = 1 := by kernel_rfl
theorem Tryz.by247 : Tryz.prog.bytesOf 247 = 8 := by kernel_rfl
theorem Tryz.zb247 : zeroB Tryz.prog 247 = some [.nilFunc] := by kernel_rfl
theorem Tryz.ag248 : aggB Tryz.prog 248 = some true := by kernel_rfl
theorem Tryz.cz248 : Tryz.prog.cellsOf 248 = 3 := by kernel_rfl
theorem Tryz.by248 : Tryz.prog.bytesOf 248 = 24 := by kernel_rfl
theorem Tryz.zb248 : zeroB Tryz.prog 248 = some [.int .i64 0, .int .i64 0, .int .i64 0] := by kernel_rfl
theorem Tryz.pl248 : placesB Tryz.prog 248 = some [(0, 1), (1, 1), (2, 1)] := by kernel_rfl
theorem Tryz.fd248_0 : fieldB Tryz.prog 248 0 = some 0 := by kernel_rfl
theorem Tryz.fd248_1 : fieldB Tryz.prog 248 1 = some 1 := by kernel_rfl
theorem Tryz.fd248_2 : fieldB Tryz.prog 248 2 = some 2 := by kernel_rfl
theorem Tryz.ag249 : aggB Tryz.prog 249 = some true := by kernel_rfl
theorem Tryz.cz249 : Tryz.prog.cellsOf 249 = 3 := by kernel_rfl
theorem Tryz.by249 : Tryz.prog.bytesOf 249 = 24 := by kernel_rfl
theorem Tryz.zb249 : zeroB Tryz.prog 249 = some [.int .i64 0, .int .i64 0, .int .i64 0] := by kernel_rfl
theorem Tryz.pl249 : placesB Tryz.prog 249 = some [(0, 1), (1, 1), (2, 1)] := by kernel_rfl
theorem Tryz.sh249 : Tryz.prog.stoodInHeld 249 = false := by kernel_rfl
theorem Tryz.eg249 : Tryz.prog.eqGuardType Tryz.prog.depth 249 = false := by kernel_rfl
theorem Tryz.fd249_0 : fieldB Tryz.prog 249 0 = some 0 := by kernel_rfl
theorem Tryz.fd249_1 : fieldB Tryz.prog 249 1 = some 1 := by kernel_rfl
theorem Tryz.fd249_2 : fieldB Tryz.prog 249 2 = some 2 := by kernel_rfl
theorem Tryz.ag250 : aggB Tryz.prog 250 = some false := by kernel_rfl
theorem Tryz.cz250 : Tryz.prog.cellsOf 250 = 1 := by kernel_rfl
theorem Tryz.by250 : Tryz.prog.bytesOf 250 = 8 := by kernel_rfl
theorem Tryz.zb250 : zeroB Tryz.prog 250 = some [.pointer none] := by kernel_rfl
theorem Tryz.ag252 : aggB Tryz.prog 252 = some false := by kernel_rfl
theorem Tryz.cz252 : Tryz.prog.cellsOf 252 = 1 := by kernel_rfl
theorem Tryz.by252 : Tryz.prog.bytesOf 252 = 8 := by kernel_rfl
theorem Tryz.zb252 : zeroB Tryz.prog 252 = some [.nilFunc] := by kernel_rfl
theorem Tryz.ag253 : aggB Tryz.prog 253 = some false := by kernel_rfl
theorem Tryz.cz253 : Tryz.prog.cellsOf 253 = 1 := by kernel_rfl
theorem Tryz.by253 : Tryz.prog.bytesOf 253 = 8 := by kernel_rfl
theorem Tryz.zb253 : zeroB Tryz.prog 253 = some [.nilFunc] := by kernel_rfl
theorem Tryz.ag254 : aggB Tryz.prog 254 = some false := by kernel_rfl
theorem Tryz.cz254 : Tryz.prog.cellsOf 254 = 1 := by kernel_rfl
theorem Tryz.by254 : Tryz.prog.bytesOf 254 = 8 := by kernel_rfl
theorem Tryz.zb254 : zeroB Tryz.prog 254 = some [.nilFunc] := by kernel_rfl
theorem Tryz.ag256 : aggB Tryz.prog 256 = some false := by kernel_rfl
theorem Tryz.cz256 : Tryz.prog.cellsOf 256 = 1 := by kernel_rfl
theorem Tryz.by256 : Tryz.prog.bytesOf 256 = 8 := by kernel_rfl
theorem Tryz.zb256 : zeroB Tryz.prog 256 = some [.nilFunc] := by kernel_rfl
theorem Tryz.ag257 : aggB Tryz.prog 257 = some false := by kernel_rfl
theorem Tryz.cz257 : Tryz.prog.cellsOf 257 = 1 := by kernel_rfl
theorem Tryz.by257 : Tryz.prog.bytesOf 257 = 8 := by kernel_rfl
theorem Tryz.zb257 : zeroB Tryz.prog 257 = some [.nilFunc] := by kernel_rfl
theorem Tryz.ag258 : aggB Tryz.prog 258 = some true := by kernel_rfl
theorem Tryz.cz258 : Tryz.prog.cellsOf 258 = 4 := by kernel_rfl
theorem Tryz.by258 : Tryz.prog.bytesOf 258 = 40 := by kernel_rfl
theorem Tryz.zb258 : zeroB Tryz.prog 258 = some [.pointer none, .pointer none, .pointer none, .string ⟨#[]⟩] := by kernel_rfl
theorem Tryz.pl258 : placesB Tryz.prog 258 = some [(0, 1), (1, 1), (2, 1), (3, 1)] := by kernel_rfl
theorem Tryz.fd258_0 : fieldB Tryz.prog 258 0 = some 0 := by kernel_rfl
theorem Tryz.fd258_1 : fieldB Tryz.prog 258 1 = some 1 := by kernel_rfl
theorem Tryz.fd258_2 : fieldB Tryz.prog 258 2 = some 2 := by kernel_rfl
theorem Tryz.fd258_3 : fieldB Tryz.prog 258 3 = some 3 := by kernel_rfl
theorem Tryz.ag259 : aggB Tryz.prog 259 = some true := by kernel_rfl
theorem Tryz.cz259 : Tryz.prog.cellsOf 259 = 4 := by kernel_rfl
theorem Tryz.by259 : Tryz.prog.bytesOf 259 = 40 := by kernel_rfl
theorem Tryz.zb259 : zeroB Tryz.prog 259 = some [.pointer none, .pointer none, .pointer none, .string ⟨#[]⟩] := by kernel_rfl
theorem Tryz.pl259 : placesB Tryz.prog 259 = some [(0, 1), (1, 1), (2, 1), (3, 1)] := by kernel_rfl
theorem Tryz.fd259_0 : fieldB Tryz.prog 259 0 = some 0 := by kernel_rfl
theorem Tryz.fd259_1 : fieldB Tryz.prog 259 1 = some 1 := by kernel_rfl
theorem Tryz.fd259_2 : fieldB Tryz.prog 259 2 = some 2 := by kernel_rfl
theorem Tryz.fd259_3 : fieldB Tryz.prog 259 3 = some 3 := by kernel_rfl
theorem Tryz.ag260 : aggB Tryz.prog 260 = some true := by kernel_rfl
theorem Tryz.cz260 : Tryz.prog.cellsOf 260 = 0 := by kernel_rfl
theorem Tryz.zb260 : zeroB Tryz.prog 260 = some [] := by kernel_rfl
theorem Tryz.ar260 : arrB Tryz.prog 260 = some (0, 1) := by kernel_rfl
theorem Tryz.ag261 : aggB Tryz.prog 261 = some true := by kernel_rfl
theorem Tryz.cz261 : Tryz.prog.cellsOf 261 = 0 := by kernel_rfl
theorem Tryz.zb261 : zeroB Tryz.prog 261 = some [] := by kernel_rfl
theorem Tryz.ag262 : aggB Tryz.prog 262 = some true := by kernel_rfl
theorem Tryz.cz262 : Tryz.prog.cellsOf 262 = 0 := by kernel_rfl
theorem Tryz.zb262 : zeroB Tryz.prog 262 = some [] := by kernel_rfl
theorem Tryz.ag263 : aggB Tryz.prog 263 = some false := by kernel_rfl
theorem Tryz.cz263 : Tryz.prog.cellsOf 263 = 1 := by kernel_rfl
theorem Tryz.by263 : Tryz.prog.bytesOf 263 = 1 := by kernel_rfl
theorem Tryz.zb263 : zeroB Tryz.prog 263 = some [.int .u8 0] := by kernel_rfl
theorem Tryz.ag264 : aggB Tryz.prog 264 = some false := by kernel_rfl
theorem Tryz.cz264 : Tryz.prog.cellsOf 264 = 1 := by kernel_rfl
theorem Tryz.by264 : Tryz.prog.bytesOf 264 = 1 := by kernel_rfl
theorem Tryz.zb264 : zeroB Tryz.prog 264 = some [.int .u8 0] := by kernel_rfl
theorem Tryz.ag265 : aggB Tryz.prog 265 = some false := by kernel_rfl
theorem Tryz.cz265 : Tryz.prog.cellsOf 265 = 1 := by kernel_rfl
theorem Tryz.by265 : Tryz.prog.bytesOf 265 = 8 := by kernel_rfl
theorem Tryz.zb265 : zeroB Tryz.prog 265 = some [.nilFunc] := by kernel_rfl
theorem Tryz.ag266 : aggB Tryz.prog 266 = some false := by kernel_rfl
theorem Tryz.cz266 : Tryz.prog.cellsOf 266 = 1 := by kernel_rfl
theorem Tryz.by266 : Tryz.prog.bytesOf 266 = 8 := by kernel_rfl
theorem Tryz.zb266 : zeroB Tryz.prog 266 = some [.pointer none] := by kernel_rfl
theorem Tryz.ag267 : aggB Tryz.prog 267 = some false := by kernel_rfl
theorem Tryz.cz267 : Tryz.prog.cellsOf 267 = 1 := by kernel_rfl
theorem Tryz.by267 : Tryz.prog.bytesOf 267 = 4 := by kernel_rfl
theorem Tryz.zb267 : zeroB Tryz.prog 267 = some [.int .i32 0] := by kernel_rfl
theorem Tryz.ag268 : aggB Tryz.prog 268 = some false := by kernel_rfl
theorem Tryz.cz268 : Tryz.prog.cellsOf 268 = 1 := by kernel_rfl
theorem Tryz.by268 : Tryz.prog.bytesOf 268 = 4 := by kernel_rfl
theorem Tryz.zb268 : zeroB Tryz.prog 268 = some [.int .i32 0] := by kernel_rfl
theorem Tryz.ag269 : aggB Tryz.prog 269 = some true := by kernel_rfl
theorem Tryz.cz269 : Tryz.prog.cellsOf 269 = 11 := by kernel_rfl
theorem Tryz.by269 : Tryz.prog.bytesOf 269 = 48 := by kernel_rfl
theorem Tryz.zb269 : zeroB Tryz.prog 269 = some [.int .u64 0, .int .u64 0, .int .u32 0, .int .u8 0, .int .u8 0, .int .u8 0, .int .u8 0, .nilFunc, .pointer none, .int .i32 0, .int .i32 0] := by kernel_rfl
theorem Tryz.pl269 : placesB Tryz.prog 269 = some [(0, 1), (1, 1), (2, 1), (3, 1), (4, 1), (5, 1), (6, 1), (7, 1), (8, 1), (9, 1), (10, 1)] := by kernel_rfl
theorem Tryz.fd269_0 : fieldB Tryz.prog 269 0 = some 0 := by kernel_rfl
theorem Tryz.fd269_1 : fieldB Tryz.prog 269 1 = some 1 := by kernel_rfl
theorem Tryz.fd269_2 : fieldB Tryz.prog 269 2 = some 2 := by kernel_rfl
theorem Tryz.fd269_3 : fieldB Tryz.prog 269 3 = some 3 := by kernel_rfl
theorem Tryz.fd269_4 : fieldB Tryz.prog 269 4 = some 4 := by kernel_rfl
theorem Tryz.fd269_5 : fieldB Tryz.prog 269 5 = some 5 := by kernel_rfl
theorem Tryz.fd269_6 : fieldB Tryz.prog 269 6 = some 6 := by kernel_rfl
theorem Tryz.fd269_7 : fieldB Tryz.prog 269 7 = some 7 := by kernel_rfl
theorem Tryz.fd269_8 : fieldB Tryz.prog 269 8 = some 8 := by kernel_rfl
theorem Tryz.fd269_9 : fieldB Tryz.prog 269 9 = some 9 := by kernel_rfl
theorem Tryz.fd269_10 : fieldB Tryz.prog 269 10 = some 10 := by kernel_rfl
theorem Tryz.ag270 : aggB Tryz.prog 270 = some true := by kernel_rfl
theorem Tryz.cz270 : Tryz.prog.cellsOf 270 = 11 := by kernel_rfl
theorem Tryz.by270 : Tryz.prog.bytesOf 270 = 48 := by kernel_rfl
theorem Tryz.zb270 : zeroB Tryz.prog 270 = some [.int .u64 0, .int .u64 0, .int .u32 0, .int .u8 0, .int .u8 0, .int .u8 0, .int .u8 0, .nilFunc, .pointer none, .int .i32 0, .int .i32 0] := by kernel_rfl
theorem Tryz.pl270 : placesB Tryz.prog 270 = some [(0, 1), (1, 1), (2, 1), (3, 1), (4, 1), (5, 1), (6, 1), (7, 1), (8, 1), (9, 1), (10, 1)] := by kernel_rfl
theorem Tryz.fd270_0 : fieldB Tryz.prog 270 0 = some 0 := by kernel_rfl
theorem Tryz.fd270_1 : fieldB Tryz.prog 270 1 = some 1 := by kernel_rfl
theorem Tryz.fd270_2 : fieldB Tryz.prog 270 2 = some 2 := by kernel_rfl
theorem Tryz.fd270_3 : fieldB Tryz.prog 270 3 = some 3 := by kernel_rfl
theorem Tryz.fd270_4 : fieldB Tryz.prog 270 4 = some 4 := by kernel_rfl
theorem Tryz.fd270_5 : fieldB Tryz.prog 270 5 = some 5 := by kernel_rfl
theorem Tryz.fd270_6 : fieldB Tryz.prog 270 6 = some 6 := by kernel_rfl
theorem Tryz.fd270_7 : fieldB Tryz.prog 270 7 = some 7 := by kernel_rfl
theorem Tryz.fd270_8 : fieldB Tryz.prog 270 8 = some 8 := by kernel_rfl
theorem Tryz.fd270_9 : fieldB Tryz.prog 270 9 = some 9 := by kernel_rfl
theorem Tryz.fd270_10 : fieldB Tryz.prog 270 10 = some 10 := by kernel_rfl
theorem Tryz.ag271 : aggB Tryz.prog 271 = some false := by kernel_rfl
theorem Tryz.cz271 : Tryz.prog.cellsOf 271 = 1 := by kernel_rfl
theorem Tryz.by271 : Tryz.prog.bytesOf 271 = 8 := by kernel_rfl
theorem Tryz.zb271 : zeroB Tryz.prog 271 = some [.pointer none] := by kernel_rfl
theorem Tryz.kt61 : KeyT Tryz.prog 103 kpair := KeyT.pair Tryz.underlying103 Tryz.sh103 (by decide) (by decide) rfl rfl Tryz.underlying3 Tryz.underlying3
theorem Tryz.zv4 : zeroV1 Tryz.prog 4 = some (.bool false) := by kernel_rfl
theorem Tryz.kt107 : KeyT Tryz.prog 3 (Value.int .i64) := KeyT.int Tryz.underlying3
theorem Tryz.mixed : Tryz.prog.follows .mixedOrders = true := by kernel_rfl

end Go.Proofs
