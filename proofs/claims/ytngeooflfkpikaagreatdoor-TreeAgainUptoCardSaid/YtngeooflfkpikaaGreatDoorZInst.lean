/-
  The types and the functions of this seat, as the logic of walks asks for them. (Written by a program of this repo: inst.py.)
-/
import Derived.Test.YtngeooflfkpikaaGreatDoorProg
import Derived.Test.YtngeooflfkpikaaGreatDoorZRd
namespace Go.Proofs.YtngeooflfkpikaaGreatDoor
open Go
set_option maxRecDepth 100000
instance : ZT Tryz.prog 3 [Value.int IntKind.i64 0] := ⟨_, Tryz.zeroValue3, rfl⟩
instance : NAgg Tryz.prog 3 := ⟨Tryz.isAgg3⟩
instance : OneT Tryz.prog 3 (Value.int IntKind.i64 0) := ⟨Tryz.isAgg3, Tryz.sizeOf3, Tryz.zeroValue3⟩
instance : BoolT Tryz.prog 4 := ⟨Tryz.underlying4⟩
instance : IntT Tryz.prog 5 .u8 := ⟨Tryz.underlying5⟩
instance : OneT Tryz.prog 5 (Value.int IntKind.u8 0) := ⟨Tryz.isAgg5, Tryz.sizeOf5, Tryz.zeroValue5⟩
instance : StrT Tryz.prog 9 := ⟨Tryz.underlying9⟩
instance : NAgg Tryz.prog 9 := ⟨Tryz.isAgg9⟩
instance : OneT Tryz.prog 9 (Value.string { data := #[] }) := ⟨Tryz.isAgg9, Tryz.sizeOf9, Tryz.zeroValue9⟩
instance : IfT Tryz.prog 20 := ⟨_, Tryz.underlying20⟩
instance : IntT Tryz.prog 21 .i32 := ⟨Tryz.underlying21⟩
instance : SlT Tryz.prog 22 44 7 := ⟨Tryz.underlying22, Tryz.sizeOf44⟩
instance : ZT Tryz.prog 22 [Value.slice none 0 0] := ⟨_, Tryz.zeroValue22, rfl⟩
instance : NAgg Tryz.prog 22 := ⟨Tryz.isAgg22⟩
instance : OneT Tryz.prog 22 (Value.slice none 0 0) := ⟨Tryz.isAgg22, Tryz.sizeOf22, Tryz.zeroValue22⟩
instance : NotIf Tryz.prog 24 := ⟨_, Tryz.underlying24, rfl⟩
instance : NAgg Tryz.prog 24 := ⟨Tryz.isAgg24⟩
instance : IfT Tryz.prog 28 := ⟨_, Tryz.underlying28⟩
instance : ZT Tryz.prog 28 [Value.nilIface] := ⟨_, Tryz.zeroValue28, rfl⟩
instance : NAgg Tryz.prog 28 := ⟨Tryz.isAgg28⟩
instance : OneT Tryz.prog 28 (Value.nilIface) := ⟨Tryz.isAgg28, Tryz.sizeOf28, Tryz.zeroValue28⟩
instance : SlT Tryz.prog 34 39 5 := ⟨Tryz.underlying34, Tryz.sizeOf39⟩
instance : ZT Tryz.prog 34 [Value.slice none 0 0] := ⟨_, Tryz.zeroValue34, rfl⟩
instance : NAgg Tryz.prog 34 := ⟨Tryz.isAgg34⟩
instance : OneT Tryz.prog 34 (Value.slice none 0 0) := ⟨Tryz.isAgg34, Tryz.sizeOf34, Tryz.zeroValue34⟩
instance : NAgg Tryz.prog 37 := ⟨Tryz.isAgg37⟩
instance : OneT Tryz.prog 37 (Value.int IntKind.i64 0) := ⟨Tryz.isAgg37, Tryz.sizeOf37, Tryz.zeroValue37⟩
instance : ZT Tryz.prog 39 [Value.int IntKind.i64 0, Value.int IntKind.i64 0, Value.int IntKind.i64 0, Value.string { data := #[] }, Value.int IntKind.i64 0] := ⟨_, Tryz.zeroValue39, rfl⟩
instance : StT Tryz.prog 39 [(0, 1), (1, 1), (2, 1), (3, 1), (4, 1)] [Value.int IntKind.i64 0, Value.int IntKind.i64 0, Value.int IntKind.i64 0, Value.string { data := #[] }, Value.int IntKind.i64 0] := ⟨fld_of Tryz.underlying39 (by kernel_rfl), fun parts => by kernel_rfl, Tryz.sizeOf39, Tryz.isAgg39, Tryz.zeroValue39⟩
instance : EqT Tryz.prog 39 [.i, .i, .i, .s, .i] := ⟨by kernel_rfl, by kernel_rfl, by kernel_rfl, by kernel_rfl⟩
instance : FldT Tryz.prog 39 [some 0, some 1, some 2, some 3, some 4] := fldT_of Tryz.underlying39 (by kernel_rfl)
instance : ZT Tryz.prog 41 [Value.int IntKind.i64 0, Value.int IntKind.i64 0, Value.int IntKind.i64 0] := ⟨_, Tryz.zeroValue41, rfl⟩
instance : StT Tryz.prog 41 [(0, 1), (1, 1), (2, 1)] [Value.int IntKind.i64 0, Value.int IntKind.i64 0, Value.int IntKind.i64 0] := ⟨fld_of Tryz.underlying41 (by kernel_rfl), fun parts => by kernel_rfl, Tryz.sizeOf41, Tryz.isAgg41, Tryz.zeroValue41⟩
instance : EqT Tryz.prog 41 [.i, .i, .i] := ⟨by kernel_rfl, by kernel_rfl, by kernel_rfl, by kernel_rfl⟩
instance : SlT Tryz.prog 42 3 1 := ⟨Tryz.underlying42, Tryz.sizeOf3⟩
instance : NAgg Tryz.prog 42 := ⟨Tryz.isAgg42⟩
instance : ZT Tryz.prog 44 [Value.int IntKind.i64 0, Value.int IntKind.i64 0, Value.int IntKind.i64 0, Value.int IntKind.i64 0, Value.int IntKind.i64 0, Value.slice none 0 0, Value.string { data := #[] }] := ⟨_, Tryz.zeroValue44, rfl⟩
instance : StT Tryz.prog 44 [(0, 1), (1, 3), (4, 1), (5, 1), (6, 1)] [Value.int IntKind.i64 0, Value.int IntKind.i64 0, Value.int IntKind.i64 0, Value.int IntKind.i64 0, Value.int IntKind.i64 0, Value.slice none 0 0, Value.string { data := #[] }] := ⟨fld_of Tryz.underlying44 (by kernel_rfl), fun parts => by kernel_rfl, Tryz.sizeOf44, Tryz.isAgg44, Tryz.zeroValue44⟩
instance : NotIf Tryz.prog 88 := ⟨_, Tryz.underlying88, rfl⟩
instance : NAgg Tryz.prog 89 := ⟨Tryz.isAgg89⟩
instance : StT Tryz.prog 91 [(0, 1), (1, 1), (2, 1)] [Value.slice none 0 0, Value.int IntKind.i64 0, Value.int IntKind.i64 0] := ⟨fld_of Tryz.underlying91 (by kernel_rfl), fun parts => by kernel_rfl, Tryz.sizeOf91, Tryz.isAgg91, Tryz.zeroValue91⟩
instance : ZT Tryz.prog 93 [Value.nilIface] := ⟨_, Tryz.zeroValue93, rfl⟩
instance : NAgg Tryz.prog 93 := ⟨Tryz.isAgg93⟩
instance : OneT Tryz.prog 93 (Value.nilIface) := ⟨Tryz.isAgg93, Tryz.sizeOf93, Tryz.zeroValue93⟩
instance : StT Tryz.prog 105 [(0, 1)] [Value.slice none 0 0] := ⟨fld_of Tryz.underlying105 (by kernel_rfl), fun parts => by kernel_rfl, Tryz.sizeOf105, Tryz.isAgg105, Tryz.zeroValue105⟩
instance : NotIf Tryz.prog 111 := ⟨_, Tryz.underlying111, rfl⟩
instance : ZT Tryz.prog 111 [Value.int IntKind.i64 0, Value.int IntKind.i64 0] := ⟨_, Tryz.zeroValue111, rfl⟩
instance : StT Tryz.prog 111 [(0, 1), (1, 1)] [Value.int IntKind.i64 0, Value.int IntKind.i64 0] := ⟨fld_of Tryz.underlying111 (by kernel_rfl), fun parts => by kernel_rfl, Tryz.sizeOf111, Tryz.isAgg111, Tryz.zeroValue111⟩
instance : StT Tryz.prog 114 [(0, 1), (1, 1), (2, 1)] [Value.string { data := #[] }, Value.int IntKind.i64 0, Value.slice none 0 0] := ⟨fld_of Tryz.underlying114 (by kernel_rfl), fun parts => by kernel_rfl, Tryz.sizeOf114, Tryz.isAgg114, Tryz.zeroValue114⟩
instance : NotIf Tryz.prog 146 := ⟨_, Tryz.underlying146, rfl⟩
instance : ZT Tryz.prog 146 [Value.string { data := #[] }] := ⟨_, Tryz.zeroValue146, rfl⟩
instance : StT Tryz.prog 146 [(0, 1)] [Value.string { data := #[] }] := ⟨fld_of Tryz.underlying146 (by kernel_rfl), fun parts => by kernel_rfl, Tryz.sizeOf146, Tryz.isAgg146, Tryz.zeroValue146⟩
instance : ZV Tryz.prog 146 (Value.agg #[Value.string { data := #[] }]) := ⟨Tryz.zeroValue146⟩
instance : NotIf Tryz.prog 148 := ⟨_, Tryz.underlying148, rfl⟩
instance : ZT Tryz.prog 148 [Value.string { data := #[] }, Value.nilIface] := ⟨_, Tryz.zeroValue148, rfl⟩
instance : StT Tryz.prog 148 [(0, 1), (1, 1)] [Value.string { data := #[] }, Value.nilIface] := ⟨fld_of Tryz.underlying148 (by kernel_rfl), fun parts => by kernel_rfl, Tryz.sizeOf148, Tryz.isAgg148, Tryz.zeroValue148⟩
instance : StT Tryz.prog 159 [(0, 1), (1, 1), (2, 1)] [Value.slice none 0 0, Value.int IntKind.i64 0, Value.int IntKind.i64 0] := ⟨fld_of Tryz.underlying159 (by kernel_rfl), fun parts => by kernel_rfl, Tryz.sizeOf159, Tryz.isAgg159, Tryz.zeroValue159⟩
instance : NotIf Tryz.prog 161 := ⟨_, Tryz.underlying161, rfl⟩
instance : ZT Tryz.prog 161 [Value.slice none 0 0] := ⟨_, Tryz.zeroValue161, rfl⟩
instance : StT Tryz.prog 161 [(0, 1)] [Value.slice none 0 0] := ⟨fld_of Tryz.underlying161 (by kernel_rfl), fun parts => by kernel_rfl, Tryz.sizeOf161, Tryz.isAgg161, Tryz.zeroValue161⟩
instance : ZV Tryz.prog 161 (Value.agg #[Value.slice none 0 0]) := ⟨Tryz.zeroValue161⟩
instance : NotIf Tryz.prog 162 := ⟨_, Tryz.underlying162, rfl⟩
instance : ZT Tryz.prog 162 [Value.string { data := #[] }] := ⟨_, Tryz.zeroValue162, rfl⟩
instance : StT Tryz.prog 162 [(0, 1)] [Value.string { data := #[] }] := ⟨fld_of Tryz.underlying162 (by kernel_rfl), fun parts => by kernel_rfl, Tryz.sizeOf162, Tryz.isAgg162, Tryz.zeroValue162⟩
instance : ZV Tryz.prog 162 (Value.agg #[Value.string { data := #[] }]) := ⟨Tryz.zeroValue162⟩
instance : NotIf Tryz.prog 164 := ⟨_, Tryz.underlying164, rfl⟩
instance : ZT Tryz.prog 164 [Value.int IntKind.i64 0] := ⟨_, Tryz.zeroValue164, rfl⟩
instance : StT Tryz.prog 164 [(0, 1)] [Value.int IntKind.i64 0] := ⟨fld_of Tryz.underlying164 (by kernel_rfl), fun parts => by kernel_rfl, Tryz.sizeOf164, Tryz.isAgg164, Tryz.zeroValue164⟩
instance : ZV Tryz.prog 164 (Value.agg #[Value.int IntKind.i64 0]) := ⟨Tryz.zeroValue164⟩
instance : SlT Tryz.prog 166 93 1 := ⟨Tryz.underlying166, Tryz.sizeOf93⟩
instance : NAgg Tryz.prog 166 := ⟨Tryz.isAgg166⟩
instance : OneT Tryz.prog 166 (Value.slice none 0 0) := ⟨Tryz.isAgg166, Tryz.sizeOf166, Tryz.zeroValue166⟩
instance : ZT Tryz.prog 168 [Value.int IntKind.i64 0, Value.int IntKind.i64 0, Value.int IntKind.i64 0, Value.int IntKind.i64 0, Value.slice none 0 0] := ⟨_, Tryz.zeroValue168, rfl⟩
instance : StT Tryz.prog 168 [(0, 3), (3, 1), (4, 1)] [Value.int IntKind.i64 0, Value.int IntKind.i64 0, Value.int IntKind.i64 0, Value.int IntKind.i64 0, Value.slice none 0 0] := ⟨fld_of Tryz.underlying168 (by kernel_rfl), fun parts => by kernel_rfl, Tryz.sizeOf168, Tryz.isAgg168, Tryz.zeroValue168⟩
instance : NotIf Tryz.prog 170 := ⟨_, Tryz.underlying170, rfl⟩
instance : ZT Tryz.prog 170 [Value.int IntKind.i64 0, Value.int IntKind.i64 0, Value.int IntKind.i64 0, Value.int IntKind.i64 0, Value.slice none 0 0, Value.nilIface] := ⟨_, Tryz.zeroValue170, rfl⟩
instance : StT Tryz.prog 170 [(0, 5), (5, 1)] [Value.int IntKind.i64 0, Value.int IntKind.i64 0, Value.int IntKind.i64 0, Value.int IntKind.i64 0, Value.slice none 0 0, Value.nilIface] := ⟨fld_of Tryz.underlying170 (by kernel_rfl), fun parts => by kernel_rfl, Tryz.sizeOf170, Tryz.isAgg170, Tryz.zeroValue170⟩
instance : ZV Tryz.prog 170 (Value.agg #[Value.int IntKind.i64 0, Value.int IntKind.i64 0, Value.int IntKind.i64 0, Value.int IntKind.i64 0, Value.slice none 0 0, Value.nilIface]) := ⟨Tryz.zeroValue170⟩
instance : NotIf Tryz.prog 175 := ⟨_, Tryz.underlying175, rfl⟩
instance : ZT Tryz.prog 175 [Value.nilIface, Value.int IntKind.i64 0, Value.int IntKind.i64 0, Value.int IntKind.i64 0, Value.int IntKind.i64 0, Value.slice none 0 0, Value.nilIface] := ⟨_, Tryz.zeroValue175, rfl⟩
instance : StT Tryz.prog 175 [(0, 1), (1, 5), (6, 1)] [Value.nilIface, Value.int IntKind.i64 0, Value.int IntKind.i64 0, Value.int IntKind.i64 0, Value.int IntKind.i64 0, Value.slice none 0 0, Value.nilIface] := ⟨fld_of Tryz.underlying175 (by kernel_rfl), fun parts => by kernel_rfl, Tryz.sizeOf175, Tryz.isAgg175, Tryz.zeroValue175⟩
instance : ZV Tryz.prog 175 (Value.agg #[Value.nilIface, Value.int IntKind.i64 0, Value.int IntKind.i64 0, Value.int IntKind.i64 0, Value.int IntKind.i64 0, Value.slice none 0 0, Value.nilIface]) := ⟨Tryz.zeroValue175⟩
instance : NotIf Tryz.prog 177 := ⟨_, Tryz.underlying177, rfl⟩
instance : ZT Tryz.prog 177 [Value.nilIface, Value.slice none 0 0] := ⟨_, Tryz.zeroValue177, rfl⟩
instance : StT Tryz.prog 177 [(0, 1), (1, 1)] [Value.nilIface, Value.slice none 0 0] := ⟨fld_of Tryz.underlying177 (by kernel_rfl), fun parts => by kernel_rfl, Tryz.sizeOf177, Tryz.isAgg177, Tryz.zeroValue177⟩
instance : ZV Tryz.prog 177 (Value.agg #[Value.nilIface, Value.slice none 0 0]) := ⟨Tryz.zeroValue177⟩
instance : NAgg Tryz.prog 185 := ⟨Tryz.isAgg185⟩
instance : OneT Tryz.prog 185 (Value.slice none 0 0) := ⟨Tryz.isAgg185, Tryz.sizeOf185, Tryz.zeroValue185⟩
instance : ZT Tryz.prog 187 [Value.pointer none, Value.slice none 0 0] := ⟨_, Tryz.zeroValue187, rfl⟩
instance : StT Tryz.prog 187 [(0, 1), (1, 1)] [Value.pointer none, Value.slice none 0 0] := ⟨fld_of Tryz.underlying187 (by kernel_rfl), fun parts => by kernel_rfl, Tryz.sizeOf187, Tryz.isAgg187, Tryz.zeroValue187⟩
instance : ElT Tryz.prog 22 44 7 [Value.int IntKind.i64 0, Value.int IntKind.i64 0, Value.int IntKind.i64 0, Value.int IntKind.i64 0, Value.int IntKind.i64 0, Value.slice none 0 0, Value.string { data := #[] }] 80 := elT_of (z := Value.agg #[Value.int IntKind.i64 0, Value.int IntKind.i64 0, Value.int IntKind.i64 0, Value.int IntKind.i64 0, Value.int IntKind.i64 0, Value.slice none 0 0, Value.string { data := #[] }]) Tryz.underlying22 (by kernel_rfl) rfl rfl (by decide)
instance : ElT Tryz.prog 34 39 5 [Value.int IntKind.i64 0, Value.int IntKind.i64 0, Value.int IntKind.i64 0, Value.string { data := #[] }, Value.int IntKind.i64 0] 48 := elT_of (z := Value.agg #[Value.int IntKind.i64 0, Value.int IntKind.i64 0, Value.int IntKind.i64 0, Value.string { data := #[] }, Value.int IntKind.i64 0]) Tryz.underlying34 (by kernel_rfl) rfl rfl (by decide)
instance : ElT Tryz.prog 42 3 1 [Value.int IntKind.i64 0] 8 := elT_of (z := Value.int IntKind.i64 0) Tryz.underlying42 (by kernel_rfl) rfl rfl (by decide)
instance : ElT Tryz.prog 107 9 1 [Value.string { data := #[] }] 16 := elT_of (z := Value.string { data := #[] }) Tryz.underlying107 (by kernel_rfl) rfl rfl (by decide)
instance : ElT Tryz.prog 166 93 1 [Value.nilIface] 16 := elT_of (z := Value.nilIface) Tryz.underlying166 (by kernel_rfl) rfl rfl (by decide)
instance : ElT Tryz.prog 185 5 1 [Value.int IntKind.u8 0] 1 := elT_of (z := Value.int IntKind.u8 0) Tryz.underlying185 (by kernel_rfl) rfl rfl (by decide)
instance : FnT Tryz.prog 9 := ⟨_, _, Tryz.func9, rfl, by decide⟩
instance : FnT Tryz.prog 11 := ⟨_, _, Tryz.func11, rfl, by decide⟩
instance : FnT Tryz.prog 13 := ⟨_, _, Tryz.func13, rfl, by decide⟩
instance : FnT Tryz.prog 14 := ⟨_, _, Tryz.func14, rfl, by decide⟩
instance : FnT Tryz.prog 15 := ⟨_, _, Tryz.func15, rfl, by decide⟩
instance : FnT Tryz.prog 16 := ⟨_, _, Tryz.func16, rfl, by decide⟩
instance : FnT Tryz.prog 17 := ⟨_, _, Tryz.func17, rfl, by decide⟩
instance : FnT Tryz.prog 30 := ⟨_, _, Tryz.func30, rfl, by decide⟩
instance : FnT Tryz.prog 31 := ⟨_, _, Tryz.func31, rfl, by decide⟩
instance : FnT Tryz.prog 32 := ⟨_, _, Tryz.func32, rfl, by decide⟩
instance : FnT Tryz.prog 33 := ⟨_, _, Tryz.func33, rfl, by decide⟩
instance : FnT Tryz.prog 38 := ⟨_, _, Tryz.func38, rfl, by decide⟩
instance : FnT Tryz.prog 39 := ⟨_, _, Tryz.func39, rfl, by decide⟩
instance : FnT Tryz.prog 40 := ⟨_, _, Tryz.func40, rfl, by decide⟩
instance : FnT Tryz.prog 41 := ⟨_, _, Tryz.func41, rfl, by decide⟩
instance : FnT Tryz.prog 42 := ⟨_, _, Tryz.func42, rfl, by decide⟩
instance : FnT Tryz.prog 43 := ⟨_, _, Tryz.func43, rfl, by decide⟩
instance : FnT Tryz.prog 80 := ⟨_, _, Tryz.func80, rfl, by decide⟩
instance : FnT Tryz.prog 87 := ⟨_, _, Tryz.func87, rfl, by decide⟩
instance : FnT Tryz.prog 88 := ⟨_, _, Tryz.func88, rfl, by decide⟩
instance : FnT Tryz.prog 89 := ⟨_, _, Tryz.func89, rfl, by decide⟩
instance : FnT Tryz.prog 90 := ⟨_, _, Tryz.func90, rfl, by decide⟩
instance : FnT Tryz.prog 91 := ⟨_, _, Tryz.func91, rfl, by decide⟩
instance : FnT Tryz.prog 92 := ⟨_, _, Tryz.func92, rfl, by decide⟩
instance : FnT Tryz.prog 93 := ⟨_, _, Tryz.func93, rfl, by decide⟩
instance : FnT Tryz.prog 94 := ⟨_, _, Tryz.func94, rfl, by decide⟩
instance : FnT Tryz.prog 95 := ⟨_, _, Tryz.func95, rfl, by decide⟩
instance : FnT Tryz.prog 96 := ⟨_, _, Tryz.func96, rfl, by decide⟩
instance : FnT Tryz.prog 97 := ⟨_, _, Tryz.func97, rfl, by decide⟩
instance : FnT Tryz.prog 98 := ⟨_, _, Tryz.func98, rfl, by decide⟩
instance : FnT Tryz.prog 99 := ⟨_, _, Tryz.func99, rfl, by decide⟩
instance : FnT Tryz.prog 100 := ⟨_, _, Tryz.func100, rfl, by decide⟩
instance : FnT Tryz.prog 101 := ⟨_, _, Tryz.func101, rfl, by decide⟩
instance : FnT Tryz.prog 103 := ⟨_, _, Tryz.func103, rfl, by decide⟩
instance : FnT Tryz.prog 104 := ⟨_, _, Tryz.func104, rfl, by decide⟩
instance : FnT Tryz.prog 105 := ⟨_, _, Tryz.func105, rfl, by decide⟩
instance : FnT Tryz.prog 106 := ⟨_, _, Tryz.func106, rfl, by decide⟩
instance : FnT Tryz.prog 107 := ⟨_, _, Tryz.func107, rfl, by decide⟩
instance : FnT Tryz.prog 108 := ⟨_, _, Tryz.func108, rfl, by decide⟩
instance : FnT Tryz.prog 109 := ⟨_, _, Tryz.func109, rfl, by decide⟩
instance : FnT Tryz.prog 177 := ⟨_, _, Tryz.func177, rfl, by decide⟩
instance : FnT Tryz.prog 178 := ⟨_, _, Tryz.func178, rfl, by decide⟩
instance : FnT Tryz.prog 179 := ⟨_, _, Tryz.func179, rfl, by decide⟩
instance : FnT Tryz.prog 187 := ⟨_, _, Tryz.func187, rfl, by decide⟩
instance : FnT Tryz.prog 188 := ⟨_, _, Tryz.func188, rfl, by decide⟩
instance : FnT Tryz.prog 189 := ⟨_, _, Tryz.func189, rfl, by decide⟩
instance : FnT Tryz.prog 191 := ⟨_, _, Tryz.func191, rfl, by decide⟩
instance : FnT Tryz.prog 193 := ⟨_, _, Tryz.func193, rfl, by decide⟩
instance : FnT Tryz.prog 194 := ⟨_, _, Tryz.func194, rfl, by decide⟩
instance : FnT Tryz.prog 195 := ⟨_, _, Tryz.func195, rfl, by decide⟩
instance : FnT Tryz.prog 198 := ⟨_, _, Tryz.func198, rfl, by decide⟩
instance : FnT Tryz.prog 199 := ⟨_, _, Tryz.func199, rfl, by decide⟩
instance : FnT Tryz.prog 200 := ⟨_, _, Tryz.func200, rfl, by decide⟩
instance : FnT Tryz.prog 201 := ⟨_, _, Tryz.func201, rfl, by decide⟩
instance : FnT Tryz.prog 202 := ⟨_, _, Tryz.func202, rfl, by decide⟩
instance : FnT Tryz.prog 235 := ⟨_, _, Tryz.func235, rfl, by decide⟩
instance : FnT Tryz.prog 236 := ⟨_, _, Tryz.func236, rfl, by decide⟩
instance : FnT Tryz.prog 237 := ⟨_, _, Tryz.func237, rfl, by decide⟩
instance : FnT Tryz.prog 238 := ⟨_, _, Tryz.func238, rfl, by decide⟩
instance : FnT Tryz.prog 243 := ⟨_, _, Tryz.func243, rfl, by decide⟩
instance : FnT Tryz.prog 251 := ⟨_, _, Tryz.func251, rfl, by decide⟩
instance : FnT Tryz.prog 252 := ⟨_, _, Tryz.func252, rfl, by decide⟩
instance : FnT Tryz.prog 253 := ⟨_, _, Tryz.func253, rfl, by decide⟩
instance : FnT Tryz.prog 265 := ⟨_, _, Tryz.func265, rfl, by decide⟩
instance : FnT Tryz.prog 319 := ⟨_, _, Tryz.func319, rfl, by decide⟩
instance : FnT Tryz.prog 320 := ⟨_, _, Tryz.func320, rfl, by decide⟩
instance : FnT Tryz.prog 321 := ⟨_, _, Tryz.func321, rfl, by decide⟩
instance : FnT Tryz.prog 322 := ⟨_, _, Tryz.func322, rfl, by decide⟩
instance : FnT Tryz.prog 323 := ⟨_, _, Tryz.func323, rfl, by decide⟩
instance : FnT Tryz.prog 324 := ⟨_, _, Tryz.func324, rfl, by decide⟩
instance : FnT Tryz.prog 325 := ⟨_, _, Tryz.func325, rfl, by decide⟩
instance : FnT Tryz.prog 326 := ⟨_, _, Tryz.func326, rfl, by decide⟩
instance : FnT Tryz.prog 327 := ⟨_, _, Tryz.func327, rfl, by decide⟩
instance : FnT Tryz.prog 328 := ⟨_, _, Tryz.func328, rfl, by decide⟩
end Go.Proofs.YtngeooflfkpikaaGreatDoor
