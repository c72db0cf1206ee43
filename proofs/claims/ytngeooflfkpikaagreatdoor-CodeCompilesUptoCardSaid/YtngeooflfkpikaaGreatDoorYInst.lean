/-
  The types and the functions of this seat, as the logic of walks asks for them. (Written by a program of this repo: inst.py.)
-/
import Derived.Test.YtngeooflfkpikaaGreatDoorProg
import Derived.Test.YtngeooflfkpikaaGreatDoorYRd
namespace Go.Proofs.YtngeooflfkpikaaGreatDoor
open Go
set_option maxRecDepth 100000
instance : NAgg Tryz.prog 3 := ⟨Tryz.isAgg3⟩
instance : OneT Tryz.prog 3 (Value.int IntKind.i64 0) := ⟨Tryz.isAgg3, Tryz.sizeOf3, Tryz.zeroValue3⟩
instance : BoolT Tryz.prog 4 := ⟨Tryz.underlying4⟩
instance : StrT Tryz.prog 9 := ⟨Tryz.underlying9⟩
instance : NAgg Tryz.prog 9 := ⟨Tryz.isAgg9⟩
instance : OneT Tryz.prog 9 (Value.string { data := #[] }) := ⟨Tryz.isAgg9, Tryz.sizeOf9, Tryz.zeroValue9⟩
instance : IfT Tryz.prog 20 := ⟨_, Tryz.underlying20⟩
instance : IntT Tryz.prog 21 .i32 := ⟨Tryz.underlying21⟩
instance : SlT Tryz.prog 22 44 7 := ⟨Tryz.underlying22, Tryz.sizeOf44⟩
instance : NAgg Tryz.prog 22 := ⟨Tryz.isAgg22⟩
instance : SlT Tryz.prog 23 72 8 := ⟨Tryz.underlying23, Tryz.sizeOf72⟩
instance : NAgg Tryz.prog 23 := ⟨Tryz.isAgg23⟩
instance : OneT Tryz.prog 23 (Value.slice none 0 0) := ⟨Tryz.isAgg23, Tryz.sizeOf23, Tryz.zeroValue23⟩
instance : NotIf Tryz.prog 24 := ⟨_, Tryz.underlying24, rfl⟩
instance : IfT Tryz.prog 28 := ⟨_, Tryz.underlying28⟩
instance : ZT Tryz.prog 28 [Value.nilIface] := ⟨_, Tryz.zeroValue28, rfl⟩
instance : NAgg Tryz.prog 28 := ⟨Tryz.isAgg28⟩
instance : OneT Tryz.prog 28 (Value.nilIface) := ⟨Tryz.isAgg28, Tryz.sizeOf28, Tryz.zeroValue28⟩
instance : SlT Tryz.prog 34 39 5 := ⟨Tryz.underlying34, Tryz.sizeOf39⟩
instance : NAgg Tryz.prog 37 := ⟨Tryz.isAgg37⟩
instance : OneT Tryz.prog 37 (Value.int IntKind.i64 0) := ⟨Tryz.isAgg37, Tryz.sizeOf37, Tryz.zeroValue37⟩
instance : ZT Tryz.prog 39 [Value.int IntKind.i64 0, Value.int IntKind.i64 0, Value.int IntKind.i64 0, Value.string { data := #[] }, Value.int IntKind.i64 0] := ⟨_, Tryz.zeroValue39, rfl⟩
instance : StT Tryz.prog 39 [(0, 1), (1, 1), (2, 1), (3, 1), (4, 1)] [Value.int IntKind.i64 0, Value.int IntKind.i64 0, Value.int IntKind.i64 0, Value.string { data := #[] }, Value.int IntKind.i64 0] := ⟨fld_of Tryz.underlying39 (by kernel_rfl), fun parts => by kernel_rfl, Tryz.sizeOf39, Tryz.isAgg39, Tryz.zeroValue39⟩
instance : EqT Tryz.prog 39 [.i, .i, .i, .s, .i] := ⟨by kernel_rfl, by kernel_rfl, by kernel_rfl, by kernel_rfl⟩
instance : ZT Tryz.prog 41 [Value.int IntKind.i64 0, Value.int IntKind.i64 0, Value.int IntKind.i64 0] := ⟨_, Tryz.zeroValue41, rfl⟩
instance : StT Tryz.prog 41 [(0, 1), (1, 1), (2, 1)] [Value.int IntKind.i64 0, Value.int IntKind.i64 0, Value.int IntKind.i64 0] := ⟨fld_of Tryz.underlying41 (by kernel_rfl), fun parts => by kernel_rfl, Tryz.sizeOf41, Tryz.isAgg41, Tryz.zeroValue41⟩
instance : EqT Tryz.prog 41 [.i, .i, .i] := ⟨by kernel_rfl, by kernel_rfl, by kernel_rfl, by kernel_rfl⟩
instance : SlT Tryz.prog 42 3 1 := ⟨Tryz.underlying42, Tryz.sizeOf3⟩
instance : NAgg Tryz.prog 42 := ⟨Tryz.isAgg42⟩
instance : ZT Tryz.prog 44 [Value.int IntKind.i64 0, Value.int IntKind.i64 0, Value.int IntKind.i64 0, Value.int IntKind.i64 0, Value.int IntKind.i64 0, Value.slice none 0 0, Value.string { data := #[] }] := ⟨_, Tryz.zeroValue44, rfl⟩
instance : StT Tryz.prog 44 [(0, 1), (1, 3), (4, 1), (5, 1), (6, 1)] [Value.int IntKind.i64 0, Value.int IntKind.i64 0, Value.int IntKind.i64 0, Value.int IntKind.i64 0, Value.int IntKind.i64 0, Value.slice none 0 0, Value.string { data := #[] }] := ⟨fld_of Tryz.underlying44 (by kernel_rfl), fun parts => by kernel_rfl, Tryz.sizeOf44, Tryz.isAgg44, Tryz.zeroValue44⟩
instance : SlT Tryz.prog 65 76 2 := ⟨Tryz.underlying65, Tryz.sizeOf76⟩
instance : NAgg Tryz.prog 65 := ⟨Tryz.isAgg65⟩
instance : OneT Tryz.prog 65 (Value.slice none 0 0) := ⟨Tryz.isAgg65, Tryz.sizeOf65, Tryz.zeroValue65⟩
instance : ZT Tryz.prog 67 [Value.slice none 0 0, Value.slice none 0 0] := ⟨_, Tryz.zeroValue67, rfl⟩
instance : StT Tryz.prog 67 [(0, 1), (1, 1)] [Value.slice none 0 0, Value.slice none 0 0] := ⟨fld_of Tryz.underlying67 (by kernel_rfl), fun parts => by kernel_rfl, Tryz.sizeOf67, Tryz.isAgg67, Tryz.zeroValue67⟩
instance : ZT Tryz.prog 72 [Value.int IntKind.i64 0, Value.int IntKind.i64 0, Value.int IntKind.i64 0, Value.int IntKind.i64 0, Value.int IntKind.i64 0, Value.int IntKind.i64 0, Value.slice none 0 0, Value.string { data := #[] }] := ⟨_, Tryz.zeroValue72, rfl⟩
instance : StT Tryz.prog 72 [(0, 1), (1, 3), (4, 1), (5, 1), (6, 1), (7, 1)] [Value.int IntKind.i64 0, Value.int IntKind.i64 0, Value.int IntKind.i64 0, Value.int IntKind.i64 0, Value.int IntKind.i64 0, Value.int IntKind.i64 0, Value.slice none 0 0, Value.string { data := #[] }] := ⟨fld_of Tryz.underlying72 (by kernel_rfl), fun parts => by kernel_rfl, Tryz.sizeOf72, Tryz.isAgg72, Tryz.zeroValue72⟩
instance : SlT Tryz.prog 73 67 2 := ⟨Tryz.underlying73, Tryz.sizeOf67⟩
instance : StT Tryz.prog 76 [(0, 1), (1, 1)] [Value.int IntKind.i64 0, Value.int IntKind.i64 0] := ⟨fld_of Tryz.underlying76 (by kernel_rfl), fun parts => by kernel_rfl, Tryz.sizeOf76, Tryz.isAgg76, Tryz.zeroValue76⟩
instance : NAgg Tryz.prog 77 := ⟨Tryz.isAgg77⟩
instance : SlT Tryz.prog 78 84 3 := ⟨Tryz.underlying78, Tryz.sizeOf84⟩
instance : NAgg Tryz.prog 78 := ⟨Tryz.isAgg78⟩
instance : OneT Tryz.prog 78 (Value.slice none 0 0) := ⟨Tryz.isAgg78, Tryz.sizeOf78, Tryz.zeroValue78⟩
instance : StT Tryz.prog 80 [(0, 1), (1, 1), (2, 1), (3, 1)] [Value.slice none 0 0, Value.slice none 0 0, Value.slice none 0 0, Value.int IntKind.i64 0] := ⟨fld_of Tryz.underlying80 (by kernel_rfl), fun parts => by kernel_rfl, Tryz.sizeOf80, Tryz.isAgg80, Tryz.zeroValue80⟩
instance : ZT Tryz.prog 84 [Value.int IntKind.i64 0, Value.int IntKind.i64 0, Value.int IntKind.i64 0] := ⟨_, Tryz.zeroValue84, rfl⟩
instance : StT Tryz.prog 84 [(0, 1), (1, 1), (2, 1)] [Value.int IntKind.i64 0, Value.int IntKind.i64 0, Value.int IntKind.i64 0] := ⟨fld_of Tryz.underlying84 (by kernel_rfl), fun parts => by kernel_rfl, Tryz.sizeOf84, Tryz.isAgg84, Tryz.zeroValue84⟩
instance : NotIf Tryz.prog 88 := ⟨_, Tryz.underlying88, rfl⟩
instance : ZT Tryz.prog 93 [Value.nilIface] := ⟨_, Tryz.zeroValue93, rfl⟩
instance : NAgg Tryz.prog 93 := ⟨Tryz.isAgg93⟩
instance : OneT Tryz.prog 93 (Value.nilIface) := ⟨Tryz.isAgg93, Tryz.sizeOf93, Tryz.zeroValue93⟩
instance : NotIf Tryz.prog 146 := ⟨_, Tryz.underlying146, rfl⟩
instance : StT Tryz.prog 146 [(0, 1)] [Value.string { data := #[] }] := ⟨fld_of Tryz.underlying146 (by kernel_rfl), fun parts => by kernel_rfl, Tryz.sizeOf146, Tryz.isAgg146, Tryz.zeroValue146⟩
instance : NotIf Tryz.prog 148 := ⟨_, Tryz.underlying148, rfl⟩
instance : StT Tryz.prog 148 [(0, 1), (1, 1)] [Value.string { data := #[] }, Value.nilIface] := ⟨fld_of Tryz.underlying148 (by kernel_rfl), fun parts => by kernel_rfl, Tryz.sizeOf148, Tryz.isAgg148, Tryz.zeroValue148⟩
instance : StT Tryz.prog 159 [(0, 1), (1, 1), (2, 1)] [Value.slice none 0 0, Value.int IntKind.i64 0, Value.int IntKind.i64 0] := ⟨fld_of Tryz.underlying159 (by kernel_rfl), fun parts => by kernel_rfl, Tryz.sizeOf159, Tryz.isAgg159, Tryz.zeroValue159⟩
instance : NotIf Tryz.prog 161 := ⟨_, Tryz.underlying161, rfl⟩
instance : StT Tryz.prog 161 [(0, 1)] [Value.slice none 0 0] := ⟨fld_of Tryz.underlying161 (by kernel_rfl), fun parts => by kernel_rfl, Tryz.sizeOf161, Tryz.isAgg161, Tryz.zeroValue161⟩
instance : NotIf Tryz.prog 162 := ⟨_, Tryz.underlying162, rfl⟩
instance : StT Tryz.prog 162 [(0, 1)] [Value.string { data := #[] }] := ⟨fld_of Tryz.underlying162 (by kernel_rfl), fun parts => by kernel_rfl, Tryz.sizeOf162, Tryz.isAgg162, Tryz.zeroValue162⟩
instance : NotIf Tryz.prog 164 := ⟨_, Tryz.underlying164, rfl⟩
instance : StT Tryz.prog 164 [(0, 1)] [Value.int IntKind.i64 0] := ⟨fld_of Tryz.underlying164 (by kernel_rfl), fun parts => by kernel_rfl, Tryz.sizeOf164, Tryz.isAgg164, Tryz.zeroValue164⟩
instance : NAgg Tryz.prog 166 := ⟨Tryz.isAgg166⟩
instance : OneT Tryz.prog 166 (Value.slice none 0 0) := ⟨Tryz.isAgg166, Tryz.sizeOf166, Tryz.zeroValue166⟩
instance : ZT Tryz.prog 168 [Value.int IntKind.i64 0, Value.int IntKind.i64 0, Value.int IntKind.i64 0, Value.int IntKind.i64 0, Value.slice none 0 0] := ⟨_, Tryz.zeroValue168, rfl⟩
instance : StT Tryz.prog 168 [(0, 3), (3, 1), (4, 1)] [Value.int IntKind.i64 0, Value.int IntKind.i64 0, Value.int IntKind.i64 0, Value.int IntKind.i64 0, Value.slice none 0 0] := ⟨fld_of Tryz.underlying168 (by kernel_rfl), fun parts => by kernel_rfl, Tryz.sizeOf168, Tryz.isAgg168, Tryz.zeroValue168⟩
instance : NotIf Tryz.prog 170 := ⟨_, Tryz.underlying170, rfl⟩
instance : StT Tryz.prog 170 [(0, 5), (5, 1)] [Value.int IntKind.i64 0, Value.int IntKind.i64 0, Value.int IntKind.i64 0, Value.int IntKind.i64 0, Value.slice none 0 0, Value.nilIface] := ⟨fld_of Tryz.underlying170 (by kernel_rfl), fun parts => by kernel_rfl, Tryz.sizeOf170, Tryz.isAgg170, Tryz.zeroValue170⟩
instance : NotIf Tryz.prog 175 := ⟨_, Tryz.underlying175, rfl⟩
instance : StT Tryz.prog 175 [(0, 1), (1, 5), (6, 1)] [Value.nilIface, Value.int IntKind.i64 0, Value.int IntKind.i64 0, Value.int IntKind.i64 0, Value.int IntKind.i64 0, Value.slice none 0 0, Value.nilIface] := ⟨fld_of Tryz.underlying175 (by kernel_rfl), fun parts => by kernel_rfl, Tryz.sizeOf175, Tryz.isAgg175, Tryz.zeroValue175⟩
instance : NotIf Tryz.prog 177 := ⟨_, Tryz.underlying177, rfl⟩
instance : ZT Tryz.prog 177 [Value.nilIface, Value.slice none 0 0] := ⟨_, Tryz.zeroValue177, rfl⟩
instance : StT Tryz.prog 177 [(0, 1), (1, 1)] [Value.nilIface, Value.slice none 0 0] := ⟨fld_of Tryz.underlying177 (by kernel_rfl), fun parts => by kernel_rfl, Tryz.sizeOf177, Tryz.isAgg177, Tryz.zeroValue177⟩
instance : ElT Tryz.prog 23 72 8 [Value.int IntKind.i64 0, Value.int IntKind.i64 0, Value.int IntKind.i64 0, Value.int IntKind.i64 0, Value.int IntKind.i64 0, Value.int IntKind.i64 0, Value.slice none 0 0, Value.string { data := #[] }] 88 := elT_of (z := Value.agg #[Value.int IntKind.i64 0, Value.int IntKind.i64 0, Value.int IntKind.i64 0, Value.int IntKind.i64 0, Value.int IntKind.i64 0, Value.int IntKind.i64 0, Value.slice none 0 0, Value.string { data := #[] }]) Tryz.underlying23 (by kernel_rfl) rfl rfl (by decide)
instance : ElT Tryz.prog 34 39 5 [Value.int IntKind.i64 0, Value.int IntKind.i64 0, Value.int IntKind.i64 0, Value.string { data := #[] }, Value.int IntKind.i64 0] 48 := elT_of (z := Value.agg #[Value.int IntKind.i64 0, Value.int IntKind.i64 0, Value.int IntKind.i64 0, Value.string { data := #[] }, Value.int IntKind.i64 0]) Tryz.underlying34 (by kernel_rfl) rfl rfl (by decide)
instance : ElT Tryz.prog 42 3 1 [Value.int IntKind.i64 0] 8 := elT_of (z := Value.int IntKind.i64 0) Tryz.underlying42 (by kernel_rfl) rfl rfl (by decide)
instance : ElT Tryz.prog 65 76 2 [Value.int IntKind.i64 0, Value.int IntKind.i64 0] 16 := elT_of (z := Value.agg #[Value.int IntKind.i64 0, Value.int IntKind.i64 0]) Tryz.underlying65 (by kernel_rfl) rfl rfl (by decide)
instance : ElT Tryz.prog 73 67 2 [Value.slice none 0 0, Value.slice none 0 0] 48 := elT_of (z := Value.agg #[Value.slice none 0 0, Value.slice none 0 0]) Tryz.underlying73 (by kernel_rfl) rfl rfl (by decide)
instance : ElT Tryz.prog 78 84 3 [Value.int IntKind.i64 0, Value.int IntKind.i64 0, Value.int IntKind.i64 0] 24 := elT_of (z := Value.agg #[Value.int IntKind.i64 0, Value.int IntKind.i64 0, Value.int IntKind.i64 0]) Tryz.underlying78 (by kernel_rfl) rfl rfl (by decide)
instance : ElT Tryz.prog 107 9 1 [Value.string { data := #[] }] 16 := elT_of (z := Value.string { data := #[] }) Tryz.underlying107 (by kernel_rfl) rfl rfl (by decide)
instance : ElT Tryz.prog 166 93 1 [Value.nilIface] 16 := elT_of (z := Value.nilIface) Tryz.underlying166 (by kernel_rfl) rfl rfl (by decide)
instance : FnT Tryz.prog 7 := ⟨_, _, Tryz.func7, rfl, by decide⟩
instance : FnT Tryz.prog 8 := ⟨_, _, Tryz.func8, rfl, by decide⟩
instance : FnT Tryz.prog 9 := ⟨_, _, Tryz.func9, rfl, by decide⟩
instance : FnT Tryz.prog 10 := ⟨_, _, Tryz.func10, rfl, by decide⟩
instance : FnT Tryz.prog 15 := ⟨_, _, Tryz.func15, rfl, by decide⟩
instance : FnT Tryz.prog 16 := ⟨_, _, Tryz.func16, rfl, by decide⟩
instance : FnT Tryz.prog 21 := ⟨_, _, Tryz.func21, rfl, by decide⟩
instance : FnT Tryz.prog 22 := ⟨_, _, Tryz.func22, rfl, by decide⟩
instance : FnT Tryz.prog 23 := ⟨_, _, Tryz.func23, rfl, by decide⟩
instance : FnT Tryz.prog 24 := ⟨_, _, Tryz.func24, rfl, by decide⟩
instance : FnT Tryz.prog 25 := ⟨_, _, Tryz.func25, rfl, by decide⟩
instance : FnT Tryz.prog 26 := ⟨_, _, Tryz.func26, rfl, by decide⟩
instance : FnT Tryz.prog 27 := ⟨_, _, Tryz.func27, rfl, by decide⟩
instance : FnT Tryz.prog 28 := ⟨_, _, Tryz.func28, rfl, by decide⟩
instance : FnT Tryz.prog 30 := ⟨_, _, Tryz.func30, rfl, by decide⟩
instance : FnT Tryz.prog 34 := ⟨_, _, Tryz.func34, rfl, by decide⟩
instance : FnT Tryz.prog 38 := ⟨_, _, Tryz.func38, rfl, by decide⟩
instance : FnT Tryz.prog 40 := ⟨_, _, Tryz.func40, rfl, by decide⟩
instance : FnT Tryz.prog 41 := ⟨_, _, Tryz.func41, rfl, by decide⟩
instance : FnT Tryz.prog 72 := ⟨_, _, Tryz.func72, rfl, by decide⟩
instance : FnT Tryz.prog 73 := ⟨_, _, Tryz.func73, rfl, by decide⟩
instance : FnT Tryz.prog 74 := ⟨_, _, Tryz.func74, rfl, by decide⟩
instance : FnT Tryz.prog 75 := ⟨_, _, Tryz.func75, rfl, by decide⟩
instance : FnT Tryz.prog 76 := ⟨_, _, Tryz.func76, rfl, by decide⟩
instance : FnT Tryz.prog 77 := ⟨_, _, Tryz.func77, rfl, by decide⟩
instance : FnT Tryz.prog 78 := ⟨_, _, Tryz.func78, rfl, by decide⟩
instance : FnT Tryz.prog 81 := ⟨_, _, Tryz.func81, rfl, by decide⟩
instance : FnT Tryz.prog 87 := ⟨_, _, Tryz.func87, rfl, by decide⟩
instance : FnT Tryz.prog 88 := ⟨_, _, Tryz.func88, rfl, by decide⟩
instance : FnT Tryz.prog 89 := ⟨_, _, Tryz.func89, rfl, by decide⟩
instance : FnT Tryz.prog 90 := ⟨_, _, Tryz.func90, rfl, by decide⟩
instance : FnT Tryz.prog 96 := ⟨_, _, Tryz.func96, rfl, by decide⟩
instance : FnT Tryz.prog 97 := ⟨_, _, Tryz.func97, rfl, by decide⟩
instance : FnT Tryz.prog 98 := ⟨_, _, Tryz.func98, rfl, by decide⟩
instance : FnT Tryz.prog 99 := ⟨_, _, Tryz.func99, rfl, by decide⟩
instance : FnT Tryz.prog 100 := ⟨_, _, Tryz.func100, rfl, by decide⟩
instance : FnT Tryz.prog 101 := ⟨_, _, Tryz.func101, rfl, by decide⟩
instance : FnT Tryz.prog 170 := ⟨_, _, Tryz.func170, rfl, by decide⟩
instance : FnT Tryz.prog 172 := ⟨_, _, Tryz.func172, rfl, by decide⟩
instance : FnT Tryz.prog 180 := ⟨_, _, Tryz.func180, rfl, by decide⟩
instance : FnT Tryz.prog 181 := ⟨_, _, Tryz.func181, rfl, by decide⟩
instance : FnT Tryz.prog 182 := ⟨_, _, Tryz.func182, rfl, by decide⟩
instance : FnT Tryz.prog 183 := ⟨_, _, Tryz.func183, rfl, by decide⟩
instance : FnT Tryz.prog 187 := ⟨_, _, Tryz.func187, rfl, by decide⟩
instance : FnT Tryz.prog 188 := ⟨_, _, Tryz.func188, rfl, by decide⟩
instance : FnT Tryz.prog 191 := ⟨_, _, Tryz.func191, rfl, by decide⟩
instance : FnT Tryz.prog 193 := ⟨_, _, Tryz.func193, rfl, by decide⟩
instance : FnT Tryz.prog 194 := ⟨_, _, Tryz.func194, rfl, by decide⟩
instance : FnT Tryz.prog 199 := ⟨_, _, Tryz.func199, rfl, by decide⟩
instance : FnT Tryz.prog 239 := ⟨_, _, Tryz.func239, rfl, by decide⟩
instance : FnT Tryz.prog 240 := ⟨_, _, Tryz.func240, rfl, by decide⟩
instance : FnT Tryz.prog 241 := ⟨_, _, Tryz.func241, rfl, by decide⟩
instance : FnT Tryz.prog 243 := ⟨_, _, Tryz.func243, rfl, by decide⟩
instance : FnT Tryz.prog 266 := ⟨_, _, Tryz.func266, rfl, by decide⟩
end Go.Proofs.YtngeooflfkpikaaGreatDoor
