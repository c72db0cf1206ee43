/-
  The types and the functions of this seat, as the logic of walks asks for them. (Written by a program of this repo: inst.py.)
-/
import Derived.Test.YtanbifmcnkhdhaaGreatDoorProg
import Derived.Test.YtanbifmcnkhdhaaGreatDoorRd
namespace Go.Proofs.YtanbifmcnkhdhaaGreatDoor
open Go
set_option maxRecDepth 100000
instance : NotIf Tryz.prog 2 := ⟨_, Tryz.underlying2, rfl⟩
instance : IntT Tryz.prog 2 .i64 := ⟨Tryz.underlying2⟩
instance : ZT Tryz.prog 2 [Value.int IntKind.i64 0] := ⟨_, Tryz.zeroValue2, rfl⟩
instance : NAgg Tryz.prog 2 := ⟨Tryz.isAgg2⟩
instance : OneT Tryz.prog 2 (Value.int IntKind.i64 0) := ⟨Tryz.isAgg2, Tryz.sizeOf2, Tryz.zeroValue2⟩
instance : ZV Tryz.prog 2 (Value.int IntKind.i64 0) := ⟨Tryz.zeroValue2⟩
instance : NotIf Tryz.prog 3 := ⟨_, Tryz.underlying3, rfl⟩
instance : IntT Tryz.prog 3 .i64 := ⟨Tryz.underlying3⟩
instance : ZT Tryz.prog 3 [Value.int IntKind.i64 0] := ⟨_, Tryz.zeroValue3, rfl⟩
instance : NAgg Tryz.prog 3 := ⟨Tryz.isAgg3⟩
instance : OneT Tryz.prog 3 (Value.int IntKind.i64 0) := ⟨Tryz.isAgg3, Tryz.sizeOf3, Tryz.zeroValue3⟩
instance : ZV Tryz.prog 3 (Value.int IntKind.i64 0) := ⟨Tryz.zeroValue3⟩
instance : NotIf Tryz.prog 4 := ⟨_, Tryz.underlying4, rfl⟩
instance : BoolT Tryz.prog 4 := ⟨Tryz.underlying4⟩
instance : ZT Tryz.prog 4 [Value.bool false] := ⟨_, Tryz.zeroValue4, rfl⟩
instance : NAgg Tryz.prog 4 := ⟨Tryz.isAgg4⟩
instance : OneT Tryz.prog 4 (Value.bool false) := ⟨Tryz.isAgg4, Tryz.sizeOf4, Tryz.zeroValue4⟩
instance : ZV Tryz.prog 4 (Value.bool false) := ⟨Tryz.zeroValue4⟩
instance : NotIf Tryz.prog 5 := ⟨_, Tryz.underlying5, rfl⟩
instance : IntT Tryz.prog 5 .u8 := ⟨Tryz.underlying5⟩
instance : ZT Tryz.prog 5 [Value.int IntKind.u8 0] := ⟨_, Tryz.zeroValue5, rfl⟩
instance : NAgg Tryz.prog 5 := ⟨Tryz.isAgg5⟩
instance : OneT Tryz.prog 5 (Value.int IntKind.u8 0) := ⟨Tryz.isAgg5, Tryz.sizeOf5, Tryz.zeroValue5⟩
instance : ZV Tryz.prog 5 (Value.int IntKind.u8 0) := ⟨Tryz.zeroValue5⟩
instance : NotIf Tryz.prog 9 := ⟨_, Tryz.underlying9, rfl⟩
instance : StrT Tryz.prog 9 := ⟨Tryz.underlying9⟩
instance : ZT Tryz.prog 9 [Value.string { data := #[] }] := ⟨_, Tryz.zeroValue9, rfl⟩
instance : NAgg Tryz.prog 9 := ⟨Tryz.isAgg9⟩
instance : OneT Tryz.prog 9 (Value.string { data := #[] }) := ⟨Tryz.isAgg9, Tryz.sizeOf9, Tryz.zeroValue9⟩
instance : ZV Tryz.prog 9 (Value.string { data := #[] }) := ⟨Tryz.zeroValue9⟩
instance : NotIf Tryz.prog 12 := ⟨_, Tryz.underlying12, rfl⟩
instance : IntT Tryz.prog 12 .u64 := ⟨Tryz.underlying12⟩
instance : ZT Tryz.prog 12 [Value.int IntKind.u64 0] := ⟨_, Tryz.zeroValue12, rfl⟩
instance : NAgg Tryz.prog 12 := ⟨Tryz.isAgg12⟩
instance : OneT Tryz.prog 12 (Value.int IntKind.u64 0) := ⟨Tryz.isAgg12, Tryz.sizeOf12, Tryz.zeroValue12⟩
instance : ZV Tryz.prog 12 (Value.int IntKind.u64 0) := ⟨Tryz.zeroValue12⟩
instance : IfT Tryz.prog 20 := ⟨_, Tryz.underlying20⟩
instance : ZT Tryz.prog 20 [Value.nilIface] := ⟨_, Tryz.zeroValue20, rfl⟩
instance : NAgg Tryz.prog 20 := ⟨Tryz.isAgg20⟩
instance : OneT Tryz.prog 20 (Value.nilIface) := ⟨Tryz.isAgg20, Tryz.sizeOf20, Tryz.zeroValue20⟩
instance : ZV Tryz.prog 20 (Value.nilIface) := ⟨Tryz.zeroValue20⟩
instance : NotIf Tryz.prog 21 := ⟨_, Tryz.underlying21, rfl⟩
instance : IntT Tryz.prog 21 .i32 := ⟨Tryz.underlying21⟩
instance : ZT Tryz.prog 21 [Value.int IntKind.i32 0] := ⟨_, Tryz.zeroValue21, rfl⟩
instance : NAgg Tryz.prog 21 := ⟨Tryz.isAgg21⟩
instance : OneT Tryz.prog 21 (Value.int IntKind.i32 0) := ⟨Tryz.isAgg21, Tryz.sizeOf21, Tryz.zeroValue21⟩
instance : ZV Tryz.prog 21 (Value.int IntKind.i32 0) := ⟨Tryz.zeroValue21⟩
instance : SlT Tryz.prog 22 30 5 := ⟨Tryz.underlying22, Tryz.sizeOf30⟩
instance : NotIf Tryz.prog 22 := ⟨_, Tryz.underlying22, rfl⟩
instance : ZT Tryz.prog 22 [Value.slice none 0 0] := ⟨_, Tryz.zeroValue22, rfl⟩
instance : NAgg Tryz.prog 22 := ⟨Tryz.isAgg22⟩
instance : OneT Tryz.prog 22 (Value.slice none 0 0) := ⟨Tryz.isAgg22, Tryz.sizeOf22, Tryz.zeroValue22⟩
instance : ZV Tryz.prog 22 (Value.slice none 0 0) := ⟨Tryz.zeroValue22⟩
instance : SlT Tryz.prog 23 35 7 := ⟨Tryz.underlying23, Tryz.sizeOf35⟩
instance : NotIf Tryz.prog 23 := ⟨_, Tryz.underlying23, rfl⟩
instance : ZT Tryz.prog 23 [Value.slice none 0 0] := ⟨_, Tryz.zeroValue23, rfl⟩
instance : NAgg Tryz.prog 23 := ⟨Tryz.isAgg23⟩
instance : OneT Tryz.prog 23 (Value.slice none 0 0) := ⟨Tryz.isAgg23, Tryz.sizeOf23, Tryz.zeroValue23⟩
instance : ZV Tryz.prog 23 (Value.slice none 0 0) := ⟨Tryz.zeroValue23⟩
instance : IfT Tryz.prog 24 := ⟨_, Tryz.underlying24⟩
instance : ZT Tryz.prog 24 [Value.nilIface] := ⟨_, Tryz.zeroValue24, rfl⟩
instance : NAgg Tryz.prog 24 := ⟨Tryz.isAgg24⟩
instance : OneT Tryz.prog 24 (Value.nilIface) := ⟨Tryz.isAgg24, Tryz.sizeOf24, Tryz.zeroValue24⟩
instance : ZV Tryz.prog 24 (Value.nilIface) := ⟨Tryz.zeroValue24⟩
instance : IfT Tryz.prog 25 := ⟨_, Tryz.underlying25⟩
instance : ZT Tryz.prog 25 [Value.nilIface] := ⟨_, Tryz.zeroValue25, rfl⟩
instance : NAgg Tryz.prog 25 := ⟨Tryz.isAgg25⟩
instance : OneT Tryz.prog 25 (Value.nilIface) := ⟨Tryz.isAgg25, Tryz.sizeOf25, Tryz.zeroValue25⟩
instance : ZV Tryz.prog 25 (Value.nilIface) := ⟨Tryz.zeroValue25⟩
instance : NotIf Tryz.prog 28 := ⟨_, Tryz.underlying28, rfl⟩
instance : IntT Tryz.prog 28 .i64 := ⟨Tryz.underlying28⟩
instance : ZT Tryz.prog 28 [Value.int IntKind.i64 0] := ⟨_, Tryz.zeroValue28, rfl⟩
instance : NAgg Tryz.prog 28 := ⟨Tryz.isAgg28⟩
instance : OneT Tryz.prog 28 (Value.int IntKind.i64 0) := ⟨Tryz.isAgg28, Tryz.sizeOf28, Tryz.zeroValue28⟩
instance : ZV Tryz.prog 28 (Value.int IntKind.i64 0) := ⟨Tryz.zeroValue28⟩
instance : NotIf Tryz.prog 30 := ⟨_, Tryz.underlying30, rfl⟩
instance : ZT Tryz.prog 30 [Value.int IntKind.i64 0, Value.int IntKind.i64 0, Value.int IntKind.i64 0, Value.string { data := #[] }, Value.int IntKind.i64 0] := ⟨_, Tryz.zeroValue30, rfl⟩
instance : StT Tryz.prog 30 [(0, 1), (1, 1), (2, 1), (3, 1), (4, 1)] [Value.int IntKind.i64 0, Value.int IntKind.i64 0, Value.int IntKind.i64 0, Value.string { data := #[] }, Value.int IntKind.i64 0] := ⟨fld_of Tryz.underlying30 (by kernel_rfl), fun parts => by kernel_rfl, Tryz.sizeOf30, Tryz.isAgg30, Tryz.zeroValue30⟩
instance : ZV Tryz.prog 30 (Value.agg #[Value.int IntKind.i64 0, Value.int IntKind.i64 0, Value.int IntKind.i64 0, Value.string { data := #[] }, Value.int IntKind.i64 0]) := ⟨Tryz.zeroValue30⟩
instance : EqT Tryz.prog 30 [.i, .i, .i, .s, .i] := ⟨by kernel_rfl, by kernel_rfl, by kernel_rfl, by kernel_rfl⟩
instance : FldT Tryz.prog 30 [some 0, some 1, some 2, some 3, some 4] := fldT_of Tryz.underlying30 (by kernel_rfl)
instance : NotIf Tryz.prog 32 := ⟨_, Tryz.underlying32, rfl⟩
instance : ZT Tryz.prog 32 [Value.int IntKind.i64 0, Value.int IntKind.i64 0, Value.int IntKind.i64 0] := ⟨_, Tryz.zeroValue32, rfl⟩
instance : StT Tryz.prog 32 [(0, 1), (1, 1), (2, 1)] [Value.int IntKind.i64 0, Value.int IntKind.i64 0, Value.int IntKind.i64 0] := ⟨fld_of Tryz.underlying32 (by kernel_rfl), fun parts => by kernel_rfl, Tryz.sizeOf32, Tryz.isAgg32, Tryz.zeroValue32⟩
instance : ZV Tryz.prog 32 (Value.agg #[Value.int IntKind.i64 0, Value.int IntKind.i64 0, Value.int IntKind.i64 0]) := ⟨Tryz.zeroValue32⟩
instance : EqT Tryz.prog 32 [.i, .i, .i] := ⟨by kernel_rfl, by kernel_rfl, by kernel_rfl, by kernel_rfl⟩
instance : FldT Tryz.prog 32 [some 0, some 1, some 2] := fldT_of Tryz.underlying32 (by kernel_rfl)
instance : SlT Tryz.prog 33 3 1 := ⟨Tryz.underlying33, Tryz.sizeOf3⟩
instance : NotIf Tryz.prog 33 := ⟨_, Tryz.underlying33, rfl⟩
instance : ZT Tryz.prog 33 [Value.slice none 0 0] := ⟨_, Tryz.zeroValue33, rfl⟩
instance : NAgg Tryz.prog 33 := ⟨Tryz.isAgg33⟩
instance : OneT Tryz.prog 33 (Value.slice none 0 0) := ⟨Tryz.isAgg33, Tryz.sizeOf33, Tryz.zeroValue33⟩
instance : ZV Tryz.prog 33 (Value.slice none 0 0) := ⟨Tryz.zeroValue33⟩
instance : NotIf Tryz.prog 35 := ⟨_, Tryz.underlying35, rfl⟩
instance : ZT Tryz.prog 35 [Value.int IntKind.i64 0, Value.int IntKind.i64 0, Value.int IntKind.i64 0, Value.int IntKind.i64 0, Value.int IntKind.i64 0, Value.slice none 0 0, Value.string { data := #[] }] := ⟨_, Tryz.zeroValue35, rfl⟩
instance : StT Tryz.prog 35 [(0, 1), (1, 3), (4, 1), (5, 1), (6, 1)] [Value.int IntKind.i64 0, Value.int IntKind.i64 0, Value.int IntKind.i64 0, Value.int IntKind.i64 0, Value.int IntKind.i64 0, Value.slice none 0 0, Value.string { data := #[] }] := ⟨fld_of Tryz.underlying35 (by kernel_rfl), fun parts => by kernel_rfl, Tryz.sizeOf35, Tryz.isAgg35, Tryz.zeroValue35⟩
instance : ZV Tryz.prog 35 (Value.agg #[Value.int IntKind.i64 0, Value.int IntKind.i64 0, Value.int IntKind.i64 0, Value.int IntKind.i64 0, Value.int IntKind.i64 0, Value.slice none 0 0, Value.string { data := #[] }]) := ⟨Tryz.zeroValue35⟩
instance : FldT Tryz.prog 35 [some 0, none, some 4, some 5, some 6] := fldT_of Tryz.underlying35 (by kernel_rfl)
instance : NotIf Tryz.prog 36 := ⟨_, Tryz.underlying36, rfl⟩
instance : IntT Tryz.prog 36 .i64 := ⟨Tryz.underlying36⟩
instance : ZT Tryz.prog 36 [Value.int IntKind.i64 0] := ⟨_, Tryz.zeroValue36, rfl⟩
instance : NAgg Tryz.prog 36 := ⟨Tryz.isAgg36⟩
instance : OneT Tryz.prog 36 (Value.int IntKind.i64 0) := ⟨Tryz.isAgg36, Tryz.sizeOf36, Tryz.zeroValue36⟩
instance : ZV Tryz.prog 36 (Value.int IntKind.i64 0) := ⟨Tryz.zeroValue36⟩
instance : SlT Tryz.prog 50 93 8 := ⟨Tryz.underlying50, Tryz.sizeOf93⟩
instance : NotIf Tryz.prog 50 := ⟨_, Tryz.underlying50, rfl⟩
instance : ZT Tryz.prog 50 [Value.slice none 0 0] := ⟨_, Tryz.zeroValue50, rfl⟩
instance : NAgg Tryz.prog 50 := ⟨Tryz.isAgg50⟩
instance : OneT Tryz.prog 50 (Value.slice none 0 0) := ⟨Tryz.isAgg50, Tryz.sizeOf50, Tryz.zeroValue50⟩
instance : ZV Tryz.prog 50 (Value.slice none 0 0) := ⟨Tryz.zeroValue50⟩
instance : NotIf Tryz.prog 60 := ⟨_, Tryz.underlying60, rfl⟩
instance : IntT Tryz.prog 60 .i64 := ⟨Tryz.underlying60⟩
instance : ZT Tryz.prog 60 [Value.int IntKind.i64 0] := ⟨_, Tryz.zeroValue60, rfl⟩
instance : NAgg Tryz.prog 60 := ⟨Tryz.isAgg60⟩
instance : OneT Tryz.prog 60 (Value.int IntKind.i64 0) := ⟨Tryz.isAgg60, Tryz.sizeOf60, Tryz.zeroValue60⟩
instance : ZV Tryz.prog 60 (Value.int IntKind.i64 0) := ⟨Tryz.zeroValue60⟩
instance : NotIf Tryz.prog 61 := ⟨_, Tryz.underlying61, rfl⟩
instance : ZT Tryz.prog 61 [Value.pointer none] := ⟨_, Tryz.zeroValue61, rfl⟩
instance : NAgg Tryz.prog 61 := ⟨Tryz.isAgg61⟩
instance : OneT Tryz.prog 61 (Value.pointer none) := ⟨Tryz.isAgg61, Tryz.sizeOf61, Tryz.zeroValue61⟩
instance : ZV Tryz.prog 61 (Value.pointer none) := ⟨Tryz.zeroValue61⟩
instance : NotIf Tryz.prog 63 := ⟨_, Tryz.underlying63, rfl⟩
instance : ZT Tryz.prog 63 [Value.slice none 0 0, Value.int IntKind.i64 0, Value.int IntKind.i64 0] := ⟨_, Tryz.zeroValue63, rfl⟩
instance : StT Tryz.prog 63 [(0, 1), (1, 1), (2, 1)] [Value.slice none 0 0, Value.int IntKind.i64 0, Value.int IntKind.i64 0] := ⟨fld_of Tryz.underlying63 (by kernel_rfl), fun parts => by kernel_rfl, Tryz.sizeOf63, Tryz.isAgg63, Tryz.zeroValue63⟩
instance : ZV Tryz.prog 63 (Value.agg #[Value.slice none 0 0, Value.int IntKind.i64 0, Value.int IntKind.i64 0]) := ⟨Tryz.zeroValue63⟩
instance : FldT Tryz.prog 63 [some 0, some 1, some 2] := fldT_of Tryz.underlying63 (by kernel_rfl)
instance : IfT Tryz.prog 64 := ⟨_, Tryz.underlying64⟩
instance : ZT Tryz.prog 64 [Value.nilIface] := ⟨_, Tryz.zeroValue64, rfl⟩
instance : NAgg Tryz.prog 64 := ⟨Tryz.isAgg64⟩
instance : OneT Tryz.prog 64 (Value.nilIface) := ⟨Tryz.isAgg64, Tryz.sizeOf64, Tryz.zeroValue64⟩
instance : ZV Tryz.prog 64 (Value.nilIface) := ⟨Tryz.zeroValue64⟩
instance : IfT Tryz.prog 65 := ⟨_, Tryz.underlying65⟩
instance : ZT Tryz.prog 65 [Value.nilIface] := ⟨_, Tryz.zeroValue65, rfl⟩
instance : NAgg Tryz.prog 65 := ⟨Tryz.isAgg65⟩
instance : OneT Tryz.prog 65 (Value.nilIface) := ⟨Tryz.isAgg65, Tryz.sizeOf65, Tryz.zeroValue65⟩
instance : ZV Tryz.prog 65 (Value.nilIface) := ⟨Tryz.zeroValue65⟩
instance : NotIf Tryz.prog 82 := ⟨_, Tryz.underlying82, rfl⟩
instance : ZT Tryz.prog 82 [Value.pointer none] := ⟨_, Tryz.zeroValue82, rfl⟩
instance : NAgg Tryz.prog 82 := ⟨Tryz.isAgg82⟩
instance : OneT Tryz.prog 82 (Value.pointer none) := ⟨Tryz.isAgg82, Tryz.sizeOf82, Tryz.zeroValue82⟩
instance : ZV Tryz.prog 82 (Value.pointer none) := ⟨Tryz.zeroValue82⟩
instance : NotIf Tryz.prog 84 := ⟨_, Tryz.underlying84, rfl⟩
instance : ZT Tryz.prog 84 [Value.slice none 0 0] := ⟨_, Tryz.zeroValue84, rfl⟩
instance : StT Tryz.prog 84 [(0, 1)] [Value.slice none 0 0] := ⟨fld_of Tryz.underlying84 (by kernel_rfl), fun parts => by kernel_rfl, Tryz.sizeOf84, Tryz.isAgg84, Tryz.zeroValue84⟩
instance : ZV Tryz.prog 84 (Value.agg #[Value.slice none 0 0]) := ⟨Tryz.zeroValue84⟩
instance : FldT Tryz.prog 84 [some 0] := fldT_of Tryz.underlying84 (by kernel_rfl)
instance : SlT Tryz.prog 86 97 2 := ⟨Tryz.underlying86, Tryz.sizeOf97⟩
instance : NotIf Tryz.prog 86 := ⟨_, Tryz.underlying86, rfl⟩
instance : ZT Tryz.prog 86 [Value.slice none 0 0] := ⟨_, Tryz.zeroValue86, rfl⟩
instance : NAgg Tryz.prog 86 := ⟨Tryz.isAgg86⟩
instance : OneT Tryz.prog 86 (Value.slice none 0 0) := ⟨Tryz.isAgg86, Tryz.sizeOf86, Tryz.zeroValue86⟩
instance : ZV Tryz.prog 86 (Value.slice none 0 0) := ⟨Tryz.zeroValue86⟩
instance : NotIf Tryz.prog 88 := ⟨_, Tryz.underlying88, rfl⟩
instance : ZT Tryz.prog 88 [Value.slice none 0 0, Value.slice none 0 0] := ⟨_, Tryz.zeroValue88, rfl⟩
instance : StT Tryz.prog 88 [(0, 1), (1, 1)] [Value.slice none 0 0, Value.slice none 0 0] := ⟨fld_of Tryz.underlying88 (by kernel_rfl), fun parts => by kernel_rfl, Tryz.sizeOf88, Tryz.isAgg88, Tryz.zeroValue88⟩
instance : ZV Tryz.prog 88 (Value.agg #[Value.slice none 0 0, Value.slice none 0 0]) := ⟨Tryz.zeroValue88⟩
instance : FldT Tryz.prog 88 [some 0, some 1] := fldT_of Tryz.underlying88 (by kernel_rfl)
instance : NotIf Tryz.prog 93 := ⟨_, Tryz.underlying93, rfl⟩
instance : ZT Tryz.prog 93 [Value.int IntKind.i64 0, Value.int IntKind.i64 0, Value.int IntKind.i64 0, Value.int IntKind.i64 0, Value.int IntKind.i64 0, Value.int IntKind.i64 0, Value.slice none 0 0, Value.string { data := #[] }] := ⟨_, Tryz.zeroValue93, rfl⟩
instance : StT Tryz.prog 93 [(0, 1), (1, 3), (4, 1), (5, 1), (6, 1), (7, 1)] [Value.int IntKind.i64 0, Value.int IntKind.i64 0, Value.int IntKind.i64 0, Value.int IntKind.i64 0, Value.int IntKind.i64 0, Value.int IntKind.i64 0, Value.slice none 0 0, Value.string { data := #[] }] := ⟨fld_of Tryz.underlying93 (by kernel_rfl), fun parts => by kernel_rfl, Tryz.sizeOf93, Tryz.isAgg93, Tryz.zeroValue93⟩
instance : ZV Tryz.prog 93 (Value.agg #[Value.int IntKind.i64 0, Value.int IntKind.i64 0, Value.int IntKind.i64 0, Value.int IntKind.i64 0, Value.int IntKind.i64 0, Value.int IntKind.i64 0, Value.slice none 0 0, Value.string { data := #[] }]) := ⟨Tryz.zeroValue93⟩
instance : FldT Tryz.prog 93 [some 0, none, some 4, some 5, some 6, some 7] := fldT_of Tryz.underlying93 (by kernel_rfl)
instance : SlT Tryz.prog 94 88 2 := ⟨Tryz.underlying94, Tryz.sizeOf88⟩
instance : NotIf Tryz.prog 94 := ⟨_, Tryz.underlying94, rfl⟩
instance : ZT Tryz.prog 94 [Value.slice none 0 0] := ⟨_, Tryz.zeroValue94, rfl⟩
instance : NAgg Tryz.prog 94 := ⟨Tryz.isAgg94⟩
instance : OneT Tryz.prog 94 (Value.slice none 0 0) := ⟨Tryz.isAgg94, Tryz.sizeOf94, Tryz.zeroValue94⟩
instance : ZV Tryz.prog 94 (Value.slice none 0 0) := ⟨Tryz.zeroValue94⟩
instance : NotIf Tryz.prog 97 := ⟨_, Tryz.underlying97, rfl⟩
instance : ZT Tryz.prog 97 [Value.int IntKind.i64 0, Value.int IntKind.i64 0] := ⟨_, Tryz.zeroValue97, rfl⟩
instance : StT Tryz.prog 97 [(0, 1), (1, 1)] [Value.int IntKind.i64 0, Value.int IntKind.i64 0] := ⟨fld_of Tryz.underlying97 (by kernel_rfl), fun parts => by kernel_rfl, Tryz.sizeOf97, Tryz.isAgg97, Tryz.zeroValue97⟩
instance : ZV Tryz.prog 97 (Value.agg #[Value.int IntKind.i64 0, Value.int IntKind.i64 0]) := ⟨Tryz.zeroValue97⟩
instance : EqT Tryz.prog 97 [.i, .i] := ⟨by kernel_rfl, by kernel_rfl, by kernel_rfl, by kernel_rfl⟩
instance : FldT Tryz.prog 97 [some 0, some 1] := fldT_of Tryz.underlying97 (by kernel_rfl)
instance : NotIf Tryz.prog 98 := ⟨_, Tryz.underlying98, rfl⟩
instance : ZT Tryz.prog 98 [Value.pointer none] := ⟨_, Tryz.zeroValue98, rfl⟩
instance : NAgg Tryz.prog 98 := ⟨Tryz.isAgg98⟩
instance : OneT Tryz.prog 98 (Value.pointer none) := ⟨Tryz.isAgg98, Tryz.sizeOf98, Tryz.zeroValue98⟩
instance : ZV Tryz.prog 98 (Value.pointer none) := ⟨Tryz.zeroValue98⟩
instance : SlT Tryz.prog 99 105 3 := ⟨Tryz.underlying99, Tryz.sizeOf105⟩
instance : NotIf Tryz.prog 99 := ⟨_, Tryz.underlying99, rfl⟩
instance : ZT Tryz.prog 99 [Value.slice none 0 0] := ⟨_, Tryz.zeroValue99, rfl⟩
instance : NAgg Tryz.prog 99 := ⟨Tryz.isAgg99⟩
instance : OneT Tryz.prog 99 (Value.slice none 0 0) := ⟨Tryz.isAgg99, Tryz.sizeOf99, Tryz.zeroValue99⟩
instance : ZV Tryz.prog 99 (Value.slice none 0 0) := ⟨Tryz.zeroValue99⟩
instance : NotIf Tryz.prog 101 := ⟨_, Tryz.underlying101, rfl⟩
instance : ZT Tryz.prog 101 [Value.slice none 0 0, Value.slice none 0 0, Value.slice none 0 0, Value.int IntKind.i64 0] := ⟨_, Tryz.zeroValue101, rfl⟩
instance : StT Tryz.prog 101 [(0, 1), (1, 1), (2, 1), (3, 1)] [Value.slice none 0 0, Value.slice none 0 0, Value.slice none 0 0, Value.int IntKind.i64 0] := ⟨fld_of Tryz.underlying101 (by kernel_rfl), fun parts => by kernel_rfl, Tryz.sizeOf101, Tryz.isAgg101, Tryz.zeroValue101⟩
instance : ZV Tryz.prog 101 (Value.agg #[Value.slice none 0 0, Value.slice none 0 0, Value.slice none 0 0, Value.int IntKind.i64 0]) := ⟨Tryz.zeroValue101⟩
instance : FldT Tryz.prog 101 [some 0, some 1, some 2, some 3] := fldT_of Tryz.underlying101 (by kernel_rfl)
instance : NotIf Tryz.prog 105 := ⟨_, Tryz.underlying105, rfl⟩
instance : ZT Tryz.prog 105 [Value.int IntKind.i64 0, Value.int IntKind.i64 0, Value.int IntKind.i64 0] := ⟨_, Tryz.zeroValue105, rfl⟩
instance : StT Tryz.prog 105 [(0, 1), (1, 1), (2, 1)] [Value.int IntKind.i64 0, Value.int IntKind.i64 0, Value.int IntKind.i64 0] := ⟨fld_of Tryz.underlying105 (by kernel_rfl), fun parts => by kernel_rfl, Tryz.sizeOf105, Tryz.isAgg105, Tryz.zeroValue105⟩
instance : ZV Tryz.prog 105 (Value.agg #[Value.int IntKind.i64 0, Value.int IntKind.i64 0, Value.int IntKind.i64 0]) := ⟨Tryz.zeroValue105⟩
instance : EqT Tryz.prog 105 [.i, .i, .i] := ⟨by kernel_rfl, by kernel_rfl, by kernel_rfl, by kernel_rfl⟩
instance : FldT Tryz.prog 105 [some 0, some 1, some 2] := fldT_of Tryz.underlying105 (by kernel_rfl)
instance : SlT Tryz.prog 107 9 1 := ⟨Tryz.underlying107, Tryz.sizeOf9⟩
instance : NotIf Tryz.prog 107 := ⟨_, Tryz.underlying107, rfl⟩
instance : ZT Tryz.prog 107 [Value.slice none 0 0] := ⟨_, Tryz.zeroValue107, rfl⟩
instance : NAgg Tryz.prog 107 := ⟨Tryz.isAgg107⟩
instance : OneT Tryz.prog 107 (Value.slice none 0 0) := ⟨Tryz.isAgg107, Tryz.sizeOf107, Tryz.zeroValue107⟩
instance : ZV Tryz.prog 107 (Value.slice none 0 0) := ⟨Tryz.zeroValue107⟩
instance : NotIf Tryz.prog 111 := ⟨_, Tryz.underlying111, rfl⟩
instance : ZT Tryz.prog 111 [Value.int IntKind.i64 0, Value.int IntKind.i64 0] := ⟨_, Tryz.zeroValue111, rfl⟩
instance : StT Tryz.prog 111 [(0, 1), (1, 1)] [Value.int IntKind.i64 0, Value.int IntKind.i64 0] := ⟨fld_of Tryz.underlying111 (by kernel_rfl), fun parts => by kernel_rfl, Tryz.sizeOf111, Tryz.isAgg111, Tryz.zeroValue111⟩
instance : ZV Tryz.prog 111 (Value.agg #[Value.int IntKind.i64 0, Value.int IntKind.i64 0]) := ⟨Tryz.zeroValue111⟩
instance : EqT Tryz.prog 111 [.i, .i] := ⟨by kernel_rfl, by kernel_rfl, by kernel_rfl, by kernel_rfl⟩
instance : FldT Tryz.prog 111 [some 0, some 1] := fldT_of Tryz.underlying111 (by kernel_rfl)
instance : NotIf Tryz.prog 112 := ⟨_, Tryz.underlying112, rfl⟩
instance : ZT Tryz.prog 112 [Value.pointer none] := ⟨_, Tryz.zeroValue112, rfl⟩
instance : NAgg Tryz.prog 112 := ⟨Tryz.isAgg112⟩
instance : OneT Tryz.prog 112 (Value.pointer none) := ⟨Tryz.isAgg112, Tryz.sizeOf112, Tryz.zeroValue112⟩
instance : ZV Tryz.prog 112 (Value.pointer none) := ⟨Tryz.zeroValue112⟩
instance : NotIf Tryz.prog 114 := ⟨_, Tryz.underlying114, rfl⟩
instance : ZT Tryz.prog 114 [Value.string { data := #[] }, Value.int IntKind.i64 0, Value.slice none 0 0] := ⟨_, Tryz.zeroValue114, rfl⟩
instance : StT Tryz.prog 114 [(0, 1), (1, 1), (2, 1)] [Value.string { data := #[] }, Value.int IntKind.i64 0, Value.slice none 0 0] := ⟨fld_of Tryz.underlying114 (by kernel_rfl), fun parts => by kernel_rfl, Tryz.sizeOf114, Tryz.isAgg114, Tryz.zeroValue114⟩
instance : ZV Tryz.prog 114 (Value.agg #[Value.string { data := #[] }, Value.int IntKind.i64 0, Value.slice none 0 0]) := ⟨Tryz.zeroValue114⟩
instance : FldT Tryz.prog 114 [some 0, some 1, some 2] := fldT_of Tryz.underlying114 (by kernel_rfl)
instance : NotIf Tryz.prog 116 := ⟨_, Tryz.underlying116, rfl⟩
instance : ZT Tryz.prog 116 [Value.string { data := #[] }] := ⟨_, Tryz.zeroValue116, rfl⟩
instance : StT Tryz.prog 116 [(0, 1)] [Value.string { data := #[] }] := ⟨fld_of Tryz.underlying116 (by kernel_rfl), fun parts => by kernel_rfl, Tryz.sizeOf116, Tryz.isAgg116, Tryz.zeroValue116⟩
instance : ZV Tryz.prog 116 (Value.agg #[Value.string { data := #[] }]) := ⟨Tryz.zeroValue116⟩
instance : EqT Tryz.prog 116 [.s] := ⟨by kernel_rfl, by kernel_rfl, by kernel_rfl, by kernel_rfl⟩
instance : FldT Tryz.prog 116 [some 0] := fldT_of Tryz.underlying116 (by kernel_rfl)
instance : NotIf Tryz.prog 118 := ⟨_, Tryz.underlying118, rfl⟩
instance : ZT Tryz.prog 118 [Value.string { data := #[] }, Value.nilIface] := ⟨_, Tryz.zeroValue118, rfl⟩
instance : StT Tryz.prog 118 [(0, 1), (1, 1)] [Value.string { data := #[] }, Value.nilIface] := ⟨fld_of Tryz.underlying118 (by kernel_rfl), fun parts => by kernel_rfl, Tryz.sizeOf118, Tryz.isAgg118, Tryz.zeroValue118⟩
instance : ZV Tryz.prog 118 (Value.agg #[Value.string { data := #[] }, Value.nilIface]) := ⟨Tryz.zeroValue118⟩
instance : FldT Tryz.prog 118 [none, some 1] := fldT_of Tryz.underlying118 (by kernel_rfl)
instance : NotIf Tryz.prog 128 := ⟨_, Tryz.underlying128, rfl⟩
instance : ZT Tryz.prog 128 [Value.pointer none] := ⟨_, Tryz.zeroValue128, rfl⟩
instance : NAgg Tryz.prog 128 := ⟨Tryz.isAgg128⟩
instance : OneT Tryz.prog 128 (Value.pointer none) := ⟨Tryz.isAgg128, Tryz.sizeOf128, Tryz.zeroValue128⟩
instance : ZV Tryz.prog 128 (Value.pointer none) := ⟨Tryz.zeroValue128⟩
instance : NotIf Tryz.prog 130 := ⟨_, Tryz.underlying130, rfl⟩
instance : ZT Tryz.prog 130 [Value.pointer none] := ⟨_, Tryz.zeroValue130, rfl⟩
instance : NAgg Tryz.prog 130 := ⟨Tryz.isAgg130⟩
instance : OneT Tryz.prog 130 (Value.pointer none) := ⟨Tryz.isAgg130, Tryz.sizeOf130, Tryz.zeroValue130⟩
instance : ZV Tryz.prog 130 (Value.pointer none) := ⟨Tryz.zeroValue130⟩
instance : NotIf Tryz.prog 132 := ⟨_, Tryz.underlying132, rfl⟩
instance : ZT Tryz.prog 132 [Value.slice none 0 0, Value.int IntKind.i64 0, Value.int IntKind.i64 0] := ⟨_, Tryz.zeroValue132, rfl⟩
instance : StT Tryz.prog 132 [(0, 1), (1, 1), (2, 1)] [Value.slice none 0 0, Value.int IntKind.i64 0, Value.int IntKind.i64 0] := ⟨fld_of Tryz.underlying132 (by kernel_rfl), fun parts => by kernel_rfl, Tryz.sizeOf132, Tryz.isAgg132, Tryz.zeroValue132⟩
instance : ZV Tryz.prog 132 (Value.agg #[Value.slice none 0 0, Value.int IntKind.i64 0, Value.int IntKind.i64 0]) := ⟨Tryz.zeroValue132⟩
instance : FldT Tryz.prog 132 [some 0, some 1, some 2] := fldT_of Tryz.underlying132 (by kernel_rfl)
instance : NotIf Tryz.prog 137 := ⟨_, Tryz.underlying137, rfl⟩
instance : ZT Tryz.prog 137 [Value.slice none 0 0] := ⟨_, Tryz.zeroValue137, rfl⟩
instance : StT Tryz.prog 137 [(0, 1)] [Value.slice none 0 0] := ⟨fld_of Tryz.underlying137 (by kernel_rfl), fun parts => by kernel_rfl, Tryz.sizeOf137, Tryz.isAgg137, Tryz.zeroValue137⟩
instance : ZV Tryz.prog 137 (Value.agg #[Value.slice none 0 0]) := ⟨Tryz.zeroValue137⟩
instance : FldT Tryz.prog 137 [some 0] := fldT_of Tryz.underlying137 (by kernel_rfl)
instance : NotIf Tryz.prog 138 := ⟨_, Tryz.underlying138, rfl⟩
instance : ZT Tryz.prog 138 [Value.string { data := #[] }] := ⟨_, Tryz.zeroValue138, rfl⟩
instance : StT Tryz.prog 138 [(0, 1)] [Value.string { data := #[] }] := ⟨fld_of Tryz.underlying138 (by kernel_rfl), fun parts => by kernel_rfl, Tryz.sizeOf138, Tryz.isAgg138, Tryz.zeroValue138⟩
instance : ZV Tryz.prog 138 (Value.agg #[Value.string { data := #[] }]) := ⟨Tryz.zeroValue138⟩
instance : EqT Tryz.prog 138 [.s] := ⟨by kernel_rfl, by kernel_rfl, by kernel_rfl, by kernel_rfl⟩
instance : FldT Tryz.prog 138 [some 0] := fldT_of Tryz.underlying138 (by kernel_rfl)
instance : NotIf Tryz.prog 140 := ⟨_, Tryz.underlying140, rfl⟩
instance : ZT Tryz.prog 140 [Value.int IntKind.i64 0] := ⟨_, Tryz.zeroValue140, rfl⟩
instance : StT Tryz.prog 140 [(0, 1)] [Value.int IntKind.i64 0] := ⟨fld_of Tryz.underlying140 (by kernel_rfl), fun parts => by kernel_rfl, Tryz.sizeOf140, Tryz.isAgg140, Tryz.zeroValue140⟩
instance : ZV Tryz.prog 140 (Value.agg #[Value.int IntKind.i64 0]) := ⟨Tryz.zeroValue140⟩
instance : EqT Tryz.prog 140 [.i] := ⟨by kernel_rfl, by kernel_rfl, by kernel_rfl, by kernel_rfl⟩
instance : FldT Tryz.prog 140 [some 0] := fldT_of Tryz.underlying140 (by kernel_rfl)
instance : SlT Tryz.prog 142 65 1 := ⟨Tryz.underlying142, Tryz.sizeOf65⟩
instance : NotIf Tryz.prog 142 := ⟨_, Tryz.underlying142, rfl⟩
instance : ZT Tryz.prog 142 [Value.slice none 0 0] := ⟨_, Tryz.zeroValue142, rfl⟩
instance : NAgg Tryz.prog 142 := ⟨Tryz.isAgg142⟩
instance : OneT Tryz.prog 142 (Value.slice none 0 0) := ⟨Tryz.isAgg142, Tryz.sizeOf142, Tryz.zeroValue142⟩
instance : ZV Tryz.prog 142 (Value.slice none 0 0) := ⟨Tryz.zeroValue142⟩
instance : NotIf Tryz.prog 144 := ⟨_, Tryz.underlying144, rfl⟩
instance : ZT Tryz.prog 144 [Value.int IntKind.i64 0, Value.int IntKind.i64 0, Value.int IntKind.i64 0, Value.int IntKind.i64 0, Value.slice none 0 0] := ⟨_, Tryz.zeroValue144, rfl⟩
instance : StT Tryz.prog 144 [(0, 3), (3, 1), (4, 1)] [Value.int IntKind.i64 0, Value.int IntKind.i64 0, Value.int IntKind.i64 0, Value.int IntKind.i64 0, Value.slice none 0 0] := ⟨fld_of Tryz.underlying144 (by kernel_rfl), fun parts => by kernel_rfl, Tryz.sizeOf144, Tryz.isAgg144, Tryz.zeroValue144⟩
instance : ZV Tryz.prog 144 (Value.agg #[Value.int IntKind.i64 0, Value.int IntKind.i64 0, Value.int IntKind.i64 0, Value.int IntKind.i64 0, Value.slice none 0 0]) := ⟨Tryz.zeroValue144⟩
instance : FldT Tryz.prog 144 [none, some 3, some 4] := fldT_of Tryz.underlying144 (by kernel_rfl)
instance : NotIf Tryz.prog 146 := ⟨_, Tryz.underlying146, rfl⟩
instance : ZT Tryz.prog 146 [Value.int IntKind.i64 0, Value.int IntKind.i64 0, Value.int IntKind.i64 0, Value.int IntKind.i64 0, Value.slice none 0 0, Value.nilIface] := ⟨_, Tryz.zeroValue146, rfl⟩
instance : StT Tryz.prog 146 [(0, 5), (5, 1)] [Value.int IntKind.i64 0, Value.int IntKind.i64 0, Value.int IntKind.i64 0, Value.int IntKind.i64 0, Value.slice none 0 0, Value.nilIface] := ⟨fld_of Tryz.underlying146 (by kernel_rfl), fun parts => by kernel_rfl, Tryz.sizeOf146, Tryz.isAgg146, Tryz.zeroValue146⟩
instance : ZV Tryz.prog 146 (Value.agg #[Value.int IntKind.i64 0, Value.int IntKind.i64 0, Value.int IntKind.i64 0, Value.int IntKind.i64 0, Value.slice none 0 0, Value.nilIface]) := ⟨Tryz.zeroValue146⟩
instance : FldT Tryz.prog 146 [none, some 5] := fldT_of Tryz.underlying146 (by kernel_rfl)
instance : NotIf Tryz.prog 151 := ⟨_, Tryz.underlying151, rfl⟩
instance : ZT Tryz.prog 151 [Value.nilIface, Value.int IntKind.i64 0, Value.int IntKind.i64 0, Value.int IntKind.i64 0, Value.int IntKind.i64 0, Value.slice none 0 0, Value.nilIface] := ⟨_, Tryz.zeroValue151, rfl⟩
instance : StT Tryz.prog 151 [(0, 1), (1, 5), (6, 1)] [Value.nilIface, Value.int IntKind.i64 0, Value.int IntKind.i64 0, Value.int IntKind.i64 0, Value.int IntKind.i64 0, Value.slice none 0 0, Value.nilIface] := ⟨fld_of Tryz.underlying151 (by kernel_rfl), fun parts => by kernel_rfl, Tryz.sizeOf151, Tryz.isAgg151, Tryz.zeroValue151⟩
instance : ZV Tryz.prog 151 (Value.agg #[Value.nilIface, Value.int IntKind.i64 0, Value.int IntKind.i64 0, Value.int IntKind.i64 0, Value.int IntKind.i64 0, Value.slice none 0 0, Value.nilIface]) := ⟨Tryz.zeroValue151⟩
instance : FldT Tryz.prog 151 [some 0, none, some 6] := fldT_of Tryz.underlying151 (by kernel_rfl)
instance : NotIf Tryz.prog 153 := ⟨_, Tryz.underlying153, rfl⟩
instance : ZT Tryz.prog 153 [Value.nilIface, Value.slice none 0 0] := ⟨_, Tryz.zeroValue153, rfl⟩
instance : StT Tryz.prog 153 [(0, 1), (1, 1)] [Value.nilIface, Value.slice none 0 0] := ⟨fld_of Tryz.underlying153 (by kernel_rfl), fun parts => by kernel_rfl, Tryz.sizeOf153, Tryz.isAgg153, Tryz.zeroValue153⟩
instance : ZV Tryz.prog 153 (Value.agg #[Value.nilIface, Value.slice none 0 0]) := ⟨Tryz.zeroValue153⟩
instance : FldT Tryz.prog 153 [some 0, some 1] := fldT_of Tryz.underlying153 (by kernel_rfl)
instance : NotIf Tryz.prog 157 := ⟨_, Tryz.underlying157, rfl⟩
instance : ZT Tryz.prog 157 [Value.nilFunc] := ⟨_, Tryz.zeroValue157, rfl⟩
instance : NAgg Tryz.prog 157 := ⟨Tryz.isAgg157⟩
instance : OneT Tryz.prog 157 (Value.nilFunc) := ⟨Tryz.isAgg157, Tryz.sizeOf157, Tryz.zeroValue157⟩
instance : ZV Tryz.prog 157 (Value.nilFunc) := ⟨Tryz.zeroValue157⟩
instance : NotIf Tryz.prog 166 := ⟨_, Tryz.underlying166, rfl⟩
instance : ZT Tryz.prog 166 [Value.pointer none] := ⟨_, Tryz.zeroValue166, rfl⟩
instance : NAgg Tryz.prog 166 := ⟨Tryz.isAgg166⟩
instance : OneT Tryz.prog 166 (Value.pointer none) := ⟨Tryz.isAgg166, Tryz.sizeOf166, Tryz.zeroValue166⟩
instance : ZV Tryz.prog 166 (Value.pointer none) := ⟨Tryz.zeroValue166⟩
instance : SlT Tryz.prog 167 5 1 := ⟨Tryz.underlying167, Tryz.sizeOf5⟩
instance : NotIf Tryz.prog 167 := ⟨_, Tryz.underlying167, rfl⟩
instance : ZT Tryz.prog 167 [Value.slice none 0 0] := ⟨_, Tryz.zeroValue167, rfl⟩
instance : NAgg Tryz.prog 167 := ⟨Tryz.isAgg167⟩
instance : OneT Tryz.prog 167 (Value.slice none 0 0) := ⟨Tryz.isAgg167, Tryz.sizeOf167, Tryz.zeroValue167⟩
instance : ZV Tryz.prog 167 (Value.slice none 0 0) := ⟨Tryz.zeroValue167⟩
instance : NotIf Tryz.prog 169 := ⟨_, Tryz.underlying169, rfl⟩
instance : ZT Tryz.prog 169 [Value.pointer none, Value.slice none 0 0] := ⟨_, Tryz.zeroValue169, rfl⟩
instance : StT Tryz.prog 169 [(0, 1), (1, 1)] [Value.pointer none, Value.slice none 0 0] := ⟨fld_of Tryz.underlying169 (by kernel_rfl), fun parts => by kernel_rfl, Tryz.sizeOf169, Tryz.isAgg169, Tryz.zeroValue169⟩
instance : ZV Tryz.prog 169 (Value.agg #[Value.pointer none, Value.slice none 0 0]) := ⟨Tryz.zeroValue169⟩
instance : FldT Tryz.prog 169 [some 0, some 1] := fldT_of Tryz.underlying169 (by kernel_rfl)
instance : NotIf Tryz.prog 202 := ⟨_, Tryz.underlying202, rfl⟩
instance : ZT Tryz.prog 202 [Value.pointer none] := ⟨_, Tryz.zeroValue202, rfl⟩
instance : NAgg Tryz.prog 202 := ⟨Tryz.isAgg202⟩
instance : OneT Tryz.prog 202 (Value.pointer none) := ⟨Tryz.isAgg202, Tryz.sizeOf202, Tryz.zeroValue202⟩
instance : ZV Tryz.prog 202 (Value.pointer none) := ⟨Tryz.zeroValue202⟩
instance : IfT Tryz.prog 219 := ⟨_, Tryz.underlying219⟩
instance : ZT Tryz.prog 219 [Value.nilIface] := ⟨_, Tryz.zeroValue219, rfl⟩
instance : NAgg Tryz.prog 219 := ⟨Tryz.isAgg219⟩
instance : OneT Tryz.prog 219 (Value.nilIface) := ⟨Tryz.isAgg219, Tryz.sizeOf219, Tryz.zeroValue219⟩
instance : ZV Tryz.prog 219 (Value.nilIface) := ⟨Tryz.zeroValue219⟩
instance : IfT Tryz.prog 222 := ⟨_, Tryz.underlying222⟩
instance : ZT Tryz.prog 222 [Value.nilIface] := ⟨_, Tryz.zeroValue222, rfl⟩
instance : NAgg Tryz.prog 222 := ⟨Tryz.isAgg222⟩
instance : OneT Tryz.prog 222 (Value.nilIface) := ⟨Tryz.isAgg222, Tryz.sizeOf222, Tryz.zeroValue222⟩
instance : ZV Tryz.prog 222 (Value.nilIface) := ⟨Tryz.zeroValue222⟩
instance : IfT Tryz.prog 224 := ⟨_, Tryz.underlying224⟩
instance : ZT Tryz.prog 224 [Value.nilIface] := ⟨_, Tryz.zeroValue224, rfl⟩
instance : NAgg Tryz.prog 224 := ⟨Tryz.isAgg224⟩
instance : OneT Tryz.prog 224 (Value.nilIface) := ⟨Tryz.isAgg224, Tryz.sizeOf224, Tryz.zeroValue224⟩
instance : ZV Tryz.prog 224 (Value.nilIface) := ⟨Tryz.zeroValue224⟩
instance : SlT Tryz.prog 225 25 1 := ⟨Tryz.underlying225, Tryz.sizeOf25⟩
instance : NotIf Tryz.prog 225 := ⟨_, Tryz.underlying225, rfl⟩
instance : ZT Tryz.prog 225 [Value.slice none 0 0] := ⟨_, Tryz.zeroValue225, rfl⟩
instance : NAgg Tryz.prog 225 := ⟨Tryz.isAgg225⟩
instance : OneT Tryz.prog 225 (Value.slice none 0 0) := ⟨Tryz.isAgg225, Tryz.sizeOf225, Tryz.zeroValue225⟩
instance : ZV Tryz.prog 225 (Value.slice none 0 0) := ⟨Tryz.zeroValue225⟩
instance : NotIf Tryz.prog 231 := ⟨_, Tryz.underlying231, rfl⟩
instance : ZT Tryz.prog 231 [Value.int IntKind.u8 0, Value.int IntKind.u8 0] := ⟨_, Tryz.zeroValue231, rfl⟩
instance : StT Tryz.prog 231 [(0, 1), (1, 1)] [Value.int IntKind.u8 0, Value.int IntKind.u8 0] := ⟨fld_of Tryz.underlying231 (by kernel_rfl), fun parts => by kernel_rfl, Tryz.sizeOf231, Tryz.isAgg231, Tryz.zeroValue231⟩
instance : ZV Tryz.prog 231 (Value.agg #[Value.int IntKind.u8 0, Value.int IntKind.u8 0]) := ⟨Tryz.zeroValue231⟩
instance : FldT Tryz.prog 231 [some 0, some 1] := fldT_of Tryz.underlying231 (by kernel_rfl)
instance : NotIf Tryz.prog 233 := ⟨_, Tryz.underlying233, rfl⟩
instance : IntT Tryz.prog 233 .u64 := ⟨Tryz.underlying233⟩
instance : ZT Tryz.prog 233 [Value.int IntKind.u64 0] := ⟨_, Tryz.zeroValue233, rfl⟩
instance : NAgg Tryz.prog 233 := ⟨Tryz.isAgg233⟩
instance : OneT Tryz.prog 233 (Value.int IntKind.u64 0) := ⟨Tryz.isAgg233, Tryz.sizeOf233, Tryz.zeroValue233⟩
instance : ZV Tryz.prog 233 (Value.int IntKind.u64 0) := ⟨Tryz.zeroValue233⟩
instance : NotIf Tryz.prog 243 := ⟨_, Tryz.underlying243, rfl⟩
instance : IntT Tryz.prog 243 .u64 := ⟨Tryz.underlying243⟩
instance : ZT Tryz.prog 243 [Value.int IntKind.u64 0] := ⟨_, Tryz.zeroValue243, rfl⟩
instance : NAgg Tryz.prog 243 := ⟨Tryz.isAgg243⟩
instance : OneT Tryz.prog 243 (Value.int IntKind.u64 0) := ⟨Tryz.isAgg243, Tryz.sizeOf243, Tryz.zeroValue243⟩
instance : ZV Tryz.prog 243 (Value.int IntKind.u64 0) := ⟨Tryz.zeroValue243⟩
instance : NotIf Tryz.prog 253 := ⟨_, Tryz.underlying253, rfl⟩
instance : IntT Tryz.prog 253 .u32 := ⟨Tryz.underlying253⟩
instance : ZT Tryz.prog 253 [Value.int IntKind.u32 0] := ⟨_, Tryz.zeroValue253, rfl⟩
instance : NAgg Tryz.prog 253 := ⟨Tryz.isAgg253⟩
instance : OneT Tryz.prog 253 (Value.int IntKind.u32 0) := ⟨Tryz.isAgg253, Tryz.sizeOf253, Tryz.zeroValue253⟩
instance : ZV Tryz.prog 253 (Value.int IntKind.u32 0) := ⟨Tryz.zeroValue253⟩
instance : NotIf Tryz.prog 257 := ⟨_, Tryz.underlying257, rfl⟩
instance : IntT Tryz.prog 257 .i64 := ⟨Tryz.underlying257⟩
instance : ZT Tryz.prog 257 [Value.int IntKind.i64 0] := ⟨_, Tryz.zeroValue257, rfl⟩
instance : NAgg Tryz.prog 257 := ⟨Tryz.isAgg257⟩
instance : OneT Tryz.prog 257 (Value.int IntKind.i64 0) := ⟨Tryz.isAgg257, Tryz.sizeOf257, Tryz.zeroValue257⟩
instance : ZV Tryz.prog 257 (Value.int IntKind.i64 0) := ⟨Tryz.zeroValue257⟩
instance : NotIf Tryz.prog 260 := ⟨_, Tryz.underlying260, rfl⟩
instance : ZT Tryz.prog 260 [Value.pointer none] := ⟨_, Tryz.zeroValue260, rfl⟩
instance : NAgg Tryz.prog 260 := ⟨Tryz.isAgg260⟩
instance : OneT Tryz.prog 260 (Value.pointer none) := ⟨Tryz.isAgg260, Tryz.sizeOf260, Tryz.zeroValue260⟩
instance : ZV Tryz.prog 260 (Value.pointer none) := ⟨Tryz.zeroValue260⟩
instance : NotIf Tryz.prog 269 := ⟨_, Tryz.underlying269, rfl⟩
instance : ZT Tryz.prog 269 [Value.string { data := #[] }, Value.string { data := #[] }, Value.nilIface] := ⟨_, Tryz.zeroValue269, rfl⟩
instance : StT Tryz.prog 269 [(0, 1), (1, 1), (2, 1)] [Value.string { data := #[] }, Value.string { data := #[] }, Value.nilIface] := ⟨fld_of Tryz.underlying269 (by kernel_rfl), fun parts => by kernel_rfl, Tryz.sizeOf269, Tryz.isAgg269, Tryz.zeroValue269⟩
instance : ZV Tryz.prog 269 (Value.agg #[Value.string { data := #[] }, Value.string { data := #[] }, Value.nilIface]) := ⟨Tryz.zeroValue269⟩
instance : FldT Tryz.prog 269 [some 0, some 1, some 2] := fldT_of Tryz.underlying269 (by kernel_rfl)
instance : NotIf Tryz.prog 272 := ⟨_, Tryz.underlying272, rfl⟩
instance : ZT Tryz.prog 272 [Value.pointer none] := ⟨_, Tryz.zeroValue272, rfl⟩
instance : NAgg Tryz.prog 272 := ⟨Tryz.isAgg272⟩
instance : OneT Tryz.prog 272 (Value.pointer none) := ⟨Tryz.isAgg272, Tryz.sizeOf272, Tryz.zeroValue272⟩
instance : ZV Tryz.prog 272 (Value.pointer none) := ⟨Tryz.zeroValue272⟩
instance : NotIf Tryz.prog 274 := ⟨_, Tryz.underlying274, rfl⟩
instance : ZT Tryz.prog 274 [Value.string { data := #[] }] := ⟨_, Tryz.zeroValue274, rfl⟩
instance : StT Tryz.prog 274 [(0, 1)] [Value.string { data := #[] }] := ⟨fld_of Tryz.underlying274 (by kernel_rfl), fun parts => by kernel_rfl, Tryz.sizeOf274, Tryz.isAgg274, Tryz.zeroValue274⟩
instance : ZV Tryz.prog 274 (Value.agg #[Value.string { data := #[] }]) := ⟨Tryz.zeroValue274⟩
instance : FldT Tryz.prog 274 [some 0] := fldT_of Tryz.underlying274 (by kernel_rfl)
instance : NotIf Tryz.prog 295 := ⟨_, Tryz.underlying295, rfl⟩
instance : IntT Tryz.prog 295 .u16 := ⟨Tryz.underlying295⟩
instance : ZT Tryz.prog 295 [Value.int IntKind.u16 0] := ⟨_, Tryz.zeroValue295, rfl⟩
instance : NAgg Tryz.prog 295 := ⟨Tryz.isAgg295⟩
instance : OneT Tryz.prog 295 (Value.int IntKind.u16 0) := ⟨Tryz.isAgg295, Tryz.sizeOf295, Tryz.zeroValue295⟩
instance : ZV Tryz.prog 295 (Value.int IntKind.u16 0) := ⟨Tryz.zeroValue295⟩
instance : NotIf Tryz.prog 302 := ⟨_, Tryz.underlying302, rfl⟩
instance : ZT Tryz.prog 302 [Value.pointer none] := ⟨_, Tryz.zeroValue302, rfl⟩
instance : NAgg Tryz.prog 302 := ⟨Tryz.isAgg302⟩
instance : OneT Tryz.prog 302 (Value.pointer none) := ⟨Tryz.isAgg302, Tryz.sizeOf302, Tryz.zeroValue302⟩
instance : ZV Tryz.prog 302 (Value.pointer none) := ⟨Tryz.zeroValue302⟩
instance : ElT Tryz.prog 22 30 5 [Value.int IntKind.i64 0, Value.int IntKind.i64 0, Value.int IntKind.i64 0, Value.string { data := #[] }, Value.int IntKind.i64 0] 48 := elT_of (z := Value.agg #[Value.int IntKind.i64 0, Value.int IntKind.i64 0, Value.int IntKind.i64 0, Value.string { data := #[] }, Value.int IntKind.i64 0]) Tryz.underlying22 (by kernel_rfl) rfl rfl (by decide)
instance : ElT Tryz.prog 23 35 7 [Value.int IntKind.i64 0, Value.int IntKind.i64 0, Value.int IntKind.i64 0, Value.int IntKind.i64 0, Value.int IntKind.i64 0, Value.slice none 0 0, Value.string { data := #[] }] 80 := elT_of (z := Value.agg #[Value.int IntKind.i64 0, Value.int IntKind.i64 0, Value.int IntKind.i64 0, Value.int IntKind.i64 0, Value.int IntKind.i64 0, Value.slice none 0 0, Value.string { data := #[] }]) Tryz.underlying23 (by kernel_rfl) rfl rfl (by decide)
instance : ElT Tryz.prog 33 3 1 [Value.int IntKind.i64 0] 8 := elT_of (z := Value.int IntKind.i64 0) Tryz.underlying33 (by kernel_rfl) rfl rfl (by decide)
instance : ElT Tryz.prog 50 93 8 [Value.int IntKind.i64 0, Value.int IntKind.i64 0, Value.int IntKind.i64 0, Value.int IntKind.i64 0, Value.int IntKind.i64 0, Value.int IntKind.i64 0, Value.slice none 0 0, Value.string { data := #[] }] 88 := elT_of (z := Value.agg #[Value.int IntKind.i64 0, Value.int IntKind.i64 0, Value.int IntKind.i64 0, Value.int IntKind.i64 0, Value.int IntKind.i64 0, Value.int IntKind.i64 0, Value.slice none 0 0, Value.string { data := #[] }]) Tryz.underlying50 (by kernel_rfl) rfl rfl (by decide)
instance : ElT Tryz.prog 86 97 2 [Value.int IntKind.i64 0, Value.int IntKind.i64 0] 16 := elT_of (z := Value.agg #[Value.int IntKind.i64 0, Value.int IntKind.i64 0]) Tryz.underlying86 (by kernel_rfl) rfl rfl (by decide)
instance : ElT Tryz.prog 94 88 2 [Value.slice none 0 0, Value.slice none 0 0] 48 := elT_of (z := Value.agg #[Value.slice none 0 0, Value.slice none 0 0]) Tryz.underlying94 (by kernel_rfl) rfl rfl (by decide)
instance : ElT Tryz.prog 99 105 3 [Value.int IntKind.i64 0, Value.int IntKind.i64 0, Value.int IntKind.i64 0] 24 := elT_of (z := Value.agg #[Value.int IntKind.i64 0, Value.int IntKind.i64 0, Value.int IntKind.i64 0]) Tryz.underlying99 (by kernel_rfl) rfl rfl (by decide)
instance : ElT Tryz.prog 107 9 1 [Value.string { data := #[] }] 16 := elT_of (z := Value.string { data := #[] }) Tryz.underlying107 (by kernel_rfl) rfl rfl (by decide)
instance : ElT Tryz.prog 142 65 1 [Value.nilIface] 16 := elT_of (z := Value.nilIface) Tryz.underlying142 (by kernel_rfl) rfl rfl (by decide)
instance : ElT Tryz.prog 167 5 1 [Value.int IntKind.u8 0] 1 := elT_of (z := Value.int IntKind.u8 0) Tryz.underlying167 (by kernel_rfl) rfl rfl (by decide)
instance : ElT Tryz.prog 225 25 1 [Value.nilIface] 16 := elT_of (z := Value.nilIface) Tryz.underlying225 (by kernel_rfl) rfl rfl (by decide)
instance : FnT Tryz.prog 3 := ⟨_, _, Tryz.func3, rfl, by decide⟩
instance : FnT Tryz.prog 4 := ⟨_, _, Tryz.func4, rfl, by decide⟩
instance : FnT Tryz.prog 5 := ⟨_, _, Tryz.func5, rfl, by decide⟩
instance : FnT Tryz.prog 6 := ⟨_, _, Tryz.func6, rfl, by decide⟩
instance : FnT Tryz.prog 7 := ⟨_, _, Tryz.func7, rfl, by decide⟩
instance : FnT Tryz.prog 8 := ⟨_, _, Tryz.func8, rfl, by decide⟩
instance : FnT Tryz.prog 9 := ⟨_, _, Tryz.func9, rfl, by decide⟩
instance : FnT Tryz.prog 10 := ⟨_, _, Tryz.func10, rfl, by decide⟩
instance : FnT Tryz.prog 11 := ⟨_, _, Tryz.func11, rfl, by decide⟩
instance : FnT Tryz.prog 12 := ⟨_, _, Tryz.func12, rfl, by decide⟩
instance : FnT Tryz.prog 13 := ⟨_, _, Tryz.func13, rfl, by decide⟩
instance : FnT Tryz.prog 14 := ⟨_, _, Tryz.func14, rfl, by decide⟩
instance : FnT Tryz.prog 15 := ⟨_, _, Tryz.func15, rfl, by decide⟩
instance : FnT Tryz.prog 16 := ⟨_, _, Tryz.func16, rfl, by decide⟩
instance : FnT Tryz.prog 17 := ⟨_, _, Tryz.func17, rfl, by decide⟩
instance : FnT Tryz.prog 18 := ⟨_, _, Tryz.func18, rfl, by decide⟩
instance : FnT Tryz.prog 19 := ⟨_, _, Tryz.func19, rfl, by decide⟩
instance : FnT Tryz.prog 20 := ⟨_, _, Tryz.func20, rfl, by decide⟩
instance : FnT Tryz.prog 21 := ⟨_, _, Tryz.func21, rfl, by decide⟩
instance : FnT Tryz.prog 22 := ⟨_, _, Tryz.func22, rfl, by decide⟩
instance : FnT Tryz.prog 23 := ⟨_, _, Tryz.func23, rfl, by decide⟩
instance : FnT Tryz.prog 24 := ⟨_, _, Tryz.func24, rfl, by decide⟩
instance : FnT Tryz.prog 25 := ⟨_, _, Tryz.func25, rfl, by decide⟩
instance : FnT Tryz.prog 26 := ⟨_, _, Tryz.func26, rfl, by decide⟩
instance : FnT Tryz.prog 27 := ⟨_, _, Tryz.func27, rfl, by decide⟩
instance : FnT Tryz.prog 28 := ⟨_, _, Tryz.func28, rfl, by decide⟩
instance : FnT Tryz.prog 29 := ⟨_, _, Tryz.func29, rfl, by decide⟩
instance : FnT Tryz.prog 30 := ⟨_, _, Tryz.func30, rfl, by decide⟩
instance : FnT Tryz.prog 31 := ⟨_, _, Tryz.func31, rfl, by decide⟩
instance : FnT Tryz.prog 32 := ⟨_, _, Tryz.func32, rfl, by decide⟩
instance : FnT Tryz.prog 33 := ⟨_, _, Tryz.func33, rfl, by decide⟩
instance : FnT Tryz.prog 34 := ⟨_, _, Tryz.func34, rfl, by decide⟩
instance : FnT Tryz.prog 35 := ⟨_, _, Tryz.func35, rfl, by decide⟩
instance : FnT Tryz.prog 36 := ⟨_, _, Tryz.func36, rfl, by decide⟩
instance : FnT Tryz.prog 37 := ⟨_, _, Tryz.func37, rfl, by decide⟩
instance : FnT Tryz.prog 38 := ⟨_, _, Tryz.func38, rfl, by decide⟩
instance : FnT Tryz.prog 39 := ⟨_, _, Tryz.func39, rfl, by decide⟩
instance : FnT Tryz.prog 40 := ⟨_, _, Tryz.func40, rfl, by decide⟩
instance : FnT Tryz.prog 41 := ⟨_, _, Tryz.func41, rfl, by decide⟩
instance : FnT Tryz.prog 42 := ⟨_, _, Tryz.func42, rfl, by decide⟩
instance : FnT Tryz.prog 43 := ⟨_, _, Tryz.func43, rfl, by decide⟩
instance : FnT Tryz.prog 44 := ⟨_, _, Tryz.func44, rfl, by decide⟩
instance : FnT Tryz.prog 45 := ⟨_, _, Tryz.func45, rfl, by decide⟩
instance : FnT Tryz.prog 46 := ⟨_, _, Tryz.func46, rfl, by decide⟩
instance : FnT Tryz.prog 47 := ⟨_, _, Tryz.func47, rfl, by decide⟩
instance : FnT Tryz.prog 48 := ⟨_, _, Tryz.func48, rfl, by decide⟩
instance : FnT Tryz.prog 49 := ⟨_, _, Tryz.func49, rfl, by decide⟩
instance : FnT Tryz.prog 50 := ⟨_, _, Tryz.func50, rfl, by decide⟩
instance : FnT Tryz.prog 51 := ⟨_, _, Tryz.func51, rfl, by decide⟩
instance : FnT Tryz.prog 52 := ⟨_, _, Tryz.func52, rfl, by decide⟩
instance : FnT Tryz.prog 53 := ⟨_, _, Tryz.func53, rfl, by decide⟩
instance : FnT Tryz.prog 55 := ⟨_, _, Tryz.func55, rfl, by decide⟩
instance : FnT Tryz.prog 56 := ⟨_, _, Tryz.func56, rfl, by decide⟩
instance : FnT Tryz.prog 57 := ⟨_, _, Tryz.func57, rfl, by decide⟩
instance : FnT Tryz.prog 58 := ⟨_, _, Tryz.func58, rfl, by decide⟩
instance : FnT Tryz.prog 59 := ⟨_, _, Tryz.func59, rfl, by decide⟩
instance : FnT Tryz.prog 60 := ⟨_, _, Tryz.func60, rfl, by decide⟩
instance : FnT Tryz.prog 61 := ⟨_, _, Tryz.func61, rfl, by decide⟩
instance : FnT Tryz.prog 62 := ⟨_, _, Tryz.func62, rfl, by decide⟩
instance : FnT Tryz.prog 63 := ⟨_, _, Tryz.func63, rfl, by decide⟩
instance : FnT Tryz.prog 64 := ⟨_, _, Tryz.func64, rfl, by decide⟩
instance : FnT Tryz.prog 65 := ⟨_, _, Tryz.func65, rfl, by decide⟩
instance : FnT Tryz.prog 66 := ⟨_, _, Tryz.func66, rfl, by decide⟩
instance : FnT Tryz.prog 67 := ⟨_, _, Tryz.func67, rfl, by decide⟩
instance : FnT Tryz.prog 68 := ⟨_, _, Tryz.func68, rfl, by decide⟩
instance : FnT Tryz.prog 69 := ⟨_, _, Tryz.func69, rfl, by decide⟩
instance : FnT Tryz.prog 70 := ⟨_, _, Tryz.func70, rfl, by decide⟩
instance : FnT Tryz.prog 71 := ⟨_, _, Tryz.func71, rfl, by decide⟩
instance : FnT Tryz.prog 72 := ⟨_, _, Tryz.func72, rfl, by decide⟩
instance : FnT Tryz.prog 73 := ⟨_, _, Tryz.func73, rfl, by decide⟩
instance : FnT Tryz.prog 74 := ⟨_, _, Tryz.func74, rfl, by decide⟩
instance : FnT Tryz.prog 75 := ⟨_, _, Tryz.func75, rfl, by decide⟩
instance : FnT Tryz.prog 76 := ⟨_, _, Tryz.func76, rfl, by decide⟩
instance : FnT Tryz.prog 77 := ⟨_, _, Tryz.func77, rfl, by decide⟩
instance : FnT Tryz.prog 78 := ⟨_, _, Tryz.func78, rfl, by decide⟩
instance : FnT Tryz.prog 79 := ⟨_, _, Tryz.func79, rfl, by decide⟩
instance : FnT Tryz.prog 80 := ⟨_, _, Tryz.func80, rfl, by decide⟩
instance : FnT Tryz.prog 81 := ⟨_, _, Tryz.func81, rfl, by decide⟩
instance : FnT Tryz.prog 82 := ⟨_, _, Tryz.func82, rfl, by decide⟩
instance : FnT Tryz.prog 83 := ⟨_, _, Tryz.func83, rfl, by decide⟩
instance : FnT Tryz.prog 84 := ⟨_, _, Tryz.func84, rfl, by decide⟩
instance : FnT Tryz.prog 85 := ⟨_, _, Tryz.func85, rfl, by decide⟩
instance : FnT Tryz.prog 86 := ⟨_, _, Tryz.func86, rfl, by decide⟩
instance : FnT Tryz.prog 87 := ⟨_, _, Tryz.func87, rfl, by decide⟩
instance : FnT Tryz.prog 88 := ⟨_, _, Tryz.func88, rfl, by decide⟩
instance : FnT Tryz.prog 89 := ⟨_, _, Tryz.func89, rfl, by decide⟩
instance : FnT Tryz.prog 90 := ⟨_, _, Tryz.func90, rfl, by decide⟩
instance : FnT Tryz.prog 91 := ⟨_, _, Tryz.func91, rfl, by decide⟩
instance : FnT Tryz.prog 92 := ⟨_, _, Tryz.func92, rfl, by decide⟩
instance : FnT Tryz.prog 93 := ⟨_, _, Tryz.func93, rfl, by decide⟩
instance : FnT Tryz.prog 94 := ⟨_, _, Tryz.func94, rfl, by decide⟩
instance : FnT Tryz.prog 95 := ⟨_, _, Tryz.func95, rfl, by decide⟩
instance : FnT Tryz.prog 96 := ⟨_, _, Tryz.func96, rfl, by decide⟩
instance : FnT Tryz.prog 101 := ⟨_, _, Tryz.func101, rfl, by decide⟩
instance : FnT Tryz.prog 102 := ⟨_, _, Tryz.func102, rfl, by decide⟩
instance : FnT Tryz.prog 103 := ⟨_, _, Tryz.func103, rfl, by decide⟩
instance : FnT Tryz.prog 104 := ⟨_, _, Tryz.func104, rfl, by decide⟩
instance : FnT Tryz.prog 105 := ⟨_, _, Tryz.func105, rfl, by decide⟩
instance : FnT Tryz.prog 107 := ⟨_, _, Tryz.func107, rfl, by decide⟩
instance : FnT Tryz.prog 108 := ⟨_, _, Tryz.func108, rfl, by decide⟩
instance : FnT Tryz.prog 109 := ⟨_, _, Tryz.func109, rfl, by decide⟩
instance : FnT Tryz.prog 110 := ⟨_, _, Tryz.func110, rfl, by decide⟩
instance : FnT Tryz.prog 111 := ⟨_, _, Tryz.func111, rfl, by decide⟩
instance : FnT Tryz.prog 112 := ⟨_, _, Tryz.func112, rfl, by decide⟩
instance : FnT Tryz.prog 114 := ⟨_, _, Tryz.func114, rfl, by decide⟩
instance : FnT Tryz.prog 115 := ⟨_, _, Tryz.func115, rfl, by decide⟩
instance : FnT Tryz.prog 116 := ⟨_, _, Tryz.func116, rfl, by decide⟩
instance : FnT Tryz.prog 117 := ⟨_, _, Tryz.func117, rfl, by decide⟩
instance : FnT Tryz.prog 118 := ⟨_, _, Tryz.func118, rfl, by decide⟩
instance : FnT Tryz.prog 119 := ⟨_, _, Tryz.func119, rfl, by decide⟩
instance : FnT Tryz.prog 120 := ⟨_, _, Tryz.func120, rfl, by decide⟩
instance : FnT Tryz.prog 121 := ⟨_, _, Tryz.func121, rfl, by decide⟩
instance : FnT Tryz.prog 122 := ⟨_, _, Tryz.func122, rfl, by decide⟩
instance : FnT Tryz.prog 123 := ⟨_, _, Tryz.func123, rfl, by decide⟩
instance : FnT Tryz.prog 124 := ⟨_, _, Tryz.func124, rfl, by decide⟩
instance : FnT Tryz.prog 125 := ⟨_, _, Tryz.func125, rfl, by decide⟩
instance : FnT Tryz.prog 126 := ⟨_, _, Tryz.func126, rfl, by decide⟩
instance : FnT Tryz.prog 130 := ⟨_, _, Tryz.func130, rfl, by decide⟩
instance : FnT Tryz.prog 132 := ⟨_, _, Tryz.func132, rfl, by decide⟩
instance : FnT Tryz.prog 133 := ⟨_, _, Tryz.func133, rfl, by decide⟩
instance : FnT Tryz.prog 134 := ⟨_, _, Tryz.func134, rfl, by decide⟩
instance : FnT Tryz.prog 137 := ⟨_, _, Tryz.func137, rfl, by decide⟩
instance : FnT Tryz.prog 138 := ⟨_, _, Tryz.func138, rfl, by decide⟩
instance : FnT Tryz.prog 139 := ⟨_, _, Tryz.func139, rfl, by decide⟩
instance : FnT Tryz.prog 140 := ⟨_, _, Tryz.func140, rfl, by decide⟩
instance : FnT Tryz.prog 141 := ⟨_, _, Tryz.func141, rfl, by decide⟩
instance : FnT Tryz.prog 142 := ⟨_, _, Tryz.func142, rfl, by decide⟩
instance : FnT Tryz.prog 147 := ⟨_, _, Tryz.func147, rfl, by decide⟩
instance : FnT Tryz.prog 151 := ⟨_, _, Tryz.func151, rfl, by decide⟩
instance : FnT Tryz.prog 154 := ⟨_, _, Tryz.func154, rfl, by decide⟩
instance : FnT Tryz.prog 157 := ⟨_, _, Tryz.func157, rfl, by decide⟩
instance : FnT Tryz.prog 163 := ⟨_, _, Tryz.func163, rfl, by decide⟩
instance : FnT Tryz.prog 164 := ⟨_, _, Tryz.func164, rfl, by decide⟩
instance : FnT Tryz.prog 165 := ⟨_, _, Tryz.func165, rfl, by decide⟩
instance : FnT Tryz.prog 166 := ⟨_, _, Tryz.func166, rfl, by decide⟩
instance : FnT Tryz.prog 167 := ⟨_, _, Tryz.func167, rfl, by decide⟩
instance : FnT Tryz.prog 168 := ⟨_, _, Tryz.func168, rfl, by decide⟩
instance : FnT Tryz.prog 193 := ⟨_, _, Tryz.func193, rfl, by decide⟩
instance : FnT Tryz.prog 194 := ⟨_, _, Tryz.func194, rfl, by decide⟩
instance : FnT Tryz.prog 195 := ⟨_, _, Tryz.func195, rfl, by decide⟩
instance : FnT Tryz.prog 196 := ⟨_, _, Tryz.func196, rfl, by decide⟩
instance : FnT Tryz.prog 197 := ⟨_, _, Tryz.func197, rfl, by decide⟩
instance : FnT Tryz.prog 198 := ⟨_, _, Tryz.func198, rfl, by decide⟩
instance : FnT Tryz.prog 199 := ⟨_, _, Tryz.func199, rfl, by decide⟩
instance : FnT Tryz.prog 200 := ⟨_, _, Tryz.func200, rfl, by decide⟩
instance : FnT Tryz.prog 201 := ⟨_, _, Tryz.func201, rfl, by decide⟩
instance : FnT Tryz.prog 202 := ⟨_, _, Tryz.func202, rfl, by decide⟩
instance : FnT Tryz.prog 220 := ⟨_, _, Tryz.func220, rfl, by decide⟩
end Go.Proofs.YtanbifmcnkhdhaaGreatDoor
