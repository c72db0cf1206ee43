/-
  The types and the functions of this seat, as the logic of walks asks for them. (Written by a program of this repo: inst.py.)
-/
import Derived.Test.YtgjmgmejojbdeaaGreatDoorProg
import Derived.Test.YtgjmgmejojbdeaaGreatDoorMore
namespace Go.Proofs.YtgjmgmejojbdeaaGreatDoor
open Go
set_option maxRecDepth 100000
instance : NotIf Tryz.prog 2 := ⟨_, Tryz.underlying2, rfl⟩
instance : IntT Tryz.prog 2 .i64 := ⟨Tryz.underlying2⟩
instance : ZT Tryz.prog 2 [Value.int IntKind.i64 0] := ⟨_, Tryz.zeroValue2, rfl⟩
instance : NAgg Tryz.prog 2 := ⟨Tryz.isAgg2⟩
instance : OneT Tryz.prog 2 (Value.int IntKind.i64 0) := ⟨Tryz.isAgg2, Tryz.sizeOf2, Tryz.zeroValue2⟩
instance : ZV Tryz.prog 2 (Value.int IntKind.i64 0) := ⟨Tryz.zeroValue2⟩
instance : NotIf Tryz.prog 3 := ⟨_, Tryz.underlying3, rfl⟩
instance : IntT Tryz.prog 3 .i64 := ⟨Tryz.underlying3⟩
instance : ZT Tryz.prog 3 [Value.int IntKind.i64 0] := ⟨_, Tryz.zeroValue3, rfl⟩
instance : NAgg Tryz.prog 3 := ⟨Tryz.isAgg3⟩
instance : OneT Tryz.prog 3 (Value.int IntKind.i64 0) := ⟨Tryz.isAgg3, Tryz.sizeOf3, Tryz.zeroValue3⟩
instance : ZV Tryz.prog 3 (Value.int IntKind.i64 0) := ⟨Tryz.zeroValue3⟩
instance : NotIf Tryz.prog 4 := ⟨_, Tryz.underlying4, rfl⟩
instance : BoolT Tryz.prog 4 := ⟨Tryz.underlying4⟩
instance : ZT Tryz.prog 4 [Value.bool false] := ⟨_, Tryz.zeroValue4, rfl⟩
instance : NAgg Tryz.prog 4 := ⟨Tryz.isAgg4⟩
instance : OneT Tryz.prog 4 (Value.bool false) := ⟨Tryz.isAgg4, Tryz.sizeOf4, Tryz.zeroValue4⟩
instance : ZV Tryz.prog 4 (Value.bool false) := ⟨Tryz.zeroValue4⟩
instance : NotIf Tryz.prog 5 := ⟨_, Tryz.underlying5, rfl⟩
instance : IntT Tryz.prog 5 .u8 := ⟨Tryz.underlying5⟩
instance : ZT Tryz.prog 5 [Value.int IntKind.u8 0] := ⟨_, Tryz.zeroValue5, rfl⟩
instance : NAgg Tryz.prog 5 := ⟨Tryz.isAgg5⟩
instance : OneT Tryz.prog 5 (Value.int IntKind.u8 0) := ⟨Tryz.isAgg5, Tryz.sizeOf5, Tryz.zeroValue5⟩
instance : ZV Tryz.prog 5 (Value.int IntKind.u8 0) := ⟨Tryz.zeroValue5⟩
instance : NotIf Tryz.prog 9 := ⟨_, Tryz.underlying9, rfl⟩
instance : StrT Tryz.prog 9 := ⟨Tryz.underlying9⟩
instance : ZT Tryz.prog 9 [Value.string { data := #[] }] := ⟨_, Tryz.zeroValue9, rfl⟩
instance : NAgg Tryz.prog 9 := ⟨Tryz.isAgg9⟩
instance : OneT Tryz.prog 9 (Value.string { data := #[] }) := ⟨Tryz.isAgg9, Tryz.sizeOf9, Tryz.zeroValue9⟩
instance : ZV Tryz.prog 9 (Value.string { data := #[] }) := ⟨Tryz.zeroValue9⟩
instance : NotIf Tryz.prog 12 := ⟨_, Tryz.underlying12, rfl⟩
instance : IntT Tryz.prog 12 .u64 := ⟨Tryz.underlying12⟩
instance : ZT Tryz.prog 12 [Value.int IntKind.u64 0] := ⟨_, Tryz.zeroValue12, rfl⟩
instance : NAgg Tryz.prog 12 := ⟨Tryz.isAgg12⟩
instance : OneT Tryz.prog 12 (Value.int IntKind.u64 0) := ⟨Tryz.isAgg12, Tryz.sizeOf12, Tryz.zeroValue12⟩
instance : ZV Tryz.prog 12 (Value.int IntKind.u64 0) := ⟨Tryz.zeroValue12⟩
instance : IfT Tryz.prog 20 := ⟨_, Tryz.underlying20⟩
instance : ZT Tryz.prog 20 [Value.nilIface] := ⟨_, Tryz.zeroValue20, rfl⟩
instance : NAgg Tryz.prog 20 := ⟨Tryz.isAgg20⟩
instance : OneT Tryz.prog 20 (Value.nilIface) := ⟨Tryz.isAgg20, Tryz.sizeOf20, Tryz.zeroValue20⟩
instance : ZV Tryz.prog 20 (Value.nilIface) := ⟨Tryz.zeroValue20⟩
instance : NotIf Tryz.prog 21 := ⟨_, Tryz.underlying21, rfl⟩
instance : IntT Tryz.prog 21 .i32 := ⟨Tryz.underlying21⟩
instance : ZT Tryz.prog 21 [Value.int IntKind.i32 0] := ⟨_, Tryz.zeroValue21, rfl⟩
instance : NAgg Tryz.prog 21 := ⟨Tryz.isAgg21⟩
instance : OneT Tryz.prog 21 (Value.int IntKind.i32 0) := ⟨Tryz.isAgg21, Tryz.sizeOf21, Tryz.zeroValue21⟩
instance : ZV Tryz.prog 21 (Value.int IntKind.i32 0) := ⟨Tryz.zeroValue21⟩
instance : SlT Tryz.prog 22 30 5 := ⟨Tryz.underlying22, Tryz.sizeOf30⟩
instance : NotIf Tryz.prog 22 := ⟨_, Tryz.underlying22, rfl⟩
instance : ZT Tryz.prog 22 [Value.slice none 0 0] := ⟨_, Tryz.zeroValue22, rfl⟩
instance : NAgg Tryz.prog 22 := ⟨Tryz.isAgg22⟩
instance : OneT Tryz.prog 22 (Value.slice none 0 0) := ⟨Tryz.isAgg22, Tryz.sizeOf22, Tryz.zeroValue22⟩
instance : ZV Tryz.prog 22 (Value.slice none 0 0) := ⟨Tryz.zeroValue22⟩
instance : SlT Tryz.prog 23 35 7 := ⟨Tryz.underlying23, Tryz.sizeOf35⟩
instance : NotIf Tryz.prog 23 := ⟨_, Tryz.underlying23, rfl⟩
instance : ZT Tryz.prog 23 [Value.slice none 0 0] := ⟨_, Tryz.zeroValue23, rfl⟩
instance : NAgg Tryz.prog 23 := ⟨Tryz.isAgg23⟩
instance : OneT Tryz.prog 23 (Value.slice none 0 0) := ⟨Tryz.isAgg23, Tryz.sizeOf23, Tryz.zeroValue23⟩
instance : ZV Tryz.prog 23 (Value.slice none 0 0) := ⟨Tryz.zeroValue23⟩
instance : IfT Tryz.prog 24 := ⟨_, Tryz.underlying24⟩
instance : ZT Tryz.prog 24 [Value.nilIface] := ⟨_, Tryz.zeroValue24, rfl⟩
instance : NAgg Tryz.prog 24 := ⟨Tryz.isAgg24⟩
instance : OneT Tryz.prog 24 (Value.nilIface) := ⟨Tryz.isAgg24, Tryz.sizeOf24, Tryz.zeroValue24⟩
instance : ZV Tryz.prog 24 (Value.nilIface) := ⟨Tryz.zeroValue24⟩
instance : IfT Tryz.prog 25 := ⟨_, Tryz.underlying25⟩
instance : ZT Tryz.prog 25 [Value.nilIface] := ⟨_, Tryz.zeroValue25, rfl⟩
instance : NAgg Tryz.prog 25 := ⟨Tryz.isAgg25⟩
instance : OneT Tryz.prog 25 (Value.nilIface) := ⟨Tryz.isAgg25, Tryz.sizeOf25, Tryz.zeroValue25⟩
instance : ZV Tryz.prog 25 (Value.nilIface) := ⟨Tryz.zeroValue25⟩
instance : NotIf Tryz.prog 28 := ⟨_, Tryz.underlying28, rfl⟩
instance : IntT Tryz.prog 28 .i64 := ⟨Tryz.underlying28⟩
instance : ZT Tryz.prog 28 [Value.int IntKind.i64 0] := ⟨_, Tryz.zeroValue28, rfl⟩
instance : NAgg Tryz.prog 28 := ⟨Tryz.isAgg28⟩
instance : OneT Tryz.prog 28 (Value.int IntKind.i64 0) := ⟨Tryz.isAgg28, Tryz.sizeOf28, Tryz.zeroValue28⟩
instance : ZV Tryz.prog 28 (Value.int IntKind.i64 0) := ⟨Tryz.zeroValue28⟩
instance : NotIf Tryz.prog 30 := ⟨_, Tryz.underlying30, rfl⟩
instance : ZT Tryz.prog 30 [Value.int IntKind.i64 0, Value.int IntKind.i64 0, Value.int IntKind.i64 0, Value.string { data := #[] }, Value.int IntKind.i64 0] := ⟨_, Tryz.zeroValue30, rfl⟩
instance : StT Tryz.prog 30 [(0, 1), (1, 1), (2, 1), (3, 1), (4, 1)] [Value.int IntKind.i64 0, Value.int IntKind.i64 0, Value.int IntKind.i64 0, Value.string { data := #[] }, Value.int IntKind.i64 0] := ⟨fld_of Tryz.underlying30 (by kernel_rfl), fun parts => by kernel_rfl, Tryz.sizeOf30, Tryz.isAgg30, Tryz.zeroValue30⟩
instance : ZV Tryz.prog 30 (Value.agg #[Value.int IntKind.i64 0, Value.int IntKind.i64 0, Value.int IntKind.i64 0, Value.string { data := #[] }, Value.int IntKind.i64 0]) := ⟨Tryz.zeroValue30⟩
instance : EqT Tryz.prog 30 [.i, .i, .i, .s, .i] := ⟨by kernel_rfl, by kernel_rfl, by kernel_rfl, by kernel_rfl⟩
instance : FldT Tryz.prog 30 [some 0, some 1, some 2, some 3, some 4] := fldT_of Tryz.underlying30 (by kernel_rfl)
instance : NotIf Tryz.prog 32 := ⟨_, Tryz.underlying32, rfl⟩
instance : ZT Tryz.prog 32 [Value.int IntKind.i64 0, Value.int IntKind.i64 0, Value.int IntKind.i64 0] := ⟨_, Tryz.zeroValue32, rfl⟩
instance : StT Tryz.prog 32 [(0, 1), (1, 1), (2, 1)] [Value.int IntKind.i64 0, Value.int IntKind.i64 0, Value.int IntKind.i64 0] := ⟨fld_of Tryz.underlying32 (by kernel_rfl), fun parts => by kernel_rfl, Tryz.sizeOf32, Tryz.isAgg32, Tryz.zeroValue32⟩
instance : ZV Tryz.prog 32 (Value.agg #[Value.int IntKind.i64 0, Value.int IntKind.i64 0, Value.int IntKind.i64 0]) := ⟨Tryz.zeroValue32⟩
instance : EqT Tryz.prog 32 [.i, .i, .i] := ⟨by kernel_rfl, by kernel_rfl, by kernel_rfl, by kernel_rfl⟩
instance : FldT Tryz.prog 32 [some 0, some 1, some 2] := fldT_of Tryz.underlying32 (by kernel_rfl)
instance : SlT Tryz.prog 33 3 1 := ⟨Tryz.underlying33, Tryz.sizeOf3⟩
instance : NotIf Tryz.prog 33 := ⟨_, Tryz.underlying33, rfl⟩
instance : ZT Tryz.prog 33 [Value.slice none 0 0] := ⟨_, Tryz.zeroValue33, rfl⟩
instance : NAgg Tryz.prog 33 := ⟨Tryz.isAgg33⟩
instance : OneT Tryz.prog 33 (Value.slice none 0 0) := ⟨Tryz.isAgg33, Tryz.sizeOf33, Tryz.zeroValue33⟩
instance : ZV Tryz.prog 33 (Value.slice none 0 0) := ⟨Tryz.zeroValue33⟩
instance : NotIf Tryz.prog 35 := ⟨_, Tryz.underlying35, rfl⟩
instance : ZT Tryz.prog 35 [Value.int IntKind.i64 0, Value.int IntKind.i64 0, Value.int IntKind.i64 0, Value.int IntKind.i64 0, Value.int IntKind.i64 0, Value.slice none 0 0, Value.string { data := #[] }] := ⟨_, Tryz.zeroValue35, rfl⟩
instance : StT Tryz.prog 35 [(0, 1), (1, 3), (4, 1), (5, 1), (6, 1)] [Value.int IntKind.i64 0, Value.int IntKind.i64 0, Value.int IntKind.i64 0, Value.int IntKind.i64 0, Value.int IntKind.i64 0, Value.slice none 0 0, Value.string { data := #[] }] := ⟨fld_of Tryz.underlying35 (by kernel_rfl), fun parts => by kernel_rfl, Tryz.sizeOf35, Tryz.isAgg35, Tryz.zeroValue35⟩
instance : ZV Tryz.prog 35 (Value.agg #[Value.int IntKind.i64 0, Value.int IntKind.i64 0, Value.int IntKind.i64 0, Value.int IntKind.i64 0, Value.int IntKind.i64 0, Value.slice none 0 0, Value.string { data := #[] }]) := ⟨Tryz.zeroValue35⟩
instance : FldT Tryz.prog 35 [some 0, none, some 4, some 5, some 6] := fldT_of Tryz.underlying35 (by kernel_rfl)
instance : NotIf Tryz.prog 36 := ⟨_, Tryz.underlying36, rfl⟩
instance : IntT Tryz.prog 36 .i64 := ⟨Tryz.underlying36⟩
instance : ZT Tryz.prog 36 [Value.int IntKind.i64 0] := ⟨_, Tryz.zeroValue36, rfl⟩
instance : NAgg Tryz.prog 36 := ⟨Tryz.isAgg36⟩
instance : OneT Tryz.prog 36 (Value.int IntKind.i64 0) := ⟨Tryz.isAgg36, Tryz.sizeOf36, Tryz.zeroValue36⟩
instance : ZV Tryz.prog 36 (Value.int IntKind.i64 0) := ⟨Tryz.zeroValue36⟩
instance : SlT Tryz.prog 51 93 8 := ⟨Tryz.underlying51, Tryz.sizeOf93⟩
instance : NotIf Tryz.prog 51 := ⟨_, Tryz.underlying51, rfl⟩
instance : ZT Tryz.prog 51 [Value.slice none 0 0] := ⟨_, Tryz.zeroValue51, rfl⟩
instance : NAgg Tryz.prog 51 := ⟨Tryz.isAgg51⟩
instance : OneT Tryz.prog 51 (Value.slice none 0 0) := ⟨Tryz.isAgg51, Tryz.sizeOf51, Tryz.zeroValue51⟩
instance : ZV Tryz.prog 51 (Value.slice none 0 0) := ⟨Tryz.zeroValue51⟩
instance : NotIf Tryz.prog 59 := ⟨_, Tryz.underlying59, rfl⟩
instance : IntT Tryz.prog 59 .i64 := ⟨Tryz.underlying59⟩
instance : ZT Tryz.prog 59 [Value.int IntKind.i64 0] := ⟨_, Tryz.zeroValue59, rfl⟩
instance : NAgg Tryz.prog 59 := ⟨Tryz.isAgg59⟩
instance : OneT Tryz.prog 59 (Value.int IntKind.i64 0) := ⟨Tryz.isAgg59, Tryz.sizeOf59, Tryz.zeroValue59⟩
instance : ZV Tryz.prog 59 (Value.int IntKind.i64 0) := ⟨Tryz.zeroValue59⟩
instance : NotIf Tryz.prog 60 := ⟨_, Tryz.underlying60, rfl⟩
instance : ZT Tryz.prog 60 [Value.pointer none] := ⟨_, Tryz.zeroValue60, rfl⟩
instance : NAgg Tryz.prog 60 := ⟨Tryz.isAgg60⟩
instance : OneT Tryz.prog 60 (Value.pointer none) := ⟨Tryz.isAgg60, Tryz.sizeOf60, Tryz.zeroValue60⟩
instance : ZV Tryz.prog 60 (Value.pointer none) := ⟨Tryz.zeroValue60⟩
instance : NotIf Tryz.prog 62 := ⟨_, Tryz.underlying62, rfl⟩
instance : ZT Tryz.prog 62 [Value.slice none 0 0, Value.int IntKind.i64 0, Value.int IntKind.i64 0] := ⟨_, Tryz.zeroValue62, rfl⟩
instance : StT Tryz.prog 62 [(0, 1), (1, 1), (2, 1)] [Value.slice none 0 0, Value.int IntKind.i64 0, Value.int IntKind.i64 0] := ⟨fld_of Tryz.underlying62 (by kernel_rfl), fun parts => by kernel_rfl, Tryz.sizeOf62, Tryz.isAgg62, Tryz.zeroValue62⟩
instance : ZV Tryz.prog 62 (Value.agg #[Value.slice none 0 0, Value.int IntKind.i64 0, Value.int IntKind.i64 0]) := ⟨Tryz.zeroValue62⟩
instance : FldT Tryz.prog 62 [some 0, some 1, some 2] := fldT_of Tryz.underlying62 (by kernel_rfl)
instance : IfT Tryz.prog 63 := ⟨_, Tryz.underlying63⟩
instance : ZT Tryz.prog 63 [Value.nilIface] := ⟨_, Tryz.zeroValue63, rfl⟩
instance : NAgg Tryz.prog 63 := ⟨Tryz.isAgg63⟩
instance : OneT Tryz.prog 63 (Value.nilIface) := ⟨Tryz.isAgg63, Tryz.sizeOf63, Tryz.zeroValue63⟩
instance : ZV Tryz.prog 63 (Value.nilIface) := ⟨Tryz.zeroValue63⟩
instance : IfT Tryz.prog 64 := ⟨_, Tryz.underlying64⟩
instance : ZT Tryz.prog 64 [Value.nilIface] := ⟨_, Tryz.zeroValue64, rfl⟩
instance : NAgg Tryz.prog 64 := ⟨Tryz.isAgg64⟩
instance : OneT Tryz.prog 64 (Value.nilIface) := ⟨Tryz.isAgg64, Tryz.sizeOf64, Tryz.zeroValue64⟩
instance : ZV Tryz.prog 64 (Value.nilIface) := ⟨Tryz.zeroValue64⟩
instance : NotIf Tryz.prog 82 := ⟨_, Tryz.underlying82, rfl⟩
instance : ZT Tryz.prog 82 [Value.pointer none] := ⟨_, Tryz.zeroValue82, rfl⟩
instance : NAgg Tryz.prog 82 := ⟨Tryz.isAgg82⟩
instance : OneT Tryz.prog 82 (Value.pointer none) := ⟨Tryz.isAgg82, Tryz.sizeOf82, Tryz.zeroValue82⟩
instance : ZV Tryz.prog 82 (Value.pointer none) := ⟨Tryz.zeroValue82⟩
instance : NotIf Tryz.prog 84 := ⟨_, Tryz.underlying84, rfl⟩
instance : ZT Tryz.prog 84 [Value.slice none 0 0] := ⟨_, Tryz.zeroValue84, rfl⟩
instance : StT Tryz.prog 84 [(0, 1)] [Value.slice none 0 0] := ⟨fld_of Tryz.underlying84 (by kernel_rfl), fun parts => by kernel_rfl, Tryz.sizeOf84, Tryz.isAgg84, Tryz.zeroValue84⟩
instance : ZV Tryz.prog 84 (Value.agg #[Value.slice none 0 0]) := ⟨Tryz.zeroValue84⟩
instance : FldT Tryz.prog 84 [some 0] := fldT_of Tryz.underlying84 (by kernel_rfl)
instance : SlT Tryz.prog 86 97 2 := ⟨Tryz.underlying86, Tryz.sizeOf97⟩
instance : NotIf Tryz.prog 86 := ⟨_, Tryz.underlying86, rfl⟩
instance : ZT Tryz.prog 86 [Value.slice none 0 0] := ⟨_, Tryz.zeroValue86, rfl⟩
instance : NAgg Tryz.prog 86 := ⟨Tryz.isAgg86⟩
instance : OneT Tryz.prog 86 (Value.slice none 0 0) := ⟨Tryz.isAgg86, Tryz.sizeOf86, Tryz.zeroValue86⟩
instance : ZV Tryz.prog 86 (Value.slice none 0 0) := ⟨Tryz.zeroValue86⟩
instance : NotIf Tryz.prog 88 := ⟨_, Tryz.underlying88, rfl⟩
instance : ZT Tryz.prog 88 [Value.slice none 0 0, Value.slice none 0 0] := ⟨_, Tryz.zeroValue88, rfl⟩
instance : StT Tryz.prog 88 [(0, 1), (1, 1)] [Value.slice none 0 0, Value.slice none 0 0] := ⟨fld_of Tryz.underlying88 (by kernel_rfl), fun parts => by kernel_rfl, Tryz.sizeOf88, Tryz.isAgg88, Tryz.zeroValue88⟩
instance : ZV Tryz.prog 88 (Value.agg #[Value.slice none 0 0, Value.slice none 0 0]) := ⟨Tryz.zeroValue88⟩
instance : FldT Tryz.prog 88 [some 0, some 1] := fldT_of Tryz.underlying88 (by kernel_rfl)
instance : NotIf Tryz.prog 93 := ⟨_, Tryz.underlying93, rfl⟩
instance : ZT Tryz.prog 93 [Value.int IntKind.i64 0, Value.int IntKind.i64 0, Value.int IntKind.i64 0, Value.int IntKind.i64 0, Value.int IntKind.i64 0, Value.int IntKind.i64 0, Value.slice none 0 0, Value.string { data := #[] }] := ⟨_, Tryz.zeroValue93, rfl⟩
instance : StT Tryz.prog 93 [(0, 1), (1, 3), (4, 1), (5, 1), (6, 1), (7, 1)] [Value.int IntKind.i64 0, Value.int IntKind.i64 0, Value.int IntKind.i64 0, Value.int IntKind.i64 0, Value.int IntKind.i64 0, Value.int IntKind.i64 0, Value.slice none 0 0, Value.string { data := #[] }] := ⟨fld_of Tryz.underlying93 (by kernel_rfl), fun parts => by kernel_rfl, Tryz.sizeOf93, Tryz.isAgg93, Tryz.zeroValue93⟩
instance : ZV Tryz.prog 93 (Value.agg #[Value.int IntKind.i64 0, Value.int IntKind.i64 0, Value.int IntKind.i64 0, Value.int IntKind.i64 0, Value.int IntKind.i64 0, Value.int IntKind.i64 0, Value.slice none 0 0, Value.string { data := #[] }]) := ⟨Tryz.zeroValue93⟩
instance : FldT Tryz.prog 93 [some 0, none, some 4, some 5, some 6, some 7] := fldT_of Tryz.underlying93 (by kernel_rfl)
instance : SlT Tryz.prog 94 88 2 := ⟨Tryz.underlying94, Tryz.sizeOf88⟩
instance : NotIf Tryz.prog 94 := ⟨_, Tryz.underlying94, rfl⟩
instance : ZT Tryz.prog 94 [Value.slice none 0 0] := ⟨_, Tryz.zeroValue94, rfl⟩
instance : NAgg Tryz.prog 94 := ⟨Tryz.isAgg94⟩
instance : OneT Tryz.prog 94 (Value.slice none 0 0) := ⟨Tryz.isAgg94, Tryz.sizeOf94, Tryz.zeroValue94⟩
instance : ZV Tryz.prog 94 (Value.slice none 0 0) := ⟨Tryz.zeroValue94⟩
instance : NotIf Tryz.prog 97 := ⟨_, Tryz.underlying97, rfl⟩
instance : ZT Tryz.prog 97 [Value.int IntKind.i64 0, Value.int IntKind.i64 0] := ⟨_, Tryz.zeroValue97, rfl⟩
instance : StT Tryz.prog 97 [(0, 1), (1, 1)] [Value.int IntKind.i64 0, Value.int IntKind.i64 0] := ⟨fld_of Tryz.underlying97 (by kernel_rfl), fun parts => by kernel_rfl, Tryz.sizeOf97, Tryz.isAgg97, Tryz.zeroValue97⟩
instance : ZV Tryz.prog 97 (Value.agg #[Value.int IntKind.i64 0, Value.int IntKind.i64 0]) := ⟨Tryz.zeroValue97⟩
instance : EqT Tryz.prog 97 [.i, .i] := ⟨by kernel_rfl, by kernel_rfl, by kernel_rfl, by kernel_rfl⟩
instance : FldT Tryz.prog 97 [some 0, some 1] := fldT_of Tryz.underlying97 (by kernel_rfl)
instance : NotIf Tryz.prog 98 := ⟨_, Tryz.underlying98, rfl⟩
instance : ZT Tryz.prog 98 [Value.pointer none] := ⟨_, Tryz.zeroValue98, rfl⟩
instance : NAgg Tryz.prog 98 := ⟨Tryz.isAgg98⟩
instance : OneT Tryz.prog 98 (Value.pointer none) := ⟨Tryz.isAgg98, Tryz.sizeOf98, Tryz.zeroValue98⟩
instance : ZV Tryz.prog 98 (Value.pointer none) := ⟨Tryz.zeroValue98⟩
instance : SlT Tryz.prog 99 105 3 := ⟨Tryz.underlying99, Tryz.sizeOf105⟩
instance : NotIf Tryz.prog 99 := ⟨_, Tryz.underlying99, rfl⟩
instance : ZT Tryz.prog 99 [Value.slice none 0 0] := ⟨_, Tryz.zeroValue99, rfl⟩
instance : NAgg Tryz.prog 99 := ⟨Tryz.isAgg99⟩
instance : OneT Tryz.prog 99 (Value.slice none 0 0) := ⟨Tryz.isAgg99, Tryz.sizeOf99, Tryz.zeroValue99⟩
instance : ZV Tryz.prog 99 (Value.slice none 0 0) := ⟨Tryz.zeroValue99⟩
instance : NotIf Tryz.prog 101 := ⟨_, Tryz.underlying101, rfl⟩
instance : ZT Tryz.prog 101 [Value.slice none 0 0, Value.slice none 0 0, Value.slice none 0 0, Value.int IntKind.i64 0] := ⟨_, Tryz.zeroValue101, rfl⟩
instance : StT Tryz.prog 101 [(0, 1), (1, 1), (2, 1), (3, 1)] [Value.slice none 0 0, Value.slice none 0 0, Value.slice none 0 0, Value.int IntKind.i64 0] := ⟨fld_of Tryz.underlying101 (by kernel_rfl), fun parts => by kernel_rfl, Tryz.sizeOf101, Tryz.isAgg101, Tryz.zeroValue101⟩
instance : ZV Tryz.prog 101 (Value.agg #[Value.slice none 0 0, Value.slice none 0 0, Value.slice none 0 0, Value.int IntKind.i64 0]) := ⟨Tryz.zeroValue101⟩
instance : FldT Tryz.prog 101 [some 0, some 1, some 2, some 3] := fldT_of Tryz.underlying101 (by kernel_rfl)
instance : NotIf Tryz.prog 105 := ⟨_, Tryz.underlying105, rfl⟩
instance : ZT Tryz.prog 105 [Value.int IntKind.i64 0, Value.int IntKind.i64 0, Value.int IntKind.i64 0] := ⟨_, Tryz.zeroValue105, rfl⟩
instance : StT Tryz.prog 105 [(0, 1), (1, 1), (2, 1)] [Value.int IntKind.i64 0, Value.int IntKind.i64 0, Value.int IntKind.i64 0] := ⟨fld_of Tryz.underlying105 (by kernel_rfl), fun parts => by kernel_rfl, Tryz.sizeOf105, Tryz.isAgg105, Tryz.zeroValue105⟩
instance : ZV Tryz.prog 105 (Value.agg #[Value.int IntKind.i64 0, Value.int IntKind.i64 0, Value.int IntKind.i64 0]) := ⟨Tryz.zeroValue105⟩
instance : EqT Tryz.prog 105 [.i, .i, .i] := ⟨by kernel_rfl, by kernel_rfl, by kernel_rfl, by kernel_rfl⟩
instance : FldT Tryz.prog 105 [some 0, some 1, some 2] := fldT_of Tryz.underlying105 (by kernel_rfl)
instance : SlT Tryz.prog 107 9 1 := ⟨Tryz.underlying107, Tryz.sizeOf9⟩
instance : NotIf Tryz.prog 107 := ⟨_, Tryz.underlying107, rfl⟩
instance : ZT Tryz.prog 107 [Value.slice none 0 0] := ⟨_, Tryz.zeroValue107, rfl⟩
instance : NAgg Tryz.prog 107 := ⟨Tryz.isAgg107⟩
instance : OneT Tryz.prog 107 (Value.slice none 0 0) := ⟨Tryz.isAgg107, Tryz.sizeOf107, Tryz.zeroValue107⟩
instance : ZV Tryz.prog 107 (Value.slice none 0 0) := ⟨Tryz.zeroValue107⟩
instance : NotIf Tryz.prog 111 := ⟨_, Tryz.underlying111, rfl⟩
instance : ZT Tryz.prog 111 [Value.string { data := #[] }] := ⟨_, Tryz.zeroValue111, rfl⟩
instance : StT Tryz.prog 111 [(0, 1)] [Value.string { data := #[] }] := ⟨fld_of Tryz.underlying111 (by kernel_rfl), fun parts => by kernel_rfl, Tryz.sizeOf111, Tryz.isAgg111, Tryz.zeroValue111⟩
instance : ZV Tryz.prog 111 (Value.agg #[Value.string { data := #[] }]) := ⟨Tryz.zeroValue111⟩
instance : EqT Tryz.prog 111 [.s] := ⟨by kernel_rfl, by kernel_rfl, by kernel_rfl, by kernel_rfl⟩
instance : FldT Tryz.prog 111 [some 0] := fldT_of Tryz.underlying111 (by kernel_rfl)
instance : NotIf Tryz.prog 113 := ⟨_, Tryz.underlying113, rfl⟩
instance : ZT Tryz.prog 113 [Value.string { data := #[] }, Value.nilIface] := ⟨_, Tryz.zeroValue113, rfl⟩
instance : StT Tryz.prog 113 [(0, 1), (1, 1)] [Value.string { data := #[] }, Value.nilIface] := ⟨fld_of Tryz.underlying113 (by kernel_rfl), fun parts => by kernel_rfl, Tryz.sizeOf113, Tryz.isAgg113, Tryz.zeroValue113⟩
instance : ZV Tryz.prog 113 (Value.agg #[Value.string { data := #[] }, Value.nilIface]) := ⟨Tryz.zeroValue113⟩
instance : FldT Tryz.prog 113 [none, some 1] := fldT_of Tryz.underlying113 (by kernel_rfl)
instance : NotIf Tryz.prog 121 := ⟨_, Tryz.underlying121, rfl⟩
instance : ZT Tryz.prog 121 [Value.pointer none] := ⟨_, Tryz.zeroValue121, rfl⟩
instance : NAgg Tryz.prog 121 := ⟨Tryz.isAgg121⟩
instance : OneT Tryz.prog 121 (Value.pointer none) := ⟨Tryz.isAgg121, Tryz.sizeOf121, Tryz.zeroValue121⟩
instance : ZV Tryz.prog 121 (Value.pointer none) := ⟨Tryz.zeroValue121⟩
instance : NotIf Tryz.prog 127 := ⟨_, Tryz.underlying127, rfl⟩
instance : ZT Tryz.prog 127 [Value.pointer none] := ⟨_, Tryz.zeroValue127, rfl⟩
instance : NAgg Tryz.prog 127 := ⟨Tryz.isAgg127⟩
instance : OneT Tryz.prog 127 (Value.pointer none) := ⟨Tryz.isAgg127, Tryz.sizeOf127, Tryz.zeroValue127⟩
instance : ZV Tryz.prog 127 (Value.pointer none) := ⟨Tryz.zeroValue127⟩
instance : NotIf Tryz.prog 129 := ⟨_, Tryz.underlying129, rfl⟩
instance : ZT Tryz.prog 129 [Value.slice none 0 0, Value.int IntKind.i64 0, Value.int IntKind.i64 0] := ⟨_, Tryz.zeroValue129, rfl⟩
instance : StT Tryz.prog 129 [(0, 1), (1, 1), (2, 1)] [Value.slice none 0 0, Value.int IntKind.i64 0, Value.int IntKind.i64 0] := ⟨fld_of Tryz.underlying129 (by kernel_rfl), fun parts => by kernel_rfl, Tryz.sizeOf129, Tryz.isAgg129, Tryz.zeroValue129⟩
instance : ZV Tryz.prog 129 (Value.agg #[Value.slice none 0 0, Value.int IntKind.i64 0, Value.int IntKind.i64 0]) := ⟨Tryz.zeroValue129⟩
instance : FldT Tryz.prog 129 [some 0, some 1, some 2] := fldT_of Tryz.underlying129 (by kernel_rfl)
instance : NotIf Tryz.prog 134 := ⟨_, Tryz.underlying134, rfl⟩
instance : ZT Tryz.prog 134 [Value.slice none 0 0] := ⟨_, Tryz.zeroValue134, rfl⟩
instance : StT Tryz.prog 134 [(0, 1)] [Value.slice none 0 0] := ⟨fld_of Tryz.underlying134 (by kernel_rfl), fun parts => by kernel_rfl, Tryz.sizeOf134, Tryz.isAgg134, Tryz.zeroValue134⟩
instance : ZV Tryz.prog 134 (Value.agg #[Value.slice none 0 0]) := ⟨Tryz.zeroValue134⟩
instance : FldT Tryz.prog 134 [some 0] := fldT_of Tryz.underlying134 (by kernel_rfl)
instance : NotIf Tryz.prog 135 := ⟨_, Tryz.underlying135, rfl⟩
instance : ZT Tryz.prog 135 [Value.string { data := #[] }] := ⟨_, Tryz.zeroValue135, rfl⟩
instance : StT Tryz.prog 135 [(0, 1)] [Value.string { data := #[] }] := ⟨fld_of Tryz.underlying135 (by kernel_rfl), fun parts => by kernel_rfl, Tryz.sizeOf135, Tryz.isAgg135, Tryz.zeroValue135⟩
instance : ZV Tryz.prog 135 (Value.agg #[Value.string { data := #[] }]) := ⟨Tryz.zeroValue135⟩
instance : EqT Tryz.prog 135 [.s] := ⟨by kernel_rfl, by kernel_rfl, by kernel_rfl, by kernel_rfl⟩
instance : FldT Tryz.prog 135 [some 0] := fldT_of Tryz.underlying135 (by kernel_rfl)
instance : NotIf Tryz.prog 137 := ⟨_, Tryz.underlying137, rfl⟩
instance : ZT Tryz.prog 137 [Value.int IntKind.i64 0] := ⟨_, Tryz.zeroValue137, rfl⟩
instance : StT Tryz.prog 137 [(0, 1)] [Value.int IntKind.i64 0] := ⟨fld_of Tryz.underlying137 (by kernel_rfl), fun parts => by kernel_rfl, Tryz.sizeOf137, Tryz.isAgg137, Tryz.zeroValue137⟩
instance : ZV Tryz.prog 137 (Value.agg #[Value.int IntKind.i64 0]) := ⟨Tryz.zeroValue137⟩
instance : EqT Tryz.prog 137 [.i] := ⟨by kernel_rfl, by kernel_rfl, by kernel_rfl, by kernel_rfl⟩
instance : FldT Tryz.prog 137 [some 0] := fldT_of Tryz.underlying137 (by kernel_rfl)
instance : SlT Tryz.prog 139 64 1 := ⟨Tryz.underlying139, Tryz.sizeOf64⟩
instance : NotIf Tryz.prog 139 := ⟨_, Tryz.underlying139, rfl⟩
instance : ZT Tryz.prog 139 [Value.slice none 0 0] := ⟨_, Tryz.zeroValue139, rfl⟩
instance : NAgg Tryz.prog 139 := ⟨Tryz.isAgg139⟩
instance : OneT Tryz.prog 139 (Value.slice none 0 0) := ⟨Tryz.isAgg139, Tryz.sizeOf139, Tryz.zeroValue139⟩
instance : ZV Tryz.prog 139 (Value.slice none 0 0) := ⟨Tryz.zeroValue139⟩
instance : NotIf Tryz.prog 141 := ⟨_, Tryz.underlying141, rfl⟩
instance : ZT Tryz.prog 141 [Value.int IntKind.i64 0, Value.int IntKind.i64 0, Value.int IntKind.i64 0, Value.int IntKind.i64 0, Value.slice none 0 0] := ⟨_, Tryz.zeroValue141, rfl⟩
instance : StT Tryz.prog 141 [(0, 3), (3, 1), (4, 1)] [Value.int IntKind.i64 0, Value.int IntKind.i64 0, Value.int IntKind.i64 0, Value.int IntKind.i64 0, Value.slice none 0 0] := ⟨fld_of Tryz.underlying141 (by kernel_rfl), fun parts => by kernel_rfl, Tryz.sizeOf141, Tryz.isAgg141, Tryz.zeroValue141⟩
instance : ZV Tryz.prog 141 (Value.agg #[Value.int IntKind.i64 0, Value.int IntKind.i64 0, Value.int IntKind.i64 0, Value.int IntKind.i64 0, Value.slice none 0 0]) := ⟨Tryz.zeroValue141⟩
instance : FldT Tryz.prog 141 [none, some 3, some 4] := fldT_of Tryz.underlying141 (by kernel_rfl)
instance : NotIf Tryz.prog 143 := ⟨_, Tryz.underlying143, rfl⟩
instance : ZT Tryz.prog 143 [Value.int IntKind.i64 0, Value.int IntKind.i64 0, Value.int IntKind.i64 0, Value.int IntKind.i64 0, Value.slice none 0 0, Value.nilIface] := ⟨_, Tryz.zeroValue143, rfl⟩
instance : StT Tryz.prog 143 [(0, 5), (5, 1)] [Value.int IntKind.i64 0, Value.int IntKind.i64 0, Value.int IntKind.i64 0, Value.int IntKind.i64 0, Value.slice none 0 0, Value.nilIface] := ⟨fld_of Tryz.underlying143 (by kernel_rfl), fun parts => by kernel_rfl, Tryz.sizeOf143, Tryz.isAgg143, Tryz.zeroValue143⟩
instance : ZV Tryz.prog 143 (Value.agg #[Value.int IntKind.i64 0, Value.int IntKind.i64 0, Value.int IntKind.i64 0, Value.int IntKind.i64 0, Value.slice none 0 0, Value.nilIface]) := ⟨Tryz.zeroValue143⟩
instance : FldT Tryz.prog 143 [none, some 5] := fldT_of Tryz.underlying143 (by kernel_rfl)
instance : NotIf Tryz.prog 148 := ⟨_, Tryz.underlying148, rfl⟩
instance : ZT Tryz.prog 148 [Value.nilIface, Value.int IntKind.i64 0, Value.int IntKind.i64 0, Value.int IntKind.i64 0, Value.int IntKind.i64 0, Value.slice none 0 0, Value.nilIface] := ⟨_, Tryz.zeroValue148, rfl⟩
instance : StT Tryz.prog 148 [(0, 1), (1, 5), (6, 1)] [Value.nilIface, Value.int IntKind.i64 0, Value.int IntKind.i64 0, Value.int IntKind.i64 0, Value.int IntKind.i64 0, Value.slice none 0 0, Value.nilIface] := ⟨fld_of Tryz.underlying148 (by kernel_rfl), fun parts => by kernel_rfl, Tryz.sizeOf148, Tryz.isAgg148, Tryz.zeroValue148⟩
instance : ZV Tryz.prog 148 (Value.agg #[Value.nilIface, Value.int IntKind.i64 0, Value.int IntKind.i64 0, Value.int IntKind.i64 0, Value.int IntKind.i64 0, Value.slice none 0 0, Value.nilIface]) := ⟨Tryz.zeroValue148⟩
instance : FldT Tryz.prog 148 [some 0, none, some 6] := fldT_of Tryz.underlying148 (by kernel_rfl)
instance : NotIf Tryz.prog 150 := ⟨_, Tryz.underlying150, rfl⟩
instance : ZT Tryz.prog 150 [Value.nilIface, Value.slice none 0 0] := ⟨_, Tryz.zeroValue150, rfl⟩
instance : StT Tryz.prog 150 [(0, 1), (1, 1)] [Value.nilIface, Value.slice none 0 0] := ⟨fld_of Tryz.underlying150 (by kernel_rfl), fun parts => by kernel_rfl, Tryz.sizeOf150, Tryz.isAgg150, Tryz.zeroValue150⟩
instance : ZV Tryz.prog 150 (Value.agg #[Value.nilIface, Value.slice none 0 0]) := ⟨Tryz.zeroValue150⟩
instance : FldT Tryz.prog 150 [some 0, some 1] := fldT_of Tryz.underlying150 (by kernel_rfl)
instance : NotIf Tryz.prog 154 := ⟨_, Tryz.underlying154, rfl⟩
instance : ZT Tryz.prog 154 [Value.nilFunc] := ⟨_, Tryz.zeroValue154, rfl⟩
instance : NAgg Tryz.prog 154 := ⟨Tryz.isAgg154⟩
instance : OneT Tryz.prog 154 (Value.nilFunc) := ⟨Tryz.isAgg154, Tryz.sizeOf154, Tryz.zeroValue154⟩
instance : ZV Tryz.prog 154 (Value.nilFunc) := ⟨Tryz.zeroValue154⟩
instance : NotIf Tryz.prog 161 := ⟨_, Tryz.underlying161, rfl⟩
instance : ZT Tryz.prog 161 [Value.pointer none] := ⟨_, Tryz.zeroValue161, rfl⟩
instance : NAgg Tryz.prog 161 := ⟨Tryz.isAgg161⟩
instance : OneT Tryz.prog 161 (Value.pointer none) := ⟨Tryz.isAgg161, Tryz.sizeOf161, Tryz.zeroValue161⟩
instance : ZV Tryz.prog 161 (Value.pointer none) := ⟨Tryz.zeroValue161⟩
instance : SlT Tryz.prog 162 5 1 := ⟨Tryz.underlying162, Tryz.sizeOf5⟩
instance : NotIf Tryz.prog 162 := ⟨_, Tryz.underlying162, rfl⟩
instance : ZT Tryz.prog 162 [Value.slice none 0 0] := ⟨_, Tryz.zeroValue162, rfl⟩
instance : NAgg Tryz.prog 162 := ⟨Tryz.isAgg162⟩
instance : OneT Tryz.prog 162 (Value.slice none 0 0) := ⟨Tryz.isAgg162, Tryz.sizeOf162, Tryz.zeroValue162⟩
instance : ZV Tryz.prog 162 (Value.slice none 0 0) := ⟨Tryz.zeroValue162⟩
instance : NotIf Tryz.prog 164 := ⟨_, Tryz.underlying164, rfl⟩
instance : ZT Tryz.prog 164 [Value.pointer none, Value.slice none 0 0] := ⟨_, Tryz.zeroValue164, rfl⟩
instance : StT Tryz.prog 164 [(0, 1), (1, 1)] [Value.pointer none, Value.slice none 0 0] := ⟨fld_of Tryz.underlying164 (by kernel_rfl), fun parts => by kernel_rfl, Tryz.sizeOf164, Tryz.isAgg164, Tryz.zeroValue164⟩
instance : ZV Tryz.prog 164 (Value.agg #[Value.pointer none, Value.slice none 0 0]) := ⟨Tryz.zeroValue164⟩
instance : FldT Tryz.prog 164 [some 0, some 1] := fldT_of Tryz.underlying164 (by kernel_rfl)
instance : NotIf Tryz.prog 194 := ⟨_, Tryz.underlying194, rfl⟩
instance : ZT Tryz.prog 194 [Value.pointer none] := ⟨_, Tryz.zeroValue194, rfl⟩
instance : NAgg Tryz.prog 194 := ⟨Tryz.isAgg194⟩
instance : OneT Tryz.prog 194 (Value.pointer none) := ⟨Tryz.isAgg194, Tryz.sizeOf194, Tryz.zeroValue194⟩
instance : ZV Tryz.prog 194 (Value.pointer none) := ⟨Tryz.zeroValue194⟩
instance : IfT Tryz.prog 204 := ⟨_, Tryz.underlying204⟩
instance : ZT Tryz.prog 204 [Value.nilIface] := ⟨_, Tryz.zeroValue204, rfl⟩
instance : NAgg Tryz.prog 204 := ⟨Tryz.isAgg204⟩
instance : OneT Tryz.prog 204 (Value.nilIface) := ⟨Tryz.isAgg204, Tryz.sizeOf204, Tryz.zeroValue204⟩
instance : ZV Tryz.prog 204 (Value.nilIface) := ⟨Tryz.zeroValue204⟩
instance : IfT Tryz.prog 207 := ⟨_, Tryz.underlying207⟩
instance : ZT Tryz.prog 207 [Value.nilIface] := ⟨_, Tryz.zeroValue207, rfl⟩
instance : NAgg Tryz.prog 207 := ⟨Tryz.isAgg207⟩
instance : OneT Tryz.prog 207 (Value.nilIface) := ⟨Tryz.isAgg207, Tryz.sizeOf207, Tryz.zeroValue207⟩
instance : ZV Tryz.prog 207 (Value.nilIface) := ⟨Tryz.zeroValue207⟩
instance : IfT Tryz.prog 209 := ⟨_, Tryz.underlying209⟩
instance : ZT Tryz.prog 209 [Value.nilIface] := ⟨_, Tryz.zeroValue209, rfl⟩
instance : NAgg Tryz.prog 209 := ⟨Tryz.isAgg209⟩
instance : OneT Tryz.prog 209 (Value.nilIface) := ⟨Tryz.isAgg209, Tryz.sizeOf209, Tryz.zeroValue209⟩
instance : ZV Tryz.prog 209 (Value.nilIface) := ⟨Tryz.zeroValue209⟩
instance : SlT Tryz.prog 210 25 1 := ⟨Tryz.underlying210, Tryz.sizeOf25⟩
instance : NotIf Tryz.prog 210 := ⟨_, Tryz.underlying210, rfl⟩
instance : ZT Tryz.prog 210 [Value.slice none 0 0] := ⟨_, Tryz.zeroValue210, rfl⟩
instance : NAgg Tryz.prog 210 := ⟨Tryz.isAgg210⟩
instance : OneT Tryz.prog 210 (Value.slice none 0 0) := ⟨Tryz.isAgg210, Tryz.sizeOf210, Tryz.zeroValue210⟩
instance : ZV Tryz.prog 210 (Value.slice none 0 0) := ⟨Tryz.zeroValue210⟩
instance : NotIf Tryz.prog 216 := ⟨_, Tryz.underlying216, rfl⟩
instance : ZT Tryz.prog 216 [Value.int IntKind.u8 0, Value.int IntKind.u8 0] := ⟨_, Tryz.zeroValue216, rfl⟩
instance : StT Tryz.prog 216 [(0, 1), (1, 1)] [Value.int IntKind.u8 0, Value.int IntKind.u8 0] := ⟨fld_of Tryz.underlying216 (by kernel_rfl), fun parts => by kernel_rfl, Tryz.sizeOf216, Tryz.isAgg216, Tryz.zeroValue216⟩
instance : ZV Tryz.prog 216 (Value.agg #[Value.int IntKind.u8 0, Value.int IntKind.u8 0]) := ⟨Tryz.zeroValue216⟩
instance : FldT Tryz.prog 216 [some 0, some 1] := fldT_of Tryz.underlying216 (by kernel_rfl)
instance : NotIf Tryz.prog 218 := ⟨_, Tryz.underlying218, rfl⟩
instance : IntT Tryz.prog 218 .u64 := ⟨Tryz.underlying218⟩
instance : ZT Tryz.prog 218 [Value.int IntKind.u64 0] := ⟨_, Tryz.zeroValue218, rfl⟩
instance : NAgg Tryz.prog 218 := ⟨Tryz.isAgg218⟩
instance : OneT Tryz.prog 218 (Value.int IntKind.u64 0) := ⟨Tryz.isAgg218, Tryz.sizeOf218, Tryz.zeroValue218⟩
instance : ZV Tryz.prog 218 (Value.int IntKind.u64 0) := ⟨Tryz.zeroValue218⟩
instance : NotIf Tryz.prog 225 := ⟨_, Tryz.underlying225, rfl⟩
instance : IntT Tryz.prog 225 .u64 := ⟨Tryz.underlying225⟩
instance : ZT Tryz.prog 225 [Value.int IntKind.u64 0] := ⟨_, Tryz.zeroValue225, rfl⟩
instance : NAgg Tryz.prog 225 := ⟨Tryz.isAgg225⟩
instance : OneT Tryz.prog 225 (Value.int IntKind.u64 0) := ⟨Tryz.isAgg225, Tryz.sizeOf225, Tryz.zeroValue225⟩
instance : ZV Tryz.prog 225 (Value.int IntKind.u64 0) := ⟨Tryz.zeroValue225⟩
instance : NotIf Tryz.prog 234 := ⟨_, Tryz.underlying234, rfl⟩
instance : IntT Tryz.prog 234 .u32 := ⟨Tryz.underlying234⟩
instance : ZT Tryz.prog 234 [Value.int IntKind.u32 0] := ⟨_, Tryz.zeroValue234, rfl⟩
instance : NAgg Tryz.prog 234 := ⟨Tryz.isAgg234⟩
instance : OneT Tryz.prog 234 (Value.int IntKind.u32 0) := ⟨Tryz.isAgg234, Tryz.sizeOf234, Tryz.zeroValue234⟩
instance : ZV Tryz.prog 234 (Value.int IntKind.u32 0) := ⟨Tryz.zeroValue234⟩
instance : NotIf Tryz.prog 263 := ⟨_, Tryz.underlying263, rfl⟩
instance : IntT Tryz.prog 263 .u16 := ⟨Tryz.underlying263⟩
instance : ZT Tryz.prog 263 [Value.int IntKind.u16 0] := ⟨_, Tryz.zeroValue263, rfl⟩
instance : NAgg Tryz.prog 263 := ⟨Tryz.isAgg263⟩
instance : OneT Tryz.prog 263 (Value.int IntKind.u16 0) := ⟨Tryz.isAgg263, Tryz.sizeOf263, Tryz.zeroValue263⟩
instance : ZV Tryz.prog 263 (Value.int IntKind.u16 0) := ⟨Tryz.zeroValue263⟩
instance : NotIf Tryz.prog 270 := ⟨_, Tryz.underlying270, rfl⟩
instance : ZT Tryz.prog 270 [Value.pointer none] := ⟨_, Tryz.zeroValue270, rfl⟩
instance : NAgg Tryz.prog 270 := ⟨Tryz.isAgg270⟩
instance : OneT Tryz.prog 270 (Value.pointer none) := ⟨Tryz.isAgg270, Tryz.sizeOf270, Tryz.zeroValue270⟩
instance : ZV Tryz.prog 270 (Value.pointer none) := ⟨Tryz.zeroValue270⟩
instance : ElT Tryz.prog 22 30 5 [Value.int IntKind.i64 0, Value.int IntKind.i64 0, Value.int IntKind.i64 0, Value.string { data := #[] }, Value.int IntKind.i64 0] 48 := elT_of (z := Value.agg #[Value.int IntKind.i64 0, Value.int IntKind.i64 0, Value.int IntKind.i64 0, Value.string { data := #[] }, Value.int IntKind.i64 0]) Tryz.underlying22 (by kernel_rfl) rfl rfl (by decide)
instance : ElT Tryz.prog 23 35 7 [Value.int IntKind.i64 0, Value.int IntKind.i64 0, Value.int IntKind.i64 0, Value.int IntKind.i64 0, Value.int IntKind.i64 0, Value.slice none 0 0, Value.string { data := #[] }] 80 := elT_of (z := Value.agg #[Value.int IntKind.i64 0, Value.int IntKind.i64 0, Value.int IntKind.i64 0, Value.int IntKind.i64 0, Value.int IntKind.i64 0, Value.slice none 0 0, Value.string { data := #[] }]) Tryz.underlying23 (by kernel_rfl) rfl rfl (by decide)
instance : ElT Tryz.prog 33 3 1 [Value.int IntKind.i64 0] 8 := elT_of (z := Value.int IntKind.i64 0) Tryz.underlying33 (by kernel_rfl) rfl rfl (by decide)
instance : ElT Tryz.prog 51 93 8 [Value.int IntKind.i64 0, Value.int IntKind.i64 0, Value.int IntKind.i64 0, Value.int IntKind.i64 0, Value.int IntKind.i64 0, Value.int IntKind.i64 0, Value.slice none 0 0, Value.string { data := #[] }] 88 := elT_of (z := Value.agg #[Value.int IntKind.i64 0, Value.int IntKind.i64 0, Value.int IntKind.i64 0, Value.int IntKind.i64 0, Value.int IntKind.i64 0, Value.int IntKind.i64 0, Value.slice none 0 0, Value.string { data := #[] }]) Tryz.underlying51 (by kernel_rfl) rfl rfl (by decide)
instance : ElT Tryz.prog 86 97 2 [Value.int IntKind.i64 0, Value.int IntKind.i64 0] 16 := elT_of (z := Value.agg #[Value.int IntKind.i64 0, Value.int IntKind.i64 0]) Tryz.underlying86 (by kernel_rfl) rfl rfl (by decide)
instance : ElT Tryz.prog 94 88 2 [Value.slice none 0 0, Value.slice none 0 0] 48 := elT_of (z := Value.agg #[Value.slice none 0 0, Value.slice none 0 0]) Tryz.underlying94 (by kernel_rfl) rfl rfl (by decide)
instance : ElT Tryz.prog 99 105 3 [Value.int IntKind.i64 0, Value.int IntKind.i64 0, Value.int IntKind.i64 0] 24 := elT_of (z := Value.agg #[Value.int IntKind.i64 0, Value.int IntKind.i64 0, Value.int IntKind.i64 0]) Tryz.underlying99 (by kernel_rfl) rfl rfl (by decide)
instance : ElT Tryz.prog 107 9 1 [Value.string { data := #[] }] 16 := elT_of (z := Value.string { data := #[] }) Tryz.underlying107 (by kernel_rfl) rfl rfl (by decide)
instance : ElT Tryz.prog 139 64 1 [Value.nilIface] 16 := elT_of (z := Value.nilIface) Tryz.underlying139 (by kernel_rfl) rfl rfl (by decide)
instance : ElT Tryz.prog 162 5 1 [Value.int IntKind.u8 0] 1 := elT_of (z := Value.int IntKind.u8 0) Tryz.underlying162 (by kernel_rfl) rfl rfl (by decide)
instance : ElT Tryz.prog 210 25 1 [Value.nilIface] 16 := elT_of (z := Value.nilIface) Tryz.underlying210 (by kernel_rfl) rfl rfl (by decide)
instance : FnT Tryz.prog 3 := ⟨_, _, Tryz.func3, rfl, by decide⟩
instance : FnT Tryz.prog 4 := ⟨_, _, Tryz.func4, rfl, by decide⟩
instance : FnT Tryz.prog 5 := ⟨_, _, Tryz.func5, rfl, by decide⟩
instance : FnT Tryz.prog 6 := ⟨_, _, Tryz.func6, rfl, by decide⟩
instance : FnT Tryz.prog 7 := ⟨_, _, Tryz.func7, rfl, by decide⟩
instance : FnT Tryz.prog 8 := ⟨_, _, Tryz.func8, rfl, by decide⟩
instance : FnT Tryz.prog 9 := ⟨_, _, Tryz.func9, rfl, by decide⟩
instance : FnT Tryz.prog 10 := ⟨_, _, Tryz.func10, rfl, by decide⟩
instance : FnT Tryz.prog 11 := ⟨_, _, Tryz.func11, rfl, by decide⟩
instance : FnT Tryz.prog 12 := ⟨_, _, Tryz.func12, rfl, by decide⟩
instance : FnT Tryz.prog 13 := ⟨_, _, Tryz.func13, rfl, by decide⟩
instance : FnT Tryz.prog 14 := ⟨_, _, Tryz.func14, rfl, by decide⟩
instance : FnT Tryz.prog 15 := ⟨_, _, Tryz.func15, rfl, by decide⟩
instance : FnT Tryz.prog 16 := ⟨_, _, Tryz.func16, rfl, by decide⟩
instance : FnT Tryz.prog 17 := ⟨_, _, Tryz.func17, rfl, by decide⟩
instance : FnT Tryz.prog 18 := ⟨_, _, Tryz.func18, rfl, by decide⟩
instance : FnT Tryz.prog 19 := ⟨_, _, Tryz.func19, rfl, by decide⟩
instance : FnT Tryz.prog 20 := ⟨_, _, Tryz.func20, rfl, by decide⟩
instance : FnT Tryz.prog 21 := ⟨_, _, Tryz.func21, rfl, by decide⟩
instance : FnT Tryz.prog 22 := ⟨_, _, Tryz.func22, rfl, by decide⟩
instance : FnT Tryz.prog 23 := ⟨_, _, Tryz.func23, rfl, by decide⟩
instance : FnT Tryz.prog 24 := ⟨_, _, Tryz.func24, rfl, by decide⟩
instance : FnT Tryz.prog 25 := ⟨_, _, Tryz.func25, rfl, by decide⟩
instance : FnT Tryz.prog 26 := ⟨_, _, Tryz.func26, rfl, by decide⟩
instance : FnT Tryz.prog 27 := ⟨_, _, Tryz.func27, rfl, by decide⟩
instance : FnT Tryz.prog 28 := ⟨_, _, Tryz.func28, rfl, by decide⟩
instance : FnT Tryz.prog 29 := ⟨_, _, Tryz.func29, rfl, by decide⟩
instance : FnT Tryz.prog 30 := ⟨_, _, Tryz.func30, rfl, by decide⟩
instance : FnT Tryz.prog 31 := ⟨_, _, Tryz.func31, rfl, by decide⟩
instance : FnT Tryz.prog 32 := ⟨_, _, Tryz.func32, rfl, by decide⟩
instance : FnT Tryz.prog 33 := ⟨_, _, Tryz.func33, rfl, by decide⟩
instance : FnT Tryz.prog 34 := ⟨_, _, Tryz.func34, rfl, by decide⟩
instance : FnT Tryz.prog 35 := ⟨_, _, Tryz.func35, rfl, by decide⟩
instance : FnT Tryz.prog 36 := ⟨_, _, Tryz.func36, rfl, by decide⟩
instance : FnT Tryz.prog 37 := ⟨_, _, Tryz.func37, rfl, by decide⟩
instance : FnT Tryz.prog 38 := ⟨_, _, Tryz.func38, rfl, by decide⟩
instance : FnT Tryz.prog 39 := ⟨_, _, Tryz.func39, rfl, by decide⟩
instance : FnT Tryz.prog 40 := ⟨_, _, Tryz.func40, rfl, by decide⟩
instance : FnT Tryz.prog 41 := ⟨_, _, Tryz.func41, rfl, by decide⟩
instance : FnT Tryz.prog 42 := ⟨_, _, Tryz.func42, rfl, by decide⟩
instance : FnT Tryz.prog 43 := ⟨_, _, Tryz.func43, rfl, by decide⟩
instance : FnT Tryz.prog 44 := ⟨_, _, Tryz.func44, rfl, by decide⟩
instance : FnT Tryz.prog 45 := ⟨_, _, Tryz.func45, rfl, by decide⟩
instance : FnT Tryz.prog 46 := ⟨_, _, Tryz.func46, rfl, by decide⟩
instance : FnT Tryz.prog 47 := ⟨_, _, Tryz.func47, rfl, by decide⟩
instance : FnT Tryz.prog 48 := ⟨_, _, Tryz.func48, rfl, by decide⟩
instance : FnT Tryz.prog 49 := ⟨_, _, Tryz.func49, rfl, by decide⟩
instance : FnT Tryz.prog 50 := ⟨_, _, Tryz.func50, rfl, by decide⟩
instance : FnT Tryz.prog 52 := ⟨_, _, Tryz.func52, rfl, by decide⟩
instance : FnT Tryz.prog 53 := ⟨_, _, Tryz.func53, rfl, by decide⟩
instance : FnT Tryz.prog 54 := ⟨_, _, Tryz.func54, rfl, by decide⟩
instance : FnT Tryz.prog 55 := ⟨_, _, Tryz.func55, rfl, by decide⟩
instance : FnT Tryz.prog 56 := ⟨_, _, Tryz.func56, rfl, by decide⟩
instance : FnT Tryz.prog 57 := ⟨_, _, Tryz.func57, rfl, by decide⟩
instance : FnT Tryz.prog 58 := ⟨_, _, Tryz.func58, rfl, by decide⟩
instance : FnT Tryz.prog 59 := ⟨_, _, Tryz.func59, rfl, by decide⟩
instance : FnT Tryz.prog 60 := ⟨_, _, Tryz.func60, rfl, by decide⟩
instance : FnT Tryz.prog 61 := ⟨_, _, Tryz.func61, rfl, by decide⟩
instance : FnT Tryz.prog 62 := ⟨_, _, Tryz.func62, rfl, by decide⟩
instance : FnT Tryz.prog 63 := ⟨_, _, Tryz.func63, rfl, by decide⟩
instance : FnT Tryz.prog 64 := ⟨_, _, Tryz.func64, rfl, by decide⟩
instance : FnT Tryz.prog 65 := ⟨_, _, Tryz.func65, rfl, by decide⟩
instance : FnT Tryz.prog 66 := ⟨_, _, Tryz.func66, rfl, by decide⟩
instance : FnT Tryz.prog 67 := ⟨_, _, Tryz.func67, rfl, by decide⟩
instance : FnT Tryz.prog 68 := ⟨_, _, Tryz.func68, rfl, by decide⟩
instance : FnT Tryz.prog 69 := ⟨_, _, Tryz.func69, rfl, by decide⟩
instance : FnT Tryz.prog 70 := ⟨_, _, Tryz.func70, rfl, by decide⟩
instance : FnT Tryz.prog 71 := ⟨_, _, Tryz.func71, rfl, by decide⟩
instance : FnT Tryz.prog 72 := ⟨_, _, Tryz.func72, rfl, by decide⟩
instance : FnT Tryz.prog 73 := ⟨_, _, Tryz.func73, rfl, by decide⟩
instance : FnT Tryz.prog 74 := ⟨_, _, Tryz.func74, rfl, by decide⟩
instance : FnT Tryz.prog 75 := ⟨_, _, Tryz.func75, rfl, by decide⟩
instance : FnT Tryz.prog 76 := ⟨_, _, Tryz.func76, rfl, by decide⟩
instance : FnT Tryz.prog 77 := ⟨_, _, Tryz.func77, rfl, by decide⟩
instance : FnT Tryz.prog 78 := ⟨_, _, Tryz.func78, rfl, by decide⟩
instance : FnT Tryz.prog 79 := ⟨_, _, Tryz.func79, rfl, by decide⟩
instance : FnT Tryz.prog 80 := ⟨_, _, Tryz.func80, rfl, by decide⟩
instance : FnT Tryz.prog 81 := ⟨_, _, Tryz.func81, rfl, by decide⟩
instance : FnT Tryz.prog 82 := ⟨_, _, Tryz.func82, rfl, by decide⟩
instance : FnT Tryz.prog 83 := ⟨_, _, Tryz.func83, rfl, by decide⟩
instance : FnT Tryz.prog 84 := ⟨_, _, Tryz.func84, rfl, by decide⟩
instance : FnT Tryz.prog 85 := ⟨_, _, Tryz.func85, rfl, by decide⟩
instance : FnT Tryz.prog 86 := ⟨_, _, Tryz.func86, rfl, by decide⟩
instance : FnT Tryz.prog 87 := ⟨_, _, Tryz.func87, rfl, by decide⟩
instance : FnT Tryz.prog 88 := ⟨_, _, Tryz.func88, rfl, by decide⟩
instance : FnT Tryz.prog 93 := ⟨_, _, Tryz.func93, rfl, by decide⟩
instance : FnT Tryz.prog 94 := ⟨_, _, Tryz.func94, rfl, by decide⟩
instance : FnT Tryz.prog 95 := ⟨_, _, Tryz.func95, rfl, by decide⟩
instance : FnT Tryz.prog 96 := ⟨_, _, Tryz.func96, rfl, by decide⟩
instance : FnT Tryz.prog 97 := ⟨_, _, Tryz.func97, rfl, by decide⟩
instance : FnT Tryz.prog 98 := ⟨_, _, Tryz.func98, rfl, by decide⟩
instance : FnT Tryz.prog 99 := ⟨_, _, Tryz.func99, rfl, by decide⟩
instance : FnT Tryz.prog 100 := ⟨_, _, Tryz.func100, rfl, by decide⟩
instance : FnT Tryz.prog 102 := ⟨_, _, Tryz.func102, rfl, by decide⟩
instance : FnT Tryz.prog 103 := ⟨_, _, Tryz.func103, rfl, by decide⟩
instance : FnT Tryz.prog 104 := ⟨_, _, Tryz.func104, rfl, by decide⟩
instance : FnT Tryz.prog 105 := ⟨_, _, Tryz.func105, rfl, by decide⟩
instance : FnT Tryz.prog 106 := ⟨_, _, Tryz.func106, rfl, by decide⟩
instance : FnT Tryz.prog 107 := ⟨_, _, Tryz.func107, rfl, by decide⟩
instance : FnT Tryz.prog 108 := ⟨_, _, Tryz.func108, rfl, by decide⟩
instance : FnT Tryz.prog 109 := ⟨_, _, Tryz.func109, rfl, by decide⟩
instance : FnT Tryz.prog 110 := ⟨_, _, Tryz.func110, rfl, by decide⟩
instance : FnT Tryz.prog 111 := ⟨_, _, Tryz.func111, rfl, by decide⟩
instance : FnT Tryz.prog 112 := ⟨_, _, Tryz.func112, rfl, by decide⟩
instance : FnT Tryz.prog 116 := ⟨_, _, Tryz.func116, rfl, by decide⟩
instance : FnT Tryz.prog 117 := ⟨_, _, Tryz.func117, rfl, by decide⟩
instance : FnT Tryz.prog 119 := ⟨_, _, Tryz.func119, rfl, by decide⟩
instance : FnT Tryz.prog 120 := ⟨_, _, Tryz.func120, rfl, by decide⟩
instance : FnT Tryz.prog 121 := ⟨_, _, Tryz.func121, rfl, by decide⟩
instance : FnT Tryz.prog 122 := ⟨_, _, Tryz.func122, rfl, by decide⟩
instance : FnT Tryz.prog 123 := ⟨_, _, Tryz.func123, rfl, by decide⟩
instance : FnT Tryz.prog 126 := ⟨_, _, Tryz.func126, rfl, by decide⟩
instance : FnT Tryz.prog 131 := ⟨_, _, Tryz.func131, rfl, by decide⟩
instance : FnT Tryz.prog 134 := ⟨_, _, Tryz.func134, rfl, by decide⟩
instance : FnT Tryz.prog 136 := ⟨_, _, Tryz.func136, rfl, by decide⟩
instance : FnT Tryz.prog 139 := ⟨_, _, Tryz.func139, rfl, by decide⟩
instance : FnT Tryz.prog 144 := ⟨_, _, Tryz.func144, rfl, by decide⟩
instance : FnT Tryz.prog 145 := ⟨_, _, Tryz.func145, rfl, by decide⟩
instance : FnT Tryz.prog 166 := ⟨_, _, Tryz.func166, rfl, by decide⟩
instance : FnT Tryz.prog 167 := ⟨_, _, Tryz.func167, rfl, by decide⟩
instance : FnT Tryz.prog 168 := ⟨_, _, Tryz.func168, rfl, by decide⟩
instance : FnT Tryz.prog 169 := ⟨_, _, Tryz.func169, rfl, by decide⟩
instance : FnT Tryz.prog 170 := ⟨_, _, Tryz.func170, rfl, by decide⟩
instance : FnT Tryz.prog 171 := ⟨_, _, Tryz.func171, rfl, by decide⟩
instance : FnT Tryz.prog 172 := ⟨_, _, Tryz.func172, rfl, by decide⟩
instance : FnT Tryz.prog 173 := ⟨_, _, Tryz.func173, rfl, by decide⟩
instance : FnT Tryz.prog 174 := ⟨_, _, Tryz.func174, rfl, by decide⟩
instance : FnT Tryz.prog 175 := ⟨_, _, Tryz.func175, rfl, by decide⟩
end Go.Proofs.YtgjmgmejojbdeaaGreatDoor
