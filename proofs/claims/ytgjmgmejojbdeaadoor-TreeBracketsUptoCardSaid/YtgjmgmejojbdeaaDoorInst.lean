/-
  The types and the functions of this seat, as the logic of walks asks for them. (Written by a program of this repo: inst.py.)
-/
import Derived.Test.YtgjmgmejojbdeaaDoorProg
import Derived.Test.YtgjmgmejojbdeaaDoorMore
namespace Go.Proofs.YtgjmgmejojbdeaaDoor
open Go
set_option maxRecDepth 100000
instance : NotIf Tryd.prog 2 := ⟨_, Tryd.underlying2, rfl⟩
instance : IntT Tryd.prog 2 .i64 := ⟨Tryd.underlying2⟩
instance : ZT Tryd.prog 2 [Value.int IntKind.i64 0] := ⟨_, Tryd.zeroValue2, rfl⟩
instance : NAgg Tryd.prog 2 := ⟨Tryd.isAgg2⟩
instance : OneT Tryd.prog 2 (Value.int IntKind.i64 0) := ⟨Tryd.isAgg2, Tryd.sizeOf2, Tryd.zeroValue2⟩
instance : ZV Tryd.prog 2 (Value.int IntKind.i64 0) := ⟨Tryd.zeroValue2⟩
instance : NotIf Tryd.prog 3 := ⟨_, Tryd.underlying3, rfl⟩
instance : IntT Tryd.prog 3 .i64 := ⟨Tryd.underlying3⟩
instance : ZT Tryd.prog 3 [Value.int IntKind.i64 0] := ⟨_, Tryd.zeroValue3, rfl⟩
instance : NAgg Tryd.prog 3 := ⟨Tryd.isAgg3⟩
instance : OneT Tryd.prog 3 (Value.int IntKind.i64 0) := ⟨Tryd.isAgg3, Tryd.sizeOf3, Tryd.zeroValue3⟩
instance : ZV Tryd.prog 3 (Value.int IntKind.i64 0) := ⟨Tryd.zeroValue3⟩
instance : NotIf Tryd.prog 4 := ⟨_, Tryd.underlying4, rfl⟩
instance : BoolT Tryd.prog 4 := ⟨Tryd.underlying4⟩
instance : ZT Tryd.prog 4 [Value.bool false] := ⟨_, Tryd.zeroValue4, rfl⟩
instance : NAgg Tryd.prog 4 := ⟨Tryd.isAgg4⟩
instance : OneT Tryd.prog 4 (Value.bool false) := ⟨Tryd.isAgg4, Tryd.sizeOf4, Tryd.zeroValue4⟩
instance : ZV Tryd.prog 4 (Value.bool false) := ⟨Tryd.zeroValue4⟩
instance : NotIf Tryd.prog 5 := ⟨_, Tryd.underlying5, rfl⟩
instance : IntT Tryd.prog 5 .u8 := ⟨Tryd.underlying5⟩
instance : ZT Tryd.prog 5 [Value.int IntKind.u8 0] := ⟨_, Tryd.zeroValue5, rfl⟩
instance : NAgg Tryd.prog 5 := ⟨Tryd.isAgg5⟩
instance : OneT Tryd.prog 5 (Value.int IntKind.u8 0) := ⟨Tryd.isAgg5, Tryd.sizeOf5, Tryd.zeroValue5⟩
instance : ZV Tryd.prog 5 (Value.int IntKind.u8 0) := ⟨Tryd.zeroValue5⟩
instance : NotIf Tryd.prog 9 := ⟨_, Tryd.underlying9, rfl⟩
instance : StrT Tryd.prog 9 := ⟨Tryd.underlying9⟩
instance : ZT Tryd.prog 9 [Value.string { data := #[] }] := ⟨_, Tryd.zeroValue9, rfl⟩
instance : NAgg Tryd.prog 9 := ⟨Tryd.isAgg9⟩
instance : OneT Tryd.prog 9 (Value.string { data := #[] }) := ⟨Tryd.isAgg9, Tryd.sizeOf9, Tryd.zeroValue9⟩
instance : ZV Tryd.prog 9 (Value.string { data := #[] }) := ⟨Tryd.zeroValue9⟩
instance : NotIf Tryd.prog 12 := ⟨_, Tryd.underlying12, rfl⟩
instance : IntT Tryd.prog 12 .u64 := ⟨Tryd.underlying12⟩
instance : ZT Tryd.prog 12 [Value.int IntKind.u64 0] := ⟨_, Tryd.zeroValue12, rfl⟩
instance : NAgg Tryd.prog 12 := ⟨Tryd.isAgg12⟩
instance : OneT Tryd.prog 12 (Value.int IntKind.u64 0) := ⟨Tryd.isAgg12, Tryd.sizeOf12, Tryd.zeroValue12⟩
instance : ZV Tryd.prog 12 (Value.int IntKind.u64 0) := ⟨Tryd.zeroValue12⟩
instance : IfT Tryd.prog 20 := ⟨_, Tryd.underlying20⟩
instance : ZT Tryd.prog 20 [Value.nilIface] := ⟨_, Tryd.zeroValue20, rfl⟩
instance : NAgg Tryd.prog 20 := ⟨Tryd.isAgg20⟩
instance : OneT Tryd.prog 20 (Value.nilIface) := ⟨Tryd.isAgg20, Tryd.sizeOf20, Tryd.zeroValue20⟩
instance : ZV Tryd.prog 20 (Value.nilIface) := ⟨Tryd.zeroValue20⟩
instance : NotIf Tryd.prog 21 := ⟨_, Tryd.underlying21, rfl⟩
instance : IntT Tryd.prog 21 .i32 := ⟨Tryd.underlying21⟩
instance : ZT Tryd.prog 21 [Value.int IntKind.i32 0] := ⟨_, Tryd.zeroValue21, rfl⟩
instance : NAgg Tryd.prog 21 := ⟨Tryd.isAgg21⟩
instance : OneT Tryd.prog 21 (Value.int IntKind.i32 0) := ⟨Tryd.isAgg21, Tryd.sizeOf21, Tryd.zeroValue21⟩
instance : ZV Tryd.prog 21 (Value.int IntKind.i32 0) := ⟨Tryd.zeroValue21⟩
instance : SlT Tryd.prog 22 30 5 := ⟨Tryd.underlying22, Tryd.sizeOf30⟩
instance : NotIf Tryd.prog 22 := ⟨_, Tryd.underlying22, rfl⟩
instance : ZT Tryd.prog 22 [Value.slice none 0 0] := ⟨_, Tryd.zeroValue22, rfl⟩
instance : NAgg Tryd.prog 22 := ⟨Tryd.isAgg22⟩
instance : OneT Tryd.prog 22 (Value.slice none 0 0) := ⟨Tryd.isAgg22, Tryd.sizeOf22, Tryd.zeroValue22⟩
instance : ZV Tryd.prog 22 (Value.slice none 0 0) := ⟨Tryd.zeroValue22⟩
instance : SlT Tryd.prog 23 35 7 := ⟨Tryd.underlying23, Tryd.sizeOf35⟩
instance : NotIf Tryd.prog 23 := ⟨_, Tryd.underlying23, rfl⟩
instance : ZT Tryd.prog 23 [Value.slice none 0 0] := ⟨_, Tryd.zeroValue23, rfl⟩
instance : NAgg Tryd.prog 23 := ⟨Tryd.isAgg23⟩
instance : OneT Tryd.prog 23 (Value.slice none 0 0) := ⟨Tryd.isAgg23, Tryd.sizeOf23, Tryd.zeroValue23⟩
instance : ZV Tryd.prog 23 (Value.slice none 0 0) := ⟨Tryd.zeroValue23⟩
instance : IfT Tryd.prog 24 := ⟨_, Tryd.underlying24⟩
instance : ZT Tryd.prog 24 [Value.nilIface] := ⟨_, Tryd.zeroValue24, rfl⟩
instance : NAgg Tryd.prog 24 := ⟨Tryd.isAgg24⟩
instance : OneT Tryd.prog 24 (Value.nilIface) := ⟨Tryd.isAgg24, Tryd.sizeOf24, Tryd.zeroValue24⟩
instance : ZV Tryd.prog 24 (Value.nilIface) := ⟨Tryd.zeroValue24⟩
instance : IfT Tryd.prog 25 := ⟨_, Tryd.underlying25⟩
instance : ZT Tryd.prog 25 [Value.nilIface] := ⟨_, Tryd.zeroValue25, rfl⟩
instance : NAgg Tryd.prog 25 := ⟨Tryd.isAgg25⟩
instance : OneT Tryd.prog 25 (Value.nilIface) := ⟨Tryd.isAgg25, Tryd.sizeOf25, Tryd.zeroValue25⟩
instance : ZV Tryd.prog 25 (Value.nilIface) := ⟨Tryd.zeroValue25⟩
instance : NotIf Tryd.prog 28 := ⟨_, Tryd.underlying28, rfl⟩
instance : IntT Tryd.prog 28 .i64 := ⟨Tryd.underlying28⟩
instance : ZT Tryd.prog 28 [Value.int IntKind.i64 0] := ⟨_, Tryd.zeroValue28, rfl⟩
instance : NAgg Tryd.prog 28 := ⟨Tryd.isAgg28⟩
instance : OneT Tryd.prog 28 (Value.int IntKind.i64 0) := ⟨Tryd.isAgg28, Tryd.sizeOf28, Tryd.zeroValue28⟩
instance : ZV Tryd.prog 28 (Value.int IntKind.i64 0) := ⟨Tryd.zeroValue28⟩
instance : NotIf Tryd.prog 30 := ⟨_, Tryd.underlying30, rfl⟩
instance : ZT Tryd.prog 30 [Value.int IntKind.i64 0, Value.int IntKind.i64 0, Value.int IntKind.i64 0, Value.string { data := #[] }, Value.int IntKind.i64 0] := ⟨_, Tryd.zeroValue30, rfl⟩
instance : StT Tryd.prog 30 [(0, 1), (1, 1), (2, 1), (3, 1), (4, 1)] [Value.int IntKind.i64 0, Value.int IntKind.i64 0, Value.int IntKind.i64 0, Value.string { data := #[] }, Value.int IntKind.i64 0] := ⟨fld_of Tryd.underlying30 (by kernel_rfl), fun parts => by kernel_rfl, Tryd.sizeOf30, Tryd.isAgg30, Tryd.zeroValue30⟩
instance : ZV Tryd.prog 30 (Value.agg #[Value.int IntKind.i64 0, Value.int IntKind.i64 0, Value.int IntKind.i64 0, Value.string { data := #[] }, Value.int IntKind.i64 0]) := ⟨Tryd.zeroValue30⟩
instance : EqT Tryd.prog 30 [.i, .i, .i, .s, .i] := ⟨by kernel_rfl, by kernel_rfl, by kernel_rfl, by kernel_rfl⟩
instance : FldT Tryd.prog 30 [some 0, some 1, some 2, some 3, some 4] := fldT_of Tryd.underlying30 (by kernel_rfl)
instance : NotIf Tryd.prog 32 := ⟨_, Tryd.underlying32, rfl⟩
instance : ZT Tryd.prog 32 [Value.int IntKind.i64 0, Value.int IntKind.i64 0, Value.int IntKind.i64 0] := ⟨_, Tryd.zeroValue32, rfl⟩
instance : StT Tryd.prog 32 [(0, 1), (1, 1), (2, 1)] [Value.int IntKind.i64 0, Value.int IntKind.i64 0, Value.int IntKind.i64 0] := ⟨fld_of Tryd.underlying32 (by kernel_rfl), fun parts => by kernel_rfl, Tryd.sizeOf32, Tryd.isAgg32, Tryd.zeroValue32⟩
instance : ZV Tryd.prog 32 (Value.agg #[Value.int IntKind.i64 0, Value.int IntKind.i64 0, Value.int IntKind.i64 0]) := ⟨Tryd.zeroValue32⟩
instance : EqT Tryd.prog 32 [.i, .i, .i] := ⟨by kernel_rfl, by kernel_rfl, by kernel_rfl, by kernel_rfl⟩
instance : FldT Tryd.prog 32 [some 0, some 1, some 2] := fldT_of Tryd.underlying32 (by kernel_rfl)
instance : SlT Tryd.prog 33 3 1 := ⟨Tryd.underlying33, Tryd.sizeOf3⟩
instance : NotIf Tryd.prog 33 := ⟨_, Tryd.underlying33, rfl⟩
instance : ZT Tryd.prog 33 [Value.slice none 0 0] := ⟨_, Tryd.zeroValue33, rfl⟩
instance : NAgg Tryd.prog 33 := ⟨Tryd.isAgg33⟩
instance : OneT Tryd.prog 33 (Value.slice none 0 0) := ⟨Tryd.isAgg33, Tryd.sizeOf33, Tryd.zeroValue33⟩
instance : ZV Tryd.prog 33 (Value.slice none 0 0) := ⟨Tryd.zeroValue33⟩
instance : NotIf Tryd.prog 35 := ⟨_, Tryd.underlying35, rfl⟩
instance : ZT Tryd.prog 35 [Value.int IntKind.i64 0, Value.int IntKind.i64 0, Value.int IntKind.i64 0, Value.int IntKind.i64 0, Value.int IntKind.i64 0, Value.slice none 0 0, Value.string { data := #[] }] := ⟨_, Tryd.zeroValue35, rfl⟩
instance : StT Tryd.prog 35 [(0, 1), (1, 3), (4, 1), (5, 1), (6, 1)] [Value.int IntKind.i64 0, Value.int IntKind.i64 0, Value.int IntKind.i64 0, Value.int IntKind.i64 0, Value.int IntKind.i64 0, Value.slice none 0 0, Value.string { data := #[] }] := ⟨fld_of Tryd.underlying35 (by kernel_rfl), fun parts => by kernel_rfl, Tryd.sizeOf35, Tryd.isAgg35, Tryd.zeroValue35⟩
instance : ZV Tryd.prog 35 (Value.agg #[Value.int IntKind.i64 0, Value.int IntKind.i64 0, Value.int IntKind.i64 0, Value.int IntKind.i64 0, Value.int IntKind.i64 0, Value.slice none 0 0, Value.string { data := #[] }]) := ⟨Tryd.zeroValue35⟩
instance : FldT Tryd.prog 35 [some 0, none, some 4, some 5, some 6] := fldT_of Tryd.underlying35 (by kernel_rfl)
instance : NotIf Tryd.prog 41 := ⟨_, Tryd.underlying41, rfl⟩
instance : IntT Tryd.prog 41 .i64 := ⟨Tryd.underlying41⟩
instance : ZT Tryd.prog 41 [Value.int IntKind.i64 0] := ⟨_, Tryd.zeroValue41, rfl⟩
instance : NAgg Tryd.prog 41 := ⟨Tryd.isAgg41⟩
instance : OneT Tryd.prog 41 (Value.int IntKind.i64 0) := ⟨Tryd.isAgg41, Tryd.sizeOf41, Tryd.zeroValue41⟩
instance : ZV Tryd.prog 41 (Value.int IntKind.i64 0) := ⟨Tryd.zeroValue41⟩
instance : NotIf Tryd.prog 44 := ⟨_, Tryd.underlying44, rfl⟩
instance : IntT Tryd.prog 44 .i64 := ⟨Tryd.underlying44⟩
instance : ZT Tryd.prog 44 [Value.int IntKind.i64 0] := ⟨_, Tryd.zeroValue44, rfl⟩
instance : NAgg Tryd.prog 44 := ⟨Tryd.isAgg44⟩
instance : OneT Tryd.prog 44 (Value.int IntKind.i64 0) := ⟨Tryd.isAgg44, Tryd.sizeOf44, Tryd.zeroValue44⟩
instance : ZV Tryd.prog 44 (Value.int IntKind.i64 0) := ⟨Tryd.zeroValue44⟩
instance : NotIf Tryd.prog 45 := ⟨_, Tryd.underlying45, rfl⟩
instance : ZT Tryd.prog 45 [Value.pointer none] := ⟨_, Tryd.zeroValue45, rfl⟩
instance : NAgg Tryd.prog 45 := ⟨Tryd.isAgg45⟩
instance : OneT Tryd.prog 45 (Value.pointer none) := ⟨Tryd.isAgg45, Tryd.sizeOf45, Tryd.zeroValue45⟩
instance : ZV Tryd.prog 45 (Value.pointer none) := ⟨Tryd.zeroValue45⟩
instance : NotIf Tryd.prog 47 := ⟨_, Tryd.underlying47, rfl⟩
instance : ZT Tryd.prog 47 [Value.slice none 0 0, Value.int IntKind.i64 0, Value.int IntKind.i64 0] := ⟨_, Tryd.zeroValue47, rfl⟩
instance : StT Tryd.prog 47 [(0, 1), (1, 1), (2, 1)] [Value.slice none 0 0, Value.int IntKind.i64 0, Value.int IntKind.i64 0] := ⟨fld_of Tryd.underlying47 (by kernel_rfl), fun parts => by kernel_rfl, Tryd.sizeOf47, Tryd.isAgg47, Tryd.zeroValue47⟩
instance : ZV Tryd.prog 47 (Value.agg #[Value.slice none 0 0, Value.int IntKind.i64 0, Value.int IntKind.i64 0]) := ⟨Tryd.zeroValue47⟩
instance : FldT Tryd.prog 47 [some 0, some 1, some 2] := fldT_of Tryd.underlying47 (by kernel_rfl)
instance : IfT Tryd.prog 48 := ⟨_, Tryd.underlying48⟩
instance : ZT Tryd.prog 48 [Value.nilIface] := ⟨_, Tryd.zeroValue48, rfl⟩
instance : NAgg Tryd.prog 48 := ⟨Tryd.isAgg48⟩
instance : OneT Tryd.prog 48 (Value.nilIface) := ⟨Tryd.isAgg48, Tryd.sizeOf48, Tryd.zeroValue48⟩
instance : ZV Tryd.prog 48 (Value.nilIface) := ⟨Tryd.zeroValue48⟩
instance : IfT Tryd.prog 49 := ⟨_, Tryd.underlying49⟩
instance : ZT Tryd.prog 49 [Value.nilIface] := ⟨_, Tryd.zeroValue49, rfl⟩
instance : NAgg Tryd.prog 49 := ⟨Tryd.isAgg49⟩
instance : OneT Tryd.prog 49 (Value.nilIface) := ⟨Tryd.isAgg49, Tryd.sizeOf49, Tryd.zeroValue49⟩
instance : ZV Tryd.prog 49 (Value.nilIface) := ⟨Tryd.zeroValue49⟩
instance : NotIf Tryd.prog 55 := ⟨_, Tryd.underlying55, rfl⟩
instance : ZT Tryd.prog 55 [Value.pointer none] := ⟨_, Tryd.zeroValue55, rfl⟩
instance : NAgg Tryd.prog 55 := ⟨Tryd.isAgg55⟩
instance : OneT Tryd.prog 55 (Value.pointer none) := ⟨Tryd.isAgg55, Tryd.sizeOf55, Tryd.zeroValue55⟩
instance : ZV Tryd.prog 55 (Value.pointer none) := ⟨Tryd.zeroValue55⟩
instance : NotIf Tryd.prog 57 := ⟨_, Tryd.underlying57, rfl⟩
instance : ZT Tryd.prog 57 [Value.slice none 0 0] := ⟨_, Tryd.zeroValue57, rfl⟩
instance : StT Tryd.prog 57 [(0, 1)] [Value.slice none 0 0] := ⟨fld_of Tryd.underlying57 (by kernel_rfl), fun parts => by kernel_rfl, Tryd.sizeOf57, Tryd.isAgg57, Tryd.zeroValue57⟩
instance : ZV Tryd.prog 57 (Value.agg #[Value.slice none 0 0]) := ⟨Tryd.zeroValue57⟩
instance : FldT Tryd.prog 57 [some 0] := fldT_of Tryd.underlying57 (by kernel_rfl)
instance : SlT Tryd.prog 59 9 1 := ⟨Tryd.underlying59, Tryd.sizeOf9⟩
instance : NotIf Tryd.prog 59 := ⟨_, Tryd.underlying59, rfl⟩
instance : ZT Tryd.prog 59 [Value.slice none 0 0] := ⟨_, Tryd.zeroValue59, rfl⟩
instance : NAgg Tryd.prog 59 := ⟨Tryd.isAgg59⟩
instance : OneT Tryd.prog 59 (Value.slice none 0 0) := ⟨Tryd.isAgg59, Tryd.sizeOf59, Tryd.zeroValue59⟩
instance : ZV Tryd.prog 59 (Value.slice none 0 0) := ⟨Tryd.zeroValue59⟩
instance : NotIf Tryd.prog 63 := ⟨_, Tryd.underlying63, rfl⟩
instance : ZT Tryd.prog 63 [Value.string { data := #[] }] := ⟨_, Tryd.zeroValue63, rfl⟩
instance : StT Tryd.prog 63 [(0, 1)] [Value.string { data := #[] }] := ⟨fld_of Tryd.underlying63 (by kernel_rfl), fun parts => by kernel_rfl, Tryd.sizeOf63, Tryd.isAgg63, Tryd.zeroValue63⟩
instance : ZV Tryd.prog 63 (Value.agg #[Value.string { data := #[] }]) := ⟨Tryd.zeroValue63⟩
instance : EqT Tryd.prog 63 [.s] := ⟨by kernel_rfl, by kernel_rfl, by kernel_rfl, by kernel_rfl⟩
instance : FldT Tryd.prog 63 [some 0] := fldT_of Tryd.underlying63 (by kernel_rfl)
instance : NotIf Tryd.prog 65 := ⟨_, Tryd.underlying65, rfl⟩
instance : ZT Tryd.prog 65 [Value.string { data := #[] }, Value.nilIface] := ⟨_, Tryd.zeroValue65, rfl⟩
instance : StT Tryd.prog 65 [(0, 1), (1, 1)] [Value.string { data := #[] }, Value.nilIface] := ⟨fld_of Tryd.underlying65 (by kernel_rfl), fun parts => by kernel_rfl, Tryd.sizeOf65, Tryd.isAgg65, Tryd.zeroValue65⟩
instance : ZV Tryd.prog 65 (Value.agg #[Value.string { data := #[] }, Value.nilIface]) := ⟨Tryd.zeroValue65⟩
instance : FldT Tryd.prog 65 [none, some 1] := fldT_of Tryd.underlying65 (by kernel_rfl)
instance : NotIf Tryd.prog 66 := ⟨_, Tryd.underlying66, rfl⟩
instance : ZT Tryd.prog 66 [Value.pointer none] := ⟨_, Tryd.zeroValue66, rfl⟩
instance : NAgg Tryd.prog 66 := ⟨Tryd.isAgg66⟩
instance : OneT Tryd.prog 66 (Value.pointer none) := ⟨Tryd.isAgg66, Tryd.sizeOf66, Tryd.zeroValue66⟩
instance : ZV Tryd.prog 66 (Value.pointer none) := ⟨Tryd.zeroValue66⟩
instance : NotIf Tryd.prog 68 := ⟨_, Tryd.underlying68, rfl⟩
instance : ZT Tryd.prog 68 [Value.slice none 0 0, Value.int IntKind.i64 0, Value.int IntKind.i64 0] := ⟨_, Tryd.zeroValue68, rfl⟩
instance : StT Tryd.prog 68 [(0, 1), (1, 1), (2, 1)] [Value.slice none 0 0, Value.int IntKind.i64 0, Value.int IntKind.i64 0] := ⟨fld_of Tryd.underlying68 (by kernel_rfl), fun parts => by kernel_rfl, Tryd.sizeOf68, Tryd.isAgg68, Tryd.zeroValue68⟩
instance : ZV Tryd.prog 68 (Value.agg #[Value.slice none 0 0, Value.int IntKind.i64 0, Value.int IntKind.i64 0]) := ⟨Tryd.zeroValue68⟩
instance : FldT Tryd.prog 68 [some 0, some 1, some 2] := fldT_of Tryd.underlying68 (by kernel_rfl)
instance : NotIf Tryd.prog 71 := ⟨_, Tryd.underlying71, rfl⟩
instance : ZT Tryd.prog 71 [Value.slice none 0 0] := ⟨_, Tryd.zeroValue71, rfl⟩
instance : StT Tryd.prog 71 [(0, 1)] [Value.slice none 0 0] := ⟨fld_of Tryd.underlying71 (by kernel_rfl), fun parts => by kernel_rfl, Tryd.sizeOf71, Tryd.isAgg71, Tryd.zeroValue71⟩
instance : ZV Tryd.prog 71 (Value.agg #[Value.slice none 0 0]) := ⟨Tryd.zeroValue71⟩
instance : FldT Tryd.prog 71 [some 0] := fldT_of Tryd.underlying71 (by kernel_rfl)
instance : NotIf Tryd.prog 72 := ⟨_, Tryd.underlying72, rfl⟩
instance : ZT Tryd.prog 72 [Value.string { data := #[] }] := ⟨_, Tryd.zeroValue72, rfl⟩
instance : StT Tryd.prog 72 [(0, 1)] [Value.string { data := #[] }] := ⟨fld_of Tryd.underlying72 (by kernel_rfl), fun parts => by kernel_rfl, Tryd.sizeOf72, Tryd.isAgg72, Tryd.zeroValue72⟩
instance : ZV Tryd.prog 72 (Value.agg #[Value.string { data := #[] }]) := ⟨Tryd.zeroValue72⟩
instance : EqT Tryd.prog 72 [.s] := ⟨by kernel_rfl, by kernel_rfl, by kernel_rfl, by kernel_rfl⟩
instance : FldT Tryd.prog 72 [some 0] := fldT_of Tryd.underlying72 (by kernel_rfl)
instance : NotIf Tryd.prog 74 := ⟨_, Tryd.underlying74, rfl⟩
instance : ZT Tryd.prog 74 [Value.int IntKind.i64 0] := ⟨_, Tryd.zeroValue74, rfl⟩
instance : StT Tryd.prog 74 [(0, 1)] [Value.int IntKind.i64 0] := ⟨fld_of Tryd.underlying74 (by kernel_rfl), fun parts => by kernel_rfl, Tryd.sizeOf74, Tryd.isAgg74, Tryd.zeroValue74⟩
instance : ZV Tryd.prog 74 (Value.agg #[Value.int IntKind.i64 0]) := ⟨Tryd.zeroValue74⟩
instance : EqT Tryd.prog 74 [.i] := ⟨by kernel_rfl, by kernel_rfl, by kernel_rfl, by kernel_rfl⟩
instance : FldT Tryd.prog 74 [some 0] := fldT_of Tryd.underlying74 (by kernel_rfl)
instance : SlT Tryd.prog 76 49 1 := ⟨Tryd.underlying76, Tryd.sizeOf49⟩
instance : NotIf Tryd.prog 76 := ⟨_, Tryd.underlying76, rfl⟩
instance : ZT Tryd.prog 76 [Value.slice none 0 0] := ⟨_, Tryd.zeroValue76, rfl⟩
instance : NAgg Tryd.prog 76 := ⟨Tryd.isAgg76⟩
instance : OneT Tryd.prog 76 (Value.slice none 0 0) := ⟨Tryd.isAgg76, Tryd.sizeOf76, Tryd.zeroValue76⟩
instance : ZV Tryd.prog 76 (Value.slice none 0 0) := ⟨Tryd.zeroValue76⟩
instance : NotIf Tryd.prog 78 := ⟨_, Tryd.underlying78, rfl⟩
instance : ZT Tryd.prog 78 [Value.int IntKind.i64 0, Value.int IntKind.i64 0, Value.int IntKind.i64 0, Value.int IntKind.i64 0, Value.slice none 0 0] := ⟨_, Tryd.zeroValue78, rfl⟩
instance : StT Tryd.prog 78 [(0, 3), (3, 1), (4, 1)] [Value.int IntKind.i64 0, Value.int IntKind.i64 0, Value.int IntKind.i64 0, Value.int IntKind.i64 0, Value.slice none 0 0] := ⟨fld_of Tryd.underlying78 (by kernel_rfl), fun parts => by kernel_rfl, Tryd.sizeOf78, Tryd.isAgg78, Tryd.zeroValue78⟩
instance : ZV Tryd.prog 78 (Value.agg #[Value.int IntKind.i64 0, Value.int IntKind.i64 0, Value.int IntKind.i64 0, Value.int IntKind.i64 0, Value.slice none 0 0]) := ⟨Tryd.zeroValue78⟩
instance : FldT Tryd.prog 78 [none, some 3, some 4] := fldT_of Tryd.underlying78 (by kernel_rfl)
instance : NotIf Tryd.prog 80 := ⟨_, Tryd.underlying80, rfl⟩
instance : ZT Tryd.prog 80 [Value.int IntKind.i64 0, Value.int IntKind.i64 0, Value.int IntKind.i64 0, Value.int IntKind.i64 0, Value.slice none 0 0, Value.nilIface] := ⟨_, Tryd.zeroValue80, rfl⟩
instance : StT Tryd.prog 80 [(0, 5), (5, 1)] [Value.int IntKind.i64 0, Value.int IntKind.i64 0, Value.int IntKind.i64 0, Value.int IntKind.i64 0, Value.slice none 0 0, Value.nilIface] := ⟨fld_of Tryd.underlying80 (by kernel_rfl), fun parts => by kernel_rfl, Tryd.sizeOf80, Tryd.isAgg80, Tryd.zeroValue80⟩
instance : ZV Tryd.prog 80 (Value.agg #[Value.int IntKind.i64 0, Value.int IntKind.i64 0, Value.int IntKind.i64 0, Value.int IntKind.i64 0, Value.slice none 0 0, Value.nilIface]) := ⟨Tryd.zeroValue80⟩
instance : FldT Tryd.prog 80 [none, some 5] := fldT_of Tryd.underlying80 (by kernel_rfl)
instance : NotIf Tryd.prog 85 := ⟨_, Tryd.underlying85, rfl⟩
instance : ZT Tryd.prog 85 [Value.nilIface, Value.int IntKind.i64 0, Value.int IntKind.i64 0, Value.int IntKind.i64 0, Value.int IntKind.i64 0, Value.slice none 0 0, Value.nilIface] := ⟨_, Tryd.zeroValue85, rfl⟩
instance : StT Tryd.prog 85 [(0, 1), (1, 5), (6, 1)] [Value.nilIface, Value.int IntKind.i64 0, Value.int IntKind.i64 0, Value.int IntKind.i64 0, Value.int IntKind.i64 0, Value.slice none 0 0, Value.nilIface] := ⟨fld_of Tryd.underlying85 (by kernel_rfl), fun parts => by kernel_rfl, Tryd.sizeOf85, Tryd.isAgg85, Tryd.zeroValue85⟩
instance : ZV Tryd.prog 85 (Value.agg #[Value.nilIface, Value.int IntKind.i64 0, Value.int IntKind.i64 0, Value.int IntKind.i64 0, Value.int IntKind.i64 0, Value.slice none 0 0, Value.nilIface]) := ⟨Tryd.zeroValue85⟩
instance : FldT Tryd.prog 85 [some 0, none, some 6] := fldT_of Tryd.underlying85 (by kernel_rfl)
instance : NotIf Tryd.prog 87 := ⟨_, Tryd.underlying87, rfl⟩
instance : ZT Tryd.prog 87 [Value.nilIface, Value.slice none 0 0] := ⟨_, Tryd.zeroValue87, rfl⟩
instance : StT Tryd.prog 87 [(0, 1), (1, 1)] [Value.nilIface, Value.slice none 0 0] := ⟨fld_of Tryd.underlying87 (by kernel_rfl), fun parts => by kernel_rfl, Tryd.sizeOf87, Tryd.isAgg87, Tryd.zeroValue87⟩
instance : ZV Tryd.prog 87 (Value.agg #[Value.nilIface, Value.slice none 0 0]) := ⟨Tryd.zeroValue87⟩
instance : FldT Tryd.prog 87 [some 0, some 1] := fldT_of Tryd.underlying87 (by kernel_rfl)
instance : NotIf Tryd.prog 94 := ⟨_, Tryd.underlying94, rfl⟩
instance : ZT Tryd.prog 94 [Value.pointer none] := ⟨_, Tryd.zeroValue94, rfl⟩
instance : NAgg Tryd.prog 94 := ⟨Tryd.isAgg94⟩
instance : OneT Tryd.prog 94 (Value.pointer none) := ⟨Tryd.isAgg94, Tryd.sizeOf94, Tryd.zeroValue94⟩
instance : ZV Tryd.prog 94 (Value.pointer none) := ⟨Tryd.zeroValue94⟩
instance : SlT Tryd.prog 95 5 1 := ⟨Tryd.underlying95, Tryd.sizeOf5⟩
instance : NotIf Tryd.prog 95 := ⟨_, Tryd.underlying95, rfl⟩
instance : ZT Tryd.prog 95 [Value.slice none 0 0] := ⟨_, Tryd.zeroValue95, rfl⟩
instance : NAgg Tryd.prog 95 := ⟨Tryd.isAgg95⟩
instance : OneT Tryd.prog 95 (Value.slice none 0 0) := ⟨Tryd.isAgg95, Tryd.sizeOf95, Tryd.zeroValue95⟩
instance : ZV Tryd.prog 95 (Value.slice none 0 0) := ⟨Tryd.zeroValue95⟩
instance : NotIf Tryd.prog 97 := ⟨_, Tryd.underlying97, rfl⟩
instance : ZT Tryd.prog 97 [Value.pointer none, Value.slice none 0 0] := ⟨_, Tryd.zeroValue97, rfl⟩
instance : StT Tryd.prog 97 [(0, 1), (1, 1)] [Value.pointer none, Value.slice none 0 0] := ⟨fld_of Tryd.underlying97 (by kernel_rfl), fun parts => by kernel_rfl, Tryd.sizeOf97, Tryd.isAgg97, Tryd.zeroValue97⟩
instance : ZV Tryd.prog 97 (Value.agg #[Value.pointer none, Value.slice none 0 0]) := ⟨Tryd.zeroValue97⟩
instance : FldT Tryd.prog 97 [some 0, some 1] := fldT_of Tryd.underlying97 (by kernel_rfl)
instance : NotIf Tryd.prog 110 := ⟨_, Tryd.underlying110, rfl⟩
instance : ZT Tryd.prog 110 [Value.pointer none] := ⟨_, Tryd.zeroValue110, rfl⟩
instance : NAgg Tryd.prog 110 := ⟨Tryd.isAgg110⟩
instance : OneT Tryd.prog 110 (Value.pointer none) := ⟨Tryd.isAgg110, Tryd.sizeOf110, Tryd.zeroValue110⟩
instance : ZV Tryd.prog 110 (Value.pointer none) := ⟨Tryd.zeroValue110⟩
instance : NotIf Tryd.prog 118 := ⟨_, Tryd.underlying118, rfl⟩
instance : ZT Tryd.prog 118 [Value.int IntKind.u8 0, Value.int IntKind.u8 0] := ⟨_, Tryd.zeroValue118, rfl⟩
instance : StT Tryd.prog 118 [(0, 1), (1, 1)] [Value.int IntKind.u8 0, Value.int IntKind.u8 0] := ⟨fld_of Tryd.underlying118 (by kernel_rfl), fun parts => by kernel_rfl, Tryd.sizeOf118, Tryd.isAgg118, Tryd.zeroValue118⟩
instance : ZV Tryd.prog 118 (Value.agg #[Value.int IntKind.u8 0, Value.int IntKind.u8 0]) := ⟨Tryd.zeroValue118⟩
instance : FldT Tryd.prog 118 [some 0, some 1] := fldT_of Tryd.underlying118 (by kernel_rfl)
instance : NotIf Tryd.prog 120 := ⟨_, Tryd.underlying120, rfl⟩
instance : IntT Tryd.prog 120 .u64 := ⟨Tryd.underlying120⟩
instance : ZT Tryd.prog 120 [Value.int IntKind.u64 0] := ⟨_, Tryd.zeroValue120, rfl⟩
instance : NAgg Tryd.prog 120 := ⟨Tryd.isAgg120⟩
instance : OneT Tryd.prog 120 (Value.int IntKind.u64 0) := ⟨Tryd.isAgg120, Tryd.sizeOf120, Tryd.zeroValue120⟩
instance : ZV Tryd.prog 120 (Value.int IntKind.u64 0) := ⟨Tryd.zeroValue120⟩
instance : NotIf Tryd.prog 128 := ⟨_, Tryd.underlying128, rfl⟩
instance : IntT Tryd.prog 128 .u64 := ⟨Tryd.underlying128⟩
instance : ZT Tryd.prog 128 [Value.int IntKind.u64 0] := ⟨_, Tryd.zeroValue128, rfl⟩
instance : NAgg Tryd.prog 128 := ⟨Tryd.isAgg128⟩
instance : OneT Tryd.prog 128 (Value.int IntKind.u64 0) := ⟨Tryd.isAgg128, Tryd.sizeOf128, Tryd.zeroValue128⟩
instance : ZV Tryd.prog 128 (Value.int IntKind.u64 0) := ⟨Tryd.zeroValue128⟩
instance : NotIf Tryd.prog 138 := ⟨_, Tryd.underlying138, rfl⟩
instance : IntT Tryd.prog 138 .u32 := ⟨Tryd.underlying138⟩
instance : ZT Tryd.prog 138 [Value.int IntKind.u32 0] := ⟨_, Tryd.zeroValue138, rfl⟩
instance : NAgg Tryd.prog 138 := ⟨Tryd.isAgg138⟩
instance : OneT Tryd.prog 138 (Value.int IntKind.u32 0) := ⟨Tryd.isAgg138, Tryd.sizeOf138, Tryd.zeroValue138⟩
instance : ZV Tryd.prog 138 (Value.int IntKind.u32 0) := ⟨Tryd.zeroValue138⟩
instance : ElT Tryd.prog 22 30 5 [Value.int IntKind.i64 0, Value.int IntKind.i64 0, Value.int IntKind.i64 0, Value.string { data := #[] }, Value.int IntKind.i64 0] 48 := elT_of (z := Value.agg #[Value.int IntKind.i64 0, Value.int IntKind.i64 0, Value.int IntKind.i64 0, Value.string { data := #[] }, Value.int IntKind.i64 0]) Tryd.underlying22 (by kernel_rfl) rfl rfl (by decide)
instance : ElT Tryd.prog 23 35 7 [Value.int IntKind.i64 0, Value.int IntKind.i64 0, Value.int IntKind.i64 0, Value.int IntKind.i64 0, Value.int IntKind.i64 0, Value.slice none 0 0, Value.string { data := #[] }] 80 := elT_of (z := Value.agg #[Value.int IntKind.i64 0, Value.int IntKind.i64 0, Value.int IntKind.i64 0, Value.int IntKind.i64 0, Value.int IntKind.i64 0, Value.slice none 0 0, Value.string { data := #[] }]) Tryd.underlying23 (by kernel_rfl) rfl rfl (by decide)
instance : ElT Tryd.prog 33 3 1 [Value.int IntKind.i64 0] 8 := elT_of (z := Value.int IntKind.i64 0) Tryd.underlying33 (by kernel_rfl) rfl rfl (by decide)
instance : ElT Tryd.prog 59 9 1 [Value.string { data := #[] }] 16 := elT_of (z := Value.string { data := #[] }) Tryd.underlying59 (by kernel_rfl) rfl rfl (by decide)
instance : ElT Tryd.prog 76 49 1 [Value.nilIface] 16 := elT_of (z := Value.nilIface) Tryd.underlying76 (by kernel_rfl) rfl rfl (by decide)
instance : ElT Tryd.prog 95 5 1 [Value.int IntKind.u8 0] 1 := elT_of (z := Value.int IntKind.u8 0) Tryd.underlying95 (by kernel_rfl) rfl rfl (by decide)
instance : FnT Tryd.prog 3 := ⟨_, _, Tryd.func3, rfl, by decide⟩
instance : FnT Tryd.prog 4 := ⟨_, _, Tryd.func4, rfl, by decide⟩
instance : FnT Tryd.prog 5 := ⟨_, _, Tryd.func5, rfl, by decide⟩
instance : FnT Tryd.prog 6 := ⟨_, _, Tryd.func6, rfl, by decide⟩
instance : FnT Tryd.prog 7 := ⟨_, _, Tryd.func7, rfl, by decide⟩
instance : FnT Tryd.prog 8 := ⟨_, _, Tryd.func8, rfl, by decide⟩
instance : FnT Tryd.prog 9 := ⟨_, _, Tryd.func9, rfl, by decide⟩
instance : FnT Tryd.prog 10 := ⟨_, _, Tryd.func10, rfl, by decide⟩
instance : FnT Tryd.prog 11 := ⟨_, _, Tryd.func11, rfl, by decide⟩
instance : FnT Tryd.prog 12 := ⟨_, _, Tryd.func12, rfl, by decide⟩
instance : FnT Tryd.prog 13 := ⟨_, _, Tryd.func13, rfl, by decide⟩
instance : FnT Tryd.prog 14 := ⟨_, _, Tryd.func14, rfl, by decide⟩
instance : FnT Tryd.prog 15 := ⟨_, _, Tryd.func15, rfl, by decide⟩
instance : FnT Tryd.prog 16 := ⟨_, _, Tryd.func16, rfl, by decide⟩
instance : FnT Tryd.prog 17 := ⟨_, _, Tryd.func17, rfl, by decide⟩
instance : FnT Tryd.prog 18 := ⟨_, _, Tryd.func18, rfl, by decide⟩
instance : FnT Tryd.prog 19 := ⟨_, _, Tryd.func19, rfl, by decide⟩
instance : FnT Tryd.prog 20 := ⟨_, _, Tryd.func20, rfl, by decide⟩
instance : FnT Tryd.prog 21 := ⟨_, _, Tryd.func21, rfl, by decide⟩
instance : FnT Tryd.prog 22 := ⟨_, _, Tryd.func22, rfl, by decide⟩
instance : FnT Tryd.prog 23 := ⟨_, _, Tryd.func23, rfl, by decide⟩
instance : FnT Tryd.prog 24 := ⟨_, _, Tryd.func24, rfl, by decide⟩
instance : FnT Tryd.prog 25 := ⟨_, _, Tryd.func25, rfl, by decide⟩
instance : FnT Tryd.prog 26 := ⟨_, _, Tryd.func26, rfl, by decide⟩
instance : FnT Tryd.prog 27 := ⟨_, _, Tryd.func27, rfl, by decide⟩
instance : FnT Tryd.prog 28 := ⟨_, _, Tryd.func28, rfl, by decide⟩
instance : FnT Tryd.prog 29 := ⟨_, _, Tryd.func29, rfl, by decide⟩
instance : FnT Tryd.prog 30 := ⟨_, _, Tryd.func30, rfl, by decide⟩
instance : FnT Tryd.prog 31 := ⟨_, _, Tryd.func31, rfl, by decide⟩
instance : FnT Tryd.prog 32 := ⟨_, _, Tryd.func32, rfl, by decide⟩
instance : FnT Tryd.prog 33 := ⟨_, _, Tryd.func33, rfl, by decide⟩
instance : FnT Tryd.prog 34 := ⟨_, _, Tryd.func34, rfl, by decide⟩
instance : FnT Tryd.prog 35 := ⟨_, _, Tryd.func35, rfl, by decide⟩
instance : FnT Tryd.prog 36 := ⟨_, _, Tryd.func36, rfl, by decide⟩
instance : FnT Tryd.prog 37 := ⟨_, _, Tryd.func37, rfl, by decide⟩
instance : FnT Tryd.prog 38 := ⟨_, _, Tryd.func38, rfl, by decide⟩
instance : FnT Tryd.prog 39 := ⟨_, _, Tryd.func39, rfl, by decide⟩
instance : FnT Tryd.prog 40 := ⟨_, _, Tryd.func40, rfl, by decide⟩
instance : FnT Tryd.prog 41 := ⟨_, _, Tryd.func41, rfl, by decide⟩
instance : FnT Tryd.prog 43 := ⟨_, _, Tryd.func43, rfl, by decide⟩
instance : FnT Tryd.prog 44 := ⟨_, _, Tryd.func44, rfl, by decide⟩
instance : FnT Tryd.prog 45 := ⟨_, _, Tryd.func45, rfl, by decide⟩
instance : FnT Tryd.prog 46 := ⟨_, _, Tryd.func46, rfl, by decide⟩
instance : FnT Tryd.prog 47 := ⟨_, _, Tryd.func47, rfl, by decide⟩
instance : FnT Tryd.prog 48 := ⟨_, _, Tryd.func48, rfl, by decide⟩
instance : FnT Tryd.prog 49 := ⟨_, _, Tryd.func49, rfl, by decide⟩
instance : FnT Tryd.prog 50 := ⟨_, _, Tryd.func50, rfl, by decide⟩
instance : FnT Tryd.prog 51 := ⟨_, _, Tryd.func51, rfl, by decide⟩
instance : FnT Tryd.prog 52 := ⟨_, _, Tryd.func52, rfl, by decide⟩
instance : FnT Tryd.prog 53 := ⟨_, _, Tryd.func53, rfl, by decide⟩
instance : FnT Tryd.prog 55 := ⟨_, _, Tryd.func55, rfl, by decide⟩
instance : FnT Tryd.prog 56 := ⟨_, _, Tryd.func56, rfl, by decide⟩
instance : FnT Tryd.prog 57 := ⟨_, _, Tryd.func57, rfl, by decide⟩
instance : FnT Tryd.prog 58 := ⟨_, _, Tryd.func58, rfl, by decide⟩
instance : FnT Tryd.prog 59 := ⟨_, _, Tryd.func59, rfl, by decide⟩
instance : FnT Tryd.prog 62 := ⟨_, _, Tryd.func62, rfl, by decide⟩
instance : FnT Tryd.prog 67 := ⟨_, _, Tryd.func67, rfl, by decide⟩
instance : FnT Tryd.prog 70 := ⟨_, _, Tryd.func70, rfl, by decide⟩
instance : FnT Tryd.prog 72 := ⟨_, _, Tryd.func72, rfl, by decide⟩
instance : FnT Tryd.prog 75 := ⟨_, _, Tryd.func75, rfl, by decide⟩
instance : FnT Tryd.prog 80 := ⟨_, _, Tryd.func80, rfl, by decide⟩
instance : FnT Tryd.prog 81 := ⟨_, _, Tryd.func81, rfl, by decide⟩
instance : FnT Tryd.prog 100 := ⟨_, _, Tryd.func100, rfl, by decide⟩
instance : FnT Tryd.prog 101 := ⟨_, _, Tryd.func101, rfl, by decide⟩
instance : FnT Tryd.prog 102 := ⟨_, _, Tryd.func102, rfl, by decide⟩
instance : FnT Tryd.prog 103 := ⟨_, _, Tryd.func103, rfl, by decide⟩
instance : FnT Tryd.prog 104 := ⟨_, _, Tryd.func104, rfl, by decide⟩
instance : FnT Tryd.prog 105 := ⟨_, _, Tryd.func105, rfl, by decide⟩
instance : FnT Tryd.prog 106 := ⟨_, _, Tryd.func106, rfl, by decide⟩
instance : FnT Tryd.prog 107 := ⟨_, _, Tryd.func107, rfl, by decide⟩
instance : FnT Tryd.prog 108 := ⟨_, _, Tryd.func108, rfl, by decide⟩
instance : FnT Tryd.prog 109 := ⟨_, _, Tryd.func109, rfl, by decide⟩
end Go.Proofs.YtgjmgmejojbdeaaDoor
