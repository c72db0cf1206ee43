/-
  The types and the functions of this seat, as the logic of walks asks for them. (Written by a program of this repo: inst.py.)
-/
import Derived.Test.YtanbifmcnkhdhaaDoorProg
import Derived.Test.YtanbifmcnkhdhaaDoorRd
namespace Go.Proofs.YtanbifmcnkhdhaaDoor
open Go
set_option maxRecDepth 100000
instance : NotIf Tryd.prog 2 := ⟨_, Tryd.underlying2, rfl⟩
instance : IntT Tryd.prog 2 .i64 := ⟨Tryd.underlying2⟩
instance : ZT Tryd.prog 2 [Value.int IntKind.i64 0] := ⟨_, Tryd.zeroValue2, rfl⟩
instance : NAgg Tryd.prog 2 := ⟨Tryd.isAgg2⟩
instance : OneT Tryd.prog 2 (Value.int IntKind.i64 0) := ⟨Tryd.isAgg2, Tryd.sizeOf2, Tryd.zeroValue2⟩
instance : ZV Tryd.prog 2 (Value.int IntKind.i64 0) := ⟨Tryd.zeroValue2⟩
instance : NotIf Tryd.prog 3 := ⟨_, Tryd.underlying3, rfl⟩
instance : IntT Tryd.prog 3 .i64 := ⟨Tryd.underlying3⟩
instance : ZT Tryd.prog 3 [Value.int IntKind.i64 0] := ⟨_, Tryd.zeroValue3, rfl⟩
instance : NAgg Tryd.prog 3 := ⟨Tryd.isAgg3⟩
instance : OneT Tryd.prog 3 (Value.int IntKind.i64 0) := ⟨Tryd.isAgg3, Tryd.sizeOf3, Tryd.zeroValue3⟩
instance : ZV Tryd.prog 3 (Value.int IntKind.i64 0) := ⟨Tryd.zeroValue3⟩
instance : NotIf Tryd.prog 4 := ⟨_, Tryd.underlying4, rfl⟩
instance : BoolT Tryd.prog 4 := ⟨Tryd.underlying4⟩
instance : ZT Tryd.prog 4 [Value.bool false] := ⟨_, Tryd.zeroValue4, rfl⟩
instance : NAgg Tryd.prog 4 := ⟨Tryd.isAgg4⟩
instance : OneT Tryd.prog 4 (Value.bool false) := ⟨Tryd.isAgg4, Tryd.sizeOf4, Tryd.zeroValue4⟩
instance : ZV Tryd.prog 4 (Value.bool false) := ⟨Tryd.zeroValue4⟩
instance : NotIf Tryd.prog 5 := ⟨_, Tryd.underlying5, rfl⟩
instance : IntT Tryd.prog 5 .u8 := ⟨Tryd.underlying5⟩
instance : ZT Tryd.prog 5 [Value.int IntKind.u8 0] := ⟨_, Tryd.zeroValue5, rfl⟩
instance : NAgg Tryd.prog 5 := ⟨Tryd.isAgg5⟩
instance : OneT Tryd.prog 5 (Value.int IntKind.u8 0) := ⟨Tryd.isAgg5, Tryd.sizeOf5, Tryd.zeroValue5⟩
instance : ZV Tryd.prog 5 (Value.int IntKind.u8 0) := ⟨Tryd.zeroValue5⟩
instance : NotIf Tryd.prog 9 := ⟨_, Tryd.underlying9, rfl⟩
instance : StrT Tryd.prog 9 := ⟨Tryd.underlying9⟩
instance : ZT Tryd.prog 9 [Value.string { data := #[] }] := ⟨_, Tryd.zeroValue9, rfl⟩
instance : NAgg Tryd.prog 9 := ⟨Tryd.isAgg9⟩
instance : OneT Tryd.prog 9 (Value.string { data := #[] }) := ⟨Tryd.isAgg9, Tryd.sizeOf9, Tryd.zeroValue9⟩
instance : ZV Tryd.prog 9 (Value.string { data := #[] }) := ⟨Tryd.zeroValue9⟩
instance : NotIf Tryd.prog 12 := ⟨_, Tryd.underlying12, rfl⟩
instance : IntT Tryd.prog 12 .u64 := ⟨Tryd.underlying12⟩
instance : ZT Tryd.prog 12 [Value.int IntKind.u64 0] := ⟨_, Tryd.zeroValue12, rfl⟩
instance : NAgg Tryd.prog 12 := ⟨Tryd.isAgg12⟩
instance : OneT Tryd.prog 12 (Value.int IntKind.u64 0) := ⟨Tryd.isAgg12, Tryd.sizeOf12, Tryd.zeroValue12⟩
instance : ZV Tryd.prog 12 (Value.int IntKind.u64 0) := ⟨Tryd.zeroValue12⟩
instance : IfT Tryd.prog 20 := ⟨_, Tryd.underlying20⟩
instance : ZT Tryd.prog 20 [Value.nilIface] := ⟨_, Tryd.zeroValue20, rfl⟩
instance : NAgg Tryd.prog 20 := ⟨Tryd.isAgg20⟩
instance : OneT Tryd.prog 20 (Value.nilIface) := ⟨Tryd.isAgg20, Tryd.sizeOf20, Tryd.zeroValue20⟩
instance : ZV Tryd.prog 20 (Value.nilIface) := ⟨Tryd.zeroValue20⟩
instance : NotIf Tryd.prog 21 := ⟨_, Tryd.underlying21, rfl⟩
instance : IntT Tryd.prog 21 .i32 := ⟨Tryd.underlying21⟩
instance : ZT Tryd.prog 21 [Value.int IntKind.i32 0] := ⟨_, Tryd.zeroValue21, rfl⟩
instance : NAgg Tryd.prog 21 := ⟨Tryd.isAgg21⟩
instance : OneT Tryd.prog 21 (Value.int IntKind.i32 0) := ⟨Tryd.isAgg21, Tryd.sizeOf21, Tryd.zeroValue21⟩
instance : ZV Tryd.prog 21 (Value.int IntKind.i32 0) := ⟨Tryd.zeroValue21⟩
instance : SlT Tryd.prog 22 33 7 := ⟨Tryd.underlying22, Tryd.sizeOf33⟩
instance : NotIf Tryd.prog 22 := ⟨_, Tryd.underlying22, rfl⟩
instance : ZT Tryd.prog 22 [Value.slice none 0 0] := ⟨_, Tryd.zeroValue22, rfl⟩
instance : NAgg Tryd.prog 22 := ⟨Tryd.isAgg22⟩
instance : OneT Tryd.prog 22 (Value.slice none 0 0) := ⟨Tryd.isAgg22, Tryd.sizeOf22, Tryd.zeroValue22⟩
instance : ZV Tryd.prog 22 (Value.slice none 0 0) := ⟨Tryd.zeroValue22⟩
instance : SlT Tryd.prog 23 35 5 := ⟨Tryd.underlying23, Tryd.sizeOf35⟩
instance : NotIf Tryd.prog 23 := ⟨_, Tryd.underlying23, rfl⟩
instance : ZT Tryd.prog 23 [Value.slice none 0 0] := ⟨_, Tryd.zeroValue23, rfl⟩
instance : NAgg Tryd.prog 23 := ⟨Tryd.isAgg23⟩
instance : OneT Tryd.prog 23 (Value.slice none 0 0) := ⟨Tryd.isAgg23, Tryd.sizeOf23, Tryd.zeroValue23⟩
instance : ZV Tryd.prog 23 (Value.slice none 0 0) := ⟨Tryd.zeroValue23⟩
instance : IfT Tryd.prog 24 := ⟨_, Tryd.underlying24⟩
instance : ZT Tryd.prog 24 [Value.nilIface] := ⟨_, Tryd.zeroValue24, rfl⟩
instance : NAgg Tryd.prog 24 := ⟨Tryd.isAgg24⟩
instance : OneT Tryd.prog 24 (Value.nilIface) := ⟨Tryd.isAgg24, Tryd.sizeOf24, Tryd.zeroValue24⟩
instance : ZV Tryd.prog 24 (Value.nilIface) := ⟨Tryd.zeroValue24⟩
instance : IfT Tryd.prog 25 := ⟨_, Tryd.underlying25⟩
instance : ZT Tryd.prog 25 [Value.nilIface] := ⟨_, Tryd.zeroValue25, rfl⟩
instance : NAgg Tryd.prog 25 := ⟨Tryd.isAgg25⟩
instance : OneT Tryd.prog 25 (Value.nilIface) := ⟨Tryd.isAgg25, Tryd.sizeOf25, Tryd.zeroValue25⟩
instance : ZV Tryd.prog 25 (Value.nilIface) := ⟨Tryd.zeroValue25⟩
instance : NotIf Tryd.prog 28 := ⟨_, Tryd.underlying28, rfl⟩
instance : IntT Tryd.prog 28 .i64 := ⟨Tryd.underlying28⟩
instance : ZT Tryd.prog 28 [Value.int IntKind.i64 0] := ⟨_, Tryd.zeroValue28, rfl⟩
instance : NAgg Tryd.prog 28 := ⟨Tryd.isAgg28⟩
instance : OneT Tryd.prog 28 (Value.int IntKind.i64 0) := ⟨Tryd.isAgg28, Tryd.sizeOf28, Tryd.zeroValue28⟩
instance : ZV Tryd.prog 28 (Value.int IntKind.i64 0) := ⟨Tryd.zeroValue28⟩
instance : NotIf Tryd.prog 30 := ⟨_, Tryd.underlying30, rfl⟩
instance : ZT Tryd.prog 30 [Value.int IntKind.i64 0, Value.int IntKind.i64 0, Value.int IntKind.i64 0] := ⟨_, Tryd.zeroValue30, rfl⟩
instance : StT Tryd.prog 30 [(0, 1), (1, 1), (2, 1)] [Value.int IntKind.i64 0, Value.int IntKind.i64 0, Value.int IntKind.i64 0] := ⟨fld_of Tryd.underlying30 (by kernel_rfl), fun parts => by kernel_rfl, Tryd.sizeOf30, Tryd.isAgg30, Tryd.zeroValue30⟩
instance : ZV Tryd.prog 30 (Value.agg #[Value.int IntKind.i64 0, Value.int IntKind.i64 0, Value.int IntKind.i64 0]) := ⟨Tryd.zeroValue30⟩
instance : EqT Tryd.prog 30 [.i, .i, .i] := ⟨by kernel_rfl, by kernel_rfl, by kernel_rfl, by kernel_rfl⟩
instance : FldT Tryd.prog 30 [some 0, some 1, some 2] := fldT_of Tryd.underlying30 (by kernel_rfl)
instance : SlT Tryd.prog 31 3 1 := ⟨Tryd.underlying31, Tryd.sizeOf3⟩
instance : NotIf Tryd.prog 31 := ⟨_, Tryd.underlying31, rfl⟩
instance : ZT Tryd.prog 31 [Value.slice none 0 0] := ⟨_, Tryd.zeroValue31, rfl⟩
instance : NAgg Tryd.prog 31 := ⟨Tryd.isAgg31⟩
instance : OneT Tryd.prog 31 (Value.slice none 0 0) := ⟨Tryd.isAgg31, Tryd.sizeOf31, Tryd.zeroValue31⟩
instance : ZV Tryd.prog 31 (Value.slice none 0 0) := ⟨Tryd.zeroValue31⟩
instance : NotIf Tryd.prog 33 := ⟨_, Tryd.underlying33, rfl⟩
instance : ZT Tryd.prog 33 [Value.int IntKind.i64 0, Value.int IntKind.i64 0, Value.int IntKind.i64 0, Value.int IntKind.i64 0, Value.int IntKind.i64 0, Value.slice none 0 0, Value.string { data := #[] }] := ⟨_, Tryd.zeroValue33, rfl⟩
instance : StT Tryd.prog 33 [(0, 1), (1, 3), (4, 1), (5, 1), (6, 1)] [Value.int IntKind.i64 0, Value.int IntKind.i64 0, Value.int IntKind.i64 0, Value.int IntKind.i64 0, Value.int IntKind.i64 0, Value.slice none 0 0, Value.string { data := #[] }] := ⟨fld_of Tryd.underlying33 (by kernel_rfl), fun parts => by kernel_rfl, Tryd.sizeOf33, Tryd.isAgg33, Tryd.zeroValue33⟩
instance : ZV Tryd.prog 33 (Value.agg #[Value.int IntKind.i64 0, Value.int IntKind.i64 0, Value.int IntKind.i64 0, Value.int IntKind.i64 0, Value.int IntKind.i64 0, Value.slice none 0 0, Value.string { data := #[] }]) := ⟨Tryd.zeroValue33⟩
instance : FldT Tryd.prog 33 [some 0, none, some 4, some 5, some 6] := fldT_of Tryd.underlying33 (by kernel_rfl)
instance : NotIf Tryd.prog 35 := ⟨_, Tryd.underlying35, rfl⟩
instance : ZT Tryd.prog 35 [Value.int IntKind.i64 0, Value.int IntKind.i64 0, Value.int IntKind.i64 0, Value.string { data := #[] }, Value.int IntKind.i64 0] := ⟨_, Tryd.zeroValue35, rfl⟩
instance : StT Tryd.prog 35 [(0, 1), (1, 1), (2, 1), (3, 1), (4, 1)] [Value.int IntKind.i64 0, Value.int IntKind.i64 0, Value.int IntKind.i64 0, Value.string { data := #[] }, Value.int IntKind.i64 0] := ⟨fld_of Tryd.underlying35 (by kernel_rfl), fun parts => by kernel_rfl, Tryd.sizeOf35, Tryd.isAgg35, Tryd.zeroValue35⟩
instance : ZV Tryd.prog 35 (Value.agg #[Value.int IntKind.i64 0, Value.int IntKind.i64 0, Value.int IntKind.i64 0, Value.string { data := #[] }, Value.int IntKind.i64 0]) := ⟨Tryd.zeroValue35⟩
instance : EqT Tryd.prog 35 [.i, .i, .i, .s, .i] := ⟨by kernel_rfl, by kernel_rfl, by kernel_rfl, by kernel_rfl⟩
instance : FldT Tryd.prog 35 [some 0, some 1, some 2, some 3, some 4] := fldT_of Tryd.underlying35 (by kernel_rfl)
instance : IfT Tryd.prog 40 := ⟨_, Tryd.underlying40⟩
instance : ZT Tryd.prog 40 [Value.nilIface] := ⟨_, Tryd.zeroValue40, rfl⟩
instance : NAgg Tryd.prog 40 := ⟨Tryd.isAgg40⟩
instance : OneT Tryd.prog 40 (Value.nilIface) := ⟨Tryd.isAgg40, Tryd.sizeOf40, Tryd.zeroValue40⟩
instance : ZV Tryd.prog 40 (Value.nilIface) := ⟨Tryd.zeroValue40⟩
instance : IfT Tryd.prog 41 := ⟨_, Tryd.underlying41⟩
instance : ZT Tryd.prog 41 [Value.nilIface] := ⟨_, Tryd.zeroValue41, rfl⟩
instance : NAgg Tryd.prog 41 := ⟨Tryd.isAgg41⟩
instance : OneT Tryd.prog 41 (Value.nilIface) := ⟨Tryd.isAgg41, Tryd.sizeOf41, Tryd.zeroValue41⟩
instance : ZV Tryd.prog 41 (Value.nilIface) := ⟨Tryd.zeroValue41⟩
instance : NotIf Tryd.prog 44 := ⟨_, Tryd.underlying44, rfl⟩
instance : ZT Tryd.prog 44 [Value.pointer none] := ⟨_, Tryd.zeroValue44, rfl⟩
instance : NAgg Tryd.prog 44 := ⟨Tryd.isAgg44⟩
instance : OneT Tryd.prog 44 (Value.pointer none) := ⟨Tryd.isAgg44, Tryd.sizeOf44, Tryd.zeroValue44⟩
instance : ZV Tryd.prog 44 (Value.pointer none) := ⟨Tryd.zeroValue44⟩
instance : NotIf Tryd.prog 46 := ⟨_, Tryd.underlying46, rfl⟩
instance : ZT Tryd.prog 46 [Value.slice none 0 0] := ⟨_, Tryd.zeroValue46, rfl⟩
instance : StT Tryd.prog 46 [(0, 1)] [Value.slice none 0 0] := ⟨fld_of Tryd.underlying46 (by kernel_rfl), fun parts => by kernel_rfl, Tryd.sizeOf46, Tryd.isAgg46, Tryd.zeroValue46⟩
instance : ZV Tryd.prog 46 (Value.agg #[Value.slice none 0 0]) := ⟨Tryd.zeroValue46⟩
instance : FldT Tryd.prog 46 [some 0] := fldT_of Tryd.underlying46 (by kernel_rfl)
instance : NotIf Tryd.prog 48 := ⟨_, Tryd.underlying48, rfl⟩
instance : IntT Tryd.prog 48 .i64 := ⟨Tryd.underlying48⟩
instance : ZT Tryd.prog 48 [Value.int IntKind.i64 0] := ⟨_, Tryd.zeroValue48, rfl⟩
instance : NAgg Tryd.prog 48 := ⟨Tryd.isAgg48⟩
instance : OneT Tryd.prog 48 (Value.int IntKind.i64 0) := ⟨Tryd.isAgg48, Tryd.sizeOf48, Tryd.zeroValue48⟩
instance : ZV Tryd.prog 48 (Value.int IntKind.i64 0) := ⟨Tryd.zeroValue48⟩
instance : NotIf Tryd.prog 51 := ⟨_, Tryd.underlying51, rfl⟩
instance : IntT Tryd.prog 51 .i64 := ⟨Tryd.underlying51⟩
instance : ZT Tryd.prog 51 [Value.int IntKind.i64 0] := ⟨_, Tryd.zeroValue51, rfl⟩
instance : NAgg Tryd.prog 51 := ⟨Tryd.isAgg51⟩
instance : OneT Tryd.prog 51 (Value.int IntKind.i64 0) := ⟨Tryd.isAgg51, Tryd.sizeOf51, Tryd.zeroValue51⟩
instance : ZV Tryd.prog 51 (Value.int IntKind.i64 0) := ⟨Tryd.zeroValue51⟩
instance : NotIf Tryd.prog 52 := ⟨_, Tryd.underlying52, rfl⟩
instance : ZT Tryd.prog 52 [Value.pointer none] := ⟨_, Tryd.zeroValue52, rfl⟩
instance : NAgg Tryd.prog 52 := ⟨Tryd.isAgg52⟩
instance : OneT Tryd.prog 52 (Value.pointer none) := ⟨Tryd.isAgg52, Tryd.sizeOf52, Tryd.zeroValue52⟩
instance : ZV Tryd.prog 52 (Value.pointer none) := ⟨Tryd.zeroValue52⟩
instance : NotIf Tryd.prog 54 := ⟨_, Tryd.underlying54, rfl⟩
instance : ZT Tryd.prog 54 [Value.slice none 0 0, Value.int IntKind.i64 0, Value.int IntKind.i64 0] := ⟨_, Tryd.zeroValue54, rfl⟩
instance : StT Tryd.prog 54 [(0, 1), (1, 1), (2, 1)] [Value.slice none 0 0, Value.int IntKind.i64 0, Value.int IntKind.i64 0] := ⟨fld_of Tryd.underlying54 (by kernel_rfl), fun parts => by kernel_rfl, Tryd.sizeOf54, Tryd.isAgg54, Tryd.zeroValue54⟩
instance : ZV Tryd.prog 54 (Value.agg #[Value.slice none 0 0, Value.int IntKind.i64 0, Value.int IntKind.i64 0]) := ⟨Tryd.zeroValue54⟩
instance : FldT Tryd.prog 54 [some 0, some 1, some 2] := fldT_of Tryd.underlying54 (by kernel_rfl)
instance : NotIf Tryd.prog 58 := ⟨_, Tryd.underlying58, rfl⟩
instance : ZT Tryd.prog 58 [Value.pointer none] := ⟨_, Tryd.zeroValue58, rfl⟩
instance : NAgg Tryd.prog 58 := ⟨Tryd.isAgg58⟩
instance : OneT Tryd.prog 58 (Value.pointer none) := ⟨Tryd.isAgg58, Tryd.sizeOf58, Tryd.zeroValue58⟩
instance : ZV Tryd.prog 58 (Value.pointer none) := ⟨Tryd.zeroValue58⟩
instance : NotIf Tryd.prog 60 := ⟨_, Tryd.underlying60, rfl⟩
instance : ZT Tryd.prog 60 [Value.slice none 0 0, Value.int IntKind.i64 0, Value.int IntKind.i64 0] := ⟨_, Tryd.zeroValue60, rfl⟩
instance : StT Tryd.prog 60 [(0, 1), (1, 1), (2, 1)] [Value.slice none 0 0, Value.int IntKind.i64 0, Value.int IntKind.i64 0] := ⟨fld_of Tryd.underlying60 (by kernel_rfl), fun parts => by kernel_rfl, Tryd.sizeOf60, Tryd.isAgg60, Tryd.zeroValue60⟩
instance : ZV Tryd.prog 60 (Value.agg #[Value.slice none 0 0, Value.int IntKind.i64 0, Value.int IntKind.i64 0]) := ⟨Tryd.zeroValue60⟩
instance : FldT Tryd.prog 60 [some 0, some 1, some 2] := fldT_of Tryd.underlying60 (by kernel_rfl)
instance : NotIf Tryd.prog 63 := ⟨_, Tryd.underlying63, rfl⟩
instance : ZT Tryd.prog 63 [Value.string { data := #[] }] := ⟨_, Tryd.zeroValue63, rfl⟩
instance : StT Tryd.prog 63 [(0, 1)] [Value.string { data := #[] }] := ⟨fld_of Tryd.underlying63 (by kernel_rfl), fun parts => by kernel_rfl, Tryd.sizeOf63, Tryd.isAgg63, Tryd.zeroValue63⟩
instance : ZV Tryd.prog 63 (Value.agg #[Value.string { data := #[] }]) := ⟨Tryd.zeroValue63⟩
instance : EqT Tryd.prog 63 [.s] := ⟨by kernel_rfl, by kernel_rfl, by kernel_rfl, by kernel_rfl⟩
instance : FldT Tryd.prog 63 [some 0] := fldT_of Tryd.underlying63 (by kernel_rfl)
instance : NotIf Tryd.prog 65 := ⟨_, Tryd.underlying65, rfl⟩
instance : ZT Tryd.prog 65 [Value.string { data := #[] }, Value.nilIface] := ⟨_, Tryd.zeroValue65, rfl⟩
instance : StT Tryd.prog 65 [(0, 1), (1, 1)] [Value.string { data := #[] }, Value.nilIface] := ⟨fld_of Tryd.underlying65 (by kernel_rfl), fun parts => by kernel_rfl, Tryd.sizeOf65, Tryd.isAgg65, Tryd.zeroValue65⟩
instance : ZV Tryd.prog 65 (Value.agg #[Value.string { data := #[] }, Value.nilIface]) := ⟨Tryd.zeroValue65⟩
instance : FldT Tryd.prog 65 [none, some 1] := fldT_of Tryd.underlying65 (by kernel_rfl)
instance : NotIf Tryd.prog 67 := ⟨_, Tryd.underlying67, rfl⟩
instance : ZT Tryd.prog 67 [Value.slice none 0 0] := ⟨_, Tryd.zeroValue67, rfl⟩
instance : StT Tryd.prog 67 [(0, 1)] [Value.slice none 0 0] := ⟨fld_of Tryd.underlying67 (by kernel_rfl), fun parts => by kernel_rfl, Tryd.sizeOf67, Tryd.isAgg67, Tryd.zeroValue67⟩
instance : ZV Tryd.prog 67 (Value.agg #[Value.slice none 0 0]) := ⟨Tryd.zeroValue67⟩
instance : FldT Tryd.prog 67 [some 0] := fldT_of Tryd.underlying67 (by kernel_rfl)
instance : NotIf Tryd.prog 68 := ⟨_, Tryd.underlying68, rfl⟩
instance : ZT Tryd.prog 68 [Value.string { data := #[] }] := ⟨_, Tryd.zeroValue68, rfl⟩
instance : StT Tryd.prog 68 [(0, 1)] [Value.string { data := #[] }] := ⟨fld_of Tryd.underlying68 (by kernel_rfl), fun parts => by kernel_rfl, Tryd.sizeOf68, Tryd.isAgg68, Tryd.zeroValue68⟩
instance : ZV Tryd.prog 68 (Value.agg #[Value.string { data := #[] }]) := ⟨Tryd.zeroValue68⟩
instance : EqT Tryd.prog 68 [.s] := ⟨by kernel_rfl, by kernel_rfl, by kernel_rfl, by kernel_rfl⟩
instance : FldT Tryd.prog 68 [some 0] := fldT_of Tryd.underlying68 (by kernel_rfl)
instance : NotIf Tryd.prog 70 := ⟨_, Tryd.underlying70, rfl⟩
instance : ZT Tryd.prog 70 [Value.int IntKind.i64 0] := ⟨_, Tryd.zeroValue70, rfl⟩
instance : StT Tryd.prog 70 [(0, 1)] [Value.int IntKind.i64 0] := ⟨fld_of Tryd.underlying70 (by kernel_rfl), fun parts => by kernel_rfl, Tryd.sizeOf70, Tryd.isAgg70, Tryd.zeroValue70⟩
instance : ZV Tryd.prog 70 (Value.agg #[Value.int IntKind.i64 0]) := ⟨Tryd.zeroValue70⟩
instance : EqT Tryd.prog 70 [.i] := ⟨by kernel_rfl, by kernel_rfl, by kernel_rfl, by kernel_rfl⟩
instance : FldT Tryd.prog 70 [some 0] := fldT_of Tryd.underlying70 (by kernel_rfl)
instance : SlT Tryd.prog 72 41 1 := ⟨Tryd.underlying72, Tryd.sizeOf41⟩
instance : NotIf Tryd.prog 72 := ⟨_, Tryd.underlying72, rfl⟩
instance : ZT Tryd.prog 72 [Value.slice none 0 0] := ⟨_, Tryd.zeroValue72, rfl⟩
instance : NAgg Tryd.prog 72 := ⟨Tryd.isAgg72⟩
instance : OneT Tryd.prog 72 (Value.slice none 0 0) := ⟨Tryd.isAgg72, Tryd.sizeOf72, Tryd.zeroValue72⟩
instance : ZV Tryd.prog 72 (Value.slice none 0 0) := ⟨Tryd.zeroValue72⟩
instance : NotIf Tryd.prog 74 := ⟨_, Tryd.underlying74, rfl⟩
instance : ZT Tryd.prog 74 [Value.int IntKind.i64 0, Value.int IntKind.i64 0, Value.int IntKind.i64 0, Value.int IntKind.i64 0, Value.slice none 0 0] := ⟨_, Tryd.zeroValue74, rfl⟩
instance : StT Tryd.prog 74 [(0, 3), (3, 1), (4, 1)] [Value.int IntKind.i64 0, Value.int IntKind.i64 0, Value.int IntKind.i64 0, Value.int IntKind.i64 0, Value.slice none 0 0] := ⟨fld_of Tryd.underlying74 (by kernel_rfl), fun parts => by kernel_rfl, Tryd.sizeOf74, Tryd.isAgg74, Tryd.zeroValue74⟩
instance : ZV Tryd.prog 74 (Value.agg #[Value.int IntKind.i64 0, Value.int IntKind.i64 0, Value.int IntKind.i64 0, Value.int IntKind.i64 0, Value.slice none 0 0]) := ⟨Tryd.zeroValue74⟩
instance : FldT Tryd.prog 74 [none, some 3, some 4] := fldT_of Tryd.underlying74 (by kernel_rfl)
instance : NotIf Tryd.prog 76 := ⟨_, Tryd.underlying76, rfl⟩
instance : ZT Tryd.prog 76 [Value.int IntKind.i64 0, Value.int IntKind.i64 0, Value.int IntKind.i64 0, Value.int IntKind.i64 0, Value.slice none 0 0, Value.nilIface] := ⟨_, Tryd.zeroValue76, rfl⟩
instance : StT Tryd.prog 76 [(0, 5), (5, 1)] [Value.int IntKind.i64 0, Value.int IntKind.i64 0, Value.int IntKind.i64 0, Value.int IntKind.i64 0, Value.slice none 0 0, Value.nilIface] := ⟨fld_of Tryd.underlying76 (by kernel_rfl), fun parts => by kernel_rfl, Tryd.sizeOf76, Tryd.isAgg76, Tryd.zeroValue76⟩
instance : ZV Tryd.prog 76 (Value.agg #[Value.int IntKind.i64 0, Value.int IntKind.i64 0, Value.int IntKind.i64 0, Value.int IntKind.i64 0, Value.slice none 0 0, Value.nilIface]) := ⟨Tryd.zeroValue76⟩
instance : FldT Tryd.prog 76 [none, some 5] := fldT_of Tryd.underlying76 (by kernel_rfl)
instance : NotIf Tryd.prog 81 := ⟨_, Tryd.underlying81, rfl⟩
instance : ZT Tryd.prog 81 [Value.nilIface, Value.int IntKind.i64 0, Value.int IntKind.i64 0, Value.int IntKind.i64 0, Value.int IntKind.i64 0, Value.slice none 0 0, Value.nilIface] := ⟨_, Tryd.zeroValue81, rfl⟩
instance : StT Tryd.prog 81 [(0, 1), (1, 5), (6, 1)] [Value.nilIface, Value.int IntKind.i64 0, Value.int IntKind.i64 0, Value.int IntKind.i64 0, Value.int IntKind.i64 0, Value.slice none 0 0, Value.nilIface] := ⟨fld_of Tryd.underlying81 (by kernel_rfl), fun parts => by kernel_rfl, Tryd.sizeOf81, Tryd.isAgg81, Tryd.zeroValue81⟩
instance : ZV Tryd.prog 81 (Value.agg #[Value.nilIface, Value.int IntKind.i64 0, Value.int IntKind.i64 0, Value.int IntKind.i64 0, Value.int IntKind.i64 0, Value.slice none 0 0, Value.nilIface]) := ⟨Tryd.zeroValue81⟩
instance : FldT Tryd.prog 81 [some 0, none, some 6] := fldT_of Tryd.underlying81 (by kernel_rfl)
instance : NotIf Tryd.prog 83 := ⟨_, Tryd.underlying83, rfl⟩
instance : ZT Tryd.prog 83 [Value.nilIface, Value.slice none 0 0] := ⟨_, Tryd.zeroValue83, rfl⟩
instance : StT Tryd.prog 83 [(0, 1), (1, 1)] [Value.nilIface, Value.slice none 0 0] := ⟨fld_of Tryd.underlying83 (by kernel_rfl), fun parts => by kernel_rfl, Tryd.sizeOf83, Tryd.isAgg83, Tryd.zeroValue83⟩
instance : ZV Tryd.prog 83 (Value.agg #[Value.nilIface, Value.slice none 0 0]) := ⟨Tryd.zeroValue83⟩
instance : FldT Tryd.prog 83 [some 0, some 1] := fldT_of Tryd.underlying83 (by kernel_rfl)
instance : SlT Tryd.prog 84 9 1 := ⟨Tryd.underlying84, Tryd.sizeOf9⟩
instance : NotIf Tryd.prog 84 := ⟨_, Tryd.underlying84, rfl⟩
instance : ZT Tryd.prog 84 [Value.slice none 0 0] := ⟨_, Tryd.zeroValue84, rfl⟩
instance : NAgg Tryd.prog 84 := ⟨Tryd.isAgg84⟩
instance : OneT Tryd.prog 84 (Value.slice none 0 0) := ⟨Tryd.isAgg84, Tryd.sizeOf84, Tryd.zeroValue84⟩
instance : ZV Tryd.prog 84 (Value.slice none 0 0) := ⟨Tryd.zeroValue84⟩
instance : NotIf Tryd.prog 97 := ⟨_, Tryd.underlying97, rfl⟩
instance : ZT Tryd.prog 97 [Value.pointer none] := ⟨_, Tryd.zeroValue97, rfl⟩
instance : NAgg Tryd.prog 97 := ⟨Tryd.isAgg97⟩
instance : OneT Tryd.prog 97 (Value.pointer none) := ⟨Tryd.isAgg97, Tryd.sizeOf97, Tryd.zeroValue97⟩
instance : ZV Tryd.prog 97 (Value.pointer none) := ⟨Tryd.zeroValue97⟩
instance : SlT Tryd.prog 98 5 1 := ⟨Tryd.underlying98, Tryd.sizeOf5⟩
instance : NotIf Tryd.prog 98 := ⟨_, Tryd.underlying98, rfl⟩
instance : ZT Tryd.prog 98 [Value.slice none 0 0] := ⟨_, Tryd.zeroValue98, rfl⟩
instance : NAgg Tryd.prog 98 := ⟨Tryd.isAgg98⟩
instance : OneT Tryd.prog 98 (Value.slice none 0 0) := ⟨Tryd.isAgg98, Tryd.sizeOf98, Tryd.zeroValue98⟩
instance : ZV Tryd.prog 98 (Value.slice none 0 0) := ⟨Tryd.zeroValue98⟩
instance : NotIf Tryd.prog 100 := ⟨_, Tryd.underlying100, rfl⟩
instance : ZT Tryd.prog 100 [Value.pointer none, Value.slice none 0 0] := ⟨_, Tryd.zeroValue100, rfl⟩
instance : StT Tryd.prog 100 [(0, 1), (1, 1)] [Value.pointer none, Value.slice none 0 0] := ⟨fld_of Tryd.underlying100 (by kernel_rfl), fun parts => by kernel_rfl, Tryd.sizeOf100, Tryd.isAgg100, Tryd.zeroValue100⟩
instance : ZV Tryd.prog 100 (Value.agg #[Value.pointer none, Value.slice none 0 0]) := ⟨Tryd.zeroValue100⟩
instance : FldT Tryd.prog 100 [some 0, some 1] := fldT_of Tryd.underlying100 (by kernel_rfl)
instance : NotIf Tryd.prog 110 := ⟨_, Tryd.underlying110, rfl⟩
instance : ZT Tryd.prog 110 [Value.pointer none] := ⟨_, Tryd.zeroValue110, rfl⟩
instance : NAgg Tryd.prog 110 := ⟨Tryd.isAgg110⟩
instance : OneT Tryd.prog 110 (Value.pointer none) := ⟨Tryd.isAgg110, Tryd.sizeOf110, Tryd.zeroValue110⟩
instance : ZV Tryd.prog 110 (Value.pointer none) := ⟨Tryd.zeroValue110⟩
instance : NotIf Tryd.prog 117 := ⟨_, Tryd.underlying117, rfl⟩
instance : ZT Tryd.prog 117 [Value.int IntKind.u8 0, Value.int IntKind.u8 0] := ⟨_, Tryd.zeroValue117, rfl⟩
instance : StT Tryd.prog 117 [(0, 1), (1, 1)] [Value.int IntKind.u8 0, Value.int IntKind.u8 0] := ⟨fld_of Tryd.underlying117 (by kernel_rfl), fun parts => by kernel_rfl, Tryd.sizeOf117, Tryd.isAgg117, Tryd.zeroValue117⟩
instance : ZV Tryd.prog 117 (Value.agg #[Value.int IntKind.u8 0, Value.int IntKind.u8 0]) := ⟨Tryd.zeroValue117⟩
instance : FldT Tryd.prog 117 [some 0, some 1] := fldT_of Tryd.underlying117 (by kernel_rfl)
instance : NotIf Tryd.prog 119 := ⟨_, Tryd.underlying119, rfl⟩
instance : IntT Tryd.prog 119 .u64 := ⟨Tryd.underlying119⟩
instance : ZT Tryd.prog 119 [Value.int IntKind.u64 0] := ⟨_, Tryd.zeroValue119, rfl⟩
instance : NAgg Tryd.prog 119 := ⟨Tryd.isAgg119⟩
instance : OneT Tryd.prog 119 (Value.int IntKind.u64 0) := ⟨Tryd.isAgg119, Tryd.sizeOf119, Tryd.zeroValue119⟩
instance : ZV Tryd.prog 119 (Value.int IntKind.u64 0) := ⟨Tryd.zeroValue119⟩
instance : NotIf Tryd.prog 127 := ⟨_, Tryd.underlying127, rfl⟩
instance : IntT Tryd.prog 127 .u64 := ⟨Tryd.underlying127⟩
instance : ZT Tryd.prog 127 [Value.int IntKind.u64 0] := ⟨_, Tryd.zeroValue127, rfl⟩
instance : NAgg Tryd.prog 127 := ⟨Tryd.isAgg127⟩
instance : OneT Tryd.prog 127 (Value.int IntKind.u64 0) := ⟨Tryd.isAgg127, Tryd.sizeOf127, Tryd.zeroValue127⟩
instance : ZV Tryd.prog 127 (Value.int IntKind.u64 0) := ⟨Tryd.zeroValue127⟩
instance : NotIf Tryd.prog 137 := ⟨_, Tryd.underlying137, rfl⟩
instance : IntT Tryd.prog 137 .u32 := ⟨Tryd.underlying137⟩
instance : ZT Tryd.prog 137 [Value.int IntKind.u32 0] := ⟨_, Tryd.zeroValue137, rfl⟩
instance : NAgg Tryd.prog 137 := ⟨Tryd.isAgg137⟩
instance : OneT Tryd.prog 137 (Value.int IntKind.u32 0) := ⟨Tryd.isAgg137, Tryd.sizeOf137, Tryd.zeroValue137⟩
instance : ZV Tryd.prog 137 (Value.int IntKind.u32 0) := ⟨Tryd.zeroValue137⟩
instance : ElT Tryd.prog 22 33 7 [Value.int IntKind.i64 0, Value.int IntKind.i64 0, Value.int IntKind.i64 0, Value.int IntKind.i64 0, Value.int IntKind.i64 0, Value.slice none 0 0, Value.string { data := #[] }] 80 := elT_of (z := Value.agg #[Value.int IntKind.i64 0, Value.int IntKind.i64 0, Value.int IntKind.i64 0, Value.int IntKind.i64 0, Value.int IntKind.i64 0, Value.slice none 0 0, Value.string { data := #[] }]) Tryd.underlying22 (by kernel_rfl) rfl rfl (by decide)
instance : ElT Tryd.prog 23 35 5 [Value.int IntKind.i64 0, Value.int IntKind.i64 0, Value.int IntKind.i64 0, Value.string { data := #[] }, Value.int IntKind.i64 0] 48 := elT_of (z := Value.agg #[Value.int IntKind.i64 0, Value.int IntKind.i64 0, Value.int IntKind.i64 0, Value.string { data := #[] }, Value.int IntKind.i64 0]) Tryd.underlying23 (by kernel_rfl) rfl rfl (by decide)
instance : ElT Tryd.prog 31 3 1 [Value.int IntKind.i64 0] 8 := elT_of (z := Value.int IntKind.i64 0) Tryd.underlying31 (by kernel_rfl) rfl rfl (by decide)
instance : ElT Tryd.prog 72 41 1 [Value.nilIface] 16 := elT_of (z := Value.nilIface) Tryd.underlying72 (by kernel_rfl) rfl rfl (by decide)
instance : ElT Tryd.prog 84 9 1 [Value.string { data := #[] }] 16 := elT_of (z := Value.string { data := #[] }) Tryd.underlying84 (by kernel_rfl) rfl rfl (by decide)
instance : ElT Tryd.prog 98 5 1 [Value.int IntKind.u8 0] 1 := elT_of (z := Value.int IntKind.u8 0) Tryd.underlying98 (by kernel_rfl) rfl rfl (by decide)
instance : FnT Tryd.prog 3 := ⟨_, _, Tryd.func3, rfl, by decide⟩
instance : FnT Tryd.prog 4 := ⟨_, _, Tryd.func4, rfl, by decide⟩
instance : FnT Tryd.prog 5 := ⟨_, _, Tryd.func5, rfl, by decide⟩
instance : FnT Tryd.prog 6 := ⟨_, _, Tryd.func6, rfl, by decide⟩
instance : FnT Tryd.prog 7 := ⟨_, _, Tryd.func7, rfl, by decide⟩
instance : FnT Tryd.prog 8 := ⟨_, _, Tryd.func8, rfl, by decide⟩
instance : FnT Tryd.prog 9 := ⟨_, _, Tryd.func9, rfl, by decide⟩
instance : FnT Tryd.prog 10 := ⟨_, _, Tryd.func10, rfl, by decide⟩
instance : FnT Tryd.prog 11 := ⟨_, _, Tryd.func11, rfl, by decide⟩
instance : FnT Tryd.prog 12 := ⟨_, _, Tryd.func12, rfl, by decide⟩
instance : FnT Tryd.prog 13 := ⟨_, _, Tryd.func13, rfl, by decide⟩
instance : FnT Tryd.prog 14 := ⟨_, _, Tryd.func14, rfl, by decide⟩
instance : FnT Tryd.prog 15 := ⟨_, _, Tryd.func15, rfl, by decide⟩
instance : FnT Tryd.prog 16 := ⟨_, _, Tryd.func16, rfl, by decide⟩
instance : FnT Tryd.prog 17 := ⟨_, _, Tryd.func17, rfl, by decide⟩
instance : FnT Tryd.prog 18 := ⟨_, _, Tryd.func18, rfl, by decide⟩
instance : FnT Tryd.prog 19 := ⟨_, _, Tryd.func19, rfl, by decide⟩
instance : FnT Tryd.prog 20 := ⟨_, _, Tryd.func20, rfl, by decide⟩
instance : FnT Tryd.prog 21 := ⟨_, _, Tryd.func21, rfl, by decide⟩
instance : FnT Tryd.prog 22 := ⟨_, _, Tryd.func22, rfl, by decide⟩
instance : FnT Tryd.prog 23 := ⟨_, _, Tryd.func23, rfl, by decide⟩
instance : FnT Tryd.prog 24 := ⟨_, _, Tryd.func24, rfl, by decide⟩
instance : FnT Tryd.prog 25 := ⟨_, _, Tryd.func25, rfl, by decide⟩
instance : FnT Tryd.prog 26 := ⟨_, _, Tryd.func26, rfl, by decide⟩
instance : FnT Tryd.prog 27 := ⟨_, _, Tryd.func27, rfl, by decide⟩
instance : FnT Tryd.prog 28 := ⟨_, _, Tryd.func28, rfl, by decide⟩
instance : FnT Tryd.prog 29 := ⟨_, _, Tryd.func29, rfl, by decide⟩
instance : FnT Tryd.prog 30 := ⟨_, _, Tryd.func30, rfl, by decide⟩
instance : FnT Tryd.prog 31 := ⟨_, _, Tryd.func31, rfl, by decide⟩
instance : FnT Tryd.prog 32 := ⟨_, _, Tryd.func32, rfl, by decide⟩
instance : FnT Tryd.prog 33 := ⟨_, _, Tryd.func33, rfl, by decide⟩
instance : FnT Tryd.prog 34 := ⟨_, _, Tryd.func34, rfl, by decide⟩
instance : FnT Tryd.prog 35 := ⟨_, _, Tryd.func35, rfl, by decide⟩
instance : FnT Tryd.prog 36 := ⟨_, _, Tryd.func36, rfl, by decide⟩
instance : FnT Tryd.prog 37 := ⟨_, _, Tryd.func37, rfl, by decide⟩
instance : FnT Tryd.prog 38 := ⟨_, _, Tryd.func38, rfl, by decide⟩
instance : FnT Tryd.prog 39 := ⟨_, _, Tryd.func39, rfl, by decide⟩
instance : FnT Tryd.prog 40 := ⟨_, _, Tryd.func40, rfl, by decide⟩
instance : FnT Tryd.prog 41 := ⟨_, _, Tryd.func41, rfl, by decide⟩
instance : FnT Tryd.prog 43 := ⟨_, _, Tryd.func43, rfl, by decide⟩
instance : FnT Tryd.prog 44 := ⟨_, _, Tryd.func44, rfl, by decide⟩
instance : FnT Tryd.prog 45 := ⟨_, _, Tryd.func45, rfl, by decide⟩
instance : FnT Tryd.prog 46 := ⟨_, _, Tryd.func46, rfl, by decide⟩
instance : FnT Tryd.prog 47 := ⟨_, _, Tryd.func47, rfl, by decide⟩
instance : FnT Tryd.prog 48 := ⟨_, _, Tryd.func48, rfl, by decide⟩
instance : FnT Tryd.prog 49 := ⟨_, _, Tryd.func49, rfl, by decide⟩
instance : FnT Tryd.prog 50 := ⟨_, _, Tryd.func50, rfl, by decide⟩
instance : FnT Tryd.prog 51 := ⟨_, _, Tryd.func51, rfl, by decide⟩
instance : FnT Tryd.prog 52 := ⟨_, _, Tryd.func52, rfl, by decide⟩
instance : FnT Tryd.prog 54 := ⟨_, _, Tryd.func54, rfl, by decide⟩
instance : FnT Tryd.prog 55 := ⟨_, _, Tryd.func55, rfl, by decide⟩
instance : FnT Tryd.prog 56 := ⟨_, _, Tryd.func56, rfl, by decide⟩
instance : FnT Tryd.prog 57 := ⟨_, _, Tryd.func57, rfl, by decide⟩
instance : FnT Tryd.prog 58 := ⟨_, _, Tryd.func58, rfl, by decide⟩
instance : FnT Tryd.prog 61 := ⟨_, _, Tryd.func61, rfl, by decide⟩
instance : FnT Tryd.prog 66 := ⟨_, _, Tryd.func66, rfl, by decide⟩
instance : FnT Tryd.prog 69 := ⟨_, _, Tryd.func69, rfl, by decide⟩
instance : FnT Tryd.prog 71 := ⟨_, _, Tryd.func71, rfl, by decide⟩
instance : FnT Tryd.prog 74 := ⟨_, _, Tryd.func74, rfl, by decide⟩
instance : FnT Tryd.prog 79 := ⟨_, _, Tryd.func79, rfl, by decide⟩
instance : FnT Tryd.prog 80 := ⟨_, _, Tryd.func80, rfl, by decide⟩
instance : FnT Tryd.prog 99 := ⟨_, _, Tryd.func99, rfl, by decide⟩
instance : FnT Tryd.prog 100 := ⟨_, _, Tryd.func100, rfl, by decide⟩
instance : FnT Tryd.prog 101 := ⟨_, _, Tryd.func101, rfl, by decide⟩
instance : FnT Tryd.prog 102 := ⟨_, _, Tryd.func102, rfl, by decide⟩
instance : FnT Tryd.prog 103 := ⟨_, _, Tryd.func103, rfl, by decide⟩
instance : FnT Tryd.prog 104 := ⟨_, _, Tryd.func104, rfl, by decide⟩
instance : FnT Tryd.prog 105 := ⟨_, _, Tryd.func105, rfl, by decide⟩
instance : FnT Tryd.prog 106 := ⟨_, _, Tryd.func106, rfl, by decide⟩
instance : FnT Tryd.prog 107 := ⟨_, _, Tryd.func107, rfl, by decide⟩
instance : FnT Tryd.prog 108 := ⟨_, _, Tryd.func108, rfl, by decide⟩
end Go.Proofs.YtanbifmcnkhdhaaDoor
