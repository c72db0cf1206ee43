/-
  The types and the functions of this seat, as the logic of walks asks for them. (Written by a program of this repo: inst.py.)
-/
import Derived.Test.YtdmapiaejcnibaaDoorProg
import Derived.Test.YtdmapiaejcnibaaDoorMore
namespace Go.Proofs.YtdmapiaejcnibaaDoor
open Go
set_option maxRecDepth 100000
instance : NotIf Tryd.prog 2 := ⟨_, Tryd.underlying2, rfl⟩
instance : IntT Tryd.prog 2 .i64 := ⟨Tryd.underlying2⟩
instance : ZT Tryd.prog 2 [Value.int IntKind.i64 0] := ⟨_, Tryd.zeroValue2, rfl⟩
instance : NAgg Tryd.prog 2 := ⟨Tryd.isAgg2⟩
instance : OneT Tryd.prog 2 (Value.int IntKind.i64 0) := ⟨Tryd.isAgg2, Tryd.sizeOf2, Tryd.zeroValue2⟩
instance : ZV Tryd.prog 2 (Value.int IntKind.i64 0) := ⟨Tryd.zeroValue2⟩
instance : NotIf Tryd.prog 3 := ⟨_, Tryd.underlying3, rfl⟩
instance : IntT Tryd.prog 3 .i64 := ⟨Tryd.underlying3⟩
instance : ZT Tryd.prog 3 [Value.int IntKind.i64 0] := ⟨_, Tryd.zeroValue3, rfl⟩
instance : NAgg Tryd.prog 3 := ⟨Tryd.isAgg3⟩
instance : OneT Tryd.prog 3 (Value.int IntKind.i64 0) := ⟨Tryd.isAgg3, Tryd.sizeOf3, Tryd.zeroValue3⟩
instance : ZV Tryd.prog 3 (Value.int IntKind.i64 0) := ⟨Tryd.zeroValue3⟩
instance : NotIf Tryd.prog 4 := ⟨_, Tryd.underlying4, rfl⟩
instance : BoolT Tryd.prog 4 := ⟨Tryd.underlying4⟩
instance : ZT Tryd.prog 4 [Value.bool false] := ⟨_, Tryd.zeroValue4, rfl⟩
instance : NAgg Tryd.prog 4 := ⟨Tryd.isAgg4⟩
instance : OneT Tryd.prog 4 (Value.bool false) := ⟨Tryd.isAgg4, Tryd.sizeOf4, Tryd.zeroValue4⟩
instance : ZV Tryd.prog 4 (Value.bool false) := ⟨Tryd.zeroValue4⟩
instance : NotIf Tryd.prog 5 := ⟨_, Tryd.underlying5, rfl⟩
instance : IntT Tryd.prog 5 .u8 := ⟨Tryd.underlying5⟩
instance : ZT Tryd.prog 5 [Value.int IntKind.u8 0] := ⟨_, Tryd.zeroValue5, rfl⟩
instance : NAgg Tryd.prog 5 := ⟨Tryd.isAgg5⟩
instance : OneT Tryd.prog 5 (Value.int IntKind.u8 0) := ⟨Tryd.isAgg5, Tryd.sizeOf5, Tryd.zeroValue5⟩
instance : ZV Tryd.prog 5 (Value.int IntKind.u8 0) := ⟨Tryd.zeroValue5⟩
instance : NotIf Tryd.prog 9 := ⟨_, Tryd.underlying9, rfl⟩
instance : StrT Tryd.prog 9 := ⟨Tryd.underlying9⟩
instance : ZT Tryd.prog 9 [Value.string { data := #[] }] := ⟨_, Tryd.zeroValue9, rfl⟩
instance : NAgg Tryd.prog 9 := ⟨Tryd.isAgg9⟩
instance : OneT Tryd.prog 9 (Value.string { data := #[] }) := ⟨Tryd.isAgg9, Tryd.sizeOf9, Tryd.zeroValue9⟩
instance : ZV Tryd.prog 9 (Value.string { data := #[] }) := ⟨Tryd.zeroValue9⟩
instance : NotIf Tryd.prog 12 := ⟨_, Tryd.underlying12, rfl⟩
instance : IntT Tryd.prog 12 .u64 := ⟨Tryd.underlying12⟩
instance : ZT Tryd.prog 12 [Value.int IntKind.u64 0] := ⟨_, Tryd.zeroValue12, rfl⟩
instance : NAgg Tryd.prog 12 := ⟨Tryd.isAgg12⟩
instance : OneT Tryd.prog 12 (Value.int IntKind.u64 0) := ⟨Tryd.isAgg12, Tryd.sizeOf12, Tryd.zeroValue12⟩
instance : ZV Tryd.prog 12 (Value.int IntKind.u64 0) := ⟨Tryd.zeroValue12⟩
instance : IfT Tryd.prog 20 := ⟨_, Tryd.underlying20⟩
instance : ZT Tryd.prog 20 [Value.nilIface] := ⟨_, Tryd.zeroValue20, rfl⟩
instance : NAgg Tryd.prog 20 := ⟨Tryd.isAgg20⟩
instance : OneT Tryd.prog 20 (Value.nilIface) := ⟨Tryd.isAgg20, Tryd.sizeOf20, Tryd.zeroValue20⟩
instance : ZV Tryd.prog 20 (Value.nilIface) := ⟨Tryd.zeroValue20⟩
instance : NotIf Tryd.prog 21 := ⟨_, Tryd.underlying21, rfl⟩
instance : IntT Tryd.prog 21 .i32 := ⟨Tryd.underlying21⟩
instance : ZT Tryd.prog 21 [Value.int IntKind.i32 0] := ⟨_, Tryd.zeroValue21, rfl⟩
instance : NAgg Tryd.prog 21 := ⟨Tryd.isAgg21⟩
instance : OneT Tryd.prog 21 (Value.int IntKind.i32 0) := ⟨Tryd.isAgg21, Tryd.sizeOf21, Tryd.zeroValue21⟩
instance : ZV Tryd.prog 21 (Value.int IntKind.i32 0) := ⟨Tryd.zeroValue21⟩
instance : SlT Tryd.prog 22 30 5 := ⟨Tryd.underlying22, Tryd.sizeOf30⟩
instance : NotIf Tryd.prog 22 := ⟨_, Tryd.underlying22, rfl⟩
instance : ZT Tryd.prog 22 [Value.slice none 0 0] := ⟨_, Tryd.zeroValue22, rfl⟩
instance : NAgg Tryd.prog 22 := ⟨Tryd.isAgg22⟩
instance : OneT Tryd.prog 22 (Value.slice none 0 0) := ⟨Tryd.isAgg22, Tryd.sizeOf22, Tryd.zeroValue22⟩
instance : ZV Tryd.prog 22 (Value.slice none 0 0) := ⟨Tryd.zeroValue22⟩
instance : SlT Tryd.prog 23 35 7 := ⟨Tryd.underlying23, Tryd.sizeOf35⟩
instance : NotIf Tryd.prog 23 := ⟨_, Tryd.underlying23, rfl⟩
instance : ZT Tryd.prog 23 [Value.slice none 0 0] := ⟨_, Tryd.zeroValue23, rfl⟩
instance : NAgg Tryd.prog 23 := ⟨Tryd.isAgg23⟩
instance : OneT Tryd.prog 23 (Value.slice none 0 0) := ⟨Tryd.isAgg23, Tryd.sizeOf23, Tryd.zeroValue23⟩
instance : ZV Tryd.prog 23 (Value.slice none 0 0) := ⟨Tryd.zeroValue23⟩
instance : IfT Tryd.prog 24 := ⟨_, Tryd.underlying24⟩
instance : ZT Tryd.prog 24 [Value.nilIface] := ⟨_, Tryd.zeroValue24, rfl⟩
instance : NAgg Tryd.prog 24 := ⟨Tryd.isAgg24⟩
instance : OneT Tryd.prog 24 (Value.nilIface) := ⟨Tryd.isAgg24, Tryd.sizeOf24, Tryd.zeroValue24⟩
instance : ZV Tryd.prog 24 (Value.nilIface) := ⟨Tryd.zeroValue24⟩
instance : IfT Tryd.prog 25 := ⟨_, Tryd.underlying25⟩
instance : ZT Tryd.prog 25 [Value.nilIface] := ⟨_, Tryd.zeroValue25, rfl⟩
instance : NAgg Tryd.prog 25 := ⟨Tryd.isAgg25⟩
instance : OneT Tryd.prog 25 (Value.nilIface) := ⟨Tryd.isAgg25, Tryd.sizeOf25, Tryd.zeroValue25⟩
instance : ZV Tryd.prog 25 (Value.nilIface) := ⟨Tryd.zeroValue25⟩
instance : NotIf Tryd.prog 28 := ⟨_, Tryd.underlying28, rfl⟩
instance : IntT Tryd.prog 28 .i64 := ⟨Tryd.underlying28⟩
instance : ZT Tryd.prog 28 [Value.int IntKind.i64 0] := ⟨_, Tryd.zeroValue28, rfl⟩
instance : NAgg Tryd.prog 28 := ⟨Tryd.isAgg28⟩
instance : OneT Tryd.prog 28 (Value.int IntKind.i64 0) := ⟨Tryd.isAgg28, Tryd.sizeOf28, Tryd.zeroValue28⟩
instance : ZV Tryd.prog 28 (Value.int IntKind.i64 0) := ⟨Tryd.zeroValue28⟩
instance : NotIf Tryd.prog 30 := ⟨_, Tryd.underlying30, rfl⟩
instance : ZT Tryd.prog 30 [Value.int IntKind.i64 0, Value.int IntKind.i64 0, Value.int IntKind.i64 0, Value.string { data := #[] }, Value.int IntKind.i64 0] := ⟨_, Tryd.zeroValue30, rfl⟩
instance : StT Tryd.prog 30 [(0, 1), (1, 1), (2, 1), (3, 1), (4, 1)] [Value.int IntKind.i64 0, Value.int IntKind.i64 0, Value.int IntKind.i64 0, Value.string { data := #[] }, Value.int IntKind.i64 0] := ⟨fld_of Tryd.underlying30 (by kernel_rfl), fun parts => by kernel_rfl, Tryd.sizeOf30, Tryd.isAgg30, Tryd.zeroValue30⟩
instance : ZV Tryd.prog 30 (Value.agg #[Value.int IntKind.i64 0, Value.int IntKind.i64 0, Value.int IntKind.i64 0, Value.string { data := #[] }, Value.int IntKind.i64 0]) := ⟨Tryd.zeroValue30⟩
instance : EqT Tryd.prog 30 [.i, .i, .i, .s, .i] := ⟨by kernel_rfl, by kernel_rfl, by kernel_rfl, by kernel_rfl⟩
instance : FldT Tryd.prog 30 [some 0, some 1, some 2, some 3, some 4] := fldT_of Tryd.underlying30 (by kernel_rfl)
instance : NotIf Tryd.prog 32 := ⟨_, Tryd.underlying32, rfl⟩
instance : ZT Tryd.prog 32 [Value.int IntKind.i64 0, Value.int IntKind.i64 0, Value.int IntKind.i64 0] := ⟨_, Tryd.zeroValue32, rfl⟩
instance : StT Tryd.prog 32 [(0, 1), (1, 1), (2, 1)] [Value.int IntKind.i64 0, Value.int IntKind.i64 0, Value.int IntKind.i64 0] := ⟨fld_of Tryd.underlying32 (by kernel_rfl), fun parts => by kernel_rfl, Tryd.sizeOf32, Tryd.isAgg32, Tryd.zeroValue32⟩
instance : ZV Tryd.prog 32 (Value.agg #[Value.int IntKind.i64 0, Value.int IntKind.i64 0, Value.int IntKind.i64 0]) := ⟨Tryd.zeroValue32⟩
instance : EqT Tryd.prog 32 [.i, .i, .i] := ⟨by kernel_rfl, by kernel_rfl, by kernel_rfl, by kernel_rfl⟩
instance : FldT Tryd.prog 32 [some 0, some 1, some 2] := fldT_of Tryd.underlying32 (by kernel_rfl)
instance : SlT Tryd.prog 33 3 1 := ⟨Tryd.underlying33, Tryd.sizeOf3⟩
instance : NotIf Tryd.prog 33 := ⟨_, Tryd.underlying33, rfl⟩
instance : ZT Tryd.prog 33 [Value.slice none 0 0] := ⟨_, Tryd.zeroValue33, rfl⟩
instance : NAgg Tryd.prog 33 := ⟨Tryd.isAgg33⟩
instance : OneT Tryd.prog 33 (Value.slice none 0 0) := ⟨Tryd.isAgg33, Tryd.sizeOf33, Tryd.zeroValue33⟩
instance : ZV Tryd.prog 33 (Value.slice none 0 0) := ⟨Tryd.zeroValue33⟩
instance : NotIf Tryd.prog 35 := ⟨_, Tryd.underlying35, rfl⟩
instance : ZT Tryd.prog 35 [Value.int IntKind.i64 0, Value.int IntKind.i64 0, Value.int IntKind.i64 0, Value.int IntKind.i64 0, Value.int IntKind.i64 0, Value.slice none 0 0, Value.string { data := #[] }] := ⟨_, Tryd.zeroValue35, rfl⟩
instance : StT Tryd.prog 35 [(0, 1), (1, 3), (4, 1), (5, 1), (6, 1)] [Value.int IntKind.i64 0, Value.int IntKind.i64 0, Value.int IntKind.i64 0, Value.int IntKind.i64 0, Value.int IntKind.i64 0, Value.slice none 0 0, Value.string { data := #[] }] := ⟨fld_of Tryd.underlying35 (by kernel_rfl), fun parts => by kernel_rfl, Tryd.sizeOf35, Tryd.isAgg35, Tryd.zeroValue35⟩
instance : ZV Tryd.prog 35 (Value.agg #[Value.int IntKind.i64 0, Value.int IntKind.i64 0, Value.int IntKind.i64 0, Value.int IntKind.i64 0, Value.int IntKind.i64 0, Value.slice none 0 0, Value.string { data := #[] }]) := ⟨Tryd.zeroValue35⟩
instance : FldT Tryd.prog 35 [some 0, none, some 4, some 5, some 6] := fldT_of Tryd.underlying35 (by kernel_rfl)
instance : SlT Tryd.prog 38 43 8 := ⟨Tryd.underlying38, Tryd.sizeOf43⟩
instance : NotIf Tryd.prog 38 := ⟨_, Tryd.underlying38, rfl⟩
instance : ZT Tryd.prog 38 [Value.slice none 0 0] := ⟨_, Tryd.zeroValue38, rfl⟩
instance : NAgg Tryd.prog 38 := ⟨Tryd.isAgg38⟩
instance : OneT Tryd.prog 38 (Value.slice none 0 0) := ⟨Tryd.isAgg38, Tryd.sizeOf38, Tryd.zeroValue38⟩
instance : ZV Tryd.prog 38 (Value.slice none 0 0) := ⟨Tryd.zeroValue38⟩
instance : NotIf Tryd.prog 43 := ⟨_, Tryd.underlying43, rfl⟩
instance : ZT Tryd.prog 43 [Value.int IntKind.i64 0, Value.int IntKind.i64 0, Value.int IntKind.i64 0, Value.int IntKind.i64 0, Value.int IntKind.i64 0, Value.int IntKind.i64 0, Value.slice none 0 0, Value.string { data := #[] }] := ⟨_, Tryd.zeroValue43, rfl⟩
instance : StT Tryd.prog 43 [(0, 1), (1, 3), (4, 1), (5, 1), (6, 1), (7, 1)] [Value.int IntKind.i64 0, Value.int IntKind.i64 0, Value.int IntKind.i64 0, Value.int IntKind.i64 0, Value.int IntKind.i64 0, Value.int IntKind.i64 0, Value.slice none 0 0, Value.string { data := #[] }] := ⟨fld_of Tryd.underlying43 (by kernel_rfl), fun parts => by kernel_rfl, Tryd.sizeOf43, Tryd.isAgg43, Tryd.zeroValue43⟩
instance : ZV Tryd.prog 43 (Value.agg #[Value.int IntKind.i64 0, Value.int IntKind.i64 0, Value.int IntKind.i64 0, Value.int IntKind.i64 0, Value.int IntKind.i64 0, Value.int IntKind.i64 0, Value.slice none 0 0, Value.string { data := #[] }]) := ⟨Tryd.zeroValue43⟩
instance : FldT Tryd.prog 43 [some 0, none, some 4, some 5, some 6, some 7] := fldT_of Tryd.underlying43 (by kernel_rfl)
instance : NotIf Tryd.prog 51 := ⟨_, Tryd.underlying51, rfl⟩
instance : IntT Tryd.prog 51 .i64 := ⟨Tryd.underlying51⟩
instance : ZT Tryd.prog 51 [Value.int IntKind.i64 0] := ⟨_, Tryd.zeroValue51, rfl⟩
instance : NAgg Tryd.prog 51 := ⟨Tryd.isAgg51⟩
instance : OneT Tryd.prog 51 (Value.int IntKind.i64 0) := ⟨Tryd.isAgg51, Tryd.sizeOf51, Tryd.zeroValue51⟩
instance : ZV Tryd.prog 51 (Value.int IntKind.i64 0) := ⟨Tryd.zeroValue51⟩
instance : NotIf Tryd.prog 54 := ⟨_, Tryd.underlying54, rfl⟩
instance : IntT Tryd.prog 54 .i64 := ⟨Tryd.underlying54⟩
instance : ZT Tryd.prog 54 [Value.int IntKind.i64 0] := ⟨_, Tryd.zeroValue54, rfl⟩
instance : NAgg Tryd.prog 54 := ⟨Tryd.isAgg54⟩
instance : OneT Tryd.prog 54 (Value.int IntKind.i64 0) := ⟨Tryd.isAgg54, Tryd.sizeOf54, Tryd.zeroValue54⟩
instance : ZV Tryd.prog 54 (Value.int IntKind.i64 0) := ⟨Tryd.zeroValue54⟩
instance : NotIf Tryd.prog 55 := ⟨_, Tryd.underlying55, rfl⟩
instance : ZT Tryd.prog 55 [Value.pointer none] := ⟨_, Tryd.zeroValue55, rfl⟩
instance : NAgg Tryd.prog 55 := ⟨Tryd.isAgg55⟩
instance : OneT Tryd.prog 55 (Value.pointer none) := ⟨Tryd.isAgg55, Tryd.sizeOf55, Tryd.zeroValue55⟩
instance : ZV Tryd.prog 55 (Value.pointer none) := ⟨Tryd.zeroValue55⟩
instance : NotIf Tryd.prog 57 := ⟨_, Tryd.underlying57, rfl⟩
instance : ZT Tryd.prog 57 [Value.slice none 0 0, Value.int IntKind.i64 0, Value.int IntKind.i64 0] := ⟨_, Tryd.zeroValue57, rfl⟩
instance : StT Tryd.prog 57 [(0, 1), (1, 1), (2, 1)] [Value.slice none 0 0, Value.int IntKind.i64 0, Value.int IntKind.i64 0] := ⟨fld_of Tryd.underlying57 (by kernel_rfl), fun parts => by kernel_rfl, Tryd.sizeOf57, Tryd.isAgg57, Tryd.zeroValue57⟩
instance : ZV Tryd.prog 57 (Value.agg #[Value.slice none 0 0, Value.int IntKind.i64 0, Value.int IntKind.i64 0]) := ⟨Tryd.zeroValue57⟩
instance : FldT Tryd.prog 57 [some 0, some 1, some 2] := fldT_of Tryd.underlying57 (by kernel_rfl)
instance : IfT Tryd.prog 58 := ⟨_, Tryd.underlying58⟩
instance : ZT Tryd.prog 58 [Value.nilIface] := ⟨_, Tryd.zeroValue58, rfl⟩
instance : NAgg Tryd.prog 58 := ⟨Tryd.isAgg58⟩
instance : OneT Tryd.prog 58 (Value.nilIface) := ⟨Tryd.isAgg58, Tryd.sizeOf58, Tryd.zeroValue58⟩
instance : ZV Tryd.prog 58 (Value.nilIface) := ⟨Tryd.zeroValue58⟩
instance : IfT Tryd.prog 59 := ⟨_, Tryd.underlying59⟩
instance : ZT Tryd.prog 59 [Value.nilIface] := ⟨_, Tryd.zeroValue59, rfl⟩
instance : NAgg Tryd.prog 59 := ⟨Tryd.isAgg59⟩
instance : OneT Tryd.prog 59 (Value.nilIface) := ⟨Tryd.isAgg59, Tryd.sizeOf59, Tryd.zeroValue59⟩
instance : ZV Tryd.prog 59 (Value.nilIface) := ⟨Tryd.zeroValue59⟩
instance : NotIf Tryd.prog 63 := ⟨_, Tryd.underlying63, rfl⟩
instance : ZT Tryd.prog 63 [Value.pointer none] := ⟨_, Tryd.zeroValue63, rfl⟩
instance : NAgg Tryd.prog 63 := ⟨Tryd.isAgg63⟩
instance : OneT Tryd.prog 63 (Value.pointer none) := ⟨Tryd.isAgg63, Tryd.sizeOf63, Tryd.zeroValue63⟩
instance : ZV Tryd.prog 63 (Value.pointer none) := ⟨Tryd.zeroValue63⟩
instance : SlT Tryd.prog 64 70 3 := ⟨Tryd.underlying64, Tryd.sizeOf70⟩
instance : NotIf Tryd.prog 64 := ⟨_, Tryd.underlying64, rfl⟩
instance : ZT Tryd.prog 64 [Value.slice none 0 0] := ⟨_, Tryd.zeroValue64, rfl⟩
instance : NAgg Tryd.prog 64 := ⟨Tryd.isAgg64⟩
instance : OneT Tryd.prog 64 (Value.slice none 0 0) := ⟨Tryd.isAgg64, Tryd.sizeOf64, Tryd.zeroValue64⟩
instance : ZV Tryd.prog 64 (Value.slice none 0 0) := ⟨Tryd.zeroValue64⟩
instance : NotIf Tryd.prog 66 := ⟨_, Tryd.underlying66, rfl⟩
instance : ZT Tryd.prog 66 [Value.slice none 0 0, Value.slice none 0 0, Value.slice none 0 0, Value.int IntKind.i64 0] := ⟨_, Tryd.zeroValue66, rfl⟩
instance : StT Tryd.prog 66 [(0, 1), (1, 1), (2, 1), (3, 1)] [Value.slice none 0 0, Value.slice none 0 0, Value.slice none 0 0, Value.int IntKind.i64 0] := ⟨fld_of Tryd.underlying66 (by kernel_rfl), fun parts => by kernel_rfl, Tryd.sizeOf66, Tryd.isAgg66, Tryd.zeroValue66⟩
instance : ZV Tryd.prog 66 (Value.agg #[Value.slice none 0 0, Value.slice none 0 0, Value.slice none 0 0, Value.int IntKind.i64 0]) := ⟨Tryd.zeroValue66⟩
instance : FldT Tryd.prog 66 [some 0, some 1, some 2, some 3] := fldT_of Tryd.underlying66 (by kernel_rfl)
instance : NotIf Tryd.prog 70 := ⟨_, Tryd.underlying70, rfl⟩
instance : ZT Tryd.prog 70 [Value.int IntKind.i64 0, Value.int IntKind.i64 0, Value.int IntKind.i64 0] := ⟨_, Tryd.zeroValue70, rfl⟩
instance : StT Tryd.prog 70 [(0, 1), (1, 1), (2, 1)] [Value.int IntKind.i64 0, Value.int IntKind.i64 0, Value.int IntKind.i64 0] := ⟨fld_of Tryd.underlying70 (by kernel_rfl), fun parts => by kernel_rfl, Tryd.sizeOf70, Tryd.isAgg70, Tryd.zeroValue70⟩
instance : ZV Tryd.prog 70 (Value.agg #[Value.int IntKind.i64 0, Value.int IntKind.i64 0, Value.int IntKind.i64 0]) := ⟨Tryd.zeroValue70⟩
instance : EqT Tryd.prog 70 [.i, .i, .i] := ⟨by kernel_rfl, by kernel_rfl, by kernel_rfl, by kernel_rfl⟩
instance : FldT Tryd.prog 70 [some 0, some 1, some 2] := fldT_of Tryd.underlying70 (by kernel_rfl)
instance : NotIf Tryd.prog 73 := ⟨_, Tryd.underlying73, rfl⟩
instance : ZT Tryd.prog 73 [Value.pointer none] := ⟨_, Tryd.zeroValue73, rfl⟩
instance : NAgg Tryd.prog 73 := ⟨Tryd.isAgg73⟩
instance : OneT Tryd.prog 73 (Value.pointer none) := ⟨Tryd.isAgg73, Tryd.sizeOf73, Tryd.zeroValue73⟩
instance : ZV Tryd.prog 73 (Value.pointer none) := ⟨Tryd.zeroValue73⟩
instance : NotIf Tryd.prog 75 := ⟨_, Tryd.underlying75, rfl⟩
instance : ZT Tryd.prog 75 [Value.slice none 0 0, Value.slice none 0 0, Value.slice none 0 0] := ⟨_, Tryd.zeroValue75, rfl⟩
instance : StT Tryd.prog 75 [(0, 1), (1, 1), (2, 1)] [Value.slice none 0 0, Value.slice none 0 0, Value.slice none 0 0] := ⟨fld_of Tryd.underlying75 (by kernel_rfl), fun parts => by kernel_rfl, Tryd.sizeOf75, Tryd.isAgg75, Tryd.zeroValue75⟩
instance : ZV Tryd.prog 75 (Value.agg #[Value.slice none 0 0, Value.slice none 0 0, Value.slice none 0 0]) := ⟨Tryd.zeroValue75⟩
instance : FldT Tryd.prog 75 [some 0, some 1, some 2] := fldT_of Tryd.underlying75 (by kernel_rfl)
instance : NotIf Tryd.prog 80 := ⟨_, Tryd.underlying80, rfl⟩
instance : ZT Tryd.prog 80 [Value.pointer none] := ⟨_, Tryd.zeroValue80, rfl⟩
instance : NAgg Tryd.prog 80 := ⟨Tryd.isAgg80⟩
instance : OneT Tryd.prog 80 (Value.pointer none) := ⟨Tryd.isAgg80, Tryd.sizeOf80, Tryd.zeroValue80⟩
instance : ZV Tryd.prog 80 (Value.pointer none) := ⟨Tryd.zeroValue80⟩
instance : NotIf Tryd.prog 82 := ⟨_, Tryd.underlying82, rfl⟩
instance : ZT Tryd.prog 82 [Value.slice none 0 0] := ⟨_, Tryd.zeroValue82, rfl⟩
instance : StT Tryd.prog 82 [(0, 1)] [Value.slice none 0 0] := ⟨fld_of Tryd.underlying82 (by kernel_rfl), fun parts => by kernel_rfl, Tryd.sizeOf82, Tryd.isAgg82, Tryd.zeroValue82⟩
instance : ZV Tryd.prog 82 (Value.agg #[Value.slice none 0 0]) := ⟨Tryd.zeroValue82⟩
instance : FldT Tryd.prog 82 [some 0] := fldT_of Tryd.underlying82 (by kernel_rfl)
instance : SlT Tryd.prog 84 9 1 := ⟨Tryd.underlying84, Tryd.sizeOf9⟩
instance : NotIf Tryd.prog 84 := ⟨_, Tryd.underlying84, rfl⟩
instance : ZT Tryd.prog 84 [Value.slice none 0 0] := ⟨_, Tryd.zeroValue84, rfl⟩
instance : NAgg Tryd.prog 84 := ⟨Tryd.isAgg84⟩
instance : OneT Tryd.prog 84 (Value.slice none 0 0) := ⟨Tryd.isAgg84, Tryd.sizeOf84, Tryd.zeroValue84⟩
instance : ZV Tryd.prog 84 (Value.slice none 0 0) := ⟨Tryd.zeroValue84⟩
instance : NotIf Tryd.prog 88 := ⟨_, Tryd.underlying88, rfl⟩
instance : ZT Tryd.prog 88 [Value.string { data := #[] }] := ⟨_, Tryd.zeroValue88, rfl⟩
instance : StT Tryd.prog 88 [(0, 1)] [Value.string { data := #[] }] := ⟨fld_of Tryd.underlying88 (by kernel_rfl), fun parts => by kernel_rfl, Tryd.sizeOf88, Tryd.isAgg88, Tryd.zeroValue88⟩
instance : ZV Tryd.prog 88 (Value.agg #[Value.string { data := #[] }]) := ⟨Tryd.zeroValue88⟩
instance : EqT Tryd.prog 88 [.s] := ⟨by kernel_rfl, by kernel_rfl, by kernel_rfl, by kernel_rfl⟩
instance : FldT Tryd.prog 88 [some 0] := fldT_of Tryd.underlying88 (by kernel_rfl)
instance : NotIf Tryd.prog 90 := ⟨_, Tryd.underlying90, rfl⟩
instance : ZT Tryd.prog 90 [Value.string { data := #[] }, Value.nilIface] := ⟨_, Tryd.zeroValue90, rfl⟩
instance : StT Tryd.prog 90 [(0, 1), (1, 1)] [Value.string { data := #[] }, Value.nilIface] := ⟨fld_of Tryd.underlying90 (by kernel_rfl), fun parts => by kernel_rfl, Tryd.sizeOf90, Tryd.isAgg90, Tryd.zeroValue90⟩
instance : ZV Tryd.prog 90 (Value.agg #[Value.string { data := #[] }, Value.nilIface]) := ⟨Tryd.zeroValue90⟩
instance : FldT Tryd.prog 90 [none, some 1] := fldT_of Tryd.underlying90 (by kernel_rfl)
instance : NotIf Tryd.prog 93 := ⟨_, Tryd.underlying93, rfl⟩
instance : ZT Tryd.prog 93 [Value.nilFunc] := ⟨_, Tryd.zeroValue93, rfl⟩
instance : NAgg Tryd.prog 93 := ⟨Tryd.isAgg93⟩
instance : OneT Tryd.prog 93 (Value.nilFunc) := ⟨Tryd.isAgg93, Tryd.sizeOf93, Tryd.zeroValue93⟩
instance : ZV Tryd.prog 93 (Value.nilFunc) := ⟨Tryd.zeroValue93⟩
instance : NotIf Tryd.prog 98 := ⟨_, Tryd.underlying98, rfl⟩
instance : ZT Tryd.prog 98 [Value.int IntKind.i64 0, Value.int IntKind.i64 0] := ⟨_, Tryd.zeroValue98, rfl⟩
instance : StT Tryd.prog 98 [(0, 1), (1, 1)] [Value.int IntKind.i64 0, Value.int IntKind.i64 0] := ⟨fld_of Tryd.underlying98 (by kernel_rfl), fun parts => by kernel_rfl, Tryd.sizeOf98, Tryd.isAgg98, Tryd.zeroValue98⟩
instance : ZV Tryd.prog 98 (Value.agg #[Value.int IntKind.i64 0, Value.int IntKind.i64 0]) := ⟨Tryd.zeroValue98⟩
instance : EqT Tryd.prog 98 [.i, .i] := ⟨by kernel_rfl, by kernel_rfl, by kernel_rfl, by kernel_rfl⟩
instance : FldT Tryd.prog 98 [some 0, some 1] := fldT_of Tryd.underlying98 (by kernel_rfl)
instance : NotIf Tryd.prog 100 := ⟨_, Tryd.underlying100, rfl⟩
instance : ZT Tryd.prog 100 [Value.pointer none] := ⟨_, Tryd.zeroValue100, rfl⟩
instance : NAgg Tryd.prog 100 := ⟨Tryd.isAgg100⟩
instance : OneT Tryd.prog 100 (Value.pointer none) := ⟨Tryd.isAgg100, Tryd.sizeOf100, Tryd.zeroValue100⟩
instance : ZV Tryd.prog 100 (Value.pointer none) := ⟨Tryd.zeroValue100⟩
instance : NotIf Tryd.prog 102 := ⟨_, Tryd.underlying102, rfl⟩
instance : ZT Tryd.prog 102 [Value.slice none 0 0, Value.int IntKind.i64 0, Value.int IntKind.i64 0] := ⟨_, Tryd.zeroValue102, rfl⟩
instance : StT Tryd.prog 102 [(0, 1), (1, 1), (2, 1)] [Value.slice none 0 0, Value.int IntKind.i64 0, Value.int IntKind.i64 0] := ⟨fld_of Tryd.underlying102 (by kernel_rfl), fun parts => by kernel_rfl, Tryd.sizeOf102, Tryd.isAgg102, Tryd.zeroValue102⟩
instance : ZV Tryd.prog 102 (Value.agg #[Value.slice none 0 0, Value.int IntKind.i64 0, Value.int IntKind.i64 0]) := ⟨Tryd.zeroValue102⟩
instance : FldT Tryd.prog 102 [some 0, some 1, some 2] := fldT_of Tryd.underlying102 (by kernel_rfl)
instance : NotIf Tryd.prog 105 := ⟨_, Tryd.underlying105, rfl⟩
instance : ZT Tryd.prog 105 [Value.slice none 0 0] := ⟨_, Tryd.zeroValue105, rfl⟩
instance : StT Tryd.prog 105 [(0, 1)] [Value.slice none 0 0] := ⟨fld_of Tryd.underlying105 (by kernel_rfl), fun parts => by kernel_rfl, Tryd.sizeOf105, Tryd.isAgg105, Tryd.zeroValue105⟩
instance : ZV Tryd.prog 105 (Value.agg #[Value.slice none 0 0]) := ⟨Tryd.zeroValue105⟩
instance : FldT Tryd.prog 105 [some 0] := fldT_of Tryd.underlying105 (by kernel_rfl)
instance : NotIf Tryd.prog 106 := ⟨_, Tryd.underlying106, rfl⟩
instance : ZT Tryd.prog 106 [Value.string { data := #[] }] := ⟨_, Tryd.zeroValue106, rfl⟩
instance : StT Tryd.prog 106 [(0, 1)] [Value.string { data := #[] }] := ⟨fld_of Tryd.underlying106 (by kernel_rfl), fun parts => by kernel_rfl, Tryd.sizeOf106, Tryd.isAgg106, Tryd.zeroValue106⟩
instance : ZV Tryd.prog 106 (Value.agg #[Value.string { data := #[] }]) := ⟨Tryd.zeroValue106⟩
instance : EqT Tryd.prog 106 [.s] := ⟨by kernel_rfl, by kernel_rfl, by kernel_rfl, by kernel_rfl⟩
instance : FldT Tryd.prog 106 [some 0] := fldT_of Tryd.underlying106 (by kernel_rfl)
instance : NotIf Tryd.prog 108 := ⟨_, Tryd.underlying108, rfl⟩
instance : ZT Tryd.prog 108 [Value.int IntKind.i64 0] := ⟨_, Tryd.zeroValue108, rfl⟩
instance : StT Tryd.prog 108 [(0, 1)] [Value.int IntKind.i64 0] := ⟨fld_of Tryd.underlying108 (by kernel_rfl), fun parts => by kernel_rfl, Tryd.sizeOf108, Tryd.isAgg108, Tryd.zeroValue108⟩
instance : ZV Tryd.prog 108 (Value.agg #[Value.int IntKind.i64 0]) := ⟨Tryd.zeroValue108⟩
instance : EqT Tryd.prog 108 [.i] := ⟨by kernel_rfl, by kernel_rfl, by kernel_rfl, by kernel_rfl⟩
instance : FldT Tryd.prog 108 [some 0] := fldT_of Tryd.underlying108 (by kernel_rfl)
instance : SlT Tryd.prog 110 59 1 := ⟨Tryd.underlying110, Tryd.sizeOf59⟩
instance : NotIf Tryd.prog 110 := ⟨_, Tryd.underlying110, rfl⟩
instance : ZT Tryd.prog 110 [Value.slice none 0 0] := ⟨_, Tryd.zeroValue110, rfl⟩
instance : NAgg Tryd.prog 110 := ⟨Tryd.isAgg110⟩
instance : OneT Tryd.prog 110 (Value.slice none 0 0) := ⟨Tryd.isAgg110, Tryd.sizeOf110, Tryd.zeroValue110⟩
instance : ZV Tryd.prog 110 (Value.slice none 0 0) := ⟨Tryd.zeroValue110⟩
instance : NotIf Tryd.prog 112 := ⟨_, Tryd.underlying112, rfl⟩
instance : ZT Tryd.prog 112 [Value.int IntKind.i64 0, Value.int IntKind.i64 0, Value.int IntKind.i64 0, Value.int IntKind.i64 0, Value.slice none 0 0] := ⟨_, Tryd.zeroValue112, rfl⟩
instance : StT Tryd.prog 112 [(0, 3), (3, 1), (4, 1)] [Value.int IntKind.i64 0, Value.int IntKind.i64 0, Value.int IntKind.i64 0, Value.int IntKind.i64 0, Value.slice none 0 0] := ⟨fld_of Tryd.underlying112 (by kernel_rfl), fun parts => by kernel_rfl, Tryd.sizeOf112, Tryd.isAgg112, Tryd.zeroValue112⟩
instance : ZV Tryd.prog 112 (Value.agg #[Value.int IntKind.i64 0, Value.int IntKind.i64 0, Value.int IntKind.i64 0, Value.int IntKind.i64 0, Value.slice none 0 0]) := ⟨Tryd.zeroValue112⟩
instance : FldT Tryd.prog 112 [none, some 3, some 4] := fldT_of Tryd.underlying112 (by kernel_rfl)
instance : NotIf Tryd.prog 114 := ⟨_, Tryd.underlying114, rfl⟩
instance : ZT Tryd.prog 114 [Value.int IntKind.i64 0, Value.int IntKind.i64 0, Value.int IntKind.i64 0, Value.int IntKind.i64 0, Value.slice none 0 0, Value.nilIface] := ⟨_, Tryd.zeroValue114, rfl⟩
instance : StT Tryd.prog 114 [(0, 5), (5, 1)] [Value.int IntKind.i64 0, Value.int IntKind.i64 0, Value.int IntKind.i64 0, Value.int IntKind.i64 0, Value.slice none 0 0, Value.nilIface] := ⟨fld_of Tryd.underlying114 (by kernel_rfl), fun parts => by kernel_rfl, Tryd.sizeOf114, Tryd.isAgg114, Tryd.zeroValue114⟩
instance : ZV Tryd.prog 114 (Value.agg #[Value.int IntKind.i64 0, Value.int IntKind.i64 0, Value.int IntKind.i64 0, Value.int IntKind.i64 0, Value.slice none 0 0, Value.nilIface]) := ⟨Tryd.zeroValue114⟩
instance : FldT Tryd.prog 114 [none, some 5] := fldT_of Tryd.underlying114 (by kernel_rfl)
instance : NotIf Tryd.prog 119 := ⟨_, Tryd.underlying119, rfl⟩
instance : ZT Tryd.prog 119 [Value.nilIface, Value.int IntKind.i64 0, Value.int IntKind.i64 0, Value.int IntKind.i64 0, Value.int IntKind.i64 0, Value.slice none 0 0, Value.nilIface] := ⟨_, Tryd.zeroValue119, rfl⟩
instance : StT Tryd.prog 119 [(0, 1), (1, 5), (6, 1)] [Value.nilIface, Value.int IntKind.i64 0, Value.int IntKind.i64 0, Value.int IntKind.i64 0, Value.int IntKind.i64 0, Value.slice none 0 0, Value.nilIface] := ⟨fld_of Tryd.underlying119 (by kernel_rfl), fun parts => by kernel_rfl, Tryd.sizeOf119, Tryd.isAgg119, Tryd.zeroValue119⟩
instance : ZV Tryd.prog 119 (Value.agg #[Value.nilIface, Value.int IntKind.i64 0, Value.int IntKind.i64 0, Value.int IntKind.i64 0, Value.int IntKind.i64 0, Value.slice none 0 0, Value.nilIface]) := ⟨Tryd.zeroValue119⟩
instance : FldT Tryd.prog 119 [some 0, none, some 6] := fldT_of Tryd.underlying119 (by kernel_rfl)
instance : NotIf Tryd.prog 121 := ⟨_, Tryd.underlying121, rfl⟩
instance : ZT Tryd.prog 121 [Value.nilIface, Value.slice none 0 0] := ⟨_, Tryd.zeroValue121, rfl⟩
instance : StT Tryd.prog 121 [(0, 1), (1, 1)] [Value.nilIface, Value.slice none 0 0] := ⟨fld_of Tryd.underlying121 (by kernel_rfl), fun parts => by kernel_rfl, Tryd.sizeOf121, Tryd.isAgg121, Tryd.zeroValue121⟩
instance : ZV Tryd.prog 121 (Value.agg #[Value.nilIface, Value.slice none 0 0]) := ⟨Tryd.zeroValue121⟩
instance : FldT Tryd.prog 121 [some 0, some 1] := fldT_of Tryd.underlying121 (by kernel_rfl)
instance : NotIf Tryd.prog 128 := ⟨_, Tryd.underlying128, rfl⟩
instance : ZT Tryd.prog 128 [Value.pointer none] := ⟨_, Tryd.zeroValue128, rfl⟩
instance : NAgg Tryd.prog 128 := ⟨Tryd.isAgg128⟩
instance : OneT Tryd.prog 128 (Value.pointer none) := ⟨Tryd.isAgg128, Tryd.sizeOf128, Tryd.zeroValue128⟩
instance : ZV Tryd.prog 128 (Value.pointer none) := ⟨Tryd.zeroValue128⟩
instance : SlT Tryd.prog 129 5 1 := ⟨Tryd.underlying129, Tryd.sizeOf5⟩
instance : NotIf Tryd.prog 129 := ⟨_, Tryd.underlying129, rfl⟩
instance : ZT Tryd.prog 129 [Value.slice none 0 0] := ⟨_, Tryd.zeroValue129, rfl⟩
instance : NAgg Tryd.prog 129 := ⟨Tryd.isAgg129⟩
instance : OneT Tryd.prog 129 (Value.slice none 0 0) := ⟨Tryd.isAgg129, Tryd.sizeOf129, Tryd.zeroValue129⟩
instance : ZV Tryd.prog 129 (Value.slice none 0 0) := ⟨Tryd.zeroValue129⟩
instance : NotIf Tryd.prog 131 := ⟨_, Tryd.underlying131, rfl⟩
instance : ZT Tryd.prog 131 [Value.pointer none, Value.slice none 0 0] := ⟨_, Tryd.zeroValue131, rfl⟩
instance : StT Tryd.prog 131 [(0, 1), (1, 1)] [Value.pointer none, Value.slice none 0 0] := ⟨fld_of Tryd.underlying131 (by kernel_rfl), fun parts => by kernel_rfl, Tryd.sizeOf131, Tryd.isAgg131, Tryd.zeroValue131⟩
instance : ZV Tryd.prog 131 (Value.agg #[Value.pointer none, Value.slice none 0 0]) := ⟨Tryd.zeroValue131⟩
instance : FldT Tryd.prog 131 [some 0, some 1] := fldT_of Tryd.underlying131 (by kernel_rfl)
instance : NotIf Tryd.prog 145 := ⟨_, Tryd.underlying145, rfl⟩
instance : ZT Tryd.prog 145 [Value.pointer none] := ⟨_, Tryd.zeroValue145, rfl⟩
instance : NAgg Tryd.prog 145 := ⟨Tryd.isAgg145⟩
instance : OneT Tryd.prog 145 (Value.pointer none) := ⟨Tryd.isAgg145, Tryd.sizeOf145, Tryd.zeroValue145⟩
instance : ZV Tryd.prog 145 (Value.pointer none) := ⟨Tryd.zeroValue145⟩
instance : NotIf Tryd.prog 153 := ⟨_, Tryd.underlying153, rfl⟩
instance : ZT Tryd.prog 153 [Value.int IntKind.u8 0, Value.int IntKind.u8 0] := ⟨_, Tryd.zeroValue153, rfl⟩
instance : StT Tryd.prog 153 [(0, 1), (1, 1)] [Value.int IntKind.u8 0, Value.int IntKind.u8 0] := ⟨fld_of Tryd.underlying153 (by kernel_rfl), fun parts => by kernel_rfl, Tryd.sizeOf153, Tryd.isAgg153, Tryd.zeroValue153⟩
instance : ZV Tryd.prog 153 (Value.agg #[Value.int IntKind.u8 0, Value.int IntKind.u8 0]) := ⟨Tryd.zeroValue153⟩
instance : FldT Tryd.prog 153 [some 0, some 1] := fldT_of Tryd.underlying153 (by kernel_rfl)
instance : NotIf Tryd.prog 155 := ⟨_, Tryd.underlying155, rfl⟩
instance : IntT Tryd.prog 155 .u64 := ⟨Tryd.underlying155⟩
instance : ZT Tryd.prog 155 [Value.int IntKind.u64 0] := ⟨_, Tryd.zeroValue155, rfl⟩
instance : NAgg Tryd.prog 155 := ⟨Tryd.isAgg155⟩
instance : OneT Tryd.prog 155 (Value.int IntKind.u64 0) := ⟨Tryd.isAgg155, Tryd.sizeOf155, Tryd.zeroValue155⟩
instance : ZV Tryd.prog 155 (Value.int IntKind.u64 0) := ⟨Tryd.zeroValue155⟩
instance : NotIf Tryd.prog 163 := ⟨_, Tryd.underlying163, rfl⟩
instance : IntT Tryd.prog 163 .u64 := ⟨Tryd.underlying163⟩
instance : ZT Tryd.prog 163 [Value.int IntKind.u64 0] := ⟨_, Tryd.zeroValue163, rfl⟩
instance : NAgg Tryd.prog 163 := ⟨Tryd.isAgg163⟩
instance : OneT Tryd.prog 163 (Value.int IntKind.u64 0) := ⟨Tryd.isAgg163, Tryd.sizeOf163, Tryd.zeroValue163⟩
instance : ZV Tryd.prog 163 (Value.int IntKind.u64 0) := ⟨Tryd.zeroValue163⟩
instance : NotIf Tryd.prog 172 := ⟨_, Tryd.underlying172, rfl⟩
instance : IntT Tryd.prog 172 .u32 := ⟨Tryd.underlying172⟩
instance : ZT Tryd.prog 172 [Value.int IntKind.u32 0] := ⟨_, Tryd.zeroValue172, rfl⟩
instance : NAgg Tryd.prog 172 := ⟨Tryd.isAgg172⟩
instance : OneT Tryd.prog 172 (Value.int IntKind.u32 0) := ⟨Tryd.isAgg172, Tryd.sizeOf172, Tryd.zeroValue172⟩
instance : ZV Tryd.prog 172 (Value.int IntKind.u32 0) := ⟨Tryd.zeroValue172⟩
instance : ElT Tryd.prog 22 30 5 [Value.int IntKind.i64 0, Value.int IntKind.i64 0, Value.int IntKind.i64 0, Value.string { data := #[] }, Value.int IntKind.i64 0] 48 := elT_of (z := Value.agg #[Value.int IntKind.i64 0, Value.int IntKind.i64 0, Value.int IntKind.i64 0, Value.string { data := #[] }, Value.int IntKind.i64 0]) Tryd.underlying22 (by kernel_rfl) rfl rfl (by decide)
instance : ElT Tryd.prog 23 35 7 [Value.int IntKind.i64 0, Value.int IntKind.i64 0, Value.int IntKind.i64 0, Value.int IntKind.i64 0, Value.int IntKind.i64 0, Value.slice none 0 0, Value.string { data := #[] }] 80 := elT_of (z := Value.agg #[Value.int IntKind.i64 0, Value.int IntKind.i64 0, Value.int IntKind.i64 0, Value.int IntKind.i64 0, Value.int IntKind.i64 0, Value.slice none 0 0, Value.string { data := #[] }]) Tryd.underlying23 (by kernel_rfl) rfl rfl (by decide)
instance : ElT Tryd.prog 33 3 1 [Value.int IntKind.i64 0] 8 := elT_of (z := Value.int IntKind.i64 0) Tryd.underlying33 (by kernel_rfl) rfl rfl (by decide)
instance : ElT Tryd.prog 38 43 8 [Value.int IntKind.i64 0, Value.int IntKind.i64 0, Value.int IntKind.i64 0, Value.int IntKind.i64 0, Value.int IntKind.i64 0, Value.int IntKind.i64 0, Value.slice none 0 0, Value.string { data := #[] }] 88 := elT_of (z := Value.agg #[Value.int IntKind.i64 0, Value.int IntKind.i64 0, Value.int IntKind.i64 0, Value.int IntKind.i64 0, Value.int IntKind.i64 0, Value.int IntKind.i64 0, Value.slice none 0 0, Value.string { data := #[] }]) Tryd.underlying38 (by kernel_rfl) rfl rfl (by decide)
instance : ElT Tryd.prog 64 70 3 [Value.int IntKind.i64 0, Value.int IntKind.i64 0, Value.int IntKind.i64 0] 24 := elT_of (z := Value.agg #[Value.int IntKind.i64 0, Value.int IntKind.i64 0, Value.int IntKind.i64 0]) Tryd.underlying64 (by kernel_rfl) rfl rfl (by decide)
instance : ElT Tryd.prog 84 9 1 [Value.string { data := #[] }] 16 := elT_of (z := Value.string { data := #[] }) Tryd.underlying84 (by kernel_rfl) rfl rfl (by decide)
instance : ElT Tryd.prog 110 59 1 [Value.nilIface] 16 := elT_of (z := Value.nilIface) Tryd.underlying110 (by kernel_rfl) rfl rfl (by decide)
instance : ElT Tryd.prog 129 5 1 [Value.int IntKind.u8 0] 1 := elT_of (z := Value.int IntKind.u8 0) Tryd.underlying129 (by kernel_rfl) rfl rfl (by decide)
instance : FnT Tryd.prog 3 := ⟨_, _, Tryd.func3, rfl, by decide⟩
instance : FnT Tryd.prog 4 := ⟨_, _, Tryd.func4, rfl, by decide⟩
instance : FnT Tryd.prog 5 := ⟨_, _, Tryd.func5, rfl, by decide⟩
instance : FnT Tryd.prog 6 := ⟨_, _, Tryd.func6, rfl, by decide⟩
instance : FnT Tryd.prog 7 := ⟨_, _, Tryd.func7, rfl, by decide⟩
instance : FnT Tryd.prog 8 := ⟨_, _, Tryd.func8, rfl, by decide⟩
instance : FnT Tryd.prog 9 := ⟨_, _, Tryd.func9, rfl, by decide⟩
instance : FnT Tryd.prog 10 := ⟨_, _, Tryd.func10, rfl, by decide⟩
instance : FnT Tryd.prog 11 := ⟨_, _, Tryd.func11, rfl, by decide⟩
instance : FnT Tryd.prog 12 := ⟨_, _, Tryd.func12, rfl, by decide⟩
instance : FnT Tryd.prog 13 := ⟨_, _, Tryd.func13, rfl, by decide⟩
instance : FnT Tryd.prog 14 := ⟨_, _, Tryd.func14, rfl, by decide⟩
instance : FnT Tryd.prog 15 := ⟨_, _, Tryd.func15, rfl, by decide⟩
instance : FnT Tryd.prog 16 := ⟨_, _, Tryd.func16, rfl, by decide⟩
instance : FnT Tryd.prog 17 := ⟨_, _, Tryd.func17, rfl, by decide⟩
instance : FnT Tryd.prog 18 := ⟨_, _, Tryd.func18, rfl, by decide⟩
instance : FnT Tryd.prog 19 := ⟨_, _, Tryd.func19, rfl, by decide⟩
instance : FnT Tryd.prog 20 := ⟨_, _, Tryd.func20, rfl, by decide⟩
instance : FnT Tryd.prog 21 := ⟨_, _, Tryd.func21, rfl, by decide⟩
instance : FnT Tryd.prog 22 := ⟨_, _, Tryd.func22, rfl, by decide⟩
instance : FnT Tryd.prog 23 := ⟨_, _, Tryd.func23, rfl, by decide⟩
instance : FnT Tryd.prog 24 := ⟨_, _, Tryd.func24, rfl, by decide⟩
instance : FnT Tryd.prog 25 := ⟨_, _, Tryd.func25, rfl, by decide⟩
instance : FnT Tryd.prog 26 := ⟨_, _, Tryd.func26, rfl, by decide⟩
instance : FnT Tryd.prog 27 := ⟨_, _, Tryd.func27, rfl, by decide⟩
instance : FnT Tryd.prog 28 := ⟨_, _, Tryd.func28, rfl, by decide⟩
instance : FnT Tryd.prog 29 := ⟨_, _, Tryd.func29, rfl, by decide⟩
instance : FnT Tryd.prog 30 := ⟨_, _, Tryd.func30, rfl, by decide⟩
instance : FnT Tryd.prog 31 := ⟨_, _, Tryd.func31, rfl, by decide⟩
instance : FnT Tryd.prog 32 := ⟨_, _, Tryd.func32, rfl, by decide⟩
instance : FnT Tryd.prog 33 := ⟨_, _, Tryd.func33, rfl, by decide⟩
instance : FnT Tryd.prog 34 := ⟨_, _, Tryd.func34, rfl, by decide⟩
instance : FnT Tryd.prog 35 := ⟨_, _, Tryd.func35, rfl, by decide⟩
instance : FnT Tryd.prog 36 := ⟨_, _, Tryd.func36, rfl, by decide⟩
instance : FnT Tryd.prog 37 := ⟨_, _, Tryd.func37, rfl, by decide⟩
instance : FnT Tryd.prog 38 := ⟨_, _, Tryd.func38, rfl, by decide⟩
instance : FnT Tryd.prog 39 := ⟨_, _, Tryd.func39, rfl, by decide⟩
instance : FnT Tryd.prog 40 := ⟨_, _, Tryd.func40, rfl, by decide⟩
instance : FnT Tryd.prog 41 := ⟨_, _, Tryd.func41, rfl, by decide⟩
instance : FnT Tryd.prog 42 := ⟨_, _, Tryd.func42, rfl, by decide⟩
instance : FnT Tryd.prog 43 := ⟨_, _, Tryd.func43, rfl, by decide⟩
instance : FnT Tryd.prog 44 := ⟨_, _, Tryd.func44, rfl, by decide⟩
instance : FnT Tryd.prog 45 := ⟨_, _, Tryd.func45, rfl, by decide⟩
instance : FnT Tryd.prog 46 := ⟨_, _, Tryd.func46, rfl, by decide⟩
instance : FnT Tryd.prog 47 := ⟨_, _, Tryd.func47, rfl, by decide⟩
instance : FnT Tryd.prog 48 := ⟨_, _, Tryd.func48, rfl, by decide⟩
instance : FnT Tryd.prog 49 := ⟨_, _, Tryd.func49, rfl, by decide⟩
instance : FnT Tryd.prog 50 := ⟨_, _, Tryd.func50, rfl, by decide⟩
instance : FnT Tryd.prog 51 := ⟨_, _, Tryd.func51, rfl, by decide⟩
instance : FnT Tryd.prog 52 := ⟨_, _, Tryd.func52, rfl, by decide⟩
instance : FnT Tryd.prog 53 := ⟨_, _, Tryd.func53, rfl, by decide⟩
instance : FnT Tryd.prog 54 := ⟨_, _, Tryd.func54, rfl, by decide⟩
instance : FnT Tryd.prog 55 := ⟨_, _, Tryd.func55, rfl, by decide⟩
instance : FnT Tryd.prog 56 := ⟨_, _, Tryd.func56, rfl, by decide⟩
instance : FnT Tryd.prog 57 := ⟨_, _, Tryd.func57, rfl, by decide⟩
instance : FnT Tryd.prog 58 := ⟨_, _, Tryd.func58, rfl, by decide⟩
instance : FnT Tryd.prog 59 := ⟨_, _, Tryd.func59, rfl, by decide⟩
instance : FnT Tryd.prog 60 := ⟨_, _, Tryd.func60, rfl, by decide⟩
instance : FnT Tryd.prog 61 := ⟨_, _, Tryd.func61, rfl, by decide⟩
instance : FnT Tryd.prog 62 := ⟨_, _, Tryd.func62, rfl, by decide⟩
instance : FnT Tryd.prog 63 := ⟨_, _, Tryd.func63, rfl, by decide⟩
instance : FnT Tryd.prog 65 := ⟨_, _, Tryd.func65, rfl, by decide⟩
instance : FnT Tryd.prog 66 := ⟨_, _, Tryd.func66, rfl, by decide⟩
instance : FnT Tryd.prog 67 := ⟨_, _, Tryd.func67, rfl, by decide⟩
instance : FnT Tryd.prog 68 := ⟨_, _, Tryd.func68, rfl, by decide⟩
instance : FnT Tryd.prog 69 := ⟨_, _, Tryd.func69, rfl, by decide⟩
instance : FnT Tryd.prog 70 := ⟨_, _, Tryd.func70, rfl, by decide⟩
instance : FnT Tryd.prog 71 := ⟨_, _, Tryd.func71, rfl, by decide⟩
instance : FnT Tryd.prog 72 := ⟨_, _, Tryd.func72, rfl, by decide⟩
instance : FnT Tryd.prog 73 := ⟨_, _, Tryd.func73, rfl, by decide⟩
instance : FnT Tryd.prog 74 := ⟨_, _, Tryd.func74, rfl, by decide⟩
instance : FnT Tryd.prog 75 := ⟨_, _, Tryd.func75, rfl, by decide⟩
instance : FnT Tryd.prog 77 := ⟨_, _, Tryd.func77, rfl, by decide⟩
instance : FnT Tryd.prog 78 := ⟨_, _, Tryd.func78, rfl, by decide⟩
instance : FnT Tryd.prog 79 := ⟨_, _, Tryd.func79, rfl, by decide⟩
instance : FnT Tryd.prog 80 := ⟨_, _, Tryd.func80, rfl, by decide⟩
instance : FnT Tryd.prog 81 := ⟨_, _, Tryd.func81, rfl, by decide⟩
instance : FnT Tryd.prog 84 := ⟨_, _, Tryd.func84, rfl, by decide⟩
instance : FnT Tryd.prog 89 := ⟨_, _, Tryd.func89, rfl, by decide⟩
instance : FnT Tryd.prog 92 := ⟨_, _, Tryd.func92, rfl, by decide⟩
instance : FnT Tryd.prog 94 := ⟨_, _, Tryd.func94, rfl, by decide⟩
instance : FnT Tryd.prog 97 := ⟨_, _, Tryd.func97, rfl, by decide⟩
instance : FnT Tryd.prog 102 := ⟨_, _, Tryd.func102, rfl, by decide⟩
instance : FnT Tryd.prog 103 := ⟨_, _, Tryd.func103, rfl, by decide⟩
instance : FnT Tryd.prog 122 := ⟨_, _, Tryd.func122, rfl, by decide⟩
instance : FnT Tryd.prog 123 := ⟨_, _, Tryd.func123, rfl, by decide⟩
instance : FnT Tryd.prog 124 := ⟨_, _, Tryd.func124, rfl, by decide⟩
instance : FnT Tryd.prog 125 := ⟨_, _, Tryd.func125, rfl, by decide⟩
instance : FnT Tryd.prog 126 := ⟨_, _, Tryd.func126, rfl, by decide⟩
instance : FnT Tryd.prog 127 := ⟨_, _, Tryd.func127, rfl, by decide⟩
instance : FnT Tryd.prog 128 := ⟨_, _, Tryd.func128, rfl, by decide⟩
instance : FnT Tryd.prog 129 := ⟨_, _, Tryd.func129, rfl, by decide⟩
instance : FnT Tryd.prog 130 := ⟨_, _, Tryd.func130, rfl, by decide⟩
instance : FnT Tryd.prog 131 := ⟨_, _, Tryd.func131, rfl, by decide⟩
end Go.Proofs.YtdmapiaejcnibaaDoor
