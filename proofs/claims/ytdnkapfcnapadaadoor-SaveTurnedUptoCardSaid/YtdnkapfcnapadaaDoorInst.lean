/-
  The types and the functions of this seat, as the logic of walks asks for them. (Written by a program of this repo: inst.py.)
-/
import Derived.Test.YtdnkapfcnapadaaDoorProg
import Derived.Test.YtdnkapfcnapadaaDoorMore
namespace Go.Proofs.YtdnkapfcnapadaaDoor
open Go
set_option maxRecDepth 100000
instance : NotIf Tryd.prog 0 := ⟨_, Tryd.underlying0, rfl⟩
instance : ZT Tryd.prog 0 [Value.tuple #[]] := ⟨_, Tryd.zeroValue0, rfl⟩
instance : NAgg Tryd.prog 0 := ⟨Tryd.isAgg0⟩
instance : OneT Tryd.prog 0 (Value.tuple #[]) := ⟨Tryd.isAgg0, Tryd.sizeOf0, Tryd.zeroValue0⟩
instance : ZV Tryd.prog 0 (Value.tuple #[]) := ⟨Tryd.zeroValue0⟩
instance : NotIf Tryd.prog 1 := ⟨_, Tryd.underlying1, rfl⟩
instance : ZT Tryd.prog 1 [Value.nilFunc] := ⟨_, Tryd.zeroValue1, rfl⟩
instance : NAgg Tryd.prog 1 := ⟨Tryd.isAgg1⟩
instance : OneT Tryd.prog 1 (Value.nilFunc) := ⟨Tryd.isAgg1, Tryd.sizeOf1, Tryd.zeroValue1⟩
instance : ZV Tryd.prog 1 (Value.nilFunc) := ⟨Tryd.zeroValue1⟩
instance : NotIf Tryd.prog 2 := ⟨_, Tryd.underlying2, rfl⟩
instance : IntT Tryd.prog 2 .i64 := ⟨Tryd.underlying2⟩
instance : ZT Tryd.prog 2 [Value.int IntKind.i64 0] := ⟨_, Tryd.zeroValue2, rfl⟩
instance : NAgg Tryd.prog 2 := ⟨Tryd.isAgg2⟩
instance : OneT Tryd.prog 2 (Value.int IntKind.i64 0) := ⟨Tryd.isAgg2, Tryd.sizeOf2, Tryd.zeroValue2⟩
instance : ZV Tryd.prog 2 (Value.int IntKind.i64 0) := ⟨Tryd.zeroValue2⟩
instance : NotIf Tryd.prog 3 := ⟨_, Tryd.underlying3, rfl⟩
instance : IntT Tryd.prog 3 .i64 := ⟨Tryd.underlying3⟩
instance : ZT Tryd.prog 3 [Value.int IntKind.i64 0] := ⟨_, Tryd.zeroValue3, rfl⟩
instance : NAgg Tryd.prog 3 := ⟨Tryd.isAgg3⟩
instance : OneT Tryd.prog 3 (Value.int IntKind.i64 0) := ⟨Tryd.isAgg3, Tryd.sizeOf3, Tryd.zeroValue3⟩
instance : ZV Tryd.prog 3 (Value.int IntKind.i64 0) := ⟨Tryd.zeroValue3⟩
instance : NotIf Tryd.prog 4 := ⟨_, Tryd.underlying4, rfl⟩
instance : BoolT Tryd.prog 4 := ⟨Tryd.underlying4⟩
instance : ZT Tryd.prog 4 [Value.bool false] := ⟨_, Tryd.zeroValue4, rfl⟩
instance : NAgg Tryd.prog 4 := ⟨Tryd.isAgg4⟩
instance : OneT Tryd.prog 4 (Value.bool false) := ⟨Tryd.isAgg4, Tryd.sizeOf4, Tryd.zeroValue4⟩
instance : ZV Tryd.prog 4 (Value.bool false) := ⟨Tryd.zeroValue4⟩
instance : NotIf Tryd.prog 5 := ⟨_, Tryd.underlying5, rfl⟩
instance : IntT Tryd.prog 5 .u8 := ⟨Tryd.underlying5⟩
instance : ZT Tryd.prog 5 [Value.int IntKind.u8 0] := ⟨_, Tryd.zeroValue5, rfl⟩
instance : NAgg Tryd.prog 5 := ⟨Tryd.isAgg5⟩
instance : OneT Tryd.prog 5 (Value.int IntKind.u8 0) := ⟨Tryd.isAgg5, Tryd.sizeOf5, Tryd.zeroValue5⟩
instance : ZV Tryd.prog 5 (Value.int IntKind.u8 0) := ⟨Tryd.zeroValue5⟩
instance : NotIf Tryd.prog 6 := ⟨_, Tryd.underlying6, rfl⟩
instance : IntT Tryd.prog 6 .u8 := ⟨Tryd.underlying6⟩
instance : ZT Tryd.prog 6 [Value.int IntKind.u8 0] := ⟨_, Tryd.zeroValue6, rfl⟩
instance : NAgg Tryd.prog 6 := ⟨Tryd.isAgg6⟩
instance : OneT Tryd.prog 6 (Value.int IntKind.u8 0) := ⟨Tryd.isAgg6, Tryd.sizeOf6, Tryd.zeroValue6⟩
instance : ZV Tryd.prog 6 (Value.int IntKind.u8 0) := ⟨Tryd.zeroValue6⟩
instance : NotIf Tryd.prog 7 := ⟨_, Tryd.underlying7, rfl⟩
instance : ZT Tryd.prog 7 [Value.int IntKind.i64 0, Value.int IntKind.i64 0, Value.bool false, Value.int IntKind.u8 0] := ⟨_, Tryd.zeroValue7, rfl⟩
instance : StT Tryd.prog 7 [(0, 1), (1, 1), (2, 1), (3, 1)] [Value.int IntKind.i64 0, Value.int IntKind.i64 0, Value.bool false, Value.int IntKind.u8 0] := ⟨fld_of Tryd.underlying7 (by kernel_rfl), fun parts => by kernel_rfl, Tryd.sizeOf7, Tryd.isAgg7, Tryd.zeroValue7⟩
instance : ZV Tryd.prog 7 (Value.agg #[Value.int IntKind.i64 0, Value.int IntKind.i64 0, Value.bool false, Value.int IntKind.u8 0]) := ⟨Tryd.zeroValue7⟩
instance : FldT Tryd.prog 7 [some 0, some 1, some 2, some 3] := fldT_of Tryd.underlying7 (by kernel_rfl)
instance : NotIf Tryd.prog 8 := ⟨_, Tryd.underlying8, rfl⟩
instance : ZT Tryd.prog 8 [Value.int IntKind.i64 0, Value.int IntKind.i64 0, Value.bool false, Value.int IntKind.u8 0] := ⟨_, Tryd.zeroValue8, rfl⟩
instance : StT Tryd.prog 8 [(0, 1), (1, 1), (2, 1), (3, 1)] [Value.int IntKind.i64 0, Value.int IntKind.i64 0, Value.bool false, Value.int IntKind.u8 0] := ⟨fld_of Tryd.underlying8 (by kernel_rfl), fun parts => by kernel_rfl, Tryd.sizeOf8, Tryd.isAgg8, Tryd.zeroValue8⟩
instance : ZV Tryd.prog 8 (Value.agg #[Value.int IntKind.i64 0, Value.int IntKind.i64 0, Value.bool false, Value.int IntKind.u8 0]) := ⟨Tryd.zeroValue8⟩
instance : FldT Tryd.prog 8 [some 0, some 1, some 2, some 3] := fldT_of Tryd.underlying8 (by kernel_rfl)
instance : NotIf Tryd.prog 9 := ⟨_, Tryd.underlying9, rfl⟩
instance : StrT Tryd.prog 9 := ⟨Tryd.underlying9⟩
instance : ZT Tryd.prog 9 [Value.string { data := #[] }] := ⟨_, Tryd.zeroValue9, rfl⟩
instance : NAgg Tryd.prog 9 := ⟨Tryd.isAgg9⟩
instance : OneT Tryd.prog 9 (Value.string { data := #[] }) := ⟨Tryd.isAgg9, Tryd.sizeOf9, Tryd.zeroValue9⟩
instance : ZV Tryd.prog 9 (Value.string { data := #[] }) := ⟨Tryd.zeroValue9⟩
instance : NotIf Tryd.prog 10 := ⟨_, Tryd.underlying10, rfl⟩
instance : StrT Tryd.prog 10 := ⟨Tryd.underlying10⟩
instance : ZT Tryd.prog 10 [Value.string { data := #[] }] := ⟨_, Tryd.zeroValue10, rfl⟩
instance : NAgg Tryd.prog 10 := ⟨Tryd.isAgg10⟩
instance : OneT Tryd.prog 10 (Value.string { data := #[] }) := ⟨Tryd.isAgg10, Tryd.sizeOf10, Tryd.zeroValue10⟩
instance : ZV Tryd.prog 10 (Value.string { data := #[] }) := ⟨Tryd.zeroValue10⟩
instance : NotIf Tryd.prog 11 := ⟨_, Tryd.underlying11, rfl⟩
instance : StrT Tryd.prog 11 := ⟨Tryd.underlying11⟩
instance : ZT Tryd.prog 11 [Value.string { data := #[] }] := ⟨_, Tryd.zeroValue11, rfl⟩
instance : NAgg Tryd.prog 11 := ⟨Tryd.isAgg11⟩
instance : OneT Tryd.prog 11 (Value.string { data := #[] }) := ⟨Tryd.isAgg11, Tryd.sizeOf11, Tryd.zeroValue11⟩
instance : ZV Tryd.prog 11 (Value.string { data := #[] }) := ⟨Tryd.zeroValue11⟩
instance : NotIf Tryd.prog 12 := ⟨_, Tryd.underlying12, rfl⟩
instance : IntT Tryd.prog 12 .u64 := ⟨Tryd.underlying12⟩
instance : ZT Tryd.prog 12 [Value.int IntKind.u64 0] := ⟨_, Tryd.zeroValue12, rfl⟩
instance : NAgg Tryd.prog 12 := ⟨Tryd.isAgg12⟩
instance : OneT Tryd.prog 12 (Value.int IntKind.u64 0) := ⟨Tryd.isAgg12, Tryd.sizeOf12, Tryd.zeroValue12⟩
instance : ZV Tryd.prog 12 (Value.int IntKind.u64 0) := ⟨Tryd.zeroValue12⟩
instance : NotIf Tryd.prog 13 := ⟨_, Tryd.underlying13, rfl⟩
instance : ZT Tryd.prog 13 [Value.string { data := #[] }, Value.int IntKind.u64 0] := ⟨_, Tryd.zeroValue13, rfl⟩
instance : StT Tryd.prog 13 [(0, 1), (1, 1)] [Value.string { data := #[] }, Value.int IntKind.u64 0] := ⟨fld_of Tryd.underlying13 (by kernel_rfl), fun parts => by kernel_rfl, Tryd.sizeOf13, Tryd.isAgg13, Tryd.zeroValue13⟩
instance : ZV Tryd.prog 13 (Value.agg #[Value.string { data := #[] }, Value.int IntKind.u64 0]) := ⟨Tryd.zeroValue13⟩
instance : FldT Tryd.prog 13 [some 0, some 1] := fldT_of Tryd.underlying13 (by kernel_rfl)
instance : NotIf Tryd.prog 14 := ⟨_, Tryd.underlying14, rfl⟩
instance : ZT Tryd.prog 14 [Value.string { data := #[] }, Value.int IntKind.u64 0] := ⟨_, Tryd.zeroValue14, rfl⟩
instance : StT Tryd.prog 14 [(0, 1), (1, 1)] [Value.string { data := #[] }, Value.int IntKind.u64 0] := ⟨fld_of Tryd.underlying14 (by kernel_rfl), fun parts => by kernel_rfl, Tryd.sizeOf14, Tryd.isAgg14, Tryd.zeroValue14⟩
instance : ZV Tryd.prog 14 (Value.agg #[Value.string { data := #[] }, Value.int IntKind.u64 0]) := ⟨Tryd.zeroValue14⟩
instance : FldT Tryd.prog 14 [some 0, some 1] := fldT_of Tryd.underlying14 (by kernel_rfl)
instance : NotIf Tryd.prog 15 := ⟨_, Tryd.underlying15, rfl⟩
instance : ZT Tryd.prog 15 [Value.pointer none] := ⟨_, Tryd.zeroValue15, rfl⟩
instance : NAgg Tryd.prog 15 := ⟨Tryd.isAgg15⟩
instance : OneT Tryd.prog 15 (Value.pointer none) := ⟨Tryd.isAgg15, Tryd.sizeOf15, Tryd.zeroValue15⟩
instance : ZV Tryd.prog 15 (Value.pointer none) := ⟨Tryd.zeroValue15⟩
instance : NotIf Tryd.prog 16 := ⟨_, Tryd.underlying16, rfl⟩
instance : ZT Tryd.prog 16 [Value.pointer none] := ⟨_, Tryd.zeroValue16, rfl⟩
instance : NAgg Tryd.prog 16 := ⟨Tryd.isAgg16⟩
instance : OneT Tryd.prog 16 (Value.pointer none) := ⟨Tryd.isAgg16, Tryd.sizeOf16, Tryd.zeroValue16⟩
instance : ZV Tryd.prog 16 (Value.pointer none) := ⟨Tryd.zeroValue16⟩
instance : NotIf Tryd.prog 17 := ⟨_, Tryd.underlying17, rfl⟩
instance : ZT Tryd.prog 17 [Value.pointer none] := ⟨_, Tryd.zeroValue17, rfl⟩
instance : NAgg Tryd.prog 17 := ⟨Tryd.isAgg17⟩
instance : OneT Tryd.prog 17 (Value.pointer none) := ⟨Tryd.isAgg17, Tryd.sizeOf17, Tryd.zeroValue17⟩
instance : ZV Tryd.prog 17 (Value.pointer none) := ⟨Tryd.zeroValue17⟩
instance : NotIf Tryd.prog 18 := ⟨_, Tryd.underlying18, rfl⟩
instance : ZT Tryd.prog 18 [Value.pointer none] := ⟨_, Tryd.zeroValue18, rfl⟩
instance : StT Tryd.prog 18 [(0, 1)] [Value.pointer none] := ⟨fld_of Tryd.underlying18 (by kernel_rfl), fun parts => by kernel_rfl, Tryd.sizeOf18, Tryd.isAgg18, Tryd.zeroValue18⟩
instance : ZV Tryd.prog 18 (Value.agg #[Value.pointer none]) := ⟨Tryd.zeroValue18⟩
instance : FldT Tryd.prog 18 [some 0] := fldT_of Tryd.underlying18 (by kernel_rfl)
instance : NotIf Tryd.prog 19 := ⟨_, Tryd.underlying19, rfl⟩
instance : ZT Tryd.prog 19 [Value.pointer none] := ⟨_, Tryd.zeroValue19, rfl⟩
instance : StT Tryd.prog 19 [(0, 1)] [Value.pointer none] := ⟨fld_of Tryd.underlying19 (by kernel_rfl), fun parts => by kernel_rfl, Tryd.sizeOf19, Tryd.isAgg19, Tryd.zeroValue19⟩
instance : ZV Tryd.prog 19 (Value.agg #[Value.pointer none]) := ⟨Tryd.zeroValue19⟩
instance : FldT Tryd.prog 19 [some 0] := fldT_of Tryd.underlying19 (by kernel_rfl)
instance : IfT Tryd.prog 20 := ⟨_, Tryd.underlying20⟩
instance : ZT Tryd.prog 20 [Value.nilIface] := ⟨_, Tryd.zeroValue20, rfl⟩
instance : NAgg Tryd.prog 20 := ⟨Tryd.isAgg20⟩
instance : OneT Tryd.prog 20 (Value.nilIface) := ⟨Tryd.isAgg20, Tryd.sizeOf20, Tryd.zeroValue20⟩
instance : ZV Tryd.prog 20 (Value.nilIface) := ⟨Tryd.zeroValue20⟩
instance : NotIf Tryd.prog 21 := ⟨_, Tryd.underlying21, rfl⟩
instance : IntT Tryd.prog 21 .i32 := ⟨Tryd.underlying21⟩
instance : ZT Tryd.prog 21 [Value.int IntKind.i32 0] := ⟨_, Tryd.zeroValue21, rfl⟩
instance : NAgg Tryd.prog 21 := ⟨Tryd.isAgg21⟩
instance : OneT Tryd.prog 21 (Value.int IntKind.i32 0) := ⟨Tryd.isAgg21, Tryd.sizeOf21, Tryd.zeroValue21⟩
instance : ZV Tryd.prog 21 (Value.int IntKind.i32 0) := ⟨Tryd.zeroValue21⟩
instance : SlT Tryd.prog 22 73 4 := ⟨Tryd.underlying22, Tryd.sizeOf73⟩
instance : NotIf Tryd.prog 22 := ⟨_, Tryd.underlying22, rfl⟩
instance : ZT Tryd.prog 22 [Value.slice none 0 0] := ⟨_, Tryd.zeroValue22, rfl⟩
instance : NAgg Tryd.prog 22 := ⟨Tryd.isAgg22⟩
instance : OneT Tryd.prog 22 (Value.slice none 0 0) := ⟨Tryd.isAgg22, Tryd.sizeOf22, Tryd.zeroValue22⟩
instance : ZV Tryd.prog 22 (Value.slice none 0 0) := ⟨Tryd.zeroValue22⟩
instance : NotIf Tryd.prog 23 := ⟨_, Tryd.underlying23, rfl⟩
instance : ZT Tryd.prog 23 [Value.nilFunc] := ⟨_, Tryd.zeroValue23, rfl⟩
instance : NAgg Tryd.prog 23 := ⟨Tryd.isAgg23⟩
instance : OneT Tryd.prog 23 (Value.nilFunc) := ⟨Tryd.isAgg23, Tryd.sizeOf23, Tryd.zeroValue23⟩
instance : ZV Tryd.prog 23 (Value.nilFunc) := ⟨Tryd.zeroValue23⟩
instance : IfT Tryd.prog 24 := ⟨_, Tryd.underlying24⟩
instance : ZT Tryd.prog 24 [Value.nilIface] := ⟨_, Tryd.zeroValue24, rfl⟩
instance : NAgg Tryd.prog 24 := ⟨Tryd.isAgg24⟩
instance : OneT Tryd.prog 24 (Value.nilIface) := ⟨Tryd.isAgg24, Tryd.sizeOf24, Tryd.zeroValue24⟩
instance : ZV Tryd.prog 24 (Value.nilIface) := ⟨Tryd.zeroValue24⟩
instance : IfT Tryd.prog 25 := ⟨_, Tryd.underlying25⟩
instance : ZT Tryd.prog 25 [Value.nilIface] := ⟨_, Tryd.zeroValue25, rfl⟩
instance : NAgg Tryd.prog 25 := ⟨Tryd.isAgg25⟩
instance : OneT Tryd.prog 25 (Value.nilIface) := ⟨Tryd.isAgg25, Tryd.sizeOf25, Tryd.zeroValue25⟩
instance : ZV Tryd.prog 25 (Value.nilIface) := ⟨Tryd.zeroValue25⟩
instance : NotIf Tryd.prog 26 := ⟨_, Tryd.underlying26, rfl⟩
instance : ZT Tryd.prog 26 [Value.tuple #[Value.string { data := #[] }, Value.nilIface]] := ⟨_, Tryd.zeroValue26, rfl⟩
instance : NAgg Tryd.prog 26 := ⟨Tryd.isAgg26⟩
instance : OneT Tryd.prog 26 (Value.tuple #[Value.string { data := #[] }, Value.nilIface]) := ⟨Tryd.isAgg26, Tryd.sizeOf26, Tryd.zeroValue26⟩
instance : ZV Tryd.prog 26 (Value.tuple #[Value.string { data := #[] }, Value.nilIface]) := ⟨Tryd.zeroValue26⟩
instance : NotIf Tryd.prog 27 := ⟨_, Tryd.underlying27, rfl⟩
instance : ZT Tryd.prog 27 [Value.nilFunc] := ⟨_, Tryd.zeroValue27, rfl⟩
instance : NAgg Tryd.prog 27 := ⟨Tryd.isAgg27⟩
instance : OneT Tryd.prog 27 (Value.nilFunc) := ⟨Tryd.isAgg27, Tryd.sizeOf27, Tryd.zeroValue27⟩
instance : ZV Tryd.prog 27 (Value.nilFunc) := ⟨Tryd.zeroValue27⟩
instance : SlT Tryd.prog 28 5 1 := ⟨Tryd.underlying28, Tryd.sizeOf5⟩
instance : NotIf Tryd.prog 28 := ⟨_, Tryd.underlying28, rfl⟩
instance : ZT Tryd.prog 28 [Value.slice none 0 0] := ⟨_, Tryd.zeroValue28, rfl⟩
instance : NAgg Tryd.prog 28 := ⟨Tryd.isAgg28⟩
instance : OneT Tryd.prog 28 (Value.slice none 0 0) := ⟨Tryd.isAgg28, Tryd.sizeOf28, Tryd.zeroValue28⟩
instance : ZV Tryd.prog 28 (Value.slice none 0 0) := ⟨Tryd.zeroValue28⟩
instance : NotIf Tryd.prog 29 := ⟨_, Tryd.underlying29, rfl⟩
instance : ZT Tryd.prog 29 [Value.tuple #[Value.slice none 0 0, Value.nilIface]] := ⟨_, Tryd.zeroValue29, rfl⟩
instance : NAgg Tryd.prog 29 := ⟨Tryd.isAgg29⟩
instance : OneT Tryd.prog 29 (Value.tuple #[Value.slice none 0 0, Value.nilIface]) := ⟨Tryd.isAgg29, Tryd.sizeOf29, Tryd.zeroValue29⟩
instance : ZV Tryd.prog 29 (Value.tuple #[Value.slice none 0 0, Value.nilIface]) := ⟨Tryd.zeroValue29⟩
instance : NotIf Tryd.prog 30 := ⟨_, Tryd.underlying30, rfl⟩
instance : ZT Tryd.prog 30 [Value.nilFunc] := ⟨_, Tryd.zeroValue30, rfl⟩
instance : NAgg Tryd.prog 30 := ⟨Tryd.isAgg30⟩
instance : OneT Tryd.prog 30 (Value.nilFunc) := ⟨Tryd.isAgg30, Tryd.sizeOf30, Tryd.zeroValue30⟩
instance : ZV Tryd.prog 30 (Value.nilFunc) := ⟨Tryd.zeroValue30⟩
instance : NotIf Tryd.prog 31 := ⟨_, Tryd.underlying31, rfl⟩
instance : ZT Tryd.prog 31 [Value.nilFunc] := ⟨_, Tryd.zeroValue31, rfl⟩
instance : NAgg Tryd.prog 31 := ⟨Tryd.isAgg31⟩
instance : OneT Tryd.prog 31 (Value.nilFunc) := ⟨Tryd.isAgg31, Tryd.sizeOf31, Tryd.zeroValue31⟩
instance : ZV Tryd.prog 31 (Value.nilFunc) := ⟨Tryd.zeroValue31⟩
instance : NotIf Tryd.prog 32 := ⟨_, Tryd.underlying32, rfl⟩
instance : IntT Tryd.prog 32 .i64 := ⟨Tryd.underlying32⟩
instance : ZT Tryd.prog 32 [Value.int IntKind.i64 0] := ⟨_, Tryd.zeroValue32, rfl⟩
instance : NAgg Tryd.prog 32 := ⟨Tryd.isAgg32⟩
instance : OneT Tryd.prog 32 (Value.int IntKind.i64 0) := ⟨Tryd.isAgg32, Tryd.sizeOf32, Tryd.zeroValue32⟩
instance : ZV Tryd.prog 32 (Value.int IntKind.i64 0) := ⟨Tryd.zeroValue32⟩
instance : NotIf Tryd.prog 33 := ⟨_, Tryd.underlying33, rfl⟩
instance : ZT Tryd.prog 33 [Value.nilFunc] := ⟨_, Tryd.zeroValue33, rfl⟩
instance : NAgg Tryd.prog 33 := ⟨Tryd.isAgg33⟩
instance : OneT Tryd.prog 33 (Value.nilFunc) := ⟨Tryd.isAgg33, Tryd.sizeOf33, Tryd.zeroValue33⟩
instance : ZV Tryd.prog 33 (Value.nilFunc) := ⟨Tryd.zeroValue33⟩
instance : SlT Tryd.prog 34 43 7 := ⟨Tryd.underlying34, Tryd.sizeOf43⟩
instance : NotIf Tryd.prog 34 := ⟨_, Tryd.underlying34, rfl⟩
instance : ZT Tryd.prog 34 [Value.slice none 0 0] := ⟨_, Tryd.zeroValue34, rfl⟩
instance : NAgg Tryd.prog 34 := ⟨Tryd.isAgg34⟩
instance : OneT Tryd.prog 34 (Value.slice none 0 0) := ⟨Tryd.isAgg34, Tryd.sizeOf34, Tryd.zeroValue34⟩
instance : ZV Tryd.prog 34 (Value.slice none 0 0) := ⟨Tryd.zeroValue34⟩
instance : SlT Tryd.prog 35 46 8 := ⟨Tryd.underlying35, Tryd.sizeOf46⟩
instance : NotIf Tryd.prog 35 := ⟨_, Tryd.underlying35, rfl⟩
instance : ZT Tryd.prog 35 [Value.slice none 0 0] := ⟨_, Tryd.zeroValue35, rfl⟩
instance : NAgg Tryd.prog 35 := ⟨Tryd.isAgg35⟩
instance : OneT Tryd.prog 35 (Value.slice none 0 0) := ⟨Tryd.isAgg35, Tryd.sizeOf35, Tryd.zeroValue35⟩
instance : ZV Tryd.prog 35 (Value.slice none 0 0) := ⟨Tryd.zeroValue35⟩
instance : NotIf Tryd.prog 36 := ⟨_, Tryd.underlying36, rfl⟩
instance : ZT Tryd.prog 36 [Value.tuple #[Value.slice none 0 0, Value.nilIface]] := ⟨_, Tryd.zeroValue36, rfl⟩
instance : NAgg Tryd.prog 36 := ⟨Tryd.isAgg36⟩
instance : OneT Tryd.prog 36 (Value.tuple #[Value.slice none 0 0, Value.nilIface]) := ⟨Tryd.isAgg36, Tryd.sizeOf36, Tryd.zeroValue36⟩
instance : ZV Tryd.prog 36 (Value.tuple #[Value.slice none 0 0, Value.nilIface]) := ⟨Tryd.zeroValue36⟩
instance : NotIf Tryd.prog 37 := ⟨_, Tryd.underlying37, rfl⟩
instance : ZT Tryd.prog 37 [Value.nilFunc] := ⟨_, Tryd.zeroValue37, rfl⟩
instance : NAgg Tryd.prog 37 := ⟨Tryd.isAgg37⟩
instance : OneT Tryd.prog 37 (Value.nilFunc) := ⟨Tryd.isAgg37, Tryd.sizeOf37, Tryd.zeroValue37⟩
instance : ZV Tryd.prog 37 (Value.nilFunc) := ⟨Tryd.zeroValue37⟩
instance : NotIf Tryd.prog 38 := ⟨_, Tryd.underlying38, rfl⟩
instance : IntT Tryd.prog 38 .i64 := ⟨Tryd.underlying38⟩
instance : ZT Tryd.prog 38 [Value.int IntKind.i64 0] := ⟨_, Tryd.zeroValue38, rfl⟩
instance : NAgg Tryd.prog 38 := ⟨Tryd.isAgg38⟩
instance : OneT Tryd.prog 38 (Value.int IntKind.i64 0) := ⟨Tryd.isAgg38, Tryd.sizeOf38, Tryd.zeroValue38⟩
instance : ZV Tryd.prog 38 (Value.int IntKind.i64 0) := ⟨Tryd.zeroValue38⟩
instance : NotIf Tryd.prog 39 := ⟨_, Tryd.underlying39, rfl⟩
instance : ZT Tryd.prog 39 [Value.int IntKind.i64 0, Value.int IntKind.i64 0, Value.int IntKind.i64 0] := ⟨_, Tryd.zeroValue39, rfl⟩
instance : StT Tryd.prog 39 [(0, 1), (1, 1), (2, 1)] [Value.int IntKind.i64 0, Value.int IntKind.i64 0, Value.int IntKind.i64 0] := ⟨fld_of Tryd.underlying39 (by kernel_rfl), fun parts => by kernel_rfl, Tryd.sizeOf39, Tryd.isAgg39, Tryd.zeroValue39⟩
instance : ZV Tryd.prog 39 (Value.agg #[Value.int IntKind.i64 0, Value.int IntKind.i64 0, Value.int IntKind.i64 0]) := ⟨Tryd.zeroValue39⟩
instance : FldT Tryd.prog 39 [some 0, some 1, some 2] := fldT_of Tryd.underlying39 (by kernel_rfl)
instance : NotIf Tryd.prog 40 := ⟨_, Tryd.underlying40, rfl⟩
instance : ZT Tryd.prog 40 [Value.int IntKind.i64 0, Value.int IntKind.i64 0, Value.int IntKind.i64 0] := ⟨_, Tryd.zeroValue40, rfl⟩
instance : StT Tryd.prog 40 [(0, 1), (1, 1), (2, 1)] [Value.int IntKind.i64 0, Value.int IntKind.i64 0, Value.int IntKind.i64 0] := ⟨fld_of Tryd.underlying40 (by kernel_rfl), fun parts => by kernel_rfl, Tryd.sizeOf40, Tryd.isAgg40, Tryd.zeroValue40⟩
instance : ZV Tryd.prog 40 (Value.agg #[Value.int IntKind.i64 0, Value.int IntKind.i64 0, Value.int IntKind.i64 0]) := ⟨Tryd.zeroValue40⟩
instance : EqT Tryd.prog 40 [.i, .i, .i] := ⟨by kernel_rfl, by kernel_rfl, by kernel_rfl, by kernel_rfl⟩
instance : FldT Tryd.prog 40 [some 0, some 1, some 2] := fldT_of Tryd.underlying40 (by kernel_rfl)
instance : SlT Tryd.prog 41 3 1 := ⟨Tryd.underlying41, Tryd.sizeOf3⟩
instance : NotIf Tryd.prog 41 := ⟨_, Tryd.underlying41, rfl⟩
instance : ZT Tryd.prog 41 [Value.slice none 0 0] := ⟨_, Tryd.zeroValue41, rfl⟩
instance : NAgg Tryd.prog 41 := ⟨Tryd.isAgg41⟩
instance : OneT Tryd.prog 41 (Value.slice none 0 0) := ⟨Tryd.isAgg41, Tryd.sizeOf41, Tryd.zeroValue41⟩
instance : ZV Tryd.prog 41 (Value.slice none 0 0) := ⟨Tryd.zeroValue41⟩
instance : NotIf Tryd.prog 42 := ⟨_, Tryd.underlying42, rfl⟩
instance : ZT Tryd.prog 42 [Value.int IntKind.i64 0, Value.int IntKind.i64 0, Value.int IntKind.i64 0, Value.int IntKind.i64 0, Value.int IntKind.i64 0, Value.slice none 0 0, Value.string { data := #[] }] := ⟨_, Tryd.zeroValue42, rfl⟩
instance : StT Tryd.prog 42 [(0, 1), (1, 3), (4, 1), (5, 1), (6, 1)] [Value.int IntKind.i64 0, Value.int IntKind.i64 0, Value.int IntKind.i64 0, Value.int IntKind.i64 0, Value.int IntKind.i64 0, Value.slice none 0 0, Value.string { data := #[] }] := ⟨fld_of Tryd.underlying42 (by kernel_rfl), fun parts => by kernel_rfl, Tryd.sizeOf42, Tryd.isAgg42, Tryd.zeroValue42⟩
instance : ZV Tryd.prog 42 (Value.agg #[Value.int IntKind.i64 0, Value.int IntKind.i64 0, Value.int IntKind.i64 0, Value.int IntKind.i64 0, Value.int IntKind.i64 0, Value.slice none 0 0, Value.string { data := #[] }]) := ⟨Tryd.zeroValue42⟩
instance : FldT Tryd.prog 42 [some 0, none, some 4, some 5, some 6] := fldT_of Tryd.underlying42 (by kernel_rfl)
instance : NotIf Tryd.prog 43 := ⟨_, Tryd.underlying43, rfl⟩
instance : ZT Tryd.prog 43 [Value.int IntKind.i64 0, Value.int IntKind.i64 0, Value.int IntKind.i64 0, Value.int IntKind.i64 0, Value.int IntKind.i64 0, Value.slice none 0 0, Value.string { data := #[] }] := ⟨_, Tryd.zeroValue43, rfl⟩
instance : StT Tryd.prog 43 [(0, 1), (1, 3), (4, 1), (5, 1), (6, 1)] [Value.int IntKind.i64 0, Value.int IntKind.i64 0, Value.int IntKind.i64 0, Value.int IntKind.i64 0, Value.int IntKind.i64 0, Value.slice none 0 0, Value.string { data := #[] }] := ⟨fld_of Tryd.underlying43 (by kernel_rfl), fun parts => by kernel_rfl, Tryd.sizeOf43, Tryd.isAgg43, Tryd.zeroValue43⟩
instance : ZV Tryd.prog 43 (Value.agg #[Value.int IntKind.i64 0, Value.int IntKind.i64 0, Value.int IntKind.i64 0, Value.int IntKind.i64 0, Value.int IntKind.i64 0, Value.slice none 0 0, Value.string { data := #[] }]) := ⟨Tryd.zeroValue43⟩
instance : FldT Tryd.prog 43 [some 0, none, some 4, some 5, some 6] := fldT_of Tryd.underlying43 (by kernel_rfl)
instance : NotIf Tryd.prog 44 := ⟨_, Tryd.underlying44, rfl⟩
instance : ZT Tryd.prog 44 [Value.nilFunc] := ⟨_, Tryd.zeroValue44, rfl⟩
instance : NAgg Tryd.prog 44 := ⟨Tryd.isAgg44⟩
instance : OneT Tryd.prog 44 (Value.nilFunc) := ⟨Tryd.isAgg44, Tryd.sizeOf44, Tryd.zeroValue44⟩
instance : ZV Tryd.prog 44 (Value.nilFunc) := ⟨Tryd.zeroValue44⟩
instance : NotIf Tryd.prog 45 := ⟨_, Tryd.underlying45, rfl⟩
instance : ZT Tryd.prog 45 [Value.int IntKind.i64 0, Value.int IntKind.i64 0, Value.int IntKind.i64 0, Value.int IntKind.i64 0, Value.int IntKind.i64 0, Value.int IntKind.i64 0, Value.slice none 0 0, Value.string { data := #[] }] := ⟨_, Tryd.zeroValue45, rfl⟩
instance : StT Tryd.prog 45 [(0, 1), (1, 3), (4, 1), (5, 1), (6, 1), (7, 1)] [Value.int IntKind.i64 0, Value.int IntKind.i64 0, Value.int IntKind.i64 0, Value.int IntKind.i64 0, Value.int IntKind.i64 0, Value.int IntKind.i64 0, Value.slice none 0 0, Value.string { data := #[] }] := ⟨fld_of Tryd.underlying45 (by kernel_rfl), fun parts => by kernel_rfl, Tryd.sizeOf45, Tryd.isAgg45, Tryd.zeroValue45⟩
instance : ZV Tryd.prog 45 (Value.agg #[Value.int IntKind.i64 0, Value.int IntKind.i64 0, Value.int IntKind.i64 0, Value.int IntKind.i64 0, Value.int IntKind.i64 0, Value.int IntKind.i64 0, Value.slice none 0 0, Value.string { data := #[] }]) := ⟨Tryd.zeroValue45⟩
instance : FldT Tryd.prog 45 [some 0, none, some 4, some 5, some 6, some 7] := fldT_of Tryd.underlying45 (by kernel_rfl)
instance : NotIf Tryd.prog 46 := ⟨_, Tryd.underlying46, rfl⟩
instance : ZT Tryd.prog 46 [Value.int IntKind.i64 0, Value.int IntKind.i64 0, Value.int IntKind.i64 0, Value.int IntKind.i64 0, Value.int IntKind.i64 0, Value.int IntKind.i64 0, Value.slice none 0 0, Value.string { data := #[] }] := ⟨_, Tryd.zeroValue46, rfl⟩
instance : StT Tryd.prog 46 [(0, 1), (1, 3), (4, 1), (5, 1), (6, 1), (7, 1)] [Value.int IntKind.i64 0, Value.int IntKind.i64 0, Value.int IntKind.i64 0, Value.int IntKind.i64 0, Value.int IntKind.i64 0, Value.int IntKind.i64 0, Value.slice none 0 0, Value.string { data := #[] }] := ⟨fld_of Tryd.underlying46 (by kernel_rfl), fun parts => by kernel_rfl, Tryd.sizeOf46, Tryd.isAgg46, Tryd.zeroValue46⟩
instance : ZV Tryd.prog 46 (Value.agg #[Value.int IntKind.i64 0, Value.int IntKind.i64 0, Value.int IntKind.i64 0, Value.int IntKind.i64 0, Value.int IntKind.i64 0, Value.int IntKind.i64 0, Value.slice none 0 0, Value.string { data := #[] }]) := ⟨Tryd.zeroValue46⟩
instance : FldT Tryd.prog 46 [some 0, none, some 4, some 5, some 6, some 7] := fldT_of Tryd.underlying46 (by kernel_rfl)
instance : NotIf Tryd.prog 47 := ⟨_, Tryd.underlying47, rfl⟩
instance : ZT Tryd.prog 47 [Value.nilFunc] := ⟨_, Tryd.zeroValue47, rfl⟩
instance : NAgg Tryd.prog 47 := ⟨Tryd.isAgg47⟩
instance : OneT Tryd.prog 47 (Value.nilFunc) := ⟨Tryd.isAgg47, Tryd.sizeOf47, Tryd.zeroValue47⟩
instance : ZV Tryd.prog 47 (Value.nilFunc) := ⟨Tryd.zeroValue47⟩
instance : NotIf Tryd.prog 48 := ⟨_, Tryd.underlying48, rfl⟩
instance : ZT Tryd.prog 48 [Value.nilFunc] := ⟨_, Tryd.zeroValue48, rfl⟩
instance : NAgg Tryd.prog 48 := ⟨Tryd.isAgg48⟩
instance : OneT Tryd.prog 48 (Value.nilFunc) := ⟨Tryd.isAgg48, Tryd.sizeOf48, Tryd.zeroValue48⟩
instance : ZV Tryd.prog 48 (Value.nilFunc) := ⟨Tryd.zeroValue48⟩
instance : NotIf Tryd.prog 49 := ⟨_, Tryd.underlying49, rfl⟩
instance : ZT Tryd.prog 49 [Value.tuple #[Value.slice none 0 0, Value.nilIface]] := ⟨_, Tryd.zeroValue49, rfl⟩
instance : NAgg Tryd.prog 49 := ⟨Tryd.isAgg49⟩
instance : OneT Tryd.prog 49 (Value.tuple #[Value.slice none 0 0, Value.nilIface]) := ⟨Tryd.isAgg49, Tryd.sizeOf49, Tryd.zeroValue49⟩
instance : ZV Tryd.prog 49 (Value.tuple #[Value.slice none 0 0, Value.nilIface]) := ⟨Tryd.zeroValue49⟩
instance : NotIf Tryd.prog 50 := ⟨_, Tryd.underlying50, rfl⟩
instance : ZT Tryd.prog 50 [Value.nilFunc] := ⟨_, Tryd.zeroValue50, rfl⟩
instance : NAgg Tryd.prog 50 := ⟨Tryd.isAgg50⟩
instance : OneT Tryd.prog 50 (Value.nilFunc) := ⟨Tryd.isAgg50, Tryd.sizeOf50, Tryd.zeroValue50⟩
instance : ZV Tryd.prog 50 (Value.nilFunc) := ⟨Tryd.zeroValue50⟩
instance : NotIf Tryd.prog 51 := ⟨_, Tryd.underlying51, rfl⟩
instance : ZT Tryd.prog 51 [Value.nilFunc] := ⟨_, Tryd.zeroValue51, rfl⟩
instance : NAgg Tryd.prog 51 := ⟨Tryd.isAgg51⟩
instance : OneT Tryd.prog 51 (Value.nilFunc) := ⟨Tryd.isAgg51, Tryd.sizeOf51, Tryd.zeroValue51⟩
instance : ZV Tryd.prog 51 (Value.nilFunc) := ⟨Tryd.zeroValue51⟩
instance : SlT Tryd.prog 52 56 5 := ⟨Tryd.underlying52, Tryd.sizeOf56⟩
instance : NotIf Tryd.prog 52 := ⟨_, Tryd.underlying52, rfl⟩
instance : ZT Tryd.prog 52 [Value.slice none 0 0] := ⟨_, Tryd.zeroValue52, rfl⟩
instance : NAgg Tryd.prog 52 := ⟨Tryd.isAgg52⟩
instance : OneT Tryd.prog 52 (Value.slice none 0 0) := ⟨Tryd.isAgg52, Tryd.sizeOf52, Tryd.zeroValue52⟩
instance : ZV Tryd.prog 52 (Value.slice none 0 0) := ⟨Tryd.zeroValue52⟩
instance : NotIf Tryd.prog 53 := ⟨_, Tryd.underlying53, rfl⟩
instance : ZT Tryd.prog 53 [Value.tuple #[Value.slice none 0 0, Value.int IntKind.i64 0, Value.nilIface]] := ⟨_, Tryd.zeroValue53, rfl⟩
instance : NAgg Tryd.prog 53 := ⟨Tryd.isAgg53⟩
instance : OneT Tryd.prog 53 (Value.tuple #[Value.slice none 0 0, Value.int IntKind.i64 0, Value.nilIface]) := ⟨Tryd.isAgg53, Tryd.sizeOf53, Tryd.zeroValue53⟩
instance : ZV Tryd.prog 53 (Value.tuple #[Value.slice none 0 0, Value.int IntKind.i64 0, Value.nilIface]) := ⟨Tryd.zeroValue53⟩
instance : NotIf Tryd.prog 54 := ⟨_, Tryd.underlying54, rfl⟩
instance : ZT Tryd.prog 54 [Value.nilFunc] := ⟨_, Tryd.zeroValue54, rfl⟩
instance : NAgg Tryd.prog 54 := ⟨Tryd.isAgg54⟩
instance : OneT Tryd.prog 54 (Value.nilFunc) := ⟨Tryd.isAgg54, Tryd.sizeOf54, Tryd.zeroValue54⟩
instance : ZV Tryd.prog 54 (Value.nilFunc) := ⟨Tryd.zeroValue54⟩
instance : NotIf Tryd.prog 55 := ⟨_, Tryd.underlying55, rfl⟩
instance : ZT Tryd.prog 55 [Value.int IntKind.i64 0, Value.int IntKind.i64 0, Value.int IntKind.i64 0, Value.string { data := #[] }, Value.int IntKind.i64 0] := ⟨_, Tryd.zeroValue55, rfl⟩
instance : StT Tryd.prog 55 [(0, 1), (1, 1), (2, 1), (3, 1), (4, 1)] [Value.int IntKind.i64 0, Value.int IntKind.i64 0, Value.int IntKind.i64 0, Value.string { data := #[] }, Value.int IntKind.i64 0] := ⟨fld_of Tryd.underlying55 (by kernel_rfl), fun parts => by kernel_rfl, Tryd.sizeOf55, Tryd.isAgg55, Tryd.zeroValue55⟩
instance : ZV Tryd.prog 55 (Value.agg #[Value.int IntKind.i64 0, Value.int IntKind.i64 0, Value.int IntKind.i64 0, Value.string { data := #[] }, Value.int IntKind.i64 0]) := ⟨Tryd.zeroValue55⟩
instance : FldT Tryd.prog 55 [some 0, some 1, some 2, some 3, some 4] := fldT_of Tryd.underlying55 (by kernel_rfl)
instance : NotIf Tryd.prog 56 := ⟨_, Tryd.underlying56, rfl⟩
instance : ZT Tryd.prog 56 [Value.int IntKind.i64 0, Value.int IntKind.i64 0, Value.int IntKind.i64 0, Value.string { data := #[] }, Value.int IntKind.i64 0] := ⟨_, Tryd.zeroValue56, rfl⟩
instance : StT Tryd.prog 56 [(0, 1), (1, 1), (2, 1), (3, 1), (4, 1)] [Value.int IntKind.i64 0, Value.int IntKind.i64 0, Value.int IntKind.i64 0, Value.string { data := #[] }, Value.int IntKind.i64 0] := ⟨fld_of Tryd.underlying56 (by kernel_rfl), fun parts => by kernel_rfl, Tryd.sizeOf56, Tryd.isAgg56, Tryd.zeroValue56⟩
instance : ZV Tryd.prog 56 (Value.agg #[Value.int IntKind.i64 0, Value.int IntKind.i64 0, Value.int IntKind.i64 0, Value.string { data := #[] }, Value.int IntKind.i64 0]) := ⟨Tryd.zeroValue56⟩
instance : EqT Tryd.prog 56 [.i, .i, .i, .s, .i] := ⟨by kernel_rfl, by kernel_rfl, by kernel_rfl, by kernel_rfl⟩
instance : FldT Tryd.prog 56 [some 0, some 1, some 2, some 3, some 4] := fldT_of Tryd.underlying56 (by kernel_rfl)
instance : NotIf Tryd.prog 57 := ⟨_, Tryd.underlying57, rfl⟩
instance : ZT Tryd.prog 57 [Value.nilFunc] := ⟨_, Tryd.zeroValue57, rfl⟩
instance : NAgg Tryd.prog 57 := ⟨Tryd.isAgg57⟩
instance : OneT Tryd.prog 57 (Value.nilFunc) := ⟨Tryd.isAgg57, Tryd.sizeOf57, Tryd.zeroValue57⟩
instance : ZV Tryd.prog 57 (Value.nilFunc) := ⟨Tryd.zeroValue57⟩
instance : NotIf Tryd.prog 58 := ⟨_, Tryd.underlying58, rfl⟩
instance : ZT Tryd.prog 58 [Value.nilFunc] := ⟨_, Tryd.zeroValue58, rfl⟩
instance : NAgg Tryd.prog 58 := ⟨Tryd.isAgg58⟩
instance : OneT Tryd.prog 58 (Value.nilFunc) := ⟨Tryd.isAgg58, Tryd.sizeOf58, Tryd.zeroValue58⟩
instance : ZV Tryd.prog 58 (Value.nilFunc) := ⟨Tryd.zeroValue58⟩
instance : NotIf Tryd.prog 59 := ⟨_, Tryd.underlying59, rfl⟩
instance : ZT Tryd.prog 59 [Value.tuple #[Value.slice none 0 0, Value.nilIface]] := ⟨_, Tryd.zeroValue59, rfl⟩
instance : NAgg Tryd.prog 59 := ⟨Tryd.isAgg59⟩
instance : OneT Tryd.prog 59 (Value.tuple #[Value.slice none 0 0, Value.nilIface]) := ⟨Tryd.isAgg59, Tryd.sizeOf59, Tryd.zeroValue59⟩
instance : ZV Tryd.prog 59 (Value.tuple #[Value.slice none 0 0, Value.nilIface]) := ⟨Tryd.zeroValue59⟩
instance : NotIf Tryd.prog 60 := ⟨_, Tryd.underlying60, rfl⟩
instance : ZT Tryd.prog 60 [Value.nilFunc] := ⟨_, Tryd.zeroValue60, rfl⟩
instance : NAgg Tryd.prog 60 := ⟨Tryd.isAgg60⟩
instance : OneT Tryd.prog 60 (Value.nilFunc) := ⟨Tryd.isAgg60, Tryd.sizeOf60, Tryd.zeroValue60⟩
instance : ZV Tryd.prog 60 (Value.nilFunc) := ⟨Tryd.zeroValue60⟩
instance : NotIf Tryd.prog 61 := ⟨_, Tryd.underlying61, rfl⟩
instance : ZT Tryd.prog 61 [Value.nilFunc] := ⟨_, Tryd.zeroValue61, rfl⟩
instance : NAgg Tryd.prog 61 := ⟨Tryd.isAgg61⟩
instance : OneT Tryd.prog 61 (Value.nilFunc) := ⟨Tryd.isAgg61, Tryd.sizeOf61, Tryd.zeroValue61⟩
instance : ZV Tryd.prog 61 (Value.nilFunc) := ⟨Tryd.zeroValue61⟩
instance : NotIf Tryd.prog 62 := ⟨_, Tryd.underlying62, rfl⟩
instance : ZT Tryd.prog 62 [Value.nilFunc] := ⟨_, Tryd.zeroValue62, rfl⟩
instance : NAgg Tryd.prog 62 := ⟨Tryd.isAgg62⟩
instance : OneT Tryd.prog 62 (Value.nilFunc) := ⟨Tryd.isAgg62, Tryd.sizeOf62, Tryd.zeroValue62⟩
instance : ZV Tryd.prog 62 (Value.nilFunc) := ⟨Tryd.zeroValue62⟩
instance : NotIf Tryd.prog 63 := ⟨_, Tryd.underlying63, rfl⟩
instance : ZT Tryd.prog 63 [Value.pointer none] := ⟨_, Tryd.zeroValue63, rfl⟩
instance : NAgg Tryd.prog 63 := ⟨Tryd.isAgg63⟩
instance : OneT Tryd.prog 63 (Value.pointer none) := ⟨Tryd.isAgg63, Tryd.sizeOf63, Tryd.zeroValue63⟩
instance : ZV Tryd.prog 63 (Value.pointer none) := ⟨Tryd.zeroValue63⟩
instance : NotIf Tryd.prog 64 := ⟨_, Tryd.underlying64, rfl⟩
instance : ZT Tryd.prog 64 [Value.pointer none, Value.slice none 0 0] := ⟨_, Tryd.zeroValue64, rfl⟩
instance : StT Tryd.prog 64 [(0, 1), (1, 1)] [Value.pointer none, Value.slice none 0 0] := ⟨fld_of Tryd.underlying64 (by kernel_rfl), fun parts => by kernel_rfl, Tryd.sizeOf64, Tryd.isAgg64, Tryd.zeroValue64⟩
instance : ZV Tryd.prog 64 (Value.agg #[Value.pointer none, Value.slice none 0 0]) := ⟨Tryd.zeroValue64⟩
instance : FldT Tryd.prog 64 [some 0, some 1] := fldT_of Tryd.underlying64 (by kernel_rfl)
instance : NotIf Tryd.prog 65 := ⟨_, Tryd.underlying65, rfl⟩
instance : ZT Tryd.prog 65 [Value.pointer none, Value.slice none 0 0] := ⟨_, Tryd.zeroValue65, rfl⟩
instance : StT Tryd.prog 65 [(0, 1), (1, 1)] [Value.pointer none, Value.slice none 0 0] := ⟨fld_of Tryd.underlying65 (by kernel_rfl), fun parts => by kernel_rfl, Tryd.sizeOf65, Tryd.isAgg65, Tryd.zeroValue65⟩
instance : ZV Tryd.prog 65 (Value.agg #[Value.pointer none, Value.slice none 0 0]) := ⟨Tryd.zeroValue65⟩
instance : FldT Tryd.prog 65 [some 0, some 1] := fldT_of Tryd.underlying65 (by kernel_rfl)
instance : NotIf Tryd.prog 66 := ⟨_, Tryd.underlying66, rfl⟩
instance : ZT Tryd.prog 66 [Value.pointer none, Value.slice none 0 0] := ⟨_, Tryd.zeroValue66, rfl⟩
instance : StT Tryd.prog 66 [(0, 2)] [Value.pointer none, Value.slice none 0 0] := ⟨fld_of Tryd.underlying66 (by kernel_rfl), fun parts => by kernel_rfl, Tryd.sizeOf66, Tryd.isAgg66, Tryd.zeroValue66⟩
instance : ZV Tryd.prog 66 (Value.agg #[Value.pointer none, Value.slice none 0 0]) := ⟨Tryd.zeroValue66⟩
instance : FldT Tryd.prog 66 [none] := fldT_of Tryd.underlying66 (by kernel_rfl)
instance : NotIf Tryd.prog 67 := ⟨_, Tryd.underlying67, rfl⟩
instance : ZT Tryd.prog 67 [Value.pointer none, Value.slice none 0 0] := ⟨_, Tryd.zeroValue67, rfl⟩
instance : StT Tryd.prog 67 [(0, 2)] [Value.pointer none, Value.slice none 0 0] := ⟨fld_of Tryd.underlying67 (by kernel_rfl), fun parts => by kernel_rfl, Tryd.sizeOf67, Tryd.isAgg67, Tryd.zeroValue67⟩
instance : ZV Tryd.prog 67 (Value.agg #[Value.pointer none, Value.slice none 0 0]) := ⟨Tryd.zeroValue67⟩
instance : FldT Tryd.prog 67 [none] := fldT_of Tryd.underlying67 (by kernel_rfl)
instance : NotIf Tryd.prog 68 := ⟨_, Tryd.underlying68, rfl⟩
instance : ZT Tryd.prog 68 [Value.nilFunc] := ⟨_, Tryd.zeroValue68, rfl⟩
instance : NAgg Tryd.prog 68 := ⟨Tryd.isAgg68⟩
instance : OneT Tryd.prog 68 (Value.nilFunc) := ⟨Tryd.isAgg68, Tryd.sizeOf68, Tryd.zeroValue68⟩
instance : ZV Tryd.prog 68 (Value.nilFunc) := ⟨Tryd.zeroValue68⟩
instance : NotIf Tryd.prog 69 := ⟨_, Tryd.underlying69, rfl⟩
instance : IntT Tryd.prog 69 .u64 := ⟨Tryd.underlying69⟩
instance : ZT Tryd.prog 69 [Value.int IntKind.u64 0] := ⟨_, Tryd.zeroValue69, rfl⟩
instance : NAgg Tryd.prog 69 := ⟨Tryd.isAgg69⟩
instance : OneT Tryd.prog 69 (Value.int IntKind.u64 0) := ⟨Tryd.isAgg69, Tryd.sizeOf69, Tryd.zeroValue69⟩
instance : ZV Tryd.prog 69 (Value.int IntKind.u64 0) := ⟨Tryd.zeroValue69⟩
instance : NotIf Tryd.prog 70 := ⟨_, Tryd.underlying70, rfl⟩
instance : ZT Tryd.prog 70 [Value.bool false, Value.slice none 0 0, Value.slice none 0 0] := ⟨_, Tryd.zeroValue70, rfl⟩
instance : StT Tryd.prog 70 [(0, 1), (1, 1), (2, 1)] [Value.bool false, Value.slice none 0 0, Value.slice none 0 0] := ⟨fld_of Tryd.underlying70 (by kernel_rfl), fun parts => by kernel_rfl, Tryd.sizeOf70, Tryd.isAgg70, Tryd.zeroValue70⟩
instance : ZV Tryd.prog 70 (Value.agg #[Value.bool false, Value.slice none 0 0, Value.slice none 0 0]) := ⟨Tryd.zeroValue70⟩
instance : FldT Tryd.prog 70 [some 0, some 1, some 2] := fldT_of Tryd.underlying70 (by kernel_rfl)
instance : NotIf Tryd.prog 71 := ⟨_, Tryd.underlying71, rfl⟩
instance : ZT Tryd.prog 71 [Value.bool false, Value.slice none 0 0, Value.slice none 0 0] := ⟨_, Tryd.zeroValue71, rfl⟩
instance : StT Tryd.prog 71 [(0, 1), (1, 1), (2, 1)] [Value.bool false, Value.slice none 0 0, Value.slice none 0 0] := ⟨fld_of Tryd.underlying71 (by kernel_rfl), fun parts => by kernel_rfl, Tryd.sizeOf71, Tryd.isAgg71, Tryd.zeroValue71⟩
instance : ZV Tryd.prog 71 (Value.agg #[Value.bool false, Value.slice none 0 0, Value.slice none 0 0]) := ⟨Tryd.zeroValue71⟩
instance : FldT Tryd.prog 71 [some 0, some 1, some 2] := fldT_of Tryd.underlying71 (by kernel_rfl)
instance : NotIf Tryd.prog 72 := ⟨_, Tryd.underlying72, rfl⟩
instance : ZT Tryd.prog 72 [Value.string { data := #[] }, Value.bool false, Value.slice none 0 0, Value.slice none 0 0] := ⟨_, Tryd.zeroValue72, rfl⟩
instance : StT Tryd.prog 72 [(0, 1), (1, 3)] [Value.string { data := #[] }, Value.bool false, Value.slice none 0 0, Value.slice none 0 0] := ⟨fld_of Tryd.underlying72 (by kernel_rfl), fun parts => by kernel_rfl, Tryd.sizeOf72, Tryd.isAgg72, Tryd.zeroValue72⟩
instance : ZV Tryd.prog 72 (Value.agg #[Value.string { data := #[] }, Value.bool false, Value.slice none 0 0, Value.slice none 0 0]) := ⟨Tryd.zeroValue72⟩
instance : FldT Tryd.prog 72 [some 0, none] := fldT_of Tryd.underlying72 (by kernel_rfl)
instance : NotIf Tryd.prog 73 := ⟨_, Tryd.underlying73, rfl⟩
instance : ZT Tryd.prog 73 [Value.string { data := #[] }, Value.bool false, Value.slice none 0 0, Value.slice none 0 0] := ⟨_, Tryd.zeroValue73, rfl⟩
instance : StT Tryd.prog 73 [(0, 1), (1, 3)] [Value.string { data := #[] }, Value.bool false, Value.slice none 0 0, Value.slice none 0 0] := ⟨fld_of Tryd.underlying73 (by kernel_rfl), fun parts => by kernel_rfl, Tryd.sizeOf73, Tryd.isAgg73, Tryd.zeroValue73⟩
instance : ZV Tryd.prog 73 (Value.agg #[Value.string { data := #[] }, Value.bool false, Value.slice none 0 0, Value.slice none 0 0]) := ⟨Tryd.zeroValue73⟩
instance : FldT Tryd.prog 73 [some 0, none] := fldT_of Tryd.underlying73 (by kernel_rfl)
instance : NotIf Tryd.prog 74 := ⟨_, Tryd.underlying74, rfl⟩
instance : ZT Tryd.prog 74 [Value.tuple #[Value.int IntKind.i64 0, Value.nilIface]] := ⟨_, Tryd.zeroValue74, rfl⟩
instance : NAgg Tryd.prog 74 := ⟨Tryd.isAgg74⟩
instance : OneT Tryd.prog 74 (Value.tuple #[Value.int IntKind.i64 0, Value.nilIface]) := ⟨Tryd.isAgg74, Tryd.sizeOf74, Tryd.zeroValue74⟩
instance : ZV Tryd.prog 74 (Value.tuple #[Value.int IntKind.i64 0, Value.nilIface]) := ⟨Tryd.zeroValue74⟩
instance : NotIf Tryd.prog 75 := ⟨_, Tryd.underlying75, rfl⟩
instance : ZT Tryd.prog 75 [Value.nilFunc] := ⟨_, Tryd.zeroValue75, rfl⟩
instance : NAgg Tryd.prog 75 := ⟨Tryd.isAgg75⟩
instance : OneT Tryd.prog 75 (Value.nilFunc) := ⟨Tryd.isAgg75, Tryd.sizeOf75, Tryd.zeroValue75⟩
instance : ZV Tryd.prog 75 (Value.nilFunc) := ⟨Tryd.zeroValue75⟩
instance : NotIf Tryd.prog 76 := ⟨_, Tryd.underlying76, rfl⟩
instance : ZT Tryd.prog 76 [Value.nilFunc] := ⟨_, Tryd.zeroValue76, rfl⟩
instance : NAgg Tryd.prog 76 := ⟨Tryd.isAgg76⟩
instance : OneT Tryd.prog 76 (Value.nilFunc) := ⟨Tryd.isAgg76, Tryd.sizeOf76, Tryd.zeroValue76⟩
instance : ZV Tryd.prog 76 (Value.nilFunc) := ⟨Tryd.zeroValue76⟩
instance : NotIf Tryd.prog 77 := ⟨_, Tryd.underlying77, rfl⟩
instance : ZT Tryd.prog 77 [Value.nilFunc] := ⟨_, Tryd.zeroValue77, rfl⟩
instance : NAgg Tryd.prog 77 := ⟨Tryd.isAgg77⟩
instance : OneT Tryd.prog 77 (Value.nilFunc) := ⟨Tryd.isAgg77, Tryd.sizeOf77, Tryd.zeroValue77⟩
instance : ZV Tryd.prog 77 (Value.nilFunc) := ⟨Tryd.zeroValue77⟩
instance : NotIf Tryd.prog 78 := ⟨_, Tryd.underlying78, rfl⟩
instance : ZT Tryd.prog 78 [Value.nilFunc] := ⟨_, Tryd.zeroValue78, rfl⟩
instance : NAgg Tryd.prog 78 := ⟨Tryd.isAgg78⟩
instance : OneT Tryd.prog 78 (Value.nilFunc) := ⟨Tryd.isAgg78, Tryd.sizeOf78, Tryd.zeroValue78⟩
instance : ZV Tryd.prog 78 (Value.nilFunc) := ⟨Tryd.zeroValue78⟩
instance : NotIf Tryd.prog 79 := ⟨_, Tryd.underlying79, rfl⟩
instance : IntT Tryd.prog 79 .u64 := ⟨Tryd.underlying79⟩
instance : ZT Tryd.prog 79 [Value.int IntKind.u64 0] := ⟨_, Tryd.zeroValue79, rfl⟩
instance : NAgg Tryd.prog 79 := ⟨Tryd.isAgg79⟩
instance : OneT Tryd.prog 79 (Value.int IntKind.u64 0) := ⟨Tryd.isAgg79, Tryd.sizeOf79, Tryd.zeroValue79⟩
instance : ZV Tryd.prog 79 (Value.int IntKind.u64 0) := ⟨Tryd.zeroValue79⟩
instance : NotIf Tryd.prog 80 := ⟨_, Tryd.underlying80, rfl⟩
instance : StT Tryd.prog 80 [] [] := ⟨fld_of Tryd.underlying80 (by kernel_rfl), fun parts => by kernel_rfl, Tryd.sizeOf80, Tryd.isAgg80, Tryd.zeroValue80⟩
instance : ZV Tryd.prog 80 (Value.agg #[]) := ⟨Tryd.zeroValue80⟩
instance : NotIf Tryd.prog 81 := ⟨_, Tryd.underlying81, rfl⟩
instance : StT Tryd.prog 81 [] [] := ⟨fld_of Tryd.underlying81 (by kernel_rfl), fun parts => by kernel_rfl, Tryd.sizeOf81, Tryd.isAgg81, Tryd.zeroValue81⟩
instance : ZV Tryd.prog 81 (Value.agg #[]) := ⟨Tryd.zeroValue81⟩
instance : NotIf Tryd.prog 82 := ⟨_, Tryd.underlying82, rfl⟩
instance : ZT Tryd.prog 82 [Value.pointer none] := ⟨_, Tryd.zeroValue82, rfl⟩
instance : NAgg Tryd.prog 82 := ⟨Tryd.isAgg82⟩
instance : OneT Tryd.prog 82 (Value.pointer none) := ⟨Tryd.isAgg82, Tryd.sizeOf82, Tryd.zeroValue82⟩
instance : ZV Tryd.prog 82 (Value.pointer none) := ⟨Tryd.zeroValue82⟩
instance : NotIf Tryd.prog 83 := ⟨_, Tryd.underlying83, rfl⟩
instance : ZT Tryd.prog 83 [Value.string { data := #[] }, Value.int IntKind.i64 0] := ⟨_, Tryd.zeroValue83, rfl⟩
instance : StT Tryd.prog 83 [(0, 1), (1, 1)] [Value.string { data := #[] }, Value.int IntKind.i64 0] := ⟨fld_of Tryd.underlying83 (by kernel_rfl), fun parts => by kernel_rfl, Tryd.sizeOf83, Tryd.isAgg83, Tryd.zeroValue83⟩
instance : ZV Tryd.prog 83 (Value.agg #[Value.string { data := #[] }, Value.int IntKind.i64 0]) := ⟨Tryd.zeroValue83⟩
instance : FldT Tryd.prog 83 [some 0, some 1] := fldT_of Tryd.underlying83 (by kernel_rfl)
instance : NotIf Tryd.prog 84 := ⟨_, Tryd.underlying84, rfl⟩
instance : ZT Tryd.prog 84 [Value.string { data := #[] }, Value.int IntKind.i64 0] := ⟨_, Tryd.zeroValue84, rfl⟩
instance : StT Tryd.prog 84 [(0, 1), (1, 1)] [Value.string { data := #[] }, Value.int IntKind.i64 0] := ⟨fld_of Tryd.underlying84 (by kernel_rfl), fun parts => by kernel_rfl, Tryd.sizeOf84, Tryd.isAgg84, Tryd.zeroValue84⟩
instance : ZV Tryd.prog 84 (Value.agg #[Value.string { data := #[] }, Value.int IntKind.i64 0]) := ⟨Tryd.zeroValue84⟩
instance : EqT Tryd.prog 84 [.s, .i] := ⟨by kernel_rfl, by kernel_rfl, by kernel_rfl, by kernel_rfl⟩
instance : FldT Tryd.prog 84 [some 0, some 1] := fldT_of Tryd.underlying84 (by kernel_rfl)
instance : NotIf Tryd.prog 85 := ⟨_, Tryd.underlying85, rfl⟩
instance : ZT Tryd.prog 85 [Value.nilFunc] := ⟨_, Tryd.zeroValue85, rfl⟩
instance : NAgg Tryd.prog 85 := ⟨Tryd.isAgg85⟩
instance : OneT Tryd.prog 85 (Value.nilFunc) := ⟨Tryd.isAgg85, Tryd.sizeOf85, Tryd.zeroValue85⟩
instance : ZV Tryd.prog 85 (Value.nilFunc) := ⟨Tryd.zeroValue85⟩
instance : NotIf Tryd.prog 86 := ⟨_, Tryd.underlying86, rfl⟩
instance : ZT Tryd.prog 86 [Value.nilFunc] := ⟨_, Tryd.zeroValue86, rfl⟩
instance : NAgg Tryd.prog 86 := ⟨Tryd.isAgg86⟩
instance : OneT Tryd.prog 86 (Value.nilFunc) := ⟨Tryd.isAgg86, Tryd.sizeOf86, Tryd.zeroValue86⟩
instance : ZV Tryd.prog 86 (Value.nilFunc) := ⟨Tryd.zeroValue86⟩
instance : NotIf Tryd.prog 87 := ⟨_, Tryd.underlying87, rfl⟩
instance : ZT Tryd.prog 87 [Value.nilFunc] := ⟨_, Tryd.zeroValue87, rfl⟩
instance : NAgg Tryd.prog 87 := ⟨Tryd.isAgg87⟩
instance : OneT Tryd.prog 87 (Value.nilFunc) := ⟨Tryd.isAgg87, Tryd.sizeOf87, Tryd.zeroValue87⟩
instance : ZV Tryd.prog 87 (Value.nilFunc) := ⟨Tryd.zeroValue87⟩
instance : NotIf Tryd.prog 88 := ⟨_, Tryd.underlying88, rfl⟩
instance : ZT Tryd.prog 88 [Value.pointer none] := ⟨_, Tryd.zeroValue88, rfl⟩
instance : NAgg Tryd.prog 88 := ⟨Tryd.isAgg88⟩
instance : OneT Tryd.prog 88 (Value.pointer none) := ⟨Tryd.isAgg88, Tryd.sizeOf88, Tryd.zeroValue88⟩
instance : ZV Tryd.prog 88 (Value.pointer none) := ⟨Tryd.zeroValue88⟩
instance : SlT Tryd.prog 89 95 3 := ⟨Tryd.underlying89, Tryd.sizeOf95⟩
instance : NotIf Tryd.prog 89 := ⟨_, Tryd.underlying89, rfl⟩
instance : ZT Tryd.prog 89 [Value.slice none 0 0] := ⟨_, Tryd.zeroValue89, rfl⟩
instance : NAgg Tryd.prog 89 := ⟨Tryd.isAgg89⟩
instance : OneT Tryd.prog 89 (Value.slice none 0 0) := ⟨Tryd.isAgg89, Tryd.sizeOf89, Tryd.zeroValue89⟩
instance : ZV Tryd.prog 89 (Value.slice none 0 0) := ⟨Tryd.zeroValue89⟩
instance : NotIf Tryd.prog 90 := ⟨_, Tryd.underlying90, rfl⟩
instance : ZT Tryd.prog 90 [Value.slice none 0 0, Value.slice none 0 0, Value.slice none 0 0, Value.int IntKind.i64 0] := ⟨_, Tryd.zeroValue90, rfl⟩
instance : StT Tryd.prog 90 [(0, 1), (1, 1), (2, 1), (3, 1)] [Value.slice none 0 0, Value.slice none 0 0, Value.slice none 0 0, Value.int IntKind.i64 0] := ⟨fld_of Tryd.underlying90 (by kernel_rfl), fun parts => by kernel_rfl, Tryd.sizeOf90, Tryd.isAgg90, Tryd.zeroValue90⟩
instance : ZV Tryd.prog 90 (Value.agg #[Value.slice none 0 0, Value.slice none 0 0, Value.slice none 0 0, Value.int IntKind.i64 0]) := ⟨Tryd.zeroValue90⟩
instance : FldT Tryd.prog 90 [some 0, some 1, some 2, some 3] := fldT_of Tryd.underlying90 (by kernel_rfl)
instance : NotIf Tryd.prog 91 := ⟨_, Tryd.underlying91, rfl⟩
instance : ZT Tryd.prog 91 [Value.slice none 0 0, Value.slice none 0 0, Value.slice none 0 0, Value.int IntKind.i64 0] := ⟨_, Tryd.zeroValue91, rfl⟩
instance : StT Tryd.prog 91 [(0, 1), (1, 1), (2, 1), (3, 1)] [Value.slice none 0 0, Value.slice none 0 0, Value.slice none 0 0, Value.int IntKind.i64 0] := ⟨fld_of Tryd.underlying91 (by kernel_rfl), fun parts => by kernel_rfl, Tryd.sizeOf91, Tryd.isAgg91, Tryd.zeroValue91⟩
instance : ZV Tryd.prog 91 (Value.agg #[Value.slice none 0 0, Value.slice none 0 0, Value.slice none 0 0, Value.int IntKind.i64 0]) := ⟨Tryd.zeroValue91⟩
instance : FldT Tryd.prog 91 [some 0, some 1, some 2, some 3] := fldT_of Tryd.underlying91 (by kernel_rfl)
instance : NotIf Tryd.prog 92 := ⟨_, Tryd.underlying92, rfl⟩
instance : ZT Tryd.prog 92 [Value.nilFunc] := ⟨_, Tryd.zeroValue92, rfl⟩
instance : NAgg Tryd.prog 92 := ⟨Tryd.isAgg92⟩
instance : OneT Tryd.prog 92 (Value.nilFunc) := ⟨Tryd.isAgg92, Tryd.sizeOf92, Tryd.zeroValue92⟩
instance : ZV Tryd.prog 92 (Value.nilFunc) := ⟨Tryd.zeroValue92⟩
instance : NotIf Tryd.prog 93 := ⟨_, Tryd.underlying93, rfl⟩
instance : ZT Tryd.prog 93 [Value.nilFunc] := ⟨_, Tryd.zeroValue93, rfl⟩
instance : NAgg Tryd.prog 93 := ⟨Tryd.isAgg93⟩
instance : OneT Tryd.prog 93 (Value.nilFunc) := ⟨Tryd.isAgg93, Tryd.sizeOf93, Tryd.zeroValue93⟩
instance : ZV Tryd.prog 93 (Value.nilFunc) := ⟨Tryd.zeroValue93⟩
instance : NotIf Tryd.prog 94 := ⟨_, Tryd.underlying94, rfl⟩
instance : ZT Tryd.prog 94 [Value.int IntKind.i64 0, Value.int IntKind.i64 0, Value.int IntKind.i64 0] := ⟨_, Tryd.zeroValue94, rfl⟩
instance : StT Tryd.prog 94 [(0, 1), (1, 1), (2, 1)] [Value.int IntKind.i64 0, Value.int IntKind.i64 0, Value.int IntKind.i64 0] := ⟨fld_of Tryd.underlying94 (by kernel_rfl), fun parts => by kernel_rfl, Tryd.sizeOf94, Tryd.isAgg94, Tryd.zeroValue94⟩
instance : ZV Tryd.prog 94 (Value.agg #[Value.int IntKind.i64 0, Value.int IntKind.i64 0, Value.int IntKind.i64 0]) := ⟨Tryd.zeroValue94⟩
instance : FldT Tryd.prog 94 [some 0, some 1, some 2] := fldT_of Tryd.underlying94 (by kernel_rfl)
instance : NotIf Tryd.prog 95 := ⟨_, Tryd.underlying95, rfl⟩
instance : ZT Tryd.prog 95 [Value.int IntKind.i64 0, Value.int IntKind.i64 0, Value.int IntKind.i64 0] := ⟨_, Tryd.zeroValue95, rfl⟩
instance : StT Tryd.prog 95 [(0, 1), (1, 1), (2, 1)] [Value.int IntKind.i64 0, Value.int IntKind.i64 0, Value.int IntKind.i64 0] := ⟨fld_of Tryd.underlying95 (by kernel_rfl), fun parts => by kernel_rfl, Tryd.sizeOf95, Tryd.isAgg95, Tryd.zeroValue95⟩
instance : ZV Tryd.prog 95 (Value.agg #[Value.int IntKind.i64 0, Value.int IntKind.i64 0, Value.int IntKind.i64 0]) := ⟨Tryd.zeroValue95⟩
instance : EqT Tryd.prog 95 [.i, .i, .i] := ⟨by kernel_rfl, by kernel_rfl, by kernel_rfl, by kernel_rfl⟩
instance : FldT Tryd.prog 95 [some 0, some 1, some 2] := fldT_of Tryd.underlying95 (by kernel_rfl)
instance : NotIf Tryd.prog 96 := ⟨_, Tryd.underlying96, rfl⟩
instance : ZT Tryd.prog 96 [Value.nilFunc] := ⟨_, Tryd.zeroValue96, rfl⟩
instance : NAgg Tryd.prog 96 := ⟨Tryd.isAgg96⟩
instance : OneT Tryd.prog 96 (Value.nilFunc) := ⟨Tryd.isAgg96, Tryd.sizeOf96, Tryd.zeroValue96⟩
instance : ZV Tryd.prog 96 (Value.nilFunc) := ⟨Tryd.zeroValue96⟩
instance : NotIf Tryd.prog 97 := ⟨_, Tryd.underlying97, rfl⟩
instance : ZT Tryd.prog 97 [Value.nilFunc] := ⟨_, Tryd.zeroValue97, rfl⟩
instance : NAgg Tryd.prog 97 := ⟨Tryd.isAgg97⟩
instance : OneT Tryd.prog 97 (Value.nilFunc) := ⟨Tryd.isAgg97, Tryd.sizeOf97, Tryd.zeroValue97⟩
instance : ZV Tryd.prog 97 (Value.nilFunc) := ⟨Tryd.zeroValue97⟩
instance : NotIf Tryd.prog 98 := ⟨_, Tryd.underlying98, rfl⟩
instance : ZT Tryd.prog 98 [Value.pointer none] := ⟨_, Tryd.zeroValue98, rfl⟩
instance : NAgg Tryd.prog 98 := ⟨Tryd.isAgg98⟩
instance : OneT Tryd.prog 98 (Value.pointer none) := ⟨Tryd.isAgg98, Tryd.sizeOf98, Tryd.zeroValue98⟩
instance : ZV Tryd.prog 98 (Value.pointer none) := ⟨Tryd.zeroValue98⟩
instance : NotIf Tryd.prog 99 := ⟨_, Tryd.underlying99, rfl⟩
instance : ZT Tryd.prog 99 [Value.slice none 0 0, Value.slice none 0 0, Value.slice none 0 0] := ⟨_, Tryd.zeroValue99, rfl⟩
instance : StT Tryd.prog 99 [(0, 1), (1, 1), (2, 1)] [Value.slice none 0 0, Value.slice none 0 0, Value.slice none 0 0] := ⟨fld_of Tryd.underlying99 (by kernel_rfl), fun parts => by kernel_rfl, Tryd.sizeOf99, Tryd.isAgg99, Tryd.zeroValue99⟩
instance : ZV Tryd.prog 99 (Value.agg #[Value.slice none 0 0, Value.slice none 0 0, Value.slice none 0 0]) := ⟨Tryd.zeroValue99⟩
instance : FldT Tryd.prog 99 [some 0, some 1, some 2] := fldT_of Tryd.underlying99 (by kernel_rfl)
instance : NotIf Tryd.prog 100 := ⟨_, Tryd.underlying100, rfl⟩
instance : ZT Tryd.prog 100 [Value.slice none 0 0, Value.slice none 0 0, Value.slice none 0 0] := ⟨_, Tryd.zeroValue100, rfl⟩
instance : StT Tryd.prog 100 [(0, 1), (1, 1), (2, 1)] [Value.slice none 0 0, Value.slice none 0 0, Value.slice none 0 0] := ⟨fld_of Tryd.underlying100 (by kernel_rfl), fun parts => by kernel_rfl, Tryd.sizeOf100, Tryd.isAgg100, Tryd.zeroValue100⟩
instance : ZV Tryd.prog 100 (Value.agg #[Value.slice none 0 0, Value.slice none 0 0, Value.slice none 0 0]) := ⟨Tryd.zeroValue100⟩
instance : FldT Tryd.prog 100 [some 0, some 1, some 2] := fldT_of Tryd.underlying100 (by kernel_rfl)
instance : NotIf Tryd.prog 101 := ⟨_, Tryd.underlying101, rfl⟩
instance : ZT Tryd.prog 101 [Value.nilFunc] := ⟨_, Tryd.zeroValue101, rfl⟩
instance : NAgg Tryd.prog 101 := ⟨Tryd.isAgg101⟩
instance : OneT Tryd.prog 101 (Value.nilFunc) := ⟨Tryd.isAgg101, Tryd.sizeOf101, Tryd.zeroValue101⟩
instance : ZV Tryd.prog 101 (Value.nilFunc) := ⟨Tryd.zeroValue101⟩
instance : NotIf Tryd.prog 102 := ⟨_, Tryd.underlying102, rfl⟩
instance : ZT Tryd.prog 102 [Value.nilFunc] := ⟨_, Tryd.zeroValue102, rfl⟩
instance : NAgg Tryd.prog 102 := ⟨Tryd.isAgg102⟩
instance : OneT Tryd.prog 102 (Value.nilFunc) := ⟨Tryd.isAgg102, Tryd.sizeOf102, Tryd.zeroValue102⟩
instance : ZV Tryd.prog 102 (Value.nilFunc) := ⟨Tryd.zeroValue102⟩
instance : NotIf Tryd.prog 103 := ⟨_, Tryd.underlying103, rfl⟩
instance : ZT Tryd.prog 103 [Value.nilFunc] := ⟨_, Tryd.zeroValue103, rfl⟩
instance : NAgg Tryd.prog 103 := ⟨Tryd.isAgg103⟩
instance : OneT Tryd.prog 103 (Value.nilFunc) := ⟨Tryd.isAgg103, Tryd.sizeOf103, Tryd.zeroValue103⟩
instance : ZV Tryd.prog 103 (Value.nilFunc) := ⟨Tryd.zeroValue103⟩
instance : NotIf Tryd.prog 104 := ⟨_, Tryd.underlying104, rfl⟩
instance : IntT Tryd.prog 104 .i64 := ⟨Tryd.underlying104⟩
instance : ZT Tryd.prog 104 [Value.int IntKind.i64 0] := ⟨_, Tryd.zeroValue104, rfl⟩
instance : NAgg Tryd.prog 104 := ⟨Tryd.isAgg104⟩
instance : OneT Tryd.prog 104 (Value.int IntKind.i64 0) := ⟨Tryd.isAgg104, Tryd.sizeOf104, Tryd.zeroValue104⟩
instance : ZV Tryd.prog 104 (Value.int IntKind.i64 0) := ⟨Tryd.zeroValue104⟩
instance : NotIf Tryd.prog 105 := ⟨_, Tryd.underlying105, rfl⟩
instance : ZT Tryd.prog 105 [Value.pointer none] := ⟨_, Tryd.zeroValue105, rfl⟩
instance : NAgg Tryd.prog 105 := ⟨Tryd.isAgg105⟩
instance : OneT Tryd.prog 105 (Value.pointer none) := ⟨Tryd.isAgg105, Tryd.sizeOf105, Tryd.zeroValue105⟩
instance : ZV Tryd.prog 105 (Value.pointer none) := ⟨Tryd.zeroValue105⟩
instance : NotIf Tryd.prog 106 := ⟨_, Tryd.underlying106, rfl⟩
instance : ZT Tryd.prog 106 [Value.slice none 0 0, Value.int IntKind.i64 0, Value.int IntKind.i64 0] := ⟨_, Tryd.zeroValue106, rfl⟩
instance : StT Tryd.prog 106 [(0, 1), (1, 1), (2, 1)] [Value.slice none 0 0, Value.int IntKind.i64 0, Value.int IntKind.i64 0] := ⟨fld_of Tryd.underlying106 (by kernel_rfl), fun parts => by kernel_rfl, Tryd.sizeOf106, Tryd.isAgg106, Tryd.zeroValue106⟩
instance : ZV Tryd.prog 106 (Value.agg #[Value.slice none 0 0, Value.int IntKind.i64 0, Value.int IntKind.i64 0]) := ⟨Tryd.zeroValue106⟩
instance : FldT Tryd.prog 106 [some 0, some 1, some 2] := fldT_of Tryd.underlying106 (by kernel_rfl)
instance : NotIf Tryd.prog 107 := ⟨_, Tryd.underlying107, rfl⟩
instance : ZT Tryd.prog 107 [Value.slice none 0 0, Value.int IntKind.i64 0, Value.int IntKind.i64 0] := ⟨_, Tryd.zeroValue107, rfl⟩
instance : StT Tryd.prog 107 [(0, 1), (1, 1), (2, 1)] [Value.slice none 0 0, Value.int IntKind.i64 0, Value.int IntKind.i64 0] := ⟨fld_of Tryd.underlying107 (by kernel_rfl), fun parts => by kernel_rfl, Tryd.sizeOf107, Tryd.isAgg107, Tryd.zeroValue107⟩
instance : ZV Tryd.prog 107 (Value.agg #[Value.slice none 0 0, Value.int IntKind.i64 0, Value.int IntKind.i64 0]) := ⟨Tryd.zeroValue107⟩
instance : FldT Tryd.prog 107 [some 0, some 1, some 2] := fldT_of Tryd.underlying107 (by kernel_rfl)
instance : IfT Tryd.prog 108 := ⟨_, Tryd.underlying108⟩
instance : ZT Tryd.prog 108 [Value.nilIface] := ⟨_, Tryd.zeroValue108, rfl⟩
instance : NAgg Tryd.prog 108 := ⟨Tryd.isAgg108⟩
instance : OneT Tryd.prog 108 (Value.nilIface) := ⟨Tryd.isAgg108, Tryd.sizeOf108, Tryd.zeroValue108⟩
instance : ZV Tryd.prog 108 (Value.nilIface) := ⟨Tryd.zeroValue108⟩
instance : IfT Tryd.prog 109 := ⟨_, Tryd.underlying109⟩
instance : ZT Tryd.prog 109 [Value.nilIface] := ⟨_, Tryd.zeroValue109, rfl⟩
instance : NAgg Tryd.prog 109 := ⟨Tryd.isAgg109⟩
instance : OneT Tryd.prog 109 (Value.nilIface) := ⟨Tryd.isAgg109, Tryd.sizeOf109, Tryd.zeroValue109⟩
instance : ZV Tryd.prog 109 (Value.nilIface) := ⟨Tryd.zeroValue109⟩
instance : NotIf Tryd.prog 110 := ⟨_, Tryd.underlying110, rfl⟩
instance : ZT Tryd.prog 110 [Value.nilFunc] := ⟨_, Tryd.zeroValue110, rfl⟩
instance : NAgg Tryd.prog 110 := ⟨Tryd.isAgg110⟩
instance : OneT Tryd.prog 110 (Value.nilFunc) := ⟨Tryd.isAgg110, Tryd.sizeOf110, Tryd.zeroValue110⟩
instance : ZV Tryd.prog 110 (Value.nilFunc) := ⟨Tryd.zeroValue110⟩
instance : NotIf Tryd.prog 111 := ⟨_, Tryd.underlying111, rfl⟩
instance : ZT Tryd.prog 111 [Value.nilFunc] := ⟨_, Tryd.zeroValue111, rfl⟩
instance : NAgg Tryd.prog 111 := ⟨Tryd.isAgg111⟩
instance : OneT Tryd.prog 111 (Value.nilFunc) := ⟨Tryd.isAgg111, Tryd.sizeOf111, Tryd.zeroValue111⟩
instance : ZV Tryd.prog 111 (Value.nilFunc) := ⟨Tryd.zeroValue111⟩
instance : NotIf Tryd.prog 112 := ⟨_, Tryd.underlying112, rfl⟩
instance : ZT Tryd.prog 112 [Value.tuple #[Value.nilIface, Value.nilIface]] := ⟨_, Tryd.zeroValue112, rfl⟩
instance : NAgg Tryd.prog 112 := ⟨Tryd.isAgg112⟩
instance : OneT Tryd.prog 112 (Value.tuple #[Value.nilIface, Value.nilIface]) := ⟨Tryd.isAgg112, Tryd.sizeOf112, Tryd.zeroValue112⟩
instance : ZV Tryd.prog 112 (Value.tuple #[Value.nilIface, Value.nilIface]) := ⟨Tryd.zeroValue112⟩
instance : NotIf Tryd.prog 113 := ⟨_, Tryd.underlying113, rfl⟩
instance : ZT Tryd.prog 113 [Value.nilFunc] := ⟨_, Tryd.zeroValue113, rfl⟩
instance : NAgg Tryd.prog 113 := ⟨Tryd.isAgg113⟩
instance : OneT Tryd.prog 113 (Value.nilFunc) := ⟨Tryd.isAgg113, Tryd.sizeOf113, Tryd.zeroValue113⟩
instance : ZV Tryd.prog 113 (Value.nilFunc) := ⟨Tryd.zeroValue113⟩
instance : NotIf Tryd.prog 114 := ⟨_, Tryd.underlying114, rfl⟩
instance : ZT Tryd.prog 114 [Value.pointer none] := ⟨_, Tryd.zeroValue114, rfl⟩
instance : NAgg Tryd.prog 114 := ⟨Tryd.isAgg114⟩
instance : OneT Tryd.prog 114 (Value.pointer none) := ⟨Tryd.isAgg114, Tryd.sizeOf114, Tryd.zeroValue114⟩
instance : ZV Tryd.prog 114 (Value.pointer none) := ⟨Tryd.zeroValue114⟩
instance : NotIf Tryd.prog 115 := ⟨_, Tryd.underlying115, rfl⟩
instance : ZT Tryd.prog 115 [Value.slice none 0 0] := ⟨_, Tryd.zeroValue115, rfl⟩
instance : StT Tryd.prog 115 [(0, 1)] [Value.slice none 0 0] := ⟨fld_of Tryd.underlying115 (by kernel_rfl), fun parts => by kernel_rfl, Tryd.sizeOf115, Tryd.isAgg115, Tryd.zeroValue115⟩
instance : ZV Tryd.prog 115 (Value.agg #[Value.slice none 0 0]) := ⟨Tryd.zeroValue115⟩
instance : FldT Tryd.prog 115 [some 0] := fldT_of Tryd.underlying115 (by kernel_rfl)
instance : NotIf Tryd.prog 116 := ⟨_, Tryd.underlying116, rfl⟩
instance : ZT Tryd.prog 116 [Value.slice none 0 0] := ⟨_, Tryd.zeroValue116, rfl⟩
instance : StT Tryd.prog 116 [(0, 1)] [Value.slice none 0 0] := ⟨fld_of Tryd.underlying116 (by kernel_rfl), fun parts => by kernel_rfl, Tryd.sizeOf116, Tryd.isAgg116, Tryd.zeroValue116⟩
instance : ZV Tryd.prog 116 (Value.agg #[Value.slice none 0 0]) := ⟨Tryd.zeroValue116⟩
instance : FldT Tryd.prog 116 [some 0] := fldT_of Tryd.underlying116 (by kernel_rfl)
instance : NotIf Tryd.prog 117 := ⟨_, Tryd.underlying117, rfl⟩
instance : ZT Tryd.prog 117 [Value.nilFunc] := ⟨_, Tryd.zeroValue117, rfl⟩
instance : NAgg Tryd.prog 117 := ⟨Tryd.isAgg117⟩
instance : OneT Tryd.prog 117 (Value.nilFunc) := ⟨Tryd.isAgg117, Tryd.sizeOf117, Tryd.zeroValue117⟩
instance : ZV Tryd.prog 117 (Value.nilFunc) := ⟨Tryd.zeroValue117⟩
instance : NotIf Tryd.prog 118 := ⟨_, Tryd.underlying118, rfl⟩
instance : IntT Tryd.prog 118 .u32 := ⟨Tryd.underlying118⟩
instance : ZT Tryd.prog 118 [Value.int IntKind.u32 0] := ⟨_, Tryd.zeroValue118, rfl⟩
instance : NAgg Tryd.prog 118 := ⟨Tryd.isAgg118⟩
instance : OneT Tryd.prog 118 (Value.int IntKind.u32 0) := ⟨Tryd.isAgg118, Tryd.sizeOf118, Tryd.zeroValue118⟩
instance : ZV Tryd.prog 118 (Value.int IntKind.u32 0) := ⟨Tryd.zeroValue118⟩
instance : NotIf Tryd.prog 119 := ⟨_, Tryd.underlying119, rfl⟩
instance : ZT Tryd.prog 119 [Value.map none] := ⟨_, Tryd.zeroValue119, rfl⟩
instance : NAgg Tryd.prog 119 := ⟨Tryd.isAgg119⟩
instance : OneT Tryd.prog 119 (Value.map none) := ⟨Tryd.isAgg119, Tryd.sizeOf119, Tryd.zeroValue119⟩
instance : ZV Tryd.prog 119 (Value.map none) := ⟨Tryd.zeroValue119⟩
instance : NotIf Tryd.prog 120 := ⟨_, Tryd.underlying120, rfl⟩
instance : ZT Tryd.prog 120 [Value.tuple #[Value.int IntKind.i64 0, Value.bool false]] := ⟨_, Tryd.zeroValue120, rfl⟩
instance : NAgg Tryd.prog 120 := ⟨Tryd.isAgg120⟩
instance : OneT Tryd.prog 120 (Value.tuple #[Value.int IntKind.i64 0, Value.bool false]) := ⟨Tryd.isAgg120, Tryd.sizeOf120, Tryd.zeroValue120⟩
instance : ZV Tryd.prog 120 (Value.tuple #[Value.int IntKind.i64 0, Value.bool false]) := ⟨Tryd.zeroValue120⟩
instance : NotIf Tryd.prog 121 := ⟨_, Tryd.underlying121, rfl⟩
instance : ZT Tryd.prog 121 [Value.nilFunc] := ⟨_, Tryd.zeroValue121, rfl⟩
instance : NAgg Tryd.prog 121 := ⟨Tryd.isAgg121⟩
instance : OneT Tryd.prog 121 (Value.nilFunc) := ⟨Tryd.isAgg121, Tryd.sizeOf121, Tryd.zeroValue121⟩
instance : ZV Tryd.prog 121 (Value.nilFunc) := ⟨Tryd.zeroValue121⟩
instance : NotIf Tryd.prog 122 := ⟨_, Tryd.underlying122, rfl⟩
instance : ZT Tryd.prog 122 [Value.pointer none] := ⟨_, Tryd.zeroValue122, rfl⟩
instance : NAgg Tryd.prog 122 := ⟨Tryd.isAgg122⟩
instance : OneT Tryd.prog 122 (Value.pointer none) := ⟨Tryd.isAgg122, Tryd.sizeOf122, Tryd.zeroValue122⟩
instance : ZV Tryd.prog 122 (Value.pointer none) := ⟨Tryd.zeroValue122⟩
instance : NotIf Tryd.prog 123 := ⟨_, Tryd.underlying123, rfl⟩
instance : ZT Tryd.prog 123 [Value.pointer none] := ⟨_, Tryd.zeroValue123, rfl⟩
instance : NAgg Tryd.prog 123 := ⟨Tryd.isAgg123⟩
instance : OneT Tryd.prog 123 (Value.pointer none) := ⟨Tryd.isAgg123, Tryd.sizeOf123, Tryd.zeroValue123⟩
instance : ZV Tryd.prog 123 (Value.pointer none) := ⟨Tryd.zeroValue123⟩
instance : NotIf Tryd.prog 124 := ⟨_, Tryd.underlying124, rfl⟩
instance : ZT Tryd.prog 124 [Value.nilFunc] := ⟨_, Tryd.zeroValue124, rfl⟩
instance : NAgg Tryd.prog 124 := ⟨Tryd.isAgg124⟩
instance : OneT Tryd.prog 124 (Value.nilFunc) := ⟨Tryd.isAgg124, Tryd.sizeOf124, Tryd.zeroValue124⟩
instance : ZV Tryd.prog 124 (Value.nilFunc) := ⟨Tryd.zeroValue124⟩
instance : NotIf Tryd.prog 125 := ⟨_, Tryd.underlying125, rfl⟩
instance : ZT Tryd.prog 125 [Value.nilFunc] := ⟨_, Tryd.zeroValue125, rfl⟩
instance : NAgg Tryd.prog 125 := ⟨Tryd.isAgg125⟩
instance : OneT Tryd.prog 125 (Value.nilFunc) := ⟨Tryd.isAgg125, Tryd.sizeOf125, Tryd.zeroValue125⟩
instance : ZV Tryd.prog 125 (Value.nilFunc) := ⟨Tryd.zeroValue125⟩
instance : NotIf Tryd.prog 126 := ⟨_, Tryd.underlying126, rfl⟩
instance : ZT Tryd.prog 126 [Value.nilFunc] := ⟨_, Tryd.zeroValue126, rfl⟩
instance : NAgg Tryd.prog 126 := ⟨Tryd.isAgg126⟩
instance : OneT Tryd.prog 126 (Value.nilFunc) := ⟨Tryd.isAgg126, Tryd.sizeOf126, Tryd.zeroValue126⟩
instance : ZV Tryd.prog 126 (Value.nilFunc) := ⟨Tryd.zeroValue126⟩
instance : NotIf Tryd.prog 127 := ⟨_, Tryd.underlying127, rfl⟩
instance : ZT Tryd.prog 127 [Value.pointer none] := ⟨_, Tryd.zeroValue127, rfl⟩
instance : NAgg Tryd.prog 127 := ⟨Tryd.isAgg127⟩
instance : OneT Tryd.prog 127 (Value.pointer none) := ⟨Tryd.isAgg127, Tryd.sizeOf127, Tryd.zeroValue127⟩
instance : ZV Tryd.prog 127 (Value.pointer none) := ⟨Tryd.zeroValue127⟩
instance : NotIf Tryd.prog 128 := ⟨_, Tryd.underlying128, rfl⟩
instance : ZT Tryd.prog 128 [Value.nilFunc] := ⟨_, Tryd.zeroValue128, rfl⟩
instance : NAgg Tryd.prog 128 := ⟨Tryd.isAgg128⟩
instance : OneT Tryd.prog 128 (Value.nilFunc) := ⟨Tryd.isAgg128, Tryd.sizeOf128, Tryd.zeroValue128⟩
instance : ZV Tryd.prog 128 (Value.nilFunc) := ⟨Tryd.zeroValue128⟩
instance : NotIf Tryd.prog 129 := ⟨_, Tryd.underlying129, rfl⟩
instance : ZT Tryd.prog 129 [Value.nilFunc] := ⟨_, Tryd.zeroValue129, rfl⟩
instance : NAgg Tryd.prog 129 := ⟨Tryd.isAgg129⟩
instance : OneT Tryd.prog 129 (Value.nilFunc) := ⟨Tryd.isAgg129, Tryd.sizeOf129, Tryd.zeroValue129⟩
instance : ZV Tryd.prog 129 (Value.nilFunc) := ⟨Tryd.zeroValue129⟩
instance : NotIf Tryd.prog 130 := ⟨_, Tryd.underlying130, rfl⟩
instance : ZT Tryd.prog 130 [Value.nilFunc] := ⟨_, Tryd.zeroValue130, rfl⟩
instance : NAgg Tryd.prog 130 := ⟨Tryd.isAgg130⟩
instance : OneT Tryd.prog 130 (Value.nilFunc) := ⟨Tryd.isAgg130, Tryd.sizeOf130, Tryd.zeroValue130⟩
instance : ZV Tryd.prog 130 (Value.nilFunc) := ⟨Tryd.zeroValue130⟩
instance : NotIf Tryd.prog 131 := ⟨_, Tryd.underlying131, rfl⟩
instance : ZT Tryd.prog 131 [Value.nilFunc] := ⟨_, Tryd.zeroValue131, rfl⟩
instance : NAgg Tryd.prog 131 := ⟨Tryd.isAgg131⟩
instance : OneT Tryd.prog 131 (Value.nilFunc) := ⟨Tryd.isAgg131, Tryd.sizeOf131, Tryd.zeroValue131⟩
instance : ZV Tryd.prog 131 (Value.nilFunc) := ⟨Tryd.zeroValue131⟩
instance : NotIf Tryd.prog 132 := ⟨_, Tryd.underlying132, rfl⟩
instance : ZT Tryd.prog 132 [Value.nilFunc] := ⟨_, Tryd.zeroValue132, rfl⟩
instance : NAgg Tryd.prog 132 := ⟨Tryd.isAgg132⟩
instance : OneT Tryd.prog 132 (Value.nilFunc) := ⟨Tryd.isAgg132, Tryd.sizeOf132, Tryd.zeroValue132⟩
instance : ZV Tryd.prog 132 (Value.nilFunc) := ⟨Tryd.zeroValue132⟩
instance : NotIf Tryd.prog 133 := ⟨_, Tryd.underlying133, rfl⟩
instance : ZT Tryd.prog 133 [Value.nilFunc] := ⟨_, Tryd.zeroValue133, rfl⟩
instance : NAgg Tryd.prog 133 := ⟨Tryd.isAgg133⟩
instance : OneT Tryd.prog 133 (Value.nilFunc) := ⟨Tryd.isAgg133, Tryd.sizeOf133, Tryd.zeroValue133⟩
instance : ZV Tryd.prog 133 (Value.nilFunc) := ⟨Tryd.zeroValue133⟩
instance : NotIf Tryd.prog 134 := ⟨_, Tryd.underlying134, rfl⟩
instance : ZT Tryd.prog 134 [Value.int IntKind.i64 0, Value.int IntKind.i64 0] := ⟨_, Tryd.zeroValue134, rfl⟩
instance : StT Tryd.prog 134 [(0, 1), (1, 1)] [Value.int IntKind.i64 0, Value.int IntKind.i64 0] := ⟨fld_of Tryd.underlying134 (by kernel_rfl), fun parts => by kernel_rfl, Tryd.sizeOf134, Tryd.isAgg134, Tryd.zeroValue134⟩
instance : ZV Tryd.prog 134 (Value.agg #[Value.int IntKind.i64 0, Value.int IntKind.i64 0]) := ⟨Tryd.zeroValue134⟩
instance : FldT Tryd.prog 134 [some 0, some 1] := fldT_of Tryd.underlying134 (by kernel_rfl)
instance : NotIf Tryd.prog 135 := ⟨_, Tryd.underlying135, rfl⟩
instance : ZT Tryd.prog 135 [Value.int IntKind.i64 0, Value.int IntKind.i64 0] := ⟨_, Tryd.zeroValue135, rfl⟩
instance : StT Tryd.prog 135 [(0, 1), (1, 1)] [Value.int IntKind.i64 0, Value.int IntKind.i64 0] := ⟨fld_of Tryd.underlying135 (by kernel_rfl), fun parts => by kernel_rfl, Tryd.sizeOf135, Tryd.isAgg135, Tryd.zeroValue135⟩
instance : ZV Tryd.prog 135 (Value.agg #[Value.int IntKind.i64 0, Value.int IntKind.i64 0]) := ⟨Tryd.zeroValue135⟩
instance : EqT Tryd.prog 135 [.i, .i] := ⟨by kernel_rfl, by kernel_rfl, by kernel_rfl, by kernel_rfl⟩
instance : FldT Tryd.prog 135 [some 0, some 1] := fldT_of Tryd.underlying135 (by kernel_rfl)
instance : NotIf Tryd.prog 136 := ⟨_, Tryd.underlying136, rfl⟩
instance : ZT Tryd.prog 136 [Value.nilFunc] := ⟨_, Tryd.zeroValue136, rfl⟩
instance : NAgg Tryd.prog 136 := ⟨Tryd.isAgg136⟩
instance : OneT Tryd.prog 136 (Value.nilFunc) := ⟨Tryd.isAgg136, Tryd.sizeOf136, Tryd.zeroValue136⟩
instance : ZV Tryd.prog 136 (Value.nilFunc) := ⟨Tryd.zeroValue136⟩
instance : SlT Tryd.prog 137 9 1 := ⟨Tryd.underlying137, Tryd.sizeOf9⟩
instance : NotIf Tryd.prog 137 := ⟨_, Tryd.underlying137, rfl⟩
instance : ZT Tryd.prog 137 [Value.slice none 0 0] := ⟨_, Tryd.zeroValue137, rfl⟩
instance : NAgg Tryd.prog 137 := ⟨Tryd.isAgg137⟩
instance : OneT Tryd.prog 137 (Value.slice none 0 0) := ⟨Tryd.isAgg137, Tryd.sizeOf137, Tryd.zeroValue137⟩
instance : ZV Tryd.prog 137 (Value.slice none 0 0) := ⟨Tryd.zeroValue137⟩
instance : NotIf Tryd.prog 138 := ⟨_, Tryd.underlying138, rfl⟩
instance : ZT Tryd.prog 138 [Value.nilFunc] := ⟨_, Tryd.zeroValue138, rfl⟩
instance : NAgg Tryd.prog 138 := ⟨Tryd.isAgg138⟩
instance : OneT Tryd.prog 138 (Value.nilFunc) := ⟨Tryd.isAgg138, Tryd.sizeOf138, Tryd.zeroValue138⟩
instance : ZV Tryd.prog 138 (Value.nilFunc) := ⟨Tryd.zeroValue138⟩
instance : NotIf Tryd.prog 139 := ⟨_, Tryd.underlying139, rfl⟩
instance : ZT Tryd.prog 139 [Value.nilFunc] := ⟨_, Tryd.zeroValue139, rfl⟩
instance : NAgg Tryd.prog 139 := ⟨Tryd.isAgg139⟩
instance : OneT Tryd.prog 139 (Value.nilFunc) := ⟨Tryd.isAgg139, Tryd.sizeOf139, Tryd.zeroValue139⟩
instance : ZV Tryd.prog 139 (Value.nilFunc) := ⟨Tryd.zeroValue139⟩
instance : NotIf Tryd.prog 140 := ⟨_, Tryd.underlying140, rfl⟩
instance : ZT Tryd.prog 140 [Value.string { data := #[] }] := ⟨_, Tryd.zeroValue140, rfl⟩
instance : StT Tryd.prog 140 [(0, 1)] [Value.string { data := #[] }] := ⟨fld_of Tryd.underlying140 (by kernel_rfl), fun parts => by kernel_rfl, Tryd.sizeOf140, Tryd.isAgg140, Tryd.zeroValue140⟩
instance : ZV Tryd.prog 140 (Value.agg #[Value.string { data := #[] }]) := ⟨Tryd.zeroValue140⟩
instance : FldT Tryd.prog 140 [some 0] := fldT_of Tryd.underlying140 (by kernel_rfl)
instance : NotIf Tryd.prog 141 := ⟨_, Tryd.underlying141, rfl⟩
instance : ZT Tryd.prog 141 [Value.string { data := #[] }] := ⟨_, Tryd.zeroValue141, rfl⟩
instance : StT Tryd.prog 141 [(0, 1)] [Value.string { data := #[] }] := ⟨fld_of Tryd.underlying141 (by kernel_rfl), fun parts => by kernel_rfl, Tryd.sizeOf141, Tryd.isAgg141, Tryd.zeroValue141⟩
instance : ZV Tryd.prog 141 (Value.agg #[Value.string { data := #[] }]) := ⟨Tryd.zeroValue141⟩
instance : EqT Tryd.prog 141 [.s] := ⟨by kernel_rfl, by kernel_rfl, by kernel_rfl, by kernel_rfl⟩
instance : FldT Tryd.prog 141 [some 0] := fldT_of Tryd.underlying141 (by kernel_rfl)
instance : NotIf Tryd.prog 142 := ⟨_, Tryd.underlying142, rfl⟩
instance : ZT Tryd.prog 142 [Value.string { data := #[] }, Value.nilIface] := ⟨_, Tryd.zeroValue142, rfl⟩
instance : StT Tryd.prog 142 [(0, 1), (1, 1)] [Value.string { data := #[] }, Value.nilIface] := ⟨fld_of Tryd.underlying142 (by kernel_rfl), fun parts => by kernel_rfl, Tryd.sizeOf142, Tryd.isAgg142, Tryd.zeroValue142⟩
instance : ZV Tryd.prog 142 (Value.agg #[Value.string { data := #[] }, Value.nilIface]) := ⟨Tryd.zeroValue142⟩
instance : FldT Tryd.prog 142 [none, some 1] := fldT_of Tryd.underlying142 (by kernel_rfl)
instance : NotIf Tryd.prog 143 := ⟨_, Tryd.underlying143, rfl⟩
instance : ZT Tryd.prog 143 [Value.string { data := #[] }, Value.nilIface] := ⟨_, Tryd.zeroValue143, rfl⟩
instance : StT Tryd.prog 143 [(0, 1), (1, 1)] [Value.string { data := #[] }, Value.nilIface] := ⟨fld_of Tryd.underlying143 (by kernel_rfl), fun parts => by kernel_rfl, Tryd.sizeOf143, Tryd.isAgg143, Tryd.zeroValue143⟩
instance : ZV Tryd.prog 143 (Value.agg #[Value.string { data := #[] }, Value.nilIface]) := ⟨Tryd.zeroValue143⟩
instance : FldT Tryd.prog 143 [none, some 1] := fldT_of Tryd.underlying143 (by kernel_rfl)
instance : NotIf Tryd.prog 144 := ⟨_, Tryd.underlying144, rfl⟩
instance : ZT Tryd.prog 144 [Value.pointer none] := ⟨_, Tryd.zeroValue144, rfl⟩
instance : NAgg Tryd.prog 144 := ⟨Tryd.isAgg144⟩
instance : OneT Tryd.prog 144 (Value.pointer none) := ⟨Tryd.isAgg144, Tryd.sizeOf144, Tryd.zeroValue144⟩
instance : ZV Tryd.prog 144 (Value.pointer none) := ⟨Tryd.zeroValue144⟩
instance : NotIf Tryd.prog 145 := ⟨_, Tryd.underlying145, rfl⟩
instance : ZT Tryd.prog 145 [Value.slice none 0 0, Value.int IntKind.i64 0, Value.int IntKind.i64 0] := ⟨_, Tryd.zeroValue145, rfl⟩
instance : StT Tryd.prog 145 [(0, 1), (1, 1), (2, 1)] [Value.slice none 0 0, Value.int IntKind.i64 0, Value.int IntKind.i64 0] := ⟨fld_of Tryd.underlying145 (by kernel_rfl), fun parts => by kernel_rfl, Tryd.sizeOf145, Tryd.isAgg145, Tryd.zeroValue145⟩
instance : ZV Tryd.prog 145 (Value.agg #[Value.slice none 0 0, Value.int IntKind.i64 0, Value.int IntKind.i64 0]) := ⟨Tryd.zeroValue145⟩
instance : FldT Tryd.prog 145 [some 0, some 1, some 2] := fldT_of Tryd.underlying145 (by kernel_rfl)
instance : NotIf Tryd.prog 146 := ⟨_, Tryd.underlying146, rfl⟩
instance : ZT Tryd.prog 146 [Value.slice none 0 0, Value.int IntKind.i64 0, Value.int IntKind.i64 0] := ⟨_, Tryd.zeroValue146, rfl⟩
instance : StT Tryd.prog 146 [(0, 1), (1, 1), (2, 1)] [Value.slice none 0 0, Value.int IntKind.i64 0, Value.int IntKind.i64 0] := ⟨fld_of Tryd.underlying146 (by kernel_rfl), fun parts => by kernel_rfl, Tryd.sizeOf146, Tryd.isAgg146, Tryd.zeroValue146⟩
instance : ZV Tryd.prog 146 (Value.agg #[Value.slice none 0 0, Value.int IntKind.i64 0, Value.int IntKind.i64 0]) := ⟨Tryd.zeroValue146⟩
instance : FldT Tryd.prog 146 [some 0, some 1, some 2] := fldT_of Tryd.underlying146 (by kernel_rfl)
instance : NotIf Tryd.prog 147 := ⟨_, Tryd.underlying147, rfl⟩
instance : ZT Tryd.prog 147 [Value.nilFunc] := ⟨_, Tryd.zeroValue147, rfl⟩
instance : NAgg Tryd.prog 147 := ⟨Tryd.isAgg147⟩
instance : OneT Tryd.prog 147 (Value.nilFunc) := ⟨Tryd.isAgg147, Tryd.sizeOf147, Tryd.zeroValue147⟩
instance : ZV Tryd.prog 147 (Value.nilFunc) := ⟨Tryd.zeroValue147⟩
instance : NotIf Tryd.prog 148 := ⟨_, Tryd.underlying148, rfl⟩
instance : ZT Tryd.prog 148 [Value.slice none 0 0] := ⟨_, Tryd.zeroValue148, rfl⟩
instance : StT Tryd.prog 148 [(0, 1)] [Value.slice none 0 0] := ⟨fld_of Tryd.underlying148 (by kernel_rfl), fun parts => by kernel_rfl, Tryd.sizeOf148, Tryd.isAgg148, Tryd.zeroValue148⟩
instance : ZV Tryd.prog 148 (Value.agg #[Value.slice none 0 0]) := ⟨Tryd.zeroValue148⟩
instance : FldT Tryd.prog 148 [some 0] := fldT_of Tryd.underlying148 (by kernel_rfl)
instance : NotIf Tryd.prog 149 := ⟨_, Tryd.underlying149, rfl⟩
instance : ZT Tryd.prog 149 [Value.slice none 0 0] := ⟨_, Tryd.zeroValue149, rfl⟩
instance : StT Tryd.prog 149 [(0, 1)] [Value.slice none 0 0] := ⟨fld_of Tryd.underlying149 (by kernel_rfl), fun parts => by kernel_rfl, Tryd.sizeOf149, Tryd.isAgg149, Tryd.zeroValue149⟩
instance : ZV Tryd.prog 149 (Value.agg #[Value.slice none 0 0]) := ⟨Tryd.zeroValue149⟩
instance : FldT Tryd.prog 149 [some 0] := fldT_of Tryd.underlying149 (by kernel_rfl)
instance : NotIf Tryd.prog 150 := ⟨_, Tryd.underlying150, rfl⟩
instance : ZT Tryd.prog 150 [Value.string { data := #[] }] := ⟨_, Tryd.zeroValue150, rfl⟩
instance : StT Tryd.prog 150 [(0, 1)] [Value.string { data := #[] }] := ⟨fld_of Tryd.underlying150 (by kernel_rfl), fun parts => by kernel_rfl, Tryd.sizeOf150, Tryd.isAgg150, Tryd.zeroValue150⟩
instance : ZV Tryd.prog 150 (Value.agg #[Value.string { data := #[] }]) := ⟨Tryd.zeroValue150⟩
instance : EqT Tryd.prog 150 [.s] := ⟨by kernel_rfl, by kernel_rfl, by kernel_rfl, by kernel_rfl⟩
instance : FldT Tryd.prog 150 [some 0] := fldT_of Tryd.underlying150 (by kernel_rfl)
instance : NotIf Tryd.prog 151 := ⟨_, Tryd.underlying151, rfl⟩
instance : ZT Tryd.prog 151 [Value.int IntKind.i64 0] := ⟨_, Tryd.zeroValue151, rfl⟩
instance : StT Tryd.prog 151 [(0, 1)] [Value.int IntKind.i64 0] := ⟨fld_of Tryd.underlying151 (by kernel_rfl), fun parts => by kernel_rfl, Tryd.sizeOf151, Tryd.isAgg151, Tryd.zeroValue151⟩
instance : ZV Tryd.prog 151 (Value.agg #[Value.int IntKind.i64 0]) := ⟨Tryd.zeroValue151⟩
instance : FldT Tryd.prog 151 [some 0] := fldT_of Tryd.underlying151 (by kernel_rfl)
instance : NotIf Tryd.prog 152 := ⟨_, Tryd.underlying152, rfl⟩
instance : ZT Tryd.prog 152 [Value.int IntKind.i64 0] := ⟨_, Tryd.zeroValue152, rfl⟩
instance : StT Tryd.prog 152 [(0, 1)] [Value.int IntKind.i64 0] := ⟨fld_of Tryd.underlying152 (by kernel_rfl), fun parts => by kernel_rfl, Tryd.sizeOf152, Tryd.isAgg152, Tryd.zeroValue152⟩
instance : ZV Tryd.prog 152 (Value.agg #[Value.int IntKind.i64 0]) := ⟨Tryd.zeroValue152⟩
instance : EqT Tryd.prog 152 [.i] := ⟨by kernel_rfl, by kernel_rfl, by kernel_rfl, by kernel_rfl⟩
instance : FldT Tryd.prog 152 [some 0] := fldT_of Tryd.underlying152 (by kernel_rfl)
instance : NotIf Tryd.prog 153 := ⟨_, Tryd.underlying153, rfl⟩
instance : ZT Tryd.prog 153 [Value.nilFunc] := ⟨_, Tryd.zeroValue153, rfl⟩
instance : NAgg Tryd.prog 153 := ⟨Tryd.isAgg153⟩
instance : OneT Tryd.prog 153 (Value.nilFunc) := ⟨Tryd.isAgg153, Tryd.sizeOf153, Tryd.zeroValue153⟩
instance : ZV Tryd.prog 153 (Value.nilFunc) := ⟨Tryd.zeroValue153⟩
instance : SlT Tryd.prog 154 109 1 := ⟨Tryd.underlying154, Tryd.sizeOf109⟩
instance : NotIf Tryd.prog 154 := ⟨_, Tryd.underlying154, rfl⟩
instance : ZT Tryd.prog 154 [Value.slice none 0 0] := ⟨_, Tryd.zeroValue154, rfl⟩
instance : NAgg Tryd.prog 154 := ⟨Tryd.isAgg154⟩
instance : OneT Tryd.prog 154 (Value.slice none 0 0) := ⟨Tryd.isAgg154, Tryd.sizeOf154, Tryd.zeroValue154⟩
instance : ZV Tryd.prog 154 (Value.slice none 0 0) := ⟨Tryd.zeroValue154⟩
instance : NotIf Tryd.prog 155 := ⟨_, Tryd.underlying155, rfl⟩
instance : ZT Tryd.prog 155 [Value.int IntKind.i64 0, Value.int IntKind.i64 0, Value.int IntKind.i64 0, Value.int IntKind.i64 0, Value.slice none 0 0] := ⟨_, Tryd.zeroValue155, rfl⟩
instance : StT Tryd.prog 155 [(0, 3), (3, 1), (4, 1)] [Value.int IntKind.i64 0, Value.int IntKind.i64 0, Value.int IntKind.i64 0, Value.int IntKind.i64 0, Value.slice none 0 0] := ⟨fld_of Tryd.underlying155 (by kernel_rfl), fun parts => by kernel_rfl, Tryd.sizeOf155, Tryd.isAgg155, Tryd.zeroValue155⟩
instance : ZV Tryd.prog 155 (Value.agg #[Value.int IntKind.i64 0, Value.int IntKind.i64 0, Value.int IntKind.i64 0, Value.int IntKind.i64 0, Value.slice none 0 0]) := ⟨Tryd.zeroValue155⟩
instance : FldT Tryd.prog 155 [none, some 3, some 4] := fldT_of Tryd.underlying155 (by kernel_rfl)
instance : NotIf Tryd.prog 156 := ⟨_, Tryd.underlying156, rfl⟩
instance : ZT Tryd.prog 156 [Value.int IntKind.i64 0, Value.int IntKind.i64 0, Value.int IntKind.i64 0, Value.int IntKind.i64 0, Value.slice none 0 0] := ⟨_, Tryd.zeroValue156, rfl⟩
instance : StT Tryd.prog 156 [(0, 3), (3, 1), (4, 1)] [Value.int IntKind.i64 0, Value.int IntKind.i64 0, Value.int IntKind.i64 0, Value.int IntKind.i64 0, Value.slice none 0 0] := ⟨fld_of Tryd.underlying156 (by kernel_rfl), fun parts => by kernel_rfl, Tryd.sizeOf156, Tryd.isAgg156, Tryd.zeroValue156⟩
instance : ZV Tryd.prog 156 (Value.agg #[Value.int IntKind.i64 0, Value.int IntKind.i64 0, Value.int IntKind.i64 0, Value.int IntKind.i64 0, Value.slice none 0 0]) := ⟨Tryd.zeroValue156⟩
instance : FldT Tryd.prog 156 [none, some 3, some 4] := fldT_of Tryd.underlying156 (by kernel_rfl)
instance : NotIf Tryd.prog 157 := ⟨_, Tryd.underlying157, rfl⟩
instance : ZT Tryd.prog 157 [Value.int IntKind.i64 0, Value.int IntKind.i64 0, Value.int IntKind.i64 0, Value.int IntKind.i64 0, Value.slice none 0 0, Value.nilIface] := ⟨_, Tryd.zeroValue157, rfl⟩
instance : StT Tryd.prog 157 [(0, 5), (5, 1)] [Value.int IntKind.i64 0, Value.int IntKind.i64 0, Value.int IntKind.i64 0, Value.int IntKind.i64 0, Value.slice none 0 0, Value.nilIface] := ⟨fld_of Tryd.underlying157 (by kernel_rfl), fun parts => by kernel_rfl, Tryd.sizeOf157, Tryd.isAgg157, Tryd.zeroValue157⟩
instance : ZV Tryd.prog 157 (Value.agg #[Value.int IntKind.i64 0, Value.int IntKind.i64 0, Value.int IntKind.i64 0, Value.int IntKind.i64 0, Value.slice none 0 0, Value.nilIface]) := ⟨Tryd.zeroValue157⟩
instance : FldT Tryd.prog 157 [none, some 5] := fldT_of Tryd.underlying157 (by kernel_rfl)
instance : NotIf Tryd.prog 158 := ⟨_, Tryd.underlying158, rfl⟩
instance : ZT Tryd.prog 158 [Value.int IntKind.i64 0, Value.int IntKind.i64 0, Value.int IntKind.i64 0, Value.int IntKind.i64 0, Value.slice none 0 0, Value.nilIface] := ⟨_, Tryd.zeroValue158, rfl⟩
instance : StT Tryd.prog 158 [(0, 5), (5, 1)] [Value.int IntKind.i64 0, Value.int IntKind.i64 0, Value.int IntKind.i64 0, Value.int IntKind.i64 0, Value.slice none 0 0, Value.nilIface] := ⟨fld_of Tryd.underlying158 (by kernel_rfl), fun parts => by kernel_rfl, Tryd.sizeOf158, Tryd.isAgg158, Tryd.zeroValue158⟩
instance : ZV Tryd.prog 158 (Value.agg #[Value.int IntKind.i64 0, Value.int IntKind.i64 0, Value.int IntKind.i64 0, Value.int IntKind.i64 0, Value.slice none 0 0, Value.nilIface]) := ⟨Tryd.zeroValue158⟩
instance : FldT Tryd.prog 158 [none, some 5] := fldT_of Tryd.underlying158 (by kernel_rfl)
instance : NotIf Tryd.prog 159 := ⟨_, Tryd.underlying159, rfl⟩
instance : ZT Tryd.prog 159 [Value.nilFunc] := ⟨_, Tryd.zeroValue159, rfl⟩
instance : NAgg Tryd.prog 159 := ⟨Tryd.isAgg159⟩
instance : OneT Tryd.prog 159 (Value.nilFunc) := ⟨Tryd.isAgg159, Tryd.sizeOf159, Tryd.zeroValue159⟩
instance : ZV Tryd.prog 159 (Value.nilFunc) := ⟨Tryd.zeroValue159⟩
instance : NotIf Tryd.prog 160 := ⟨_, Tryd.underlying160, rfl⟩
instance : ZT Tryd.prog 160 [Value.nilFunc] := ⟨_, Tryd.zeroValue160, rfl⟩
instance : NAgg Tryd.prog 160 := ⟨Tryd.isAgg160⟩
instance : OneT Tryd.prog 160 (Value.nilFunc) := ⟨Tryd.isAgg160, Tryd.sizeOf160, Tryd.zeroValue160⟩
instance : ZV Tryd.prog 160 (Value.nilFunc) := ⟨Tryd.zeroValue160⟩
instance : NotIf Tryd.prog 161 := ⟨_, Tryd.underlying161, rfl⟩
instance : ZT Tryd.prog 161 [Value.nilFunc] := ⟨_, Tryd.zeroValue161, rfl⟩
instance : NAgg Tryd.prog 161 := ⟨Tryd.isAgg161⟩
instance : OneT Tryd.prog 161 (Value.nilFunc) := ⟨Tryd.isAgg161, Tryd.sizeOf161, Tryd.zeroValue161⟩
instance : ZV Tryd.prog 161 (Value.nilFunc) := ⟨Tryd.zeroValue161⟩
instance : NotIf Tryd.prog 162 := ⟨_, Tryd.underlying162, rfl⟩
instance : ZT Tryd.prog 162 [Value.nilIface, Value.int IntKind.i64 0, Value.int IntKind.i64 0, Value.int IntKind.i64 0, Value.int IntKind.i64 0, Value.slice none 0 0, Value.nilIface] := ⟨_, Tryd.zeroValue162, rfl⟩
instance : StT Tryd.prog 162 [(0, 1), (1, 5), (6, 1)] [Value.nilIface, Value.int IntKind.i64 0, Value.int IntKind.i64 0, Value.int IntKind.i64 0, Value.int IntKind.i64 0, Value.slice none 0 0, Value.nilIface] := ⟨fld_of Tryd.underlying162 (by kernel_rfl), fun parts => by kernel_rfl, Tryd.sizeOf162, Tryd.isAgg162, Tryd.zeroValue162⟩
instance : ZV Tryd.prog 162 (Value.agg #[Value.nilIface, Value.int IntKind.i64 0, Value.int IntKind.i64 0, Value.int IntKind.i64 0, Value.int IntKind.i64 0, Value.slice none 0 0, Value.nilIface]) := ⟨Tryd.zeroValue162⟩
instance : FldT Tryd.prog 162 [some 0, none, some 6] := fldT_of Tryd.underlying162 (by kernel_rfl)
instance : NotIf Tryd.prog 163 := ⟨_, Tryd.underlying163, rfl⟩
instance : ZT Tryd.prog 163 [Value.nilIface, Value.int IntKind.i64 0, Value.int IntKind.i64 0, Value.int IntKind.i64 0, Value.int IntKind.i64 0, Value.slice none 0 0, Value.nilIface] := ⟨_, Tryd.zeroValue163, rfl⟩
instance : StT Tryd.prog 163 [(0, 1), (1, 5), (6, 1)] [Value.nilIface, Value.int IntKind.i64 0, Value.int IntKind.i64 0, Value.int IntKind.i64 0, Value.int IntKind.i64 0, Value.slice none 0 0, Value.nilIface] := ⟨fld_of Tryd.underlying163 (by kernel_rfl), fun parts => by kernel_rfl, Tryd.sizeOf163, Tryd.isAgg163, Tryd.zeroValue163⟩
instance : ZV Tryd.prog 163 (Value.agg #[Value.nilIface, Value.int IntKind.i64 0, Value.int IntKind.i64 0, Value.int IntKind.i64 0, Value.int IntKind.i64 0, Value.slice none 0 0, Value.nilIface]) := ⟨Tryd.zeroValue163⟩
instance : FldT Tryd.prog 163 [some 0, none, some 6] := fldT_of Tryd.underlying163 (by kernel_rfl)
instance : NotIf Tryd.prog 164 := ⟨_, Tryd.underlying164, rfl⟩
instance : ZT Tryd.prog 164 [Value.nilIface, Value.slice none 0 0] := ⟨_, Tryd.zeroValue164, rfl⟩
instance : StT Tryd.prog 164 [(0, 1), (1, 1)] [Value.nilIface, Value.slice none 0 0] := ⟨fld_of Tryd.underlying164 (by kernel_rfl), fun parts => by kernel_rfl, Tryd.sizeOf164, Tryd.isAgg164, Tryd.zeroValue164⟩
instance : ZV Tryd.prog 164 (Value.agg #[Value.nilIface, Value.slice none 0 0]) := ⟨Tryd.zeroValue164⟩
instance : FldT Tryd.prog 164 [some 0, some 1] := fldT_of Tryd.underlying164 (by kernel_rfl)
instance : NotIf Tryd.prog 165 := ⟨_, Tryd.underlying165, rfl⟩
instance : ZT Tryd.prog 165 [Value.nilIface, Value.slice none 0 0] := ⟨_, Tryd.zeroValue165, rfl⟩
instance : StT Tryd.prog 165 [(0, 1), (1, 1)] [Value.nilIface, Value.slice none 0 0] := ⟨fld_of Tryd.underlying165 (by kernel_rfl), fun parts => by kernel_rfl, Tryd.sizeOf165, Tryd.isAgg165, Tryd.zeroValue165⟩
instance : ZV Tryd.prog 165 (Value.agg #[Value.nilIface, Value.slice none 0 0]) := ⟨Tryd.zeroValue165⟩
instance : FldT Tryd.prog 165 [some 0, some 1] := fldT_of Tryd.underlying165 (by kernel_rfl)
instance : NotIf Tryd.prog 166 := ⟨_, Tryd.underlying166, rfl⟩
instance : ZT Tryd.prog 166 [Value.nilFunc] := ⟨_, Tryd.zeroValue166, rfl⟩
instance : NAgg Tryd.prog 166 := ⟨Tryd.isAgg166⟩
instance : OneT Tryd.prog 166 (Value.nilFunc) := ⟨Tryd.isAgg166, Tryd.sizeOf166, Tryd.zeroValue166⟩
instance : ZV Tryd.prog 166 (Value.nilFunc) := ⟨Tryd.zeroValue166⟩
instance : NotIf Tryd.prog 167 := ⟨_, Tryd.underlying167, rfl⟩
instance : ZT Tryd.prog 167 [Value.pointer none] := ⟨_, Tryd.zeroValue167, rfl⟩
instance : NAgg Tryd.prog 167 := ⟨Tryd.isAgg167⟩
instance : OneT Tryd.prog 167 (Value.pointer none) := ⟨Tryd.isAgg167, Tryd.sizeOf167, Tryd.zeroValue167⟩
instance : ZV Tryd.prog 167 (Value.pointer none) := ⟨Tryd.zeroValue167⟩
instance : NotIf Tryd.prog 168 := ⟨_, Tryd.underlying168, rfl⟩
instance : ZT Tryd.prog 168 [Value.nilFunc] := ⟨_, Tryd.zeroValue168, rfl⟩
instance : NAgg Tryd.prog 168 := ⟨Tryd.isAgg168⟩
instance : OneT Tryd.prog 168 (Value.nilFunc) := ⟨Tryd.isAgg168, Tryd.sizeOf168, Tryd.zeroValue168⟩
instance : ZV Tryd.prog 168 (Value.nilFunc) := ⟨Tryd.zeroValue168⟩
instance : NotIf Tryd.prog 169 := ⟨_, Tryd.underlying169, rfl⟩
instance : ZT Tryd.prog 169 [Value.nilFunc] := ⟨_, Tryd.zeroValue169, rfl⟩
instance : NAgg Tryd.prog 169 := ⟨Tryd.isAgg169⟩
instance : OneT Tryd.prog 169 (Value.nilFunc) := ⟨Tryd.isAgg169, Tryd.sizeOf169, Tryd.zeroValue169⟩
instance : ZV Tryd.prog 169 (Value.nilFunc) := ⟨Tryd.zeroValue169⟩
instance : NotIf Tryd.prog 170 := ⟨_, Tryd.underlying170, rfl⟩
instance : ZT Tryd.prog 170 [Value.nilFunc] := ⟨_, Tryd.zeroValue170, rfl⟩
instance : NAgg Tryd.prog 170 := ⟨Tryd.isAgg170⟩
instance : OneT Tryd.prog 170 (Value.nilFunc) := ⟨Tryd.isAgg170, Tryd.sizeOf170, Tryd.zeroValue170⟩
instance : ZV Tryd.prog 170 (Value.nilFunc) := ⟨Tryd.zeroValue170⟩
instance : NotIf Tryd.prog 171 := ⟨_, Tryd.underlying171, rfl⟩
instance : ZT Tryd.prog 171 [Value.nilFunc] := ⟨_, Tryd.zeroValue171, rfl⟩
instance : NAgg Tryd.prog 171 := ⟨Tryd.isAgg171⟩
instance : OneT Tryd.prog 171 (Value.nilFunc) := ⟨Tryd.isAgg171, Tryd.sizeOf171, Tryd.zeroValue171⟩
instance : ZV Tryd.prog 171 (Value.nilFunc) := ⟨Tryd.zeroValue171⟩
instance : NotIf Tryd.prog 172 := ⟨_, Tryd.underlying172, rfl⟩
instance : IntT Tryd.prog 172 .u64 := ⟨Tryd.underlying172⟩
instance : ZT Tryd.prog 172 [Value.int IntKind.u64 0] := ⟨_, Tryd.zeroValue172, rfl⟩
instance : NAgg Tryd.prog 172 := ⟨Tryd.isAgg172⟩
instance : OneT Tryd.prog 172 (Value.int IntKind.u64 0) := ⟨Tryd.isAgg172, Tryd.sizeOf172, Tryd.zeroValue172⟩
instance : ZV Tryd.prog 172 (Value.int IntKind.u64 0) := ⟨Tryd.zeroValue172⟩
instance : NotIf Tryd.prog 173 := ⟨_, Tryd.underlying173, rfl⟩
instance : ZT Tryd.prog 173 [Value.pointer none, Value.pointer none, Value.int IntKind.u64 0] := ⟨_, Tryd.zeroValue173, rfl⟩
instance : StT Tryd.prog 173 [(0, 1), (1, 1), (2, 1)] [Value.pointer none, Value.pointer none, Value.int IntKind.u64 0] := ⟨fld_of Tryd.underlying173 (by kernel_rfl), fun parts => by kernel_rfl, Tryd.sizeOf173, Tryd.isAgg173, Tryd.zeroValue173⟩
instance : ZV Tryd.prog 173 (Value.agg #[Value.pointer none, Value.pointer none, Value.int IntKind.u64 0]) := ⟨Tryd.zeroValue173⟩
instance : FldT Tryd.prog 173 [some 0, some 1, some 2] := fldT_of Tryd.underlying173 (by kernel_rfl)
instance : NotIf Tryd.prog 174 := ⟨_, Tryd.underlying174, rfl⟩
instance : ZT Tryd.prog 174 [Value.pointer none, Value.pointer none, Value.int IntKind.u64 0] := ⟨_, Tryd.zeroValue174, rfl⟩
instance : StT Tryd.prog 174 [(0, 1), (1, 1), (2, 1)] [Value.pointer none, Value.pointer none, Value.int IntKind.u64 0] := ⟨fld_of Tryd.underlying174 (by kernel_rfl), fun parts => by kernel_rfl, Tryd.sizeOf174, Tryd.isAgg174, Tryd.zeroValue174⟩
instance : ZV Tryd.prog 174 (Value.agg #[Value.pointer none, Value.pointer none, Value.int IntKind.u64 0]) := ⟨Tryd.zeroValue174⟩
instance : FldT Tryd.prog 174 [some 0, some 1, some 2] := fldT_of Tryd.underlying174 (by kernel_rfl)
instance : NotIf Tryd.prog 175 := ⟨_, Tryd.underlying175, rfl⟩
instance : ZT Tryd.prog 175 [Value.nilFunc] := ⟨_, Tryd.zeroValue175, rfl⟩
instance : NAgg Tryd.prog 175 := ⟨Tryd.isAgg175⟩
instance : OneT Tryd.prog 175 (Value.nilFunc) := ⟨Tryd.isAgg175, Tryd.sizeOf175, Tryd.zeroValue175⟩
instance : ZV Tryd.prog 175 (Value.nilFunc) := ⟨Tryd.zeroValue175⟩
instance : IfT Tryd.prog 176 := ⟨_, Tryd.underlying176⟩
instance : ZT Tryd.prog 176 [Value.nilIface] := ⟨_, Tryd.zeroValue176, rfl⟩
instance : NAgg Tryd.prog 176 := ⟨Tryd.isAgg176⟩
instance : OneT Tryd.prog 176 (Value.nilIface) := ⟨Tryd.isAgg176, Tryd.sizeOf176, Tryd.zeroValue176⟩
instance : ZV Tryd.prog 176 (Value.nilIface) := ⟨Tryd.zeroValue176⟩
instance : IfT Tryd.prog 177 := ⟨_, Tryd.underlying177⟩
instance : ZT Tryd.prog 177 [Value.nilIface] := ⟨_, Tryd.zeroValue177, rfl⟩
instance : NAgg Tryd.prog 177 := ⟨Tryd.isAgg177⟩
instance : OneT Tryd.prog 177 (Value.nilIface) := ⟨Tryd.isAgg177, Tryd.sizeOf177, Tryd.zeroValue177⟩
instance : ZV Tryd.prog 177 (Value.nilIface) := ⟨Tryd.zeroValue177⟩
instance : NotIf Tryd.prog 178 := ⟨_, Tryd.underlying178, rfl⟩
instance : ZT Tryd.prog 178 [Value.nilFunc] := ⟨_, Tryd.zeroValue178, rfl⟩
instance : NAgg Tryd.prog 178 := ⟨Tryd.isAgg178⟩
instance : OneT Tryd.prog 178 (Value.nilFunc) := ⟨Tryd.isAgg178, Tryd.sizeOf178, Tryd.zeroValue178⟩
instance : ZV Tryd.prog 178 (Value.nilFunc) := ⟨Tryd.zeroValue178⟩
instance : NotIf Tryd.prog 179 := ⟨_, Tryd.underlying179, rfl⟩
instance : IntT Tryd.prog 179 .u8 := ⟨Tryd.underlying179⟩
instance : ZT Tryd.prog 179 [Value.int IntKind.u8 0] := ⟨_, Tryd.zeroValue179, rfl⟩
instance : NAgg Tryd.prog 179 := ⟨Tryd.isAgg179⟩
instance : OneT Tryd.prog 179 (Value.int IntKind.u8 0) := ⟨Tryd.isAgg179, Tryd.sizeOf179, Tryd.zeroValue179⟩
instance : ZV Tryd.prog 179 (Value.int IntKind.u8 0) := ⟨Tryd.zeroValue179⟩
instance : NotIf Tryd.prog 180 := ⟨_, Tryd.underlying180, rfl⟩
instance : ZT Tryd.prog 180 [Value.nilFunc] := ⟨_, Tryd.zeroValue180, rfl⟩
instance : NAgg Tryd.prog 180 := ⟨Tryd.isAgg180⟩
instance : OneT Tryd.prog 180 (Value.nilFunc) := ⟨Tryd.isAgg180, Tryd.sizeOf180, Tryd.zeroValue180⟩
instance : ZV Tryd.prog 180 (Value.nilFunc) := ⟨Tryd.zeroValue180⟩
instance : NotIf Tryd.prog 181 := ⟨_, Tryd.underlying181, rfl⟩
instance : ZT Tryd.prog 181 [Value.nilFunc] := ⟨_, Tryd.zeroValue181, rfl⟩
instance : NAgg Tryd.prog 181 := ⟨Tryd.isAgg181⟩
instance : OneT Tryd.prog 181 (Value.nilFunc) := ⟨Tryd.isAgg181, Tryd.sizeOf181, Tryd.zeroValue181⟩
instance : ZV Tryd.prog 181 (Value.nilFunc) := ⟨Tryd.zeroValue181⟩
instance : NotIf Tryd.prog 182 := ⟨_, Tryd.underlying182, rfl⟩
instance : ZT Tryd.prog 182 [Value.nilFunc] := ⟨_, Tryd.zeroValue182, rfl⟩
instance : NAgg Tryd.prog 182 := ⟨Tryd.isAgg182⟩
instance : OneT Tryd.prog 182 (Value.nilFunc) := ⟨Tryd.isAgg182, Tryd.sizeOf182, Tryd.zeroValue182⟩
instance : ZV Tryd.prog 182 (Value.nilFunc) := ⟨Tryd.zeroValue182⟩
instance : NotIf Tryd.prog 183 := ⟨_, Tryd.underlying183, rfl⟩
instance : ZT Tryd.prog 183 [Value.nilFunc] := ⟨_, Tryd.zeroValue183, rfl⟩
instance : NAgg Tryd.prog 183 := ⟨Tryd.isAgg183⟩
instance : OneT Tryd.prog 183 (Value.nilFunc) := ⟨Tryd.isAgg183, Tryd.sizeOf183, Tryd.zeroValue183⟩
instance : ZV Tryd.prog 183 (Value.nilFunc) := ⟨Tryd.zeroValue183⟩
instance : NotIf Tryd.prog 184 := ⟨_, Tryd.underlying184, rfl⟩
instance : ZT Tryd.prog 184 [Value.nilFunc] := ⟨_, Tryd.zeroValue184, rfl⟩
instance : NAgg Tryd.prog 184 := ⟨Tryd.isAgg184⟩
instance : OneT Tryd.prog 184 (Value.nilFunc) := ⟨Tryd.isAgg184, Tryd.sizeOf184, Tryd.zeroValue184⟩
instance : ZV Tryd.prog 184 (Value.nilFunc) := ⟨Tryd.zeroValue184⟩
instance : NotIf Tryd.prog 185 := ⟨_, Tryd.underlying185, rfl⟩
instance : ZT Tryd.prog 185 [Value.nilFunc] := ⟨_, Tryd.zeroValue185, rfl⟩
instance : NAgg Tryd.prog 185 := ⟨Tryd.isAgg185⟩
instance : OneT Tryd.prog 185 (Value.nilFunc) := ⟨Tryd.isAgg185, Tryd.sizeOf185, Tryd.zeroValue185⟩
instance : ZV Tryd.prog 185 (Value.nilFunc) := ⟨Tryd.zeroValue185⟩
instance : NotIf Tryd.prog 186 := ⟨_, Tryd.underlying186, rfl⟩
instance : ZT Tryd.prog 186 [Value.nilFunc] := ⟨_, Tryd.zeroValue186, rfl⟩
instance : NAgg Tryd.prog 186 := ⟨Tryd.isAgg186⟩
instance : OneT Tryd.prog 186 (Value.nilFunc) := ⟨Tryd.isAgg186, Tryd.sizeOf186, Tryd.zeroValue186⟩
instance : ZV Tryd.prog 186 (Value.nilFunc) := ⟨Tryd.zeroValue186⟩
instance : NotIf Tryd.prog 187 := ⟨_, Tryd.underlying187, rfl⟩
instance : ZT Tryd.prog 187 [Value.nilFunc] := ⟨_, Tryd.zeroValue187, rfl⟩
instance : NAgg Tryd.prog 187 := ⟨Tryd.isAgg187⟩
instance : OneT Tryd.prog 187 (Value.nilFunc) := ⟨Tryd.isAgg187, Tryd.sizeOf187, Tryd.zeroValue187⟩
instance : ZV Tryd.prog 187 (Value.nilFunc) := ⟨Tryd.zeroValue187⟩
instance : NotIf Tryd.prog 188 := ⟨_, Tryd.underlying188, rfl⟩
instance : ZT Tryd.prog 188 [Value.nilFunc] := ⟨_, Tryd.zeroValue188, rfl⟩
instance : NAgg Tryd.prog 188 := ⟨Tryd.isAgg188⟩
instance : OneT Tryd.prog 188 (Value.nilFunc) := ⟨Tryd.isAgg188, Tryd.sizeOf188, Tryd.zeroValue188⟩
instance : ZV Tryd.prog 188 (Value.nilFunc) := ⟨Tryd.zeroValue188⟩
instance : NotIf Tryd.prog 189 := ⟨_, Tryd.underlying189, rfl⟩
instance : ZT Tryd.prog 189 [Value.nilFunc] := ⟨_, Tryd.zeroValue189, rfl⟩
instance : NAgg Tryd.prog 189 := ⟨Tryd.isAgg189⟩
instance : OneT Tryd.prog 189 (Value.nilFunc) := ⟨Tryd.isAgg189, Tryd.sizeOf189, Tryd.zeroValue189⟩
instance : ZV Tryd.prog 189 (Value.nilFunc) := ⟨Tryd.zeroValue189⟩
instance : NotIf Tryd.prog 190 := ⟨_, Tryd.underlying190, rfl⟩
instance : ZT Tryd.prog 190 [Value.nilFunc] := ⟨_, Tryd.zeroValue190, rfl⟩
instance : NAgg Tryd.prog 190 := ⟨Tryd.isAgg190⟩
instance : OneT Tryd.prog 190 (Value.nilFunc) := ⟨Tryd.isAgg190, Tryd.sizeOf190, Tryd.zeroValue190⟩
instance : ZV Tryd.prog 190 (Value.nilFunc) := ⟨Tryd.zeroValue190⟩
instance : NotIf Tryd.prog 191 := ⟨_, Tryd.underlying191, rfl⟩
instance : ZT Tryd.prog 191 [Value.nilFunc] := ⟨_, Tryd.zeroValue191, rfl⟩
instance : NAgg Tryd.prog 191 := ⟨Tryd.isAgg191⟩
instance : OneT Tryd.prog 191 (Value.nilFunc) := ⟨Tryd.isAgg191, Tryd.sizeOf191, Tryd.zeroValue191⟩
instance : ZV Tryd.prog 191 (Value.nilFunc) := ⟨Tryd.zeroValue191⟩
instance : NotIf Tryd.prog 192 := ⟨_, Tryd.underlying192, rfl⟩
instance : ZT Tryd.prog 192 [Value.nilFunc] := ⟨_, Tryd.zeroValue192, rfl⟩
instance : NAgg Tryd.prog 192 := ⟨Tryd.isAgg192⟩
instance : OneT Tryd.prog 192 (Value.nilFunc) := ⟨Tryd.isAgg192, Tryd.sizeOf192, Tryd.zeroValue192⟩
instance : ZV Tryd.prog 192 (Value.nilFunc) := ⟨Tryd.zeroValue192⟩
instance : NotIf Tryd.prog 193 := ⟨_, Tryd.underlying193, rfl⟩
instance : ZT Tryd.prog 193 [Value.nilFunc] := ⟨_, Tryd.zeroValue193, rfl⟩
instance : NAgg Tryd.prog 193 := ⟨Tryd.isAgg193⟩
instance : OneT Tryd.prog 193 (Value.nilFunc) := ⟨Tryd.isAgg193, Tryd.sizeOf193, Tryd.zeroValue193⟩
instance : ZV Tryd.prog 193 (Value.nilFunc) := ⟨Tryd.zeroValue193⟩
instance : NotIf Tryd.prog 194 := ⟨_, Tryd.underlying194, rfl⟩
instance : ZT Tryd.prog 194 [Value.tuple #[Value.agg #[Value.int IntKind.i64 0, Value.int IntKind.i64 0, Value.int IntKind.i64 0, Value.int IntKind.i64 0, Value.slice none 0 0, Value.nilIface], Value.bool false]] := ⟨_, Tryd.zeroValue194, rfl⟩
instance : NAgg Tryd.prog 194 := ⟨Tryd.isAgg194⟩
instance : OneT Tryd.prog 194 (Value.tuple #[Value.agg #[Value.int IntKind.i64 0, Value.int IntKind.i64 0, Value.int IntKind.i64 0, Value.int IntKind.i64 0, Value.slice none 0 0, Value.nilIface], Value.bool false]) := ⟨Tryd.isAgg194, Tryd.sizeOf194, Tryd.zeroValue194⟩
instance : ZV Tryd.prog 194 (Value.tuple #[Value.agg #[Value.int IntKind.i64 0, Value.int IntKind.i64 0, Value.int IntKind.i64 0, Value.int IntKind.i64 0, Value.slice none 0 0, Value.nilIface], Value.bool false]) := ⟨Tryd.zeroValue194⟩
instance : NotIf Tryd.prog 195 := ⟨_, Tryd.underlying195, rfl⟩
instance : ZT Tryd.prog 195 [Value.nilFunc] := ⟨_, Tryd.zeroValue195, rfl⟩
instance : NAgg Tryd.prog 195 := ⟨Tryd.isAgg195⟩
instance : OneT Tryd.prog 195 (Value.nilFunc) := ⟨Tryd.isAgg195, Tryd.sizeOf195, Tryd.zeroValue195⟩
instance : ZV Tryd.prog 195 (Value.nilFunc) := ⟨Tryd.zeroValue195⟩
instance : NotIf Tryd.prog 196 := ⟨_, Tryd.underlying196, rfl⟩
instance : ZT Tryd.prog 196 [Value.pointer none] := ⟨_, Tryd.zeroValue196, rfl⟩
instance : StT Tryd.prog 196 [(0, 1)] [Value.pointer none] := ⟨fld_of Tryd.underlying196 (by kernel_rfl), fun parts => by kernel_rfl, Tryd.sizeOf196, Tryd.isAgg196, Tryd.zeroValue196⟩
instance : ZV Tryd.prog 196 (Value.agg #[Value.pointer none]) := ⟨Tryd.zeroValue196⟩
instance : FldT Tryd.prog 196 [some 0] := fldT_of Tryd.underlying196 (by kernel_rfl)
instance : NotIf Tryd.prog 197 := ⟨_, Tryd.underlying197, rfl⟩
instance : ZT Tryd.prog 197 [Value.pointer none] := ⟨_, Tryd.zeroValue197, rfl⟩
instance : StT Tryd.prog 197 [(0, 1)] [Value.pointer none] := ⟨fld_of Tryd.underlying197 (by kernel_rfl), fun parts => by kernel_rfl, Tryd.sizeOf197, Tryd.isAgg197, Tryd.zeroValue197⟩
instance : ZV Tryd.prog 197 (Value.agg #[Value.pointer none]) := ⟨Tryd.zeroValue197⟩
instance : FldT Tryd.prog 197 [some 0] := fldT_of Tryd.underlying197 (by kernel_rfl)
instance : NotIf Tryd.prog 198 := ⟨_, Tryd.underlying198, rfl⟩
instance : ZT Tryd.prog 198 [Value.pointer none] := ⟨_, Tryd.zeroValue198, rfl⟩
instance : NAgg Tryd.prog 198 := ⟨Tryd.isAgg198⟩
instance : OneT Tryd.prog 198 (Value.pointer none) := ⟨Tryd.isAgg198, Tryd.sizeOf198, Tryd.zeroValue198⟩
instance : ZV Tryd.prog 198 (Value.pointer none) := ⟨Tryd.zeroValue198⟩
instance : NotIf Tryd.prog 199 := ⟨_, Tryd.underlying199, rfl⟩
instance : ZT Tryd.prog 199 [Value.nilFunc] := ⟨_, Tryd.zeroValue199, rfl⟩
instance : NAgg Tryd.prog 199 := ⟨Tryd.isAgg199⟩
instance : OneT Tryd.prog 199 (Value.nilFunc) := ⟨Tryd.isAgg199, Tryd.sizeOf199, Tryd.zeroValue199⟩
instance : ZV Tryd.prog 199 (Value.nilFunc) := ⟨Tryd.zeroValue199⟩
instance : NotIf Tryd.prog 200 := ⟨_, Tryd.underlying200, rfl⟩
instance : ZT Tryd.prog 200 [Value.nilFunc] := ⟨_, Tryd.zeroValue200, rfl⟩
instance : NAgg Tryd.prog 200 := ⟨Tryd.isAgg200⟩
instance : OneT Tryd.prog 200 (Value.nilFunc) := ⟨Tryd.isAgg200, Tryd.sizeOf200, Tryd.zeroValue200⟩
instance : ZV Tryd.prog 200 (Value.nilFunc) := ⟨Tryd.zeroValue200⟩
instance : NotIf Tryd.prog 201 := ⟨_, Tryd.underlying201, rfl⟩
instance : ZT Tryd.prog 201 [Value.nilFunc] := ⟨_, Tryd.zeroValue201, rfl⟩
instance : NAgg Tryd.prog 201 := ⟨Tryd.isAgg201⟩
instance : OneT Tryd.prog 201 (Value.nilFunc) := ⟨Tryd.isAgg201, Tryd.sizeOf201, Tryd.zeroValue201⟩
instance : ZV Tryd.prog 201 (Value.nilFunc) := ⟨Tryd.zeroValue201⟩
instance : IfT Tryd.prog 202 := ⟨_, Tryd.underlying202⟩
instance : ZT Tryd.prog 202 [Value.nilIface] := ⟨_, Tryd.zeroValue202, rfl⟩
instance : NAgg Tryd.prog 202 := ⟨Tryd.isAgg202⟩
instance : OneT Tryd.prog 202 (Value.nilIface) := ⟨Tryd.isAgg202, Tryd.sizeOf202, Tryd.zeroValue202⟩
instance : ZV Tryd.prog 202 (Value.nilIface) := ⟨Tryd.zeroValue202⟩
instance : NotIf Tryd.prog 203 := ⟨_, Tryd.underlying203, rfl⟩
instance : ZT Tryd.prog 203 [Value.tuple #[Value.nilIface, Value.bool false]] := ⟨_, Tryd.zeroValue203, rfl⟩
instance : NAgg Tryd.prog 203 := ⟨Tryd.isAgg203⟩
instance : OneT Tryd.prog 203 (Value.tuple #[Value.nilIface, Value.bool false]) := ⟨Tryd.isAgg203, Tryd.sizeOf203, Tryd.zeroValue203⟩
instance : ZV Tryd.prog 203 (Value.tuple #[Value.nilIface, Value.bool false]) := ⟨Tryd.zeroValue203⟩
instance : NotIf Tryd.prog 204 := ⟨_, Tryd.underlying204, rfl⟩
instance : ZT Tryd.prog 204 [Value.nilFunc] := ⟨_, Tryd.zeroValue204, rfl⟩
instance : NAgg Tryd.prog 204 := ⟨Tryd.isAgg204⟩
instance : OneT Tryd.prog 204 (Value.nilFunc) := ⟨Tryd.isAgg204, Tryd.sizeOf204, Tryd.zeroValue204⟩
instance : ZV Tryd.prog 204 (Value.nilFunc) := ⟨Tryd.zeroValue204⟩
instance : IfT Tryd.prog 205 := ⟨_, Tryd.underlying205⟩
instance : ZT Tryd.prog 205 [Value.nilIface] := ⟨_, Tryd.zeroValue205, rfl⟩
instance : NAgg Tryd.prog 205 := ⟨Tryd.isAgg205⟩
instance : OneT Tryd.prog 205 (Value.nilIface) := ⟨Tryd.isAgg205, Tryd.sizeOf205, Tryd.zeroValue205⟩
instance : ZV Tryd.prog 205 (Value.nilIface) := ⟨Tryd.zeroValue205⟩
instance : NotIf Tryd.prog 206 := ⟨_, Tryd.underlying206, rfl⟩
instance : ZT Tryd.prog 206 [Value.nilFunc] := ⟨_, Tryd.zeroValue206, rfl⟩
instance : NAgg Tryd.prog 206 := ⟨Tryd.isAgg206⟩
instance : OneT Tryd.prog 206 (Value.nilFunc) := ⟨Tryd.isAgg206, Tryd.sizeOf206, Tryd.zeroValue206⟩
instance : ZV Tryd.prog 206 (Value.nilFunc) := ⟨Tryd.zeroValue206⟩
instance : IfT Tryd.prog 207 := ⟨_, Tryd.underlying207⟩
instance : ZT Tryd.prog 207 [Value.nilIface] := ⟨_, Tryd.zeroValue207, rfl⟩
instance : NAgg Tryd.prog 207 := ⟨Tryd.isAgg207⟩
instance : OneT Tryd.prog 207 (Value.nilIface) := ⟨Tryd.isAgg207, Tryd.sizeOf207, Tryd.zeroValue207⟩
instance : ZV Tryd.prog 207 (Value.nilIface) := ⟨Tryd.zeroValue207⟩
instance : SlT Tryd.prog 208 25 1 := ⟨Tryd.underlying208, Tryd.sizeOf25⟩
instance : NotIf Tryd.prog 208 := ⟨_, Tryd.underlying208, rfl⟩
instance : ZT Tryd.prog 208 [Value.slice none 0 0] := ⟨_, Tryd.zeroValue208, rfl⟩
instance : NAgg Tryd.prog 208 := ⟨Tryd.isAgg208⟩
instance : OneT Tryd.prog 208 (Value.slice none 0 0) := ⟨Tryd.isAgg208, Tryd.sizeOf208, Tryd.zeroValue208⟩
instance : ZV Tryd.prog 208 (Value.slice none 0 0) := ⟨Tryd.zeroValue208⟩
instance : NotIf Tryd.prog 209 := ⟨_, Tryd.underlying209, rfl⟩
instance : ZT Tryd.prog 209 [Value.nilFunc] := ⟨_, Tryd.zeroValue209, rfl⟩
instance : NAgg Tryd.prog 209 := ⟨Tryd.isAgg209⟩
instance : OneT Tryd.prog 209 (Value.nilFunc) := ⟨Tryd.isAgg209, Tryd.sizeOf209, Tryd.zeroValue209⟩
instance : ZV Tryd.prog 209 (Value.nilFunc) := ⟨Tryd.zeroValue209⟩
instance : NotIf Tryd.prog 210 := ⟨_, Tryd.underlying210, rfl⟩
instance : ZT Tryd.prog 210 [Value.nilFunc] := ⟨_, Tryd.zeroValue210, rfl⟩
instance : NAgg Tryd.prog 210 := ⟨Tryd.isAgg210⟩
instance : OneT Tryd.prog 210 (Value.nilFunc) := ⟨Tryd.isAgg210, Tryd.sizeOf210, Tryd.zeroValue210⟩
instance : ZV Tryd.prog 210 (Value.nilFunc) := ⟨Tryd.zeroValue210⟩
instance : NotIf Tryd.prog 211 := ⟨_, Tryd.underlying211, rfl⟩
instance : ZT Tryd.prog 211 [Value.nilFunc] := ⟨_, Tryd.zeroValue211, rfl⟩
instance : NAgg Tryd.prog 211 := ⟨Tryd.isAgg211⟩
instance : OneT Tryd.prog 211 (Value.nilFunc) := ⟨Tryd.isAgg211, Tryd.sizeOf211, Tryd.zeroValue211⟩
instance : ZV Tryd.prog 211 (Value.nilFunc) := ⟨Tryd.zeroValue211⟩
instance : NotIf Tryd.prog 212 := ⟨_, Tryd.underlying212, rfl⟩
instance : ZT Tryd.prog 212 [Value.nilFunc] := ⟨_, Tryd.zeroValue212, rfl⟩
instance : NAgg Tryd.prog 212 := ⟨Tryd.isAgg212⟩
instance : OneT Tryd.prog 212 (Value.nilFunc) := ⟨Tryd.isAgg212, Tryd.sizeOf212, Tryd.zeroValue212⟩
instance : ZV Tryd.prog 212 (Value.nilFunc) := ⟨Tryd.zeroValue212⟩
instance : NotIf Tryd.prog 213 := ⟨_, Tryd.underlying213, rfl⟩
instance : ZT Tryd.prog 213 [Value.nilFunc] := ⟨_, Tryd.zeroValue213, rfl⟩
instance : NAgg Tryd.prog 213 := ⟨Tryd.isAgg213⟩
instance : OneT Tryd.prog 213 (Value.nilFunc) := ⟨Tryd.isAgg213, Tryd.sizeOf213, Tryd.zeroValue213⟩
instance : ZV Tryd.prog 213 (Value.nilFunc) := ⟨Tryd.zeroValue213⟩
instance : NotIf Tryd.prog 214 := ⟨_, Tryd.underlying214, rfl⟩
instance : ZT Tryd.prog 214 [Value.nilFunc] := ⟨_, Tryd.zeroValue214, rfl⟩
instance : NAgg Tryd.prog 214 := ⟨Tryd.isAgg214⟩
instance : OneT Tryd.prog 214 (Value.nilFunc) := ⟨Tryd.isAgg214, Tryd.sizeOf214, Tryd.zeroValue214⟩
instance : ZV Tryd.prog 214 (Value.nilFunc) := ⟨Tryd.zeroValue214⟩
instance : NotIf Tryd.prog 215 := ⟨_, Tryd.underlying215, rfl⟩
instance : ZT Tryd.prog 215 [Value.nilFunc] := ⟨_, Tryd.zeroValue215, rfl⟩
instance : NAgg Tryd.prog 215 := ⟨Tryd.isAgg215⟩
instance : OneT Tryd.prog 215 (Value.nilFunc) := ⟨Tryd.isAgg215, Tryd.sizeOf215, Tryd.zeroValue215⟩
instance : ZV Tryd.prog 215 (Value.nilFunc) := ⟨Tryd.zeroValue215⟩
instance : NotIf Tryd.prog 216 := ⟨_, Tryd.underlying216, rfl⟩
instance : NotIf Tryd.prog 217 := ⟨_, Tryd.underlying217, rfl⟩
instance : ZT Tryd.prog 217 [Value.int IntKind.u8 0, Value.int IntKind.u8 0] := ⟨_, Tryd.zeroValue217, rfl⟩
instance : StT Tryd.prog 217 [(0, 1), (1, 1)] [Value.int IntKind.u8 0, Value.int IntKind.u8 0] := ⟨fld_of Tryd.underlying217 (by kernel_rfl), fun parts => by kernel_rfl, Tryd.sizeOf217, Tryd.isAgg217, Tryd.zeroValue217⟩
instance : ZV Tryd.prog 217 (Value.agg #[Value.int IntKind.u8 0, Value.int IntKind.u8 0]) := ⟨Tryd.zeroValue217⟩
instance : FldT Tryd.prog 217 [some 0, some 1] := fldT_of Tryd.underlying217 (by kernel_rfl)
instance : NotIf Tryd.prog 218 := ⟨_, Tryd.underlying218, rfl⟩
instance : ZT Tryd.prog 218 [Value.int IntKind.u8 0, Value.int IntKind.u8 0] := ⟨_, Tryd.zeroValue218, rfl⟩
instance : StT Tryd.prog 218 [(0, 1), (1, 1)] [Value.int IntKind.u8 0, Value.int IntKind.u8 0] := ⟨fld_of Tryd.underlying218 (by kernel_rfl), fun parts => by kernel_rfl, Tryd.sizeOf218, Tryd.isAgg218, Tryd.zeroValue218⟩
instance : ZV Tryd.prog 218 (Value.agg #[Value.int IntKind.u8 0, Value.int IntKind.u8 0]) := ⟨Tryd.zeroValue218⟩
instance : FldT Tryd.prog 218 [some 0, some 1] := fldT_of Tryd.underlying218 (by kernel_rfl)
instance : NotIf Tryd.prog 219 := ⟨_, Tryd.underlying219, rfl⟩
instance : ZT Tryd.prog 219 [Value.int IntKind.u8 0, Value.int IntKind.u8 0, Value.int IntKind.u8 0, Value.int IntKind.u8 0, Value.int IntKind.u8 0, Value.int IntKind.u8 0, Value.int IntKind.u8 0, Value.int IntKind.u8 0, Value.int IntKind.u8 0, Value.int IntKind.u8 0, Value.int IntKind.u8 0, Value.int IntKind.u8 0, Value.int IntKind.u8 0, Value.int IntKind.u8 0, Value.int IntKind.u8 0, Value.int IntKind.u8 0, Value.int IntKind.u8 0, Value.int IntKind.u8 0, Value.int IntKind.u8 0, Value.int IntKind.u8 0, Value.int IntKind.u8 0, Value.int IntKind.u8 0, Value.int IntKind.u8 0, Value.int IntKind.u8 0, Value.int IntKind.u8 0, Value.int IntKind.u8 0, Value.int IntKind.u8 0, Value.int IntKind.u8 0, Value.int IntKind.u8 0, Value.int IntKind.u8 0, Value.int IntKind.u8 0, Value.int IntKind.u8 0] := ⟨_, Tryd.zeroValue219, rfl⟩
instance : ZV Tryd.prog 219 (Value.agg #[Value.int IntKind.u8 0, Value.int IntKind.u8 0, Value.int IntKind.u8 0, Value.int IntKind.u8 0, Value.int IntKind.u8 0, Value.int IntKind.u8 0, Value.int IntKind.u8 0, Value.int IntKind.u8 0, Value.int IntKind.u8 0, Value.int IntKind.u8 0, Value.int IntKind.u8 0, Value.int IntKind.u8 0, Value.int IntKind.u8 0, Value.int IntKind.u8 0, Value.int IntKind.u8 0, Value.int IntKind.u8 0, Value.int IntKind.u8 0, Value.int IntKind.u8 0, Value.int IntKind.u8 0, Value.int IntKind.u8 0, Value.int IntKind.u8 0, Value.int IntKind.u8 0, Value.int IntKind.u8 0, Value.int IntKind.u8 0, Value.int IntKind.u8 0, Value.int IntKind.u8 0, Value.int IntKind.u8 0, Value.int IntKind.u8 0, Value.int IntKind.u8 0, Value.int IntKind.u8 0, Value.int IntKind.u8 0, Value.int IntKind.u8 0]) := ⟨Tryd.zeroValue219⟩
instance : NotIf Tryd.prog 220 := ⟨_, Tryd.underlying220, rfl⟩
instance : ZT Tryd.prog 220 [Value.nilFunc] := ⟨_, Tryd.zeroValue220, rfl⟩
instance : NAgg Tryd.prog 220 := ⟨Tryd.isAgg220⟩
instance : OneT Tryd.prog 220 (Value.nilFunc) := ⟨Tryd.isAgg220, Tryd.sizeOf220, Tryd.zeroValue220⟩
instance : ZV Tryd.prog 220 (Value.nilFunc) := ⟨Tryd.zeroValue220⟩
instance : NotIf Tryd.prog 221 := ⟨_, Tryd.underlying221, rfl⟩
instance : ZT Tryd.prog 221 [Value.tuple #[Value.int IntKind.i32 0, Value.int IntKind.i64 0]] := ⟨_, Tryd.zeroValue221, rfl⟩
instance : NAgg Tryd.prog 221 := ⟨Tryd.isAgg221⟩
instance : OneT Tryd.prog 221 (Value.tuple #[Value.int IntKind.i32 0, Value.int IntKind.i64 0]) := ⟨Tryd.isAgg221, Tryd.sizeOf221, Tryd.zeroValue221⟩
instance : ZV Tryd.prog 221 (Value.tuple #[Value.int IntKind.i32 0, Value.int IntKind.i64 0]) := ⟨Tryd.zeroValue221⟩
instance : NotIf Tryd.prog 222 := ⟨_, Tryd.underlying222, rfl⟩
instance : ZT Tryd.prog 222 [Value.nilFunc] := ⟨_, Tryd.zeroValue222, rfl⟩
instance : NAgg Tryd.prog 222 := ⟨Tryd.isAgg222⟩
instance : OneT Tryd.prog 222 (Value.nilFunc) := ⟨Tryd.isAgg222, Tryd.sizeOf222, Tryd.zeroValue222⟩
instance : ZV Tryd.prog 222 (Value.nilFunc) := ⟨Tryd.zeroValue222⟩
instance : NotIf Tryd.prog 223 := ⟨_, Tryd.underlying223, rfl⟩
instance : ZT Tryd.prog 223 [Value.nilFunc] := ⟨_, Tryd.zeroValue223, rfl⟩
instance : NAgg Tryd.prog 223 := ⟨Tryd.isAgg223⟩
instance : OneT Tryd.prog 223 (Value.nilFunc) := ⟨Tryd.isAgg223, Tryd.sizeOf223, Tryd.zeroValue223⟩
instance : ZV Tryd.prog 223 (Value.nilFunc) := ⟨Tryd.zeroValue223⟩
instance : NotIf Tryd.prog 224 := ⟨_, Tryd.underlying224, rfl⟩
instance : ZT Tryd.prog 224 [Value.int IntKind.u8 0, Value.int IntKind.u8 0, Value.int IntKind.u8 0, Value.int IntKind.u8 0, Value.int IntKind.u8 0, Value.int IntKind.u8 0, Value.int IntKind.u8 0, Value.int IntKind.u8 0, Value.int IntKind.u8 0, Value.int IntKind.u8 0, Value.int IntKind.u8 0, Value.int IntKind.u8 0, Value.int IntKind.u8 0, Value.int IntKind.u8 0, Value.int IntKind.u8 0, Value.int IntKind.u8 0, Value.int IntKind.u8 0, Value.int IntKind.u8 0, Value.int IntKind.u8 0, Value.int IntKind.u8 0, Value.int IntKind.u8 0, Value.int IntKind.u8 0, Value.int IntKind.u8 0, Value.int IntKind.u8 0] := ⟨_, Tryd.zeroValue224, rfl⟩
instance : ZV Tryd.prog 224 (Value.agg #[Value.int IntKind.u8 0, Value.int IntKind.u8 0, Value.int IntKind.u8 0, Value.int IntKind.u8 0, Value.int IntKind.u8 0, Value.int IntKind.u8 0, Value.int IntKind.u8 0, Value.int IntKind.u8 0, Value.int IntKind.u8 0, Value.int IntKind.u8 0, Value.int IntKind.u8 0, Value.int IntKind.u8 0, Value.int IntKind.u8 0, Value.int IntKind.u8 0, Value.int IntKind.u8 0, Value.int IntKind.u8 0, Value.int IntKind.u8 0, Value.int IntKind.u8 0, Value.int IntKind.u8 0, Value.int IntKind.u8 0, Value.int IntKind.u8 0, Value.int IntKind.u8 0, Value.int IntKind.u8 0, Value.int IntKind.u8 0]) := ⟨Tryd.zeroValue224⟩
instance : NotIf Tryd.prog 225 := ⟨_, Tryd.underlying225, rfl⟩
instance : ZT Tryd.prog 225 [Value.nilFunc] := ⟨_, Tryd.zeroValue225, rfl⟩
instance : NAgg Tryd.prog 225 := ⟨Tryd.isAgg225⟩
instance : OneT Tryd.prog 225 (Value.nilFunc) := ⟨Tryd.isAgg225, Tryd.sizeOf225, Tryd.zeroValue225⟩
instance : ZV Tryd.prog 225 (Value.nilFunc) := ⟨Tryd.zeroValue225⟩
instance : NotIf Tryd.prog 226 := ⟨_, Tryd.underlying226, rfl⟩
instance : ZT Tryd.prog 226 [Value.nilFunc] := ⟨_, Tryd.zeroValue226, rfl⟩
instance : NAgg Tryd.prog 226 := ⟨Tryd.isAgg226⟩
instance : OneT Tryd.prog 226 (Value.nilFunc) := ⟨Tryd.isAgg226, Tryd.sizeOf226, Tryd.zeroValue226⟩
instance : ZV Tryd.prog 226 (Value.nilFunc) := ⟨Tryd.zeroValue226⟩
instance : NotIf Tryd.prog 227 := ⟨_, Tryd.underlying227, rfl⟩
instance : ZT Tryd.prog 227 [Value.tuple #[Value.slice none 0 0, Value.string { data := #[] }]] := ⟨_, Tryd.zeroValue227, rfl⟩
instance : NAgg Tryd.prog 227 := ⟨Tryd.isAgg227⟩
instance : OneT Tryd.prog 227 (Value.tuple #[Value.slice none 0 0, Value.string { data := #[] }]) := ⟨Tryd.isAgg227, Tryd.sizeOf227, Tryd.zeroValue227⟩
instance : ZV Tryd.prog 227 (Value.tuple #[Value.slice none 0 0, Value.string { data := #[] }]) := ⟨Tryd.zeroValue227⟩
instance : NotIf Tryd.prog 228 := ⟨_, Tryd.underlying228, rfl⟩
instance : ZT Tryd.prog 228 [Value.nilFunc] := ⟨_, Tryd.zeroValue228, rfl⟩
instance : NAgg Tryd.prog 228 := ⟨Tryd.isAgg228⟩
instance : OneT Tryd.prog 228 (Value.nilFunc) := ⟨Tryd.isAgg228, Tryd.sizeOf228, Tryd.zeroValue228⟩
instance : ZV Tryd.prog 228 (Value.nilFunc) := ⟨Tryd.zeroValue228⟩
instance : NotIf Tryd.prog 229 := ⟨_, Tryd.underlying229, rfl⟩
instance : ZT Tryd.prog 229 [Value.nilFunc] := ⟨_, Tryd.zeroValue229, rfl⟩
instance : NAgg Tryd.prog 229 := ⟨Tryd.isAgg229⟩
instance : OneT Tryd.prog 229 (Value.nilFunc) := ⟨Tryd.isAgg229, Tryd.sizeOf229, Tryd.zeroValue229⟩
instance : ZV Tryd.prog 229 (Value.nilFunc) := ⟨Tryd.zeroValue229⟩
instance : NotIf Tryd.prog 230 := ⟨_, Tryd.underlying230, rfl⟩
instance : ZT Tryd.prog 230 [Value.nilFunc] := ⟨_, Tryd.zeroValue230, rfl⟩
instance : NAgg Tryd.prog 230 := ⟨Tryd.isAgg230⟩
instance : OneT Tryd.prog 230 (Value.nilFunc) := ⟨Tryd.isAgg230, Tryd.sizeOf230, Tryd.zeroValue230⟩
instance : ZV Tryd.prog 230 (Value.nilFunc) := ⟨Tryd.zeroValue230⟩
instance : NotIf Tryd.prog 231 := ⟨_, Tryd.underlying231, rfl⟩
instance : ZT Tryd.prog 231 [Value.int IntKind.u64 0, Value.int IntKind.u64 0, Value.int IntKind.u64 0, Value.int IntKind.u64 0, Value.int IntKind.u64 0, Value.int IntKind.u64 0, Value.int IntKind.u64 0, Value.int IntKind.u64 0, Value.int IntKind.u64 0, Value.int IntKind.u64 0, Value.int IntKind.u64 0, Value.int IntKind.u64 0, Value.int IntKind.u64 0, Value.int IntKind.u64 0, Value.int IntKind.u64 0, Value.int IntKind.u64 0, Value.int IntKind.u64 0, Value.int IntKind.u64 0, Value.int IntKind.u64 0, Value.int IntKind.u64 0] := ⟨_, Tryd.zeroValue231, rfl⟩
instance : ZV Tryd.prog 231 (Value.agg #[Value.int IntKind.u64 0, Value.int IntKind.u64 0, Value.int IntKind.u64 0, Value.int IntKind.u64 0, Value.int IntKind.u64 0, Value.int IntKind.u64 0, Value.int IntKind.u64 0, Value.int IntKind.u64 0, Value.int IntKind.u64 0, Value.int IntKind.u64 0, Value.int IntKind.u64 0, Value.int IntKind.u64 0, Value.int IntKind.u64 0, Value.int IntKind.u64 0, Value.int IntKind.u64 0, Value.int IntKind.u64 0, Value.int IntKind.u64 0, Value.int IntKind.u64 0, Value.int IntKind.u64 0, Value.int IntKind.u64 0]) := ⟨Tryd.zeroValue231⟩
instance : NotIf Tryd.prog 232 := ⟨_, Tryd.underlying232, rfl⟩
instance : NotIf Tryd.prog 233 := ⟨_, Tryd.underlying233, rfl⟩
instance : ZT Tryd.prog 233 [Value.nilFunc] := ⟨_, Tryd.zeroValue233, rfl⟩
instance : NAgg Tryd.prog 233 := ⟨Tryd.isAgg233⟩
instance : OneT Tryd.prog 233 (Value.nilFunc) := ⟨Tryd.isAgg233, Tryd.sizeOf233, Tryd.zeroValue233⟩
instance : ZV Tryd.prog 233 (Value.nilFunc) := ⟨Tryd.zeroValue233⟩
instance : NotIf Tryd.prog 234 := ⟨_, Tryd.underlying234, rfl⟩
instance : ZT Tryd.prog 234 [Value.nilFunc] := ⟨_, Tryd.zeroValue234, rfl⟩
instance : NAgg Tryd.prog 234 := ⟨Tryd.isAgg234⟩
instance : OneT Tryd.prog 234 (Value.nilFunc) := ⟨Tryd.isAgg234, Tryd.sizeOf234, Tryd.zeroValue234⟩
instance : ZV Tryd.prog 234 (Value.nilFunc) := ⟨Tryd.zeroValue234⟩
instance : NotIf Tryd.prog 235 := ⟨_, Tryd.underlying235, rfl⟩
instance : ZT Tryd.prog 235 [Value.nilFunc] := ⟨_, Tryd.zeroValue235, rfl⟩
instance : NAgg Tryd.prog 235 := ⟨Tryd.isAgg235⟩
instance : OneT Tryd.prog 235 (Value.nilFunc) := ⟨Tryd.isAgg235, Tryd.sizeOf235, Tryd.zeroValue235⟩
instance : ZV Tryd.prog 235 (Value.nilFunc) := ⟨Tryd.zeroValue235⟩
instance : NotIf Tryd.prog 236 := ⟨_, Tryd.underlying236, rfl⟩
instance : ZT Tryd.prog 236 [Value.tuple #[Value.int IntKind.u32 0, Value.int IntKind.u32 0]] := ⟨_, Tryd.zeroValue236, rfl⟩
instance : NAgg Tryd.prog 236 := ⟨Tryd.isAgg236⟩
instance : OneT Tryd.prog 236 (Value.tuple #[Value.int IntKind.u32 0, Value.int IntKind.u32 0]) := ⟨Tryd.isAgg236, Tryd.sizeOf236, Tryd.zeroValue236⟩
instance : ZV Tryd.prog 236 (Value.tuple #[Value.int IntKind.u32 0, Value.int IntKind.u32 0]) := ⟨Tryd.zeroValue236⟩
instance : NotIf Tryd.prog 237 := ⟨_, Tryd.underlying237, rfl⟩
instance : ZT Tryd.prog 237 [Value.nilFunc] := ⟨_, Tryd.zeroValue237, rfl⟩
instance : NAgg Tryd.prog 237 := ⟨Tryd.isAgg237⟩
instance : OneT Tryd.prog 237 (Value.nilFunc) := ⟨Tryd.isAgg237, Tryd.sizeOf237, Tryd.zeroValue237⟩
instance : ZV Tryd.prog 237 (Value.nilFunc) := ⟨Tryd.zeroValue237⟩
instance : NotIf Tryd.prog 238 := ⟨_, Tryd.underlying238, rfl⟩
instance : ZT Tryd.prog 238 [Value.int IntKind.u8 0, Value.int IntKind.u8 0, Value.int IntKind.u8 0, Value.int IntKind.u8 0, Value.int IntKind.u8 0, Value.int IntKind.u8 0, Value.int IntKind.u8 0, Value.int IntKind.u8 0, Value.int IntKind.u8 0, Value.int IntKind.u8 0, Value.int IntKind.u8 0, Value.int IntKind.u8 0, Value.int IntKind.u8 0, Value.int IntKind.u8 0, Value.int IntKind.u8 0, Value.int IntKind.u8 0, Value.int IntKind.u8 0, Value.int IntKind.u8 0, Value.int IntKind.u8 0, Value.int IntKind.u8 0, Value.int IntKind.u8 0, Value.int IntKind.u8 0, Value.int IntKind.u8 0, Value.int IntKind.u8 0, Value.int IntKind.u8 0, Value.int IntKind.u8 0, Value.int IntKind.u8 0, Value.int IntKind.u8 0, Value.int IntKind.u8 0, Value.int IntKind.u8 0, Value.int IntKind.u8 0, Value.int IntKind.u8 0] := ⟨_, Tryd.zeroValue238, rfl⟩
instance : ZV Tryd.prog 238 (Value.agg #[Value.int IntKind.u8 0, Value.int IntKind.u8 0, Value.int IntKind.u8 0, Value.int IntKind.u8 0, Value.int IntKind.u8 0, Value.int IntKind.u8 0, Value.int IntKind.u8 0, Value.int IntKind.u8 0, Value.int IntKind.u8 0, Value.int IntKind.u8 0, Value.int IntKind.u8 0, Value.int IntKind.u8 0, Value.int IntKind.u8 0, Value.int IntKind.u8 0, Value.int IntKind.u8 0, Value.int IntKind.u8 0, Value.int IntKind.u8 0, Value.int IntKind.u8 0, Value.int IntKind.u8 0, Value.int IntKind.u8 0, Value.int IntKind.u8 0, Value.int IntKind.u8 0, Value.int IntKind.u8 0, Value.int IntKind.u8 0, Value.int IntKind.u8 0, Value.int IntKind.u8 0, Value.int IntKind.u8 0, Value.int IntKind.u8 0, Value.int IntKind.u8 0, Value.int IntKind.u8 0, Value.int IntKind.u8 0, Value.int IntKind.u8 0]) := ⟨Tryd.zeroValue238⟩
instance : NotIf Tryd.prog 239 := ⟨_, Tryd.underlying239, rfl⟩
instance : ZT Tryd.prog 239 [Value.int IntKind.u8 0, Value.int IntKind.u8 0, Value.int IntKind.u8 0, Value.int IntKind.u8 0, Value.int IntKind.u8 0, Value.int IntKind.u8 0, Value.int IntKind.u8 0, Value.int IntKind.u8 0, Value.int IntKind.u8 0, Value.int IntKind.u8 0, Value.int IntKind.u8 0, Value.int IntKind.u8 0, Value.int IntKind.u8 0, Value.int IntKind.u8 0, Value.int IntKind.u8 0, Value.int IntKind.u8 0, Value.int IntKind.u8 0, Value.int IntKind.u8 0, Value.int IntKind.u8 0, Value.int IntKind.u8 0, Value.int IntKind.u8 0, Value.int IntKind.u8 0, Value.int IntKind.u8 0, Value.int IntKind.u8 0, Value.int IntKind.u8 0, Value.int IntKind.u8 0, Value.int IntKind.u8 0, Value.int IntKind.u8 0, Value.int IntKind.u8 0, Value.int IntKind.u8 0, Value.int IntKind.u8 0, Value.int IntKind.u8 0, Value.int IntKind.u8 0, Value.int IntKind.u8 0, Value.int IntKind.u8 0, Value.int IntKind.u8 0, Value.int IntKind.u8 0, Value.int IntKind.u8 0, Value.int IntKind.u8 0, Value.int IntKind.u8 0, Value.int IntKind.u8 0, Value.int IntKind.u8 0, Value.int IntKind.u8 0, Value.int IntKind.u8 0, Value.int IntKind.u8 0, Value.int IntKind.u8 0, Value.int IntKind.u8 0, Value.int IntKind.u8 0, Value.int IntKind.u8 0, Value.int IntKind.u8 0, Value.int IntKind.u8 0, Value.int IntKind.u8 0, Value.int IntKind.u8 0, Value.int IntKind.u8 0, Value.int IntKind.u8 0, Value.int IntKind.u8 0, Value.int IntKind.u8 0, Value.int IntKind.u8 0, Value.int IntKind.u8 0, Value.int IntKind.u8 0, Value.int IntKind.u8 0, Value.int IntKind.u8 0, Value.int IntKind.u8 0, Value.int IntKind.u8 0] := ⟨_, Tryd.zeroValue239, rfl⟩
instance : ZV Tryd.prog 239 (Value.agg #[Value.int IntKind.u8 0, Value.int IntKind.u8 0, Value.int IntKind.u8 0, Value.int IntKind.u8 0, Value.int IntKind.u8 0, Value.int IntKind.u8 0, Value.int IntKind.u8 0, Value.int IntKind.u8 0, Value.int IntKind.u8 0, Value.int IntKind.u8 0, Value.int IntKind.u8 0, Value.int IntKind.u8 0, Value.int IntKind.u8 0, Value.int IntKind.u8 0, Value.int IntKind.u8 0, Value.int IntKind.u8 0, Value.int IntKind.u8 0, Value.int IntKind.u8 0, Value.int IntKind.u8 0, Value.int IntKind.u8 0, Value.int IntKind.u8 0, Value.int IntKind.u8 0, Value.int IntKind.u8 0, Value.int IntKind.u8 0, Value.int IntKind.u8 0, Value.int IntKind.u8 0, Value.int IntKind.u8 0, Value.int IntKind.u8 0, Value.int IntKind.u8 0, Value.int IntKind.u8 0, Value.int IntKind.u8 0, Value.int IntKind.u8 0, Value.int IntKind.u8 0, Value.int IntKind.u8 0, Value.int IntKind.u8 0, Value.int IntKind.u8 0, Value.int IntKind.u8 0, Value.int IntKind.u8 0, Value.int IntKind.u8 0, Value.int IntKind.u8 0, Value.int IntKind.u8 0, Value.int IntKind.u8 0, Value.int IntKind.u8 0, Value.int IntKind.u8 0, Value.int IntKind.u8 0, Value.int IntKind.u8 0, Value.int IntKind.u8 0, Value.int IntKind.u8 0, Value.int IntKind.u8 0, Value.int IntKind.u8 0, Value.int IntKind.u8 0, Value.int IntKind.u8 0, Value.int IntKind.u8 0, Value.int IntKind.u8 0, Value.int IntKind.u8 0, Value.int IntKind.u8 0, Value.int IntKind.u8 0, Value.int IntKind.u8 0, Value.int IntKind.u8 0, Value.int IntKind.u8 0, Value.int IntKind.u8 0, Value.int IntKind.u8 0, Value.int IntKind.u8 0, Value.int IntKind.u8 0]) := ⟨Tryd.zeroValue239⟩
instance : NotIf Tryd.prog 240 := ⟨_, Tryd.underlying240, rfl⟩
instance : ZT Tryd.prog 240 [Value.pointer none, Value.pointer none, Value.pointer none, Value.string { data := #[] }] := ⟨_, Tryd.zeroValue240, rfl⟩
instance : StT Tryd.prog 240 [(0, 1), (1, 1), (2, 1), (3, 1)] [Value.pointer none, Value.pointer none, Value.pointer none, Value.string { data := #[] }] := ⟨fld_of Tryd.underlying240 (by kernel_rfl), fun parts => by kernel_rfl, Tryd.sizeOf240, Tryd.isAgg240, Tryd.zeroValue240⟩
instance : ZV Tryd.prog 240 (Value.agg #[Value.pointer none, Value.pointer none, Value.pointer none, Value.string { data := #[] }]) := ⟨Tryd.zeroValue240⟩
instance : FldT Tryd.prog 240 [some 0, some 1, some 2, some 3] := fldT_of Tryd.underlying240 (by kernel_rfl)
instance : NotIf Tryd.prog 241 := ⟨_, Tryd.underlying241, rfl⟩
instance : ZT Tryd.prog 241 [Value.pointer none, Value.pointer none, Value.pointer none, Value.string { data := #[] }] := ⟨_, Tryd.zeroValue241, rfl⟩
instance : StT Tryd.prog 241 [(0, 1), (1, 1), (2, 1), (3, 1)] [Value.pointer none, Value.pointer none, Value.pointer none, Value.string { data := #[] }] := ⟨fld_of Tryd.underlying241 (by kernel_rfl), fun parts => by kernel_rfl, Tryd.sizeOf241, Tryd.isAgg241, Tryd.zeroValue241⟩
instance : ZV Tryd.prog 241 (Value.agg #[Value.pointer none, Value.pointer none, Value.pointer none, Value.string { data := #[] }]) := ⟨Tryd.zeroValue241⟩
instance : FldT Tryd.prog 241 [some 0, some 1, some 2, some 3] := fldT_of Tryd.underlying241 (by kernel_rfl)
instance : NotIf Tryd.prog 242 := ⟨_, Tryd.underlying242, rfl⟩
instance : ZV Tryd.prog 242 (Value.agg #[]) := ⟨Tryd.zeroValue242⟩
instance : NotIf Tryd.prog 243 := ⟨_, Tryd.underlying243, rfl⟩
instance : ZV Tryd.prog 243 (Value.agg #[]) := ⟨Tryd.zeroValue243⟩
instance : FldT Tryd.prog 243 [none] := fldT_of Tryd.underlying243 (by kernel_rfl)
instance : NotIf Tryd.prog 244 := ⟨_, Tryd.underlying244, rfl⟩
instance : ZV Tryd.prog 244 (Value.agg #[]) := ⟨Tryd.zeroValue244⟩
instance : FldT Tryd.prog 244 [none] := fldT_of Tryd.underlying244 (by kernel_rfl)
instance : NotIf Tryd.prog 245 := ⟨_, Tryd.underlying245, rfl⟩
instance : ZT Tryd.prog 245 [Value.nilFunc] := ⟨_, Tryd.zeroValue245, rfl⟩
instance : NAgg Tryd.prog 245 := ⟨Tryd.isAgg245⟩
instance : OneT Tryd.prog 245 (Value.nilFunc) := ⟨Tryd.isAgg245, Tryd.sizeOf245, Tryd.zeroValue245⟩
instance : ZV Tryd.prog 245 (Value.nilFunc) := ⟨Tryd.zeroValue245⟩
instance : NotIf Tryd.prog 246 := ⟨_, Tryd.underlying246, rfl⟩
instance : IntT Tryd.prog 246 .u8 := ⟨Tryd.underlying246⟩
instance : ZT Tryd.prog 246 [Value.int IntKind.u8 0] := ⟨_, Tryd.zeroValue246, rfl⟩
instance : NAgg Tryd.prog 246 := ⟨Tryd.isAgg246⟩
instance : OneT Tryd.prog 246 (Value.int IntKind.u8 0) := ⟨Tryd.isAgg246, Tryd.sizeOf246, Tryd.zeroValue246⟩
instance : ZV Tryd.prog 246 (Value.int IntKind.u8 0) := ⟨Tryd.zeroValue246⟩
instance : NotIf Tryd.prog 247 := ⟨_, Tryd.underlying247, rfl⟩
instance : ZT Tryd.prog 247 [Value.nilFunc] := ⟨_, Tryd.zeroValue247, rfl⟩
instance : NAgg Tryd.prog 247 := ⟨Tryd.isAgg247⟩
instance : OneT Tryd.prog 247 (Value.nilFunc) := ⟨Tryd.isAgg247, Tryd.sizeOf247, Tryd.zeroValue247⟩
instance : ZV Tryd.prog 247 (Value.nilFunc) := ⟨Tryd.zeroValue247⟩
instance : NotIf Tryd.prog 248 := ⟨_, Tryd.underlying248, rfl⟩
instance : IntT Tryd.prog 248 .i32 := ⟨Tryd.underlying248⟩
instance : ZT Tryd.prog 248 [Value.int IntKind.i32 0] := ⟨_, Tryd.zeroValue248, rfl⟩
instance : NAgg Tryd.prog 248 := ⟨Tryd.isAgg248⟩
instance : OneT Tryd.prog 248 (Value.int IntKind.i32 0) := ⟨Tryd.isAgg248, Tryd.sizeOf248, Tryd.zeroValue248⟩
instance : ZV Tryd.prog 248 (Value.int IntKind.i32 0) := ⟨Tryd.zeroValue248⟩
instance : NotIf Tryd.prog 249 := ⟨_, Tryd.underlying249, rfl⟩
instance : IntT Tryd.prog 249 .i32 := ⟨Tryd.underlying249⟩
instance : ZT Tryd.prog 249 [Value.int IntKind.i32 0] := ⟨_, Tryd.zeroValue249, rfl⟩
instance : NAgg Tryd.prog 249 := ⟨Tryd.isAgg249⟩
instance : OneT Tryd.prog 249 (Value.int IntKind.i32 0) := ⟨Tryd.isAgg249, Tryd.sizeOf249, Tryd.zeroValue249⟩
instance : ZV Tryd.prog 249 (Value.int IntKind.i32 0) := ⟨Tryd.zeroValue249⟩
instance : NotIf Tryd.prog 250 := ⟨_, Tryd.underlying250, rfl⟩
instance : ZT Tryd.prog 250 [Value.int IntKind.u64 0, Value.int IntKind.u64 0, Value.int IntKind.u32 0, Value.int IntKind.u8 0, Value.int IntKind.u8 0, Value.int IntKind.u8 0, Value.int IntKind.u8 0, Value.nilFunc, Value.pointer none, Value.int IntKind.i32 0, Value.int IntKind.i32 0] := ⟨_, Tryd.zeroValue250, rfl⟩
instance : StT Tryd.prog 250 [(0, 1), (1, 1), (2, 1), (3, 1), (4, 1), (5, 1), (6, 1), (7, 1), (8, 1), (9, 1), (10, 1)] [Value.int IntKind.u64 0, Value.int IntKind.u64 0, Value.int IntKind.u32 0, Value.int IntKind.u8 0, Value.int IntKind.u8 0, Value.int IntKind.u8 0, Value.int IntKind.u8 0, Value.nilFunc, Value.pointer none, Value.int IntKind.i32 0, Value.int IntKind.i32 0] := ⟨fld_of Tryd.underlying250 (by kernel_rfl), fun parts => by kernel_rfl, Tryd.sizeOf250, Tryd.isAgg250, Tryd.zeroValue250⟩
instance : ZV Tryd.prog 250 (Value.agg #[Value.int IntKind.u64 0, Value.int IntKind.u64 0, Value.int IntKind.u32 0, Value.int IntKind.u8 0, Value.int IntKind.u8 0, Value.int IntKind.u8 0, Value.int IntKind.u8 0, Value.nilFunc, Value.pointer none, Value.int IntKind.i32 0, Value.int IntKind.i32 0]) := ⟨Tryd.zeroValue250⟩
instance : FldT Tryd.prog 250 [some 0, some 1, some 2, some 3, some 4, some 5, some 6, some 7, some 8, some 9, some 10] := fldT_of Tryd.underlying250 (by kernel_rfl)
instance : NotIf Tryd.prog 251 := ⟨_, Tryd.underlying251, rfl⟩
instance : ZT Tryd.prog 251 [Value.int IntKind.u64 0, Value.int IntKind.u64 0, Value.int IntKind.u32 0, Value.int IntKind.u8 0, Value.int IntKind.u8 0, Value.int IntKind.u8 0, Value.int IntKind.u8 0, Value.nilFunc, Value.pointer none, Value.int IntKind.i32 0, Value.int IntKind.i32 0] := ⟨_, Tryd.zeroValue251, rfl⟩
instance : StT Tryd.prog 251 [(0, 1), (1, 1), (2, 1), (3, 1), (4, 1), (5, 1), (6, 1), (7, 1), (8, 1), (9, 1), (10, 1)] [Value.int IntKind.u64 0, Value.int IntKind.u64 0, Value.int IntKind.u32 0, Value.int IntKind.u8 0, Value.int IntKind.u8 0, Value.int IntKind.u8 0, Value.int IntKind.u8 0, Value.nilFunc, Value.pointer none, Value.int IntKind.i32 0, Value.int IntKind.i32 0] := ⟨fld_of Tryd.underlying251 (by kernel_rfl), fun parts => by kernel_rfl, Tryd.sizeOf251, Tryd.isAgg251, Tryd.zeroValue251⟩
instance : ZV Tryd.prog 251 (Value.agg #[Value.int IntKind.u64 0, Value.int IntKind.u64 0, Value.int IntKind.u32 0, Value.int IntKind.u8 0, Value.int IntKind.u8 0, Value.int IntKind.u8 0, Value.int IntKind.u8 0, Value.nilFunc, Value.pointer none, Value.int IntKind.i32 0, Value.int IntKind.i32 0]) := ⟨Tryd.zeroValue251⟩
instance : FldT Tryd.prog 251 [some 0, some 1, some 2, some 3, some 4, some 5, some 6, some 7, some 8, some 9, some 10] := fldT_of Tryd.underlying251 (by kernel_rfl)
instance : NotIf Tryd.prog 252 := ⟨_, Tryd.underlying252, rfl⟩
instance : ZT Tryd.prog 252 [Value.nilFunc] := ⟨_, Tryd.zeroValue252, rfl⟩
instance : NAgg Tryd.prog 252 := ⟨Tryd.isAgg252⟩
instance : OneT Tryd.prog 252 (Value.nilFunc) := ⟨Tryd.isAgg252, Tryd.sizeOf252, Tryd.zeroValue252⟩
instance : ZV Tryd.prog 252 (Value.nilFunc) := ⟨Tryd.zeroValue252⟩
instance : NotIf Tryd.prog 253 := ⟨_, Tryd.underlying253, rfl⟩
instance : ZT Tryd.prog 253 [Value.nilFunc] := ⟨_, Tryd.zeroValue253, rfl⟩
instance : NAgg Tryd.prog 253 := ⟨Tryd.isAgg253⟩
instance : OneT Tryd.prog 253 (Value.nilFunc) := ⟨Tryd.isAgg253, Tryd.sizeOf253, Tryd.zeroValue253⟩
instance : ZV Tryd.prog 253 (Value.nilFunc) := ⟨Tryd.zeroValue253⟩
instance : NotIf Tryd.prog 254 := ⟨_, Tryd.underlying254, rfl⟩
instance : ZT Tryd.prog 254 [Value.nilFunc] := ⟨_, Tryd.zeroValue254, rfl⟩
instance : NAgg Tryd.prog 254 := ⟨Tryd.isAgg254⟩
instance : OneT Tryd.prog 254 (Value.nilFunc) := ⟨Tryd.isAgg254, Tryd.sizeOf254, Tryd.zeroValue254⟩
instance : ZV Tryd.prog 254 (Value.nilFunc) := ⟨Tryd.zeroValue254⟩
instance : NotIf Tryd.prog 255 := ⟨_, Tryd.underlying255, rfl⟩
instance : ZT Tryd.prog 255 [Value.string { data := #[] }, Value.int IntKind.u8 0] := ⟨_, Tryd.zeroValue255, rfl⟩
instance : StT Tryd.prog 255 [(0, 1), (1, 1)] [Value.string { data := #[] }, Value.int IntKind.u8 0] := ⟨fld_of Tryd.underlying255 (by kernel_rfl), fun parts => by kernel_rfl, Tryd.sizeOf255, Tryd.isAgg255, Tryd.zeroValue255⟩
instance : ZV Tryd.prog 255 (Value.agg #[Value.string { data := #[] }, Value.int IntKind.u8 0]) := ⟨Tryd.zeroValue255⟩
instance : FldT Tryd.prog 255 [some 0, some 1] := fldT_of Tryd.underlying255 (by kernel_rfl)
instance : NotIf Tryd.prog 256 := ⟨_, Tryd.underlying256, rfl⟩
instance : ZT Tryd.prog 256 [Value.string { data := #[] }, Value.int IntKind.u8 0] := ⟨_, Tryd.zeroValue256, rfl⟩
instance : StT Tryd.prog 256 [(0, 1), (1, 1)] [Value.string { data := #[] }, Value.int IntKind.u8 0] := ⟨fld_of Tryd.underlying256 (by kernel_rfl), fun parts => by kernel_rfl, Tryd.sizeOf256, Tryd.isAgg256, Tryd.zeroValue256⟩
instance : ZV Tryd.prog 256 (Value.agg #[Value.string { data := #[] }, Value.int IntKind.u8 0]) := ⟨Tryd.zeroValue256⟩
instance : FldT Tryd.prog 256 [some 0, some 1] := fldT_of Tryd.underlying256 (by kernel_rfl)
instance : NotIf Tryd.prog 257 := ⟨_, Tryd.underlying257, rfl⟩
instance : ZT Tryd.prog 257 [Value.pointer none] := ⟨_, Tryd.zeroValue257, rfl⟩
instance : NAgg Tryd.prog 257 := ⟨Tryd.isAgg257⟩
instance : OneT Tryd.prog 257 (Value.pointer none) := ⟨Tryd.isAgg257, Tryd.sizeOf257, Tryd.zeroValue257⟩
instance : ZV Tryd.prog 257 (Value.pointer none) := ⟨Tryd.zeroValue257⟩
instance : NotIf Tryd.prog 258 := ⟨_, Tryd.underlying258, rfl⟩
instance : ZT Tryd.prog 258 [Value.nilFunc] := ⟨_, Tryd.zeroValue258, rfl⟩
instance : NAgg Tryd.prog 258 := ⟨Tryd.isAgg258⟩
instance : OneT Tryd.prog 258 (Value.nilFunc) := ⟨Tryd.isAgg258, Tryd.sizeOf258, Tryd.zeroValue258⟩
instance : ZV Tryd.prog 258 (Value.nilFunc) := ⟨Tryd.zeroValue258⟩
instance : NotIf Tryd.prog 259 := ⟨_, Tryd.underlying259, rfl⟩
instance : IntT Tryd.prog 259 .u16 := ⟨Tryd.underlying259⟩
instance : ZT Tryd.prog 259 [Value.int IntKind.u16 0] := ⟨_, Tryd.zeroValue259, rfl⟩
instance : NAgg Tryd.prog 259 := ⟨Tryd.isAgg259⟩
instance : OneT Tryd.prog 259 (Value.int IntKind.u16 0) := ⟨Tryd.isAgg259, Tryd.sizeOf259, Tryd.zeroValue259⟩
instance : ZV Tryd.prog 259 (Value.int IntKind.u16 0) := ⟨Tryd.zeroValue259⟩
instance : NotIf Tryd.prog 260 := ⟨_, Tryd.underlying260, rfl⟩
instance : ZT Tryd.prog 260 [Value.int IntKind.i32 0, Value.int IntKind.u16 0, Value.int IntKind.u16 0, Value.int IntKind.u32 0, Value.int IntKind.u32 0] := ⟨_, Tryd.zeroValue260, rfl⟩
instance : StT Tryd.prog 260 [(0, 1), (1, 1), (2, 1), (3, 1), (4, 1)] [Value.int IntKind.i32 0, Value.int IntKind.u16 0, Value.int IntKind.u16 0, Value.int IntKind.u32 0, Value.int IntKind.u32 0] := ⟨fld_of Tryd.underlying260 (by kernel_rfl), fun parts => by kernel_rfl, Tryd.sizeOf260, Tryd.isAgg260, Tryd.zeroValue260⟩
instance : ZV Tryd.prog 260 (Value.agg #[Value.int IntKind.i32 0, Value.int IntKind.u16 0, Value.int IntKind.u16 0, Value.int IntKind.u32 0, Value.int IntKind.u32 0]) := ⟨Tryd.zeroValue260⟩
instance : FldT Tryd.prog 260 [some 0, some 1, some 2, some 3, some 4] := fldT_of Tryd.underlying260 (by kernel_rfl)
instance : NotIf Tryd.prog 261 := ⟨_, Tryd.underlying261, rfl⟩
instance : ZT Tryd.prog 261 [Value.int IntKind.i32 0, Value.int IntKind.u16 0, Value.int IntKind.u16 0, Value.int IntKind.u32 0, Value.int IntKind.u32 0] := ⟨_, Tryd.zeroValue261, rfl⟩
instance : StT Tryd.prog 261 [(0, 1), (1, 1), (2, 1), (3, 1), (4, 1)] [Value.int IntKind.i32 0, Value.int IntKind.u16 0, Value.int IntKind.u16 0, Value.int IntKind.u32 0, Value.int IntKind.u32 0] := ⟨fld_of Tryd.underlying261 (by kernel_rfl), fun parts => by kernel_rfl, Tryd.sizeOf261, Tryd.isAgg261, Tryd.zeroValue261⟩
instance : ZV Tryd.prog 261 (Value.agg #[Value.int IntKind.i32 0, Value.int IntKind.u16 0, Value.int IntKind.u16 0, Value.int IntKind.u32 0, Value.int IntKind.u32 0]) := ⟨Tryd.zeroValue261⟩
instance : FldT Tryd.prog 261 [some 0, some 1, some 2, some 3, some 4] := fldT_of Tryd.underlying261 (by kernel_rfl)
instance : SlT Tryd.prog 262 265 4 := ⟨Tryd.underlying262, Tryd.sizeOf265⟩
instance : NotIf Tryd.prog 262 := ⟨_, Tryd.underlying262, rfl⟩
instance : ZT Tryd.prog 262 [Value.slice none 0 0] := ⟨_, Tryd.zeroValue262, rfl⟩
instance : NAgg Tryd.prog 262 := ⟨Tryd.isAgg262⟩
instance : OneT Tryd.prog 262 (Value.slice none 0 0) := ⟨Tryd.isAgg262, Tryd.sizeOf262, Tryd.zeroValue262⟩
instance : ZV Tryd.prog 262 (Value.slice none 0 0) := ⟨Tryd.zeroValue262⟩
instance : NotIf Tryd.prog 263 := ⟨_, Tryd.underlying263, rfl⟩
instance : IntT Tryd.prog 263 .i32 := ⟨Tryd.underlying263⟩
instance : ZT Tryd.prog 263 [Value.int IntKind.i32 0] := ⟨_, Tryd.zeroValue263, rfl⟩
instance : NAgg Tryd.prog 263 := ⟨Tryd.isAgg263⟩
instance : OneT Tryd.prog 263 (Value.int IntKind.i32 0) := ⟨Tryd.isAgg263, Tryd.sizeOf263, Tryd.zeroValue263⟩
instance : ZV Tryd.prog 263 (Value.int IntKind.i32 0) := ⟨Tryd.zeroValue263⟩
instance : NotIf Tryd.prog 264 := ⟨_, Tryd.underlying264, rfl⟩
instance : ZT Tryd.prog 264 [Value.int IntKind.i32 0, Value.int IntKind.i32 0, Value.int IntKind.i32 0, Value.int IntKind.i32 0] := ⟨_, Tryd.zeroValue264, rfl⟩
instance : StT Tryd.prog 264 [(0, 1), (1, 1), (2, 1), (3, 1)] [Value.int IntKind.i32 0, Value.int IntKind.i32 0, Value.int IntKind.i32 0, Value.int IntKind.i32 0] := ⟨fld_of Tryd.underlying264 (by kernel_rfl), fun parts => by kernel_rfl, Tryd.sizeOf264, Tryd.isAgg264, Tryd.zeroValue264⟩
instance : ZV Tryd.prog 264 (Value.agg #[Value.int IntKind.i32 0, Value.int IntKind.i32 0, Value.int IntKind.i32 0, Value.int IntKind.i32 0]) := ⟨Tryd.zeroValue264⟩
instance : FldT Tryd.prog 264 [some 0, some 1, some 2, some 3] := fldT_of Tryd.underlying264 (by kernel_rfl)
instance : NotIf Tryd.prog 265 := ⟨_, Tryd.underlying265, rfl⟩
instance : ZT Tryd.prog 265 [Value.int IntKind.i32 0, Value.int IntKind.i32 0, Value.int IntKind.i32 0, Value.int IntKind.i32 0] := ⟨_, Tryd.zeroValue265, rfl⟩
instance : StT Tryd.prog 265 [(0, 1), (1, 1), (2, 1), (3, 1)] [Value.int IntKind.i32 0, Value.int IntKind.i32 0, Value.int IntKind.i32 0, Value.int IntKind.i32 0] := ⟨fld_of Tryd.underlying265 (by kernel_rfl), fun parts => by kernel_rfl, Tryd.sizeOf265, Tryd.isAgg265, Tryd.zeroValue265⟩
instance : ZV Tryd.prog 265 (Value.agg #[Value.int IntKind.i32 0, Value.int IntKind.i32 0, Value.int IntKind.i32 0, Value.int IntKind.i32 0]) := ⟨Tryd.zeroValue265⟩
instance : FldT Tryd.prog 265 [some 0, some 1, some 2, some 3] := fldT_of Tryd.underlying265 (by kernel_rfl)
instance : NotIf Tryd.prog 266 := ⟨_, Tryd.underlying266, rfl⟩
instance : ZT Tryd.prog 266 [Value.pointer none] := ⟨_, Tryd.zeroValue266, rfl⟩
instance : NAgg Tryd.prog 266 := ⟨Tryd.isAgg266⟩
instance : OneT Tryd.prog 266 (Value.pointer none) := ⟨Tryd.isAgg266, Tryd.sizeOf266, Tryd.zeroValue266⟩
instance : ZV Tryd.prog 266 (Value.pointer none) := ⟨Tryd.zeroValue266⟩
instance : ElT Tryd.prog 22 73 4 [Value.string { data := #[] }, Value.bool false, Value.slice none 0 0, Value.slice none 0 0] 72 := elT_of (z := Value.agg #[Value.string { data := #[] }, Value.bool false, Value.slice none 0 0, Value.slice none 0 0]) Tryd.underlying22 (by kernel_rfl) rfl rfl (by decide)
instance : ElT Tryd.prog 28 5 1 [Value.int IntKind.u8 0] 1 := elT_of (z := Value.int IntKind.u8 0) Tryd.underlying28 (by kernel_rfl) rfl rfl (by decide)
instance : ElT Tryd.prog 34 43 7 [Value.int IntKind.i64 0, Value.int IntKind.i64 0, Value.int IntKind.i64 0, Value.int IntKind.i64 0, Value.int IntKind.i64 0, Value.slice none 0 0, Value.string { data := #[] }] 80 := elT_of (z := Value.agg #[Value.int IntKind.i64 0, Value.int IntKind.i64 0, Value.int IntKind.i64 0, Value.int IntKind.i64 0, Value.int IntKind.i64 0, Value.slice none 0 0, Value.string { data := #[] }]) Tryd.underlying34 (by kernel_rfl) rfl rfl (by decide)
instance : ElT Tryd.prog 35 46 8 [Value.int IntKind.i64 0, Value.int IntKind.i64 0, Value.int IntKind.i64 0, Value.int IntKind.i64 0, Value.int IntKind.i64 0, Value.int IntKind.i64 0, Value.slice none 0 0, Value.string { data := #[] }] 88 := elT_of (z := Value.agg #[Value.int IntKind.i64 0, Value.int IntKind.i64 0, Value.int IntKind.i64 0, Value.int IntKind.i64 0, Value.int IntKind.i64 0, Value.int IntKind.i64 0, Value.slice none 0 0, Value.string { data := #[] }]) Tryd.underlying35 (by kernel_rfl) rfl rfl (by decide)
instance : ElT Tryd.prog 41 3 1 [Value.int IntKind.i64 0] 8 := elT_of (z := Value.int IntKind.i64 0) Tryd.underlying41 (by kernel_rfl) rfl rfl (by decide)
instance : ElT Tryd.prog 52 56 5 [Value.int IntKind.i64 0, Value.int IntKind.i64 0, Value.int IntKind.i64 0, Value.string { data := #[] }, Value.int IntKind.i64 0] 48 := elT_of (z := Value.agg #[Value.int IntKind.i64 0, Value.int IntKind.i64 0, Value.int IntKind.i64 0, Value.string { data := #[] }, Value.int IntKind.i64 0]) Tryd.underlying52 (by kernel_rfl) rfl rfl (by decide)
instance : ElT Tryd.prog 89 95 3 [Value.int IntKind.i64 0, Value.int IntKind.i64 0, Value.int IntKind.i64 0] 24 := elT_of (z := Value.agg #[Value.int IntKind.i64 0, Value.int IntKind.i64 0, Value.int IntKind.i64 0]) Tryd.underlying89 (by kernel_rfl) rfl rfl (by decide)
instance : ElT Tryd.prog 137 9 1 [Value.string { data := #[] }] 16 := elT_of (z := Value.string { data := #[] }) Tryd.underlying137 (by kernel_rfl) rfl rfl (by decide)
instance : ElT Tryd.prog 154 109 1 [Value.nilIface] 16 := elT_of (z := Value.nilIface) Tryd.underlying154 (by kernel_rfl) rfl rfl (by decide)
instance : ElT Tryd.prog 208 25 1 [Value.nilIface] 16 := elT_of (z := Value.nilIface) Tryd.underlying208 (by kernel_rfl) rfl rfl (by decide)
instance : ElT Tryd.prog 262 265 4 [Value.int IntKind.i32 0, Value.int IntKind.i32 0, Value.int IntKind.i32 0, Value.int IntKind.i32 0] 16 := elT_of (z := Value.agg #[Value.int IntKind.i32 0, Value.int IntKind.i32 0, Value.int IntKind.i32 0, Value.int IntKind.i32 0]) Tryd.underlying262 (by kernel_rfl) rfl rfl (by decide)
instance : FnT Tryd.prog 2 := ⟨_, _, Tryd.func2, rfl, by decide⟩
instance : FnT Tryd.prog 3 := ⟨_, _, Tryd.func3, rfl, by decide⟩
instance : FnT Tryd.prog 4 := ⟨_, _, Tryd.func4, rfl, by decide⟩
instance : FnT Tryd.prog 5 := ⟨_, _, Tryd.func5, rfl, by decide⟩
instance : FnT Tryd.prog 6 := ⟨_, _, Tryd.func6, rfl, by decide⟩
instance : FnT Tryd.prog 7 := ⟨_, _, Tryd.func7, rfl, by decide⟩
instance : FnT Tryd.prog 8 := ⟨_, _, Tryd.func8, rfl, by decide⟩
instance : FnT Tryd.prog 9 := ⟨_, _, Tryd.func9, rfl, by decide⟩
instance : FnT Tryd.prog 10 := ⟨_, _, Tryd.func10, rfl, by decide⟩
instance : FnT Tryd.prog 11 := ⟨_, _, Tryd.func11, rfl, by decide⟩
instance : FnT Tryd.prog 12 := ⟨_, _, Tryd.func12, rfl, by decide⟩
instance : FnT Tryd.prog 13 := ⟨_, _, Tryd.func13, rfl, by decide⟩
instance : FnT Tryd.prog 14 := ⟨_, _, Tryd.func14, rfl, by decide⟩
instance : FnT Tryd.prog 15 := ⟨_, _, Tryd.func15, rfl, by decide⟩
instance : FnT Tryd.prog 16 := ⟨_, _, Tryd.func16, rfl, by decide⟩
instance : FnT Tryd.prog 17 := ⟨_, _, Tryd.func17, rfl, by decide⟩
instance : FnT Tryd.prog 18 := ⟨_, _, Tryd.func18, rfl, by decide⟩
instance : FnT Tryd.prog 19 := ⟨_, _, Tryd.func19, rfl, by decide⟩
instance : FnT Tryd.prog 20 := ⟨_, _, Tryd.func20, rfl, by decide⟩
instance : FnT Tryd.prog 21 := ⟨_, _, Tryd.func21, rfl, by decide⟩
instance : FnT Tryd.prog 22 := ⟨_, _, Tryd.func22, rfl, by decide⟩
instance : FnT Tryd.prog 23 := ⟨_, _, Tryd.func23, rfl, by decide⟩
instance : FnT Tryd.prog 24 := ⟨_, _, Tryd.func24, rfl, by decide⟩
instance : FnT Tryd.prog 25 := ⟨_, _, Tryd.func25, rfl, by decide⟩
instance : FnT Tryd.prog 26 := ⟨_, _, Tryd.func26, rfl, by decide⟩
instance : FnT Tryd.prog 27 := ⟨_, _, Tryd.func27, rfl, by decide⟩
instance : FnT Tryd.prog 28 := ⟨_, _, Tryd.func28, rfl, by decide⟩
instance : FnT Tryd.prog 29 := ⟨_, _, Tryd.func29, rfl, by decide⟩
instance : FnT Tryd.prog 30 := ⟨_, _, Tryd.func30, rfl, by decide⟩
instance : FnT Tryd.prog 31 := ⟨_, _, Tryd.func31, rfl, by decide⟩
instance : FnT Tryd.prog 32 := ⟨_, _, Tryd.func32, rfl, by decide⟩
instance : FnT Tryd.prog 33 := ⟨_, _, Tryd.func33, rfl, by decide⟩
instance : FnT Tryd.prog 34 := ⟨_, _, Tryd.func34, rfl, by decide⟩
instance : FnT Tryd.prog 35 := ⟨_, _, Tryd.func35, rfl, by decide⟩
instance : FnT Tryd.prog 36 := ⟨_, _, Tryd.func36, rfl, by decide⟩
instance : FnT Tryd.prog 37 := ⟨_, _, Tryd.func37, rfl, by decide⟩
instance : FnT Tryd.prog 38 := ⟨_, _, Tryd.func38, rfl, by decide⟩
instance : FnT Tryd.prog 39 := ⟨_, _, Tryd.func39, rfl, by decide⟩
instance : FnT Tryd.prog 40 := ⟨_, _, Tryd.func40, rfl, by decide⟩
instance : FnT Tryd.prog 41 := ⟨_, _, Tryd.func41, rfl, by decide⟩
instance : FnT Tryd.prog 42 := ⟨_, _, Tryd.func42, rfl, by decide⟩
instance : FnT Tryd.prog 43 := ⟨_, _, Tryd.func43, rfl, by decide⟩
instance : FnT Tryd.prog 44 := ⟨_, _, Tryd.func44, rfl, by decide⟩
instance : FnT Tryd.prog 45 := ⟨_, _, Tryd.func45, rfl, by decide⟩
instance : FnT Tryd.prog 46 := ⟨_, _, Tryd.func46, rfl, by decide⟩
instance : FnT Tryd.prog 47 := ⟨_, _, Tryd.func47, rfl, by decide⟩
instance : FnT Tryd.prog 48 := ⟨_, _, Tryd.func48, rfl, by decide⟩
instance : FnT Tryd.prog 49 := ⟨_, _, Tryd.func49, rfl, by decide⟩
instance : FnT Tryd.prog 50 := ⟨_, _, Tryd.func50, rfl, by decide⟩
instance : FnT Tryd.prog 51 := ⟨_, _, Tryd.func51, rfl, by decide⟩
instance : FnT Tryd.prog 52 := ⟨_, _, Tryd.func52, rfl, by decide⟩
instance : FnT Tryd.prog 53 := ⟨_, _, Tryd.func53, rfl, by decide⟩
instance : FnT Tryd.prog 54 := ⟨_, _, Tryd.func54, rfl, by decide⟩
instance : FnT Tryd.prog 55 := ⟨_, _, Tryd.func55, rfl, by decide⟩
instance : FnT Tryd.prog 56 := ⟨_, _, Tryd.func56, rfl, by decide⟩
instance : FnT Tryd.prog 57 := ⟨_, _, Tryd.func57, rfl, by decide⟩
instance : FnT Tryd.prog 58 := ⟨_, _, Tryd.func58, rfl, by decide⟩
instance : FnT Tryd.prog 59 := ⟨_, _, Tryd.func59, rfl, by decide⟩
instance : FnT Tryd.prog 60 := ⟨_, _, Tryd.func60, rfl, by decide⟩
instance : FnT Tryd.prog 61 := ⟨_, _, Tryd.func61, rfl, by decide⟩
instance : FnT Tryd.prog 62 := ⟨_, _, Tryd.func62, rfl, by decide⟩
instance : FnT Tryd.prog 63 := ⟨_, _, Tryd.func63, rfl, by decide⟩
instance : FnT Tryd.prog 64 := ⟨_, _, Tryd.func64, rfl, by decide⟩
instance : FnT Tryd.prog 65 := ⟨_, _, Tryd.func65, rfl, by decide⟩
instance : FnT Tryd.prog 66 := ⟨_, _, Tryd.func66, rfl, by decide⟩
instance : FnT Tryd.prog 67 := ⟨_, _, Tryd.func67, rfl, by decide⟩
instance : FnT Tryd.prog 68 := ⟨_, _, Tryd.func68, rfl, by decide⟩
instance : FnT Tryd.prog 70 := ⟨_, _, Tryd.func70, rfl, by decide⟩
instance : FnT Tryd.prog 71 := ⟨_, _, Tryd.func71, rfl, by decide⟩
instance : FnT Tryd.prog 72 := ⟨_, _, Tryd.func72, rfl, by decide⟩
instance : FnT Tryd.prog 76 := ⟨_, _, Tryd.func76, rfl, by decide⟩
instance : FnT Tryd.prog 77 := ⟨_, _, Tryd.func77, rfl, by decide⟩
instance : FnT Tryd.prog 78 := ⟨_, _, Tryd.func78, rfl, by decide⟩
instance : FnT Tryd.prog 79 := ⟨_, _, Tryd.func79, rfl, by decide⟩
instance : FnT Tryd.prog 80 := ⟨_, _, Tryd.func80, rfl, by decide⟩
instance : FnT Tryd.prog 81 := ⟨_, _, Tryd.func81, rfl, by decide⟩
instance : FnT Tryd.prog 82 := ⟨_, _, Tryd.func82, rfl, by decide⟩
instance : FnT Tryd.prog 83 := ⟨_, _, Tryd.func83, rfl, by decide⟩
instance : FnT Tryd.prog 84 := ⟨_, _, Tryd.func84, rfl, by decide⟩
instance : FnT Tryd.prog 85 := ⟨_, _, Tryd.func85, rfl, by decide⟩
instance : FnT Tryd.prog 86 := ⟨_, _, Tryd.func86, rfl, by decide⟩
instance : FnT Tryd.prog 87 := ⟨_, _, Tryd.func87, rfl, by decide⟩
instance : FnT Tryd.prog 88 := ⟨_, _, Tryd.func88, rfl, by decide⟩
instance : FnT Tryd.prog 89 := ⟨_, _, Tryd.func89, rfl, by decide⟩
instance : FnT Tryd.prog 90 := ⟨_, _, Tryd.func90, rfl, by decide⟩
instance : FnT Tryd.prog 91 := ⟨_, _, Tryd.func91, rfl, by decide⟩
instance : FnT Tryd.prog 92 := ⟨_, _, Tryd.func92, rfl, by decide⟩
instance : FnT Tryd.prog 96 := ⟨_, _, Tryd.func96, rfl, by decide⟩
instance : FnT Tryd.prog 97 := ⟨_, _, Tryd.func97, rfl, by decide⟩
instance : FnT Tryd.prog 98 := ⟨_, _, Tryd.func98, rfl, by decide⟩
instance : FnT Tryd.prog 99 := ⟨_, _, Tryd.func99, rfl, by decide⟩
instance : FnT Tryd.prog 100 := ⟨_, _, Tryd.func100, rfl, by decide⟩
instance : FnT Tryd.prog 101 := ⟨_, _, Tryd.func101, rfl, by decide⟩
instance : FnT Tryd.prog 102 := ⟨_, _, Tryd.func102, rfl, by decide⟩
instance : FnT Tryd.prog 103 := ⟨_, _, Tryd.func103, rfl, by decide⟩
instance : FnT Tryd.prog 104 := ⟨_, _, Tryd.func104, rfl, by decide⟩
instance : FnT Tryd.prog 105 := ⟨_, _, Tryd.func105, rfl, by decide⟩
instance : FnT Tryd.prog 106 := ⟨_, _, Tryd.func106, rfl, by decide⟩
instance : FnT Tryd.prog 107 := ⟨_, _, Tryd.func107, rfl, by decide⟩
instance : FnT Tryd.prog 108 := ⟨_, _, Tryd.func108, rfl, by decide⟩
instance : FnT Tryd.prog 109 := ⟨_, _, Tryd.func109, rfl, by decide⟩
instance : FnT Tryd.prog 110 := ⟨_, _, Tryd.func110, rfl, by decide⟩
instance : FnT Tryd.prog 111 := ⟨_, _, Tryd.func111, rfl, by decide⟩
instance : FnT Tryd.prog 112 := ⟨_, _, Tryd.func112, rfl, by decide⟩
instance : FnT Tryd.prog 114 := ⟨_, _, Tryd.func114, rfl, by decide⟩
instance : FnT Tryd.prog 115 := ⟨_, _, Tryd.func115, rfl, by decide⟩
instance : FnT Tryd.prog 116 := ⟨_, _, Tryd.func116, rfl, by decide⟩
instance : FnT Tryd.prog 117 := ⟨_, _, Tryd.func117, rfl, by decide⟩
instance : FnT Tryd.prog 118 := ⟨_, _, Tryd.func118, rfl, by decide⟩
instance : FnT Tryd.prog 119 := ⟨_, _, Tryd.func119, rfl, by decide⟩
instance : FnT Tryd.prog 121 := ⟨_, _, Tryd.func121, rfl, by decide⟩
instance : FnT Tryd.prog 122 := ⟨_, _, Tryd.func122, rfl, by decide⟩
instance : FnT Tryd.prog 123 := ⟨_, _, Tryd.func123, rfl, by decide⟩
instance : FnT Tryd.prog 124 := ⟨_, _, Tryd.func124, rfl, by decide⟩
instance : FnT Tryd.prog 125 := ⟨_, _, Tryd.func125, rfl, by decide⟩
instance : FnT Tryd.prog 126 := ⟨_, _, Tryd.func126, rfl, by decide⟩
instance : FnT Tryd.prog 127 := ⟨_, _, Tryd.func127, rfl, by decide⟩
instance : FnT Tryd.prog 128 := ⟨_, _, Tryd.func128, rfl, by decide⟩
instance : FnT Tryd.prog 130 := ⟨_, _, Tryd.func130, rfl, by decide⟩
instance : FnT Tryd.prog 131 := ⟨_, _, Tryd.func131, rfl, by decide⟩
instance : FnT Tryd.prog 132 := ⟨_, _, Tryd.func132, rfl, by decide⟩
instance : FnT Tryd.prog 133 := ⟨_, _, Tryd.func133, rfl, by decide⟩
instance : FnT Tryd.prog 135 := ⟨_, _, Tryd.func135, rfl, by decide⟩
instance : FnT Tryd.prog 155 := ⟨_, _, Tryd.func155, rfl, by decide⟩
instance : FnT Tryd.prog 156 := ⟨_, _, Tryd.func156, rfl, by decide⟩
instance : FnT Tryd.prog 157 := ⟨_, _, Tryd.func157, rfl, by decide⟩
instance : FnT Tryd.prog 158 := ⟨_, _, Tryd.func158, rfl, by decide⟩
instance : FnT Tryd.prog 159 := ⟨_, _, Tryd.func159, rfl, by decide⟩
instance : FnT Tryd.prog 160 := ⟨_, _, Tryd.func160, rfl, by decide⟩
instance : FnT Tryd.prog 161 := ⟨_, _, Tryd.func161, rfl, by decide⟩
instance : FnT Tryd.prog 162 := ⟨_, _, Tryd.func162, rfl, by decide⟩
instance : FnT Tryd.prog 163 := ⟨_, _, Tryd.func163, rfl, by decide⟩
instance : FnT Tryd.prog 164 := ⟨_, _, Tryd.func164, rfl, by decide⟩
instance : FnT Tryd.prog 188 := ⟨_, _, Tryd.func188, rfl, by decide⟩
end Go.Proofs.YtdnkapfcnapadaaDoor
