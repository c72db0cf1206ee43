/-
  The types and the functions of this seat, as the logic of walks asks for them. (Written by a program of this repo: inst.py.)
-/
import Derived.Test.YtllgkdkjcbohcaaGreatDoorProg
import Derived.Test.YtllgkdkjcbohcaaGreatDoorZRd
namespace Go.Proofs.YtllgkdkjcbohcaaGreatDoor
open Go
set_option maxRecDepth 100000
instance : ZT Tryz.prog 3 [Value.int IntKind.i64 0] := ⟨_, Tryz.zeroValue3, rfl⟩
instance : NAgg Tryz.prog 3 := ⟨Tryz.isAgg3⟩
instance : OneT Tryz.prog 3 (Value.int IntKind.i64 0) := ⟨Tryz.isAgg3, Tryz.sizeOf3, Tryz.zeroValue3⟩
instance : BoolT Tryz.prog 4 := ⟨Tryz.underlying4⟩
instance : NAgg Tryz.prog 4 := ⟨Tryz.isAgg4⟩
instance : StrT Tryz.prog 9 := ⟨Tryz.underlying9⟩
instance : NAgg Tryz.prog 9 := ⟨Tryz.isAgg9⟩
instance : OneT Tryz.prog 9 (Value.string { data := #[] }) := ⟨Tryz.isAgg9, Tryz.sizeOf9, Tryz.zeroValue9⟩
instance : IfT Tryz.prog 20 := ⟨_, Tryz.underlying20⟩
instance : IntT Tryz.prog 21 .i32 := ⟨Tryz.underlying21⟩
instance : SlT Tryz.prog 22 32 7 := ⟨Tryz.underlying22, Tryz.sizeOf32⟩
instance : NAgg Tryz.prog 22 := ⟨Tryz.isAgg22⟩
instance : OneT Tryz.prog 22 (Value.slice none 0 0) := ⟨Tryz.isAgg22, Tryz.sizeOf22, Tryz.zeroValue22⟩
instance : IfT Tryz.prog 24 := ⟨_, Tryz.underlying24⟩
instance : ZT Tryz.prog 24 [Value.nilIface] := ⟨_, Tryz.zeroValue24, rfl⟩
instance : NAgg Tryz.prog 24 := ⟨Tryz.isAgg24⟩
instance : OneT Tryz.prog 24 (Value.nilIface) := ⟨Tryz.isAgg24, Tryz.sizeOf24, Tryz.zeroValue24⟩
instance : NAgg Tryz.prog 27 := ⟨Tryz.isAgg27⟩
instance : OneT Tryz.prog 27 (Value.int IntKind.i64 0) := ⟨Tryz.isAgg27, Tryz.sizeOf27, Tryz.zeroValue27⟩
instance : StT Tryz.prog 29 [(0, 1), (1, 1), (2, 1)] [Value.int IntKind.i64 0, Value.int IntKind.i64 0, Value.int IntKind.i64 0] := ⟨fld_of Tryz.underlying29 (by kernel_rfl), fun parts => by kernel_rfl, Tryz.sizeOf29, Tryz.isAgg29, Tryz.zeroValue29⟩
instance : EqT Tryz.prog 29 [.i, .i, .i] := ⟨by kernel_rfl, by kernel_rfl, by kernel_rfl, by kernel_rfl⟩
instance : SlT Tryz.prog 30 3 1 := ⟨Tryz.underlying30, Tryz.sizeOf3⟩
instance : NAgg Tryz.prog 30 := ⟨Tryz.isAgg30⟩
instance : ZT Tryz.prog 32 [Value.int IntKind.i64 0, Value.int IntKind.i64 0, Value.int IntKind.i64 0, Value.int IntKind.i64 0, Value.int IntKind.i64 0, Value.slice none 0 0, Value.string { data := #[] }] := ⟨_, Tryz.zeroValue32, rfl⟩
instance : StT Tryz.prog 32 [(0, 1), (1, 3), (4, 1), (5, 1), (6, 1)] [Value.int IntKind.i64 0, Value.int IntKind.i64 0, Value.int IntKind.i64 0, Value.int IntKind.i64 0, Value.int IntKind.i64 0, Value.slice none 0 0, Value.string { data := #[] }] := ⟨fld_of Tryz.underlying32 (by kernel_rfl), fun parts => by kernel_rfl, Tryz.sizeOf32, Tryz.isAgg32, Tryz.zeroValue32⟩
instance : SlT Tryz.prog 40 73 4 := ⟨Tryz.underlying40, Tryz.sizeOf73⟩
instance : ZT Tryz.prog 43 [Value.bool false, Value.slice none 0 0, Value.slice none 0 0] := ⟨_, Tryz.zeroValue43, rfl⟩
instance : StT Tryz.prog 43 [(0, 1), (1, 1), (2, 1)] [Value.bool false, Value.slice none 0 0, Value.slice none 0 0] := ⟨fld_of Tryz.underlying43 (by kernel_rfl), fun parts => by kernel_rfl, Tryz.sizeOf43, Tryz.isAgg43, Tryz.zeroValue43⟩
instance : NotIf Tryz.prog 49 := ⟨_, Tryz.underlying49, rfl⟩
instance : ZT Tryz.prog 73 [Value.string { data := #[] }, Value.bool false, Value.slice none 0 0, Value.slice none 0 0] := ⟨_, Tryz.zeroValue73, rfl⟩
instance : StT Tryz.prog 73 [(0, 1), (1, 3)] [Value.string { data := #[] }, Value.bool false, Value.slice none 0 0, Value.slice none 0 0] := ⟨fld_of Tryz.underlying73 (by kernel_rfl), fun parts => by kernel_rfl, Tryz.sizeOf73, Tryz.isAgg73, Tryz.zeroValue73⟩
instance : ZT Tryz.prog 90 [Value.nilIface] := ⟨_, Tryz.zeroValue90, rfl⟩
instance : NAgg Tryz.prog 90 := ⟨Tryz.isAgg90⟩
instance : OneT Tryz.prog 90 (Value.nilIface) := ⟨Tryz.isAgg90, Tryz.sizeOf90, Tryz.zeroValue90⟩
instance : ZT Tryz.prog 115 [Value.int IntKind.i64 0, Value.int IntKind.i64 0, Value.int IntKind.i64 0, Value.string { data := #[] }, Value.int IntKind.i64 0] := ⟨_, Tryz.zeroValue115, rfl⟩
instance : StT Tryz.prog 115 [(0, 1), (1, 1), (2, 1), (3, 1), (4, 1)] [Value.int IntKind.i64 0, Value.int IntKind.i64 0, Value.int IntKind.i64 0, Value.string { data := #[] }, Value.int IntKind.i64 0] := ⟨fld_of Tryz.underlying115 (by kernel_rfl), fun parts => by kernel_rfl, Tryz.sizeOf115, Tryz.isAgg115, Tryz.zeroValue115⟩
instance : EqT Tryz.prog 115 [.i, .i, .i, .s, .i] := ⟨by kernel_rfl, by kernel_rfl, by kernel_rfl, by kernel_rfl⟩
instance : SlT Tryz.prog 116 115 5 := ⟨Tryz.underlying116, Tryz.sizeOf115⟩
instance : NotIf Tryz.prog 139 := ⟨_, Tryz.underlying139, rfl⟩
instance : StT Tryz.prog 142 [(0, 1), (1, 1), (2, 1)] [Value.slice none 0 0, Value.int IntKind.i64 0, Value.int IntKind.i64 0] := ⟨fld_of Tryz.underlying142 (by kernel_rfl), fun parts => by kernel_rfl, Tryz.sizeOf142, Tryz.isAgg142, Tryz.zeroValue142⟩
instance : NotIf Tryz.prog 144 := ⟨_, Tryz.underlying144, rfl⟩
instance : StT Tryz.prog 144 [(0, 1)] [Value.string { data := #[] }] := ⟨fld_of Tryz.underlying144 (by kernel_rfl), fun parts => by kernel_rfl, Tryz.sizeOf144, Tryz.isAgg144, Tryz.zeroValue144⟩
instance : NotIf Tryz.prog 147 := ⟨_, Tryz.underlying147, rfl⟩
instance : StT Tryz.prog 147 [(0, 1), (1, 1)] [Value.string { data := #[] }, Value.nilIface] := ⟨fld_of Tryz.underlying147 (by kernel_rfl), fun parts => by kernel_rfl, Tryz.sizeOf147, Tryz.isAgg147, Tryz.zeroValue147⟩
instance : NAgg Tryz.prog 158 := ⟨Tryz.isAgg158⟩
instance : NAgg Tryz.prog 159 := ⟨Tryz.isAgg159⟩
instance : StT Tryz.prog 161 [(0, 1), (1, 1)] [Value.map none, Value.int IntKind.i64 0] := ⟨fld_of Tryz.underlying161 (by kernel_rfl), fun parts => by kernel_rfl, Tryz.sizeOf161, Tryz.isAgg161, Tryz.zeroValue161⟩
instance : NAgg Tryz.prog 162 := ⟨Tryz.isAgg162⟩
instance : OneT Tryz.prog 162 (Value.pointer none) := ⟨Tryz.isAgg162, Tryz.sizeOf162, Tryz.zeroValue162⟩
instance : ZT Tryz.prog 164 [Value.slice none 0 0, Value.int IntKind.i64 0, Value.int IntKind.i64 0, Value.pointer none, Value.bool false, Value.slice none 0 0, Value.slice none 0 0, Value.int IntKind.i64 0, Value.pointer none] := ⟨_, Tryz.zeroValue164, rfl⟩
instance : StT Tryz.prog 164 [(0, 1), (1, 1), (2, 1), (3, 1), (4, 3), (7, 1), (8, 1)] [Value.slice none 0 0, Value.int IntKind.i64 0, Value.int IntKind.i64 0, Value.pointer none, Value.bool false, Value.slice none 0 0, Value.slice none 0 0, Value.int IntKind.i64 0, Value.pointer none] := ⟨fld_of Tryz.underlying164 (by kernel_rfl), fun parts => by kernel_rfl, Tryz.sizeOf164, Tryz.isAgg164, Tryz.zeroValue164⟩
instance : NotIf Tryz.prog 195 := ⟨_, Tryz.underlying195, rfl⟩
instance : StT Tryz.prog 195 [(0, 1)] [Value.slice none 0 0] := ⟨fld_of Tryz.underlying195 (by kernel_rfl), fun parts => by kernel_rfl, Tryz.sizeOf195, Tryz.isAgg195, Tryz.zeroValue195⟩
instance : NotIf Tryz.prog 196 := ⟨_, Tryz.underlying196, rfl⟩
instance : StT Tryz.prog 196 [(0, 1)] [Value.string { data := #[] }] := ⟨fld_of Tryz.underlying196 (by kernel_rfl), fun parts => by kernel_rfl, Tryz.sizeOf196, Tryz.isAgg196, Tryz.zeroValue196⟩
instance : NotIf Tryz.prog 198 := ⟨_, Tryz.underlying198, rfl⟩
instance : StT Tryz.prog 198 [(0, 1)] [Value.int IntKind.i64 0] := ⟨fld_of Tryz.underlying198 (by kernel_rfl), fun parts => by kernel_rfl, Tryz.sizeOf198, Tryz.isAgg198, Tryz.zeroValue198⟩
instance : NAgg Tryz.prog 199 := ⟨Tryz.isAgg199⟩
instance : OneT Tryz.prog 199 (Value.slice none 0 0) := ⟨Tryz.isAgg199, Tryz.sizeOf199, Tryz.zeroValue199⟩
instance : ZT Tryz.prog 201 [Value.int IntKind.i64 0, Value.int IntKind.i64 0, Value.int IntKind.i64 0, Value.int IntKind.i64 0, Value.slice none 0 0] := ⟨_, Tryz.zeroValue201, rfl⟩
instance : StT Tryz.prog 201 [(0, 3), (3, 1), (4, 1)] [Value.int IntKind.i64 0, Value.int IntKind.i64 0, Value.int IntKind.i64 0, Value.int IntKind.i64 0, Value.slice none 0 0] := ⟨fld_of Tryz.underlying201 (by kernel_rfl), fun parts => by kernel_rfl, Tryz.sizeOf201, Tryz.isAgg201, Tryz.zeroValue201⟩
instance : NotIf Tryz.prog 204 := ⟨_, Tryz.underlying204, rfl⟩
instance : StT Tryz.prog 204 [(0, 5), (5, 1)] [Value.int IntKind.i64 0, Value.int IntKind.i64 0, Value.int IntKind.i64 0, Value.int IntKind.i64 0, Value.slice none 0 0, Value.nilIface] := ⟨fld_of Tryz.underlying204 (by kernel_rfl), fun parts => by kernel_rfl, Tryz.sizeOf204, Tryz.isAgg204, Tryz.zeroValue204⟩
instance : NotIf Tryz.prog 206 := ⟨_, Tryz.underlying206, rfl⟩
instance : StT Tryz.prog 206 [(0, 1), (1, 5), (6, 1)] [Value.nilIface, Value.int IntKind.i64 0, Value.int IntKind.i64 0, Value.int IntKind.i64 0, Value.int IntKind.i64 0, Value.slice none 0 0, Value.nilIface] := ⟨fld_of Tryz.underlying206 (by kernel_rfl), fun parts => by kernel_rfl, Tryz.sizeOf206, Tryz.isAgg206, Tryz.zeroValue206⟩
instance : NotIf Tryz.prog 208 := ⟨_, Tryz.underlying208, rfl⟩
instance : ZT Tryz.prog 208 [Value.nilIface, Value.slice none 0 0] := ⟨_, Tryz.zeroValue208, rfl⟩
instance : StT Tryz.prog 208 [(0, 1), (1, 1)] [Value.nilIface, Value.slice none 0 0] := ⟨fld_of Tryz.underlying208 (by kernel_rfl), fun parts => by kernel_rfl, Tryz.sizeOf208, Tryz.isAgg208, Tryz.zeroValue208⟩
instance : ZT Tryz.prog 219 [Value.nilFunc] := ⟨_, Tryz.zeroValue219, rfl⟩
instance : NAgg Tryz.prog 219 := ⟨Tryz.isAgg219⟩
instance : OneT Tryz.prog 219 (Value.nilFunc) := ⟨Tryz.isAgg219, Tryz.sizeOf219, Tryz.zeroValue219⟩
instance : ElT Tryz.prog 22 32 7 [Value.int IntKind.i64 0, Value.int IntKind.i64 0, Value.int IntKind.i64 0, Value.int IntKind.i64 0, Value.int IntKind.i64 0, Value.slice none 0 0, Value.string { data := #[] }] 80 := elT_of (z := Value.agg #[Value.int IntKind.i64 0, Value.int IntKind.i64 0, Value.int IntKind.i64 0, Value.int IntKind.i64 0, Value.int IntKind.i64 0, Value.slice none 0 0, Value.string { data := #[] }]) Tryz.underlying22 (by kernel_rfl) rfl rfl (by decide)
instance : ElT Tryz.prog 30 3 1 [Value.int IntKind.i64 0] 8 := elT_of (z := Value.int IntKind.i64 0) Tryz.underlying30 (by kernel_rfl) rfl rfl (by decide)
instance : ElT Tryz.prog 116 115 5 [Value.int IntKind.i64 0, Value.int IntKind.i64 0, Value.int IntKind.i64 0, Value.string { data := #[] }, Value.int IntKind.i64 0] 48 := elT_of (z := Value.agg #[Value.int IntKind.i64 0, Value.int IntKind.i64 0, Value.int IntKind.i64 0, Value.string { data := #[] }, Value.int IntKind.i64 0]) Tryz.underlying116 (by kernel_rfl) rfl rfl (by decide)
instance : ElT Tryz.prog 180 9 1 [Value.string { data := #[] }] 16 := elT_of (z := Value.string { data := #[] }) Tryz.underlying180 (by kernel_rfl) rfl rfl (by decide)
instance : ElT Tryz.prog 199 90 1 [Value.nilIface] 16 := elT_of (z := Value.nilIface) Tryz.underlying199 (by kernel_rfl) rfl rfl (by decide)
instance : FnT Tryz.prog 17 := ⟨_, _, Tryz.func17, rfl, by decide⟩
instance : FnT Tryz.prog 22 := ⟨_, _, Tryz.func22, rfl, by decide⟩
instance : FnT Tryz.prog 23 := ⟨_, _, Tryz.func23, rfl, by decide⟩
instance : FnT Tryz.prog 24 := ⟨_, _, Tryz.func24, rfl, by decide⟩
instance : FnT Tryz.prog 25 := ⟨_, _, Tryz.func25, rfl, by decide⟩
instance : FnT Tryz.prog 30 := ⟨_, _, Tryz.func30, rfl, by decide⟩
instance : FnT Tryz.prog 33 := ⟨_, _, Tryz.func33, rfl, by decide⟩
instance : FnT Tryz.prog 36 := ⟨_, _, Tryz.func36, rfl, by decide⟩
instance : FnT Tryz.prog 44 := ⟨_, _, Tryz.func44, rfl, by decide⟩
instance : FnT Tryz.prog 46 := ⟨_, _, Tryz.func46, rfl, by decide⟩
instance : FnT Tryz.prog 47 := ⟨_, _, Tryz.func47, rfl, by decide⟩
instance : FnT Tryz.prog 48 := ⟨_, _, Tryz.func48, rfl, by decide⟩
instance : FnT Tryz.prog 49 := ⟨_, _, Tryz.func49, rfl, by decide⟩
instance : FnT Tryz.prog 54 := ⟨_, _, Tryz.func54, rfl, by decide⟩
instance : FnT Tryz.prog 58 := ⟨_, _, Tryz.func58, rfl, by decide⟩
instance : FnT Tryz.prog 59 := ⟨_, _, Tryz.func59, rfl, by decide⟩
instance : FnT Tryz.prog 62 := ⟨_, _, Tryz.func62, rfl, by decide⟩
instance : FnT Tryz.prog 63 := ⟨_, _, Tryz.func63, rfl, by decide⟩
instance : FnT Tryz.prog 65 := ⟨_, _, Tryz.func65, rfl, by decide⟩
instance : FnT Tryz.prog 72 := ⟨_, _, Tryz.func72, rfl, by decide⟩
instance : FnT Tryz.prog 73 := ⟨_, _, Tryz.func73, rfl, by decide⟩
instance : FnT Tryz.prog 74 := ⟨_, _, Tryz.func74, rfl, by decide⟩
instance : FnT Tryz.prog 75 := ⟨_, _, Tryz.func75, rfl, by decide⟩
instance : FnT Tryz.prog 84 := ⟨_, _, Tryz.func84, rfl, by decide⟩
instance : FnT Tryz.prog 90 := ⟨_, _, Tryz.func90, rfl, by decide⟩
instance : FnT Tryz.prog 91 := ⟨_, _, Tryz.func91, rfl, by decide⟩
instance : FnT Tryz.prog 92 := ⟨_, _, Tryz.func92, rfl, by decide⟩
instance : FnT Tryz.prog 93 := ⟨_, _, Tryz.func93, rfl, by decide⟩
instance : FnT Tryz.prog 100 := ⟨_, _, Tryz.func100, rfl, by decide⟩
instance : FnT Tryz.prog 101 := ⟨_, _, Tryz.func101, rfl, by decide⟩
instance : FnT Tryz.prog 110 := ⟨_, _, Tryz.func110, rfl, by decide⟩
instance : FnT Tryz.prog 111 := ⟨_, _, Tryz.func111, rfl, by decide⟩
instance : FnT Tryz.prog 114 := ⟨_, _, Tryz.func114, rfl, by decide⟩
instance : FnT Tryz.prog 115 := ⟨_, _, Tryz.func115, rfl, by decide⟩
instance : FnT Tryz.prog 116 := ⟨_, _, Tryz.func116, rfl, by decide⟩
instance : FnT Tryz.prog 117 := ⟨_, _, Tryz.func117, rfl, by decide⟩
instance : FnT Tryz.prog 124 := ⟨_, _, Tryz.func124, rfl, by decide⟩
instance : FnT Tryz.prog 125 := ⟨_, _, Tryz.func125, rfl, by decide⟩
instance : FnT Tryz.prog 128 := ⟨_, _, Tryz.func128, rfl, by decide⟩
instance : FnT Tryz.prog 170 := ⟨_, _, Tryz.func170, rfl, by decide⟩
instance : FnT Tryz.prog 171 := ⟨_, _, Tryz.func171, rfl, by decide⟩
instance : FnT Tryz.prog 172 := ⟨_, _, Tryz.func172, rfl, by decide⟩
instance : FnT Tryz.prog 179 := ⟨_, _, Tryz.func179, rfl, by decide⟩
instance : FnT Tryz.prog 180 := ⟨_, _, Tryz.func180, rfl, by decide⟩
instance : FnT Tryz.prog 181 := ⟨_, _, Tryz.func181, rfl, by decide⟩
instance : FnT Tryz.prog 182 := ⟨_, _, Tryz.func182, rfl, by decide⟩
instance : FnT Tryz.prog 183 := ⟨_, _, Tryz.func183, rfl, by decide⟩
instance : FnT Tryz.prog 184 := ⟨_, _, Tryz.func184, rfl, by decide⟩
instance : FnT Tryz.prog 192 := ⟨_, _, Tryz.func192, rfl, by decide⟩
instance : FnT Tryz.prog 195 := ⟨_, _, Tryz.func195, rfl, by decide⟩
instance : FnT Tryz.prog 196 := ⟨_, _, Tryz.func196, rfl, by decide⟩
instance : FnT Tryz.prog 209 := ⟨_, _, Tryz.func209, rfl, by decide⟩
instance : FnT Tryz.prog 225 := ⟨_, _, Tryz.func225, rfl, by decide⟩
instance : FnT Tryz.prog 226 := ⟨_, _, Tryz.func226, rfl, by decide⟩
instance : FnT Tryz.prog 227 := ⟨_, _, Tryz.func227, rfl, by decide⟩
instance : FnT Tryz.prog 228 := ⟨_, _, Tryz.func228, rfl, by decide⟩
instance : FnT Tryz.prog 229 := ⟨_, _, Tryz.func229, rfl, by decide⟩
instance : FnT Tryz.prog 230 := ⟨_, _, Tryz.func230, rfl, by decide⟩
instance : FnT Tryz.prog 235 := ⟨_, _, Tryz.func235, rfl, by decide⟩
instance : FnT Tryz.prog 237 := ⟨_, _, Tryz.func237, rfl, by decide⟩
instance : FnT Tryz.prog 238 := ⟨_, _, Tryz.func238, rfl, by decide⟩
instance : FnT Tryz.prog 244 := ⟨_, _, Tryz.func244, rfl, by decide⟩
instance : FnT Tryz.prog 245 := ⟨_, _, Tryz.func245, rfl, by decide⟩
instance : FnT Tryz.prog 246 := ⟨_, _, Tryz.func246, rfl, by decide⟩
instance : FnT Tryz.prog 251 := ⟨_, _, Tryz.func251, rfl, by decide⟩
instance : FnT Tryz.prog 252 := ⟨_, _, Tryz.func252, rfl, by decide⟩
instance : FnT Tryz.prog 253 := ⟨_, _, Tryz.func253, rfl, by decide⟩
instance : FnT Tryz.prog 254 := ⟨_, _, Tryz.func254, rfl, by decide⟩
instance : FnT Tryz.prog 260 := ⟨_, _, Tryz.func260, rfl, by decide⟩
instance : FnT Tryz.prog 263 := ⟨_, _, Tryz.func263, rfl, by decide⟩
end Go.Proofs.YtllgkdkjcbohcaaGreatDoor
