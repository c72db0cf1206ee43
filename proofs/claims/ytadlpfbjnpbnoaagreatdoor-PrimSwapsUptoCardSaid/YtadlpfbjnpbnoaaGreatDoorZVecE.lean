/-
  The types and the functions of this seat, as the logic of walks asks for them. (Written by a program of this repo: inst.py.)
  ravelinref1.Vector: a list of numbers as an array; ravelinlaw5.vec.
-/
import Derived.Test.YtadlpfbjnpbnoaaGreatDoorProg
import Derived.Test.YtadlpfbjnpbnoaaGreatDoorZRd
import Derived.Test.YtadlpfbjnpbnoaaGreatDoorZGo
import Derived.Test.YtadlpfbjnpbnoaaGreatDoorZRule
namespace Go.Proofs.YtadlpfbjnpbnoaaGreatDoor
open Go
set_option maxRecDepth 100000
instance : ZT Tryz.prog 3 [Value.int IntKind.i64 0] := ⟨_, Tryz.zeroValue3, rfl⟩
instance : NAgg Tryz.prog 3 := ⟨Tryz.isAgg3⟩
instance : OneT Tryz.prog 3 (Value.int IntKind.i64 0) := ⟨Tryz.isAgg3, Tryz.sizeOf3, Tryz.zeroValue3⟩
instance : BoolT Tryz.prog 4 := ⟨Tryz.underlying4⟩
instance : NAgg Tryz.prog 4 := ⟨Tryz.isAgg4⟩
instance : NAgg Tryz.prog 22 := ⟨Tryz.isAgg22⟩
instance : StT Tryz.prog 24 [(0, 1), (1, 1), (2, 1)] [Value.int IntKind.i64 0, Value.int IntKind.i64 0, Value.int IntKind.i64 0] := ⟨fld_of Tryz.underlying24 (by kernel_rfl), fun parts => by kernel_rfl, Tryz.sizeOf24, Tryz.isAgg24, Tryz.zeroValue24⟩
instance : SlT Tryz.prog 25 3 1 := ⟨Tryz.underlying25, Tryz.sizeOf3⟩
instance : NAgg Tryz.prog 25 := ⟨Tryz.isAgg25⟩
instance : OneT Tryz.prog 25 (Value.slice none 0 0) := ⟨Tryz.isAgg25, Tryz.sizeOf25, Tryz.zeroValue25⟩
instance : ZT Tryz.prog 27 [Value.bool false, Value.slice none 0 0, Value.slice none 0 0] := ⟨_, Tryz.zeroValue27, rfl⟩
instance : StT Tryz.prog 27 [(0, 1), (1, 1), (2, 1)] [Value.bool false, Value.slice none 0 0, Value.slice none 0 0] := ⟨fld_of Tryz.underlying27 (by kernel_rfl), fun parts => by kernel_rfl, Tryz.sizeOf27, Tryz.isAgg27, Tryz.zeroValue27⟩
instance : NotIf Tryz.prog 28 := ⟨_, Tryz.underlying28, rfl⟩
instance : IfT Tryz.prog 32 := ⟨_, Tryz.underlying32⟩
instance : ZT Tryz.prog 112 [Value.nilFunc] := ⟨_, Tryz.zeroValue112, rfl⟩
instance : NAgg Tryz.prog 112 := ⟨Tryz.isAgg112⟩
instance : OneT Tryz.prog 112 (Value.nilFunc) := ⟨Tryz.isAgg112, Tryz.sizeOf112, Tryz.zeroValue112⟩
instance : ZT Tryz.prog 149 [Value.int IntKind.i64 0, Value.int IntKind.i64 0, Value.int IntKind.i64 0] := ⟨_, Tryz.zeroValue149, rfl⟩
instance : StT Tryz.prog 149 [(0, 1), (1, 1), (2, 1)] [Value.int IntKind.i64 0, Value.int IntKind.i64 0, Value.int IntKind.i64 0] := ⟨fld_of Tryz.underlying149 (by kernel_rfl), fun parts => by kernel_rfl, Tryz.sizeOf149, Tryz.isAgg149, Tryz.zeroValue149⟩
instance : ZT Tryz.prog 155 [Value.map none] := ⟨_, Tryz.zeroValue155, rfl⟩
instance : NAgg Tryz.prog 155 := ⟨Tryz.isAgg155⟩
instance : OneT Tryz.prog 155 (Value.map none) := ⟨Tryz.isAgg155, Tryz.sizeOf155, Tryz.zeroValue155⟩
instance : ZT Tryz.prog 157 [Value.nilFunc] := ⟨_, Tryz.zeroValue157, rfl⟩
instance : NAgg Tryz.prog 157 := ⟨Tryz.isAgg157⟩
instance : OneT Tryz.prog 157 (Value.nilFunc) := ⟨Tryz.isAgg157, Tryz.sizeOf157, Tryz.zeroValue157⟩
instance : ElT Tryz.prog 25 3 1 [Value.int IntKind.i64 0] 8 := elT_of (z := Value.int IntKind.i64 0) Tryz.underlying25 (by kernel_rfl) rfl rfl (by decide)
instance : FnT Tryz.prog 7 := ⟨_, _, Tryz.func7, rfl, by decide⟩
instance : FnT Tryz.prog 10 := ⟨_, _, Tryz.func10, rfl, by decide⟩
instance : FnT Tryz.prog 11 := ⟨_, _, Tryz.func11, rfl, by decide⟩
instance : FnT Tryz.prog 12 := ⟨_, _, Tryz.func12, rfl, by decide⟩
instance : FnT Tryz.prog 13 := ⟨_, _, Tryz.func13, rfl, by decide⟩
instance : FnT Tryz.prog 14 := ⟨_, _, Tryz.func14, rfl, by decide⟩
instance : FnT Tryz.prog 15 := ⟨_, _, Tryz.func15, rfl, by decide⟩
instance : FnT Tryz.prog 33 := ⟨_, _, Tryz.func33, rfl, by decide⟩
instance : FnT Tryz.prog 36 := ⟨_, _, Tryz.func36, rfl, by decide⟩
instance : FnT Tryz.prog 37 := ⟨_, _, Tryz.func37, rfl, by decide⟩
instance : FnT Tryz.prog 38 := ⟨_, _, Tryz.func38, rfl, by decide⟩
instance : FnT Tryz.prog 40 := ⟨_, _, Tryz.func40, rfl, by decide⟩
instance : FnT Tryz.prog 41 := ⟨_, _, Tryz.func41, rfl, by decide⟩
instance : FnT Tryz.prog 48 := ⟨_, _, Tryz.func48, rfl, by decide⟩
instance : FnT Tryz.prog 54 := ⟨_, _, Tryz.func54, rfl, by decide⟩
instance : FnT Tryz.prog 58 := ⟨_, _, Tryz.func58, rfl, by decide⟩
instance : FnT Tryz.prog 86 := ⟨_, _, Tryz.func86, rfl, by decide⟩
instance : FnT Tryz.prog 96 := ⟨_, _, Tryz.func96, rfl, by decide⟩
instance : FnT Tryz.prog 100 := ⟨_, _, Tryz.func100, rfl, by decide⟩
instance : FnT Tryz.prog 101 := ⟨_, _, Tryz.func101, rfl, by decide⟩
instance : FnT Tryz.prog 102 := ⟨_, _, Tryz.func102, rfl, by decide⟩
instance : FnT Tryz.prog 103 := ⟨_, _, Tryz.func103, rfl, by decide⟩
instance : FnT Tryz.prog 104 := ⟨_, _, Tryz.func104, rfl, by decide⟩
instance : FnT Tryz.prog 105 := ⟨_, _, Tryz.func105, rfl, by decide⟩
instance : FnT Tryz.prog 106 := ⟨_, _, Tryz.func106, rfl, by decide⟩
instance : FnT Tryz.prog 107 := ⟨_, _, Tryz.func107, rfl, by decide⟩
instance : FnT Tryz.prog 108 := ⟨_, _, Tryz.func108, rfl, by decide⟩
instance : FnT Tryz.prog 109 := ⟨_, _, Tryz.func109, rfl, by decide⟩
instance : FnT Tryz.prog 110 := ⟨_, _, Tryz.func110, rfl, by decide⟩
instance : FnT Tryz.prog 111 := ⟨_, _, Tryz.func111, rfl, by decide⟩
instance : FnT Tryz.prog 112 := ⟨_, _, Tryz.func112, rfl, by decide⟩
instance : FnT Tryz.prog 113 := ⟨_, _, Tryz.func113, rfl, by decide⟩
instance : FnT Tryz.prog 114 := ⟨_, _, Tryz.func114, rfl, by decide⟩
instance : FnT Tryz.prog 115 := ⟨_, _, Tryz.func115, rfl, by decide⟩
instance : FnT Tryz.prog 116 := ⟨_, _, Tryz.func116, rfl, by decide⟩
instance : FnT Tryz.prog 117 := ⟨_, _, Tryz.func117, rfl, by decide⟩
instance : FnT Tryz.prog 141 := ⟨_, _, Tryz.func141, rfl, by decide⟩
instance : FnT Tryz.prog 146 := ⟨_, _, Tryz.func146, rfl, by decide⟩
instance : FnT Tryz.prog 147 := ⟨_, _, Tryz.func147, rfl, by decide⟩
instance : FnT Tryz.prog 148 := ⟨_, _, Tryz.func148, rfl, by decide⟩
instance : FnT Tryz.prog 149 := ⟨_, _, Tryz.func149, rfl, by decide⟩
instance : FnT Tryz.prog 150 := ⟨_, _, Tryz.func150, rfl, by decide⟩
instance : FnT Tryz.prog 151 := ⟨_, _, Tryz.func151, rfl, by decide⟩
instance : FnT Tryz.prog 152 := ⟨_, _, Tryz.func152, rfl, by decide⟩
instance : FnT Tryz.prog 153 := ⟨_, _, Tryz.func153, rfl, by decide⟩
instance : FnT Tryz.prog 154 := ⟨_, _, Tryz.func154, rfl, by decide⟩
instance : FnT Tryz.prog 155 := ⟨_, _, Tryz.func155, rfl, by decide⟩
instance : FnT Tryz.prog 156 := ⟨_, _, Tryz.func156, rfl, by decide⟩
instance : FnT Tryz.prog 157 := ⟨_, _, Tryz.func157, rfl, by decide⟩
instance : FnT Tryz.prog 158 := ⟨_, _, Tryz.func158, rfl, by decide⟩
instance : FnT Tryz.prog 159 := ⟨_, _, Tryz.func159, rfl, by decide⟩
instance : FnT Tryz.prog 160 := ⟨_, _, Tryz.func160, rfl, by decide⟩
instance : FnT Tryz.prog 161 := ⟨_, _, Tryz.func161, rfl, by decide⟩
instance : FnT Tryz.prog 162 := ⟨_, _, Tryz.func162, rfl, by decide⟩
instance : FnT Tryz.prog 163 := ⟨_, _, Tryz.func163, rfl, by decide⟩
instance : FnT Tryz.prog 164 := ⟨_, _, Tryz.func164, rfl, by decide⟩
instance : FnT Tryz.prog 182 := ⟨_, _, Tryz.func182, rfl, by decide⟩
instance : FnT Tryz.prog 183 := ⟨_, _, Tryz.func183, rfl, by decide⟩
instance : FnT Tryz.prog 184 := ⟨_, _, Tryz.func184, rfl, by decide⟩
instance : FnT Tryz.prog 186 := ⟨_, _, Tryz.func186, rfl, by decide⟩
instance : FnT Tryz.prog 187 := ⟨_, _, Tryz.func187, rfl, by decide⟩
instance : FnT Tryz.prog 188 := ⟨_, _, Tryz.func188, rfl, by decide⟩
instance : FnT Tryz.prog 189 := ⟨_, _, Tryz.func189, rfl, by decide⟩
instance : FnT Tryz.prog 190 := ⟨_, _, Tryz.func190, rfl, by decide⟩
instance : FnT Tryz.prog 198 := ⟨_, _, Tryz.func198, rfl, by decide⟩
end Go.Proofs.YtadlpfbjnpbnoaaGreatDoor
namespace Go.Proofs.YtadlpfbjnpbnoaaGreatDoor
open Go.RowKit
def vecV (ch : Bool) (n bs c : Nat) (p : Option Addr) : Value := .agg #[.bool ch, .slice (some ⟨bs, 0, none⟩) 1 1, .slice p n c]
def vecM (n bs c : Nat) (p : Option Addr) (d : List Int) : List HP := [blk bs 3 #[.int .i64 n], sl 3 1 p n c (d.map (Value.int .i64))]
set_option maxRecDepth 100000 in
theorem ref_Vector (ch : Bool) (q : Option Addr) (c : Nat) (d : List Int) (w : World) (hd : IntsAt w q c d) (hlen : d.length ≤ 1099511627776) :
    Calls Tryz.prog 48 #[.bool ch, .slice q d.length c] w fun e w' => ∃ x : Nat × Nat × Option Addr, True ∧ e = .returned (vecV ch d.length x.1 x.2.1 x.2.2) ∧ Holds w [] (vecM d.length x.1 x.2.1 x.2.2 d) w' := by
  refine enter (args := [_, _]) (m := []) (F := []) Tryz.func48 rfl Tryz.ntmps48 (by simp) rfl ?_
  (repeat' (first|refine zza ?_|refine zc9 ?_|refine zzb fun w hw => ?_|refine zzh fun _ => ?_|refine zzi fun _ _ => ?_|refine zzj (fun _ => ?_) fun _ => ?_))
  rename_i b4 bs b5
  refine CW_ent (m' := [sl 3 1 none 0 0 [], blk bs 3 #[.int .i64 d.length], blk b5 27 #[.bool ch, .slice (some ⟨bs, 0, none⟩) 1 1, .slice none 0 0], blk b4 27 #[.bool false, .slice none 0 0, .slice none 0 0]]) (Ent.nilown zent) ?_
  refine CW_loopK [(1,_),(4,_),(5,_)] zcov (fun x : Nat × Option Addr × Nat => [(6, .int .i64 x.1)]) (fun x => [sl 3 1 x.2.1 x.1 x.2.2 ((d.take x.1).map (Value.int .i64)), blk bs 3 #[.int .i64 d.length], blk b5 27 #[.bool ch, .slice (some ⟨bs, 0, none⟩) 1 1, .slice x.2.1 x.1 x.2.2], blk b4 27 #[.bool false, .slice none 0 0, .slice none 0 0]]) (fun x => x.1 ≤ d.length) (fun x => d.length - x.1) (0, none, 0) (Nat.zero_le _) zcov Ent.refl ?_
  rintro ⟨k, p, c'⟩ hk
  dsimp only at hk ⊢
  by_cases hlt : k < d.length
  · have e1 : (d.take (k + 1)).map (Value.int .i64) = (d.take k).map (Value.int .i64) ++ [.int .i64 (d.getD k 0)] := by
      rw [List.take_add_one, getD_some hlt]; simp
    (repeat' (first|refine zza ?_|refine zc9 ?_|refine zzb fun w hw => ?_|refine zzh fun _ => ?_|refine zzi fun _ _ => ?_|refine zzj (fun _ => ?_) fun _ => ?_))
    rename_i bn q2 c2
    refine EX_loop' (k + 1, q2, c2) ⟨zcov, ?_, by dsimp only; omega, by dsimp only; omega⟩
    dsimp only
    rw [e1]
    exact zent
  · have hkl : k = d.length := by omega
    subst hkl
    (repeat' (first|refine zza ?_|refine zc9 ?_|refine zzb fun w hw => ?_|refine zzh fun _ => ?_|refine zzi fun _ _ => ?_|refine zzj (fun _ => ?_) fun _ => ?_))
    refine ⟨(bs, c', p), trivial, rfl, ?_⟩
    rw [List.take_length] at hw
    exact hw.ent zent
end Go.Proofs.YtadlpfbjnpbnoaaGreatDoor
