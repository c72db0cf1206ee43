/-
  lex: letters, digits, names, signs: what the program's tests tell.
-/
import Derived.Test.YtgjmgmejojbdeaaGreatDoorLexPlain
import Derived.Test.YtgjmgmejojbdeaaGreatDoorInst
import Derived.Test.YtgjmgmejojbdeaaGreatDoorGo
namespace Go.Proofs.YtgjmgmejojbdeaaGreatDoor
open Go.RowKit

/-- a word's cells -/
def tokE (t : Tok) : List Value := [.int .i64 t.kind, .int .i64 t.fn, .int .i64 t.num, .string ⟨t.text.toArray⟩, .int .i64 t.at_]

theorem u8_eq (b : UInt8) (n : Nat) (hn : n < 256) : (b = UInt8.ofNat n) ↔ b.toNat = n := by
  constructor
  · rintro rfl; simp [UInt8.toNat_ofNat']; omega
  · intro h; apply UInt8.toNat_inj.1; rw [h]; simp [UInt8.toNat_ofNat']; omega

theorem lex_digit (b : UInt8) (w : World) : Calls Tryz.prog 123 #[.int .u8 (b.toNat : Int)] w fun e w' => e = .returned (.bool (isDigitB b)) ∧ Below w.heap.size w w' := by
  refine enter (args := [_]) (m := []) (F := []) Tryz.func123 rfl Tryz.ntmps123 (by simp) rfl ?_
  (repeat' (first|refine zza ?_|refine zc9 ?_|refine zzb fun w hw => ?_|refine zzh fun _ => ?_|refine zzi fun _ _ => ?_|refine zzj (fun _ => ?_) fun _ => ?_))
  all_goals (refine ⟨congrArg (fun b => Ending.returned (.bool b)) ?_, hw.below⟩; rw [Bool.eq_iff_iff]; simp [isDigitB]; try omega)
theorem lex_letter (b : UInt8) (w : World) : Calls Tryz.prog 104 #[.int .u8 (b.toNat : Int)] w fun e w' => e = .returned (.bool (isLetterB b)) ∧ Below w.heap.size w w' := by
  refine enter (args := [_]) (m := []) (F := []) Tryz.func104 rfl Tryz.ntmps104 (by simp) rfl ?_
  (repeat' (first|refine zza ?_|refine zc9 ?_|refine zzb fun w hw => ?_|refine zzh fun _ => ?_|refine zzi fun _ _ => ?_|refine zzj (fun _ => ?_) fun _ => ?_))
  all_goals (refine ⟨congrArg (fun b => Ending.returned (.bool b)) ?_, hw.below⟩; rw [Bool.eq_iff_iff]; simp [isLetterB]; try omega)
theorem lex_within (b : UInt8) (w : World) : Calls Tryz.prog 105 #[.int .u8 (b.toNat : Int)] w fun e w' => e = .returned (.bool (isPartB b)) ∧ Below w.heap.size w w' := by
  refine enter (args := [_]) (m := []) (F := []) Tryz.func105 rfl Tryz.ntmps105 (by simp) rfl ?_
  (repeat' (first|refine zza ?_|refine zc9 ?_|refine zzb fun w hw => ?_|refine zzh fun _ => ?_|refine zzi fun _ _ => ?_|refine zzj (fun _ => ?_) fun _ => ?_))
  (apply WL_callV; rfl; rfl; rfl; (intro W hW; exact lex_letter b W))
  cases hl : isLetterB b with
  | true =>
    (repeat' (first|refine zza ?_|refine zc9 ?_|refine zzb fun w hw => ?_|refine zzh fun _ => ?_|refine zzi fun _ _ => ?_|refine zzj (fun _ => ?_) fun _ => ?_))
    exact ⟨by simp [isPartB, hl], hw.below⟩
  | false =>
    (repeat' (first|refine zza ?_|refine zc9 ?_|refine zzb fun w hw => ?_|refine zzh fun _ => ?_|refine zzi fun _ _ => ?_|refine zzj (fun _ => ?_) fun _ => ?_))
    (apply WL_callV; rfl; rfl; rfl; (intro W hW; exact lex_digit b W))
    cases hd : isDigitB b with
    | true =>
      (repeat' (first|refine zza ?_|refine zc9 ?_|refine zzb fun w hw => ?_|refine zzh fun _ => ?_|refine zzi fun _ _ => ?_|refine zzj (fun _ => ?_) fun _ => ?_))
      exact ⟨by simp [isPartB, hl, hd], hw.below⟩
    | false =>
      (repeat' (first|refine zza ?_|refine zc9 ?_|refine zzb fun w hw => ?_|refine zzh fun _ => ?_|refine zzi fun _ _ => ?_|refine zzj (fun _ => ?_) fun _ => ?_))
      refine ⟨congrArg (fun b => Ending.returned (.bool b)) ?_, hw.below⟩; rw [Bool.eq_iff_iff]; simp [isPartB, hl, hd]; try omega
end Go.Proofs.YtgjmgmejojbdeaaGreatDoor
