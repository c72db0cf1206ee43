/-
  ravelinref3: are a node's fields right?
-/
import Derived.Test.YtanbifmcnkhdhaaGreatDoorGo
import Derived.Test.YtanbifmcnkhdhaaGreatDoorOpenNod
import Derived.Test.YtanbifmcnkhdhaaGreatDoorRefSpelt
import Derived.Test.YtanbifmcnkhdhaaGreatDoorRetC
import Derived.Test.YtanbifmcnkhdhaaGreatDoorRefA
namespace Go.Proofs.YtanbifmcnkhdhaaGreatDoor
open Go.RowKit

set_option maxRecDepth 100000 in
theorem ref_isGlyph (f : Int) (w : World) : Calls Tryz.prog 55 #[.int .i64 f] w fun e w' => e = .returned (.bool (decide (1 ≤ f ∧ f ≤ 34))) ∧ Below w.heap.size w w' := by
  refine enter (args := [_]) (m := []) (F := []) Tryz.func55 rfl Tryz.ntmps55 (by simp) rfl ?_
  (repeat' (first|refine zza ?_|refine zc9 ?_|refine zzb fun w hw => ?_|refine zzh fun _ => ?_|refine zzi fun _ _ => ?_|refine zzj (fun _ => ?_) fun _ => ?_))
  all_goals (refine ⟨congrArg (fun b => Ending.returned (.bool b)) ?_, hw.below⟩; rw [Bool.eq_iff_iff]; simp; try omega)
theorem actOk_in {a f g : Int} (h : 0 ≤ a ∧ a ≤ 5 ∧ a ≠ 4) : actOk a f g = decide (1 ≤ f ∧ f ≤ 34 ∧ g = 0) := by
  unfold actOk
  rw [if_pos (by omega)]
theorem actOk_4 {f g : Int} : actOk 4 f g = decide (1 ≤ f ∧ f ≤ 34 ∧ 1 ≤ g ∧ g ≤ 34) := rfl
theorem actOk_67 {a f g : Int} (h : a = 6 ∨ a = 7) : actOk a f g = decide (f = 0 ∧ g = 0) := by
  unfold actOk
  rw [if_neg (by omega), if_neg (by omega), if_pos h]
theorem actOk_out {a f g : Int} (h : ¬ (0 ≤ a ∧ a ≤ 7)) : actOk a f g = false := by
  unfold actOk
  rw [if_neg (by omega), if_neg (by omega), if_neg (by omega)]
set_option maxHeartbeats 8000000 in
set_option maxRecDepth 100000 in
theorem fields_act (op aop af ag n : Int) (p : Option Addr) (L c b b2 : Nat) (text : List UInt8) (Z : Bool) (hZ : Z = (actOk aop af ag && decide (0 ≤ n ∧ (n = 0 ∨ aop = 6)))) (u0 : World) :
    CW Tryz.prog ⟨147, [], u0, []⟩ (QBody Tryz.prog Tryz.f30 fun e w' => e = .returned (.bool Z) ∧ Below u0.heap.size u0 w') (cP [1, 1, 1, 1, 1, 1, 1, 1] ((Tryz.f30.body).getD .skip)) [(1, .pointer (some ⟨b, 0, none⟩)), (4, .pointer (some ⟨b2, 0, none⟩))]
      [blk b2 32 #[.int .i64 aop, .int .i64 af, .int .i64 ag], blk b 35 #[.int .i64 op, .int .i64 aop, .int .i64 af, .int .i64 ag, .int .i64 n, .slice p L c, .string ⟨text.toArray⟩]] := by
  conv =>
    pattern cP _ _
    whnf
  have hc : (0 ≤ aop ∧ aop ≤ 5 ∧ aop ≠ 4) ∨ aop = 4 ∨ aop = 6 ∨ aop = 7 ∨ ¬ (0 ≤ aop ∧ aop ≤ 7) := by omega
  have hA := fun f W => ref_isGlyph f W
  rcases hc with hin | rfl | rfl | rfl | hout
  · rw [actOk_in hin] at hZ
    (repeat' (first|refine zza ?_|refine zc9 ?_|refine zzb fun w hw => ?_|refine zzh fun _ => ?_|refine zzi fun _ _ => ?_|refine zzj (fun _ => ?_) fun _ => ?_))
    all_goals (repeat' (first | (refine CW_seq ?_; (repeat' (first|refine zza ?_|refine zc9 ?_|refine zzb fun w hw => ?_|refine zzh fun _ => ?_|refine zzi fun _ _ => ?_|refine zzj (fun _ => ?_) fun _ => ?_))) | ((apply WL_callV; rfl; rfl; rfl; (intro W hW; exact hA af W)); (repeat' (first|refine zza ?_|refine zc9 ?_|refine zzb fun w hw => ?_|refine zzh fun _ => ?_|refine zzi fun _ _ => ?_|refine zzj (fun _ => ?_) fun _ => ?_))) | ((apply WQ_callV; rfl; rfl; rfl; (intro W hW; exact hA af W)); (repeat' (first|refine zza ?_|refine zc9 ?_|refine zzb fun w hw => ?_|refine zzh fun _ => ?_|refine zzi fun _ _ => ?_|refine zzj (fun _ => ?_) fun _ => ?_)))))
    all_goals clear hA
    all_goals (refine ⟨congrArg (fun b => Ending.returned (.bool b)) ?_, hw.below⟩; subst hZ; clear hw; rw [Bool.eq_iff_iff]; first | (simp_all; done) | (simp_all; omega) | skip)
  · rw [actOk_4] at hZ
    (repeat' (first|refine zza ?_|refine zc9 ?_|refine zzb fun w hw => ?_|refine zzh fun _ => ?_|refine zzi fun _ _ => ?_|refine zzj (fun _ => ?_) fun _ => ?_))
    all_goals (repeat' (first | (refine CW_seq ?_; (repeat' (first|refine zza ?_|refine zc9 ?_|refine zzb fun w hw => ?_|refine zzh fun _ => ?_|refine zzi fun _ _ => ?_|refine zzj (fun _ => ?_) fun _ => ?_))) | ((apply WL_callV; rfl; rfl; rfl; (intro W hW; exact hA af W)); (repeat' (first|refine zza ?_|refine zc9 ?_|refine zzb fun w hw => ?_|refine zzh fun _ => ?_|refine zzi fun _ _ => ?_|refine zzj (fun _ => ?_) fun _ => ?_))) | ((apply WQ_callV; rfl; rfl; rfl; (intro W hW; exact hA af W)); (repeat' (first|refine zza ?_|refine zc9 ?_|refine zzb fun w hw => ?_|refine zzh fun _ => ?_|refine zzi fun _ _ => ?_|refine zzj (fun _ => ?_) fun _ => ?_))) | ((apply WL_callV; rfl; rfl; rfl; (intro W hW; exact hA ag W)); (repeat' (first|refine zza ?_|refine zc9 ?_|refine zzb fun w hw => ?_|refine zzh fun _ => ?_|refine zzi fun _ _ => ?_|refine zzj (fun _ => ?_) fun _ => ?_))) | ((apply WQ_callV; rfl; rfl; rfl; (intro W hW; exact hA ag W)); (repeat' (first|refine zza ?_|refine zc9 ?_|refine zzb fun w hw => ?_|refine zzh fun _ => ?_|refine zzi fun _ _ => ?_|refine zzj (fun _ => ?_) fun _ => ?_)))))
    all_goals clear hA
    all_goals (refine ⟨congrArg (fun b => Ending.returned (.bool b)) ?_, hw.below⟩; subst hZ; clear hw; rw [Bool.eq_iff_iff]; first | (simp_all; done) | (simp_all; omega) | skip)
  · rw [actOk_67 (.inl rfl)] at hZ
    clear hA
    (repeat' (first|refine zza ?_|refine zc9 ?_|refine zzb fun w hw => ?_|refine zzh fun _ => ?_|refine zzi fun _ _ => ?_|refine zzj (fun _ => ?_) fun _ => ?_))
    all_goals (repeat' (first | (refine CW_seq ?_; (repeat' (first|refine zza ?_|refine zc9 ?_|refine zzb fun w hw => ?_|refine zzh fun _ => ?_|refine zzi fun _ _ => ?_|refine zzj (fun _ => ?_) fun _ => ?_)))))
    all_goals (refine ⟨congrArg (fun b => Ending.returned (.bool b)) ?_, hw.below⟩; subst hZ; clear hw; rw [Bool.eq_iff_iff]; first | (simp_all; done) | (simp_all; omega) | skip)
  · rw [actOk_67 (.inr rfl)] at hZ
    clear hA
    (repeat' (first|refine zza ?_|refine zc9 ?_|refine zzb fun w hw => ?_|refine zzh fun _ => ?_|refine zzi fun _ _ => ?_|refine zzj (fun _ => ?_) fun _ => ?_))
    all_goals (repeat' (first | (refine CW_seq ?_; (repeat' (first|refine zza ?_|refine zc9 ?_|refine zzb fun w hw => ?_|refine zzh fun _ => ?_|refine zzi fun _ _ => ?_|refine zzj (fun _ => ?_) fun _ => ?_)))))
    all_goals (refine ⟨congrArg (fun b => Ending.returned (.bool b)) ?_, hw.below⟩; subst hZ; clear hw; rw [Bool.eq_iff_iff]; first | (simp_all; done) | (simp_all; omega) | skip)
  · rw [actOk_out hout, Bool.false_and] at hZ
    clear hA
    have hout' : aop < 0 ∨ 7 < aop := by omega
    clear hout
    rcases hout' with h | h
    · (repeat' (first|refine zza ?_|refine zc9 ?_|refine zzb fun w hw => ?_|refine zzh fun _ => ?_|refine zzi fun _ _ => ?_|refine zzj (fun _ => ?_) fun _ => ?_))
      all_goals (repeat' (first | (refine CW_seq ?_; (repeat' (first|refine zza ?_|refine zc9 ?_|refine zzb fun w hw => ?_|refine zzh fun _ => ?_|refine zzi fun _ _ => ?_|refine zzj (fun _ => ?_) fun _ => ?_)))))
      all_goals (refine ⟨congrArg (fun b => Ending.returned (.bool b)) ?_, hw.below⟩; subst hZ; clear hw; rw [Bool.eq_iff_iff]; first | (simp_all; done) | (simp_all; omega) | skip)
    · (repeat' (first|refine zza ?_|refine zc9 ?_|refine zzb fun w hw => ?_|refine zzh fun _ => ?_|refine zzi fun _ _ => ?_|refine zzj (fun _ => ?_) fun _ => ?_))
      all_goals (repeat' (first | (refine CW_seq ?_; (repeat' (first|refine zza ?_|refine zc9 ?_|refine zzb fun w hw => ?_|refine zzh fun _ => ?_|refine zzi fun _ _ => ?_|refine zzj (fun _ => ?_) fun _ => ?_)))))
      all_goals (refine ⟨congrArg (fun b => Ending.returned (.bool b)) ?_, hw.below⟩; subst hZ; clear hw; rw [Bool.eq_iff_iff]; first | (simp_all; done) | (simp_all; omega) | skip)
end Go.Proofs.YtanbifmcnkhdhaaGreatDoor
