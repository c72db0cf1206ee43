/-
  slices.Equal at ints, walked with rows.
-/
import Derived.Test.YtllgkdkjcbohcaaGreatDoorZGo
import Derived.Test.YtllgkdkjcbohcaaGreatDoorZArrL
namespace Go.Proofs.YtllgkdkjcbohcaaGreatDoor
open Go.RowKit
theorem Rd.le.sub {G : Rd} {w : World} (h : Rd.le G w.cell?) : Rd.sub G [] w := fun a v e => ⟨h a v e, by simp⟩
set_option maxHeartbeats 8000000 in
set_option maxRecDepth 100000 in
theorem ints_Equal (p q : Option Addr) (c d : Nat) (xs ys : List Int) (G : Rd) (w : World) (hx : Row encI 1 G p c xs) (hy : Row encI 1 G q d ys) (hS : Rd.le G w.cell?) :
    Calls Tryz.prog 225 #[.slice p xs.length c, .slice q ys.length d] w fun e w' => e = .returned (.bool (decide (xs = ys))) ∧ Below w.heap.size w w' := by
  refine enterR (args := [_, _]) (m := []) (F := []) hS.sub rfl Tryz.func225 rfl Tryz.ntmps225 (by simp) ?_
  clear hS
  have hmx : xs.length ≤ 9223372036854775807 := by
    have h1 := hx.max
    have h2 := hx.le
    unfold maxLen at h1
    omega
  by_cases hl : xs.length = ys.length
  · ((repeat' (first|refine zza ?_|refine zc9 ?_|refine zzb fun w hw => ?_|refine zzh fun _ => ?_|refine zzi fun _ _ => ?_|refine zu1 ?_|refine zu2 ?_|refine zu3 ?_|refine zu4 fun _ => ?_|refine zzj (fun _ => ?_) fun _ => ?_)); (repeat' (refine CW_seq ?_; (repeat' (first|refine zza ?_|refine zc9 ?_|refine zzb fun w hw => ?_|refine zzh fun _ => ?_|refine zzi fun _ _ => ?_|refine zu1 ?_|refine zu2 ?_|refine zu3 ?_|refine zu4 fun _ => ?_|refine zzj (fun _ => ?_) fun _ => ?_)))))
    refine CW_loopK [(0,_),(1,_),(12,_)] zcov (fun i : Nat => [(13, .int .i64 (i : Int))]) (fun _ => [ro w [] G]) (fun i => i ≤ xs.length ∧ xs.take i = ys.take i) (fun i => xs.length - i) 0 ⟨Nat.zero_le _, rfl⟩ zcov zent ?_
    rintro i ⟨hi, he⟩
    by_cases hlt : i < xs.length
    · have hlt2 : i < ys.length := by omega
      have e1 := List.take_succ_eq_append_getElem hlt
      have e2 := List.take_succ_eq_append_getElem hlt2
      by_cases hv : xs.getD i 0 = ys.getD i 0
      · have he' : xs.take (i + 1) = ys.take (i + 1) := by
          simp [List.getD, hlt, hlt2] at hv
          rw [e1, e2, he, hv]
        clear e1 e2 he
        ((repeat' (first|refine zza ?_|refine zc9 ?_|refine zzb fun w hw => ?_|refine zzh fun _ => ?_|refine zzi fun _ _ => ?_|refine zu1 ?_|refine zu2 ?_|refine zu3 ?_|refine zu4 fun _ => ?_|refine zzj (fun _ => ?_) fun _ => ?_)); (repeat' (refine CW_seq ?_; (repeat' (first|refine zza ?_|refine zc9 ?_|refine zzb fun w hw => ?_|refine zzh fun _ => ?_|refine zzi fun _ _ => ?_|refine zu1 ?_|refine zu2 ?_|refine zu3 ?_|refine zu4 fun _ => ?_|refine zzj (fun _ => ?_) fun _ => ?_)))))
        exact EX_loop' (i + 1) ⟨zcov, zent, by omega, by omega, he'⟩
      · have hne : xs ≠ ys := fun h => hv (by rw [h])
        clear e1 e2 he
        ((repeat' (first|refine zza ?_|refine zc9 ?_|refine zzb fun w hw => ?_|refine zzh fun _ => ?_|refine zzi fun _ _ => ?_|refine zu1 ?_|refine zu2 ?_|refine zu3 ?_|refine zu4 fun _ => ?_|refine zzj (fun _ => ?_) fun _ => ?_)); (repeat' (refine CW_seq ?_; (repeat' (first|refine zza ?_|refine zc9 ?_|refine zzb fun w hw => ?_|refine zzh fun _ => ?_|refine zzi fun _ _ => ?_|refine zu1 ?_|refine zu2 ?_|refine zu3 ?_|refine zu4 fun _ => ?_|refine zzj (fun _ => ?_) fun _ => ?_)))))
        exact ⟨by rw [decide_eq_false hne], hw.below⟩
    · have : xs = ys := by
        have e : i = xs.length := by omega
        rw [List.take_of_length_le (by omega), List.take_of_length_le (by omega)] at he
        exact he
      subst this
      clear he
      ((repeat' (first|refine zza ?_|refine zc9 ?_|refine zzb fun w hw => ?_|refine zzh fun _ => ?_|refine zzi fun _ _ => ?_|refine zu1 ?_|refine zu2 ?_|refine zu3 ?_|refine zu4 fun _ => ?_|refine zzj (fun _ => ?_) fun _ => ?_)); (repeat' (refine CW_seq ?_; (repeat' (first|refine zza ?_|refine zc9 ?_|refine zzb fun w hw => ?_|refine zzh fun _ => ?_|refine zzi fun _ _ => ?_|refine zu1 ?_|refine zu2 ?_|refine zu3 ?_|refine zu4 fun _ => ?_|refine zzj (fun _ => ?_) fun _ => ?_)))))
      exact ⟨by simp, hw.below⟩
  · ((repeat' (first|refine zza ?_|refine zc9 ?_|refine zzb fun w hw => ?_|refine zzh fun _ => ?_|refine zzi fun _ _ => ?_|refine zu1 ?_|refine zu2 ?_|refine zu3 ?_|refine zu4 fun _ => ?_|refine zzj (fun _ => ?_) fun _ => ?_)); (repeat' (refine CW_seq ?_; (repeat' (first|refine zza ?_|refine zc9 ?_|refine zzb fun w hw => ?_|refine zzh fun _ => ?_|refine zzi fun _ _ => ?_|refine zu1 ?_|refine zu2 ?_|refine zu3 ?_|refine zu4 fun _ => ?_|refine zzj (fun _ => ?_) fun _ => ?_)))))
    exact ⟨by rw [decide_eq_false fun h => hl (by rw [h])], hw.below⟩
end Go.Proofs.YtllgkdkjcbohcaaGreatDoor
