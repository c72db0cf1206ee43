/-
  tree: glyph, rightAct, right.
  tree: right.
-/
import Derived.Test.YtllgkdkjcbohcaaGreatDoorZGo
import Derived.Test.YtllgkdkjcbohcaaGreatDoorZSpell
import Derived.Test.YtllgkdkjcbohcaaGreatDoorZOpenNod
import Derived.Test.YtllgkdkjcbohcaaGreatDoorZTokRow
import Derived.Test.YtllgkdkjcbohcaaGreatDoorZRetC
namespace Go.Proofs.YtllgkdkjcbohcaaGreatDoor
open Go.RowKit
theorem tree_glyph (f : Int) (w : World) : Calls Tryz.prog 195 #[.int .i64 f] w fun e w' => e = .returned (.bool (decide (1 ≤ f ∧ f ≤ 34))) ∧ Below w.heap.size w w' := by
  refine enter (args := [_]) (m := []) (F := []) Tryz.func195 rfl Tryz.ntmps195 (by simp) rfl ?_
  (repeat' (first|refine zza ?_|refine zc9 ?_|refine zzb fun w hw => ?_|refine zzh fun _ => ?_|refine zzi fun _ _ => ?_|refine zzj (fun _ => ?_) fun _ => ?_))
  all_goals (refine ⟨congrArg (fun b => Ending.returned (.bool b)) ?_, hw.below⟩; rw [Bool.eq_iff_iff]; simp; try omega)
set_option maxHeartbeats 8000000 in
set_option maxRecDepth 100000 in
theorem tree_rightAct (a f g : Int) (w : World) : Calls Tryz.prog 124 #[.agg #[.int .i64 a, .int .i64 f, .int .i64 g]] w fun e w' => e = .returned (.bool (actOk a f g)) ∧ Below w.heap.size w w' := by
  refine enter (args := [_]) (m := []) (F := []) Tryz.func124 rfl Tryz.ntmps124 (by simp) rfl ?_
  have hc : a = 0 ∨ a = 1 ∨ a = 2 ∨ a = 3 ∨ a = 5 ∨ a = 4 ∨ a = 6 ∨ a = 7 ∨ ¬ (0 ≤ a ∧ a ≤ 7) := by omega
  rcases hc with rfl | rfl | rfl | rfl | rfl | rfl | rfl | rfl | hout
  all_goals (repeat' (first | (refine CW_seq ?_; (repeat' (first|refine zza ?_|refine zc9 ?_|refine zzb fun w hw => ?_|refine zzh fun _ => ?_|refine zzi fun _ _ => ?_|refine zzj (fun _ => ?_) fun _ => ?_))) | ((first|refine zza ?_|refine zc9 ?_|refine zzb fun w hw => ?_|refine zzh fun _ => ?_|refine zzi fun _ _ => ?_|refine zzj (fun _ => ?_) fun _ => ?_); (repeat' (first|refine zza ?_|refine zc9 ?_|refine zzb fun w hw => ?_|refine zzh fun _ => ?_|refine zzi fun _ _ => ?_|refine zzj (fun _ => ?_) fun _ => ?_))) | ((apply WL_callV; rfl; rfl; rfl; (intro W hW; exact tree_glyph f W)); (repeat' (first|refine zza ?_|refine zc9 ?_|refine zzb fun w hw => ?_|refine zzh fun _ => ?_|refine zzi fun _ _ => ?_|refine zzj (fun _ => ?_) fun _ => ?_))) | ((apply WL_callV; rfl; rfl; rfl; (intro W hW; exact tree_glyph g W)); (repeat' (first|refine zza ?_|refine zc9 ?_|refine zzb fun w hw => ?_|refine zzh fun _ => ?_|refine zzi fun _ _ => ?_|refine zzj (fun _ => ?_) fun _ => ?_))) | ((apply WQ_callV; rfl; rfl; rfl; (intro W hW; exact tree_glyph f W)); (repeat' (first|refine zza ?_|refine zc9 ?_|refine zzb fun w hw => ?_|refine zzh fun _ => ?_|refine zzi fun _ _ => ?_|refine zzj (fun _ => ?_) fun _ => ?_))) | ((apply WQ_callV; rfl; rfl; rfl; (intro W hW; exact tree_glyph g W)); (repeat' (first|refine zza ?_|refine zc9 ?_|refine zzb fun w hw => ?_|refine zzh fun _ => ?_|refine zzi fun _ _ => ?_|refine zzj (fun _ => ?_) fun _ => ?_)))))
  all_goals (refine ⟨congrArg (fun b => Ending.returned (.bool b)) ?_, hw.below⟩; rw [Bool.eq_iff_iff])
  all_goals (first | (simp_all [actOk]; done) | (simp_all [actOk]; omega) | (unfold actOk; rw [if_neg (by omega), if_neg (by omega), if_neg (by omega)]))
end Go.Proofs.YtllgkdkjcbohcaaGreatDoor
namespace Go.Proofs.YtllgkdkjcbohcaaGreatDoor
open Go.RowKit
set_option maxHeartbeats 8000000 in
set_option maxRecDepth 100000 in
theorem tree_right (i : NodM) (w : World) (ht : i.text.length ≤ 4294967280) (hx : i.nums.xs.length ≤ 4294967280) (hG : GlobA w) :
    Calls Tryz.prog 73 #[.agg (nodE i).toArray] w fun e w' => e = .returned (.bool (rightN i.nod)) ∧ Below w.heap.size w w' := by
  obtain ⟨op, aop, af, ag, n, ⟨p, c, xs⟩, text⟩ := i
  dsimp only [NodM.nod, nodE] at ht hx ⊢
  obtain ⟨L, hL⟩ : ∃ L, L = xs.length := ⟨_, rfl⟩
  have hxs : decide (xs ≠ []) = decide (0 < L) := by
    rw [hL, decide_eq_decide]; exact List.length_pos_iff.symm
  obtain ⟨Z, hZ⟩ : ∃ Z, Z = rightN ⟨op, aop, af, ag, n, xs, text⟩ := ⟨_, rfl⟩
  have hZ' := hZ
  unfold rightN at hZ'
  dsimp only at hZ'
  rw [hxs] at hZ'
  rw [← hZ, ← hL]
  rw [← hL] at hx
  have hS := fun (k : Int) (W : World) b (hR : Row tokE 5 W.cell? (some ⟨b, 0, none⟩) 1 [⟨k, 0, 0, text, 0⟩]) (hg : GlobA W) => lex_Spell _ _ [⟨k, 0, 0, text, 0⟩] W hR ⟨by simp [I64], by simpa using ht⟩ hg
  refine enter (args := [_]) (m := []) (F := []) Tryz.func73 rfl Tryz.ntmps73 (by simp) rfl ?_
  clear hZ hL hxs
  by_cases hbad : decide (op = 1) = decide (0 < L)
  · rw [hbad] at hZ'
    have hb1 : op = 1 ↔ 0 < L := decide_eq_decide.1 hbad
    have hc : op = 1 ∨ op = 2 ∨ op = 3 ∨ op = 4 ∨ op = 5 ∨ op = 6 ∨ op = 7 ∨ op = 8 ∨ op = 9 ∨ ¬ (1 ≤ op ∧ op ≤ 9) := by omega
    rcases hc with rfl | rfl | rfl | rfl | rfl | rfl | rfl | rfl | rfl | hout
    all_goals clear hbad
    · clear hS hG
      (repeat' (first|refine zza ?_|refine zc9 ?_|refine zzb fun w hw => ?_|refine zzh fun _ => ?_|refine zzi fun _ _ => ?_|refine zzj (fun _ => ?_) fun _ => ?_))
      all_goals (repeat' (first | (refine CW_seq ?_; (repeat' (first|refine zza ?_|refine zc9 ?_|refine zzb fun w hw => ?_|refine zzh fun _ => ?_|refine zzi fun _ _ => ?_|refine zzj (fun _ => ?_) fun _ => ?_))) | ((apply WL_callV; rfl; rfl; rfl; (intro W hW; exact tree_rightAct aop af ag W)); (repeat' (first|refine zza ?_|refine zc9 ?_|refine zzb fun w hw => ?_|refine zzh fun _ => ?_|refine zzi fun _ _ => ?_|refine zzj (fun _ => ?_) fun _ => ?_))) | ((apply WQ_callV; rfl; rfl; rfl; (intro W hW; exact tree_rightAct aop af ag W)); (repeat' (first|refine zza ?_|refine zc9 ?_|refine zzb fun w hw => ?_|refine zzh fun _ => ?_|refine zzi fun _ _ => ?_|refine zzj (fun _ => ?_) fun _ => ?_)))))
      all_goals (refine ⟨congrArg (fun b => Ending.returned (.bool b)) ?_, hw.below⟩; subst hZ'; clear hw; rw [Bool.eq_iff_iff]; first | (simp_all; done) | (simp_all; omega) | skip)
    · have hS := hS 2
      have hsp : spellOk 2 text = decide ((spellF [⟨2, 0, 0, text, 0⟩]).2 = 0) := rfl
      by_cases he : (spellF [⟨2, 0, 0, text, 0⟩]).2 = 0
      · rw [decide_eq_true he] at hsp
        rw [he, errV_zero] at hS
        (repeat' (first|refine zza ?_|refine zc9 ?_|refine zzb fun w hw => ?_|refine zzh fun _ => ?_|refine zzi fun _ _ => ?_|refine zzj (fun _ => ?_) fun _ => ?_))
        repeat (refine CW_seq ?_; (repeat' (first|refine zza ?_|refine zc9 ?_|refine zzb fun w hw => ?_|refine zzh fun _ => ?_|refine zzi fun _ _ => ?_|refine zzj (fun _ => ?_) fun _ => ?_)))
        (apply WL_callV; rfl; rfl; rfl; (intro W hW; exact hS W _ (row_blk (enc := tokE) (xs := [⟨2, 0, 0, text, 0⟩]) hW .here (fun _ => rfl) (by simp)) (hG.below hW.below)))
        clear hS hG he
        (repeat' (first|refine zza ?_|refine zc9 ?_|refine zzb fun w hw => ?_|refine zzh fun _ => ?_|refine zzi fun _ _ => ?_|refine zzj (fun _ => ?_) fun _ => ?_))
        all_goals (repeat' (first | (refine CW_seq ?_; (repeat' (first|refine zza ?_|refine zc9 ?_|refine zzb fun w hw => ?_|refine zzh fun _ => ?_|refine zzi fun _ _ => ?_|refine zzj (fun _ => ?_) fun _ => ?_))) | ((apply WL_callV; rfl; rfl; rfl; (intro W hW; exact tree_rightAct aop af ag W)); (repeat' (first|refine zza ?_|refine zc9 ?_|refine zzb fun w hw => ?_|refine zzh fun _ => ?_|refine zzi fun _ _ => ?_|refine zzj (fun _ => ?_) fun _ => ?_))) | ((apply WQ_callV; rfl; rfl; rfl; (intro W hW; exact tree_rightAct aop af ag W)); (repeat' (first|refine zza ?_|refine zc9 ?_|refine zzb fun w hw => ?_|refine zzh fun _ => ?_|refine zzi fun _ _ => ?_|refine zzj (fun _ => ?_) fun _ => ?_)))))
        all_goals (refine ⟨congrArg (fun b => Ending.returned (.bool b)) ?_, hw.below⟩; subst hZ'; clear hw; rw [Bool.eq_iff_iff]; first | (simp_all; done) | (simp_all; omega) | skip)
      · rw [decide_eq_false he] at hsp
        rw [errV_ne he] at hS
        (repeat' (first|refine zza ?_|refine zc9 ?_|refine zzb fun w hw => ?_|refine zzh fun _ => ?_|refine zzi fun _ _ => ?_|refine zzj (fun _ => ?_) fun _ => ?_))
        repeat (refine CW_seq ?_; (repeat' (first|refine zza ?_|refine zc9 ?_|refine zzb fun w hw => ?_|refine zzh fun _ => ?_|refine zzi fun _ _ => ?_|refine zzj (fun _ => ?_) fun _ => ?_)))
        (apply WL_callV; rfl; rfl; rfl; (intro W hW; exact hS W _ (row_blk (enc := tokE) (xs := [⟨2, 0, 0, text, 0⟩]) hW .here (fun _ => rfl) (by simp)) (hG.below hW.below)))
        clear hS hG he
        (repeat' (first|refine zza ?_|refine zc9 ?_|refine zzb fun w hw => ?_|refine zzh fun _ => ?_|refine zzi fun _ _ => ?_|refine zzj (fun _ => ?_) fun _ => ?_))
        all_goals (repeat' (first | (refine CW_seq ?_; (repeat' (first|refine zza ?_|refine zc9 ?_|refine zzb fun w hw => ?_|refine zzh fun _ => ?_|refine zzi fun _ _ => ?_|refine zzj (fun _ => ?_) fun _ => ?_))) | ((apply WL_callV; rfl; rfl; rfl; (intro W hW; exact tree_rightAct aop af ag W)); (repeat' (first|refine zza ?_|refine zc9 ?_|refine zzb fun w hw => ?_|refine zzh fun _ => ?_|refine zzi fun _ _ => ?_|refine zzj (fun _ => ?_) fun _ => ?_))) | ((apply WQ_callV; rfl; rfl; rfl; (intro W hW; exact tree_rightAct aop af ag W)); (repeat' (first|refine zza ?_|refine zc9 ?_|refine zzb fun w hw => ?_|refine zzh fun _ => ?_|refine zzi fun _ _ => ?_|refine zzj (fun _ => ?_) fun _ => ?_)))))
        all_goals (refine ⟨congrArg (fun b => Ending.returned (.bool b)) ?_, hw.below⟩; subst hZ'; clear hw; rw [Bool.eq_iff_iff]; first | (simp_all; done) | (simp_all; omega) | skip)
    · have hS := hS 3
      have hsp : spellOk 3 text = decide ((spellF [⟨3, 0, 0, text, 0⟩]).2 = 0) := rfl
      by_cases he : (spellF [⟨3, 0, 0, text, 0⟩]).2 = 0
      · rw [decide_eq_true he] at hsp
        rw [he, errV_zero] at hS
        (repeat' (first|refine zza ?_|refine zc9 ?_|refine zzb fun w hw => ?_|refine zzh fun _ => ?_|refine zzi fun _ _ => ?_|refine zzj (fun _ => ?_) fun _ => ?_))
        repeat (refine CW_seq ?_; (repeat' (first|refine zza ?_|refine zc9 ?_|refine zzb fun w hw => ?_|refine zzh fun _ => ?_|refine zzi fun _ _ => ?_|refine zzj (fun _ => ?_) fun _ => ?_)))
        (apply WL_callV; rfl; rfl; rfl; (intro W hW; exact hS W _ (row_blk (enc := tokE) (xs := [⟨3, 0, 0, text, 0⟩]) hW .here (fun _ => rfl) (by simp)) (hG.below hW.below)))
        clear hS hG he
        (repeat' (first|refine zza ?_|refine zc9 ?_|refine zzb fun w hw => ?_|refine zzh fun _ => ?_|refine zzi fun _ _ => ?_|refine zzj (fun _ => ?_) fun _ => ?_))
        all_goals (repeat' (first | (refine CW_seq ?_; (repeat' (first|refine zza ?_|refine zc9 ?_|refine zzb fun w hw => ?_|refine zzh fun _ => ?_|refine zzi fun _ _ => ?_|refine zzj (fun _ => ?_) fun _ => ?_))) | ((apply WL_callV; rfl; rfl; rfl; (intro W hW; exact tree_rightAct aop af ag W)); (repeat' (first|refine zza ?_|refine zc9 ?_|refine zzb fun w hw => ?_|refine zzh fun _ => ?_|refine zzi fun _ _ => ?_|refine zzj (fun _ => ?_) fun _ => ?_))) | ((apply WQ_callV; rfl; rfl; rfl; (intro W hW; exact tree_rightAct aop af ag W)); (repeat' (first|refine zza ?_|refine zc9 ?_|refine zzb fun w hw => ?_|refine zzh fun _ => ?_|refine zzi fun _ _ => ?_|refine zzj (fun _ => ?_) fun _ => ?_)))))
        all_goals (refine ⟨congrArg (fun b => Ending.returned (.bool b)) ?_, hw.below⟩; subst hZ'; clear hw; rw [Bool.eq_iff_iff]; first | (simp_all; done) | (simp_all; omega) | skip)
      · rw [decide_eq_false he] at hsp
        rw [errV_ne he] at hS
        (repeat' (first|refine zza ?_|refine zc9 ?_|refine zzb fun w hw => ?_|refine zzh fun _ => ?_|refine zzi fun _ _ => ?_|refine zzj (fun _ => ?_) fun _ => ?_))
        repeat (refine CW_seq ?_; (repeat' (first|refine zza ?_|refine zc9 ?_|refine zzb fun w hw => ?_|refine zzh fun _ => ?_|refine zzi fun _ _ => ?_|refine zzj (fun _ => ?_) fun _ => ?_)))
        (apply WL_callV; rfl; rfl; rfl; (intro W hW; exact hS W _ (row_blk (enc := tokE) (xs := [⟨3, 0, 0, text, 0⟩]) hW .here (fun _ => rfl) (by simp)) (hG.below hW.below)))
        clear hS hG he
        (repeat' (first|refine zza ?_|refine zc9 ?_|refine zzb fun w hw => ?_|refine zzh fun _ => ?_|refine zzi fun _ _ => ?_|refine zzj (fun _ => ?_) fun _ => ?_))
        all_goals (repeat' (first | (refine CW_seq ?_; (repeat' (first|refine zza ?_|refine zc9 ?_|refine zzb fun w hw => ?_|refine zzh fun _ => ?_|refine zzi fun _ _ => ?_|refine zzj (fun _ => ?_) fun _ => ?_))) | ((apply WL_callV; rfl; rfl; rfl; (intro W hW; exact tree_rightAct aop af ag W)); (repeat' (first|refine zza ?_|refine zc9 ?_|refine zzb fun w hw => ?_|refine zzh fun _ => ?_|refine zzi fun _ _ => ?_|refine zzj (fun _ => ?_) fun _ => ?_))) | ((apply WQ_callV; rfl; rfl; rfl; (intro W hW; exact tree_rightAct aop af ag W)); (repeat' (first|refine zza ?_|refine zc9 ?_|refine zzb fun w hw => ?_|refine zzh fun _ => ?_|refine zzi fun _ _ => ?_|refine zzj (fun _ => ?_) fun _ => ?_)))))
        all_goals (refine ⟨congrArg (fun b => Ending.returned (.bool b)) ?_, hw.below⟩; subst hZ'; clear hw; rw [Bool.eq_iff_iff]; first | (simp_all; done) | (simp_all; omega) | skip)
    · clear hS hG
      (repeat' (first|refine zza ?_|refine zc9 ?_|refine zzb fun w hw => ?_|refine zzh fun _ => ?_|refine zzi fun _ _ => ?_|refine zzj (fun _ => ?_) fun _ => ?_))
      all_goals (repeat' (first | (refine CW_seq ?_; (repeat' (first|refine zza ?_|refine zc9 ?_|refine zzb fun w hw => ?_|refine zzh fun _ => ?_|refine zzi fun _ _ => ?_|refine zzj (fun _ => ?_) fun _ => ?_))) | ((apply WL_callV; rfl; rfl; rfl; (intro W hW; exact tree_rightAct aop af ag W)); (repeat' (first|refine zza ?_|refine zc9 ?_|refine zzb fun w hw => ?_|refine zzh fun _ => ?_|refine zzi fun _ _ => ?_|refine zzj (fun _ => ?_) fun _ => ?_))) | ((apply WQ_callV; rfl; rfl; rfl; (intro W hW; exact tree_rightAct aop af ag W)); (repeat' (first|refine zza ?_|refine zc9 ?_|refine zzb fun w hw => ?_|refine zzh fun _ => ?_|refine zzi fun _ _ => ?_|refine zzj (fun _ => ?_) fun _ => ?_)))))
      all_goals (refine ⟨congrArg (fun b => Ending.returned (.bool b)) ?_, hw.below⟩; subst hZ'; clear hw; rw [Bool.eq_iff_iff]; first | (simp_all; done) | (simp_all; omega) | skip)
    · clear hS hG
      (repeat' (first|refine zza ?_|refine zc9 ?_|refine zzb fun w hw => ?_|refine zzh fun _ => ?_|refine zzi fun _ _ => ?_|refine zzj (fun _ => ?_) fun _ => ?_))
      all_goals (repeat' (first | (refine CW_seq ?_; (repeat' (first|refine zza ?_|refine zc9 ?_|refine zzb fun w hw => ?_|refine zzh fun _ => ?_|refine zzi fun _ _ => ?_|refine zzj (fun _ => ?_) fun _ => ?_))) | ((apply WL_callV; rfl; rfl; rfl; (intro W hW; exact tree_rightAct aop af ag W)); (repeat' (first|refine zza ?_|refine zc9 ?_|refine zzb fun w hw => ?_|refine zzh fun _ => ?_|refine zzi fun _ _ => ?_|refine zzj (fun _ => ?_) fun _ => ?_))) | ((apply WQ_callV; rfl; rfl; rfl; (intro W hW; exact tree_rightAct aop af ag W)); (repeat' (first|refine zza ?_|refine zc9 ?_|refine zzb fun w hw => ?_|refine zzh fun _ => ?_|refine zzi fun _ _ => ?_|refine zzj (fun _ => ?_) fun _ => ?_)))))
      all_goals (refine ⟨congrArg (fun b => Ending.returned (.bool b)) ?_, hw.below⟩; subst hZ'; clear hw; rw [Bool.eq_iff_iff]; first | (simp_all; done) | (simp_all; omega) | skip)
    · clear hS hG
      have hA := fun W => tree_rightAct aop af ag W
      generalize actOk aop af ag = q at hA hZ'
      cases q with
      | true =>
        (repeat' (first|refine zza ?_|refine zc9 ?_|refine zzb fun w hw => ?_|refine zzh fun _ => ?_|refine zzi fun _ _ => ?_|refine zzj (fun _ => ?_) fun _ => ?_))
        all_goals (repeat' (first | (refine CW_seq ?_; (repeat' (first|refine zza ?_|refine zc9 ?_|refine zzb fun w hw => ?_|refine zzh fun _ => ?_|refine zzi fun _ _ => ?_|refine zzj (fun _ => ?_) fun _ => ?_))) | ((apply WL_callV; rfl; rfl; rfl; (intro W hW; exact hA W)); (repeat' (first|refine zza ?_|refine zc9 ?_|refine zzb fun w hw => ?_|refine zzh fun _ => ?_|refine zzi fun _ _ => ?_|refine zzj (fun _ => ?_) fun _ => ?_))) | ((apply WQ_callV; rfl; rfl; rfl; (intro W hW; exact hA W)); (repeat' (first|refine zza ?_|refine zc9 ?_|refine zzb fun w hw => ?_|refine zzh fun _ => ?_|refine zzi fun _ _ => ?_|refine zzj (fun _ => ?_) fun _ => ?_)))))
        all_goals clear hA
        all_goals (refine ⟨congrArg (fun b => Ending.returned (.bool b)) ?_, hw.below⟩; subst hZ'; clear hw; rw [Bool.eq_iff_iff]; first | (simp_all; done) | (simp_all; omega) | skip)
      | false =>
        (repeat' (first|refine zza ?_|refine zc9 ?_|refine zzb fun w hw => ?_|refine zzh fun _ => ?_|refine zzi fun _ _ => ?_|refine zzj (fun _ => ?_) fun _ => ?_))
        all_goals (repeat' (first | (refine CW_seq ?_; (repeat' (first|refine zza ?_|refine zc9 ?_|refine zzb fun w hw => ?_|refine zzh fun _ => ?_|refine zzi fun _ _ => ?_|refine zzj (fun _ => ?_) fun _ => ?_))) | ((apply WL_callV; rfl; rfl; rfl; (intro W hW; exact hA W)); (repeat' (first|refine zza ?_|refine zc9 ?_|refine zzb fun w hw => ?_|refine zzh fun _ => ?_|refine zzi fun _ _ => ?_|refine zzj (fun _ => ?_) fun _ => ?_))) | ((apply WQ_callV; rfl; rfl; rfl; (intro W hW; exact hA W)); (repeat' (first|refine zza ?_|refine zc9 ?_|refine zzb fun w hw => ?_|refine zzh fun _ => ?_|refine zzi fun _ _ => ?_|refine zzj (fun _ => ?_) fun _ => ?_)))))
        all_goals clear hA
        all_goals (refine ⟨congrArg (fun b => Ending.returned (.bool b)) ?_, hw.below⟩; subst hZ'; clear hw; rw [Bool.eq_iff_iff]; first | (simp_all; done) | (simp_all; omega) | skip)
    · clear hS hG
      have hA := fun W => tree_rightAct aop af ag W
      generalize actOk aop af ag = q at hA hZ'
      cases q with
      | true =>
        (repeat' (first|refine zza ?_|refine zc9 ?_|refine zzb fun w hw => ?_|refine zzh fun _ => ?_|refine zzi fun _ _ => ?_|refine zzj (fun _ => ?_) fun _ => ?_))
        all_goals (repeat' (first | (refine CW_seq ?_; (repeat' (first|refine zza ?_|refine zc9 ?_|refine zzb fun w hw => ?_|refine zzh fun _ => ?_|refine zzi fun _ _ => ?_|refine zzj (fun _ => ?_) fun _ => ?_))) | ((apply WL_callV; rfl; rfl; rfl; (intro W hW; exact hA W)); (repeat' (first|refine zza ?_|refine zc9 ?_|refine zzb fun w hw => ?_|refine zzh fun _ => ?_|refine zzi fun _ _ => ?_|refine zzj (fun _ => ?_) fun _ => ?_))) | ((apply WQ_callV; rfl; rfl; rfl; (intro W hW; exact hA W)); (repeat' (first|refine zza ?_|refine zc9 ?_|refine zzb fun w hw => ?_|refine zzh fun _ => ?_|refine zzi fun _ _ => ?_|refine zzj (fun _ => ?_) fun _ => ?_)))))
        all_goals clear hA
        all_goals (refine ⟨congrArg (fun b => Ending.returned (.bool b)) ?_, hw.below⟩; subst hZ'; clear hw; rw [Bool.eq_iff_iff]; first | (simp_all; done) | (simp_all; omega) | skip)
      | false =>
        (repeat' (first|refine zza ?_|refine zc9 ?_|refine zzb fun w hw => ?_|refine zzh fun _ => ?_|refine zzi fun _ _ => ?_|refine zzj (fun _ => ?_) fun _ => ?_))
        all_goals (repeat' (first | (refine CW_seq ?_; (repeat' (first|refine zza ?_|refine zc9 ?_|refine zzb fun w hw => ?_|refine zzh fun _ => ?_|refine zzi fun _ _ => ?_|refine zzj (fun _ => ?_) fun _ => ?_))) | ((apply WL_callV; rfl; rfl; rfl; (intro W hW; exact hA W)); (repeat' (first|refine zza ?_|refine zc9 ?_|refine zzb fun w hw => ?_|refine zzh fun _ => ?_|refine zzi fun _ _ => ?_|refine zzj (fun _ => ?_) fun _ => ?_))) | ((apply WQ_callV; rfl; rfl; rfl; (intro W hW; exact hA W)); (repeat' (first|refine zza ?_|refine zc9 ?_|refine zzb fun w hw => ?_|refine zzh fun _ => ?_|refine zzi fun _ _ => ?_|refine zzj (fun _ => ?_) fun _ => ?_)))))
        all_goals clear hA
        all_goals (refine ⟨congrArg (fun b => Ending.returned (.bool b)) ?_, hw.below⟩; subst hZ'; clear hw; rw [Bool.eq_iff_iff]; first | (simp_all; done) | (simp_all; omega) | skip)
    · clear hS hG
      (repeat' (first|refine zza ?_|refine zc9 ?_|refine zzb fun w hw => ?_|refine zzh fun _ => ?_|refine zzi fun _ _ => ?_|refine zzj (fun _ => ?_) fun _ => ?_))
      all_goals (repeat' (first | (refine CW_seq ?_; (repeat' (first|refine zza ?_|refine zc9 ?_|refine zzb fun w hw => ?_|refine zzh fun _ => ?_|refine zzi fun _ _ => ?_|refine zzj (fun _ => ?_) fun _ => ?_))) | ((apply WL_callV; rfl; rfl; rfl; (intro W hW; exact tree_rightAct aop af ag W)); (repeat' (first|refine zza ?_|refine zc9 ?_|refine zzb fun w hw => ?_|refine zzh fun _ => ?_|refine zzi fun _ _ => ?_|refine zzj (fun _ => ?_) fun _ => ?_))) | ((apply WQ_callV; rfl; rfl; rfl; (intro W hW; exact tree_rightAct aop af ag W)); (repeat' (first|refine zza ?_|refine zc9 ?_|refine zzb fun w hw => ?_|refine zzh fun _ => ?_|refine zzi fun _ _ => ?_|refine zzj (fun _ => ?_) fun _ => ?_)))))
      all_goals (refine ⟨congrArg (fun b => Ending.returned (.bool b)) ?_, hw.below⟩; subst hZ'; clear hw; rw [Bool.eq_iff_iff]; first | (simp_all; done) | (simp_all; omega) | skip)
    · have hS := hS 3
      have hsp : spellOk 3 text = decide ((spellF [⟨3, 0, 0, text, 0⟩]).2 = 0) := rfl
      by_cases he : (spellF [⟨3, 0, 0, text, 0⟩]).2 = 0
      · rw [decide_eq_true he] at hsp
        rw [he, errV_zero] at hS
        (repeat' (first|refine zza ?_|refine zc9 ?_|refine zzb fun w hw => ?_|refine zzh fun _ => ?_|refine zzi fun _ _ => ?_|refine zzj (fun _ => ?_) fun _ => ?_))
        repeat (refine CW_seq ?_; (repeat' (first|refine zza ?_|refine zc9 ?_|refine zzb fun w hw => ?_|refine zzh fun _ => ?_|refine zzi fun _ _ => ?_|refine zzj (fun _ => ?_) fun _ => ?_)))
        (apply WL_callV; rfl; rfl; rfl; (intro W hW; exact hS W _ (row_blk (enc := tokE) (xs := [⟨3, 0, 0, text, 0⟩]) hW .here (fun _ => rfl) (by simp)) (hG.below hW.below)))
        clear hS hG he
        (repeat' (first|refine zza ?_|refine zc9 ?_|refine zzb fun w hw => ?_|refine zzh fun _ => ?_|refine zzi fun _ _ => ?_|refine zzj (fun _ => ?_) fun _ => ?_))
        all_goals (repeat' (first | (refine CW_seq ?_; (repeat' (first|refine zza ?_|refine zc9 ?_|refine zzb fun w hw => ?_|refine zzh fun _ => ?_|refine zzi fun _ _ => ?_|refine zzj (fun _ => ?_) fun _ => ?_))) | ((apply WL_callV; rfl; rfl; rfl; (intro W hW; exact tree_rightAct aop af ag W)); (repeat' (first|refine zza ?_|refine zc9 ?_|refine zzb fun w hw => ?_|refine zzh fun _ => ?_|refine zzi fun _ _ => ?_|refine zzj (fun _ => ?_) fun _ => ?_))) | ((apply WQ_callV; rfl; rfl; rfl; (intro W hW; exact tree_rightAct aop af ag W)); (repeat' (first|refine zza ?_|refine zc9 ?_|refine zzb fun w hw => ?_|refine zzh fun _ => ?_|refine zzi fun _ _ => ?_|refine zzj (fun _ => ?_) fun _ => ?_)))))
        all_goals (refine ⟨congrArg (fun b => Ending.returned (.bool b)) ?_, hw.below⟩; subst hZ'; clear hw; rw [Bool.eq_iff_iff]; first | (simp_all; done) | (simp_all; omega) | skip)
      · rw [decide_eq_false he] at hsp
        rw [errV_ne he] at hS
        (repeat' (first|refine zza ?_|refine zc9 ?_|refine zzb fun w hw => ?_|refine zzh fun _ => ?_|refine zzi fun _ _ => ?_|refine zzj (fun _ => ?_) fun _ => ?_))
        repeat (refine CW_seq ?_; (repeat' (first|refine zza ?_|refine zc9 ?_|refine zzb fun w hw => ?_|refine zzh fun _ => ?_|refine zzi fun _ _ => ?_|refine zzj (fun _ => ?_) fun _ => ?_)))
        (apply WL_callV; rfl; rfl; rfl; (intro W hW; exact hS W _ (row_blk (enc := tokE) (xs := [⟨3, 0, 0, text, 0⟩]) hW .here (fun _ => rfl) (by simp)) (hG.below hW.below)))
        clear hS hG he
        (repeat' (first|refine zza ?_|refine zc9 ?_|refine zzb fun w hw => ?_|refine zzh fun _ => ?_|refine zzi fun _ _ => ?_|refine zzj (fun _ => ?_) fun _ => ?_))
        all_goals (repeat' (first | (refine CW_seq ?_; (repeat' (first|refine zza ?_|refine zc9 ?_|refine zzb fun w hw => ?_|refine zzh fun _ => ?_|refine zzi fun _ _ => ?_|refine zzj (fun _ => ?_) fun _ => ?_))) | ((apply WL_callV; rfl; rfl; rfl; (intro W hW; exact tree_rightAct aop af ag W)); (repeat' (first|refine zza ?_|refine zc9 ?_|refine zzb fun w hw => ?_|refine zzh fun _ => ?_|refine zzi fun _ _ => ?_|refine zzj (fun _ => ?_) fun _ => ?_))) | ((apply WQ_callV; rfl; rfl; rfl; (intro W hW; exact tree_rightAct aop af ag W)); (repeat' (first|refine zza ?_|refine zc9 ?_|refine zzb fun w hw => ?_|refine zzh fun _ => ?_|refine zzi fun _ _ => ?_|refine zzj (fun _ => ?_) fun _ => ?_)))))
        all_goals (refine ⟨congrArg (fun b => Ending.returned (.bool b)) ?_, hw.below⟩; subst hZ'; clear hw; rw [Bool.eq_iff_iff]; first | (simp_all; done) | (simp_all; omega) | skip)
    · rw [if_neg (show ¬ (op = 3 ∨ op = 9) by omega), if_neg (show ¬ op = 2 by omega), if_neg (show ¬ op = 8 by omega), if_neg (show ¬ (op = 6 ∨ op = 7) by omega)] at hZ'
      clear hS hG
      (repeat' (first|refine zza ?_|refine zc9 ?_|refine zzb fun w hw => ?_|refine zzh fun _ => ?_|refine zzi fun _ _ => ?_|refine zzj (fun _ => ?_) fun _ => ?_))
      all_goals (repeat' (first | (refine CW_seq ?_; (repeat' (first|refine zza ?_|refine zc9 ?_|refine zzb fun w hw => ?_|refine zzh fun _ => ?_|refine zzi fun _ _ => ?_|refine zzj (fun _ => ?_) fun _ => ?_))) | ((apply WL_callV; rfl; rfl; rfl; (intro W hW; exact tree_rightAct aop af ag W)); (repeat' (first|refine zza ?_|refine zc9 ?_|refine zzb fun w hw => ?_|refine zzh fun _ => ?_|refine zzi fun _ _ => ?_|refine zzj (fun _ => ?_) fun _ => ?_))) | ((apply WQ_callV; rfl; rfl; rfl; (intro W hW; exact tree_rightAct aop af ag W)); (repeat' (first|refine zza ?_|refine zc9 ?_|refine zzb fun w hw => ?_|refine zzh fun _ => ?_|refine zzi fun _ _ => ?_|refine zzj (fun _ => ?_) fun _ => ?_)))))
      all_goals (refine ⟨congrArg (fun b => Ending.returned (.bool b)) ?_, hw.below⟩; subst hZ'; clear hw; rw [Bool.eq_iff_iff]; first | (simp_all; done) | (simp_all; omega) | skip)
  · clear hS hG
    (repeat' (first|refine zza ?_|refine zc9 ?_|refine zzb fun w hw => ?_|refine zzh fun _ => ?_|refine zzi fun _ _ => ?_|refine zzj (fun _ => ?_) fun _ => ?_))
    all_goals (refine ⟨congrArg (fun b => Ending.returned (.bool b)) ?_, hw.below⟩; subst hZ'; clear hw; rw [Bool.eq_iff_iff]; first | (simp_all; done) | (simp_all; omega) | skip)
end Go.Proofs.YtllgkdkjcbohcaaGreatDoor
