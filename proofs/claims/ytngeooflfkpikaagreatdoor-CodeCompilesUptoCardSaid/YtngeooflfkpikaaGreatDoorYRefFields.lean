/-
  ravelinref3: Fields: are a node's fields right?
-/
import Derived.Test.YtngeooflfkpikaaGreatDoorYGo
import Derived.Test.YtngeooflfkpikaaGreatDoorYRefTree
namespace Go.Proofs.YtngeooflfkpikaaGreatDoor
open Go.RowKit
/-- what an act may be where a node has none -/
def actZ (op aop af ag n : Int) : Bool := if op = 8 then decide (0 < n ∧ aop = 0 ∧ af = 0 ∧ ag = 0)
   else if op = 6 ∨ op = 7 then actOk aop af ag && decide (0 ≤ n ∧ (n = 0 ∨ aop = 6))
   else decide (n = 0 ∧ aop = 0 ∧ af = 0 ∧ ag = 0)
set_option maxHeartbeats 8000000 in
set_option maxRecDepth 100000 in
theorem fields_tail (op aop af ag n : Int) (p : Option Addr) (L c b : Nat) (text : List UInt8) (u0 : World) :
    CW Tryz.prog ⟨147, [], u0, []⟩ (QBody Tryz.prog Tryz.f72 fun e w' => e = .returned (.bool (actZ op aop af ag n)) ∧ Below u0.heap.size u0 w') (cP [1, 1, 1, 1, 1, 1] ((Tryz.f72.body).getD .skip)) [(1, .pointer (some ⟨b, 0, none⟩))]
      [blk b 44 #[.int .i64 op, .int .i64 aop, .int .i64 af, .int .i64 ag, .int .i64 n, .slice p L c, .string ⟨text.toArray⟩]] := by
  conv =>
    pattern cP _ _
    whnf
  obtain ⟨Z, hZ⟩ : ∃ Z, Z = actZ op aop af ag n := ⟨_, rfl⟩
  rw [← hZ]
  unfold actZ at hZ
  refine CW_seq ?_
  refine zza ?_
  refine zza ?_
  refine zza ?_
  refine zzh fun b2 => ?_
  refine zza ?_
  refine WL_ent (m' := [blk b2 41 #[.int .i64 aop, .int .i64 af, .int .i64 ag], blk b 44 #[.int .i64 op, .int .i64 aop, .int .i64 af, .int .i64 ag, .int .i64 n, .slice p L c, .string ⟨text.toArray⟩]]) (Ent.consK (k := Ent.cons .here Ent.nil) .here) ?_
  have hc : (op = 6 ∨ op = 7) ∨ op = 8 ∨ (op ≠ 6 ∧ op ≠ 7 ∧ op ≠ 8) := by omega
  rcases hc with h67 | rfl | ⟨h6, h7, h8⟩
  · rw [if_neg (by omega), if_pos h67] at hZ
    have key := fields_act op aop af ag n p L c b b2 text Z hZ u0
    clear hZ
    rcases h67 with rfl | rfl
    · refine zza ?_
      refine zza ?_
      refine zza ?_
      refine CW_seq ?_
      repeat' (first | exact CW_cov zcov key | refine zza ?_)
    · refine zza ?_
      refine zza ?_
      refine zza ?_
      refine CW_seq ?_
      repeat' (first | exact CW_cov zcov key | refine zza ?_)
  · rw [if_pos rfl] at hZ
    (repeat' (first|refine zza ?_|refine zc9 ?_|refine zzb fun w hw => ?_|refine zzh fun _ => ?_|refine zzi fun _ _ => ?_|refine zzj (fun _ => ?_) fun _ => ?_))
    all_goals (repeat' (first | (refine CW_seq ?_; (repeat' (first|refine zza ?_|refine zc9 ?_|refine zzb fun w hw => ?_|refine zzh fun _ => ?_|refine zzi fun _ _ => ?_|refine zzj (fun _ => ?_) fun _ => ?_)))))
    all_goals (refine ⟨congrArg (fun b => Ending.returned (.bool b)) ?_, hw.below⟩; subst hZ; clear hw; rw [Bool.eq_iff_iff]; first | (simp_all; done) | (simp_all; omega) | skip)
  · rw [if_neg h8, if_neg (by omega)] at hZ
    (repeat' (first|refine zza ?_|refine zc9 ?_|refine zzb fun w hw => ?_|refine zzh fun _ => ?_|refine zzi fun _ _ => ?_|refine zzj (fun _ => ?_) fun _ => ?_))
    all_goals (repeat' (first | (refine CW_seq ?_; (repeat' (first|refine zza ?_|refine zc9 ?_|refine zzb fun w hw => ?_|refine zzh fun _ => ?_|refine zzi fun _ _ => ?_|refine zzj (fun _ => ?_) fun _ => ?_)))))
    all_goals (refine ⟨congrArg (fun b => Ending.returned (.bool b)) ?_, hw.below⟩; subst hZ; clear hw; rw [Bool.eq_iff_iff]; first | (simp_all; done) | (simp_all; omega) | skip)
theorem rightN_eq (op aop af ag n : Int) (xs : List Int) (text : List UInt8) : rightN ⟨op, aop, af, ag, n, xs, text⟩ = ((decide (op = 1) == decide (0 < xs.length)) && (if op = 3 ∨ op = 9 then spellOk 3 text else if op = 2 then spellOk 2 text else decide (text = [])) && actZ op aop af ag n) := by
  have hxs : decide (xs ≠ []) = decide (0 < xs.length) := by
    rw [decide_eq_decide]; exact List.length_pos_iff.symm
  unfold rightN actZ
  rw [hxs]
set_option maxHeartbeats 8000000 in
set_option maxRecDepth 100000 in
theorem ref_FieldsIn (i : NodM) (w : World) (ht : i.text.length ≤ 4294967280) (hx : i.nums.xs.length ≤ 4294967280) :
    Calls Tryz.prog 72 #[.agg (nodE i).toArray] w fun e w' => e = .returned (.bool (decide (1 ≤ i.op ∧ i.op ≤ 9) && rightN i.nod)) ∧ Below w.heap.size w w' := by
  obtain ⟨op, aop, af, ag, n, ⟨p, c, xs⟩, text⟩ := i
  dsimp only [NodM.nod, nodE] at ht hx ⊢
  rw [rightN_eq]
  obtain ⟨L, hL⟩ : ∃ L, L = xs.length := ⟨_, rfl⟩
  rw [← hL] at hx ⊢
  clear hL
  have hS := fun (k : Int) (W : World) => ref_Alone ⟨k, 0, 0, text, 0⟩ (by simp [I64]) (by simp [I64]) ht W
  refine enter (args := [_]) (m := []) (F := []) Tryz.func72 rfl Tryz.ntmps72 (by simp) rfl ?_
  by_cases hin : 1 ≤ op ∧ op ≤ 9
  case neg =>
    rw [decide_eq_false hin, Bool.false_and]
    clear hS
    have hin' : op < 1 ∨ 9 < op := by omega
    clear hin
    rcases hin' with h | h
    · (repeat' (first|refine zza ?_|refine zc9 ?_|refine zzb fun w hw => ?_|refine zzh fun _ => ?_|refine zzi fun _ _ => ?_|refine zzj (fun _ => ?_) fun _ => ?_))
      exact ⟨rfl, hw.below⟩
    · (repeat' (first|refine zza ?_|refine zc9 ?_|refine zzb fun w hw => ?_|refine zzh fun _ => ?_|refine zzi fun _ _ => ?_|refine zzj (fun _ => ?_) fun _ => ?_))
      exact ⟨rfl, hw.below⟩
  rw [decide_eq_true hin, Bool.true_and]
  by_cases hbad : decide (op = 1) = decide (0 < L)
  case neg =>
    have hb2 : decide (op = 1) ≠ decide (0 < (L : Int)) := by simpa using hbad
    have hb1 : (decide (op = 1) == decide (0 < L)) = false := beq_eq_false_iff_ne.2 hbad
    rw [hb1, Bool.false_and, Bool.false_and]
    clear hS hb1 hbad
    (repeat' (first|refine zza ?_|refine zc9 ?_|refine zzb fun w hw => ?_|refine zzh fun _ => ?_|refine zzi fun _ _ => ?_|refine zzj (fun _ => ?_) fun _ => ?_))
    exact ⟨rfl, hw.below⟩
  have hb2 : ¬ (decide (op = 1) ≠ decide (0 < (L : Int))) := by simpa using hbad
  rw [beq_iff_eq.2 hbad, Bool.true_and]
  clear hbad
  have key := fun b => fields_tail op aop af ag n p L c b text w
  have hc : op = 3 ∨ op = 9 ∨ op = 2 ∨ (op ≠ 3 ∧ op ≠ 9 ∧ op ≠ 2) := by omega
  rcases hc with rfl | rfl | rfl | ⟨h3, h9, h2⟩
  · have hS := hS 3
    have hsp : spellOk 3 text = decide (aloneF ⟨3, 0, 0, text, 0⟩ = 0) := by rw [← alone_spell]; rfl
    rw [if_pos (by decide), hsp]
    generalize aloneF ⟨3, 0, 0, text, 0⟩ = e0 at hS
    clear hsp
    by_cases he : e0 = 0
    · rw [decide_eq_true he, Bool.true_and]
      (repeat' (first|refine zza ?_|refine zc9 ?_|refine zzb fun w hw => ?_|refine zzh fun _ => ?_|refine zzi fun _ _ => ?_))
      repeat (refine CW_seq ?_; (repeat' (first|refine zza ?_|refine zc9 ?_|refine zzb fun w hw => ?_|refine zzh fun _ => ?_|refine zzi fun _ _ => ?_)))
      rename_i bx
      have key := key bx
      (apply WL_callV; rfl; rfl; rfl; (intro W hW; exact hS W))
      clear hS
      repeat' (first | exact CW_cov zcov key | refine zza ?_)
      repeat (refine CW_seq ?_; repeat' (first | exact CW_cov zcov key | refine zza ?_))
    · rw [decide_eq_false he, Bool.false_and]
      clear key
      (repeat' (first|refine zza ?_|refine zc9 ?_|refine zzb fun w hw => ?_|refine zzh fun _ => ?_|refine zzi fun _ _ => ?_))
      repeat (refine CW_seq ?_; (repeat' (first|refine zza ?_|refine zc9 ?_|refine zzb fun w hw => ?_|refine zzh fun _ => ?_|refine zzi fun _ _ => ?_)))
      (apply WL_callV; rfl; rfl; rfl; (intro W hW; exact hS W))
      clear hS
      ((repeat' (first|refine zza ?_|refine zc9 ?_|refine zzb fun w hw => ?_|refine zzh fun _ => ?_|refine zzi fun _ _ => ?_|refine zzj (fun _ => ?_) fun _ => ?_)); (repeat' (refine CW_seq ?_; (repeat' (first|refine zza ?_|refine zc9 ?_|refine zzb fun w hw => ?_|refine zzh fun _ => ?_|refine zzi fun _ _ => ?_|refine zzj (fun _ => ?_) fun _ => ?_)))))
      exact ⟨rfl, hw.below⟩
  · have hS := hS 3
    have hsp : spellOk 3 text = decide (aloneF ⟨3, 0, 0, text, 0⟩ = 0) := by rw [← alone_spell]; rfl
    rw [if_pos (by decide), hsp]
    generalize aloneF ⟨3, 0, 0, text, 0⟩ = e0 at hS
    clear hsp
    by_cases he : e0 = 0
    · rw [decide_eq_true he, Bool.true_and]
      (repeat' (first|refine zza ?_|refine zc9 ?_|refine zzb fun w hw => ?_|refine zzh fun _ => ?_|refine zzi fun _ _ => ?_))
      repeat (refine CW_seq ?_; (repeat' (first|refine zza ?_|refine zc9 ?_|refine zzb fun w hw => ?_|refine zzh fun _ => ?_|refine zzi fun _ _ => ?_)))
      rename_i bx
      have key := key bx
      (apply WL_callV; rfl; rfl; rfl; (intro W hW; exact hS W))
      clear hS
      repeat' (first | exact CW_cov zcov key | refine zza ?_)
      repeat (refine CW_seq ?_; repeat' (first | exact CW_cov zcov key | refine zza ?_))
    · rw [decide_eq_false he, Bool.false_and]
      clear key
      (repeat' (first|refine zza ?_|refine zc9 ?_|refine zzb fun w hw => ?_|refine zzh fun _ => ?_|refine zzi fun _ _ => ?_))
      repeat (refine CW_seq ?_; (repeat' (first|refine zza ?_|refine zc9 ?_|refine zzb fun w hw => ?_|refine zzh fun _ => ?_|refine zzi fun _ _ => ?_)))
      (apply WL_callV; rfl; rfl; rfl; (intro W hW; exact hS W))
      clear hS
      ((repeat' (first|refine zza ?_|refine zc9 ?_|refine zzb fun w hw => ?_|refine zzh fun _ => ?_|refine zzi fun _ _ => ?_|refine zzj (fun _ => ?_) fun _ => ?_)); (repeat' (refine CW_seq ?_; (repeat' (first|refine zza ?_|refine zc9 ?_|refine zzb fun w hw => ?_|refine zzh fun _ => ?_|refine zzi fun _ _ => ?_|refine zzj (fun _ => ?_) fun _ => ?_)))))
      exact ⟨rfl, hw.below⟩
  · have hS := hS 2
    have hsp : spellOk 2 text = decide (aloneF ⟨2, 0, 0, text, 0⟩ = 0) := by rw [← alone_spell]; rfl
    rw [if_neg (by decide), if_pos rfl, hsp]
    generalize aloneF ⟨2, 0, 0, text, 0⟩ = e0 at hS
    clear hsp
    by_cases he : e0 = 0
    · rw [decide_eq_true he, Bool.true_and]
      (repeat' (first|refine zza ?_|refine zc9 ?_|refine zzb fun w hw => ?_|refine zzh fun _ => ?_|refine zzi fun _ _ => ?_))
      repeat (refine CW_seq ?_; (repeat' (first|refine zza ?_|refine zc9 ?_|refine zzb fun w hw => ?_|refine zzh fun _ => ?_|refine zzi fun _ _ => ?_)))
      rename_i bx
      have key := key bx
      (apply WL_callV; rfl; rfl; rfl; (intro W hW; exact hS W))
      clear hS
      repeat' (first | exact CW_cov zcov key | refine zza ?_)
      repeat (refine CW_seq ?_; repeat' (first | exact CW_cov zcov key | refine zza ?_))
    · rw [decide_eq_false he, Bool.false_and]
      clear key
      (repeat' (first|refine zza ?_|refine zc9 ?_|refine zzb fun w hw => ?_|refine zzh fun _ => ?_|refine zzi fun _ _ => ?_))
      repeat (refine CW_seq ?_; (repeat' (first|refine zza ?_|refine zc9 ?_|refine zzb fun w hw => ?_|refine zzh fun _ => ?_|refine zzi fun _ _ => ?_)))
      (apply WL_callV; rfl; rfl; rfl; (intro W hW; exact hS W))
      clear hS
      ((repeat' (first|refine zza ?_|refine zc9 ?_|refine zzb fun w hw => ?_|refine zzh fun _ => ?_|refine zzi fun _ _ => ?_|refine zzj (fun _ => ?_) fun _ => ?_)); (repeat' (refine CW_seq ?_; (repeat' (first|refine zza ?_|refine zc9 ?_|refine zzb fun w hw => ?_|refine zzh fun _ => ?_|refine zzi fun _ _ => ?_|refine zzj (fun _ => ?_) fun _ => ?_)))))
      exact ⟨rfl, hw.below⟩
  rw [if_neg (by omega), if_neg h2]
  clear hS
  by_cases ht0 : text = []
  · rw [decide_eq_true ht0, Bool.true_and]
    repeat' (first | exact CW_cov zcov (key _) | refine zza ?_ | refine zzh fun _ => ?_)
    repeat (refine CW_seq ?_; repeat' (first | exact CW_cov zcov (key _) | refine zza ?_ | refine zzh fun _ => ?_))
  · rw [decide_eq_false ht0, Bool.false_and]
    clear key
    ((repeat' (first|refine zza ?_|refine zc9 ?_|refine zzb fun w hw => ?_|refine zzh fun _ => ?_|refine zzi fun _ _ => ?_|refine zzj (fun _ => ?_) fun _ => ?_)); (repeat' (refine CW_seq ?_; (repeat' (first|refine zza ?_|refine zc9 ?_|refine zzb fun w hw => ?_|refine zzh fun _ => ?_|refine zzi fun _ _ => ?_|refine zzj (fun _ => ?_) fun _ => ?_)))))
    exact ⟨rfl, hw.below⟩
end Go.Proofs.YtngeooflfkpikaaGreatDoor
