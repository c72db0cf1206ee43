/-
  What the functions of arrays tell, plainly: what has no axes has a cell.
  prim.Two at Sub alone.
-/
import Derived.Test.YtllgkdkjcbohcaaGreatDoorZTwoAll
import Derived.Test.YtllgkdkjcbohcaaGreatDoorZGo
import Derived.Test.YtllgkdkjcbohcaaGreatDoorZKnown
import Derived.Test.YtllgkdkjcbohcaaGreatDoorZArrL
import Derived.Test.YtllgkdkjcbohcaaGreatDoorZTwoEx
import Derived.Test.YtllgkdkjcbohcaaGreatDoorZPrimSwp
import Derived.Test.YtllgkdkjcbohcaaGreatDoorZStpL
import Derived.Test.YtllgkdkjcbohcaaGreatDoorZBitL
namespace Go.Proofs.YtllgkdkjcbohcaaGreatDoor
theorem cell_good {a : Arr} (h : a.bad = 0) : One1 a := fun hs hd => by
  unfold Arr.bad checkF at h
  rw [hs, hd, show countF [] = (1, 0) by decide] at h
  simp at h
def OneR (r : Int × Arr) : Prop := r.1 = 0 → One1 r.2
theorem OneR.err {e : Int} {x : Arr} (h : e ≠ 0) : OneR (e, x) := fun h' => absurd h' h
theorem OneR.ok {x : Arr} (h : One1 x) : OneR (0, x) := fun _ => h
theorem OneR.ite {p : Prop} [Decidable p] {r s : Int × Arr} (h : p → OneR r) (h' : ¬ p → OneR s) : OneR (if p then r else s) := by
  split
  · rename_i hp; exact h hp
  · rename_i hp; exact h' hp
theorem fillF_one {s : List Int} {n : Nat} {T : Nat → Int × Int} (h : s = [] → 0 < n) : OneR (fillF s n T) := by
  unfold fillF
  refine OneR.ite (fun _ => OneR.ok fun hs => ?_) (fun h => OneR.err h)
  have := h hs
  intro hd
  have := congrArg List.length hd
  simp at this
  omega
theorem len_pos {xs : List Int} (h : xs ≠ []) : 0 < xs.length := List.length_pos_iff.2 h
theorem eachTwo_one (f : Int) (a b : Arr) : OneR (eachTwo f a b) := by
  unfold eachTwo
  refine OneR.ite (fun h => OneR.err h) fun _ => OneR.ite (fun h => OneR.err h) fun ha => OneR.ite (fun h => OneR.err h) fun hb => OneR.ite (fun h => OneR.err h) fun _ => OneR.ite (fun _ => OneR.err (by decide)) fun _ => ?_
  have ha := cell_good (Classical.not_not.1 ha)
  have hb := cell_good (Classical.not_not.1 hb)
  refine fillF_one fun hs => ?_
  unfold fitS at hs
  unfold fitN
  split at hs
  · rename_i h0; rw [if_pos h0]; exact len_pos (hb hs)
  · rename_i h0; exact absurd hs h0
end Go.Proofs.YtllgkdkjcbohcaaGreatDoor
namespace Go.Proofs.YtllgkdkjcbohcaaGreatDoor
open Go.RowKit
def subF (a b : Arr) : Int × Arr := if a.bad ≠ 0 then (a.bad, zeroA) else if b.bad ≠ 0 then (b.bad, zeroA) else eachTwo 2 a b
set_option maxHeartbeats 16000000 in
set_option maxRecDepth 100000 in
theorem two_sub (a b : ArrM) (G : Rd) (w : World) (hS : Rd.le G w.cell?) (ha : ArrG G a) (hb : ArrG G b) :
    Calls Tryz.prog 47 #[actV 0 2 0, arrV a, arrV b] w (ResT (subF a.arr b.arr) G w) := by
  unfold subF
  by_cases h1 : a.arr.bad ≠ 0
  · rw [if_pos h1]
    exact two_badA 0 2 0 a b G w hS ha hb (by decide) (by decide) h1
  rw [if_neg h1]
  have h1 := Classical.not_not.1 h1
  by_cases h2 : b.arr.bad ≠ 0
  · rw [if_pos h2]
    exact two_badB 0 2 0 a b G w hS ha hb (by decide) (by decide) h1 h2
  rw [if_neg h2]
  have h2 := Classical.not_not.1 h2
  refine enterR (args := [_, _, _]) (m := []) (F := []) hS.sub rfl Tryz.func47 rfl Tryz.ntmps47 (by simp) ?_
  clear hS
  have hK := fun W => known_plain 2 0 W
  have hA := fun W (h : Rd.le G W.cell?) => chk a G W ha h
  have hB := fun W (h : Rd.le G W.cell?) => chk b G W hb h
  rw [h1, errV_zero] at hA
  rw [h2, errV_zero] at hB
  have hp : plainTwo 2 = true := by decide
  rw [hp] at hK
  ((repeat' (first|refine zza ?_|refine zc9 ?_|refine zzb fun w hw => ?_|refine zzh fun _ => ?_|refine zzi fun _ _ => ?_|refine zu1 ?_|refine zu2 ?_|refine zu3 ?_|refine zu4 fun _ => ?_|refine zzj (fun _ => ?_) fun _ => ?_)); (repeat' (refine CW_seq ?_; (repeat' (first|refine zza ?_|refine zc9 ?_|refine zzb fun w hw => ?_|refine zzh fun _ => ?_|refine zzi fun _ _ => ?_|refine zu1 ?_|refine zu2 ?_|refine zu3 ?_|refine zu4 fun _ => ?_|refine zzj (fun _ => ?_) fun _ => ?_)))))
  rename_i b3 b4 b5 b6
  refine WL_callV rfl rfl rfl (fun W _ => hK W) ?_
  ((repeat' (first|refine zza ?_|refine zc9 ?_|refine zzb fun w hw => ?_|refine zzh fun _ => ?_|refine zzi fun _ _ => ?_|refine zu1 ?_|refine zu2 ?_|refine zu3 ?_|refine zu4 fun _ => ?_|refine zzj (fun _ => ?_) fun _ => ?_)); (repeat' (refine CW_seq ?_; (repeat' (first|refine zza ?_|refine zc9 ?_|refine zzb fun w hw => ?_|refine zzh fun _ => ?_|refine zzi fun _ _ => ?_|refine zu1 ?_|refine zu2 ?_|refine zu3 ?_|refine zu4 fun _ => ?_|refine zzj (fun _ => ?_) fun _ => ?_)))))
  refine WL_op rfl rfl (y_buildA rfl (fun W => arr2_build a b W)) ?_
  ((repeat' (first|refine zza ?_|refine zc9 ?_|refine zzb fun w hw => ?_|refine zzh fun _ => ?_|refine zzi fun _ _ => ?_|refine zu1 ?_|refine zu2 ?_|refine zu3 ?_|refine zu4 fun _ => ?_|refine zzj (fun _ => ?_) fun _ => ?_)); (repeat' (refine CW_seq ?_; (repeat' (first|refine zza ?_|refine zc9 ?_|refine zzb fun w hw => ?_|refine zzh fun _ => ?_|refine zzi fun _ _ => ?_|refine zu1 ?_|refine zu2 ?_|refine zu3 ?_|refine zu4 fun _ => ?_|refine zzj (fun _ => ?_) fun _ => ?_)))))
  refine CW_loopK [(3,_),(4,_),(5,_),(6,_),(37,_)] zcov (fun i : Nat => [(38, .int .i64 (i : Int))]) (fun _ => [zB b6, boxB b5 b, boxB b4 a, actB b3 0 2 0, ro w [] G]) (fun i => i ≤ 2) (fun i => 2 - i) 0 (by omega) zcov zent ?_
  intro i hi
  by_cases i0 : i = 0
  · subst i0
    clear hB hK
    ((repeat' (first|refine zza ?_|refine zc9 ?_|refine zzb fun w hw => ?_|refine zzh fun _ => ?_|refine zzi fun _ _ => ?_|refine zu1 ?_|refine zu2 ?_|refine zu3 ?_|refine zu4 fun _ => ?_|refine zzj (fun _ => ?_) fun _ => ?_)); (repeat' (refine CW_seq ?_; (repeat' (first|refine zza ?_|refine zc9 ?_|refine zzb fun w hw => ?_|refine zzh fun _ => ?_|refine zzi fun _ _ => ?_|refine zu1 ?_|refine zu2 ?_|refine zu3 ?_|refine zu4 fun _ => ?_|refine zzj (fun _ => ?_) fun _ => ?_)))))
    refine WL_op rfl rfl (y_indexA rfl rfl (fun W => arr2_index0 _ _ _ _ _ _ W)) ?_
    ((repeat' (first|refine zza ?_|refine zc9 ?_|refine zzb fun w hw => ?_|refine zzh fun _ => ?_|refine zzi fun _ _ => ?_|refine zu1 ?_|refine zu2 ?_|refine zu3 ?_|refine zu4 fun _ => ?_|refine zzj (fun _ => ?_) fun _ => ?_)); (repeat' (refine CW_seq ?_; (repeat' (first|refine zza ?_|refine zc9 ?_|refine zzb fun w hw => ?_|refine zzh fun _ => ?_|refine zzi fun _ _ => ?_|refine zu1 ?_|refine zu2 ?_|refine zu3 ?_|refine zu4 fun _ => ?_|refine zzj (fun _ => ?_) fun _ => ?_)))))
    refine WL_callV rfl rfl rfl (fun W hW => hA W (hW.le zpk)) ?_
    ((repeat' (first|refine zza ?_|refine zc9 ?_|refine zzb fun w hw => ?_|refine zzh fun _ => ?_|refine zzi fun _ _ => ?_|refine zu1 ?_|refine zu2 ?_|refine zu3 ?_|refine zu4 fun _ => ?_|refine zzj (fun _ => ?_) fun _ => ?_)); (repeat' (refine CW_seq ?_; (repeat' (first|refine zza ?_|refine zc9 ?_|refine zzb fun w hw => ?_|refine zzh fun _ => ?_|refine zzi fun _ _ => ?_|refine zu1 ?_|refine zu2 ?_|refine zu3 ?_|refine zu4 fun _ => ?_|refine zzj (fun _ => ?_) fun _ => ?_)))))
    exact EX_loop' 1 ⟨zcov, zent, by omega, by omega⟩
  by_cases i1 : i = 1
  · subst i1
    clear hA hK
    ((repeat' (first|refine zza ?_|refine zc9 ?_|refine zzb fun w hw => ?_|refine zzh fun _ => ?_|refine zzi fun _ _ => ?_|refine zu1 ?_|refine zu2 ?_|refine zu3 ?_|refine zu4 fun _ => ?_|refine zzj (fun _ => ?_) fun _ => ?_)); (repeat' (refine CW_seq ?_; (repeat' (first|refine zza ?_|refine zc9 ?_|refine zzb fun w hw => ?_|refine zzh fun _ => ?_|refine zzi fun _ _ => ?_|refine zu1 ?_|refine zu2 ?_|refine zu3 ?_|refine zu4 fun _ => ?_|refine zzj (fun _ => ?_) fun _ => ?_)))))
    refine WL_op rfl rfl (y_indexA rfl rfl (fun W => arr2_index1 _ _ _ _ _ _ W)) ?_
    ((repeat' (first|refine zza ?_|refine zc9 ?_|refine zzb fun w hw => ?_|refine zzh fun _ => ?_|refine zzi fun _ _ => ?_|refine zu1 ?_|refine zu2 ?_|refine zu3 ?_|refine zu4 fun _ => ?_|refine zzj (fun _ => ?_) fun _ => ?_)); (repeat' (refine CW_seq ?_; (repeat' (first|refine zza ?_|refine zc9 ?_|refine zzb fun w hw => ?_|refine zzh fun _ => ?_|refine zzi fun _ _ => ?_|refine zu1 ?_|refine zu2 ?_|refine zu3 ?_|refine zu4 fun _ => ?_|refine zzj (fun _ => ?_) fun _ => ?_)))))
    refine WL_callV rfl rfl rfl (fun W hW => hB W (hW.le zpk)) ?_
    ((repeat' (first|refine zza ?_|refine zc9 ?_|refine zzb fun w hw => ?_|refine zzh fun _ => ?_|refine zzi fun _ _ => ?_|refine zu1 ?_|refine zu2 ?_|refine zu3 ?_|refine zu4 fun _ => ?_|refine zzj (fun _ => ?_) fun _ => ?_)); (repeat' (refine CW_seq ?_; (repeat' (first|refine zza ?_|refine zc9 ?_|refine zzb fun w hw => ?_|refine zzh fun _ => ?_|refine zzi fun _ _ => ?_|refine zu1 ?_|refine zu2 ?_|refine zu3 ?_|refine zu4 fun _ => ?_|refine zzj (fun _ => ?_) fun _ => ?_)))))
    exact EX_loop' 2 ⟨zcov, zent, by omega, by omega⟩
  obtain rfl : i = 2 := by omega
  clear i0 i1 hi hA hB hK
  have hL := fun W (h : Rd.le G W.cell?) => byBoth_each 2 a b G W h ha hb (by decide) (by decide) (by decide) (by decide) (by decide) (by decide) (by decide)
  have hF : byBothF 2 a.arr b.arr = eachTwo 2 a.arr b.arr := rfl
  rw [hF] at hL
  ((repeat' (first|refine zza ?_|refine zc9 ?_|refine zzb fun w hw => ?_|refine zzh fun _ => ?_|refine zzi fun _ _ => ?_|refine zu1 ?_|refine zu2 ?_|refine zu3 ?_|refine zu4 fun _ => ?_|refine zzj (fun _ => ?_) fun _ => ?_)); (repeat' (refine CW_seq ?_; (repeat' (first|refine zza ?_|refine zc9 ?_|refine zzb fun w hw => ?_|refine zzh fun _ => ?_|refine zzi fun _ _ => ?_|refine zu1 ?_|refine zu2 ?_|refine zu3 ?_|refine zu4 fun _ => ?_|refine zzj (fun _ => ?_) fun _ => ?_)))))
  refine WL_callT (r := [zB b6, boxB b4 a, boxB b5 b, actB b3 0 2 0]) zent rfl rfl rfl (fun W hW => hL W (fun x u e => (hW x u e).1)) ?_
  rintro z G2 hz g2
  ((repeat' (first|refine zza ?_|refine zc9 ?_|refine zzb fun w hw => ?_|refine zzh fun _ => ?_|refine zzi fun _ _ => ?_|refine zu1 ?_|refine zu2 ?_|refine zu3 ?_|refine zu4 fun _ => ?_|refine zzj (fun _ => ?_) fun _ => ?_)); (repeat' (refine CW_seq ?_; (repeat' (first|refine zza ?_|refine zc9 ?_|refine zzb fun w hw => ?_|refine zzh fun _ => ?_|refine zzi fun _ _ => ?_|refine zu1 ?_|refine zu2 ?_|refine zu3 ?_|refine zu4 fun _ => ?_|refine zzj (fun _ => ?_) fun _ => ?_)))))
  refine EX_retK2 (b := b6) rfl rfl rfl rfl zpk rfl fun w' hw => ?_
  exact ⟨z, G2, hz, rfl, g2, hw.ent (Ent.cons zpk Ent.nil)⟩
theorem subF_one (a b : Arr) (h : (subF a b).1 = 0) : One1 (subF a b).2 := by
  revert h
  unfold subF
  exact OneR.ite (fun h => OneR.err h) fun _ => OneR.ite (fun h => OneR.err h) fun _ => eachTwo_one 2 a b
end Go.Proofs.YtllgkdkjcbohcaaGreatDoor
