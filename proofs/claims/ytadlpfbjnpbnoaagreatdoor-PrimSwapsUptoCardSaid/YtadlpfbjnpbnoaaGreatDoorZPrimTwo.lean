/-
  The package prim: prim.Two of a plain function, and swapped; prim.One swapped.
-/
import Derived.Test.YtadlpfbjnpbnoaaGreatDoorZGo
import Derived.Test.YtadlpfbjnpbnoaaGreatDoorZTurnR
import Derived.Test.YtadlpfbjnpbnoaaGreatDoorZByListN
namespace Go.Proofs.YtadlpfbjnpbnoaaGreatDoor
open Go.RowKit
def listy (f : Int) : Bool := decide (f = 18 ∨ f = 22 ∨ f = 23 ∨ f = 33 ∨ f = 34 ∨ f = 20 ∨ f = 30 ∨ f = 31)
/-- what a plain function of two good arrays tells -/
def plainF (f : Int) (a b : Arr) : Int × Arr := if plainTwo f = false then (1, zeroA) else if listy f = true then byListF f a b else byBothF f a b
theorem by_List (f : Int) (hf : listy f = true) (a b : ArrM) (G : Rd) (w : World) (hS : Rd.le G w.cell?) (ha : ArrG G a) (hb : ArrG G b) (h1 : a.arr.bad = 0) (h2 : b.arr.bad = 0) :
    Calls Tryz.prog 40 #[.int .i64 f, arrV a, arrV b] w (ResT (byListF f a.arr b.arr) G w) := by
  have hf := of_decide_eq_true hf
  by_cases h20 : f = 20
  · subst h20
    exact byList_turn a b G w hS ha hb h1 h2
  by_cases hE : numsE a.arr = 0
  · rcases hf with rfl | rfl | rfl | rfl | rfl | rfl | rfl | rfl
    · exact byList_rho a b G w hS ha hb h1 h2 hE
    · exact byList_take a b G w hS ha hb h1 h2 hE
    · exact byList_drop a b G w hS ha hb h1 h2 hE
    · exact byList_keep a b G w hS ha hb h1 h2 hE
    · exact byList_spread a b G w hS ha hb h1 h2 hE
    · exact absurd rfl h20
    · exact byList_base a b G w hS ha hb h1 h2 hE
    · exact byList_anti a b G w hS ha hb h1 h2 hE
  · exact byList_num f a b G w hS h1 h2 h20 hE
theorem by_Both (f : Int) (a b : ArrM) (G : Rd) (w : World) (hS : Rd.le G w.cell?) (ha : ArrG G a) (hb : ArrG G b) (h1 : a.arr.bad = 0) (h2 : b.arr.bad = 0) :
    Calls Tryz.prog 41 #[.int .i64 f, arrV a, arrV b] w (ResT (byBothF f a.arr b.arr) G w) := by
  by_cases q1 : f = 19
  · subst q1
    exact byBoth_comma a b G w hS ha hb h1 h2
  by_cases q2 : f = 24
  · subst q2
    exact byBoth_index a b G w hS ha hb h1 h2
  by_cases q3 : f = 25
  · subst q3
    exact byBoth_in a b G w hS ha hb h1 h2
  by_cases q4 : f = 17
  · subst q4
    exact byBoth_without a b G w hS ha hb h1 h2
  by_cases q5 : f = 28
  · subst q5
    exact byBoth_union a b G w hS ha hb h1 h2
  by_cases q6 : f = 29
  · subst q6
    exact byBoth_meet a b G w hS ha hb h1 h2
  by_cases q7 : f = 32
  · subst q7
    exact byBoth_same a b G w hS ha hb h1 h2
  exact byBoth_each f a b G w hS ha hb q1 q2 q3 q4 q5 q6 q7
abbrev actB (b : Nat) (op f g : Int) : HP := blk b 24 #[.int .i64 op, .int .i64 f, .int .i64 g]
set_option maxHeartbeats 16000000 in
set_option maxRecDepth 100000 in
theorem two_plain (f g : Int) (a b : ArrM) (G : Rd) (w : World) (hS : Rd.le G w.cell?) (ha : ArrG G a) (hb : ArrG G b) (h1 : a.arr.bad = 0) (h2 : b.arr.bad = 0) :
    Calls Tryz.prog 7 #[actV 0 f g, arrV a, arrV b] w (ResT (plainF f a.arr b.arr) G w) := by
  refine enterR (args := [_, _, _]) (m := []) (F := []) hS.sub rfl Tryz.func7 rfl Tryz.ntmps7 (by simp) ?_
  clear hS
  have hK := fun W => known_plain f g W
  have hA := fun W (h : Rd.le G W.cell?) => chk a G W ha h
  have hB := fun W (h : Rd.le G W.cell?) => chk b G W hb h
  rw [h1, errV_zero] at hA
  rw [h2, errV_zero] at hB
  unfold plainF
  ((repeat' (first|refine zza ?_|refine zc9 ?_|refine zzb fun w hw => ?_|refine zzh fun _ => ?_|refine zzi fun _ _ => ?_|refine zu1 ?_|refine zu2 ?_|refine zu3 ?_|refine zu4 fun _ => ?_|refine zzj (fun _ => ?_) fun _ => ?_)); (repeat' (refine CW_seq ?_; (repeat' (first|refine zza ?_|refine zc9 ?_|refine zzb fun w hw => ?_|refine zzh fun _ => ?_|refine zzi fun _ _ => ?_|refine zu1 ?_|refine zu2 ?_|refine zu3 ?_|refine zu4 fun _ => ?_|refine zzj (fun _ => ?_) fun _ => ?_)))))
  rename_i b3 b4 b5 b6
  refine WL_callV rfl rfl rfl (fun W _ => hK W) ?_
  cases hp : plainTwo f with
  | false =>
    rw [if_pos rfl]
    ((repeat' (first|refine zza ?_|refine zc9 ?_|refine zzb fun w hw => ?_|refine zzh fun _ => ?_|refine zzi fun _ _ => ?_|refine zu1 ?_|refine zu2 ?_|refine zu3 ?_|refine zu4 fun _ => ?_|refine zzj (fun _ => ?_) fun _ => ?_)); (repeat' (refine CW_seq ?_; (repeat' (first|refine zza ?_|refine zc9 ?_|refine zzb fun w hw => ?_|refine zzh fun _ => ?_|refine zzi fun _ _ => ?_|refine zu1 ?_|refine zu2 ?_|refine zu3 ?_|refine zu4 fun _ => ?_|refine zzj (fun _ => ?_) fun _ => ?_)))))
    refine EX_retK2 (b := b6) rfl rfl rfl rfl zpk rfl fun w' hw => ?_
    exact ResT.err (by decide) (hw.ent (Ent.cons zpk Ent.nil))
  | true =>
    rw [if_neg (by simp)]
    ((repeat' (first|refine zza ?_|refine zc9 ?_|refine zzb fun w hw => ?_|refine zzh fun _ => ?_|refine zzi fun _ _ => ?_|refine zu1 ?_|refine zu2 ?_|refine zu3 ?_|refine zu4 fun _ => ?_|refine zzj (fun _ => ?_) fun _ => ?_)); (repeat' (refine CW_seq ?_; (repeat' (first|refine zza ?_|refine zc9 ?_|refine zzb fun w hw => ?_|refine zzh fun _ => ?_|refine zzi fun _ _ => ?_|refine zu1 ?_|refine zu2 ?_|refine zu3 ?_|refine zu4 fun _ => ?_|refine zzj (fun _ => ?_) fun _ => ?_)))))
    refine WL_op rfl rfl (y_buildA rfl (fun W => arr2_build a b W)) ?_
    ((repeat' (first|refine zza ?_|refine zc9 ?_|refine zzb fun w hw => ?_|refine zzh fun _ => ?_|refine zzi fun _ _ => ?_|refine zu1 ?_|refine zu2 ?_|refine zu3 ?_|refine zu4 fun _ => ?_|refine zzj (fun _ => ?_) fun _ => ?_)); (repeat' (refine CW_seq ?_; (repeat' (first|refine zza ?_|refine zc9 ?_|refine zzb fun w hw => ?_|refine zzh fun _ => ?_|refine zzi fun _ _ => ?_|refine zu1 ?_|refine zu2 ?_|refine zu3 ?_|refine zu4 fun _ => ?_|refine zzj (fun _ => ?_) fun _ => ?_)))))
    refine CW_loopK [(3,_),(4,_),(5,_),(6,_),(37,_)] zcov (fun i : Nat => [(38, .int .i64 (i : Int))]) (fun _ => [zB b6, boxB b5 b, boxB b4 a, actB b3 0 f g, ro w [] G]) (fun i => i ≤ 2) (fun i => 2 - i) 0 (by omega) zcov zent ?_
    intro i hi
    by_cases i0 : i = 0
    · subst i0
      clear hB hK
      ((repeat' (first|refine zza ?_|refine zc9 ?_|refine zzb fun w hw => ?_|refine zzh fun _ => ?_|refine zzi fun _ _ => ?_|refine zu1 ?_|refine zu2 ?_|refine zu3 ?_|refine zu4 fun _ => ?_|refine zzj (fun _ => ?_) fun _ => ?_)); (repeat' (refine CW_seq ?_; (repeat' (first|refine zza ?_|refine zc9 ?_|refine zzb fun w hw => ?_|refine zzh fun _ => ?_|refine zzi fun _ _ => ?_|refine zu1 ?_|refine zu2 ?_|refine zu3 ?_|refine zu4 fun _ => ?_|refine zzj (fun _ => ?_) fun _ => ?_)))))
      refine WL_op rfl rfl (y_indexA rfl rfl (fun W => arr2_index0 _ _ _ _ _ _ W)) ?_
      ((repeat' (first|refine zza ?_|refine zc9 ?_|refine zzb fun w hw => ?_|refine zzh fun _ => ?_|refine zzi fun _ _ => ?_|refine zu1 ?_|refine zu2 ?_|refine zu3 ?_|refine zu4 fun _ => ?_|refine zzj (fun _ => ?_) fun _ => ?_)); (repeat' (refine CW_seq ?_; (repeat' (first|refine zza ?_|refine zc9 ?_|refine zzb fun w hw => ?_|refine zzh fun _ => ?_|refine zzi fun _ _ => ?_|refine zu1 ?_|refine zu2 ?_|refine zu3 ?_|refine zu4 fun _ => ?_|refine zzj (fun _ => ?_) fun _ => ?_)))))
      refine WL_callV rfl rfl rfl (fun W hW => hA W (hW.le zpk)) ?_
      ((repeat' (first|refine zza ?_|refine zc9 ?_|refine zzb fun w hw => ?_|refine zzh fun _ => ?_|refine zzi fun _ _ => ?_|refine zu1 ?_|refine zu2 ?_|refine zu3 ?_|refine zu4 fun _ => ?_|refine zzj (fun _ => ?_) fun _ => ?_)); (repeat' (refine CW_seq ?_; (repeat' (first|refine zza ?_|refine zc9 ?_|refine zzb fun w hw => ?_|refine zzh fun _ => ?_|refine zzi fun _ _ => ?_|refine zu1 ?_|refine zu2 ?_|refine zu3 ?_|refine zu4 fun _ => ?_|refine zzj (fun _ => ?_) fun _ => ?_)))))
      exact EX_loop' 1 ⟨zcov, zent, by omega, by omega⟩
    by_cases i1 : i = 1
    · subst i1
      clear hA hK
      ((repeat' (first|refine zza ?_|refine zc9 ?_|refine zzb fun w hw => ?_|refine zzh fun _ => ?_|refine zzi fun _ _ => ?_|refine zu1 ?_|refine zu2 ?_|refine zu3 ?_|refine zu4 fun _ => ?_|refine zzj (fun _ => ?_) fun _ => ?_)); (repeat' (refine CW_seq ?_; (repeat' (first|refine zza ?_|refine zc9 ?_|refine zzb fun w hw => ?_|refine zzh fun _ => ?_|refine zzi fun _ _ => ?_|refine zu1 ?_|refine zu2 ?_|refine zu3 ?_|refine zu4 fun _ => ?_|refine zzj (fun _ => ?_) fun _ => ?_)))))
      refine WL_op rfl rfl (y_indexA rfl rfl (fun W => arr2_index1 _ _ _ _ _ _ W)) ?_
      ((repeat' (first|refine zza ?_|refine zc9 ?_|refine zzb fun w hw => ?_|refine zzh fun _ => ?_|refine zzi fun _ _ => ?_|refine zu1 ?_|refine zu2 ?_|refine zu3 ?_|refine zu4 fun _ => ?_|refine zzj (fun _ => ?_) fun _ => ?_)); (repeat' (refine CW_seq ?_; (repeat' (first|refine zza ?_|refine zc9 ?_|refine zzb fun w hw => ?_|refine zzh fun _ => ?_|refine zzi fun _ _ => ?_|refine zu1 ?_|refine zu2 ?_|refine zu3 ?_|refine zu4 fun _ => ?_|refine zzj (fun _ => ?_) fun _ => ?_)))))
      refine WL_callV rfl rfl rfl (fun W hW => hB W (hW.le zpk)) ?_
      ((repeat' (first|refine zza ?_|refine zc9 ?_|refine zzb fun w hw => ?_|refine zzh fun _ => ?_|refine zzi fun _ _ => ?_|refine zu1 ?_|refine zu2 ?_|refine zu3 ?_|refine zu4 fun _ => ?_|refine zzj (fun _ => ?_) fun _ => ?_)); (repeat' (refine CW_seq ?_; (repeat' (first|refine zza ?_|refine zc9 ?_|refine zzb fun w hw => ?_|refine zzh fun _ => ?_|refine zzi fun _ _ => ?_|refine zu1 ?_|refine zu2 ?_|refine zu3 ?_|refine zu4 fun _ => ?_|refine zzj (fun _ => ?_) fun _ => ?_)))))
      exact EX_loop' 2 ⟨zcov, zent, by omega, by omega⟩
    obtain rfl : i = 2 := by omega
    clear i0 i1 hi hA hB hK
    cases hl : listy f with
    | true =>
      rw [if_pos rfl]
      have hL := fun W (h : Rd.le G W.cell?) => by_List f hl a b G W h ha hb h1 h2
      obtain ⟨L, hLe⟩ : ∃ L, L = byListF f a.arr b.arr := ⟨_, rfl⟩
      rw [← hLe] at hL ⊢
      clear hLe
      have hf := of_decide_eq_true hl
      clear hl
      rcases hf with rfl | rfl | rfl | rfl | rfl | rfl | rfl | rfl
      all_goals
        ((repeat' (first|refine zza ?_|refine zc9 ?_|refine zzb fun w hw => ?_|refine zzh fun _ => ?_|refine zzi fun _ _ => ?_|refine zu1 ?_|refine zu2 ?_|refine zu3 ?_|refine zu4 fun _ => ?_|refine zzj (fun _ => ?_) fun _ => ?_)); (repeat' (refine CW_seq ?_; (repeat' (first|refine zza ?_|refine zc9 ?_|refine zzb fun w hw => ?_|refine zzh fun _ => ?_|refine zzi fun _ _ => ?_|refine zu1 ?_|refine zu2 ?_|refine zu3 ?_|refine zu4 fun _ => ?_|refine zzj (fun _ => ?_) fun _ => ?_)))))
        refine WL_callT (r := [zB b6, boxB b4 a, boxB b5 b, actB b3 0 _ g]) zent rfl rfl rfl (fun W hW => hL W (fun x u e => (hW x u e).1)) ?_
        rintro z G2 hz g2
        ((repeat' (first|refine zza ?_|refine zc9 ?_|refine zzb fun w hw => ?_|refine zzh fun _ => ?_|refine zzi fun _ _ => ?_|refine zu1 ?_|refine zu2 ?_|refine zu3 ?_|refine zu4 fun _ => ?_|refine zzj (fun _ => ?_) fun _ => ?_)); (repeat' (refine CW_seq ?_; (repeat' (first|refine zza ?_|refine zc9 ?_|refine zzb fun w hw => ?_|refine zzh fun _ => ?_|refine zzi fun _ _ => ?_|refine zu1 ?_|refine zu2 ?_|refine zu3 ?_|refine zu4 fun _ => ?_|refine zzj (fun _ => ?_) fun _ => ?_)))))
        refine EX_retK2 (b := b6) rfl rfl rfl rfl zpk rfl fun w' hw => ?_
        exact ⟨z, G2, hz, rfl, g2, hw.ent (Ent.cons zpk Ent.nil)⟩
    | false =>
      rw [if_neg (by simp)]
      have hL := fun W (h : Rd.le G W.cell?) => by_Both f a b G W h ha hb h1 h2
      obtain ⟨L, hLe⟩ : ∃ L, L = byBothF f a.arr b.arr := ⟨_, rfl⟩
      rw [← hLe] at hL ⊢
      clear hLe
      have hf := of_decide_eq_false hl
      clear hl
      have q1 : f ≠ 18 := fun h => hf (by omega)
      have q2 : f ≠ 22 := fun h => hf (by omega)
      have q3 : f ≠ 23 := fun h => hf (by omega)
      have q4 : f ≠ 33 := fun h => hf (by omega)
      have q5 : f ≠ 34 := fun h => hf (by omega)
      have q6 : f ≠ 20 := fun h => hf (by omega)
      have q7 : f ≠ 30 := fun h => hf (by omega)
      have q8 : f ≠ 31 := fun h => hf (by omega)
      ((repeat' (first|refine zza ?_|refine zc9 ?_|refine zzb fun w hw => ?_|refine zzh fun _ => ?_|refine zzi fun _ _ => ?_|refine zu1 ?_|refine zu2 ?_|refine zu3 ?_|refine zu4 fun _ => ?_|refine zzj (fun _ => ?_) fun _ => ?_)); (repeat' (refine CW_seq ?_; (repeat' (first|refine zza ?_|refine zc9 ?_|refine zzb fun w hw => ?_|refine zzh fun _ => ?_|refine zzi fun _ _ => ?_|refine zu1 ?_|refine zu2 ?_|refine zu3 ?_|refine zu4 fun _ => ?_|refine zzj (fun _ => ?_) fun _ => ?_)))))
      refine WL_callT (r := [zB b6, boxB b4 a, boxB b5 b, actB b3 0 _ g]) zent rfl rfl rfl (fun W hW => hL W (fun x u e => (hW x u e).1)) ?_
      rintro z G2 hz g2
      ((repeat' (first|refine zza ?_|refine zc9 ?_|refine zzb fun w hw => ?_|refine zzh fun _ => ?_|refine zzi fun _ _ => ?_|refine zu1 ?_|refine zu2 ?_|refine zu3 ?_|refine zu4 fun _ => ?_|refine zzj (fun _ => ?_) fun _ => ?_)); (repeat' (refine CW_seq ?_; (repeat' (first|refine zza ?_|refine zc9 ?_|refine zzb fun w hw => ?_|refine zzh fun _ => ?_|refine zzi fun _ _ => ?_|refine zu1 ?_|refine zu2 ?_|refine zu3 ?_|refine zu4 fun _ => ?_|refine zzj (fun _ => ?_) fun _ => ?_)))))
      refine EX_retK2 (b := b6) rfl rfl rfl rfl zpk rfl fun w' hw => ?_
      exact ⟨z, G2, hz, rfl, g2, hw.ent (Ent.cons zpk Ent.nil)⟩
end Go.Proofs.YtadlpfbjnpbnoaaGreatDoor
