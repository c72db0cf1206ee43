/-
  The package seek, walked: Index, In, Meet.
-/
import Derived.Test.YtadlpfbjnpbnoaaGreatDoorZGo
import Derived.Test.YtadlpfbjnpbnoaaGreatDoorZSeekY
import Derived.Test.YtadlpfbjnpbnoaaGreatDoorZCutT
import Derived.Test.YtadlpfbjnpbnoaaGreatDoorZCopied
namespace Go.Proofs.YtadlpfbjnpbnoaaGreatDoor
open Go.RowKit
theorem map_take_succ {xs : List Int} {f : Int → Int} {i : Nat} (h : i < xs.length) : (xs.take (i + 1)).map f = (xs.take i).map f ++ [f (xs.getD i 0)] := by
  rw [takeI_getD h, List.map_append]
  rfl
theorem indexC_I {a b : Arr} (h : a.data.length ≤ 4096) (c : Int) : I64 (indexC a b c) := by
  unfold indexC
  split
  · have := getI_in a.data c
    exact ⟨by omega, by omega⟩
  · exact ⟨by omega, by omega⟩
set_option maxHeartbeats 16000000 in
set_option maxRecDepth 100000 in
theorem seek_Meet (a b : ArrM) (G : Rd) (w : World) (hS : Rd.le G w.cell?) (ha : ArrG G a) (hb : ArrG G b) (h1 : a.arr.bad = 0) (h2 : b.arr.bad = 0) :
    Calls Tryz.prog 115 #[arrV a, arrV b] w (ResT (meetF a.arr b.arr) G w) := by
  refine enterR (args := [_, _]) (m := []) (F := []) hS.sub rfl Tryz.func115 rfl Tryz.ntmps115 (by simp) ?_
  clear hS
  have h7 : a.data.xs.length ≤ 4096 := (Arr.good h1).cells
  by_cases h : pairE a.arr b.arr = 0
  · have hF : meetF a.arr b.arr = (0, chosenA (fun _ c => hasA b.arr a.char c) a.arr) := if_neg (fun k => k h)
    rw [hF]
    clear hF
    ((repeat' (first|refine zza ?_|refine zc9 ?_|refine zzb fun w hw => ?_|refine zzh fun _ => ?_|refine zzi fun _ _ => ?_|refine zu1 ?_|refine zu2 ?_|refine zu3 ?_|refine zu4 fun _ => ?_|refine zzj (fun _ => ?_) fun _ => ?_)); (repeat' (refine CW_seq ?_; (repeat' (first|refine zza ?_|refine zc9 ?_|refine zzb fun w hw => ?_|refine zzh fun _ => ?_|refine zzi fun _ _ => ?_|refine zu1 ?_|refine zu2 ?_|refine zu3 ?_|refine zu4 fun _ => ?_|refine zzj (fun _ => ?_) fun _ => ?_)))))
    rename_i b2 b3 b4
    refine WL_callX rfl rfl rfl (fun W hW => pair_ok a b G W (hW.le zpk) ha hb h1 h2 h) ?_
    rintro ⟨⟨z7, z2⟩, z3, zm⟩ _
    dsimp only [List.cons_append, List.nil_append]
    ((repeat' (first|refine zza ?_|refine zc9 ?_|refine zzb fun w hw => ?_|refine zzh fun _ => ?_|refine zzi fun _ _ => ?_|refine zu1 ?_|refine zu2 ?_|refine zu3 ?_|refine zu4 fun _ => ?_|refine zzj (fun _ => ?_) fun _ => ?_)); (repeat' (refine CW_seq ?_; (repeat' (first|refine zza ?_|refine zc9 ?_|refine zzb fun w hw => ?_|refine zzh fun _ => ?_|refine zzi fun _ _ => ?_|refine zu1 ?_|refine zu2 ?_|refine zu3 ?_|refine zu4 fun _ => ?_|refine zzj (fun _ => ?_) fun _ => ?_)))))
    refine WL_ent (m' := [ro w [] G, mapB z7 zm, boxB z2 a, boxB z3 b, mq zm (fsts b.data.xs), zB b4, boxB b2 a]) (Ent.cons (by repeat (first | exact .here | apply Pick.there)) zent) ?_
    refine WL_rowB (enc := fun v : Value => [v]) (sz := 1) (b := z7) (u := .map (some zm)) (fun _ => rfl) (by decide) rfl zpk zpk (by kernel_rfl) fun G2 g2 r2 => ?_
    refine WL_rowB (enc := arrE) (sz := 3) (b := z2) (u := a) (fun _ => rfl) (by decide) rfl zpk zpk (by kernel_rfl) fun G3 g3 r3 => ?_
    refine WL_rowB (enc := arrE) (sz := 3) (b := z3) (u := b) (fun _ => rfl) (by decide) rfl zpk zpk (by kernel_rfl) fun G4 g4 r4 => ?_
    have l3 := g4.1
    have l2 := Rd.le_trans g3.1 l3
    have g14 := Rd.grow_tr g2 (Rd.grow_tr g3 g4)
    ((repeat' (first|refine zza ?_|refine zc9 ?_|refine zzb fun w hw => ?_|refine zzh fun _ => ?_|refine zzi fun _ _ => ?_|refine zu1 ?_|refine zu2 ?_|refine zu3 ?_|refine zu4 fun _ => ?_|refine zzj (fun _ => ?_) fun _ => ?_)); (repeat' (refine CW_seq ?_; (repeat' (first|refine zza ?_|refine zc9 ?_|refine zzb fun w hw => ?_|refine zzh fun _ => ?_|refine zzi fun _ _ => ?_|refine zu1 ?_|refine zu2 ?_|refine zu3 ?_|refine zu4 fun _ => ?_|refine zzj (fun _ => ?_) fun _ => ?_)))))
    have hcall : ∀ W, Holds w [] [ro w [] G4, mq zm (fsts b.data.xs), zB b4, boxB b2 a] W → Calls Tryz.prog 159 #[arrV a, hasV z7 z2 z3] W (OwnA (chosenA (fun _ c => hasA b.arr a.char c) a.arr) W) := fun W hW => by
      have hmq := hW.mq zpk
      exact seek_chosen a 186 [ptrV z7, ptrV z2, ptrV z3] (fun _ c => hasA b.arr a.char c) G4 W (hW.le zpk) (ha.mono g14.1) h7 fun i W' _ hk hl => pair_has a b (i : Int) _ z7 z2 z3 zm G4 W' hl (r2.mono l2) (r3.mono l3) r4 (hmq.keep hk)
    refine WL_callX rfl rfl rfl hcall ?_
    rintro z _
    dsimp only [List.cons_append, List.nil_append]
    ((repeat' (first|refine zza ?_|refine zc9 ?_|refine zzb fun w hw => ?_|refine zzh fun _ => ?_|refine zzi fun _ _ => ?_|refine zu1 ?_|refine zu2 ?_|refine zu3 ?_|refine zu4 fun _ => ?_|refine zzj (fun _ => ?_) fun _ => ?_)); (repeat' (refine CW_seq ?_; (repeat' (first|refine zza ?_|refine zc9 ?_|refine zzb fun w hw => ?_|refine zzh fun _ => ?_|refine zzi fun _ _ => ?_|refine zu1 ?_|refine zu2 ?_|refine zu3 ?_|refine zu4 fun _ => ?_|refine zzj (fun _ => ?_) fun _ => ?_)))))
    refine EX_retK2 (b := b4) rfl rfl rfl rfl zpk rfl fun w' hw => ?_
    exact ResT.up g14 (ResT.ofO (x := chosenA (fun _ c => hasA b.arr a.char c) a.arr) (z := z) (hw.ent (Ent.cons zpk (Ent.cons zpk (Ent.cons zpk Ent.nil)))) (chosenA_S h7) fun x hx => ha.dataI x (chosenL_mem _ _ _ (Nat.le_refl _) x hx))
  · have hF : meetF a.arr b.arr = (3, zeroA) := by
      have e : pairE a.arr b.arr = 3 := by
        unfold pairE at h ⊢
        split
        · rfl
        · rename_i k
          rw [if_neg k] at h
          exact absurd rfl h
      unfold meetF
      rw [if_pos h, e]
    rw [hF]
    clear hF
    ((repeat' (first|refine zza ?_|refine zc9 ?_|refine zzb fun w hw => ?_|refine zzh fun _ => ?_|refine zzi fun _ _ => ?_|refine zu1 ?_|refine zu2 ?_|refine zu3 ?_|refine zu4 fun _ => ?_|refine zzj (fun _ => ?_) fun _ => ?_)); (repeat' (refine CW_seq ?_; (repeat' (first|refine zza ?_|refine zc9 ?_|refine zzb fun w hw => ?_|refine zzh fun _ => ?_|refine zzi fun _ _ => ?_|refine zu1 ?_|refine zu2 ?_|refine zu3 ?_|refine zu4 fun _ => ?_|refine zzj (fun _ => ?_) fun _ => ?_)))))
    rename_i b2 b3 b4
    refine WL_callV rfl rfl rfl (fun W hW => pair_err a b G W (hW.le zpk) ha hb h1 h2 h) ?_
    ((repeat' (first|refine zza ?_|refine zc9 ?_|refine zzb fun w hw => ?_|refine zzh fun _ => ?_|refine zzi fun _ _ => ?_|refine zu1 ?_|refine zu2 ?_|refine zu3 ?_|refine zu4 fun _ => ?_|refine zzj (fun _ => ?_) fun _ => ?_)); (repeat' (refine CW_seq ?_; (repeat' (first|refine zza ?_|refine zc9 ?_|refine zzb fun w hw => ?_|refine zzh fun _ => ?_|refine zzi fun _ _ => ?_|refine zu1 ?_|refine zu2 ?_|refine zu3 ?_|refine zu4 fun _ => ?_|refine zzj (fun _ => ?_) fun _ => ?_)))))
    refine EX_retK2 (b := b4) rfl rfl rfl rfl zpk rfl fun w' hw => ?_
    exact ResT.err (by decide) (hw.ent (Ent.cons zpk Ent.nil))
set_option maxHeartbeats 16000000 in
set_option maxRecDepth 100000 in
theorem seek_Index (a b : ArrM) (G : Rd) (w : World) (hS : Rd.le G w.cell?) (ha : ArrG G a) (hb : ArrG G b) (h1 : a.arr.bad = 0) (h2 : b.arr.bad = 0) :
    Calls Tryz.prog 111 #[arrV a, arrV b] w (ResT (indexF a.arr b.arr) G w) := by
  refine enterR (args := [_, _]) (m := []) (F := []) hS.sub rfl Tryz.func111 rfl Tryz.ntmps111 (by simp) ?_
  clear hS
  have hC := fun W (h : Rd.le G W.cell?) => seek_check a b G W h ha hb
  rw [badTwo_ok h1 h2, errV_zero] at hC
  have h7 : a.data.xs.length ≤ 4096 := (Arr.good h1).cells
  have h8 : b.data.xs.length ≤ 4096 := (Arr.good h2).cells
  have h6 : b.shape.xs.length ≤ 6 := (Arr.good h2).rank
  have hbd := hb.data
  by_cases hl : a.shape.xs.length = 1
  · have hF : indexF a.arr b.arr = (0, ⟨false, b.shape.xs, b.data.xs.map (indexC a.arr b.arr)⟩) := if_neg (fun h => h hl)
    rw [hF]
    clear hF
    ((repeat' (first|refine zza ?_|refine zc9 ?_|refine zzb fun w hw => ?_|refine zzh fun _ => ?_|refine zzi fun _ _ => ?_|refine zu1 ?_|refine zu2 ?_|refine zu3 ?_|refine zu4 fun _ => ?_|refine zzj (fun _ => ?_) fun _ => ?_)); (repeat' (refine CW_seq ?_; (repeat' (first|refine zza ?_|refine zc9 ?_|refine zzb fun w hw => ?_|refine zzh fun _ => ?_|refine zzi fun _ _ => ?_|refine zu1 ?_|refine zu2 ?_|refine zu3 ?_|refine zu4 fun _ => ?_|refine zzj (fun _ => ?_) fun _ => ?_)))))
    rename_i b2 b3 b4
    refine WL_callV rfl rfl rfl (fun W hW => hC W (hW.le zpk)) ?_
    clear hC
    ((repeat' (first|refine zza ?_|refine zc9 ?_|refine zzb fun w hw => ?_|refine zzh fun _ => ?_|refine zzi fun _ _ => ?_|refine zu1 ?_|refine zu2 ?_|refine zu3 ?_|refine zu4 fun _ => ?_|refine zzj (fun _ => ?_) fun _ => ?_)); (repeat' (refine CW_seq ?_; (repeat' (first|refine zza ?_|refine zc9 ?_|refine zzb fun w hw => ?_|refine zzh fun _ => ?_|refine zzi fun _ _ => ?_|refine zu1 ?_|refine zu2 ?_|refine zu3 ?_|refine zu4 fun _ => ?_|refine zzj (fun _ => ?_) fun _ => ?_)))))
    refine WL_callX rfl rfl rfl (fun W hW => seek_firsts a G W (hW.le zpk) ha h7) ?_
    rintro bm _
    dsimp only [List.cons_append, List.nil_append]
    ((repeat' (first|refine zza ?_|refine zc9 ?_|refine zzb fun w hw => ?_|refine zzh fun _ => ?_|refine zzi fun _ _ => ?_|refine zu1 ?_|refine zu2 ?_|refine zu3 ?_|refine zu4 fun _ => ?_|refine zzj (fun _ => ?_) fun _ => ?_)); (repeat' (refine CW_seq ?_; (repeat' (first|refine zza ?_|refine zc9 ?_|refine zzb fun w hw => ?_|refine zzh fun _ => ?_|refine zzi fun _ _ => ?_|refine zu1 ?_|refine zu2 ?_|refine zu3 ?_|refine zu4 fun _ => ?_|refine zzj (fun _ => ?_) fun _ => ?_)))))
    refine WL_callX rfl rfl rfl (fun W hW => ints_Clone b.shape.p b.shape.c b.shape.xs G W hb.shape (by omega) (hW.le zpk)) ?_
    rintro x1 _
    dsimp only [List.cons_append, List.nil_append]
    ((repeat' (first|refine zza ?_|refine zc9 ?_|refine zzb fun w hw => ?_|refine zzh fun _ => ?_|refine zzi fun _ _ => ?_|refine zu1 ?_|refine zu2 ?_|refine zu3 ?_|refine zu4 fun _ => ?_|refine zzj (fun _ => ?_) fun _ => ?_)); (repeat' (refine CW_seq ?_; (repeat' (first|refine zza ?_|refine zc9 ?_|refine zzb fun w hw => ?_|refine zzh fun _ => ?_|refine zzi fun _ _ => ?_|refine zu1 ?_|refine zu2 ?_|refine zu3 ?_|refine zu4 fun _ => ?_|refine zzj (fun _ => ?_) fun _ => ?_)))))
    rename_i b8
    refine CW_ent (m' := [ro w [] G, blk b8 27 #[.bool false, .slice x1.1 b.shape.xs.length x1.2, .slice none 0 0], own1 x1 b.shape.xs, slN, mq bm (fsts a.data.xs), boxB b2 a, boxB b3 b, zB b4]) (Ent.cons (by repeat (first | exact .here | apply Pick.there)) (Ent.consK (k := Ent.cons zpk (Ent.nilown (Ent.cons zpk (Ent.cons zpk (Ent.cons zpk (Ent.cons zpk Ent.nil)))))) zpk)) ?_
    refine CW_loopK [(2,_),(3,_),(4,_),(7,_),(8,_),(33,_),(34,_)] zcov (fun z : Nat × Option Addr × Nat => [(35, .int .i64 (z.1 : Int))]) (fun z => [ro w [] G, arB' b8 false x1 b.shape.xs z.2 z.1, own1 x1 b.shape.xs, sl 3 1 z.2.1 z.1 z.2.2 (((b.data.xs.take z.1).map (indexC a.arr b.arr)).map (Value.int .i64)), mq bm (fsts a.data.xs), boxB b2 a, boxB b3 b, zB b4]) (fun z => z.1 ≤ b.data.xs.length) (fun z => b.data.xs.length - z.1) (0, none, 0) (Nat.zero_le _) zcov (Ent.cons zpk (Ent.cons zpk (Ent.cons zpk (Ent.cons zpk (Ent.cons zpk (Ent.cons zpk (Ent.cons zpk (Ent.cons zpk Ent.nil)))))))) ?_
    rintro ⟨i, q, c⟩ hi
    dsimp only at hi ⊢
    by_cases hlt : i < b.data.xs.length
    · have hsu := map_take_succ (f := indexC a.arr b.arr) hlt
      have hix : indexC a.arr b.arr (b.data.xs.getD i 0) = if hasA a.arr b.char (b.data.xs.getD i 0) = true then getI (fsts a.data.xs) (b.data.xs.getD i 0) else (a.data.xs.length : Int) := rfl
      have hH : hasA a.arr b.char (b.data.xs.getD i 0) = (hasI (fsts a.data.xs) (b.data.xs.getD i 0) && decide (b.char = a.char)) := rfl
      have fin : ∀ (q2 : Option Addr) (k2 : Nat) (v : Int), v = indexC a.arr b.arr (b.data.xs.getD i 0) → Ent [ro w [] G, arB' b8 false x1 b.shape.xs (q2, k2) (i + 1), sl 3 1 q2 (i + 1) k2 (((b.data.xs.take i).map (indexC a.arr b.arr)).map (Value.int .i64) ++ [.int .i64 v]), own1 x1 b.shape.xs, mq bm (fsts a.data.xs), boxB b2 a, boxB b3 b, zB b4] [ro w [] G, arB' b8 false x1 b.shape.xs (q2, k2) (i + 1), own1 x1 b.shape.xs, sl 3 1 q2 (i + 1) k2 (((b.data.xs.take (i + 1)).map (indexC a.arr b.arr)).map (Value.int .i64)), mq bm (fsts a.data.xs), boxB b2 a, boxB b3 b, zB b4] := fun q2 k2 v hv => by
        rw [hsu, List.map_append, hv]
        exact Ent.cons zpk (Ent.cons zpk (Ent.cons zpk (Ent.cons zpk (Ent.cons zpk (Ent.cons zpk (Ent.cons zpk (Ent.cons zpk Ent.nil)))))))
      clear hsu
      ((repeat' (first|refine zza ?_|refine zc9 ?_|refine zzb fun w hw => ?_|refine zzh fun _ => ?_|refine zzi fun _ _ => ?_|refine zu1 ?_|refine zu2 ?_|refine zu3 ?_|refine zu4 fun _ => ?_|refine zzj (fun _ => ?_) fun _ => ?_)); (repeat' (refine CW_seq ?_; (repeat' (first|refine zza ?_|refine zc9 ?_|refine zzb fun w hw => ?_|refine zzh fun _ => ?_|refine zzi fun _ _ => ?_|refine zu1 ?_|refine zu2 ?_|refine zu3 ?_|refine zu4 fun _ => ?_|refine zzj (fun _ => ?_) fun _ => ?_)))))
      refine WL_op rfl rfl (y_lookupI rfl rfl fun w hw => hw.mq zpk) ?_
      cases hk : hasI (fsts a.data.xs) (b.data.xs.getD i 0) with
      | true =>
        by_cases hch : a.char = b.char
        · rw [hH, hk, decide_eq_true hch.symm, Bool.true_and, if_pos rfl] at hix
          clear hH
          ((repeat' (first|refine zza ?_|refine zc9 ?_|refine zzb fun w hw => ?_|refine zzh fun _ => ?_|refine zzi fun _ _ => ?_|refine zu1 ?_|refine zu2 ?_|refine zu3 ?_|refine zu4 fun _ => ?_|refine zzj (fun _ => ?_) fun _ => ?_)); (repeat' (refine CW_seq ?_; (repeat' (first|refine zza ?_|refine zc9 ?_|refine zzb fun w hw => ?_|refine zzh fun _ => ?_|refine zzi fun _ _ => ?_|refine zu1 ?_|refine zu2 ?_|refine zu3 ?_|refine zu4 fun _ => ?_|refine zzj (fun _ => ?_) fun _ => ?_)))))
          rename_i q2 k2
          refine EX_loop' (i + 1, q2, k2) ⟨zcov, ?_, by show b.data.xs.length - (i + 1) < b.data.xs.length - i; omega, hlt⟩
          refine Ent.trans ?_ (fin q2 k2 _ hix.symm)
          exact Ent.cons (by repeat (first | exact .here | apply Pick.there)) (Ent.consK (k := zent) zpk)
        · rw [hH, hk, decide_eq_false (fun h => hch h.symm), Bool.true_and, if_neg (by simp)] at hix
          clear hH
          ((repeat' (first|refine zza ?_|refine zc9 ?_|refine zzb fun w hw => ?_|refine zzh fun _ => ?_|refine zzi fun _ _ => ?_|refine zu1 ?_|refine zu2 ?_|refine zu3 ?_|refine zu4 fun _ => ?_|refine zzj (fun _ => ?_) fun _ => ?_)); (repeat' (refine CW_seq ?_; (repeat' (first|refine zza ?_|refine zc9 ?_|refine zzb fun w hw => ?_|refine zzh fun _ => ?_|refine zzi fun _ _ => ?_|refine zu1 ?_|refine zu2 ?_|refine zu3 ?_|refine zu4 fun _ => ?_|refine zzj (fun _ => ?_) fun _ => ?_)))))
          rename_i q2 k2
          refine EX_loop' (i + 1, q2, k2) ⟨zcov, ?_, by show b.data.xs.length - (i + 1) < b.data.xs.length - i; omega, hlt⟩
          refine Ent.trans ?_ (fin q2 k2 _ hix.symm)
          exact Ent.cons (by repeat (first | exact .here | apply Pick.there)) (Ent.consK (k := zent) zpk)
      | false =>
        rw [hH, hk, Bool.false_and, if_neg (by simp)] at hix
        clear hH
        ((repeat' (first|refine zza ?_|refine zc9 ?_|refine zzb fun w hw => ?_|refine zzh fun _ => ?_|refine zzi fun _ _ => ?_|refine zu1 ?_|refine zu2 ?_|refine zu3 ?_|refine zu4 fun _ => ?_|refine zzj (fun _ => ?_) fun _ => ?_)); (repeat' (refine CW_seq ?_; (repeat' (first|refine zza ?_|refine zc9 ?_|refine zzb fun w hw => ?_|refine zzh fun _ => ?_|refine zzi fun _ _ => ?_|refine zu1 ?_|refine zu2 ?_|refine zu3 ?_|refine zu4 fun _ => ?_|refine zzj (fun _ => ?_) fun _ => ?_)))))
        rename_i q2 k2
        refine EX_loop' (i + 1, q2, k2) ⟨zcov, ?_, by show b.data.xs.length - (i + 1) < b.data.xs.length - i; omega, hlt⟩
        refine Ent.trans ?_ (fin q2 k2 _ hix.symm)
        exact Ent.cons (by repeat (first | exact .here | apply Pick.there)) (Ent.consK (k := zent) zpk)
    · obtain rfl : i = b.data.xs.length := by omega
      rw [List.take_length]
      refine CW_ent (m' := [ro w [] G, zB b4, arB' b8 false x1 b.shape.xs (q, c) b.data.xs.length, own1 x1 b.shape.xs, sl 3 1 q b.data.xs.length c ((b.data.xs.map (indexC a.arr b.arr)).map (Value.int .i64))]) (by repeat (first | exact Ent.nil | refine Ent.cons (by repeat (first | exact .here | apply Pick.there)) ?_)) ?_
      ((repeat' (first|refine zza ?_|refine zc9 ?_|refine zzb fun w hw => ?_|refine zzh fun _ => ?_|refine zzi fun _ _ => ?_|refine zu1 ?_|refine zu2 ?_|refine zu3 ?_|refine zu4 fun _ => ?_|refine zzj (fun _ => ?_) fun _ => ?_)); (repeat' (refine CW_seq ?_; (repeat' (first|refine zza ?_|refine zc9 ?_|refine zzb fun w hw => ?_|refine zzh fun _ => ?_|refine zzi fun _ _ => ?_|refine zu1 ?_|refine zu2 ?_|refine zu3 ?_|refine zu4 fun _ => ?_|refine zzj (fun _ => ?_) fun _ => ?_)))))
      refine EX_retK2 (b := b4) rfl rfl rfl rfl zpk rfl fun w' hw => ?_
      exact ResT.own (ch := false) (ss := b.shape.xs) (ds := b.data.xs.map (indexC a.arr b.arr)) (hw.ent (Ent.cons zpk (Ent.cons zpk (Ent.cons zpk Ent.nil)))) rfl (by simp) rfl hb.shapeI fun x hx => by
        obtain ⟨c', _, rfl⟩ := List.mem_map.1 hx
        exact indexC_I h7 c'
  · have hF : indexF a.arr b.arr = (3, zeroA) := if_pos hl
    rw [hF]
    clear hF
    ((repeat' (first|refine zza ?_|refine zc9 ?_|refine zzb fun w hw => ?_|refine zzh fun _ => ?_|refine zzi fun _ _ => ?_|refine zu1 ?_|refine zu2 ?_|refine zu3 ?_|refine zu4 fun _ => ?_|refine zzj (fun _ => ?_) fun _ => ?_)); (repeat' (refine CW_seq ?_; (repeat' (first|refine zza ?_|refine zc9 ?_|refine zzb fun w hw => ?_|refine zzh fun _ => ?_|refine zzi fun _ _ => ?_|refine zu1 ?_|refine zu2 ?_|refine zu3 ?_|refine zu4 fun _ => ?_|refine zzj (fun _ => ?_) fun _ => ?_)))))
    rename_i b2 b3 b4
    refine WL_callV rfl rfl rfl (fun W hW => hC W (hW.le zpk)) ?_
    clear hC
    ((repeat' (first|refine zza ?_|refine zc9 ?_|refine zzb fun w hw => ?_|refine zzh fun _ => ?_|refine zzi fun _ _ => ?_|refine zu1 ?_|refine zu2 ?_|refine zu3 ?_|refine zu4 fun _ => ?_|refine zzj (fun _ => ?_) fun _ => ?_)); (repeat' (refine CW_seq ?_; (repeat' (first|refine zza ?_|refine zc9 ?_|refine zzb fun w hw => ?_|refine zzh fun _ => ?_|refine zzi fun _ _ => ?_|refine zu1 ?_|refine zu2 ?_|refine zu3 ?_|refine zu4 fun _ => ?_|refine zzj (fun _ => ?_) fun _ => ?_)))))
    refine EX_retK2 (b := b4) rfl rfl rfl rfl zpk rfl fun w' hw => ?_
    exact ResT.err (by decide) (hw.ent (Ent.cons zpk Ent.nil))
end Go.Proofs.YtadlpfbjnpbnoaaGreatDoor
