/-
  The package seek, walked: In, Union.
-/
import Derived.Test.YtadlpfbjnpbnoaaGreatDoorZGo
import Derived.Test.YtadlpfbjnpbnoaaGreatDoorZSeekZ
namespace Go.Proofs.YtadlpfbjnpbnoaaGreatDoor
open Go.RowKit
theorem range_map_getD (xs : List Int) (g : Int → Int) : (List.range xs.length).map (fun i => g (xs.getD i 0)) = xs.map g := by
  refine List.ext_getElem (by simp) fun i h1 h2 => ?_
  simp only [List.getElem_map, List.getElem_range]
  congr 1
  have : i < xs.length := by simpa using h1
  simp [List.getD, List.getElem?_eq_getElem this]
theorem upTo_all (n : Nat) (z f : Nat → Int) : upTo n z f n = (List.range n).map f := by
  unfold upTo
  refine List.map_congr_left fun i hi => ?_
  rw [if_pos (List.mem_range.1 hi)]
def inC (a b : Arr) (c : Int) : Int := if hasA b a.char c = true then 1 else 0
set_option maxHeartbeats 16000000 in
set_option maxRecDepth 100000 in
theorem seek_In (a b : ArrM) (G : Rd) (w : World) (hS : Rd.le G w.cell?) (ha : ArrG G a) (hb : ArrG G b) (h1 : a.arr.bad = 0) (h2 : b.arr.bad = 0) :
    Calls Tryz.prog 112 #[arrV a, arrV b] w (ResT (0, inF a.arr b.arr) G w) := by
  refine enterR (args := [_, _]) (m := []) (F := []) hS.sub rfl Tryz.func112 rfl Tryz.ntmps112 (by simp) ?_
  clear hS
  have hC := fun W (h : Rd.le G W.cell?) => seek_check a b G W h ha hb
  rw [badTwo_ok h1 h2, errV_zero] at hC
  have h7 : a.data.xs.length ≤ 4096 := (Arr.good h1).cells
  have h8 : b.data.xs.length ≤ 4096 := (Arr.good h2).cells
  have h6 : a.shape.xs.length ≤ 6 := (Arr.good h1).rank
  have had := ha.data
  (repeat' ((fail_if_success refine zc8 ?_); (first|refine zza ?_|refine zzb fun w hw => ?_|refine zzh fun _ => ?_|refine zzi fun _ _ => ?_|refine zzj (fun _ => ?_) fun _ => ?_)))
  rename_i b2 b3 b4
  refine WL_callV rfl rfl rfl (fun W hW => hC W (hW.le zpk)) ?_
  clear hC
  (repeat' ((fail_if_success refine zc8 ?_); (first|refine zza ?_|refine zzb fun w hw => ?_|refine zzh fun _ => ?_|refine zzi fun _ _ => ?_|refine zzj (fun _ => ?_) fun _ => ?_)))
  refine WL_callX rfl rfl rfl (fun W hW => seek_firsts b G W (hW.le zpk) hb h8) ?_
  rintro bm _
  dsimp only [List.cons_append, List.nil_append]
  (repeat' ((fail_if_success refine zc8 ?_); (first|refine zza ?_|refine zzb fun w hw => ?_|refine zzh fun _ => ?_|refine zzi fun _ _ => ?_|refine zzj (fun _ => ?_) fun _ => ?_)))
  refine CW_ent (m' := [mq bm (fsts b.data.xs), boxB b3 b, zB b4, boxB b2 a, ro w [] G]) zent ?_
  refine CW_par 9 [0, 1, 3, 4, 5] [2, 6, 7, 8] [boxB b2 a, ro w [] G] (pm := [mq bm (fsts b.data.xs), boxB b3 b, zB b4]) Ent.refl (by kernel_rfl) (by decide +kernel) ?_
  (refine WP_op rfl rfl rfl zyi ?_)
  (refine WP_op rfl rfl rfl zyi ?_)
  (refine WP_op rfl rfl rfl zyi ?_)
  (refine WP_op rfl rfl rfl zyi ?_)
  (refine WP_op rfl rfl rfl zyi ?_)
  refine WP_par (fun ρ m => ∃ z : (Option Addr × Nat) × Nat × Nat, (ρ.find 29 = some (.agg #[.bool false, .slice z.1.1 a.shape.xs.length z.1.2, .slice (some ⟨z.2.1, 0, none⟩) a.data.xs.length a.data.xs.length]) ∧ ρ.find 8 = some (ptrV z.2.2) ∧ ρ.find 2 = some (ptrV b2) ∧ ρ.find 3 = some (ptrV b3) ∧ ρ.find 4 = some (ptrV b4) ∧ ρ.find 7 = some (.map (some bm))) ∧
    Ent m [zB z.2.2, own1 z.1 a.shape.xs, atB z.2.1 a.data.xs.length (List.replicate a.data.xs.length 0), mq bm (fsts b.data.xs), boxB b3 b, zB b4]) (m1 := [mq bm (fsts b.data.xs), boxB b3 b, zB b4]) Ent.refl (by decide +kernel) ?_ ?_
  · rintro ρ m ⟨⟨x1, bd, b8⟩, ⟨f1, f2, f3, f4, f5, f6⟩, hE⟩
    dsimp only at f1 f2 hE
    refine WL_cov (ρ' := [(29, .agg #[.bool false, .slice x1.1 a.shape.xs.length x1.2, .slice (some ⟨bd, 0, none⟩) a.data.xs.length a.data.xs.length]), (8, ptrV b8), (2, ptrV b2), (3, ptrV b3), (4, ptrV b4), (7, .map (some bm))]) (Cov.cons f1 rfl (Cov.cons f2 rfl (Cov.cons f3 rfl (Cov.cons f4 rfl (Cov.cons f5 rfl (Cov.cons f6 rfl Cov.nil)))))) ?_
    refine WL_ent hE.appR ?_
    dsimp only [List.cons_append, List.nil_append]
    clear f1 f2 f3 f4 f5 f6 hE ρ m
    refine WL_ent (m' := [ro w [] G, zB b8, own1 x1 a.shape.xs, atB bd a.data.xs.length (List.replicate a.data.xs.length 0), mq bm (fsts b.data.xs), boxB b3 b, boxB b2 a, zB b4]) (by repeat (first | exact Ent.nil | refine Ent.cons (by repeat (first | exact .here | apply Pick.there)) ?_)) ?_
    ((repeat' (first|refine zza ?_|refine zc9 ?_|refine zzb fun w hw => ?_|refine zzh fun _ => ?_|refine zzi fun _ _ => ?_|refine zu1 ?_|refine zu2 ?_|refine zu3 ?_|refine zu4 fun _ => ?_|refine zzj (fun _ => ?_) fun _ => ?_)); (repeat' (refine CW_seq ?_; (repeat' (first|refine zza ?_|refine zc9 ?_|refine zzb fun w hw => ?_|refine zzh fun _ => ?_|refine zzi fun _ _ => ?_|refine zu1 ?_|refine zu2 ?_|refine zu3 ?_|refine zu4 fun _ => ?_|refine zzj (fun _ => ?_) fun _ => ?_)))))
    refine CW_loopK [(2,_),(3,_),(4,_),(7,_),(8,_),(31,_),(32,_)] zcov (fun i : Nat => [(33, .int .i64 (i : Int))]) (fun i => [ro w [] G, blk b8 27 #[.bool false, .slice x1.1 a.shape.xs.length x1.2, .slice (some ⟨bd, 0, none⟩) a.data.xs.length a.data.xs.length], atB bd a.data.xs.length (upTo a.data.xs.length (fun _ => 0) (fun i => inC a.arr b.arr (a.data.xs.getD i 0)) i), mq bm (fsts b.data.xs), boxB b3 b, boxB b2 a, zB b4, own1 x1 a.shape.xs]) (fun i => i ≤ a.data.xs.length) (fun i => a.data.xs.length - i) 0 (Nat.zero_le _) zcov (by
      show Ent _ [ro w [] G, blk b8 27 #[.bool false, .slice x1.1 a.shape.xs.length x1.2, .slice (some ⟨bd, 0, none⟩) a.data.xs.length a.data.xs.length], atB bd a.data.xs.length (upTo a.data.xs.length (fun _ => 0) _ 0), mq bm (fsts b.data.xs), boxB b3 b, boxB b2 a, zB b4, own1 x1 a.shape.xs]
      rw [upTo_zero]
      exact Ent.cons (by repeat (first | exact .here | apply Pick.there)) (Ent.consK (k := by repeat (first | exact Ent.nil | refine Ent.cons (by repeat (first | exact .here | apply Pick.there)) ?_)) zpk)) ?_
    rintro i hi
    by_cases hlt : i < a.data.xs.length
    · have eS := upTo_set a.data.xs.length (fun _ => 0) (fun i => inC a.arr b.arr (a.data.xs.getD i 0)) i hlt
      have eO := upTo_same a.data.xs.length (fun _ => 0) (fun i => inC a.arr b.arr (a.data.xs.getD i 0)) i
      have hUl := upTo_len a.data.xs.length (fun _ => 0) (fun i => inC a.arr b.arr (a.data.xs.getD i 0)) i
      have hI1 : inC a.arr b.arr (a.data.xs.getD i 0) = if (hasI (fsts b.data.xs) (a.data.xs.getD i 0) && decide (a.char = b.char)) = true then 1 else 0 := rfl
      ((repeat' (first|refine zza ?_|refine zc9 ?_|refine zzb fun w hw => ?_|refine zzh fun _ => ?_|refine zzi fun _ _ => ?_|refine zu1 ?_|refine zu2 ?_|refine zu3 ?_|refine zu4 fun _ => ?_|refine zzj (fun _ => ?_) fun _ => ?_)); (repeat' (refine CW_seq ?_; (repeat' (first|refine zza ?_|refine zc9 ?_|refine zzb fun w hw => ?_|refine zzh fun _ => ?_|refine zzi fun _ _ => ?_|refine zu1 ?_|refine zu2 ?_|refine zu3 ?_|refine zu4 fun _ => ?_|refine zzj (fun _ => ?_) fun _ => ?_)))))
      refine WL_op rfl rfl (y_lookupI rfl rfl fun w hw => hw.mq zpk) ?_
      cases hk : hasI (fsts b.data.xs) (a.data.xs.getD i 0) with
      | true =>
        by_cases hch : a.char = b.char
        · rw [hk, decide_eq_true hch, Bool.true_and, if_pos rfl] at hI1
          clear eO
          ((repeat' (first|refine zza ?_|refine zc9 ?_|refine zzb fun w hw => ?_|refine zzh fun _ => ?_|refine zzi fun _ _ => ?_|refine zu1 ?_|refine zu2 ?_|refine zu3 ?_|refine zu4 fun _ => ?_|refine zzj (fun _ => ?_) fun _ => ?_)); (repeat' (refine CW_seq ?_; (repeat' (first|refine zza ?_|refine zc9 ?_|refine zzb fun w hw => ?_|refine zzh fun _ => ?_|refine zzi fun _ _ => ?_|refine zu1 ?_|refine zu2 ?_|refine zu3 ?_|refine zu4 fun _ => ?_|refine zzj (fun _ => ?_) fun _ => ?_)))))
          rw [map_set]
          refine EX_loop' (i + 1) ⟨zcov, ?_, by omega, by omega⟩
          show Ent _ [ro w [] G, blk b8 27 #[.bool false, .slice x1.1 a.shape.xs.length x1.2, .slice (some ⟨bd, 0, none⟩) a.data.xs.length a.data.xs.length], atB bd a.data.xs.length (upTo a.data.xs.length (fun _ => 0) (fun i => inC a.arr b.arr (a.data.xs.getD i 0)) (i + 1)), mq bm (fsts b.data.xs), boxB b3 b, boxB b2 a, zB b4, own1 x1 a.shape.xs]
          rw [← eS, hI1]
          exact (by repeat (first | exact Ent.nil | refine Ent.cons (by repeat (first | exact .here | apply Pick.there)) ?_))
        · rw [hk, decide_eq_false hch, Bool.true_and, if_neg (by simp)] at hI1
          clear eS
          ((repeat' (first|refine zza ?_|refine zc9 ?_|refine zzb fun w hw => ?_|refine zzh fun _ => ?_|refine zzi fun _ _ => ?_|refine zu1 ?_|refine zu2 ?_|refine zu3 ?_|refine zu4 fun _ => ?_|refine zzj (fun _ => ?_) fun _ => ?_)); (repeat' (refine CW_seq ?_; (repeat' (first|refine zza ?_|refine zc9 ?_|refine zzb fun w hw => ?_|refine zzh fun _ => ?_|refine zzi fun _ _ => ?_|refine zu1 ?_|refine zu2 ?_|refine zu3 ?_|refine zu4 fun _ => ?_|refine zzj (fun _ => ?_) fun _ => ?_)))))
          refine EX_loop' (i + 1) ⟨zcov, ?_, by omega, by omega⟩
          show Ent _ [ro w [] G, blk b8 27 #[.bool false, .slice x1.1 a.shape.xs.length x1.2, .slice (some ⟨bd, 0, none⟩) a.data.xs.length a.data.xs.length], atB bd a.data.xs.length (upTo a.data.xs.length (fun _ => 0) (fun i => inC a.arr b.arr (a.data.xs.getD i 0)) (i + 1)), mq bm (fsts b.data.xs), boxB b3 b, boxB b2 a, zB b4, own1 x1 a.shape.xs]
          rw [eO hI1]
          exact (by repeat (first | exact Ent.nil | refine Ent.cons (by repeat (first | exact .here | apply Pick.there)) ?_))
      | false =>
        rw [hk, Bool.false_and, if_neg (by simp)] at hI1
        clear eS
        ((repeat' (first|refine zza ?_|refine zc9 ?_|refine zzb fun w hw => ?_|refine zzh fun _ => ?_|refine zzi fun _ _ => ?_|refine zu1 ?_|refine zu2 ?_|refine zu3 ?_|refine zu4 fun _ => ?_|refine zzj (fun _ => ?_) fun _ => ?_)); (repeat' (refine CW_seq ?_; (repeat' (first|refine zza ?_|refine zc9 ?_|refine zzb fun w hw => ?_|refine zzh fun _ => ?_|refine zzi fun _ _ => ?_|refine zu1 ?_|refine zu2 ?_|refine zu3 ?_|refine zu4 fun _ => ?_|refine zzj (fun _ => ?_) fun _ => ?_)))))
        refine EX_loop' (i + 1) ⟨zcov, ?_, by omega, by omega⟩
        show Ent _ [ro w [] G, blk b8 27 #[.bool false, .slice x1.1 a.shape.xs.length x1.2, .slice (some ⟨bd, 0, none⟩) a.data.xs.length a.data.xs.length], atB bd a.data.xs.length (upTo a.data.xs.length (fun _ => 0) (fun i => inC a.arr b.arr (a.data.xs.getD i 0)) (i + 1)), mq bm (fsts b.data.xs), boxB b3 b, boxB b2 a, zB b4, own1 x1 a.shape.xs]
        rw [eO hI1]
        exact (by repeat (first | exact Ent.nil | refine Ent.cons (by repeat (first | exact .here | apply Pick.there)) ?_))
    · obtain rfl : i = a.data.xs.length := by omega
      rw [upTo_all, range_map_getD]
      refine CW_ent (m' := [ro w [] G, zB b4, blk b8 27 #[.bool false, .slice x1.1 a.shape.xs.length x1.2, .slice (some ⟨bd, 0, none⟩) a.data.xs.length a.data.xs.length], own1 x1 a.shape.xs, atB bd a.data.xs.length (a.data.xs.map (inC a.arr b.arr))]) (by repeat (first | exact Ent.nil | refine Ent.cons (by repeat (first | exact .here | apply Pick.there)) ?_)) ?_
      ((repeat' (first|refine zza ?_|refine zc9 ?_|refine zzb fun w hw => ?_|refine zzh fun _ => ?_|refine zzi fun _ _ => ?_|refine zu1 ?_|refine zu2 ?_|refine zu3 ?_|refine zu4 fun _ => ?_|refine zzj (fun _ => ?_) fun _ => ?_)); (repeat' (refine CW_seq ?_; (repeat' (first|refine zza ?_|refine zc9 ?_|refine zzb fun w hw => ?_|refine zzh fun _ => ?_|refine zzi fun _ _ => ?_|refine zu1 ?_|refine zu2 ?_|refine zu3 ?_|refine zu4 fun _ => ?_|refine zzj (fun _ => ?_) fun _ => ?_)))))
      refine EX_retK2 (b := b4) rfl rfl rfl rfl zpk rfl fun w' hw => ?_
      exact ResT.own (ch := false) (ss := a.shape.xs) (ds := a.data.xs.map (inC a.arr b.arr)) (hw.ent (Ent.cons zpk (Ent.cons zpk (Ent.cons zpk Ent.nil)))) rfl (by simp) rfl ha.shapeI fun x hx => by
        obtain ⟨c', _, rfl⟩ := List.mem_map.1 hx
        unfold inC
        split <;> exact ⟨by decide, by decide⟩
  · refine Pr_three 2 6 8 (by decide +kernel) ?_ ?_ ?_
    · refine Stp_callX zpk rfl rfl rfl (fun W hl => ints_Clone a.shape.p a.shape.c a.shape.xs G W ha.shape (by omega) hl) ?_
      rintro x1 _
      refine Pr_two 6 8 (by decide +kernel) ?_ ?_
      · refine Stp_makeI (n := a.data.xs.length) rfl rfl rfl (by omega) (by omega) rfl fun bd => ?_
        refine Pr_two 7 8 (by decide +kernel) ?_ ?_
        · refine Stp_op rfl rfl (y_build rfl rfl) ?_
          refine Pr_one 8 (by decide +kernel) ?_
          refine Stp_alloc rfl rfl fun b8 => ?_
          exact Pr_end (by decide +kernel) ⟨(x1, bd, b8), ⟨rfl, rfl, rfl, rfl, rfl, rfl⟩, zent⟩
        · refine Stp_alloc rfl rfl fun b8 => ?_
          refine Pr_one 7 (by decide +kernel) ?_
          refine Stp_op rfl rfl (y_build rfl rfl) ?_
          exact Pr_end (by decide +kernel) ⟨(x1, bd, b8), ⟨rfl, rfl, rfl, rfl, rfl, rfl⟩, zent⟩
      · refine Stp_alloc rfl rfl fun b8 => ?_
        refine Pr_one 6 (by decide +kernel) ?_
        refine Stp_makeI (n := a.data.xs.length) rfl rfl rfl (by omega) (by omega) rfl fun bd => ?_
        refine Pr_one 7 (by decide +kernel) ?_
        refine Stp_op rfl rfl (y_build rfl rfl) ?_
        exact Pr_end (by decide +kernel) ⟨(x1, bd, b8), ⟨rfl, rfl, rfl, rfl, rfl, rfl⟩, zent⟩
    · refine Stp_makeI (n := a.data.xs.length) rfl rfl rfl (by omega) (by omega) rfl fun bd => ?_
      refine Pr_two 2 8 (by decide +kernel) ?_ ?_
      · refine Stp_callX zpk rfl rfl rfl (fun W hl => ints_Clone a.shape.p a.shape.c a.shape.xs G W ha.shape (by omega) hl) ?_
        rintro x1 _
        refine Pr_two 7 8 (by decide +kernel) ?_ ?_
        · refine Stp_op rfl rfl (y_build rfl rfl) ?_
          refine Pr_one 8 (by decide +kernel) ?_
          refine Stp_alloc rfl rfl fun b8 => ?_
          exact Pr_end (by decide +kernel) ⟨(x1, bd, b8), ⟨rfl, rfl, rfl, rfl, rfl, rfl⟩, zent⟩
        · refine Stp_alloc rfl rfl fun b8 => ?_
          refine Pr_one 7 (by decide +kernel) ?_
          refine Stp_op rfl rfl (y_build rfl rfl) ?_
          exact Pr_end (by decide +kernel) ⟨(x1, bd, b8), ⟨rfl, rfl, rfl, rfl, rfl, rfl⟩, zent⟩
      · refine Stp_alloc rfl rfl fun b8 => ?_
        refine Pr_one 2 (by decide +kernel) ?_
        refine Stp_callX zpk rfl rfl rfl (fun W hl => ints_Clone a.shape.p a.shape.c a.shape.xs G W ha.shape (by omega) hl) ?_
        rintro x1 _
        refine Pr_one 7 (by decide +kernel) ?_
        refine Stp_op rfl rfl (y_build rfl rfl) ?_
        exact Pr_end (by decide +kernel) ⟨(x1, bd, b8), ⟨rfl, rfl, rfl, rfl, rfl, rfl⟩, zent⟩
    · refine Stp_alloc rfl rfl fun b8 => ?_
      refine Pr_two 2 6 (by decide +kernel) ?_ ?_
      · refine Stp_callX zpk rfl rfl rfl (fun W hl => ints_Clone a.shape.p a.shape.c a.shape.xs G W ha.shape (by omega) hl) ?_
        rintro x1 _
        refine Pr_one 6 (by decide +kernel) ?_
        refine Stp_makeI (n := a.data.xs.length) rfl rfl rfl (by omega) (by omega) rfl fun bd => ?_
        refine Pr_one 7 (by decide +kernel) ?_
        refine Stp_op rfl rfl (y_build rfl rfl) ?_
        exact Pr_end (by decide +kernel) ⟨(x1, bd, b8), ⟨rfl, rfl, rfl, rfl, rfl, rfl⟩, zent⟩
      · refine Stp_makeI (n := a.data.xs.length) rfl rfl rfl (by omega) (by omega) rfl fun bd => ?_
        refine Pr_one 2 (by decide +kernel) ?_
        refine Stp_callX zpk rfl rfl rfl (fun W hl => ints_Clone a.shape.p a.shape.c a.shape.xs G W ha.shape (by omega) hl) ?_
        rintro x1 _
        refine Pr_one 7 (by decide +kernel) ?_
        refine Stp_op rfl rfl (y_build rfl rfl) ?_
        exact Pr_end (by decide +kernel) ⟨(x1, bd, b8), ⟨rfl, rfl, rfl, rfl, rfl, rfl⟩, zent⟩
theorem unionF_ok {a b : Arr} (h : pairE a b = 0) (hc : a.char = b.char) : unionF a b = if 4096 < (a.data ++ (withoutF b a).2.data).length then (7, zeroA) else (0, ⟨a.char, [((a.data ++ (withoutF b a).2.data).length : Int)], a.data ++ (withoutF b a).2.data⟩) := by
  unfold unionF
  rw [if_neg (by simp [h]), if_neg (by simp [hc])]
end Go.Proofs.YtadlpfbjnpbnoaaGreatDoor
