/-
  The package cut: a part of an array.
-/
import Derived.Test.YtadlpfbjnpbnoaaGreatDoorZGo
import Derived.Test.YtadlpfbjnpbnoaaGreatDoorZCutP
import Derived.Test.YtadlpfbjnpbnoaaGreatDoorZSeekX
import Derived.Test.YtadlpfbjnpbnoaaGreatDoorZStpM
namespace Go.Proofs.YtadlpfbjnpbnoaaGreatDoor
open Go.RowKit
theorem map_set (xs : List Int) (k : Nat) (v : Int) : (xs.map (Value.int .i64)).set k (.int .i64 v) = (xs.set k v).map (Value.int .i64) := List.map_set.symm
theorem getD_set_same {xs : List Int} {k : Nat} {v : Int} (h : k < xs.length) : (xs.set k v).getD k 0 = v := by simp [List.getD, h]
abbrev atB (b r : Nat) (xs : List Int) : HP := sl 3 1 (some ⟨b, 0, none⟩) r r (xs.map (Value.int .i64))
abbrev arB' (b : Nat) (ch : Bool) (x : Option Addr × Nat) (ss : List Int) (y : Option Addr × Nat) (n : Nat) : HP := blk b 27 #[.bool ch, .slice x.1 ss.length x.2, .slice y.1 n y.2]
set_option maxHeartbeats 16000000 in
set_option maxRecDepth 100000 in
theorem cut_window (a : ArrM) (fr s : SlV Int) (n : Nat) (G : Rd) (w : World) (hS : Rd.le G w.cell?) (ha : ArrG G a) (ga : a.arr.Good) (hf : Row encI 1 G fr.p fr.c fr.xs) (hs : Row encI 1 G s.p s.c s.xs)
    (hfI : ∀ x ∈ fr.xs, -4096 ≤ x ∧ x ≤ 4096) (hsI : ∀ x ∈ s.xs, 0 ≤ x ∧ x ≤ 4096) (hl : s.xs.length = a.shape.xs.length) (hfl : fr.xs.length = a.shape.xs.length) (hn : countF s.xs = ((n : Int), 0)) (hn4 : n ≤ 4096) :
    Calls Tryz.prog 151 #[arrV a, .slice fr.p fr.xs.length fr.c, .slice s.p s.xs.length s.c] w (OwnA (winF a.arr fr.xs s.xs) w) := by
  refine enterR (args := [_, _, _]) (m := []) (F := []) hS.sub rfl Tryz.func151 rfl Tryz.ntmps151 (by simp) ?_
  clear hS
  have h6 : a.shape.xs.length ≤ 6 := ga.rank
  have h7 : a.data.xs.length ≤ 4096 := ga.cells
  have hC := fun W (h : Rd.le G W.cell?) => cnt s.p s.c s.xs G W hs (fun x hx => I64_lit (by have := hsI x hx; omega) (by have := hsI x hx; omega)) h
  rw [hn, errV_zero] at hC
  (repeat' ((fail_if_success refine zc8 ?_); (first|refine zza ?_|refine zzb fun w hw => ?_|refine zzh fun _ => ?_|refine zzi fun _ _ => ?_|refine zzj (fun _ => ?_) fun _ => ?_)))
  rename_i b3 b6
  refine WL_callV rfl rfl rfl (fun W hW => hC W (hW.le zpk)) ?_
  clear hC
  (repeat' ((fail_if_success refine zc8 ?_); (first|refine zza ?_|refine zzb fun w hw => ?_|refine zzh fun _ => ?_|refine zzi fun _ _ => ?_|refine zzj (fun _ => ?_) fun _ => ?_)))
  refine CW_par 8 [0, 1, 2, 4] [3, 5, 6, 7] [boxB b3 a, ro w [] G] (pm := [zB b6]) (Ent.cons zpk (Ent.cons zpk (Ent.cons zpk Ent.nil))) (by kernel_rfl) (by decide +kernel) ?_
  (refine WP_op rfl rfl rfl zyi ?_)
  (refine WP_op rfl rfl rfl zyi ?_)
  (refine WP_op rfl rfl rfl zyi ?_)
  (refine WP_op rfl rfl rfl zyi ?_)
  refine WP_par (fun ρ m => ∃ z : (Option Addr × Nat) × Nat × Nat, (ρ.find 29 = some (.agg #[.bool a.char, .slice z.1.1 s.xs.length z.1.2, .slice (some ⟨z.2.1, 0, none⟩) 0 n]) ∧ ρ.find 9 = some (ptrV z.2.2) ∧ ρ.find 1 = some (.slice fr.p fr.xs.length fr.c) ∧ ρ.find 2 = some (.slice s.p s.xs.length s.c) ∧ ρ.find 3 = some (ptrV b3) ∧ ρ.find 6 = some (ptrV b6) ∧ ρ.find 7 = some (.int .i64 (n : Int))) ∧
    Ent m [zB z.2.2, own1 z.1 s.xs, sl 3 1 (some ⟨z.2.1, 0, none⟩) 0 n [], zB b6]) (m1 := [zB b6]) Ent.refl (by decide +kernel) ?_ ?_
  · rintro ρ m ⟨⟨x1, b2, b9⟩, ⟨f1, f2, f3, f4, f5, f6, f7⟩, hE⟩
    dsimp only at f1 f2 hE
    refine WL_cov (ρ' := [(29, .agg #[.bool a.char, .slice x1.1 s.xs.length x1.2, .slice (some ⟨b2, 0, none⟩) 0 n]), (9, ptrV b9), (1, .slice fr.p fr.xs.length fr.c), (2, .slice s.p s.xs.length s.c), (3, ptrV b3), (6, ptrV b6), (7, .int .i64 (n : Int))]) (Cov.cons f1 rfl (Cov.cons f2 rfl (Cov.cons f3 rfl (Cov.cons f4 rfl (Cov.cons f5 rfl (Cov.cons f6 rfl (Cov.cons f7 rfl Cov.nil))))))) ?_
    refine WL_ent hE.appR ?_
    dsimp only [List.cons_append, List.nil_append]
    clear f1 f2 f3 f4 f5 f6 f7 hE ρ m
    ((repeat' (first|refine zza ?_|refine zc9 ?_|refine zzb fun w hw => ?_|refine zzh fun _ => ?_|refine zzi fun _ _ => ?_|refine zu1 ?_|refine zu2 ?_|refine zu3 ?_|refine zu4 fun _ => ?_|refine zzj (fun _ => ?_) fun _ => ?_)); (repeat' (refine CW_seq ?_; (repeat' (first|refine zza ?_|refine zc9 ?_|refine zzb fun w hw => ?_|refine zzh fun _ => ?_|refine zzi fun _ _ => ?_|refine zu1 ?_|refine zu2 ?_|refine zu3 ?_|refine zu4 fun _ => ?_|refine zzj (fun _ => ?_) fun _ => ?_)))))
    rename_i bt
    refine CW_loopK [(1,_),(2,_),(3,_),(6,_),(9,_),(10,_),(33,_)] zcov (fun z : Nat × Option Addr × Nat => [(34, .int .i64 (z.1 : Int))]) (fun z => [arB' b9 a.char x1 s.xs z.2 z.1, own1 x1 s.xs, sl 3 1 z.2.1 z.1 z.2.2 ((winL a.arr fr.xs s.xs z.1).map (Value.int .i64)), atB bt s.xs.length (ticks s.xs z.1), zB b6, boxB b3 a, ro w [] G]) (fun z => z.1 ≤ n) (fun z => n - z.1) (0, some ⟨b2, 0, none⟩, n) (Nat.zero_le _) zcov (Ent.consK (k := zent) zpk) ?_
    rintro ⟨i, q, c⟩ hi
    dsimp only at hi ⊢
    by_cases hlt : i < n
    · have hTl := ticks_len s.xs i
      have hTI := ticks_in s.xs (fun x hx => (hsI x hx).2) i
      have hT2 : ticks s.xs (i + 1) = tick s.xs (ticks s.xs i) s.xs.length := rfl
      have hW2 := winL_succ a.arr fr.xs s.xs i
      have hcw : cellW a.arr fr.xs (ticks s.xs i) = if inW a.shape.xs (jW fr.xs (ticks s.xs i)) a.shape.xs.length = true then a.data.xs.getD (plW a.shape.xs (jW fr.xs (ticks s.xs i)) a.shape.xs.length).toNat 0 else fillA a.char := rfl
      generalize ticks s.xs i = T at *
      have hjI : ∀ k, k < s.xs.length → (0 ≤ T.getD k 0 ∧ T.getD k 0 ≤ 4096) ∧ -4096 ≤ fr.xs.getD k 0 ∧ fr.xs.getD k 0 ≤ 4096 := fun k hk => ⟨hTI _ (getD_mem (by omega)), hfI _ (getD_mem (by omega))⟩
      have hpl := place_ok ga (j := jW fr.xs T)
      have hshp := ha.shape
      have hdat := ha.data
      ((repeat' (first|refine zza ?_|refine zc9 ?_|refine zzb fun w hw => ?_|refine zzh fun _ => ?_|refine zzi fun _ _ => ?_|refine zu1 ?_|refine zu2 ?_|refine zu3 ?_|refine zu4 fun _ => ?_|refine zv1 ?_|refine zv2 ?_|refine zzj (fun _ => ?_) fun _ => ?_)); (repeat' (refine CW_seq ?_; (repeat' (first|refine zza ?_|refine zc9 ?_|refine zzb fun w hw => ?_|refine zzh fun _ => ?_|refine zzi fun _ _ => ?_|refine zu1 ?_|refine zu2 ?_|refine zu3 ?_|refine zu4 fun _ => ?_|refine zv1 ?_|refine zv2 ?_|refine zzj (fun _ => ?_) fun _ => ?_)))))
      refine CW_loopK [(1,_),(2,_),(3,_),(6,_),(9,_),(10,_),(33,_),(34,_),(36,_),(37,_)] zcov (fun k : Nat => [(38, .int .i64 (k : Int)), (11, .int .i64 (plW a.shape.xs (jW fr.xs T) k)), (12, .bool (inW a.shape.xs (jW fr.xs T) k))]) (fun _ => [arB' b9 a.char x1 s.xs (q, c) i, own1 x1 s.xs, sl 3 1 q i c ((winL a.arr fr.xs s.xs i).map (Value.int .i64)), atB bt s.xs.length T, zB b6, boxB b3 a, ro w [] G]) (fun k => k ≤ s.xs.length) (fun k => s.xs.length - k) 0 (Nat.zero_le _) zcov zent ?_
      · rintro k hk
        by_cases hlk : k < s.xs.length
        · obtain ⟨⟨j1, j2⟩, j3, j4⟩ := hjI k hlk
          clear hpl hcw hjI hTI hsI hfI hn hT2 hW2
          have e1 : inW a.shape.xs (jW fr.xs T) (k + 1) = (inW a.shape.xs (jW fr.xs T) k && (decide (0 ≤ T.getD k 0 + fr.xs.getD k 0) && decide (T.getD k 0 + fr.xs.getD k 0 < a.shape.xs.getD k 0))) := rfl
          have p1 : k < a.shape.xs.length := by omega
          have p2 : k < fr.xs.length := by omega
          have hmv : .int .i64 (w64 (w64 (plW a.shape.xs (jW fr.xs T) k * a.shape.xs.getD k 0) + (T.getD k 0 + fr.xs.getD k 0))) = Value.int .i64 (plW a.shape.xs (jW fr.xs T) (k + 1)) := rfl
          cases hin : inW a.shape.xs (jW fr.xs T) k with
          | false =>
            rw [hin] at e1
            ((repeat' (first|refine zza ?_|refine zc9 ?_|refine zzb fun w hw => ?_|refine zzh fun _ => ?_|refine zzi fun _ _ => ?_|refine zu1 ?_|refine zu2 ?_|refine zu3 ?_|refine zu4 fun _ => ?_|refine zv1 ?_|refine zv2 ?_|refine zzj (fun _ => ?_) fun _ => ?_)); (repeat' (refine CW_seq ?_; (repeat' (first|refine zza ?_|refine zc9 ?_|refine zzb fun w hw => ?_|refine zzh fun _ => ?_|refine zzi fun _ _ => ?_|refine zu1 ?_|refine zu2 ?_|refine zu3 ?_|refine zu4 fun _ => ?_|refine zv1 ?_|refine zv2 ?_|refine zzj (fun _ => ?_) fun _ => ?_)))))
            refine WL_op rfl rfl (y_mul_w rfl rfl) ?_
            ((repeat' (first|refine zza ?_|refine zc9 ?_|refine zzb fun w hw => ?_|refine zzh fun _ => ?_|refine zzi fun _ _ => ?_|refine zu1 ?_|refine zu2 ?_|refine zu3 ?_|refine zu4 fun _ => ?_|refine zv1 ?_|refine zv2 ?_|refine zzj (fun _ => ?_) fun _ => ?_)); (repeat' (refine CW_seq ?_; (repeat' (first|refine zza ?_|refine zc9 ?_|refine zzb fun w hw => ?_|refine zzh fun _ => ?_|refine zzi fun _ _ => ?_|refine zu1 ?_|refine zu2 ?_|refine zu3 ?_|refine zu4 fun _ => ?_|refine zv1 ?_|refine zv2 ?_|refine zzj (fun _ => ?_) fun _ => ?_)))))
            refine WL_op rfl rfl (y_add_w rfl rfl) ?_
            ((repeat' (first|refine zza ?_|refine zc9 ?_|refine zzb fun w hw => ?_|refine zzh fun _ => ?_|refine zzi fun _ _ => ?_|refine zu1 ?_|refine zu2 ?_|refine zu3 ?_|refine zu4 fun _ => ?_|refine zv1 ?_|refine zv2 ?_|refine zzj (fun _ => ?_) fun _ => ?_)); (repeat' (refine CW_seq ?_; (repeat' (first|refine zza ?_|refine zc9 ?_|refine zzb fun w hw => ?_|refine zzh fun _ => ?_|refine zzi fun _ _ => ?_|refine zu1 ?_|refine zu2 ?_|refine zu3 ?_|refine zu4 fun _ => ?_|refine zv1 ?_|refine zv2 ?_|refine zzj (fun _ => ?_) fun _ => ?_)))))
            exact EX_loop' (k + 1) ⟨Cov.cons rfl rfl (Cov.cons rfl rfl (Cov.cons (by show _ = some (Value.bool (inW a.shape.xs (jW fr.xs T) (k + 1))); rw [e1]; rfl) rfl zcov)), zent, by omega, by omega⟩
          | true =>
            rw [hin] at e1
            by_cases c1 : 0 ≤ T.getD k 0 + fr.xs.getD k 0
            · by_cases c2 : T.getD k 0 + fr.xs.getD k 0 < a.shape.xs.getD k 0
              · rw [decide_eq_true c1, Bool.true_and, Bool.true_and] at e1
                ((repeat' (first|refine zza ?_|refine zc9 ?_|refine zzb fun w hw => ?_|refine zzh fun _ => ?_|refine zzi fun _ _ => ?_|refine zu1 ?_|refine zu2 ?_|refine zu3 ?_|refine zu4 fun _ => ?_|refine zv1 ?_|refine zv2 ?_|refine zzj (fun _ => ?_) fun _ => ?_)); (repeat' (refine CW_seq ?_; (repeat' (first|refine zza ?_|refine zc9 ?_|refine zzb fun w hw => ?_|refine zzh fun _ => ?_|refine zzi fun _ _ => ?_|refine zu1 ?_|refine zu2 ?_|refine zu3 ?_|refine zu4 fun _ => ?_|refine zv1 ?_|refine zv2 ?_|refine zzj (fun _ => ?_) fun _ => ?_)))))
                refine WL_op rfl rfl (y_mul_w rfl rfl) ?_
                ((repeat' (first|refine zza ?_|refine zc9 ?_|refine zzb fun w hw => ?_|refine zzh fun _ => ?_|refine zzi fun _ _ => ?_|refine zu1 ?_|refine zu2 ?_|refine zu3 ?_|refine zu4 fun _ => ?_|refine zv1 ?_|refine zv2 ?_|refine zzj (fun _ => ?_) fun _ => ?_)); (repeat' (refine CW_seq ?_; (repeat' (first|refine zza ?_|refine zc9 ?_|refine zzb fun w hw => ?_|refine zzh fun _ => ?_|refine zzi fun _ _ => ?_|refine zu1 ?_|refine zu2 ?_|refine zu3 ?_|refine zu4 fun _ => ?_|refine zv1 ?_|refine zv2 ?_|refine zzj (fun _ => ?_) fun _ => ?_)))))
                refine WL_op rfl rfl (y_add_w rfl rfl) ?_
                ((repeat' (first|refine zza ?_|refine zc9 ?_|refine zzb fun w hw => ?_|refine zzh fun _ => ?_|refine zzi fun _ _ => ?_|refine zu1 ?_|refine zu2 ?_|refine zu3 ?_|refine zu4 fun _ => ?_|refine zv1 ?_|refine zv2 ?_|refine zzj (fun _ => ?_) fun _ => ?_)); (repeat' (refine CW_seq ?_; (repeat' (first|refine zza ?_|refine zc9 ?_|refine zzb fun w hw => ?_|refine zzh fun _ => ?_|refine zzi fun _ _ => ?_|refine zu1 ?_|refine zu2 ?_|refine zu3 ?_|refine zu4 fun _ => ?_|refine zv1 ?_|refine zv2 ?_|refine zzj (fun _ => ?_) fun _ => ?_)))))
                exact EX_loop' (k + 1) ⟨Cov.cons rfl rfl (Cov.cons rfl rfl (Cov.cons (by show _ = some (Value.bool (inW a.shape.xs (jW fr.xs T) (k + 1))); rw [e1]; rfl) rfl zcov)), zent, by omega, by omega⟩
              · rw [decide_eq_true c1, Bool.true_and, Bool.true_and] at e1
                ((repeat' (first|refine zza ?_|refine zc9 ?_|refine zzb fun w hw => ?_|refine zzh fun _ => ?_|refine zzi fun _ _ => ?_|refine zu1 ?_|refine zu2 ?_|refine zu3 ?_|refine zu4 fun _ => ?_|refine zv1 ?_|refine zv2 ?_|refine zzj (fun _ => ?_) fun _ => ?_)); (repeat' (refine CW_seq ?_; (repeat' (first|refine zza ?_|refine zc9 ?_|refine zzb fun w hw => ?_|refine zzh fun _ => ?_|refine zzi fun _ _ => ?_|refine zu1 ?_|refine zu2 ?_|refine zu3 ?_|refine zu4 fun _ => ?_|refine zv1 ?_|refine zv2 ?_|refine zzj (fun _ => ?_) fun _ => ?_)))))
                refine WL_op rfl rfl (y_mul_w rfl rfl) ?_
                ((repeat' (first|refine zza ?_|refine zc9 ?_|refine zzb fun w hw => ?_|refine zzh fun _ => ?_|refine zzi fun _ _ => ?_|refine zu1 ?_|refine zu2 ?_|refine zu3 ?_|refine zu4 fun _ => ?_|refine zv1 ?_|refine zv2 ?_|refine zzj (fun _ => ?_) fun _ => ?_)); (repeat' (refine CW_seq ?_; (repeat' (first|refine zza ?_|refine zc9 ?_|refine zzb fun w hw => ?_|refine zzh fun _ => ?_|refine zzi fun _ _ => ?_|refine zu1 ?_|refine zu2 ?_|refine zu3 ?_|refine zu4 fun _ => ?_|refine zv1 ?_|refine zv2 ?_|refine zzj (fun _ => ?_) fun _ => ?_)))))
                refine WL_op rfl rfl (y_add_w rfl rfl) ?_
                ((repeat' (first|refine zza ?_|refine zc9 ?_|refine zzb fun w hw => ?_|refine zzh fun _ => ?_|refine zzi fun _ _ => ?_|refine zu1 ?_|refine zu2 ?_|refine zu3 ?_|refine zu4 fun _ => ?_|refine zv1 ?_|refine zv2 ?_|refine zzj (fun _ => ?_) fun _ => ?_)); (repeat' (refine CW_seq ?_; (repeat' (first|refine zza ?_|refine zc9 ?_|refine zzb fun w hw => ?_|refine zzh fun _ => ?_|refine zzi fun _ _ => ?_|refine zu1 ?_|refine zu2 ?_|refine zu3 ?_|refine zu4 fun _ => ?_|refine zv1 ?_|refine zv2 ?_|refine zzj (fun _ => ?_) fun _ => ?_)))))
                exact EX_loop' (k + 1) ⟨Cov.cons rfl rfl (Cov.cons rfl rfl (Cov.cons (by show _ = some (Value.bool (inW a.shape.xs (jW fr.xs T) (k + 1))); rw [e1]; rfl) rfl zcov)), zent, by omega, by omega⟩
            · rw [decide_eq_false c1, Bool.true_and, Bool.false_and] at e1
              ((repeat' (first|refine zza ?_|refine zc9 ?_|refine zzb fun w hw => ?_|refine zzh fun _ => ?_|refine zzi fun _ _ => ?_|refine zu1 ?_|refine zu2 ?_|refine zu3 ?_|refine zu4 fun _ => ?_|refine zv1 ?_|refine zv2 ?_|refine zzj (fun _ => ?_) fun _ => ?_)); (repeat' (refine CW_seq ?_; (repeat' (first|refine zza ?_|refine zc9 ?_|refine zzb fun w hw => ?_|refine zzh fun _ => ?_|refine zzi fun _ _ => ?_|refine zu1 ?_|refine zu2 ?_|refine zu3 ?_|refine zu4 fun _ => ?_|refine zv1 ?_|refine zv2 ?_|refine zzj (fun _ => ?_) fun _ => ?_)))))
              refine WL_op rfl rfl (y_mul_w rfl rfl) ?_
              ((repeat' (first|refine zza ?_|refine zc9 ?_|refine zzb fun w hw => ?_|refine zzh fun _ => ?_|refine zzi fun _ _ => ?_|refine zu1 ?_|refine zu2 ?_|refine zu3 ?_|refine zu4 fun _ => ?_|refine zv1 ?_|refine zv2 ?_|refine zzj (fun _ => ?_) fun _ => ?_)); (repeat' (refine CW_seq ?_; (repeat' (first|refine zza ?_|refine zc9 ?_|refine zzb fun w hw => ?_|refine zzh fun _ => ?_|refine zzi fun _ _ => ?_|refine zu1 ?_|refine zu2 ?_|refine zu3 ?_|refine zu4 fun _ => ?_|refine zv1 ?_|refine zv2 ?_|refine zzj (fun _ => ?_) fun _ => ?_)))))
              refine WL_op rfl rfl (y_add_w rfl rfl) ?_
              ((repeat' (first|refine zza ?_|refine zc9 ?_|refine zzb fun w hw => ?_|refine zzh fun _ => ?_|refine zzi fun _ _ => ?_|refine zu1 ?_|refine zu2 ?_|refine zu3 ?_|refine zu4 fun _ => ?_|refine zv1 ?_|refine zv2 ?_|refine zzj (fun _ => ?_) fun _ => ?_)); (repeat' (refine CW_seq ?_; (repeat' (first|refine zza ?_|refine zc9 ?_|refine zzb fun w hw => ?_|refine zzh fun _ => ?_|refine zzi fun _ _ => ?_|refine zu1 ?_|refine zu2 ?_|refine zu3 ?_|refine zu4 fun _ => ?_|refine zv1 ?_|refine zv2 ?_|refine zzj (fun _ => ?_) fun _ => ?_)))))
              exact EX_loop' (k + 1) ⟨Cov.cons rfl rfl (Cov.cons rfl rfl (Cov.cons (by show _ = some (Value.bool (inW a.shape.xs (jW fr.xs T) (k + 1))); rw [e1]; rfl) rfl zcov)), zent, by omega, by omega⟩
        · obtain rfl : k = a.shape.xs.length := by omega
          clear hlk hk hjI
          have hmv : a.shape.xs.length = s.xs.length := by omega
          ((repeat' (first|refine zza ?_|refine zc9 ?_|refine zzb fun w hw => ?_|refine zzh fun _ => ?_|refine zzi fun _ _ => ?_|refine zu1 ?_|refine zu2 ?_|refine zu3 ?_|refine zu4 fun _ => ?_|refine zv1 ?_|refine zv2 ?_|refine zzj (fun _ => ?_) fun _ => ?_)); (repeat' (refine CW_seq ?_; (repeat' (first|refine zza ?_|refine zc9 ?_|refine zzb fun w hw => ?_|refine zzh fun _ => ?_|refine zzi fun _ _ => ?_|refine zu1 ?_|refine zu2 ?_|refine zu3 ?_|refine zu4 fun _ => ?_|refine zv1 ?_|refine zv2 ?_|refine zzj (fun _ => ?_) fun _ => ?_)))))
          refine WL_callV rfl rfl rfl (fun W _ => cut_fill a.char a W rfl) ?_
          rw [show (if a.char = true then (32 : Int) else 0) = fillA a.char from rfl]
          (repeat' (first|refine zza ?_|refine zc9 ?_|refine zzb fun w hw => ?_|refine zzh fun _ => ?_|refine zzi fun _ _ => ?_|refine zzj (fun _ => ?_) fun _ => ?_))
          refine CW_cutK (X := Unit) [(1,_),(2,_),(3,_),(6,_),(9,_),(10,_),(33,_),(34,_)] zcov (fun _ => [(16, .int .i64 (cellW a.arr fr.xs T))]) (fun _ => [arB' b9 a.char x1 s.xs (q, c) i, own1 x1 s.xs, sl 3 1 q i c ((winL a.arr fr.xs s.xs i).map (Value.int .i64)), atB bt s.xs.length T, zB b6, boxB b3 a, ro w [] G]) (fun _ => True) (fun _ => ?_) ?_
          · cases hin : inW a.shape.xs (jW fr.xs T) a.shape.xs.length with
            | true =>
              rw [if_pos hin] at hcw
              obtain ⟨q1, q2⟩ : 0 ≤ plW a.shape.xs (jW fr.xs T) a.shape.xs.length ∧ plW a.shape.xs (jW fr.xs T) a.shape.xs.length < (a.data.xs.length : Int) := hpl hin
              clear hpl
              rw [hcw]
              clear hcw
              generalize plW a.shape.xs (jW fr.xs T) a.shape.xs.length = pl at *
              obtain ⟨P, rfl⟩ := Int.eq_ofNat_of_zero_le q1
              rw [Int.toNat_natCast]
              have q3 : P < a.data.xs.length := by omega
              ((repeat' (first|refine zza ?_|refine zc9 ?_|refine zzb fun w hw => ?_|refine zzh fun _ => ?_|refine zzi fun _ _ => ?_|refine zu1 ?_|refine zu2 ?_|refine zu3 ?_|refine zu4 fun _ => ?_|refine zv1 ?_|refine zv2 ?_|refine zzj (fun _ => ?_) fun _ => ?_)); (repeat' (refine CW_seq ?_; (repeat' (first|refine zza ?_|refine zc9 ?_|refine zzb fun w hw => ?_|refine zzh fun _ => ?_|refine zzi fun _ _ => ?_|refine zu1 ?_|refine zu2 ?_|refine zu3 ?_|refine zu4 fun _ => ?_|refine zv1 ?_|refine zv2 ?_|refine zzj (fun _ => ?_) fun _ => ?_)))))
              exact EX_mid' () ⟨zcov, zent, trivial⟩
            | false =>
              rw [if_neg (by rw [hin]; simp)] at hcw
              clear hpl
              rw [hcw]
              clear hcw
              ((repeat' (first|refine zza ?_|refine zc9 ?_|refine zzb fun w hw => ?_|refine zzh fun _ => ?_|refine zzi fun _ _ => ?_|refine zu1 ?_|refine zu2 ?_|refine zu3 ?_|refine zu4 fun _ => ?_|refine zv1 ?_|refine zv2 ?_|refine zzj (fun _ => ?_) fun _ => ?_)); (repeat' (refine CW_seq ?_; (repeat' (first|refine zza ?_|refine zc9 ?_|refine zzb fun w hw => ?_|refine zzh fun _ => ?_|refine zzi fun _ _ => ?_|refine zu1 ?_|refine zu2 ?_|refine zu3 ?_|refine zu4 fun _ => ?_|refine zv1 ?_|refine zv2 ?_|refine zzj (fun _ => ?_) fun _ => ?_)))))
              exact EX_mid' () ⟨zcov, zent, trivial⟩
          · rintro ⟨⟩ _
            clear hpl hcw
            generalize cellW a.arr fr.xs T = C at *
            ((repeat' (first|refine zza ?_|refine zc9 ?_|refine zzb fun w hw => ?_|refine zzh fun _ => ?_|refine zzi fun _ _ => ?_|refine zu1 ?_|refine zu2 ?_|refine zu3 ?_|refine zu4 fun _ => ?_|refine zv1 ?_|refine zv2 ?_|refine zzj (fun _ => ?_) fun _ => ?_)); (repeat' (refine CW_seq ?_; (repeat' (first|refine zza ?_|refine zc9 ?_|refine zzb fun w hw => ?_|refine zzh fun _ => ?_|refine zzi fun _ _ => ?_|refine zu1 ?_|refine zu2 ?_|refine zu3 ?_|refine zu4 fun _ => ?_|refine zv1 ?_|refine zv2 ?_|refine zzj (fun _ => ?_) fun _ => ?_)))))
            rename_i q3 k3
            refine CW_ent (m' := [arB' b9 a.char x1 s.xs (q3, k3) (i + 1), own1 x1 s.xs, sl 3 1 q3 (i + 1) k3 ((winL a.arr fr.xs s.xs (i + 1)).map (Value.int .i64)), atB bt s.xs.length T, zB b6, boxB b3 a, ro w [] G]) (Ent.consK (k := Ent.cons zpk (Ent.cons (by rw [hW2, List.map_append]; exact zpk) (Ent.cons zpk (Ent.cons zpk (Ent.cons zpk (Ent.cons zpk Ent.nil)))))) zpk) ?_
            refine CW_loopK [(1,_),(2,_),(3,_),(6,_),(9,_),(10,_),(33,_),(34,_)] zcov (fun z : Nat × List Int => [(17, .int .i64 ((z.1 : Int) - 1))]) (fun z => [arB' b9 a.char x1 s.xs (q3, k3) (i + 1), own1 x1 s.xs, sl 3 1 q3 (i + 1) k3 ((winL a.arr fr.xs s.xs (i + 1)).map (Value.int .i64)), atB bt s.xs.length z.2, zB b6, boxB b3 a, ro w [] G]) (fun z => z.1 ≤ s.xs.length ∧ z.2.length = s.xs.length ∧ (∀ x ∈ z.2, 0 ≤ x ∧ x ≤ 4096) ∧ tick s.xs z.2 z.1 = ticks s.xs (i + 1)) (fun z => z.1) (s.xs.length, T) ⟨Nat.le_refl _, hTl, hTI, hT2.symm⟩ zcov zent ?_
            clear hW2 hT2 hTI hTl hn
            rintro ⟨j, T'⟩ ⟨hj, hl', hI', ht⟩
            dsimp only at hj hl' hI' ht ⊢
            cases j with
            | zero =>
              clear hsI hfI hI'
              ((repeat' (first|refine zza ?_|refine zc9 ?_|refine zzb fun w hw => ?_|refine zzh fun _ => ?_|refine zzi fun _ _ => ?_|refine zu1 ?_|refine zu2 ?_|refine zu3 ?_|refine zu4 fun _ => ?_|refine zv1 ?_|refine zv2 ?_|refine zzj (fun _ => ?_) fun _ => ?_)); (repeat' (refine CW_seq ?_; (repeat' (first|refine zza ?_|refine zc9 ?_|refine zzb fun w hw => ?_|refine zzh fun _ => ?_|refine zzi fun _ _ => ?_|refine zu1 ?_|refine zu2 ?_|refine zu3 ?_|refine zu4 fun _ => ?_|refine zv1 ?_|refine zv2 ?_|refine zzj (fun _ => ?_) fun _ => ?_)))))
              refine EX_loop' (i + 1, q3, k3) ⟨zcov, ?_, by show n - (i + 1) < n - i; omega, hlt⟩
              show Ent _ [arB' b9 a.char x1 s.xs (q3, k3) (i + 1), own1 x1 s.xs, sl 3 1 q3 (i + 1) k3 ((winL a.arr fr.xs s.xs (i + 1)).map (Value.int .i64)), atB bt s.xs.length (ticks s.xs (i + 1)), zB b6, boxB b3 a, ro w [] G]
              rw [← ht]
              exact zent
            | succ j =>
              have e : ((j + 1 : Nat) : Int) - 1 = (j : Int) := by omega
              have p1 : j < s.xs.length := by omega
              have p2 : j < T'.length := by omega
              obtain ⟨b1, b2⟩ := hI' _ (getD_mem p2)
              obtain ⟨b3, b4⟩ := hsI _ (getD_mem p1)
              have ht1 : tick s.xs T' (j + 1) = if T'.getD j 0 + 1 < s.xs.getD j 0 then T'.set j (T'.getD j 0 + 1) else tick s.xs (T'.set j 0) j := rfl
              rw [e]
              clear hsI hfI
              have p3 : j < (T'.set j (T'.getD j 0 + 1)).length := by rw [List.length_set]; omega
              have g3 := getD_set_same (v := T'.getD j 0 + 1) p2
              have g4 : (T'.set j (T'.getD j 0 + 1)).set j 0 = T'.set j 0 := List.set_set ..
              by_cases hc : T'.getD j 0 + 1 < s.xs.getD j 0
              · rw [if_pos hc, ht] at ht1
                clear hI'
                ((repeat' (first|refine zza ?_|refine zc9 ?_|refine zzb fun w hw => ?_|refine zzh fun _ => ?_|refine zzi fun _ _ => ?_|refine zu1 ?_|refine zu2 ?_|refine zu3 ?_|refine zu4 fun _ => ?_|refine zv1 ?_|refine zv2 ?_|refine zzj (fun _ => ?_) fun _ => ?_)); (repeat' (refine CW_seq ?_; (repeat' (first|refine zza ?_|refine zc9 ?_|refine zzb fun w hw => ?_|refine zzh fun _ => ?_|refine zzi fun _ _ => ?_|refine zu1 ?_|refine zu2 ?_|refine zu3 ?_|refine zu4 fun _ => ?_|refine zv1 ?_|refine zv2 ?_|refine zzj (fun _ => ?_) fun _ => ?_)))))
                rw [map_set]
                generalize T'.set j (T'.getD j 0 + 1) = T2 at *
                ((repeat' (first|refine zza ?_|refine zc9 ?_|refine zzb fun w hw => ?_|refine zzh fun _ => ?_|refine zzi fun _ _ => ?_|refine zu1 ?_|refine zu2 ?_|refine zu3 ?_|refine zu4 fun _ => ?_|refine zv1 ?_|refine zv2 ?_|refine zzj (fun _ => ?_) fun _ => ?_)); (repeat' (refine CW_seq ?_; (repeat' (first|refine zza ?_|refine zc9 ?_|refine zzb fun w hw => ?_|refine zzh fun _ => ?_|refine zzi fun _ _ => ?_|refine zu1 ?_|refine zu2 ?_|refine zu3 ?_|refine zu4 fun _ => ?_|refine zv1 ?_|refine zv2 ?_|refine zzj (fun _ => ?_) fun _ => ?_)))))
                refine EX_loop' (i + 1, q3, k3) ⟨zcov, ?_, by show n - (i + 1) < n - i; omega, hlt⟩
                show Ent _ [arB' b9 a.char x1 s.xs (q3, k3) (i + 1), own1 x1 s.xs, sl 3 1 q3 (i + 1) k3 ((winL a.arr fr.xs s.xs (i + 1)).map (Value.int .i64)), atB bt s.xs.length (ticks s.xs (i + 1)), zB b6, boxB _ a, ro w [] G]
                rw [ht1]
                exact zent
              · rw [if_neg hc, ht] at ht1
                have hI2 : ∀ x ∈ T'.set j 0, 0 ≤ x ∧ x ≤ 4096 := fun x hx => by
                  rcases set_mem hx with hx | rfl
                  · exact hI' x hx
                  · decide
                clear hI'
                have hl2 : (T'.set j 0).length = s.xs.length := by rw [List.length_set]; omega
                have hI2' : Hid (∀ x ∈ T'.set j 0, 0 ≤ x ∧ x ≤ 4096) := hI2
                clear hI2
                ((repeat' (first|refine zza ?_|refine zc9 ?_|refine zzb fun w hw => ?_|refine zzh fun _ => ?_|refine zzi fun _ _ => ?_|refine zu1 ?_|refine zu2 ?_|refine zu3 ?_|refine zu4 fun _ => ?_|refine zv1 ?_|refine zv2 ?_|refine zzj (fun _ => ?_) fun _ => ?_)); (repeat' (refine CW_seq ?_; (repeat' (first|refine zza ?_|refine zc9 ?_|refine zzb fun w hw => ?_|refine zzh fun _ => ?_|refine zzi fun _ _ => ?_|refine zu1 ?_|refine zu2 ?_|refine zu3 ?_|refine zu4 fun _ => ?_|refine zv1 ?_|refine zv2 ?_|refine zzj (fun _ => ?_) fun _ => ?_)))))
                rw [map_set]
                generalize T'.set j (T'.getD j 0 + 1) = T2 at *
                ((repeat' (first|refine zza ?_|refine zc9 ?_|refine zzb fun w hw => ?_|refine zzh fun _ => ?_|refine zzi fun _ _ => ?_|refine zu1 ?_|refine zu2 ?_|refine zu3 ?_|refine zu4 fun _ => ?_|refine zv1 ?_|refine zv2 ?_|refine zzj (fun _ => ?_) fun _ => ?_)); (repeat' (refine CW_seq ?_; (repeat' (first|refine zza ?_|refine zc9 ?_|refine zzb fun w hw => ?_|refine zzh fun _ => ?_|refine zzi fun _ _ => ?_|refine zu1 ?_|refine zu2 ?_|refine zu3 ?_|refine zu4 fun _ => ?_|refine zv1 ?_|refine zv2 ?_|refine zzj (fun _ => ?_) fun _ => ?_)))))
                rw [map_set, g4]
                ((repeat' (first|refine zza ?_|refine zc9 ?_|refine zzb fun w hw => ?_|refine zzh fun _ => ?_|refine zzi fun _ _ => ?_|refine zu1 ?_|refine zu2 ?_|refine zu3 ?_|refine zu4 fun _ => ?_|refine zv1 ?_|refine zv2 ?_|refine zzj (fun _ => ?_) fun _ => ?_)); (repeat' (refine CW_seq ?_; (repeat' (first|refine zza ?_|refine zc9 ?_|refine zzb fun w hw => ?_|refine zzh fun _ => ?_|refine zzi fun _ _ => ?_|refine zu1 ?_|refine zu2 ?_|refine zu3 ?_|refine zu4 fun _ => ?_|refine zv1 ?_|refine zv2 ?_|refine zzj (fun _ => ?_) fun _ => ?_)))))
                exact EX_loop' (j, T'.set j 0) ⟨zcov, zent, Nat.lt_succ_self j, by show j ≤ s.xs.length; omega, hl2, hI2', ht1.symm⟩
    · obtain rfl : i = n := by omega
      have hw : winF a.arr fr.xs s.xs = ⟨a.char, s.xs, winL a.arr fr.xs s.xs i⟩ := by
        unfold winF
        rw [hn, Int.toNat_natCast]
        rfl
      rw [hw]
      clear hw
      ((repeat' (first|refine zza ?_|refine zc9 ?_|refine zzb fun w hw => ?_|refine zzh fun _ => ?_|refine zzi fun _ _ => ?_|refine zu1 ?_|refine zu2 ?_|refine zu3 ?_|refine zu4 fun _ => ?_|refine zv1 ?_|refine zv2 ?_|refine zzj (fun _ => ?_) fun _ => ?_)); (repeat' (refine CW_seq ?_; (repeat' (first|refine zza ?_|refine zc9 ?_|refine zzb fun w hw => ?_|refine zzh fun _ => ?_|refine zzi fun _ _ => ?_|refine zu1 ?_|refine zu2 ?_|refine zu3 ?_|refine zu4 fun _ => ?_|refine zv1 ?_|refine zv2 ?_|refine zzj (fun _ => ?_) fun _ => ?_)))))
      exact ⟨(x1, q, c), trivial, (show _ = Ending.returned (.agg #[.bool a.char, .slice x1.1 s.xs.length x1.2, .slice q i c]) from by kernel_rfl).trans (by dsimp only [ownV]; rw [winL_len]), by rw [show ownM ⟨a.char, s.xs, winL a.arr fr.xs s.xs i⟩ (x1, q, c) = [own1 x1 s.xs, sl 3 1 q i c ((winL a.arr fr.xs s.xs i).map (Value.int .i64))] by dsimp only [ownM, own1]; rw [winL_len]]; exact hw.ent (Ent.cons zpk (Ent.cons zpk Ent.nil))⟩
  · refine Pr_three 3 5 7 (by decide +kernel) ?_ ?_ ?_
    · refine Stp_callX zpk rfl rfl rfl (fun W hl => ints_Clone s.p s.c s.xs G W hs (by omega) hl) ?_
      rintro x1 _
      refine Pr_two 5 7 (by decide +kernel) ?_ ?_
      · refine Stp_make0 n rfl rfl rfl rfl (by omega) (by omega) rfl fun b2 => ?_
        refine Pr_two 6 7 (by decide +kernel) ?_ ?_
        · refine Stp_op rfl rfl (y_build rfl rfl) ?_
          refine Pr_one 7 (by decide +kernel) ?_
          refine Stp_alloc rfl rfl fun b9 => ?_
          exact Pr_end (by decide +kernel) ⟨(x1, b2, b9), ⟨rfl, rfl, rfl, rfl, rfl, rfl, rfl⟩, zent⟩
        · refine Stp_alloc rfl rfl fun b9 => ?_
          refine Pr_one 6 (by decide +kernel) ?_
          refine Stp_op rfl rfl (y_build rfl rfl) ?_
          exact Pr_end (by decide +kernel) ⟨(x1, b2, b9), ⟨rfl, rfl, rfl, rfl, rfl, rfl, rfl⟩, zent⟩
      · refine Stp_alloc rfl rfl fun b9 => ?_
        refine Pr_one 5 (by decide +kernel) ?_
        refine Stp_make0 n rfl rfl rfl rfl (by omega) (by omega) rfl fun b2 => ?_
        refine Pr_one 6 (by decide +kernel) ?_
        refine Stp_op rfl rfl (y_build rfl rfl) ?_
        exact Pr_end (by decide +kernel) ⟨(x1, b2, b9), ⟨rfl, rfl, rfl, rfl, rfl, rfl, rfl⟩, zent⟩
    · refine Stp_make0 n rfl rfl rfl rfl (by omega) (by omega) rfl fun b2 => ?_
      refine Pr_two 3 7 (by decide +kernel) ?_ ?_
      · refine Stp_callX zpk rfl rfl rfl (fun W hl => ints_Clone s.p s.c s.xs G W hs (by omega) hl) ?_
        rintro x1 _
        refine Pr_two 6 7 (by decide +kernel) ?_ ?_
        · refine Stp_op rfl rfl (y_build rfl rfl) ?_
          refine Pr_one 7 (by decide +kernel) ?_
          refine Stp_alloc rfl rfl fun b9 => ?_
          exact Pr_end (by decide +kernel) ⟨(x1, b2, b9), ⟨rfl, rfl, rfl, rfl, rfl, rfl, rfl⟩, zent⟩
        · refine Stp_alloc rfl rfl fun b9 => ?_
          refine Pr_one 6 (by decide +kernel) ?_
          refine Stp_op rfl rfl (y_build rfl rfl) ?_
          exact Pr_end (by decide +kernel) ⟨(x1, b2, b9), ⟨rfl, rfl, rfl, rfl, rfl, rfl, rfl⟩, zent⟩
      · refine Stp_alloc rfl rfl fun b9 => ?_
        refine Pr_one 3 (by decide +kernel) ?_
        refine Stp_callX zpk rfl rfl rfl (fun W hl => ints_Clone s.p s.c s.xs G W hs (by omega) hl) ?_
        rintro x1 _
        refine Pr_one 6 (by decide +kernel) ?_
        refine Stp_op rfl rfl (y_build rfl rfl) ?_
        exact Pr_end (by decide +kernel) ⟨(x1, b2, b9), ⟨rfl, rfl, rfl, rfl, rfl, rfl, rfl⟩, zent⟩
    · refine Stp_alloc rfl rfl fun b9 => ?_
      refine Pr_two 3 5 (by decide +kernel) ?_ ?_
      · refine Stp_callX zpk rfl rfl rfl (fun W hl => ints_Clone s.p s.c s.xs G W hs (by omega) hl) ?_
        rintro x1 _
        refine Pr_one 5 (by decide +kernel) ?_
        refine Stp_make0 n rfl rfl rfl rfl (by omega) (by omega) rfl fun b2 => ?_
        refine Pr_one 6 (by decide +kernel) ?_
        refine Stp_op rfl rfl (y_build rfl rfl) ?_
        exact Pr_end (by decide +kernel) ⟨(x1, b2, b9), ⟨rfl, rfl, rfl, rfl, rfl, rfl, rfl⟩, zent⟩
      · refine Stp_make0 n rfl rfl rfl rfl (by omega) (by omega) rfl fun b2 => ?_
        refine Pr_one 3 (by decide +kernel) ?_
        refine Stp_callX zpk rfl rfl rfl (fun W hl => ints_Clone s.p s.c s.xs G W hs (by omega) hl) ?_
        rintro x1 _
        refine Pr_one 6 (by decide +kernel) ?_
        refine Stp_op rfl rfl (y_build rfl rfl) ?_
        exact Pr_end (by decide +kernel) ⟨(x1, b2, b9), ⟨rfl, rfl, rfl, rfl, rfl, rfl, rfl⟩, zent⟩
end Go.Proofs.YtadlpfbjnpbnoaaGreatDoor
