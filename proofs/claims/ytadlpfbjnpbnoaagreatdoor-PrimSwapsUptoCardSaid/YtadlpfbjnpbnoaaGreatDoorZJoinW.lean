/-
  The package cut: cut.Join, whole.
-/
import Derived.Test.YtadlpfbjnpbnoaaGreatDoorZGo
import Derived.Test.YtadlpfbjnpbnoaaGreatDoorZJoinT
namespace Go.Proofs.YtadlpfbjnpbnoaaGreatDoor
open Go.RowKit
set_option maxHeartbeats 16000000 in
set_option maxRecDepth 100000 in
theorem cut_Join (k : Nat) (a b : ArrM) (G : Rd) (w : World) (hS : Rd.le G w.cell?) (ha : ArrG G a) (hb : ArrG G b) (h1 : a.arr.bad = 0) (h2 : b.arr.bad = 0) (hk : k < a.shape.xs.length) :
    Calls Tryz.prog 110 #[.int .i64 (k : Int), arrV a, arrV b] w (ResT (joinF k a.arr b.arr) G w) := by
  refine enterR (args := [_, _, _]) (m := []) (F := []) hS.sub rfl Tryz.func110 rfl Tryz.ntmps110 (by simp) ?_
  clear hS
  have ga := Arr.good h1
  have gb := Arr.good h2
  have hA := fun W (h : Rd.le G W.cell?) => chk a G W ha h
  have hB := fun W (h : Rd.le G W.cell?) => chk b G W hb h
  rw [h1, errV_zero] at hA
  rw [h2, errV_zero] at hB
  clear h1 h2
  have h6 : a.shape.xs.length ≤ 6 := ga.rank
  have h6b : b.shape.xs.length ≤ 6 := gb.rank
  have hsh := ha.shape
  have hshb := hb.shape
  ((repeat' (first|refine zza ?_|refine zc9 ?_|refine zzb fun w hw => ?_|refine zzh fun _ => ?_|refine zzi fun _ _ => ?_|refine zu1 ?_|refine zu2 ?_|refine zu3 ?_|refine zu4 fun _ => ?_|refine zzj (fun _ => ?_) fun _ => ?_)); (repeat' (refine CW_seq ?_; (repeat' (first|refine zza ?_|refine zc9 ?_|refine zzb fun w hw => ?_|refine zzh fun _ => ?_|refine zzi fun _ _ => ?_|refine zu1 ?_|refine zu2 ?_|refine zu3 ?_|refine zu4 fun _ => ?_|refine zzj (fun _ => ?_) fun _ => ?_)))))
  rename_i b4 b5 b6
  refine WL_op rfl rfl (y_buildA rfl (fun W => arr2_build a b W)) ?_
  ((repeat' (first|refine zza ?_|refine zc9 ?_|refine zzb fun w hw => ?_|refine zzh fun _ => ?_|refine zzi fun _ _ => ?_|refine zu1 ?_|refine zu2 ?_|refine zu3 ?_|refine zu4 fun _ => ?_|refine zzj (fun _ => ?_) fun _ => ?_)); (repeat' (refine CW_seq ?_; (repeat' (first|refine zza ?_|refine zc9 ?_|refine zzb fun w hw => ?_|refine zzh fun _ => ?_|refine zzi fun _ _ => ?_|refine zu1 ?_|refine zu2 ?_|refine zu3 ?_|refine zu4 fun _ => ?_|refine zzj (fun _ => ?_) fun _ => ?_)))))
  refine CW_loopK [(0,_),(4,_),(5,_),(6,_),(7,_),(23,_)] zcov (fun i : Nat => [(24, .int .i64 (i : Int))]) (fun _ => [zB b6, boxB b5 b, boxB b4 a, ro w [] G]) (fun i => i ≤ 2) (fun i => 2 - i) 0 (by omega) zcov zent ?_
  intro i hi
  by_cases i0 : i = 0
  · subst i0
    clear hB
    ((repeat' (first|refine zza ?_|refine zc9 ?_|refine zzb fun w hw => ?_|refine zzh fun _ => ?_|refine zzi fun _ _ => ?_|refine zu1 ?_|refine zu2 ?_|refine zu3 ?_|refine zu4 fun _ => ?_|refine zzj (fun _ => ?_) fun _ => ?_)); (repeat' (refine CW_seq ?_; (repeat' (first|refine zza ?_|refine zc9 ?_|refine zzb fun w hw => ?_|refine zzh fun _ => ?_|refine zzi fun _ _ => ?_|refine zu1 ?_|refine zu2 ?_|refine zu3 ?_|refine zu4 fun _ => ?_|refine zzj (fun _ => ?_) fun _ => ?_)))))
    refine WL_op rfl rfl (y_indexA rfl rfl (fun W => arr2_index0 _ _ _ _ _ _ W)) ?_
    ((repeat' (first|refine zza ?_|refine zc9 ?_|refine zzb fun w hw => ?_|refine zzh fun _ => ?_|refine zzi fun _ _ => ?_|refine zu1 ?_|refine zu2 ?_|refine zu3 ?_|refine zu4 fun _ => ?_|refine zzj (fun _ => ?_) fun _ => ?_)); (repeat' (refine CW_seq ?_; (repeat' (first|refine zza ?_|refine zc9 ?_|refine zzb fun w hw => ?_|refine zzh fun _ => ?_|refine zzi fun _ _ => ?_|refine zu1 ?_|refine zu2 ?_|refine zu3 ?_|refine zu4 fun _ => ?_|refine zzj (fun _ => ?_) fun _ => ?_)))))
    refine WL_callV rfl rfl rfl (fun W hW => hA W (hW.le zpk)) ?_
    ((repeat' (first|refine zza ?_|refine zc9 ?_|refine zzb fun w hw => ?_|refine zzh fun _ => ?_|refine zzi fun _ _ => ?_|refine zu1 ?_|refine zu2 ?_|refine zu3 ?_|refine zu4 fun _ => ?_|refine zzj (fun _ => ?_) fun _ => ?_)); (repeat' (refine CW_seq ?_; (repeat' (first|refine zza ?_|refine zc9 ?_|refine zzb fun w hw => ?_|refine zzh fun _ => ?_|refine zzi fun _ _ => ?_|refine zu1 ?_|refine zu2 ?_|refine zu3 ?_|refine zu4 fun _ => ?_|refine zzj (fun _ => ?_) fun _ => ?_)))))
    exact EX_loop' 1 ⟨zcov, zent, by omega, by omega⟩
  by_cases i1 : i = 1
  · subst i1
    clear hA
    ((repeat' (first|refine zza ?_|refine zc9 ?_|refine zzb fun w hw => ?_|refine zzh fun _ => ?_|refine zzi fun _ _ => ?_|refine zu1 ?_|refine zu2 ?_|refine zu3 ?_|refine zu4 fun _ => ?_|refine zzj (fun _ => ?_) fun _ => ?_)); (repeat' (refine CW_seq ?_; (repeat' (first|refine zza ?_|refine zc9 ?_|refine zzb fun w hw => ?_|refine zzh fun _ => ?_|refine zzi fun _ _ => ?_|refine zu1 ?_|refine zu2 ?_|refine zu3 ?_|refine zu4 fun _ => ?_|refine zzj (fun _ => ?_) fun _ => ?_)))))
    refine WL_op rfl rfl (y_indexA rfl rfl (fun W => arr2_index1 _ _ _ _ _ _ W)) ?_
    ((repeat' (first|refine zza ?_|refine zc9 ?_|refine zzb fun w hw => ?_|refine zzh fun _ => ?_|refine zzi fun _ _ => ?_|refine zu1 ?_|refine zu2 ?_|refine zu3 ?_|refine zu4 fun _ => ?_|refine zzj (fun _ => ?_) fun _ => ?_)); (repeat' (refine CW_seq ?_; (repeat' (first|refine zza ?_|refine zc9 ?_|refine zzb fun w hw => ?_|refine zzh fun _ => ?_|refine zzi fun _ _ => ?_|refine zu1 ?_|refine zu2 ?_|refine zu3 ?_|refine zu4 fun _ => ?_|refine zzj (fun _ => ?_) fun _ => ?_)))))
    refine WL_callV rfl rfl rfl (fun W hW => hB W (hW.le zpk)) ?_
    ((repeat' (first|refine zza ?_|refine zc9 ?_|refine zzb fun w hw => ?_|refine zzh fun _ => ?_|refine zzi fun _ _ => ?_|refine zu1 ?_|refine zu2 ?_|refine zu3 ?_|refine zu4 fun _ => ?_|refine zzj (fun _ => ?_) fun _ => ?_)); (repeat' (refine CW_seq ?_; (repeat' (first|refine zza ?_|refine zc9 ?_|refine zzb fun w hw => ?_|refine zzh fun _ => ?_|refine zzi fun _ _ => ?_|refine zu1 ?_|refine zu2 ?_|refine zu3 ?_|refine zu4 fun _ => ?_|refine zzj (fun _ => ?_) fun _ => ?_)))))
    exact EX_loop' 2 ⟨zcov, zent, by omega, by omega⟩
  obtain rfl : i = 2 := by omega
  clear i0 i1 hi hA hB
  by_cases hl : a.shape.xs.length = b.shape.xs.length
  · have hF : joinF k a.arr b.arr = if joinX k a.arr b.arr a.shape.xs.length = true then (4, zeroA)
        else if a.char ≠ b.char then (6, zeroA)
        else if (countF (joinS k a.arr b.arr)).2 ≠ 0 then ((countF (joinS k a.arr b.arr)).2, zeroA)
        else (0, ⟨a.char, joinS k a.arr b.arr, joinD a.data.xs b.data.xs (mulL (a.shape.xs.drop k)).toNat (mulL (b.shape.xs.drop k)).toNat (if (countF (joinS k a.arr b.arr)).1 = 0 then 0 else (mulL (a.shape.xs.take k)).toNat)⟩) := if_neg (fun h => h hl)
    rw [hF]
    clear hF
    have hxs := joinX_succ k a.arr b.arr
    have hx0 : joinX k a.arr b.arr 0 = false := rfl
    have hxt := @joinX_true k a.arr b.arr a.shape.xs.length
    have hxf := @join_nums a b ga gb k
    have eSk : ∀ j, a.arr.shape.getD j 0 = a.shape.xs.getD j 0 := fun _ => rfl
    have eSb : ∀ j, b.arr.shape.getD j 0 = b.shape.xs.getD j 0 := fun _ => rfl
    simp only [eSk, eSb] at hxs hxt
    have key := fun (A : Nat) S hS hSI hA hA4 hX G1 g1 x1p x1c r1 b2 b4 b5 b6 b15 => join_tail w G G1 g1 a b (ha.mono g1.1) (hb.mono g1.1) ga gb k A hk hl hX S hS hSI hA hA4 x1p x1c r1 b2 b4 b5 b6 b15
    clear hxf eSk eSb
    obtain ⟨X, hX⟩ : ∃ X : Nat → Bool, ∀ j, X j = joinX k a.arr b.arr j := ⟨_, fun _ => rfl⟩
    simp only [← hX] at hxs hx0 hxt key ⊢
    clear hX
    ((repeat' (first|refine zza ?_|refine zc9 ?_|refine zzb fun w hw => ?_|refine zzh fun _ => ?_|refine zzi fun _ _ => ?_|refine zu1 ?_|refine zu2 ?_|refine zu3 ?_|refine zu4 fun _ => ?_|refine zzj (fun _ => ?_) fun _ => ?_)); (repeat' (refine CW_seq ?_; (repeat' (first|refine zza ?_|refine zc9 ?_|refine zzb fun w hw => ?_|refine zzh fun _ => ?_|refine zzi fun _ _ => ?_|refine zu1 ?_|refine zu2 ?_|refine zu3 ?_|refine zu4 fun _ => ?_|refine zzj (fun _ => ?_) fun _ => ?_)))))
    refine WL_callX rfl rfl rfl (fun W hW => ints_Clone a.shape.p a.shape.c a.shape.xs G W ha.shape (by omega) (hW.le zpk)) ?_
    rintro x1 _
    dsimp only [List.cons_append, List.nil_append]
    ((repeat' (first|refine zza ?_|refine zc9 ?_|refine zzb fun w hw => ?_|refine zzh fun _ => ?_|refine zzi fun _ _ => ?_|refine zu1 ?_|refine zu2 ?_|refine zu3 ?_|refine zu4 fun _ => ?_|refine zzj (fun _ => ?_) fun _ => ?_)); (repeat' (refine CW_seq ?_; (repeat' (first|refine zza ?_|refine zc9 ?_|refine zzb fun w hw => ?_|refine zzh fun _ => ?_|refine zzi fun _ _ => ?_|refine zu1 ?_|refine zu2 ?_|refine zu3 ?_|refine zu4 fun _ => ?_|refine zzj (fun _ => ?_) fun _ => ?_)))))
    refine CW_ent (m' := [ro w [] G, sl 3 1 x1.1 a.shape.xs.length x1.2 (a.shape.xs.map (Value.int .i64)), zB b6, boxB b4 a, boxB b5 b]) zent ?_
    refine CW_loopK [(0,_),(4,_),(5,_),(6,_),(7,_),(11,_),(58,_)] zcov (fun j : Nat => [(59, .int .i64 (j : Int))]) (fun _ => [ro w [] G, sl 3 1 x1.1 a.shape.xs.length x1.2 (a.shape.xs.map (Value.int .i64)), zB b6, boxB b4 a, boxB b5 b]) (fun j => j ≤ a.shape.xs.length ∧ X j = false) (fun j => a.shape.xs.length - j) 0 ⟨Nat.zero_le _, hx0⟩ zcov zent ?_
    rintro j ⟨hj, hxj⟩
    by_cases hlt : j < a.shape.xs.length
    · have hltb : j < b.shape.xs.length := by omega
      clear key
      by_cases hjk : j = k
      · have hxn : X (j + 1) = false := by rw [hxs, hxj, Bool.false_or]; exact decide_eq_false (fun h => h.1 hjk)
        clear hxs hxt
        ((repeat' (first|refine zza ?_|refine zc9 ?_|refine zzb fun w hw => ?_|refine zzh fun _ => ?_|refine zzi fun _ _ => ?_|refine zu1 ?_|refine zu2 ?_|refine zu3 ?_|refine zu4 fun _ => ?_|refine zzj (fun _ => ?_) fun _ => ?_)); (repeat' (refine CW_seq ?_; (repeat' (first|refine zza ?_|refine zc9 ?_|refine zzb fun w hw => ?_|refine zzh fun _ => ?_|refine zzi fun _ _ => ?_|refine zu1 ?_|refine zu2 ?_|refine zu3 ?_|refine zu4 fun _ => ?_|refine zzj (fun _ => ?_) fun _ => ?_)))))
        exact EX_loop' (j + 1) ⟨zcov, zent, by omega, by omega, hxn⟩
      · by_cases he : a.shape.xs.getD j 0 = b.shape.xs.getD j 0
        · have hxn : X (j + 1) = false := by rw [hxs, hxj, Bool.false_or]; exact decide_eq_false (fun h => h.2 he)
          clear hxs hxt
          ((repeat' (first|refine zza ?_|refine zc9 ?_|refine zzb fun w hw => ?_|refine zzh fun _ => ?_|refine zzi fun _ _ => ?_|refine zu1 ?_|refine zu2 ?_|refine zu3 ?_|refine zu4 fun _ => ?_|refine zzj (fun _ => ?_) fun _ => ?_)); (repeat' (refine CW_seq ?_; (repeat' (first|refine zza ?_|refine zc9 ?_|refine zzb fun w hw => ?_|refine zzh fun _ => ?_|refine zzi fun _ _ => ?_|refine zu1 ?_|refine zu2 ?_|refine zu3 ?_|refine zu4 fun _ => ?_|refine zzj (fun _ => ?_) fun _ => ?_)))))
          exact EX_loop' (j + 1) ⟨zcov, zent, by omega, by omega, hxn⟩
        · rw [if_pos (hxt hlt hjk he)]
          clear hxs hxt
          ((repeat' (first|refine zza ?_|refine zc9 ?_|refine zzb fun w hw => ?_|refine zzh fun _ => ?_|refine zzi fun _ _ => ?_|refine zu1 ?_|refine zu2 ?_|refine zu3 ?_|refine zu4 fun _ => ?_|refine zzj (fun _ => ?_) fun _ => ?_)); (repeat' (refine CW_seq ?_; (repeat' (first|refine zza ?_|refine zc9 ?_|refine zzb fun w hw => ?_|refine zzh fun _ => ?_|refine zzi fun _ _ => ?_|refine zu1 ?_|refine zu2 ?_|refine zu3 ?_|refine zu4 fun _ => ?_|refine zzj (fun _ => ?_) fun _ => ?_)))))
          refine EX_retK2 (b := b6) rfl rfl rfl rfl zpk rfl fun w' hw => ?_
          exact ResT.err (by decide) (hw.ent (Ent.cons zpk Ent.nil))
    obtain rfl : j = a.shape.xs.length := by omega
    clear hlt hj hxs hx0 hxt
    rw [if_neg (by rw [hxj]; simp)]
    by_cases hc : a.char = b.char
    · rw [if_neg (fun h => h hc)]
      have hSl : (joinS k a.arr b.arr).length = a.shape.xs.length := List.length_set ..
      have hSk : joinS k a.arr b.arr = a.shape.xs.set k (a.shape.xs.getD k 0 + b.shape.xs.getD k 0) := rfl
      have bk : 0 ≤ a.shape.xs.getD k 0 ∧ a.shape.xs.getD k 0 ≤ 4096 := ga.axes _ (getD_mem hk)
      have bk2 : 0 ≤ b.shape.xs.getD k 0 ∧ b.shape.xs.getD k 0 ≤ 4096 := gb.axes _ (getD_mem (hl ▸ hk))
      have hSI : ∀ n ∈ joinS k a.arr b.arr, I64 n := fun n hn => by
        rcases set_mem hn with h | rfl
        · exact ha.shapeI n h
        · exact ⟨by show _ ≤ a.shape.xs.getD k 0 + b.shape.xs.getD k 0; omega, by show a.shape.xs.getD k 0 + b.shape.xs.getD k 0 ≤ _; omega⟩
      have hkb : k < b.shape.xs.length := by omega
      replace key := fun A => key A _ rfl hSI
      generalize joinS k a.arr b.arr = S at *
      clear ga gb
      ((repeat' (first|refine zza ?_|refine zc9 ?_|refine zzb fun w hw => ?_|refine zzh fun _ => ?_|refine zzi fun _ _ => ?_|refine zu1 ?_|refine zu2 ?_|refine zu3 ?_|refine zu4 fun _ => ?_|refine zzj (fun _ => ?_) fun _ => ?_)); (repeat' (refine CW_seq ?_; (repeat' (first|refine zza ?_|refine zc9 ?_|refine zzb fun w hw => ?_|refine zzh fun _ => ?_|refine zzi fun _ _ => ?_|refine zu1 ?_|refine zu2 ?_|refine zu3 ?_|refine zu4 fun _ => ?_|refine zzj (fun _ => ?_) fun _ => ?_)))))
      apply WB_op rfl rfl (y_load rfl (rd_slI zpk hk))
      ((repeat' (first|refine zza ?_|refine zc9 ?_|refine zzb fun w hw => ?_|refine zzh fun _ => ?_|refine zzi fun _ _ => ?_|refine zu1 ?_|refine zu2 ?_|refine zu3 ?_|refine zu4 fun _ => ?_|refine zzj (fun _ => ?_) fun _ => ?_)); (repeat' (refine CW_seq ?_; (repeat' (first|refine zza ?_|refine zc9 ?_|refine zzb fun w hw => ?_|refine zzh fun _ => ?_|refine zzi fun _ _ => ?_|refine zu1 ?_|refine zu2 ?_|refine zu3 ?_|refine zu4 fun _ => ?_|refine zzj (fun _ => ?_) fun _ => ?_)))))
      rw [map_set, ← hSk]
      clear hSk bk bk2 hsh hshb
      refine WL_ent (m' := [ro w [] G, sl 3 1 x1.1 a.shape.xs.length x1.2 (S.map (Value.int .i64)), zB b6, boxB b4 a, boxB b5 b]) zent ?_
      refine WL_row (enc := encI) (sz := 1) (e := 3) (p := x1.1) (n := a.shape.xs.length) (c := x1.2) (xs := S) (fun _ => rfl) (by decide) rfl (by rw [flatA]; exact Ent.refl) fun G1 g1 r1 => ?_
      have hC := fun W (h : Rd.le G1 W.cell?) => cntN hSl r1 hSI W h
      by_cases hc0 : (countF S).2 = 0
      · obtain ⟨A, hA1, hA4, hA5, hA6⟩ := count_ok hc0
        clear hA5 hA6
        replace key := fun b2 b15 => key A hA1 hA4 hxj G1 g1 x1.1 x1.2 r1 b2 b4 b5 b6 b15
        rw [if_neg (fun h => h hc0)]
        rw [hA1, errV_zero] at hC
        rw [hA1]
        dsimp only
        generalize ResT (0, _) G w = RR at *
        refine WL_callV rfl rfl rfl (fun W hW => hC W (hW.le zpk)) ?_
        clear hC
        ((repeat' (first|refine zza ?_|refine zzb fun w hw => ?_|refine zzh fun _ => ?_|refine zzi fun _ _ => ?_|refine zu1 ?_|refine zu2 ?_|refine zu4 fun _ => ?_|refine zzj (fun _ => ?_) fun _ => ?_)); (repeat' (refine CW_seq ?_; (repeat' (first|refine zza ?_|refine zzb fun w hw => ?_|refine zzh fun _ => ?_|refine zzi fun _ _ => ?_|refine zu1 ?_|refine zu2 ?_|refine zu4 fun _ => ?_|refine zzj (fun _ => ?_) fun _ => ?_)))))
        refine CW_ent (m' := [zB b6, boxB b4 a, boxB b5 b, ro w [] G1]) zent ?_
        refine CW_par 7 [0, 1, 2, 3] [4, 5, 6] [boxB b4 a, boxB b5 b, ro w [] G1] (pm := [zB b6]) Ent.refl (by kernel_rfl) (by decide +kernel) ?_
        (refine WP_op rfl rfl rfl zyi ?_)
        (refine WP_op rfl rfl rfl zyi ?_)
        (refine WP_op rfl rfl rfl zyi ?_)
        (refine WP_op rfl rfl rfl zyi ?_)
        refine WP_par (fun ρ m => ∃ z : Nat × Nat, (ρ.find 113 = some (.agg #[.bool a.char, .slice x1.1 a.shape.xs.length x1.2, .slice (some ⟨z.1, 0, none⟩) 0 A]) ∧ ρ.find 15 = some (ptrV z.2) ∧ ρ.find 0 = some (.int .i64 (k : Int)) ∧ ρ.find 4 = some (ptrV b4) ∧ ρ.find 5 = some (ptrV b5) ∧ ρ.find 6 = some (ptrV b6) ∧ ρ.find 11 = some (.slice x1.1 a.shape.xs.length x1.2) ∧ ρ.find 13 = some (.int .i64 (A : Int))) ∧
          Ent m [zB z.2, sl 3 1 (some ⟨z.1, 0, none⟩) 0 A [], zB b6]) (m1 := [zB b6]) Ent.refl (by decide +kernel) ?_ ?_
        · rintro ρ m ⟨⟨b2, b15⟩, ⟨f1, f2, f3, f4, f5, f6, f7, f8⟩, hE⟩
          dsimp only at f1 f2 hE
          refine WL_cov (ρ' := [(113, .agg #[.bool a.char, .slice x1.1 a.shape.xs.length x1.2, .slice (some ⟨b2, 0, none⟩) 0 A]), (15, ptrV b15), (0, .int .i64 (k : Int)), (4, ptrV b4), (5, ptrV b5), (6, ptrV b6), (11, .slice x1.1 a.shape.xs.length x1.2), (13, .int .i64 (A : Int))]) (Cov.cons f1 rfl (Cov.cons f2 rfl (Cov.cons f3 rfl (Cov.cons f4 rfl (Cov.cons f5 rfl (Cov.cons f6 rfl (Cov.cons f7 rfl (Cov.cons f8 rfl Cov.nil)))))))) ?_
          refine WL_ent hE.appR ?_
          dsimp only [List.cons_append, List.nil_append]
          clear f1 f2 f3 f4 f5 f6 f7 f8 hE ρ m
          replace key := key b2 b15
          repeat' (first | exact CW_cov zcov (CW_ent (m' := [ro w [] G1, blk b15 27 #[.bool a.char, .slice x1.1 a.shape.xs.length x1.2, .slice (some ⟨b2, 0, none⟩) 0 A], sl 3 1 (some ⟨b2, 0, none⟩) 0 A [], zB b6, boxB b4 a, boxB b5 b]) (Ent.cons zpk (Ent.consK (k := zent) zpk)) key) | refine zza ?_ | refine zzh fun _ => ?_)
        · refine Pr_two 4 6 (by decide +kernel) ?_ ?_
          · refine Stp_make0 A rfl rfl rfl rfl (by omega) (by omega) rfl fun b2 => ?_
            refine Pr_two 5 6 (by decide +kernel) ?_ ?_
            · refine Stp_op rfl rfl (y_build rfl rfl) ?_
              refine Pr_one 6 (by decide +kernel) ?_
              refine Stp_alloc rfl rfl fun b15 => ?_
              exact Pr_end (by decide +kernel) ⟨(b2, b15), ⟨rfl, rfl, rfl, rfl, rfl, rfl, rfl, rfl⟩, zent⟩
            · refine Stp_alloc rfl rfl fun b15 => ?_
              refine Pr_one 5 (by decide +kernel) ?_
              refine Stp_op rfl rfl (y_build rfl rfl) ?_
              exact Pr_end (by decide +kernel) ⟨(b2, b15), ⟨rfl, rfl, rfl, rfl, rfl, rfl, rfl, rfl⟩, zent⟩
          · refine Stp_alloc rfl rfl fun b15 => ?_
            refine Pr_one 4 (by decide +kernel) ?_
            refine Stp_make0 A rfl rfl rfl rfl (by omega) (by omega) rfl fun b2 => ?_
            refine Pr_one 5 (by decide +kernel) ?_
            refine Stp_op rfl rfl (y_build rfl rfl) ?_
            exact Pr_end (by decide +kernel) ⟨(b2, b15), ⟨rfl, rfl, rfl, rfl, rfl, rfl, rfl, rfl⟩, zent⟩
      · rw [if_pos hc0]
        clear key
        rw [errV_ne hc0] at hC
        refine WL_callV rfl rfl rfl (fun W hW => hC W (hW.le zpk)) ?_
        clear hC
        ((repeat' (first|refine zza ?_|refine zc9 ?_|refine zzb fun w hw => ?_|refine zzh fun _ => ?_|refine zzi fun _ _ => ?_|refine zu1 ?_|refine zu2 ?_|refine zu3 ?_|refine zu4 fun _ => ?_|refine zzj (fun _ => ?_) fun _ => ?_)); (repeat' (refine CW_seq ?_; (repeat' (first|refine zza ?_|refine zc9 ?_|refine zzb fun w hw => ?_|refine zzh fun _ => ?_|refine zzi fun _ _ => ?_|refine zu1 ?_|refine zu2 ?_|refine zu3 ?_|refine zu4 fun _ => ?_|refine zzj (fun _ => ?_) fun _ => ?_)))))
        refine EX_retK2 (b := b6) rfl rfl rfl rfl zpk rfl fun w' hw => ?_
        exact ResT.up g1 (ResT.err hc0 (hw.ent (Ent.cons zpk Ent.nil)))
    · rw [if_pos hc]
      clear key
      cases hca : a.char with
      | true =>
        have hcb : b.char = false := by
          cases hb' : b.char with
          | true => exact absurd (hca.trans hb'.symm) hc
          | false => rfl
        ((repeat' (first|refine zza ?_|refine zc9 ?_|refine zzb fun w hw => ?_|refine zzh fun _ => ?_|refine zzi fun _ _ => ?_|refine zu1 ?_|refine zu2 ?_|refine zu3 ?_|refine zu4 fun _ => ?_|refine zzj (fun _ => ?_) fun _ => ?_)); (repeat' (refine CW_seq ?_; (repeat' (first|refine zza ?_|refine zc9 ?_|refine zzb fun w hw => ?_|refine zzh fun _ => ?_|refine zzi fun _ _ => ?_|refine zu1 ?_|refine zu2 ?_|refine zu3 ?_|refine zu4 fun _ => ?_|refine zzj (fun _ => ?_) fun _ => ?_)))))
        refine EX_retK2 (b := b6) rfl rfl rfl rfl zpk rfl fun w' hw => ?_
        exact ResT.err (by decide) (hw.ent (Ent.cons zpk Ent.nil))
      | false =>
        ((repeat' (first|refine zza ?_|refine zc9 ?_|refine zzb fun w hw => ?_|refine zzh fun _ => ?_|refine zzi fun _ _ => ?_|refine zu1 ?_|refine zu2 ?_|refine zu3 ?_|refine zu4 fun _ => ?_|refine zzj (fun _ => ?_) fun _ => ?_)); (repeat' (refine CW_seq ?_; (repeat' (first|refine zza ?_|refine zc9 ?_|refine zzb fun w hw => ?_|refine zzh fun _ => ?_|refine zzi fun _ _ => ?_|refine zu1 ?_|refine zu2 ?_|refine zu3 ?_|refine zu4 fun _ => ?_|refine zzj (fun _ => ?_) fun _ => ?_)))))
        refine EX_retK2 (b := b6) rfl rfl rfl rfl zpk rfl fun w' hw => ?_
        exact ResT.err (by decide) (hw.ent (Ent.cons zpk Ent.nil))
  · have hF : joinF k a.arr b.arr = (3, zeroA) := if_pos hl
    rw [hF]
    clear hF
    ((repeat' (first|refine zza ?_|refine zc9 ?_|refine zzb fun w hw => ?_|refine zzh fun _ => ?_|refine zzi fun _ _ => ?_|refine zu1 ?_|refine zu2 ?_|refine zu3 ?_|refine zu4 fun _ => ?_|refine zzj (fun _ => ?_) fun _ => ?_)); (repeat' (refine CW_seq ?_; (repeat' (first|refine zza ?_|refine zc9 ?_|refine zzb fun w hw => ?_|refine zzh fun _ => ?_|refine zzi fun _ _ => ?_|refine zu1 ?_|refine zu2 ?_|refine zu3 ?_|refine zu4 fun _ => ?_|refine zzj (fun _ => ?_) fun _ => ?_)))))
    refine EX_retK2 (b := b6) rfl rfl rfl rfl zpk rfl fun w' hw => ?_
    exact ResT.err (by decide) (hw.ent (Ent.cons zpk Ent.nil))
end Go.Proofs.YtadlpfbjnpbnoaaGreatDoor
