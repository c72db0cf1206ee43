/-
  The package cut: cut.Drop.
-/
import Derived.Test.YtadlpfbjnpbnoaaGreatDoorZGo
import Derived.Test.YtadlpfbjnpbnoaaGreatDoorZCutT
namespace Go.Proofs.YtadlpfbjnpbnoaaGreatDoor
open Go.RowKit
theorem dropM_in {m s : Int} (h : 0 ≤ s) : -s ≤ dropM m s ∧ dropM m s ≤ s := by
  unfold dropM
  split <;> split <;> constructor <;> omega
def fS (n : List Int) (a : Arr) (i : Nat) : Int := if 0 ≤ dropM (n.getD i 0) (a.shape.getD i 0) then a.shape.getD i 0 - dropM (n.getD i 0) (a.shape.getD i 0) else a.shape.getD i 0 + dropM (n.getD i 0) (a.shape.getD i 0)
def fO (n : List Int) (a : Arr) (i : Nat) : Int := if 0 ≤ dropM (n.getD i 0) (a.shape.getD i 0) then dropM (n.getD i 0) (a.shape.getD i 0) else 0
set_option maxHeartbeats 16000000 in
set_option maxRecDepth 100000 in
theorem cut_Drop (n : SlV Int) (a : ArrM) (G : Rd) (w : World) (hS : Rd.le G w.cell?) (ha : ArrG G a) (h0 : a.arr.bad = 0) (hn : Row encI 1 G n.p n.c n.xs) (_hnI : ∀ x ∈ n.xs, I64 x) :
    Calls Tryz.prog 104 #[.slice n.p n.xs.length n.c, arrV a] w (ResT (dropF n.xs a.arr) G w) := by
  refine enterR (args := [_, _]) (m := []) (F := []) hS.sub rfl Tryz.func104 rfl Tryz.ntmps104 (by simp) ?_
  clear hS
  have ga := Arr.good h0
  have hA := fun W (h : Rd.le G W.cell?) => chk a G W ha h
  rw [h0, errV_zero] at hA
  have h6 : a.shape.xs.length ≤ 6 := ga.rank
  by_cases hl : n.xs.length = a.shape.xs.length
  · have hF : dropF n.xs a.arr = (0, winF a.arr (dropO n.xs a.arr) (dropS n.xs a.arr)) := if_neg (fun h => h hl)
    rw [hF]
    clear hF
    (repeat' ((fail_if_success refine zc8 ?_); (first|refine zza ?_|refine zzb fun w hw => ?_|refine zzh fun _ => ?_|refine zzi fun _ _ => ?_|refine zzj (fun _ => ?_) fun _ => ?_)))
    rename_i b3 b4
    refine WL_callV rfl rfl rfl (fun W hW => hA W (hW.le zpk)) ?_
    clear hA
    (repeat' ((fail_if_success refine zc8 ?_); (first|refine zza ?_|refine zzb fun w hw => ?_|refine zzh fun _ => ?_|refine zzi fun _ _ => ?_|refine zzj (fun _ => ?_) fun _ => ?_)))
    refine CW_ent (m' := [zB b4, boxB b3 a, ro w [] G]) zent ?_
    refine CW_par 7 [0, 1, 3, 4] [2, 5, 6] [boxB b3 a, ro w [] G] (pm := [zB b4]) Ent.refl (by kernel_rfl) (by decide +kernel) ?_
    (refine WP_op rfl rfl rfl zyi ?_)
    (refine WP_op rfl rfl rfl zyi ?_)
    (refine WP_op rfl rfl rfl zyi ?_)
    (refine WP_op rfl rfl rfl zyi ?_)
    refine WP_par (fun ρ m => ∃ z : (Option Addr × Nat) × Nat, (ρ.find 7 = some (.slice z.1.1 a.shape.xs.length z.1.2) ∧ ρ.find 30 = some (.slice (some ⟨z.2, 0, none⟩) n.xs.length n.xs.length) ∧ ρ.find 0 = some (.slice n.p n.xs.length n.c) ∧ ρ.find 3 = some (ptrV b3) ∧ ρ.find 4 = some (ptrV b4)) ∧
      Ent m [own1 z.1 a.shape.xs, atB z.2 n.xs.length (List.replicate n.xs.length 0), zB b4]) (m1 := [zB b4]) Ent.refl (by decide +kernel) ?_ ?_
    · rintro ρ m ⟨⟨x1, bf⟩, ⟨f1, f2, f3, f4, f5⟩, hE⟩
      dsimp only at f1 f2 hE
      refine WL_cov (ρ' := [(7, .slice x1.1 a.shape.xs.length x1.2), (30, .slice (some ⟨bf, 0, none⟩) n.xs.length n.xs.length), (0, .slice n.p n.xs.length n.c), (3, ptrV b3), (4, ptrV b4)]) (Cov.cons f1 rfl (Cov.cons f2 rfl (Cov.cons f3 rfl (Cov.cons f4 rfl (Cov.cons f5 rfl Cov.nil))))) ?_
      refine WL_ent hE.appR ?_
      dsimp only [List.cons_append, List.nil_append]
      clear f1 f2 f3 f4 f5 hE ρ m
      rw [← hl]
      ((repeat' (first|refine zza ?_|refine zc9 ?_|refine zzb fun w hw => ?_|refine zzh fun _ => ?_|refine zzi fun _ _ => ?_|refine zu1 ?_|refine zu2 ?_|refine zu3 ?_|refine zu4 fun _ => ?_|refine zzj (fun _ => ?_) fun _ => ?_)); (repeat' (refine CW_seq ?_; (repeat' (first|refine zza ?_|refine zc9 ?_|refine zzb fun w hw => ?_|refine zzh fun _ => ?_|refine zzi fun _ _ => ?_|refine zu1 ?_|refine zu2 ?_|refine zu3 ?_|refine zu4 fun _ => ?_|refine zzj (fun _ => ?_) fun _ => ?_)))))
      refine CW_loopK [(0,_),(3,_),(4,_),(7,_),(8,_),(31,_),(32,_)] zcov (fun i : Nat => [(33, .int .i64 (i : Int))]) (fun i => [sl 3 1 x1.1 n.xs.length x1.2 ((upTo n.xs.length (fun i => a.shape.xs.getD i 0) (fS n.xs a.arr) i).map (Value.int .i64)), atB bf n.xs.length (upTo n.xs.length (fun _ => 0) (fO n.xs a.arr) i), zB b4, boxB b3 a, ro w [] G]) (fun i => i ≤ n.xs.length) (fun i => n.xs.length - i) 0 (Nat.zero_le _) zcov (by
        show Ent _ [sl 3 1 x1.1 n.xs.length x1.2 ((upTo n.xs.length (fun i => a.shape.xs.getD i 0) _ 0).map (Value.int .i64)), atB bf n.xs.length (upTo n.xs.length (fun _ => 0) _ 0), zB b4, boxB b3 a, ro w [] G]
        rw [upTo_zero, hl, upTo_start]
        exact zent) ?_
      rintro i hi
      by_cases hlt : i < n.xs.length
      · have hnx : 0 ≤ a.shape.xs.getD i 0 ∧ a.shape.xs.getD i 0 ≤ 4096 := ga.axes _ (getD_mem (s := a.shape.xs) (i := i) (by omega))
        have eS := upTo_set n.xs.length (fun i => a.shape.xs.getD i 0) (fS n.xs a.arr) i hlt
        have eO := upTo_set n.xs.length (fun _ => 0) (fO n.xs a.arr) i hlt
        have eg : (upTo n.xs.length (fun i => a.shape.xs.getD i 0) (fS n.xs a.arr) i).getD i 0 = a.shape.xs.getD i 0 := by
          rw [upTo_getD _ _ _ _ _ hlt, if_neg (by omega)]
        have hSl := upTo_len n.xs.length (fun i => a.shape.xs.getD i 0) (fS n.xs a.arr) i
        have eO2 := upTo_same n.xs.length (fun _ => 0) (fO n.xs a.arr) i
        have hD := dropM_in (m := n.xs.getD i 0) hnx.1
        have eD : (if a.shape.xs.getD i 0 < (if n.xs.getD i 0 < -a.shape.xs.getD i 0 then -a.shape.xs.getD i 0 else n.xs.getD i 0) then a.shape.xs.getD i 0 else (if n.xs.getD i 0 < -a.shape.xs.getD i 0 then -a.shape.xs.getD i 0 else n.xs.getD i 0)) = dropM (n.xs.getD i 0) (a.shape.xs.getD i 0) := rfl
        have fS1 : fS n.xs a.arr i = if 0 ≤ dropM (n.xs.getD i 0) (a.shape.xs.getD i 0) then a.shape.xs.getD i 0 - dropM (n.xs.getD i 0) (a.shape.xs.getD i 0) else a.shape.xs.getD i 0 + dropM (n.xs.getD i 0) (a.shape.xs.getD i 0) := rfl
        have fO1 : fO n.xs a.arr i = if 0 ≤ dropM (n.xs.getD i 0) (a.shape.xs.getD i 0) then dropM (n.xs.getD i 0) (a.shape.xs.getD i 0) else 0 := rfl
        generalize hSd : upTo n.xs.length (fun i => a.shape.xs.getD i 0) (fS n.xs a.arr) i = S at *
        clear _hnI
        ((repeat' (first|refine zza ?_|refine zc9 ?_|refine zzb fun w hw => ?_|refine zzh fun _ => ?_|refine zzi fun _ _ => ?_|refine zu1 ?_|refine zu2 ?_|refine zu3 ?_|refine zu4 fun _ => ?_|refine zv1 ?_|refine zv2 ?_|refine zzj (fun _ => ?_) fun _ => ?_)); (repeat' (refine CW_seq ?_; (repeat' (first|refine zza ?_|refine zc9 ?_|refine zzb fun w hw => ?_|refine zzh fun _ => ?_|refine zzi fun _ _ => ?_|refine zu1 ?_|refine zu2 ?_|refine zu3 ?_|refine zu4 fun _ => ?_|refine zv1 ?_|refine zv2 ?_|refine zzj (fun _ => ?_) fun _ => ?_)))))
        refine WQ_op rfl rfl (y_maxI rfl rfl) ?_
        rw [eg]
        ((repeat' (first|refine zza ?_|refine zc9 ?_|refine zzb fun w hw => ?_|refine zzh fun _ => ?_|refine zzi fun _ _ => ?_|refine zu1 ?_|refine zu2 ?_|refine zu3 ?_|refine zu4 fun _ => ?_|refine zv1 ?_|refine zv2 ?_|refine zzj (fun _ => ?_) fun _ => ?_)); (repeat' (refine CW_seq ?_; (repeat' (first|refine zza ?_|refine zc9 ?_|refine zzb fun w hw => ?_|refine zzh fun _ => ?_|refine zzi fun _ _ => ?_|refine zu1 ?_|refine zu2 ?_|refine zu3 ?_|refine zu4 fun _ => ?_|refine zv1 ?_|refine zv2 ?_|refine zzj (fun _ => ?_) fun _ => ?_)))))
        refine WQ_op rfl rfl (y_minI rfl rfl) ?_
        rw [eg, eD]
        clear eD
        generalize dropM (n.xs.getD i 0) (a.shape.xs.getD i 0) = D at *
        by_cases hc : 0 ≤ D
        · rw [if_pos hc] at fS1 fO1
          clear eO2
          ((repeat' (first|refine zza ?_|refine zc9 ?_|refine zzb fun w hw => ?_|refine zzh fun _ => ?_|refine zzi fun _ _ => ?_|refine zu1 ?_|refine zu2 ?_|refine zu3 ?_|refine zu4 fun _ => ?_|refine zv1 ?_|refine zv2 ?_|refine zzj (fun _ => ?_) fun _ => ?_)); (repeat' (refine CW_seq ?_; (repeat' (first|refine zza ?_|refine zc9 ?_|refine zzb fun w hw => ?_|refine zzh fun _ => ?_|refine zzi fun _ _ => ?_|refine zu1 ?_|refine zu2 ?_|refine zu3 ?_|refine zu4 fun _ => ?_|refine zv1 ?_|refine zv2 ?_|refine zzj (fun _ => ?_) fun _ => ?_)))))
          rw [map_set, map_set, eg]
          refine EX_loop' (i + 1) ⟨zcov, ?_, by omega, by omega⟩
          show Ent _ [sl 3 1 x1.1 n.xs.length x1.2 ((upTo n.xs.length (fun i => a.shape.xs.getD i 0) (fS n.xs a.arr) (i + 1)).map (Value.int .i64)), atB bf n.xs.length (upTo n.xs.length (fun _ => 0) (fO n.xs a.arr) (i + 1)), zB b4, boxB b3 a, ro w [] G]
          rw [← eS, ← eO, fS1, fO1]
          exact zent
        · rw [if_neg hc] at fS1 fO1
          replace eO2 := eO2 fO1
          clear eO
          ((repeat' (first|refine zza ?_|refine zc9 ?_|refine zzb fun w hw => ?_|refine zzh fun _ => ?_|refine zzi fun _ _ => ?_|refine zu1 ?_|refine zu2 ?_|refine zu3 ?_|refine zu4 fun _ => ?_|refine zv1 ?_|refine zv2 ?_|refine zzj (fun _ => ?_) fun _ => ?_)); (repeat' (refine CW_seq ?_; (repeat' (first|refine zza ?_|refine zc9 ?_|refine zzb fun w hw => ?_|refine zzh fun _ => ?_|refine zzi fun _ _ => ?_|refine zu1 ?_|refine zu2 ?_|refine zu3 ?_|refine zu4 fun _ => ?_|refine zv1 ?_|refine zv2 ?_|refine zzj (fun _ => ?_) fun _ => ?_)))))
          rw [map_set, eg]
          refine EX_loop' (i + 1) ⟨zcov, ?_, by omega, by omega⟩
          show Ent _ [sl 3 1 x1.1 n.xs.length x1.2 ((upTo n.xs.length (fun i => a.shape.xs.getD i 0) (fS n.xs a.arr) (i + 1)).map (Value.int .i64)), atB bf n.xs.length (upTo n.xs.length (fun _ => 0) (fO n.xs a.arr) (i + 1)), zB b4, boxB b3 a, ro w [] G]
          rw [← eS, eO2, fS1]
          exact zent
      · obtain rfl : i = n.xs.length := by omega
        have hSb : ∀ i, i < n.xs.length → (dropS n.xs a.arr).getD i 0 = fS n.xs a.arr i := fun i hi => by
          show (upTo _ _ _ _).getD i 0 = _
          rw [upTo_getD _ _ _ _ _ hi, if_pos hi]
          rfl
        have hax : ∀ i, i < n.xs.length → 0 ≤ a.arr.shape.getD i 0 ∧ a.arr.shape.getD i 0 ≤ 4096 := fun i hi => ga.axes _ (getD_mem (s := a.shape.xs) (i := i) (by omega))
        have hSS : ∀ i, i < n.xs.length → 0 ≤ fS n.xs a.arr i ∧ fS n.xs a.arr i ≤ a.arr.shape.getD i 0 := fun i hi => by
          have h1 := dropM_in (m := n.xs.getD i 0) (hax i hi).1
          unfold fS
          split
          · exact ⟨by omega, by omega⟩
          · exact ⟨by omega, by omega⟩
        have hTl : (dropS n.xs a.arr).length = n.xs.length := upTo_len _ _ _ _
        have hOl : (dropO n.xs a.arr).length = n.xs.length := upTo_len _ _ _ _
        obtain ⟨hc1, hc2⟩ := count_less ga (hTl.trans hl) fun i hi => by
          rw [hTl] at hi
          rw [hSb i hi]
          exact hSS i hi
        have hmI : ∀ x ∈ dropS n.xs a.arr, 0 ≤ x ∧ x ≤ 4096 := getD_all fun i hi => by
          rw [hTl] at hi
          rw [hSb i hi]
          have h1 := hSS i hi
          have h2 := hax i hi
          exact ⟨h1.1, by omega⟩
        have hSI : ∀ x ∈ dropS n.xs a.arr, I64 x := fun x hx => by
          have := hmI x hx
          exact ⟨by omega, by omega⟩
        have hfI : ∀ x ∈ dropO n.xs a.arr, -4096 ≤ x ∧ x ≤ 4096 := upTo_I (fun x => -4096 ≤ x ∧ x ≤ 4096) (fun _ _ => by decide) fun i hi => by
          have h1 := dropM_in (m := n.xs.getD i 0) (hax i hi).1
          have h2 := hax i hi
          split
          · exact ⟨by omega, by omega⟩
          · decide
        have hm0 := mul_nn fun x hx => (hmI x hx).1
        obtain ⟨m, hm⟩ := Int.eq_ofNat_of_zero_le hm0
        rw [hm] at hc1 hc2
        have hm4 : m ≤ 4096 := by omega
        clear hSb hax hSS hm0 hm hc2
        show CW _ _ _ _ _ [sl 3 1 x1.1 n.xs.length x1.2 ((dropS n.xs a.arr).map (Value.int .i64)), atB bf n.xs.length (dropO n.xs a.arr), zB b4, boxB b3 a, ro w [] G]
        ((repeat' (first|refine zza ?_|refine zc9 ?_|refine zzb fun w hw => ?_|refine zzh fun _ => ?_|refine zzi fun _ _ => ?_|refine zu1 ?_|refine zu2 ?_|refine zu3 ?_|refine zu4 fun _ => ?_|refine zv1 ?_|refine zv2 ?_|refine zzj (fun _ => ?_) fun _ => ?_)); (repeat' (refine CW_seq ?_; (repeat' (first|refine zza ?_|refine zc9 ?_|refine zzb fun w hw => ?_|refine zzh fun _ => ?_|refine zzi fun _ _ => ?_|refine zu1 ?_|refine zu2 ?_|refine zu3 ?_|refine zu4 fun _ => ?_|refine zv1 ?_|refine zv2 ?_|refine zzj (fun _ => ?_) fun _ => ?_)))))
        refine WL_ent (m' := [ro w [] G, sl 3 1 x1.1 n.xs.length x1.2 ((dropS n.xs a.arr).map (Value.int .i64)), atB bf n.xs.length (dropO n.xs a.arr), zB b4, boxB b3 a]) zent ?_
        refine WL_row (enc := encI) (sz := 1) (e := 3) (p := x1.1) (n := n.xs.length) (c := x1.2) (xs := dropS n.xs a.arr) (fun _ => rfl) (by decide) rfl (by rw [flatA]; exact Ent.refl) fun G1 g1 r1 => ?_
        refine WL_row (enc := encI) (sz := 1) (e := 3) (p := some ⟨bf, 0, none⟩) (n := n.xs.length) (c := n.xs.length) (xs := dropO n.xs a.arr) (fun _ => rfl) (by decide) rfl (by rw [flatA]; exact Ent.refl) fun G2 g2 r2 => ?_
        have g12 := Rd.grow_tr g1 g2
        refine WL_callX rfl rfl rfl (fun W hW => cut_windowN a hOl hTl m G2 W (hW.le zpk) (ha.mono g12.1) ga r2 (r1.mono g2.1) hfI hmI (hTl.trans hl) (hOl.trans hl) hc1 hm4) ?_
        rintro z _
        dsimp only [List.cons_append, List.nil_append]
        ((repeat' (first|refine zza ?_|refine zc9 ?_|refine zzb fun w hw => ?_|refine zzh fun _ => ?_|refine zzi fun _ _ => ?_|refine zu1 ?_|refine zu2 ?_|refine zu3 ?_|refine zu4 fun _ => ?_|refine zzj (fun _ => ?_) fun _ => ?_)); (repeat' (refine CW_seq ?_; (repeat' (first|refine zza ?_|refine zc9 ?_|refine zzb fun w hw => ?_|refine zzh fun _ => ?_|refine zzi fun _ _ => ?_|refine zu1 ?_|refine zu2 ?_|refine zu3 ?_|refine zu4 fun _ => ?_|refine zzj (fun _ => ?_) fun _ => ?_)))))
        refine EX_retK2 (b := b4) rfl rfl rfl rfl zpk rfl fun w' hw => ?_
        exact ResT.up g12 (ResT.ofO (x := winF a.arr (dropO n.xs a.arr) (dropS n.xs a.arr)) (z := z) (hw.ent (Ent.cons zpk (Ent.cons zpk (Ent.cons zpk Ent.nil)))) hSI (winF_I ha.dataI))
    · refine Pr_two 2 5 (by decide +kernel) ?_ ?_
      · refine Stp_callX zpk rfl rfl rfl (fun W hl => ints_Clone a.shape.p a.shape.c a.shape.xs G W ha.shape (by omega) hl) ?_
        rintro x1 _
        refine Pr_two 5 6 (by decide +kernel) ?_ ?_
        · refine Stp_makeI (n := n.xs.length) rfl rfl rfl (by omega) (by omega) rfl fun bf => ?_
          refine Pr_one 6 (by decide +kernel) ?_
          refine Stp_op rfl rfl (y_assign rfl) ?_
          exact Pr_end (by decide +kernel) ⟨(x1, bf), ⟨rfl, rfl, rfl, rfl, rfl⟩, zent⟩
        · refine Stp_op rfl rfl (y_assign rfl) ?_
          refine Pr_one 5 (by decide +kernel) ?_
          refine Stp_makeI (n := n.xs.length) rfl rfl rfl (by omega) (by omega) rfl fun bf => ?_
          exact Pr_end (by decide +kernel) ⟨(x1, bf), ⟨rfl, rfl, rfl, rfl, rfl⟩, zent⟩
      · refine Stp_makeI (n := n.xs.length) rfl rfl rfl (by omega) (by omega) rfl fun bf => ?_
        refine Pr_one 2 (by decide +kernel) ?_
        refine Stp_callX zpk rfl rfl rfl (fun W hl => ints_Clone a.shape.p a.shape.c a.shape.xs G W ha.shape (by omega) hl) ?_
        rintro x1 _
        refine Pr_one 6 (by decide +kernel) ?_
        refine Stp_op rfl rfl (y_assign rfl) ?_
        exact Pr_end (by decide +kernel) ⟨(x1, bf), ⟨rfl, rfl, rfl, rfl, rfl⟩, zent⟩
  · have hF : dropF n.xs a.arr = (4, zeroA) := if_pos hl
    rw [hF]
    clear hF
    ((repeat' (first|refine zza ?_|refine zc9 ?_|refine zzb fun w hw => ?_|refine zzh fun _ => ?_|refine zzi fun _ _ => ?_|refine zu1 ?_|refine zu2 ?_|refine zu3 ?_|refine zu4 fun _ => ?_|refine zzj (fun _ => ?_) fun _ => ?_)); (repeat' (refine CW_seq ?_; (repeat' (first|refine zza ?_|refine zc9 ?_|refine zzb fun w hw => ?_|refine zzh fun _ => ?_|refine zzi fun _ _ => ?_|refine zu1 ?_|refine zu2 ?_|refine zu3 ?_|refine zu4 fun _ => ?_|refine zzj (fun _ => ?_) fun _ => ?_)))))
    rename_i b3 b4
    refine WL_callV rfl rfl rfl (fun W hW => hA W (hW.le zpk)) ?_
    clear hA
    ((repeat' (first|refine zza ?_|refine zc9 ?_|refine zzb fun w hw => ?_|refine zzh fun _ => ?_|refine zzi fun _ _ => ?_|refine zu1 ?_|refine zu2 ?_|refine zu3 ?_|refine zu4 fun _ => ?_|refine zzj (fun _ => ?_) fun _ => ?_)); (repeat' (refine CW_seq ?_; (repeat' (first|refine zza ?_|refine zc9 ?_|refine zzb fun w hw => ?_|refine zzh fun _ => ?_|refine zzi fun _ _ => ?_|refine zu1 ?_|refine zu2 ?_|refine zu3 ?_|refine zu4 fun _ => ?_|refine zzj (fun _ => ?_) fun _ => ?_)))))
    refine EX_retK2 (b := b4) rfl rfl rfl rfl zpk rfl fun w' hw => ?_
    exact ResT.err (by decide) (hw.ent (Ent.cons zpk Ent.nil))
end Go.Proofs.YtadlpfbjnpbnoaaGreatDoor
