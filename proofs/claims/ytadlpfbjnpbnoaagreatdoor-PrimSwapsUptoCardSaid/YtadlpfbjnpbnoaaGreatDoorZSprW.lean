/-
  The package cut: cut.Spread.
-/
import Derived.Test.YtadlpfbjnpbnoaaGreatDoorZGo
import Derived.Test.YtadlpfbjnpbnoaaGreatDoorZKeepW
import Derived.Test.YtadlpfbjnpbnoaaGreatDoorZSprR
namespace Go.Proofs.YtadlpfbjnpbnoaaGreatDoor
open Go.RowKit
def sprRow (d : List Int) (f : Int) (n1 I : Nat) (m : List Int) (o n : Nat) : List Int := (List.range n).flatMap fun i => if m.getD i 0 = 1 then piece d ((o * n1 + cnt1 m i) * I) I else List.replicate I f
def sprL (d : List Int) (f : Int) (n1 I : Nat) (m : List Int) (o : Nat) : List Int := (List.range o).flatMap fun o => sprRow d f n1 I m o m.length
theorem sprRow_succ (d : List Int) (f : Int) (n1 I : Nat) (m : List Int) (o n : Nat) : sprRow d f n1 I m o (n + 1) = sprRow d f n1 I m o n ++ if m.getD n 0 = 1 then piece d ((o * n1 + cnt1 m n) * I) I else List.replicate I f := by
  unfold sprRow
  rw [List.range_succ, List.flatMap_append]
  simp
theorem sprL_succ (d : List Int) (f : Int) (n1 I : Nat) (m : List Int) (o : Nat) : sprL d f n1 I m (o + 1) = sprL d f n1 I m o ++ sprRow d f n1 I m o m.length := by
  unfold sprL
  rw [List.range_succ, List.flatMap_append]
  simp
theorem cnt1_mono {m : List Int} {i : Nat} : ∀ j, i ≤ j → cnt1 m i ≤ cnt1 m j
  | 0, h => by rw [Nat.le_zero.1 h]; exact Nat.le_refl _
  | j + 1, h => by
    by_cases e : i = j + 1
    · rw [e]; exact Nat.le_refl _
    · have h1 : i ≤ j := by omega
      have := cnt1_mono (m := m) j h1
      rw [cnt1]
      split <;> omega
theorem cnt1_lt {m : List Int} {i : Nat} (hi : i < m.length) (h : m.getD i 0 = 1) : cnt1 m i < cnt1 m m.length := by
  have h1 := cnt1_mono (m := m) (i := i + 1) m.length hi
  rw [cnt1, if_pos h] at h1
  exact h1
theorem sprRow_len {d : List Int} {f : Int} {n1 I O o : Nat} {m : List Int} (hd : O * n1 * I = d.length) (hn : n1 = cnt1 m m.length) (ho : o < O) : ∀ n, n ≤ m.length → (sprRow d f n1 I m o n).length = n * I
  | 0, _ => by simp [sprRow]
  | n + 1, h => by
    rw [sprRow_succ, List.length_append, sprRow_len hd hn ho n (by omega), Nat.succ_mul]
    split
    · rename_i h1
      rw [piece_len]
      rw [← hd]
      exact line_place ho (by rw [hn]; exact cnt1_lt (by omega) h1)
    · rw [List.length_replicate]
theorem sprL_len {d : List Int} {f : Int} {n1 I O : Nat} {m : List Int} (hd : O * n1 * I = d.length) (hn : n1 = cnt1 m m.length) : ∀ o, o ≤ O → (sprL d f n1 I m o).length = o * (m.length * I)
  | 0, _ => by simp [sprL]
  | o + 1, h => by rw [sprL_succ, List.length_append, sprL_len hd hn o (by omega), sprRow_len hd hn (by omega) _ (Nat.le_refl _), Nat.succ_mul]
theorem sprL_mem {d : List Int} {f : Int} {n1 I : Nat} {m : List Int} {o : Nat} {x : Int} (h : x ∈ sprL d f n1 I m o) : x ∈ d ∨ x = f := by
  obtain ⟨o, _, h⟩ := List.mem_flatMap.1 h
  obtain ⟨i, _, h⟩ := List.mem_flatMap.1 h
  split at h
  · exact .inl (piece_mem h)
  · exact .inr (List.mem_replicate.1 h).2
def sprS (m : List Int) (k : Nat) (a : Arr) : List Int := a.shape.set k (m.length : Int)
def spreadF (m : List Int) (k : Nat) (a : Arr) : Int × Arr :=
  if maskB m = false then (6, zeroA) else if ((cnt1 m m.length : Nat) : Int) ≠ a.shape.getD k 0 then (4, zeroA)
  else if (countF (sprS m k a)).2 ≠ 0 then ((countF (sprS m k a)).2, zeroA)
  else (0, ⟨a.char, sprS m k a, sprL a.data (fillA a.char) (cnt1 m m.length) (mulL (a.shape.drop (k + 1))).toNat m (if (countF (sprS m k a)).1 = 0 then 0 else (mulL (a.shape.take k)).toNat)⟩)
set_option maxHeartbeats 16000000 in
set_option maxRecDepth 100000 in
theorem cut_Spread (s : SlV Int) (k : Nat) (a : ArrM) (G : Rd) (w : World) (hS : Rd.le G w.cell?) (ha : ArrG G a) (h0 : a.arr.bad = 0) (hs : Row encI 1 G s.p s.c s.xs) (hsl : s.xs.length ≤ 4096) (hk : k < a.shape.xs.length) :
    Calls Tryz.prog 106 #[.slice s.p s.xs.length s.c, .int .i64 (k : Int), arrV a] w (ResT (spreadF s.xs k a.arr) G w) := by
  refine enterR (args := [_, _, _]) (m := []) (F := []) hS.sub rfl Tryz.func106 rfl Tryz.ntmps106 (by simp) ?_
  clear hS
  have ga := Arr.good h0
  have hA := fun W (h : Rd.le G W.cell?) => chk a G W ha h
  rw [h0, errV_zero] at hA
  have h6 : a.shape.xs.length ≤ 6 := ga.rank
  have h7 : a.data.xs.length ≤ 4096 := ga.cells
  have hsh := ha.shape
  cases hm : maskB s.xs with
  | false =>
    have hF : spreadF s.xs k a.arr = (6, zeroA) := if_pos hm
    rw [hF]
    clear hF
    ((repeat' (first|refine zza ?_|refine zc9 ?_|refine zzb fun w hw => ?_|refine zzh fun _ => ?_|refine zzi fun _ _ => ?_|refine zu1 ?_|refine zu2 ?_|refine zu3 ?_|refine zu4 fun _ => ?_|refine zzj (fun _ => ?_) fun _ => ?_)); (repeat' (refine CW_seq ?_; (repeat' (first|refine zza ?_|refine zc9 ?_|refine zzb fun w hw => ?_|refine zzh fun _ => ?_|refine zzi fun _ _ => ?_|refine zu1 ?_|refine zu2 ?_|refine zu3 ?_|refine zu4 fun _ => ?_|refine zzj (fun _ => ?_) fun _ => ?_)))))
    rename_i b5 b6
    refine WL_callV rfl rfl rfl (fun W hW => hA W (hW.le zpk)) ?_
    clear hA
    ((repeat' (first|refine zza ?_|refine zc9 ?_|refine zzb fun w hw => ?_|refine zzh fun _ => ?_|refine zzi fun _ _ => ?_|refine zu1 ?_|refine zu2 ?_|refine zu3 ?_|refine zu4 fun _ => ?_|refine zzj (fun _ => ?_) fun _ => ?_)); (repeat' (refine CW_seq ?_; (repeat' (first|refine zza ?_|refine zc9 ?_|refine zzb fun w hw => ?_|refine zzh fun _ => ?_|refine zzi fun _ _ => ?_|refine zu1 ?_|refine zu2 ?_|refine zu3 ?_|refine zu4 fun _ => ?_|refine zzj (fun _ => ?_) fun _ => ?_)))))
    refine WL_callV rfl rfl rfl (fun W hW => ones_bad s G W (hW.le zpk) hs hsl hm) ?_
    ((repeat' (first|refine zza ?_|refine zc9 ?_|refine zzb fun w hw => ?_|refine zzh fun _ => ?_|refine zzi fun _ _ => ?_|refine zu1 ?_|refine zu2 ?_|refine zu3 ?_|refine zu4 fun _ => ?_|refine zzj (fun _ => ?_) fun _ => ?_)); (repeat' (refine CW_seq ?_; (repeat' (first|refine zza ?_|refine zc9 ?_|refine zzb fun w hw => ?_|refine zzh fun _ => ?_|refine zzi fun _ _ => ?_|refine zu1 ?_|refine zu2 ?_|refine zu3 ?_|refine zu4 fun _ => ?_|refine zzj (fun _ => ?_) fun _ => ?_)))))
    refine EX_retK2 (b := b6) rfl rfl rfl rfl zpk rfl fun w' hw => ?_
    exact ResT.err (by decide) (hw.ent (Ent.cons zpk Ent.nil))
  | true =>
    have hcn := cnt1_le s.xs s.xs.length
    by_cases hl : ((cnt1 s.xs s.xs.length : Nat) : Int) = a.shape.xs.getD k 0
    · have hF : spreadF s.xs k a.arr = if (countF (sprS s.xs k a.arr)).2 ≠ 0 then ((countF (sprS s.xs k a.arr)).2, zeroA)
          else (0, ⟨a.char, sprS s.xs k a.arr, sprL a.data.xs (fillA a.char) (cnt1 s.xs s.xs.length) (mulL (a.shape.xs.drop (k + 1))).toNat s.xs (if (countF (sprS s.xs k a.arr)).1 = 0 then 0 else (mulL (a.shape.xs.take k)).toNat)⟩) := (if_neg (by rw [hm]; simp)).trans (if_neg (fun h => h hl))
      rw [hF]
      clear hF
      ((repeat' (first|refine zza ?_|refine zc9 ?_|refine zzb fun w hw => ?_|refine zzh fun _ => ?_|refine zzi fun _ _ => ?_|refine zu1 ?_|refine zu2 ?_|refine zu3 ?_|refine zu4 fun _ => ?_|refine zzj (fun _ => ?_) fun _ => ?_)); (repeat' (refine CW_seq ?_; (repeat' (first|refine zza ?_|refine zc9 ?_|refine zzb fun w hw => ?_|refine zzh fun _ => ?_|refine zzi fun _ _ => ?_|refine zu1 ?_|refine zu2 ?_|refine zu3 ?_|refine zu4 fun _ => ?_|refine zzj (fun _ => ?_) fun _ => ?_)))))
      rename_i b5 b6
      refine WL_callV rfl rfl rfl (fun W hW => hA W (hW.le zpk)) ?_
      clear hA
      ((repeat' (first|refine zza ?_|refine zc9 ?_|refine zzb fun w hw => ?_|refine zzh fun _ => ?_|refine zzi fun _ _ => ?_|refine zu1 ?_|refine zu2 ?_|refine zu3 ?_|refine zu4 fun _ => ?_|refine zzj (fun _ => ?_) fun _ => ?_)); (repeat' (refine CW_seq ?_; (repeat' (first|refine zza ?_|refine zc9 ?_|refine zzb fun w hw => ?_|refine zzh fun _ => ?_|refine zzi fun _ _ => ?_|refine zu1 ?_|refine zu2 ?_|refine zu3 ?_|refine zu4 fun _ => ?_|refine zzj (fun _ => ?_) fun _ => ?_)))))
      refine WL_callV rfl rfl rfl (fun W hW => ones_ok s G W (hW.le zpk) hs hsl hm) ?_
      ((repeat' (first|refine zza ?_|refine zc9 ?_|refine zzb fun w hw => ?_|refine zzh fun _ => ?_|refine zzi fun _ _ => ?_|refine zu1 ?_|refine zu2 ?_|refine zu3 ?_|refine zu4 fun _ => ?_|refine zzj (fun _ => ?_) fun _ => ?_)); (repeat' (refine CW_seq ?_; (repeat' (first|refine zza ?_|refine zc9 ?_|refine zzb fun w hw => ?_|refine zzh fun _ => ?_|refine zzi fun _ _ => ?_|refine zu1 ?_|refine zu2 ?_|refine zu3 ?_|refine zu4 fun _ => ?_|refine zzj (fun _ => ?_) fun _ => ?_)))))
      refine WL_callX rfl rfl rfl (fun W hW => ints_Clone a.shape.p a.shape.c a.shape.xs G W ha.shape (by omega) (hW.le zpk)) ?_
      rintro x1 _
      dsimp only [List.cons_append, List.nil_append]
      ((repeat' (first|refine zza ?_|refine zc9 ?_|refine zzb fun w hw => ?_|refine zzh fun _ => ?_|refine zzi fun _ _ => ?_|refine zu1 ?_|refine zu2 ?_|refine zu3 ?_|refine zu4 fun _ => ?_|refine zzj (fun _ => ?_) fun _ => ?_)); (repeat' (refine CW_seq ?_; (repeat' (first|refine zza ?_|refine zc9 ?_|refine zzb fun w hw => ?_|refine zzh fun _ => ?_|refine zzi fun _ _ => ?_|refine zu1 ?_|refine zu2 ?_|refine zu3 ?_|refine zu4 fun _ => ?_|refine zzj (fun _ => ?_) fun _ => ?_)))))
      rw [map_set, show a.shape.xs.set k (s.xs.length : Int) = sprS s.xs k a.arr from rfl]
      have hSl : (sprS s.xs k a.arr).length = a.shape.xs.length := List.length_set ..
      have hSI : ∀ n ∈ sprS s.xs k a.arr, I64 n := fun n hn => by
        rcases set_mem hn with h | rfl
        · exact ha.shapeI n h
        · exact ⟨by omega, by omega⟩
      have hSt : (sprS s.xs k a.arr).take k = a.shape.xs.take k := by
        show (a.shape.xs.set k _).take k = _
        rw [List.take_set_of_le (Nat.le_refl _)]
      have hSd : (sprS s.xs k a.arr).drop (k + 1) = a.shape.xs.drop (k + 1) := by
        show (a.shape.xs.set k _).drop (k + 1) = _
        rw [List.drop_set, if_pos (by omega)]
      have hSk : (sprS s.xs k a.arr).getD k 0 = (s.xs.length : Int) := getD_set_same hk
      have hSm := mul_parts (s := sprS s.xs k a.arr) (i := k) (by omega)
      rw [hSt, hSd, hSk] at hSm
      generalize sprS s.xs k a.arr = S at *
      refine WL_ent (m' := [ro w [] G, sl 3 1 x1.1 a.shape.xs.length x1.2 (S.map (Value.int .i64)), zB b6, boxB b5 a]) zent ?_
      refine WL_row (enc := encI) (sz := 1) (e := 3) (p := x1.1) (n := a.shape.xs.length) (c := x1.2) (xs := S) (fun _ => rfl) (by decide) rfl (by rw [flatA]; exact Ent.refl) fun G1 g1 r1 => ?_
      have hC := fun W (h : Rd.le G1 W.cell?) => cntN hSl r1 hSI W h
      by_cases hc : (countF S).2 = 0
      · obtain ⟨A, hA1, hA4, hA5, hA6⟩ := count_ok hc
        clear hA5 hA6
        rw [if_neg (fun h => h hc)]
        rw [hA1, errV_zero] at hC
        rw [hA1]
        have hAm := count_mul hA1
        rw [hSm] at hAm
        refine WL_callV rfl rfl rfl (fun W hW => hC W (hW.le zpk)) ?_
        clear hC
        ((repeat' (first|refine zza ?_|refine zzb fun w hw => ?_|refine zzh fun _ => ?_|refine zzi fun _ _ => ?_|refine zu1 ?_|refine zu2 ?_|refine zu4 fun _ => ?_|refine zzj (fun _ => ?_) fun _ => ?_)); (repeat' (refine CW_seq ?_; (repeat' (first|refine zza ?_|refine zzb fun w hw => ?_|refine zzh fun _ => ?_|refine zzi fun _ _ => ?_|refine zu1 ?_|refine zu2 ?_|refine zu4 fun _ => ?_|refine zzj (fun _ => ?_) fun _ => ?_)))))
        refine CW_ent (m' := [zB b6, boxB b5 a, ro w [] G1]) zent ?_
        refine CW_par 7 [0, 1, 2, 3] [4, 5, 6] [boxB b5 a, ro w [] G1] (pm := [zB b6]) Ent.refl (by kernel_rfl) (by decide +kernel) ?_
        (refine WP_op rfl rfl rfl zyi ?_)
        (refine WP_op rfl rfl rfl zyi ?_)
        (refine WP_op rfl rfl rfl zyi ?_)
        (refine WP_op rfl rfl rfl zyi ?_)
        refine WP_par (fun ρ m => ∃ z : Nat × Nat, (ρ.find 77 = some (.agg #[.bool a.char, .slice x1.1 a.shape.xs.length x1.2, .slice (some ⟨z.1, 0, none⟩) 0 A]) ∧ ρ.find 13 = some (ptrV z.2) ∧ ρ.find 0 = some (.slice s.p s.xs.length s.c) ∧ ρ.find 1 = some (.int .i64 (k : Int)) ∧ ρ.find 5 = some (ptrV b5) ∧ ρ.find 6 = some (ptrV b6) ∧ ρ.find 11 = some (.slice x1.1 a.shape.xs.length x1.2) ∧ ρ.find 12 = some (.int .i64 (A : Int))) ∧
          Ent m [zB z.2, sl 3 1 (some ⟨z.1, 0, none⟩) 0 A [], zB b6]) (m1 := [zB b6]) Ent.refl (by decide +kernel) ?_ ?_
        · rintro ρ m ⟨⟨b2, b13⟩, ⟨f1, f2, f3, f4, f5, f6, f7, f8⟩, hE⟩
          dsimp only at f1 f2 hE
          refine WL_cov (ρ' := [(77, .agg #[.bool a.char, .slice x1.1 a.shape.xs.length x1.2, .slice (some ⟨b2, 0, none⟩) 0 A]), (13, ptrV b13), (0, .slice s.p s.xs.length s.c), (1, .int .i64 (k : Int)), (5, ptrV b5), (6, ptrV b6), (11, .slice x1.1 a.shape.xs.length x1.2), (12, .int .i64 (A : Int))]) (Cov.cons f1 rfl (Cov.cons f2 rfl (Cov.cons f3 rfl (Cov.cons f4 rfl (Cov.cons f5 rfl (Cov.cons f6 rfl (Cov.cons f7 rfl (Cov.cons f8 rfl Cov.nil)))))))) ?_
          refine WL_ent hE.appR ?_
          dsimp only [List.cons_append, List.nil_append]
          clear f1 f2 f3 f4 f5 f6 f7 f8 hE ρ m
          have hT := r1.sub (k + 1) (a.shape.xs.length - (k + 1)) (by omega)
          rw [List.take_of_length_le (by rw [List.length_drop]; omega), hSd] at hT
          have hTl : (a.shape.xs.drop (k + 1)).length = a.shape.xs.length - (k + 1) := List.length_drop
          have hseg : ∀ j, Hid (0 ≤ mulL ((a.shape.xs.drop (k + 1)).take j) ∧ mulL ((a.shape.xs.drop (k + 1)).take j) ≤ 1152921504606846976) := fun j => good_seg ga ((take_infix _ _).trans (drop_infix _ _))
          have hO : 0 ≤ mulL (a.shape.xs.take k) := (good_seg ga (take_infix a.shape.xs k)).1
          have hdM := mul_parts hk
          rw [show mulL a.shape.xs = (a.data.xs.length : Int) from good_mul ga] at hdM
          have hIn : 0 ≤ mulL (a.shape.xs.drop (k + 1)) := by
            have := (hseg (a.shape.xs.drop (k + 1)).length).1
            rwa [List.take_length] at this
          have hrc := r1.le
          clear hSm hSt hSd hSk hA1 hc
          ((repeat' (first|refine zza ?_|refine zc9 ?_|refine zzb fun w hw => ?_|refine zzh fun _ => ?_|refine zzi fun _ _ => ?_|refine zu1 ?_|refine zu2 ?_|refine zu3 ?_|refine zu4 fun _ => ?_|refine zzj (fun _ => ?_) fun _ => ?_)); (repeat' (refine CW_seq ?_; (repeat' (first|refine zza ?_|refine zc9 ?_|refine zzb fun w hw => ?_|refine zzh fun _ => ?_|refine zzi fun _ _ => ?_|refine zu1 ?_|refine zu2 ?_|refine zu3 ?_|refine zu4 fun _ => ?_|refine zzj (fun _ => ?_) fun _ => ?_)))))
          refine WL_op rfl rfl (y_subL (k + 1) rfl rfl rfl (by omega) (by omega)) ?_
          ((repeat' (first|refine zza ?_|refine zc9 ?_|refine zzb fun w hw => ?_|refine zzh fun _ => ?_|refine zzi fun _ _ => ?_|refine zu1 ?_|refine zu2 ?_|refine zu3 ?_|refine zu4 fun _ => ?_|refine zzj (fun _ => ?_) fun _ => ?_)); (repeat' (refine CW_seq ?_; (repeat' (first|refine zza ?_|refine zc9 ?_|refine zzb fun w hw => ?_|refine zzh fun _ => ?_|refine zzi fun _ _ => ?_|refine zu1 ?_|refine zu2 ?_|refine zu3 ?_|refine zu4 fun _ => ?_|refine zzj (fun _ => ?_) fun _ => ?_)))))
          refine CW_ent (m' := [ro w [] G1, blk b13 27 #[.bool a.char, .slice x1.1 a.shape.xs.length x1.2, .slice (some ⟨b2, 0, none⟩) 0 A], sl 3 1 (some ⟨b2, 0, none⟩) 0 A [], zB b6, boxB b5 a]) (Ent.cons zpk (Ent.consK (k := zent) zpk)) ?_
          generalize a.shape.xs.drop (k + 1) = T at *
          refine CW_loopK [(0,_),(5,_),(6,_),(12,_),(13,_),(81,_),(82,_)] zcov (fun j : Nat => [(83, .int .i64 (j : Int)), (14, .int .i64 (mulL (T.take j)))]) (fun _ => [ro w [] G1, blk b13 27 #[.bool a.char, .slice x1.1 a.shape.xs.length x1.2, .slice (some ⟨b2, 0, none⟩) 0 A], sl 3 1 (some ⟨b2, 0, none⟩) 0 A [], zB b6, boxB b5 a]) (fun j => j ≤ T.length) (fun j => T.length - j) 0 (Nat.zero_le _) zcov zent ?_
          rintro j hj
          by_cases hlt : j < T.length
          · have hsu := mul_take_succ (s := T) (i := j) hlt
            have hI : I64 (mulL (T.take j) * T.getD j 0) := by
              have hb : 0 ≤ mulL (T.take (j + 1)) ∧ mulL (T.take (j + 1)) ≤ 1152921504606846976 := hseg (j + 1)
              exact ⟨by omega, by omega⟩
            clear hseg hAm hdM
            ((repeat' (first|refine zza ?_|refine zc9 ?_|refine zzb fun w hw => ?_|refine zzh fun _ => ?_|refine zzi fun _ _ => ?_|refine zu1 ?_|refine zu2 ?_|refine zu3 ?_|refine zu4 fun _ => ?_|refine zzj (fun _ => ?_) fun _ => ?_)); (repeat' (refine CW_seq ?_; (repeat' (first|refine zza ?_|refine zc9 ?_|refine zzb fun w hw => ?_|refine zzh fun _ => ?_|refine zzi fun _ _ => ?_|refine zu1 ?_|refine zu2 ?_|refine zu3 ?_|refine zu4 fun _ => ?_|refine zzj (fun _ => ?_) fun _ => ?_)))))
            exact EX_loop' (j + 1) ⟨Cov.cons rfl rfl (Cov.cons (by show _ = some (Value.int .i64 (mulL (T.take (j + 1)))); rw [hsu]; rfl) rfl zcov), zent, by omega, by omega⟩
          · obtain rfl : j = T.length := by omega
            clear hlt hj hseg
            rw [List.take_length]
            obtain ⟨I, hI⟩ := Int.eq_ofNat_of_zero_le hIn
            obtain ⟨O, hO2⟩ := Int.eq_ofNat_of_zero_le hO
            rw [hI] at hAm hdM
            rw [hO2] at hAm hdM
            clear hIn hO
            rw [hI, hO2]
            obtain ⟨n1, hn1⟩ : ∃ n1, n1 = cnt1 s.xs s.xs.length := ⟨_, rfl⟩
            rw [← hn1] at hl hcn
            rw [← hl] at hdM
            rw [← hn1]
            have hd : O * n1 * I = a.data.xs.length := by
              rw [Nat.mul_assoc]
              exact_mod_cast hdM.symm
            have hA : A = O * (s.xs.length * I) := by exact_mod_cast hAm
            rw [Int.toNat_natCast, Int.toNat_natCast]
            clear hI hO2 hAm hdM hT
            obtain ⟨R, hR⟩ : ∃ R, R = if ((A : Int), (0 : Int)).1 = 0 then 0 else O := ⟨_, rfl⟩
            rw [← hR]
            have hRO : R ≤ O := by rw [hR]; split <;> omega
            have hRA : R * (s.xs.length * I) = A := by
              rw [hR]
              split
              · rename_i h
                have : A = 0 := by simpa using h
                omega
              · exact hA.symm
            have hRp : ∀ t, t < R → 0 < A ∧ t * (s.xs.length * I) < A := fun t ht => by
              have hA0 : A ≠ 0 := fun h => by
                rw [hR, if_pos (by rw [h]; rfl)] at ht
                omega
              have hX : s.xs.length * I ≠ 0 := fun h => by rw [hA, h, Nat.mul_zero] at hA0; exact hA0 rfl
              refine ⟨by omega, ?_⟩
              rw [← hRA]
              exact Nat.mul_lt_mul_of_pos_right ht (Nat.pos_of_ne_zero hX)
            obtain ⟨F, hF⟩ : ∃ F : Nat → List Int, ∀ t, F t = sprL a.data.xs (fillA a.char) n1 I s.xs t := ⟨_, fun _ => rfl⟩
            obtain ⟨H, hH⟩ : ∃ H : Nat → Nat → List Int, ∀ t i, H t i = sprRow a.data.xs (fillA a.char) n1 I s.xs t i := ⟨_, fun _ _ => rfl⟩
            have hLen : ∀ t, t ≤ O → (F t).length = t * (s.xs.length * I) := fun t ht => by rw [hF]; exact sprL_len hd hn1 t ht
            have hRl : ∀ t i, t < O → i ≤ s.xs.length → (H t i).length = i * I := fun t i ht hi => by rw [hH]; exact sprRow_len hd hn1 ht i hi
            have F0 : F 0 = [] := by rw [hF]; rfl
            have FS : ∀ t, F (t + 1) = F t ++ H t s.xs.length := fun t => by rw [hF, hF, hH, sprL_succ]
            have H0 : ∀ t, H t 0 = [] := fun t => by rw [hH]; rfl
            have HS : ∀ t i, H t (i + 1) = H t i ++ if s.xs.getD i 0 = 1 then piece a.data.xs ((t * n1 + cnt1 s.xs i) * I) I else List.replicate I (fillA a.char) := fun t i => by rw [hH, hH, sprRow_succ]
            have hFI : ∀ x ∈ F R, I64 x := fun x hx => by
              rw [hF] at hx
              exact (sprL_mem hx).elim (ha.dataI x) fun e => e ▸ fill_I _
            rw [← hF]
            clear hR hF hH
            have hs1 : Row encI 1 G1 s.p s.c s.xs := hs.mono g1.1
            ((repeat' (first|refine zza ?_|refine zc9 ?_|refine zzb fun w hw => ?_|refine zzh fun _ => ?_|refine zzi fun _ _ => ?_|refine zu1 ?_|refine zu2 ?_|refine zu3 ?_|refine zu4 fun _ => ?_|refine zzj (fun _ => ?_) fun _ => ?_)); (repeat' (refine CW_seq ?_; (repeat' (first|refine zza ?_|refine zc9 ?_|refine zzb fun w hw => ?_|refine zzh fun _ => ?_|refine zzi fun _ _ => ?_|refine zu1 ?_|refine zu2 ?_|refine zu3 ?_|refine zu4 fun _ => ?_|refine zzj (fun _ => ?_) fun _ => ?_)))))
            refine CW_loopK [(0,_),(5,_),(6,_),(12,_),(13,_),(14,_)] zcov (fun z : Nat × Option Addr × Nat => [(17, .int .i64 ((z.1 * n1 * I : Nat) : Int))]) (fun z => [ro w [] G1, blk b13 27 #[.bool a.char, .slice x1.1 a.shape.xs.length x1.2, .slice z.2.1 (F z.1).length z.2.2], own1 z.2 (F z.1), zB b6, boxB b5 a]) (fun z => z.1 ≤ R) (fun z => R - z.1) (0, some ⟨b2, 0, none⟩, A) (Nat.zero_le _) (Cov.cons (by rw [Nat.zero_mul, Nat.zero_mul]; rfl) rfl Cov.nil) (by
              show Ent _ [ro w [] G1, blk b13 27 #[.bool a.char, .slice x1.1 a.shape.xs.length x1.2, .slice (some ⟨b2, 0, none⟩) (F 0).length A], own1 ((some ⟨b2, 0, none⟩), A) (F 0), zB b6, boxB b5 a]
              rw [F0]
              exact zent) ?_
            rintro ⟨t, q, c⟩ ht
            dsimp only at ht ⊢
            have hDl := hLen t (by omega)
            by_cases htR : t < R
            · obtain ⟨hA0, htA⟩ := hRp t htR
              have hto : t < O := by omega
              clear hRp hLen hRA hRO hSl hrc hTl hsh
              have hI4 : I ≤ 4096 := by
                rw [hA] at hA0 hA4
                have h1 : 0 < O := Nat.pos_of_ne_zero fun e => by rw [e, Nat.zero_mul] at hA0; omega
                have h2 : 0 < s.xs.length * I := Nat.pos_of_ne_zero fun e => by rw [e, Nat.mul_zero] at hA0; omega
                have h3 : 0 < s.xs.length := Nat.pos_of_ne_zero fun e => by rw [e, Nat.zero_mul] at h2; omega
                have h4 : I ≤ s.xs.length * I := Nat.le_mul_of_pos_left _ h3
                have h5 : s.xs.length * I ≤ O * (s.xs.length * I) := Nat.le_mul_of_pos_left _ h1
                omega
              have hat : ∀ i, i ≤ s.xs.length → (t * n1 + cnt1 s.xs i) * I ≤ 4096 := fun i hi => by
                have h1 := cnt1_mono (m := s.xs) s.xs.length hi
                have h2 := line_le (z := I) hto (by omega : cnt1 s.xs i ≤ n1)
                omega
              have hDt : (F t).length ≤ 4096 := by omega
              have htA2 : ((F t).length : Int) < (A : Int) := by omega
              have hFS := FS t
              have hHS := HS t
              have hH0 := H0 t
              have hRt := fun i hi => hRl t i hto hi
              clear hA hDl htA F0 FS H0 HS hRl hFI hl
              generalize H t = H' at *
              generalize hF1 : F (t + 1) = D1 at *
              generalize F t = D0 at *
              ((repeat' (first|refine zza ?_|refine zc9 ?_|refine zzb fun w hw => ?_|refine zzh fun _ => ?_|refine zzi fun _ _ => ?_|refine zu1 ?_|refine zu2 ?_|refine zu3 ?_|refine zu4 fun _ => ?_|refine zzj (fun _ => ?_) fun _ => ?_)); (repeat' (refine CW_seq ?_; (repeat' (first|refine zza ?_|refine zc9 ?_|refine zzb fun w hw => ?_|refine zzh fun _ => ?_|refine zzi fun _ _ => ?_|refine zu1 ?_|refine zu2 ?_|refine zu3 ?_|refine zu4 fun _ => ?_|refine zzj (fun _ => ?_) fun _ => ?_)))))
              clear htA2
              refine CW_loopK [(0,_),(5,_),(6,_),(12,_),(13,_),(14,_),(96,_),(97,_)] zcov (fun z : Nat × Option Addr × Nat => [(98, .int .i64 (z.1 : Int)), (17, .int .i64 (((t * n1 + cnt1 s.xs z.1) * I : Nat) : Int))]) (fun z => [ro w [] G1, blk b13 27 #[.bool a.char, .slice x1.1 a.shape.xs.length x1.2, .slice z.2.1 (D0 ++ H' z.1).length z.2.2], own1 z.2 (D0 ++ H' z.1), zB b6, boxB b5 a]) (fun z => z.1 ≤ s.xs.length) (fun z => s.xs.length - z.1) (0, q, c) (Nat.zero_le _) (Cov.cons rfl rfl (Cov.cons rfl rfl Cov.nil)) (by
                show Ent _ [ro w [] G1, blk b13 27 #[.bool a.char, .slice x1.1 a.shape.xs.length x1.2, .slice q (D0 ++ H' 0).length c], own1 (q, c) (D0 ++ H' 0), zB b6, boxB b5 a]
                rw [hH0, List.append_nil]
                exact zent) ?_
              rintro ⟨i, q, c⟩ hi
              dsimp only at hi ⊢
              by_cases hlt : i < s.xs.length
              · have hd0 : (D0 ++ H' i).length ≤ 4096 * 4098 := by
                  rw [List.length_append, hRt i (by omega)]
                  have : i * I ≤ 4096 * 4096 := Nat.mul_le_mul (by omega) hI4
                  omega
                exact spr_round w G1 s.xs s.p s.c hs1 hsl a (ha.mono g1.1) x1.1 x1.2 a.shape.xs.length A I hI4 b5 b6 b13 (fun i => (t * n1 + cnt1 s.xs i) * I) (fun i => D0 ++ H' i) i q c hlt
                  (fun h1 => by
                    have hpl := line_place (z := I) hto (show cnt1 s.xs i < n1 by rw [hn1]; exact cnt1_lt hlt h1)
                    rw [hd] at hpl
                    have e1 : cnt1 s.xs (i + 1) = cnt1 s.xs i + 1 := if_pos h1
                    refine ⟨hpl, ?_, ?_⟩
                    · show (t * n1 + cnt1 s.xs (i + 1)) * I = (t * n1 + cnt1 s.xs i) * I + I
                      rw [e1, ← Nat.add_assoc, Nat.succ_mul]
                    · show D0 ++ H' (i + 1) = (D0 ++ H' i) ++ _
                      rw [hHS i, if_pos h1, List.append_assoc])
                  (fun h1 => by
                    have e1 : cnt1 s.xs (i + 1) = cnt1 s.xs i := if_neg h1
                    refine ⟨?_, ?_⟩
                    · show (t * n1 + cnt1 s.xs (i + 1)) * I = (t * n1 + cnt1 s.xs i) * I
                      rw [e1]
                    · show D0 ++ H' (i + 1) = (D0 ++ H' i) ++ _
                      rw [hHS i, if_neg h1, List.append_assoc])
                  hd0 (hat i hi) _
              · obtain rfl : i = s.xs.length := by omega
                rw [← hn1]
                ((repeat' (first|refine zza ?_|refine zc9 ?_|refine zzb fun w hw => ?_|refine zzh fun _ => ?_|refine zzi fun _ _ => ?_|refine zu1 ?_|refine zu2 ?_|refine zu3 ?_|refine zu4 fun _ => ?_|refine zzj (fun _ => ?_) fun _ => ?_)); (repeat' (refine CW_seq ?_; (repeat' (first|refine zza ?_|refine zc9 ?_|refine zzb fun w hw => ?_|refine zzh fun _ => ?_|refine zzi fun _ _ => ?_|refine zu1 ?_|refine zu2 ?_|refine zu3 ?_|refine zu4 fun _ => ?_|refine zzj (fun _ => ?_) fun _ => ?_)))))
                refine EX_loop' (t + 1, q, c) ⟨Cov.cons (by show _ = some (Value.int .i64 (((t + 1) * n1 * I : Nat) : Int)); rw [Nat.succ_mul]; rfl) rfl zcov, ?_, by show R - (t + 1) < R - t; omega, by show t + 1 ≤ R; omega⟩
                show Ent _ [ro w [] G1, blk b13 27 #[.bool a.char, .slice x1.1 a.shape.xs.length x1.2, .slice q (F (t + 1)).length c], own1 (q, c) (F (t + 1)), zB b6, boxB b5 a]
                rw [hF1, hFS]
                exact zent
            · obtain rfl : t = R := by omega
              rw [hRA] at hDl
              clear hRp hLen hRA
              ((repeat' (first|refine zza ?_|refine zc9 ?_|refine zzb fun w hw => ?_|refine zzh fun _ => ?_|refine zzi fun _ _ => ?_|refine zu1 ?_|refine zu2 ?_|refine zu3 ?_|refine zu4 fun _ => ?_|refine zzj (fun _ => ?_) fun _ => ?_)); (repeat' (refine CW_seq ?_; (repeat' (first|refine zza ?_|refine zc9 ?_|refine zzb fun w hw => ?_|refine zzh fun _ => ?_|refine zzi fun _ _ => ?_|refine zu1 ?_|refine zu2 ?_|refine zu3 ?_|refine zu4 fun _ => ?_|refine zzj (fun _ => ?_) fun _ => ?_)))))
              refine EX_retK2 (b := b6) rfl rfl rfl rfl zpk rfl fun w' hw => ?_
              exact ResT.up g1 (ResT.mix (ch := a.char) (p := x1.1) (q := q) (c := x1.2) (k := c) hSl r1 (hw.ent (Ent.cons zpk (Ent.cons zpk Ent.nil))) hSI hFI)
        · refine Pr_two 4 6 (by decide +kernel) ?_ ?_
          · refine Stp_make0 A rfl rfl rfl rfl (by omega) (by omega) rfl fun b2 => ?_
            refine Pr_two 5 6 (by decide +kernel) ?_ ?_
            · refine Stp_op rfl rfl (y_build rfl rfl) ?_
              refine Pr_one 6 (by decide +kernel) ?_
              refine Stp_alloc rfl rfl fun b13 => ?_
              exact Pr_end (by decide +kernel) ⟨(b2, b13), ⟨rfl, rfl, rfl, rfl, rfl, rfl, rfl, rfl⟩, zent⟩
            · refine Stp_alloc rfl rfl fun b13 => ?_
              refine Pr_one 5 (by decide +kernel) ?_
              refine Stp_op rfl rfl (y_build rfl rfl) ?_
              exact Pr_end (by decide +kernel) ⟨(b2, b13), ⟨rfl, rfl, rfl, rfl, rfl, rfl, rfl, rfl⟩, zent⟩
          · refine Stp_alloc rfl rfl fun b13 => ?_
            refine Pr_one 4 (by decide +kernel) ?_
            refine Stp_make0 A rfl rfl rfl rfl (by omega) (by omega) rfl fun b2 => ?_
            refine Pr_one 5 (by decide +kernel) ?_
            refine Stp_op rfl rfl (y_build rfl rfl) ?_
            exact Pr_end (by decide +kernel) ⟨(b2, b13), ⟨rfl, rfl, rfl, rfl, rfl, rfl, rfl, rfl⟩, zent⟩
      · rw [if_pos hc]
        rw [errV_ne hc] at hC
        refine WL_callV rfl rfl rfl (fun W hW => hC W (hW.le zpk)) ?_
        clear hC
        ((repeat' (first|refine zza ?_|refine zc9 ?_|refine zzb fun w hw => ?_|refine zzh fun _ => ?_|refine zzi fun _ _ => ?_|refine zu1 ?_|refine zu2 ?_|refine zu3 ?_|refine zu4 fun _ => ?_|refine zzj (fun _ => ?_) fun _ => ?_)); (repeat' (refine CW_seq ?_; (repeat' (first|refine zza ?_|refine zc9 ?_|refine zzb fun w hw => ?_|refine zzh fun _ => ?_|refine zzi fun _ _ => ?_|refine zu1 ?_|refine zu2 ?_|refine zu3 ?_|refine zu4 fun _ => ?_|refine zzj (fun _ => ?_) fun _ => ?_)))))
        refine EX_retK2 (b := b6) rfl rfl rfl rfl zpk rfl fun w' hw => ?_
        exact ResT.up g1 (ResT.err hc (hw.ent (Ent.cons zpk Ent.nil)))
    · have hF : spreadF s.xs k a.arr = (4, zeroA) := (if_neg (by rw [hm]; simp)).trans (if_pos hl)
      rw [hF]
      clear hF
      ((repeat' (first|refine zza ?_|refine zc9 ?_|refine zzb fun w hw => ?_|refine zzh fun _ => ?_|refine zzi fun _ _ => ?_|refine zu1 ?_|refine zu2 ?_|refine zu3 ?_|refine zu4 fun _ => ?_|refine zzj (fun _ => ?_) fun _ => ?_)); (repeat' (refine CW_seq ?_; (repeat' (first|refine zza ?_|refine zc9 ?_|refine zzb fun w hw => ?_|refine zzh fun _ => ?_|refine zzi fun _ _ => ?_|refine zu1 ?_|refine zu2 ?_|refine zu3 ?_|refine zu4 fun _ => ?_|refine zzj (fun _ => ?_) fun _ => ?_)))))
      rename_i b5 b6
      refine WL_callV rfl rfl rfl (fun W hW => hA W (hW.le zpk)) ?_
      clear hA
      ((repeat' (first|refine zza ?_|refine zc9 ?_|refine zzb fun w hw => ?_|refine zzh fun _ => ?_|refine zzi fun _ _ => ?_|refine zu1 ?_|refine zu2 ?_|refine zu3 ?_|refine zu4 fun _ => ?_|refine zzj (fun _ => ?_) fun _ => ?_)); (repeat' (refine CW_seq ?_; (repeat' (first|refine zza ?_|refine zc9 ?_|refine zzb fun w hw => ?_|refine zzh fun _ => ?_|refine zzi fun _ _ => ?_|refine zu1 ?_|refine zu2 ?_|refine zu3 ?_|refine zu4 fun _ => ?_|refine zzj (fun _ => ?_) fun _ => ?_)))))
      refine WL_callV rfl rfl rfl (fun W hW => ones_ok s G W (hW.le zpk) hs hsl hm) ?_
      ((repeat' (first|refine zza ?_|refine zc9 ?_|refine zzb fun w hw => ?_|refine zzh fun _ => ?_|refine zzi fun _ _ => ?_|refine zu1 ?_|refine zu2 ?_|refine zu3 ?_|refine zu4 fun _ => ?_|refine zzj (fun _ => ?_) fun _ => ?_)); (repeat' (refine CW_seq ?_; (repeat' (first|refine zza ?_|refine zc9 ?_|refine zzb fun w hw => ?_|refine zzh fun _ => ?_|refine zzi fun _ _ => ?_|refine zu1 ?_|refine zu2 ?_|refine zu3 ?_|refine zu4 fun _ => ?_|refine zzj (fun _ => ?_) fun _ => ?_)))))
      refine EX_retK2 (b := b6) rfl rfl rfl rfl zpk rfl fun w' hw => ?_
      exact ResT.err (by decide) (hw.ent (Ent.cons zpk Ent.nil))
end Go.Proofs.YtadlpfbjnpbnoaaGreatDoor
