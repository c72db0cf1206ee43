/-
  The package each: each.Two, walked.
-/
import Derived.Test.YtllgkdkjcbohcaaGreatDoorZGo
import Derived.Test.YtllgkdkjcbohcaaGreatDoorZTwoEw
namespace Go.Proofs.YtllgkdkjcbohcaaGreatDoor
open Go.RowKit
section
variable {P : Program} {K : Cx} {ρ : Env} {m : List HP} {ops : Array Oper} {Q : Exit → Act → World → Prop} {rest : List Oper} {G : Rd}
/-- a box of one's own may only be read from here on -/
theorem WL_rowB {α : Type} {enc : α → List Value} {sz b : Nat} {u : α} {T : TypeId} {cs : Array Value} {r r2 : List HP} (hs : ∀ x, (enc x).length = sz) (h0 : 0 < sz) (hF : K.F = []) (hp : Pick m (blk b T cs) r) (hp2 : Pick r (ro K.w0 K.F G) r2) (hc : cs = (enc u).toArray)
    (k : ∀ G', Rd.grow K.w0 G G' → Row enc sz G' (some ⟨b, 0, none⟩) 1 [u] → WL P K ops Q rest ρ (ro K.w0 K.F G' :: r2)) : WL P K ops Q rest ρ m :=
  WL_ent (Ent.cons hp (Ent.cons hp2 Ent.refl)) (WL_row (e := T) (n := 1) (c := 1) (p := some ⟨b, 0, none⟩) (xs := [u]) hs h0 hF (Ent.cons (.there .here) (Ent.blkSlN (n := 1) (sz := sz) .here (by rw [hc, List.flatMap_cons, List.flatMap_nil, List.append_nil]) (by rw [List.flatMap_cons, List.flatMap_nil, List.append_nil, hs, Nat.one_mul]) (by decide) Ent.refl)) k)
end
/-! ## within 64 bits -/
theorem bit_I (p : Bool) : I64 (bitF p) := by cases p <;> exact ⟨by decide, by decide⟩
theorem floor_I (a b : Int) : I64 (floorF a b) := by
  unfold floorF
  split
  · exact w64_I _
  · split <;> exact w64_I _
theorem pow_I : ∀ (n : Nat) (a b p : Int), I64 p → I64 (powL n a b p)
  | 0, _, _, _, h => h
  | n + 1, a, b, p, h => by
    rw [powL]
    split
    · refine pow_I n _ _ _ ?_
      split
      · exact w64_I _
      · exact h
    · exact h
theorem cmp_I (f a b : Int) : I64 (cmpF f a b) := by
  unfold cmpF
  repeat' split
  all_goals exact bit_I _
theorem ite_I {p : Prop} [Decidable p] {x y : Int × Int} (hx : I64 x.1) (hy : I64 y.1) : I64 (if p then x else y).1 := by
  split
  · exact hx
  · exact hy
theorem zero_I : I64 0 := ⟨by decide, by decide⟩
theorem bits_I (n : Int) : I64 (IntKind.i64.wrap n) := w64_I n
theorem two_I {f a b : Int} (ha : I64 a) (hb : I64 b) : I64 (twoF f a b).1 := by
  unfold twoF
  refine ite_I (w64_I _) (ite_I (w64_I _) (ite_I (w64_I _) (ite_I (ite_I zero_I (floor_I _ _)) (ite_I (ite_I hb (w64_I _)) (ite_I ?_ (ite_I ?_ (ite_I (cmp_I _ _ _) (ite_I (bits_I _) (ite_I (bits_I _) (ite_I (ite_I zero_I (pow_I _ _ _ _ ⟨by decide, by decide⟩)) zero_I))))))))))
  · show I64 (if a < b then b else a)
    split
    · exact hb
    · exact ha
  · show I64 (if b < a then b else a)
    split
    · exact hb
    · exact ha
theorem getD_I {xs : List Int} (h : ∀ x ∈ xs, I64 x) (i : Nat) : I64 (xs.getD i 0) := by
  by_cases hi : i < xs.length
  · simp only [List.getD, List.getElem?_eq_getElem hi, Option.getD_some]
    exact h _ (List.getElem_mem hi)
  · simp only [List.getD, List.getElem?_eq_none (by omega : xs.length ≤ i), Option.getD_none]
    exact ⟨by decide, by decide⟩
theorem cellA_I {a : ArrM} {G : Rd} (h : ArrG G a) (i : Nat) : I64 (cellA a.arr i) := by
  unfold cellA
  split <;> exact getD_I h.dataI _
theorem pair_I {f : Int} {a b : ArrM} {G : Rd} (ha : ArrG G a) (hb : ArrG G b) (i : Nat) : I64 (pairF f a.arr b.arr i).1 := by
  unfold pairF
  split
  · split <;> exact ⟨by decide, by decide⟩
  · exact two_I (cellA_I ha i) (cellA_I hb i)
abbrev zB (b : Nat) : HP := blk b 43 #[.bool false, .slice none 0 0, .slice none 0 0]
set_option maxHeartbeats 16000000 in
set_option maxRecDepth 100000 in
theorem each_Two (f : Int) (a b : ArrM) (G : Rd) (w : World) (hS : Rd.le G w.cell?) (ha : ArrG G a) (hb : ArrG G b) :
    Calls Tryz.prog 170 #[.int .i64 f, arrV a, arrV b] w (ResT (eachTwo f a.arr b.arr) G w) := by
  refine enterR (args := [_, _, _]) (m := []) (F := []) hS.sub rfl Tryz.func170 rfl Tryz.ntmps170 (by simp) ?_
  clear hS
  have hT := fun W => cell_Two f 0 1 W
  obtain ⟨v, e, hve⟩ : ∃ v e, twoF f 0 1 = (v, e) := ⟨_, _, rfl⟩
  rw [hve] at hT
  ((repeat' (first|refine zza ?_|refine zc9 ?_|refine zzb fun w hw => ?_|refine zzh fun _ => ?_|refine zzi fun _ _ => ?_|refine zu1 ?_|refine zu2 ?_|refine zu3 ?_|refine zu4 fun _ => ?_|refine zzj (fun _ => ?_) fun _ => ?_)); (repeat' (refine CW_seq ?_; (repeat' (first|refine zza ?_|refine zc9 ?_|refine zzb fun w hw => ?_|refine zzh fun _ => ?_|refine zzi fun _ _ => ?_|refine zu1 ?_|refine zu2 ?_|refine zu3 ?_|refine zu4 fun _ => ?_|refine zzj (fun _ => ?_) fun _ => ?_)))))
  rename_i bf ba bb b6
  by_cases h0 : e = 0
  · subst h0
    rw [show twoV (v, 0) = .tuple #[.int .i64 v, .nilIface] by unfold twoV; rw [errV_zero]] at hT
    have hE : eachTwo f a.arr b.arr = if a.arr.bad ≠ 0 then (a.arr.bad, zeroA) else if b.arr.bad ≠ 0 then (b.arr.bad, zeroA) else if fitE a.arr b.arr ≠ 0 then (fitE a.arr b.arr, zeroA)
      else if (f ≠ 8 ∧ f ≠ 9) ∧ (a.arr.char = true ∨ b.arr.char = true) then (6, zeroA) else fillF (fitS a.arr b.arr) (fitN a.arr b.arr) (pairF f a.arr b.arr) := by
      unfold eachTwo
      rw [hve, if_neg (by simp)]
    rw [hE]
    clear hE
    refine WL_callV rfl rfl rfl (fun W _ => hT W) ?_
    clear hT
    ((repeat' (first|refine zza ?_|refine zc9 ?_|refine zzb fun w hw => ?_|refine zzh fun _ => ?_|refine zzi fun _ _ => ?_|refine zu1 ?_|refine zu2 ?_|refine zu3 ?_|refine zu4 fun _ => ?_|refine zzj (fun _ => ?_) fun _ => ?_)); (repeat' (refine CW_seq ?_; (repeat' (first|refine zza ?_|refine zc9 ?_|refine zzb fun w hw => ?_|refine zzh fun _ => ?_|refine zzi fun _ _ => ?_|refine zu1 ?_|refine zu2 ?_|refine zu3 ?_|refine zu4 fun _ => ?_|refine zzj (fun _ => ?_) fun _ => ?_)))))
    refine WL_op rfl rfl (y_buildA rfl (fun W => arr2_build a b W)) ?_
    ((repeat' (first|refine zza ?_|refine zc9 ?_|refine zzb fun w hw => ?_|refine zzh fun _ => ?_|refine zzi fun _ _ => ?_|refine zu1 ?_|refine zu2 ?_|refine zu3 ?_|refine zu4 fun _ => ?_|refine zzj (fun _ => ?_) fun _ => ?_)); (repeat' (refine CW_seq ?_; (repeat' (first|refine zza ?_|refine zc9 ?_|refine zzb fun w hw => ?_|refine zzh fun _ => ?_|refine zzi fun _ _ => ?_|refine zu1 ?_|refine zu2 ?_|refine zu3 ?_|refine zu4 fun _ => ?_|refine zzj (fun _ => ?_) fun _ => ?_)))))
    clear hve
    refine CW_loopK [(3,_),(4,_),(5,_),(6,_),(29,_)] zcov (fun i : Nat => [(30, .int .i64 (i : Int))]) (fun _ => [zB b6, boxB bb b, boxB ba a, blk bf 27 #[.int .i64 f], ro w [] G]) (fun i => i ≤ 2 ∧ (1 ≤ i → a.arr.bad = 0) ∧ (2 ≤ i → b.arr.bad = 0)) (fun i => 2 - i) 0 ⟨by omega, by omega, by omega⟩ zcov zent ?_
    rintro i ⟨hi, k1, k2⟩
    by_cases i0 : i = 0
    · subst i0
      have hC := fun W (h : Rd.le G W.cell?) => chk a G W ha h
      by_cases h1 : a.arr.bad = 0
      · rw [h1, errV_zero] at hC
        ((repeat' (first|refine zza ?_|refine zc9 ?_|refine zzb fun w hw => ?_|refine zzh fun _ => ?_|refine zzi fun _ _ => ?_|refine zu1 ?_|refine zu2 ?_|refine zu3 ?_|refine zu4 fun _ => ?_|refine zzj (fun _ => ?_) fun _ => ?_)); (repeat' (refine CW_seq ?_; (repeat' (first|refine zza ?_|refine zc9 ?_|refine zzb fun w hw => ?_|refine zzh fun _ => ?_|refine zzi fun _ _ => ?_|refine zu1 ?_|refine zu2 ?_|refine zu3 ?_|refine zu4 fun _ => ?_|refine zzj (fun _ => ?_) fun _ => ?_)))))
        refine WL_op rfl rfl (y_indexA rfl rfl (fun W => arr2_index0 _ _ _ _ _ _ W)) ?_
        ((repeat' (first|refine zza ?_|refine zc9 ?_|refine zzb fun w hw => ?_|refine zzh fun _ => ?_|refine zzi fun _ _ => ?_|refine zu1 ?_|refine zu2 ?_|refine zu3 ?_|refine zu4 fun _ => ?_|refine zzj (fun _ => ?_) fun _ => ?_)); (repeat' (refine CW_seq ?_; (repeat' (first|refine zza ?_|refine zc9 ?_|refine zzb fun w hw => ?_|refine zzh fun _ => ?_|refine zzi fun _ _ => ?_|refine zu1 ?_|refine zu2 ?_|refine zu3 ?_|refine zu4 fun _ => ?_|refine zzj (fun _ => ?_) fun _ => ?_)))))
        refine WL_callV rfl rfl rfl (fun W hW => hC W (hW.le zpk)) ?_
        clear hC
        ((repeat' (first|refine zza ?_|refine zc9 ?_|refine zzb fun w hw => ?_|refine zzh fun _ => ?_|refine zzi fun _ _ => ?_|refine zu1 ?_|refine zu2 ?_|refine zu3 ?_|refine zu4 fun _ => ?_|refine zzj (fun _ => ?_) fun _ => ?_)); (repeat' (refine CW_seq ?_; (repeat' (first|refine zza ?_|refine zc9 ?_|refine zzb fun w hw => ?_|refine zzh fun _ => ?_|refine zzi fun _ _ => ?_|refine zu1 ?_|refine zu2 ?_|refine zu3 ?_|refine zu4 fun _ => ?_|refine zzj (fun _ => ?_) fun _ => ?_)))))
        exact EX_loop' 1 ⟨zcov, zent, by omega, by omega, fun _ => h1, fun h => absurd h (by decide)⟩
      · rw [errV_ne h1] at hC
        rw [if_pos h1]
        ((repeat' (first|refine zza ?_|refine zc9 ?_|refine zzb fun w hw => ?_|refine zzh fun _ => ?_|refine zzi fun _ _ => ?_|refine zu1 ?_|refine zu2 ?_|refine zu3 ?_|refine zu4 fun _ => ?_|refine zzj (fun _ => ?_) fun _ => ?_)); (repeat' (refine CW_seq ?_; (repeat' (first|refine zza ?_|refine zc9 ?_|refine zzb fun w hw => ?_|refine zzh fun _ => ?_|refine zzi fun _ _ => ?_|refine zu1 ?_|refine zu2 ?_|refine zu3 ?_|refine zu4 fun _ => ?_|refine zzj (fun _ => ?_) fun _ => ?_)))))
        refine WL_op rfl rfl (y_indexA rfl rfl (fun W => arr2_index0 _ _ _ _ _ _ W)) ?_
        ((repeat' (first|refine zza ?_|refine zc9 ?_|refine zzb fun w hw => ?_|refine zzh fun _ => ?_|refine zzi fun _ _ => ?_|refine zu1 ?_|refine zu2 ?_|refine zu3 ?_|refine zu4 fun _ => ?_|refine zzj (fun _ => ?_) fun _ => ?_)); (repeat' (refine CW_seq ?_; (repeat' (first|refine zza ?_|refine zc9 ?_|refine zzb fun w hw => ?_|refine zzh fun _ => ?_|refine zzi fun _ _ => ?_|refine zu1 ?_|refine zu2 ?_|refine zu3 ?_|refine zu4 fun _ => ?_|refine zzj (fun _ => ?_) fun _ => ?_)))))
        refine WL_callV rfl rfl rfl (fun W hW => hC W (hW.le zpk)) ?_
        clear hC
        ((repeat' (first|refine zza ?_|refine zc9 ?_|refine zzb fun w hw => ?_|refine zzh fun _ => ?_|refine zzi fun _ _ => ?_|refine zu1 ?_|refine zu2 ?_|refine zu3 ?_|refine zu4 fun _ => ?_|refine zzj (fun _ => ?_) fun _ => ?_)); (repeat' (refine CW_seq ?_; (repeat' (first|refine zza ?_|refine zc9 ?_|refine zzb fun w hw => ?_|refine zzh fun _ => ?_|refine zzi fun _ _ => ?_|refine zu1 ?_|refine zu2 ?_|refine zu3 ?_|refine zu4 fun _ => ?_|refine zzj (fun _ => ?_) fun _ => ?_)))))
        refine EX_retK2 (b := b6) rfl rfl rfl rfl zpk rfl fun w' hw => ?_
        exact ResT.err h1 (hw.ent (Ent.cons zpk Ent.nil))
    by_cases i1 : i = 1
    · subst i1
      have hA := k1 (Nat.le_refl _)
      have hC := fun W (h : Rd.le G W.cell?) => chk b G W hb h
      by_cases h1 : b.arr.bad = 0
      · rw [h1, errV_zero] at hC
        ((repeat' (first|refine zza ?_|refine zc9 ?_|refine zzb fun w hw => ?_|refine zzh fun _ => ?_|refine zzi fun _ _ => ?_|refine zu1 ?_|refine zu2 ?_|refine zu3 ?_|refine zu4 fun _ => ?_|refine zzj (fun _ => ?_) fun _ => ?_)); (repeat' (refine CW_seq ?_; (repeat' (first|refine zza ?_|refine zc9 ?_|refine zzb fun w hw => ?_|refine zzh fun _ => ?_|refine zzi fun _ _ => ?_|refine zu1 ?_|refine zu2 ?_|refine zu3 ?_|refine zu4 fun _ => ?_|refine zzj (fun _ => ?_) fun _ => ?_)))))
        refine WL_op rfl rfl (y_indexA rfl rfl (fun W => arr2_index1 _ _ _ _ _ _ W)) ?_
        ((repeat' (first|refine zza ?_|refine zc9 ?_|refine zzb fun w hw => ?_|refine zzh fun _ => ?_|refine zzi fun _ _ => ?_|refine zu1 ?_|refine zu2 ?_|refine zu3 ?_|refine zu4 fun _ => ?_|refine zzj (fun _ => ?_) fun _ => ?_)); (repeat' (refine CW_seq ?_; (repeat' (first|refine zza ?_|refine zc9 ?_|refine zzb fun w hw => ?_|refine zzh fun _ => ?_|refine zzi fun _ _ => ?_|refine zu1 ?_|refine zu2 ?_|refine zu3 ?_|refine zu4 fun _ => ?_|refine zzj (fun _ => ?_) fun _ => ?_)))))
        refine WL_callV rfl rfl rfl (fun W hW => hC W (hW.le zpk)) ?_
        clear hC
        ((repeat' (first|refine zza ?_|refine zc9 ?_|refine zzb fun w hw => ?_|refine zzh fun _ => ?_|refine zzi fun _ _ => ?_|refine zu1 ?_|refine zu2 ?_|refine zu3 ?_|refine zu4 fun _ => ?_|refine zzj (fun _ => ?_) fun _ => ?_)); (repeat' (refine CW_seq ?_; (repeat' (first|refine zza ?_|refine zc9 ?_|refine zzb fun w hw => ?_|refine zzh fun _ => ?_|refine zzi fun _ _ => ?_|refine zu1 ?_|refine zu2 ?_|refine zu3 ?_|refine zu4 fun _ => ?_|refine zzj (fun _ => ?_) fun _ => ?_)))))
        exact EX_loop' 2 ⟨zcov, zent, by omega, by omega, fun _ => hA, fun _ => h1⟩
      · rw [errV_ne h1] at hC
        rw [if_neg (by simp [hA]), if_pos h1]
        ((repeat' (first|refine zza ?_|refine zc9 ?_|refine zzb fun w hw => ?_|refine zzh fun _ => ?_|refine zzi fun _ _ => ?_|refine zu1 ?_|refine zu2 ?_|refine zu3 ?_|refine zu4 fun _ => ?_|refine zzj (fun _ => ?_) fun _ => ?_)); (repeat' (refine CW_seq ?_; (repeat' (first|refine zza ?_|refine zc9 ?_|refine zzb fun w hw => ?_|refine zzh fun _ => ?_|refine zzi fun _ _ => ?_|refine zu1 ?_|refine zu2 ?_|refine zu3 ?_|refine zu4 fun _ => ?_|refine zzj (fun _ => ?_) fun _ => ?_)))))
        refine WL_op rfl rfl (y_indexA rfl rfl (fun W => arr2_index1 _ _ _ _ _ _ W)) ?_
        ((repeat' (first|refine zza ?_|refine zc9 ?_|refine zzb fun w hw => ?_|refine zzh fun _ => ?_|refine zzi fun _ _ => ?_|refine zu1 ?_|refine zu2 ?_|refine zu3 ?_|refine zu4 fun _ => ?_|refine zzj (fun _ => ?_) fun _ => ?_)); (repeat' (refine CW_seq ?_; (repeat' (first|refine zza ?_|refine zc9 ?_|refine zzb fun w hw => ?_|refine zzh fun _ => ?_|refine zzi fun _ _ => ?_|refine zu1 ?_|refine zu2 ?_|refine zu3 ?_|refine zu4 fun _ => ?_|refine zzj (fun _ => ?_) fun _ => ?_)))))
        refine WL_callV rfl rfl rfl (fun W hW => hC W (hW.le zpk)) ?_
        clear hC
        ((repeat' (first|refine zza ?_|refine zc9 ?_|refine zzb fun w hw => ?_|refine zzh fun _ => ?_|refine zzi fun _ _ => ?_|refine zu1 ?_|refine zu2 ?_|refine zu3 ?_|refine zu4 fun _ => ?_|refine zzj (fun _ => ?_) fun _ => ?_)); (repeat' (refine CW_seq ?_; (repeat' (first|refine zza ?_|refine zc9 ?_|refine zzb fun w hw => ?_|refine zzh fun _ => ?_|refine zzi fun _ _ => ?_|refine zu1 ?_|refine zu2 ?_|refine zu3 ?_|refine zu4 fun _ => ?_|refine zzj (fun _ => ?_) fun _ => ?_)))))
        refine EX_retK2 (b := b6) rfl rfl rfl rfl zpk rfl fun w' hw => ?_
        exact ResT.err h1 (hw.ent (Ent.cons zpk Ent.nil))
    obtain rfl : i = 2 := by omega
    have hA := k1 (by decide)
    have hB := k2 (by decide)
    rw [if_neg (by simp [hA]), if_neg (by simp [hB])]
    have ga := Arr.good hA
    have gb := Arr.good hB
    clear k1 k2 i0 i1 hi hA hB
    ((repeat' (first|refine zza ?_|refine zc9 ?_|refine zzb fun w hw => ?_|refine zzh fun _ => ?_|refine zzi fun _ _ => ?_|refine zu1 ?_|refine zu2 ?_|refine zu3 ?_|refine zu4 fun _ => ?_|refine zzj (fun _ => ?_) fun _ => ?_)); (repeat' (refine CW_seq ?_; (repeat' (first|refine zza ?_|refine zc9 ?_|refine zzb fun w hw => ?_|refine zzh fun _ => ?_|refine zzi fun _ _ => ?_|refine zu1 ?_|refine zu2 ?_|refine zu3 ?_|refine zu4 fun _ => ?_|refine zzj (fun _ => ?_) fun _ => ?_)))))
    by_cases hz : fitE a.arr b.arr = 0
    · rw [if_neg (by simp [hz])]
      obtain ⟨f1, f2, s, F1, F2, hs, hsx, C1, C2, hfit⟩ := fit_ok a b ga gb hz
      refine WL_callX rfl rfl rfl (fun W hW => hfit G W (hW.le zpk) ha hb) ?_
      rintro ⟨z1, z2⟩ _
      dsimp only [List.cons_append, List.nil_append]
      clear hfit
      ((repeat' (first|refine zza ?_|refine zc9 ?_|refine zzb fun w hw => ?_|refine zzh fun _ => ?_|refine zzi fun _ _ => ?_|refine zu1 ?_|refine zu2 ?_|refine zu3 ?_|refine zu4 fun _ => ?_|refine zzj (fun _ => ?_) fun _ => ?_)); (repeat' (refine CW_seq ?_; (repeat' (first|refine zza ?_|refine zc9 ?_|refine zzb fun w hw => ?_|refine zzh fun _ => ?_|refine zzi fun _ _ => ?_|refine zu1 ?_|refine zu2 ?_|refine zu3 ?_|refine zu4 fun _ => ?_|refine zzj (fun _ => ?_) fun _ => ?_)))))
      rename_i b15 b16
      refine WL_ent (m' := [ro w [] G, blk bf 27 #[.int .i64 f], boxB ba a, boxB bb b, zB b6, boxB z1 a, boxB z2 b, blk b15 219 #[.func (.func f1) #[] #[ptrV z1]], blk b16 219 #[.func (.func f2) #[] #[ptrV z2]]]) (Ent.cons (by repeat (first | exact .here | apply Pick.there)) (Ent.cons (by repeat (first | exact .here | apply Pick.there)) (Ent.cons (by repeat (first | exact .here | apply Pick.there)) (Ent.cons (by repeat (first | exact .here | apply Pick.there)) (Ent.cons (by repeat (first | exact .here | apply Pick.there)) (Ent.cons (by repeat (first | exact .here | apply Pick.there)) (Ent.cons (by repeat (first | exact .here | apply Pick.there)) (Ent.cons (by repeat (first | exact .here | apply Pick.there)) (Ent.cons (by repeat (first | exact .here | apply Pick.there)) Ent.nil))))))))) ?_
      have hsR : Row encI 1 G s.p s.c s.xs := by
        rcases hs with rfl | rfl
        · exact ha.shape
        · exact hb.shape
      have hsI : ∀ x ∈ s.xs, I64 x := by
        rcases hs with rfl | rfl
        · exact ha.shapeI
        · exact hb.shapeI
      have hsl : s.xs.length ≤ 4294967280 := by
        rcases hs with rfl | rfl
        · exact Nat.le_trans ga.rank (by decide)
        · exact Nat.le_trans gb.rank (by decide)
      have hfn : fitN a.arr b.arr ≤ 1048576 := by
        unfold fitN
        split
        · exact Nat.le_trans gb.cells (by decide)
        · exact Nat.le_trans ga.cells (by decide)
      rw [← hsx]
      by_cases h8 : f = 8
      · rw [if_neg (fun h => h.1.1 h8)]
        ((repeat' (first|refine zza ?_|refine zc9 ?_|refine zzb fun w hw => ?_|refine zzh fun _ => ?_|refine zzi fun _ _ => ?_|refine zu1 ?_|refine zu2 ?_|refine zu3 ?_|refine zu4 fun _ => ?_|refine zzj (fun _ => ?_) fun _ => ?_)); (repeat' (refine CW_seq ?_; (repeat' (first|refine zza ?_|refine zc9 ?_|refine zzb fun w hw => ?_|refine zzh fun _ => ?_|refine zzi fun _ _ => ?_|refine zu1 ?_|refine zu2 ?_|refine zu3 ?_|refine zu4 fun _ => ?_|refine zzj (fun _ => ?_) fun _ => ?_)))))
        refine WL_rowB (enc := arrE) (sz := 3) (b := ba) (u := a) (fun _ => rfl) (by decide) rfl zpk zpk (by kernel_rfl) fun G1 g1 ra => ?_
        refine WL_rowB (enc := arrE) (sz := 3) (b := bb) (u := b) (fun _ => rfl) (by decide) rfl zpk zpk (by kernel_rfl) fun G2 g2 rb => ?_
        refine WL_rowB (enc := arrE) (sz := 3) (b := z1) (u := a) (fun _ => rfl) (by decide) rfl zpk zpk (by kernel_rfl) fun G3 g3 r1 => ?_
        refine WL_rowB (enc := arrE) (sz := 3) (b := z2) (u := b) (fun _ => rfl) (by decide) rfl zpk zpk (by kernel_rfl) fun G4 g4 r2 => ?_
        refine WL_rowB (enc := fun v : Value => [v]) (sz := 1) (b := b15) (u := .func (.func f1) #[] #[ptrV z1]) (fun _ => rfl) (by decide) rfl zpk zpk (by kernel_rfl) fun G5 g5 r5 => ?_
        refine WL_rowB (enc := fun v : Value => [v]) (sz := 1) (b := b16) (u := .func (.func f2) #[] #[ptrV z2]) (fun _ => rfl) (by decide) rfl zpk zpk (by kernel_rfl) fun G6 g6 r6 => ?_
        refine WL_rowB (enc := fun v : Value => [v]) (sz := 1) (b := bf) (u := .int .i64 f) (fun _ => rfl) (by decide) rfl zpk zpk (by kernel_rfl) fun G7 g7 r7 => ?_
        have l6 := g7.1
        have l5 := Rd.le_trans g6.1 l6
        have l4 := Rd.le_trans g5.1 l5
        have l3 := Rd.le_trans g4.1 l4
        have l2 := Rd.le_trans g3.1 l3
        have l1 := Rd.le_trans g2.1 l2
        have l0 := Rd.le_trans g1.1 l1
        refine WL_callT (r := [zB b6]) (Ent.cons zpk (Ent.cons zpk Ent.nil)) rfl rfl rfl (fun W hW => each_filled 227 [ptrV ba, ptrV bb, ptrV bf, ptrV b15, ptrV b16] s (fitN a.arr b.arr) (pairF f a.arr b.arr) G7 W hW (hsR.mono l0) hsI hsl hfn (fun i hi W' hl => two_pair f a b f1 f2 ba bb bf b15 b16 z1 z2 i _ hi C1 C2 G7 W' hl (ra.mono l1) (rb.mono l2) r7 (r5.mono l5) (r6.mono l6) (r1.mono l3) (r2.mono l4) (ha.mono l0) (hb.mono l0)) (fun i _ => pair_I ha hb i)) ?_
        rintro z G8 hz8 g8
        ((repeat' (first|refine zza ?_|refine zc9 ?_|refine zzb fun w hw => ?_|refine zzh fun _ => ?_|refine zzi fun _ _ => ?_|refine zu1 ?_|refine zu2 ?_|refine zu3 ?_|refine zu4 fun _ => ?_|refine zzj (fun _ => ?_) fun _ => ?_)); (repeat' (refine CW_seq ?_; (repeat' (first|refine zza ?_|refine zc9 ?_|refine zzb fun w hw => ?_|refine zzh fun _ => ?_|refine zzi fun _ _ => ?_|refine zu1 ?_|refine zu2 ?_|refine zu3 ?_|refine zu4 fun _ => ?_|refine zzj (fun _ => ?_) fun _ => ?_)))))
        refine EX_retK2 (b := b6) rfl rfl rfl rfl zpk rfl fun w' hw => ?_
        exact ⟨z, G8, hz8, rfl, Rd.grow_tr g1 (Rd.grow_tr g2 (Rd.grow_tr g3 (Rd.grow_tr g4 (Rd.grow_tr g5 (Rd.grow_tr g6 (Rd.grow_tr g7 g8)))))), hw.ent (Ent.cons zpk Ent.nil)⟩
      · by_cases h9 : f = 9
        · rw [if_neg (fun h => h.1.2 h9)]
          ((repeat' (first|refine zza ?_|refine zc9 ?_|refine zzb fun w hw => ?_|refine zzh fun _ => ?_|refine zzi fun _ _ => ?_|refine zu1 ?_|refine zu2 ?_|refine zu3 ?_|refine zu4 fun _ => ?_|refine zzj (fun _ => ?_) fun _ => ?_)); (repeat' (refine CW_seq ?_; (repeat' (first|refine zza ?_|refine zc9 ?_|refine zzb fun w hw => ?_|refine zzh fun _ => ?_|refine zzi fun _ _ => ?_|refine zu1 ?_|refine zu2 ?_|refine zu3 ?_|refine zu4 fun _ => ?_|refine zzj (fun _ => ?_) fun _ => ?_)))))
          refine WL_rowB (enc := arrE) (sz := 3) (b := ba) (u := a) (fun _ => rfl) (by decide) rfl zpk zpk (by kernel_rfl) fun G1 g1 ra => ?_
          refine WL_rowB (enc := arrE) (sz := 3) (b := bb) (u := b) (fun _ => rfl) (by decide) rfl zpk zpk (by kernel_rfl) fun G2 g2 rb => ?_
          refine WL_rowB (enc := arrE) (sz := 3) (b := z1) (u := a) (fun _ => rfl) (by decide) rfl zpk zpk (by kernel_rfl) fun G3 g3 r1 => ?_
          refine WL_rowB (enc := arrE) (sz := 3) (b := z2) (u := b) (fun _ => rfl) (by decide) rfl zpk zpk (by kernel_rfl) fun G4 g4 r2 => ?_
          refine WL_rowB (enc := fun v : Value => [v]) (sz := 1) (b := b15) (u := .func (.func f1) #[] #[ptrV z1]) (fun _ => rfl) (by decide) rfl zpk zpk (by kernel_rfl) fun G5 g5 r5 => ?_
          refine WL_rowB (enc := fun v : Value => [v]) (sz := 1) (b := b16) (u := .func (.func f2) #[] #[ptrV z2]) (fun _ => rfl) (by decide) rfl zpk zpk (by kernel_rfl) fun G6 g6 r6 => ?_
          refine WL_rowB (enc := fun v : Value => [v]) (sz := 1) (b := bf) (u := .int .i64 f) (fun _ => rfl) (by decide) rfl zpk zpk (by kernel_rfl) fun G7 g7 r7 => ?_
          have l6 := g7.1
          have l5 := Rd.le_trans g6.1 l6
          have l4 := Rd.le_trans g5.1 l5
          have l3 := Rd.le_trans g4.1 l4
          have l2 := Rd.le_trans g3.1 l3
          have l1 := Rd.le_trans g2.1 l2
          have l0 := Rd.le_trans g1.1 l1
          refine WL_callT (r := [zB b6]) (Ent.cons zpk (Ent.cons zpk Ent.nil)) rfl rfl rfl (fun W hW => each_filled 227 [ptrV ba, ptrV bb, ptrV bf, ptrV b15, ptrV b16] s (fitN a.arr b.arr) (pairF f a.arr b.arr) G7 W hW (hsR.mono l0) hsI hsl hfn (fun i hi W' hl => two_pair f a b f1 f2 ba bb bf b15 b16 z1 z2 i _ hi C1 C2 G7 W' hl (ra.mono l1) (rb.mono l2) r7 (r5.mono l5) (r6.mono l6) (r1.mono l3) (r2.mono l4) (ha.mono l0) (hb.mono l0)) (fun i _ => pair_I ha hb i)) ?_
          rintro z G8 hz8 g8
          ((repeat' (first|refine zza ?_|refine zc9 ?_|refine zzb fun w hw => ?_|refine zzh fun _ => ?_|refine zzi fun _ _ => ?_|refine zu1 ?_|refine zu2 ?_|refine zu3 ?_|refine zu4 fun _ => ?_|refine zzj (fun _ => ?_) fun _ => ?_)); (repeat' (refine CW_seq ?_; (repeat' (first|refine zza ?_|refine zc9 ?_|refine zzb fun w hw => ?_|refine zzh fun _ => ?_|refine zzi fun _ _ => ?_|refine zu1 ?_|refine zu2 ?_|refine zu3 ?_|refine zu4 fun _ => ?_|refine zzj (fun _ => ?_) fun _ => ?_)))))
          refine EX_retK2 (b := b6) rfl rfl rfl rfl zpk rfl fun w' hw => ?_
          exact ⟨z, G8, hz8, rfl, Rd.grow_tr g1 (Rd.grow_tr g2 (Rd.grow_tr g3 (Rd.grow_tr g4 (Rd.grow_tr g5 (Rd.grow_tr g6 (Rd.grow_tr g7 g8)))))), hw.ent (Ent.cons zpk Ent.nil)⟩
        · ((repeat' (first|refine zza ?_|refine zc9 ?_|refine zzb fun w hw => ?_|refine zzh fun _ => ?_|refine zzi fun _ _ => ?_|refine zu1 ?_|refine zu2 ?_|refine zu3 ?_|refine zu4 fun _ => ?_|refine zzj (fun _ => ?_) fun _ => ?_)); (repeat' (refine CW_seq ?_; (repeat' (first|refine zza ?_|refine zc9 ?_|refine zzb fun w hw => ?_|refine zzh fun _ => ?_|refine zzi fun _ _ => ?_|refine zu1 ?_|refine zu2 ?_|refine zu3 ?_|refine zu4 fun _ => ?_|refine zzj (fun _ => ?_) fun _ => ?_)))))
          cases hca : a.char with
          | true =>
            ((repeat' (first|refine zza ?_|refine zc9 ?_|refine zzb fun w hw => ?_|refine zzh fun _ => ?_|refine zzi fun _ _ => ?_|refine zu1 ?_|refine zu2 ?_|refine zu3 ?_|refine zu4 fun _ => ?_|refine zzj (fun _ => ?_) fun _ => ?_)); (repeat' (refine CW_seq ?_; (repeat' (first|refine zza ?_|refine zc9 ?_|refine zzb fun w hw => ?_|refine zzh fun _ => ?_|refine zzi fun _ _ => ?_|refine zu1 ?_|refine zu2 ?_|refine zu3 ?_|refine zu4 fun _ => ?_|refine zzj (fun _ => ?_) fun _ => ?_)))))
            rw [if_pos ⟨⟨h8, h9⟩, .inl hca⟩]
            refine EX_retK2 (b := b6) rfl rfl rfl rfl zpk rfl fun w' hw => ?_
            exact ResT.err (by decide) (hw.ent (Ent.cons zpk Ent.nil))
          | false =>
            ((repeat' (first|refine zza ?_|refine zc9 ?_|refine zzb fun w hw => ?_|refine zzh fun _ => ?_|refine zzi fun _ _ => ?_|refine zu1 ?_|refine zu2 ?_|refine zu3 ?_|refine zu4 fun _ => ?_|refine zzj (fun _ => ?_) fun _ => ?_)); (repeat' (refine CW_seq ?_; (repeat' (first|refine zza ?_|refine zc9 ?_|refine zzb fun w hw => ?_|refine zzh fun _ => ?_|refine zzi fun _ _ => ?_|refine zu1 ?_|refine zu2 ?_|refine zu3 ?_|refine zu4 fun _ => ?_|refine zzj (fun _ => ?_) fun _ => ?_)))))
            · rename_i hcb
              rw [if_pos ⟨⟨h8, h9⟩, .inr hcb⟩]
              refine EX_retK2 (b := b6) rfl rfl rfl rfl zpk rfl fun w' hw => ?_
              exact ResT.err (by decide) (hw.ent (Ent.cons zpk Ent.nil))
            · rename_i hcb
              rw [if_neg (fun h => h.2.elim (fun h => by rw [show a.arr.char = a.char from rfl, hca] at h; cases h) (fun h => by rw [show b.arr.char = b.char from rfl, hcb] at h; cases h))]
              refine WL_rowB (enc := arrE) (sz := 3) (b := ba) (u := a) (fun _ => rfl) (by decide) rfl zpk zpk (by kernel_rfl) fun G1 g1 ra => ?_
              refine WL_rowB (enc := arrE) (sz := 3) (b := bb) (u := b) (fun _ => rfl) (by decide) rfl zpk zpk (by kernel_rfl) fun G2 g2 rb => ?_
              refine WL_rowB (enc := arrE) (sz := 3) (b := z1) (u := a) (fun _ => rfl) (by decide) rfl zpk zpk (by kernel_rfl) fun G3 g3 r1 => ?_
              refine WL_rowB (enc := arrE) (sz := 3) (b := z2) (u := b) (fun _ => rfl) (by decide) rfl zpk zpk (by kernel_rfl) fun G4 g4 r2 => ?_
              refine WL_rowB (enc := fun v : Value => [v]) (sz := 1) (b := b15) (u := .func (.func f1) #[] #[ptrV z1]) (fun _ => rfl) (by decide) rfl zpk zpk (by kernel_rfl) fun G5 g5 r5 => ?_
              refine WL_rowB (enc := fun v : Value => [v]) (sz := 1) (b := b16) (u := .func (.func f2) #[] #[ptrV z2]) (fun _ => rfl) (by decide) rfl zpk zpk (by kernel_rfl) fun G6 g6 r6 => ?_
              refine WL_rowB (enc := fun v : Value => [v]) (sz := 1) (b := bf) (u := .int .i64 f) (fun _ => rfl) (by decide) rfl zpk zpk (by kernel_rfl) fun G7 g7 r7 => ?_
              have l6 := g7.1
              have l5 := Rd.le_trans g6.1 l6
              have l4 := Rd.le_trans g5.1 l5
              have l3 := Rd.le_trans g4.1 l4
              have l2 := Rd.le_trans g3.1 l3
              have l1 := Rd.le_trans g2.1 l2
              have l0 := Rd.le_trans g1.1 l1
              refine WL_callT (r := [zB b6]) (Ent.cons zpk (Ent.cons zpk Ent.nil)) rfl rfl rfl (fun W hW => each_filled 227 [ptrV ba, ptrV bb, ptrV bf, ptrV b15, ptrV b16] s (fitN a.arr b.arr) (pairF f a.arr b.arr) G7 W hW (hsR.mono l0) hsI hsl hfn (fun i hi W' hl => two_pair f a b f1 f2 ba bb bf b15 b16 z1 z2 i _ hi C1 C2 G7 W' hl (ra.mono l1) (rb.mono l2) r7 (r5.mono l5) (r6.mono l6) (r1.mono l3) (r2.mono l4) (ha.mono l0) (hb.mono l0)) (fun i _ => pair_I ha hb i)) ?_
              rintro z G8 hz8 g8
              ((repeat' (first|refine zza ?_|refine zc9 ?_|refine zzb fun w hw => ?_|refine zzh fun _ => ?_|refine zzi fun _ _ => ?_|refine zu1 ?_|refine zu2 ?_|refine zu3 ?_|refine zu4 fun _ => ?_|refine zzj (fun _ => ?_) fun _ => ?_)); (repeat' (refine CW_seq ?_; (repeat' (first|refine zza ?_|refine zc9 ?_|refine zzb fun w hw => ?_|refine zzh fun _ => ?_|refine zzi fun _ _ => ?_|refine zu1 ?_|refine zu2 ?_|refine zu3 ?_|refine zu4 fun _ => ?_|refine zzj (fun _ => ?_) fun _ => ?_)))))
              refine EX_retK2 (b := b6) rfl rfl rfl rfl zpk rfl fun w' hw => ?_
              exact ⟨z, G8, hz8, rfl, Rd.grow_tr g1 (Rd.grow_tr g2 (Rd.grow_tr g3 (Rd.grow_tr g4 (Rd.grow_tr g5 (Rd.grow_tr g6 (Rd.grow_tr g7 g8)))))), hw.ent (Ent.cons zpk Ent.nil)⟩
    · have hfit := fun W (h : Rd.le G W.cell?) => fit_bad a b hz G W h ha hb
      rw [if_pos hz]
      refine WL_callV rfl rfl rfl (fun W hW => hfit W (hW.le zpk)) ?_
      clear hfit
      ((repeat' (first|refine zza ?_|refine zc9 ?_|refine zzb fun w hw => ?_|refine zzh fun _ => ?_|refine zzi fun _ _ => ?_|refine zu1 ?_|refine zu2 ?_|refine zu3 ?_|refine zu4 fun _ => ?_|refine zzj (fun _ => ?_) fun _ => ?_)); (repeat' (refine CW_seq ?_; (repeat' (first|refine zza ?_|refine zc9 ?_|refine zzb fun w hw => ?_|refine zzh fun _ => ?_|refine zzi fun _ _ => ?_|refine zu1 ?_|refine zu2 ?_|refine zu3 ?_|refine zu4 fun _ => ?_|refine zzj (fun _ => ?_) fun _ => ?_)))))
      refine EX_retK2 (b := b6) rfl rfl rfl rfl zpk rfl fun w' hw => ?_
      exact ResT.err hz (hw.ent (Ent.cons zpk Ent.nil))
  · rw [show twoV (v, e) = .tuple #[.int .i64 v, .iface 49 (.int .i64 e)] by unfold twoV; rw [errV_ne h0]] at hT
    have hE : eachTwo f a.arr b.arr = (e, zeroA) := by
      unfold eachTwo
      rw [hve, if_pos h0]
    rw [hE]
    refine WL_callV rfl rfl rfl (fun W _ => hT W) ?_
    clear hT hE
    ((repeat' (first|refine zza ?_|refine zc9 ?_|refine zzb fun w hw => ?_|refine zzh fun _ => ?_|refine zzi fun _ _ => ?_|refine zu1 ?_|refine zu2 ?_|refine zu3 ?_|refine zu4 fun _ => ?_|refine zzj (fun _ => ?_) fun _ => ?_)); (repeat' (refine CW_seq ?_; (repeat' (first|refine zza ?_|refine zc9 ?_|refine zzb fun w hw => ?_|refine zzh fun _ => ?_|refine zzi fun _ _ => ?_|refine zu1 ?_|refine zu2 ?_|refine zu3 ?_|refine zu4 fun _ => ?_|refine zzj (fun _ => ?_) fun _ => ?_)))))
    refine EX_retK2 (b := b6) rfl rfl rfl rfl zpk rfl fun w' hw => ?_
    exact ResT.err h0 (hw.ent (Ent.cons zpk Ent.nil))
end Go.Proofs.YtllgkdkjcbohcaaGreatDoor
