/-
  The package cut: cut.Join.
-/
import Derived.Test.YtadlpfbjnpbnoaaGreatDoorZGo
import Derived.Test.YtadlpfbjnpbnoaaGreatDoorZSprR
import Derived.Test.YtadlpfbjnpbnoaaGreatDoorZTwoEw
import Derived.Test.YtadlpfbjnpbnoaaGreatDoorZStpM
namespace Go.Proofs.YtadlpfbjnpbnoaaGreatDoor
open Go.RowKit
theorem mul_cons (x : Int) (r : List Int) : mulL (x :: r) = x * mulL r := rfl
/-- how many cells there are of each -/
theorem join_nums {a b : ArrM} (ga : a.arr.Good) (gb : b.arr.Good) {k A : Nat} (hk : k < a.shape.xs.length) (hl : a.shape.xs.length = b.shape.xs.length) (hX : joinX k a.arr b.arr a.shape.xs.length = false) (hA : countF (joinS k a.arr b.arr) = ((A : Int), 0)) :
    ∃ O one two : Nat, mulL (a.shape.xs.drop k) = (one : Int) ∧ mulL (b.shape.xs.drop k) = (two : Int) ∧ mulL (a.shape.xs.take k) = (O : Int) ∧ O * one = a.data.xs.length ∧ O * two = b.data.xs.length ∧ A = O * (one + two) := by
  obtain ⟨e1, e2⟩ := joinX_parts hl hX
  replace e1 : a.shape.xs.take k = b.shape.xs.take k := e1
  replace e2 : a.shape.xs.drop (k + 1) = b.shape.xs.drop (k + 1) := e2
  obtain ⟨one, h1⟩ := Int.eq_ofNat_of_zero_le (good_seg ga (drop_infix a.shape.xs k)).1
  obtain ⟨two, h2⟩ := Int.eq_ofNat_of_zero_le (good_seg gb (drop_infix b.shape.xs k)).1
  obtain ⟨O, h3⟩ := Int.eq_ofNat_of_zero_le (good_seg ga (take_infix a.shape.xs k)).1
  have ma : mulL a.shape.xs = (a.data.xs.length : Int) := good_mul ga
  have mb : mulL b.shape.xs = (b.data.xs.length : Int) := good_mul gb
  have mA := count_mul hA
  rw [mul_split _ k, h3, h1] at ma
  rw [mul_split _ k, ← e1, h3, h2] at mb
  have hSt : (joinS k a.arr b.arr).take k = a.shape.xs.take k := by
    show (a.shape.xs.set k _).take k = _
    rw [List.take_set_of_le (Nat.le_refl _)]
  have hSd : (joinS k a.arr b.arr).drop (k + 1) = a.shape.xs.drop (k + 1) := by
    show (a.shape.xs.set k _).drop (k + 1) = _
    rw [List.drop_set, if_pos (by omega)]
  have hSk : (joinS k a.arr b.arr).getD k 0 = a.shape.xs.getD k 0 + b.shape.xs.getD k 0 := getD_set_same hk
  have hSl : (joinS k a.arr b.arr).length = a.shape.xs.length := List.length_set ..
  rw [mul_parts (i := k) (by omega), hSt, hSd, hSk, h3] at mA
  have d1 : mulL (a.shape.xs.drop k) = a.shape.xs.getD k 0 * mulL (a.shape.xs.drop (k + 1)) := by rw [dropI_getD hk, mul_cons]
  have d2 : mulL (b.shape.xs.drop k) = b.shape.xs.getD k 0 * mulL (a.shape.xs.drop (k + 1)) := by rw [dropI_getD (by omega), mul_cons, e2]
  rw [h1] at d1
  rw [h2] at d2
  refine ⟨O, one, two, h1, h2, h3, by exact_mod_cast ma, by exact_mod_cast mb, ?_⟩
  rw [Int.add_mul, ← d1, ← d2] at mA
  exact_mod_cast mA
set_option maxHeartbeats 16000000 in
set_option maxRecDepth 100000 in
theorem join_tail (w : World) (G G1 : Rd) (g1 : Rd.grow w G G1) (a b : ArrM) (ha : ArrG G1 a) (hb : ArrG G1 b) (ga : a.arr.Good) (gb : b.arr.Good) (k A : Nat) (hk : k < a.shape.xs.length) (hl : a.shape.xs.length = b.shape.xs.length) (hX : joinX k a.arr b.arr a.shape.xs.length = false) (S : List Int) (hS : S = joinS k a.arr b.arr) (hSI : ∀ x ∈ S, I64 x) (hA : countF S = ((A : Int), 0)) (hA4 : A ≤ 4096) (x1p : Option Addr) (x1c : Nat) (r1 : Row encI 1 G1 x1p x1c S) (b2 b4 b5 b6 b15 : Nat) :
    CW Tryz.prog ⟨169, [], w, []⟩ (QBody Tryz.prog Tryz.f110 (ResT (0, ⟨a.char, S, joinD a.data.xs b.data.xs (mulL (a.shape.xs.drop k)).toNat (mulL (b.shape.xs.drop k)).toNat (if (A : Int) = 0 then 0 else (mulL (a.shape.xs.take k)).toNat)⟩) G w)) (cP [1, 1, 1, 1, 1, 1, 1, 1, 1, 1, 1] jcode)
      [(0, .int .i64 (k : Int)), (4, .pointer (some ⟨b4, 0, none⟩)), (5, .pointer (some ⟨b5, 0, none⟩)), (6, .pointer (some ⟨b6, 0, none⟩)), (11, .slice x1p a.shape.xs.length x1c), (13, .int .i64 (A : Int)), (15, .pointer (some ⟨b15, 0, none⟩))] [ro w [] G1, blk b15 27 #[.bool a.char, .slice x1p a.shape.xs.length x1c, .slice (some ⟨b2, 0, none⟩) 0 A], sl 3 1 (some ⟨b2, 0, none⟩) 0 A [], zB b6, boxB b4 a, boxB b5 b] := by
  conv =>
    pattern cP _ _
    whnf
  obtain ⟨O, one, two, h1, h2, h3, n1, n2, nA⟩ := join_nums ga gb hk hl hX (hS ▸ hA)
  have hSl : S.length = a.shape.xs.length := by rw [hS]; exact List.length_set ..
  have hsa : ∀ j, Hid (0 ≤ mulL ((a.shape.xs.take j).drop k) ∧ mulL ((a.shape.xs.take j).drop k) ≤ 1152921504606846976) := fun j => good_seg ga (seg_infix _ _ _)
  have hsb : ∀ j, Hid (0 ≤ mulL ((b.shape.xs.take j).drop k) ∧ mulL ((b.shape.xs.take j).drop k) ≤ 1152921504606846976) := fun j => good_seg gb (seg_infix _ _ _)
  have ssa : ∀ j, j < a.shape.xs.length → k ≤ j → mulL ((a.shape.xs.take (j + 1)).drop k) = mulL ((a.shape.xs.take j).drop k) * a.shape.xs.getD j 0 := fun j h h' => seg_succ h h'
  have ssb : ∀ j, j < b.shape.xs.length → k ≤ j → mulL ((b.shape.xs.take (j + 1)).drop k) = mulL ((b.shape.xs.take j).drop k) * b.shape.xs.getD j 0 := fun j h h' => seg_succ h h'
  have ea : mulL ((a.shape.xs.take a.shape.xs.length).drop k) = (one : Int) := by rw [seg_all, h1]
  have eb : mulL ((b.shape.xs.take a.shape.xs.length).drop k) = (two : Int) := by rw [hl, seg_all, h2]
  have za : mulL ((a.shape.xs.take k).drop k) = 1 := seg_none k
  have zb : mulL ((b.shape.xs.take k).drop k) = 1 := seg_none k
  rw [h1, h2, h3, Int.toNat_natCast, Int.toNat_natCast, Int.toNat_natCast]
  have h7a : a.data.xs.length ≤ 4096 := ga.cells
  have h7b : b.data.xs.length ≤ 4096 := gb.cells
  have h6 : a.shape.xs.length ≤ 6 := ga.rank
  clear h1 h2 h3 hX hS hA ga gb
  obtain ⟨Fa, hFa⟩ : ∃ Fa : Nat → Int, ∀ j, Fa j = mulL ((a.shape.xs.take j).drop k) := ⟨_, fun _ => rfl⟩
  obtain ⟨Fb, hFb⟩ : ∃ Fb : Nat → Int, ∀ j, Fb j = mulL ((b.shape.xs.take j).drop k) := ⟨_, fun _ => rfl⟩
  simp only [← hFa] at hsa ssa ea za
  simp only [← hFb] at hsb ssb eb zb
  clear hFa hFb
  have hsha := ha.shape
  have hshb := hb.shape
  ((repeat' (first|refine zza ?_|refine zc9 ?_|refine zzb fun w hw => ?_|refine zzh fun _ => ?_|refine zzi fun _ _ => ?_|refine zu1 ?_|refine zu2 ?_|refine zu3 ?_|refine zu4 fun _ => ?_|refine zzj (fun _ => ?_) fun _ => ?_)); (repeat' (refine CW_seq ?_; (repeat' (first|refine zza ?_|refine zc9 ?_|refine zzb fun w hw => ?_|refine zzh fun _ => ?_|refine zzi fun _ _ => ?_|refine zu1 ?_|refine zu2 ?_|refine zu3 ?_|refine zu4 fun _ => ?_|refine zzj (fun _ => ?_) fun _ => ?_)))))
  refine CW_loopK [(0,_),(4,_),(5,_),(6,_),(11,_),(13,_),(15,_)] zcov (fun j : Nat => [(18, .int .i64 (j : Int)), (16, .int .i64 (Fa j)), (17, .int .i64 (Fb j))]) (fun _ => [ro w [] G1, blk b15 27 #[.bool a.char, .slice x1p a.shape.xs.length x1c, .slice (some ⟨b2, 0, none⟩) 0 A], sl 3 1 (some ⟨b2, 0, none⟩) 0 A [], zB b6, boxB b4 a, boxB b5 b]) (fun j => k ≤ j ∧ j ≤ a.shape.xs.length) (fun j => a.shape.xs.length - j) k ⟨Nat.le_refl _, by omega⟩ (Cov.cons rfl rfl (Cov.cons (by show _ = some (Value.int .i64 (Fa k)); rw [za]; rfl) rfl (Cov.cons (by show _ = some (Value.int .i64 (Fb k)); rw [zb]; rfl) rfl Cov.nil))) zent ?_
  clear za zb
  rintro j ⟨hkj, hj⟩
  by_cases hlt : j < a.shape.xs.length
  · have hIa : I64 (Fa j * a.shape.xs.getD j 0) := by
      rw [← ssa j hlt hkj]
      have hb' : 0 ≤ Fa (j + 1) ∧ Fa (j + 1) ≤ 1152921504606846976 := hsa (j + 1)
      exact ⟨by omega, by omega⟩
    have hIb : I64 (Fb j * b.shape.xs.getD j 0) := by
      rw [← ssb j (by omega) hkj]
      have hb' : 0 ≤ Fb (j + 1) ∧ Fb (j + 1) ≤ 1152921504606846976 := hsb (j + 1)
      exact ⟨by omega, by omega⟩
    have sa := ssa j hlt hkj
    have sb := ssb j (by omega) hkj
    have hltb : j < b.shape.xs.length := by omega
    clear hsa hsb ssa ssb n1 n2 nA ea eb
    ((repeat' (first|refine zza ?_|refine zc9 ?_|refine zzb fun w hw => ?_|refine zzh fun _ => ?_|refine zzi fun _ _ => ?_|refine zu1 ?_|refine zu2 ?_|refine zu3 ?_|refine zu4 fun _ => ?_|refine zzj (fun _ => ?_) fun _ => ?_)); (repeat' (refine CW_seq ?_; (repeat' (first|refine zza ?_|refine zc9 ?_|refine zzb fun w hw => ?_|refine zzh fun _ => ?_|refine zzi fun _ _ => ?_|refine zu1 ?_|refine zu2 ?_|refine zu3 ?_|refine zu4 fun _ => ?_|refine zzj (fun _ => ?_) fun _ => ?_)))))
    exact EX_loop' (j + 1) ⟨Cov.cons rfl rfl (Cov.cons (by show _ = some (Value.int .i64 (Fa (j + 1))); rw [sa]; rfl) rfl (Cov.cons (by show _ = some (Value.int .i64 (Fb (j + 1))); rw [sb]; rfl) rfl zcov)), zent, by omega, by omega, by omega⟩
  · obtain rfl : j = a.shape.xs.length := by omega
    clear hlt hj hkj hsa hsb ssa ssb
    rw [ea, eb]
    clear ea eb
    obtain ⟨R, hR⟩ : ∃ R, R = if (A : Int) = 0 then 0 else O := ⟨_, rfl⟩
    rw [← hR]
    have hRO : R ≤ O := by rw [hR]; split <;> omega
    have hRA : R * (one + two) = A := by
      rw [hR]
      split
      · rename_i h
        have : A = 0 := by simpa using h
        omega
      · exact nA.symm
    have hRp : ∀ t, t < R → t * (one + two) < A := fun t ht => by
      have hA0 : A ≠ 0 := fun h => by
        rw [hR, if_pos (by rw [h]; rfl)] at ht
        omega
      have hX : one + two ≠ 0 := fun h => by rw [nA, h, Nat.mul_zero] at hA0; exact hA0 rfl
      rw [← hRA]
      exact Nat.mul_lt_mul_of_pos_right ht (Nat.pos_of_ne_zero hX)
    obtain ⟨F, hF⟩ : ∃ F : Nat → List Int, ∀ t, F t = joinD a.data.xs b.data.xs one two t := ⟨_, fun _ => rfl⟩
    have hLen : ∀ t, t ≤ O → (F t).length = t * (one + two) := fun t ht => by rw [hF]; exact joinD_len n1 n2 t ht
    have F0 : F 0 = [] := by rw [hF]; rfl
    have FS : ∀ t, F (t + 1) = F t ++ (piece a.data.xs (t * one) one ++ piece b.data.xs (t * two) two) := fun t => by rw [hF, hF, joinD_succ]
    have hFI : ∀ x ∈ F R, I64 x := fun x hx => by
      rw [hF] at hx
      exact (joinD_mem hx).elim (ha.dataI x) (hb.dataI x)
    rw [← hF]
    clear hR hF nA
    ((repeat' (first|refine zza ?_|refine zc9 ?_|refine zzb fun w hw => ?_|refine zzh fun _ => ?_|refine zzi fun _ _ => ?_|refine zu1 ?_|refine zu2 ?_|refine zu3 ?_|refine zu4 fun _ => ?_|refine zzj (fun _ => ?_) fun _ => ?_)); (repeat' (refine CW_seq ?_; (repeat' (first|refine zza ?_|refine zc9 ?_|refine zzb fun w hw => ?_|refine zzh fun _ => ?_|refine zzi fun _ _ => ?_|refine zu1 ?_|refine zu2 ?_|refine zu3 ?_|refine zu4 fun _ => ?_|refine zzj (fun _ => ?_) fun _ => ?_)))))
    refine CW_loopK [(0,_),(4,_),(5,_),(6,_),(11,_),(13,_),(15,_),(16,_),(17,_)] zcov (fun z : Nat × Option Addr × Nat => [(19, .int .i64 ((z.1 * one : Nat) : Int)), (20, .int .i64 ((z.1 * two : Nat) : Int))]) (fun z => [ro w [] G1, blk b15 27 #[.bool a.char, .slice x1p a.shape.xs.length x1c, .slice z.2.1 (F z.1).length z.2.2], own1 z.2 (F z.1), zB b6, boxB b4 a, boxB b5 b]) (fun z => z.1 ≤ R) (fun z => R - z.1) (0, some ⟨b2, 0, none⟩, A) (Nat.zero_le _) (Cov.cons (by rw [Nat.zero_mul]; rfl) rfl (Cov.cons (by rw [Nat.zero_mul]; rfl) rfl Cov.nil)) (by
      show Ent _ [ro w [] G1, blk b15 27 #[.bool a.char, .slice x1p a.shape.xs.length x1c, .slice (some ⟨b2, 0, none⟩) (F 0).length A], own1 ((some ⟨b2, 0, none⟩), A) (F 0), zB b6, boxB b4 a, boxB b5 b]
      rw [F0]
      exact zent) ?_
    rintro ⟨t, q, c⟩ ht
    dsimp only at ht ⊢
    by_cases htR : t < R
    · refine join_round w G1 a b ha hb x1p x1c a.shape.xs.length A k _ one two b4 b5 b6 b15 F t R q c htR ?_ ?_ h7a h7b (FS t) ?_ hA4 _
      · rw [← n1]; exact join_place (by omega)
      · rw [← n2]; exact join_place (by omega)
      · rw [hLen t (by omega)]; exact hRp t htR
    · obtain rfl : t = R := by omega
      have hDl := hLen t hRO
      rw [hRA] at hDl
      clear hRp hLen hRA FS n1 n2
      ((repeat' (first|refine zza ?_|refine zc9 ?_|refine zzb fun w hw => ?_|refine zzh fun _ => ?_|refine zzi fun _ _ => ?_|refine zu1 ?_|refine zu2 ?_|refine zu3 ?_|refine zu4 fun _ => ?_|refine zzj (fun _ => ?_) fun _ => ?_)); (repeat' (refine CW_seq ?_; (repeat' (first|refine zza ?_|refine zc9 ?_|refine zzb fun w hw => ?_|refine zzh fun _ => ?_|refine zzi fun _ _ => ?_|refine zu1 ?_|refine zu2 ?_|refine zu3 ?_|refine zu4 fun _ => ?_|refine zzj (fun _ => ?_) fun _ => ?_)))))
      refine EX_retK2 (b := b6) rfl rfl rfl rfl zpk rfl fun w' hw => ?_
      exact ResT.up g1 (ResT.mix (ch := a.char) (p := x1p) (q := q) (c := x1c) (k := c) hSl r1 (hw.ent (Ent.cons zpk (Ent.cons zpk Ent.nil))) hSI hFI)
end Go.Proofs.YtadlpfbjnpbnoaaGreatDoor
