/-
  ravelinref1.Fault, Cells, Flaw: what is wrong with an array.
-/
import Derived.Test.YtllgkdkjcbohcaaGreatDoorZRetC
import Derived.Test.YtllgkdkjcbohcaaGreatDoorZInst
import Derived.Test.YtllgkdkjcbohcaaGreatDoorZGo
namespace Go.Proofs.YtllgkdkjcbohcaaGreatDoor
open Go.RowKit
theorem drop_cons_getD {l : List Int} {k : Nat} (h : k < l.length) : l.drop k = l.getD k 0 :: l.drop (k + 1) := by
  rw [List.getD_eq_getElem?_getD, List.getElem?_eq_getElem h, List.drop_eq_getElem_cons h]; rfl
set_option maxHeartbeats 1000000 in
set_option maxRecDepth 100000 in
theorem ref_Fault (p : Option Addr) (c : Nat) (s : List Int) (w : World) (hs : IntsAt w p c s) :
    Calls Tryz.prog 116 #[.slice p s.length c] w fun e w' => e = .returned (.int .i64 (countF s).2) ∧ Below w.heap.size w w' := by
  have hm := len_max hs.le hs.max
  refine enter (args := [_]) (m := []) (F := []) Tryz.func116 rfl Tryz.ntmps116 (by simp) rfl ?_
  by_cases h6 : 6 < s.length
  · (repeat' (first|refine zza ?_|refine zc9 ?_|refine zzb fun w hw => ?_|refine zzh fun _ => ?_|refine zzi fun _ _ => ?_|refine zzj (fun _ => ?_) fun _ => ?_))
    exact ⟨by unfold countF; rw [if_pos h6], hw.below⟩
  (repeat' (first|refine zza ?_|refine zc9 ?_|refine zzb fun w hw => ?_|refine zzh fun _ => ?_|refine zzi fun _ _ => ?_|refine zzj (fun _ => ?_) fun _ => ?_))
  refine CW_loopP [(0,_)] zcov (fun x : Nat × Bool => [(4, .int .i64 x.1), (3, .bool x.2)]) (fun x => x.1 ≤ s.length ∧ badAxis (s.drop x.1) = badAxis s ∧ hasZero s = (x.2 || hasZero (s.drop x.1))) (fun x => s.length - x.1) (0, false) ⟨Nat.zero_le _, rfl, rfl⟩ zcov ?_
  rintro ⟨k, z⟩ ⟨hk, hb, hz⟩
  dsimp only at hk hb hz ⊢
  by_cases hlt : k < s.length
  · rw [drop_cons_getD hlt] at hb hz
    rw [badAxis] at hb
    rw [hasZero] at hz
    by_cases h1 : s.getD k 0 < 0
    · rw [if_pos h1] at hb
      (repeat' (first|refine zza ?_|refine zc9 ?_|refine zzb fun w hw => ?_|refine zzh fun _ => ?_|refine zzi fun _ _ => ?_|refine zzj (fun _ => ?_) fun _ => ?_))
      exact ⟨by unfold countF; rw [if_neg h6, ← hb]; simp, hw.below⟩
    by_cases h2 : 4096 < s.getD k 0
    · rw [if_neg h1, if_pos h2] at hb
      (repeat' (first|refine zza ?_|refine zc9 ?_|refine zzb fun w hw => ?_|refine zzh fun _ => ?_|refine zzi fun _ _ => ?_|refine zzj (fun _ => ?_) fun _ => ?_))
      exact ⟨by unfold countF; rw [if_neg h6, ← hb]; simp, hw.below⟩
    rw [if_neg h1, if_neg h2] at hb
    by_cases h3 : s.getD k 0 = 0
    · rw [if_pos h3] at hz
      (repeat' (first|refine zza ?_|refine zc9 ?_|refine zzb fun w hw => ?_|refine zzh fun _ => ?_|refine zzi fun _ _ => ?_|refine zzj (fun _ => ?_) fun _ => ?_))
      refine EX_loop' (k + 1, true) ⟨zcov, Ent.refl, by dsimp only; omega, by dsimp only; omega, by dsimp only; exact hb, by dsimp only; simpa using hz⟩
    · rw [if_neg h3] at hz
      (repeat' (first|refine zza ?_|refine zc9 ?_|refine zzb fun w hw => ?_|refine zzh fun _ => ?_|refine zzi fun _ _ => ?_|refine zzj (fun _ => ?_) fun _ => ?_))
      refine EX_loop' (k + 1, z) ⟨zcov, Ent.refl, by dsimp only; omega, by dsimp only; omega, by dsimp only; exact hb, by dsimp only; exact hz⟩
  · have hkl : k = s.length := by omega
    subst hkl
    rw [List.drop_length] at hb hz
    have hb0 : badAxis s = 0 := hb.symm
    have hz0 : hasZero s = z := by rw [hz]; simp [hasZero]
    cases z with
    | true =>
      (repeat' (first|refine zza ?_|refine zc9 ?_|refine zzb fun w hw => ?_|refine zzh fun _ => ?_|refine zzi fun _ _ => ?_|refine zzj (fun _ => ?_) fun _ => ?_))
      exact ⟨by unfold countF; rw [if_neg h6, if_neg (by rw [hb0]; simp), if_pos hz0], hw.below⟩
    | false =>
      have hin := badAxis_zero hb0
      have hne := hasZero_false hz0
      have hcf : countF s = prodF 1 s := by unfold countF; rw [if_neg h6, if_neg (by rw [hb0]; simp), if_neg (by rw [hz0]; simp)]
      (repeat' (first|refine zza ?_|refine zc9 ?_|refine zzb fun w hw => ?_|refine zzh fun _ => ?_|refine zzi fun _ _ => ?_|refine zzj (fun _ => ?_) fun _ => ?_))
      refine CW_loopP [(0,_)] zcov (fun x : Nat × Int => [(6, .int .i64 x.1), (5, .int .i64 (4096 / x.2))]) (fun x => x.1 ≤ s.length ∧ 1 ≤ x.2 ∧ x.2 ≤ 4096 ∧ prodF 1 s = prodF x.2 (s.drop x.1)) (fun x => s.length - x.1) (0, 1) ⟨Nat.zero_le _, by omega, by omega, rfl⟩ zcov ?_
      rintro ⟨k, a⟩ ⟨hk, ha1, ha2, hp⟩
      dsimp only at hk ha1 ha2 hp ⊢
      by_cases hlt : k < s.length
      · rw [drop_cons_getD hlt, prodF] at hp
        have hx := hin _ (List.mem_of_getElem? (getD_some hlt))
        have hx0 := hne _ (List.mem_of_getElem? (getD_some hlt))
        have hq : 0 ≤ 4096 / a ∧ 4096 / a ≤ 4096 := ⟨Int.ediv_nonneg (by omega) (by omega), Int.ediv_le_self _ (by omega)⟩
        have hqq : 4096 / a / s.getD k 0 = 4096 / (a * s.getD k 0) := by rw [Int.ediv_ediv, if_neg (fun h => by omega), Int.sub_zero]
        have hax : 1 ≤ a * s.getD k 0 := Int.mul_pos (by omega) (by omega)
        by_cases hf : 4096 < a * s.getD k 0
        · rw [if_pos hf] at hp
          have h0 : 4096 / a / s.getD k 0 = 0 := by rw [hqq]; exact Int.ediv_eq_zero_of_lt (by omega) hf
          (repeat' (first|refine zza ?_|refine zc9 ?_|refine zzb fun w hw => ?_|refine zzh fun _ => ?_|refine zzi fun _ _ => ?_|refine zzj (fun _ => ?_) fun _ => ?_))
          exact ⟨by rw [hcf, hp], hw.below⟩
        · rw [if_neg hf] at hp
          have h0 : ¬ 4096 / a / s.getD k 0 = 0 := by
            rw [hqq]
            intro h
            have := Int.le_ediv_of_mul_le (c := a * s.getD k 0) (a := 1) (b := 4096) (by omega) (by omega)
            omega
          (repeat' (first|refine zza ?_|refine zc9 ?_|refine zzb fun w hw => ?_|refine zzh fun _ => ?_|refine zzi fun _ _ => ?_|refine zzj (fun _ => ?_) fun _ => ?_))
          refine EX_loop' (k + 1, a * s.getD k 0) ⟨?_, Ent.refl, by dsimp only; omega, by dsimp only; omega, by dsimp only; omega, by dsimp only; omega, by dsimp only; exact hp⟩
          dsimp only
          rw [← hqq]
          exact zcov
      · have hkl : k = s.length := by omega
        subst hkl
        rw [List.drop_length, prodF] at hp
        (repeat' (first|refine zza ?_|refine zc9 ?_|refine zzb fun w hw => ?_|refine zzh fun _ => ?_|refine zzi fun _ _ => ?_|refine zzj (fun _ => ?_) fun _ => ?_))
        exact ⟨by rw [hcf, hp], hw.below⟩
set_option maxRecDepth 100000 in
theorem ref_Cells (p : Option Addr) (c : Nat) (s : List Int) (w : World) (hs : IntsAt w p c s) (he : (countF s).2 = 0) :
    Calls Tryz.prog 117 #[.slice p s.length c] w fun e w' => e = .returned (.int .i64 (countF s).1) ∧ Below w.heap.size w w' := by
  have hm := len_max hs.le hs.max
  have h6 : ¬ 6 < s.length := fun h => by unfold countF at he; rw [if_pos h] at he; cases he
  have hb0 : badAxis s = 0 := by
    unfold countF at he
    rw [if_neg h6] at he
    by_cases hb : badAxis s = 0
    · exact hb
    · rw [if_pos hb] at he; exact he
  have hcz : hasZero s = true → (countF s).1 = 0 := fun h => by unfold countF; rw [if_neg h6, if_neg (by rw [hb0]; simp), if_pos h]
  have hcp : hasZero s = false → countF s = prodF 1 s := fun h => by unfold countF; rw [if_neg h6, if_neg (by rw [hb0]; simp), if_neg (by rw [h]; simp)]
  refine enter (args := [_]) (m := []) (F := []) Tryz.func117 rfl Tryz.ntmps117 (by simp) rfl ?_
  (repeat' (first|refine zza ?_|refine zc9 ?_|refine zzb fun w hw => ?_|refine zzh fun _ => ?_|refine zzi fun _ _ => ?_|refine zzj (fun _ => ?_) fun _ => ?_))
  refine CW_loopP [(0,_),(3,_)] zcov (fun x : Nat => [(4, .int .i64 x)]) (fun x => x ≤ s.length ∧ hasZero s = hasZero (s.drop x)) (fun x => s.length - x) 0 ⟨Nat.zero_le _, rfl⟩ zcov ?_
  rintro k ⟨hk, hz⟩
  by_cases hlt : k < s.length
  · rw [drop_cons_getD hlt, hasZero] at hz
    by_cases h3 : s.getD k 0 = 0
    · rw [if_pos h3] at hz
      (repeat' (first|refine zza ?_|refine zc9 ?_|refine zzb fun w hw => ?_|refine zzh fun _ => ?_|refine zzi fun _ _ => ?_|refine zzj (fun _ => ?_) fun _ => ?_))
      exact ⟨by rw [hcz hz], hw.below⟩
    · rw [if_neg h3] at hz
      (repeat' (first|refine zza ?_|refine zc9 ?_|refine zzb fun w hw => ?_|refine zzh fun _ => ?_|refine zzi fun _ _ => ?_|refine zzj (fun _ => ?_) fun _ => ?_))
      (refine EX_loop' (k + 1) ?_; (repeat' (first | exact Cov.nil | exact Ent.refl | (apply And.intro) | (apply Cov.cons; rfl) | exact Ent.nil | refine zn1 ?_ | trivial | rfl | assumption | omega | (congr 1; omega))))
  · have hkl : k = s.length := by omega
    subst hkl
    rw [List.drop_length, hasZero] at hz
    have hin := badAxis_zero hb0
    have hne := hasZero_false hz
    have hcf := hcp hz
    (repeat' (first|refine zza ?_|refine zc9 ?_|refine zzb fun w hw => ?_|refine zzh fun _ => ?_|refine zzi fun _ _ => ?_|refine zzj (fun _ => ?_) fun _ => ?_))
    refine CW_loopP [(0,_)] zcov (fun x : Nat × Int => [(5, .int .i64 x.1), (3, .int .i64 x.2)]) (fun x => x.1 ≤ s.length ∧ 1 ≤ x.2 ∧ x.2 ≤ 4096 ∧ prodF 1 s = prodF x.2 (s.drop x.1)) (fun x => s.length - x.1) (0, 1) ⟨Nat.zero_le _, by omega, by omega, rfl⟩ zcov ?_
    rintro ⟨k, a⟩ ⟨hk, ha1, ha2, hp⟩
    dsimp only at hk ha1 ha2 hp ⊢
    by_cases hlt : k < s.length
    · rw [drop_cons_getD hlt, prodF] at hp
      have hx := hin _ (List.mem_of_getElem? (getD_some hlt))
      have hx0 := hne _ (List.mem_of_getElem? (getD_some hlt))
      have hax : 1 ≤ a * s.getD k 0 := Int.mul_pos (by omega) (by omega)
      have hf : ¬ 4096 < a * s.getD k 0 := fun hf => by
        rw [if_pos hf] at hp
        rw [hcf, hp] at he
        cases he
      rw [if_neg hf] at hp
      have k1 : I64 (a * s.getD k 0) := by unfold I64; omega
      (repeat' (first|refine zza ?_|refine zc9 ?_|refine zzb fun w hw => ?_|refine zzh fun _ => ?_|refine zzi fun _ _ => ?_|refine zzj (fun _ => ?_) fun _ => ?_))
      refine EX_loop' (k + 1, a * s.getD k 0) ⟨zcov, Ent.refl, by dsimp only; omega, by dsimp only; omega, by dsimp only; omega, by dsimp only; omega, by dsimp only; exact hp⟩
    · have hkl : k = s.length := by omega
      subst hkl
      rw [List.drop_length, prodF] at hp
      (repeat' (first|refine zza ?_|refine zc9 ?_|refine zzb fun w hw => ?_|refine zzh fun _ => ?_|refine zzi fun _ _ => ?_|refine zzj (fun _ => ?_) fun _ => ?_))
      exact ⟨by rw [hcf, hp], hw.below⟩
set_option maxHeartbeats 1000000 in
set_option maxRecDepth 100000 in
theorem ref_Flaw (ch : Bool) (p q : Option Addr) (c1 c2 : Nat) (s d : List Int) (w : World) (hs : IntsAt w p c1 s) (hd : IntsAt w q c2 d) :
    Calls Tryz.prog 63 #[.agg #[.bool ch, .slice p s.length c1, .slice q d.length c2]] w fun e w' => e = .returned (.int .i64 (checkF ch s d)) ∧ Below w.heap.size w w' := by
  have hm1 := len_max hs.le hs.max
  have hm2 := len_max hd.le hd.max
  refine enter (args := [_]) (m := []) (F := []) Tryz.func63 rfl Tryz.ntmps63 (by simp) rfl ?_
  (repeat' (first|refine zza ?_|refine zc9 ?_|refine zzb fun w hw => ?_|refine zzh fun _ => ?_|refine zzi fun _ _ => ?_|refine zzj (fun _ => ?_) fun _ => ?_))
  (apply WL_callV; rfl; rfl; rfl; (intro W hW; exact ref_Fault p c1 s W (hs.below hW.below)))
  by_cases he : (countF s).2 = 0
  · (repeat' (first|refine zza ?_|refine zc9 ?_|refine zzb fun w hw => ?_|refine zzh fun _ => ?_|refine zzi fun _ _ => ?_|refine zzj (fun _ => ?_) fun _ => ?_))
    (apply WQ_callV; rfl; rfl; rfl; (intro W hW; exact ref_Cells p c1 s W (hs.below hW.below) he))
    by_cases hl : (d.length : Int) = (countF s).1
    · cases ch with
      | false =>
        (repeat' (first|refine zza ?_|refine zc9 ?_|refine zzb fun w hw => ?_|refine zzh fun _ => ?_|refine zzi fun _ _ => ?_|refine zzj (fun _ => ?_) fun _ => ?_))
        exact ⟨by unfold checkF; rw [if_neg (by rw [he]; simp), if_neg (by rw [hl]; simp), if_neg (by simp)], hw.below⟩
      | true =>
        have hc : checkF true s d = if charsOk d = false then 6 else 0 := by unfold checkF; rw [if_neg (by rw [he]; simp), if_neg (by rw [hl]; simp)]; simp
        (repeat' (first|refine zza ?_|refine zc9 ?_|refine zzb fun w hw => ?_|refine zzh fun _ => ?_|refine zzi fun _ _ => ?_|refine zzj (fun _ => ?_) fun _ => ?_))
        rename_i b
        refine CW_loopP [(1,_)] zcov (fun x : Nat => [(4, .int .i64 x)]) (fun x => x ≤ d.length ∧ charsOk d = charsOk (d.drop x)) (fun x => d.length - x) 0 ⟨Nat.zero_le _, rfl⟩ zcov ?_
        rintro k ⟨hk, hz⟩
        by_cases hlt : k < d.length
        · rw [drop_cons_getD hlt, charsOk] at hz
          by_cases g1 : d.getD k 0 < 0
          · rw [if_pos g1] at hz
            (repeat' (first|refine zza ?_|refine zc9 ?_|refine zzb fun w hw => ?_|refine zzh fun _ => ?_|refine zzi fun _ _ => ?_|refine zzj (fun _ => ?_) fun _ => ?_))
            all_goals exact ⟨by rw [hc, if_pos hz], hw.below⟩
          by_cases g2 : 1114111 < d.getD k 0
          · rw [if_neg g1, if_pos g2] at hz
            (repeat' (first|refine zza ?_|refine zc9 ?_|refine zzb fun w hw => ?_|refine zzh fun _ => ?_|refine zzi fun _ _ => ?_|refine zzj (fun _ => ?_) fun _ => ?_))
            all_goals exact ⟨by rw [hc, if_pos hz], hw.below⟩
          by_cases g3 : 55296 ≤ d.getD k 0
          · by_cases g4 : d.getD k 0 ≤ 57343
            · rw [if_neg g1, if_neg g2, if_pos ⟨g3, g4⟩] at hz
              (repeat' (first|refine zza ?_|refine zc9 ?_|refine zzb fun w hw => ?_|refine zzh fun _ => ?_|refine zzi fun _ _ => ?_|refine zzj (fun _ => ?_) fun _ => ?_))
              all_goals exact ⟨by rw [hc, if_pos hz], hw.below⟩
            · rw [if_neg g1, if_neg g2, if_neg (fun h => g4 h.2)] at hz
              (repeat' (first|refine zza ?_|refine zc9 ?_|refine zzb fun w hw => ?_|refine zzh fun _ => ?_|refine zzi fun _ _ => ?_|refine zzj (fun _ => ?_) fun _ => ?_))
              (refine EX_loop' (k + 1) ?_; (repeat' (first | exact Cov.nil | exact Ent.refl | (apply And.intro) | (apply Cov.cons; rfl) | exact Ent.nil | refine zn1 ?_ | trivial | rfl | assumption | omega | (congr 1; omega))))
          · rw [if_neg g1, if_neg g2, if_neg (fun h => g3 h.1)] at hz
            (repeat' (first|refine zza ?_|refine zc9 ?_|refine zzb fun w hw => ?_|refine zzh fun _ => ?_|refine zzi fun _ _ => ?_|refine zzj (fun _ => ?_) fun _ => ?_))
            (refine EX_loop' (k + 1) ?_; (repeat' (first | exact Cov.nil | exact Ent.refl | (apply And.intro) | (apply Cov.cons; rfl) | exact Ent.nil | refine zn1 ?_ | trivial | rfl | assumption | omega | (congr 1; omega))))
        · have hkl : k = d.length := by omega
          subst hkl
          rw [List.drop_length, charsOk] at hz
          (repeat' (first|refine zza ?_|refine zc9 ?_|refine zzb fun w hw => ?_|refine zzh fun _ => ?_|refine zzi fun _ _ => ?_|refine zzj (fun _ => ?_) fun _ => ?_))
          exact ⟨by rw [hc, if_neg (by rw [hz]; simp)], hw.below⟩
    · (repeat' (first|refine zza ?_|refine zc9 ?_|refine zzb fun w hw => ?_|refine zzh fun _ => ?_|refine zzi fun _ _ => ?_|refine zzj (fun _ => ?_) fun _ => ?_))
      exact ⟨by unfold checkF; rw [if_neg (by rw [he]; simp), if_pos hl], hw.below⟩
  · (repeat' (first|refine zza ?_|refine zc9 ?_|refine zzb fun w hw => ?_|refine zzh fun _ => ?_|refine zzi fun _ _ => ?_|refine zzj (fun _ => ?_) fun _ => ?_))
    exact ⟨by unfold checkF; rw [if_pos he], hw.below⟩
end Go.Proofs.YtllgkdkjcbohcaaGreatDoor
