/-
  The package each: what is done cell by cell.
-/
import Derived.Test.YtllgkdkjcbohcaaGreatDoorZGo
import Derived.Test.YtllgkdkjcbohcaaGreatDoorZArrL
namespace Go.Proofs.YtllgkdkjcbohcaaGreatDoor
open Go.RowKit
/-- the first error among the first so many; 0: none -/
def fillE (T : Nat → Int × Int) : Nat → Int
  | 0 => 0
  | n + 1 => if fillE T n = 0 then (T n).2 else fillE T n
/-- an array whose cells are told one by one -/
def fillF (s : List Int) (n : Nat) (T : Nat → Int × Int) : Int × Arr := if fillE T n = 0 then (0, ⟨false, s, (List.range n).map fun i => (T i).1⟩) else (fillE T n, zeroA)
def fillD (T : Nat → Int × Int) (n i : Nat) : List Int := (List.range i).map (fun i => (T i).1) ++ List.replicate (n - i) 0
theorem fillD_set {T : Nat → Int × Int} {n i : Nat} (h : i < n) : (fillD T n i).set i (T i).1 = fillD T n (i + 1) := by
  unfold fillD
  obtain ⟨k, hk⟩ : ∃ k, n - i = k + 1 := ⟨n - i - 1, by omega⟩
  rw [hk, show n - (i + 1) = k by omega, List.replicate_succ, List.set_append_right _ _ (by simp), List.length_map, List.length_range, Nat.sub_self, List.set_cons_zero, List.range_succ, List.map_append]
  simp
theorem fillE_lt {T : Nat → Int × Int} {i n : Nat} (h : i < n) (h0 : fillE T i = 0) (h1 : (T i).2 ≠ 0) : fillE T n = (T i).2 := by
  induction n with
  | zero => omega
  | succ n ih =>
    rw [fillE]
    by_cases hi : i = n
    · subst hi
      rw [if_pos h0]
    · rw [ih (by omega), if_neg h1]
set_option maxHeartbeats 8000000 in
set_option maxRecDepth 100000 in
theorem each_filled (f : FuncId) [FnT Tryz.prog f] (cap : List Value) (s : SlV Int) (n : Nat) (T : Nat → Int × Int) (G : Rd) (w : World) (hS : Rd.sub G [] w) (hs : Row encI 1 G s.p s.c s.xs) (hsI : ∀ x ∈ s.xs, I64 x) (hsl : s.xs.length ≤ 4294967280) (hn : n ≤ 1048576)
    (hT : ∀ i, i < n → ∀ W, Rd.le G W.cell? → Calls Tryz.prog f ([Value.int .i64 (i : Int)] ++ cap).toArray W fun e w' => e = .returned (twoV (T i)) ∧ Below W.heap.size W w') (hTI : ∀ i, i < n → I64 (T i).1) :
    Calls Tryz.prog 209 #[.slice s.p s.xs.length s.c, .int .i64 (n : Int), .func (.func f) #[] cap.toArray] w (ResT (fillF s.xs n T) G w) := by
  refine enterR (args := [_, _, _]) (m := []) (F := []) hS rfl Tryz.func209 rfl Tryz.ntmps209 (by simp) ?_
  clear hS
  (repeat' (first|refine zza ?_|refine zzb fun w hw => ?_|refine zzh fun _ => ?_|refine zzi fun _ _ => ?_|refine zzj (fun _ => ?_) fun _ => ?_))
  rename_i b6
  refine CW_par 6 [0, 2] [1, 3, 4, 5] [ro w [] G] (pm := [blk b6 43 #[.bool false, .slice none 0 0, .slice none 0 0]]) Ent.refl (by kernel_rfl) (by decide +kernel) ?_
  (refine WP_op rfl rfl rfl zyi ?_)
  (refine WP_op rfl rfl rfl zyi ?_)
  refine WP_par (fun ρ m => ∃ (z : ((Option Addr × Nat) × Nat) × Nat), (ρ.find 16 = some (.agg #[.bool false, .slice z.1.1.1 s.xs.length z.1.1.2, .slice (some ⟨z.1.2, 0, none⟩) n n]) ∧ ρ.find 8 = some (.pointer (some ⟨z.2, 0, none⟩)) ∧ ρ.find 2 = some (.func (.func f) #[] cap.toArray) ∧ ρ.find 6 = some (.pointer (some ⟨b6, 0, none⟩))) ∧ m = ([sl 3 1 z.1.1.1 s.xs.length z.1.1.2 (s.xs.map (Value.int .i64))] ++ [sl 3 1 (some ⟨z.1.2, 0, none⟩) n n ((List.replicate n (0 : Int)).map (Value.int .i64))]) ++ [blk z.2 43 #[.bool false, .slice none 0 0, .slice none 0 0], blk b6 43 #[.bool false, .slice none 0 0, .slice none 0 0]]) (m1 := [blk b6 43 #[.bool false, .slice none 0 0, .slice none 0 0]]) Ent.refl (by decide +kernel) ?_ ?_
  · rintro ρ m ⟨⟨⟨⟨q, c⟩, bd⟩, b8⟩, ⟨f1, f2, f3, f4⟩, rfl⟩
    dsimp only at f1 f2 ⊢
    refine WL_cov (ρ' := [(16, .agg #[.bool false, .slice q s.xs.length c, .slice (some ⟨bd, 0, none⟩) n n]), (8, .pointer (some ⟨b8, 0, none⟩)), (2, .func (.func f) #[] cap.toArray), (6, .pointer (some ⟨b6, 0, none⟩))]) (Cov.cons f1 rfl (Cov.cons f2 rfl (Cov.cons f3 rfl (Cov.cons f4 rfl Cov.nil)))) ?_
    refine zza ?_
    refine WL_ent (m' := [blk b8 43 #[.bool false, .slice q s.xs.length c, .slice (some ⟨bd, 0, none⟩) n n], sl 3 1 q s.xs.length c (s.xs.map (Value.int .i64)), sl 3 1 (some ⟨bd, 0, none⟩) n n ((List.replicate n (0 : Int)).map (Value.int .i64)), blk b6 43 #[.bool false, .slice none 0 0, .slice none 0 0], ro w [] G]) (Ent.consK (k := (Ent.cons zpk (Ent.cons zpk (Ent.cons zpk (Ent.cons zpk Ent.nil))))) zpk) ?_
    clear f1 f2 f3 f4 ρ
    ((repeat' (first|refine zza ?_|refine zc9 ?_|refine zzb fun w hw => ?_|refine zzh fun _ => ?_|refine zzi fun _ _ => ?_|refine zu1 ?_|refine zu2 ?_|refine zu3 ?_|refine zu4 fun _ => ?_|refine zzj (fun _ => ?_) fun _ => ?_)); (repeat' (refine CW_seq ?_; (repeat' (first|refine zza ?_|refine zc9 ?_|refine zzb fun w hw => ?_|refine zzh fun _ => ?_|refine zzi fun _ _ => ?_|refine zu1 ?_|refine zu2 ?_|refine zu3 ?_|refine zu4 fun _ => ?_|refine zzj (fun _ => ?_) fun _ => ?_)))))
    refine CW_loopK [(19,_),(2,_),(6,_),(8,_)] zcov (fun i : Nat => [(20, .int .i64 (i : Int))]) (fun i => [blk b8 43 #[.bool false, .slice q s.xs.length c, .slice (some ⟨bd, 0, none⟩) n n], sl 3 1 q s.xs.length c (s.xs.map (Value.int .i64)), sl 3 1 (some ⟨bd, 0, none⟩) n n ((fillD T n i).map (Value.int .i64)), blk b6 43 #[.bool false, .slice none 0 0, .slice none 0 0], ro w [] G]) (fun i => i ≤ n ∧ fillE T i = 0) (fun i => n - i) 0 ⟨Nat.zero_le _, rfl⟩ zcov (by
      have e : fillD T n 0 = List.replicate n 0 := by simp [fillD]
      rw [e]
      exact zent) ?_
    rintro i ⟨hi, he⟩
    by_cases hlt : i < n
    · have hTi := hT i hlt
      have hTI' := hTI i hlt
      have hset := fillD_set (T := T) hlt
      obtain ⟨v, e, hve⟩ : ∃ v e, T i = (v, e) := ⟨_, _, rfl⟩
      rw [hve] at hTi hset hTI'
      dsimp only at hset hTI'
      by_cases h0 : e = 0
      · subst h0
        rw [show twoV (v, 0) = .tuple #[.int .i64 v, .nilIface] by unfold twoV; rw [errV_zero]] at hTi
        have he1 : fillE T (i + 1) = 0 := by rw [fillE, if_pos he, hve]
        have hdl : ((fillD T n i).map (Value.int .i64)).length = n := by simp [fillD]; omega
        obtain ⟨D, hD⟩ : ∃ D, D = fillD T n i := ⟨_, rfl⟩
        rw [← hD] at hdl hset ⊢
        clear hT hTI
        ((repeat' (first|refine zza ?_|refine zc9 ?_|refine zzb fun w hw => ?_|refine zzh fun _ => ?_|refine zzi fun _ _ => ?_|refine zu1 ?_|refine zu2 ?_|refine zu3 ?_|refine zu4 fun _ => ?_|refine zzj (fun _ => ?_) fun _ => ?_)); (repeat' (refine CW_seq ?_; (repeat' (first|refine zza ?_|refine zc9 ?_|refine zzb fun w hw => ?_|refine zzh fun _ => ?_|refine zzi fun _ _ => ?_|refine zu1 ?_|refine zu2 ?_|refine zu3 ?_|refine zu4 fun _ => ?_|refine zzj (fun _ => ?_) fun _ => ?_)))))
        refine WL_callY rfl rfl rfl rfl (fun W hW => hTi W (hW.le zpk)) ?_
        clear hTi
        ((repeat' (first|refine zza ?_|refine zc9 ?_|refine zzb fun w hw => ?_|refine zzh fun _ => ?_|refine zzi fun _ _ => ?_|refine zu1 ?_|refine zu2 ?_|refine zu3 ?_|refine zu4 fun _ => ?_|refine zzj (fun _ => ?_) fun _ => ?_)); (repeat' (refine CW_seq ?_; (repeat' (first|refine zza ?_|refine zc9 ?_|refine zzb fun w hw => ?_|refine zzh fun _ => ?_|refine zzi fun _ _ => ?_|refine zu1 ?_|refine zu2 ?_|refine zu3 ?_|refine zu4 fun _ => ?_|refine zzj (fun _ => ?_) fun _ => ?_)))))
        refine EX_loop' (i + 1) ⟨zcov, ?_, by omega, by omega, he1⟩
        rw [← hset, List.map_set]
        exact zent
      · rw [show twoV (v, e) = .tuple #[.int .i64 v, .iface 49 (.int .i64 e)] by unfold twoV; rw [errV_ne h0]] at hTi
        have hF : fillF s.xs n T = (e, zeroA) := by
          have := fillE_lt hlt he (by rw [hve]; exact h0)
          rw [hve] at this
          unfold fillF
          rw [this, if_neg h0]
        rw [hF]
        clear hT hTI hset hF
        ((repeat' (first|refine zza ?_|refine zc9 ?_|refine zzb fun w hw => ?_|refine zzh fun _ => ?_|refine zzi fun _ _ => ?_|refine zu1 ?_|refine zu2 ?_|refine zu3 ?_|refine zu4 fun _ => ?_|refine zzj (fun _ => ?_) fun _ => ?_)); (repeat' (refine CW_seq ?_; (repeat' (first|refine zza ?_|refine zc9 ?_|refine zzb fun w hw => ?_|refine zzh fun _ => ?_|refine zzi fun _ _ => ?_|refine zu1 ?_|refine zu2 ?_|refine zu3 ?_|refine zu4 fun _ => ?_|refine zzj (fun _ => ?_) fun _ => ?_)))))
        refine WL_callY rfl rfl rfl rfl (fun W hW => hTi W (hW.le zpk)) ?_
        clear hTi
        ((repeat' (first|refine zza ?_|refine zc9 ?_|refine zzb fun w hw => ?_|refine zzh fun _ => ?_|refine zzi fun _ _ => ?_|refine zu1 ?_|refine zu2 ?_|refine zu3 ?_|refine zu4 fun _ => ?_|refine zzj (fun _ => ?_) fun _ => ?_)); (repeat' (refine CW_seq ?_; (repeat' (first|refine zza ?_|refine zc9 ?_|refine zzb fun w hw => ?_|refine zzh fun _ => ?_|refine zzi fun _ _ => ?_|refine zu1 ?_|refine zu2 ?_|refine zu3 ?_|refine zu4 fun _ => ?_|refine zzj (fun _ => ?_) fun _ => ?_)))))
        refine EX_retK2 (b := b6) rfl rfl rfl rfl zpk rfl fun w' hw => ?_
        exact ResT.err h0 (hw.ent (Ent.cons zpk Ent.nil))
    · obtain rfl : i = n := by omega
      have hF : fillF s.xs i T = (0, ⟨false, s.xs, (List.range i).map fun i => (T i).1⟩) := by
        unfold fillF
        rw [if_pos he]
      have hD : fillD T i i = (List.range i).map fun i => (T i).1 := by simp [fillD]
      rw [hF, hD]
      have hI : ∀ x ∈ (List.range i).map (fun i => (T i).1), I64 x := fun x hx => by
        obtain ⟨j, hj, rfl⟩ := List.mem_map.1 hx
        exact hTI j (List.mem_range.1 hj)
      have hl : ((List.range i).map fun i => (T i).1).length = i := by simp
      generalize (List.range i).map (fun i => (T i).1) = D at hI hl ⊢
      clear hT hTI hF hD
      ((repeat' (first|refine zza ?_|refine zc9 ?_|refine zzb fun w hw => ?_|refine zzh fun _ => ?_|refine zzi fun _ _ => ?_|refine zu1 ?_|refine zu2 ?_|refine zu3 ?_|refine zu4 fun _ => ?_|refine zzj (fun _ => ?_) fun _ => ?_)); (repeat' (refine CW_seq ?_; (repeat' (first|refine zza ?_|refine zc9 ?_|refine zzb fun w hw => ?_|refine zzh fun _ => ?_|refine zzi fun _ _ => ?_|refine zu1 ?_|refine zu2 ?_|refine zu3 ?_|refine zu4 fun _ => ?_|refine zzj (fun _ => ?_) fun _ => ?_)))))
      refine EX_retK2 (b := b6) rfl rfl rfl rfl zpk rfl fun w' hw => ?_
      exact ResT.own (hw.ent (Ent.cons zpk (Ent.cons zpk (Ent.cons zpk Ent.nil)))) rfl hl rfl hsI hI
  · refine Pr_par (S1 := [1, 3, 4]) (S2 := [5]) (p1 := fun ρ m => ∃ (z : (Option Addr × Nat) × Nat), ρ.find 16 = some (.agg #[.bool false, .slice z.1.1 s.xs.length z.1.2, .slice (some ⟨z.2, 0, none⟩) n n]) ∧ m = [sl 3 1 z.1.1 s.xs.length z.1.2 (s.xs.map (Value.int .i64))] ++ [sl 3 1 (some ⟨z.2, 0, none⟩) n n ((List.replicate n (0 : Int)).map (Value.int .i64))])
      (p2 := fun ρ m => ∃ b : Nat, (ρ.find 8 = some (.pointer (some ⟨b, 0, none⟩)) ∧ ρ.find 2 = some (.func (.func f) #[] cap.toArray) ∧ ρ.find 6 = some (.pointer (some ⟨b6, 0, none⟩))) ∧ m = [blk b 43 #[.bool false, .slice none 0 0, .slice none 0 0], blk b6 43 #[.bool false, .slice none 0 0, .slice none 0 0]]) (by decide +kernel) (by decide +kernel) (by decide +kernel) (by decide +kernel) (fun ρ ρ1 ρ2 m1 m2 c1 c2 h1 h2 => ?_) 4 3 1 _ _ _ _ _ _ [] [blk b6 43 #[.bool false, .slice none 0 0, .slice none 0 0]] rfl (fun _ _ => rfl) (fun _ _ => rfl) (fun _ _ h => h) (fun _ _ h => h) (by kernel_rfl) (by kernel_rfl) ?_ ?_
    · obtain ⟨z, a1, rfl⟩ := h1
      obtain ⟨b, ⟨b1, b2, b3⟩, rfl⟩ := h2
      exact ⟨(z, b), ⟨c1 _ _ a1, c2 _ _ b1, c2 _ _ b2, c2 _ _ b3⟩, rfl⟩
    · refine Pr_seq (S1 := [1, 3]) (S2 := [4]) (D0 := [0, 2]) (mid := fun ρ m => ∃ (z : (Option Addr × Nat) × Nat), (ρ.find 13 = some (.slice z.1.1 s.xs.length z.1.2) ∧ ρ.find 15 = some (.slice (some ⟨z.2, 0, none⟩) n n)) ∧ m = [sl 3 1 z.1.1 s.xs.length z.1.2 (s.xs.map (Value.int .i64))] ++ [sl 3 1 (some ⟨z.2, 0, none⟩) n n ((List.replicate n (0 : Int)).map (Value.int .i64))]) (by decide +kernel) (f2 := 1) ?_ 2 [] _ _ (by simp) rfl ?_
      · rintro ρ m ⟨z, ⟨a1, a2⟩, rfl⟩
        refine Pr_cov (fun ρ ρ' m hc h => ?_) _ _ _ [(13, .slice z.1.1 s.xs.length z.1.2), (15, .slice (some ⟨z.2, 0, none⟩) n n)] _ (Cov.cons a1 rfl (Cov.cons a2 rfl Cov.nil)) ?_
        · obtain ⟨z, h1, h2⟩ := h
          exact ⟨z, hc _ _ h1, h2⟩
        · refine Pr_one 4 (by decide +kernel) ?_
          refine Stp_op rfl rfl (y_build rfl rfl) ?_
          exact Pr_end (by decide +kernel) ⟨z, rfl, rfl⟩
      · refine Pr_par (S1 := [1]) (S2 := [3]) (p1 := fun ρ m => ∃ x : Option Addr × Nat, ρ.find 13 = some (.slice x.1 s.xs.length x.2) ∧ m = [sl 3 1 x.1 s.xs.length x.2 (s.xs.map (Value.int .i64))])
          (p2 := fun ρ m => ∃ b : Nat, ρ.find 15 = some (.slice (some ⟨b, 0, none⟩) n n) ∧ m = [sl 3 1 (some ⟨b, 0, none⟩) n n ((List.replicate n (0 : Int)).map (Value.int .i64))]) (by decide +kernel) (by decide +kernel) (by decide +kernel) (by decide +kernel) (fun ρ ρ1 ρ2 m1 m2 c1 c2 h1 h2 => ?_) 2 1 1 _ _ _ _ _ _ [] [] rfl (fun _ _ => rfl) (fun _ _ => rfl) (fun _ _ h => h) (fun _ _ h => h) (by kernel_rfl) (by kernel_rfl) ?_ ?_
        · obtain ⟨x, a1, rfl⟩ := h1
          obtain ⟨b, b1, rfl⟩ := h2
          exact ⟨(x, b), ⟨c1 _ _ a1, c2 _ _ b1⟩, rfl⟩
        · refine Pr_one 1 (by decide +kernel) ?_
          refine Stp_callX .here rfl rfl rfl (fun W hl => ints_Clone s.p s.c s.xs G W hs hsl hl) ?_
          rintro x _
          exact Pr_end (by decide +kernel) ⟨x, rfl, rfl⟩
        · refine Pr_one 3 (by decide +kernel) ?_
          refine Stp_makeI rfl rfl rfl (by omega) (by omega) rfl fun b => ?_
          exact Pr_end (by decide +kernel) ⟨b, rfl, rfl⟩
    · refine Pr_one 5 (by decide +kernel) ?_
      refine Stp_alloc rfl rfl fun b => ?_
      exact Pr_end (by decide +kernel) ⟨b, ⟨rfl, rfl, rfl⟩, rfl⟩
end Go.Proofs.YtllgkdkjcbohcaaGreatDoor
