/-
  ravelinref3: acted: the words of a function.
-/
import Derived.Test.YtanbifmcnkhdhaaGreatDoorGo
import Derived.Test.YtanbifmcnkhdhaaGreatDoorRefWord1
namespace Go.Proofs.YtanbifmcnkhdhaaGreatDoor
open Go.RowKit

noncomputable abbrev acode : Code := (Tryz.f62.body).getD .skip
abbrev acB (b : Nat) (aop af ag : Int) : HP := blk b 32 #[.int .i64 aop, .int .i64 af, .int .i64 ag]
set_option maxHeartbeats 8000000 in
set_option maxRecDepth 100000 in
theorem acted_plain (p : Option Addr) (c : Nat) (L : List NodM) (k : Nat) (G : Rd) (W : World) (op aop af ag n : Int) (nums : SlV Int) (text : List UInt8) (h6 : aop ≠ 6) (b4 b8 : Nat) (us : List Tok) (hus : us = funT ⟨op, aop, af, ag, n, nums.xs, text⟩ []) :
    CW Tryz.prog ⟨111, [], W, []⟩ (QBody Tryz.prog Tryz.f62 (Tells (wrdV us k) (TokR us) G W)) (cP [1, 1] acode) [(0, .slice p L.length c), (2, .int .i64 (k : Nat)), (4, .pointer (some ⟨b4, 0, none⟩)), (8, .pointer (some ⟨b8, 0, none⟩)), (6, .slice none 0 0), (7, .int .i64 0)]
      [ndB b4 op aop af ag n nums text, acB b8 aop af ag, ro W [] G] := by
  conv =>
    pattern cP _ _
    whnf
  unfold funT at hus
  dsimp only at hus
  rw [if_neg h6] at hus
  refine CW_seq ?_
  refine zza ?_
  refine zza ?_
  refine zza ?_
  refine zza ?_
  refine zzh fun b9 => ?_
  refine WL_row (enc := tokE) (sz := 5) (r := [ndB b4 op aop af ag n nums text, acB b8 aop af ag]) (xs := [tokG af]) (fun _ => rfl) (by decide) rfl (Ent.cons (.there (.there (.there .here))) (Ent.blkSlN (n := 1) (sz := 5) (xs := [tokG af].flatMap tokE) .here (by kernel_rfl) rfl (by decide) (Ent.cons .here (Ent.cons .here Ent.nil)))) ?_
  intro G1 g1 hf
  by_cases h7 : aop = 7
  · rw [if_neg (by omega), if_pos h7] at hus
    subst hus
    ((repeat' (first|refine zza ?_|refine zc9 ?_|refine zzb fun w hw => ?_|refine zzh fun _ => ?_|refine zzi fun _ _ => ?_|refine zzj (fun _ => ?_) fun _ => ?_)); (repeat' (refine CW_seq ?_; (repeat' (first|refine zza ?_|refine zc9 ?_|refine zzb fun w hw => ?_|refine zzh fun _ => ?_|refine zzi fun _ _ => ?_|refine zzj (fun _ => ?_) fun _ => ?_)))))
    refine WL_callT (r := [ndB b4 op aop af ag n nums text, acB b8 aop af ag]) zent rfl rfl rfl (fun W hS => ref_sign1 20 G1 W hS) ?_
    intro x1 G2 h1 g2
    ((repeat' (first|refine zza ?_|refine zc9 ?_|refine zzb fun w hw => ?_|refine zzh fun _ => ?_|refine zzi fun _ _ => ?_|refine zzj (fun _ => ?_) fun _ => ?_)); (repeat' (refine CW_seq ?_; (repeat' (first|refine zza ?_|refine zc9 ?_|refine zzb fun w hw => ?_|refine zzh fun _ => ?_|refine zzi fun _ _ => ?_|refine zzj (fun _ => ?_) fun _ => ?_)))))
    exact Tells.val (V := wrdV [tokK 20] k) x1 (Rd.grow_tr g1 g2) hw h1
  rw [if_neg h7] at hus
  by_cases h3 : aop = 3
  · rw [if_pos h3] at hus
    subst hus
    ((repeat' (first|refine zza ?_|refine zc9 ?_|refine zzb fun w hw => ?_|refine zzh fun _ => ?_|refine zzi fun _ _ => ?_|refine zzj (fun _ => ?_) fun _ => ?_)); (repeat' (refine CW_seq ?_; (repeat' (first|refine zza ?_|refine zc9 ?_|refine zzb fun w hw => ?_|refine zzh fun _ => ?_|refine zzi fun _ _ => ?_|refine zzj (fun _ => ?_) fun _ => ?_)))))
    refine WL_callT (r := [ndB b4 op aop af ag n nums text, acB b8 aop af ag]) zent rfl rfl rfl (fun W hS => ref_sign1 11 G1 W hS) ?_
    intro x1 G2 h1 g2
    ((repeat' (first|refine zza ?_|refine zc9 ?_|refine zzb fun w hw => ?_|refine zzh fun _ => ?_|refine zzi fun _ _ => ?_|refine zzj (fun _ => ?_) fun _ => ?_)); (repeat' (refine CW_seq ?_; (repeat' (first|refine zza ?_|refine zc9 ?_|refine zzb fun w hw => ?_|refine zzh fun _ => ?_|refine zzi fun _ _ => ?_|refine zzj (fun _ => ?_) fun _ => ?_)))))
    refine WL_callT (r := [ndB b4 op aop af ag n nums text, acB b8 aop af ag]) zent rfl rfl rfl (fun W hS => ref_sign1 12 G2 W hS) ?_
    intro x2 G3 h2 g3
    ((repeat' (first|refine zza ?_|refine zc9 ?_|refine zzb fun w hw => ?_|refine zzh fun _ => ?_|refine zzi fun _ _ => ?_|refine zzj (fun _ => ?_) fun _ => ?_)); (repeat' (refine CW_seq ?_; (repeat' (first|refine zza ?_|refine zc9 ?_|refine zzb fun w hw => ?_|refine zzh fun _ => ?_|refine zzi fun _ _ => ?_|refine zzj (fun _ => ?_) fun _ => ?_)))))
    refine WL_callT (r := [ndB b4 op aop af ag n nums text, acB b8 aop af ag]) zent rfl rfl rfl (fun W hS => ref_joinTokens [tokK 11] [tokK 12] x1.1 x2.1 x1.2 x2.2 G3 W hS (h1.mono g3.1) h2 (by simp)) ?_
    intro x3 G4 h3' g4
    ((repeat' (first|refine zza ?_|refine zc9 ?_|refine zzb fun w hw => ?_|refine zzh fun _ => ?_|refine zzi fun _ _ => ?_|refine zzj (fun _ => ?_) fun _ => ?_)); (repeat' (refine CW_seq ?_; (repeat' (first|refine zza ?_|refine zc9 ?_|refine zzb fun w hw => ?_|refine zzh fun _ => ?_|refine zzi fun _ _ => ?_|refine zzj (fun _ => ?_) fun _ => ?_)))))
    refine WL_callT (r := [ndB b4 op aop af ag n nums text, acB b8 aop af ag]) zent rfl rfl rfl (fun W hS => ref_joinTokens ([tokK 11] ++ [tokK 12]) [tokG af] x3.1 (some ⟨b9, 0, none⟩) x3.2 1 G4 W hS h3' (hf.mono (Rd.le_trans g2.1 (Rd.le_trans g3.1 g4.1))) (by simp)) ?_
    intro x4 G5 h4 g5
    ((repeat' (first|refine zza ?_|refine zc9 ?_|refine zzb fun w hw => ?_|refine zzh fun _ => ?_|refine zzi fun _ _ => ?_|refine zzj (fun _ => ?_) fun _ => ?_)); (repeat' (refine CW_seq ?_; (repeat' (first|refine zza ?_|refine zc9 ?_|refine zzb fun w hw => ?_|refine zzh fun _ => ?_|refine zzi fun _ _ => ?_|refine zzj (fun _ => ?_) fun _ => ?_)))))
    exact Tells.val (V := wrdV [tokK 11, tokK 12, tokG af] k) x4 (Rd.grow_tr g1 (Rd.grow_tr g2 (Rd.grow_tr g3 (Rd.grow_tr g4 g5)))) hw h4
  rw [if_neg h3] at hus
  by_cases h4 : aop = 4
  · rw [if_neg (by omega), if_neg (by omega), if_neg (by omega), if_pos h4] at hus
    subst hus
    (repeat' ((fail_if_success refine zc8 ?_); (first|refine zza ?_|refine zzb fun w hw => ?_|refine zzh fun _ => ?_|refine zzi fun _ _ => ?_|refine zzj (fun _ => ?_) fun _ => ?_)))
    refine CW_par 10 [0, 3, 4, 5, 8] [1, 2, 6, 7, 9] [acB b8 aop af ag] (pm := [ro W [] G1]) (Ent.cons .here (Ent.cons (.there .here) Ent.nil)) (by kernel_rfl) (by decide +kernel) ?_
    (refine WP_op rfl rfl rfl zyi ?_)
    (refine WP_op rfl rfl rfl zyi ?_)
    (refine WP_op rfl rfl rfl zyi ?_)
    (refine WP_op rfl rfl rfl zyi ?_)
    (refine WP_op rfl rfl rfl zyi ?_)
    refine WP_par (fun ρ m => ∃ z : Rd × Option Addr × Nat, (Row tokE 5 z.1 z.2.1 z.2.2 [tokG af, tokK 12, tokG ag] ∧ Rd.grow W G1 z.1) ∧ (ρ.find 6 = some (.slice z.2.1 3 z.2.2) ∧ ρ.find 85 = some (.int .i64 (k : Nat))) ∧ m = [ro W [] z.1]) (m1 := [ro W [] G1]) (Ent.cons .here (Ent.cons (.there .here) Ent.nil)) (by decide +kernel) ?_ ?_
    · rintro ρ m ⟨⟨G2, q, cc⟩, ⟨hr, hg⟩, ⟨f1, f2⟩, rfl⟩
      dsimp only at hr hg f1 f2 ⊢
      refine WL_cov (ρ' := [(6, .slice q 3 cc), (85, .int .i64 (k : Nat))]) (Cov.cons f1 rfl (Cov.cons f2 rfl Cov.nil)) ?_
      ((repeat' (first|refine zza ?_|refine zc9 ?_|refine zzb fun w hw => ?_|refine zzh fun _ => ?_|refine zzi fun _ _ => ?_|refine zzj (fun _ => ?_) fun _ => ?_)); (repeat' (refine CW_seq ?_; (repeat' (first|refine zza ?_|refine zc9 ?_|refine zzb fun w hw => ?_|refine zzh fun _ => ?_|refine zzi fun _ _ => ?_|refine zzj (fun _ => ?_) fun _ => ?_)))))
      exact Tells.val (V := wrdV [tokG af, tokK 12, tokG ag] k) (q, cc) (Rd.grow_tr g1 hg) hw hr
    · refine Pr_seq (S1 := [1, 2, 6]) (S2 := [7, 9]) (D0 := [0, 3, 4, 5, 8]) (mid := fun ρ m => ∃ (z : Rd × Option Addr × Nat) (bb : Nat), (Row tokE 5 z.1 z.2.1 z.2.2 [tokG af, tokK 12] ∧ Rd.grow W G1 z.1) ∧ (ρ.find 79 = some (.slice z.2.1 2 z.2.2) ∧ ρ.find 83 = some (.slice (some ⟨bb, 0, none⟩) 1 1) ∧ ρ.find 85 = some (.int .i64 (k : Nat))) ∧ m = [ro W [] z.1] ++ [frs W (blk bb 30 (tokE (tokG ag)).toArray)]) (by decide +kernel) (f2 := 2) ?_ 3 [] _ _ (by simp) rfl ?_
      · rintro ρ m ⟨⟨G2, q, cc⟩, bb, ⟨hr, hg⟩, ⟨f1, f2, f3⟩, rfl⟩
        dsimp only [List.cons_append, List.nil_append] at hr hg f1 f2 ⊢
        refine Pr_cov (P := Tryz.prog) (fun ρ ρ' m hc hp => by obtain ⟨z, a1, ⟨a2, a3⟩, a4⟩ := hp; exact ⟨z, a1, ⟨hc _ _ a2, hc _ _ a3⟩, a4⟩) 2 _ _ [(79, .slice q 2 cc), (83, .slice (some ⟨bb, 0, none⟩) 1 1), (85, .int .i64 (k : Nat))] _ (Cov.cons f1 rfl (Cov.cons f2 rfl (Cov.cons f3 rfl Cov.nil))) ?_
        refine Pr_one 7 (by decide +kernel) ?_
        refine Stp_callTF (ys := [tokG ag]) (enc := tokE) (szz := 5) (nn := 1) (cp := 1) (qp := some ⟨bb, 0, none⟩) (ee := 30) (fun _ => rfl) (by decide) (r := []) rfl (Ent.cons .here (Ent.frsMap .here (fun w f h => blk_slN (n := 1) (sz := 5) (xs := [tokG ag].flatMap tokE) (by kernel_rfl) rfl (by decide) w f h) Ent.nil)) rfl rfl (fun G' hg' hrow W' hS => ref_joinTokens [tokG af, tokK 12] [tokG ag] q (some ⟨bb, 0, none⟩) cc 1 G' W' hS (hr.mono hg'.1) hrow (by simp)) ?_
        intro x3 G3 h3' g3
        refine Pr_one 9 (by decide +kernel) ?_
        refine Stp_op rfl rfl zyi ?_
        exact Pr_end (by decide +kernel) ⟨(G3, x3.1, x3.2), ⟨h3', Rd.grow_tr hg g3⟩, ⟨rfl, rfl⟩, rfl⟩
      · refine Pr_par (S1 := [1, 2]) (S2 := [6]) (p1 := fun ρ m => ∃ z : Rd × Option Addr × Nat, (Row tokE 5 z.1 z.2.1 z.2.2 [tokG af, tokK 12] ∧ Rd.grow W G1 z.1) ∧ (ρ.find 79 = some (.slice z.2.1 2 z.2.2) ∧ ρ.find 85 = some (.int .i64 (k : Nat))) ∧ m = [ro W [] z.1])
          (p2 := fun ρ m => ∃ bb : Nat, ρ.find 83 = some (.slice (some ⟨bb, 0, none⟩) 1 1) ∧ m = [frs W (blk bb 30 (tokE (tokG ag)).toArray)]) (by decide +kernel) (by decide +kernel) (by decide +kernel) (by decide +kernel) (fun ρ ρ1 ρ2 m1 m2 c1 c2 h1 h2 => ?_) 3 2 1 _ _ _ _ _ _ [ro W [] G1] [] rfl (fun _ _ => rfl) (fun _ _ => rfl) (fun _ _ h => h) (fun _ _ h => h) (by kernel_rfl) (by kernel_rfl) ?_ ?_
        · obtain ⟨z, a1, ⟨a2, a3⟩, rfl⟩ := h1
          obtain ⟨bb, b1, rfl⟩ := h2
          exact ⟨z, bb, a1, ⟨c1 _ _ a2, c2 _ _ b1, c1 _ _ a3⟩, rfl⟩
        · refine Pr_one 1 (by decide +kernel) ?_
          refine Stp_callT (r := []) rfl zent rfl rfl (fun W' hS => ref_sign1 12 G1 W' hS) ?_
          intro x1 G2 h1 g2
          refine Pr_one 2 (by decide +kernel) ?_
          refine Stp_callT (r := []) rfl zent rfl rfl (fun W' hS => ref_joinTokens [tokG af] [tokK 12] (some ⟨b9, 0, none⟩) x1.1 1 x1.2 G2 W' hS (hf.mono g2.1) h1 (by simp)) ?_
          intro x2 G3 h2 g3
          exact Pr_end (by decide +kernel) ⟨(G3, x2.1, x2.2), ⟨h2, Rd.grow_tr g2 g3⟩, ⟨rfl, rfl⟩, rfl⟩
        · refine Pr_one 6 (by decide +kernel) ?_
          refine Stp_bsliceF rfl rfl rfl rfl rfl rfl rfl fun b9 => ?_
          exact Pr_end (by decide +kernel) ⟨b9, rfl, rfl⟩
  by_cases h5 : aop = 5
  · rw [if_neg (by omega), if_neg (by omega), if_pos h5] at hus
    subst hus
    ((repeat' (first|refine zza ?_|refine zc9 ?_|refine zzb fun w hw => ?_|refine zzh fun _ => ?_|refine zzi fun _ _ => ?_|refine zzj (fun _ => ?_) fun _ => ?_)); (repeat' (refine CW_seq ?_; (repeat' (first|refine zza ?_|refine zc9 ?_|refine zzb fun w hw => ?_|refine zzh fun _ => ?_|refine zzi fun _ _ => ?_|refine zzj (fun _ => ?_) fun _ => ?_)))))
    refine WL_callT (r := [ndB b4 op aop af ag n nums text, acB b8 aop af ag]) zent rfl rfl rfl (fun W hS => ref_sign1 13 G1 W hS) ?_
    intro x2 G3 h2 g3
    ((repeat' (first|refine zza ?_|refine zc9 ?_|refine zzb fun w hw => ?_|refine zzh fun _ => ?_|refine zzi fun _ _ => ?_|refine zzj (fun _ => ?_) fun _ => ?_)); (repeat' (refine CW_seq ?_; (repeat' (first|refine zza ?_|refine zc9 ?_|refine zzb fun w hw => ?_|refine zzh fun _ => ?_|refine zzi fun _ _ => ?_|refine zzj (fun _ => ?_) fun _ => ?_)))))
    refine WL_callT (r := [ndB b4 op aop af ag n nums text, acB b8 aop af ag]) zent rfl rfl rfl (fun W hS => ref_joinTokens [tokG af] [tokK 13] (some ⟨b9, 0, none⟩) x2.1 1 x2.2 G3 W hS (hf.mono g3.1) h2 (by simp)) ?_
    intro x3 G4 h3' g4
    ((repeat' (first|refine zza ?_|refine zc9 ?_|refine zzb fun w hw => ?_|refine zzh fun _ => ?_|refine zzi fun _ _ => ?_|refine zzj (fun _ => ?_) fun _ => ?_)); (repeat' (refine CW_seq ?_; (repeat' (first|refine zza ?_|refine zc9 ?_|refine zzb fun w hw => ?_|refine zzh fun _ => ?_|refine zzi fun _ _ => ?_|refine zzj (fun _ => ?_) fun _ => ?_)))))
    exact Tells.val (V := wrdV [tokG af, tokK 13] k) x3 (Rd.grow_tr g1 (Rd.grow_tr g3 g4)) hw h3'
  by_cases h1 : aop = 1
  · rw [if_pos h1] at hus
    subst hus
    ((repeat' (first|refine zza ?_|refine zc9 ?_|refine zzb fun w hw => ?_|refine zzh fun _ => ?_|refine zzi fun _ _ => ?_|refine zzj (fun _ => ?_) fun _ => ?_)); (repeat' (refine CW_seq ?_; (repeat' (first|refine zza ?_|refine zc9 ?_|refine zzb fun w hw => ?_|refine zzh fun _ => ?_|refine zzi fun _ _ => ?_|refine zzj (fun _ => ?_) fun _ => ?_)))))
    rename_i bs
    refine WL_row (enc := tokE) (sz := 5) (r := [ndB b4 op aop af ag n nums text, acB b8 aop af ag]) (xs := [tokG 33]) (fun _ => rfl) (by decide) rfl (Ent.cons (.there .here) (Ent.blkSlN (n := 1) (sz := 5) (xs := [tokG 33].flatMap tokE) .here (by kernel_rfl) rfl (by decide) (Ent.cons .here (Ent.cons .here Ent.nil)))) ?_
    intro G3 g3 h2
    refine WL_callT (r := [ndB b4 op aop af ag n nums text, acB b8 aop af ag]) zent rfl rfl rfl (fun W hS => ref_joinTokens [tokG af] [tokG 33] (some ⟨b9, 0, none⟩) (some ⟨bs, 0, none⟩) 1 1 G3 W hS (hf.mono g3.1) h2 (by simp)) ?_
    intro x3 G4 h3' g4
    ((repeat' (first|refine zza ?_|refine zc9 ?_|refine zzb fun w hw => ?_|refine zzh fun _ => ?_|refine zzi fun _ _ => ?_|refine zzj (fun _ => ?_) fun _ => ?_)); (repeat' (refine CW_seq ?_; (repeat' (first|refine zza ?_|refine zc9 ?_|refine zzb fun w hw => ?_|refine zzh fun _ => ?_|refine zzi fun _ _ => ?_|refine zzj (fun _ => ?_) fun _ => ?_)))))
    exact Tells.val (V := wrdV [tokG af, tokG 33] k) x3 (Rd.grow_tr g1 (Rd.grow_tr g3 g4)) hw h3'
  by_cases h2 : aop = 2
  · rw [if_neg h1, if_pos h2] at hus
    subst hus
    ((repeat' (first|refine zza ?_|refine zc9 ?_|refine zzb fun w hw => ?_|refine zzh fun _ => ?_|refine zzi fun _ _ => ?_|refine zzj (fun _ => ?_) fun _ => ?_)); (repeat' (refine CW_seq ?_; (repeat' (first|refine zza ?_|refine zc9 ?_|refine zzb fun w hw => ?_|refine zzh fun _ => ?_|refine zzi fun _ _ => ?_|refine zzj (fun _ => ?_) fun _ => ?_)))))
    rename_i bs
    refine WL_row (enc := tokE) (sz := 5) (r := [ndB b4 op aop af ag n nums text, acB b8 aop af ag]) (xs := [tokG 34]) (fun _ => rfl) (by decide) rfl (Ent.cons (.there .here) (Ent.blkSlN (n := 1) (sz := 5) (xs := [tokG 34].flatMap tokE) .here (by kernel_rfl) rfl (by decide) (Ent.cons .here (Ent.cons .here Ent.nil)))) ?_
    intro G3 g3 h2
    refine WL_callT (r := [ndB b4 op aop af ag n nums text, acB b8 aop af ag]) zent rfl rfl rfl (fun W hS => ref_joinTokens [tokG af] [tokG 34] (some ⟨b9, 0, none⟩) (some ⟨bs, 0, none⟩) 1 1 G3 W hS (hf.mono g3.1) h2 (by simp)) ?_
    intro x3 G4 h3' g4
    ((repeat' (first|refine zza ?_|refine zc9 ?_|refine zzb fun w hw => ?_|refine zzh fun _ => ?_|refine zzi fun _ _ => ?_|refine zzj (fun _ => ?_) fun _ => ?_)); (repeat' (refine CW_seq ?_; (repeat' (first|refine zza ?_|refine zc9 ?_|refine zzb fun w hw => ?_|refine zzh fun _ => ?_|refine zzi fun _ _ => ?_|refine zzj (fun _ => ?_) fun _ => ?_)))))
    exact Tells.val (V := wrdV [tokG af, tokG 34] k) x3 (Rd.grow_tr g1 (Rd.grow_tr g3 g4)) hw h3'
  rw [if_neg h1, if_neg h2, if_neg h5, if_neg h4] at hus
  subst hus
  ((repeat' (first|refine zza ?_|refine zc9 ?_|refine zzb fun w hw => ?_|refine zzh fun _ => ?_|refine zzi fun _ _ => ?_|refine zzj (fun _ => ?_) fun _ => ?_)); (repeat' (refine CW_seq ?_; (repeat' (first|refine zza ?_|refine zc9 ?_|refine zzb fun w hw => ?_|refine zzh fun _ => ?_|refine zzi fun _ _ => ?_|refine zzj (fun _ => ?_) fun _ => ?_)))))
  exact Tells.val (V := wrdV [tokG af] k) (some ⟨b9, 0, none⟩, 1) g1 hw hf
theorem Exs.ok_mem {d : Nat} : ∀ {es : List Ex}, (Exs.of es).ok d → ∀ e ∈ es, e.ok d
  | [], _, e, he => by simp at he
  | x :: es, h, e, he => by
    rw [Exs.of, Exs.ok] at h
    rcases List.mem_cons.1 he with rfl | he
    · exact h.1
    · exact Exs.ok_mem h.2 e he
theorem drop_cons' {α : Type} {l : List α} {i : Nat} {x : α} (h : l[i]? = some x) : l.drop i = x :: l.drop (i + 1) := (List.getElem?_eq_some_iff.1 h).2 ▸ List.drop_eq_getElem_cons (List.getElem?_eq_some_iff.1 h).1
set_option maxHeartbeats 8000000 in
set_option maxRecDepth 100000 in
theorem acted_dfn (p : Option Addr) (c : Nat) (L : List NodM) (k d : Nat) (G : Rd) (W : World) (op af ag : Int) (N : Nat) (nums : SlV Int) (text : List UInt8) (es : List Ex) (hb : ∀ e ∈ es, WordsC e) (hok : ∀ e ∈ es, e.ok d) (hlen : es.length = 2 * N + 1) (rest : List Nod) (hdr : (L.map NodM.nod).drop k = (Exs.of es).flat ++ rest) (hL : L.length ≤ 400) (hk : k + (Exs.of es).flat.length ≤ 400) (hR : Row nodE 7 G p c L) (hB : ∀ x ∈ L, NodG G x)
    (b4 b8 : Nat) (us : List Tok) (hus : us = tokK 14 :: ((Exs.of es).bodyT false ++ [tokK 15])) (hul : us.length ≤ 700000000) :
    CW Tryz.prog ⟨111, [], W, []⟩ (QBody Tryz.prog Tryz.f62 (Tells (wrdV us (k + (Exs.of es).flat.length)) (TokR us) G W)) (cP [1, 1] acode) [(0, .slice p L.length c), (2, .int .i64 (k : Nat)), (4, .pointer (some ⟨b4, 0, none⟩)), (8, .pointer (some ⟨b8, 0, none⟩)), (6, .slice none 0 0), (7, .int .i64 0)]
      [ndB b4 op 6 af ag (N : Int) nums text, acB b8 6 af ag, ro W [] G] := by
  conv =>
    pattern cP _ _
    whnf
  obtain ⟨kend, hke⟩ : ∃ kend, kend = k + (Exs.of es).flat.length := ⟨_, rfl⟩
  have hfl : es.length ≤ (Exs.of es).flat.length := by have := (Exs.of es).flat_len; rw [Exs.of_len] at this; exact this
  rw [← hke] at hk ⊢
  have hN : N ≤ 400 := by omega
  ((repeat' (first|refine zza ?_|refine zc9 ?_|refine zzb fun w hw => ?_|refine zzh fun _ => ?_|refine zzi fun _ _ => ?_|refine zzj (fun _ => ?_) fun _ => ?_)); (repeat' (refine CW_seq ?_; (repeat' (first|refine zza ?_|refine zc9 ?_|refine zzb fun w hw => ?_|refine zzh fun _ => ?_|refine zzi fun _ _ => ?_|refine zzj (fun _ => ?_) fun _ => ?_)))))
  refine WL_callT (r := [ndB b4 op 6 af ag (N : Int) nums text]) (Ent.cons zpk (Ent.cons zpk Ent.nil)) rfl rfl rfl (fun W hS => ref_sign1 14 G W hS) ?_
  intro x1 G1 h1 g1
  ((repeat' (first|refine zza ?_|refine zc9 ?_|refine zzb fun w hw => ?_|refine zzh fun _ => ?_|refine zzi fun _ _ => ?_|refine zzj (fun _ => ?_) fun _ => ?_)); (repeat' (refine CW_seq ?_; (repeat' (first|refine zza ?_|refine zc9 ?_|refine zzb fun w hw => ?_|refine zzh fun _ => ?_|refine zzi fun _ _ => ?_|refine zzj (fun _ => ?_) fun _ => ?_)))))
  refine CW_loopK [(0,_),(4,_)] zcov (fun x : Nat × Nat × Rd × (Option Addr × Nat) × List Tok => [(11, .int .i64 (x.1 : Int)), (2, .int .i64 (x.2.1 : Int)), (10, .slice x.2.2.2.1.1 x.2.2.2.2.length x.2.2.2.1.2)]) (fun x => [ro W [] x.2.2.1, ndB b4 op 6 af ag (N : Int) nums text]) (fun x => x.1 ≤ 2 * N + 1 ∧ x.2.2.2.2 ++ (if x.1 = 2 * N + 1 then [] else (Exs.of (es.drop x.1)).bodyT (decide (x.1 % 2 = 1)) ++ [tokK 15]) = us ∧ (L.map NodM.nod).drop x.2.1 = (Exs.of (es.drop x.1)).flat ++ rest ∧ x.2.1 + (Exs.of (es.drop x.1)).flat.length = kend ∧ Row tokE 5 x.2.2.1 x.2.2.2.1.1 x.2.2.2.1.2 x.2.2.2.2 ∧ Rd.grow W G x.2.2.1) (fun x => 2 * N + 1 - x.1) (0, k, G1, x1, [tokK 14]) ⟨Nat.zero_le _, by rw [if_neg (by omega), hus]; rfl, hdr, hke.symm, h1, g1⟩ zcov zent ?_
  clear hdr hus hke
  rintro ⟨i, ki, Gi, ⟨q, cq⟩, T⟩ ⟨hi, hT, hd, hke, hr, hg⟩
  dsimp only at hi hT hd hke hr hg ⊢
  by_cases hlt : i < 2 * N + 1
  · obtain ⟨e, he⟩ : ∃ e, es[i]? = some e := ⟨es[i]'(by omega), by simp [show i < es.length by omega]⟩
    have hdc := drop_cons' he
    have hem := List.mem_of_getElem? he
    have hCe := hb e hem
    have hoe := hok e hem
    rw [hdc] at hT hd hke
    rw [Exs.of, Exs.flat, List.append_assoc] at hd
    rw [Exs.of, Exs.flat, List.length_append] at hke
    rw [if_neg (by omega), Exs.of, Exs.bodyT, Exs.of_len, List.length_drop, List.append_assoc] at hT
    have hTl := congrArg List.length hT
    simp only [List.length_append] at hTl
    have hd2 := drop_app_at hd
    have hcall : ∀ W', Rd.sub Gi [] W' → Calls Tryz.prog 33 #[.slice p L.length c, .int .i64 (ki : Nat)] W' (Tells (wrdV e.toks (ki + e.flat.length)) (TokR e.toks) Gi W') := fun W' hS => hCe p c L ki d _ Gi W' hoe hd hL (by omega) (hR.mono hg.1) (fun x hx => (hB x hx).mono hg.1) hS
    have hTe : T.length + e.toks.length ≤ 700000000 := by omega
    clear hTl hd hb hok hCe hoe hR hB hem hdc
    generalize hB1 : (Exs.of (es.drop (i + 1))).bodyT (!decide (i % 2 = 1)) = B1 at hT
    ((repeat' (first|refine zza ?_|refine zc9 ?_|refine zzb fun w hw => ?_|refine zzh fun _ => ?_|refine zzi fun _ _ => ?_|refine zzj (fun _ => ?_) fun _ => ?_)); (repeat' (refine CW_seq ?_; (repeat' (first|refine zza ?_|refine zc9 ?_|refine zzb fun w hw => ?_|refine zzh fun _ => ?_|refine zzi fun _ _ => ?_|refine zzj (fun _ => ?_) fun _ => ?_)))))
    refine WL_callT (r := [ndB b4 op 6 af ag (N : Int) nums text]) zent rfl rfl rfl hcall ?_
    intro x2 G2 h2 g2
    have hke2 : ki + e.flat.length ≤ 400 := by omega
    ((repeat' (first|refine zza ?_|refine zc9 ?_|refine zzb fun w hw => ?_|refine zzh fun _ => ?_|refine zzi fun _ _ => ?_|refine zzj (fun _ => ?_) fun _ => ?_)); (repeat' (refine CW_seq ?_; (repeat' (first|refine zza ?_|refine zc9 ?_|refine zzb fun w hw => ?_|refine zzh fun _ => ?_|refine zzi fun _ _ => ?_|refine zzj (fun _ => ?_) fun _ => ?_)))))
    refine WL_callT (r := [ndB b4 op 6 af ag (N : Int) nums text]) zent rfl rfl rfl (fun W hS => ref_joinTokens T e.toks q x2.1 cq x2.2 G2 W hS (hr.mono g2.1) h2 (by omega)) ?_
    intro x3 G3 h3 g3
    clear hcall hr h2
    rw [← List.append_assoc] at hT
    generalize T ++ e.toks = T2 at hT h3 ⊢
    have hT2 : T2.length ≤ 700000000 := by
      have := congrArg List.length hT
      simp only [List.length_append] at this
      omega
    clear hTe
    have hpar : (!decide (i % 2 = 1)) = decide ((i + 1) % 2 = 1) := by
      by_cases h : i % 2 = 1
      · rw [decide_eq_true h, decide_eq_false (by omega)]; rfl
      · rw [decide_eq_false h, decide_eq_true (by omega)]; rfl
    rw [hpar] at hB1
    clear hpar
    by_cases hlast : i = 2 * N
    · have hB0 : B1 = [] := by
        rw [← hB1, List.drop_eq_nil_of_le (by omega)]
        rfl
      subst hB0
      rw [if_pos (by omega), List.nil_append, List.nil_append] at hT
      ((repeat' (first|refine zza ?_|refine zc9 ?_|refine zzb fun w hw => ?_|refine zzh fun _ => ?_|refine zzi fun _ _ => ?_|refine zzj (fun _ => ?_) fun _ => ?_)); (repeat' (refine CW_seq ?_; (repeat' (first|refine zza ?_|refine zc9 ?_|refine zzb fun w hw => ?_|refine zzh fun _ => ?_|refine zzi fun _ _ => ?_|refine zzj (fun _ => ?_) fun _ => ?_)))))
      refine WL_callT (r := [ndB b4 op 6 af ag (N : Int) nums text]) zent rfl rfl rfl (fun W hS => ref_sign1 15 G3 W hS) ?_
      intro x4 G4 h4 g4
      ((repeat' (first|refine zza ?_|refine zc9 ?_|refine zzb fun w hw => ?_|refine zzh fun _ => ?_|refine zzi fun _ _ => ?_|refine zzj (fun _ => ?_) fun _ => ?_)); (repeat' (refine CW_seq ?_; (repeat' (first|refine zza ?_|refine zc9 ?_|refine zzb fun w hw => ?_|refine zzh fun _ => ?_|refine zzi fun _ _ => ?_|refine zzj (fun _ => ?_) fun _ => ?_)))))
      refine WL_callT (r := [ndB b4 op 6 af ag (N : Int) nums text]) zent rfl rfl rfl (fun W hS => ref_joinTokens T2 [tokK 15] x3.1 x4.1 x3.2 x4.2 G4 W hS (h3.mono g4.1) h4 (by simp; omega)) ?_
      intro x5 G5 h5 g5
      ((repeat' (first|refine zza ?_|refine zc9 ?_|refine zzb fun w hw => ?_|refine zzh fun _ => ?_|refine zzi fun _ _ => ?_|refine zzj (fun _ => ?_) fun _ => ?_)); (repeat' (refine CW_seq ?_; (repeat' (first|refine zza ?_|refine zc9 ?_|refine zzb fun w hw => ?_|refine zzh fun _ => ?_|refine zzi fun _ _ => ?_|refine zzj (fun _ => ?_) fun _ => ?_)))))
      exact EX_loop' (i + 1, ki + e.flat.length, G5, x5, T2 ++ [tokK 15]) ⟨zcov, zent, by dsimp only; omega, by dsimp only; omega, by dsimp only; rw [if_pos (by omega), List.append_nil]; exact hT, hd2, by dsimp only; omega, h5, Rd.grow_tr hg (Rd.grow_tr g2 (Rd.grow_tr g3 (Rd.grow_tr g4 g5)))⟩
    rw [if_neg (by omega)] at hT
    by_cases hp : i % 2 = 1
    · rw [decide_eq_true hp, if_pos rfl] at hT
      have hmod : ¬ ((i : Int) % 2 = 0) := by omega
      ((repeat' (first|refine zza ?_|refine zc9 ?_|refine zzb fun w hw => ?_|refine zzh fun _ => ?_|refine zzi fun _ _ => ?_|refine zzj (fun _ => ?_) fun _ => ?_)); (repeat' (refine CW_seq ?_; (repeat' (first|refine zza ?_|refine zc9 ?_|refine zzb fun w hw => ?_|refine zzh fun _ => ?_|refine zzi fun _ _ => ?_|refine zzj (fun _ => ?_) fun _ => ?_)))))
      refine WL_callT (r := [ndB b4 op 6 af ag (N : Int) nums text]) zent rfl rfl rfl (fun W hS => ref_sign1 17 G3 W hS) ?_
      intro x4 G4 h4 g4
      ((repeat' (first|refine zza ?_|refine zc9 ?_|refine zzb fun w hw => ?_|refine zzh fun _ => ?_|refine zzi fun _ _ => ?_|refine zzj (fun _ => ?_) fun _ => ?_)); (repeat' (refine CW_seq ?_; (repeat' (first|refine zza ?_|refine zc9 ?_|refine zzb fun w hw => ?_|refine zzh fun _ => ?_|refine zzi fun _ _ => ?_|refine zzj (fun _ => ?_) fun _ => ?_)))))
      refine WL_callT (r := [ndB b4 op 6 af ag (N : Int) nums text]) zent rfl rfl rfl (fun W hS => ref_joinTokens T2 [tokK 17] x3.1 x4.1 x3.2 x4.2 G4 W hS (h3.mono g4.1) h4 (by simp; omega)) ?_
      intro x5 G5 h5 g5
      ((repeat' (first|refine zza ?_|refine zc9 ?_|refine zzb fun w hw => ?_|refine zzh fun _ => ?_|refine zzi fun _ _ => ?_|refine zzj (fun _ => ?_) fun _ => ?_)); (repeat' (refine CW_seq ?_; (repeat' (first|refine zza ?_|refine zc9 ?_|refine zzb fun w hw => ?_|refine zzh fun _ => ?_|refine zzi fun _ _ => ?_|refine zzj (fun _ => ?_) fun _ => ?_)))))
      exact EX_loop' (i + 1, ki + e.flat.length, G5, x5, T2 ++ [tokK 17]) ⟨zcov, zent, by dsimp only; omega, by dsimp only; omega, by dsimp only; rw [if_neg (by omega), hB1, ← hT]; simp, hd2, by dsimp only; omega, h5, Rd.grow_tr hg (Rd.grow_tr g2 (Rd.grow_tr g3 (Rd.grow_tr g4 g5)))⟩
    · rw [decide_eq_false hp, if_neg (by decide)] at hT
      have hmod : (i : Int) % 2 = 0 := by omega
      ((repeat' (first|refine zza ?_|refine zc9 ?_|refine zzb fun w hw => ?_|refine zzh fun _ => ?_|refine zzi fun _ _ => ?_|refine zzj (fun _ => ?_) fun _ => ?_)); (repeat' (refine CW_seq ?_; (repeat' (first|refine zza ?_|refine zc9 ?_|refine zzb fun w hw => ?_|refine zzh fun _ => ?_|refine zzi fun _ _ => ?_|refine zzj (fun _ => ?_) fun _ => ?_)))))
      refine WL_callT (r := [ndB b4 op 6 af ag (N : Int) nums text]) zent rfl rfl rfl (fun W hS => ref_sign1 16 G3 W hS) ?_
      intro x4 G4 h4 g4
      ((repeat' (first|refine zza ?_|refine zc9 ?_|refine zzb fun w hw => ?_|refine zzh fun _ => ?_|refine zzi fun _ _ => ?_|refine zzj (fun _ => ?_) fun _ => ?_)); (repeat' (refine CW_seq ?_; (repeat' (first|refine zza ?_|refine zc9 ?_|refine zzb fun w hw => ?_|refine zzh fun _ => ?_|refine zzi fun _ _ => ?_|refine zzj (fun _ => ?_) fun _ => ?_)))))
      refine WL_callT (r := [ndB b4 op 6 af ag (N : Int) nums text]) zent rfl rfl rfl (fun W hS => ref_joinTokens T2 [tokK 16] x3.1 x4.1 x3.2 x4.2 G4 W hS (h3.mono g4.1) h4 (by simp; omega)) ?_
      intro x5 G5 h5 g5
      ((repeat' (first|refine zza ?_|refine zc9 ?_|refine zzb fun w hw => ?_|refine zzh fun _ => ?_|refine zzi fun _ _ => ?_|refine zzj (fun _ => ?_) fun _ => ?_)); (repeat' (refine CW_seq ?_; (repeat' (first|refine zza ?_|refine zc9 ?_|refine zzb fun w hw => ?_|refine zzh fun _ => ?_|refine zzi fun _ _ => ?_|refine zzj (fun _ => ?_) fun _ => ?_)))))
      exact EX_loop' (i + 1, ki + e.flat.length, G5, x5, T2 ++ [tokK 16]) ⟨zcov, zent, by dsimp only; omega, by dsimp only; omega, by dsimp only; rw [if_neg (by omega), hB1, ← hT]; simp, hd2, by dsimp only; omega, h5, Rd.grow_tr hg (Rd.grow_tr g2 (Rd.grow_tr g3 (Rd.grow_tr g4 g5)))⟩
  · have hil : i = 2 * N + 1 := by omega
    rw [if_pos hil, List.append_nil] at hT
    have hki : ki = kend := by
      rw [List.drop_eq_nil_of_le (by omega)] at hke
      simpa [Exs.of, Exs.flat] using hke
    subst hki hT
    clear hb hok hd hR hB
    ((repeat' (first|refine zza ?_|refine zc9 ?_|refine zzb fun w hw => ?_|refine zzh fun _ => ?_|refine zzi fun _ _ => ?_|refine zzj (fun _ => ?_) fun _ => ?_)); (repeat' (refine CW_seq ?_; (repeat' (first|refine zza ?_|refine zc9 ?_|refine zzb fun w hw => ?_|refine zzh fun _ => ?_|refine zzi fun _ _ => ?_|refine zzj (fun _ => ?_) fun _ => ?_)))))
    exact Tells.val (V := wrdV T ki) (q, cq) hg hw hr
end Go.Proofs.YtanbifmcnkhdhaaGreatDoor
