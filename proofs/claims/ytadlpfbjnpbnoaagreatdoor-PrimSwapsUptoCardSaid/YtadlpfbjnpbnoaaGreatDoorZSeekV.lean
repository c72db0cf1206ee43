/-
  The package seek, walked: Union.
-/
import Derived.Test.YtadlpfbjnpbnoaaGreatDoorZGo
import Derived.Test.YtadlpfbjnpbnoaaGreatDoorZSeekU
namespace Go.Proofs.YtadlpfbjnpbnoaaGreatDoor
open Go.RowKit
theorem pairE_swap {a b : Arr} (h : pairE a b = 0) : pairE b a = 0 := by
  unfold pairE at h ⊢
  split at h
  · cases h
  · rename_i k
    rw [if_neg]
    omega
set_option maxHeartbeats 16000000 in
set_option maxRecDepth 100000 in
theorem seek_Union (a b : ArrM) (G : Rd) (w : World) (hS : Rd.le G w.cell?) (ha : ArrG G a) (hb : ArrG G b) (h1 : a.arr.bad = 0) (h2 : b.arr.bad = 0) :
    Calls Tryz.prog 114 #[arrV a, arrV b] w (ResT (unionF a.arr b.arr) G w) := by
  refine enterR (args := [_, _]) (m := []) (F := []) hS.sub rfl Tryz.func114 rfl Tryz.ntmps114 (by simp) ?_
  clear hS
  have h7 : a.data.xs.length ≤ 4096 := (Arr.good h1).cells
  have h8 : b.data.xs.length ≤ 4096 := (Arr.good h2).cells
  by_cases h : pairE a.arr b.arr = 0
  · ((repeat' (first|refine zza ?_|refine zc9 ?_|refine zzb fun w hw => ?_|refine zzh fun _ => ?_|refine zzi fun _ _ => ?_|refine zu1 ?_|refine zu2 ?_|refine zu3 ?_|refine zu4 fun _ => ?_|refine zzj (fun _ => ?_) fun _ => ?_)); (repeat' (refine CW_seq ?_; (repeat' (first|refine zza ?_|refine zc9 ?_|refine zzb fun w hw => ?_|refine zzh fun _ => ?_|refine zzi fun _ _ => ?_|refine zu1 ?_|refine zu2 ?_|refine zu3 ?_|refine zu4 fun _ => ?_|refine zzj (fun _ => ?_) fun _ => ?_)))))
    rename_i b2 b3 b4
    refine WL_callX rfl rfl rfl (fun W hW => pair_ok a b G W (hW.le zpk) ha hb h1 h2 h) ?_
    rintro ⟨⟨z7, z2⟩, z3, zm⟩ _
    dsimp only [List.cons_append, List.nil_append]
    refine WL_ent (m' := [ro w [] G, zB b4, boxB b2 a, boxB b3 b]) (by repeat (first | exact Ent.nil | refine Ent.cons (by repeat (first | exact .here | apply Pick.there)) ?_)) ?_
    by_cases hch : a.char = b.char
    · rw [unionF_ok h hch]
      have hWe : (withoutF b.arr a.arr).1 = 0 := by
        unfold withoutF
        rw [if_neg (by simp [pairE_swap h])]
      ((repeat' (first|refine zza ?_|refine zc9 ?_|refine zzb fun w hw => ?_|refine zzh fun _ => ?_|refine zzi fun _ _ => ?_|refine zu1 ?_|refine zu2 ?_|refine zu3 ?_|refine zu4 fun _ => ?_|refine zzj (fun _ => ?_) fun _ => ?_)); (repeat' (refine CW_seq ?_; (repeat' (first|refine zza ?_|refine zc9 ?_|refine zzb fun w hw => ?_|refine zzh fun _ => ?_|refine zzi fun _ _ => ?_|refine zu1 ?_|refine zu2 ?_|refine zu3 ?_|refine zu4 fun _ => ?_|refine zzj (fun _ => ?_) fun _ => ?_)))))
      refine WL_callT (r := [zB b4, boxB b2 a, boxB b3 b]) zent rfl rfl rfl (fun W hW => seek_Without b a G W (fun x v e => (hW x v e).1) hb ha h2 h1) ?_
      rintro z G2 ⟨hz, hzG⟩ g2
      have hzl : z.data.xs.length ≤ 4096 := by
        have e : z.data.xs = z.arr.data := rfl
        rw [e, hz]
        unfold withoutF
        rw [if_neg (by simp [pairE_swap h])]
        exact Nat.le_trans (chosenL_len _ _ _) h8
      have e2 : (withoutF b.arr a.arr).2.data = z.data.xs := by rw [← hz]; rfl
      rw [e2]
      rw [show a.arr.data = a.data.xs from rfl, show a.arr.char = a.char from rfl]
      have had := (ha.mono g2.1).data
      have hzd := hzG.data
      have hDl : (a.data.xs ++ z.data.xs).length ≤ 8192 := by rw [List.length_append]; omega
      (repeat' ((fail_if_success refine zc8 ?_); (first|refine zza ?_|refine zzb fun w hw => ?_|refine zzh fun _ => ?_|refine zzi fun _ _ => ?_|refine zzj (fun _ => ?_) fun _ => ?_)))
      rename_i b8
      refine CW_ent (m' := [zB b4, boxB b3 b, boxB b2 a, boxB b8 z, ro w [] G2]) (Ent.cons zpk (Ent.cons zpk (Ent.cons zpk (Ent.consK (k := zent) zpk)))) ?_
      refine CW_par 10 [0, 1, 2, 3, 5, 6] [4, 7, 8, 9] [boxB b2 a, boxB b8 z, ro w [] G2] (pm := [zB b4, boxB b3 b]) Ent.refl (by kernel_rfl) (by decide +kernel) ?_
      (refine WP_op rfl rfl rfl zyi ?_)
      (refine WP_op rfl rfl rfl zyi ?_)
      (refine WP_op rfl rfl rfl zyi ?_)
      (refine WP_op rfl rfl rfl zyi ?_)
      (refine WP_op rfl rfl rfl zyi ?_)
      (refine WP_op rfl rfl rfl zyi ?_)
      refine WP_par (fun ρ m => ∃ z1 : (Option Addr × Nat) × Nat, (ρ.find 42 = some (.agg #[.bool a.char, .slice none 0 0, .slice z1.1.1 (a.data.xs ++ z.data.xs).length z1.1.2]) ∧ ρ.find 10 = some (ptrV z1.2) ∧ ρ.find 4 = some (ptrV b4)) ∧
        Ent m [zB z1.2, own1 z1.1 (a.data.xs ++ z.data.xs), zB b4]) (m1 := [zB b4, boxB b3 b]) Ent.refl (by decide +kernel) ?_ ?_
      · rintro ρ m ⟨⟨⟨q2, k2⟩, b10⟩, ⟨f1, f2, f3⟩, hE⟩
        dsimp only at f1 f2 hE
        refine WL_cov (ρ' := [(42, .agg #[.bool a.char, .slice none 0 0, .slice q2 (a.data.xs ++ z.data.xs).length k2]), (10, ptrV b10), (4, ptrV b4)]) (Cov.cons f1 rfl (Cov.cons f2 rfl (Cov.cons f3 rfl Cov.nil))) ?_
        refine WL_ent hE.appR ?_
        dsimp only [List.cons_append, List.nil_append]
        clear f1 f2 f3 hE ρ m
        have hDI : ∀ x ∈ a.data.xs ++ z.data.xs, I64 x := fun x hx => (List.mem_append.1 hx).elim (ha.dataI x) (hzG.dataI x)
        generalize a.data.xs ++ z.data.xs = D at *
        by_cases hf : 4096 < D.length
        · rw [if_pos hf]
          ((repeat' (first|refine zza ?_|refine zc9 ?_|refine zzb fun w hw => ?_|refine zzh fun _ => ?_|refine zzi fun _ _ => ?_|refine zu1 ?_|refine zu2 ?_|refine zu3 ?_|refine zu4 fun _ => ?_|refine zzj (fun _ => ?_) fun _ => ?_)); (repeat' (refine CW_seq ?_; (repeat' (first|refine zza ?_|refine zc9 ?_|refine zzb fun w hw => ?_|refine zzh fun _ => ?_|refine zzi fun _ _ => ?_|refine zu1 ?_|refine zu2 ?_|refine zu3 ?_|refine zu4 fun _ => ?_|refine zzj (fun _ => ?_) fun _ => ?_)))))
          refine EX_retK2 (b := b4) rfl rfl rfl rfl zpk rfl fun w' hw => ?_
          exact ResT.up g2 (ResT.err (by decide) (hw.ent (Ent.cons zpk Ent.nil)))
        · rw [if_neg hf]
          ((repeat' (first|refine zza ?_|refine zc9 ?_|refine zzb fun w hw => ?_|refine zzh fun _ => ?_|refine zzi fun _ _ => ?_|refine zu1 ?_|refine zu2 ?_|refine zu3 ?_|refine zu4 fun _ => ?_|refine zzj (fun _ => ?_) fun _ => ?_)); (repeat' (refine CW_seq ?_; (repeat' (first|refine zza ?_|refine zc9 ?_|refine zzb fun w hw => ?_|refine zzh fun _ => ?_|refine zzi fun _ _ => ?_|refine zu1 ?_|refine zu2 ?_|refine zu3 ?_|refine zu4 fun _ => ?_|refine zzj (fun _ => ?_) fun _ => ?_)))))
          rename_i bs
          refine EX_retK2 (b := b4) rfl rfl rfl rfl zpk rfl fun w' hw => ?_
          exact ResT.up g2 (ResT.own (ch := a.char) (q := some ⟨bs, 0, none⟩) (c := 1) (p := q2) (k := k2) (ss := [(D.length : Int)]) (ds := D) (hw.ent (Ent.cons zpk (Ent.blkSlN (n := 1) (sz := 1) (xs := [(D.length : Int)].map (Value.int .i64)) zpk rfl rfl (by decide) (Ent.cons zpk Ent.nil)))) rfl rfl rfl (fun x hx => by rw [List.mem_singleton.1 hx]; exact ⟨by omega, by omega⟩) hDI)
      · refine Pr_two 4 9 (by decide +kernel) ?_ ?_
        · refine Stp_callX zpk rfl rfl rfl (fun W hl => ints_Clone a.data.p a.data.c a.data.xs G2 W had (by omega) hl) ?_
          rintro x1 _
          refine Pr_two 7 9 (by decide +kernel) ?_ ?_
          · refine Stp_appendN (enc := encI) (fun _ => rfl) (by decide) one_I hzd rfl zpk rfl rfl rfl zpk (by omega) (by omega) rfl fun q2 k2 => ?_
            rw [flatA, ← List.map_append, ← List.length_append]
            refine Pr_two 8 9 (by decide +kernel) ?_ ?_
            · refine Stp_op rfl rfl (y_build rfl rfl) ?_
              refine Pr_one 9 (by decide +kernel) ?_
              refine Stp_alloc rfl rfl fun b10 => ?_
              exact Pr_end (by decide +kernel) ⟨((q2, k2), b10), ⟨rfl, rfl, rfl⟩, zent⟩
            · refine Stp_alloc rfl rfl fun b10 => ?_
              refine Pr_one 8 (by decide +kernel) ?_
              refine Stp_op rfl rfl (y_build rfl rfl) ?_
              exact Pr_end (by decide +kernel) ⟨((q2, k2), b10), ⟨rfl, rfl, rfl⟩, zent⟩
          · refine Stp_alloc rfl rfl fun b10 => ?_
            refine Pr_one 7 (by decide +kernel) ?_
            refine Stp_appendN (enc := encI) (fun _ => rfl) (by decide) one_I hzd rfl zpk rfl rfl rfl zpk (by omega) (by omega) rfl fun q2 k2 => ?_
            rw [flatA, ← List.map_append, ← List.length_append]
            refine Pr_one 8 (by decide +kernel) ?_
            refine Stp_op rfl rfl (y_build rfl rfl) ?_
            exact Pr_end (by decide +kernel) ⟨((q2, k2), b10), ⟨rfl, rfl, rfl⟩, zent⟩
        · refine Stp_alloc rfl rfl fun b10 => ?_
          refine Pr_one 4 (by decide +kernel) ?_
          refine Stp_callX zpk rfl rfl rfl (fun W hl => ints_Clone a.data.p a.data.c a.data.xs G2 W had (by omega) hl) ?_
          rintro x1 _
          refine Pr_one 7 (by decide +kernel) ?_
          refine Stp_appendN (enc := encI) (fun _ => rfl) (by decide) one_I hzd rfl zpk rfl rfl rfl zpk (by omega) (by omega) rfl fun q2 k2 => ?_
          rw [flatA, ← List.map_append, ← List.length_append]
          refine Pr_one 8 (by decide +kernel) ?_
          refine Stp_op rfl rfl (y_build rfl rfl) ?_
          exact Pr_end (by decide +kernel) ⟨((q2, k2), b10), ⟨rfl, rfl, rfl⟩, zent⟩
    · have hF : unionF a.arr b.arr = (6, zeroA) := (if_neg (by simp [h])).trans (if_pos hch)
      rw [hF]
      clear hF
      ((repeat' (first|refine zza ?_|refine zc9 ?_|refine zzb fun w hw => ?_|refine zzh fun _ => ?_|refine zzi fun _ _ => ?_|refine zu1 ?_|refine zu2 ?_|refine zu3 ?_|refine zu4 fun _ => ?_|refine zzj (fun _ => ?_) fun _ => ?_)); (repeat' (refine CW_seq ?_; (repeat' (first|refine zza ?_|refine zc9 ?_|refine zzb fun w hw => ?_|refine zzh fun _ => ?_|refine zzi fun _ _ => ?_|refine zu1 ?_|refine zu2 ?_|refine zu3 ?_|refine zu4 fun _ => ?_|refine zzj (fun _ => ?_) fun _ => ?_)))))
      refine EX_retK2 (b := b4) rfl rfl rfl rfl zpk rfl fun w' hw => ?_
      exact ResT.err (by decide) (hw.ent (Ent.cons zpk Ent.nil))
  · have hF : unionF a.arr b.arr = (3, zeroA) := by
      have e : pairE a.arr b.arr = 3 := by
        unfold pairE at h ⊢
        split
        · rfl
        · rename_i k
          rw [if_neg k] at h
          exact absurd rfl h
      unfold unionF
      rw [if_pos h, e]
    rw [hF]
    clear hF
    ((repeat' (first|refine zza ?_|refine zc9 ?_|refine zzb fun w hw => ?_|refine zzh fun _ => ?_|refine zzi fun _ _ => ?_|refine zu1 ?_|refine zu2 ?_|refine zu3 ?_|refine zu4 fun _ => ?_|refine zzj (fun _ => ?_) fun _ => ?_)); (repeat' (refine CW_seq ?_; (repeat' (first|refine zza ?_|refine zc9 ?_|refine zzb fun w hw => ?_|refine zzh fun _ => ?_|refine zzi fun _ _ => ?_|refine zu1 ?_|refine zu2 ?_|refine zu3 ?_|refine zu4 fun _ => ?_|refine zzj (fun _ => ?_) fun _ => ?_)))))
    rename_i b2 b3 b4
    refine WL_callV rfl rfl rfl (fun W hW => pair_err a b G W (hW.le zpk) ha hb h1 h2 h) ?_
    ((repeat' (first|refine zza ?_|refine zc9 ?_|refine zzb fun w hw => ?_|refine zzh fun _ => ?_|refine zzi fun _ _ => ?_|refine zu1 ?_|refine zu2 ?_|refine zu3 ?_|refine zu4 fun _ => ?_|refine zzj (fun _ => ?_) fun _ => ?_)); (repeat' (refine CW_seq ?_; (repeat' (first|refine zza ?_|refine zc9 ?_|refine zzb fun w hw => ?_|refine zzh fun _ => ?_|refine zzi fun _ _ => ?_|refine zu1 ?_|refine zu2 ?_|refine zu3 ?_|refine zu4 fun _ => ?_|refine zzj (fun _ => ?_) fun _ => ?_)))))
    refine EX_retK2 (b := b4) rfl rfl rfl rfl zpk rfl fun w' hw => ?_
    exact ResT.err (by decide) (hw.ent (Ent.cons zpk Ent.nil))
end Go.Proofs.YtadlpfbjnpbnoaaGreatDoor
