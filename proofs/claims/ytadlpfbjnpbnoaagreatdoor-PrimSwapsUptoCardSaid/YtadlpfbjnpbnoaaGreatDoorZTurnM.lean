/-
  The package turn: lines that are moved; turn.Rotate.
-/
import Derived.Test.YtadlpfbjnpbnoaaGreatDoorZGo
import Derived.Test.YtadlpfbjnpbnoaaGreatDoorZTurnW
namespace Go.Proofs.YtadlpfbjnpbnoaaGreatDoor
open Go.RowKit
abbrev arB (b : Nat) (ch : Bool) (x : Option Addr × Nat) (ss : List Int) (y : Option Addr × Nat) (ds : List Int) : HP := blk b 27 #[.bool ch, .slice x.1 ss.length x.2, .slice y.1 ds.length y.2]
set_option maxHeartbeats 16000000 in
set_option maxRecDepth 100000 in
theorem line_moved (l : LineF) (a : ArrM) (f : FuncId) [F1 : FnT Tryz.prog f] (cap : List Value) (fr : Nat → Nat) (G : Rd) (w : World) (hS : Rd.le G w.cell?) (ha : ArrG G a) (ga : a.arr.Good) (hd : l.outer * l.long * l.inner = a.data.xs.length)
    (hf : ∀ i, i < l.long → fr i < l.long) (h1 : l.outer ≤ 4096) (h2 : l.long ≤ 4096) (h3 : l.inner ≤ 4096)
    (hfr : ∀ (i : Nat) (W : World), i < l.long → Rd.le G W.cell? → Calls Tryz.prog f ([Value.int .i64 (i : Int)] ++ cap).toArray W fun e w' => e = .returned (.int .i64 (fr i : Int)) ∧ Below W.heap.size W w') :
    Calls Tryz.prog 147 #[lineV l, arrV a, .func (.func f) #[] cap.toArray] w (OwnA ⟨a.char, a.shape.xs, movedL a.data.xs l fr l.outer⟩ w) := by
  refine enterR (args := [_, _, _]) (m := []) (F := []) hS.sub rfl Tryz.func147 rfl Tryz.ntmps147 (by simp) ?_
  clear hS
  have h6 : a.shape.xs.length ≤ 6 := ga.rank
  have h7 : a.data.xs.length ≤ 4096 := ga.cells
  (repeat' ((fail_if_success refine zc8 ?_); (first|refine zza ?_|refine zzb fun w hw => ?_|refine zzh fun _ => ?_|refine zzi fun _ _ => ?_|refine zzj (fun _ => ?_) fun _ => ?_)))
  rename_i b3 b4 b6
  refine CW_ent (m' := [blk b3 149 (lineE l).toArray, zB b6, boxB b4 a, ro w [] G]) zent ?_
  refine CW_par 11 [0, 1, 2, 3, 5, 6, 7] [4, 8, 9, 10] [boxB b4 a, ro w [] G] (pm := [blk b3 149 (lineE l).toArray, zB b6]) Ent.refl (by kernel_rfl) (by decide +kernel) ?_
  (refine WP_op rfl rfl rfl zyi ?_)
  (refine WP_op rfl rfl rfl zyi ?_)
  (refine WP_op rfl rfl rfl zyi ?_)
  (refine WP_op rfl rfl rfl zyi ?_)
  (refine WP_op rfl rfl rfl zyi ?_)
  (refine WP_op rfl rfl rfl zyi ?_)
  (refine WP_op rfl rfl rfl zyi ?_)
  refine WP_par (fun ρ m => ∃ z : (Option Addr × Nat) × Nat × Nat, (ρ.find 20 = some (.agg #[.bool a.char, .slice z.1.1 a.shape.xs.length z.1.2, .slice (some ⟨z.2.1, 0, none⟩) 0 a.data.xs.length]) ∧ ρ.find 7 = some (ptrV z.2.2) ∧ ρ.find 2 = some (.func (.func f) #[] cap.toArray) ∧ ρ.find 3 = some (ptrV b3) ∧ ρ.find 4 = some (ptrV b4) ∧ ρ.find 6 = some (ptrV b6)) ∧
    Ent m [zB z.2.2, own1 z.1 a.shape.xs, sl 3 1 (some ⟨z.2.1, 0, none⟩) 0 a.data.xs.length [], blk b3 149 (lineE l).toArray, zB b6]) (m1 := [blk b3 149 (lineE l).toArray, zB b6]) Ent.refl (by decide +kernel) ?_ ?_
  · rintro ρ m ⟨⟨x1, b2, b7⟩, ⟨f1, f2, f3, f4, f5, f6⟩, hE⟩
    dsimp only at f1 f2 hE
    refine WL_cov (ρ' := [(20, .agg #[.bool a.char, .slice x1.1 a.shape.xs.length x1.2, .slice (some ⟨b2, 0, none⟩) 0 a.data.xs.length]), (7, ptrV b7), (2, .func (.func f) #[] cap.toArray), (3, ptrV b3), (4, ptrV b4), (6, ptrV b6)]) (Cov.cons f1 rfl (Cov.cons f2 rfl (Cov.cons f3 rfl (Cov.cons f4 rfl (Cov.cons f5 rfl (Cov.cons f6 rfl Cov.nil)))))) ?_
    refine WL_ent hE.appR ?_
    dsimp only [List.cons_append, List.nil_append]
    clear f1 f2 f3 f4 f5 f6 hE ρ m
    ((repeat' (first|refine zza ?_|refine zc9 ?_|refine zzb fun w hw => ?_|refine zzh fun _ => ?_|refine zzi fun _ _ => ?_|refine zu1 ?_|refine zu2 ?_|refine zu3 ?_|refine zu4 fun _ => ?_|refine zzj (fun _ => ?_) fun _ => ?_)); (repeat' (refine CW_seq ?_; (repeat' (first|refine zza ?_|refine zc9 ?_|refine zzb fun w hw => ?_|refine zzh fun _ => ?_|refine zzi fun _ _ => ?_|refine zu1 ?_|refine zu2 ?_|refine zu3 ?_|refine zu4 fun _ => ?_|refine zzj (fun _ => ?_) fun _ => ?_)))))
    refine CW_loopK [(2,_),(3,_),(4,_),(6,_),(7,_),(22,_)] zcov (fun z : Nat × Option Addr × Nat => [(23, .int .i64 (z.1 : Int))]) (fun z => [arB b7 a.char x1 a.shape.xs z.2 (movedL a.data.xs l fr z.1), own1 x1 a.shape.xs, own1 z.2 (movedL a.data.xs l fr z.1), blk b3 149 (lineE l).toArray, zB b6, boxB b4 a, ro w [] G]) (fun z => z.1 ≤ l.outer) (fun z => l.outer - z.1) (0, some ⟨b2, 0, none⟩, a.data.xs.length) (Nat.zero_le _) zcov (Ent.consK (k := zent) zpk) ?_
    rintro ⟨o, q, c⟩ ho
    dsimp only at ho ⊢
    by_cases hlt : o < l.outer
    · ((repeat' (first|refine zza ?_|refine zc9 ?_|refine zzb fun w hw => ?_|refine zzh fun _ => ?_|refine zzi fun _ _ => ?_|refine zu1 ?_|refine zu2 ?_|refine zu3 ?_|refine zu4 fun _ => ?_|refine zzj (fun _ => ?_) fun _ => ?_)); (repeat' (refine CW_seq ?_; (repeat' (first|refine zza ?_|refine zc9 ?_|refine zzb fun w hw => ?_|refine zzh fun _ => ?_|refine zzi fun _ _ => ?_|refine zu1 ?_|refine zu2 ?_|refine zu3 ?_|refine zu4 fun _ => ?_|refine zzj (fun _ => ?_) fun _ => ?_)))))
      refine CW_loopK [(2,_),(3,_),(4,_),(6,_),(7,_),(8,_),(22,_),(23,_),(27,_)] zcov (fun z : Nat × Option Addr × Nat => [(28, .int .i64 (z.1 : Int))]) (fun z => [arB b7 a.char x1 a.shape.xs z.2 (movedL a.data.xs l fr o ++ rowM a.data.xs l fr o z.1), own1 x1 a.shape.xs, own1 z.2 (movedL a.data.xs l fr o ++ rowM a.data.xs l fr o z.1), blk b3 149 (lineE l).toArray, zB b6, boxB b4 a, ro w [] G]) (fun z => z.1 ≤ l.long) (fun z => l.long - z.1) (0, q, c) (Nat.zero_le _) zcov (by
        show Ent _ [arB b7 a.char x1 a.shape.xs (q, c) (movedL a.data.xs l fr o ++ []), own1 x1 a.shape.xs, own1 (q, c) (movedL a.data.xs l fr o ++ []), blk b3 149 (lineE l).toArray, zB b6, boxB b4 a, ro w [] G]
        rw [List.append_nil]
        exact zent) ?_
      rintro ⟨i, q, c⟩ hi
      dsimp only at hi ⊢
      by_cases hlt2 : i < l.long
      · have hfi := hf i hlt2
        have hpl := line_place (z := l.inner) hlt hfi
        rw [hd] at hpl
        have q1 : o * l.long ≤ 4096 * 4096 := Nat.mul_le_mul (by omega) h2
        have hI1 : I64 ((o : Int) * (l.long : Int)) := by
          rw [← Int.natCast_mul]
          exact ⟨by omega, by omega⟩
        have ePl : ((o : Int) * (l.long : Int) + ((fr i : Nat) : Int)) * (l.inner : Int) = (((o * l.long + fr i) * l.inner : Nat) : Int) := by
          rw [Int.natCast_mul, Int.natCast_add, Int.natCast_mul]
        have hI2 : I64 (((o : Int) * (l.long : Int) + ((fr i : Nat) : Int)) * (l.inner : Int)) := by
          rw [ePl]
          exact ⟨by omega, by omega⟩
        have hI3 : I64 ((o : Int) * (l.long : Int) + ((fr i : Nat) : Int)) := by
          rw [← Int.natCast_mul]
          exact ⟨by omega, by omega⟩
        have hI3b := hI3.1
        have hI3c := hI3.2
        have hsu : movedL a.data.xs l fr o ++ rowM a.data.xs l fr o (i + 1) = (movedL a.data.xs l fr o ++ rowM a.data.xs l fr o i) ++ piece a.data.xs ((o * l.long + fr i) * l.inner) l.inner := by
          rw [rowM_succ, List.append_assoc]
        have hlD : (movedL a.data.xs l fr o ++ rowM a.data.xs l fr o i).length ≤ 4096 * 4097 := by
          rw [List.length_append, movedL_len hd hf o (by omega), rowM_len hd hlt hf i (by omega)]
          have := line_le (z := l.inner) hlt hi
          rw [hd, Nat.add_mul] at this
          omega
        have hR : Row encI 1 G (subP a.data.p a.data.c 1 ((o * l.long + fr i) * l.inner)) (a.data.c - (o * l.long + fr i) * l.inner) (piece a.data.xs ((o * l.long + fr i) * l.inner) l.inner) := ha.data.sub _ _ hpl
        have hRl := piece_len hpl
        have hdc := ha.data.le
        ((repeat' (first|refine zza ?_|refine zc9 ?_|refine zzb fun w hw => ?_|refine zzh fun _ => ?_|refine zzi fun _ _ => ?_|refine zu1 ?_|refine zu2 ?_|refine zu3 ?_|refine zu4 fun _ => ?_|refine zzj (fun _ => ?_) fun _ => ?_)); (repeat' (refine CW_seq ?_; (repeat' (first|refine zza ?_|refine zc9 ?_|refine zzb fun w hw => ?_|refine zzh fun _ => ?_|refine zzi fun _ _ => ?_|refine zu1 ?_|refine zu2 ?_|refine zu3 ?_|refine zu4 fun _ => ?_|refine zzj (fun _ => ?_) fun _ => ?_)))))
        refine WQ_callY (S := F1) (cap := cap) rfl rfl rfl rfl (fun W hW => hfr i W hlt2 (hW.le zpk)) ?_
        (repeat' (first|refine zza ?_|refine zzb fun w hw => ?_|refine zzh fun _ => ?_|refine zzi fun _ _ => ?_|refine zzj (fun _ => ?_) fun _ => ?_))
        rw [ePl]
        generalize (o * l.long + fr i) * l.inner = P at *
        have eN : (movedL a.data.xs l fr o ++ rowM a.data.xs l fr o i).length + l.inner = ((movedL a.data.xs l fr o ++ rowM a.data.xs l fr o i) ++ piece a.data.xs P l.inner).length := by rw [List.length_append (bs := piece a.data.xs P l.inner), hRl]
        generalize movedL a.data.xs l fr o ++ rowM a.data.xs l fr o i = D at hsu hlD eN ⊢
        refine CW_ent (m' := [own1 (q, c) D, own1 x1 a.shape.xs, zB b6, arB b7 a.char x1 a.shape.xs (q, c) D, blk b3 149 (lineE l).toArray, boxB b4 a, ro w [] G]) zent ?_
        refine CW_perm 12 [0, 1, 2, 3, 4, 5, 6, 7, 8, 9, 10, 11] [arB b7 a.char x1 a.shape.xs (q, c) D, blk b3 149 (lineE l).toArray, boxB b4 a, ro w [] G] [] zcov (pm := [own1 (q, c) D, own1 x1 a.shape.xs, zB b6]) Ent.refl (by kernel_rfl) (by decide +kernel) (by kernel_rfl) ?_
        (refine WP_op rfl rfl rfl zyi ?_)
        (refine WP_op rfl rfl rfl zyi ?_)
        (refine WP_op rfl rfl rfl zyi ?_)
        (refine WP_op rfl rfl rfl zyi ?_)
        (refine WP_op rfl rfl rfl zyi ?_)
        (refine WP_op rfl rfl rfl zyi ?_)
        (refine WP_op rfl rfl rfl zyi ?_)
        (refine WP_op rfl rfl rfl zyi ?_)
        (refine WP_op rfl rfl rfl zyi ?_)
        refine WP_op rfl rfl rfl (y_subR P l.inner rfl rfl rfl rfl rfl (by omega)) ?_
        refine WP_appendN (pm := [own1 x1 a.shape.xs, zB b6]) (enc := encI) (fun _ => rfl) (by decide) one_I hR hRl rfl (by kernel_rfl) rfl rfl .here zpk Ent.refl (by omega) (by omega) rfl rfl fun q2 k2 => ?_
        rw [flatA, ← List.map_append, eN]
        (refine WP_op rfl rfl rfl zyi ?_)
        refine WP_end ?_
        ((repeat' (first|refine zza ?_|refine zc9 ?_|refine zzb fun w hw => ?_|refine zzh fun _ => ?_|refine zzi fun _ _ => ?_|refine zu1 ?_|refine zu2 ?_|refine zu3 ?_|refine zu4 fun _ => ?_|refine zzj (fun _ => ?_) fun _ => ?_)); (repeat' (refine CW_seq ?_; (repeat' (first|refine zza ?_|refine zc9 ?_|refine zzb fun w hw => ?_|refine zzh fun _ => ?_|refine zzi fun _ _ => ?_|refine zu1 ?_|refine zu2 ?_|refine zu3 ?_|refine zu4 fun _ => ?_|refine zzj (fun _ => ?_) fun _ => ?_)))))
        refine EX_loop' (i + 1, q2, k2) ⟨zcov, ?_, by show l.long - (i + 1) < l.long - i; omega, hlt2⟩
        show Ent _ [arB b7 a.char x1 a.shape.xs (q2, k2) (movedL a.data.xs l fr o ++ rowM a.data.xs l fr o (i + 1)), own1 x1 a.shape.xs, own1 (q2, k2) (movedL a.data.xs l fr o ++ rowM a.data.xs l fr o (i + 1)), blk b3 149 (lineE l).toArray, zB b6, boxB b4 a, ro w [] G]
        rw [hsu]
        exact Ent.consK (k := zent) zpk
      · obtain rfl : i = l.long := by omega
        ((repeat' (first|refine zza ?_|refine zc9 ?_|refine zzb fun w hw => ?_|refine zzh fun _ => ?_|refine zzi fun _ _ => ?_|refine zu1 ?_|refine zu2 ?_|refine zu3 ?_|refine zu4 fun _ => ?_|refine zzj (fun _ => ?_) fun _ => ?_)); (repeat' (refine CW_seq ?_; (repeat' (first|refine zza ?_|refine zc9 ?_|refine zzb fun w hw => ?_|refine zzh fun _ => ?_|refine zzi fun _ _ => ?_|refine zu1 ?_|refine zu2 ?_|refine zu3 ?_|refine zu4 fun _ => ?_|refine zzj (fun _ => ?_) fun _ => ?_)))))
        refine EX_loop' (o + 1, q, c) ⟨zcov, ?_, by show l.outer - (o + 1) < l.outer - o; omega, hlt⟩
        show Ent _ [arB b7 a.char x1 a.shape.xs (q, c) (movedL a.data.xs l fr (o + 1)), own1 x1 a.shape.xs, own1 (q, c) (movedL a.data.xs l fr (o + 1)), blk b3 149 (lineE l).toArray, zB b6, boxB b4 a, ro w [] G]
        rw [movedL_succ]
        exact zent
    · obtain rfl : o = l.outer := by omega
      ((repeat' (first|refine zza ?_|refine zc9 ?_|refine zzb fun w hw => ?_|refine zzh fun _ => ?_|refine zzi fun _ _ => ?_|refine zu1 ?_|refine zu2 ?_|refine zu3 ?_|refine zu4 fun _ => ?_|refine zzj (fun _ => ?_) fun _ => ?_)); (repeat' (refine CW_seq ?_; (repeat' (first|refine zza ?_|refine zc9 ?_|refine zzb fun w hw => ?_|refine zzh fun _ => ?_|refine zzi fun _ _ => ?_|refine zu1 ?_|refine zu2 ?_|refine zu3 ?_|refine zu4 fun _ => ?_|refine zzj (fun _ => ?_) fun _ => ?_)))))
      exact ⟨(x1, q, c), trivial, by kernel_rfl, hw.ent (Ent.cons zpk (Ent.cons zpk Ent.nil))⟩
  · refine Pr_three 4 8 10 (by decide +kernel) ?_ ?_ ?_
    · refine Stp_callX zpk rfl rfl rfl (fun W hl => ints_Clone a.shape.p a.shape.c a.shape.xs G W ha.shape (by omega) hl) ?_
      rintro x1 _
      refine Pr_two 8 10 (by decide +kernel) ?_ ?_
      · refine Stp_make0 a.data.xs.length rfl rfl rfl rfl (by omega) (by omega) rfl fun b2 => ?_
        refine Pr_two 9 10 (by decide +kernel) ?_ ?_
        · refine Stp_op rfl rfl (y_build rfl rfl) ?_
          refine Pr_one 10 (by decide +kernel) ?_
          refine Stp_alloc rfl rfl fun b7 => ?_
          exact Pr_end (by decide +kernel) ⟨(x1, b2, b7), ⟨rfl, rfl, rfl, rfl, rfl, rfl⟩, zent⟩
        · refine Stp_alloc rfl rfl fun b7 => ?_
          refine Pr_one 9 (by decide +kernel) ?_
          refine Stp_op rfl rfl (y_build rfl rfl) ?_
          exact Pr_end (by decide +kernel) ⟨(x1, b2, b7), ⟨rfl, rfl, rfl, rfl, rfl, rfl⟩, zent⟩
      · refine Stp_alloc rfl rfl fun b7 => ?_
        refine Pr_one 8 (by decide +kernel) ?_
        refine Stp_make0 a.data.xs.length rfl rfl rfl rfl (by omega) (by omega) rfl fun b2 => ?_
        refine Pr_one 9 (by decide +kernel) ?_
        refine Stp_op rfl rfl (y_build rfl rfl) ?_
        exact Pr_end (by decide +kernel) ⟨(x1, b2, b7), ⟨rfl, rfl, rfl, rfl, rfl, rfl⟩, zent⟩
    · refine Stp_make0 a.data.xs.length rfl rfl rfl rfl (by omega) (by omega) rfl fun b2 => ?_
      refine Pr_two 4 10 (by decide +kernel) ?_ ?_
      · refine Stp_callX zpk rfl rfl rfl (fun W hl => ints_Clone a.shape.p a.shape.c a.shape.xs G W ha.shape (by omega) hl) ?_
        rintro x1 _
        refine Pr_two 9 10 (by decide +kernel) ?_ ?_
        · refine Stp_op rfl rfl (y_build rfl rfl) ?_
          refine Pr_one 10 (by decide +kernel) ?_
          refine Stp_alloc rfl rfl fun b7 => ?_
          exact Pr_end (by decide +kernel) ⟨(x1, b2, b7), ⟨rfl, rfl, rfl, rfl, rfl, rfl⟩, zent⟩
        · refine Stp_alloc rfl rfl fun b7 => ?_
          refine Pr_one 9 (by decide +kernel) ?_
          refine Stp_op rfl rfl (y_build rfl rfl) ?_
          exact Pr_end (by decide +kernel) ⟨(x1, b2, b7), ⟨rfl, rfl, rfl, rfl, rfl, rfl⟩, zent⟩
      · refine Stp_alloc rfl rfl fun b7 => ?_
        refine Pr_one 4 (by decide +kernel) ?_
        refine Stp_callX zpk rfl rfl rfl (fun W hl => ints_Clone a.shape.p a.shape.c a.shape.xs G W ha.shape (by omega) hl) ?_
        rintro x1 _
        refine Pr_one 9 (by decide +kernel) ?_
        refine Stp_op rfl rfl (y_build rfl rfl) ?_
        exact Pr_end (by decide +kernel) ⟨(x1, b2, b7), ⟨rfl, rfl, rfl, rfl, rfl, rfl⟩, zent⟩
    · refine Stp_alloc rfl rfl fun b7 => ?_
      refine Pr_two 4 8 (by decide +kernel) ?_ ?_
      · refine Stp_callX zpk rfl rfl rfl (fun W hl => ints_Clone a.shape.p a.shape.c a.shape.xs G W ha.shape (by omega) hl) ?_
        rintro x1 _
        refine Pr_one 8 (by decide +kernel) ?_
        refine Stp_make0 a.data.xs.length rfl rfl rfl rfl (by omega) (by omega) rfl fun b2 => ?_
        refine Pr_one 9 (by decide +kernel) ?_
        refine Stp_op rfl rfl (y_build rfl rfl) ?_
        exact Pr_end (by decide +kernel) ⟨(x1, b2, b7), ⟨rfl, rfl, rfl, rfl, rfl, rfl⟩, zent⟩
      · refine Stp_make0 a.data.xs.length rfl rfl rfl rfl (by omega) (by omega) rfl fun b2 => ?_
        refine Pr_one 4 (by decide +kernel) ?_
        refine Stp_callX zpk rfl rfl rfl (fun W hl => ints_Clone a.shape.p a.shape.c a.shape.xs G W ha.shape (by omega) hl) ?_
        rintro x1 _
        refine Pr_one 9 (by decide +kernel) ?_
        refine Stp_op rfl rfl (y_build rfl rfl) ?_
        exact Pr_end (by decide +kernel) ⟨(x1, b2, b7), ⟨rfl, rfl, rfl, rfl, rfl, rfl⟩, zent⟩
end Go.Proofs.YtadlpfbjnpbnoaaGreatDoor
