/-
  The package cut: cut.Keep.
-/
import Derived.Test.YtadlpfbjnpbnoaaGreatDoorZGo
import Derived.Test.YtadlpfbjnpbnoaaGreatDoorZKeepW
namespace Go.Proofs.YtadlpfbjnpbnoaaGreatDoor
open Go.RowKit
def keepRow (d : List Int) (l : LineF) (m : List Int) (o n : Nat) : List Int := (List.range n).flatMap fun i => if m.getD i 0 = 1 then piece d ((o * l.long + i) * l.inner) l.inner else []
def keepL (d : List Int) (l : LineF) (m : List Int) (o : Nat) : List Int := (List.range o).flatMap fun o => keepRow d l m o l.long
theorem keepRow_succ (d : List Int) (l : LineF) (m : List Int) (o n : Nat) : keepRow d l m o (n + 1) = keepRow d l m o n ++ if m.getD n 0 = 1 then piece d ((o * l.long + n) * l.inner) l.inner else [] := by
  unfold keepRow
  rw [List.range_succ, List.flatMap_append]
  simp
theorem keepL_succ (d : List Int) (l : LineF) (m : List Int) (o : Nat) : keepL d l m (o + 1) = keepL d l m o ++ keepRow d l m o l.long := by
  unfold keepL
  rw [List.range_succ, List.flatMap_append]
  simp
theorem piece_le (d : List Int) (at' n : Nat) : (piece d at' n).length ≤ n := by
  unfold piece
  rw [List.length_take]
  omega
theorem keepRow_le (d : List Int) (l : LineF) (m : List Int) (o : Nat) : ∀ n, (keepRow d l m o n).length ≤ n * l.inner
  | 0 => by simp [keepRow]
  | n + 1 => by
    have h1 := keepRow_le d l m o n
    have h2 := piece_le d ((o * l.long + n) * l.inner) l.inner
    rw [keepRow_succ, List.length_append, Nat.succ_mul]
    split
    · omega
    · rw [List.length_nil]
      omega
theorem keepL_le (d : List Int) (l : LineF) (m : List Int) : ∀ o, (keepL d l m o).length ≤ o * l.long * l.inner
  | 0 => by simp [keepL]
  | o + 1 => by
    have h1 := keepL_le d l m o
    have h2 := keepRow_le d l m o l.long
    rw [keepL_succ, List.length_append, Nat.succ_mul, Nat.add_mul]
    omega
theorem keepL_mem {d : List Int} {l : LineF} {m : List Int} {o : Nat} {x : Int} (h : x ∈ keepL d l m o) : x ∈ d := by
  obtain ⟨o, _, h⟩ := List.mem_flatMap.1 h
  obtain ⟨i, _, h⟩ := List.mem_flatMap.1 h
  split at h
  · exact piece_mem h
  · cases h
def keepF (m : List Int) (k : Nat) (a : Arr) : Int × Arr :=
  if (m.length : Int) ≠ a.shape.getD k 0 then (4, zeroA) else if maskB m = false then (6, zeroA)
  else (0, ⟨a.char, a.shape.set k ((cnt1 m m.length : Nat) : Int), keepL a.data (lineF k a) m (lineF k a).outer⟩)
set_option maxHeartbeats 16000000 in
set_option maxRecDepth 100000 in
theorem cut_Keep (s : SlV Int) (k : Nat) (a : ArrM) (G : Rd) (w : World) (hS : Rd.le G w.cell?) (ha : ArrG G a) (h0 : a.arr.bad = 0) (hs : Row encI 1 G s.p s.c s.xs) (hsl : s.xs.length ≤ 4096) (hk : k < a.shape.xs.length) :
    Calls Tryz.prog 105 #[.slice s.p s.xs.length s.c, .int .i64 (k : Int), arrV a] w (ResT (keepF s.xs k a.arr) G w) := by
  refine enterR (args := [_, _, _]) (m := []) (F := []) hS.sub rfl Tryz.func105 rfl Tryz.ntmps105 (by simp) ?_
  clear hS
  have ga := Arr.good h0
  have hA := fun W (h : Rd.le G W.cell?) => chk a G W ha h
  rw [h0, errV_zero] at hA
  have h6 : a.shape.xs.length ≤ 6 := ga.rank
  have h7 : a.data.xs.length ≤ 4096 := ga.cells
  have hsh := ha.shape
  by_cases hl : (s.xs.length : Int) = a.shape.xs.getD k 0
  · cases hm : maskB s.xs with
    | false =>
      have hF : keepF s.xs k a.arr = (6, zeroA) := (if_neg (fun h => h hl)).trans (if_pos hm)
      rw [hF]
      clear hF
      ((repeat' (first|refine zza ?_|refine zc9 ?_|refine zzb fun w hw => ?_|refine zzh fun _ => ?_|refine zzi fun _ _ => ?_|refine zu1 ?_|refine zu2 ?_|refine zu3 ?_|refine zu4 fun _ => ?_|refine zzj (fun _ => ?_) fun _ => ?_)); (repeat' (refine CW_seq ?_; (repeat' (first|refine zza ?_|refine zc9 ?_|refine zzb fun w hw => ?_|refine zzh fun _ => ?_|refine zzi fun _ _ => ?_|refine zu1 ?_|refine zu2 ?_|refine zu3 ?_|refine zu4 fun _ => ?_|refine zzj (fun _ => ?_) fun _ => ?_)))))
      rename_i b5 b6
      refine WL_callV rfl rfl rfl (fun W hW => hA W (hW.le zpk)) ?_
      clear hA
      ((repeat' (first|refine zza ?_|refine zc9 ?_|refine zzb fun w hw => ?_|refine zzh fun _ => ?_|refine zzi fun _ _ => ?_|refine zu1 ?_|refine zu2 ?_|refine zu3 ?_|refine zu4 fun _ => ?_|refine zzj (fun _ => ?_) fun _ => ?_)); (repeat' (refine CW_seq ?_; (repeat' (first|refine zza ?_|refine zc9 ?_|refine zzb fun w hw => ?_|refine zzh fun _ => ?_|refine zzi fun _ _ => ?_|refine zu1 ?_|refine zu2 ?_|refine zu3 ?_|refine zu4 fun _ => ?_|refine zzj (fun _ => ?_) fun _ => ?_)))))
      refine WL_callV rfl rfl rfl (fun W hW => ones_bad s G W (hW.le zpk) hs hsl hm) ?_
      ((repeat' (first|refine zza ?_|refine zc9 ?_|refine zzb fun w hw => ?_|refine zzh fun _ => ?_|refine zzi fun _ _ => ?_|refine zu1 ?_|refine zu2 ?_|refine zu3 ?_|refine zu4 fun _ => ?_|refine zzj (fun _ => ?_) fun _ => ?_)); (repeat' (refine CW_seq ?_; (repeat' (first|refine zza ?_|refine zc9 ?_|refine zzb fun w hw => ?_|refine zzh fun _ => ?_|refine zzi fun _ _ => ?_|refine zu1 ?_|refine zu2 ?_|refine zu3 ?_|refine zu4 fun _ => ?_|refine zzj (fun _ => ?_) fun _ => ?_)))))
      refine EX_retK2 (b := b6) rfl rfl rfl rfl zpk rfl fun w' hw => ?_
      exact ResT.err (by decide) (hw.ent (Ent.cons zpk Ent.nil))
    | true =>
      have hF : keepF s.xs k a.arr = (0, ⟨a.char, a.shape.xs.set k ((cnt1 s.xs s.xs.length : Nat) : Int), keepL a.data.xs (lineF k a.arr) s.xs (lineF k a.arr).outer⟩) := (if_neg (fun h => h hl)).trans (if_neg (by rw [hm]; simp))
      have hcn := cnt1_le s.xs s.xs.length
      rw [hF]
      clear hF
      (repeat' ((fail_if_success refine zc8 ?_); (first|refine zza ?_|refine zzb fun w hw => ?_|refine zzh fun _ => ?_|refine zzi fun _ _ => ?_|refine zzj (fun _ => ?_) fun _ => ?_)))
      rename_i b5 b6
      refine WL_callV rfl rfl rfl (fun W hW => hA W (hW.le zpk)) ?_
      clear hA
      ((repeat' (first|refine zza ?_|refine zc9 ?_|refine zzb fun w hw => ?_|refine zzh fun _ => ?_|refine zzi fun _ _ => ?_|refine zu1 ?_|refine zu2 ?_|refine zu3 ?_|refine zu4 fun _ => ?_|refine zzj (fun _ => ?_) fun _ => ?_)); (repeat' (refine CW_seq ?_; (repeat' (first|refine zza ?_|refine zc9 ?_|refine zzb fun w hw => ?_|refine zzh fun _ => ?_|refine zzi fun _ _ => ?_|refine zu1 ?_|refine zu2 ?_|refine zu3 ?_|refine zu4 fun _ => ?_|refine zzj (fun _ => ?_) fun _ => ?_)))))
      refine WL_callV rfl rfl rfl (fun W hW => ones_ok s G W (hW.le zpk) hs hsl hm) ?_
      (repeat' ((fail_if_success refine zc8 ?_); (first|refine zza ?_|refine zzb fun w hw => ?_|refine zzh fun _ => ?_|refine zzi fun _ _ => ?_|refine zzj (fun _ => ?_) fun _ => ?_)))
      refine CW_ent (m' := [zB b6, boxB b5 a, ro w [] G]) zent ?_
      refine CW_par 7 [0, 1, 2, 3] [4, 5, 6] [boxB b5 a, ro w [] G] (pm := [zB b6]) Ent.refl (by kernel_rfl) (by decide +kernel) ?_
      (refine WP_op rfl rfl rfl zyi ?_)
      (refine WP_op rfl rfl rfl zyi ?_)
      (refine WP_op rfl rfl rfl zyi ?_)
      (refine WP_op rfl rfl rfl zyi ?_)
      refine WP_par (fun ρ m => ∃ z : (Option Addr × Nat) × Nat, (ρ.find 58 = some (.agg #[.bool a.char, .slice z.1.1 a.shape.xs.length z.1.2, .slice none 0 0]) ∧ ρ.find 11 = some (ptrV z.2) ∧ ρ.find 0 = some (.slice s.p s.xs.length s.c) ∧ ρ.find 1 = some (.int .i64 (k : Int)) ∧ ρ.find 5 = some (ptrV b5) ∧ ρ.find 6 = some (ptrV b6) ∧ ρ.find 9 = some (.int .i64 ((cnt1 s.xs s.xs.length : Nat) : Int))) ∧
        Ent m [zB z.2, own1 z.1 a.shape.xs, zB b6]) (m1 := [zB b6]) Ent.refl (by decide +kernel) ?_ ?_
      · rintro ρ m ⟨⟨x1, b11⟩, ⟨f1, f2, f3, f4, f5, f6, f7⟩, hE⟩
        dsimp only at f1 f2 hE
        refine WL_cov (ρ' := [(58, .agg #[.bool a.char, .slice x1.1 a.shape.xs.length x1.2, .slice none 0 0]), (11, ptrV b11), (0, .slice s.p s.xs.length s.c), (1, .int .i64 (k : Int)), (5, ptrV b5), (6, ptrV b6), (9, .int .i64 ((cnt1 s.xs s.xs.length : Nat) : Int))]) (Cov.cons f1 rfl (Cov.cons f2 rfl (Cov.cons f3 rfl (Cov.cons f4 rfl (Cov.cons f5 rfl (Cov.cons f6 rfl (Cov.cons f7 rfl Cov.nil))))))) ?_
        refine WL_ent hE.appR ?_
        dsimp only [List.cons_append, List.nil_append]
        clear f1 f2 f3 f4 f5 f6 f7 hE ρ m
        ((repeat' (first|refine zza ?_|refine zc9 ?_|refine zzb fun w hw => ?_|refine zzh fun _ => ?_|refine zzi fun _ _ => ?_|refine zu1 ?_|refine zu2 ?_|refine zu3 ?_|refine zu4 fun _ => ?_|refine zzj (fun _ => ?_) fun _ => ?_)); (repeat' (refine CW_seq ?_; (repeat' (first|refine zza ?_|refine zc9 ?_|refine zzb fun w hw => ?_|refine zzh fun _ => ?_|refine zzi fun _ _ => ?_|refine zu1 ?_|refine zu2 ?_|refine zu3 ?_|refine zu4 fun _ => ?_|refine zzj (fun _ => ?_) fun _ => ?_)))))
        refine WL_callV rfl rfl rfl (fun W hW => cut_parts k a G W (hW.le zpk) ha ga hk) ?_
        rw [map_set]
        have hlong : a.data.xs.length ≠ 0 → (lineF k a.arr).long = s.xs.length := fun h => by
          rw [show lineF k a.arr = _ from if_neg h]
          show (a.shape.xs.getD k 0).toNat = _
          omega
        have hzero : a.data.xs.length = 0 → (lineF k a.arr).outer = 0 := fun h => by
          rw [show lineF k a.arr = _ from if_pos h]
        have hd : (lineF k a.arr).outer * (lineF k a.arr).long * (lineF k a.arr).inner = a.data.xs.length := lineF_cells ga hk
        obtain ⟨l1, l2, l3⟩ := lineF_le ga hk
        generalize lineF k a.arr = l at *
        have hset : ∀ n ∈ a.shape.xs.set k ((cnt1 s.xs s.xs.length : Nat) : Int), I64 n := fun n hn => by
          rcases set_mem hn with h | rfl
          · exact ha.shapeI n h
          · exact ⟨by omega, by omega⟩
        have hsl2 : (a.shape.xs.set k ((cnt1 s.xs s.xs.length : Nat) : Int)).length = a.shape.xs.length := List.length_set ..
        generalize a.shape.xs.set k ((cnt1 s.xs s.xs.length : Nat) : Int) = S at *
        rw [← hsl2]
        ((repeat' (first|refine zza ?_|refine zc9 ?_|refine zzb fun w hw => ?_|refine zzh fun _ => ?_|refine zzi fun _ _ => ?_|refine zu1 ?_|refine zu2 ?_|refine zu3 ?_|refine zu4 fun _ => ?_|refine zzj (fun _ => ?_) fun _ => ?_)); (repeat' (refine CW_seq ?_; (repeat' (first|refine zza ?_|refine zc9 ?_|refine zzb fun w hw => ?_|refine zzh fun _ => ?_|refine zzi fun _ _ => ?_|refine zu1 ?_|refine zu2 ?_|refine zu3 ?_|refine zu4 fun _ => ?_|refine zzj (fun _ => ?_) fun _ => ?_)))))
        refine CW_ent (m' := [arB b11 a.char x1 S (none, 0) [], own1 x1 S, slN, zB b6, boxB b5 a, ro w [] G]) (Ent.consK (k := Ent.cons zpk (Ent.nilown (Ent.cons zpk (Ent.cons zpk (Ent.cons zpk Ent.nil))))) zpk) ?_
        refine CW_loopK [(0,_),(5,_),(6,_),(11,_),(13, .int .i64 (l.inner : Int)),(70, .int .i64 (l.outer : Int))] zcov (fun z : Nat × Option Addr × Nat => [(71, .int .i64 (z.1 : Int)), (14, .int .i64 ((z.1 * l.long * l.inner : Nat) : Int))]) (fun z => [arB b11 a.char x1 S z.2 (keepL a.data.xs l s.xs z.1), own1 x1 S, own1 z.2 (keepL a.data.xs l s.xs z.1), zB b6, boxB b5 a, ro w [] G]) (fun z => z.1 ≤ l.outer) (fun z => l.outer - z.1) (0, none, 0) (Nat.zero_le _) (Cov.cons rfl rfl (Cov.cons (by rw [Nat.zero_mul, Nat.zero_mul]; rfl) rfl Cov.nil)) zent ?_
        rintro ⟨o, q, c⟩ ho
        dsimp only at ho ⊢
        by_cases hlt : o < l.outer
        · have hln : l.long = s.xs.length := hlong fun h => by have := hzero h; omega
          have hKl := keepL_le a.data.xs l s.xs o
          clear hlong hzero hset
          ((repeat' (first|refine zza ?_|refine zc9 ?_|refine zzb fun w hw => ?_|refine zzh fun _ => ?_|refine zzi fun _ _ => ?_|refine zu1 ?_|refine zu2 ?_|refine zu3 ?_|refine zu4 fun _ => ?_|refine zzj (fun _ => ?_) fun _ => ?_)); (repeat' (refine CW_seq ?_; (repeat' (first|refine zza ?_|refine zc9 ?_|refine zzb fun w hw => ?_|refine zzh fun _ => ?_|refine zzi fun _ _ => ?_|refine zu1 ?_|refine zu2 ?_|refine zu3 ?_|refine zu4 fun _ => ?_|refine zzj (fun _ => ?_) fun _ => ?_)))))
          refine CW_loopK [(0,_),(5,_),(6,_),(11,_),(13, .int .i64 (l.inner : Int)),(70, .int .i64 (l.outer : Int)),(71,_),(73,_),(74,_)] zcov (fun z : Nat × Option Addr × Nat => [(75, .int .i64 (z.1 : Int)), (14, .int .i64 (((o * l.long + z.1) * l.inner : Nat) : Int))]) (fun z => [arB b11 a.char x1 S z.2 (keepL a.data.xs l s.xs o ++ keepRow a.data.xs l s.xs o z.1), own1 x1 S, own1 z.2 (keepL a.data.xs l s.xs o ++ keepRow a.data.xs l s.xs o z.1), zB b6, boxB b5 a, ro w [] G]) (fun z => z.1 ≤ l.long) (fun z => l.long - z.1) (0, q, c) (Nat.zero_le _) zcov (by
            show Ent _ [arB b11 a.char x1 S (q, c) (keepL a.data.xs l s.xs o ++ []), own1 x1 S, own1 (q, c) (keepL a.data.xs l s.xs o ++ []), zB b6, boxB b5 a, ro w [] G]
            rw [List.append_nil]
            exact zent) ?_
          rintro ⟨i, q, c⟩ hi
          dsimp only at hi ⊢
          by_cases hlt2 : i < l.long
          · have hpl := line_place (z := l.inner) hlt hlt2
            rw [hd] at hpl
            have hi2 : i < s.xs.length := by omega
            have eP : (o * l.long + (i + 1)) * l.inner = (o * l.long + i) * l.inner + l.inner := by rw [← Nat.add_assoc, Nat.succ_mul]
            have hsu := keepRow_succ a.data.xs l s.xs o i
            have hRl := keepRow_le a.data.xs l s.xs o i
            have hq : o * l.long * l.inner + i * l.inner ≤ 4096 * 4096 * 4096 * 2 := by
              have q1 : o * l.long ≤ 4096 * 4096 := Nat.mul_le_mul (by omega) l2
              have q2 : o * l.long * l.inner ≤ 4096 * 4096 * 4096 := Nat.mul_le_mul q1 l3
              have q3 : i * l.inner ≤ 4096 * 4096 := Nat.mul_le_mul (by omega) l3
              omega
            have hlD : (keepL a.data.xs l s.xs o ++ keepRow a.data.xs l s.xs o i).length ≤ 4096 * 4096 * 4096 * 2 := by
              rw [List.length_append]
              omega
            clear hRl hq
            by_cases h1 : s.xs.getD i 0 = 1
            · rw [if_pos h1] at hsu
              have hR : Row encI 1 G (subP a.data.p a.data.c 1 ((o * l.long + i) * l.inner)) (a.data.c - (o * l.long + i) * l.inner) (piece a.data.xs ((o * l.long + i) * l.inner) l.inner) := ha.data.sub _ _ hpl
              have hPl := piece_len hpl
              have hdc := ha.data.le
              have hsu2 : keepL a.data.xs l s.xs o ++ keepRow a.data.xs l s.xs o (i + 1) = (keepL a.data.xs l s.xs o ++ keepRow a.data.xs l s.xs o i) ++ piece a.data.xs ((o * l.long + i) * l.inner) l.inner := by
                rw [hsu, List.append_assoc]
              have eN : (keepL a.data.xs l s.xs o ++ keepRow a.data.xs l s.xs o i).length + l.inner = ((keepL a.data.xs l s.xs o ++ keepRow a.data.xs l s.xs o i) ++ piece a.data.xs ((o * l.long + i) * l.inner) l.inner).length := by rw [List.length_append (bs := piece a.data.xs ((o * l.long + i) * l.inner) l.inner), hPl]
              clear hsu
              generalize (o * l.long + i) * l.inner = P at *
              generalize keepL a.data.xs l s.xs o ++ keepRow a.data.xs l s.xs o i = D at hsu2 hlD eN ⊢
              ((repeat' (first|refine zza ?_|refine zzb fun w hw => ?_|refine zzh fun _ => ?_|refine zzi fun _ _ => ?_|refine zu1 ?_|refine zu2 ?_|refine zu4 fun _ => ?_|refine zzj (fun _ => ?_) fun _ => ?_)); (repeat' (refine CW_seq ?_; (repeat' (first|refine zza ?_|refine zzb fun w hw => ?_|refine zzh fun _ => ?_|refine zzi fun _ _ => ?_|refine zu1 ?_|refine zu2 ?_|refine zu4 fun _ => ?_|refine zzj (fun _ => ?_) fun _ => ?_)))))
              refine CW_ent (m' := [own1 (q, c) D, own1 x1 S, zB b6, arB b11 a.char x1 S (q, c) D, boxB b5 a, ro w [] G]) zent ?_
              refine CW_perm 11 [0, 1, 2, 3, 4, 5, 6, 7, 8, 9, 10] [arB b11 a.char x1 S (q, c) D, boxB b5 a, ro w [] G] [] zcov (pm := [own1 (q, c) D, own1 x1 S, zB b6]) Ent.refl (by kernel_rfl) (by decide +kernel) (by kernel_rfl) ?_
              (refine WP_op rfl rfl rfl zyi ?_)
              (refine WP_op rfl rfl rfl zyi ?_)
              (refine WP_op rfl rfl rfl zyi ?_)
              (refine WP_op rfl rfl rfl zyi ?_)
              (refine WP_op rfl rfl rfl zyi ?_)
              (refine WP_op rfl rfl rfl zyi ?_)
              (refine WP_op rfl rfl rfl zyi ?_)
              (refine WP_op rfl rfl rfl zyi ?_)
              refine WP_op rfl rfl rfl (y_subR P l.inner rfl rfl rfl rfl rfl (by omega)) ?_
              refine WP_appendN (pm := [own1 x1 S, zB b6]) (enc := encI) (fun _ => rfl) (by decide) one_I hR hPl rfl (by kernel_rfl) rfl rfl .here zpk Ent.refl (by omega) (by omega) rfl rfl fun q2 k2 => ?_
              rw [flatA, ← List.map_append, eN]
              (refine WP_op rfl rfl rfl zyi ?_)
              refine WP_end ?_
              ((repeat' (first|refine zza ?_|refine zc9 ?_|refine zzb fun w hw => ?_|refine zzh fun _ => ?_|refine zzi fun _ _ => ?_|refine zu1 ?_|refine zu2 ?_|refine zu3 ?_|refine zu4 fun _ => ?_|refine zzj (fun _ => ?_) fun _ => ?_)); (repeat' (refine CW_seq ?_; (repeat' (first|refine zza ?_|refine zc9 ?_|refine zzb fun w hw => ?_|refine zzh fun _ => ?_|refine zzi fun _ _ => ?_|refine zu1 ?_|refine zu2 ?_|refine zu3 ?_|refine zu4 fun _ => ?_|refine zzj (fun _ => ?_) fun _ => ?_)))))
              refine EX_loop' (i + 1, q2, k2) ⟨Cov.cons rfl rfl (Cov.cons (by show _ = some (Value.int .i64 (((o * l.long + (i + 1)) * l.inner : Nat) : Int)); rw [eP]; rfl) rfl zcov), ?_, by show l.long - (i + 1) < l.long - i; omega, hlt2⟩
              show Ent _ [arB b11 a.char x1 S (q2, k2) (keepL a.data.xs l s.xs o ++ keepRow a.data.xs l s.xs o (i + 1)), own1 x1 S, own1 (q2, k2) (keepL a.data.xs l s.xs o ++ keepRow a.data.xs l s.xs o (i + 1)), zB b6, boxB b5 a, ro w [] G]
              rw [hsu2]
              exact Ent.consK (k := zent) zpk
            · rw [if_neg h1, List.append_nil] at hsu
              generalize (o * l.long + i) * l.inner = P at *
              ((repeat' (first|refine zza ?_|refine zc9 ?_|refine zzb fun w hw => ?_|refine zzh fun _ => ?_|refine zzi fun _ _ => ?_|refine zu1 ?_|refine zu2 ?_|refine zu3 ?_|refine zu4 fun _ => ?_|refine zzj (fun _ => ?_) fun _ => ?_)); (repeat' (refine CW_seq ?_; (repeat' (first|refine zza ?_|refine zc9 ?_|refine zzb fun w hw => ?_|refine zzh fun _ => ?_|refine zzi fun _ _ => ?_|refine zu1 ?_|refine zu2 ?_|refine zu3 ?_|refine zu4 fun _ => ?_|refine zzj (fun _ => ?_) fun _ => ?_)))))
              refine EX_loop' (i + 1, q, c) ⟨Cov.cons rfl rfl (Cov.cons (by show _ = some (Value.int .i64 (((o * l.long + (i + 1)) * l.inner : Nat) : Int)); rw [eP]; rfl) rfl zcov), ?_, by show l.long - (i + 1) < l.long - i; omega, hlt2⟩
              show Ent _ [arB b11 a.char x1 S (q, c) (keepL a.data.xs l s.xs o ++ keepRow a.data.xs l s.xs o (i + 1)), own1 x1 S, own1 (q, c) (keepL a.data.xs l s.xs o ++ keepRow a.data.xs l s.xs o (i + 1)), zB b6, boxB b5 a, ro w [] G]
              rw [hsu]
              exact zent
          · obtain rfl : i = l.long := by omega
            ((repeat' (first|refine zza ?_|refine zc9 ?_|refine zzb fun w hw => ?_|refine zzh fun _ => ?_|refine zzi fun _ _ => ?_|refine zu1 ?_|refine zu2 ?_|refine zu3 ?_|refine zu4 fun _ => ?_|refine zzj (fun _ => ?_) fun _ => ?_)); (repeat' (refine CW_seq ?_; (repeat' (first|refine zza ?_|refine zc9 ?_|refine zzb fun w hw => ?_|refine zzh fun _ => ?_|refine zzi fun _ _ => ?_|refine zu1 ?_|refine zu2 ?_|refine zu3 ?_|refine zu4 fun _ => ?_|refine zzj (fun _ => ?_) fun _ => ?_)))))
            refine EX_loop' (o + 1, q, c) ⟨Cov.cons rfl rfl (Cov.cons (by show _ = some (Value.int .i64 (((o + 1) * l.long * l.inner : Nat) : Int)); rw [Nat.succ_mul]; rfl) rfl zcov), ?_, by show l.outer - (o + 1) < l.outer - o; omega, hlt⟩
            show Ent _ [arB b11 a.char x1 S (q, c) (keepL a.data.xs l s.xs (o + 1)), own1 x1 S, own1 (q, c) (keepL a.data.xs l s.xs (o + 1)), zB b6, boxB b5 a, ro w [] G]
            rw [keepL_succ]
            exact zent
        · obtain rfl : o = l.outer := by omega
          ((repeat' (first|refine zza ?_|refine zc9 ?_|refine zzb fun w hw => ?_|refine zzh fun _ => ?_|refine zzi fun _ _ => ?_|refine zu1 ?_|refine zu2 ?_|refine zu3 ?_|refine zu4 fun _ => ?_|refine zzj (fun _ => ?_) fun _ => ?_)); (repeat' (refine CW_seq ?_; (repeat' (first|refine zza ?_|refine zc9 ?_|refine zzb fun w hw => ?_|refine zzh fun _ => ?_|refine zzi fun _ _ => ?_|refine zu1 ?_|refine zu2 ?_|refine zu3 ?_|refine zu4 fun _ => ?_|refine zzj (fun _ => ?_) fun _ => ?_)))))
          refine EX_retK2 (b := b6) rfl rfl rfl rfl zpk rfl fun w' hw => ?_
          exact ResT.ofO (x := ⟨a.char, S, keepL a.data.xs l s.xs l.outer⟩) (z := (x1, q, c)) (hw.ent (Ent.cons zpk (Ent.cons zpk (Ent.cons zpk Ent.nil)))) hset fun x hx => ha.dataI x (keepL_mem hx)
      · refine Pr_two 4 6 (by decide +kernel) ?_ ?_
        · refine Stp_callX zpk rfl rfl rfl (fun W hl => ints_Clone a.shape.p a.shape.c a.shape.xs G W ha.shape (by omega) hl) ?_
          rintro x1 _
          refine Pr_two 5 6 (by decide +kernel) ?_ ?_
          · refine Stp_op rfl rfl (y_build rfl rfl) ?_
            refine Pr_one 6 (by decide +kernel) ?_
            refine Stp_alloc rfl rfl fun b11 => ?_
            exact Pr_end (by decide +kernel) ⟨(x1, b11), ⟨rfl, rfl, rfl, rfl, rfl, rfl, rfl⟩, zent⟩
          · refine Stp_alloc rfl rfl fun b11 => ?_
            refine Pr_one 5 (by decide +kernel) ?_
            refine Stp_op rfl rfl (y_build rfl rfl) ?_
            exact Pr_end (by decide +kernel) ⟨(x1, b11), ⟨rfl, rfl, rfl, rfl, rfl, rfl, rfl⟩, zent⟩
        · refine Stp_alloc rfl rfl fun b11 => ?_
          refine Pr_one 4 (by decide +kernel) ?_
          refine Stp_callX zpk rfl rfl rfl (fun W hl => ints_Clone a.shape.p a.shape.c a.shape.xs G W ha.shape (by omega) hl) ?_
          rintro x1 _
          refine Pr_one 5 (by decide +kernel) ?_
          refine Stp_op rfl rfl (y_build rfl rfl) ?_
          exact Pr_end (by decide +kernel) ⟨(x1, b11), ⟨rfl, rfl, rfl, rfl, rfl, rfl, rfl⟩, zent⟩
  · have hF : keepF s.xs k a.arr = (4, zeroA) := if_pos hl
    rw [hF]
    clear hF
    ((repeat' (first|refine zza ?_|refine zc9 ?_|refine zzb fun w hw => ?_|refine zzh fun _ => ?_|refine zzi fun _ _ => ?_|refine zu1 ?_|refine zu2 ?_|refine zu3 ?_|refine zu4 fun _ => ?_|refine zzj (fun _ => ?_) fun _ => ?_)); (repeat' (refine CW_seq ?_; (repeat' (first|refine zza ?_|refine zc9 ?_|refine zzb fun w hw => ?_|refine zzh fun _ => ?_|refine zzi fun _ _ => ?_|refine zu1 ?_|refine zu2 ?_|refine zu3 ?_|refine zu4 fun _ => ?_|refine zzj (fun _ => ?_) fun _ => ?_)))))
    rename_i b5 b6
    refine WL_callV rfl rfl rfl (fun W hW => hA W (hW.le zpk)) ?_
    clear hA
    ((repeat' (first|refine zza ?_|refine zc9 ?_|refine zzb fun w hw => ?_|refine zzh fun _ => ?_|refine zzi fun _ _ => ?_|refine zu1 ?_|refine zu2 ?_|refine zu3 ?_|refine zu4 fun _ => ?_|refine zzj (fun _ => ?_) fun _ => ?_)); (repeat' (refine CW_seq ?_; (repeat' (first|refine zza ?_|refine zc9 ?_|refine zzb fun w hw => ?_|refine zzh fun _ => ?_|refine zzi fun _ _ => ?_|refine zu1 ?_|refine zu2 ?_|refine zu3 ?_|refine zu4 fun _ => ?_|refine zzj (fun _ => ?_) fun _ => ?_)))))
    refine EX_retK2 (b := b6) rfl rfl rfl rfl zpk rfl fun w' hw => ?_
    exact ResT.err (by decide) (hw.ent (Ent.cons zpk Ent.nil))
end Go.Proofs.YtadlpfbjnpbnoaaGreatDoor
