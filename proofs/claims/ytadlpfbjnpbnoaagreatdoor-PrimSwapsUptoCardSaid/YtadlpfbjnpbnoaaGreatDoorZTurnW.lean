/-
  The package turn: how an axis lies; moved lines; turn.Rotate.
-/
import Derived.Test.YtadlpfbjnpbnoaaGreatDoorZGo
import Derived.Test.YtadlpfbjnpbnoaaGreatDoorZRadix
import Derived.Test.YtadlpfbjnpbnoaaGreatDoorZSeekX
namespace Go.Proofs.YtadlpfbjnpbnoaaGreatDoor
open Go.RowKit
abbrev lineV (l : LineF) : Value := .agg #[.int .i64 (l.outer : Int), .int .i64 (l.long : Int), .int .i64 (l.inner : Int)]
abbrev lnB (b : Nat) (x y z : Int) : HP := blk b 149 #[.int .i64 x, .int .i64 y, .int .i64 z]
abbrev lineE (l : LineF) : List Value := [.int .i64 (l.outer : Int), .int .i64 (l.long : Int), .int .i64 (l.inner : Int)]
set_option maxHeartbeats 8000000 in
set_option maxRecDepth 100000 in
theorem along_ok (k : Nat) (a : ArrM) (G : Rd) (w : World) (hS : Rd.le G w.cell?) (ha : ArrG G a) (h0 : a.arr.bad = 0) (hk : k < a.shape.xs.length) :
    Calls Tryz.prog 146 #[.int .i64 (k : Int), arrV a] w fun e w' => e = .returned (.tuple #[lineV (lineF k a.arr), .nilIface]) ∧ Below w.heap.size w w' := by
  refine enterR (args := [_, _]) (m := []) (F := []) hS.sub rfl Tryz.func146 rfl Tryz.ntmps146 (by simp) ?_
  clear hS
  have ga := Arr.good h0
  have hA := fun W (h : Rd.le G W.cell?) => chk a G W ha h
  rw [h0, errV_zero] at hA
  ((repeat' (first|refine zza ?_|refine zc9 ?_|refine zzb fun w hw => ?_|refine zzh fun _ => ?_|refine zzi fun _ _ => ?_|refine zu1 ?_|refine zu2 ?_|refine zu3 ?_|refine zu4 fun _ => ?_|refine zzj (fun _ => ?_) fun _ => ?_)); (repeat' (refine CW_seq ?_; (repeat' (first|refine zza ?_|refine zc9 ?_|refine zzb fun w hw => ?_|refine zzh fun _ => ?_|refine zzi fun _ _ => ?_|refine zu1 ?_|refine zu2 ?_|refine zu3 ?_|refine zu4 fun _ => ?_|refine zzj (fun _ => ?_) fun _ => ?_)))))
  rename_i b3 b4
  refine WL_callV rfl rfl rfl (fun W hW => hA W (hW.le zpk)) ?_
  clear hA
  have hs := ha.shape
  have hp := hs.some_lt hk
  have h6 : a.shape.xs.length ≤ 6 := ga.rank
  have hm : a.shape.xs.length ≤ a.shape.c := hs.le
  by_cases h7 : a.data.xs.length = 0
  · have hL : lineF k a.arr = ⟨0, 0, 0⟩ := if_pos h7
    rw [hL]
    ((repeat' (first|refine zza ?_|refine zc9 ?_|refine zzb fun w hw => ?_|refine zzh fun _ => ?_|refine zzi fun _ _ => ?_|refine zu1 ?_|refine zu2 ?_|refine zu3 ?_|refine zu4 fun _ => ?_|refine zzj (fun _ => ?_) fun _ => ?_)); (repeat' (refine CW_seq ?_; (repeat' (first|refine zza ?_|refine zc9 ?_|refine zzb fun w hw => ?_|refine zzh fun _ => ?_|refine zzi fun _ _ => ?_|refine zu1 ?_|refine zu2 ?_|refine zu3 ?_|refine zu4 fun _ => ?_|refine zzj (fun _ => ?_) fun _ => ?_)))))
    refine EX_retK2 (b := b4) rfl rfl rfl rfl zpk rfl fun w' hw => ?_
    exact ⟨by kernel_rfl, hw.below⟩
  · have hP : ∀ x ∈ a.shape.xs, 1 ≤ x := good_pos ga (by show 0 < a.data.xs.length; omega)
    have hM : mulL a.shape.xs = (a.data.xs.length : Int) := good_mul ga
    have hc : a.data.xs.length ≤ 4096 := ga.cells
    have hL : lineF k a.arr = ⟨(mulL (a.shape.xs.take k)).toNat, (a.shape.xs.getD k 0).toNat, (mulL (a.shape.xs.drop (k + 1))).toNat⟩ := if_neg h7
    have t1 : 1 ≤ mulL (a.shape.xs.take k) := (mul_take_le hP k).1
    have t2 : 1 ≤ mulL (a.shape.xs.drop (k + 1)) := (mul_drop_le hP (k + 1)).1
    have t3 : 1 ≤ a.shape.xs.getD k 0 := hP _ (getD_mem hk)
    have hV : lineV (lineF k a.arr) = .agg #[.int .i64 (mulL (a.shape.xs.take k)), .int .i64 (a.shape.xs.getD k 0), .int .i64 (mulL (a.shape.xs.drop (k + 1)))] := by
      rw [hL]
      dsimp only [lineV]
      rw [Int.toNat_of_nonneg (by omega : 0 ≤ mulL (a.shape.xs.take k)), Int.toNat_of_nonneg (by omega : 0 ≤ a.shape.xs.getD k 0), Int.toNat_of_nonneg (by omega : 0 ≤ mulL (a.shape.xs.drop (k + 1)))]
    rw [hV]
    clear hV hL t1 t2
    ((repeat' (first|refine zza ?_|refine zc9 ?_|refine zzb fun w hw => ?_|refine zzh fun _ => ?_|refine zzi fun _ _ => ?_|refine zu1 ?_|refine zu2 ?_|refine zu3 ?_|refine zu4 fun _ => ?_|refine zzj (fun _ => ?_) fun _ => ?_)); (repeat' (refine CW_seq ?_; (repeat' (first|refine zza ?_|refine zc9 ?_|refine zzb fun w hw => ?_|refine zzh fun _ => ?_|refine zzi fun _ _ => ?_|refine zu1 ?_|refine zu2 ?_|refine zu3 ?_|refine zu4 fun _ => ?_|refine zzj (fun _ => ?_) fun _ => ?_)))))
    rename_i b7
    refine WL_op rfl rfl (y_subH k rfl rfl rfl (by omega)) ?_
    ((repeat' (first|refine zza ?_|refine zc9 ?_|refine zzb fun w hw => ?_|refine zzh fun _ => ?_|refine zzi fun _ _ => ?_|refine zu1 ?_|refine zu2 ?_|refine zu3 ?_|refine zu4 fun _ => ?_|refine zzj (fun _ => ?_) fun _ => ?_)); (repeat' (refine CW_seq ?_; (repeat' (first|refine zza ?_|refine zc9 ?_|refine zzb fun w hw => ?_|refine zzh fun _ => ?_|refine zzi fun _ _ => ?_|refine zu1 ?_|refine zu2 ?_|refine zu3 ?_|refine zu4 fun _ => ?_|refine zzj (fun _ => ?_) fun _ => ?_)))))
    refine CW_ent (m' := [lnB b7 1 (a.shape.xs.getD k 0) 1, boxB b3 a, lnB b4 0 0 0, ro w [] G]) (Ent.consK (k := Ent.cons zpk (Ent.cons zpk (Ent.cons zpk Ent.nil))) zpk) ?_
    refine CW_loopK [(0,_),(3,_),(4,_),(7,_),(43,_),(44,_)] zcov (fun i : Nat => [(45, .int .i64 (i : Int))]) (fun i => [lnB b7 (mulL (a.shape.xs.take i)) (a.shape.xs.getD k 0) 1, boxB b3 a, lnB b4 0 0 0, ro w [] G]) (fun i => i ≤ k) (fun i => k - i) 0 (Nat.zero_le _) zcov zent ?_
    rintro i hi
    by_cases hlt : i < k
    · have hsu := mul_take_succ (s := a.shape.xs) (i := i) (by omega)
      have hb := mul_take_le hP (i + 1)
      have hI : I64 (mulL (a.shape.xs.take i) * a.shape.xs.getD i 0) := ⟨by omega, by omega⟩
      clear hb
      ((repeat' (first|refine zza ?_|refine zc9 ?_|refine zzb fun w hw => ?_|refine zzh fun _ => ?_|refine zzi fun _ _ => ?_|refine zu1 ?_|refine zu2 ?_|refine zu3 ?_|refine zu4 fun _ => ?_|refine zzj (fun _ => ?_) fun _ => ?_)); (repeat' (refine CW_seq ?_; (repeat' (first|refine zza ?_|refine zc9 ?_|refine zzb fun w hw => ?_|refine zzh fun _ => ?_|refine zzi fun _ _ => ?_|refine zu1 ?_|refine zu2 ?_|refine zu3 ?_|refine zu4 fun _ => ?_|refine zzj (fun _ => ?_) fun _ => ?_)))))
      refine EX_loop' (i + 1) ⟨zcov, ?_, by omega, by omega⟩
      show Ent _ [lnB b7 (mulL (a.shape.xs.take (i + 1))) (a.shape.xs.getD k 0) 1, boxB b3 a, lnB b4 0 0 0, ro w [] G]
      rw [hsu]
      exact Ent.consK (k := Ent.cons zpk (Ent.cons zpk (Ent.cons zpk Ent.nil))) zpk
    · obtain rfl : i = k := by omega
      clear hlt hi
      have hs2 := hs.sub (i + 1) (a.shape.xs.length - (i + 1)) (by omega)
      have hT : (a.shape.xs.drop (i + 1)).take (a.shape.xs.length - (i + 1)) = a.shape.xs.drop (i + 1) := List.take_of_length_le (by simp)
      have hTl : (a.shape.xs.drop (i + 1)).length = a.shape.xs.length - (i + 1) := by simp
      rw [hT] at hs2
      have hTP : ∀ x ∈ a.shape.xs.drop (i + 1), 1 ≤ x := fun x hx => hP x (List.mem_of_mem_drop hx)
      have hTm := (mul_drop_le hP (i + 1)).2
      ((repeat' (first|refine zza ?_|refine zc9 ?_|refine zzb fun w hw => ?_|refine zzh fun _ => ?_|refine zzi fun _ _ => ?_|refine zu1 ?_|refine zu2 ?_|refine zu3 ?_|refine zu4 fun _ => ?_|refine zzj (fun _ => ?_) fun _ => ?_)); (repeat' (refine CW_seq ?_; (repeat' (first|refine zza ?_|refine zc9 ?_|refine zzb fun w hw => ?_|refine zzh fun _ => ?_|refine zzi fun _ _ => ?_|refine zu1 ?_|refine zu2 ?_|refine zu3 ?_|refine zu4 fun _ => ?_|refine zzj (fun _ => ?_) fun _ => ?_)))))
      refine WL_op rfl rfl (y_subL (i + 1) rfl rfl rfl (by omega) (by omega)) ?_
      ((repeat' (first|refine zza ?_|refine zc9 ?_|refine zzb fun w hw => ?_|refine zzh fun _ => ?_|refine zzi fun _ _ => ?_|refine zu1 ?_|refine zu2 ?_|refine zu3 ?_|refine zu4 fun _ => ?_|refine zzj (fun _ => ?_) fun _ => ?_)); (repeat' (refine CW_seq ?_; (repeat' (first|refine zza ?_|refine zc9 ?_|refine zzb fun w hw => ?_|refine zzh fun _ => ?_|refine zzi fun _ _ => ?_|refine zu1 ?_|refine zu2 ?_|refine zu3 ?_|refine zu4 fun _ => ?_|refine zzj (fun _ => ?_) fun _ => ?_)))))
      generalize a.shape.xs.drop (i + 1) = T at *
      refine CW_loopK [(0,_),(3,_),(4,_),(7,_),(59,_),(60,_)] zcov (fun i : Nat => [(61, .int .i64 (i : Int))]) (fun j => [lnB b7 (mulL (a.shape.xs.take i)) (a.shape.xs.getD i 0) (mulL (T.take j)), boxB b3 a, lnB b4 0 0 0, ro w [] G]) (fun j => j ≤ T.length) (fun j => T.length - j) 0 (Nat.zero_le _) zcov zent ?_
      rintro j hj
      by_cases hlt : j < T.length
      · have hsu := mul_take_succ (s := T) (i := j) (by omega)
        have hb := mul_take_le hTP (j + 1)
        have hI : I64 (mulL (T.take j) * T.getD j 0) := ⟨by omega, by omega⟩
        have hp2 := hs2.some_lt hlt
        clear hb
        ((repeat' (first|refine zza ?_|refine zc9 ?_|refine zzb fun w hw => ?_|refine zzh fun _ => ?_|refine zzi fun _ _ => ?_|refine zu1 ?_|refine zu2 ?_|refine zu3 ?_|refine zu4 fun _ => ?_|refine zzj (fun _ => ?_) fun _ => ?_)); (repeat' (refine CW_seq ?_; (repeat' (first|refine zza ?_|refine zc9 ?_|refine zzb fun w hw => ?_|refine zzh fun _ => ?_|refine zzi fun _ _ => ?_|refine zu1 ?_|refine zu2 ?_|refine zu3 ?_|refine zu4 fun _ => ?_|refine zzj (fun _ => ?_) fun _ => ?_)))))
        refine EX_loop' (j + 1) ⟨zcov, ?_, by omega, by omega⟩
        show Ent _ [lnB b7 (mulL (a.shape.xs.take i)) (a.shape.xs.getD i 0) (mulL (T.take (j + 1))), boxB b3 a, lnB b4 0 0 0, ro w [] G]
        rw [hsu]
        exact Ent.consK (k := Ent.cons zpk (Ent.cons zpk (Ent.cons zpk Ent.nil))) zpk
      · obtain rfl : j = T.length := by omega
        rw [List.take_length]
        ((repeat' (first|refine zza ?_|refine zc9 ?_|refine zzb fun w hw => ?_|refine zzh fun _ => ?_|refine zzi fun _ _ => ?_|refine zu1 ?_|refine zu2 ?_|refine zu3 ?_|refine zu4 fun _ => ?_|refine zzj (fun _ => ?_) fun _ => ?_)); (repeat' (refine CW_seq ?_; (repeat' (first|refine zza ?_|refine zc9 ?_|refine zzb fun w hw => ?_|refine zzh fun _ => ?_|refine zzi fun _ _ => ?_|refine zu1 ?_|refine zu2 ?_|refine zu3 ?_|refine zu4 fun _ => ?_|refine zzj (fun _ => ?_) fun _ => ?_)))))
        refine EX_retK2 (b := b4) rfl rfl rfl rfl zpk rfl fun w' hw => ?_
        exact ⟨by kernel_rfl, hw.below⟩
end Go.Proofs.YtadlpfbjnpbnoaaGreatDoor
