/-
  The package cut: masks, parts of an axis, cut.Keep.
-/
import Derived.Test.YtadlpfbjnpbnoaaGreatDoorZGo
import Derived.Test.YtadlpfbjnpbnoaaGreatDoorZCutT
import Derived.Test.YtadlpfbjnpbnoaaGreatDoorZTurnM
import Derived.Test.YtadlpfbjnpbnoaaGreatDoorZCopied
namespace Go.Proofs.YtadlpfbjnpbnoaaGreatDoor
open Go.RowKit
/-- how many 1s among the first so many -/
def cnt1 (m : List Int) : Nat → Nat
  | 0 => 0
  | i + 1 => if m.getD i 0 = 1 then cnt1 m i + 1 else cnt1 m i
theorem cnt1_le (m : List Int) : ∀ i, cnt1 m i ≤ i
  | 0 => Nat.le_refl _
  | i + 1 => by
    have := cnt1_le m i
    rw [cnt1]
    split <;> omega
def bitA (x : Int) : Bool := decide (x = 0 ∨ x = 1)
def maskB (m : List Int) : Bool := m.all bitA
theorem mask_at {m : List Int} {i : Nat} (h : maskB m = true) (hi : i < m.length) : m.getD i 0 = 0 ∨ m.getD i 0 = 1 := of_decide_eq_true (List.all_eq_true.1 h _ (getD_mem hi))
set_option maxHeartbeats 16000000 in
set_option maxRecDepth 100000 in
theorem ones_ok (s : SlV Int) (G : Rd) (w : World) (hS : Rd.le G w.cell?) (hs : Row encI 1 G s.p s.c s.xs) (hl : s.xs.length ≤ 4096) (hm : maskB s.xs = true) :
    Calls Tryz.prog 152 #[.slice s.p s.xs.length s.c] w fun e w' => e = .returned (.tuple #[.int .i64 ((cnt1 s.xs s.xs.length : Nat) : Int), .nilIface]) ∧ Below w.heap.size w w' := by
  refine enterR (args := [_]) (m := []) (F := []) hS.sub rfl Tryz.func152 rfl Tryz.ntmps152 (by simp) ?_
  clear hS
  ((repeat' (first|refine zza ?_|refine zc9 ?_|refine zzb fun w hw => ?_|refine zzh fun _ => ?_|refine zzi fun _ _ => ?_|refine zu1 ?_|refine zu2 ?_|refine zu3 ?_|refine zu4 fun _ => ?_|refine zzj (fun _ => ?_) fun _ => ?_)); (repeat' (refine CW_seq ?_; (repeat' (first|refine zza ?_|refine zc9 ?_|refine zzb fun w hw => ?_|refine zzh fun _ => ?_|refine zzi fun _ _ => ?_|refine zu1 ?_|refine zu2 ?_|refine zu3 ?_|refine zu4 fun _ => ?_|refine zzj (fun _ => ?_) fun _ => ?_)))))
  refine CW_loopK [(6,_),(7,_)] zcov (fun i : Nat => [(8, .int .i64 (i : Int)), (2, .int .i64 ((cnt1 s.xs i : Nat) : Int))]) (fun _ => [ro w [] G]) (fun i => i ≤ s.xs.length) (fun i => s.xs.length - i) 0 (Nat.zero_le _) zcov zent ?_
  rintro i hi
  by_cases hlt : i < s.xs.length
  · have hc := cnt1_le s.xs i
    have e1 : cnt1 s.xs (i + 1) = if s.xs.getD i 0 = 1 then cnt1 s.xs i + 1 else cnt1 s.xs i := rfl
    have hmi := mask_at hm hlt
    clear hm
    by_cases h1 : s.xs.getD i 0 = 1
    · rw [if_pos h1] at e1
      clear hmi
      ((repeat' (first|refine zza ?_|refine zc9 ?_|refine zzb fun w hw => ?_|refine zzh fun _ => ?_|refine zzi fun _ _ => ?_|refine zu1 ?_|refine zu2 ?_|refine zu3 ?_|refine zu4 fun _ => ?_|refine zzj (fun _ => ?_) fun _ => ?_)); (repeat' (refine CW_seq ?_; (repeat' (first|refine zza ?_|refine zc9 ?_|refine zzb fun w hw => ?_|refine zzh fun _ => ?_|refine zzi fun _ _ => ?_|refine zu1 ?_|refine zu2 ?_|refine zu3 ?_|refine zu4 fun _ => ?_|refine zzj (fun _ => ?_) fun _ => ?_)))))
      exact EX_loop' (i + 1) ⟨Cov.cons rfl rfl (Cov.cons (by show _ = some (Value.int .i64 ((cnt1 s.xs (i + 1) : Nat) : Int)); rw [e1]; rfl) rfl zcov), zent, by omega, by omega⟩
    · rw [if_neg h1] at e1
      have h0 : s.xs.getD i 0 = 0 := by omega
      clear hmi
      ((repeat' (first|refine zza ?_|refine zc9 ?_|refine zzb fun w hw => ?_|refine zzh fun _ => ?_|refine zzi fun _ _ => ?_|refine zu1 ?_|refine zu2 ?_|refine zu3 ?_|refine zu4 fun _ => ?_|refine zzj (fun _ => ?_) fun _ => ?_)); (repeat' (refine CW_seq ?_; (repeat' (first|refine zza ?_|refine zc9 ?_|refine zzb fun w hw => ?_|refine zzh fun _ => ?_|refine zzi fun _ _ => ?_|refine zu1 ?_|refine zu2 ?_|refine zu3 ?_|refine zu4 fun _ => ?_|refine zzj (fun _ => ?_) fun _ => ?_)))))
      exact EX_loop' (i + 1) ⟨Cov.cons rfl rfl (Cov.cons (by show _ = some (Value.int .i64 ((cnt1 s.xs (i + 1) : Nat) : Int)); rw [e1]; rfl) rfl zcov), zent, by omega, by omega⟩
  · obtain rfl : i = s.xs.length := by omega
    ((repeat' (first|refine zza ?_|refine zc9 ?_|refine zzb fun w hw => ?_|refine zzh fun _ => ?_|refine zzi fun _ _ => ?_|refine zu1 ?_|refine zu2 ?_|refine zu3 ?_|refine zu4 fun _ => ?_|refine zzj (fun _ => ?_) fun _ => ?_)); (repeat' (refine CW_seq ?_; (repeat' (first|refine zza ?_|refine zc9 ?_|refine zzb fun w hw => ?_|refine zzh fun _ => ?_|refine zzi fun _ _ => ?_|refine zu1 ?_|refine zu2 ?_|refine zu3 ?_|refine zu4 fun _ => ?_|refine zzj (fun _ => ?_) fun _ => ?_)))))
    exact ⟨rfl, hw.below⟩
set_option maxHeartbeats 16000000 in
set_option maxRecDepth 100000 in
theorem ones_bad (s : SlV Int) (G : Rd) (w : World) (hS : Rd.le G w.cell?) (hs : Row encI 1 G s.p s.c s.xs) (hl : s.xs.length ≤ 4096) (hm : maskB s.xs = false) :
    Calls Tryz.prog 152 #[.slice s.p s.xs.length s.c] w fun e w' => e = .returned (.tuple #[.int .i64 0, .iface 28 (.int .i64 6)]) ∧ Below w.heap.size w w' := by
  refine enterR (args := [_]) (m := []) (F := []) hS.sub rfl Tryz.func152 rfl Tryz.ntmps152 (by simp) ?_
  clear hS
  ((repeat' (first|refine zza ?_|refine zc9 ?_|refine zzb fun w hw => ?_|refine zzh fun _ => ?_|refine zzi fun _ _ => ?_|refine zu1 ?_|refine zu2 ?_|refine zu3 ?_|refine zu4 fun _ => ?_|refine zzj (fun _ => ?_) fun _ => ?_)); (repeat' (refine CW_seq ?_; (repeat' (first|refine zza ?_|refine zc9 ?_|refine zzb fun w hw => ?_|refine zzh fun _ => ?_|refine zzi fun _ _ => ?_|refine zu1 ?_|refine zu2 ?_|refine zu3 ?_|refine zu4 fun _ => ?_|refine zzj (fun _ => ?_) fun _ => ?_)))))
  refine CW_loopK [(6,_),(7,_)] zcov (fun i : Nat => [(8, .int .i64 (i : Int)), (2, .int .i64 ((cnt1 s.xs i : Nat) : Int))]) (fun _ => [ro w [] G]) (fun i => i ≤ s.xs.length ∧ Hid (∀ j, j < i → bitA (s.xs.getD j 0) = true)) (fun i => s.xs.length - i) 0 ⟨Nat.zero_le _, fun j hj => absurd hj (by omega)⟩ zcov zent ?_
  rintro i ⟨hi, hb⟩
  by_cases hlt : i < s.xs.length
  · have hc := cnt1_le s.xs i
    have e1 : cnt1 s.xs (i + 1) = if s.xs.getD i 0 = 1 then cnt1 s.xs i + 1 else cnt1 s.xs i := rfl
    have hb2 : bitA (s.xs.getD i 0) = true → Hid (∀ j, j < i + 1 → bitA (s.xs.getD j 0) = true) := fun h j hj => by
      by_cases e : j = i
      · subst e; exact h
      · exact hb j (by omega)
    by_cases h1 : s.xs.getD i 0 = 1
    · rw [if_pos h1] at e1
      replace hb2 := hb2 (decide_eq_true (.inr h1))
      ((repeat' (first|refine zza ?_|refine zc9 ?_|refine zzb fun w hw => ?_|refine zzh fun _ => ?_|refine zzi fun _ _ => ?_|refine zu1 ?_|refine zu2 ?_|refine zu3 ?_|refine zu4 fun _ => ?_|refine zzj (fun _ => ?_) fun _ => ?_)); (repeat' (refine CW_seq ?_; (repeat' (first|refine zza ?_|refine zc9 ?_|refine zzb fun w hw => ?_|refine zzh fun _ => ?_|refine zzi fun _ _ => ?_|refine zu1 ?_|refine zu2 ?_|refine zu3 ?_|refine zu4 fun _ => ?_|refine zzj (fun _ => ?_) fun _ => ?_)))))
      exact EX_loop' (i + 1) ⟨Cov.cons rfl rfl (Cov.cons (by show _ = some (Value.int .i64 ((cnt1 s.xs (i + 1) : Nat) : Int)); rw [e1]; rfl) rfl zcov), zent, by omega, by omega, hb2⟩
    · rw [if_neg h1] at e1
      by_cases h0 : s.xs.getD i 0 = 0
      · replace hb2 := hb2 (decide_eq_true (.inl h0))
        ((repeat' (first|refine zza ?_|refine zc9 ?_|refine zzb fun w hw => ?_|refine zzh fun _ => ?_|refine zzi fun _ _ => ?_|refine zu1 ?_|refine zu2 ?_|refine zu3 ?_|refine zu4 fun _ => ?_|refine zzj (fun _ => ?_) fun _ => ?_)); (repeat' (refine CW_seq ?_; (repeat' (first|refine zza ?_|refine zc9 ?_|refine zzb fun w hw => ?_|refine zzh fun _ => ?_|refine zzi fun _ _ => ?_|refine zu1 ?_|refine zu2 ?_|refine zu3 ?_|refine zu4 fun _ => ?_|refine zzj (fun _ => ?_) fun _ => ?_)))))
        exact EX_loop' (i + 1) ⟨Cov.cons rfl rfl (Cov.cons (by show _ = some (Value.int .i64 ((cnt1 s.xs (i + 1) : Nat) : Int)); rw [e1]; rfl) rfl zcov), zent, by omega, by omega, hb2⟩
      · clear hb2
        ((repeat' (first|refine zza ?_|refine zc9 ?_|refine zzb fun w hw => ?_|refine zzh fun _ => ?_|refine zzi fun _ _ => ?_|refine zu1 ?_|refine zu2 ?_|refine zu3 ?_|refine zu4 fun _ => ?_|refine zzj (fun _ => ?_) fun _ => ?_)); (repeat' (refine CW_seq ?_; (repeat' (first|refine zza ?_|refine zc9 ?_|refine zzb fun w hw => ?_|refine zzh fun _ => ?_|refine zzi fun _ _ => ?_|refine zu1 ?_|refine zu2 ?_|refine zu3 ?_|refine zu4 fun _ => ?_|refine zzj (fun _ => ?_) fun _ => ?_)))))
        exact ⟨rfl, hw.below⟩
  · obtain rfl : i = s.xs.length := by omega
    have : maskB s.xs = true := List.all_eq_true.2 fun x hx => by
      obtain ⟨j, hj, rfl⟩ := List.getElem_of_mem hx
      have := hb j hj
      simpa [List.getD, List.getElem?_eq_getElem hj] using this
    rw [this] at hm
    cases hm
set_option maxHeartbeats 16000000 in
set_option maxRecDepth 100000 in
theorem cut_parts (k : Nat) (a : ArrM) (G : Rd) (w : World) (hS : Rd.le G w.cell?) (ha : ArrG G a) (ga : a.arr.Good) (hk : k < a.shape.xs.length) :
    Calls Tryz.prog 153 #[.int .i64 (k : Int), arrV a] w fun e w' => e = .returned (.tuple #[.int .i64 ((lineF k a.arr).outer : Int), .int .i64 ((lineF k a.arr).inner : Int)]) ∧ Below w.heap.size w w' := by
  refine enterR (args := [_, _]) (m := []) (F := []) hS.sub rfl Tryz.func153 rfl Tryz.ntmps153 (by simp) ?_
  clear hS
  have hs := ha.shape
  have h6 : a.shape.xs.length ≤ 6 := ga.rank
  by_cases h7 : a.data.xs.length = 0
  · have hL : lineF k a.arr = ⟨0, 0, 0⟩ := if_pos h7
    rw [hL]
    ((repeat' (first|refine zza ?_|refine zc9 ?_|refine zzb fun w hw => ?_|refine zzh fun _ => ?_|refine zzi fun _ _ => ?_|refine zu1 ?_|refine zu2 ?_|refine zu3 ?_|refine zu4 fun _ => ?_|refine zzj (fun _ => ?_) fun _ => ?_)); (repeat' (refine CW_seq ?_; (repeat' (first|refine zza ?_|refine zc9 ?_|refine zzb fun w hw => ?_|refine zzh fun _ => ?_|refine zzi fun _ _ => ?_|refine zu1 ?_|refine zu2 ?_|refine zu3 ?_|refine zu4 fun _ => ?_|refine zzj (fun _ => ?_) fun _ => ?_)))))
    exact ⟨rfl, hw.below⟩
  · have hP : ∀ x ∈ a.shape.xs, 1 ≤ x := good_pos ga (by show 0 < a.data.xs.length; omega)
    have hM : mulL a.shape.xs = (a.data.xs.length : Int) := good_mul ga
    have hc : a.data.xs.length ≤ 4096 := ga.cells
    have hL : lineF k a.arr = ⟨(mulL (a.shape.xs.take k)).toNat, (a.shape.xs.getD k 0).toNat, (mulL (a.shape.xs.drop (k + 1))).toNat⟩ := if_neg h7
    have t1 : 1 ≤ mulL (a.shape.xs.take k) := (mul_take_le hP k).1
    have t2 : 1 ≤ mulL (a.shape.xs.drop (k + 1)) := (mul_drop_le hP (k + 1)).1
    rw [hL]
    dsimp only
    rw [Int.toNat_of_nonneg (by omega : 0 ≤ mulL (a.shape.xs.take k)), Int.toNat_of_nonneg (by omega : 0 ≤ mulL (a.shape.xs.drop (k + 1)))]
    clear hL t1 t2
    ((repeat' (first|refine zza ?_|refine zc9 ?_|refine zzb fun w hw => ?_|refine zzh fun _ => ?_|refine zzi fun _ _ => ?_|refine zu1 ?_|refine zu2 ?_|refine zu3 ?_|refine zu4 fun _ => ?_|refine zzj (fun _ => ?_) fun _ => ?_)); (repeat' (refine CW_seq ?_; (repeat' (first|refine zza ?_|refine zc9 ?_|refine zzb fun w hw => ?_|refine zzh fun _ => ?_|refine zzi fun _ _ => ?_|refine zu1 ?_|refine zu2 ?_|refine zu3 ?_|refine zu4 fun _ => ?_|refine zzj (fun _ => ?_) fun _ => ?_)))))
    rename_i b3
    refine CW_loopK [(0,_),(3,_),(13,_),(14,_)] zcov (fun i : Nat => [(15, .int .i64 (i : Int)), (4, .int .i64 (mulL (a.shape.xs.take (min i k)))), (5, .int .i64 (mulL ((a.shape.xs.take i).drop (k + 1))))]) (fun _ => [boxB b3 a, ro w [] G]) (fun i => i ≤ a.shape.xs.length) (fun i => a.shape.xs.length - i) 0 (Nat.zero_le _) (Cov.cons rfl rfl (Cov.cons (by rw [Nat.zero_min]; rfl) rfl (Cov.cons (by rw [List.take_zero, List.drop_nil]; rfl) rfl Cov.nil))) zent ?_
    rintro i hi
    by_cases hlt : i < a.shape.xs.length
    · have hPt : ∀ x ∈ a.shape.xs.take (i + 1), 1 ≤ x := fun x hx => hP x (List.mem_of_mem_take hx)
      by_cases h1 : i < k
      · have e1 := mul_take_succ (s := a.shape.xs) (i := i) hlt
        have b1 := mul_take_le hP (i + 1)
        have e2 : (a.shape.xs.take (i + 1)).drop (k + 1) = (a.shape.xs.take i).drop (k + 1) := by
          rw [List.drop_eq_nil_of_le (by simp; omega), List.drop_eq_nil_of_le (by simp; omega)]
        have hI : I64 (mulL (a.shape.xs.take i) * a.shape.xs.getD i 0) := ⟨by omega, by omega⟩
        have m1 : min i k = i := by omega
        have m2 : min (i + 1) k = i + 1 := by omega
        rw [m1]
        clear hP hPt b1
        ((repeat' (first|refine zza ?_|refine zc9 ?_|refine zzb fun w hw => ?_|refine zzh fun _ => ?_|refine zzi fun _ _ => ?_|refine zu1 ?_|refine zu2 ?_|refine zu3 ?_|refine zu4 fun _ => ?_|refine zzj (fun _ => ?_) fun _ => ?_)); (repeat' (refine CW_seq ?_; (repeat' (first|refine zza ?_|refine zc9 ?_|refine zzb fun w hw => ?_|refine zzh fun _ => ?_|refine zzi fun _ _ => ?_|refine zu1 ?_|refine zu2 ?_|refine zu3 ?_|refine zu4 fun _ => ?_|refine zzj (fun _ => ?_) fun _ => ?_)))))
        exact EX_loop' (i + 1) ⟨Cov.cons rfl rfl (Cov.cons (by show _ = some (Value.int .i64 (mulL (a.shape.xs.take (min (i + 1) k)))); rw [m2, e1]; rfl) rfl (Cov.cons (by show _ = some (Value.int .i64 (mulL ((a.shape.xs.take (i + 1)).drop (k + 1)))); rw [e2]; rfl) rfl zcov)), zent, by omega, by omega⟩
      · have m1 : min i k = k := by omega
        have m2 : min (i + 1) k = k := by omega
        rw [m1]
        by_cases h2 : k < i
        · have e1 := seg_succ (s := a.shape.xs) (i := i) (j := k + 1) hlt (by omega)
          have b1 := mul_drop_le hPt (k + 1)
          have b2 := mul_take_le hP (i + 1)
          have hI : I64 (mulL ((a.shape.xs.take i).drop (k + 1)) * a.shape.xs.getD i 0) := ⟨by omega, by omega⟩
          clear hP hPt b1 b2
          ((repeat' (first|refine zza ?_|refine zc9 ?_|refine zzb fun w hw => ?_|refine zzh fun _ => ?_|refine zzi fun _ _ => ?_|refine zu1 ?_|refine zu2 ?_|refine zu3 ?_|refine zu4 fun _ => ?_|refine zzj (fun _ => ?_) fun _ => ?_)); (repeat' (refine CW_seq ?_; (repeat' (first|refine zza ?_|refine zc9 ?_|refine zzb fun w hw => ?_|refine zzh fun _ => ?_|refine zzi fun _ _ => ?_|refine zu1 ?_|refine zu2 ?_|refine zu3 ?_|refine zu4 fun _ => ?_|refine zzj (fun _ => ?_) fun _ => ?_)))))
          exact EX_loop' (i + 1) ⟨Cov.cons rfl rfl (Cov.cons (by show _ = some (Value.int .i64 (mulL (a.shape.xs.take (min (i + 1) k)))); rw [m2]; rfl) rfl (Cov.cons (by show _ = some (Value.int .i64 (mulL ((a.shape.xs.take (i + 1)).drop (k + 1)))); rw [e1]; rfl) rfl zcov)), zent, by omega, by omega⟩
        · have e2 : (a.shape.xs.take (i + 1)).drop (k + 1) = (a.shape.xs.take i).drop (k + 1) := by
            rw [List.drop_eq_nil_of_le (by simp; omega), List.drop_eq_nil_of_le (by simp; omega)]
          clear hP hPt
          ((repeat' (first|refine zza ?_|refine zc9 ?_|refine zzb fun w hw => ?_|refine zzh fun _ => ?_|refine zzi fun _ _ => ?_|refine zu1 ?_|refine zu2 ?_|refine zu3 ?_|refine zu4 fun _ => ?_|refine zzj (fun _ => ?_) fun _ => ?_)); (repeat' (refine CW_seq ?_; (repeat' (first|refine zza ?_|refine zc9 ?_|refine zzb fun w hw => ?_|refine zzh fun _ => ?_|refine zzi fun _ _ => ?_|refine zu1 ?_|refine zu2 ?_|refine zu3 ?_|refine zu4 fun _ => ?_|refine zzj (fun _ => ?_) fun _ => ?_)))))
          exact EX_loop' (i + 1) ⟨Cov.cons rfl rfl (Cov.cons (by show _ = some (Value.int .i64 (mulL (a.shape.xs.take (min (i + 1) k)))); rw [m2]; rfl) rfl (Cov.cons (by show _ = some (Value.int .i64 (mulL ((a.shape.xs.take (i + 1)).drop (k + 1)))); rw [e2]; rfl) rfl zcov)), zent, by omega, by omega⟩
    · obtain rfl : i = a.shape.xs.length := by omega
      have m1 : min a.shape.xs.length k = k := by omega
      rw [m1, List.take_length]
      clear hP
      ((repeat' (first|refine zza ?_|refine zc9 ?_|refine zzb fun w hw => ?_|refine zzh fun _ => ?_|refine zzi fun _ _ => ?_|refine zu1 ?_|refine zu2 ?_|refine zu3 ?_|refine zu4 fun _ => ?_|refine zzj (fun _ => ?_) fun _ => ?_)); (repeat' (refine CW_seq ?_; (repeat' (first|refine zza ?_|refine zc9 ?_|refine zzb fun w hw => ?_|refine zzh fun _ => ?_|refine zzi fun _ _ => ?_|refine zu1 ?_|refine zu2 ?_|refine zu3 ?_|refine zu4 fun _ => ?_|refine zzj (fun _ => ?_) fun _ => ?_)))))
      exact ⟨rfl, hw.below⟩
end Go.Proofs.YtadlpfbjnpbnoaaGreatDoor
