/-
  Plain: what the functions of the packages turn and cut tell, line by line.
  Plain: what cut.Join tells.
  The package radix: radix.Value.
-/
import Derived.Test.YtadlpfbjnpbnoaaGreatDoorZCutP
import Derived.Test.YtadlpfbjnpbnoaaGreatDoorZGo
import Derived.Test.YtadlpfbjnpbnoaaGreatDoorZTwoEx
namespace Go.Proofs.YtadlpfbjnpbnoaaGreatDoor
open Go.RowKit
/-- so many cells from a place on -/
def piece (d : List Int) (at' n : Nat) : List Int := (d.drop at').take n
theorem piece_len {d : List Int} {at' n : Nat} (h : at' + n ≤ d.length) : (piece d at' n).length = n := by
  unfold piece
  rw [List.length_take, List.length_drop]
  omega
theorem piece_mem {d : List Int} {at' n : Nat} {x : Int} (h : x ∈ piece d at' n) : x ∈ d := List.mem_of_mem_drop (List.mem_of_mem_take h)
/-- how an axis lies: so many times so many of so many cells -/
structure LineF where
  outer : Nat
  long : Nat
  inner : Nat
def lineF (k : Nat) (a : Arr) : LineF := if a.data.length = 0 then ⟨0, 0, 0⟩ else ⟨(mulL (a.shape.take k)).toNat, (a.shape.getD k 0).toNat, (mulL (a.shape.drop (k + 1))).toNat⟩
theorem lineF_cells {k : Nat} {a : Arr} (g : a.Good) (hk : k < a.shape.length) : (lineF k a).outer * (lineF k a).long * (lineF k a).inner = a.data.length := by
  unfold lineF
  split
  · rename_i h
    rw [h]
    rfl
  · rename_i h
    have hp := good_pos g (by omega)
    have h1 := mul_parts hk
    rw [good_mul g] at h1
    have h2 := (mul_take_le hp k).1
    have h3 := (mul_drop_le hp (k + 1)).1
    have h4 := hp _ (getD_mem hk)
    dsimp only
    generalize mulL (a.shape.take k) = x at h1 h2 ⊢
    generalize mulL (a.shape.drop (k + 1)) = y at h1 h3 ⊢
    generalize a.shape.getD k 0 = z at h1 h4 ⊢
    obtain ⟨x, rfl⟩ := Int.eq_ofNat_of_zero_le (by omega : 0 ≤ x)
    obtain ⟨y, rfl⟩ := Int.eq_ofNat_of_zero_le (by omega : 0 ≤ y)
    obtain ⟨z, rfl⟩ := Int.eq_ofNat_of_zero_le (by omega : 0 ≤ z)
    simp only [Int.toNat_natCast]
    rw [Nat.mul_assoc]
    exact_mod_cast h1.symm
theorem line_place {x y z o i : Nat} (ho : o < x) (hi : i < y) : (o * y + i) * z + z ≤ x * y * z := by
  have h1 : o * y + i + 1 ≤ x * y := by
    have := Nat.mul_le_mul_right y (Nat.succ_le_of_lt ho)
    rw [Nat.succ_mul] at this
    omega
  have h2 := Nat.mul_le_mul_right z h1
  rw [Nat.succ_mul] at h2
  exact h2
theorem line_le {x y z o i : Nat} (ho : o < x) (hi : i ≤ y) : (o * y + i) * z ≤ x * y * z := by
  refine Nat.mul_le_mul_right z ?_
  have := Nat.mul_le_mul_right y (Nat.succ_le_of_lt ho)
  rw [Nat.succ_mul] at this
  omega
/-- one line of an axis, its cells taken from elsewhere -/
def rowM (d : List Int) (l : LineF) (fr : Nat → Nat) (o n : Nat) : List Int := (List.range n).flatMap fun i => piece d ((o * l.long + fr i) * l.inner) l.inner
def movedL (d : List Int) (l : LineF) (fr : Nat → Nat) (o : Nat) : List Int := (List.range o).flatMap fun o => rowM d l fr o l.long
theorem rowM_succ (d : List Int) (l : LineF) (fr : Nat → Nat) (o n : Nat) : rowM d l fr o (n + 1) = rowM d l fr o n ++ piece d ((o * l.long + fr n) * l.inner) l.inner := by
  unfold rowM
  rw [List.range_succ, List.flatMap_append]
  simp
theorem movedL_succ (d : List Int) (l : LineF) (fr : Nat → Nat) (o : Nat) : movedL d l fr (o + 1) = movedL d l fr o ++ rowM d l fr o l.long := by
  unfold movedL
  rw [List.range_succ, List.flatMap_append]
  simp
theorem rowM_len {d : List Int} {l : LineF} {fr : Nat → Nat} {o : Nat} (hd : l.outer * l.long * l.inner = d.length) (ho : o < l.outer) (hf : ∀ i, i < l.long → fr i < l.long) : ∀ n, n ≤ l.long → (rowM d l fr o n).length = n * l.inner
  | 0, _ => by simp [rowM]
  | n + 1, hn => by
    rw [rowM_succ, List.length_append, rowM_len hd ho hf n (by omega), piece_len (by rw [← hd]; exact line_place ho (hf n (by omega))), Nat.succ_mul]
theorem movedL_len {d : List Int} {l : LineF} {fr : Nat → Nat} (hd : l.outer * l.long * l.inner = d.length) (hf : ∀ i, i < l.long → fr i < l.long) : ∀ o, o ≤ l.outer → (movedL d l fr o).length = o * l.long * l.inner
  | 0, _ => by simp [movedL]
  | o + 1, ho => by
    rw [movedL_succ, List.length_append, movedL_len hd hf o (by omega), rowM_len hd (by omega) hf _ (Nat.le_refl _), Nat.succ_mul, Nat.add_mul]
theorem rowM_mem {d : List Int} {l : LineF} {fr : Nat → Nat} {o n : Nat} {x : Int} (h : x ∈ rowM d l fr o n) : x ∈ d := by
  obtain ⟨i, _, h⟩ := List.mem_flatMap.1 h
  exact piece_mem h
theorem movedL_mem {d : List Int} {l : LineF} {fr : Nat → Nat} {o : Nat} {x : Int} (h : x ∈ movedL d l fr o) : x ∈ d := by
  obtain ⟨i, _, h⟩ := List.mem_flatMap.1 h
  exact rowM_mem h
def movedF (a : Arr) (k : Nat) (fr : Nat → Nat) : Arr := ⟨a.char, a.shape, movedL a.data (lineF k a) fr (lineF k a).outer⟩
/-- how far a line is turned -/
def byR (n : Int) (long : Nat) : Nat := if 0 < long then ((n.tmod long + long) % long).toNat else 0
def rotateF (n : Int) (k : Nat) (a : Arr) : Arr := movedF a k fun i => (i + byR n (lineF k a).long) % (lineF k a).long
theorem lineF_le {k : Nat} {a : Arr} (g : a.Good) (hk : k < a.shape.length) : (lineF k a).outer ≤ 4096 ∧ (lineF k a).long ≤ 4096 ∧ (lineF k a).inner ≤ 4096 := by
  have h := lineF_cells g hk
  have hc := g.cells
  by_cases h0 : a.data.length = 0
  · unfold lineF
    rw [if_pos h0]
    exact ⟨by decide, by decide, by decide⟩
  · rw [← h] at h0 hc
    generalize (lineF k a).outer = x at *
    generalize (lineF k a).long = y at *
    generalize (lineF k a).inner = z at *
    have hx : 0 < x := Nat.pos_of_ne_zero fun e => h0 (by rw [e, Nat.zero_mul, Nat.zero_mul])
    have hy : 0 < y := Nat.pos_of_ne_zero fun e => h0 (by rw [e, Nat.mul_zero, Nat.zero_mul])
    have hz : 0 < z := Nat.pos_of_ne_zero fun e => h0 (by rw [e, Nat.mul_zero])
    have h1 : x * y ≤ x * y * z := Nat.le_mul_of_pos_right _ hz
    have h2 : z ≤ x * y * z := Nat.le_mul_of_pos_left _ (Nat.mul_pos hx hy)
    have h3 : x ≤ x * y := Nat.le_mul_of_pos_right _ hy
    have h4 : y ≤ x * y := Nat.le_mul_of_pos_left _ hx
    exact ⟨by omega, by omega, by omega⟩
end Go.Proofs.YtadlpfbjnpbnoaaGreatDoor
namespace Go.Proofs.YtadlpfbjnpbnoaaGreatDoor
open Go.RowKit
/-- a single value as a list of one -/
def vecA (a : Arr) : Arr := if a.shape.length = 0 then ⟨a.char, [1], a.data⟩ else a
def joinS (k : Nat) (a b : Arr) : List Int := a.shape.set k (a.shape.getD k 0 + b.shape.getD k 0)
def joinD (x y : List Int) (one two t : Nat) : List Int := (List.range t).flatMap fun o => piece x (o * one) one ++ piece y (o * two) two
def joinX (k : Nat) (a b : Arr) (n : Nat) : Bool := (List.range n).any fun j => decide (j ≠ k ∧ a.shape.getD j 0 ≠ b.shape.getD j 0)
def joinF (k : Nat) (a b : Arr) : Int × Arr :=
  if a.shape.length ≠ b.shape.length then (3, zeroA)
  else if joinX k a b a.shape.length = true then (4, zeroA)
  else if a.char ≠ b.char then (6, zeroA)
  else if (countF (joinS k a b)).2 ≠ 0 then ((countF (joinS k a b)).2, zeroA)
  else (0, ⟨a.char, joinS k a b, joinD a.data b.data (mulL (a.shape.drop k)).toNat (mulL (b.shape.drop k)).toNat (if (countF (joinS k a b)).1 = 0 then 0 else (mulL (a.shape.take k)).toNat)⟩)
theorem joinD_succ (x y : List Int) (one two t : Nat) : joinD x y one two (t + 1) = joinD x y one two t ++ (piece x (t * one) one ++ piece y (t * two) two) := by
  unfold joinD
  rw [List.range_succ, List.flatMap_append]
  simp
theorem join_place {t O n : Nat} (h : t < O) : t * n + n ≤ O * n := by
  rw [← Nat.succ_mul]
  exact Nat.mul_le_mul_right _ h
theorem joinD_len {x y : List Int} {one two O : Nat} (hx : O * one = x.length) (hy : O * two = y.length) : ∀ t, t ≤ O → (joinD x y one two t).length = t * (one + two)
  | 0, _ => by simp [joinD]
  | t + 1, h => by
    rw [joinD_succ, List.length_append, List.length_append, joinD_len hx hy t (by omega), piece_len (by rw [← hx]; exact join_place h), piece_len (by rw [← hy]; exact join_place h), Nat.succ_mul]
theorem joinD_mem {x y : List Int} {one two t : Nat} {n : Int} (h : n ∈ joinD x y one two t) : n ∈ x ∨ n ∈ y := by
  obtain ⟨o, _, h⟩ := List.mem_flatMap.1 h
  rcases List.mem_append.1 h with h | h
  · exact .inl (piece_mem h)
  · exact .inr (piece_mem h)
theorem joinX_succ (k : Nat) (a b : Arr) (n : Nat) : joinX k a b (n + 1) = (joinX k a b n || decide (n ≠ k ∧ a.shape.getD n 0 ≠ b.shape.getD n 0)) := by
  unfold joinX
  rw [List.range_succ, List.any_append]
  simp
theorem joinX_at {k : Nat} {a b : Arr} {n j : Nat} (h : joinX k a b n = false) (hj : j < n) (hk : j ≠ k) : a.shape.getD j 0 = b.shape.getD j 0 := by
  have := List.any_eq_false.1 h j (List.mem_range.2 hj)
  simp only [decide_eq_true_eq, not_and, Classical.not_not] at this
  exact this hk
theorem joinX_true {k : Nat} {a b : Arr} {n j : Nat} (hj : j < n) (hk : j ≠ k) (h : a.shape.getD j 0 ≠ b.shape.getD j 0) : joinX k a b n = true := List.any_eq_true.2 ⟨j, List.mem_range.2 hj, decide_eq_true ⟨hk, h⟩⟩
theorem same_ext {s t : List Int} (hl : s.length = t.length) (h : ∀ i, i < s.length → s.getD i 0 = t.getD i 0) : s = t := by
  refine List.ext_getElem hl fun i h1 h2 => ?_
  have := h i h1
  rwa [List.getD_eq_getElem?_getD, List.getD_eq_getElem?_getD, List.getElem?_eq_getElem h1, List.getElem?_eq_getElem h2] at this
theorem joinX_parts {k : Nat} {a b : Arr} (hl : a.shape.length = b.shape.length) (h : joinX k a b a.shape.length = false) : a.shape.take k = b.shape.take k ∧ a.shape.drop (k + 1) = b.shape.drop (k + 1) := by
  constructor
  · refine same_ext (by rw [List.length_take, List.length_take, hl]) fun i hi => ?_
    rw [List.length_take] at hi
    have := joinX_at h (show i < a.shape.length by omega) (by omega)
    rw [List.getD_eq_getElem?_getD, List.getD_eq_getElem?_getD, List.getElem?_take, List.getElem?_take, if_pos (by omega), if_pos (by omega)]
    rwa [List.getD_eq_getElem?_getD, List.getD_eq_getElem?_getD] at this
  · refine same_ext (by rw [List.length_drop, List.length_drop, hl]) fun i hi => ?_
    rw [List.length_drop] at hi
    have := joinX_at h (show k + 1 + i < a.shape.length by omega) (by omega)
    rw [List.getD_eq_getElem?_getD, List.getD_eq_getElem?_getD, List.getElem?_drop, List.getElem?_drop]
    rwa [List.getD_eq_getElem?_getD, List.getD_eq_getElem?_getD] at this
end Go.Proofs.YtadlpfbjnpbnoaaGreatDoor
namespace Go.Proofs.YtadlpfbjnpbnoaaGreatDoor
open Go.RowKit
def valL (bs ds : List Int) : Nat → Int
  | 0 => 0
  | n + 1 => w64 (w64 (valL bs ds n * bs.getD n 0) + ds.getD n 0)
def radixF (bs ds : List Int) : Int × Int := if 4096 < bs.length then (0, 7) else if bs.length ≠ ds.length then (0, 4) else (valL bs ds bs.length, 0)
set_option maxHeartbeats 8000000 in
set_option maxRecDepth 100000 in
theorem radix_Value (p q : Option Addr) (c k : Nat) (bs ds : List Int) (G : Rd) (w : World) (hS : Rd.le G w.cell?) (hb : Row encI 1 G p c bs) (hd : Row encI 1 G q k ds) (hl : bs.length ≤ 4503599627370496) :
    Calls Tryz.prog 155 #[.slice p bs.length c, .slice q ds.length k] w fun e w' => e = .returned (twoV (radixF bs ds)) ∧ Below w.heap.size w w' := by
  refine enterR (args := [_, _]) (m := []) (F := []) hS.sub rfl Tryz.func155 rfl Tryz.ntmps155 (by simp) ?_
  clear hS
  by_cases h1 : 4096 < bs.length
  · rw [show radixF bs ds = (0, 7) by unfold radixF; rw [if_pos h1]]
    ((repeat' (first|refine zza ?_|refine zc9 ?_|refine zzb fun w hw => ?_|refine zzh fun _ => ?_|refine zzi fun _ _ => ?_|refine zu1 ?_|refine zu2 ?_|refine zu3 ?_|refine zu4 fun _ => ?_|refine zzj (fun _ => ?_) fun _ => ?_)); (repeat' (refine CW_seq ?_; (repeat' (first|refine zza ?_|refine zc9 ?_|refine zzb fun w hw => ?_|refine zzh fun _ => ?_|refine zzi fun _ _ => ?_|refine zu1 ?_|refine zu2 ?_|refine zu3 ?_|refine zu4 fun _ => ?_|refine zzj (fun _ => ?_) fun _ => ?_)))))
    exact ⟨rfl, hw.below⟩
  by_cases h2 : bs.length ≠ ds.length
  · rw [show radixF bs ds = (0, 4) by unfold radixF; rw [if_neg h1, if_pos h2]]
    ((repeat' (first|refine zza ?_|refine zc9 ?_|refine zzb fun w hw => ?_|refine zzh fun _ => ?_|refine zzi fun _ _ => ?_|refine zu1 ?_|refine zu2 ?_|refine zu3 ?_|refine zu4 fun _ => ?_|refine zzj (fun _ => ?_) fun _ => ?_)); (repeat' (refine CW_seq ?_; (repeat' (first|refine zza ?_|refine zc9 ?_|refine zzb fun w hw => ?_|refine zzh fun _ => ?_|refine zzi fun _ _ => ?_|refine zu1 ?_|refine zu2 ?_|refine zu3 ?_|refine zu4 fun _ => ?_|refine zzj (fun _ => ?_) fun _ => ?_)))))
    exact ⟨rfl, hw.below⟩
  rw [show radixF bs ds = (valL bs ds bs.length, 0) by unfold radixF; rw [if_neg h1, if_neg h2]]
  have h3 : bs.length = ds.length := by omega
  clear h2
  ((repeat' (first|refine zza ?_|refine zc9 ?_|refine zzb fun w hw => ?_|refine zzh fun _ => ?_|refine zzi fun _ _ => ?_|refine zu1 ?_|refine zu2 ?_|refine zu3 ?_|refine zu4 fun _ => ?_|refine zzj (fun _ => ?_) fun _ => ?_)); (repeat' (refine CW_seq ?_; (repeat' (first|refine zza ?_|refine zc9 ?_|refine zzb fun w hw => ?_|refine zzh fun _ => ?_|refine zzi fun _ _ => ?_|refine zu1 ?_|refine zu2 ?_|refine zu3 ?_|refine zu4 fun _ => ?_|refine zzj (fun _ => ?_) fun _ => ?_)))))
  refine CW_loopK [(1,_),(19,_),(20,_),(5,_)] zcov (fun i : Nat => [(21, .int .i64 (i : Int)), (6, .int .i64 (valL bs ds i))]) (fun _ => [ro w [] G]) (fun i => i ≤ bs.length) (fun i => bs.length - i) 0 (Nat.zero_le _) zcov zent ?_
  rintro i hi
  by_cases hlt : i < bs.length
  · have hlt2 : i < ds.length := by omega
    have hp := hb.some_lt hlt
    have hq := hd.some_lt hlt2
    ((repeat' (first|refine zza ?_|refine zc9 ?_|refine zzb fun w hw => ?_|refine zzh fun _ => ?_|refine zzi fun _ _ => ?_|refine zu1 ?_|refine zu2 ?_|refine zu3 ?_|refine zu4 fun _ => ?_|refine zzj (fun _ => ?_) fun _ => ?_)); (repeat' (refine CW_seq ?_; (repeat' (first|refine zza ?_|refine zc9 ?_|refine zzb fun w hw => ?_|refine zzh fun _ => ?_|refine zzi fun _ _ => ?_|refine zu1 ?_|refine zu2 ?_|refine zu3 ?_|refine zu4 fun _ => ?_|refine zzj (fun _ => ?_) fun _ => ?_)))))
    refine WL_op rfl rfl (y_mul_w rfl rfl) ?_
    ((repeat' (first|refine zza ?_|refine zc9 ?_|refine zzb fun w hw => ?_|refine zzh fun _ => ?_|refine zzi fun _ _ => ?_|refine zu1 ?_|refine zu2 ?_|refine zu3 ?_|refine zu4 fun _ => ?_|refine zzj (fun _ => ?_) fun _ => ?_)); (repeat' (refine CW_seq ?_; (repeat' (first|refine zza ?_|refine zc9 ?_|refine zzb fun w hw => ?_|refine zzh fun _ => ?_|refine zzi fun _ _ => ?_|refine zu1 ?_|refine zu2 ?_|refine zu3 ?_|refine zu4 fun _ => ?_|refine zzj (fun _ => ?_) fun _ => ?_)))))
    refine WL_op rfl rfl (y_add_w rfl rfl) ?_
    ((repeat' (first|refine zza ?_|refine zc9 ?_|refine zzb fun w hw => ?_|refine zzh fun _ => ?_|refine zzi fun _ _ => ?_|refine zu1 ?_|refine zu2 ?_|refine zu3 ?_|refine zu4 fun _ => ?_|refine zzj (fun _ => ?_) fun _ => ?_)); (repeat' (refine CW_seq ?_; (repeat' (first|refine zza ?_|refine zc9 ?_|refine zzb fun w hw => ?_|refine zzh fun _ => ?_|refine zzi fun _ _ => ?_|refine zu1 ?_|refine zu2 ?_|refine zu3 ?_|refine zu4 fun _ => ?_|refine zzj (fun _ => ?_) fun _ => ?_)))))
    refine EX_loop' (i + 1) ⟨zcov, zent, by omega, by omega⟩
  · obtain rfl : i = bs.length := by omega
    ((repeat' (first|refine zza ?_|refine zc9 ?_|refine zzb fun w hw => ?_|refine zzh fun _ => ?_|refine zzi fun _ _ => ?_|refine zu1 ?_|refine zu2 ?_|refine zu3 ?_|refine zu4 fun _ => ?_|refine zzj (fun _ => ?_) fun _ => ?_)); (repeat' (refine CW_seq ?_; (repeat' (first|refine zza ?_|refine zc9 ?_|refine zzb fun w hw => ?_|refine zzh fun _ => ?_|refine zzi fun _ _ => ?_|refine zu1 ?_|refine zu2 ?_|refine zu3 ?_|refine zu4 fun _ => ?_|refine zzj (fun _ => ?_) fun _ => ?_)))))
    exact ⟨by rw [← errV_zero (T := 28)], hw.below⟩
end Go.Proofs.YtadlpfbjnpbnoaaGreatDoor
