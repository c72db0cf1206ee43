/-
  Plain: the reference's text of an array is the program's.
-/
import Derived.Test.YtbgjcadjkkddhaaDoorShown
import Derived.Test.YtbgjcadjkkddhaaDoorCharsPlain
namespace Go.Proofs.YtbgjcadjkkddhaaDoor

def cellsTo (ch rk : Bool) (d : List Int) (C R i0 : Nat) : Nat → List UInt8
  | 0 => []
  | j + 1 => cellsTo ch rk d C R i0 j ++ cellAt ch rk d C R (i0 + j)
theorem sepAt_row (C R r : Nat) (hC : 1 ≤ C) : sepAt C R (r * C) = rsep R r := by
  unfold sepAt rsep
  rw [Nat.mul_mod_left, Nat.mul_div_cancel _ (by omega : 0 < C)]
  by_cases h : 0 < r
  · rw [if_pos ⟨Nat.mul_pos h (by omega), rfl⟩, if_pos h]
  · have : r = 0 := by omega
    subst this; simp
theorem sepAt_in {C R r j : Nat} (h0 : 0 < j) (hj : j < C) : sepAt C R (r * C + j) = [] := by
  unfold sepAt
  rw [if_neg (fun h => ?_)]
  have h1 := h.2
  rw [Nat.add_comm, Nat.add_mul_mod_self_right, Nat.mod_eq_of_lt hj] at h1
  omega
theorem shown_row (ch rk : Bool) (d : List Int) (C R r : Nat) (hC : 1 ≤ C) : ∀ j, j < C → shownTo ch rk d C R (r * C + (j + 1)) = shownTo ch rk d C R (r * C) ++ (rsep R r ++ cellsTo ch rk d C R (r * C) (j + 1))
  | 0, _ => by
    rw [show r * C + (0 + 1) = r * C + 1 by omega, shownTo, sepAt_row C R r hC]
    simp [cellsTo]
  | j + 1, h => by
    have ih := shown_row ch rk d C R r hC j (by omega)
    rw [show r * C + (j + 1 + 1) = (r * C + (j + 1)) + 1 by omega, shownTo, ih, sepAt_in (by omega) h, cellsTo.eq_def ch rk d C R (r * C) (j + 1 + 1)]
    simp
theorem shown_rows (ch rk : Bool) (d : List Int) (C R : Nat) (hC : 1 ≤ C) : ∀ n, shownTo ch rk d C R (n * C) = gText (fun r => cellsTo ch rk d C R (r * C) C) R n
  | 0 => by simp [shownTo, gText]
  | n + 1 => by
    have h := shown_row ch rk d C R n hC (C - 1) (by omega)
    rw [show C - 1 + 1 = C by omega] at h
    rw [Nat.add_mul, Nat.one_mul, h, shown_rows ch rk d C R hC n, gText]
theorem gText_congr {f g : Nat → List UInt8} {R : Nat} : ∀ n, (∀ r, r < n → f r = g r) → gText f R n = gText g R n
  | 0, _ => rfl
  | n + 1, h => by rw [gText, gText, gText_congr n (fun r hr => h r (by omega)), h n (by omega)]

/-! characters -/
theorem cells_chars (rk : Bool) (d : List Int) (C R i0 : Nat) : ∀ j, i0 + j ≤ d.length → cellsTo true rk d C R i0 j = charsL ((d.drop i0).take j)
  | 0, _ => by simp [cellsTo, charsL]
  | j + 1, h => by
    rw [cellsTo, cells_chars rk d C R i0 j (by omega), charsL_take (by simp; omega)]
    unfold cellAt
    rw [if_pos rfl]
    congr 2
    rw [List.getD_eq_getElem?_getD, List.getD_eq_getElem?_getD, List.getElem?_drop]
theorem shown_chars (rk : Bool) (d : List Int) (C R n : Nat) (hC : 1 ≤ C) (hn : d.length = n * C) : shownTo true rk d C R d.length = gText (rowC d C) R n := by
  rw [hn, shown_rows true rk d C R hC n]
  refine gText_congr n fun r hr => ?_
  have h1 : (r + 1) * C ≤ n * C := Nat.mul_le_mul_right _ hr
  rw [Nat.add_mul, Nat.one_mul] at h1
  exact cells_chars rk d C R (r * C) C (by omega)

/-! numbers -/
theorem widths_row (C m : Nat) : ∀ (l w rest : List Int) (j0 : Nat), j0 + l.length = C → w.length = C → ∃ w', widthsFrom C (m * C + j0) (l ++ rest) w = widthsFrom C ((m + 1) * C) rest w' ∧ w'.length = C ∧ ∀ j, j < C → w'.getD j 0 = if j0 ≤ j then max (w.getD j 0) (numWidth (l.getD (j - j0) 0) : Int) else w.getD j 0
  | [], w, rest, j0, h, hw => by
    refine ⟨w, ?_, hw, fun j hj => ?_⟩
    · rw [List.nil_append, Nat.add_mul, Nat.one_mul]; congr 1; simp at h; omega
    · rw [if_neg (by simp at h; omega)]
  | x :: l, w, rest, j0, h, hw => by
    simp only [List.length_cons] at h
    have hm : (m * C + j0) % C = j0 := by rw [Nat.add_comm, Nat.add_mul_mod_self_right, Nat.mod_eq_of_lt (by omega)]
    obtain ⟨w', h1, h2, h3⟩ := widths_row C m l (w.set j0 (max (w.getD j0 0) (numWidth x : Int))) rest (j0 + 1) (by omega) (by simp [hw])
    refine ⟨w', ?_, h2, fun j hj => ?_⟩
    · rw [List.cons_append, widthsFrom, hm, Nat.add_assoc, h1]
    · rw [h3 j hj, getD_set]
      by_cases hj0 : j = j0
      · subst hj0
        rw [if_neg (by omega), if_pos ⟨rfl, by omega⟩, if_pos (Nat.le_refl _), Nat.sub_self]
        simp
      · by_cases hlt : j0 ≤ j
        · rw [if_pos (by omega), if_neg (fun h => hj0 h.1.symm), if_pos hlt, show j - j0 = (j - (j0 + 1)) + 1 by omega]
          simp
        · rw [if_neg (by omega), if_neg (fun h => hj0 h.1.symm), if_neg hlt]
theorem widths_rows (C : Nat) (hC : 1 ≤ C) : ∀ (r m : Nat) (l w : List Int), l.length = r * C → w.length = C → ∀ j, j < C → (widthsFrom C (m * C) l w).getD j 0 = (List.range r).foldl (fun a k => max a (numWidth (l.getD (k * C + j) 0) : Int)) (w.getD j 0)
  | 0, m, l, w, h, hw, j, hj => by
    have : l = [] := List.eq_nil_of_length_eq_zero (by simpa using h)
    subst this; simp [widthsFrom]
  | r + 1, m, l, w, h, hw, j, hj => by
    rw [Nat.add_mul, Nat.one_mul] at h
    have hl : l = l.take C ++ l.drop C := (List.take_append_drop _ _).symm
    obtain ⟨w', h1, h2, h3⟩ := widths_row C m (l.take C) w (l.drop C) 0 (by simp; omega) hw
    rw [← hl, Nat.add_zero] at h1
    rw [h1, widths_rows C hC r (m + 1) (l.drop C) w' (by simp; omega) h2 j hj, h3 j hj, if_pos (Nat.zero_le _), Nat.sub_zero, List.range_succ_eq_map, List.foldl_cons, List.foldl_map]
    have e1 : (l.take C).getD j 0 = l.getD j 0 := by rw [List.getD_eq_getElem?_getD, List.getD_eq_getElem?_getD, List.getElem?_take, if_pos hj]
    rw [e1]
    have e2 : ∀ k, (l.drop C).getD (k * C + j) 0 = l.getD ((k + 1) * C + j) 0 := fun k => by
      rw [List.getD_eq_getElem?_getD, List.getD_eq_getElem?_getD, List.getElem?_drop, Nat.add_mul, Nat.one_mul]
      congr 2; omega
    simp only [e2, Nat.zero_mul, Nat.zero_add, Nat.succ_eq_add_one]
theorem colWide_fold (d : List Int) (C R t j : Nat) : ∀ r, (colWide d C R t j r : Int) = (List.range r).foldl (fun a k => max a (numWidth (d.getD ((t * R + k) * C + j) 0) : Int)) 0
  | 0 => rfl
  | r + 1 => by
    rw [colWide, List.range_succ, List.foldl_append, ← colWide_fold d C R t j r]
    simp
    omega
theorem foldl_congr' {f g : Int → Nat → Int} : ∀ {l : List Nat} (_ : ∀ a k, k ∈ l → f a k = g a k) (a : Int), l.foldl f a = l.foldl g a
  | [], _, _ => rfl
  | x :: l, h, a => by rw [List.foldl_cons, List.foldl_cons, h a x (by simp)]; exact foldl_congr' (fun a k hk => h a k (by simp [hk])) _
theorem tableWide_col {d : List Int} {C R t j : Nat} (hC : 1 ≤ C) (hj : j < C) (hd : (t + 1) * (R * C) ≤ d.length) : (tableWide C true ((d.drop (t * (R * C))).take (R * C))).getD j 0 = (colWide d C R t j R : Int) := by
  rw [Nat.add_mul, Nat.one_mul] at hd
  have h := widths_rows C hC R 0 ((d.drop (t * (R * C))).take (R * C)) (List.replicate C 0) (by simp; omega) (by simp) j hj
  rw [Nat.zero_mul] at h
  unfold tableWide
  rw [if_pos rfl, h, colWide_fold]
  have e0 : (List.replicate C (0 : Int)).getD j 0 = 0 := by simp [List.getD_eq_getElem?_getD, hj]
  rw [e0]
  refine foldl_congr' ?_ 0
  intro a k hk
  have hk' : k < R := List.mem_range.1 hk
  have h1 : (k + 1) * C ≤ R * C := Nat.mul_le_mul_right _ hk'
  rw [Nat.add_mul, Nat.one_mul] at h1
  congr 2
  rw [List.getD_eq_getElem?_getD, List.getD_eq_getElem?_getD, List.getElem?_take, if_pos (by omega), List.getElem?_drop]
  congr 3
  rw [Nat.add_mul, Nat.mul_assoc]; omega

theorem rep_repeat (k : Nat) : Lib.repeatL [32] k = List.replicate k 32 := by
  have := Lib.repeatL_replicate 32 1 k
  simpa using this
theorem numsFrom_snoc (wide : List Int) (x : Int) : ∀ (l : List Int) (i : Nat), numsFrom wide i (l ++ [x]) = numsFrom wide i l ++ ((if 0 < i + l.length then [32] else []) ++ cellText wide (i + l.length) x)
  | [], i => by simp [numsFrom]
  | y :: l, i => by
    rw [List.cons_append, numsFrom, numsFrom_snoc wide x l (i + 1), numsFrom, List.length_cons, show i + 1 + l.length = i + (l.length + 1) by omega]
    simp only [List.append_assoc]
theorem cells_nums {d : List Int} {C R t r : Nat} (rk : Bool) (hC : 1 ≤ C) (hr : r < R) (hd : (t + 1) * (R * C) ≤ d.length) : ∀ j, j ≤ C → cellsTo false rk d C R ((t * R + r) * C) j = numsFrom (tableWide C rk ((d.drop (t * (R * C))).take (R * C))) 0 ((d.drop ((t * R + r) * C)).take j)
  | 0, _ => by simp [cellsTo, numsFrom]
  | j + 1, h => by
    have h1 : (t + 1) * (R * C) = t * (R * C) + R * C := by rw [Nat.add_mul, Nat.one_mul]
    have h2 : (r + 1) * C ≤ R * C := Nat.mul_le_mul_right _ hr
    have h3 : (t * R + r) * C = t * (R * C) + r * C := by rw [Nat.add_mul, Nat.mul_assoc]
    have h4 : (r + 1) * C = r * C + C := by rw [Nat.add_mul, Nat.one_mul]
    have hi : (t * R + r) * C + j < d.length := by omega
    have e1 : ((t * R + r) * C + j) % C = j := by rw [Nat.add_comm, Nat.add_mul_mod_self_right, Nat.mod_eq_of_lt (by omega)]
    have e2 : ((t * R + r) * C + j) / C = t * R + r := by
      rw [Nat.add_comm, Nat.add_mul_div_right _ _ (by omega : 0 < C), Nat.div_eq_of_lt (by omega)]; omega
    have e3 : (t * R + r) / R = t := by
      rw [Nat.add_comm, Nat.add_mul_div_right _ _ (by omega : 0 < R), Nat.div_eq_of_lt hr]; omega
    have e4 : (d.drop ((t * R + r) * C)).take (j + 1) = (d.drop ((t * R + r) * C)).take j ++ [d.getD ((t * R + r) * C + j) 0] := by
      rw [List.take_add_one, List.getElem?_drop, getD_some hi]; rfl
    have e5 : ((d.drop ((t * R + r) * C)).take j).length = j := by simp; omega
    rw [cellsTo, cells_nums rk hC hr hd j (by omega), e4, numsFrom_snoc, e5, Nat.zero_add]
    unfold cellAt cellText
    rw [if_neg (by simp), e1, e2, e3]
    congr 1
    congr 1
    · by_cases h0 : 0 < j
      · rw [if_neg (by omega), if_pos h0]
      · rw [if_pos (by omega), if_neg h0]
    congr 1
    cases rk with
    | false => simp [tableWide]
    | true =>
      have hl : (tableWide C true ((d.drop (t * (R * C))).take (R * C))).length = C := by
        unfold tableWide; rw [if_pos rfl, widths_len]; simp
      rw [if_pos rfl, hl, if_pos (by omega), tableWide_col hC (by omega) hd, rep_repeat]
      congr 1
      omega

def rowsG (g : Nat → List UInt8) : Nat → Nat → List UInt8
  | _, 0 => []
  | i, r + 1 => (if 0 < i then [10] else []) ++ (g i ++ rowsG g (i + 1) r)
theorem rowsG_congr {g g' : Nat → List UInt8} : ∀ (r i : Nat), (∀ k, k < i + r → g k = g' k) → rowsG g i r = rowsG g' i r
  | 0, _, _ => rfl
  | r + 1, i, h => by rw [rowsG, rowsG, h i (by omega), rowsG_congr r (i + 1) (fun k hk => h k (by omega))]
theorem rowsFrom_G (wide tb : List Int) (C : Nat) : ∀ (r i : Nat), rowsFrom wide C i r (tb.drop (i * C)) = rowsG (fun k => numsFrom wide 0 ((tb.drop (k * C)).take C)) i r
  | 0, i => by simp [rowsFrom, rowsG]
  | r + 1, i => by rw [rowsFrom, rowsG, List.drop_drop, show i * C + C = (i + 1) * C by rw [Nat.add_mul, Nat.one_mul], rowsFrom_G wide tb C r (i + 1)]
theorem rowsG_snoc (g : Nat → List UInt8) : ∀ (r i : Nat), rowsG g i (r + 1) = rowsG g i r ++ ((if 0 < i + r then [10] else []) ++ g (i + r))
  | 0, i => by simp [rowsG]
  | r + 1, i => by
    rw [rowsG, rowsG_snoc g r (i + 1), rowsG, show i + 1 + r = i + (r + 1) by omega]
    simp only [List.append_assoc]
theorem gText_table (f : Nat → List UInt8) (R t : Nat) : ∀ i, i ≤ R → gText f R (t * R + i) = gText f R (t * R) ++ ((if 0 < t ∧ 0 < i then [10, 10] else []) ++ rowsG (fun k => f (t * R + k)) 0 i)
  | 0, _ => by simp [rowsG]
  | i + 1, h => by
    have e : gText f R (t * R + i + 1) = gText f R (t * R + i) ++ (rsep R (t * R + i) ++ f (t * R + i)) := rfl
    have hm : (t * R + i) % R = i := by rw [Nat.add_comm, Nat.add_mul_mod_self_right, Nat.mod_eq_of_lt (by omega)]
    rw [← Nat.add_assoc, e, gText_table f R t i (by omega), rowsG_snoc]
    unfold rsep
    rw [hm, Nat.zero_add]
    by_cases h0 : 0 < i
    · rw [if_pos (by omega : 0 < t * R + i), if_neg (by omega : ¬ i = 0), if_pos h0]
      by_cases ht : 0 < t
      · rw [if_pos ⟨ht, h0⟩, if_pos ⟨ht, by omega⟩]; simp
      · rw [if_neg (fun h => ht h.1), if_neg (fun h => ht h.1)]; simp
    · have hi : i = 0 := by omega
      subst hi
      rw [if_neg (fun h => h0 h.2), if_neg h0, if_pos rfl]
      by_cases ht : 0 < t
      · rw [if_pos (show 0 < t * R + 0 by rw [Nat.add_zero]; exact Nat.mul_pos ht (by omega)), if_pos ⟨ht, by omega⟩]; simp [rowsG]
      · have ht0 : t = 0 := by omega
        subst ht0
        simp [rowsG]
theorem tables_text (rk : Bool) (d : List Int) {C R Q : Nat} (hC : 1 ≤ C) (hR : 1 ≤ R) (hd : d.length = Q * (R * C)) : ∀ (m t f : Nat), t + m = Q → m ≤ f →
    gText (fun r => cellsTo false rk d C R (r * C) C) R (t * R) ++ ((if 0 < t ∧ t < Q then [10, 10] else []) ++ tablesFrom R C rk f (d.drop (t * (R * C)))) = gText (fun r => cellsTo false rk d C R (r * C) C) R (Q * R)
  | 0, t, f, ht, hf => by
    obtain rfl : t = Q := by omega
    have : d.drop (t * (R * C)) = [] := by rw [← hd]; simp
    rw [this, if_neg (by omega)]
    cases f <;> simp [tablesFrom]
  | m + 1, t, 0, ht, hf => by omega
  | m + 1, t, f + 1, ht, hf => by
    have hT : 1 ≤ R * C := Nat.mul_pos hR hC
    have h1 : (t + 1) * (R * C) ≤ Q * (R * C) := Nat.mul_le_mul_right _ (by omega)
    have h2 : (t + 1) * (R * C) = t * (R * C) + R * C := by rw [Nat.add_mul, Nat.one_mul]
    have hne : d.drop (t * (R * C)) ≠ [] := fun h => by
      have := congrArg List.length h
      simp at this
      omega
    rw [tablesFrom, if_neg hne, List.drop_drop, ← h2]
    have ih := tables_text rk d hC hR hd m (t + 1) f (by omega) (by omega)
    rw [← ih]
    have hl : R * C < (d.drop (t * (R * C))).length ↔ t + 1 < Q := by
      rw [List.length_drop, hd]
      constructor
      · intro h
        exact Nat.lt_of_mul_lt_mul_right (by omega : (t + 1) * (R * C) < Q * (R * C))
      · intro h
        have := Nat.mul_lt_mul_of_pos_right h hT
        omega
    have hrow : rowsFrom (tableWide C rk ((d.drop (t * (R * C))).take (R * C))) C 0 R ((d.drop (t * (R * C))).take (R * C)) = rowsG (fun k => cellsTo false rk d C R ((t * R + k) * C) C) 0 R := by
      have h3 := rowsFrom_G (tableWide C rk ((d.drop (t * (R * C))).take (R * C))) ((d.drop (t * (R * C))).take (R * C)) C R 0
      rw [Nat.zero_mul, List.drop_zero] at h3
      rw [h3]
      refine rowsG_congr R 0 fun k hk => ?_
      rw [Nat.zero_add] at hk
      rw [cells_nums rk hC hk (by rw [hd]; exact h1) C (Nat.le_refl _)]
      have h4 : (k + 1) * C ≤ R * C := Nat.mul_le_mul_right _ hk
      rw [Nat.add_mul, Nat.one_mul] at h4
      have h5 : (t * R + k) * C = t * (R * C) + k * C := by rw [Nat.add_mul, Nat.mul_assoc]
      congr 1
      rw [List.drop_take, List.drop_drop, List.take_take, Nat.min_eq_left (by omega), h5]
    have hg := gText_table (fun r => cellsTo false rk d C R (r * C) C) R t R (Nat.le_refl _)
    rw [hrow, show (t + 1) * R = t * R + R by rw [Nat.add_mul, Nat.one_mul], hg]
    have e1 : (if 0 < t ∧ t < Q then ([10, 10] : List UInt8) else []) = if 0 < t ∧ 0 < R then [10, 10] else [] := by
      by_cases h : 0 < t
      · rw [if_pos ⟨h, by omega⟩, if_pos ⟨h, by omega⟩]
      · rw [if_neg (fun h' => h h'.1), if_neg (fun h' => h h'.1)]
    have e2 : (if R * C < (d.drop (t * (R * C))).length then ([10, 10] : List UInt8) else []) = if 0 < t + 1 ∧ t + 1 < Q then [10, 10] else [] := by
      by_cases h : t + 1 < Q
      · rw [if_pos (hl.2 h), if_pos ⟨by omega, h⟩]
      · rw [if_neg (fun h' => h (hl.1 h')), if_neg (fun h' => h h'.2)]
    rw [e1, e2]
    simp only [List.append_assoc]
theorem shown_nums (rk : Bool) (d : List Int) {C R Q : Nat} (hC : 1 ≤ C) (hR : 1 ≤ R) (hd : d.length = Q * (R * C)) : shownTo false rk d C R d.length = tablesFrom R C rk d.length d := by
  have hn : d.length = (Q * R) * C := by rw [hd, Nat.mul_assoc]
  have hT : 1 ≤ R * C := Nat.mul_pos hR hC
  have hQ : Q ≤ d.length := by rw [hd]; exact Nat.le_mul_of_pos_right _ hT
  have h := tables_text rk d hC hR hd Q 0 d.length (by omega) hQ
  rw [Nat.zero_mul, Nat.zero_mul, List.drop_zero, if_neg (by omega)] at h
  simp only [gText, List.nil_append] at h
  rw [h, hn, shown_rows false rk d C R hC (Q * R)]

end Go.Proofs.YtbgjcadjkkddhaaDoor
