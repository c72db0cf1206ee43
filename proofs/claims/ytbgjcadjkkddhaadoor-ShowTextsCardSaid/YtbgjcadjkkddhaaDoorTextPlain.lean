/-
  Plain: an array of numbers as a text; shapes as products.
-/
import Derived.Test.YtbgjcadjkkddhaaDoorShowPlain
import Derived.Test.YtbgjcadjkkddhaaDoorShape
namespace Go.Proofs.YtbgjcadjkkddhaaDoor

def rowsFrom (wide : List Int) (C : Nat) : Nat → Nat → List Int → List UInt8
  | _, 0, _ => []
  | i, r + 1, t => (if 0 < i then [10] else []) ++ (numsFrom wide 0 (t.take C) ++ rowsFrom wide C (i + 1) r (t.drop C))
def tableWide (C : Nat) (rk : Bool) (t : List Int) : List Int := if rk then widthsFrom C 0 t (List.replicate C 0) else []
def tablesFrom (R C : Nat) (rk : Bool) : Nat → List Int → List UInt8
  | 0, _ => []
  | f + 1, d => if d = [] then [] else rowsFrom (tableWide C rk (d.take (R * C))) C 0 R (d.take (R * C)) ++ ((if R * C < d.length then [10, 10] else []) ++ tablesFrom R C rk f (d.drop (R * C)))
/-- rows and columns -/
def dimR (s : List Int) : Nat := if 1 < s.length then (s.getD (s.length - 2) 0).toNat else 1
def dimC (s d : List Int) : Nat := if 1 < s.length then (s.getD (s.length - 1) 0).toNat else d.length
/-- the text of an array of numbers -/
def numsText (s d : List Int) : List UInt8 :=
  if checkF false s d ≠ 0 then [] else tablesFrom (dimR s) (dimC s d) (decide (1 < s.length)) d.length d

theorem widths_len (C : Nat) : ∀ (t w : List Int) (i : Nat), (widthsFrom C i t w).length = w.length
  | [], w, i => rfl
  | n :: r, w, i => by rw [widthsFrom, widths_len C r]; simp
theorem getD_set {w : List Int} {j k : Nat} {x : Int} : (w.set k x).getD j 0 = if k = j ∧ k < w.length then x else w.getD j 0 := by
  rw [List.getD_eq_getElem?_getD, List.getD_eq_getElem?_getD, List.getElem?_set]
  by_cases h : k = j
  · subst h
    by_cases h2 : k < w.length
    · simp [h2]
    · simp [h2]
  · simp [h]
theorem widths_mono (C : Nat) : ∀ (t w : List Int) (i j : Nat), w.getD j 0 ≤ (widthsFrom C i t w).getD j 0
  | [], w, i, j => Int.le_refl _
  | n :: r, w, i, j => by
    rw [widthsFrom]
    refine Int.le_trans ?_ (widths_mono C r _ (i + 1) j)
    rw [getD_set]
    split
    · rename_i h; rw [h.1]; omega
    · exact Int.le_refl _
theorem widths_ge (C : Nat) (hC : 0 < C) : ∀ (t w : List Int) (i k : Nat), w.length = C → k < t.length → (numWidth (t.getD k 0) : Int) ≤ (widthsFrom C i t w).getD ((i + k) % C) 0
  | [], w, i, k, _, hk => by simp at hk
  | n :: r, w, i, 0, hw, _ => by
    rw [widthsFrom, Nat.add_zero]
    refine Int.le_trans ?_ (widths_mono C r _ (i + 1) _)
    rw [getD_set, if_pos ⟨rfl, by rw [hw]; exact Nat.mod_lt _ hC⟩]
    simp only [List.getD_cons_zero]
    omega
  | n :: r, w, i, k + 1, hw, hk => by
    rw [widthsFrom]
    have := widths_ge C hC r (w.set (i % C) (max (w.getD (i % C) 0) (numWidth n : Int))) (i + 1) k (by simp [hw]) (by simpa using hk)
    simp only [List.getD_cons_succ]
    rwa [show i + (k + 1) = i + 1 + k by omega]
theorem widths_le (C : Nat) : ∀ (t w : List Int) (i : Nat), (∀ x ∈ t, I64 x) → (∀ x ∈ w, 0 ≤ x ∧ x ≤ 21) → ∀ x ∈ widthsFrom C i t w, 0 ≤ x ∧ x ≤ 21
  | [], w, i, _, hw => hw
  | n :: r, w, i, ht, hw => by
    rw [widthsFrom]
    refine widths_le C r _ (i + 1) (fun x hx => ht x (List.mem_cons_of_mem _ hx)) fun x hx => ?_
    rcases List.mem_or_eq_of_mem_set hx with h | h
    · exact hw x h
    · have h1 := numWidth_le (ht n List.mem_cons_self).1 (ht n List.mem_cons_self).2
      have h2 : 0 ≤ w.getD (i % C) 0 ∧ w.getD (i % C) 0 ≤ 21 := by
        by_cases hl : i % C < w.length
        · exact hw _ (List.mem_of_getElem? (getD_some hl))
        · rw [List.getD_eq_getElem?_getD, List.getElem?_eq_none (by omega)]; simp
      subst h
      omega

def prodL : List Int → Int
  | [] => 1
  | n :: r => n * prodL r
theorem prodL_append (a b : List Int) : prodL (a ++ b) = prodL a * prodL b := by
  induction a with
  | nil => simp [prodL]
  | cons x r ih => simp only [List.cons_append, prodL, ih, Int.mul_assoc]
theorem prodF_ok : ∀ (s : List Int) (a m : Int), prodF a s = (m, 0) → m = a * prodL s
  | [], a, m, h => by simp only [prodF, Prod.mk.injEq] at h; simp [prodL, h.1]
  | n :: r, a, m, h => by
    rw [prodF] at h
    split at h
    · cases h
    · rw [prodF_ok r _ _ h, prodL, Int.mul_assoc]
theorem prodF_le : ∀ (s : List Int) (a m : Int), a ≤ 4096 → prodF a s = (m, 0) → m ≤ 4096
  | [], a, m, ha, h => by simp only [prodF, Prod.mk.injEq] at h; omega
  | n :: r, a, m, ha, h => by
    rw [prodF] at h
    split at h
    · cases h
    · exact prodF_le r _ _ (by omega) h
theorem prodL_pos : ∀ (s : List Int), (∀ x ∈ s, 1 ≤ x) → 1 ≤ prodL s
  | [], _ => by simp [prodL]
  | n :: r, h => by
    have h1 := h n List.mem_cons_self
    have h2 := prodL_pos r fun x hx => h x (List.mem_cons_of_mem _ hx)
    rw [prodL]
    have : 1 * 1 ≤ n * prodL r := Int.mul_le_mul h1 h2 (by omega) (by omega)
    omega

/-- what a shape without fault, of some cells, is -/
theorem countF_pos {s : List Int} {m : Int} (h : countF s = (m, 0)) (hm : 0 < m) : s.length ≤ 6 ∧ m ≤ 4096 ∧ m = prodL s ∧ ∀ x ∈ s, 1 ≤ x ∧ x ≤ 4096 := by
  unfold countF at h
  split at h
  · cases h
  · split at h
    · rename_i h1; simp only [Prod.mk.injEq] at h; exact absurd h.2 h1
    · rename_i h0 h1
      split at h
      · simp only [Prod.mk.injEq] at h; omega
      · rename_i h2
        have hb := badAxis_zero (s := s) (by simpa using h1)
        have hz := hasZero_false (s := s) (by simpa using h2)
        refine ⟨by omega, prodF_le s 1 m (by omega) h, by have := prodF_ok s 1 m h; omega, fun x hx => ?_⟩
        have := hb x hx
        have := hz x hx
        omega

theorem last_two {s : List Int} (h : 1 < s.length) : ∃ x r c, s = x ++ [r, c] ∧ s.getD (s.length - 2) 0 = r ∧ s.getD (s.length - 1) 0 = c := by
  refine ⟨s.take (s.length - 2), s.getD (s.length - 2) 0, s.getD (s.length - 1) 0, ?_, rfl, rfl⟩
  have h1 : s = s.take (s.length - 2) ++ s.drop (s.length - 2) := (List.take_append_drop _ _).symm
  have h2 : s.drop (s.length - 2) = [s.getD (s.length - 2) 0, s.getD (s.length - 1) 0] := by
    rw [drop_getD (by omega), show s.length - 2 + 1 = s.length - 1 by omega, drop_getD (by omega), show s.length - 1 + 1 = s.length by omega, List.drop_length]
  rw [← h2]; exact h1

/-- rows and columns of an array without fault, of some cells -/
theorem dims_ok {s d : List Int} (h : checkF false s d = 0) (hd : d ≠ []) :
    1 ≤ dimR s ∧ dimR s ≤ 4096 ∧ 1 ≤ dimC s d ∧ dimC s d ≤ 4096 ∧ dimR s * dimC s d ≤ 4096 ∧ d.length ≤ 4096 ∧ (∃ q, d.length = q * (dimR s * dimC s d)) ∧
    (1 < s.length → s.getD (s.length - 2) 0 = (dimR s : Int) ∧ s.getD (s.length - 1) 0 = (dimC s d : Int)) := by
  unfold checkF at h
  split at h
  · rename_i h1; exact absurd h h1
  · rename_i h1
    split at h
    · cases h
    · rename_i h2
      have hc : countF s = ((d.length : Int), 0) := by
        have a1 : (countF s).2 = 0 := by simpa using h1
        have a2 : (countF s).1 = (d.length : Int) := by
          have := Decidable.not_not.1 h2
          exact this.symm
        rw [← a1, ← a2]
      have hpos : 0 < d.length := List.length_pos_iff.2 hd
      obtain ⟨_, hm, hp, hx⟩ := countF_pos hc (by omega)
      by_cases hl : 1 < s.length
      · obtain ⟨x, r, c, hs, hr, hcc⟩ := last_two hl
        have hmr : r ∈ s := by rw [hs]; simp
        have hmc : c ∈ s := by rw [hs]; simp
        have br := hx r hmr
        have bc := hx c hmc
        have hR : (dimR s : Int) = r := by unfold dimR; rw [if_pos hl, hr]; omega
        have hC : (dimC s d : Int) = c := by unfold dimC; rw [if_pos hl, hcc]; omega
        have hpx : 1 ≤ prodL x := prodL_pos x fun y hy => (hx y (by rw [hs]; exact List.mem_append_left _ hy)).1
        have hprod : (d.length : Int) = prodL x * (r * c) := by rw [hp, hs, prodL_append]; simp [prodL]
        have hrc : 1 ≤ r * c := by have := Int.mul_le_mul br.1 bc.1 (by omega) (by omega : 0 ≤ r); omega
        have hrcm : r * c ≤ d.length := by
          have := Int.mul_le_mul_of_nonneg_right hpx (by omega : 0 ≤ r * c)
          omega
        refine ⟨by omega, by omega, by omega, by omega, ?_, by omega, ⟨(prodL x).toNat, ?_⟩, fun _ => ⟨by rw [hr]; omega, by rw [hcc]; omega⟩⟩
        · have : ((dimR s * dimC s d : Nat) : Int) = r * c := by rw [Int.natCast_mul, hR, hC]
          omega
        · have e1 : ((prodL x).toNat : Int) = prodL x := by omega
          have : ((d.length : Nat) : Int) = (((prodL x).toNat * (dimR s * dimC s d) : Nat) : Int) := by
            rw [Int.natCast_mul, Int.natCast_mul, hR, hC, e1, hprod]
          exact_mod_cast this
      · have hR : dimR s = 1 := by unfold dimR; rw [if_neg hl]
        have hC : dimC s d = d.length := by unfold dimC; rw [if_neg hl]
        rw [hR, hC]
        exact ⟨by omega, by omega, by omega, by omega, by omega, by omega, ⟨1, by omega⟩, fun h => absurd h hl⟩

theorem wide_le {C : Nat} {rk : Bool} {tbl : List Int} (ht : ∀ x ∈ tbl, I64 x) : ∀ x ∈ tableWide C rk tbl, 0 ≤ x ∧ x ≤ 21 := by
  cases rk with
  | false => intro x hx; cases hx
  | true => exact widths_le C tbl (List.replicate C 0) 0 ht fun y hy => by rw [(List.mem_replicate.1 hy).2]; omega
theorem wide_ok {C k o i : Nat} {rk : Bool} {tbl row : List Int} (hC : 0 < C) (ho : o = k * C) (hoC : o + C ≤ tbl.length) (hrow : row = (tbl.drop o).take C) (hi : i < C) (hi2 : i < (tableWide C rk tbl).length) (ht : ∀ x ∈ tbl, I64 x) :
    (numWidth (row.getD i 0) : Int) ≤ (tableWide C rk tbl).getD i 0 ∧ (tableWide C rk tbl).getD i 0 ≤ 21 := by
  refine ⟨?_, (wide_le ht _ (List.mem_of_getElem? (getD_some hi2))).2⟩
  cases rk with
  | false => simp [tableWide] at hi2
  | true =>
    have h1 := widths_ge C hC tbl (List.replicate C 0) 0 (o + i) (by simp) (by omega)
    have h2 : (0 + (o + i)) % C = i := by
      rw [Nat.zero_add, ho, Nat.add_comm, Nat.add_mul_mod_self_right, Nat.mod_eq_of_lt hi]
    have h3 : row.getD i 0 = tbl.getD (o + i) 0 := by
      rw [hrow, List.getD_eq_getElem?_getD, List.getD_eq_getElem?_getD, List.getElem?_take, if_pos hi, List.getElem?_drop]
    rw [h2] at h1
    rw [h3]
    exact h1
theorem numsFrom_len {wide : List Int} (hw : ∀ x ∈ wide, 0 ≤ x ∧ x ≤ 21) : ∀ (row : List Int) (i : Nat), (∀ x ∈ row, I64 x) → (numsFrom wide i row).length ≤ 44 * row.length
  | [], _, _ => by simp [numsFrom]
  | n :: r, i, h => by
    have ih := numsFrom_len hw r (i + 1) fun x hx => h x (List.mem_cons_of_mem _ hx)
    have h1 := numWidth_le (h n List.mem_cons_self).1 (h n List.mem_cons_self).2
    have h2 := numText_length n
    have h3 := numWidth_pos n
    have hc : (cellText wide i n).length ≤ 43 := by
      unfold cellText
      rw [List.length_append]
      split
      · rename_i hi
        have h4 := (hw _ (List.mem_of_getElem? (getD_some hi))).2
        rw [Lib.repeatL_length, List.length_singleton]
        omega
      · simp; omega
    have hs : ∀ c : Prop, [Decidable c] → (if c then ([32] : List UInt8) else []).length ≤ 1 := fun c _ => by split <;> simp
    have := hs (0 < i)
    rw [numsFrom, List.length_append, List.length_append, List.length_cons]
    omega
theorem tables_step {R C g : Nat} {rk : Bool} {d tbl : List Int} (hd : d ≠ []) (ht : tbl = d.take (R * C)) : tablesFrom R C rk (g + 1) d = rowsFrom (tableWide C rk tbl) C 0 R tbl ++ ((if R * C < d.length then [10, 10] else []) ++ tablesFrom R C rk g (d.drop (R * C))) := by
  rw [tablesFrom, if_neg hd, ← ht]
theorem rows_end {wide : List Int} {C i : Nat} {t : List Int} : rowsFrom wide C i 0 t = [] := rfl

end Go.Proofs.YtbgjcadjkkddhaaDoor
