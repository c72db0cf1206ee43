/-
  Plain: products of axes; places of cells; the indices of an array one by one.
  Plain: what the functions of the package cut tell.
-/
import Derived.Test.YtadlpfbjnpbnoaaGreatDoorZGo
import Derived.Test.YtadlpfbjnpbnoaaGreatDoorZReshape
namespace Go.Proofs.YtadlpfbjnpbnoaaGreatDoor
open Go.RowKit
theorem w64_in {n : Int} (h : I64 n) : w64 n = n := by
  unfold w64
  rw [IntWalk.i64_left]
  exact IntWalk.wrap64_in _ h
/-- product -/
def mulL : List Int → Int
  | [] => 1
  | x :: r => x * mulL r
theorem mul_append : ∀ s t : List Int, mulL (s ++ t) = mulL s * mulL t
  | [], t => (Int.one_mul _).symm
  | x :: r, t => by rw [List.cons_append, mulL, mulL, mul_append r t, Int.mul_assoc]
theorem prod_mul : ∀ (s : List Int) (a v : Int), prodF a s = (v, 0) → v = a * mulL s
  | [], a, v, h => by
    rw [prodF] at h
    rw [mulL, Int.mul_one]
    exact (Prod.ext_iff.1 h).1.symm
  | n :: r, a, v, h => by
    rw [prodF] at h
    split at h
    · exact absurd (Prod.ext_iff.1 h).2 (by intro e; cases e)
    · rw [prod_mul r _ v h, mulL, Int.mul_assoc]
theorem mul_zeroL : ∀ s : List Int, hasZero s = true → mulL s = 0
  | [], h => by cases h
  | n :: r, h => by
    rw [hasZero] at h
    rw [mulL]
    split at h
    · rename_i e
      rw [e, Int.zero_mul]
    · rw [mul_zeroL r h, Int.mul_zero]
theorem count_mul {s : List Int} {v : Int} (h : countF s = (v, 0)) : v = mulL s := by
  unfold countF at h
  split at h
  · exact absurd (Prod.ext_iff.1 h).2 (by intro e; cases e)
  · split at h
    · rename_i h1
      exact absurd (Prod.ext_iff.1 h).2 h1
    · split at h
      · rename_i h1
        rw [mul_zeroL s h1]
        exact (Prod.ext_iff.1 h).1.symm
      · have := prod_mul s 1 v h
        rwa [Int.one_mul] at this
theorem good_mul {a : Arr} (g : a.Good) : mulL a.shape = (a.data.length : Int) := (count_mul g.count).symm
theorem mul_mem {s : List Int} {x : Int} (hx : x ∈ s) (h : x = 0) : mulL s = 0 := by
  induction s with
  | nil => cases hx
  | cons y r ih =>
    rw [mulL]
    rcases List.mem_cons.1 hx with rfl | hr
    · rw [h, Int.zero_mul]
    · rw [ih hr, Int.mul_zero]
theorem good_pos {a : Arr} (g : a.Good) (h : 0 < a.data.length) : ∀ x ∈ a.shape, 1 ≤ x := fun x hx => by
  have h1 := (g.axes x hx).1
  by_cases h2 : x = 0
  · have h3 := mul_mem hx h2
    have h4 := good_mul g
    omega
  · omega
theorem mul_pos {s : List Int} (h : ∀ x ∈ s, 1 ≤ x) : 1 ≤ mulL s := by
  induction s with
  | nil => exact Int.le_refl _
  | cons x r ih =>
    rw [mulL]
    have h1 := h x (by simp)
    have h2 := ih fun y hy => h y (by simp [hy])
    have := Int.mul_le_mul h1 h2 (by omega) (by omega)
    omega
theorem mul_nn {s : List Int} (h : ∀ x ∈ s, 0 ≤ x) : 0 ≤ mulL s := by
  induction s with
  | nil => decide
  | cons x r ih =>
    rw [mulL]
    exact Int.mul_nonneg (h x (by simp)) (ih fun y hy => h y (by simp [hy]))
theorem mul_split (s : List Int) (i : Nat) : mulL s = mulL (s.take i) * mulL (s.drop i) := by
  rw [← mul_append, List.take_append_drop]
theorem le_mul_of {a b : Int} (ha : 1 ≤ a) (hb : 1 ≤ b) : a ≤ a * b ∧ b ≤ a * b := by
  constructor
  · have := Int.mul_le_mul_of_nonneg_left hb (by omega : 0 ≤ a)
    omega
  · have := Int.mul_le_mul_of_nonneg_right ha (by omega : 0 ≤ b)
    omega
theorem mul_take_le {s : List Int} (h : ∀ x ∈ s, 1 ≤ x) (i : Nat) : 1 ≤ mulL (s.take i) ∧ mulL (s.take i) ≤ mulL s := by
  have h1 := mul_pos (s := s.take i) fun x hx => h x (List.mem_of_mem_take hx)
  have h2 := mul_pos (s := s.drop i) fun x hx => h x (List.mem_of_mem_drop hx)
  rw [mul_split s i]
  exact ⟨h1, (le_mul_of h1 h2).1⟩
theorem mul_drop_le {s : List Int} (h : ∀ x ∈ s, 1 ≤ x) (i : Nat) : 1 ≤ mulL (s.drop i) ∧ mulL (s.drop i) ≤ mulL s := by
  have h1 := mul_pos (s := s.take i) fun x hx => h x (List.mem_of_mem_take hx)
  have h2 := mul_pos (s := s.drop i) fun x hx => h x (List.mem_of_mem_drop hx)
  rw [mul_split s i]
  exact ⟨h2, (le_mul_of h1 h2).2⟩
theorem takeI_getD {s : List Int} {i : Nat} (h : i < s.length) : s.take (i + 1) = s.take i ++ [s.getD i 0] := by
  rw [List.take_add_one, List.getElem?_eq_getElem h]
  simp [List.getD, List.getElem?_eq_getElem h]
theorem dropI_getD {s : List Int} {i : Nat} (h : i < s.length) : s.drop i = s.getD i 0 :: s.drop (i + 1) := by
  rw [List.drop_eq_getElem_cons h]
  simp [List.getD, List.getElem?_eq_getElem h]
theorem mul_take_succ {s : List Int} {i : Nat} (h : i < s.length) : mulL (s.take (i + 1)) = mulL (s.take i) * s.getD i 0 := by
  rw [takeI_getD h, mul_append]
  simp [mulL]
theorem getD_mem {s : List Int} {i : Nat} (h : i < s.length) : s.getD i 0 ∈ s := by
  simp [List.getD, List.getElem?_eq_getElem h]
/-- how an axis lies -/
theorem mul_parts {s : List Int} {i : Nat} (h : i < s.length) : mulL s = mulL (s.take i) * (s.getD i 0 * mulL (s.drop (i + 1))) := by
  rw [mul_split s i, dropI_getD h, mulL]
theorem mul_le_pow : ∀ s : List Int, (∀ x ∈ s, 0 ≤ x ∧ x ≤ 4096) → 0 ≤ mulL s ∧ mulL s ≤ ((4096 ^ s.length : Nat) : Int)
  | [], _ => ⟨by decide, by decide⟩
  | x :: r, h => by
    obtain ⟨h1, h2⟩ := mul_le_pow r fun y hy => h y (by simp [hy])
    obtain ⟨h3, h4⟩ := h x (by simp)
    rw [mulL, List.length_cons, Nat.pow_succ]
    refine ⟨Int.mul_nonneg h3 h1, ?_⟩
    have h5 : x * mulL r ≤ 4096 * ((4096 ^ r.length : Nat) : Int) := Int.mul_le_mul h4 h2 h1 (by decide)
    rw [Int.natCast_mul]
    show x * mulL r ≤ ((4096 ^ r.length : Nat) : Int) * 4096
    omega
theorem infix_mem {t s : List Int} (h : t <:+: s) {x : Int} (hx : x ∈ t) : x ∈ s := h.subset hx
/-- the product of some axes of an array, one behind the other -/
theorem good_seg {a : Arr} (g : a.Good) {t : List Int} (ht : t <:+: a.shape) : 0 ≤ mulL t ∧ mulL t ≤ 1152921504606846976 := by
  have hx : ∀ x ∈ t, 0 ≤ x ∧ x ≤ 4096 := fun x hx => g.axes x (infix_mem ht hx)
  obtain ⟨h1, h2⟩ := mul_le_pow t hx
  refine ⟨h1, ?_⟩
  have hl := ht.length_le
  have h6 := g.rank
  by_cases h5 : t.length ≤ 5
  · have : 4096 ^ t.length ≤ 4096 ^ 5 := Nat.pow_le_pow_right (by decide) h5
    have e : (4096 ^ 5 : Nat) = 1152921504606846976 := by decide
    omega
  · have e := ht.eq_of_length (by omega)
    rw [e, good_mul g]
    have := g.cells
    omega
theorem take_infix (s : List Int) (i : Nat) : s.take i <:+: s := (List.take_prefix i s).isInfix
theorem drop_infix (s : List Int) (i : Nat) : s.drop i <:+: s := (List.drop_suffix i s).isInfix
theorem seg_infix (s : List Int) (i j : Nat) : (s.take i).drop j <:+: s := ((List.drop_suffix j (s.take i)).isInfix).trans (take_infix s i)
theorem seg_succ {s : List Int} {i j : Nat} (h : i < s.length) (hj : j ≤ i) : mulL ((s.take (i + 1)).drop j) = mulL ((s.take i).drop j) * s.getD i 0 := by
  rw [takeI_getD h, List.drop_append_of_le_length (by simp; omega), mul_append]
  simp [mulL]
theorem seg_none {s : List Int} (i : Nat) : mulL ((s.take i).drop i) = 1 := by
  rw [List.drop_eq_nil_of_le (by simp; omega)]
  rfl
theorem seg_all {s : List Int} (j : Nat) : (s.take s.length).drop j = s.drop j := by rw [List.take_length]
theorem badAxis_ok : ∀ s : List Int, (∀ x ∈ s, 0 ≤ x ∧ x ≤ 4096) → badAxis s = 0
  | [], _ => rfl
  | x :: r, h => by
    obtain ⟨h1, h2⟩ := h x (by simp)
    rw [badAxis, if_neg (by omega), if_neg (by omega)]
    exact badAxis_ok r fun y hy => h y (by simp [hy])
theorem prodF_ok : ∀ (s : List Int) (a : Int), (∀ x ∈ s, 1 ≤ x) → 1 ≤ a → a * mulL s ≤ 4096 → prodF a s = (a * mulL s, 0)
  | [], a, _, _, _ => by rw [prodF, mulL, Int.mul_one]
  | x :: r, a, h, ha, hm => by
    have hx := h x (by simp)
    have hr := mul_pos (s := r) fun y hy => h y (by simp [hy])
    rw [mulL, ← Int.mul_assoc] at hm ⊢
    have h1 := (le_mul_of ha hx).1
    have h2 := (le_mul_of (by omega : 1 ≤ a * x) hr).1
    rw [prodF, if_neg (by omega)]
    exact prodF_ok r _ (fun y hy => h y (by simp [hy])) (by omega) hm
theorem hasZero_no : ∀ s : List Int, hasZero s = false → ∀ x ∈ s, x ≠ 0
  | [], _, x, hx => by cases hx
  | y :: r, h, x, hx => by
    rw [hasZero] at h
    split at h
    · cases h
    · rename_i h1
      rcases List.mem_cons.1 hx with rfl | hx
      · exact h1
      · exact hasZero_no r h x hx
/-- a shape that may be -/
theorem countF_ok {s : List Int} (h6 : s.length ≤ 6) (h : ∀ x ∈ s, 0 ≤ x ∧ x ≤ 4096) (hm : (∀ x ∈ s, 1 ≤ x) → mulL s ≤ 4096) : countF s = (mulL s, 0) := by
  unfold countF
  rw [if_neg (by omega), badAxis_ok s h, if_neg (by simp)]
  cases hz : hasZero s with
  | true =>
    rw [mul_zeroL s hz]
    rfl
  | false =>
    have hp : ∀ x ∈ s, 1 ≤ x := fun x hx => by
      have h1 := hasZero_no s hz x hx
      have h2 := (h x hx).1
      omega
    rw [if_neg (by simp), prodF_ok s 1 hp (by decide) (by rw [Int.one_mul]; exact hm hp), Int.one_mul]
theorem mul_mono : ∀ s t : List Int, s.length = t.length → (∀ i, i < s.length → 0 ≤ s.getD i 0 ∧ s.getD i 0 ≤ t.getD i 0) → mulL s ≤ mulL t
  | [], [], _, _ => Int.le_refl _
  | [], _ :: _, h, _ => by cases h
  | _ :: _, [], h, _ => by cases h
  | x :: r, y :: q, hl, h => by
    have h1 := h 0 (by simp)
    have h2 := mul_mono r q (by simpa using hl) fun i hi => by
      have := h (i + 1) (by simp; omega)
      simpa [List.getD] using this
    have h3 : 0 ≤ mulL r := mul_nn fun z hz => by
      obtain ⟨i, hi, rfl⟩ := List.getElem_of_mem hz
      have := (h (i + 1) (by simp; omega)).1
      simpa [List.getD, List.getElem?_eq_getElem hi] using this
    have h4 : x ≤ y := by simpa [List.getD] using h1.2
    have h5 : 0 ≤ y := by
      have : 0 ≤ x := by simpa [List.getD] using h1.1
      omega
    rw [mulL, mulL]
    exact Int.mul_le_mul h4 h2 h3 h5
theorem getD_all {P : Int → Prop} {s : List Int} (h : ∀ i, i < s.length → P (s.getD i 0)) : ∀ x ∈ s, P x := fun x hx => by
  obtain ⟨i, hi, rfl⟩ := List.getElem_of_mem hx
  have := h i hi
  simpa [List.getD, List.getElem?_eq_getElem hi] using this
/-- fewer of each axis -/
theorem count_less {a : Arr} (g : a.Good) {s : List Int} (hl : s.length = a.shape.length) (h : ∀ i, i < s.length → 0 ≤ s.getD i 0 ∧ s.getD i 0 ≤ a.shape.getD i 0) : countF s = (mulL s, 0) ∧ mulL s ≤ 4096 := by
  have h1 := mul_mono s a.shape hl h
  have h2 := good_mul g
  have h3 := g.cells
  have hm : mulL s ≤ 4096 := by omega
  refine ⟨countF_ok (by have := g.rank; omega) (getD_all fun i hi => ?_) fun _ => hm, hm⟩
  have h4 := h i hi
  have h5 := (g.axes _ (getD_mem (s := a.shape) (i := i) (by omega))).2
  exact ⟨h4.1, by omega⟩
/-! ## places -/
/-- the place of these indices -/
def plE (sh : List Int) (j : Nat → Int) : Nat → Int
  | 0 => 0
  | k + 1 => plE sh j k * sh.getD k 0 + j k
theorem plE_lt {sh : List Int} {j : Nat → Int} : ∀ k, k ≤ sh.length → (∀ i, i < k → 0 ≤ j i ∧ j i < sh.getD i 0) → 0 ≤ plE sh j k ∧ plE sh j k < mulL (sh.take k)
  | 0, _, _ => ⟨Int.le_refl _, by simp [plE, mulL]⟩
  | k + 1, hk, h => by
    obtain ⟨h1, h2⟩ := plE_lt k (by omega) fun i hi => h i (by omega)
    obtain ⟨h3, h4⟩ := h k (by omega)
    rw [mul_take_succ (by omega), plE]
    have h5 : 0 ≤ plE sh j k * sh.getD k 0 := Int.mul_nonneg h1 (by omega)
    have h6 : (plE sh j k + 1) * sh.getD k 0 ≤ mulL (sh.take k) * sh.getD k 0 := Int.mul_le_mul_of_nonneg_right (by omega) (by omega)
    rw [Int.add_mul, Int.one_mul] at h6
    exact ⟨by omega, by omega⟩
/-- as the program reckons it, within 64 bits -/
def plW (sh : List Int) (j : Nat → Int) : Nat → Int
  | 0 => 0
  | k + 1 => w64 (w64 (plW sh j k * sh.getD k 0) + j k)
/-- are these indices inside? -/
def inW (sh : List Int) (j : Nat → Int) : Nat → Bool
  | 0 => true
  | k + 1 => inW sh j k && (decide (0 ≤ j k) && decide (j k < sh.getD k 0))
theorem inW_all {sh : List Int} {j : Nat → Int} : ∀ k, inW sh j k = true → ∀ i, i < k → 0 ≤ j i ∧ j i < sh.getD i 0
  | 0, _, i, hi => absurd hi (by omega)
  | k + 1, h, i, hi => by
    rw [inW, Bool.and_eq_true, Bool.and_eq_true] at h
    by_cases e : i = k
    · subst e
      exact ⟨of_decide_eq_true h.2.1, of_decide_eq_true h.2.2⟩
    · exact inW_all k h.1 i (by omega)
theorem plW_eq {sh : List Int} {j : Nat → Int} (hs : mulL sh ≤ 4096) (hp : ∀ x ∈ sh, 1 ≤ x) : ∀ k, k ≤ sh.length → (∀ i, i < k → 0 ≤ j i ∧ j i < sh.getD i 0) → plW sh j k = plE sh j k
  | 0, _, _ => rfl
  | k + 1, hk, h => by
    have e := plW_eq hs hp k (by omega) fun i hi => h i (by omega)
    obtain ⟨h1, h2⟩ := plE_lt (k + 1) hk h
    have h3 := (mul_take_le hp (k + 1)).2
    obtain ⟨h4, _⟩ := h k (by omega)
    obtain ⟨h5, h6⟩ := plE_lt k (by omega) fun i hi => h i (by omega)
    have h7 : 0 ≤ plE sh j k * sh.getD k 0 := Int.mul_nonneg h5 (by have := h k (by omega); omega)
    rw [plE] at h1 h2
    rw [plW, e, plE, w64_in (n := plE sh j k * sh.getD k 0) ⟨by omega, by omega⟩, w64_in (n := plE sh j k * sh.getD k 0 + j k) ⟨by omega, by omega⟩]
/-! ## the indices one by one -/
/-- the last index one further; where it is at its end, that again and the one ahead of it -/
def tick (s at' : List Int) : Nat → List Int
  | 0 => at'
  | k + 1 => if at'.getD k 0 + 1 < s.getD k 0 then at'.set k (at'.getD k 0 + 1) else tick s (at'.set k 0) k
theorem tick_len (s : List Int) : ∀ (k : Nat) (at' : List Int), (tick s at' k).length = at'.length
  | 0, _ => rfl
  | k + 1, at' => by
    rw [tick]
    split
    · rw [List.length_set]
    · rw [tick_len s k, List.length_set]
theorem set_mem {xs : List Int} {k : Nat} {v x : Int} (h : x ∈ xs.set k v) : x ∈ xs ∨ x = v := List.mem_or_eq_of_mem_set h
theorem tick_in (s : List Int) (hs : ∀ x ∈ s, x ≤ 4096) : ∀ (k : Nat) (at' : List Int), k ≤ s.length → (∀ x ∈ at', 0 ≤ x ∧ x ≤ 4096) → ∀ x ∈ tick s at' k, 0 ≤ x ∧ x ≤ 4096
  | 0, _, _, h => h
  | k + 1, at', hk, h => by
    rw [tick]
    split
    · rename_i hlt
      intro x hx
      rcases set_mem hx with h1 | rfl
      · exact h x h1
      · have h1 := hs _ (getD_mem (s := s) (i := k) (by omega))
        have h2 : 0 ≤ at'.getD k 0 := by
          by_cases hl : k < at'.length
          · exact (h _ (getD_mem hl)).1
          · simp [List.getD, List.getElem?_eq_none (by omega : at'.length ≤ k)]
        omega
    · refine tick_in s hs k _ (by omega) fun x hx => ?_
      rcases set_mem hx with h1 | rfl
      · exact h x h1
      · decide
def ticks (s : List Int) : Nat → List Int
  | 0 => List.replicate s.length 0
  | i + 1 => tick s (ticks s i) s.length
theorem ticks_len (s : List Int) : ∀ i, (ticks s i).length = s.length
  | 0 => List.length_replicate
  | i + 1 => by rw [ticks, tick_len, ticks_len s i]
theorem ticks_in (s : List Int) (hs : ∀ x ∈ s, x ≤ 4096) : ∀ i, ∀ x ∈ ticks s i, 0 ≤ x ∧ x ≤ 4096
  | 0 => fun x hx => by
    obtain ⟨_, rfl⟩ := List.mem_replicate.1 hx
    decide
  | i + 1 => tick_in s hs _ _ (Nat.le_refl _) (ticks_in s hs i)
end Go.Proofs.YtadlpfbjnpbnoaaGreatDoor
namespace Go.Proofs.YtadlpfbjnpbnoaaGreatDoor
open Go.RowKit
/-- a list whose first k are told, the others not yet -/
def upTo (n : Nat) (z f : Nat → Int) (k : Nat) : List Int := (List.range n).map fun i => if i < k then f i else z i
theorem upTo_len (n : Nat) (z f : Nat → Int) (k : Nat) : (upTo n z f k).length = n := by unfold upTo; rw [List.length_map, List.length_range]
theorem upTo_getD (n : Nat) (z f : Nat → Int) (k i : Nat) (h : i < n) : (upTo n z f k).getD i 0 = if i < k then f i else z i := by
  unfold upTo
  simp [List.getD, h]
theorem upTo_get (n : Nat) (z f : Nat → Int) (k i : Nat) (h : i < (upTo n z f k).length) : (upTo n z f k)[i] = if i < k then f i else z i := by simp [upTo]
theorem upTo_set (n : Nat) (z f : Nat → Int) (k : Nat) (_h : k < n) : (upTo n z f k).set k (f k) = upTo n z f (k + 1) := by
  refine List.ext_getElem (by rw [List.length_set, upTo_len, upTo_len]) fun i h1 h2 => ?_
  rw [List.getElem_set, upTo_get, upTo_get]
  by_cases e : k = i
  · subst e
    rw [if_pos rfl, if_pos (by omega)]
  · rw [if_neg e]
    by_cases e2 : i < k
    · rw [if_pos e2, if_pos (by omega)]
    · rw [if_neg e2, if_neg (by omega)]
theorem upTo_zero (n : Nat) (f : Nat → Int) : upTo n (fun _ => 0) f 0 = List.replicate n 0 := by
  refine List.ext_getElem (by rw [upTo_len, List.length_replicate]) fun i h1 h2 => ?_
  unfold upTo
  simp
theorem upTo_start (xs : List Int) (f : Nat → Int) : upTo xs.length (fun i => xs.getD i 0) f 0 = xs := by
  refine List.ext_getElem (upTo_len _ _ _ _) fun i h1 h2 => ?_
  unfold upTo
  simp [List.getD, List.getElem?_eq_getElem h2]
theorem upTo_same (n : Nat) (z f : Nat → Int) (k : Nat) (h : f k = z k) : upTo n z f (k + 1) = upTo n z f k := by
  unfold upTo
  refine List.map_congr_left fun i _ => ?_
  by_cases e : i = k
  · subst e
    rw [if_pos (by omega), if_neg (by omega), h]
  · by_cases e2 : i < k
    · rw [if_pos (by omega), if_pos e2]
    · rw [if_neg (by omega), if_neg e2]
theorem upTo_I {n : Nat} {z f : Nat → Int} {k : Nat} (P : Int → Prop) (hz : ∀ i, i < n → P (z i)) (hf : ∀ i, i < n → P (f i)) : ∀ x ∈ upTo n z f k, P x := fun x hx => by
  obtain ⟨i, hi, rfl⟩ := List.mem_map.1 hx
  have := List.mem_range.1 hi
  split
  · exact hf i this
  · exact hz i this
/-! ## a part of an array -/
/-- the cell of a part: filled where it lies outside -/
def jW (fr at' : List Int) (k : Nat) : Int := at'.getD k 0 + fr.getD k 0
def cellW (a : Arr) (fr at' : List Int) : Int :=
  if inW a.shape (jW fr at') a.shape.length = true then a.data.getD (plW a.shape (jW fr at') a.shape.length).toNat 0 else fillA a.char
def winL (a : Arr) (fr s : List Int) (n : Nat) : List Int := (List.range n).map fun i => cellW a fr (ticks s i)
theorem winL_succ (a : Arr) (fr s : List Int) (n : Nat) : winL a fr s (n + 1) = winL a fr s n ++ [cellW a fr (ticks s n)] := by
  unfold winL
  rw [List.range_succ, List.map_append]
  rfl
theorem winL_len (a : Arr) (fr s : List Int) (n : Nat) : (winL a fr s n).length = n := by unfold winL; rw [List.length_map, List.length_range]
def winF (a : Arr) (fr s : List Int) : Arr := ⟨a.char, s, winL a fr s (countF s).1.toNat⟩
/-- a place inside is one -/
theorem place_ok {a : Arr} (g : a.Good) {j : Nat → Int} (h : inW a.shape j a.shape.length = true) : 0 ≤ plW a.shape j a.shape.length ∧ plW a.shape j a.shape.length < (a.data.length : Int) := by
  have h1 := inW_all _ h
  have hp : ∀ x ∈ a.shape, 1 ≤ x := fun x hx => by
    obtain ⟨i, hi, rfl⟩ := List.getElem_of_mem hx
    have h2 := h1 i hi
    simp only [List.getD, List.getElem?_eq_getElem hi, Option.getD_some] at h2
    omega
  have h3 := good_mul g
  have h4 := g.cells
  rw [plW_eq (by omega) hp _ (Nat.le_refl _) h1, ← h3]
  have h5 := plE_lt _ (Nat.le_refl _) h1
  rw [List.take_length] at h5
  exact h5
/-! ## cut.Take, cut.Drop -/
def absN (m : Int) : Int := if m < -m then -m else m
def takeS (n : List Int) : List Int := upTo n.length (fun _ => 0) (fun i => absN (n.getD i 0)) n.length
def takeO (n : List Int) (a : Arr) : List Int := upTo n.length (fun _ => 0) (fun i => if n.getD i 0 < 0 then a.shape.getD i 0 + n.getD i 0 else 0) n.length
def tooFar (n : List Int) : Bool := n.any fun m => decide (4096 < m) || decide (m < -4096)
def takeF (n : List Int) (a : Arr) : Int × Arr :=
  if n.length ≠ a.shape.length then (4, zeroA) else if tooFar n = true then (7, zeroA)
  else if (countF (takeS n)).2 ≠ 0 then ((countF (takeS n)).2, zeroA) else (0, winF a (takeO n a) (takeS n))
/-- so many of an axis -/
def dropM (m s : Int) : Int := if s < (if m < -s then -s else m) then s else (if m < -s then -s else m)
def dropS (n : List Int) (a : Arr) : List Int := upTo n.length (fun i => a.shape.getD i 0) (fun i => if 0 ≤ dropM (n.getD i 0) (a.shape.getD i 0) then a.shape.getD i 0 - dropM (n.getD i 0) (a.shape.getD i 0) else a.shape.getD i 0 + dropM (n.getD i 0) (a.shape.getD i 0)) n.length
def dropO (n : List Int) (a : Arr) : List Int := upTo n.length (fun _ => 0) (fun i => if 0 ≤ dropM (n.getD i 0) (a.shape.getD i 0) then dropM (n.getD i 0) (a.shape.getD i 0) else 0) n.length
def dropF (n : List Int) (a : Arr) : Int × Arr :=
  if n.length ≠ a.shape.length then (4, zeroA) else (0, winF a (dropO n a) (dropS n a))
end Go.Proofs.YtadlpfbjnpbnoaaGreatDoor
