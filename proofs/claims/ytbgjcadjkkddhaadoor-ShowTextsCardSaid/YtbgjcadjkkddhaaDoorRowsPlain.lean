/-
  Plain: the text of a table is straight: as many rows as it has, all of as many characters.
-/
import Derived.Test.YtbgjcadjkkddhaaDoorTextPlain
namespace Go.Proofs.YtbgjcadjkkddhaaDoor

theorem contF_append : ∀ (n : Nat) (c x : Int) (t b : List UInt8), contF n c t = some x → contF n c (t ++ b) = some x ∧ n ≤ t.length
  | 0, c, x, t, b, h => ⟨by simpa [contF] using h, Nat.zero_le _⟩
  | n + 1, c, x, [], b, h => by cases h
  | n + 1, c, x, y :: t, b, h => by
    rw [contF_cons] at h
    rw [List.cons_append, contF_cons]
    split at h
    · cases h
    · rename_i h1
      split at h
      · cases h
      · rename_i h2
        have ih := contF_append n _ x t b h
        rw [if_neg h1, if_neg h2]
        exact ⟨ih.1, by simp; exact ih.2⟩
theorem runeF_append {l b : List UInt8} {c : Int} {n : Nat} (h : runeF l = some (c, n)) : runeF (l ++ b) = some (c, n) ∧ n ≤ l.length := by
  cases l with
  | nil => cases h
  | cons y t =>
    rw [List.cons_append]
    simp only [runeF] at h ⊢
    split at h
    · cases h
    · rename_i more least c0 hh
      split at h
      · cases h
      · rename_i cc hc
        have h2 := contF_append more c0 cc t b hc
        simp only [h2.1]
        split at h
        · cases h
        · rename_i hb
          simp only [Option.some.injEq, Prod.mk.injEq] at h
          rw [if_neg hb]
          have := h2.2
          exact ⟨by rw [h.1, h.2], by simp; omega⟩
theorem runes_append : ∀ (k : Nat) (a b : List UInt8) (x : List Int), a.length ≤ k → runesL a = some x → runesL (a ++ b) = (runesL b).map (x ++ ·)
  | 0, a, b, x, hk, h => by
    have : a = [] := List.length_eq_zero_iff.1 (by omega)
    subst this
    rw [runesL_nil] at h
    cases h
    simp
  | k + 1, [], b, x, hk, h => by
    rw [runesL_nil] at h
    cases h
    simp
  | k + 1, y :: t, b, x, hk, h => by
    cases hr : runeF (y :: t) with
    | none => rw [runesL_bad hr] at h; cases h
    | some cn =>
      obtain ⟨c, n⟩ := cn
      have h1 := runeF_append (b := b) hr
      have hn := runeF_pos hr
      rw [runesL_cons hr] at h
      rw [List.cons_append, runesL_cons (by rw [← List.cons_append]; exact h1.1), ← List.cons_append, List.drop_append_of_le_length h1.2]
      cases hx : runesL (List.drop n (y :: t)) with
      | none => rw [hx] at h; cases h
      | some z =>
        rw [hx] at h
        simp only [Option.map_some, Option.some.injEq] at h
        rw [runes_append k _ b z (by simp at hk ⊢; omega) hx, Option.map_map]
        congr 1
        funext q
        simp [← h]

theorem runes_len : ∀ (k : Nat) (a : List UInt8) (x : List Int), a.length ≤ k → runesL a = some x → x.length ≤ a.length
  | 0, a, x, hk, h => by
    have : a = [] := List.length_eq_zero_iff.1 (by omega)
    subst this
    rw [runesL_nil] at h
    cases h
    simp
  | k + 1, [], x, hk, h => by
    rw [runesL_nil] at h
    cases h
    simp
  | k + 1, y :: t, x, hk, h => by
    cases hr : runeF (y :: t) with
    | none => rw [runesL_bad hr] at h; cases h
    | some cn =>
      obtain ⟨c, n⟩ := cn
      have hn := runeF_pos hr
      rw [runesL_cons hr] at h
      cases hx : runesL (List.drop n (y :: t)) with
      | none => rw [hx] at h; cases h
      | some z =>
        rw [hx] at h
        simp only [Option.map_some, Option.some.injEq] at h
        have ih := runes_len k _ z (by simp at hk ⊢; omega) hx
        rw [← h]
        simp at ih hk ⊢
        omega

/-- a text reads as runes, none of them a line's end, so many -/
def Txt (l : List UInt8) (n : Nat) : Prop := ∃ x, runesL l = some x ∧ x.length = n ∧ ∀ c ∈ x, c ≠ 10
theorem Txt.nil : Txt [] 0 := ⟨[], rfl, rfl, by simp⟩
theorem Txt.append {a b : List UInt8} {m n : Nat} (h : Txt a m) (k : Txt b n) : Txt (a ++ b) (m + n) := by
  obtain ⟨x, hx, hl, h10⟩ := h
  obtain ⟨y, hy, hm, k10⟩ := k
  refine ⟨x ++ y, by rw [runes_append _ a b x (Nat.le_refl _) hx, hy]; rfl, by simp [hl, hm], fun c hc => ?_⟩
  rcases List.mem_append.1 hc with h | h
  · exact h10 c h
  · exact k10 c h
theorem runesL_ascii {b : UInt8} (h : b.toNat < 128) : runesL [b] = some [(b.toNat : Int)] := by
  have h1 : headF (b.toNat : Int) = some (0, 0, (b.toNat : Int)) := by
    unfold headF
    rw [if_neg (by omega), if_neg (by omega), if_neg (by omega), if_neg (by omega)]
  have h2 : runeF [b] = some ((b.toNat : Int), 1) := runeF_good h1 rfl (by simp [badRune]; omega)
  rw [runesL_cons h2]
  rfl
theorem Txt.ascii {b : UInt8} (h : b.toNat < 128) (h10 : b.toNat ≠ 10) : Txt [b] 1 := ⟨_, runesL_ascii h, rfl, by simp; omega⟩
theorem Txt.list : ∀ (l : List UInt8), (∀ b ∈ l, b.toNat < 128 ∧ b.toNat ≠ 10) → Txt l l.length
  | [], _ => Txt.nil
  | b :: r, h => by
    have h1 := Txt.ascii (h b List.mem_cons_self).1 (h b List.mem_cons_self).2
    have h2 := h1.append (Txt.list r fun c hc => h c (List.mem_cons_of_mem _ hc))
    rw [List.length_cons, Nat.add_comm]
    exact h2
theorem Txt.sign : Txt [194, 175] 1 := ⟨[175], by decide, rfl, by decide⟩
theorem Txt.num (n : Int) : Txt (numText n) (numWidth n) := by
  have h1 : Txt (Lib.decDigits n.natAbs) (Lib.decDigits n.natAbs).length := Txt.list _ fun b hb => by have := digit_lt _ b hb; omega
  unfold numText numWidth
  split
  · exact Txt.sign.append h1
  · rw [Nat.zero_add]; exact h1
theorem Txt.blanks (c : Nat) : Txt (Lib.repeatL [32] c) c := by
  have h1 : Lib.repeatL [32] c = List.replicate c 32 := by
    have := Lib.repeatL_replicate 32 1 c
    rw [Nat.mul_one] at this
    exact this
  rw [h1]
  have h2 := Txt.list (List.replicate c 32) fun b hb => by rw [(List.mem_replicate.1 hb).2]; decide
  rw [List.length_replicate] at h2
  exact h2

def rowLen (wide : List Int) : Nat → Nat → Nat
  | _, 0 => 0
  | i, k + 1 => (if 0 < i then 1 else 0) + ((wide.getD i 0).toNat + rowLen wide (i + 1) k)
theorem Txt.row {wide : List Int} : ∀ (row : List Int) (i : Nat), (∀ j, j < row.length → i + j < wide.length ∧ (numWidth (row.getD j 0) : Int) ≤ wide.getD (i + j) 0) → Txt (numsFrom wide i row) (rowLen wide i row.length)
  | [], i, _ => Txt.nil
  | n :: r, i, h => by
    rw [numsFrom, List.length_cons, rowLen]
    have h0 := h 0 (by simp)
    rw [Nat.add_zero, List.getD_cons_zero] at h0
    have hs : Txt (if 0 < i then ([32] : List UInt8) else []) (if 0 < i then 1 else 0) := by
      split
      · exact Txt.ascii (by decide) (by decide)
      · exact Txt.nil
    have hc : Txt (cellText wide i n) (wide.getD i 0).toNat := by
      unfold cellText
      rw [if_pos h0.1]
      have := (Txt.blanks (wide.getD i 0 - numWidth n).toNat).append (Txt.num n)
      rwa [show (wide.getD i 0 - numWidth n).toNat + numWidth n = (wide.getD i 0).toNat by omega] at this
    exact hs.append (hc.append (Txt.row r (i + 1) fun j hj => by
      have := h (j + 1) (by simpa using hj)
      rw [List.getD_cons_succ] at this
      rwa [show i + 1 + j = i + (j + 1) by omega]))

/-- the law's loop -/
def scan : List Int → Int → Int → Int → Option (Int × Int × Int)
  | [], r, l, h => some (r, l, h)
  | c :: cs, r, l, h => if c ≠ 10 then scan cs r l (h + 1) else if 0 ≤ l ∧ h ≠ l then none else scan cs (r + 1) h 0
theorem scan_row : ∀ (x cs : List Int) (r l h : Int), (∀ c ∈ x, c ≠ 10) → scan (x ++ cs) r l h = scan cs r l (h + x.length)
  | [], cs, r, l, h, _ => by simp
  | c :: x, cs, r, l, h, h10 => by
    rw [List.cons_append, scan, if_pos (h10 c List.mem_cons_self), scan_row x cs r l (h + 1) fun d hd => h10 d (List.mem_cons_of_mem _ hd)]
    simp only [List.length_cons]
    congr 1
    omega
theorem scan_rows {wide : List Int} {C L : Nat} (hL : ∀ row : List Int, row.length = C → (∀ j, j < C → (numWidth (row.getD j 0) : Int) ≤ wide.getD j 0) → Txt (numsFrom wide 0 row) L) :
    ∀ (r i : Nat) (t : List Int), 0 < i → t.length = r * C → (∀ o j, j < C → o * C + j < t.length → (numWidth (t.getD (o * C + j) 0) : Int) ≤ wide.getD j 0) →
      ∃ x, runesL (rowsFrom wide C i r t) = some x ∧ ∀ l : Int, (l < 0 ∨ l = L) → scan x i l L = some ((i : Int) + r, (if r = 0 then l else (L : Int)), (L : Int))
  | 0, i, t, hi, ht, hw => ⟨[], rfl, fun l _ => by simp [scan]⟩
  | r + 1, i, t, hi, ht, hw => by
    have htl : (t.take C).length = C := by rw [List.length_take, ht, Nat.add_mul]; omega
    have hdl : (t.drop C).length = r * C := by rw [List.length_drop, ht, Nat.add_mul]; omega
    obtain ⟨x, hx, hxl, hx10⟩ := hL (t.take C) htl fun j hj => by
      have := hw 0 j hj (by rw [ht, Nat.add_mul]; omega)
      rw [Nat.zero_mul, Nat.zero_add] at this
      rw [List.getD_eq_getElem?_getD, List.getElem?_take, if_pos hj, ← List.getD_eq_getElem?_getD]
      exact this
    obtain ⟨y, hy, hs⟩ := scan_rows hL r (i + 1) (t.drop C) (by omega) hdl fun o j hj ho => by
      have := hw (o + 1) j hj (by rw [hdl] at ho; rw [ht, Nat.add_mul, Nat.add_mul]; omega)
      rw [List.getD_eq_getElem?_getD, List.getElem?_drop, ← List.getD_eq_getElem?_getD]
      rwa [show C + (o * C + j) = (o + 1) * C + j by rw [Nat.add_mul]; omega]
    refine ⟨[10] ++ (x ++ y), ?_, fun l hl => ?_⟩
    · rw [rowsFrom, if_pos hi, runes_append _ [10] _ [10] (Nat.le_refl _) (runesL_ascii (by decide)), runes_append _ _ _ x (Nat.le_refl _) hx, hy]
      rfl
    · rw [List.cons_append, List.nil_append, scan, if_neg (by simp), if_neg (by omega), scan_row x y _ _ _ hx10, hxl, Int.zero_add]
      have := hs L (Or.inr rfl)
      rw [show ((i : Int) + 1) = ((i + 1 : Nat) : Int) by omega, this, if_neg (by omega : ¬ r + 1 = 0), ite_self, show ((i + 1 : Nat) : Int) + (r : Int) = (i : Int) + ((r + 1 : Nat) : Int) by omega]

/-- THE PLAIN LAW -/
theorem table_straight {s d : List Int} (hs : s.length = 2) (hd : d ≠ []) (hc : checkF false s d = 0) :
    ∃ x, runesL (numsText s d) = some x ∧ ∃ l h : Int, scan x 1 (-1) 0 = some (s.getD 0 0, l, h) ∧ (l < 0 ∨ h = l) := by
  obtain ⟨hR1, hR2, hC1, hC2, hRC, hdl, ⟨q, hq⟩, hdim⟩ := dims_ok hc hd
  have hl : 1 < s.length := by omega
  obtain ⟨hdr, _⟩ := hdim hl
  have hlen : d.length = dimR s * dimC s d := by
    unfold checkF at hc
    split at hc
    · rename_i h1; exact absurd hc h1
    · rename_i h1
      split at hc
      · cases hc
      · rename_i h2
        have hcc : countF s = ((d.length : Int), 0) := by
          have a1 : (countF s).2 = 0 := by simpa using h1
          have a2 : (countF s).1 = (d.length : Int) := (Decidable.not_not.1 h2).symm
          rw [← a1, ← a2]
        obtain ⟨_, _, hp, _⟩ := countF_pos hcc (by have := List.length_pos_iff.2 hd; omega)
        obtain ⟨x, r, c, hx, h3, h4⟩ := last_two hl
        have hxn : x = [] := by
          have := congrArg List.length hx
          have e2 : ([r, c] : List Int).length = 2 := rfl
          rw [List.length_append, hs, e2] at this
          exact List.length_eq_zero_iff.1 (by omega)
        obtain ⟨g1, g2⟩ := hdim hl
        rw [hx, hxn] at hp
        simp only [List.nil_append, prodL, Int.mul_one] at hp
        rw [← h3, ← h4, g1, g2] at hp
        exact_mod_cast hp
  generalize hRR : dimR s = R at *
  generalize hCC : dimC s d = C at *
  have ht : numsText s d = rowsFrom (tableWide C true d) C 0 R d := by
    unfold numsText
    rw [if_neg (by rw [hc]; simp), hRR, hCC, show decide (1 < s.length) = true by simp [hl]]
    obtain ⟨m, hm⟩ : ∃ m, d.length = m + 1 := ⟨d.length - 1, by have := List.length_pos_iff.2 hd; omega⟩
    rw [hm, tables_step hd (tbl := d) (by rw [← hlen, List.take_length]), if_neg (by omega), ← hlen, List.drop_length]
    cases m <;> simp [tablesFrom]
  have hwl : (tableWide C true d).length = C := by simp [tableWide, widths_len]
  have hge : ∀ o j, j < C → o * C + j < d.length → (numWidth (d.getD (o * C + j) 0) : Int) ≤ (tableWide C true d).getD j 0 := fun o j hj ho => by
    have := widths_ge C (by omega) d (List.replicate C 0) 0 (o * C + j) (by simp) ho
    rwa [Nat.zero_add, Nat.add_comm (o * C) j, Nat.add_mul_mod_self_right, Nat.mod_eq_of_lt hj, Nat.add_comm j] at this
  have hL : ∀ row : List Int, row.length = C → (∀ j, j < C → (numWidth (row.getD j 0) : Int) ≤ (tableWide C true d).getD j 0) → Txt (numsFrom (tableWide C true d) 0 row) (rowLen (tableWide C true d) 0 C) := fun row hrl h => by
    have := Txt.row (wide := tableWide C true d) row 0 fun j hj => ⟨by rw [hwl]; omega, by rw [Nat.zero_add]; exact h j (by omega)⟩
    rwa [hrl] at this
  generalize rowLen (tableWide C true d) 0 C = L at hL
  obtain ⟨r, hr'⟩ : ∃ r, R = r + 1 := ⟨R - 1, by omega⟩
  subst hr'
  have htl : (d.take C).length = C := by rw [List.length_take, hlen, Nat.add_mul]; omega
  have hdl2 : (d.drop C).length = r * C := by rw [List.length_drop, hlen, Nat.add_mul]; omega
  obtain ⟨x, hx, hxl, hx10⟩ := hL (d.take C) htl fun j hj => by
    have := hge 0 j hj (by rw [hlen, Nat.add_mul]; omega)
    rw [Nat.zero_mul, Nat.zero_add] at this
    rw [List.getD_eq_getElem?_getD, List.getElem?_take, if_pos hj, ← List.getD_eq_getElem?_getD]
    exact this
  obtain ⟨y, hy, hsc⟩ := scan_rows hL r 1 (d.drop C) (by omega) hdl2 fun o j hj ho => by
    have := hge (o + 1) j hj (by rw [hdl2] at ho; rw [hlen, Nat.add_mul, Nat.add_mul]; omega)
    rw [List.getD_eq_getElem?_getD, List.getElem?_drop, ← List.getD_eq_getElem?_getD]
    rwa [show C + (o * C + j) = (o + 1) * C + j by rw [Nat.add_mul]; omega]
  refine ⟨x ++ y, ?_, (if r = 0 then -1 else (L : Int)), L, ?_, ?_⟩
  · rw [ht, rowsFrom, if_neg (by omega), List.nil_append, runes_append _ _ _ x (Nat.le_refl _) hx, hy]
    rfl
  · rw [scan_row x y _ _ _ hx10, hxl, Int.zero_add]
    have := hsc (-1) (Or.inl (by omega))
    have h2 : s.getD 0 0 = (1 : Int) + r := by
      rw [hs] at hdr
      rw [show (2 : Nat) - 2 = 0 from rfl] at hdr
      rw [hdr]; omega
    rw [h2]
    exact_mod_cast this
  · split
    · exact Or.inl (by omega)
    · exact Or.inr rfl

end Go.Proofs.YtbgjcadjkkddhaaDoor
