/-
  Plain: two lines with a blank between.
-/
import Derived.Test.YtjefjfdoicddlaaDoorAgainPlain
namespace Go.Proofs.YtjefjfdoicddlaaDoor

theorem pre32 : ∀ (p l r : List UInt8), (32 : UInt8) ∉ p → p.isPrefixOf (l ++ 32 :: r) = p.isPrefixOf l
  | [], l, r, _ => by simp
  | a :: p, [], r, h => by
    have : ¬ a = 32 := fun e => h (by simp [e])
    simp [List.isPrefixOf, this]
  | a :: p, b :: l, r, h => by
    rw [List.cons_append]
    simp only [List.isPrefixOf]
    rw [pre32 p l r fun k => h (by simp [k])]
theorem take32 {p : UInt8 → Bool} (h32 : p 32 = false) (r : List UInt8) : ∀ l : List UInt8, (l ++ 32 :: r).takeWhile p = l.takeWhile p
  | [] => by rw [List.nil_append, List.takeWhile_cons, h32]; simp
  | b :: l => by
    rw [List.cons_append, List.takeWhile_cons, List.takeWhile_cons, take32 h32 r l]
theorem signL32 (l r : List UInt8) : ∀ (gs : List (List UInt8)) (n : Nat), (∀ g ∈ gs, (32 : UInt8) ∉ g) → signL gs n (l ++ 32 :: r) = signL gs n l
  | [], _, _ => rfl
  | g :: gs, n, h => by
    rw [signL, signL, pre32 g l r (h g (by simp)), signL32 l r gs (n + 1) fun g hg => h g (by simp [hg])]
theorem glyphs32 : ∀ g ∈ glyphsB, (32 : UInt8) ∉ g := by decide +kernel
theorem signs32 : ∀ g ∈ signsB, (32 : UInt8) ∉ g := by decide +kernel
theorem qscan_join (r : List UInt8) : ∀ (n : Nat) {l t : List UInt8} {k : Nat}, l.length ≤ n → qscan l = some (t, k) → qscan (l ++ 32 :: r) = some (t, k)
  | _, [], t, k, _, h => by rw [qscan] at h; cases h
  | 0, b :: l, t, k, hn, h => by simp at hn
  | n + 1, b :: l, t, k, hn, h => by
    rw [qscan.eq_def] at h
    rw [List.cons_append, qscan.eq_def]
    simp only at h ⊢
    simp only [List.length_cons] at hn
    by_cases hb : b = 39
    · rw [if_pos hb] at h ⊢
      cases l with
      | nil =>
        simp only [List.nil_append] at h ⊢
        rw [if_neg (by decide)]; exact h
      | cons c l' =>
        simp only [List.length_cons] at hn
        simp only [List.cons_append] at h ⊢
        by_cases hc : c = 39
        · rw [if_pos hc] at h ⊢
          cases hq : qscan l' with
          | none => rw [hq] at h; cases h
          | some x =>
            obtain ⟨t', k'⟩ := x
            rw [qscan_join r n (by omega) hq, ← hq]; exact h
        · rw [if_neg hc] at h ⊢; exact h
    · rw [if_neg hb] at h ⊢
      cases hq : qscan l with
      | none => rw [hq] at h; cases h
      | some x =>
        obtain ⟨t', k'⟩ := x
        rw [qscan_join r n (by omega) hq, ← hq]; exact h
theorem word_join {l : List UInt8} {t : Tok} {m : Nat} (hne : l ≠ []) (h : wordF l = (0, t, m)) (r : List UInt8) : wordF (l ++ 32 :: r) = (0, t, m) := by
  have e1 := pre32 [194, 175] l r (by decide)
  have e2 : (l ++ 32 :: r).getD 0 0 = l.getD 0 0 := by cases l with
    | nil => exact absurd rfl hne
    | cons b l => rfl
  have e3 : (l ++ 32 :: r).drop 1 = l.drop 1 ++ 32 :: r := by cases l with
    | nil => exact absurd rfl hne
    | cons b l => rfl
  have e4 := signL32 l r glyphsB 1 glyphs32
  have e5 := signL32 l r signsB 1 signs32
  have e6 : (if List.isPrefixOf [194, 175] l = true then (l ++ 32 :: r).drop 2 else l ++ 32 :: r).takeWhile isDigitB = (if List.isPrefixOf [194, 175] l = true then l.drop 2 else l).takeWhile isDigitB := by
    by_cases hp : List.isPrefixOf [194, 175] l = true
    · rw [if_pos hp, if_pos hp]
      have := prefix_le hp
      rw [List.drop_append_of_le_length (by simpa using this), take32 (by decide)]
    · rw [if_neg hp, if_neg hp, take32 (by decide)]
  have e7 := take32 (p := isPartB) (by decide) r l
  unfold wordF at h ⊢
  simp only [e1, e2, e3, e4, e5, e6, e7] at h ⊢
  cases hq : qscan (l.drop 1) with
  | some x =>
    obtain ⟨t', k'⟩ := x
    rw [qscan_join r _ (Nat.le_refl _) hq]
    rw [hq] at h
    exact h
  | none =>
    rw [hq] at h
    simp only at h
    by_cases c1 : (if List.isPrefixOf [194, 175] l = true then l.drop 2 else l).takeWhile isDigitB ≠ []
    · rw [if_pos c1] at h ⊢; exact h
    rw [if_neg c1] at h ⊢
    by_cases c2 : List.isPrefixOf [194, 175] l = true
    · rw [if_pos c2] at h ⊢; exact h
    rw [if_neg c2] at h ⊢
    by_cases c3 : isLetterB (l.getD 0 0) = true
    · rw [if_pos c3] at h ⊢; exact h
    rw [if_neg c3] at h ⊢
    by_cases c4 : l.getD 0 0 = 39
    · rw [if_pos c4] at h; simp at h
    rw [if_neg c4] at h ⊢
    exact h
def shiftT (b : Int) (t : Tok) : Tok := { t with at_ := t.at_ + b }
theorem readF_move : ∀ (n : Nat) (l : List UInt8) (a k : Nat) (a0 : Int) (ts : List Tok) (b k' : Nat), readF n l a k = (0, a0, ts) → k' + ts.length ≤ 200 → readF n l (a + b) k' = (0, 0, ts.map (shiftT b))
  | 0, l, a, k, a0, ts, b, k', h, _ => by simp only [readF, Prod.mk.injEq, true_and] at h; obtain ⟨rfl, rfl⟩ := h; rfl
  | n + 1, [], a, k, a0, ts, b, k', h, _ => by simp only [readF, Prod.mk.injEq, true_and] at h; obtain ⟨rfl, rfl⟩ := h; rfl
  | n + 1, c :: r, a, k, a0, ts, b, k', h, hk => by
    rw [readF] at h ⊢
    simp only at h ⊢
    split at h
    · rename_i q; rw [if_pos q]; simp only [Prod.mk.injEq, true_and] at h; obtain ⟨rfl, rfl⟩ := h; rfl
    rename_i q; rw [if_neg q]
    split at h
    · rename_i q; rw [if_pos q]
      have := readF_move n r (a + 1) k a0 ts b k' h hk
      rw [show a + b + 1 = a + 1 + b by omega]; exact this
    rename_i q; rw [if_neg q]
    cases hw : wordF (c :: r) with
    | mk e tm =>
      obtain ⟨t, m⟩ := tm
      rw [hw] at h
      simp only at h ⊢
      split at h
      · rename_i he; simp only [Prod.mk.injEq] at h; exact absurd h.1 he
      rename_i he; rw [if_neg he]
      split at h
      · simp at h
      cases hr : readF n ((c :: r).drop m) (a + m) (k + 1) with
      | mk e2 at2 =>
        obtain ⟨a2, ts2⟩ := at2
        rw [hr] at h
        simp only at h
        split at h
        · rename_i he2; simp only [Prod.mk.injEq] at h; exact absurd h.1 he2
        rename_i he2
        have he20 : e2 = 0 := Decidable.not_not.1 he2
        subst he20
        simp only [Prod.mk.injEq, true_and] at h
        obtain ⟨rfl, rfl⟩ := h
        simp only [List.length_cons] at hk
        have := readF_move n _ _ _ _ _ b (k' + 1) hr (by omega)
        rw [if_neg (by omega), show a + b + m = a + m + b by omega, this]
        simp only
        rw [if_neg (by simp)]
        simp [shiftT]
theorem readF_fuel : ∀ (n n' : Nat) (l : List UInt8) (a k : Nat) (a0 : Int) (ts : List Tok), l.length ≤ n → l.length ≤ n' → readF n l a k = (0, a0, ts) → readF n' l a k = (0, a0, ts)
  | n, n', [], a, k, a0, ts, _, _, h => by
    have e : ∀ n, readF n [] a k = (0, 0, []) := fun n => by cases n <;> rfl
    rw [e] at h ⊢; exact h
  | 0, _, c :: r, a, k, a0, ts, h, _, _ => by simp at h
  | _, 0, c :: r, a, k, a0, ts, _, h, _ => by simp at h
  | n + 1, n' + 1, c :: r, a, k, a0, ts, h1, h2, h => by
    simp only [List.length_cons] at h1 h2
    rw [readF] at h ⊢
    simp only at h ⊢
    split at h
    · rename_i q; rw [if_pos q]; exact h
    rename_i q; rw [if_neg q]
    split at h
    · rename_i q; rw [if_pos q]; exact readF_fuel n n' r (a + 1) k a0 ts (by omega) (by omega) h
    rename_i q; rw [if_neg q]
    cases hw : wordF (c :: r) with
    | mk e tm =>
      obtain ⟨t, m⟩ := tm
      rw [hw] at h
      simp only at h ⊢
      split at h
      · rename_i he; simp only [Prod.mk.injEq] at h; exact absurd h.1 he
      rename_i he; rw [if_neg he]
      have he0 : e = 0 := Decidable.not_not.1 he
      subst he0
      obtain ⟨_, _, m1, _, _⟩ := word_ok (by simp) hw
      split at h
      · simp at h
      rename_i q; rw [if_neg q]
      cases hr : readF n ((c :: r).drop m) (a + m) (k + 1) with
      | mk e2 at2 =>
        obtain ⟨a2, ts2⟩ := at2
        rw [hr] at h
        simp only at h
        split at h
        · rename_i he2; simp only [Prod.mk.injEq] at h; exact absurd h.1 he2
        rename_i he2
        have he20 : e2 = 0 := Decidable.not_not.1 he2
        subst he20
        rw [readF_fuel n n' _ _ _ _ _ (by simp; omega) (by simp; omega) hr]
        simp only
        rw [if_neg (by simp)]
        exact h
/-- no remark in l -/
def NoRem (l : List UInt8) : Prop := ∀ i, List.isPrefixOf [226, 141, 157] (l.drop i) = false
theorem NoRem.drop {l : List UInt8} (h : NoRem l) (m : Nat) : NoRem (l.drop m) := fun i => by rw [List.drop_drop]; exact h _
theorem readF_join (r : List UInt8) (ts2 : List Tok) : ∀ (n : Nat) (l : List UInt8) (a k : Nat) (a0 : Int) (ts : List Tok), readF n l a k = (0, a0, ts) → l.length ≤ n → NoRem l →
    ∀ n', l.length + 1 + r.length ≤ n' → (∀ n'', r.length ≤ n'' → readF n'' r (a + l.length + 1) (k + ts.length) = (0, 0, ts2)) → readF n' (l ++ 32 :: r) a k = (0, 0, ts ++ ts2)
  | n, [], a, k, a0, ts, h, _, _, n', hn', h2 => by
    have e : readF n [] a k = (0, 0, []) := by cases n <;> rfl
    rw [e] at h
    simp only [Prod.mk.injEq, true_and] at h
    obtain ⟨rfl, rfl⟩ := h
    simp only [List.length_nil] at hn'
    obtain ⟨m, rfl⟩ : ∃ m, n' = m + 1 := ⟨n' - 1, by omega⟩
    rw [List.nil_append, readF]
    simp only
    rw [pre_false (by decide), if_neg (by simp), if_pos trivial]
    have := h2 m (by omega)
    simpa using this
  | 0, c :: l, a, k, a0, ts, h, hl, _, _, _, _ => by simp at hl
  | n + 1, c :: l, a, k, a0, ts, h, hl, hno, n', hn', h2 => by
    simp only [List.length_cons] at hl hn' h2
    obtain ⟨n'', rfl⟩ : ∃ m, n' = m + 1 := ⟨n' - 1, by omega⟩
    have h0 := hno 0
    rw [List.drop_zero] at h0
    have hp := pre32 [226, 141, 157] (c :: l) r (by decide)
    rw [h0, List.cons_append] at hp
    rw [readF] at h
    rw [List.cons_append, readF]
    simp only at h ⊢
    rw [h0, if_neg (by simp)] at h
    rw [hp, if_neg (by simp)]
    split at h
    · rename_i q; rw [if_pos q]
      exact readF_join r ts2 n l (a + 1) k a0 ts h (by omega) (by have := hno.drop 1; simpa using this) n'' (by omega) (fun m hm => by have := h2 m hm; rw [show a + 1 + l.length + 1 = a + (l.length + 1) + 1 by omega]; exact this)
    rename_i q; rw [if_neg q]
    cases hw : wordF (c :: l) with
    | mk e tm =>
      obtain ⟨t, m⟩ := tm
      rw [hw] at h
      simp only at h
      split at h
      · rename_i he; simp only [Prod.mk.injEq] at h; exact absurd h.1 he
      rename_i he
      have he0 : e = 0 := Decidable.not_not.1 he
      subst he0
      have hw' := word_join (by simp) hw r
      rw [List.cons_append] at hw'
      rw [hw']
      obtain ⟨_, _, m1, m2, _⟩ := word_ok (by simp) hw
      simp only [List.length_cons] at m2
      split at h
      · simp at h
      rename_i q2
      simp only
      rw [if_neg (by simp), if_neg q2]
      cases hr : readF n ((c :: l).drop m) (a + m) (k + 1) with
      | mk e2 at2 =>
        obtain ⟨a2, ts3⟩ := at2
        rw [hr] at h
        simp only at h
        split at h
        · rename_i he2; simp only [Prod.mk.injEq] at h; exact absurd h.1 he2
        rename_i he2
        have he20 : e2 = 0 := Decidable.not_not.1 he2
        subst he20
        simp only [Prod.mk.injEq, true_and] at h
        obtain ⟨rfl, rfl⟩ := h
        have hd : (c :: (l ++ 32 :: r)).drop m = (c :: l).drop m ++ 32 :: r := by
          rw [← List.cons_append, List.drop_append_of_le_length (by simp; omega)]
        have ih := readF_join r ts2 n ((c :: l).drop m) (a + m) (k + 1) a2 ts3 hr (by simp; omega) (hno.drop m) n'' (by simp; omega) (fun j hj => by
          have := h2 j hj
          simp only [List.length_cons] at this
          rw [show a + m + ((c :: l).drop m).length + 1 = a + (l.length + 1) + 1 by simp; omega, show k + 1 + ts3.length = k + (ts3.length + 1) by omega]; exact this)
        rw [hd, ih]
        simp
theorem read_join {s r : List UInt8} {a b : Int} {xs ys : List Tok} (hs : readL s = (0, a, xs)) (hr : readL r = (0, b, ys)) (hl : s.length + r.length + 1 ≤ 1000) (hw : xs.length + ys.length ≤ 200) (hno : NoRem s) :
    readL (s ++ 32 :: r) = (0, 0, xs ++ ys.map (shiftT (s.length + 1))) := by
  unfold readL at hs hr ⊢
  rw [if_neg (by omega)] at hs hr
  rw [if_neg (by simp; omega)]
  refine readF_join r _ _ s 0 0 a xs hs (Nat.le_refl _) hno _ (by simp; omega) fun n hn => ?_
  have h1 := readF_move _ _ _ _ _ _ (s.length + 1) (0 + xs.length) hr (by omega)
  have h2 := readF_fuel r.length n r _ _ _ _ (Nat.le_refl _) hn h1
  simpa [Nat.zero_add, Nat.add_assoc] using h2
end Go.Proofs.YtjefjfdoicddlaaDoor
