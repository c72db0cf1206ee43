/-
  Plain: what is spelt is read again.
-/
import Derived.Test.YtngeooflfkpikaaGreatDoorZReadPlain
namespace Go.Proofs.YtngeooflfkpikaaGreatDoor
def EndsOk (l : List UInt8) : Prop := l = [] ∨ ∃ r, l = 32 :: r
def bareT (t : Tok) : Tok := { t with at_ := 0 }
theorem takeW_app {p : UInt8 → Bool} {l : List UInt8} (hl : EndsOk l) (h32 : p 32 = false) : ∀ {x : List UInt8}, (∀ b ∈ x, p b = true) → (x ++ l).takeWhile p = x
  | [], _ => by rcases hl with rfl | ⟨r, rfl⟩ <;> simp [h32]
  | b :: x, hx => by
    rw [List.cons_append, List.takeWhile_cons, hx b (by simp), takeW_app hl h32 (fun c hc => hx c (by simp [hc]))]; rfl
/-! ## numbers -/
theorem decV_snoc (a : List UInt8) (b : UInt8) : decV (a ++ [b]) = decV a * 10 + (b.toNat - 48) := by simp [decV, List.foldl_append]
theorem decV_digits (u : Nat) : decV (Lib.decDigits u) = u := by
  induction u using Nat.strongRecOn with
  | _ u ih =>
    rw [Lib.decDigits]
    split
    · rename_i h
      simp only [decV, List.foldl_cons, List.foldl_nil, u8n _ (show 48 + u < 256 by omega)]; omega
    · rename_i h
      rw [decV_snoc, ih (u / 10) (by omega), u8n _ (by omega)]; omega
theorem digits_ne (u : Nat) : Lib.decDigits u ≠ [] := fun h => by
  have := Lib.decDigits_length u
  rw [h] at this
  have := Lib.nDigits_pos u
  simp at *; omega
theorem digits_isD (u : Nat) : ∀ b ∈ Lib.decDigits u, isDigitB b = true := fun b hb => by
  have := digit_lt u b hb
  unfold isDigitB; simp; omega
theorem word_num {v : Int} (hv : -9223372036854775808 ≤ v ∧ v ≤ 9223372036854775807) {l : List UInt8} (hl : EndsOk l) : wordF (numText v ++ l) = (0, ⟨1, 0, v, [], 0⟩, (numText v).length) := by
  have hne := digits_ne v.natAbs
  have htw := takeW_app hl (p := isDigitB) (by decide) (digits_isD v.natAbs)
  have hV := decV_digits v.natAbs
  by_cases h : v < 0
  · have e : numText v = 194 :: 175 :: Lib.decDigits v.natAbs := by unfold numText; rw [if_pos h]
    have hN : numF true (Lib.decDigits v.natAbs) = some v := by
      unfold numF; rw [hV, if_pos rfl, if_pos (by omega)]; congr 1; omega
    have hp : List.isPrefixOf [194, 175] ((194 : UInt8) :: 175 :: Lib.decDigits v.natAbs ++ l) = true := by simp [List.isPrefixOf]
    have hd : ((194 : UInt8) :: 175 :: Lib.decDigits v.natAbs ++ l).drop 2 = Lib.decDigits v.natAbs ++ l := rfl
    rw [e]
    unfold wordF
    simp only [hp, if_true, hd, htw, if_pos hne, hN]
    congr 2
    simp; omega
  · have e : numText v = Lib.decDigits v.natAbs := by unfold numText; rw [if_neg h]
    have hN : numF false (Lib.decDigits v.natAbs) = some v := by
      unfold numF; rw [hV, if_neg (by simp), if_pos (by omega)]; congr 1; omega
    have hp : List.isPrefixOf [194, 175] (Lib.decDigits v.natAbs ++ l) = false := by
      cases hq : Lib.decDigits v.natAbs with
      | nil => exact absurd hq hne
      | cons b r =>
        have := digit_lt v.natAbs b (by rw [hq]; simp)
        have hb : ((194 : UInt8) == b) = false := by
          rw [beq_eq_false_iff_ne]; intro e; subst e; simp at this
        simp [List.isPrefixOf, hb]
    rw [e]
    unfold wordF
    simp only [hp, Bool.false_eq_true, if_false, htw, if_pos hne, hN]
    congr 2
    omega
/-! ## the first byte tells much -/
theorem pre_false {a b : UInt8} {x l : List UInt8} (h : ¬ a = b) : List.isPrefixOf (a :: x) (b :: l) = false := by
  simp [List.isPrefixOf, h]
theorem word_rest {b : UInt8} {r : List UInt8} (h1 : ¬ b = 194) (h2 : isDigitB b = false) : wordF (b :: r) =
    ((if isLetterB b = true then (if 12 < ((b :: r).takeWhile isPartB).length then (7, default, 0) else (0, ⟨3, 0, 0, (b :: r).takeWhile isPartB, 0⟩, ((b :: r).takeWhile isPartB).length))
    else if b = 39 then (match qscan r with
      | none => (1, default, 0)
      | some (t, n) => if quotF t = true then (0, ⟨2, 0, 0, t, 0⟩, n + 1) else (1, default, 0))
    else if (signL glyphsB 1 (b :: r)).1 ≠ 0 then (0, ⟨4, (signL glyphsB 1 (b :: r)).1, 0, [], 0⟩, (signL glyphsB 1 (b :: r)).2)
    else if (signL signsB 1 (b :: r)).1 ≠ 0 then (0, ⟨4 + (signL signsB 1 (b :: r)).1, 0, 0, [], 0⟩, (signL signsB 1 (b :: r)).2)
    else (1, default, 0)) : Int × Tok × Nat) := by
  have hp : List.isPrefixOf [194, 175] (b :: r) = false := pre_false (fun e => h1 e.symm)
  have ht : (b :: r).takeWhile isDigitB = [] := by rw [List.takeWhile_cons, h2]; rfl
  have hg : (b :: r).getD 0 0 = b := rfl
  have hd : (b :: r).drop 1 = r := rfl
  unfold wordF
  simp only [hp, Bool.false_eq_true, if_false, ht, ne_eq, not_true_eq_false, hg, hd]
  rfl
theorem letter_bd {b : UInt8} (h : isLetterB b = true) : isDigitB b = false ∧ ¬ b = 194 ∧ ¬ b = 32 ∧ ¬ b = 226 := by
  unfold isLetterB at h
  simp at h
  refine ⟨by unfold isDigitB; rw [Bool.eq_false_iff]; simp; omega, ?_, ?_, ?_⟩ <;> (rintro rfl; simp at h)
theorem name_head {s : List UInt8} (h : nameF s = 0) : ∃ b r, s = b :: r ∧ isLetterB b = true ∧ (∀ c ∈ s, isPartB c = true) ∧ s.length ≤ 12 := by
  unfold nameF at h
  split at h
  · cases h
  rename_i h1
  split at h
  · cases h
  rename_i h2
  split at h
  · cases h
  rename_i h3
  cases s with
  | nil => simp at h1
  | cons b r =>
    refine ⟨b, r, rfl, by simpa using h1, ?_, by omega⟩
    rw [Bool.not_eq_false] at h2
    exact List.all_eq_true.1 h2
theorem word_name {s : List UInt8} (h : nameF s = 0) {l : List UInt8} (hl : EndsOk l) : wordF (s ++ l) = (0, ⟨3, 0, 0, s, 0⟩, s.length) := by
  obtain ⟨b, r, rfl, hb, hp, h12⟩ := name_head h
  obtain ⟨b1, b2, _⟩ := letter_bd hb
  have ht := takeW_app hl (p := isPartB) (by decide) hp
  rw [List.cons_append] at ht ⊢
  rw [word_rest b2 b1, if_pos hb, ht, if_neg (by omega)]
theorem qscan_dbl {l : List UInt8} (hl : EndsOk l) : ∀ t : List UInt8, qscan (dblQ t ++ 39 :: l) = some (t, (dblQ t).length + 1)
  | [] => by
    rcases hl with rfl | ⟨r, rfl⟩
    · rfl
    · rw [dblQ, List.nil_append, qscan.eq_def]; rfl
  | b :: t => by
    have ih := qscan_dbl hl t
    by_cases hb : b = 39
    · subst hb
      rw [dblQ, if_pos rfl, List.cons_append, List.cons_append, qscan.eq_def]
      simp only [if_true, ih, Option.map_some, List.length_cons]
    · rw [dblQ, if_neg hb, List.cons_append, qscan.eq_def]
      simp only [if_neg hb, ih, Option.map_some, List.length_cons]
theorem word_chars {t : List UInt8} (h : quotF t = true) {l : List UInt8} (hl : EndsOk l) : wordF (39 :: dblQ t ++ [39] ++ l) = (0, ⟨2, 0, 0, t, 0⟩, (39 :: dblQ t ++ [39]).length) := by
  have e : 39 :: dblQ t ++ [39] ++ l = 39 :: (dblQ t ++ 39 :: l) := by simp
  rw [e, word_rest (by decide) (by decide), if_neg (by decide), if_pos rfl, qscan_dbl hl t]
  simp only [if_pos h]
  congr 2
  simp
/-! ## signs -/
theorem headOk : ∀ x ∈ glyphsB ++ signsB, ∃ b r, x = b :: r ∧ ¬ b = 194 ∧ isDigitB b = false ∧ isLetterB b = false ∧ ¬ b = 39 ∧ ¬ b = 32 := by
  intro x hx
  have h : (glyphsB ++ signsB).all (fun x => match x with | [] => false | b :: _ => decide (¬ b = 194) && !isDigitB b && !isLetterB b && decide (¬ b = 39) && decide (¬ b = 32)) = true := by decide +kernel
  have := List.all_eq_true.1 h x hx
  cases x with
  | nil => simp at this
  | cons b r => refine ⟨b, r, rfl, ?_⟩; simpa [and_assoc] using this
def apartBs (a b : List UInt8) : Bool := !a.isPrefixOf b && !b.isPrefixOf a
theorem apart_pre {a b : List UInt8} (h : apartBs a b = true) (l : List UInt8) : a.isPrefixOf (b ++ l) = false := by
  unfold apartBs at h
  simp only [Bool.and_eq_true, Bool.not_eq_true'] at h
  rw [Bool.eq_false_iff]
  intro hp
  rw [List.isPrefixOf_iff_prefix] at hp
  rcases List.prefix_or_prefix_of_prefix hp (List.prefix_append b l) with h1 | h1
  · rw [← List.isPrefixOf_iff_prefix] at h1; rw [h1] at h; simp at h
  · rw [← List.isPrefixOf_iff_prefix] at h1; rw [h1] at h; simp at h
theorem signs_apart : ∀ i ∈ List.range 51, ∀ j ∈ List.range 51, i ≠ j → apartBs (([226, 141, 157] :: (glyphsB ++ signsB)).getD i []) (([226, 141, 157] :: (glyphsB ++ signsB)).getD j []) = true := by decide +kernel
theorem signL_none {l : List UInt8} : ∀ (gs : List (List UInt8)) (n : Nat), (∀ g ∈ gs, g.isPrefixOf l = false) → signL gs n l = (0, 0)
  | [], _, _ => rfl
  | g :: r, n, h => by rw [signL, h g (by simp)]; exact signL_none r (n + 1) fun g hg => h g (by simp [hg])
theorem signL_at {l : List UInt8} : ∀ (gs : List (List UInt8)) (n i : Nat) (g : List UInt8), gs[i]? = some g → g.isPrefixOf l = true → (∀ j g', j < i → gs[j]? = some g' → g'.isPrefixOf l = false) → signL gs n l = (n + i, g.length)
  | [], _, _, _, h, _, _ => by simp at h
  | x :: r, n, 0, g, h, hg, _ => by
    simp at h; subst h
    rw [signL, if_pos hg]; rfl
  | x :: r, n, i + 1, g, h, hg, hj => by
    rw [signL, hj 0 x (by omega) rfl, signL_at r (n + 1) i g (by simpa using h) hg fun j g' hl he => hj (j + 1) g' (by omega) (by simpa using he)]
    simp; omega
theorem getD_glyph {i : Nat} {g : List UInt8} (h : glyphsB[i]? = some g) : i < 34 ∧ ([226, 141, 157] :: (glyphsB ++ signsB)).getD (i + 1) [] = g := by
  have hi := (List.getElem?_eq_some_iff.1 h).1
  have hi' : i < 34 := hi
  refine ⟨hi', ?_⟩
  rw [List.getD_cons_succ, List.getD_eq_getElem?_getD, List.getElem?_append_left hi, h]; rfl
theorem getD_sign {i : Nat} {g : List UInt8} (h : signsB[i]? = some g) : i < 16 ∧ ([226, 141, 157] :: (glyphsB ++ signsB)).getD (i + 35) [] = g := by
  have hi := (List.getElem?_eq_some_iff.1 h).1
  have hi' : i < 16 := hi
  refine ⟨hi', ?_⟩
  have hl : glyphsB.length = 34 := rfl
  rw [show i + 35 = (34 + i) + 1 by omega, List.getD_cons_succ, List.getD_eq_getElem?_getD, List.getElem?_append_right (by omega), hl, show 34 + i - 34 = i by omega, h]; rfl
theorem apart_of {i j : Nat} {g g' : List UInt8} (hi : i < 51) (hj : j < 51) (hne : i ≠ j) (h : ([226, 141, 157] :: (glyphsB ++ signsB)).getD i [] = g) (h' : ([226, 141, 157] :: (glyphsB ++ signsB)).getD j [] = g') (l : List UInt8) : g.isPrefixOf (g' ++ l) = false := by
  have := signs_apart i (List.mem_range.2 hi) j (List.mem_range.2 hj) hne
  rw [h, h'] at this
  exact apart_pre this l
theorem comment_glyph {i : Nat} {g : List UInt8} (h : glyphsB[i]? = some g) (l : List UInt8) : List.isPrefixOf [226, 141, 157] (g ++ l) = false := by
  obtain ⟨h1, h2⟩ := getD_glyph h
  exact apart_of (i := 0) (by omega) (by omega) (by omega) rfl h2 l
theorem comment_sign {i : Nat} {g : List UInt8} (h : signsB[i]? = some g) (l : List UInt8) : List.isPrefixOf [226, 141, 157] (g ++ l) = false := by
  obtain ⟨h1, h2⟩ := getD_sign h
  exact apart_of (i := 0) (by omega) (by omega) (by omega) rfl h2 l
theorem self_pre (g l : List UInt8) : g.isPrefixOf (g ++ l) = true := List.isPrefixOf_iff_prefix.2 (List.prefix_append g l)
theorem sign_glyph {i : Nat} {g : List UInt8} (h : glyphsB[i]? = some g) (l : List UInt8) : signL glyphsB 1 (g ++ l) = (1 + i, g.length) := by
  obtain ⟨h1, h2⟩ := getD_glyph h
  refine signL_at _ _ _ _ h (self_pre g l) fun j g' hj hg' => ?_
  obtain ⟨k1, k2⟩ := getD_glyph hg'
  exact apart_of (by omega) (by omega) (by omega) k2 h2 l
theorem sign_sign {i : Nat} {g : List UInt8} (h : signsB[i]? = some g) (l : List UInt8) : signL glyphsB 1 (g ++ l) = (0, 0) ∧ signL signsB 1 (g ++ l) = (1 + i, g.length) := by
  obtain ⟨h1, h2⟩ := getD_sign h
  refine ⟨signL_none _ _ fun g' hg' => ?_, signL_at _ _ _ _ h (self_pre g l) fun j g' hj hg' => ?_⟩
  · obtain ⟨j, hj⟩ := List.getElem?_of_mem hg'
    obtain ⟨k1, k2⟩ := getD_glyph hj
    exact apart_of (by omega) (by omega) (by omega) k2 h2 l
  · obtain ⟨k1, k2⟩ := getD_sign hg'
    exact apart_of (by omega) (by omega) (by omega) k2 h2 l
theorem word_glyph {i : Nat} {g : List UInt8} (h : glyphsB[i]? = some g) (l : List UInt8) : wordF (g ++ l) = (0, ⟨4, (i : Int) + 1, 0, [], 0⟩, g.length) := by
  have hs := sign_glyph h l
  obtain ⟨b, r, rfl, h1, h2, h3, h4, _⟩ := headOk g (List.mem_append.2 (.inl (List.mem_of_getElem? h)))
  rw [List.cons_append] at hs ⊢
  rw [word_rest h1 h2, if_neg (by rw [h3]; simp), if_neg h4, hs, if_pos (by simp only; omega)]
  congr 3
  simp; omega
theorem word_sign {i : Nat} {g : List UInt8} (h : signsB[i]? = some g) (l : List UInt8) : wordF (g ++ l) = (0, ⟨(i : Int) + 5, 0, 0, [], 0⟩, g.length) := by
  obtain ⟨hs0, hs⟩ := sign_sign h l
  obtain ⟨b, r, rfl, h1, h2, h3, h4, _⟩ := headOk g (List.mem_append.2 (.inr (List.mem_of_getElem? h)))
  rw [List.cons_append] at hs0 hs ⊢
  rw [word_rest h1 h2, if_neg (by rw [h3]; simp), if_neg h4, hs0, if_neg (by simp), hs, if_pos (by simp only; omega)]
  congr 3
  simp; omega
/-! ## a word that is spelt -/
theorem glyphT_some {f : Int} (h : glyphT f ≠ []) : ∃ i : Nat, f = (i : Int) + 1 ∧ glyphsB[i]? = some (glyphT f) := by
  unfold glyphT at h ⊢
  split at h
  · rename_i hf
    rw [if_pos hf]
    refine ⟨f.toNat - 1, by omega, ?_⟩
    rw [List.getD_eq_getElem?_getD] at h ⊢
    cases hq : glyphsB[f.toNat - 1]? with
    | none => rw [hq] at h; exact absurd rfl h
    | some g => rfl
  · exact absurd rfl h
theorem signT_some {f : Int} (h : signT f ≠ []) : ∃ i : Nat, f = (i : Int) + 5 ∧ signsB[i]? = some (signT f) := by
  unfold signT at h ⊢
  split at h
  · rename_i hf
    rw [if_pos hf]
    refine ⟨f.toNat - 5, by omega, ?_⟩
    rw [List.getD_eq_getElem?_getD] at h ⊢
    cases hq : signsB[f.toNat - 5]? with
    | none => rw [hq] at h; exact absurd rfl h
    | some g => rfl
  · exact absurd rfl h
theorem word_spelt {t : Tok} (ht : (speltF t).2 = 0) (hn : -9223372036854775808 ≤ t.num ∧ t.num ≤ 9223372036854775807) {l : List UInt8} (hl : EndsOk l) :
    wordF ((speltF t).1 ++ l) = (0, bareT t, (speltF t).1.length) ∧ (∃ b r, (speltF t).1 = b :: r ∧ ¬ b = 32) ∧ List.isPrefixOf [226, 141, 157] ((speltF t).1 ++ l) = false := by
  obtain ⟨kind, fn, num, text, at'⟩ := t
  unfold speltF at ht ⊢
  split at ht
  · cases ht
  rename_i hbad
  rw [if_neg hbad]
  have hbad' : ¬ ((kind ≠ 1 ∧ num ≠ 0) ∨ (kind ≠ 4 ∧ fn ≠ 0) ∨ (kind ≠ 3 ∧ kind ≠ 2 ∧ text ≠ [])) := fun h => hbad (by unfold badTok; exact decide_eq_true h)
  have b1 : kind ≠ 1 → num = 0 := fun h => Decidable.byContradiction fun k => hbad' (.inl ⟨h, k⟩)
  have b2 : kind ≠ 4 → fn = 0 := fun h => Decidable.byContradiction fun k => hbad' (.inr (.inl ⟨h, k⟩))
  have b3 : kind ≠ 3 → kind ≠ 2 → text = [] := fun h h' => Decidable.byContradiction fun k => hbad' (.inr (.inr ⟨h, h', k⟩))
  simp only at ht hn ⊢
  split at ht
  · rename_i hk
    rw [if_pos hk]
    refine ⟨?_, ?_, ?_⟩
    · rw [word_num hn hl]
      unfold bareT
      simp only
      rw [hk, b2 (by omega), b3 (by omega) (by omega)]
    · by_cases h0 : num < 0
      · exact ⟨194, _, by unfold numText; rw [if_pos h0], by decide⟩
      · have hd := digits_isD num.natAbs
        cases hq : Lib.decDigits num.natAbs with
        | nil => exact absurd hq (digits_ne _)
        | cons b r =>
          refine ⟨b, r, by unfold numText; rw [if_neg h0, hq], ?_⟩
          rintro rfl
          exact absurd (hd 32 (by rw [hq]; simp)) (by decide)
    · by_cases h0 : num < 0
      · unfold numText; rw [if_pos h0]; exact pre_false (by decide)
      · have hd := digits_isD num.natAbs
        unfold numText; rw [if_neg h0]
        cases hq : Lib.decDigits num.natAbs with
        | nil => exact absurd hq (digits_ne _)
        | cons b r =>
          refine pre_false ?_
          rintro rfl
          exact absurd (hd 226 (by rw [hq]; simp)) (by decide)
  rename_i k1
  rw [if_neg k1]
  split at ht
  · rename_i hk
    rw [if_pos hk]
    refine ⟨?_, ?_, ?_⟩
    · rw [word_name ht hl]
      unfold bareT
      simp only
      rw [hk, b1 (by omega), b2 (by omega)]
    · obtain ⟨b, r, rfl, hb, _⟩ := name_head ht
      exact ⟨b, r, rfl, (letter_bd hb).2.2.1⟩
    · obtain ⟨b, r, rfl, hb, _⟩ := name_head ht
      exact pre_false fun e => (letter_bd hb).2.2.2 e.symm
  rename_i k3
  rw [if_neg k3]
  split at ht
  · rename_i hk
    rw [if_pos hk]
    split at ht
    · rename_i hq
      rw [if_pos hq]
      refine ⟨?_, ⟨39, _, rfl, by decide⟩, ?_⟩
      · rw [word_chars hq hl]
        unfold bareT
        simp only
        rw [hk, b1 (by omega), b2 (by omega)]
      · exact pre_false (by decide)
    · cases ht
  rename_i k2
  rw [if_neg k2]
  split at ht
  · rename_i hk
    rw [if_pos hk]
    split at ht
    · cases ht
    · rename_i hg
      rw [if_neg hg]
      obtain ⟨i, hf, hi⟩ := glyphT_some hg
      refine ⟨?_, ?_, comment_glyph hi l⟩
      · rw [word_glyph hi l]
        unfold bareT
        simp only
        rw [hk, b1 (by omega), b3 (by omega) (by omega), hf]
      · obtain ⟨b, r, e, _, _, _, _, h32⟩ := headOk _ (List.mem_append.2 (.inl (List.mem_of_getElem? hi)))
        exact ⟨b, r, e, h32⟩
  rename_i k4
  rw [if_neg k4]
  split at ht
  · cases ht
  · rename_i hg
    rw [if_neg hg]
    obtain ⟨i, hf, hi⟩ := signT_some hg
    refine ⟨?_, ?_, comment_sign hi l⟩
    · rw [word_sign hi l]
      unfold bareT
      simp only
      rw [b1 (by omega), b2 (by omega), b3 (by omega) (by omega), hf]
    · obtain ⟨b, r, e, _, _, _, _, h32⟩ := headOk _ (List.mem_append.2 (.inr (List.mem_of_getElem? hi)))
      exact ⟨b, r, e, h32⟩
/-! ## a line that is spelt -/
theorem readF_word {n : Nat} {x l : List UInt8} {a k : Nat} {t : Tok} (hw : wordF (x ++ l) = (0, t, x.length)) (hx : ∃ b r, x = b :: r ∧ ¬ b = 32) (hc : List.isPrefixOf [226, 141, 157] (x ++ l) = false) (hk : k < 200) :
    readF (n + 1) (x ++ l) a k = match readF n l (a + x.length) (k + 1) with | (e', a', ts) => if e' ≠ 0 then (e', a', []) else (0, 0, { t with at_ := a } :: ts) := by
  obtain ⟨b, r, rfl, hb⟩ := hx
  rw [List.cons_append] at hw hc ⊢
  rw [readF]
  simp only
  rw [hc, if_neg (by simp), if_neg hb, hw]
  simp only
  rw [if_neg (by simp), if_neg (by omega)]
  rw [← List.cons_append, List.drop_left]
theorem ends_tail (xs : List (List UInt8)) : EndsOk (Lib.joinTail [32] xs) := by
  cases xs with
  | nil => exact .inl rfl
  | cons x r => exact .inr ⟨_, rfl⟩
theorem tail_cons (x : List UInt8) (r : List (List UInt8)) : Lib.joinTail [32] (x :: r) = 32 :: (x ++ Lib.joinTail [32] r) := by
  simp [Lib.joinTail]
theorem readF_tail : ∀ (ts : List Tok) (n a k : Nat), errF ts = 0 → (∀ t ∈ ts, -9223372036854775808 ≤ t.num ∧ t.num ≤ 9223372036854775807) → (Lib.joinTail [32] (textsF ts)).length ≤ n → k + ts.length ≤ 200 →
    ∃ ts', readF n (Lib.joinTail [32] (textsF ts)) a k = (0, 0, ts') ∧ ts'.map bareT = ts.map bareT
  | [], n, a, k, _, _, _, _ => ⟨[], by cases n <;> rfl, rfl⟩
  | t :: r, n, a, k, he, hn, hl, hk => by
    unfold errF at he
    by_cases ht : (speltF t).2 = 0
    · rw [if_pos ht] at he
      have e : Lib.joinTail [32] (textsF (t :: r)) = 32 :: ((speltF t).1 ++ Lib.joinTail [32] (textsF r)) := tail_cons _ _
      rw [e] at hl ⊢
      obtain ⟨h1, h2, h3⟩ := word_spelt ht (hn t (by simp)) (ends_tail (textsF r))
      have hx1 : 1 ≤ (speltF t).1.length := by obtain ⟨b, rr, hb, _⟩ := h2; rw [hb]; simp
      simp only [List.length_cons, List.length_append] at hl hk
      obtain ⟨n', rfl⟩ : ∃ n', n = n' + 2 := ⟨n - 2, by omega⟩
      rw [readF]
      simp only
      rw [pre_false (by decide), if_neg (by simp), if_pos trivial, readF_word h1 h2 h3 (by omega)]
      obtain ⟨ts', e1, e2⟩ := readF_tail r n' (a + 1 + (speltF t).1.length) (k + 1) he (fun u hu => hn u (by simp [hu])) (by omega) (by omega)
      rw [e1]
      simp only
      rw [if_neg (by simp)]
      exact ⟨_, rfl, by rw [List.map_cons, List.map_cons, e2]; rfl⟩
    · rw [if_neg ht] at he
      exact absurd he ht
theorem read_back {ts : List Tok} (hn : ∀ t ∈ ts, -9223372036854775808 ≤ t.num ∧ t.num ≤ 9223372036854775807) (h : (spellF ts).2 = 0) : ∃ ts', readL (spellF ts).1 = (0, 0, ts') ∧ ts'.map bareT = ts.map bareT := by
  unfold spellF at h ⊢
  split at h
  · cases h
  rename_i h1
  split at h
  · rename_i h2; exact absurd h h2
  rename_i h2
  have h2' : errF ts = 0 := Decidable.not_not.1 h2
  split at h
  · cases h
  rename_i h3
  rw [if_neg h1, if_neg h2, if_neg h3]
  unfold readL
  simp only
  rw [if_neg h3]
  cases ts with
  | nil => exact ⟨[], rfl, rfl⟩
  | cons t r =>
    unfold errF at h2'
    by_cases ht : (speltF t).2 = 0
    · rw [if_pos ht] at h2'
      have e : Lib.join (textsF (t :: r)) [32] = (speltF t).1 ++ Lib.joinTail [32] (textsF r) := Lib.join_cons _ _ _
      rw [e] at h3 ⊢
      obtain ⟨a1, a2, a3⟩ := word_spelt ht (hn t (by simp)) (ends_tail (textsF r))
      have hlen : 1 ≤ (speltF t).1.length := by obtain ⟨b, rr, hb, _⟩ := a2; rw [hb]; simp
      rw [List.length_append] at h3 ⊢
      simp only [List.length_cons] at h1
      obtain ⟨n', hn'⟩ : ∃ n', (speltF t).1.length + (Lib.joinTail [32] (textsF r)).length = n' + 1 := ⟨(speltF t).1.length + (Lib.joinTail [32] (textsF r)).length - 1, by omega⟩
      rw [hn', readF_word a1 a2 a3 (by omega)]
      obtain ⟨ts', e1, e2⟩ := readF_tail r n' (0 + (speltF t).1.length) (0 + 1) h2' (fun u hu => hn u (by simp [hu])) (by omega) (by omega)
      rw [e1]
      simp only
      rw [if_neg (by simp)]
      exact ⟨_, rfl, by rw [List.map_cons, List.map_cons, e2]; rfl⟩
    · rw [if_neg ht] at h2'
      exact absurd h2' ht
end Go.Proofs.YtngeooflfkpikaaGreatDoor
