/-
  Plain: what is read can be spelt; where words begin.
-/
import Derived.Test.YtngeooflfkpikaaGreatDoorZBackPlain
namespace Go.Proofs.YtngeooflfkpikaaGreatDoor
theorem signL_some {l : List UInt8} : ∀ (gs : List (List UInt8)) (n : Nat), 0 < n → (signL gs n l).1 ≠ 0 → ∃ i g, gs[i]? = some g ∧ (signL gs n l) = (n + i, g.length) ∧ g.isPrefixOf l = true
  | [], _, _, h => absurd rfl h
  | g :: r, n, hn, h => by
    rw [signL] at h ⊢
    split at h
    · rename_i hg
      rw [if_pos hg]
      exact ⟨0, g, rfl, rfl, hg⟩
    · rename_i hg
      rw [if_neg hg]
      obtain ⟨i, g', h1, h2, h3⟩ := signL_some r (n + 1) (by omega) h
      exact ⟨i + 1, g', by simpa using h1, by rw [h2]; simp; omega, h3⟩
theorem prefix_le {g l : List UInt8} (h : g.isPrefixOf l = true) : g.length ≤ l.length := (List.isPrefixOf_iff_prefix.1 h).length_le
theorem takeWhile_le (p : UInt8 → Bool) (l : List UInt8) : (l.takeWhile p).length ≤ l.length := (List.takeWhile_prefix p).length_le
theorem takeWhile_all (p : UInt8 → Bool) : ∀ l : List UInt8, ∀ b ∈ l.takeWhile p, p b = true
  | [], b, h => by simp at h
  | c :: l, b, h => by
    rw [List.takeWhile_cons] at h
    split at h
    · rcases List.mem_cons.1 h with rfl | h
      · assumption
      · exact takeWhile_all p l b h
    · cases h
theorem badTok_no {t : Tok} (h1 : t.kind ≠ 1 → t.num = 0) (h2 : t.kind ≠ 4 → t.fn = 0) (h3 : t.kind ≠ 3 → t.kind ≠ 2 → t.text = []) : ¬ badTok t = true := by
  unfold badTok
  rw [decide_eq_true_iff]
  rintro (⟨a, b⟩ | ⟨a, b⟩ | ⟨a, b, c⟩)
  · exact b (h1 a)
  · exact b (h2 a)
  · exact c (h3 a b)
theorem word_ok {l : List UInt8} {t : Tok} {m : Nat} (hne : l ≠ []) (h : wordF l = (0, t, m)) : (speltF t).2 = 0 ∧ (-9223372036854775808 ≤ t.num ∧ t.num ≤ 9223372036854775807) ∧ 1 ≤ m ∧ m ≤ l.length ∧ t.at_ = 0 := by
  unfold wordF at h
  simp only at h
  generalize hneg : List.isPrefixOf [194, 175] l = neg at h
  by_cases hds : (if neg = true then l.drop 2 else l).takeWhile isDigitB ≠ []
  · rw [if_pos hds] at h
    cases hv : numF neg ((if neg = true then l.drop 2 else l).takeWhile isDigitB) with
    | none => rw [hv] at h; simp at h
    | some v =>
      rw [hv] at h
      simp only [Prod.mk.injEq, true_and] at h
      obtain ⟨rfl, rfl⟩ := h
      have hV : -9223372036854775808 ≤ v ∧ v ≤ 9223372036854775807 := by
        unfold numF at hv
        split at hv
        · split at hv
          · simp at hv; omega
          · cases hv
        · split at hv
          · simp at hv; omega
          · cases hv
      refine ⟨?_, hV, ?_, ?_, by first | rfl | trivial⟩
      · unfold speltF
        rw [if_neg (badTok_no (by simp) (by simp) (by simp)), if_pos rfl]
      · have : 0 < ((if neg = true then l.drop 2 else l).takeWhile isDigitB).length := List.length_pos_iff.2 hds
        omega
      · have := takeWhile_le isDigitB (if neg = true then l.drop 2 else l)
        cases neg with
        | true =>
          have h2 := prefix_le hneg
          simp at this h2 ⊢; omega
        | false => simpa using this
  · rw [if_neg hds] at h
    split at h
    · simp at h
    split at h
    · rename_i hL
      split at h
      · simp at h
      rename_i h12
      simp only [Prod.mk.injEq, true_and] at h
      obtain ⟨rfl, rfl⟩ := h
      cases l with
      | nil => exact absurd rfl hne
      | cons b r =>
        have hb : isLetterB b = true := hL
        have hpb : isPartB b = true := by unfold isPartB; rw [hb]; rfl
        have e : (b :: r).takeWhile isPartB = b :: r.takeWhile isPartB := by rw [List.takeWhile_cons, hpb]; rfl
        have hall : ((b :: r).takeWhile isPartB).all isPartB = true := List.all_eq_true.2 (takeWhile_all isPartB _)
        refine ⟨?_, by simp, ?_, takeWhile_le _ _, by first | rfl | trivial⟩
        · unfold speltF
          rw [if_neg (badTok_no (by simp) (by simp) (by simp)), if_neg (by simp), if_pos rfl]
          simp only
          unfold nameF
          rw [if_neg (by rw [e]; simp [hb]), if_neg (by rw [hall]; simp), if_neg h12]
        · rw [e]; simp
    split at h
    · split at h
      · simp at h
      · rename_i t' n' hq
        split at h
        · rename_i hQ
          simp only [Prod.mk.injEq, true_and] at h
          obtain ⟨rfl, rfl⟩ := h
          obtain ⟨a1, a2, _⟩ := qscan_some _ (Nat.le_refl _) hq
          refine ⟨?_, by simp, by omega, ?_, by first | rfl | trivial⟩
          · unfold speltF
            rw [if_neg (badTok_no (by simp) (by simp) (by simp)), if_neg (by simp), if_neg (by simp), if_pos rfl, if_pos hQ]
          · cases l with
            | nil => exact absurd rfl hne
            | cons b r => simp at a1 ⊢; exact a1
        · simp at h
    split at h
    · rename_i hg
      obtain ⟨i, g, h1, h2, h3⟩ := signL_some glyphsB 1 (by omega) hg
      rw [h2] at h
      simp only [Prod.mk.injEq, true_and] at h
      obtain ⟨rfl, rfl⟩ := h
      have hG : glyphT ((i : Int) + 1) = g := by
        unfold glyphT
        rw [if_pos (by omega), show ((i : Int) + 1).toNat - 1 = i by omega, List.getD_eq_getElem?_getD, h1]; rfl
      obtain ⟨b, r, hgb, _⟩ := headOk g (List.mem_append.2 (.inl (List.mem_of_getElem? h1)))
      rw [show (((1 + i : Nat)) : Int) = (i : Int) + 1 by omega]
      refine ⟨?_, by simp, by rw [hgb]; simp, prefix_le h3, by first | rfl | trivial⟩
      unfold speltF
      rw [if_neg (badTok_no (by simp) (by simp) (by simp)), if_neg (by simp), if_neg (by simp), if_neg (by simp), if_pos rfl]
      simp only
      rw [hG, if_neg (by rw [hgb]; simp)]
    split at h
    · rename_i hg
      obtain ⟨i, g, h1, h2, h3⟩ := signL_some signsB 1 (by omega) hg
      rw [h2] at h
      simp only [Prod.mk.injEq, true_and] at h
      obtain ⟨rfl, rfl⟩ := h
      have hG : signT ((i : Int) + 5) = g := by
        unfold signT
        rw [if_pos (by omega), show ((i : Int) + 5).toNat - 5 = i by omega, List.getD_eq_getElem?_getD, h1]; rfl
      obtain ⟨b, r, hgb, _⟩ := headOk g (List.mem_append.2 (.inr (List.mem_of_getElem? h1)))
      rw [show (4 + ((1 + i : Nat)) : Int) = (i : Int) + 5 by omega]
      refine ⟨?_, by simp, by rw [hgb]; simp, prefix_le h3, by first | rfl | trivial⟩
      unfold speltF
      rw [if_neg (badTok_no (by simp) (by simp) (by simp)), if_neg (by simp only; omega), if_neg (by simp only; omega), if_neg (by simp only; omega), if_neg (by simp only; omega)]
      simp only
      rw [hG, if_neg (by rw [hgb]; simp)]
    · simp at h
theorem speltF_at (t : Tok) (a : Int) : speltF { t with at_ := a } = speltF t := rfl
/-- what words that were read are -/
structure ReadOk (l : List UInt8) (a : Int) (k : Nat) (ts : List Tok) : Prop where
  err : errF ts = 0
  num : ∀ t ∈ ts, -9223372036854775808 ≤ t.num ∧ t.num ≤ 9223372036854775807
  len : ts = [] ∨ k + ts.length ≤ 200
  pos : ∀ (i : Nat) (t : Tok), ts[i]? = some t → a ≤ t.at_ ∧ t.at_ < a + l.length ∧ l.getD (t.at_ - a).toNat 0 ≠ 32
  inc : ∀ (i : Nat) (t u : Tok), ts[i + 1]? = some t → ts[i]? = some u → u.at_ < t.at_
theorem ReadOk.nil (l : List UInt8) (a : Int) (k : Nat) : ReadOk l a k [] := ⟨rfl, (fun _ h => by cases h), .inl rfl, (fun i t h => by simp at h), (fun i t u h => by simp at h)⟩
theorem ReadOk.skip {b : UInt8} {l : List UInt8} {a : Int} {k : Nat} {ts : List Tok} (h : ReadOk l (a + 1) k ts) : ReadOk (b :: l) a k ts := ⟨h.err, h.num, h.len, (fun i t ht => by
  obtain ⟨h1, h2, h3⟩ := h.pos i t ht
  refine ⟨by omega, by simp; omega, ?_⟩
  rw [show (t.at_ - a).toNat = (t.at_ - (a + 1)).toNat + 1 by omega]
  exact h3), h.inc⟩
theorem readF_ok : ∀ (n : Nat) (l : List UInt8) (a k : Nat) (a' : Int) (ts : List Tok), readF n l a k = (0, a', ts) → ReadOk l a k ts ∧ a' = 0
  | 0, l, a, k, a', ts, h => by simp only [readF, Prod.mk.injEq, true_and] at h; obtain ⟨rfl, rfl⟩ := h; exact ⟨ReadOk.nil _ _ _, rfl⟩
  | n + 1, [], a, k, a', ts, h => by simp only [readF, Prod.mk.injEq, true_and] at h; obtain ⟨rfl, rfl⟩ := h; exact ⟨ReadOk.nil _ _ _, rfl⟩
  | n + 1, b :: r, a, k, a', ts, h => by
    rw [readF] at h
    simp only at h
    split at h
    · simp only [Prod.mk.injEq, true_and] at h; obtain ⟨rfl, rfl⟩ := h; exact ⟨ReadOk.nil _ _ _, rfl⟩
    split at h
    · obtain ⟨h1, h2⟩ := readF_ok n r (a + 1) k a' ts h
      exact ⟨ReadOk.skip (by simpa using h1), h2⟩
    rename_i hb
    cases hw : wordF (b :: r) with
    | mk e tm =>
    obtain ⟨t, m⟩ := tm
    rw [hw] at h
    simp only at h
    split at h
    · rename_i he; simp only [Prod.mk.injEq] at h; exact absurd h.1 he
    rename_i he
    have he0 : e = 0 := Decidable.not_not.1 he
    subst he0
    split at h
    · simp at h
    rename_i hk
    cases hr : readF n ((b :: r).drop m) (a + m) (k + 1) with
    | mk e2 at2 =>
    obtain ⟨a2, ts2⟩ := at2
    rw [hr] at h
    simp only at h
    split at h
    · rename_i he2; simp only [Prod.mk.injEq] at h; exact absurd h.1 he2
    rename_i he2
    have he20 : e2 = 0 := Decidable.not_not.1 he2
    subst he20
    simp only [Prod.mk.injEq, true_and] at h
    obtain ⟨rfl, rfl⟩ := h
    obtain ⟨w1, w2, w3, w4, w5⟩ := word_ok (by simp) hw
    obtain ⟨ih, _⟩ := readF_ok n _ _ _ _ _ hr
    refine ⟨⟨?_, ?_, ?_, ?_, ?_⟩, rfl⟩
    · unfold errF; rw [speltF_at, if_pos w1]; exact ih.err
    · intro u hu
      rcases List.mem_cons.1 hu with rfl | hu
      · exact w2
      · exact ih.num u hu
    · right
      rcases ih.len with rfl | h1
      · simp; omega
      · simp; omega
    · intro i u hu
      cases i with
      | zero =>
        simp at hu
        subst hu
        refine ⟨by simp, by simp; omega, ?_⟩
        simp only [Int.sub_self, Int.toNat_zero, List.getD_cons_zero]
        exact hb
      | succ i =>
        obtain ⟨h1, h2, h3⟩ := ih.pos i u (by simpa using hu)
        rw [List.length_drop] at h2
        refine ⟨by omega, by omega, ?_⟩
        rw [List.getD_eq_getElem?_getD, List.getElem?_drop, ← List.getD_eq_getElem?_getD] at h3
        rw [show (u.at_ - (a : Int)).toNat = m + (u.at_ - ((a + m : Nat) : Int)).toNat by omega]
        exact h3
    · intro i u v hu hv
      cases i with
      | zero =>
        simp at hv
        subst hv
        have := (ih.pos 0 u (by simpa using hu)).1
        simp only
        omega
      | succ i => exact ih.inc i u v (by simpa using hu) (by simpa using hv)
end Go.Proofs.YtngeooflfkpikaaGreatDoor
