/-
  Plain: how long the texts are that are read.
-/
import Derived.Test.YtnnidacekljihaaGreatDoorAgainPlain
namespace Go.Proofs.YtnnidacekljihaaGreatDoor

theorem word_txt {l : List UInt8} {t : Tok} {m : Nat} (h : wordF l = (0, t, m)) : t.text.length ≤ l.length := by
  unfold wordF at h
  simp only at h
  generalize hneg : List.isPrefixOf [194, 175] l = neg at h
  by_cases hds : (if neg = true then l.drop 2 else l).takeWhile isDigitB ≠ []
  · rw [if_pos hds] at h
    cases hv : numF neg ((if neg = true then l.drop 2 else l).takeWhile isDigitB) with
    | none => rw [hv] at h; simp at h
    | some v =>
      rw [hv] at h
      simp only [Prod.mk.injEq, true_and] at h
      obtain ⟨rfl, _⟩ := h
      simp
  rw [if_neg hds] at h
  split at h
  · simp at h
  split at h
  · split at h
    · simp at h
    simp only [Prod.mk.injEq, true_and] at h
    obtain ⟨rfl, _⟩ := h
    exact takeWhile_le _ _
  split at h
  · split at h
    · simp at h
    · rename_i t' n' hq
      split at h
      · simp only [Prod.mk.injEq, true_and] at h
        obtain ⟨rfl, _⟩ := h
        obtain ⟨a1, _, a3⟩ := qscan_some _ (Nat.le_refl _) hq
        simp at a1 a3 ⊢; omega
      · simp at h
  split at h
  · simp only [Prod.mk.injEq, true_and] at h
    obtain ⟨rfl, _⟩ := h
    simp
  split at h
  · simp only [Prod.mk.injEq, true_and] at h
    obtain ⟨rfl, _⟩ := h
    simp
  · simp at h
theorem readF_txt : ∀ (n : Nat) (l : List UInt8) (a k : Nat) (a' : Int) (ts : List Tok), readF n l a k = (0, a', ts) → ∀ t ∈ ts, t.text.length ≤ l.length
  | 0, l, a, k, a', ts, h => by simp only [readF, Prod.mk.injEq, true_and] at h; obtain ⟨_, rfl⟩ := h; simp
  | n + 1, [], a, k, a', ts, h => by simp only [readF, Prod.mk.injEq, true_and] at h; obtain ⟨_, rfl⟩ := h; simp
  | n + 1, b :: r, a, k, a', ts, h => by
    rw [readF] at h
    simp only at h
    split at h
    · simp only [Prod.mk.injEq, true_and] at h; obtain ⟨_, rfl⟩ := h; simp
    split at h
    · intro t ht
      have := readF_txt n r (a + 1) k a' ts h t ht
      simp; omega
    cases hw : wordF (b :: r) with
    | mk e tm =>
    obtain ⟨t, m⟩ := tm
    rw [hw] at h
    simp only at h
    split at h
    · rename_i he; simp only [Prod.mk.injEq] at h; exact absurd h.1 he
    rename_i he
    have he0 : e = 0 := Decidable.not_not.1 he
    subst he0
    split at h
    · simp at h
    cases hr : readF n ((b :: r).drop m) (a + m) (k + 1) with
    | mk e2 at2 =>
    obtain ⟨a2, ts2⟩ := at2
    rw [hr] at h
    simp only at h
    split at h
    · rename_i he2; simp only [Prod.mk.injEq] at h; exact absurd h.1 he2
    rename_i he2
    have he20 : e2 = 0 := Decidable.not_not.1 he2
    subst he20
    simp only [Prod.mk.injEq, true_and] at h
    obtain ⟨_, rfl⟩ := h
    intro u hu
    rcases List.mem_cons.1 hu with rfl | hu
    · have := word_txt hw
      exact this
    · have := readF_txt n _ _ _ _ _ hr u hu
      rw [List.length_drop] at this
      omega
theorem readL_txt {s : List UInt8} {a : Int} {ts : List Tok} (h : readL s = (0, a, ts)) : ∀ t ∈ ts, t.text.length ≤ s.length := by
  unfold readL at h
  split at h
  · simp at h
  · exact readF_txt _ _ _ _ _ _ h
end Go.Proofs.YtnnidacekljihaaGreatDoor
