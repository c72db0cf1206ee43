/-
  Plain: the library's decoder and the reference's read the same runes.
-/
import Derived.Test.YtgjmgmejojbdeaaGreatDoorUtfPlain
import Derived.Lib.ValidLaws
namespace Go.Proofs.YtgjmgmejojbdeaaGreatDoor
open Go.Lib

def pairN : Option (Int × Nat) → Nat × Nat
  | some (c, n) => (c.toNat, n)
  | none => (65533, 1)
theorem cont_none {n : Nat} {c : Int} {x : UInt8} {t : List UInt8} (h : x.toNat < 128 ∨ 192 ≤ x.toNat) : contF (n + 1) c (x :: t) = none := by
  rw [contF_cons]
  by_cases h1 : x.toNat < 128
  · rw [if_pos h1]
  · rw [if_neg h1, if_pos (by omega)]
theorem cont_some {n : Nat} {c : Int} {x : UInt8} {t : List UInt8} (h : x.toNat / 64 = 2) : contF (n + 1) c (x :: t) = contF n (c * 64 + x.toNat - 128) t := by
  rw [contF_cons, if_neg (by omega), if_neg (by omega)]
theorem head1 {b : Nat} (h : b < 128) : headF b = some (0, 0, (b : Int)) := by
  unfold headF; rw [if_neg (by omega), if_neg (by omega), if_neg (by omega), if_neg (by omega)]
theorem head0 {b : Nat} (h : (128 ≤ b ∧ b < 192) ∨ 248 ≤ b) : headF b = none := by
  unfold headF; rw [if_neg (by omega), if_neg (by omega), if_neg (by omega), if_pos (by omega)]
theorem head2 {b : Nat} (h : b / 32 = 6) : headF b = some (1, 128, (b : Int) - 192) := by
  unfold headF; rw [if_neg (by omega), if_neg (by omega), if_pos (by omega)]
theorem head3 {b : Nat} (h : b / 16 = 14) : headF b = some (2, 2048, (b : Int) - 224) := by
  unfold headF; rw [if_neg (by omega), if_pos (by omega)]
theorem head4 {b : Nat} (h : b / 8 = 30) : headF b = some (3, 65536, (b : Int) - 240) := by
  unfold headF; rw [if_pos (by omega)]
theorem runeF_of {b : UInt8} {t : List UInt8} {more : Nat} {least c : Int} (h : headF b.toNat = some (more, least, c)) : runeF (b :: t) = match contF more c t with | none => none | some c => if badRune least c then none else some (c, more + 1) := by
  simp only [runeF, h]
  cases contF more c t <;> rfl
theorem runeF_no {b : UInt8} {t : List UInt8} (h : headF b.toNat = none) : runeF (b :: t) = none := by simp only [runeF, h]
theorem bad_iff {least c : Int} : badRune least c = true ↔ c < least ∨ 1114111 < c ∨ (55295 < c ∧ c < 57344) := by
  unfold badRune; simp [or_assoc]
theorem fin_rune {least c : Int} {k : Nat} {m : Nat} (hc : c = (m : Int)) (q : Prop) [Decidable q] (hq : q ↔ ¬ (c < least ∨ 1114111 < c ∨ (55295 < c ∧ c < 57344))) :
    (if q then (m, k) else (65533, 1)) = pairN (if badRune least c = true then none else some (c, k)) := by
  by_cases h : badRune least c = true
  · rw [if_pos h, if_neg (by rw [hq]; exact not_not_intro (bad_iff.1 h))]; rfl
  · rw [if_neg h, if_pos (by rw [hq]; exact fun k => h (bad_iff.2 k))]
    subst hc; simp [pairN]

theorem decode_rune (b : UInt8) (t : List UInt8) : decodeL (b :: t) = pairN (runeF (b :: t)) := by
  rw [decodeL_N]
  have hb := b.toNat_lt
  simp only [List.getD_cons_zero, List.length_cons]
  by_cases h1 : b.toNat < 128
  · rw [runeF_of (head1 h1), decodeN, if_pos h1]
    simp only [contF_zero]
    rw [if_neg (by rw [bad_iff]; omega)]
    simp [pairN]
  by_cases h2 : b.toNat / 32 = 6
  · rw [runeF_of (head2 h2), decodeN, if_neg h1]
    cases t with
    | nil => rw [if_neg (by simp), if_neg (by simp), if_neg (by simp)]; rfl
    | cons x t =>
      have hx := x.toNat_lt
      by_cases c1 : x.toNat / 64 = 2
      · rw [if_pos ⟨h2, by simp, by simpa using c1⟩, cont_some c1, contF_zero]
        exact fin_rune (by simp; omega) _ (by simp; omega)
      · rw [if_neg (by simp; omega), if_neg (by simp; omega), if_neg (by simp; omega), cont_none (by omega)]; rfl
  by_cases h3 : b.toNat / 16 = 14
  · rw [runeF_of (head3 h3), decodeN, if_neg h1, if_neg (by omega)]
    cases t with
    | nil => rw [if_neg (by simp), if_neg (by simp)]; rfl
    | cons x t =>
      have hx := x.toNat_lt
      by_cases c1 : x.toNat / 64 = 2
      · rw [cont_some c1]
        cases t with
        | nil => rw [if_neg (by simp), if_neg (by simp)]; rfl
        | cons y t =>
          have hy := y.toNat_lt
          by_cases c2 : y.toNat / 64 = 2
          · rw [if_pos ⟨h3, ⟨by simp, by simpa using c1⟩, by simp, by simpa using c2⟩, cont_some c2, contF_zero]
            exact fin_rune (by simp; omega) _ (by simp; omega)
          · rw [if_neg (by simp; omega), if_neg (by simp; omega), cont_none (by omega)]; rfl
      · rw [if_neg (by simp; omega), if_neg (by simp; omega), cont_none (by omega)]; rfl
  by_cases h4 : b.toNat / 8 = 30
  · rw [runeF_of (head4 h4), decodeN, if_neg h1, if_neg (by omega), if_neg (by omega)]
    cases t with
    | nil => rw [if_neg (by simp)]; rfl
    | cons x t =>
      have hx := x.toNat_lt
      by_cases c1 : x.toNat / 64 = 2
      · rw [cont_some c1]
        cases t with
        | nil => rw [if_neg (by simp)]; rfl
        | cons y t =>
          have hy := y.toNat_lt
          by_cases c2 : y.toNat / 64 = 2
          · rw [cont_some c2]
            cases t with
            | nil => rw [if_neg (by simp)]; rfl
            | cons z t =>
              have hz := z.toNat_lt
              by_cases c3 : z.toNat / 64 = 2
              · rw [if_pos ⟨h4, ⟨by simp, by simpa using c1⟩, ⟨by simp, by simpa using c2⟩, by simp, by simpa using c3⟩, cont_some c3, contF_zero]
                exact fin_rune (by simp; omega) _ (by simp; omega)
              · rw [if_neg (by simp; omega), cont_none (by omega)]; rfl
          · rw [if_neg (by simp; omega), cont_none (by omega)]; rfl
      · rw [if_neg (by simp; omega), cont_none (by omega)]; rfl
  · rw [runeF_no (head0 (by omega)), decodeN, if_neg h1, if_neg (by omega), if_neg (by omega), if_neg (by omega)]; rfl

theorem runeF_good2 {l : List UInt8} {c : Int} {n : Nat} (h : runeF l = some (c, n)) : ¬ (c.toNat = 65533 ∧ n = 1) ∧ 0 ≤ c := by
  cases l with
  | nil => cases h
  | cons b t =>
    have hb := b.toNat_lt
    simp only [runeF] at h
    split at h
    · cases h
    · rename_i more least c0 hh
      split at h
      · cases h
      · rename_i c1 hc
        split at h
        · cases h
        · rename_i hbad
          simp only [Option.some.injEq, Prod.mk.injEq] at h
          obtain ⟨rfl, rfl⟩ := h
          rw [bad_iff] at hbad
          unfold headF at hh
          have h0 : 0 ≤ c1 := by
            repeat' split at hh
            all_goals (simp only [Option.some.injEq, Prod.mk.injEq, reduceCtorEq] at hh; try omega)
          refine ⟨fun ⟨e1, e2⟩ => ?_, h0⟩
          have hm : more = 0 := by omega
          subst hm
          rw [contF_zero] at hc
          simp only [Option.some.injEq] at hc
          repeat' split at hh
          all_goals (simp only [Option.some.injEq, Prod.mk.injEq, reduceCtorEq] at hh; try omega)
theorem valid_runes : ∀ (n : Nat) (l : List UInt8), l.length ≤ n → validD l = (runesL l).isSome
  | _, [], _ => by rw [validD_nil, runesL_nil]; rfl
  | 0, b :: t, h => by simp at h
  | n + 1, b :: t, h => by
    rw [validD_step _ (by simp), decode_rune]
    cases hr : runeF (b :: t) with
    | none => rw [runesL_bad hr]; rfl
    | some cn =>
      obtain ⟨c, k⟩ := cn
      have hk := runeF_pos hr
      rw [runesL_cons hr]
      show (if c.toNat = 65533 ∧ k = 1 then false else _) = _
      rw [if_neg (runeF_good2 hr).1]
      show validD ((b :: t).drop k) = _
      rw [valid_runes n _ (by rw [List.length_drop]; simp at h ⊢; omega)]
      simp
theorem validD_runes (l : List UInt8) : validD l = (runesL l).isSome := valid_runes l.length l (Nat.le_refl _)
end Go.Proofs.YtgjmgmejojbdeaaGreatDoor
