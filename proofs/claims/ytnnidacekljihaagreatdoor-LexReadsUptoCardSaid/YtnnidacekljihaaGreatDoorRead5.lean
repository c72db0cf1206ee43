/-
  lex.reader: word.
-/
import Derived.Test.YtnnidacekljihaaGreatDoorGo
import Derived.Test.YtnnidacekljihaaGreatDoorRead4
import Derived.Test.YtnnidacekljihaaGreatDoorBackPlain
namespace Go.Proofs.YtnnidacekljihaaGreatDoor
open Go.RowKit

/-! ## plain: a word by its first code point -/
theorem decode_ascii1 {b : UInt8} {t : List UInt8} (h : b.toNat < 128) : Lib.decodeL (b :: t) = (b.toNat, 1) := by
  rw [Lib.decodeL_N]
  unfold Lib.decodeN
  simp only [List.getD_cons_zero]
  rw [if_pos h]
theorem decode_high {b : UInt8} {t : List UInt8} (h : ¬ b.toNat < 128) : 128 ≤ (Lib.decodeL (b :: t)).1 := by
  rw [decode_rune]
  have hb := b.toNat_lt
  cases hr : runeF (b :: t) with
  | none => simp [pairN]
  | some cn =>
    obtain ⟨c, n⟩ := cn
    show 128 ≤ c.toNat
    simp only [runeF] at hr
    split at hr
    · cases hr
    · rename_i more least c0 hh
      split at hr
      · cases hr
      · rename_i c1 hc
        split at hr
        · cases hr
        · rename_i hbad
          simp only [Option.some.injEq, Prod.mk.injEq] at hr
          obtain ⟨rfl, rfl⟩ := hr
          rw [bad_iff] at hbad
          unfold headF at hh
          repeat' split at hh
          all_goals (simp only [Option.some.injEq, Prod.mk.injEq, reduceCtorEq] at hh; try omega)
theorem decode_len {b : UInt8} {t : List UInt8} : 1 ≤ (Lib.decodeL (b :: t)).2 ∧ (Lib.decodeL (b :: t)).2 ≤ (b :: t).length := by
  rw [decode_rune]
  cases hr : runeF (b :: t) with
  | none => simp [pairN]
  | some cn =>
    obtain ⟨c, n⟩ := cn
    exact ⟨runeF_pos hr, (rune_bytes hr).2⟩
theorem isD_lt {b : UInt8} (h : isDigitB b = true) : b.toNat < 128 := by unfold isDigitB at h; simp at h; omega
theorem isL_lt {b : UInt8} (h : isLetterB b = true) : b.toNat < 128 := by unfold isLetterB at h; simp at h; omega
theorem neg_decode {b : UInt8} {t : List UInt8} : List.isPrefixOf [194, 175] (b :: t) = decide ((Lib.decodeL (b :: t)).1 = 175) := by
  have e : encB 175 = [194, 175] := by decide
  rw [← e]; exact prefix_decode (.inl (by omega)) (by simp)
/-- a word that begins with neither a digit, a letter nor the sign of a number -/
theorem word_other {b : UInt8} {t : List UInt8} (h1 : isDigitB b = false) (h2 : isLetterB b = false) (h3 : (Lib.decodeL (b :: t)).1 ≠ 175) : wordF (b :: t) =
    (if b = 39 then (match qscan t with
      | none => (1, default, 0)
      | some (x, n) => if quotF x = true then (0, ⟨2, 0, 0, x, 0⟩, n + 1) else (1, default, 0))
    else if signR glyphC 1 (Lib.decodeL (b :: t)).1 ≠ 0 then (0, ⟨4, (signR glyphC 1 (Lib.decodeL (b :: t)).1 : Int), 0, [], 0⟩, (Lib.decodeL (b :: t)).2)
    else if signR signC 1 (Lib.decodeL (b :: t)).1 ≠ 0 then (0, ⟨4 + (signR signC 1 (Lib.decodeL (b :: t)).1 : Int), 0, 0, [], 0⟩, (Lib.decodeL (b :: t)).2)
    else (1, default, 0) : Int × Tok × Nat) := by
  have hp : List.isPrefixOf [194, 175] (b :: t) = false := by rw [neg_decode]; simp [h3]
  have ht : (b :: t).takeWhile isDigitB = [] := by rw [List.takeWhile_cons, h1]; rfl
  obtain ⟨g1, g2⟩ := signL_R (l := b :: t) (by simp) glyphC 1 (by omega) glyphC_ok
  obtain ⟨s1, s2⟩ := signL_R (l := b :: t) (by simp) signC 1 (by omega) signC_ok
  rw [← glyphsB_enc] at g1 g2
  rw [← signsB_enc] at s1 s2
  have hg : (b :: t).getD 0 0 = b := rfl
  have hd : (b :: t).drop 1 = t := rfl
  unfold wordF
  simp only [hp, Bool.false_eq_true, if_false, ht, ne_eq, not_true_eq_false, hg, hd, h2, g1, s1]
  split
  · rfl
  split
  · rename_i k; rw [g2 k]
  split
  · rename_i k; rw [s2 k]
  · rfl
end Go.Proofs.YtnnidacekljihaaGreatDoor
