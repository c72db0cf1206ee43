/-
  Plain: UTF-8 as the references read it, byte by byte; no program.
  Plain: numbers and rows as texts.
  Plain: the library's decoder and the reference's read the same runes.
  Plain: words and their texts.
-/
import Derived.WalkKit
import Derived.Lib.ItoaNum
import Derived.Lib.ItoaLen
import Derived.Lib.RuneCount
import Derived.Lib.Repeat
import Derived.Lib.ValidLaws
import Derived.Lib.Replace
import Derived.Lib.Join
namespace Go.Proofs.YtllgkdkjcbohcaaGreatDoor
/-- the rest of a rune: n more bytes -/
def contF : Nat → Int → List UInt8 → Option Int
  | 0, c, _ => some c
  | _ + 1, _, [] => none
  | n + 1, c, x :: t => if x.toNat < 128 then none else if 192 ≤ x.toNat then none else contF n (c * 64 + x.toNat - 128) t
/-- more bytes, the least number, the number so far; none: no rune begins so -/
def headF (b : Int) : Option (Nat × Int × Int) :=
  if 240 ≤ b ∧ b < 248 then some (3, 65536, b - 240)
  else if 224 ≤ b ∧ b < 240 then some (2, 2048, b - 224)
  else if 192 ≤ b ∧ b < 224 then some (1, 128, b - 192)
  else if 128 ≤ b then none else some (0, 0, b)
def badRune (least c : Int) : Bool := decide (c < least) || decide (1114111 < c) || (decide (55295 < c) && decide (c < 57344))
/-- the rune that a text begins with, and how many bytes it has -/
def runeF : List UInt8 → Option (Int × Nat)
  | [] => none
  | b :: t => match headF b.toNat with
    | none => none
    | some (more, least, c) => match contF more c t with
      | none => none
      | some c => if badRune least c then none else some (c, more + 1)
def runesF : Nat → List UInt8 → Option (List Int)
  | _, [] => some []
  | 0, _ :: _ => none
  | f + 1, l@(_ :: _) => match runeF l with
    | none => none
    | some (c, n) => (runesF f (l.drop n)).map (c :: ·)
/-- the runes of a text; none: it is not UTF-8 -/
def runesL (l : List UInt8) : Option (List Int) := runesF l.length l
theorem runeF_pos {l : List UInt8} {c : Int} {n : Nat} (h : runeF l = some (c, n)) : 1 ≤ n := by
  cases l with
  | nil => cases h
  | cons b t =>
    simp only [runeF] at h
    split at h
    · cases h
    · split at h
      · cases h
      · split at h
        · cases h
        · simp only [Option.some.injEq, Prod.mk.injEq] at h
          omega
theorem runesF_more : ∀ (f g : Nat) (l : List UInt8), l.length ≤ f → l.length ≤ g → runesF f l = runesF g l := by
  intro f
  induction f with
  | zero =>
    intro g l hf _
    have : l = [] := List.length_eq_zero_iff.1 (by omega)
    subst this
    cases g <;> rfl
  | succ f ih =>
    intro g l hf hg
    cases l with
    | nil => cases g <;> rfl
    | cons b t =>
      cases g with
      | zero => simp at hg
      | succ g =>
        simp only [runesF]
        split
        · rfl
        · rename_i c n h
          have hn : 1 ≤ n := runeF_pos h
          rw [ih g]
          · simp at hf ⊢; omega
          · simp at hg ⊢; omega
theorem runesL_cons {b : UInt8} {t : List UInt8} {c : Int} {n : Nat} (h : runeF (b :: t) = some (c, n)) : runesL (b :: t) = (runesL ((b :: t).drop n)).map (c :: ·) := by
  unfold runesL
  simp only [List.length_cons, runesF, h]
  have hn := runeF_pos h
  rw [runesF_more _ ((b :: t).drop n).length]
  · simp; omega
  · exact Nat.le_refl _
theorem runesL_bad {b : UInt8} {t : List UInt8} (h : runeF (b :: t) = none) : runesL (b :: t) = none := by
  unfold runesL
  simp only [List.length_cons, runesF, h]
theorem runesL_nil : runesL [] = some [] := rfl
def bnd : Nat → Int
  | 0 => 127 | 1 => 127 | 2 => 8191 | 3 => 524287 | _ => 33554431
theorem contF_cons {n : Nat} {c : Int} {x : UInt8} {t : List UInt8} : contF (n + 1) c (x :: t) = if x.toNat < 128 then none else if 192 ≤ x.toNat then none else contF n (c * 64 + x.toNat - 128) t := rfl
theorem contF_zero {c : Int} {t : List UInt8} : contF 0 c t = some c := rfl
end Go.Proofs.YtllgkdkjcbohcaaGreatDoor
namespace Go.Proofs.YtllgkdkjcbohcaaGreatDoor
/-- a number's text: its sign has two bytes -/
def numText (n : Int) : List UInt8 := if n < 0 then 194 :: 175 :: Lib.decDigits n.natAbs else Lib.decDigits n.natAbs
/-- how many characters it has -/
def numWidth (n : Int) : Nat := (if n < 0 then 1 else 0) + (Lib.decDigits n.natAbs).length
theorem itoa_nonneg {n : Int} (h : ¬ n < 0) : Lib.itoa n = numText n := by
  unfold Lib.itoa numText
  rw [if_neg h, if_neg h]
  congr 1
  omega
theorem itoa_neg {n : Int} (h : n < 0) : Lib.itoa n = 45 :: Lib.decDigits n.natAbs := by
  unfold Lib.itoa; rw [if_pos h]
theorem numWidth_le {n : Int} (h : -9223372036854775808 ≤ n) (h' : n ≤ 9223372036854775807) : numWidth n ≤ 21 := by
  unfold numWidth
  rw [Lib.decDigits_length]
  have := Lib.nDigits_le20 n.natAbs (by omega)
  split <;> omega
theorem numText_length (n : Int) : (numText n).length ≤ numWidth n + 1 := by
  unfold numText numWidth; split <;> simp <;> omega
end Go.Proofs.YtllgkdkjcbohcaaGreatDoor
namespace Go.Proofs.YtllgkdkjcbohcaaGreatDoor
open Go.Lib
def pairN : Option (Int × Nat) → Nat × Nat
  | some (c, n) => (c.toNat, n)
  | none => (65533, 1)
theorem cont_none {n : Nat} {c : Int} {x : UInt8} {t : List UInt8} (h : x.toNat < 128 ∨ 192 ≤ x.toNat) : contF (n + 1) c (x :: t) = none := by
  rw [contF_cons]
  by_cases h1 : x.toNat < 128
  · rw [if_pos h1]
  · rw [if_neg h1, if_pos (by omega)]
theorem cont_some {n : Nat} {c : Int} {x : UInt8} {t : List UInt8} (h : x.toNat / 64 = 2) : contF (n + 1) c (x :: t) = contF n (c * 64 + x.toNat - 128) t := by
  rw [contF_cons, if_neg (by omega), if_neg (by omega)]
theorem head1 {b : Nat} (h : b < 128) : headF b = some (0, 0, (b : Int)) := by
  unfold headF; rw [if_neg (by omega), if_neg (by omega), if_neg (by omega), if_neg (by omega)]
theorem head0 {b : Nat} (h : (128 ≤ b ∧ b < 192) ∨ 248 ≤ b) : headF b = none := by
  unfold headF; rw [if_neg (by omega), if_neg (by omega), if_neg (by omega), if_pos (by omega)]
theorem head2 {b : Nat} (h : b / 32 = 6) : headF b = some (1, 128, (b : Int) - 192) := by
  unfold headF; rw [if_neg (by omega), if_neg (by omega), if_pos (by omega)]
theorem head3 {b : Nat} (h : b / 16 = 14) : headF b = some (2, 2048, (b : Int) - 224) := by
  unfold headF; rw [if_neg (by omega), if_pos (by omega)]
theorem head4 {b : Nat} (h : b / 8 = 30) : headF b = some (3, 65536, (b : Int) - 240) := by
  unfold headF; rw [if_pos (by omega)]
theorem runeF_of {b : UInt8} {t : List UInt8} {more : Nat} {least c : Int} (h : headF b.toNat = some (more, least, c)) : runeF (b :: t) = match contF more c t with | none => none | some c => if badRune least c then none else some (c, more + 1) := by
  simp only [runeF, h]
  all_goals (cases contF more c t <;> rfl)
theorem runeF_no {b : UInt8} {t : List UInt8} (h : headF b.toNat = none) : runeF (b :: t) = none := by simp only [runeF, h]
theorem bad_iff {least c : Int} : badRune least c = true ↔ c < least ∨ 1114111 < c ∨ (55295 < c ∧ c < 57344) := by
  unfold badRune; simp [or_assoc]
theorem fin_rune {least c : Int} {k : Nat} {m : Nat} (hc : c = (m : Int)) (q : Prop) [Decidable q] (hq : q ↔ ¬ (c < least ∨ 1114111 < c ∨ (55295 < c ∧ c < 57344))) :
    (if q then (m, k) else (65533, 1)) = pairN (if badRune least c = true then none else some (c, k)) := by
  by_cases h : badRune least c = true
  · rw [if_pos h, if_neg (by rw [hq]; exact not_not_intro (bad_iff.1 h))]; rfl
  · rw [if_neg h, if_pos (by rw [hq]; exact fun k => h (bad_iff.2 k))]
    subst hc; simp [pairN]
theorem decode_rune (b : UInt8) (t : List UInt8) : decodeL (b :: t) = pairN (runeF (b :: t)) := by
  rw [decodeL_N]
  have hb := b.toNat_lt
  simp only [List.getD_cons_zero, List.length_cons]
  by_cases h1 : b.toNat < 128
  · rw [runeF_of (head1 h1), decodeN, if_pos h1]
    simp only [contF_zero]
    rw [if_neg (by rw [bad_iff]; omega)]
    simp [pairN]
  by_cases h2 : b.toNat / 32 = 6
  · rw [runeF_of (head2 h2), decodeN, if_neg h1]
    cases t with
    | nil => rw [if_neg (by simp), if_neg (by simp), if_neg (by simp)]; rfl
    | cons x t =>
      have hx := x.toNat_lt
      by_cases c1 : x.toNat / 64 = 2
      · rw [if_pos ⟨h2, by simp, by simpa using c1⟩, cont_some c1, contF_zero]
        exact fin_rune (by simp; omega) _ (by simp; omega)
      · rw [if_neg (by simp; omega), if_neg (by simp; omega), if_neg (by simp; omega), cont_none (by omega)]; rfl
  by_cases h3 : b.toNat / 16 = 14
  · rw [runeF_of (head3 h3), decodeN, if_neg h1, if_neg (by omega)]
    cases t with
    | nil => rw [if_neg (by simp), if_neg (by simp)]; rfl
    | cons x t =>
      have hx := x.toNat_lt
      by_cases c1 : x.toNat / 64 = 2
      · rw [cont_some c1]
        cases t with
        | nil => rw [if_neg (by simp), if_neg (by simp)]; rfl
        | cons y t =>
          have hy := y.toNat_lt
          by_cases c2 : y.toNat / 64 = 2
          · rw [if_pos ⟨h3, ⟨by simp, by simpa using c1⟩, by simp, by simpa using c2⟩, cont_some c2, contF_zero]
            exact fin_rune (by simp; omega) _ (by simp; omega)
          · rw [if_neg (by simp; omega), if_neg (by simp; omega), cont_none (by omega)]; rfl
      · rw [if_neg (by simp; omega), if_neg (by simp; omega), cont_none (by omega)]; rfl
  by_cases h4 : b.toNat / 8 = 30
  · rw [runeF_of (head4 h4), decodeN, if_neg h1, if_neg (by omega), if_neg (by omega)]
    cases t with
    | nil => rw [if_neg (by simp)]; rfl
    | cons x t =>
      have hx := x.toNat_lt
      by_cases c1 : x.toNat / 64 = 2
      · rw [cont_some c1]
        cases t with
        | nil => rw [if_neg (by simp)]; rfl
        | cons y t =>
          have hy := y.toNat_lt
          by_cases c2 : y.toNat / 64 = 2
          · rw [cont_some c2]
            cases t with
            | nil => rw [if_neg (by simp)]; rfl
            | cons z t =>
              have hz := z.toNat_lt
              by_cases c3 : z.toNat / 64 = 2
              · rw [if_pos ⟨h4, ⟨by simp, by simpa using c1⟩, ⟨by simp, by simpa using c2⟩, by simp, by simpa using c3⟩, cont_some c3, contF_zero]
                exact fin_rune (by simp; omega) _ (by simp; omega)
              · rw [if_neg (by simp; omega), cont_none (by omega)]; rfl
          · rw [if_neg (by simp; omega), cont_none (by omega)]; rfl
      · rw [if_neg (by simp; omega), cont_none (by omega)]; rfl
  · rw [runeF_no (head0 (by omega)), decodeN, if_neg h1, if_neg (by omega), if_neg (by omega), if_neg (by omega)]; rfl
theorem runeF_good2 {l : List UInt8} {c : Int} {n : Nat} (h : runeF l = some (c, n)) : ¬ (c.toNat = 65533 ∧ n = 1) ∧ 0 ≤ c := by
  cases l with
  | nil => cases h
  | cons b t =>
    have hb := b.toNat_lt
    simp only [runeF] at h
    split at h
    · cases h
    · rename_i more least c0 hh
      split at h
      · cases h
      · rename_i c1 hc
        split at h
        · cases h
        · rename_i hbad
          simp only [Option.some.injEq, Prod.mk.injEq] at h
          obtain ⟨rfl, rfl⟩ := h
          rw [bad_iff] at hbad
          unfold headF at hh
          have h0 : 0 ≤ c1 := by
            repeat' split at hh
            all_goals (simp only [Option.some.injEq, Prod.mk.injEq, reduceCtorEq] at hh; try omega)
          refine ⟨fun ⟨e1, e2⟩ => ?_, h0⟩
          have hm : more = 0 := by omega
          subst hm
          rw [contF_zero] at hc
          simp only [Option.some.injEq] at hc
          repeat' split at hh
          all_goals (simp only [Option.some.injEq, Prod.mk.injEq, reduceCtorEq] at hh; try omega)
theorem valid_runes : ∀ (n : Nat) (l : List UInt8), l.length ≤ n → validD l = (runesL l).isSome
  | _, [], _ => by rw [validD_nil, runesL_nil]; rfl
  | 0, b :: t, h => by simp at h
  | n + 1, b :: t, h => by
    rw [validD_step _ (by simp), decode_rune]
    cases hr : runeF (b :: t) with
    | none => rw [runesL_bad hr]; rfl
    | some cn =>
      obtain ⟨c, k⟩ := cn
      have hk := runeF_pos hr
      rw [runesL_cons hr]
      show (if c.toNat = 65533 ∧ k = 1 then false else _) = _
      rw [if_neg (runeF_good2 hr).1]
      show validD ((b :: t).drop k) = _
      rw [valid_runes n _ (by rw [List.length_drop]; simp at h ⊢; omega)]
      simp
theorem validD_runes (l : List UInt8) : validD l = (runesL l).isSome := valid_runes l.length l (Nat.le_refl _)
end Go.Proofs.YtllgkdkjcbohcaaGreatDoor
namespace Go.Proofs.YtllgkdkjcbohcaaGreatDoor
/-- a word -/
structure Tok where
  kind : Int
  fn : Int
  num : Int
  text : List UInt8
  at_ : Int
instance : Inhabited Tok := ⟨⟨0, 0, 0, [], 0⟩⟩
/-- the functions' signs, one behind the other, as UTF-8 -/
def glyphsB : List (List UInt8) := [[43], [45], [195, 151], [195, 183], [124], [226, 140, 136], [226, 140, 138], [61], [226, 137, 160], [60], [226, 137, 164], [226, 137, 165], [62], [226, 136, 167], [226, 136, 168], [42], [126], [226, 141, 180], [44], [226, 140, 189], [226, 141, 137], [226, 134, 145], [226, 134, 147], [226, 141, 179], [226, 136, 138], [226, 141, 139], [226, 141, 146], [226, 136, 170], [226, 136, 169], [226, 138, 165], [226, 138, 164], [226, 137, 161], [47], [92]]
/-- the other signs -/
def signsB : List (List UInt8) := [[40], [41], [91], [93], [59], [226, 134, 144], [226, 136, 152], [46], [226, 141, 168], [123], [125], [58], [226, 139, 132], [226, 141, 186], [226, 141, 181], [226, 136, 135]]
def glyphT (f : Int) : List UInt8 := if 1 ≤ f then glyphsB.getD (f.toNat - 1) [] else []
def signT (k : Int) : List UInt8 := if 5 ≤ k then signsB.getD (k.toNat - 5) [] else []
def isDigitB (b : UInt8) : Bool := decide (48 ≤ b.toNat) && decide (b.toNat ≤ 57)
def isLetterB (b : UInt8) : Bool := (decide (97 ≤ b.toNat) && decide (b.toNat ≤ 122)) || (decide (65 ≤ b.toNat) && decide (b.toNat ≤ 90))
def isPartB (b : UInt8) : Bool := isLetterB b || isDigitB b || decide (b.toNat = 95)
/-- what is wrong with a name -/
def nameF (s : List UInt8) : Int := if s = [] ∨ ¬ isLetterB (s.getD 0 0) = true then 1 else if s.all isPartB = false then 1 else if 12 < s.length then 7 else 0
/-- quotes doubled -/
def dblQ : List UInt8 → List UInt8
  | [] => []
  | b :: r => if b = 39 then 39 :: 39 :: dblQ r else b :: dblQ r
def plainB (b : UInt8) : Bool := decide (32 ≤ b.toNat)
/-- may a text stand between quotes? -/
def quotF (s : List UInt8) : Bool := (runesL s).isSome && s.all plainB
/-- has a word fields that it may not have? -/
def badTok (t : Tok) : Bool := decide ((t.kind ≠ 1 ∧ t.num ≠ 0) ∨ (t.kind ≠ 4 ∧ t.fn ≠ 0) ∨ (t.kind ≠ 3 ∧ t.kind ≠ 2 ∧ t.text ≠ []))
/-- a word's text, and what is wrong -/
def speltF (t : Tok) : List UInt8 × Int :=
  if badTok t = true then ([], 1)
  else if t.kind = 1 then (numText t.num, 0)
  else if t.kind = 3 then (t.text, nameF t.text)
  else if t.kind = 2 then (if quotF t.text = true then (39 :: dblQ t.text ++ [39], 0) else ([], 1))
  else if t.kind = 4 then (if glyphT t.fn = [] then ([], 1) else (glyphT t.fn, 0))
  else if signT t.kind = [] then ([], 1) else (signT t.kind, 0)
/-- the first thing that is wrong -/
def errF : List Tok → Int
  | [] => 0
  | t :: r => if (speltF t).2 = 0 then errF r else (speltF t).2
def textsF (ts : List Tok) : List (List UInt8) := ts.map fun t => (speltF t).1
/-- a line of words, and what is wrong -/
def spellF (ts : List Tok) : List UInt8 × Int :=
  if 200 < ts.length then ([], 7)
  else if errF ts ≠ 0 then ([], errF ts)
  else if 1000 < (Lib.join (textsF ts) [32]).length then ([], 7)
  else (Lib.join (textsF ts) [32], 0)
theorem dblQ_len : ∀ s : List UInt8, (dblQ s).length ≤ 2 * s.length
  | [] => by simp [dblQ]
  | b :: r => by have := dblQ_len r; unfold dblQ; split <;> simp <;> omega
theorem repl_cons {b : UInt8} {l : List UInt8} (hb : ¬ b = 39) (k : Nat) : Lib.replaceK [39] [39, 39] k (b :: l) = b :: Lib.replaceK [39] [39, 39] k l := by
  cases k with
  | zero => rfl
  | succ k =>
    have hi : Lib.index (b :: l) [39] = if Lib.index l [39] == -1 then -1 else Lib.index l [39] + 1 := by
      rw [Lib.index]; rw [if_neg (by simp [List.isPrefixOf]; exact fun e => hb e.symm)]
    have hge := Lib.index_ge l [39]
    by_cases hm : Lib.index l [39] = -1
    · rw [Lib.replaceK, Lib.replaceK, hi, hm]; rfl
    · have hm' : ¬ (Lib.index l [39] == -1) = true := by simpa using hm
      have hm2 : ¬ (Lib.index l [39] + 1 == -1) = true := by simp; omega
      rw [if_neg hm'] at hi
      rw [Lib.replaceK, Lib.replaceK, hi, if_neg hm2, if_neg hm']
      have e : (Lib.index l [39] + 1).toNat = (Lib.index l [39]).toNat + 1 := by omega
      rw [e]; simp
theorem repl_dbl : ∀ (s : List UInt8) (k : Nat), s.count 39 ≤ k → Lib.replaceK [39] [39, 39] k s = dblQ s
  | [], k, _ => by cases k <;> rfl
  | b :: r, k, h => by
    by_cases hb : b = 39
    · subst hb
      rw [List.count_cons] at h
      obtain ⟨k', rfl⟩ : ∃ k', k = k' + 1 := ⟨k - 1, by simp at h; omega⟩
      have hi : Lib.index (39 :: r) [39] = 0 := by rw [Lib.index]; simp [List.isPrefixOf]
      rw [Lib.replaceK, hi]
      simp [dblQ, repl_dbl r k' (by simp at h; omega)]
    · rw [repl_cons hb, dblQ, if_neg hb, repl_dbl r k (by rw [List.count_cons] at h; omega)]
theorem replaceAll_dbl (s : List UInt8) : Lib.replaceAll s [39] [39, 39] = dblQ s := by
  unfold Lib.replaceAll Lib.replace Lib.replaceNum
  rw [if_neg (by decide), if_pos (.inl (by decide)), Lib.count_one]
  exact repl_dbl s _ (Nat.le_refl _)
/-! ## bytes and runes below 32 -/
theorem numText_le {n : Int} (h : -9223372036854775808 ≤ n ∧ n ≤ 9223372036854775807) : (numText n).length ≤ 22 := by
  have := numText_length n; have := numWidth_le h.1 h.2; omega
theorem glyphT_len (f : Int) : (glyphT f).length ≤ 3 := by
  unfold glyphT
  split
  · rw [List.getD_eq_getElem?_getD]
    cases hq : glyphsB[f.toNat - 1]? with
    | none => simp
    | some l => exact (show ∀ l ∈ glyphsB, l.length ≤ 3 by decide) l (List.mem_of_getElem? hq)
  · simp
theorem signT_len (f : Int) : (signT f).length ≤ 3 := by
  unfold signT
  split
  · rw [List.getD_eq_getElem?_getD]
    cases hq : signsB[f.toNat - 5]? with
    | none => simp
    | some l => exact (show ∀ l ∈ signsB, l.length ≤ 3 by decide) l (List.mem_of_getElem? hq)
  · simp
theorem spelt_len {t : Tok} {B : Nat} (hn : -9223372036854775808 ≤ t.num ∧ t.num ≤ 9223372036854775807) (ht : t.text.length ≤ B) : (speltF t).1.length ≤ 2 * B + 22 := by
  have h1 := numText_le hn
  have h2 := dblQ_len t.text
  have h3 := glyphT_len t.fn
  have h4 := signT_len t.kind
  unfold speltF
  repeat' split
  all_goals simp
  all_goals omega
end Go.Proofs.YtllgkdkjcbohcaaGreatDoor
