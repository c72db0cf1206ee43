/-
  Plain: words and their texts.
-/
import Derived.Test.YtgjmgmejojbdeaaGreatDoorShowPlain
import Derived.Test.YtgjmgmejojbdeaaGreatDoorUtfBoth
import Derived.Lib.Replace
import Derived.Lib.Join
namespace Go.Proofs.YtgjmgmejojbdeaaGreatDoor

/-- a word -/
structure Tok where
  kind : Int
  fn : Int
  num : Int
  text : List UInt8
  at_ : Int
instance : Inhabited Tok := ⟨⟨0, 0, 0, [], 0⟩⟩

/-- the functions' signs, one behind the other, as UTF-8 -/
def glyphsB : List (List UInt8) := [[43], [45], [195, 151], [195, 183], [124], [226, 140, 136], [226, 140, 138], [61], [226, 137, 160], [60], [226, 137, 164], [226, 137, 165], [62], [226, 136, 167], [226, 136, 168], [42], [126], [226, 141, 180], [44], [226, 140, 189], [226, 141, 137], [226, 134, 145], [226, 134, 147], [226, 141, 179], [226, 136, 138], [226, 141, 139], [226, 141, 146], [226, 136, 170], [226, 136, 169], [226, 138, 165], [226, 138, 164], [226, 137, 161], [47], [92]]
/-- the other signs -/
def signsB : List (List UInt8) := [[40], [41], [91], [93], [59], [226, 134, 144], [226, 136, 152], [46], [226, 141, 168], [123], [125], [58], [226, 139, 132], [226, 141, 186], [226, 141, 181], [226, 136, 135]]
def glyphT (f : Int) : List UInt8 := if 1 ≤ f then glyphsB.getD (f.toNat - 1) [] else []
def signT (k : Int) : List UInt8 := if 5 ≤ k then signsB.getD (k.toNat - 5) [] else []

def isDigitB (b : UInt8) : Bool := decide (48 ≤ b.toNat) && decide (b.toNat ≤ 57)
def isLetterB (b : UInt8) : Bool := (decide (97 ≤ b.toNat) && decide (b.toNat ≤ 122)) || (decide (65 ≤ b.toNat) && decide (b.toNat ≤ 90))
def isPartB (b : UInt8) : Bool := isLetterB b || isDigitB b || decide (b.toNat = 95)
/-- what is wrong with a name -/
def nameF (s : List UInt8) : Int := if s = [] ∨ ¬ isLetterB (s.getD 0 0) = true then 1 else if s.all isPartB = false then 1 else if 12 < s.length then 7 else 0
/-- quotes doubled -/
def dblQ : List UInt8 → List UInt8
  | [] => []
  | b :: r => if b = 39 then 39 :: 39 :: dblQ r else b :: dblQ r
def plainB (b : UInt8) : Bool := decide (32 ≤ b.toNat)
/-- may a text stand between quotes? -/
def quotF (s : List UInt8) : Bool := (runesL s).isSome && s.all plainB
/-- has a word fields that it may not have? -/
def badTok (t : Tok) : Bool := decide ((t.kind ≠ 1 ∧ t.num ≠ 0) ∨ (t.kind ≠ 4 ∧ t.fn ≠ 0) ∨ (t.kind ≠ 3 ∧ t.kind ≠ 2 ∧ t.text ≠ []))
/-- a word's text, and what is wrong -/
def speltF (t : Tok) : List UInt8 × Int :=
  if badTok t = true then ([], 1)
  else if t.kind = 1 then (numText t.num, 0)
  else if t.kind = 3 then (t.text, nameF t.text)
  else if t.kind = 2 then (if quotF t.text = true then (39 :: dblQ t.text ++ [39], 0) else ([], 1))
  else if t.kind = 4 then (if glyphT t.fn = [] then ([], 1) else (glyphT t.fn, 0))
  else if signT t.kind = [] then ([], 1) else (signT t.kind, 0)
/-- the first thing that is wrong -/
def errF : List Tok → Int
  | [] => 0
  | t :: r => if (speltF t).2 = 0 then errF r else (speltF t).2
def textsF (ts : List Tok) : List (List UInt8) := ts.map fun t => (speltF t).1
/-- a line of words, and what is wrong -/
def spellF (ts : List Tok) : List UInt8 × Int :=
  if 200 < ts.length then ([], 7)
  else if errF ts ≠ 0 then ([], errF ts)
  else if 1000 < (Lib.join (textsF ts) [32]).length then ([], 7)
  else (Lib.join (textsF ts) [32], 0)

theorem dblQ_len : ∀ s : List UInt8, (dblQ s).length ≤ 2 * s.length
  | [] => by simp [dblQ]
  | b :: r => by have := dblQ_len r; unfold dblQ; split <;> simp <;> omega
theorem dblQ_none : ∀ {s : List UInt8}, s.count 39 = 0 → dblQ s = s
  | [], _ => rfl
  | b :: r, h => by
    have hb : ¬ b = 39 := fun e => by subst e; simp at h
    rw [dblQ, if_neg hb, dblQ_none]
    rw [List.count_cons] at h; omega
theorem repl_cons {b : UInt8} {l : List UInt8} (hb : ¬ b = 39) (k : Nat) : Lib.replaceK [39] [39, 39] k (b :: l) = b :: Lib.replaceK [39] [39, 39] k l := by
  cases k with
  | zero => rfl
  | succ k =>
    have hi : Lib.index (b :: l) [39] = if Lib.index l [39] == -1 then -1 else Lib.index l [39] + 1 := by
      rw [Lib.index]; rw [if_neg (by simp [List.isPrefixOf]; exact fun e => hb e.symm)]
    have hge := Lib.index_ge l [39]
    by_cases hm : Lib.index l [39] = -1
    · rw [Lib.replaceK, Lib.replaceK, hi, hm]; rfl
    · have hm' : ¬ (Lib.index l [39] == -1) = true := by simpa using hm
      have hm2 : ¬ (Lib.index l [39] + 1 == -1) = true := by simp; omega
      rw [if_neg hm'] at hi
      rw [Lib.replaceK, Lib.replaceK, hi, if_neg hm2, if_neg hm']
      have e : (Lib.index l [39] + 1).toNat = (Lib.index l [39]).toNat + 1 := by omega
      rw [e]; simp
theorem repl_dbl : ∀ (s : List UInt8) (k : Nat), s.count 39 ≤ k → Lib.replaceK [39] [39, 39] k s = dblQ s
  | [], k, _ => by cases k <;> rfl
  | b :: r, k, h => by
    by_cases hb : b = 39
    · subst hb
      rw [List.count_cons] at h
      obtain ⟨k', rfl⟩ : ∃ k', k = k' + 1 := ⟨k - 1, by simp at h; omega⟩
      have hi : Lib.index (39 :: r) [39] = 0 := by rw [Lib.index]; simp [List.isPrefixOf]
      rw [Lib.replaceK, hi]
      simp [dblQ, repl_dbl r k' (by simp at h; omega)]
    · rw [repl_cons hb, dblQ, if_neg hb, repl_dbl r k (by rw [List.count_cons] at h; omega)]
theorem replaceAll_dbl (s : List UInt8) : Lib.replaceAll s [39] [39, 39] = dblQ s := by
  unfold Lib.replaceAll Lib.replace Lib.replaceNum
  rw [if_neg (by decide), if_pos (.inl (by decide)), Lib.count_one]
  exact repl_dbl s _ (Nat.le_refl _)

theorem join_snoc (l : List (List UInt8)) (x sep : List UInt8) : Lib.join (l ++ [x]) sep = if l = [] then x else Lib.join l sep ++ sep ++ x := by
  cases l with
  | nil => rw [if_pos rfl]; exact Lib.join_one x sep
  | cons a r =>
    rw [if_neg (by simp), List.cons_append, Lib.join_cons, Lib.join_cons]
    simp [Lib.joinTail]

/-! ## bytes and runes below 32 -/
theorem cont_bytes : ∀ (n : Nat) (c : Int) (t : List UInt8) (c' : Int), contF n c t = some c' → (t.take n).all plainB = true ∧ n ≤ t.length
  | 0, c, t, c', _ => ⟨by simp, by omega⟩
  | n + 1, c, [], c', h => by rw [contF_nil] at h; cases h
  | n + 1, c, x :: t, c', h => by
    rw [contF_cons] at h
    split at h
    · cases h
    · split at h
      · cases h
      · obtain ⟨h1, h2⟩ := cont_bytes n _ t c' h
        simp only [List.take_succ_cons, List.all_cons, h1, Bool.and_true, List.length_cons]
        refine ⟨?_, by omega⟩
        unfold plainB; simp; omega
theorem rune_bytes {l : List UInt8} {c : Int} {n : Nat} (h : runeF l = some (c, n)) : ((l.take n).all plainB = true ↔ 32 ≤ c) ∧ n ≤ l.length := by
  cases l with
  | nil => cases h
  | cons b t =>
    simp only [runeF] at h
    split at h
    · cases h
    · rename_i more least c0 hh
      split at h
      · cases h
      · rename_i c1 hc
        split at h
        · cases h
        · rename_i hbad
          simp only [Option.some.injEq, Prod.mk.injEq] at h
          obtain ⟨rfl, rfl⟩ := h
          rw [bad_iff] at hbad
          obtain ⟨h1, h2⟩ := cont_bytes _ _ _ _ hc
          simp only [List.take_succ_cons, List.all_cons, h1, Bool.and_true, List.length_cons]
          refine ⟨?_, by omega⟩
          unfold plainB
          rw [decide_eq_true_iff]
          unfold headF at hh
          repeat' split at hh
          all_goals (simp only [Option.some.injEq, Prod.mk.injEq, reduceCtorEq] at hh; try obtain ⟨rfl, rfl, rfl⟩ := hh)
          all_goals try omega
          rw [contF_zero] at hc
          simp only [Option.some.injEq] at hc
          omega
theorem runes_bytes : ∀ (n : Nat) (l : List UInt8) (cs : List Int), l.length ≤ n → runesL l = some cs → (l.all plainB = true ↔ ∀ c ∈ cs, 32 ≤ c)
  | _, [], cs, _, h => by rw [runesL_nil] at h; injection h with h; subst h; simp
  | 0, b :: t, cs, hl, h => by simp at hl
  | n + 1, b :: t, cs, hl, h => by
    cases hr : runeF (b :: t) with
    | none => rw [runesL_bad hr] at h; cases h
    | some ck =>
      obtain ⟨c, k⟩ := ck
      rw [runesL_cons hr] at h
      cases hs : runesL ((b :: t).drop k) with
      | none => rw [hs] at h; cases h
      | some cs' =>
        rw [hs] at h
        injection h with h
        subst h
        have hk := runeF_pos hr
        obtain ⟨h1, h2⟩ := rune_bytes hr
        have ih := runes_bytes n _ cs' (by rw [List.length_drop]; simp at hl ⊢; omega) hs
        rw [← List.take_append_drop k (b :: t), List.all_append, Bool.and_eq_true, h1, ih]
        simp
theorem quotF_runes {s : List UInt8} {cs : List Int} (h : runesL s = some cs) : quotF s = cs.all fun c => decide (32 ≤ c) := by
  unfold quotF
  rw [h, Bool.eq_iff_iff]
  simp only [Option.isSome_some, Bool.true_and]
  rw [runes_bytes s.length s cs (Nat.le_refl _) h]
  simp
theorem quotF_none {s : List UInt8} (h : runesL s = none) : quotF s = false := by unfold quotF; rw [h]; rfl

theorem numText_le {n : Int} (h : -9223372036854775808 ≤ n ∧ n ≤ 9223372036854775807) : (numText n).length ≤ 22 := by
  have := numText_length n; have := numWidth_le h.1 h.2; omega
theorem glyphT_len (f : Int) : (glyphT f).length ≤ 3 := by
  unfold glyphT
  split
  · rw [List.getD_eq_getElem?_getD]
    cases hq : glyphsB[f.toNat - 1]? with
    | none => simp
    | some l => exact (show ∀ l ∈ glyphsB, l.length ≤ 3 by decide) l (List.mem_of_getElem? hq)
  · simp
theorem signT_len (f : Int) : (signT f).length ≤ 3 := by
  unfold signT
  split
  · rw [List.getD_eq_getElem?_getD]
    cases hq : signsB[f.toNat - 5]? with
    | none => simp
    | some l => exact (show ∀ l ∈ signsB, l.length ≤ 3 by decide) l (List.mem_of_getElem? hq)
  · simp
theorem spelt_len {t : Tok} {B : Nat} (hn : -9223372036854775808 ≤ t.num ∧ t.num ≤ 9223372036854775807) (ht : t.text.length ≤ B) : (speltF t).1.length ≤ 2 * B + 22 := by
  have h1 := numText_le hn
  have h2 := dblQ_len t.text
  have h3 := glyphT_len t.fn
  have h4 := signT_len t.kind
  unfold speltF
  repeat' split
  all_goals simp
  all_goals omega
end Go.Proofs.YtgjmgmejojbdeaaGreatDoor
