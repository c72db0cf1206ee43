/-
  Plain: UTF-8 as the references read it, byte by byte; no program.
-/
import Derived.WalkKit
namespace Go.Proofs.YtgjmgmejojbdeaaGreatDoor

/-- the rest of a rune: n more bytes -/
def contF : Nat → Int → List UInt8 → Option Int
  | 0, c, _ => some c
  | _ + 1, _, [] => none
  | n + 1, c, x :: t => if x.toNat < 128 then none else if 192 ≤ x.toNat then none else contF n (c * 64 + x.toNat - 128) t

/-- more bytes, the least number, the number so far; none: no rune begins so -/
def headF (b : Int) : Option (Nat × Int × Int) :=
  if 240 ≤ b ∧ b < 248 then some (3, 65536, b - 240)
  else if 224 ≤ b ∧ b < 240 then some (2, 2048, b - 224)
  else if 192 ≤ b ∧ b < 224 then some (1, 128, b - 192)
  else if 128 ≤ b then none else some (0, 0, b)

def badRune (least c : Int) : Bool := decide (c < least) || decide (1114111 < c) || (decide (55295 < c) && decide (c < 57344))

/-- the rune that a text begins with, and how many bytes it has -/
def runeF : List UInt8 → Option (Int × Nat)
  | [] => none
  | b :: t => match headF b.toNat with
    | none => none
    | some (more, least, c) => match contF more c t with
      | none => none
      | some c => if badRune least c then none else some (c, more + 1)

def runesF : Nat → List UInt8 → Option (List Int)
  | _, [] => some []
  | 0, _ :: _ => none
  | f + 1, l@(_ :: _) => match runeF l with
    | none => none
    | some (c, n) => (runesF f (l.drop n)).map (c :: ·)
/-- the runes of a text; none: it is not UTF-8 -/
def runesL (l : List UInt8) : Option (List Int) := runesF l.length l

theorem runeF_pos {l : List UInt8} {c : Int} {n : Nat} (h : runeF l = some (c, n)) : 1 ≤ n := by
  cases l with
  | nil => cases h
  | cons b t =>
    simp only [runeF] at h
    split at h
    · cases h
    · split at h
      · cases h
      · split at h
        · cases h
        · simp only [Option.some.injEq, Prod.mk.injEq] at h
          omega
theorem runesF_more : ∀ (f g : Nat) (l : List UInt8), l.length ≤ f → l.length ≤ g → runesF f l = runesF g l := by
  intro f
  induction f with
  | zero =>
    intro g l hf _
    have : l = [] := List.length_eq_zero_iff.1 (by omega)
    subst this
    cases g <;> rfl
  | succ f ih =>
    intro g l hf hg
    cases l with
    | nil => cases g <;> rfl
    | cons b t =>
      cases g with
      | zero => simp at hg
      | succ g =>
        simp only [runesF]
        split
        · rfl
        · rename_i c n h
          have hn : 1 ≤ n := runeF_pos h
          rw [ih g]
          · simp at hf ⊢; omega
          · simp at hg ⊢; omega
theorem runesL_cons {b : UInt8} {t : List UInt8} {c : Int} {n : Nat} (h : runeF (b :: t) = some (c, n)) : runesL (b :: t) = (runesL ((b :: t).drop n)).map (c :: ·) := by
  unfold runesL
  simp only [List.length_cons, runesF, h]
  have hn := runeF_pos h
  rw [runesF_more _ ((b :: t).drop n).length]
  · simp; omega
  · exact Nat.le_refl _
theorem runesL_bad {b : UInt8} {t : List UInt8} (h : runeF (b :: t) = none) : runesL (b :: t) = none := by
  unfold runesL
  simp only [List.length_cons, runesF, h]
theorem runesL_nil : runesL [] = some [] := rfl

def bnd : Nat → Int
  | 0 => 127 | 1 => 127 | 2 => 8191 | 3 => 524287 | _ => 33554431
theorem bnd_step {j : Nat} {c x : Int} (h1 : 1 ≤ j) (h3 : j ≤ 3) (h0 : 0 ≤ c) (hc : c ≤ bnd j) (hx0 : 128 ≤ x) (hx : x < 192) : c ≤ 524287 ∧ 0 ≤ c * 64 + x - 128 ∧ c * 64 + x - 128 ≤ bnd (j + 1) := by
  match j, h1, h3 with
  | 1, _, _ => simp only [bnd] at *; omega
  | 2, _, _ => simp only [bnd] at *; omega
  | 3, _, _ => simp only [bnd] at *; omega
theorem bnd_le (j : Nat) : bnd j ≤ 33554431 := by
  match j with
  | 0 => decide
  | 1 => decide
  | 2 => decide
  | 3 => decide
  | _ + 4 => exact Int.le_refl _
theorem headF_bd {b : Int} {m : Nat} {le c : Int} (h : headF b = some (m, le, c)) (hb0 : 0 ≤ b) (hb : b < 256) : m ≤ 3 ∧ 0 ≤ c ∧ c ≤ bnd 1 ∧ 0 ≤ le ∧ le ≤ 65536 := by
  unfold headF at h
  simp only [bnd]
  split at h
  · simp only [Option.some.injEq, Prod.mk.injEq] at h; omega
  · split at h
    · simp only [Option.some.injEq, Prod.mk.injEq] at h; omega
    · split at h
      · simp only [Option.some.injEq, Prod.mk.injEq] at h; omega
      · split at h
        · cases h
        · simp only [Option.some.injEq, Prod.mk.injEq] at h; omega
theorem contF_cons {n : Nat} {c : Int} {x : UInt8} {t : List UInt8} : contF (n + 1) c (x :: t) = if x.toNat < 128 then none else if 192 ≤ x.toNat then none else contF n (c * 64 + x.toNat - 128) t := rfl
theorem contF_nil {n : Nat} {c : Int} : contF (n + 1) c [] = none := rfl
theorem contF_zero {c : Int} {t : List UInt8} : contF 0 c t = some c := rfl
theorem runeF_good {b : UInt8} {t : List UInt8} {m : Nat} {le c0 c : Int} (h : headF b.toNat = some (m, le, c0)) (hc : contF m c0 t = some c) (hb : badRune le c = false) : runeF (b :: t) = some (c, m + 1) := by
  simp [runeF, h, hc, hb]
theorem runeF_bad1 {b : UInt8} {t : List UInt8} {m : Nat} {le c0 : Int} (h : headF b.toNat = some (m, le, c0)) (hc : contF m c0 t = none) : runeF (b :: t) = none := by
  simp [runeF, h, hc]
theorem runeF_bad2 {b : UInt8} {t : List UInt8} {m : Nat} {le c0 c : Int} (h : headF b.toNat = some (m, le, c0)) (hc : contF m c0 t = some c) (hb : badRune le c = true) : runeF (b :: t) = none := by
  simp [runeF, h, hc, hb]

end Go.Proofs.YtgjmgmejojbdeaaGreatDoor
