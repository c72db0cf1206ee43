/-
  Plain: an array of characters as a text.
-/
import Derived.Test.YtbgjcadjkkddhaaDoorEnc
import Derived.Test.YtbgjcadjkkddhaaDoorTextPlain
namespace Go.Proofs.YtbgjcadjkkddhaaDoor

/-- the bytes of some runes -/
def charsL : List Int → List UInt8
  | [] => []
  | c :: r => Lib.encodeRune c ++ charsL r
theorem charsL_append (a b : List Int) : charsL (a ++ b) = charsL a ++ charsL b := by
  induction a with
  | nil => rfl
  | cons x r ih => simp [charsL, ih]
theorem enc_le (c : Int) : (Lib.encodeRune c).length ≤ 4 := by
  have := Lib.encodeRuneZ_length c
  simp [Lib.encodeRune]; omega
theorem charsL_len (a : List Int) : (charsL a).length ≤ 4 * a.length := by
  induction a with
  | nil => simp [charsL]
  | cons x r ih => have := enc_le x; simp [charsL]; omega
theorem charsL_take {a : List Int} {k : Nat} (h : k < a.length) : charsL (a.take (k + 1)) = charsL (a.take k) ++ Lib.encodeRune (a.getD k 0) := by
  rw [List.take_add_one, charsL_append, getD_some h]
  simp [charsL]

/-! ## the text -/
def rsep (R r : Nat) : List UInt8 := if 0 < r then 10 :: (if r % R = 0 then [10] else []) else []
def gText (rt : Nat → List UInt8) (R : Nat) : Nat → List UInt8
  | 0 => []
  | r + 1 => gText rt R r ++ (rsep R r ++ rt r)
def rowC (d : List Int) (C r : Nat) : List UInt8 := charsL ((d.drop (r * C)).take C)
/-- the text of an array of characters -/
def charsText (s d : List Int) : List UInt8 := if checkF true s d ≠ 0 then [] else if d = [] then [] else gText (rowC d (dimC s d)) (dimR s) (d.length / dimC s d)
theorem check_true {s d : List Int} (h : checkF true s d = 0) : checkF false s d = 0 ∧ charsOk d = true := by
  unfold checkF at h ⊢
  split at h
  · exact absurd h (by assumption)
  · split at h
    · cases h
    · split at h
      · cases h
      · rename_i h1 h2 h3
        refine ⟨?_, by simpa using h3⟩
        rw [if_neg h1, if_neg h2]
        simp
theorem charsOk_rune : ∀ (d : List Int), charsOk d = true → ∀ i, i < d.length → RuneOk (d.getD i 0)
  | [], _, i, hi => by simp at hi
  | c :: r, h, i, hi => by
    rw [charsOk] at h
    repeat (first | (split at h; cases h))
    rename_i h1 h2 h3
    cases i with
    | zero => exact ⟨by simp; omega, by simp; omega, by simpa using h3⟩
    | succ i => simpa using charsOk_rune r h i (by simpa using hi)
theorem gText_len {rt : Nat → List UInt8} {R k : Nat} (h : ∀ r, (rt r).length ≤ k) : ∀ n, (gText rt R n).length ≤ (k + 2) * n
  | 0 => by simp [gText]
  | r + 1 => by
    have h1 := gText_len h r (R := R)
    have h2 : (rsep R r).length ≤ 2 := by unfold rsep; repeat (first | split | simp)
    have h3 := h r
    rw [gText, Nat.mul_add]
    simp only [List.length_append]
    omega
theorem rowC_len (d : List Int) (C r : Nat) : (rowC d C r).length ≤ 4 * C := by
  unfold rowC
  have := charsL_len ((d.drop (r * C)).take C)
  have h : ((d.drop (r * C)).take C).length ≤ C := List.length_take_le _ _
  omega
def outPre (rt : Nat → List UInt8) (R q t : Nat) : List UInt8 := gText rt R (t * R) ++ if 0 < t ∧ t < q then [10, 10] else []
def inPre (rt : Nat → List UInt8) (R q t i : Nat) : List UInt8 := if i = 0 then outPre rt R q t else gText rt R (t * R + i)

end Go.Proofs.YtbgjcadjkkddhaaDoor
