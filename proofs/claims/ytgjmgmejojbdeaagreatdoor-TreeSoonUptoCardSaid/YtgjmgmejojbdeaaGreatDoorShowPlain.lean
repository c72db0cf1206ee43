/-
  Plain: numbers and rows as texts.
-/
import Derived.Test.YtgjmgmejojbdeaaGreatDoorUtfPlain
import Derived.Lib.ItoaNum
import Derived.Lib.ItoaLen
import Derived.Lib.RuneCount
import Derived.Lib.Repeat
namespace Go.Proofs.YtgjmgmejojbdeaaGreatDoor

/-- a number's text: its sign has two bytes -/
def numText (n : Int) : List UInt8 := if n < 0 then 194 :: 175 :: Lib.decDigits n.natAbs else Lib.decDigits n.natAbs
/-- how many characters it has -/
def numWidth (n : Int) : Nat := (if n < 0 then 1 else 0) + (Lib.decDigits n.natAbs).length

theorem itoa_nonneg {n : Int} (h : ¬ n < 0) : Lib.itoa n = numText n := by
  unfold Lib.itoa numText
  rw [if_neg h, if_neg h]
  congr 1
  omega
theorem itoa_neg {n : Int} (h : n < 0) : Lib.itoa n = 45 :: Lib.decDigits n.natAbs := by
  unfold Lib.itoa; rw [if_pos h]

theorem digit_lt (u : Nat) : ∀ x ∈ Lib.decDigits u, 48 ≤ x.toNat ∧ x.toNat ≤ 57 := by
  intro x hx
  rw [Lib.decDigits_eq] at hx
  obtain ⟨t, _, rfl⟩ := List.mem_map.1 hx
  unfold Lib.dg
  simp
  omega

theorem numWidth_le {n : Int} (h : -9223372036854775808 ≤ n) (h' : n ≤ 9223372036854775807) : numWidth n ≤ 21 := by
  unfold numWidth
  rw [Lib.decDigits_length]
  have := Lib.nDigits_le20 n.natAbs (by omega)
  split <;> omega
theorem numWidth_pos (n : Int) : 1 ≤ numWidth n := by
  unfold numWidth
  rw [Lib.decDigits_length]
  have := Lib.nDigits_pos n.natAbs
  omega
theorem numText_length (n : Int) : (numText n).length ≤ numWidth n + 1 := by
  unfold numText numWidth; split <;> simp <;> omega

theorem runeCount_digits (u : Nat) : Lib.runeCount ⟨(Lib.decDigits u).toArray⟩ = (Lib.decDigits u).length := by
  rw [Lib.runeCount_ascii]
  · simp [ByteArray.size]
  · intro j h
    have : (Lib.decDigits u)[j]'(by simpa [ByteArray.size] using h) ∈ Lib.decDigits u := List.getElem_mem _
    have := (digit_lt u _ this).2
    show ((⟨(Lib.decDigits u).toArray⟩ : ByteArray).data[j]).toNat < 128
    simp
    omega

theorem numText_count (n : Int) : Lib.runeCount ⟨(numText n).toArray⟩ = numWidth n := by
  by_cases h : n < 0
  · have e : numText n = 194 :: 175 :: Lib.decDigits n.natAbs := by unfold numText; rw [if_pos h]
    have hw : numWidth n = 1 + (Lib.decDigits n.natAbs).length := by unfold numWidth; rw [if_pos h]
    rw [e, hw]
    have hd := digit_lt n.natAbs
    generalize Lib.decDigits n.natAbs = l at hd ⊢
    have hs : (⟨(194 :: 175 :: l).toArray⟩ : ByteArray).size = l.length + 2 := by simp [ByteArray.size]
    unfold Lib.runeCount
    rw [hs, Lib.runeCountFrom, if_pos (by omega)]
    have h0 : Utf8.decode ⟨(194 :: 175 :: l).toArray⟩ 0 = (175, 2) := by
      simp [Utf8.decode, ByteArray.get!, hs]
    rw [h0]
    have key : ∀ f pos, 2 ≤ pos → pos + f = l.length + 2 → Lib.runeCountFrom ⟨(194 :: 175 :: l).toArray⟩ (f + 1) pos = f := by
      intro f
      induction f with
      | zero =>
        intro pos _ hp
        rw [Lib.runeCountFrom, if_neg (by omega)]
      | succ f ih =>
        intro pos h2 hp
        rw [Lib.runeCountFrom, if_pos (by omega), decode_ascii _ pos (by omega) ?_, ih (pos + 1) (by omega) (by omega)]
        · omega
        · obtain ⟨q, rfl⟩ : ∃ q, pos = q + 2 := ⟨pos - 2, by omega⟩
          have hq : q < l.length := by omega
          have := (hd _ (List.getElem_mem hq)).2
          show ((⟨(194 :: 175 :: l).toArray⟩ : ByteArray).data[q + 2]'(by simp; omega)).toNat < 128
          simp
          omega
    show 1 + Lib.runeCountFrom _ (l.length + 1) 2 = _
    rw [key l.length 2 (by omega) (by omega)]
  · have e : numText n = Lib.decDigits n.natAbs := by unfold numText; rw [if_neg h]
    have hw : numWidth n = (Lib.decDigits n.natAbs).length := by unfold numWidth; rw [if_neg h]; omega
    rw [e, hw, runeCount_digits]

/-- a cell of a row of numbers: with blanks ahead, as its column asks -/
def cellText (wide : List Int) (i : Nat) (n : Int) : List UInt8 :=
  (if i < wide.length then Lib.repeatL [32] (wide.getD i 0 - numWidth n).toNat else []) ++ numText n
/-- the cells of a row from place i on -/
def numsFrom (wide : List Int) : Nat → List Int → List UInt8
  | _, [] => []
  | i, n :: r => (if 0 < i then [32] else []) ++ (cellText wide i n ++ numsFrom wide (i + 1) r)

/-- the widths of a table's columns, behind the cells from place i on -/
def widthsFrom (cols : Nat) : Nat → List Int → List Int → List Int
  | _, [], wide => wide
  | i, n :: r, wide => widthsFrom cols (i + 1) r (wide.set (i % cols) (max (wide.getD (i % cols) 0) (numWidth n : Int)))

end Go.Proofs.YtgjmgmejojbdeaaGreatDoor
