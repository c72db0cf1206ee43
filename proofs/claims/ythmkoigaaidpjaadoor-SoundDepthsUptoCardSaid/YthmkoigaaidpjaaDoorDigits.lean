/-
  ravelinref3.digits: a number's text.
-/
import Derived.Test.YthmkoigaaidpjaaDoorShowPlain
import Derived.Test.YthmkoigaaidpjaaDoorBase
import Derived.Test.YthmkoigaaidpjaaDoorProg
namespace Go.Proofs.YthmkoigaaidpjaaDoor
open Go.RowKit

def decD0 (u : Nat) : List UInt8 := if u = 0 then [] else Lib.decDigits u
theorem decD0_step {u : Nat} (h : u ≠ 0) : decD0 u = decD0 (u / 10) ++ [UInt8.ofNat (48 + u % 10)] := by
  unfold decD0
  rw [if_neg h]
  by_cases hl : u < 10
  · rw [if_pos (by omega), Lib.decDigits_one hl, Nat.mod_eq_of_lt hl]; rfl
  · rw [if_neg (by omega), Lib.decDigits, dif_neg hl]

theorem dig_piece (d : Nat) (h : d < 10) : (ByteArray.mk #[48, 49, 50, 51, 52, 53, 54, 55, 56, 57]).extract d (d + 1) = ⟨#[UInt8.ofNat (48 + d)]⟩ := by
  match d, h with
  | 0, _ => decide +kernel
  | 1, _ => decide +kernel
  | 2, _ => decide +kernel
  | 3, _ => decide +kernel
  | 4, _ => decide +kernel
  | 5, _ => decide +kernel
  | 6, _ => decide +kernel
  | 7, _ => decide +kernel
  | 8, _ => decide +kernel
  | 9, _ => decide +kernel
theorem tmod10 (x : Int) : (x.tmod 10 < 0 → x.tmod 10 = -((x.natAbs % 10 : Nat) : Int)) ∧ (¬ x.tmod 10 < 0 → x.tmod 10 = ((x.natAbs % 10 : Nat) : Int)) := by
  have h := Int.natAbs_tmod x 10
  constructor
  · intro h0; have : (x.tmod 10).natAbs = x.natAbs % 10 := h; omega
  · intro h0; have : (x.tmod 10).natAbs = x.natAbs % 10 := h; omega
theorem tdiv10 (x : Int) (hx : I64 x) : (x.tdiv 10).natAbs = x.natAbs / 10 ∧ I64 (x.tdiv 10) ∧ wrap64 (x.tdiv 10) = x.tdiv 10 := by
  have h : (x.tdiv 10).natAbs = x.natAbs / 10 := Int.natAbs_tdiv x 10
  have hi : I64 (x.tdiv 10) := by unfold I64 at *; omega
  exact ⟨h, hi, IntWalk.wrap64_in _ ⟨hi.1, hi.2⟩⟩
theorem decD0_pos {n : Int} (h : ¬ n = 0) : decD0 n.natAbs = Lib.decDigits n.natAbs := by unfold decD0; rw [if_neg (by omega)]
theorem done {n x : Int} {d : Nat} {l : List UInt8} (hx0 : ¬ x = 0) (hqi : I64 (x.tdiv 10)) (hqw : wrap64 (x.tdiv 10) = x.tdiv 10) (Hq : (x.tdiv 10).natAbs = x.natAbs / 10) (Hd : d = x.natAbs % 10) (Hj : decD0 n.natAbs = decD0 x.natAbs ++ l) :
    (∃ (x_1 : Int) (l_1 : List UInt8), I64 x_1 ∧ Value.int IntKind.i64 (wrap64 (x.tdiv 10)) = Value.int IntKind.i64 x_1 ∧
      Value.string (ByteArray.mk #[48 + UInt8.ofNat d] ++ ByteArray.mk l.toArray) = Value.string ⟨l_1.toArray⟩ ∧ True ∧ decD0 n.natAbs = decD0 x_1.natAbs ++ l_1) ∧
    (intOf (Value.int IntKind.i64 (wrap64 (x.tdiv 10)))).natAbs < (intOf (Value.int IntKind.i64 x)).natAbs := by
  refine ⟨⟨x.tdiv 10, UInt8.ofNat (48 + d) :: l, hqi, int_eq hqw, congrArg Value.string ?_, trivial, ?_⟩, ?_⟩
  · apply ByteArray.ext; simp
  · rw [Hj, Hq, decD0_step (by omega : x.natAbs ≠ 0), Hd]; simp
  · rw [hqw]; simp only [intOf]; rw [Hq]; omega
theorem decD0_len {n x : Nat} {l : List UInt8} (hn : n ≤ 9223372036854775808) (h : decD0 n = decD0 x ++ l) : l.length ≤ 20 := by
  have h1 : (decD0 n).length ≤ 20 := by
    unfold decD0; split
    · simp
    · rw [Lib.decDigits_length]; exact Lib.nDigits_le20 n (by omega)
  rw [h] at h1; simp at h1; omega

set_option maxHeartbeats 1000000 in
theorem ref_digits (n : Int) (hn : I64 n) (w : World) : Calls Tryd.prog 61 #[.int .i64 n] w fun r w' => r = .returned (.string ⟨(numText n).toArray⟩) ∧ w' = w := by
  go_enter Tryd.func61, Tryd.ntmps61
  by_cases h0 : n = 0
  · subst h0
    go_wp2
    go_ret
    refine ⟨ret_val (a := .string ⟨#[48]⟩) ?_, rfl⟩
    have : numText 0 = [48] := by decide +kernel
    rw [this]
  · go_wp2
    go_loopw [3, 4] (fun t m wr => ∃ (x : Int) (l : List UInt8), I64 x ∧ m = .int .i64 x ∧ t = .string ⟨l.toArray⟩ ∧ wr = w ∧ decD0 n.natAbs = decD0 x.natAbs ++ l) (fun _ i _ => (intOf i).natAbs)
    case atStart => exact ⟨n, [], hn, rfl, rfl, rfl, by simp⟩
    case round =>
      obtain ⟨x, l, hx, rfl, rfl, rfl, hj⟩ := hrel
      have hl : l.length ≤ 20 := decD0_len (by unfold I64 at hn; omega) hj
      have Hj := Lib.hid hj
      clear hj
      by_cases hx0 : x = 0
      · subst hx0
        by_cases hneg : n < 0
        · go_wp2
          go_ret
          have e : numText n = 194 :: 175 :: l := by
            unfold numText; rw [if_pos hneg, ← decD0_pos h0, Hj.out]; rfl
          exact ⟨ret_val (congrArg Value.string (by rw [e]; apply ByteArray.ext; simp)), rfl⟩
        · go_wp2
          go_ret
          have e : numText n = l := by
            unfold numText; rw [if_neg (by omega), ← decD0_pos h0, Hj.out]; rfl
          exact ⟨ret_val (congrArg Value.string (by rw [e])), rfl⟩
      · obtain ⟨hq, hqi, hqw⟩ := tdiv10 x hx
        obtain ⟨d, hd⟩ : ∃ d, d = x.natAbs % 10 := ⟨_, rfl⟩
        have hd10 : d < 10 := by omega
        have hp := dig_piece d hd10
        have hw1 : wrap64 ((d : Int) + 1) = ((d + 1 : Nat) : Int) := by rw [IntWalk.wrap64_in _ ⟨by omega, by omega⟩]; rfl
        have hw0 : wrap64 (d : Int) = (d : Int) := IntWalk.wrap64_in _ ⟨by omega, by omega⟩
        have Hq := Lib.hid hq
        have Hd := Lib.hid hd
        by_cases hs : x.tmod 10 < 0
        · have hm := (tmod10 x).1 hs
          rw [← hd] at hm
          have hw2 : wrap64 (-x.tmod 10) = (d : Int) := by rw [hm, Int.neg_neg]; exact hw0
          clear hm hw0 hq hd
          go_wp2
          exact done hx0 hqi hqw Hq.out Hd.out Hj.out
        · have hm := (tmod10 x).2 hs
          rw [← hd] at hm
          clear hw0 hq hd
          go_wp2
          exact done hx0 hqi hqw Hq.out Hd.out Hj.out
end Go.Proofs.YthmkoigaaidpjaaDoor
