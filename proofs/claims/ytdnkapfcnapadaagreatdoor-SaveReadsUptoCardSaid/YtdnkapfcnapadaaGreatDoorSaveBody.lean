/-
  What package save's bytes are, told plainly: counts, numbers, values, workspaces; what is written is read, and only that. Of no program.
  The sum of bytes: what it is, and that one byte turned, or two that follow one another, turn it. Of no program.
  What package save's bytes are: values, workspaces; what is written is read, and only that; a beginning is not, nor is it with more behind it.
-/
import Derived.WalkKit
import Derived.Test.YtdnkapfcnapadaaGreatDoorShape
import Derived.Test.YtdnkapfcnapadaaGreatDoorLexPlain
namespace Go.Proofs.YtdnkapfcnapadaaGreatDoor

/-- a workspace's name and value -/
structure Bnd where
  name : List UInt8
  char : Bool
  shape : List Int
  data : List Int
/-- a count in bytes -/
def cntB (n : Nat) : List UInt8 := if n < 128 then [UInt8.ofNat n] else UInt8.ofNat (n % 128 + 128) :: cntB (n / 128)
termination_by n
/-- a count that begins here; sh: bits read, acc: what they are -/
def cntG (sh acc : Nat) : List UInt8 → Option (Nat × List UInt8)
  | [] => none
  | b :: r =>
    if 63 < sh ∨ (b.toNat = 0 ∧ 0 < sh) ∨ 2 ^ 64 ≤ b.toNat % 128 * 2 ^ sh then none
    else if b.toNat < 128 then some (acc + b.toNat % 128 * 2 ^ sh, r)
    else cntG (sh + 7) (acc + b.toNat % 128 * 2 ^ sh) r
theorem cntB_small {n : Nat} (h : n < 128) : cntB n = [UInt8.ofNat n] := by rw [cntB, if_pos h]
theorem cntB_big {n : Nat} (h : ¬ n < 128) : cntB n = UInt8.ofNat (n % 128 + 128) :: cntB (n / 128) := by rw [cntB, if_neg h]
theorem toNat_ofNat8 {n : Nat} (h : n < 256) : (UInt8.ofNat n).toNat = n := by simp [Nat.mod_eq_of_lt h]
theorem ofNat_toNat8 (b : UInt8) : UInt8.ofNat b.toNat = b := by simp
theorem pow_split {sh : Nat} (h : sh ≤ 64) : 2 ^ 64 = 2 ^ (64 - sh) * 2 ^ sh := by rw [← Nat.pow_add]; congr 1; omega
theorem cntG_enc : ∀ (q : Nat) (sh acc : Nat) (r : List UInt8), acc < 2 ^ sh → acc + q * 2 ^ sh < 2 ^ 64 → (0 < sh → 0 < q) → sh ≤ 63 → cntG sh acc (cntB q ++ r) = some (acc + q * 2 ^ sh, r) := by
  intro q
  induction q using Nat.strongRecOn with
  | _ q ih =>
    intro sh acc r ha hn hq hs
    by_cases hb : q < 128
    · rw [cntB_small hb, List.singleton_append, cntG, toNat_ofNat8 (by omega), Nat.mod_eq_of_lt hb, if_neg, if_pos hb]
      rintro (h | ⟨h, h'⟩ | h)
      · omega
      · have := hq h'; omega
      · omega
    · have e : q = q % 128 + 128 * (q / 128) := by omega
      have e2 : q * 2 ^ sh = q % 128 * 2 ^ sh + q / 128 * 2 ^ (sh + 7) := by
        conv => lhs; rw [e]
        rw [Nat.add_mul, Nat.pow_add, show (2 : Nat) ^ 7 = 128 by rfl, Nat.mul_comm 128 (q / 128), Nat.mul_assoc, Nat.mul_comm 128 (2 ^ sh)]
      have hp : 0 < 2 ^ sh := Nat.two_pow_pos sh
      have hl : q % 128 * 2 ^ sh ≤ 127 * 2 ^ sh := Nat.mul_le_mul_right _ (by omega)
      have h7 : 2 ^ (sh + 7) = 128 * 2 ^ sh := by rw [Nat.pow_add, Nat.mul_comm]
      have h1 : 1 * 2 ^ (sh + 7) ≤ q / 128 * 2 ^ (sh + 7) := Nat.mul_le_mul_right _ (by omega)
      rw [cntB_big hb, List.cons_append, cntG, toNat_ofNat8 (by omega), show (q % 128 + 128) % 128 = q % 128 by omega, if_neg, if_neg (by omega), ih (q / 128) (by omega) (sh + 7) _ r (by omega) (by omega) (by omega) ?_]
      · rw [e2]; congr 2; omega
      · by_cases h : sh + 7 ≤ 63
        · exact h
        · exfalso
          have : 2 ^ 64 ≤ 2 ^ (sh + 7) := Nat.pow_le_pow_right (by omega) (by omega)
          omega
      · rintro (h | ⟨h, _⟩ | h)
        · omega
        · omega
        · omega
theorem cntG_dec : ∀ (l : List UInt8) (sh acc n : Nat) (r : List UInt8), acc < 2 ^ sh → cntG sh acc l = some (n, r) → ∃ q, l = cntB q ++ r ∧ n = acc + q * 2 ^ sh ∧ n < 2 ^ 64 ∧ (0 < sh → 0 < q)
  | [], sh, acc, n, r, ha, h => by cases h
  | b :: l, sh, acc, n, r, ha, h => by
    have hb := b.toNat_lt
    rw [cntG] at h
    by_cases hc : 63 < sh ∨ (b.toNat = 0 ∧ 0 < sh) ∨ 2 ^ 64 ≤ b.toNat % 128 * 2 ^ sh
    · rw [if_pos hc] at h; cases h
    · rw [if_neg hc] at h
      have hp : 0 < 2 ^ sh := Nat.two_pow_pos sh
      have hs : sh ≤ 63 := Nat.le_of_not_lt fun h => hc (.inl h)
      have hz : ¬ (b.toNat = 0 ∧ 0 < sh) := fun h => hc (.inr (.inl h))
      have ho : b.toNat % 128 * 2 ^ sh < 2 ^ 64 := Nat.lt_of_not_le fun h => hc (.inr (.inr h))
      clear hc
      by_cases h1 : b.toNat < 128
      · rw [if_pos h1] at h
        injection h with h
        injection h with h2 h3
        rw [Nat.mod_eq_of_lt h1] at h2 ho
        refine ⟨b.toNat, ?_, h2.symm, ?_, fun h => ?_⟩
        · rw [cntB_small h1, ofNat_toNat8, ← h3]; rfl
        · rw [← h2]
          have e := pow_split (sh := sh) (by omega)
          rw [e] at ho
          have h4 : b.toNat < 2 ^ (64 - sh) := Nat.lt_of_mul_lt_mul_right ho
          have h5 : (b.toNat + 1) * 2 ^ sh ≤ 2 ^ (64 - sh) * 2 ^ sh := Nat.mul_le_mul_right _ h4
          rw [← e, Nat.add_mul] at h5
          omega
        · omega
      · rw [if_neg h1] at h
        have hl : b.toNat % 128 * 2 ^ sh ≤ 127 * 2 ^ sh := Nat.mul_le_mul_right _ (by omega)
        have h7 : 2 ^ (sh + 7) = 128 * 2 ^ sh := by rw [Nat.pow_add, Nat.mul_comm]
        obtain ⟨q, e1, e2, e3, e4⟩ := cntG_dec l (sh + 7) _ n r (by omega) h
        have hq := e4 (by omega)
        refine ⟨b.toNat % 128 + 128 * q, ?_, ?_, e3, fun _ => by omega⟩
        · rw [cntB_big (by omega), e1, show (b.toNat % 128 + 128 * q) % 128 + 128 = b.toNat by omega, show (b.toNat % 128 + 128 * q) / 128 = q by omega, ofNat_toNat8]; rfl
        · rw [e2, h7, Nat.add_mul, Nat.mul_comm 128 q, Nat.mul_assoc]; omega
/-- a count -/
theorem cnt_enc {n : Nat} (h : n < 2 ^ 64) (r : List UInt8) : cntG 0 0 (cntB n ++ r) = some (n, r) := by
  have := cntG_enc n 0 0 r (by omega) (by omega) (by omega) (by omega)
  simpa using this
theorem cnt_dec {l r : List UInt8} {n : Nat} (h : cntG 0 0 l = some (n, r)) : l = cntB n ++ r ∧ n < 2 ^ 64 := by
  obtain ⟨q, e1, e2, e3, _⟩ := cntG_dec l 0 0 n r (by omega) h
  have : n = q := by rw [e2]; simp
  subst this
  exact ⟨e1, e3⟩

/-- a number as a count -/
def zig (n : Int) : Nat := if 0 ≤ n then (2 * n).toNat else (-2 * n - 1).toNat
def zag (n : Nat) : Int := if n % 2 = 0 then (n / 2 : Nat) else -((n / 2 : Nat) : Int) - 1
theorem zag_zig (n : Int) : zag (zig n) = n := by
  unfold zig zag
  by_cases h : 0 ≤ n
  · rw [if_pos h, if_pos (by omega)]; omega
  · rw [if_neg h, if_neg (by omega)]; omega
theorem zig_zag (n : Nat) : zig (zag n) = n := by
  unfold zig zag
  by_cases h : n % 2 = 0
  · rw [if_pos h, if_pos (by omega)]; omega
  · rw [if_neg h, if_neg (by omega)]; omega
theorem zig_lt {n : Int} (h : -9223372036854775808 ≤ n ∧ n ≤ 9223372036854775807) : zig n < 2 ^ 64 := by
  unfold zig; split <;> omega
theorem zag_rng {n : Nat} (h : n < 2 ^ 64) : -9223372036854775808 ≤ zag n ∧ zag n ≤ 9223372036854775807 := by
  unfold zag; split <;> omega

/-- so many things, one behind the other -/
def manyP {α : Type} (p : List UInt8 → Option (α × List UInt8)) : Nat → List UInt8 → Option (List α × List UInt8)
  | 0, l => some ([], l)
  | n + 1, l => match p l with
    | none => none
    | some (x, r) => match manyP p n r with
      | none => none
      | some (xs, r') => some (x :: xs, r')
theorem many_enc {α : Type} {p : List UInt8 → Option (α × List UInt8)} {enc : α → List UInt8} : ∀ (xs : List α) (r : List UInt8), (∀ x ∈ xs, ∀ r, p (enc x ++ r) = some (x, r)) → manyP p xs.length (xs.flatMap enc ++ r) = some (xs, r)
  | [], r, _ => rfl
  | x :: xs, r, h => by
    have h1 := h x (by simp)
    rw [List.length_cons, manyP, List.flatMap_cons, List.append_assoc, h1]
    simp only
    rw [many_enc xs r (fun y hy => h y (by simp [hy]))]
theorem many_dec {α : Type} {p : List UInt8 → Option (α × List UInt8)} {enc : α → List UInt8} {ok : α → Prop} (hp : ∀ l x r, p l = some (x, r) → l = enc x ++ r ∧ ok x) : ∀ (n : Nat) (l : List UInt8) (xs : List α) (r : List UInt8), manyP p n l = some (xs, r) → l = xs.flatMap enc ++ r ∧ xs.length = n ∧ ∀ x ∈ xs, ok x
  | 0, l, xs, r, h => by
    rw [manyP] at h; injection h with h; injection h with h1 h2
    subst h1 h2
    exact ⟨rfl, rfl, by simp⟩
  | n + 1, l, xs, r, h => by
    rw [manyP] at h
    cases h1 : p l with
    | none => rw [h1] at h; cases h
    | some q =>
      obtain ⟨x, r1⟩ := q
      rw [h1] at h
      simp only at h
      cases h2 : manyP p n r1 with
      | none => rw [h2] at h; cases h
      | some q2 =>
        obtain ⟨ys, r2⟩ := q2
        rw [h2] at h
        simp only at h
        injection h with h; injection h with h3 h4
        subst h3 h4
        obtain ⟨e1, e2⟩ := hp _ _ _ h1
        obtain ⟨f1, f2, f3⟩ := many_dec hp n r1 ys r2 h2
        refine ⟨by rw [e1, f1, List.flatMap_cons, List.append_assoc], by simp [f2], fun y hy => ?_⟩
        rcases List.mem_cons.1 hy with rfl | hy
        · exact e2
        · exact f3 y hy
/-- the first n things, and what is behind them, told the other way round: so far, then one more -/
theorem many_snoc {α : Type} {p : List UInt8 → Option (α × List UInt8)} : ∀ (n : Nat) (l : List UInt8), manyP p (n + 1) l = match manyP p n l with
    | none => none
    | some (xs, r) => match p r with
      | none => none
      | some (x, r') => some (xs ++ [x], r')
  | 0, l => by
    rw [manyP, manyP]
    simp only
    cases p l with
    | none => rfl
    | some q => rfl
  | n + 1, l => by
    rw [manyP]
    conv => rhs; rw [manyP]
    cases h1 : p l with
    | none => rfl
    | some q =>
      obtain ⟨x, r⟩ := q
      simp only
      rw [many_snoc n r]
      cases manyP p n r with
      | none => rfl
      | some q2 =>
        obtain ⟨ys, r2⟩ := q2
        simp only
        cases p r2 with
        | none => rfl
        | some q3 => rfl
theorem many_none {α : Type} {p : List UInt8 → Option (α × List UInt8)} {l : List UInt8} {k : Nat} (h : manyP p k l = none) : ∀ (n : Nat), k ≤ n → manyP p n l = none := by
  intro n hn
  induction n with
  | zero => have : k = 0 := by omega
            subst this; exact h
  | succ n ih =>
    by_cases hk : k = n + 1
    · subst hk; exact h
    · rw [many_snoc, ih (by omega)]

/-- a count that is not above some number -/
def belowP (most : Nat) (l : List UInt8) : Option (Int × List UInt8) := match cntG 0 0 l with
  | none => none
  | some (n, r) => if most < n then none else some ((n : Int), r)
def numP (l : List UInt8) : Option (Int × List UInt8) := match cntG 0 0 l with
  | none => none
  | some (n, r) => some (zag n, r)
theorem below_enc {most : Nat} {n : Int} (h0 : 0 ≤ n) (h : n ≤ most) (hm : most < 2 ^ 64) (r : List UInt8) : belowP most (cntB n.toNat ++ r) = some (n, r) := by
  unfold belowP
  rw [cnt_enc (by omega)]
  simp only
  rw [if_neg (by omega), Int.toNat_of_nonneg h0]
theorem below_dec {most : Nat} {l r : List UInt8} {n : Int} (h : belowP most l = some (n, r)) : l = cntB n.toNat ++ r ∧ 0 ≤ n ∧ n ≤ most := by
  unfold belowP at h
  cases h1 : cntG 0 0 l with
  | none => rw [h1] at h; cases h
  | some q =>
    obtain ⟨k, r'⟩ := q
    rw [h1] at h
    simp only at h
    by_cases hk : most < k
    · rw [if_pos hk] at h; cases h
    · rw [if_neg hk] at h
      injection h with h; injection h with h2 h3
      subst h2 h3
      exact ⟨by rw [Int.toNat_natCast]; exact (cnt_dec h1).1, by omega, by omega⟩
theorem num_enc {n : Int} (h : -9223372036854775808 ≤ n ∧ n ≤ 9223372036854775807) (r : List UInt8) : numP (cntB (zig n) ++ r) = some (n, r) := by
  unfold numP
  rw [cnt_enc (zig_lt h)]
  simp only
  rw [zag_zig]
theorem num_dec {l r : List UInt8} {n : Int} (h : numP l = some (n, r)) : l = cntB (zig n) ++ r ∧ (-9223372036854775808 ≤ n ∧ n ≤ 9223372036854775807) := by
  unfold numP at h
  cases h1 : cntG 0 0 l with
  | none => rw [h1] at h; cases h
  | some q =>
    obtain ⟨k, r'⟩ := q
    rw [h1] at h
    simp only at h
    injection h with h; injection h with h2 h3
    subst h2 h3
    exact ⟨by rw [zig_zag]; exact (cnt_dec h1).1, zag_rng (cnt_dec h1).2⟩
end Go.Proofs.YtdnkapfcnapadaaGreatDoor

namespace Go.Proofs.YtdnkapfcnapadaaGreatDoor

def crcBit (c : BitVec 32) : BitVec 32 := if c.getLsbD 0 = true then (c >>> 1) ^^^ 3988292384#32 else c >>> 1
def crcN : Nat → BitVec 32 → BitVec 32
  | 0, c => c
  | n + 1, c => crcN n (crcBit c)
def crcByte (c : BitVec 32) (b : UInt8) : BitVec 32 := crcN 8 (c ^^^ BitVec.ofNat 32 b.toNat)
def crcF (c : BitVec 32) (l : List UInt8) : BitVec 32 := l.foldl crcByte c
def sumF (l : List UInt8) : BitVec 32 := ~~~ (crcF 4294967295#32 l)
/-- a sum's four bytes -/
def le4 (s : BitVec 32) : List UInt8 := [UInt8.ofNat s.toNat, UInt8.ofNat (s.toNat / 256), UInt8.ofNat (s.toNat / 65536), UInt8.ofNat (s.toNat / 16777216)]

theorem crcBit_xor (x y : BitVec 32) : crcBit (x ^^^ y) = crcBit x ^^^ crcBit y := by
  unfold crcBit
  rw [BitVec.getLsbD_xor, BitVec.ushiftRight_xor_distrib]
  cases x.getLsbD 0 <;> cases y.getLsbD 0 <;> simp only [Bool.xor_self, Bool.false_xor, Bool.xor_false, if_true, Bool.false_eq_true, if_false]
  · rw [BitVec.xor_assoc]
  · rw [BitVec.xor_assoc, BitVec.xor_comm (y >>> 1), ← BitVec.xor_assoc]
  · rw [BitVec.xor_assoc, BitVec.xor_comm 3988292384#32, BitVec.xor_assoc (y >>> 1), BitVec.xor_self, BitVec.xor_zero]
theorem crcN_xor : ∀ (n : Nat) (x y : BitVec 32), crcN n (x ^^^ y) = crcN n x ^^^ crcN n y
  | 0, _, _ => rfl
  | n + 1, x, y => by rw [crcN, crcBit_xor, crcN_xor n, crcN, crcN]
theorem crcBit_zero {x : BitVec 32} (h : crcBit x = 0#32) : x = 0#32 := by
  unfold crcBit at h
  by_cases h0 : x.getLsbD 0 = true
  · rw [if_pos h0] at h
    have h1 : x >>> 1 = 3988292384#32 := by
      have : (x >>> 1 ^^^ 3988292384#32) ^^^ 3988292384#32 = 0#32 ^^^ 3988292384#32 := by rw [h]
      rwa [BitVec.xor_assoc, BitVec.xor_self, BitVec.xor_zero, BitVec.zero_xor] at this
    have h2 := congrArg BitVec.toNat h1
    rw [BitVec.toNat_ushiftRight, Nat.shiftRight_eq_div_pow] at h2
    have := x.isLt
    have h3 : (3988292384#32).toNat = 3988292384 := rfl
    rw [h3] at h2
    omega
  · rw [if_neg h0] at h
    have h2 := congrArg BitVec.toNat h
    rw [BitVec.toNat_ushiftRight, Nat.shiftRight_eq_div_pow] at h2
    have h3 : x.getLsbD 0 = false := by simpa using h0
    rw [BitVec.getLsbD, Nat.testBit_zero] at h3
    have h4 : (0#32).toNat = 0 := rfl
    rw [h4] at h2
    have h5 : x.toNat % 2 ≠ 1 := by simpa using h3
    apply BitVec.eq_of_toNat_eq
    rw [h4]
    omega
theorem crcN_zero : ∀ (n : Nat) {x : BitVec 32}, crcN n x = 0#32 → x = 0#32
  | 0, _, h => h
  | n + 1, _, h => crcBit_zero (crcN_zero n h)
theorem crcN_of_zero : ∀ (n : Nat), crcN n 0#32 = 0#32
  | 0 => rfl
  | n + 1 => by rw [crcN, show crcBit 0#32 = 0#32 by decide, crcN_of_zero n]
/-- a difference goes on -/
theorem crcF_xor : ∀ (l : List UInt8) (c d : BitVec 32), crcF (c ^^^ d) l = crcF c l ^^^ crcN (8 * l.length) d
  | [], c, d => by simp [crcF, crcN]
  | b :: l, c, d => by
    have h : crcByte (c ^^^ d) b = crcByte c b ^^^ crcN 8 d := by
      unfold crcByte
      rw [← crcN_xor]
      congr 1
      rw [BitVec.xor_assoc, BitVec.xor_comm d, ← BitVec.xor_assoc]
    have e : crcN (8 * (b :: l).length) d = crcN (8 * l.length) (crcN 8 d) := by
      have key : ∀ (n m : Nat) (x : BitVec 32), crcN (n + m) x = crcN m (crcN n x) := by
        intro n
        induction n with
        | zero => intro m x; rw [Nat.zero_add]; rfl
        | succ n ih => intro m x; rw [show n + 1 + m = (n + m) + 1 by omega, crcN, ih, crcN]
      rw [← key, List.length_cons]
      congr 1
      omega
    show crcF (crcByte (c ^^^ d) b) l = crcF (crcByte c b) l ^^^ _
    rw [h, crcF_xor l, e]
theorem crcByte_xor (c : BitVec 32) (b x : UInt8) : crcByte c (b ^^^ x) = crcByte c b ^^^ crcN 8 (BitVec.ofNat 32 x.toNat) := by
  unfold crcByte
  rw [← crcN_xor]
  congr 1
  rw [BitVec.xor_assoc]
  congr 1
  apply BitVec.eq_of_toNat_eq
  have h1 := b.toNat_lt
  have h2 := x.toNat_lt
  have h3 : b.toNat ^^^ x.toNat < 2 ^ 8 := Nat.xor_lt_two_pow h1 h2
  rw [BitVec.toNat_xor, BitVec.toNat_ofNat, BitVec.toNat_ofNat, BitVec.toNat_ofNat, UInt8.toNat_xor, Nat.mod_eq_of_lt (by omega), Nat.mod_eq_of_lt (by omega), Nat.mod_eq_of_lt (by omega)]
/-- one byte's mark is wider than a byte -/
theorem crc8_wide : ∀ x : Fin 256, x ≠ 0 → 256 ≤ (crcN 8 (BitVec.ofNat 32 x.val)).toNat := by decide +kernel
theorem crc8_wide' {x : UInt8} (h : x ≠ 0) : 256 ≤ (crcN 8 (BitVec.ofNat 32 x.toNat)).toNat := by
  have := crc8_wide ⟨x.toNat, x.toNat_lt⟩ (fun e => h (UInt8.toNat_inj.1 (by have := congrArg Fin.val e; simpa using this)))
  exact this
theorem crc8_ne {x y : UInt8} (h : ¬ (x = 0 ∧ y = 0)) : crcN 8 (BitVec.ofNat 32 x.toNat) ^^^ BitVec.ofNat 32 y.toNat ≠ 0#32 := by
  intro e
  have h1 : crcN 8 (BitVec.ofNat 32 x.toNat) = BitVec.ofNat 32 y.toNat := by
    have : (crcN 8 (BitVec.ofNat 32 x.toNat) ^^^ BitVec.ofNat 32 y.toNat) ^^^ BitVec.ofNat 32 y.toNat = 0#32 ^^^ BitVec.ofNat 32 y.toNat := by rw [e]
    rwa [BitVec.xor_assoc, BitVec.xor_self, BitVec.xor_zero, BitVec.zero_xor] at this
  have hy := y.toNat_lt
  have h2 := congrArg BitVec.toNat h1
  rw [BitVec.toNat_ofNat, Nat.mod_eq_of_lt (by omega)] at h2
  by_cases hx : x = 0
  · subst hx
    rw [show BitVec.ofNat 32 (0 : UInt8).toNat = 0#32 from rfl, crcN_of_zero] at h2
    exact h ⟨rfl, UInt8.toNat_inj.1 h2.symm⟩
  · have := crc8_wide' hx
    omega
theorem not_xor (x y : BitVec 32) : ~~~ (x ^^^ y) = ~~~ x ^^^ y := by
  apply BitVec.eq_of_getLsbD_eq
  intro i hi
  simp [hi]
/-- what two bytes turned do to the sum -/
theorem sum_two (p q : List UInt8) (a b x y : UInt8) : ∃ d, sumF (p ++ (a ^^^ x) :: (b ^^^ y) :: q) = sumF (p ++ a :: b :: q) ^^^ d ∧ (¬ (x = 0 ∧ y = 0) → d ≠ 0#32) := by
  refine ⟨crcN (8 * q.length) (crcN 8 (crcN 8 (BitVec.ofNat 32 x.toNat) ^^^ BitVec.ofNat 32 y.toNat)), ?_, fun h e => crc8_ne h (crcN_zero 8 (crcN_zero _ e))⟩
  unfold sumF
  rw [← not_xor]
  congr 1
  unfold crcF
  rw [List.foldl_append, List.foldl_append]
  generalize List.foldl crcByte 4294967295#32 p = c
  show crcF (crcByte (crcByte c (a ^^^ x)) (b ^^^ y)) q = crcF (crcByte (crcByte c a) b) q ^^^ _
  rw [← crcF_xor]
  congr 1
  rw [crcByte_xor, crcByte_xor]
  have : ∀ c d : BitVec 32, crcByte (c ^^^ d) b = crcByte c b ^^^ crcN 8 d := by
    intro c d
    have := crcF_xor [b] c d
    simpa [crcF] using this
  rw [this, BitVec.xor_assoc, ← crcN_xor]
theorem sum_one (p : List UInt8) (a x : UInt8) : sumF (p ++ [a ^^^ x]) = sumF (p ++ [a]) ^^^ crcN 8 (BitVec.ofNat 32 x.toNat) := by
  unfold sumF
  rw [← not_xor]
  congr 1
  unfold crcF
  rw [List.foldl_append, List.foldl_append]
  exact crcByte_xor _ a x
theorem le4_inj {s t : BitVec 32} (h : le4 s = le4 t) : s = t := by
  unfold le4 at h
  simp only [List.cons.injEq, and_true] at h
  obtain ⟨h1, h2, h3, h4⟩ := h
  have e := fun {n m : Nat} (h : UInt8.ofNat n = UInt8.ofNat m) => congrArg UInt8.toNat h
  have e1 := e h1; have e2 := e h2; have e3 := e h3; have e4 := e h4
  simp only [UInt8.toNat_ofNat'] at e1 e2 e3 e4
  have hs := s.isLt; have ht := t.isLt
  apply BitVec.eq_of_toNat_eq
  omega
theorem xor_self_ne {s d : BitVec 32} (h : s ^^^ d = s) : d = 0#32 := by
  have : s ^^^ (s ^^^ d) = s ^^^ s := by rw [h]
  rwa [← BitVec.xor_assoc, BitVec.xor_self, BitVec.zero_xor] at this
theorem u8_xor_ne {a x : UInt8} (h : a ^^^ x = a) : x = 0 := by
  have : a ^^^ (a ^^^ x) = a ^^^ a := by rw [h]
  rwa [← UInt8.xor_assoc, UInt8.xor_self, UInt8.zero_xor] at this
/-- two bytes of what was written turned: the sum is no more what stands behind -/
def turn2 (l : List UInt8) (i : Nat) (x y : UInt8) : List UInt8 := (l.set i (l.getD i 0 ^^^ x)).set (i + 1) (l.getD (i + 1) 0 ^^^ y)
theorem turn2_split (p q : List UInt8) (a b x y : UInt8) : turn2 (p ++ a :: b :: q) p.length x y = p ++ (a ^^^ x) :: (b ^^^ y) :: q := by
  unfold turn2
  have e1 : (p ++ a :: b :: q).getD p.length 0 = a := by simp [List.getD_eq_getElem?_getD]
  have e2 : (p ++ a :: b :: q).getD (p.length + 1) 0 = b := by simp [List.getD_eq_getElem?_getD]
  rw [e1, e2, List.set_append_right _ _ (by omega), List.set_append_right _ _ (by omega), Nat.sub_self, show p.length + 1 - p.length = 1 by omega]
  rfl
theorem split_at {l : List UInt8} {i : Nat} (h : i + 1 < l.length) : ∃ p a b q, l = p ++ a :: b :: q ∧ p.length = i := by
  refine ⟨l.take i, l[i], l[i + 1], l.drop (i + 2), ?_, by simp; omega⟩
  conv => lhs; rw [← List.take_append_drop i l]
  rw [List.drop_eq_getElem_cons (by omega), List.drop_eq_getElem_cons (i := i + 1) (by omega)]
theorem turned_ne (body : List UInt8) (i : Nat) (x y : UInt8) (hi : i + 1 < (body ++ le4 (sumF body)).length) (h : ¬ (x = 0 ∧ y = 0)) :
    let s := turn2 (body ++ le4 (sumF body)) i x y
    s.length = body.length + 4 ∧ le4 (sumF (s.take body.length)) ≠ s.drop body.length := by
  intro s
  have hl : (le4 (sumF body)).length = 4 := rfl
  have hsl : s.length = body.length + 4 := by show (turn2 _ _ _ _).length = _; unfold turn2; simp [hl]
  refine ⟨hsl, ?_⟩
  by_cases h1 : i + 1 < body.length
  · obtain ⟨p, a, b, q, e, ep⟩ := split_at h1
    have es : s = (p ++ (a ^^^ x) :: (b ^^^ y) :: q) ++ le4 (sumF body) := by
      show turn2 _ _ _ _ = _
      rw [e, ← ep]
      have : p ++ a :: b :: q ++ le4 (sumF (p ++ a :: b :: q)) = p ++ a :: b :: (q ++ le4 (sumF (p ++ a :: b :: q))) := by simp
      rw [this, turn2_split]
      simp
    have el : body.length = (p ++ (a ^^^ x) :: (b ^^^ y) :: q).length := by rw [e]; simp
    rw [es, el, List.take_left, List.drop_left]
    intro hh
    obtain ⟨d, e1, e2⟩ := sum_two p q a b x y
    have := le4_inj hh
    rw [e1, ← e] at this
    exact e2 h (xor_self_ne this)
  · by_cases h2 : i + 1 = body.length
    · obtain ⟨p, a, e⟩ : ∃ p a, body = p ++ [a] := by
        have hne : body ≠ [] := by intro e; rw [e] at h2; simp at h2
        exact ⟨body.dropLast, body.getLast hne, (List.dropLast_concat_getLast hne).symm⟩
      have ep : p.length = i := by rw [e] at h2; simp at h2; omega
      obtain ⟨t0, t1, t2, t3, et⟩ : ∃ t0 t1 t2 t3, le4 (sumF body) = [t0, t1, t2, t3] := ⟨_, _, _, _, rfl⟩
      have es : s = (p ++ [a ^^^ x]) ++ [t0 ^^^ y, t1, t2, t3] := by
        show turn2 _ _ _ _ = _
        rw [et]
        have : body ++ [t0, t1, t2, t3] = p ++ a :: t0 :: [t1, t2, t3] := by rw [e]; simp
        rw [this, ← ep, turn2_split]
        simp
      have el : body.length = (p ++ [a ^^^ x]).length := by rw [e]; simp
      rw [es, el, List.take_left, List.drop_left]
      intro hh
      rw [sum_one, ← e] at hh
      by_cases hx : x = 0
      · subst hx
        rw [show BitVec.ofNat 32 (0 : UInt8).toNat = 0#32 from rfl, crcN_of_zero, BitVec.xor_zero, et] at hh
        simp only [List.cons.injEq, and_true] at hh
        exact h ⟨rfl, u8_xor_ne hh.symm⟩
      · have hw := crc8_wide' hx
        generalize crcN 8 (BitVec.ofNat 32 x.toNat) = d at hh hw
        generalize hS : sumF body = S at hh et
        have hd : (S ^^^ d) ^^^ S = d := by rw [BitVec.xor_comm S d, BitVec.xor_assoc, BitVec.xor_self, BitVec.xor_zero]
        unfold le4 at hh et
        simp only [List.cons.injEq, and_true] at hh et
        obtain ⟨_, f2, f3, f4⟩ := hh
        obtain ⟨_, g2, g3, g4⟩ := et
        rw [← g2] at f2; rw [← g3] at f3; rw [← g4] at f4
        have e := fun {n m : Nat} (h : UInt8.ofNat n = UInt8.ofNat m) => congrArg UInt8.toNat h
        have e2 := e f2; have e3 := e f3; have e4 := e f4
        simp only [UInt8.toNat_ofNat'] at e2 e3 e4
        have hs := S.isLt
        have ht := (S ^^^ d).isLt
        have hq : (S ^^^ d).toNat / 256 = S.toNat / 256 := by omega
        have h8 := congrArg (fun v : BitVec 32 => v.toNat >>> 8) hd
        simp only [BitVec.toNat_xor (x := S ^^^ d)] at h8
        rw [Nat.shiftRight_xor_distrib, Nat.shiftRight_eq_div_pow, Nat.shiftRight_eq_div_pow, Nat.shiftRight_eq_div_pow, hq, Nat.xor_self] at h8
        omega
    · have hge : body.length ≤ i := by omega
      have hi' : i + 1 < body.length + 4 := by simpa [hl] using hi
      obtain ⟨p, a, b, q, e, ep⟩ := split_at (l := le4 (sumF body)) (i := i - body.length) (by rw [hl]; omega)
      have es : s = body ++ (p ++ (a ^^^ x) :: (b ^^^ y) :: q) := by
        show turn2 _ _ _ _ = _
        rw [e]
        have e0 : body ++ (p ++ a :: b :: q) = (body ++ p) ++ a :: b :: q := by simp
        have e1 : i = (body ++ p).length := by simp; omega
        rw [e0, e1, turn2_split]
        simp
      rw [es, List.take_left, List.drop_left, e]
      intro hh
      have := List.append_cancel_left hh
      simp only [List.cons.injEq, and_true] at this
      exact h ⟨u8_xor_ne this.1.symm, u8_xor_ne this.2.symm⟩
end Go.Proofs.YtdnkapfcnapadaaGreatDoor

namespace Go.Proofs.YtdnkapfcnapadaaGreatDoor

/-- what is wrong with a workspace -/
def spaceG (seen : List (List UInt8)) : List Bnd → Int
  | [] => 0
  | b :: r => if nameF b.name ≠ 0 then 1 else if b.name ∈ seen then 9 else if checkF b.char b.shape b.data ≠ 0 then checkF b.char b.shape b.data else spaceG (seen ++ [b.name]) r
def spaceF (ws : List Bnd) : Int := if 20 < ws.length then 7 else spaceG [] ws

def valB (c : Bool) (s d : List Int) : List UInt8 := (if c then 1 else 0) :: (cntB s.length ++ (s.flatMap (fun n => cntB n.toNat) ++ d.flatMap (fun n => cntB (zig n))))
def bindB (b : Bnd) : List UInt8 := cntB b.name.length ++ (b.name ++ valB b.char b.shape b.data)
def bodyB (ws : List Bnd) : List UInt8 := cntB ws.length ++ ws.flatMap bindB

/-- how many cells are read behind the axes -/
def roomP (s : List Int) : Option Nat := if hasZero s = true then some 0 else if (prodF 1 s).2 ≠ 0 then none else some (prodF 1 s).1.toNat
def valP : List UInt8 → Option ((Bool × List Int × List Int) × List UInt8)
  | [] => none
  | b :: r => if 1 < b.toNat then none else match belowP 6 r with
    | none => none
    | some (k, r1) => match manyP (belowP 4096) k.toNat r1 with
      | none => none
      | some (s, r2) => match roomP s with
        | none => none
        | some n => match manyP numP n r2 with
          | none => none
          | some (d, r3) => some ((decide (b.toNat = 1), s, d), r3)
def bindP (l : List UInt8) : Option (Bnd × List UInt8) := match belowP 12 l with
  | none => none
  | some (n, r) => if r.length < n.toNat then none else match valP (r.drop n.toNat) with
    | none => none
    | some (v, r2) => some (⟨r.take n.toNat, v.1, v.2.1, v.2.2⟩, r2)
def bindsP (l : List UInt8) : Option (List Bnd × List UInt8) := match belowP 20 l with
  | none => none
  | some (n, r) => manyP bindP n.toNat r
def bodyP (l : List UInt8) : Option (List Bnd) := match bindsP l with
  | none => none
  | some (ws, r) => if r = [] ∧ spaceF ws = 0 then some ws else none

/-- may it be written? -/
structure BindOk (b : Bnd) : Prop where
  name : b.name.length ≤ 12
  rank : b.shape.length ≤ 6
  axes : ∀ n ∈ b.shape, 0 ≤ n ∧ n ≤ 4096
  room : roomP b.shape = some b.data.length
  nums : ∀ n ∈ b.data, -9223372036854775808 ≤ n ∧ n ≤ 9223372036854775807

theorem prodF_nonneg : ∀ (s : List Int) (a : Int), 0 ≤ a → (∀ n ∈ s, 0 ≤ n) → 0 ≤ (prodF a s).1
  | [], a, h, _ => h
  | n :: r, a, h, hs => by
    rw [prodF]
    split
    · exact Int.le_refl _
    · exact prodF_nonneg r _ (Int.mul_nonneg h (hs n (by simp))) fun x hx => hs x (by simp [hx])
theorem nameF_len {s : List UInt8} (h : nameF s = 0) : s.length ≤ 12 := by
  unfold nameF at h
  split at h
  · cases h
  · split at h
    · cases h
    · split at h
      · cases h
      · omega
theorem check_ok {c : Bool} {s d : List Int} (h : checkF c s d = 0) : s.length ≤ 6 ∧ (∀ n ∈ s, 0 ≤ n ∧ n ≤ 4096) ∧ roomP s = some d.length := by
  unfold checkF at h
  by_cases h1 : (countF s).2 ≠ 0
  · rw [if_pos h1] at h; exact absurd h h1
  · rw [if_neg h1] at h
    by_cases h2 : (d.length : Int) ≠ (countF s).1
    · rw [if_pos h2] at h; cases h
    · have h1' : (countF s).2 = 0 := Decidable.of_not_not h1
      have h2' : (d.length : Int) = (countF s).1 := Decidable.of_not_not h2
      unfold countF at h1' h2'
      by_cases h6 : 6 < s.length
      · rw [if_pos h6] at h1'; cases h1'
      · rw [if_neg h6] at h1' h2'
        by_cases hb : badAxis s ≠ 0
        · rw [if_pos hb] at h1'; exact absurd h1' hb
        · rw [if_neg hb] at h1' h2'
          refine ⟨by omega, badAxis_zero (Decidable.of_not_not hb), ?_⟩
          unfold roomP
          by_cases hz : hasZero s = true
          · rw [if_pos hz] at h2' ⊢
            have : d.length = 0 := by simpa using h2'
            rw [this]
          · rw [if_neg hz] at h1' h2' ⊢
            rw [if_neg (by rw [h1']; simp), ← h2', Int.toNat_natCast]
theorem spaceG_ok : ∀ (ws : List Bnd) (seen : List (List UInt8)), spaceG seen ws = 0 → ∀ b ∈ ws, nameF b.name = 0 ∧ checkF b.char b.shape b.data = 0
  | [], _, _, b, hb => by cases hb
  | x :: ws, seen, h, b, hb => by
    rw [spaceG] at h
    by_cases h1 : nameF x.name ≠ 0
    · rw [if_pos h1] at h; cases h
    · rw [if_neg h1] at h
      by_cases h2 : x.name ∈ seen
      · rw [if_pos h2] at h; cases h
      · rw [if_neg h2] at h
        by_cases h3 : checkF x.char x.shape x.data ≠ 0
        · rw [if_pos h3] at h; exact absurd h h3
        · rw [if_neg h3] at h
          rcases List.mem_cons.1 hb with rfl | hb
          · exact ⟨Decidable.of_not_not h1, Decidable.of_not_not h3⟩
          · exact spaceG_ok ws _ h b hb
theorem space_ok {ws : List Bnd} (h : spaceF ws = 0) (hn : ∀ b ∈ ws, ∀ n ∈ b.data, -9223372036854775808 ≤ n ∧ n ≤ 9223372036854775807) : ws.length ≤ 20 ∧ ∀ b ∈ ws, BindOk b := by
  unfold spaceF at h
  by_cases h1 : 20 < ws.length
  · rw [if_pos h1] at h; cases h
  · rw [if_neg h1] at h
    refine ⟨by omega, fun b hb => ?_⟩
    obtain ⟨h2, h3⟩ := spaceG_ok ws [] h b hb
    obtain ⟨h4, h5, h6⟩ := check_ok h3
    exact ⟨nameF_len h2, h4, h5, h6, hn b hb⟩

theorem val_enc {b : Bnd} (h : BindOk b) (r : List UInt8) : valP (valB b.char b.shape b.data ++ r) = some ((b.char, b.shape, b.data), r) := by
  unfold valB
  rw [List.cons_append, valP, if_neg (by cases b.char <;> decide)]
  simp only [List.append_assoc]
  have h1 := below_enc (most := 6) (n := (b.shape.length : Int)) (by omega) (by have := h.rank; omega) (by decide) (b.shape.flatMap (fun n => cntB n.toNat) ++ (b.data.flatMap (fun n => cntB (zig n)) ++ r))
  rw [Int.toNat_natCast] at h1
  rw [h1]
  simp only
  rw [Int.toNat_natCast, many_enc b.shape _ (fun n hn r => below_enc (h.axes n hn).1 (h.axes n hn).2 (by decide) r)]
  simp only
  rw [h.room]
  simp only
  rw [many_enc b.data r (fun n hn r => num_enc (h.nums n hn) r)]
  cases b.char <;> rfl
theorem val_dec {l r : List UInt8} {c : Bool} {s d : List Int} (h : valP l = some ((c, s, d), r)) : l = valB c s d ++ r ∧ s.length ≤ 6 ∧ (∀ n ∈ s, 0 ≤ n ∧ n ≤ 4096) ∧ roomP s = some d.length ∧ ∀ n ∈ d, -9223372036854775808 ≤ n ∧ n ≤ 9223372036854775807 := by
  cases l with
  | nil => cases h
  | cons b l =>
    rw [valP] at h
    by_cases hb : 1 < b.toNat
    · rw [if_pos hb] at h; cases h
    · rw [if_neg hb] at h
      cases h1 : belowP 6 l with
      | none => rw [h1] at h; cases h
      | some q1 =>
        obtain ⟨k, r1⟩ := q1
        rw [h1] at h
        simp only at h
        cases h2 : manyP (belowP 4096) k.toNat r1 with
        | none => rw [h2] at h; cases h
        | some q2 =>
          obtain ⟨s', r2⟩ := q2
          rw [h2] at h
          simp only at h
          cases h3 : roomP s' with
          | none => rw [h3] at h; cases h
          | some n =>
            rw [h3] at h
            simp only at h
            cases h4 : manyP numP n r2 with
            | none => rw [h4] at h; cases h
            | some q4 =>
              obtain ⟨d', r3⟩ := q4
              rw [h4] at h
              simp only at h
              injection h with h
              injection h with h5 h6
              injection h5 with h7 h8
              injection h8 with h8 h9
              subst h6 h8 h9
              obtain ⟨e1, e2, e3⟩ := below_dec h1
              obtain ⟨f1, f2, f3⟩ := many_dec (enc := fun n : Int => cntB n.toNat) (ok := fun n : Int => 0 ≤ n ∧ n ≤ (4096 : Nat)) (fun l x r hx => ⟨(below_dec hx).1, (below_dec hx).2.1, (below_dec hx).2.2⟩) _ _ _ _ h2
              obtain ⟨g1, g2, g3⟩ := many_dec (enc := fun n : Int => cntB (zig n)) (ok := fun n : Int => -9223372036854775808 ≤ n ∧ n ≤ 9223372036854775807) (fun l x r hx => num_dec hx) _ _ _ _ h4
              refine ⟨?_, by rw [f2]; omega, f3, by rw [h3, g2], g3⟩
              have hbv : b = (if c = true then (1 : UInt8) else 0) := by
                rw [← h7]
                by_cases hb1 : b.toNat = 1
                · rw [decide_eq_true hb1, if_pos rfl]
                  exact UInt8.toNat_inj.1 hb1
                · rw [decide_eq_false hb1, if_neg (by simp)]
                  exact UInt8.toNat_inj.1 (by show b.toNat = 0; omega)
              unfold valB
              rw [← hbv, e1, f1, g1, f2]
              simp only [List.cons_append, List.append_assoc]
theorem bind_enc {b : Bnd} (h : BindOk b) (r : List UInt8) : bindP (bindB b ++ r) = some (b, r) := by
  unfold bindP bindB
  have h1 := below_enc (most := 12) (n := (b.name.length : Int)) (by omega) (by have := h.name; omega) (by decide) (b.name ++ (valB b.char b.shape b.data ++ r))
  rw [Int.toNat_natCast] at h1
  simp only [List.append_assoc]
  rw [h1]
  simp only
  rw [Int.toNat_natCast, if_neg (by simp), List.drop_left, List.take_left, val_enc h]
theorem bind_dec {l r : List UInt8} {b : Bnd} (h : bindP l = some (b, r)) : l = bindB b ++ r ∧ BindOk b := by
  unfold bindP at h
  cases h1 : belowP 12 l with
  | none => rw [h1] at h; cases h
  | some q1 =>
    obtain ⟨n, r1⟩ := q1
    rw [h1] at h
    simp only at h
    by_cases hl : r1.length < n.toNat
    · rw [if_pos hl] at h; cases h
    · rw [if_neg hl] at h
      cases h2 : valP (r1.drop n.toNat) with
      | none => rw [h2] at h; cases h
      | some q2 =>
        obtain ⟨⟨c, s, d⟩, r2⟩ := q2
        rw [h2] at h
        simp only at h
        injection h with h
        injection h with h3 h4
        subst h3 h4
        obtain ⟨e1, e2, e3⟩ := below_dec h1
        obtain ⟨f1, f2, f3, f4, f5⟩ := val_dec h2
        have hlen : (r1.take n.toNat).length = n.toNat := by simp; omega
        refine ⟨?_, by show (r1.take n.toNat).length ≤ 12; omega, f2, f3, f4, f5⟩
        unfold bindB
        show l = cntB (r1.take n.toNat).length ++ (r1.take n.toNat ++ valB c s d) ++ r2
        rw [hlen, e1, List.append_assoc, List.append_assoc, ← f1, List.take_append_drop]
theorem binds_enc {ws : List Bnd} (h : ws.length ≤ 20) (hb : ∀ b ∈ ws, BindOk b) (r : List UInt8) : bindsP (bodyB ws ++ r) = some (ws, r) := by
  unfold bindsP bodyB
  have h1 := below_enc (most := 20) (n := (ws.length : Int)) (by omega) (by omega) (by decide) (ws.flatMap bindB ++ r)
  rw [Int.toNat_natCast] at h1
  rw [List.append_assoc, h1]
  simp only
  rw [Int.toNat_natCast, many_enc ws r (fun b hb' r => bind_enc (hb b hb') r)]
theorem binds_dec {l r : List UInt8} {ws : List Bnd} (h : bindsP l = some (ws, r)) : l = bodyB ws ++ r ∧ ws.length ≤ 20 ∧ ∀ b ∈ ws, BindOk b := by
  unfold bindsP at h
  cases h1 : belowP 20 l with
  | none => rw [h1] at h; cases h
  | some q1 =>
    obtain ⟨n, r1⟩ := q1
    rw [h1] at h
    simp only at h
    obtain ⟨e1, e2, e3⟩ := below_dec h1
    obtain ⟨f1, f2, f3⟩ := many_dec (enc := bindB) (ok := BindOk) (fun l x r hx => bind_dec hx) _ _ _ _ h
    refine ⟨?_, by omega, f3⟩
    unfold bodyB
    rw [f2, e1, f1, List.append_assoc]
/-- what is written is read -/
theorem body_enc {ws : List Bnd} (h : spaceF ws = 0) (hn : ∀ b ∈ ws, ∀ n ∈ b.data, -9223372036854775808 ≤ n ∧ n ≤ 9223372036854775807) : bodyP (bodyB ws) = some ws := by
  obtain ⟨h1, h2⟩ := space_ok h hn
  have := binds_enc h1 h2 []
  rw [List.append_nil] at this
  unfold bodyP
  rw [this]
  simp only
  rw [if_pos ⟨trivial, h⟩]
/-- what is read was written -/
theorem body_dec {l : List UInt8} {ws : List Bnd} (h : bodyP l = some ws) : l = bodyB ws ∧ spaceF ws = 0 ∧ ∀ b ∈ ws, BindOk b := by
  unfold bodyP at h
  cases h1 : bindsP l with
  | none => rw [h1] at h; cases h
  | some q =>
    obtain ⟨ws', r⟩ := q
    rw [h1] at h
    simp only at h
    by_cases hc : r = [] ∧ spaceF ws' = 0
    · rw [if_pos hc] at h
      injection h with h
      subst h
      obtain ⟨rfl, hs⟩ := hc
      obtain ⟨e1, e2, e3⟩ := binds_dec h1
      exact ⟨by rw [e1, List.append_nil], hs, e3⟩
    · rw [if_neg hc] at h; cases h
/-- with more behind it, it is not read -/
theorem body_more {ws : List Bnd} (h : spaceF ws = 0) (hn : ∀ b ∈ ws, ∀ n ∈ b.data, -9223372036854775808 ≤ n ∧ n ≤ 9223372036854775807) {t : List UInt8} (ht : t ≠ []) : bodyP (bodyB ws ++ t) = none := by
  obtain ⟨h1, h2⟩ := space_ok h hn
  unfold bodyP
  rw [binds_enc h1 h2 t]
  simp only
  rw [if_neg (fun h => ht h.1)]
/-- a beginning is not read -/
theorem body_less {ws : List Bnd} (h : spaceF ws = 0) (hn : ∀ b ∈ ws, ∀ n ∈ b.data, -9223372036854775808 ≤ n ∧ n ≤ 9223372036854775807) {l t : List UInt8} (e : bodyB ws = l ++ t) (ht : t ≠ []) : bodyP l = none := by
  cases hl : bodyP l with
  | none => rfl
  | some ws' =>
    exfalso
    obtain ⟨e1, e2, e3⟩ := body_dec hl
    have h2 := body_more (t := t) e2 (fun b hb => (e3 b hb).nums) ht
    rw [← e1, ← e, body_enc h hn] at h2
    cases h2
end Go.Proofs.YtdnkapfcnapadaaGreatDoor
