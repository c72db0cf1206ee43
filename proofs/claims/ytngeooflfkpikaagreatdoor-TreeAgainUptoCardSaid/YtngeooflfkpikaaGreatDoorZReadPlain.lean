/-
  Plain: the words of a line.
-/
import Derived.Test.YtngeooflfkpikaaGreatDoorZLexPlain
import Derived.Lib.MapLaws
import Derived.Lib.TrimUEq
import Derived.Lib.ParseIntB
import Derived.Lib.CutLaws
namespace Go.Proofs.YtngeooflfkpikaaGreatDoor
/-- a code point in at most three bytes -/
def encB (n : Nat) : List UInt8 := if n < 128 then [UInt8.ofNat n] else if n < 2048 then [UInt8.ofNat (192 + n / 64), UInt8.ofNat (128 + n % 64)] else [UInt8.ofNat (224 + n / 4096), UInt8.ofNat (128 + n / 64 % 64), UInt8.ofNat (128 + n % 64)]
theorem u8n (n : Nat) (h : n < 256) : (UInt8.ofNat n).toNat = n := by simp [UInt8.toNat_ofNat']; omega
theorem decode_encB {n : Nat} (h : n < 55296 ∨ (57344 ≤ n ∧ n < 65536)) (t : List UInt8) : Lib.decodeL (encB n ++ t) = (n, (encB n).length) := by
  rw [Lib.decodeL_N]
  unfold encB
  by_cases h1 : n < 128
  · simp only [if_pos h1]
    simp only [List.cons_append, List.nil_append, List.getD_cons_zero, u8n _ (show n < 256 by omega)]
    unfold Lib.decodeN
    rw [if_pos h1]; rfl
  · by_cases h2 : n < 2048
    · simp only [if_neg h1, if_pos h2]
      simp only [List.cons_append, List.nil_append, List.getD_cons_zero, List.getD_cons_succ, u8n _ (show 192 + n / 64 < 256 by omega), u8n _ (show 128 + n % 64 < 256 by omega), List.length_cons]
      unfold Lib.decodeN
      rw [if_neg (by omega), if_pos (by omega), if_pos (by omega)]
      apply Prod.ext
      · simp only; omega
      · rfl
    · simp only [if_neg h1, if_neg h2]
      simp only [List.cons_append, List.nil_append, List.getD_cons_zero, List.getD_cons_succ, u8n _ (show 224 + n / 4096 < 256 by omega), u8n _ (show 128 + n / 64 % 64 < 256 by omega), u8n _ (show 128 + n % 64 < 256 by omega), List.length_cons]
      unfold Lib.decodeN
      rw [if_neg (by omega), if_neg (by omega), if_pos (by omega), if_pos (by omega)]
      apply Prod.ext
      · simp only; omega
      · rfl
theorem encB_rune {n : Nat} (h : n < 55296 ∨ (57344 ≤ n ∧ n < 65536)) : Lib.encodeRune (n : Int) = encB n := by
  unfold encB Lib.encodeRune
  by_cases h1 : n < 128
  · rw [if_pos h1, Lib.encodeRuneZ_one (by omega) (by omega)]
    simp
  · by_cases h2 : n < 2048
    · rw [if_neg h1, if_pos h2, Lib.encodeRuneZ_two (by omega) (by omega)]
      simp only [List.map_cons, List.map_nil]
      congr 1
    · rw [if_neg h1, if_neg h2, Lib.encodeRuneZ_three (by omega)]
      simp only [List.map_cons, List.map_nil]
      congr 1
/-- does l begin with the code point's bytes? -/
theorem prefix_decode {n : Nat} (h : n < 55296 ∨ (57344 ≤ n ∧ n < 65533)) {l : List UInt8} (hne : l ≠ []) : (encB n).isPrefixOf l = decide ((Lib.decodeL l).1 = n) := by
  rw [Bool.eq_iff_iff, List.isPrefixOf_iff_prefix, decide_eq_true_iff]
  constructor
  · rintro ⟨t, rfl⟩
    rw [decode_encB (by omega)]
  · intro hd
    have h1 := Lib.encode_decode l hne (by rw [hd]; omega)
    rw [hd, encB_rune (by omega)] at h1
    exact ⟨l.drop (Lib.decodeL l).2, by rw [h1, List.take_append_drop]⟩
theorem prefix_len {n : Nat} (h : n < 55296 ∨ (57344 ≤ n ∧ n < 65533)) {l : List UInt8} (hp : (encB n).isPrefixOf l = true) : (Lib.decodeL l).2 = (encB n).length := by
  rw [List.isPrefixOf_iff_prefix] at hp
  obtain ⟨t, rfl⟩ := hp
  rw [decode_encB (by omega)]
def glyphC : List Nat := [43, 45, 215, 247, 124, 8968, 8970, 61, 8800, 60, 8804, 8805, 62, 8743, 8744, 42, 126, 9076, 44, 9021, 9033, 8593, 8595, 9075, 8714, 9035, 9042, 8746, 8745, 8869, 8868, 8801, 47, 92]
def signC : List Nat := [40, 41, 91, 93, 59, 8592, 8728, 46, 9064, 123, 125, 58, 8900, 9082, 9077, 8711]
theorem glyphsB_enc : glyphsB = glyphC.map encB := by decide +kernel
theorem signsB_enc : signsB = signC.map encB := by decide +kernel
theorem glyphC_ok : ∀ n ∈ glyphC, n < 55296 := by decide
theorem signC_ok : ∀ n ∈ signC, n < 55296 := by decide
/-- which of some signs l begins with (from n on; 0: none), and how long it is -/
def signL : List (List UInt8) → Nat → List UInt8 → Nat × Nat
  | [], _, _ => (0, 0)
  | g :: r, n, l => if g.isPrefixOf l = true then (n, g.length) else signL r (n + 1) l
/-- the same, by the code point -/
def signR : List Nat → Nat → Nat → Nat
  | [], _, _ => 0
  | c :: r, n, d => if d = c then n else signR r (n + 1) d
theorem signL_R {l : List UInt8} (hne : l ≠ []) : ∀ (cs : List Nat) (n : Nat), 0 < n → (∀ c ∈ cs, c < 55296) → (signL (cs.map encB) n l).1 = signR cs n (Lib.decodeL l).1 ∧ (signR cs n (Lib.decodeL l).1 ≠ 0 → (signL (cs.map encB) n l).2 = (Lib.decodeL l).2)
  | [], _, _, _ => ⟨rfl, fun h => absurd rfl h⟩
  | c :: r, n, hn, h => by
    have hc : c < 55296 := h c (by simp)
    rw [List.map_cons, signL, signR, prefix_decode (.inl hc) hne]
    by_cases hd : (Lib.decodeL l).1 = c
    · simp only [hd, decide_true, if_true]
      refine ⟨trivial, fun _ => ?_⟩
      rw [prefix_len (.inl hc) (by rw [prefix_decode (.inl hc) hne, hd]; simp)]
    · simp only [hd, decide_false, if_false, Bool.false_eq_true]
      exact signL_R hne r (n + 1) (by omega) fun c hc => h c (by simp [hc])
/-! ## numbers -/
def decV (ds : List UInt8) : Nat := ds.foldl (fun n b => n * 10 + (b.toNat - 48)) 0
def numF (neg : Bool) (ds : List UInt8) : Option Int :=
  if neg = true then (if decV ds ≤ 9223372036854775808 then some (-(decV ds : Int)) else none) else if decV ds ≤ 9223372036854775807 then some (decV ds : Int) else none
theorem fold_le : ∀ (ds : List UInt8) (a : Nat), a ≤ ds.foldl (fun n b => n * 10 + (b.toNat - 48)) a
  | [], a => Nat.le_refl _
  | d :: ds, a => by
    rw [List.foldl_cons]
    have := fold_le ds (a * 10 + (d.toNat - 48))
    omega
theorem parseUintM_digits : ∀ (ds : List UInt8) (acc : Nat), (∀ d ∈ ds, isDigitB d = true) → acc ≤ 18446744073709551615 → Lib.parseUintM (2 ^ 64 - 1) acc ds = if ds.foldl (fun n b => n * 10 + (b.toNat - 48)) acc ≤ 18446744073709551615 then .ok (ds.foldl (fun n b => n * 10 + (b.toNat - 48)) acc) else .range
  | [], acc, _, ha => by rw [Lib.parseUintM]; simp [ha]
  | d :: ds, acc, h, ha => by
    have hd : isDigitB d = true := h d (by simp)
    have hd' : 48 ≤ d.toNat ∧ d.toNat ≤ 57 := by unfold isDigitB at hd; simpa using hd
    rw [Lib.parseUintM, if_pos hd', List.foldl_cons]
    have hle := fold_le ds (acc * 10 + (d.toNat - 48))
    by_cases h1 : 1844674407370955162 ≤ acc
    · rw [if_pos h1, if_neg (by omega)]
    · rw [if_neg h1]
      by_cases h2 : 2 ^ 64 - 1 < acc * 10 + (d.toNat - 48)
      · rw [if_pos h2, if_neg (by omega)]
      · rw [if_neg h2]
        exact parseUintM_digits ds _ (fun x hx => h x (by simp [hx])) (by omega)
theorem parseInt_num (neg : Bool) {ds : List UInt8} (hne : ds ≠ []) (h : ∀ d ∈ ds, isDigitB d = true) :
    Lib.parseIntB 64 (if neg = true then 45 :: ds else ds) = match numF neg ds with | some v => .ok v | none => .range := by
  have hU : Lib.parseUintB 64 ds = if decV ds ≤ 18446744073709551615 then .ok (decV ds) else .range := by
    unfold Lib.parseUintB
    rw [if_neg hne]
    exact parseUintM_digits ds 0 h (by omega)
  have e63 : (2 ^ (64 - 1) : Nat) = 9223372036854775808 := by decide
  cases neg with
  | true =>
    simp only [if_true]
    unfold Lib.parseIntB numF
    simp only [show (45 : UInt8).toNat = 45 from rfl]
    rw [if_pos (.inr trivial), hU]
    by_cases h1 : decV ds ≤ 18446744073709551615
    · rw [if_pos h1]
      simp only [e63]
      by_cases h2 : decV ds ≤ 9223372036854775808
      · simp [h2]
      · simp [h2] <;> omega
    · rw [if_neg h1]
      simp only [if_true]
      rw [if_neg (show ¬ decV ds ≤ 9223372036854775808 by omega)]
  | false =>
    simp only [Bool.false_eq_true, if_false]
    cases ds with
    | nil => exact absurd rfl hne
    | cons d r =>
      have hd : isDigitB d = true := h d (by simp)
      have hd' : 48 ≤ d.toNat ∧ d.toNat ≤ 57 := by unfold isDigitB at hd; simpa using hd
      unfold Lib.parseIntB numF
      simp only [Bool.false_eq_true, if_false]
      rw [if_neg (show ¬ (d.toNat = 43 ∨ d.toNat = 45) by omega), hU]
      have hn : ¬ d.toNat = 45 := by omega
      by_cases h1 : decV (d :: r) ≤ 18446744073709551615
      · rw [if_pos h1]
        simp only [e63, hn]
        by_cases h2 : decV (d :: r) ≤ 9223372036854775807
        · rw [if_pos h2]; simp; omega
        · rw [if_neg h2]; simp; omega
      · rw [if_neg h1, if_neg (by omega)]
/-! ## texts -/
/-- the text between quotes, behind the first one, and how many bytes it takes -/
def qscan : List UInt8 → Option (List UInt8 × Nat)
  | [] => none
  | b :: r => if b = 39 then (match r with
      | [] => some ([], 1)
      | c :: r' => if c = 39 then (qscan r').map fun x => (39 :: x.1, x.2 + 2) else some ([], 1))
    else (qscan r).map fun x => (b :: x.1, x.2 + 1)
theorem qscan_some : ∀ (n : Nat) {l : List UInt8} {t : List UInt8} {k : Nat}, l.length ≤ n → qscan l = some (t, k) → k ≤ l.length ∧ 1 ≤ k ∧ t.length < k
  | _, [], t, k, _, h => by rw [qscan] at h; cases h
  | 0, b :: r, t, k, hn, h => by simp at hn
  | n + 1, b :: r, t, k, hn, h => by
    rw [qscan.eq_def] at h
    simp only at h
    simp only [List.length_cons] at hn ⊢
    by_cases hb : b = 39
    · rw [if_pos hb] at h
      cases r with
      | nil => simp only [Option.some.injEq, Prod.mk.injEq] at h; obtain ⟨rfl, rfl⟩ := h; simp
      | cons c r' =>
        simp only [List.length_cons] at hn ⊢
        by_cases hc : c = 39
        · simp only [if_pos hc] at h
          cases hq : qscan r' with
          | none => rw [hq] at h; cases h
          | some x =>
            obtain ⟨t', k'⟩ := x
            rw [hq] at h
            simp only [Option.map_some, Option.some.injEq, Prod.mk.injEq] at h
            obtain ⟨rfl, rfl⟩ := h
            have := qscan_some n (by omega) hq
            simp only [List.length_cons]; omega
        · simp only [if_neg hc, Option.some.injEq, Prod.mk.injEq] at h
          obtain ⟨rfl, rfl⟩ := h
          simp
    · rw [if_neg hb] at h
      cases hq : qscan r with
      | none => rw [hq] at h; cases h
      | some x =>
        obtain ⟨t', k'⟩ := x
        rw [hq] at h
        simp only [Option.map_some, Option.some.injEq, Prod.mk.injEq] at h
        obtain ⟨rfl, rfl⟩ := h
        have := qscan_some n (by omega) hq
        simp only [List.length_cons]; omega
theorem qscan_part : ∀ {p : List UInt8} (l : List UInt8), (∀ b ∈ p, b ≠ 39) → qscan (p ++ l) = (qscan l).map fun x => (p ++ x.1, p.length + x.2)
  | [], l, _ => by simp
  | b :: p, l, h => by
    have hb : ¬ b = 39 := h b (by simp)
    rw [List.cons_append, qscan.eq_def]
    simp only
    rw [if_neg hb, qscan_part l (fun x hx => h x (by simp [hx])), Option.map_map]
    congr 1
    funext x
    simp; omega
theorem qscan_none {l : List UInt8} (h : ∀ b ∈ l, b ≠ 39) : qscan l = none := by
  have := qscan_part [] h
  rw [List.append_nil] at this
  rw [this]; rfl
/-! ## words, lines -/
/-- the word with which l begins: what is wrong, it (as if at 0), how many bytes it takes -/
def wordF (l : List UInt8) : Int × Tok × Nat :=
  let neg := [194, 175].isPrefixOf l
  let r := if neg = true then l.drop 2 else l
  let ds := r.takeWhile isDigitB
  if ds ≠ [] then (match numF neg ds with
    | some v => (0, ⟨1, 0, v, [], 0⟩, (if neg = true then 2 else 0) + ds.length)
    | none => (6, default, 0))
  else if neg = true then (1, default, 0)
  else if isLetterB (l.getD 0 0) = true then (if 12 < (l.takeWhile isPartB).length then (7, default, 0) else (0, ⟨3, 0, 0, l.takeWhile isPartB, 0⟩, (l.takeWhile isPartB).length))
  else if l.getD 0 0 = 39 then (match qscan (l.drop 1) with
    | none => (1, default, 0)
    | some (t, n) => if quotF t = true then (0, ⟨2, 0, 0, t, 0⟩, n + 1) else (1, default, 0))
  else if (signL glyphsB 1 l).1 ≠ 0 then (0, ⟨4, (signL glyphsB 1 l).1, 0, [], 0⟩, (signL glyphsB 1 l).2)
  else if (signL signsB 1 l).1 ≠ 0 then (0, ⟨4 + (signL signsB 1 l).1, 0, 0, [], 0⟩, (signL signsB 1 l).2)
  else (1, default, 0)
/-- the words from a byte on (n: fuel, at least the bytes; a: which byte; k: so many words are read): what is wrong, where, the words -/
def readF : Nat → List UInt8 → Nat → Nat → Int × Int × List Tok
  | 0, _, _, _ => (0, 0, [])
  | n + 1, l, a, k => match l with
    | [] => (0, 0, [])
    | b :: r =>
      if [226, 141, 157].isPrefixOf (b :: r) = true then (0, 0, [])
      else if b = 32 then readF n r (a + 1) k
      else match wordF (b :: r) with
        | (e, t, m) => if e ≠ 0 then (e, (a : Int), []) else if 200 ≤ k then (7, (a : Int), []) else match readF n ((b :: r).drop m) (a + m) (k + 1) with
          | (e', a', ts) => if e' ≠ 0 then (e', a', []) else (0, 0, { t with at_ := a } :: ts)
def readL (s : List UInt8) : Int × Int × List Tok := if 1000 < s.length then (7, 0, []) else readF s.length s 0 0
end Go.Proofs.YtngeooflfkpikaaGreatDoor
