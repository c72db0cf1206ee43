/-
  ravelinref3: letters, digits; texts that may be quoted; the signs as a text.
  ravelinref3.digits: a number's text.
  ravelinref3: names, the n-th sign.
  ravelinref3.Spelt, Spelling: the reference's text of a word, of a line.
  ravelinref3.Alone.
-/
import Derived.Test.YtngeooflfkpikaaGreatDoorYGo
import Derived.Test.YtngeooflfkpikaaGreatDoorYLex3
import Derived.Test.YtngeooflfkpikaaGreatDoorYRunes
import Derived.Test.YtngeooflfkpikaaGreatDoorYLexPlain
import Derived.Test.YtngeooflfkpikaaGreatDoorYRule
import Derived.Test.YtngeooflfkpikaaGreatDoorProg
import Derived.Test.YtngeooflfkpikaaGreatDoorYSpell
namespace Go.Proofs.YtngeooflfkpikaaGreatDoor
open Go.RowKit
theorem ref_isDigit (b : UInt8) (w : World) : Calls Tryz.prog 266 #[.int .u8 (b.toNat : Int)] w fun e w' => e = .returned (.bool (isDigitB b)) ∧ Below w.heap.size w w' := by
  refine enter (args := [_]) (m := []) (F := []) Tryz.func266 rfl Tryz.ntmps266 (by simp) rfl ?_
  (repeat' (first|refine zza ?_|refine zc9 ?_|refine zzb fun w hw => ?_|refine zzh fun _ => ?_|refine zzi fun _ _ => ?_|refine zzj (fun _ => ?_) fun _ => ?_))
  all_goals (refine ⟨congrArg (fun b => Ending.returned (.bool b)) ?_, hw.below⟩; rw [Bool.eq_iff_iff]; simp [isDigitB]; try omega)
theorem ref_isLetter (b : UInt8) (w : World) : Calls Tryz.prog 239 #[.int .u8 (b.toNat : Int)] w fun e w' => e = .returned (.bool (isLetterB b)) ∧ Below w.heap.size w w' := by
  refine enter (args := [_]) (m := []) (F := []) Tryz.func239 rfl Tryz.ntmps239 (by simp) rfl ?_
  (repeat' (first|refine zza ?_|refine zc9 ?_|refine zzb fun w hw => ?_|refine zzh fun _ => ?_|refine zzi fun _ _ => ?_|refine zzj (fun _ => ?_) fun _ => ?_))
  all_goals (refine ⟨congrArg (fun b => Ending.returned (.bool b)) ?_, hw.below⟩; rw [Bool.eq_iff_iff]; simp [isLetterB]; try omega)
theorem ref_isPart (b : UInt8) (w : World) : Calls Tryz.prog 240 #[.int .u8 (b.toNat : Int)] w fun e w' => e = .returned (.bool (isPartB b)) ∧ Below w.heap.size w w' := by
  refine enter (args := [_]) (m := []) (F := []) Tryz.func240 rfl Tryz.ntmps240 (by simp) rfl ?_
  (repeat' (first|refine zza ?_|refine zc9 ?_|refine zzb fun w hw => ?_|refine zzh fun _ => ?_|refine zzi fun _ _ => ?_|refine zzj (fun _ => ?_) fun _ => ?_))
  (apply WL_callV; rfl; rfl; rfl; (intro W hW; exact ref_isLetter b W))
  cases hl : isLetterB b with
  | true =>
    (repeat' (first|refine zza ?_|refine zc9 ?_|refine zzb fun w hw => ?_|refine zzh fun _ => ?_|refine zzi fun _ _ => ?_|refine zzj (fun _ => ?_) fun _ => ?_))
    exact ⟨by simp [isPartB, hl], hw.below⟩
  | false =>
    (repeat' (first|refine zza ?_|refine zc9 ?_|refine zzb fun w hw => ?_|refine zzh fun _ => ?_|refine zzi fun _ _ => ?_|refine zzj (fun _ => ?_) fun _ => ?_))
    (apply WL_callV; rfl; rfl; rfl; (intro W hW; exact ref_isDigit b W))
    cases hd : isDigitB b with
    | true =>
      (repeat' (first|refine zza ?_|refine zc9 ?_|refine zzb fun w hw => ?_|refine zzh fun _ => ?_|refine zzi fun _ _ => ?_|refine zzj (fun _ => ?_) fun _ => ?_))
      exact ⟨by simp [isPartB, hl, hd], hw.below⟩
    | false =>
      (repeat' (first|refine zza ?_|refine zc9 ?_|refine zzb fun w hw => ?_|refine zzh fun _ => ?_|refine zzi fun _ _ => ?_|refine zzj (fun _ => ?_) fun _ => ?_))
      refine ⟨congrArg (fun b => Ending.returned (.bool b)) ?_, hw.below⟩; rw [Bool.eq_iff_iff]; simp [isPartB, hl, hd]; try omega
theorem one_part {l : List UInt8} {k : Nat} (h : k < l.length) : (l.take (k + 1)).drop k = [l.getD k 0] := by
  rw [List.take_add_one, List.getElem?_eq_getElem h, List.drop_append_of_le_length (by simp; omega)]
  simp [h]
theorem runes_none {s : List UInt8} (h : runesL s = none) (hl : s.length ≤ 4294967280) (w : World) : Calls Tryz.prog 241 #[.string ⟨s.toArray⟩] w fun e w' => e = .returned (.tuple #[.slice none 0 0, .bool false]) ∧ Below w.heap.size w w' :=
  (ref_Runes ⟨s.toArray⟩ w (by simp [ByteArray.size]; omega)).mono fun e w' h' => by
    obtain ⟨hb, ⟨_, he⟩ | ⟨cs, p, c, hc, _⟩⟩ := h'
    · exact ⟨he, hb⟩
    · simp [h] at hc
theorem runes_some {s : List UInt8} {cs : List Int} (h : runesL s = some cs) (hl : s.length ≤ 4294967280) (w : World) : Calls Tryz.prog 241 #[.string ⟨s.toArray⟩] w fun e w' => ∃ x : Option Addr × Nat, e = .returned (.tuple #[.slice x.1 cs.length x.2, .bool true]) ∧ Below w.heap.size w w' ∧ IntsAt w' x.1 x.2 cs :=
  (ref_Runes ⟨s.toArray⟩ w (by simp [ByteArray.size]; omega)).mono fun e w' h' => by
    obtain ⟨hb, ⟨hn, _⟩ | ⟨cs', p, c, hc, he, hi⟩⟩ := h'
    · simp [h] at hn
    · have : cs' = cs := by simp [h] at hc; exact hc.symm
      subst this
      exact ⟨(p, c), he, hb, hi⟩
theorem ref_Quotable (s : List UInt8) (hl : s.length ≤ 4294967280) (w : World) : Calls Tryz.prog 182 #[.string ⟨s.toArray⟩] w fun e w' => e = .returned (.bool (quotF s)) ∧ Below w.heap.size w w' := by
  refine enter (args := [_]) (m := []) (F := []) Tryz.func182 rfl Tryz.ntmps182 (by simp) rfl ?_
  (repeat' (first|refine zza ?_|refine zc9 ?_|refine zzb fun w hw => ?_|refine zzh fun _ => ?_|refine zzi fun _ _ => ?_|refine zzj (fun _ => ?_) fun _ => ?_))
  cases hr : runesL s with
  | none =>
    (apply WL_callV; rfl; rfl; rfl; (intro W hW; exact runes_none hr hl W))
    (repeat' (first|refine zza ?_|refine zc9 ?_|refine zzb fun w hw => ?_|refine zzh fun _ => ?_|refine zzi fun _ _ => ?_|refine zzj (fun _ => ?_) fun _ => ?_))
    exact ⟨by rw [quotF_none hr], hw.below⟩
  | some cs =>
    have hq := quotF_runes hr
    (apply WL_callN rfl; rfl; rfl; rfl; (intro W hW; exact runes_some hr hl W))
    rintro W ⟨p, c⟩ hI hB
    dsimp only at hI ⊢
    have hcl := len_max hI.le hI.max
    (repeat' (first|refine zza ?_|refine zc9 ?_|refine zzb fun w hw => ?_|refine zzh fun _ => ?_|refine zzi fun _ _ => ?_|refine zzj (fun _ => ?_) fun _ => ?_))
    refine CW_loopP [(3,_)] zcov (fun x : Nat => [(5, .int .i64 x)]) (fun x => x ≤ cs.length ∧ (cs.all fun c => decide (32 ≤ c)) = ((cs.drop x).all fun c => decide (32 ≤ c))) (fun x => cs.length - x) 0 ⟨Nat.zero_le _, rfl⟩ zcov ?_
    rintro k ⟨hk, hz⟩
    by_cases hlt : k < cs.length
    · rw [drop_cons (get_some hlt 0), List.all_cons] at hz
      by_cases h32 : cs.getD k 0 < 32
      · rw [decide_eq_false (show ¬ 32 ≤ cs.getD k 0 by omega), Bool.false_and] at hz
        (repeat' (first|refine zza ?_|refine zc9 ?_|refine zzb fun w hw => ?_|refine zzh fun _ => ?_|refine zzi fun _ _ => ?_|refine zzj (fun _ => ?_) fun _ => ?_))
        exact ⟨by rw [hq, hz], hw.below⟩
      · rw [decide_eq_true (show 32 ≤ cs.getD k 0 by omega), Bool.true_and] at hz
        (repeat' (first|refine zza ?_|refine zc9 ?_|refine zzb fun w hw => ?_|refine zzh fun _ => ?_|refine zzi fun _ _ => ?_|refine zzj (fun _ => ?_) fun _ => ?_))
        (refine EX_loop' (k + 1) ?_; (repeat' (first | exact Cov.nil | exact Ent.refl | (apply And.intro) | (apply Cov.cons; rfl) | exact Ent.nil | refine zn1 ?_ | trivial | rfl | assumption | omega | (congr 1; omega))))
    · have hkl : k = cs.length := by omega
      subst hkl
      rw [List.drop_length, List.all_nil] at hz
      (repeat' (first|refine zza ?_|refine zc9 ?_|refine zzb fun w hw => ?_|refine zzh fun _ => ?_|refine zzi fun _ _ => ?_|refine zzj (fun _ => ?_) fun _ => ?_))
      exact ⟨by rw [hq, hz], hw.below⟩
/-! ## signs -/
def longB (b : UInt8) : Nat := if 224 ≤ b.toNat then 3 else if 192 ≤ b.toNat then 2 else 1
def WfS (gs : List (List UInt8)) : Prop := ∀ g ∈ gs, ∃ b t, g = b :: t ∧ g.length = longB b
theorem wfG : WfS glyphsB := by
  intro g hg
  have h : glyphsB.all (fun g => match g with | [] => false | b :: t => decide ((b :: t).length = longB b)) = true := by decide +kernel
  have := List.all_eq_true.1 h g hg
  cases g with
  | nil => simp at this
  | cons b t => exact ⟨b, t, rfl, by simpa using this⟩
theorem wfS : WfS signsB := by
  intro g hg
  have h : signsB.all (fun g => match g with | [] => false | b :: t => decide ((b :: t).length = longB b)) = true := by decide +kernel
  have := List.all_eq_true.1 h g hg
  cases g with
  | nil => simp at this
  | cons b t => exact ⟨b, t, rfl, by simpa using this⟩
theorem flat_at {gs : List (List UInt8)} {j : Nat} {g : List UInt8} (h : gs[j]? = some g) : gs.flatten = (gs.take j).flatten ++ (g ++ (gs.drop (j + 1)).flatten) := by
  conv => lhs; rw [← List.take_append_drop j gs, List.flatten_append, drop_cons h, List.flatten_cons]
theorem flat_take {gs : List (List UInt8)} {j : Nat} {g : List UInt8} (h : gs[j]? = some g) : (gs.take (j + 1)).flatten.length = (gs.take j).flatten.length + g.length := by
  rw [List.take_add_one, h]; simp
end Go.Proofs.YtngeooflfkpikaaGreatDoor
namespace Go.Proofs.YtngeooflfkpikaaGreatDoor
open Go.RowKit
def decD0 (u : Nat) : List UInt8 := if u = 0 then [] else Lib.decDigits u
theorem decD0_step {u : Nat} (h : u ≠ 0) : decD0 u = decD0 (u / 10) ++ [UInt8.ofNat (48 + u % 10)] := by
  unfold decD0
  rw [if_neg h]
  by_cases hl : u < 10
  · rw [if_pos (by omega), Lib.decDigits_one hl, Nat.mod_eq_of_lt hl]; rfl
  · rw [if_neg (by omega), Lib.decDigits, dif_neg hl]
theorem dig_piece (d : Nat) (h : d < 10) : (ByteArray.mk #[48, 49, 50, 51, 52, 53, 54, 55, 56, 57]).extract d (d + 1) = ⟨#[UInt8.ofNat (48 + d)]⟩ := by
  match d, h with
  | 0, _ => decide +kernel
  | 1, _ => decide +kernel
  | 2, _ => decide +kernel
  | 3, _ => decide +kernel
  | 4, _ => decide +kernel
  | 5, _ => decide +kernel
  | 6, _ => decide +kernel
  | 7, _ => decide +kernel
  | 8, _ => decide +kernel
  | 9, _ => decide +kernel
theorem tmod10 (x : Int) : (x.tmod 10 < 0 → x.tmod 10 = -((x.natAbs % 10 : Nat) : Int)) ∧ (¬ x.tmod 10 < 0 → x.tmod 10 = ((x.natAbs % 10 : Nat) : Int)) := by
  have h := Int.natAbs_tmod x 10
  constructor
  · intro h0; have : (x.tmod 10).natAbs = x.natAbs % 10 := h; omega
  · intro h0; have : (x.tmod 10).natAbs = x.natAbs % 10 := h; omega
theorem tdiv10 (x : Int) (hx : I64 x) : (x.tdiv 10).natAbs = x.natAbs / 10 ∧ I64 (x.tdiv 10) ∧ wrap64 (x.tdiv 10) = x.tdiv 10 := by
  have h : (x.tdiv 10).natAbs = x.natAbs / 10 := Int.natAbs_tdiv x 10
  have hi : I64 (x.tdiv 10) := by unfold I64 at *; omega
  exact ⟨h, hi, IntWalk.wrap64_in _ ⟨hi.1, hi.2⟩⟩
theorem decD0_pos {n : Int} (h : ¬ n = 0) : decD0 n.natAbs = Lib.decDigits n.natAbs := by unfold decD0; rw [if_neg (by omega)]
theorem done {n x : Int} {d : Nat} {l : List UInt8} (hx0 : ¬ x = 0) (hqi : I64 (x.tdiv 10)) (hqw : wrap64 (x.tdiv 10) = x.tdiv 10) (Hq : (x.tdiv 10).natAbs = x.natAbs / 10) (Hd : d = x.natAbs % 10) (Hj : decD0 n.natAbs = decD0 x.natAbs ++ l) :
    (∃ (x_1 : Int) (l_1 : List UInt8), I64 x_1 ∧ Value.int IntKind.i64 (wrap64 (x.tdiv 10)) = Value.int IntKind.i64 x_1 ∧
      Value.string (ByteArray.mk #[48 + UInt8.ofNat d] ++ ByteArray.mk l.toArray) = Value.string ⟨l_1.toArray⟩ ∧ True ∧ decD0 n.natAbs = decD0 x_1.natAbs ++ l_1) ∧
    (intOf (Value.int IntKind.i64 (wrap64 (x.tdiv 10)))).natAbs < (intOf (Value.int IntKind.i64 x)).natAbs := by
  refine ⟨⟨x.tdiv 10, UInt8.ofNat (48 + d) :: l, hqi, int_eq hqw, congrArg Value.string ?_, trivial, ?_⟩, ?_⟩
  · apply ByteArray.ext; simp
  · rw [Hj, Hq, decD0_step (by omega : x.natAbs ≠ 0), Hd]; simp
  · rw [hqw]; simp only [intOf]; rw [Hq]; omega
theorem decD0_len {n x : Nat} {l : List UInt8} (hn : n ≤ 9223372036854775808) (h : decD0 n = decD0 x ++ l) : l.length ≤ 20 := by
  have h1 : (decD0 n).length ≤ 20 := by
    unfold decD0; split
    · simp
    · rw [Lib.decDigits_length]; exact Lib.nDigits_le20 n (by omega)
  rw [h] at h1; simp at h1; omega
set_option maxHeartbeats 1000000 in
theorem ref_digits (n : Int) (hn : I64 n) (w : World) : Calls Tryz.prog 180 #[.int .i64 n] w fun r w' => r = .returned (.string ⟨(numText n).toArray⟩) ∧ w' = w := by
  go_enter Tryz.func180, Tryz.ntmps180
  by_cases h0 : n = 0
  · subst h0
    go_wp2
    go_ret
    refine ⟨ret_val (a := .string ⟨#[48]⟩) ?_, rfl⟩
    have : numText 0 = [48] := by decide +kernel
    rw [this]
  · go_wp2
    go_loopw [3, 4] (fun t m wr => ∃ (x : Int) (l : List UInt8), I64 x ∧ m = .int .i64 x ∧ t = .string ⟨l.toArray⟩ ∧ wr = w ∧ decD0 n.natAbs = decD0 x.natAbs ++ l) (fun _ i _ => (intOf i).natAbs)
    case atStart => exact ⟨n, [], hn, rfl, rfl, rfl, by simp⟩
    case round =>
      obtain ⟨x, l, hx, rfl, rfl, rfl, hj⟩ := hrel
      have hl : l.length ≤ 20 := decD0_len (by unfold I64 at hn; omega) hj
      have Hj := Lib.hid hj
      clear hj
      by_cases hx0 : x = 0
      · subst hx0
        by_cases hneg : n < 0
        · go_wp2
          go_ret
          have e : numText n = 194 :: 175 :: l := by
            unfold numText; rw [if_pos hneg, ← decD0_pos h0, Hj.out]; rfl
          exact ⟨ret_val (congrArg Value.string (by rw [e]; apply ByteArray.ext; simp)), rfl⟩
        · go_wp2
          go_ret
          have e : numText n = l := by
            unfold numText; rw [if_neg (by omega), ← decD0_pos h0, Hj.out]; rfl
          exact ⟨ret_val (congrArg Value.string (by rw [e])), rfl⟩
      · obtain ⟨hq, hqi, hqw⟩ := tdiv10 x hx
        obtain ⟨d, hd⟩ : ∃ d, d = x.natAbs % 10 := ⟨_, rfl⟩
        have hd10 : d < 10 := by omega
        have hp := dig_piece d hd10
        have hw1 : wrap64 ((d : Int) + 1) = ((d + 1 : Nat) : Int) := by rw [IntWalk.wrap64_in _ ⟨by omega, by omega⟩]; rfl
        have hw0 : wrap64 (d : Int) = (d : Int) := IntWalk.wrap64_in _ ⟨by omega, by omega⟩
        have Hq := Lib.hid hq
        have Hd := Lib.hid hd
        by_cases hs : x.tmod 10 < 0
        · have hm := (tmod10 x).1 hs
          rw [← hd] at hm
          have hw2 : wrap64 (-x.tmod 10) = (d : Int) := by rw [hm, Int.neg_neg]; exact hw0
          clear hm hw0 hq hd
          go_wp2
          exact done hx0 hqi hqw Hq.out Hd.out Hj.out
        · have hm := (tmod10 x).2 hs
          rw [← hd] at hm
          clear hw0 hq hd
          go_wp2
          exact done hx0 hqi hqw Hq.out Hd.out Hj.out
end Go.Proofs.YtngeooflfkpikaaGreatDoor
namespace Go.Proofs.YtngeooflfkpikaaGreatDoor
open Go.RowKit
theorem ref_NameFault (s : List UInt8) (hl : s.length ≤ 4294967280) (w : World) : Calls Tryz.prog 181 #[.string ⟨s.toArray⟩] w fun e w' => e = .returned (.int .i64 (nameF s)) ∧ Below w.heap.size w w' := by
  by_cases h0 : s = []
  · subst h0
    refine enter (args := [_]) (m := []) (F := []) Tryz.func181 rfl Tryz.ntmps181 (by simp) rfl ?_
    (repeat' (first|refine zza ?_|refine zc9 ?_|refine zzb fun w hw => ?_|refine zzh fun _ => ?_|refine zzi fun _ _ => ?_|refine zzj (fun _ => ?_) fun _ => ?_))
    exact ⟨rfl, hw.below⟩
  have hpos : 0 < s.length := List.length_pos_iff.2 h0
  refine enter (args := [_]) (m := []) (F := []) Tryz.func181 rfl Tryz.ntmps181 (by simp) rfl ?_
  (repeat' (first|refine zza ?_|refine zc9 ?_|refine zzb fun w hw => ?_|refine zzh fun _ => ?_|refine zzi fun _ _ => ?_|refine zzj (fun _ => ?_) fun _ => ?_))
  (apply WL_callV; rfl; rfl; rfl; (intro W hW; exact ref_isLetter _ W))
  cases hL : isLetterB (s.getD 0 0) with
  | false =>
    (repeat' (first|refine zza ?_|refine zc9 ?_|refine zzb fun w hw => ?_|refine zzh fun _ => ?_|refine zzi fun _ _ => ?_|refine zzj (fun _ => ?_) fun _ => ?_))
    exact ⟨by unfold nameF; rw [if_pos (.inr (by rw [hL]; simp))], hw.below⟩
  | true =>
    have hn : nameF s = if s.all isPartB = false then 1 else if 12 < s.length then 7 else 0 := by unfold nameF; rw [if_neg (fun h => h.elim h0 fun k => k hL)]
    (repeat' (first|refine zza ?_|refine zc9 ?_|refine zzb fun w hw => ?_|refine zzh fun _ => ?_|refine zzi fun _ _ => ?_|refine zzj (fun _ => ?_) fun _ => ?_))
    refine CW_loopP [(0,_)] zcov (fun x : Nat => [(3, .int .i64 x)]) (fun x => x ≤ s.length ∧ s.all isPartB = (s.drop x).all isPartB) (fun x => s.length - x) 0 ⟨Nat.zero_le _, rfl⟩ zcov ?_
    rintro k ⟨hk, hz⟩
    by_cases hlt : k < s.length
    · rw [drop_cons (get_some hlt 0), List.all_cons] at hz
      (repeat' (first|refine zza ?_|refine zc9 ?_|refine zzb fun w hw => ?_|refine zzh fun _ => ?_|refine zzi fun _ _ => ?_|refine zzj (fun _ => ?_) fun _ => ?_))
      (apply WL_callV; rfl; rfl; rfl; (intro W hW; exact ref_isPart _ W))
      cases hp : isPartB (s.getD k 0) with
      | false =>
        rw [hp] at hz
        (repeat' (first|refine zza ?_|refine zc9 ?_|refine zzb fun w hw => ?_|refine zzh fun _ => ?_|refine zzi fun _ _ => ?_|refine zzj (fun _ => ?_) fun _ => ?_))
        exact ⟨by rw [hn, if_pos (by simpa using hz)], hw.below⟩
      | true =>
        rw [hp, Bool.true_and] at hz
        (repeat' (first|refine zza ?_|refine zc9 ?_|refine zzb fun w hw => ?_|refine zzh fun _ => ?_|refine zzi fun _ _ => ?_|refine zzj (fun _ => ?_) fun _ => ?_))
        (refine EX_loop' (k + 1) ?_; (repeat' (first | exact Cov.nil | exact Ent.refl | (apply And.intro) | (apply Cov.cons; rfl) | exact Ent.nil | refine zn1 ?_ | trivial | rfl | assumption | omega | (congr 1; omega))))
    · have hkl : k = s.length := by omega
      subst hkl
      rw [List.drop_length, List.all_nil] at hz
      rw [if_neg (by rw [hz]; simp)] at hn
      by_cases hb : 12 < s.length
      · rw [if_pos hb] at hn
        (repeat' (first|refine zza ?_|refine zc9 ?_|refine zzb fun w hw => ?_|refine zzh fun _ => ?_|refine zzi fun _ _ => ?_|refine zzj (fun _ => ?_) fun _ => ?_))
        exact ⟨by rw [hn], hw.below⟩
      · rw [if_neg hb] at hn
        (repeat' (first|refine zza ?_|refine zc9 ?_|refine zzb fun w hw => ?_|refine zzh fun _ => ?_|refine zzi fun _ _ => ?_|refine zzj (fun _ => ?_) fun _ => ?_))
        exact ⟨by rw [hn], hw.below⟩
set_option maxHeartbeats 2000000 in
set_option maxRecDepth 100000 in
theorem ref_nth (l : List UInt8) (gs : List (List UInt8)) (hl : l = gs.flatten) (hlen : l.length ≤ 1000) (wf : WfS gs) (n : Int) (hn : 1 ≤ n ∧ n ≤ 9223372036854775807) (w : World) :
    Calls Tryz.prog 183 #[.string ⟨l.toArray⟩, .int .i64 n] w fun e w' => e = .returned (.string ⟨(gs.getD (n.toNat - 1) []).toArray⟩) ∧ Below w.heap.size w w' := by
  refine enter (args := [_, _]) (m := []) (F := []) Tryz.func183 rfl Tryz.ntmps183 (by simp) rfl ?_
  (repeat' (first|refine zza ?_|refine zc9 ?_|refine zzb fun w hw => ?_|refine zzh fun _ => ?_|refine zzi fun _ _ => ?_|refine zzj (fun _ => ?_) fun _ => ?_))
  refine CW_loopP [(0,_)] zcov (fun x : Nat => [(5, .int .i64 ((gs.take x).flatten.length : Nat)), (1, .int .i64 (n - x))]) (fun x => x ≤ gs.length ∧ (x : Int) < n) (fun x => gs.length - x) 0 ⟨Nat.zero_le _, by omega⟩ zcov ?_
  rintro j ⟨hj, hjn⟩
  by_cases hlt : j < gs.length
  · have hg := get_some hlt []
    obtain ⟨b, t, hgb, hgl⟩ := wf _ (List.mem_of_getElem? hg)
    have hf := flat_at hg
    have ht := flat_take hg
    rw [← hl] at hf
    generalize hA : (gs.take j).flatten = A at hf ht ⊢
    generalize hB : (gs.drop (j + 1)).flatten = B at hf
    have hll : l.length = A.length + ((gs.getD j []).length + B.length) := by rw [hf]; simp
    have hb : (l.getD A.length 0).toNat = b.toNat := by rw [hf, hgb]; simp
    have hs : (l.take (A.length + (gs.getD j []).length)).drop A.length = gs.getD j [] := by
      rw [hf, ← List.append_assoc, ← List.length_append, List.take_left, List.drop_left]
    have hgp : 1 ≤ (gs.getD j []).length := by rw [hgb]; simp
    have hres : ∀ x : Nat, x = (gs.getD j []).length → n = (j : Int) + 1 → Ending.returned (Value.string ⟨((l.take (A.length + x)).drop A.length).toArray⟩) = .returned (.string ⟨(gs.getD (n.toNat - 1) []).toArray⟩) := by
      rintro x rfl hnj
      rw [hs, show n.toNat - 1 = j by omega]
    unfold longB at hgl
    by_cases hnj : n = (j : Int) + 1
    · have hcont : n - (j : Int) - 1 = 0 := by omega
      by_cases h3 : 224 ≤ b.toNat
      · rw [if_pos h3] at hgl
        (repeat' (first|refine zza ?_|refine zc9 ?_|refine zzb fun w hw => ?_|refine zzh fun _ => ?_|refine zzi fun _ _ => ?_|refine zzj (fun _ => ?_) fun _ => ?_))
        refine CW_seq ?_
        (repeat' (first|refine zza ?_|refine zc9 ?_|refine zzb fun w hw => ?_|refine zzh fun _ => ?_|refine zzi fun _ _ => ?_|refine zzj (fun _ => ?_) fun _ => ?_))
        exact ⟨hres 3 (by omega) hnj, hw.below⟩
      by_cases h2 : 192 ≤ b.toNat
      · rw [if_neg h3, if_pos h2] at hgl
        (repeat' (first|refine zza ?_|refine zc9 ?_|refine zzb fun w hw => ?_|refine zzh fun _ => ?_|refine zzi fun _ _ => ?_|refine zzj (fun _ => ?_) fun _ => ?_))
        refine CW_seq ?_
        (repeat' (first|refine zza ?_|refine zc9 ?_|refine zzb fun w hw => ?_|refine zzh fun _ => ?_|refine zzi fun _ _ => ?_|refine zzj (fun _ => ?_) fun _ => ?_))
        exact ⟨hres 2 (by omega) hnj, hw.below⟩
      · rw [if_neg h3, if_neg h2] at hgl
        (repeat' (first|refine zza ?_|refine zc9 ?_|refine zzb fun w hw => ?_|refine zzh fun _ => ?_|refine zzi fun _ _ => ?_|refine zzj (fun _ => ?_) fun _ => ?_))
        refine CW_seq ?_
        (repeat' (first|refine zza ?_|refine zc9 ?_|refine zzb fun w hw => ?_|refine zzh fun _ => ?_|refine zzi fun _ _ => ?_|refine zzj (fun _ => ?_) fun _ => ?_))
        exact ⟨hres 1 (by omega) hnj, hw.below⟩
    · have hcont : ¬ n - (j : Int) - 1 = 0 := by omega
      by_cases h3 : 224 ≤ b.toNat
      · rw [if_pos h3] at hgl
        (repeat' (first|refine zza ?_|refine zc9 ?_|refine zzb fun w hw => ?_|refine zzh fun _ => ?_|refine zzi fun _ _ => ?_|refine zzj (fun _ => ?_) fun _ => ?_))
        refine CW_seq ?_
        (repeat' (first|refine zza ?_|refine zc9 ?_|refine zzb fun w hw => ?_|refine zzh fun _ => ?_|refine zzi fun _ _ => ?_|refine zzj (fun _ => ?_) fun _ => ?_))
        refine EX_loop' (j + 1) ⟨?_, Ent.refl, by omega, by omega, by omega⟩
        rw [ht]
        exact zcov
      by_cases h2 : 192 ≤ b.toNat
      · rw [if_neg h3, if_pos h2] at hgl
        (repeat' (first|refine zza ?_|refine zc9 ?_|refine zzb fun w hw => ?_|refine zzh fun _ => ?_|refine zzi fun _ _ => ?_|refine zzj (fun _ => ?_) fun _ => ?_))
        refine CW_seq ?_
        (repeat' (first|refine zza ?_|refine zc9 ?_|refine zzb fun w hw => ?_|refine zzh fun _ => ?_|refine zzi fun _ _ => ?_|refine zzj (fun _ => ?_) fun _ => ?_))
        refine EX_loop' (j + 1) ⟨?_, Ent.refl, by omega, by omega, by omega⟩
        rw [ht]
        exact zcov
      · rw [if_neg h3, if_neg h2] at hgl
        (repeat' (first|refine zza ?_|refine zc9 ?_|refine zzb fun w hw => ?_|refine zzh fun _ => ?_|refine zzi fun _ _ => ?_|refine zzj (fun _ => ?_) fun _ => ?_))
        refine CW_seq ?_
        (repeat' (first|refine zza ?_|refine zc9 ?_|refine zzb fun w hw => ?_|refine zzh fun _ => ?_|refine zzi fun _ _ => ?_|refine zzj (fun _ => ?_) fun _ => ?_))
        refine EX_loop' (j + 1) ⟨?_, Ent.refl, by omega, by omega, by omega⟩
        rw [ht]
        exact zcov
  · have hjl : j = gs.length := by omega
    subst hjl
    have hE : (gs.take gs.length).flatten.length = l.length := by rw [List.take_length, hl]
    rw [hE]
    (repeat' (first|refine zza ?_|refine zc9 ?_|refine zzb fun w hw => ?_|refine zzh fun _ => ?_|refine zzi fun _ _ => ?_|refine zzj (fun _ => ?_) fun _ => ?_))
    refine ⟨?_, hw.below⟩
    rw [List.getD_eq_getElem?_getD, List.getElem?_eq_none (by omega)]; rfl
end Go.Proofs.YtngeooflfkpikaaGreatDoor
namespace Go.Proofs.YtngeooflfkpikaaGreatDoor
open Go.RowKit
theorem dbl_take {l : List UInt8} {k : Nat} (h : k < l.length) : dblQ (l.take (k + 1)) = dblQ (l.take k) ++ dblQ [l.getD k 0] := by
  have key : ∀ (a b : List UInt8), dblQ (a ++ b) = dblQ a ++ dblQ b := by
    intro a b
    induction a with
    | nil => rfl
    | cons x a ih => rw [List.cons_append, dblQ, dblQ, ih]; split <;> rfl
  rw [← key, List.take_add_one, List.getElem?_eq_getElem h]; simp [h]
set_option maxHeartbeats 1000000 in
set_option maxRecDepth 100000 in
theorem ref_Spelt1 (fn num at' : Int) (text : List UInt8) (hn : I64 num) (w : World) : Calls Tryz.prog 81 #[.agg #[.int .i64 1, .int .i64 fn, .int .i64 num, .string ⟨text.toArray⟩, .int .i64 at']] w fun e w' => e = .returned (.tuple #[.string ⟨(speltF ⟨1, fn, num, text, at'⟩).1.toArray⟩, .int .i64 (speltF ⟨1, fn, num, text, at'⟩).2]) ∧ Below w.heap.size w w' := by
  by_cases h1 : fn = 0
  · by_cases h2 : text = []
    · subst h1; subst h2
      refine enter (args := [_]) (m := []) (F := []) Tryz.func81 rfl Tryz.ntmps81 (by simp) rfl ?_
      (repeat' (first|refine zza ?_|refine zc9 ?_|refine zzb fun w hw => ?_|refine zzh fun _ => ?_|refine zzi fun _ _ => ?_|refine zzj (fun _ => ?_) fun _ => ?_))
      (apply WL_callV; rfl; rfl; rfl; (intro W hW; exact (ref_digits num hn W).mono fun e w' h => ⟨h.1, h.2 ▸ Below.refl _ _⟩))
      (repeat' (first|refine zza ?_|refine zc9 ?_|refine zzb fun w hw => ?_|refine zzh fun _ => ?_|refine zzi fun _ _ => ?_|refine zzj (fun _ => ?_) fun _ => ?_))
      exact ⟨by rw [spelt_1g], hw.below⟩
    · subst h1
      refine enter (args := [_]) (m := []) (F := []) Tryz.func81 rfl Tryz.ntmps81 (by simp) rfl ?_
      (repeat' (first|refine zza ?_|refine zc9 ?_|refine zzb fun w hw => ?_|refine zzh fun _ => ?_|refine zzi fun _ _ => ?_|refine zzj (fun _ => ?_) fun _ => ?_))
      exact ⟨by rw [spelt_1b (fun h => h2 h.2)], hw.below⟩
  · have hb : ¬ (fn = 0 ∧ text = []) := fun h => h1 h.1
    refine enter (args := [_]) (m := []) (F := []) Tryz.func81 rfl Tryz.ntmps81 (by simp) rfl ?_
    (repeat' (first|refine zza ?_|refine zc9 ?_|refine zzb fun w hw => ?_|refine zzh fun _ => ?_|refine zzi fun _ _ => ?_|refine zzj (fun _ => ?_) fun _ => ?_))
    exact ⟨by rw [spelt_1b hb], hw.below⟩
set_option maxHeartbeats 1000000 in
set_option maxRecDepth 100000 in
theorem ref_Spelt2 (fn num at' : Int) (text : List UInt8) (hl : text.length ≤ 4294967280) (w : World) : Calls Tryz.prog 81 #[.agg #[.int .i64 2, .int .i64 fn, .int .i64 num, .string ⟨text.toArray⟩, .int .i64 at']] w fun e w' => e = .returned (.tuple #[.string ⟨(speltF ⟨2, fn, num, text, at'⟩).1.toArray⟩, .int .i64 (speltF ⟨2, fn, num, text, at'⟩).2]) ∧ Below w.heap.size w w' := by
  have hd := dblQ_len text
  by_cases h1 : num = 0
  · by_cases h2 : fn = 0
    · subst h1; subst h2
      cases hq : quotF text with
      | false =>
        refine enter (args := [_]) (m := []) (F := []) Tryz.func81 rfl Tryz.ntmps81 (by simp) rfl ?_
        (repeat' (first|refine zza ?_|refine zc9 ?_|refine zzb fun w hw => ?_|refine zzh fun _ => ?_|refine zzi fun _ _ => ?_|refine zzj (fun _ => ?_) fun _ => ?_))
        (apply WL_callV; rfl; rfl; rfl; (intro W hW; exact ref_Quotable text hl W))
        rw [hq]
        (repeat' (first|refine zza ?_|refine zc9 ?_|refine zzb fun w hw => ?_|refine zzh fun _ => ?_|refine zzi fun _ _ => ?_|refine zzj (fun _ => ?_) fun _ => ?_))
        exact ⟨by rw [spelt_2q hq], hw.below⟩
      | true =>
        refine enter (args := [_]) (m := []) (F := []) Tryz.func81 rfl Tryz.ntmps81 (by simp) rfl ?_
        (repeat' (first|refine zza ?_|refine zc9 ?_|refine zzb fun w hw => ?_|refine zzh fun _ => ?_|refine zzi fun _ _ => ?_|refine zzj (fun _ => ?_) fun _ => ?_))
        (apply WL_callV; rfl; rfl; rfl; (intro W hW; exact ref_Quotable text hl W))
        rw [hq]
        (repeat' (first|refine zza ?_|refine zc9 ?_|refine zzb fun w hw => ?_|refine zzh fun _ => ?_|refine zzi fun _ _ => ?_|refine zzj (fun _ => ?_) fun _ => ?_))
        rename_i b1
        refine CW_loopP [(1,_)] zcov (fun x : Nat => [(5, .int .i64 x), (4, .string ⟨(39 :: dblQ (text.take x)).toArray⟩)]) (fun x => x ≤ text.length) (fun x => text.length - x) 0 (Nat.zero_le _) zcov ?_
        rintro k hk
        by_cases hlt : k < text.length
        · have e1 := one_part hlt
          have e2 := dbl_take hlt
          have hdk := dblQ_len (text.take k)
          have htk : (text.take k).length ≤ k := by simp; omega
          by_cases h39 : text.getD k 0 = 39
          · have h39n : (text.getD k 0).toNat = 39 := by rw [h39]; rfl
            (repeat' (first|refine zza ?_|refine zc9 ?_|refine zzb fun w hw => ?_|refine zzh fun _ => ?_|refine zzi fun _ _ => ?_|refine zzj (fun _ => ?_) fun _ => ?_))
            refine EX_loop' (k + 1) ⟨?_, Ent.refl, by omega, by omega⟩
            rw [e2, h39, show dblQ [39] = [39, 39] from rfl]
            rw [e1, h39]
            exact (by repeat (first | exact Cov.nil | refine Cov.cons rfl (by first | rfl | (congr 1; omega) | assumption | (simp; done) | simp) ?_))
          · have h39n : ¬ (text.getD k 0).toNat = 39 := fun h => h39 (UInt8.toNat_inj.1 h)
            (repeat' (first|refine zza ?_|refine zc9 ?_|refine zzb fun w hw => ?_|refine zzh fun _ => ?_|refine zzi fun _ _ => ?_|refine zzj (fun _ => ?_) fun _ => ?_))
            refine EX_loop' (k + 1) ⟨?_, Ent.refl, by omega, by omega⟩
            rw [e2, show dblQ [text.getD k 0] = [text.getD k 0] by rw [dblQ, if_neg h39]; rfl]
            rw [e1]
            exact (by repeat (first | exact Cov.nil | refine Cov.cons rfl (by first | rfl | (congr 1; omega) | assumption | (simp; done) | simp) ?_))
        · have hkl : k = text.length := by omega
          subst hkl
          rw [List.take_length]
          (repeat' (first|refine zza ?_|refine zc9 ?_|refine zzb fun w hw => ?_|refine zzh fun _ => ?_|refine zzi fun _ _ => ?_|refine zzj (fun _ => ?_) fun _ => ?_))
          exact ⟨by rw [spelt_2g hq], hw.below⟩
    · subst h1
      refine enter (args := [_]) (m := []) (F := []) Tryz.func81 rfl Tryz.ntmps81 (by simp) rfl ?_
      (repeat' (first|refine zza ?_|refine zc9 ?_|refine zzb fun w hw => ?_|refine zzh fun _ => ?_|refine zzi fun _ _ => ?_|refine zzj (fun _ => ?_) fun _ => ?_))
      exact ⟨by rw [spelt_2b (fun h => h2 h.1)], hw.below⟩
  · have hb : ¬ (fn = 0 ∧ num = 0) := fun h => h1 h.2
    refine enter (args := [_]) (m := []) (F := []) Tryz.func81 rfl Tryz.ntmps81 (by simp) rfl ?_
    (repeat' (first|refine zza ?_|refine zc9 ?_|refine zzb fun w hw => ?_|refine zzh fun _ => ?_|refine zzi fun _ _ => ?_|refine zzj (fun _ => ?_) fun _ => ?_))
    exact ⟨by rw [spelt_2b hb], hw.below⟩
set_option maxHeartbeats 1000000 in
set_option maxRecDepth 100000 in
theorem ref_Spelt3 (fn num at' : Int) (text : List UInt8) (hl : text.length ≤ 4294967280) (w : World) : Calls Tryz.prog 81 #[.agg #[.int .i64 3, .int .i64 fn, .int .i64 num, .string ⟨text.toArray⟩, .int .i64 at']] w fun e w' => e = .returned (.tuple #[.string ⟨(speltF ⟨3, fn, num, text, at'⟩).1.toArray⟩, .int .i64 (speltF ⟨3, fn, num, text, at'⟩).2]) ∧ Below w.heap.size w w' := by
  by_cases h1 : num = 0
  · by_cases h2 : fn = 0
    · subst h1; subst h2
      refine enter (args := [_]) (m := []) (F := []) Tryz.func81 rfl Tryz.ntmps81 (by simp) rfl ?_
      (repeat' (first|refine zza ?_|refine zc9 ?_|refine zzb fun w hw => ?_|refine zzh fun _ => ?_|refine zzi fun _ _ => ?_|refine zzj (fun _ => ?_) fun _ => ?_))
      (apply WQ_callV; rfl; rfl; rfl; (intro W hW; exact ref_NameFault text hl W))
      (repeat' (first|refine zza ?_|refine zc9 ?_|refine zzb fun w hw => ?_|refine zzh fun _ => ?_|refine zzi fun _ _ => ?_|refine zzj (fun _ => ?_) fun _ => ?_))
      exact ⟨by rw [spelt_3g], hw.below⟩
    · subst h1
      refine enter (args := [_]) (m := []) (F := []) Tryz.func81 rfl Tryz.ntmps81 (by simp) rfl ?_
      (repeat' (first|refine zza ?_|refine zc9 ?_|refine zzb fun w hw => ?_|refine zzh fun _ => ?_|refine zzi fun _ _ => ?_|refine zzj (fun _ => ?_) fun _ => ?_))
      exact ⟨by rw [spelt_3b (fun h => h2 h.1)], hw.below⟩
  · have hb : ¬ (fn = 0 ∧ num = 0) := fun h => h1 h.2
    refine enter (args := [_]) (m := []) (F := []) Tryz.func81 rfl Tryz.ntmps81 (by simp) rfl ?_
    (repeat' (first|refine zza ?_|refine zc9 ?_|refine zzb fun w hw => ?_|refine zzh fun _ => ?_|refine zzi fun _ _ => ?_|refine zzj (fun _ => ?_) fun _ => ?_))
    exact ⟨by rw [spelt_3b hb], hw.below⟩
set_option maxHeartbeats 1000000 in
set_option maxRecDepth 100000 in
theorem ref_Spelt4 (fn num at' : Int) (text : List UInt8) (hf : I64 fn) (w : World) : Calls Tryz.prog 81 #[.agg #[.int .i64 4, .int .i64 fn, .int .i64 num, .string ⟨text.toArray⟩, .int .i64 at']] w fun e w' => e = .returned (.tuple #[.string ⟨(speltF ⟨4, fn, num, text, at'⟩).1.toArray⟩, .int .i64 (speltF ⟨4, fn, num, text, at'⟩).2]) ∧ Below w.heap.size w w' := by
  by_cases h1 : num = 0
  · by_cases h2 : text = []
    · subst h1; subst h2
      by_cases h3 : 1 ≤ fn
      · have hT : glyphT fn = glyphsB.getD (fn.toNat - 1) [] := by unfold glyphT; rw [if_pos h3]
        by_cases hg : glyphT fn = []
        · rw [hg] at hT
          refine enter (args := [_]) (m := []) (F := []) Tryz.func81 rfl Tryz.ntmps81 (by simp) rfl ?_
          (repeat' (first|refine zza ?_|refine zc9 ?_|refine zzb fun w hw => ?_|refine zzh fun _ => ?_|refine zzi fun _ _ => ?_|refine zzj (fun _ => ?_) fun _ => ?_))
          refine CW_seq ?_
          (repeat' (first|refine zza ?_|refine zc9 ?_|refine zzb fun w hw => ?_|refine zzh fun _ => ?_|refine zzi fun _ _ => ?_|refine zzj (fun _ => ?_) fun _ => ?_))
          (apply WL_callV; rfl; rfl; rfl; (intro W hW; exact ref_nth _ glyphsB (by decide +kernel) (by decide +kernel) wfG fn ⟨h3, hf.2⟩ W))
          rw [← hT]
          (repeat' (first|refine zza ?_|refine zc9 ?_|refine zzb fun w hw => ?_|refine zzh fun _ => ?_|refine zzi fun _ _ => ?_|refine zzj (fun _ => ?_) fun _ => ?_))
          refine CW_seq ?_
          (repeat' (first|refine zza ?_|refine zc9 ?_|refine zzb fun w hw => ?_|refine zzh fun _ => ?_|refine zzi fun _ _ => ?_|refine zzj (fun _ => ?_) fun _ => ?_))
          exact ⟨by rw [spelt_4g, if_pos hg], hw.below⟩
        · have _ := hT
          refine enter (args := [_]) (m := []) (F := []) Tryz.func81 rfl Tryz.ntmps81 (by simp) rfl ?_
          (repeat' (first|refine zza ?_|refine zc9 ?_|refine zzb fun w hw => ?_|refine zzh fun _ => ?_|refine zzi fun _ _ => ?_|refine zzj (fun _ => ?_) fun _ => ?_))
          refine CW_seq ?_
          (repeat' (first|refine zza ?_|refine zc9 ?_|refine zzb fun w hw => ?_|refine zzh fun _ => ?_|refine zzi fun _ _ => ?_|refine zzj (fun _ => ?_) fun _ => ?_))
          (apply WL_callV; rfl; rfl; rfl; (intro W hW; exact ref_nth _ glyphsB (by decide +kernel) (by decide +kernel) wfG fn ⟨h3, hf.2⟩ W))
          rw [← hT]
          (repeat' (first|refine zza ?_|refine zc9 ?_|refine zzb fun w hw => ?_|refine zzh fun _ => ?_|refine zzi fun _ _ => ?_|refine zzj (fun _ => ?_) fun _ => ?_))
          refine CW_seq ?_
          (repeat' (first|refine zza ?_|refine zc9 ?_|refine zzb fun w hw => ?_|refine zzh fun _ => ?_|refine zzi fun _ _ => ?_|refine zzj (fun _ => ?_) fun _ => ?_))
          exact ⟨by rw [spelt_4g, if_neg hg], hw.below⟩
      · have hg : glyphT fn = [] := by unfold glyphT; rw [if_neg h3]
        refine enter (args := [_]) (m := []) (F := []) Tryz.func81 rfl Tryz.ntmps81 (by simp) rfl ?_
        (repeat' (first|refine zza ?_|refine zc9 ?_|refine zzb fun w hw => ?_|refine zzh fun _ => ?_|refine zzi fun _ _ => ?_|refine zzj (fun _ => ?_) fun _ => ?_))
        refine CW_seq ?_
        (repeat' (first|refine zza ?_|refine zc9 ?_|refine zzb fun w hw => ?_|refine zzh fun _ => ?_|refine zzi fun _ _ => ?_|refine zzj (fun _ => ?_) fun _ => ?_))
        refine CW_seq ?_
        (repeat' (first|refine zza ?_|refine zc9 ?_|refine zzb fun w hw => ?_|refine zzh fun _ => ?_|refine zzi fun _ _ => ?_|refine zzj (fun _ => ?_) fun _ => ?_))
        exact ⟨by rw [spelt_4g, if_pos hg], hw.below⟩
    · subst h1
      refine enter (args := [_]) (m := []) (F := []) Tryz.func81 rfl Tryz.ntmps81 (by simp) rfl ?_
      (repeat' (first|refine zza ?_|refine zc9 ?_|refine zzb fun w hw => ?_|refine zzh fun _ => ?_|refine zzi fun _ _ => ?_|refine zzj (fun _ => ?_) fun _ => ?_))
      exact ⟨by rw [spelt_4b (fun h => h2 h.2)], hw.below⟩
  · have hb : ¬ (num = 0 ∧ text = []) := fun h => h1 h.1
    refine enter (args := [_]) (m := []) (F := []) Tryz.func81 rfl Tryz.ntmps81 (by simp) rfl ?_
    (repeat' (first|refine zza ?_|refine zc9 ?_|refine zzb fun w hw => ?_|refine zzh fun _ => ?_|refine zzi fun _ _ => ?_|refine zzj (fun _ => ?_) fun _ => ?_))
    exact ⟨by rw [spelt_4b hb], hw.below⟩
set_option maxHeartbeats 1000000 in
set_option maxRecDepth 100000 in
theorem ref_Spelt5 (kind fn num at' : Int) (text : List UInt8) (hk : kind ≠ 1 ∧ kind ≠ 2 ∧ kind ≠ 3 ∧ kind ≠ 4) (w : World) : Calls Tryz.prog 81 #[.agg #[.int .i64 kind, .int .i64 fn, .int .i64 num, .string ⟨text.toArray⟩, .int .i64 at']] w fun e w' => e = .returned (.tuple #[.string ⟨(speltF ⟨kind, fn, num, text, at'⟩).1.toArray⟩, .int .i64 (speltF ⟨kind, fn, num, text, at'⟩).2]) ∧ Below w.heap.size w w' := by
  obtain ⟨k1, k2, k3, k4⟩ := hk
  have hk : kind ≠ 1 ∧ kind ≠ 2 ∧ kind ≠ 3 ∧ kind ≠ 4 := ⟨k1, k2, k3, k4⟩
  by_cases h1 : num = 0
  · by_cases h2 : fn = 0
    · by_cases h3 : text = []
      · subst h1; subst h2; subst h3
        by_cases h5 : 5 ≤ kind
        · by_cases h20 : kind ≤ 20
          · have hS : signT kind = signsB.getD ((kind - 5 + 1).toNat - 1) [] := by unfold signT; rw [if_pos h5, show (kind - 5 + 1).toNat - 1 = kind.toNat - 5 by omega]
            have hg := (encode_sign ⟨h5, h20⟩).1
            refine enter (args := [_]) (m := []) (F := []) Tryz.func81 rfl Tryz.ntmps81 (by simp) rfl ?_
            (repeat' (first|refine zza ?_|refine zc9 ?_|refine zzb fun w hw => ?_|refine zzh fun _ => ?_|refine zzi fun _ _ => ?_|refine zzj (fun _ => ?_) fun _ => ?_))
            refine CW_seq ?_
            (repeat' (first|refine zza ?_|refine zc9 ?_|refine zzb fun w hw => ?_|refine zzh fun _ => ?_|refine zzi fun _ _ => ?_|refine zzj (fun _ => ?_) fun _ => ?_))
            refine CW_seq ?_
            (repeat' (first|refine zza ?_|refine zc9 ?_|refine zzb fun w hw => ?_|refine zzh fun _ => ?_|refine zzi fun _ _ => ?_|refine zzj (fun _ => ?_) fun _ => ?_))
            (apply WL_callV; rfl; rfl; rfl; (intro W hW; exact ref_nth _ signsB (by decide +kernel) (by decide +kernel) wfS (kind - 5 + 1) (by omega) W))
            rw [← hS]
            (repeat' (first|refine zza ?_|refine zc9 ?_|refine zzb fun w hw => ?_|refine zzh fun _ => ?_|refine zzi fun _ _ => ?_|refine zzj (fun _ => ?_) fun _ => ?_))
            exact ⟨by rw [spelt_5g hk, if_neg hg], hw.below⟩
          · have hg : signT kind = [] := signT_out (by omega)
            refine enter (args := [_]) (m := []) (F := []) Tryz.func81 rfl Tryz.ntmps81 (by simp) rfl ?_
            (repeat' (first|refine zza ?_|refine zc9 ?_|refine zzb fun w hw => ?_|refine zzh fun _ => ?_|refine zzi fun _ _ => ?_|refine zzj (fun _ => ?_) fun _ => ?_))
            refine CW_seq ?_
            (repeat' (first|refine zza ?_|refine zc9 ?_|refine zzb fun w hw => ?_|refine zzh fun _ => ?_|refine zzi fun _ _ => ?_|refine zzj (fun _ => ?_) fun _ => ?_))
            refine CW_seq ?_
            (repeat' (first|refine zza ?_|refine zc9 ?_|refine zzb fun w hw => ?_|refine zzh fun _ => ?_|refine zzi fun _ _ => ?_|refine zzj (fun _ => ?_) fun _ => ?_))
            exact ⟨by rw [spelt_5g hk, if_pos hg], hw.below⟩
        · have hg : signT kind = [] := signT_out (by omega)
          refine enter (args := [_]) (m := []) (F := []) Tryz.func81 rfl Tryz.ntmps81 (by simp) rfl ?_
          (repeat' (first|refine zza ?_|refine zc9 ?_|refine zzb fun w hw => ?_|refine zzh fun _ => ?_|refine zzi fun _ _ => ?_|refine zzj (fun _ => ?_) fun _ => ?_))
          refine CW_seq ?_
          (repeat' (first|refine zza ?_|refine zc9 ?_|refine zzb fun w hw => ?_|refine zzh fun _ => ?_|refine zzi fun _ _ => ?_|refine zzj (fun _ => ?_) fun _ => ?_))
          refine CW_seq ?_
          (repeat' (first|refine zza ?_|refine zc9 ?_|refine zzb fun w hw => ?_|refine zzh fun _ => ?_|refine zzi fun _ _ => ?_|refine zzj (fun _ => ?_) fun _ => ?_))
          exact ⟨by rw [spelt_5g hk, if_pos hg], hw.below⟩
      · have hb : ¬ (fn = 0 ∧ num = 0 ∧ text = []) := fun h => h3 h.2.2
        subst h1; subst h2
        refine enter (args := [_]) (m := []) (F := []) Tryz.func81 rfl Tryz.ntmps81 (by simp) rfl ?_
        (repeat' (first|refine zza ?_|refine zc9 ?_|refine zzb fun w hw => ?_|refine zzh fun _ => ?_|refine zzi fun _ _ => ?_|refine zzj (fun _ => ?_) fun _ => ?_))
        exact ⟨by rw [spelt_5b hk hb], hw.below⟩
    · have hb : ¬ (fn = 0 ∧ num = 0 ∧ text = []) := fun h => h2 h.1
      subst h1
      refine enter (args := [_]) (m := []) (F := []) Tryz.func81 rfl Tryz.ntmps81 (by simp) rfl ?_
      (repeat' (first|refine zza ?_|refine zc9 ?_|refine zzb fun w hw => ?_|refine zzh fun _ => ?_|refine zzi fun _ _ => ?_|refine zzj (fun _ => ?_) fun _ => ?_))
      exact ⟨by rw [spelt_5b hk hb], hw.below⟩
  · have hb : ¬ (fn = 0 ∧ num = 0 ∧ text = []) := fun h => h1 h.2.1
    refine enter (args := [_]) (m := []) (F := []) Tryz.func81 rfl Tryz.ntmps81 (by simp) rfl ?_
    (repeat' (first|refine zza ?_|refine zc9 ?_|refine zzb fun w hw => ?_|refine zzh fun _ => ?_|refine zzi fun _ _ => ?_|refine zzj (fun _ => ?_) fun _ => ?_))
    exact ⟨by rw [spelt_5b hk hb], hw.below⟩
theorem ref_Spelt (t : Tok) (hn : I64 t.num) (hf : I64 t.fn) (hl : t.text.length ≤ 4294967280) (w : World) : Calls Tryz.prog 81 #[.agg (tokE t).toArray] w fun e w' => e = .returned (.tuple #[.string ⟨(speltF t).1.toArray⟩, .int .i64 (speltF t).2]) ∧ Below w.heap.size w w' := by
  obtain ⟨kind, fn, num, text, at'⟩ := t
  by_cases h1 : kind = 1
  · subst h1; exact ref_Spelt1 fn num at' text hn w
  by_cases h2 : kind = 2
  · subst h2; exact ref_Spelt2 fn num at' text hl w
  by_cases h3 : kind = 3
  · subst h3; exact ref_Spelt3 fn num at' text hl w
  by_cases h4 : kind = 4
  · subst h4; exact ref_Spelt4 fn num at' text hf w
  · exact ref_Spelt5 kind fn num at' text ⟨h1, h2, h3, h4⟩ w
end Go.Proofs.YtngeooflfkpikaaGreatDoor
namespace Go.Proofs.YtngeooflfkpikaaGreatDoor
open Go.RowKit
/-- what is told of a word alone -/
def aloneF (t : Tok) : Int := if (speltF t).2 = 0 then (if 1000 < (speltF t).1.length then 7 else 0) else (speltF t).2
theorem alone_spell (t : Tok) : (spellF [t]).2 = aloneF t := by
  unfold spellF aloneF
  rw [if_neg (by simp)]
  have he : errF [t] = (speltF t).2 := by
    unfold errF
    by_cases h : (speltF t).2 = 0
    · rw [if_pos h, h]; rfl
    · rw [if_neg h]
  have hj : Lib.join (textsF [t]) [32] = (speltF t).1 := by
    unfold textsF
    simp [Lib.join]
  rw [he, hj]
  by_cases h : (speltF t).2 = 0
  · rw [h, if_neg (by simp), if_pos rfl]
    split <;> rfl
  · rw [if_pos h, if_neg h]
set_option maxHeartbeats 2000000 in
set_option maxRecDepth 100000 in
theorem ref_Alone (t : Tok) (hn : I64 t.num) (hf : I64 t.fn) (hl : t.text.length ≤ 4294967280) (w : World) : Calls Tryz.prog 34 #[.agg #[.int .i64 t.kind, .int .i64 t.fn, .int .i64 t.num, .string ⟨t.text.toArray⟩, .int .i64 t.at_]] w fun e w' => e = .returned (.int .i64 (aloneF t)) ∧ Below w.heap.size w w' := by
  have hS := fun W => ref_Spelt t hn hf hl W
  have hsl := spelt_len hn hl
  refine enter (args := [_]) (m := []) (F := []) Tryz.func34 rfl Tryz.ntmps34 (by simp) rfl ?_
  (repeat' (first|refine zza ?_|refine zc9 ?_|refine zzb fun w hw => ?_|refine zzh fun _ => ?_|refine zzi fun _ _ => ?_|refine zzj (fun _ => ?_) fun _ => ?_))
  (apply WL_callV; rfl; rfl; rfl; (intro W hW; exact hS W))
  have hA : aloneF t = if (speltF t).2 = 0 then (if 1000 < (speltF t).1.length then 7 else 0) else (speltF t).2 := rfl
  by_cases h : (speltF t).2 = 0
  · rw [if_pos h] at hA
    rw [h]
    by_cases h1 : 1000 < (speltF t).1.length
    · rw [if_pos h1] at hA
      (repeat' (first|refine zza ?_|refine zc9 ?_|refine zzb fun w hw => ?_|refine zzh fun _ => ?_|refine zzi fun _ _ => ?_|refine zzj (fun _ => ?_) fun _ => ?_))
      (try refine CW_seq ?_)
      (repeat' (first|refine zza ?_|refine zc9 ?_|refine zzb fun w hw => ?_|refine zzh fun _ => ?_|refine zzi fun _ _ => ?_|refine zzj (fun _ => ?_) fun _ => ?_))
      exact ⟨by rw [hA] <;> rfl, hw.below⟩
    · rw [if_neg h1] at hA
      (repeat' (first|refine zza ?_|refine zc9 ?_|refine zzb fun w hw => ?_|refine zzh fun _ => ?_|refine zzi fun _ _ => ?_|refine zzj (fun _ => ?_) fun _ => ?_))
      (try refine CW_seq ?_)
      (repeat' (first|refine zza ?_|refine zc9 ?_|refine zzb fun w hw => ?_|refine zzh fun _ => ?_|refine zzi fun _ _ => ?_|refine zzj (fun _ => ?_) fun _ => ?_))
      exact ⟨by rw [hA] <;> rfl, hw.below⟩
  · rw [if_neg h] at hA
    (repeat' (first|refine zza ?_|refine zc9 ?_|refine zzb fun w hw => ?_|refine zzh fun _ => ?_|refine zzi fun _ _ => ?_|refine zzj (fun _ => ?_) fun _ => ?_))
    (try refine CW_seq ?_)
    (repeat' (first|refine zza ?_|refine zc9 ?_|refine zzb fun w hw => ?_|refine zzh fun _ => ?_|refine zzi fun _ _ => ?_|refine zzj (fun _ => ?_) fun _ => ?_))
    exact ⟨by rw [hA] <;> rfl, hw.below⟩
end Go.Proofs.YtngeooflfkpikaaGreatDoor
