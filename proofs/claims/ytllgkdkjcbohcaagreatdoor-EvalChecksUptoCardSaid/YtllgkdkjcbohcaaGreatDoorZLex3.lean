/-
  lex: letters, digits, names, signs: what the program's tests tell.
  lex.named, lex.printed: names, texts between quotes.
  lex.glyphOf, signOf: the signs of functions and of kinds.
  lex.spelt: a word's text.
-/
import Derived.Test.YtllgkdkjcbohcaaGreatDoorZLexPlain
import Derived.Test.YtllgkdkjcbohcaaGreatDoorZInst
import Derived.Test.YtllgkdkjcbohcaaGreatDoorZGo
import Derived.Test.YtllgkdkjcbohcaaGreatDoorZGlob
namespace Go.Proofs.YtllgkdkjcbohcaaGreatDoor
open Go.RowKit
/-- a word's cells -/
def tokE (t : Tok) : List Value := [.int .i64 t.kind, .int .i64 t.fn, .int .i64 t.num, .string ⟨t.text.toArray⟩, .int .i64 t.at_]
theorem lex_digit (b : UInt8) (w : World) : Calls Tryz.prog 260 #[.int .u8 (b.toNat : Int)] w fun e w' => e = .returned (.bool (isDigitB b)) ∧ Below w.heap.size w w' := by
  refine enter (args := [_]) (m := []) (F := []) Tryz.func260 rfl Tryz.ntmps260 (by simp) rfl ?_
  (repeat' (first|refine zza ?_|refine zc9 ?_|refine zzb fun w hw => ?_|refine zzh fun _ => ?_|refine zzi fun _ _ => ?_|refine zzj (fun _ => ?_) fun _ => ?_))
  all_goals (refine ⟨congrArg (fun b => Ending.returned (.bool b)) ?_, hw.below⟩; rw [Bool.eq_iff_iff]; simp [isDigitB]; try omega)
theorem lex_letter (b : UInt8) (w : World) : Calls Tryz.prog 237 #[.int .u8 (b.toNat : Int)] w fun e w' => e = .returned (.bool (isLetterB b)) ∧ Below w.heap.size w w' := by
  refine enter (args := [_]) (m := []) (F := []) Tryz.func237 rfl Tryz.ntmps237 (by simp) rfl ?_
  (repeat' (first|refine zza ?_|refine zc9 ?_|refine zzb fun w hw => ?_|refine zzh fun _ => ?_|refine zzi fun _ _ => ?_|refine zzj (fun _ => ?_) fun _ => ?_))
  all_goals (refine ⟨congrArg (fun b => Ending.returned (.bool b)) ?_, hw.below⟩; rw [Bool.eq_iff_iff]; simp [isLetterB]; try omega)
theorem lex_within (b : UInt8) (w : World) : Calls Tryz.prog 238 #[.int .u8 (b.toNat : Int)] w fun e w' => e = .returned (.bool (isPartB b)) ∧ Below w.heap.size w w' := by
  refine enter (args := [_]) (m := []) (F := []) Tryz.func238 rfl Tryz.ntmps238 (by simp) rfl ?_
  (repeat' (first|refine zza ?_|refine zc9 ?_|refine zzb fun w hw => ?_|refine zzh fun _ => ?_|refine zzi fun _ _ => ?_|refine zzj (fun _ => ?_) fun _ => ?_))
  (apply WL_callV; rfl; rfl; rfl; (intro W hW; exact lex_letter b W))
  cases hl : isLetterB b with
  | true =>
    (repeat' (first|refine zza ?_|refine zc9 ?_|refine zzb fun w hw => ?_|refine zzh fun _ => ?_|refine zzi fun _ _ => ?_|refine zzj (fun _ => ?_) fun _ => ?_))
    exact ⟨by simp [isPartB, hl], hw.below⟩
  | false =>
    (repeat' (first|refine zza ?_|refine zc9 ?_|refine zzb fun w hw => ?_|refine zzh fun _ => ?_|refine zzi fun _ _ => ?_|refine zzj (fun _ => ?_) fun _ => ?_))
    (apply WL_callV; rfl; rfl; rfl; (intro W hW; exact lex_digit b W))
    cases hd : isDigitB b with
    | true =>
      (repeat' (first|refine zza ?_|refine zc9 ?_|refine zzb fun w hw => ?_|refine zzh fun _ => ?_|refine zzi fun _ _ => ?_|refine zzj (fun _ => ?_) fun _ => ?_))
      exact ⟨by simp [isPartB, hl, hd], hw.below⟩
    | false =>
      (repeat' (first|refine zza ?_|refine zc9 ?_|refine zzb fun w hw => ?_|refine zzh fun _ => ?_|refine zzi fun _ _ => ?_|refine zzj (fun _ => ?_) fun _ => ?_))
      refine ⟨congrArg (fun b => Ending.returned (.bool b)) ?_, hw.below⟩; rw [Bool.eq_iff_iff]; simp [isPartB, hl, hd]; try omega
end Go.Proofs.YtllgkdkjcbohcaaGreatDoor
namespace Go.Proofs.YtllgkdkjcbohcaaGreatDoor
open Go.RowKit
theorem lex_named (s : List UInt8) (hl : s.length ≤ 4294967280) (w : World) : Calls Tryz.prog 182 #[.string ⟨s.toArray⟩] w fun e w' => e = .returned (errV 49 (nameF s)) ∧ Below w.heap.size w w' := by
  by_cases h0 : s = []
  · subst h0
    refine enter (args := [_]) (m := []) (F := []) Tryz.func182 rfl Tryz.ntmps182 (by simp) rfl ?_
    (repeat' (first|refine zza ?_|refine zc9 ?_|refine zzb fun w hw => ?_|refine zzh fun _ => ?_|refine zzi fun _ _ => ?_|refine zzj (fun _ => ?_) fun _ => ?_))
    exact ⟨rfl, hw.below⟩
  have hpos : 0 < s.length := List.length_pos_iff.2 h0
  refine enter (args := [_]) (m := []) (F := []) Tryz.func182 rfl Tryz.ntmps182 (by simp) rfl ?_
  (repeat' (first|refine zza ?_|refine zc9 ?_|refine zzb fun w hw => ?_|refine zzh fun _ => ?_|refine zzi fun _ _ => ?_|refine zzj (fun _ => ?_) fun _ => ?_))
  (apply WL_callV; rfl; rfl; rfl; (intro W hW; exact lex_letter _ W))
  cases hL : isLetterB (s.getD 0 0) with
  | false =>
    (repeat' (first|refine zza ?_|refine zc9 ?_|refine zzb fun w hw => ?_|refine zzh fun _ => ?_|refine zzi fun _ _ => ?_|refine zzj (fun _ => ?_) fun _ => ?_))
    exact ⟨by unfold nameF; rw [if_pos (.inr (by rw [hL]; simp))]; rfl, hw.below⟩
  | true =>
    have hn : nameF s = if s.all isPartB = false then 1 else if 12 < s.length then 7 else 0 := by unfold nameF; rw [if_neg (fun h => h.elim h0 fun k => k hL)]
    (repeat' (first|refine zza ?_|refine zc9 ?_|refine zzb fun w hw => ?_|refine zzh fun _ => ?_|refine zzi fun _ _ => ?_|refine zzj (fun _ => ?_) fun _ => ?_))
    refine CW_loopP [(0,_),(14,_)] zcov (fun x : Nat => [(15, .int .i64 x)]) (fun x => x ≤ s.length ∧ s.all isPartB = (s.drop x).all isPartB) (fun x => s.length - x) 0 ⟨Nat.zero_le _, rfl⟩ zcov ?_
    rintro k ⟨hk, hz⟩
    by_cases hlt : k < s.length
    · rw [drop_cons (get_some hlt 0), List.all_cons] at hz
      (repeat' (first|refine zza ?_|refine zc9 ?_|refine zzb fun w hw => ?_|refine zzh fun _ => ?_|refine zzi fun _ _ => ?_|refine zzj (fun _ => ?_) fun _ => ?_))
      (apply WL_callV; rfl; rfl; rfl; (intro W hW; exact lex_within _ W))
      cases hp : isPartB (s.getD k 0) with
      | false =>
        rw [hp] at hz
        (repeat' (first|refine zza ?_|refine zc9 ?_|refine zzb fun w hw => ?_|refine zzh fun _ => ?_|refine zzi fun _ _ => ?_|refine zzj (fun _ => ?_) fun _ => ?_))
        exact ⟨by rw [hn, if_pos (by simpa using hz)]; rfl, hw.below⟩
      | true =>
        rw [hp, Bool.true_and] at hz
        (repeat' (first|refine zza ?_|refine zc9 ?_|refine zzb fun w hw => ?_|refine zzh fun _ => ?_|refine zzi fun _ _ => ?_|refine zzj (fun _ => ?_) fun _ => ?_))
        (refine EX_loop' (k + 1) ?_; (repeat' (first | exact Cov.nil | exact Ent.refl | (apply And.intro) | (apply Cov.cons; rfl) | exact Ent.nil | refine zn1 ?_ | trivial | rfl | assumption | omega | (congr 1; omega))))
    · have hkl : k = s.length := by omega
      subst hkl
      rw [List.drop_length, List.all_nil] at hz
      rw [if_neg (by rw [hz]; simp)] at hn
      by_cases hb : 12 < s.length
      · rw [if_pos hb] at hn
        (repeat' (first|refine zza ?_|refine zc9 ?_|refine zzb fun w hw => ?_|refine zzh fun _ => ?_|refine zzi fun _ _ => ?_|refine zzj (fun _ => ?_) fun _ => ?_))
        exact ⟨by rw [hn]; rfl, hw.below⟩
      · rw [if_neg hb] at hn
        (repeat' (first|refine zza ?_|refine zc9 ?_|refine zzb fun w hw => ?_|refine zzh fun _ => ?_|refine zzi fun _ _ => ?_|refine zzj (fun _ => ?_) fun _ => ?_))
        exact ⟨by rw [hn]; rfl, hw.below⟩
theorem lex_printed (s : List UInt8) (hl : s.length ≤ 4294967280) (w : World) (hG : GlobA w) : Calls Tryz.prog 180 #[.string ⟨s.toArray⟩] w fun e w' => e = .returned (.bool (quotF s)) ∧ Below w.heap.size w w' := by
  refine enter (args := [_]) (m := []) (F := []) Tryz.func180 rfl Tryz.ntmps180 (by simp) rfl ?_
  (repeat' (first|refine zza ?_|refine zc9 ?_|refine zzb fun w hw => ?_|refine zzh fun _ => ?_|refine zzi fun _ _ => ?_|refine zzj (fun _ => ?_) fun _ => ?_))
  (apply WL_callV; rfl; rfl; rfl; (intro W hW; exact Tryz.utf8_ValidString ⟨s.toArray⟩ W (by simp [ByteArray.size]; omega) (hG.tabs.below hW.below)))
  cases hv : Lib.validD s with
  | false =>
    have hq : quotF s = false := by unfold quotF; rw [← validD_runes, hv]; rfl
    (repeat' (first|refine zza ?_|refine zc9 ?_|refine zzb fun w hw => ?_|refine zzh fun _ => ?_|refine zzi fun _ _ => ?_|refine zzj (fun _ => ?_) fun _ => ?_))
    exact ⟨by rw [hq], hw.below⟩
  | true =>
    have hq : quotF s = s.all plainB := by unfold quotF; rw [← validD_runes, hv]; rfl
    (repeat' (first|refine zza ?_|refine zc9 ?_|refine zzb fun w hw => ?_|refine zzh fun _ => ?_|refine zzi fun _ _ => ?_|refine zzj (fun _ => ?_) fun _ => ?_))
    refine CW_loopP [(0,_),(8,_)] zcov (fun x : Nat => [(9, .int .i64 x)]) (fun x => x ≤ s.length ∧ s.all plainB = (s.drop x).all plainB) (fun x => s.length - x) 0 ⟨Nat.zero_le _, rfl⟩ zcov ?_
    rintro k ⟨hk, hz⟩
    by_cases hlt : k < s.length
    · rw [drop_cons (get_some hlt 0), List.all_cons] at hz
      by_cases hp : (s.getD k 0).toNat < 32
      · rw [show plainB (s.getD k 0) = false by unfold plainB; simp; simpa using hp] at hz
        (repeat' (first|refine zza ?_|refine zc9 ?_|refine zzb fun w hw => ?_|refine zzh fun _ => ?_|refine zzi fun _ _ => ?_|refine zzj (fun _ => ?_) fun _ => ?_))
        exact ⟨by rw [hq, hz]; rfl, hw.below⟩
      · rw [show plainB (s.getD k 0) = true by unfold plainB; simp; simpa using hp, Bool.true_and] at hz
        (repeat' (first|refine zza ?_|refine zc9 ?_|refine zzb fun w hw => ?_|refine zzh fun _ => ?_|refine zzi fun _ _ => ?_|refine zzj (fun _ => ?_) fun _ => ?_))
        (refine EX_loop' (k + 1) ?_; (repeat' (first | exact Cov.nil | exact Ent.refl | (apply And.intro) | (apply Cov.cons; rfl) | exact Ent.nil | refine zn1 ?_ | trivial | rfl | assumption | omega | (congr 1; omega))))
    · have hkl : k = s.length := by omega
      subst hkl
      rw [List.drop_length, List.all_nil] at hz
      (repeat' (first|refine zza ?_|refine zc9 ?_|refine zzb fun w hw => ?_|refine zzh fun _ => ?_|refine zzi fun _ _ => ?_|refine zzj (fun _ => ?_) fun _ => ?_))
      exact ⟨by rw [hq, hz], hw.below⟩
end Go.Proofs.YtllgkdkjcbohcaaGreatDoor
namespace Go.Proofs.YtllgkdkjcbohcaaGreatDoor
open Go.RowKit
def glyphN (f : Int) : Int := if f = 1 then 43 else if f = 2 then 45 else if f = 3 then 215 else if f = 4 then 247 else if f = 5 then 124 else if f = 6 then 8968 else if f = 7 then 8970 else if f = 8 then 61 else if f = 9 then 8800 else if f = 10 then 60 else if f = 11 then 8804 else if f = 12 then 8805 else if f = 13 then 62 else if f = 14 then 8743 else if f = 15 then 8744 else if f = 16 then 42 else if f = 17 then 126 else if f = 18 then 9076 else if f = 19 then 44 else if f = 20 then 9021 else if f = 21 then 9033 else if f = 22 then 8593 else if f = 23 then 8595 else if f = 24 then 9075 else if f = 25 then 8714 else if f = 26 then 9035 else if f = 27 then 9042 else if f = 28 then 8746 else if f = 29 then 8745 else if f = 30 then 8869 else if f = 31 then 8868 else if f = 32 then 8801 else if f = 33 then 47 else if f = 34 then 92 else 0
def signN (k : Int) : Int := if k = 5 then 40 else if k = 6 then 41 else if k = 7 then 91 else if k = 8 then 93 else if k = 9 then 59 else if k = 10 then 8592 else if k = 11 then 8728 else if k = 12 then 46 else if k = 13 then 9064 else if k = 14 then 123 else if k = 15 then 125 else if k = 16 then 58 else if k = 17 then 8900 else if k = 18 then 9082 else if k = 19 then 9077 else if k = 20 then 8711 else 0
theorem glyphN_out {f : Int} (h : f < 1 ∨ 34 < f) : glyphN f = 0 := by
  unfold glyphN
  repeat rw [if_neg (by omega)]
theorem glyphN_in : ∀ n ∈ List.range 34, glyphN ((n : Int) + 1) ≠ 0 ∧ Utf8.encode (glyphN ((n : Int) + 1)) = ⟨(glyphT ((n : Int) + 1)).toArray⟩ ∧ glyphT ((n : Int) + 1) ≠ [] := by decide +kernel
theorem signN_in : ∀ n ∈ List.range 16, signN ((n : Int) + 5) ≠ 0 ∧ Utf8.encode (signN ((n : Int) + 5)) = ⟨(signT ((n : Int) + 5)).toArray⟩ ∧ signT ((n : Int) + 5) ≠ [] := by decide +kernel
theorem glyph_in {f : Int} (h : 1 ≤ f ∧ f ≤ 34) : glyphN f ≠ 0 ∧ Utf8.encode (glyphN f) = ⟨(glyphT f).toArray⟩ ∧ glyphT f ≠ [] := by
  have := glyphN_in (f - 1).toNat (by rw [List.mem_range]; omega)
  rwa [show (((f - 1).toNat : Int) + 1) = f by omega] at this
theorem sign_in {f : Int} (h : 5 ≤ f ∧ f ≤ 20) : signN f ≠ 0 ∧ Utf8.encode (signN f) = ⟨(signT f).toArray⟩ ∧ signT f ≠ [] := by
  have := signN_in (f - 5).toNat (by rw [List.mem_range]; omega)
  rwa [show (((f - 5).toNat : Int) + 5) = f by omega] at this
theorem glyphT_out {f : Int} (h : f < 1 ∨ 34 < f) : glyphT f = [] := by
  unfold glyphT
  split
  · rw [List.getD_eq_getElem?_getD, List.getElem?_eq_none (by simp [glyphsB]; omega)]; rfl
  · rfl
theorem signT_out {f : Int} (h : f < 5 ∨ 20 < f) : signT f = [] := by
  unfold signT
  split
  · rw [List.getD_eq_getElem?_getD, List.getElem?_eq_none (by simp [signsB]; omega)]; rfl
  · rfl
set_option maxHeartbeats 4000000 in
set_option maxRecDepth 100000 in
theorem lex_glyphOf (f : Int) (w : World) : Calls Tryz.prog 183 #[.int .i64 f] w fun e w' => e = .returned (.int .i32 (glyphN f)) ∧ Below w.heap.size w w' := by
  have hF : glyphN f = if f = 1 then 43 else if f = 2 then 45 else if f = 3 then 215 else if f = 4 then 247 else if f = 5 then 124 else if f = 6 then 8968 else if f = 7 then 8970 else if f = 8 then 61 else if f = 9 then 8800 else if f = 10 then 60 else if f = 11 then 8804 else if f = 12 then 8805 else if f = 13 then 62 else if f = 14 then 8743 else if f = 15 then 8744 else if f = 16 then 42 else if f = 17 then 126 else if f = 18 then 9076 else if f = 19 then 44 else if f = 20 then 9021 else if f = 21 then 9033 else if f = 22 then 8593 else if f = 23 then 8595 else if f = 24 then 9075 else if f = 25 then 8714 else if f = 26 then 9035 else if f = 27 then 9042 else if f = 28 then 8746 else if f = 29 then 8745 else if f = 30 then 8869 else if f = 31 then 8868 else if f = 32 then 8801 else if f = 33 then 47 else if f = 34 then 92 else 0 := rfl
  generalize glyphN f = r at hF
  refine enter (args := [_]) (m := []) (F := []) Tryz.func183 rfl Tryz.ntmps183 (by simp) rfl ?_
  (repeat' (first|refine zza ?_|(refine zc5 (fun hc => ?_) (fun hc => ?_) <;> first | rw [if_pos hc] at hF | rw [if_neg hc] at hF)|(refine zp3 (fun hc => ?_) (fun hc => ?_) <;> first | rw [if_pos hc] at hF | rw [if_neg hc] at hF)|(refine zp6 (fun hc => ?_) (fun hc => ?_) <;> first | rw [if_pos hc] at hF | rw [if_neg hc] at hF)|refine zc9 ?_|refine zzb fun w hw => ?_|refine zzh fun _ => ?_|refine zzi fun _ _ => ?_|refine zzj (fun _ => ?_) fun _ => ?_))
  all_goals exact ⟨by rw [hF], hw.below⟩
set_option maxHeartbeats 4000000 in
set_option maxRecDepth 100000 in
theorem lex_signOf (k : Int) (w : World) : Calls Tryz.prog 184 #[.int .i64 k] w fun e w' => e = .returned (.int .i32 (signN k)) ∧ Below w.heap.size w w' := by
  have hF : signN k = if k = 5 then 40 else if k = 6 then 41 else if k = 7 then 91 else if k = 8 then 93 else if k = 9 then 59 else if k = 10 then 8592 else if k = 11 then 8728 else if k = 12 then 46 else if k = 13 then 9064 else if k = 14 then 123 else if k = 15 then 125 else if k = 16 then 58 else if k = 17 then 8900 else if k = 18 then 9082 else if k = 19 then 9077 else if k = 20 then 8711 else 0 := rfl
  generalize signN k = r at hF
  refine enter (args := [_]) (m := []) (F := []) Tryz.func184 rfl Tryz.ntmps184 (by simp) rfl ?_
  (repeat' (first|refine zza ?_|(refine zc5 (fun hc => ?_) (fun hc => ?_) <;> first | rw [if_pos hc] at hF | rw [if_neg hc] at hF)|(refine zp3 (fun hc => ?_) (fun hc => ?_) <;> first | rw [if_pos hc] at hF | rw [if_neg hc] at hF)|(refine zp6 (fun hc => ?_) (fun hc => ?_) <;> first | rw [if_pos hc] at hF | rw [if_neg hc] at hF)|refine zc9 ?_|refine zzb fun w hw => ?_|refine zzh fun _ => ?_|refine zzi fun _ _ => ?_|refine zzj (fun _ => ?_) fun _ => ?_))
  all_goals exact ⟨by rw [hF], hw.below⟩
end Go.Proofs.YtllgkdkjcbohcaaGreatDoor
namespace Go.Proofs.YtllgkdkjcbohcaaGreatDoor
open Go.RowKit
theorem spelt_1g (num at' : Int) : speltF ⟨1, 0, num, [], at'⟩ = (numText num, 0) := by
  unfold speltF badTok; simp
theorem spelt_1b {fn num at' : Int} {text : List UInt8} (h : ¬ (fn = 0 ∧ text = [])) : speltF ⟨1, fn, num, text, at'⟩ = ([], 1) := by
  unfold speltF
  rw [if_pos (by unfold badTok; simp; exact Decidable.or_iff_not_imp_left.2 fun k => fun e => h ⟨Decidable.not_not.1 k, e⟩)]
theorem spelt_2g {at' : Int} {text : List UInt8} (h : quotF text = true) : speltF ⟨2, 0, 0, text, at'⟩ = (39 :: dblQ text ++ [39], 0) := by
  unfold speltF badTok; simp [h]
theorem spelt_2q {at' : Int} {text : List UInt8} (h : quotF text = false) : speltF ⟨2, 0, 0, text, at'⟩ = ([], 1) := by
  unfold speltF badTok; simp [h]
theorem spelt_2b {fn num at' : Int} {text : List UInt8} (h : ¬ (fn = 0 ∧ num = 0)) : speltF ⟨2, fn, num, text, at'⟩ = ([], 1) := by
  unfold speltF
  rw [if_pos (by unfold badTok; simp; omega)]
theorem spelt_3g {at' : Int} {text : List UInt8} : speltF ⟨3, 0, 0, text, at'⟩ = (text, nameF text) := by
  unfold speltF badTok; simp
theorem spelt_3b {fn num at' : Int} {text : List UInt8} (h : ¬ (fn = 0 ∧ num = 0)) : speltF ⟨3, fn, num, text, at'⟩ = ([], 1) := by
  unfold speltF
  rw [if_pos (by unfold badTok; simp; omega)]
theorem spelt_4g {fn at' : Int} : speltF ⟨4, fn, 0, [], at'⟩ = if glyphT fn = [] then ([], 1) else (glyphT fn, 0) := by
  unfold speltF badTok; simp
theorem spelt_4b {fn num at' : Int} {text : List UInt8} (h : ¬ (num = 0 ∧ text = [])) : speltF ⟨4, fn, num, text, at'⟩ = ([], 1) := by
  unfold speltF
  rw [if_pos (by unfold badTok; simp; exact Decidable.or_iff_not_imp_left.2 fun k => fun e => h ⟨Decidable.not_not.1 k, e⟩)]
theorem spelt_5g {kind at' : Int} (h : kind ≠ 1 ∧ kind ≠ 2 ∧ kind ≠ 3 ∧ kind ≠ 4) : speltF ⟨kind, 0, 0, [], at'⟩ = if signT kind = [] then ([], 1) else (signT kind, 0) := by
  unfold speltF badTok
  simp [h.1, h.2.1, h.2.2.1, h.2.2.2]
theorem spelt_5b {kind fn num at' : Int} {text : List UInt8} (h : kind ≠ 1 ∧ kind ≠ 2 ∧ kind ≠ 3 ∧ kind ≠ 4) (h' : ¬ (fn = 0 ∧ num = 0 ∧ text = [])) : speltF ⟨kind, fn, num, text, at'⟩ = ([], 1) := by
  unfold speltF
  rw [if_pos]
  unfold badTok
  simp only [decide_eq_true_eq]
  by_cases h1 : num = 0
  · by_cases h2 : fn = 0
    · exact .inr (.inr ⟨h.2.2.1, h.2.1, fun e => h' ⟨h2, h1, e⟩⟩)
    · exact .inr (.inl ⟨h.2.2.2, h2⟩)
  · exact .inl ⟨h.1, h1⟩
theorem encode_glyph {f : Int} (h : glyphN f ≠ 0) : glyphT f ≠ [] ∧ Utf8.encode (glyphN f) = ⟨(glyphT f).toArray⟩ := by
  by_cases hf : 1 ≤ f ∧ f ≤ 34
  · exact ⟨(glyph_in hf).2.2, (glyph_in hf).2.1⟩
  · exact absurd (glyphN_out (by omega)) h
theorem encode_sign {f : Int} (h : 5 ≤ f ∧ f ≤ 20) : signT f ≠ [] ∧ Utf8.encode (signN f) = ⟨(signT f).toArray⟩ := ⟨(sign_in h).2.2, (sign_in h).2.1⟩
theorem neg_text {n : Int} (h : n < 0) : (194 : UInt8) :: 175 :: (Lib.itoa n).drop 1 = numText n := by
  rw [itoa_neg h]; unfold numText; rw [if_pos h]; rfl
theorem itoa_len {n : Int} (h : I64 n) : (Lib.itoa n).length ≤ 22 := by
  by_cases h0 : n < 0
  · have := numText_le h; rw [← neg_text h0] at this; simp at this; omega
  · rw [itoa_nonneg h0]; exact numText_le h
theorem itoa_pos {n : Int} (h : n < 0) : 1 ≤ (Lib.itoa n).length := by rw [itoa_neg h]; simp
theorem below_growN (w : World) (k : Nat) (os : Array Obj) : Below w.heap.size w (Sort.grow (w.drewN k) os) :=
  ⟨rfl, rfl, rfl, by simp [Sort.grow], fun i hi => by simp [Sort.grow, Array.getElem?_append, hi]⟩
theorem itoa_call (n : Int) (hn : I64 n) (w : World) (hG : Glob w) : Calls Tryz.prog 179 #[.int .i64 n] w fun e w' => e = .returned (.string ⟨(Lib.itoa n).toArray⟩) ∧ Below w.heap.size w w' :=
  (Tryz.strconv_Itoa n hn.1 hn.2 w hG).mono fun e w' h => by
    obtain ⟨h1, k, os, h2⟩ := h
    exact ⟨h1, by subst h2; exact below_growN _ _ _⟩
theorem count39 (s : List UInt8) : Lib.countB ⟨s.toArray⟩ ⟨#[39]⟩ ≤ s.length := by
  have h : Lib.countB ⟨s.toArray⟩ ⟨#[39]⟩ = Lib.count s [39] := rfl
  rw [h, Lib.count_one]; exact List.count_le_length
theorem replace_call (s : List UInt8) (hs : s.length ≤ 4294967280) (w : World) (hG : MaxL w) : Calls Tryz.prog 181 #[.string ⟨s.toArray⟩, .string ⟨#[39]⟩, .string ⟨#[39, 39]⟩] w fun e w' => e = .returned (.string ⟨(dblQ s).toArray⟩) ∧ Below w.heap.size w w' := by
  obtain ⟨m, hm⟩ := hG
  have hc := count39 s
  have h := Tryz.strings_ReplaceAll ⟨s.toArray⟩ ⟨#[39]⟩ ⟨#[39, 39]⟩ m w (by simp [ByteArray.size]; omega) hm (by simp [ByteArray.size]) (by simp [ByteArray.size] at hc ⊢; omega)
  have e : Lib.replaceAll (⟨s.toArray⟩ : ByteArray).data.toList (⟨#[39]⟩ : ByteArray).data.toList (⟨#[39, 39]⟩ : ByteArray).data.toList = dblQ s := replaceAll_dbl s
  rw [e] at h
  exact h
set_option maxHeartbeats 1000000 in
set_option maxRecDepth 100000 in
theorem lex_spelt1 (fn num at' : Int) (text : List UInt8) (hn : I64 num) (w : World) (hG : GlobA w) : Calls Tryz.prog 110 #[.agg #[.int .i64 1, .int .i64 fn, .int .i64 num, .string ⟨text.toArray⟩, .int .i64 at']] w fun e w' => e = .returned (.tuple #[.string ⟨(speltF ⟨1, fn, num, text, at'⟩).1.toArray⟩, errV 49 (speltF ⟨1, fn, num, text, at'⟩).2]) ∧ Below w.heap.size w w' := by
  have hl := itoa_len hn
  by_cases hb : fn = 0 ∧ text = []
  · obtain ⟨rfl, rfl⟩ := hb
    by_cases h0 : num < 0
    · have hp := itoa_pos h0
      have ht := neg_text h0
      refine enter (args := [_]) (m := []) (F := []) Tryz.func110 rfl Tryz.ntmps110 (by simp) rfl ?_
      (repeat' (first|refine zza ?_|refine zc9 ?_|refine zzb fun w hw => ?_|refine zzh fun _ => ?_|refine zzi fun _ _ => ?_|refine zzj (fun _ => ?_) fun _ => ?_))
      (apply WL_callV; rfl; rfl; rfl; (intro W hW; exact itoa_call num hn W (hG.pow.below hW.below)))
      (repeat' (first|refine zza ?_|refine zc9 ?_|refine zzb fun w hw => ?_|refine zzh fun _ => ?_|refine zzi fun _ _ => ?_|refine zzj (fun _ => ?_) fun _ => ?_))
      refine CW_seq ?_
      (repeat' (first|refine zza ?_|refine zc9 ?_|refine zzb fun w hw => ?_|refine zzh fun _ => ?_|refine zzi fun _ _ => ?_|refine zzj (fun _ => ?_) fun _ => ?_))
      exact ⟨by rw [spelt_1g, ← ht, errV_zero]; rfl, hw.below⟩
    · have ht := itoa_nonneg h0
      refine enter (args := [_]) (m := []) (F := []) Tryz.func110 rfl Tryz.ntmps110 (by simp) rfl ?_
      (repeat' (first|refine zza ?_|refine zc9 ?_|refine zzb fun w hw => ?_|refine zzh fun _ => ?_|refine zzi fun _ _ => ?_|refine zzj (fun _ => ?_) fun _ => ?_))
      (apply WL_callV; rfl; rfl; rfl; (intro W hW; exact itoa_call num hn W (hG.pow.below hW.below)))
      (repeat' (first|refine zza ?_|refine zc9 ?_|refine zzb fun w hw => ?_|refine zzh fun _ => ?_|refine zzi fun _ _ => ?_|refine zzj (fun _ => ?_) fun _ => ?_))
      refine CW_seq ?_
      (repeat' (first|refine zza ?_|refine zc9 ?_|refine zzb fun w hw => ?_|refine zzh fun _ => ?_|refine zzi fun _ _ => ?_|refine zzj (fun _ => ?_) fun _ => ?_))
      exact ⟨by rw [spelt_1g, ← ht, errV_zero], hw.below⟩
  · have hb' : ¬ fn = 0 ∨ ¬ text = [] := Decidable.not_and_iff_not_or_not.1 hb
    by_cases h0 : num < 0
    · have hp := itoa_pos h0
      refine enter (args := [_]) (m := []) (F := []) Tryz.func110 rfl Tryz.ntmps110 (by simp) rfl ?_
      (repeat' (first|refine zza ?_|refine zc9 ?_|refine zzb fun w hw => ?_|refine zzh fun _ => ?_|refine zzi fun _ _ => ?_|refine zzj (fun _ => ?_) fun _ => ?_))
      (apply WL_callV; rfl; rfl; rfl; (intro W hW; exact itoa_call num hn W (hG.pow.below hW.below)))
      (repeat' (first|refine zza ?_|refine zc9 ?_|refine zzb fun w hw => ?_|refine zzh fun _ => ?_|refine zzi fun _ _ => ?_|refine zzj (fun _ => ?_) fun _ => ?_))
      refine CW_seq ?_
      (repeat' (first|refine zza ?_|refine zc9 ?_|refine zzb fun w hw => ?_|refine zzh fun _ => ?_|refine zzi fun _ _ => ?_|refine zzj (fun _ => ?_) fun _ => ?_))
      exact ⟨by rw [spelt_1b hb]; rfl, hw.below⟩
    · refine enter (args := [_]) (m := []) (F := []) Tryz.func110 rfl Tryz.ntmps110 (by simp) rfl ?_
      (repeat' (first|refine zza ?_|refine zc9 ?_|refine zzb fun w hw => ?_|refine zzh fun _ => ?_|refine zzi fun _ _ => ?_|refine zzj (fun _ => ?_) fun _ => ?_))
      (apply WL_callV; rfl; rfl; rfl; (intro W hW; exact itoa_call num hn W (hG.pow.below hW.below)))
      (repeat' (first|refine zza ?_|refine zc9 ?_|refine zzb fun w hw => ?_|refine zzh fun _ => ?_|refine zzi fun _ _ => ?_|refine zzj (fun _ => ?_) fun _ => ?_))
      refine CW_seq ?_
      (repeat' (first|refine zza ?_|refine zc9 ?_|refine zzb fun w hw => ?_|refine zzh fun _ => ?_|refine zzi fun _ _ => ?_|refine zzj (fun _ => ?_) fun _ => ?_))
      exact ⟨by rw [spelt_1b hb]; rfl, hw.below⟩
set_option maxHeartbeats 1000000 in
set_option maxRecDepth 100000 in
theorem lex_spelt2 (fn num at' : Int) (text : List UInt8) (hl : text.length ≤ 4294967280) (w : World) (hG : GlobA w) : Calls Tryz.prog 110 #[.agg #[.int .i64 2, .int .i64 fn, .int .i64 num, .string ⟨text.toArray⟩, .int .i64 at']] w fun e w' => e = .returned (.tuple #[.string ⟨(speltF ⟨2, fn, num, text, at'⟩).1.toArray⟩, errV 49 (speltF ⟨2, fn, num, text, at'⟩).2]) ∧ Below w.heap.size w w' := by
  have hd := dblQ_len text
  by_cases hb : fn = 0 ∧ num = 0
  · obtain ⟨rfl, rfl⟩ := hb
    cases hq : quotF text with
    | true =>
      refine enter (args := [_]) (m := []) (F := []) Tryz.func110 rfl Tryz.ntmps110 (by simp) rfl ?_
      (repeat' (first|refine zza ?_|refine zc9 ?_|refine zzb fun w hw => ?_|refine zzh fun _ => ?_|refine zzi fun _ _ => ?_|refine zzj (fun _ => ?_) fun _ => ?_))
      (apply WL_callV; rfl; rfl; rfl; (intro W hW; exact lex_printed text (by omega) W (hG.below hW.below)))
      rw [hq]
      (repeat' (first|refine zza ?_|refine zc9 ?_|refine zzb fun w hw => ?_|refine zzh fun _ => ?_|refine zzi fun _ _ => ?_|refine zzj (fun _ => ?_) fun _ => ?_))
      (apply WL_callV; rfl; rfl; rfl; (intro W hW; exact replace_call text hl W (hG.maxl.below hW.below)))
      (repeat' (first|refine zza ?_|refine zc9 ?_|refine zzb fun w hw => ?_|refine zzh fun _ => ?_|refine zzi fun _ _ => ?_|refine zzj (fun _ => ?_) fun _ => ?_))
      exact ⟨by rw [spelt_2g hq]; rfl, hw.below⟩
    | false =>
      refine enter (args := [_]) (m := []) (F := []) Tryz.func110 rfl Tryz.ntmps110 (by simp) rfl ?_
      (repeat' (first|refine zza ?_|refine zc9 ?_|refine zzb fun w hw => ?_|refine zzh fun _ => ?_|refine zzi fun _ _ => ?_|refine zzj (fun _ => ?_) fun _ => ?_))
      (apply WL_callV; rfl; rfl; rfl; (intro W hW; exact lex_printed text (by omega) W (hG.below hW.below)))
      rw [hq]
      (repeat' (first|refine zza ?_|refine zc9 ?_|refine zzb fun w hw => ?_|refine zzh fun _ => ?_|refine zzi fun _ _ => ?_|refine zzj (fun _ => ?_) fun _ => ?_))
      exact ⟨by rw [spelt_2q hq]; rfl, hw.below⟩
  · have hb' : ¬ fn = 0 ∨ ¬ num = 0 := Decidable.not_and_iff_not_or_not.1 hb
    refine enter (args := [_]) (m := []) (F := []) Tryz.func110 rfl Tryz.ntmps110 (by simp) rfl ?_
    (repeat' (first|refine zza ?_|refine zc9 ?_|refine zzb fun w hw => ?_|refine zzh fun _ => ?_|refine zzi fun _ _ => ?_|refine zzj (fun _ => ?_) fun _ => ?_))
    exact ⟨by rw [spelt_2b hb]; rfl, hw.below⟩
set_option maxHeartbeats 1000000 in
set_option maxRecDepth 100000 in
theorem lex_spelt3 (fn num at' : Int) (text : List UInt8) (hl : text.length ≤ 4294967280) (w : World) : Calls Tryz.prog 110 #[.agg #[.int .i64 3, .int .i64 fn, .int .i64 num, .string ⟨text.toArray⟩, .int .i64 at']] w fun e w' => e = .returned (.tuple #[.string ⟨(speltF ⟨3, fn, num, text, at'⟩).1.toArray⟩, errV 49 (speltF ⟨3, fn, num, text, at'⟩).2]) ∧ Below w.heap.size w w' := by
  by_cases hb : fn = 0 ∧ num = 0
  · obtain ⟨rfl, rfl⟩ := hb
    refine enter (args := [_]) (m := []) (F := []) Tryz.func110 rfl Tryz.ntmps110 (by simp) rfl ?_
    (repeat' (first|refine zza ?_|refine zc9 ?_|refine zzb fun w hw => ?_|refine zzh fun _ => ?_|refine zzi fun _ _ => ?_|refine zzj (fun _ => ?_) fun _ => ?_))
    (apply WQ_callV; rfl; rfl; rfl; (intro W hW; exact lex_named text (by omega) W))
    (repeat' (first|refine zza ?_|refine zc9 ?_|refine zzb fun w hw => ?_|refine zzh fun _ => ?_|refine zzi fun _ _ => ?_|refine zzj (fun _ => ?_) fun _ => ?_))
    exact ⟨by rw [spelt_3g], hw.below⟩
  · have hb' : ¬ fn = 0 ∨ ¬ num = 0 := Decidable.not_and_iff_not_or_not.1 hb
    refine enter (args := [_]) (m := []) (F := []) Tryz.func110 rfl Tryz.ntmps110 (by simp) rfl ?_
    (repeat' (first|refine zza ?_|refine zc9 ?_|refine zzb fun w hw => ?_|refine zzh fun _ => ?_|refine zzi fun _ _ => ?_|refine zzj (fun _ => ?_) fun _ => ?_))
    exact ⟨by rw [spelt_3b hb]; rfl, hw.below⟩
set_option maxHeartbeats 1000000 in
set_option maxRecDepth 100000 in
theorem lex_spelt4 (fn num at' : Int) (text : List UInt8) (w : World) : Calls Tryz.prog 110 #[.agg #[.int .i64 4, .int .i64 fn, .int .i64 num, .string ⟨text.toArray⟩, .int .i64 at']] w fun e w' => e = .returned (.tuple #[.string ⟨(speltF ⟨4, fn, num, text, at'⟩).1.toArray⟩, errV 49 (speltF ⟨4, fn, num, text, at'⟩).2]) ∧ Below w.heap.size w w' := by
  by_cases hb : num = 0 ∧ text = []
  · obtain ⟨rfl, rfl⟩ := hb
    by_cases hg : glyphN fn = 0
    · have hT : glyphT fn = [] := by
        by_cases hf : 1 ≤ fn ∧ fn ≤ 34
        · exact absurd hg (glyph_in hf).1
        · exact glyphT_out (by omega)
      refine enter (args := [_]) (m := []) (F := []) Tryz.func110 rfl Tryz.ntmps110 (by simp) rfl ?_
      (repeat' (first|refine zza ?_|refine zc9 ?_|refine zzb fun w hw => ?_|refine zzh fun _ => ?_|refine zzi fun _ _ => ?_|refine zzj (fun _ => ?_) fun _ => ?_))
      (apply WL_callV; rfl; rfl; rfl; (intro W hW; exact lex_glyphOf fn W))
      (repeat' (first|refine zza ?_|refine zc9 ?_|refine zzb fun w hw => ?_|refine zzh fun _ => ?_|refine zzi fun _ _ => ?_|refine zzj (fun _ => ?_) fun _ => ?_))
      exact ⟨by rw [spelt_4g, if_pos hT]; rfl, hw.below⟩
    · obtain ⟨hT, hE⟩ := encode_glyph hg
      refine enter (args := [_]) (m := []) (F := []) Tryz.func110 rfl Tryz.ntmps110 (by simp) rfl ?_
      (repeat' (first|refine zza ?_|refine zc9 ?_|refine zzb fun w hw => ?_|refine zzh fun _ => ?_|refine zzi fun _ _ => ?_|refine zzj (fun _ => ?_) fun _ => ?_))
      (apply WL_callV; rfl; rfl; rfl; (intro W hW; exact lex_glyphOf fn W))
      (repeat' (first|refine zza ?_|refine zc9 ?_|refine zzb fun w hw => ?_|refine zzh fun _ => ?_|refine zzi fun _ _ => ?_|refine zzj (fun _ => ?_) fun _ => ?_))
      rw [hE]
      exact ⟨by rw [spelt_4g, if_neg hT]; rfl, hw.below⟩
  · have hb' : ¬ num = 0 ∨ ¬ text = [] := Decidable.not_and_iff_not_or_not.1 hb
    refine enter (args := [_]) (m := []) (F := []) Tryz.func110 rfl Tryz.ntmps110 (by simp) rfl ?_
    (repeat' (first|refine zza ?_|refine zc9 ?_|refine zzb fun w hw => ?_|refine zzh fun _ => ?_|refine zzi fun _ _ => ?_|refine zzj (fun _ => ?_) fun _ => ?_))
    (apply WL_callV; rfl; rfl; rfl; (intro W hW; exact lex_glyphOf fn W))
    (repeat' (first|refine zza ?_|refine zc9 ?_|refine zzb fun w hw => ?_|refine zzh fun _ => ?_|refine zzi fun _ _ => ?_|refine zzj (fun _ => ?_) fun _ => ?_))
    exact ⟨by rw [spelt_4b hb]; rfl, hw.below⟩
set_option maxHeartbeats 1000000 in
set_option maxRecDepth 100000 in
theorem lex_spelt5 (kind fn num at' : Int) (text : List UInt8) (hk : kind ≠ 1 ∧ kind ≠ 2 ∧ kind ≠ 3 ∧ kind ≠ 4) (w : World) : Calls Tryz.prog 110 #[.agg #[.int .i64 kind, .int .i64 fn, .int .i64 num, .string ⟨text.toArray⟩, .int .i64 at']] w fun e w' => e = .returned (.tuple #[.string ⟨(speltF ⟨kind, fn, num, text, at'⟩).1.toArray⟩, errV 49 (speltF ⟨kind, fn, num, text, at'⟩).2]) ∧ Below w.heap.size w w' := by
  by_cases hb : fn = 0 ∧ num = 0 ∧ text = []
  · obtain ⟨rfl, rfl, rfl⟩ := hb
    by_cases hg : 5 ≤ kind ∧ kind ≤ 20
    · obtain ⟨hT, hE⟩ := encode_sign hg
      refine enter (args := [_]) (m := []) (F := []) Tryz.func110 rfl Tryz.ntmps110 (by simp) rfl ?_
      (repeat' (first|refine zza ?_|refine zc9 ?_|refine zzb fun w hw => ?_|refine zzh fun _ => ?_|refine zzi fun _ _ => ?_|refine zzj (fun _ => ?_) fun _ => ?_))
      (apply WL_callV; rfl; rfl; rfl; (intro W hW; exact lex_signOf kind W))
      (repeat' (first|refine zza ?_|refine zc9 ?_|refine zzb fun w hw => ?_|refine zzh fun _ => ?_|refine zzi fun _ _ => ?_|refine zzj (fun _ => ?_) fun _ => ?_))
      rw [hE]
      exact ⟨by rw [spelt_5g hk, if_neg hT]; rfl, hw.below⟩
    · have hT : signT kind = [] := signT_out (by omega)
      refine enter (args := [_]) (m := []) (F := []) Tryz.func110 rfl Tryz.ntmps110 (by simp) rfl ?_
      (repeat' (first|refine zza ?_|refine zc9 ?_|refine zzb fun w hw => ?_|refine zzh fun _ => ?_|refine zzi fun _ _ => ?_|refine zzj (fun _ => ?_) fun _ => ?_))
      all_goals exact ⟨by rw [spelt_5g hk, if_pos hT]; rfl, hw.below⟩
  · have hb' : ¬ fn = 0 ∨ ¬ num = 0 ∨ ¬ text = [] := (Decidable.not_and_iff_not_or_not.1 hb).imp id fun h => Decidable.not_and_iff_not_or_not.1 h
    refine enter (args := [_]) (m := []) (F := []) Tryz.func110 rfl Tryz.ntmps110 (by simp) rfl ?_
    (repeat' (first|refine zza ?_|refine zc9 ?_|refine zzb fun w hw => ?_|refine zzh fun _ => ?_|refine zzi fun _ _ => ?_|refine zzj (fun _ => ?_) fun _ => ?_))
    exact ⟨by rw [spelt_5b hk hb]; rfl, hw.below⟩
theorem lex_spelt (t : Tok) (hn : I64 t.num) (hl : t.text.length ≤ 4294967280) (w : World) (hG : GlobA w) : Calls Tryz.prog 110 #[.agg (tokE t).toArray] w fun e w' => e = .returned (.tuple #[.string ⟨(speltF t).1.toArray⟩, errV 49 (speltF t).2]) ∧ Below w.heap.size w w' := by
  obtain ⟨kind, fn, num, text, at'⟩ := t
  by_cases h1 : kind = 1
  · subst h1; exact lex_spelt1 fn num at' text hn w hG
  by_cases h2 : kind = 2
  · subst h2; exact lex_spelt2 fn num at' text hl w hG
  by_cases h3 : kind = 3
  · subst h3; exact lex_spelt3 fn num at' text hl w
  by_cases h4 : kind = 4
  · subst h4; exact lex_spelt4 fn num at' text w
  · exact lex_spelt5 kind fn num at' text ⟨h1, h2, h3, h4⟩ w
end Go.Proofs.YtllgkdkjcbohcaaGreatDoor
