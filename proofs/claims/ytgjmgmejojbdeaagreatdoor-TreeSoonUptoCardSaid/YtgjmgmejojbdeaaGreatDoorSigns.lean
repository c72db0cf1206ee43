/-
  lex.glyphOf, signOf: the signs of functions and of kinds.
-/
import Derived.Test.YtgjmgmejojbdeaaGreatDoorLexPlain
import Derived.Test.YtgjmgmejojbdeaaGreatDoorInst
import Derived.Test.YtgjmgmejojbdeaaGreatDoorGo
namespace Go.Proofs.YtgjmgmejojbdeaaGreatDoor
open Go.RowKit

def glyphN (f : Int) : Int := if f = 1 then 43 else if f = 2 then 45 else if f = 3 then 215 else if f = 4 then 247 else if f = 5 then 124 else if f = 6 then 8968 else if f = 7 then 8970 else if f = 8 then 61 else if f = 9 then 8800 else if f = 10 then 60 else if f = 11 then 8804 else if f = 12 then 8805 else if f = 13 then 62 else if f = 14 then 8743 else if f = 15 then 8744 else if f = 16 then 42 else if f = 17 then 126 else if f = 18 then 9076 else if f = 19 then 44 else if f = 20 then 9021 else if f = 21 then 9033 else if f = 22 then 8593 else if f = 23 then 8595 else if f = 24 then 9075 else if f = 25 then 8714 else if f = 26 then 9035 else if f = 27 then 9042 else if f = 28 then 8746 else if f = 29 then 8745 else if f = 30 then 8869 else if f = 31 then 8868 else if f = 32 then 8801 else if f = 33 then 47 else if f = 34 then 92 else 0
def signN (k : Int) : Int := if k = 5 then 40 else if k = 6 then 41 else if k = 7 then 91 else if k = 8 then 93 else if k = 9 then 59 else if k = 10 then 8592 else if k = 11 then 8728 else if k = 12 then 46 else if k = 13 then 9064 else if k = 14 then 123 else if k = 15 then 125 else if k = 16 then 58 else if k = 17 then 8900 else if k = 18 then 9082 else if k = 19 then 9077 else if k = 20 then 8711 else 0
theorem glyphN_out {f : Int} (h : f < 1 ∨ 34 < f) : glyphN f = 0 := by
  unfold glyphN
  repeat rw [if_neg (by omega)]
theorem signN_out {f : Int} (h : f < 5 ∨ 20 < f) : signN f = 0 := by
  unfold signN
  repeat rw [if_neg (by omega)]
theorem glyphN_in : ∀ n ∈ List.range 34, glyphN ((n : Int) + 1) ≠ 0 ∧ Utf8.encode (glyphN ((n : Int) + 1)) = ⟨(glyphT ((n : Int) + 1)).toArray⟩ ∧ glyphT ((n : Int) + 1) ≠ [] := by decide +kernel
theorem signN_in : ∀ n ∈ List.range 16, signN ((n : Int) + 5) ≠ 0 ∧ Utf8.encode (signN ((n : Int) + 5)) = ⟨(signT ((n : Int) + 5)).toArray⟩ ∧ signT ((n : Int) + 5) ≠ [] := by decide +kernel
theorem glyph_in {f : Int} (h : 1 ≤ f ∧ f ≤ 34) : glyphN f ≠ 0 ∧ Utf8.encode (glyphN f) = ⟨(glyphT f).toArray⟩ ∧ glyphT f ≠ [] := by
  have := glyphN_in (f - 1).toNat (by rw [List.mem_range]; omega)
  rwa [show (((f - 1).toNat : Int) + 1) = f by omega] at this
theorem sign_in {f : Int} (h : 5 ≤ f ∧ f ≤ 20) : signN f ≠ 0 ∧ Utf8.encode (signN f) = ⟨(signT f).toArray⟩ ∧ signT f ≠ [] := by
  have := signN_in (f - 5).toNat (by rw [List.mem_range]; omega)
  rwa [show (((f - 5).toNat : Int) + 5) = f by omega] at this
theorem glyphT_out {f : Int} (h : f < 1 ∨ 34 < f) : glyphT f = [] := by
  unfold glyphT
  split
  · rw [List.getD_eq_getElem?_getD, List.getElem?_eq_none (by simp [glyphsB]; omega)]; rfl
  · rfl
theorem signT_out {f : Int} (h : f < 5 ∨ 20 < f) : signT f = [] := by
  unfold signT
  split
  · rw [List.getD_eq_getElem?_getD, List.getElem?_eq_none (by simp [signsB]; omega)]; rfl
  · rfl

set_option maxHeartbeats 4000000 in
set_option maxRecDepth 100000 in
theorem lex_glyphOf (f : Int) (w : World) : Calls Tryz.prog 78 #[.int .i64 f] w fun e w' => e = .returned (.int .i32 (glyphN f)) ∧ Below w.heap.size w w' := by
  have hF : glyphN f = if f = 1 then 43 else if f = 2 then 45 else if f = 3 then 215 else if f = 4 then 247 else if f = 5 then 124 else if f = 6 then 8968 else if f = 7 then 8970 else if f = 8 then 61 else if f = 9 then 8800 else if f = 10 then 60 else if f = 11 then 8804 else if f = 12 then 8805 else if f = 13 then 62 else if f = 14 then 8743 else if f = 15 then 8744 else if f = 16 then 42 else if f = 17 then 126 else if f = 18 then 9076 else if f = 19 then 44 else if f = 20 then 9021 else if f = 21 then 9033 else if f = 22 then 8593 else if f = 23 then 8595 else if f = 24 then 9075 else if f = 25 then 8714 else if f = 26 then 9035 else if f = 27 then 9042 else if f = 28 then 8746 else if f = 29 then 8745 else if f = 30 then 8869 else if f = 31 then 8868 else if f = 32 then 8801 else if f = 33 then 47 else if f = 34 then 92 else 0 := rfl
  generalize glyphN f = r at hF
  refine enter (args := [_]) (m := []) (F := []) Tryz.func78 rfl Tryz.ntmps78 (by simp) rfl ?_
  (repeat' (first|refine zza ?_|(refine zc5 (fun hc => ?_) (fun hc => ?_) <;> first | rw [if_pos hc] at hF | rw [if_neg hc] at hF)|(refine zp3 (fun hc => ?_) (fun hc => ?_) <;> first | rw [if_pos hc] at hF | rw [if_neg hc] at hF)|(refine zp6 (fun hc => ?_) (fun hc => ?_) <;> first | rw [if_pos hc] at hF | rw [if_neg hc] at hF)|refine zc9 ?_|refine zzb fun w hw => ?_|refine zzh fun _ => ?_|refine zzi fun _ _ => ?_|refine zzj (fun _ => ?_) fun _ => ?_))
  all_goals exact ⟨by rw [hF], hw.below⟩
set_option maxHeartbeats 4000000 in
set_option maxRecDepth 100000 in
theorem lex_signOf (k : Int) (w : World) : Calls Tryz.prog 79 #[.int .i64 k] w fun e w' => e = .returned (.int .i32 (signN k)) ∧ Below w.heap.size w w' := by
  have hF : signN k = if k = 5 then 40 else if k = 6 then 41 else if k = 7 then 91 else if k = 8 then 93 else if k = 9 then 59 else if k = 10 then 8592 else if k = 11 then 8728 else if k = 12 then 46 else if k = 13 then 9064 else if k = 14 then 123 else if k = 15 then 125 else if k = 16 then 58 else if k = 17 then 8900 else if k = 18 then 9082 else if k = 19 then 9077 else if k = 20 then 8711 else 0 := rfl
  generalize signN k = r at hF
  refine enter (args := [_]) (m := []) (F := []) Tryz.func79 rfl Tryz.ntmps79 (by simp) rfl ?_
  (repeat' (first|refine zza ?_|(refine zc5 (fun hc => ?_) (fun hc => ?_) <;> first | rw [if_pos hc] at hF | rw [if_neg hc] at hF)|(refine zp3 (fun hc => ?_) (fun hc => ?_) <;> first | rw [if_pos hc] at hF | rw [if_neg hc] at hF)|(refine zp6 (fun hc => ?_) (fun hc => ?_) <;> first | rw [if_pos hc] at hF | rw [if_neg hc] at hF)|refine zc9 ?_|refine zzb fun w hw => ?_|refine zzh fun _ => ?_|refine zzi fun _ _ => ?_|refine zzj (fun _ => ?_) fun _ => ?_))
  all_goals exact ⟨by rw [hF], hw.below⟩
end Go.Proofs.YtgjmgmejojbdeaaGreatDoor
