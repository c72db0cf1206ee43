/-
  lex.named, lex.printed: names, texts between quotes.
-/
import Derived.Test.YtgjmgmejojbdeaaGreatDoorGo
import Derived.Test.YtgjmgmejojbdeaaGreatDoorLex1
import Derived.Test.YtgjmgmejojbdeaaGreatDoorGlob
namespace Go.Proofs.YtgjmgmejojbdeaaGreatDoor
open Go.RowKit

theorem lex_named (s : List UInt8) (hl : s.length ≤ 4294967280) (w : World) : Calls Tryz.prog 77 #[.string ⟨s.toArray⟩] w fun e w' => e = .returned (errV 36 (nameF s)) ∧ Below w.heap.size w w' := by
  by_cases h0 : s = []
  · subst h0
    refine enter (args := [_]) (m := []) (F := []) Tryz.func77 rfl Tryz.ntmps77 (by simp) rfl ?_
    (repeat' (first|refine zza ?_|refine zc9 ?_|refine zzb fun w hw => ?_|refine zzh fun _ => ?_|refine zzi fun _ _ => ?_|refine zzj (fun _ => ?_) fun _ => ?_))
    exact ⟨rfl, hw.below⟩
  have hpos : 0 < s.length := List.length_pos_iff.2 h0
  refine enter (args := [_]) (m := []) (F := []) Tryz.func77 rfl Tryz.ntmps77 (by simp) rfl ?_
  (repeat' (first|refine zza ?_|refine zc9 ?_|refine zzb fun w hw => ?_|refine zzh fun _ => ?_|refine zzi fun _ _ => ?_|refine zzj (fun _ => ?_) fun _ => ?_))
  (apply WL_callV; rfl; rfl; rfl; (intro W hW; exact lex_letter _ W))
  cases hL : isLetterB (s.getD 0 0) with
  | false =>
    (repeat' (first|refine zza ?_|refine zc9 ?_|refine zzb fun w hw => ?_|refine zzh fun _ => ?_|refine zzi fun _ _ => ?_|refine zzj (fun _ => ?_) fun _ => ?_))
    exact ⟨by unfold nameF; rw [if_pos (.inr (by rw [hL]; simp))]; rfl, hw.below⟩
  | true =>
    have hn : nameF s = if s.all isPartB = false then 1 else if 12 < s.length then 7 else 0 := by unfold nameF; rw [if_neg (fun h => h.elim h0 fun k => k hL)]
    (repeat' (first|refine zza ?_|refine zc9 ?_|refine zzb fun w hw => ?_|refine zzh fun _ => ?_|refine zzi fun _ _ => ?_|refine zzj (fun _ => ?_) fun _ => ?_))
    refine CW_loopP [(0,_),(14,_)] zcov (fun x : Nat => [(15, .int .i64 x)]) (fun x => x ≤ s.length ∧ s.all isPartB = (s.drop x).all isPartB) (fun x => s.length - x) 0 ⟨Nat.zero_le _, rfl⟩ zcov ?_
    rintro k ⟨hk, hz⟩
    by_cases hlt : k < s.length
    · rw [drop_cons (get_some hlt 0), List.all_cons] at hz
      (repeat' (first|refine zza ?_|refine zc9 ?_|refine zzb fun w hw => ?_|refine zzh fun _ => ?_|refine zzi fun _ _ => ?_|refine zzj (fun _ => ?_) fun _ => ?_))
      (apply WL_callV; rfl; rfl; rfl; (intro W hW; exact lex_within _ W))
      cases hp : isPartB (s.getD k 0) with
      | false =>
        rw [hp] at hz
        (repeat' (first|refine zza ?_|refine zc9 ?_|refine zzb fun w hw => ?_|refine zzh fun _ => ?_|refine zzi fun _ _ => ?_|refine zzj (fun _ => ?_) fun _ => ?_))
        exact ⟨by rw [hn, if_pos (by simpa using hz)]; rfl, hw.below⟩
      | true =>
        rw [hp, Bool.true_and] at hz
        (repeat' (first|refine zza ?_|refine zc9 ?_|refine zzb fun w hw => ?_|refine zzh fun _ => ?_|refine zzi fun _ _ => ?_|refine zzj (fun _ => ?_) fun _ => ?_))
        (refine EX_loop' (k + 1) ?_; (repeat' (first | exact Cov.nil | exact Ent.refl | (apply And.intro) | (apply Cov.cons; rfl) | exact Ent.nil | refine zn1 ?_ | trivial | rfl | assumption | omega | (congr 1; omega))))
    · have hkl : k = s.length := by omega
      subst hkl
      rw [List.drop_length, List.all_nil] at hz
      rw [if_neg (by rw [hz]; simp)] at hn
      by_cases hb : 12 < s.length
      · rw [if_pos hb] at hn
        (repeat' (first|refine zza ?_|refine zc9 ?_|refine zzb fun w hw => ?_|refine zzh fun _ => ?_|refine zzi fun _ _ => ?_|refine zzj (fun _ => ?_) fun _ => ?_))
        exact ⟨by rw [hn]; rfl, hw.below⟩
      · rw [if_neg hb] at hn
        (repeat' (first|refine zza ?_|refine zc9 ?_|refine zzb fun w hw => ?_|refine zzh fun _ => ?_|refine zzi fun _ _ => ?_|refine zzj (fun _ => ?_) fun _ => ?_))
        exact ⟨by rw [hn]; rfl, hw.below⟩

theorem lex_printed (s : List UInt8) (hl : s.length ≤ 4294967280) (w : World) (hG : GlobA w) : Calls Tryz.prog 75 #[.string ⟨s.toArray⟩] w fun e w' => e = .returned (.bool (quotF s)) ∧ Below w.heap.size w w' := by
  refine enter (args := [_]) (m := []) (F := []) Tryz.func75 rfl Tryz.ntmps75 (by simp) rfl ?_
  (repeat' (first|refine zza ?_|refine zc9 ?_|refine zzb fun w hw => ?_|refine zzh fun _ => ?_|refine zzi fun _ _ => ?_|refine zzj (fun _ => ?_) fun _ => ?_))
  (apply WL_callV; rfl; rfl; rfl; (intro W hW; exact Tryz.utf8_ValidString ⟨s.toArray⟩ W (by simp [ByteArray.size]; omega) (hG.tabs.below hW.below)))
  cases hv : Lib.validD s with
  | false =>
    have hq : quotF s = false := by unfold quotF; rw [← validD_runes, hv]; rfl
    (repeat' (first|refine zza ?_|refine zc9 ?_|refine zzb fun w hw => ?_|refine zzh fun _ => ?_|refine zzi fun _ _ => ?_|refine zzj (fun _ => ?_) fun _ => ?_))
    exact ⟨by rw [hq], hw.below⟩
  | true =>
    have hq : quotF s = s.all plainB := by unfold quotF; rw [← validD_runes, hv]; rfl
    (repeat' (first|refine zza ?_|refine zc9 ?_|refine zzb fun w hw => ?_|refine zzh fun _ => ?_|refine zzi fun _ _ => ?_|refine zzj (fun _ => ?_) fun _ => ?_))
    refine CW_loopP [(0,_),(8,_)] zcov (fun x : Nat => [(9, .int .i64 x)]) (fun x => x ≤ s.length ∧ s.all plainB = (s.drop x).all plainB) (fun x => s.length - x) 0 ⟨Nat.zero_le _, rfl⟩ zcov ?_
    rintro k ⟨hk, hz⟩
    by_cases hlt : k < s.length
    · rw [drop_cons (get_some hlt 0), List.all_cons] at hz
      by_cases hp : (s.getD k 0).toNat < 32
      · rw [show plainB (s.getD k 0) = false by unfold plainB; simp; simpa using hp] at hz
        (repeat' (first|refine zza ?_|refine zc9 ?_|refine zzb fun w hw => ?_|refine zzh fun _ => ?_|refine zzi fun _ _ => ?_|refine zzj (fun _ => ?_) fun _ => ?_))
        exact ⟨by rw [hq, hz]; rfl, hw.below⟩
      · rw [show plainB (s.getD k 0) = true by unfold plainB; simp; simpa using hp, Bool.true_and] at hz
        (repeat' (first|refine zza ?_|refine zc9 ?_|refine zzb fun w hw => ?_|refine zzh fun _ => ?_|refine zzi fun _ _ => ?_|refine zzj (fun _ => ?_) fun _ => ?_))
        (refine EX_loop' (k + 1) ?_; (repeat' (first | exact Cov.nil | exact Ent.refl | (apply And.intro) | (apply Cov.cons; rfl) | exact Ent.nil | refine zn1 ?_ | trivial | rfl | assumption | omega | (congr 1; omega))))
    · have hkl : k = s.length := by omega
      subst hkl
      rw [List.drop_length, List.all_nil] at hz
      (repeat' (first|refine zza ?_|refine zc9 ?_|refine zzb fun w hw => ?_|refine zzh fun _ => ?_|refine zzi fun _ _ => ?_|refine zzj (fun _ => ?_) fun _ => ?_))
      exact ⟨by rw [hq, hz], hw.below⟩
end Go.Proofs.YtgjmgmejojbdeaaGreatDoor
