/-
  sound: spelt, effectOf, formed.
  sound.formed.
-/
import Derived.Test.YtdmapiaejcnibaaDoorGo
import Derived.Test.YtdmapiaejcnibaaDoorSpell
import Derived.Test.YtdmapiaejcnibaaDoorOpenNod
import Derived.Test.YtdmapiaejcnibaaDoorTokRow
import Derived.Test.YtdmapiaejcnibaaDoorRetC
namespace Go.Proofs.YtdmapiaejcnibaaDoor
open Go.RowKit

set_option maxRecDepth 100000 in
theorem sound_spelt (k : Int) (s : List UInt8) (w : World) (hs : s.length ≤ 4294967280) (hG : GlobA w) :
    Calls Tryd.prog 36 #[.int .i64 k, .string ⟨s.toArray⟩] w fun e w' => e = .returned (.bool (spellOk k s)) ∧ Below w.heap.size w w' := by
  have hS := fun (W : World) b (hR : Row tokE 5 W.cell? (some ⟨b, 0, none⟩) 1 [⟨k, 0, 0, s, 0⟩]) (hg : GlobA W) => lex_Spell _ _ [⟨k, 0, 0, s, 0⟩] W hR ⟨by simp [I64], by simpa using hs⟩ hg
  refine enter (args := [_, _]) (m := []) (F := []) Tryd.func36 rfl Tryd.ntmps36 (by simp) rfl ?_
  (repeat' (first|refine zza ?_|refine zc9 ?_|refine zzb fun w hw => ?_|refine zzh fun _ => ?_|refine zzi fun _ _ => ?_|refine zzj (fun _ => ?_) fun _ => ?_))
  by_cases he : (spellF [⟨k, 0, 0, s, 0⟩]).2 = 0
  · rw [he, errV_zero] at hS
    (apply WL_callV; rfl; rfl; rfl; (intro W hW; exact hS W _ (row_blk (enc := tokE) (xs := [⟨k, 0, 0, s, 0⟩]) hW .here (fun _ => rfl) (by simp)) (hG.below hW.below)))
    (repeat' (first|refine zza ?_|refine zc9 ?_|refine zzb fun w hw => ?_|refine zzh fun _ => ?_|refine zzi fun _ _ => ?_|refine zzj (fun _ => ?_) fun _ => ?_))
    exact ⟨by unfold spellOk; rw [he]; rfl, hw.below⟩
  · rw [errV_ne he] at hS
    (apply WL_callV; rfl; rfl; rfl; (intro W hW; exact hS W _ (row_blk (enc := tokE) (xs := [⟨k, 0, 0, s, 0⟩]) hW .here (fun _ => rfl) (by simp)) (hG.below hW.below)))
    (repeat' (first|refine zza ?_|refine zc9 ?_|refine zzb fun w hw => ?_|refine zzh fun _ => ?_|refine zzi fun _ _ => ?_|refine zzj (fun _ => ?_) fun _ => ?_))
    exact ⟨by unfold spellOk; rw [decide_eq_false he], hw.below⟩
end Go.Proofs.YtdmapiaejcnibaaDoor

namespace Go.Proofs.YtdmapiaejcnibaaDoor
open Go.RowKit

set_option maxHeartbeats 8000000 in
set_option maxRecDepth 100000 in
theorem sound_formed (i : InsM) (w : World) (ht : i.text.length ≤ 4294967280) (hx : i.nums.xs.length ≤ 4294967280) (hG : GlobA w) :
    Calls Tryd.prog 24 #[.agg (insE i).toArray] w fun e w' => e = .returned (.bool (formedF i.ins)) ∧ Below w.heap.size w w' := by
  obtain ⟨op, aop, af, ag, n, dst, ⟨p, c, xs⟩, text⟩ := i
  dsimp only [InsM.ins, insE] at ht hx ⊢
  refine enter (args := [_]) (m := []) (F := []) Tryd.func24 rfl Tryd.ntmps24 (by simp) rfl ?_
  (repeat' (first|refine zza ?_|refine zc9 ?_|refine zzb fun w hw => ?_|refine zzh fun _ => ?_|refine zzi fun _ _ => ?_))
  rename_i b1 b2
  refine CW_ent (m' := [blk b2 43 #[.int .i64 0, .int .i64 aop, .int .i64 af, .int .i64 ag, .int .i64 n, .int .i64 dst, .slice none 0 0, .string ⟨text.toArray⟩], blk b1 43 #[.int .i64 op, .int .i64 aop, .int .i64 af, .int .i64 ag, .int .i64 n, .int .i64 dst, .slice p xs.length c, .string ⟨text.toArray⟩]]) (Ent.consK (k := Ent.consK (k := Ent.nil) .here) .here) ?_
  by_cases h2 : op = 2
  · subst h2
    (repeat' (first|refine zza ?_|refine zc9 ?_|refine zzb fun w hw => ?_|refine zzh fun _ => ?_|refine zzi fun _ _ => ?_|refine zzj (fun _ => ?_) fun _ => ?_))
    (apply WL_callV; rfl; rfl; rfl; (intro W hW; exact sound_spelt 2 text W ht (hG.below hW.below)))
    cases hsp : spellOk 2 text with
    | true =>
      (repeat' (first|refine zza ?_|refine zc9 ?_|refine zzb fun w hw => ?_|refine zzh fun _ => ?_|refine zzi fun _ _ => ?_|refine zzj (fun _ => ?_) fun _ => ?_))
      all_goals (try refine zp9 (fun hb => ?_) (fun hb => ?_))
      all_goals (repeat' (first|refine zza ?_|refine zc9 ?_|refine zzb fun w hw => ?_|refine zzh fun _ => ?_|refine zzi fun _ _ => ?_|refine zzj (fun _ => ?_) fun _ => ?_))
      all_goals (refine ⟨?_, hw.below⟩; simp_all [formedF]; done)
    | false =>
      (repeat' (first|refine zza ?_|refine zc9 ?_|refine zzb fun w hw => ?_|refine zzh fun _ => ?_|refine zzi fun _ _ => ?_|refine zzj (fun _ => ?_) fun _ => ?_))
      all_goals (refine ⟨?_, hw.below⟩; simp_all [formedF]; done)
  by_cases h3 : op = 3
  · subst h3
    (repeat' (first|refine zza ?_|refine zc9 ?_|refine zzb fun w hw => ?_|refine zzh fun _ => ?_|refine zzi fun _ _ => ?_|refine zzj (fun _ => ?_) fun _ => ?_))
    (apply WL_callV; rfl; rfl; rfl; (intro W hW; exact sound_spelt 3 text W ht (hG.below hW.below)))
    cases hsp : spellOk 3 text with
    | true =>
      (repeat' (first|refine zza ?_|refine zc9 ?_|refine zzb fun w hw => ?_|refine zzh fun _ => ?_|refine zzi fun _ _ => ?_|refine zzj (fun _ => ?_) fun _ => ?_))
      all_goals (try refine zp9 (fun hb => ?_) (fun hb => ?_))
      all_goals (repeat' (first|refine zza ?_|refine zc9 ?_|refine zzb fun w hw => ?_|refine zzh fun _ => ?_|refine zzi fun _ _ => ?_|refine zzj (fun _ => ?_) fun _ => ?_))
      all_goals (refine ⟨?_, hw.below⟩; simp_all [formedF]; done)
    | false =>
      (repeat' (first|refine zza ?_|refine zc9 ?_|refine zzb fun w hw => ?_|refine zzh fun _ => ?_|refine zzi fun _ _ => ?_|refine zzj (fun _ => ?_) fun _ => ?_))
      all_goals (refine ⟨?_, hw.below⟩; simp_all [formedF]; done)
  have hcases : op = 1 ∨ op = 4 ∨ op = 5 ∨ op = 6 ∨ op = 7 ∨ op = 8 ∨ op = 9 ∨ op = 10 ∨ op = 11 ∨ ¬ (1 ≤ op ∧ op ≤ 11) := by omega
  rcases hcases with rfl | rfl | rfl | rfl | rfl | rfl | rfl | rfl | rfl | hout
  all_goals (repeat' (first|refine zza ?_|refine zc9 ?_|refine zzb fun w hw => ?_|refine zzh fun _ => ?_|refine zzi fun _ _ => ?_|refine zzj (fun _ => ?_) fun _ => ?_))
  all_goals (try refine CW_seq ?_)
  all_goals (repeat' (first|refine zza ?_|refine zc9 ?_|refine zzb fun w hw => ?_|refine zzh fun _ => ?_|refine zzi fun _ _ => ?_|refine zzj (fun _ => ?_) fun _ => ?_))
  all_goals (try refine CW_seq ?_)
  all_goals (repeat' (first|refine zza ?_|refine zc9 ?_|refine zzb fun w hw => ?_|refine zzh fun _ => ?_|refine zzi fun _ _ => ?_|refine zzj (fun _ => ?_) fun _ => ?_))
  all_goals (try refine zp9 (fun hb => ?_) (fun hb => ?_))
  all_goals (repeat' (first|refine zza ?_|refine zc9 ?_|refine zzb fun w hw => ?_|refine zzh fun _ => ?_|refine zzi fun _ _ => ?_|refine zzj (fun _ => ?_) fun _ => ?_))
  all_goals (refine ⟨?_, hw.below⟩; simp_all [formedF] <;> omega)
end Go.Proofs.YtdmapiaejcnibaaDoor
