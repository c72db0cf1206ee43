/-
  lex.spelt: a word's text.
-/
import Derived.Test.YtgjmgmejojbdeaaGreatDoorGo
import Derived.Test.YtgjmgmejojbdeaaGreatDoorLex2
import Derived.Test.YtgjmgmejojbdeaaGreatDoorSigns
namespace Go.Proofs.YtgjmgmejojbdeaaGreatDoor
open Go.RowKit

theorem spelt_1g (num at' : Int) : speltF ⟨1, 0, num, [], at'⟩ = (numText num, 0) := by
  unfold speltF badTok; simp
theorem spelt_1b {fn num at' : Int} {text : List UInt8} (h : ¬ (fn = 0 ∧ text = [])) : speltF ⟨1, fn, num, text, at'⟩ = ([], 1) := by
  unfold speltF
  rw [if_pos (by unfold badTok; simp; exact Decidable.or_iff_not_imp_left.2 fun k => fun e => h ⟨Decidable.not_not.1 k, e⟩)]
theorem spelt_2g {at' : Int} {text : List UInt8} (h : quotF text = true) : speltF ⟨2, 0, 0, text, at'⟩ = (39 :: dblQ text ++ [39], 0) := by
  unfold speltF badTok; simp [h]
theorem spelt_2q {at' : Int} {text : List UInt8} (h : quotF text = false) : speltF ⟨2, 0, 0, text, at'⟩ = ([], 1) := by
  unfold speltF badTok; simp [h]
theorem spelt_2b {fn num at' : Int} {text : List UInt8} (h : ¬ (fn = 0 ∧ num = 0)) : speltF ⟨2, fn, num, text, at'⟩ = ([], 1) := by
  unfold speltF
  rw [if_pos (by unfold badTok; simp; omega)]
theorem spelt_3g {at' : Int} {text : List UInt8} : speltF ⟨3, 0, 0, text, at'⟩ = (text, nameF text) := by
  unfold speltF badTok; simp
theorem spelt_3b {fn num at' : Int} {text : List UInt8} (h : ¬ (fn = 0 ∧ num = 0)) : speltF ⟨3, fn, num, text, at'⟩ = ([], 1) := by
  unfold speltF
  rw [if_pos (by unfold badTok; simp; omega)]
theorem spelt_4g {fn at' : Int} : speltF ⟨4, fn, 0, [], at'⟩ = if glyphT fn = [] then ([], 1) else (glyphT fn, 0) := by
  unfold speltF badTok; simp
theorem spelt_4b {fn num at' : Int} {text : List UInt8} (h : ¬ (num = 0 ∧ text = [])) : speltF ⟨4, fn, num, text, at'⟩ = ([], 1) := by
  unfold speltF
  rw [if_pos (by unfold badTok; simp; exact Decidable.or_iff_not_imp_left.2 fun k => fun e => h ⟨Decidable.not_not.1 k, e⟩)]
theorem spelt_5g {kind at' : Int} (h : kind ≠ 1 ∧ kind ≠ 2 ∧ kind ≠ 3 ∧ kind ≠ 4) : speltF ⟨kind, 0, 0, [], at'⟩ = if signT kind = [] then ([], 1) else (signT kind, 0) := by
  unfold speltF badTok
  simp [h.1, h.2.1, h.2.2.1, h.2.2.2]
theorem spelt_5b {kind fn num at' : Int} {text : List UInt8} (h : kind ≠ 1 ∧ kind ≠ 2 ∧ kind ≠ 3 ∧ kind ≠ 4) (h' : ¬ (fn = 0 ∧ num = 0 ∧ text = [])) : speltF ⟨kind, fn, num, text, at'⟩ = ([], 1) := by
  unfold speltF
  rw [if_pos]
  unfold badTok
  simp only [decide_eq_true_eq]
  by_cases h1 : num = 0
  · by_cases h2 : fn = 0
    · exact .inr (.inr ⟨h.2.2.1, h.2.1, fun e => h' ⟨h2, h1, e⟩⟩)
    · exact .inr (.inl ⟨h.2.2.2, h2⟩)
  · exact .inl ⟨h.1, h1⟩
theorem encode_glyph {f : Int} (h : glyphN f ≠ 0) : glyphT f ≠ [] ∧ Utf8.encode (glyphN f) = ⟨(glyphT f).toArray⟩ := by
  by_cases hf : 1 ≤ f ∧ f ≤ 34
  · exact ⟨(glyph_in hf).2.2, (glyph_in hf).2.1⟩
  · exact absurd (glyphN_out (by omega)) h
theorem encode_sign {f : Int} (h : 5 ≤ f ∧ f ≤ 20) : signT f ≠ [] ∧ Utf8.encode (signN f) = ⟨(signT f).toArray⟩ := ⟨(sign_in h).2.2, (sign_in h).2.1⟩

theorem neg_text {n : Int} (h : n < 0) : (194 : UInt8) :: 175 :: (Lib.itoa n).drop 1 = numText n := by
  rw [itoa_neg h]; unfold numText; rw [if_pos h]; rfl
theorem itoa_len {n : Int} (h : I64 n) : (Lib.itoa n).length ≤ 22 := by
  by_cases h0 : n < 0
  · have := numText_le h; rw [← neg_text h0] at this; simp at this; omega
  · rw [itoa_nonneg h0]; exact numText_le h
theorem itoa_pos {n : Int} (h : n < 0) : 1 ≤ (Lib.itoa n).length := by rw [itoa_neg h]; simp

theorem below_growN (w : World) (k : Nat) (os : Array Obj) : Below w.heap.size w (Sort.grow (w.drewN k) os) :=
  ⟨rfl, rfl, rfl, by simp [Sort.grow], fun i hi => by simp [Sort.grow, Array.getElem?_append, hi]⟩
theorem itoa_call (n : Int) (hn : I64 n) (w : World) (hG : Glob w) : Calls Tryz.prog 74 #[.int .i64 n] w fun e w' => e = .returned (.string ⟨(Lib.itoa n).toArray⟩) ∧ Below w.heap.size w w' :=
  (Tryz.strconv_Itoa n hn.1 hn.2 w hG).mono fun e w' h => by
    obtain ⟨h1, k, os, h2⟩ := h
    exact ⟨h1, by subst h2; exact below_growN _ _ _⟩

theorem count39 (s : List UInt8) : Lib.countB ⟨s.toArray⟩ ⟨#[39]⟩ ≤ s.length := by
  have h : Lib.countB ⟨s.toArray⟩ ⟨#[39]⟩ = Lib.count s [39] := rfl
  rw [h, Lib.count_one]; exact List.count_le_length
theorem replace_call (s : List UInt8) (hs : s.length ≤ 4294967280) (w : World) (hG : MaxL w) : Calls Tryz.prog 76 #[.string ⟨s.toArray⟩, .string ⟨#[39]⟩, .string ⟨#[39, 39]⟩] w fun e w' => e = .returned (.string ⟨(dblQ s).toArray⟩) ∧ Below w.heap.size w w' := by
  obtain ⟨m, hm⟩ := hG
  have hc := count39 s
  have h := Tryz.strings_ReplaceAll ⟨s.toArray⟩ ⟨#[39]⟩ ⟨#[39, 39]⟩ m w (by simp [ByteArray.size]; omega) hm (by simp [ByteArray.size]) (by simp [ByteArray.size] at hc ⊢; omega)
  have e : Lib.replaceAll (⟨s.toArray⟩ : ByteArray).data.toList (⟨#[39]⟩ : ByteArray).data.toList (⟨#[39, 39]⟩ : ByteArray).data.toList = dblQ s := replaceAll_dbl s
  rw [e] at h
  exact h

set_option maxHeartbeats 1000000 in
set_option maxRecDepth 100000 in
theorem lex_spelt1 (fn num at' : Int) (text : List UInt8) (hn : I64 num) (w : World) (hG : GlobA w) : Calls Tryz.prog 43 #[.agg #[.int .i64 1, .int .i64 fn, .int .i64 num, .string ⟨text.toArray⟩, .int .i64 at']] w fun e w' => e = .returned (.tuple #[.string ⟨(speltF ⟨1, fn, num, text, at'⟩).1.toArray⟩, errV 36 (speltF ⟨1, fn, num, text, at'⟩).2]) ∧ Below w.heap.size w w' := by
  have hl := itoa_len hn
  by_cases hb : fn = 0 ∧ text = []
  · obtain ⟨rfl, rfl⟩ := hb
    by_cases h0 : num < 0
    · have hp := itoa_pos h0
      have ht := neg_text h0
      refine enter (args := [_]) (m := []) (F := []) Tryz.func43 rfl Tryz.ntmps43 (by simp) rfl ?_
      (repeat' (first|refine zza ?_|refine zc9 ?_|refine zzb fun w hw => ?_|refine zzh fun _ => ?_|refine zzi fun _ _ => ?_|refine zzj (fun _ => ?_) fun _ => ?_))
      (apply WL_callV; rfl; rfl; rfl; (intro W hW; exact itoa_call num hn W (hG.pow.below hW.below)))
      (repeat' (first|refine zza ?_|refine zc9 ?_|refine zzb fun w hw => ?_|refine zzh fun _ => ?_|refine zzi fun _ _ => ?_|refine zzj (fun _ => ?_) fun _ => ?_))
      refine CW_seq ?_
      (repeat' (first|refine zza ?_|refine zc9 ?_|refine zzb fun w hw => ?_|refine zzh fun _ => ?_|refine zzi fun _ _ => ?_|refine zzj (fun _ => ?_) fun _ => ?_))
      exact ⟨by rw [spelt_1g, ← ht, errV_zero]; rfl, hw.below⟩
    · have ht := itoa_nonneg h0
      refine enter (args := [_]) (m := []) (F := []) Tryz.func43 rfl Tryz.ntmps43 (by simp) rfl ?_
      (repeat' (first|refine zza ?_|refine zc9 ?_|refine zzb fun w hw => ?_|refine zzh fun _ => ?_|refine zzi fun _ _ => ?_|refine zzj (fun _ => ?_) fun _ => ?_))
      (apply WL_callV; rfl; rfl; rfl; (intro W hW; exact itoa_call num hn W (hG.pow.below hW.below)))
      (repeat' (first|refine zza ?_|refine zc9 ?_|refine zzb fun w hw => ?_|refine zzh fun _ => ?_|refine zzi fun _ _ => ?_|refine zzj (fun _ => ?_) fun _ => ?_))
      refine CW_seq ?_
      (repeat' (first|refine zza ?_|refine zc9 ?_|refine zzb fun w hw => ?_|refine zzh fun _ => ?_|refine zzi fun _ _ => ?_|refine zzj (fun _ => ?_) fun _ => ?_))
      exact ⟨by rw [spelt_1g, ← ht, errV_zero], hw.below⟩
  · have hb' : ¬ fn = 0 ∨ ¬ text = [] := Decidable.not_and_iff_not_or_not.1 hb
    by_cases h0 : num < 0
    · have hp := itoa_pos h0
      refine enter (args := [_]) (m := []) (F := []) Tryz.func43 rfl Tryz.ntmps43 (by simp) rfl ?_
      (repeat' (first|refine zza ?_|refine zc9 ?_|refine zzb fun w hw => ?_|refine zzh fun _ => ?_|refine zzi fun _ _ => ?_|refine zzj (fun _ => ?_) fun _ => ?_))
      (apply WL_callV; rfl; rfl; rfl; (intro W hW; exact itoa_call num hn W (hG.pow.below hW.below)))
      (repeat' (first|refine zza ?_|refine zc9 ?_|refine zzb fun w hw => ?_|refine zzh fun _ => ?_|refine zzi fun _ _ => ?_|refine zzj (fun _ => ?_) fun _ => ?_))
      refine CW_seq ?_
      (repeat' (first|refine zza ?_|refine zc9 ?_|refine zzb fun w hw => ?_|refine zzh fun _ => ?_|refine zzi fun _ _ => ?_|refine zzj (fun _ => ?_) fun _ => ?_))
      exact ⟨by rw [spelt_1b hb]; rfl, hw.below⟩
    · refine enter (args := [_]) (m := []) (F := []) Tryz.func43 rfl Tryz.ntmps43 (by simp) rfl ?_
      (repeat' (first|refine zza ?_|refine zc9 ?_|refine zzb fun w hw => ?_|refine zzh fun _ => ?_|refine zzi fun _ _ => ?_|refine zzj (fun _ => ?_) fun _ => ?_))
      (apply WL_callV; rfl; rfl; rfl; (intro W hW; exact itoa_call num hn W (hG.pow.below hW.below)))
      (repeat' (first|refine zza ?_|refine zc9 ?_|refine zzb fun w hw => ?_|refine zzh fun _ => ?_|refine zzi fun _ _ => ?_|refine zzj (fun _ => ?_) fun _ => ?_))
      refine CW_seq ?_
      (repeat' (first|refine zza ?_|refine zc9 ?_|refine zzb fun w hw => ?_|refine zzh fun _ => ?_|refine zzi fun _ _ => ?_|refine zzj (fun _ => ?_) fun _ => ?_))
      exact ⟨by rw [spelt_1b hb]; rfl, hw.below⟩

set_option maxHeartbeats 1000000 in
set_option maxRecDepth 100000 in
theorem lex_spelt2 (fn num at' : Int) (text : List UInt8) (hl : text.length ≤ 4294967280) (w : World) (hG : GlobA w) : Calls Tryz.prog 43 #[.agg #[.int .i64 2, .int .i64 fn, .int .i64 num, .string ⟨text.toArray⟩, .int .i64 at']] w fun e w' => e = .returned (.tuple #[.string ⟨(speltF ⟨2, fn, num, text, at'⟩).1.toArray⟩, errV 36 (speltF ⟨2, fn, num, text, at'⟩).2]) ∧ Below w.heap.size w w' := by
  have hd := dblQ_len text
  by_cases hb : fn = 0 ∧ num = 0
  · obtain ⟨rfl, rfl⟩ := hb
    cases hq : quotF text with
    | true =>
      refine enter (args := [_]) (m := []) (F := []) Tryz.func43 rfl Tryz.ntmps43 (by simp) rfl ?_
      (repeat' (first|refine zza ?_|refine zc9 ?_|refine zzb fun w hw => ?_|refine zzh fun _ => ?_|refine zzi fun _ _ => ?_|refine zzj (fun _ => ?_) fun _ => ?_))
      (apply WL_callV; rfl; rfl; rfl; (intro W hW; exact lex_printed text (by omega) W (hG.below hW.below)))
      rw [hq]
      (repeat' (first|refine zza ?_|refine zc9 ?_|refine zzb fun w hw => ?_|refine zzh fun _ => ?_|refine zzi fun _ _ => ?_|refine zzj (fun _ => ?_) fun _ => ?_))
      (apply WL_callV; rfl; rfl; rfl; (intro W hW; exact replace_call text hl W (hG.maxl.below hW.below)))
      (repeat' (first|refine zza ?_|refine zc9 ?_|refine zzb fun w hw => ?_|refine zzh fun _ => ?_|refine zzi fun _ _ => ?_|refine zzj (fun _ => ?_) fun _ => ?_))
      exact ⟨by rw [spelt_2g hq]; rfl, hw.below⟩
    | false =>
      refine enter (args := [_]) (m := []) (F := []) Tryz.func43 rfl Tryz.ntmps43 (by simp) rfl ?_
      (repeat' (first|refine zza ?_|refine zc9 ?_|refine zzb fun w hw => ?_|refine zzh fun _ => ?_|refine zzi fun _ _ => ?_|refine zzj (fun _ => ?_) fun _ => ?_))
      (apply WL_callV; rfl; rfl; rfl; (intro W hW; exact lex_printed text (by omega) W (hG.below hW.below)))
      rw [hq]
      (repeat' (first|refine zza ?_|refine zc9 ?_|refine zzb fun w hw => ?_|refine zzh fun _ => ?_|refine zzi fun _ _ => ?_|refine zzj (fun _ => ?_) fun _ => ?_))
      exact ⟨by rw [spelt_2q hq]; rfl, hw.below⟩
  · have hb' : ¬ fn = 0 ∨ ¬ num = 0 := Decidable.not_and_iff_not_or_not.1 hb
    refine enter (args := [_]) (m := []) (F := []) Tryz.func43 rfl Tryz.ntmps43 (by simp) rfl ?_
    (repeat' (first|refine zza ?_|refine zc9 ?_|refine zzb fun w hw => ?_|refine zzh fun _ => ?_|refine zzi fun _ _ => ?_|refine zzj (fun _ => ?_) fun _ => ?_))
    exact ⟨by rw [spelt_2b hb]; rfl, hw.below⟩

set_option maxHeartbeats 1000000 in
set_option maxRecDepth 100000 in
theorem lex_spelt3 (fn num at' : Int) (text : List UInt8) (hl : text.length ≤ 4294967280) (w : World) : Calls Tryz.prog 43 #[.agg #[.int .i64 3, .int .i64 fn, .int .i64 num, .string ⟨text.toArray⟩, .int .i64 at']] w fun e w' => e = .returned (.tuple #[.string ⟨(speltF ⟨3, fn, num, text, at'⟩).1.toArray⟩, errV 36 (speltF ⟨3, fn, num, text, at'⟩).2]) ∧ Below w.heap.size w w' := by
  by_cases hb : fn = 0 ∧ num = 0
  · obtain ⟨rfl, rfl⟩ := hb
    refine enter (args := [_]) (m := []) (F := []) Tryz.func43 rfl Tryz.ntmps43 (by simp) rfl ?_
    (repeat' (first|refine zza ?_|refine zc9 ?_|refine zzb fun w hw => ?_|refine zzh fun _ => ?_|refine zzi fun _ _ => ?_|refine zzj (fun _ => ?_) fun _ => ?_))
    (apply WQ_callV; rfl; rfl; rfl; (intro W hW; exact lex_named text (by omega) W))
    (repeat' (first|refine zza ?_|refine zc9 ?_|refine zzb fun w hw => ?_|refine zzh fun _ => ?_|refine zzi fun _ _ => ?_|refine zzj (fun _ => ?_) fun _ => ?_))
    exact ⟨by rw [spelt_3g], hw.below⟩
  · have hb' : ¬ fn = 0 ∨ ¬ num = 0 := Decidable.not_and_iff_not_or_not.1 hb
    refine enter (args := [_]) (m := []) (F := []) Tryz.func43 rfl Tryz.ntmps43 (by simp) rfl ?_
    (repeat' (first|refine zza ?_|refine zc9 ?_|refine zzb fun w hw => ?_|refine zzh fun _ => ?_|refine zzi fun _ _ => ?_|refine zzj (fun _ => ?_) fun _ => ?_))
    exact ⟨by rw [spelt_3b hb]; rfl, hw.below⟩

set_option maxHeartbeats 1000000 in
set_option maxRecDepth 100000 in
theorem lex_spelt4 (fn num at' : Int) (text : List UInt8) (w : World) : Calls Tryz.prog 43 #[.agg #[.int .i64 4, .int .i64 fn, .int .i64 num, .string ⟨text.toArray⟩, .int .i64 at']] w fun e w' => e = .returned (.tuple #[.string ⟨(speltF ⟨4, fn, num, text, at'⟩).1.toArray⟩, errV 36 (speltF ⟨4, fn, num, text, at'⟩).2]) ∧ Below w.heap.size w w' := by
  by_cases hb : num = 0 ∧ text = []
  · obtain ⟨rfl, rfl⟩ := hb
    by_cases hg : glyphN fn = 0
    · have hT : glyphT fn = [] := by
        by_cases hf : 1 ≤ fn ∧ fn ≤ 34
        · exact absurd hg (glyph_in hf).1
        · exact glyphT_out (by omega)
      refine enter (args := [_]) (m := []) (F := []) Tryz.func43 rfl Tryz.ntmps43 (by simp) rfl ?_
      (repeat' (first|refine zza ?_|refine zc9 ?_|refine zzb fun w hw => ?_|refine zzh fun _ => ?_|refine zzi fun _ _ => ?_|refine zzj (fun _ => ?_) fun _ => ?_))
      (apply WL_callV; rfl; rfl; rfl; (intro W hW; exact lex_glyphOf fn W))
      (repeat' (first|refine zza ?_|refine zc9 ?_|refine zzb fun w hw => ?_|refine zzh fun _ => ?_|refine zzi fun _ _ => ?_|refine zzj (fun _ => ?_) fun _ => ?_))
      exact ⟨by rw [spelt_4g, if_pos hT]; rfl, hw.below⟩
    · obtain ⟨hT, hE⟩ := encode_glyph hg
      refine enter (args := [_]) (m := []) (F := []) Tryz.func43 rfl Tryz.ntmps43 (by simp) rfl ?_
      (repeat' (first|refine zza ?_|refine zc9 ?_|refine zzb fun w hw => ?_|refine zzh fun _ => ?_|refine zzi fun _ _ => ?_|refine zzj (fun _ => ?_) fun _ => ?_))
      (apply WL_callV; rfl; rfl; rfl; (intro W hW; exact lex_glyphOf fn W))
      (repeat' (first|refine zza ?_|refine zc9 ?_|refine zzb fun w hw => ?_|refine zzh fun _ => ?_|refine zzi fun _ _ => ?_|refine zzj (fun _ => ?_) fun _ => ?_))
      rw [hE]
      exact ⟨by rw [spelt_4g, if_neg hT]; rfl, hw.below⟩
  · have hb' : ¬ num = 0 ∨ ¬ text = [] := Decidable.not_and_iff_not_or_not.1 hb
    refine enter (args := [_]) (m := []) (F := []) Tryz.func43 rfl Tryz.ntmps43 (by simp) rfl ?_
    (repeat' (first|refine zza ?_|refine zc9 ?_|refine zzb fun w hw => ?_|refine zzh fun _ => ?_|refine zzi fun _ _ => ?_|refine zzj (fun _ => ?_) fun _ => ?_))
    (apply WL_callV; rfl; rfl; rfl; (intro W hW; exact lex_glyphOf fn W))
    (repeat' (first|refine zza ?_|refine zc9 ?_|refine zzb fun w hw => ?_|refine zzh fun _ => ?_|refine zzi fun _ _ => ?_|refine zzj (fun _ => ?_) fun _ => ?_))
    exact ⟨by rw [spelt_4b hb]; rfl, hw.below⟩

set_option maxHeartbeats 1000000 in
set_option maxRecDepth 100000 in
theorem lex_spelt5 (kind fn num at' : Int) (text : List UInt8) (hk : kind ≠ 1 ∧ kind ≠ 2 ∧ kind ≠ 3 ∧ kind ≠ 4) (w : World) : Calls Tryz.prog 43 #[.agg #[.int .i64 kind, .int .i64 fn, .int .i64 num, .string ⟨text.toArray⟩, .int .i64 at']] w fun e w' => e = .returned (.tuple #[.string ⟨(speltF ⟨kind, fn, num, text, at'⟩).1.toArray⟩, errV 36 (speltF ⟨kind, fn, num, text, at'⟩).2]) ∧ Below w.heap.size w w' := by
  by_cases hb : fn = 0 ∧ num = 0 ∧ text = []
  · obtain ⟨rfl, rfl, rfl⟩ := hb
    by_cases hg : 5 ≤ kind ∧ kind ≤ 20
    · obtain ⟨hT, hE⟩ := encode_sign hg
      refine enter (args := [_]) (m := []) (F := []) Tryz.func43 rfl Tryz.ntmps43 (by simp) rfl ?_
      (repeat' (first|refine zza ?_|refine zc9 ?_|refine zzb fun w hw => ?_|refine zzh fun _ => ?_|refine zzi fun _ _ => ?_|refine zzj (fun _ => ?_) fun _ => ?_))
      (apply WL_callV; rfl; rfl; rfl; (intro W hW; exact lex_signOf kind W))
      (repeat' (first|refine zza ?_|refine zc9 ?_|refine zzb fun w hw => ?_|refine zzh fun _ => ?_|refine zzi fun _ _ => ?_|refine zzj (fun _ => ?_) fun _ => ?_))
      rw [hE]
      exact ⟨by rw [spelt_5g hk, if_neg hT]; rfl, hw.below⟩
    · have hT : signT kind = [] := signT_out (by omega)
      refine enter (args := [_]) (m := []) (F := []) Tryz.func43 rfl Tryz.ntmps43 (by simp) rfl ?_
      (repeat' (first|refine zza ?_|refine zc9 ?_|refine zzb fun w hw => ?_|refine zzh fun _ => ?_|refine zzi fun _ _ => ?_|refine zzj (fun _ => ?_) fun _ => ?_))
      all_goals exact ⟨by rw [spelt_5g hk, if_pos hT]; rfl, hw.below⟩
  · have hb' : ¬ fn = 0 ∨ ¬ num = 0 ∨ ¬ text = [] := (Decidable.not_and_iff_not_or_not.1 hb).imp id fun h => Decidable.not_and_iff_not_or_not.1 h
    refine enter (args := [_]) (m := []) (F := []) Tryz.func43 rfl Tryz.ntmps43 (by simp) rfl ?_
    (repeat' (first|refine zza ?_|refine zc9 ?_|refine zzb fun w hw => ?_|refine zzh fun _ => ?_|refine zzi fun _ _ => ?_|refine zzj (fun _ => ?_) fun _ => ?_))
    exact ⟨by rw [spelt_5b hk hb]; rfl, hw.below⟩

theorem lex_spelt (t : Tok) (hn : I64 t.num) (hl : t.text.length ≤ 4294967280) (w : World) (hG : GlobA w) : Calls Tryz.prog 43 #[.agg (tokE t).toArray] w fun e w' => e = .returned (.tuple #[.string ⟨(speltF t).1.toArray⟩, errV 36 (speltF t).2]) ∧ Below w.heap.size w w' := by
  obtain ⟨kind, fn, num, text, at'⟩ := t
  by_cases h1 : kind = 1
  · subst h1; exact lex_spelt1 fn num at' text hn w hG
  by_cases h2 : kind = 2
  · subst h2; exact lex_spelt2 fn num at' text hl w hG
  by_cases h3 : kind = 3
  · subst h3; exact lex_spelt3 fn num at' text hl w
  by_cases h4 : kind = 4
  · subst h4; exact lex_spelt4 fn num at' text w
  · exact lex_spelt5 kind fn num at' text ⟨h1, h2, h3, h4⟩ w
end Go.Proofs.YtgjmgmejojbdeaaGreatDoor
