/-
  lex.reader: word.
-/
import Derived.Test.YtngeooflfkpikaaGreatDoorZGo
import Derived.Test.YtngeooflfkpikaaGreatDoorZRead5
namespace Go.Proofs.YtngeooflfkpikaaGreatDoor
open Go.RowKit
theorem decode_call {l : List UInt8} (hne : l ≠ []) (w : World) (hT : Tabs w) : Calls Tryz.prog 198 #[.string ⟨l.toArray⟩] w fun e w' => e = .returned (.tuple #[.int .i32 ((Lib.decodeL l).1 : Int), .int .i64 ((Lib.decodeL l).2 : Int)]) ∧ Below w.heap.size w w' := by
  have h := Tryz.utf8_DecodeRuneInString ⟨l.toArray⟩ w hT
  have e : Lib.decodeGo ⟨l.toArray⟩ = Lib.decodeL l := by
    unfold Lib.decodeGo Lib.decodeL
    rw [if_neg]
    simpa [ByteArray.size] using hne
  rw [e] at h
  exact h
theorem word_digit {b : UInt8} {t : List UInt8} (h : isDigitB b = true) : wordF (b :: t) = match numF false ((b :: t).takeWhile isDigitB) with
    | some v => (0, ⟨1, 0, v, [], 0⟩, ((b :: t).takeWhile isDigitB).length)
    | none => (6, default, 0) := by
  have hp : List.isPrefixOf [194, 175] (b :: t) = false := by
    rw [neg_decode, decode_ascii1 (isD_lt h)]
    have : ¬ b.toNat = 175 := by have := isD_lt h; omega
    simp [this]
  have ht : (b :: t).takeWhile isDigitB ≠ [] := by rw [List.takeWhile_cons, h]; simp
  unfold wordF
  simp only [hp, Bool.false_eq_true, if_false, if_pos ht, Nat.zero_add]
  rfl
theorem word_letter {b : UInt8} {t : List UInt8} (h : isLetterB b = true) : wordF (b :: t) = if 12 < ((b :: t).takeWhile isPartB).length then (7, default, 0) else (0, ⟨3, 0, 0, (b :: t).takeWhile isPartB, 0⟩, ((b :: t).takeWhile isPartB).length) := by
  obtain ⟨h1, h2, _⟩ := letter_bd h
  rw [word_rest h2 h1, if_pos h]
theorem word_neg {t : List UInt8} : wordF (194 :: 175 :: t) = (if t.takeWhile isDigitB ≠ [] then (match numF true (t.takeWhile isDigitB) with
    | some v => (0, ⟨1, 0, v, [], 0⟩, 2 + (t.takeWhile isDigitB).length)
    | none => (6, default, 0)) else (1, default, 0) : Int × Tok × Nat) := by
  have hp : List.isPrefixOf [194, 175] ((194 : UInt8) :: 175 :: t) = true := by simp [List.isPrefixOf]
  have hd : ((194 : UInt8) :: 175 :: t).drop 2 = t := rfl
  unfold wordF
  simp only [hp, if_true, hd]
  rfl
theorem neg_form {l : List UInt8} (hne : l ≠ []) (h : (Lib.decodeL l).1 = 175) : ∃ t, l = 194 :: 175 :: t ∧ (Lib.decodeL l).2 = 2 := by
  have e : encB 175 = [194, 175] := by decide
  have hp : List.isPrefixOf [194, 175] l = true := by rw [← e, prefix_decode (.inl (by omega)) hne, h]; simp
  have h2 := prefix_len (n := 175) (.inl (by omega)) (l := l) (by rw [e]; exact hp)
  obtain ⟨t, rfl⟩ := List.isPrefixOf_iff_prefix.1 hp
  exact ⟨t, rfl, by rw [h2, e]; rfl⟩
/-- what word tells -/
def WordPost (src : List UInt8) (pos : Nat) (b : Nat) (ws : Value) (G : Rd) (w : World) (fp : List Nat) (e : Ending) (w' : World) : Prop :=
  (∃ t n, wordF (src.drop pos) = (0, t, n) ∧ e = .returned (.agg (tokE { t with at_ := (pos : Int) }).toArray) ∧ Holds w fp (ro w fp G :: [rdr b src (pos + n) ws]) w') ∨
  (∃ x t n, x ≠ 0 ∧ wordF (src.drop pos) = (x, t, n) ∧ e = .panicked (fltP x pos) ∧ Keep w fp w')
theorem chars_ok {b : Nat} {src : List UInt8} {pos n : Nat} {ws : Value} {at' : Int} {G : Rd} {t : List UInt8} (hq : qscan (src.drop pos) = some (t, n)) (hQ : quotF t = true) (hG : LexG G) (w : World) (fp : List Nat) (hm : Own [rdr b src pos ws] fp w) (hs : Rd.sub G fp w) (hp : pos ≤ src.length) (hl : src.length ≤ 1000) :
    Calls Tryz.prog 201 #[.pointer (some ⟨b, 0, none⟩), .int .i64 at'] w fun e w' => e = .returned (.agg (tokE ⟨2, 0, 0, t, at'⟩).toArray) ∧ Holds w fp (ro w fp G :: [rdr b src (pos + n) ws]) w' :=
  (lex_chars b src pos ws at' G hG w fp hm hs hp hl).mono fun e w' h => by
    rcases h with ⟨t', n', h1, h2, h3, h4⟩ | ⟨h1 | ⟨t', n', h1, h2⟩, _⟩
    · rw [hq] at h1; simp only [Option.some.injEq, Prod.mk.injEq] at h1; obtain ⟨rfl, rfl⟩ := h1; exact ⟨h3, h4⟩
    · rw [hq] at h1; cases h1
    · rw [hq] at h1; simp only [Option.some.injEq, Prod.mk.injEq] at h1; obtain ⟨rfl, rfl⟩ := h1; rw [hQ] at h2; cases h2
theorem chars_bad {b : Nat} {src : List UInt8} {pos : Nat} {ws : Value} {at' : Int} {G : Rd} (hq : ∀ t n, qscan (src.drop pos) = some (t, n) → quotF t = false) (hG : LexG G) (w : World) (fp : List Nat) (hm : Own [rdr b src pos ws] fp w) (hs : Rd.sub G fp w) (hp : pos ≤ src.length) (hl : src.length ≤ 1000) :
    Calls Tryz.prog 201 #[.pointer (some ⟨b, 0, none⟩), .int .i64 at'] w fun e w' => e = .panicked (fltP 1 at') ∧ Keep w fp w' :=
  (lex_chars b src pos ws at' G hG w fp hm hs hp hl).mono fun e w' h => by
    rcases h with ⟨t', n', h1, h2, h3, h4⟩ | ⟨_, h3, h4⟩
    · rw [hq _ _ h1] at h2; cases h2
    · exact ⟨h3, h4⟩
theorem drop_add2 {src t : List UInt8} {pos n : Nat} {l : List UInt8} (h : src.drop pos = l) (h2 : l.drop n = t) : src.drop (pos + n) = t := by rw [← List.drop_drop, h, h2]
set_option maxHeartbeats 4000000 in
set_option maxRecDepth 100000 in
theorem lex_word (b : Nat) (src : List UInt8) (pos : Nat) (ws : Value) (G : Rd) (hG : LexG G) (w : World) (fp : List Nat) (hm : Own [rdr b src pos ws] fp w) (hs : Rd.sub G fp w) (hp : pos < src.length) (hl : src.length ≤ 1000) :
    Calls Tryz.prog 109 #[.pointer (some ⟨b, 0, none⟩)] w (WordPost src pos b ws G w fp) := by
  have hdl : (src.drop pos).length = src.length - pos := by simp
  obtain ⟨c0, t, hL⟩ : ∃ c0 t, src.drop pos = c0 :: t := by
    cases h : src.drop pos with
    | nil => rw [h] at hdl; simp at hdl; omega
    | cons c0 t => exact ⟨c0, t, rfl⟩
  have hLl : src.length = pos + (t.length + 1) := by rw [hL] at hdl; simp at hdl; omega
  have hR : ∀ W, W.heap[b]? = some (.cells (rdC src pos ws) 114 (0, 0)) → Calls Tryz.prog 107 #[.pointer (some ⟨b, 0, none⟩)] W fun e w' => e = .returned (.string ⟨(c0 :: t).toArray⟩) ∧ Below W.heap.size W w' := fun W h => by
    have := lex_rest b src pos ws W h (by omega)
    rwa [hL] at this
  have hC := fun W hl' => decode_call (l := c0 :: t) (by simp) W (hG.tabs hl')
  have hbd := c0.toNat_lt
  obtain ⟨hn1, hn2⟩ := decode_len (b := c0) (t := t)
  simp only [List.length_cons] at hn2
  refine enterR (args := [_]) hs hm Tryz.func109 rfl Tryz.ntmps109 (by simp) ?_
  (repeat' (first|refine zza ?_|refine zc9 ?_|refine zzb fun w hw => ?_|refine zzh fun _ => ?_|refine zzi fun _ _ => ?_|refine zzj (fun _ => ?_) fun _ => ?_))
  (apply WL_callV; rfl; rfl; rfl; (intro W hW; exact hR W (hW.rdrAt zpk)))
  (repeat' (first|refine zza ?_|refine zc9 ?_|refine zzb fun w hw => ?_|refine zzh fun _ => ?_|refine zzi fun _ _ => ?_|refine zzj (fun _ => ?_) fun _ => ?_))
  cases hd : isDigitB c0 with
  | true =>
    have hlt := isD_lt hd
    have hne : (src.drop pos).takeWhile isDigitB ≠ [] := by rw [hL, List.takeWhile_cons, hd]; simp
    have hwd := word_digit (t := t) hd
    rw [← hL] at hwd
    rw [decode_ascii1 hlt] at hC
    (apply WL_callV; rfl; rfl; rfl; (intro W hW; exact hC W (hW.le zpk)))
    dsimp only
    (repeat' (first|refine zza ?_|refine zc9 ?_|refine zzb fun w hw => ?_|refine zzh fun _ => ?_|refine zzi fun _ _ => ?_|refine zzj (fun _ => ?_) fun _ => ?_))
    (apply WL_callV; rfl; rfl; rfl; (intro W hW; exact lex_digit c0 W))
    rw [hd]
    (repeat' (first|refine zza ?_|refine zc9 ?_|refine zzb fun w hw => ?_|refine zzh fun _ => ?_|refine zzi fun _ _ => ?_|refine zzj (fun _ => ?_) fun _ => ?_))
    cases hv : numF false ((src.drop pos).takeWhile isDigitB) with
    | some v =>
      rw [hv] at hwd
      (apply WL_callU1 (h := rdr b src pos ws); (first | exact .here | exact .there .here | exact .there (.there .here) | exact .there (.there (.there .here)) | exact .there (.there (.there (.there .here))) | exact .there (.there (.there (.there (.there .here)))) | exact .there (.there (.there (.there (.there (.there .here)))))); (first | exact .here | exact .there .here | exact .there (.there .here) | exact .there (.there (.there .here)) | exact .there (.there (.there (.there .here))) | exact .there (.there (.there (.there (.there .here)))) | exact .there (.there (.there (.there (.there (.there .here)))))); rfl; rfl; rfl; (intro W fp hO hS; exact lex_number_ok b src pos ws pos false v hne hv G W fp hO hS (by omega) hl))
      (repeat' (first|refine zza ?_|refine zc9 ?_|refine zzb fun w hw => ?_|refine zzh fun _ => ?_|refine zzi fun _ _ => ?_|refine zzj (fun _ => ?_) fun _ => ?_))
      exact .inl ⟨_, _, hwd, rfl, hw.ent zent⟩
    | none =>
      rw [hv] at hwd
      (apply WL_callUP1 (h := rdr b src pos ws); (first | exact .here | exact .there .here | exact .there (.there .here) | exact .there (.there (.there .here)) | exact .there (.there (.there (.there .here))) | exact .there (.there (.there (.there (.there .here)))) | exact .there (.there (.there (.there (.there (.there .here)))))); (first | exact .here | exact .there .here | exact .there (.there .here) | exact .there (.there (.there .here)) | exact .there (.there (.there (.there .here))) | exact .there (.there (.there (.there (.there .here)))) | exact .there (.there (.there (.there (.there (.there .here)))))); rfl; rfl; rfl; (intro W fp hO hS; exact lex_number_bad b src pos ws pos false hne hv G hG W fp hO hS (by omega) hl))
      (repeat' (first|refine zza ?_|refine zc9 ?_|refine zzb fun w hw => ?_|refine zzh fun _ => ?_|refine zzi fun _ _ => ?_|refine zzj (fun _ => ?_) fun _ => ?_))
      exact .inr ⟨6, _, _, by decide, hwd, rfl, hw.keep⟩
  | false =>
    by_cases h128 : c0.toNat < 128
    · have hD := decode_ascii1 (t := t) h128
      rw [hD] at hC
      (apply WL_callV; rfl; rfl; rfl; (intro W hW; exact hC W (hW.le zpk)))
      dsimp only
      (repeat' (first|refine zza ?_|refine zc9 ?_|refine zzb fun w hw => ?_|refine zzh fun _ => ?_|refine zzi fun _ _ => ?_|refine zzj (fun _ => ?_) fun _ => ?_))
      (apply WL_callV; rfl; rfl; rfl; (intro W hW; exact lex_digit c0 W))
      rw [hd]
      (repeat' (first|refine zza ?_|refine zc9 ?_|refine zzb fun w hw => ?_|refine zzh fun _ => ?_|refine zzi fun _ _ => ?_|refine zzj (fun _ => ?_) fun _ => ?_))
      (apply WL_callV; rfl; rfl; rfl; (intro W hW; exact lex_letter c0 W))
      cases hlet : isLetterB c0 with
      | true =>
        have hwd := word_letter (t := t) hlet
        rw [← hL] at hwd
        have htl : ((src.drop pos).takeWhile isPartB).length ≤ src.length := by have := (List.takeWhile_prefix isPartB (l := src.drop pos)).length_le; omega
        (repeat' (first|refine zza ?_|refine zc9 ?_|refine zzb fun w hw => ?_|refine zzh fun _ => ?_|refine zzi fun _ _ => ?_|refine zzj (fun _ => ?_) fun _ => ?_))
        (apply WL_callU1 (h := rdr b src pos ws); (first | exact .here | exact .there .here | exact .there (.there .here) | exact .there (.there (.there .here)) | exact .there (.there (.there (.there .here))) | exact .there (.there (.there (.there (.there .here)))) | exact .there (.there (.there (.there (.there (.there .here)))))); (first | exact .here | exact .there .here | exact .there (.there .here) | exact .there (.there (.there .here)) | exact .there (.there (.there (.there .here))) | exact .there (.there (.there (.there (.there .here)))) | exact .there (.there (.there (.there (.there (.there .here)))))); rfl; rfl; rfl; (intro W fp hO hS; exact lex_while b src pos ws 194 isPartB lex_within G W fp hO hS (by omega) (by omega)))
        (repeat' (first|refine zza ?_|refine zc9 ?_|refine zzb fun w hw => ?_|refine zzh fun _ => ?_|refine zzi fun _ _ => ?_|refine zzj (fun _ => ?_) fun _ => ?_))
        by_cases h12 : 12 < ((src.drop pos).takeWhile isPartB).length
        · rw [if_pos h12] at hwd
          (repeat' (first|refine zza ?_|refine zc9 ?_|refine zzb fun w hw => ?_|refine zzh fun _ => ?_|refine zzi fun _ _ => ?_|refine zzj (fun _ => ?_) fun _ => ?_))
          (try refine CW_seq ?_)
          (repeat' (first|refine zza ?_|refine zc9 ?_|refine zzb fun w hw => ?_|refine zzh fun _ => ?_|refine zzi fun _ _ => ?_|refine zzj (fun _ => ?_) fun _ => ?_))
          exact .inr ⟨7, _, _, by decide, hwd, rfl, hw.keep⟩
        · rw [if_neg h12] at hwd
          (repeat' (first|refine zza ?_|refine zc9 ?_|refine zzb fun w hw => ?_|refine zzh fun _ => ?_|refine zzi fun _ _ => ?_|refine zzj (fun _ => ?_) fun _ => ?_))
          (try refine CW_seq ?_)
          (repeat' (first|refine zza ?_|refine zc9 ?_|refine zzb fun w hw => ?_|refine zzh fun _ => ?_|refine zzi fun _ _ => ?_|refine zzj (fun _ => ?_) fun _ => ?_))
          exact .inl ⟨_, _, hwd, rfl, hw.ent zent⟩
      | false =>
        have hwd := word_other (t := t) hd hlet (by rw [hD]; show c0.toNat ≠ 175; omega)
        rw [hD, ← hL] at hwd
        have ep : ((pos : Nat) : Int) + ((1 : Nat) : Int) = ((pos + 1 : Nat) : Int) := by omega
        have hL1 : src.drop (pos + 1) = t := drop_add2 hL rfl
        dsimp only at hwd
        by_cases h39 : c0 = 39
        · have h39n : c0.toNat = 39 := by rw [h39]; rfl
          rw [if_pos h39] at hwd
          (repeat' (first|refine zza ?_|refine zc9 ?_|refine zzb fun w hw => ?_|refine zzh fun _ => ?_|refine zzi fun _ _ => ?_|refine zzj (fun _ => ?_) fun _ => ?_))
          (try refine CW_seq ?_)
          (repeat' (first|refine zza ?_|refine zc9 ?_|refine zzb fun w hw => ?_|refine zzh fun _ => ?_|refine zzi fun _ _ => ?_|refine zzj (fun _ => ?_) fun _ => ?_))
          rw [ep]
          cases hq : qscan t with
          | none =>
            rw [hq] at hwd
            (apply WL_callUP1 (h := rdr b src (pos + 1) ws); (first | exact .here | exact .there .here | exact .there (.there .here) | exact .there (.there (.there .here)) | exact .there (.there (.there (.there .here))) | exact .there (.there (.there (.there (.there .here)))) | exact .there (.there (.there (.there (.there (.there .here)))))); (first | exact .here | exact .there .here | exact .there (.there .here) | exact .there (.there (.there .here)) | exact .there (.there (.there (.there .here))) | exact .there (.there (.there (.there (.there .here)))) | exact .there (.there (.there (.there (.there (.there .here)))))); rfl; rfl; rfl; (intro W fp hO hS; exact chars_bad (fun t' n' h => by rw [hL1, hq] at h; cases h) hG W fp hO hS (by omega) hl))
            (repeat' (first|refine zza ?_|refine zc9 ?_|refine zzb fun w hw => ?_|refine zzh fun _ => ?_|refine zzi fun _ _ => ?_|refine zzj (fun _ => ?_) fun _ => ?_))
            exact .inr ⟨1, _, _, by decide, hwd, rfl, hw.keep⟩
          | some x =>
            obtain ⟨tx, nx⟩ := x
            rw [hq] at hwd
            dsimp only at hwd
            cases hQ : quotF tx with
            | true =>
              rw [if_pos hQ] at hwd
              (apply WL_callU1 (h := rdr b src (pos + 1) ws); (first | exact .here | exact .there .here | exact .there (.there .here) | exact .there (.there (.there .here)) | exact .there (.there (.there (.there .here))) | exact .there (.there (.there (.there (.there .here)))) | exact .there (.there (.there (.there (.there (.there .here)))))); (first | exact .here | exact .there .here | exact .there (.there .here) | exact .there (.there (.there .here)) | exact .there (.there (.there (.there .here))) | exact .there (.there (.there (.there (.there .here)))) | exact .there (.there (.there (.there (.there (.there .here)))))); rfl; rfl; rfl; (intro W fp hO hS; exact chars_ok (by rw [hL1]; exact hq) hQ hG W fp hO hS (by omega) hl))
              (repeat' (first|refine zza ?_|refine zc9 ?_|refine zzb fun w hw => ?_|refine zzh fun _ => ?_|refine zzi fun _ _ => ?_|refine zzj (fun _ => ?_) fun _ => ?_))
              refine .inl ⟨_, _, hwd, rfl, ?_⟩
              rw [show pos + (nx + 1) = pos + 1 + nx by omega]
              exact hw.ent zent
            | false =>
              rw [if_neg (by rw [hQ]; simp)] at hwd
              (apply WL_callUP1 (h := rdr b src (pos + 1) ws); (first | exact .here | exact .there .here | exact .there (.there .here) | exact .there (.there (.there .here)) | exact .there (.there (.there (.there .here))) | exact .there (.there (.there (.there (.there .here)))) | exact .there (.there (.there (.there (.there (.there .here)))))); (first | exact .here | exact .there .here | exact .there (.there .here) | exact .there (.there (.there .here)) | exact .there (.there (.there (.there .here))) | exact .there (.there (.there (.there (.there .here)))) | exact .there (.there (.there (.there (.there (.there .here)))))); rfl; rfl; rfl; (intro W fp hO hS; exact chars_bad (fun t' n' h => by rw [hL1, hq] at h; simp only [Option.some.injEq, Prod.mk.injEq] at h; obtain ⟨rfl, rfl⟩ := h; exact hQ) hG W fp hO hS (by omega) hl))
              (repeat' (first|refine zza ?_|refine zc9 ?_|refine zzb fun w hw => ?_|refine zzh fun _ => ?_|refine zzi fun _ _ => ?_|refine zzj (fun _ => ?_) fun _ => ?_))
              exact .inr ⟨1, _, _, by decide, hwd, rfl, hw.keep⟩
        · have h39n : ¬ c0.toNat = 39 := fun h => h39 (UInt8.toNat_inj.1 h)
          rw [if_neg h39] at hwd
          (repeat' (first|refine zza ?_|refine zc9 ?_|refine zzb fun w hw => ?_|refine zzh fun _ => ?_|refine zzi fun _ _ => ?_|refine zzj (fun _ => ?_) fun _ => ?_))
          (try refine CW_seq ?_)
          (repeat' (first|refine zza ?_|refine zc9 ?_|refine zzb fun w hw => ?_|refine zzh fun _ => ?_|refine zzi fun _ _ => ?_|refine zzj (fun _ => ?_) fun _ => ?_))
          rw [ep]
          (apply WL_callV; rfl; rfl; rfl; (intro W hW; exact lex_fnOf c0.toNat W))
          by_cases hg : signR glyphC 1 c0.toNat = 0
          · rw [if_neg (by rw [hg]; simp)] at hwd
            rw [hg]
            (repeat' (first|refine zza ?_|refine zc9 ?_|refine zzb fun w hw => ?_|refine zzh fun _ => ?_|refine zzi fun _ _ => ?_|refine zzj (fun _ => ?_) fun _ => ?_))
            refine CW_loopP [(0,_),(2,_),(3,_),(4,_)] zcov (fun x : Nat => [(10, .int .i64 ((x : Int) + 5))]) (fun x => x ≤ 16 ∧ ∀ j, j < x → signC.getD j 0 ≠ c0.toNat) (fun x => 16 - x) 0 ⟨by omega, fun j h => by omega⟩ zcov ?_
            rintro k ⟨hk, hz⟩
            by_cases hlt : k < 16
            · have hgn := signN_C k (List.mem_range.2 hlt)
              (repeat' (first|refine zza ?_|refine zc9 ?_|refine zzb fun w hw => ?_|refine zzh fun _ => ?_|refine zzi fun _ _ => ?_|refine zzj (fun _ => ?_) fun _ => ?_))
              (apply WL_callV; rfl; rfl; rfl; (intro W hW; exact lex_signOf _ W))
              rw [hgn]
              by_cases hc : signC.getD k 0 = c0.toNat
              · have hr : signR signC 1 c0.toNat = k + 1 := by
                  rcases signR_spec signC 1 c0.toNat (by omega) with ⟨_, h2⟩ | ⟨i, h1, h2, h3, h4⟩
                  · exact absurd hc (h2 k hlt)
                  · have : i = k := by
                      rcases Nat.lt_trichotomy i k with h | h | h
                      · exact absurd h2 (hz i h)
                      · exact h
                      · exact absurd hc (h4 k h)
                    omega
                have hcI : (signC.getD k 0 : Int) = (c0.toNat : Int) := by omega
                rw [if_pos (by rw [hr]; omega), hr, show (4 + ((k + 1 : Nat) : Int)) = (k : Int) + 5 by omega] at hwd
                (repeat' (first|refine zza ?_|refine zc9 ?_|refine zzb fun w hw => ?_|refine zzh fun _ => ?_|refine zzi fun _ _ => ?_|refine zzj (fun _ => ?_) fun _ => ?_))
                exact .inl ⟨_, _, hwd, rfl, hw.ent zent⟩
              · have hcI : ¬ (signC.getD k 0 : Int) = (c0.toNat : Int) := by omega
                (repeat' (first|refine zza ?_|refine zc9 ?_|refine zzb fun w hw => ?_|refine zzh fun _ => ?_|refine zzi fun _ _ => ?_|refine zzj (fun _ => ?_) fun _ => ?_))
                refine EX_loop' (k + 1) ⟨?_, Ent.refl, by omega, by omega, fun j hj => ?_⟩
                · rw [show (((k + 1 : Nat)) : Int) + 5 = (k : Int) + 5 + 1 by omega]
                  exact zcov
                · by_cases e : j = k
                  · subst e; exact hc
                  · exact hz j (by omega)
            · have hkl : k = 16 := by omega
              subst hkl
              have hr : signR signC 1 c0.toNat = 0 := by
                rcases signR_spec signC 1 c0.toNat (by omega) with ⟨h1, _⟩ | ⟨i, h1, h2, _, _⟩
                · exact h1
                · exact absurd h2 (hz i h1)
              rw [if_neg (by rw [hr]; simp)] at hwd
              (repeat' (first|refine zza ?_|refine zc9 ?_|refine zzb fun w hw => ?_|refine zzh fun _ => ?_|refine zzi fun _ _ => ?_|refine zzj (fun _ => ?_) fun _ => ?_))
              (try refine CW_seq ?_)
              (repeat' (first|refine zza ?_|refine zc9 ?_|refine zzb fun w hw => ?_|refine zzh fun _ => ?_|refine zzi fun _ _ => ?_|refine zzj (fun _ => ?_) fun _ => ?_))
              exact .inr ⟨1, _, _, by decide, hwd, rfl, hw.keep⟩
          · rw [if_pos hg] at hwd
            (repeat' (first|refine zza ?_|refine zc9 ?_|refine zzb fun w hw => ?_|refine zzh fun _ => ?_|refine zzi fun _ _ => ?_|refine zzj (fun _ => ?_) fun _ => ?_))
            (try refine CW_seq ?_)
            (repeat' (first|refine zza ?_|refine zc9 ?_|refine zzb fun w hw => ?_|refine zzh fun _ => ?_|refine zzi fun _ _ => ?_|refine zzj (fun _ => ?_) fun _ => ?_))
            exact .inl ⟨_, _, hwd, rfl, hw.ent zent⟩
    · have hhi := decode_high (t := t) h128
      have hlet : isLetterB c0 = false := by
        cases h : isLetterB c0 with
        | false => rfl
        | true => exact absurd (isL_lt h) h128
      (apply WL_callV; rfl; rfl; rfl; (intro W hW; exact hC W (hW.le zpk)))
      by_cases h175 : (Lib.decodeL (c0 :: t)).1 = 175
      · obtain ⟨t', ht', h2⟩ := neg_form (l := c0 :: t) (by simp) h175
        have hwd := word_neg (t := t')
        rw [← ht', ← hL] at hwd
        have hL1 : src.drop (pos + 2) = t' := drop_add2 hL (by rw [ht']; rfl)
        have htl : t.length = t'.length + 1 := by simp only [List.cons.injEq] at ht'; rw [ht'.2]; rfl
        have ep : ((pos : Nat) : Int) + ((2 : Nat) : Int) = ((pos + 2 : Nat) : Int) := by omega
        rw [h2]
        (repeat' (first|refine zza ?_|refine zc9 ?_|refine zzb fun w hw => ?_|refine zzh fun _ => ?_|refine zzi fun _ _ => ?_|refine zzj (fun _ => ?_) fun _ => ?_))
        (try refine CW_seq ?_)
        (repeat' (first|refine zza ?_|refine zc9 ?_|refine zzb fun w hw => ?_|refine zzh fun _ => ?_|refine zzi fun _ _ => ?_|refine zzj (fun _ => ?_) fun _ => ?_))
        rw [ep]
        have hR2 := fun W h => lex_rest b src (pos + 2) ws W h (by omega)
        rw [hL1] at hR2
        (apply WL_callV; rfl; rfl; rfl; (intro W hW; exact hR2 W (hW.rdrAt zpk)))
        cases t' with
        | nil =>
          rw [if_neg (by simp)] at hwd
          (repeat' (first|refine zza ?_|refine zc9 ?_|refine zzb fun w hw => ?_|refine zzh fun _ => ?_|refine zzi fun _ _ => ?_|refine zzj (fun _ => ?_) fun _ => ?_))
          (try refine CW_seq ?_)
          (repeat' (first|refine zza ?_|refine zc9 ?_|refine zzb fun w hw => ?_|refine zzh fun _ => ?_|refine zzi fun _ _ => ?_|refine zzj (fun _ => ?_) fun _ => ?_))
          exact .inr ⟨1, _, _, by decide, hwd, rfl, hw.keep⟩
        | cons c1 t1 =>
          have hlc : (c1 :: t1).length = t1.length + 1 := rfl
          have hne : ¬ (c1 :: t1) = [] := by simp
          (repeat' (first|refine zza ?_|refine zc9 ?_|refine zzb fun w hw => ?_|refine zzh fun _ => ?_|refine zzi fun _ _ => ?_|refine zzj (fun _ => ?_) fun _ => ?_))
          (try refine CW_seq ?_)
          (repeat' (first|refine zza ?_|refine zc9 ?_|refine zzb fun w hw => ?_|refine zzh fun _ => ?_|refine zzi fun _ _ => ?_|refine zzj (fun _ => ?_) fun _ => ?_))
          (apply WL_callV; rfl; rfl; rfl; (intro W hW; exact lex_digit c1 W))
          cases hd1 : isDigitB c1 with
          | false =>
            rw [if_neg (by rw [List.takeWhile_cons, hd1]; simp)] at hwd
            (repeat' (first|refine zza ?_|refine zc9 ?_|refine zzb fun w hw => ?_|refine zzh fun _ => ?_|refine zzi fun _ _ => ?_|refine zzj (fun _ => ?_) fun _ => ?_))
            (try refine CW_seq ?_)
            (repeat' (first|refine zza ?_|refine zc9 ?_|refine zzb fun w hw => ?_|refine zzh fun _ => ?_|refine zzi fun _ _ => ?_|refine zzj (fun _ => ?_) fun _ => ?_))
            exact .inr ⟨1, _, _, by decide, hwd, rfl, hw.keep⟩
          | true =>
            have hne : (src.drop (pos + 2)).takeWhile isDigitB ≠ [] := by rw [hL1, List.takeWhile_cons, hd1]; simp
            rw [← hL1, if_pos hne] at hwd
            (repeat' (first|refine zza ?_|refine zc9 ?_|refine zzb fun w hw => ?_|refine zzh fun _ => ?_|refine zzi fun _ _ => ?_|refine zzj (fun _ => ?_) fun _ => ?_))
            (try refine CW_seq ?_)
            (repeat' (first|refine zza ?_|refine zc9 ?_|refine zzb fun w hw => ?_|refine zzh fun _ => ?_|refine zzi fun _ _ => ?_|refine zzj (fun _ => ?_) fun _ => ?_))
            cases hv : numF true ((src.drop (pos + 2)).takeWhile isDigitB) with
            | some v =>
              rw [hv] at hwd
              (apply WL_callU1 (h := rdr b src (pos + 2) ws); (first | exact .here | exact .there .here | exact .there (.there .here) | exact .there (.there (.there .here)) | exact .there (.there (.there (.there .here))) | exact .there (.there (.there (.there (.there .here)))) | exact .there (.there (.there (.there (.there (.there .here)))))); (first | exact .here | exact .there .here | exact .there (.there .here) | exact .there (.there (.there .here)) | exact .there (.there (.there (.there .here))) | exact .there (.there (.there (.there (.there .here)))) | exact .there (.there (.there (.there (.there (.there .here)))))); rfl; rfl; rfl; (intro W fp hO hS; exact lex_number_ok b src (pos + 2) ws pos true v hne hv G W fp hO hS (by omega) hl))
              (repeat' (first|refine zza ?_|refine zc9 ?_|refine zzb fun w hw => ?_|refine zzh fun _ => ?_|refine zzi fun _ _ => ?_|refine zzj (fun _ => ?_) fun _ => ?_))
              refine .inl ⟨_, _, hwd, rfl, ?_⟩
              rw [← Nat.add_assoc]
              exact hw.ent zent
            | none =>
              rw [hv] at hwd
              (apply WL_callUP1 (h := rdr b src (pos + 2) ws); (first | exact .here | exact .there .here | exact .there (.there .here) | exact .there (.there (.there .here)) | exact .there (.there (.there (.there .here))) | exact .there (.there (.there (.there (.there .here)))) | exact .there (.there (.there (.there (.there (.there .here)))))); (first | exact .here | exact .there .here | exact .there (.there .here) | exact .there (.there (.there .here)) | exact .there (.there (.there (.there .here))) | exact .there (.there (.there (.there (.there .here)))) | exact .there (.there (.there (.there (.there (.there .here)))))); rfl; rfl; rfl; (intro W fp hO hS; exact lex_number_bad b src (pos + 2) ws pos true hne hv G hG W fp hO hS (by omega) hl))
              (repeat' (first|refine zza ?_|refine zc9 ?_|refine zzb fun w hw => ?_|refine zzh fun _ => ?_|refine zzi fun _ _ => ?_|refine zzj (fun _ => ?_) fun _ => ?_))
              exact .inr ⟨6, _, _, by decide, hwd, rfl, hw.keep⟩
      · have hwd := word_other (t := t) hd hlet h175
        have h39 : ¬ c0 = 39 := fun e => h128 (by rw [e]; decide)
        rw [if_neg h39] at hwd
        have ep : ((pos : Nat) : Int) + (((Lib.decodeL (c0 :: t)).2 : Nat) : Int) = ((pos + (Lib.decodeL (c0 :: t)).2 : Nat) : Int) := by omega
        have hwL : wordF (src.drop pos) = wordF (c0 :: t) := by rw [hL]
        replace hwd := hwL.trans hwd
        (repeat' (first|refine zza ?_|refine zc9 ?_|refine zzb fun w hw => ?_|refine zzh fun _ => ?_|refine zzi fun _ _ => ?_|refine zzj (fun _ => ?_) fun _ => ?_))
        (try refine CW_seq ?_)
        (repeat' (first|refine zza ?_|refine zc9 ?_|refine zzb fun w hw => ?_|refine zzh fun _ => ?_|refine zzi fun _ _ => ?_|refine zzj (fun _ => ?_) fun _ => ?_))
        rw [ep]
        (apply WL_callV; rfl; rfl; rfl; (intro W hW; exact lex_fnOf (Lib.decodeL (c0 :: t)).1 W))
        by_cases hg : signR glyphC 1 (Lib.decodeL (c0 :: t)).1 = 0
        · rw [if_neg (by rw [hg]; simp)] at hwd
          rw [hg]
          (repeat' (first|refine zza ?_|refine zc9 ?_|refine zzb fun w hw => ?_|refine zzh fun _ => ?_|refine zzi fun _ _ => ?_|refine zzj (fun _ => ?_) fun _ => ?_))
          refine CW_loopP [(0,_),(2,_),(3,_),(4,_)] zcov (fun x : Nat => [(10, .int .i64 ((x : Int) + 5))]) (fun x => x ≤ 16 ∧ ∀ j, j < x → signC.getD j 0 ≠ (Lib.decodeL (c0 :: t)).1) (fun x => 16 - x) 0 ⟨by omega, fun j h => by omega⟩ zcov ?_
          rintro k ⟨hk, hz⟩
          by_cases hlt : k < 16
          · have hgn := signN_C k (List.mem_range.2 hlt)
            (repeat' (first|refine zza ?_|refine zc9 ?_|refine zzb fun w hw => ?_|refine zzh fun _ => ?_|refine zzi fun _ _ => ?_|refine zzj (fun _ => ?_) fun _ => ?_))
            (apply WL_callV; rfl; rfl; rfl; (intro W hW; exact lex_signOf _ W))
            rw [hgn]
            by_cases hc : signC.getD k 0 = (Lib.decodeL (c0 :: t)).1
            · have hr : signR signC 1 (Lib.decodeL (c0 :: t)).1 = k + 1 := by
                rcases signR_spec signC 1 (Lib.decodeL (c0 :: t)).1 (by omega) with ⟨_, h2⟩ | ⟨i, h1, h2, h3, h4⟩
                · exact absurd hc (h2 k hlt)
                · have : i = k := by
                    rcases Nat.lt_trichotomy i k with h | h | h
                    · exact absurd h2 (hz i h)
                    · exact h
                    · exact absurd hc (h4 k h)
                  omega
              have hcI : (signC.getD k 0 : Int) = ((Lib.decodeL (c0 :: t)).1 : Int) := by omega
              rw [if_pos (by rw [hr]; omega), hr, show (4 + ((k + 1 : Nat) : Int)) = (k : Int) + 5 by omega] at hwd
              (repeat' (first|refine zza ?_|refine zc9 ?_|refine zzb fun w hw => ?_|refine zzh fun _ => ?_|refine zzi fun _ _ => ?_|refine zzj (fun _ => ?_) fun _ => ?_))
              exact .inl ⟨_, _, hwd, rfl, hw.ent zent⟩
            · have hcI : ¬ (signC.getD k 0 : Int) = ((Lib.decodeL (c0 :: t)).1 : Int) := by omega
              (repeat' (first|refine zza ?_|refine zc9 ?_|refine zzb fun w hw => ?_|refine zzh fun _ => ?_|refine zzi fun _ _ => ?_|refine zzj (fun _ => ?_) fun _ => ?_))
              refine EX_loop' (k + 1) ⟨?_, Ent.refl, by omega, by omega, fun j hj => ?_⟩
              · rw [show (((k + 1 : Nat)) : Int) + 5 = (k : Int) + 5 + 1 by omega]
                exact zcov
              · by_cases e : j = k
                · subst e; exact hc
                · exact hz j (by omega)
          · have hkl : k = 16 := by omega
            subst hkl
            have hr : signR signC 1 (Lib.decodeL (c0 :: t)).1 = 0 := by
              rcases signR_spec signC 1 (Lib.decodeL (c0 :: t)).1 (by omega) with ⟨h1, _⟩ | ⟨i, h1, h2, _, _⟩
              · exact h1
              · exact absurd h2 (hz i h1)
            rw [if_neg (by rw [hr]; simp)] at hwd
            (repeat' (first|refine zza ?_|refine zc9 ?_|refine zzb fun w hw => ?_|refine zzh fun _ => ?_|refine zzi fun _ _ => ?_|refine zzj (fun _ => ?_) fun _ => ?_))
            (try refine CW_seq ?_)
            (repeat' (first|refine zza ?_|refine zc9 ?_|refine zzb fun w hw => ?_|refine zzh fun _ => ?_|refine zzi fun _ _ => ?_|refine zzj (fun _ => ?_) fun _ => ?_))
            exact .inr ⟨1, _, _, by decide, hwd, rfl, hw.keep⟩
        · rw [if_pos hg] at hwd
          (repeat' (first|refine zza ?_|refine zc9 ?_|refine zzb fun w hw => ?_|refine zzh fun _ => ?_|refine zzi fun _ _ => ?_|refine zzj (fun _ => ?_) fun _ => ?_))
          (try refine CW_seq ?_)
          (repeat' (first|refine zza ?_|refine zc9 ?_|refine zzb fun w hw => ?_|refine zzh fun _ => ?_|refine zzi fun _ _ => ?_|refine zzj (fun _ => ?_) fun _ => ?_))
          exact .inl ⟨_, _, hwd, rfl, hw.ent zent⟩
end Go.Proofs.YtngeooflfkpikaaGreatDoor
