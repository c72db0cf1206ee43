/-
  lex.reader: all.
-/
import Derived.Test.YtngeooflfkpikaaGreatDoorZGo
import Derived.Test.YtngeooflfkpikaaGreatDoorZRead6
import Derived.Test.YtngeooflfkpikaaGreatDoorZAgainPlain
import Derived.Test.YtngeooflfkpikaaGreatDoorZPerm
namespace Go.Proofs.YtngeooflfkpikaaGreatDoor
open Go.RowKit
/-! ## plain: how a line is read on -/
def comb (ts : List Tok) (r : Int × Int × List Tok) : Int × Int × List Tok := if r.1 ≠ 0 then (r.1, r.2.1, []) else (0, 0, ts ++ r.2.2)
def blankB (b : UInt8) : Bool := decide (b = 32)
theorem readF_blank : ∀ (n : Nat) (l : List UInt8) (a k : Nat), l.length ≤ n → ∃ n', (l.drop (l.takeWhile blankB).length).length ≤ n' ∧ readF n l a k = readF n' (l.drop (l.takeWhile blankB).length) (a + (l.takeWhile blankB).length) k
  | n, [], a, k, h => ⟨n, by simp, by simp⟩
  | 0, b :: l, a, k, h => by simp at h
  | n + 1, b :: l, a, k, h => by
    by_cases hb : b = 32
    · subst hb
      have e : ((32 : UInt8) :: l).takeWhile blankB = 32 :: l.takeWhile blankB := by rw [List.takeWhile_cons]; rfl
      obtain ⟨n', h1, h2⟩ := readF_blank n l (a + 1) k (by simpa using h)
      refine ⟨n', by rw [e]; simpa using h1, ?_⟩
      rw [readF]
      simp only
      rw [pre_false (by decide), if_neg (by simp), if_pos trivial, h2, e]
      simp only [List.length_cons, List.drop_succ_cons]
      rw [show a + 1 + (l.takeWhile blankB).length = a + ((l.takeWhile blankB).length + 1) by omega]
    · have e : (b :: l).takeWhile blankB = [] := by
        rw [List.takeWhile_cons, show blankB b = false by unfold blankB; exact decide_eq_false hb]; rfl
      exact ⟨n + 1, by rw [e]; simpa using h, by rw [e]; simp⟩
theorem blank_head {l : List UInt8} {b : UInt8} {r : List UInt8} (h : l.drop (l.takeWhile blankB).length = b :: r) : ¬ b = 32 := by
  intro hb
  have key : ∀ l : List UInt8, ∀ b r, l.drop (l.takeWhile blankB).length = b :: r → blankB b = false := by
    intro l
    induction l with
    | nil => intro b r h; simp at h
    | cons c l ih =>
      intro b r h
      rw [List.takeWhile_cons] at h
      split at h
      · exact ih b r (by simpa using h)
      · rename_i hc
        simp at h
        rw [← h.1]; simpa using hc
  have := key l b r h
  rw [hb] at this
  cases this
theorem readF_nil' (n a k : Nat) : readF n [] a k = (0, 0, []) := by cases n <;> rfl
theorem readF_rem {n : Nat} {b : UInt8} {r : List UInt8} {a k : Nat} (h : List.isPrefixOf [226, 141, 157] (b :: r) = true) : readF n (b :: r) a k = (0, 0, []) := by
  cases n with
  | zero => rfl
  | succ n => rw [readF]; simp only; rw [if_pos h]
theorem readF_next {n : Nat} {b : UInt8} {r : List UInt8} {a k : Nat} (h : List.isPrefixOf [226, 141, 157] (b :: r) = false) (hb : ¬ b = 32) {e : Int} {t : Tok} {m : Nat} (hw : wordF (b :: r) = (e, t, m)) :
    readF (n + 1) (b :: r) a k = if e ≠ 0 then (e, (a : Int), []) else if 200 ≤ k then (7, (a : Int), []) else match readF n ((b :: r).drop m) (a + m) (k + 1) with
          | (e', a', ts) => if e' ≠ 0 then (e', a', []) else (0, 0, { t with at_ := a } :: ts) := by
  rw [readF]
  simp only
  rw [h, if_neg (by simp), if_neg hb, hw]
theorem comb_cons (ts : List Tok) (t : Tok) (r : Int × Int × List Tok) : comb ts (match r with | (e', a', us) => if e' ≠ 0 then (e', a', []) else (0, 0, t :: us)) = comb (ts ++ [t]) r := by
  obtain ⟨e', a', us⟩ := r
  unfold comb
  by_cases h : e' = 0
  · subst h; simp
  · simp [h]
theorem readF_err : ∀ (n : Nat) (l : List UInt8) (a k : Nat) (e a' : Int) (us : List Tok), readF n l a k = (e, a', us) → e ≠ 0 → us = []
  | 0, l, a, k, e, a', us, h, he => by simp only [readF, Prod.mk.injEq] at h; exact h.2.2.symm
  | n + 1, [], a, k, e, a', us, h, he => by simp only [readF, Prod.mk.injEq] at h; exact h.2.2.symm
  | n + 1, b :: r, a, k, e, a', us, h, he => by
    rw [readF] at h
    simp only at h
    split at h
    · simp only [Prod.mk.injEq] at h; exact h.2.2.symm
    split at h
    · exact readF_err n r _ k e a' us h he
    cases hw : wordF (b :: r) with
    | mk e1 tm =>
    obtain ⟨t, m⟩ := tm
    rw [hw] at h
    simp only at h
    split at h
    · simp only [Prod.mk.injEq] at h; exact h.2.2.symm
    split at h
    · simp only [Prod.mk.injEq] at h; exact h.2.2.symm
    cases hr : readF n ((b :: r).drop m) (a + m) (k + 1) with
    | mk e2 at2 =>
    obtain ⟨a2, ts2⟩ := at2
    rw [hr] at h
    simp only at h
    split at h
    · simp only [Prod.mk.injEq] at h; exact h.2.2.symm
    · simp only [Prod.mk.injEq] at h; exact absurd h.1.symm he
theorem word_good {b : Nat} {src : List UInt8} {pos n : Nat} {ws : Value} {G : Rd} {t : Tok} (hw : wordF (src.drop pos) = (0, t, n)) (hG : LexG G) (w : World) (fp : List Nat) (hm : Own [rdr b src pos ws] fp w) (hs : Rd.sub G fp w) (hp : pos < src.length) (hl : src.length ≤ 1000) :
    Calls Tryz.prog 109 #[.pointer (some ⟨b, 0, none⟩)] w fun e w' => e = .returned (.agg #[.int .i64 t.kind, .int .i64 t.fn, .int .i64 t.num, .string ⟨t.text.toArray⟩, .int .i64 (pos : Int)]) ∧ Holds w fp (ro w fp G :: [rdr b src (pos + n) ws]) w' :=
  (lex_word b src pos ws G hG w fp hm hs hp hl).mono fun e w' h => by
    rcases h with ⟨t', n', h1, h3, h4⟩ | ⟨x, t', n', hx, h1, _⟩
    · rw [hw] at h1; simp only [Prod.mk.injEq, true_and] at h1; obtain ⟨rfl, rfl⟩ := h1; exact ⟨h3, h4⟩
    · rw [hw] at h1; simp only [Prod.mk.injEq] at h1; exact absurd h1.1.symm hx
theorem word_bad {b : Nat} {src : List UInt8} {pos n : Nat} {ws : Value} {G : Rd} {x : Int} {t : Tok} (hx : x ≠ 0) (hw : wordF (src.drop pos) = (x, t, n)) (hG : LexG G) (w : World) (fp : List Nat) (hm : Own [rdr b src pos ws] fp w) (hs : Rd.sub G fp w) (hp : pos < src.length) (hl : src.length ≤ 1000) :
    Calls Tryz.prog 109 #[.pointer (some ⟨b, 0, none⟩)] w fun e w' => e = .panicked (fltP x pos) ∧ Keep w fp w' :=
  (lex_word b src pos ws G hG w fp hm hs hp hl).mono fun e w' h => by
    rcases h with ⟨t', n', h1, h3, h4⟩ | ⟨x', t', n', _, h1, h3, h4⟩
    · rw [hw] at h1; simp only [Prod.mk.injEq] at h1; exact absurd h1.1 hx
    · rw [hw] at h1; simp only [Prod.mk.injEq] at h1; obtain ⟨rfl, _⟩ := h1; exact ⟨h3, h4⟩
/-- what all tells -/
def AllPost (src : List UInt8) (b : Nat) (G : Rd) (w : World) (fp : List Nat) (e : Ending) (w' : World) : Prop :=
  (∃ ts p c pos, readF src.length src 0 0 = (0, 0, ts) ∧ e = .returned (.tuple #[]) ∧ Holds w fp (ro w fp G :: [rdr b src pos (.slice p ts.length c), sl 39 5 p ts.length c (ts.flatMap tokE)]) w') ∨
  (∃ x a, x ≠ 0 ∧ readF src.length src 0 0 = (x, a, []) ∧ e = .panicked (fltP x a) ∧ Keep w fp w')
set_option maxHeartbeats 4000000 in
set_option maxRecDepth 100000 in
theorem lex_all (b : Nat) (src : List UInt8) (G : Rd) (hG : LexG G) (w : World) (fp : List Nat) (hm : Own [rdr b src 0 (.slice none 0 0), sl 39 5 none 0 0 []] fp w) (hs : Rd.sub G fp w) (hl : src.length ≤ 1000) :
    Calls Tryz.prog 43 #[.pointer (some ⟨b, 0, none⟩)] w (AllPost src b G w fp) := by
  refine enterR (args := [_]) hs hm Tryz.func43 rfl Tryz.ntmps43 (by simp) ?_
  (repeat' (first|refine zza ?_|refine zc9 ?_|refine zzb fun w hw => ?_|refine zzh fun _ => ?_|refine zzi fun _ _ => ?_|refine zzj (fun _ => ?_) fun _ => ?_))
  refine CW_loopK [(0,_)] zcov (fun _ : Nat × List Tok × Option Addr × Nat × Nat => []) (fun x => [rdr b src x.1 (.slice x.2.2.1 x.2.1.length x.2.2.2.1), sl 39 5 x.2.2.1 x.2.1.length x.2.2.2.1 (x.2.1.flatMap tokE), ro w fp G])
    (fun x => x.1 ≤ src.length ∧ x.2.1.length ≤ 200 ∧ (src.drop x.1).length ≤ x.2.2.2.2 ∧ readF src.length src 0 0 = comb x.2.1 (readF x.2.2.2.2 (src.drop x.1) x.1 x.2.1.length)) (fun x => src.length - x.1) (0, [], none, 0, src.length) ⟨Nat.zero_le _, by simp, by simp, by
      simp only [List.drop_zero, List.length_nil]
      generalize hr : readF src.length src 0 0 = r
      obtain ⟨e, a, us⟩ := r
      unfold comb
      by_cases he : e = 0
      · subst he
        obtain ⟨_, ha⟩ := readF_ok _ _ _ _ _ _ hr
        subst ha; simp
      · simp only [ne_eq, he, not_false_eq_true, if_true]
        rw [readF_err _ _ _ _ _ _ _ hr he]⟩ zcov zent ?_
  rintro ⟨pos, ts, p, c, N⟩ ⟨hpos, hts, hN, hz⟩
  dsimp only at hpos hts hN hz ⊢
  obtain ⟨N', hN', hz'⟩ := readF_blank N (src.drop pos) pos ts.length hN
  have hjl : ((src.drop pos).takeWhile blankB).length ≤ src.length - pos := by have := (List.takeWhile_prefix blankB (l := src.drop pos)).length_le; simpa using this
  have hbh := fun b' r' h => blank_head (l := src.drop pos) (b := b') (r := r') h
  rw [hz', List.drop_drop] at hz
  rw [List.drop_drop] at hN' hbh
  (repeat' (first|refine zza ?_|refine zc9 ?_|refine zzb fun w hw => ?_|refine zzh fun _ => ?_|refine zzi fun _ _ => ?_|refine zzj (fun _ => ?_) fun _ => ?_))
  (apply WL_callU1 (h := rdr b src pos (.slice p ts.length c)); (first | exact .here | exact .there .here | exact .there (.there .here) | exact .there (.there (.there .here)) | exact .there (.there (.there (.there .here))) | exact .there (.there (.there (.there (.there .here)))) | exact .there (.there (.there (.there (.there (.there .here)))))); (first | exact .here | exact .there .here | exact .there (.there .here) | exact .there (.there (.there .here)) | exact .there (.there (.there (.there .here))) | exact .there (.there (.there (.there (.there .here)))) | exact .there (.there (.there (.there (.there (.there .here)))))); rfl; rfl; rfl; (intro W fp hO hS; exact lex_while b src pos (.slice p ts.length c) 106 blankB lex_blank G W fp hO hS hpos (by omega)))
  generalize ((src.drop pos).takeWhile blankB).length = j at hjl hz hN' hbh ⊢
  (repeat' (first|refine zza ?_|refine zc9 ?_|refine zzb fun w hw => ?_|refine zzh fun _ => ?_|refine zzi fun _ _ => ?_|refine zzj (fun _ => ?_) fun _ => ?_))
  cases hL : src.drop (pos + j) with
  | nil =>
    have hR : ∀ W, W.heap[b]? = some (.cells (rdC src (pos + j) (.slice p ts.length c)) 114 (0, 0)) → Calls Tryz.prog 107 #[.pointer (some ⟨b, 0, none⟩)] W fun e w' => e = .returned (.string ⟨#[]⟩) ∧ Below W.heap.size W w' := fun W h => by
      have := lex_rest b src (pos + j) (.slice p ts.length c) W h (by omega)
      rwa [hL] at this
    (apply WL_callV; rfl; rfl; rfl; (intro W hW; exact hR W (hW.rdrAt zpk)))
    (repeat' (first|refine zza ?_|refine zc9 ?_|refine zzb fun w hw => ?_|refine zzh fun _ => ?_|refine zzi fun _ _ => ?_|refine zzj (fun _ => ?_) fun _ => ?_))
    refine .inl ⟨ts, p, c, pos + j, ?_, rfl, hw.ent zent⟩
    rw [hz, hL, readF_nil']; simp [comb]
  | cons c0 t =>
    have hdl : (src.drop (pos + j)).length = src.length - (pos + j) := by simp
    have hlt : pos + j < src.length := by rw [hL] at hdl; simp at hdl; omega
    have hcn : ¬ (c0 :: t = []) := by simp
    have hR : ∀ W, W.heap[b]? = some (.cells (rdC src (pos + j) (.slice p ts.length c)) 114 (0, 0)) → Calls Tryz.prog 107 #[.pointer (some ⟨b, 0, none⟩)] W fun e w' => e = .returned (.string ⟨(c0 :: t).toArray⟩) ∧ Below W.heap.size W w' := fun W h => by
      have := lex_rest b src (pos + j) (.slice p ts.length c) W h (by omega)
      rwa [hL] at this
    (apply WL_callV; rfl; rfl; rfl; (intro W hW; exact hR W (hW.rdrAt zpk)))
    (repeat' (first|refine zza ?_|refine zc9 ?_|refine zzb fun w hw => ?_|refine zzh fun _ => ?_|refine zzi fun _ _ => ?_|refine zzj (fun _ => ?_) fun _ => ?_))
    (apply WL_callV; rfl; rfl; rfl; (intro W hW; exact hR W (hW.rdrAt zpk)))
    (repeat' (first|refine zza ?_|refine zc9 ?_|refine zzb fun w hw => ?_|refine zzh fun _ => ?_|refine zzi fun _ _ => ?_|refine zzj (fun _ => ?_) fun _ => ?_))
    (apply WL_callV; rfl; rfl; rfl; (intro W hW; exact prefix_call (c0 :: t) [226, 141, 157] W))
    cases hpf : List.isPrefixOf [226, 141, 157] (c0 :: t) with
    | true =>
      (repeat' (first|refine zza ?_|refine zc9 ?_|refine zzb fun w hw => ?_|refine zzh fun _ => ?_|refine zzi fun _ _ => ?_|refine zzj (fun _ => ?_) fun _ => ?_))
      refine .inl ⟨ts, p, c, pos + j, ?_, rfl, hw.ent zent⟩
      rw [hz, hL, readF_rem hpf]; simp [comb]
    | false =>
      (repeat' (first|refine zza ?_|refine zc9 ?_|refine zzb fun w hw => ?_|refine zzh fun _ => ?_|refine zzi fun _ _ => ?_|refine zzj (fun _ => ?_) fun _ => ?_))
      obtain ⟨N'', rfl⟩ : ∃ n, N' = n + 1 := by
        cases N' with
        | zero => rw [hL] at hN'; simp at hN'
        | succ n => exact ⟨n, rfl⟩
      obtain ⟨x, tk, m, hwd⟩ : ∃ x tk m, wordF (c0 :: t) = (x, tk, m) := ⟨_, _, _, rfl⟩
      rw [hL, readF_next hpf (hbh _ _ hL) hwd] at hz
      by_cases hx : x = 0
      · subst hx
        obtain ⟨_, _, hm1, hm2, _⟩ := word_ok (by simp) hwd
        rw [← hL] at hwd hm2
        rw [← hL] at hz
        (apply WL_callU1 (h := rdr b src (pos + j) (.slice p ts.length c)); (first | exact .here | exact .there .here | exact .there (.there .here) | exact .there (.there (.there .here)) | exact .there (.there (.there (.there .here))) | exact .there (.there (.there (.there (.there .here)))) | exact .there (.there (.there (.there (.there (.there .here)))))); (first | exact .here | exact .there .here | exact .there (.there .here) | exact .there (.there (.there .here)) | exact .there (.there (.there (.there .here))) | exact .there (.there (.there (.there (.there .here)))) | exact .there (.there (.there (.there (.there (.there .here)))))); rfl; rfl; rfl; (intro W fp hO hS; exact word_good hwd hG W fp hO hS hlt hl))
        by_cases h200 : ts.length = 200
        · have h200I : (ts.length : Int) = 200 := by omega
          (repeat' (first|refine zza ?_|refine zc9 ?_|refine zzb fun w hw => ?_|refine zzh fun _ => ?_|refine zzi fun _ _ => ?_|refine zzj (fun _ => ?_) fun _ => ?_))
          (try refine CW_seq ?_)
          (repeat' (first|refine zza ?_|refine zc9 ?_|refine zzb fun w hw => ?_|refine zzh fun _ => ?_|refine zzi fun _ _ => ?_|refine zzj (fun _ => ?_) fun _ => ?_))
          refine .inr ⟨7, ((pos + j : Nat) : Int), by decide, ?_, rfl, hw.keep⟩
          rw [hz, if_neg (by simp), if_pos (by omega)]; simp [comb]
        · have h200I : ¬ (ts.length : Int) = 200 := by omega
          (repeat' (first|refine zza ?_|refine zc9 ?_|refine zzb fun w hw => ?_|refine zzh fun _ => ?_|refine zzi fun _ _ => ?_|refine zzj (fun _ => ?_) fun _ => ?_))
          rename_i b2
          refine CW_cutP (X := Unit) [(0,_),(2,_)] zcov (fun _ => []) (fun _ => True) ?_ (fun _ _ => ?_)
          · (repeat' (first|refine zza ?_|refine zc9 ?_|refine zzb fun w hw => ?_|refine zzh fun _ => ?_|refine zzi fun _ _ => ?_|refine zzj (fun _ => ?_) fun _ => ?_))
            exact EX_mid' () ⟨zcov, zent, trivial⟩
          · refine CW_eff 8 [rdr b src (pos + j + m) (.slice p ts.length c), blk b2 39 #[.int .i64 tk.kind, .int .i64 tk.fn, .int .i64 tk.num, .string ⟨tk.text.toArray⟩, .int .i64 ((pos + j : Nat) : Int)]] (pm := [sl 39 5 p ts.length c (ts.flatMap tokE), ro w fp G]) zent (by kernel_rfl) (by decide +kernel) ?_
            (refine WE_op rfl rfl zyi ?_)
            (refine WE_op rfl rfl zyi ?_)
            (refine WE_op rfl rfl zyi ?_)
            (refine WE_op rfl rfl zyi ?_)
            (refine WE_op rfl rfl zyi ?_)
            (refine WE_op rfl rfl zyi ?_)
            apply WE_bslice (pm := [sl 39 5 p ts.length c (ts.flatMap tokE), ro w fp G]) (he := zent) (hso := by decide +kernel) (hx := rfl) (hl := rfl) (hc := rfl) (hs := rfl) (h0 := rfl) (hg := rfl) (hn := rfl)
            intro b3
            apply WE_append (pm := [ro w fp G]) (hso := by decide +kernel) (hx := rfl) (hy := rfl) (he := rfl) (hp := zpk) (hp2 := zpk) (hr := zent) (hl := rfl) (h1' := rfl) (hmax := by omega) (hmax2 := by omega) (hg := rfl) (hn := rfl)
            intro q2 c2
            refine WE_end ?_
            (repeat' (first|refine zza ?_|refine zc9 ?_|refine zzb fun w hw => ?_|refine zzh fun _ => ?_|refine zzi fun _ _ => ?_|refine zzj (fun _ => ?_) fun _ => ?_))
            have hml : m ≤ src.length - (pos + j) := by rw [← hdl]; exact hm2
            have hNl : src.length - (pos + j) ≤ N'' + 1 := by rw [← hdl]; exact hN'
            refine EX_loop' (pos + j + m, ts ++ [{ tk with at_ := ((pos + j : Nat) : Int) }], q2, c2, N'') ⟨zcov, ?_, by dsimp only; omega, by dsimp only; omega, by dsimp only; rw [List.length_append, List.length_singleton]; omega, by dsimp only; rw [List.length_drop]; omega, ?_⟩
            · dsimp only
              rw [List.length_append, List.flatMap_append]
              exact zent
            · dsimp only
              rw [hz, if_neg (by simp), if_neg (by omega), List.drop_drop (i := m), List.length_append]
              exact comb_cons _ _ _
      · rw [if_pos hx] at hz
        rw [← hL] at hwd
        (apply WL_callUP1 (h := rdr b src (pos + j) (.slice p ts.length c)); (first | exact .here | exact .there .here | exact .there (.there .here) | exact .there (.there (.there .here)) | exact .there (.there (.there (.there .here))) | exact .there (.there (.there (.there (.there .here)))) | exact .there (.there (.there (.there (.there (.there .here)))))); (first | exact .here | exact .there .here | exact .there (.there .here) | exact .there (.there (.there .here)) | exact .there (.there (.there (.there .here))) | exact .there (.there (.there (.there (.there .here)))) | exact .there (.there (.there (.there (.there (.there .here)))))); rfl; rfl; rfl; (intro W fp hO hS; exact word_bad hx hwd hG W fp hO hS hlt hl))
        (repeat' (first|refine zza ?_|refine zc9 ?_|refine zzb fun w hw => ?_|refine zzh fun _ => ?_|refine zzi fun _ _ => ?_|refine zzj (fun _ => ?_) fun _ => ?_))
        refine .inr ⟨x, ((pos + j : Nat) : Int), hx, ?_, rfl, hw.keep⟩
        rw [hz]; simp [comb, hx]
end Go.Proofs.YtngeooflfkpikaaGreatDoor
