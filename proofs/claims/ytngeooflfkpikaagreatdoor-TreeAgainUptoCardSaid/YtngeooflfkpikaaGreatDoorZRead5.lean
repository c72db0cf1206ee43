/-
  lex.reader: chars.
  lex.reader: word.
-/
import Derived.Test.YtngeooflfkpikaaGreatDoorZGo
import Derived.Test.YtngeooflfkpikaaGreatDoorZRead3
import Derived.Test.YtngeooflfkpikaaGreatDoorZBackPlain
namespace Go.Proofs.YtngeooflfkpikaaGreatDoor
open Go.RowKit
theorem bldr_new {b : Nat} {T : TypeId} {m r : List HP} (hp : Pick m (blk b T #[.pointer none, .slice none 0 0]) r) : Ent m (bldr T b [] :: r) := fun fp w ho => by
  obtain ⟨f1, f2, he, ⟨rfl, hb⟩, k2, kd⟩ := hp.own ho
  refine ⟨[b] ++ f2, ⟨[b], f2, rfl, ⟨_, none, 0, .inl rfl, hb, ⟨by simp [Lib.byteCells], .inl ⟨rfl, rfl⟩⟩, by simp [blkOf], by simp [blkOf]⟩, k2, kd⟩, fun i hi => ?_⟩
  exact (he i).2 (by simpa using hi)
theorem liesB : Lies 187 := ⟨by kernel_rfl, by decide⟩
theorem Holds.rdrAt {w0 w : World} {F : List Nat} {m r : List HP} {b : Nat} {src : List UInt8} {pos : Nat} {ws : Value} (hh : Holds w0 F m w) (hp : Pick m (rdr b src pos ws) r) : w.heap[b]? = some (.cells (rdC src pos ws) 114 (0, 0)) := hh.blk hp
theorem pre39 (l : List UInt8) : List.isPrefixOf [39] l = true → ∃ q, l = 39 :: q := by
  intro h
  obtain ⟨q, rfl⟩ := List.isPrefixOf_iff_prefix.1 h
  exact ⟨q, rfl⟩
theorem cut_hit {l p q : List UInt8} (h : Lib.cut l [39] = (p, q, true)) (hl : l.length ≤ 4294967280) (w : World) (hG : MaxL w) : Calls Tryz.prog 252 #[.string ⟨l.toArray⟩, .string ⟨#[39]⟩] w fun e w' => e = .returned (.tuple #[.string ⟨p.toArray⟩, .string ⟨q.toArray⟩, .bool true]) ∧ Below w.heap.size w w' := by
  have := cut_call l hl w hG
  rw [h] at this; exact this
theorem cut_miss {l : List UInt8} (h : (Lib.cut l [39]).2.2 = false) (hl : l.length ≤ 4294967280) (w : World) (hG : MaxL w) : Calls Tryz.prog 252 #[.string ⟨l.toArray⟩, .string ⟨#[39]⟩] w fun e w' => e = .returned (.tuple #[.string ⟨(Lib.cut l [39]).1.toArray⟩, .string ⟨(Lib.cut l [39]).2.1.toArray⟩, .bool false]) ∧ Below w.heap.size w w' := by
  have := cut_call l hl w hG
  rw [h] at this; exact this
theorem lex_printedT (s : List UInt8) (hl : s.length ≤ 4294967280) (w : World) (hT : Tabs w) : Calls Tryz.prog 97 #[.string ⟨s.toArray⟩] w fun e w' => e = .returned (.bool (quotF s)) ∧ Below w.heap.size w w' := by
  refine enter (args := [_]) (m := []) (F := []) Tryz.func97 rfl Tryz.ntmps97 (by simp) rfl ?_
  (repeat' (first|refine zza ?_|refine zc9 ?_|refine zzb fun w hw => ?_|refine zzh fun _ => ?_|refine zzi fun _ _ => ?_|refine zzj (fun _ => ?_) fun _ => ?_))
  (apply WL_callV; rfl; rfl; rfl; (intro W hW; exact Tryz.utf8_ValidString ⟨s.toArray⟩ W (by simp [ByteArray.size]; omega) (hT.below hW.below)))
  cases hv : Lib.validD s with
  | false =>
    have hq : quotF s = false := by unfold quotF; rw [← validD_runes, hv]; rfl
    (repeat' (first|refine zza ?_|refine zc9 ?_|refine zzb fun w hw => ?_|refine zzh fun _ => ?_|refine zzi fun _ _ => ?_|refine zzj (fun _ => ?_) fun _ => ?_))
    exact ⟨by rw [hq], hw.below⟩
  | true =>
    have hq : quotF s = s.all plainB := by unfold quotF; rw [← validD_runes, hv]; rfl
    (repeat' (first|refine zza ?_|refine zc9 ?_|refine zzb fun w hw => ?_|refine zzh fun _ => ?_|refine zzi fun _ _ => ?_|refine zzj (fun _ => ?_) fun _ => ?_))
    refine CW_loopP [(0,_),(8,_)] zcov (fun x : Nat => [(9, .int .i64 x)]) (fun x => x ≤ s.length ∧ s.all plainB = (s.drop x).all plainB) (fun x => s.length - x) 0 ⟨Nat.zero_le _, rfl⟩ zcov ?_
    rintro k ⟨hk, hz⟩
    by_cases hlt : k < s.length
    · rw [drop_cons (get_some hlt 0), List.all_cons] at hz
      by_cases hp : (s.getD k 0).toNat < 32
      · rw [show plainB (s.getD k 0) = false by unfold plainB; simp; simpa using hp] at hz
        (repeat' (first|refine zza ?_|refine zc9 ?_|refine zzb fun w hw => ?_|refine zzh fun _ => ?_|refine zzi fun _ _ => ?_|refine zzj (fun _ => ?_) fun _ => ?_))
        exact ⟨by rw [hq, hz]; rfl, hw.below⟩
      · rw [show plainB (s.getD k 0) = true by unfold plainB; simp; simpa using hp, Bool.true_and] at hz
        (repeat' (first|refine zza ?_|refine zc9 ?_|refine zzb fun w hw => ?_|refine zzh fun _ => ?_|refine zzi fun _ _ => ?_|refine zzj (fun _ => ?_) fun _ => ?_))
        (refine EX_loop' (k + 1) ?_; (repeat' (first | exact Cov.nil | exact Ent.refl | (apply And.intro) | (apply Cov.cons; rfl) | exact Ent.nil | refine zn1 ?_ | trivial | rfl | assumption | omega | (congr 1; omega))))
    · have hkl : k = s.length := by omega
      subst hkl
      rw [List.drop_length, List.all_nil] at hz
      (repeat' (first|refine zza ?_|refine zc9 ?_|refine zzb fun w hw => ?_|refine zzh fun _ => ?_|refine zzi fun _ _ => ?_|refine zzj (fun _ => ?_) fun _ => ?_))
      exact ⟨by rw [hq, hz], hw.below⟩
/-- what chars tells -/
def CharsPost (src : List UInt8) (pos : Nat) (at' : Int) (b : Nat) (ws : Value) (G : Rd) (w : World) (fp : List Nat) (e : Ending) (w' : World) : Prop :=
  (∃ t n, qscan (src.drop pos) = some (t, n) ∧ quotF t = true ∧ e = .returned (.agg (tokE ⟨2, 0, 0, t, at'⟩).toArray) ∧ Holds w fp (ro w fp G :: [rdr b src (pos + n) ws]) w') ∨
  ((qscan (src.drop pos) = none ∨ ∃ t n, qscan (src.drop pos) = some (t, n) ∧ quotF t = false) ∧ e = .panicked (fltP 1 at') ∧ Keep w fp w')
set_option maxHeartbeats 2000000 in
set_option maxRecDepth 100000 in
theorem lex_chars (b : Nat) (src : List UInt8) (pos : Nat) (ws : Value) (at' : Int) (G : Rd) (hG : LexG G) (w : World) (fp : List Nat) (hm : Own [rdr b src pos ws] fp w) (hs : Rd.sub G fp w) (hp : pos ≤ src.length) (hl : src.length ≤ 1000) :
    Calls Tryz.prog 201 #[.pointer (some ⟨b, 0, none⟩), .int .i64 at'] w (CharsPost src pos at' b ws G w fp) := by
  refine enterR (args := [_, _]) hs hm Tryz.func201 rfl Tryz.ntmps201 (by simp) ?_
  (repeat' (first|refine zza ?_|refine zc9 ?_|refine zzb fun w hw => ?_|refine zzh fun _ => ?_|refine zzi fun _ _ => ?_|refine zzj (fun _ => ?_) fun _ => ?_))
  rename_i b4 b5
  refine CW_ent (bldr_new (b := b5) (T := 187) .here) ?_
  refine CW_loopK [(0,_),(1,_),(4,_),(5,_)] zcov (fun _ : Nat × List UInt8 => []) (fun x => [bldr 187 b5 x.2, rdr b src (pos + x.1) ws, ro w fp G, blk b4 39 #[.int .i64 0, .int .i64 0, .int .i64 0, .string ⟨#[]⟩, .int .i64 0]])
    (fun x => pos + x.1 ≤ src.length ∧ x.2.length ≤ x.1 ∧ qscan (src.drop pos) = (qscan (src.drop (pos + x.1))).map fun y => (x.2 ++ y.1, x.1 + y.2)) (fun x => src.length - (pos + x.1)) (0, []) ⟨hp, by simp, by simp⟩ zcov zent ?_
  rintro ⟨k, acc⟩ ⟨hk, hal, hz⟩
  dsimp only at hk hal hz ⊢
  have hdl : (src.drop (pos + k)).length = src.length - (pos + k) := by simp
  (repeat' (first|refine zza ?_|refine zc9 ?_|refine zzb fun w hw => ?_|refine zzh fun _ => ?_|refine zzi fun _ _ => ?_|refine zzj (fun _ => ?_) fun _ => ?_))
  (apply WL_callV; rfl; rfl; rfl; (intro W hW; exact lex_rest b src (pos + k) ws W (hW.rdrAt (.there .here)) hk))
  (repeat' (first|refine zza ?_|refine zc9 ?_|refine zzb fun w hw => ?_|refine zzh fun _ => ?_|refine zzi fun _ _ => ?_|refine zzj (fun _ => ?_) fun _ => ?_))
  rcases cut_quote (src.drop (pos + k)) with ⟨hc, hno⟩ | ⟨p, q, he, hpq, hc⟩
  · have hn : qscan (src.drop pos) = none := by rw [hz, qscan_none hno]; rfl
    (apply WL_callV; rfl; rfl; rfl; (intro W hW; exact cut_miss hc (by omega) W (hG.maxL (hW.le (.there (.there .here))))))
    (repeat' (first|refine zza ?_|refine zc9 ?_|refine zzb fun w hw => ?_|refine zzh fun _ => ?_|refine zzi fun _ _ => ?_|refine zzj (fun _ => ?_) fun _ => ?_))
    (try refine CW_seq ?_)
    (repeat' (first|refine zza ?_|refine zc9 ?_|refine zzb fun w hw => ?_|refine zzh fun _ => ?_|refine zzi fun _ _ => ?_|refine zzj (fun _ => ?_) fun _ => ?_))
    exact .inr ⟨.inl hn, rfl, hw.keep⟩
  · have hpl : (src.drop (pos + k)).length = p.length + 1 + q.length := by rw [he]; simp; omega
    have hq : src.drop (pos + k + (p.length + 1)) = q := by rw [← List.drop_drop, he]; simp
    (apply WL_callV; rfl; rfl; rfl; (intro W hW; exact cut_hit hc (by omega) W (hG.maxL (hW.le (.there (.there .here))))))
    (repeat' (first|refine zza ?_|refine zc9 ?_|refine zzb fun w hw => ?_|refine zzh fun _ => ?_|refine zzi fun _ _ => ?_|refine zzj (fun _ => ?_) fun _ => ?_))
    (try refine CW_seq ?_)
    (repeat' (first|refine zza ?_|refine zc9 ?_|refine zzb fun w hw => ?_|refine zzh fun _ => ?_|refine zzi fun _ _ => ?_|refine zzj (fun _ => ?_) fun _ => ?_))
    refine WL_callW rfl rfl rfl zpk (fun w fp _ h _ => bldr_WriteString _ liesB b5 acc p w fp h (by omega)) (fun _ _ => ?_)
    (repeat' (first|refine zza ?_|refine zc9 ?_|refine zzb fun w hw => ?_|refine zzh fun _ => ?_|refine zzi fun _ _ => ?_|refine zzj (fun _ => ?_) fun _ => ?_))
    have ep : (((pos + k : Nat)) : Int) + ((p.length : Int) + 1) = ((pos + k + (p.length + 1) : Nat) : Int) := by omega
    rw [ep]
    have hR := fun W h => lex_rest b src (pos + k + (p.length + 1)) ws W h (by omega)
    rw [hq] at hR
    (apply WL_callV; rfl; rfl; rfl; (intro W hW; exact hR W (hW.rdrAt zpk)))
    (repeat' (first|refine zza ?_|refine zc9 ?_|refine zzb fun w hw => ?_|refine zzh fun _ => ?_|refine zzi fun _ _ => ?_|refine zzj (fun _ => ?_) fun _ => ?_))
    (apply WL_callV; rfl; rfl; rfl; (intro W hW; exact prefix_call q [39] W))
    by_cases hpre : List.isPrefixOf [39] q = true
    · obtain ⟨q', rfl⟩ := pre39 q hpre
      have hql : (39 :: q').length = q'.length + 1 := rfl
      have hm' := qscan_more (q := q') hpq
      rw [hpre]
      (repeat' (first|refine zza ?_|refine zc9 ?_|refine zzb fun w hw => ?_|refine zzh fun _ => ?_|refine zzi fun _ _ => ?_|refine zzj (fun _ => ?_) fun _ => ?_))
      (try refine CW_seq ?_)
      (repeat' (first|refine zza ?_|refine zc9 ?_|refine zzb fun w hw => ?_|refine zzh fun _ => ?_|refine zzi fun _ _ => ?_|refine zzj (fun _ => ?_) fun _ => ?_))
      refine WL_callW rfl rfl rfl zpk (fun w fp _ h _ => bldr_WriteByte _ liesB b5 (acc ++ p) 39 w fp h (by simp; omega)) (fun _ _ => ?_)
      (repeat' (first|refine zza ?_|refine zc9 ?_|refine zzb fun w hw => ?_|refine zzh fun _ => ?_|refine zzi fun _ _ => ?_|refine zzj (fun _ => ?_) fun _ => ?_))
      refine EX_loop' (k + p.length + 2, acc ++ p ++ [39]) ⟨zcov, ?_, by dsimp only; omega, by dsimp only; omega, by simp; omega, ?_⟩
      · dsimp only
        rw [show (((pos + k + (p.length + 1) : Nat)) : Int) + 1 = ((pos + (k + p.length + 2) : Nat) : Int) by omega]
        exact zent
      · dsimp only
        rw [hz, he, hm', Option.map_map, show pos + (k + p.length + 2) = (pos + k + (p.length + 1)) + 1 by omega, ← List.drop_drop, hq]
        simp only [List.drop_succ_cons, List.drop_zero]
        congr 1
        funext y
        simp
        omega
    · have hpre' : List.isPrefixOf [39] q = false := Bool.eq_false_iff.2 hpre
      have hcl := qscan_close hpq hpre'
      have hF : qscan (src.drop pos) = some (acc ++ p, k + (p.length + 1)) := by rw [hz, he, hcl]; rfl
      rw [hpre']
      (repeat' (first|refine zza ?_|refine zc9 ?_|refine zzb fun w hw => ?_|refine zzh fun _ => ?_|refine zzi fun _ _ => ?_|refine zzj (fun _ => ?_) fun _ => ?_))
      (try refine CW_seq ?_)
      (repeat' (first|refine zza ?_|refine zc9 ?_|refine zzb fun w hw => ?_|refine zzh fun _ => ?_|refine zzi fun _ _ => ?_|refine zzj (fun _ => ?_) fun _ => ?_))
      refine WL_callW rfl rfl rfl zpk (fun w fp _ h _ => bldr_String' _ b5 (acc ++ p) w fp h) (fun _ _ => ?_)
      (repeat' (first|refine zza ?_|refine zc9 ?_|refine zzb fun w hw => ?_|refine zzh fun _ => ?_|refine zzi fun _ _ => ?_|refine zzj (fun _ => ?_) fun _ => ?_))
      have hpr := fun W hl => lex_printedT (acc ++ p) (by simp; omega) W (hG.tabs hl)
      cases hQ : quotF (acc ++ p) with
      | true =>
        rw [hQ] at hpr
        (apply WL_callV; rfl; rfl; rfl; (intro W hW; exact hpr W (hW.le zpk)))
        (repeat' (first|refine zza ?_|refine zc9 ?_|refine zzb fun w hw => ?_|refine zzh fun _ => ?_|refine zzi fun _ _ => ?_|refine zzj (fun _ => ?_) fun _ => ?_))
        (try refine CW_seq ?_)
        (repeat' (first|refine zza ?_|refine zc9 ?_|refine zzb fun w hw => ?_|refine zzh fun _ => ?_|refine zzi fun _ _ => ?_|refine zzj (fun _ => ?_) fun _ => ?_))
        refine WL_callW rfl rfl rfl zpk (fun w fp _ h _ => bldr_String' _ b5 (acc ++ p) w fp h) (fun _ _ => ?_)
        (repeat' (first|refine zza ?_|refine zc9 ?_|refine zzb fun w hw => ?_|refine zzh fun _ => ?_|refine zzi fun _ _ => ?_|refine zzj (fun _ => ?_) fun _ => ?_))
        refine .inl ⟨_, _, hF, hQ, rfl, ?_⟩
        rw [show pos + (k + (p.length + 1)) = pos + k + (p.length + 1) by omega]
        exact hw.ent zent
      | false =>
        rw [hQ] at hpr
        (apply WL_callV; rfl; rfl; rfl; (intro W hW; exact hpr W (hW.le zpk)))
        (repeat' (first|refine zza ?_|refine zc9 ?_|refine zzb fun w hw => ?_|refine zzh fun _ => ?_|refine zzi fun _ _ => ?_|refine zzj (fun _ => ?_) fun _ => ?_))
        (try refine CW_seq ?_)
        (repeat' (first|refine zza ?_|refine zc9 ?_|refine zzb fun w hw => ?_|refine zzh fun _ => ?_|refine zzi fun _ _ => ?_|refine zzj (fun _ => ?_) fun _ => ?_))
        exact .inr ⟨.inr ⟨_, _, hF, hQ⟩, rfl, hw.keep⟩
end Go.Proofs.YtngeooflfkpikaaGreatDoor
namespace Go.Proofs.YtngeooflfkpikaaGreatDoor
open Go.RowKit
/-! ## plain: a word by its first code point -/
theorem decode_ascii1 {b : UInt8} {t : List UInt8} (h : b.toNat < 128) : Lib.decodeL (b :: t) = (b.toNat, 1) := by
  rw [Lib.decodeL_N]
  unfold Lib.decodeN
  simp only [List.getD_cons_zero]
  rw [if_pos h]
theorem decode_high {b : UInt8} {t : List UInt8} (h : ¬ b.toNat < 128) : 128 ≤ (Lib.decodeL (b :: t)).1 := by
  rw [decode_rune]
  have hb := b.toNat_lt
  cases hr : runeF (b :: t) with
  | none => simp [pairN]
  | some cn =>
    obtain ⟨c, n⟩ := cn
    show 128 ≤ c.toNat
    simp only [runeF] at hr
    split at hr
    · cases hr
    · rename_i more least c0 hh
      split at hr
      · cases hr
      · rename_i c1 hc
        split at hr
        · cases hr
        · rename_i hbad
          simp only [Option.some.injEq, Prod.mk.injEq] at hr
          obtain ⟨rfl, rfl⟩ := hr
          rw [bad_iff] at hbad
          unfold headF at hh
          repeat' split at hh
          all_goals (simp only [Option.some.injEq, Prod.mk.injEq, reduceCtorEq] at hh; try omega)
theorem decode_len {b : UInt8} {t : List UInt8} : 1 ≤ (Lib.decodeL (b :: t)).2 ∧ (Lib.decodeL (b :: t)).2 ≤ (b :: t).length := by
  rw [decode_rune]
  cases hr : runeF (b :: t) with
  | none => simp [pairN]
  | some cn =>
    obtain ⟨c, n⟩ := cn
    exact ⟨runeF_pos hr, (rune_bytes hr).2⟩
theorem isD_lt {b : UInt8} (h : isDigitB b = true) : b.toNat < 128 := by unfold isDigitB at h; simp at h; omega
theorem isL_lt {b : UInt8} (h : isLetterB b = true) : b.toNat < 128 := by unfold isLetterB at h; simp at h; omega
theorem neg_decode {b : UInt8} {t : List UInt8} : List.isPrefixOf [194, 175] (b :: t) = decide ((Lib.decodeL (b :: t)).1 = 175) := by
  have e : encB 175 = [194, 175] := by decide
  rw [← e]; exact prefix_decode (.inl (by omega)) (by simp)
/-- a word that begins with neither a digit, a letter nor the sign of a number -/
theorem word_other {b : UInt8} {t : List UInt8} (h1 : isDigitB b = false) (h2 : isLetterB b = false) (h3 : (Lib.decodeL (b :: t)).1 ≠ 175) : wordF (b :: t) =
    (if b = 39 then (match qscan t with
      | none => (1, default, 0)
      | some (x, n) => if quotF x = true then (0, ⟨2, 0, 0, x, 0⟩, n + 1) else (1, default, 0))
    else if signR glyphC 1 (Lib.decodeL (b :: t)).1 ≠ 0 then (0, ⟨4, (signR glyphC 1 (Lib.decodeL (b :: t)).1 : Int), 0, [], 0⟩, (Lib.decodeL (b :: t)).2)
    else if signR signC 1 (Lib.decodeL (b :: t)).1 ≠ 0 then (0, ⟨4 + (signR signC 1 (Lib.decodeL (b :: t)).1 : Int), 0, 0, [], 0⟩, (Lib.decodeL (b :: t)).2)
    else (1, default, 0) : Int × Tok × Nat) := by
  have hp : List.isPrefixOf [194, 175] (b :: t) = false := by rw [neg_decode]; simp [h3]
  have ht : (b :: t).takeWhile isDigitB = [] := by rw [List.takeWhile_cons, h1]; rfl
  obtain ⟨g1, g2⟩ := signL_R (l := b :: t) (by simp) glyphC 1 (by omega) glyphC_ok
  obtain ⟨s1, s2⟩ := signL_R (l := b :: t) (by simp) signC 1 (by omega) signC_ok
  rw [← glyphsB_enc] at g1 g2
  rw [← signsB_enc] at s1 s2
  have hg : (b :: t).getD 0 0 = b := rfl
  have hd : (b :: t).drop 1 = t := rfl
  unfold wordF
  simp only [hp, Bool.false_eq_true, if_false, ht, ne_eq, not_true_eq_false, hg, hd, h2, g1, s1]
  split
  · rfl
  split
  · rename_i k; rw [g2 k]
  split
  · rename_i k; rw [s2 k]
  · rfl
end Go.Proofs.YtngeooflfkpikaaGreatDoor
