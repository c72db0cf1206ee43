/-
  ravelinref3: Words1: functions of one and of two parts, indices; any expression.
-/
import Derived.Test.YtanbifmcnkhdhaaGreatDoorGo
import Derived.Test.YtanbifmcnkhdhaaGreatDoorRefWords
namespace Go.Proofs.YtanbifmcnkhdhaaGreatDoor
open Go.RowKit

/-- what is left behind the left part -/
def WMid (us : List Tok) (k2 : Nat) (p : Option Addr) (c : Nat) (L : List NodM) (G0 : Rd) (W : World) (op aop af ag n : Int) (nums : SlV Int) (text : List UInt8) (b6 : Nat) (G : Rd) (out : List Tok) (k1 : Nat) : Prop := ∀ (G' : Rd) (x : Option Addr × Nat), Rd.grow W G G' → Row tokE 5 G' x.1 x.2 out → CW Tryz.prog ⟨181, [], W, []⟩ (QBody Tryz.prog Tryz.f33 (Tells (wrdV us k2) (TokR us) G0 W)) (cP [1, 1, 1, 1, 1, 1, 1, 1, 1, 1] wcode) [(0, .slice p L.length c), (1, .int .i64 (k1 : Nat)), (6, .pointer (some ⟨b6, 0, none⟩)), (9, .slice x.1 out.length x.2)]
  [ndB b6 op aop af ag n nums text, ro W [] G']
set_option maxHeartbeats 8000000 in
set_option maxRecDepth 100000 in
theorem words_left (p : Option Addr) (c : Nat) (L : List NodM) (k d : Nat) (G0 G : Rd) (W : World) (op aop af ag n : Int) (nums : SlV Int) (text : List UInt8) (b6 : Nat) (l : Ex) (hl : WordsC l) (hlok : l.ok d) (rest : List Nod) (hdr : (L.map NodM.nod).drop k = l.flat ++ rest) (hL : L.length ≤ 400) (hlt : l.toks.length ≤ 700000000) (hR : Row nodE 7 G p c L) (hB : ∀ x ∈ L, NodG G x) (must : Bool) (us : List Tok) (k2 : Nat)
    (key : WMid us k2 p c L G0 W op aop af ag n nums text b6 G (closeT must l.toks) (k + l.flat.length)) :
    CW Tryz.prog ⟨181, [], W, []⟩ (QSeq Tryz.prog (cP [1, 1, 1, 1, 1, 1, 1, 1, 1, 1] wcode) (QBody Tryz.prog Tryz.f33 (Tells (wrdV us k2) (TokR us) G0 W))) (cP [1, 1, 1, 1, 1, 1, 1, 1, 1, 0, 1, 0, 1] wcode) [(0, .slice p L.length c), (1, .int .i64 (k : Nat)), (6, .pointer (some ⟨b6, 0, none⟩)), (10, .bool must)]
      [ndB b6 op aop af ag n nums text, ro W [] G] := by
  conv =>
    pattern (cP [1, 1, 1, 1, 1, 1, 1, 1, 1, 0, 1, 0, 1] _)
    whnf
  have hwd := fun (W' : World) hS => hl p c L k d rest G W' hlok hdr hL (by omega) hR hB hS
  clear hl hlok hdr hR hB
  ((repeat' (first|refine zza ?_|refine zc9 ?_|refine zzb fun w hw => ?_|refine zzh fun _ => ?_|refine zzi fun _ _ => ?_|refine zzj (fun _ => ?_) fun _ => ?_)); (repeat' (refine CW_seq ?_; (repeat' (first|refine zza ?_|refine zc9 ?_|refine zzb fun w hw => ?_|refine zzh fun _ => ?_|refine zzi fun _ _ => ?_|refine zzj (fun _ => ?_) fun _ => ?_)))))
  refine WL_callT (r := [ndB b6 op aop af ag n nums text]) (Ent.cons zpk (Ent.cons zpk Ent.nil)) rfl rfl rfl hwd ?_
  intro x1 G1 h1 g1
  clear hwd
  ((repeat' (first|refine zza ?_|refine zc9 ?_|refine zzb fun w hw => ?_|refine zzh fun _ => ?_|refine zzi fun _ _ => ?_|refine zzj (fun _ => ?_) fun _ => ?_)); (repeat' (refine CW_seq ?_; (repeat' (first|refine zza ?_|refine zc9 ?_|refine zzb fun w hw => ?_|refine zzh fun _ => ?_|refine zzi fun _ _ => ?_|refine zzj (fun _ => ?_) fun _ => ?_)))))
  refine WL_callT (r := [ndB b6 op aop af ag n nums text]) zent rfl rfl rfl (fun W hS => ref_bracketed l.toks must x1.1 x1.2 G1 W hS h1 (by omega)) ?_
  intro x2 G2 h2 g2
  have key := key G2 x2 (Rd.grow_tr g1 g2) h2
  repeat' (first | exact CW_cov zcov (CW_ent zent key) | refine zza ?_)
theorem comp_head {d : Nat} {l : Ex} (h : l.ok d) {n : Nod} {t : List Nod} (hf : l.flat = n :: t) : l.comp = decide (n.op = 6 ∨ n.op = 7) := by
  cases l with
  | leaf m =>
    obtain ⟨_, h2⟩ := h
    simp only [Ex.flat, List.cons.injEq] at hf
    rw [← hf.1]
    exact (decide_eq_false (by omega)).symm
  | one m b r =>
    unfold Ex.ok at h
    simp only [Ex.flat, List.cons.injEq] at hf
    rw [← hf.1]
    exact (decide_eq_true (.inl h.1.2.1)).symm
  | two m l b r =>
    unfold Ex.ok at h
    simp only [Ex.flat, List.cons.injEq] at hf
    rw [← hf.1]
    exact (decide_eq_true (.inr h.1.2.1)).symm
  | pick m o b =>
    unfold Ex.ok at h
    simp only [Ex.flat, List.cons.injEq] at hf
    rw [← hf.1]
    exact (decide_eq_false (by have := h.1.2.1; omega)).symm
set_option maxHeartbeats 8000000 in
set_option maxRecDepth 100000 in
theorem words_one (n : Nod) (b : Exs) (r : Ex) (hb : ∀ e ∈ b.list, WordsC e) (hr : WordsC r) : WordsC (.one n b r) := by
  intro p c L k d rest G W hok hdr hL ht hR hB hS
  unfold Ex.ok at hok
  obtain ⟨⟨h1, h2, h3, _⟩, h5, h6⟩ := hok
  have hfl : (Ex.one n b r).flat.length = 1 + b.flat.length + r.flat.length := by rw [Ex.flat, List.length_cons, List.length_append]; omega
  rw [Ex.flat, List.cons_append, List.append_assoc] at hdr
  obtain ⟨x, hx, hxn, hk, hdr2⟩ := drop_cons_at hdr
  obtain ⟨op, aop, af, ag, nn, nums, text⟩ := x
  dsimp only [NodM.nod] at hxn
  subst hxn
  have hn := (right_fun h1 (.inl h2)).2.2.2.1
  dsimp only at h2 h3 hn
  subst h2
  refine words_enter hx hL hR hS ?_
  intro b6
  conv =>
    pattern (cP [1, 1] _)
    whnf
  have key := words_tail p c L (k + 1) d G G W (Rd.grow_refl _ _) 6 aop af ag nn nums text b r hb hr h5 h6 h3 hn rest hdr2 hL hk hR hB b6 [] none 0 (Row.nil _ _ _) (Ex.one ⟨6, aop, af, ag, nn, nums.xs, text⟩ b r).toks (by rw [Ex.toks]; rfl) ht (k + (Ex.one ⟨6, aop, af, ag, nn, nums.xs, text⟩ b r).flat.length) (by rw [hfl]; omega)
  clear hb hr h1 h3 h5 h6 hdr hdr2 hR hB hS ht
  repeat' (first | exact CW_cov zcov (CW_ent zent key) | refine zza ?_)
  repeat' (refine CW_seq ?_; repeat' (first | exact CW_cov zcov (CW_ent zent key) | refine zza ?_))
set_option maxHeartbeats 8000000 in
set_option maxRecDepth 100000 in
theorem words_mid2 (p : Option Addr) (c : Nat) (L : List NodM) (ka d : Nat) (G0 G : Rd) (W : World) (g0 : Rd.grow W G0 G) (aop af ag n : Int) (nums : SlV Int) (text : List UInt8) (b : Exs) (r : Ex) (hb : ∀ e ∈ b.list, WordsC e) (hr : WordsC r) (hbok : b.ok (d + 1)) (hrok : r.ok d) (hlen : b.len = if aop = 6 then 2 * n.toNat + 1 else 0) (hn : 0 ≤ n) (rest : List Nod) (hdr : (L.map NodM.nod).drop ka = b.flat ++ (r.flat ++ rest)) (hL : L.length ≤ 400) (hka : ka ≤ L.length) (hR : Row nodE 7 G p c L) (hB : ∀ x ∈ L, NodG G x)
    (b6 : Nat) (out : List Tok) (us : List Tok) (hus : us = out ++ (funT ⟨7, aop, af, ag, n, nums.xs, text⟩ (b.bodyT false) ++ closeT (catchE ⟨7, aop, af, ag, n, nums.xs, text⟩ r) r.toks)) (hul : us.length ≤ 700000000) (k2 : Nat) (hk2 : k2 = ka + b.flat.length + r.flat.length) :
    WMid us k2 p c L G0 W 7 aop af ag n nums text b6 G out ka := by
  intro G' x hg hrow
  conv =>
    pattern (cP [1, 1, 1, 1, 1, 1, 1, 1, 1, 1] _)
    whnf
  have key := words_tail p c L ka d G0 G' W (Rd.grow_tr g0 hg) 7 aop af ag n nums text b r hb hr hbok hrok hlen hn rest hdr hL hka (hR.mono hg.1) (fun x hx => (hB x hx).mono hg.1) b6 out x.1 x.2 hrow us hus hul k2 hk2
  clear hb hr hbok hrok hlen hdr hR hB hus
  refine CW_seq ?_
  repeat' (first | exact CW_cov zcov (CW_ent zent key) | refine zza ?_)
set_option maxHeartbeats 8000000 in
set_option maxRecDepth 100000 in
theorem words_two (n : Nod) (l : Ex) (b : Exs) (r : Ex) (hl : WordsC l) (hb : ∀ e ∈ b.list, WordsC e) (hr : WordsC r) : WordsC (.two n l b r) := by
  intro p c L k d rest G W hok hdr hL ht hR hB hS
  unfold Ex.ok at hok
  obtain ⟨⟨h1, h2, h3, _⟩, hlok, h5, h6⟩ := hok
  have hfl : (Ex.two n l b r).flat.length = 1 + l.flat.length + b.flat.length + r.flat.length := by rw [Ex.flat, List.length_cons, List.length_append, List.length_append]; omega
  rw [Ex.flat, List.cons_append, List.append_assoc, List.append_assoc] at hdr
  obtain ⟨x, hx, hxn, hk, hdr2⟩ := drop_cons_at hdr
  obtain ⟨op, aop, af, ag, nn, nums, text⟩ := x
  dsimp only [NodM.nod] at hxn
  subst hxn
  have hn := (right_fun h1 (.inr h2)).2.2.2.1
  dsimp only at h2 h3 hn
  subst h2
  obtain ⟨n0, t0, hf0⟩ := l.flat_head
  have hch := comp_head hlok hf0
  obtain ⟨y, hy, hyn, hk1, _⟩ := drop_cons_at (n := n0) (r := t0 ++ (b.flat ++ (r.flat ++ rest))) (by rw [hdr2, hf0]; rfl)
  have hyo : n0.op = y.op := by rw [← hyn]; rfl
  rw [hyo] at hch
  have hdl := congrArg List.length hdr2
  rw [List.length_drop, List.length_map, List.length_append] at hdl
  have htl : l.toks.length ≤ 700000000 := by
    rw [Ex.toks, List.length_append] at ht
    have : l.toks.length ≤ (closeT l.comp l.toks).length := by unfold closeT; split <;> simp; omega
    omega
  refine words_enter hx hL hR hS ?_
  intro b6
  conv =>
    pattern (cP [1, 1] _)
    whnf
  have hmid := words_mid2 p c L (k + 1 + l.flat.length) d G G W (Rd.grow_refl _ _) aop af ag nn nums text b r hb hr h5 h6 h3 hn rest (drop_app_at hdr2) hL (by omega) hR hB b6 (closeT l.comp l.toks) (Ex.two ⟨7, aop, af, ag, nn, nums.xs, text⟩ l b r).toks (by rw [Ex.toks]) ht (k + (Ex.two ⟨7, aop, af, ag, nn, nums.xs, text⟩ l b r).flat.length) (by rw [hfl]; omega)
  have hleft := fun (must : Bool) (hm : l.comp = must) => words_left p c L (k + 1) d G G W 7 aop af ag nn nums text b6 l hl hlok _ hdr2 hL htl hR hB must (Ex.two ⟨7, aop, af, ag, nn, nums.xs, text⟩ l b r).toks (k + (Ex.two ⟨7, aop, af, ag, nn, nums.xs, text⟩ l b r).flat.length) (hm ▸ hmid)
  clear hl hb hr h1 h3 h5 h6 hdr hdr2 hB hS ht hmid hlok hf0 hdl htl hfl
  by_cases hy6 : y.op = 6
  · have key := hleft true (by rw [hch]; exact decide_eq_true (.inl hy6))
    clear hleft
    repeat' (first | exact CW_cov zcov (CW_ent zent key) | refine zza ?_)
    repeat' (refine CW_seq ?_; repeat' (first | exact CW_cov zcov (CW_ent zent key) | refine zza ?_))
  · have key := hleft (decide (y.op = 7)) (by rw [hch, decide_eq_decide]; omega)
    clear hleft
    repeat' (first | exact CW_cov zcov (CW_ent zent key) | refine zza ?_)
    repeat' (refine CW_seq ?_; repeat' (first | exact CW_cov zcov (CW_ent zent key) | refine zza ?_))
/-- what is left to put, of indices -/
def semS (es : List Ex) (i : Nat) : List Tok := if i = 0 then tokK 7 :: (Exs.of es).semiT else if i = es.length then [] else tokK 9 :: (Exs.of (es.drop i)).semiT
theorem semS_step {es : List Ex} {i : Nat} {e : Ex} (he : es[i]? = some e) : semS es i = tokK (if i = 0 then 7 else 9) :: (e.toks ++ semS es (i + 1)) := by
  have hi : i < es.length := (List.getElem?_eq_some_iff.1 he).1
  have hdc := drop_cons' he
  have h1 : (Exs.of (es.drop i)).semiT = e.toks ++ semS es (i + 1) := by
    rw [hdc, Exs.of, Exs.semiT, Exs.of_len, List.length_drop]
    unfold semS
    rw [if_neg (show ¬ i + 1 = 0 by omega)]
    by_cases h : i + 1 = es.length
    · rw [if_pos (by omega), if_pos h, List.drop_eq_nil_of_le (by omega)]
      rfl
    · rw [if_neg (by omega), if_neg h]
      rfl
  by_cases h0 : i = 0
  · subst h0
    rw [List.drop_zero] at h1
    rw [← h1]
    rfl
  · rw [← h1]
    unfold semS
    rw [if_neg h0, if_neg (by omega), if_neg h0]
set_option maxHeartbeats 8000000 in
set_option maxRecDepth 100000 in
theorem words_idx (p : Option Addr) (c : Nat) (L : List NodM) (k d : Nat) (G0 G : Rd) (W : World) (g0 : Rd.grow W G0 G) (aop af ag : Int) (N : Nat) (nums : SlV Int) (text : List UInt8) (es : List Ex) (hb : ∀ e ∈ es, WordsC e) (hok : ∀ e ∈ es, e.ok d) (hlen : es.length = N) (hN : 0 < N) (rest : List Nod) (hdr : (L.map NodM.nod).drop k = (Exs.of es).flat ++ rest) (hL : L.length ≤ 400) (k2 : Nat) (hk2 : k2 = k + (Exs.of es).flat.length) (hk : k2 ≤ 400) (hR : Row nodE 7 G p c L) (hB : ∀ x ∈ L, NodG G x)
    (b6 : Nat) (out : List Tok) (us : List Tok) (hus : us = out ++ (tokK 7 :: ((Exs.of es).semiT ++ [tokK 8]))) (hul : us.length ≤ 700000000) :
    WMid us k2 p c L G0 W 8 aop af ag (N : Int) nums text b6 G out k := by
  intro G' x hg hrow
  conv =>
    pattern (cP [1, 1, 1, 1, 1, 1, 1, 1, 1, 1] _)
    whnf
  have hfl : es.length ≤ (Exs.of es).flat.length := by have := (Exs.of es).flat_len; rw [Exs.of_len] at this; exact this
  have hN4 : N ≤ 400 := by omega
  ((repeat' (first|refine zza ?_|refine zc9 ?_|refine zzb fun w hw => ?_|refine zzh fun _ => ?_|refine zzi fun _ _ => ?_|refine zzj (fun _ => ?_) fun _ => ?_)); (repeat' (refine CW_seq ?_; (repeat' (first|refine zza ?_|refine zc9 ?_|refine zzb fun w hw => ?_|refine zzh fun _ => ?_|refine zzi fun _ _ => ?_|refine zzj (fun _ => ?_) fun _ => ?_)))))
  refine CW_loopK [(0,_),(6,_)] zcov (fun x : Nat × Nat × Rd × (Option Addr × Nat) × List Tok => [(13, .int .i64 (x.1 : Int)), (1, .int .i64 (x.2.1 : Int)), (9, .slice x.2.2.2.1.1 x.2.2.2.2.length x.2.2.2.1.2)]) (fun x => [ro W [] x.2.2.1, ndB b6 8 aop af ag (N : Int) nums text]) (fun x => x.1 ≤ N ∧ x.2.2.2.2 ++ (semS es x.1 ++ [tokK 8]) = us ∧ (L.map NodM.nod).drop x.2.1 = (Exs.of (es.drop x.1)).flat ++ rest ∧ x.2.1 + (Exs.of (es.drop x.1)).flat.length = k2 ∧ Row tokE 5 x.2.2.1 x.2.2.2.1.1 x.2.2.2.1.2 x.2.2.2.2 ∧ Rd.grow W G x.2.2.1) (fun x => N - x.1) (0, k, G', x, out) ⟨Nat.zero_le _, by rw [hus]; rfl, hdr, hk2.symm, hrow, hg⟩ zcov zent ?_
  clear hdr hus hk2 hrow hg
  rintro ⟨i, ki, Gi, ⟨q, cq⟩, T⟩ ⟨hi, hT, hd, hke, hr, hg⟩
  dsimp only at hi hT hd hke hr hg ⊢
  by_cases hlt : i < N
  · obtain ⟨e, he⟩ : ∃ e, es[i]? = some e := ⟨es[i]'(by omega), by simp [show i < es.length by omega]⟩
    have hem := List.mem_of_getElem? he
    have hCe := hb e hem
    have hoe := hok e hem
    rw [drop_cons' he] at hd hke
    rw [Exs.of, Exs.flat, List.append_assoc] at hd
    rw [Exs.of, Exs.flat, List.length_append] at hke
    rw [semS_step he] at hT
    have hTl := congrArg List.length hT
    simp only [List.length_append, List.length_cons] at hTl
    have hd2 := drop_app_at hd
    have hcall : ∀ G', Rd.grow W G G' → ∀ W', Rd.sub G' [] W' → Calls Tryz.prog 33 #[.slice p L.length c, .int .i64 (ki : Nat)] W' (Tells (wrdV e.toks (ki + e.flat.length)) (TokR e.toks) G' W') := fun G' hg W' hS => hCe p c L ki d _ G' W' hoe hd hL (by omega) (hR.mono hg.1) (fun x hx => (hB x hx).mono hg.1) hS
    have hTe : T.length + 1 + e.toks.length ≤ 700000000 := by omega
    have hke2 : ki + e.flat.length ≤ 400 := by omega
    clear hTl hd hb hok hCe hoe hR hB hem
    obtain ⟨kd, hkd⟩ : ∃ kd : Int, kd = if i = 0 then 7 else 9 := ⟨_, rfl⟩
    rw [← hkd] at hT
    have hT2 : (T ++ [tokK kd] ++ e.toks) ++ (semS es (i + 1) ++ [tokK 8]) = us := by rw [← hT]; simp
    clear hT
    by_cases h0 : i = 0
    · rw [if_pos h0] at hkd
      subst hkd
      ((repeat' (first|refine zza ?_|refine zc9 ?_|refine zzb fun w hw => ?_|refine zzh fun _ => ?_|refine zzi fun _ _ => ?_|refine zzj (fun _ => ?_) fun _ => ?_)); (repeat' (refine CW_seq ?_; (repeat' (first|refine zza ?_|refine zc9 ?_|refine zzb fun w hw => ?_|refine zzh fun _ => ?_|refine zzi fun _ _ => ?_|refine zzj (fun _ => ?_) fun _ => ?_)))))
      refine WL_callT (r := [ndB b6 8 aop af ag (N : Int) nums text]) zent rfl rfl rfl (hcall Gi hg) ?_
      intro x2 G2 h2 g2
      ((repeat' (first|refine zza ?_|refine zc9 ?_|refine zzb fun w hw => ?_|refine zzh fun _ => ?_|refine zzi fun _ _ => ?_|refine zzj (fun _ => ?_) fun _ => ?_)); (repeat' (refine CW_seq ?_; (repeat' (first|refine zza ?_|refine zc9 ?_|refine zzb fun w hw => ?_|refine zzh fun _ => ?_|refine zzi fun _ _ => ?_|refine zzj (fun _ => ?_) fun _ => ?_)))))
      refine WL_callT (r := [ndB b6 8 aop af ag (N : Int) nums text]) zent rfl rfl rfl (fun W hS => ref_sign1 7 G2 W hS) ?_
      intro x3 G3 h3 g3
      ((repeat' (first|refine zza ?_|refine zc9 ?_|refine zzb fun w hw => ?_|refine zzh fun _ => ?_|refine zzi fun _ _ => ?_|refine zzj (fun _ => ?_) fun _ => ?_)); (repeat' (refine CW_seq ?_; (repeat' (first|refine zza ?_|refine zc9 ?_|refine zzb fun w hw => ?_|refine zzh fun _ => ?_|refine zzi fun _ _ => ?_|refine zzj (fun _ => ?_) fun _ => ?_)))))
      refine WL_callT (r := [ndB b6 8 aop af ag (N : Int) nums text]) zent rfl rfl rfl (fun W hS => ref_joinTokens T [tokK 7] q x3.1 cq x3.2 G3 W hS (hr.mono (Rd.le_trans g2.1 g3.1)) h3 (by simp; omega)) ?_
      intro x4 G4 h4 g4
      ((repeat' (first|refine zza ?_|refine zc9 ?_|refine zzb fun w hw => ?_|refine zzh fun _ => ?_|refine zzi fun _ _ => ?_|refine zzj (fun _ => ?_) fun _ => ?_)); (repeat' (refine CW_seq ?_; (repeat' (first|refine zza ?_|refine zc9 ?_|refine zzb fun w hw => ?_|refine zzh fun _ => ?_|refine zzi fun _ _ => ?_|refine zzj (fun _ => ?_) fun _ => ?_)))))
      refine WL_callT (r := [ndB b6 8 aop af ag (N : Int) nums text]) zent rfl rfl rfl (fun W hS => ref_joinTokens (T ++ [tokK 7]) e.toks x4.1 x2.1 x4.2 x2.2 G4 W hS h4 (h2.mono (Rd.le_trans g3.1 g4.1)) (by simp; omega)) ?_
      intro x5 G5 h5 g5
      ((repeat' (first|refine zza ?_|refine zc9 ?_|refine zzb fun w hw => ?_|refine zzh fun _ => ?_|refine zzi fun _ _ => ?_|refine zzj (fun _ => ?_) fun _ => ?_)); (repeat' (refine CW_seq ?_; (repeat' (first|refine zza ?_|refine zc9 ?_|refine zzb fun w hw => ?_|refine zzh fun _ => ?_|refine zzi fun _ _ => ?_|refine zzj (fun _ => ?_) fun _ => ?_)))))
      exact EX_loop' (i + 1, ki + e.flat.length, G5, x5, T ++ [tokK 7] ++ e.toks) ⟨zcov, zent, by dsimp only; omega, by dsimp only; omega, hT2, hd2, by dsimp only; omega, h5, Rd.grow_tr hg (Rd.grow_tr g2 (Rd.grow_tr g3 (Rd.grow_tr g4 g5)))⟩
    · rw [if_neg h0] at hkd
      subst hkd
      ((repeat' (first|refine zza ?_|refine zc9 ?_|refine zzb fun w hw => ?_|refine zzh fun _ => ?_|refine zzi fun _ _ => ?_|refine zzj (fun _ => ?_) fun _ => ?_)); (repeat' (refine CW_seq ?_; (repeat' (first|refine zza ?_|refine zc9 ?_|refine zzb fun w hw => ?_|refine zzh fun _ => ?_|refine zzi fun _ _ => ?_|refine zzj (fun _ => ?_) fun _ => ?_)))))
      refine WL_callT (r := [ndB b6 8 aop af ag (N : Int) nums text]) zent rfl rfl rfl (hcall Gi hg) ?_
      intro x2 G2 h2 g2
      ((repeat' (first|refine zza ?_|refine zc9 ?_|refine zzb fun w hw => ?_|refine zzh fun _ => ?_|refine zzi fun _ _ => ?_|refine zzj (fun _ => ?_) fun _ => ?_)); (repeat' (refine CW_seq ?_; (repeat' (first|refine zza ?_|refine zc9 ?_|refine zzb fun w hw => ?_|refine zzh fun _ => ?_|refine zzi fun _ _ => ?_|refine zzj (fun _ => ?_) fun _ => ?_)))))
      refine WL_callT (r := [ndB b6 8 aop af ag (N : Int) nums text]) zent rfl rfl rfl (fun W hS => ref_sign1 9 G2 W hS) ?_
      intro x3 G3 h3 g3
      ((repeat' (first|refine zza ?_|refine zc9 ?_|refine zzb fun w hw => ?_|refine zzh fun _ => ?_|refine zzi fun _ _ => ?_|refine zzj (fun _ => ?_) fun _ => ?_)); (repeat' (refine CW_seq ?_; (repeat' (first|refine zza ?_|refine zc9 ?_|refine zzb fun w hw => ?_|refine zzh fun _ => ?_|refine zzi fun _ _ => ?_|refine zzj (fun _ => ?_) fun _ => ?_)))))
      refine WL_callT (r := [ndB b6 8 aop af ag (N : Int) nums text]) zent rfl rfl rfl (fun W hS => ref_joinTokens T [tokK 9] q x3.1 cq x3.2 G3 W hS (hr.mono (Rd.le_trans g2.1 g3.1)) h3 (by simp; omega)) ?_
      intro x4 G4 h4 g4
      ((repeat' (first|refine zza ?_|refine zc9 ?_|refine zzb fun w hw => ?_|refine zzh fun _ => ?_|refine zzi fun _ _ => ?_|refine zzj (fun _ => ?_) fun _ => ?_)); (repeat' (refine CW_seq ?_; (repeat' (first|refine zza ?_|refine zc9 ?_|refine zzb fun w hw => ?_|refine zzh fun _ => ?_|refine zzi fun _ _ => ?_|refine zzj (fun _ => ?_) fun _ => ?_)))))
      refine WL_callT (r := [ndB b6 8 aop af ag (N : Int) nums text]) zent rfl rfl rfl (fun W hS => ref_joinTokens (T ++ [tokK 9]) e.toks x4.1 x2.1 x4.2 x2.2 G4 W hS h4 (h2.mono (Rd.le_trans g3.1 g4.1)) (by simp; omega)) ?_
      intro x5 G5 h5 g5
      ((repeat' (first|refine zza ?_|refine zc9 ?_|refine zzb fun w hw => ?_|refine zzh fun _ => ?_|refine zzi fun _ _ => ?_|refine zzj (fun _ => ?_) fun _ => ?_)); (repeat' (refine CW_seq ?_; (repeat' (first|refine zza ?_|refine zc9 ?_|refine zzb fun w hw => ?_|refine zzh fun _ => ?_|refine zzi fun _ _ => ?_|refine zzj (fun _ => ?_) fun _ => ?_)))))
      exact EX_loop' (i + 1, ki + e.flat.length, G5, x5, T ++ [tokK 9] ++ e.toks) ⟨zcov, zent, by dsimp only; omega, by dsimp only; omega, hT2, hd2, by dsimp only; omega, h5, Rd.grow_tr hg (Rd.grow_tr g2 (Rd.grow_tr g3 (Rd.grow_tr g4 g5)))⟩
  · have hil : i = N := by omega
    have hS0 : semS es i = [] := by
      unfold semS
      rw [if_neg (by omega), if_pos (by omega)]
    rw [hS0, List.nil_append] at hT
    have hki : ki = k2 := by
      rw [List.drop_eq_nil_of_le (by omega)] at hke
      simpa [Exs.of, Exs.flat] using hke
    subst hki
    have hTl : T.length ≤ 700000000 := by
      have := congrArg List.length hT
      simp only [List.length_append] at this
      omega
    clear hb hok hd hR hB hS0
    ((repeat' (first|refine zza ?_|refine zc9 ?_|refine zzb fun w hw => ?_|refine zzh fun _ => ?_|refine zzi fun _ _ => ?_|refine zzj (fun _ => ?_) fun _ => ?_)); (repeat' (refine CW_seq ?_; (repeat' (first|refine zza ?_|refine zc9 ?_|refine zzb fun w hw => ?_|refine zzh fun _ => ?_|refine zzi fun _ _ => ?_|refine zzj (fun _ => ?_) fun _ => ?_)))))
    refine WL_callT (r := [ndB b6 8 aop af ag (N : Int) nums text]) zent rfl rfl rfl (fun W hS => ref_sign1 8 Gi W hS) ?_
    intro x4 G4 h4 g4
    ((repeat' (first|refine zza ?_|refine zc9 ?_|refine zzb fun w hw => ?_|refine zzh fun _ => ?_|refine zzi fun _ _ => ?_|refine zzj (fun _ => ?_) fun _ => ?_)); (repeat' (refine CW_seq ?_; (repeat' (first|refine zza ?_|refine zc9 ?_|refine zzb fun w hw => ?_|refine zzh fun _ => ?_|refine zzi fun _ _ => ?_|refine zzj (fun _ => ?_) fun _ => ?_)))))
    refine WL_callT (r := [ndB b6 8 aop af ag (N : Int) nums text]) zent rfl rfl rfl (fun W hS => ref_joinTokens T [tokK 8] q x4.1 cq x4.2 G4 W hS (hr.mono g4.1) h4 (by simp; omega)) ?_
    intro x5 G5 h5 g5
    ((repeat' (first|refine zza ?_|refine zc9 ?_|refine zzb fun w hw => ?_|refine zzh fun _ => ?_|refine zzi fun _ _ => ?_|refine zzj (fun _ => ?_) fun _ => ?_)); (repeat' (refine CW_seq ?_; (repeat' (first|refine zza ?_|refine zc9 ?_|refine zzb fun w hw => ?_|refine zzh fun _ => ?_|refine zzi fun _ _ => ?_|refine zzj (fun _ => ?_) fun _ => ?_)))))
    subst hT
    exact Tells.val (V := wrdV (T ++ [tokK 8]) ki) x5 (Rd.grow_tr g0 (Rd.grow_tr hg (Rd.grow_tr g4 g5))) hw h5
set_option maxHeartbeats 8000000 in
set_option maxRecDepth 100000 in
theorem words_pick (n : Nod) (o : Ex) (b : Exs) (ho : WordsC o) (hb : ∀ e ∈ b.list, WordsC e) : WordsC (.pick n o b) := by
  intro p c L k d rest G W hok hdr hL ht hR hB hS
  unfold Ex.ok at hok
  obtain ⟨⟨h1, h2, h3⟩, hook, hbok⟩ := hok
  have hfl : (Ex.pick n o b).flat.length = 1 + o.flat.length + b.flat.length := by rw [Ex.flat, List.length_cons, List.length_append]; omega
  rw [Ex.flat, List.cons_append, List.append_assoc] at hdr
  obtain ⟨x, hx, hxn, hk, hdr2⟩ := drop_cons_at hdr
  obtain ⟨op, aop, af, ag, nn, nums, text⟩ := x
  dsimp only [NodM.nod] at hxn
  subst hxn
  have hn := (right_pick h1 h2).2
  dsimp only at h2 h3 hn
  subst h2
  obtain ⟨N, rfl⟩ := Int.eq_ofNat_of_zero_le (show 0 ≤ nn by omega)
  rw [Int.toNat_natCast] at h3
  obtain ⟨n0, t0, hf0⟩ := o.flat_head
  have hch := comp_head hook hf0
  obtain ⟨y, hy, hyn, hk1, _⟩ := drop_cons_at (n := n0) (r := t0 ++ (b.flat ++ rest)) (by rw [hdr2, hf0]; rfl)
  have hyo : n0.op = y.op := by rw [← hyn]; rfl
  rw [hyo] at hch
  have hdl := congrArg List.length hdr2
  rw [List.length_drop, List.length_map, List.length_append, List.length_append] at hdl
  have htl : o.toks.length ≤ 700000000 := by
    rw [Ex.toks, List.length_append] at ht
    have : o.toks.length ≤ (closeT o.comp o.toks).length := by unfold closeT; split <;> simp; omega
    omega
  obtain ⟨es, rfl⟩ : ∃ es, b = Exs.of es := ⟨b.list, (Exs.of_list'' b).symm⟩
  rw [Exs.of_list] at hb
  rw [Exs.of_len] at h3
  refine words_enter hx hL hR hS ?_
  intro b6
  conv =>
    pattern (cP [1, 1] _)
    whnf
  have hmid := words_idx p c L (k + 1 + o.flat.length) d G G W (Rd.grow_refl _ _) aop af ag N nums text es hb (Exs.ok_mem hbok) h3 (by omega) rest (drop_app_at hdr2) hL (k + (Ex.pick ⟨8, aop, af, ag, (N : Int), nums.xs, text⟩ o (Exs.of es)).flat.length) (by rw [hfl]; omega) (by omega) hR hB b6 (closeT o.comp o.toks) (Ex.pick ⟨8, aop, af, ag, (N : Int), nums.xs, text⟩ o (Exs.of es)).toks (by rw [Ex.toks]) ht
  have hleft := fun (must : Bool) (hm : o.comp = must) => words_left p c L (k + 1) d G G W 8 aop af ag (N : Int) nums text b6 o ho hook _ hdr2 hL htl hR hB must (Ex.pick ⟨8, aop, af, ag, (N : Int), nums.xs, text⟩ o (Exs.of es)).toks (k + (Ex.pick ⟨8, aop, af, ag, (N : Int), nums.xs, text⟩ o (Exs.of es)).flat.length) (hm ▸ hmid)
  clear ho hb h1 h3 hbok hdr hdr2 hB hS ht hmid hook hf0 hdl htl hfl
  by_cases hy6 : y.op = 6
  · have key := hleft true (by rw [hch]; exact decide_eq_true (.inl hy6))
    clear hleft
    repeat' (first | exact CW_cov zcov (CW_ent zent key) | refine zza ?_)
    repeat' (refine CW_seq ?_; repeat' (first | exact CW_cov zcov (CW_ent zent key) | refine zza ?_))
  · have key := hleft (decide (y.op = 7)) (by rw [hch, decide_eq_decide]; omega)
    clear hleft
    repeat' (first | exact CW_cov zcov (CW_ent zent key) | refine zza ?_)
    repeat' (refine CW_seq ?_; repeat' (first | exact CW_cov zcov (CW_ent zent key) | refine zza ?_))
theorem words_leaf (n : Nod) : WordsC (.leaf n) := by
  intro p c L k d rest G W hok hdr hL ht hR hB hS
  have hkl : (Ex.leaf n).flat.length = 1 := rfl
  rw [hkl]
  obtain ⟨x, hx, hxn, hk, _⟩ := drop_cons_at hdr
  have hxB := hB x (List.mem_of_getElem? hx)
  obtain ⟨_, hop⟩ := hok
  obtain ⟨op, aop, af, ag, n', nums, text⟩ := x
  dsimp only [NodM.nod] at hxn
  subst hxn
  dsimp only at hop
  rcases hop with rfl | rfl | rfl | ⟨rfl | rfl, _⟩
  · have hT : (Ex.leaf ⟨1, aop, af, ag, n', nums.xs, text⟩).toks = nums.xs.map fun x => (⟨1, 0, x, [], 0⟩ : Tok) := by unfold Ex.toks; rw [if_pos rfl]
    rw [hT] at ht ⊢
    rw [List.length_map] at ht
    exact words_enter hx hL hR hS (words_nums p c L k G W aop af ag n' nums text (by omega) ht hxB.nums)
  · have hT : (Ex.leaf ⟨2, aop, af, ag, n', nums.xs, text⟩).toks = [⟨2, 0, 0, text, 0⟩] := by unfold Ex.toks; rw [if_neg (by simp), if_pos rfl]
    rw [hT]
    exact words_enter hx hL hR hS (words_text p c L k G W aop af ag n' nums text (by omega))
  · have hT : (Ex.leaf ⟨3, aop, af, ag, n', nums.xs, text⟩).toks = [⟨3, 0, 0, text, 0⟩] := by unfold Ex.toks; rw [if_neg (by simp), if_neg (by simp), if_pos rfl]
    rw [hT]
    exact words_enter hx hL hR hS (words_name p c L k G W aop af ag n' nums text (by omega))
  · have hT : (Ex.leaf ⟨4, aop, af, ag, n', nums.xs, text⟩).toks = [tokK 18] := by unfold Ex.toks; rw [if_neg (by simp), if_neg (by simp), if_neg (by simp), if_pos rfl]
    rw [hT]
    exact words_enter hx hL hR hS (words_alpha p c L k G W aop af ag n' nums text (by omega))
  · have hT : (Ex.leaf ⟨5, aop, af, ag, n', nums.xs, text⟩).toks = [tokK 19] := by unfold Ex.toks; rw [if_neg (by simp), if_neg (by simp), if_neg (by simp), if_neg (by simp)]
    rw [hT]
    exact words_enter hx hL hR hS (words_omega p c L k G W aop af ag n' nums text (by omega))
mutual
theorem words_ex : ∀ e : Ex, WordsC e
  | .leaf n => words_leaf n
  | .one n b r => words_one n b r (words_exs b) (words_ex r)
  | .two n l b r => words_two n l b r (words_ex l) (words_exs b) (words_ex r)
  | .pick n o b => words_pick n o b (words_ex o) (words_exs b)
theorem words_exs : ∀ b : Exs, ∀ e ∈ b.list, WordsC e
  | .nil, e, he => by simp [Exs.list] at he
  | .cons x r, e, he => by
    rw [Exs.list] at he
    rcases List.mem_cons.1 he with hx | he
    · rw [hx]
      exact words_ex x
    · exact words_exs r e he
end
end Go.Proofs.YtanbifmcnkhdhaaGreatDoor
