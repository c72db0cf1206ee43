/-
  ravelinref3: Words1: the words of any expression.
-/
import Derived.Test.YtanbifmcnkhdhaaGreatDoorGo
import Derived.Test.YtanbifmcnkhdhaaGreatDoorRefActed
namespace Go.Proofs.YtanbifmcnkhdhaaGreatDoor
open Go.RowKit

set_option maxHeartbeats 8000000 in
set_option maxRecDepth 100000 in
theorem ref_acted (p : Option Addr) (c : Nat) (L : List NodM) (k d : Nat) (G : Rd) (W : World) (op aop af ag n : Int) (nums : SlV Int) (text : List UInt8) (b : Exs) (hb : ∀ e ∈ b.list, WordsC e) (hok : b.ok d) (hlen : b.len = if aop = 6 then 2 * n.toNat + 1 else 0) (hn : 0 ≤ n) (rest : List Nod) (hdr : (L.map NodM.nod).drop k = b.flat ++ rest) (hL : L.length ≤ 400) (hk : k + b.flat.length ≤ 400) (hR : Row nodE 7 G p c L) (hB : ∀ x ∈ L, NodG G x) (hS : Rd.sub G [] W)
    (us : List Tok) (hus : us = funT ⟨op, aop, af, ag, n, nums.xs, text⟩ (b.bodyT false)) (hul : us.length ≤ 700000000) :
    Calls Tryz.prog 62 #[.slice p L.length c, .agg #[.int .i64 op, .int .i64 aop, .int .i64 af, .int .i64 ag, .int .i64 n, .slice nums.p nums.xs.length nums.c, .string ⟨text.toArray⟩], .int .i64 (k : Nat)] W (Tells (wrdV us (k + b.flat.length)) (TokR us) G W) := by
  obtain ⟨N, rfl⟩ := Int.eq_ofNat_of_zero_le hn
  obtain ⟨es, rfl⟩ : ∃ es, b = Exs.of es := ⟨b.list, (Exs.of_list'' b).symm⟩
  rw [Exs.of_list] at hb
  rw [Exs.of_len] at hlen
  refine enterR (args := [_, _, _]) (m := []) (F := []) hS rfl Tryz.func62 rfl Tryz.ntmps62 (by simp) ?_
  by_cases h6 : aop = 6
  · subst h6
    rw [if_pos rfl, Int.toNat_natCast] at hlen
    have hus' : us = tokK 14 :: ((Exs.of es).bodyT false ++ [tokK 15]) := by
      rw [hus]
      unfold funT
      rw [if_neg (by simp), if_neg (by simp), if_pos rfl]
    have key := fun b4 b8 => acted_dfn p c L k d G W op af ag N nums text es hb (Exs.ok_mem hok) hlen rest hdr hL hk hR hB b4 b8 us hus' hul
    clear hb hok hdr hR hB hus hus' hS
    repeat' (first | exact CW_cov zcov (CW_ent (Ent.cons (.there .here) (Ent.consK (k := Ent.cons .here Ent.nil) .here)) (key _ _)) | refine zza ?_ | refine zzh fun _ => ?_)
  · rw [if_neg h6] at hlen
    obtain rfl := List.eq_nil_of_length_eq_zero hlen
    have key := fun b4 b8 => acted_plain p c L k G W op aop af ag (N : Int) nums text h6 b4 b8 us hus
    clear hb hok hdr hR hB hus hS
    repeat' (first | exact CW_cov zcov (CW_ent (Ent.cons (.there .here) (Ent.consK (k := Ent.cons .here Ent.nil) .here)) (key _ _)) | refine zza ?_ | refine zzh fun _ => ?_)
theorem toks_ne {d : Nat} {e : Ex} (h : e.ok d) : ∃ t l, e.toks = t :: l := by
  have key : e.toks ≠ [] := by
    intro h0
    cases e with
    | leaf n =>
      have := first_leaf h []
      rw [h0] at this
      simp [termK, kindT] at this
    | one n b r =>
      rw [Ex.toks] at h0
      rcases fun_first (n := n) (b.bodyT false) (closeT (catchE n r) r.toks) with h1 | h1 | h1 | ⟨h1, _⟩ <;> rw [h0] at h1 <;> simp [kindT] at h1
    | two n l b r =>
      rw [Ex.toks] at h0
      unfold Ex.ok at h
      have := first_term l h.2.1 (funT n (b.bodyT false) ++ closeT (catchE n r) r.toks)
      rw [h0] at this
      simp [termK, kindT] at this
    | pick n o b =>
      rw [Ex.toks] at h0
      unfold Ex.ok at h
      have := first_term o h.2.1 (tokK 7 :: (b.semiT ++ [tokK 8]))
      rw [h0] at this
      simp [termK, kindT] at this
  cases he : e.toks with
  | nil => exact absurd he key
  | cons t l => exact ⟨t, l, rfl⟩
set_option maxHeartbeats 8000000 in
set_option maxRecDepth 100000 in
theorem words_end (G0 G : Rd) (W : World) (g0 : Rd.grow W G0 G) (op aop af ag n : Int) (nums : SlV Int) (text : List UInt8) (b6 : Nat) (out F R : List Tok) (q : Option Addr) (cq : Nat) (x1 x2 : Option Addr × Nat) (ho : Row tokE 5 G q cq out) (h1 : TokR F x1 G) (h2 : TokR R x2 G) (first : Bool) (z : Bool) (hz : z = decide (aop = 0)) (us : List Tok) (hus : us = (out ++ F) ++ closeT (z && first) R) (hul : us.length ≤ 700000000) (hRl : R.length ≤ 700000000) (k2 : Nat) :
    CW Tryz.prog ⟨181, [], W, []⟩ (QBody Tryz.prog Tryz.f33 (Tells (wrdV us k2) (TokR us) G0 W)) (cP [1, 1, 1, 1, 1, 1, 1, 1, 1, 1, 1, 1, 1, 1] wcode) [(6, .pointer (some ⟨b6, 0, none⟩)), (9, .slice q out.length cq), (17, .slice x1.1 F.length x1.2), (19, .slice x2.1 R.length x2.2), (20, .int .i64 (k2 : Nat)), (21, .bool first)]
      [ndB b6 op aop af ag n nums text, ro W [] G] := by
  conv =>
    pattern cP _ _
    whnf
  have hl0 : out.length + F.length ≤ 700000000 := by
    have := congrArg List.length hus
    simp only [List.length_append] at this
    omega
  refine CW_seq ?_
  refine CW_perm 15 [0, 1, 3, 4, 5, 6, 7, 13, 2, 8, 9, 10, 11, 12, 14] [ndB b6 op aop af ag n nums text] [] zcov (pm := [ro W [] G]) (Ent.cons (.there .here) (Ent.cons .here Ent.nil)) (by kernel_rfl) (by decide +kernel) (by kernel_rfl) ?_
  (refine WP_op rfl rfl rfl zyi ?_)
  (refine WP_op rfl rfl rfl zyi ?_)
  (refine WP_op rfl rfl rfl zyi ?_)
  (refine WP_op rfl rfl rfl zyi ?_)
  (refine WP_op rfl rfl rfl zyi ?_)
  (refine WP_op rfl rfl rfl zyi ?_)
  refine WP_op (v := .bool z) rfl rfl rfl (by rw [hz]; exact zyi) ?_
  (refine WP_op rfl rfl rfl zyi ?_)
  refine WP_callT (r := [ndB b6 op aop af ag n nums text]) rfl (Ent.cons (.there .here) (Ent.cons .here Ent.nil)) (by decide +kernel) rfl rfl rfl (fun W' hS => ref_joinTokens out F q x1.1 cq x1.2 G W' hS ho h1 (by omega)) (fun G' _ => ⟨[ro W [] G'], Ent.refl⟩) ?_
  intro x3 G3 h3 g3
  (refine WP_op rfl rfl rfl zyi ?_)
  clear hz
  cases z with
  | true =>
    (refine WP_op rfl rfl rfl zyi ?_)
    (refine WP_op rfl rfl rfl zyi ?_)
    have hU : us = (out ++ F) ++ closeT first R := hus
    have hUl := congrArg List.length hU
    simp only [List.length_append] at hUl
    have hOF : (out ++ F).length = out.length + F.length := List.length_append
    subst hU
    refine WP_callT (r := [ndB b6 op aop af ag n nums text]) rfl zent (by decide +kernel) rfl rfl rfl (fun W' hS => ref_bracketed R first x2.1 x2.2 G3 W' hS (h2.mono g3.1) (by omega)) (fun G' _ => ⟨[ro W [] G'], Ent.refl⟩) ?_
    intro x4 G4 h4 g4
    refine WP_callT (r := [ndB b6 op aop af ag n nums text]) rfl zent (by decide +kernel) rfl rfl rfl (fun W' hS => ref_joinTokens (out ++ F) (closeT first R) x3.1 x4.1 x3.2 x4.2 G4 W' hS (h3.mono g4.1) h4 (by omega)) (fun G' _ => ⟨[ro W [] G'], Ent.refl⟩) ?_
    intro x5 G5 h5 g5
    (refine WP_op rfl rfl rfl zyi ?_)
    refine WP_end ?_
    ((repeat' (first|refine zza ?_|refine zc9 ?_|refine zzb fun w hw => ?_|refine zzh fun _ => ?_|refine zzi fun _ _ => ?_|refine zzj (fun _ => ?_) fun _ => ?_)); (repeat' (refine CW_seq ?_; (repeat' (first|refine zza ?_|refine zc9 ?_|refine zzb fun w hw => ?_|refine zzh fun _ => ?_|refine zzi fun _ _ => ?_|refine zzj (fun _ => ?_) fun _ => ?_)))))
    exact Tells.val (V := wrdV ((out ++ F) ++ closeT first R) k2) x5 (Rd.grow_tr g0 (Rd.grow_tr g3 (Rd.grow_tr g4 g5))) hw h5
  | false =>
    refine WP_no rfl rfl rfl ?_
    (refine WP_op rfl rfl rfl zyi ?_)
    have hU : us = (out ++ F) ++ closeT false R := hus
    have hUl := congrArg List.length hU
    simp only [List.length_append] at hUl
    have hOF : (out ++ F).length = out.length + F.length := List.length_append
    subst hU
    refine WP_callT (r := [ndB b6 op aop af ag n nums text]) rfl zent (by decide +kernel) rfl rfl rfl (fun W' hS => ref_bracketed R false x2.1 x2.2 G3 W' hS (h2.mono g3.1) (by omega)) (fun G' _ => ⟨[ro W [] G'], Ent.refl⟩) ?_
    intro x4 G4 h4 g4
    refine WP_callT (r := [ndB b6 op aop af ag n nums text]) rfl zent (by decide +kernel) rfl rfl rfl (fun W' hS => ref_joinTokens (out ++ F) (closeT false R) x3.1 x4.1 x3.2 x4.2 G4 W' hS (h3.mono g4.1) h4 (by omega)) (fun G' _ => ⟨[ro W [] G'], Ent.refl⟩) ?_
    intro x5 G5 h5 g5
    (refine WP_op rfl rfl rfl zyi ?_)
    refine WP_end ?_
    ((repeat' (first|refine zza ?_|refine zc9 ?_|refine zzb fun w hw => ?_|refine zzh fun _ => ?_|refine zzi fun _ _ => ?_|refine zzj (fun _ => ?_) fun _ => ?_)); (repeat' (refine CW_seq ?_; (repeat' (first|refine zza ?_|refine zc9 ?_|refine zzb fun w hw => ?_|refine zzh fun _ => ?_|refine zzi fun _ _ => ?_|refine zzj (fun _ => ?_) fun _ => ?_)))))
    exact Tells.val (V := wrdV ((out ++ F) ++ closeT false R) k2) x5 (Rd.grow_tr g0 (Rd.grow_tr g3 (Rd.grow_tr g4 g5))) hw h5
set_option maxHeartbeats 8000000 in
set_option maxRecDepth 100000 in
theorem words_tail (p : Option Addr) (c : Nat) (L : List NodM) (ka d : Nat) (G0 G : Rd) (W : World) (g0 : Rd.grow W G0 G) (op aop af ag n : Int) (nums : SlV Int) (text : List UInt8) (b : Exs) (r : Ex) (hb : ∀ e ∈ b.list, WordsC e) (hr : WordsC r) (hbok : b.ok (d + 1)) (hrok : r.ok d) (hlen : b.len = if aop = 6 then 2 * n.toNat + 1 else 0) (hn : 0 ≤ n) (rest : List Nod) (hdr : (L.map NodM.nod).drop ka = b.flat ++ (r.flat ++ rest)) (hL : L.length ≤ 400) (hka : ka ≤ L.length) (hR : Row nodE 7 G p c L) (hB : ∀ x ∈ L, NodG G x)
    (b6 : Nat) (out : List Tok) (q : Option Addr) (cq : Nat) (ho : Row tokE 5 G q cq out) (us : List Tok) (hus : us = out ++ (funT ⟨op, aop, af, ag, n, nums.xs, text⟩ (b.bodyT false) ++ closeT (catchE ⟨op, aop, af, ag, n, nums.xs, text⟩ r) r.toks)) (hul : us.length ≤ 700000000) (k2 : Nat) (hk2 : k2 = ka + b.flat.length + r.flat.length) :
    CW Tryz.prog ⟨181, [], W, []⟩ (QBody Tryz.prog Tryz.f33 (Tells (wrdV us k2) (TokR us) G0 W)) (cP [1, 1, 1, 1, 1, 1, 1, 1, 1, 1, 1] wcode) [(0, .slice p L.length c), (1, .int .i64 (ka : Nat)), (6, .pointer (some ⟨b6, 0, none⟩)), (9, .slice q out.length cq)]
      [ndB b6 op aop af ag n nums text, ro W [] G] := by
  conv =>
    pattern cP _ _
    whnf
  have hdl := congrArg List.length hdr
  rw [List.length_drop, List.length_map, List.length_append, List.length_append] at hdl
  obtain ⟨F, hF⟩ : ∃ F, F = funT ⟨op, aop, af, ag, n, nums.xs, text⟩ (b.bodyT false) := ⟨_, rfl⟩
  obtain ⟨C, hC⟩ : ∃ C, C = closeT (catchE ⟨op, aop, af, ag, n, nums.xs, text⟩ r) r.toks := ⟨_, rfl⟩
  rw [← hF, ← hC] at hus
  have hul' := hul
  rw [hus, List.length_append, List.length_append] at hul'
  have hCl : r.toks.length ≤ C.length := by
    rw [hC]
    unfold closeT
    split
    · simp; omega
    · omega
  have hact := fun (W' : World) hS => ref_acted p c L ka (d + 1) G W' op aop af ag n nums text b hb hbok hlen hn _ hdr hL (by omega) hR hB hS F hF (by omega)
  have hwd : ∀ G', Rd.grow W G G' → ∀ W', Rd.sub G' [] W' → Calls Tryz.prog 33 #[.slice p L.length c, .int .i64 ((ka + b.flat.length : Nat) : Int)] W' (Tells (wrdV r.toks (ka + b.flat.length + r.flat.length)) (TokR r.toks) G' W') := fun G' hg W' hS => hr p c L _ d rest G' W' hrok (drop_app_at hdr) hL (by omega) (hR.mono hg.1) (fun x hx => (hB x hx).mono hg.1) hS
  rw [← hk2] at hwd
  have hcf := catch_first (n := ⟨op, aop, af, ag, n, nums.xs, text⟩) hrok
  obtain ⟨t0, tl, ht0⟩ := toks_ne hrok
  have hk400 : k2 ≤ 400 := by omega
  have hk1 : ka + b.flat.length ≤ 400 := by omega
  clear hb hr hbok hrok hlen hdr hR hB hdl hF
  rw [hcf] at hC
  clear hcf
  dsimp only at hC
  obtain ⟨R, hRR⟩ : ∃ R, R = r.toks := ⟨_, rfl⟩
  rw [← hRR] at hC hCl hwd ht0
  have hR0 : R[0]? = some t0 := by rw [ht0]; rfl
  have hRp : 0 < R.length := by rw [ht0]; simp
  have hfg : firstG R = decide (t0.kind = 4 ∧ (t0.fn = 33 ∨ t0.fn = 34)) := by rw [ht0]; rfl
  rw [hfg] at hC
  clear hfg ht0 hRR hul hk2
  generalize ka + b.flat.length = k1 at *
  ((repeat' (first|refine zza ?_|refine zc9 ?_|refine zzb fun w hw => ?_|refine zzh fun _ => ?_|refine zzi fun _ _ => ?_|refine zzj (fun _ => ?_) fun _ => ?_)); (repeat' (refine CW_seq ?_; (repeat' (first|refine zza ?_|refine zc9 ?_|refine zzb fun w hw => ?_|refine zzh fun _ => ?_|refine zzi fun _ _ => ?_|refine zzj (fun _ => ?_) fun _ => ?_)))))
  refine WL_callT (r := [ndB b6 op aop af ag n nums text]) (Ent.cons zpk (Ent.cons zpk Ent.nil)) rfl rfl rfl hact ?_
  intro x1 G1 h1 g1
  clear hact
  ((repeat' (first|refine zza ?_|refine zc9 ?_|refine zzb fun w hw => ?_|refine zzh fun _ => ?_|refine zzi fun _ _ => ?_|refine zzj (fun _ => ?_) fun _ => ?_)); (repeat' (refine CW_seq ?_; (repeat' (first|refine zza ?_|refine zc9 ?_|refine zzb fun w hw => ?_|refine zzh fun _ => ?_|refine zzi fun _ _ => ?_|refine zzj (fun _ => ?_) fun _ => ?_)))))
  refine WL_callT (r := [ndB b6 op aop af ag n nums text]) zent rfl rfl rfl (hwd G1 g1) ?_
  intro x2 G2 h2 g2
  clear hwd
  have hend := words_end G0 G2 W (Rd.grow_tr g0 (Rd.grow_tr g1 g2)) op aop af ag n nums text b6 out F R q cq x1 x2 (ho.mono (Rd.le_trans g1.1 g2.1)) (h1.mono g2.1) h2 (decide (t0.kind = 4 ∧ (t0.fn = 33 ∨ t0.fn = 34))) (decide (aop = 0)) rfl us (by rw [hus, hC, List.append_assoc]) (by rw [hus, List.length_append, List.length_append]; omega) (by omega) k2
  clear hC hus hul' ho h1
  by_cases hk4 : t0.kind = 4
  · by_cases h33 : t0.fn = 33
    · rw [decide_eq_true (show t0.kind = 4 ∧ (t0.fn = 33 ∨ t0.fn = 34) from ⟨hk4, .inl h33⟩)] at hend
      repeat' (first | exact CW_cov zcov (CW_ent zent hend) | refine zza ?_)
    · have hd : decide (t0.kind = 4 ∧ (t0.fn = 33 ∨ t0.fn = 34)) = decide (t0.fn = 34) := by rw [decide_eq_decide]; omega
      rw [hd] at hend
      clear hd
      repeat' (first | exact CW_cov zcov (CW_ent zent hend) | refine zza ?_)
  · rw [decide_eq_false (show ¬ (t0.kind = 4 ∧ (t0.fn = 33 ∨ t0.fn = 34)) from fun h => hk4 h.1)] at hend
    repeat' (first | exact CW_cov zcov (CW_ent zent hend) | refine zza ?_)
end Go.Proofs.YtanbifmcnkhdhaaGreatDoor
