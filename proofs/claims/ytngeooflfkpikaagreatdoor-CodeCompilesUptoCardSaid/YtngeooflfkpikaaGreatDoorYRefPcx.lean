/-
  ravelinref4: pieceOf: functions of one and of two parts.
  ravelinref4: pieceOf: functions that stand between two parts.
  ravelinref4: pieceOf: indices.
-/
import Derived.Test.YtngeooflfkpikaaGreatDoorYGo
import Derived.Test.YtngeooflfkpikaaGreatDoorYRefPcs
namespace Go.Proofs.YtngeooflfkpikaaGreatDoor
open Go.RowKit
theorem drop_cons_p {L : List NodM} {k : Nat} {n : Nod} {r : List Nod} (h : (L.map NodM.nod).drop k = n :: r) : ∃ x, L[k]? = some x ∧ x.nod = n ∧ k < L.length ∧ (L.map NodM.nod).drop (k + 1) = r := by
  have hk : k < (L.map NodM.nod).length := by
    rcases Nat.lt_or_ge k (L.map NodM.nod).length with h' | h'
    · exact h'
    · rw [List.drop_eq_nil_of_le h'] at h; cases h
  have hk' : k < L.length := by simpa using hk
  have h2 := List.drop_eq_getElem_cons hk
  rw [h] at h2
  injection h2 with h3 h4
  refine ⟨L[k], by simp [hk'], ?_, hk', h4.symm⟩
  rw [h3, List.getElem_map]
theorem drop_app_p {l a r : List Nod} {k : Nat} (h : l.drop k = a ++ r) : l.drop (k + a.length) = r := by
  rw [← List.drop_drop, h, List.drop_left]
set_option maxHeartbeats 8000000 in
set_option maxRecDepth 100000 in
theorem pcs_r6 (p : Option Addr) (c : Nat) (L : List NodM) (k kr d : Nat) (G0 G : Rd) (W : World) (g0 : Rd.grow W G0 G) (aop af ag n : Int) (nums : SlV Int) (text : List UInt8) (b4 b5 : Nat) (r : Ex) (hr : PcsC r) (hrok : r.ok d) (rest : List Nod) (hdr : (L.map NodM.nod).drop kr = r.flat ++ rest) (hL : L.length ≤ 400) (hR : Row nodE 7 G p c L) (hB : ∀ x ∈ L, NodG G x) (body : Nat) (code : List Ins) (ws : List (Int × Int)) (hc : code = r.pcs ++ [actN ⟨6, aop, af, ag, n, nums.xs, text⟩ 1]) (hw : ws = wsE kr r ++ (if aop = 6 then [((body : Int), n)] else [])) :
    CW Tryz.prog ⟨152, [], W, []⟩ (QBody Tryz.prog Tryz.f23 (Tells (pcV ws) (PcR code ws) G0 W)) (cP [1, 1, 1, 1, 1, 1, 1, 1, 1, 1, 1, 1, 1] pcode) [(0, .slice p L.length c), (4, .pointer (some ⟨b4, 0, none⟩)), (5, .pointer (some ⟨b5, 0, none⟩)), (9, .int .i64 (k : Nat)), (10, .int .i64 (body : Nat)), (11, .int .i64 (kr : Nat))]
      [pnB b5 6 aop af ag n nums text, pcB b4 (.slice none 0 0) (.slice none 0 0), ro W [] G] := by
  conv =>
    pattern cP _ _
    whnf
  have hcall := fun (W' : World) hS => hr p c L kr d rest G W' hrok hdr hL hR hB hS
  have hdl := congrArg List.length hdr
  rw [List.length_drop, List.length_map, List.length_append] at hdl
  have hle := Ex.pcs_le r kr
  have hwl : (wsE kr r).length ≤ 400 := by unfold wsE; rw [List.length_map]; omega
  have hcl : r.pcs.length ≤ 400 := by omega
  clear hr hrok hdr hR hB hdl hle
  ((repeat' (first|refine zza ?_|refine zc9 ?_|refine zzb fun w hw => ?_|refine zzh fun _ => ?_|refine zzi fun _ _ => ?_|refine zzj (fun _ => ?_) fun _ => ?_)); (repeat' (refine CW_seq ?_; (repeat' (first|refine zza ?_|refine zc9 ?_|refine zzb fun w hw => ?_|refine zzh fun _ => ?_|refine zzi fun _ _ => ?_|refine zzj (fun _ => ?_) fun _ => ?_)))))
  refine WL_callT (r := [pnB b5 6 aop af ag n nums text, pcB b4 (.slice none 0 0) (.slice none 0 0)]) (Ent.cons zpk (Ent.cons zpk (Ent.cons zpk Ent.nil))) rfl rfl rfl hcall ?_
  intro x1 G1 h1 g1
  clear hcall
  have key := fun b13 => pcs_tail G0 G1 W (Rd.grow_tr g0 g1) 6 aop af ag n nums text b4 b5 b13 r.pcs (wsE kr r) x1 h1 hcl hwl 1 body code ws hc hw
  clear hc hw
  repeat' (first | exact CW_cov zcov (CW_ent (Ent.cons (.there (.there .here)) (Ent.cons (.there (.there .here)) (Ent.consK (k := Ent.cons .here Ent.nil) .here))) (key _)) | refine zza ?_ | refine zzh fun _ => ?_)
  repeat' (refine CW_seq ?_; repeat' (first | exact CW_cov zcov (CW_ent (Ent.cons (.there (.there .here)) (Ent.cons (.there (.there .here)) (Ent.consK (k := Ent.cons .here Ent.nil) .here))) (key _)) | refine zza ?_ | refine zzh fun _ => ?_))
set_option maxHeartbeats 8000000 in
set_option maxRecDepth 100000 in
theorem pcs_r7 (p : Option Addr) (c : Nat) (L : List NodM) (k kr d : Nat) (G0 G : Rd) (W : World) (g0 : Rd.grow W G0 G) (aop af ag n : Int) (nums : SlV Int) (text : List UInt8) (b4 b5 : Nat) (l r : Ex) (hl : PcsC l) (hr : PcsC r) (hlok : l.ok d) (hrok : r.ok d) (rest rest2 : List Nod) (hdl : (L.map NodM.nod).drop k = l.flat ++ rest2) (hdr : (L.map NodM.nod).drop kr = r.flat ++ rest) (hL : L.length ≤ 400) (hlen : l.flat.length + r.flat.length ≤ 400) (hR : Row nodE 7 G p c L) (hB : ∀ x ∈ L, NodG G x) (body : Nat) (code : List Ins) (ws : List (Int × Int)) (hc : code = (r.pcs ++ l.pcs) ++ [actN ⟨7, aop, af, ag, n, nums.xs, text⟩ 2]) (hw : ws = (wsE kr r ++ wsE k l) ++ (if aop = 6 then [((body : Int), n)] else [])) :
    CW Tryz.prog ⟨152, [], W, []⟩ (QBody Tryz.prog Tryz.f23 (Tells (pcV ws) (PcR code ws) G0 W)) (cP [1, 1, 1, 1, 1, 1, 1, 1, 1, 1, 1, 1, 1] pcode) [(0, .slice p L.length c), (4, .pointer (some ⟨b4, 0, none⟩)), (5, .pointer (some ⟨b5, 0, none⟩)), (9, .int .i64 (k : Nat)), (10, .int .i64 (body : Nat)), (11, .int .i64 (kr : Nat))]
      [pnB b5 7 aop af ag n nums text, pcB b4 (.slice none 0 0) (.slice none 0 0), ro W [] G] := by
  conv =>
    pattern cP _ _
    whnf
  have hcall := fun (W' : World) hS => hr p c L kr d rest G W' hrok hdr hL hR hB hS
  have hcalL := fun (G' : Rd) (hg : Rd.grow W G G') (W' : World) hS => hl p c L k d rest2 G' W' hlok hdl hL (hR.mono hg.1) (fun x hx => (hB x hx).mono hg.1) hS
  have hler := Ex.pcs_le r kr
  have hlel := Ex.pcs_le l k
  have hwr : (wsE kr r).length ≤ r.flat.length := by unfold wsE; rw [List.length_map]; exact hler.2
  have hwl : (wsE k l).length ≤ l.flat.length := by unfold wsE; rw [List.length_map]; exact hlel.2
  have hcr := hler.1
  have hcl := hlel.1
  clear hl hr hlok hrok hdr hdl hR hB hler hlel
  ((repeat' (first|refine zza ?_|refine zc9 ?_|refine zzb fun w hw => ?_|refine zzh fun _ => ?_|refine zzi fun _ _ => ?_|refine zzj (fun _ => ?_) fun _ => ?_)); (repeat' (refine CW_seq ?_; (repeat' (first|refine zza ?_|refine zc9 ?_|refine zzb fun w hw => ?_|refine zzh fun _ => ?_|refine zzi fun _ _ => ?_|refine zzj (fun _ => ?_) fun _ => ?_)))))
  refine WL_callT (r := [pnB b5 7 aop af ag n nums text, pcB b4 (.slice none 0 0) (.slice none 0 0)]) (Ent.cons zpk (Ent.cons zpk (Ent.cons zpk Ent.nil))) rfl rfl rfl hcall ?_
  intro x1 G1 h1 g1
  clear hcall
  (repeat' ((fail_if_success refine zc8 ?_); (first|refine zza ?_|refine zzb fun w hw => ?_|refine zzh fun _ => ?_|refine zzi fun _ _ => ?_|refine zzj (fun _ => ?_) fun _ => ?_)))
  rename_i b13
  refine CW_seq ?_
  (repeat' ((fail_if_success refine zc8 ?_); (first|refine zza ?_|refine zzb fun w hw => ?_|refine zzh fun _ => ?_|refine zzi fun _ _ => ?_|refine zzj (fun _ => ?_) fun _ => ?_)))
  refine CW_perm 5 [0, 1, 2, 3, 4] [pcB b13 (pvs x1 (wsE kr r)).1 (pvs x1 (wsE kr r)).2] [] zcov (pm := [ro W [] G1, pnB b5 7 aop af ag n nums text, pcB b4 (.slice none 0 0) (.slice none 0 0)]) (Ent.cons (.there .here) (Ent.cons (.there .here) (Ent.cons (.there .here) (Ent.consK (k := Ent.nil) .here)))) (by kernel_rfl) (by decide +kernel) (by kernel_rfl) ?_
  (refine WP_op rfl rfl rfl zyi ?_)
  (refine WP_op rfl rfl rfl zyi ?_)
  (refine WP_op rfl rfl rfl zyi ?_)
  refine WP_callT (r := [pnB b5 7 aop af ag n nums text, pcB b4 (.slice none 0 0) (.slice none 0 0), pcB b13 (pvs x1 (wsE kr r)).1 (pvs x1 (wsE kr r)).2]) rfl (Ent.cons (.there .here) (Ent.cons (.there .here) (Ent.cons (.there .here) (Ent.consK (k := Ent.nil) .here)))) (by decide +kernel) rfl rfl rfl (fun W' hS => hcalL G1 g1 W' hS) (fun G' _ => ⟨[ro W [] G', pnB b5 7 aop af ag n nums text, pcB b4 (.slice none 0 0) (.slice none 0 0)], Ent.refl⟩) ?_
  intro x3 G3 h3 g3
  refine WP_callT (r := [pnB b5 7 aop af ag n nums text, pcB b4 (.slice none 0 0) (.slice none 0 0), pcB b13 (pvs x1 (wsE kr r)).1 (pvs x1 (wsE kr r)).2]) rfl Ent.refl (by decide +kernel) rfl rfl rfl (fun W' hS => ref_joinPieces r.pcs l.pcs (wsE kr r) (wsE k l) x1 x3 G3 W' hS (h1.mono g3.1) h3 (by omega) (by omega)) (fun G' _ => ⟨[ro W [] G', pnB b5 7 aop af ag n nums text, pcB b4 (.slice none 0 0) (.slice none 0 0)], Ent.refl⟩) ?_
  intro x4 G4 h4 g4
  refine WP_end ?_
  have key := fun b13 => pcs_tail G0 G4 W (Rd.grow_tr g0 (Rd.grow_tr g1 (Rd.grow_tr g3 g4))) 7 aop af ag n nums text b4 b5 b13 (r.pcs ++ l.pcs) (wsE kr r ++ wsE k l) x4 h4 (by rw [List.length_append]; omega) (by rw [List.length_append]; omega) 2 body code ws hc hw
  clear hc hw hcalL
  repeat' (first | exact CW_cov zcov (CW_ent (Ent.cons (.there (.there .here)) (Ent.cons (.there (.there .here)) (Ent.consK (k := Ent.cons .here Ent.nil) .here))) (key _)) | refine zza ?_ | refine zzh fun _ => ?_)
set_option maxHeartbeats 8000000 in
set_option maxRecDepth 100000 in
theorem pcs_mid (p : Option Addr) (c : Nat) (L : List NodM) (k d : Nat) (G0 G : Rd) (W : World) (op aop af ag n : Int) (nums : SlV Int) (text : List UInt8) (b4 b5 : Nat) (b : Exs) (hbok : b.ok d) (hlen : b.len = if aop = 6 then 2 * n.toNat + 1 else 0) (hn : 0 ≤ n) (body : Nat) (rest : List Nod) (hdr : (L.map NodM.nod).drop body = b.flat ++ rest) (hL : L.length ≤ 400) (hbl : body ≤ L.length) (hR : Row nodE 7 G p c L) (hB : ∀ x ∈ L, NodG G x) (code : List Ins) (ws : List (Int × Int))
    (key : ∀ G', Rd.grow W G G' → CW Tryz.prog ⟨152, [], W, []⟩ (QBody Tryz.prog Tryz.f23 (Tells (pcV ws) (PcR code ws) G0 W)) (cP [1, 1, 1, 1, 1, 1, 1, 1, 1, 1, 1, 1, 1] pcode) [(0, .slice p L.length c), (4, .pointer (some ⟨b4, 0, none⟩)), (5, .pointer (some ⟨b5, 0, none⟩)), (9, .int .i64 (k : Nat)), (10, .int .i64 (body : Nat)), (11, .int .i64 ((body + b.flat.length : Nat) : Int))]
      [pnB b5 op aop af ag n nums text, pcB b4 (.slice none 0 0) (.slice none 0 0), ro W [] G']) :
    CW Tryz.prog ⟨152, [], W, []⟩ (QBody Tryz.prog Tryz.f23 (Tells (pcV ws) (PcR code ws) G0 W)) (cP [1, 1, 1, 1, 1, 1, 1, 1, 1, 1, 1, 1] pcode) [(0, .slice p L.length c), (4, .pointer (some ⟨b4, 0, none⟩)), (5, .pointer (some ⟨b5, 0, none⟩)), (9, .int .i64 (k : Nat)), (10, .int .i64 (body : Nat)), (11, .int .i64 (body : Nat))]
      [pnB b5 op aop af ag n nums text, pcB b4 (.slice none 0 0) (.slice none 0 0), ro W [] G] := by
  conv =>
    pattern (cP [1, 1, 1, 1, 1, 1, 1, 1, 1, 1, 1, 1] _)
    whnf
  obtain ⟨N, rfl⟩ := Int.eq_ofNat_of_zero_le hn
  by_cases h6 : aop = 6
  · rw [if_pos h6, Int.toNat_natCast] at hlen
    have hes := Exs.list_ok b d hbok
    rw [← Exs.list_len] at hlen
    rw [← Exs.list_flat] at hdr key
    generalize b.list = es at hes hlen hdr key
    have hN : N ≤ 400 := by
      have h1 := congrArg List.length hdr
      rw [List.length_drop, List.length_map, List.length_append] at h1
      have h2 := le_endL 0 es
      unfold endL at h2
      omega
    have hends := fun (W' : World) hS => ref_ends p c L es body d hes rest hdr hL hbl G W' hS hR hB (2 * (N : Int) + 1) (by omega)
    clear hdr hbok hes hR hB
    ((repeat' (first|refine zza ?_|refine zc9 ?_|refine zzb fun w hw => ?_|refine zzh fun _ => ?_|refine zzi fun _ _ => ?_|refine zzj (fun _ => ?_) fun _ => ?_)); (repeat' (refine CW_seq ?_; (repeat' (first|refine zza ?_|refine zc9 ?_|refine zzb fun w hw => ?_|refine zzh fun _ => ?_|refine zzi fun _ _ => ?_|refine zzj (fun _ => ?_) fun _ => ?_)))))
    refine WL_callT (r := [pnB b5 op aop af ag (N : Int) nums text, pcB b4 (.slice none 0 0) (.slice none 0 0)]) (Ent.cons zpk (Ent.cons zpk (Ent.cons zpk Ent.nil))) rfl rfl rfl hends ?_
    intro x1 G1 h1 g1
    have key := key G1 g1
    have hget : (posE body es)[es.length]? = some (((body + (es.flatMap Ex.flat).length : Nat) : Int)) := by
      unfold posE
      rw [List.getElem?_map, List.getElem?_append_right (by rw [posL_len]; omega), posL_len, Nat.sub_self]
      rfl
    clear hends
    ((repeat' (first|refine zza ?_|refine zc9 ?_|refine zzb fun w hw => ?_|refine zzh fun _ => ?_|refine zzi fun _ _ => ?_|refine zzj (fun _ => ?_) fun _ => ?_)); (repeat' (refine CW_seq ?_; (repeat' (first|refine zza ?_|refine zc9 ?_|refine zzb fun w hw => ?_|refine zzh fun _ => ?_|refine zzi fun _ _ => ?_|refine zzj (fun _ => ?_) fun _ => ?_)))))
    rw [show ((es.length + 1 : Nat) : Int) - 1 = ((es.length : Nat) : Int) by omega]
    refine WL_op rfl rfl (y_indexN (i := es.length) rfl rfl (Row.some_lt (i := es.length) h1 (by rw [posE_len]; omega)) (by omega)) ?_
    refine WL_op rfl rfl (y_load rfl (rd_row (enc := encI) h1 .here hget)) ?_
    repeat' (first | exact CW_cov zcov (CW_ent zent key) | refine zza ?_)
  · rw [if_neg h6] at hlen
    have hb0 : b.flat.length = 0 := by
      cases b with
      | nil => rfl
      | cons e r => simp [Exs.len] at hlen
    rw [hb0, Nat.add_zero] at key
    have key := key G (Rd.grow_refl _ _)
    clear hdr hbok hR hB
    refine CW_seq ?_
    repeat' (first | exact CW_cov zcov (CW_ent zent key) | refine zza ?_)
theorem wsE_one (k : Nat) (n : Nod) (b : Exs) (r : Ex) : wsE k (.one n b r) = wsE (k + 1 + b.flat.length) r ++ (if n.aop = 6 then [(((k + 1 : Nat) : Int), n.n)] else []) := by
  unfold wsE
  rw [Ex.waits, List.map_append]
  congr 1
  unfold actW
  split <;> rfl
theorem wsE_two (k : Nat) (n : Nod) (l : Ex) (b : Exs) (r : Ex) : wsE k (.two n l b r) = (wsE (k + 1 + l.flat.length + b.flat.length) r ++ wsE (k + 1) l) ++ (if n.aop = 6 then [(((k + 1 + l.flat.length : Nat) : Int), n.n)] else []) := by
  unfold wsE
  rw [Ex.waits, List.map_append, List.map_append, Ex.waits_o l _ 0, List.append_assoc]
  congr 2
  unfold actW
  split <;> rfl
set_option maxHeartbeats 8000000 in
set_option maxRecDepth 100000 in
theorem pcs_one (n : Nod) (b : Exs) (r : Ex) (hr : PcsC r) : PcsC (.one n b r) := by
  intro p c L k d rest G W hok hdr hL hR hB hS
  unfold Ex.ok at hok
  obtain ⟨⟨h1, h2, h3, _⟩, h5, h6⟩ := hok
  rw [Ex.flat, List.cons_append, List.append_assoc] at hdr
  obtain ⟨x, hx, hxn, hk, hdr2⟩ := drop_cons_p hdr
  obtain ⟨op, aop, af, ag, nn, nums, text⟩ := x
  dsimp only [NodM.nod] at hxn
  subst hxn
  have hn : 0 ≤ nn := right_n h1
  dsimp only at h2 h3
  subst h2
  refine pcs_enter hx hL hR hS ?_
  intro b4 b5
  conv =>
    pattern (cP [1, 1] _)
    whnf
  have key := pcs_mid p c L (k + 1) (d + 1) G G W 6 aop af ag nn nums text b4 b5 b h5 h3 hn (k + 1) _ hdr2 hL hk hR hB (Ex.one ⟨6, aop, af, ag, nn, nums.xs, text⟩ b r).pcs (wsE k (.one ⟨6, aop, af, ag, nn, nums.xs, text⟩ b r)) (fun G' hg => pcs_r6 p c L (k + 1) (k + 1 + b.flat.length) d G G' W hg aop af ag nn nums text b4 b5 r hr h6 rest (drop_app_p hdr2) hL (hR.mono hg.1) (fun x hx => (hB x hx).mono hg.1) (k + 1) _ _ (by rw [Ex.pcs]) (by rw [wsE_one]))
  clear hr h1 h3 h5 h6 hdr hdr2 hR hB hS
  repeat' (first | exact CW_cov zcov (CW_ent zent key) | refine zza ?_)
  repeat' (refine CW_seq ?_; repeat' (first | exact CW_cov zcov (CW_ent zent key) | refine zza ?_))
end Go.Proofs.YtngeooflfkpikaaGreatDoor
namespace Go.Proofs.YtngeooflfkpikaaGreatDoor
open Go.RowKit
set_option maxHeartbeats 8000000 in
set_option maxRecDepth 100000 in
theorem pcs_two (n : Nod) (l : Ex) (b : Exs) (r : Ex) (hl : PcsC l) (hr : PcsC r) : PcsC (.two n l b r) := by
  intro p c L k d rest G W hok hdr hL hR hB hS
  unfold Ex.ok at hok
  obtain ⟨⟨h1, h2, h3, _⟩, hlok, h5, h6⟩ := hok
  rw [Ex.flat, List.cons_append, List.append_assoc, List.append_assoc] at hdr
  obtain ⟨x, hx, hxn, hk, hdr2⟩ := drop_cons_p hdr
  obtain ⟨op, aop, af, ag, nn, nums, text⟩ := x
  dsimp only [NodM.nod] at hxn
  subst hxn
  have hn : 0 ≤ nn := right_n h1
  dsimp only at h2 h3
  subst h2
  have hdl := congrArg List.length hdr2
  rw [List.length_drop, List.length_map, List.length_append, List.length_append, List.length_append] at hdl
  have hnx := next_at hlok hdr2 (by rw [List.length_map]; omega)
  refine pcs_enter hx hL hR hS ?_
  intro b4 b5
  conv =>
    pattern (cP [1, 1] _)
    whnf
  have key := pcs_mid p c L (k + 1) (d + 1) G G W 7 aop af ag nn nums text b4 b5 b h5 h3 hn (k + 1 + l.flat.length) _ (drop_app_p hdr2) hL (by omega) hR hB (Ex.two ⟨7, aop, af, ag, nn, nums.xs, text⟩ l b r).pcs (wsE k (.two ⟨7, aop, af, ag, nn, nums.xs, text⟩ l b r)) (fun G' hg => pcs_r7 p c L (k + 1) (k + 1 + l.flat.length + b.flat.length) d G G' W hg aop af ag nn nums text b4 b5 l r hl hr hlok h6 rest _ hdr2 (drop_app_p (drop_app_p hdr2)) hL (by omega) (hR.mono hg.1) (fun x hx => (hB x hx).mono hg.1) (k + 1 + l.flat.length) _ _ (by rw [Ex.pcs, List.append_assoc]) (by rw [wsE_two]))
  have hcall : ∀ W' : World, Holds W [] [pnB b5 7 aop af ag nn nums text, pcB b4 (.slice none 0 0) (.slice none 0 0), ro W [] G] W' → Calls Tryz.prog 73 #[.slice p L.length c, .int .i64 ((k + 1 : Nat) : Int), .int .i64 1] W' fun e' w' => e' = .returned (.int .i64 ((k + 1 + l.flat.length : Nat) : Int)) ∧ Below W'.heap.size W' w' := fun W' hW' => by
    have := ref_Behind p c L hL (k + 1) 1 (by omega) (by decide) W' (hR.mono (hW'.le (.there (.there .here)))) (fun x hx => (hB x hx).mono (hW'.le (.there (.there .here))))
    rw [hnx] at this
    exact this
  clear hl hr h1 h3 h5 h6 hdr hdr2 hR hB hS hnx hlok
  repeat' (first | exact CW_cov zcov (CW_ent zent key) | refine zza ?_)
  repeat' (refine CW_seq ?_; repeat' (first | exact CW_cov zcov (CW_ent zent key) | refine zza ?_))
  (apply WL_callV; rfl; rfl; rfl; (intro W hW; exact hcall W hW))
  clear hcall
  repeat' (first | exact CW_cov zcov (CW_ent zent key) | refine zza ?_)
  repeat' (refine CW_seq ?_; repeat' (first | exact CW_cov zcov (CW_ent zent key) | refine zza ?_))
end Go.Proofs.YtngeooflfkpikaaGreatDoor
namespace Go.Proofs.YtngeooflfkpikaaGreatDoor
open Go.RowKit
/-- the pieces of expressions, the last one first -/
def pcsL : List Ex → List Ins
  | [] => []
  | e :: es => pcsL es ++ e.pcs
def wsL : Nat → List Ex → List (Int × Int)
  | _, [] => []
  | k, e :: es => wsL (k + e.flat.length) es ++ wsE k e
theorem pcsL_cons (e : Ex) (es : List Ex) : pcsL (e :: es) = pcsL es ++ e.pcs := rfl
theorem wsL_cons (k : Nat) (e : Ex) (es : List Ex) : wsL k (e :: es) = wsL (k + e.flat.length) es ++ wsE k e := rfl
theorem pcsL_list : ∀ b : Exs, pcsL b.list = b.pcsR
  | .nil => rfl
  | .cons e r => by rw [Exs.list, pcsL_cons, pcsL_list r, Exs.pcsR]
theorem wsL_list : ∀ (b : Exs) (k o : Nat), wsL k b.list = (b.waitsR o k).map fun w => ((w.pos : Int), w.n)
  | .nil, _, _ => rfl
  | .cons e r, k, o => by
    rw [Exs.list, wsL_cons, wsL_list r _ o, Exs.waitsR, List.map_append]
    congr 1
    exact Ex.waits_o e 0 _ k
theorem drop_cons_q {α : Type} {l : List α} {i : Nat} {x : α} (h : l[i]? = some x) : l.drop i = x :: l.drop (i + 1) := (List.getElem?_eq_some_iff.1 h).2 ▸ List.drop_eq_getElem_cons (List.getElem?_eq_some_iff.1 h).1
theorem pcs_pick_eq (n : Nod) (o : Ex) (b : Exs) : (Ex.pick n o b).pcs = pcsL (o :: b.list) ++ [pickI n.n] := by
  rw [Ex.pcs, pcsL_cons, pcsL_list, List.append_assoc]
theorem wsE_pick (k : Nat) (n : Nod) (o : Ex) (b : Exs) : wsE k (.pick n o b) = wsL (k + 1) (o :: b.list) := by
  rw [wsL_cons, wsL_list b _ 0]
  unfold wsE
  rw [Ex.waits, List.map_append]
  congr 1
  exact Ex.waits_o o _ 0 _
theorem wsL_drop {k : Nat} {es : List Ex} {i : Nat} {e : Ex} (he : es[i]? = some e) : wsL (endL k (es.take i)) (es.drop i) = wsL (endL k (es.take (i + 1))) (es.drop (i + 1)) ++ wsE (endL k (es.take i)) e := by
  rw [drop_cons_q he, wsL_cons]
  congr 1
  have htk : es.take (i + 1) = es.take i ++ [e] := by rw [List.take_add_one, he]; rfl
  rw [htk, endL_app]
  simp [endL]
theorem pcsL_drop {es : List Ex} {i : Nat} {e : Ex} (he : es[i]? = some e) : pcsL (es.drop i) = pcsL (es.drop (i + 1)) ++ e.pcs := by
  rw [drop_cons_q he, pcsL_cons]
theorem pcsL_le (es : List Ex) (k : Nat) : (pcsL es).length ≤ (es.flatMap Ex.flat).length ∧ (wsL k es).length ≤ (es.flatMap Ex.flat).length := by
  induction es generalizing k with
  | nil => exact ⟨Nat.le_refl _, Nat.le_refl _⟩
  | cons e es ih =>
    have h1 := Ex.pcs_le e k
    have h2 := ih (k + e.flat.length)
    have h3 : (wsE k e).length = (e.waits 0 k).length := by unfold wsE; rw [List.length_map]
    rw [pcsL_cons, wsL_cons, List.flatMap_cons, List.length_append, List.length_append, List.length_append]
    omega
end Go.Proofs.YtngeooflfkpikaaGreatDoor
